/- Joined: HeapDoes, HeapLaws, MarkAt, MarkShade, MarkClo, MarkMade, MarkDel, MarkStep, MarkEnd, MarkBegin. -/
import Derived.Test.YtcaboknbdamlhaaGreatDoorHeapAlive
import Derived.Test.YtcaboknbdamlhaaGreatDoorSlices
import Derived.Test.YtcaboknbdamlhaaGreatDoorBitAt
import Derived.Test.YtcaboknbdamlhaaGreatDoorBitPut
import Derived.Test.YtcaboknbdamlhaaGreatDoorDelete
import Derived.Test.YtcaboknbdamlhaaGreatDoorRoundKit
import Derived.Deep.RegionLaw
import Derived.Lib.SliceRun
import Derived.Lib.SlicesDelete
set_option linter.unusedVariables false
set_option linter.unusedSimpArgs false
namespace Go.Proofs.YtcaboknbdamlhaaGreatDoor
open Go.RowKit Go.Shelf

/-- A slice whose elements have k cells each reads as a list. -/
def RdC {α : Type} (k : Nat) (enc : α → List Value) (w : World) (v : Value) (xs : List α) : Prop :=
  ∃ A c, v = .slice A xs.length c ∧ (xs.length ≤ c ∧ c ≤ maxLen ∧ (A = none → c = 0)) ∧
    (0 < xs.length → ∃ b o, A = some ⟨b, o, none⟩ ∧ b < w.heap.size ∧ ∀ i (h : i < xs.length) j u, (enc xs[i])[j]? = some u → w.cell? ⟨b, o + i * k + j, none⟩ = some u)
section
variable {α : Type} {k : Nat} {enc : α → List Value} {w w' : World} {v : Value} {xs : List α}
theorem RdC.keep (h : RdC k enc w v xs) (hs : w.heap.size ≤ w'.heap.size) (hb : ∀ b, v.ownBlock = some b → b < w.heap.size → w'.heap[b]? = w.heap[b]?) : RdC k enc w' v xs := by
  obtain ⟨A, c, rfl, h1, h3⟩ := h
  refine ⟨A, c, rfl, h1, fun hp => ?_⟩
  obtain ⟨b, o, rfl, hlt, hc⟩ := h3 hp
  refine ⟨b, o, rfl, by omega, fun i hi j u hu => ?_⟩
  rw [← hc i hi j u hu]
  exact World.cell?_of_block (hb b rfl hlt)
theorem RdC.below (h : RdC k enc w v xs) (hb : Below w.heap.size w w') : RdC k enc w' v xs := h.keep hb.size fun b _ hlt => hb.block b hlt
theorem RdC.len (h : RdC k enc w v xs) : ∃ A c, v = .slice A xs.length c ∧ xs.length ≤ c ∧ c ≤ maxLen ∧ (A = none → c = 0) := by
  obtain ⟨A, c, h0, h1, _⟩ := h
  exact ⟨A, c, h0, h1⟩
theorem RdC.at_ {A : Option Addr} {n c : Nat} (h : RdC k enc w (.slice A n c) xs) {i : Nat} (hi : i < xs.length) : ∃ b o, A = some ⟨b, o, none⟩ ∧ b < w.heap.size ∧ ∀ j u, (enc xs[i])[j]? = some u → w.cell? ⟨b, o + i * k + j, none⟩ = some u := by
  obtain ⟨A', c', he, _, h3⟩ := h
  injection he with e1 e2 e3
  subst e1
  obtain ⟨b, o, rfl, hlt, hc⟩ := h3 (by omega)
  exact ⟨b, o, rfl, hlt, fun j u => hc i hi j u⟩
end
structure HAct where
  kind : Int
  n : Int
  mask : Int
  obj : Bool
  p : Int
  f : Int
  x : Int
def hactC (a : HAct) : List Value := [.int .u8 a.kind, .int .i64 a.n, .int .u8 a.mask, .bool a.obj, .int .i64 a.p, .int .i64 a.f, .int .i64 a.x]
structure HActOk (a : HAct) : Prop where
  kind : 0 ≤ a.kind ∧ a.kind ≤ 255
  n : -9223372036854775808 ≤ a.n ∧ a.n ≤ 9223372036854775807
  mask : 0 ≤ a.mask ∧ a.mask ≤ 255
  p : -9223372036854775808 ≤ a.p ∧ a.p ≤ 9223372036854775807
  f : -9223372036854775808 ≤ a.f ∧ a.f ≤ 9223372036854775807
  x : -9223372036854775808 ≤ a.x ∧ a.x ≤ 9223372036854775807
def sSpot (S : HS) (a : HAct) : Int := if a.obj = true ∧ 0 < S.objs.length then (sAll S).getD ((if a.p < 0 then 0 else a.p.toNat) % S.objs.length) 0 else a.p
def sDoes (S : HS) (a : HAct) : HS :=
  if a.kind % 8 = 3 then (sFree S (sSpot S a) a.x).1 else if a.kind % 8 = 4 then sClear S (sSpot S a) else if a.kind % 8 = 5 then S
  else if a.kind % 8 = 6 then sStore S (sSpot S a) a.f a.x else if a.kind % 8 = 7 then sStore S (sSpot S a) a.f a.x else (sAlloc S a.n a.mask a.x).1
theorem does_inv {S : HS} (I : Inv S) {a : HAct} (ha : HActOk a) : Inv (sDoes S a) := by
  unfold sDoes
  split
  · exact free_inv I _ ha.x
  split
  · exact clear_inv I _
  split
  · exact I
  split
  · exact store_inv I _ _ ha.x
  split
  · exact store_inv I _ _ ha.x
  · exact alloc_inv I ha.mask.1 ha.mask.2 ha.x
theorem all_bd {S : HS} (I : Inv0 S) {i : Nat} (hi : i < S.objs.length) : 1 ≤ (sAll S).getD i 0 ∧ (sAll S).getD i 0 ≤ 4096 := by
  have hl : i < (sAll S).length := by simpa [sAll] using hi
  rw [show (sAll S).getD i 0 = (sAll S)[i] by simp [List.getD, List.getElem?_eq_getElem hl]]
  obtain ⟨o, ho, e⟩ := List.mem_map.1 (List.getElem_mem hl)
  obtain ⟨_, _, _, _, h1, h2, _⟩ := I.ob o ho
  have := I.n2
  show 1 ≤ (sAll S)[i] ∧ (sAll S)[i] ≤ 4096
  have e' : (sAll S)[i] = o.1 := e.symm
  omega
theorem spot_bd {S : HS} (I : Inv0 S) {a : HAct} (ha : HActOk a) : -9223372036854775808 ≤ sSpot S a ∧ sSpot S a ≤ 9223372036854775807 := by
  unfold sSpot
  split
  · next h =>
    have := all_bd I (Nat.mod_lt (if a.p < 0 then 0 else a.p.toNat) h.2)
    omega
  · exact ha.p
/-- What does comes to, whichever word it is. -/
def Did (h : Nat) (S : HS) (F : Nat → Prop) (w : World) (e : Ending) (w' : World) : Prop := e = .returned (.tuple #[]) ∧ ∃ F', HpAt w' h S F' ∧ Step F w w' F'
end Go.Proofs.YtcaboknbdamlhaaGreatDoor
namespace Go.Proofs.YtcaboknbdamlhaaGreatDoor

theorem fillW_get (xs : List Int) (p : Nat) (x : Int) (i : Nat) : ∀ k, (fillW xs p x k).getD i 0 = if p ≤ i ∧ i < p + k ∧ i < xs.length then x else xs.getD i 0
  | 0 => by rw [if_neg (by omega)]; rfl
  | k + 1 => by
    have ih := fillW_get xs p x i k
    show ((fillW xs p x k).set (p + k) x).getD i 0 = _
    simp only [List.getD, List.getElem?_set] at ih ⊢
    by_cases e : p + k = i
    · rw [if_pos e]
      by_cases hl : i < xs.length
      · rw [if_pos (by rw [fillW_len]; omega), if_pos (by omega)]; rfl
      · rw [if_neg (by rw [fillW_len]; omega), if_neg (by omega)]
        simp [List.getElem?_eq_none (Nat.le_of_not_lt hl)]
    · rw [if_neg e, ih]
      by_cases h : p ≤ i ∧ i < p + k ∧ i < xs.length
      · rw [if_pos h, if_pos (by omega)]
      · rw [if_neg h, if_neg (by omega)]
/-- What Alloc has made. -/
structure Alloced (S S' : HS) (n mask junk p : Int) : Prop where
  inv : Inv S'
  objs : S'.objs = insO (p, n, mask) S.objs
  no : ∀ o ∈ S.objs, o.1 ≠ p
  words : S'.words = fillW S.words p.toNat junk (wordsOf (classOf n)).toNat
  sits : Sits S'.n S'.cls p (classOf n)
  n : S'.n = S.n
theorem sRoom_n (S : HS) (c : Nat) : (sRoom S c).n = S.n := by
  unfold sRoom
  split <;> rfl
theorem alloc_some {S : HS} (I : Inv S) {n mask junk : Int} (h1 : 1 ≤ n) (h6 : n ≤ 6) (hm0 : 0 ≤ mask) (hm : mask ≤ 255) (hmk : mask / 2 ^ n.toNat = 0) (hj : -9223372036854775808 ≤ junk ∧ junk ≤ 9223372036854775807) (hf : sFits S n = true) :
    ∃ S' p, sAlloc S n mask junk = (S', p, 0) ∧ Alloced S S' n mask junk p := by
  have IA := alloc_inv I (n := n) hm0 hm hj
  have e : sAlloc S n mask junk = (sTake (sRoom S (classNat n)) (classNat n) n mask junk, lastOf ((sRoom S (classNat n)).free (classNat n)), 0) := by
    unfold sAlloc
    rw [if_neg (by omega), if_neg (by rw [hf]; simp)]
  obtain ⟨r1, r2, r3, r4, r5, r6⟩ := room_inv I hf
  obtain ⟨e1, hc⟩ := classNat_eq h1 h6
  obtain ⟨t1, t2, t3⟩ := take_inv (mask := mask) (junk := junk) r1 hc r2 h1 h6 e1 hm0 hm hj
  rw [e] at IA ⊢
  refine ⟨_, _, rfl, IA, ?_, ?_, ?_, ?_, ?_⟩
  · show insO _ (sRoom S (classNat n)).objs = _
    rw [r3]
  · rw [← r3]; exact t3
  · show fillW (sRoom S (classNat n)).words _ _ _ = _
    rw [r5, e1]
  · rw [e1]; exact t2
  · exact r4
theorem alloc_none {S : HS} {n mask junk : Int} (h1 : 1 ≤ n) (h6 : n ≤ 6) (hmk : mask / 2 ^ n.toNat = 0) (hf : sFits S n = false) : sAlloc S n mask junk = (S, 0, 6) := by
  unfold sAlloc
  rw [if_neg (by omega), if_pos hf]
section
variable {S : HS}
theorem Inv0.there_in (I : Inv0 S) {o : Int × Int × Int} (ho : o ∈ S.objs) {f : Int} (h0 : 0 ≤ f) (h1 : f < o.2.1) : sThere S o.1 f = 0 := by
  unfold sThere
  rw [I.size ho, if_neg]
  simp
  omega
theorem Inv0.there_out (I : Inv0 S) {o : Int × Int × Int} (ho : o ∈ S.objs) {f : Int} (h : f < 0 ∨ o.2.1 ≤ f) : sThere S o.1 f = 11 := by
  unfold sThere
  rw [I.size ho, if_pos (.inr h)]
theorem Inv0.load_in (I : Inv0 S) {o : Int × Int × Int} (ho : o ∈ S.objs) {f : Int} (h0 : 0 ≤ f) (h1 : f < o.2.1) : sLoad S o.1 f = (S.words.getD (o.1 + f).toNat 0, 0) := by
  unfold sLoad
  rw [I.there_in ho h0 h1, if_pos rfl]
theorem Inv0.load_out (I : Inv0 S) {o : Int × Int × Int} (ho : o ∈ S.objs) {f : Int} (h : f < 0 ∨ o.2.1 ≤ f) : sLoad S o.1 f = (0, 11) := by
  unfold sLoad
  rw [I.there_out ho h, if_neg (by decide)]
/-- An object's words lie in its block, and the heap. -/
theorem Inv0.word_in (I : Inv0 S) {o : Int × Int × Int} (ho : o ∈ S.objs) {f : Int} (h0 : 0 ≤ f) (h1 : f < o.2.1) : f < wordsOf (classOf o.2.1) ∧ (o.1 + f).toNat < S.words.length ∧ 1 ≤ o.1 := by
  obtain ⟨a1, a2, a3, a4, a5⟩ := I.ob o ho
  have h2 := a5.ends.2
  have h3 := a5.1
  have h4 := (class_ge a1 a2).2.2
  have h5 := I.wl
  omega
theorem Alloced.mem {S' : HS} {n mask junk p : Int} (A : Alloced S S' n mask junk p) : (p, n, mask) ∈ S'.objs := by rw [A.objs, ins_mem]; exact .inl rfl
theorem Alloced.load (I : Inv0 S) {S' : HS} {n mask junk p : Int} (A : Alloced S S' n mask junk p) {f : Int} (h0 : 0 ≤ f) (h1 : f < n) : sLoad S' p f = (junk, 0) := by
  have h := A.inv.load_in A.mem h0 h1
  obtain ⟨b1, b2, b3⟩ := A.inv.word_in A.mem h0 h1
  dsimp only at h b1 b2 b3
  rw [h, A.words, fillW_get, if_pos]
  rw [A.words, fillW_len] at b2
  have := A.sits.1
  omega
/-- What is cleared is nought. -/
theorem clear_load (I : Inv S) {o : Int × Int × Int} (ho : o ∈ S.objs) {f : Int} (h0 : 0 ≤ f) (h1 : f < o.2.1) : sLoad (sClear S o.1) o.1 f = (0, 0) := by
  have IC := clear_inv I o.1
  obtain ⟨a1, a2, a3, a4, a5⟩ := I.ob o ho
  have e : sClear S o.1 = { S with words := fillW S.words o.1.toNat 0 o.2.1.toNat } := by
    unfold sClear
    rw [I.there_in ho (Int.le_refl 0) (by omega), if_pos rfl, I.size ho]
  have ho' : o ∈ (sClear S o.1).objs := by rw [e]; exact ho
  have h := IC.load_in ho' h0 h1
  obtain ⟨b1, b2, b3⟩ := I.word_in ho h0 h1
  rw [h, e]
  show ((fillW S.words o.1.toNat 0 o.2.1.toNat).getD _ 0, (0 : Int)) = _
  rw [fillW_get, if_pos (by omega)]
theorem clear_objs (S : HS) (p : Int) : (sClear S p).objs = S.objs := by
  unfold sClear
  split <;> rfl
theorem store_objs (S : HS) (p f x : Int) : (sStore S p f x).objs = S.objs := by
  unfold sStore
  split <;> rfl
theorem all_len (S : HS) : (sAll S).length = S.objs.length := by simp [sAll]
theorem Alloced.all_len {S' : HS} {n mask junk p : Int} (A : Alloced S S' n mask junk p) : (sAll S').length = (sAll S).length + 1 := by
  rw [YtcaboknbdamlhaaGreatDoor.all_len, YtcaboknbdamlhaaGreatDoor.all_len, A.objs, ins_len]
theorem fits_same {k : Int} (h2 : 2 ≤ k) (h6 : k ≤ 6) (hc : classOf k = classOf (k - 1)) : sFits S k = sFits S (k - 1) := by
  unfold sFits classNat
  rw [hc]
  simp [show 1 ≤ k by omega, show 1 ≤ k - 1 by omega, show k - 1 ≤ 6 by omega, h6]
theorem all_mem {i : Nat} (hi : i < S.objs.length) : ∃ o ∈ S.objs, o.1 = (sAll S).getD i 0 := by
  have hl : i < (sAll S).length := by simpa [sAll] using hi
  rw [show (sAll S).getD i 0 = (sAll S)[i] by simp [List.getD, List.getElem?_eq_getElem hl]]
  obtain ⟨o, ho, e⟩ := List.mem_map.1 (List.getElem_mem hl)
  exact ⟨o, ho, e⟩
theorem free_ok (I : Inv0 S) {o : Int × Int × Int} (ho : o ∈ S.objs) (junk : Int) : (sFree S o.1 junk).2 = 0 ∧ (sFree S o.1 junk).1.n = S.n ∧ (sFree S o.1 junk).1.objs = S.objs.filter (fun x => !(x.1 == o.1)) := by
  have h0 := I.there_in ho (Int.le_refl 0) (by have := I.ob o ho; omega)
  unfold sFree
  rw [h0, if_neg (by decide)]
  split
  · exact ⟨rfl, rfl, rfl⟩
  · exact ⟨rfl, rfl, rfl⟩
theorem filter_len {l : List (Int × Int × Int)} (hs : l.Pairwise fun a b => a.1 < b.1) {o : Int × Int × Int} (ho : o ∈ l) : (l.filter (fun x => !(x.1 == o.1))).length + 1 = l.length := by
  induction l with
  | nil => cases ho
  | cons x l ih =>
    rw [List.pairwise_cons] at hs
    rcases List.mem_cons.1 ho with rfl | h
    · have hf : (l.filter (fun x => !(x.1 == o.1))) = l := by
        rw [List.filter_eq_self]
        intro y hy
        have := hs.1 y hy
        have h2 : y.1 ≠ o.1 := by omega
        simpa using h2
      rw [List.filter_cons_of_neg (by simp), hf]
      rfl
    · have := hs.1 o h
      rw [List.filter_cons_of_pos (by simp; omega)]
      simp only [List.length_cons]
      rw [ih hs.2 h]
/-- How many objects lie in a span. -/
def inSpan (S : HS) (s : Int) : Nat := ((sAll S).filter fun p => spanOf p == s).length
/-- A block that was freed last is taken first. -/
theorem last_first (I : Inv S) {o : Int × Int × Int} (ho : o ∈ S.objs) (h2 : 2 ≤ inSpan S (spanOf o.1)) : (sAlloc (sFree S o.1 1).1 o.2.1 0 2).2 = (o.1, 0) ∧ (sAll (sAlloc (sFree S o.1 1).1 o.2.1 0 2).1).length = (sAll S).length := by
  obtain ⟨a1, a2, a3, a4, a5⟩ := I.ob o ho
  have h0 := I.there_in ho (Int.le_refl 0) (by omega)
  have hany : (sLess S o.1 1).objs.any (fun x => spanOf x.1 == spanOf o.1) = true := by
    rw [List.any_eq_true]
    apply Classical.byContradiction
    intro hno
    have hall : ∀ x ∈ S.objs, x.1 ≠ o.1 → spanOf x.1 ≠ spanOf o.1 := fun x hx hne e => hno ⟨x, by
      show x ∈ S.objs.filter (fun x => !(x.1 == o.1))
      rw [List.mem_filter]
      exact ⟨hx, by simpa using hne⟩, by simpa using e⟩
    have h1 : inSpan S (spanOf o.1) ≤ ((sAll S).filter fun p => p == o.1).length := by
      unfold inSpan
      rw [show ((sAll S).filter fun p => spanOf p == spanOf o.1) = (sAll S).filter fun p => p == o.1 from List.filter_congr fun p hp => by
        obtain ⟨x, hx, rfl⟩ := List.mem_map.1 hp
        by_cases e : x.1 = o.1
        · show (spanOf x.1 == spanOf o.1) = (x.1 == o.1)
          rw [e]; simp
        · show (spanOf x.1 == spanOf o.1) = (x.1 == o.1)
          rw [beq_eq_false_iff_ne.2 (hall x hx e), beq_eq_false_iff_ne.2 e]]
      exact Nat.le_refl _
    have h3 : ((sAll S).filter fun p => p == o.1).length ≤ 1 := by
      have hnd : (sAll S).Nodup := by
        unfold sAll List.Nodup
        rw [List.pairwise_map]
        exact I.os.imp fun h => by omega
      have h4 : ((sAll S).filter fun p => p == o.1).Nodup := hnd.filter _
      match hh : (sAll S).filter (fun p => p == o.1), h4 with
      | [], _ => simp
      | [_], _ => simp
      | x :: y :: l, h4 =>
        rw [List.nodup_cons] at h4
        have hx := (List.mem_filter.1 (by rw [hh]; simp : x ∈ (sAll S).filter fun p => p == o.1)).2
        have hy := (List.mem_filter.1 (by rw [hh]; simp : y ∈ (sAll S).filter fun p => p == o.1)).2
        simp at hx hy
        exact absurd (by rw [hx, hy]; simp) h4.1
    omega
  have e : sFree S o.1 1 = (sLess S o.1 1, 0) := by
    unfold sFree
    rw [h0, if_neg (by decide), if_pos hany]
  have IF := free_inv I o.1 (junk := 1) (by omega)
  rw [e] at IF ⊢
  obtain ⟨e1, hc⟩ := classNat_eq a1 a2
  have hfr : (sLess S o.1 1).free (classNat o.2.1) = S.free (classNat o.2.1) ++ [o.1] := by
    show addL S.free (classOf (sSize S o.1).1) o.1 (classNat o.2.1) = _
    rw [I.size ho]
    unfold addL
    rw [if_pos e1.symm]
  have hlen : 0 < ((sLess S o.1 1).free (classNat o.2.1)).length := by rw [hfr]; simp
  have hf : sFits (sLess S o.1 1) o.2.1 = true := by
    unfold sFits
    simp [a1, a2, hlen]
  have hroom : sRoom (sLess S o.1 1) (classNat o.2.1) = sLess S o.1 1 := by
    unfold sRoom
    rw [if_neg (by omega)]
  have ea : sAlloc (sLess S o.1 1) o.2.1 0 2 = (sTake (sLess S o.1 1) (classNat o.2.1) o.2.1 0 2, lastOf ((sLess S o.1 1).free (classNat o.2.1)), 0) := by
    unfold sAlloc
    rw [if_neg (by simp; omega), if_neg (by rw [hf]; simp), hroom]
  have hlast : lastOf ((sLess S o.1 1).free (classNat o.2.1)) = o.1 := by
    rw [hfr]
    unfold lastOf
    simp [List.getD]
  rw [ea]
  refine ⟨by rw [hlast], ?_⟩
  rw [YtcaboknbdamlhaaGreatDoor.all_len, YtcaboknbdamlhaaGreatDoor.all_len]
  show (insO _ (S.objs.filter (fun x => !(x.1 == o.1)))).length = _
  rw [ins_len]
  exact filter_len I.os ho
end
end Go.Proofs.YtcaboknbdamlhaaGreatDoor
namespace Go.Proofs.YtcaboknbdamlhaaGreatDoor
open Go.RowKit Go.Shelf
theorem does_n {S : HS} (I : Inv S) (a : HAct) : (sDoes S a).n = S.n := by
  unfold sDoes
  split
  · rcases I.there_cases (sSpot S a) 0 with ⟨h, _⟩ | ⟨_, o, ho, e, _⟩
    · unfold sFree; rw [if_pos (by rw [h]; decide)]
    · rw [← e]; exact (free_ok I.toInv0 ho a.x).2.1
  split
  · unfold sClear; split <;> rfl
  split
  · rfl
  split
  · unfold sStore; split <;> rfl
  split
  · unfold sStore; split <;> rfl
  · unfold sAlloc
    split
    · rfl
    · split
      · rfl
      · exact sRoom_n S _
section
variable {h : Nat} {S S' : HS} {F : Nat → Prop} {w : World}
theorem store_r {p f x er : Int} (hr : sThere S p f = er) (H : HpAt w h S F) (hp0 : -9223372036854775808 ≤ p) (hp : p ≤ 9223372036854775807) (hx : -9223372036854775808 ≤ x ∧ x ≤ 9223372036854775807) :
    Calls Tryz.prog 45 #[.pointer (some ⟨h, 0, none⟩), .int .i64 p, .int .i64 f, .int .i64 x] w fun e w' => e = .returned (.int .i64 er) ∧ HpAt w' h (sStore S p f x) F ∧ Step F w w' F := by
  have := store_s h S F w p f x H hp0 hp hx
  rw [hr] at this
  exact this
end
end Go.Proofs.YtcaboknbdamlhaaGreatDoor
namespace Go.Proofs.YtcaboknbdamlhaaGreatDoor
open Go.RowKit Go.Shelf

structure MK where
  on : Bool
  seen : Int → Bool
  greys : List Int
def mcells (h : Nat) (on : Bool) (vs vg : Value) : Array Value := #[.pointer (some ⟨h, 0, none⟩), .bool on, vs, vg]
/-- What is true of the greys. -/
structure GInv (K : MK) : Prop where
  nd : K.greys.Nodup
  sn : ∀ x ∈ K.greys, K.seen x = true
  bd : ∀ x ∈ K.greys, 1 ≤ x ∧ x ≤ 4096
theorem nodup_lenI : ∀ (N : Nat) (l : List Int), l.Nodup → (∀ x ∈ l, 1 ≤ x ∧ x ≤ (N : Int)) → l.length ≤ N
  | 0, l, _, h => by
    rcases l with _ | ⟨x, l⟩
    · exact Nat.le_refl _
    · have := h x (by simp); omega
  | N + 1, l, hn, h => by
    have h1 := nodup_lenI N (l.erase ((N + 1 : Nat) : Int)) (hn.erase _) (fun x hx => by
      have hx2 := h x (List.mem_of_mem_erase hx)
      have hne : x ≠ ((N + 1 : Nat) : Int) := fun e => by
        rw [e] at hx
        exact (List.Nodup.not_mem_erase hn) hx
      omega)
    have := List.length_erase_le (a := ((N + 1 : Nat) : Int)) (l := l)
    by_cases hm : ((N + 1 : Nat) : Int) ∈ l
    · rw [List.length_erase_of_mem hm] at h1; omega
    · rw [List.erase_of_not_mem hm] at h1; omega
theorem GInv.len {K : MK} (H : GInv K) : K.greys.length ≤ 4096 := nodup_lenI 4096 _ H.nd fun x hx => by have := H.bd x hx; omega
structure MIn (w : World) (m h : Nat) (K : MK) (D : Nat → Prop) (vs vg : Value) : Prop where
  blk : Blk w m 123 (mcells h K.on vs vg)
  bits : ∃ zs, Rd u64e w vs zs ∧ U64 zs ∧ zs.length ≤ 1024 ∧ ∀ i, hasB zs i = K.seen i
  greys : w.ownsRow 0 3 1 vg K.greys.length (K.greys.map i64e)
  dm : D m
  ds : ∀ b, vs.ownBlock = some b → D b
  dg : ∀ b, vg.ownBlock = some b → D b
  nm : vg.ownBlock ≠ some m
  ns : vs.ownBlock ≠ some m
  nsg : ∀ b, vg.ownBlock = some b → vs.ownBlock ≠ some b
  lt : ∀ k, D k → k < w.heap.size
  gi : GInv K
structure MAt (w : World) (m h : Nat) (S : HS) (F : Nat → Prop) (K : MK) (D : Nat → Prop) : Prop where
  hp : HpAt w h S F
  mrk : ∃ vs vg, MIn w m h K D vs vg
  dis : ∀ k, D k → ¬ F k
  tab : ¬ D 0
section
variable {w w' : World} {m h : Nat} {S S' : HS} {F F' : Nat → Prop} {K K' : MK} {D D' : Nat → Prop} {vs vg vs' vg' : Value}
theorem MIn.keep (H : MIn w m h K D vs vg) (hs : w.heap.size ≤ w'.heap.size) (hk : ∀ k, D k → w'.heap[k]? = w.heap[k]?) : MIn w' m h K D vs vg :=
  { H with
    blk := (hk m H.dm).trans H.blk
    bits := by obtain ⟨zs, h1, h2⟩ := H.bits; exact ⟨zs, rd_keep h1 hs fun _ b e => hk b (H.ds b e), h2⟩
    greys := own_keep H.greys fun g e => hk g (H.dg g e)
    lt := fun k hD => Nat.lt_of_lt_of_le (H.lt k hD) hs }
theorem MIn.below (H : MIn w m h K D vs vg) (hb : Below w.heap.size w w') : MIn w' m h K D vs vg := H.keep hb.size fun k hD => hb.block k (H.lt k hD)
theorem MAt.below (H : MAt w m h S F K D) (hb : Below w.heap.size w w') : MAt w' m h S F K D := by
  obtain ⟨vs, vg, M⟩ := H.mrk
  exact ⟨H.hp.below hb, ⟨vs, vg, M.below hb⟩, H.dis, H.tab⟩
/-- A step of the heap alone. -/
theorem MAt.heap (H : MAt w m h S F K D) (H2 : HpAt w' h S' F') (s : Step F w w' F') : MAt w' m h S' F' K D := by
  obtain ⟨vs, vg, M⟩ := H.mrk
  exact ⟨H2, ⟨vs, vg, M.keep s.frame.size fun k hD => s.frame.block k (M.lt k hD) (H.dis k hD)⟩, fun k hD hF => (s.sub k hF).elim (H.dis k hD) fun e => by have := M.lt k hD; omega, H.tab⟩
/-- A step of the marks alone. -/
theorem MAt.marks (H : MAt w m h S F K D) (M : MIn w' m h K' D' vs' vg') (s : Step D w w' D') : MAt w' m h S F K' D' :=
  ⟨H.hp.step s (fun k hF hD => H.dis k hD hF) H.tab, ⟨vs', vg', M⟩, fun k hD hF => (s.sub k hD).elim (fun h => H.dis k h hF) fun e => by have := H.hp.lt k hF; omega, fun hD => (s.sub _ hD).elim H.tab fun e => by have := H.hp.tab.lt; omega⟩
theorem MAt.gi (H : MAt w m h S F K D) : GInv K := by obtain ⟨_, _, M⟩ := H.mrk; exact M.gi
theorem MAt.dlt (H : MAt w m h S F K D) : ∀ k, D k → k < w.heap.size := by obtain ⟨_, _, M⟩ := H.mrk; exact M.lt
end
def mIs (S : HS) (p : Int) : Bool := (sSize S p).2.2
theorem mis_bd {S : HS} (I : Inv0 S) {p : Int} (h : mIs S p = true) : 1 ≤ p ∧ p ≤ 4096 := by
  unfold mIs at h
  rcases I.size_cases p with ⟨e, _⟩ | ⟨o, ho, rfl, e⟩
  · rw [e] at h; cases h
  · have := I.ob o ho
    have h5 := this.2.2.2.2
    have := I.n2
    have h51 := h5.1
    have h52 := h5.2.1
    omega
def mKnown (S : HS) (K : MK) (p : Int) : Bool × Int := if K.on = false ∨ p = 0 then (false, 0) else if mIs S p = true then (true, 0) else (false, 11)
def mColor (K : MK) (p : Int) : Int := if K.on = false ∨ K.seen p = false then 0 else if p ∈ K.greys then 1 else 2
def mSee (K : MK) (p : Int) : MK := { K with seen := fun x => x == p || K.seen x }
def mShade (S : HS) (K : MK) (p : Int) : MK := if (mKnown S K p).1 = true ∧ K.seen p = false then { mSee K p with greys := K.greys ++ [p] } else K
theorem shade_gi {S : HS} {K : MK} (I : Inv0 S) (G : GInv K) (p : Int) : GInv (mShade S K p) := by
  unfold mShade
  split
  · next h =>
    obtain ⟨h1, h2⟩ := h
    have hp : 1 ≤ p ∧ p ≤ 4096 := by
      unfold mKnown at h1
      split at h1
      · cases h1
      · split at h1
        · next h3 => exact mis_bd I h3
        · cases h1
    refine ⟨?_, fun x hx => ?_, fun x hx => ?_⟩
    · show (K.greys ++ [p]).Nodup
      rw [List.nodup_append]
      refine ⟨G.nd, by simp, fun a ha b hb e => ?_⟩
      obtain rfl := List.mem_singleton.1 hb
      rw [e] at ha
      rw [G.sn _ ha] at h2
      cases h2
    · show (x == p || K.seen x) = true
      rcases List.mem_append.1 hx with hx | hx
      · rw [G.sn x hx]; simp
      · obtain rfl := List.mem_singleton.1 hx; simp
    · rcases List.mem_append.1 hx with hx | hx
      · exact G.bd x hx
      · obtain rfl := List.mem_singleton.1 hx; exact hp
  · exact G
theorem see_bits {zs ys : List Int} {p : Int} (hp : 1 ≤ p ∧ p ≤ 4096) {sn : Int → Bool} (h : ∀ i, hasB zs i = sn i) (hP : PutB zs p true ys) : ∀ i, hasB ys i = (i == p || sn i) := by
  intro i
  rw [← h i]
  unfold hasB
  rw [hP.2.2.2 i.toNat]
  by_cases h0 : 0 ≤ i
  · by_cases e : i = p
    · subst e
      rw [if_pos ⟨by omega, by omega⟩]
      simp [h0]
    · rw [if_neg (by omega)]
      simp [e]
  · have : i ≠ p := by omega
    simp [h0, this]
section
variable (m h : Nat) (S : HS) (F : Nat → Prop) (K : MK) (D : Nat → Prop) (w : World) (H : MAt w m h S F K D)
include H
theorem good_m : Calls Tryz.prog 67 #[.pointer (some ⟨m, 0, none⟩)] w fun e w' => e = .returned (.bool true) ∧ w = w' := by
  obtain ⟨vs, vg, M⟩ := H.mrk
  have c0 : w.cell? ⟨m, 0, none⟩ = some (.pointer (some ⟨h, 0, none⟩)) := M.blk.cell 0
  clear H M
  go_enter Tryz.func67, Tryz.ntmps67
  go_wp2_with fail
  go_ret
  exact ⟨rfl, rfl⟩
theorem there_m (p : Int) (hp0 : -9223372036854775808 ≤ p) (hp : p ≤ 9223372036854775807) : Calls Tryz.prog 70 #[.pointer (some ⟨m, 0, none⟩), .int .i64 p] w fun e w' => e = .returned (.bool (mIs S p)) ∧ Below w.heap.size w w' := by
  obtain ⟨vs, vg, M⟩ := H.mrk
  have c0 : w.cell? ⟨m, 0, none⟩ = some (.pointer (some ⟨h, 0, none⟩)) := M.blk.cell 0
  have HH := Lib.hid H.hp
  clear H M
  unfold mIs
  obtain ⟨⟨n, mask, is⟩, hr⟩ : ∃ r, sSize S p = r := ⟨_, rfl⟩
  rw [hr]
  replace hr := Lib.hid hr
  go_enter Tryz.func70, Tryz.ntmps70
  go_wp2_with fail
  refine (size_r hr.out HH.out hp0 hp).mono ?_
  rintro e w1 ⟨rfl, b1⟩
  go_wp2_with fail
  go_ret
  exact ⟨rfl, b1⟩
theorem known_m (p : Int) (hp0 : -9223372036854775808 ≤ p) (hp : p ≤ 9223372036854775807) : Calls Tryz.prog 76 #[.pointer (some ⟨m, 0, none⟩), .int .i64 p] w fun e w' => e = .returned (.tuple #[.bool (mKnown S K p).1, .int .i64 (mKnown S K p).2]) ∧ Below w.heap.size w w' := by
  have HG := Lib.hid (good_m m h S F K D w H)
  have HT := Lib.hid (there_m m h S F K D w H p hp0 hp)
  obtain ⟨vs, vg, M⟩ := H.mrk
  have c1 : w.cell? ⟨m, 1, none⟩ = some (.bool K.on) := M.blk.cell 1
  clear H M
  unfold mKnown
  obtain ⟨on, sn, gs⟩ := K
  dsimp only at c1 ⊢
  obtain ⟨s, hs⟩ : ∃ s, mIs S p = s := ⟨_, rfl⟩
  rw [hs] at HT ⊢
  clear hs
  rcases on with _ | _
  · simp only [true_or, if_true]
    go_enter Tryz.func76, Tryz.ntmps76
    go_wp2_with fail
    refine HG.out.mono ?_
    rintro e w' ⟨rfl, rfl⟩
    go_wp2_with fail
    go_ret2
    exact ⟨rfl, Below.refl _ _⟩
  by_cases hz : p = 0
  · subst hz
    simp only [or_true, if_true]
    go_enter Tryz.func76, Tryz.ntmps76
    go_wp2_with fail
    refine HG.out.mono ?_
    rintro e w' ⟨rfl, rfl⟩
    go_wp2_with fail
    go_ret2
    exact ⟨rfl, Below.refl _ _⟩
  · rw [if_neg (by simp [hz])]
    have hb : (p == 0) = false := by simpa using hz
    rcases s with _ | _
    all_goals
      simp only [Bool.false_eq_true, if_true, if_false]
      go_enter Tryz.func76, Tryz.ntmps76
      go_wp2_with fail
      refine HG.out.mono ?_
      rintro e w' ⟨rfl, rfl⟩
      go_wp2_with fail
      refine HT.out.mono ?_
      rintro e w1 ⟨rfl, b1⟩
      go_wp2_with fail
      go_ret2
      exact ⟨rfl, b1⟩
/-- What a step of the marks leaves. -/
def MRet (m h : Nat) (S : HS) (F : Nat → Prop) (K' : MK) (D : Nat → Prop) (w : World) (r : Value) (e : Ending) (w' : World) : Prop := e = .returned r ∧ ∃ D', MAt w' m h S F K' D' ∧ Step D w w' D'
end
end Go.Proofs.YtcaboknbdamlhaaGreatDoor
namespace Go.Proofs.YtcaboknbdamlhaaGreatDoor
open Go.RowKit Go.Shelf
def mNew : MK := ⟨false, fun _ => false, []⟩
theorem new_gi : GInv mNew := ⟨List.nodup_nil, fun x hx => absurd hx (by simp [mNew]), fun x hx => absurd hx (by simp [mNew])⟩
theorem hasB_nil (i : Int) : hasB [] i = false := by simp [hasB, bitAt]
theorem new_m (h : Nat) (S : HS) (F : Nat → Prop) (w : World) (H : HpAt w h S F) :
    Calls Tryz.prog 54 #[.pointer (some ⟨h, 0, none⟩)] w fun e w' => ∃ (m : Nat) (D : Nat → Prop), e = .returned (.pointer (some ⟨m, 0, none⟩)) ∧ MAt w' m h S F mNew D ∧ (∀ k, D k → w.heap.size ≤ k) ∧ Below w.heap.size w w' := by
  have HL := Lib.hid H.lt
  have HT := Lib.hid H.tab.lt
  replace H := Lib.hid H
  go_enter Tryz.func54, Tryz.ntmps54
  go_wp2_with fail
  go_ret
  have hb := below_alloc w (.cells (mcells h false (.slice none 0 0) (.slice none 0 0)) 123)
  refine ⟨w.heap.size, fun k => k = w.heap.size, rfl, ⟨H.out.below hb, ⟨.slice none 0 0, .slice none 0 0, ?_⟩, fun k hk hF => by have := HL.out k hF; omega, fun e => by have := HT.out; omega⟩, fun k hk => by omega, hb⟩
  exact { blk := Blk.new w _ _, bits := ⟨[], Rd.none_ _ _, U64.nil, by simp, hasB_nil⟩, greys := World.ownsRow_nil _ _ _ _, dm := rfl, ds := fun b e => (by cases e), dg := fun b e => (by cases e), nm := fun e => (by cases e), ns := fun e => (by cases e), nsg := fun b e => (by cases e), lt := fun k hk => (by rw [hk]; simp), gi := new_gi }
theorem new_nil (w : World) : Calls Tryz.prog 54 #[.pointer none] w fun e w' => e = .returned (.pointer none) ∧ w = w' := by
  go_enter Tryz.func54, Tryz.ntmps54
  go_wp2_with fail
  go_ret
  exact ⟨rfl, rfl⟩
section
variable {w w' : World} {m h : Nat} {K : MK} {D : Nat → Prop} {vs vg v v' : Value}
/-- The seen are others now. -/
theorem MIn.set_seen (M : MIn w m h K D vs vg) {ys : List Int} {sn : Int → Bool} (hr : Rd u64e w v ys) (hu : U64 ys) (hl : ys.length ≤ 1024) (hb : ∀ i, hasB ys i = sn i) (hlt : ∀ b, v.ownBlock = some b → b < w.heap.size ∧ ¬ D b) (hg : ∀ x ∈ K.greys, sn x = true) :
    MIn (w.setCell ⟨m, 2, none⟩ v) m h { K with seen := sn } (fun k => D k ∨ v.ownBlock = some k) v vg := by
  have ho : ∀ k, k ≠ m → (w.setCell ⟨m, 2, none⟩ v).heap[k]? = w.heap[k]? := fun k hk => setCell_other w m 2 _ hk
  have hs : w.heap.size ≤ (w.setCell ⟨m, 2, none⟩ v).heap.size := Nat.le_of_eq (setCell_size w _ _).symm
  have hm : ∀ b, v.ownBlock = some b → b ≠ m := fun b e e2 => (hlt b e).2 (e2 ▸ M.dm)
  exact { blk := M.blk.set_ 2 v
          bits := ⟨ys, rd_keep hr hs fun _ b e => ho b (hm b e), hu, hl, hb⟩
          greys := own_keep M.greys fun g e => ho g (fun e2 => M.nm (e2 ▸ e))
          dm := .inl M.dm, ds := fun b e => .inr e, dg := fun b e => .inl (M.dg b e), nm := M.nm, ns := fun e => hm _ e rfl
          nsg := fun b e e2 => (hlt b e2).2 (M.dg b e)
          lt := fun k hk => by rw [setCell_size]; exact hk.elim (M.lt k) fun e => (hlt k e).1
          gi := ⟨M.gi.nd, hg, M.gi.bd⟩ }
/-- The greys are others now; only their row has changed. -/
theorem MIn.set_greys {w1 : World} (M : MIn w m h K D vs vg) {gs : List Int} (hg : w.grownBy w1 vg.ownBlock) (hr : w1.ownsRow 0 3 1 v gs.length (gs.map i64e)) (hv : ∀ b, v.ownBlock = some b → vg.ownBlock = some b ∨ w.heap.size ≤ b) (hn : gs.Nodup) (hs : ∀ x ∈ gs, K.seen x = true) (hb : ∀ x ∈ gs, 1 ≤ x ∧ x ≤ 4096) :
    MIn (w1.setCell ⟨m, 3, none⟩ v) m h { K with greys := gs } (fun k => D k ∨ v.ownBlock = some k) vs v := by
  have hm : ∀ b, v.ownBlock = some b → b ≠ m := fun b e e2 => (hv b e).elim (fun h => M.nm (e2 ▸ h)) fun h => by have := M.lt m M.dm; omega
  have hk1 : ∀ k, D k → vg.ownBlock ≠ some k → w1.heap[k]? = w.heap[k]? := fun k hk hne => hg.block k (M.lt k hk) (fun e => hne e.symm)
  have ho : ∀ k, k ≠ m → (w1.setCell ⟨m, 3, none⟩ v).heap[k]? = w1.heap[k]? := fun k hk => setCell_other w1 m 3 _ hk
  have hz : w.heap.size ≤ (w1.setCell ⟨m, 3, none⟩ v).heap.size := by rw [setCell_size]; exact hg.size
  obtain ⟨zs, h1, h2, h3, h4⟩ := M.bits
  have hB : Blk w1 m 123 (mcells h K.on vs vg) := M.blk.grown hg (fun e => M.nm e.symm)
  exact { blk := hB.set_ 3 v
          bits := ⟨zs, rd_keep h1 hz fun _ b e => (ho b (fun e2 => M.ns (e2 ▸ e))).trans (hk1 b (M.ds b e) (fun e2 => M.nsg b e2 e)), h2, h3, h4⟩
          greys := own_keep hr fun g e => ho g (hm g e)
          dm := .inl M.dm, ds := fun b e => .inl (M.ds b e), dg := fun b e => .inr e, nm := fun e => hm _ e rfl, ns := M.ns
          nsg := fun b e e2 => (hv b e).elim (fun h => M.nsg b h e2) fun h => by have := M.lt b (M.ds b e2); omega
          lt := fun k hk => by
            rw [setCell_size]
            rcases hk with hk | hk
            · exact Nat.lt_of_lt_of_le (M.lt k hk) hg.size
            · exact (hr.lt k hk).2
          gi := ⟨hn, hs, hb⟩ }
end
section
variable (m h : Nat) (S : HS) (F : Nat → Prop) (K : MK) (D : Nat → Prop) (w : World) (H : MAt w m h S F K D)
include H
set_option maxHeartbeats 1600000 in
set_option maxRecDepth 100000 in
theorem shade_m (p : Int) (hp0 : -9223372036854775808 ≤ p) (hp : p ≤ 9223372036854775807) : Calls Tryz.prog 44 #[.pointer (some ⟨m, 0, none⟩), .int .i64 p] w (MRet m h S F (mShade S K p) D w (.int .i64 (mKnown S K p).2)) := by
  have HK := Lib.hid (known_m m h S F K D w H p hp0 hp)
  have hgi := Lib.hid (shade_gi H.hp.inv.toInv0 H.gi p)
  have hmd : Hid (∀ _ : Nat, (mKnown S K p).1 = true → 1 ≤ p ∧ p ≤ 4096) := Lib.hid fun _ h1 => by
    unfold mKnown at h1
    split at h1
    · cases h1
    · split at h1
      · next h3 => exact mis_bd H.hp.inv.toInv0 h3
      · cases h1
  unfold mShade at hgi ⊢
  obtain ⟨⟨is, er⟩, hk⟩ : ∃ r, mKnown S K p = r := ⟨_, rfl⟩
  rw [hk] at HK hgi hmd ⊢
  dsimp only at HK hgi hmd ⊢
  replace hk := Lib.hid hk
  replace H := Lib.hid H
  rcases is with _ | _
  · simp only [Bool.false_eq_true, false_and, if_false]
    go_enter Tryz.func44, Tryz.ntmps44
    go_wp2_with fail
    refine HK.out.mono ?_
    rintro e w1 ⟨rfl, b1⟩
    go_wp2_with fail
    go_ret
    exact ⟨rfl, D, H.out.below b1, Step.of_below b1⟩
  obtain ⟨s, hs⟩ : ∃ s, K.seen p = s := ⟨_, rfl⟩
  simp only [hs, true_and] at hgi ⊢
  have hpb := hmd.out 0 rfl
  clear hmd
  rcases s with _ | _
  · simp only [if_true] at hgi ⊢
    replace hs := Lib.hid hs
    go_enter Tryz.func44, Tryz.ntmps44
    go_wp2_with fail
    refine HK.out.mono ?_
    rintro e w1 ⟨rfl, b1⟩
    have H1 := H.out.below b1
    obtain ⟨vs, vg, M⟩ := H1.mrk
    obtain ⟨zs, hz, hu, hzl, hzb⟩ := M.bits
    have HB := Lib.hid (bhas_ok vs zs p w1 hz (by omega) hu hp hp0)
    rw [hzb p, hs.out] at HB
    have HP := Lib.hid (bput_ok vs zs p true w1 hz (by omega) hu hp hp0)
    replace hzb := Lib.hid hzb
    replace hz := Lib.hid hz
    replace hu := Lib.hid hu
    have c2 : w1.cell? ⟨m, 2, none⟩ = some vs := M.blk.cell 2
    replace M := Lib.hid M
    replace H1 := Lib.hid H1
    go_wp2_with fail
    refine HB.out.mono ?_
    rintro e w' ⟨rfl, rfl⟩
    go_wp2_with fail
    refine HP.out.mono ?_
    rintro e w2 ⟨v2, ys, rfl, R2, P2, F2, b2⟩
    have M2 := M.out.below b2
    have hbit : bitAt ys p.toNat = true := by rw [P2.2.2.2, if_pos ⟨by omega, by omega⟩]
    have hyl : 0 < ys.length := by
      rcases ys with _ | ⟨y, ys⟩
      · simp [bitAt] at hbit
      · simp
    obtain ⟨A2, cc2, rfl, -⟩ := R2.len
    have hlt : ∀ b, (Value.slice A2 ys.length cc2).ownBlock = some b → b < w2.heap.size ∧ ¬ D b := fun b e => by
      obtain ⟨b', o, rfl, hl, _⟩ := R2.at_ hyl
      have : b' = b := by simpa [Value.ownBlock] using e
      have h3 := F2 b e
      exact ⟨by omega, fun hD => by have := M.out.lt b hD; omega⟩
    have hys := see_bits hpb hzb.out P2
    have Ms := Lib.hid (M2.set_seen R2 P2.1 (by have := P2.2.2.1; omega) hys hlt (fun x hx => by rw [M2.gi.sn x hx]; simp))
    have hog := Lib.hid (show (w2.setCell ⟨m, 2, none⟩ (.slice A2 ys.length cc2)).ownsRow 0 3 1 vg K.greys.length (K.greys.map i64e) from Ms.out.greys)
    have fz2 := M2.blk.frozen 2
    have c2' : w2.cell? ⟨m, 2, none⟩ = some vs := M2.blk.cell 2
    have fz3 := M2.blk.frozen 3
    have c3' : w2.cell? ⟨m, 3, none⟩ = some vg := M2.blk.cell 3
    have hm2 := M2.blk.lt
    have hgl := M2.gi.len
    have hnew : Hid (∀ b, (Value.slice A2 ys.length cc2).ownBlock = some b → w1.heap.size ≤ b) := Lib.hid F2
    replace M2 := Lib.hid M2
    clear hbit hyl R2 P2 F2 hys c2
    go_wp2_with (at_builtin; refine wpList_push rfl (.tmp 36) (.tmp 38) _ rfl 0 3 _ 8 Tryz.underlying36 int_info rfl vg _ _ rfl hog.out _ rfl (by rw [setCell_size]; rfl) (by unfold maxLen; omega) (by omega) (Nat.zero_le _) ?_; intro v' w4 hown hg hat; refine stop_here ?_)
    have hB4 : Blk w4 m 123 (mcells h K.on (.slice A2 ys.length cc2) vg) := Ms.out.blk.grown hg (fun e => Ms.out.nm e.symm)
    have fz3 := hB4.frozen 3
    have c3' : w4.cell? ⟨m, 3, none⟩ = some vg := hB4.cell 3
    have hown' : w4.ownsRow 0 3 1 v' (K.greys ++ [p]).length ((K.greys ++ [p]).map i64e) := by
      rw [List.length_append, List.map_append]
      exact hown
    obtain ⟨A4, cc4, rfl, -⟩ := own_form hown'
    have hz4 : w2.heap.size ≤ w4.heap.size := by have := hg.size; rw [setCell_size] at this; exact this
    have Mg := Ms.out.set_greys hg hown' (fun b e => hat.elim (fun h => .inl (by rw [← h, e])) fun h => .inr (by rw [h] at e; cases e; omega)) hgi.out.nd hgi.out.sn hgi.out.bd
    have hfr : Step D w (w4.setCell ⟨m, 3, none⟩ (.slice A4 (K.greys ++ [p]).length cc4)) (fun k => (D k ∨ (Value.slice A2 ys.length cc2).ownBlock = some k) ∨ (Value.slice A4 (K.greys ++ [p]).length cc4).ownBlock = some k) := by
      have s1 : Step D w w2 D := Step.of_below (below_all b1 b2)
      refine ⟨⟨?_, ?_, ?_, ?_, fun k hk hn => ?_⟩, fun k hk => ?_⟩
      · exact hg.os.trans s1.frame.os
      · exact hg.tape.trans s1.frame.tape
      · exact hg.output.trans s1.frame.output
      · rw [setCell_size]; exact Nat.le_trans s1.frame.size hz4
      · have hkm : k ≠ m := fun e => hn (e ▸ M.out.dm)
        have hk2 : k < w2.heap.size := Nat.lt_of_lt_of_le hk s1.frame.size
        rw [setCell_other w4 m 3 _ hkm, hg.block k (by rw [setCell_size]; exact hk2) (fun e => hn (M.out.dg k e.symm)), setCell_other w2 m 2 _ hkm]
        exact s1.frame.block k hk hn
      · rcases hk with (hk | hk) | hk
        · exact .inl hk
        · exact .inr (Nat.le_trans b1.size (hnew.out k hk))
        · rcases hat with h | h
          · exact .inl (M.out.dg k (by rw [← h]; exact hk))
          · rw [h] at hk; cases hk; exact .inr (by rw [setCell_size]; have := s1.frame.size; omega)
    rw [show (K.greys ++ [p]).length = K.greys.length + 1 by simp] at Mg hfr
    replace Mg := Lib.hid Mg
    replace hfr := Lib.hid hfr
    clear hB4 hown hg hat hown'
    refine go_on ?_
    go_wp2_with fail
    go_ret
    exact ⟨rfl, _, H.out.marks Mg.out hfr.out, hfr.out⟩
  · simp only [Bool.true_eq_false, if_false]
    replace hs := Lib.hid hs
    go_enter Tryz.func44, Tryz.ntmps44
    go_wp2_with fail
    refine HK.out.mono ?_
    rintro e w1 ⟨rfl, b1⟩
    have H1 := H.out.below b1
    obtain ⟨vs, vg, M⟩ := H1.mrk
    obtain ⟨zs, hz, hu, hzl, hzb⟩ := M.bits
    have HB := Lib.hid (bhas_ok vs zs p w1 hz (by omega) hu hp hp0)
    rw [hzb p, hs.out] at HB
    replace hzb := Lib.hid hzb
    have c2 : w1.cell? ⟨m, 2, none⟩ = some vs := M.blk.cell 2
    replace M := Lib.hid M
    replace H1 := Lib.hid H1
    go_wp2_with fail
    refine HB.out.mono ?_
    rintro e w' ⟨rfl, rfl⟩
    go_wp2_with fail
    go_ret
    exact ⟨rfl, D, H1.out, Step.of_below b1⟩
end
end Go.Proofs.YtcaboknbdamlhaaGreatDoor
namespace Go.Proofs.YtcaboknbdamlhaaGreatDoor
open Go.RowKit
def keepP (pr : Int → Bool) (xs : List Int) : List Int := xs.filter fun x => !pr x
theorem keepP_snoc (pr : Int → Bool) (xs : List Int) (x : Int) : keepP pr (xs ++ [x]) = if pr x = true then keepP pr xs else keepP pr xs ++ [x] := by
  unfold keepP
  rw [List.filter_append]
  by_cases h : pr x = true
  · simp [h]
  · simp [h]
theorem keepP_all {pr : Int → Bool} {xs : List Int} (h : ∀ x ∈ xs, pr x = false) : keepP pr xs = xs := by
  unfold keepP
  rw [List.filter_eq_self]
  intro x hx
  simp [h x hx]

theorem made1_index (B : Nat) (pr : Int → Bool) (v : Value) (xs : List Int) (w : World) (hv : Rd i64e w v xs) (hl : xs.length ≤ 1099511627776) (hbd : ∀ x ∈ xs, -9223372036854775808 ≤ x ∧ x ≤ 9223372036854775807)
    (HC : ∀ x, -9223372036854775808 ≤ x → x ≤ 9223372036854775807 → Calls Tryz.prog 78 #[.int .i64 x, .pointer (some ⟨B, 0, none⟩)] w fun e w' => e = .returned (.bool (pr x)) ∧ w = w') :
    Calls Tryz.prog 97 #[v, .func (.func 78) #[] #[.pointer (some ⟨B, 0, none⟩)]] w fun e w' => e = .returned (.int .i64 (ixP pr xs)) ∧ w = w' := by
  obtain ⟨A, c, rfl, _⟩ := hv.len
  have HBd := Lib.hid hbd
  replace HC := Lib.hid HC
  clear hbd
  go_enter Tryz.func97, Tryz.ntmps97
  go_wp2_with fail
  go_loopw [8] (fun i wr => ∃ k : Nat, k ≤ xs.length ∧ i = .int .i64 k ∧ Hid (∀ j (hj : j < xs.length), j < k → pr xs[j] = false) ∧ wr = w) (fun i _ => xs.length - (intOf i).toNat)
  case atStart => exact ⟨0, by omega, rfl, Lib.hid fun j _ h => by omega, rfl⟩
  case round =>
    obtain ⟨k, hk, rfl, hno, rfl⟩ := hrel
    by_cases hlt : k < xs.length
    · obtain ⟨b, o, rfl, _, hc⟩ := hv.at_ hlt
      have hxb := HBd.out _ (List.getElem_mem hlt)
      have HX := Lib.hid (HC.out xs[k] hxb.1 hxb.2)
      by_cases hx : pr xs[k] = true
      · have hi := Lib.hid (ixP_here (pr := pr) hlt hx hno.out)
        rw [hx] at HX
        clear hno hx
        go_wp2_with (go_at_call 78; refine HX.out.mono ?_; rintro e w' ⟨rfl, rfl⟩)
        go_ret
        exact ⟨ret_int hi.out.symm, rfl⟩
      · have hx : pr xs[k] = false := by simpa using hx
        have hno' : Hid (∀ j (hj : j < xs.length), j < k + 1 → pr xs[j] = false) := Lib.hid fun j hj h => by
          rcases Nat.lt_or_ge j k with h1 | h1
          · exact hno.out j hj h1
          · have : j = k := by omega
            subst this; exact hx
        rw [hx] at HX
        clear hno hx
        go_wp2_with (go_at_call 78; refine HX.out.mono ?_; rintro e w' ⟨rfl, rfl⟩)
        go_roundw
        case rel => exact ⟨k + 1, by omega, by go_num, hno', trivial⟩
        case measure => simp [intOf]; omega
    · have hi := Lib.hid (ixP_none (pr := pr) (xs := xs) fun j hj => hno.out j hj (by omega))
      clear hno
      go_wp2_with fail
      go_ret
      exact ⟨ret_int hi.out.symm, rfl⟩
set_option maxHeartbeats 1600000 in
set_option maxRecDepth 100000 in
theorem made1_delete (B base : Nat) (pr : Int → Bool) (v : Value) (xs : List Int) (w : World) (hown : w.ownsRow base 3 1 v xs.length (xs.map i64e)) (hl : xs.length ≤ 1099511627776) (hbd : ∀ x ∈ xs, -9223372036854775808 ≤ x ∧ x ≤ 9223372036854775807)
    (HC : ∀ wx, w.grownBy wx v.ownBlock → ∀ x, -9223372036854775808 ≤ x → x ≤ 9223372036854775807 → Calls Tryz.prog 78 #[.int .i64 x, .pointer (some ⟨B, 0, none⟩)] wx fun e w' => e = .returned (.bool (pr x)) ∧ wx = w') :
    Calls Tryz.prog 77 #[v, .func (.func 78) #[] #[.pointer (some ⟨B, 0, none⟩)]] w fun e w' => ∃ v', e = .returned v' ∧ w'.ownsRow base 3 1 v' (keepP pr xs).length ((keepP pr xs).map i64e) ∧ w.grownBy w' v.ownBlock ∧ v'.ownBlock = v.ownBlock := by
  have hidx := made1_index B pr v xs w (Rd.of_own hown) hl hbd (HC w (World.grownBy.refl _ _))
  by_cases hany : xs.any pr = true
  · have hi0 : xs.findIdx pr < xs.length := by
      rw [List.findIdx_lt_length]
      simpa using hany
    obtain ⟨i0, e0⟩ : ∃ i0, i0 = xs.findIdx pr := ⟨_, rfl⟩
    rw [← e0] at hi0
    have hix : ixP pr xs = (i0 : Int) := by unfold ixP; rw [if_pos hany, e0]
    rw [hix] at hidx
    have hpi : pr xs[i0] = true := by
      subst e0
      exact List.findIdx_getElem (w := hi0)
    have hpj : ∀ j (hj : j < xs.length), j < i0 → pr xs[j] = false := fun j hj h => by
      subst e0
      simpa using List.not_of_lt_findIdx h
    have hstart : Hid (xs.take i0 = keepP pr (xs.take (i0 + 1))) := Lib.hid (by
      rw [take_snoc xs hi0, keepP_snoc, if_pos hpi]
      refine (keepP_all fun x hx => ?_).symm
      obtain ⟨j, hj, rfl⟩ := List.getElem_of_mem hx
      rw [List.length_take] at hj
      rw [List.getElem_take]
      exact hpj j (by omega) (by omega))
    have HBd := Lib.hid hbd
    rcases hown.2 with ⟨rfl, h0⟩ | ⟨g, cap, cur, rfl, hg, hh, hnc, hcm, hcs, htk⟩
    · omega
    have hown := Lib.hid hown
    have hidx := Lib.hid hidx
    replace HC := Lib.hid HC
    clear hbd hany hix hpi hpj e0 htk hcs hh
    go_enter Tryz.func77, Tryz.ntmps77
    go_wp2_with fail
    refine hidx.out.mono ?_
    rintro e w' ⟨rfl, rfl⟩
    have hb0 : (((i0 : Nat) : Int) == -1) = false := by rw [beq_eq_false_iff_ne]; omega
    go_wp2_with fail
    go_loopw [5, 6] (fun a b wr => ∃ i j : Nat, i < j ∧ j ≤ xs.length ∧ a = .int .i64 i ∧ b = .int .i64 j ∧ ∃ zs : List Int, Hid (zs.length = xs.length) ∧ Hid (wr.ownsRow base 3 1 (.slice (some ⟨g, 0, none⟩) xs.length cap) xs.length (zs.map i64e)) ∧
        Hid (zs.take i = keepP pr (xs.take j)) ∧ Hid (zs.drop j = xs.drop j) ∧ w.grownBy wr (some g)) (fun _ b _ => xs.length - (intOf b).toNat)
    case atStart => exact ⟨i0, i0 + 1, by omega, by omega, rfl, by go_num, xs, Lib.hid rfl, hown, hstart, Lib.hid rfl, World.grownBy.refl _ _⟩
    case round =>
      obtain ⟨i, j, hij, hj, rfl, rfl, zs, hzs, hz, ht, hd, hgw⟩ := hrel
      have hzl := hzs.out
      by_cases hlt : j < xs.length
      · have hel : zs[j]'(by omega) = xs[j] := by
          have h1 : (zs.drop j)[0]? = (xs.drop j)[0]? := by rw [hd.out]
          simp only [List.getElem?_drop, Nat.add_zero] at h1
          rw [List.getElem?_eq_getElem (by omega), List.getElem?_eq_getElem hlt] at h1
          injection h1
        have hce : wr.cell? ⟨g, j, none⟩ = some (i64e xs[j]) := by
          rw [hz.out.cellAt j (by omega), List.getElem?_map, List.getElem?_eq_getElem (by omega), hel]
          rfl
        have hfz := hz.out.frozenAt i
        obtain ⟨u, hci⟩ : ∃ u, wr.cell? ⟨g, i, none⟩ = some u := ⟨i64e (zs[i]'(by omega)), by
          rw [hz.out.cellAt i (by omega), List.getElem?_map, List.getElem?_eq_getElem (by omega)]
          rfl⟩
        have hxb := HBd.out _ (List.getElem_mem hlt)
        have HX := Lib.hid (HC.out wr hgw xs[j] hxb.1 hxb.2)
        have hd' : zs.drop (j + 1) = xs.drop (j + 1) := by rw [← List.drop_drop, hd.out, List.drop_drop]
        by_cases hx : pr xs[j] = true
        · have ht' : Hid (zs.take i = keepP pr (xs.take (j + 1))) := Lib.hid (by rw [take_snoc xs hlt, keepP_snoc, if_pos hx]; exact ht.out)
          have hd' := Lib.hid hd'
          rw [hx] at HX
          clear hel ht hd hzl hx
          go_wp2_with (go_at_call 78; refine HX.out.mono ?_; rintro e w' ⟨rfl, rfl⟩)
          go_roundw
          case rel => exact ⟨i, j + 1, by omega, by omega, rfl, by go_num, zs, hzs, hz, ht', hd', hgw⟩
          case measure => simp [intOf]; omega
        · have hx : pr xs[j] = false := by simpa using hx
          have ht' : Hid ((zs.set i xs[j]).take (i + 1) = keepP pr (xs.take (j + 1))) := Lib.hid (by
            rw [take_snoc xs hlt, keepP_snoc, if_neg (by rw [hx]; simp), ← ht.out]
            rw [take_snoc _ (by rw [List.length_set]; omega), List.getElem_set_self, List.take_set_of_le (Nat.le_refl _)])
          have hd' : Hid ((zs.set i xs[j]).drop (j + 1) = xs.drop (j + 1)) := Lib.hid (by rw [List.drop_set_of_lt (by omega), hd'])
          obtain ⟨hz2, hg2⟩ := hz.out.stored i (i64e xs[j])
          rw [← List.map_set] at hz2
          have hz2 := Lib.hid hz2
          have hg2 := hgw.trans hg2
          have hzs' : Hid ((zs.set i xs[j]).length = xs.length) := Lib.hid (by rw [List.length_set]; exact hzl)
          rw [hx] at HX
          clear hel ht hd hz hzl hx
          go_wp2_with (go_at_call 78; refine HX.out.mono ?_; rintro e w' ⟨rfl, rfl⟩)
          go_roundw
          case rel => exact ⟨i + 1, j + 1, by omega, by omega, by go_num, by go_num, zs.set i xs[j], hzs', hz2, ht', hd', hg2⟩
          case measure => simp [intOf]; omega
      · obtain rfl : j = xs.length := by omega
        have hcap : i < cap := by omega
        have hcl := fun ty => Lib.run_clear_slice (P := Tryz.prog) wr 36 3 ty (.int .i64 0) Tryz.underlying36 (fun _ => by kernel_rfl) rfl rfl g i (xs.length - i) (cap - i) (by omega)
          (fun t ht' => by rw [hz.out.cellAt (i + t) (by omega), List.getElem?_map, List.getElem?_eq_getElem (by omega)]; rfl) (fun t _ => hz.out.frozenAt (i + t))
        obtain ⟨zs', hz2, ht2, hg2⟩ := own_setCells (List.replicate (xs.length - i) (.int .i64 0)) i wr _ hz.out
        have hg2 := hgw.trans hg2
        have hke : Hid ((keepP pr xs) = zs.take i) := Lib.hid (by rw [ht.out, List.take_length])
        have hkl : (keepP pr xs).length = i := by rw [hke.out, List.length_take]; omega
        have hz3 := own_drop_last hz2 (m := i) (by omega) (.inl (by omega))
        rw [ht2, ← List.map_take, ← hke.out] at hz3
        have hz3 := Lib.hid hz3
        have hkl := Lib.hid hkl
        clear hz2 ht2 hzl ht hd hz
        go_wp2_with fail
        go_ret
        exact ⟨_, rfl, by rw [hkl.out]; exact hz3.out, hg2, rfl⟩
  · have hno : ∀ x ∈ xs, pr x = false := fun x hx => by
      rcases hb : pr x with _ | _
      · rfl
      · exact absurd (List.any_eq_true.2 ⟨x, hx, hb⟩) hany
    have hix : ixP pr xs = -1 := by unfold ixP; rw [if_neg hany]
    rw [hix] at hidx
    have hke := Lib.hid (keepP_all hno)
    have hidx := Lib.hid hidx
    have hown := Lib.hid hown
    clear hno hix hany HC
    go_enter Tryz.func77, Tryz.ntmps77
    go_wp2_with fail
    refine hidx.out.mono ?_
    rintro e w' ⟨rfl, rfl⟩
    go_wp2_with fail
    go_ret
    exact ⟨_, rfl, by rw [hke.out]; exact hown.out, World.grownBy.refl _ _, rfl⟩

theorem end1_index (B : Nat) (pr : Int → Bool) (v : Value) (xs : List Int) (w : World) (hv : Rd i64e w v xs) (hl : xs.length ≤ 1099511627776) (hbd : ∀ x ∈ xs, -9223372036854775808 ≤ x ∧ x ≤ 9223372036854775807)
    (HC : ∀ x, -9223372036854775808 ≤ x → x ≤ 9223372036854775807 → Calls Tryz.prog 105 #[.int .i64 x, .pointer (some ⟨B, 0, none⟩)] w fun e w' => e = .returned (.bool (pr x)) ∧ w = w') :
    Calls Tryz.prog 97 #[v, .func (.func 105) #[] #[.pointer (some ⟨B, 0, none⟩)]] w fun e w' => e = .returned (.int .i64 (ixP pr xs)) ∧ w = w' := by
  obtain ⟨A, c, rfl, _⟩ := hv.len
  have HBd := Lib.hid hbd
  replace HC := Lib.hid HC
  clear hbd
  go_enter Tryz.func97, Tryz.ntmps97
  go_wp2_with fail
  go_loopw [8] (fun i wr => ∃ k : Nat, k ≤ xs.length ∧ i = .int .i64 k ∧ Hid (∀ j (hj : j < xs.length), j < k → pr xs[j] = false) ∧ wr = w) (fun i _ => xs.length - (intOf i).toNat)
  case atStart => exact ⟨0, by omega, rfl, Lib.hid fun j _ h => by omega, rfl⟩
  case round =>
    obtain ⟨k, hk, rfl, hno, rfl⟩ := hrel
    by_cases hlt : k < xs.length
    · obtain ⟨b, o, rfl, _, hc⟩ := hv.at_ hlt
      have hxb := HBd.out _ (List.getElem_mem hlt)
      have HX := Lib.hid (HC.out xs[k] hxb.1 hxb.2)
      by_cases hx : pr xs[k] = true
      · have hi := Lib.hid (ixP_here (pr := pr) hlt hx hno.out)
        rw [hx] at HX
        clear hno hx
        go_wp2_with (go_at_call 105; refine HX.out.mono ?_; rintro e w' ⟨rfl, rfl⟩)
        go_ret
        exact ⟨ret_int hi.out.symm, rfl⟩
      · have hx : pr xs[k] = false := by simpa using hx
        have hno' : Hid (∀ j (hj : j < xs.length), j < k + 1 → pr xs[j] = false) := Lib.hid fun j hj h => by
          rcases Nat.lt_or_ge j k with h1 | h1
          · exact hno.out j hj h1
          · have : j = k := by omega
            subst this; exact hx
        rw [hx] at HX
        clear hno hx
        go_wp2_with (go_at_call 105; refine HX.out.mono ?_; rintro e w' ⟨rfl, rfl⟩)
        go_roundw
        case rel => exact ⟨k + 1, by omega, by go_num, hno', trivial⟩
        case measure => simp [intOf]; omega
    · have hi := Lib.hid (ixP_none (pr := pr) (xs := xs) fun j hj => hno.out j hj (by omega))
      clear hno
      go_wp2_with fail
      go_ret
      exact ⟨ret_int hi.out.symm, rfl⟩
set_option maxHeartbeats 1600000 in
set_option maxRecDepth 100000 in
theorem end1_delete (B base : Nat) (pr : Int → Bool) (v : Value) (xs : List Int) (w : World) (hown : w.ownsRow base 3 1 v xs.length (xs.map i64e)) (hl : xs.length ≤ 1099511627776) (hbd : ∀ x ∈ xs, -9223372036854775808 ≤ x ∧ x ≤ 9223372036854775807)
    (HC : ∀ wx, w.grownBy wx v.ownBlock → ∀ x, -9223372036854775808 ≤ x → x ≤ 9223372036854775807 → Calls Tryz.prog 105 #[.int .i64 x, .pointer (some ⟨B, 0, none⟩)] wx fun e w' => e = .returned (.bool (pr x)) ∧ wx = w') :
    Calls Tryz.prog 77 #[v, .func (.func 105) #[] #[.pointer (some ⟨B, 0, none⟩)]] w fun e w' => ∃ v', e = .returned v' ∧ w'.ownsRow base 3 1 v' (keepP pr xs).length ((keepP pr xs).map i64e) ∧ w.grownBy w' v.ownBlock ∧ v'.ownBlock = v.ownBlock := by
  have hidx := end1_index B pr v xs w (Rd.of_own hown) hl hbd (HC w (World.grownBy.refl _ _))
  by_cases hany : xs.any pr = true
  · have hi0 : xs.findIdx pr < xs.length := by
      rw [List.findIdx_lt_length]
      simpa using hany
    obtain ⟨i0, e0⟩ : ∃ i0, i0 = xs.findIdx pr := ⟨_, rfl⟩
    rw [← e0] at hi0
    have hix : ixP pr xs = (i0 : Int) := by unfold ixP; rw [if_pos hany, e0]
    rw [hix] at hidx
    have hpi : pr xs[i0] = true := by
      subst e0
      exact List.findIdx_getElem (w := hi0)
    have hpj : ∀ j (hj : j < xs.length), j < i0 → pr xs[j] = false := fun j hj h => by
      subst e0
      simpa using List.not_of_lt_findIdx h
    have hstart : Hid (xs.take i0 = keepP pr (xs.take (i0 + 1))) := Lib.hid (by
      rw [take_snoc xs hi0, keepP_snoc, if_pos hpi]
      refine (keepP_all fun x hx => ?_).symm
      obtain ⟨j, hj, rfl⟩ := List.getElem_of_mem hx
      rw [List.length_take] at hj
      rw [List.getElem_take]
      exact hpj j (by omega) (by omega))
    have HBd := Lib.hid hbd
    rcases hown.2 with ⟨rfl, h0⟩ | ⟨g, cap, cur, rfl, hg, hh, hnc, hcm, hcs, htk⟩
    · omega
    have hown := Lib.hid hown
    have hidx := Lib.hid hidx
    replace HC := Lib.hid HC
    clear hbd hany hix hpi hpj e0 htk hcs hh
    go_enter Tryz.func77, Tryz.ntmps77
    go_wp2_with fail
    refine hidx.out.mono ?_
    rintro e w' ⟨rfl, rfl⟩
    have hb0 : (((i0 : Nat) : Int) == -1) = false := by rw [beq_eq_false_iff_ne]; omega
    go_wp2_with fail
    go_loopw [5, 6] (fun a b wr => ∃ i j : Nat, i < j ∧ j ≤ xs.length ∧ a = .int .i64 i ∧ b = .int .i64 j ∧ ∃ zs : List Int, Hid (zs.length = xs.length) ∧ Hid (wr.ownsRow base 3 1 (.slice (some ⟨g, 0, none⟩) xs.length cap) xs.length (zs.map i64e)) ∧
        Hid (zs.take i = keepP pr (xs.take j)) ∧ Hid (zs.drop j = xs.drop j) ∧ w.grownBy wr (some g)) (fun _ b _ => xs.length - (intOf b).toNat)
    case atStart => exact ⟨i0, i0 + 1, by omega, by omega, rfl, by go_num, xs, Lib.hid rfl, hown, hstart, Lib.hid rfl, World.grownBy.refl _ _⟩
    case round =>
      obtain ⟨i, j, hij, hj, rfl, rfl, zs, hzs, hz, ht, hd, hgw⟩ := hrel
      have hzl := hzs.out
      by_cases hlt : j < xs.length
      · have hel : zs[j]'(by omega) = xs[j] := by
          have h1 : (zs.drop j)[0]? = (xs.drop j)[0]? := by rw [hd.out]
          simp only [List.getElem?_drop, Nat.add_zero] at h1
          rw [List.getElem?_eq_getElem (by omega), List.getElem?_eq_getElem hlt] at h1
          injection h1
        have hce : wr.cell? ⟨g, j, none⟩ = some (i64e xs[j]) := by
          rw [hz.out.cellAt j (by omega), List.getElem?_map, List.getElem?_eq_getElem (by omega), hel]
          rfl
        have hfz := hz.out.frozenAt i
        obtain ⟨u, hci⟩ : ∃ u, wr.cell? ⟨g, i, none⟩ = some u := ⟨i64e (zs[i]'(by omega)), by
          rw [hz.out.cellAt i (by omega), List.getElem?_map, List.getElem?_eq_getElem (by omega)]
          rfl⟩
        have hxb := HBd.out _ (List.getElem_mem hlt)
        have HX := Lib.hid (HC.out wr hgw xs[j] hxb.1 hxb.2)
        have hd' : zs.drop (j + 1) = xs.drop (j + 1) := by rw [← List.drop_drop, hd.out, List.drop_drop]
        by_cases hx : pr xs[j] = true
        · have ht' : Hid (zs.take i = keepP pr (xs.take (j + 1))) := Lib.hid (by rw [take_snoc xs hlt, keepP_snoc, if_pos hx]; exact ht.out)
          have hd' := Lib.hid hd'
          rw [hx] at HX
          clear hel ht hd hzl hx
          go_wp2_with (go_at_call 105; refine HX.out.mono ?_; rintro e w' ⟨rfl, rfl⟩)
          go_roundw
          case rel => exact ⟨i, j + 1, by omega, by omega, rfl, by go_num, zs, hzs, hz, ht', hd', hgw⟩
          case measure => simp [intOf]; omega
        · have hx : pr xs[j] = false := by simpa using hx
          have ht' : Hid ((zs.set i xs[j]).take (i + 1) = keepP pr (xs.take (j + 1))) := Lib.hid (by
            rw [take_snoc xs hlt, keepP_snoc, if_neg (by rw [hx]; simp), ← ht.out]
            rw [take_snoc _ (by rw [List.length_set]; omega), List.getElem_set_self, List.take_set_of_le (Nat.le_refl _)])
          have hd' : Hid ((zs.set i xs[j]).drop (j + 1) = xs.drop (j + 1)) := Lib.hid (by rw [List.drop_set_of_lt (by omega), hd'])
          obtain ⟨hz2, hg2⟩ := hz.out.stored i (i64e xs[j])
          rw [← List.map_set] at hz2
          have hz2 := Lib.hid hz2
          have hg2 := hgw.trans hg2
          have hzs' : Hid ((zs.set i xs[j]).length = xs.length) := Lib.hid (by rw [List.length_set]; exact hzl)
          rw [hx] at HX
          clear hel ht hd hz hzl hx
          go_wp2_with (go_at_call 105; refine HX.out.mono ?_; rintro e w' ⟨rfl, rfl⟩)
          go_roundw
          case rel => exact ⟨i + 1, j + 1, by omega, by omega, by go_num, by go_num, zs.set i xs[j], hzs', hz2, ht', hd', hg2⟩
          case measure => simp [intOf]; omega
      · obtain rfl : j = xs.length := by omega
        have hcap : i < cap := by omega
        have hcl := fun ty => Lib.run_clear_slice (P := Tryz.prog) wr 36 3 ty (.int .i64 0) Tryz.underlying36 (fun _ => by kernel_rfl) rfl rfl g i (xs.length - i) (cap - i) (by omega)
          (fun t ht' => by rw [hz.out.cellAt (i + t) (by omega), List.getElem?_map, List.getElem?_eq_getElem (by omega)]; rfl) (fun t _ => hz.out.frozenAt (i + t))
        obtain ⟨zs', hz2, ht2, hg2⟩ := own_setCells (List.replicate (xs.length - i) (.int .i64 0)) i wr _ hz.out
        have hg2 := hgw.trans hg2
        have hke : Hid ((keepP pr xs) = zs.take i) := Lib.hid (by rw [ht.out, List.take_length])
        have hkl : (keepP pr xs).length = i := by rw [hke.out, List.length_take]; omega
        have hz3 := own_drop_last hz2 (m := i) (by omega) (.inl (by omega))
        rw [ht2, ← List.map_take, ← hke.out] at hz3
        have hz3 := Lib.hid hz3
        have hkl := Lib.hid hkl
        clear hz2 ht2 hzl ht hd hz
        go_wp2_with fail
        go_ret
        exact ⟨_, rfl, by rw [hkl.out]; exact hz3.out, hg2, rfl⟩
  · have hno : ∀ x ∈ xs, pr x = false := fun x hx => by
      rcases hb : pr x with _ | _
      · rfl
      · exact absurd (List.any_eq_true.2 ⟨x, hx, hb⟩) hany
    have hix : ixP pr xs = -1 := by unfold ixP; rw [if_neg hany]
    rw [hix] at hidx
    have hke := Lib.hid (keepP_all hno)
    have hidx := Lib.hid hidx
    have hown := Lib.hid hown
    clear hno hix hany HC
    go_enter Tryz.func77, Tryz.ntmps77
    go_wp2_with fail
    refine hidx.out.mono ?_
    rintro e w' ⟨rfl, rfl⟩
    go_wp2_with fail
    go_ret
    exact ⟨_, rfl, by rw [hke.out]; exact hown.out, World.grownBy.refl _ _, rfl⟩

theorem begin1_index (B : Nat) (pr : Int → Bool) (v : Value) (xs : List Int) (w : World) (hv : Rd i64e w v xs) (hl : xs.length ≤ 1099511627776) (hbd : ∀ x ∈ xs, -9223372036854775808 ≤ x ∧ x ≤ 9223372036854775807)
    (HC : ∀ wx, Below w.heap.size w wx → ∀ x, -9223372036854775808 ≤ x → x ≤ 9223372036854775807 → Calls Tryz.prog 69 #[.int .i64 x, .pointer (some ⟨B, 0, none⟩)] wx fun e w' => e = .returned (.bool (pr x)) ∧ Below wx.heap.size wx w') :
    Calls Tryz.prog 97 #[v, .func (.func 69) #[] #[.pointer (some ⟨B, 0, none⟩)]] w fun e w' => e = .returned (.int .i64 (ixP pr xs)) ∧ Below w.heap.size w w' := by
  obtain ⟨A, c, rfl, _⟩ := hv.len
  have HBd := Lib.hid hbd
  replace HC := Lib.hid HC
  clear hbd
  go_enter Tryz.func97, Tryz.ntmps97
  go_wp2_with fail
  go_loopw [8] (fun i wr => ∃ k : Nat, k ≤ xs.length ∧ i = .int .i64 k ∧ Hid (∀ j (hj : j < xs.length), j < k → pr xs[j] = false) ∧ Below w.heap.size w wr) (fun i _ => xs.length - (intOf i).toNat)
  case atStart => exact ⟨0, by omega, rfl, Lib.hid fun j _ h => by omega, Below.refl _ _⟩
  case round =>
    obtain ⟨k, hk, rfl, hno, hb⟩ := hrel
    by_cases hlt : k < xs.length
    · obtain ⟨b, o, rfl, _, hc⟩ := (hv.below hb).at_ hlt
      have hxb := HBd.out _ (List.getElem_mem hlt)
      have HX := Lib.hid (HC.out wr hb xs[k] hxb.1 hxb.2)
      by_cases hx : pr xs[k] = true
      · have hi := Lib.hid (ixP_here (pr := pr) hlt hx hno.out)
        rw [hx] at HX
        clear hno hx
        go_wp2_with (go_at_call 69; refine HX.out.mono ?_; rintro e w2 ⟨rfl, b2⟩)
        go_ret
        exact ⟨ret_int hi.out.symm, hb.trans (b2.mono hb.size)⟩
      · have hx : pr xs[k] = false := by simpa using hx
        have hno' : Hid (∀ j (hj : j < xs.length), j < k + 1 → pr xs[j] = false) := Lib.hid fun j hj h => by
          rcases Nat.lt_or_ge j k with h1 | h1
          · exact hno.out j hj h1
          · have : j = k := by omega
            subst this; exact hx
        rw [hx] at HX
        clear hno hx
        go_wp2_with (go_at_call 69; refine HX.out.mono ?_; rintro e w2 ⟨rfl, b2⟩)
        go_roundw
        case rel => exact ⟨k + 1, by omega, by go_num, hno', hb.trans (b2.mono hb.size)⟩
        case measure => simp [intOf]; omega
    · have hi := Lib.hid (ixP_none (pr := pr) (xs := xs) fun j hj => hno.out j hj (by omega))
      clear hno
      go_wp2_with fail
      go_ret
      exact ⟨ret_int hi.out.symm, hb⟩

theorem ixP_has (pr : Int → Bool) (xs : List Int) : decide (0 ≤ ixP pr xs) = xs.any pr := by
  unfold ixP
  split
  · next h => rw [h, decide_eq_true_iff]; omega
  · next h => rw [Bool.not_eq_true] at h; rw [h]; rfl
theorem begin1_contains (B : Nat) (pr : Int → Bool) (v : Value) (xs : List Int) (w : World) (hv : Rd i64e w v xs) (hl : xs.length ≤ 1099511627776) (hbd : ∀ x ∈ xs, -9223372036854775808 ≤ x ∧ x ≤ 9223372036854775807)
    (HC : ∀ wx, Below w.heap.size w wx → ∀ x, -9223372036854775808 ≤ x → x ≤ 9223372036854775807 → Calls Tryz.prog 69 #[.int .i64 x, .pointer (some ⟨B, 0, none⟩)] wx fun e w' => e = .returned (.bool (pr x)) ∧ Below wx.heap.size wx w') :
    Calls Tryz.prog 68 #[v, .func (.func 69) #[] #[.pointer (some ⟨B, 0, none⟩)]] w fun e w' => e = .returned (.bool (xs.any pr)) ∧ Below w.heap.size w w' := by
  rw [← ixP_has]
  have HI := Lib.hid (begin1_index B pr v xs w hv hl hbd HC)
  clear HC hv
  obtain ⟨i, hi⟩ : ∃ i, ixP pr xs = i := ⟨_, rfl⟩
  rw [hi] at HI ⊢
  clear hi
  go_enter Tryz.func68, Tryz.ntmps68
  go_wp2_with fail
  refine HI.out.mono ?_
  rintro e w1 ⟨rfl, b1⟩
  go_wp2_with fail
  go_ret
  exact ⟨rfl, b1⟩
end Go.Proofs.YtcaboknbdamlhaaGreatDoor
namespace Go.Proofs.YtcaboknbdamlhaaGreatDoor
open Go.RowKit Go.Shelf
def mMade (S : HS) (K : MK) (p : Int) : MK := if (mKnown S K p).1 = true then { mSee K p with greys := keepP (fun x => x == p) K.greys } else K
theorem known_bd {S : HS} (I : Inv0 S) {K : MK} {p : Int} (h1 : (mKnown S K p).1 = true) : 1 ≤ p ∧ p ≤ 4096 := by
  unfold mKnown at h1
  split at h1
  · cases h1
  · split at h1
    · next h3 => exact mis_bd I h3
    · cases h1
theorem made_gi {S : HS} {K : MK} (G : GInv K) (p : Int) : GInv (mMade S K p) := by
  unfold mMade
  split
  · refine ⟨G.nd.filter _, fun x hx => ?_, fun x hx => G.bd x (List.mem_filter.1 hx).1⟩
    show (x == p || K.seen x) = true
    rw [G.sn x (List.mem_filter.1 hx).1]; simp
  · exact G
theorem made1_clo (B : Nat) (p x : Int) (w : World) (hB : w.cell? ⟨B, 0, none⟩ = some (.int .i64 p)) :
    Calls Tryz.prog 78 #[.int .i64 x, .pointer (some ⟨B, 0, none⟩)] w fun e w' => e = .returned (.bool (x == p)) ∧ w = w' := by
  go_enter Tryz.func78, Tryz.ntmps78
  go_wp2_with fail
  go_ret
  exact ⟨rfl, rfl⟩
/-- Both slices of the marks are others now: what has changed. -/
theorem mstep {w w2 w4 : World} {m h : Nat} {K : MK} {D : Nat → Prop} {vs vg u u' : Value} (M : MIn w2 m h K D vs vg) (b : Below w.heap.size w w2) (hg : (w2.setCell ⟨m, 2, none⟩ u).grownBy w4 vg.ownBlock)
    (hu : ∀ k, u.ownBlock = some k → D k ∨ w.heap.size ≤ k) (hv : ∀ k, u'.ownBlock = some k → D k ∨ w.heap.size ≤ k) : Step D w (w4.setCell ⟨m, 3, none⟩ u') (fun k => (D k ∨ u.ownBlock = some k) ∨ u'.ownBlock = some k) := by
  refine ⟨⟨hg.os.trans b.os, hg.tape.trans b.tape, hg.output.trans b.output, ?_, fun k hk hn => ?_⟩, fun k hk => ?_⟩
  · have := hg.size
    rw [setCell_size] at this ⊢
    exact Nat.le_trans b.size this
  · have hkm : k ≠ m := fun e => hn (e ▸ M.dm)
    have hk2 : k < w2.heap.size := Nat.lt_of_lt_of_le hk b.size
    rw [setCell_other w4 m 3 _ hkm, hg.block k (by rw [setCell_size]; exact hk2) (fun e => hn (M.dg k e.symm)), setCell_other w2 m 2 _ hkm]
    exact b.block k hk
  · rcases hk with (hk | hk) | hk
    · exact .inl hk
    · exact hu k hk
    · exact hv k hk
set_option maxHeartbeats 1600000 in
set_option maxRecDepth 100000 in
theorem made_m (m h : Nat) (S : HS) (F : Nat → Prop) (K : MK) (D : Nat → Prop) (w : World) (H : MAt w m h S F K D) (p : Int) (hp0 : -9223372036854775808 ≤ p) (hp : p ≤ 9223372036854775807) :
    Calls Tryz.prog 43 #[.pointer (some ⟨m, 0, none⟩), .int .i64 p] w (MRet m h S F (mMade S K p) D w (.int .i64 (mKnown S K p).2)) := by
  have HK := Lib.hid (fun wx (HX : MAt wx m h S F K D) => known_m m h S F K D wx HX p hp0 hp)
  have hgi := Lib.hid (made_gi (S := S) H.gi p)
  have hmd : Hid (∀ _ : Nat, (mKnown S K p).1 = true → 1 ≤ p ∧ p ≤ 4096) := Lib.hid fun _ h1 => known_bd H.hp.inv.toInv0 h1
  unfold mMade at hgi ⊢
  obtain ⟨⟨is, er⟩, hk⟩ : ∃ r, mKnown S K p = r := ⟨_, rfl⟩
  rw [hk] at HK hgi hmd ⊢
  dsimp only at HK hgi hmd ⊢
  replace hk := Lib.hid hk
  have hdl := Lib.hid H.dlt
  replace H := Lib.hid H
  rcases is with _ | _
  · simp only [Bool.false_eq_true, if_false]
    go_enter Tryz.func43, Tryz.ntmps43
    go_wp2_with fail
    have hb := below_alloc w (.cells #[.int .i64 p] 3)
    refine (HK.out _ (H.out.below hb)).mono ?_
    rintro e w1 ⟨rfl, b1⟩
    have b1 := below_all hb b1
    clear hb
    go_wp2_with fail
    go_ret
    exact ⟨rfl, D, H.out.below b1, Step.of_below b1⟩
  simp only [if_true] at hgi ⊢
  have hpb := hmd.out 0 rfl
  clear hmd
  go_enter Tryz.func43, Tryz.ntmps43
  go_wp2_with fail
  have hb := below_alloc w (.cells #[.int .i64 p] 3)
  refine (HK.out _ (H.out.below hb)).mono ?_
  rintro e w1 ⟨rfl, b1⟩
  have B1 : Blk w1 w.heap.size 3 #[.int .i64 p] := (Blk.new w _ _).below b1 (by simp)
  have hBl := B1.lt
  have b1 := below_all hb b1
  have H1 := H.out.below b1
  obtain ⟨vs, vg, M⟩ := H1.mrk
  obtain ⟨zs, hz, hu, hzl, hzb⟩ := M.bits
  obtain ⟨As, cs, rfl, -⟩ := hz.len
  have HP := Lib.hid (fun wx (bx : Below w1.heap.size w1 wx) => bput_ok _ zs p true wx (hz.below bx) (by omega) hu hp hp0)
  have c2 : w1.cell? ⟨m, 2, none⟩ = some (.slice As zs.length cs) := M.blk.cell 2
  have cB : w1.cell? ⟨w.heap.size, 0, none⟩ = some (.int .i64 p) := B1.cell 0
  have hml := M.blk.lt
  replace hzb := Lib.hid hzb
  replace hz := Lib.hid hz
  replace hu := Lib.hid hu
  replace M := Lib.hid M
  replace H1 := Lib.hid H1
  replace B1 := Lib.hid B1
  clear hb
  go_wp2_with fail
  have hS0 : (fun X : World => Below w1.heap.size w1 X) w1.drew := (Below.refl _ _).drew
  refine wp_T (by kernel_rfl) 9 (fun X : World => Below w1.heap.size w1 X) ?_
  refine wpAnyT_takeW (i := 0) (v := .pointer (some ⟨m, 0, none⟩)) rfl (by kernel_rfl) (fun _ _ _ hp => hp) (Or.inl ⟨by rfl, fun X _ => by go_simp⟩) hS0 ?_
  simp only [Act.put, List.setIfInBounds_toArray, List.set_cons_zero, List.set_cons_succ]
  refine wpAnyT_takeW (i := 1) (v := .pointer (some ⟨m, 0, none⟩)) rfl (by kernel_rfl) (fun _ _ _ hp => hp) (Or.inl ⟨by rfl, fun X _ => by go_simp⟩) hS0 ?_
  simp only [Act.put, List.setIfInBounds_toArray, List.set_cons_zero, List.set_cons_succ]
  refine wpAnyT_takeW (i := 2) (v := .pointer (some ⟨m, 0, none⟩)) rfl (by kernel_rfl) (fun _ _ _ hp => hp) (Or.inl ⟨by rfl, fun X _ => by go_simp⟩) hS0 ?_
  simp only [Act.put, List.setIfInBounds_toArray, List.set_cons_zero, List.set_cons_succ]
  refine wpAnyT_takeW (i := 3) (v := .pointer (some ⟨m, 2, none⟩)) rfl (by kernel_rfl) (fun _ _ _ hp => hp) (Or.inl ⟨by rfl, fun X _ => by go_simp⟩) hS0 ?_
  simp only [Act.put, List.setIfInBounds_toArray, List.set_cons_zero, List.set_cons_succ]
  refine wpAnyT_take (i := 4) (v := .slice As zs.length cs) rfl (by kernel_rfl) (fun _ _ _ hp => hp) (Or.inl ⟨by rfl, fun X hX => by have y1 := (hX.cell (p := ⟨m, 2, none⟩) hml).trans c2; go_simp⟩) hS0 ?_
  simp only [Act.put, List.setIfInBounds_toArray, List.set_cons_zero, List.set_cons_succ]
  refine wpAnyT_take (i := 5) (v := .int .i64 p) rfl (by kernel_rfl) (fun _ _ _ hp => hp) (Or.inl ⟨by rfl, fun X hX => by have y1 := (hX.cell (p := ⟨w.heap.size, 0, none⟩) hBl).trans cB; go_simp⟩) hS0 ?_
  simp only [Act.put, List.setIfInBounds_toArray, List.set_cons_zero, List.set_cons_succ]
  refine wpAnyT_one (i := 6) rfl (by kernel_rfl) (by rfl) ?_
  intro K1 hK1
  go_simp
  refine (HP.out _ hS0).mono ?_
  rintro e w2 ⟨v2, ys, rfl, R2, P2, F2, hb2⟩
  dsimp only
  have hS1 : (fun X : World => Below w1.heap.size w1 X) w2 := Below.trans hS0 (Below.mono hb2 (Below.size hS0))
  refine hK1.out _ _ (fun _ => hS1) ?_
  (try simp only [Act.put, List.setIfInBounds_toArray, List.set_cons_zero, List.set_cons_succ])
  refine wpAnyT_takeW (i := 7) (v := .pointer (some ⟨m, 0, none⟩)) rfl (by kernel_rfl) (fun _ _ _ hp => hp) (Or.inl ⟨by rfl, fun X _ => by go_simp⟩) hS1 ?_
  simp only [Act.put, List.setIfInBounds_toArray, List.set_cons_zero, List.set_cons_succ]
  refine wpAnyT_takeW (i := 8) (v := .pointer (some ⟨m, 2, none⟩)) rfl (by kernel_rfl) (fun _ _ _ hp => hp) (Or.inl ⟨by rfl, fun X _ => by go_simp⟩) hS1 ?_
  simp only [Act.put, List.setIfInBounds_toArray, List.set_cons_zero, List.set_cons_succ]
  refine wpAnyT_one (i := 9) rfl (by kernel_rfl) (by rfl) ?_
  intro K2 hK2
  obtain ⟨A2, cc2, rfl, -⟩ := R2.len
  have M2 := M.out.below hS1
  have fz2 := M2.blk.frozen 2
  have c2' : w2.cell? ⟨m, 2, none⟩ = some (.slice As zs.length cs) := M2.blk.cell 2
  replace M2 := Lib.hid M2
  go_simp
  refine hK2.out _ _ (fun hh => absurd rfl hh) ?_
  (try simp only [Act.put, List.setIfInBounds_toArray, List.set_cons_zero, List.set_cons_succ])
  refine wpAnyT_done (by kernel_rfl) ?_ _
  (try simp only [Act.put, List.setIfInBounds_toArray, List.set_cons_zero, List.set_cons_succ])
  clear hK1 K1 hK2 K2
  have hbit : bitAt ys p.toNat = true := by rw [P2.2.2.2, if_pos ⟨by omega, by omega⟩]
  have hyl : 0 < ys.length := by
    rcases ys with _ | ⟨y, ys⟩
    · simp [bitAt] at hbit
    · simp
  have hw12 : w1.heap.size ≤ w2.heap.size := Below.size hS1
  have hdr : w1.drew.heap.size = w1.heap.size := rfl
  have hF2 : ∀ b, (Value.slice A2 ys.length cc2).ownBlock = some b → w1.heap.size ≤ b := fun b e => by have := F2 b e; omega
  have hlt : ∀ b, (Value.slice A2 ys.length cc2).ownBlock = some b → b < w2.heap.size ∧ ¬ D b := fun b e => by
    obtain ⟨b', o, rfl, hl, _⟩ := R2.at_ hyl
    have : b' = b := by simpa [Value.ownBlock] using e
    have h3 := hF2 b e
    exact ⟨by omega, fun hD => by have := M.out.lt b hD; omega⟩
  have hys := see_bits hpb hzb.out P2
  have Ms := Lib.hid (M2.out.set_seen R2 P2.1 (by have := P2.2.2.1; omega) hys hlt (fun x hx => by rw [M2.out.gi.sn x hx]; simp))
  obtain ⟨Ag, cg, rfl, -⟩ := own_form M2.out.greys
  have c3 : w2.cell? ⟨m, 3, none⟩ = some (.slice Ag K.greys.length cg) := M2.out.blk.cell 3
  have hnD : ¬ D w.heap.size := fun hD => by have := hdl.out _ hD; omega
  have hog : Hid ((w2.setCell ⟨m, 2, none⟩ (.slice A2 ys.length cc2)).ownsRow 0 3 1 (.slice Ag K.greys.length cg) K.greys.length (K.greys.map i64e)) := Lib.hid Ms.out.greys
  have cB2 : (w2.setCell ⟨m, 2, none⟩ (.slice A2 ys.length cc2)).cell? ⟨w.heap.size, 0, none⟩ = some (.int .i64 p) := by
    rw [← cB, ← World.cell?_of_block (Below.block hS1 _ hBl)]
    exact World.cell?_of_block (setCell_other w2 m 2 _ (fun e => hnD (by have e2 : w.heap.size = m := e; rw [e2]; exact M.out.dm)))
  have hgl := M2.out.gi.len
  have hbd := M2.out.gi.bd
  have b2 := b1.trans (Below.mono hS1 b1.size)
  have HD := Lib.hid (made1_delete w.heap.size 0 (fun x => x == p) (.slice Ag K.greys.length cg) K.greys (w2.setCell ⟨m, 2, none⟩ (.slice A2 ys.length cc2)) hog.out (by omega) (fun x hx => by have := hbd x hx; omega) (fun wx hgx x _ _ => made1_clo w.heap.size p x wx (by
    rw [← cB2]
    exact World.cell?_of_block (hgx.block _ (World.block_lt_of_cell? _ _ cB2) (fun e => hnD (M.out.dg _ e.symm))))))
  have hF3 : Hid (∀ b, (Value.slice A2 ys.length cc2).ownBlock = some b → w.heap.size ≤ b) := Lib.hid fun b e => Nat.le_trans b1.size (hF2 b e)
  clear hbit hyl hlt hys F2 P2 R2 hF2 hdr hbd hog c2' fz2 c2 cB hS0 hS1
  go_wp2_with fail
  refine HD.out.mono ?_
  rintro e w3 ⟨v3, rfl, hown, hg, hvb⟩
  have hvk : Hid (∀ k, v3.ownBlock = some k → D k ∨ w.heap.size ≤ k) := Lib.hid fun k e => .inl (M.out.dg k (by rw [← hvb]; exact e))
  obtain ⟨A3, cc3, rfl, -⟩ := own_form hown
  have hB4 : Blk w3 m 123 (mcells h K.on (.slice A2 ys.length cc2) (.slice Ag K.greys.length cg)) := Ms.out.blk.grown hg (fun e => Ms.out.nm e.symm)
  have fz3 := hB4.frozen 3
  have c3' : w3.cell? ⟨m, 3, none⟩ = some (.slice Ag K.greys.length cg) := hB4.cell 3
  have Mg := Lib.hid (Ms.out.set_greys hg hown (fun b e => .inl (by rw [← hvb]; exact e)) hgi.out.nd hgi.out.sn hgi.out.bd)
  have hfr := Lib.hid (mstep (u' := .slice A3 (keepP (fun x => x == p) K.greys).length cc3) M2.out b2 hg (fun k e => .inr (hF3.out k e)) hvk.out)
  clear hB4 hown hg hvb
  go_wp2_with fail
  go_ret
  exact ⟨rfl, _, H.out.marks Mg.out hfr.out, hfr.out⟩
end Go.Proofs.YtcaboknbdamlhaaGreatDoor
namespace Go.Proofs.YtcaboknbdamlhaaGreatDoor
open Go.RowKit
def setAll : List Value → Nat → List Value → List Value
  | zs, _, [] => zs
  | zs, o, u :: us => setAll (zs.set o u) (o + 1) us
theorem setAll_take : ∀ (us zs : List Value) (o : Nat), o + us.length ≤ zs.length → (setAll zs o us).take (o + us.length) = zs.take o ++ us
  | [], zs, o, _ => by simp [setAll]
  | u :: us, zs, o, h => by
    have := setAll_take us (zs.set o u) (o + 1) (by simp at h ⊢; omega)
    rw [List.length_cons, show o + (us.length + 1) = o + 1 + us.length by omega]
    show (setAll (zs.set o u) (o + 1) us).take _ = _
    rw [this]
    have ho : o < zs.length := by simp at h; omega
    rw [List.take_add_one, List.take_set_of_le (Nat.le_refl _)]
    simp [ho]
theorem setAll_len : ∀ (us zs : List Value) (o : Nat), (setAll zs o us).length = zs.length
  | [], zs, o => rfl
  | u :: us, zs, o => by
    show (setAll (zs.set o u) (o + 1) us).length = _
    rw [setAll_len us]
    simp
theorem own_setAll {B : Nat} {e : TypeId} {g cap n : Nat} : ∀ (us : List Value) (o : Nat) (w : World) (zs : List Value), w.ownsRow B e 1 (.slice (some ⟨g, 0, none⟩) n cap) n zs →
    (w.setCells g o us).ownsRow B e 1 (.slice (some ⟨g, 0, none⟩) n cap) n (setAll zs o us) ∧ w.grownBy (w.setCells g o us) (some g)
  | [], o, w, zs, h => ⟨h, World.grownBy.refl _ _⟩
  | u :: us, o, w, zs, h => by
    obtain ⟨h1, hg1⟩ := h.stored o u
    obtain ⟨h2, hg2⟩ := own_setAll us (o + 1) _ _ h1
    exact ⟨h2, hg1.trans hg2⟩
set_option maxHeartbeats 4000000 in
set_option maxRecDepth 1000000 in
theorem delete_ok (base : Nat) (v : Value) (x : Int) (xs : List Int) (w : World) (hown : w.ownsRow base 3 1 v (xs.length + 1) ((x :: xs).map i64e)) (hl : xs.length ≤ 1099511627776) :
    Calls Tryz.prog 104 #[v, .int .i64 0, .int .i64 1] w fun e w' => ∃ v', e = .returned v' ∧ w'.ownsRow base 3 1 v' xs.length (xs.map i64e) ∧ w.grownBy w' v.ownBlock ∧ v'.ownBlock = v.ownBlock := by
  rcases hown.2 with ⟨rfl, h0⟩ | ⟨g, cap, cur, rfl, hg, hh, hnc, hcm, hcs, htk⟩
  · omega
  obtain ⟨i0, hi0, hz0, hz1, hz2⟩ := info_parts int_info
  obtain ⟨L, hL⟩ : ∃ L, xs.length = L := ⟨_, rfl⟩
  obtain ⟨news, hnews⟩ : ∃ news, news = xs.map i64e := ⟨_, rfl⟩
  have hlen : news.length = L := by rw [hnews, ← hL]; simp
  rw [hL] at hown hnc hl ⊢
  have hcell : ∀ t, t < L → w.cell? ⟨g, 1 + t, none⟩ = news[t]? := fun t ht => by
    rw [hown.cellAt (1 + t) (by omega), hnews, Nat.add_comm]
    rfl
  have hcell0 : ∀ t, t < L + 1 → (w.cell? ⟨g, t, none⟩).isSome = true := fun t ht => by
    rw [hown.cellAt t (by omega), List.getElem?_eq_getElem (by simp [hL]; omega)]
    rfl
  obtain ⟨A, hA, hsrc⟩ : ∃ A : Addr, (if cap = 1 then (some (⟨g, 0, none⟩ : Addr)) else some ⟨g, 0 + 1, none⟩) = some A ∧ Hid (∀ t u, news[t]? = some u → w.drew.cell? (A.add t) = some u) := by
    by_cases h : cap = 1
    · refine ⟨⟨g, 0, none⟩, by simp [h], fun t u hu => ?_⟩
      have h0 : news.length = 0 := by omega
      rw [List.length_eq_zero_iff.1 h0] at hu
      simp at hu
    · refine ⟨⟨g, 0 + 1, none⟩, by simp [h], fun t u hu => ?_⟩
      have ht : t < L := by
        have := (List.getElem?_eq_some_iff.1 hu).1
        omega
      rw [Addr.add_lit, show 0 + 1 + t = 1 + t by omega]
      exact (hcell t ht).trans hu
  have s1 : Hid (news.length = L * 1) := Lib.hid (by omega)
  have s2 : Hid (∀ u ∈ news, u.oneCell' = true) := Lib.hid (by
    intro u hu
    rw [hnews] at hu
    obtain ⟨x, _, rfl⟩ := List.mem_map.1 hu
    rfl)
  have s3 : Hid (∀ t, t < news.length → (w.drew.cell? ⟨g, 0 + 0 * 1 + t, none⟩).isSome = true ∧ w.drew.frozen? ⟨g, 0 + 0 * 1 + t, none⟩ = false) := Lib.hid (by
    intro t ht
    rw [show 0 + 0 * 1 + t = t by omega]
    exact ⟨hcell0 t (by omega), hown.frozenAt t⟩)
  obtain ⟨W1, hW1⟩ : ∃ W1, W1 = w.drew.setCells g (0 + 0 * 1) news := ⟨_, rfl⟩
  obtain ⟨ho1, hg1⟩ := own_setAll (n := L + 1) (cap := cap) (B := base) (e := 3) news (0 + 0 * 1) w.drew ((x :: xs).map i64e) hown.drew
  rw [← hW1] at ho1 hg1
  have hzl : (setAll ((x :: xs).map i64e) (0 + 0 * 1) news).length = L + 1 := by rw [setAll_len]; simp [hL]
  obtain ⟨W2, hW2⟩ : ∃ W2, W2 = W1.setCells g L (List.replicate 1 (.int .i64 0)) := ⟨_, rfl⟩
  have hcl : ∀ ty, (Builtin.clear_ #[36] ty #[.slice (some ⟨g, L, none⟩) 1 (cap - L)]).run Tryz.prog W1 = .ok (.tuple #[]) W2 :=
    fun ty => by
      rw [hW2]
      exact Lib.run_clear_slice (P := Tryz.prog) W1 36 3 ty (.int .i64 0) Tryz.underlying36 (fun _ => by kernel_rfl) rfl rfl g L 1 (cap - L) (by omega)
        (fun t ht => by rw [ho1.cellAt (L + t) (by omega), List.getElem?_eq_getElem (by omega)]; rfl) (fun t _ => ho1.frozenAt (L + t))
  obtain ⟨zs', hz2, ht2, hg2⟩ := own_setCells (List.replicate 1 (.int .i64 0)) L W1 _ ho1
  have hz3 := own_drop_last hz2 (m := L) (by omega) (.inl (by omega))
  have hst := setAll_take news ((x :: xs).map i64e) (0 + 0 * 1) (by simp [hL]; omega)
  rw [ht2] at hz3
  rw [show 0 + 0 * 1 + news.length = L by omega] at hst
  rw [hst, show (0 + 0 * 1) = 0 by omega, List.take_zero, List.nil_append, hnews, ← hW2] at hz3
  rw [← hW2] at hg2
  have hgr : w.grownBy W2 (some g) := World.grownBy.trans ⟨hg1.os, hg1.tape, hg1.output, hg1.size, hg1.block⟩ hg2
  replace hW1 := Lib.hid hW1
  replace hz3 := Lib.hid hz3
  replace hgr := Lib.hid hgr
  replace hL := Lib.hid hL
  have h1L : (1 : Int) ≤ (L : Int) + 1 := by omega
  have h2L : (L : Int) ≤ (L : Int) + 1 := by omega
  have h3L : (1 : Int) ≤ (cap : Int) := by omega
  clear hW2 ho1 hg1 hzl hz2 ht2 hg2 hst hcell hcell0 hown hnews hlen hh hcs htk
  go_enter Tryz.func104, Tryz.ntmps104
  go_wp2_with fail
  go_region_law (refine step_append_room rfl (.tmp 22) (.tmp 25) 36 rfl 3 i0 1 Tryz.underlying36 hi0 hz1 g 0 0 cap (by simp [Act.eval, Act.put]) A L (cap - 1) news (by simp [Act.eval, Act.put]) s1.out hsrc.out s2.out (by omega) s3.out ?_; rw [← hW1.out])
  go_wp2_with fail
  go_ret
  exact ⟨_, rfl, hz3.out, hgr.out, rfl⟩
end Go.Proofs.YtcaboknbdamlhaaGreatDoor
namespace Go.Proofs.YtcaboknbdamlhaaGreatDoor
open Go.RowKit Go.Shelf
def mBit (mask : Int) (f : Nat) : Bool := !(bits BinOp.and IntKind.u8 (mask / 2 ^ f) 1 == 0)
/-- The first j words of an object are looked through: what is left, and what went wrong. -/
def mScan (S : HS) (p mask : Int) (K : MK) : Nat → MK × Int
  | 0 => (K, 0)
  | j + 1 => if (mScan S p mask K j).2 ≠ 0 ∨ mBit mask j = false then mScan S p mask K j
    else (mShade S (mScan S p mask K j).1 (sLoad S p j).1, (mKnown S (mScan S p mask K j).1 (sLoad S p j).1).2)
theorem scan_stop {S : HS} {p mask : Int} {K : MK} {j : Nat} (h : (mScan S p mask K j).2 ≠ 0) : ∀ k, mScan S p mask K (j + k) = mScan S p mask K j
  | 0 => rfl
  | k + 1 => by
    show (if (mScan S p mask K (j + k)).2 ≠ 0 ∨ mBit mask (j + k) = false then mScan S p mask K (j + k) else _) = _
    rw [if_pos (.inl (by rw [scan_stop h k]; exact h)), scan_stop h k]
def mStep (S : HS) (K : MK) : (Bool × Int) × MK :=
  if K.on = false then ((false, 0), K) else match K.greys with
    | [] => ((false, 0), K)
    | p :: gs => if (mScan S p (sSize S p).2.1 { K with greys := gs } (sSize S p).1.toNat).2 = 0 then ((true, 0), (mScan S p (sSize S p).2.1 { K with greys := gs } (sSize S p).1.toNat).1)
      else ((false, (mScan S p (sSize S p).2.1 { K with greys := gs } (sSize S p).1.toNat).2), (mScan S p (sSize S p).2.1 { K with greys := gs } (sSize S p).1.toNat).1)
theorem size_bd {S : HS} (I : Inv0 S) (p : Int) : 0 ≤ (sSize S p).1 ∧ (sSize S p).1 ≤ 6 ∧ 0 ≤ (sSize S p).2.1 ∧ (sSize S p).2.1 ≤ 255 := by
  rcases I.size_cases p with ⟨e, _⟩ | ⟨o, ho, rfl, e⟩
  · rw [e]; simp
  · have := I.ob o ho
    rw [e]
    dsimp only
    omega
theorem load_bd {S : HS} (I : Inv0 S) (p f : Int) : -9223372036854775808 ≤ (sLoad S p f).1 ∧ (sLoad S p f).1 ≤ 9223372036854775807 := by
  unfold sLoad
  split
  · dsimp only
    simp only [List.getD]
    rcases Nat.lt_or_ge (p + f).toNat S.words.length with hj | hj
    · rw [List.getElem?_eq_getElem hj]
      exact I.wb _ (List.getElem_mem hj)
    · rw [List.getElem?_eq_none hj]
      simp
  · simp
theorem load_ok_in {S : HS} (I : Inv0 S) {p : Int} {j : Nat} (h : (j : Int) < (sSize S p).1) : (sLoad S p j).2 = 0 := by
  rcases I.size_cases p with ⟨e, _⟩ | ⟨o, ho, rfl, e⟩
  · rw [e] at h; simp at h; omega
  · rw [e] at h
    rw [I.load_in ho (by omega) h]
theorem known_er (S : HS) (K : MK) (p : Int) : (mKnown S K p).2 = 0 ∨ (mKnown S K p).2 = 11 := by
  unfold mKnown
  split
  · exact .inl rfl
  · split
    · exact .inl rfl
    · exact .inr rfl
set_option maxHeartbeats 3200000 in
set_option maxRecDepth 100000 in
theorem step_m (m h : Nat) (S : HS) (F : Nat → Prop) (K : MK) (D : Nat → Prop) (w : World) (H : MAt w m h S F K D) :
    Calls Tryz.prog 79 #[.pointer (some ⟨m, 0, none⟩)] w (MRet m h S F (mStep S K).2 D w (.tuple #[.bool (mStep S K).1.1, .int .i64 (mStep S K).1.2])) := by
  have HG := Lib.hid (good_m m h S F K D w H)
  have I := Lib.hid H.hp.inv.toInv0
  obtain ⟨vs, vg, M⟩ := H.mrk
  obtain ⟨Ag, cg, rfl, -⟩ := own_form M.greys
  have hgl := M.gi.len
  have hbd := M.gi.bd
  obtain ⟨on, sn, gs⟩ := K
  have c0 : w.cell? ⟨m, 0, none⟩ = some (.pointer (some ⟨h, 0, none⟩)) := M.blk.cell 0
  have c1 : w.cell? ⟨m, 1, none⟩ = some (.bool on) := M.blk.cell 1
  have c3 : w.cell? ⟨m, 3, none⟩ = some (.slice Ag gs.length cg) := M.blk.cell 3
  dsimp only at hgl hbd
  replace H := Lib.hid H
  rcases on with _ | _
  · rw [show mStep S ⟨false, sn, gs⟩ = ((false, 0), ⟨false, sn, gs⟩) from rfl]
    go_enter Tryz.func79, Tryz.ntmps79
    go_wp2_with fail
    refine HG.out.mono ?_
    rintro e w' ⟨rfl, rfl⟩
    go_wp2_with fail
    go_ret2
    exact ⟨rfl, D, H.out, Step.refl _ _⟩
  rcases gs with _ | ⟨p, gs⟩
  · rw [show mStep S ⟨true, sn, []⟩ = ((false, 0), ⟨true, sn, []⟩) from rfl]
    go_enter Tryz.func79, Tryz.ntmps79
    go_wp2_with fail
    refine HG.out.mono ?_
    rintro e w' ⟨rfl, rfl⟩
    go_wp2_with fail
    go_ret2
    exact ⟨rfl, D, H.out, Step.refl _ _⟩
  have hpb := hbd p (by simp)
  obtain ⟨⟨n0, mask, is⟩, hr⟩ : ∃ r, sSize S p = r := ⟨_, rfl⟩
  have hsb := size_bd I.out p
  have hst : ∀ K9 e9, mScan S p mask ⟨true, sn, gs⟩ n0.toNat = (K9, e9) → mStep S ⟨true, sn, p :: gs⟩ = ((decide (e9 = 0), e9), K9) := fun K9 e9 h9 => by
    unfold mStep
    rw [if_neg (by simp)]
    dsimp only
    rw [hr]
    dsimp only
    rw [h9]
    by_cases e : e9 = 0
    · rw [if_pos e, e]; rfl
    · rw [if_neg e, decide_eq_false e]
  rw [hr] at hsb
  dsimp only at hsb
  obtain ⟨⟨⟨rb, re⟩, K9⟩, hres⟩ : ∃ r, mStep S ⟨true, sn, p :: gs⟩ = r := ⟨_, rfl⟩
  rw [hres] at hst ⊢
  dsimp only at ⊢
  clear hres
  obtain ⟨n, rfl⟩ : ∃ n : Nat, n0 = (n : Int) := ⟨n0.toNat, by omega⟩
  obtain ⟨hs1, hs2, hs3, hs4⟩ := hsb
  have hloads := Lib.hid (fun j (hj : j < n) => load_ok_in (p := p) (j := j) I.out (by rw [hr]; show (j : Int) < (n : Int); omega))
  have hlbd := Lib.hid (load_bd I.out p)
  rw [Int.toNat_natCast] at hst
  replace hst := Lib.hid hst
  have htl : (p :: gs).length = gs.length + 1 := rfl
  rw [htl] at c3 hgl
  have cp : ∃ g, Ag = some ⟨g, 0, none⟩ ∧ w.cell? ⟨g, 0, none⟩ = some (.int .i64 p) := by
    obtain ⟨g, e, _⟩ := own_addr M.greys (by simp)
    refine ⟨g, e, ?_⟩
    have := M.greys
    rw [e] at this
    rw [this.cellAt 0 (by simp)]
    rfl
  obtain ⟨g, rfl, cp⟩ := cp
  have hog := Lib.hid (show w.ownsRow 0 3 1 (.slice (some ⟨g, 0, none⟩) (gs.length + 1) cg) (gs.length + 1) ((p :: gs).map i64e) from M.greys)
  have HD := Lib.hid (delete_ok 0 _ p gs w hog.out (by omega))
  have hz : ((gs.length : Int) + 1 == 0) = false := by rw [beq_eq_false_iff_ne]; omega
  have hz2 : (0 : Int) < (gs.length : Int) + 1 := by omega
  replace hr := Lib.hid hr
  replace M := Lib.hid M
  clear hbd htl
  go_enter Tryz.func79, Tryz.ntmps79
  go_wp2_with fail
  refine HG.out.mono ?_
  rintro e w' ⟨rfl, rfl⟩
  go_wp2_with fail
  refine HD.out.mono ?_
  rintro e w1 ⟨v1, rfl, hown, hg, hvb⟩
  obtain ⟨A1, cc1, rfl, -⟩ := own_form hown
  have hB1 : Blk w1 m 123 (mcells h true vs (.slice (some ⟨g, 0, none⟩) (gs.length + 1) cg)) := M.out.blk.grown hg (fun e => M.out.nm e.symm)
  have c0 : w1.cell? ⟨m, 0, none⟩ = some (.pointer (some ⟨h, 0, none⟩)) := hB1.cell 0
  have fz3 := hB1.frozen 3
  have c3 : w1.cell? ⟨m, 3, none⟩ = some (.slice (some ⟨g, 0, none⟩) (gs.length + 1) cg) := hB1.cell 3
  have G := M.out.gi
  have Mg := M.out.set_greys hg hown (fun b e => .inl (hvb.symm.trans e)) (List.nodup_cons.1 G.nd).2 (fun x hx => G.sn x (List.mem_cons_of_mem _ hx)) (fun x hx => G.bd x (List.mem_cons_of_mem _ hx))
  have hfr : Step D w (w1.setCell ⟨m, 3, none⟩ (.slice A1 gs.length cc1)) (fun k => D k ∨ (Value.slice A1 gs.length cc1).ownBlock = some k) := by
    refine ⟨⟨hg.os, hg.tape, hg.output, by rw [setCell_size]; exact hg.size, fun k hk hn => ?_⟩, fun k hk => .inl (hk.elim id fun e => M.out.dg k (hvb.symm.trans e))⟩
    rw [setCell_other w1 m 3 _ (fun e => hn (by rw [e]; exact M.out.dm))]
    exact hg.block k hk (fun e => hn (M.out.dg k e.symm))
  have H2 := Lib.hid (H.out.marks Mg hfr)
  obtain ⟨w2, hw2⟩ : ∃ w2, w2 = w1.setCell ⟨m, 3, none⟩ (.slice A1 gs.length cc1) := ⟨_, rfl⟩
  have c0' : (w1.setCell ⟨m, 3, none⟩ (.slice A1 gs.length cc1)).cell? ⟨m, 0, none⟩ = some (.pointer (some ⟨h, 0, none⟩)) := Mg.blk.cell 0
  rw [← hw2] at H2 hfr c0'
  obtain ⟨D2, hD2⟩ : ∃ D2, D2 = (fun k => D k ∨ (Value.slice A1 gs.length cc1).ownBlock = some k) := ⟨_, rfl⟩
  rw [← hD2] at H2 hfr
  replace hfr := Lib.hid hfr
  replace hw2 := Lib.hid hw2
  clear hown hg hvb hB1 Mg G hD2
  go_wp2_with (go_at_call 25; rw [← hw2.out]; refine stop_here ?_)
  refine go_on ?_
  refine (size_r hr.out H2.out.hp (by omega) (by omega)).mono ?_
  rintro e w3 ⟨rfl, b3⟩
  have H3 := Lib.hid (H2.out.below b3)
  have s3 := Lib.hid (hfr.out.trans (Step.of_below b3))
  clear H2 hfr c0 c0' c1 c3 cp hog HD hz hz2 b3 fz3 HG hw2
  go_wp2_with fail
  go_loopw [54] (fun i wr => ∃ (j : Nat) (K1 : MK) (D1 : Nat → Prop), j ≤ n ∧ i = .int .i64 j ∧ Hid (mScan S p mask ⟨true, sn, gs⟩ j = (K1, 0)) ∧ Hid (MAt wr m h S F K1 D1) ∧ Hid (Step D w wr D1)) (fun i _ => n - (intOf i).toNat)
  case atStart => exact ⟨0, _, _, by omega, rfl, Lib.hid rfl, H3, s3⟩
  case round =>
    clear H3 s3
    obtain ⟨j, K1, D1, hj, rfl, hsc, H3, s3⟩ := hrel
    by_cases hlt : j < n
    · have t0 : (j : Int) < (n : Int) := by omega
      have hj6 : j ≤ 5 := by omega
      obtain ⟨b, hb⟩ : ∃ b, mBit mask j = b := ⟨_, rfl⟩
      rcases b with _ | _
      · have hb' : (bits BinOp.and IntKind.u8 (mask / 2 ^ j) 1 == 0) = true := by unfold mBit at hb; simpa using hb
        have hsc' : Hid (mScan S p mask ⟨true, sn, gs⟩ (j + 1) = (K1, 0)) := Lib.hid (by
          show (if _ then _ else _) = _
          rw [if_pos (.inr hb), hsc.out])
        clear hsc hb
        go_wp2_with fail
        go_roundw
        case rel => exact ⟨j + 1, K1, D1, by omega, by go_num, hsc', H3, s3⟩
        case measure => simp [intOf]; omega
      · have hb' : (bits BinOp.and IntKind.u8 (mask / 2 ^ j) 1 == 0) = false := by unfold mBit at hb; simpa using hb
        obtain ⟨⟨x, e0⟩, hx⟩ : ∃ r, sLoad S p j = r := ⟨_, rfl⟩
        have hxe := hloads.out j hlt
        have hxb := hlbd.out j
        rw [hx] at hxe hxb
        obtain rfl : e0 = 0 := hxe
        dsimp only at hxb
        have hsc' : Hid (mScan S p mask ⟨true, sn, gs⟩ (j + 1) = (mShade S K1 x, (mKnown S K1 x).2)) := Lib.hid (by
          show (if _ then _ else _) = _
          rw [if_neg (by rw [hsc.out, hb]; simp), hsc.out, hx])
        have her := known_er S K1 x
        obtain ⟨er, her0⟩ : ∃ er, (mKnown S K1 x).2 = er := ⟨_, rfl⟩
        rw [her0] at hsc' her
        have hC := Lib.hid (fun wx (HX : MAt wx m h S F K1 D1) => shade_m m h S F K1 D1 wx HX x hxb.1 hxb.2)
        rw [her0] at hC
        replace hx := Lib.hid hx
        obtain ⟨vs1, vg1, M1⟩ := H3.out.mrk
        have c0 : wr.cell? ⟨m, 0, none⟩ = some (.pointer (some ⟨h, 0, none⟩)) := M1.blk.cell 0
        clear hsc hb M1 her0
        rcases her with rfl | rfl
        · go_wp2_with fail
          refine (load_r hx.out H3.out.hp (by omega) (by omega)).mono ?_
          rintro e w4 ⟨rfl, b4⟩
          have H4 := Lib.hid (H3.out.below b4)
          have s4 := Lib.hid (s3.out.trans (Step.of_below b4))
          clear b4 H3 s3 c0
          go_wp2_with fail
          refine (hC.out _ H4.out).mono ?_
          rintro e w5 ⟨rfl, D5, H5, s5⟩
          have s5 := Lib.hid (s4.out.trans s5)
          replace H5 := Lib.hid H5
          clear H4 s4
          go_wp2_with fail
          go_roundw
          case rel => exact ⟨j + 1, _, D5, by omega, by go_num, hsc', H5, s5⟩
          case measure => simp [intOf]; omega
        · have hfin : Hid (mScan S p mask ⟨true, sn, gs⟩ n = (mShade S K1 x, 11)) := Lib.hid (by
            have := scan_stop (S := S) (p := p) (mask := mask) (K := ⟨true, sn, gs⟩) (j := j + 1) (by rw [hsc'.out]; exact (by decide : (11 : Int) ≠ 0)) (n - (j + 1))
            rw [show j + 1 + (n - (j + 1)) = n by omega] at this
            rw [this, hsc'.out])
          have h9 := hst.out _ _ hfin.out
          simp only [Prod.mk.injEq] at h9
          obtain ⟨⟨rfl, rfl⟩, rfl⟩ := h9
          go_wp2_with fail
          refine (load_r hx.out H3.out.hp (by omega) (by omega)).mono ?_
          rintro e w4 ⟨rfl, b4⟩
          have H4 := Lib.hid (H3.out.below b4)
          have s4 := Lib.hid (s3.out.trans (Step.of_below b4))
          clear b4 H3 s3 c0
          go_wp2_with fail
          refine (hC.out _ H4.out).mono ?_
          rintro e w5 ⟨rfl, D5, H5, s5⟩
          have s5 := Lib.hid (s4.out.trans s5)
          replace H5 := Lib.hid H5
          clear H4 s4
          go_wp2_with fail
          go_ret2
          exact ⟨rfl, D5, H5.out, s5.out⟩
    · obtain rfl : j = n := by omega
      have h9 := hst.out _ _ hsc.out
      simp only [Prod.mk.injEq] at h9
      obtain ⟨⟨rfl, rfl⟩, rfl⟩ := h9
      go_wp2_with fail
      go_ret2
      exact ⟨rfl, D1, H3.out, s3.out⟩
end Go.Proofs.YtcaboknbdamlhaaGreatDoor
namespace Go.Proofs.YtcaboknbdamlhaaGreatDoor
open Go.RowKit Go.Shelf
theorem end1_clo (B m : Nat) (vs : Value) (zs : List Int) (sn : Int → Bool) (x : Int) (w : World) (hB : w.cell? ⟨B, 0, none⟩ = some (.pointer (some ⟨m, 0, none⟩))) (c2 : w.cell? ⟨m, 2, none⟩ = some vs) (hz : Rd u64e w vs zs) (hu : U64 zs) (hzl : zs.length ≤ 1024) (hzb : ∀ i, hasB zs i = sn i)
    (hx0 : -9223372036854775808 ≤ x) (hx : x ≤ 9223372036854775807) :
    Calls Tryz.prog 105 #[.int .i64 x, .pointer (some ⟨B, 0, none⟩)] w fun e w' => e = .returned (.bool (sn x)) ∧ w = w' := by
  have HB := Lib.hid (bhas_ok vs zs x w hz (by omega) hu hx hx0)
  rw [hzb x] at HB
  clear hz hu hzl hzb
  go_enter Tryz.func105, Tryz.ntmps105
  go_wp2_with fail
  refine HB.out.mono ?_
  rintro e w' ⟨rfl, rfl⟩
  go_wp2_with fail
  go_ret
  exact ⟨rfl, rfl⟩
def mOff (K : MK) : MK := { K with on := false }
theorem end_off (m h : Nat) (S : HS) (F : Nat → Prop) (K : MK) (D : Nat → Prop) (w : World) (H : MAt w m h S F K D) (ho : K.on = false) :
    Calls Tryz.prog 80 #[.pointer (some ⟨m, 0, none⟩)] w fun e w' => e = .returned (.tuple #[.slice none 0 0, .int .i64 7]) ∧ Below w.heap.size w w' := by
  have hb := below_alloc w (.cells #[.pointer (some ⟨m, 0, none⟩)] 85)
  have HG := Lib.hid (good_m m h S F K D _ (H.below hb))
  obtain ⟨vs, vg, M⟩ := (H.below hb).mrk
  have c1 := M.blk.cell 1
  replace c1 : (w.alloc (.cells #[.pointer (some ⟨m, 0, none⟩)] 85)).cell? ⟨m, 1, none⟩ = some (.bool false) := by rw [← ho]; exact c1
  have hbH := Lib.hid hb
  clear H M ho hb
  go_enter Tryz.func80, Tryz.ntmps80
  go_wp2_with fail
  refine HG.out.mono ?_
  rintro e w' ⟨rfl, rfl⟩
  go_wp2_with fail
  go_ret2
  exact ⟨rfl, hbH.out⟩
set_option maxHeartbeats 1600000 in
set_option maxRecDepth 100000 in
theorem end_on (m h : Nat) (S : HS) (F : Nat → Prop) (K : MK) (D : Nat → Prop) (w : World) (H : MAt w m h S F K D) (ho : K.on = true) :
    Calls Tryz.prog 80 #[.pointer (some ⟨m, 0, none⟩)] w fun e w' => ∃ v, e = .returned (.tuple #[v, .int .i64 0]) ∧ w'.ownsRow w.heap.size 3 1 v (keepP K.seen (sAll S)).length ((keepP K.seen (sAll S)).map i64e) ∧ MAt w' m h S F (mOff K) D ∧ Step D w w' D := by
  obtain ⟨w1, hw1⟩ : ∃ w1, w1 = w.alloc (.cells #[.pointer (some ⟨m, 0, none⟩)] 85) := ⟨_, rfl⟩
  have b1 : Below w.heap.size w w1 := by rw [hw1]; exact below_alloc w _
  have B1 : Blk w1 w.heap.size 85 #[.pointer (some ⟨m, 0, none⟩)] := by rw [hw1]; exact Blk.new w _ _
  have H1 := H.below b1
  have HG := Lib.hid (good_m m h S F K D _ H1)
  obtain ⟨vs, vg, M⟩ := H1.mrk
  have hmw : m ≠ w.heap.size := fun e => by
    obtain ⟨_, _, M0⟩ := H.mrk
    have := M0.blk.lt; omega
  have c1 : w1.cell? ⟨m, 1, none⟩ = some (.bool true) := by rw [← ho]; exact M.blk.cell 1
  have f1 := M.blk.frozen 1
  have c0 : w1.cell? ⟨m, 0, none⟩ = some (.pointer (some ⟨h, 0, none⟩)) := M.blk.cell 0
  have cB : w1.cell? ⟨w.heap.size, 0, none⟩ = some (.pointer (some ⟨m, 0, none⟩)) := B1.cell 0
  -- behind the store
  have M2 : MIn (w1.setCell ⟨m, 1, none⟩ (.bool false)) m h (mOff K) D vs vg := by
    have ho : ∀ k, k ≠ m → (w1.setCell ⟨m, 1, none⟩ (.bool false)).heap[k]? = w1.heap[k]? := fun k hk => setCell_other w1 m 1 _ hk
    obtain ⟨zs, hz, hu, hzl, hzb⟩ := M.bits
    exact { M with
      blk := M.blk.set_ 1 (.bool false)
      bits := ⟨zs, rd_keep hz (Nat.le_of_eq (setCell_size w1 _ _).symm) fun _ b e => ho b (fun e2 => M.ns (e2 ▸ e)), hu, hzl, hzb⟩
      greys := own_keep M.greys fun g e => ho g (fun e2 => M.nm (e2 ▸ e))
      lt := fun k hk => by rw [setCell_size]; exact M.lt k hk
      gi := ⟨M.gi.nd, M.gi.sn, M.gi.bd⟩ }
  have s2 : Step D w (w1.setCell ⟨m, 1, none⟩ (.bool false)) D := (Step.of_below b1).trans (step_setCell _ M.dm)
  have H2 := Lib.hid (H.marks M2 s2)
  have cB2 : (w1.setCell ⟨m, 1, none⟩ (.bool false)).cell? ⟨w.heap.size, 0, none⟩ = some (.pointer (some ⟨m, 0, none⟩)) := by
    rw [← cB]
    exact World.cell?_of_block (setCell_other w1 m 1 _ (Ne.symm hmw))
  have c0' : (w1.setCell ⟨m, 1, none⟩ (.bool false)).cell? ⟨m, 0, none⟩ = some (.pointer (some ⟨h, 0, none⟩)) := M2.blk.cell 0
  obtain ⟨w2, hw2⟩ : ∃ w2, w2 = w1.setCell ⟨m, 1, none⟩ (.bool false) := ⟨_, rfl⟩
  have hsz : w.heap.size < w2.heap.size := by rw [hw2, setCell_size]; exact B1.lt
  rw [← hw2] at H2 cB2 c0' s2 M2
  replace hw2 := Lib.hid hw2
  replace hw1 := Lib.hid hw1
  replace s2 := Lib.hid s2
  replace M2 := Lib.hid M2
  clear H H1 M ho B1 b1
  go_enter Tryz.func80, Tryz.ntmps80
  go_wp2_with (go_at_call 67; rw [← hw1.out]; refine stop_here ?_)
  refine go_on ?_
  refine HG.out.mono ?_
  rintro e w' ⟨rfl, rfl⟩
  go_wp2_with (go_at_call 17; rw [← hw2.out]; refine stop_here ?_)
  refine go_on ?_
  clear c0 c1 f1 cB
  refine (all_s h S F w2 H2.out.hp).mono ?_
  rintro e w3 ⟨v3, rfl, hown, b3⟩
  have hal : ∀ x ∈ sAll S, 1 ≤ x ∧ x ≤ 4096 := fun x hx => by
    obtain ⟨o, ho, rfl⟩ := List.mem_map.1 hx
    exact mis_bd H2.out.hp.inv.toInv0 (by unfold mIs; rw [H2.out.hp.inv.size ho])
  have hall : (sAll S).length ≤ 4096 := by rw [show (sAll S).length = S.objs.length by simp [sAll]]; exact H2.out.hp.inv.objs_len
  have cB3 : w3.cell? ⟨w.heap.size, 0, none⟩ = some (.pointer (some ⟨m, 0, none⟩)) := (World.cell?_of_block (b3.block _ hsz)).trans cB2
  have M3 := M2.out.below b3
  obtain ⟨zs, hz, hu, hzl, hzb⟩ := M3.bits
  have HD := Lib.hid (end1_delete w.heap.size w2.heap.size K.seen v3 (sAll S) w3 hown (by omega) (fun x hx => by have := hal x hx; omega) (fun wx hgx x hx0 hx1 => by
    have key : ∀ k, k < w2.heap.size → wx.heap[k]? = w3.heap[k]? := fun k hk => hgx.block k (Nat.lt_of_lt_of_le hk b3.size) (fun e => by have := (hown.lt k e.symm).1; omega)
    refine end1_clo w.heap.size m vs zs K.seen x wx ((World.cell?_of_block (key _ hsz)).trans cB3) ((World.cell?_of_block (key _ (M2.out.lt _ M2.out.dm))).trans (M3.blk.cell 2)) (rd_keep hz hgx.size fun _ b e => key b (M2.out.lt b (M2.out.ds b e))) hu hzl hzb hx0 hx1))
  have hvo := Lib.hid hown.lt
  replace b3 := Lib.hid b3
  clear hown cB2 cB3 M3 hz hu hzl hzb hal c0'
  go_wp2_with fail
  refine HD.out.mono ?_
  rintro e w4 ⟨v4, rfl, hown, hg, hvb⟩
  have b4 : Below w2.heap.size w2 w4 := b3.out.grown hg b3.out.size (fun k e => (hvo.out k e).1)
  have H4 := Lib.hid (H2.out.below b4)
  have s4 := Lib.hid (s2.out.trans (Step.of_below b4))
  have hown4 := Lib.hid (own_base hown (Nat.le_of_lt hsz))
  clear hown hg hvb b4
  go_wp2_with fail
  go_ret2
  exact ⟨_, rfl, hown4.out, H4.out, s4.out⟩
theorem begin1_clo (B m h : Nat) (S : HS) (F : Nat → Prop) (K : MK) (D : Nat → Prop) (x : Int) (w : World) (H : MAt w m h S F K D) (hB : w.cell? ⟨B, 0, none⟩ = some (.pointer (some ⟨m, 0, none⟩)))
    (hx0 : -9223372036854775808 ≤ x) (hx : x ≤ 9223372036854775807) :
    Calls Tryz.prog 69 #[.int .i64 x, .pointer (some ⟨B, 0, none⟩)] w fun e w' => e = .returned (.bool (x != 0 && !mIs S x)) ∧ Below w.heap.size w w' := by
  have HT := Lib.hid (there_m m h S F K D w H x hx0 hx)
  clear H
  by_cases h0 : x = 0
  · subst h0
    go_enter Tryz.func69, Tryz.ntmps69
    go_wp2_with fail
    go_ret
    exact ⟨rfl, Below.refl _ _⟩
  · have hb : (x != 0) = true := by simpa using h0
    obtain ⟨b, hb2⟩ : ∃ b, mIs S x = b := ⟨_, rfl⟩
    rw [hb2] at HT ⊢
    rw [hb, Bool.true_and]
    go_enter Tryz.func69, Tryz.ntmps69
    go_wp2_with fail
    refine HT.out.mono ?_
    rintro e w1 ⟨rfl, b1⟩
    go_wp2_with fail
    go_ret
    exact ⟨rfl, b1⟩
end Go.Proofs.YtcaboknbdamlhaaGreatDoor
namespace Go.Proofs.YtcaboknbdamlhaaGreatDoor
open Go.RowKit Go.Shelf
def mStart : MK := ⟨true, fun _ => false, []⟩
def mBad (S : HS) (x : Int) : Bool := x != 0 && !mIs S x
def mBegin (S : HS) (K : MK) (l : List Int) : MK × Int := if K.on = true then (K, 8) else if l.any (mBad S) = true then (K, 11) else (l.foldl (mShade S) mStart, 0)
theorem MIn.reset {w : World} {m h : Nat} {K : MK} {D : Nat → Prop} {vs vg : Value} (M : MIn w m h K D vs vg) {w' : World} (hw : w' = ((w.setCell ⟨m, 1, none⟩ (.bool true)).setCell ⟨m, 2, none⟩ (.slice none 0 0)).setCell ⟨m, 3, none⟩ (.slice none 0 0)) :
    MIn w' m h mStart D (.slice none 0 0) (.slice none 0 0) ∧ Step D w w' D := by
  have hz : w'.heap.size = w.heap.size := by rw [hw, setCell_size, setCell_size, setCell_size]
  have ho : ∀ k, k ≠ m → w'.heap[k]? = w.heap[k]? := fun k hk => by rw [hw, setCell_other _ m 3 _ hk, setCell_other _ m 2 _ hk, setCell_other _ m 1 _ hk]
  refine ⟨{ blk := ?_, bits := ⟨[], Rd.none_ _ _, U64.nil, by simp, hasB_nil⟩, greys := World.ownsRow_nil _ _ _ _, dm := M.dm, ds := fun b e => (by cases e), dg := fun b e => (by cases e), nm := fun e => (by cases e), ns := fun e => (by cases e), nsg := fun b e => (by cases e), lt := fun k hk => (by rw [hz]; exact M.lt k hk), gi := ⟨List.nodup_nil, fun x hx => absurd hx (by simp [mStart]), fun x hx => absurd hx (by simp [mStart])⟩ }, ?_⟩
  · rw [hw]
    exact ((M.blk.set_ 1 (.bool true)).set_ 2 (.slice none 0 0)).set_ 3 (.slice none 0 0)
  · rw [hw]
    exact ((step_setCell _ M.dm).trans (step_setCell _ M.dm)).trans (step_setCell _ M.dm)
set_option maxHeartbeats 3200000 in
set_option maxRecDepth 100000 in
theorem begin_m (m h : Nat) (S : HS) (F : Nat → Prop) (K : MK) (D : Nat → Prop) (w : World) (H : MAt w m h S F K D) (vr : Value) (l : List Int) (hv : Rd i64e w vr l) (hl : l.length ≤ 4096) (hbd : ∀ x ∈ l, -9223372036854775808 ≤ x ∧ x ≤ 9223372036854775807) (hvd : 0 < l.length → ∀ b, vr.ownBlock = some b → ¬ D b) :
    Calls Tryz.prog 41 #[.pointer (some ⟨m, 0, none⟩), vr] w (MRet m h S F (mBegin S K l).1 D w (.int .i64 (mBegin S K l).2)) := by
  obtain ⟨w1, hw1⟩ : ∃ w1, w1 = w.alloc (.cells #[.pointer (some ⟨m, 0, none⟩)] 85) := ⟨_, rfl⟩
  have b1 : Below w.heap.size w w1 := by rw [hw1]; exact below_alloc w _
  have B1 : Blk w1 w.heap.size 85 #[.pointer (some ⟨m, 0, none⟩)] := by rw [hw1]; exact Blk.new w _ _
  have H1 := Lib.hid (H.below b1)
  have HG := Lib.hid (good_m m h S F K D _ H1.out)
  obtain ⟨A, c, rfl, -⟩ := hv.len
  obtain ⟨vs, vg, M⟩ := H1.out.mrk
  have c1 : w1.cell? ⟨m, 1, none⟩ = some (.bool K.on) := M.blk.cell 1
  have cB : w1.cell? ⟨w.heap.size, 0, none⟩ = some (.pointer (some ⟨m, 0, none⟩)) := B1.cell 0
  have HBd := Lib.hid hbd
  have hmD : D m := M.dm
  have hnD : ¬ D w.heap.size := fun hD => by have := H.dlt _ hD; omega
  have hBl := B1.lt
  clear M hbd
  obtain ⟨on, sn, gs⟩ := K
  dsimp only at c1
  replace H := Lib.hid H
  replace hw1 := Lib.hid hw1
  rcases on with _ | _
  · have hC := Lib.hid (begin1_contains w.heap.size (mBad S) (.slice A l.length c) l w1 (hv.below b1) (by omega) HBd.out (fun wx bx x hx0 hx1 => begin1_clo w.heap.size m h S F ⟨false, sn, gs⟩ D x wx (H1.out.below bx) ((World.cell?_of_block (bx.block _ hBl)).trans cB) hx0 hx1))
    obtain ⟨b, hb⟩ : ∃ b, l.any (mBad S) = b := ⟨_, rfl⟩
    have hmb : mBegin S ⟨false, sn, gs⟩ l = if b = true then (⟨false, sn, gs⟩, 11) else (l.foldl (mShade S) mStart, 0) := by rw [← hb]; rfl
    rw [hb] at hC
    rw [hmb]
    clear hb hmb
    rcases b with _ | _
    · simp only [Bool.false_eq_true, if_false]
      have hvr := Lib.hid hv
      replace hvd := Lib.hid hvd
      replace B1 := Lib.hid B1
      clear hv
      go_enter Tryz.func41, Tryz.ntmps41
      go_wp2_with (go_at_call 67; rw [← hw1.out]; refine stop_here ?_)
      refine go_on ?_
      refine HG.out.mono ?_
      rintro e w' ⟨rfl, rfl⟩
      go_wp2_with fail
      refine hC.out.mono ?_
      rintro e w2 ⟨rfl, b2⟩
      have H2 := H1.out.below b2
      obtain ⟨vs, vg, M⟩ := H2.mrk
      have hbv : 0 < l.length → ∀ b, (Value.slice A l.length c).ownBlock = some b → b < w.heap.size := fun hp b e => by
        obtain ⟨b', o, rfl, hlt, _⟩ := hvr.out.at_ hp
        have : b' = b := by simpa [Value.ownBlock] using e
        omega
      have b12 := b1.trans (b2.mono b1.size)
      have c1 : w2.cell? ⟨m, 1, none⟩ = some (.bool false) := M.blk.cell 1
      have c2 : w2.cell? ⟨m, 2, none⟩ = some vs := M.blk.cell 2
      have c3 : w2.cell? ⟨m, 3, none⟩ = some vg := M.blk.cell 3
      have f1 := M.blk.frozen 1
      have f2 := M.blk.frozen 2
      have f3 := M.blk.frozen 3
      have B2 := B1.out.below b2 hBl
      have cB2 : w2.cell? ⟨w.heap.size, 0, none⟩ = some (.pointer (some ⟨m, 0, none⟩)) := B2.cell 0
      have hmB : m ≠ w.heap.size := fun e => hnD (e ▸ hmD)
      go_wp2_with fail
      go_region
      obtain ⟨Mr, sr⟩ := M.reset rfl
      have bd : Below (((w2.setCell ⟨m, 1, none⟩ (.bool true)).setCell ⟨m, 2, none⟩ (.slice none 0 0)).setCell ⟨m, 3, none⟩ (.slice none 0 0)).heap.size (((w2.setCell ⟨m, 1, none⟩ (.bool true)).setCell ⟨m, 2, none⟩ (.slice none 0 0)).setCell ⟨m, 3, none⟩ (.slice none 0 0)) (((w2.setCell ⟨m, 1, none⟩ (.bool true)).setCell ⟨m, 2, none⟩ (.slice none 0 0)).setCell ⟨m, 3, none⟩ (.slice none 0 0)).drew := (Below.refl _ _).drew
      have M3 := Mr.below bd
      have s3 : Step D w _ D := (Step.of_below b12).trans (sr.trans (Step.of_below bd))
      have hnD2 : ∀ k, ¬ D k → k < w2.heap.size → (((w2.setCell ⟨m, 1, none⟩ (.bool true)).setCell ⟨m, 2, none⟩ (.slice none 0 0)).setCell ⟨m, 3, none⟩ (.slice none 0 0)).drew.heap[k]? = w2.heap[k]? := fun k hk hlt => (sr.trans (Step.of_below bd)).frame.block k hlt hk
      have hsz3 : w2.heap.size ≤ (((w2.setCell ⟨m, 1, none⟩ (.bool true)).setCell ⟨m, 2, none⟩ (.slice none 0 0)).setCell ⟨m, 3, none⟩ (.slice none 0 0)).drew.heap.size := (sr.trans (Step.of_below bd)).frame.size
      have H3 : MAt (((w2.setCell ⟨m, 1, none⟩ (.bool true)).setCell ⟨m, 2, none⟩ (.slice none 0 0)).setCell ⟨m, 3, none⟩ (.slice none 0 0)).drew m h S F mStart D := H2.marks M3 (sr.trans (Step.of_below bd))
      have hB2 := B2.lt
      generalize (((w2.setCell ⟨m, 1, none⟩ (.bool true)).setCell ⟨m, 2, none⟩ (.slice none 0 0)).setCell ⟨m, 3, none⟩ (.slice none 0 0)).drew = w3 at M3 s3 hnD2 hsz3 H3 ⊢
      have cB3 : w3.cell? ⟨w.heap.size, 0, none⟩ = some (.pointer (some ⟨m, 0, none⟩)) := (World.cell?_of_block (hnD2 _ hnD hB2)).trans cB2
      have hbl3 : w.heap.size < w3.heap.size := by omega
      have hr3 := Lib.hid (hvr.out.keep (w' := w3) (by have := b12.size; omega) fun hp b e hlt => (hnD2 b (hvd.out hp b e) (by have := b12.size; omega)).trans (b12.block b hlt))
      replace H3 := Lib.hid H3
      replace s3 := Lib.hid s3
      clear M M3 Mr sr bd hnD2 hsz3 H2 c1 c2 c3 f1 f2 f3 B2 cB2 cB hB2 hC HG hw1 b12 b2
      go_wp2_with fail
      go_loopw [31] (fun i wr => ∃ (j : Nat) (D1 : Nat → Prop), j ≤ l.length ∧ i = .int .i64 j ∧ Hid (MAt wr m h S F ((l.take j).foldl (mShade S) mStart) D1) ∧ Hid (Step D w wr D1) ∧ Hid (Step D w3 wr D1)) (fun i _ => l.length - (intOf i).toNat)
      case atStart => exact ⟨0, D, by omega, rfl, H3, s3, Lib.hid (Step.refl _ _)⟩
      case round =>
        obtain ⟨j, D1, hj, rfl, Hj, sj, tj⟩ := hrel
        have cBr : wr.cell? ⟨w.heap.size, 0, none⟩ = some (.pointer (some ⟨m, 0, none⟩)) := (World.cell?_of_block (tj.out.frame.block _ hbl3 hnD)).trans cB3
        by_cases hlt : j < l.length
        · have t0 : (j : Int) < (l.length : Int) := by omega
          have hrr := hr3.out.keep (w' := wr) tj.out.frame.size fun hp b e h3 => tj.out.frame.block b h3 (hvd.out hp b e)
          obtain ⟨b, o, rfl, _, hc⟩ := hrr.at_ hlt
          have hxb := HBd.out _ (List.getElem_mem hlt)
          obtain ⟨x, hx⟩ : ∃ x, l[j] = x := ⟨_, rfl⟩
          rw [hx] at hc hxb
          replace hc : wr.cell? ⟨b, o + j, none⟩ = some (.int .i64 x) := hc
          have hK : mShade S ((l.take j).foldl (mShade S) mStart) x = (l.take (j + 1)).foldl (mShade S) mStart := by
            rw [List.take_add_one, List.foldl_append, List.getElem?_eq_getElem hlt, hx]
            rfl
          have HC := Lib.hid (shade_m m h S F _ D1 wr Hj.out x hxb.1 hxb.2)
          rw [hK] at HC
          clear hrr hK hx
          go_wp2_with fail
          refine HC.out.mono ?_
          rintro e w4 ⟨rfl, D4, H4, s4⟩
          have t4 := Lib.hid (tj.out.trans s4)
          have s4 := Lib.hid (sj.out.trans s4)
          replace H4 := Lib.hid H4
          clear Hj sj tj HC
          go_wp2_with fail
          go_roundw
          case rel => exact ⟨j + 1, D4, by omega, by go_num, H4, s4, t4⟩
          case measure => simp [intOf]; omega
        · obtain rfl : j = l.length := by omega
          have hK : (l.take l.length) = l := List.take_length
          rw [hK] at Hj
          clear hK
          go_wp2_with fail
          go_ret
          exact ⟨rfl, D1, Hj.out, sj.out⟩
    · simp only [if_true]
      go_enter Tryz.func41, Tryz.ntmps41
      go_wp2_with (go_at_call 67; rw [← hw1.out]; refine stop_here ?_)
      refine go_on ?_
      refine HG.out.mono ?_
      rintro e w' ⟨rfl, rfl⟩
      go_wp2_with fail
      refine hC.out.mono ?_
      rintro e w2 ⟨rfl, b2⟩
      have b3 := Lib.hid (b1.trans (b2.mono b1.size))
      go_wp2_with fail
      go_ret
      exact ⟨rfl, D, H.out.below b3.out, Step.of_below b3.out⟩
  · rw [show mBegin S ⟨true, sn, gs⟩ l = (⟨true, sn, gs⟩, 8) from rfl]
    have b3 := Lib.hid b1
    go_enter Tryz.func41, Tryz.ntmps41
    go_wp2_with (go_at_call 67; rw [← hw1.out]; refine stop_here ?_)
    refine go_on ?_
    refine HG.out.mono ?_
    rintro e w' ⟨rfl, rfl⟩
    go_wp2_with fail
    go_ret
    exact ⟨rfl, D, H1.out, Step.of_below b3.out⟩
end Go.Proofs.YtcaboknbdamlhaaGreatDoor
