/- The document's heap in plain words: what the laws ask of it. -/
import Derived.Test.YtoodfioecabglaaDoorHeapDoes
set_option linter.unusedVariables false
set_option linter.unusedSimpArgs false
namespace Go.Proofs.YtoodfioecabglaaDoor

theorem fillW_get (xs : List Int) (p : Nat) (x : Int) (i : Nat) : ∀ k, (fillW xs p x k).getD i 0 = if p ≤ i ∧ i < p + k ∧ i < xs.length then x else xs.getD i 0
  | 0 => by rw [if_neg (by omega)]; rfl
  | k + 1 => by
    have ih := fillW_get xs p x i k
    show ((fillW xs p x k).set (p + k) x).getD i 0 = _
    simp only [List.getD, List.getElem?_set] at ih ⊢
    by_cases e : p + k = i
    · rw [if_pos e]
      by_cases hl : i < xs.length
      · rw [if_pos (by rw [fillW_len]; omega), if_pos (by omega)]; rfl
      · rw [if_neg (by rw [fillW_len]; omega), if_neg (by omega)]
        simp [List.getElem?_eq_none (Nat.le_of_not_lt hl)]
    · rw [if_neg e, ih]
      by_cases h : p ≤ i ∧ i < p + k ∧ i < xs.length
      · rw [if_pos h, if_pos (by omega)]
      · rw [if_neg h, if_neg (by omega)]
/-- What Alloc has made. -/
structure Alloced (S S' : HS) (n mask junk p : Int) : Prop where
  inv : Inv S'
  objs : S'.objs = insO (p, n, mask) S.objs
  no : ∀ o ∈ S.objs, o.1 ≠ p
  words : S'.words = fillW S.words p.toNat junk (wordsOf (classOf n)).toNat
  sits : Sits S'.n S'.cls p (classOf n)
  n : S'.n = S.n
theorem sRoom_n (S : HS) (c : Nat) : (sRoom S c).n = S.n := by
  unfold sRoom
  split <;> rfl
theorem alloc_some {S : HS} (I : Inv S) {n mask junk : Int} (h1 : 1 ≤ n) (h6 : n ≤ 6) (hm0 : 0 ≤ mask) (hm : mask ≤ 255) (hmk : mask / 2 ^ n.toNat = 0) (hj : -9223372036854775808 ≤ junk ∧ junk ≤ 9223372036854775807) (hf : sFits S n = true) :
    ∃ S' p, sAlloc S n mask junk = (S', p, 0) ∧ Alloced S S' n mask junk p := by
  have IA := alloc_inv I (n := n) hm0 hm hj
  have e : sAlloc S n mask junk = (sTake (sRoom S (classNat n)) (classNat n) n mask junk, lastOf ((sRoom S (classNat n)).free (classNat n)), 0) := by
    unfold sAlloc
    rw [if_neg (by omega), if_neg (by rw [hf]; simp)]
  obtain ⟨r1, r2, r3, r4, r5, r6⟩ := room_inv I hf
  obtain ⟨e1, hc⟩ := classNat_eq h1 h6
  obtain ⟨t1, t2, t3⟩ := take_inv (mask := mask) (junk := junk) r1 hc r2 h1 h6 e1 hm0 hm hj
  rw [e] at IA ⊢
  refine ⟨_, _, rfl, IA, ?_, ?_, ?_, ?_, ?_⟩
  · show insO _ (sRoom S (classNat n)).objs = _
    rw [r3]
  · rw [← r3]; exact t3
  · show fillW (sRoom S (classNat n)).words _ _ _ = _
    rw [r5, e1]
  · rw [e1]; exact t2
  · exact r4
theorem alloc_none {S : HS} {n mask junk : Int} (h1 : 1 ≤ n) (h6 : n ≤ 6) (hmk : mask / 2 ^ n.toNat = 0) (hf : sFits S n = false) : sAlloc S n mask junk = (S, 0, 6) := by
  unfold sAlloc
  rw [if_neg (by omega), if_pos hf]
section
variable {S : HS}
theorem Inv0.there_in (I : Inv0 S) {o : Int × Int × Int} (ho : o ∈ S.objs) {f : Int} (h0 : 0 ≤ f) (h1 : f < o.2.1) : sThere S o.1 f = 0 := by
  unfold sThere
  rw [I.size ho, if_neg]
  simp
  omega
theorem Inv0.there_out (I : Inv0 S) {o : Int × Int × Int} (ho : o ∈ S.objs) {f : Int} (h : f < 0 ∨ o.2.1 ≤ f) : sThere S o.1 f = 11 := by
  unfold sThere
  rw [I.size ho, if_pos (.inr h)]
theorem Inv0.load_in (I : Inv0 S) {o : Int × Int × Int} (ho : o ∈ S.objs) {f : Int} (h0 : 0 ≤ f) (h1 : f < o.2.1) : sLoad S o.1 f = (S.words.getD (o.1 + f).toNat 0, 0) := by
  unfold sLoad
  rw [I.there_in ho h0 h1, if_pos rfl]
theorem Inv0.load_out (I : Inv0 S) {o : Int × Int × Int} (ho : o ∈ S.objs) {f : Int} (h : f < 0 ∨ o.2.1 ≤ f) : sLoad S o.1 f = (0, 11) := by
  unfold sLoad
  rw [I.there_out ho h, if_neg (by decide)]
/-- An object's words lie in its block, and the heap. -/
theorem Inv0.word_in (I : Inv0 S) {o : Int × Int × Int} (ho : o ∈ S.objs) {f : Int} (h0 : 0 ≤ f) (h1 : f < o.2.1) : f < wordsOf (classOf o.2.1) ∧ (o.1 + f).toNat < S.words.length ∧ 1 ≤ o.1 := by
  obtain ⟨a1, a2, a3, a4, a5⟩ := I.ob o ho
  have h2 := a5.ends.2
  have h3 := a5.1
  have h4 := (class_ge a1 a2).2.2
  have h5 := I.wl
  omega
theorem Alloced.mem {S' : HS} {n mask junk p : Int} (A : Alloced S S' n mask junk p) : (p, n, mask) ∈ S'.objs := by rw [A.objs, ins_mem]; exact .inl rfl
theorem Alloced.load (I : Inv0 S) {S' : HS} {n mask junk p : Int} (A : Alloced S S' n mask junk p) {f : Int} (h0 : 0 ≤ f) (h1 : f < n) : sLoad S' p f = (junk, 0) := by
  have h := A.inv.load_in A.mem h0 h1
  obtain ⟨b1, b2, b3⟩ := A.inv.word_in A.mem h0 h1
  dsimp only at h b1 b2 b3
  rw [h, A.words, fillW_get, if_pos]
  rw [A.words, fillW_len] at b2
  have := A.sits.1
  omega
/-- What is cleared is nought. -/
theorem clear_load (I : Inv S) {o : Int × Int × Int} (ho : o ∈ S.objs) {f : Int} (h0 : 0 ≤ f) (h1 : f < o.2.1) : sLoad (sClear S o.1) o.1 f = (0, 0) := by
  have IC := clear_inv I o.1
  obtain ⟨a1, a2, a3, a4, a5⟩ := I.ob o ho
  have e : sClear S o.1 = { S with words := fillW S.words o.1.toNat 0 o.2.1.toNat } := by
    unfold sClear
    rw [I.there_in ho (Int.le_refl 0) (by omega), if_pos rfl, I.size ho]
  have ho' : o ∈ (sClear S o.1).objs := by rw [e]; exact ho
  have h := IC.load_in ho' h0 h1
  obtain ⟨b1, b2, b3⟩ := I.word_in ho h0 h1
  rw [h, e]
  show ((fillW S.words o.1.toNat 0 o.2.1.toNat).getD _ 0, (0 : Int)) = _
  rw [fillW_get, if_pos (by omega)]
theorem clear_objs (S : HS) (p : Int) : (sClear S p).objs = S.objs := by
  unfold sClear
  split <;> rfl
theorem store_objs (S : HS) (p f x : Int) : (sStore S p f x).objs = S.objs := by
  unfold sStore
  split <;> rfl
theorem all_len (S : HS) : (sAll S).length = S.objs.length := by simp [sAll]
theorem Alloced.all_len {S' : HS} {n mask junk p : Int} (A : Alloced S S' n mask junk p) : (sAll S').length = (sAll S).length + 1 := by
  rw [YtoodfioecabglaaDoor.all_len, YtoodfioecabglaaDoor.all_len, A.objs, ins_len]
theorem fits_same {k : Int} (h2 : 2 ≤ k) (h6 : k ≤ 6) (hc : classOf k = classOf (k - 1)) : sFits S k = sFits S (k - 1) := by
  unfold sFits classNat
  rw [hc]
  simp [show 1 ≤ k by omega, show 1 ≤ k - 1 by omega, show k - 1 ≤ 6 by omega, h6]
theorem all_mem {i : Nat} (hi : i < S.objs.length) : ∃ o ∈ S.objs, o.1 = (sAll S).getD i 0 := by
  have hl : i < (sAll S).length := by simpa [sAll] using hi
  rw [show (sAll S).getD i 0 = (sAll S)[i] by simp [List.getD, List.getElem?_eq_getElem hl]]
  obtain ⟨o, ho, e⟩ := List.mem_map.1 (List.getElem_mem hl)
  exact ⟨o, ho, e⟩
theorem free_ok (I : Inv0 S) {o : Int × Int × Int} (ho : o ∈ S.objs) (junk : Int) : (sFree S o.1 junk).2 = 0 ∧ (sFree S o.1 junk).1.n = S.n ∧ (sFree S o.1 junk).1.objs = S.objs.filter (fun x => !(x.1 == o.1)) := by
  have h0 := I.there_in ho (Int.le_refl 0) (by have := I.ob o ho; omega)
  unfold sFree
  rw [h0, if_neg (by decide)]
  split
  · exact ⟨rfl, rfl, rfl⟩
  · exact ⟨rfl, rfl, rfl⟩
theorem filter_len {l : List (Int × Int × Int)} (hs : l.Pairwise fun a b => a.1 < b.1) {o : Int × Int × Int} (ho : o ∈ l) : (l.filter (fun x => !(x.1 == o.1))).length + 1 = l.length := by
  induction l with
  | nil => cases ho
  | cons x l ih =>
    rw [List.pairwise_cons] at hs
    rcases List.mem_cons.1 ho with rfl | h
    · have hf : (l.filter (fun x => !(x.1 == o.1))) = l := by
        rw [List.filter_eq_self]
        intro y hy
        have := hs.1 y hy
        have h2 : y.1 ≠ o.1 := by omega
        simpa using h2
      rw [List.filter_cons_of_neg (by simp), hf]
      rfl
    · have := hs.1 o h
      rw [List.filter_cons_of_pos (by simp; omega)]
      simp only [List.length_cons]
      rw [ih hs.2 h]
/-- How many objects lie in a span. -/
def inSpan (S : HS) (s : Int) : Nat := ((sAll S).filter fun p => spanOf p == s).length
/-- A block that was freed last is taken first. -/
theorem last_first (I : Inv S) {o : Int × Int × Int} (ho : o ∈ S.objs) (h2 : 2 ≤ inSpan S (spanOf o.1)) : (sAlloc (sFree S o.1 1).1 o.2.1 0 2).2 = (o.1, 0) ∧ (sAll (sAlloc (sFree S o.1 1).1 o.2.1 0 2).1).length = (sAll S).length := by
  obtain ⟨a1, a2, a3, a4, a5⟩ := I.ob o ho
  have h0 := I.there_in ho (Int.le_refl 0) (by omega)
  have hany : (sLess S o.1 1).objs.any (fun x => spanOf x.1 == spanOf o.1) = true := by
    rw [List.any_eq_true]
    apply Classical.byContradiction
    intro hno
    have hall : ∀ x ∈ S.objs, x.1 ≠ o.1 → spanOf x.1 ≠ spanOf o.1 := fun x hx hne e => hno ⟨x, by
      show x ∈ S.objs.filter (fun x => !(x.1 == o.1))
      rw [List.mem_filter]
      exact ⟨hx, by simpa using hne⟩, by simpa using e⟩
    have h1 : inSpan S (spanOf o.1) ≤ ((sAll S).filter fun p => p == o.1).length := by
      unfold inSpan
      rw [show ((sAll S).filter fun p => spanOf p == spanOf o.1) = (sAll S).filter fun p => p == o.1 from List.filter_congr fun p hp => by
        obtain ⟨x, hx, rfl⟩ := List.mem_map.1 hp
        by_cases e : x.1 = o.1
        · show (spanOf x.1 == spanOf o.1) = (x.1 == o.1)
          rw [e]; simp
        · show (spanOf x.1 == spanOf o.1) = (x.1 == o.1)
          rw [beq_eq_false_iff_ne.2 (hall x hx e), beq_eq_false_iff_ne.2 e]]
      exact Nat.le_refl _
    have h3 : ((sAll S).filter fun p => p == o.1).length ≤ 1 := by
      have hnd : (sAll S).Nodup := by
        unfold sAll List.Nodup
        rw [List.pairwise_map]
        exact I.os.imp fun h => by omega
      have h4 : ((sAll S).filter fun p => p == o.1).Nodup := hnd.filter _
      match hh : (sAll S).filter (fun p => p == o.1), h4 with
      | [], _ => simp
      | [_], _ => simp
      | x :: y :: l, h4 =>
        rw [List.nodup_cons] at h4
        have hx := (List.mem_filter.1 (by rw [hh]; simp : x ∈ (sAll S).filter fun p => p == o.1)).2
        have hy := (List.mem_filter.1 (by rw [hh]; simp : y ∈ (sAll S).filter fun p => p == o.1)).2
        simp at hx hy
        exact absurd (by rw [hx, hy]; simp) h4.1
    omega
  have e : sFree S o.1 1 = (sLess S o.1 1, 0) := by
    unfold sFree
    rw [h0, if_neg (by decide), if_pos hany]
  have IF := free_inv I o.1 (junk := 1) (by omega)
  rw [e] at IF ⊢
  obtain ⟨e1, hc⟩ := classNat_eq a1 a2
  have hfr : (sLess S o.1 1).free (classNat o.2.1) = S.free (classNat o.2.1) ++ [o.1] := by
    show addL S.free (classOf (sSize S o.1).1) o.1 (classNat o.2.1) = _
    rw [I.size ho]
    unfold addL
    rw [if_pos e1.symm]
  have hlen : 0 < ((sLess S o.1 1).free (classNat o.2.1)).length := by rw [hfr]; simp
  have hf : sFits (sLess S o.1 1) o.2.1 = true := by
    unfold sFits
    simp [a1, a2, hlen]
  have hroom : sRoom (sLess S o.1 1) (classNat o.2.1) = sLess S o.1 1 := by
    unfold sRoom
    rw [if_neg (by omega)]
  have ea : sAlloc (sLess S o.1 1) o.2.1 0 2 = (sTake (sLess S o.1 1) (classNat o.2.1) o.2.1 0 2, lastOf ((sLess S o.1 1).free (classNat o.2.1)), 0) := by
    unfold sAlloc
    rw [if_neg (by simp; omega), if_neg (by rw [hf]; simp), hroom]
  have hlast : lastOf ((sLess S o.1 1).free (classNat o.2.1)) = o.1 := by
    rw [hfr]
    unfold lastOf
    simp [List.getD]
  rw [ea]
  refine ⟨by rw [hlast], ?_⟩
  rw [YtoodfioecabglaaDoor.all_len, YtoodfioecabglaaDoor.all_len]
  show (insO _ (S.objs.filter (fun x => !(x.1 == o.1)))).length = _
  rw [ins_len]
  exact filter_len I.os ho
end
end Go.Proofs.YtoodfioecabglaaDoor
namespace Go.Proofs.YtoodfioecabglaaDoor
open Go.RowKit Go.Shelf
theorem does_n {S : HS} (I : Inv S) (a : HAct) : (sDoes S a).n = S.n := by
  unfold sDoes
  split
  · rcases I.there_cases (sSpot S a) 0 with ⟨h, _⟩ | ⟨_, o, ho, e, _⟩
    · unfold sFree; rw [if_pos (by rw [h]; decide)]
    · rw [← e]; exact (free_ok I.toInv0 ho a.x).2.1
  split
  · unfold sClear; split <;> rfl
  split
  · rfl
  split
  · unfold sStore; split <;> rfl
  split
  · unfold sStore; split <;> rfl
  · unfold sAlloc
    split
    · rfl
    · split
      · rfl
      · exact sRoom_n S _
section
variable {h : Nat} {S S' : HS} {F : Nat → Prop} {w : World}
theorem clear_r {p er : Int} (hr : sThere S p 0 = er) (H : HpAt w h S F) (hp0 : -9223372036854775808 ≤ p) (hp : p ≤ 9223372036854775807) :
    Calls Tryd.prog 17 #[.pointer (some ⟨h, 0, none⟩), .int .i64 p] w fun e w' => e = .returned (.int .i64 er) ∧ HpAt w' h (sClear S p) F ∧ Step F w w' F := by
  have := clear_s h S F w p H hp0 hp
  rw [hr] at this
  exact this
theorem store_r {p f x er : Int} (hr : sThere S p f = er) (H : HpAt w h S F) (hp0 : -9223372036854775808 ≤ p) (hp : p ≤ 9223372036854775807) (hx : -9223372036854775808 ≤ x ∧ x ≤ 9223372036854775807) :
    Calls Tryd.prog 21 #[.pointer (some ⟨h, 0, none⟩), .int .i64 p, .int .i64 f, .int .i64 x] w fun e w' => e = .returned (.int .i64 er) ∧ HpAt w' h (sStore S p f x) F ∧ Step F w w' F := by
  have := store_s h S F w p f x H hp0 hp hx
  rw [hr] at this
  exact this
end
end Go.Proofs.YtoodfioecabglaaDoor
