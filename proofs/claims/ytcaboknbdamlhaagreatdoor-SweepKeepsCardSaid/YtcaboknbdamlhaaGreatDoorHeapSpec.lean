/- The document's heap in plain words: what each call makes of it, and what holds of it always; no program in sight. -/
import Derived.Test.YtcaboknbdamlhaaGreatDoorHeapFree
set_option linter.unusedVariables false
set_option linter.unusedSimpArgs false
namespace Go.Proofs.YtcaboknbdamlhaaGreatDoor

/-- A heap, as the document has it. -/
structure HS where
  n : Nat
  words : List Int
  cls : List Int
  free : Nat → List Int
  objs : List (Int × Int × Int)

def sSize (S : HS) (p : Int) : Int × Int × Bool := match S.objs.find? fun o => o.1 == p with
  | some o => (o.2.1, o.2.2, true)
  | none => (0, 0, false)
def sThere (S : HS) (p f : Int) : Int := if (sSize S p).2.2 = false ∨ f < 0 ∨ (sSize S p).1 ≤ f then 11 else 0
def sLoad (S : HS) (p f : Int) : Int × Int := if sThere S p f = 0 then (S.words.getD (p + f).toNat 0, 0) else (0, sThere S p f)
def sStore (S : HS) (p f x : Int) : HS := if sThere S p f = 0 then { S with words := S.words.set (p + f).toNat x } else S
def sClear (S : HS) (p : Int) : HS := if sThere S p 0 = 0 then { S with words := fillW S.words p.toNat 0 (sSize S p).1.toNat } else S
def sFits (S : HS) (n : Int) : Bool := decide (1 ≤ n) && (decide (n ≤ 6) && (decide (0 < (S.free (classNat n)).length) || decide ((-1 : Int) ∈ S.cls)))
def sAll (S : HS) : List Int := S.objs.map (·.1)
def insO (o : Int × Int × Int) : List (Int × Int × Int) → List (Int × Int × Int)
  | [] => [o]
  | x :: l => if o.1 < x.1 then o :: x :: l else x :: insO o l
def sCut (S : HS) (c : Nat) : HS := { S with cls := S.cls.set (S.cls.idxOf (-1)) c, free := fun j => if j = c then S.free j ++ (blocksOf (S.cls.idxOf (-1) : Nat) c).reverse else S.free j }
def sRoom (S : HS) (c : Nat) : HS := if (S.free c).length = 0 then sCut S c else S
def sTake (S : HS) (c : Nat) (n mask junk : Int) : HS := { S with free := popL S.free c, words := fillW S.words (lastOf (S.free c)).toNat junk (wordsOf c).toNat, objs := insO (lastOf (S.free c), n, mask) S.objs }
def sAlloc (S : HS) (n mask junk : Int) : HS × Int × Int :=
  if n < 1 ∨ 6 < n ∨ mask / 2 ^ n.toNat ≠ 0 then (S, 0, 2)
  else if sFits S n = false then (S, 0, 6)
  else (sTake (sRoom S (classNat n)) (classNat n) n mask junk, lastOf ((sRoom S (classNat n)).free (classNat n)), 0)
def sLess (S : HS) (p junk : Int) : HS := { S with words := fillW S.words p.toNat junk (wordsOf (classOf (sSize S p).1)).toNat, objs := S.objs.filter (fun o => !(o.1 == p)), free := addL S.free (classOf (sSize S p).1) p }
def sFree (S : HS) (p junk : Int) : HS × Int :=
  if sThere S p 0 ≠ 0 then (S, 11)
  else if (sLess S p junk).objs.any (fun o => spanOf o.1 == spanOf p) then (sLess S p junk, 0)
  else ({ sLess S p junk with free := cutL (sLess S p junk).free (spanOf p), cls := S.cls.set (spanOf p).toNat (-1) }, 0)
def sNew (n : Nat) : HS := ⟨n, List.replicate (8 * n + 1) 0, List.replicate n (-1), fun _ => [], []⟩

/-- x is where a block of class c begins. -/
def Sits (n : Nat) (cls : List Int) (x c : Int) : Prop := 1 ≤ x ∧ x ≤ 8 * n ∧ 0 ≤ c ∧ c ≤ 3 ∧ cls.getD ((x - 1) / 8).toNat (-1) = c ∧ (x - 1) % wordsOf c = 0
structure Inv0 (S : HS) : Prop where
  n1 : 1 ≤ S.n
  n2 : S.n ≤ 512
  wl : S.words.length = 8 * S.n + 1
  wb : I64 S.words
  cl : S.cls.length = S.n
  cb : ∀ x ∈ S.cls, -1 ≤ x ∧ x ≤ 3
  ob : ∀ o ∈ S.objs, 1 ≤ o.2.1 ∧ o.2.1 ≤ 6 ∧ 0 ≤ o.2.2 ∧ o.2.2 ≤ 255 ∧ Sits S.n S.cls o.1 (classOf o.2.1)
  os : S.objs.Pairwise fun a b => a.1 < b.1
  fb : ∀ j, j < 4 → ∀ x ∈ S.free j, Sits S.n S.cls x j
  fn : ∀ j, j < 4 → (S.free j).Nodup
  fo : ∀ j, j < 4 → ∀ x ∈ S.free j, ∀ o ∈ S.objs, o.1 ≠ x
  cov : ∀ x c, Sits S.n S.cls x c → (∃ j : Nat, j < 4 ∧ x ∈ S.free j) ∨ ∃ o ∈ S.objs, o.1 = x
structure Inv (S : HS) : Prop extends Inv0 S where
  live : ∀ s : Nat, s < S.n → S.cls.getD s (-1) ≠ -1 → ∃ o ∈ S.objs, spanOf o.1 = s

theorem wordsOf_mod {c : Int} (h0 : 0 ≤ c) (h3 : c ≤ 3) : 1 ≤ wordsOf c ∧ wordsOf c ≤ 8 ∧ 8 % wordsOf c = 0 := by
  rcases (by omega : c = 0 ∨ c = 1 ∨ c = 2 ∨ c = 3) with rfl | rfl | rfl | rfl <;> decide
theorem Sits.span {n : Nat} {cls : List Int} {x c : Int} (h : Sits n cls x c) : spanOf x = (x - 1) / 8 ∧ 0 ≤ spanOf x ∧ spanOf x < n := by
  obtain ⟨h1, h2, _⟩ := h
  have := (span_bd x).2.2 h1
  omega
/-- Its block ends within its span. -/
theorem Sits.ends {n : Nat} {cls : List Int} {x c : Int} (h : Sits n cls x c) : x + wordsOf c ≤ 8 * ((x - 1) / 8) + 9 ∧ x + wordsOf c ≤ 8 * n + 1 := by
  obtain ⟨h1, h2, h3, h4, _, h6⟩ := h
  rcases (by omega : c = 0 ∨ c = 1 ∨ c = 2 ∨ c = 3) with rfl | rfl | rfl | rfl
  · rw [show wordsOf 0 = 1 from rfl] at *; omega
  · rw [show wordsOf 1 = 2 from rfl] at *; omega
  · rw [show wordsOf 2 = 4 from rfl] at *; omega
  · rw [show wordsOf 3 = 8 from rfl] at *; omega
theorem Sits.uniq {n : Nat} {cls : List Int} {x c d : Int} (h : Sits n cls x c) (k : Sits n cls x d) : c = d := by
  obtain ⟨_, _, _, _, h5, _⟩ := h
  obtain ⟨_, _, _, _, k5, _⟩ := k
  omega
/-- Blocks do not meet. -/
theorem Sits.apart {n : Nat} {cls : List Int} {x y c d : Int} (h : Sits n cls x c) (k : Sits n cls y d) (hlt : x < y) : x + wordsOf c ≤ y := by
  have he := h.ends
  obtain ⟨h1, h2, h3, h4, h5, h6⟩ := h
  obtain ⟨k1, k2, k3, k4, k5, k6⟩ := k
  by_cases e : (x - 1) / 8 = (y - 1) / 8
  · have hcd : c = d := by rw [e] at h5; omega
    subst hcd
    rcases (by omega : c = 0 ∨ c = 1 ∨ c = 2 ∨ c = 3) with rfl | rfl | rfl | rfl
    · rw [show wordsOf 0 = 1 from rfl] at *; omega
    · rw [show wordsOf 1 = 2 from rfl] at *; omega
    · rw [show wordsOf 2 = 4 from rfl] at *; omega
    · rw [show wordsOf 3 = 8 from rfl] at *; omega
  · omega
theorem Sits.begins {n : Nat} {cls : List Int} {x c : Int} (h : Sits n cls x c) : beginsAt x c = true := by
  obtain ⟨h1, h2, h3, h4, _, h6⟩ := h
  have := wordsOf_mod h3 h4
  unfold beginsAt
  rw [decide_eq_true_iff]
  exact ⟨h1, by omega, h6⟩
theorem class_ge {n : Int} (h1 : 1 ≤ n) (h6 : n ≤ 6) : 0 ≤ classOf n ∧ classOf n ≤ 3 ∧ n ≤ wordsOf (classOf n) := by
  unfold classOf wordsOf
  repeat' split
  all_goals omega

section find
variable {S : HS}
theorem find_some {l : List (Int × Int × Int)} (hs : l.Pairwise fun a b => a.1 < b.1) {o : Int × Int × Int} (ho : o ∈ l) : (l.find? fun x => x.1 == o.1) = some o := by
  induction l with
  | nil => cases ho
  | cons x l ih =>
    rw [List.pairwise_cons] at hs
    rw [List.find?_cons]
    rcases List.mem_cons.1 ho with rfl | h
    · simp
    · have := hs.1 o h
      rw [show (x.1 == o.1) = false by rw [beq_eq_false_iff_ne]; omega]
      exact ih hs.2 h
theorem find_none {l : List (Int × Int × Int)} {p : Int} (h : ∀ o ∈ l, o.1 ≠ p) : (l.find? fun x => x.1 == p) = none := by
  rw [List.find?_eq_none]
  intro o ho
  simp [h o ho]
theorem Inv0.size (H : Inv0 S) {o : Int × Int × Int} (ho : o ∈ S.objs) : sSize S o.1 = (o.2.1, o.2.2, true) := by
  unfold sSize
  rw [find_some H.os ho]
theorem size_none {p : Int} (h : ∀ o ∈ S.objs, o.1 ≠ p) : sSize S p = (0, 0, false) := by
  unfold sSize
  rw [find_none h]
theorem Inv0.size_cases (H : Inv0 S) (p : Int) : (sSize S p = (0, 0, false) ∧ ∀ o ∈ S.objs, o.1 ≠ p) ∨ ∃ o ∈ S.objs, o.1 = p ∧ sSize S p = (o.2.1, o.2.2, true) := by
  by_cases h : ∃ o ∈ S.objs, o.1 = p
  · obtain ⟨o, ho, rfl⟩ := h
    exact .inr ⟨o, ho, rfl, H.size ho⟩
  · have h' : ∀ o ∈ S.objs, o.1 ≠ p := fun o ho e => h ⟨o, ho, e⟩
    exact .inl ⟨size_none h', h'⟩
theorem Inv0.there_cases (H : Inv0 S) (p f : Int) : (sThere S p f = 11 ∧ ((∀ o ∈ S.objs, o.1 ≠ p) ∨ f < 0 ∨ (sSize S p).1 ≤ f)) ∨ (sThere S p f = 0 ∧ ∃ o ∈ S.objs, o.1 = p ∧ sSize S p = (o.2.1, o.2.2, true) ∧ 0 ≤ f ∧ f < o.2.1) := by
  unfold sThere
  rcases H.size_cases p with ⟨h, h'⟩ | ⟨o, ho, e, h⟩
  · rw [h]; exact .inl ⟨by simp, .inl h'⟩
  · rw [h]
    by_cases hf : f < 0
    · exact .inl ⟨by simp [hf], .inr (.inl hf)⟩
    · by_cases hg : o.2.1 ≤ f
      · exact .inl ⟨by simp [hg], .inr (.inr hg)⟩
      · exact .inr ⟨by simp [hf, hg], o, ho, e, rfl, by omega, by omega⟩
end find

/-- The bits and the shapes are the objects'. -/
def Cpl (zs : List Int) (sh : List (Int × Int)) (objs : List (Int × Int × Int)) : Prop :=
  (∀ j : Nat, bitAt zs j = true ↔ ∃ o ∈ objs, o.1 = (j : Int)) ∧ ∀ o ∈ objs, sh.getD o.1.toNat (0, 0) = (o.2.1, o.2.2)
def toM (S : HS) (zs : List Int) (sh : List (Int × Int)) : HM := ⟨S.n, S.words, S.cls, S.free, zs, sh⟩
section cpl
variable {S : HS} {zs : List Int} {sh : List (Int × Int)}
theorem cpl_size (H : Inv0 S) (C : Cpl zs sh S.objs) (p : Int) : mSize (toM S zs sh) p = sSize S p := by
  rcases H.size_cases p with ⟨h, h'⟩ | ⟨o, ho, e, h⟩
  · rw [h]
    unfold mSize
    rw [if_neg]
    intro hb
    simp only [hasB, Bool.and_eq_true, decide_eq_true_eq] at hb
    obtain ⟨o, ho, e⟩ := (C.1 p.toNat).1 hb.2
    exact h' o ho (by omega)
  · rw [h]
    obtain ⟨_, _, _, _, s1, s2, _⟩ := H.ob o ho
    unfold mSize
    have hb : hasB zs p = true := by
      simp only [hasB, Bool.and_eq_true, decide_eq_true_eq]
      exact ⟨by omega, (C.1 _).2 ⟨o, ho, by omega⟩⟩
    have := C.2 o ho
    rw [e] at this
    rw [if_pos (show hasB (toM S zs sh).zs p = true from hb)]
    show ((sh.getD p.toNat (0, 0)).1, (sh.getD p.toNat (0, 0)).2, true) = _
    rw [this]
theorem cpl_there (H : Inv0 S) (C : Cpl zs sh S.objs) (p f : Int) : mThere (toM S zs sh) p f = sThere S p f := by
  unfold mThere sThere
  rw [cpl_size H C]
theorem cpl_load (H : Inv0 S) (C : Cpl zs sh S.objs) (p f : Int) : mLoad (toM S zs sh) p f = sLoad S p f := by
  unfold mLoad sLoad
  rw [cpl_there H C]
  rfl
theorem cpl_store (H : Inv0 S) (C : Cpl zs sh S.objs) (p f x : Int) : mStore (toM S zs sh) p f x = toM (sStore S p f x) zs sh := by
  unfold mStore sStore
  rw [cpl_there H C]
  split <;> rfl
theorem cpl_ok (H : Inv0 S) (C : Cpl zs sh S.objs) : MOk (toM S zs sh) := fun j hj => by
  obtain ⟨o, ho, e⟩ := (C.1 j).1 hj
  obtain ⟨h1, h2, h3, h4, hs⟩ := H.ob o ho
  have h5 := hs.ends.2
  have hs1 := hs.1
  have := C.2 o ho
  rw [e, Int.toNat_natCast] at this
  show 1 ≤ j ∧ 1 ≤ (sh.getD j (0, 0)).1 ∧ (sh.getD j (0, 0)).1 ≤ 6 ∧ (j : Int) + wordsOf (classOf (sh.getD j (0, 0)).1) ≤ 8 * S.n + 1 ∧ 0 ≤ (sh.getD j (0, 0)).2 ∧ (sh.getD j (0, 0)).2 ≤ 255
  rw [this]
  exact ⟨by omega, h1, h2, by rw [e] at h5; exact h5, h3, h4⟩
theorem cpl_clear (H : Inv0 S) (C : Cpl zs sh S.objs) (p : Int) : mClear (toM S zs sh) p = toM (sClear S p) zs sh := by
  unfold mClear sClear
  rw [cpl_there H C]
  rcases H.there_cases p 0 with ⟨h, _⟩ | ⟨h, o, ho, e, hs, _⟩
  · rw [h]; rfl
  · rw [h, if_pos rfl, if_pos rfl, hs]
    have := C.2 o ho
    rw [e] at this
    show HM.mk _ _ _ _ _ _ = _
    rw [show (toM S zs sh).sh = sh from rfl, this]
    rfl
theorem cpl_fits (S : HS) (zs : List Int) (sh : List (Int × Int)) (n : Int) : mFits (toM S zs sh) n = sFits S n := rfl
/-- A rising list of all numbers that have it. -/
theorem sorted_ext : ∀ {l k : List Int}, l.Pairwise (· < ·) → k.Pairwise (· < ·) → (∀ x, x ∈ l ↔ x ∈ k) → l = k
  | [], [], _, _, _ => rfl
  | [], y :: k, _, _, h => by have := (h y).2 (by simp); cases this
  | x :: l, [], _, _, h => by have := (h x).1 (by simp); cases this
  | x :: l, y :: k, hl, hk, h => by
    rw [List.pairwise_cons] at hl hk
    have hxy : x = y := by
      rcases List.mem_cons.1 ((h x).1 (by simp)) with e | e
      · exact e
      · rcases List.mem_cons.1 ((h y).2 (by simp)) with e2 | e2
        · exact e2.symm
        · have := hk.1 x e; have := hl.1 y e2; omega
    subst hxy
    rw [sorted_ext hl.2 hk.2 fun z => ?_]
    constructor
    · intro hz
      rcases List.mem_cons.1 ((h z).1 (by simp [hz])) with e | e
      · have := hl.1 z hz; omega
      · exact e
    · intro hz
      rcases List.mem_cons.1 ((h z).2 (by simp [hz])) with e | e
      · have := hk.1 z hz; omega
      · exact e
theorem numsTo_mem (p : Nat → Bool) (x : Int) : ∀ n, x ∈ numsTo p n ↔ ∃ j : Nat, x = (j : Int) ∧ j < n ∧ p j = true
  | 0 => by simp [numsTo]
  | n + 1 => by
    unfold numsTo
    have ih := numsTo_mem p x n
    by_cases h : p n = true
    · rw [if_pos h, List.mem_append, ih]
      constructor
      · rintro (⟨j, e, h1, h2⟩ | e)
        · exact ⟨j, e, by omega, h2⟩
        · exact ⟨n, by simpa using e, by omega, h⟩
      · rintro ⟨j, e, h1, h2⟩
        by_cases e2 : j = n
        · subst e2; exact .inr (by simp [e])
        · exact .inl ⟨j, e, by omega, h2⟩
    · rw [if_neg h, ih]
      constructor
      · rintro ⟨j, e, h1, h2⟩; exact ⟨j, e, by omega, h2⟩
      · rintro ⟨j, e, h1, h2⟩
        by_cases e2 : j = n
        · subst e2; exact absurd h2 h
        · exact ⟨j, e, by omega, h2⟩
theorem numsTo_sorted (p : Nat → Bool) : ∀ n, (numsTo p n).Pairwise (· < ·)
  | 0 => List.Pairwise.nil
  | n + 1 => by
    unfold numsTo
    split
    · rw [List.pairwise_append]
      refine ⟨numsTo_sorted p n, by simp, fun a ha b hb => ?_⟩
      obtain ⟨j, rfl, h1, _⟩ := (numsTo_mem p a n).1 ha
      rw [List.mem_singleton] at hb
      omega
    · exact numsTo_sorted p n
theorem cpl_all (H : Inv0 S) (C : Cpl zs sh S.objs) : mAll (toM S zs sh) = sAll S := by
  unfold mAll sAll
  refine sorted_ext (numsTo_sorted _ _) (List.pairwise_map.2 H.os) fun x => ?_
  rw [numsTo_mem, List.mem_map]
  constructor
  · rintro ⟨j, rfl, _, hb⟩
    obtain ⟨o, ho, e⟩ := (C.1 j).1 hb
    exact ⟨o, ho, e⟩
  · rintro ⟨o, ho, rfl⟩
    obtain ⟨_, _, _, _, s1, _⟩ := H.ob o ho
    have hb : bitAt zs o.1.toNat = true := (C.1 _).2 ⟨o, ho, by omega⟩
    exact ⟨o.1.toNat, by omega, bitAt_lt hb, hb⟩
end cpl

/-- How long a list of blocks can be. -/
theorem nodup_len : ∀ (N : Nat) (l : List Int), l.Nodup → (∀ x ∈ l, 1 ≤ x ∧ x ≤ N) → l.length ≤ N
  | 0, l, _, h => by
    cases l with
    | nil => simp
    | cons x l => have := h x (by simp); omega
  | N + 1, l, hn, h => by
    have h1 : (l.filter fun x => !(x == ((N + 1 : Nat) : Int))).length ≤ N := nodup_len N _ (hn.filter _) fun x hx => by
      rw [List.mem_filter] at hx
      have := h x hx.1
      have h2 : x ≠ ((N + 1 : Nat) : Int) := by simpa using hx.2
      omega
    have h2 : l.length ≤ (l.filter fun x => !(x == ((N + 1 : Nat) : Int))).length + 1 := by
      clear h h1
      induction l with
      | nil => simp
      | cons x l ih =>
        rw [List.nodup_cons] at hn
        by_cases e : x = ((N + 1 : Nat) : Int)
        · have hf : (l.filter fun x => !(x == ((N + 1 : Nat) : Int))) = l := by
            rw [List.filter_eq_self]
            intro y hy
            have : y ≠ ((N + 1 : Nat) : Int) := fun e2 => hn.1 (by rw [e, ← e2]; exact hy)
            simpa using this
          rw [List.filter_cons_of_neg (by simp [e]), hf]
          simp
        · rw [List.filter_cons_of_pos (by simp; omega)]
          have := ih hn.2
          simp only [List.length_cons]
          omega
    omega
theorem Inv0.free_len {S : HS} (H : Inv0 S) {j : Nat} (hj : j < 4) : (S.free j).length ≤ 4096 := by
  have h2 := H.n2
  have := nodup_len (8 * S.n) (S.free j) (H.fn j hj) fun x hx => by
    obtain ⟨h1, h2, _⟩ := H.fb j hj x hx
    omega
  omega
theorem Inv0.objs_len {S : HS} (H : Inv0 S) : S.objs.length ≤ 4096 := by
  have h2 := H.n2
  have := nodup_len (8 * S.n) (sAll S) (by
    unfold sAll List.Nodup
    rw [List.pairwise_map]
    exact H.os.imp fun h => by omega) fun x hx => by
    obtain ⟨o, ho, rfl⟩ := List.mem_map.1 hx
    obtain ⟨_, _, _, _, h1, h2, _⟩ := H.ob o ho
    omega
  simp [sAll] at this
  omega
theorem Inv0.lenF {S : HS} (H : Inv0 S) (n : Nat) (hn : 4096 ≤ n) : LenF S.free n := fun j hj => Nat.le_trans (H.free_len hj) hn
theorem Inv0.bdL {S : HS} (H : Inv0 S) : BdL S.free := fun j hj x hx => by
  obtain ⟨h1, h2, _⟩ := H.fb j hj x hx
  have := H.n2
  omega
end Go.Proofs.YtcaboknbdamlhaaGreatDoor
