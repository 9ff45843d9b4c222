/- How many objects have room in a heap; lists beside a heap. -/
import Derived.Test.YtoodfioecabglaaDoorHeapLaws
set_option linter.unusedVariables false
set_option linter.unusedSimpArgs false
namespace Go.Proofs.YtoodfioecabglaaDoor
/-- How many objects of a class have room yet. -/
def cntR (S : HS) (c : Nat) : Nat := (S.free c).length + blockCount c * S.cls.count (-1)
theorem bcount_pos {c : Nat} (hc : c < 4) : 1 ≤ blockCount c ∧ (blockCount c : Int) * wordsOf c = 8 := by
  rcases (by omega : c = 0 ∨ c = 1 ∨ c = 2 ∨ c = 3) with rfl | rfl | rfl | rfl <;> decide
theorem blocks_count {s c : Nat} (hs : s ≤ 1048576) : (blocksOf s c).length = blockCount c := by
  unfold blocksOf
  rw [if_neg (by omega)]
  simp
theorem room_start {S : HS} (I : Inv S) (ho : S.objs = []) {c : Nat} (hc : c < 4) : cntR S c = blockCount c * S.n := by
  have hall : ∀ x ∈ S.cls, x = -1 := fun x hx => by
    obtain ⟨i, hi, e⟩ := List.getElem_of_mem hx
    apply Classical.byContradiction
    intro hne
    have hg : S.cls.getD i (-1) = x := by simp [List.getD, List.getElem?_eq_getElem hi, e]
    obtain ⟨o, h, _⟩ := I.live i (by rw [← I.cl]; exact hi) (by rw [hg]; exact hne)
    rw [ho] at h
    cases h
  have hf : S.free c = [] := by
    cases hh : S.free c with
    | nil => rfl
    | cons x l =>
      have hx : x ∈ S.free c := by rw [hh]; simp
      obtain ⟨h1, h2, h3, h4, h5, h6⟩ := I.fb c hc x hx
      have hl : ((x - 1) / 8).toNat < S.cls.length := by rw [I.cl]; omega
      have := hall _ (List.getElem_mem hl)
      simp only [List.getD, List.getElem?_eq_getElem hl, Option.getD_some] at h5
      omega
  unfold cntR
  rw [hf, List.count_eq_length.2 (fun b hb => (hall b hb).symm), I.cl]
  simp
theorem room_fits {S : HS} {n : Int} (h1 : 1 ≤ n) (h6 : n ≤ 6) : sFits S n = decide (0 < cntR S (classNat n)) := by
  obtain ⟨_, hc⟩ := classNat_eq h1 h6
  have hb := (bcount_pos hc).1
  unfold sFits cntR
  rw [decide_eq_true h1, decide_eq_true h6, Bool.true_and, Bool.true_and, ← Bool.decide_or, decide_eq_decide, ← List.count_pos_iff (a := (-1 : Int)) (l := S.cls)]
  constructor
  · rintro (h | h)
    · omega
    · have := Nat.mul_pos hb h; omega
  · intro h
    rcases Nat.eq_zero_or_pos (S.free (classNat n)).length with e | e
    · right
      rcases Nat.eq_zero_or_pos (S.cls.count (-1)) with e2 | e2
      · rw [e, e2] at h; simp at h
      · exact e2
    · exact .inl e
theorem pop_len (f : Nat → List Int) (c : Nat) (h : 0 < (f c).length) : (popL f c c).length + 1 = (f c).length := by
  unfold popL
  rw [if_pos rfl, List.length_take]
  omega
theorem room_alloc {S : HS} (I : Inv S) {n mask junk : Int} (h1 : 1 ≤ n) (h6 : n ≤ 6) (hmk : mask / 2 ^ n.toNat = 0) (hf : sFits S n = true) : cntR (sAlloc S n mask junk).1 (classNat n) + 1 = cntR S (classNat n) := by
  obtain ⟨_, hc⟩ := classNat_eq h1 h6
  have e : (sAlloc S n mask junk).1 = sTake (sRoom S (classNat n)) (classNat n) n mask junk := by
    unfold sAlloc
    rw [if_neg (by omega), if_neg (by rw [hf]; simp)]
  rw [e]
  obtain ⟨c, ec⟩ : ∃ c, c = classNat n := ⟨_, rfl⟩
  have hr := (fits_room hf).2.2
  rw [← ec] at hc hr ⊢
  show (popL (sRoom S c).free c c).length + blockCount c * (sRoom S c).cls.count (-1) + 1 = _
  unfold sRoom
  by_cases hz : (S.free c).length = 0
  · rw [if_pos hz]
    have hx := hr.resolve_left (by omega)
    obtain ⟨hs, hm⟩ := idx_free I.toInv0 hx
    have hn2 := I.n2
    have hl : S.cls.idxOf (-1) < S.cls.length := List.idxOf_lt_length_of_mem hx
    have hfc : (sCut S c).free c = S.free c ++ (blocksOf (S.cls.idxOf (-1) : Nat) c).reverse := if_pos rfl
    have hlen : ((sCut S c).free c).length = blockCount c := by
      rw [hfc, List.length_append, List.length_reverse, blocks_count (by omega), hz, Nat.zero_add]
    have hb := (bcount_pos hc).1
    have hp := pop_len (sCut S c).free c (by omega)
    have hcl : (sCut S c).cls.count (-1) + 1 = S.cls.count (-1) := by
      show (S.cls.set (S.cls.idxOf (-1)) (c : Int)).count (-1) + 1 = _
      rw [List.count_set hl, List.getElem_idxOf hl]
      have hpos := List.count_pos_iff.2 hx
      have e1 : ((-1 : Int) == -1) = true := by decide
      have e2 : ((c : Int) == -1) = false := by rw [beq_eq_false_iff_ne]; omega
      rw [e1, e2]
      simp
      omega
    unfold cntR
    rw [← hcl, hz, Nat.mul_add]
    omega
  · rw [if_neg hz]
    have hp := pop_len S.free c (by omega)
    unfold cntR
    omega
/-- The first of all objects is freed. -/
theorem free_first {S : HS} (I : Inv0 S) {o : Int × Int × Int} {l : List (Int × Int × Int)} (h : S.objs = o :: l) (junk : Int) : (sFree S o.1 junk).2 = 0 ∧ (sFree S o.1 junk).1.n = S.n ∧ (sFree S o.1 junk).1.objs = l := by
  have ho : o ∈ S.objs := by rw [h]; simp
  obtain ⟨e1, e2, e3⟩ := free_ok I ho junk
  refine ⟨e1, e2, ?_⟩
  have hs := I.os
  rw [h, List.pairwise_cons] at hs
  rw [e3, h, List.filter_cons_of_neg (by simp), List.filter_eq_self]
  intro y hy
  have := hs.1 y hy
  have h2 : y.1 ≠ o.1 := by omega
  simpa using h2
open Go.RowKit Go.Shelf
/-- A slice that reads as a list, in blocks that are none of F. -/
structure RdO {α : Type} (enc : α → Value) (w : World) (F : Nat → Prop) (v : Value) (xs : List α) : Prop where
  rd : Rd enc w v xs
  off : 0 < xs.length → ∀ b, v.ownBlock = some b → ¬ F b
section
variable {α : Type} {enc : α → Value} {w w' : World} {F F' : Nat → Prop} {v : Value} {xs : List α}
theorem RdO.step (H : RdO enc w F v xs) (s : Step F w w' F') : RdO enc w' F' v xs :=
  ⟨H.rd.keep s.frame.size fun hp b e hlt => s.frame.block b hlt (H.off hp b e), fun hp b e hF => (s.sub b hF).elim (H.off hp b e) fun h => by
    obtain ⟨A, c, rfl, -⟩ := H.rd.len
    obtain ⟨b', o, rfl, hlt, _⟩ := H.rd.at_ hp
    have e' : b' = b := by simpa [Value.ownBlock] using e
    omega⟩
theorem RdO.below (H : RdO enc w F v xs) (hb : Below w.heap.size w w') : RdO enc w' F v xs := ⟨H.rd.below hb, H.off⟩
theorem all_o {h : Nat} {S : HS} {l : List Int} (hr : sAll S = l) (H : HpAt w h S F) :
    Calls Tryd.prog 26 #[.pointer (some ⟨h, 0, none⟩)] w fun e w' => ∃ A c, e = .returned (.slice A l.length c) ∧ RdO i64e w' F (.slice A l.length c) l ∧ From w.heap.size (.slice A l.length c) ∧ Below w.heap.size w w' := by
  refine (all_r hr H).mono ?_
  rintro e w' ⟨A, c, h1, h2, h3, h4⟩
  exact ⟨A, c, h1, ⟨h2, fun _ b e hF => by have := H.lt b hF; have := h3 b e; omega⟩, h3, h4⟩
theorem new_i (z : Int) (N : Nat) (hz : z = (N : Int)) (w : World) (h1 : 1 ≤ N) (h2 : N ≤ 512) (hT : TabW w) :
    Calls Tryd.prog 11 #[.int .i64 z] w fun e w' => ∃ (h : Nat) (F : Nat → Prop), e = .returned (.pointer (some ⟨h, 0, none⟩)) ∧ HpAt w' h (sNew N) F ∧ (∀ k, F k → w.heap.size ≤ k) ∧ Below w.heap.size w w' := by
  subst hz
  exact new_s N w h1 h2 hT
theorem of_r {n c : Int} (hc : classOf n = c) (w : World) : Calls Tryd.prog 28 #[.int .i64 n] w fun e w' => e = .returned (.int .i64 c) ∧ w = w' := by
  rw [← hc]
  exact of_ok n w
theorem words_r {c W : Int} (hc : wordsOf c = W) (w : World) : Calls Tryd.prog 30 #[.int .i64 c] w fun e w' => e = .returned (.int .i64 W) ∧ w = w' := by
  rw [← hc]
  exact words_ok c w
theorem in_r {p s : Int} (hs : spanOf p = s) (hp : p ≤ 9223372036854775807) (w : World) : Calls Tryd.prog 31 #[.int .i64 p] w fun e w' => e = .returned (.int .i64 s) ∧ w = w' := by
  rw [← hs]
  exact in_ok p w hp
end
end Go.Proofs.YtoodfioecabglaaDoor
