/- The walk of cut: a span without a class has one, and its blocks are free. -/
import Derived.Test.YtcaboknbdamlhaaGreatDoorRoundKit
import Derived.Test.YtcaboknbdamlhaaGreatDoorHeapFill
set_option linter.unusedVariables false
set_option linter.unusedSimpArgs false
namespace Go.Proofs.YtcaboknbdamlhaaGreatDoor
open Go.RowKit Go.Shelf
attribute [local go_sem] Oper.semAt_some

def mPuts (c : Int) (L : Nat → List Int) (ps : List Int) : Nat → List Int := ps.foldl (fun L p => (putL L c p).1) L
theorem mPuts_snoc (c : Int) (L : Nat → List Int) (ps : List Int) (p : Int) : mPuts c L (ps ++ [p]) = (putL (mPuts c L ps) c p).1 := by simp [mPuts]
def mCut (M : HM) (c : Int) : HM × Int := if (-1 : Int) ∈ M.cls then ({ M with cls := M.cls.set (M.cls.idxOf (-1)) c, free := mPuts c M.free (blocksOf (M.cls.idxOf (-1) : Nat) c).reverse }, 0) else (M, 6)
def LenF (L : Nat → List Int) (n : Nat) : Prop := ∀ j, j < 4 → (L j).length ≤ n
theorem lenF_put {L : Nat → List Int} {n : Nat} (h : LenF L n) (c p : Int) : LenF (putL L c p).1 (n + 1) := fun j hj => by
  have := h j hj
  unfold putL addL
  repeat' split
  all_goals simp only [] at *
  all_goals (try split)
  all_goals (try rw [List.length_append])
  all_goals (try simp only [List.length_cons, List.length_nil])
  all_goals omega
theorem lenF_puts {L : Nat → List Int} {n : Nat} (h : LenF L n) (c : Int) : ∀ (ps : List Int), LenF (mPuts c L ps) (n + ps.length) := fun ps => by
  induction ps generalizing L n with
  | nil => exact h
  | cons p ps ih =>
    have := ih (lenF_put h c p)
    show LenF (mPuts c (putL L c p).1 ps) (n + (ps.length + 1))
    rw [show n + (ps.length + 1) = n + 1 + ps.length by omega]
    exact this
theorem blocks_len (s c : Int) : (blocksOf s c).length ≤ 8 := by
  unfold blocksOf
  split
  · simp
  · rcases words_cases c with ⟨_, _, h⟩ | ⟨_, _, h⟩ | ⟨_, _, h⟩ | ⟨_, _, h⟩ | ⟨_, _, h⟩ <;> simp [h]
theorem blocks_top (s c : Int) (hs : s ≤ 512) : ∀ y ∈ blocksOf s c, y ≤ 5000 := fun y hy => by
  unfold blocksOf at hy
  split at hy
  · cases hy
  · simp only [List.mem_map, List.mem_range] at hy
    obtain ⟨j, hj, rfl⟩ := hy
    rcases words_cases c with ⟨_, h1, h⟩ | ⟨_, h1, h⟩ | ⟨_, h1, h⟩ | ⟨_, h1, h⟩ | ⟨_, h1, h⟩ <;> rw [h] at hj <;> rw [h1] <;> omega
theorem rd_grown {α : Type} {enc : α → Value} {W W' : World} {v : Value} {xs : List α} {row : Option Nat} (h : Rd enc W v xs) (hg : W.grownBy W' row) (hr : ∀ r, row = some r → ∃ o : Obj, W.heap[r]? = some o ∧ o.isCells = false) : Rd enc W' v xs := by
  refine h.keep hg.size fun h0 b hb hlt => hg.block b hlt fun e => ?_
  obtain ⟨A, d, rfl, -⟩ := h.len
  obtain ⟨b', o', rfl, hb', hc⟩ := h.at_ h0
  obtain rfl : b' = b := by simpa [Value.ownBlock] using hb
  obtain ⟨o1, h1, h2⟩ := cells_of_cell hc
  obtain ⟨o2, h3, h4⟩ := hr _ e.symm
  rw [show ((⟨b', o' + 0, none⟩ : Addr)).block = b' from rfl] at h1
  rw [h1] at h3
  cases h3
  rw [h2] at h4
  cases h4
theorem HIn.grown {W W' : World} {h : Nat} {M : HM} {F : Nat → Prop} {bw bc bs cc : Nat} {f : Nat → Value} {vu : Value} {row : Option Nat} (H : HIn W h M F bw bc bs cc f vu) (hg : W.grownBy W' row) (hr : ∀ r, row = some r → ∃ o : Obj, W.heap[r]? = some o ∧ o.isCells = false) : HIn W' h M F bw bc bs cc f vu := by
  have hb : ∀ b cs t, Blk W b t cs → Blk W' b t cs := fun b cs t hB => (hg.block b hB.lt fun e => by
    obtain ⟨o, h1, h2⟩ := hr _ e.symm
    unfold Blk at hB
    rw [hB] at h1
    cases h1
    cases h2).trans hB
  exact { H with
    self := hb _ _ _ H.self
    wblk := hb _ _ _ H.wblk
    cown := by
      rcases H.cown.2 with ⟨hv, _⟩ | ⟨g, cap, cur, hv, hB, hh, _⟩
      · cases hv
      · cases hv
        exact own_keep H.cown fun g e => by
          cases e
          exact hg.block _ (Array.getElem?_eq_some_iff.1 hh).1 fun e => by
            obtain ⟨o, h1, h2⟩ := hr _ e.symm
            rw [hh] at h1
            cases h1
            cases h2
    sblk := hb _ _ _ H.sblk
    ur := rd_grown H.ur hg hr
    fr := fun j hj => rd_grown (H.fr j hj) hg hr
    lt := fun k hk => Nat.lt_of_lt_of_le (H.lt k hk) hg.size }
theorem step_grown {F G : Nat → Prop} {w W W' : World} {row : Option Nat} (h : Step F w W G) (hg : W.grownBy W' row) (hr : ∀ r, row = some r → w.heap.size ≤ r) : Step F w W' G :=
  ⟨⟨hg.os.trans h.frame.os, hg.tape.trans h.frame.tape, hg.output.trans h.frame.output, Nat.le_trans h.frame.size hg.size, fun k hk hn => by
    have hs := h.frame.size
    rw [hg.block k (by omega) fun e => by have := hr _ e.symm; omega]
    exact h.frame.block k hk hn⟩, h.sub⟩
section
variable (W : World) (h : Nat) (f : Nat → Value)
theorem set4_eq : W.setCells h 2 (arr4 f).toList = (((W.setCell ⟨h, 2, none⟩ (f 0)).setCell ⟨h, 3, none⟩ (f 1)).setCell ⟨h, 4, none⟩ (f 2)).setCell ⟨h, 5, none⟩ (f 3) := rfl
theorem set4_other {k : Nat} (hk : k ≠ h) : (W.setCells h 2 (arr4 f).toList).heap[k]? = W.heap[k]? := by
  rw [set4_eq, setCell_other _ h _ _ hk, setCell_other _ h _ _ hk, setCell_other _ h _ _ hk, setCell_other _ h _ _ hk]
theorem set4_size : (W.setCells h 2 (arr4 f).toList).heap.size = W.heap.size := by
  rw [set4_eq, setCell_size, setCell_size, setCell_size, setCell_size]
theorem set4_keeps : KeepsOthers W (W.setCells h 2 (arr4 f).toList) := by
  rw [set4_eq]
  exact (((KeepsOthers.setCell _ _ _).trans (KeepsOthers.setCell _ _ _)).trans (KeepsOthers.setCell _ _ _)).trans (KeepsOthers.setCell _ _ _)
theorem set4_step {F : Nat → Prop} (hF : F h) : Step F W (W.setCells h 2 (arr4 f).toList) F := by
  rw [set4_eq]
  exact (((step_setCell _ hF).trans (step_setCell _ hF)).trans (step_setCell _ hF)).trans (step_setCell _ hF)
end
theorem keeps_below {W W' : World} (h : Below W.heap.size W W') : KeepsOthers W W' := ⟨h.size, fun k o hk _ => (h.block k (Array.getElem?_eq_some_iff.1 hk).1).trans hk⟩
/-- The free lists anew: what a Put, a Take, or a Cut has made of them is stored. -/
theorem HIn.refree {W W4 : World} {h : Nat} {M : HM} {F : Nat → Prop} {bw bc bs cc : Nat} {f f4 : Nat → Value} {vu : Value} {L : Nat → List Int} (H : HIn W h M F bw bc bs cc f vu) (hb : Below W.heap.size W W4)
    (hrf : ∀ j, j < 4 → Rd i64e W4 (f4 j) (L j)) (hfb : ∀ j, j < 4 → ∀ b, (f4 j).ownBlock = some b → W.heap.size ≤ b ∧ b < W4.heap.size) :
    HIn (W4.setCells h 2 (arr4 f4).toList) h { M with free := L } (fun k => F k ∨ (W.heap.size ≤ k ∧ k < W4.heap.size)) bw bc bs cc f4 vu ∧ Step F W (W4.setCells h 2 (arr4 f4).toList) (fun k => F k ∨ (W.heap.size ≤ k ∧ k < W4.heap.size)) := by
  have h1 := H.lt h H.inF.1
  have h2 := H.lt bw H.inF.2.1
  have h3 := H.lt bc H.inF.2.2.1
  have h4 := H.lt bs H.inF.2.2.2
  refine ⟨(H.below hb).set_free hrf (fun k hk => .inl hk) (fun k hk => hk.elim ((H.below hb).lt k) (fun e => e.2)) (fun j hj _ b hbo => ?_), ?_⟩
  · have := hfb j hj b hbo
    exact ⟨.inr this, by omega, by omega, by omega, by omega⟩
  · exact Step.trans ⟨Frame.of_below hb, fun k hk => hk.elim .inl (fun e => .inr e.1)⟩ (set4_step W4 h f4 (.inl H.inF.1))
/-- The set anew: what a Put has made of it is stored. -/
theorem HIn.reuse {W W4 : World} {h : Nat} {M : HM} {F : Nat → Prop} {bw bc bs cc : Nat} {f : Nat → Value} {vu v' : Value} {ys : List Int} {i : Int} {is : Bool} (H : HIn W h M F bw bc bs cc f vu) (hb : Below W.heap.size W W4)
    (hr : Rd u64e W4 v' ys) (hp : PutB M.zs i is ys) (hfr : From W.heap.size v') :
    HIn (W4.setCell ⟨h, 6, none⟩ v') h { M with zs := ys } (fun k => F k ∨ (W.heap.size ≤ k ∧ k < W4.heap.size)) bw bc bs cc f v' ∧ Step F W (W4.setCell ⟨h, 6, none⟩ v') (fun k => F k ∨ (W.heap.size ≤ k ∧ k < W4.heap.size)) := by
  have h1 := H.lt h H.inF.1
  have h2 := H.lt bw H.inF.2.1
  have h3 := H.lt bc H.inF.2.2.1
  have h4 := H.lt bs H.inF.2.2.2
  have h5 := H.ulen
  obtain ⟨p1, p2, p3, p4⟩ := hp
  refine ⟨(H.below hb).set_used hr p1 (by omega) (fun k hk => .inl hk) (fun k hk => hk.elim ((H.below hb).lt k) (fun e => e.2)) (fun h0 b hbo => ?_), ?_⟩
  · have hB := hfr b hbo
    obtain ⟨A, d, rfl, -⟩ := hr.len
    obtain ⟨b', o', rfl, hb', hc⟩ := hr.at_ h0
    obtain rfl : b' = b := by simpa [Value.ownBlock] using hbo
    exact ⟨.inr ⟨hB, hb'⟩, by omega, by omega, by omega, by omega⟩
  · exact Step.trans ⟨Frame.of_below hb, fun k hk => hk.elim .inl (fun e => .inr e.1)⟩ (step_setCell v' (.inl H.inF.1))
end Go.Proofs.YtcaboknbdamlhaaGreatDoor
