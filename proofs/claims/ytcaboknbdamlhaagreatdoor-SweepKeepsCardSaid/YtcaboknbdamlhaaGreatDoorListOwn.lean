/- Lists of their own: (Lists).own. -/
import Derived.Test.YtcaboknbdamlhaaGreatDoorSlices
set_option linter.unusedVariables false
set_option linter.unusedSimpArgs false
namespace Go.Proofs.YtcaboknbdamlhaaGreatDoor
open Go.RowKit

def arr4 (f : Nat → Value) : Array Value := #[f 0, f 1, f 2, f 3]
theorem arr4_get (f : Nat → Value) {k : Nat} (hk : k < 4) : (arr4 f)[k]? = some (f k) := by
  rcases (show k = 0 ∨ k = 1 ∨ k = 2 ∨ k = 3 from by omega) with rfl | rfl | rfl | rfl <;> rfl
theorem arr4_set (f : Nat → Value) {k : Nat} (hk : k < 4) (u : Value) : (arr4 f).setIfInBounds k u = arr4 (fun j => if j = k then u else f j) := by
  rcases (show k = 0 ∨ k = 1 ∨ k = 2 ∨ k = 3 from by omega) with rfl | rfl | rfl | rfl <;> rfl

/-- Four slices that read as four lists. -/
def RdL (w : World) (v : Value) (L : Nat → List Int) : Prop := ∃ f, v = .agg (arr4 f) ∧ ∀ j, j < 4 → Rd i64e w (f j) (L j)
/-- Four rows of the call's own. -/
def OwnL (w : World) (B n : Nat) (f : Nat → Value) (L : Nat → List Int) : Prop :=
  (∀ j, j < n → w.ownsRow B 3 1 (f j) (L j).length ((L j).map i64e)) ∧
  ∀ i j, i < n → j < n → i ≠ j → (f i).ownBlock = none ∨ (f i).ownBlock ≠ (f j).ownBlock
def ShortL (L : Nat → List Int) : Prop := ∀ j, j < 4 → (L j).length ≤ 1099511627776

theorem RdL.below {w w' : World} {v : Value} {L : Nat → List Int} (h : RdL w v L) (hb : Below w.heap.size w w') : RdL w' v L := by
  obtain ⟨f, rfl, h⟩ := h
  exact ⟨f, rfl, fun j hj => (h j hj).below hb⟩
theorem RdL.of_own {w : World} {B : Nat} {f : Nat → Value} {L : Nat → List Int} (h : OwnL w B 4 f L) : RdL w (.agg (arr4 f)) L := ⟨f, rfl, fun j hj => Rd.of_own (h.1 j hj)⟩

theorem OwnL.snoc {w w1 : World} {B k : Nat} {g : Nat → Value} {u : Value} {L : Nat → List Int} (h : OwnL w B k g L) (hb : Below w.heap.size w w1) (hB : B ≤ w.heap.size) (hu : w1.ownsRow w.heap.size 3 1 u (L k).length ((L k).map i64e)) :
    OwnL w1 B (k + 1) (fun j => if j = k then u else g j) L := by
  refine ⟨fun j hj => ?_, fun i j hi hj hne => ?_⟩
  · by_cases e : j = k
    · subst e
      simp only [if_true]
      exact own_base hu hB
    · simp only [if_neg e]
      exact own_below (h.1 j (by omega)) hb
  · by_cases ei : i = k
    · by_cases ej : j = k
      · omega
      · simp only [if_pos ei, if_neg ej]
        cases hu0 : u.ownBlock with
        | none => exact .inl rfl
        | some x =>
          refine .inr fun e => ?_
          have h1 := (hu.lt x hu0).1
          have h2 := ((h.1 j (by omega)).lt x e.symm).2
          omega
    · by_cases ej : j = k
      · simp only [if_neg ei, if_pos ej]
        cases hu0 : (g i).ownBlock with
        | none => exact .inl rfl
        | some x =>
          refine .inr fun e => ?_
          have h1 := (hu.lt x e.symm).1
          have h2 := ((h.1 i (by omega)).lt x hu0).2
          omega
      · simp only [if_neg ei, if_neg ej]
        exact h.2 i j (by omega) (by omega) hne
theorem OwnL.set_below {w : World} {B k : Nat} {g : Nat → Value} {L : Nat → List Int} (h : OwnL w B k g L) {p : Addr} (hp : p.block < B) (u : Value) : OwnL (w.setCell p u) B k g L :=
  ⟨fun j hj => ownsRow_setCell_below (h.1 j hj) hp u, h.2⟩

def nil4 : Array Value := #[.slice none 0 0, .slice none 0 0, .slice none 0 0, .slice none 0 0]
set_option maxHeartbeats 400000 in
theorem own_ok (f : Nat → Value) (L : Nat → List Int) (w : World) (hv : ∀ j, j < 4 → Rd i64e w (f j) (L j)) (hl : ShortL L) :
    Calls Tryz.prog 101 #[.agg #[f 0, f 1, f 2, f 3]] w fun e w' => ∃ g, e = .returned (.agg (arr4 g)) ∧ OwnL w' w.heap.size 4 g L ∧ Below w.heap.size w w' := by
  have hvs : Hid (∀ j, j < 4 → Rd i64e w (f j) (L j)) := Lib.hid hv
  have hls : Hid (ShortL L) := Lib.hid hl
  clear hv hl
  go_enter Tryz.func101, Tryz.ntmps101
  go_wp2_with fail
  go_loopw [4] (fun i wr => ∃ k : Nat, k ≤ 4 ∧ i = .int .i64 k ∧ ∃ g : Nat → Value, Hid (Blk wr w.heap.size 89 (arr4 g)) ∧ Hid (Blk wr (w.heap.size + 1) 89 nil4) ∧ Hid (∀ j, j < 4 → k ≤ j → g j = f j) ∧ Hid (OwnL wr (w.heap.size + 2) k g L) ∧ Below w.heap.size w wr)
    (fun i _ => 4 - (intOf i).toNat)
  case atStart =>
    refine ⟨0, by omega, rfl, f, Lib.hid ?_, Lib.hid ?_, Lib.hid fun _ _ _ => rfl, Lib.hid ⟨fun j hj => by omega, fun i j hi => by omega⟩, ?_⟩
    · exact (Blk.new w _ _).alloc _
    · unfold nil4
      simpa using Blk.new (w.alloc (.cells #[f 0, f 1, f 2, f 3] 89)) 89 #[.slice none 0 0, .slice none 0 0, .slice none 0 0, .slice none 0 0]
    · exact (below_alloc w _).alloc (by simp) _
  case round =>
    obtain ⟨k, hk, rfl, g, hB, hR, hg, ho, hb⟩ := hrel
    by_cases hlt : k < 4
    · have hcell : wr.cell? ⟨w.heap.size, k, none⟩ = some (g k) := (hB.out.cell k).trans (arr4_get g hlt)
      have hgk : g k = f k := hg.out k hlt (Nat.le_refl _)
      rw [hgk] at hcell
      clear hgk
      go_wp2_with fail
      refine (clone_ok _ (L k) _ ?_ (hls.out k hlt)).mono ?_
      · refine (hvs.out k hlt).below ⟨hb.os, hb.tape, hb.output, hb.size, hb.block⟩
      rintro e w1 ⟨v', rfl, hown, hb1⟩
      obtain ⟨A', c', rfl, _⟩ := (Rd.of_own (enc := i64e) (xs := L k) hown).len
      have hB1 := hB.out.below hb1 hB.out.lt
      have hR1 := hR.out.below hb1 hR.out.lt
      have hc1 := (hB1.cell k).trans (arr4_get g hlt)
      have hf1 := hB1.frozen k
      have ho1 := (ho.out.snoc hb1 (by have := hR.out.lt; omega) hown).set_below (p := ⟨w.heap.size, k, none⟩) (by simp) (.slice A' (L k).length c')
      have hB2 := hB1.set_ k (.slice A' (L k).length c')
      rw [arr4_set g hlt] at hB2
      have hR2 := hR1.far (p := ⟨w.heap.size, k, none⟩) (by simp) (.slice A' (L k).length c')
      have hb2 := (hb.trans (hb1.mono hb.size)).setCell (p := ⟨w.heap.size, k, none⟩) (Nat.le_refl _) (.slice A' (L k).length c')
      have HB2 := Lib.hid hB2
      have HR2 := Lib.hid hR2
      have HO1 := Lib.hid ho1
      have HB := Lib.hid hb2
      have HG := Lib.hid hg.out
      clear hB2 hR2 ho1 hb2 hg hB hR ho hown hB1 hR1 hcell hb hb1
      go_wp2_with fail
      go_roundw
      case rel =>
        refine ⟨k + 1, by omega, by go_num, _, HB2, HR2, Lib.hid fun j hj hkj => ?_, HO1, HB.out⟩
        simp only [if_neg (show ¬ j = k by omega)]
        exact HG.out j hj (by omega)
      case measure => simp [intOf]; omega
    · obtain rfl : k = 4 := by omega
      have hi4 : (Tryz.prog.info? 89).map (·.size) = some 4 := by kernel_rfl
      have h14 : (arr4 g).all (·.oneCell') = true := by
        have h1 : ∀ j, j < 4 → (g j).oneCell' = true := fun j hj => by
          obtain ⟨_, _, e, _⟩ := (Rd.of_own (enc := i64e) (xs := L j) (ho.out.1 j hj)).len
          rw [e]; rfl
        simp [arr4, h1]
      have HI4 := Lib.hid hi4
      have H14 := Lib.hid h14
      clear hg hi4 h14
      go_wp2_with (first
        | (refine wpList_load_blk rfl 89 (.tmp 1) rfl w.heap.size rfl 89 (arr4 g) hB.out _ Tryz.underlying89 rfl HI4.out ?_)
        | (refine wpList_store_blk rfl 89 (.tmp 2) (.tmp 14) rfl (w.heap.size + 1) rfl (arr4 g) rfl 89 nil4 hR.out HI4.out rfl H14.out ?_; intro w2 hR2 hg2 hs2))
      refine bodyPost_ret (res_cell rfl rfl hR2 Tryz.underlying89 rfl HI4.out) rfl ⟨g, rfl, ⟨fun j hj => own_base (own_grown (ho.out.1 j hj) hg2 (by omega)) (by omega), ho.out.2⟩, hb.grown hg2 hb.size (fun k hk => by cases hk; omega)⟩

end Go.Proofs.YtcaboknbdamlhaaGreatDoor
