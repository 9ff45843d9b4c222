/- Which list has a block: Has of the reference. -/
import Derived.Test.YtgdpagiblflfbaaDoorListHas
set_option linter.unusedVariables false
set_option linter.unusedSimpArgs false
namespace Go.Proofs.YtgdpagiblflfbaaDoor
open Go.RowKit

theorem hasIn_here {L : Nat → List Int} {x : Int} {k : Nat} (hk : k < 4) (h : x ∈ L k) (hno : ∀ j, j < k → x ∉ L j) : hasIn L x = (k : Int) := by
  unfold hasIn
  rcases (show k = 0 ∨ k = 1 ∨ k = 2 ∨ k = 3 from by omega) with rfl | rfl | rfl | rfl
  · rw [if_pos h]; rfl
  · rw [if_neg (hno 0 (by omega)), if_pos h]; rfl
  · rw [if_neg (hno 0 (by omega)), if_neg (hno 1 (by omega)), if_pos h]; rfl
  · rw [if_neg (hno 0 (by omega)), if_neg (hno 1 (by omega)), if_neg (hno 2 (by omega)), if_pos h]; rfl
theorem hasIn_none {L : Nat → List Int} {x : Int} (hno : ∀ j, j < 4 → x ∉ L j) : hasIn L x = -1 := by
  unfold hasIn
  rw [if_neg (hno 0 (by omega)), if_neg (hno 1 (by omega)), if_neg (hno 2 (by omega)), if_neg (hno 3 (by omega))]

theorem rd_cell {w : World} {g : Nat} {t : TypeId} {f : Nat → Value} {L : Nat → List Int} {k : Nat} (h : Blk w g t (arr4 f)) (hk : k < 4) (hf : Rd i64e w (f k) (L k)) :
    ∃ A c, w.cell? ⟨g, k, none⟩ = some (.slice A (L k).length c) ∧ Rd i64e w (.slice A (L k).length c) (L k) ∧ f k = .slice A (L k).length c := by
  have hf0 := hf
  obtain ⟨A, c, e, _⟩ := hf.len
  refine ⟨A, c, ?_, e ▸ hf0, e⟩
  rw [h.cell k, arr4_get f hk, e]

end Go.Proofs.YtgdpagiblflfbaaDoor
