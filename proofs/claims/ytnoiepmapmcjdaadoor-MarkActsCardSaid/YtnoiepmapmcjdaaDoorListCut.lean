/- Cut of the program. -/
import Derived.Test.YtnoiepmapmcjdaaDoorDelete
set_option linter.unusedVariables false
set_option linter.unusedSimpArgs false
namespace Go.Proofs.YtnoiepmapmcjdaaDoor
open Go.RowKit

/-- One row of four is another one now. -/
theorem OwnL.put {w w1 : World} {B k : Nat} {g : Nat → Value} {u : Value} {L L' : Nat → List Int} (h : OwnL w B 4 g L) (hk : k < 4) (hg : w.grownBy w1 (g k).ownBlock) (hu : w1.ownsRow B 3 1 u (L' k).length ((L' k).map i64e)) (hub : u.ownBlock = (g k).ownBlock)
    (hL : ∀ j, j < 4 → j ≠ k → L' j = L j) : OwnL w1 B 4 (fun j => if j = k then u else g j) L' := by
  refine ⟨fun j hj => ?_, fun i j hi hj hne => ?_⟩
  · by_cases e : j = k
    · subst e
      simp only [if_true]
      exact hu
    · simp only [if_neg e]
      rw [hL j hj e]
      exact (h.1 j hj).kept hg (h.2 j k hj hk e)
  · have hb : ∀ j, (if j = k then u else g j).ownBlock = (g j).ownBlock := fun j => by
      by_cases e : j = k
      · rw [if_pos e, hub, e]
      · rw [if_neg e]
    simp only [hb]
    exact h.2 i j hi hj hne

end Go.Proofs.YtnoiepmapmcjdaaDoor
