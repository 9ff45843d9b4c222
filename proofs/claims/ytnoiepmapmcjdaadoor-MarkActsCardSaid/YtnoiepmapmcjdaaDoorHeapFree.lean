/- The walk of Free. -/
import Derived.Test.YtnoiepmapmcjdaaDoorHeapAllocArg
import Derived.Test.YtnoiepmapmcjdaaDoorHeapAll
set_option linter.unusedVariables false
set_option linter.unusedSimpArgs false
namespace Go.Proofs.YtnoiepmapmcjdaaDoor
open Go.RowKit Go.Shelf
theorem bdL_put {L : Nat → List Int} {c p : Int} (h : BdL L) (hp : p ≤ 9223372036854775807) : BdL (putL L c p).1 := fun j hj x hx => by
  unfold putL addL at hx
  split at hx
  · exact h j hj x hx
  · split at hx
    · exact h j hj x hx
    · simp only at hx
      split at hx
      · rcases List.mem_append.1 hx with hx | hx
        · exact h j hj x hx
        · rw [List.mem_singleton.1 hx]; exact hp
      · exact h j hj x hx
/-- Behind a Free of k, with the set ys, and next the first number of ys from its span on. -/
def mFree (M : HM) (k : Nat) (junk : Int) (ys : List Int) (r : Int) : HM :=
  if r < 0 ∨ spanOf r ≠ spanOf k then { M with words := fillW M.words k junk (blockLen M k), zs := ys, free := cutL (putL M.free (M.cls.getD (spanOf k).toNat 0) k).1 (spanOf k), cls := M.cls.set (spanOf k).toNat (-1) }
  else { M with words := fillW M.words k junk (blockLen M k), zs := ys, free := (putL M.free (M.cls.getD (spanOf k).toNat 0) k).1 }
end Go.Proofs.YtnoiepmapmcjdaaDoor
