/- The walks of IndexFunc and DeleteFunc at the closure of Cut. -/
import Derived.Test.YtnoiepmapmcjdaaDoorListRCut
import Derived.Deep.QuietTactic
import Derived.BigQuiet
set_option linter.unusedVariables false
set_option linter.unusedSimpArgs false
namespace Go.Proofs.YtnoiepmapmcjdaaDoor
open Go.RowKit

/-- Where a test is first met, or -1. -/
def ixP (pr : Int → Bool) (xs : List Int) : Int := if xs.any pr then (xs.findIdx pr : Int) else -1
theorem ixP_here {pr : Int → Bool} {xs : List Int} {k : Nat} (hk : k < xs.length) (h : pr xs[k] = true) (hno : ∀ j (hj : j < xs.length), j < k → pr xs[j] = false) : ixP pr xs = (k : Int) := by
  have hm : xs.any pr = true := List.any_eq_true.2 ⟨_, List.getElem_mem hk, h⟩
  unfold ixP
  rw [if_pos hm]
  have : xs.findIdx pr = k := by
    rw [List.findIdx_eq hk]
    exact ⟨h, fun j hj => by simpa using hno j (by omega) hj⟩
  rw [this]
theorem ixP_none {pr : Int → Bool} {xs : List Int} (hno : ∀ j (hj : j < xs.length), pr xs[j] = false) : ixP pr xs = -1 := by
  unfold ixP
  rw [if_neg]
  intro h
  obtain ⟨x, hx, hp⟩ := List.any_eq_true.1 h
  obtain ⟨j, hj, rfl⟩ := List.getElem_of_mem hx
  rw [hno j hj] at hp
  cases hp

theorem own_setCells {B : Nat} {e : TypeId} {g cap n : Nat} : ∀ (us : List Value) (o : Nat) (w : World) (zs : List Value), w.ownsRow B e 1 (.slice (some ⟨g, 0, none⟩) n cap) n zs →
    ∃ zs', (w.setCells g o us).ownsRow B e 1 (.slice (some ⟨g, 0, none⟩) n cap) n zs' ∧ zs'.take o = zs.take o ∧ w.grownBy (w.setCells g o us) (some g)
  | [], o, w, zs, h => ⟨zs, h, rfl, World.grownBy.refl _ _⟩
  | u :: us, o, w, zs, h => by
    obtain ⟨h1, hg1⟩ := h.stored o u
    obtain ⟨zs', h2, ht, hg2⟩ := own_setCells us (o + 1) _ _ h1
    refine ⟨zs', h2, ?_, hg1.trans hg2⟩
    have := congrArg (List.take o) ht
    rw [List.take_take, List.take_take, Nat.min_eq_left (by omega)] at this
    rw [this, List.take_set_of_le (Nat.le_refl _)]

--BEGIN CLOSURE
theorem drewN_add (w : World) (a b : Nat) : (w.drewN a).drewN b = w.drewN (a + b) := World.drewN_drewN w a b

theorem grown_drewN {a w : World} {row : Option Nat} (h : a.grownBy w row) (n : Nat) : a.grownBy (w.drewN n) row := ⟨h.os, h.tape, h.output, h.size, h.block⟩
theorem keep_all {s : Int} {xs : List Int} (h : ∀ x ∈ xs, (spanOf x == s) = false) : keepS s xs = xs := by
  unfold keepS
  rw [List.filter_eq_self]
  intro x hx
  simp [h x hx]

end Go.Proofs.YtnoiepmapmcjdaaDoor
