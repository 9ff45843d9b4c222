/- A map of the call's own, as the set of numbers that were seen. -/
import Derived.Test.YtbjchfhglnepiaaListCounts
import Derived.Maps.Own
import Derived.Maps.Views
import Derived.Maps.Keyed
set_option linter.unusedVariables false
set_option linter.unusedSimpArgs false
namespace Go.Proofs.Ytbjchfhglnepiaa
open Go.RowKit Go.Maps

theorem seen_law : Keyed Try.prog 3 := int_keyed Try.underlying3
theorem seen_zero (w : World) : (zeroValue 4).run Try.prog w = .ok (.bool false) w := by kernel_rfl
/-- Block b is a map of at most n entries; what is not in xs reads as false. -/
def SeenL (w : World) (b n : Nat) (xs : List Int) : Prop :=
  ∃ D : DataW Unit, w.ownsMap Try.prog 3 (plainElem Try.prog 4) b n D ∧ ∀ x, x ∉ xs → D.atKey (.int .i64 x) (.lit (.bool false)) = .lit (.bool false)
theorem seen_new (w : World) : SeenL (w.alloc (.map #[] 0)) w.heap.size 0 [] := ⟨.map [], World.ownsMap_made _ _ _ _, fun _ _ => rfl⟩
theorem SeenL.kept {w w' : World} {b n : Nat} {xs : List Int} (h : SeenL w b n xs) (hb : Below w.heap.size w w') : SeenL w' b n xs := by
  obtain ⟨D, h1, h2⟩ := h
  exact ⟨D, h1.kept (row := none) ⟨hb.os, hb.tape, hb.output, hb.size, fun k hk _ => hb.block k hk⟩ (by simp), h2⟩
theorem SeenL.lt {w : World} {b n : Nat} {xs : List Int} (h : SeenL w b n xs) : b < w.heap.size := by
  obtain ⟨D, h1, _⟩ := h
  exact h1.lt
theorem SeenL.look {w : World} {b n : Nat} {xs : List Int} (h : SeenL w b n xs) {x : Int} (hx : x ∉ xs) (hw : (Lit.int .i64 x).wf = true) :
    (Instr.lookup 56 (.map (some b)) (.int .i64 x) false).run Try.prog w = .ok (.bool false) w := by
  obtain ⟨D, h1, h2⟩ := h
  obtain ⟨v, ps, hrun, hv⟩ := h1.lookup seen_law Try.underlying56 (seen_zero w) (plainElem_bool Try.underlying4 false) (keyOf_int_mk Try.underlying3 hw)
  rw [h2 x hx] at hv
  rw [hrun]
  cases v <;> simp [plainElem, Try.underlying4] at hv
  rw [hv.1]
theorem SeenL.put {w' : World} {b n : Nat} {xs : List Int} {x : Int} {D : DataW Unit} (h2 : ∀ x, x ∉ xs → D.atKey (.int .i64 x) (.lit (.bool false)) = .lit (.bool false))
    (h1 : w'.ownsMap Try.prog 3 (plainElem Try.prog 4) b (n + 1) (D.put (.int .i64 x) (.lit (.bool true)))) : SeenL w' b (n + 1) (xs ++ [x]) := by
  refine ⟨_, h1, fun y hy => ?_⟩
  have hne : (Lit.int .i64 y) ≠ .int .i64 x := by
    intro e
    injection e with _ e
    subst e
    exact hy (by simp)
  rw [atKey_put_other hne]
  exact h2 y fun h => hy (by simp [h])
end Go.Proofs.Ytbjchfhglnepiaa
