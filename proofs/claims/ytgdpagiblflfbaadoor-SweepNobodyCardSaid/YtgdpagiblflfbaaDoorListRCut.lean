/- Cut of the reference. -/
import Derived.Test.YtgdpagiblflfbaaDoorListRPut
set_option linter.unusedVariables false
set_option linter.unusedSimpArgs false
namespace Go.Proofs.YtgdpagiblflfbaaDoor
open Go.RowKit

def keepS (s : Int) (xs : List Int) : List Int := xs.filter fun x => !(spanOf x == s)
def goneS (s : Int) (xs : List Int) : Int := (xs.filter fun x => spanOf x == s).length
def goneTo (L : Nat → List Int) (s : Int) : Nat → Int
  | 0 => 0
  | k + 1 => goneTo L s k + goneS s (L k)
def cutL (L : Nat → List Int) (s : Int) : Nat → List Int := fun j => keepS s (L j)
def BdL (L : Nat → List Int) : Prop := ∀ j, j < 4 → ∀ x ∈ L j, x ≤ 9223372036854775807
theorem keep_le (s : Int) (xs : List Int) : (keepS s xs).length ≤ xs.length := List.length_filter_le _ _
theorem gone_bd (s : Int) (xs : List Int) : 0 ≤ goneS s xs ∧ goneS s xs ≤ xs.length := by
  unfold goneS
  have := List.length_filter_le (fun x => spanOf x == s) xs
  omega
theorem keep_gone (s : Int) (xs : List Int) : ((keepS s xs).length : Int) = xs.length - goneS s xs := by
  induction xs with
  | nil => rfl
  | cons x xs ih =>
    unfold keepS goneS at *
    by_cases h : spanOf x = s
    · have h1 : (spanOf x == s) = true := by rw [beq_iff_eq]; exact h
      rw [List.filter_cons_of_neg (by simp [h1]), List.filter_cons_of_pos (by simp [h1])]
      simp only [List.length_cons]
      omega
    · have h1 : (spanOf x == s) = false := by rw [beq_eq_false_iff_ne]; exact h
      rw [List.filter_cons_of_pos (by simp [h1]), List.filter_cons_of_neg (by simp [h1])]
      simp only [List.length_cons]
      omega
theorem goneTo_bd (L : Nat → List Int) (s : Int) (hl : ShortL L) : ∀ k, k ≤ 4 → 0 ≤ goneTo L s k ∧ goneTo L s k ≤ k * 1099511627776
  | 0, _ => by simp [goneTo]
  | k + 1, h => by
    have h1 := goneTo_bd L s hl k (by omega)
    have h2 := gone_bd s (L k)
    have h3 := hl k (by omega)
    unfold goneTo
    omega
theorem keep_snoc (s : Int) (xs : List Int) (x : Int) : keepS s (xs ++ [x]) = if spanOf x = s then keepS s xs else keepS s xs ++ [x] := by
  unfold keepS
  rw [List.filter_append]
  by_cases h : spanOf x = s
  · simp [h]
  · simp [h]
theorem gone_snoc (s : Int) (xs : List Int) (x : Int) : goneS s (xs ++ [x]) = if spanOf x = s then goneS s xs + 1 else goneS s xs := by
  unfold goneS
  rw [List.filter_append]
  by_cases h : spanOf x = s
  · simp [h]
  · simp [h]
theorem take_snoc {α : Type} (xs : List α) {m : Nat} (h : m < xs.length) : xs.take (m + 1) = xs.take m ++ [xs[m]] := by
  rw [List.take_succ_eq_append_getElem h]

end Go.Proofs.YtgdpagiblflfbaaDoor
