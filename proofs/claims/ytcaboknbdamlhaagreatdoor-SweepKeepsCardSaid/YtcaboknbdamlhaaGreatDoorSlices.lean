/- The walks of the library's functions on slices of ints: Index, Contains, Clone. -/
import Derived.Test.YtcaboknbdamlhaaGreatDoorBase
import Derived.Test.YtcaboknbdamlhaaGreatDoorInfo
import Derived.Test.YtcaboknbdamlhaaGreatDoorAppendAll
set_option linter.unusedVariables false
set_option linter.unusedSimpArgs false
namespace Go.Proofs.YtcaboknbdamlhaaGreatDoor
open Go.RowKit

/-- Where a number is first, or -1. -/
def ixOf (xs : List Int) (x : Int) : Int := if x ∈ xs then (xs.idxOf x : Int) else -1
theorem ix_here {xs : List Int} {x : Int} {k : Nat} (hk : k < xs.length) (h : xs[k] = x) (hno : ∀ j (hj : j < xs.length), j < k → xs[j] ≠ x) : ixOf xs x = (k : Int) := by
  have hm : x ∈ xs := h ▸ List.getElem_mem hk
  unfold ixOf
  rw [if_pos hm]
  have h1 : xs.idxOf x ≤ k := by
    rcases Nat.lt_or_ge k (xs.idxOf x) with h2 | h2
    · exact absurd h (by simpa using List.not_of_lt_findIdx (p := (· == x)) h2)
    · exact h2
  have h2 : xs.idxOf x < xs.length := List.idxOf_lt_length_of_mem hm
  rcases Nat.lt_or_ge (xs.idxOf x) k with h3 | h3
  · exact absurd (List.getElem_idxOf h2) (hno _ h2 h3)
  · have : xs.idxOf x = k := by omega
    rw [this]
theorem ix_none {xs : List Int} {x : Int} (hno : ∀ j (hj : j < xs.length), xs[j] ≠ x) : ixOf xs x = -1 := by
  unfold ixOf
  rw [if_neg]
  intro hm
  obtain ⟨j, hj, h⟩ := List.getElem_of_mem hm
  exact hno j hj h
theorem ix_mem (xs : List Int) (x : Int) : decide (0 ≤ ixOf xs x) = decide (x ∈ xs) := by
  unfold ixOf
  split
  · rename_i h; simp [h]
  · rename_i h; simp [h]

theorem index_ok (v : Value) (xs : List Int) (x : Int) (w : World) (hv : Rd i64e w v xs) (hl : xs.length ≤ 1099511627776) :
    Calls Tryz.prog 84 #[v, .int .i64 x] w fun e w' => e = .returned (.int .i64 (ixOf xs x)) ∧ w = w' := by
  obtain ⟨A, c, rfl, _⟩ := hv.len
  go_enter Tryz.func84, Tryz.ntmps84
  go_wp2
  go_loop [8] (fun i => ∃ k : Nat, k ≤ xs.length ∧ i = .int .i64 k ∧ Hid (∀ j (hj : j < xs.length), j < k → xs[j] ≠ x)) (fun i => xs.length - (intOf i).toNat)
  case atStart => exact ⟨0, by omega, rfl, Lib.hid fun j _ h => by omega⟩
  case round =>
    obtain ⟨k, hk, rfl, hno⟩ := hrel
    by_cases hlt : k < xs.length
    · obtain ⟨b, o, rfl, _, hc⟩ := hv.at_ hlt
      by_cases hx : xs[k] = x
      · have hi := ix_here hlt hx hno.out
        have hb : (x == xs[k]) = true := by rw [beq_iff_eq]; exact hx.symm
        have HI := Lib.hid hi
        clear hno hi hx
        go_wp2
        go_ret
        exact ⟨ret_int HI.out.symm, rfl⟩
      · have hb : (x == xs[k]) = false := by rw [beq_eq_false_iff_ne]; exact fun e => hx e.symm
        have hno' : Hid (∀ j (hj : j < xs.length), j < k + 1 → xs[j] ≠ x) := Lib.hid fun j hj h => by
          rcases Nat.lt_or_ge j k with h1 | h1
          · exact hno.out j hj h1
          · have : j = k := by omega
            subst this; exact hx
        clear hno hx
        go_wp2
        go_round
        case rel => exact ⟨k + 1, by omega, by go_num, hno'⟩
        case measure => simp [intOf]; omega
    · have hi := ix_none (xs := xs) (x := x) fun j hj => hno.out j hj (by omega)
      have HI := Lib.hid hi
      clear hno hi
      go_wp2
      go_ret
      exact ⟨ret_int HI.out.symm, rfl⟩

theorem contains_ok (v : Value) (xs : List Int) (x : Int) (w : World) (hv : Rd i64e w v xs) (hl : xs.length ≤ 1099511627776) :
    Calls Tryz.prog 52 #[v, .int .i64 x] w fun e w' => e = .returned (.bool (decide (x ∈ xs))) ∧ w = w' := by
  rw [← ix_mem]
  go_enter Tryz.func52, Tryz.ntmps52
  go_wp2_with (go_at_call 84; refine (index_ok _ xs _ _ hv hl).mono ?_; rintro e w' ⟨rfl, rfl⟩)
  go_ret
  exact ⟨rfl, rfl⟩

/-- A clone: a row of its own. -/
theorem clone_ok (v : Value) (xs : List Int) (w : World) (hv : Rd i64e w v xs) (hl : xs.length ≤ 1099511627776) :
    Calls Tryz.prog 114 #[v] w fun e w' => ∃ v', e = .returned v' ∧ w'.ownsRow w.heap.size 3 1 v' xs.length (xs.map i64e) ∧ Below w.heap.size w w' := by
  have hv0 := hv
  obtain ⟨A, c, rfl, _, _, hAc⟩ := hv.len
  rcases A with _ | ad
  · have hn : xs = [] := by
      rcases xs with _ | ⟨y, ys⟩
      · rfl
      · obtain ⟨b, o, h0, _⟩ := hv.at_ (i := 0) (by simp)
        cases h0
    subst hn
    obtain rfl : c = 0 := hAc rfl
    have hnil := fun w' => Lib.run_eql_slice_nil (P := Tryz.prog) w' 36 3 none 0 0 0 0 Tryz.underlying36
    go_enter Tryz.func114, Tryz.ntmps114
    go_wp2
    go_ret
    exact ⟨_, rfl, World.ownsRow_nil _ _ _ _, Below.refl _ _⟩
  · have hnil := fun w' => Lib.run_eql_slice_nil (P := Tryz.prog) w' 36 3 (some ad) xs.length c 0 0 Tryz.underlying36
    go_enter Tryz.func114, Tryz.ntmps114
    go_wp2_with (at_builtin; refine wpList_append_all rfl (.tmp 5) (.tmp 6) _ rfl w.heap.size 3 _ 8 Tryz.underlying36 int_info rfl _ 0 [] rfl ?c1 i64e _ xs (fun _ => rfl) rfl ?c2 (by unfold maxLen; omega) (by omega) ?c3 ?_)
    case c1 => exact World.ownsRow_made w #[] 0 (Nat.le_refl _) (Nat.zero_le _) rfl
    case c2 => exact hv0.below (below_alloc _ _)
    case c3 => simp
    intro v' w1 hown hg hat
    go_wp2_with fail
    go_ret
    refine ⟨_, rfl, by simpa using hown, ?_⟩
    exact (below_alloc w _).grown hg (by simp) (fun k hk => by cases hk; exact Nat.le_refl _)

end Go.Proofs.YtcaboknbdamlhaaGreatDoor
