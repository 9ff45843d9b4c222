/- The walks of a set's word, its short form, and of Has. -/
import Derived.Test.YtcaboknbdamlhaaGreatDoorBitPure
import Derived.Test.YtcaboknbdamlhaaGreatDoorBase
import Derived.Test.YtcaboknbdamlhaaGreatDoorInfo
import Derived.BigQuiet
import Derived.Deep.QuietTactic
import Derived.Laws.Bits64b
set_option linter.unusedVariables false
set_option linter.unusedSimpArgs false
namespace Go.Proofs.YtcaboknbdamlhaaGreatDoor
open Go.RowKit

abbrev u64e (n : Int) : Value := .int .u64 n
theorem getD_lt {xs : List Int} {k : Nat} (h : k < xs.length) : xs.getD k 0 = xs[k] := by simp [List.getD, h]
theorem getD_ge {xs : List Int} {k : Nat} (h : xs.length ≤ k) : xs.getD k 0 = 0 := by simp [List.getD, h]

theorem at_ok (v : Value) (xs : List Int) (k : Nat) (w : World) (hv : Rd u64e w v xs) (hl : xs.length ≤ 1099511627776) (hk : k ≤ 9223372036854775807) :
    Calls Tryz.prog 82 #[v, .int .i64 (k : Int)] w fun e w' => e = .returned (.int .u64 (xs.getD k 0)) ∧ w = w' := by
  obtain ⟨A, c, rfl, _⟩ := hv.len
  by_cases hlt : k < xs.length
  · obtain ⟨b, o, rfl, _, hc⟩ := hv.at_ hlt
    rw [getD_lt hlt]
    go_enter Tryz.func82, Tryz.ntmps82
    go_wp2
    go_ret
    exact ⟨rfl, rfl⟩
  · rw [getD_ge (by omega)]
    go_enter Tryz.func82, Tryz.ntmps82
    go_wp2
    go_ret
    exact ⟨rfl, rfl⟩

def slen : Value → Nat
  | .slice _ n _ => n
  | _ => 0
theorem ret_slice {A : Option Addr} {n m c : Nat} (h : n = m) : Ending.returned (.slice A n c) = .returned (.slice A m c) := by rw [h]
theorem short_ok (A : Option Addr) (c : Nat) (xs : List Int) (w : World) (hv : Rd u64e w (.slice A xs.length c) xs) (hl : xs.length ≤ 1099511627776) :
    Calls Tryz.prog 103 #[.slice A xs.length c] w fun e w' => e = .returned (.slice A (shortN xs) c) ∧ w = w' := by
  have hlc : xs.length ≤ c := by obtain ⟨_, _, e, h1, _⟩ := hv.len; injection e with _ _ e3; omega
  go_enter Tryz.func103, Tryz.ntmps103
  go_wp2_with fail
  go_loop [0] (fun s => ∃ n : Nat, n ≤ xs.length ∧ s = .slice A n c ∧ Hid (∀ j, n ≤ j → xs.getD j 0 = 0)) (fun s => slen s)
  case atStart => exact ⟨xs.length, by omega, rfl, Lib.hid fun j hj => getD_ge hj⟩
  case round =>
    obtain ⟨n, hn, rfl, hz⟩ := hrel
    rcases n with _ | n
    · have hs := Lib.hid (shortN_of (xs := xs) (n := 0) (by omega) hz.out (.inl rfl))
      go_wp2
      go_ret
      exact ⟨ret_slice hs.out.symm, rfl⟩
    · obtain ⟨b, o, rfl, _, hc⟩ := hv.at_ (i := n) (by omega)
      have hpos : (0 : Int) < (n : Int) + 1 := by omega
      by_cases hx : xs[n] = 0
      · have hb : (xs[n] == 0) = true := by rw [beq_iff_eq]; exact hx
        have hz' : Hid (∀ j, n ≤ j → xs.getD j 0 = 0) := Lib.hid fun j hj => by
          rcases Nat.lt_or_ge n j with h1 | h1
          · exact hz.out j h1
          · obtain rfl : j = n := by omega
            rw [getD_lt (by omega)]; exact hx
        clear hx hz
        go_wp2_with fail
        go_round
        case rel => exact ⟨n, by omega, rfl, hz'⟩
        case measure => simp [slen]
      · have hs := Lib.hid (shortN_of (xs := xs) (n := n + 1) (by omega) hz.out (.inr (by rw [Nat.add_sub_cancel, getD_lt (by omega)]; exact hx)))
        have hb : (xs[n] == 0) = false := by rw [beq_eq_false_iff_ne]; exact hx
        clear hx hz
        go_wp2_with fail
        go_ret
        exact ⟨ret_slice hs.out.symm, rfl⟩

theorem short_at (A : Option Addr) (n c : Nat) (xs : List Int) (w : World) (hn : xs.length = n) (hv : Rd u64e w (.slice A n c) xs) (hl : xs.length ≤ 1099511627776) :
    Calls Tryz.prog 103 #[.slice A n c] w fun e w' => e = .returned (.slice A (shortN xs) c) ∧ w = w' := by
  subst hn
  exact short_ok A c xs w hv hl
theorem and_one (n : Nat) (hn : n < 18446744073709551616) : bits BinOp.and IntKind.u64 (n : Int) 1 = ((n % 2 : Nat) : Int) := by
  rw [show (1 : Int) = ((1 : Nat) : Int) from rfl, bits_and_u64_nat n 1 hn (by omega), Nat.and_one_is_mod]
theorem div_cast (n k : Nat) : (n : Int) / 2 ^ k = ((n / 2 ^ k : Nat) : Int) := by
  rw [Int.natCast_ediv]
  simp
theorem div_lt {n : Nat} (hn : n < 18446744073709551616) (k : Nat) : n / 2 ^ k < 18446744073709551616 := Nat.lt_of_le_of_lt (Nat.div_le_self _ _) hn
theorem test_word {x : Int} (h0 : 0 ≤ x) (h1 : x < 18446744073709551616) (k : Nat) : (bits BinOp.and IntKind.u64 (x / 2 ^ k) 1 == 1) = x.toNat.testBit k := by
  obtain ⟨n, rfl⟩ : ∃ n : Nat, x = (n : Int) := ⟨x.toNat, by omega⟩
  rw [div_cast, and_one _ (div_lt (by omega) k), Int.toNat_natCast, Nat.testBit_eq_decide_div_mod_eq]
  by_cases h : n / 2 ^ k % 2 = 1
  · rw [h]; rfl
  · have : n / 2 ^ k % 2 = 0 := by omega
    rw [this]; rfl
theorem test_words {xs : List Int} (hu : U64 xs) (k : Nat) : (bits BinOp.and IntKind.u64 ((xs[k / 64]?.getD 0) / 2 ^ (k % 64)) 1 == 1) = hasB xs (k : Int) := by
  have hq := hu.getD (k / 64)
  simp only [List.getD] at hq
  rw [test_word hq.1 hq.2]
  unfold hasB bitAt
  simp [List.getD]

theorem bhas_ok (v : Value) (xs : List Int) (i : Int) (w : World) (hv : Rd u64e w v xs) (hl : xs.length ≤ 1099511627776) (hu : U64 xs) (hi : i ≤ 9223372036854775807) (hi0 : -9223372036854775808 ≤ i) :
    Calls Tryz.prog 48 #[v, .int .i64 i] w fun e w' => e = .returned (.bool (hasB xs i)) ∧ w = w' := by
  by_cases h0 : 0 ≤ i
  · obtain ⟨k, rfl⟩ : ∃ k : Nat, i = (k : Int) := ⟨i.toNat, by omega⟩
    have ht := Lib.hid (test_words hu k)
    go_enter Tryz.func48, Tryz.ntmps48
    go_wp2_with (go_at_call 82; refine (at_ok _ xs (k / 64) _ hv hl (by omega)).mono ?_; rintro e w' ⟨rfl, rfl⟩)
    go_ret
    exact ⟨ret_bool ht.out, rfl⟩
  · have h1 : decide (0 ≤ i) = false := by rw [decide_eq_false_iff_not]; exact h0
    go_enter Tryz.func48, Tryz.ntmps48
    go_wp2
    go_ret
    exact ⟨ret_bool (by unfold hasB; rw [h1]; rfl), rfl⟩
end Go.Proofs.YtcaboknbdamlhaaGreatDoor
