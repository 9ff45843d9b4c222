/- The walks of the reference: Has, list, of. -/
import Derived.Test.YtibmjednieopfaaDoorBitAlive
set_option linter.unusedVariables false
set_option linter.unusedSimpArgs false
namespace Go.Proofs.YtibmjednieopfaaDoor
open Go.RowKit

theorem hasB_nat (xs : List Int) (k : Nat) : hasB xs (k : Int) = bitAt xs k := by unfold hasB; simp
theorem hasB_neg {xs : List Int} {i : Int} (h : i < 0) : hasB xs i = false := by
  unfold hasB
  rw [decide_eq_false (by omega)]; rfl
theorem hasB_out {xs : List Int} {k : Nat} (h : xs.length ≤ k / 64) : bitAt xs k = false := bitAt_top (by omega)
theorem rhas_nat (v : Value) (xs : List Int) (k : Nat) (w : World) (hv : Rd u64e w v xs) (hl : xs.length ≤ 1099511627776) (hu : U64 xs) (hk : k ≤ 9223372036854775807) :
    Calls Tryd.prog 12 #[v, .int .i64 (k : Int)] w fun e w' => e = .returned (.bool (bitAt xs k)) ∧ w = w' := by
  obtain ⟨A, c, rfl, _⟩ := hv.len
  have t0 : decide ((k : Int) < 0) = false := by rw [decide_eq_false_iff_not]; omega
  have hq0 : (0 : Int) ≤ (k : Int) / 64 := by omega
  by_cases hlt : k / 64 < xs.length
  · have hq1 : (k : Int) / 64 < ((xs.length : Nat) : Int) := by omega
    have t1 : decide (((xs.length : Nat) : Int) ≤ (k : Int) / 64) = false := by rw [decide_eq_false_iff_not]; omega
    obtain ⟨b, o, rfl, _, hc⟩ := hv.at_ hlt
    have hx := hu _ (List.getElem_mem hlt)
    have hbit : bitAt xs k = (xs[k / 64]).toNat.testBit (k % 64) := by unfold bitAt; rw [getD_lt hlt]
    obtain ⟨n, hn⟩ : ∃ n : Nat, xs[k / 64] = (n : Int) := ⟨(xs[k / 64]).toNat, by omega⟩
    rw [hn] at hc hx hbit
    rw [Int.toNat_natCast] at hbit
    have hn64 : n < 18446744073709551616 := by omega
    replace hbit := Lib.hid hbit
    clear hn hx hv hu
    go_enter Tryd.func12, Tryd.ntmps12
    go_wp2_with fail
    go_loop [5, 6] (fun x i => ∃ m y : Nat, m ≤ k % 64 ∧ Hid (y = n / 2 ^ m) ∧ y < 18446744073709551616 ∧ i = .int .i64 m ∧ x = .int .u64 y) (fun _ i => k % 64 - (intOf i).toNat)
    case atStart => exact ⟨0, n, by omega, Lib.hid (by simp), hn64, rfl, rfl⟩
    case round =>
      obtain ⟨m, y, hm, hy, hy64, rfl, rfl⟩ := hrel
      by_cases hml : m < k % 64
      · have t2 : decide ((m : Int) < (k : Int) % 64) = true := by rw [decide_eq_true_iff]; omega
        go_wp2_with fail
        go_round
        case rel => exact ⟨m + 1, y / 2, by omega, Lib.hid (by rw [hy.out, Nat.pow_succ, Nat.div_div_eq_div_mul]), by omega, by go_num, by go_num⟩
        case measure => simp [intOf]; omega
      · obtain rfl : m = k % 64 := by omega
        have t2 : decide (((k % 64 : Nat) : Int) < (k : Int) % 64) = false := by rw [decide_eq_false_iff_not]; omega
        have hb := hbit.out
        rw [Nat.testBit_eq_decide_div_mod_eq, ← hy.out] at hb
        replace hb := Lib.hid hb
        go_wp2_with fail
        go_ret
        refine ⟨ret_bool ?_, rfl⟩
        rw [hb.out]
        by_cases h1 : y % 2 = 1
        · rw [decide_eq_true h1, beq_iff_eq]; omega
        · rw [decide_eq_false h1, beq_eq_false_iff_ne]; omega
  · have t1 : decide (((xs.length : Nat) : Int) ≤ (k : Int) / 64) = true := by rw [decide_eq_true_iff]; omega
    have hb := Lib.hid (hasB_out (xs := xs) (k := k) (by omega))
    go_enter Tryd.func12, Tryd.ntmps12
    go_wp2_with fail
    go_ret
    exact ⟨ret_bool hb.out.symm, rfl⟩
theorem rhas_ok (v : Value) (xs : List Int) (i : Int) (w : World) (hv : Rd u64e w v xs) (hl : xs.length ≤ 1099511627776) (hu : U64 xs) (hi : i ≤ 9223372036854775807) (hi0 : -9223372036854775808 ≤ i) :
    Calls Tryd.prog 12 #[v, .int .i64 i] w fun e w' => e = .returned (.bool (hasB xs i)) ∧ w = w' := by
  by_cases h : i < 0
  · have t0 : decide (i < 0) = true := by rw [decide_eq_true_iff]; exact h
    have hb := Lib.hid (hasB_neg (xs := xs) h)
    go_enter Tryd.func12, Tryd.ntmps12
    go_wp2_with fail
    go_ret
    exact ⟨ret_bool hb.out.symm, rfl⟩
  · obtain ⟨k, rfl⟩ : ∃ k : Nat, i = (k : Int) := ⟨i.toNat, by omega⟩
    rw [hasB_nat]
    exact rhas_nat v xs k w hv hl hu (by omega)

abbrev boole (b : Bool) : Value := .bool b
theorem bool_info : (Tryd.prog.info? 4).map (fun i => (i.zero, i.size, i.bytes)) = some (some (.bool false), 1, 1) := by kernel_rfl
/-- The truths of the first n numbers. -/
def truths (p : Nat → Bool) (n : Nat) : List Bool := (List.range n).map p
theorem truths_len (p : Nat → Bool) (n : Nat) : (truths p n).length = n := by simp [truths]
theorem truths_snoc (p : Nat → Bool) (n : Nat) : truths p (n + 1) = truths p n ++ [p n] := by simp [truths, List.range_succ]
theorem truths_getD (p : Nat → Bool) (n j : Nat) : (truths p n).getD j false = if j < n then p j else false := by
  unfold truths
  simp only [List.getD]
  split
  · rename_i h; simp [h]
  · rename_i h; simp [List.getElem?_eq_none, h]
theorem rlist_ok (v : Value) (xs : List Int) (n : Nat) (w : World) (hv : Rd u64e w v xs) (hl : xs.length ≤ 1099511627776) (hu : U64 xs) (hn : n ≤ 70368744177664) :
    Calls Tryd.prog 28 #[v, .int .i64 (n : Int)] w fun e w' => ∃ v', e = .returned v' ∧ w'.ownsRow w.heap.size 4 1 v' n ((truths (bitAt xs) n).map boole) ∧ Below w.heap.size w w' := by
  obtain ⟨A, c, rfl, _⟩ := hv.len
  have RX := Lib.hid hv
  have HU := Lib.hid hu
  clear hv hu
  go_enter Tryd.func28, Tryd.ntmps28
  go_wp2_with fail
  go_loopw [5, 6] (fun o i wr => ∃ (k : Nat) (A' : Option Addr) (c' : Nat), k ≤ n ∧ i = .int .i64 k ∧ o = .slice A' k c' ∧ Hid (wr.ownsRow w.heap.size 4 1 (.slice A' k c') k ((truths (bitAt xs) k).map boole)) ∧ Below w.heap.size w wr) (fun _ i _ => n - (intOf i).toNat)
  case atStart => exact ⟨0, none, 0, by omega, rfl, rfl, Lib.hid (World.ownsRow_nil _ _ _ _), Below.refl _ _⟩
  case round =>
    obtain ⟨k, A', c', hk, rfl, rfl, hown, hb⟩ := hrel
    by_cases hlt : k < n
    · have hz : w.heap.size ≤ wr.heap.size := hb.size
      have RX' := Lib.hid (RX.out.below hb)
      have hs := truths_snoc (bitAt xs) k
      obtain ⟨y, hy⟩ : ∃ y, y = bitAt xs k := ⟨_, rfl⟩
      rw [← hy] at hs
      replace hy := Lib.hid hy
      replace hs := Lib.hid hs
      go_wp2_with fail
      refine (rhas_nat _ xs k _ RX'.out hl HU.out (by omega)).mono ?_
      rintro e w' ⟨rfl, rfl⟩
      rw [← hy.out]
      go_wp2_with (at_builtin; refine wpList_push rfl (.tmp 12) (.tmp 16) _ rfl w.heap.size 4 _ 1 Tryd.underlying51 bool_info rfl _ _ _ rfl hown.out _ rfl rfl (by unfold maxLen; omega) (by omega) hz ?_; intro v' w2 hown' hg hat)
      obtain ⟨A3, c3, rfl, -⟩ := own_form hown'
      have hn' := Lib.hid hown'
      have hb' := hb.grown hg hz (fun g e => (hown.out.lt g e).1)
      clear hown' hg hat
      go_wp2_with fail
      go_roundw
      case rel => exact ⟨k + 1, A3, c3, by omega, by go_num, rfl, Lib.hid (by rw [hs.out, List.map_append]; exact hn'.out), hb'⟩
      case measure => simp [intOf]; omega
    · obtain rfl : k = n := by omega
      have hge : decide ((k : Int) < (k : Int)) = false := by rw [decide_eq_false_iff_not]; omega
      go_wp2_with fail
      go_ret
      exact ⟨_, rfl, hown.out, hb⟩

/-- A word out of truths, from the top bit down: after c bits. -/
def accW (l : List Bool) (w : Nat) : Nat → Nat
  | 0 => 0
  | c + 1 => 2 * accW l w c + if l.getD (64 * w + (63 - c)) false then 1 else 0
theorem accW_lt (l : List Bool) (w : Nat) : ∀ c, accW l w c < 2 ^ c
  | 0 => by simp [accW]
  | c + 1 => by
    have := accW_lt l w c
    unfold accW
    rw [Nat.pow_succ]
    split <;> omega
theorem accW_bit (l : List Bool) (w : Nat) : ∀ c t, c ≤ 64 → t < c → (accW l w c).testBit t = l.getD (64 * w + (64 - c) + t) false
  | 0, t, _, h => by omega
  | c + 1, t, hc, ht => by
    unfold accW
    have e0 : 64 - (c + 1) = 63 - c := by omega
    rw [e0]
    cases t with
    | zero =>
      rw [Nat.testBit_zero]
      cases l.getD (64 * w + (63 - c)) false
      · simp
      · simp
    | succ t =>
      rw [Nat.testBit_succ]
      have e : (2 * accW l w c + if l.getD (64 * w + (63 - c)) false = true then 1 else 0) / 2 = accW l w c := by split <;> omega
      rw [e, accW_bit l w c t (by omega) (by omega)]
      congr 1
      omega
theorem shortN_snoc : ∀ (xs : List Int) (x : Int), shortN (xs ++ [x]) = if x = 0 then shortN xs else xs.length + 1
  | [], x => by
    simp [shortN]
  | y :: xs, x => by
    have ih := shortN_snoc xs x
    show (if shortN (xs ++ [x]) = 0 ∧ y = 0 then 0 else shortN (xs ++ [x]) + 1) = if x = 0 then (if shortN xs = 0 ∧ y = 0 then 0 else shortN xs + 1) else _
    rw [ih]
    by_cases h : x = 0
    · simp only [if_pos h]
    · simp only [if_neg h]
      rw [if_neg (by omega)]
      simp
/-- The words out of truths. -/
def ofW (l : List Bool) (n : Nat) : List Int := (List.range n).map fun w => ((accW l w 64 : Nat) : Int)
theorem ofW_len (l : List Bool) (n : Nat) : (ofW l n).length = n := by simp [ofW]
theorem ofW_snoc (l : List Bool) (n : Nat) : ofW l (n + 1) = ofW l n ++ [((accW l n 64 : Nat) : Int)] := by simp [ofW, List.range_succ]
theorem ofW_u64 (l : List Bool) (n : Nat) : U64 (ofW l n) := by
  intro x hx
  unfold ofW at hx
  obtain ⟨w, _, rfl⟩ := List.mem_map.1 hx
  have := accW_lt l w 64
  omega
theorem ofW_bit (l : List Bool) (n j : Nat) (hn : l.length ≤ 64 * n) : bitAt (ofW l n) j = l.getD j false := by
  by_cases h : j / 64 < n
  · have e : (ofW l n).getD (j / 64) 0 = ((accW l (j / 64) 64 : Nat) : Int) := by
      unfold ofW
      simp [List.getD, h]
    unfold bitAt
    rw [e, Int.toNat_natCast, accW_bit l (j / 64) 64 (j % 64) (by omega) (by omega)]
    congr 1
    omega
  · rw [bitAt_top (by rw [ofW_len]; omega)]
    simp only [List.getD]
    rw [List.getElem?_eq_none (by omega)]
    rfl
end Go.Proofs.YtibmjednieopfaaDoor
