/- The walks of OnesCount64 and of Count. -/
import Derived.Test.YtibmjednieopfaaDoorBitAt
import Derived.Test.YtibmjednieopfaaDoorBitOps
import Derived.Test.YtibmjednieopfaaDoorPop
set_option linter.unusedVariables false
set_option linter.unusedSimpArgs false
namespace Go.Proofs.YtibmjednieopfaaDoor
open Go.RowKit
theorem wrap_u64_in {n : Nat} (h : n < 18446744073709551616) : IntKind.u64.wrap (n : Int) = (n : Int) := by
  rw [IntKind.wrap_u64]; omega
theorem mk_vals : mk 85 8 = 6148914691236517205 ∧ mk 51 8 = 3689348814741910323 ∧ mk 15 8 = 1085102592571150095 := by decide
theorem bytes_lt (f : Nat → Nat) (hf : ∀ a, a < 256 → f a < 256) : ∀ n x, bytes f n x < 256 ^ n
  | 0, x => by simp [bytes]
  | n + 1, x => by
    have := bytes_lt f hf n (x / 256)
    have h1 := hf (x % 256) (by omega)
    show f (x % 256) + 256 * bytes f n (x / 256) < 256 ^ n * 256
    omega
theorem g1_bytes : ∀ (n x : Nat), g1 n x = bytes h1 n x
  | 0, x => by simp [g1, mk, bytes]
  | n + 1, x => by
    have hx : x = x % 256 + 256 * (x / 256) := by omega
    show _ = h1 (x % 256) + 256 * bytes _ n (x / 256)
    rw [← g1_bytes n (x / 256)]
    conv => lhs; rw [hx]
    rw [g1_step _ _ _ (by omega)]
theorem and_i64_127 (n : Nat) (h : n < 9223372036854775808) : bits BinOp.and IntKind.i64 (n : Int) 127 = ((n % 128 : Nat) : Int) := by
  have := bits_mask .i64 63 (by decide) (fun m h0 h1 => by rw [IntKind.wrap_i64]; omega) 7 (by decide) (n : Int) (by omega) (by omega)
  simpa using this
theorem bytes_third (f : Nat → Nat) (hf : ∀ a, a < 256 → f a ≤ 68) : ∀ n x, 3 * bytes f n x < 256 ^ n
  | 0, x => by simp [bytes]
  | n + 1, x => by
    have := bytes_third f hf n (x / 256)
    have h1 := hf (x % 256) (by omega)
    show 3 * (f (x % 256) + 256 * bytes f n (x / 256)) < 256 ^ n * 256
    omega
theorem and_c (n m : Nat) (hn : n < 18446744073709551616) (hm : m < 18446744073709551616) (z : Int) (hz : z = (m : Int)) : bits BinOp.and IntKind.u64 (n : Int) z = ((n &&& m : Nat) : Int) := by
  rw [hz, bits_and_u64_nat n m hn hm]
theorem div_c (n d : Nat) (z : Int) (hz : z = (d : Int)) : (n : Int) / z = ((n / d : Nat) : Int) := by
  rw [hz, Int.natCast_ediv]
theorem add_c (a b : Nat) (h : a + b < 18446744073709551616) : IntKind.u64.wrap ((a : Int) + (b : Int)) = ((a + b : Nat) : Int) := by
  rw [← Int.natCast_add, wrap_u64_in h]
theorem ones_facts (n : Nat) (hn : n < 18446744073709551616) : ∃ y1 y2 y3 y4 y5 y6 : Nat,
    IntKind.u64.wrap (bits BinOp.and IntKind.u64 ((n : Int) / 2) 6148914691236517205 + bits BinOp.and IntKind.u64 (n : Int) 6148914691236517205) = (y1 : Int) ∧
    IntKind.u64.wrap (bits BinOp.and IntKind.u64 ((y1 : Int) / 4) 3689348814741910323 + bits BinOp.and IntKind.u64 (y1 : Int) 3689348814741910323) = (y2 : Int) ∧
    bits BinOp.and IntKind.u64 (IntKind.u64.wrap ((y2 : Int) / 16 + (y2 : Int))) 1085102592571150095 = (y3 : Int) ∧
    IntKind.u64.wrap ((y3 : Int) + (y3 : Int) / 256) = (y4 : Int) ∧ IntKind.u64.wrap ((y4 : Int) + (y4 : Int) / 65536) = (y5 : Int) ∧ IntKind.u64.wrap ((y5 : Int) + (y5 : Int) / 4294967296) = (y6 : Int) ∧
    IntKind.i64.wrap (y6 : Int) = (y6 : Int) ∧ bits BinOp.and IntKind.i64 (y6 : Int) 127 = ((pop n : Nat) : Int) ∧ y6 < 9223372036854775808 := by
  obtain ⟨m0, m1, m2⟩ := mk_vals
  have a1 := g1_bytes 8 n
  have a2 := g12 8 n
  have a3 := g123 8 n
  rw [← a2] at a3
  have l1 : g1 8 n < 18446744073709551616 := by
    rw [a1]; exact bytes_lt h1 (fun a ha => (d4 ⟨a, ha⟩).2.1) 8 n
  have l2 : 3 * g2 8 (g1 8 n) < 18446744073709551616 := by
    rw [a2]; exact bytes_third _ (fun a ha => by have h4 := (d4 ⟨a, ha⟩).2.2.2.1; have h5 := (d4 ⟨a, ha⟩).2.2.2.2.1; simp only at h4 h5; omega) 8 n
  obtain ⟨f1, f2⟩ := fold_bytes n (bytes cnt8 8 n) rfl
  rw [← a3] at f1 f2
  have e1 : g1 8 n = (n / 2 &&& 6148914691236517205) + (n &&& 6148914691236517205) := by unfold g1; rw [m0]
  have e2 : g2 8 (g1 8 n) = (g1 8 n / 4 &&& 3689348814741910323) + (g1 8 n &&& 3689348814741910323) := by unfold g2; rw [m1]
  have e3 : g3 8 (g2 8 (g1 8 n)) = (g2 8 (g1 8 n) / 16 + g2 8 (g1 8 n)) &&& 1085102592571150095 := by unfold g3; rw [m2]
  generalize g3 8 (g2 8 (g1 8 n)) = y3 at *
  generalize g2 8 (g1 8 n) = y2 at *
  generalize g1 8 n = y1 at *
  obtain ⟨f3, f4⟩ := f2 _ _ _ rfl rfl rfl
  have k1 : y3 + y3 / 256 < 18446744073709551616 := by omega
  have k2 : y3 + y3 / 256 + (y3 + y3 / 256) / 65536 < 18446744073709551616 := by omega
  have k3 : y3 + y3 / 256 + (y3 + y3 / 256) / 65536 + (y3 + y3 / 256 + (y3 + y3 / 256) / 65536) / 4294967296 < 9223372036854775808 := by omega
  refine ⟨y1, y2, y3, y3 + y3 / 256, y3 + y3 / 256 + (y3 + y3 / 256) / 65536, y3 + y3 / 256 + (y3 + y3 / 256) / 65536 + (y3 + y3 / 256 + (y3 + y3 / 256) / 65536) / 4294967296, ?_, ?_, ?_, ?_, ?_, ?_, ?_, ?_, k3⟩
  · rw [div_c n 2 2 rfl, and_c _ 6148914691236517205 (by omega) (by omega) 6148914691236517205 rfl, and_c _ 6148914691236517205 (by omega) (by omega) 6148914691236517205 rfl, add_c _ _ (by omega), e1]
  · rw [div_c y1 4 4 rfl, and_c _ 3689348814741910323 (by omega) (by omega) 3689348814741910323 rfl, and_c _ 3689348814741910323 (by omega) (by omega) 3689348814741910323 rfl, add_c _ _ (by omega), e2]
  · rw [div_c y2 16 16 rfl, add_c _ _ (by omega), and_c _ 1085102592571150095 (by omega) (by omega) 1085102592571150095 rfl, e3]
  · rw [div_c y3 256 256 rfl, add_c _ _ k1]
  · rw [div_c _ 65536 65536 rfl, add_c _ _ k2]
  · rw [div_c _ 4294967296 4294967296 rfl, add_c _ _ f3]
  · rw [IntKind.wrap_i64]; omega
  · rw [and_i64_127 _ k3, f4]
theorem ones_walk (n : Nat) (w : World) (hn : n < 18446744073709551616) :
    Calls Tryd.prog 30 #[.int .u64 n] w fun e w' => e = .returned (.int .i64 (pop n : Nat)) ∧ w = w' := by
  obtain ⟨y1, y2, y3, y4, y5, y6, e1, e2, e3, e4, e5, e6, e7, e8, l⟩ := ones_facts n hn
  go_enter Tryd.func30, Tryd.ntmps30
  go_wp2_with fail
  go_ret
  exact ⟨rfl, rfl⟩
theorem ones_ok (x : Int) (w : World) (hx : W64 x) :
    Calls Tryd.prog 30 #[.int .u64 x] w fun e w' => e = .returned (.int .i64 (pop x.toNat : Nat)) ∧ w = w' := by
  obtain ⟨n, rfl⟩ : ∃ n : Nat, x = (n : Int) := ⟨x.toNat, by have := hx.1; omega⟩
  rw [Int.toNat_natCast]
  exact ones_walk n w (by have := hx.2; omega)
theorem pop_le (n : Nat) : pop n ≤ 64 := countTo_le _ _
theorem take_snoc' (xs : List Int) {k : Nat} (h : k < xs.length) : popAll (xs.take (k + 1)) = popAll (xs.take k) + pop (xs[k]).toNat := by
  rw [List.take_succ_eq_append_getElem h, popAll_snoc]
theorem count_ok (v : Value) (xs : List Int) (w : World) (hv : Rd u64e w v xs) (hl : xs.length ≤ 1099511627776) (hu : U64 xs) :
    Calls Tryd.prog 16 #[v] w fun e w' => e = .returned (.int .i64 (popAll xs : Nat)) ∧ w = w' := by
  obtain ⟨A, c, rfl, _⟩ := hv.len
  have HV := Lib.hid hv
  have HU := Lib.hid hu
  clear hv hu
  go_enter Tryd.func16, Tryd.ntmps16
  go_wp2_with fail
  go_loop [3, 5, 8] (fun n x i => ∃ k : Nat, k ≤ xs.length ∧ i = .int .i64 k ∧ n = .int .i64 (popAll (xs.take k) : Nat)) (fun _ _ i => xs.length - (intOf i).toNat)
  case atStart => exact ⟨0, by omega, rfl, rfl⟩
  case round =>
    obtain ⟨k, hk, rfl, rfl⟩ := hrel
    by_cases hlt : k < xs.length
    · obtain ⟨b, o, rfl, _, hc⟩ := HV.out.at_ hlt
      have hb := popAll_le (xs.take k)
      rw [List.length_take] at hb
      have hb : popAll (xs.take k) ≤ 64 * k := by omega
      have hs := Lib.hid (take_snoc' xs hlt)
      have hp := pop_le (xs[k]).toNat
      have hx := HU.out _ (List.getElem_mem hlt)
      go_wp2_with (go_at_call 30; refine (ones_ok _ _ hx).mono ?_; rintro e w' ⟨rfl, rfl⟩)
      go_round
      case rel => exact ⟨k + 1, by omega, by go_num, by rw [hs.out]; go_num⟩
      case measure => simp [intOf]; omega
    · have hlt' : decide ((k : Int) < ((xs.length : Nat) : Int)) = false := by rw [decide_eq_false_iff_not]; omega
      have he : xs.take k = xs := List.take_of_length_le (by omega)
      rw [he]
      clear he
      go_wp2_with fail
      go_ret
      exact ⟨rfl, rfl⟩
end Go.Proofs.YtibmjednieopfaaDoor
