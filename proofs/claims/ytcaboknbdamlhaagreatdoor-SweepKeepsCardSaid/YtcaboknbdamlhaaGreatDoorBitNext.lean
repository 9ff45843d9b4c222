/- The walks of TrailingZeros64 and of Next. -/
import Derived.Test.YtcaboknbdamlhaaGreatDoorBitAt
import Derived.Test.YtcaboknbdamlhaaGreatDoorBitOps
import Derived.Lib.TrailingZeros
set_option linter.unusedVariables false
set_option linter.unusedSimpArgs false
namespace Go.Proofs.YtcaboknbdamlhaaGreatDoor
open Go.RowKit

/-- The library's table, as its initialiser lays it. -/
def TabW (w : World) : Prop := ∀ j, j < 64 → w.cell? ⟨0, j, none⟩ = some (.int .u8 (Lib.deBruijn64tab.getD j 0))
theorem TabW.lt {w : World} (h : TabW w) : 0 < w.heap.size := World.block_lt_of_cell? w _ (h 0 (by omega))
theorem TabW.of_block {w w' : World} (h : TabW w) (hb : w'.heap[0]? = w.heap[0]?) : TabW w' :=
  fun j hj => (World.cell?_of_block (a := ⟨0, j, none⟩) hb).trans (h j hj)
theorem TabW.below {w w' : World} (h : TabW w) (hb : Below w.heap.size w w') : TabW w' := h.of_block (hb.block _ h.lt)

theorem tz_core (x k idx : Nat) (w : World) (hx0 : ((x : Int) == 0) = false)
    (key : IntKind.u64.wrap (bits BinOp.and IntKind.u64 (x : Int) (IntKind.u64.wrap (-(x : Int))) * 285870213051353865) / 288230376151711744 = (idx : Int))
    (hi : idx < 64) (hk : k < 64) (hcell : w.cell? ⟨0, idx, none⟩ = some (.int .u8 k)) :
    Calls Tryz.prog 66 #[.int .u64 x] w fun e w' => e = .returned (.int .i64 k) ∧ w = w' := by
  go_enter Tryz.func66, Tryz.ntmps66
  go_wp2_with (simp only [key])
  go_ret
  exact ⟨rfl, rfl⟩
theorem tz_key (x a : Nat) (hx : x < 18446744073709551616) (hx0 : x ≠ 0) (hlow : x &&& (18446744073709551616 - x) = a) :
    IntKind.u64.wrap (bits BinOp.and IntKind.u64 (x : Int) (IntKind.u64.wrap (-(x : Int))) * 285870213051353865) / 288230376151711744 = ((a * 285870213051353865 % 18446744073709551616 / 288230376151711744 : Nat) : Int) := by
  have e1 : IntKind.u64.wrap (-(x : Int)) = ((18446744073709551616 - x : Nat) : Int) := by rw [IntKind.wrap_u64]; omega
  rw [e1, bits_and_u64_nat x _ hx (by omega), hlow, IntKind.wrap_u64]
  omega
/-- The lowest bit of a word that is not nought. -/
theorem ctz_low {x : Nat} (h0 : x ≠ 0) (hx : x < 18446744073709551616) : Lib.ctz 64 x < 64 ∧ x.testBit (Lib.ctz 64 x) = true ∧ ∀ j, j < Lib.ctz 64 x → x.testBit j = false := by
  obtain ⟨m, hm, hk⟩ := Lib.ctzFrom_spec 64 x (by omega) (by omega)
  have e : Lib.ctz 64 x = Lib.ctzFrom 64 x := by simp [Lib.ctz, h0]
  rw [e]
  generalize Lib.ctzFrom 64 x = k at *
  subst hm
  refine ⟨hk, ?_, fun j hj => ?_⟩
  · rw [Nat.mul_comm, Nat.testBit_mul_two_pow]
    simp
  · rw [Nat.mul_comm, Nat.testBit_mul_two_pow]
    simp [show ¬ k ≤ j by omega]
theorem tz_ok (x : Int) (w : World) (hx : W64 x) (hx0 : x ≠ 0) (hT : TabW w) :
    Calls Tryz.prog 66 #[.int .u64 x] w fun e w' => e = .returned (.int .i64 (Lib.ctz 64 x.toNat : Nat)) ∧ w = w' := by
  obtain ⟨n, rfl⟩ : ∃ n : Nat, x = (n : Int) := ⟨x.toNat, by have := hx.1; omega⟩
  have hn : n < 18446744073709551616 := by have := hx.2; omega
  have hn0 : n ≠ 0 := by omega
  rw [Int.toNat_natCast]
  obtain ⟨hlow, hk⟩ := Lib.lowest_bit 64 n hn0 hn
  obtain ⟨hi, htab⟩ := Lib.deBruijn64_at _ hk
  have hcell := hT _ hi
  rw [htab] at hcell
  exact tz_core n _ _ w (by simp; omega) (tz_key n _ hn hn0 hlow) hi hk hcell

/-- The next number out of the word that it is in. -/
theorem next_first {xs : List Int} {k : Nat} (hu : U64 xs) (h : xs.getD (k / 64) 0 / 2 ^ (k % 64) ≠ 0) :
    W64 (xs.getD (k / 64) 0 / 2 ^ (k % 64)) ∧ IsNext (bitAt xs) (k : Int) ((k : Int) + (Lib.ctz 64 (xs.getD (k / 64) 0 / 2 ^ (k % 64)).toNat : Nat)) ∧ Lib.ctz 64 (xs.getD (k / 64) 0 / 2 ^ (k % 64)).toNat < 64 := by
  have hq := hu.getD (k / 64)
  obtain ⟨n, hn⟩ : ∃ n : Nat, xs.getD (k / 64) 0 = (n : Int) := ⟨(xs.getD (k / 64) 0).toNat, by omega⟩
  have hbit : ∀ j, bitAt xs (64 * (k / 64) + j) = if j < 64 then n.testBit j else bitAt xs (64 * (k / 64) + j) := by
    intro j
    split
    · rw [bitAt_word _ _ _ (by assumption), hn, Int.toNat_natCast]
    · rfl
  rw [hn] at h ⊢
  rw [div_cast] at h ⊢
  rw [Int.toNat_natCast]
  have hlt : n < 18446744073709551616 := by omega
  have hd := div_lt hlt (k % 64)
  obtain ⟨c1, c2, c3⟩ := ctz_low (x := n / 2 ^ (k % 64)) (by intro e; rw [e] at h; exact h rfl) hd
  generalize Lib.ctz 64 (n / 2 ^ (k % 64)) = c at *
  rw [Nat.testBit_div_two_pow] at c2
  have hc : c + k % 64 < 64 := by
    rcases Nat.lt_or_ge (c + k % 64) 64 with h1 | h1
    · exact h1
    · have h64 : (18446744073709551616 : Nat) ≤ 2 ^ (c + k % 64) := Nat.pow_le_pow_right (n := 2) (by decide) (show 64 ≤ c + k % 64 from h1)
      rw [Nat.testBit_lt_two_pow (by omega)] at c2
      cases c2
  refine ⟨⟨Int.natCast_nonneg _, by omega⟩, .inr ⟨k + c, by omega, by omega, ?_, fun j hj1 hj2 => ?_⟩, c1⟩
  · have e : k + c = 64 * (k / 64) + (c + k % 64) := by omega
    rw [e, hbit, if_pos hc, c2]
  · have e : j = 64 * (k / 64) + ((j - k) + k % 64) := by omega
    have c4 := c3 (j - k) (by omega)
    rw [Nat.testBit_div_two_pow] at c4
    rw [e, hbit, if_pos (by omega), c4]
theorem none_first {xs : List Int} {k : Nat} (hu : U64 xs) (h : xs.getD (k / 64) 0 / 2 ^ (k % 64) = 0) : ∀ j, k ≤ j → j < 64 * (k / 64 + 1) → bitAt xs j = false := by
  intro j h1 h2
  have hq := hu.getD (k / 64)
  obtain ⟨n, hn⟩ : ∃ n : Nat, xs.getD (k / 64) 0 = (n : Int) := ⟨(xs.getD (k / 64) 0).toNat, by omega⟩
  have e : j = 64 * (k / 64) + (j % 64) := by omega
  rw [e, bitAt_word _ _ _ (by omega), hn, Int.toNat_natCast]
  rw [hn, div_cast] at h
  have h0 : n / 2 ^ (k % 64) = 0 := by omega
  have hj : j % 64 = (j % 64 - k % 64) + k % 64 := by omega
  rw [hj, ← Nat.testBit_div_two_pow, h0, Nat.zero_testBit]
theorem next_word {xs : List Int} {m : Nat} (hu : U64 xs) (h : xs.getD m 0 ≠ 0) {i : Int} (hi : i ≤ 64 * m) (hno : ∀ j : Nat, i ≤ (j : Int) → j < 64 * m → bitAt xs j = false) :
    IsNext (bitAt xs) i ((m : Int) * 64 + (Lib.ctz 64 (xs.getD m 0).toNat : Nat)) ∧ Lib.ctz 64 (xs.getD m 0).toNat < 64 := by
  have hq := hu.getD m
  obtain ⟨n, hn⟩ : ∃ n : Nat, xs.getD m 0 = (n : Int) := ⟨(xs.getD m 0).toNat, by omega⟩
  rw [hn, Int.toNat_natCast]
  obtain ⟨c1, c2, c3⟩ := ctz_low (x := n) (by intro e; rw [hn, e] at h; exact h rfl) (by omega)
  generalize Lib.ctz 64 n = c at *
  refine ⟨.inr ⟨64 * m + c, by omega, by omega, ?_, fun j hj1 hj2 => ?_⟩, c1⟩
  · rw [bitAt_word _ _ _ c1, hn, Int.toNat_natCast, c2]
  · rcases Nat.lt_or_ge j (64 * m) with h1 | h1
    · exact hno j hj1 h1
    · have e : j = 64 * m + (j - 64 * m) := by omega
      rw [e, bitAt_word _ _ _ (by omega), hn, Int.toNat_natCast]
      exact c3 _ (by omega)
theorem none_word {xs : List Int} {m : Nat} (h : xs.getD m 0 = 0) : ∀ j, 64 * m ≤ j → j < 64 * (m + 1) → bitAt xs j = false := by
  intro j h1 h2
  have e : j = 64 * m + (j - 64 * m) := by omega
  rw [e, bitAt_word _ _ _ (by omega), h]
  simp
theorem IsNext.clip {p : Nat → Bool} {i r : Int} (h : IsNext p (max i 0) r) : IsNext p i r := by
  rcases h with ⟨rfl, h⟩ | ⟨k, rfl, h1, h2, h3⟩
  · exact .inl ⟨rfl, fun j hj => h j (by omega)⟩
  · exact .inr ⟨k, rfl, by omega, h2, fun j hj hk => h3 j (by omega) hk⟩
def NextP (p : Nat → Bool) (i : Int) (w : World) (e : Ending) (w' : World) : Prop := ∃ r : Int, e = .returned (.int .i64 r) ∧ IsNext p i r ∧ w = w'
theorem nextP_clip {p : Nat → Bool} {i : Int} {w : World} {e : Ending} {w' : World} (h : NextP p (max i 0) w e w') : NextP p i w e w' := by
  obtain ⟨r, h1, h2, h3⟩ := h
  exact ⟨r, h1, h2.clip, h3⟩
set_option maxHeartbeats 800000 in
theorem next_at (v : Value) (xs : List Int) (i : Int) (k : Nat) (hik : max i 0 = (k : Int)) (w : World) (hv : Rd u64e w v xs) (hl : xs.length ≤ 1099511627776) (hu : U64 xs) (hi : i ≤ 9223372036854775807) (hi0 : -9223372036854775808 ≤ i) (hT : TabW w) :
    Calls Tryz.prog 40 #[v, .int .i64 i] w (NextP (bitAt xs) (k : Int) w) := by
  obtain ⟨A, c, rfl, _⟩ := hv.len
  have hk9 : (k : Int) ≤ 9223372036854775807 := by omega
  have HT := Lib.hid hT
  have HU := Lib.hid hu
  have hif : (if i < 0 then (0 : Int) else i) = (k : Int) := by split <;> omega
  clear hT hu hik
  have hq0 : (0 : Int) ≤ (k : Int) / 64 := by omega
  go_enter Tryz.func40, Tryz.ntmps40
  by_cases hlt : k / 64 < xs.length
  · have ht : decide (((xs.length : Nat) : Int) ≤ (k : Int) / 64) = false := by rw [decide_eq_false_iff_not]; omega
    have hq1 : (k : Int) / 64 < ((xs.length : Nat) : Int) := by omega
    obtain ⟨b, o, rfl, _, hc⟩ := hv.at_ hlt
    have hv := Lib.hid hv
    by_cases hz : xs.getD (k / 64) 0 / 2 ^ (k % 64) = 0
    · have hno := Lib.hid (none_first HU.out hz)
      rw [getD_lt hlt] at hz
      have hb : (xs[k / 64] / 2 ^ (k % 64) != 0) = false := by rw [hz]; rfl
      clear hz
      go_wp2_with fail
      go_loop [6] (fun m => ∃ n : Nat, m = .int .i64 n ∧ n ≤ xs.length ∧ Hid (k ≤ 64 * n) ∧ Hid (∀ j : Nat, k ≤ j → j < 64 * n → bitAt xs j = false)) (fun m => xs.length - (intOf m).toNat)
      case atStart => exact ⟨k / 64 + 1, by go_num, by omega, Lib.hid (by omega), hno⟩
      case round =>
        obtain ⟨n, rfl, hn, hkn, hno⟩ := hrel
        by_cases hnl : n < xs.length
        · have hnl' : (n : Int) < ((xs.length : Nat) : Int) := by omega
          obtain ⟨b', o', e', _, hc'⟩ := hv.out.at_ hnl
          injection e' with e'
          injection e' with e1 e2 e3
          subst e1 e2
          by_cases hx : xs[n] = 0
          · have hb : (xs[n] != 0) = false := by rw [hx]; rfl
            have hno' : Hid (∀ j : Nat, k ≤ j → j < 64 * (n + 1) → bitAt xs j = false) := Lib.hid fun j h1 h2 => by
              rcases Nat.lt_or_ge j (64 * n) with h3 | h3
              · exact hno.out j h1 h3
              · exact none_word (by rw [getD_lt hnl]; exact hx) j h3 h2
            clear hx
            go_wp2_with fail
            go_round
            case rel => exact ⟨n + 1, by go_num, by omega, Lib.hid (by have := hkn.out; omega), hno'⟩
            case measure => simp [intOf]; omega
          · have hb : (xs[n] != 0) = true := by rw [bne_iff_ne]; exact hx
            have hnw := next_word (i := (k : Int)) HU.out (by rw [getD_lt hnl]; exact hx) (by have := hkn.out; omega) (fun j h1 h2 => hno.out j (by omega) h2)
            rw [getD_lt hnl] at hnw
            have hc64 := hnw.2
            have hnw := Lib.hid hnw.1
            have hw64 := HU.out _ (List.getElem_mem hnl)
            go_wp2_with (go_at_call 66; refine (tz_ok _ _ hw64 hx HT.out).mono ?_; rintro e w' ⟨rfl, rfl⟩)
            go_ret
            exact ⟨_, rfl, hnw.out, rfl⟩
        · have hnl' : decide ((n : Int) < ((xs.length : Nat) : Int)) = false := by rw [decide_eq_false_iff_not]; omega
          go_wp2_with fail
          go_ret
          refine ⟨_, rfl, .inl ⟨rfl, fun j hj => ?_⟩, rfl⟩
          rcases Nat.lt_or_ge j (64 * n) with h3 | h3
          · exact hno.out j (by omega) h3
          · exact bitAt_top (by omega)
    · have hnf := next_first HU.out hz
      have hc64 := hnf.2.2
      rw [getD_lt hlt] at hnf hz hc64
      have hb : (xs[k / 64] / 2 ^ (k % 64) != 0) = true := by rw [bne_iff_ne]; exact hz
      have hnf := Lib.hid hnf
      have hz := Lib.hid hz
      go_wp2_with (go_at_call 66; refine (tz_ok _ _ hnf.out.1 hz.out HT.out).mono ?_; rintro e w' ⟨rfl, rfl⟩)
      go_ret
      exact ⟨_, rfl, hnf.out.2.1, rfl⟩
  · have ht : decide (((xs.length : Nat) : Int) ≤ (k : Int) / 64) = true := by rw [decide_eq_true_iff]; omega
    go_wp2_with fail
    go_ret
    exact ⟨_, rfl, .inl ⟨rfl, fun j hj => bitAt_top (by omega)⟩, rfl⟩
theorem next_ok (v : Value) (xs : List Int) (i : Int) (w : World) (hv : Rd u64e w v xs) (hl : xs.length ≤ 1099511627776) (hu : U64 xs) (hi : i ≤ 9223372036854775807) (hi0 : -9223372036854775808 ≤ i) (hT : TabW w) :
    Calls Tryz.prog 40 #[v, .int .i64 i] w (NextP (bitAt xs) i w) :=
  (next_at v xs i (max i 0).toNat (by omega) w hv hl hu hi hi0 hT).mono fun e w' h => by
    rw [show (((max i 0).toNat : Nat) : Int) = max i 0 by omega] at h
    exact nextP_clip h
end Go.Proofs.YtcaboknbdamlhaaGreatDoor
