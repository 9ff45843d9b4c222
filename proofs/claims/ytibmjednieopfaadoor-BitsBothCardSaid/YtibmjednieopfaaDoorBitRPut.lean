/- The walks of the reference: Put, Count, Next. -/
import Derived.Test.YtibmjednieopfaaDoorBitOf
set_option linter.unusedVariables false
set_option linter.unusedSimpArgs false
namespace Go.Proofs.YtibmjednieopfaaDoor
open Go.RowKit

theorem putB_of_out {xs ys : List Int} {i : Int} {is : Bool} (hi : i < 0 ∨ 65536 ≤ i) (h : OfB (truths (bitAt xs) (64 * xs.length)) ys) : PutB xs i is ys := by
  obtain ⟨h1, h2, h3, h4⟩ := h
  rw [truths_len] at h3
  refine ⟨h1, h2, .inl (by omega), fun j => ?_⟩
  rw [h4 j, truths_getD, show (if (j : Int) = i ∧ i < 65536 then is else bitAt xs j) = bitAt xs j from if_neg (by omega)]
  split
  · rfl
  · rw [bitAt_top (by omega)]
theorem putB_of_in {xs ys : List Int} {k n : Nat} {is : Bool} (hk : k < 65536) (hn : n = max (64 * xs.length) (k + 1)) (h : OfB ((truths (bitAt xs) n).set k is) ys) : PutB xs (k : Int) is ys := by
  obtain ⟨h1, h2, h3, h4⟩ := h
  rw [List.length_set, truths_len] at h3
  refine ⟨h1, h2, by omega, fun j => ?_⟩
  rw [h4 j]
  by_cases e : j = k
  · subst e
    rw [if_pos ⟨rfl, by omega⟩]
    simp [List.getD, truths_len, show j < n by omega]
  · rw [if_neg (by omega)]
    have h5 := truths_getD (bitAt xs) n j
    simp only [List.getD] at h5 ⊢
    rw [List.getElem?_set_ne (by omega), h5]
    split
    · rfl
    · rw [bitAt_top (by omega)]
set_option maxHeartbeats 800000 in
theorem rput_ok (v : Value) (xs : List Int) (i : Int) (is : Bool) (w : World) (hv : Rd u64e w v xs) (hl : xs.length ≤ 549755813888) (hu : U64 xs) (hi : i ≤ 9223372036854775807) (hi0 : -9223372036854775808 ≤ i) :
    Calls Tryd.prog 15 #[v, .int .i64 i, .bool is] w fun e w' => ∃ v' ys, e = .returned v' ∧ Rd u64e w' v' ys ∧ PutB xs i is ys ∧ From w.heap.size v' ∧ Below w.heap.size w w' := by
  obtain ⟨A, c, rfl, _⟩ := hv.len
  have HU := Lib.hid hu
  have RX := Lib.hid hv
  clear hu hv
  by_cases h : i < 0 ∨ 65536 ≤ i
  · have hN : (64 : Int) * ((xs.length : Nat) : Int) = ((64 * xs.length : Nat) : Int) := by omega
    have hNb : 64 * xs.length ≤ 70368744177664 := by omega
    have H := Lib.hid (fun ys => putB_of_out (xs := xs) (ys := ys) (i := i) (is := is) h)
    obtain ⟨N, hNN⟩ : ∃ N, N = 64 * xs.length := ⟨_, rfl⟩
    rw [← hNN] at hN hNb H
    clear hNN
    have key : ∀ w', Below w.heap.size w w' → ∀ v, w'.ownsRow w.heap.size 4 1 v N ((truths (bitAt xs) N).map boole) → Rd boole w' v (truths (bitAt xs) N) := by
      intro w' _ v ho
      exact Rd.of_own (enc := boole) (by rw [truths_len]; exact ho)
    have KEY := Lib.hid key
    clear key
    have htl : (truths (bitAt xs) N).length ≤ 70368744177664 := by rw [truths_len]; exact hNb
    replace htl := Lib.hid htl
    rcases h with h | h
    · have t0 : decide (0 ≤ i) = false := by rw [decide_eq_false_iff_not]; omega
      clear h
      go_enter Tryd.func15, Tryd.ntmps15
      go_wp2_with fail
      refine (rlist_ok _ xs N _ RX.out (by omega) HU.out hNb).mono ?_
      rintro e w1 ⟨v1, rfl, ho, hb1⟩
      have hr1 := Lib.hid (KEY.out w1 hb1 v1 ho)
      clear ho
      go_wp2_with fail
      refine (rof_ok v1 _ _ hr1.out htl.out).mono ?_
      rintro e w2 ⟨v2, ys, rfl, hr2, hof, hf2, hb2⟩
      have hp := Lib.hid (H.out ys hof)
      have hf2 : From w.heap.size v2 := fun b hb => Nat.le_trans hb1.size (hf2 b hb)
      have hb := below_all hb1 hb2
      clear hof
      go_wp2_with fail
      go_ret
      exact ⟨_, _, rfl, hr2, hp.out, hf2, hb⟩
    · have t0 : decide (0 ≤ i) = true := by rw [decide_eq_true_iff]; omega
      have t1 : decide (i < 65536) = false := by rw [decide_eq_false_iff_not]; omega
      clear h
      go_enter Tryd.func15, Tryd.ntmps15
      go_wp2_with fail
      refine (rlist_ok _ xs N _ RX.out (by omega) HU.out hNb).mono ?_
      rintro e w1 ⟨v1, rfl, ho, hb1⟩
      have hr1 := Lib.hid (KEY.out w1 hb1 v1 ho)
      clear ho
      go_wp2_with fail
      refine (rof_ok v1 _ _ hr1.out htl.out).mono ?_
      rintro e w2 ⟨v2, ys, rfl, hr2, hof, hf2, hb2⟩
      have hp := Lib.hid (H.out ys hof)
      have hf2 : From w.heap.size v2 := fun b hb => Nat.le_trans hb1.size (hf2 b hb)
      have hb := below_all hb1 hb2
      clear hof
      go_wp2_with fail
      go_ret
      exact ⟨_, _, rfl, hr2, hp.out, hf2, hb⟩
  · obtain ⟨k, rfl⟩ : ∃ k : Nat, i = (k : Int) := ⟨i.toNat, by omega⟩
    have hk : k < 65536 := by omega
    have t0 : decide (0 ≤ (k : Int)) = true := by rw [decide_eq_true_iff]; omega
    have t1 : decide ((k : Int) < 65536) = true := by rw [decide_eq_true_iff]; omega
    obtain ⟨n, hn⟩ : ∃ n, n = max (64 * xs.length) (k + 1) := ⟨_, rfl⟩
    have hif : (if (64 : Int) * ((xs.length : Nat) : Int) < (k : Int) + 1 then (k : Int) + 1 else (64 : Int) * ((xs.length : Nat) : Int)) = (n : Int) := by split <;> omega
    have hnb : n ≤ 70368744177664 := by omega
    have hkn : k < n := by omega
    have t2 : (k : Int) < (n : Int) := by omega
    have t3 : (0 : Int) ≤ (k : Int) := by omega
    have H := Lib.hid (fun ys => putB_of_in (xs := xs) (ys := ys) (k := k) (n := n) (is := is) hk hn)
    clear h hn
    go_enter Tryd.func15, Tryd.ntmps15
    go_wp2_with fail
    refine (rlist_ok _ xs n _ RX.out (by omega) HU.out hnb).mono ?_
    rintro e w1 ⟨v1, rfl, ho, hb1⟩
    obtain ⟨A1, c1, rfl, hnc⟩ := own_form ho
    obtain ⟨g, rfl, hg1, hg2⟩ := own_addr ho (by omega)
    have hcell := ho.cellAt k (by omega)
    have htk : ((truths (bitAt xs) n).map boole)[k]? = some (.bool (bitAt xs k)) := by simp [truths, hkn]
    rw [htk] at hcell
    have hfz := ho.frozenAt k
    have hs := (ho.stored k (.bool is)).1
    rw [show ((truths (bitAt xs) n).map boole).set k (.bool is) = ((truths (bitAt xs) n).set k is).map boole by rw [List.map_set]] at hs
    have hlen : ((truths (bitAt xs) n).set k is).length = n := by rw [List.length_set, truths_len]
    have hr1 := Rd.of_own (enc := boole) (xs := (truths (bitAt xs) n).set k is) (by rw [hlen]; exact hs)
    replace hr1 := Lib.hid hr1
    have hl9 : Hid (((truths (bitAt xs) n).set k is).length ≤ 70368744177664) := Lib.hid (by omega)
    have hb1' := hb1.setCell (p := ⟨g, k, none⟩) hg1 (.bool is)
    clear htk hs hlen ho
    go_wp2_with fail
    refine (rof_ok _ _ _ hr1.out hl9.out).mono ?_
    rintro e w2 ⟨v2, ys, rfl, hr2, hof, hf2, hb2⟩
    have hp := Lib.hid (H.out ys hof)
    have hf2 : From w.heap.size v2 := fun b hb => Nat.le_trans hb1'.size (hf2 b hb)
    have hb := below_all hb1' hb2
    clear hof
    go_wp2_with fail
    go_ret
    exact ⟨_, _, rfl, hr2, hp.out, hf2, hb⟩

theorem rcount_ok (v : Value) (xs : List Int) (w : World) (hv : Rd u64e w v xs) (hl : xs.length ≤ 549755813888) (hu : U64 xs) :
    Calls Tryd.prog 17 #[v] w fun e w' => e = .returned (.int .i64 (popAll xs : Nat)) ∧ w = w' := by
  obtain ⟨A, c, rfl, _⟩ := hv.len
  have HU := Lib.hid hu
  have RX := Lib.hid hv
  clear hu hv
  go_enter Tryd.func17, Tryd.ntmps17
  go_wp2_with fail
  go_loop [3, 4] (fun n i => ∃ k m : Nat, k ≤ 64 * xs.length ∧ m ≤ k ∧ i = .int .i64 k ∧ n = .int .i64 m ∧ Hid (m = countTo (bitAt xs) k)) (fun _ i => 64 * xs.length - (intOf i).toNat)
  case atStart => exact ⟨0, 0, by omega, by omega, rfl, rfl, Lib.hid rfl⟩
  case round =>
    obtain ⟨k, m, hk, hmk, rfl, rfl, hm⟩ := hrel
    by_cases hlt : k < 64 * xs.length
    · have t0 : decide ((k : Int) < 64 * ((xs.length : Nat) : Int)) = true := by rw [decide_eq_true_iff]; omega
      go_wp2_with fail
      refine (rhas_nat _ xs k _ RX.out (by omega) HU.out (by omega)).mono ?_
      rintro e w' ⟨rfl, rfl⟩
      rcases hb : bitAt xs k with _ | _
      · have hm' : Hid (m = countTo (bitAt xs) (k + 1)) := Lib.hid (by show m = countTo (bitAt xs) k + _; rw [hb, ← hm.out]; rfl)
        clear hb
        go_wp2_with fail
        go_round
        case rel => exact ⟨k + 1, m, by omega, by omega, by go_num, rfl, hm'⟩
        case measure => simp [intOf]; omega
      · have hm' : Hid (m + 1 = countTo (bitAt xs) (k + 1)) := Lib.hid (by show m + 1 = countTo (bitAt xs) k + _; rw [hb, ← hm.out]; rfl)
        clear hb
        go_wp2_with fail
        go_round
        case rel => exact ⟨k + 1, m + 1, by omega, by omega, by go_num, by go_num, hm'⟩
        case measure => simp [intOf]; omega
    · obtain rfl : k = 64 * xs.length := by omega
      have t0 : decide (((64 * xs.length : Nat) : Int) < 64 * ((xs.length : Nat) : Int)) = false := by rw [decide_eq_false_iff_not]; omega
      obtain ⟨N, hN⟩ : ∃ N, N = 64 * xs.length := ⟨_, rfl⟩
      have hm' : Hid (m = popAll xs) := hm
      rw [← hN] at t0 ⊢
      clear hN hm hmk
      go_wp2_with fail
      go_ret
      exact ⟨ret_int (by rw [hm'.out]), rfl⟩

theorem rnext_at (v : Value) (xs : List Int) (i : Int) (k0 : Nat) (hik : max i 0 = (k0 : Int)) (w : World) (hv : Rd u64e w v xs) (hl : xs.length ≤ 549755813888) (hu : U64 xs) (hi : i ≤ 9223372036854775807) (hi0 : -9223372036854775808 ≤ i) :
    Calls Tryd.prog 19 #[v, .int .i64 i] w (NextP (bitAt xs) (k0 : Int) w) := by
  obtain ⟨A, c, rfl, _⟩ := hv.len
  have HU := Lib.hid hu
  have RX := Lib.hid hv
  have hif : (if i < 0 then (0 : Int) else i) = (k0 : Int) := by split <;> omega
  have hk9 : (k0 : Int) ≤ 9223372036854775807 := by omega
  clear hu hv hik
  go_enter Tryd.func19, Tryd.ntmps19
  go_wp2_with fail
  go_loop [5] (fun i => ∃ k : Nat, k0 ≤ k ∧ (k : Int) ≤ 9223372036854775807 ∧ i = .int .i64 k ∧ Hid (∀ j, k0 ≤ j → j < k → bitAt xs j = false)) (fun i => 64 * xs.length - (intOf i).toNat)
  case atStart => exact ⟨k0, by omega, hk9, rfl, Lib.hid fun j h1 h2 => by omega⟩
  case round =>
    obtain ⟨k, hk, hk9, rfl, hno⟩ := hrel
    by_cases hlt : k < 64 * xs.length
    · have t0 : decide ((k : Int) < 64 * ((xs.length : Nat) : Int)) = true := by rw [decide_eq_true_iff]; omega
      go_wp2_with fail
      refine (rhas_nat _ xs k _ RX.out (by omega) HU.out (by omega)).mono ?_
      rintro e w' ⟨rfl, rfl⟩
      rcases hb : bitAt xs k with _ | _
      · have hno' : Hid (∀ j, k0 ≤ j → j < k + 1 → bitAt xs j = false) := Lib.hid fun j h1 h2 => by
          rcases Nat.lt_or_ge j k with h3 | h3
          · exact hno.out j h1 h3
          · obtain rfl : j = k := by omega
            exact hb
        clear hb
        go_wp2_with fail
        go_round
        case rel => exact ⟨k + 1, by omega, by omega, by go_num, hno'⟩
        case measure => simp [intOf]; omega
      · replace hb := Lib.hid hb
        go_wp2_with fail
        go_ret
        exact ⟨_, rfl, .inr ⟨k, rfl, by omega, hb.out, fun j h1 h2 => hno.out j (by omega) h2⟩, rfl⟩
    · have t0 : decide ((k : Int) < 64 * ((xs.length : Nat) : Int)) = false := by rw [decide_eq_false_iff_not]; omega
      go_wp2_with fail
      go_ret
      refine ⟨_, rfl, .inl ⟨rfl, fun j hj => ?_⟩, rfl⟩
      rcases Nat.lt_or_ge j k with h3 | h3
      · exact hno.out j (by omega) h3
      · exact bitAt_top (by omega)
theorem rnext_ok (v : Value) (xs : List Int) (i : Int) (w : World) (hv : Rd u64e w v xs) (hl : xs.length ≤ 549755813888) (hu : U64 xs) (hi : i ≤ 9223372036854775807) (hi0 : -9223372036854775808 ≤ i) :
    Calls Tryd.prog 19 #[v, .int .i64 i] w (NextP (bitAt xs) i w) :=
  (rnext_at v xs i (max i 0).toNat (by omega) w hv hl hu hi hi0).mono fun e w' h => by
    rw [show (((max i 0).toNat : Nat) : Int) = max i 0 by omega] at h
    exact nextP_clip h
end Go.Proofs.YtibmjednieopfaaDoor
