/- The reference's Words; alive is true. -/
import Derived.Test.YtibmjednieopfaaDoorBitBoth
import Derived.Test.YtibmjednieopfaaDoorBitNext
import Derived.Test.YtibmjednieopfaaDoorBitCount
set_option linter.unusedVariables false
set_option linter.unusedSimpArgs false
namespace Go.Proofs.YtibmjednieopfaaDoor
open Go.RowKit
/-- The very same words? -/
theorem words_ok (u v : Value) (xs ys : List Int) (w : World) (hu : Rd u64e w u xs) (hv : Rd u64e w v ys) (hlx : xs.length ≤ 1099511627776) (hly : ys.length ≤ 1099511627776) :
    Calls Tryd.prog 13 #[u, v] w fun e w' => e = .returned (.bool (decide (xs = ys))) ∧ Below w.heap.size w w' := by
  obtain ⟨A, c, rfl, _⟩ := hu.len
  obtain ⟨A2, c2, rfl, _⟩ := hv.len
  by_cases hl : xs.length = ys.length
  · have hn : (((xs.length : Nat) : Int) != ((ys.length : Nat) : Int)) = false := by rw [hl]; exact bne_self_eq_false _
    have RX := Lib.hid hu
    have RY := Lib.hid hv
    have HL := Lib.hid hl
    clear hu hv hl
    go_enter Tryd.func13, Tryd.ntmps13
    go_wp2_with fail
    go_loopw [5] (fun i wr => ∃ k : Nat, k ≤ xs.length ∧ i = .int .i64 k ∧ Hid (xs.take k = ys.take k) ∧ Below w.heap.size w wr) (fun i _ => xs.length - (intOf i).toNat)
    case atStart => exact ⟨0, by omega, rfl, Lib.hid rfl, Below.refl _ _⟩
    case round =>
      obtain ⟨k, hk, rfl, he, hb⟩ := hrel
      by_cases hlt : k < xs.length
      · have hlt2 : k < ys.length := by have := HL.out; omega
        obtain ⟨b, o, rfl, _, hc⟩ := (RX.out.below hb).at_ hlt
        obtain ⟨b2, o2, rfl, _, hc2⟩ := (RY.out.below hb).at_ hlt2
        have q0 : (0 : Int) ≤ (k : Int) := by omega
        have q1 : (k : Int) < ((xs.length : Nat) : Int) := by omega
        have q2 : (k : Int) < ((ys.length : Nat) : Int) := by omega
        have hte : xs.take (k + 1) = ys.take (k + 1) ↔ xs[k] = ys[k] := by
          rw [List.take_succ_eq_append_getElem hlt, List.take_succ_eq_append_getElem hlt2, he.out]
          exact ⟨fun h => by simpa using List.append_cancel_left h, fun h => by rw [h]⟩
        have hte := Lib.hid hte
        by_cases hx : xs[k] = ys[k]
        · have hb1 : (xs[k] != ys[k]) = false := by rw [hx]; exact bne_self_eq_false _
          have he' := Lib.hid (hte.out.2 hx)
          clear hx he
          go_wp2_with fail
          go_quiet (fail)
          go_wp2_with fail
          go_roundw
          case rel => exact ⟨k + 1, by omega, by go_num, he', below_drewN hb _⟩
          case measure => simp [intOf]; omega
        · have hb1 : (xs[k] != ys[k]) = true := by rw [bne_iff_ne]; exact hx
          have hne : Hid (decide (xs = ys) = false) := Lib.hid (by rw [decide_eq_false_iff_not]; intro e; exact hx (hte.out.1 (by rw [e])))
          clear hx he
          go_wp2_with fail
          go_quiet (fail)
          go_wp2_with fail
          go_ret
          exact ⟨ret_bool hne.out.symm, below_drewN hb _⟩
      · have hge : decide ((k : Int) < ((xs.length : Nat) : Int)) = false := by rw [decide_eq_false_iff_not]; omega
        have hne : Hid (decide (xs = ys) = true) := Lib.hid (by
          rw [decide_eq_true_iff]
          have h1 := he.out
          rw [List.take_of_length_le (by omega), List.take_of_length_le (by have := HL.out; omega)] at h1
          exact h1)
        go_wp2_with fail
        go_ret
        exact ⟨ret_bool hne.out.symm, hb⟩
  · have hn : (((xs.length : Nat) : Int) != ((ys.length : Nat) : Int)) = true := by rw [bne_iff_ne]; omega
    have hne : Hid (decide (xs = ys) = false) := Lib.hid (by rw [decide_eq_false_iff_not]; intro e; exact hl (by rw [e]))
    clear hl
    go_enter Tryd.func13, Tryd.ntmps13
    go_wp2_with fail
    go_ret
    exact ⟨ret_bool hne.out.symm, Below.refl _ _⟩

theorem b70 (j : Nat) : bitAt [0, 64] j = decide (j = 70) := by
  unfold bitAt
  obtain ⟨q, r, hq, hr, rfl⟩ : ∃ q r, q = j / 64 ∧ r < 64 ∧ j = 64 * q + r := ⟨j / 64, j % 64, rfl, by omega, by omega⟩
  have e1 : (64 * q + r) / 64 = q := by omega
  have e2 : (64 * q + r) % 64 = r := by omega
  rw [e1, e2]
  match q with
  | 0 => simp; omega
  | 1 =>
    show (64 : Nat).testBit r = _
    rw [show (64 : Nat) = 2 ^ 6 from rfl, Nat.testBit_two_pow]
    rw [decide_eq_decide]; omega
  | q + 2 => simp [List.getD]; omega
theorem u70 : U64 [0, 64] := by intro x hx; simp at hx; omega
theorem s70 : Short [0, 64] := by unfold Short; decide
theorem put70 {ys : List Int} (h : PutB [] 70 true ys) : ys = [0, 64] := by
  refine canon h.1 u70 h.2.1 s70 fun j => ?_
  rw [h.2.2.2 j, b70, bitAt_nil]
  by_cases e : j = 70
  · subst e; rfl
  · rw [if_neg (by omega)]; simp [e]
theorem out70 {ys : List Int} (h : PutB [0, 64] 70 false ys) : ys = [] := by
  refine canon h.1 U64.nil h.2.1 rfl fun j => ?_
  rw [h.2.2.2 j, b70, bitAt_nil]
  by_cases e : j = 70
  · subst e; rfl
  · rw [if_neg (by omega)]; simp [e]
theorem next3 {r : Int} (h : IsNext (bitAt [0, 64]) 3 r) : r = 70 :=
  h.uniq (.inr ⟨70, rfl, by omega, by rw [b70]; rfl, fun j h1 h2 => by rw [b70]; simp; omega⟩)
theorem next71 {r : Int} (h : IsNext (bitAt [0, 64]) 71 r) : r = -1 :=
  h.uniq (.inl ⟨rfl, fun j h1 => by rw [b70]; simp; omega⟩)
theorem or70 {zs : List Int} (h : BothB .or [0, 64] [] zs) : sameB [0, 64] zs = true := by
  unfold sameB
  rw [decide_eq_true_iff, canon_iff u70 h.1]
  intro j
  rw [h.2.2.2 j, bitAt_nil]
  simp [op3]
set_option maxHeartbeats 1600000 in
theorem alive_ok (w : World) (hT : TabW w) : Calls Tryd.prog 10 #[] w fun e w' => e = .returned (.bool true) ∧ Below w.heap.size w w' := by
  have HT := Lib.hid hT
  clear hT
  go_enter Tryd.func10, Tryd.ntmps10
  go_wp2_with fail
  refine (put_ok _ [] 70 true _ (Rd.none_ u64e _) (by simp) U64.nil (by omega) (by omega)).mono ?_
  rintro e w1 ⟨v1, ys, rfl, hr1, hp, hf1, hb1⟩
  obtain rfl := put70 hp
  clear hp
  have HT1 := Lib.hid (HT.out.below hb1)
  have hr1 := Lib.hid hr1
  go_wp2_with fail
  refine (words_ok _ _ [0, 64] [0, 64] _ (hr1.out.below (below_alloc _ _)) (Rd.lit (enc := u64e) w1 45 [0, 64] (by unfold maxLen; simp)) (by simp) (by simp)).mono ?_
  rintro e w2 ⟨rfl, hb2⟩
  have hb2 := below_all (below_alloc w1 _) hb2
  have hd : decide (([0, 64] : List Int) = [0, 64]) = true := by rw [decide_eq_true_iff]
  have hr2 := Lib.hid (hr1.out.below hb2)
  have HT2 := Lib.hid (HT1.out.below hb2)
  have hh : hasB [0, 64] 70 = true := by decide
  go_wp2_with fail
  refine (has_ok _ [0, 64] 70 _ hr2.out (by simp) u70 (by omega) (by omega)).mono ?_
  rintro e w' ⟨rfl, rfl⟩
  go_wp2_with fail
  refine (next_ok _ [0, 64] 3 _ hr2.out (by simp) u70 (by omega) (by omega) HT2.out).mono ?_
  rintro e w' ⟨r, rfl, hn, rfl⟩
  obtain rfl := next3 hn
  clear hn
  go_wp2_with fail
  refine (next_ok _ [0, 64] 71 _ hr2.out (by simp) u70 (by omega) (by omega) HT2.out).mono ?_
  rintro e w' ⟨r, rfl, hn, rfl⟩
  obtain rfl := next71 hn
  clear hn
  have hpa : popAll [0, 64] = 1 := by decide +kernel
  go_wp2_with fail
  refine (count_ok _ [0, 64] _ hr2.out (by simp) u70).mono ?_
  rintro e w' ⟨rfl, rfl⟩
  go_wp2_with fail
  refine (put_ok _ [0, 64] 70 false _ hr2.out (by simp) u70 (by omega) (by omega)).mono ?_
  rintro e w3 ⟨v3, ys, rfl, hr3, hp, hf3, hb3⟩
  obtain rfl := out70 hp
  obtain ⟨A, c, rfl, -⟩ := hr3.len
  have hr4 := Lib.hid (hr2.out.below hb3)
  clear hp hr3 hf3
  go_wp2_with fail
  refine (or_ok _ _ [0, 64] [] _ hr4.out (Rd.none_ u64e _) (by simp) (by simp) u70 U64.nil).mono ?_
  rintro e w4 ⟨v4, zs, rfl, hr5, hp, hf4, hb4⟩
  have hs := or70 hp
  have hlz : zs.length ≤ 1099511627776 := by rcases hp.2.2.1 with h | h <;> exact Nat.le_trans h (by simp)
  have hp := Lib.hid hp
  have hr6 := Lib.hid (hr4.out.below hb4)
  go_wp2_with fail
  refine (same_ok _ _ [0, 64] zs _ hr6.out hr5 (by simp) hlz).mono ?_
  rintro e w5 ⟨rfl, hb5⟩
  have hb := below_all (below_all (below_all (below_all hb1 hb2) hb3) hb4) hb5
  clear hb1 hb2 hb3 hb4 hb5
  go_wp2_with fail
  go_ret
  exact ⟨rfl, hb⟩
end Go.Proofs.YtibmjednieopfaaDoor
