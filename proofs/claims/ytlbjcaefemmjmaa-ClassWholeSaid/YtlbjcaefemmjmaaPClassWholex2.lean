-- PRINTED BY print.sh 35421559b90ae4d0a3588c463048766b98c2df88dd9212a6774a882060cdf62d: not written by this session
import Derived.Test.YtlbjcaefemmjmaaPClassWholex0
import Derived.Test.YtlbjcaefemmjmaaPClassWholex1
namespace Go.Proofs.Ytlbjcaefemmjmaa.PClassWhole
open Go.RowKit Go.Proofs.YtlbjcaefemmjmaaW.PrintWords Go.Proofs.YtlbjcaefemmjmaaW.PrintLast Go.Proofs.YtlbjcaefemmjmaaW.PrintMore
attribute [local go_sem] max2_int min2_int max_two min_two max_three min_three max_four min_four   -- for this text's walks alone
set_option linter.unusedVariables false
set_option linter.unusedSimpArgs false

/-! ### lockstitchlaw13_ClassWhole: function 4 -/
mutual
def lockstitchlaw13_ClassWhole.l0 : Nat → Int → Int → Int → List Int → Int → Option (Bool)
  | 0, _, _, _, _, _ => none
  | k + 1, x0, x5, x6, x7, x30 => if x30 < 8 then (lockstitchlaw13_ClassWhole.l1 k x0 x5 x6 x7 (wrap64 ((wrap64 ((wrap64 (8 * (wrap64 (x0)))) + 1)) + x30)) 0 false x30 x7 (x7.length : Int) 0) else (some true)
def lockstitchlaw13_ClassWhole.l1 : Nat → Int → Int → Int → List Int → Int → Int → Bool → Int → List Int → Int → Int → Option (Bool)
  | 0, _, _, _, _, _, _, _, _, _, _, _ => none
  | k + 1, x0, x5, x6, x7, x9, x10, x11, x30, x39, x40, x41 => if x41 < x40 then (if 0 ≤ x41 then (if x41 < (x39.length : Int) then (if x9 ≥ (rd x39 x41) then (if x9 < (wrap64 ((rd x39 x41) + x6)) then (if x11 = true then (lockstitchlaw13_ClassWhole.l1 k x0 x5 x6 x7 x9 (wrap64 (x10 + 1)) true x30 x39 x40 (wrap64 (x41 + 1))) else (lockstitchlaw13_ClassWhole.l1 k x0 x5 x6 x7 x9 (wrap64 (x10 + 1)) ((rd x39 x41) == x9) x30 x39 x40 (wrap64 (x41 + 1)))) else (if x11 = true then (lockstitchlaw13_ClassWhole.l1 k x0 x5 x6 x7 x9 x10 true x30 x39 x40 (wrap64 (x41 + 1))) else (lockstitchlaw13_ClassWhole.l1 k x0 x5 x6 x7 x9 x10 ((rd x39 x41) == x9) x30 x39 x40 (wrap64 (x41 + 1))))) else (if x11 = true then (lockstitchlaw13_ClassWhole.l1 k x0 x5 x6 x7 x9 x10 true x30 x39 x40 (wrap64 (x41 + 1))) else (lockstitchlaw13_ClassWhole.l1 k x0 x5 x6 x7 x9 x10 ((rd x39 x41) == x9) x30 x39 x40 (wrap64 (x41 + 1))))) else (none)) else (none)) else (if x10 = 1 then ((class_Begins.f x9 x5).bind fun t128 => (if (t128 != x11) = true then (some false) else ((class_In.f x9).bind fun t129 => (if t129 = (wrap64 (x0)) then (lockstitchlaw13_ClassWhole.l0 k x0 x5 x6 x7 (wrap64 (x30 + 1))) else (some false))))) else (some false))
end
def lockstitchlaw13_ClassWhole.f (k : Nat) (a0 : Int) (a1 : Int) : Option (Bool) := (lockstitchlaw13_alive.f k).bind fun t122 => (if t122 = true then ((class_Words.f (Int.tmod (wrap64 (a1)) 4)).bind fun t123 => ((class_Blocks.f k (wrap64 (a0)) (Int.tmod (wrap64 (a1)) 4)).bind fun t124 => (if (wrap64 (t123 * (t124.length : Int))) = 8 then (lockstitchlaw13_ClassWhole.l0 k a0 (Int.tmod (wrap64 (a1)) 4) t123 t124 0) else (some false)))) else (some false))
theorem lockstitchlaw13_ClassWhole.mono_l : ∀ k, (∀ y0 y1 y2 y3 y4, LeO (lockstitchlaw13_ClassWhole.l0 k y0 y1 y2 y3 y4) (lockstitchlaw13_ClassWhole.l0 (k + 1) y0 y1 y2 y3 y4)) ∧ (∀ y0 y1 y2 y3 y4 y5 y6 y7 y8 y9 y10, LeO (lockstitchlaw13_ClassWhole.l1 k y0 y1 y2 y3 y4 y5 y6 y7 y8 y9 y10) (lockstitchlaw13_ClassWhole.l1 (k + 1) y0 y1 y2 y3 y4 y5 y6 y7 y8 y9 y10))
  | 0 => ⟨fun _ _ _ _ _ r h => by simp [lockstitchlaw13_ClassWhole.l0] at h, fun _ _ _ _ _ _ _ _ _ _ _ r h => by simp [lockstitchlaw13_ClassWhole.l1] at h⟩
  | k + 1 => by
    obtain ⟨ih0, ih1⟩ := lockstitchlaw13_ClassWhole.mono_l k
    refine ⟨?_, ?_⟩
    · intro y0 y1 y2 y3 y4
      unfold lockstitchlaw13_ClassWhole.l0
      repeat' first
      | (with_reducible exact ih0 _ _ _ _ _)
      | (with_reducible exact ih1 _ _ _ _ _ _ _ _ _ _ _)
      | (with_reducible exact class_Blocks.mono _ _ _)
      | (with_reducible exact lockstitchlaw13_alive.mono _)
      | (with_reducible exact LeO.refl _)
      | (with_reducible exact LeO.none _)
      | (with_reducible refine LeO.ite ?_ ?_)
      | (with_reducible refine LeO.bind ?_ (fun _ => ?_))
      | exact ih0 _ _ _ _ _
      | exact ih1 _ _ _ _ _ _ _ _ _ _ _
      | exact class_Blocks.mono _ _ _
      | exact lockstitchlaw13_alive.mono _
      | exact LeO.none _
      | refine LeO.ite ?_ ?_
      | refine LeO.bind ?_ (fun _ => ?_)
    · intro y0 y1 y2 y3 y4 y5 y6 y7 y8 y9 y10
      unfold lockstitchlaw13_ClassWhole.l1
      repeat' first
      | (with_reducible exact ih0 _ _ _ _ _)
      | (with_reducible exact ih1 _ _ _ _ _ _ _ _ _ _ _)
      | (with_reducible exact class_Blocks.mono _ _ _)
      | (with_reducible exact lockstitchlaw13_alive.mono _)
      | (with_reducible exact LeO.refl _)
      | (with_reducible exact LeO.none _)
      | (with_reducible refine LeO.ite ?_ ?_)
      | (with_reducible refine LeO.bind ?_ (fun _ => ?_))
      | exact ih0 _ _ _ _ _
      | exact ih1 _ _ _ _ _ _ _ _ _ _ _
      | exact class_Blocks.mono _ _ _
      | exact lockstitchlaw13_alive.mono _
      | exact LeO.none _
      | refine LeO.ite ?_ ?_
      | refine LeO.bind ?_ (fun _ => ?_)
theorem lockstitchlaw13_ClassWhole.mono : ∀ a0 a1 k, LeO (lockstitchlaw13_ClassWhole.f k a0 a1) (lockstitchlaw13_ClassWhole.f (k + 1) a0 a1) := by
  intro a0 a1 k
  obtain ⟨ih0, ih1⟩ := lockstitchlaw13_ClassWhole.mono_l k
  unfold lockstitchlaw13_ClassWhole.f
  repeat' first
      | (with_reducible exact ih0 _ _ _ _ _)
      | (with_reducible exact ih1 _ _ _ _ _ _ _ _ _ _ _)
      | (with_reducible exact class_Blocks.mono _ _ _)
      | (with_reducible exact lockstitchlaw13_alive.mono _)
      | (with_reducible exact LeO.refl _)
      | (with_reducible exact LeO.none _)
      | (with_reducible refine LeO.ite ?_ ?_)
      | (with_reducible refine LeO.bind ?_ (fun _ => ?_))
      | exact ih0 _ _ _ _ _
      | exact ih1 _ _ _ _ _ _ _ _ _ _ _
      | exact class_Blocks.mono _ _ _
      | exact lockstitchlaw13_alive.mono _
      | exact LeO.none _
      | refine LeO.ite ?_ ?_
      | refine LeO.bind ?_ (fun _ => ?_)
set_option maxHeartbeats 8000000 in
set_option maxRecDepth 100000 in
theorem lockstitchlaw13_ClassWhole.calls (k : Nat) (a0 : Int) (a1 : Int) (r : Bool) (w : World) (h : lockstitchlaw13_ClassWhole.f k a0 a1 = some r) :
    Calls Try.prog 4 #[.int .u16 a0, .int .u8 a1] w fun e w' => e = .returned (.bool r) ∧ Below w.heap.size w w' := by
  have HB := Aside0.mk (Below.refl w.heap.size w)
  have H : ((lockstitchlaw13_alive.f k).bind fun t122 => (if t122 = true then ((class_Words.f (Int.tmod (wrap64 (a1)) 4)).bind fun t123 => ((class_Blocks.f k (wrap64 (a0)) (Int.tmod (wrap64 (a1)) 4)).bind fun t124 => (if (wrap64 (t123 * (t124.length : Int))) = 8 then (lockstitchlaw13_ClassWhole.l0 k a0 (Int.tmod (wrap64 (a1)) 4) t123 t124 0) else (some false)))) else (some false))) = some r := h
  clear h
  replace H := Option.bind_eq_some_iff.mp H
  obtain ⟨t122, A30, H⟩ := H
  replace H : (if t122 = true then ((class_Words.f (Int.tmod (wrap64 (a1)) 4)).bind fun t123 => ((class_Blocks.f k (wrap64 (a0)) (Int.tmod (wrap64 (a1)) 4)).bind fun t124 => (if (wrap64 (t123 * (t124.length : Int))) = 8 then (lockstitchlaw13_ClassWhole.l0 k a0 (Int.tmod (wrap64 (a1)) 4) t123 t124 0) else (some false)))) else (some false)) = some r := H
  have A3 := Aside0.mk A30
  clear A30
  by_cases c4 : t122 = true
  · subst c4
    have H1 : ((class_Words.f (Int.tmod (wrap64 (a1)) 4)).bind fun t123 => ((class_Blocks.f k (wrap64 (a0)) (Int.tmod (wrap64 (a1)) 4)).bind fun t124 => (if (wrap64 (t123 * (t124.length : Int))) = 8 then (lockstitchlaw13_ClassWhole.l0 k a0 (Int.tmod (wrap64 (a1)) 4) t123 t124 0) else (some false)))) = some r := by rw [if_pos rfl] at H; exact H
    clear H
    have H := H1
    clear H1
    replace H := Option.bind_eq_some_iff.mp H
    obtain ⟨t123, A50, H⟩ := H
    replace H : ((class_Blocks.f k (wrap64 (a0)) (Int.tmod (wrap64 (a1)) 4)).bind fun t124 => (if (wrap64 (t123 * (t124.length : Int))) = 8 then (lockstitchlaw13_ClassWhole.l0 k a0 (Int.tmod (wrap64 (a1)) 4) t123 t124 0) else (some false))) = some r := H
    have A5 := Aside0.mk A50
    clear A50
    replace H := Option.bind_eq_some_iff.mp H
    obtain ⟨t124, A60, H⟩ := H
    replace H : (if (wrap64 (t123 * (t124.length : Int))) = 8 then (lockstitchlaw13_ClassWhole.l0 k a0 (Int.tmod (wrap64 (a1)) 4) t123 t124 0) else (some false)) = some r := H
    have A6 := Aside0.mk A60
    clear A60
    by_cases c7 : (wrap64 (t123 * (t124.length : Int))) = 8
    · rw [if_pos c7] at H
      have c7b0 : ((wrap64 (t123 * (t124.length : Int))) == 8) = true := beq_iff_eq.mpr c7
      have c7b1 : ((wrap64 (t123 * (t124.length : Int))) != 8) = false := bne_eq_false_iff_eq.mpr c7
      clear c7
      have H' := Aside0.mk H
      clear H
      go_enter Try.func4, Try.ntmps4
      go_wp2_with (first | ((with_reducible refine gate_callee (f := 13) rfl ?_); refine goesL_ (some 14) rfl rfl Try.func13 (by kernel_rfl) rfl #[] rfl (by (try simp only [List.map_toArray, List.map_cons, List.map_nil]); first | done | rfl | (simp only [List.length_drop, List.length_take]; rfl)) ?_; (with_reducible refine (lockstitchlaw13_alive.calls k  true _ A3.out).mono ?_); rintro e w8 ⟨rfl, hb⟩; refine ⟨_, rfl, ?_⟩; have n0_ := Aside0.mk (below_step (by repeat (first | (with_reducible first | exact HB.out | apply below_alloc | apply pw_below_drewN | apply below_drew1) | exact HB.out)) hb); clear HB; have HB := n0_; clear n0_; (try clear hb); (try clear hb2); (try clear hk); (try clear hi)) | ((with_reducible refine gate_callee (f := 16) rfl ?_); refine goesL_ (some 20) rfl rfl Try.func16 (by kernel_rfl) rfl #[.int .i64 (Int.tmod (wrap64 (a1)) 4)] rfl (by (try simp only [List.map_toArray, List.map_cons, List.map_nil]); first | done | rfl | (simp only [List.length_drop, List.length_take]; rfl)) ?_; (with_reducible refine (class_Words.calls (Int.tmod (wrap64 (a1)) 4) t123 _ A5.out).mono ?_); rintro e w' ⟨rfl, ⟨nd, rfl⟩⟩; refine ⟨_, rfl, ?_⟩) | ((with_reducible refine gate_callee (f := 19) rfl ?_); refine goesL_ (some 24) rfl rfl Try.func19 (by kernel_rfl) rfl #[.int .i64 (wrap64 (a0)), .int .i64 (Int.tmod (wrap64 (a1)) 4)] rfl (by (try simp only [List.map_toArray, List.map_cons, List.map_nil]); first | done | rfl | (simp only [List.length_drop, List.length_take]; rfl)) ?_; (with_reducible refine (class_Blocks.calls k (wrap64 (a0)) (Int.tmod (wrap64 (a1)) 4) t124 _ A6.out).mono ?_); rintro e w9 ⟨v125, rfl, ho0, hb⟩; refine ⟨_, rfl, ?_⟩; have n0_ := Aside0.mk (Kd.R_lower ho0 (below_size (by repeat (first | (with_reducible first | exact HB.out | apply below_alloc | apply pw_below_drewN | apply below_drew1) | exact HB.out)))); have n1_ := Aside0.mk (below_step (by repeat (first | (with_reducible first | exact HB.out | apply below_alloc | apply pw_below_drewN | apply below_drew1) | exact HB.out)) hb); clear HB; have HO126 := n0_; have HB := n1_; clear n0_ n1_; (try clear hb); (try clear hb2); (try clear hk); (try clear hi); (try clear ho0); obtain ⟨Ao10, co10, eo10⟩ := Kd.R_slice HO126.out; subst eo10))
      go_loopg [30] k (fun kq v30 w' => ∃ (x30_1 : Int), v30 = .int .i64 x30_1 ∧ Aside0 (lockstitchlaw13_ClassWhole.l0 kq a0 (Int.tmod (wrap64 (a1)) 4) t123 t124 x30_1 = some r) ∧ Aside0 (kq ≤ k) ∧ Aside0 (Kd.R (Kd.int .i64) 3 w' w.heap.size (fun _ => True) (.slice Ao10 t124.length co10) t124) ∧ Aside0 (Below w.heap.size w w'))
      case atStart => exact ⟨(0), (by first | rfl | (simp; done) | (simp [*]; done)), H', ⟨Nat.le_refl _⟩, ⟨by (with_reducible repeat (first | apply Kd.R_alloc | apply Kd.R_drewN | apply Kd.R_drew)); exact HO126.out⟩, ⟨by repeat (first | (with_reducible first | exact HB.out | apply below_alloc | apply pw_below_drewN | apply below_drew1) | exact HB.out)⟩⟩
      case round =>
        clear H'
        try clear c1
        try clear p2
        try clear c4
        try clear p6
        try clear c7
        try clear c7b0
        try clear c7b1
        obtain ⟨x30_1, rfl, HA, HK1, HO_7, HB⟩ := hrel
        cases gk with
        | zero => exact absurd HA.out (by simp [lockstitchlaw13_ClassWhole.l0])
        | succ k1 =>
          have H := HA.out
          clear HA
          simp only [lockstitchlaw13_ClassWhole.l0] at H
          by_cases c11 : x30_1 < 8
          · rw [if_pos c11] at H
            have c11b0 : decide (x30_1 < 8) = true := decide_eq_true c11
            clear c11
            have H' := Aside0.mk H
            clear H
            go_wp2
            go_loopg [10, 11, 41] k1 (fun kq v10 v11 v41 w' => ∃ (x10_2 : Int) (x11_2 : Bool) (x41_2 : Int), v10 = .int .i64 x10_2 ∧ v11 = .bool x11_2 ∧ v41 = .int .i64 x41_2 ∧ Aside0 (lockstitchlaw13_ClassWhole.l1 kq a0 (Int.tmod (wrap64 (a1)) 4) t123 t124 (wrap64 ((wrap64 ((wrap64 (8 * (wrap64 (a0)))) + 1)) + x30_1)) x10_2 x11_2 x30_1 t124 (t124.length : Int) x41_2 = some r) ∧ Aside0 (kq ≤ k1) ∧ Aside0 (Kd.R (Kd.int .i64) 3 w' w.heap.size (fun _ => True) (.slice Ao10 t124.length co10) t124) ∧ Aside0 (Kd.R (Kd.int .i64) 3 w' w.heap.size (fun _ => True) (.slice Ao10 t124.length co10) t124) ∧ Aside0 (Below w.heap.size w w'))
            case atStart => exact ⟨(0), (false), (0), (by first | rfl | (simp; done) | (simp [*]; done)), (by first | rfl | (simp; done) | (simp [*]; done)), (by first | rfl | (simp; done) | (simp [*]; done)), H', ⟨Nat.le_refl _⟩, ⟨by (with_reducible repeat (first | apply Kd.R_alloc | apply Kd.R_drewN | apply Kd.R_drew)); exact HO_7.out⟩, ⟨by (with_reducible repeat (first | apply Kd.R_alloc | apply Kd.R_drewN | apply Kd.R_drew)); exact HO_7.out⟩, ⟨by repeat (first | (with_reducible first | exact HB.out | apply below_alloc | apply pw_below_drewN | apply below_drew1) | exact HB.out)⟩⟩
            case round =>
              clear H'
              try clear c1
              try clear p2
              try clear c4
              try clear p6
              try clear c7
              try clear c7b0
              try clear c7b1
              try clear c11
              try clear c11b0
              try clear p2
              try clear p6
              obtain ⟨x10_2, x11_2, x41_2, rfl, rfl, rfl, HA, HK2, HO_7, HO_39, HB⟩ := hrel
              cases gk with
              | zero => exact absurd HA.out (by simp [lockstitchlaw13_ClassWhole.l1])
              | succ k2 =>
                have H := HA.out
                clear HA
                simp only [lockstitchlaw13_ClassWhole.l1] at H
                by_cases c12 : x41_2 < (t124.length : Int)
                · rw [if_pos c12] at H
                  have c12b0 : decide (x41_2 < (t124.length : Int)) = true := decide_eq_true c12
                  clear c12
                  by_cases c13 : 0 ≤ x41_2
                  · rw [if_pos c13] at H
                    have c13b0 : decide (0 ≤ x41_2) = true := decide_eq_true c13
                    clear c13
                    by_cases c14 : x41_2 < (t124.length : Int)
                    · rw [if_pos c14] at H
                      have c14b0 : decide (x41_2 < (t124.length : Int)) = true := decide_eq_true c14
                      clear c14
                      by_cases c15 : (wrap64 ((wrap64 ((wrap64 (8 * (wrap64 (a0)))) + 1)) + x30_1)) ≥ (rd t124 x41_2)
                      · rw [if_pos c15] at H
                        have c15b0 : decide ((rd t124 x41_2) ≤ (wrap64 ((wrap64 ((wrap64 (8 * (wrap64 (a0)))) + 1)) + x30_1))) = true := decide_eq_true c15
                        clear c15
                        by_cases c16 : (wrap64 ((wrap64 ((wrap64 (8 * (wrap64 (a0)))) + 1)) + x30_1)) < (wrap64 ((rd t124 x41_2) + t123))
                        · rw [if_pos c16] at H
                          have c16b0 : decide ((wrap64 ((wrap64 ((wrap64 (8 * (wrap64 (a0)))) + 1)) + x30_1)) < (wrap64 ((rd t124 x41_2) + t123))) = true := decide_eq_true c16
                          clear c16
                          by_cases c17 : x11_2 = true
                          · subst c17
                            have H1 : (lockstitchlaw13_ClassWhole.l1 k2 a0 (Int.tmod (wrap64 (a1)) 4) t123 t124 (wrap64 ((wrap64 ((wrap64 (8 * (wrap64 (a0)))) + 1)) + x30_1)) (wrap64 (x10_2 + 1)) true x30_1 t124 (t124.length : Int) (wrap64 (x41_2 + 1))) = some r := by rw [if_pos rfl] at H; exact H
                            clear H
                            have H := H1
                            clear H1
                            have H' := Aside0.mk H
                            clear H
                            have p127 : 0 ≤ (x41_2 : Int) := of_decide_eq_true (by first | (with_reducible assumption) | assumption)
                            have q127 : x41_2 < (t124.length : Int) := of_decide_eq_true (by first | (with_reducible assumption) | assumption)
                            obtain ⟨ad127, e127, hx127_0⟩ := Kd.at_int (Kd.R_reads' HO_39.out).2.2 x41_2 p127 q127
                            cases e127
                            replace p127 := eq_true p127
                            replace q127 := eq_true q127
                            go_wp2
                            go_roundg k2
                            case measure => have := HK1.out; have := HK2.out; omega
                            case rel => exact ⟨(wrap64 (x10_2 + 1)), (true), (wrap64 (x41_2 + 1)), (by first | rfl | (simp; done) | (simp [*]; done)), (by first | rfl | (simp; done) | (simp [*]; done)), (by first | rfl | (simp; done) | (simp [*]; done)), H', ⟨by have := HK1.out; have := HK2.out; omega⟩, ⟨by (with_reducible repeat (first | apply Kd.R_alloc | apply Kd.R_drewN | apply Kd.R_drew)); exact HO_7.out⟩, ⟨by (with_reducible repeat (first | apply Kd.R_alloc | apply Kd.R_drewN | apply Kd.R_drew)); exact HO_39.out⟩, ⟨by repeat (first | (with_reducible first | exact HB.out | apply below_alloc | apply pw_below_drewN | apply below_drew1) | exact HB.out)⟩⟩
                          · replace c17 := Bool.eq_false_iff.mpr c17
                            subst c17
                            have H1 : (lockstitchlaw13_ClassWhole.l1 k2 a0 (Int.tmod (wrap64 (a1)) 4) t123 t124 (wrap64 ((wrap64 ((wrap64 (8 * (wrap64 (a0)))) + 1)) + x30_1)) (wrap64 (x10_2 + 1)) ((rd t124 x41_2) == (wrap64 ((wrap64 ((wrap64 (8 * (wrap64 (a0)))) + 1)) + x30_1))) x30_1 t124 (t124.length : Int) (wrap64 (x41_2 + 1))) = some r := by rw [if_neg (show ¬ (false = true) by decide)] at H; exact H
                            clear H
                            have H := H1
                            clear H1
                            have H' := Aside0.mk H
                            clear H
                            have p127 : 0 ≤ (x41_2 : Int) := of_decide_eq_true (by first | (with_reducible assumption) | assumption)
                            have q127 : x41_2 < (t124.length : Int) := of_decide_eq_true (by first | (with_reducible assumption) | assumption)
                            obtain ⟨ad127, e127, hx127_0⟩ := Kd.at_int (Kd.R_reads' HO_39.out).2.2 x41_2 p127 q127
                            cases e127
                            replace p127 := eq_true p127
                            replace q127 := eq_true q127
                            go_wp2
                            go_roundg k2
                            case measure => have := HK1.out; have := HK2.out; omega
                            case rel => exact ⟨(wrap64 (x10_2 + 1)), (((rd t124 x41_2) == (wrap64 ((wrap64 ((wrap64 (8 * (wrap64 (a0)))) + 1)) + x30_1)))), (wrap64 (x41_2 + 1)), (by first | rfl | (simp; done) | (simp [*]; done)), (by first | rfl | (simp; done) | (simp [*]; done)), (by first | rfl | (simp; done) | (simp [*]; done)), H', ⟨by have := HK1.out; have := HK2.out; omega⟩, ⟨by (with_reducible repeat (first | apply Kd.R_alloc | apply Kd.R_drewN | apply Kd.R_drew)); exact HO_7.out⟩, ⟨by (with_reducible repeat (first | apply Kd.R_alloc | apply Kd.R_drewN | apply Kd.R_drew)); exact HO_39.out⟩, ⟨by repeat (first | (with_reducible first | exact HB.out | apply below_alloc | apply pw_below_drewN | apply below_drew1) | exact HB.out)⟩⟩
                        · rw [if_neg c16] at H
                          have c16b0 : decide ((wrap64 ((wrap64 ((wrap64 (8 * (wrap64 (a0)))) + 1)) + x30_1)) < (wrap64 ((rd t124 x41_2) + t123))) = false := decide_eq_false c16
                          clear c16
                          by_cases c18 : x11_2 = true
                          · subst c18
                            have H1 : (lockstitchlaw13_ClassWhole.l1 k2 a0 (Int.tmod (wrap64 (a1)) 4) t123 t124 (wrap64 ((wrap64 ((wrap64 (8 * (wrap64 (a0)))) + 1)) + x30_1)) x10_2 true x30_1 t124 (t124.length : Int) (wrap64 (x41_2 + 1))) = some r := by rw [if_pos rfl] at H; exact H
                            clear H
                            have H := H1
                            clear H1
                            have H' := Aside0.mk H
                            clear H
                            have p127 : 0 ≤ (x41_2 : Int) := of_decide_eq_true (by first | (with_reducible assumption) | assumption)
                            have q127 : x41_2 < (t124.length : Int) := of_decide_eq_true (by first | (with_reducible assumption) | assumption)
                            obtain ⟨ad127, e127, hx127_0⟩ := Kd.at_int (Kd.R_reads' HO_39.out).2.2 x41_2 p127 q127
                            cases e127
                            replace p127 := eq_true p127
                            replace q127 := eq_true q127
                            go_wp2
                            go_roundg k2
                            case measure => have := HK1.out; have := HK2.out; omega
                            case rel => exact ⟨(x10_2), (true), (wrap64 (x41_2 + 1)), (by first | rfl | (simp; done) | (simp [*]; done)), (by first | rfl | (simp; done) | (simp [*]; done)), (by first | rfl | (simp; done) | (simp [*]; done)), H', ⟨by have := HK1.out; have := HK2.out; omega⟩, ⟨by (with_reducible repeat (first | apply Kd.R_alloc | apply Kd.R_drewN | apply Kd.R_drew)); exact HO_7.out⟩, ⟨by (with_reducible repeat (first | apply Kd.R_alloc | apply Kd.R_drewN | apply Kd.R_drew)); exact HO_39.out⟩, ⟨by repeat (first | (with_reducible first | exact HB.out | apply below_alloc | apply pw_below_drewN | apply below_drew1) | exact HB.out)⟩⟩
                          · replace c18 := Bool.eq_false_iff.mpr c18
                            subst c18
                            have H1 : (lockstitchlaw13_ClassWhole.l1 k2 a0 (Int.tmod (wrap64 (a1)) 4) t123 t124 (wrap64 ((wrap64 ((wrap64 (8 * (wrap64 (a0)))) + 1)) + x30_1)) x10_2 ((rd t124 x41_2) == (wrap64 ((wrap64 ((wrap64 (8 * (wrap64 (a0)))) + 1)) + x30_1))) x30_1 t124 (t124.length : Int) (wrap64 (x41_2 + 1))) = some r := by rw [if_neg (show ¬ (false = true) by decide)] at H; exact H
                            clear H
                            have H := H1
                            clear H1
                            have H' := Aside0.mk H
                            clear H
                            have p127 : 0 ≤ (x41_2 : Int) := of_decide_eq_true (by first | (with_reducible assumption) | assumption)
                            have q127 : x41_2 < (t124.length : Int) := of_decide_eq_true (by first | (with_reducible assumption) | assumption)
                            obtain ⟨ad127, e127, hx127_0⟩ := Kd.at_int (Kd.R_reads' HO_39.out).2.2 x41_2 p127 q127
                            cases e127
                            replace p127 := eq_true p127
                            replace q127 := eq_true q127
                            go_wp2
                            go_roundg k2
                            case measure => have := HK1.out; have := HK2.out; omega
                            case rel => exact ⟨(x10_2), (((rd t124 x41_2) == (wrap64 ((wrap64 ((wrap64 (8 * (wrap64 (a0)))) + 1)) + x30_1)))), (wrap64 (x41_2 + 1)), (by first | rfl | (simp; done) | (simp [*]; done)), (by first | rfl | (simp; done) | (simp [*]; done)), (by first | rfl | (simp; done) | (simp [*]; done)), H', ⟨by have := HK1.out; have := HK2.out; omega⟩, ⟨by (with_reducible repeat (first | apply Kd.R_alloc | apply Kd.R_drewN | apply Kd.R_drew)); exact HO_7.out⟩, ⟨by (with_reducible repeat (first | apply Kd.R_alloc | apply Kd.R_drewN | apply Kd.R_drew)); exact HO_39.out⟩, ⟨by repeat (first | (with_reducible first | exact HB.out | apply below_alloc | apply pw_below_drewN | apply below_drew1) | exact HB.out)⟩⟩
                      · rw [if_neg c15] at H
                        have c15b0 : decide ((rd t124 x41_2) ≤ (wrap64 ((wrap64 ((wrap64 (8 * (wrap64 (a0)))) + 1)) + x30_1))) = false := decide_eq_false c15
                        clear c15
                        by_cases c19 : x11_2 = true
                        · subst c19
                          have H1 : (lockstitchlaw13_ClassWhole.l1 k2 a0 (Int.tmod (wrap64 (a1)) 4) t123 t124 (wrap64 ((wrap64 ((wrap64 (8 * (wrap64 (a0)))) + 1)) + x30_1)) x10_2 true x30_1 t124 (t124.length : Int) (wrap64 (x41_2 + 1))) = some r := by rw [if_pos rfl] at H; exact H
                          clear H
                          have H := H1
                          clear H1
                          have H' := Aside0.mk H
                          clear H
                          have p127 : 0 ≤ (x41_2 : Int) := of_decide_eq_true (by first | (with_reducible assumption) | assumption)
                          have q127 : x41_2 < (t124.length : Int) := of_decide_eq_true (by first | (with_reducible assumption) | assumption)
                          obtain ⟨ad127, e127, hx127_0⟩ := Kd.at_int (Kd.R_reads' HO_39.out).2.2 x41_2 p127 q127
                          cases e127
                          replace p127 := eq_true p127
                          replace q127 := eq_true q127
                          go_wp2
                          go_roundg k2
                          case measure => have := HK1.out; have := HK2.out; omega
                          case rel => exact ⟨(x10_2), (true), (wrap64 (x41_2 + 1)), (by first | rfl | (simp; done) | (simp [*]; done)), (by first | rfl | (simp; done) | (simp [*]; done)), (by first | rfl | (simp; done) | (simp [*]; done)), H', ⟨by have := HK1.out; have := HK2.out; omega⟩, ⟨by (with_reducible repeat (first | apply Kd.R_alloc | apply Kd.R_drewN | apply Kd.R_drew)); exact HO_7.out⟩, ⟨by (with_reducible repeat (first | apply Kd.R_alloc | apply Kd.R_drewN | apply Kd.R_drew)); exact HO_39.out⟩, ⟨by repeat (first | (with_reducible first | exact HB.out | apply below_alloc | apply pw_below_drewN | apply below_drew1) | exact HB.out)⟩⟩
                        · replace c19 := Bool.eq_false_iff.mpr c19
                          subst c19
                          have H1 : (lockstitchlaw13_ClassWhole.l1 k2 a0 (Int.tmod (wrap64 (a1)) 4) t123 t124 (wrap64 ((wrap64 ((wrap64 (8 * (wrap64 (a0)))) + 1)) + x30_1)) x10_2 ((rd t124 x41_2) == (wrap64 ((wrap64 ((wrap64 (8 * (wrap64 (a0)))) + 1)) + x30_1))) x30_1 t124 (t124.length : Int) (wrap64 (x41_2 + 1))) = some r := by rw [if_neg (show ¬ (false = true) by decide)] at H; exact H
                          clear H
                          have H := H1
                          clear H1
                          have H' := Aside0.mk H
                          clear H
                          have p127 : 0 ≤ (x41_2 : Int) := of_decide_eq_true (by first | (with_reducible assumption) | assumption)
                          have q127 : x41_2 < (t124.length : Int) := of_decide_eq_true (by first | (with_reducible assumption) | assumption)
                          obtain ⟨ad127, e127, hx127_0⟩ := Kd.at_int (Kd.R_reads' HO_39.out).2.2 x41_2 p127 q127
                          cases e127
                          replace p127 := eq_true p127
                          replace q127 := eq_true q127
                          go_wp2
                          go_roundg k2
                          case measure => have := HK1.out; have := HK2.out; omega
                          case rel => exact ⟨(x10_2), (((rd t124 x41_2) == (wrap64 ((wrap64 ((wrap64 (8 * (wrap64 (a0)))) + 1)) + x30_1)))), (wrap64 (x41_2 + 1)), (by first | rfl | (simp; done) | (simp [*]; done)), (by first | rfl | (simp; done) | (simp [*]; done)), (by first | rfl | (simp; done) | (simp [*]; done)), H', ⟨by have := HK1.out; have := HK2.out; omega⟩, ⟨by (with_reducible repeat (first | apply Kd.R_alloc | apply Kd.R_drewN | apply Kd.R_drew)); exact HO_7.out⟩, ⟨by (with_reducible repeat (first | apply Kd.R_alloc | apply Kd.R_drewN | apply Kd.R_drew)); exact HO_39.out⟩, ⟨by repeat (first | (with_reducible first | exact HB.out | apply below_alloc | apply pw_below_drewN | apply below_drew1) | exact HB.out)⟩⟩
                    · rw [if_neg c14] at H
                      exact absurd H (by simp)
                  · rw [if_neg c13] at H
                    exact absurd H (by simp)
                · rw [if_neg c12] at H
                  have c12b0 : decide (x41_2 < (t124.length : Int)) = false := decide_eq_false c12
                  clear c12
                  by_cases c20 : x10_2 = 1
                  · rw [if_pos c20] at H
                    have c20b0 : (x10_2 == 1) = true := beq_iff_eq.mpr c20
                    have c20b1 : (x10_2 != 1) = false := bne_eq_false_iff_eq.mpr c20
                    clear c20
                    replace H := Option.bind_eq_some_iff.mp H
                    obtain ⟨t128, A210, H⟩ := H
                    replace H : (if (t128 != x11_2) = true then (some false) else ((class_In.f (wrap64 ((wrap64 ((wrap64 (8 * (wrap64 (a0)))) + 1)) + x30_1))).bind fun t129 => (if t129 = (wrap64 (a0)) then (lockstitchlaw13_ClassWhole.l0 k2 a0 (Int.tmod (wrap64 (a1)) 4) t123 t124 (wrap64 (x30_1 + 1))) else (some false)))) = some r := H
                    have A21 := Aside0.mk A210
                    clear A210
                    by_cases c22 : (t128 != x11_2) = true
                    · rw [if_pos c22] at H
                      have c22b0 : (t128 != x11_2) = true := c22
                      (try (have c22b1 : decide (t128 = x11_2) = false := by simpa using c22))
                      (try (have c22b2 : (t128 == x11_2) = false := by simpa using c22))
                      (try (have c22b3 : ¬ (t128 = x11_2) := by simpa using c22))
                      clear c22
                      obtain rfl := Option.some.inj H
                      go_wp2_with (first | (go_at_call 23; (with_reducible refine (class_Begins.calls (wrap64 ((wrap64 ((wrap64 (8 * (wrap64 (a0)))) + 1)) + x30_1)) (Int.tmod (wrap64 (a1)) 4) t128 _ A21.out).mono ?_); rintro e w' ⟨rfl, ⟨nd, rfl⟩⟩))
                      go_ret
                      exact ⟨by first | rfl | (simp [errW_none, errW_some] <;> rfl) | (simp [*, errW_none, errW_some] <;> rfl), by repeat (first | (with_reducible first | exact HB.out | apply below_alloc | apply pw_below_drewN | apply below_drew1) | exact HB.out)⟩
                    · rw [if_neg c22] at H
                      have c22b0 : (t128 != x11_2) = false := by simpa using c22
                      (try (have c22b1 : decide (t128 = x11_2) = true := by simpa using c22))
                      (try (have c22b2 : (t128 == x11_2) = true := by simpa using c22))
                      clear c22
                      replace H := Option.bind_eq_some_iff.mp H
                      obtain ⟨t129, A230, H⟩ := H
                      replace H : (if t129 = (wrap64 (a0)) then (lockstitchlaw13_ClassWhole.l0 k2 a0 (Int.tmod (wrap64 (a1)) 4) t123 t124 (wrap64 (x30_1 + 1))) else (some false)) = some r := H
                      have A23 := Aside0.mk A230
                      clear A230
                      by_cases c24 : t129 = (wrap64 (a0))
                      · rw [if_pos c24] at H
                        have c24b0 : (t129 == (wrap64 (a0))) = true := beq_iff_eq.mpr c24
                        have c24b1 : (t129 != (wrap64 (a0))) = false := bne_eq_false_iff_eq.mpr c24
                        clear c24
                        have H' := Aside0.mk H
                        clear H
                        go_wp2_with (first | (go_at_call 23; (with_reducible refine (class_Begins.calls (wrap64 ((wrap64 ((wrap64 (8 * (wrap64 (a0)))) + 1)) + x30_1)) (Int.tmod (wrap64 (a1)) 4) t128 _ A21.out).mono ?_); rintro e w' ⟨rfl, ⟨nd, rfl⟩⟩) | (go_at_call 21; (with_reducible refine (class_In.calls (wrap64 ((wrap64 ((wrap64 (8 * (wrap64 (a0)))) + 1)) + x30_1)) t129 _ A23.out).mono ?_); rintro e w' ⟨rfl, ⟨nd, rfl⟩⟩))
                        go_roundg k2
                        case measure => have := HK1.out; have := HK2.out; omega
                        case rel => exact ⟨(wrap64 (x30_1 + 1)), (by first | rfl | (simp; done) | (simp [*]; done)), H', ⟨by have := HK1.out; have := HK2.out; omega⟩, ⟨by (with_reducible repeat (first | apply Kd.R_alloc | apply Kd.R_drewN | apply Kd.R_drew)); exact HO_7.out⟩, ⟨by repeat (first | (with_reducible first | exact HB.out | apply below_alloc | apply pw_below_drewN | apply below_drew1) | exact HB.out)⟩⟩
                      · rw [if_neg c24] at H
                        have c24b0 : (t129 == (wrap64 (a0))) = false := beq_eq_false_iff_ne.mpr c24
                        have c24b1 : (t129 != (wrap64 (a0))) = true := bne_iff_ne.mpr c24
                        obtain rfl := Option.some.inj H
                        go_wp2_with (first | (go_at_call 23; (with_reducible refine (class_Begins.calls (wrap64 ((wrap64 ((wrap64 (8 * (wrap64 (a0)))) + 1)) + x30_1)) (Int.tmod (wrap64 (a1)) 4) t128 _ A21.out).mono ?_); rintro e w' ⟨rfl, ⟨nd, rfl⟩⟩) | (go_at_call 21; (with_reducible refine (class_In.calls (wrap64 ((wrap64 ((wrap64 (8 * (wrap64 (a0)))) + 1)) + x30_1)) t129 _ A23.out).mono ?_); rintro e w' ⟨rfl, ⟨nd, rfl⟩⟩))
                        go_ret
                        exact ⟨by first | rfl | (simp [errW_none, errW_some] <;> rfl) | (simp [*, errW_none, errW_some] <;> rfl), by repeat (first | (with_reducible first | exact HB.out | apply below_alloc | apply pw_below_drewN | apply below_drew1) | exact HB.out)⟩
                  · rw [if_neg c20] at H
                    have c20b0 : (x10_2 == 1) = false := beq_eq_false_iff_ne.mpr c20
                    have c20b1 : (x10_2 != 1) = true := bne_iff_ne.mpr c20
                    obtain rfl := Option.some.inj H
                    go_wp2
                    go_ret
                    exact ⟨by first | rfl | (simp [errW_none, errW_some] <;> rfl) | (simp [*, errW_none, errW_some] <;> rfl), by repeat (first | (with_reducible first | exact HB.out | apply below_alloc | apply pw_below_drewN | apply below_drew1) | exact HB.out)⟩
          · rw [if_neg c11] at H
            have c11b0 : decide (x30_1 < 8) = false := decide_eq_false c11
            clear c11
            obtain rfl := Option.some.inj H
            go_wp2
            go_ret
            exact ⟨by first | rfl | (simp [errW_none, errW_some] <;> rfl) | (simp [*, errW_none, errW_some] <;> rfl), by repeat (first | (with_reducible first | exact HB.out | apply below_alloc | apply pw_below_drewN | apply below_drew1) | exact HB.out)⟩
    · rw [if_neg c7] at H
      have c7b0 : ((wrap64 (t123 * (t124.length : Int))) == 8) = false := beq_eq_false_iff_ne.mpr c7
      have c7b1 : ((wrap64 (t123 * (t124.length : Int))) != 8) = true := bne_iff_ne.mpr c7
      obtain rfl := Option.some.inj H
      go_enter Try.func4, Try.ntmps4
      go_wp2_with (first | ((with_reducible refine gate_callee (f := 13) rfl ?_); refine goesL_ (some 14) rfl rfl Try.func13 (by kernel_rfl) rfl #[] rfl (by (try simp only [List.map_toArray, List.map_cons, List.map_nil]); first | done | rfl | (simp only [List.length_drop, List.length_take]; rfl)) ?_; (with_reducible refine (lockstitchlaw13_alive.calls k  true _ A3.out).mono ?_); rintro e w25 ⟨rfl, hb⟩; refine ⟨_, rfl, ?_⟩; have n0_ := Aside0.mk (below_step (by repeat (first | (with_reducible first | exact HB.out | apply below_alloc | apply pw_below_drewN | apply below_drew1) | exact HB.out)) hb); clear HB; have HB := n0_; clear n0_; (try clear hb); (try clear hb2); (try clear hk); (try clear hi)) | ((with_reducible refine gate_callee (f := 16) rfl ?_); refine goesL_ (some 20) rfl rfl Try.func16 (by kernel_rfl) rfl #[.int .i64 (Int.tmod (wrap64 (a1)) 4)] rfl (by (try simp only [List.map_toArray, List.map_cons, List.map_nil]); first | done | rfl | (simp only [List.length_drop, List.length_take]; rfl)) ?_; (with_reducible refine (class_Words.calls (Int.tmod (wrap64 (a1)) 4) t123 _ A5.out).mono ?_); rintro e w' ⟨rfl, ⟨nd, rfl⟩⟩; refine ⟨_, rfl, ?_⟩) | ((with_reducible refine gate_callee (f := 19) rfl ?_); refine goesL_ (some 24) rfl rfl Try.func19 (by kernel_rfl) rfl #[.int .i64 (wrap64 (a0)), .int .i64 (Int.tmod (wrap64 (a1)) 4)] rfl (by (try simp only [List.map_toArray, List.map_cons, List.map_nil]); first | done | rfl | (simp only [List.length_drop, List.length_take]; rfl)) ?_; (with_reducible refine (class_Blocks.calls k (wrap64 (a0)) (Int.tmod (wrap64 (a1)) 4) t124 _ A6.out).mono ?_); rintro e w26 ⟨v125, rfl, ho0, hb⟩; refine ⟨_, rfl, ?_⟩; have n0_ := Aside0.mk (Kd.R_lower ho0 (below_size (by repeat (first | (with_reducible first | exact HB.out | apply below_alloc | apply pw_below_drewN | apply below_drew1) | exact HB.out)))); have n1_ := Aside0.mk (below_step (by repeat (first | (with_reducible first | exact HB.out | apply below_alloc | apply pw_below_drewN | apply below_drew1) | exact HB.out)) hb); clear HB; have HO126 := n0_; have HB := n1_; clear n0_ n1_; (try clear hb); (try clear hb2); (try clear hk); (try clear hi); (try clear ho0); obtain ⟨Ao27, co27, eo27⟩ := Kd.R_slice HO126.out; subst eo27))
      go_ret
      exact ⟨by first | rfl | (simp [errW_none, errW_some] <;> rfl) | (simp [*, errW_none, errW_some] <;> rfl), by repeat (first | (with_reducible first | exact HB.out | apply below_alloc | apply pw_below_drewN | apply below_drew1) | exact HB.out)⟩
  · replace c4 := Bool.eq_false_iff.mpr c4
    subst c4
    have H1 : (some false) = some r := by rw [if_neg (show ¬ (false = true) by decide)] at H; exact H
    clear H
    have H := H1
    clear H1
    obtain rfl := Option.some.inj H
    go_enter Try.func4, Try.ntmps4
    go_wp2_with (first | ((with_reducible refine gate_callee (f := 13) rfl ?_); refine goesL_ (some 14) rfl rfl Try.func13 (by kernel_rfl) rfl #[] rfl (by (try simp only [List.map_toArray, List.map_cons, List.map_nil]); first | done | rfl | (simp only [List.length_drop, List.length_take]; rfl)) ?_; (with_reducible refine (lockstitchlaw13_alive.calls k  false _ A3.out).mono ?_); rintro e w28 ⟨rfl, hb⟩; refine ⟨_, rfl, ?_⟩; have n0_ := Aside0.mk (below_step (by repeat (first | (with_reducible first | exact HB.out | apply below_alloc | apply pw_below_drewN | apply below_drew1) | exact HB.out)) hb); clear HB; have HB := n0_; clear n0_; (try clear hb); (try clear hb2); (try clear hk); (try clear hi)))
    go_ret
    exact ⟨by first | rfl | (simp [errW_none, errW_some] <;> rfl) | (simp [*, errW_none, errW_some] <;> rfl), by repeat (first | (with_reducible first | exact HB.out | apply below_alloc | apply pw_below_drewN | apply below_drew1) | exact HB.out)⟩

/-- THE ONE PURE STATEMENT of lockstitchlaw13_ClassWhole: yours. -/
def lockstitchlaw13_ClassWhole.Pure : Prop := ∀ (a0 : Int) (a1 : Int), (Lit.int .u16 a0).wf = true → (Lit.int .u8 a1).wf = true → ∃ k, lockstitchlaw13_ClassWhole.f k a0 a1 = some true
theorem lockstitchlaw13_ClassWhole.walk (P : lockstitchlaw13_ClassWhole.Pure) (a0 : Int) (a1 : Int) (w : World) (w0 : (Lit.int .u16 a0).wf = true) (w1 : (Lit.int .u8 a1).wf = true) :
    Calls Try.prog 4 #[.int .u16 a0, .int .u8 a1] w fun e w' => e = .returned (.bool true) ∧ Below w.heap.size w w' := by
  obtain ⟨k, h⟩ := P a0 a1 w0 w1
  refine (lockstitchlaw13_ClassWhole.calls k a0 a1 true w h).mono ?_
  rintro e w' ⟨rfl, hd⟩
  exact ⟨rfl, hd⟩

end Go.Proofs.Ytlbjcaefemmjmaa.PClassWhole
