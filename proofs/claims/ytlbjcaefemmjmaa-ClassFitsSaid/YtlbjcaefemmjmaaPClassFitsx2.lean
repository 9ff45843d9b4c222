-- PRINTED BY print.sh 35421559b90ae4d0a3588c463048766b98c2df88dd9212a6774a882060cdf62d: not written by this session
import Derived.Test.YtlbjcaefemmjmaaPClassFitsx0
import Derived.Test.YtlbjcaefemmjmaaPClassFitsx1
namespace Go.Proofs.Ytlbjcaefemmjmaa.PClassFits
open Go.RowKit Go.Proofs.YtlbjcaefemmjmaaW.PrintWords Go.Proofs.YtlbjcaefemmjmaaW.PrintLast Go.Proofs.YtlbjcaefemmjmaaW.PrintMore
attribute [local go_sem] max2_int min2_int max_two min_two max_three min_three max_four min_four   -- for this text's walks alone
set_option linter.unusedVariables false
set_option linter.unusedSimpArgs false

/-! ### lockstitchlaw13_ClassFits: function 5 -/
def lockstitchlaw13_ClassFits.f (k : Nat) (a0 : Int) (a1 : Int) : Option (Bool) := (lockstitchlaw13_alive.f k).bind fun t122 => (if t122 = true then ((class_Of.f k (wrap64 ((wrap64 (Int.tmod a0 8)) + 1))).bind fun t123 => ((class_Words.f t123).bind fun t124 => (if t124 ≥ (wrap64 ((wrap64 (Int.tmod a0 8)) + 1)) then (if t123 = 0 then (if (wrap64 ((wrap64 (Int.tmod a0 8)) + 1)) > (wrap64 ((wrap64 (Int.tmod a1 8)) + 1)) then ((class_Words.f t123).bind fun t125 => (some (decide (t125 < (wrap64 (2 * (wrap64 ((wrap64 (Int.tmod a0 8)) + 1)))))))) else ((class_Of.f k (wrap64 ((wrap64 (Int.tmod a1 8)) + 1))).bind fun t126 => (if t123 ≤ t126 then ((class_Words.f t123).bind fun t127 => (some (decide (t127 < (wrap64 (2 * (wrap64 ((wrap64 (Int.tmod a0 8)) + 1)))))))) else (some false)))) else ((class_Words.f (wrap64 (t123 - 1))).bind fun t128 => (if t128 < (wrap64 ((wrap64 (Int.tmod a0 8)) + 1)) then (if (wrap64 ((wrap64 (Int.tmod a0 8)) + 1)) > (wrap64 ((wrap64 (Int.tmod a1 8)) + 1)) then ((class_Words.f t123).bind fun t129 => (some (decide (t129 < (wrap64 (2 * (wrap64 ((wrap64 (Int.tmod a0 8)) + 1)))))))) else ((class_Of.f k (wrap64 ((wrap64 (Int.tmod a1 8)) + 1))).bind fun t130 => (if t123 ≤ t130 then ((class_Words.f t123).bind fun t131 => (some (decide (t131 < (wrap64 (2 * (wrap64 ((wrap64 (Int.tmod a0 8)) + 1)))))))) else (some false)))) else (some false)))) else (some false)))) else (some false))
theorem lockstitchlaw13_ClassFits.mono : ∀ a0 a1 k, LeO (lockstitchlaw13_ClassFits.f k a0 a1) (lockstitchlaw13_ClassFits.f (k + 1) a0 a1) := by
  intro a0 a1 k
  unfold lockstitchlaw13_ClassFits.f
  repeat' first
      | (with_reducible exact class_Of.mono _ _)
      | (with_reducible exact lockstitchlaw13_alive.mono _)
      | (with_reducible exact LeO.refl _)
      | (with_reducible exact LeO.none _)
      | (with_reducible refine LeO.ite ?_ ?_)
      | (with_reducible refine LeO.bind ?_ (fun _ => ?_))
      | exact class_Of.mono _ _
      | exact lockstitchlaw13_alive.mono _
      | exact LeO.none _
      | refine LeO.ite ?_ ?_
      | refine LeO.bind ?_ (fun _ => ?_)
set_option maxHeartbeats 8000000 in
set_option maxRecDepth 100000 in
theorem lockstitchlaw13_ClassFits.calls (k : Nat) (a0 : Int) (a1 : Int) (r : Bool) (w : World) (h : lockstitchlaw13_ClassFits.f k a0 a1 = some r) :
    Calls Try.prog 5 #[.int .u8 a0, .int .u8 a1] w fun e w' => e = .returned (.bool r) ∧ Below w.heap.size w w' := by
  have HB := Aside0.mk (Below.refl w.heap.size w)
  have H : ((lockstitchlaw13_alive.f k).bind fun t122 => (if t122 = true then ((class_Of.f k (wrap64 ((wrap64 (Int.tmod a0 8)) + 1))).bind fun t123 => ((class_Words.f t123).bind fun t124 => (if t124 ≥ (wrap64 ((wrap64 (Int.tmod a0 8)) + 1)) then (if t123 = 0 then (if (wrap64 ((wrap64 (Int.tmod a0 8)) + 1)) > (wrap64 ((wrap64 (Int.tmod a1 8)) + 1)) then ((class_Words.f t123).bind fun t125 => (some (decide (t125 < (wrap64 (2 * (wrap64 ((wrap64 (Int.tmod a0 8)) + 1)))))))) else ((class_Of.f k (wrap64 ((wrap64 (Int.tmod a1 8)) + 1))).bind fun t126 => (if t123 ≤ t126 then ((class_Words.f t123).bind fun t127 => (some (decide (t127 < (wrap64 (2 * (wrap64 ((wrap64 (Int.tmod a0 8)) + 1)))))))) else (some false)))) else ((class_Words.f (wrap64 (t123 - 1))).bind fun t128 => (if t128 < (wrap64 ((wrap64 (Int.tmod a0 8)) + 1)) then (if (wrap64 ((wrap64 (Int.tmod a0 8)) + 1)) > (wrap64 ((wrap64 (Int.tmod a1 8)) + 1)) then ((class_Words.f t123).bind fun t129 => (some (decide (t129 < (wrap64 (2 * (wrap64 ((wrap64 (Int.tmod a0 8)) + 1)))))))) else ((class_Of.f k (wrap64 ((wrap64 (Int.tmod a1 8)) + 1))).bind fun t130 => (if t123 ≤ t130 then ((class_Words.f t123).bind fun t131 => (some (decide (t131 < (wrap64 (2 * (wrap64 ((wrap64 (Int.tmod a0 8)) + 1)))))))) else (some false)))) else (some false)))) else (some false)))) else (some false))) = some r := h
  clear h
  replace H := Option.bind_eq_some_iff.mp H
  obtain ⟨t122, A30, H⟩ := H
  replace H : (if t122 = true then ((class_Of.f k (wrap64 ((wrap64 (Int.tmod a0 8)) + 1))).bind fun t123 => ((class_Words.f t123).bind fun t124 => (if t124 ≥ (wrap64 ((wrap64 (Int.tmod a0 8)) + 1)) then (if t123 = 0 then (if (wrap64 ((wrap64 (Int.tmod a0 8)) + 1)) > (wrap64 ((wrap64 (Int.tmod a1 8)) + 1)) then ((class_Words.f t123).bind fun t125 => (some (decide (t125 < (wrap64 (2 * (wrap64 ((wrap64 (Int.tmod a0 8)) + 1)))))))) else ((class_Of.f k (wrap64 ((wrap64 (Int.tmod a1 8)) + 1))).bind fun t126 => (if t123 ≤ t126 then ((class_Words.f t123).bind fun t127 => (some (decide (t127 < (wrap64 (2 * (wrap64 ((wrap64 (Int.tmod a0 8)) + 1)))))))) else (some false)))) else ((class_Words.f (wrap64 (t123 - 1))).bind fun t128 => (if t128 < (wrap64 ((wrap64 (Int.tmod a0 8)) + 1)) then (if (wrap64 ((wrap64 (Int.tmod a0 8)) + 1)) > (wrap64 ((wrap64 (Int.tmod a1 8)) + 1)) then ((class_Words.f t123).bind fun t129 => (some (decide (t129 < (wrap64 (2 * (wrap64 ((wrap64 (Int.tmod a0 8)) + 1)))))))) else ((class_Of.f k (wrap64 ((wrap64 (Int.tmod a1 8)) + 1))).bind fun t130 => (if t123 ≤ t130 then ((class_Words.f t123).bind fun t131 => (some (decide (t131 < (wrap64 (2 * (wrap64 ((wrap64 (Int.tmod a0 8)) + 1)))))))) else (some false)))) else (some false)))) else (some false)))) else (some false)) = some r := H
  have A3 := Aside0.mk A30
  clear A30
  by_cases c4 : t122 = true
  · subst c4
    have H1 : ((class_Of.f k (wrap64 ((wrap64 (Int.tmod a0 8)) + 1))).bind fun t123 => ((class_Words.f t123).bind fun t124 => (if t124 ≥ (wrap64 ((wrap64 (Int.tmod a0 8)) + 1)) then (if t123 = 0 then (if (wrap64 ((wrap64 (Int.tmod a0 8)) + 1)) > (wrap64 ((wrap64 (Int.tmod a1 8)) + 1)) then ((class_Words.f t123).bind fun t125 => (some (decide (t125 < (wrap64 (2 * (wrap64 ((wrap64 (Int.tmod a0 8)) + 1)))))))) else ((class_Of.f k (wrap64 ((wrap64 (Int.tmod a1 8)) + 1))).bind fun t126 => (if t123 ≤ t126 then ((class_Words.f t123).bind fun t127 => (some (decide (t127 < (wrap64 (2 * (wrap64 ((wrap64 (Int.tmod a0 8)) + 1)))))))) else (some false)))) else ((class_Words.f (wrap64 (t123 - 1))).bind fun t128 => (if t128 < (wrap64 ((wrap64 (Int.tmod a0 8)) + 1)) then (if (wrap64 ((wrap64 (Int.tmod a0 8)) + 1)) > (wrap64 ((wrap64 (Int.tmod a1 8)) + 1)) then ((class_Words.f t123).bind fun t129 => (some (decide (t129 < (wrap64 (2 * (wrap64 ((wrap64 (Int.tmod a0 8)) + 1)))))))) else ((class_Of.f k (wrap64 ((wrap64 (Int.tmod a1 8)) + 1))).bind fun t130 => (if t123 ≤ t130 then ((class_Words.f t123).bind fun t131 => (some (decide (t131 < (wrap64 (2 * (wrap64 ((wrap64 (Int.tmod a0 8)) + 1)))))))) else (some false)))) else (some false)))) else (some false)))) = some r := by rw [if_pos rfl] at H; exact H
    clear H
    have H := H1
    clear H1
    replace H := Option.bind_eq_some_iff.mp H
    obtain ⟨t123, A50, H⟩ := H
    replace H : ((class_Words.f t123).bind fun t124 => (if t124 ≥ (wrap64 ((wrap64 (Int.tmod a0 8)) + 1)) then (if t123 = 0 then (if (wrap64 ((wrap64 (Int.tmod a0 8)) + 1)) > (wrap64 ((wrap64 (Int.tmod a1 8)) + 1)) then ((class_Words.f t123).bind fun t125 => (some (decide (t125 < (wrap64 (2 * (wrap64 ((wrap64 (Int.tmod a0 8)) + 1)))))))) else ((class_Of.f k (wrap64 ((wrap64 (Int.tmod a1 8)) + 1))).bind fun t126 => (if t123 ≤ t126 then ((class_Words.f t123).bind fun t127 => (some (decide (t127 < (wrap64 (2 * (wrap64 ((wrap64 (Int.tmod a0 8)) + 1)))))))) else (some false)))) else ((class_Words.f (wrap64 (t123 - 1))).bind fun t128 => (if t128 < (wrap64 ((wrap64 (Int.tmod a0 8)) + 1)) then (if (wrap64 ((wrap64 (Int.tmod a0 8)) + 1)) > (wrap64 ((wrap64 (Int.tmod a1 8)) + 1)) then ((class_Words.f t123).bind fun t129 => (some (decide (t129 < (wrap64 (2 * (wrap64 ((wrap64 (Int.tmod a0 8)) + 1)))))))) else ((class_Of.f k (wrap64 ((wrap64 (Int.tmod a1 8)) + 1))).bind fun t130 => (if t123 ≤ t130 then ((class_Words.f t123).bind fun t131 => (some (decide (t131 < (wrap64 (2 * (wrap64 ((wrap64 (Int.tmod a0 8)) + 1)))))))) else (some false)))) else (some false)))) else (some false))) = some r := H
    have A5 := Aside0.mk A50
    clear A50
    replace H := Option.bind_eq_some_iff.mp H
    obtain ⟨t124, A60, H⟩ := H
    replace H : (if t124 ≥ (wrap64 ((wrap64 (Int.tmod a0 8)) + 1)) then (if t123 = 0 then (if (wrap64 ((wrap64 (Int.tmod a0 8)) + 1)) > (wrap64 ((wrap64 (Int.tmod a1 8)) + 1)) then ((class_Words.f t123).bind fun t125 => (some (decide (t125 < (wrap64 (2 * (wrap64 ((wrap64 (Int.tmod a0 8)) + 1)))))))) else ((class_Of.f k (wrap64 ((wrap64 (Int.tmod a1 8)) + 1))).bind fun t126 => (if t123 ≤ t126 then ((class_Words.f t123).bind fun t127 => (some (decide (t127 < (wrap64 (2 * (wrap64 ((wrap64 (Int.tmod a0 8)) + 1)))))))) else (some false)))) else ((class_Words.f (wrap64 (t123 - 1))).bind fun t128 => (if t128 < (wrap64 ((wrap64 (Int.tmod a0 8)) + 1)) then (if (wrap64 ((wrap64 (Int.tmod a0 8)) + 1)) > (wrap64 ((wrap64 (Int.tmod a1 8)) + 1)) then ((class_Words.f t123).bind fun t129 => (some (decide (t129 < (wrap64 (2 * (wrap64 ((wrap64 (Int.tmod a0 8)) + 1)))))))) else ((class_Of.f k (wrap64 ((wrap64 (Int.tmod a1 8)) + 1))).bind fun t130 => (if t123 ≤ t130 then ((class_Words.f t123).bind fun t131 => (some (decide (t131 < (wrap64 (2 * (wrap64 ((wrap64 (Int.tmod a0 8)) + 1)))))))) else (some false)))) else (some false)))) else (some false)) = some r := H
    have A6 := Aside0.mk A60
    clear A60
    by_cases c7 : t124 ≥ (wrap64 ((wrap64 (Int.tmod a0 8)) + 1))
    · rw [if_pos c7] at H
      have c7b0 : decide ((wrap64 ((wrap64 (Int.tmod a0 8)) + 1)) ≤ t124) = true := decide_eq_true c7
      clear c7
      by_cases c8 : t123 = 0
      · rw [if_pos c8] at H
        have c8b0 : (t123 == 0) = true := beq_iff_eq.mpr c8
        have c8b1 : (t123 != 0) = false := bne_eq_false_iff_eq.mpr c8
        clear c8
        by_cases c9 : (wrap64 ((wrap64 (Int.tmod a0 8)) + 1)) > (wrap64 ((wrap64 (Int.tmod a1 8)) + 1))
        · rw [if_pos c9] at H
          have c9b0 : decide ((wrap64 ((wrap64 (Int.tmod a1 8)) + 1)) < (wrap64 ((wrap64 (Int.tmod a0 8)) + 1))) = true := decide_eq_true c9
          clear c9
          replace H := Option.bind_eq_some_iff.mp H
          obtain ⟨t125, A100, H⟩ := H
          replace H : (some (decide (t125 < (wrap64 (2 * (wrap64 ((wrap64 (Int.tmod a0 8)) + 1))))))) = some r := H
          have A10 := Aside0.mk A100
          clear A100
          obtain rfl := Option.some.inj H
          go_enter Try.func5, Try.ntmps5
          go_wp2_with (first | ((with_reducible refine gate_callee (f := 13) rfl ?_); refine goesL_ (some 8) rfl rfl Try.func13 (by kernel_rfl) rfl #[] rfl (by (try simp only [List.map_toArray, List.map_cons, List.map_nil]); first | done | rfl | (simp only [List.length_drop, List.length_take]; rfl)) ?_; (with_reducible refine (lockstitchlaw13_alive.calls k  true _ A3.out).mono ?_); rintro e w11 ⟨rfl, hb⟩; refine ⟨_, rfl, ?_⟩; have n0_ := Aside0.mk (below_step (by repeat (first | (with_reducible first | exact HB.out | apply below_alloc | apply pw_below_drewN | apply below_drew1) | exact HB.out)) hb); clear HB; have HB := n0_; clear n0_; (try clear hb); (try clear hb2); (try clear hk); (try clear hi)) | ((with_reducible refine gate_callee (f := 14) rfl ?_); refine goesL_ (some 19) rfl rfl Try.func14 (by kernel_rfl) rfl #[.int .i64 (wrap64 ((wrap64 (Int.tmod a0 8)) + 1))] rfl (by (try simp only [List.map_toArray, List.map_cons, List.map_nil]); first | done | rfl | (simp only [List.length_drop, List.length_take]; rfl)) ?_; (with_reducible refine (class_Of.calls k (wrap64 ((wrap64 (Int.tmod a0 8)) + 1)) t123 _ A5.out).mono ?_); rintro e w' ⟨rfl, ⟨nd, rfl⟩⟩; refine ⟨_, rfl, ?_⟩) | ((with_reducible refine gate_callee (f := 16) rfl ?_); refine goesL_ (some 21) rfl rfl Try.func16 (by kernel_rfl) rfl #[.int .i64 t123] rfl (by (try simp only [List.map_toArray, List.map_cons, List.map_nil]); first | done | rfl | (simp only [List.length_drop, List.length_take]; rfl)) ?_; (with_reducible refine (class_Words.calls t123 t124 _ A6.out).mono ?_); rintro e w' ⟨rfl, ⟨nd, rfl⟩⟩; refine ⟨_, rfl, ?_⟩) | (go_at_call 16; (with_reducible refine (class_Words.calls t123 t125 _ A10.out).mono ?_); rintro e w' ⟨rfl, ⟨nd, rfl⟩⟩))
          go_ret
          exact ⟨by first | rfl | (simp [errW_none, errW_some] <;> rfl) | (simp [*, errW_none, errW_some] <;> rfl), by repeat (first | (with_reducible first | exact HB.out | apply below_alloc | apply pw_below_drewN | apply below_drew1) | exact HB.out)⟩
        · rw [if_neg c9] at H
          have c9b0 : decide ((wrap64 ((wrap64 (Int.tmod a1 8)) + 1)) < (wrap64 ((wrap64 (Int.tmod a0 8)) + 1))) = false := decide_eq_false c9
          clear c9
          replace H := Option.bind_eq_some_iff.mp H
          obtain ⟨t126, A120, H⟩ := H
          replace H : (if t123 ≤ t126 then ((class_Words.f t123).bind fun t127 => (some (decide (t127 < (wrap64 (2 * (wrap64 ((wrap64 (Int.tmod a0 8)) + 1)))))))) else (some false)) = some r := H
          have A12 := Aside0.mk A120
          clear A120
          by_cases c13 : t123 ≤ t126
          · rw [if_pos c13] at H
            have c13b0 : decide (t123 ≤ t126) = true := decide_eq_true c13
            clear c13
            replace H := Option.bind_eq_some_iff.mp H
            obtain ⟨t127, A140, H⟩ := H
            replace H : (some (decide (t127 < (wrap64 (2 * (wrap64 ((wrap64 (Int.tmod a0 8)) + 1))))))) = some r := H
            have A14 := Aside0.mk A140
            clear A140
            obtain rfl := Option.some.inj H
            go_enter Try.func5, Try.ntmps5
            go_wp2_with (first | ((with_reducible refine gate_callee (f := 13) rfl ?_); refine goesL_ (some 8) rfl rfl Try.func13 (by kernel_rfl) rfl #[] rfl (by (try simp only [List.map_toArray, List.map_cons, List.map_nil]); first | done | rfl | (simp only [List.length_drop, List.length_take]; rfl)) ?_; (with_reducible refine (lockstitchlaw13_alive.calls k  true _ A3.out).mono ?_); rintro e w15 ⟨rfl, hb⟩; refine ⟨_, rfl, ?_⟩; have n0_ := Aside0.mk (below_step (by repeat (first | (with_reducible first | exact HB.out | apply below_alloc | apply pw_below_drewN | apply below_drew1) | exact HB.out)) hb); clear HB; have HB := n0_; clear n0_; (try clear hb); (try clear hb2); (try clear hk); (try clear hi)) | ((with_reducible refine gate_callee (f := 14) rfl ?_); refine goesL_ (some 19) rfl rfl Try.func14 (by kernel_rfl) rfl #[.int .i64 (wrap64 ((wrap64 (Int.tmod a0 8)) + 1))] rfl (by (try simp only [List.map_toArray, List.map_cons, List.map_nil]); first | done | rfl | (simp only [List.length_drop, List.length_take]; rfl)) ?_; (with_reducible refine (class_Of.calls k (wrap64 ((wrap64 (Int.tmod a0 8)) + 1)) t123 _ A5.out).mono ?_); rintro e w' ⟨rfl, ⟨nd, rfl⟩⟩; refine ⟨_, rfl, ?_⟩) | ((with_reducible refine gate_callee (f := 16) rfl ?_); refine goesL_ (some 21) rfl rfl Try.func16 (by kernel_rfl) rfl #[.int .i64 t123] rfl (by (try simp only [List.map_toArray, List.map_cons, List.map_nil]); first | done | rfl | (simp only [List.length_drop, List.length_take]; rfl)) ?_; (with_reducible refine (class_Words.calls t123 t124 _ A6.out).mono ?_); rintro e w' ⟨rfl, ⟨nd, rfl⟩⟩; refine ⟨_, rfl, ?_⟩) | (go_at_call 14; (with_reducible refine (class_Of.calls k (wrap64 ((wrap64 (Int.tmod a1 8)) + 1)) t126 _ A12.out).mono ?_); rintro e w' ⟨rfl, ⟨nd, rfl⟩⟩) | (go_at_call 16; (with_reducible refine (class_Words.calls t123 t127 _ A14.out).mono ?_); rintro e w' ⟨rfl, ⟨nd, rfl⟩⟩))
            go_ret
            exact ⟨by first | rfl | (simp [errW_none, errW_some] <;> rfl) | (simp [*, errW_none, errW_some] <;> rfl), by repeat (first | (with_reducible first | exact HB.out | apply below_alloc | apply pw_below_drewN | apply below_drew1) | exact HB.out)⟩
          · rw [if_neg c13] at H
            have c13b0 : decide (t123 ≤ t126) = false := decide_eq_false c13
            clear c13
            obtain rfl := Option.some.inj H
            go_enter Try.func5, Try.ntmps5
            go_wp2_with (first | ((with_reducible refine gate_callee (f := 13) rfl ?_); refine goesL_ (some 8) rfl rfl Try.func13 (by kernel_rfl) rfl #[] rfl (by (try simp only [List.map_toArray, List.map_cons, List.map_nil]); first | done | rfl | (simp only [List.length_drop, List.length_take]; rfl)) ?_; (with_reducible refine (lockstitchlaw13_alive.calls k  true _ A3.out).mono ?_); rintro e w16 ⟨rfl, hb⟩; refine ⟨_, rfl, ?_⟩; have n0_ := Aside0.mk (below_step (by repeat (first | (with_reducible first | exact HB.out | apply below_alloc | apply pw_below_drewN | apply below_drew1) | exact HB.out)) hb); clear HB; have HB := n0_; clear n0_; (try clear hb); (try clear hb2); (try clear hk); (try clear hi)) | ((with_reducible refine gate_callee (f := 14) rfl ?_); refine goesL_ (some 19) rfl rfl Try.func14 (by kernel_rfl) rfl #[.int .i64 (wrap64 ((wrap64 (Int.tmod a0 8)) + 1))] rfl (by (try simp only [List.map_toArray, List.map_cons, List.map_nil]); first | done | rfl | (simp only [List.length_drop, List.length_take]; rfl)) ?_; (with_reducible refine (class_Of.calls k (wrap64 ((wrap64 (Int.tmod a0 8)) + 1)) t123 _ A5.out).mono ?_); rintro e w' ⟨rfl, ⟨nd, rfl⟩⟩; refine ⟨_, rfl, ?_⟩) | ((with_reducible refine gate_callee (f := 16) rfl ?_); refine goesL_ (some 21) rfl rfl Try.func16 (by kernel_rfl) rfl #[.int .i64 t123] rfl (by (try simp only [List.map_toArray, List.map_cons, List.map_nil]); first | done | rfl | (simp only [List.length_drop, List.length_take]; rfl)) ?_; (with_reducible refine (class_Words.calls t123 t124 _ A6.out).mono ?_); rintro e w' ⟨rfl, ⟨nd, rfl⟩⟩; refine ⟨_, rfl, ?_⟩) | (go_at_call 14; (with_reducible refine (class_Of.calls k (wrap64 ((wrap64 (Int.tmod a1 8)) + 1)) t126 _ A12.out).mono ?_); rintro e w' ⟨rfl, ⟨nd, rfl⟩⟩))
            go_ret
            exact ⟨by first | rfl | (simp [errW_none, errW_some] <;> rfl) | (simp [*, errW_none, errW_some] <;> rfl), by repeat (first | (with_reducible first | exact HB.out | apply below_alloc | apply pw_below_drewN | apply below_drew1) | exact HB.out)⟩
      · rw [if_neg c8] at H
        have c8b0 : (t123 == 0) = false := beq_eq_false_iff_ne.mpr c8
        have c8b1 : (t123 != 0) = true := bne_iff_ne.mpr c8
        replace H := Option.bind_eq_some_iff.mp H
        obtain ⟨t128, A170, H⟩ := H
        replace H : (if t128 < (wrap64 ((wrap64 (Int.tmod a0 8)) + 1)) then (if (wrap64 ((wrap64 (Int.tmod a0 8)) + 1)) > (wrap64 ((wrap64 (Int.tmod a1 8)) + 1)) then ((class_Words.f t123).bind fun t129 => (some (decide (t129 < (wrap64 (2 * (wrap64 ((wrap64 (Int.tmod a0 8)) + 1)))))))) else ((class_Of.f k (wrap64 ((wrap64 (Int.tmod a1 8)) + 1))).bind fun t130 => (if t123 ≤ t130 then ((class_Words.f t123).bind fun t131 => (some (decide (t131 < (wrap64 (2 * (wrap64 ((wrap64 (Int.tmod a0 8)) + 1)))))))) else (some false)))) else (some false)) = some r := H
        have A17 := Aside0.mk A170
        clear A170
        by_cases c18 : t128 < (wrap64 ((wrap64 (Int.tmod a0 8)) + 1))
        · rw [if_pos c18] at H
          have c18b0 : decide (t128 < (wrap64 ((wrap64 (Int.tmod a0 8)) + 1))) = true := decide_eq_true c18
          clear c18
          by_cases c19 : (wrap64 ((wrap64 (Int.tmod a0 8)) + 1)) > (wrap64 ((wrap64 (Int.tmod a1 8)) + 1))
          · rw [if_pos c19] at H
            have c19b0 : decide ((wrap64 ((wrap64 (Int.tmod a1 8)) + 1)) < (wrap64 ((wrap64 (Int.tmod a0 8)) + 1))) = true := decide_eq_true c19
            clear c19
            replace H := Option.bind_eq_some_iff.mp H
            obtain ⟨t129, A200, H⟩ := H
            replace H : (some (decide (t129 < (wrap64 (2 * (wrap64 ((wrap64 (Int.tmod a0 8)) + 1))))))) = some r := H
            have A20 := Aside0.mk A200
            clear A200
            obtain rfl := Option.some.inj H
            go_enter Try.func5, Try.ntmps5
            go_wp2_with (first | ((with_reducible refine gate_callee (f := 13) rfl ?_); refine goesL_ (some 8) rfl rfl Try.func13 (by kernel_rfl) rfl #[] rfl (by (try simp only [List.map_toArray, List.map_cons, List.map_nil]); first | done | rfl | (simp only [List.length_drop, List.length_take]; rfl)) ?_; (with_reducible refine (lockstitchlaw13_alive.calls k  true _ A3.out).mono ?_); rintro e w21 ⟨rfl, hb⟩; refine ⟨_, rfl, ?_⟩; have n0_ := Aside0.mk (below_step (by repeat (first | (with_reducible first | exact HB.out | apply below_alloc | apply pw_below_drewN | apply below_drew1) | exact HB.out)) hb); clear HB; have HB := n0_; clear n0_; (try clear hb); (try clear hb2); (try clear hk); (try clear hi)) | ((with_reducible refine gate_callee (f := 14) rfl ?_); refine goesL_ (some 19) rfl rfl Try.func14 (by kernel_rfl) rfl #[.int .i64 (wrap64 ((wrap64 (Int.tmod a0 8)) + 1))] rfl (by (try simp only [List.map_toArray, List.map_cons, List.map_nil]); first | done | rfl | (simp only [List.length_drop, List.length_take]; rfl)) ?_; (with_reducible refine (class_Of.calls k (wrap64 ((wrap64 (Int.tmod a0 8)) + 1)) t123 _ A5.out).mono ?_); rintro e w' ⟨rfl, ⟨nd, rfl⟩⟩; refine ⟨_, rfl, ?_⟩) | ((with_reducible refine gate_callee (f := 16) rfl ?_); refine goesL_ (some 21) rfl rfl Try.func16 (by kernel_rfl) rfl #[.int .i64 t123] rfl (by (try simp only [List.map_toArray, List.map_cons, List.map_nil]); first | done | rfl | (simp only [List.length_drop, List.length_take]; rfl)) ?_; (with_reducible refine (class_Words.calls t123 t124 _ A6.out).mono ?_); rintro e w' ⟨rfl, ⟨nd, rfl⟩⟩; refine ⟨_, rfl, ?_⟩) | (go_at_call 16; (with_reducible refine (class_Words.calls (wrap64 (t123 - 1)) t128 _ A17.out).mono ?_); rintro e w' ⟨rfl, ⟨nd, rfl⟩⟩) | (go_at_call 16; (with_reducible refine (class_Words.calls t123 t129 _ A20.out).mono ?_); rintro e w' ⟨rfl, ⟨nd, rfl⟩⟩))
            go_ret
            exact ⟨by first | rfl | (simp [errW_none, errW_some] <;> rfl) | (simp [*, errW_none, errW_some] <;> rfl), by repeat (first | (with_reducible first | exact HB.out | apply below_alloc | apply pw_below_drewN | apply below_drew1) | exact HB.out)⟩
          · rw [if_neg c19] at H
            have c19b0 : decide ((wrap64 ((wrap64 (Int.tmod a1 8)) + 1)) < (wrap64 ((wrap64 (Int.tmod a0 8)) + 1))) = false := decide_eq_false c19
            clear c19
            replace H := Option.bind_eq_some_iff.mp H
            obtain ⟨t130, A220, H⟩ := H
            replace H : (if t123 ≤ t130 then ((class_Words.f t123).bind fun t131 => (some (decide (t131 < (wrap64 (2 * (wrap64 ((wrap64 (Int.tmod a0 8)) + 1)))))))) else (some false)) = some r := H
            have A22 := Aside0.mk A220
            clear A220
            by_cases c23 : t123 ≤ t130
            · rw [if_pos c23] at H
              have c23b0 : decide (t123 ≤ t130) = true := decide_eq_true c23
              clear c23
              replace H := Option.bind_eq_some_iff.mp H
              obtain ⟨t131, A240, H⟩ := H
              replace H : (some (decide (t131 < (wrap64 (2 * (wrap64 ((wrap64 (Int.tmod a0 8)) + 1))))))) = some r := H
              have A24 := Aside0.mk A240
              clear A240
              obtain rfl := Option.some.inj H
              go_enter Try.func5, Try.ntmps5
              go_wp2_with (first | ((with_reducible refine gate_callee (f := 13) rfl ?_); refine goesL_ (some 8) rfl rfl Try.func13 (by kernel_rfl) rfl #[] rfl (by (try simp only [List.map_toArray, List.map_cons, List.map_nil]); first | done | rfl | (simp only [List.length_drop, List.length_take]; rfl)) ?_; (with_reducible refine (lockstitchlaw13_alive.calls k  true _ A3.out).mono ?_); rintro e w25 ⟨rfl, hb⟩; refine ⟨_, rfl, ?_⟩; have n0_ := Aside0.mk (below_step (by repeat (first | (with_reducible first | exact HB.out | apply below_alloc | apply pw_below_drewN | apply below_drew1) | exact HB.out)) hb); clear HB; have HB := n0_; clear n0_; (try clear hb); (try clear hb2); (try clear hk); (try clear hi)) | ((with_reducible refine gate_callee (f := 14) rfl ?_); refine goesL_ (some 19) rfl rfl Try.func14 (by kernel_rfl) rfl #[.int .i64 (wrap64 ((wrap64 (Int.tmod a0 8)) + 1))] rfl (by (try simp only [List.map_toArray, List.map_cons, List.map_nil]); first | done | rfl | (simp only [List.length_drop, List.length_take]; rfl)) ?_; (with_reducible refine (class_Of.calls k (wrap64 ((wrap64 (Int.tmod a0 8)) + 1)) t123 _ A5.out).mono ?_); rintro e w' ⟨rfl, ⟨nd, rfl⟩⟩; refine ⟨_, rfl, ?_⟩) | ((with_reducible refine gate_callee (f := 16) rfl ?_); refine goesL_ (some 21) rfl rfl Try.func16 (by kernel_rfl) rfl #[.int .i64 t123] rfl (by (try simp only [List.map_toArray, List.map_cons, List.map_nil]); first | done | rfl | (simp only [List.length_drop, List.length_take]; rfl)) ?_; (with_reducible refine (class_Words.calls t123 t124 _ A6.out).mono ?_); rintro e w' ⟨rfl, ⟨nd, rfl⟩⟩; refine ⟨_, rfl, ?_⟩) | (go_at_call 16; (with_reducible refine (class_Words.calls (wrap64 (t123 - 1)) t128 _ A17.out).mono ?_); rintro e w' ⟨rfl, ⟨nd, rfl⟩⟩) | (go_at_call 14; (with_reducible refine (class_Of.calls k (wrap64 ((wrap64 (Int.tmod a1 8)) + 1)) t130 _ A22.out).mono ?_); rintro e w' ⟨rfl, ⟨nd, rfl⟩⟩) | (go_at_call 16; (with_reducible refine (class_Words.calls t123 t131 _ A24.out).mono ?_); rintro e w' ⟨rfl, ⟨nd, rfl⟩⟩))
              go_ret
              exact ⟨by first | rfl | (simp [errW_none, errW_some] <;> rfl) | (simp [*, errW_none, errW_some] <;> rfl), by repeat (first | (with_reducible first | exact HB.out | apply below_alloc | apply pw_below_drewN | apply below_drew1) | exact HB.out)⟩
            · rw [if_neg c23] at H
              have c23b0 : decide (t123 ≤ t130) = false := decide_eq_false c23
              clear c23
              obtain rfl := Option.some.inj H
              go_enter Try.func5, Try.ntmps5
              go_wp2_with (first | ((with_reducible refine gate_callee (f := 13) rfl ?_); refine goesL_ (some 8) rfl rfl Try.func13 (by kernel_rfl) rfl #[] rfl (by (try simp only [List.map_toArray, List.map_cons, List.map_nil]); first | done | rfl | (simp only [List.length_drop, List.length_take]; rfl)) ?_; (with_reducible refine (lockstitchlaw13_alive.calls k  true _ A3.out).mono ?_); rintro e w26 ⟨rfl, hb⟩; refine ⟨_, rfl, ?_⟩; have n0_ := Aside0.mk (below_step (by repeat (first | (with_reducible first | exact HB.out | apply below_alloc | apply pw_below_drewN | apply below_drew1) | exact HB.out)) hb); clear HB; have HB := n0_; clear n0_; (try clear hb); (try clear hb2); (try clear hk); (try clear hi)) | ((with_reducible refine gate_callee (f := 14) rfl ?_); refine goesL_ (some 19) rfl rfl Try.func14 (by kernel_rfl) rfl #[.int .i64 (wrap64 ((wrap64 (Int.tmod a0 8)) + 1))] rfl (by (try simp only [List.map_toArray, List.map_cons, List.map_nil]); first | done | rfl | (simp only [List.length_drop, List.length_take]; rfl)) ?_; (with_reducible refine (class_Of.calls k (wrap64 ((wrap64 (Int.tmod a0 8)) + 1)) t123 _ A5.out).mono ?_); rintro e w' ⟨rfl, ⟨nd, rfl⟩⟩; refine ⟨_, rfl, ?_⟩) | ((with_reducible refine gate_callee (f := 16) rfl ?_); refine goesL_ (some 21) rfl rfl Try.func16 (by kernel_rfl) rfl #[.int .i64 t123] rfl (by (try simp only [List.map_toArray, List.map_cons, List.map_nil]); first | done | rfl | (simp only [List.length_drop, List.length_take]; rfl)) ?_; (with_reducible refine (class_Words.calls t123 t124 _ A6.out).mono ?_); rintro e w' ⟨rfl, ⟨nd, rfl⟩⟩; refine ⟨_, rfl, ?_⟩) | (go_at_call 16; (with_reducible refine (class_Words.calls (wrap64 (t123 - 1)) t128 _ A17.out).mono ?_); rintro e w' ⟨rfl, ⟨nd, rfl⟩⟩) | (go_at_call 14; (with_reducible refine (class_Of.calls k (wrap64 ((wrap64 (Int.tmod a1 8)) + 1)) t130 _ A22.out).mono ?_); rintro e w' ⟨rfl, ⟨nd, rfl⟩⟩))
              go_ret
              exact ⟨by first | rfl | (simp [errW_none, errW_some] <;> rfl) | (simp [*, errW_none, errW_some] <;> rfl), by repeat (first | (with_reducible first | exact HB.out | apply below_alloc | apply pw_below_drewN | apply below_drew1) | exact HB.out)⟩
        · rw [if_neg c18] at H
          have c18b0 : decide (t128 < (wrap64 ((wrap64 (Int.tmod a0 8)) + 1))) = false := decide_eq_false c18
          clear c18
          obtain rfl := Option.some.inj H
          go_enter Try.func5, Try.ntmps5
          go_wp2_with (first | ((with_reducible refine gate_callee (f := 13) rfl ?_); refine goesL_ (some 8) rfl rfl Try.func13 (by kernel_rfl) rfl #[] rfl (by (try simp only [List.map_toArray, List.map_cons, List.map_nil]); first | done | rfl | (simp only [List.length_drop, List.length_take]; rfl)) ?_; (with_reducible refine (lockstitchlaw13_alive.calls k  true _ A3.out).mono ?_); rintro e w27 ⟨rfl, hb⟩; refine ⟨_, rfl, ?_⟩; have n0_ := Aside0.mk (below_step (by repeat (first | (with_reducible first | exact HB.out | apply below_alloc | apply pw_below_drewN | apply below_drew1) | exact HB.out)) hb); clear HB; have HB := n0_; clear n0_; (try clear hb); (try clear hb2); (try clear hk); (try clear hi)) | ((with_reducible refine gate_callee (f := 14) rfl ?_); refine goesL_ (some 19) rfl rfl Try.func14 (by kernel_rfl) rfl #[.int .i64 (wrap64 ((wrap64 (Int.tmod a0 8)) + 1))] rfl (by (try simp only [List.map_toArray, List.map_cons, List.map_nil]); first | done | rfl | (simp only [List.length_drop, List.length_take]; rfl)) ?_; (with_reducible refine (class_Of.calls k (wrap64 ((wrap64 (Int.tmod a0 8)) + 1)) t123 _ A5.out).mono ?_); rintro e w' ⟨rfl, ⟨nd, rfl⟩⟩; refine ⟨_, rfl, ?_⟩) | ((with_reducible refine gate_callee (f := 16) rfl ?_); refine goesL_ (some 21) rfl rfl Try.func16 (by kernel_rfl) rfl #[.int .i64 t123] rfl (by (try simp only [List.map_toArray, List.map_cons, List.map_nil]); first | done | rfl | (simp only [List.length_drop, List.length_take]; rfl)) ?_; (with_reducible refine (class_Words.calls t123 t124 _ A6.out).mono ?_); rintro e w' ⟨rfl, ⟨nd, rfl⟩⟩; refine ⟨_, rfl, ?_⟩) | (go_at_call 16; (with_reducible refine (class_Words.calls (wrap64 (t123 - 1)) t128 _ A17.out).mono ?_); rintro e w' ⟨rfl, ⟨nd, rfl⟩⟩))
          go_ret
          exact ⟨by first | rfl | (simp [errW_none, errW_some] <;> rfl) | (simp [*, errW_none, errW_some] <;> rfl), by repeat (first | (with_reducible first | exact HB.out | apply below_alloc | apply pw_below_drewN | apply below_drew1) | exact HB.out)⟩
    · rw [if_neg c7] at H
      have c7b0 : decide ((wrap64 ((wrap64 (Int.tmod a0 8)) + 1)) ≤ t124) = false := decide_eq_false c7
      clear c7
      obtain rfl := Option.some.inj H
      go_enter Try.func5, Try.ntmps5
      go_wp2_with (first | ((with_reducible refine gate_callee (f := 13) rfl ?_); refine goesL_ (some 8) rfl rfl Try.func13 (by kernel_rfl) rfl #[] rfl (by (try simp only [List.map_toArray, List.map_cons, List.map_nil]); first | done | rfl | (simp only [List.length_drop, List.length_take]; rfl)) ?_; (with_reducible refine (lockstitchlaw13_alive.calls k  true _ A3.out).mono ?_); rintro e w28 ⟨rfl, hb⟩; refine ⟨_, rfl, ?_⟩; have n0_ := Aside0.mk (below_step (by repeat (first | (with_reducible first | exact HB.out | apply below_alloc | apply pw_below_drewN | apply below_drew1) | exact HB.out)) hb); clear HB; have HB := n0_; clear n0_; (try clear hb); (try clear hb2); (try clear hk); (try clear hi)) | ((with_reducible refine gate_callee (f := 14) rfl ?_); refine goesL_ (some 19) rfl rfl Try.func14 (by kernel_rfl) rfl #[.int .i64 (wrap64 ((wrap64 (Int.tmod a0 8)) + 1))] rfl (by (try simp only [List.map_toArray, List.map_cons, List.map_nil]); first | done | rfl | (simp only [List.length_drop, List.length_take]; rfl)) ?_; (with_reducible refine (class_Of.calls k (wrap64 ((wrap64 (Int.tmod a0 8)) + 1)) t123 _ A5.out).mono ?_); rintro e w' ⟨rfl, ⟨nd, rfl⟩⟩; refine ⟨_, rfl, ?_⟩) | ((with_reducible refine gate_callee (f := 16) rfl ?_); refine goesL_ (some 21) rfl rfl Try.func16 (by kernel_rfl) rfl #[.int .i64 t123] rfl (by (try simp only [List.map_toArray, List.map_cons, List.map_nil]); first | done | rfl | (simp only [List.length_drop, List.length_take]; rfl)) ?_; (with_reducible refine (class_Words.calls t123 t124 _ A6.out).mono ?_); rintro e w' ⟨rfl, ⟨nd, rfl⟩⟩; refine ⟨_, rfl, ?_⟩))
      go_ret
      exact ⟨by first | rfl | (simp [errW_none, errW_some] <;> rfl) | (simp [*, errW_none, errW_some] <;> rfl), by repeat (first | (with_reducible first | exact HB.out | apply below_alloc | apply pw_below_drewN | apply below_drew1) | exact HB.out)⟩
  · replace c4 := Bool.eq_false_iff.mpr c4
    subst c4
    have H1 : (some false) = some r := by rw [if_neg (show ¬ (false = true) by decide)] at H; exact H
    clear H
    have H := H1
    clear H1
    obtain rfl := Option.some.inj H
    go_enter Try.func5, Try.ntmps5
    go_wp2_with (first | ((with_reducible refine gate_callee (f := 13) rfl ?_); refine goesL_ (some 8) rfl rfl Try.func13 (by kernel_rfl) rfl #[] rfl (by (try simp only [List.map_toArray, List.map_cons, List.map_nil]); first | done | rfl | (simp only [List.length_drop, List.length_take]; rfl)) ?_; (with_reducible refine (lockstitchlaw13_alive.calls k  false _ A3.out).mono ?_); rintro e w29 ⟨rfl, hb⟩; refine ⟨_, rfl, ?_⟩; have n0_ := Aside0.mk (below_step (by repeat (first | (with_reducible first | exact HB.out | apply below_alloc | apply pw_below_drewN | apply below_drew1) | exact HB.out)) hb); clear HB; have HB := n0_; clear n0_; (try clear hb); (try clear hb2); (try clear hk); (try clear hi)))
    go_ret
    exact ⟨by first | rfl | (simp [errW_none, errW_some] <;> rfl) | (simp [*, errW_none, errW_some] <;> rfl), by repeat (first | (with_reducible first | exact HB.out | apply below_alloc | apply pw_below_drewN | apply below_drew1) | exact HB.out)⟩

/-- THE ONE PURE STATEMENT of lockstitchlaw13_ClassFits: yours. -/
def lockstitchlaw13_ClassFits.Pure : Prop := ∀ (a0 : Int) (a1 : Int), (Lit.int .u8 a0).wf = true → (Lit.int .u8 a1).wf = true → ∃ k, lockstitchlaw13_ClassFits.f k a0 a1 = some true
theorem lockstitchlaw13_ClassFits.walk (P : lockstitchlaw13_ClassFits.Pure) (a0 : Int) (a1 : Int) (w : World) (w0 : (Lit.int .u8 a0).wf = true) (w1 : (Lit.int .u8 a1).wf = true) :
    Calls Try.prog 5 #[.int .u8 a0, .int .u8 a1] w fun e w' => e = .returned (.bool true) ∧ Below w.heap.size w w' := by
  obtain ⟨k, h⟩ := P a0 a1 w0 w1
  refine (lockstitchlaw13_ClassFits.calls k a0 a1 true w h).mono ?_
  rintro e w' ⟨rfl, hd⟩
  exact ⟨rfl, hd⟩

end Go.Proofs.Ytlbjcaefemmjmaa.PClassFits
