-- PRINTED BY print.sh 35421559b90ae4d0a3588c463048766b98c2df88dd9212a6774a882060cdf62d: not written by this session
import Derived.Test.YtlbjcaefemmjmaaPClassDoublesx0
import Derived.Test.YtlbjcaefemmjmaaPClassDoublesx1
namespace Go.Proofs.Ytlbjcaefemmjmaa.PClassDoubles
open Go.RowKit Go.Proofs.YtlbjcaefemmjmaaW.PrintWords Go.Proofs.YtlbjcaefemmjmaaW.PrintLast Go.Proofs.YtlbjcaefemmjmaaW.PrintMore
attribute [local go_sem] max2_int min2_int max_two min_two max_three min_three max_four min_four   -- for this text's walks alone
set_option linter.unusedVariables false
set_option linter.unusedSimpArgs false

/-! ### lockstitchlaw13_ClassDoubles: function 6 -/
mutual
def lockstitchlaw13_ClassDoubles.j0 : Nat → Int → List Int → List Int → Bool → Option (Bool)
  | 0, _, _, _, _ => none
  | k + 1, x5, x6, x7, x38 => if x38 = true then (some false) else (lockstitchlaw13_ClassDoubles.l0 k x5 x6 x7 (x7.length : Int) 0)
def lockstitchlaw13_ClassDoubles.l0 : Nat → Int → List Int → List Int → Int → Int → Option (Bool)
  | 0, _, _, _, _, _ => none
  | k + 1, x5, x6, x39, x40, x41 => if x41 < x40 then (if 0 ≤ x41 then (if x41 < (x39.length : Int) then (if 0 ≤ (wrap64 (2 * x41)) then (if (wrap64 (2 * x41)) < (x6.length : Int) then (if (rd x6 (wrap64 (2 * x41))) = (rd x39 x41) then ((class_Begins.f (rd x39 x41) x5).bind fun t133 => (if t133 = true then (lockstitchlaw13_ClassDoubles.l0 k x5 x6 x39 x40 (wrap64 (x41 + 1))) else (some false))) else (some false)) else (none)) else (none)) else (none)) else (none)) else (some true)
end
def lockstitchlaw13_ClassDoubles.f (k : Nat) (a0 : Int) (a1 : Int) : Option (Bool) := (lockstitchlaw13_alive.f k).bind fun t122 => (if t122 = true then ((class_Blocks.f k (wrap64 (a1)) (wrap64 (Int.tmod a0 3))).bind fun t123 => ((class_Blocks.f k (wrap64 (a1)) (wrap64 ((wrap64 (Int.tmod a0 3)) + 1))).bind fun t126 => ((class_Words.f (wrap64 ((wrap64 (Int.tmod a0 3)) + 1))).bind fun t129 => ((class_Words.f (wrap64 (Int.tmod a0 3))).bind fun t130 => (if t129 = (wrap64 (2 * t130)) then (lockstitchlaw13_ClassDoubles.j0 k (wrap64 (Int.tmod a0 3)) t123 t126 ((t123.length : Int) != (wrap64 (2 * (t126.length : Int))))) else (lockstitchlaw13_ClassDoubles.j0 k (wrap64 (Int.tmod a0 3)) t123 t126 true)))))) else (some false))
theorem lockstitchlaw13_ClassDoubles.mono_l : ∀ k, (∀ y0 y1 y2 y3, LeO (lockstitchlaw13_ClassDoubles.j0 k y0 y1 y2 y3) (lockstitchlaw13_ClassDoubles.j0 (k + 1) y0 y1 y2 y3)) ∧ (∀ y0 y1 y2 y3 y4, LeO (lockstitchlaw13_ClassDoubles.l0 k y0 y1 y2 y3 y4) (lockstitchlaw13_ClassDoubles.l0 (k + 1) y0 y1 y2 y3 y4))
  | 0 => ⟨fun _ _ _ _ r h => by simp [lockstitchlaw13_ClassDoubles.j0] at h, fun _ _ _ _ _ r h => by simp [lockstitchlaw13_ClassDoubles.l0] at h⟩
  | k + 1 => by
    obtain ⟨ih0, ih1⟩ := lockstitchlaw13_ClassDoubles.mono_l k
    refine ⟨?_, ?_⟩
    · intro y0 y1 y2 y3
      unfold lockstitchlaw13_ClassDoubles.j0
      repeat' first
      | (with_reducible exact ih0 _ _ _ _)
      | (with_reducible exact ih1 _ _ _ _ _)
      | (with_reducible exact class_Blocks.mono _ _ _)
      | (with_reducible exact lockstitchlaw13_alive.mono _)
      | (with_reducible exact LeO.refl _)
      | (with_reducible exact LeO.none _)
      | (with_reducible refine LeO.ite ?_ ?_)
      | (with_reducible refine LeO.bind ?_ (fun _ => ?_))
      | exact ih0 _ _ _ _
      | exact ih1 _ _ _ _ _
      | exact class_Blocks.mono _ _ _
      | exact lockstitchlaw13_alive.mono _
      | exact LeO.none _
      | refine LeO.ite ?_ ?_
      | refine LeO.bind ?_ (fun _ => ?_)
    · intro y0 y1 y2 y3 y4
      unfold lockstitchlaw13_ClassDoubles.l0
      repeat' first
      | (with_reducible exact ih0 _ _ _ _)
      | (with_reducible exact ih1 _ _ _ _ _)
      | (with_reducible exact class_Blocks.mono _ _ _)
      | (with_reducible exact lockstitchlaw13_alive.mono _)
      | (with_reducible exact LeO.refl _)
      | (with_reducible exact LeO.none _)
      | (with_reducible refine LeO.ite ?_ ?_)
      | (with_reducible refine LeO.bind ?_ (fun _ => ?_))
      | exact ih0 _ _ _ _
      | exact ih1 _ _ _ _ _
      | exact class_Blocks.mono _ _ _
      | exact lockstitchlaw13_alive.mono _
      | exact LeO.none _
      | refine LeO.ite ?_ ?_
      | refine LeO.bind ?_ (fun _ => ?_)
theorem lockstitchlaw13_ClassDoubles.mono : ∀ a0 a1 k, LeO (lockstitchlaw13_ClassDoubles.f k a0 a1) (lockstitchlaw13_ClassDoubles.f (k + 1) a0 a1) := by
  intro a0 a1 k
  obtain ⟨ih0, ih1⟩ := lockstitchlaw13_ClassDoubles.mono_l k
  unfold lockstitchlaw13_ClassDoubles.f
  repeat' first
      | (with_reducible exact ih0 _ _ _ _)
      | (with_reducible exact ih1 _ _ _ _ _)
      | (with_reducible exact class_Blocks.mono _ _ _)
      | (with_reducible exact lockstitchlaw13_alive.mono _)
      | (with_reducible exact LeO.refl _)
      | (with_reducible exact LeO.none _)
      | (with_reducible refine LeO.ite ?_ ?_)
      | (with_reducible refine LeO.bind ?_ (fun _ => ?_))
      | exact ih0 _ _ _ _
      | exact ih1 _ _ _ _ _
      | exact class_Blocks.mono _ _ _
      | exact lockstitchlaw13_alive.mono _
      | exact LeO.none _
      | refine LeO.ite ?_ ?_
      | refine LeO.bind ?_ (fun _ => ?_)
set_option maxHeartbeats 8000000 in
set_option maxRecDepth 100000 in
theorem lockstitchlaw13_ClassDoubles.calls (k : Nat) (a0 : Int) (a1 : Int) (r : Bool) (w : World) (h : lockstitchlaw13_ClassDoubles.f k a0 a1 = some r) :
    Calls Try.prog 6 #[.int .u8 a0, .int .u8 a1] w fun e w' => e = .returned (.bool r) ∧ Below w.heap.size w w' := by
  have HB := Aside0.mk (Below.refl w.heap.size w)
  have H : ((lockstitchlaw13_alive.f k).bind fun t122 => (if t122 = true then ((class_Blocks.f k (wrap64 (a1)) (wrap64 (Int.tmod a0 3))).bind fun t123 => ((class_Blocks.f k (wrap64 (a1)) (wrap64 ((wrap64 (Int.tmod a0 3)) + 1))).bind fun t126 => ((class_Words.f (wrap64 ((wrap64 (Int.tmod a0 3)) + 1))).bind fun t129 => ((class_Words.f (wrap64 (Int.tmod a0 3))).bind fun t130 => (if t129 = (wrap64 (2 * t130)) then (lockstitchlaw13_ClassDoubles.j0 k (wrap64 (Int.tmod a0 3)) t123 t126 ((t123.length : Int) != (wrap64 (2 * (t126.length : Int))))) else (lockstitchlaw13_ClassDoubles.j0 k (wrap64 (Int.tmod a0 3)) t123 t126 true)))))) else (some false))) = some r := h
  clear h
  replace H := Option.bind_eq_some_iff.mp H
  obtain ⟨t122, A30, H⟩ := H
  replace H : (if t122 = true then ((class_Blocks.f k (wrap64 (a1)) (wrap64 (Int.tmod a0 3))).bind fun t123 => ((class_Blocks.f k (wrap64 (a1)) (wrap64 ((wrap64 (Int.tmod a0 3)) + 1))).bind fun t126 => ((class_Words.f (wrap64 ((wrap64 (Int.tmod a0 3)) + 1))).bind fun t129 => ((class_Words.f (wrap64 (Int.tmod a0 3))).bind fun t130 => (if t129 = (wrap64 (2 * t130)) then (lockstitchlaw13_ClassDoubles.j0 k (wrap64 (Int.tmod a0 3)) t123 t126 ((t123.length : Int) != (wrap64 (2 * (t126.length : Int))))) else (lockstitchlaw13_ClassDoubles.j0 k (wrap64 (Int.tmod a0 3)) t123 t126 true)))))) else (some false)) = some r := H
  have A3 := Aside0.mk A30
  clear A30
  by_cases c4 : t122 = true
  · subst c4
    have H1 : ((class_Blocks.f k (wrap64 (a1)) (wrap64 (Int.tmod a0 3))).bind fun t123 => ((class_Blocks.f k (wrap64 (a1)) (wrap64 ((wrap64 (Int.tmod a0 3)) + 1))).bind fun t126 => ((class_Words.f (wrap64 ((wrap64 (Int.tmod a0 3)) + 1))).bind fun t129 => ((class_Words.f (wrap64 (Int.tmod a0 3))).bind fun t130 => (if t129 = (wrap64 (2 * t130)) then (lockstitchlaw13_ClassDoubles.j0 k (wrap64 (Int.tmod a0 3)) t123 t126 ((t123.length : Int) != (wrap64 (2 * (t126.length : Int))))) else (lockstitchlaw13_ClassDoubles.j0 k (wrap64 (Int.tmod a0 3)) t123 t126 true)))))) = some r := by rw [if_pos rfl] at H; exact H
    clear H
    have H := H1
    clear H1
    replace H := Option.bind_eq_some_iff.mp H
    obtain ⟨t123, A50, H⟩ := H
    replace H : ((class_Blocks.f k (wrap64 (a1)) (wrap64 ((wrap64 (Int.tmod a0 3)) + 1))).bind fun t126 => ((class_Words.f (wrap64 ((wrap64 (Int.tmod a0 3)) + 1))).bind fun t129 => ((class_Words.f (wrap64 (Int.tmod a0 3))).bind fun t130 => (if t129 = (wrap64 (2 * t130)) then (lockstitchlaw13_ClassDoubles.j0 k (wrap64 (Int.tmod a0 3)) t123 t126 ((t123.length : Int) != (wrap64 (2 * (t126.length : Int))))) else (lockstitchlaw13_ClassDoubles.j0 k (wrap64 (Int.tmod a0 3)) t123 t126 true))))) = some r := H
    have A5 := Aside0.mk A50
    clear A50
    replace H := Option.bind_eq_some_iff.mp H
    obtain ⟨t126, A60, H⟩ := H
    replace H : ((class_Words.f (wrap64 ((wrap64 (Int.tmod a0 3)) + 1))).bind fun t129 => ((class_Words.f (wrap64 (Int.tmod a0 3))).bind fun t130 => (if t129 = (wrap64 (2 * t130)) then (lockstitchlaw13_ClassDoubles.j0 k (wrap64 (Int.tmod a0 3)) t123 t126 ((t123.length : Int) != (wrap64 (2 * (t126.length : Int))))) else (lockstitchlaw13_ClassDoubles.j0 k (wrap64 (Int.tmod a0 3)) t123 t126 true)))) = some r := H
    have A6 := Aside0.mk A60
    clear A60
    have HC7 := Aside0.mk H
    clear H
    go_enter Try.func6, Try.ntmps6
    go_upto_region 5 with (first | ((with_reducible refine gate_callee (f := 13) rfl ?_); refine goesL_ (some 10) rfl rfl Try.func13 (by kernel_rfl) rfl #[] rfl (by (try simp only [List.map_toArray, List.map_cons, List.map_nil]); first | done | rfl | (simp only [List.length_drop, List.length_take]; rfl)) ?_; (with_reducible refine (lockstitchlaw13_alive.calls k  true _ A3.out).mono ?_); rintro e w8 ⟨rfl, hb⟩; refine ⟨_, rfl, ?_⟩; have n0_ := Aside0.mk (below_step (by repeat (first | (with_reducible first | exact HB.out | apply below_alloc | apply pw_below_drewN | apply below_drew1) | exact HB.out)) hb); clear HB; have HB := n0_; clear n0_; (try clear hb); (try clear hb2); (try clear hk); (try clear hi)) | ((with_reducible refine gate_callee (f := 19) rfl ?_); refine goesL_ (some 18) rfl rfl Try.func19 (by kernel_rfl) rfl #[.int .i64 (wrap64 (a1)), .int .i64 (wrap64 (Int.tmod a0 3))] rfl (by (try simp only [List.map_toArray, List.map_cons, List.map_nil]); first | done | rfl | (simp only [List.length_drop, List.length_take]; rfl)) ?_; (with_reducible refine (class_Blocks.calls k (wrap64 (a1)) (wrap64 (Int.tmod a0 3)) t123 _ A5.out).mono ?_); rintro e w9 ⟨v124, rfl, ho0, hb⟩; refine ⟨_, rfl, ?_⟩; have n0_ := Aside0.mk (Kd.R_lower ho0 (below_size (by repeat (first | (with_reducible first | exact HB.out | apply below_alloc | apply pw_below_drewN | apply below_drew1) | exact HB.out)))); have n1_ := Aside0.mk (below_step (by repeat (first | (with_reducible first | exact HB.out | apply below_alloc | apply pw_below_drewN | apply below_drew1) | exact HB.out)) hb); clear HB; have HO125 := n0_; have HB := n1_; clear n0_ n1_; (try clear hb); (try clear hb2); (try clear hk); (try clear hi); (try clear ho0)) | ((with_reducible refine gate_callee (f := 19) rfl ?_); refine goesL_ (some 23) rfl rfl Try.func19 (by kernel_rfl) rfl #[.int .i64 (wrap64 (a1)), .int .i64 (wrap64 ((wrap64 (Int.tmod a0 3)) + 1))] rfl (by (try simp only [List.map_toArray, List.map_cons, List.map_nil]); first | done | rfl | (simp only [List.length_drop, List.length_take]; rfl)) ?_; (with_reducible refine (class_Blocks.calls k (wrap64 (a1)) (wrap64 ((wrap64 (Int.tmod a0 3)) + 1)) t126 _ A6.out).mono ?_); rintro e w10 ⟨v127, rfl, ho0, hb⟩; refine ⟨_, rfl, ?_⟩; have n0_ := Aside0.mk (Kd.R_elder' (by (with_reducible repeat (first | apply Kd.R_alloc | apply Kd.R_drewN | apply Kd.R_drew)); exact HO125.out) (Kd.R_base ho0) hb); have n1_ := Aside0.mk (Kd.R_lower (Kd.R_new' ho0 (Kd.R_lt (by (with_reducible repeat (first | apply Kd.R_alloc | apply Kd.R_drewN | apply Kd.R_drew)); exact HO125.out))) (below_size (by repeat (first | (with_reducible first | exact HB.out | apply below_alloc | apply pw_below_drewN | apply below_drew1) | exact HB.out)))); have n2_ := Aside0.mk (below_step (by repeat (first | (with_reducible first | exact HB.out | apply below_alloc | apply pw_below_drewN | apply below_drew1) | exact HB.out)) hb); clear HO125; clear HB; have HO125 := n0_; have HO128 := n1_; have HB := n2_; clear n0_ n1_ n2_; (try clear hb); (try clear hb2); (try clear hk); (try clear hi); (try clear ho0)))
    (try simp only [Act.put, List.setIfInBounds_toArray, List.set_cons_zero, List.set_cons_succ])
    go_cut [38] (fun v38 wc => ∃ (kq : Nat) (x38_6 : Bool), v38 = .bool x38_6 ∧ Aside0 (lockstitchlaw13_ClassDoubles.j0 kq (wrap64 (Int.tmod a0 3)) t123 t126 x38_6 = some r) ∧ Aside0 (kq ≤ k) ∧ Aside0 (Kd.R (Kd.int .i64) 3 wc w.heap.size (fun k_ => some k_ ≠ (v127 : Value).ownBlock) v124 t123) ∧ Aside0 (Kd.R (Kd.int .i64) 3 wc w.heap.size (fun k_ => some k_ ≠ (v124 : Value).ownBlock) v127 t126) ∧ Aside0 (Below w.heap.size w wc))
    case first =>
      have H := HC7.out
      clear HC7
      replace H := Option.bind_eq_some_iff.mp H
      obtain ⟨t129, A110, H⟩ := H
      replace H : ((class_Words.f (wrap64 (Int.tmod a0 3))).bind fun t130 => (if t129 = (wrap64 (2 * t130)) then (lockstitchlaw13_ClassDoubles.j0 k (wrap64 (Int.tmod a0 3)) t123 t126 ((t123.length : Int) != (wrap64 (2 * (t126.length : Int))))) else (lockstitchlaw13_ClassDoubles.j0 k (wrap64 (Int.tmod a0 3)) t123 t126 true))) = some r := H
      have A11 := Aside0.mk A110
      clear A110
      replace H := Option.bind_eq_some_iff.mp H
      obtain ⟨t130, A120, H⟩ := H
      replace H : (if t129 = (wrap64 (2 * t130)) then (lockstitchlaw13_ClassDoubles.j0 k (wrap64 (Int.tmod a0 3)) t123 t126 ((t123.length : Int) != (wrap64 (2 * (t126.length : Int))))) else (lockstitchlaw13_ClassDoubles.j0 k (wrap64 (Int.tmod a0 3)) t123 t126 true)) = some r := H
      have A12 := Aside0.mk A120
      clear A120
      by_cases c13 : t129 = (wrap64 (2 * t130))
      · rw [if_pos c13] at H
        have c13b0 : (t129 == (wrap64 (2 * t130))) = true := beq_iff_eq.mpr c13
        have c13b1 : (t129 != (wrap64 (2 * t130))) = false := bne_eq_false_iff_eq.mpr c13
        clear c13
        (first | rw [c13b0] | (simp only [i64_w, i32_w]; rw [c13b0]) | skip)
        have H' := Aside0.mk H
        clear H
        go_wp2_with (first | ((with_reducible refine gate_callee (f := 16) rfl ?_); refine goesL_ (some 26) rfl rfl Try.func16 (by kernel_rfl) rfl #[.int .i64 (wrap64 ((wrap64 (Int.tmod a0 3)) + 1))] rfl (by (try simp only [List.map_toArray, List.map_cons, List.map_nil]); first | done | rfl | (simp only [List.length_drop, List.length_take]; rfl)) ?_; (with_reducible refine (class_Words.calls (wrap64 ((wrap64 (Int.tmod a0 3)) + 1)) t129 _ A11.out).mono ?_); rintro e w' ⟨rfl, ⟨nd, rfl⟩⟩; refine ⟨_, rfl, ?_⟩) | ((with_reducible refine gate_callee (f := 16) rfl ?_); refine goesL_ (some 28) rfl rfl Try.func16 (by kernel_rfl) rfl #[.int .i64 (wrap64 (Int.tmod a0 3))] rfl (by (try simp only [List.map_toArray, List.map_cons, List.map_nil]); first | done | rfl | (simp only [List.length_drop, List.length_take]; rfl)) ?_; (with_reducible refine (class_Words.calls (wrap64 (Int.tmod a0 3)) t130 _ A12.out).mono ?_); rintro e w' ⟨rfl, ⟨nd, rfl⟩⟩; refine ⟨_, rfl, ?_⟩; obtain ⟨Ao14, co14, eo14⟩ := Kd.R_slice HO125.out; subst eo14; obtain ⟨Ao15, co15, eo15⟩ := Kd.R_slice HO128.out; subst eo15))
        go_meet
        case rel => exact ⟨_, (((t123.length : Int) != (wrap64 (2 * (t126.length : Int))))), (by first | rfl | (simp; done) | (simp [*]; done)), H', ⟨by first | omega | exact Nat.le_refl _⟩, ⟨by (with_reducible repeat (first | apply Kd.R_alloc | apply Kd.R_drewN | apply Kd.R_drew)); exact Kd.R_mono HO125.out (fun _ hk => hk.2)⟩, ⟨by (with_reducible repeat (first | apply Kd.R_alloc | apply Kd.R_drewN | apply Kd.R_drew)); exact Kd.R_mono HO128.out (fun _ hk => hk.2)⟩, ⟨by repeat (first | (with_reducible first | exact HB.out | apply below_alloc | apply pw_below_drewN | apply below_drew1) | exact HB.out)⟩⟩
      · rw [if_neg c13] at H
        have c13b0 : (t129 == (wrap64 (2 * t130))) = false := beq_eq_false_iff_ne.mpr c13
        have c13b1 : (t129 != (wrap64 (2 * t130))) = true := bne_iff_ne.mpr c13
        (first | rw [c13b0] | (simp only [i64_w, i32_w]; rw [c13b0]) | skip)
        have H' := Aside0.mk H
        clear H
        go_wp2_with (first | ((with_reducible refine gate_callee (f := 16) rfl ?_); refine goesL_ (some 26) rfl rfl Try.func16 (by kernel_rfl) rfl #[.int .i64 (wrap64 ((wrap64 (Int.tmod a0 3)) + 1))] rfl (by (try simp only [List.map_toArray, List.map_cons, List.map_nil]); first | done | rfl | (simp only [List.length_drop, List.length_take]; rfl)) ?_; (with_reducible refine (class_Words.calls (wrap64 ((wrap64 (Int.tmod a0 3)) + 1)) t129 _ A11.out).mono ?_); rintro e w' ⟨rfl, ⟨nd, rfl⟩⟩; refine ⟨_, rfl, ?_⟩) | ((with_reducible refine gate_callee (f := 16) rfl ?_); refine goesL_ (some 28) rfl rfl Try.func16 (by kernel_rfl) rfl #[.int .i64 (wrap64 (Int.tmod a0 3))] rfl (by (try simp only [List.map_toArray, List.map_cons, List.map_nil]); first | done | rfl | (simp only [List.length_drop, List.length_take]; rfl)) ?_; (with_reducible refine (class_Words.calls (wrap64 (Int.tmod a0 3)) t130 _ A12.out).mono ?_); rintro e w' ⟨rfl, ⟨nd, rfl⟩⟩; refine ⟨_, rfl, ?_⟩))
        go_meet
        case rel => exact ⟨_, (true), (by first | rfl | (simp; done) | (simp [*]; done)), H', ⟨by first | omega | exact Nat.le_refl _⟩, ⟨by (with_reducible repeat (first | apply Kd.R_alloc | apply Kd.R_drewN | apply Kd.R_drew)); exact Kd.R_mono HO125.out (fun _ hk => hk.2)⟩, ⟨by (with_reducible repeat (first | apply Kd.R_alloc | apply Kd.R_drewN | apply Kd.R_drew)); exact Kd.R_mono HO128.out (fun _ hk => hk.2)⟩, ⟨by repeat (first | (with_reducible first | exact HB.out | apply below_alloc | apply pw_below_drewN | apply below_drew1) | exact HB.out)⟩⟩
    case rest =>
      clear HC7
      try clear c1
      try clear p2
      try clear c4
      try clear c6
      try clear p6
      try clear c13
      try clear c13b0
      try clear c13b1
      obtain ⟨kq, x38_6, rfl, HA, HJ6, HO_6, HO_7, HB⟩ := hcut
      cases kq with
      | zero => exact absurd HA.out (by simp [lockstitchlaw13_ClassDoubles.j0])
      | succ kj6 =>
        have H := HA.out
        clear HA
        simp only [lockstitchlaw13_ClassDoubles.j0] at H
        by_cases c16 : x38_6 = true
        · subst c16
          have H1 : (some false) = some r := by rw [if_pos rfl] at H; exact H
          clear H
          have H := H1
          clear H1
          obtain rfl := Option.some.inj H
          go_wp2
          go_ret
          exact ⟨by first | rfl | (simp [errW_none, errW_some] <;> rfl) | (simp [*, errW_none, errW_some] <;> rfl), by repeat (first | (with_reducible first | exact HB.out | apply below_alloc | apply pw_below_drewN | apply below_drew1) | exact HB.out)⟩
        · replace c16 := Bool.eq_false_iff.mpr c16
          subst c16
          have H1 : (lockstitchlaw13_ClassDoubles.l0 kj6 (wrap64 (Int.tmod a0 3)) t123 t126 (t126.length : Int) 0) = some r := by rw [if_neg (show ¬ (false = true) by decide)] at H; exact H
          clear H
          have H := H1
          clear H1
          have H' := Aside0.mk H
          clear H
          obtain ⟨Ao17, co17, eo17⟩ := Kd.R_slice HO_7.out
          subst eo17
          go_wp2
          go_loopg [41] kj6 (fun kq v41 w' => ∃ (x41_2 : Int), v41 = .int .i64 x41_2 ∧ Aside0 (lockstitchlaw13_ClassDoubles.l0 kq (wrap64 (Int.tmod a0 3)) t123 t126 (t126.length : Int) x41_2 = some r) ∧ Aside0 (kq ≤ kj6) ∧ Aside0 (Kd.R (Kd.int .i64) 3 w' w.heap.size (fun k_ => some k_ ≠ ((.slice Ao17 t126.length co17) : Value).ownBlock) v124 t123) ∧ Aside0 (Kd.R (Kd.int .i64) 3 w' w.heap.size (fun k_ => some k_ ≠ (v124 : Value).ownBlock) (.slice Ao17 t126.length co17) t126) ∧ Aside0 (Below w.heap.size w w'))
          case atStart => exact ⟨(0), (by first | rfl | (simp; done) | (simp [*]; done)), H', ⟨Nat.le_refl _⟩, ⟨by (with_reducible repeat (first | apply Kd.R_alloc | apply Kd.R_drewN | apply Kd.R_drew)); exact HO_6.out⟩, ⟨by (with_reducible repeat (first | apply Kd.R_alloc | apply Kd.R_drewN | apply Kd.R_drew)); exact HO_7.out⟩, ⟨by repeat (first | (with_reducible first | exact HB.out | apply below_alloc | apply pw_below_drewN | apply below_drew1) | exact HB.out)⟩⟩
          case round =>
            clear H'
            try clear c1
            try clear p2
            try clear c4
            try clear c6
            try clear p6
            try clear c13
            try clear c13b0
            try clear c13b1
            try clear c16
            try clear p2
            try clear p6
            obtain ⟨x41_2, rfl, HA, HK2, HO_6, HO_39, HB⟩ := hrel
            cases gk with
            | zero => exact absurd HA.out (by simp [lockstitchlaw13_ClassDoubles.l0])
            | succ k2 =>
              have H := HA.out
              clear HA
              simp only [lockstitchlaw13_ClassDoubles.l0] at H
              by_cases c18 : x41_2 < (t126.length : Int)
              · rw [if_pos c18] at H
                have c18b0 : decide (x41_2 < (t126.length : Int)) = true := decide_eq_true c18
                clear c18
                by_cases c19 : 0 ≤ x41_2
                · rw [if_pos c19] at H
                  have c19b0 : decide (0 ≤ x41_2) = true := decide_eq_true c19
                  clear c19
                  by_cases c20 : x41_2 < (t126.length : Int)
                  · rw [if_pos c20] at H
                    have c20b0 : decide (x41_2 < (t126.length : Int)) = true := decide_eq_true c20
                    clear c20
                    obtain ⟨ji21, hji21⟩ : ∃ j_ : Int, (wrap64 (2 * x41_2)) = j_ := ⟨_, rfl⟩
                    replace H : (if 0 ≤ (ji21) then (if (ji21) < (t123.length : Int) then (if (rd t123 (ji21)) = (rd t126 x41_2) then ((class_Begins.f (rd t126 x41_2) (wrap64 (Int.tmod a0 3))).bind fun t133 => (if t133 = true then (lockstitchlaw13_ClassDoubles.l0 k2 (wrap64 (Int.tmod a0 3)) t123 t126 (t126.length : Int) (wrap64 (x41_2 + 1))) else (some false))) else (some false)) else (none)) else (none)) = some r := by first | (rw [hji21] at H; exact H) | (simp only [hji21] at H ⊢; exact H)
                    have hji21w : (IntKind.i64.wrap (2 * x41_2)) = ji21 := (i64_w _).trans hji21
                    by_cases c22 : 0 ≤ (ji21)
                    · rw [if_pos c22] at H
                      have c22b0 : decide (0 ≤ (ji21)) = true := decide_eq_true c22
                      clear c22
                      by_cases c23 : (ji21) < (t123.length : Int)
                      · rw [if_pos c23] at H
                        have c23b0 : decide ((ji21) < (t123.length : Int)) = true := decide_eq_true c23
                        clear c23
                        by_cases c24 : (rd t123 (ji21)) = (rd t126 x41_2)
                        · rw [if_pos c24] at H
                          have c24b0 : ((rd t123 (ji21)) == (rd t126 x41_2)) = true := beq_iff_eq.mpr c24
                          have c24b1 : ((rd t123 (ji21)) != (rd t126 x41_2)) = false := bne_eq_false_iff_eq.mpr c24
                          clear c24
                          replace H := Option.bind_eq_some_iff.mp H
                          obtain ⟨t133, A250, H⟩ := H
                          replace H : (if t133 = true then (lockstitchlaw13_ClassDoubles.l0 k2 (wrap64 (Int.tmod a0 3)) t123 t126 (t126.length : Int) (wrap64 (x41_2 + 1))) else (some false)) = some r := H
                          have A25 := Aside0.mk A250
                          clear A250
                          by_cases c26 : t133 = true
                          · subst c26
                            have H1 : (lockstitchlaw13_ClassDoubles.l0 k2 (wrap64 (Int.tmod a0 3)) t123 t126 (t126.length : Int) (wrap64 (x41_2 + 1))) = some r := by rw [if_pos rfl] at H; exact H
                            clear H
                            have H := H1
                            clear H1
                            have H' := Aside0.mk H
                            clear H
                            have p131 : 0 ≤ (x41_2 : Int) := of_decide_eq_true (by first | (with_reducible assumption) | assumption)
                            have q131 : x41_2 < (t126.length : Int) := of_decide_eq_true (by first | (with_reducible assumption) | assumption)
                            obtain ⟨ad131, e131, hx131_0⟩ := Kd.at_int (Kd.R_reads' HO_39.out).2.2 x41_2 p131 q131
                            cases e131
                            replace p131 := eq_true p131
                            replace q131 := eq_true q131
                            obtain ⟨Ao27, co27, eo27⟩ := Kd.R_slice HO_6.out
                            subst eo27
                            have p132 : 0 ≤ ((ji21) : Int) := of_decide_eq_true (by first | (with_reducible assumption) | assumption)
                            have q132 : (ji21) < (t123.length : Int) := of_decide_eq_true (by first | (with_reducible assumption) | assumption)
                            obtain ⟨ad132, e132, hx132_0⟩ := Kd.at_int (Kd.R_reads' HO_6.out).2.2 (ji21) p132 q132
                            cases e132
                            replace p132 := eq_true p132
                            replace q132 := eq_true q132
                            go_wp2_with (first | (go_at_call 23; (with_reducible refine (class_Begins.calls (rd t126 x41_2) (wrap64 (Int.tmod a0 3)) true _ A25.out).mono ?_); rintro e w' ⟨rfl, ⟨nd, rfl⟩⟩))
                            go_roundg k2
                            case measure => have := HJ6.out; have := HK2.out; omega
                            case rel => exact ⟨(wrap64 (x41_2 + 1)), (by first | rfl | (simp; done) | (simp [*]; done)), H', ⟨by have := HJ6.out; have := HK2.out; omega⟩, ⟨by (with_reducible repeat (first | apply Kd.R_alloc | apply Kd.R_drewN | apply Kd.R_drew)); exact HO_6.out⟩, ⟨by (with_reducible repeat (first | apply Kd.R_alloc | apply Kd.R_drewN | apply Kd.R_drew)); exact HO_39.out⟩, ⟨by repeat (first | (with_reducible first | exact HB.out | apply below_alloc | apply pw_below_drewN | apply below_drew1) | exact HB.out)⟩⟩
                          · replace c26 := Bool.eq_false_iff.mpr c26
                            subst c26
                            have H1 : (some false) = some r := by rw [if_neg (show ¬ (false = true) by decide)] at H; exact H
                            clear H
                            have H := H1
                            clear H1
                            obtain rfl := Option.some.inj H
                            have p131 : 0 ≤ (x41_2 : Int) := of_decide_eq_true (by first | (with_reducible assumption) | assumption)
                            have q131 : x41_2 < (t126.length : Int) := of_decide_eq_true (by first | (with_reducible assumption) | assumption)
                            obtain ⟨ad131, e131, hx131_0⟩ := Kd.at_int (Kd.R_reads' HO_39.out).2.2 x41_2 p131 q131
                            cases e131
                            replace p131 := eq_true p131
                            replace q131 := eq_true q131
                            obtain ⟨Ao28, co28, eo28⟩ := Kd.R_slice HO_6.out
                            subst eo28
                            have p132 : 0 ≤ ((ji21) : Int) := of_decide_eq_true (by first | (with_reducible assumption) | assumption)
                            have q132 : (ji21) < (t123.length : Int) := of_decide_eq_true (by first | (with_reducible assumption) | assumption)
                            obtain ⟨ad132, e132, hx132_0⟩ := Kd.at_int (Kd.R_reads' HO_6.out).2.2 (ji21) p132 q132
                            cases e132
                            replace p132 := eq_true p132
                            replace q132 := eq_true q132
                            go_wp2_with (first | (go_at_call 23; (with_reducible refine (class_Begins.calls (rd t126 x41_2) (wrap64 (Int.tmod a0 3)) false _ A25.out).mono ?_); rintro e w' ⟨rfl, ⟨nd, rfl⟩⟩))
                            go_ret
                            exact ⟨by first | rfl | (simp [errW_none, errW_some] <;> rfl) | (simp only [← hji21]; first | rfl | (simp [errW_none, errW_some] <;> rfl)) | (simp [*, errW_none, errW_some] <;> rfl), by repeat (first | (with_reducible first | exact HB.out | apply below_alloc | apply pw_below_drewN | apply below_drew1) | exact HB.out)⟩
                        · rw [if_neg c24] at H
                          have c24b0 : ((rd t123 (ji21)) == (rd t126 x41_2)) = false := beq_eq_false_iff_ne.mpr c24
                          have c24b1 : ((rd t123 (ji21)) != (rd t126 x41_2)) = true := bne_iff_ne.mpr c24
                          obtain rfl := Option.some.inj H
                          have p131 : 0 ≤ (x41_2 : Int) := of_decide_eq_true (by first | (with_reducible assumption) | assumption)
                          have q131 : x41_2 < (t126.length : Int) := of_decide_eq_true (by first | (with_reducible assumption) | assumption)
                          obtain ⟨ad131, e131, hx131_0⟩ := Kd.at_int (Kd.R_reads' HO_39.out).2.2 x41_2 p131 q131
                          cases e131
                          replace p131 := eq_true p131
                          replace q131 := eq_true q131
                          obtain ⟨Ao29, co29, eo29⟩ := Kd.R_slice HO_6.out
                          subst eo29
                          have p132 : 0 ≤ ((ji21) : Int) := of_decide_eq_true (by first | (with_reducible assumption) | assumption)
                          have q132 : (ji21) < (t123.length : Int) := of_decide_eq_true (by first | (with_reducible assumption) | assumption)
                          obtain ⟨ad132, e132, hx132_0⟩ := Kd.at_int (Kd.R_reads' HO_6.out).2.2 (ji21) p132 q132
                          cases e132
                          replace p132 := eq_true p132
                          replace q132 := eq_true q132
                          go_wp2
                          go_ret
                          exact ⟨by first | rfl | (simp [errW_none, errW_some] <;> rfl) | (simp only [← hji21]; first | rfl | (simp [errW_none, errW_some] <;> rfl)) | (simp [*, errW_none, errW_some] <;> rfl), by repeat (first | (with_reducible first | exact HB.out | apply below_alloc | apply pw_below_drewN | apply below_drew1) | exact HB.out)⟩
                      · rw [if_neg c23] at H
                        exact absurd H (by simp)
                    · rw [if_neg c22] at H
                      exact absurd H (by simp)
                  · rw [if_neg c20] at H
                    exact absurd H (by simp)
                · rw [if_neg c19] at H
                  exact absurd H (by simp)
              · rw [if_neg c18] at H
                have c18b0 : decide (x41_2 < (t126.length : Int)) = false := decide_eq_false c18
                clear c18
                obtain rfl := Option.some.inj H
                go_wp2
                go_ret
                exact ⟨by first | rfl | (simp [errW_none, errW_some] <;> rfl) | (simp [*, errW_none, errW_some] <;> rfl), by repeat (first | (with_reducible first | exact HB.out | apply below_alloc | apply pw_below_drewN | apply below_drew1) | exact HB.out)⟩
  · replace c4 := Bool.eq_false_iff.mpr c4
    subst c4
    have H1 : (some false) = some r := by rw [if_neg (show ¬ (false = true) by decide)] at H; exact H
    clear H
    have H := H1
    clear H1
    obtain rfl := Option.some.inj H
    go_enter Try.func6, Try.ntmps6
    go_wp2_with (first | ((with_reducible refine gate_callee (f := 13) rfl ?_); refine goesL_ (some 10) rfl rfl Try.func13 (by kernel_rfl) rfl #[] rfl (by (try simp only [List.map_toArray, List.map_cons, List.map_nil]); first | done | rfl | (simp only [List.length_drop, List.length_take]; rfl)) ?_; (with_reducible refine (lockstitchlaw13_alive.calls k  false _ A3.out).mono ?_); rintro e w30 ⟨rfl, hb⟩; refine ⟨_, rfl, ?_⟩; have n0_ := Aside0.mk (below_step (by repeat (first | (with_reducible first | exact HB.out | apply below_alloc | apply pw_below_drewN | apply below_drew1) | exact HB.out)) hb); clear HB; have HB := n0_; clear n0_; (try clear hb); (try clear hb2); (try clear hk); (try clear hi)))
    go_ret
    exact ⟨by first | rfl | (simp [errW_none, errW_some] <;> rfl) | (simp [*, errW_none, errW_some] <;> rfl), by repeat (first | (with_reducible first | exact HB.out | apply below_alloc | apply pw_below_drewN | apply below_drew1) | exact HB.out)⟩

/-- THE ONE PURE STATEMENT of lockstitchlaw13_ClassDoubles: yours. -/
def lockstitchlaw13_ClassDoubles.Pure : Prop := ∀ (a0 : Int) (a1 : Int), (Lit.int .u8 a0).wf = true → (Lit.int .u8 a1).wf = true → ∃ k, lockstitchlaw13_ClassDoubles.f k a0 a1 = some true
theorem lockstitchlaw13_ClassDoubles.walk (P : lockstitchlaw13_ClassDoubles.Pure) (a0 : Int) (a1 : Int) (w : World) (w0 : (Lit.int .u8 a0).wf = true) (w1 : (Lit.int .u8 a1).wf = true) :
    Calls Try.prog 6 #[.int .u8 a0, .int .u8 a1] w fun e w' => e = .returned (.bool true) ∧ Below w.heap.size w w' := by
  obtain ⟨k, h⟩ := P a0 a1 w0 w1
  refine (lockstitchlaw13_ClassDoubles.calls k a0 a1 true w h).mono ?_
  rintro e w' ⟨rfl, hd⟩
  exact ⟨rfl, hd⟩

end Go.Proofs.Ytlbjcaefemmjmaa.PClassDoubles
