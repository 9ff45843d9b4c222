/- BitsSet: what the walk shows is true for any two sets and numbers. -/
import Derived.Test.YtibmjednieopfaaDoorBitRef
set_option linter.unusedVariables false
set_option linter.unusedSimpArgs false
namespace Go.Proofs.YtibmjednieopfaaDoor
open Go.RowKit
set_option maxHeartbeats 6400000 in
theorem set_ok (vxs : Value) (vys : Value) (xs : List Int) (ys : List Int) (i k : Nat) (w : World) (hvxs : Rd u64e w vxs xs) (huxs : U64 xs) (hvys : Rd u64e w vys ys) (huys : U64 ys) (hi : i ≤ 65535) (hk : k ≤ 65535) (hT : TabW w) :
    Calls Tryd.prog 6 #[vxs, vys, .agg #[.int .u16 i, .int .u16 k]] w fun e w' => e = .returned (.bool true) ∧ Below w.heap.size w w' := by
  obtain ⟨Axs, cxs, rfl, _⟩ := hvxs.len
  obtain ⟨Ays, cys, rfl, _⟩ := hvys.len
  have HUxs := Lib.hid huxs
  have Rxs := Lib.hid hvxs
  have HUys := Lib.hid huys
  have Rys := Lib.hid hvys
  have HT := Lib.hid hT
  clear hT hvxs huxs hvys huys
  go_enter Tryd.func6, Tryd.ntmps6
  go_wp2_with fail
  have hBx := Blk.new w 42 #[.int .u16 i, .int .u16 k]
  refine (alive_ok _ (HT.out.below (below_alloc _ _))).mono ?_
  rintro e w0 ⟨rfl, hb0'⟩
  replace hBx := hBx.below hb0' hBx.lt
  have c0 : w0.cell? ⟨w.heap.size, 0, none⟩ = some (.int .u16 i) := hBx.cell 0
  have c1 : w0.cell? ⟨w.heap.size, 1, none⟩ = some (.int .u16 k) := hBx.cell 1
  have hb0 := below_all (below_alloc w _) hb0'
  clear hBx hb0'
  by_cases hlxs : xs.length ≤ 12
  · have txs : decide ((12 : Int) < ((xs.length : Nat) : Int)) = false := by rw [decide_eq_false_iff_not]; omega
    by_cases hlys : ys.length ≤ 12
    · have tys : decide ((12 : Int) < ((ys.length : Nat) : Int)) = false := by rw [decide_eq_false_iff_not]; omega
      replace Rxs := Lib.hid (Rxs.out.below hb0)
      replace Rys := Lib.hid (Rys.out.below hb0)
      have hb := hb0
      clear hb0
      go_wp2_with fail
      go_quiet (fail)
      replace Rxs := Lib.hid (Rxs.out.drewN nq)
      replace Rys := Lib.hid (Rys.out.drewN nq)
      replace hb := below_drewN hb nq
      clear c0 c1
      generalize w0.drewN nq = wq at Rxs Rys hb ⊢
      rcases hx : bitAt xs i with _ | _
      all_goals rcases hy : bitAt ys i with _ | _
      all_goals by_cases hik : i = k
      all_goals
        have ti : ((i : Int) == (k : Int)) = decide (i = k) := by rw [Bool.eq_iff_iff, beq_iff_eq, decide_eq_true_iff]; omega
        have tn : ((i : Int) != (k : Int)) = !decide (i = k) := by rw [bne, ti]
        first | rw [decide_eq_true hik] at ti tn | rw [decide_eq_false hik] at ti tn
        have hhx : hasB xs (i : Int) = _ := (hasB_nat xs i).trans hx
        have hhy : hasB ys (i : Int) = _ := (hasB_nat ys i).trans hy
        replace hx := Lib.hid hx
        replace hy := Lib.hid hy
        replace hik := Lib.hid hik
        go_wp2_with fail
        refine (has_ok _ xs _ _ Rxs.out (by omega) HUxs.out (by omega) (by omega)).mono ?_
        rintro e w' ⟨rfl, rfl⟩
        go_wp2_with fail
        refine (has_ok _ ys _ _ Rys.out (by omega) HUys.out (by omega) (by omega)).mono ?_
        rintro e w' ⟨rfl, rfl⟩
        go_wp2_with fail
        refine (put_ok _ xs _ true _ Rxs.out (by omega) HUxs.out (by omega) (by omega)).mono ?_
        rintro e w1 ⟨v1, qt, rfl, Rqt, hpqt, hf1, hb1⟩
        clear hf1
        replace Rxs := Lib.hid (Rxs.out.below hb1)
        replace Rys := Lib.hid (Rys.out.below hb1)
        replace hb := below_all hb hb1
        clear hb1
        have hlqt : qt.length ≤ 1024 := by have h := hpqt.2.2.1; omega
        have HUqt := Lib.hid hpqt.1
        replace hpqt := Lib.hid hpqt
        replace Rqt := Lib.hid Rqt
        go_wp2_with fail
        refine (put_ok _ xs _ false _ Rxs.out (by omega) HUxs.out (by omega) (by omega)).mono ?_
        rintro e w2 ⟨v2, qf, rfl, Rqf, hpqf, hf2, hb2⟩
        clear hf2
        replace Rxs := Lib.hid (Rxs.out.below hb2)
        replace Rys := Lib.hid (Rys.out.below hb2)
        replace Rqt := Lib.hid (Rqt.out.below hb2)
        replace hb := below_all hb hb2
        clear hb2
        have hlqf : qf.length ≤ 1024 := by have h := hpqf.2.2.1; omega
        have HUqf := Lib.hid hpqf.1
        replace hpqf := Lib.hid hpqf
        replace Rqf := Lib.hid Rqf
        have h1 := (hasB_nat qt i).trans (hpqt.out.2.2.2 i)
        have h2 := (hasB_nat qf i).trans (hpqf.out.2.2.2 i)
        first | (rw [if_pos ⟨by have := hik.out; omega, by omega⟩] at h1 h2) | (rw [if_neg (by have := hik.out; omega), hx.out] at h1 h2)
        go_wp2_with fail
        refine (has_ok _ qt _ _ Rqt.out (by omega) HUqt.out (by omega) (by omega)).mono ?_
        rintro e w' ⟨rfl, rfl⟩
        go_wp2_with fail
        refine (has_ok _ qf _ _ Rqf.out (by omega) HUqf.out (by omega) (by omega)).mono ?_
        rintro e w' ⟨rfl, rfl⟩
        go_wp2_with fail
        refine (and_ok _ _ xs ys _ Rxs.out Rys.out (by omega) (by omega) HUxs.out HUys.out).mono ?_
        rintro e w3 ⟨v3, qand, rfl, Rqand, hpqand, hf3, hb3⟩
        clear hf3
        replace Rxs := Lib.hid (Rxs.out.below hb3)
        replace Rys := Lib.hid (Rys.out.below hb3)
        replace Rqt := Lib.hid (Rqt.out.below hb3)
        replace Rqf := Lib.hid (Rqf.out.below hb3)
        replace hb := below_all hb hb3
        clear hb3
        have hlqand : qand.length ≤ 12 := by have h := hpqand.2.2.1; omega
        have HUqand := Lib.hid hpqand.1
        replace hpqand := Lib.hid hpqand
        replace Rqand := Lib.hid Rqand
        have gand := (hasB_nat qand i).trans (hpqand.out.2.2.2 i)
        rw [hx.out, hy.out] at gand
        simp only [op3, Bool.and_true, Bool.and_false, Bool.true_and, Bool.false_and, Bool.or_true, Bool.or_false, Bool.not_true, Bool.not_false] at gand
        go_wp2_with fail
        refine (has_ok _ qand _ _ Rqand.out (by omega) HUqand.out (by omega) (by omega)).mono ?_
        rintro e w' ⟨rfl, rfl⟩
        go_wp2_with fail
        refine (or_ok _ _ xs ys _ Rxs.out Rys.out (by omega) (by omega) HUxs.out HUys.out).mono ?_
        rintro e w4 ⟨v4, qor, rfl, Rqor, hpqor, hf4, hb4⟩
        clear hf4
        replace Rxs := Lib.hid (Rxs.out.below hb4)
        replace Rys := Lib.hid (Rys.out.below hb4)
        replace Rqt := Lib.hid (Rqt.out.below hb4)
        replace Rqf := Lib.hid (Rqf.out.below hb4)
        replace Rqand := Lib.hid (Rqand.out.below hb4)
        replace hb := below_all hb hb4
        clear hb4
        have hlqor : qor.length ≤ 12 := by have h := hpqor.2.2.1; omega
        have HUqor := Lib.hid hpqor.1
        replace hpqor := Lib.hid hpqor
        replace Rqor := Lib.hid Rqor
        have gor := (hasB_nat qor i).trans (hpqor.out.2.2.2 i)
        rw [hx.out, hy.out] at gor
        simp only [op3, Bool.and_true, Bool.and_false, Bool.true_and, Bool.false_and, Bool.or_true, Bool.or_false, Bool.not_true, Bool.not_false] at gor
        go_wp2_with fail
        refine (has_ok _ qor _ _ Rqor.out (by omega) HUqor.out (by omega) (by omega)).mono ?_
        rintro e w' ⟨rfl, rfl⟩
        go_wp2_with fail
        refine (less_ok _ _ xs ys _ Rxs.out Rys.out (by omega) (by omega) HUxs.out HUys.out).mono ?_
        rintro e w5 ⟨v5, qless, rfl, Rqless, hpqless, hf5, hb5⟩
        clear hf5
        replace Rxs := Lib.hid (Rxs.out.below hb5)
        replace Rys := Lib.hid (Rys.out.below hb5)
        replace Rqt := Lib.hid (Rqt.out.below hb5)
        replace Rqf := Lib.hid (Rqf.out.below hb5)
        replace Rqand := Lib.hid (Rqand.out.below hb5)
        replace Rqor := Lib.hid (Rqor.out.below hb5)
        replace hb := below_all hb hb5
        clear hb5
        have hlqless : qless.length ≤ 12 := by have h := hpqless.2.2.1; omega
        have HUqless := Lib.hid hpqless.1
        replace hpqless := Lib.hid hpqless
        replace Rqless := Lib.hid Rqless
        have gless := (hasB_nat qless i).trans (hpqless.out.2.2.2 i)
        rw [hx.out, hy.out] at gless
        simp only [op3, Bool.and_true, Bool.and_false, Bool.true_and, Bool.false_and, Bool.or_true, Bool.or_false, Bool.not_true, Bool.not_false] at gless
        go_wp2_with fail
        refine (has_ok _ qless _ _ Rqless.out (by omega) HUqless.out (by omega) (by omega)).mono ?_
        rintro e w' ⟨rfl, rfl⟩
        go_wp2_with fail
        go_ret
        exact ⟨rfl, hb⟩
    · have tys : decide ((12 : Int) < ((ys.length : Nat) : Int)) = true := by rw [decide_eq_true_iff]; omega
      go_wp2_with fail
      go_ret
      exact ⟨rfl, hb0⟩
  · have txs : decide ((12 : Int) < ((xs.length : Nat) : Int)) = true := by rw [decide_eq_true_iff]; omega
    go_wp2_with fail
    go_ret
    exact ⟨rfl, hb0⟩
end Go.Proofs.YtibmjednieopfaaDoor
