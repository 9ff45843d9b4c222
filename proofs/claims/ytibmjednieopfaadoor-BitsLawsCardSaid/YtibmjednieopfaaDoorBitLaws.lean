/- BitsLaws: what the walk shows is true for any three sets. -/
import Derived.Test.YtibmjednieopfaaDoorBitAlive
set_option linter.unusedVariables false
set_option linter.unusedSimpArgs false
namespace Go.Proofs.YtibmjednieopfaaDoor
open Go.RowKit
theorem same_of {a b : List Int} (ha : U64 a) (hb : U64 b) (h : ∀ j, bitAt a j = bitAt b j) : sameB a b = true := by
  unfold sameB
  rw [decide_eq_true_iff, canon_iff ha hb]
  exact h
set_option maxHeartbeats 6400000 in
theorem laws_ok (vxs : Value) (vys : Value) (vzs : Value) (xs : List Int) (ys : List Int) (zs : List Int) (w : World) (hvxs : Rd u64e w vxs xs) (huxs : U64 xs) (hvys : Rd u64e w vys ys) (huys : U64 ys) (hvzs : Rd u64e w vzs zs) (huzs : U64 zs) (hT : TabW w) :
    Calls Tryd.prog 9 #[vxs, vys, vzs] w fun e w' => e = .returned (.bool true) ∧ Below w.heap.size w w' := by
  obtain ⟨Axs, cxs, rfl, _⟩ := hvxs.len
  obtain ⟨Ays, cys, rfl, _⟩ := hvys.len
  obtain ⟨Azs, czs, rfl, _⟩ := hvzs.len
  have HUxs := Lib.hid huxs
  have Rxs := Lib.hid hvxs
  have HUys := Lib.hid huys
  have Rys := Lib.hid hvys
  have HUzs := Lib.hid huzs
  have Rzs := Lib.hid hvzs
  have HT := Lib.hid hT
  clear hT hvxs huxs hvys huys hvzs huzs
  go_enter Tryd.func9, Tryd.ntmps9
  go_wp2_with fail
  refine (alive_ok _ HT.out).mono ?_
  rintro e w0 ⟨rfl, hb0⟩
  by_cases hlxs : xs.length ≤ 12
  · have txs : decide ((12 : Int) < ((xs.length : Nat) : Int)) = false := by rw [decide_eq_false_iff_not]; omega
    by_cases hlys : ys.length ≤ 12
    · have tys : decide ((12 : Int) < ((ys.length : Nat) : Int)) = false := by rw [decide_eq_false_iff_not]; omega
      by_cases hlzs : zs.length ≤ 12
      · have tzs : decide ((12 : Int) < ((zs.length : Nat) : Int)) = false := by rw [decide_eq_false_iff_not]; omega
        replace Rxs := Lib.hid (Rxs.out.below hb0)
        replace Rys := Lib.hid (Rys.out.below hb0)
        replace Rzs := Lib.hid (Rzs.out.below hb0)
        have hb := hb0
        clear hb0
        go_wp2_with fail
        refine (or_ok _ _ ys zs _ Rys.out Rzs.out (by omega) (by omega) HUys.out HUzs.out).mono ?_
        rintro e w1 ⟨v1, q1, rfl, Rq1, hpq1, hf1, hb1⟩
        clear hf1
        replace Rxs := Lib.hid (Rxs.out.below hb1)
        replace Rys := Lib.hid (Rys.out.below hb1)
        replace Rzs := Lib.hid (Rzs.out.below hb1)
        replace hb := below_all hb hb1
        clear hb1
        have hlq1 : q1.length ≤ 12 := by have h := hpq1.2.2.1; omega
        have HUq1 := Lib.hid hpq1.1
        replace hpq1 := Lib.hid hpq1
        replace Rq1 := Lib.hid Rq1
        go_wp2_with fail
        refine (less_ok _ _ xs q1 _ Rxs.out Rq1.out (by omega) (by omega) HUxs.out HUq1.out).mono ?_
        rintro e w2 ⟨v2, one, rfl, Rone, hpone, hf2, hb2⟩
        clear hf2
        replace Rxs := Lib.hid (Rxs.out.below hb2)
        replace Rys := Lib.hid (Rys.out.below hb2)
        replace Rzs := Lib.hid (Rzs.out.below hb2)
        replace Rq1 := Lib.hid (Rq1.out.below hb2)
        replace hb := below_all hb hb2
        clear hb2
        have hlone : one.length ≤ 12 := by have h := hpone.2.2.1; omega
        have HUone := Lib.hid hpone.1
        replace hpone := Lib.hid hpone
        replace Rone := Lib.hid Rone
        go_wp2_with fail
        refine (less_ok _ _ xs ys _ Rxs.out Rys.out (by omega) (by omega) HUxs.out HUys.out).mono ?_
        rintro e w3 ⟨v3, q2, rfl, Rq2, hpq2, hf3, hb3⟩
        clear hf3
        replace Rxs := Lib.hid (Rxs.out.below hb3)
        replace Rys := Lib.hid (Rys.out.below hb3)
        replace Rzs := Lib.hid (Rzs.out.below hb3)
        replace Rq1 := Lib.hid (Rq1.out.below hb3)
        replace Rone := Lib.hid (Rone.out.below hb3)
        replace hb := below_all hb hb3
        clear hb3
        have hlq2 : q2.length ≤ 12 := by have h := hpq2.2.2.1; omega
        have HUq2 := Lib.hid hpq2.1
        replace hpq2 := Lib.hid hpq2
        replace Rq2 := Lib.hid Rq2
        go_wp2_with fail
        refine (less_ok _ _ q2 zs _ Rq2.out Rzs.out (by omega) (by omega) HUq2.out HUzs.out).mono ?_
        rintro e w4 ⟨v4, two, rfl, Rtwo, hptwo, hf4, hb4⟩
        clear hf4
        replace Rxs := Lib.hid (Rxs.out.below hb4)
        replace Rys := Lib.hid (Rys.out.below hb4)
        replace Rzs := Lib.hid (Rzs.out.below hb4)
        replace Rq1 := Lib.hid (Rq1.out.below hb4)
        replace Rone := Lib.hid (Rone.out.below hb4)
        replace Rq2 := Lib.hid (Rq2.out.below hb4)
        replace hb := below_all hb hb4
        clear hb4
        have hltwo : two.length ≤ 12 := by have h := hptwo.2.2.1; omega
        have HUtwo := Lib.hid hptwo.1
        replace hptwo := Lib.hid hptwo
        replace Rtwo := Lib.hid Rtwo
        have hs5 : sameB one two = true := same_of HUone.out HUtwo.out fun j => by rw [hpone.out.2.2.2 j, hpq1.out.2.2.2 j, hptwo.out.2.2.2 j, hpq2.out.2.2.2 j]; cases bitAt xs j <;> cases bitAt ys j <;> cases bitAt zs j <;> rfl
        go_wp2_with fail
        refine (same_ok _ _ one two _ Rone.out Rtwo.out (by omega) (by omega)).mono ?_
        rintro e w5 ⟨rfl, hb5⟩
        replace Rxs := Lib.hid (Rxs.out.below hb5)
        replace Rys := Lib.hid (Rys.out.below hb5)
        replace Rzs := Lib.hid (Rzs.out.below hb5)
        replace Rq1 := Lib.hid (Rq1.out.below hb5)
        replace Rone := Lib.hid (Rone.out.below hb5)
        replace Rq2 := Lib.hid (Rq2.out.below hb5)
        replace Rtwo := Lib.hid (Rtwo.out.below hb5)
        replace hb := below_all hb hb5
        clear hb5
        go_wp2_with fail
        refine (and_ok _ _ xs ys _ Rxs.out Rys.out (by omega) (by omega) HUxs.out HUys.out).mono ?_
        rintro e w6 ⟨v6, q3, rfl, Rq3, hpq3, hf6, hb6⟩
        clear hf6
        replace Rxs := Lib.hid (Rxs.out.below hb6)
        replace Rys := Lib.hid (Rys.out.below hb6)
        replace Rzs := Lib.hid (Rzs.out.below hb6)
        replace Rq1 := Lib.hid (Rq1.out.below hb6)
        replace Rone := Lib.hid (Rone.out.below hb6)
        replace Rq2 := Lib.hid (Rq2.out.below hb6)
        replace Rtwo := Lib.hid (Rtwo.out.below hb6)
        replace hb := below_all hb hb6
        clear hb6
        have hlq3 : q3.length ≤ 12 := by have h := hpq3.2.2.1; omega
        have HUq3 := Lib.hid hpq3.1
        replace hpq3 := Lib.hid hpq3
        replace Rq3 := Lib.hid Rq3
        go_wp2_with fail
        refine (and_ok _ _ ys xs _ Rys.out Rxs.out (by omega) (by omega) HUys.out HUxs.out).mono ?_
        rintro e w7 ⟨v7, q4, rfl, Rq4, hpq4, hf7, hb7⟩
        clear hf7
        replace Rxs := Lib.hid (Rxs.out.below hb7)
        replace Rys := Lib.hid (Rys.out.below hb7)
        replace Rzs := Lib.hid (Rzs.out.below hb7)
        replace Rq1 := Lib.hid (Rq1.out.below hb7)
        replace Rone := Lib.hid (Rone.out.below hb7)
        replace Rq2 := Lib.hid (Rq2.out.below hb7)
        replace Rtwo := Lib.hid (Rtwo.out.below hb7)
        replace Rq3 := Lib.hid (Rq3.out.below hb7)
        replace hb := below_all hb hb7
        clear hb7
        have hlq4 : q4.length ≤ 12 := by have h := hpq4.2.2.1; omega
        have HUq4 := Lib.hid hpq4.1
        replace hpq4 := Lib.hid hpq4
        replace Rq4 := Lib.hid Rq4
        have hs8 : sameB q3 q4 = true := same_of HUq3.out HUq4.out fun j => by rw [hpq3.out.2.2.2 j, hpq4.out.2.2.2 j]; cases bitAt xs j <;> cases bitAt ys j <;> rfl
        go_wp2_with fail
        refine (same_ok _ _ q3 q4 _ Rq3.out Rq4.out (by omega) (by omega)).mono ?_
        rintro e w8 ⟨rfl, hb8⟩
        replace Rxs := Lib.hid (Rxs.out.below hb8)
        replace Rys := Lib.hid (Rys.out.below hb8)
        replace Rzs := Lib.hid (Rzs.out.below hb8)
        replace Rq1 := Lib.hid (Rq1.out.below hb8)
        replace Rone := Lib.hid (Rone.out.below hb8)
        replace Rq2 := Lib.hid (Rq2.out.below hb8)
        replace Rtwo := Lib.hid (Rtwo.out.below hb8)
        replace Rq3 := Lib.hid (Rq3.out.below hb8)
        replace Rq4 := Lib.hid (Rq4.out.below hb8)
        replace hb := below_all hb hb8
        clear hb8
        go_wp2_with fail
        refine (or_ok _ _ xs ys _ Rxs.out Rys.out (by omega) (by omega) HUxs.out HUys.out).mono ?_
        rintro e w9 ⟨v9, q5, rfl, Rq5, hpq5, hf9, hb9⟩
        clear hf9
        replace Rxs := Lib.hid (Rxs.out.below hb9)
        replace Rys := Lib.hid (Rys.out.below hb9)
        replace Rzs := Lib.hid (Rzs.out.below hb9)
        replace Rq1 := Lib.hid (Rq1.out.below hb9)
        replace Rone := Lib.hid (Rone.out.below hb9)
        replace Rq2 := Lib.hid (Rq2.out.below hb9)
        replace Rtwo := Lib.hid (Rtwo.out.below hb9)
        replace Rq3 := Lib.hid (Rq3.out.below hb9)
        replace Rq4 := Lib.hid (Rq4.out.below hb9)
        replace hb := below_all hb hb9
        clear hb9
        have hlq5 : q5.length ≤ 12 := by have h := hpq5.2.2.1; omega
        have HUq5 := Lib.hid hpq5.1
        replace hpq5 := Lib.hid hpq5
        replace Rq5 := Lib.hid Rq5
        go_wp2_with fail
        refine (or_ok _ _ ys xs _ Rys.out Rxs.out (by omega) (by omega) HUys.out HUxs.out).mono ?_
        rintro e w10 ⟨v10, q6, rfl, Rq6, hpq6, hf10, hb10⟩
        clear hf10
        replace Rxs := Lib.hid (Rxs.out.below hb10)
        replace Rys := Lib.hid (Rys.out.below hb10)
        replace Rzs := Lib.hid (Rzs.out.below hb10)
        replace Rq1 := Lib.hid (Rq1.out.below hb10)
        replace Rone := Lib.hid (Rone.out.below hb10)
        replace Rq2 := Lib.hid (Rq2.out.below hb10)
        replace Rtwo := Lib.hid (Rtwo.out.below hb10)
        replace Rq3 := Lib.hid (Rq3.out.below hb10)
        replace Rq4 := Lib.hid (Rq4.out.below hb10)
        replace Rq5 := Lib.hid (Rq5.out.below hb10)
        replace hb := below_all hb hb10
        clear hb10
        have hlq6 : q6.length ≤ 12 := by have h := hpq6.2.2.1; omega
        have HUq6 := Lib.hid hpq6.1
        replace hpq6 := Lib.hid hpq6
        replace Rq6 := Lib.hid Rq6
        have hs11 : sameB q5 q6 = true := same_of HUq5.out HUq6.out fun j => by rw [hpq5.out.2.2.2 j, hpq6.out.2.2.2 j]; cases bitAt xs j <;> cases bitAt ys j <;> rfl
        go_wp2_with fail
        refine (same_ok _ _ q5 q6 _ Rq5.out Rq6.out (by omega) (by omega)).mono ?_
        rintro e w11 ⟨rfl, hb11⟩
        replace Rxs := Lib.hid (Rxs.out.below hb11)
        replace Rys := Lib.hid (Rys.out.below hb11)
        replace Rzs := Lib.hid (Rzs.out.below hb11)
        replace Rq1 := Lib.hid (Rq1.out.below hb11)
        replace Rone := Lib.hid (Rone.out.below hb11)
        replace Rq2 := Lib.hid (Rq2.out.below hb11)
        replace Rtwo := Lib.hid (Rtwo.out.below hb11)
        replace Rq3 := Lib.hid (Rq3.out.below hb11)
        replace Rq4 := Lib.hid (Rq4.out.below hb11)
        replace Rq5 := Lib.hid (Rq5.out.below hb11)
        replace Rq6 := Lib.hid (Rq6.out.below hb11)
        replace hb := below_all hb hb11
        clear hb11
        go_wp2_with fail
        refine (or_ok _ _ ys zs _ Rys.out Rzs.out (by omega) (by omega) HUys.out HUzs.out).mono ?_
        rintro e w12 ⟨v12, q7, rfl, Rq7, hpq7, hf12, hb12⟩
        clear hf12
        replace Rxs := Lib.hid (Rxs.out.below hb12)
        replace Rys := Lib.hid (Rys.out.below hb12)
        replace Rzs := Lib.hid (Rzs.out.below hb12)
        replace Rq1 := Lib.hid (Rq1.out.below hb12)
        replace Rone := Lib.hid (Rone.out.below hb12)
        replace Rq2 := Lib.hid (Rq2.out.below hb12)
        replace Rtwo := Lib.hid (Rtwo.out.below hb12)
        replace Rq3 := Lib.hid (Rq3.out.below hb12)
        replace Rq4 := Lib.hid (Rq4.out.below hb12)
        replace Rq5 := Lib.hid (Rq5.out.below hb12)
        replace Rq6 := Lib.hid (Rq6.out.below hb12)
        replace hb := below_all hb hb12
        clear hb12
        have hlq7 : q7.length ≤ 12 := by have h := hpq7.2.2.1; omega
        have HUq7 := Lib.hid hpq7.1
        replace hpq7 := Lib.hid hpq7
        replace Rq7 := Lib.hid Rq7
        go_wp2_with fail
        refine (and_ok _ _ xs q7 _ Rxs.out Rq7.out (by omega) (by omega) HUxs.out HUq7.out).mono ?_
        rintro e w13 ⟨v13, q8, rfl, Rq8, hpq8, hf13, hb13⟩
        clear hf13
        replace Rxs := Lib.hid (Rxs.out.below hb13)
        replace Rys := Lib.hid (Rys.out.below hb13)
        replace Rzs := Lib.hid (Rzs.out.below hb13)
        replace Rq1 := Lib.hid (Rq1.out.below hb13)
        replace Rone := Lib.hid (Rone.out.below hb13)
        replace Rq2 := Lib.hid (Rq2.out.below hb13)
        replace Rtwo := Lib.hid (Rtwo.out.below hb13)
        replace Rq3 := Lib.hid (Rq3.out.below hb13)
        replace Rq4 := Lib.hid (Rq4.out.below hb13)
        replace Rq5 := Lib.hid (Rq5.out.below hb13)
        replace Rq6 := Lib.hid (Rq6.out.below hb13)
        replace Rq7 := Lib.hid (Rq7.out.below hb13)
        replace hb := below_all hb hb13
        clear hb13
        have hlq8 : q8.length ≤ 12 := by have h := hpq8.2.2.1; omega
        have HUq8 := Lib.hid hpq8.1
        replace hpq8 := Lib.hid hpq8
        replace Rq8 := Lib.hid Rq8
        go_wp2_with fail
        refine (and_ok _ _ xs ys _ Rxs.out Rys.out (by omega) (by omega) HUxs.out HUys.out).mono ?_
        rintro e w14 ⟨v14, q9, rfl, Rq9, hpq9, hf14, hb14⟩
        clear hf14
        replace Rxs := Lib.hid (Rxs.out.below hb14)
        replace Rys := Lib.hid (Rys.out.below hb14)
        replace Rzs := Lib.hid (Rzs.out.below hb14)
        replace Rq1 := Lib.hid (Rq1.out.below hb14)
        replace Rone := Lib.hid (Rone.out.below hb14)
        replace Rq2 := Lib.hid (Rq2.out.below hb14)
        replace Rtwo := Lib.hid (Rtwo.out.below hb14)
        replace Rq3 := Lib.hid (Rq3.out.below hb14)
        replace Rq4 := Lib.hid (Rq4.out.below hb14)
        replace Rq5 := Lib.hid (Rq5.out.below hb14)
        replace Rq6 := Lib.hid (Rq6.out.below hb14)
        replace Rq7 := Lib.hid (Rq7.out.below hb14)
        replace Rq8 := Lib.hid (Rq8.out.below hb14)
        replace hb := below_all hb hb14
        clear hb14
        have hlq9 : q9.length ≤ 12 := by have h := hpq9.2.2.1; omega
        have HUq9 := Lib.hid hpq9.1
        replace hpq9 := Lib.hid hpq9
        replace Rq9 := Lib.hid Rq9
        go_wp2_with fail
        refine (and_ok _ _ xs zs _ Rxs.out Rzs.out (by omega) (by omega) HUxs.out HUzs.out).mono ?_
        rintro e w15 ⟨v15, q10, rfl, Rq10, hpq10, hf15, hb15⟩
        clear hf15
        replace Rxs := Lib.hid (Rxs.out.below hb15)
        replace Rys := Lib.hid (Rys.out.below hb15)
        replace Rzs := Lib.hid (Rzs.out.below hb15)
        replace Rq1 := Lib.hid (Rq1.out.below hb15)
        replace Rone := Lib.hid (Rone.out.below hb15)
        replace Rq2 := Lib.hid (Rq2.out.below hb15)
        replace Rtwo := Lib.hid (Rtwo.out.below hb15)
        replace Rq3 := Lib.hid (Rq3.out.below hb15)
        replace Rq4 := Lib.hid (Rq4.out.below hb15)
        replace Rq5 := Lib.hid (Rq5.out.below hb15)
        replace Rq6 := Lib.hid (Rq6.out.below hb15)
        replace Rq7 := Lib.hid (Rq7.out.below hb15)
        replace Rq8 := Lib.hid (Rq8.out.below hb15)
        replace Rq9 := Lib.hid (Rq9.out.below hb15)
        replace hb := below_all hb hb15
        clear hb15
        have hlq10 : q10.length ≤ 12 := by have h := hpq10.2.2.1; omega
        have HUq10 := Lib.hid hpq10.1
        replace hpq10 := Lib.hid hpq10
        replace Rq10 := Lib.hid Rq10
        go_wp2_with fail
        refine (or_ok _ _ q9 q10 _ Rq9.out Rq10.out (by omega) (by omega) HUq9.out HUq10.out).mono ?_
        rintro e w16 ⟨v16, q11, rfl, Rq11, hpq11, hf16, hb16⟩
        clear hf16
        replace Rxs := Lib.hid (Rxs.out.below hb16)
        replace Rys := Lib.hid (Rys.out.below hb16)
        replace Rzs := Lib.hid (Rzs.out.below hb16)
        replace Rq1 := Lib.hid (Rq1.out.below hb16)
        replace Rone := Lib.hid (Rone.out.below hb16)
        replace Rq2 := Lib.hid (Rq2.out.below hb16)
        replace Rtwo := Lib.hid (Rtwo.out.below hb16)
        replace Rq3 := Lib.hid (Rq3.out.below hb16)
        replace Rq4 := Lib.hid (Rq4.out.below hb16)
        replace Rq5 := Lib.hid (Rq5.out.below hb16)
        replace Rq6 := Lib.hid (Rq6.out.below hb16)
        replace Rq7 := Lib.hid (Rq7.out.below hb16)
        replace Rq8 := Lib.hid (Rq8.out.below hb16)
        replace Rq9 := Lib.hid (Rq9.out.below hb16)
        replace Rq10 := Lib.hid (Rq10.out.below hb16)
        replace hb := below_all hb hb16
        clear hb16
        have hlq11 : q11.length ≤ 12 := by have h := hpq11.2.2.1; omega
        have HUq11 := Lib.hid hpq11.1
        replace hpq11 := Lib.hid hpq11
        replace Rq11 := Lib.hid Rq11
        have hs17 : sameB q8 q11 = true := same_of HUq8.out HUq11.out fun j => by rw [hpq8.out.2.2.2 j, hpq7.out.2.2.2 j, hpq11.out.2.2.2 j, hpq9.out.2.2.2 j, hpq10.out.2.2.2 j]; cases bitAt xs j <;> cases bitAt ys j <;> cases bitAt zs j <;> rfl
        go_wp2_with fail
        refine (same_ok _ _ q8 q11 _ Rq8.out Rq11.out (by omega) (by omega)).mono ?_
        rintro e w17 ⟨rfl, hb17⟩
        replace Rxs := Lib.hid (Rxs.out.below hb17)
        replace Rys := Lib.hid (Rys.out.below hb17)
        replace Rzs := Lib.hid (Rzs.out.below hb17)
        replace Rq1 := Lib.hid (Rq1.out.below hb17)
        replace Rone := Lib.hid (Rone.out.below hb17)
        replace Rq2 := Lib.hid (Rq2.out.below hb17)
        replace Rtwo := Lib.hid (Rtwo.out.below hb17)
        replace Rq3 := Lib.hid (Rq3.out.below hb17)
        replace Rq4 := Lib.hid (Rq4.out.below hb17)
        replace Rq5 := Lib.hid (Rq5.out.below hb17)
        replace Rq6 := Lib.hid (Rq6.out.below hb17)
        replace Rq7 := Lib.hid (Rq7.out.below hb17)
        replace Rq8 := Lib.hid (Rq8.out.below hb17)
        replace Rq9 := Lib.hid (Rq9.out.below hb17)
        replace Rq10 := Lib.hid (Rq10.out.below hb17)
        replace Rq11 := Lib.hid (Rq11.out.below hb17)
        replace hb := below_all hb hb17
        clear hb17
        go_wp2_with fail
        refine (less_ok _ _ xs xs _ Rxs.out Rxs.out (by omega) (by omega) HUxs.out HUxs.out).mono ?_
        rintro e w18 ⟨v18, q12, rfl, Rq12, hpq12, hf18, hb18⟩
        clear hf18
        replace Rxs := Lib.hid (Rxs.out.below hb18)
        replace Rys := Lib.hid (Rys.out.below hb18)
        replace Rzs := Lib.hid (Rzs.out.below hb18)
        replace Rq1 := Lib.hid (Rq1.out.below hb18)
        replace Rone := Lib.hid (Rone.out.below hb18)
        replace Rq2 := Lib.hid (Rq2.out.below hb18)
        replace Rtwo := Lib.hid (Rtwo.out.below hb18)
        replace Rq3 := Lib.hid (Rq3.out.below hb18)
        replace Rq4 := Lib.hid (Rq4.out.below hb18)
        replace Rq5 := Lib.hid (Rq5.out.below hb18)
        replace Rq6 := Lib.hid (Rq6.out.below hb18)
        replace Rq7 := Lib.hid (Rq7.out.below hb18)
        replace Rq8 := Lib.hid (Rq8.out.below hb18)
        replace Rq9 := Lib.hid (Rq9.out.below hb18)
        replace Rq10 := Lib.hid (Rq10.out.below hb18)
        replace Rq11 := Lib.hid (Rq11.out.below hb18)
        replace hb := below_all hb hb18
        clear hb18
        have hlq12 : q12.length ≤ 12 := by have h := hpq12.2.2.1; omega
        have HUq12 := Lib.hid hpq12.1
        replace hpq12 := Lib.hid hpq12
        replace Rq12 := Lib.hid Rq12
        have hs19 : sameB q12 [] = true := same_of HUq12.out U64.nil fun j => by rw [hpq12.out.2.2.2 j, bitAt_nil]; cases bitAt xs j <;> rfl
        go_wp2_with fail
        refine (same_ok _ _ q12 [] _ Rq12.out (Rd.none_ u64e _) (by omega) (by simp)).mono ?_
        rintro e w19 ⟨rfl, hb19⟩
        replace Rxs := Lib.hid (Rxs.out.below hb19)
        replace Rys := Lib.hid (Rys.out.below hb19)
        replace Rzs := Lib.hid (Rzs.out.below hb19)
        replace Rq1 := Lib.hid (Rq1.out.below hb19)
        replace Rone := Lib.hid (Rone.out.below hb19)
        replace Rq2 := Lib.hid (Rq2.out.below hb19)
        replace Rtwo := Lib.hid (Rtwo.out.below hb19)
        replace Rq3 := Lib.hid (Rq3.out.below hb19)
        replace Rq4 := Lib.hid (Rq4.out.below hb19)
        replace Rq5 := Lib.hid (Rq5.out.below hb19)
        replace Rq6 := Lib.hid (Rq6.out.below hb19)
        replace Rq7 := Lib.hid (Rq7.out.below hb19)
        replace Rq8 := Lib.hid (Rq8.out.below hb19)
        replace Rq9 := Lib.hid (Rq9.out.below hb19)
        replace Rq10 := Lib.hid (Rq10.out.below hb19)
        replace Rq11 := Lib.hid (Rq11.out.below hb19)
        replace Rq12 := Lib.hid (Rq12.out.below hb19)
        replace hb := below_all hb hb19
        clear hb19
        go_wp2_with fail
        go_ret
        exact ⟨rfl, hb⟩
      · have tzs : decide ((12 : Int) < ((zs.length : Nat) : Int)) = true := by rw [decide_eq_true_iff]; omega
        go_wp2_with fail
        go_ret
        exact ⟨rfl, hb0⟩
    · have tys : decide ((12 : Int) < ((ys.length : Nat) : Int)) = true := by rw [decide_eq_true_iff]; omega
      go_wp2_with fail
      go_ret
      exact ⟨rfl, hb0⟩
  · have txs : decide ((12 : Int) < ((xs.length : Nat) : Int)) = true := by rw [decide_eq_true_iff]; omega
    go_wp2_with fail
    go_ret
    exact ⟨rfl, hb0⟩
end Go.Proofs.YtibmjednieopfaaDoor
