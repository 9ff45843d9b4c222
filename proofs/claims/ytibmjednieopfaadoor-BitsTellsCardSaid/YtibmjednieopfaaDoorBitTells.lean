/- BitsTells: what the walk shows is true for any set and any number. -/
import Derived.Test.YtibmjednieopfaaDoorBitRPut
set_option linter.unusedVariables false
set_option linter.unusedSimpArgs false
namespace Go.Proofs.YtibmjednieopfaaDoor
open Go.RowKit

theorem putB_uniq {xs ys zs : List Int} {i : Int} {is : Bool} (h : PutB xs i is ys) (k : PutB xs i is zs) : ys = zs :=
  canon h.1 k.1 h.2.1 k.2.1 fun j => by rw [h.2.2.2 j, k.2.2.2 j]
set_option maxHeartbeats 3200000 in
theorem tells_ok (v : Value) (xs : List Int) (i : Int) (is : Bool) (w : World) (hv : Rd u64e w v xs) (hu : U64 xs) (hi : i ≤ 9223372036854775807) (hi0 : -9223372036854775808 ≤ i) (hT : TabW w) :
    Calls Tryd.prog 3 #[v, .int .i64 i, .bool is] w fun e w' => e = .returned (.bool true) ∧ Below w.heap.size w w' := by
  obtain ⟨A, c, rfl, _⟩ := hv.len
  have HU := Lib.hid hu
  have RX := Lib.hid hv
  have HT := Lib.hid hT
  clear hu hv hT
  go_enter Tryd.func3, Tryd.ntmps3
  go_wp2_with fail
  refine (alive_ok _ HT.out).mono ?_
  rintro e w1 ⟨rfl, hb1⟩
  by_cases hl : xs.length ≤ 12
  · have t0 : decide ((12 : Int) < ((xs.length : Nat) : Int)) = false := by rw [decide_eq_false_iff_not]; omega
    have hl9 : xs.length ≤ 549755813888 := by omega
    have RX1 := Lib.hid (RX.out.below hb1)
    have HT1 := Lib.hid (HT.out.below hb1)
    by_cases h1 : 2000 < i
    · by_cases h2 : i < 65536
      · have t1 : decide (2000 < i) = true := by rw [decide_eq_true_iff]; omega
        have t2 : decide (i < 65536) = true := by rw [decide_eq_true_iff]; omega
        clear h1 h2
        go_wp2_with fail
        refine (has_ok _ xs _ _ RX1.out (by omega) HU.out (by omega) (by omega)).mono ?_
        rintro e w' ⟨rfl, rfl⟩
        go_wp2_with fail
        refine (rhas_ok _ xs _ _ RX1.out (by omega) HU.out (by omega) (by omega)).mono ?_
        rintro e w' ⟨rfl, rfl⟩
        have tq : (hasB xs 2000 == hasB xs 2000) = true := beq_self_eq_true _
        go_wp2_with fail
        refine (put_ok _ xs _ is _ RX1.out (by omega) HU.out (by omega) (by omega)).mono ?_
        rintro e w2 ⟨v2, ys, rfl, hr2, hp2, hf2, hb2⟩
        have RX2 := Lib.hid (RX1.out.below hb2)
        replace hp2 := Lib.hid hp2
        replace hr2 := Lib.hid hr2
        go_wp2_with fail
        refine (rput_ok _ xs _ is _ RX2.out (by omega) HU.out (by omega) (by omega)).mono ?_
        rintro e w3 ⟨v3, zs, rfl, hr3, hp3, hf3, hb3⟩
        obtain rfl := putB_uniq hp2.out hp3
        have hly : ys.length ≤ 1099511627776 := by have := hp3.2.2.1; omega
        clear hp3
        go_wp2_with fail
        refine (words_ok _ _ ys ys _ (hr2.out.below hb3) hr3 hly hly).mono ?_
        rintro e w4 ⟨rfl, hb4⟩
        have td : decide (ys = ys) = true := decide_eq_true rfl
        have RX4 := Lib.hid ((RX2.out.below hb3).below hb4)
        have HT4 := Lib.hid (((HT1.out.below hb2).below hb3).below hb4)
        have hb := below_all (below_all (below_all hb1 hb2) hb3) hb4
        go_wp2_with fail
        refine (count_ok _ xs _ RX4.out (by omega) HU.out).mono ?_
        rintro e w' ⟨rfl, rfl⟩
        go_wp2_with fail
        refine (rcount_ok _ xs _ RX4.out (by omega) HU.out).mono ?_
        rintro e w' ⟨rfl, rfl⟩
        go_wp2_with fail
        refine (next_ok _ xs _ _ RX4.out (by omega) HU.out (by omega) (by omega) HT4.out).mono ?_
        rintro e w' ⟨r, rfl, hn, rfl⟩
        replace hn := Lib.hid hn
        go_wp2_with fail
        refine (rnext_ok _ xs _ _ RX4.out (by omega) HU.out (by omega) (by omega)).mono ?_
        rintro e w' ⟨r', rfl, hn', rfl⟩
        obtain rfl := hn.out.uniq hn'
        clear hn'
        go_wp2_with fail
        go_ret
        exact ⟨rfl, hb⟩
      · have t1 : decide (2000 < i) = true := by rw [decide_eq_true_iff]; omega
        have t2 : decide (i < 65536) = false := by rw [decide_eq_false_iff_not]; omega
        clear h1 h2
        go_wp2_with fail
        refine (has_ok _ xs _ _ RX1.out (by omega) HU.out (by omega) (by omega)).mono ?_
        rintro e w' ⟨rfl, rfl⟩
        go_wp2_with fail
        refine (rhas_ok _ xs _ _ RX1.out (by omega) HU.out (by omega) (by omega)).mono ?_
        rintro e w' ⟨rfl, rfl⟩
        have tq : (hasB xs i == hasB xs i) = true := beq_self_eq_true _
        go_wp2_with fail
        refine (put_ok _ xs _ is _ RX1.out (by omega) HU.out (by omega) (by omega)).mono ?_
        rintro e w2 ⟨v2, ys, rfl, hr2, hp2, hf2, hb2⟩
        have RX2 := Lib.hid (RX1.out.below hb2)
        replace hp2 := Lib.hid hp2
        replace hr2 := Lib.hid hr2
        go_wp2_with fail
        refine (rput_ok _ xs _ is _ RX2.out (by omega) HU.out (by omega) (by omega)).mono ?_
        rintro e w3 ⟨v3, zs, rfl, hr3, hp3, hf3, hb3⟩
        obtain rfl := putB_uniq hp2.out hp3
        have hly : ys.length ≤ 1099511627776 := by have := hp3.2.2.1; omega
        clear hp3
        go_wp2_with fail
        refine (words_ok _ _ ys ys _ (hr2.out.below hb3) hr3 hly hly).mono ?_
        rintro e w4 ⟨rfl, hb4⟩
        have td : decide (ys = ys) = true := decide_eq_true rfl
        have RX4 := Lib.hid ((RX2.out.below hb3).below hb4)
        have HT4 := Lib.hid (((HT1.out.below hb2).below hb3).below hb4)
        have hb := below_all (below_all (below_all hb1 hb2) hb3) hb4
        go_wp2_with fail
        refine (count_ok _ xs _ RX4.out (by omega) HU.out).mono ?_
        rintro e w' ⟨rfl, rfl⟩
        go_wp2_with fail
        refine (rcount_ok _ xs _ RX4.out (by omega) HU.out).mono ?_
        rintro e w' ⟨rfl, rfl⟩
        go_wp2_with fail
        refine (next_ok _ xs _ _ RX4.out (by omega) HU.out (by omega) (by omega) HT4.out).mono ?_
        rintro e w' ⟨r, rfl, hn, rfl⟩
        replace hn := Lib.hid hn
        go_wp2_with fail
        refine (rnext_ok _ xs _ _ RX4.out (by omega) HU.out (by omega) (by omega)).mono ?_
        rintro e w' ⟨r', rfl, hn', rfl⟩
        obtain rfl := hn.out.uniq hn'
        clear hn'
        go_wp2_with fail
        go_ret
        exact ⟨rfl, hb⟩
    · have t1 : decide (2000 < i) = false := by rw [decide_eq_false_iff_not]; omega
      clear h1
      go_wp2_with fail
      refine (has_ok _ xs _ _ RX1.out (by omega) HU.out (by omega) (by omega)).mono ?_
      rintro e w' ⟨rfl, rfl⟩
      go_wp2_with fail
      refine (rhas_ok _ xs _ _ RX1.out (by omega) HU.out (by omega) (by omega)).mono ?_
      rintro e w' ⟨rfl, rfl⟩
      have tq : (hasB xs i == hasB xs i) = true := beq_self_eq_true _
      go_wp2_with fail
      refine (put_ok _ xs _ is _ RX1.out (by omega) HU.out (by omega) (by omega)).mono ?_
      rintro e w2 ⟨v2, ys, rfl, hr2, hp2, hf2, hb2⟩
      have RX2 := Lib.hid (RX1.out.below hb2)
      replace hp2 := Lib.hid hp2
      replace hr2 := Lib.hid hr2
      go_wp2_with fail
      refine (rput_ok _ xs _ is _ RX2.out (by omega) HU.out (by omega) (by omega)).mono ?_
      rintro e w3 ⟨v3, zs, rfl, hr3, hp3, hf3, hb3⟩
      obtain rfl := putB_uniq hp2.out hp3
      have hly : ys.length ≤ 1099511627776 := by have := hp3.2.2.1; omega
      clear hp3
      go_wp2_with fail
      refine (words_ok _ _ ys ys _ (hr2.out.below hb3) hr3 hly hly).mono ?_
      rintro e w4 ⟨rfl, hb4⟩
      have td : decide (ys = ys) = true := decide_eq_true rfl
      have RX4 := Lib.hid ((RX2.out.below hb3).below hb4)
      have HT4 := Lib.hid (((HT1.out.below hb2).below hb3).below hb4)
      have hb := below_all (below_all (below_all hb1 hb2) hb3) hb4
      go_wp2_with fail
      refine (count_ok _ xs _ RX4.out (by omega) HU.out).mono ?_
      rintro e w' ⟨rfl, rfl⟩
      go_wp2_with fail
      refine (rcount_ok _ xs _ RX4.out (by omega) HU.out).mono ?_
      rintro e w' ⟨rfl, rfl⟩
      go_wp2_with fail
      refine (next_ok _ xs _ _ RX4.out (by omega) HU.out (by omega) (by omega) HT4.out).mono ?_
      rintro e w' ⟨r, rfl, hn, rfl⟩
      replace hn := Lib.hid hn
      go_wp2_with fail
      refine (rnext_ok _ xs _ _ RX4.out (by omega) HU.out (by omega) (by omega)).mono ?_
      rintro e w' ⟨r', rfl, hn', rfl⟩
      obtain rfl := hn.out.uniq hn'
      clear hn'
      go_wp2_with fail
      go_ret
      exact ⟨rfl, hb⟩
  · have t0 : decide ((12 : Int) < ((xs.length : Nat) : Int)) = true := by rw [decide_eq_true_iff]; omega
    go_wp2_with fail
    go_ret
    exact ⟨rfl, hb1⟩
end Go.Proofs.YtibmjednieopfaaDoor
