/- BitsCounts: what the walk shows is true for any two sets. -/
import Derived.Test.YtibmjednieopfaaDoorBitAlive
set_option linter.unusedVariables false
set_option linter.unusedSimpArgs false
namespace Go.Proofs.YtibmjednieopfaaDoor
open Go.RowKit
theorem same_of {a b : List Int} (ha : U64 a) (hb : U64 b) (h : ∀ j, bitAt a j = bitAt b j) : sameB a b = true := by
  unfold sameB
  rw [decide_eq_true_iff, canon_iff ha hb]
  exact h
theorem count_split {p q r s : Nat → Bool} (h1 : ∀ j, r j = (p j && q j)) (h2 : ∀ j, s j = (p j || q j)) : ∀ n, countTo r n + countTo s n = countTo p n + countTo q n
  | 0 => rfl
  | n + 1 => by
    have := count_split h1 h2 n
    unfold countTo
    rw [h1 n, h2 n]
    cases p n <;> cases q n <;> simp <;> omega
theorem count_less {p q r s : Nat → Bool} (h1 : ∀ j, r j = (p j && q j)) (h2 : ∀ j, s j = (p j && !q j)) : ∀ n, countTo r n + countTo s n = countTo p n
  | 0 => rfl
  | n + 1 => by
    have := count_less h1 h2 n
    unfold countTo
    rw [h1 n, h2 n]
    cases p n <;> cases q n <;> simp <;> omega
theorem pop_both {xs ys r s : List Int} (h1 : ∀ j, bitAt r j = op3 .and (bitAt xs j) (bitAt ys j)) (h2 : ∀ j, bitAt s j = op3 .or (bitAt xs j) (bitAt ys j)) : popAll r + popAll s = popAll xs + popAll ys := by
  have h := count_split h1 h2 (64 * (xs.length + ys.length + r.length + s.length))
  rw [popAll_upto r (by omega), popAll_upto s (by omega), popAll_upto xs (by omega), popAll_upto ys (by omega)] at h
  exact h
theorem pop_less {xs ys r s : List Int} (h1 : ∀ j, bitAt r j = op3 .and (bitAt xs j) (bitAt ys j)) (h2 : ∀ j, bitAt s j = op3 .andNot (bitAt xs j) (bitAt ys j)) : popAll r + popAll s = popAll xs := by
  have h := count_less h1 h2 (64 * (xs.length + ys.length + r.length + s.length))
  rw [popAll_upto r (by omega), popAll_upto s (by omega), popAll_upto xs (by omega)] at h
  exact h
set_option maxHeartbeats 6400000 in
theorem counts_ok (vxs : Value) (vys : Value) (xs : List Int) (ys : List Int) (w : World) (hvxs : Rd u64e w vxs xs) (huxs : U64 xs) (hvys : Rd u64e w vys ys) (huys : U64 ys) (hT : TabW w) :
    Calls Tryd.prog 7 #[vxs, vys] w fun e w' => e = .returned (.bool true) ∧ Below w.heap.size w w' := by
  obtain ⟨Axs, cxs, rfl, _⟩ := hvxs.len
  obtain ⟨Ays, cys, rfl, _⟩ := hvys.len
  have HUxs := Lib.hid huxs
  have Rxs := Lib.hid hvxs
  have HUys := Lib.hid huys
  have Rys := Lib.hid hvys
  have HT := Lib.hid hT
  clear hT hvxs huxs hvys huys
  go_enter Tryd.func7, Tryd.ntmps7
  go_wp2_with fail
  refine (alive_ok _ HT.out).mono ?_
  rintro e w0 ⟨rfl, hb0⟩
  by_cases hlxs : xs.length ≤ 12
  · have txs : decide ((12 : Int) < ((xs.length : Nat) : Int)) = false := by rw [decide_eq_false_iff_not]; omega
    by_cases hlys : ys.length ≤ 12
    · have tys : decide ((12 : Int) < ((ys.length : Nat) : Int)) = false := by rw [decide_eq_false_iff_not]; omega
      replace Rxs := Lib.hid (Rxs.out.below hb0)
      replace Rys := Lib.hid (Rys.out.below hb0)
      have hb := hb0
      clear hb0
      go_wp2_with fail
      refine (and_ok _ _ xs ys _ Rxs.out Rys.out (by omega) (by omega) HUxs.out HUys.out).mono ?_
      rintro e w1 ⟨v1, q1, rfl, Rq1, hpq1, hf1, hb1⟩
      clear hf1
      replace Rxs := Lib.hid (Rxs.out.below hb1)
      replace Rys := Lib.hid (Rys.out.below hb1)
      replace hb := below_all hb hb1
      clear hb1
      have hlq1 : q1.length ≤ 12 := by have h := hpq1.2.2.1; omega
      have HUq1 := Lib.hid hpq1.1
      replace hpq1 := Lib.hid hpq1
      replace Rq1 := Lib.hid Rq1
      go_wp2_with fail
      refine (count_ok _ q1 _ Rq1.out (by omega) HUq1.out).mono ?_
      rintro e w' ⟨rfl, rfl⟩
      go_wp2_with fail
      refine (or_ok _ _ xs ys _ Rxs.out Rys.out (by omega) (by omega) HUxs.out HUys.out).mono ?_
      rintro e w2 ⟨v2, q2, rfl, Rq2, hpq2, hf2, hb2⟩
      clear hf2
      replace Rxs := Lib.hid (Rxs.out.below hb2)
      replace Rys := Lib.hid (Rys.out.below hb2)
      replace Rq1 := Lib.hid (Rq1.out.below hb2)
      replace hb := below_all hb hb2
      clear hb2
      have hlq2 : q2.length ≤ 12 := by have h := hpq2.2.2.1; omega
      have HUq2 := Lib.hid hpq2.1
      replace hpq2 := Lib.hid hpq2
      replace Rq2 := Lib.hid Rq2
      go_wp2_with fail
      refine (count_ok _ q2 _ Rq2.out (by omega) HUq2.out).mono ?_
      rintro e w' ⟨rfl, rfl⟩
      have pxs := popAll_le xs
      have pys := popAll_le ys
      have pq1 := popAll_le q1
      have pq2 := popAll_le q2
      have pe1 := pop_both hpq1.out.2.2.2 hpq2.out.2.2.2
      have te1 : (((popAll q1 : Nat) : Int) + ((popAll q2 : Nat) : Int) == ((popAll xs : Nat) : Int) + ((popAll ys : Nat) : Int)) = true := by rw [beq_iff_eq]; omega
      replace pe1 := Lib.hid pe1
      go_wp2_with fail
      refine (count_ok _ xs _ Rxs.out (by omega) HUxs.out).mono ?_
      rintro e w' ⟨rfl, rfl⟩
      go_wp2_with fail
      refine (count_ok _ ys _ Rys.out (by omega) HUys.out).mono ?_
      rintro e w' ⟨rfl, rfl⟩
      go_wp2_with fail
      refine (less_ok _ _ xs ys _ Rxs.out Rys.out (by omega) (by omega) HUxs.out HUys.out).mono ?_
      rintro e w3 ⟨v3, q3, rfl, Rq3, hpq3, hf3, hb3⟩
      clear hf3
      replace Rxs := Lib.hid (Rxs.out.below hb3)
      replace Rys := Lib.hid (Rys.out.below hb3)
      replace Rq1 := Lib.hid (Rq1.out.below hb3)
      replace Rq2 := Lib.hid (Rq2.out.below hb3)
      replace hb := below_all hb hb3
      clear hb3
      have hlq3 : q3.length ≤ 12 := by have h := hpq3.2.2.1; omega
      have HUq3 := Lib.hid hpq3.1
      replace hpq3 := Lib.hid hpq3
      replace Rq3 := Lib.hid Rq3
      have pq3 := popAll_le q3
      have pe2 := pop_less hpq1.out.2.2.2 hpq3.out.2.2.2
      have te2 : (((popAll q3 : Nat) : Int) == ((popAll xs : Nat) : Int) - ((popAll q1 : Nat) : Int)) = true := by rw [beq_iff_eq]; omega
      replace pe2 := Lib.hid pe2
      go_wp2_with fail
      refine (count_ok _ q3 _ Rq3.out (by omega) HUq3.out).mono ?_
      rintro e w' ⟨rfl, rfl⟩
      go_wp2_with fail
      refine (count_ok _ xs _ Rxs.out (by omega) HUxs.out).mono ?_
      rintro e w' ⟨rfl, rfl⟩
      go_wp2_with fail
      refine (and_ok _ _ xs ys _ Rxs.out Rys.out (by omega) (by omega) HUxs.out HUys.out).mono ?_
      rintro e w4 ⟨v4, q4, rfl, Rq4, hpq4, hf4, hb4⟩
      clear hf4
      replace Rxs := Lib.hid (Rxs.out.below hb4)
      replace Rys := Lib.hid (Rys.out.below hb4)
      replace Rq1 := Lib.hid (Rq1.out.below hb4)
      replace Rq2 := Lib.hid (Rq2.out.below hb4)
      replace Rq3 := Lib.hid (Rq3.out.below hb4)
      replace hb := below_all hb hb4
      clear hb4
      have hlq4 : q4.length ≤ 12 := by have h := hpq4.2.2.1; omega
      have HUq4 := Lib.hid hpq4.1
      replace hpq4 := Lib.hid hpq4
      replace Rq4 := Lib.hid Rq4
      go_wp2_with fail
      refine (less_ok _ _ xs ys _ Rxs.out Rys.out (by omega) (by omega) HUxs.out HUys.out).mono ?_
      rintro e w5 ⟨v5, q5, rfl, Rq5, hpq5, hf5, hb5⟩
      clear hf5
      replace Rxs := Lib.hid (Rxs.out.below hb5)
      replace Rys := Lib.hid (Rys.out.below hb5)
      replace Rq1 := Lib.hid (Rq1.out.below hb5)
      replace Rq2 := Lib.hid (Rq2.out.below hb5)
      replace Rq3 := Lib.hid (Rq3.out.below hb5)
      replace Rq4 := Lib.hid (Rq4.out.below hb5)
      replace hb := below_all hb hb5
      clear hb5
      have hlq5 : q5.length ≤ 12 := by have h := hpq5.2.2.1; omega
      have HUq5 := Lib.hid hpq5.1
      replace hpq5 := Lib.hid hpq5
      replace Rq5 := Lib.hid Rq5
      go_wp2_with fail
      refine (or_ok _ _ q4 q5 _ Rq4.out Rq5.out (by omega) (by omega) HUq4.out HUq5.out).mono ?_
      rintro e w6 ⟨v6, q6, rfl, Rq6, hpq6, hf6, hb6⟩
      clear hf6
      replace Rxs := Lib.hid (Rxs.out.below hb6)
      replace Rys := Lib.hid (Rys.out.below hb6)
      replace Rq1 := Lib.hid (Rq1.out.below hb6)
      replace Rq2 := Lib.hid (Rq2.out.below hb6)
      replace Rq3 := Lib.hid (Rq3.out.below hb6)
      replace Rq4 := Lib.hid (Rq4.out.below hb6)
      replace Rq5 := Lib.hid (Rq5.out.below hb6)
      replace hb := below_all hb hb6
      clear hb6
      have hlq6 : q6.length ≤ 12 := by have h := hpq6.2.2.1; omega
      have HUq6 := Lib.hid hpq6.1
      replace hpq6 := Lib.hid hpq6
      replace Rq6 := Lib.hid Rq6
      have hs7 : sameB q6 xs = true := same_of HUq6.out HUxs.out fun j => by rw [hpq6.out.2.2.2 j, hpq4.out.2.2.2 j, hpq5.out.2.2.2 j]; cases bitAt xs j <;> cases bitAt ys j <;> rfl
      go_wp2_with fail
      refine (same_ok _ _ q6 xs _ Rq6.out Rxs.out (by omega) (by omega)).mono ?_
      rintro e w7 ⟨rfl, hb7⟩
      replace Rxs := Lib.hid (Rxs.out.below hb7)
      replace Rys := Lib.hid (Rys.out.below hb7)
      replace Rq1 := Lib.hid (Rq1.out.below hb7)
      replace Rq2 := Lib.hid (Rq2.out.below hb7)
      replace Rq3 := Lib.hid (Rq3.out.below hb7)
      replace Rq4 := Lib.hid (Rq4.out.below hb7)
      replace Rq5 := Lib.hid (Rq5.out.below hb7)
      replace Rq6 := Lib.hid (Rq6.out.below hb7)
      replace hb := below_all hb hb7
      clear hb7
      go_wp2_with fail
      go_ret
      exact ⟨rfl, hb⟩
    · have tys : decide ((12 : Int) < ((ys.length : Nat) : Int)) = true := by rw [decide_eq_true_iff]; omega
      go_wp2_with fail
      go_ret
      exact ⟨rfl, hb0⟩
  · have txs : decide ((12 : Int) < ((xs.length : Nat) : Int)) = true := by rw [decide_eq_true_iff]; omega
    go_wp2_with fail
    go_ret
    exact ⟨rfl, hb0⟩
end Go.Proofs.YtibmjednieopfaaDoor
