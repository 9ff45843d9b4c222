/- BitsBoth: what the walk shows is true for any two sets. -/
import Derived.Test.YtibmjednieopfaaDoorBitRBoth
set_option linter.unusedVariables false
set_option linter.unusedSimpArgs false
namespace Go.Proofs.YtibmjednieopfaaDoor
open Go.RowKit
theorem same_of {a b : List Int} (ha : U64 a) (hb : U64 b) (h : ∀ j, bitAt a j = bitAt b j) : sameB a b = true := by
  unfold sameB
  rw [decide_eq_true_iff, canon_iff ha hb]
  exact h
theorem bothB_uniq {op : BinOp} {xs ys a b : List Int} (h : BothB op xs ys a) (k : BothB op xs ys b) : a = b :=
  canon h.1 k.1 h.2.1 k.2.1 fun j => by rw [h.2.2.2 j, k.2.2.2 j]
theorem less_nil {xs ys q : List Int} (h : BothB .andNot xs ys q) (e : ∀ j, bitAt xs j = bitAt ys j) : q = [] :=
  canon h.1 U64.nil h.2.1 rfl fun j => by rw [h.2.2.2 j, e j, bitAt_nil]; cases bitAt ys j <;> rfl
theorem same_not {xs ys : List Int} (h : ¬ ∀ j, bitAt xs j = bitAt ys j) : sameB xs ys = false := by
  unfold sameB
  rw [decide_eq_false_iff_not]
  intro e
  exact h fun j => by rw [← bitAt_take xs, ← bitAt_take ys, e]
theorem same_both {xs ys : List Int} (hx : U64 xs) (hy : U64 ys) (h : BothB .andNot xs ys []) (k : BothB .andNot ys xs []) : sameB xs ys = true := by
  refine same_of hx hy fun j => ?_
  have h1 := h.2.2.2 j
  have h2 := k.2.2.2 j
  rw [bitAt_nil] at h1 h2
  revert h1 h2
  cases bitAt xs j <;> cases bitAt ys j <;> simp [op3]
set_option maxHeartbeats 6400000 in
theorem bothlaw_ok (vxs : Value) (vys : Value) (xs : List Int) (ys : List Int) (w : World) (hvxs : Rd u64e w vxs xs) (huxs : U64 xs) (hvys : Rd u64e w vys ys) (huys : U64 ys) (hT : TabW w) :
    Calls Tryd.prog 5 #[vxs, vys] w fun e w' => e = .returned (.bool true) ∧ Below w.heap.size w w' := by
  obtain ⟨Axs, cxs, rfl, _⟩ := hvxs.len
  obtain ⟨Ays, cys, rfl, _⟩ := hvys.len
  have HUxs := Lib.hid huxs
  have Rxs := Lib.hid hvxs
  have HUys := Lib.hid huys
  have Rys := Lib.hid hvys
  have HT := Lib.hid hT
  clear hT hvxs huxs hvys huys
  go_enter Tryd.func5, Tryd.ntmps5
  go_wp2_with fail
  refine (alive_ok _ HT.out).mono ?_
  rintro e w0 ⟨rfl, hb0⟩
  by_cases hlxs : xs.length ≤ 12
  · have txs : decide ((12 : Int) < ((xs.length : Nat) : Int)) = false := by rw [decide_eq_false_iff_not]; omega
    by_cases hlys : ys.length ≤ 12
    · have tys : decide ((12 : Int) < ((ys.length : Nat) : Int)) = false := by rw [decide_eq_false_iff_not]; omega
      replace Rxs := Lib.hid (Rxs.out.below hb0)
      replace Rys := Lib.hid (Rys.out.below hb0)
      have hb := hb0
      clear hb0
      go_wp2_with fail
      refine (rboth_less _ _ xs ys _ Rxs.out Rys.out (by omega) (by omega) HUxs.out HUys.out).mono ?_
      rintro e w1 ⟨v1, q1, rfl, Rq1, hpq1, hf1, hb1⟩
      obtain ⟨Aq1, cq1, rfl, _⟩ := Rq1.len
      clear hf1
      replace Rxs := Lib.hid (Rxs.out.below hb1)
      replace Rys := Lib.hid (Rys.out.below hb1)
      replace hb := below_all hb hb1
      clear hb1
      have hlq1 : q1.length ≤ 12 := by have h := hpq1.2.2.1; omega
      have HUq1 := Lib.hid hpq1.1
      replace hpq1 := Lib.hid hpq1
      replace Rq1 := Lib.hid Rq1
      rcases hq1 : (((q1.length : Nat) : Int) == 0) with _ | _
      · have hq1e : q1 ≠ [] := by intro e; rw [e] at hq1; exact absurd hq1 (by decide)
        replace hq1e := Lib.hid hq1e
        have hsm : sameB xs ys = false := same_not fun h => hq1e.out (less_nil hpq1.out h)
        go_wp2_with fail
        refine (and_ok _ _ xs ys _ Rxs.out Rys.out (by omega) (by omega) HUxs.out HUys.out).mono ?_
        rintro e w2 ⟨v2, pand, rfl, Rpand, hppand, hf2, hb2⟩
        clear hf2
        replace Rxs := Lib.hid (Rxs.out.below hb2)
        replace Rys := Lib.hid (Rys.out.below hb2)
        replace Rq1 := Lib.hid (Rq1.out.below hb2)
        replace hb := below_all hb hb2
        clear hb2
        have hlpand : pand.length ≤ 12 := by have h := hppand.2.2.1; omega
        have HUpand := Lib.hid hppand.1
        replace hppand := Lib.hid hppand
        replace Rpand := Lib.hid Rpand
        go_wp2_with fail
        refine (rboth_and _ _ xs ys _ Rxs.out Rys.out (by omega) (by omega) HUxs.out HUys.out).mono ?_
        rintro e w3 ⟨v3, rand, rfl, Rrand, hprand, hf3, hb3⟩
        obtain rfl := bothB_uniq hppand.out hprand
        clear hf3 hprand
        replace Rxs := Lib.hid (Rxs.out.below hb3)
        replace Rys := Lib.hid (Rys.out.below hb3)
        replace Rq1 := Lib.hid (Rq1.out.below hb3)
        replace Rpand := Lib.hid (Rpand.out.below hb3)
        replace hb := below_all hb hb3
        clear hb3
        replace Rrand := Lib.hid Rrand
        have tdand : decide (pand = pand) = true := decide_eq_true rfl
        go_wp2_with fail
        refine (words_ok _ _ pand pand _ Rpand.out Rrand.out (by omega) (by omega)).mono ?_
        rintro e w4 ⟨rfl, hb4⟩
        clear Rrand
        replace Rxs := Lib.hid (Rxs.out.below hb4)
        replace Rys := Lib.hid (Rys.out.below hb4)
        replace Rq1 := Lib.hid (Rq1.out.below hb4)
        replace Rpand := Lib.hid (Rpand.out.below hb4)
        replace hb := below_all hb hb4
        clear hb4
        go_wp2_with fail
        refine (or_ok _ _ xs ys _ Rxs.out Rys.out (by omega) (by omega) HUxs.out HUys.out).mono ?_
        rintro e w5 ⟨v5, por, rfl, Rpor, hppor, hf5, hb5⟩
        clear hf5
        replace Rxs := Lib.hid (Rxs.out.below hb5)
        replace Rys := Lib.hid (Rys.out.below hb5)
        replace Rq1 := Lib.hid (Rq1.out.below hb5)
        replace Rpand := Lib.hid (Rpand.out.below hb5)
        replace hb := below_all hb hb5
        clear hb5
        have hlpor : por.length ≤ 12 := by have h := hppor.2.2.1; omega
        have HUpor := Lib.hid hppor.1
        replace hppor := Lib.hid hppor
        replace Rpor := Lib.hid Rpor
        go_wp2_with fail
        refine (rboth_or _ _ xs ys _ Rxs.out Rys.out (by omega) (by omega) HUxs.out HUys.out).mono ?_
        rintro e w6 ⟨v6, ror, rfl, Rror, hpror, hf6, hb6⟩
        obtain rfl := bothB_uniq hppor.out hpror
        clear hf6 hpror
        replace Rxs := Lib.hid (Rxs.out.below hb6)
        replace Rys := Lib.hid (Rys.out.below hb6)
        replace Rq1 := Lib.hid (Rq1.out.below hb6)
        replace Rpand := Lib.hid (Rpand.out.below hb6)
        replace Rpor := Lib.hid (Rpor.out.below hb6)
        replace hb := below_all hb hb6
        clear hb6
        replace Rror := Lib.hid Rror
        have tdor : decide (por = por) = true := decide_eq_true rfl
        go_wp2_with fail
        refine (words_ok _ _ por por _ Rpor.out Rror.out (by omega) (by omega)).mono ?_
        rintro e w7 ⟨rfl, hb7⟩
        clear Rror
        replace Rxs := Lib.hid (Rxs.out.below hb7)
        replace Rys := Lib.hid (Rys.out.below hb7)
        replace Rq1 := Lib.hid (Rq1.out.below hb7)
        replace Rpand := Lib.hid (Rpand.out.below hb7)
        replace Rpor := Lib.hid (Rpor.out.below hb7)
        replace hb := below_all hb hb7
        clear hb7
        go_wp2_with fail
        refine (less_ok _ _ xs ys _ Rxs.out Rys.out (by omega) (by omega) HUxs.out HUys.out).mono ?_
        rintro e w8 ⟨v8, pless, rfl, Rpless, hppless, hf8, hb8⟩
        clear hf8
        replace Rxs := Lib.hid (Rxs.out.below hb8)
        replace Rys := Lib.hid (Rys.out.below hb8)
        replace Rq1 := Lib.hid (Rq1.out.below hb8)
        replace Rpand := Lib.hid (Rpand.out.below hb8)
        replace Rpor := Lib.hid (Rpor.out.below hb8)
        replace hb := below_all hb hb8
        clear hb8
        have hlpless : pless.length ≤ 12 := by have h := hppless.2.2.1; omega
        have HUpless := Lib.hid hppless.1
        replace hppless := Lib.hid hppless
        replace Rpless := Lib.hid Rpless
        go_wp2_with fail
        refine (rboth_less _ _ xs ys _ Rxs.out Rys.out (by omega) (by omega) HUxs.out HUys.out).mono ?_
        rintro e w9 ⟨v9, rless, rfl, Rrless, hprless, hf9, hb9⟩
        obtain rfl := bothB_uniq hppless.out hprless
        clear hf9 hprless
        replace Rxs := Lib.hid (Rxs.out.below hb9)
        replace Rys := Lib.hid (Rys.out.below hb9)
        replace Rq1 := Lib.hid (Rq1.out.below hb9)
        replace Rpand := Lib.hid (Rpand.out.below hb9)
        replace Rpor := Lib.hid (Rpor.out.below hb9)
        replace Rpless := Lib.hid (Rpless.out.below hb9)
        replace hb := below_all hb hb9
        clear hb9
        replace Rrless := Lib.hid Rrless
        have tdless : decide (pless = pless) = true := decide_eq_true rfl
        go_wp2_with fail
        refine (words_ok _ _ pless pless _ Rpless.out Rrless.out (by omega) (by omega)).mono ?_
        rintro e w10 ⟨rfl, hb10⟩
        clear Rrless
        replace Rxs := Lib.hid (Rxs.out.below hb10)
        replace Rys := Lib.hid (Rys.out.below hb10)
        replace Rq1 := Lib.hid (Rq1.out.below hb10)
        replace Rpand := Lib.hid (Rpand.out.below hb10)
        replace Rpor := Lib.hid (Rpor.out.below hb10)
        replace Rpless := Lib.hid (Rpless.out.below hb10)
        replace hb := below_all hb hb10
        clear hb10
        go_wp2_with fail
        refine (same_ok _ _ xs ys _ Rxs.out Rys.out (by omega) (by omega)).mono ?_
        rintro e w11 ⟨rfl, hb11⟩
        replace Rxs := Lib.hid (Rxs.out.below hb11)
        replace Rys := Lib.hid (Rys.out.below hb11)
        replace Rq1 := Lib.hid (Rq1.out.below hb11)
        replace Rpand := Lib.hid (Rpand.out.below hb11)
        replace Rpor := Lib.hid (Rpor.out.below hb11)
        replace Rpless := Lib.hid (Rpless.out.below hb11)
        replace hb := below_all hb hb11
        clear hb11
        go_wp2_with fail
        go_ret
        exact ⟨rfl, hb⟩
      · have hq1e : q1 = [] := List.eq_nil_of_length_eq_zero (by have := eq_of_beq hq1; omega)
        replace hq1e := Lib.hid hq1e
        go_wp2_with fail
        refine (rboth_less _ _ ys xs _ Rys.out Rxs.out (by omega) (by omega) HUys.out HUxs.out).mono ?_
        rintro e w2 ⟨v2, q2, rfl, Rq2, hpq2, hf2, hb2⟩
        obtain ⟨Aq2, cq2, rfl, _⟩ := Rq2.len
        clear hf2
        replace Rxs := Lib.hid (Rxs.out.below hb2)
        replace Rys := Lib.hid (Rys.out.below hb2)
        replace Rq1 := Lib.hid (Rq1.out.below hb2)
        replace hb := below_all hb hb2
        clear hb2
        have hlq2 : q2.length ≤ 12 := by have h := hpq2.2.2.1; omega
        have HUq2 := Lib.hid hpq2.1
        replace hpq2 := Lib.hid hpq2
        replace Rq2 := Lib.hid Rq2
        rcases hq2 : (((q2.length : Nat) : Int) == 0) with _ | _
        · have hq2e : q2 ≠ [] := by intro e; rw [e] at hq2; exact absurd hq2 (by decide)
          replace hq2e := Lib.hid hq2e
          have hsm : sameB xs ys = false := same_not fun h => hq2e.out (less_nil hpq2.out (fun j => (h j).symm))
          go_wp2_with fail
          refine (and_ok _ _ xs ys _ Rxs.out Rys.out (by omega) (by omega) HUxs.out HUys.out).mono ?_
          rintro e w3 ⟨v3, pand, rfl, Rpand, hppand, hf3, hb3⟩
          clear hf3
          replace Rxs := Lib.hid (Rxs.out.below hb3)
          replace Rys := Lib.hid (Rys.out.below hb3)
          replace Rq1 := Lib.hid (Rq1.out.below hb3)
          replace Rq2 := Lib.hid (Rq2.out.below hb3)
          replace hb := below_all hb hb3
          clear hb3
          have hlpand : pand.length ≤ 12 := by have h := hppand.2.2.1; omega
          have HUpand := Lib.hid hppand.1
          replace hppand := Lib.hid hppand
          replace Rpand := Lib.hid Rpand
          go_wp2_with fail
          refine (rboth_and _ _ xs ys _ Rxs.out Rys.out (by omega) (by omega) HUxs.out HUys.out).mono ?_
          rintro e w4 ⟨v4, rand, rfl, Rrand, hprand, hf4, hb4⟩
          obtain rfl := bothB_uniq hppand.out hprand
          clear hf4 hprand
          replace Rxs := Lib.hid (Rxs.out.below hb4)
          replace Rys := Lib.hid (Rys.out.below hb4)
          replace Rq1 := Lib.hid (Rq1.out.below hb4)
          replace Rq2 := Lib.hid (Rq2.out.below hb4)
          replace Rpand := Lib.hid (Rpand.out.below hb4)
          replace hb := below_all hb hb4
          clear hb4
          replace Rrand := Lib.hid Rrand
          have tdand : decide (pand = pand) = true := decide_eq_true rfl
          go_wp2_with fail
          refine (words_ok _ _ pand pand _ Rpand.out Rrand.out (by omega) (by omega)).mono ?_
          rintro e w5 ⟨rfl, hb5⟩
          clear Rrand
          replace Rxs := Lib.hid (Rxs.out.below hb5)
          replace Rys := Lib.hid (Rys.out.below hb5)
          replace Rq1 := Lib.hid (Rq1.out.below hb5)
          replace Rq2 := Lib.hid (Rq2.out.below hb5)
          replace Rpand := Lib.hid (Rpand.out.below hb5)
          replace hb := below_all hb hb5
          clear hb5
          go_wp2_with fail
          refine (or_ok _ _ xs ys _ Rxs.out Rys.out (by omega) (by omega) HUxs.out HUys.out).mono ?_
          rintro e w6 ⟨v6, por, rfl, Rpor, hppor, hf6, hb6⟩
          clear hf6
          replace Rxs := Lib.hid (Rxs.out.below hb6)
          replace Rys := Lib.hid (Rys.out.below hb6)
          replace Rq1 := Lib.hid (Rq1.out.below hb6)
          replace Rq2 := Lib.hid (Rq2.out.below hb6)
          replace Rpand := Lib.hid (Rpand.out.below hb6)
          replace hb := below_all hb hb6
          clear hb6
          have hlpor : por.length ≤ 12 := by have h := hppor.2.2.1; omega
          have HUpor := Lib.hid hppor.1
          replace hppor := Lib.hid hppor
          replace Rpor := Lib.hid Rpor
          go_wp2_with fail
          refine (rboth_or _ _ xs ys _ Rxs.out Rys.out (by omega) (by omega) HUxs.out HUys.out).mono ?_
          rintro e w7 ⟨v7, ror, rfl, Rror, hpror, hf7, hb7⟩
          obtain rfl := bothB_uniq hppor.out hpror
          clear hf7 hpror
          replace Rxs := Lib.hid (Rxs.out.below hb7)
          replace Rys := Lib.hid (Rys.out.below hb7)
          replace Rq1 := Lib.hid (Rq1.out.below hb7)
          replace Rq2 := Lib.hid (Rq2.out.below hb7)
          replace Rpand := Lib.hid (Rpand.out.below hb7)
          replace Rpor := Lib.hid (Rpor.out.below hb7)
          replace hb := below_all hb hb7
          clear hb7
          replace Rror := Lib.hid Rror
          have tdor : decide (por = por) = true := decide_eq_true rfl
          go_wp2_with fail
          refine (words_ok _ _ por por _ Rpor.out Rror.out (by omega) (by omega)).mono ?_
          rintro e w8 ⟨rfl, hb8⟩
          clear Rror
          replace Rxs := Lib.hid (Rxs.out.below hb8)
          replace Rys := Lib.hid (Rys.out.below hb8)
          replace Rq1 := Lib.hid (Rq1.out.below hb8)
          replace Rq2 := Lib.hid (Rq2.out.below hb8)
          replace Rpand := Lib.hid (Rpand.out.below hb8)
          replace Rpor := Lib.hid (Rpor.out.below hb8)
          replace hb := below_all hb hb8
          clear hb8
          go_wp2_with fail
          refine (less_ok _ _ xs ys _ Rxs.out Rys.out (by omega) (by omega) HUxs.out HUys.out).mono ?_
          rintro e w9 ⟨v9, pless, rfl, Rpless, hppless, hf9, hb9⟩
          clear hf9
          replace Rxs := Lib.hid (Rxs.out.below hb9)
          replace Rys := Lib.hid (Rys.out.below hb9)
          replace Rq1 := Lib.hid (Rq1.out.below hb9)
          replace Rq2 := Lib.hid (Rq2.out.below hb9)
          replace Rpand := Lib.hid (Rpand.out.below hb9)
          replace Rpor := Lib.hid (Rpor.out.below hb9)
          replace hb := below_all hb hb9
          clear hb9
          have hlpless : pless.length ≤ 12 := by have h := hppless.2.2.1; omega
          have HUpless := Lib.hid hppless.1
          replace hppless := Lib.hid hppless
          replace Rpless := Lib.hid Rpless
          go_wp2_with fail
          refine (rboth_less _ _ xs ys _ Rxs.out Rys.out (by omega) (by omega) HUxs.out HUys.out).mono ?_
          rintro e w10 ⟨v10, rless, rfl, Rrless, hprless, hf10, hb10⟩
          obtain rfl := bothB_uniq hppless.out hprless
          clear hf10 hprless
          replace Rxs := Lib.hid (Rxs.out.below hb10)
          replace Rys := Lib.hid (Rys.out.below hb10)
          replace Rq1 := Lib.hid (Rq1.out.below hb10)
          replace Rq2 := Lib.hid (Rq2.out.below hb10)
          replace Rpand := Lib.hid (Rpand.out.below hb10)
          replace Rpor := Lib.hid (Rpor.out.below hb10)
          replace Rpless := Lib.hid (Rpless.out.below hb10)
          replace hb := below_all hb hb10
          clear hb10
          replace Rrless := Lib.hid Rrless
          have tdless : decide (pless = pless) = true := decide_eq_true rfl
          go_wp2_with fail
          refine (words_ok _ _ pless pless _ Rpless.out Rrless.out (by omega) (by omega)).mono ?_
          rintro e w11 ⟨rfl, hb11⟩
          clear Rrless
          replace Rxs := Lib.hid (Rxs.out.below hb11)
          replace Rys := Lib.hid (Rys.out.below hb11)
          replace Rq1 := Lib.hid (Rq1.out.below hb11)
          replace Rq2 := Lib.hid (Rq2.out.below hb11)
          replace Rpand := Lib.hid (Rpand.out.below hb11)
          replace Rpor := Lib.hid (Rpor.out.below hb11)
          replace Rpless := Lib.hid (Rpless.out.below hb11)
          replace hb := below_all hb hb11
          clear hb11
          go_wp2_with fail
          refine (same_ok _ _ xs ys _ Rxs.out Rys.out (by omega) (by omega)).mono ?_
          rintro e w12 ⟨rfl, hb12⟩
          replace Rxs := Lib.hid (Rxs.out.below hb12)
          replace Rys := Lib.hid (Rys.out.below hb12)
          replace Rq1 := Lib.hid (Rq1.out.below hb12)
          replace Rq2 := Lib.hid (Rq2.out.below hb12)
          replace Rpand := Lib.hid (Rpand.out.below hb12)
          replace Rpor := Lib.hid (Rpor.out.below hb12)
          replace Rpless := Lib.hid (Rpless.out.below hb12)
          replace hb := below_all hb hb12
          clear hb12
          go_wp2_with fail
          go_ret
          exact ⟨rfl, hb⟩
        · have hq2e : q2 = [] := List.eq_nil_of_length_eq_zero (by have := eq_of_beq hq2; omega)
          replace hq2e := Lib.hid hq2e
          have hsm : sameB xs ys = true := same_both HUxs.out HUys.out (hq1e.out ▸ hpq1.out) (hq2e.out ▸ hpq2.out)
          go_wp2_with fail
          refine (and_ok _ _ xs ys _ Rxs.out Rys.out (by omega) (by omega) HUxs.out HUys.out).mono ?_
          rintro e w3 ⟨v3, pand, rfl, Rpand, hppand, hf3, hb3⟩
          clear hf3
          replace Rxs := Lib.hid (Rxs.out.below hb3)
          replace Rys := Lib.hid (Rys.out.below hb3)
          replace Rq1 := Lib.hid (Rq1.out.below hb3)
          replace Rq2 := Lib.hid (Rq2.out.below hb3)
          replace hb := below_all hb hb3
          clear hb3
          have hlpand : pand.length ≤ 12 := by have h := hppand.2.2.1; omega
          have HUpand := Lib.hid hppand.1
          replace hppand := Lib.hid hppand
          replace Rpand := Lib.hid Rpand
          go_wp2_with fail
          refine (rboth_and _ _ xs ys _ Rxs.out Rys.out (by omega) (by omega) HUxs.out HUys.out).mono ?_
          rintro e w4 ⟨v4, rand, rfl, Rrand, hprand, hf4, hb4⟩
          obtain rfl := bothB_uniq hppand.out hprand
          clear hf4 hprand
          replace Rxs := Lib.hid (Rxs.out.below hb4)
          replace Rys := Lib.hid (Rys.out.below hb4)
          replace Rq1 := Lib.hid (Rq1.out.below hb4)
          replace Rq2 := Lib.hid (Rq2.out.below hb4)
          replace Rpand := Lib.hid (Rpand.out.below hb4)
          replace hb := below_all hb hb4
          clear hb4
          replace Rrand := Lib.hid Rrand
          have tdand : decide (pand = pand) = true := decide_eq_true rfl
          go_wp2_with fail
          refine (words_ok _ _ pand pand _ Rpand.out Rrand.out (by omega) (by omega)).mono ?_
          rintro e w5 ⟨rfl, hb5⟩
          clear Rrand
          replace Rxs := Lib.hid (Rxs.out.below hb5)
          replace Rys := Lib.hid (Rys.out.below hb5)
          replace Rq1 := Lib.hid (Rq1.out.below hb5)
          replace Rq2 := Lib.hid (Rq2.out.below hb5)
          replace Rpand := Lib.hid (Rpand.out.below hb5)
          replace hb := below_all hb hb5
          clear hb5
          go_wp2_with fail
          refine (or_ok _ _ xs ys _ Rxs.out Rys.out (by omega) (by omega) HUxs.out HUys.out).mono ?_
          rintro e w6 ⟨v6, por, rfl, Rpor, hppor, hf6, hb6⟩
          clear hf6
          replace Rxs := Lib.hid (Rxs.out.below hb6)
          replace Rys := Lib.hid (Rys.out.below hb6)
          replace Rq1 := Lib.hid (Rq1.out.below hb6)
          replace Rq2 := Lib.hid (Rq2.out.below hb6)
          replace Rpand := Lib.hid (Rpand.out.below hb6)
          replace hb := below_all hb hb6
          clear hb6
          have hlpor : por.length ≤ 12 := by have h := hppor.2.2.1; omega
          have HUpor := Lib.hid hppor.1
          replace hppor := Lib.hid hppor
          replace Rpor := Lib.hid Rpor
          go_wp2_with fail
          refine (rboth_or _ _ xs ys _ Rxs.out Rys.out (by omega) (by omega) HUxs.out HUys.out).mono ?_
          rintro e w7 ⟨v7, ror, rfl, Rror, hpror, hf7, hb7⟩
          obtain rfl := bothB_uniq hppor.out hpror
          clear hf7 hpror
          replace Rxs := Lib.hid (Rxs.out.below hb7)
          replace Rys := Lib.hid (Rys.out.below hb7)
          replace Rq1 := Lib.hid (Rq1.out.below hb7)
          replace Rq2 := Lib.hid (Rq2.out.below hb7)
          replace Rpand := Lib.hid (Rpand.out.below hb7)
          replace Rpor := Lib.hid (Rpor.out.below hb7)
          replace hb := below_all hb hb7
          clear hb7
          replace Rror := Lib.hid Rror
          have tdor : decide (por = por) = true := decide_eq_true rfl
          go_wp2_with fail
          refine (words_ok _ _ por por _ Rpor.out Rror.out (by omega) (by omega)).mono ?_
          rintro e w8 ⟨rfl, hb8⟩
          clear Rror
          replace Rxs := Lib.hid (Rxs.out.below hb8)
          replace Rys := Lib.hid (Rys.out.below hb8)
          replace Rq1 := Lib.hid (Rq1.out.below hb8)
          replace Rq2 := Lib.hid (Rq2.out.below hb8)
          replace Rpand := Lib.hid (Rpand.out.below hb8)
          replace Rpor := Lib.hid (Rpor.out.below hb8)
          replace hb := below_all hb hb8
          clear hb8
          go_wp2_with fail
          refine (less_ok _ _ xs ys _ Rxs.out Rys.out (by omega) (by omega) HUxs.out HUys.out).mono ?_
          rintro e w9 ⟨v9, pless, rfl, Rpless, hppless, hf9, hb9⟩
          clear hf9
          replace Rxs := Lib.hid (Rxs.out.below hb9)
          replace Rys := Lib.hid (Rys.out.below hb9)
          replace Rq1 := Lib.hid (Rq1.out.below hb9)
          replace Rq2 := Lib.hid (Rq2.out.below hb9)
          replace Rpand := Lib.hid (Rpand.out.below hb9)
          replace Rpor := Lib.hid (Rpor.out.below hb9)
          replace hb := below_all hb hb9
          clear hb9
          have hlpless : pless.length ≤ 12 := by have h := hppless.2.2.1; omega
          have HUpless := Lib.hid hppless.1
          replace hppless := Lib.hid hppless
          replace Rpless := Lib.hid Rpless
          go_wp2_with fail
          refine (rboth_less _ _ xs ys _ Rxs.out Rys.out (by omega) (by omega) HUxs.out HUys.out).mono ?_
          rintro e w10 ⟨v10, rless, rfl, Rrless, hprless, hf10, hb10⟩
          obtain rfl := bothB_uniq hppless.out hprless
          clear hf10 hprless
          replace Rxs := Lib.hid (Rxs.out.below hb10)
          replace Rys := Lib.hid (Rys.out.below hb10)
          replace Rq1 := Lib.hid (Rq1.out.below hb10)
          replace Rq2 := Lib.hid (Rq2.out.below hb10)
          replace Rpand := Lib.hid (Rpand.out.below hb10)
          replace Rpor := Lib.hid (Rpor.out.below hb10)
          replace Rpless := Lib.hid (Rpless.out.below hb10)
          replace hb := below_all hb hb10
          clear hb10
          replace Rrless := Lib.hid Rrless
          have tdless : decide (pless = pless) = true := decide_eq_true rfl
          go_wp2_with fail
          refine (words_ok _ _ pless pless _ Rpless.out Rrless.out (by omega) (by omega)).mono ?_
          rintro e w11 ⟨rfl, hb11⟩
          clear Rrless
          replace Rxs := Lib.hid (Rxs.out.below hb11)
          replace Rys := Lib.hid (Rys.out.below hb11)
          replace Rq1 := Lib.hid (Rq1.out.below hb11)
          replace Rq2 := Lib.hid (Rq2.out.below hb11)
          replace Rpand := Lib.hid (Rpand.out.below hb11)
          replace Rpor := Lib.hid (Rpor.out.below hb11)
          replace Rpless := Lib.hid (Rpless.out.below hb11)
          replace hb := below_all hb hb11
          clear hb11
          go_wp2_with fail
          refine (same_ok _ _ xs ys _ Rxs.out Rys.out (by omega) (by omega)).mono ?_
          rintro e w12 ⟨rfl, hb12⟩
          replace Rxs := Lib.hid (Rxs.out.below hb12)
          replace Rys := Lib.hid (Rys.out.below hb12)
          replace Rq1 := Lib.hid (Rq1.out.below hb12)
          replace Rq2 := Lib.hid (Rq2.out.below hb12)
          replace Rpand := Lib.hid (Rpand.out.below hb12)
          replace Rpor := Lib.hid (Rpor.out.below hb12)
          replace Rpless := Lib.hid (Rpless.out.below hb12)
          replace hb := below_all hb hb12
          clear hb12
          go_wp2_with fail
          go_ret
          exact ⟨rfl, hb⟩
    · have tys : decide ((12 : Int) < ((ys.length : Nat) : Int)) = true := by rw [decide_eq_true_iff]; omega
      go_wp2_with fail
      go_ret
      exact ⟨rfl, hb0⟩
  · have txs : decide ((12 : Int) < ((xs.length : Nat) : Int)) = true := by rw [decide_eq_true_iff]; omega
    go_wp2_with fail
    go_ret
    exact ⟨rfl, hb0⟩
end Go.Proofs.YtibmjednieopfaaDoor
