/- The walk of ClassNext: the words of its road met by their contracts. -/
import Derived.Test.YtlbjcaefemmjmaaRows
import Derived.Test.YtlbjcaefemmjmaaPClassNextx1
import Derived.WalkKit
import Derived.OpenShut
import Derived.Lib.Hide
namespace Go.Proofs.Ytlbjcaefemmjmaa.next
open Go.RowKit Go.Proofs.Ytlbjcaefemmjmaa.PClassNext Go.Proofs.YtlbjcaefemmjmaaW.PrintWords Go.Proofs.YtlbjcaefemmjmaaW.PrintLast
set_option linter.unusedVariables false
set_option linter.unusedSimpArgs false

theorem next_words : class_Words.f 3 = some 8 := by decide +kernel
theorem next_in (p : Int) (h1 : 1 ≤ p) (h2 : p ≤ 70000) : class_In.f p = some ((p - 1) / 8) := by
  unfold class_In.f
  rw [if_neg (by omega)]
  have e : wrap64 (p - 1) = p - 1 := by unfold wrap64; omega
  rw [e, Int.tdiv_eq_ediv_of_nonneg (by omega)]
  congr 1
  unfold wrap64
  omega
theorem next_begins (p : Int) (h1 : 1 ≤ p) (h2 : p ≤ 70000) : class_Begins.f p 3 = some ((p - 1) % 8 == 0) := by
  unfold class_Begins.f
  rw [next_words]
  have e : wrap64 (p - 1) = p - 1 := by unfold wrap64; omega
  simp only [Option.bind_some]
  rw [if_pos (by omega), if_pos (by omega), if_neg (by omega), e, Int.tmod_eq_emod_of_nonneg (by omega)]
theorem alive_ok (w : World) : Calls Try.prog 13 #[] w fun e w' => e = .returned (.bool true) ∧ Below w.heap.size w w' :=
  (lockstitchlaw13_alive.calls 20 true w (by decide +kernel)).mono fun e w' h => h
theorem in_ok (p v : Int) (w : World) (h : class_In.f p = some v) : Calls Try.prog 21 #[.int .i64 p] w fun e w' => e = .returned (.int .i64 v) ∧ ∃ n, w' = w.drewN n :=
  (class_In.calls p v w h).mono fun e w' h => ⟨h.1, h.2.out⟩
theorem begins_ok (p c : Int) (v : Bool) (w : World) (h : class_Begins.f p c = some v) : Calls Try.prog 23 #[.int .i64 p, .int .i64 c] w fun e w' => e = .returned (.bool v) ∧ ∃ n, w' = w.drewN n :=
  (class_Begins.calls p c v w h).mono fun e w' h => ⟨h.1, h.2.out⟩
theorem below_drewN {B : Nat} {a w : World} (h : Below B a w) (n : Nat) : Below B a (w.drewN n) := ⟨h.os, h.tape, h.output, h.size, h.block⟩

theorem walk_zero (w : World) : Calls Try.prog 7 #[.int .u16 0] w fun e w' => e = .returned (.bool true) ∧ Below w.heap.size w w' := by
  go_enter Try.func7, Try.ntmps7
  go_wp2_with fail
  refine (alive_ok _).mono ?_
  rintro e w1 ⟨rfl, hb⟩
  go_wp2_with fail
  refine (in_ok 0 (-1) _ (by decide +kernel)).mono ?_
  rintro e w2 ⟨rfl, n, rfl⟩
  go_wp2_with fail
  refine (in_ok 1 0 _ (by decide +kernel)).mono ?_
  rintro e w2 ⟨rfl, m, rfl⟩
  go_wp2_with fail
  go_ret
  exact ⟨rfl, below_drewN hb _⟩


set_option maxHeartbeats 400000 in
theorem walk_last (a : Int) (w : World) (h0 : 1 ≤ a) (h1 : a ≤ 65535) (hm : a % 8 = 0) : Calls Try.prog 7 #[.int .u16 a] w fun e w' => e = .returned (.bool true) ∧ Below w.heap.size w w' := by
  have b0 : ((a : Int) == 0) = false := by rw [beq_eq_false_iff_ne]; omega
  have b1 : (((a - 1) / 8 + 1 : Int) == (a - 1) / 8) = false := by rw [beq_eq_false_iff_ne]; omega
  have i1 := next_in a (by omega) (by omega)
  have i2 : class_In.f (a + 1) = some ((a - 1) / 8 + 1) := by rw [next_in (a + 1) (by omega) (by omega)]; congr 1; omega
  have i3 : class_Begins.f (a + 1) 3 = some true := by
    rw [next_begins (a + 1) (by omega) (by omega)]
    have e : (a + 1 - 1) % 8 = 0 := by omega
    rw [e]; rfl
  have i2 := Lib.hid i2
  have i1 := Lib.hid i1
  have i3 := Lib.hid i3
  have hmb : (((a : Int) % 8) == 0) = true := by rw [beq_iff_eq]; exact hm
  clear hm
  go_enter Try.func7, Try.ntmps7
  go_wp2_with fail
  refine (alive_ok _).mono ?_
  rintro e w1 ⟨rfl, hb⟩
  go_wp2_with fail
  refine (in_ok a _ _ i1.out).mono ?_
  rintro e w2 ⟨rfl, n, rfl⟩
  go_wp2_with fail
  refine (in_ok (a + 1) _ _ i2.out).mono ?_
  rintro e w2 ⟨rfl, m, rfl⟩
  go_wp2_with fail
  refine (begins_ok (a + 1) 3 _ _ i3.out).mono ?_
  rintro e w2 ⟨rfl, m, rfl⟩
  go_wp2_with fail
  go_ret
  exact ⟨rfl, below_drewN hb _⟩


set_option maxHeartbeats 400000 in
theorem walk_mid (a : Int) (w : World) (h0 : 1 ≤ a) (h1 : a ≤ 65535) (hm : a % 8 ≠ 0) : Calls Try.prog 7 #[.int .u16 a] w fun e w' => e = .returned (.bool true) ∧ Below w.heap.size w w' := by
  have b0 : ((a : Int) == 0) = false := by rw [beq_eq_false_iff_ne]; omega
  have b1 : (((a - 1) / 8 : Int) == (a - 1) / 8 + 1) = false := by rw [beq_eq_false_iff_ne]; omega
  have i1 := Lib.hid (next_in a (by omega) (by omega))
  have i2 : class_In.f (a + 1) = some ((a - 1) / 8) := by rw [next_in (a + 1) (by omega) (by omega)]; congr 1; omega
  have i3 : class_Begins.f (a + 1) 3 = some false := by
    rw [next_begins (a + 1) (by omega) (by omega)]
    have e : ((a + 1 - 1) % 8 == 0) = false := by rw [beq_eq_false_iff_ne]; omega
    rw [e]
  have i2 := Lib.hid i2
  have i3 := Lib.hid i3
  have hmb : (((a : Int) % 8) == 0) = false := by rw [beq_eq_false_iff_ne]; exact hm
  clear hm
  go_enter Try.func7, Try.ntmps7
  go_wp2_with fail
  refine (alive_ok _).mono ?_
  rintro e w1 ⟨rfl, hb⟩
  go_wp2_with fail
  refine (in_ok a _ _ i1.out).mono ?_
  rintro e w2 ⟨rfl, n, rfl⟩
  go_wp2_with fail
  refine (in_ok (a + 1) _ _ i2.out).mono ?_
  rintro e w2 ⟨rfl, m, rfl⟩
  go_wp2_with fail
  refine (begins_ok (a + 1) 3 _ _ i3.out).mono ?_
  rintro e w2 ⟨rfl, m, rfl⟩
  go_wp2_with fail
  go_ret
  exact ⟨rfl, below_drewN hb _⟩

theorem walk (a : Int) (w : World) (hw : (Lit.int .u16 a).wf = true) : Calls Try.prog 7 #[.int .u16 a] w fun e w' => e = .returned (.bool true) ∧ Below w.heap.size w w' := by
  obtain ⟨h0, h1⟩ := bounds_u16 hw
  by_cases hz : a = 0
  · subst hz; exact walk_zero w
  · by_cases hm : a % 8 = 0
    · exact walk_last a w (by omega) h1 hm
    · exact walk_mid a w (by omega) h1 hm

end Go.Proofs.Ytlbjcaefemmjmaa.next
