/- The walks of package class and of its reference: sizes of blocks, and how spans are cut. -/
import Derived.Test.YtcaboknbdamlhaaGreatDoorBase
import Derived.Test.YtcaboknbdamlhaaGreatDoorInfo
set_option linter.unusedVariables false
set_option linter.unusedSimpArgs false
namespace Go.Proofs.YtcaboknbdamlhaaGreatDoor
open Go.RowKit



theorem words_ok (c : Int) (w : World) : Calls Tryz.prog 83 #[.int .i64 c] w fun e w' => e = .returned (.int .i64 (wordsOf c)) ∧ w = w' := by
  rcases words_cases c with ⟨rfl, h, _⟩ | ⟨rfl, h, _⟩ | ⟨rfl, h, _⟩ | ⟨rfl, h, _⟩ | ⟨hc, h, _⟩
  · rw [h]; clear h
    go_enter Tryz.func83, Tryz.ntmps83
    go_wp2
    go_ret
    exact ⟨rfl, rfl⟩
  · rw [h]; clear h
    go_enter Tryz.func83, Tryz.ntmps83
    go_wp2
    go_ret
    exact ⟨rfl, rfl⟩
  · rw [h]; clear h
    go_enter Tryz.func83, Tryz.ntmps83
    go_wp2
    go_ret
    exact ⟨rfl, rfl⟩
  · rw [h]; clear h
    go_enter Tryz.func83, Tryz.ntmps83
    go_wp2
    go_ret
    exact ⟨rfl, rfl⟩
  · rw [h]; clear h
    rcases hc with hc | hc
    · go_enter Tryz.func83, Tryz.ntmps83
      go_wp2
      go_ret
      exact ⟨rfl, rfl⟩
    · have h0 : ¬ c < 0 := by omega
      go_enter Tryz.func83, Tryz.ntmps83
      go_wp2
      go_ret
      exact ⟨rfl, rfl⟩
theorem rwords_ok (c : Int) (w : World) : Calls Tryz.prog 92 #[.int .i64 c] w fun e w' => e = .returned (.int .i64 (wordsOf c)) ∧ w = w' := by
  rcases words_cases c with ⟨rfl, h, _⟩ | ⟨rfl, h, _⟩ | ⟨rfl, h, _⟩ | ⟨rfl, h, _⟩ | ⟨hc, h, _⟩
  · rw [h]; clear h
    go_enter Tryz.func92, Tryz.ntmps92
    go_wp2
    go_ret
    exact ⟨rfl, rfl⟩
  · rw [h]; clear h
    go_enter Tryz.func92, Tryz.ntmps92
    go_wp2
    go_ret
    exact ⟨rfl, rfl⟩
  · rw [h]; clear h
    go_enter Tryz.func92, Tryz.ntmps92
    go_wp2
    go_ret
    exact ⟨rfl, rfl⟩
  · rw [h]; clear h
    go_enter Tryz.func92, Tryz.ntmps92
    go_wp2
    go_ret
    exact ⟨rfl, rfl⟩
  · rw [h]; clear h
    have h0 : ((c : Int) == 0) = false := by rw [beq_eq_false_iff_ne]; omega
    have h1 : ((c : Int) == 1) = false := by rw [beq_eq_false_iff_ne]; omega
    have h2 : ((c : Int) == 2) = false := by rw [beq_eq_false_iff_ne]; omega
    have h3 : ((c : Int) == 3) = false := by rw [beq_eq_false_iff_ne]; omega
    clear hc
    go_enter Tryz.func92, Tryz.ntmps92
    go_wp2
    go_ret
    exact ⟨rfl, rfl⟩

theorem in_ok (p : Int) (w : World) (hp : p ≤ 9223372036854775807) : Calls Tryz.prog 106 #[.int .i64 p] w fun e w' => e = .returned (.int .i64 (spanOf p)) ∧ w = w' := by
  by_cases h : p < 1
  · have e : spanOf p = -1 := (span_bd p).2.1 h
    rw [e]
    clear e
    go_enter Tryz.func106, Tryz.ntmps106
    go_wp2
    go_ret
    exact ⟨rfl, rfl⟩
  · have e : spanOf p = (p - 1) / 8 := (span_bd p).2.2 (by omega)
    rw [e]
    clear e
    go_enter Tryz.func106, Tryz.ntmps106
    go_wp2
    go_ret
    exact ⟨rfl, rfl⟩
theorem rin_ok (p : Int) (w : World) (hp : p ≤ 9223372036854775807) : Calls Tryz.prog 94 #[.int .i64 p] w fun e w' => e = .returned (.int .i64 (spanOf p)) ∧ w = w' := by
  by_cases h : p < 1
  · have e : spanOf p = -1 := (span_bd p).2.1 h
    rw [e]
    clear e
    go_enter Tryz.func94, Tryz.ntmps94
    go_wp2
    go_ret
    exact ⟨rfl, rfl⟩
  · have e : spanOf p = (p - 1) / 8 := (span_bd p).2.2 (by omega)
    rw [e]
    clear e
    go_enter Tryz.func94, Tryz.ntmps94
    go_wp2
    go_ret
    exact ⟨rfl, rfl⟩

theorem class_at (n : Int) : (n < 1 ∧ classOf n = -1) ∨ (n = 1 ∧ classOf n = 0) ∨ (n = 2 ∧ classOf n = 1) ∨ (3 ≤ n ∧ n ≤ 4 ∧ classOf n = 2) ∨ (5 ≤ n ∧ n ≤ 8 ∧ classOf n = 3) ∨ (9 ≤ n ∧ classOf n = -1) := by
  unfold classOf
  repeat' split
  all_goals omega
/-- Of goes through the classes: each is too small till the one that is answered. -/
theorem of_ok (n : Int) (w : World) : Calls Tryz.prog 51 #[.int .i64 n] w fun e w' => e = .returned (.int .i64 (classOf n)) ∧ w = w' := by
  have hw0 : wordsOf 0 = 1 := rfl
  have hw1 : wordsOf 1 = 2 := rfl
  have hw2 : wordsOf 2 = 4 := rfl
  have hw3 : wordsOf 3 = 8 := rfl
  rcases class_at n with ⟨hn, h⟩ | ⟨rfl, h⟩ | ⟨rfl, h⟩ | ⟨hn, hn', h⟩ | ⟨hn, hn', h⟩ | ⟨hn, h⟩
  · rw [h]; clear h
    go_enter Tryz.func51, Tryz.ntmps51
    go_wp2_with fail
    go_ret
    exact ⟨rfl, rfl⟩
  all_goals
    rw [h]; clear h
    go_enter Tryz.func51, Tryz.ntmps51
    go_wp2_with fail
    refine wp_loop_rounds 5 ?_
    repeat (rw [rounds_succ]; go_wp2_with (go_at_call 83; refine (words_ok _ _).mono ?_; rintro e w' ⟨rfl, rfl⟩))
    go_ret
    exact ⟨rfl, rfl⟩
theorem rof_ok (n : Int) (w : World) : Calls Tryz.prog 87 #[.int .i64 n] w fun e w' => e = .returned (.int .i64 (classOf n)) ∧ w = w' := by
  have hw0 : wordsOf 0 = 1 := rfl
  have hw1 : wordsOf 1 = 2 := rfl
  have hw2 : wordsOf 2 = 4 := rfl
  have hw3 : wordsOf 3 = 8 := rfl
  rcases class_at n with ⟨hn, h⟩ | ⟨rfl, h⟩ | ⟨rfl, h⟩ | ⟨hn, hn', h⟩ | ⟨hn, hn', h⟩ | ⟨hn, h⟩
  all_goals
    rw [h]; clear h
    go_enter Tryz.func87, Tryz.ntmps87
    go_wp2_with fail
    refine wp_loop_rounds 5 ?_
    repeat (rw [rounds_succ]; go_wp2_with (go_at_call 92; refine (rwords_ok _ _).mono ?_; rintro e w' ⟨rfl, rfl⟩))
    go_ret
    exact ⟨rfl, rfl⟩

theorem begins_no (p c : Int) (h : p < 1 ∨ wordsOf c = 0) : beginsAt p c = false := by
  unfold beginsAt
  rw [decide_eq_false_iff_not]
  omega
theorem begins_at (p c : Int) (h : 1 ≤ p) (hw : 0 < wordsOf c) : beginsAt p c = ((p - 1) % wordsOf c == 0) := by
  unfold beginsAt
  rw [Bool.eq_iff_iff, beq_iff_eq, decide_eq_true_iff]
  omega
theorem begins_ok (p c : Int) (w : World) (hp : p ≤ 9223372036854775807) : Calls Tryz.prog 112 #[.int .i64 p, .int .i64 c] w fun e w' => e = .returned (.bool (beginsAt p c)) ∧ w = w' := by
  by_cases h : p < 1
  · rw [begins_no p c (.inl h)]
    have h' : ¬ 1 ≤ p := by omega
    go_enter Tryz.func112, Tryz.ntmps112
    go_wp2_with (go_at_call 83; refine (words_ok _ _).mono ?_; rintro e w' ⟨rfl, rfl⟩)
    go_ret
    exact ⟨rfl, rfl⟩
  · have h1 : 1 ≤ p := by omega
    rcases words_cases c with ⟨_, hw, _⟩ | ⟨_, hw, _⟩ | ⟨_, hw, _⟩ | ⟨_, hw, _⟩ | ⟨_, hw, _⟩
    · have e : beginsAt p c = ((p - 1) % 1 == 0) := by rw [begins_at p c h1 (by omega), hw] <;> (rw [Bool.eq_iff_iff]; simp only [beq_iff_eq]; omega)
      rw [e]; clear e
      go_enter Tryz.func112, Tryz.ntmps112
      go_wp2_with (go_at_call 83; refine (words_ok _ _).mono ?_; rintro e w' ⟨rfl, rfl⟩)
      go_ret
      exact ⟨rfl, rfl⟩
    · have e : beginsAt p c = ((p - 1) % 2 == 0) := by rw [begins_at p c h1 (by omega), hw] <;> (rw [Bool.eq_iff_iff]; simp only [beq_iff_eq]; omega)
      rw [e]; clear e
      go_enter Tryz.func112, Tryz.ntmps112
      go_wp2_with (go_at_call 83; refine (words_ok _ _).mono ?_; rintro e w' ⟨rfl, rfl⟩)
      go_ret
      exact ⟨rfl, rfl⟩
    · have e : beginsAt p c = ((p - 1) % 4 == 0) := by rw [begins_at p c h1 (by omega), hw] <;> (rw [Bool.eq_iff_iff]; simp only [beq_iff_eq]; omega)
      rw [e]; clear e
      go_enter Tryz.func112, Tryz.ntmps112
      go_wp2_with (go_at_call 83; refine (words_ok _ _).mono ?_; rintro e w' ⟨rfl, rfl⟩)
      go_ret
      exact ⟨rfl, rfl⟩
    · have e : beginsAt p c = ((p - 1) % 8 == 0) := by rw [begins_at p c h1 (by omega), hw] <;> (rw [Bool.eq_iff_iff]; simp only [beq_iff_eq]; omega)
      rw [e]; clear e
      go_enter Tryz.func112, Tryz.ntmps112
      go_wp2_with (go_at_call 83; refine (words_ok _ _).mono ?_; rintro e w' ⟨rfl, rfl⟩)
      go_ret
      exact ⟨rfl, rfl⟩
    · rw [begins_no p c (.inr hw)]
      go_enter Tryz.func112, Tryz.ntmps112
      go_wp2_with (go_at_call 83; refine (words_ok _ _).mono ?_; rintro e w' ⟨rfl, rfl⟩)
      go_ret
      exact ⟨rfl, rfl⟩
theorem rbegins_ok (p c : Int) (w : World) (hp : p ≤ 9223372036854775807) : Calls Tryz.prog 109 #[.int .i64 p, .int .i64 c] w fun e w' => e = .returned (.bool (beginsAt p c)) ∧ w = w' := by
  by_cases h : p < 1
  · rw [begins_no p c (.inl h)]
    have h' : ¬ 1 ≤ p := by omega
    go_enter Tryz.func109, Tryz.ntmps109
    go_wp2_with (go_at_call 92; refine (rwords_ok _ _).mono ?_; rintro e w' ⟨rfl, rfl⟩)
    go_ret
    exact ⟨rfl, rfl⟩
  · have h1 : 1 ≤ p := by omega
    rcases words_cases c with ⟨_, hw, _⟩ | ⟨_, hw, _⟩ | ⟨_, hw, _⟩ | ⟨_, hw, _⟩ | ⟨_, hw, _⟩
    · have e : beginsAt p c = ((p - 1) % 8 % 1 == 0) := by rw [begins_at p c h1 (by omega), hw] <;> (rw [Bool.eq_iff_iff]; simp only [beq_iff_eq]; omega)
      rw [e]; clear e
      go_enter Tryz.func109, Tryz.ntmps109
      go_wp2_with (go_at_call 92; refine (rwords_ok _ _).mono ?_; rintro e w' ⟨rfl, rfl⟩)
      go_ret
      exact ⟨rfl, rfl⟩
    · have e : beginsAt p c = ((p - 1) % 8 % 2 == 0) := by rw [begins_at p c h1 (by omega), hw] <;> (rw [Bool.eq_iff_iff]; simp only [beq_iff_eq]; omega)
      rw [e]; clear e
      go_enter Tryz.func109, Tryz.ntmps109
      go_wp2_with (go_at_call 92; refine (rwords_ok _ _).mono ?_; rintro e w' ⟨rfl, rfl⟩)
      go_ret
      exact ⟨rfl, rfl⟩
    · have e : beginsAt p c = ((p - 1) % 8 % 4 == 0) := by rw [begins_at p c h1 (by omega), hw] <;> (rw [Bool.eq_iff_iff]; simp only [beq_iff_eq]; omega)
      rw [e]; clear e
      go_enter Tryz.func109, Tryz.ntmps109
      go_wp2_with (go_at_call 92; refine (rwords_ok _ _).mono ?_; rintro e w' ⟨rfl, rfl⟩)
      go_ret
      exact ⟨rfl, rfl⟩
    · have e : beginsAt p c = ((p - 1) % 8 % 8 == 0) := by rw [begins_at p c h1 (by omega), hw] <;> (rw [Bool.eq_iff_iff]; simp only [beq_iff_eq]; omega)
      rw [e]; clear e
      go_enter Tryz.func109, Tryz.ntmps109
      go_wp2_with (go_at_call 92; refine (rwords_ok _ _).mono ?_; rintro e w' ⟨rfl, rfl⟩)
      go_ret
      exact ⟨rfl, rfl⟩
    · rw [begins_no p c (.inr hw)]
      go_enter Tryz.func109, Tryz.ntmps109
      go_wp2_with (go_at_call 92; refine (rwords_ok _ _).mono ?_; rintro e w' ⟨rfl, rfl⟩)
      go_ret
      exact ⟨rfl, rfl⟩

-- BLOCKS
/-- The first n blocks of m words of span s. -/
def cutAt (s m : Int) (n : Nat) : List Int := (List.range n).map fun (j : Nat) => 8 * s + 1 + m * (j : Int)
theorem cutAt_succ (s m : Int) (n : Nat) : cutAt s m (n + 1) = cutAt s m n ++ [8 * s + 1 + m * (n : Int)] := by
  unfold cutAt; rw [List.range_succ, List.map_append]; rfl
theorem blocks0 (s : Int) (w : World) (h0 : 0 ≤ s) (h1 : s ≤ 1048576) : Calls Tryz.prog 99 #[.int .i64 s, .int .i64 0] w fun e w' => ∃ v, e = .returned v ∧ w'.ownsRow w.heap.size 3 1 v 8 ((cutAt s 1 8).map i64e) ∧ Below w.heap.size w w' := by
  have hw : wordsOf 0 = 1 := rfl
  go_enter Tryz.func99, Tryz.ntmps99
  go_wp2_with (go_at_call 83; refine (words_ok _ _).mono ?_; rintro e w' ⟨rfl, rfl⟩)
  go_loopw [6, 7] (fun v i wr => ∃ j : Nat, j ≤ 8 ∧ i = .int .i64 (1 * (j : Int)) ∧ wr.ownsRow w.heap.size 3 1 v j ((cutAt s 1 j).map i64e) ∧ Below w.heap.size w wr) (fun _ i _ => 9 - (intOf i).toNat)
  case atStart => exact ⟨0, by omega, rfl, World.ownsRow_nil _ _ _ _, Below.refl _ _⟩
  case round =>
    obtain ⟨j, hj, rfl, hown, hb⟩ := hrel
    by_cases hlt : j < 8
    · have hz := hb.size
      go_wp2_with (at_builtin; refine wpList_push rfl (.tmp 25) (.tmp 31) _ rfl w.heap.size 3 _ 8 Tryz.underlying36 int_info rfl _ _ _ rfl hown _ rfl rfl (by unfold maxLen; omega) (by omega) hz ?_; intro v' w1 hown' hg hat)
      go_roundw
      case rel => exact ⟨j + 1, by omega, by go_num, by rw [cutAt_succ, List.map_append]; first | exact hown' | (rw [Int.one_mul]; exact hown'), hb.grown hg hz (fun k hk => (hown.lt k hk).1)⟩
      case measure => simp [intOf]; omega
    · obtain rfl : j = 8 := by omega
      go_wp2_with fail
      go_ret
      exact ⟨_, rfl, hown, hb⟩
theorem blocks1 (s : Int) (w : World) (h0 : 0 ≤ s) (h1 : s ≤ 1048576) : Calls Tryz.prog 99 #[.int .i64 s, .int .i64 1] w fun e w' => ∃ v, e = .returned v ∧ w'.ownsRow w.heap.size 3 1 v 4 ((cutAt s 2 4).map i64e) ∧ Below w.heap.size w w' := by
  have hw : wordsOf 1 = 2 := rfl
  go_enter Tryz.func99, Tryz.ntmps99
  go_wp2_with (go_at_call 83; refine (words_ok _ _).mono ?_; rintro e w' ⟨rfl, rfl⟩)
  go_loopw [6, 7] (fun v i wr => ∃ j : Nat, j ≤ 4 ∧ i = .int .i64 (2 * (j : Int)) ∧ wr.ownsRow w.heap.size 3 1 v j ((cutAt s 2 j).map i64e) ∧ Below w.heap.size w wr) (fun _ i _ => 9 - (intOf i).toNat)
  case atStart => exact ⟨0, by omega, rfl, World.ownsRow_nil _ _ _ _, Below.refl _ _⟩
  case round =>
    obtain ⟨j, hj, rfl, hown, hb⟩ := hrel
    by_cases hlt : j < 4
    · have hz := hb.size
      go_wp2_with (at_builtin; refine wpList_push rfl (.tmp 25) (.tmp 31) _ rfl w.heap.size 3 _ 8 Tryz.underlying36 int_info rfl _ _ _ rfl hown _ rfl rfl (by unfold maxLen; omega) (by omega) hz ?_; intro v' w1 hown' hg hat)
      go_roundw
      case rel => exact ⟨j + 1, by omega, by go_num, by rw [cutAt_succ, List.map_append]; first | exact hown' | (rw [Int.one_mul]; exact hown'), hb.grown hg hz (fun k hk => (hown.lt k hk).1)⟩
      case measure => simp [intOf]; omega
    · obtain rfl : j = 4 := by omega
      go_wp2_with fail
      go_ret
      exact ⟨_, rfl, hown, hb⟩
theorem blocks2 (s : Int) (w : World) (h0 : 0 ≤ s) (h1 : s ≤ 1048576) : Calls Tryz.prog 99 #[.int .i64 s, .int .i64 2] w fun e w' => ∃ v, e = .returned v ∧ w'.ownsRow w.heap.size 3 1 v 2 ((cutAt s 4 2).map i64e) ∧ Below w.heap.size w w' := by
  have hw : wordsOf 2 = 4 := rfl
  go_enter Tryz.func99, Tryz.ntmps99
  go_wp2_with (go_at_call 83; refine (words_ok _ _).mono ?_; rintro e w' ⟨rfl, rfl⟩)
  go_loopw [6, 7] (fun v i wr => ∃ j : Nat, j ≤ 2 ∧ i = .int .i64 (4 * (j : Int)) ∧ wr.ownsRow w.heap.size 3 1 v j ((cutAt s 4 j).map i64e) ∧ Below w.heap.size w wr) (fun _ i _ => 9 - (intOf i).toNat)
  case atStart => exact ⟨0, by omega, rfl, World.ownsRow_nil _ _ _ _, Below.refl _ _⟩
  case round =>
    obtain ⟨j, hj, rfl, hown, hb⟩ := hrel
    by_cases hlt : j < 2
    · have hz := hb.size
      go_wp2_with (at_builtin; refine wpList_push rfl (.tmp 25) (.tmp 31) _ rfl w.heap.size 3 _ 8 Tryz.underlying36 int_info rfl _ _ _ rfl hown _ rfl rfl (by unfold maxLen; omega) (by omega) hz ?_; intro v' w1 hown' hg hat)
      go_roundw
      case rel => exact ⟨j + 1, by omega, by go_num, by rw [cutAt_succ, List.map_append]; first | exact hown' | (rw [Int.one_mul]; exact hown'), hb.grown hg hz (fun k hk => (hown.lt k hk).1)⟩
      case measure => simp [intOf]; omega
    · obtain rfl : j = 2 := by omega
      go_wp2_with fail
      go_ret
      exact ⟨_, rfl, hown, hb⟩
theorem blocks3 (s : Int) (w : World) (h0 : 0 ≤ s) (h1 : s ≤ 1048576) : Calls Tryz.prog 99 #[.int .i64 s, .int .i64 3] w fun e w' => ∃ v, e = .returned v ∧ w'.ownsRow w.heap.size 3 1 v 1 ((cutAt s 8 1).map i64e) ∧ Below w.heap.size w w' := by
  have hw : wordsOf 3 = 8 := rfl
  go_enter Tryz.func99, Tryz.ntmps99
  go_wp2_with (go_at_call 83; refine (words_ok _ _).mono ?_; rintro e w' ⟨rfl, rfl⟩)
  go_loopw [6, 7] (fun v i wr => ∃ j : Nat, j ≤ 1 ∧ i = .int .i64 (8 * (j : Int)) ∧ wr.ownsRow w.heap.size 3 1 v j ((cutAt s 8 j).map i64e) ∧ Below w.heap.size w wr) (fun _ i _ => 9 - (intOf i).toNat)
  case atStart => exact ⟨0, by omega, rfl, World.ownsRow_nil _ _ _ _, Below.refl _ _⟩
  case round =>
    obtain ⟨j, hj, rfl, hown, hb⟩ := hrel
    by_cases hlt : j < 1
    · have hz := hb.size
      go_wp2_with (at_builtin; refine wpList_push rfl (.tmp 25) (.tmp 31) _ rfl w.heap.size 3 _ 8 Tryz.underlying36 int_info rfl _ _ _ rfl hown _ rfl rfl (by unfold maxLen; omega) (by omega) hz ?_; intro v' w1 hown' hg hat)
      go_roundw
      case rel => exact ⟨j + 1, by omega, by go_num, by rw [cutAt_succ, List.map_append]; first | exact hown' | (rw [Int.one_mul]; exact hown'), hb.grown hg hz (fun k hk => (hown.lt k hk).1)⟩
      case measure => simp [intOf]; omega
    · obtain rfl : j = 1 := by omega
      go_wp2_with fail
      go_ret
      exact ⟨_, rfl, hown, hb⟩
theorem blocks_no (s c : Int) (w : World) (h : s < 0 ∨ 1048576 < s ∨ wordsOf c = 0) : Calls Tryz.prog 99 #[.int .i64 s, .int .i64 c] w fun e w' => e = .returned (.slice none 0 0) ∧ w = w' := by
  by_cases ha : s < 0
  · clear h
    go_enter Tryz.func99, Tryz.ntmps99
    go_wp2_with (go_at_call 83; refine (words_ok _ _).mono ?_; rintro e w' ⟨rfl, rfl⟩)
    go_ret
    exact ⟨rfl, rfl⟩
  · by_cases hb : 1048576 < s
    · clear h
      go_enter Tryz.func99, Tryz.ntmps99
      go_wp2_with (go_at_call 83; refine (words_ok _ _).mono ?_; rintro e w' ⟨rfl, rfl⟩)
      go_ret
      exact ⟨rfl, rfl⟩
    · have hw : wordsOf c = 0 := by omega
      clear h
      go_enter Tryz.func99, Tryz.ntmps99
      go_wp2_with (go_at_call 83; refine (words_ok _ _).mono ?_; rintro e w' ⟨rfl, rfl⟩)
      go_ret
      exact ⟨rfl, rfl⟩
theorem blocks_ok (s c : Int) (w : World) : Calls Tryz.prog 99 #[.int .i64 s, .int .i64 c] w fun e w' => ∃ v, e = .returned v ∧ w'.ownsRow w.heap.size 3 1 v (blocksOf s c).length ((blocksOf s c).map i64e) ∧ Below w.heap.size w w' := by
  by_cases hs : s < 0 ∨ 1048576 < s
  · refine (blocks_no s c w (by omega)).mono ?_
    rintro e w' ⟨rfl, rfl⟩
    have e : blocksOf s c = [] := by unfold blocksOf; rw [if_pos hs]
    rw [e]
    exact ⟨_, rfl, World.ownsRow_nil _ _ _ _, Below.refl _ _⟩
  · rcases words_cases c with ⟨hc, hw, hn⟩ | ⟨hc, hw, hn⟩ | ⟨hc, hw, hn⟩ | ⟨hc, hw, hn⟩ | ⟨hc, hw, hn⟩
    · have e : blocksOf s c = cutAt s 1 8 := by unfold blocksOf cutAt; rw [if_neg hs, hw, hn]
      have el : (cutAt s 1 8).length = 8 := by simp [cutAt]
      rw [e, el, hc]
      exact blocks0 s w (by omega) (by omega)
    · have e : blocksOf s c = cutAt s 2 4 := by unfold blocksOf cutAt; rw [if_neg hs, hw, hn]
      have el : (cutAt s 2 4).length = 4 := by simp [cutAt]
      rw [e, el, hc]
      exact blocks1 s w (by omega) (by omega)
    · have e : blocksOf s c = cutAt s 4 2 := by unfold blocksOf cutAt; rw [if_neg hs, hw, hn]
      have el : (cutAt s 4 2).length = 2 := by simp [cutAt]
      rw [e, el, hc]
      exact blocks2 s w (by omega) (by omega)
    · have e : blocksOf s c = cutAt s 8 1 := by unfold blocksOf cutAt; rw [if_neg hs, hw, hn]
      have el : (cutAt s 8 1).length = 1 := by simp [cutAt]
      rw [e, el, hc]
      exact blocks3 s w (by omega) (by omega)
    · refine (blocks_no s c w (by omega)).mono ?_
      rintro e w' ⟨rfl, rfl⟩
      have e : blocksOf s c = [] := by unfold blocksOf; rw [if_neg hs, hn]; rfl
      rw [e]
      exact ⟨_, rfl, World.ownsRow_nil _ _ _ _, Below.refl _ _⟩
theorem rblocks0 (s : Int) (w : World) (h0 : 0 ≤ s) (h1 : s ≤ 1048576) : Calls Tryz.prog 108 #[.int .i64 s, .int .i64 0] w fun e w' => ∃ v, e = .returned v ∧ w'.ownsRow w.heap.size 3 1 v 8 ((cutAt s 1 8).map i64e) ∧ Below w.heap.size w w' := by
  have hw : wordsOf 0 = 1 := rfl
  go_enter Tryz.func108, Tryz.ntmps108
  go_wp2_with (go_at_call 92; refine (rwords_ok _ _).mono ?_; rintro e w' ⟨rfl, rfl⟩)
  go_loopw [6, 7] (fun v i wr => ∃ j : Nat, j ≤ 8 ∧ i = .int .i64 (1 * (j : Int)) ∧ wr.ownsRow w.heap.size 3 1 v j ((cutAt s 1 j).map i64e) ∧ Below w.heap.size w wr) (fun _ i _ => 9 - (intOf i).toNat)
  case atStart => exact ⟨0, by omega, rfl, World.ownsRow_nil _ _ _ _, Below.refl _ _⟩
  case round =>
    obtain ⟨j, hj, rfl, hown, hb⟩ := hrel
    by_cases hlt : j < 8
    · have hz := hb.size
      go_wp2_with (at_builtin; refine wpList_push rfl (.tmp 27) (.tmp 33) _ rfl w.heap.size 3 _ 8 Tryz.underlying36 int_info rfl _ _ _ rfl hown _ rfl rfl (by unfold maxLen; omega) (by omega) hz ?_; intro v' w1 hown' hg hat)
      go_roundw
      case rel => exact ⟨j + 1, by omega, by go_num, by rw [cutAt_succ, List.map_append]; first | exact hown' | (rw [Int.one_mul]; exact hown'), hb.grown hg hz (fun k hk => (hown.lt k hk).1)⟩
      case measure => simp [intOf]; omega
    · obtain rfl : j = 8 := by omega
      go_wp2_with fail
      go_ret
      exact ⟨_, rfl, hown, hb⟩
theorem rblocks1 (s : Int) (w : World) (h0 : 0 ≤ s) (h1 : s ≤ 1048576) : Calls Tryz.prog 108 #[.int .i64 s, .int .i64 1] w fun e w' => ∃ v, e = .returned v ∧ w'.ownsRow w.heap.size 3 1 v 4 ((cutAt s 2 4).map i64e) ∧ Below w.heap.size w w' := by
  have hw : wordsOf 1 = 2 := rfl
  go_enter Tryz.func108, Tryz.ntmps108
  go_wp2_with (go_at_call 92; refine (rwords_ok _ _).mono ?_; rintro e w' ⟨rfl, rfl⟩)
  go_loopw [6, 7] (fun v i wr => ∃ j : Nat, j ≤ 4 ∧ i = .int .i64 (2 * (j : Int)) ∧ wr.ownsRow w.heap.size 3 1 v j ((cutAt s 2 j).map i64e) ∧ Below w.heap.size w wr) (fun _ i _ => 9 - (intOf i).toNat)
  case atStart => exact ⟨0, by omega, rfl, World.ownsRow_nil _ _ _ _, Below.refl _ _⟩
  case round =>
    obtain ⟨j, hj, rfl, hown, hb⟩ := hrel
    by_cases hlt : j < 4
    · have hz := hb.size
      go_wp2_with (at_builtin; refine wpList_push rfl (.tmp 27) (.tmp 33) _ rfl w.heap.size 3 _ 8 Tryz.underlying36 int_info rfl _ _ _ rfl hown _ rfl rfl (by unfold maxLen; omega) (by omega) hz ?_; intro v' w1 hown' hg hat)
      go_roundw
      case rel => exact ⟨j + 1, by omega, by go_num, by rw [cutAt_succ, List.map_append]; first | exact hown' | (rw [Int.one_mul]; exact hown'), hb.grown hg hz (fun k hk => (hown.lt k hk).1)⟩
      case measure => simp [intOf]; omega
    · obtain rfl : j = 4 := by omega
      go_wp2_with fail
      go_ret
      exact ⟨_, rfl, hown, hb⟩
theorem rblocks2 (s : Int) (w : World) (h0 : 0 ≤ s) (h1 : s ≤ 1048576) : Calls Tryz.prog 108 #[.int .i64 s, .int .i64 2] w fun e w' => ∃ v, e = .returned v ∧ w'.ownsRow w.heap.size 3 1 v 2 ((cutAt s 4 2).map i64e) ∧ Below w.heap.size w w' := by
  have hw : wordsOf 2 = 4 := rfl
  go_enter Tryz.func108, Tryz.ntmps108
  go_wp2_with (go_at_call 92; refine (rwords_ok _ _).mono ?_; rintro e w' ⟨rfl, rfl⟩)
  go_loopw [6, 7] (fun v i wr => ∃ j : Nat, j ≤ 2 ∧ i = .int .i64 (4 * (j : Int)) ∧ wr.ownsRow w.heap.size 3 1 v j ((cutAt s 4 j).map i64e) ∧ Below w.heap.size w wr) (fun _ i _ => 9 - (intOf i).toNat)
  case atStart => exact ⟨0, by omega, rfl, World.ownsRow_nil _ _ _ _, Below.refl _ _⟩
  case round =>
    obtain ⟨j, hj, rfl, hown, hb⟩ := hrel
    by_cases hlt : j < 2
    · have hz := hb.size
      go_wp2_with (at_builtin; refine wpList_push rfl (.tmp 27) (.tmp 33) _ rfl w.heap.size 3 _ 8 Tryz.underlying36 int_info rfl _ _ _ rfl hown _ rfl rfl (by unfold maxLen; omega) (by omega) hz ?_; intro v' w1 hown' hg hat)
      go_roundw
      case rel => exact ⟨j + 1, by omega, by go_num, by rw [cutAt_succ, List.map_append]; first | exact hown' | (rw [Int.one_mul]; exact hown'), hb.grown hg hz (fun k hk => (hown.lt k hk).1)⟩
      case measure => simp [intOf]; omega
    · obtain rfl : j = 2 := by omega
      go_wp2_with fail
      go_ret
      exact ⟨_, rfl, hown, hb⟩
theorem rblocks3 (s : Int) (w : World) (h0 : 0 ≤ s) (h1 : s ≤ 1048576) : Calls Tryz.prog 108 #[.int .i64 s, .int .i64 3] w fun e w' => ∃ v, e = .returned v ∧ w'.ownsRow w.heap.size 3 1 v 1 ((cutAt s 8 1).map i64e) ∧ Below w.heap.size w w' := by
  have hw : wordsOf 3 = 8 := rfl
  go_enter Tryz.func108, Tryz.ntmps108
  go_wp2_with (go_at_call 92; refine (rwords_ok _ _).mono ?_; rintro e w' ⟨rfl, rfl⟩)
  go_loopw [6, 7] (fun v i wr => ∃ j : Nat, j ≤ 1 ∧ i = .int .i64 (8 * (j : Int)) ∧ wr.ownsRow w.heap.size 3 1 v j ((cutAt s 8 j).map i64e) ∧ Below w.heap.size w wr) (fun _ i _ => 9 - (intOf i).toNat)
  case atStart => exact ⟨0, by omega, rfl, World.ownsRow_nil _ _ _ _, Below.refl _ _⟩
  case round =>
    obtain ⟨j, hj, rfl, hown, hb⟩ := hrel
    by_cases hlt : j < 1
    · have hz := hb.size
      go_wp2_with (at_builtin; refine wpList_push rfl (.tmp 27) (.tmp 33) _ rfl w.heap.size 3 _ 8 Tryz.underlying36 int_info rfl _ _ _ rfl hown _ rfl rfl (by unfold maxLen; omega) (by omega) hz ?_; intro v' w1 hown' hg hat)
      go_roundw
      case rel => exact ⟨j + 1, by omega, by go_num, by rw [cutAt_succ, List.map_append]; first | exact hown' | (rw [Int.one_mul]; exact hown'), hb.grown hg hz (fun k hk => (hown.lt k hk).1)⟩
      case measure => simp [intOf]; omega
    · obtain rfl : j = 1 := by omega
      go_wp2_with fail
      go_ret
      exact ⟨_, rfl, hown, hb⟩
theorem rblocks_no (s c : Int) (w : World) (h : s < 0 ∨ 1048576 < s ∨ wordsOf c = 0) : Calls Tryz.prog 108 #[.int .i64 s, .int .i64 c] w fun e w' => e = .returned (.slice none 0 0) ∧ w = w' := by
  by_cases ha : s < 0
  · clear h
    go_enter Tryz.func108, Tryz.ntmps108
    go_wp2_with (go_at_call 92; refine (rwords_ok _ _).mono ?_; rintro e w' ⟨rfl, rfl⟩)
    go_ret
    exact ⟨rfl, rfl⟩
  · by_cases hb : 1048576 < s
    · clear h
      go_enter Tryz.func108, Tryz.ntmps108
      go_wp2_with (go_at_call 92; refine (rwords_ok _ _).mono ?_; rintro e w' ⟨rfl, rfl⟩)
      go_ret
      exact ⟨rfl, rfl⟩
    · have hw : wordsOf c = 0 := by omega
      clear h
      go_enter Tryz.func108, Tryz.ntmps108
      go_wp2_with (go_at_call 92; refine (rwords_ok _ _).mono ?_; rintro e w' ⟨rfl, rfl⟩)
      go_ret
      exact ⟨rfl, rfl⟩
theorem rblocks_ok (s c : Int) (w : World) : Calls Tryz.prog 108 #[.int .i64 s, .int .i64 c] w fun e w' => ∃ v, e = .returned v ∧ w'.ownsRow w.heap.size 3 1 v (blocksOf s c).length ((blocksOf s c).map i64e) ∧ Below w.heap.size w w' := by
  by_cases hs : s < 0 ∨ 1048576 < s
  · refine (rblocks_no s c w (by omega)).mono ?_
    rintro e w' ⟨rfl, rfl⟩
    have e : blocksOf s c = [] := by unfold blocksOf; rw [if_pos hs]
    rw [e]
    exact ⟨_, rfl, World.ownsRow_nil _ _ _ _, Below.refl _ _⟩
  · rcases words_cases c with ⟨hc, hw, hn⟩ | ⟨hc, hw, hn⟩ | ⟨hc, hw, hn⟩ | ⟨hc, hw, hn⟩ | ⟨hc, hw, hn⟩
    · have e : blocksOf s c = cutAt s 1 8 := by unfold blocksOf cutAt; rw [if_neg hs, hw, hn]
      have el : (cutAt s 1 8).length = 8 := by simp [cutAt]
      rw [e, el, hc]
      exact rblocks0 s w (by omega) (by omega)
    · have e : blocksOf s c = cutAt s 2 4 := by unfold blocksOf cutAt; rw [if_neg hs, hw, hn]
      have el : (cutAt s 2 4).length = 4 := by simp [cutAt]
      rw [e, el, hc]
      exact rblocks1 s w (by omega) (by omega)
    · have e : blocksOf s c = cutAt s 4 2 := by unfold blocksOf cutAt; rw [if_neg hs, hw, hn]
      have el : (cutAt s 4 2).length = 2 := by simp [cutAt]
      rw [e, el, hc]
      exact rblocks2 s w (by omega) (by omega)
    · have e : blocksOf s c = cutAt s 8 1 := by unfold blocksOf cutAt; rw [if_neg hs, hw, hn]
      have el : (cutAt s 8 1).length = 1 := by simp [cutAt]
      rw [e, el, hc]
      exact rblocks3 s w (by omega) (by omega)
    · refine (rblocks_no s c w (by omega)).mono ?_
      rintro e w' ⟨rfl, rfl⟩
      have e : blocksOf s c = [] := by unfold blocksOf; rw [if_neg hs, hn]; rfl
      rw [e]
      exact ⟨_, rfl, World.ownsRow_nil _ _ _ _, Below.refl _ _⟩

end Go.Proofs.YtcaboknbdamlhaaGreatDoor
