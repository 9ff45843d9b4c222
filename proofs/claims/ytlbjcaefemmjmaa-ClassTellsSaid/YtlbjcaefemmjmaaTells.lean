/- The walk of ClassTells: what class any size is of, how any span is cut by any class, and where any word is, is the document's. -/
import Derived.Test.YtlbjcaefemmjmaaRows
import Derived.Test.YtlbjcaefemmjmaaClass
import Derived.Deep.QuietTactic
import Derived.BigQuiet
set_option linter.unusedVariables false
set_option linter.unusedSimpArgs false
namespace Go.Proofs.Ytlbjcaefemmjmaa
open Go.RowKit

/-- same: at lists that are one and the same. -/
theorem same_ok (v u : Value) (xs : List Int) (w : World) (hv : Rd i64e w v xs) (hu : Rd i64e w u xs) (hl : xs.length ≤ 1000) : Calls Try.prog 18 #[v, u] w fun e w' => e = .returned (.bool true) ∧ Below w.heap.size w w' := by
  obtain ⟨A, c, rfl, _, _⟩ := hv.len
  obtain ⟨B, d, rfl, _, _⟩ := hu.len
  go_enter Try.func18, Try.ntmps18
  go_wp2
  go_loopw [13] (fun i wr => ∃ k : Nat, k ≤ xs.length ∧ i = .int .i64 k ∧ ∃ m, wr = w.drewN m) (fun i _ => xs.length - (intOf i).toNat)
  case atStart => exact ⟨0, by omega, rfl, 0, rfl⟩
  case round =>
    obtain ⟨k, hk, rfl, m, rfl⟩ := hrel
    by_cases hlt : k < xs.length
    · obtain ⟨b, o, rfl, _, hc⟩ := hv.at_ hlt
      obtain ⟨b', o', rfl, _, hc'⟩ := hu.at_ hlt
      go_wp2
      go_quiet (fail)
      go_wp2
      go_roundw
      case rel => exact ⟨k + 1, by omega, by go_num, _, rfl⟩
      case measure => simp [intOf]; omega
    · go_wp2
      go_ret
      exact ⟨rfl, below_drewN (Below.refl _ _) _⟩

theorem class_alive_ok (w : World) : Calls Try.prog 13 #[] w fun e w' => e = .returned (.bool true) ∧ Below w.heap.size w w' := by
  have c3 : classOf 3 = 2 := rfl
  have c9 : classOf 9 = -1 := rfl
  have w2 : wordsOf 2 = 4 := rfl
  have s13 : spanOf 13 = 1 := rfl
  have b13 : beginsAt 13 2 = true := rfl
  have b14 : beginsAt 14 2 = false := rfl
  go_enter Try.func13, Try.ntmps13
  go_wp2_with fail
  refine (of_ok _ _).mono ?_
  rintro e w' ⟨rfl, rfl⟩
  go_wp2_with fail
  refine (words_ok _ _).mono ?_
  rintro e w' ⟨rfl, rfl⟩
  go_wp2_with fail
  refine (of_ok _ _).mono ?_
  rintro e w' ⟨rfl, rfl⟩
  go_wp2_with fail
  refine (blocks_ok _ _ _).mono ?_
  rintro e w1 ⟨v, rfl, hown, hb⟩
  go_wp2_with fail
  have hr := (Rd.of_own hown).below (below_alloc w1 (.cells #[.int .i64 9, .int .i64 13] 3))
  have hl := Rd.lit (enc := i64e) w1 3 [9, 13] (by decide)
  have hb1 := hb.alloc hb.size (.cells #[.int .i64 9, .int .i64 13] 3)
  clear hown
  refine (same_ok _ _ [9, 13] _ hr hl (by decide)).mono ?_
  rintro e w2 ⟨rfl, hb2⟩
  have hb3 := hb1.trans (hb2.mono hb1.size)
  clear hr hl hb hb1 hb2
  go_wp2_with fail
  refine (in_ok _ _ (by decide)).mono ?_
  rintro e w' ⟨rfl, rfl⟩
  go_wp2_with fail
  refine (begins_ok _ _ _ (by decide)).mono ?_
  rintro e w' ⟨rfl, rfl⟩
  go_wp2_with fail
  refine (begins_ok _ _ _ (by decide)).mono ?_
  rintro e w' ⟨rfl, rfl⟩
  go_wp2_with fail
  go_ret
  exact ⟨rfl, hb3⟩

/-- ClassTells, whatever the input. -/
theorem tells_ok (n c s p : Int) (w : World) (hp : p ≤ 9223372036854775807) : Calls Try.prog 3 #[.int .i64 n, .int .i64 c, .agg #[.int .i64 s, .int .i64 p]] w fun e w' => e = .returned (.bool true) ∧ Below w.heap.size w w' := by
  go_enter Try.func3, Try.ntmps3
  go_wp2_with fail
  refine (class_alive_ok _).mono ?_
  rintro e w1 ⟨rfl, hb⟩
  have hz := hb.size
  have hb0 : Below w.heap.size w w1 := (below_alloc w _).trans (hb.mono (by simp))
  have hc0 : w1.cell? ⟨w.heap.size, 0, none⟩ = some (.int .i64 s) := (hb.cell (by simp)).trans (by rw [World.cell?_alloc_at _ _ _ _ rfl]; rfl)
  have hc1 : w1.cell? ⟨w.heap.size, 1, none⟩ = some (.int .i64 p) := (hb.cell (by simp)).trans (by rw [World.cell?_alloc_at _ _ _ _ rfl]; rfl)
  clear hb
  go_wp2_with fail
  go_quiet (fail)
  go_wp2_with fail
  refine (of_ok _ _).mono ?_
  rintro e w' ⟨rfl, rfl⟩
  go_wp2_with fail
  refine (rof_ok _ _).mono ?_
  rintro e w' ⟨rfl, rfl⟩
  go_wp2_with fail
  refine (words_ok _ _).mono ?_
  rintro e w' ⟨rfl, rfl⟩
  go_wp2_with fail
  refine (rwords_ok _ _).mono ?_
  rintro e w' ⟨rfl, rfl⟩
  go_wp2_with fail
  refine (blocks_ok _ _ _).mono ?_
  rintro e w2 ⟨v2, rfl, hown2, hb2⟩
  have hr2 := Rd.of_own hown2
  clear hown2
  go_wp2_with fail
  refine (rblocks_ok _ _ _).mono ?_
  rintro e w3 ⟨v3, rfl, hown3, hb3⟩
  have hr3 := Rd.of_own hown3
  clear hown3
  go_wp2_with fail
  refine (same_ok _ _ (blocksOf s c) _ (hr2.below hb3) hr3 ?_).mono ?_
  · unfold blocksOf blockCount
    split
    · simp
    · simp
      repeat' split
      all_goals omega
  rintro e w4 ⟨rfl, hb4⟩
  have hb5 := (below_drewN hb0 _).trans (((hb2.trans (hb3.mono hb2.size)).trans (hb4.mono (Nat.le_trans hb2.size hb3.size))).mono (by simpa using hb0.size))
  go_wp2_with fail
  refine (in_ok _ _ hp).mono ?_
  rintro e w' ⟨rfl, rfl⟩
  go_wp2_with fail
  refine (rin_ok _ _ hp).mono ?_
  rintro e w' ⟨rfl, rfl⟩
  go_wp2_with fail
  refine (begins_ok _ _ _ hp).mono ?_
  rintro e w' ⟨rfl, rfl⟩
  go_wp2_with fail
  refine (rbegins_ok _ _ _ hp).mono ?_
  rintro e w' ⟨rfl, rfl⟩
  go_wp2_with fail
  go_ret
  exact ⟨rfl, hb5⟩

end Go.Proofs.Ytlbjcaefemmjmaa
