/- Same of the reference, at lists that are one and the same; few of the law. -/
import Derived.Test.YtbjchfhglnepiaaListCut
set_option linter.unusedVariables false
set_option linter.unusedSimpArgs false
namespace Go.Proofs.Ytbjchfhglnepiaa
open Go.RowKit

set_option maxHeartbeats 800000 in
theorem rsame_ok (f g : Nat → Value) (L : Nat → List Int) (w : World) (hf : ∀ j, j < 4 → Rd i64e w (f j) (L j)) (hg : ∀ j, j < 4 → Rd i64e w (g j) (L j)) (hl : ShortL L) :
    Calls Try.prog 33 #[.agg (arr4 f), .agg (arr4 g)] w fun e w' => e = .returned (.bool true) ∧ Below w.heap.size w w' := by
  have HL := Lib.hid hl
  have HF := Lib.hid hf
  have HG := Lib.hid hg
  clear hf hg hl
  go_enter Try.func33, Try.ntmps33
  go_wp2_with (first
    | (refine wpList_new rfl (.box 34 (.tmp 0)) rfl w.heap.size rfl 34 (arr4 f) (by kernel_rfl) ?_; intro w1 hs1 hb1 hB1)
    | (refine wpList_new rfl (.box 34 (.tmp 1)) rfl (w.heap.size + 1) hs1 34 (arr4 g) (by kernel_rfl) ?_; intro w2 hs2 hb2 hC2; refine stop_here ?_))
  have hB2 := Lib.hid (hB1.below hb2 (by omega))
  have hC2 := Lib.hid hC2
  have hb2 := hb1.trans (hb2.mono (by omega))
  have HF2 := Lib.hid (fun j (hj : j < 4) => (HF.out j hj).below hb2)
  have HG2 := Lib.hid (fun j (hj : j < 4) => (HG.out j hj).below hb2)
  clear hs1 hB1 hb1 hs2
  refine go_on ?_
  go_wp2_with fail
  go_loopw [5] (fun c wr => ∃ k : Nat, k ≤ 4 ∧ c = .int .i64 k ∧ ∃ n, wr = w2.drewN n) (fun c _ => 4 - (intOf c).toNat)
  case atStart => exact ⟨0, by omega, rfl, 0, rfl⟩
  case round =>
    obtain ⟨k, hk, rfl, n, rfl⟩ := hrel
    by_cases hlt : k < 4
    · obtain ⟨A, c, hcell, hr, _⟩ := rd_cell3 hB2.out hlt (HF2.out k hlt)
      obtain ⟨A', c', hcell', hr', _⟩ := rd_cell3 hC2.out hlt (HG2.out k hlt)
      have hlk := HL.out k hlt
      have hlb : decide ((k : Int) < 4) = true := by rw [decide_eq_true_iff]; omega
      have hlz : (0 : Int) ≤ (k : Int) := by omega
      have hl4 : (k : Int) < 4 := by omega
      go_wp2_with fail
      go_quiet (fail)
      go_wp2_with fail
      go_loopw [6] (fun i wr => ∃ m : Nat, m ≤ (L k).length ∧ i = .int .i64 m ∧ ∃ n, wr = w2.drewN n) (fun i _ => (L k).length - (intOf i).toNat)
      case atStart => exact ⟨0, by omega, rfl, _, drewN_add _ _ _⟩
      case round =>
        obtain ⟨m, hm, rfl, n', rfl⟩ := hrel
        by_cases hlm : m < (L k).length
        · obtain ⟨b, o, rfl, _, hcc⟩ := hr.at_ hlm
          obtain ⟨b', o', rfl, _, hcc'⟩ := hr'.at_ hlm
          have hmz : (0 : Int) ≤ (m : Int) := by omega
          have hml : (m : Int) < ((L k).length : Int) := by omega
          go_wp2_with fail
          go_quiet (fail)
          go_wp2_with fail
          go_roundw
          case rel => exact ⟨m + 1, by omega, by go_num, _, rfl⟩
          case measure => simp [intOf]; omega
        · go_wp2_with fail
          go_roundw
          case rel => exact ⟨k + 1, by omega, by go_num, _, rfl⟩
          case measure => simp [intOf]; omega
    · go_wp2_with fail
      go_ret
      exact ⟨rfl, below_drewN hb2 _⟩

/-- few: are lists short? -/
theorem few_ok (f : Nat → Value) (L : Nat → List Int) (w : World) (hf : ∀ j, j < 4 → Rd i64e w (f j) (L j)) (hl : ∀ j, j < 4 → (L j).length ≤ 17592186044416) :
    Calls Try.prog 26 #[.agg (arr4 f)] w fun e w' => e = .returned (.bool (decide ((((L 0).length : Int) + (L 1).length + (L 2).length + (L 3).length) ≤ 100))) ∧ Below w.heap.size w w' := by
  have h0 := hl 0 (by omega)
  have h1 := hl 1 (by omega)
  have h2 := hl 2 (by omega)
  have h3 := hl 3 (by omega)
  have HF := Lib.hid hf
  clear hf hl
  go_enter Try.func26, Try.ntmps26
  go_wp2_with (refine wpList_new rfl (.box 34 (.tmp 0)) rfl w.heap.size rfl 34 (arr4 f) (by kernel_rfl) ?_; intro w1 hs1 hb1 hB1; refine stop_here ?_)
  obtain ⟨A0, c0, hc0, _⟩ := rd_cell3 hB1 (by omega) ((HF.out 0 (by omega)).below hb1)
  obtain ⟨A1, c1, hc1, _⟩ := rd_cell3 hB1 (by omega) ((HF.out 1 (by omega)).below hb1)
  obtain ⟨A2, c2, hc2, _⟩ := rd_cell3 hB1 (by omega) ((HF.out 2 (by omega)).below hb1)
  obtain ⟨A3, c3, hc3, _⟩ := rd_cell3 hB1 (by omega) ((HF.out 3 (by omega)).below hb1)
  clear hB1 hs1
  refine go_on ?_
  go_wp2_with fail
  go_ret
  exact ⟨rfl, hb1⟩

end Go.Proofs.Ytbjchfhglnepiaa
