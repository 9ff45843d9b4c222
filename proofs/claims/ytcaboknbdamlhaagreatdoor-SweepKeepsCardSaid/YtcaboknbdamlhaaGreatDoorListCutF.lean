/- Cut of the program: what it answers lies in blocks of its own. -/
import Derived.Test.YtcaboknbdamlhaaGreatDoorListCut
set_option linter.unusedVariables false
set_option linter.unusedSimpArgs false
namespace Go.Proofs.YtcaboknbdamlhaaGreatDoor
open Go.RowKit
set_option maxHeartbeats 1600000 in
set_option maxRecDepth 100000 in
theorem cut_fresh (f : Nat → Value) (L : Nat → List Int) (s : Int) (w : World) (hf : ∀ j, j < 4 → Rd i64e w (f j) (L j)) (hl : ShortL L) (hbd : BdL L) :
    Calls Tryz.prog 107 #[.agg (arr4 f), .int .i64 s] w fun e w' => ∃ v, e = .returned (.tuple #[v, .int .i64 (goneTo L s 4)]) ∧ RdF w' w.heap.size v (cutL L s) ∧ Below w.heap.size w w' := by
  have HL := Lib.hid hl
  have HBd := Lib.hid hbd
  have HS := Lib.hid lists_size
  have HF := Lib.hid hf
  clear hf hl hbd
  go_enter Tryz.func107, Tryz.ntmps107
  go_wp2_with (first
    | (refine wpList_new rfl (.box 89 (.tmp 0)) rfl w.heap.size rfl 89 (arr4 f) (by kernel_rfl) ?_; intro w1 hs1 hb1 hB1)
    | (refine wpList_new rfl (.box 3 (.tmp 1)) rfl (w.heap.size + 1) hs1 3 #[.int .i64 s] (by kernel_rfl) ?_; intro w2 hs2 hb2 hC2)
    | (refine wpList_new rfl (.alloc 89) rfl (w.heap.size + 1 + 1) hs2 89 nil4 (by kernel_rfl) ?_; intro w3 hs3 hb3 hR3; refine stop_here ?_))
  have hB3 := Lib.hid ((hB1.below hb2 (by omega)).below hb3 (by omega))
  have hC3 := Lib.hid (hC2.below hb3 (by omega))
  have hb3 := (hb1.trans (hb2.mono (by omega))).trans (hb3.mono (by omega))
  have hR3 := Lib.hid hR3
  have HF3 := Lib.hid (fun j (hj : j < 4) => (HF.out j hj).below hb3)
  clear hs1 hB1 hb1 hs2 hb2 hC2
  refine go_on ?_
  go_wp2_with (refine wpList_load_blk rfl 89 (.tmp 2) rfl w.heap.size rfl 89 (arr4 f) hB3.out _ Tryz.underlying89 rfl HS.out ?_)
  refine (own_ok f L _ HF3.out HL.out).mono ?_
  rintro e w4 ⟨g0, rfl, ho, hb4⟩
  have hB4 := Lib.hid (hB3.out.below hb4 hB3.out.lt)
  have hC4 := Lib.hid (hC3.out.below hb4 hC3.out.lt)
  have hR4 := Lib.hid (hR3.out.below hb4 hR3.out.lt)
  have h1g := Lib.hid (arr4_one fun j hj => rd_one (Rd.of_own (enc := i64e) (xs := L j) (ho.1 j hj)))
  have hb4 := hb3.trans (hb4.mono hb3.size)
  rw [hs3] at ho
  have HO4 := Lib.hid ho
  clear ho hB3 hC3 hR3 hb3 hs3
  go_wp2_with (refine wpList_store_blk rfl 89 (.tmp 2) (.tmp 10) rfl w.heap.size rfl (arr4 g0) rfl 89 (arr4 f) hB4.out HS.out rfl h1g.out ?_; intro w5 hB5 hg5 hs5; refine stop_here ?_)
  have hB5 := Lib.hid hB5
  have hC5 := Lib.hid (hC4.out.grown hg5 (by simp))
  have hR5 := Lib.hid (hR4.out.grown hg5 (by simp; omega))
  have HO5 := Lib.hid (HO4.out.grown hg5 (by omega))
  have hb5 := hb4.grown hg5 hb4.size (fun k hk => by cases hk; exact Nat.le_refl _)
  clear HO4 hR4 hC4 hB4 hb4 hg5 hs5
  refine go_on ?_
  go_wp2_with fail
  go_loopw [6, 11] (fun n c wr => ∃ k : Nat, k ≤ 4 ∧ c = .int .i64 k ∧ n = .int .i64 (goneTo L s k) ∧ ∃ g : Nat → Value, Hid (Blk wr w.heap.size 89 (arr4 g)) ∧ Hid (Blk wr (w.heap.size + 1) 3 #[.int .i64 s]) ∧ Hid (Blk wr (w.heap.size + 1 + 1) 89 nil4) ∧
      Hid (OwnL wr (w.heap.size + 1 + 1 + 1) 4 g (fun j => if j < k then keepS s (L j) else L j)) ∧ Below w.heap.size w wr)
    (fun _ c _ => 4 - (intOf c).toNat)
  case atStart => exact ⟨0, by omega, rfl, rfl, g0, hB5, hC5, hR5, HO5, hb5⟩
  case round =>
    obtain ⟨k, hk, rfl, rfl, g, hB, hC, hR, hO, hb⟩ := hrel
    have hgt := goneTo_bd L s HL.out k hk
    by_cases hlt : k < 4
    · have hown := hO.out.1 k hlt
      simp only [Nat.lt_irrefl, if_false] at hown
      obtain ⟨A, c, hcell, hr, eg⟩ := rd_cell3 hB.out hlt (Rd.of_own hown)
      have eg := Lib.hid eg
      have hlk := HL.out k hlt
      have hown := Lib.hid hown
      have hBo : ∀ {b}, (g k).ownBlock = some b → w.heap.size + 1 + 1 < b := fun {b} h => by have := (hown.out.lt b h).1; omega
      clear hr
      have hgb := gone_bd s (L k)
      have hkg := keep_gone s (L k)
      go_wp2_with fail
      rw [← eg.out]
      refine (cut1_delete (w.heap.size + 1) _ (g k) (L k) s wr hown.out hlk (HBd.out k hlt) (hC.out.cell 0) (fun e => by have := hBo e; omega)).mono ?_
      rintro e w6 ⟨v6, rfl, hown6, hg6, hob6⟩
      have hO6 := hO.out.put (L' := fun j => if j < k + 1 then keepS s (L j) else L j) hlt hg6 (by simp only [Nat.lt_succ_self, if_true]; exact hown6) hob6 (fun j hj hne => by by_cases h : j < k <;> simp [h] <;> omega)
      obtain ⟨A6, c6, rfl, _⟩ := (Rd.of_own (enc := i64e) (xs := keepS s (L k)) hown6).len
      have hB6 := hB.out.grown hg6 (fun e => by have := hBo e.symm; omega)
      have hC6 := hC.out.grown hg6 (fun e => by have := hBo e.symm; omega)
      have hR6 := hR.out.grown hg6 (fun e => by have := hBo e.symm; omega)
      have hb6 := hb.grown hg6 hb.size (fun b hb => by have := hBo hb; omega)
      have hc6 := (hB6.cell k).trans (arr4_get g hlt)
      rw [eg.out] at hc6
      have hf6 := hB6.frozen k
      have hB7 := hB6.set_ k (.slice A6 (keepS s (L k)).length c6)
      rw [arr4_set g hlt] at hB7
      have hc7 : (w6.setCell ⟨w.heap.size, k, none⟩ (.slice A6 (keepS s (L k)).length c6)).cell? ⟨w.heap.size, k, none⟩ = some (.slice A6 (keepS s (L k)).length c6) := (hB7.cell k).trans ((arr4_get _ hlt).trans (by rw [if_pos rfl]))
      have hB7 := Lib.hid hB7
      have hC7 := Lib.hid (hC6.far (p := ⟨w.heap.size, k, none⟩) (by simp) (.slice A6 (keepS s (L k)).length c6))
      have hR7 := Lib.hid (hR6.far (p := ⟨w.heap.size, k, none⟩) (by simp; omega) (.slice A6 (keepS s (L k)).length c6))
      have hO7 := Lib.hid (hO6.set_below (p := ⟨w.heap.size, k, none⟩) (by simp; omega) (.slice A6 (keepS s (L k)).length c6))
      have hb7 := hb6.setCell (p := ⟨w.heap.size, k, none⟩) (Nat.le_refl _) (.slice A6 (keepS s (L k)).length c6)
      have hgt' : Hid (goneTo L s k + (((L k).length : Int) - (keepS s (L k)).length) = goneTo L s (k + 1)) := Lib.hid (by rw [goneTo]; omega)
      have hkl := keep_le s (L k)
      clear hO6 hB6 hC6 hR6 hown6 hown hO hB hC hR eg hcell hg6 hob6 hkg
      go_wp2_with fail
      go_roundw
      case rel => exact ⟨k + 1, by omega, by go_num, by rw [← hgt'.out], _, hB7, hC7, hR7, hO7, hb7⟩
      case measure => simp [intOf]; omega
    · obtain rfl : k = 4 := by omega
      have hone4 := Lib.hid (arr4_one fun j hj => rd_one (Rd.of_own (enc := i64e) (hO.out.1 j hj)))
      go_wp2_with (first
        | (refine wpList_load_blk rfl 89 (.tmp 2) rfl w.heap.size rfl 89 _ hB.out _ Tryz.underlying89 rfl HS.out ?_)
        | (refine wpList_store_blk rfl 89 (.tmp 4) (.tmp 34) rfl (w.heap.size + 1 + 1) rfl _ rfl 89 nil4 hR.out HS.out rfl hone4.out ?_; intro w8 hR8 hg8 hs8))
      refine bodyPost_ret (res_cell_tmp rfl rfl hR8 Tryz.underlying89 rfl HS.out) rfl ⟨.agg (arr4 g), rfl, ⟨_, rfl, fun j hj => ?_, fun j hj b hb => by have := (hO.out.1 j hj).lt b hb; exact ⟨by omega, Nat.lt_of_lt_of_le this.2 hg8.size⟩⟩, hb.grown hg8 hb.size (fun k hk => by cases hk; omega)⟩
      have := Rd.of_own (enc := i64e) ((hO.out.grown hg8 (by omega)).1 j hj)
      simp only [if_pos hj] at this
      exact this

end Go.Proofs.YtcaboknbdamlhaaGreatDoor
