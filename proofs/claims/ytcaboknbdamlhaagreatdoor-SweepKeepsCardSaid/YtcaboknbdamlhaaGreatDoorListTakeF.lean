/- Take of the program: what it answers lies in blocks of its own. -/
import Derived.Test.YtcaboknbdamlhaaGreatDoorListTake
set_option linter.unusedVariables false
set_option linter.unusedSimpArgs false
namespace Go.Proofs.YtcaboknbdamlhaaGreatDoor
open Go.RowKit
set_option maxHeartbeats 1600000 in
set_option maxRecDepth 100000 in
theorem take_fresh (f : Nat → Value) (L : Nat → List Int) (c : Int) (w : World) (hf : ∀ j, j < 4 → Rd i64e w (f j) (L j)) (hl : ShortL L) :
    Calls Tryz.prog 72 #[.agg (arr4 f), .int .i64 c] w fun e w' => ∃ v, e = .returned (.tuple #[v, .int .i64 (takeL L c).2.1, .int .i64 (takeL L c).2.2]) ∧ RdF w' w.heap.size v (takeL L c).1 ∧ Below w.heap.size w w' := by
  have hb0 := (below_alloc w (.cells (arr4 f) 89)).alloc (by simp) (.cells #[.slice none 0 0, .slice none 0 0, .slice none 0 0, .slice none 0 0] 89)
  have hB0 := Lib.hid ((Blk.new w 89 (arr4 f)).alloc (.cells #[.slice none 0 0, .slice none 0 0, .slice none 0 0, .slice none 0 0] 89))
  have hR0 := Lib.hid (nil4_new w (.cells (arr4 f) 89) 89)
  have HL := Lib.hid hl
  have HS := Lib.hid lists_size
  have h1f := Lib.hid (arr4_one fun j hj => rd_one (hf j hj))
  have HF := Lib.hid hf
  clear hf hl
  go_enter Tryz.func72, Tryz.ntmps72
  go_wp2_with (refine wpList_load_blk rfl 89 (.tmp 2) rfl w.heap.size rfl 89 (arr4 f) hB0.out _ Tryz.underlying89 rfl HS.out ?_)
  refine (own_ok f L _ (fun j hj => (HF.out j hj).below hb0) HL.out).mono ?_
  rintro e w1 ⟨g, rfl, ho, hb1⟩
  have hB1 := Lib.hid (hB0.out.below hb1 hB0.out.lt)
  have hR1 := Lib.hid (hR0.out.below hb1 hR0.out.lt)
  have h1g := Lib.hid (arr4_one fun j hj => rd_one (Rd.of_own (enc := i64e) (xs := L j) (ho.1 j hj)))
  have hb1 := hb0.trans (hb1.mono hb0.size)
  have HO := Lib.hid (show OwnL w1 (w.heap.size + 2) 4 g L by simpa using ho)
  have HA : Hid (Apart g L w.heap.size) := Lib.hid fun j hj => ⟨fun _ e => by have := ((HO.out.1 j hj).lt _ e).1; omega, fun _ e => by have := ((HO.out.1 j hj).lt _ e).1; omega⟩
  have HFr : Hid (∀ j, j < 4 → ∀ b, (g j).ownBlock = some b → w.heap.size ≤ b ∧ b < w1.heap.size) := Lib.hid fun j hj b hb => by have := (HO.out.1 j hj).lt b hb; omega
  clear ho
  go_wp2_with (refine wpList_store_blk rfl 89 (.tmp 2) (.tmp 10) rfl w.heap.size rfl (arr4 g) rfl 89 (arr4 f) hB1.out HS.out rfl h1g.out ?_; intro w2 hB2 hg2 hs2; refine stop_here ?_)
  have hR2 := Lib.hid (hR1.out.grown hg2 (by simp))
  replace HFr : Hid (∀ j, j < 4 → ∀ b, (g j).ownBlock = some b → w.heap.size ≤ b ∧ b < w2.heap.size) := Lib.hid fun j hj b hb => ⟨(HFr.out j hj b hb).1, Nat.lt_of_lt_of_le (HFr.out j hj b hb).2 hg2.size⟩
  have HO2 := Lib.hid (HO.out.grown hg2 (by omega))
  have hb2 := hb1.grown hg2 hb1.size (fun k hk => by cases hk; exact Nat.le_refl _)
  have hB2 := Lib.hid hB2
  have HF2 := Lib.hid (fun j (hj : j < 4) => Rd.of_own (enc := i64e) (xs := L j) (HO2.out.1 j hj))
  clear HO HO2 hR1 hB1 hB0 hR0 hg2 hs2 h1f hb1
  refine go_on ?_
  by_cases hc : c < 0 ∨ 3 < c
  · have hput := Lib.hid (show takeL L c = (L, 0, 2) by unfold takeL; rw [if_pos hc])
    rcases hc with hc | hc
    · have hc1 : ¬ 3 < c := by omega
      go_wp2_with (first
        | (refine wpList_load_blk rfl 89 (.tmp 2) rfl w.heap.size rfl 89 (arr4 g) hB2.out _ Tryz.underlying89 rfl HS.out ?_)
        | (refine wpList_store_blk rfl 89 (.tmp 4) (.tmp 17) rfl (w.heap.size + 1) rfl (arr4 g) rfl 89 nil4 hR2.out HS.out rfl h1g.out ?_; intro w3 hR3 hg3 hs3))
      refine bodyPost_ret (res_cell_tmp2 rfl rfl hR3 Tryz.underlying89 rfl HS.out) rfl ⟨_, by rw [hput.out]; rfl, ?_, hb2.grown hg3 hb2.size (fun k hk => by cases hk; omega)⟩
      rw [hput.out]
      exact ⟨_, rfl, fun j hj => (HF2.out j hj).far hg3 (HA.out j hj).2, fun j hj b hb => ⟨(HFr.out j hj b hb).1, Nat.lt_of_lt_of_le (HFr.out j hj b hb).2 hg3.size⟩⟩
    · have hc0 : ¬ c < 0 := by omega
      go_wp2_with (first
        | (refine wpList_load_blk rfl 89 (.tmp 2) rfl w.heap.size rfl 89 (arr4 g) hB2.out _ Tryz.underlying89 rfl HS.out ?_)
        | (refine wpList_store_blk rfl 89 (.tmp 4) (.tmp 17) rfl (w.heap.size + 1) rfl (arr4 g) rfl 89 nil4 hR2.out HS.out rfl h1g.out ?_; intro w3 hR3 hg3 hs3))
      refine bodyPost_ret (res_cell_tmp2 rfl rfl hR3 Tryz.underlying89 rfl HS.out) rfl ⟨_, by rw [hput.out]; rfl, ?_, hb2.grown hg3 hb2.size (fun k hk => by cases hk; omega)⟩
      rw [hput.out]
      exact ⟨_, rfl, fun j hj => (HF2.out j hj).far hg3 (HA.out j hj).2, fun j hj b hb => ⟨(HFr.out j hj b hb).1, Nat.lt_of_lt_of_le (HFr.out j hj b hb).2 hg3.size⟩⟩
  · obtain ⟨k, rfl⟩ : ∃ k : Nat, c = (k : Int) := ⟨c.toNat, by omega⟩
    have hk : k < 4 := by omega
    have hlk := HL.out k hk
    by_cases he : (L k).length = 0
    · have hput := Lib.hid (show takeL L (k : Int) = (L, 0, 7) by unfold takeL; rw [if_neg hc, Int.toNat_natCast, if_pos he])
      have heb : (((L k).length : Int) == 0) = true := by rw [beq_iff_eq]; omega
      clear hc he
      obtain ⟨A, d, hcell, hr, _⟩ := rd_cell3 hB2.out hk (HF2.out k hk)
      go_wp2_with (first
        | (refine wpList_load_blk rfl 89 (.tmp 2) rfl w.heap.size rfl 89 (arr4 g) hB2.out _ Tryz.underlying89 rfl HS.out ?_)
        | (refine wpList_store_blk rfl 89 (.tmp 4) (.tmp 24) rfl (w.heap.size + 1) rfl (arr4 g) rfl 89 nil4 hR2.out HS.out rfl h1g.out ?_; intro w3 hR3 hg3 hs3))
      refine bodyPost_ret (res_cell_tmp2 rfl rfl hR3 Tryz.underlying89 rfl HS.out) rfl ⟨_, by rw [hput.out]; rfl, ?_, hb2.grown hg3 hb2.size (fun k hk => by cases hk; omega)⟩
      rw [hput.out]
      exact ⟨_, rfl, fun j hj => (HF2.out j hj).far hg3 (HA.out j hj).2, fun j hj b hb => ⟨(HFr.out j hj b hb).1, Nat.lt_of_lt_of_le (HFr.out j hj b hb).2 hg3.size⟩⟩
    · have hput := Lib.hid (show takeL L (k : Int) = (popL L k, lastOf (L k), 0) by unfold takeL; rw [if_neg hc, Int.toNat_natCast, if_neg he])
      have heb : (((L k).length : Int) == 0) = false := by rw [beq_eq_false_iff_ne]; omega
      have hpos : 1 ≤ (L k).length := by omega
      clear hc he
      obtain ⟨A, d, hcell, hr, eg⟩ := rd_cell3 hB2.out hk (HF2.out k hk)
      have hd : (L k).length ≤ d := by obtain ⟨_, _, e, h1, _⟩ := hr; injection e with _ _ e3; omega
      obtain ⟨b, o, rfl, hlt, hlast⟩ := hr.at_ (i := (L k).length - 1) (by omega)
      have hfk := hB2.out.frozen k
      have hap2 := HA.out k hk
      rw [eg] at hap2
      have hap2 := Lib.hid hap2
      have eg := Lib.hid eg
      have hB5 := hB2.out.set_ k (.slice (some ⟨b, o, none⟩) ((L k).length - 1) d)
      rw [arr4_set _ hk] at hB5
      have hB5 := Lib.hid hB5
      have hR5 := Lib.hid (hR2.out.far (p := ⟨w.heap.size, k, none⟩) (by simp) (.slice (some ⟨b, o, none⟩) ((L k).length - 1) d))
      have hone5 : Hid ((arr4 fun j => if j = k then Value.slice (some ⟨b, o, none⟩) ((L k).length - 1) d else g j).all (·.oneCell') = true) := Lib.hid (arr4_one fun j hj => by
        by_cases e : j = k
        · rw [if_pos e]; rfl
        · rw [if_neg e]; exact rd_one (HF2.out j hj))
      have hb5 := hb2.setCell (p := ⟨w.heap.size, k, none⟩) (Nat.le_refl _) (.slice (some ⟨b, o, none⟩) ((L k).length - 1) d)
      have hrd : Hid (∀ j, j < 4 → Rd i64e (w2.setCell ⟨w.heap.size, k, none⟩ (.slice (some ⟨b, o, none⟩) ((L k).length - 1) d)) (if j = k then Value.slice (some ⟨b, o, none⟩) ((L k).length - 1) d else g j) (popL L k j) ∧ (0 < (popL L k j).length → (if j = k then Value.slice (some ⟨b, o, none⟩) ((L k).length - 1) d else g j).ownBlock ≠ some (w.heap.size + 1))) := Lib.hid fun j hj => by
        unfold popL
        by_cases e : j = k
        · subst e
          rw [if_pos rfl, if_pos rfl]
          exact ⟨(hr.take (Nat.sub_le _ _)).far_cell _ (fun _ => hap2.out.1 hpos), fun _ => hap2.out.2 hpos⟩
        · rw [if_neg e, if_neg (by omega)]
          exact ⟨(HF2.out j hj).far_cell _ (HA.out j hj).1, (HA.out j hj).2⟩
      go_wp2_with (first
        | (refine wpList_load_blk rfl 89 (.tmp 2) rfl w.heap.size rfl 89 _ hB5.out _ Tryz.underlying89 rfl HS.out ?_)
        | (refine wpList_store_blk rfl 89 (.tmp 4) (.tmp 40) rfl (w.heap.size + 1) rfl _ rfl 89 nil4 hR5.out HS.out rfl hone5.out ?_; intro w6 hR6 hg6 hs6))
      refine bodyPost_ret (res_cell_tmp2 rfl rfl hR6 Tryz.underlying89 rfl HS.out) rfl ⟨.agg (arr4 fun j => if j = k then Value.slice (some ⟨b, o, none⟩) ((L k).length - 1) d else g j), ?_, ?_, hb5.grown hg6 hb5.size (fun k hk => by cases hk; omega)⟩
      · rw [hput.out]
        show _ = Ending.returned (.tuple #[_, .int .i64 (lastOf (L k)), .int .i64 0])
        unfold lastOf
        have hlt' : (L k).length - 1 < (L k).length := by omega
        simp only [List.getD, List.getElem?_eq_getElem hlt', Option.getD_some]
        rfl
      · rw [hput.out]
        exact ⟨_, rfl, fun j hj => (hrd.out j hj).1.far hg6 (hrd.out j hj).2, fun j hj b' hb' => by
          by_cases e : j = k
          · rw [if_pos e] at hb'
            have h9 := HFr.out k hk b' (by rw [eg.out]; exact hb')
            exact ⟨h9.1, Nat.lt_of_lt_of_le h9.2 (by have := hg6.size; simpa [World.setCell] using this)⟩
          · rw [if_neg e] at hb'
            have h9 := HFr.out j hj b' hb'
            exact ⟨h9.1, Nat.lt_of_lt_of_le h9.2 (by have := hg6.size; simpa [World.setCell] using this)⟩⟩

end Go.Proofs.YtcaboknbdamlhaaGreatDoor
