/- Put of the reference. -/
import Derived.Test.YtcaboknbdamlhaaGreatDoorListTake
import Derived.Test.YtcaboknbdamlhaaGreatDoorListRHas
set_option linter.unusedVariables false
set_option linter.unusedSimpArgs false
namespace Go.Proofs.YtcaboknbdamlhaaGreatDoor
open Go.RowKit

set_option maxHeartbeats 1600000 in
set_option maxRecDepth 100000 in
theorem rput_ok (f : Nat → Value) (L : Nat → List Int) (c p : Int) (w : World) (hf : ∀ j, j < 4 → Rd i64e w (f j) (L j)) (hl : ShortL L) (hp : p ≤ 9223372036854775807) :
    Calls Tryz.prog 95 #[.agg (arr4 f), .int .i64 c, .int .i64 p] w fun e w' => ∃ v, e = .returned (.tuple #[v, .int .i64 (putL L c p).2]) ∧ RdL w' v (putL L c p).1 ∧ Below w.heap.size w w' := by
  have HL := Lib.hid hl
  have HS := Lib.hid rlists_size
  have h1g := Lib.hid (arr4_one fun j hj => rd_one (hf j hj))
  have HF := Lib.hid hf
  have HA := Lib.hid (apart_new hf)
  clear hf hl
  go_enter Tryz.func95, Tryz.ntmps95
  go_wp2_with (first
    | (refine wpList_new rfl (.box 37 (.tmp 0)) rfl w.heap.size rfl 37 (arr4 f) (by kernel_rfl) ?_; intro w1 hs1 hb1 hB1)
    | (refine wpList_new rfl (.alloc 37) rfl (w.heap.size + 1) hs1 37 nil4 (by kernel_rfl) ?_; intro w2 hs2 hb2 hR2; refine stop_here ?_))
  have hB2 := Lib.hid (hB1.below hb2 (by omega))
  have hb2 := hb1.trans (hb2.mono (by omega))
  have hR2 := Lib.hid hR2
  have HF2 := Lib.hid (fun j (hj : j < 4) => (HF.out j hj).below hb2)
  clear hs1 hB1 hb1
  by_cases hbg : beginsAt p c = false
  · have hput := Lib.hid (show putL L c p = (L, 2) by unfold putL; rw [if_pos hbg])
    rcases (show c < 0 ∨ 3 < c ∨ (0 ≤ c ∧ c ≤ 3) from by omega) with hc | hc | hc
    · refine go_on ?_
      go_wp2_with (first
        | (refine wpList_load_blk rfl 37 (.tmp 3) rfl w.heap.size rfl 37 (arr4 f) hB2.out _ Tryz.underlying37 rfl HS.out ?_)
        | (refine wpList_store_blk rfl 37 (.tmp 6) (.tmp 21) rfl (w.heap.size + 1) rfl (arr4 f) rfl 37 nil4 hR2.out HS.out rfl h1g.out ?_; intro w3 hR3 hg3 hs3))
      refine bodyPost_ret (res_cell_tmp rfl rfl hR3 Tryz.underlying37 rfl HS.out) rfl ⟨_, by rw [hput.out]; rfl, ?_, hb2.grown hg3 hb2.size (fun k hk => by cases hk; omega)⟩
      rw [hput.out]
      exact ⟨_, rfl, fun j hj => (HF2.out j hj).far hg3 (HA.out j hj).2⟩
    · have hc0 : ¬ c < 0 := by omega
      refine go_on ?_
      go_wp2_with (first
        | (refine wpList_load_blk rfl 37 (.tmp 3) rfl w.heap.size rfl 37 (arr4 f) hB2.out _ Tryz.underlying37 rfl HS.out ?_)
        | (refine wpList_store_blk rfl 37 (.tmp 6) (.tmp 21) rfl (w.heap.size + 1) rfl (arr4 f) rfl 37 nil4 hR2.out HS.out rfl h1g.out ?_; intro w3 hR3 hg3 hs3))
      refine bodyPost_ret (res_cell_tmp rfl rfl hR3 Tryz.underlying37 rfl HS.out) rfl ⟨_, by rw [hput.out]; rfl, ?_, hb2.grown hg3 hb2.size (fun k hk => by cases hk; omega)⟩
      rw [hput.out]
      exact ⟨_, rfl, fun j hj => (HF2.out j hj).far hg3 (HA.out j hj).2⟩
    · have hc0 : ¬ c < 0 := by omega
      have hc1 : ¬ 3 < c := by omega
      refine go_on ?_
      go_wp2_with (first
        | (go_at_call 109; refine (rbegins_ok _ _ _ hp).mono ?_; rintro e w' ⟨rfl, rfl⟩)
        | (refine wpList_load_blk rfl 37 (.tmp 3) rfl w.heap.size rfl 37 (arr4 f) hB2.out _ Tryz.underlying37 rfl HS.out ?_)
        | (refine wpList_store_blk rfl 37 (.tmp 6) (.tmp 21) rfl (w.heap.size + 1) rfl (arr4 f) rfl 37 nil4 hR2.out HS.out rfl h1g.out ?_; intro w3 hR3 hg3 hs3))
      refine bodyPost_ret (res_cell_tmp rfl rfl hR3 Tryz.underlying37 rfl HS.out) rfl ⟨_, by rw [hput.out]; rfl, ?_, hb2.grown hg3 hb2.size (fun k hk => by cases hk; omega)⟩
      rw [hput.out]
      exact ⟨_, rfl, fun j hj => (HF2.out j hj).far hg3 (HA.out j hj).2⟩
  · have hbg : beginsAt p c = true := by simpa using hbg
    have hcl := begins_class hbg
    have hc0 : ¬ c < 0 := by omega
    have hc1 : ¬ 3 < c := by omega
    refine go_on ?_
    go_wp2_with (first
      | (go_at_call 109; refine (rbegins_ok _ _ _ hp).mono ?_; rintro e w' ⟨rfl, rfl⟩)
      | (refine wpList_load_blk rfl 37 (.tmp 3) rfl w.heap.size rfl 37 (arr4 f) hB2.out _ Tryz.underlying37 rfl HS.out ?_))
    refine (rhas_ok f L p _ HF2.out HL.out).mono ?_
    rintro e w3 ⟨rfl, hb3⟩
    have hB3 := Lib.hid (hB2.out.below hb3 hB2.out.lt)
    have hR3 := Lib.hid (hR2.out.below hb3 hR2.out.lt)
    have HF3 := Lib.hid (fun j (hj : j < 4) => (HF2.out j hj).below hb3)
    have hb3 := hb2.trans (hb3.mono hb2.size)
    clear HF2 hR2 hB2 hb2
    by_cases hh : 0 ≤ hasIn L p
    · have hput := Lib.hid (show putL L c p = (L, 8) by unfold putL; rw [if_neg (by rw [hbg]; simp), if_pos hh])
      go_wp2_with (first
        | (refine wpList_load_blk rfl 37 (.tmp 3) rfl w.heap.size rfl 37 (arr4 f) hB3.out _ Tryz.underlying37 rfl HS.out ?_)
        | (refine wpList_store_blk rfl 37 (.tmp 6) (.tmp 26) rfl (w.heap.size + 1) rfl (arr4 f) rfl 37 nil4 hR3.out HS.out rfl h1g.out ?_; intro w4 hR4 hg4 hs4))
      refine bodyPost_ret (res_cell_tmp rfl rfl hR4 Tryz.underlying37 rfl HS.out) rfl ⟨_, by rw [hput.out]; rfl, ?_, hb3.grown hg4 hb3.size (fun k hk => by cases hk; omega)⟩
      rw [hput.out]
      exact ⟨_, rfl, fun j hj => (HF3.out j hj).far hg4 (HA.out j hj).2⟩
    · have hput := Lib.hid (show putL L c p = (addL L c p, 0) by unfold putL; rw [if_neg (by rw [hbg]; simp), if_neg hh])
      obtain ⟨k, rfl⟩ : ∃ k : Nat, c = (k : Int) := ⟨c.toNat, by omega⟩
      have hk : k < 4 := by omega
      obtain ⟨A, d, hc, hr, eg⟩ := rd_cell3 hB3.out hk (HF3.out k hk)
      have hlk := HL.out k hk
      have hz := hR3.out.lt
      have hz0 : w.heap.size < w3.heap.size := by omega
      have eg := Lib.hid eg
      have hr := Lib.hid hr
      have hown0 := Lib.hid (World.ownsRow_made (e := 3) (size := 1) w3 (base := w3.heap.size) #[] 0 (Nat.le_refl _) (Nat.zero_le _) rfl)
      clear hbg
      go_wp2_with (first
        | (at_builtin; refine wpList_append_all rfl (.tmp 27) (.tmp 30) _ rfl w3.heap.size 3 _ 8 Tryz.underlying36 int_info rfl _ 0 [] rfl hown0.out i64e _ (L k) (fun _ => rfl) rfl (hr.out.below (below_alloc _ _)) (by unfold maxLen; omega) (by omega) (by simp) ?_; intro v4 w4 hown4 hg4 hat4; refine stop_here ?_))
      have hB4 := Lib.hid (hB3.out.below ((below_alloc w3 _).grown hg4 (by simp) (fun k hk => by cases hk; exact Nat.le_refl _)) hB3.out.lt)
      have hR4 := Lib.hid (hR3.out.below ((below_alloc w3 _).grown hg4 (by simp) (fun k hk => by cases hk; exact Nat.le_refl _)) hR3.out.lt)
      have hb34 : Below w3.heap.size w3 w4 := (below_alloc w3 _).grown hg4 (by simp) (fun k hk => by cases hk; exact Nat.le_refl _)
      have HF4 := Lib.hid (fun j (hj : j < 4) => (HF3.out j hj).below hb34)
      have hown4 : w4.ownsRow w3.heap.size 3 1 v4 (L k).length ((L k).map i64e) := by simpa using hown4
      have hz4 := hb34.size
      have hb4 := hb3.trans (hb34.mono hb3.size)
      clear hb34 hg4 hat4 hr HF3 hB3 hR3 hc hb3
      refine go_on ?_
      go_wp2_with (at_builtin; refine wpList_push rfl (.tmp 33) (.tmp 35) _ rfl w3.heap.size 3 _ 8 Tryz.underlying36 int_info rfl _ _ _ rfl hown4 _ rfl rfl (by unfold maxLen; omega) (by omega) (by omega) ?_; intro v5 w5 hown5 hg5 hat5; refine stop_here ?_)
      have hb45 : Below w3.heap.size w4 w5 := (Below.refl _ _).grown hg5 hz4 (fun k hk => (hown4.lt k hk).1)
      have hB5 := hB4.out.below hb45 hz0
      have hR5 := Lib.hid (hR4.out.below hb45 hz)
      have hown5 : w5.ownsRow w3.heap.size 3 1 v5 (L k ++ [p]).length ((L k ++ [p]).map i64e) := by simpa using hown5
      obtain ⟨A', n', d', rfl⟩ := (Rd.of_own hown5).form
      have hc5 := (hB5.cell k).trans (arr4_get f hk)
      rw [eg.out] at hc5
      have hf5 := hB5.frozen k
      have hB6 := hB5.set_ k (.slice A' n' d')
      rw [arr4_set f hk] at hB6
      have hB6 := Lib.hid hB6
      have hR6 := Lib.hid (hR5.out.far (p := ⟨w.heap.size, k, none⟩) (by simp) (.slice A' n' d'))
      have hone6 : Hid ((arr4 fun j => if j = k then Value.slice A' n' d' else f j).all (·.oneCell') = true) := Lib.hid (arr4_one fun j hj => by
        by_cases e : j = k
        · rw [if_pos e]; rfl
        · rw [if_neg e]; exact rd_one (HF4.out j hj))
      have hb5 : Below w.heap.size w w5 := hb4.trans (hb45.mono (by omega))
      have hb6 := hb5.setCell (p := ⟨w.heap.size, k, none⟩) (Nat.le_refl _) (.slice A' n' d')
      have hrd : Hid (∀ j, j < 4 → Rd i64e (w5.setCell ⟨w.heap.size, k, none⟩ (.slice A' n' d')) (if j = k then Value.slice A' n' d' else f j) (addL L k p j) ∧ (0 < (addL L k p j).length → (if j = k then Value.slice A' n' d' else f j).ownBlock ≠ some (w.heap.size + 1))) := Lib.hid fun j hj => by
        unfold addL
        by_cases e : j = k
        · subst e
          rw [if_pos rfl, if_pos rfl]
          exact ⟨Rd.of_own (ownsRow_setCell_below hown5 (by show w.heap.size < w3.heap.size; omega) _), fun _ e => by have := (hown5.lt _ e).1; omega⟩
        · rw [if_neg e, if_neg (by omega)]
          refine ⟨((HF4.out j hj).keep hb45.size fun hp b hb hlt => hb45.block b ?_).far_cell _ (HA.out j hj).1, (HA.out j hj).2⟩
          exact Nat.lt_of_lt_of_le ((HF.out j hj).block hb hp) (by have := hb4.size; omega)
      clear hown5 hown4 hB5 hg5 hat5 hB4 hR4 hR5 HF4 hb4 hb5 hb45
      refine go_on ?_
      go_wp2_with (first
        | (refine wpList_load_blk rfl 37 (.tmp 3) rfl w.heap.size rfl 37 _ hB6.out _ Tryz.underlying37 rfl HS.out ?_)
        | (refine wpList_store_blk rfl 37 (.tmp 6) (.tmp 38) rfl (w.heap.size + 1) rfl _ rfl 37 nil4 hR6.out HS.out rfl hone6.out ?_; intro w7 hR7 hg7 hs7))
      refine bodyPost_ret (res_cell_tmp rfl rfl hR7 Tryz.underlying37 rfl HS.out) rfl ⟨.agg (arr4 fun j => if j = k then Value.slice A' n' d' else f j), by rw [hput.out]; rfl, ?_, hb6.grown hg7 hb6.size (fun k hk => by cases hk; omega)⟩
      rw [hput.out]
      exact ⟨_, rfl, fun j hj => (hrd.out j hj).1.far hg7 (hrd.out j hj).2⟩

end Go.Proofs.YtcaboknbdamlhaaGreatDoor
