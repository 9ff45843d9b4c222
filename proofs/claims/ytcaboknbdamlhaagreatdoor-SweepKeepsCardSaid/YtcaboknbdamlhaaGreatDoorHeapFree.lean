/- The walk of Free. -/
import Derived.Test.YtcaboknbdamlhaaGreatDoorHeapAllocArg
import Derived.Test.YtcaboknbdamlhaaGreatDoorHeapAll
set_option linter.unusedVariables false
set_option linter.unusedSimpArgs false
namespace Go.Proofs.YtcaboknbdamlhaaGreatDoor
open Go.RowKit Go.Shelf
theorem bdL_put {L : Nat → List Int} {c p : Int} (h : BdL L) (hp : p ≤ 9223372036854775807) : BdL (putL L c p).1 := fun j hj x hx => by
  unfold putL addL at hx
  split at hx
  · exact h j hj x hx
  · split at hx
    · exact h j hj x hx
    · simp only at hx
      split at hx
      · rcases List.mem_append.1 hx with hx | hx
        · exact h j hj x hx
        · rw [List.mem_singleton.1 hx]; exact hp
      · exact h j hj x hx
/-- Behind a Free of k, with the set ys, and next the first number of ys from its span on. -/
def mFree (M : HM) (k : Nat) (junk : Int) (ys : List Int) (r : Int) : HM :=
  if r < 0 ∨ spanOf r ≠ spanOf k then { M with words := fillW M.words k junk (blockLen M k), zs := ys, free := cutL (putL M.free (M.cls.getD (spanOf k).toNat 0) k).1 (spanOf k), cls := M.cls.set (spanOf k).toNat (-1) }
  else { M with words := fillW M.words k junk (blockLen M k), zs := ys, free := (putL M.free (M.cls.getD (spanOf k).toNat 0) k).1 }
set_option maxRecDepth 100000 in
set_option maxHeartbeats 4000000 in
theorem free_some (h : Nat) (M : HM) (F : Nat → Prop) (p junk : Int) (w : World) (H : HAt w h M F) (hok : MOk M) (hlf : LenF M.free 1000000) (hT : TabW w) (k : Nat) (hp : p = (k : Int)) (h0 : mThere M p 0 = 0) (hTF : ¬ F 0) (hbd : BdL M.free) (hx : -9223372036854775808 ≤ junk ∧ junk ≤ 9223372036854775807) (hk16 : k ≤ 5000) :
    Calls Tryz.prog 81 #[.pointer (some ⟨h, 0, none⟩), .int .i64 p, .int .i64 junk] w fun e w' => e = .returned (.int .i64 0) ∧
      ∃ ys r F', PutB M.zs k false ys ∧ IsNext (bitAt ys) (8 * spanOf k + 1) r ∧ HAt w' h (mFree M k junk ys r) F' ∧ Step F w w' F' := by
  have HTh := there_ok h M F p 0 w H hok (by omega) (by omega)
  rw [h0] at HTh
  replace HTh := Lib.hid HTh
  obtain ⟨k', g, e1, e2, hb, hg, hk1, hlt, hg6⟩ := there_in hok h0
  obtain rfl : k' = k := by omega
  obtain ⟨o1, o2, o3, o4, _⟩ := hok k' hb
  obtain ⟨s1, s2, s3⟩ := shape_le _ o2 o3
  subst hp
  obtain ⟨bw, bc, bs, cc, f, vu, H⟩ := H
  have hn2 := H.n2
  obtain ⟨s, hs⟩ : ∃ s : Nat, spanOf (k' : Int) = (s : Int) := ⟨(k' - 1) / 8, by have := (span_bd (k' : Int)).2.2 (by omega); omega⟩
  have hs8 : (s : Int) = ((k' : Int) - 1) / 8 := by rw [← hs]; exact (span_bd (k' : Int)).2.2 (by omega)
  have hsn : s < M.n := by omega
  have hB := fun (wx : World) (bb : Below w.heap.size w wx) => block_ok h M F bw bc bs cc f vu wx (H.below bb) k' o2 o3 (by unfold blockLen; omega)
  have hbl : blockLen M k' ≤ 8 ∧ k' + blockLen M k' ≤ 8 * M.n + 1 := by unfold blockLen; omega
  obtain ⟨N, hN⟩ : ∃ N, N = blockLen M k' := ⟨_, rfl⟩
  rw [← hN] at hB hbl
  have HI := Lib.hid (fun wx => show Calls Tryz.prog 106 #[.int .i64 (k' : Int)] wx fun e w' => e = .returned (.int .i64 (s : Int)) ∧ wx = w' by rw [← hs]; exact in_ok _ wx (by omega))
  replace H := Lib.hid H
  replace hB := Lib.hid hB
  replace hN := Lib.hid hN
  replace hx := Lib.hid hx
  replace hlf := Lib.hid hlf
  replace hs := Lib.hid hs
  replace hs8 := Lib.hid hs8
  replace hT := Lib.hid hT
  replace hTF := Lib.hid hTF
  replace hbd := Lib.hid hbd
  clear h0 hok hb hg hg6 e1 e2 o1 o2 o3 o4 s1 s2 s3 hlt
  go_enter Tryz.func81, Tryz.ntmps81
  go_wp2_with (go_at_call 50; refine HTh.out.mono ?_; rintro e w1 ⟨rfl, hb1⟩; refine stop_here ?_)
  have hB1 := hB.out w1 hb1
  refine go_on ?_
  go_wp2_with fail
  refine hB1.mono ?_
  rintro e w6' ⟨rfl, nq, rfl⟩
  have H2 := Lib.hid (H.out.below (hb1.trans (below_drewN (Below.refl _ _) nq)))
  have hb2 := Lib.hid (hb1.trans (below_drewN (Below.refl _ w1) nq))
  generalize w1.drewN nq = w2 at H2 hb2 ⊢
  clear hB hB1 hb1 HTh
  go_wp2_with fail
  refine (fill_ok h M F bw bc bs cc f vu w2 H2.out k' N (8 * M.n + 1 - k') junk hx.out hbl.2 (by omega)).mono ?_
  rintro e w3 ⟨rfl, H3, S3, hz3⟩
  have S3 := (Step.of_below (F := F) hb2.out).trans S3
  have hul := H3.ulen
  have c6 := H3.cells.2.2.1
  replace H3 := Lib.hid H3
  replace S3 := Lib.hid S3
  clear H2 hz3
  go_wp2_with (go_at_call 106; refine (HI.out _).mono ?_; rintro e w' ⟨rfl, rfl⟩)
  -- BEHIND THE SET'S PUT
  refine (bput_ok vu M.zs (k' : Int) false w3 H3.out.ur (by show M.zs.length ≤ _; have : M.zs.length ≤ 1024 := hul; omega) H3.out.u64 (by omega) (by omega)).mono ?_
  rintro e w4 ⟨v', ys, rfl, hr4, hp4, hf4, hb4⟩
  obtain ⟨H5, S5⟩ := H3.out.reuse hb4 hr4 hp4 hf4
  obtain ⟨A6, d6, rfl, -⟩ := hr4.len
  have hB4 : Blk w4 h 94 (hcells bw bc bs (8 * M.n + 1) M.n cc f vu) := (hb4.block h (H3.out.lt h H3.out.inF.1)).trans H3.out.self
  have c6 := hB4.cell 6
  have z6 := hB4.frozen 6
  rw [show (hcells bw bc bs (8 * M.n + 1) M.n cc f vu)[6]? = some vu from rfl] at c6
  have S5 := S3.out.trans S5
  clear hB4 S3 H3 hr4 hf4 hul
  replace hp4 := Lib.hid hp4
  replace H5 := Lib.hid H5
  replace S5 := Lib.hid S5
  replace hb4 := Lib.hid hb4
  go_wp2_with fail
  generalize w4.setCell ⟨h, 6, none⟩ (.slice A6 ys.length d6) = w5 at H5 S5 ⊢
  clear c6 z6 hb4
  obtain ⟨cl, hcl⟩ : ∃ cl, cl = M.cls.getD s 0 := ⟨_, rfl⟩
  have c1 := H5.out.cells.2.1
  have cs := H5.out.ccell (i := s) hsn
  rw [show ({ M with words := fillW M.words k' junk N, zs := ys } : HM).cls.getD s 0 = cl from hcl.symm] at cs
  have hr : w5.rangeAt h 2 [f 0, f 1, f 2, f 3] := World.rangeAt_of_block H5.out.self 2 4
  replace hcl := Lib.hid hcl
  have q0 : (0 : Int) ≤ (s : Int) := by omega
  have q1 : (s : Int) < (M.n : Int) := by omega
  have hS0 : (fun X : World => X.cell? ⟨h, 1, none⟩ = some (.slice (some ⟨bc, 0, none⟩) M.n cc) ∧ X.cell? ⟨bc, s, none⟩ = some (.int .i64 cl) ∧ X.rangeAt h 2 [f 0, f 1, f 2, f 3]) w5.drew := ⟨c1, cs, hr⟩
  clear c1 cs
  refine wp_T (by kernel_rfl) 19 (fun X : World => X.cell? ⟨h, 1, none⟩ = some (.slice (some ⟨bc, 0, none⟩) M.n cc) ∧ X.cell? ⟨bc, s, none⟩ = some (.int .i64 cl) ∧ X.rangeAt h 2 [f 0, f 1, f 2, f 3]) ?_
  refine wpAnyT_takeW (i := 0) (v := (.pointer (some ⟨h, 0, none⟩))) rfl (by kernel_rfl) (fun _ _ _ hp => hp) (Or.inl ⟨by rfl, fun X _ => by go_simp⟩) hS0 ?_
  simp only [Act.put, List.setIfInBounds_toArray, List.set_cons_zero, List.set_cons_succ]
  refine wpAnyT_takeW (i := 1) (v := (.pointer (some ⟨h, 0, none⟩))) rfl (by kernel_rfl) (fun _ _ _ hp => hp) (Or.inl ⟨by rfl, fun X _ => by go_simp⟩) hS0 ?_
  simp only [Act.put, List.setIfInBounds_toArray, List.set_cons_zero, List.set_cons_succ]
  refine wpAnyT_takeW (i := 2) (v := (.pointer (some ⟨h, 0, none⟩))) rfl (by kernel_rfl) (fun _ _ _ hp => hp) (Or.inl ⟨by rfl, fun X _ => by go_simp⟩) hS0 ?_
  simp only [Act.put, List.setIfInBounds_toArray, List.set_cons_zero, List.set_cons_succ]
  refine wpAnyT_takeW (i := 3) (v := (.pointer (some ⟨h, 2, none⟩))) rfl (by kernel_rfl) (fun _ _ _ hp => hp) (Or.inl ⟨by rfl, fun X _ => by go_simp⟩) hS0 ?_
  simp only [Act.put, List.setIfInBounds_toArray, List.set_cons_zero, List.set_cons_succ]
  refine wpAnyT_take (i := 4) (v := (.agg (arr4 f))) rfl (by kernel_rfl) (fun _ _ _ hp => hp) (yieldsIf_load_mid (by rfl) _ _ rfl h 2 rfl [f 0, f 1, f 2, f 3] _ (fun X hX => hX.2.2) lists_row rfl lists_size) hS0 ?_
  simp only [Act.put, List.setIfInBounds_toArray, List.set_cons_zero, List.set_cons_succ]
  refine wpAnyT_takeW (i := 5) (v := (.pointer (some ⟨h, 0, none⟩))) rfl (by kernel_rfl) (fun _ _ _ hp => hp) (Or.inl ⟨by rfl, fun X _ => by go_simp⟩) hS0 ?_
  simp only [Act.put, List.setIfInBounds_toArray, List.set_cons_zero, List.set_cons_succ]
  refine wpAnyT_takeW (i := 6) (v := (.pointer (some ⟨h, 0, none⟩))) rfl (by kernel_rfl) (fun _ _ _ hp => hp) (Or.inl ⟨by rfl, fun X _ => by go_simp⟩) hS0 ?_
  simp only [Act.put, List.setIfInBounds_toArray, List.set_cons_zero, List.set_cons_succ]
  refine wpAnyT_takeW (i := 7) (v := (.pointer (some ⟨h, 1, none⟩))) rfl (by kernel_rfl) (fun _ _ _ hp => hp) (Or.inl ⟨by rfl, fun X _ => by go_simp⟩) hS0 ?_
  simp only [Act.put, List.setIfInBounds_toArray, List.set_cons_zero, List.set_cons_succ]
  refine wpAnyT_take (i := 8) (v := (.slice (some ⟨bc, 0, none⟩) M.n cc)) rfl (by kernel_rfl) (fun _ _ _ hp => hp) (Or.inl ⟨by rfl, fun X hX => by obtain ⟨y2, y3, y4⟩ := hX; go_simp⟩) hS0 ?_
  simp only [Act.put, List.setIfInBounds_toArray, List.set_cons_zero, List.set_cons_succ]
  refine wpAnyT_takeW (i := 9) (v := (.int .i64 (s : Int))) rfl (by kernel_rfl) (fun _ _ _ hp => hp) (Or.inl ⟨by rfl, fun X _ => by go_simp⟩) hS0 ?_
  simp only [Act.put, List.setIfInBounds_toArray, List.set_cons_zero, List.set_cons_succ]
  refine wpAnyT_takeW (i := 10) (v := (.pointer (some ⟨bc, s, none⟩))) rfl (by kernel_rfl) (fun _ _ _ hp => hp) (Or.inl ⟨by rfl, fun X _ => by go_simp⟩) hS0 ?_
  simp only [Act.put, List.setIfInBounds_toArray, List.set_cons_zero, List.set_cons_succ]
  refine wpAnyT_take (i := 11) (v := (.int .i64 cl)) rfl (by kernel_rfl) (fun _ _ _ hp => hp) (Or.inl ⟨by rfl, fun X hX => by obtain ⟨y2, y3, y4⟩ := hX; go_simp⟩) hS0 ?_
  simp only [Act.put, List.setIfInBounds_toArray, List.set_cons_zero, List.set_cons_succ]
  refine wpAnyT_takeW (i := 12) (v := (.int .i64 (k' : Int))) rfl (by kernel_rfl) (fun _ _ _ hp => hp) (Or.inl ⟨by rfl, fun X _ => by go_simp⟩) hS0 ?_
  simp only [Act.put, List.setIfInBounds_toArray, List.set_cons_zero, List.set_cons_succ]
  refine wpAnyT_one (i := 13) rfl (by kernel_rfl) (by rfl) ?_
  intro K1 hK1
  go_simp
  refine (put_fresh f _ cl (k' : Int) w5.drew (fun j hj => (H5.out.fr j hj : Rd i64e w5.drew _ _)) (fun j hj => Nat.le_trans (hlf.out j hj) (by omega)) (by omega)).mono ?_
  rintro e w6 ⟨v, rfl, ⟨f4, rfl, hrf, hfb⟩, hb6⟩
  dsimp only
  have hB6 : Blk w6 h 94 (hcells bw bc bs (8 * M.n + 1) M.n cc f (.slice A6 ys.length d6)) := (hb6.block h (H5.out.lt h H5.out.inF.1)).trans H5.out.self
  have hS6 : (fun X : World => X.cell? ⟨h, 1, none⟩ = some (.slice (some ⟨bc, 0, none⟩) M.n cc) ∧ X.cell? ⟨bc, s, none⟩ = some (.int .i64 cl) ∧ X.rangeAt h 2 [f 0, f 1, f 2, f 3]) w6 := ⟨hB6.cell 1, (hb6.cell (p := ⟨bc, s, none⟩) (show bc < w5.drew.heap.size from H5.out.lt bc H5.out.inF.2.2.1)).trans hS0.2.1, fun j v hv => (hb6.cell (p := ⟨h, 2 + j, none⟩) (show h < w5.drew.heap.size from H5.out.lt h H5.out.inF.1)).trans (hr j v hv)⟩
  refine hK1.out _ _ (fun _ => hS6) ?_
  (try simp only [Act.put, List.setIfInBounds_toArray, List.set_cons_zero, List.set_cons_succ])
  refine wpAnyT_takeW (i := 14) (v := (.tuple #[.agg (arr4 f4), .int .i64 (putL M.free cl (k' : Int)).2])) rfl (by kernel_rfl) (fun _ _ _ hp => hp) (Or.inl ⟨by rfl, fun X _ => by go_simp⟩) hS6 ?_
  simp only [Act.put, List.setIfInBounds_toArray, List.set_cons_zero, List.set_cons_succ]
  refine wpAnyT_takeW (i := 15) (v := (.agg (arr4 f4))) rfl (by kernel_rfl) (fun _ _ _ hp => hp) (Or.inl ⟨by rfl, fun X _ => by go_simp⟩) hS6 ?_
  simp only [Act.put, List.setIfInBounds_toArray, List.set_cons_zero, List.set_cons_succ]
  refine wpAnyT_takeW (i := 16) (v := (.int .i64 (putL M.free cl (k' : Int)).2)) rfl (by kernel_rfl) (fun _ _ _ hp => hp) (Or.inl ⟨by rfl, fun X _ => by go_simp⟩) hS6 ?_
  simp only [Act.put, List.setIfInBounds_toArray, List.set_cons_zero, List.set_cons_succ]
  refine wpAnyT_takeW (i := 17) (v := (.pointer (some ⟨h, 0, none⟩))) rfl (by kernel_rfl) (fun _ _ _ hp => hp) (Or.inl ⟨by rfl, fun X _ => by go_simp⟩) hS6 ?_
  simp only [Act.put, List.setIfInBounds_toArray, List.set_cons_zero, List.set_cons_succ]
  refine wpAnyT_takeW (i := 18) (v := (.pointer (some ⟨h, 2, none⟩))) rfl (by kernel_rfl) (fun _ _ _ hp => hp) (Or.inl ⟨by rfl, fun X _ => by go_simp⟩) hS6 ?_
  simp only [Act.put, List.setIfInBounds_toArray, List.set_cons_zero, List.set_cons_succ]
  clear hK1 K1
  refine wpAnyT_one (i := 19) rfl (by kernel_rfl) (by rfl) ?_
  intro K1 hK1
  refine wp_store_mid _ _ _ rfl h 2 (arr4 f4) rfl rfl ?_ lists_size (arr4_one fun j hj => rd_one (hrf j hj)) ?_
  · exact fun j hj => by
      have hj4 : j < 4 := hj
      rw [hB6.cell (2 + j), hB6.frozen (2 + j)]
      rcases (show j = 0 ∨ j = 1 ∨ j = 2 ∨ j = 3 from by omega) with rfl | rfl | rfl | rfl <;> exact ⟨rfl, rfl⟩
  refine hK1.out _ _ (fun hh => absurd rfl hh) ?_
  refine wpAnyT_done (by kernel_rfl) ?_ _
  (try simp only [Act.put, List.setIfInBounds_toArray, List.set_cons_zero, List.set_cons_succ])
  have HB : Below w5.heap.size w5 w6 := ⟨hb6.os, hb6.tape, hb6.output, hb6.size, hb6.block⟩
  obtain ⟨H7, S7⟩ := H5.out.refree HB hrf hfb
  have S7 := S5.out.trans S7
  replace H7 := Lib.hid H7
  replace S7 := Lib.hid S7
  clear hK1 K1 HB hb6 hB6 hS6 hS0 hr hrf hfb S5 H5
  generalize w6.setCells h 2 (arr4 f4).toList = w7 at H7 S7 ⊢
  have c6 := H7.out.cells.2.2.1
  go_wp2_with fail
  have hT7 : TabW w7 := hT.out.of_block (S7.out.frame.block _ hT.out.lt hTF.out)
  have hul7 : ys.length ≤ 1024 := H7.out.ulen
  refine (next_ok _ ys (8 * (s : Int) + 1) w7 H7.out.ur (by omega) H7.out.u64 (by omega) (by omega) hT7).mono ?_
  rintro e w' ⟨r, rfl, hn, rfl⟩
  have hrb : r ≤ 70000 := by
    rcases hn with ⟨rfl, _⟩ | ⟨k2, rfl, _, h2, _⟩
    · omega
    · have := bitAt_lt h2; omega
  have HQ := Lib.hid (fun wx => show Calls Tryz.prog 106 #[.int .i64 r] wx fun e w' => e = .returned (.int .i64 (spanOf r)) ∧ wx = w' from in_ok r wx (by omega))
  replace hn := Lib.hid hn
  clear c6 hT7 hul7 hrb
  obtain ⟨q, hq⟩ : ∃ q, q = spanOf r := ⟨_, rfl⟩
  rw [← hq] at HQ
  replace hq := Lib.hid hq
  by_cases hr0 : r < 0
  · have hout : r < 0 ∨ spanOf r ≠ (s : Int) := .inl hr0
    replace hout := hout
    have hmf : mFree M k' junk ys r = { M with words := fillW M.words k' junk N, zs := ys, free := cutL (putL M.free cl k').1 s, cls := M.cls.set s (-1) } := by
      unfold mFree
      rw [hs.out, if_pos hout, Int.toNat_natCast, ← hN.out, ← hcl.out]
    have hr7 : Hid (w7.rangeAt h 2 [f4 0, f4 1, f4 2, f4 3]) := Lib.hid (World.rangeAt_of_block H7.out.self 2 4)
    have HCt := Lib.hid (cut_fresh f4 (putL M.free cl k').1 (s : Int) w7 (fun j hj => H7.out.fr j hj) (fun j hj => Nat.le_trans (lenF_put hlf.out cl k' j hj) (by omega)) (bdL_put hbd.out (by omega)))
    replace hmf := Lib.hid hmf
    go_wp2_with (first
      | (go_at_call 106; refine (HQ.out _).mono ?_; rintro e w' ⟨rfl, rfl⟩)
      | (refine wpList_load_mid rfl 89 (.tmp 71) rfl h 2 rfl [f4 0, f4 1, f4 2, f4 3] _ hr7.out lists_row rfl lists_size ?_)
      | (go_at_call 107; refine HCt.out.mono ?_; rintro e w8 ⟨v8, rfl, ⟨f8, rfl, hrf8, hfb8⟩, hb8⟩; refine stop_here ?_))
    obtain ⟨H9, S9⟩ := H7.out.refree hb8 hrf8 hfb8
    have hth : Hid (w8.there h 2 (arr4 f8).size) := Lib.hid fun j hj => by
      have hB8 : Blk w8 h 94 (hcells bw bc bs (8 * M.n + 1) M.n cc f4 (.slice A6 ys.length d6)) := (hb8.block h (H7.out.lt h H7.out.inF.1)).trans H7.out.self
      have hj4 : j < 4 := hj
      rw [hB8.cell (2 + j), hB8.frozen (2 + j)]
      rcases (show j = 0 ∨ j = 1 ∨ j = 2 ∨ j = 3 from by omega) with rfl | rfl | rfl | rfl <;> exact ⟨rfl, rfl⟩
    have hone := Lib.hid (arr4_one fun j hj => rd_one (hrf8 j hj))
    have S9 := Lib.hid (S7.out.trans S9)
    replace H9 := Lib.hid H9
    clear hrf8 hfb8 hb8 hr7 HCt S7 H7
    refine go_on ?_
    go_wp2_with (refine wpList_store_mid rfl 89 (.tmp 78) (.tmp 75) rfl h 2 (arr4 f8) rfl rfl hth.out lists_size hone.out ?_; refine stop_here ?_)
    generalize w8.setCells h 2 (arr4 f8).toList = w9 at H9 S9 ⊢
    clear hth hone
    refine go_on ?_
    have c1 := H9.out.cells.2.1
    have cs := H9.out.ccell (i := s) hsn
    have zs9 := H9.out.cown.frozenAt s
    obtain ⟨cx, hcx⟩ : ∃ cx, cx = M.cls.getD s 0 := ⟨_, rfl⟩
    rw [show ({ M with words := fillW M.words k' junk N, zs := ys, free := cutL (putL M.free cl k').1 s } : HM).cls.getD s 0 = cx from hcx.symm] at cs
    clear hcx
    have H10 := Lib.hid (H9.out.set_cls s (-1))
    have S10 := Lib.hid (S9.out.trans (step_setCell (b := bc) (i := s) (.int .i64 (-1)) H9.out.inF.2.2.1))
    clear H9 S9
    go_wp2_with fail
    go_ret
    refine ⟨rfl, ys, hp4.out, r, ?_, _, ?_, S10.out⟩
    · rw [hs.out]; exact hn.out
    · rw [hmf.out]; exact ⟨bw, bc, bs, cc, f8, _, H10.out⟩
  · by_cases hqs : q = (s : Int)
    · have hmf : mFree M k' junk ys r = { M with words := fillW M.words k' junk N, zs := ys, free := (putL M.free cl k').1 } := by
        unfold mFree
        rw [hs.out, if_neg (by rw [← hq.out]; omega), Int.toNat_natCast, ← hN.out, ← hcl.out]
      replace hmf := Lib.hid hmf
      have tq : (q != (s : Int)) = false := by simp [hqs]
      replace hqs := Lib.hid hqs
      go_wp2_with (go_at_call 106; refine (HQ.out _).mono ?_; rintro e w' ⟨rfl, rfl⟩)
      go_ret
      refine ⟨rfl, ys, r, _, hp4.out, ?_, ?_, S7.out⟩
      · rw [hs.out]; exact hn.out
      · rw [hmf.out]; exact ⟨bw, bc, bs, cc, f4, _, H7.out⟩
    · have hout : r < 0 ∨ spanOf r ≠ (s : Int) := .inr (by rw [← hq.out]; exact hqs)
      have tq : (q != (s : Int)) = true := bne_iff_ne.2 hqs
      have hmf : mFree M k' junk ys r = { M with words := fillW M.words k' junk N, zs := ys, free := cutL (putL M.free cl k').1 s, cls := M.cls.set s (-1) } := by
        unfold mFree
        rw [hs.out, if_pos hout, Int.toNat_natCast, ← hN.out, ← hcl.out]
      have hr7 : Hid (w7.rangeAt h 2 [f4 0, f4 1, f4 2, f4 3]) := Lib.hid (World.rangeAt_of_block H7.out.self 2 4)
      have HCt := Lib.hid (cut_fresh f4 (putL M.free cl k').1 (s : Int) w7 (fun j hj => H7.out.fr j hj) (fun j hj => Nat.le_trans (lenF_put hlf.out cl k' j hj) (by omega)) (bdL_put hbd.out (by omega)))
      replace hmf := Lib.hid hmf
      go_wp2_with (first
        | (go_at_call 106; refine (HQ.out _).mono ?_; rintro e w' ⟨rfl, rfl⟩)
        | (refine wpList_load_mid rfl 89 (.tmp 71) rfl h 2 rfl [f4 0, f4 1, f4 2, f4 3] _ hr7.out lists_row rfl lists_size ?_)
        | (go_at_call 107; refine HCt.out.mono ?_; rintro e w8 ⟨v8, rfl, ⟨f8, rfl, hrf8, hfb8⟩, hb8⟩; refine stop_here ?_))
      obtain ⟨H9, S9⟩ := H7.out.refree hb8 hrf8 hfb8
      have hth : Hid (w8.there h 2 (arr4 f8).size) := Lib.hid fun j hj => by
        have hB8 : Blk w8 h 94 (hcells bw bc bs (8 * M.n + 1) M.n cc f4 (.slice A6 ys.length d6)) := (hb8.block h (H7.out.lt h H7.out.inF.1)).trans H7.out.self
        have hj4 : j < 4 := hj
        rw [hB8.cell (2 + j), hB8.frozen (2 + j)]
        rcases (show j = 0 ∨ j = 1 ∨ j = 2 ∨ j = 3 from by omega) with rfl | rfl | rfl | rfl <;> exact ⟨rfl, rfl⟩
      have hone := Lib.hid (arr4_one fun j hj => rd_one (hrf8 j hj))
      have S9 := Lib.hid (S7.out.trans S9)
      replace H9 := Lib.hid H9
      clear hrf8 hfb8 hb8 hr7 HCt S7 H7
      refine go_on ?_
      go_wp2_with (refine wpList_store_mid rfl 89 (.tmp 78) (.tmp 75) rfl h 2 (arr4 f8) rfl rfl hth.out lists_size hone.out ?_; refine stop_here ?_)
      generalize w8.setCells h 2 (arr4 f8).toList = w9 at H9 S9 ⊢
      clear hth hone
      refine go_on ?_
      have c1 := H9.out.cells.2.1
      have cs := H9.out.ccell (i := s) hsn
      have zs9 := H9.out.cown.frozenAt s
      obtain ⟨cx, hcx⟩ : ∃ cx, cx = M.cls.getD s 0 := ⟨_, rfl⟩
      rw [show ({ M with words := fillW M.words k' junk N, zs := ys, free := cutL (putL M.free cl k').1 s } : HM).cls.getD s 0 = cx from hcx.symm] at cs
      clear hcx
      have H10 := Lib.hid (H9.out.set_cls s (-1))
      have S10 := Lib.hid (S9.out.trans (step_setCell (b := bc) (i := s) (.int .i64 (-1)) H9.out.inF.2.2.1))
      clear H9 S9
      go_wp2_with fail
      go_ret
      refine ⟨rfl, ys, hp4.out, r, ?_, _, ?_, S10.out⟩
      · rw [hs.out]; exact hn.out
      · rw [hmf.out]; exact ⟨bw, bc, bs, cc, f8, _, H10.out⟩
end Go.Proofs.YtcaboknbdamlhaaGreatDoor
