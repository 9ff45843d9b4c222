/- The walk of cut. -/
import Derived.Test.YtcaboknbdamlhaaGreatDoorHeapCut
set_option linter.unusedVariables false
set_option linter.unusedSimpArgs false
namespace Go.Proofs.YtcaboknbdamlhaaGreatDoor
open Go.RowKit Go.Shelf
attribute [local go_sem] Oper.semAt_some
theorem out_no {α : Type} (Kp : World → World → Prop) (I : List α → World → Prop) (Ix : Code → List α → World → Prop) (xs : List α) (W : World) : ¬ LetsOut (ownPostK Kp I Ix xs W) := fun ⟨_, _, h⟩ => h
theorem Boxed.setFar {W : World} {B : Nat} {t : TypeId} {v : Value} (h : Boxed W B t v) {p : Addr} (hp : B ≠ p.block) (u : Value) : Boxed (W.setCell p u) B t v := (Below.heap_setCell W p u B hp).trans h
theorem lists_row : Tryz.prog.underlying 89 = some (.array 4 36) := by kernel_rfl
set_option maxRecDepth 100000 in
set_option maxHeartbeats 4000000 in
theorem cut_full (h : Nat) (M : HM) (F : Nat → Prop) (c : Int) (w : World) (H : HAt w h M F) (hlf : LenF M.free 1000000) (hx : (-1 : Int) ∈ M.cls) :
    Calls Tryz.prog 71 #[.pointer (some ⟨h, 0, none⟩), .int .i64 c] w fun e w' => e = .returned (.int .i64 (mCut M c).2) ∧ ∃ F', HAt w' h (mCut M c).1 F' ∧ Step F w w' F' := by
  obtain ⟨bw, bc, bs, cc, f, vu, H⟩ := H
  obtain ⟨s, hs⟩ : ∃ s, s = M.cls.idxOf (-1) := ⟨_, rfl⟩
  have hm : mCut M c = ({ M with cls := M.cls.set s c, free := mPuts c M.free (blocksOf (s : Int) c).reverse }, 0) := by unfold mCut; rw [if_pos hx, hs]
  have hix : ixOf M.cls (-1) = (s : Int) := by unfold ixOf; rw [if_pos hx, hs]
  have hsl : s < M.n := by rw [hs, ← H.clen]; exact List.idxOf_lt_length_iff.2 hx
  have hn2 := H.n2
  have cb := H.ccell hsl
  rw [hm]
  clear hm hs hx
  have HX := Lib.hid (fun (wx : World) (hb : Below w.heap.size w wx) => show Calls Tryz.prog 84 #[.slice (some ⟨bc, 0, none⟩) M.n cc, .int .i64 (-1)] wx fun e w' => e = .returned (.int .i64 (s : Int)) ∧ wx = w' by
    rw [← hix]
    refine index_ok _ M.cls (-1) wx ?_ (by have := H.clen; omega)
    have h1 : w.ownsRow 0 3 1 (.slice (some ⟨bc, 0, none⟩) M.n cc) M.cls.length (M.cls.map i64e) := by rw [H.clen]; exact H.cown
    exact (Rd.of_own h1).below hb)
  obtain ⟨W0, hW0⟩ : ∃ W0, W0 = ((w.alloc (.cells #[.pointer (some ⟨h, 0, none⟩)] 33)).alloc (.cells #[.int .i64 c] 3)) := ⟨_, rfl⟩
  have hB0 : Below w.heap.size w W0 := by rw [hW0]; exact ((Below.refl _ w).alloc (Nat.le_refl _) _).alloc (by simp) _
  have hz0 : W0.heap.size = w.heap.size + 2 := by rw [hW0]; simp
  have HT := Lib.hid (H.below hB0)
  have c1 := HT.out.cells.2.1
  have b2 := (Boxed.new w 33 (.pointer (some ⟨h, 0, none⟩))).alloc (.cells #[.int .i64 c] 3)
  have b3 := Boxed.new (w.alloc (.cells #[.pointer (some ⟨h, 0, none⟩)] 33)) 3 (.int .i64 c)
  rw [World.size_alloc] at b3
  rw [← hW0] at b2 b3
  have d2 := b2.cell
  have d3 := b3.cell
  clear cb
  have cb := HT.out.ccell hsl
  have hfz := HT.out.cown
  have cf := hfz.frozenAt s
  obtain ⟨hFh, hFw, hFc, hFs⟩ := H.inF
  have lth := H.lt h hFh
  have ltw := H.lt bw hFw
  have ltc := H.lt bc hFc
  have lts := H.lt bs hFs
  obtain ⟨wc, hwc⟩ : ∃ wc, wc = w.setCell ⟨bc, s, none⟩ (.int .i64 c) := ⟨_, rfl⟩
  have hzc : wc.heap.size = w.heap.size := by rw [hwc, setCell_size]
  have HTc := H.set_cls s c
  have hstc := step_setCell (F := F) (w := w) (b := bc) (i := s) (.int .i64 c) hFc
  rw [← hwc] at HTc hstc
  obtain ⟨W1, hW1⟩ : ∃ W1, W1 = ((wc.alloc (.cells #[.pointer (some ⟨h, 0, none⟩)] 33)).alloc (.cells #[.int .i64 c] 3)).drew := ⟨_, rfl⟩
  have hB1 : Below wc.heap.size wc W1 := by
    rw [hW1]
    exact (((Below.refl _ wc).alloc (Nat.le_refl _) _).alloc (by simp) _).trans ⟨rfl, rfl, rfl, Nat.le_refl _, fun _ _ => rfl⟩
  have hz1 := Lib.hid (show W1.heap.size = w.heap.size + 2 by rw [hW1, ← hzc]; simp)
  have b2' := (Boxed.new wc 33 (.pointer (some ⟨h, 0, none⟩))).alloc (.cells #[.int .i64 c] 3)
  have b3' := Boxed.new (wc.alloc (.cells #[.pointer (some ⟨h, 0, none⟩)] 33)) 3 (.int .i64 c)
  rw [World.size_alloc] at b3'
  rw [hzc] at b2' b3'
  replace b2' := Lib.hid (show Boxed W1 _ _ _ by rw [hW1]; exact b2')
  replace b3' := Lib.hid (show Boxed W1 _ _ _ by rw [hW1]; exact b3')
  have HT1 := Lib.hid (HTc.below hB1)
  have hst1 := Lib.hid (hstc.trans (Step.of_below (F := F) hB1))
  replace HX := Lib.hid (HX.out W0 hB0)
  clear hB0 hz0 b2 b3 hfz HT hzc HTc hstc hB1
  subst hW0
  have hs0 : (0 : Int) ≤ (s : Int) := by omega
  replace hW1 := Lib.hid hW1
  replace hwc := Lib.hid hwc
  refine (callsIn_wide (n := 3)).1 ?_
  refine callsIn_of_wp_marks Tryz.func71 rfl trivial ?_ rfl
  simp only [Tryz.ntmps71, List.size_toArray, List.length_cons, List.length_nil, Nat.reduceAdd, Nat.reduceSub, Array.replicate_succ, Array.replicate_zero, List.push_toArray, List.append_toArray, List.nil_append, List.cons_append]
  gi_wp2_with (refine ⟨trivial, ?_⟩; gi_at_call 84; refine (callsIn_wide.2 HX.out).mono ?_; rintro e w' ⟨rfl, rfl⟩)
  gi_region
  rw [← hwc.out, ← hW1.out]
  clear hwc hW1 c1 cb d2 d3 cf HX
  have e3 := b3'.out.cell
  gi_wp2_with (first
    | (refine ⟨trivial, ?_⟩; gi_at_call 99; refine (callsIn_wide.2 (blocks_ok s c _)).mono ?_; rintro e W2 ⟨v, rfl, hown, hb2⟩; obtain ⟨A, cap, rfl, hAc⟩ := own_form hown)
    | (refine ⟨trivial, ?_⟩; gi_at_call 98; refine (backmk_in _ _ trivial rfl _ _ _ _).mono ?_; rintro e W3 ⟨rfl, hW3⟩))
  obtain ⟨bl, hbl⟩ : ∃ bl, bl = blocksOf (s : Int) c := ⟨_, rfl⟩
  have hbl8 : bl.length ≤ 8 := by rw [hbl]; exact blocks_len _ _
  have hblz : I64le bl := fun y hy => by
    rw [hbl] at hy
    exact Int.le_trans (blocks_top (s : Int) c (by omega) y hy) (by decide)
  rw [← hbl] at hown hAc hW3 ⊢
  have hsz12 := hb2.size
  have hb3 : Below W1.heap.size W1 W3 := by rw [hW3]; exact hb2.trans ((below_alloc W2 _).mono hb2.size)
  have hz3 : W3.heap.size = W2.heap.size + 1 := by rw [hW3]; simp
  have bN : Boxed W3 W2.heap.size 36 (.slice A bl.length cap) := by rw [hW3]; exact Boxed.new W2 _ _
  have hInts : Ints W1.heap.size W3.heap.size W3 (.slice A bl.length cap) bl := by rw [hW3]; exact Ints.of_own (e := 3) (hown.alloc _)
  have HT3 := HT1.out.below hb3
  have hst3 := hst1.out.trans (Step.of_below (F := F) hb3)
  have hz1' := hz1.out
  have b2 : Boxed W3 w.heap.size 33 (.pointer (some ⟨h, 0, none⟩)) := (hb3.block _ (by omega)).trans b2'.out
  have b3 : Boxed W3 (w.heap.size + 1) 3 (.int .i64 c) := (hb3.block _ (by omega)).trans b3'.out
  rw [← hW3]
  replace hbl := Lib.hid hbl
  clear hW3
  clear hb2 hAc hown hst1 HT1 b2' b3' e3 hz1
  refine wpIn_rangeFunc_ownF (F := Fence.wide) rfl (by omega) (gf := 111) (lb := #[.pointer (some ⟨W2.heap.size, 0, none⟩)]) rfl trivial (enters_of Tryz.func111 (by kernel_rfl) rfl)
    (back_stops Fence.wide _ trivial rfl (by omega) W2.heap.size W1.heap.size W3.heap.size _ bl hblz (by omega) W3 (by omega) (by omega) (Nat.le_refl _) bN.cell hInts) Mid.trans (midK_b (Nat.le_refl _)) (Below.refl _ _) (fun _ => rfl)
    (fun pre W => (∃ f' F', HIn W h { M with cls := M.cls.set s c, free := mPuts c M.free (pre.map (fun x : IxV => x.1.2)) } F' bw bc bs cc f' vu ∧ Step F w W F') ∧ Boxed W w.heap.size 33 (.pointer (some ⟨h, 0, none⟩)) ∧ Boxed W (w.heap.size + 1) 3 (.int .i64 c) ∧ W3.heap.size ≤ W.heap.size)
    (fun _ _ _ => False)
    (fun pre X Y row hs hg hr => by
      obtain ⟨⟨f', F', H', S'⟩, x, y, z⟩ := hs
      exact ⟨⟨f', F', H'.grown hg (fun r e => (hr r e).2), step_grown S' hg (fun r e => by have := (hr r e).1; omega)⟩, boxed_own _ _ (fun _ : Unit => _) () X Y row x hg (fun r e => (hr r e).2), boxed_own _ _ (fun _ : Unit => _) () X Y row y hg (fun r e => (hr r e).2), Nat.le_trans z hg.size⟩)
    (fun _ _ _ _ _ hs _ _ => hs)
    ⟨⟨f, F, HT3, hst3⟩, b2, b3, Nat.le_refl _⟩
    (fun x => { tmps := #[.pointer (some ⟨h, 0, none⟩), .int .i64 c, .pointer (some ⟨w.heap.size, 0, none⟩), .pointer (some ⟨w.heap.size + 1, 0, none⟩), .int .i64 0, .int .i64 (s : Int), undef, .int .i64 x.1.2,
      .pointer (some ⟨h, 0, none⟩), .pointer (some ⟨h, 0, none⟩), .pointer (some ⟨h, 1, none⟩), .slice (some ⟨bc, 0, none⟩) M.n cc, .int .i64 (s : Int), .int .i64 (s : Int), .bool (decide ((s : Int) < 0)), .pointer (some ⟨h, 0, none⟩),
      .pointer (some ⟨h, 0, none⟩), .pointer (some ⟨h, 1, none⟩), .slice (some ⟨bc, 0, none⟩) M.n cc, .int .i64 (s : Int), .int .i64 c, .pointer (some ⟨bc, s, none⟩), .int .i64 (s : Int), .int .i64 c, .slice A bl.length cap,
      .func (.func 111) #[] #[.pointer (some ⟨W2.heap.size, 0, none⟩)], .int .i64 x.1.1, .int .i64 x.1.2, undef, undef, undef, undef, undef, undef, undef, undef, undef, undef, undef, undef, undef], defers := [] }) ?assign ?body ?done ?stop
  case assign =>
    intro l x W K hK
    gi_wp2
    exact hK
  case body =>
    rintro l pre x W ⟨⟨f', F', H', S'⟩, x2, x3, x4⟩ hlen
    replace hz1' := Lib.hid hz1'
    replace hz3 := Lib.hid hz3
    refine wpIn_block ?_
    have hlp : LenF (mPuts c M.free (pre.map (fun x : IxV => x.1.2))) 1000100 := fun j hj => by
      have := lenF_puts hlf c (pre.map (fun x : IxV => x.1.2)) j hj
      rw [List.length_map] at this
      omega
    have hr : W.rangeAt h 2 [f' 0, f' 1, f' 2, f' 3] := by
      have h1 := World.rangeAt_of_block H'.self 2 4
      exact h1
    have hS0 : (fun X : World => X.cell? ⟨w.heap.size, 0, none⟩ = some (.pointer (some ⟨h, 0, none⟩)) ∧ X.cell? ⟨w.heap.size + 1, 0, none⟩ = some (.int .i64 c) ∧ X.rangeAt h 2 [f' 0, f' 1, f' 2, f' 3]) W.drew := ⟨x2.cell, x3.cell, hr⟩
    refine wpIn_T (by kernel_rfl) (by kernel_rfl) (fun ⟨_, _, hp⟩ => hp) 13 (fun X : World => X.cell? ⟨w.heap.size, 0, none⟩ = some (.pointer (some ⟨h, 0, none⟩)) ∧ X.cell? ⟨w.heap.size + 1, 0, none⟩ = some (.int .i64 c) ∧ X.rangeAt h 2 [f' 0, f' 1, f' 2, f' 3]) ?_
    dsimp only
    refine wpAnyT_take (i := 0) (v := (.pointer (some ⟨h, 0, none⟩))) rfl (by kernel_rfl) (fun _ _ _ hp => hp) (Or.inl ⟨by rfl, fun X hX => by obtain ⟨y2, y3, y4⟩ := hX; go_simp⟩) hS0 ?_
    simp only [Act.put, List.setIfInBounds_toArray, List.set_cons_zero, List.set_cons_succ]
    refine wpAnyT_take (i := 1) (v := (.pointer (some ⟨h, 0, none⟩))) rfl (by kernel_rfl) (fun _ _ _ hp => hp) (Or.inl ⟨by rfl, fun X hX => by obtain ⟨y2, y3, y4⟩ := hX; go_simp⟩) hS0 ?_
    simp only [Act.put, List.setIfInBounds_toArray, List.set_cons_zero, List.set_cons_succ]
    refine wpAnyT_takeW (i := 2) (v := (.pointer (some ⟨h, 0, none⟩))) rfl (by kernel_rfl) (fun _ _ _ hp => hp) (Or.inl ⟨by rfl, fun X _ => by go_simp⟩) hS0 ?_
    simp only [Act.put, List.setIfInBounds_toArray, List.set_cons_zero, List.set_cons_succ]
    refine wpAnyT_takeW (i := 3) (v := (.pointer (some ⟨h, 2, none⟩))) rfl (by kernel_rfl) (fun _ _ _ hp => hp) (Or.inl ⟨by rfl, fun X _ => by go_simp⟩) hS0 ?_
    simp only [Act.put, List.setIfInBounds_toArray, List.set_cons_zero, List.set_cons_succ]
    refine wpAnyT_take (i := 4) (v := (.agg (arr4 f'))) rfl (by kernel_rfl) (fun _ _ _ hp => hp) (yieldsIf_load_mid (by rfl) _ _ rfl h 2 rfl [f' 0, f' 1, f' 2, f' 3] _ (fun X hX => hX.2.2) lists_row rfl lists_size) hS0 ?_
    simp only [Act.put, List.setIfInBounds_toArray, List.set_cons_zero, List.set_cons_succ]
    refine wpAnyT_take (i := 5) (v := (.int .i64 c)) rfl (by kernel_rfl) (fun _ _ _ hp => hp) (Or.inl ⟨by rfl, fun X hX => by obtain ⟨y2, y3, y4⟩ := hX; go_simp⟩) hS0 ?_
    simp only [Act.put, List.setIfInBounds_toArray, List.set_cons_zero, List.set_cons_succ]
    refine wpAnyT_takeW (i := 6) (v := (.int .i64 x.1.2)) rfl (by kernel_rfl) (fun _ _ _ hp => hp) (Or.inl ⟨by rfl, fun X _ => by go_simp⟩) hS0 ?_
    simp only [Act.put, List.setIfInBounds_toArray, List.set_cons_zero, List.set_cons_succ]
    refine wpAnyT_one (i := 7) rfl (by kernel_rfl) (by rfl) ?_
    intro K1 hK1
    go_simp
    refine (put_fresh f' _ c x.1.2 W.drew (fun j hj => (H'.fr j hj : Rd i64e W.drew _ _)) (fun j hj => Nat.le_trans (hlp j hj) (by omega)) x.2).mono ?_
    rintro e W4 ⟨v, rfl, ⟨f4, rfl, hrf, hfb⟩, hb4⟩
    dsimp only
    have hS4 : (fun X : World => X.cell? ⟨w.heap.size, 0, none⟩ = some (.pointer (some ⟨h, 0, none⟩)) ∧ X.cell? ⟨w.heap.size + 1, 0, none⟩ = some (.int .i64 c) ∧ X.rangeAt h 2 [f' 0, f' 1, f' 2, f' 3]) W4 := ⟨(hb4.block _ x2.lt).trans x2 |> Boxed.cell, (hb4.block _ x3.lt).trans x3 |> Boxed.cell, fun j v hv => (hb4.cell (p := ⟨h, 2 + j, none⟩) (show h < W.drew.heap.size from H'.lt h H'.inF.1)).trans (hr j v hv)⟩
    refine hK1.out _ _ (fun _ => hS4) ?_
    (try simp only [Act.put, List.setIfInBounds_toArray, List.set_cons_zero, List.set_cons_succ])
    refine wpAnyT_takeW (i := 8) (v := (.tuple #[.agg (arr4 f4), .int .i64 (putL (mPuts c M.free (pre.map (fun x : IxV => x.1.2))) c x.1.2).2])) rfl (by kernel_rfl) (fun _ _ _ hp => hp) (Or.inl ⟨by rfl, fun X _ => by go_simp⟩) hS4 ?_
    simp only [Act.put, List.setIfInBounds_toArray, List.set_cons_zero, List.set_cons_succ]
    refine wpAnyT_takeW (i := 9) (v := (.agg (arr4 f4))) rfl (by kernel_rfl) (fun _ _ _ hp => hp) (Or.inl ⟨by rfl, fun X _ => by go_simp⟩) hS4 ?_
    simp only [Act.put, List.setIfInBounds_toArray, List.set_cons_zero, List.set_cons_succ]
    refine wpAnyT_takeW (i := 10) (v := (.int .i64 (putL (mPuts c M.free (pre.map (fun x : IxV => x.1.2))) c x.1.2).2)) rfl (by kernel_rfl) (fun _ _ _ hp => hp) (Or.inl ⟨by rfl, fun X _ => by go_simp⟩) hS4 ?_
    simp only [Act.put, List.setIfInBounds_toArray, List.set_cons_zero, List.set_cons_succ]
    refine wpAnyT_takeW (i := 11) (v := (.pointer (some ⟨h, 0, none⟩))) rfl (by kernel_rfl) (fun _ _ _ hp => hp) (Or.inl ⟨by rfl, fun X _ => by go_simp⟩) hS4 ?_
    simp only [Act.put, List.setIfInBounds_toArray, List.set_cons_zero, List.set_cons_succ]
    refine wpAnyT_takeW (i := 12) (v := (.pointer (some ⟨h, 2, none⟩))) rfl (by kernel_rfl) (fun _ _ _ hp => hp) (Or.inl ⟨by rfl, fun X _ => by go_simp⟩) hS4 ?_
    simp only [Act.put, List.setIfInBounds_toArray, List.set_cons_zero, List.set_cons_succ]
    clear hK1 K1
    refine wpAnyT_one (i := 13) rfl (by kernel_rfl) (by rfl) ?_
    intro K1 hK1
    refine wp_store_mid _ _ _ rfl h 2 (arr4 f4) rfl rfl ?_ lists_size (arr4_one fun j hj => rd_one (hrf j hj)) ?_
    · exact fun j hj => by
        have hB4 : Blk W4 h 94 (hcells bw bc bs (8 * M.n + 1) M.n cc f' vu) := (hb4.block h (H'.lt h H'.inF.1)).trans H'.self
        have hj4 : j < 4 := hj
        rw [hB4.cell (2 + j), hB4.frozen (2 + j)]
        rcases (show j = 0 ∨ j = 1 ∨ j = 2 ∨ j = 3 from by omega) with rfl | rfl | rfl | rfl <;> exact ⟨rfl, rfl⟩
    generalize Act.put _ _ _ = a9
    refine hK1.out _ _ (fun hh => absurd rfl hh) ?_
    refine wpAnyT_done (by kernel_rfl) ?_ _
    have HB : Below W.heap.size W W4 := ⟨hb4.os, hb4.tape, hb4.output, hb4.size, hb4.block⟩
    obtain ⟨HN, SN⟩ := H'.refree HB hrf hfb
    have hp : mPuts c M.free ((pre ++ [x]).map (fun x : IxV => x.1.2)) = (putL (mPuts c M.free (pre.map (fun x : IxV => x.1.2))) c x.1.2).1 := by rw [List.map_append]; exact mPuts_snoc _ _ _ _
    have hz1'' := hz1'.out
    have hzz := HB.size
    refine ⟨(keeps_below HB).trans (set4_keeps _ _ _), ⟨Nat.le_trans HB.size (Nat.le_of_eq (set4_size _ _ _).symm), fun k h1 h2 => (set4_other _ _ _ (by omega)).trans (HB.block k (by omega))⟩, ⟨⟨f4, _, ?_, S'.trans SN⟩, ?_, ?_, ?_⟩⟩
    · rw [hp]; exact HN
    · exact (set4_other _ _ _ (by omega)).trans ((HB.block _ x2.lt).trans x2)
    · exact (set4_other _ _ _ (by omega)).trans ((HB.block _ x3.lt).trans x3)
    · rw [set4_size]; omega
  case done =>
    rintro D ys W hD hS ⟨⟨f', F', H', S'⟩, x2, x3, x4⟩ hK
    gi_wp2
    have hr : ∀ r, some D = some r → ∃ o : Obj, W.heap[r]? = some o ∧ o.isCells = false := fun r e => by cases e; exact ⟨_, hK, rfl⟩
    refine ⟨by simp, .inl ⟨_, _, rfl, run_takeDeferred hK, ?_⟩⟩
    refine ⟨_, results_tmp rfl _ _ _, rfl, F', ⟨bw, bc, bs, cc, f', vu, ?_⟩, step_grown S' (grownBy_putObj' W D (.deferred none)) (fun r e => by cases e; omega)⟩
    have := H'.grown (grownBy_putObj' W D (.deferred none)) hr
    rw [hS, hbl.out] at this
    exact this
  case stop =>
    rintro D c pre W _ _ h _
    exact h.elim
end Go.Proofs.YtcaboknbdamlhaaGreatDoor
