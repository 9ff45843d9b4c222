/- The walk of Alloc: where there is a free block. -/
import Derived.Test.YtcaboknbdamlhaaGreatDoorHeapCutN
set_option linter.unusedVariables false
set_option linter.unusedSimpArgs false
namespace Go.Proofs.YtcaboknbdamlhaaGreatDoor
open Go.RowKit Go.Shelf
theorem shape_info : (Tryz.prog.info? 100).map (·.size) = some 2 := by kernel_rfl
set_option maxRecDepth 100000 in
set_option maxHeartbeats 4000000 in
theorem alloc_have (h : Nat) (M : HM) (F : Nat → Prop) (n mask junk : Int) (w : World) (H : HAt w h M F) (hlf : LenF M.free 1001000) (k : Nat) (hk : classOf n = (k : Int)) (h1 : 1 ≤ n) (h6 : n ≤ 6) (hm : mask / 2 ^ n.toNat = 0) (hne : 0 < (M.free k).length) (pk : Nat) (hp : lastOf (M.free k) = (pk : Int)) (hp1 : 1 ≤ pk) (hpb : (pk : Int) + wordsOf k ≤ 8 * M.n + 1)
    (hx : -9223372036854775808 ≤ junk ∧ junk ≤ 9223372036854775807) :
    Calls Tryz.prog 42 #[.pointer (some ⟨h, 0, none⟩), .int .i64 n, .int .u8 mask, .int .i64 junk] w fun e w' => e = .returned (.tuple #[.int .i64 (pk : Int), .int .i64 0]) ∧
      ∃ ys F', PutB M.zs pk true ys ∧ HAt w' h { M with free := popL M.free k, zs := ys, sh := M.sh.set pk (n, mask), words := fillW M.words pk junk (wordsOf k).toNat } F' ∧ Step F w w' F' := by
  have HG := Lib.hid (good_ok h M F w H)
  obtain ⟨bw, bc, bs, cc, f, vu, H⟩ := H
  have hk4 : k < 4 := by have := class_bd n; omega
  have hn2 := H.n2
  have HO := Lib.hid (fun wx => show Calls Tryz.prog 51 #[.int .i64 n] wx fun e w' => e = .returned (.int .i64 (k : Int)) ∧ wx = w' by rw [← hk]; exact of_ok n wx)
  have hrf := H.fr k hk4
  obtain ⟨A, d, ev, -⟩ := hrf.len
  have cf := H.free_cell hk4
  rw [ev] at cf
  have k0 : (0 : Int) ≤ (k : Int) := by omega
  have k1 : (k : Int) < 4 := by omega
  obtain ⟨L, hL⟩ : ∃ L, L = (M.free k).length := ⟨_, rfl⟩
  rw [← hL] at cf hne
  have tl : ((L : Int) == 0) = false := by rw [beq_eq_false_iff_ne]; omega
  have t1 : ¬ n < 1 := by omega
  have t6 : ¬ 6 < n := by omega
  have HTk : Hid (Calls Tryz.prog 72 #[.agg (arr4 f), .int .i64 (k : Int)] w fun e w' => ∃ v, e = .returned (.tuple #[v, .int .i64 (pk : Int), .int .i64 0]) ∧ RdF w' w.heap.size v (popL M.free k) ∧ Below w.heap.size w w') := Lib.hid (by
    have h9 := take_fresh f M.free (k : Int) w (fun j hj => H.fr j hj) (fun j hj => Nat.le_trans (hlf j hj) (by omega))
    have e9 : takeL M.free (k : Int) = (popL M.free k, (pk : Int), 0) := by
      unfold takeL
      rw [if_neg (by omega), Int.toNat_natCast, if_neg (by omega), hp]
    rw [e9] at h9
    exact h9)
  have hr : Hid (w.rangeAt h 2 [f 0, f 1, f 2, f 3]) := Lib.hid (World.rangeAt_of_block H.self 2 4)
  have hkk := Lib.hid hk
  clear hk hL ev hrf
  replace H := Lib.hid H
  replace hx := Lib.hid hx
  replace hp := Lib.hid hp
  replace hpb := Lib.hid hpb
  replace hlf := Lib.hid hlf
  go_enter Tryz.func42, Tryz.ntmps42
  go_wp2_with (first
    | (go_at_call 39; refine HG.out.mono ?_; rintro e w' ⟨rfl, rfl⟩)
    | (go_at_call 51; refine (HO.out _).mono ?_; rintro e w' ⟨rfl, rfl⟩)
    | (refine wpList_load_mid rfl 89 (.tmp 50) rfl h 2 rfl [f 0, f 1, f 2, f 3] _ hr.out lists_row rfl lists_size ?_)
    | (go_at_call 72; refine HTk.out.mono ?_; rintro e w1 ⟨v, rfl, ⟨f4, rfl, hrf, hfb⟩, hb1⟩; refine stop_here ?_))
  obtain ⟨H2, S2⟩ := H.out.refree hb1 hrf hfb
  have hth : Hid (w1.there h 2 (arr4 f4).size) := Lib.hid fun j hj => by
    have hB4 : Blk w1 h 94 (hcells bw bc bs (8 * M.n + 1) M.n cc f vu) := (hb1.block h (H.out.lt h H.out.inF.1)).trans H.out.self
    have hj4 : j < 4 := hj
    rw [hB4.cell (2 + j), hB4.frozen (2 + j)]
    rcases (show j = 0 ∨ j = 1 ∨ j = 2 ∨ j = 3 from by omega) with rfl | rfl | rfl | rfl <;> exact ⟨rfl, rfl⟩
  have hone := Lib.hid (arr4_one fun j hj => rd_one (hrf j hj))
  replace H2 := Lib.hid H2
  replace S2 := Lib.hid S2
  clear hrf hfb hb1 cf hr HTk H HG HO
  refine go_on ?_
  go_wp2_with (refine wpList_store_mid rfl 89 (.tmp 58) (.tmp 54) rfl h 2 (arr4 f4) rfl rfl hth.out lists_size hone.out ?_; refine stop_here ?_)
  generalize w1.setCells h 2 (arr4 f4).toList = w2 at H2 S2 ⊢
  clear hth hone
  refine go_on ?_
  have c6 := H2.out.cells.2.2.1
  go_wp2_with fail
  have hpl : pk < 8 * M.n + 1 := by have h9 := hpb.out; have := words_bd (k : Int); rcases words_cases (k : Int) with ⟨_, h8, _⟩ | ⟨_, h8, _⟩ | ⟨_, h8, _⟩ | ⟨_, h8, _⟩ | ⟨_, h8, _⟩ <;> omega
  have q1 : (pk : Int) < 8 * (M.n : Int) + 1 := by omega
  have q0 : (0 : Int) ≤ (pk : Int) := by omega
  have hul := H2.out.ulen
  refine (bput_ok vu M.zs (pk : Int) true w2 H2.out.ur (by show M.zs.length ≤ _; have : M.zs.length ≤ 1024 := hul; omega) H2.out.u64 (by omega) (by omega)).mono ?_
  rintro e w3 ⟨v', ys, rfl, hr3, hp3, hf3, hb3⟩
  obtain ⟨H4, S4⟩ := H2.out.reuse hb3 hr3 hp3 hf3
  obtain ⟨A6, d6, rfl, -⟩ := hr3.len
  have hB4 : Blk w3 h 94 (hcells bw bc bs (8 * M.n + 1) M.n cc f4 vu) := (hb3.block h (H2.out.lt h H2.out.inF.1)).trans H2.out.self
  have c6 := hB4.cell 6
  have z6 := hB4.frozen 6
  rw [show (hcells bw bc bs (8 * M.n + 1) M.n cc f4 vu)[6]? = some vu from rfl] at c6
  have S4 := S2.out.trans S4
  have c7 := hB4.cell 7
  rw [show (hcells bw bc bs (8 * M.n + 1) M.n cc f4 vu)[7]? = some (.slice (some ⟨bs, 0, none⟩) (8 * M.n + 1) (8 * M.n + 1)) from rfl] at c7
  obtain ⟨s1, s2⟩ := H4.sh_cell hpl
  have z1 := H4.sblk.frozen (2 * pk)
  have z2 := H4.sblk.frozen (2 * pk + 1)
  rw [Nat.mul_comm] at s1 s2 z1 z2
  clear hB4 S2 H2 hr3 hf3 hb3 hul
  replace hp3 := Lib.hid hp3
  replace H4 := Lib.hid H4
  replace S4 := Lib.hid S4
  have H5 := H4.out.set_sh pk (n, mask) hpl
  have S5 := (S4.out.trans (step_setCell (b := bs) (i := 2 * pk) (.int .i64 n) H4.out.inF.2.2.2)).trans (step_setCell (b := bs) (i := 2 * pk + 1) (.int .u8 mask) H4.out.inF.2.2.2)
  rw [Nat.mul_comm 2 pk] at H5 S5
  replace H5 := Lib.hid H5
  replace S5 := Lib.hid S5
  clear S4 H4
  go_wp2_with fail
  generalize ((w3.setCell ⟨h, 6, none⟩ (.slice A6 ys.length d6)).setCell ⟨bs, pk * 2, none⟩ (.int .i64 n)).setCell ⟨bs, pk * 2 + 1, none⟩ (.int .u8 mask) = w5 at H5 S5 ⊢
  have hsl : (M.sh.set pk (n, mask)).getD pk (0, 0) = (n, mask) := by
    have h9 := H5.out.slen
    have h8 : pk < (M.sh.set pk (n, mask)).length := by rw [h9]; exact hpl
    simp only [List.getD, List.getElem?_eq_getElem h8, Option.getD_some, List.getElem_set_self]
  have hbl : blockLen { M with free := popL M.free k, zs := ys, sh := M.sh.set pk (n, mask) } pk = (wordsOf k).toNat := by
    unfold blockLen
    show (wordsOf (classOf ((M.sh.set pk (n, mask)).getD pk (0, 0)).1)).toNat = _
    rw [hsl, hkk.out]
  have hwb := words_bd (k : Int)
  have hpb' := hpb.out
  have hB := block_ok h { M with free := popL M.free k, zs := ys, sh := M.sh.set pk (n, mask) } _ bw bc bs cc f4 (.slice A6 ys.length d6) w5 H5.out pk (by show 1 ≤ ((M.sh.set pk (n, mask)).getD pk (0, 0)).1; rw [hsl]; exact h1) (by show ((M.sh.set pk (n, mask)).getD pk (0, 0)).1 ≤ 6; rw [hsl]; exact h6) (by rw [hbl]; show pk + _ ≤ 8 * M.n + 1; omega)
  rw [hbl] at hB
  obtain ⟨N, hN⟩ : ∃ N, N = (wordsOf (k : Int)).toNat := ⟨_, rfl⟩
  rw [← hN] at hB
  have hpN : pk + N ≤ 8 * M.n + 1 := by omega
  replace hN := Lib.hid hN
  clear hsl hbl hwb hpb' c6 c7 s1 s2 z1 z2 z6 hpb hkk
  refine hB.mono ?_
  rintro e w6' ⟨rfl, nq, rfl⟩
  have H6 := Lib.hid (H5.out.below (below_drewN (Below.refl _ _) nq))
  have S6 := Lib.hid (S5.out.trans (Step.of_below (below_drewN (Below.refl _ w5) nq)))
  generalize w5.drewN nq = w6 at H6 S6 ⊢
  clear H5 S5 hB
  go_wp2_with fail
  refine (fill_ok h { M with free := popL M.free k, zs := ys, sh := M.sh.set pk (n, mask) } _ bw bc bs cc f4 (.slice A6 ys.length d6) w6 H6.out pk N (8 * M.n + 1 - pk) junk hx.out hpN (by omega)).mono ?_
  rintro e w7 ⟨rfl, H7, S7, -⟩
  have S7 := S6.out.trans S7
  replace H7 := Lib.hid H7
  replace S7 := Lib.hid S7
  clear H6 S6
  go_wp2_with fail
  go_ret2
  rw [← hN.out]
  exact ⟨rfl, ys, _, hp3.out, ⟨bw, bc, bs, cc, f4, _, H7.out⟩, S7.out⟩
end Go.Proofs.YtcaboknbdamlhaaGreatDoor
