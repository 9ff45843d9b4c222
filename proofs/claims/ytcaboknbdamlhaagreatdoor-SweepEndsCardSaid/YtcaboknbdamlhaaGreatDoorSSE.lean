/- Joined: SweepEnds. -/
import Derived.Test.YtcaboknbdamlhaaGreatDoorSSO
set_option linter.unusedVariables false
set_option linter.unusedSimpArgs false
namespace Go.Proofs.YtcaboknbdamlhaaGreatDoor
open Go.RowKit Go.Shelf
set_option maxHeartbeats 12800000 in
set_option maxRecDepth 100000 in
theorem sends_ok (v0 v1 : Value) (acts : List SAct) (rs : List Int) (w : World) (hra : RdC 6 sactC w v0 acts) (hba : ∀ a ∈ acts, SActOk w a) (hrs : Rd u8e w v1 rs) (hbs : ∀ x ∈ rs, 0 ≤ x ∧ x ≤ 255) (hT : TabW w) :
    Calls Tryz.prog 6 #[v0, v1] w fun e w' => e = .returned (.bool true) ∧ Below w.heap.size w w' := by
  have HA := Lib.hid (salive_ok w hT)
  replace hT := Lib.hid hT
  have RA := Lib.hid hra
  have HB := Lib.hid hba
  have RS := Lib.hid hrs
  have HS := Lib.hid hbs
  obtain ⟨Aa, ca, rfl, hlc, hcm, -⟩ := hra.len
  obtain ⟨Ar, cr, rfl, hlr, -⟩ := hrs.len
  clear hra hba hrs hbs
  go_enter Tryz.func6, Tryz.ntmps6
  go_wp2_with fail
  refine HA.out.mono ?_
  rintro e w1 ⟨rfl, b1⟩
  clear HA
  go_wp2_with fail
  refine (lx_begin 8 w1 (by omega) (by omega) (hT.out.below b1)).mono ?_
  rintro e w2 ⟨q, s, h, m, rfl, H2⟩
  have b2 := b1.trans (Below.mono H2.b b1.size)
  have b12 := Lib.hid H2.b
  replace H2 := Lib.hid H2
  clear hT
  go_wp2_with fail
  refine (sheavy_w _ acts w2 (RA.out.below b2) (fun a ha => (HB.out a ha).below b2)).mono ?_
  rintro e w3 ⟨rfl, b3⟩
  have b3w := b2.trans (Below.mono b3 b2.size)
  have H3 := Lib.hid (H2.out.below b3)
  clear H2
  cases hh : sHeavy acts with
  | true =>
    go_wp2_with fail
    go_ret
    exact ⟨rfl, b3w⟩
  | false =>
  by_cases hr20 : 20 < rs.length
  · have t20 : (20 : Int) < (rs.length : Int) := by omega
    go_wp2_with fail
    go_ret
    exact ⟨rfl, b3w⟩
  have t20 : decide ((20 : Int) < (rs.length : Int)) = false := by rw [decide_eq_false_iff_not]; omega
  have O3 := Lib.hid (off_new 8)
  replace RA : Hid (RdC 6 sactC w1 (.slice Aa acts.length ca) acts) := Lib.hid (RA.out.below b1)
  replace HB : Hid (∀ a ∈ acts, SActOk w1 a) := Lib.hid fun a ha => (HB.out a ha).below b1
  replace RS : Hid (Rd u8e w1 (.slice Ar rs.length cr) rs) := Lib.hid (RS.out.below b1)
  replace b1 := Lib.hid b1
  have hal : acts.length ≤ 120 := by
    unfold sHeavy at hh
    rw [Bool.or_eq_false_iff, decide_eq_false_iff_not] at hh
    omega
  replace hh := Lib.hid hh
  clear b2 b3 b3w b12
  go_wp2_with fail
  go_loopw [29] (fun i wr => ∃ (k : Nat) (T : SS) (D : DS), k ≤ acts.length ∧ i = .int .i64 k ∧ Hid (LX (ofW w1) wr q s h m T D) ∧ Hid (OffX T D)) (fun i _ => acts.length - (intOf i).toNat)
  case atStart => exact ⟨0, _, _, by omega, rfl, H3, O3⟩
  case round =>
    clear H3 O3
    obtain ⟨k, T, D, hk, rfl, H1, O1⟩ := hrel
    by_cases hlt : k < acts.length
    · have t0 : (k : Int) < (acts.length : Int) := by omega
      obtain ⟨b, o, rfl, _, hc⟩ := (RA.out.below H1.out.b).at_ hlt
      obtain ⟨x, hx⟩ : ∃ x, acts[k] = x := ⟨_, rfl⟩
      have hok := (HB.out _ (List.getElem_mem hlt))
      rw [hx] at hc hok
      have hbd := hok.bd
      obtain ⟨kind, xa, xb, xk, rv, rl, xx⟩ := x
      have c0 : wr.cell? ⟨b, o + k * 6, none⟩ = some (.int .u8 kind) := hc 0 _ rfl
      have c1 : wr.cell? ⟨b, o + k * 6 + 1, none⟩ = some (.int .u8 xa) := hc 1 _ rfl
      have c2 : wr.cell? ⟨b, o + k * 6 + 2, none⟩ = some (.int .u8 xb) := hc 2 _ rfl
      have c3 : wr.cell? ⟨b, o + k * 6 + 3, none⟩ = some (.int .u8 xk) := hc 3 _ rfl
      have c4 : wr.cell? ⟨b, o + k * 6 + 4, none⟩ = some (slE rv) := hc 4 _ rfl
      have c5 : wr.cell? ⟨b, o + k * 6 + 5, none⟩ = some (.int .i64 xx) := hc 5 _ rfl
      have kd := hbd.kind
      dsimp only at kd
      replace hbd := Lib.hid hbd
      replace hok := Lib.hid hok
      clear hc hx
      go_wp2_with (first
        | (refine wpList_new rfl (.alloc 30) rfl wr.heap.size rfl 30 #[.int .u8 0, .int .u8 0, .int .u8 0, .int .u8 0, .slice none 0 0, .int .i64 0] (by kernel_rfl) ?_; intro w1 hs1 hb1 hB1; have HB1 := Lib.hid hB1; clear hB1)
        | (refine wpList_store_blk rfl 30 (.tmp 8) (.tmp 32) rfl wr.heap.size rfl #[.int .u8 kind, .int .u8 xa, .int .u8 xb, .int .u8 xk, slE rv, .int .i64 xx] rfl 30 #[.int .u8 0, .int .u8 0, .int .u8 0, .int .u8 0, .slice none 0 0, .int .i64 0] HB1.out sact_size rfl (by simp [Value.oneCell']) ?_; intro w2 hB2 hg2 hs2; refine stop_here ?_))
      have hb2 : Below wr.heap.size wr w2 := hb1.grown hg2 hb1.size (fun k hk => by cases hk; exact Nat.le_refl _)
      have H2 := Lib.hid (H1.out.below hb2)
      have v0 : w2.cell? ⟨wr.heap.size, 0, none⟩ = some (.int .u8 kind) := hB2.cell 0
      obtain ⟨gA, hgA⟩ : ∃ gA, gA = wr.heap.size := ⟨_, rfl⟩
      rw [← hgA] at hB2 v0 ⊢
      replace hgA := Lib.hid hgA
      replace hB2 := Lib.hid hB2
      clear HB1 hg2 hs2 hs1 hb1 hb2 H1 c0 c1 c2 c3 c4 c5
      refine go_on ?_
      by_cases h8 : kind % 8 = 0
      · go_wp2_with fail
        go_roundw
        case rel => exact ⟨k + 1, T, D, by omega, by go_num, H2, O1⟩
        case measure => simp [intOf]; omega
      · have HD := Lib.hid (sdoes_off H2.out O1.out kind xa xb xk rv xx hbd.out h8)
        go_wp2_with (refine wpList_load_blk rfl 30 (.tmp 8) rfl gA rfl 30 #[.int .u8 kind, .int .u8 xa, .int .u8 xb, .int .u8 xk, slE rv, .int .i64 xx] hB2.out _ Tryz.underlying30 rfl sact_size ?_)
        refine HD.out.mono ?_
        rintro e w3 ⟨bb, T3, D3, rfl, H3, O3⟩
        replace H3 := Lib.hid H3
        replace O3 := Lib.hid O3
        clear HD H2 O1 hB2 v0
        go_wp2_with fail
        go_roundw
        case rel => exact ⟨k + 1, T3, D3, by omega, by go_num, H3, O3⟩
        case measure => simp [intOf]; omega
    · obtain rfl : k = acts.length := by omega
      have c0 := H1.out.cells.1
      have I := H1.out.inv
      obtain ⟨n, hn⟩ : ∃ n, n = (sAll T.S).length := ⟨_, rfl⟩
      have hn4 : n ≤ 4096 := by
        have := I.toInv0.objs_len
        rw [hn, all_len]
        exact this
      obtain ⟨hB0, hB1, hC⟩ := cyc_begin I.toInv0 O1.out.clo O1.out.ph O1.out.on (rs.map (objN T.S)) (fun x hx => by
        obtain ⟨y, _, rfl⟩ := List.mem_map.1 hx
        exact objN_good I.toInv0 y)
      have hcy : (qBegin T (rs.map (objN T.S))).1.cyc = 0 := by rw [hB1]; exact O1.out.cy
      have hlf : (qBegin T (rs.map (objN T.S))).1.left = [] := by rw [hB1]; exact O1.out.lf
      rw [← hn] at hC
      replace hB1 := Lib.hid hB1
      replace hC := Lib.hid hC
      replace hcy := Lib.hid hcy
      replace hlf := Lib.hid hlf
      replace hB0 := Lib.hid hB0
      replace I := Lib.hid I
      have HAl := lx_all H1.out
      rw [← hn] at HAl
      replace HAl := Lib.hid HAl
      replace hn := Lib.hid hn
      go_wp2_with fail
      refine (lx_heap H1.out).mono ?_
      rintro e _ ⟨rfl, rfl⟩
      go_wp2_with fail
      refine HAl.out.mono ?_
      rintro e w5 ⟨A5, c5, rfl, _, _, b5⟩
      have H5 := Lib.hid (H1.out.below b5)
      have c0 := H5.out.cells.1
      clear HAl H1 b5
      replace hB0 := hB0.out
      go_wp2_with fail
      have hS0 : (fun X : World => X.cell? ⟨q, 0, none⟩ = some (.pointer (some ⟨s, 0, none⟩))) w5.drew := c0
      refine wp_T (by kernel_rfl) 9 (fun X : World => X.cell? ⟨q, 0, none⟩ = some (.pointer (some ⟨s, 0, none⟩))) ?_
      refine wpAnyT_takeA (i := 0) (v := .pointer (some ⟨q, 0, none⟩)) rfl (by kernel_rfl) rfl (fun _ _ _ hp => hp) (Or.inl ⟨by kernel_rfl, fun X _ => by go_simp⟩) hS0 ?_
      simp only [Act.put, List.getElem_toArray, List.getElem_cons_succ, List.getElem_cons_zero, List.setIfInBounds_toArray, List.set_cons_zero, List.set_cons_succ]
      refine wpAnyT_takeA (i := 1) (v := .pointer (some ⟨q, 0, none⟩)) rfl (by kernel_rfl) rfl (fun _ _ _ hp => hp) (Or.inl ⟨by kernel_rfl, fun X _ => by go_simp⟩) hS0 ?_
      simp only [Act.put, List.getElem_toArray, List.getElem_cons_succ, List.getElem_cons_zero, List.setIfInBounds_toArray, List.set_cons_zero, List.set_cons_succ]
      refine wpAnyT_takeA (i := 2) (v := .pointer (some ⟨q, 0, none⟩)) rfl (by kernel_rfl) rfl (fun _ _ _ hp => hp) (Or.inl ⟨by kernel_rfl, fun X _ => by go_simp⟩) hS0 ?_
      simp only [Act.put, List.getElem_toArray, List.getElem_cons_succ, List.getElem_cons_zero, List.setIfInBounds_toArray, List.set_cons_zero, List.set_cons_succ]
      refine wpAnyT_takeA (i := 3) (v := .pointer (some ⟨s, 0, none⟩)) rfl (by kernel_rfl) rfl (fun _ _ _ hp => hp) (Or.inl ⟨by kernel_rfl, fun X hX => by have hX1 : (fun X : World => X.cell? ⟨q, 0, none⟩ = some (.pointer (some ⟨s, 0, none⟩))) X := hX; have y1 : X.cell? ⟨q, 0, none⟩ = some (.pointer (some ⟨s, 0, none⟩)) := hX1; go_simp⟩) hS0 ?_
      simp only [Act.put, List.getElem_toArray, List.getElem_cons_succ, List.getElem_cons_zero, List.setIfInBounds_toArray, List.set_cons_zero, List.set_cons_succ]
      refine wpAnyT_takeA (i := 4) (v := .pointer (some ⟨q, 0, none⟩)) rfl (by kernel_rfl) rfl (fun _ _ _ hp => hp) (Or.inl ⟨by kernel_rfl, fun X _ => by go_simp⟩) hS0 ?_
      simp only [Act.put, List.getElem_toArray, List.getElem_cons_succ, List.getElem_cons_zero, List.setIfInBounds_toArray, List.set_cons_zero, List.set_cons_succ]
      refine wpAnyT_takeA (i := 5) (v := .slice Ar rs.length cr) rfl (by kernel_rfl) rfl (fun _ _ _ hp => hp) (Or.inl ⟨by kernel_rfl, fun X _ => by go_simp⟩) hS0 ?_
      simp only [Act.put, List.getElem_toArray, List.getElem_cons_succ, List.getElem_cons_zero, List.setIfInBounds_toArray, List.set_cons_zero, List.set_cons_succ]
      refine wpAnyT_one (i := 6) rfl (by kernel_rfl) (by kernel_rfl) ?_
      intro K1 hK1
      have H5d := H5.out.below (show Below w5.heap.size w5 w5.drew from (Below.refl _ _).drew)
      go_simp
      refine (lx_roots H5d _ rs (RS.out.below H5d.b) (by omega) HS.out).mono ?_
      rintro e w6 ⟨va, rfl, own6, b6⟩
      dsimp only
      have hS1 : (fun X : World => X.cell? ⟨q, 0, none⟩ = some (.pointer (some ⟨s, 0, none⟩))) w6 := (H5d.below b6).cells.1
      refine hK1.out _ _ (fun _ => hS1) ?_
      (try simp only [Act.put, List.getElem_toArray, List.getElem_cons_succ, List.getElem_cons_zero, List.setIfInBounds_toArray, List.set_cons_zero, List.set_cons_succ])
      refine wpAnyT_one (i := 7) rfl (by kernel_rfl) (by kernel_rfl) ?_
      intro K2 hK2
      have hrd6 : Rd i64e w6 va (rs.map (objN T.S)) := by
        have hl6 : rs.length = (rs.map (objN T.S)).length := by rw [List.length_map]
        rw [hl6] at own6
        exact Rd.of_own own6
      have HBg := lx_beginL H5d b6 va (rs.map (objN T.S)) hrd6 (by rw [List.length_map]; omega) (fun x hx => by
        obtain ⟨y, _, rfl⟩ := List.mem_map.1 hx
        have := objN_bd H5d.inv.toInv0 y
        omega) (fun b e => own6.lt b e)
      rw [hB0] at HBg
      go_simp
      refine HBg.mono ?_
      rintro e w7 ⟨rfl, H7⟩
      dsimp only
      have hS2 : (fun X : World => X.cell? ⟨q, 0, none⟩ = some (.pointer (some ⟨s, 0, none⟩))) w7 := H7.cells.1
      replace H7 := Lib.hid H7
      refine hK2.out _ _ (fun _ => hS2) ?_
      (try simp only [Act.put, List.getElem_toArray, List.getElem_cons_succ, List.getElem_cons_zero, List.setIfInBounds_toArray, List.set_cons_zero, List.set_cons_succ])
      refine wpAnyT_takeA (i := 8) (v := .bool false) rfl (by kernel_rfl) rfl (fun _ _ _ hp => hp) (Or.inl ⟨by kernel_rfl, fun X _ => by go_simp⟩) hS2 ?_
      simp only [Act.put, List.getElem_toArray, List.getElem_cons_succ, List.getElem_cons_zero, List.setIfInBounds_toArray, List.set_cons_zero, List.set_cons_succ]
      refine wpAnyT_done (by kernel_rfl) ?_ _
      (try simp only [Act.put, List.getElem_toArray, List.getElem_cons_succ, List.getElem_cons_zero, List.setIfInBounds_toArray, List.set_cons_zero, List.set_cons_succ])
      clear hK1 K1 hK2 K2 hS0 hS1 hS2 own6 b6
      replace hB0 := Lib.hid hB0
      obtain ⟨T1, hT1⟩ : ∃ T1, T1 = (qBegin T (rs.map (objN T.S))).1 := ⟨_, rfl⟩
      rw [← hT1] at H7 hC hcy hlf
      have w2n : IntKind.i64.wrap (2 * (n : Int)) = 2 * (n : Int) := by rw [IntKind.wrap_i64]; omega
      have w3n : IntKind.i64.wrap (2 * (n : Int) + 3) = 2 * (n : Int) + 3 := by rw [IntKind.wrap_i64]; omega
      have INV : Hid (∃ (T2 : SS) (r : Nat), LX (ofW w1) w7 q s h m T2 D ∧ Cyc T2 r ∧ 0 + r ≤ 2 * n + 2 ∧ (T2.ph = 1 → T2.left = []) ∧ T2.cyc = 0) := Lib.hid ⟨T1, _, H7.out, hC.out, by omega, fun _ => hlf.out, hcy.out⟩
      clear H7 hC hcy hlf hT1 hB0 hB1 hrd6 H5d O1 c0 I H5
      rename World => w7'
      go_wp2_with fail
      go_loopw [60] (fun i wz => ∃ k : Nat, i = .int .i64 k ∧ Hid (∃ (T2 : SS) (r : Nat), LX (ofW w1) wz q s h m T2 D ∧ Cyc T2 r ∧ k + r ≤ 2 * n + 2 ∧ (T2.ph = 1 → T2.left = []) ∧ T2.cyc = 0)) (fun i _ => 2 * n + 3 - (intOf i).toNat)
      case atStart => exact ⟨0, rfl, INV⟩
      case round =>
        clear INV
        obtain ⟨k2, rfl, hr⟩ := hrel
        obtain ⟨T2, r, H2, C2, hr2, hl2, hc2⟩ := hr.out
        have hk2 : (k2 : Int) < 2 * (n : Int) + 3 := by omega
        have I2 := H2.inv
        have hst := lx_step H2 (cyc_sok I2.toInv0 (by omega) hl2 C2) 1 (by omega)
        obtain ⟨e0, hnext⟩ := cyc_step I2 C2 hl2 1 (by omega)
        rw [e0, if_pos rfl] at hst
        have c0 := H2.cells.1
        obtain ⟨T3, hT3⟩ : ∃ T3, T3 = (qStep T2 1).1 := ⟨_, rfl⟩
        rw [← hT3] at hst hnext
        replace hst := Lib.hid hst
        replace hnext := Lib.hid hnext
        clear hr H2 C2 I2 e0 hT3
        by_cases hz : T3.ph = 0
        · rw [hz] at hst
          go_wp2_with fail
          refine hst.out.mono ?_
          rintro e w8 ⟨rfl, H8⟩
          have b8 := Lib.hid (b1.out.trans (Below.mono H8.b b1.out.size))
          clear hst H8
          go_wp2_with fail
          go_ret
          exact ⟨rfl, b8.out⟩
        · have z1 : (T3.ph == 0) = false := beq_eq_false_iff_ne.2 hz
          obtain ⟨ph3, hph3⟩ : ∃ p, p = T3.ph := ⟨_, rfl⟩
          rw [← hph3] at hst z1 hz
          replace hph3 := Lib.hid hph3
          go_wp2_with fail
          refine hst.out.mono ?_
          rintro e w8 ⟨rfl, H8⟩
          have INV3 : Hid (∃ (T2 : SS) (r : Nat), LX (ofW w1) w8 q s h m T2 D ∧ Cyc T2 r ∧ (k2 + 1) + r ≤ 2 * n + 2 ∧ (T2.ph = 1 → T2.left = []) ∧ T2.cyc = 0) := Lib.hid (by
            rcases hnext.out with ⟨hp0, _⟩ | ⟨k3, C3, hk3, hl3, hc3⟩
            · exact absurd (hph3.out.trans hp0) hz
            · exact ⟨T3, k3, H8, C3, by omega, hl3, hc3.trans hc2⟩)
          clear hst H8 hnext
          go_wp2_with fail
          go_roundw
          case rel => exact ⟨k2 + 1, by go_num, INV3⟩
          case measure => simp [intOf]; omega
end Go.Proofs.YtcaboknbdamlhaaGreatDoor
