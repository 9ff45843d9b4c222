/- HeapRoom: what the walk shows is true for any calls. -/
import Derived.Test.YtoodfioecabglaaDoorHeapRoomP
set_option linter.unusedVariables false
set_option linter.unusedSimpArgs false
namespace Go.Proofs.YtoodfioecabglaaDoor
open Go.RowKit Go.Shelf
set_option maxHeartbeats 6400000 in
set_option maxRecDepth 100000 in
theorem hroom_ok (v : Value) (acts : List HAct) (spans n : Int) (hs0 : 0 ≤ spans) (hs1 : spans ≤ 255) (hn0 : 0 ≤ n) (hn1 : n ≤ 255) (w : World) (hv : RdC 7 hactC w v acts) (hbd : ∀ a ∈ acts, HActOk a) (hT : TabW w) :
    Calls Tryd.prog 5 #[.int .u8 spans, v, .int .u8 n] w fun e w' => e = .returned (.bool true) ∧ Below w.heap.size w w' := by
  replace hT := Lib.hid hT
  have RA := Lib.hid hv
  have HB := Lib.hid hbd
  obtain ⟨A0, cap0, rfl, hlen0, hcap0, -⟩ := hv.len
  clear hv hbd
  obtain ⟨sp, hsp⟩ : ∃ sp : Nat, spans % 10 = (sp : Int) := ⟨(spans % 10).toNat, by omega⟩
  have hsp9 : sp ≤ 9 := by omega
  obtain ⟨q, hq⟩ : ∃ q : Nat, n % 6 = (q : Int) := ⟨(n % 6).toNat, by omega⟩
  have hq5 : q ≤ 5 := by omega
  go_enter Tryd.func5, Tryd.ntmps5
  go_wp2_with fail
  refine (halive_ok w hT.out).mono ?_
  rintro e w1 ⟨rfl, b1⟩
  replace hT := Lib.hid (hT.out.below b1)
  go_wp2_with fail
  refine (new_i _ (sp + 1) (by omega) w1 (by omega) (by omega) hT.out).mono ?_
  rintro e w2 ⟨h, F1, rfl, H1, hF1, b2⟩
  replace hF1 : Hid (∀ j, F1 j → w.heap.size ≤ j) := Lib.hid fun j hj => Nat.le_trans b1.size (hF1 j hj)
  replace H1 := Lib.hid H1
  replace b2 := below_all b1 b2
  clear hT
  go_wp2_with fail
  go_loopw [9] (fun i wr => ∃ (k : Nat) (S : HS) (F : Nat → Prop), k ≤ acts.length ∧ k ≤ 80 ∧ i = .int .i64 k ∧ Hid (S.n = sp + 1) ∧ Hid (HpAt wr h S F) ∧ Hid (∀ j, F j → w.heap.size ≤ j) ∧ Below w.heap.size w wr) (fun i _ => 81 - (intOf i).toNat)
  case atStart => exact ⟨0, _, F1, by omega, by omega, rfl, Lib.hid rfl, H1, hF1, b2⟩
  case round =>
    clear H1 hF1 b2
    obtain ⟨k, S, F, hk, hk80, rfl, hSn, HS, hF, hb⟩ := hrel
    have kz : (0 : Int) ≤ (k : Int) := by omega
    have hways : (k < acts.length ∧ k < 80) ∨ acts.length ≤ k ∨ (k < acts.length ∧ ¬ k < 80) := by omega
    rcases hways with ⟨hlt, hl8⟩ | hend
    · have t0 : decide ((k : Int) < (acts.length : Int)) = true := by rw [decide_eq_true_iff]; omega
      have t1 : decide ((k : Int) < 80) = true := by rw [decide_eq_true_iff]; omega
      have kl : (k : Int) < (acts.length : Int) := by omega
      obtain ⟨b, o, rfl, _, hc⟩ := (RA.out.below hb).at_ hlt
      obtain ⟨a, hak⟩ : ∃ a, a = acts[k] := ⟨_, rfl⟩
      have hok := HB.out a (by rw [hak]; exact List.getElem_mem hlt)
      rw [← hak] at hc
      clear hak
      obtain ⟨kind, an, mask, obj, p, f, x⟩ := a
      have c0 : wr.cell? ⟨b, o + k * 7, none⟩ = some (.int .u8 kind) := hc 0 _ rfl
      have c1 := hc 1 _ rfl
      have c2 := hc 2 _ rfl
      have c3 := hc 3 _ rfl
      have c4 := hc 4 _ rfl
      have c5 := hc 5 _ rfl
      have c6 := hc 6 _ rfl
      replace hok := Lib.hid hok
      clear hc
      go_wp2_with fail
      refine (does_ok h S F kind an mask obj p f x wr HS.out hok.out).mono ?_
      rintro e w3 ⟨rfl, F3, H3, s3⟩
      obtain ⟨b3, hF3⟩ := step_all hb hF.out s3
      replace hF3 := Lib.hid hF3
      have hn3 := Lib.hid ((does_n HS.out.inv ⟨kind, an, mask, obj, p, f, x⟩).trans hSn.out)
      replace H3 := Lib.hid H3
      clear s3 c0 c1 c2 c3 c4 c5 c6
      go_wp2_with fail
      go_roundw
      case rel => exact ⟨k + 1, _, F3, by omega, by omega, by go_num, hn3, H3, hF3, b3⟩
      case measure => simp [intOf]; omega
    rcases hend with hend | ⟨hlt, hend⟩
    · have t0 : decide ((k : Int) < (acts.length : Int)) = false := by rw [decide_eq_false_iff_not]; omega
      clear t0
      have I := HS.out.inv
      obtain ⟨L, hL⟩ : ∃ L, (sAll S).length = L := ⟨_, rfl⟩
      have hLo : S.objs.length = L := by rw [← hL, all_len]
      have hL9 : L ≤ 4096 := by have := I.objs_len; omega
      replace I := Lib.hid I
      go_wp2_with fail
      refine (all_o rfl HS.out).mono ?_
      rintro e w4 ⟨A4, c4, rfl, R4, -, b4⟩
      have H4 := Lib.hid (HS.out.below b4)
      have b4 := below_all hb b4
      clear HS hb
      replace R4 := Lib.hid R4
      rw [hL] at R4 ⊢
      replace hL := Lib.hid hL
      replace hLo := Lib.hid hLo
      go_wp2_with fail
      go_loopw [47] (fun i wr => ∃ (j : Nat) (S2 : HS) (F2 : Nat → Prop), j ≤ L ∧ i = .int .i64 j ∧ Hid (S2.n = sp + 1) ∧ Hid (S2.objs = S.objs.drop j) ∧ Hid (HpAt wr h S2 F2) ∧ Hid (∀ k, F2 k → w.heap.size ≤ k) ∧ Hid (RdO i64e wr F2 (.slice A4 L c4) (sAll S)) ∧ Below w.heap.size w wr) (fun i _ => L - (intOf i).toNat)
      case atStart => exact ⟨0, S, F, by omega, rfl, hSn, Lib.hid rfl, H4, hF, R4, b4⟩
      case round =>
        clear H4 R4 b4
        obtain ⟨j, S2, F2, hj, rfl, hn2, ho2, H2, hF2, R2, b2⟩ := hrel
        by_cases hjl : j < L
        · have t5 : (j : Int) < (L : Int) := by omega
          have hjs : j < (sAll S).length := by rw [hL.out]; exact hjl
          obtain ⟨b, of, rfl, _, hc⟩ := R2.out.rd.at_ hjs
          have hjo : j < S.objs.length := by rw [hLo.out]; exact hjl
          have hd := ho2.out
          rw [List.drop_eq_getElem_cons hjo] at hd
          obtain ⟨e1, e2, e3⟩ := free_first H2.out.inv.toInv0 hd 7
          have hx : (sAll S)[j] = (S.objs[j]).1 := by simp [sAll]
          rw [hx] at hc
          have hxb := H2.out.inv.ob (S.objs[j]) (by rw [hd]; exact List.mem_cons_self)
          have hx1 := hxb.2.2.2.2.1
          have hx2 := hxb.2.2.2.2.2.1
          have hx3 := H2.out.inv.n2
          obtain ⟨x, hxx⟩ : ∃ x, x = (S.objs[j]).1 := ⟨_, rfl⟩
          rw [← hxx] at hc e1 e2 e3 hx1 hx2
          have hx4 : x ≤ 4096 := by omega
          replace hc : wr.cell? ⟨b, of + j, none⟩ = some (.int .i64 x) := hc
          clear hxx hxb hx hd hx2 hx3
          replace e1 := Lib.hid e1
          replace e2 := Lib.hid (e2.trans hn2.out)
          replace e3 := Lib.hid e3
          go_wp2_with fail
          refine (free_r (S' := (sFree S2 x 7).1) (er := 0) (Prod.ext rfl e1.out) H2.out (by omega) (by omega) (by omega)).mono ?_
          rintro e w5 ⟨rfl, F5, H5, s5⟩
          obtain ⟨b5, hF5⟩ := step_all b2 hF2.out s5
          have R5 := Lib.hid (R2.out.step s5)
          replace hF5 := Lib.hid hF5
          replace H5 := Lib.hid H5
          clear s5
          go_wp2_with fail
          go_roundw
          case rel => exact ⟨j + 1, _, F5, by omega, by go_num, e2, e3, H5, hF5, R5, b5⟩
          case measure => simp [intOf]; omega
        · obtain rfl : j = L := by omega
          have t5 : decide ((j : Int) < (j : Int)) = false := by rw [decide_eq_false_iff_not]; omega
          have hnil : S2.objs = [] := by rw [ho2.out, ← hLo.out, List.drop_length]
          obtain ⟨ec, hc4⟩ := classNat_eq (n := (q : Int) + 1) (by omega) (by omega)
          obtain ⟨cn, hcn⟩ : ∃ c, c = classNat ((q : Int) + 1) := ⟨_, rfl⟩
          rw [← hcn] at ec hc4
          obtain ⟨W, hW⟩ : ∃ W, wordsOf cn = W := ⟨_, rfl⟩
          obtain ⟨B, hB⟩ : ∃ B, blockCount cn = B := ⟨_, rfl⟩
          have hBW := (bcount_pos hc4).2
          have hW1 := wordsOf_mod (c := cn) (by omega) (by omega)
          have hst := room_start H2.out.inv hnil hc4
          rw [hn2.out, hB] at hst
          rw [hW, hB] at hBW
          rw [hW] at hW1
          obtain ⟨W0, W8, -⟩ := hW1
          obtain ⟨want, hwant⟩ : ∃ k, k = B * (sp + 1) := ⟨_, rfl⟩
          rw [← hwant] at hst
          have ed : ((sp : Int) + 1) * 8 / W = (want : Int) := by
            rw [hwant, ← hBW, ← Int.mul_assoc, Int.mul_ediv_cancel _ (by omega), Int.natCast_mul, Int.mul_comm]
            rfl
          have hw80 : want ≤ 80 := by
            have h1 : B ≤ 8 := by rw [← hB]; rcases (by omega : cn = 0 ∨ cn = 1 ∨ cn = 2 ∨ cn = 3) with rfl | rfl | rfl | rfl <;> decide
            rw [hwant]
            calc B * (sp + 1) ≤ 8 * 10 := Nat.mul_le_mul h1 (by omega)
              _ = 80 := rfl
          have HO := Lib.hid (fun wx => of_r ec wx)
          have HW := Lib.hid (fun wx => words_r hW wx)
          have hlen0 : S2.objs.length = 0 := by rw [hnil]; rfl
          replace hst := Lib.hid hst
          replace hcn := Lib.hid hcn
          replace hlen0 := Lib.hid hlen0
          clear hnil hwant hBW hB hW ec ho2 hn2 R2
          go_wp2_with (first | (go_at_call 28; refine (HO.out _).mono ?_; rintro e w' ⟨rfl, rfl⟩) | (go_at_call 30; refine (HW.out _).mono ?_; rintro e w' ⟨rfl, rfl⟩))
          rw [ed]
          go_loopw [67] (fun i wr => ∃ (j : Nat) (S3 : HS) (F3 : Nat → Prop), j ≤ want ∧ i = .int .i64 j ∧ Hid (cntR S3 cn + j = want) ∧ Hid (S3.objs.length = j) ∧ Hid (HpAt wr h S3 F3) ∧ Hid (∀ k, F3 k → w.heap.size ≤ k) ∧ Below w.heap.size w wr) (fun i _ => want - (intOf i).toNat)
          case atStart => exact ⟨0, S2, F2, by omega, rfl, hst, hlen0, H2, hF2, b2⟩
          case round =>
            clear H2 hF2 b2 hst hlen0 t5 ed W0 W8 HO HW
            obtain ⟨j3, S3, F3, hj3, rfl, hcnt, hlen, H3, hF3, b3⟩ := hrel
            have hfit := room_fits (S := S3) (n := (q : Int) + 1) (by omega) (by omega)
            rw [← hcn.out] at hfit
            by_cases hjl3 : j3 < want
            · have t6 : (j3 : Int) < (want : Int) := by omega
              have hft : sFits S3 ((q : Int) + 1) = true := by rw [hfit, decide_eq_true_iff]; have := hcnt.out; omega
              obtain ⟨S4, p, ea, AL⟩ := alloc_some (mask := 0) (junk := 7) H3.out.inv (n := (q : Int) + 1) (by omega) (by omega) (by omega) (by omega) (by simp) (by omega) hft
              have hra := room_alloc (mask := 0) (junk := 7) H3.out.inv (n := (q : Int) + 1) (by omega) (by omega) (by simp) hft
              rw [ea, ← hcn.out] at hra
              have hc4' : Hid (cntR S4 cn + (j3 + 1) = want) := Lib.hid (by have := hcnt.out; dsimp only at hra; omega)
              have hl4 : Hid (S4.objs.length = j3 + 1) := Lib.hid (by rw [AL.objs, ins_len, hlen.out])
              replace ea := Lib.hid ea
              clear hfit hft hra AL
              go_wp2_with fail
              refine (alloc_r ea.out H3.out (by omega) (by omega) (by omega)).mono ?_
              rintro e w5 ⟨rfl, F5, H5, s5⟩
              obtain ⟨b5, hF5⟩ := step_all b3 hF3.out s5
              replace hF5 := Lib.hid hF5
              replace H5 := Lib.hid H5
              clear s5
              go_wp2_with fail
              go_roundw
              case rel => exact ⟨j3 + 1, S4, F5, by omega, by go_num, hc4', hl4, H5, hF5, b5⟩
              case measure => simp [intOf]; omega
            · obtain rfl : j3 = want := by omega
              have t6 : decide ((j3 : Int) < (j3 : Int)) = false := by rw [decide_eq_false_iff_not]; omega
              have hft : sFits S3 ((q : Int) + 1) = false := by rw [hfit, decide_eq_false_iff_not]; have := hcnt.out; omega
              have ea := alloc_none (S := S3) (n := (q : Int) + 1) (mask := 0) (junk := 7) (by omega) (by omega) (by simp) hft
              have hlA : (sAll S3).length = j3 := by rw [all_len]; exact hlen.out
              have te : ((j3 : Int) == (j3 : Int)) = true := by simp
              replace ea := Lib.hid ea
              replace hft := Lib.hid hft
              replace hlA := Lib.hid hlA
              clear hfit
              go_wp2_with fail
              refine (alloc_r ea.out H3.out (by omega) (by omega) (by omega)).mono ?_
              rintro e w5 ⟨rfl, F5, H5, s5⟩
              obtain ⟨b5, hF5⟩ := step_all b3 hF3.out s5
              clear s5 hF5
              go_wp2_with fail
              refine (fits_r hft.out H5).mono ?_
              rintro e w6 ⟨rfl, b6⟩
              have H6 := H5.below b6
              have b6 := below_all b5 b6
              go_wp2_with fail
              refine (all_r rfl H6).mono ?_
              rintro e w7 ⟨A7, c7, rfl, -, -, b7⟩
              have b7 := below_all b6 b7
              rw [hlA.out]
              go_wp2_with fail
              go_ret
              exact ⟨rfl, b7⟩
    · have t0 : decide ((k : Int) < (acts.length : Int)) = true := by rw [decide_eq_true_iff]; omega
      have t1 : decide ((k : Int) < 80) = false := by rw [decide_eq_false_iff_not]; omega
      clear t0
      have I := HS.out.inv
      obtain ⟨L, hL⟩ : ∃ L, (sAll S).length = L := ⟨_, rfl⟩
      have hLo : S.objs.length = L := by rw [← hL, all_len]
      have hL9 : L ≤ 4096 := by have := I.objs_len; omega
      replace I := Lib.hid I
      go_wp2_with fail
      refine (all_o rfl HS.out).mono ?_
      rintro e w4 ⟨A4, c4, rfl, R4, -, b4⟩
      have H4 := Lib.hid (HS.out.below b4)
      have b4 := below_all hb b4
      clear HS hb
      replace R4 := Lib.hid R4
      rw [hL] at R4 ⊢
      replace hL := Lib.hid hL
      replace hLo := Lib.hid hLo
      go_wp2_with fail
      go_loopw [47] (fun i wr => ∃ (j : Nat) (S2 : HS) (F2 : Nat → Prop), j ≤ L ∧ i = .int .i64 j ∧ Hid (S2.n = sp + 1) ∧ Hid (S2.objs = S.objs.drop j) ∧ Hid (HpAt wr h S2 F2) ∧ Hid (∀ k, F2 k → w.heap.size ≤ k) ∧ Hid (RdO i64e wr F2 (.slice A4 L c4) (sAll S)) ∧ Below w.heap.size w wr) (fun i _ => L - (intOf i).toNat)
      case atStart => exact ⟨0, S, F, by omega, rfl, hSn, Lib.hid rfl, H4, hF, R4, b4⟩
      case round =>
        clear H4 R4 b4
        obtain ⟨j, S2, F2, hj, rfl, hn2, ho2, H2, hF2, R2, b2⟩ := hrel
        by_cases hjl : j < L
        · have t5 : (j : Int) < (L : Int) := by omega
          have hjs : j < (sAll S).length := by rw [hL.out]; exact hjl
          obtain ⟨b, of, rfl, _, hc⟩ := R2.out.rd.at_ hjs
          have hjo : j < S.objs.length := by rw [hLo.out]; exact hjl
          have hd := ho2.out
          rw [List.drop_eq_getElem_cons hjo] at hd
          obtain ⟨e1, e2, e3⟩ := free_first H2.out.inv.toInv0 hd 7
          have hx : (sAll S)[j] = (S.objs[j]).1 := by simp [sAll]
          rw [hx] at hc
          have hxb := H2.out.inv.ob (S.objs[j]) (by rw [hd]; exact List.mem_cons_self)
          have hx1 := hxb.2.2.2.2.1
          have hx2 := hxb.2.2.2.2.2.1
          have hx3 := H2.out.inv.n2
          obtain ⟨x, hxx⟩ : ∃ x, x = (S.objs[j]).1 := ⟨_, rfl⟩
          rw [← hxx] at hc e1 e2 e3 hx1 hx2
          have hx4 : x ≤ 4096 := by omega
          replace hc : wr.cell? ⟨b, of + j, none⟩ = some (.int .i64 x) := hc
          clear hxx hxb hx hd hx2 hx3
          replace e1 := Lib.hid e1
          replace e2 := Lib.hid (e2.trans hn2.out)
          replace e3 := Lib.hid e3
          go_wp2_with fail
          refine (free_r (S' := (sFree S2 x 7).1) (er := 0) (Prod.ext rfl e1.out) H2.out (by omega) (by omega) (by omega)).mono ?_
          rintro e w5 ⟨rfl, F5, H5, s5⟩
          obtain ⟨b5, hF5⟩ := step_all b2 hF2.out s5
          have R5 := Lib.hid (R2.out.step s5)
          replace hF5 := Lib.hid hF5
          replace H5 := Lib.hid H5
          clear s5
          go_wp2_with fail
          go_roundw
          case rel => exact ⟨j + 1, _, F5, by omega, by go_num, e2, e3, H5, hF5, R5, b5⟩
          case measure => simp [intOf]; omega
        · obtain rfl : j = L := by omega
          have t5 : decide ((j : Int) < (j : Int)) = false := by rw [decide_eq_false_iff_not]; omega
          have hnil : S2.objs = [] := by rw [ho2.out, ← hLo.out, List.drop_length]
          obtain ⟨ec, hc4⟩ := classNat_eq (n := (q : Int) + 1) (by omega) (by omega)
          obtain ⟨cn, hcn⟩ : ∃ c, c = classNat ((q : Int) + 1) := ⟨_, rfl⟩
          rw [← hcn] at ec hc4
          obtain ⟨W, hW⟩ : ∃ W, wordsOf cn = W := ⟨_, rfl⟩
          obtain ⟨B, hB⟩ : ∃ B, blockCount cn = B := ⟨_, rfl⟩
          have hBW := (bcount_pos hc4).2
          have hW1 := wordsOf_mod (c := cn) (by omega) (by omega)
          have hst := room_start H2.out.inv hnil hc4
          rw [hn2.out, hB] at hst
          rw [hW, hB] at hBW
          rw [hW] at hW1
          obtain ⟨W0, W8, -⟩ := hW1
          obtain ⟨want, hwant⟩ : ∃ k, k = B * (sp + 1) := ⟨_, rfl⟩
          rw [← hwant] at hst
          have ed : ((sp : Int) + 1) * 8 / W = (want : Int) := by
            rw [hwant, ← hBW, ← Int.mul_assoc, Int.mul_ediv_cancel _ (by omega), Int.natCast_mul, Int.mul_comm]
            rfl
          have hw80 : want ≤ 80 := by
            have h1 : B ≤ 8 := by rw [← hB]; rcases (by omega : cn = 0 ∨ cn = 1 ∨ cn = 2 ∨ cn = 3) with rfl | rfl | rfl | rfl <;> decide
            rw [hwant]
            calc B * (sp + 1) ≤ 8 * 10 := Nat.mul_le_mul h1 (by omega)
              _ = 80 := rfl
          have HO := Lib.hid (fun wx => of_r ec wx)
          have HW := Lib.hid (fun wx => words_r hW wx)
          have hlen0 : S2.objs.length = 0 := by rw [hnil]; rfl
          replace hst := Lib.hid hst
          replace hcn := Lib.hid hcn
          replace hlen0 := Lib.hid hlen0
          clear hnil hwant hBW hB hW ec ho2 hn2 R2
          go_wp2_with (first | (go_at_call 28; refine (HO.out _).mono ?_; rintro e w' ⟨rfl, rfl⟩) | (go_at_call 30; refine (HW.out _).mono ?_; rintro e w' ⟨rfl, rfl⟩))
          rw [ed]
          go_loopw [67] (fun i wr => ∃ (j : Nat) (S3 : HS) (F3 : Nat → Prop), j ≤ want ∧ i = .int .i64 j ∧ Hid (cntR S3 cn + j = want) ∧ Hid (S3.objs.length = j) ∧ Hid (HpAt wr h S3 F3) ∧ Hid (∀ k, F3 k → w.heap.size ≤ k) ∧ Below w.heap.size w wr) (fun i _ => want - (intOf i).toNat)
          case atStart => exact ⟨0, S2, F2, by omega, rfl, hst, hlen0, H2, hF2, b2⟩
          case round =>
            clear H2 hF2 b2 hst hlen0 t5 ed W0 W8 HO HW
            obtain ⟨j3, S3, F3, hj3, rfl, hcnt, hlen, H3, hF3, b3⟩ := hrel
            have hfit := room_fits (S := S3) (n := (q : Int) + 1) (by omega) (by omega)
            rw [← hcn.out] at hfit
            by_cases hjl3 : j3 < want
            · have t6 : (j3 : Int) < (want : Int) := by omega
              have hft : sFits S3 ((q : Int) + 1) = true := by rw [hfit, decide_eq_true_iff]; have := hcnt.out; omega
              obtain ⟨S4, p, ea, AL⟩ := alloc_some (mask := 0) (junk := 7) H3.out.inv (n := (q : Int) + 1) (by omega) (by omega) (by omega) (by omega) (by simp) (by omega) hft
              have hra := room_alloc (mask := 0) (junk := 7) H3.out.inv (n := (q : Int) + 1) (by omega) (by omega) (by simp) hft
              rw [ea, ← hcn.out] at hra
              have hc4' : Hid (cntR S4 cn + (j3 + 1) = want) := Lib.hid (by have := hcnt.out; dsimp only at hra; omega)
              have hl4 : Hid (S4.objs.length = j3 + 1) := Lib.hid (by rw [AL.objs, ins_len, hlen.out])
              replace ea := Lib.hid ea
              clear hfit hft hra AL
              go_wp2_with fail
              refine (alloc_r ea.out H3.out (by omega) (by omega) (by omega)).mono ?_
              rintro e w5 ⟨rfl, F5, H5, s5⟩
              obtain ⟨b5, hF5⟩ := step_all b3 hF3.out s5
              replace hF5 := Lib.hid hF5
              replace H5 := Lib.hid H5
              clear s5
              go_wp2_with fail
              go_roundw
              case rel => exact ⟨j3 + 1, S4, F5, by omega, by go_num, hc4', hl4, H5, hF5, b5⟩
              case measure => simp [intOf]; omega
            · obtain rfl : j3 = want := by omega
              have t6 : decide ((j3 : Int) < (j3 : Int)) = false := by rw [decide_eq_false_iff_not]; omega
              have hft : sFits S3 ((q : Int) + 1) = false := by rw [hfit, decide_eq_false_iff_not]; have := hcnt.out; omega
              have ea := alloc_none (S := S3) (n := (q : Int) + 1) (mask := 0) (junk := 7) (by omega) (by omega) (by simp) hft
              have hlA : (sAll S3).length = j3 := by rw [all_len]; exact hlen.out
              have te : ((j3 : Int) == (j3 : Int)) = true := by simp
              replace ea := Lib.hid ea
              replace hft := Lib.hid hft
              replace hlA := Lib.hid hlA
              clear hfit
              go_wp2_with fail
              refine (alloc_r ea.out H3.out (by omega) (by omega) (by omega)).mono ?_
              rintro e w5 ⟨rfl, F5, H5, s5⟩
              obtain ⟨b5, hF5⟩ := step_all b3 hF3.out s5
              clear s5 hF5
              go_wp2_with fail
              refine (fits_r hft.out H5).mono ?_
              rintro e w6 ⟨rfl, b6⟩
              have H6 := H5.below b6
              have b6 := below_all b5 b6
              go_wp2_with fail
              refine (all_r rfl H6).mono ?_
              rintro e w7 ⟨A7, c7, rfl, -, -, b7⟩
              have b7 := below_all b6 b7
              rw [hlA.out]
              go_wp2_with fail
              go_ret
              exact ⟨rfl, b7⟩
end Go.Proofs.YtoodfioecabglaaDoor
