/- HeapFits: what the walk shows is true for any calls. -/
import Derived.Test.YtoodfioecabglaaDoorHeapLaws
set_option linter.unusedVariables false
set_option linter.unusedSimpArgs false
namespace Go.Proofs.YtoodfioecabglaaDoor
open Go.RowKit Go.Shelf
set_option maxHeartbeats 6400000 in
set_option maxRecDepth 100000 in
theorem hfits_ok (v : Value) (acts : List HAct) (n x : Int) (hn0 : 0 ≤ n) (hn1 : n ≤ 255) (hj0 : -9223372036854775808 ≤ x ∧ x ≤ 9223372036854775807) (w : World) (hv : RdC 7 hactC w v acts) (hbd : ∀ a ∈ acts, HActOk a) (hT : TabW w) :
    Calls Tryd.prog 9 #[v, .int .u8 n, .int .i64 x] w fun e w' => e = .returned (.bool true) ∧ Below w.heap.size w w' := by
  replace hT := Lib.hid hT
  have RA := Lib.hid hv
  have HB := Lib.hid hbd
  obtain ⟨A0, cap0, rfl, hlen0, hcap0, -⟩ := hv.len
  clear hv hbd
  obtain ⟨q, hq⟩ : ∃ q : Nat, n % 6 = (q : Int) := ⟨(n % 6).toNat, by omega⟩
  have hq5 : q ≤ 5 := by omega
  have hj := Lib.hid hj0
  clear hj0
  go_enter Tryd.func9, Tryd.ntmps9
  go_wp2_with fail
  refine (halive_ok w hT.out).mono ?_
  rintro e w1 ⟨rfl, b1⟩
  replace hT := Lib.hid (hT.out.below b1)
  go_wp2_with fail
  refine (new_s 5 w1 (by omega) (by omega) hT.out).mono ?_
  rintro e w2 ⟨h, F1, rfl, H1, hF1, b2⟩
  replace hF1 : Hid (∀ j, F1 j → w.heap.size ≤ j) := Lib.hid fun j hj => Nat.le_trans b1.size (hF1 j hj)
  replace H1 := Lib.hid H1
  replace b2 := below_all b1 b2
  clear hT
  go_wp2_with fail
  go_loopw [8] (fun i wr => ∃ (k : Nat) (S : HS) (F : Nat → Prop), k ≤ acts.length ∧ k ≤ 80 ∧ i = .int .i64 k ∧ Hid (S.n = 5) ∧ Hid (HpAt wr h S F) ∧ Hid (∀ j, F j → w.heap.size ≤ j) ∧ Below w.heap.size w wr) (fun i _ => 81 - (intOf i).toNat)
  case atStart => exact ⟨0, _, F1, by omega, by omega, rfl, Lib.hid rfl, H1, hF1, b2⟩
  case round =>
    clear H1 hF1 b2
    obtain ⟨k, S, F, hk, hk80, rfl, hSn, HS, hF, hb⟩ := hrel
    have kz : (0 : Int) ≤ (k : Int) := by omega
    have hways : (k < acts.length ∧ k < 80) ∨ acts.length ≤ k ∨ (k < acts.length ∧ ¬ k < 80) := by omega
    rcases hways with ⟨hlt, hl8⟩ | hend
    · have t0 : decide ((k : Int) < (acts.length : Int)) = true := by rw [decide_eq_true_iff]; omega
      have t1 : decide ((k : Int) < 80) = true := by rw [decide_eq_true_iff]; omega
      have kl : (k : Int) < (acts.length : Int) := by omega
      obtain ⟨b, o, rfl, _, hc⟩ := (RA.out.below hb).at_ hlt
      obtain ⟨a, hak⟩ : ∃ a, a = acts[k] := ⟨_, rfl⟩
      have hok := HB.out a (by rw [hak]; exact List.getElem_mem hlt)
      rw [← hak] at hc
      clear hak
      obtain ⟨kind, an, mask, obj, p, f, x0⟩ := a
      have c0 : wr.cell? ⟨b, o + k * 7, none⟩ = some (.int .u8 kind) := hc 0 _ rfl
      have c1 := hc 1 _ rfl
      have c2 := hc 2 _ rfl
      have c3 := hc 3 _ rfl
      have c4 := hc 4 _ rfl
      have c5 := hc 5 _ rfl
      have c6 := hc 6 _ rfl
      replace hok := Lib.hid hok
      clear hc
      go_wp2_with fail
      refine (does_ok h S F kind an mask obj p f x0 wr HS.out hok.out).mono ?_
      rintro e w3 ⟨rfl, F3, H3, s3⟩
      obtain ⟨b3, hF3⟩ := step_all hb hF.out s3
      replace hF3 := Lib.hid hF3
      have hn3 := Lib.hid ((does_n HS.out.inv ⟨kind, an, mask, obj, p, f, x0⟩).trans hSn.out)
      replace H3 := Lib.hid H3
      clear s3 c0 c1 c2 c3 c4 c5 c6
      go_wp2_with fail
      go_roundw
      case rel => exact ⟨k + 1, _, F3, by omega, by omega, by go_num, hn3, H3, hF3, b3⟩
      case measure => simp [intOf]; omega
    rcases hend with hend | ⟨hlt, hend⟩
    · have t0 : decide ((k : Int) < (acts.length : Int)) = false := by rw [decide_eq_false_iff_not]; omega
      clear t0
      have I := HS.out.inv
      replace I := Lib.hid I
      have z1 : classOf 1 = 0 := by decide
      have z2 : classOf 2 = 1 := by decide
      have z3 : classOf 3 = 2 := by decide
      have z4 : classOf 4 = 2 := by decide
      have z5 : classOf 5 = 3 := by decide
      have z6 : classOf 6 = 3 := by decide
      obtain ⟨c3, hc3⟩ : ∃ c, sFits S 3 = c := ⟨_, rfl⟩
      have hc4 : sFits S 4 = c3 := by rw [← hc3]; exact fits_same (k := 4) (by omega) (by omega) (by decide)
      obtain ⟨c5, hc5⟩ : ∃ c, sFits S 5 = c := ⟨_, rfl⟩
      have hc6 : sFits S 6 = c5 := by rw [← hc5]; exact fits_same (k := 6) (by omega) (by omega) (by decide)
      have n3 : (c3 != c3) = false := bne_self_eq_false _
      have n5 : (c5 != c5) = false := bne_self_eq_false _
      replace hc3 := Lib.hid hc3
      replace hc4 := Lib.hid hc4
      replace hc5 := Lib.hid hc5
      replace hc6 := Lib.hid hc6
      go_wp2_with fail
      go_loopw [9] (fun i wr => ∃ m : Int, 1 ≤ m ∧ m ≤ 7 ∧ i = .int .i64 m ∧ Hid (HpAt wr h S F) ∧ Below w.heap.size w wr) (fun i _ => (7 - intOf i).toNat)
      case atStart => exact ⟨1, by omega, by omega, rfl, HS, hb⟩
      case round =>
        clear HS hb
        obtain ⟨m, hm1, hm7, rfl, HS, hb⟩ := hrel
        rcases (by omega : m = 1 ∨ m = 2 ∨ m = 3 ∨ m = 5 ∨ m = 4 ∨ m = 6 ∨ m = 7) with rfl | rfl | rfl | rfl | rfl | rfl | rfl
        iterate 4
          · go_wp2_with (go_at_call 28; refine (of_ok _ _).mono ?_; rintro e w' ⟨rfl, rfl⟩)
            go_roundw
            case rel => exact ⟨_, by omega, by omega, rfl, HS, hb⟩
            case measure => simp [intOf]
        · go_wp2_with (go_at_call 28; refine (of_ok _ _).mono ?_; rintro e w' ⟨rfl, rfl⟩)
          refine (fits_r hc4.out HS.out).mono ?_
          rintro e w4 ⟨rfl, b4⟩
          have H4 := Lib.hid (HS.out.below b4)
          have b4 := below_all hb b4
          go_wp2_with fail
          refine (fits_r hc3.out H4.out).mono ?_
          rintro e w5 ⟨rfl, b5⟩
          have H5 := Lib.hid (H4.out.below b5)
          have b5 := below_all b4 b5
          go_wp2_with fail
          go_roundw
          case rel => exact ⟨_, by omega, by omega, rfl, H5, b5⟩
          case measure => simp [intOf]
        · go_wp2_with (go_at_call 28; refine (of_ok _ _).mono ?_; rintro e w' ⟨rfl, rfl⟩)
          refine (fits_r hc6.out HS.out).mono ?_
          rintro e w4 ⟨rfl, b4⟩
          have H4 := Lib.hid (HS.out.below b4)
          have b4 := below_all hb b4
          go_wp2_with fail
          refine (fits_r hc5.out H4.out).mono ?_
          rintro e w5 ⟨rfl, b5⟩
          have H5 := Lib.hid (H4.out.below b5)
          have b5 := below_all b4 b5
          go_wp2_with fail
          go_roundw
          case rel => exact ⟨_, by omega, by omega, rfl, H5, b5⟩
          case measure => simp [intOf]
        · clear z1 z2 z3 z4 z5 z6 n3 n5
          obtain ⟨L, hL⟩ : ∃ L, (sAll S).length = L := ⟨_, rfl⟩
          have hL9 : L ≤ 4096 := by have := I.out.objs_len; rw [← hL, all_len]; exact this
          rcases hf : sFits S ((q : Int) + 1) with _ | _
          · have ea := alloc_none (S := S) (n := (q : Int) + 1) (mask := 0) (junk := x) (by omega) (by omega) (by simp) hf
            replace hf := Lib.hid hf
            replace ea := Lib.hid ea
            replace hL := Lib.hid hL
            have tL : ((L : Int) == (L : Int)) = true := by simp
            go_wp2_with fail
            refine (fits_r hf.out HS.out).mono ?_
            rintro e w4 ⟨rfl, b4⟩
            have H4 := Lib.hid (HS.out.below b4)
            have b4 := below_all hb b4
            go_wp2_with fail
            refine (all_r rfl H4.out).mono ?_
            rintro e w5 ⟨A5, c5', rfl, -, -, b5⟩
            have H5 := Lib.hid (H4.out.below b5)
            have b5 := below_all b4 b5
            rw [hL.out]
            go_wp2_with fail
            refine (alloc_r ea.out H5.out (by omega) (by omega) hj.out).mono ?_
            rintro e w6 ⟨rfl, F6, H6, s6⟩
            obtain ⟨b6, -⟩ := step_all b5 hF.out s6
            clear s6
            go_wp2_with fail
            refine (all_r rfl H6).mono ?_
            rintro e w7 ⟨A7, c7, rfl, -, -, b7⟩
            have b7 := below_all b6 b7
            rw [hL.out]
            go_wp2_with fail
            go_ret
            exact ⟨rfl, b7⟩
          · obtain ⟨S3, p, ea, AL⟩ := alloc_some (mask := 0) (junk := x) I.out (n := (q : Int) + 1) (by omega) (by omega) (by omega) (by omega) (by simp) hj.out hf
            have hp0 := AL.sits.1
            have hp1 := AL.sits.2.1
            have hn9 := AL.inv.n2
            have hp9 : p ≤ 4096 := by omega
            have hL3 : (sAll S3).length = L + 1 := by rw [AL.all_len, hL]
            have hsz : sSize S3 p = ((q : Int) + 1, 0, true) := AL.inv.size AL.mem
            have tq : ((q : Int) + 1 == (q : Int) + 1) = true := by simp
            have tL : ((L : Int) + 1 == (L : Int) + 1) = true := by simp
            replace hf := Lib.hid hf
            replace ea := Lib.hid ea
            replace AL := Lib.hid AL
            replace hsz := Lib.hid hsz
            replace hL := Lib.hid hL
            replace hL3 := Lib.hid hL3
            clear hp1 hn9
            go_wp2_with fail
            refine (fits_r hf.out HS.out).mono ?_
            rintro e w4 ⟨rfl, b4⟩
            have H4 := Lib.hid (HS.out.below b4)
            have b4 := below_all hb b4
            go_wp2_with fail
            refine (all_r rfl H4.out).mono ?_
            rintro e w5 ⟨A5, c5', rfl, -, -, b5⟩
            have H5 := Lib.hid (H4.out.below b5)
            have b5 := below_all b4 b5
            rw [hL.out]
            go_wp2_with fail
            refine (alloc_r ea.out H5.out (by omega) (by omega) hj.out).mono ?_
            rintro e w6 ⟨rfl, F6, H6, s6⟩
            obtain ⟨b6, -⟩ := step_all b5 hF.out s6
            clear s6
            go_wp2_with fail
            refine (size_r hsz.out H6 (by omega) (by omega)).mono ?_
            rintro e w7 ⟨rfl, b7⟩
            have H7 := Lib.hid (H6.below b7)
            have b7 := below_all b6 b7
            go_wp2_with fail
            refine (all_r rfl H7.out).mono ?_
            rintro e w8 ⟨A8, c8, rfl, -, -, b8⟩
            have b8 := below_all b7 b8
            rw [hL3.out]
            go_wp2_with fail
            go_ret
            exact ⟨rfl, b8⟩
    · have t0 : decide ((k : Int) < (acts.length : Int)) = true := by rw [decide_eq_true_iff]; omega
      have t1 : decide ((k : Int) < 80) = false := by rw [decide_eq_false_iff_not]; omega
      clear t0
      have I := HS.out.inv
      replace I := Lib.hid I
      have z1 : classOf 1 = 0 := by decide
      have z2 : classOf 2 = 1 := by decide
      have z3 : classOf 3 = 2 := by decide
      have z4 : classOf 4 = 2 := by decide
      have z5 : classOf 5 = 3 := by decide
      have z6 : classOf 6 = 3 := by decide
      obtain ⟨c3, hc3⟩ : ∃ c, sFits S 3 = c := ⟨_, rfl⟩
      have hc4 : sFits S 4 = c3 := by rw [← hc3]; exact fits_same (k := 4) (by omega) (by omega) (by decide)
      obtain ⟨c5, hc5⟩ : ∃ c, sFits S 5 = c := ⟨_, rfl⟩
      have hc6 : sFits S 6 = c5 := by rw [← hc5]; exact fits_same (k := 6) (by omega) (by omega) (by decide)
      have n3 : (c3 != c3) = false := bne_self_eq_false _
      have n5 : (c5 != c5) = false := bne_self_eq_false _
      replace hc3 := Lib.hid hc3
      replace hc4 := Lib.hid hc4
      replace hc5 := Lib.hid hc5
      replace hc6 := Lib.hid hc6
      go_wp2_with fail
      go_loopw [9] (fun i wr => ∃ m : Int, 1 ≤ m ∧ m ≤ 7 ∧ i = .int .i64 m ∧ Hid (HpAt wr h S F) ∧ Below w.heap.size w wr) (fun i _ => (7 - intOf i).toNat)
      case atStart => exact ⟨1, by omega, by omega, rfl, HS, hb⟩
      case round =>
        clear HS hb
        obtain ⟨m, hm1, hm7, rfl, HS, hb⟩ := hrel
        rcases (by omega : m = 1 ∨ m = 2 ∨ m = 3 ∨ m = 5 ∨ m = 4 ∨ m = 6 ∨ m = 7) with rfl | rfl | rfl | rfl | rfl | rfl | rfl
        iterate 4
          · go_wp2_with (go_at_call 28; refine (of_ok _ _).mono ?_; rintro e w' ⟨rfl, rfl⟩)
            go_roundw
            case rel => exact ⟨_, by omega, by omega, rfl, HS, hb⟩
            case measure => simp [intOf]
        · go_wp2_with (go_at_call 28; refine (of_ok _ _).mono ?_; rintro e w' ⟨rfl, rfl⟩)
          refine (fits_r hc4.out HS.out).mono ?_
          rintro e w4 ⟨rfl, b4⟩
          have H4 := Lib.hid (HS.out.below b4)
          have b4 := below_all hb b4
          go_wp2_with fail
          refine (fits_r hc3.out H4.out).mono ?_
          rintro e w5 ⟨rfl, b5⟩
          have H5 := Lib.hid (H4.out.below b5)
          have b5 := below_all b4 b5
          go_wp2_with fail
          go_roundw
          case rel => exact ⟨_, by omega, by omega, rfl, H5, b5⟩
          case measure => simp [intOf]
        · go_wp2_with (go_at_call 28; refine (of_ok _ _).mono ?_; rintro e w' ⟨rfl, rfl⟩)
          refine (fits_r hc6.out HS.out).mono ?_
          rintro e w4 ⟨rfl, b4⟩
          have H4 := Lib.hid (HS.out.below b4)
          have b4 := below_all hb b4
          go_wp2_with fail
          refine (fits_r hc5.out H4.out).mono ?_
          rintro e w5 ⟨rfl, b5⟩
          have H5 := Lib.hid (H4.out.below b5)
          have b5 := below_all b4 b5
          go_wp2_with fail
          go_roundw
          case rel => exact ⟨_, by omega, by omega, rfl, H5, b5⟩
          case measure => simp [intOf]
        · clear z1 z2 z3 z4 z5 z6 n3 n5
          obtain ⟨L, hL⟩ : ∃ L, (sAll S).length = L := ⟨_, rfl⟩
          have hL9 : L ≤ 4096 := by have := I.out.objs_len; rw [← hL, all_len]; exact this
          rcases hf : sFits S ((q : Int) + 1) with _ | _
          · have ea := alloc_none (S := S) (n := (q : Int) + 1) (mask := 0) (junk := x) (by omega) (by omega) (by simp) hf
            replace hf := Lib.hid hf
            replace ea := Lib.hid ea
            replace hL := Lib.hid hL
            have tL : ((L : Int) == (L : Int)) = true := by simp
            go_wp2_with fail
            refine (fits_r hf.out HS.out).mono ?_
            rintro e w4 ⟨rfl, b4⟩
            have H4 := Lib.hid (HS.out.below b4)
            have b4 := below_all hb b4
            go_wp2_with fail
            refine (all_r rfl H4.out).mono ?_
            rintro e w5 ⟨A5, c5', rfl, -, -, b5⟩
            have H5 := Lib.hid (H4.out.below b5)
            have b5 := below_all b4 b5
            rw [hL.out]
            go_wp2_with fail
            refine (alloc_r ea.out H5.out (by omega) (by omega) hj.out).mono ?_
            rintro e w6 ⟨rfl, F6, H6, s6⟩
            obtain ⟨b6, -⟩ := step_all b5 hF.out s6
            clear s6
            go_wp2_with fail
            refine (all_r rfl H6).mono ?_
            rintro e w7 ⟨A7, c7, rfl, -, -, b7⟩
            have b7 := below_all b6 b7
            rw [hL.out]
            go_wp2_with fail
            go_ret
            exact ⟨rfl, b7⟩
          · obtain ⟨S3, p, ea, AL⟩ := alloc_some (mask := 0) (junk := x) I.out (n := (q : Int) + 1) (by omega) (by omega) (by omega) (by omega) (by simp) hj.out hf
            have hp0 := AL.sits.1
            have hp1 := AL.sits.2.1
            have hn9 := AL.inv.n2
            have hp9 : p ≤ 4096 := by omega
            have hL3 : (sAll S3).length = L + 1 := by rw [AL.all_len, hL]
            have hsz : sSize S3 p = ((q : Int) + 1, 0, true) := AL.inv.size AL.mem
            have tq : ((q : Int) + 1 == (q : Int) + 1) = true := by simp
            have tL : ((L : Int) + 1 == (L : Int) + 1) = true := by simp
            replace hf := Lib.hid hf
            replace ea := Lib.hid ea
            replace AL := Lib.hid AL
            replace hsz := Lib.hid hsz
            replace hL := Lib.hid hL
            replace hL3 := Lib.hid hL3
            clear hp1 hn9
            go_wp2_with fail
            refine (fits_r hf.out HS.out).mono ?_
            rintro e w4 ⟨rfl, b4⟩
            have H4 := Lib.hid (HS.out.below b4)
            have b4 := below_all hb b4
            go_wp2_with fail
            refine (all_r rfl H4.out).mono ?_
            rintro e w5 ⟨A5, c5', rfl, -, -, b5⟩
            have H5 := Lib.hid (H4.out.below b5)
            have b5 := below_all b4 b5
            rw [hL.out]
            go_wp2_with fail
            refine (alloc_r ea.out H5.out (by omega) (by omega) hj.out).mono ?_
            rintro e w6 ⟨rfl, F6, H6, s6⟩
            obtain ⟨b6, -⟩ := step_all b5 hF.out s6
            clear s6
            go_wp2_with fail
            refine (size_r hsz.out H6 (by omega) (by omega)).mono ?_
            rintro e w7 ⟨rfl, b7⟩
            have H7 := Lib.hid (H6.below b7)
            have b7 := below_all b6 b7
            go_wp2_with fail
            refine (all_r rfl H7.out).mono ?_
            rintro e w8 ⟨A8, c8, rfl, -, -, b8⟩
            have b8 := below_all b7 b8
            rw [hL3.out]
            go_wp2_with fail
            go_ret
            exact ⟨rfl, b8⟩
end Go.Proofs.YtoodfioecabglaaDoor
