/- HeapJunk: what the walk shows is true for any calls. -/
import Derived.Test.YtoodfioecabglaaDoorHeapLaws
set_option linter.unusedVariables false
set_option linter.unusedSimpArgs false
namespace Go.Proofs.YtoodfioecabglaaDoor
open Go.RowKit Go.Shelf
set_option maxHeartbeats 6400000 in
set_option maxRecDepth 100000 in
theorem hjunk_ok (v : Value) (acts : List HAct) (n junk : Int) (hn0 : 0 ≤ n) (hn1 : n ≤ 255) (hj0 : -9223372036854775808 ≤ junk ∧ junk ≤ 9223372036854775807) (w : World) (hv : RdC 7 hactC w v acts) (hbd : ∀ a ∈ acts, HActOk a) (hT : TabW w) :
    Calls Tryd.prog 6 #[v, .int .u8 n, .int .i64 junk] w fun e w' => e = .returned (.bool true) ∧ Below w.heap.size w w' := by
  replace hT := Lib.hid hT
  have RA := Lib.hid hv
  have HB := Lib.hid hbd
  obtain ⟨A0, cap0, rfl, hlen0, hcap0, -⟩ := hv.len
  clear hv hbd
  obtain ⟨q, hq⟩ : ∃ q : Nat, n % 6 = (q : Int) := ⟨(n % 6).toNat, by omega⟩
  have hq5 : q ≤ 5 := by omega
  have hj := Lib.hid hj0
  clear hj0
  go_enter Tryd.func6, Tryd.ntmps6
  go_wp2_with fail
  refine (halive_ok w hT.out).mono ?_
  rintro e w1 ⟨rfl, b1⟩
  replace hT := Lib.hid (hT.out.below b1)
  go_wp2_with fail
  refine (new_s 12 w1 (by omega) (by omega) hT.out).mono ?_
  rintro e w2 ⟨h, F1, rfl, H1, hF1, b2⟩
  replace hF1 : Hid (∀ j, F1 j → w.heap.size ≤ j) := Lib.hid fun j hj => Nat.le_trans b1.size (hF1 j hj)
  replace H1 := Lib.hid H1
  replace b2 := below_all b1 b2
  clear hT
  go_wp2_with fail
  go_loopw [8] (fun i wr => ∃ (k : Nat) (S : HS) (F : Nat → Prop), k ≤ acts.length ∧ k ≤ 80 ∧ i = .int .i64 k ∧ Hid (S.n = 12) ∧ Hid (HpAt wr h S F) ∧ Hid (∀ j, F j → w.heap.size ≤ j) ∧ Below w.heap.size w wr) (fun i _ => 81 - (intOf i).toNat)
  case atStart => exact ⟨0, _, F1, by omega, by omega, rfl, Lib.hid rfl, H1, hF1, b2⟩
  case round =>
    clear H1 hF1 b2
    obtain ⟨k, S, F, hk, hk80, rfl, hSn, HS, hF, hb⟩ := hrel
    have kz : (0 : Int) ≤ (k : Int) := by omega
    have hways : (k < acts.length ∧ k < 80) ∨ acts.length ≤ k ∨ (k < acts.length ∧ ¬ k < 80) := by omega
    rcases hways with ⟨hlt, hl8⟩ | hend
    · have t0 : decide ((k : Int) < (acts.length : Int)) = true := by rw [decide_eq_true_iff]; omega
      have t1 : decide ((k : Int) < 80) = true := by rw [decide_eq_true_iff]; omega
      have kl : (k : Int) < (acts.length : Int) := by omega
      obtain ⟨b, o, rfl, _, hc⟩ := (RA.out.below hb).at_ hlt
      obtain ⟨a, hak⟩ : ∃ a, a = acts[k] := ⟨_, rfl⟩
      have hok := HB.out a (by rw [hak]; exact List.getElem_mem hlt)
      rw [← hak] at hc
      clear hak
      obtain ⟨kind, an, mask, obj, p, f, x⟩ := a
      have c0 : wr.cell? ⟨b, o + k * 7, none⟩ = some (.int .u8 kind) := hc 0 _ rfl
      have c1 := hc 1 _ rfl
      have c2 := hc 2 _ rfl
      have c3 := hc 3 _ rfl
      have c4 := hc 4 _ rfl
      have c5 := hc 5 _ rfl
      have c6 := hc 6 _ rfl
      replace hok := Lib.hid hok
      clear hc
      go_wp2_with fail
      refine (does_ok h S F kind an mask obj p f x wr HS.out hok.out).mono ?_
      rintro e w3 ⟨rfl, F3, H3, s3⟩
      obtain ⟨b3, hF3⟩ := step_all hb hF.out s3
      replace hF3 := Lib.hid hF3
      have hn3 := Lib.hid ((does_n HS.out.inv ⟨kind, an, mask, obj, p, f, x⟩).trans hSn.out)
      replace H3 := Lib.hid H3
      clear s3 c0 c1 c2 c3 c4 c5 c6
      go_wp2_with fail
      go_roundw
      case rel => exact ⟨k + 1, _, F3, by omega, by omega, by go_num, hn3, H3, hF3, b3⟩
      case measure => simp [intOf]; omega
    rcases hend with hend | ⟨hlt, hend⟩
    · have t0 : decide ((k : Int) < (acts.length : Int)) = false := by rw [decide_eq_false_iff_not]; omega
      clear t0
      have I := HS.out.inv
      rcases hf : sFits S ((q : Int) + 1) with _ | _
      · have ea := alloc_none (S := S) (n := (q : Int) + 1) (mask := 0) (junk := junk) (by omega) (by omega) (by simp) hf
        replace I := Lib.hid I
        replace hf := Lib.hid hf
        replace ea := Lib.hid ea
        go_wp2_with fail
        refine (alloc_r ea.out HS.out (by omega) (by omega) hj.out).mono ?_
        rintro e w3 ⟨rfl, F3, H3, s3⟩
        obtain ⟨b3, hF3⟩ := step_all hb hF.out s3
        replace hF3 := Lib.hid hF3
        clear s3
        go_wp2_with fail
        refine (fits_r hf.out H3).mono ?_
        rintro e w4 ⟨rfl, b4⟩
        have b4 := below_all b3 b4
        go_wp2_with fail
        go_ret
        exact ⟨rfl, b4⟩
      · obtain ⟨S3, p, ea, AL⟩ := alloc_some (mask := 0) (junk := junk) I (n := (q : Int) + 1) (by omega) (by omega) (by omega) (by omega) (by simp) hj.out hf
        have hp0 := AL.sits.1
        have hp1 := AL.sits.2.1
        have hn9 := AL.inv.n2
        have hp9 : p ≤ 4096 := by omega
        replace hf := Lib.hid hf
        replace ea := Lib.hid ea
        replace AL := Lib.hid AL
        replace I := Lib.hid I
        clear hp1 hn9
        go_wp2_with fail
        refine (alloc_r ea.out HS.out (by omega) (by omega) hj.out).mono ?_
        rintro e w3 ⟨rfl, F3, H3, s3⟩
        obtain ⟨b3, hF3⟩ := step_all hb hF.out s3
        replace hF3 := Lib.hid hF3
        replace H3 := Lib.hid H3
        clear s3 HS hF hb hSn
        go_wp2_with fail
        go_loopw [65] (fun i wr => ∃ j : Nat, j ≤ q + 1 ∧ i = .int .i64 j ∧ Hid (HpAt wr h S3 F3) ∧ Below w.heap.size w wr) (fun i _ => q + 1 - (intOf i).toNat)
        case atStart => exact ⟨0, by omega, rfl, H3, b3⟩
        case round =>
          obtain ⟨j, hj1, rfl, H5, b5⟩ := hrel
          by_cases hjl : j < q + 1
          · have t5 : (j : Int) < (q : Int) + 1 := by omega
            have el := Lib.hid (AL.out.load I.out.toInv0 (f := (j : Int)) (by omega) (by omega))
            go_wp2_with fail
            refine (load_r el.out H5.out (by omega) (by omega)).mono ?_
            rintro e w6 ⟨rfl, b6⟩
            have H6 := Lib.hid (H5.out.below b6)
            have b6 := below_all b5 b6
            go_wp2_with fail
            go_roundw
            case rel => exact ⟨j + 1, by omega, by go_num, H6, b6⟩
            case measure => simp [intOf]; omega
          · obtain rfl : j = q + 1 := by omega
            have t5 : decide ((((q + 1 : Nat)) : Int) < (q : Int) + 1) = false := by rw [decide_eq_false_iff_not]; omega
            have et := Lib.hid (AL.out.inv.there_in AL.out.mem (f := 0) (by omega) (show (0 : Int) < (q : Int) + 1 by omega))
            go_wp2_with fail
            refine (clear_r et.out H5.out (by omega) (by omega)).mono ?_
            rintro e w6 ⟨rfl, H6, s6⟩
            obtain ⟨b6, -⟩ := step_all b5 hF3.out s6
            replace H6 := Lib.hid H6
            clear s6 H5
            go_wp2_with fail
            go_loopw [88] (fun i wr => ∃ j : Nat, j ≤ q + 1 ∧ i = .int .i64 j ∧ Hid (HpAt wr h (sClear S3 p) F3) ∧ Below w.heap.size w wr) (fun i _ => q + 1 - (intOf i).toNat)
            case atStart => exact ⟨0, by omega, rfl, H6, b6⟩
            case round =>
              obtain ⟨j, hj1, rfl, H7, b7⟩ := hrel
              by_cases hjl : j < q + 1
              · have t5 : (j : Int) < (q : Int) + 1 := by omega
                have el := Lib.hid (clear_load AL.out.inv AL.out.mem (f := (j : Int)) (by omega) (show (j : Int) < (q : Int) + 1 by omega))
                go_wp2_with fail
                refine (load_r el.out H7.out (by omega) (by omega)).mono ?_
                rintro e w8 ⟨rfl, b8⟩
                have H8 := Lib.hid (H7.out.below b8)
                have b8 := below_all b7 b8
                go_wp2_with fail
                go_roundw
                case rel => exact ⟨j + 1, by omega, by go_num, H8, b8⟩
                case measure => simp [intOf]; omega
              · obtain rfl : j = q + 1 := by omega
                have t5 : decide ((((q + 1 : Nat)) : Int) < (q : Int) + 1) = false := by rw [decide_eq_false_iff_not]; omega
                have hmem : (p, (q : Int) + 1, (0 : Int)) ∈ (sClear S3 p).objs := by rw [clear_objs]; exact AL.out.mem
                have e1 := Lib.hid (H7.out.inv.load_out hmem (f := (q : Int) + 1) (.inr (Int.le_refl _)))
                have e2 := Lib.hid (H7.out.inv.load_out hmem (f := -1) (.inl (by omega)))
                clear hmem
                go_wp2_with fail
                refine (load_r e1.out H7.out (by omega) (by omega)).mono ?_
                rintro e w8 ⟨rfl, b8⟩
                have H8 := Lib.hid (H7.out.below b8)
                have b8 := below_all b7 b8
                go_wp2_with fail
                refine (load_r e2.out H8.out (by omega) (by omega)).mono ?_
                rintro e w9 ⟨rfl, b9⟩
                have b9 := below_all b8 b9
                go_wp2_with fail
                go_ret
                exact ⟨rfl, b9⟩
    · have t0 : decide ((k : Int) < (acts.length : Int)) = true := by rw [decide_eq_true_iff]; omega
      have t1 : decide ((k : Int) < 80) = false := by rw [decide_eq_false_iff_not]; omega
      clear t0
      have I := HS.out.inv
      rcases hf : sFits S ((q : Int) + 1) with _ | _
      · have ea := alloc_none (S := S) (n := (q : Int) + 1) (mask := 0) (junk := junk) (by omega) (by omega) (by simp) hf
        replace I := Lib.hid I
        replace hf := Lib.hid hf
        replace ea := Lib.hid ea
        go_wp2_with fail
        refine (alloc_r ea.out HS.out (by omega) (by omega) hj.out).mono ?_
        rintro e w3 ⟨rfl, F3, H3, s3⟩
        obtain ⟨b3, hF3⟩ := step_all hb hF.out s3
        replace hF3 := Lib.hid hF3
        clear s3
        go_wp2_with fail
        refine (fits_r hf.out H3).mono ?_
        rintro e w4 ⟨rfl, b4⟩
        have b4 := below_all b3 b4
        go_wp2_with fail
        go_ret
        exact ⟨rfl, b4⟩
      · obtain ⟨S3, p, ea, AL⟩ := alloc_some (mask := 0) (junk := junk) I (n := (q : Int) + 1) (by omega) (by omega) (by omega) (by omega) (by simp) hj.out hf
        have hp0 := AL.sits.1
        have hp1 := AL.sits.2.1
        have hn9 := AL.inv.n2
        have hp9 : p ≤ 4096 := by omega
        replace hf := Lib.hid hf
        replace ea := Lib.hid ea
        replace AL := Lib.hid AL
        replace I := Lib.hid I
        clear hp1 hn9
        go_wp2_with fail
        refine (alloc_r ea.out HS.out (by omega) (by omega) hj.out).mono ?_
        rintro e w3 ⟨rfl, F3, H3, s3⟩
        obtain ⟨b3, hF3⟩ := step_all hb hF.out s3
        replace hF3 := Lib.hid hF3
        replace H3 := Lib.hid H3
        clear s3 HS hF hb hSn
        go_wp2_with fail
        go_loopw [65] (fun i wr => ∃ j : Nat, j ≤ q + 1 ∧ i = .int .i64 j ∧ Hid (HpAt wr h S3 F3) ∧ Below w.heap.size w wr) (fun i _ => q + 1 - (intOf i).toNat)
        case atStart => exact ⟨0, by omega, rfl, H3, b3⟩
        case round =>
          obtain ⟨j, hj1, rfl, H5, b5⟩ := hrel
          by_cases hjl : j < q + 1
          · have t5 : (j : Int) < (q : Int) + 1 := by omega
            have el := Lib.hid (AL.out.load I.out.toInv0 (f := (j : Int)) (by omega) (by omega))
            go_wp2_with fail
            refine (load_r el.out H5.out (by omega) (by omega)).mono ?_
            rintro e w6 ⟨rfl, b6⟩
            have H6 := Lib.hid (H5.out.below b6)
            have b6 := below_all b5 b6
            go_wp2_with fail
            go_roundw
            case rel => exact ⟨j + 1, by omega, by go_num, H6, b6⟩
            case measure => simp [intOf]; omega
          · obtain rfl : j = q + 1 := by omega
            have t5 : decide ((((q + 1 : Nat)) : Int) < (q : Int) + 1) = false := by rw [decide_eq_false_iff_not]; omega
            have et := Lib.hid (AL.out.inv.there_in AL.out.mem (f := 0) (by omega) (show (0 : Int) < (q : Int) + 1 by omega))
            go_wp2_with fail
            refine (clear_r et.out H5.out (by omega) (by omega)).mono ?_
            rintro e w6 ⟨rfl, H6, s6⟩
            obtain ⟨b6, -⟩ := step_all b5 hF3.out s6
            replace H6 := Lib.hid H6
            clear s6 H5
            go_wp2_with fail
            go_loopw [88] (fun i wr => ∃ j : Nat, j ≤ q + 1 ∧ i = .int .i64 j ∧ Hid (HpAt wr h (sClear S3 p) F3) ∧ Below w.heap.size w wr) (fun i _ => q + 1 - (intOf i).toNat)
            case atStart => exact ⟨0, by omega, rfl, H6, b6⟩
            case round =>
              obtain ⟨j, hj1, rfl, H7, b7⟩ := hrel
              by_cases hjl : j < q + 1
              · have t5 : (j : Int) < (q : Int) + 1 := by omega
                have el := Lib.hid (clear_load AL.out.inv AL.out.mem (f := (j : Int)) (by omega) (show (j : Int) < (q : Int) + 1 by omega))
                go_wp2_with fail
                refine (load_r el.out H7.out (by omega) (by omega)).mono ?_
                rintro e w8 ⟨rfl, b8⟩
                have H8 := Lib.hid (H7.out.below b8)
                have b8 := below_all b7 b8
                go_wp2_with fail
                go_roundw
                case rel => exact ⟨j + 1, by omega, by go_num, H8, b8⟩
                case measure => simp [intOf]; omega
              · obtain rfl : j = q + 1 := by omega
                have t5 : decide ((((q + 1 : Nat)) : Int) < (q : Int) + 1) = false := by rw [decide_eq_false_iff_not]; omega
                have hmem : (p, (q : Int) + 1, (0 : Int)) ∈ (sClear S3 p).objs := by rw [clear_objs]; exact AL.out.mem
                have e1 := Lib.hid (H7.out.inv.load_out hmem (f := (q : Int) + 1) (.inr (Int.le_refl _)))
                have e2 := Lib.hid (H7.out.inv.load_out hmem (f := -1) (.inl (by omega)))
                clear hmem
                go_wp2_with fail
                refine (load_r e1.out H7.out (by omega) (by omega)).mono ?_
                rintro e w8 ⟨rfl, b8⟩
                have H8 := Lib.hid (H7.out.below b8)
                have b8 := below_all b7 b8
                go_wp2_with fail
                refine (load_r e2.out H8.out (by omega) (by omega)).mono ?_
                rintro e w9 ⟨rfl, b9⟩
                have b9 := below_all b8 b9
                go_wp2_with fail
                go_ret
                exact ⟨rfl, b9⟩
end Go.Proofs.YtoodfioecabglaaDoor
