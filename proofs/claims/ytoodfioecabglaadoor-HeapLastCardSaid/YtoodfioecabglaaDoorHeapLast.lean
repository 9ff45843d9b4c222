/- HeapLast: what the walk shows is true for any calls. -/
import Derived.Test.YtoodfioecabglaaDoorHeapLaws
set_option linter.unusedVariables false
set_option linter.unusedSimpArgs false
namespace Go.Proofs.YtoodfioecabglaaDoor
open Go.RowKit Go.Shelf
set_option maxHeartbeats 6400000 in
set_option maxRecDepth 100000 in
theorem hlast_ok (v : Value) (acts : List HAct) (at0 : Int) (ha0 : 0 ≤ at0) (ha1 : at0 ≤ 255) (w : World) (hv : RdC 7 hactC w v acts) (hbd : ∀ a ∈ acts, HActOk a) (hT : TabW w) :
    Calls Tryd.prog 8 #[v, .int .u8 at0] w fun e w' => e = .returned (.bool true) ∧ Below w.heap.size w w' := by
  replace hT := Lib.hid hT
  have RA := Lib.hid hv
  have HB := Lib.hid hbd
  obtain ⟨A0, cap0, rfl, hlen0, hcap0, -⟩ := hv.len
  clear hv hbd
  go_enter Tryd.func8, Tryd.ntmps8
  go_wp2_with fail
  refine (halive_ok w hT.out).mono ?_
  rintro e w1 ⟨rfl, b1⟩
  replace hT := Lib.hid (hT.out.below b1)
  go_wp2_with fail
  refine (new_s 6 w1 (by omega) (by omega) hT.out).mono ?_
  rintro e w2 ⟨h, F1, rfl, H1, hF1, b2⟩
  replace hF1 : Hid (∀ j, F1 j → w.heap.size ≤ j) := Lib.hid fun j hj => Nat.le_trans b1.size (hF1 j hj)
  replace H1 := Lib.hid H1
  replace b2 := below_all b1 b2
  clear hT
  go_wp2_with fail
  go_loopw [6] (fun i wr => ∃ (k : Nat) (S : HS) (F : Nat → Prop), k ≤ acts.length ∧ k ≤ 80 ∧ i = .int .i64 k ∧ Hid (S.n = 6) ∧ Hid (HpAt wr h S F) ∧ Hid (∀ j, F j → w.heap.size ≤ j) ∧ Below w.heap.size w wr) (fun i _ => 81 - (intOf i).toNat)
  case atStart => exact ⟨0, _, F1, by omega, by omega, rfl, Lib.hid rfl, H1, hF1, b2⟩
  case round =>
    clear H1 hF1 b2
    obtain ⟨k, S, F, hk, hk80, rfl, hSn, HS, hF, hb⟩ := hrel
    have kz : (0 : Int) ≤ (k : Int) := by omega
    have hways : (k < acts.length ∧ k < 80) ∨ acts.length ≤ k ∨ (k < acts.length ∧ ¬ k < 80) := by omega
    rcases hways with ⟨hlt, hl8⟩ | hend
    · have t0 : decide ((k : Int) < (acts.length : Int)) = true := by rw [decide_eq_true_iff]; omega
      have t1 : decide ((k : Int) < 80) = true := by rw [decide_eq_true_iff]; omega
      have kl : (k : Int) < (acts.length : Int) := by omega
      obtain ⟨b, o, rfl, _, hc⟩ := (RA.out.below hb).at_ hlt
      obtain ⟨a, hak⟩ : ∃ a, a = acts[k] := ⟨_, rfl⟩
      have hok := HB.out a (by rw [hak]; exact List.getElem_mem hlt)
      rw [← hak] at hc
      clear hak
      obtain ⟨kind, an, mask, obj, p, f, x⟩ := a
      have c0 : wr.cell? ⟨b, o + k * 7, none⟩ = some (.int .u8 kind) := hc 0 _ rfl
      have c1 := hc 1 _ rfl
      have c2 := hc 2 _ rfl
      have c3 := hc 3 _ rfl
      have c4 := hc 4 _ rfl
      have c5 := hc 5 _ rfl
      have c6 := hc 6 _ rfl
      replace hok := Lib.hid hok
      clear hc
      go_wp2_with fail
      refine (does_ok h S F kind an mask obj p f x wr HS.out hok.out).mono ?_
      rintro e w3 ⟨rfl, F3, H3, s3⟩
      obtain ⟨b3, hF3⟩ := step_all hb hF.out s3
      replace hF3 := Lib.hid hF3
      have hn3 := Lib.hid ((does_n HS.out.inv ⟨kind, an, mask, obj, p, f, x⟩).trans hSn.out)
      replace H3 := Lib.hid H3
      clear s3 c0 c1 c2 c3 c4 c5 c6
      go_wp2_with fail
      go_roundw
      case rel => exact ⟨k + 1, _, F3, by omega, by omega, by go_num, hn3, H3, hF3, b3⟩
      case measure => simp [intOf]; omega
    rcases hend with hend | ⟨hlt, hend⟩
    · have t0 : decide ((k : Int) < (acts.length : Int)) = false := by rw [decide_eq_false_iff_not]; omega
      clear t0
      have I := HS.out.inv
      obtain ⟨L, hL⟩ : ∃ L, (sAll S).length = L := ⟨_, rfl⟩
      have hLo : S.objs.length = L := by rw [← hL, all_len]
      have hL9 : L ≤ 4096 := by have := I.objs_len; omega
      replace I := Lib.hid I
      go_wp2_with fail
      refine (all_r rfl HS.out).mono ?_
      rintro e w4 ⟨A4, c4, rfl, R4, -, b4⟩
      have H4 := Lib.hid (HS.out.below b4)
      have b4 := below_all hb b4
      clear HS hb
      replace R4 := Lib.hid R4
      rw [hL]
      by_cases hz : L = 0
      · subst hz
        go_wp2_with fail
        go_ret
        exact ⟨rfl, b4⟩
      · have hpos : 0 < L := by omega
        have hrL : at0.toNat % L < L := Nat.mod_lt _ hpos
        obtain ⟨r, hr0⟩ : ∃ r, r = at0.toNat % L := ⟨_, rfl⟩
        rw [← hr0] at hrL
        have e0 : at0 % (L : Int) = (r : Int) := by rw [hr0, Int.natCast_emod, Int.toNat_of_nonneg ha0]
        have rL : (r : Int) < (L : Int) := by omega
        have hlp : (0 : Int) < (L : Int) := by omega
        have tz : ((L : Int) == 0) = false := by rw [beq_eq_false_iff_ne]; omega
        obtain ⟨o, ho, eo⟩ := all_mem (S := S) (i := r) (by omega)
        obtain ⟨a1, a2, a3, a4, a5⟩ := I.out.ob o ho
        have hp0 := a5.1
        have hp1 := a5.2.1
        have hn9 := I.out.n2
        have hp9 : o.1 ≤ 4096 := by omega
        have hsz : sSize S o.1 = (o.2.1, o.2.2, true) := I.out.size ho
        have hfr := (free_ok I.out.toInv0 ho 1).1
        obtain ⟨ptr, hptr⟩ : ∃ p, p = o.1 := ⟨_, rfl⟩
        obtain ⟨sz, hsz2⟩ : ∃ n, n = o.2.1 := ⟨_, rfl⟩
        obtain ⟨mk, hmk2⟩ : ∃ n, n = o.2.2 := ⟨_, rfl⟩
        have hll := last_first I.out ho
        have hlr : r < (sAll S).length := by omega
        have hg : (sAll S)[r] = ptr := by rw [hptr, eo]; simp [List.getD, List.getElem?_eq_getElem hlr]
        obtain ⟨b, of, rfl, _, hc⟩ := R4.out.at_ hlr
        rw [hg] at hc
        replace hc : w4.cell? ⟨b, of + r, none⟩ = some (.int .i64 ptr) := hc
        rw [← hptr] at hsz hfr hp0 hp9 hll
        rw [← hsz2] at hsz hll a1 a2
        rw [← hmk2] at hsz
        obtain ⟨s, hs⟩ : ∃ s, spanOf ptr = s := ⟨_, rfl⟩
        rw [hs] at hll
        have HI := Lib.hid (fun wx => show Calls Tryd.prog 31 #[.int .i64 ptr] wx fun e w' => e = .returned (.int .i64 s) ∧ wx = w' by rw [← hs]; exact in_ok _ wx (by omega))
        replace hsz := Lib.hid hsz
        replace hfr := Lib.hid hfr
        replace hll := Lib.hid hll
        replace hL := Lib.hid hL
        replace hLo := Lib.hid hLo
        clear hr0 eo hptr hsz2 hmk2 hg hs hp1 hn9 a3 a4 a5 ho hlr
        go_wp2_with fail
        refine (size_r hsz.out H4.out (by omega) (by omega)).mono ?_
        rintro e w5 ⟨rfl, b5⟩
        have H5 := Lib.hid (H4.out.below b5)
        have R5 := Lib.hid (R4.out.below b5)
        have b5 := below_all b4 b5
        clear H4 R4 b4 hc
        go_wp2_with fail
        go_loop [12, 60] (fun c i => ∃ (j n : Nat), j ≤ L ∧ n ≤ j ∧ i = .int .i64 j ∧ c = .int .i64 n ∧ Hid (n = (((sAll S).take j).filter fun p => spanOf p == s).length)) (fun _ i => L - (intOf i).toNat)
        case atStart => exact ⟨0, 0, by omega, by omega, rfl, rfl, Lib.hid rfl⟩
        case round =>
          obtain ⟨j, n, hj, hnj, rfl, rfl, hn⟩ := hrel
          by_cases hjl : j < L
          · have t5 : (j : Int) < (L : Int) := by omega
            have hjs : j < (sAll S).length := by rw [hL.out]; exact hjl
            obtain ⟨b', of', e', _, hc⟩ := R5.out.at_ hjs
            cases e'
            have hts := take_snoc (sAll S) hjs
            have hx9 : (sAll S)[j] ≤ 4096 := by
              have := (all_bd I.out.toInv0 (i := j) (by rw [hLo.out]; exact hjl)).2
              simpa [List.getD, List.getElem?_eq_getElem hjs] using this
            obtain ⟨x, hx⟩ : ∃ x, x = (sAll S)[j] := ⟨_, rfl⟩
            rw [← hx] at hc hts hx9
            replace hc : w5.cell? ⟨b, of + j, none⟩ = some (.int .i64 x) := hc
            clear hx
            replace hts := Lib.hid hts
            by_cases hsx : spanOf x = s
            · have HX := Lib.hid (fun wx => show Calls Tryd.prog 31 #[.int .i64 x] wx fun e w' => e = .returned (.int .i64 s) ∧ wx = w' by rw [← hsx]; exact in_ok _ wx (by omega))
              replace hsx := Lib.hid hsx
              have ts : (s == s) = true := by simp
              go_wp2_with fail
              refine (HX.out _).mono ?_
              rintro e w' ⟨rfl, rfl⟩
              go_wp2_with fail
              refine (HI.out _).mono ?_
              rintro e w' ⟨rfl, rfl⟩
              go_wp2_with fail
              go_round
              case rel => exact ⟨j + 1, n + 1, by omega, by omega, by go_num, by go_num, Lib.hid (by rw [hts.out, List.filter_append, List.length_append, ← hn.out, List.filter_cons_of_pos (by simp [hsx.out])]; rfl)⟩
              case measure => simp [intOf]; omega
            · obtain ⟨sx, hsx2⟩ : ∃ sx, spanOf x = sx := ⟨_, rfl⟩
              have HX := Lib.hid (fun wx => show Calls Tryd.prog 31 #[.int .i64 x] wx fun e w' => e = .returned (.int .i64 sx) ∧ wx = w' by rw [← hsx2]; exact in_ok _ wx (by omega))
              have ts : (sx == s) = false := by rw [beq_eq_false_iff_ne, ← hsx2]; exact hsx
              replace hsx := Lib.hid hsx
              replace hsx2 := Lib.hid hsx2
              go_wp2_with fail
              refine (HX.out _).mono ?_
              rintro e w' ⟨rfl, rfl⟩
              go_wp2_with fail
              refine (HI.out _).mono ?_
              rintro e w' ⟨rfl, rfl⟩
              go_wp2_with fail
              go_round
              case rel => exact ⟨j + 1, n, by omega, by omega, by go_num, rfl, Lib.hid (by rw [hts.out, List.filter_append, List.length_append, ← hn.out, List.filter_cons_of_neg (by simp [hsx.out])]; rfl)⟩
              case measure => simp [intOf]; omega
          · obtain rfl : j = L := by omega
            have t5 : decide ((j : Int) < (j : Int)) = false := by rw [decide_eq_false_iff_not]; omega
            have hcn : n = inSpan S s := by
              rw [hn.out]
              unfold inSpan
              rw [List.take_of_length_le (by rw [hL.out]; exact Nat.le_refl _)]
            replace hcn := Lib.hid hcn
            clear hn
            go_wp2_with fail
            refine (free_r (S' := (sFree S ptr 1).1) (er := 0) (Prod.ext rfl hfr.out) H5.out (by omega) (by omega) (by omega)).mono ?_
            rintro e w6 ⟨rfl, F6, H6, s6⟩
            obtain ⟨b6, hF6⟩ := step_all b5 hF.out s6
            replace hF6 := Lib.hid hF6
            clear s6
            by_cases h2 : n < 2
            · have t6 : (n : Int) < 2 := by omega
              go_wp2_with fail
              go_ret
              exact ⟨rfl, b6⟩
            · have t6 : ¬ (n : Int) < 2 := by omega
              obtain ⟨q1, q2⟩ := hll.out (by have := hcn.out; omega)
              rw [hL.out] at q2
              have tp : (ptr == ptr) = true := by simp
              have tL : ((j : Int) == (j : Int)) = true := by simp
              replace q1 := Lib.hid q1
              replace q2 := Lib.hid q2
              go_wp2_with fail
              refine (alloc_r (S' := (sAlloc (sFree S ptr 1).1 sz 0 2).1) (p := ptr) (er := 0) (Prod.ext rfl q1.out) H6 (by omega) (by omega) (by omega)).mono ?_
              rintro e w7 ⟨rfl, F7, H7, s7⟩
              obtain ⟨b7, -⟩ := step_all b6 hF6.out s7
              clear s7
              go_wp2_with fail
              refine (all_r rfl H7).mono ?_
              rintro e w8 ⟨A8, c8, rfl, -, -, b8⟩
              have b8 := below_all b7 b8
              rw [q2.out]
              go_wp2_with fail
              go_ret
              exact ⟨rfl, b8⟩
    · have t0 : decide ((k : Int) < (acts.length : Int)) = true := by rw [decide_eq_true_iff]; omega
      have t1 : decide ((k : Int) < 80) = false := by rw [decide_eq_false_iff_not]; omega
      clear t0
      have I := HS.out.inv
      obtain ⟨L, hL⟩ : ∃ L, (sAll S).length = L := ⟨_, rfl⟩
      have hLo : S.objs.length = L := by rw [← hL, all_len]
      have hL9 : L ≤ 4096 := by have := I.objs_len; omega
      replace I := Lib.hid I
      go_wp2_with fail
      refine (all_r rfl HS.out).mono ?_
      rintro e w4 ⟨A4, c4, rfl, R4, -, b4⟩
      have H4 := Lib.hid (HS.out.below b4)
      have b4 := below_all hb b4
      clear HS hb
      replace R4 := Lib.hid R4
      rw [hL]
      by_cases hz : L = 0
      · subst hz
        go_wp2_with fail
        go_ret
        exact ⟨rfl, b4⟩
      · have hpos : 0 < L := by omega
        have hrL : at0.toNat % L < L := Nat.mod_lt _ hpos
        obtain ⟨r, hr0⟩ : ∃ r, r = at0.toNat % L := ⟨_, rfl⟩
        rw [← hr0] at hrL
        have e0 : at0 % (L : Int) = (r : Int) := by rw [hr0, Int.natCast_emod, Int.toNat_of_nonneg ha0]
        have rL : (r : Int) < (L : Int) := by omega
        have hlp : (0 : Int) < (L : Int) := by omega
        have tz : ((L : Int) == 0) = false := by rw [beq_eq_false_iff_ne]; omega
        obtain ⟨o, ho, eo⟩ := all_mem (S := S) (i := r) (by omega)
        obtain ⟨a1, a2, a3, a4, a5⟩ := I.out.ob o ho
        have hp0 := a5.1
        have hp1 := a5.2.1
        have hn9 := I.out.n2
        have hp9 : o.1 ≤ 4096 := by omega
        have hsz : sSize S o.1 = (o.2.1, o.2.2, true) := I.out.size ho
        have hfr := (free_ok I.out.toInv0 ho 1).1
        obtain ⟨ptr, hptr⟩ : ∃ p, p = o.1 := ⟨_, rfl⟩
        obtain ⟨sz, hsz2⟩ : ∃ n, n = o.2.1 := ⟨_, rfl⟩
        obtain ⟨mk, hmk2⟩ : ∃ n, n = o.2.2 := ⟨_, rfl⟩
        have hll := last_first I.out ho
        have hlr : r < (sAll S).length := by omega
        have hg : (sAll S)[r] = ptr := by rw [hptr, eo]; simp [List.getD, List.getElem?_eq_getElem hlr]
        obtain ⟨b, of, rfl, _, hc⟩ := R4.out.at_ hlr
        rw [hg] at hc
        replace hc : w4.cell? ⟨b, of + r, none⟩ = some (.int .i64 ptr) := hc
        rw [← hptr] at hsz hfr hp0 hp9 hll
        rw [← hsz2] at hsz hll a1 a2
        rw [← hmk2] at hsz
        obtain ⟨s, hs⟩ : ∃ s, spanOf ptr = s := ⟨_, rfl⟩
        rw [hs] at hll
        have HI := Lib.hid (fun wx => show Calls Tryd.prog 31 #[.int .i64 ptr] wx fun e w' => e = .returned (.int .i64 s) ∧ wx = w' by rw [← hs]; exact in_ok _ wx (by omega))
        replace hsz := Lib.hid hsz
        replace hfr := Lib.hid hfr
        replace hll := Lib.hid hll
        replace hL := Lib.hid hL
        replace hLo := Lib.hid hLo
        clear hr0 eo hptr hsz2 hmk2 hg hs hp1 hn9 a3 a4 a5 ho hlr
        go_wp2_with fail
        refine (size_r hsz.out H4.out (by omega) (by omega)).mono ?_
        rintro e w5 ⟨rfl, b5⟩
        have H5 := Lib.hid (H4.out.below b5)
        have R5 := Lib.hid (R4.out.below b5)
        have b5 := below_all b4 b5
        clear H4 R4 b4 hc
        go_wp2_with fail
        go_loop [12, 60] (fun c i => ∃ (j n : Nat), j ≤ L ∧ n ≤ j ∧ i = .int .i64 j ∧ c = .int .i64 n ∧ Hid (n = (((sAll S).take j).filter fun p => spanOf p == s).length)) (fun _ i => L - (intOf i).toNat)
        case atStart => exact ⟨0, 0, by omega, by omega, rfl, rfl, Lib.hid rfl⟩
        case round =>
          obtain ⟨j, n, hj, hnj, rfl, rfl, hn⟩ := hrel
          by_cases hjl : j < L
          · have t5 : (j : Int) < (L : Int) := by omega
            have hjs : j < (sAll S).length := by rw [hL.out]; exact hjl
            obtain ⟨b', of', e', _, hc⟩ := R5.out.at_ hjs
            cases e'
            have hts := take_snoc (sAll S) hjs
            have hx9 : (sAll S)[j] ≤ 4096 := by
              have := (all_bd I.out.toInv0 (i := j) (by rw [hLo.out]; exact hjl)).2
              simpa [List.getD, List.getElem?_eq_getElem hjs] using this
            obtain ⟨x, hx⟩ : ∃ x, x = (sAll S)[j] := ⟨_, rfl⟩
            rw [← hx] at hc hts hx9
            replace hc : w5.cell? ⟨b, of + j, none⟩ = some (.int .i64 x) := hc
            clear hx
            replace hts := Lib.hid hts
            by_cases hsx : spanOf x = s
            · have HX := Lib.hid (fun wx => show Calls Tryd.prog 31 #[.int .i64 x] wx fun e w' => e = .returned (.int .i64 s) ∧ wx = w' by rw [← hsx]; exact in_ok _ wx (by omega))
              replace hsx := Lib.hid hsx
              have ts : (s == s) = true := by simp
              go_wp2_with fail
              refine (HX.out _).mono ?_
              rintro e w' ⟨rfl, rfl⟩
              go_wp2_with fail
              refine (HI.out _).mono ?_
              rintro e w' ⟨rfl, rfl⟩
              go_wp2_with fail
              go_round
              case rel => exact ⟨j + 1, n + 1, by omega, by omega, by go_num, by go_num, Lib.hid (by rw [hts.out, List.filter_append, List.length_append, ← hn.out, List.filter_cons_of_pos (by simp [hsx.out])]; rfl)⟩
              case measure => simp [intOf]; omega
            · obtain ⟨sx, hsx2⟩ : ∃ sx, spanOf x = sx := ⟨_, rfl⟩
              have HX := Lib.hid (fun wx => show Calls Tryd.prog 31 #[.int .i64 x] wx fun e w' => e = .returned (.int .i64 sx) ∧ wx = w' by rw [← hsx2]; exact in_ok _ wx (by omega))
              have ts : (sx == s) = false := by rw [beq_eq_false_iff_ne, ← hsx2]; exact hsx
              replace hsx := Lib.hid hsx
              replace hsx2 := Lib.hid hsx2
              go_wp2_with fail
              refine (HX.out _).mono ?_
              rintro e w' ⟨rfl, rfl⟩
              go_wp2_with fail
              refine (HI.out _).mono ?_
              rintro e w' ⟨rfl, rfl⟩
              go_wp2_with fail
              go_round
              case rel => exact ⟨j + 1, n, by omega, by omega, by go_num, rfl, Lib.hid (by rw [hts.out, List.filter_append, List.length_append, ← hn.out, List.filter_cons_of_neg (by simp [hsx.out])]; rfl)⟩
              case measure => simp [intOf]; omega
          · obtain rfl : j = L := by omega
            have t5 : decide ((j : Int) < (j : Int)) = false := by rw [decide_eq_false_iff_not]; omega
            have hcn : n = inSpan S s := by
              rw [hn.out]
              unfold inSpan
              rw [List.take_of_length_le (by rw [hL.out]; exact Nat.le_refl _)]
            replace hcn := Lib.hid hcn
            clear hn
            go_wp2_with fail
            refine (free_r (S' := (sFree S ptr 1).1) (er := 0) (Prod.ext rfl hfr.out) H5.out (by omega) (by omega) (by omega)).mono ?_
            rintro e w6 ⟨rfl, F6, H6, s6⟩
            obtain ⟨b6, hF6⟩ := step_all b5 hF.out s6
            replace hF6 := Lib.hid hF6
            clear s6
            by_cases h2 : n < 2
            · have t6 : (n : Int) < 2 := by omega
              go_wp2_with fail
              go_ret
              exact ⟨rfl, b6⟩
            · have t6 : ¬ (n : Int) < 2 := by omega
              obtain ⟨q1, q2⟩ := hll.out (by have := hcn.out; omega)
              rw [hL.out] at q2
              have tp : (ptr == ptr) = true := by simp
              have tL : ((j : Int) == (j : Int)) = true := by simp
              replace q1 := Lib.hid q1
              replace q2 := Lib.hid q2
              go_wp2_with fail
              refine (alloc_r (S' := (sAlloc (sFree S ptr 1).1 sz 0 2).1) (p := ptr) (er := 0) (Prod.ext rfl q1.out) H6 (by omega) (by omega) (by omega)).mono ?_
              rintro e w7 ⟨rfl, F7, H7, s7⟩
              obtain ⟨b7, -⟩ := step_all b6 hF6.out s7
              clear s7
              go_wp2_with fail
              refine (all_r rfl H7).mono ?_
              rintro e w8 ⟨A8, c8, rfl, -, -, b8⟩
              have b8 := below_all b7 b8
              rw [q2.out]
              go_wp2_with fail
              go_ret
              exact ⟨rfl, b8⟩
end Go.Proofs.YtoodfioecabglaaDoor
