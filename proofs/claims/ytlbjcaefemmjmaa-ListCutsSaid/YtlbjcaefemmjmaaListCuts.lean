/- ListCuts: what the walk shows is true for any calls and any span. -/
import Derived.Test.YtlbjcaefemmjmaaListCounts
set_option linter.unusedVariables false
set_option linter.unusedSimpArgs false
namespace Go.Proofs.Ytlbjcaefemmjmaa
open Go.RowKit

theorem keep_at (s : Int) (xs : List Int) {m : Nat} (h : m < xs.length) (hne : ¬ spanOf xs[m] = s) :
    ∃ h' : (keepS s (xs.take m)).length < (keepS s xs).length, (keepS s xs)[(keepS s (xs.take m)).length]'h' = xs[m] := by
  have e : keepS s xs = keepS s (xs.take m) ++ (xs[m] :: keepS s (xs.drop (m + 1))) := by
    have hx : xs = xs.take m ++ (xs[m] :: xs.drop (m + 1)) := by rw [← List.drop_eq_getElem_cons h, List.take_append_drop]
    conv => lhs; rw [hx]
    unfold keepS
    rw [List.filter_append, List.filter_cons_of_pos (by simpa using hne)]
  have hl : (keepS s (xs.take m)).length < (keepS s xs).length := by rw [e]; simp
  refine ⟨hl, ?_⟩
  simp only [e]
  simp
theorem gone_twice (L : Nat → List Int) (s : Int) : goneTo (cutL L s) s 4 = 0 := by
  have : ∀ xs : List Int, goneS s (keepS s xs) = 0 := fun xs => by
    unfold goneS keepS
    rw [List.filter_filter]
    simp
  simp [goneTo, cutL, this]

set_option maxHeartbeats 3200000 in
set_option maxRecDepth 100000 in
theorem cuts_ok (v : Value) (acts : List (Int × Int × Int)) (sp : Int) (w : World) (hv : RdA w v acts) (hbd : ∀ x ∈ acts, (0 ≤ x.1 ∧ x.1 ≤ 255) ∧ (-9223372036854775808 ≤ x.2.1 ∧ x.2.1 ≤ 9223372036854775807) ∧ (-9223372036854775808 ≤ x.2.2 ∧ x.2.2 ≤ 9223372036854775807))
    (hsp : 0 ≤ sp ∧ sp ≤ 255) :
    Calls Try.prog 12 #[v, .int .u8 sp] w fun e w' => e = .returned (.bool true) ∧ Below w.heap.size w w' := by
  have SZ := Lib.hid lists_size
  have AZ := Lib.hid act_size
  have HA := Lib.hid hv
  have HB := Lib.hid hbd
  obtain ⟨A, cp, rfl⟩ := hv.len
  clear hv hbd
  go_enter Try.func12, Try.ntmps12
  go_wp2_with fail
  refine (alive_ok _).mono ?_
  rintro e w1 ⟨rfl, hb1⟩
  by_cases hmost : acts.length ≤ 100
  rotate_left
  · have hmb : decide ((100 : Int) < (acts.length : Int)) = true := by rw [decide_eq_true_iff]; omega
    go_wp2_with (refine wpList_new rfl (.alloc 38) rfl w1.heap.size rfl 38 nil4 (by kernel_rfl) ?_; intro w2 hs2 hb2 hV2)
    go_ret
    exact ⟨rfl, hb1.trans (hb2.mono hb1.size)⟩
  have hmb : decide ((100 : Int) < (acts.length : Int)) = false := by rw [decide_eq_false_iff_not]; omega
  go_wp2_with (refine wpList_new rfl (.alloc 38) rfl w1.heap.size rfl 38 nil4 (by kernel_rfl) ?_; intro w2 hs2 hb2 hV2; have hV2 := Lib.hid (VarL.nil hV2); clear hs2)
  have hb2 := hb1.trans (hb2.mono hb1.size)
  go_loopw [27] (fun i wr => ∃ (k : Nat) (L : Nat → List Int), k ≤ acts.length ∧ i = .int .i64 k ∧ Hid (VarL wr w1.heap.size 38 L) ∧ Hid (∀ j, j < 4 → (L j).length ≤ k) ∧ Hid (BdL L) ∧ Below w.heap.size w wr) (fun i _ => acts.length - (intOf i).toNat)
  case atStart => exact ⟨0, noL, by omega, rfl, hV2, Lib.hid fun j _ => by simp [noL], Lib.hid fun j _ x hx => by simp [noL] at hx, hb2⟩
  case round =>
    obtain ⟨k, L, hk, rfl, hVL, hLk, hBL, hbr⟩ := hrel
    obtain ⟨wo, rfl⟩ : ∃ wo : World, wo = wr := ⟨_, rfl⟩
    by_cases hlt : k < acts.length
    · have hkz : (0 : Int) ≤ (k : Int) := by omega
      have hkl : (k : Int) < (acts.length : Int) := by omega
      have hlb : decide ((k : Int) < (acts.length : Int)) = true := by rw [decide_eq_true_iff]; omega
      obtain ⟨b, o, rfl, hbl, c0, c1, c2⟩ := (HA.out.below hbr).at_ hlt
      obtain ⟨bk, bc, bp⟩ := HB.out _ (List.getElem_mem hlt)
      obtain ⟨kk, hkk⟩ : ∃ x, x = acts[k].1 := ⟨_, rfl⟩
      obtain ⟨cc, hcc⟩ : ∃ x, x = acts[k].2.1 := ⟨_, rfl⟩
      obtain ⟨pp, hpp⟩ : ∃ x, x = acts[k].2.2 := ⟨_, rfl⟩
      rw [← hkk] at c0 bk
      rw [← hcc] at c1 bc
      rw [← hpp] at c2 bp
      clear hkk hcc hpp
      go_wp2_with (first
        | (refine wpList_new rfl (.alloc 36) rfl wo.heap.size rfl 36 #[.int .u8 0, .int .i64 0, .int .i64 0] (by kernel_rfl) ?_; intro w3 hs3 hb3 hB3; have hB3 := Lib.hid hB3; clear hs3)
        | (refine wpList_store_blk rfl 36 (.tmp 7) (.tmp 30) rfl wo.heap.size rfl #[.int .u8 kk, .int .i64 cc, .int .i64 pp] rfl 36 #[.int .u8 0, .int .i64 0, .int .i64 0] hB3.out AZ.out rfl (by simp [Value.oneCell']) ?_; intro w4 hB4 hg4 hs4; refine stop_here ?_))
      have hB4 := Lib.hid hB4
      have hb4 := grown_below hb3 hg4 hb3.size (Nat.le_refl _)
      have hV4 := Lib.hid (hVL.out.below hb4)
      have hz4 : wo.heap.size < w4.heap.size := hB4.out.lt
      have a1 := hB4.out.cell 1
      have a2 := hB4.out.cell 2
      clear hB3 hg4 hs4 c0 c1 c2
      have hSL : Hid (ShortL L) := Lib.hid fun j hj => Nat.le_trans (hLk.out j hj) (by omega)
      refine go_on ?_
      go_wp2_with (refine wpList_load_var rfl 38 (.tmp 5) rfl w1.heap.size rfl 38 L hV4.out _ Try.underlying38 rfl SZ.out ?_; intro f4 hf4)
      refine (put_any cc pp ⟨f4, rfl, hf4⟩ hSL.out bp.2).mono ?_
      rintro e w6 ⟨v6, rfl, hv6, hb6⟩
      have hv6 := Lib.hid hv6
      have hV6 := Lib.hid (hV4.out.below hb6)
      have hb6' := hb4.trans (hb6.mono hb4.size)
      clear a1 a2 hf4
      go_wp2_with (first
        | (refine wpList_new rfl (.alloc 38) rfl w6.heap.size rfl 38 nil4 (by kernel_rfl) ?_; intro w7 hs7 hb7 hN7; have hN7 := Lib.hid (VarL.nil hN7); have hv7 := Lib.hid (hv6.out.below hb7); clear hs7)
        | (refine wpList_store_var rfl 38 (.tmp 8) (.tmp 38) rfl w6.heap.size rfl _ rfl (putL L cc pp).1 hv7.out 38 noL hN7.out SZ.out ?_; intro w8 hN8 hg8 hs8; refine stop_here ?_))
      have hN8 := Lib.hid hN8
      have hb8 := grown_below hb7 hg8 hb7.size (Nat.le_refl _)
      have hV8 := Lib.hid (hV6.out.below hb8)
      have hb8' := hb6'.trans (hb8.mono hb6'.size)
      clear hN7 hv7 hv6 hg8 hs8
      refine go_on ?_
      rcases he : ((putL L cc pp).2 == 0) with _ | _
      · go_wp2_with fail
        go_roundw
        case rel => exact ⟨k + 1, L, by omega, by go_num, hV8, Lib.hid fun j hj => Nat.le_succ_of_le (hLk.out j hj), hBL, hbr.trans (hb8'.mono hbr.size)⟩
        case measure => simp [intOf]; omega
      · go_wp2_with (first
          | (refine wpList_load_var rfl 38 (.tmp 8) rfl w6.heap.size rfl 38 (putL L cc pp).1 hN8.out _ Try.underlying38 rfl SZ.out ?_; intro g9 hg9)
          | (refine wpList_store_var rfl 38 (.tmp 5) (.tmp 42) rfl w1.heap.size rfl _ rfl (putL L cc pp).1 ⟨g9, rfl, hg9⟩ 38 L hV8.out SZ.out ?_; intro w10 hV10 hg10 hs10))
        go_roundw
        case rel => exact ⟨k + 1, (putL L cc pp).1, by omega, by go_num, Lib.hid hV10, Lib.hid fun j hj => putL_short cc pp hLk.out j hj, Lib.hid (putL_bd hBL.out bp.2), grown_below (hbr.trans (hb8'.mono hbr.size)) hg10 (Nat.le_trans hbr.size hb8'.size) hb1.size⟩
        case measure => simp [intOf]; omega
    · have hlb : decide ((k : Int) < (acts.length : Int)) = false := by rw [decide_eq_false_iff_not]; omega
      have hSL : Hid (ShortL L) := Lib.hid fun j hj => Nat.le_trans (hLk.out j hj) (by omega)
      have hz5 : w1.heap.size < wo.heap.size := hVL.out.lt
      obtain ⟨s, hs⟩ : ∃ s, s = sp % 5 := ⟨_, rfl⟩
      go_wp2_with (refine wpList_load_var rfl 38 (.tmp 5) rfl w1.heap.size rfl 38 L hVL.out _ Try.underlying38 rfl SZ.out ?_; intro f4 hf4)
      rw [← hs]
      clear hs
      refine (cut_any s ⟨f4, rfl, hf4⟩ hSL.out hBL.out).mono ?_
      rintro e w6 ⟨v6, rfl, hv6, hb6⟩
      have hv6 := Lib.hid hv6
      have hV6 := Lib.hid (hVL.out.below hb6)
      have hb6' := hbr.trans (hb6.mono hbr.size)
      clear hf4
      go_wp2_with (first
        | (refine wpList_new rfl (.alloc 38) rfl w6.heap.size rfl 38 nil4 (by kernel_rfl) ?_; intro w7 hs7 hb7 hN7; have hN7 := Lib.hid (VarL.nil hN7); have hv7 := Lib.hid (hv6.out.below hb7); clear hs7)
        | (refine wpList_store_var rfl 38 (.tmp 11) (.tmp 51) rfl w6.heap.size rfl _ rfl (cutL L s) hv7.out 38 noL hN7.out SZ.out ?_; intro w8 hN8 hg8 hs8; refine stop_here ?_))
      have hN8 := Lib.hid hN8
      have hb8 := grown_below hb7 hg8 hb7.size (Nat.le_refl _)
      have hV8 := Lib.hid (hV6.out.below hb8)
      have hb8' := hb6'.trans (hb8.mono hb6'.size)
      clear hN7 hv7 hv6 hg8 hs8
      have hSc : Hid (ShortL (cutL L s)) := Lib.hid fun j hj => Nat.le_trans (keep_le s _) (hSL.out j hj)
      refine go_on ?_
      go_wp2_with (refine wpList_load_var rfl 38 (.tmp 11) rfl w6.heap.size rfl 38 (cutL L s) hN8.out _ Try.underlying38 rfl SZ.out ?_; intro f8 hf8)
      refine (cut_at (cutL (cutL L s) s) s 0 ⟨f8, rfl, hf8⟩ hSc.out (cutL_bd hBL.out) (gone_twice L s) fun _ _ => rfl).mono ?_
      rintro e w9 ⟨v9, rfl, hv9, hb9⟩
      have hv9 := Lib.hid hv9
      have hV9 := Lib.hid (hV8.out.below hb9)
      have hN9 := Lib.hid (hN8.out.below hb9)
      have hb9' := hb8'.trans (hb9.mono hb8'.size)
      have hz9 : w6.heap.size < w9.heap.size := hN9.out.lt
      clear hf8 hN8 hV8
      go_wp2_with (first
        | (refine wpList_new rfl (.alloc 38) rfl w9.heap.size rfl 38 nil4 (by kernel_rfl) ?_; intro w10 hs10 hb10 hN10; have hN10 := Lib.hid (VarL.nil hN10); have hv10 := Lib.hid (hv9.out.below hb10); clear hs10)
        | (refine wpList_store_var rfl 38 (.tmp 13) (.tmp 57) rfl w9.heap.size rfl _ rfl _ hv10.out 38 noL hN10.out SZ.out ?_; intro w11 hN11 hg11 hs11; refine stop_here ?_))
      have hb11 := grown_below hb10 hg11 hb10.size (Nat.le_refl _)
      have hV11 := Lib.hid (hV9.out.below hb11)
      have hM11 := Lib.hid (hN9.out.below hb11)
      have hb11' := hb9'.trans (hb11.mono hb9'.size)
      clear hN10 hv10 hv9 hg11 hs11 hN11 hN9 hV9
      obtain ⟨fL, hBl, hfl⟩ := hV11.out
      obtain ⟨fM, hBm, hfm⟩ := hM11.out
      have hBl := Lib.hid hBl
      have hBm := Lib.hid hBm
      have hfl := Lib.hid hfl
      have hfm := Lib.hid hfm
      refine go_on ?_
      go_wp2_with fail
      go_loopw [59, 15] (fun c l wr => ∃ q : Nat, q ≤ 4 ∧ c = .int .i64 q ∧ l = .int .i64 (goneTo L s q) ∧ wr = w11) (fun c _ _ => 4 - (intOf c).toNat)
      case atStart => exact ⟨0, by omega, rfl, rfl, rfl⟩
      case round =>
        obtain ⟨q, hq, rfl, rfl, hw⟩ := hrel
        obtain rfl := hw.symm
        by_cases hq4 : q < 4
        · have hqz : (0 : Int) ≤ (q : Int) := by omega
          have hql : (q : Int) < 4 := by omega
          have hqb : decide ((q : Int) < 4) = true := by rw [decide_eq_true_iff]; omega
          obtain ⟨Al, cl, hcl, hrl, _⟩ := rd_cell3 hBl.out hq4 (hfl.out q hq4)
          obtain ⟨Am, cm, hcm, hrm, _⟩ := rd_cell3 hBm.out hq4 (hfm.out q hq4)
          have hrm := Lib.hid hrm
          have hlq := hSL.out q hq4
          have hgq := goneTo_bd L s hSL.out q (by omega)
          go_wp2_with fail
          go_loopw [66, 15, 17] (fun i l at_ wr => ∃ m : Nat, m ≤ (L q).length ∧ i = .int .i64 m ∧ l = .int .i64 (goneTo L s q + goneS s ((L q).take m)) ∧ at_ = .int .i64 ((keepS s ((L q).take m)).length : Nat) ∧ wr = w11) (fun i _ _ _ => (L q).length - (intOf i).toNat)
          case atStart => exact ⟨0, by omega, rfl, by simp [goneS], by simp [keepS], rfl⟩
          case round =>
            obtain ⟨m, hm, rfl, rfl, rfl, hw⟩ := hrel
            obtain rfl := hw.symm
            by_cases hml : m < (L q).length
            · have hmz : (0 : Int) ≤ (m : Int) := by omega
              have hml' : (m : Int) < ((L q).length : Int) := by omega
              have hmb' : decide ((m : Int) < ((L q).length : Int)) = true := by rw [decide_eq_true_iff]; omega
              obtain ⟨b, o, rfl, _, hcx⟩ := hrl.at_ hml
              have hx9 := hBL.out q hq4 _ (List.getElem_mem hml)
              have hg9 := gone_bd s ((L q).take m)
              have ht9 : ((L q).take m).length = m := by simp; omega
              have hk9 : (keepS s ((L q).take m)).length ≤ m := by have := keep_le s ((L q).take m); omega
              have hgs := gone_snoc s ((L q).take m) (L q)[m]
              have hks := keep_snoc s ((L q).take m) (L q)[m]
              rw [← take_snoc (L q) hml] at hgs hks
              rw [ht9] at hg9
              clear ht9
              by_cases hsx : spanOf (L q)[m] = s
              · have hsb : (spanOf (L q)[m] == s) = true := beq_iff_eq.2 hsx
                rw [if_pos hsx] at hgs hks
                clear hsx
                have hgs := Lib.hid hgs
                have hks := Lib.hid hks
                go_wp2_with (go_at_call 21; refine (in_ok _ _ hx9).mono ?_; rintro e w' ⟨rfl, rfl⟩)
                go_roundw
                case rel => exact ⟨m + 1, by omega, by go_num, by rw [hgs.out]; go_num, by rw [hks.out], by first | rfl | trivial⟩
                case measure => simp [intOf]; omega
              · have hsb : (spanOf (L q)[m] == s) = false := beq_eq_false_iff_ne.2 hsx
                obtain ⟨hk', hkx⟩ := keep_at s (L q) hml hsx
                obtain ⟨b', o', rfl, _, hcy⟩ := hrm.out.at_ hk'
                have hgb : decide (((cutL L s q).length : Int) ≤ ((keepS s ((L q).take m)).length : Nat)) = false := by rw [decide_eq_false_iff_not]; simp only [cutL]; omega
                rw [if_neg hsx] at hgs hks
                clear hsx
                have hgs := Lib.hid hgs
                have hks := Lib.hid hks
                replace hcy : w11.cell? ⟨b', o' + (keepS s ((L q).take m)).length, none⟩ = some (.int .i64 (L q)[m]) := by
                  rw [hcy]
                  exact congrArg _ (congrArg (Value.int .i64) hkx)
                have hky : ((keepS s ((L q).take m)).length : Int) < ((cutL L s q).length : Int) := by simp only [cutL]; omega
                clear hkx hk'
                have hn0 : (0 : Int) ≤ ((keepS s ((L q).take m)).length : Int) := by omega
                have hnx : ((L q)[m] != (L q)[m]) = false := bne_self_eq_false _
                go_wp2_with (go_at_call 21; refine (in_ok _ _ hx9).mono ?_; rintro e w' ⟨rfl, rfl⟩)
                go_roundw
                case rel => exact ⟨m + 1, by omega, by go_num, by rw [hgs.out], by rw [hks.out, List.length_append]; go_num, by first | rfl | trivial⟩
                case measure => simp [intOf]; omega
            · have hme : m = (L q).length := by omega
              have hmb' : decide ((m : Int) < ((L q).length : Int)) = false := by rw [decide_eq_false_iff_not]; omega
              have htk := Lib.hid (show (L q).take m = L q by rw [hme, List.take_length])
              have hne : (((keepS s ((L q).take m)).length : Int) != ((cutL L s q).length : Int)) = false := by rw [htk.out]; simp [cutL]
              clear hme
              go_wp2_with fail
              go_roundw
              case rel => exact ⟨q + 1, by omega, by go_num, by rw [htk.out]; rfl, by first | rfl | trivial⟩
              case measure => simp [intOf]; omega
        · obtain rfl : q = 4 := by omega
          go_wp2_with fail
          go_ret
          exact ⟨by first | rfl | simp, hb11'⟩
end Go.Proofs.Ytlbjcaefemmjmaa
