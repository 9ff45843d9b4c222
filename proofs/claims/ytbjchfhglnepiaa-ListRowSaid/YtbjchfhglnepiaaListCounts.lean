/- ListCounts: what the walk shows is true for any calls. -/
import Derived.Test.YtbjchfhglnepiaaListActs
set_option linter.unusedVariables false
set_option linter.unusedSimpArgs false
namespace Go.Proofs.Ytbjchfhglnepiaa
open Go.RowKit

section
variable {P : Program} {ops : Array Oper} {Q : Exit → Act → World → Prop} {md : Region.Mode} {S : World → Prop}
theorem take_skip {i d : Nat} {fuel : Nat} {listed : Array Bool} {a : Act} {w : World} (hd : (ops[i]?).map (·.dst) = some (some d))
    (hs : Region.noSelect ops = true) (hf : Region.free md ops listed i = true) (hr : (Region.ready md ops listed).contains i = true)
    (hQ : ∀ c a w, Q (.panic c) (a.put (some d) undef) w → Q (.panic c) a w) (hw : (ops[i]?).map (fun o => Region.wanted o (yielded ops a.tmps)) = some false) (hS : S w)
    (h : wpAnyH P md ops Q S fuel (listed.setIfInBounds i true) (a.put (some d) undef) w) : wpAnyH P md ops Q S (fuel + 1) listed a w := by
  cases ho : ops[i]? with
  | none => rw [ho] at hd; cases hd
  | some o =>
    rw [ho] at hd hw
    obtain hd : o.dst = some d := Option.some.inj hd
    obtain hw : Region.wanted o (yielded ops a.tmps) = false := Option.some.inj hw
    rw [← hd] at h
    exact wpAnyH_take ho hs hf hr (by rw [hd]; exact hQ) (Or.inr ⟨hw, rfl⟩) hS h
theorem take_yield {i d : Nat} {oi : Oper} {v : Value} {fuel : Nat} {listed : Array Bool} {a : Act} {w : World} (hi : ops[i]? = some oi) (hd : oi.dst = some d)
    (hs : Region.noSelect ops = true) (hf : Region.free md ops listed i = true) (hr : (Region.ready md ops listed).contains i = true)
    (hQ : ∀ c a w, Q (.panic c) (a.put (some d) v) w → Q (.panic c) a w) (hw : Region.wanted oi (yielded ops a.tmps) = true) (hv : ∀ w, S w → (execOp a.eval oi).run P w = .ok (.value v) w) (hS : S w)
    (h : wpAnyH P md ops Q S fuel (listed.setIfInBounds i true) (a.put (some d) v) w) : wpAnyH P md ops Q S (fuel + 1) listed a w := by
  rw [← hd] at h
  exact wpAnyH_take hi hs hf hr (by rw [hd]; exact hQ) (Or.inl ⟨hw, hv⟩) hS h
end
theorem act_size : (Try.prog.info? 36).map (·.size) = some 3 := by kernel_rfl
set_option maxHeartbeats 3200000 in
set_option maxRecDepth 100000 in
theorem counts_ok (v : Value) (acts : List (Int × Int × Int)) (w : World) (hv : RdA w v acts) (hbd : ∀ x ∈ acts, (0 ≤ x.1 ∧ x.1 ≤ 255) ∧ (-9223372036854775808 ≤ x.2.1 ∧ x.2.1 ≤ 9223372036854775807) ∧ (-9223372036854775808 ≤ x.2.2 ∧ x.2.2 ≤ 9223372036854775807)) :
    Calls Try.prog 11 #[v] w fun e w' => e = .returned (.bool true) ∧ Below w.heap.size w w' := by
  have SZ := Lib.hid lists_size
  have AZ := Lib.hid act_size
  have HA := Lib.hid hv
  have HB := Lib.hid hbd
  obtain ⟨A, cp, rfl⟩ := hv.len
  clear hv hbd
  go_enter Try.func11, Try.ntmps11
  go_wp2_with fail
  refine (alive_ok _).mono ?_
  rintro e w1 ⟨rfl, hb1⟩
  by_cases hmost : acts.length ≤ 100
  rotate_left
  · have hmb : decide ((100 : Int) < (acts.length : Int)) = true := by rw [decide_eq_true_iff]; omega
    go_wp2_with (refine wpList_new rfl (.alloc 38) rfl w1.heap.size rfl 38 nil4 (by kernel_rfl) ?_; intro w2 hs2 hb2 hV2)
    go_ret
    exact ⟨rfl, hb1.trans (hb2.mono hb1.size)⟩
  have hmb : decide ((100 : Int) < (acts.length : Int)) = false := by rw [decide_eq_false_iff_not]; omega
  go_wp2_with (refine wpList_new rfl (.alloc 38) rfl w1.heap.size rfl 38 nil4 (by kernel_rfl) ?_; intro w2 hs2 hb2 hV2; have hV2 := Lib.hid (VarL.nil hV2); clear hs2)
  have hb2 := hb1.trans (hb2.mono hb1.size)
  go_loopw [22] (fun i wr => ∃ (k : Nat) (L : Nat → List Int), k ≤ acts.length ∧ i = .int .i64 k ∧ Hid (VarL wr w1.heap.size 38 L) ∧ Hid (∀ j, j < 4 → (L j).length ≤ k) ∧ Hid (BdL L) ∧ Below w.heap.size w wr) (fun i _ => acts.length - (intOf i).toNat)
  case atStart => exact ⟨0, noL, by omega, rfl, hV2, Lib.hid fun j _ => by simp [noL], Lib.hid fun j _ x hx => by simp [noL] at hx, hb2⟩
  case round =>
    obtain ⟨k, L, hk, rfl, hVL, hLk, hBL, hbr⟩ := hrel
    obtain ⟨wo, rfl⟩ : ∃ wo : World, wo = wr := ⟨_, rfl⟩
    by_cases hlt : k < acts.length
    · have hkz : (0 : Int) ≤ (k : Int) := by omega
      have hkl : (k : Int) < (acts.length : Int) := by omega
      have hlb : decide ((k : Int) < (acts.length : Int)) = true := by rw [decide_eq_true_iff]; omega
      obtain ⟨b, o, rfl, hbl, c0, c1, c2⟩ := (HA.out.below hbr).at_ hlt
      obtain ⟨bk, bc, bp⟩ := HB.out _ (List.getElem_mem hlt)
      obtain ⟨kk, hkk⟩ : ∃ x, x = acts[k].1 := ⟨_, rfl⟩
      obtain ⟨cc, hcc⟩ : ∃ x, x = acts[k].2.1 := ⟨_, rfl⟩
      obtain ⟨pp, hpp⟩ : ∃ x, x = acts[k].2.2 := ⟨_, rfl⟩
      rw [← hkk] at c0 bk
      rw [← hcc] at c1 bc
      rw [← hpp] at c2 bp
      clear hkk hcc hpp
      go_wp2_with (first
        | (refine wpList_new rfl (.alloc 36) rfl wo.heap.size rfl 36 #[.int .u8 0, .int .i64 0, .int .i64 0] (by kernel_rfl) ?_; intro w3 hs3 hb3 hB3; have hB3 := Lib.hid hB3; clear hs3)
        | (refine wpList_store_blk rfl 36 (.tmp 6) (.tmp 25) rfl wo.heap.size rfl #[.int .u8 kk, .int .i64 cc, .int .i64 pp] rfl 36 #[.int .u8 0, .int .i64 0, .int .i64 0] hB3.out AZ.out rfl (by simp [Value.oneCell']) ?_; intro w4 hB4 hg4 hs4; refine stop_here ?_))
      have hB4 := Lib.hid hB4
      have hb4 := grown_below hb3 hg4 hb3.size (Nat.le_refl _)
      have hV4 := Lib.hid (hVL.out.below hb4)
      have hz4 : wo.heap.size < w4.heap.size := hB4.out.lt
      clear hB3 hg4 hs4 c0 c1 c2
      have hSL : Hid (ShortL L) := Lib.hid fun j hj => Nat.le_trans (hLk.out j hj) (by omega)
      refine go_on ?_
      go_wp2_with (refine wpList_load_var rfl 38 (.tmp 3) rfl w1.heap.size rfl 38 L hV4.out _ Try.underlying38 rfl SZ.out ?_; intro f4 hf4)
      refine (count_ok ⟨f4, rfl, hf4⟩ hSL.out).mono ?_
      rintro e w5 ⟨rfl, hb5⟩
      have hV5 := Lib.hid (hV4.out.below hb5)
      have hB5 := Lib.hid (hB4.out.below hb5 hB4.out.lt)
      have hb5' := hb4.trans (hb5.mono hb4.size)
      have a0 := hB5.out.cell 0
      have a1 := hB5.out.cell 1
      have a2 := hB5.out.cell 2
      rcases h3 : (kk % 5 == 3) with _ | _
      rotate_left
      · have bk := bk
        go_wp2_with (refine wpList_load_var rfl 38 (.tmp 3) rfl w1.heap.size rfl 38 L hV5.out _ Try.underlying38 rfl SZ.out ?_; intro f6 hf6)
        refine (take_any cc ⟨f6, rfl, hf6⟩ hSL.out).mono ?_
        rintro e w6 ⟨v6, rfl, hv6, hb6⟩
        have hv6 := Lib.hid hv6
        have hV6 := Lib.hid (hV5.out.below hb6)
        have hB6 := Lib.hid (hB5.out.below hb6 hB5.out.lt)
        have hb6' := hb5'.trans (hb6.mono hb5'.size)
        have hz6 : wo.heap.size < w6.heap.size := hB6.out.lt
        clear a0 a1 a2 hf6
        go_wp2_with (first
          | (refine wpList_new rfl (.alloc 38) rfl w6.heap.size rfl 38 nil4 (by kernel_rfl) ?_; intro w7 hs7 hb7 hN7; have hN7 := Lib.hid (VarL.nil hN7); have hv7 := Lib.hid (hv6.out.below hb7); clear hs7)
          | (refine wpList_store_var rfl 38 (.tmp 8) (.tmp 71) rfl w6.heap.size rfl _ rfl (takeL L cc).1 hv7.out 38 noL hN7.out SZ.out ?_; intro w8 hN8 hg8 hs8; refine stop_here ?_))
        have hN8 := Lib.hid hN8
        have hb8 := grown_below hb7 hg8 hb7.size (Nat.le_refl _)
        have hV8 := Lib.hid (hV6.out.below hb8)
        have hB8 := Lib.hid (hB6.out.below hb8 hB6.out.lt)
        have hb8' := hb6'.trans (hb8.mono hb6'.size)
        have hz8 : w6.heap.size < w8.heap.size := hN8.out.lt
        have hz8' : wo.heap.size < w8.heap.size := by omega
        clear hN7 hv7 hv6 hg8 hs8
        have hSn : Hid (∀ j, j < 4 → ((takeL L cc).1 j).length ≤ 1099511627776) := Lib.hid fun j hj => Nat.le_trans (takeL_short cc hLk.out j hj) (by omega)
        have hn0 : 0 ≤ sumL L := by unfold sumL; omega
        have hn1 : sumL L ≤ 4 * 1099511627776 := by
          have h0 := hSL.out 0 (by omega)
          have h1 := hSL.out 1 (by omega)
          have h2 := hSL.out 2 (by omega)
          have h3 := hSL.out 3 (by omega)
          unfold sumL
          omega
        have hst := sum_take L cc
        rcases he : ((takeL L cc).2.2 == 0) with _ | _
        · have hs : (sumL (takeL L cc).1 == sumL L - 1) = false := by
            rw [hst]
            have := beq_eq_false_iff_ne.1 he
            first | (simp [this]; done) | (simp [this]; omega)
          clear hst
          refine go_on ?_
          go_wp2_with (refine wpList_load_var rfl 38 (.tmp 8) rfl w6.heap.size rfl 38 (takeL L cc).1 hN8.out _ Try.underlying38 rfl SZ.out ?_; intro f9 hf9)
          refine (count_ok ⟨f9, rfl, hf9⟩ hSn.out).mono ?_
          rintro e w9 ⟨rfl, hb9⟩
          have hV9 := Lib.hid (hV8.out.below hb9)
          have hN9 := Lib.hid (hN8.out.below hb9)
          have hb9' := hb8'.trans (hb9.mono hb8'.size)
          clear hf9
          go_wp2_with (first
            | (refine wpList_load_var rfl 38 (.tmp 8) rfl w6.heap.size rfl 38 (takeL L cc).1 hN9.out _ Try.underlying38 rfl SZ.out ?_; intro g9 hg9)
            | (refine wpList_store_var rfl 38 (.tmp 3) (.tmp 83) rfl w1.heap.size rfl _ rfl (takeL L cc).1 ⟨g9, rfl, hg9⟩ 38 L hV9.out SZ.out ?_; intro w10 hV10 hg10 hs10))
          go_roundw
          case rel => exact ⟨k + 1, (takeL L cc).1, by omega, by go_num, Lib.hid hV10, Lib.hid fun j hj => Nat.le_succ_of_le (takeL_short cc hLk.out j hj), Lib.hid (takeL_bd hBL.out), grown_below (hbr.trans (hb9'.mono hbr.size)) hg10 (Nat.le_trans hbr.size hb9'.size) hb1.size⟩
          case measure => simp [intOf]; omega
        · have hs : (sumL (takeL L cc).1 == sumL L - 1) = true := by
            rw [hst]
            have := beq_iff_eq.1 he
            first | (simp [this]; done) | (simp [this]; omega)
          clear hst
          refine go_on ?_
          go_wp2_with (refine wpList_load_var rfl 38 (.tmp 8) rfl w6.heap.size rfl 38 (takeL L cc).1 hN8.out _ Try.underlying38 rfl SZ.out ?_; intro f9 hf9)
          refine (count_ok ⟨f9, rfl, hf9⟩ hSn.out).mono ?_
          rintro e w9 ⟨rfl, hb9⟩
          have hV9 := Lib.hid (hV8.out.below hb9)
          have hN9 := Lib.hid (hN8.out.below hb9)
          have hb9' := hb8'.trans (hb9.mono hb8'.size)
          clear hf9
          go_wp2_with (first
            | (refine wpList_load_var rfl 38 (.tmp 8) rfl w6.heap.size rfl 38 (takeL L cc).1 hN9.out _ Try.underlying38 rfl SZ.out ?_; intro g9 hg9)
            | (refine wpList_store_var rfl 38 (.tmp 3) (.tmp 83) rfl w1.heap.size rfl _ rfl (takeL L cc).1 ⟨g9, rfl, hg9⟩ 38 L hV9.out SZ.out ?_; intro w10 hV10 hg10 hs10))
          go_roundw
          case rel => exact ⟨k + 1, (takeL L cc).1, by omega, by go_num, Lib.hid hV10, Lib.hid fun j hj => Nat.le_succ_of_le (takeL_short cc hLk.out j hj), Lib.hid (takeL_bd hBL.out), grown_below (hbr.trans (hb9'.mono hbr.size)) hg10 (Nat.le_trans hbr.size hb9'.size) hb1.size⟩
          case measure => simp [intOf]; omega
      rcases h4 : (kk % 5 == 4) with _ | _
      rotate_left
      · have bk := bk
        go_wp2_with (refine wpList_load_var rfl 38 (.tmp 3) rfl w1.heap.size rfl 38 L hV5.out _ Try.underlying38 rfl SZ.out ?_; intro f6 hf6)
        refine (cut_any pp ⟨f6, rfl, hf6⟩ hSL.out hBL.out).mono ?_
        rintro e w6 ⟨v6, rfl, hv6, hb6⟩
        have hv6 := Lib.hid hv6
        have hV6 := Lib.hid (hV5.out.below hb6)
        have hB6 := Lib.hid (hB5.out.below hb6 hB5.out.lt)
        have hb6' := hb5'.trans (hb6.mono hb5'.size)
        have hz6 : wo.heap.size < w6.heap.size := hB6.out.lt
        clear a0 a1 a2 hf6
        go_wp2_with (first
          | (refine wpList_new rfl (.alloc 38) rfl w6.heap.size rfl 38 nil4 (by kernel_rfl) ?_; intro w7 hs7 hb7 hN7; have hN7 := Lib.hid (VarL.nil hN7); have hv7 := Lib.hid (hv6.out.below hb7); clear hs7)
          | (refine wpList_store_var rfl 38 (.tmp 11) (.tmp 91) rfl w6.heap.size rfl _ rfl (cutL L pp) hv7.out 38 noL hN7.out SZ.out ?_; intro w8 hN8 hg8 hs8; refine stop_here ?_))
        have hN8 := Lib.hid hN8
        have hb8 := grown_below hb7 hg8 hb7.size (Nat.le_refl _)
        have hV8 := Lib.hid (hV6.out.below hb8)
        have hB8 := Lib.hid (hB6.out.below hb8 hB6.out.lt)
        have hb8' := hb6'.trans (hb8.mono hb6'.size)
        have hz8 : w6.heap.size < w8.heap.size := hN8.out.lt
        have hz8' : wo.heap.size < w8.heap.size := by omega
        clear hN7 hv7 hv6 hg8 hs8
        have hSn : Hid (∀ j, j < 4 → ((cutL L pp) j).length ≤ 1099511627776) := Lib.hid fun j hj => Nat.le_trans (cutL_short pp hLk.out j hj) (by omega)
        have hn0 : 0 ≤ sumL L := by unfold sumL; omega
        have hn1 : sumL L ≤ 4 * 1099511627776 := by
          have h0 := hSL.out 0 (by omega)
          have h1 := hSL.out 1 (by omega)
          have h2 := hSL.out 2 (by omega)
          have h3 := hSL.out 3 (by omega)
          unfold sumL
          omega
        have hs : (sumL (cutL L pp) == sumL L - goneTo L pp 4) = true := by
          rw [sum_cut]
          exact beq_self_eq_true _
        have hgt := goneTo_bd L pp hSL.out 4 (Nat.le_refl _)
        refine go_on ?_
        go_wp2_with (refine wpList_load_var rfl 38 (.tmp 11) rfl w6.heap.size rfl 38 (cutL L pp) hN8.out _ Try.underlying38 rfl SZ.out ?_; intro f9 hf9)
        refine (count_ok ⟨f9, rfl, hf9⟩ hSn.out).mono ?_
        rintro e w9 ⟨rfl, hb9⟩
        have hV9 := Lib.hid (hV8.out.below hb9)
        have hN9 := Lib.hid (hN8.out.below hb9)
        have hb9' := hb8'.trans (hb9.mono hb8'.size)
        clear hf9
        go_wp2_with (first
          | (refine wpList_load_var rfl 38 (.tmp 11) rfl w6.heap.size rfl 38 (cutL L pp) hN9.out _ Try.underlying38 rfl SZ.out ?_; intro g9 hg9)
          | (refine wpList_store_var rfl 38 (.tmp 3) (.tmp 100) rfl w1.heap.size rfl _ rfl (cutL L pp) ⟨g9, rfl, hg9⟩ 38 L hV9.out SZ.out ?_; intro w10 hV10 hg10 hs10))
        go_roundw
        case rel => exact ⟨k + 1, (cutL L pp), by omega, by go_num, Lib.hid hV10, Lib.hid fun j hj => Nat.le_succ_of_le (cutL_short pp hLk.out j hj), Lib.hid (cutL_bd hBL.out), grown_below (hbr.trans (hb9'.mono hbr.size)) hg10 (Nat.le_trans hbr.size hb9'.size) hb1.size⟩
        case measure => simp [intOf]; omega
      go_wp2_with (refine wpList_load_var rfl 38 (.tmp 3) rfl w1.heap.size rfl 38 L hV5.out _ Try.underlying38 rfl SZ.out ?_; intro f6 hf6)
      refine (put_any cc pp ⟨f6, rfl, hf6⟩ hSL.out bp.2).mono ?_
      rintro e w6 ⟨v6, rfl, hv6, hb6⟩
      have hv6 := Lib.hid hv6
      have hV6 := Lib.hid (hV5.out.below hb6)
      have hB6 := Lib.hid (hB5.out.below hb6 hB5.out.lt)
      have hb6' := hb5'.trans (hb6.mono hb5'.size)
      have hz6 : wo.heap.size < w6.heap.size := hB6.out.lt
      clear a0 a1 a2 hf6
      go_wp2_with (first
        | (refine wpList_new rfl (.alloc 38) rfl w6.heap.size rfl 38 nil4 (by kernel_rfl) ?_; intro w7 hs7 hb7 hN7; have hN7 := Lib.hid (VarL.nil hN7); have hv7 := Lib.hid (hv6.out.below hb7); clear hs7)
        | (refine wpList_store_var rfl 38 (.tmp 13) (.tmp 39) rfl w6.heap.size rfl _ rfl (putL L cc pp).1 hv7.out 38 noL hN7.out SZ.out ?_; intro w8 hN8 hg8 hs8; refine stop_here ?_))
      have hN8 := Lib.hid hN8
      have hb8 := grown_below hb7 hg8 hb7.size (Nat.le_refl _)
      have hV8 := Lib.hid (hV6.out.below hb8)
      have hB8 := Lib.hid (hB6.out.below hb8 hB6.out.lt)
      have hb8' := hb6'.trans (hb8.mono hb6'.size)
      have hz8 : w6.heap.size < w8.heap.size := hN8.out.lt
      have hz8' : wo.heap.size < w8.heap.size := by omega
      clear hN7 hv7 hv6 hg8 hs8
      have hSn : Hid (∀ j, j < 4 → ((putL L cc pp).1 j).length ≤ 1099511627776) := Lib.hid fun j hj => Nat.le_trans (putL_short cc pp hLk.out j hj) (by omega)
      have hn0 : 0 ≤ sumL L := by unfold sumL; omega
      have hn1 : sumL L ≤ 4 * 1099511627776 := by
        have h0 := hSL.out 0 (by omega)
        have h1 := hSL.out 1 (by omega)
        have h2 := hSL.out 2 (by omega)
        have h3 := hSL.out 3 (by omega)
        unfold sumL
        omega
      obtain ⟨x0, x1, x2, x3, cx0, cx1, cx2, cx3, rx⟩ := hN8.out.cells
      have rx := Lib.hid rx
      have HK : Hid (∀ w', Below w8.heap.size w8 w' → Below w8.heap.size w8 w' ∧ w'.cell? ⟨w6.heap.size, 0, none⟩ = some x0 ∧ w'.cell? ⟨w6.heap.size, 1, none⟩ = some x1 ∧ w'.cell? ⟨w6.heap.size, 2, none⟩ = some x2 ∧ w'.cell? ⟨w6.heap.size, 3, none⟩ = some x3 ∧ w'.cell? ⟨wo.heap.size, 1, none⟩ = some (.int .i64 cc) ∧ w'.cell? ⟨wo.heap.size, 2, none⟩ = some (.int .i64 pp)) := Lib.hid fun w' hB => ⟨hB, (hB.cell hz8).trans cx0, (hB.cell hz8).trans cx1, (hB.cell hz8).trans cx2, (hB.cell hz8).trans cx3, (hB.cell hz8').trans (hB8.out.cell 1), (hB.cell hz8').trans (hB8.out.cell 2)⟩
      have hD0 : Below w8.heap.size w8 w8.drew := (Below.refl _ _).drew
      have hst := sum_put L cc pp
      have hhp := Lib.hid (fun h => has_put (L := L) (c := cc) (p := pp) h)
      clear cx0 cx1 cx2 cx3
      rcases he : ((putL L cc pp).2 == 0) with _ | _
      · have hs : (sumL (putL L cc pp).1 == IntKind.i64.wrap (sumL L + 1)) = false := by
          rw [IntWalk.i64_in _ (by omega), hst]
          have := beq_eq_false_iff_ne.1 he
          first | (simp [this]; done) | (simp [this]; omega)
        clear hst
        refine go_on ?_
        go_wp2_with fail
        refine wp_region_noPanic ?_
        refine wp_region_held_drew (S := (fun w' => Below w8.heap.size w8 w' ∧ w'.cell? ⟨w6.heap.size, 0, none⟩ = some x0 ∧ w'.cell? ⟨w6.heap.size, 1, none⟩ = some x1 ∧ w'.cell? ⟨w6.heap.size, 2, none⟩ = some x2 ∧ w'.cell? ⟨w6.heap.size, 3, none⟩ = some x3 ∧ w'.cell? ⟨wo.heap.size, 1, none⟩ = some (.int .i64 cc) ∧ w'.cell? ⟨wo.heap.size, 2, none⟩ = some (.int .i64 pp))) (by kernel_rfl) (HK.out _ hD0) (fun hHeld => ?_)
        refine take_yield (i := 0) (d := 41) (v := ?_) rfl (by rfl) (by kernel_rfl) (by kernel_rfl) (by kernel_rfl) (fun _ _ _ h => h) (by rfl) ?_ (by assumption) ?_
        rotate_left
        · intro w hSw
          (try dsimp only at hSw)
          first | (go_simp; done) | (go_simp; with_reducible rfl)
        (try simp only [Act.put, List.setIfInBounds_toArray, List.set_cons_zero, List.set_cons_succ])
        refine take_yield (i := 1) (d := 42) (v := ?_) rfl (by rfl) (by kernel_rfl) (by kernel_rfl) (by kernel_rfl) (fun _ _ _ h => h) (by rfl) ?_ (by assumption) ?_
        rotate_left
        · intro w hSw
          (try dsimp only at hSw)
          first | (go_simp; done) | (go_simp; with_reducible rfl)
        (try simp only [Act.put, List.setIfInBounds_toArray, List.set_cons_zero, List.set_cons_succ])
        refine take_yield (i := 2) (d := 43) (v := ?_) rfl (by rfl) (by kernel_rfl) (by kernel_rfl) (by kernel_rfl) (fun _ _ _ h => h) (by rfl) ?_ (by assumption) ?_
        rotate_left
        · intro w hSw
          (try dsimp only at hSw)
          first | (go_simp; done) | (go_simp; with_reducible rfl)
        (try simp only [Act.put, List.setIfInBounds_toArray, List.set_cons_zero, List.set_cons_succ])
        refine take_yield (i := 3) (d := 44) (v := ?_) rfl (by rfl) (by kernel_rfl) (by kernel_rfl) (by kernel_rfl) (fun _ _ _ h => h) (by rfl) ?_ (by assumption) ?_
        rotate_left
        · intro w hSw
          (try dsimp only at hSw)
          first | (go_simp; done) | (go_simp; with_reducible rfl)
        (try simp only [Act.put, List.setIfInBounds_toArray, List.set_cons_zero, List.set_cons_succ])
        refine take_yield (i := 5) (d := 46) (v := ?_) rfl (by rfl) (by kernel_rfl) (by kernel_rfl) (by kernel_rfl) (fun _ _ _ h => h) (by rfl) ?_ (by assumption) ?_
        rotate_left
        · intro w hSw
          (try dsimp only at hSw)
          first | (go_simp; done) | (go_simp; with_reducible rfl)
        (try simp only [Act.put, List.setIfInBounds_toArray, List.set_cons_zero, List.set_cons_succ])
        refine take_yield (i := 6) (d := 47) (v := ?_) rfl (by rfl) (by kernel_rfl) (by kernel_rfl) (by kernel_rfl) (fun _ _ _ h => h) (by rfl) ?_ (by assumption) ?_
        rotate_left
        · intro w hSw
          (try dsimp only at hSw)
          first | (go_simp; done) | (go_simp; with_reducible rfl)
        (try simp only [Act.put, List.setIfInBounds_toArray, List.set_cons_zero, List.set_cons_succ])
        refine wpAnyH_ready (rs := [4]) (by kernel_rfl) (by simp) ?_
        refine AllReadyH.cons rfl (fun K hK => ?_) AllReadyH.nil
        go_simp
        (go_at_call 36; refine (keep_call (W := w8) hD0 fun hk => count_ok (rx.out.below hk) hSn.out).mono ?_; rintro e w9 ⟨rfl, hq⟩)
        go_wp2_with fail
        refine hK.out _ _ (HK.out _ hq) (fun hHeld => ?_)
        clear hK K
        (try simp only [Act.put, List.setIfInBounds_toArray, List.set_cons_zero, List.set_cons_succ])
        refine take_yield (i := 7) (d := 48) (v := ?_) rfl (by rfl) (by kernel_rfl) (by kernel_rfl) (by kernel_rfl) (fun _ _ _ h => h) (by rfl) ?_ (by assumption) ?_
        rotate_left
        · intro w hSw
          (try dsimp only at hSw)
          first | (go_simp; done) | (go_simp; with_reducible rfl)
        (try simp only [Act.put, List.setIfInBounds_toArray, List.set_cons_zero, List.set_cons_succ])
        refine take_yield (i := 8) (d := 49) (v := ?_) rfl (by rfl) (by kernel_rfl) (by kernel_rfl) (by kernel_rfl) (fun _ _ _ h => h) (by rfl) ?_ (by assumption) ?_
        rotate_left
        · intro w hSw
          (try dsimp only at hSw)
          first | (go_simp; done) | (go_simp; with_reducible rfl)
        (try simp only [Act.put, List.setIfInBounds_toArray, List.set_cons_zero, List.set_cons_succ])
        refine take_yield (i := 9) (d := 50) (v := ?_) rfl (by rfl) (by kernel_rfl) (by kernel_rfl) (by kernel_rfl) (fun _ _ _ h => h) (by rfl) ?_ (by assumption) ?_
        rotate_left
        · intro w hSw
          (try dsimp only at hSw)
          first | (go_simp; done) | (go_simp; with_reducible rfl)
        (try simp only [Act.put, List.setIfInBounds_toArray, List.set_cons_zero, List.set_cons_succ])
        refine take_yield (i := 10) (d := 51) (v := ?_) rfl (by rfl) (by kernel_rfl) (by kernel_rfl) (by kernel_rfl) (fun _ _ _ h => h) (by rfl) ?_ (by assumption) ?_
        rotate_left
        · intro w hSw
          (try dsimp only at hSw)
          first | (go_simp; done) | (go_simp; with_reducible rfl)
        (try simp only [Act.put, List.setIfInBounds_toArray, List.set_cons_zero, List.set_cons_succ])
        refine take_yield (i := 11) (d := 52) (v := ?_) rfl (by rfl) (by kernel_rfl) (by kernel_rfl) (by kernel_rfl) (fun _ _ _ h => h) (by rfl) ?_ (by assumption) ?_
        rotate_left
        · intro w hSw
          (try dsimp only at hSw)
          first | (go_simp; done) | (go_simp; with_reducible rfl)
        (try simp only [Act.put, List.setIfInBounds_toArray, List.set_cons_zero, List.set_cons_succ])
        refine take_yield (i := 12) (d := 53) (v := ?_) rfl (by rfl) (by kernel_rfl) (by kernel_rfl) (by kernel_rfl) (fun _ _ _ h => h) (by rfl) ?_ (by assumption) ?_
        rotate_left
        · intro w hSw
          (try dsimp only at hSw)
          first | (go_simp; done) | (go_simp; with_reducible rfl)
        (try simp only [Act.put, List.setIfInBounds_toArray, List.set_cons_zero, List.set_cons_succ])
        refine take_skip (i := 13) (d := 54) (by rfl) (by kernel_rfl) (by kernel_rfl) (by kernel_rfl) (fun _ _ _ h => h) (by rfl) (by assumption) ?_
        (try simp only [Act.put, List.setIfInBounds_toArray, List.set_cons_zero, List.set_cons_succ])
        refine take_skip (i := 14) (d := 55) (by rfl) (by kernel_rfl) (by kernel_rfl) (by kernel_rfl) (fun _ _ _ h => h) (by rfl) (by assumption) ?_
        (try simp only [Act.put, List.setIfInBounds_toArray, List.set_cons_zero, List.set_cons_succ])
        refine take_skip (i := 15) (d := 56) (by rfl) (by kernel_rfl) (by kernel_rfl) (by kernel_rfl) (fun _ _ _ h => h) (by rfl) (by assumption) ?_
        (try simp only [Act.put, List.setIfInBounds_toArray, List.set_cons_zero, List.set_cons_succ])
        refine take_skip (i := 17) (d := 58) (by rfl) (by kernel_rfl) (by kernel_rfl) (by kernel_rfl) (fun _ _ _ h => h) (by rfl) (by assumption) ?_
        (try simp only [Act.put, List.setIfInBounds_toArray, List.set_cons_zero, List.set_cons_succ])
        refine take_skip (i := 18) (d := 59) (by rfl) (by kernel_rfl) (by kernel_rfl) (by kernel_rfl) (fun _ _ _ h => h) (by rfl) (by assumption) ?_
        (try simp only [Act.put, List.setIfInBounds_toArray, List.set_cons_zero, List.set_cons_succ])
        refine take_skip (i := 16) (d := 57) (by rfl) (by kernel_rfl) (by kernel_rfl) (by kernel_rfl) (fun _ _ _ h => h) (by rfl) (by assumption) ?_
        (try simp only [Act.put, List.setIfInBounds_toArray, List.set_cons_zero, List.set_cons_succ])
        refine take_skip (i := 19) (d := 60) (by rfl) (by kernel_rfl) (by kernel_rfl) (by kernel_rfl) (fun _ _ _ h => h) (by rfl) (by assumption) ?_
        (try simp only [Act.put, List.setIfInBounds_toArray, List.set_cons_zero, List.set_cons_succ])
        refine take_yield (i := 20) (d := 61) (v := ?_) rfl (by rfl) (by kernel_rfl) (by kernel_rfl) (by kernel_rfl) (fun _ _ _ h => h) (by rfl) ?_ (by assumption) ?_
        rotate_left
        · intro w hSw
          (try dsimp only at hSw)
          first | (go_simp; done) | (go_simp; with_reducible rfl)
        (try simp only [Act.put, List.setIfInBounds_toArray, List.set_cons_zero, List.set_cons_succ])
        refine take_yield (i := 21) (d := 62) (v := ?_) rfl (by rfl) (by kernel_rfl) (by kernel_rfl) (by kernel_rfl) (fun _ _ _ h => h) (by rfl) ?_ (by assumption) ?_
        rotate_left
        · intro w hSw
          (try dsimp only at hSw)
          first | (go_simp; done) | (go_simp; with_reducible rfl)
        (try simp only [Act.put, List.setIfInBounds_toArray, List.set_cons_zero, List.set_cons_succ])
        refine wpAnyH_done (by kernel_rfl) ?_ _
        refine NoPanic.normal ?_
        have hV9 := Lib.hid (hV8.out.below hq)
        have hN9 := Lib.hid (hN8.out.below hq)
        have hb9' := hb8'.trans (hq.mono hb8'.size)
        go_wp2_with (first
          | (refine wpList_load_var rfl 38 (.tmp 13) rfl w6.heap.size rfl 38 (putL L cc pp).1 hN9.out _ Try.underlying38 rfl SZ.out ?_; intro g9 hg9)
          | (refine wpList_store_var rfl 38 (.tmp 3) (.tmp 63) rfl w1.heap.size rfl _ rfl (putL L cc pp).1 ⟨g9, rfl, hg9⟩ 38 L hV9.out SZ.out ?_; intro w10 hV10 hg10 hs10))
        go_roundw
        case rel => exact ⟨k + 1, (putL L cc pp).1, by omega, by go_num, Lib.hid hV10, Lib.hid fun j hj => putL_short cc pp hLk.out j hj, Lib.hid (putL_bd hBL.out bp.2), grown_below (hbr.trans (hb9'.mono hbr.size)) hg10 (Nat.le_trans hbr.size hb9'.size) hb1.size⟩
        case measure => simp [intOf]; omega
      · have hs : (sumL (putL L cc pp).1 == IntKind.i64.wrap (sumL L + 1)) = true := by
          rw [IntWalk.i64_in _ (by omega), hst]
          have := beq_iff_eq.1 he
          first | (simp [this]; done) | (simp [this]; omega)
        clear hst
        refine go_on ?_
        go_wp2_with fail
        go_region_held3 (fun w' => Below w8.heap.size w8 w' ∧ w'.cell? ⟨w6.heap.size, 0, none⟩ = some x0 ∧ w'.cell? ⟨w6.heap.size, 1, none⟩ = some x1 ∧ w'.cell? ⟨w6.heap.size, 2, none⟩ = some x2 ∧ w'.cell? ⟨w6.heap.size, 3, none⟩ = some x3 ∧ w'.cell? ⟨wo.heap.size, 1, none⟩ = some (.int .i64 cc) ∧ w'.cell? ⟨wo.heap.size, 2, none⟩ = some (.int .i64 pp))
          (exact HK.out _ (by assumption))
          (first
            | (go_at_call 36; refine (keep_call (W := w8) ?_ fun hk => count_ok (rx.out.below hk) hSn.out).mono ?_; (first | assumption | (simp [*]; done)); rintro e w9 ⟨rfl, hq⟩)
            | (go_at_call 34; refine (keep_call (W := w8) ?_ fun hk => has_any pp cc (rx.out.below hk) hSn.out (hhp.out (beq_iff_eq.1 he))).mono ?_; (first | assumption | (simp [*]; done)); rintro e w9 ⟨rfl, hq⟩))
        have hV9 := Lib.hid (hV8.out.below hq)
        have hN9 := Lib.hid (hN8.out.below hq)
        have hb9' := hb8'.trans (hq.mono hb8'.size)
        go_wp2_with (first
          | (refine wpList_load_var rfl 38 (.tmp 13) rfl w6.heap.size rfl 38 (putL L cc pp).1 hN9.out _ Try.underlying38 rfl SZ.out ?_; intro g9 hg9)
          | (refine wpList_store_var rfl 38 (.tmp 3) (.tmp 63) rfl w1.heap.size rfl _ rfl (putL L cc pp).1 ⟨g9, rfl, hg9⟩ 38 L hV9.out SZ.out ?_; intro w10 hV10 hg10 hs10))
        go_roundw
        case rel => exact ⟨k + 1, (putL L cc pp).1, by omega, by go_num, Lib.hid hV10, Lib.hid fun j hj => putL_short cc pp hLk.out j hj, Lib.hid (putL_bd hBL.out bp.2), grown_below (hbr.trans (hb9'.mono hbr.size)) hg10 (Nat.le_trans hbr.size hb9'.size) hb1.size⟩
        case measure => simp [intOf]; omega
    · have hlb : decide ((k : Int) < (acts.length : Int)) = false := by rw [decide_eq_false_iff_not]; omega
      go_wp2_with fail
      go_ret
      exact ⟨rfl, hbr⟩
end Go.Proofs.Ytbjchfhglnepiaa
