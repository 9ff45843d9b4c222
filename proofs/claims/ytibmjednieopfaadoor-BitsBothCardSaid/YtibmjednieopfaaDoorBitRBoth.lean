/- The walk of the reference: Both, by kind. -/
import Derived.Test.YtibmjednieopfaaDoorBitRPut
set_option linter.unusedVariables false
set_option linter.unusedSimpArgs false
namespace Go.Proofs.YtibmjednieopfaaDoor
open Go.RowKit

theorem bothB_of {op : BinOp} {xs ys zs : List Int} {n : Nat} (hn : n = max xs.length ys.length) (h : OfB (truths (fun j => op3 op (bitAt xs j) (bitAt ys j)) (64 * n)) zs) : BothB op xs ys zs := by
  obtain ⟨h1, h2, h3, h4⟩ := h
  rw [truths_len] at h3
  refine ⟨h1, h2, by omega, fun j => ?_⟩
  rw [h4 j, truths_getD]
  split
  · rfl
  · rw [bitAt_top (xs := xs) (by omega), bitAt_top (xs := ys) (by omega), op3_ff]
set_option maxHeartbeats 1600000 in
theorem rboth_and (u v : Value) (xs ys : List Int) (w : World) (hu : Rd u64e w u xs) (hv : Rd u64e w v ys) (hlx : xs.length ≤ 549755813888) (hly : ys.length ≤ 549755813888) (hux : U64 xs) (huy : U64 ys) :
    Calls Tryd.prog 20 #[u, v, .int .i64 0] w fun e w' => ∃ v' zs, e = .returned v' ∧ Rd u64e w' v' zs ∧ BothB .and xs ys zs ∧ From w.heap.size v' ∧ Below w.heap.size w w' := by
  obtain ⟨A, c, rfl, _⟩ := hu.len
  obtain ⟨A2, c2, rfl, _⟩ := hv.len
  have HX := Lib.hid hux
  have HY := Lib.hid huy
  have RX := Lib.hid hu
  have RY := Lib.hid hv
  clear hux huy hu hv
  obtain ⟨n, hn⟩ : ∃ n : Nat, n = max xs.length ys.length := ⟨_, rfl⟩
  have hif : (if xs.length < ys.length then ((ys.length : Nat) : Int) else ((xs.length : Nat) : Int)) = (n : Int) := by split <;> omega
  have hn3 : n ≤ 549755813888 := by omega
  have HN := Lib.hid hn
  clear hn
  go_enter Tryd.func20, Tryd.ntmps20
  go_wp2_with fail
  go_loopw [7, 8, 9, 10, 11] (fun o i x y is wr => ∃ (k : Nat) (A' : Option Addr) (c' : Nat), k ≤ 64 * n ∧ i = .int .i64 k ∧ o = .slice A' k c' ∧ Hid (wr.ownsRow w.heap.size 4 1 (.slice A' k c') k ((truths (fun j => op3 .and (bitAt xs j) (bitAt ys j)) k).map boole)) ∧ Below w.heap.size w wr) (fun _ i _ _ _ _ => 64 * n - (intOf i).toNat)
  case atStart => exact ⟨0, none, 0, by omega, rfl, rfl, Lib.hid (World.ownsRow_nil _ _ _ _), Below.refl _ _⟩
  case round =>
    obtain ⟨k, A', c', hk, rfl, rfl, hown, hb⟩ := hrel
    by_cases hlt : k < 64 * n
    · have t0 : decide ((k : Int) < 64 * (n : Int)) = true := by rw [decide_eq_true_iff]; omega
      have hz : w.heap.size ≤ wr.heap.size := hb.size
      have RX' := Lib.hid (RX.out.below hb)
      have RY' := Lib.hid (RY.out.below hb)
      have hs := truths_snoc (fun j => op3 .and (bitAt xs j) (bitAt ys j)) k
      have hs : truths (fun j => op3 .and (bitAt xs j) (bitAt ys j)) (k + 1) = truths (fun j => op3 .and (bitAt xs j) (bitAt ys j)) k ++ [op3 .and (bitAt xs k) (bitAt ys k)] := hs
      rcases hx : bitAt xs k with _ | _
      all_goals rcases hy : bitAt ys k with _ | _
      all_goals
        rw [hx, hy] at hs
        replace hs := Lib.hid hs
        replace hx := Lib.hid hx
        replace hy := Lib.hid hy
        go_wp2_with fail
        refine (rhas_nat _ xs k _ RX'.out (by omega) HX.out (by omega)).mono ?_
        rintro e w' ⟨rfl, rfl⟩
        rw [hx.out]
        go_wp2_with fail
        refine (rhas_nat _ ys k _ RY'.out (by omega) HY.out (by omega)).mono ?_
        rintro e w' ⟨rfl, rfl⟩
        rw [hy.out]
        go_wp2_with (at_builtin; refine wpList_push rfl (.tmp 45) (.tmp 47) _ rfl w.heap.size 4 _ 1 Tryd.underlying51 bool_info rfl _ _ _ rfl hown.out _ rfl rfl (by unfold maxLen; omega) (by omega) hz ?_; intro v' w2 hown' hg hat)
        obtain ⟨A3, c3, rfl, -⟩ := own_form hown'
        have hn' := Lib.hid hown'
        have hb' := hb.grown hg hz (fun g e => (hown.out.lt g e).1)
        clear hown' hg hat
        go_wp2_with fail
        go_roundw
        case rel => exact ⟨k + 1, A3, c3, by omega, by go_num, rfl, Lib.hid (by rw [hs.out, List.map_append]; exact hn'.out), hb'⟩
        case measure => simp [intOf]; omega
    · obtain rfl : k = 64 * n := by omega
      have t0 : decide (((64 * n : Nat) : Int) < 64 * (n : Int)) = false := by rw [decide_eq_false_iff_not]; omega
      have hl9 : (truths (fun j => op3 .and (bitAt xs j) (bitAt ys j)) (64 * n)).length ≤ 70368744177664 := by rw [truths_len]; omega
      have hr := Rd.of_own (enc := boole) (xs := truths (fun j => op3 .and (bitAt xs j) (bitAt ys j)) (64 * n)) (w := wr) (base := w.heap.size) (e := 4) (v := .slice A' (64 * n) c') (by rw [truths_len]; exact hown.out)
      have H := Lib.hid (fun zs => bothB_of (op := .and) (xs := xs) (ys := ys) (zs := zs) HN.out)
      obtain ⟨tl, htl⟩ : ∃ tl, tl = truths (fun j => op3 .and (bitAt xs j) (bitAt ys j)) (64 * n) := ⟨_, rfl⟩
      rw [← htl] at hl9 hr H
      obtain ⟨N, hN⟩ : ∃ N, N = 64 * n := ⟨_, rfl⟩
      rw [← hN] at t0 hr ⊢
      clear hown htl hN hk
      replace hr := Lib.hid hr
      go_wp2_with fail
      refine (rof_ok _ tl _ hr.out hl9).mono ?_
      rintro e w2 ⟨v2, zs, rfl, hr2, hof, hf2, hb2⟩
      have hp := Lib.hid (H.out zs hof)
      have hf2 : From w.heap.size v2 := fun b hb' => Nat.le_trans hb.size (hf2 b hb')
      have hb := below_all hb hb2
      clear hof
      go_wp2_with fail
      go_ret
      exact ⟨_, _, rfl, hr2, hp.out, hf2, hb⟩
set_option maxHeartbeats 1600000 in
theorem rboth_or (u v : Value) (xs ys : List Int) (w : World) (hu : Rd u64e w u xs) (hv : Rd u64e w v ys) (hlx : xs.length ≤ 549755813888) (hly : ys.length ≤ 549755813888) (hux : U64 xs) (huy : U64 ys) :
    Calls Tryd.prog 20 #[u, v, .int .i64 1] w fun e w' => ∃ v' zs, e = .returned v' ∧ Rd u64e w' v' zs ∧ BothB .or xs ys zs ∧ From w.heap.size v' ∧ Below w.heap.size w w' := by
  obtain ⟨A, c, rfl, _⟩ := hu.len
  obtain ⟨A2, c2, rfl, _⟩ := hv.len
  have HX := Lib.hid hux
  have HY := Lib.hid huy
  have RX := Lib.hid hu
  have RY := Lib.hid hv
  clear hux huy hu hv
  obtain ⟨n, hn⟩ : ∃ n : Nat, n = max xs.length ys.length := ⟨_, rfl⟩
  have hif : (if xs.length < ys.length then ((ys.length : Nat) : Int) else ((xs.length : Nat) : Int)) = (n : Int) := by split <;> omega
  have hn3 : n ≤ 549755813888 := by omega
  have HN := Lib.hid hn
  clear hn
  go_enter Tryd.func20, Tryd.ntmps20
  go_wp2_with fail
  go_loopw [7, 8, 9, 10, 11] (fun o i x y is wr => ∃ (k : Nat) (A' : Option Addr) (c' : Nat), k ≤ 64 * n ∧ i = .int .i64 k ∧ o = .slice A' k c' ∧ Hid (wr.ownsRow w.heap.size 4 1 (.slice A' k c') k ((truths (fun j => op3 .or (bitAt xs j) (bitAt ys j)) k).map boole)) ∧ Below w.heap.size w wr) (fun _ i _ _ _ _ => 64 * n - (intOf i).toNat)
  case atStart => exact ⟨0, none, 0, by omega, rfl, rfl, Lib.hid (World.ownsRow_nil _ _ _ _), Below.refl _ _⟩
  case round =>
    obtain ⟨k, A', c', hk, rfl, rfl, hown, hb⟩ := hrel
    by_cases hlt : k < 64 * n
    · have t0 : decide ((k : Int) < 64 * (n : Int)) = true := by rw [decide_eq_true_iff]; omega
      have hz : w.heap.size ≤ wr.heap.size := hb.size
      have RX' := Lib.hid (RX.out.below hb)
      have RY' := Lib.hid (RY.out.below hb)
      have hs := truths_snoc (fun j => op3 .or (bitAt xs j) (bitAt ys j)) k
      have hs : truths (fun j => op3 .or (bitAt xs j) (bitAt ys j)) (k + 1) = truths (fun j => op3 .or (bitAt xs j) (bitAt ys j)) k ++ [op3 .or (bitAt xs k) (bitAt ys k)] := hs
      rcases hx : bitAt xs k with _ | _
      all_goals rcases hy : bitAt ys k with _ | _
      all_goals
        rw [hx, hy] at hs
        replace hs := Lib.hid hs
        replace hx := Lib.hid hx
        replace hy := Lib.hid hy
        go_wp2_with fail
        refine (rhas_nat _ xs k _ RX'.out (by omega) HX.out (by omega)).mono ?_
        rintro e w' ⟨rfl, rfl⟩
        rw [hx.out]
        go_wp2_with fail
        refine (rhas_nat _ ys k _ RY'.out (by omega) HY.out (by omega)).mono ?_
        rintro e w' ⟨rfl, rfl⟩
        rw [hy.out]
        go_wp2_with (at_builtin; refine wpList_push rfl (.tmp 45) (.tmp 47) _ rfl w.heap.size 4 _ 1 Tryd.underlying51 bool_info rfl _ _ _ rfl hown.out _ rfl rfl (by unfold maxLen; omega) (by omega) hz ?_; intro v' w2 hown' hg hat)
        obtain ⟨A3, c3, rfl, -⟩ := own_form hown'
        have hn' := Lib.hid hown'
        have hb' := hb.grown hg hz (fun g e => (hown.out.lt g e).1)
        clear hown' hg hat
        go_wp2_with fail
        go_roundw
        case rel => exact ⟨k + 1, A3, c3, by omega, by go_num, rfl, Lib.hid (by rw [hs.out, List.map_append]; exact hn'.out), hb'⟩
        case measure => simp [intOf]; omega
    · obtain rfl : k = 64 * n := by omega
      have t0 : decide (((64 * n : Nat) : Int) < 64 * (n : Int)) = false := by rw [decide_eq_false_iff_not]; omega
      have hl9 : (truths (fun j => op3 .or (bitAt xs j) (bitAt ys j)) (64 * n)).length ≤ 70368744177664 := by rw [truths_len]; omega
      have hr := Rd.of_own (enc := boole) (xs := truths (fun j => op3 .or (bitAt xs j) (bitAt ys j)) (64 * n)) (w := wr) (base := w.heap.size) (e := 4) (v := .slice A' (64 * n) c') (by rw [truths_len]; exact hown.out)
      have H := Lib.hid (fun zs => bothB_of (op := .or) (xs := xs) (ys := ys) (zs := zs) HN.out)
      obtain ⟨tl, htl⟩ : ∃ tl, tl = truths (fun j => op3 .or (bitAt xs j) (bitAt ys j)) (64 * n) := ⟨_, rfl⟩
      rw [← htl] at hl9 hr H
      obtain ⟨N, hN⟩ : ∃ N, N = 64 * n := ⟨_, rfl⟩
      rw [← hN] at t0 hr ⊢
      clear hown htl hN hk
      replace hr := Lib.hid hr
      go_wp2_with fail
      refine (rof_ok _ tl _ hr.out hl9).mono ?_
      rintro e w2 ⟨v2, zs, rfl, hr2, hof, hf2, hb2⟩
      have hp := Lib.hid (H.out zs hof)
      have hf2 : From w.heap.size v2 := fun b hb' => Nat.le_trans hb.size (hf2 b hb')
      have hb := below_all hb hb2
      clear hof
      go_wp2_with fail
      go_ret
      exact ⟨_, _, rfl, hr2, hp.out, hf2, hb⟩
set_option maxHeartbeats 1600000 in
theorem rboth_less (u v : Value) (xs ys : List Int) (w : World) (hu : Rd u64e w u xs) (hv : Rd u64e w v ys) (hlx : xs.length ≤ 549755813888) (hly : ys.length ≤ 549755813888) (hux : U64 xs) (huy : U64 ys) :
    Calls Tryd.prog 20 #[u, v, .int .i64 2] w fun e w' => ∃ v' zs, e = .returned v' ∧ Rd u64e w' v' zs ∧ BothB .andNot xs ys zs ∧ From w.heap.size v' ∧ Below w.heap.size w w' := by
  obtain ⟨A, c, rfl, _⟩ := hu.len
  obtain ⟨A2, c2, rfl, _⟩ := hv.len
  have HX := Lib.hid hux
  have HY := Lib.hid huy
  have RX := Lib.hid hu
  have RY := Lib.hid hv
  clear hux huy hu hv
  obtain ⟨n, hn⟩ : ∃ n : Nat, n = max xs.length ys.length := ⟨_, rfl⟩
  have hif : (if xs.length < ys.length then ((ys.length : Nat) : Int) else ((xs.length : Nat) : Int)) = (n : Int) := by split <;> omega
  have hn3 : n ≤ 549755813888 := by omega
  have HN := Lib.hid hn
  clear hn
  go_enter Tryd.func20, Tryd.ntmps20
  go_wp2_with fail
  go_loopw [7, 8, 9, 10, 11] (fun o i x y is wr => ∃ (k : Nat) (A' : Option Addr) (c' : Nat), k ≤ 64 * n ∧ i = .int .i64 k ∧ o = .slice A' k c' ∧ Hid (wr.ownsRow w.heap.size 4 1 (.slice A' k c') k ((truths (fun j => op3 .andNot (bitAt xs j) (bitAt ys j)) k).map boole)) ∧ Below w.heap.size w wr) (fun _ i _ _ _ _ => 64 * n - (intOf i).toNat)
  case atStart => exact ⟨0, none, 0, by omega, rfl, rfl, Lib.hid (World.ownsRow_nil _ _ _ _), Below.refl _ _⟩
  case round =>
    obtain ⟨k, A', c', hk, rfl, rfl, hown, hb⟩ := hrel
    by_cases hlt : k < 64 * n
    · have t0 : decide ((k : Int) < 64 * (n : Int)) = true := by rw [decide_eq_true_iff]; omega
      have hz : w.heap.size ≤ wr.heap.size := hb.size
      have RX' := Lib.hid (RX.out.below hb)
      have RY' := Lib.hid (RY.out.below hb)
      have hs := truths_snoc (fun j => op3 .andNot (bitAt xs j) (bitAt ys j)) k
      have hs : truths (fun j => op3 .andNot (bitAt xs j) (bitAt ys j)) (k + 1) = truths (fun j => op3 .andNot (bitAt xs j) (bitAt ys j)) k ++ [op3 .andNot (bitAt xs k) (bitAt ys k)] := hs
      rcases hx : bitAt xs k with _ | _
      all_goals rcases hy : bitAt ys k with _ | _
      all_goals
        rw [hx, hy] at hs
        replace hs := Lib.hid hs
        replace hx := Lib.hid hx
        replace hy := Lib.hid hy
        go_wp2_with fail
        refine (rhas_nat _ xs k _ RX'.out (by omega) HX.out (by omega)).mono ?_
        rintro e w' ⟨rfl, rfl⟩
        rw [hx.out]
        go_wp2_with fail
        refine (rhas_nat _ ys k _ RY'.out (by omega) HY.out (by omega)).mono ?_
        rintro e w' ⟨rfl, rfl⟩
        rw [hy.out]
        go_wp2_with (at_builtin; refine wpList_push rfl (.tmp 45) (.tmp 47) _ rfl w.heap.size 4 _ 1 Tryd.underlying51 bool_info rfl _ _ _ rfl hown.out _ rfl rfl (by unfold maxLen; omega) (by omega) hz ?_; intro v' w2 hown' hg hat)
        obtain ⟨A3, c3, rfl, -⟩ := own_form hown'
        have hn' := Lib.hid hown'
        have hb' := hb.grown hg hz (fun g e => (hown.out.lt g e).1)
        clear hown' hg hat
        go_wp2_with fail
        go_roundw
        case rel => exact ⟨k + 1, A3, c3, by omega, by go_num, rfl, Lib.hid (by rw [hs.out, List.map_append]; exact hn'.out), hb'⟩
        case measure => simp [intOf]; omega
    · obtain rfl : k = 64 * n := by omega
      have t0 : decide (((64 * n : Nat) : Int) < 64 * (n : Int)) = false := by rw [decide_eq_false_iff_not]; omega
      have hl9 : (truths (fun j => op3 .andNot (bitAt xs j) (bitAt ys j)) (64 * n)).length ≤ 70368744177664 := by rw [truths_len]; omega
      have hr := Rd.of_own (enc := boole) (xs := truths (fun j => op3 .andNot (bitAt xs j) (bitAt ys j)) (64 * n)) (w := wr) (base := w.heap.size) (e := 4) (v := .slice A' (64 * n) c') (by rw [truths_len]; exact hown.out)
      have H := Lib.hid (fun zs => bothB_of (op := .andNot) (xs := xs) (ys := ys) (zs := zs) HN.out)
      obtain ⟨tl, htl⟩ : ∃ tl, tl = truths (fun j => op3 .andNot (bitAt xs j) (bitAt ys j)) (64 * n) := ⟨_, rfl⟩
      rw [← htl] at hl9 hr H
      obtain ⟨N, hN⟩ : ∃ N, N = 64 * n := ⟨_, rfl⟩
      rw [← hN] at t0 hr ⊢
      clear hown htl hN hk
      replace hr := Lib.hid hr
      go_wp2_with fail
      refine (rof_ok _ tl _ hr.out hl9).mono ?_
      rintro e w2 ⟨v2, zs, rfl, hr2, hof, hf2, hb2⟩
      have hp := Lib.hid (H.out zs hof)
      have hf2 : From w.heap.size v2 := fun b hb' => Nat.le_trans hb.size (hf2 b hb')
      have hb := below_all hb hb2
      clear hof
      go_wp2_with fail
      go_ret
      exact ⟨_, _, rfl, hr2, hp.out, hf2, hb⟩
end Go.Proofs.YtibmjednieopfaaDoor
