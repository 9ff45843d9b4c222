/- Joined: MarkReached. -/
import Derived.Test.YtnoiepmapmcjdaaDoorMMB
set_option linter.unusedVariables false
set_option linter.unusedSimpArgs false
namespace Go.Proofs.YtnoiepmapmcjdaaDoor
open Go.RowKit Go.Shelf
theorem loroots {w0 : W0} {w : World} {q h m n : Nat} {K : MK} {objs : List (List Int)} (H : LO w0 w q h m n K objs) (v : Value) (l : List Int) (hv : Rd u8e w v l) (hl : l.length ≤ 20) (hbd : ∀ x ∈ l, 0 ≤ x ∧ x ≤ 255) :
    Calls Tryd.prog 13 #[.pointer (some ⟨q, 0, none⟩), v] w fun e w' => ∃ va vb, e = .returned (.tuple #[va, vb]) ∧ Rd i64e w' va ((nums n l).map ptrI) ∧ Rd i64e w' vb (nums n l) ∧ (∀ b, va.ownBlock = some b → w.heap.size ≤ b) ∧ (∀ b, vb.ownBlock = some b → w.heap.size ≤ b) ∧ Below w.heap.size w w' := by
  obtain ⟨S, H⟩ := H
  exact roots_w w0 w q h m n S K _ H v l hv hl hbd
set_option maxHeartbeats 8000000 in
set_option maxRecDepth 100000 in
theorem mreached_ok (n0 : Int) (v1 v2 : Value) (l : List MAct) (rs : List Int) (w : World) (h0 : 0 ≤ n0 ∧ n0 ≤ 255) (hv : RdC 5 mactC w v1 l) (hok : ∀ x ∈ l, MActOk w x) (hr : Rd u8e w v2 rs) (hrb : ∀ x ∈ rs, 0 ≤ x ∧ x ≤ 255) (hT : TabW w) :
    Calls Tryd.prog 3 #[.int .u8 n0, v1, v2] w fun e w' => e = .returned (.bool true) ∧ Below w.heap.size w w' := by
  obtain ⟨A, c, rfl, hlc, hcm, -⟩ := hv.len
  obtain ⟨Ar, cr, rfl, -, hrc, -⟩ := hr.len
  have hl9 : (l.length : Int) ≤ 9223372036854775807 := by unfold maxLen at hcm; omega
  have HV := Lib.hid (fun wx (bx : Below w.heap.size w wx) => hv.below bx)
  have HO := Lib.hid hok
  have HR := Lib.hid (fun wx (bx : Below w.heap.size w wx) => hr.below bx)
  have HA := Lib.hid (malive_ok w hT)
  replace hrb := Lib.hid hrb
  replace hT := Lib.hid hT
  obtain ⟨n, hn⟩ : ∃ n : Nat, n0 % 12 = (n : Int) := ⟨(n0 % 12).toNat, by omega⟩
  have hn11 : n ≤ 11 := by omega
  clear hv hok hr
  go_enter Tryd.func3, Tryd.ntmps3
  go_wp2_with fail
  refine HA.out.mono ?_
  rintro e w1 ⟨rfl, b1⟩
  have HB := Lib.hid (lobegin hn11 (hT.out.below b1))
  clear HA hT
  go_wp2_with fail
  rw [hn]
  replace hn := Lib.hid hn
  refine HB.out.mono ?_
  rintro e w2 ⟨q, h, m, rfl, H2⟩
  clear HB
  have b2 := b1.trans (H2.b.mono b1.size)
  have HH := Lib.hid (heavy_w _ l w2 (HV.out w2 b2) (fun x hx => (HO.out x hx).below b2))
  replace H2 := Lib.hid H2
  go_wp2_with fail
  refine HH.out.mono ?_
  rintro e w3 ⟨rfl, c3⟩
  have b3 := b2.trans (c3.mono b2.size)
  have H3 := Lib.hid (H2.out.below c3)
  clear HH c3 H2
  by_cases hhv : mHeavy l = true
  · rw [hhv]
    go_wp2_with fail
    go_ret
    exact ⟨rfl, b3⟩
  rw [show mHeavy l = false by simpa using hhv]
  replace hhv := Lib.hid hhv
  by_cases h20 : 20 < rs.length
  · have t1 : (20 : Int) < (rs.length : Int) := by omega
    go_wp2_with fail
    go_ret
    exact ⟨rfl, b3⟩
  have t1 : decide ((20 : Int) < (rs.length : Int)) = false := by rw [decide_eq_false_iff_not]; omega
  go_wp2_with fail
  -- the pointers are set
  go_loopw [38] (fun i wr => ∃ j : Nat, j ≤ l.length ∧ i = .int .i64 j ∧ Hid (LO (ofW w1) wr q h m n mNew ((l.take j).foldl (actO n) (List.replicate n zero4)))) (fun i _ => l.length - (intOf i).toNat)
  case atStart => exact ⟨0, by omega, rfl, H3⟩
  case round =>
    clear H3 b3 b2 t1
    obtain ⟨j, hj, rfl, H⟩ := hrel
    have bw : Below w.heap.size w wr := b1.trans (H.out.b.mono b1.size)
    by_cases hlt : j < l.length
    · have t0 : (j : Int) < (l.length : Int) := by omega
      obtain ⟨b, o, rfl, _, hc⟩ := (HV.out wr bw).at_ hlt
      obtain ⟨x, hx⟩ : ∃ x, l[j] = x := ⟨_, rfl⟩
      have hxo := HO.out _ (List.getElem_mem hlt)
      have htk : (l.take (j + 1)).foldl (actO n) (List.replicate n zero4) = actO n ((l.take j).foldl (actO n) (List.replicate n zero4)) x := by
        rw [List.take_add_one, List.getElem?_eq_getElem hlt, List.foldl_append, hx]
        rfl
      rw [hx] at hc hxo
      obtain ⟨kind, xa, xb, xk, rv, rl⟩ := x
      have c0 : wr.cell? ⟨b, o + j * 5, none⟩ = some (.int .u8 kind) := hc 0 _ rfl
      have c1 : wr.cell? ⟨b, o + j * 5 + 1, none⟩ = some (.int .u8 xa) := hc 1 _ rfl
      have c2 : wr.cell? ⟨b, o + j * 5 + 2, none⟩ = some (.int .u8 xb) := hc 2 _ rfl
      have c3 : wr.cell? ⟨b, o + j * 5 + 3, none⟩ = some (.int .u8 xk) := hc 3 _ rfl
      have c4 := hc 4 _ rfl
      obtain ⟨Av, cv, hrv, -⟩ := hxo.rd.len
      dsimp only at hrv c4
      rw [hrv] at c4
      replace c4 : wr.cell? ⟨b, o + j * 5 + 4, none⟩ = some (.slice Av rl.length cv) := c4
      have ha := hxo.a
      have hb := hxo.b
      have hk := hxo.k
      dsimp only at ha hb hk
      replace htk : _ = setO _ (xa % ((n : Int) + 1)) (xk % 4) (xb % ((n : Int) + 1)) := htk
      replace htk := Lib.hid htk
      replace hrv := Lib.hid hrv
      clear hc hx hxo
      go_wp2_with (first
        | (refine wpList_new rfl (.alloc 30) rfl wr.heap.size rfl 30 #[.int .u8 0, .int .u8 0, .int .u8 0, .int .u8 0, .slice none 0 0] (by kernel_rfl) ?_; intro w1 hs1 hb1 hB1; have HB1 := Lib.hid hB1; clear hB1)
        | (refine wpList_store_blk rfl 30 (.tmp 10) (.tmp 41) rfl wr.heap.size rfl #[.int .u8 kind, .int .u8 xa, .int .u8 xb, .int .u8 xk, .slice Av rl.length cv] rfl 30 #[.int .u8 0, .int .u8 0, .int .u8 0, .int .u8 0, .slice none 0 0] HB1.out mact_size rfl (by simp [Value.oneCell']) ?_; intro w2 hB2 hg2 hs2; refine stop_here ?_))
      have hb2 : Below wr.heap.size wr w2 := hb1.grown hg2 hb1.size (fun k hk => by cases hk; exact Nat.le_refl _)
      have e1 : w2.cell? ⟨wr.heap.size, 1, none⟩ = some (.int .u8 xa) := hB2.cell 1
      have e2 : w2.cell? ⟨wr.heap.size, 2, none⟩ = some (.int .u8 xb) := hB2.cell 2
      have e3 : w2.cell? ⟨wr.heap.size, 3, none⟩ = some (.int .u8 xk) := hB2.cell 3
      have hgl : wr.heap.size < w2.heap.size := hB2.lt
      have H2 := H.out.below hb2
      obtain ⟨Ap, cp, hp1, _⟩ := H2.ptrs
      have hq2 := H2.cells.2.2.1
      obtain ⟨g, hg⟩ : ∃ g, g = wr.heap.size := ⟨_, rfl⟩
      rw [← hg] at e1 e2 e3 hgl ⊢
      have hd := H2.below ((Below.refl w2.heap.size w2).drew)
      have wa : Hid (IntKind.i64.wrap xa = xa) := Lib.hid (by rw [IntKind.wrap_i64]; omega)
      have wb : Hid (IntKind.i64.wrap xb = xb) := Lib.hid (by rw [IntKind.wrap_i64]; omega)
      have wk : Hid (IntKind.i64.wrap xk = xk) := Lib.hid (by rw [IntKind.wrap_i64]; omega)
      have wn : Hid (IntKind.i64.wrap ((n : Int) + 1) = (n : Int) + 1) := Lib.hid (by rw [IntKind.wrap_i64]; omega)
      have nz : Hid (((n : Int) + 1 = 0) = False) := Lib.hid (by rw [eq_iff_iff, iff_false]; omega)
      have ma : Hid (IntKind.i64.wrap (xa.tmod ((n : Int) + 1)) = xa % ((n : Int) + 1)) := Lib.hid (by rw [Int.tmod_eq_emod_of_nonneg ha.1, IntKind.wrap_i64]; have := num_mod (n := n) xa; omega)
      have mb : Hid (IntKind.i64.wrap (xb.tmod ((n : Int) + 1)) = xb % ((n : Int) + 1)) := Lib.hid (by rw [Int.tmod_eq_emod_of_nonneg hb.1, IntKind.wrap_i64]; have := num_mod (n := n) xb; omega)
      have mk : Hid (IntKind.i64.wrap (xk.tmod 4) = xk % 4) := Lib.hid (by rw [Int.tmod_eq_emod_of_nonneg hk.1, IntKind.wrap_i64]; omega)
      have ta : Hid (xa.tmod ((n : Int) + 1) = xa % ((n : Int) + 1)) := Lib.hid (Int.tmod_eq_emod_of_nonneg ha.1)
      have tb : Hid (xb.tmod ((n : Int) + 1) = xb % ((n : Int) + 1)) := Lib.hid (Int.tmod_eq_emod_of_nonneg hb.1)
      have tk : Hid (xk.tmod 4 = xk % 4) := Lib.hid (Int.tmod_eq_emod_of_nonneg hk.1)
      have HS := Lib.hid (lset hd (xa % ((n : Int) + 1)) (xk % 4) (xb % ((n : Int) + 1)) (num_mod xa) (by omega) (num_mod xb))
      clear HB1 hB2 hg2 hs2 hs1 hb1 hb2 c0 c1 c2 c3 c4 H hg H2 hd bw
      refine go_on ?_
      go_wp2_with fail
      have hS0 : (fun X : World => Below w2.heap.size w2 X) w2.drew := (Below.refl _ _).drew
      refine wp_T (by kernel_rfl) 25 (fun X : World => Below w2.heap.size w2 X) ?_
      refine wpAnyT_takeW (i := 0) (v := .pointer (some ⟨q, 0, none⟩)) rfl (by kernel_rfl) (fun _ _ _ hp => hp) (Or.inl ⟨by rfl, fun X _ => by go_simp⟩) hS0 ?_
      simp only [Act.put, List.setIfInBounds_toArray, List.set_cons_zero, List.set_cons_succ]
      refine wpAnyT_takeW (i := 1) (v := .pointer (some ⟨g, 1, none⟩)) rfl (by kernel_rfl) (fun _ _ _ hp => hp) (Or.inl ⟨by rfl, fun X _ => by go_simp⟩) hS0 ?_
      simp only [Act.put, List.setIfInBounds_toArray, List.set_cons_zero, List.set_cons_succ]
      refine wpAnyT_takeW (i := 4) (v := .pointer (some ⟨q, 0, none⟩)) rfl (by kernel_rfl) (fun _ _ _ hp => hp) (Or.inl ⟨by rfl, fun X _ => by go_simp⟩) hS0 ?_
      simp only [Act.put, List.setIfInBounds_toArray, List.set_cons_zero, List.set_cons_succ]
      refine wpAnyT_takeW (i := 5) (v := .pointer (some ⟨q, 0, none⟩)) rfl (by kernel_rfl) (fun _ _ _ hp => hp) (Or.inl ⟨by rfl, fun X _ => by go_simp⟩) hS0 ?_
      simp only [Act.put, List.setIfInBounds_toArray, List.set_cons_zero, List.set_cons_succ]
      refine wpAnyT_takeW (i := 6) (v := .pointer (some ⟨q, 2, none⟩)) rfl (by kernel_rfl) (fun _ _ _ hp => hp) (Or.inl ⟨by rfl, fun X _ => by go_simp⟩) hS0 ?_
      simp only [Act.put, List.setIfInBounds_toArray, List.set_cons_zero, List.set_cons_succ]
      refine wpAnyT_takeW (i := 11) (v := .pointer (some ⟨g, 3, none⟩)) rfl (by kernel_rfl) (fun _ _ _ hp => hp) (Or.inl ⟨by rfl, fun X _ => by go_simp⟩) hS0 ?_
      simp only [Act.put, List.setIfInBounds_toArray, List.set_cons_zero, List.set_cons_succ]
      refine wpAnyT_takeW (i := 15) (v := .pointer (some ⟨g, 2, none⟩)) rfl (by kernel_rfl) (fun _ _ _ hp => hp) (Or.inl ⟨by rfl, fun X _ => by go_simp⟩) hS0 ?_
      simp only [Act.put, List.setIfInBounds_toArray, List.set_cons_zero, List.set_cons_succ]
      refine wpAnyT_takeW (i := 18) (v := .pointer (some ⟨q, 0, none⟩)) rfl (by kernel_rfl) (fun _ _ _ hp => hp) (Or.inl ⟨by rfl, fun X _ => by go_simp⟩) hS0 ?_
      simp only [Act.put, List.setIfInBounds_toArray, List.set_cons_zero, List.set_cons_succ]
      refine wpAnyT_takeW (i := 19) (v := .pointer (some ⟨q, 0, none⟩)) rfl (by kernel_rfl) (fun _ _ _ hp => hp) (Or.inl ⟨by rfl, fun X _ => by go_simp⟩) hS0 ?_
      simp only [Act.put, List.setIfInBounds_toArray, List.set_cons_zero, List.set_cons_succ]
      refine wpAnyT_takeW (i := 20) (v := .pointer (some ⟨q, 2, none⟩)) rfl (by kernel_rfl) (fun _ _ _ hp => hp) (Or.inl ⟨by rfl, fun X _ => by go_simp⟩) hS0 ?_
      simp only [Act.put, List.setIfInBounds_toArray, List.set_cons_zero, List.set_cons_succ]
      refine wpAnyT_takeC (i := 2) (v := .int .u8 xa) [3, 10] rfl (by kernel_rfl) (fun _ _ _ hp => hp) (Or.inl ⟨by kernel_rfl, fun X hX => by have y1 := (hX.cell (p := ⟨g, 1, none⟩) hgl).trans e1; go_simp⟩) hS0 ?_
      simp only [Act.put, List.setIfInBounds_toArray, List.set_cons_zero, List.set_cons_succ]
      refine wpAnyT_takeC (i := 7) (v := .slice Ap n cp) [8, 9, 10] rfl (by kernel_rfl) (fun _ _ _ hp => hp) (Or.inl ⟨by kernel_rfl, fun X hX => by have y1 := (hX.cell (p := ⟨q, 2, none⟩) hq2).trans hp1; go_simp⟩) hS0 ?_
      simp only [Act.put, List.setIfInBounds_toArray, List.set_cons_zero, List.set_cons_succ]
      refine wpAnyT_takeC (i := 12) (v := .int .u8 xk) [13, 14] rfl (by kernel_rfl) (fun _ _ _ hp => hp) (Or.inl ⟨by kernel_rfl, fun X hX => by have y1 := (hX.cell (p := ⟨g, 3, none⟩) hgl).trans e3; go_simp⟩) hS0 ?_
      simp only [Act.put, List.setIfInBounds_toArray, List.set_cons_zero, List.set_cons_succ]
      refine wpAnyT_takeC (i := 16) (v := .int .u8 xb) [17, 24] rfl (by kernel_rfl) (fun _ _ _ hp => hp) (Or.inl ⟨by kernel_rfl, fun X hX => by have y1 := (hX.cell (p := ⟨g, 2, none⟩) hgl).trans e2; go_simp⟩) hS0 ?_
      simp only [Act.put, List.setIfInBounds_toArray, List.set_cons_zero, List.set_cons_succ]
      refine wpAnyT_takeC (i := 21) (v := .slice Ap n cp) [22, 23, 24] rfl (by kernel_rfl) (fun _ _ _ hp => hp) (Or.inl ⟨by kernel_rfl, fun X hX => by have y1 := (hX.cell (p := ⟨q, 2, none⟩) hq2).trans hp1; go_simp⟩) hS0 ?_
      simp only [Act.put, List.setIfInBounds_toArray, List.set_cons_zero, List.set_cons_succ]
      refine wpAnyT_takeW (i := 3) (v := .int .i64 xa) rfl (by kernel_rfl) (fun _ _ _ hp => hp) (Or.inl ⟨by rfl, fun X _ => by have waz := wa.out; go_simp⟩) hS0 ?_
      simp only [Act.put, List.setIfInBounds_toArray, List.set_cons_zero, List.set_cons_succ]
      refine wpAnyT_takeW (i := 8) (v := .int .i64 n) rfl (by kernel_rfl) (fun _ _ _ hp => hp) (Or.inl ⟨by rfl, fun X _ => by go_simp⟩) hS0 ?_
      simp only [Act.put, List.setIfInBounds_toArray, List.set_cons_zero, List.set_cons_succ]
      refine wpAnyT_takeW (i := 9) (v := .int .i64 ((n : Int) + 1)) rfl (by kernel_rfl) (fun _ _ _ hp => hp) (Or.inl ⟨by rfl, fun X _ => by have wnz := wn.out; go_simp⟩) hS0 ?_
      simp only [Act.put, List.setIfInBounds_toArray, List.set_cons_zero, List.set_cons_succ]
      refine wpAnyT_takeW (i := 10) (v := .int .i64 (xa % ((n : Int) + 1))) rfl (by kernel_rfl) (fun _ _ _ hp => hp) (Or.inl ⟨by rfl, fun X _ => by have nzz := nz.out; have maz := ma.out; have taz := ta.out; go_simp⟩) hS0 ?_
      simp only [Act.put, List.setIfInBounds_toArray, List.set_cons_zero, List.set_cons_succ]
      refine wpAnyT_takeW (i := 13) (v := .int .i64 xk) rfl (by kernel_rfl) (fun _ _ _ hp => hp) (Or.inl ⟨by rfl, fun X _ => by have wkz := wk.out; go_simp⟩) hS0 ?_
      simp only [Act.put, List.setIfInBounds_toArray, List.set_cons_zero, List.set_cons_succ]
      refine wpAnyT_takeW (i := 14) (v := .int .i64 (xk % 4)) rfl (by kernel_rfl) (fun _ _ _ hp => hp) (Or.inl ⟨by rfl, fun X _ => by have mkz := mk.out; have tkz := tk.out; go_simp⟩) hS0 ?_
      simp only [Act.put, List.setIfInBounds_toArray, List.set_cons_zero, List.set_cons_succ]
      refine wpAnyT_takeW (i := 17) (v := .int .i64 xb) rfl (by kernel_rfl) (fun _ _ _ hp => hp) (Or.inl ⟨by rfl, fun X _ => by have wbz := wb.out; go_simp⟩) hS0 ?_
      simp only [Act.put, List.setIfInBounds_toArray, List.set_cons_zero, List.set_cons_succ]
      refine wpAnyT_takeW (i := 22) (v := .int .i64 n) rfl (by kernel_rfl) (fun _ _ _ hp => hp) (Or.inl ⟨by rfl, fun X _ => by go_simp⟩) hS0 ?_
      simp only [Act.put, List.setIfInBounds_toArray, List.set_cons_zero, List.set_cons_succ]
      refine wpAnyT_takeW (i := 23) (v := .int .i64 ((n : Int) + 1)) rfl (by kernel_rfl) (fun _ _ _ hp => hp) (Or.inl ⟨by rfl, fun X _ => by have wnz := wn.out; go_simp⟩) hS0 ?_
      simp only [Act.put, List.setIfInBounds_toArray, List.set_cons_zero, List.set_cons_succ]
      refine wpAnyT_takeW (i := 24) (v := .int .i64 (xb % ((n : Int) + 1))) rfl (by kernel_rfl) (fun _ _ _ hp => hp) (Or.inl ⟨by rfl, fun X _ => by have nzz := nz.out; have mbz := mb.out; have tbz := tb.out; go_simp⟩) hS0 ?_
      simp only [Act.put, List.setIfInBounds_toArray, List.set_cons_zero, List.set_cons_succ]
      refine wpAnyT_one (i := 25) rfl (by kernel_rfl) (by rfl) ?_
      intro K1 hK1
      go_simp
      refine (HS.out).mono ?_
      rintro e w4 ⟨rfl, H4⟩
      dsimp only
      refine hK1.out _ _ (fun hh => absurd rfl hh) ?_
      (try simp only [Act.put, List.setIfInBounds_toArray, List.set_cons_zero, List.set_cons_succ])
      refine wpAnyT_lat2 (i := 26) rfl (by kernel_rfl) (by rfl) (by kernel_rfl) ?_
      intro K2 hK2
      go_simp
      refine hK2.out _ _ ?_
      (try simp only [Act.put, List.setIfInBounds_toArray, List.set_cons_zero, List.set_cons_succ])
      refine wpAnyT_done (by kernel_rfl) ?_ _
      (try simp only [Act.put, List.setIfInBounds_toArray, List.set_cons_zero, List.set_cons_succ])
      clear hK1 K1 hK2 K2
      rw [← htk.out] at H4
      replace H4 := Lib.hid H4
      clear HS e1 e2 e3 hgl hp1 hq2 hS0 wa wb wk wn nz ma mb mk ta tb tk
      go_wp2_with fail
      go_roundw
      case rel => exact ⟨j + 1, by omega, by go_num, H4⟩
      case measure => simp [intOf]; omega
    · obtain rfl : j = l.length := by omega
      rw [List.take_length] at H
      obtain ⟨objs, hobjs⟩ : ∃ objs, objs = l.foldl (actO n) (List.replicate n zero4) := ⟨_, rfl⟩
      rw [← hobjs] at H
      have HRo := Lib.hid (loroots H.out _ rs (HR.out wr bw) (by omega) hrb.out)
      clear hobjs
      go_wp2_with fail
      refine HRo.out.mono ?_
      rintro e w5 ⟨va, vb, rfl, ra, rb, fa, fb, b5⟩
      have rbd : ∀ b ∈ nums n rs, 0 ≤ b ∧ b ≤ n := nums_bd
      have rl : (nums n rs).length ≤ 20 := by simp [nums]; omega
      obtain ⟨Aa, ca, rfl, -⟩ := ra.len
      obtain ⟨Ab, cb, rfl, -⟩ := rb.len
      obtain ⟨ks, hks⟩ : ∃ ks, ks = nums n rs := ⟨_, rfl⟩
      rw [← hks] at ra rb rbd rl fa ⊢
      rw [List.length_map] at ra fa ⊢
      rw [← hks] at fb
      have HBe := Lib.hid (lobeg H.out rfl b5 _ ks rl rbd ra fa)
      have H5 := H.out.below b5
      have p1 := H5.cells.2.1
      have rb' := Lib.hid rb
      replace fb := Lib.hid fb
      have rbd' := Lib.hid rbd
      replace H5 := Lib.hid H5
      clear HRo ra fa hks rb rbd H
      go_wp2_with fail
      refine HBe.out.mono ?_
      rintro e w6 ⟨rfl, K1, H6, ck1, on1⟩
      have HF := Lib.hid (lofin H6 _ ck1 on1)
      replace H6 := Lib.hid H6
      clear HBe p1
      go_wp2_with fail
      refine HF.out.mono ?_
      rintro e w7 ⟨rfl, K9, X9, H7, ck9, hg9, on9, hP⟩
      obtain ⟨S7, C7⟩ := H7.c
      have hT9 : Tri objs n ks X9 := hP (Tri objs n ks) (fun Y hy ho hp => tri_step C7.bds hy ho hp) (tri_start rbd'.out)
      have hwr : Hid (∀ i, i < n → (rReach objs n ks).getD (i + 1) false = K9.seen (4 * (i : Int) + 1)) := Lib.hid fun i hi => white_reach C7.bds rbd'.out ck9 hg9 hT9 hi
      have HE := Lib.hid (loend H7 on9)
      have p1 := H7.cells.2.1
      have hol := Lib.hid C7.ol
      have h4 := Lib.hid C7.four
      have hbds := Lib.hid C7.bds
      clear HF hP ck9 ck1 on1 hg9 hT9 C7 on9 H6
      replace H7 := Lib.hid H7
      go_wp2_with fail
      refine HE.out.mono ?_
      rintro e w8 ⟨ve, rfl, re, H8⟩
      obtain ⟨Ae, ce, rfl, -⟩ := re.len
      obtain ⟨P8, Ao, co, o1, o2⟩ := H8.obs
      have hb8 := b1.trans (H8.b.mono b1.size)
      have HRe := Lib.hid (reach_w n _ _ objs ks w8 o2 hol.out hn11 h4.out hbds.out (H8.rd rb'.out fb.out) (by omega) rbd'.out)
      obtain ⟨Ap, cp, hpf⟩ := H8.ptrs_far
      have hpt : (ptrsN n).length = n := ptrs_len n
      obtain ⟨wl, hwl⟩ : ∃ wl, wl = (keepP K9.seen (ptrsN n)).length := ⟨_, rfl⟩
      have hwl2 : wl ≤ n := Nat.le_trans (hwl ▸ List.length_filter_le _ _) (Nat.le_of_eq hpt)
      rw [← hwl] at re ⊢
      replace hwl := Lib.hid hwl
      replace hpt := Lib.hid hpt
      have re' := Lib.hid re
      have p8 := H8.cells.2.2.1
      replace hpf := Lib.hid hpf
      replace hb8 := Lib.hid hb8
      replace hb8 := Lib.hid hb8
      clear re HE hol h4 hbds H7 rb' rbd' o2 H8 p1 fb
      go_wp2_with fail
      refine HRe.out.mono ?_
      rintro e w9 ⟨vr, rfl, hown, b9⟩
      obtain ⟨A9, c9, rfl, -⟩ := own_form hown
      obtain ⟨g9, rfl, hg9, hg9l⟩ := own_addr hown (by omega)
      have p2 := (hpf.out w9 b9).1
      replace hown := Lib.hid hown
      clear HRe o1
      go_wp2_with fail
      clear p2
      go_loopw [16, 108] (fun kv i wr => ∃ j : Nat, j ≤ n ∧ i = .int .i64 j ∧ kv = .int .i64 ((keepP K9.seen ((ptrsN n).take j)).length : Nat) ∧ Below w9.heap.size w9 wr) (fun _ i _ => n - (intOf i).toNat)
      case atStart => exact ⟨0, by omega, rfl, rfl, Below.refl _ _⟩
      case round =>
        obtain ⟨j, hj, rfl, rfl, hbw⟩ := hrel
        by_cases hlt : j < n
        · have t0 : (j : Int) < (n : Int) := by omega
          have hjp : j < (ptrsN n).length := by rw [hpt.out]; exact hlt
          have hpj : (ptrsN n)[j] = 4 * (j : Int) + 1 := ptrs_at hjp
          have hkt := keepP_take K9.seen (ptrsN n) hjp
          have hka := keepP_at K9.seen (ptrsN n) hjp
          rw [hpj] at hkt hka
          have hrw := hwr.out j hlt
          have hlr : (rReach objs n ks).length = n + 1 := by
            unfold rReach
            rw [List.length_set, rRounds_len, setBs_len]
            simp
          have cr1 : wr.cell? ⟨g9, j + 1, none⟩ = some (.bool (K9.seen (4 * (j : Int) + 1))) := by
            have := hown.out.cellAt (j + 1) (by omega)
            rw [World.cell?_of_block (hbw.block g9 hg9l), this, List.getElem?_map, List.getElem?_eq_getElem (by omega), ← hrw]
            simp [List.getD, List.getElem?_eq_getElem (show j + 1 < (rReach objs n ks).length by omega)]
          have b9w := b9.trans (hbw.mono b9.size)
          obtain ⟨p2, rp⟩ := hpf.out wr b9w
          obtain ⟨bp, op, rfl, _, cpj⟩ := rp.at_ hjp
          rw [hpj] at cpj
          replace cpj : wr.cell? ⟨bp, op + j, none⟩ = some (.int .i64 (4 * (j : Int) + 1)) := cpj
          have rew := re'.out.below b9w
          obtain ⟨kk, hkk⟩ : ∃ kk, kk = (keepP K9.seen ((ptrsN n).take j)).length := ⟨_, rfl⟩
          obtain ⟨kk1, hkk1⟩ : ∃ kk1, kk1 = (keepP K9.seen ((ptrsN n).take (j + 1))).length := ⟨_, rfl⟩
          rw [← hkk] at hkt hka ⊢
          rw [← hkk1] at hkt
          have hkj : kk ≤ j := by rw [hkk]; refine Nat.le_trans (List.length_filter_le _ _) ?_; rw [List.length_take]; omega
          have hj1 : (j : Int) + 1 < (n : Int) + 1 := by omega
          replace hkk1 := Lib.hid hkk1
          replace hkk := Lib.hid hkk
          rw [← hwl.out] at hka
          replace b9w := Lib.hid b9w
          clear hpj hrw hlr rp hjp
          rcases hs : K9.seen (4 * (j : Int) + 1) with _ | _
          · rw [hs] at hkt cr1 hka
            obtain ⟨hkl, hke⟩ := hka rfl
            have t2 : decide ((wl : Int) ≤ (kk : Int)) = false := by rw [decide_eq_false_iff_not]; omega
            have t3 : (kk : Int) < (wl : Int) := by omega
            have t4 : decide (wl ≤ kk) = false := by rw [decide_eq_false_iff_not]; omega
            have hk1 : kk1 = kk + 1 := by simpa using hkt
            have hkl2 : kk < (keepP K9.seen (ptrsN n)).length := by rw [← hwl.out]; exact hkl
            obtain ⟨be, oe, rfl, _, cek⟩ := rew.at_ hkl2
            rw [List.getElem?_eq_getElem hkl2, Option.some.injEq] at hke
            rw [hke] at cek
            replace cek : wr.cell? ⟨be, oe + kk, none⟩ = some (.int .i64 (4 * (j : Int) + 1)) := cek
            replace hk1 := Lib.hid hk1
            clear hkt hka hs hke hkl2 hkl rew
            go_wp2_with fail
            go_quiet (fail)
            have hb4 : Below w9.heap.size w9 (wr.drewN nq) := hbw.trans ((below_drewN (Below.refl _ _) nq).mono hbw.size)
            generalize wr.drewN nq = w10 at hb4 ⊢
            clear cr1 cpj cek p2 hbw b9w
            go_wp2_with fail
            go_roundw
            case rel => exact ⟨j + 1, by omega, by go_num, by rw [← hkk1.out, hk1.out]; go_num, hb4⟩
            case measure => simp [intOf]; omega
          · rw [hs] at hkt cr1
            have hk1 : kk1 = kk := by simpa using hkt
            replace hk1 := Lib.hid hk1
            clear hkt hka hs rew cpj p2 b9w
            go_wp2_with fail
            go_roundw
            case rel => exact ⟨j + 1, by omega, by go_num, by rw [← hkk1.out, hk1.out], hbw⟩
            case measure => simp [intOf]; omega
        · obtain rfl : j = n := by omega
          rw [List.take_of_length_le (by rw [hpt.out]; exact Nat.le_refl _), ← hwl.out]
          have hb10 := hb8.out.out.trans ((b9.trans (hbw.mono b9.size)).mono hb8.out.out.size)
          replace hb10 := Lib.hid hb10
          clear hbw b9
          go_wp2_with fail
          go_ret
          exact ⟨rfl, hb10.out⟩
end Go.Proofs.YtnoiepmapmcjdaaDoor
