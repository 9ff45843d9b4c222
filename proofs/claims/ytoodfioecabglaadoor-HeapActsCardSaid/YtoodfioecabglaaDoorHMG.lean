/- Joined: HeapRefG. -/
import Derived.Test.YtoodfioecabglaaDoorHMA
set_option linter.unusedVariables false
set_option linter.unusedSimpArgs false
namespace Go.Proofs.YtoodfioecabglaaDoor
open Go.RowKit Go.Shelf
theorem range7 {Q : Nat → Prop} {w : World} {g : Nat} {S : HS} {vw vc vo : Value} {f : Nat → Value} (H : RBox Q w g S vw vc f vo) : w.rangeAt g 0 [vw, vc, f 0, f 1, f 2, f 3, vo] := World.rangeAt_of_block H.blk 0 7
set_option maxHeartbeats 12800000 in
set_option maxRecDepth 100000 in
theorem ralloc_yes {Q : Nat → Prop} (S : HS) (vw vc vo : Value) (f : Nat → Value) (w : World) (H : RIn Q w S vw vc f vo) (hQ : New Q w) (I : Inv S) (n mask junk : Int) (hm0 : 0 ≤ mask) (hm1 : mask ≤ 255) (h1 : 1 ≤ n) (h6 : n ≤ 6) (hmk : mask / 2 ^ n.toNat = 0) (hf : sFits S n = true) :
    Calls Tryd.prog 22 #[.agg (rcells vw vc f vo), .int .i64 n, .int .u8 mask, .int .i64 junk] w (RetHPE Q w (sAlloc S n mask junk).1 (sAlloc S n mask junk).2.1 (sAlloc S n mask junk).2.2) := by
  have SZ := Lib.hid rh_size
  have O0 := Lib.hid (slices_one H.slices)
  have hmk' : decide (mask / 2 ^ n.toNat ≠ 0) = false := by rw [decide_eq_false_iff_not]; simp [hmk]
  have HV := Lib.hid (fun wx => show Calls Tryd.prog 47 #[.int .u8 mask, .int .i64 n] wx fun e w' => e = .returned (.bool false) ∧ wx = w' by rw [← hmk']; exact rover_ok mask n wx hm0 hm1 h1 h6)
  have ea : sAlloc S n mask junk = (sTake (sRoom S (classNat n)) (classNat n) n mask junk, lastOf ((sRoom S (classNat n)).free (classNat n)), 0) := by
    unfold sAlloc
    rw [if_neg (by omega), if_neg (by rw [hf]; simp)]
  rw [ea]
  obtain ⟨r1, r2, r3, r4, r5, -⟩ := room_inv I hf
  have hrm := (fits_room hf).2.2
  obtain ⟨e1, e2⟩ := classNat_eq h1 h6
  obtain ⟨c, hc⟩ : ∃ c, c = classNat n := ⟨_, rfl⟩
  rw [← hc] at e1 e2 r1 r2 r3 r4 r5 hrm ⊢
  obtain ⟨-, t2, -⟩ := take_inv (mask := 0) (junk := 0) r1 e2 r2 h1 h6 e1 (by omega) (by omega) (by omega)
  have hend := t2.ends.2
  have hp1 := t2.1
  have hp2 := t2.2.1
  have hrw := r1.wl
  have hrn := r1.n2
  have HO := Lib.hid (fun wx => show Calls Tryd.prog 34 #[.int .i64 n] wx fun e w' => e = .returned (.int .i64 (c : Int)) ∧ wx = w' by rw [← e1]; exact rof_ok n wx)
  obtain ⟨pk, hpk⟩ : ∃ pk : Nat, lastOf ((sRoom S c).free c) = (pk : Int) := ⟨(lastOf ((sRoom S c).free c)).toNat, by omega⟩
  obtain ⟨W, hW⟩ : ∃ W : Nat, wordsOf (c : Int) = (W : Int) := ⟨(wordsOf (c : Int)).toNat, by have := words_bd (c : Int); omega⟩
  have hTk : takeL (sRoom S c).free (c : Int) = (popL (sRoom S c).free c, (pk : Int), 0) := by
    unfold takeL
    rw [if_neg (by omega), Int.toNat_natCast, if_neg (by omega), hpk]
  have hSh : ∀ j, j < 4 → ((sRoom S c).free j).length ≤ 1099511627776 := fun j hj => by have := r1.free_len hj; omega
  have hst : sTake (sRoom S c) c n mask junk = { sRoom S c with free := popL (sRoom S c).free c, words := fillW (sRoom S c).words pk junk W, objs := insO ((pk : Int), n, mask) (sRoom S c).objs } := by
    unfold sTake
    rw [hpk, hW, Int.toNat_natCast, Int.toNat_natCast]
  rw [hst, hpk]
  rw [hW, hpk] at hend
  have HW := Lib.hid (fun wx => show Calls Tryd.prog 37 #[.int .i64 (c : Int)] wx fun e w' => e = .returned (.int .i64 (W : Int)) ∧ wx = w' by rw [← hW]; exact rwords_ok _ wx)
  have hpw : pk + W ≤ (sRoom S c).words.length := by omega
  have hwl5 : (sRoom S c).words.length ≤ 5000 := by omega
  have hol : (sRoom S c).objs.length ≤ 4096 := r1.objs_len
  have hpk9 : pk ≤ 5000 := by omega
  have s1 : ¬ n < 1 := by omega
  have s6 : ¬ 6 < n := by omega
  have k0 : (0 : Int) ≤ (c : Int) := by omega
  have k1 : (c : Int) < 4 := by omega
  obtain ⟨T, hT⟩ : ∃ T, T = sRoom S c := ⟨_, rfl⟩
  rw [← hT] at hTk hSh hpw hwl5 hol ⊢
  obtain ⟨Af, cf, ef, -⟩ := (H.fr c e2).len
  have hfl := I.free_len e2
  replace H := Lib.hid H
  replace hQ := Lib.hid hQ
  replace I := Lib.hid I
  replace hf := Lib.hid hf
  replace hTk := Lib.hid hTk
  replace hSh := Lib.hid hSh
  replace hT := Lib.hid hT
  replace hrm := Lib.hid hrm
  replace ef := Lib.hid ef
  clear hmk hmk' ea r1 r2 r3 r4 r5 t2 hp1 hp2 hrw hrn e1 hW hst hc hpk
  go_enter Tryd.func22, Tryd.ntmps22
  go_wp2_with (first
    | (refine wpList_new rfl (.box 31 (.tmp 0)) rfl w.heap.size rfl 31 (rcells vw vc f vo) (by kernel_rfl) ?_; intro w1 hs1 hb1 hB1)
    | (refine wpList_new rfl (.alloc 31) rfl (w.heap.size + 1) hs1 31 rnil (by kernel_rfl) ?_; intro w2 hs2 hb2 hB2; refine stop_here ?_))
  have HX := Lib.hid ((show RBox Q w1 w.heap.size S vw vc f vo from ⟨hB1, H.out.below hb1⟩).below (hb2.mono (by omega)))
  have HR := Lib.hid hB2
  have hb2 := hb1.trans (hb2.mono (by omega))
  have hz2 : w.heap.size + 1 < w2.heap.size := by omega
  clear hs1 hB1 hb1 hB2 hs2
  refine go_on ?_
  go_wp2_with fail
  refine (HV.out _).mono ?_
  rintro e w' ⟨rfl, rfl⟩
  go_wp2_with (refine wpList_load_blk rfl 31 (.tmp 4) rfl w.heap.size rfl 31 (rcells vw vc f vo) HX.out.blk _ Tryd.underlying31 rfl SZ.out ?_)
  refine (rfits_ok S _ _ _ _ _ HX.out.rin I.out.toInv0 n).mono ?_
  rintro e w3 ⟨rfl, hb3⟩
  rw [hf.out]
  have HX3 := Lib.hid (HX.out.below hb3)
  have HR3 := Lib.hid (HR.out.below hb3 HR.out.lt)
  have b3 := below_all hb2 hb3
  have cfc := HX3.out.free_cell e2
  rw [ef.out] at cfc
  clear HX HR hb3 hb2 hz2 HV
  by_cases hz : (S.free c).length = 0
  · have er : T = sCut S c := by rw [hT.out]; unfold sRoom; rw [if_pos hz]
    have hx : (-1 : Int) ∈ S.cls := hrm.out.resolve_left (by omega)
    rw [hz] at cfc
    have hg3 : w.heap.size < w3.heap.size := HX3.out.blk.lt
    replace hx := Lib.hid hx
    replace er := Lib.hid er
    clear hz
    go_wp2_with (go_at_call 34; refine (HO.out _).mono ?_; rintro e w' ⟨rfl, rfl⟩)
    have hS0 : (fun X : World => Below w3.heap.size w3 X) w3.drew := (Below.refl _ _).drew
    refine wp_T (by kernel_rfl) 5 (fun X : World => Below w3.heap.size w3 X) ?_
    refine wpAnyT_take (i := 0) (v := .agg #[vw, vc, f 0, f 1, f 2, f 3, vo]) rfl (by kernel_rfl) (fun _ _ _ hp => hp) (yieldsIf_load_mid (by rfl) _ _ rfl w.heap.size 0 rfl [vw, vc, f 0, f 1, f 2, f 3, vo] _ (fun X hX => World.rangeAt_of_block (HX3.out.below hX).blk 0 7) Tryd.underlying31 rfl rh_size) hS0 ?_
    simp only [Act.put, List.setIfInBounds_toArray, List.set_cons_zero, List.set_cons_succ]
    refine wpAnyT_take (i := 1) (v := .agg #[vw, vc, f 0, f 1, f 2, f 3, vo]) rfl (by kernel_rfl) (fun _ _ _ hp => hp) (yieldsIf_load_mid (by rfl) _ _ rfl w.heap.size 0 rfl [vw, vc, f 0, f 1, f 2, f 3, vo] _ (fun X hX => World.rangeAt_of_block (HX3.out.below hX).blk 0 7) Tryd.underlying31 rfl rh_size) hS0 ?_
    simp only [Act.put, List.setIfInBounds_toArray, List.set_cons_zero, List.set_cons_succ]
    refine wpAnyT_takeW (i := 3) (v := .int .i64 (c : Int)) rfl (by kernel_rfl) (fun _ _ _ hp => hp) (Or.inl ⟨by rfl, fun X _ => by go_simp⟩) hS0 ?_
    simp only [Act.put, List.setIfInBounds_toArray, List.set_cons_zero, List.set_cons_succ]
    refine wpAnyT_one (i := 2) rfl (by kernel_rfl) (by rfl) ?_
    intro K1 hK1
    go_simp
    refine (rspan_ok S vw vc vo f _ (HX3.out.rin.below hS0) (by have := I.out.cl; have := I.out.n2; omega)).mono ?_
    rintro e w4 ⟨⟨r, rfl, hsp⟩, hb4⟩
    dsimp only
    have hS1 : (fun X : World => Below w3.heap.size w3 X) w4 := Below.trans hS0 (Below.mono hb4 (Below.size hS0))
    refine hK1.out _ _ (fun _ => hS1) ?_
    (try simp only [Act.put, List.setIfInBounds_toArray, List.set_cons_zero, List.set_cons_succ])
    obtain rfl := span_ix I.out.toInv0 hsp hx.out
    refine wpAnyT_one (i := 4) rfl (by kernel_rfl) (by rfl) ?_
    intro K2 hK2
    go_simp
    refine (rcutH_ok S vw vc vo f _ (HX3.out.rin.below hS1) (hQ.out.le (Nat.le_trans b3.size (Below.size hS1))) I.out.toInv0 (S.cls.idxOf (-1)) c e2 hx.out rfl).mono ?_
    rintro e w6 ⟨vw6, vc6, f6, vo6, rfl, hr6, hb6⟩
    dsimp only
    have hS2 : (fun X : World => Below w3.heap.size w3 X) w6 := Below.trans hS1 (Below.mono hb6 (Below.size hS1))
    refine hK2.out _ _ (fun _ => hS2) ?_
    (try simp only [Act.put, List.setIfInBounds_toArray, List.set_cons_zero, List.set_cons_succ])
    refine wpAnyT_one (i := 5) rfl (by kernel_rfl) (by rfl) ?_
    intro K3 hK3
    refine wp_store_blk 31 _ _ rfl w.heap.size rfl (rcells vw6 vc6 f6 vo6) rfl 31 (rcells vw vc f vo) (HX3.out.below hS2).blk rh_size rfl (slices_one hr6.slices) ?_
    intro w7 hR7 hg7 hs7
    refine hK3.out _ _ (fun hh => absurd rfl hh) ?_
    (try simp only [Act.put, List.setIfInBounds_toArray, List.set_cons_zero, List.set_cons_succ])
    refine wpAnyT_done (by kernel_rfl) ?_ _
    (try simp only [Act.put, List.setIfInBounds_toArray, List.set_cons_zero, List.set_cons_succ])
    clear hK1 K1 hK2 K2 hK3 K3
    have HX7 := RBox.all (HX3.out.below hS2).blk HX3.out.rin.slices hg7 hR7 hr6
    rw [← er.out] at HX7
    replace HX7 := Lib.hid HX7
    have HR7 := Lib.hid ((HR3.out.below hS2 HR3.out.lt).grown hg7 (fun e => by injection e with e; omega))
    have b7 := (below_all b3 hS2).grown hg7 (below_all b3 hS2).size (fun k hk => by cases hk; exact Nat.le_refl _)
    clear hS2 hS1 hS0 hsp hb4 hb6 hr6 hR7 hg7 hs7 HX3 HR3 b3 cfc hg3
    obtain ⟨w7, rfl⟩ : ∃ wx : World, wx = w7 := ⟨_, rfl⟩
    have HTk : Hid (Calls Tryd.prog 51 #[.agg (arr4 f6), .int .i64 (c : Int)] w7 fun e w' => ∃ v, e = .returned (.tuple #[v, .int .i64 (pk : Int), .int .i64 0]) ∧ RdQ Q w' v (popL T.free c) ∧ Below w7.heap.size w7 w') := Lib.hid (by
      have h9 := rtake_q Q f6 T.free (c : Int) w7 (fun j hj => HX7.out.rin.fr j hj) hSh.out HX7.out.rin.qf
      rw [hTk.out] at h9
      exact h9)
    go_wp2_with (first
      | (refine wpList_load_mid rfl 28 (.tmp 50) rfl w.heap.size 2 rfl [f6 0, f6 1, f6 2, f6 3] _ HX7.out.range4 rarr_row rfl rarr_size ?_)
      | (go_at_call 51; refine HTk.out.mono ?_; rintro e w8 ⟨v8, rfl, ⟨f8, rfl, hr8, hq8⟩, hb8⟩; replace hq8 := Lib.hid hq8; refine stop_here ?_))
    have O8 := Lib.hid (arr4_one fun j hj => rd_one (hr8 j hj))
    have X8 := Lib.hid (HX7.out.below hb8)
    have R8 := Lib.hid (HR7.out.below hb8 HR7.out.lt)
    have b8 := Lib.hid (below_all b7 hb8)
    replace hr8 := Lib.hid hr8
    clear HX7 HR7 HTk hb8 b7
    refine go_on ?_
    go_wp2_with (first
      | (refine wpList_new rfl (.alloc 28) rfl w8.heap.size rfl 28 nil4 (by kernel_rfl) ?_; intro w9 hs9 hb9 hB9; have HB9 := Lib.hid hB9; clear hB9 hs9)
      | (refine wpList_store_blk rfl 28 (.tmp 12) (.tmp 54) rfl w8.heap.size rfl (arr4 f8) rfl 28 nil4 HB9.out rarr_size rfl O8.out ?_; intro w10 hB10 hg10 hs10; refine stop_here ?_))
    have h810 : Below w8.heap.size w8 w10 := hb9.grown hg10 hb9.size (fun k hk => by cases hk; exact Nat.le_refl _)
    have X10 := Lib.hid (X8.out.below h810)
    have R10 := R8.out.below h810 R8.out.lt
    have b10 := below_all b8.out h810
    have hr10 : ∀ j, j < 4 → Rd i64e w10 (f8 j) (popL T.free c j) := fun j hj => (hr8.out j hj).below h810
    have X11 := Lib.hid (X10.out.set_free hr10 hq8.out)
    have R11 := Lib.hid (show Blk (w10.setCells w.heap.size 2 (arr4 f8).toList) (w.heap.size + 1) 31 rnil from (set4_other w10 w.heap.size f8 (by omega)).trans R10)
    have b11 : Below w.heap.size w (w10.setCells w.heap.size 2 (arr4 f8).toList) := b10.grown (grown_set4 w10 w.heap.size f8) b10.size (fun k hk => by cases hk; exact Nat.le_refl _)
    have V10 := Lib.hid hB10
    have T10 := Lib.hid (X10.out.there4 f8)
    clear h810 hB10 hr10 R10 b10 hg10 hs10 hb9 HB9 X8 R8 b8 hr8
    refine go_on ?_
    go_wp2_with (first
      | (refine wpList_load_blk rfl 28 (.tmp 12) rfl w8.heap.size rfl 28 (arr4 f8) V10.out _ rarr_row rfl rarr_size ?_)
      | (refine wpList_store_mid rfl 28 (.tmp 58) (.tmp 57) rfl w.heap.size 2 (arr4 f8) rfl rfl T10.out rarr_size O8.out ?_; refine stop_here ?_))
    generalize w10.setCells w.heap.size 2 (arr4 f8).toList = w11 at X11 R11 b11 ⊢
    clear V10 T10 X10 O8
    refine go_on ?_
    go_wp2_with fail
    have hg11 : w.heap.size < w11.heap.size := X11.out.blk.lt
    have hS0 : (fun X : World => Below w11.heap.size w11 X) w11.drew := (Below.refl _ _).drew
    refine wp_T (by kernel_rfl) 6 (fun X : World => Below w11.heap.size w11 X) ?_
    refine wpAnyT_take (i := 0) (v := .agg #[vw6, vc6, f8 0, f8 1, f8 2, f8 3, vo6]) rfl (by kernel_rfl) (fun _ _ _ hp => hp) (yieldsIf_load_mid (by rfl) _ _ rfl w.heap.size 0 rfl [vw6, vc6, f8 0, f8 1, f8 2, f8 3, vo6] _ (fun X hX => World.rangeAt_of_block (X11.out.below hX).blk 0 7) Tryd.underlying31 rfl rh_size) hS0 ?_
    simp only [Act.put, List.setIfInBounds_toArray, List.set_cons_zero, List.set_cons_succ]
    refine wpAnyT_takeW (i := 1) (v := .int .i64 (pk : Int)) rfl (by kernel_rfl) (fun _ _ _ hp => hp) (Or.inl ⟨by rfl, fun X _ => by go_simp⟩) hS0 ?_
    simp only [Act.put, List.setIfInBounds_toArray, List.set_cons_zero, List.set_cons_succ]
    refine wpAnyT_takeW (i := 2) (v := .int .i64 (c : Int)) rfl (by kernel_rfl) (fun _ _ _ hp => hp) (Or.inl ⟨by rfl, fun X _ => by go_simp⟩) hS0 ?_
    simp only [Act.put, List.setIfInBounds_toArray, List.set_cons_zero, List.set_cons_succ]
    refine wpAnyT_takeW (i := 4) (v := .int .i64 junk) rfl (by kernel_rfl) (fun _ _ _ hp => hp) (Or.inl ⟨by rfl, fun X _ => by go_simp⟩) hS0 ?_
    simp only [Act.put, List.setIfInBounds_toArray, List.set_cons_zero, List.set_cons_succ]
    refine wpAnyT_one (i := 3) rfl (by kernel_rfl) (by rfl) ?_
    intro K1 hK1
    go_simp
    refine (HW.out _).mono ?_
    rintro e _ ⟨rfl, rfl⟩
    dsimp only
    refine hK1.out _ _ (fun _ => hS0) ?_
    (try simp only [Act.put, List.setIfInBounds_toArray, List.set_cons_zero, List.set_cons_succ])
    refine wpAnyT_one (i := 5) rfl (by kernel_rfl) (by rfl) ?_
    intro K2 hK2
    go_simp
    refine (rfill_ok { T with free := popL T.free c } vw6 vc6 vo6 f8 _ (X11.out.rin.below hS0) (hQ.out.le (Nat.le_trans b11.size (Below.size hS0))) pk W junk hwl5 hpw).mono ?_
    rintro e w12 ⟨vw12, vc12, f12, vo12, rfl, hr12, hb12⟩
    dsimp only
    have hS2 : (fun X : World => Below w11.heap.size w11 X) w12 := Below.trans hS0 (Below.mono hb12 (Below.size hS0))
    refine hK2.out _ _ (fun _ => hS2) ?_
    (try simp only [Act.put, List.setIfInBounds_toArray, List.set_cons_zero, List.set_cons_succ])
    refine wpAnyT_one (i := 6) rfl (by kernel_rfl) (by rfl) ?_
    intro K3 hK3
    refine wp_store_blk 31 _ _ rfl w.heap.size rfl (rcells vw12 vc12 f12 vo12) rfl 31 (rcells vw6 vc6 f8 vo6) (X11.out.below hS2).blk rh_size rfl (slices_one hr12.slices) ?_
    intro w13 hR13 hg13 hs13
    refine hK3.out _ _ (fun hh => absurd rfl hh) ?_
    (try simp only [Act.put, List.setIfInBounds_toArray, List.set_cons_zero, List.set_cons_succ])
    refine wpAnyT_done (by kernel_rfl) ?_ _
    (try simp only [Act.put, List.setIfInBounds_toArray, List.set_cons_zero, List.set_cons_succ])
    clear hK1 K1 hK2 K2 hK3 K3
    have X13 := Lib.hid (RBox.all (X11.out.below hS2).blk X11.out.rin.slices hg13 hR13 hr12)
    have R13 := Lib.hid ((R11.out.below hS2 R11.out.lt).grown hg13 (fun e => by injection e with e; omega))
    have b13 := Lib.hid ((below_all b11 hS2).grown hg13 (below_all b11 hS2).size (fun k hk => by cases hk; exact Nat.le_refl _))
    clear hS2 hS0 hR13 hg13 hs13 hr12 hb12 X11 R11 b11 hg11
    go_wp2_with (first
      | (refine wpList_new rfl (.alloc 75) rfl w13.heap.size rfl 75 #[.int .i64 0, .int .i64 0, .int .u8 0] (by kernel_rfl) ?_; intro w9 hs9 hb9 hB9; have HB9 := Lib.hid hB9; clear hB9 hs9)
      | (refine wpList_store_blk rfl 75 (.tmp 17) (.tmp 68) rfl w13.heap.size rfl #[.int .i64 (pk : Int), .int .i64 n, .int .u8 mask] rfl 75 #[.int .i64 0, .int .i64 0, .int .u8 0] HB9.out obj_size rfl (by simp [Value.oneCell']) ?_; intro w14 hB14 hg14 hs14; refine stop_here ?_))
    have h1314 : Below w13.heap.size w13 w14 := hb9.grown hg14 hb9.size (fun k hk => by cases hk; exact Nat.le_refl _)
    have X14 := Lib.hid (X13.out.below h1314)
    have R14 := Lib.hid (R13.out.below h1314 R13.out.lt)
    have b14 := Lib.hid (below_all b13.out h1314)
    have V14 := Lib.hid hB14
    have g13 : w13.heap.size < w14.heap.size := hB14.lt
    have g14 : w.heap.size + 1 < w14.heap.size := R14.out.lt
    have hown0 := Lib.hid (World.ownsRow_nil w14 w14.heap.size 75 3)
    clear hB14 hg14 hs14 h1314 hb9 HB9 X13 R13 b13
    obtain ⟨Ao, co, rfl, -⟩ := X14.out.rin.objs.len
    have hlo : ({ T with free := popL T.free c, words := fillW T.words pk junk W } : HS).objs.length = T.objs.length := rfl
    rw [hlo] at X14 ⊢
    clear hlo
    refine go_on ?_
    go_wp2_with fail
    go_loopw [15, 16, 18] (fun l d i wr => ∃ (k : Nat) (A : Option Addr) (cc : Nat) (b : Bool) (xs : List (Int × Int × Int)), k ≤ T.objs.length ∧ i = .int .i64 k ∧ d = .bool b ∧ l = .slice A xs.length cc ∧ Hid (b = hasGt ((pk : Int), n, mask) (T.objs.take k)) ∧ Hid (xs = insP ((pk : Int), n, mask) (T.objs.take k)) ∧ Hid (wr.ownsRow w14.heap.size 75 3 (.slice A xs.length cc) xs.length (xs.flatMap objC)) ∧ Hid (Below w14.heap.size w14 wr)) (fun _ _ i _ => T.objs.length - (intOf i).toNat)
    case atStart => exact ⟨0, none, 0, false, [], by omega, rfl, rfl, rfl, Lib.hid rfl, Lib.hid rfl, hown0, Lib.hid (Below.refl _ _)⟩
    case round =>
      clear hown0
      obtain ⟨k, A, cc, b, xs, hk, rfl, rfl, rfl, hbb, hxs, hown, hbr⟩ := hrel
      have X := Lib.hid (X14.out.below hbr.out)
      have V := V14.out.below hbr.out g13
      have c6 := X.out.cells.2.2.2.2.2.2
      have o0 := V.cell 0
      have o1 := V.cell 1
      have o2 := V.cell 2
      have hxl : xs.length ≤ 5000 := by have := insP_len ((pk : Int), n, mask) (T.objs.take k); rw [← hxs.out] at this; have h9 : (T.objs.take k).length ≤ k := List.length_take_le _ _; omega
      have hzr : w14.heap.size ≤ wr.heap.size := hbr.out.size
      by_cases hlt : k < T.objs.length
      · have t0 : (k : Int) < (T.objs.length : Int) := by omega
        have hts : T.objs.take (k + 1) = T.objs.take k ++ [T.objs[k]] := by rw [List.take_succ_eq_append_getElem hlt]
        obtain ⟨bo, oo, rfl, hbol, hc⟩ := X.out.rin.objs.at_ (i := k) hlt
        obtain ⟨x, hx⟩ : ∃ x, x = T.objs[k] := ⟨_, rfl⟩
        have hc' : ∀ j u, (objC x)[j]? = some u → wr.cell? ⟨bo, oo + k * 3 + j, none⟩ = some u := by rw [hx]; exact hc
        rw [← hx] at hts
        obtain ⟨x1, x2, x3⟩ := x
        have d0 : wr.cell? ⟨bo, oo + k * 3, none⟩ = some (.int .i64 x1) := hc' 0 _ rfl
        have d1 := hc' 1 _ rfl
        have d2 := hc' 2 _ rfl
        clear hc hc' hx
        replace hts := Lib.hid hts
        rcases b with _ | _
        · by_cases hpx : (pk : Int) < x1
          · have t1 : decide ((pk : Int) < x1) = true := decide_eq_true hpx
            go_wp2_with (refine wpList_push3 rfl (.tmp 88) (.tmp 90) rfl w14.heap.size _ xs rfl hown.out ((pk : Int), n, mask) rfl hxl hzr ?_; intro ys A2 cc2 w15 hys hown2 hbw2; replace hys := Lib.hid hys; refine stop_here ?_)
            have hbol2 : bo < w14.heap.size := by
              obtain ⟨b9, o9, e9, h9, _⟩ := X14.out.rin.objs.at_ (i := k) hlt
              cases e9
              exact h9
            have e0 := (hbw2.cell (p := ⟨bo, oo + k * 3, none⟩) hbol2).trans d0
            have e1 := (hbw2.cell (p := ⟨bo, oo + k * 3 + 1, none⟩) hbol2).trans d1
            have e2 := (hbw2.cell (p := ⟨bo, oo + k * 3 + 2, none⟩) hbol2).trans d2
            have f6 := (hbw2.cell (p := ⟨w.heap.size, 6, none⟩) (show w.heap.size < w14.heap.size by omega)).trans c6
            have hbr2 := Lib.hid (hbr.out.trans hbw2)
            have hzr2 : w14.heap.size ≤ w15.heap.size := Nat.le_trans hzr hbw2.size
            have hxl2 : (xs ++ [((pk : Int), n, mask)]).length ≤ 5000 := by
              have h8 := insP_len ((pk : Int), n, mask) (T.objs.take k)
              rw [← hxs.out] at h8
              have h9 : (T.objs.take k).length ≤ k := List.length_take_le _ _
              simp
              omega
            have hnew : Hid (xs ++ [((pk : Int), n, mask)] ++ [(x1, x2, x3)] = insP ((pk : Int), n, mask) (T.objs.take (k + 1))) := Lib.hid (by rw [hts.out, insP_lt hbb.out.symm hpx, hxs.out])
            have hbn : Hid (true = hasGt ((pk : Int), n, mask) (T.objs.take (k + 1))) := Lib.hid (by rw [hts.out, hasGt_snoc, decide_eq_true hpx]; simp)
            rw [← hys.out] at hxl2 hnew
            replace hown2 := Lib.hid hown2
            clear hbw2 o0 o1 o2 d0 d1 d2 c6 hown hys
            refine go_on ?_
            go_wp2_with (refine wpList_push3 rfl (.tmp 92) (.tmp 98) rfl w14.heap.size _ ys rfl hown2.out (x1, x2, x3) rfl hxl2 hzr2 ?_; intro zs A3 cc3 w16 hzs hown3 hbw3; replace hzs := Lib.hid hzs; refine stop_here ?_)
            have hbr3 := Lib.hid (hbr2.out.trans hbw3)
            rw [← hzs.out] at hnew
            replace hown3 := Lib.hid hown3
            clear hbw3 hzs
            refine go_on ?_
            go_wp2_with fail
            go_roundw
            case rel => exact ⟨k + 1, A3, cc3, true, zs, by omega, by go_num, rfl, rfl, hbn, hnew, hown3, hbr3⟩
            case measure => simp [intOf]; omega
          · have t1 : decide ((pk : Int) < x1) = false := decide_eq_false hpx
            have hnew : Hid (xs ++ [(x1, x2, x3)] = insP ((pk : Int), n, mask) (T.objs.take (k + 1))) := Lib.hid (by rw [hts.out, insP_ge hbb.out.symm hpx, hxs.out])
            have hbn : Hid (false = hasGt ((pk : Int), n, mask) (T.objs.take (k + 1))) := Lib.hid (by rw [hts.out, hasGt_snoc, decide_eq_false hpx, ← hbb.out]; rfl)
            go_wp2_with (refine wpList_push3 rfl (.tmp 92) (.tmp 98) rfl w14.heap.size _ xs rfl hown.out (x1, x2, x3) rfl hxl hzr ?_; intro zs A3 cc3 w16 hzs hown3 hbw3; replace hzs := Lib.hid hzs; refine stop_here ?_)
            have hbr3 := Lib.hid (hbr.out.trans hbw3)
            rw [← hzs.out] at hnew
            replace hown3 := Lib.hid hown3
            clear hbw3 hzs
            refine go_on ?_
            go_wp2_with fail
            go_roundw
            case rel => exact ⟨k + 1, A3, cc3, false, zs, by omega, by go_num, rfl, rfl, hbn, hnew, hown3, hbr3⟩
            case measure => simp [intOf]; omega
        · have hnew : Hid (xs ++ [(x1, x2, x3)] = insP ((pk : Int), n, mask) (T.objs.take (k + 1))) := Lib.hid (by rw [hts.out, insP_gt hbb.out.symm, hxs.out])
          have hbn : Hid (true = hasGt ((pk : Int), n, mask) (T.objs.take (k + 1))) := Lib.hid (by rw [hts.out, hasGt_snoc, ← hbb.out]; rfl)
          go_wp2_with (refine wpList_push3 rfl (.tmp 92) (.tmp 98) rfl w14.heap.size _ xs rfl hown.out (x1, x2, x3) rfl hxl hzr ?_; intro zs A3 cc3 w16 hzs hown3 hbw3; replace hzs := Lib.hid hzs; refine stop_here ?_)
          have hbr3 := Lib.hid (hbr.out.trans hbw3)
          rw [← hzs.out] at hnew
          replace hown3 := Lib.hid hown3
          clear hbw3 hzs
          refine go_on ?_
          go_wp2_with fail
          go_roundw
          case rel => exact ⟨k + 1, A3, cc3, true, zs, by omega, by go_num, rfl, rfl, hbn, hnew, hown3, hbr3⟩
          case measure => simp [intOf]; omega
      · obtain rfl : k = T.objs.length := by omega
        have t0 : decide (((T.objs.length : Nat) : Int) < ((T.objs.length : Nat) : Int)) = false := by rw [decide_eq_false_iff_not]; omega
        rw [List.take_length] at hbb hxs
        have hfin := Lib.hid (insP_end (o := ((pk : Int), n, mask)) (l := T.objs))
        rcases b with _ | _
        · go_wp2_with (refine wpList_push3 rfl (.tmp 102) (.tmp 104) rfl w14.heap.size _ xs rfl hown.out ((pk : Int), n, mask) rfl hxl hzr ?_; intro zs A3 cc3 w16 hzs hown3 hbw3; replace hzs := Lib.hid hzs; refine stop_here ?_)
          have hbr3 := Lib.hid (hbr.out.trans hbw3)
          have he := Lib.hid (show zs = insO ((pk : Int), n, mask) T.objs by rw [hzs.out, hfin.out, ← hbb.out, if_neg (by simp), hxs.out])
          clear hbw3 hzs
          have X16 := X14.out.below hbr3.out
          have R16 := R14.out.below hbr3.out R14.out.lt
          have hrd := rdc_of_own hown3
          have X17 := X16.set_objs hrd (fun _ b e => hQ.out b (by have := (hown3.lt b e).1; have := b14.out.size; omega))
          have z6 := X16.blk.frozen 6
          have c66 := X16.cells.2.2.2.2.2.2
          have R17 := Lib.hid (R16.far (p := ⟨w.heap.size, 6, none⟩) (by show w.heap.size + 1 ≠ w.heap.size; omega) (.slice A3 zs.length cc3))
          have b17 := Lib.hid ((b14.out.trans (hbr3.out.mono b14.out.size)).setCell (p := ⟨w.heap.size, 6, none⟩) (Nat.le_refl _) (.slice A3 zs.length cc3))
          have O17 := Lib.hid (slices_one X17.rin.slices)
          replace X17 := Lib.hid X17
          clear X16 R16 hrd hown3 X V o0 o1 o2 c6 hown
          refine go_on ?_
          go_wp2_with (first
            | (refine wpList_load_blk rfl 31 (.tmp 4) rfl w.heap.size rfl 31 (rcells vw12 vc12 f12 (.slice A3 zs.length cc3)) X17.out.blk _ Tryd.underlying31 rfl SZ.out ?_)
            | (refine wpList_store_blk rfl 31 (.tmp 8) (.tmp 108) rfl (w.heap.size + 1) rfl (rcells vw12 vc12 f12 (.slice A3 zs.length cc3)) rfl 31 (rnil) R17.out SZ.out rfl O17.out ?_; intro w19 hR19 hg19 hs19))
          refine bodyPost_ret (res_cell_tmp2 rfl rfl hR19 Tryd.underlying31 rfl SZ.out) rfl ⟨_, _, _, _, rfl, (by rw [← he.out]; exact X17.out.rin.far R17.out rnil_slices hg19), b17.out.grown hg19 b17.out.size (fun k hk => by cases hk; omega)⟩
        · have he := Lib.hid (show xs = insO ((pk : Int), n, mask) T.objs by rw [hfin.out, ← hbb.out, if_pos rfl, hxs.out])
          obtain ⟨zs, rfl⟩ : ∃ zs, zs = xs := ⟨_, rfl⟩
          obtain ⟨w16, rfl⟩ : ∃ wx : World, wx = wr := ⟨_, rfl⟩
          obtain ⟨A3, rfl⟩ : ∃ A3, A3 = A := ⟨_, rfl⟩
          obtain ⟨cc3, rfl⟩ : ∃ A3, A3 = cc := ⟨_, rfl⟩
          have hown3 := hown.out
          have hbr3 := hbr
          refine stop_here ?_
          have X16 := X14.out.below hbr3.out
          have R16 := R14.out.below hbr3.out R14.out.lt
          have hrd := rdc_of_own hown3
          have X17 := X16.set_objs hrd (fun _ b e => hQ.out b (by have := (hown3.lt b e).1; have := b14.out.size; omega))
          have z6 := X16.blk.frozen 6
          have c66 := X16.cells.2.2.2.2.2.2
          have R17 := Lib.hid (R16.far (p := ⟨w.heap.size, 6, none⟩) (by show w.heap.size + 1 ≠ w.heap.size; omega) (.slice A3 zs.length cc3))
          have b17 := Lib.hid ((b14.out.trans (hbr3.out.mono b14.out.size)).setCell (p := ⟨w.heap.size, 6, none⟩) (Nat.le_refl _) (.slice A3 zs.length cc3))
          have O17 := Lib.hid (slices_one X17.rin.slices)
          replace X17 := Lib.hid X17
          clear X16 R16 hrd hown3 X V o0 o1 o2 c6 hown
          refine go_on ?_
          go_wp2_with (first
            | (refine wpList_load_blk rfl 31 (.tmp 4) rfl w.heap.size rfl 31 (rcells vw12 vc12 f12 (.slice A3 zs.length cc3)) X17.out.blk _ Tryd.underlying31 rfl SZ.out ?_)
            | (refine wpList_store_blk rfl 31 (.tmp 8) (.tmp 108) rfl (w.heap.size + 1) rfl (rcells vw12 vc12 f12 (.slice A3 zs.length cc3)) rfl 31 (rnil) R17.out SZ.out rfl O17.out ?_; intro w19 hR19 hg19 hs19))
          refine bodyPost_ret (res_cell_tmp2 rfl rfl hR19 Tryd.underlying31 rfl SZ.out) rfl ⟨_, _, _, _, rfl, (by rw [← he.out]; exact X17.out.rin.far R17.out rnil_slices hg19), b17.out.grown hg19 b17.out.size (fun k hk => by cases hk; omega)⟩
  · have er : T = S := by rw [hT.out]; unfold sRoom; rw [if_neg hz]
    obtain ⟨L, hL⟩ : ∃ L, L = (S.free c).length := ⟨_, rfl⟩
    rw [← hL] at cfc hz hfl
    have tl : ((L : Int) == 0) = false := by rw [beq_eq_false_iff_ne]; omega
    replace hL := Lib.hid hL
    go_wp2_with (go_at_call 34; refine (HO.out _).mono ?_; rintro e w' ⟨rfl, rfl⟩; refine stop_here ?_)
    obtain ⟨w7, rfl⟩ : ∃ wx : World, wx = w3 := ⟨_, rfl⟩
    have HX7 := HX3.out
    rw [← er] at HX7
    obtain ⟨vw6, rfl⟩ : ∃ x, x = vw := ⟨_, rfl⟩
    obtain ⟨vc6, rfl⟩ : ∃ x, x = vc := ⟨_, rfl⟩
    obtain ⟨vo6, rfl⟩ : ∃ x, x = vo := ⟨_, rfl⟩
    obtain ⟨f6, rfl⟩ : ∃ x, x = f := ⟨_, rfl⟩
    replace HX7 := Lib.hid HX7
    have HR7 := HR3
    have b7 := b3
    replace er := Lib.hid er
    refine go_on ?_
    obtain ⟨w7, rfl⟩ : ∃ wx : World, wx = w7 := ⟨_, rfl⟩
    have HTk : Hid (Calls Tryd.prog 51 #[.agg (arr4 f6), .int .i64 (c : Int)] w7 fun e w' => ∃ v, e = .returned (.tuple #[v, .int .i64 (pk : Int), .int .i64 0]) ∧ RdQ Q w' v (popL T.free c) ∧ Below w7.heap.size w7 w') := Lib.hid (by
      have h9 := rtake_q Q f6 T.free (c : Int) w7 (fun j hj => HX7.out.rin.fr j hj) hSh.out HX7.out.rin.qf
      rw [hTk.out] at h9
      exact h9)
    go_wp2_with (first
      | (refine wpList_load_mid rfl 28 (.tmp 50) rfl w.heap.size 2 rfl [f6 0, f6 1, f6 2, f6 3] _ HX7.out.range4 rarr_row rfl rarr_size ?_)
      | (go_at_call 51; refine HTk.out.mono ?_; rintro e w8 ⟨v8, rfl, ⟨f8, rfl, hr8, hq8⟩, hb8⟩; replace hq8 := Lib.hid hq8; refine stop_here ?_))
    have O8 := Lib.hid (arr4_one fun j hj => rd_one (hr8 j hj))
    have X8 := Lib.hid (HX7.out.below hb8)
    have R8 := Lib.hid (HR7.out.below hb8 HR7.out.lt)
    have b8 := Lib.hid (below_all b7 hb8)
    replace hr8 := Lib.hid hr8
    clear HX7 HR7 HTk hb8 b7
    refine go_on ?_
    go_wp2_with (first
      | (refine wpList_new rfl (.alloc 28) rfl w8.heap.size rfl 28 nil4 (by kernel_rfl) ?_; intro w9 hs9 hb9 hB9; have HB9 := Lib.hid hB9; clear hB9 hs9)
      | (refine wpList_store_blk rfl 28 (.tmp 12) (.tmp 54) rfl w8.heap.size rfl (arr4 f8) rfl 28 nil4 HB9.out rarr_size rfl O8.out ?_; intro w10 hB10 hg10 hs10; refine stop_here ?_))
    have h810 : Below w8.heap.size w8 w10 := hb9.grown hg10 hb9.size (fun k hk => by cases hk; exact Nat.le_refl _)
    have X10 := Lib.hid (X8.out.below h810)
    have R10 := R8.out.below h810 R8.out.lt
    have b10 := below_all b8.out h810
    have hr10 : ∀ j, j < 4 → Rd i64e w10 (f8 j) (popL T.free c j) := fun j hj => (hr8.out j hj).below h810
    have X11 := Lib.hid (X10.out.set_free hr10 hq8.out)
    have R11 := Lib.hid (show Blk (w10.setCells w.heap.size 2 (arr4 f8).toList) (w.heap.size + 1) 31 rnil from (set4_other w10 w.heap.size f8 (by omega)).trans R10)
    have b11 : Below w.heap.size w (w10.setCells w.heap.size 2 (arr4 f8).toList) := b10.grown (grown_set4 w10 w.heap.size f8) b10.size (fun k hk => by cases hk; exact Nat.le_refl _)
    have V10 := Lib.hid hB10
    have T10 := Lib.hid (X10.out.there4 f8)
    clear h810 hB10 hr10 R10 b10 hg10 hs10 hb9 HB9 X8 R8 b8 hr8
    refine go_on ?_
    go_wp2_with (first
      | (refine wpList_load_blk rfl 28 (.tmp 12) rfl w8.heap.size rfl 28 (arr4 f8) V10.out _ rarr_row rfl rarr_size ?_)
      | (refine wpList_store_mid rfl 28 (.tmp 58) (.tmp 57) rfl w.heap.size 2 (arr4 f8) rfl rfl T10.out rarr_size O8.out ?_; refine stop_here ?_))
    generalize w10.setCells w.heap.size 2 (arr4 f8).toList = w11 at X11 R11 b11 ⊢
    clear V10 T10 X10 O8
    refine go_on ?_
    go_wp2_with fail
    have hg11 : w.heap.size < w11.heap.size := X11.out.blk.lt
    have hS0 : (fun X : World => Below w11.heap.size w11 X) w11.drew := (Below.refl _ _).drew
    refine wp_T (by kernel_rfl) 6 (fun X : World => Below w11.heap.size w11 X) ?_
    refine wpAnyT_take (i := 0) (v := .agg #[vw6, vc6, f8 0, f8 1, f8 2, f8 3, vo6]) rfl (by kernel_rfl) (fun _ _ _ hp => hp) (yieldsIf_load_mid (by rfl) _ _ rfl w.heap.size 0 rfl [vw6, vc6, f8 0, f8 1, f8 2, f8 3, vo6] _ (fun X hX => World.rangeAt_of_block (X11.out.below hX).blk 0 7) Tryd.underlying31 rfl rh_size) hS0 ?_
    simp only [Act.put, List.setIfInBounds_toArray, List.set_cons_zero, List.set_cons_succ]
    refine wpAnyT_takeW (i := 1) (v := .int .i64 (pk : Int)) rfl (by kernel_rfl) (fun _ _ _ hp => hp) (Or.inl ⟨by rfl, fun X _ => by go_simp⟩) hS0 ?_
    simp only [Act.put, List.setIfInBounds_toArray, List.set_cons_zero, List.set_cons_succ]
    refine wpAnyT_takeW (i := 2) (v := .int .i64 (c : Int)) rfl (by kernel_rfl) (fun _ _ _ hp => hp) (Or.inl ⟨by rfl, fun X _ => by go_simp⟩) hS0 ?_
    simp only [Act.put, List.setIfInBounds_toArray, List.set_cons_zero, List.set_cons_succ]
    refine wpAnyT_takeW (i := 4) (v := .int .i64 junk) rfl (by kernel_rfl) (fun _ _ _ hp => hp) (Or.inl ⟨by rfl, fun X _ => by go_simp⟩) hS0 ?_
    simp only [Act.put, List.setIfInBounds_toArray, List.set_cons_zero, List.set_cons_succ]
    refine wpAnyT_one (i := 3) rfl (by kernel_rfl) (by rfl) ?_
    intro K1 hK1
    go_simp
    refine (HW.out _).mono ?_
    rintro e _ ⟨rfl, rfl⟩
    dsimp only
    refine hK1.out _ _ (fun _ => hS0) ?_
    (try simp only [Act.put, List.setIfInBounds_toArray, List.set_cons_zero, List.set_cons_succ])
    refine wpAnyT_one (i := 5) rfl (by kernel_rfl) (by rfl) ?_
    intro K2 hK2
    go_simp
    refine (rfill_ok { T with free := popL T.free c } vw6 vc6 vo6 f8 _ (X11.out.rin.below hS0) (hQ.out.le (Nat.le_trans b11.size (Below.size hS0))) pk W junk hwl5 hpw).mono ?_
    rintro e w12 ⟨vw12, vc12, f12, vo12, rfl, hr12, hb12⟩
    dsimp only
    have hS2 : (fun X : World => Below w11.heap.size w11 X) w12 := Below.trans hS0 (Below.mono hb12 (Below.size hS0))
    refine hK2.out _ _ (fun _ => hS2) ?_
    (try simp only [Act.put, List.setIfInBounds_toArray, List.set_cons_zero, List.set_cons_succ])
    refine wpAnyT_one (i := 6) rfl (by kernel_rfl) (by rfl) ?_
    intro K3 hK3
    refine wp_store_blk 31 _ _ rfl w.heap.size rfl (rcells vw12 vc12 f12 vo12) rfl 31 (rcells vw6 vc6 f8 vo6) (X11.out.below hS2).blk rh_size rfl (slices_one hr12.slices) ?_
    intro w13 hR13 hg13 hs13
    refine hK3.out _ _ (fun hh => absurd rfl hh) ?_
    (try simp only [Act.put, List.setIfInBounds_toArray, List.set_cons_zero, List.set_cons_succ])
    refine wpAnyT_done (by kernel_rfl) ?_ _
    (try simp only [Act.put, List.setIfInBounds_toArray, List.set_cons_zero, List.set_cons_succ])
    clear hK1 K1 hK2 K2 hK3 K3
    have X13 := Lib.hid (RBox.all (X11.out.below hS2).blk X11.out.rin.slices hg13 hR13 hr12)
    have R13 := Lib.hid ((R11.out.below hS2 R11.out.lt).grown hg13 (fun e => by injection e with e; omega))
    have b13 := Lib.hid ((below_all b11 hS2).grown hg13 (below_all b11 hS2).size (fun k hk => by cases hk; exact Nat.le_refl _))
    clear hS2 hS0 hR13 hg13 hs13 hr12 hb12 X11 R11 b11 hg11
    go_wp2_with (first
      | (refine wpList_new rfl (.alloc 75) rfl w13.heap.size rfl 75 #[.int .i64 0, .int .i64 0, .int .u8 0] (by kernel_rfl) ?_; intro w9 hs9 hb9 hB9; have HB9 := Lib.hid hB9; clear hB9 hs9)
      | (refine wpList_store_blk rfl 75 (.tmp 17) (.tmp 68) rfl w13.heap.size rfl #[.int .i64 (pk : Int), .int .i64 n, .int .u8 mask] rfl 75 #[.int .i64 0, .int .i64 0, .int .u8 0] HB9.out obj_size rfl (by simp [Value.oneCell']) ?_; intro w14 hB14 hg14 hs14; refine stop_here ?_))
    have h1314 : Below w13.heap.size w13 w14 := hb9.grown hg14 hb9.size (fun k hk => by cases hk; exact Nat.le_refl _)
    have X14 := Lib.hid (X13.out.below h1314)
    have R14 := Lib.hid (R13.out.below h1314 R13.out.lt)
    have b14 := Lib.hid (below_all b13.out h1314)
    have V14 := Lib.hid hB14
    have g13 : w13.heap.size < w14.heap.size := hB14.lt
    have g14 : w.heap.size + 1 < w14.heap.size := R14.out.lt
    have hown0 := Lib.hid (World.ownsRow_nil w14 w14.heap.size 75 3)
    clear hB14 hg14 hs14 h1314 hb9 HB9 X13 R13 b13
    obtain ⟨Ao, co, rfl, -⟩ := X14.out.rin.objs.len
    have hlo : ({ T with free := popL T.free c, words := fillW T.words pk junk W } : HS).objs.length = T.objs.length := rfl
    rw [hlo] at X14 ⊢
    clear hlo
    refine go_on ?_
    go_wp2_with fail
    go_loopw [15, 16, 18] (fun l d i wr => ∃ (k : Nat) (A : Option Addr) (cc : Nat) (b : Bool) (xs : List (Int × Int × Int)), k ≤ T.objs.length ∧ i = .int .i64 k ∧ d = .bool b ∧ l = .slice A xs.length cc ∧ Hid (b = hasGt ((pk : Int), n, mask) (T.objs.take k)) ∧ Hid (xs = insP ((pk : Int), n, mask) (T.objs.take k)) ∧ Hid (wr.ownsRow w14.heap.size 75 3 (.slice A xs.length cc) xs.length (xs.flatMap objC)) ∧ Hid (Below w14.heap.size w14 wr)) (fun _ _ i _ => T.objs.length - (intOf i).toNat)
    case atStart => exact ⟨0, none, 0, false, [], by omega, rfl, rfl, rfl, Lib.hid rfl, Lib.hid rfl, hown0, Lib.hid (Below.refl _ _)⟩
    case round =>
      clear hown0
      obtain ⟨k, A, cc, b, xs, hk, rfl, rfl, rfl, hbb, hxs, hown, hbr⟩ := hrel
      have X := Lib.hid (X14.out.below hbr.out)
      have V := V14.out.below hbr.out g13
      have c6 := X.out.cells.2.2.2.2.2.2
      have o0 := V.cell 0
      have o1 := V.cell 1
      have o2 := V.cell 2
      have hxl : xs.length ≤ 5000 := by have := insP_len ((pk : Int), n, mask) (T.objs.take k); rw [← hxs.out] at this; have h9 : (T.objs.take k).length ≤ k := List.length_take_le _ _; omega
      have hzr : w14.heap.size ≤ wr.heap.size := hbr.out.size
      by_cases hlt : k < T.objs.length
      · have t0 : (k : Int) < (T.objs.length : Int) := by omega
        have hts : T.objs.take (k + 1) = T.objs.take k ++ [T.objs[k]] := by rw [List.take_succ_eq_append_getElem hlt]
        obtain ⟨bo, oo, rfl, hbol, hc⟩ := X.out.rin.objs.at_ (i := k) hlt
        obtain ⟨x, hx⟩ : ∃ x, x = T.objs[k] := ⟨_, rfl⟩
        have hc' : ∀ j u, (objC x)[j]? = some u → wr.cell? ⟨bo, oo + k * 3 + j, none⟩ = some u := by rw [hx]; exact hc
        rw [← hx] at hts
        obtain ⟨x1, x2, x3⟩ := x
        have d0 : wr.cell? ⟨bo, oo + k * 3, none⟩ = some (.int .i64 x1) := hc' 0 _ rfl
        have d1 := hc' 1 _ rfl
        have d2 := hc' 2 _ rfl
        clear hc hc' hx
        replace hts := Lib.hid hts
        rcases b with _ | _
        · by_cases hpx : (pk : Int) < x1
          · have t1 : decide ((pk : Int) < x1) = true := decide_eq_true hpx
            go_wp2_with (refine wpList_push3 rfl (.tmp 88) (.tmp 90) rfl w14.heap.size _ xs rfl hown.out ((pk : Int), n, mask) rfl hxl hzr ?_; intro ys A2 cc2 w15 hys hown2 hbw2; replace hys := Lib.hid hys; refine stop_here ?_)
            have hbol2 : bo < w14.heap.size := by
              obtain ⟨b9, o9, e9, h9, _⟩ := X14.out.rin.objs.at_ (i := k) hlt
              cases e9
              exact h9
            have e0 := (hbw2.cell (p := ⟨bo, oo + k * 3, none⟩) hbol2).trans d0
            have e1 := (hbw2.cell (p := ⟨bo, oo + k * 3 + 1, none⟩) hbol2).trans d1
            have e2 := (hbw2.cell (p := ⟨bo, oo + k * 3 + 2, none⟩) hbol2).trans d2
            have f6 := (hbw2.cell (p := ⟨w.heap.size, 6, none⟩) (show w.heap.size < w14.heap.size by omega)).trans c6
            have hbr2 := Lib.hid (hbr.out.trans hbw2)
            have hzr2 : w14.heap.size ≤ w15.heap.size := Nat.le_trans hzr hbw2.size
            have hxl2 : (xs ++ [((pk : Int), n, mask)]).length ≤ 5000 := by
              have h8 := insP_len ((pk : Int), n, mask) (T.objs.take k)
              rw [← hxs.out] at h8
              have h9 : (T.objs.take k).length ≤ k := List.length_take_le _ _
              simp
              omega
            have hnew : Hid (xs ++ [((pk : Int), n, mask)] ++ [(x1, x2, x3)] = insP ((pk : Int), n, mask) (T.objs.take (k + 1))) := Lib.hid (by rw [hts.out, insP_lt hbb.out.symm hpx, hxs.out])
            have hbn : Hid (true = hasGt ((pk : Int), n, mask) (T.objs.take (k + 1))) := Lib.hid (by rw [hts.out, hasGt_snoc, decide_eq_true hpx]; simp)
            rw [← hys.out] at hxl2 hnew
            replace hown2 := Lib.hid hown2
            clear hbw2 o0 o1 o2 d0 d1 d2 c6 hown hys
            refine go_on ?_
            go_wp2_with (refine wpList_push3 rfl (.tmp 92) (.tmp 98) rfl w14.heap.size _ ys rfl hown2.out (x1, x2, x3) rfl hxl2 hzr2 ?_; intro zs A3 cc3 w16 hzs hown3 hbw3; replace hzs := Lib.hid hzs; refine stop_here ?_)
            have hbr3 := Lib.hid (hbr2.out.trans hbw3)
            rw [← hzs.out] at hnew
            replace hown3 := Lib.hid hown3
            clear hbw3 hzs
            refine go_on ?_
            go_wp2_with fail
            go_roundw
            case rel => exact ⟨k + 1, A3, cc3, true, zs, by omega, by go_num, rfl, rfl, hbn, hnew, hown3, hbr3⟩
            case measure => simp [intOf]; omega
          · have t1 : decide ((pk : Int) < x1) = false := decide_eq_false hpx
            have hnew : Hid (xs ++ [(x1, x2, x3)] = insP ((pk : Int), n, mask) (T.objs.take (k + 1))) := Lib.hid (by rw [hts.out, insP_ge hbb.out.symm hpx, hxs.out])
            have hbn : Hid (false = hasGt ((pk : Int), n, mask) (T.objs.take (k + 1))) := Lib.hid (by rw [hts.out, hasGt_snoc, decide_eq_false hpx, ← hbb.out]; rfl)
            go_wp2_with (refine wpList_push3 rfl (.tmp 92) (.tmp 98) rfl w14.heap.size _ xs rfl hown.out (x1, x2, x3) rfl hxl hzr ?_; intro zs A3 cc3 w16 hzs hown3 hbw3; replace hzs := Lib.hid hzs; refine stop_here ?_)
            have hbr3 := Lib.hid (hbr.out.trans hbw3)
            rw [← hzs.out] at hnew
            replace hown3 := Lib.hid hown3
            clear hbw3 hzs
            refine go_on ?_
            go_wp2_with fail
            go_roundw
            case rel => exact ⟨k + 1, A3, cc3, false, zs, by omega, by go_num, rfl, rfl, hbn, hnew, hown3, hbr3⟩
            case measure => simp [intOf]; omega
        · have hnew : Hid (xs ++ [(x1, x2, x3)] = insP ((pk : Int), n, mask) (T.objs.take (k + 1))) := Lib.hid (by rw [hts.out, insP_gt hbb.out.symm, hxs.out])
          have hbn : Hid (true = hasGt ((pk : Int), n, mask) (T.objs.take (k + 1))) := Lib.hid (by rw [hts.out, hasGt_snoc, ← hbb.out]; rfl)
          go_wp2_with (refine wpList_push3 rfl (.tmp 92) (.tmp 98) rfl w14.heap.size _ xs rfl hown.out (x1, x2, x3) rfl hxl hzr ?_; intro zs A3 cc3 w16 hzs hown3 hbw3; replace hzs := Lib.hid hzs; refine stop_here ?_)
          have hbr3 := Lib.hid (hbr.out.trans hbw3)
          rw [← hzs.out] at hnew
          replace hown3 := Lib.hid hown3
          clear hbw3 hzs
          refine go_on ?_
          go_wp2_with fail
          go_roundw
          case rel => exact ⟨k + 1, A3, cc3, true, zs, by omega, by go_num, rfl, rfl, hbn, hnew, hown3, hbr3⟩
          case measure => simp [intOf]; omega
      · obtain rfl : k = T.objs.length := by omega
        have t0 : decide (((T.objs.length : Nat) : Int) < ((T.objs.length : Nat) : Int)) = false := by rw [decide_eq_false_iff_not]; omega
        rw [List.take_length] at hbb hxs
        have hfin := Lib.hid (insP_end (o := ((pk : Int), n, mask)) (l := T.objs))
        rcases b with _ | _
        · go_wp2_with (refine wpList_push3 rfl (.tmp 102) (.tmp 104) rfl w14.heap.size _ xs rfl hown.out ((pk : Int), n, mask) rfl hxl hzr ?_; intro zs A3 cc3 w16 hzs hown3 hbw3; replace hzs := Lib.hid hzs; refine stop_here ?_)
          have hbr3 := Lib.hid (hbr.out.trans hbw3)
          have he := Lib.hid (show zs = insO ((pk : Int), n, mask) T.objs by rw [hzs.out, hfin.out, ← hbb.out, if_neg (by simp), hxs.out])
          clear hbw3 hzs
          have X16 := X14.out.below hbr3.out
          have R16 := R14.out.below hbr3.out R14.out.lt
          have hrd := rdc_of_own hown3
          have X17 := X16.set_objs hrd (fun _ b e => hQ.out b (by have := (hown3.lt b e).1; have := b14.out.size; omega))
          have z6 := X16.blk.frozen 6
          have c66 := X16.cells.2.2.2.2.2.2
          have R17 := Lib.hid (R16.far (p := ⟨w.heap.size, 6, none⟩) (by show w.heap.size + 1 ≠ w.heap.size; omega) (.slice A3 zs.length cc3))
          have b17 := Lib.hid ((b14.out.trans (hbr3.out.mono b14.out.size)).setCell (p := ⟨w.heap.size, 6, none⟩) (Nat.le_refl _) (.slice A3 zs.length cc3))
          have O17 := Lib.hid (slices_one X17.rin.slices)
          replace X17 := Lib.hid X17
          clear X16 R16 hrd hown3 X V o0 o1 o2 c6 hown
          refine go_on ?_
          go_wp2_with (first
            | (refine wpList_load_blk rfl 31 (.tmp 4) rfl w.heap.size rfl 31 (rcells vw12 vc12 f12 (.slice A3 zs.length cc3)) X17.out.blk _ Tryd.underlying31 rfl SZ.out ?_)
            | (refine wpList_store_blk rfl 31 (.tmp 8) (.tmp 108) rfl (w.heap.size + 1) rfl (rcells vw12 vc12 f12 (.slice A3 zs.length cc3)) rfl 31 (rnil) R17.out SZ.out rfl O17.out ?_; intro w19 hR19 hg19 hs19))
          refine bodyPost_ret (res_cell_tmp2 rfl rfl hR19 Tryd.underlying31 rfl SZ.out) rfl ⟨_, _, _, _, rfl, (by rw [← he.out]; exact X17.out.rin.far R17.out rnil_slices hg19), b17.out.grown hg19 b17.out.size (fun k hk => by cases hk; omega)⟩
        · have he := Lib.hid (show xs = insO ((pk : Int), n, mask) T.objs by rw [hfin.out, ← hbb.out, if_pos rfl, hxs.out])
          obtain ⟨zs, rfl⟩ : ∃ zs, zs = xs := ⟨_, rfl⟩
          obtain ⟨w16, rfl⟩ : ∃ wx : World, wx = wr := ⟨_, rfl⟩
          obtain ⟨A3, rfl⟩ : ∃ A3, A3 = A := ⟨_, rfl⟩
          obtain ⟨cc3, rfl⟩ : ∃ A3, A3 = cc := ⟨_, rfl⟩
          have hown3 := hown.out
          have hbr3 := hbr
          refine stop_here ?_
          have X16 := X14.out.below hbr3.out
          have R16 := R14.out.below hbr3.out R14.out.lt
          have hrd := rdc_of_own hown3
          have X17 := X16.set_objs hrd (fun _ b e => hQ.out b (by have := (hown3.lt b e).1; have := b14.out.size; omega))
          have z6 := X16.blk.frozen 6
          have c66 := X16.cells.2.2.2.2.2.2
          have R17 := Lib.hid (R16.far (p := ⟨w.heap.size, 6, none⟩) (by show w.heap.size + 1 ≠ w.heap.size; omega) (.slice A3 zs.length cc3))
          have b17 := Lib.hid ((b14.out.trans (hbr3.out.mono b14.out.size)).setCell (p := ⟨w.heap.size, 6, none⟩) (Nat.le_refl _) (.slice A3 zs.length cc3))
          have O17 := Lib.hid (slices_one X17.rin.slices)
          replace X17 := Lib.hid X17
          clear X16 R16 hrd hown3 X V o0 o1 o2 c6 hown
          refine go_on ?_
          go_wp2_with (first
            | (refine wpList_load_blk rfl 31 (.tmp 4) rfl w.heap.size rfl 31 (rcells vw12 vc12 f12 (.slice A3 zs.length cc3)) X17.out.blk _ Tryd.underlying31 rfl SZ.out ?_)
            | (refine wpList_store_blk rfl 31 (.tmp 8) (.tmp 108) rfl (w.heap.size + 1) rfl (rcells vw12 vc12 f12 (.slice A3 zs.length cc3)) rfl 31 (rnil) R17.out SZ.out rfl O17.out ?_; intro w19 hR19 hg19 hs19))
          refine bodyPost_ret (res_cell_tmp2 rfl rfl hR19 Tryd.underlying31 rfl SZ.out) rfl ⟨_, _, _, _, rfl, (by rw [← he.out]; exact X17.out.rin.far R17.out rnil_slices hg19), b17.out.grown hg19 b17.out.size (fun k hk => by cases hk; omega)⟩
end Go.Proofs.YtoodfioecabglaaDoor
