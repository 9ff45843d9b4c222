/- Joined: HeapRefH, HeapSame, HeapSameL, HeapActs. -/
import Derived.Test.YtoodfioecabglaaDoorHMA
import Derived.Test.YtoodfioecabglaaDoorHeapRoomP
import Derived.Test.YtoodfioecabglaaDoorHMG
import Derived.Test.YtoodfioecabglaaDoorHeapLaws
set_option linter.unusedVariables false
set_option linter.unusedSimpArgs false
namespace Go.Proofs.YtoodfioecabglaaDoor
open Go.RowKit Go.Shelf
theorem filter_snoc {α : Type} (p : α → Bool) (l : List α) (x : α) : (l ++ [x]).filter p = if p x = true then l.filter p ++ [x] else l.filter p := by
  rw [List.filter_append]
  by_cases h : p x = true
  · simp [h]
  · simp [h]
theorem uniq_at {objs : List (Int × Int × Int)} (hs : objs.Pairwise fun a b => a.1 < b.1) {i k : Nat} (hi : i < objs.length) (hk : k < objs.length) (h : (objs[i]).1 = (objs[k]).1) : i = k := by
  rcases Nat.lt_trichotomy i k with h1 | h1 | h1
  · have := List.pairwise_iff_getElem.1 hs i k hi hk h1; omega
  · exact h1
  · have := List.pairwise_iff_getElem.1 hs k i hk hi h1; omega
theorem any_count (l : List (Int × Int × Int)) (s : Int) : l.any (fun x => spanOf x.1 == s) = decide (0 < (l.filter fun x => spanOf x.1 == s).length) := by
  induction l with
  | nil => rfl
  | cons x l ih =>
    rw [List.any_cons, ih]
    by_cases h : (spanOf x.1 == s) = true
    · simp [List.filter_cons, h]
    · have h' : (spanOf x.1 == s) = false := by simpa using h
      simp [List.filter_cons, h']
/-- What Free comes to, of an object. -/
theorem sFree_some {S : HS} (I : Inv S) {k : Nat} (hk : k < S.objs.length) (junk : Int) : ∃ (p W c s : Nat), (S.objs[k]).1 = (p : Int) ∧ classOf (S.objs[k]).2.1 = (c : Int) ∧ c < 4 ∧ wordsOf (c : Int) = (W : Int) ∧ spanOf (p : Int) = (s : Int) ∧ s < S.cls.length ∧ p + W ≤ S.words.length ∧ p ≤ 4096 ∧
    putL S.free (c : Int) (p : Int) = (addL S.free (c : Int) (p : Int), 0) ∧
    sFree S (p : Int) junk = (if 0 < ((S.objs.filter fun x => !(x.1 == (p : Int))).filter fun x => spanOf x.1 == (s : Int)).length then ({ S with words := fillW S.words p junk W, objs := S.objs.filter (fun x => !(x.1 == (p : Int))), free := addL S.free (c : Int) (p : Int) }, 0)
      else ({ S with words := fillW S.words p junk W, objs := S.objs.filter (fun x => !(x.1 == (p : Int))), free := cutL (addL S.free (c : Int) (p : Int)) (s : Int), cls := S.cls.set s (-1) }, 0)) := by
  have hmem : S.objs[k] ∈ S.objs := List.getElem_mem hk
  obtain ⟨o, ho⟩ : ∃ o, o = S.objs[k] := ⟨_, rfl⟩
  rw [← ho] at hmem ⊢
  obtain ⟨a1, a2, a3, a4, a5⟩ := I.ob o hmem
  have h1 := a5.1
  have h2 := a5.ends.2
  have h3 := a5.span
  have h4 := I.wl
  have h5 := I.cl
  have h6 := I.n2
  have h7 := (class_ge a1 a2).1
  have h8 := (class_ge a1 a2).2.1
  obtain ⟨p, hp⟩ : ∃ p : Nat, o.1 = (p : Int) := ⟨o.1.toNat, by omega⟩
  obtain ⟨c, hc⟩ : ∃ c : Nat, classOf o.2.1 = (c : Int) := ⟨(classOf o.2.1).toNat, by omega⟩
  obtain ⟨W, hW⟩ : ∃ W : Nat, wordsOf (c : Int) = (W : Int) := ⟨(wordsOf (c : Int)).toNat, by have := words_bd (c : Int); omega⟩
  obtain ⟨s, hs⟩ : ∃ s : Nat, spanOf (p : Int) = (s : Int) := ⟨(spanOf (p : Int)).toNat, by rw [← hp]; omega⟩
  rw [hp, hc] at a5
  rw [hp, hc, hW] at h2
  rw [hp, hs] at h3
  have hput := put_add (L := S.free) a5.begins (fun j hj hm => I.fo j hj (p : Int) hm o hmem hp)
  refine ⟨p, W, c, s, hp, hc, by omega, hW, hs, by omega, by omega, by omega, hput, ?_⟩
  have h0 := I.there_in hmem (Int.le_refl 0) (by omega)
  have hsz := I.size hmem
  rw [hp] at h0 hsz
  have hl : sLess S (p : Int) junk = { S with words := fillW S.words p junk W, objs := S.objs.filter (fun x => !(x.1 == (p : Int))), free := addL S.free (c : Int) (p : Int) } := by
    unfold sLess
    rw [hsz, hc, hW, Int.toNat_natCast, Int.toNat_natCast]
  unfold sFree
  rw [h0, if_neg (by decide), hl, any_count, hs, Int.toNat_natCast]
  split
  · next h => rw [if_pos (by simpa using h)]
  · next h => rw [if_neg (by simpa using h)]
set_option maxHeartbeats 12800000 in
set_option maxRecDepth 100000 in
theorem rfree_ok {Q : Nat → Prop} (S : HS) (vw vc vo : Value) (f : Nat → Value) (w : World) (H : RIn Q w S vw vc f vo) (hQ : New Q w) (I : Inv S) (p junk : Int) :
    Calls Tryd.prog 14 #[.agg (rcells vw vc f vo), .int .i64 p, .int .i64 junk] w (RetHE Q w (sFree S p junk).1 (sFree S p junk).2) := by
  have SZ := Lib.hid rh_size
  have O0 := Lib.hid (slices_one H.slices)
  have hlen := H.len0 I.toInv0
  obtain ⟨Ao, co, eo, -⟩ := H.objs.len
  replace H := Lib.hid H
  replace hQ := Lib.hid hQ
  replace I := Lib.hid I
  replace eo := Lib.hid eo
  go_enter Tryd.func14, Tryd.ntmps14
  go_wp2_with (first
    | (refine wpList_new rfl (.box 31 (.tmp 0)) rfl w.heap.size rfl 31 (rcells vw vc f vo) (by kernel_rfl) ?_; intro w1 hs1 hb1 hB1)
    | (refine wpList_new rfl (.alloc 31) rfl (w.heap.size + 1) hs1 31 rnil (by kernel_rfl) ?_; intro w2 hs2 hb2 hB2; refine stop_here ?_))
  have HX := Lib.hid ((show RBox Q w1 w.heap.size S vw vc f vo from ⟨hB1, H.out.below hb1⟩).below (hb2.mono (by omega)))
  have HR := Lib.hid hB2
  have hb2 := hb1.trans (hb2.mono (by omega))
  have hz2 : w.heap.size + 1 < w2.heap.size := by omega
  clear hs1 hB1 hb1 hB2 hs2
  refine go_on ?_
  go_wp2_with (refine wpList_load_blk rfl 31 (.tmp 3) rfl w.heap.size rfl 31 (rcells vw vc f vo) HX.out.blk _ Tryd.underlying31 rfl SZ.out ?_)
  refine (rfind_ok S _ _ _ _ _ HX.out.rin p hlen.2.2).mono ?_
  rintro e w3 ⟨⟨r, rfl, hat⟩, hb3⟩
  have HX3 := Lib.hid (HX.out.below hb3)
  have HR3 := Lib.hid (HR.out.below hb3 HR.out.lt)
  have b3 := below_all hb2 hb3
  have hz3 : w.heap.size + 1 < w3.heap.size := Nat.lt_of_lt_of_le hz2 hb3.size
  clear HX HR hb3 hb2 hz2
  rcases hat with ⟨rfl, hno⟩ | ⟨k, hk, rfl, hp⟩
  · have e : sFree S p junk = (S, 11) := by
      have h0 : sThere S p 0 = 11 := by
        unfold sThere
        rw [size_none hno]
        simp
      unfold sFree
      rw [h0, if_pos (by decide)]
    replace e := Lib.hid e
    replace hno := Lib.hid hno
    go_wp2_with (first
      | (refine wpList_load_blk rfl 31 (.tmp 3) rfl w.heap.size rfl 31 (rcells vw vc f vo) HX3.out.blk _ Tryd.underlying31 rfl SZ.out ?_)
      | (refine wpList_store_blk rfl 31 (.tmp 6) (.tmp 24) rfl (w.heap.size + 1) rfl (rcells vw vc f vo) rfl 31 (rnil) HR3.out SZ.out rfl O0.out ?_; intro w9 hR9 hg9 hs9))
    refine bodyPost_ret (res_cell_tmp rfl rfl hR9 Tryd.underlying31 rfl SZ.out) rfl ?_
    rw [e.out]
    exact ⟨_, _, _, _, rfl, HX3.out.rin.far HR3.out rnil_slices hg9, b3.grown hg9 b3.size (fun k hk => by cases hk; omega)⟩
  · obtain ⟨pk, W, c, s, e1, e2, hc4, hW, hs, hsl, hpW, hp9, hput, hfree⟩ := sFree_some I.out hk junk
    rw [e1] at hp
    subst hp
    obtain rfl := eo.out
    clear eo
    have hsz6 := (I.out.ob _ (List.getElem_mem hk)).2.1
    have huq := Lib.hid (fun i (hi : i < S.objs.length) (h : (S.objs[i]).1 = (pk : Int)) => uniq_at I.out.os hi hk (h.trans e1.symm))
    have HO := Lib.hid (fun wx => show Calls Tryd.prog 34 #[.int .i64 (S.objs[k]).2.1] wx fun e w' => e = .returned (.int .i64 (c : Int)) ∧ wx = w' by rw [← e2]; exact rof_ok _ wx)
    have HI := Lib.hid (fun wx => show Calls Tryd.prog 35 #[.int .i64 (pk : Int)] wx fun e w' => e = .returned (.int .i64 (s : Int)) ∧ wx = w' by rw [← hs]; exact rin_ok _ wx (by omega))
    have HW := Lib.hid (fun wx => show Calls Tryd.prog 37 #[.int .i64 (c : Int)] wx fun e w' => e = .returned (.int .i64 (W : Int)) ∧ wx = w' by rw [← hW]; exact rwords_ok _ wx)
    have hob9 := Lib.hid (fun i (hi : i < S.objs.length) => show (S.objs[i]).1 ≤ 9223372036854775807 by
      obtain ⟨_, _, _, _, a5⟩ := I.out.ob _ (List.getElem_mem hi)
      have := a5.2.1
      have := I.out.n2
      omega)
    obtain ⟨b, ob, rfl, hbl, hc⟩ := HX3.out.rin.objs.at_ hk
    have c1 := hc 1 _ rfl
    obtain ⟨sz, hsz⟩ : ∃ sz, sz = (S.objs[k]).2.1 := ⟨_, rfl⟩
    rw [← hsz] at c1 HO
    have c6 := HX3.out.cells.2.2.2.2.2.2
    have k0 : (0 : Int) ≤ (k : Int) := by omega
    have k1 : (k : Int) < (S.objs.length : Int) := by omega
    have hg3 : w.heap.size < w3.heap.size := by omega
    replace hfree := Lib.hid hfree
    replace hput := Lib.hid hput
    replace e1 := Lib.hid e1
    clear hc hsz e2 hW hs hsz6
    go_wp2_with (first
      | (go_at_call 34; refine (HO.out _).mono ?_; rintro e w' ⟨rfl, rfl⟩)
      | (go_at_call 35; refine (HI.out _).mono ?_; rintro e w' ⟨rfl, rfl⟩))
    have hS0 : (fun X : World => Below w3.heap.size w3 X) w3.drew := (Below.refl _ _).drew
    refine wp_T (by kernel_rfl) 6 (fun X : World => Below w3.heap.size w3 X) ?_
    refine wpAnyT_take (i := 0) (v := .agg #[vw, vc, f 0, f 1, f 2, f 3, .slice (some ⟨b, ob, none⟩) S.objs.length co]) rfl (by kernel_rfl) (fun _ _ _ hp => hp) (yieldsIf_load_mid (by rfl) _ _ rfl w.heap.size 0 rfl [vw, vc, f 0, f 1, f 2, f 3, .slice (some ⟨b, ob, none⟩) S.objs.length co] _ (fun X hX => World.rangeAt_of_block (HX3.out.below hX).blk 0 7) Tryd.underlying31 rfl rh_size) hS0 ?_
    simp only [Act.put, List.setIfInBounds_toArray, List.set_cons_zero, List.set_cons_succ]
    refine wpAnyT_takeW (i := 1) (v := .int .i64 (pk : Int)) rfl (by kernel_rfl) (fun _ _ _ hp => hp) (Or.inl ⟨by rfl, fun X _ => by go_simp⟩) hS0 ?_
    simp only [Act.put, List.setIfInBounds_toArray, List.set_cons_zero, List.set_cons_succ]
    refine wpAnyT_takeW (i := 2) (v := .int .i64 (c : Int)) rfl (by kernel_rfl) (fun _ _ _ hp => hp) (Or.inl ⟨by rfl, fun X _ => by go_simp⟩) hS0 ?_
    simp only [Act.put, List.setIfInBounds_toArray, List.set_cons_zero, List.set_cons_succ]
    refine wpAnyT_takeW (i := 4) (v := .int .i64 junk) rfl (by kernel_rfl) (fun _ _ _ hp => hp) (Or.inl ⟨by rfl, fun X _ => by go_simp⟩) hS0 ?_
    simp only [Act.put, List.setIfInBounds_toArray, List.set_cons_zero, List.set_cons_succ]
    refine wpAnyT_one (i := 3) rfl (by kernel_rfl) (by rfl) ?_
    intro K1 hK1
    go_simp
    refine (HW.out _).mono ?_
    rintro e _ ⟨rfl, rfl⟩
    dsimp only
    refine hK1.out _ _ (fun _ => hS0) ?_
    (try simp only [Act.put, List.setIfInBounds_toArray, List.set_cons_zero, List.set_cons_succ])
    refine wpAnyT_one (i := 5) rfl (by kernel_rfl) (by rfl) ?_
    intro K2 hK2
    go_simp
    refine (rfill_ok S vw vc (.slice (some ⟨b, ob, none⟩) S.objs.length co) f _ (HX3.out.rin.below hS0) (hQ.out.le (Nat.le_trans b3.size (Below.size hS0))) pk W junk hlen.1 hpW).mono ?_
    rintro e w4 ⟨vw4, vc4, f4, vo4, rfl, hr4, hb4⟩
    dsimp only
    have hS2 : (fun X : World => Below w3.heap.size w3 X) w4 := Below.trans hS0 (Below.mono hb4 (Below.size hS0))
    refine hK2.out _ _ (fun _ => hS2) ?_
    (try simp only [Act.put, List.setIfInBounds_toArray, List.set_cons_zero, List.set_cons_succ])
    refine wpAnyT_one (i := 6) rfl (by kernel_rfl) (by rfl) ?_
    intro K3 hK3
    refine wp_store_blk 31 _ _ rfl w.heap.size rfl (rcells vw4 vc4 f4 vo4) rfl 31 (rcells vw vc f (.slice (some ⟨b, ob, none⟩) S.objs.length co)) (HX3.out.below hS2).blk rh_size rfl (slices_one hr4.slices) ?_
    intro w5 hR5 hg5 hs5
    refine hK3.out _ _ (fun hh => absurd rfl hh) ?_
    (try simp only [Act.put, List.setIfInBounds_toArray, List.set_cons_zero, List.set_cons_succ])
    refine wpAnyT_done (by kernel_rfl) ?_ _
    (try simp only [Act.put, List.setIfInBounds_toArray, List.set_cons_zero, List.set_cons_succ])
    clear hK1 K1 hK2 K2 hK3 K3
    have X5 := Lib.hid (RBox.all (HX3.out.below hS2).blk HX3.out.rin.slices hg5 hR5 hr4)
    have R5 := Lib.hid ((HR3.out.below hS2 HR3.out.lt).grown hg5 (fun e => by injection e with e; omega))
    have b5 := Lib.hid ((below_all b3 hS2).grown hg5 (below_all b3 hS2).size (fun k hk => by cases hk; exact Nat.le_refl _))
    clear hS2 hS0 hR5 hg5 hs5 hr4 hb4 HX3 HR3 b3 hz3 hg3 hbl c1 c6
    obtain ⟨Ao, co4, rfl, -⟩ := X5.out.rin.objs.len
    have hlo : ({ S with words := fillW S.words pk junk W } : HS).objs.length = S.objs.length := rfl
    rw [hlo] at X5 ⊢
    clear hlo
    have g5 : w.heap.size + 1 < w5.heap.size := R5.out.lt
    have hown0 := Lib.hid (World.ownsRow_nil w5 w5.heap.size 75 3)
    go_wp2_with fail
    go_loopw [11, 12, 13] (fun l d i wr => ∃ (j : Nat) (A : Option Addr) (cc lf : Nat) (xs : List (Int × Int × Int)), j ≤ S.objs.length ∧ lf ≤ j ∧ xs.length ≤ j ∧ i = .int .i64 j ∧ d = .int .i64 lf ∧ l = .slice A xs.length cc ∧ Hid (xs = (S.objs.take j).filter fun x => !(x.1 == (pk : Int))) ∧ Hid (lf = (xs.filter fun x => spanOf x.1 == (s : Int)).length) ∧ Hid (wr.ownsRow w5.heap.size 75 3 (.slice A xs.length cc) xs.length (xs.flatMap objC)) ∧ Hid (Below w5.heap.size w5 wr)) (fun _ _ i _ => S.objs.length - (intOf i).toNat)
    case atStart => exact ⟨0, none, 0, 0, [], by omega, by omega, by simp, rfl, rfl, rfl, Lib.hid rfl, Lib.hid rfl, hown0, Lib.hid (Below.refl _ _)⟩
    case round =>
      clear hown0
      obtain ⟨j, A, cc, lf, xs, hj, hlf, hxj, rfl, rfl, rfl, hxs, hlc, hown, hbr⟩ := hrel
      have X := Lib.hid (X5.out.below hbr.out)
      have c6 := X.out.cells.2.2.2.2.2.2
      have hxl : xs.length ≤ 5000 := by omega
      have hzr : w5.heap.size ≤ wr.heap.size := hbr.out.size
      by_cases hlt : j < S.objs.length
      · have t0 : (j : Int) < (S.objs.length : Int) := by omega
        have hts : S.objs.take (j + 1) = S.objs.take j ++ [S.objs[j]] := by rw [List.take_succ_eq_append_getElem hlt]
        by_cases hjk : j = k
        · subst hjk
          have t1 : ((j : Int) == (j : Int)) = true := by simp
          have hnew : Hid (xs = (S.objs.take (j + 1)).filter fun x => !(x.1 == (pk : Int))) := Lib.hid (by rw [hts, filter_snoc, if_neg (by rw [e1.out]; simp), hxs.out])
          clear hts
          go_wp2_with fail
          go_roundw
          case rel => exact ⟨j + 1, A, cc, lf, xs, by omega, by omega, by omega, by go_num, rfl, rfl, hnew, hlc, hown, hbr⟩
          case measure => simp [intOf]; omega
        · have t1 : ((j : Int) == (k : Int)) = false := by rw [beq_eq_false_iff_ne]; omega
          have hne : (S.objs[j]).1 ≠ (pk : Int) := fun e => hjk (huq.out j hlt e)
          have h9 := hob9.out j hlt
          obtain ⟨bo, oo, rfl, hbol, hc⟩ := X.out.rin.objs.at_ (i := j) hlt
          have hbol2 : bo < w5.heap.size := by
            obtain ⟨b9, o9, e9, h9, _⟩ := X5.out.rin.objs.at_ (i := j) hlt
            cases e9
            exact h9
          obtain ⟨x, hx⟩ : ∃ x, x = S.objs[j] := ⟨_, rfl⟩
          have hc' : ∀ j2 u, (objC x)[j2]? = some u → wr.cell? ⟨bo, oo + j * 3 + j2, none⟩ = some u := by rw [hx]; exact hc
          rw [← hx] at hts hne h9
          obtain ⟨x1, x2, x3⟩ := x
          dsimp only at hne h9
          have d0 : wr.cell? ⟨bo, oo + j * 3, none⟩ = some (.int .i64 x1) := hc' 0 _ rfl
          have d1 := hc' 1 _ rfl
          have d2 := hc' 2 _ rfl
          have hnew : Hid (xs ++ [(x1, x2, x3)] = (S.objs.take (j + 1)).filter fun x => !(x.1 == (pk : Int))) := Lib.hid (by rw [hts, filter_snoc, if_pos (by simpa using hne), hxs.out])
          obtain ⟨sx, hsx⟩ : ∃ sx, spanOf x1 = sx := ⟨_, rfl⟩
          have HIx := Lib.hid (fun wx => show Calls Tryd.prog 35 #[.int .i64 x1] wx fun e w' => e = .returned (.int .i64 sx) ∧ wx = w' by rw [← hsx]; exact rin_ok _ wx h9)
          have hcnt : Hid (((xs ++ [(x1, x2, x3)]).filter fun x => spanOf x.1 == (s : Int)).length = if (sx == (s : Int)) = true then lf + 1 else lf) := Lib.hid (by
            rw [filter_snoc, hsx, hlc.out]
            split <;> simp)
          replace hne := Lib.hid hne
          clear hc hc' hx hts hsx h9
          go_wp2_with (refine wpList_push3 rfl (.tmp 50) (.tmp 56) rfl w5.heap.size _ xs rfl hown.out (x1, x2, x3) rfl hxl hzr ?_; intro zs A3 cc3 w16 hzs hown3 hbw3; replace hzs := Lib.hid hzs; refine stop_here ?_)
          have e0 := (hbw3.cell (p := ⟨bo, oo + j * 3, none⟩) hbol2).trans d0
          have f6 := (hbw3.cell (p := ⟨w.heap.size, 6, none⟩) (show w.heap.size < w5.heap.size by omega)).trans c6
          have hbr3 := Lib.hid (hbr.out.trans hbw3)
          have hzl : zs.length ≤ j + 1 := by rw [hzs.out]; simp; omega
          rw [← hzs.out] at hnew hcnt
          replace hown3 := Lib.hid hown3
          clear hbw3 hzs d0 d1 d2 c6 hown
          refine go_on ?_
          by_cases hss : sx = (s : Int)
          · have t2 : (sx == (s : Int)) = true := by simp [hss]
            have hcn : Hid (lf + 1 = (zs.filter fun x => spanOf x.1 == (s : Int)).length) := Lib.hid (by rw [hcnt.out, if_pos t2])
            replace hss := Lib.hid hss
            go_wp2_with (go_at_call 35; refine (HIx.out _).mono ?_; rintro e w' ⟨rfl, rfl⟩)
            go_roundw
            case rel => exact ⟨j + 1, A3, cc3, lf + 1, zs, by omega, by omega, hzl, by go_num, by go_num, rfl, hnew, hcn, hown3, hbr3⟩
            case measure => simp [intOf]; omega
          · have t2 : (sx == (s : Int)) = false := beq_eq_false_iff_ne.2 hss
            have hcn : Hid (lf = (zs.filter fun x => spanOf x.1 == (s : Int)).length) := Lib.hid (by rw [hcnt.out, if_neg (by rw [t2]; simp)])
            replace hss := Lib.hid hss
            go_wp2_with (go_at_call 35; refine (HIx.out _).mono ?_; rintro e w' ⟨rfl, rfl⟩)
            go_roundw
            case rel => exact ⟨j + 1, A3, cc3, lf, zs, by omega, by omega, hzl, by go_num, rfl, rfl, hnew, hcn, hown3, hbr3⟩
            case measure => simp [intOf]; omega
      · obtain rfl : j = S.objs.length := by omega
        have t0 : decide (((S.objs.length : Nat) : Int) < ((S.objs.length : Nat) : Int)) = false := by rw [decide_eq_false_iff_not]; omega
        rw [List.take_length] at hxs
        have R := R5.out.below hbr.out R5.out.lt
        have hrd := rdc_of_own hown.out
        have X6 := X.out.set_objs hrd (fun _ b e => hQ.out b (by have := (hown.out.lt b e).1; have := b5.out.size; omega))
        have z6 := X.out.blk.frozen 6
        have R6 := Lib.hid (R.far (p := ⟨w.heap.size, 6, none⟩) (by show w.heap.size + 1 ≠ w.heap.size; omega) (.slice A xs.length cc))
        have b6 := Lib.hid ((b5.out.trans (hbr.out.mono b5.out.size)).setCell (p := ⟨w.heap.size, 6, none⟩) (Nat.le_refl _) (.slice A xs.length cc))
        replace X6 := Lib.hid X6
        have hSh : Hid (∀ j, j < 4 → (S.free j).length ≤ 1099511627776) := Lib.hid fun j hj => by have := I.out.free_len hj; omega
        clear R hrd X hown
        rw [hxs.out] at hlc
        have hcond : (0 < ((S.objs.filter fun x => !(x.1 == (pk : Int))).filter fun x => spanOf x.1 == (s : Int)).length) ↔ 0 < lf := by rw [hlc.out]
        have hfr := hfree.out
        rw [← hxs.out] at hfr
        by_cases hlf0 : 0 < lf
        · rw [if_pos (by rw [hxs.out]; exact hcond.2 hlf0)] at hfr
          replace hfr := Lib.hid hfr
          replace hcond := Lib.hid hcond
          have t3 : ((lf : Int) == 0) = false := by rw [beq_eq_false_iff_ne]; omega
          have HP := Lib.hid (fun wx (hnx : New Q wx) (hx : RBox Q wx w.heap.size { S with words := fillW S.words pk junk W, objs := xs } vw4 vc4 f4 (.slice A xs.length cc)) => show Calls Tryd.prog 38 #[.agg (arr4 f4), .int .i64 (c : Int), .int .i64 (pk : Int)] wx fun e w' => ∃ v, e = .returned (.tuple #[v, .int .i64 0]) ∧ RdQ Q w' v (addL S.free (c : Int) (pk : Int)) ∧ Below wx.heap.size wx w' by
            have h9 := rput_q Q f4 S.free (c : Int) (pk : Int) wx (fun j hj => hx.rin.fr j hj) hSh.out (by omega) hnx hx.rin.qf
            rw [hput.out] at h9
            exact h9)
          have RG6 := Lib.hid X6.out.range4
          go_wp2_with (first
            | (refine wpList_load_mid rfl 28 (.tmp 72) rfl w.heap.size 2 rfl [f4 0, f4 1, f4 2, f4 3] _ RG6.out rarr_row rfl rarr_size ?_)
            | (go_at_call 38; refine (HP.out _ (hQ.out.le b6.out.size) X6.out).mono ?_; rintro e w8 ⟨v8, rfl, ⟨f8, rfl, hr8, hq8⟩, hb8⟩; replace hq8 := Lib.hid hq8; refine stop_here ?_))
          have O8 := Lib.hid (arr4_one fun j hj => rd_one (hr8 j hj))
          have X8 := Lib.hid (X6.out.below hb8)
          have R8 := Lib.hid (R6.out.below hb8 R6.out.lt)
          have b8 := Lib.hid (below_all b6.out hb8)
          replace hr8 := Lib.hid hr8
          clear X6 R6 HP hb8 b6 RG6
          refine go_on ?_
          go_wp2_with (first
            | (refine wpList_new rfl (.alloc 28) rfl w8.heap.size rfl 28 nil4 (by kernel_rfl) ?_; intro w9 hs9 hb9 hB9; have HB9 := Lib.hid hB9; clear hB9 hs9)
            | (refine wpList_store_blk rfl 28 (.tmp 14) (.tmp 77) rfl w8.heap.size rfl (arr4 f8) rfl 28 nil4 HB9.out rarr_size rfl O8.out ?_; intro w10 hB10 hg10 hs10; refine stop_here ?_))
          have h810 : Below w8.heap.size w8 w10 := hb9.grown hg10 hb9.size (fun k hk => by cases hk; exact Nat.le_refl _)
          have X10 := Lib.hid (X8.out.below h810)
          have R10 := R8.out.below h810 R8.out.lt
          have b10 := below_all b8.out h810
          have hr10 : ∀ j, j < 4 → Rd i64e w10 (f8 j) (addL S.free (c : Int) (pk : Int) j) := fun j hj => (hr8.out j hj).below h810
          have X11 := Lib.hid (X10.out.set_free hr10 hq8.out)
          have R11 := Lib.hid (show Blk (w10.setCells w.heap.size 2 (arr4 f8).toList) (w.heap.size + 1) 31 rnil from (set4_other w10 w.heap.size f8 (by omega)).trans R10)
          have b11 : Below w.heap.size w (w10.setCells w.heap.size 2 (arr4 f8).toList) := b10.grown (grown_set4 w10 w.heap.size f8) b10.size (fun k hk => by cases hk; exact Nat.le_refl _)
          have V10 := Lib.hid hB10
          have T10 := Lib.hid (X10.out.there4 f8)
          clear h810 hB10 hr10 R10 b10 hg10 hs10 hb9 HB9 X8 R8 b8 hr8
          refine go_on ?_
          go_wp2_with (first
            | (refine wpList_load_blk rfl 28 (.tmp 14) rfl w8.heap.size rfl 28 (arr4 f8) V10.out _ rarr_row rfl rarr_size ?_)
            | (refine wpList_store_mid rfl 28 (.tmp 80) (.tmp 79) rfl w.heap.size 2 (arr4 f8) rfl rfl T10.out rarr_size O8.out ?_; refine stop_here ?_))
          generalize w10.setCells w.heap.size 2 (arr4 f8).toList = w11 at X11 R11 b11 ⊢
          clear V10 T10 X10 O8
          refine go_on ?_
          have O11 := Lib.hid (slices_one X11.out.rin.slices)
          go_wp2_with (first
            | (refine wpList_load_blk rfl 31 (.tmp 3) rfl w.heap.size rfl 31 (rcells vw4 vc4 f8 (.slice A xs.length cc)) X11.out.blk _ Tryd.underlying31 rfl SZ.out ?_)
            | (refine wpList_store_blk rfl 31 (.tmp 6) (.tmp 101) rfl (w.heap.size + 1) rfl (rcells vw4 vc4 f8 (.slice A xs.length cc)) rfl 31 (rnil) R11.out SZ.out rfl O11.out ?_; intro w19 hR19 hg19 hs19))
          refine bodyPost_ret (res_cell_tmp rfl rfl hR19 Tryd.underlying31 rfl SZ.out) rfl ?_
          rw [hfr.out]
          exact ⟨_, _, _, _, rfl, X11.out.rin.far R11.out rnil_slices hg19, b11.grown hg19 b11.size (fun k hk => by cases hk; omega)⟩
        · obtain rfl : lf = 0 := by omega
          rw [if_neg (by rw [hxs.out]; exact fun h => absurd (hcond.1 h) (by omega))] at hfr
          replace hfr := Lib.hid hfr
          replace hcond := Lib.hid hcond
          have HP := Lib.hid (fun wx (hnx : New Q wx) (hx : RBox Q wx w.heap.size { S with words := fillW S.words pk junk W, objs := xs } vw4 vc4 f4 (.slice A xs.length cc)) => show Calls Tryd.prog 38 #[.agg (arr4 f4), .int .i64 (c : Int), .int .i64 (pk : Int)] wx fun e w' => ∃ v, e = .returned (.tuple #[v, .int .i64 0]) ∧ RdQ Q w' v (addL S.free (c : Int) (pk : Int)) ∧ Below wx.heap.size wx w' by
            have h9 := rput_q Q f4 S.free (c : Int) (pk : Int) wx (fun j hj => hx.rin.fr j hj) hSh.out (by omega) hnx hx.rin.qf
            rw [hput.out] at h9
            exact h9)
          have RG6 := Lib.hid X6.out.range4
          go_wp2_with (first
            | (refine wpList_load_mid rfl 28 (.tmp 72) rfl w.heap.size 2 rfl [f4 0, f4 1, f4 2, f4 3] _ RG6.out rarr_row rfl rarr_size ?_)
            | (go_at_call 38; refine (HP.out _ (hQ.out.le b6.out.size) X6.out).mono ?_; rintro e w8 ⟨v8, rfl, ⟨f8, rfl, hr8, hq8⟩, hb8⟩; replace hq8 := Lib.hid hq8; refine stop_here ?_))
          have O8 := Lib.hid (arr4_one fun j hj => rd_one (hr8 j hj))
          have X8 := Lib.hid (X6.out.below hb8)
          have R8 := Lib.hid (R6.out.below hb8 R6.out.lt)
          have b8 := Lib.hid (below_all b6.out hb8)
          replace hr8 := Lib.hid hr8
          clear X6 R6 HP hb8 b6 RG6
          refine go_on ?_
          go_wp2_with (first
            | (refine wpList_new rfl (.alloc 28) rfl w8.heap.size rfl 28 nil4 (by kernel_rfl) ?_; intro w9 hs9 hb9 hB9; have HB9 := Lib.hid hB9; clear hB9 hs9)
            | (refine wpList_store_blk rfl 28 (.tmp 14) (.tmp 77) rfl w8.heap.size rfl (arr4 f8) rfl 28 nil4 HB9.out rarr_size rfl O8.out ?_; intro w10 hB10 hg10 hs10; refine stop_here ?_))
          have h810 : Below w8.heap.size w8 w10 := hb9.grown hg10 hb9.size (fun k hk => by cases hk; exact Nat.le_refl _)
          have X10 := Lib.hid (X8.out.below h810)
          have R10 := R8.out.below h810 R8.out.lt
          have b10 := below_all b8.out h810
          have hr10 : ∀ j, j < 4 → Rd i64e w10 (f8 j) (addL S.free (c : Int) (pk : Int) j) := fun j hj => (hr8.out j hj).below h810
          have X11 := Lib.hid (X10.out.set_free hr10 hq8.out)
          have R11 := Lib.hid (show Blk (w10.setCells w.heap.size 2 (arr4 f8).toList) (w.heap.size + 1) 31 rnil from (set4_other w10 w.heap.size f8 (by omega)).trans R10)
          have b11 : Below w.heap.size w (w10.setCells w.heap.size 2 (arr4 f8).toList) := b10.grown (grown_set4 w10 w.heap.size f8) b10.size (fun k hk => by cases hk; exact Nat.le_refl _)
          have V10 := Lib.hid hB10
          have T10 := Lib.hid (X10.out.there4 f8)
          clear h810 hB10 hr10 R10 b10 hg10 hs10 hb9 HB9 X8 R8 b8 hr8
          refine go_on ?_
          go_wp2_with (first
            | (refine wpList_load_blk rfl 28 (.tmp 14) rfl w8.heap.size rfl 28 (arr4 f8) V10.out _ rarr_row rfl rarr_size ?_)
            | (refine wpList_store_mid rfl 28 (.tmp 80) (.tmp 79) rfl w.heap.size 2 (arr4 f8) rfl rfl T10.out rarr_size O8.out ?_; refine stop_here ?_))
          generalize w10.setCells w.heap.size 2 (arr4 f8).toList = w11 at X11 R11 b11 ⊢
          clear V10 T10 X10 O8
          refine go_on ?_
          have HC := Lib.hid (fun wx (hnx : New Q wx) (hx : RBox Q wx w.heap.size { S with words := fillW S.words pk junk W, objs := xs, free := addL S.free (c : Int) (pk : Int) } vw4 vc4 f8 (.slice A xs.length cc)) => rcut_q Q f8 (addL S.free (c : Int) (pk : Int)) (s : Int) wx (fun j hj => hx.rin.fr j hj) (fun j hj => by have := I.out.free_len hj; unfold addL; split <;> simp <;> omega) (fun j hj x hx => by
            unfold addL at hx
            split at hx
            · rcases List.mem_append.1 hx with hx | hx
              · exact I.out.bdL j hj x hx
              · rw [List.mem_singleton.1 hx]; omega
            · exact I.out.bdL j hj x hx) hnx hx.rin.qf)
          have RG11 := Lib.hid X11.out.range4
          go_wp2_with (first
            | (refine wpList_load_mid rfl 28 (.tmp 84) rfl w.heap.size 2 rfl [f8 0, f8 1, f8 2, f8 3] _ RG11.out rarr_row rfl rarr_size ?_)
            | (go_at_call 39; refine (HC.out _ (hQ.out.le b11.size) X11.out).mono ?_; rintro e w12 ⟨v12, rfl, ⟨f12, rfl, hr12, hq12⟩, hb12⟩; replace hq12 := Lib.hid hq12; refine stop_here ?_))
          have O12 := Lib.hid (arr4_one fun j hj => rd_one (hr12 j hj))
          have X12 := Lib.hid (X11.out.below hb12)
          have R12 := Lib.hid (R11.out.below hb12 R11.out.lt)
          have b12 := Lib.hid (below_all b11 hb12)
          replace hr12 := Lib.hid hr12
          clear X11 R11 HC hb12 b11 RG11
          refine go_on ?_
          go_wp2_with (first
            | (refine wpList_new rfl (.alloc 28) rfl w12.heap.size rfl 28 nil4 (by kernel_rfl) ?_; intro w13 hs13 hb13 hB13; have HB13 := Lib.hid hB13; clear hB13 hs13)
            | (refine wpList_store_blk rfl 28 (.tmp 16) (.tmp 88) rfl w12.heap.size rfl (arr4 f12) rfl 28 nil4 HB13.out rarr_size rfl O12.out ?_; intro w14 hB14 hg14 hs14; refine stop_here ?_))
          have h1214 : Below w12.heap.size w12 w14 := hb13.grown hg14 hb13.size (fun k hk => by cases hk; exact Nat.le_refl _)
          have X14 := Lib.hid (X12.out.below h1214)
          have R14 := R12.out.below h1214 R12.out.lt
          have b14 := below_all b12.out h1214
          have hr14 : ∀ j, j < 4 → Rd i64e w14 (f12 j) (cutL (addL S.free (c : Int) (pk : Int)) (s : Int) j) := fun j hj => (hr12.out j hj).below h1214
          have X15 := Lib.hid (X14.out.set_free hr14 hq12.out)
          have R15 := Lib.hid (show Blk (w14.setCells w.heap.size 2 (arr4 f12).toList) (w.heap.size + 1) 31 rnil from (set4_other w14 w.heap.size f12 (by omega)).trans R14)
          have b15 : Below w.heap.size w (w14.setCells w.heap.size 2 (arr4 f12).toList) := b14.grown (grown_set4 w14 w.heap.size f12) b14.size (fun k hk => by cases hk; exact Nat.le_refl _)
          have V14 := Lib.hid hB14
          have T14 := Lib.hid (X14.out.there4 f12)
          clear h1214 hB14 hr14 R14 b14 hg14 hs14 hb13 HB13 X12 R12 b12 hr12
          refine go_on ?_
          go_wp2_with (first
            | (refine wpList_load_blk rfl 28 (.tmp 16) rfl w12.heap.size rfl 28 (arr4 f12) V14.out _ rarr_row rfl rarr_size ?_)
            | (refine wpList_store_mid rfl 28 (.tmp 91) (.tmp 90) rfl w.heap.size 2 (arr4 f12) rfl rfl T14.out rarr_size O12.out ?_; refine stop_here ?_))
          generalize w14.setCells w.heap.size 2 (arr4 f12).toList = w15 at X15 R15 b15 ⊢
          clear V14 T14 X14 O12
          refine go_on ?_
          obtain ⟨Ac, cc2, rfl, -⟩ := X15.out.rin.cls.len
          have hlc2 : ({ S with words := fillW S.words pk junk W, objs := xs, free := cutL (addL S.free (c : Int) (pk : Int)) (s : Int) } : HS).cls.length = S.cls.length := rfl
          have c15 := X15.out.cells.2.1
          have hz15 : w.heap.size < w15.heap.size := X15.out.blk.lt
          have hown15 := Lib.hid (World.ownsRow_made (e := 3) (size := 1) w15 (base := w15.heap.size) #[] 0 (Nat.le_refl _) (Nat.zero_le _) rfl)
          have hrw15 := Lib.hid X15.out.rin.cls
          have hlen2 := hlen.2.1
          go_wp2_with (at_builtin; refine wpList_append_all rfl (.tmp 92) (.tmp 94) _ rfl w15.heap.size 3 _ 8 Tryd.underlying27 int_info rfl _ 0 [] rfl hown15.out i64e _ S.cls (fun _ => rfl) rfl (hrw15.out.below (below_alloc _ _)) (by unfold maxLen; omega) (by omega) (by simp) ?_; intro v17 w17 hown17 hg17 hat17; refine stop_here ?_)
          have hb1517 : Below w15.heap.size w15 w17 := (below_alloc w15 _).grown hg17 (by simp) (fun k hk => by cases hk; exact Nat.le_refl _)
          have hown17 : w17.ownsRow w15.heap.size 3 1 v17 S.cls.length (S.cls.map i64e) := by simpa using hown17
          obtain ⟨A17, c17, rfl, -⟩ := own_form hown17
          obtain ⟨b17, rfl, hb17l, hb17h⟩ := own_addr hown17 (by omega)
          have q0 : (0 : Int) ≤ (s : Int) := by omega
          have q1 : (s : Int) < (S.cls.length : Int) := by omega
          have hcs := hown17.cellAt s (by omega)
          have hzs := hown17.frozenAt s
          have hcs : w17.cell? ⟨b17, s, none⟩ = some (.int .i64 S.cls[s]) := by rw [hcs]; simp [hsl]
          obtain ⟨y, hy⟩ : ∃ y, y = S.cls[s] := ⟨_, rfl⟩
          rw [← hy] at hcs
          have hown18 : (w17.setCell ⟨b17, s, none⟩ (.int .i64 (-1))).ownsRow w15.heap.size 3 1 (.slice (some ⟨b17, 0, none⟩) S.cls.length c17) S.cls.length ((S.cls.set s (-1)).map i64e) := by
            have := (hown17.stored s (.int .i64 (-1))).1
            rw [List.map_set]
            exact this
          have hb1518 := hb1517.setCell (p := ⟨b17, s, none⟩) hb17l (.int .i64 (-1))
          have X18 := X15.out.below hb1518
          have R18 := R15.out.below hb1518 R15.out.lt
          have hrd18 : Rd i64e (w17.setCell ⟨b17, s, none⟩ (.int .i64 (-1))) (.slice (some ⟨b17, 0, none⟩) S.cls.length c17) (S.cls.set s (-1)) := by
            have hl9 : (S.cls.set s (-1)).length = S.cls.length := by simp
            rw [← hl9] at hown18 ⊢
            exact Rd.of_own hown18
          have X19 := Lib.hid (X18.set_cls hrd18 (fun _ b e => hQ.out b (by have := (hown18.lt b e).1; have := b15.size; omega)))
          have R19 := Lib.hid (R18.far (p := ⟨w.heap.size, 1, none⟩) (by show w.heap.size + 1 ≠ w.heap.size; omega) (.slice (some ⟨b17, 0, none⟩) S.cls.length c17))
          have hc18 := X18.cells.2.1
          have hz18 := X18.blk.frozen 1
          have b19 := Lib.hid ((b15.trans (hb1518.mono b15.size)).setCell (p := ⟨w.heap.size, 1, none⟩) (Nat.le_refl _) (.slice (some ⟨b17, 0, none⟩) S.cls.length c17))
          have O19 := Lib.hid (slices_one X19.out.rin.slices)
          clear hy hown17 hown18 hb1518 X18 R18 hrd18 hg17 hat17 hb1517 hown15 hrw15 X15 R15 b15 c15 hlc2
          refine go_on ?_
          go_wp2_with (first
            | (refine wpList_load_blk rfl 31 (.tmp 3) rfl w.heap.size rfl 31 (rcells vw4 (.slice (some ⟨b17, 0, none⟩) S.cls.length c17) f12 (.slice A xs.length cc)) X19.out.blk _ Tryd.underlying31 rfl SZ.out ?_)
            | (refine wpList_store_blk rfl 31 (.tmp 6) (.tmp 101) rfl (w.heap.size + 1) rfl (rcells vw4 (.slice (some ⟨b17, 0, none⟩) S.cls.length c17) f12 (.slice A xs.length cc)) rfl 31 (rnil) R19.out SZ.out rfl O19.out ?_; intro w29 hR29 hg29 hs29))
          refine bodyPost_ret (res_cell_tmp rfl rfl hR29 Tryd.underlying31 rfl SZ.out) rfl ?_
          rw [hfr.out]
          exact ⟨_, _, _, _, rfl, X19.out.rin.far R19.out rnil_slices hg29, b19.out.grown hg29 b19.out.size (fun k hk => by cases hk; omega)⟩
end Go.Proofs.YtoodfioecabglaaDoor
namespace Go.Proofs.YtoodfioecabglaaDoor
open Go.RowKit Go.Shelf

theorem RdC.one {w : World} {v : Value} {xs : List (Int × Int × Int)} (h : RdC 3 objC w v xs) : True := trivial
set_option maxHeartbeats 3200000 in
set_option maxRecDepth 100000 in
theorem spot_ok {Q : Nat → Prop} (S : HS) (vw vc vo : Value) (f : Nat → Value) (w : World) (H : RIn Q w S vw vc f vo) (I : Inv0 S) (kind n mask : Int) (obj : Bool) (p fd x : Int) :
    Calls Tryd.prog 13 #[.agg (rcells vw vc f vo), .agg #[.int .u8 kind, .int .i64 n, .int .u8 mask, .bool obj, .int .i64 p, .int .i64 fd, .int .i64 x]] w fun e w' => e = .returned (.int .i64 (sSpot S ⟨kind, n, mask, obj, p, fd, x⟩)) ∧ Below w.heap.size w w' := by
  have hlen := (H.len0 I).2.2
  obtain ⟨Ao, co, rfl, -⟩ := H.objs.len
  have hways : obj = false ∨ (obj = true ∧ S.objs.length = 0) ∨ (obj = true ∧ 0 < S.objs.length ∧ p < 0) ∨ (obj = true ∧ 0 < S.objs.length ∧ 0 ≤ p) := by
    cases obj with
    | false => exact .inl rfl
    | true =>
      by_cases hz : S.objs.length = 0
      · exact .inr (.inl ⟨rfl, hz⟩)
      · by_cases hn : p < 0
        · exact .inr (.inr (.inl ⟨rfl, by omega, hn⟩))
        · exact .inr (.inr (.inr ⟨rfl, by omega, by omega⟩))
  obtain ⟨sp, hsp⟩ : ∃ sp, sp = sSpot S ⟨kind, n, mask, obj, p, fd, x⟩ := ⟨_, rfl⟩
  rw [← hsp]
  unfold sSpot at hsp
  dsimp only at hsp
  replace H := Lib.hid H
  replace I := Lib.hid I
  rcases hways with rfl | ⟨rfl, hz⟩ | ⟨rfl, hpos, hneg⟩ | ⟨rfl, hpos, hge⟩
  · rw [if_neg (by simp)] at hsp
    subst hsp
    go_enter Tryd.func13, Tryd.ntmps13
    go_wp2_with (refine wpList_new rfl (.box 31 (.tmp 0)) rfl w.heap.size rfl 31 (rcells vw vc f (.slice Ao S.objs.length co)) (by kernel_rfl) ?_; intro w1 hs1 hb1 hB1; refine stop_here ?_)
    have hlt := hB1.lt
    clear hs1 hB1
    refine go_on ?_
    have B2 := Blk.new w1 34 #[.int .u8 kind, .int .i64 n, .int .u8 mask, .bool false, .int .i64 sp, .int .i64 fd, .int .i64 x]
    have a3 := B2.cell 3
    have a4 := B2.cell 4
    have b2 := hb1.trans ((below_alloc w1 (.cells #[.int .u8 kind, .int .i64 n, .int .u8 mask, .bool false, .int .i64 sp, .int .i64 fd, .int .i64 x] 34)).mono hb1.size)
    clear B2
    go_wp2_with fail
    go_ret
    exact ⟨rfl, b2⟩
  · rw [if_neg (by omega)] at hsp
    subst hsp
    rw [hz] at H ⊢
    replace hz := Lib.hid hz
    clear hlen
    go_enter Tryd.func13, Tryd.ntmps13
    go_wp2_with (refine wpList_new rfl (.box 31 (.tmp 0)) rfl w.heap.size rfl 31 (rcells vw vc f (.slice Ao 0 co)) (by kernel_rfl) ?_; intro w1 hs1 hb1 hB1; refine stop_here ?_)
    have hlt := hB1.lt
    have B2 := Blk.new w1 34 #[.int .u8 kind, .int .i64 n, .int .u8 mask, .bool true, .int .i64 sp, .int .i64 fd, .int .i64 x]
    have bw2 := below_alloc w1 (.cells #[.int .u8 kind, .int .i64 n, .int .u8 mask, .bool true, .int .i64 sp, .int .i64 fd, .int .i64 x] 34)
    have HX := Lib.hid ((show RBox Q w1 w.heap.size S vw vc f (.slice Ao 0 co) from ⟨hB1, H.out.below hb1⟩).below bw2)
    have c6 := HX.out.cells.2.2.2.2.2.2
    clear hs1 hB1
    have a3 := B2.cell 3
    have a4 := B2.cell 4
    have b2 := hb1.trans (bw2.mono hb1.size)
    clear B2 bw2
    refine go_on ?_
    go_wp2_with fail
    go_ret
    exact ⟨rfl, b2⟩
  all_goals
    have hrL : (if p < 0 then 0 else p.toNat) % S.objs.length < S.objs.length := Nat.mod_lt _ hpos
    rw [if_pos ⟨rfl, hpos⟩] at hsp
    obtain ⟨r, hr0⟩ : ∃ r, r = (if p < 0 then 0 else p.toNat) % S.objs.length := ⟨_, rfl⟩
    rw [← hr0] at hrL hsp
    have hrq : (S.objs[r]).1 = sp := by rw [hsp]; simp [sAll, List.getD, hrL]
    replace hsp := Lib.hid hsp
    go_enter Tryd.func13, Tryd.ntmps13
    go_wp2_with (refine wpList_new rfl (.box 31 (.tmp 0)) rfl w.heap.size rfl 31 (rcells vw vc f (.slice Ao S.objs.length co)) (by kernel_rfl) ?_; intro w1 hs1 hb1 hB1; refine stop_here ?_)
    have hlt := hB1.lt
    have B2 := Blk.new w1 34 #[.int .u8 kind, .int .i64 n, .int .u8 mask, .bool true, .int .i64 p, .int .i64 fd, .int .i64 x]
    have bw2 := below_alloc w1 (.cells #[.int .u8 kind, .int .i64 n, .int .u8 mask, .bool true, .int .i64 p, .int .i64 fd, .int .i64 x] 34)
    have HX := Lib.hid ((show RBox Q w1 w.heap.size S vw vc f (.slice Ao S.objs.length co) from ⟨hB1, H.out.below hb1⟩).below bw2)
    have c6 := HX.out.cells.2.2.2.2.2.2
    obtain ⟨b, o, rfl, _, hc⟩ := HX.out.rin.objs.at_ hrL
    have d0 := hc 0 _ rfl
    rw [hrq] at d0
    clear hs1 hB1 hc
    have a3 := B2.cell 3
    have a4 := B2.cell 4
    have b2 := hb1.trans (bw2.mono hb1.size)
    have hlp : (0 : Int) < (S.objs.length : Int) := by omega
    clear B2 bw2
    refine go_on ?_
  · rw [if_pos hneg, Nat.zero_mod] at hr0
    subst hr0
    replace d0 : (w1.alloc (.cells #[.int .u8 kind, .int .i64 n, .int .u8 mask, .bool true, .int .i64 p, .int .i64 fd, .int .i64 x] 34)).cell? ⟨b, o, none⟩ = some (.int .i64 sp) := by simpa using d0
    go_wp2_with fail
    go_quiet (fail)
    go_wp2_with fail
    go_ret
    exact ⟨rfl, below_drewN b2 _⟩
  · rw [if_neg (by omega)] at hr0
    have e0 : p % (S.objs.length : Int) = (r : Int) := by rw [hr0, Int.natCast_emod, Int.toNat_of_nonneg hge]
    have rL : (r : Int) < (S.objs.length : Int) := by omega
    replace d0 : (w1.alloc (.cells #[.int .u8 kind, .int .i64 n, .int .u8 mask, .bool true, .int .i64 p, .int .i64 fd, .int .i64 x] 34)).cell? ⟨b, o + r * 3, none⟩ = some (.int .i64 sp) := d0
    clear hr0
    go_wp2_with fail
    go_quiet (fail)
    go_wp2_with fail
    go_ret
    exact ⟨rfl, below_drewN b2 _⟩
end Go.Proofs.YtoodfioecabglaaDoor
namespace Go.Proofs.YtoodfioecabglaaDoor
open Go.RowKit Go.Shelf
set_option maxHeartbeats 6400000 in
set_option maxRecDepth 100000 in
theorem hsame_ok {Q : Nat → Prop} (h : Nat) (S : HS) (F : Nat → Prop) (w : World) (HS0 : HpAt w h S F) (vw vc vo : Value) (f : Nat → Value) (H : RIn Q w S vw vc f vo) :
    Calls Tryd.prog 24 #[.pointer (some ⟨h, 0, none⟩), .agg (rcells vw vc f vo)] w fun e w' => e = .returned (.bool true) ∧ Below w.heap.size w w' := by
  have I := HS0.inv
  have hlen := H.len0 I.toInv0
  have SZ := Lib.hid rh_size
  obtain ⟨Ao, co, rfl, -⟩ := H.objs.len
  obtain ⟨Aw, cw, rfl, -⟩ := H.words.len
  obtain ⟨L, hL⟩ : ∃ L, S.objs.length = L := ⟨_, rfl⟩
  have hLA : (sAll S).length = L := by rw [all_len, hL]
  rw [hL] at hlen H ⊢
  replace H := Lib.hid H
  replace I := Lib.hid I
  replace HS0 := Lib.hid HS0
  go_enter Tryd.func24, Tryd.ntmps24
  go_wp2_with (refine wpList_new rfl (.box 31 (.tmp 1)) rfl w.heap.size rfl 31 (rcells (.slice Aw S.words.length cw) vc f (.slice Ao L co)) (by kernel_rfl) ?_; intro w1 hs1 hb1 hB1; refine stop_here ?_)
  have X1 := Lib.hid (show RBox Q w1 w.heap.size S (.slice Aw S.words.length cw) vc f (.slice Ao L co) from ⟨hB1, H.out.below hb1⟩)
  have H1 := Lib.hid (HS0.out.below hb1)
  clear hs1 hB1
  refine go_on ?_
  go_wp2_with fail
  refine (all_r rfl H1.out).mono ?_
  rintro e w2 ⟨A2, c2, rfl, R2, -, hb2⟩
  rw [hLA] at R2 ⊢
  have X2 := Lib.hid (X1.out.below hb2)
  have H2 := Lib.hid (H1.out.below hb2)
  have b2 := below_all hb1 hb2
  have c6 := X2.out.cells.2.2.2.2.2.2
  have tLL : ((L : Int) != (L : Int)) = false := by simp
  replace R2 := Lib.hid R2
  replace hL := Lib.hid hL
  replace hLA := Lib.hid hLA
  clear X1 H1 hb1 hb2
  go_wp2_with fail
  go_loopw [26] (fun i wr => ∃ j : Nat, j ≤ L ∧ i = .int .i64 j ∧ Below w2.heap.size w2 wr) (fun i _ => L - (intOf i).toNat)
  case atStart => exact ⟨0, by omega, rfl, Below.refl _ _⟩
  case round =>
    obtain ⟨j, hj, rfl, hbr⟩ := hrel
    by_cases hlt : j < L
    · have t0 : (j : Int) < (L : Int) := by omega
      have hjo : j < S.objs.length := by rw [hL.out]; exact hlt
      have hjs : j < (sAll S).length := by rw [hLA.out]; exact hlt
      have hmem : S.objs[j] ∈ S.objs := List.getElem_mem hjo
      have hsz := I.out.size hmem
      have hob := I.out.ob _ hmem
      have hwi := fun fd h0 h1 => I.out.word_in (f := fd) hmem h0 h1
      have hld := fun fd h0 h1 => I.out.load_in (f := fd) hmem h0 h1
      obtain ⟨bo, oo, rfl, hbo, hc⟩ := (X2.out.below hbr).rin.objs.at_ hjo
      obtain ⟨bl, ol, rfl, hbl, hcl⟩ := (R2.out.below hbr).at_ hjs
      have hx : (sAll S)[j] = (S.objs[j]).1 := by simp [sAll]
      rw [hx] at hcl
      obtain ⟨x, hxx⟩ : ∃ x, x = S.objs[j] := ⟨_, rfl⟩
      have hc' : ∀ j2 u, (objC x)[j2]? = some u → wr.cell? ⟨bo, oo + j * 3 + j2, none⟩ = some u := by rw [hxx]; exact hc
      rw [← hxx] at hcl hsz hob hwi hld
      obtain ⟨x1, x2, x3⟩ := x
      dsimp only at hcl hsz hob hwi hld
      have d0 : wr.cell? ⟨bo, oo + j * 3, none⟩ = some (.int .i64 x1) := hc' 0 _ rfl
      have d1 := hc' 1 _ rfl
      have d2 := hc' 2 _ rfl
      replace hcl : wr.cell? ⟨bl, ol + j, none⟩ = some (.int .i64 x1) := hcl
      obtain ⟨a1, a2, a3, a4, a5⟩ := hob
      have p1 := a5.1
      have hn9 := I.out.n2
      have p9 : x1 ≤ 4096 := by have := a5.2.1; omega
      obtain ⟨nn, rfl⟩ : ∃ nn : Nat, x2 = (nn : Int) := ⟨x2.toNat, by omega⟩
      replace hsz := Lib.hid hsz
      replace hwi := Lib.hid hwi
      replace hld := Lib.hid hld
      clear hc hc' hxx hx hmem hjs a5 hn9
      go_wp2_with (first
        | (refine wpList_new rfl (.alloc 75) rfl wr.heap.size rfl 75 #[.int .i64 0, .int .i64 0, .int .u8 0] (by kernel_rfl) ?_; intro w3 hs3 hb3 hB3; have HB3 := Lib.hid hB3; clear hB3 hs3)
        | (refine wpList_store_blk rfl 75 (.tmp 7) (.tmp 30) rfl wr.heap.size rfl #[.int .i64 x1, .int .i64 (nn : Int), .int .u8 x3] rfl 75 #[.int .i64 0, .int .i64 0, .int .u8 0] HB3.out obj_size rfl (by simp [Value.oneCell']) ?_; intro w4 hB4 hg4 hs4; refine stop_here ?_))
      have hb4 : Below wr.heap.size wr w4 := hb3.grown hg4 hb3.size (fun k hk => by cases hk; exact Nat.le_refl _)
      have hbr4 := hbr.trans (hb4.mono hbr.size)
      have X4 := Lib.hid (X2.out.below hbr4)
      have H4 := Lib.hid (H2.out.below hbr4)
      have v0 := hB4.cell 0
      have v1 := hB4.cell 1
      have v2 := hB4.cell 2
      have hgl := hB4.lt
      have hcl4 := (hb4.cell (p := ⟨bl, ol + j, none⟩) hbl).trans hcl
      have B4 := Lib.hid hB4
      clear d0 d1 d2 hcl hB4 hg4 hs4 hb3 HB3 hb4 hbr
      refine go_on ?_
      go_wp2_with fail
      refine (size_r hsz.out H4.out (by omega) (by omega)).mono ?_
      rintro e w5 ⟨rfl, hb5⟩
      have hbr5 := hbr4.trans (hb5.mono hbr4.size)
      have X5 := Lib.hid (X4.out.below hb5)
      have H5 := Lib.hid (H4.out.below hb5)
      have B5 := B4.out.below hb5 hgl
      have v0 := B5.cell 0
      have v1 := B5.cell 1
      have v2 := B5.cell 2
      have hcl5 := (hb5.cell (p := ⟨bl, ol + j, none⟩) (Nat.lt_of_lt_of_le hbl (Nat.le_of_lt hgl))).trans hcl4
      have tx1 : (x1 != x1) = false := by simp
      have tx2 : ((nn : Int) != (nn : Int)) = false := by simp
      have tx3 : (x3 != x3) = false := by simp
      have hbl5 : bl < w5.heap.size := by have := hb5.size; omega
      replace B5 := Lib.hid B5
      have hg5 : wr.heap.size < w5.heap.size := by have := hb5.size; omega
      clear X4 H4 hcl4 hb5 hbr4 B4
      go_wp2_with fail
      go_quiet (fail)
      have hbq : Below w5.heap.size w5 (w5.drewN nq) := below_drewN (Below.refl _ _) nq
      have X6 := Lib.hid (X5.out.below hbq)
      have H6 := Lib.hid (H5.out.below hbq)
      have B6 := Lib.hid (B5.out.below hbq hg5)
      have hbr6 := hbr5.trans (hbq.mono hbr5.size)
      have hg6 : wr.heap.size < (w5.drewN nq).heap.size := hg5
      have v0 : (w5.drewN nq).cell? ⟨wr.heap.size, 0, none⟩ = some (.int .i64 x1) := B6.out.cell 0
      have v1 : (w5.drewN nq).cell? ⟨wr.heap.size, 1, none⟩ = some (.int .i64 (nn : Int)) := B6.out.cell 1
      generalize w5.drewN nq = w6 at X6 H6 B6 hbr6 hg6 v0 v1 ⊢
      clear hbq hcl5 X5 H5 B5 hbr5
      go_wp2_with fail
      go_loopw [64] (fun i wx => ∃ k : Nat, k ≤ nn ∧ i = .int .i64 k ∧ Below w6.heap.size w6 wx) (fun i _ => nn - (intOf i).toNat)
      case atStart => exact ⟨0, by omega, rfl, Below.refl _ _⟩
      case round =>
        obtain ⟨k, hk, rfl, hbx⟩ := hrel
        have B7 := B6.out.below hbx hg6
        have u0 := B7.cell 0
        by_cases hkl : k < nn
        · have t1 : (k : Int) < (nn : Int) := by omega
          have hl7 := hld.out (k : Int) (by omega) (by omega)
          obtain ⟨z1, z2, z3⟩ := hwi.out (k : Int) (by omega) (by omega)
          obtain ⟨m, hm⟩ : ∃ m : Nat, x1 + (k : Int) = (m : Int) := ⟨(x1 + (k : Int)).toNat, by omega⟩
          rw [hm, Int.toNat_natCast] at hl7 z2
          obtain ⟨y, hy⟩ : ∃ y, y = S.words.getD m 0 := ⟨_, rfl⟩
          rw [← hy] at hl7
          have hml : (m : Int) < (S.words.length : Int) := by omega
          have H7 := Lib.hid (H6.out.below hbx)
          replace hl7 := Lib.hid hl7
          replace B7 := Lib.hid B7
          go_wp2_with fail
          refine (load_r hl7.out H7.out (by omega) (by omega)).mono ?_
          rintro e w8 ⟨rfl, hb8⟩
          have hbx8 := hbx.trans (hb8.mono hbx.size)
          have X8 := X6.out.below hbx8
          obtain ⟨bw, ow, rfl, _, hcw⟩ := X8.rin.words.at_ z2
          replace hcw : w8.cell? ⟨bw, ow + m, none⟩ = some (.int .i64 y) := by rw [hy]; simpa [List.getD, List.getElem?_eq_getElem z2] using hcw
          have q0 := X8.cells.1
          have B8 := B6.out.below hbx8 hg6
          have u0 := B8.cell 0
          have ty : (y != y) = false := by simp
          clear X8 B8 hb8 H7 hy
          go_wp2_with fail
          go_roundw
          case rel => exact ⟨k + 1, by omega, by go_num, hbx8⟩
          case measure => simp [intOf]; omega
        · obtain rfl : k = nn := by omega
          have t1 : decide ((k : Int) < (k : Int)) = false := by rw [decide_eq_false_iff_not]; omega
          go_wp2_with fail
          go_roundw
          case rel => exact ⟨j + 1, by omega, by go_num, hbr6.trans (hbx.mono hbr6.size)⟩
          case measure => simp [intOf]; omega
    · obtain rfl : j = L := by omega
      have t0 : decide ((j : Int) < (j : Int)) = false := by rw [decide_eq_false_iff_not]; omega
      clear c6
      go_wp2_with fail
      go_loopw [91] (fun i wx => ∃ k : Nat, k ≤ 8 ∧ i = .int .i64 k ∧ Below w2.heap.size w2 wx) (fun i _ => 8 - (intOf i).toNat)
      case atStart => exact ⟨0, by omega, rfl, hbr⟩
      case round =>
        clear hbr
        obtain ⟨k, hk, rfl, hbx⟩ := hrel
        by_cases hkl : k < 8
        · have t1 : (k : Int) < 8 := by omega
          have X3 := Lib.hid (X2.out.below hbx)
          have H3 := Lib.hid (H2.out.below hbx)
          obtain ⟨b, hbb⟩ : ∃ b, sFits S (k : Int) = b := ⟨_, rfl⟩
          have tb : (b != b) = false := by simp
          replace hbb := Lib.hid hbb
          obtain ⟨w3, rfl⟩ : ∃ wz : World, wz = wr := ⟨_, rfl⟩
          go_wp2_with fail
          have hS0 : (fun X : World => Below w3.heap.size w3 X) w3.drew := (Below.refl _ _).drew
          refine wp_T (by kernel_rfl) 5 (fun X : World => Below w3.heap.size w3 X) ?_
          refine wpAnyT_takeW (i := 0) (v := .pointer (some ⟨h, 0, none⟩)) rfl (by kernel_rfl) (fun _ _ _ hp => hp) (Or.inl ⟨by rfl, fun X _ => by go_simp⟩) hS0 ?_
          simp only [Act.put, List.setIfInBounds_toArray, List.set_cons_zero, List.set_cons_succ]
          refine wpAnyT_takeW (i := 1) (v := .int .i64 (k : Int)) rfl (by kernel_rfl) (fun _ _ _ hp => hp) (Or.inl ⟨by rfl, fun X _ => by go_simp⟩) hS0 ?_
          simp only [Act.put, List.setIfInBounds_toArray, List.set_cons_zero, List.set_cons_succ]
          refine wpAnyT_take (i := 3) (v := .agg #[.slice Aw S.words.length cw, vc, f 0, f 1, f 2, f 3, .slice Ao j co]) rfl (by kernel_rfl) (fun _ _ _ hp => hp) (yieldsIf_load_mid (by rfl) _ _ rfl w.heap.size 0 rfl [.slice Aw S.words.length cw, vc, f 0, f 1, f 2, f 3, .slice Ao j co] _ (fun X hX => World.rangeAt_of_block (X3.out.below hX).blk 0 7) Tryd.underlying31 rfl rh_size) hS0 ?_
          simp only [Act.put, List.setIfInBounds_toArray, List.set_cons_zero, List.set_cons_succ]
          refine wpAnyT_takeW (i := 4) (v := .int .i64 (k : Int)) rfl (by kernel_rfl) (fun _ _ _ hp => hp) (Or.inl ⟨by rfl, fun X _ => by go_simp⟩) hS0 ?_
          simp only [Act.put, List.setIfInBounds_toArray, List.set_cons_zero, List.set_cons_succ]
          refine wpAnyT_one (i := 2) rfl (by kernel_rfl) (by rfl) ?_
          intro K1 hK1
          go_simp
          refine (fits_r hbb.out (H3.out.below hS0)).mono ?_
          rintro e w4 ⟨rfl, hb4⟩
          dsimp only
          have hS1 : (fun X : World => Below w3.heap.size w3 X) w4 := Below.trans hS0 (Below.mono hb4 (Below.size hS0))
          refine hK1.out _ _ (fun _ => hS1) ?_
          (try simp only [Act.put, List.setIfInBounds_toArray, List.set_cons_zero, List.set_cons_succ])
          refine wpAnyT_one (i := 5) rfl (by kernel_rfl) (by rfl) ?_
          intro K2 hK2
          go_simp
          refine (rfits_ok S _ _ _ _ _ (X3.out.rin.below hS1) I.out.toInv0 (k : Int)).mono ?_
          rintro e w5 ⟨rfl, hb5⟩
          dsimp only
          have hS2 : (fun X : World => Below w3.heap.size w3 X) w5 := Below.trans hS1 (Below.mono hb5 (Below.size hS1))
          refine hK2.out _ _ (fun hh => absurd rfl hh) ?_
          (try simp only [Act.put, List.setIfInBounds_toArray, List.set_cons_zero, List.set_cons_succ])
          refine wpAnyT_late (i := 6) rfl (by kernel_rfl) (by rfl) (by kernel_rfl) ?_
          intro K3 hK3
          go_simp
          refine hK3.out _ _ ?_
          (try simp only [Act.put, List.setIfInBounds_toArray, List.set_cons_zero, List.set_cons_succ])
          refine wpAnyT_done (by kernel_rfl) ?_ _
          (try simp only [Act.put, List.setIfInBounds_toArray, List.set_cons_zero, List.set_cons_succ])
          clear hK1 K1 hK2 K2 hK3 K3
          have hbx5 := hbx.trans (Below.mono hS2 hbx.size)
          have tb2 : (b == b) = true := by simp
          try simp only [hbb.out, bne_self_eq_false, beq_self_eq_true, Bool.not_true, decide_true]
          go_wp2_with fail
          go_roundw
          case rel => exact ⟨k + 1, by omega, by go_num, hbx5⟩
          case measure => simp [intOf]; omega
        · obtain rfl : k = 8 := by omega
          go_wp2_with fail
          go_ret
          exact ⟨rfl, b2.trans (hbx.mono b2.size)⟩
end Go.Proofs.YtoodfioecabglaaDoor
namespace Go.Proofs.YtoodfioecabglaaDoor
open Go.RowKit Go.Shelf
theorem hact_size : (Tryd.prog.info? 34).map (·.size) = some 7 := by kernel_rfl
theorem ralloc_ok {Q : Nat → Prop} (S : HS) (vw vc vo : Value) (f : Nat → Value) (w : World) (H : RIn Q w S vw vc f vo) (hQ : New Q w) (I : Inv S) (n mask junk : Int) (hm0 : 0 ≤ mask) (hm1 : mask ≤ 255) :
    Calls Tryd.prog 22 #[.agg (rcells vw vc f vo), .int .i64 n, .int .u8 mask, .int .i64 junk] w (RetHPE Q w (sAlloc S n mask junk).1 (sAlloc S n mask junk).2.1 (sAlloc S n mask junk).2.2) := by
  by_cases hbad : n < 1 ∨ 6 < n ∨ mask / 2 ^ n.toNat ≠ 0
  · have e : sAlloc S n mask junk = (S, 0, 2) := by unfold sAlloc; rw [if_pos hbad]
    rw [e]
    exact ralloc_no S vw vc vo f w H I n mask junk hm0 hm1 2 (.inl ⟨rfl, hbad⟩)
  · have h1 : 1 ≤ n := by omega
    have h6 : n ≤ 6 := by omega
    have hmk : mask / 2 ^ n.toNat = 0 := Decidable.byContradiction fun h => hbad (.inr (.inr h))
    rcases hf : sFits S n with _ | _
    · rw [alloc_none h1 h6 hmk hf]
      exact ralloc_no S vw vc vo f w H I n mask junk hm0 hm1 6 (.inr ⟨rfl, h1, h6, hmk, hf⟩)
    · exact ralloc_yes S vw vc vo f w H hQ I n mask junk hm0 hm1 h1 h6 hmk hf
/-- The program's heap, and the document's, side by side. -/
structure HJ (n0 : Nat) (w : World) (h g : Nat) (S S' : HS) (F : Nat → Prop) (vw vc : Value) (f : Nat → Value) (vo : Value) : Prop where
  hp : HpAt w h S F
  box : RBox (fun b => ¬ F b) w g S' vw vc f vo
  ng : ¬ F g
  gt : g ≠ 0
  ge : n0 ≤ g
  hF : ∀ j, F j → n0 ≤ j
section
variable {n0 : Nat} {w w' : World} {h g : Nat} {S S' S2 : HS} {F F' : Nat → Prop} {vw vc vo vw' vc' vo' : Value} {f f' : Nat → Value}
theorem HJ.below (J : HJ n0 w h g S S' F vw vc f vo) (hb : Below w.heap.size w w') : HJ n0 w' h g S S' F vw vc f vo :=
  ⟨J.hp.below hb, J.box.below hb, J.ng, J.gt, J.ge, J.hF⟩
theorem HJ.new (J : HJ n0 w h g S S' F vw vc f vo) : New (fun b => ¬ F b) w := fun b hb hf => by have := J.hp.lt b hf; omega
theorem HJ.set (J : HJ n0 w h g S S' F vw vc f vo) (R : RIn (fun b => ¬ F b) w S2 vw' vc' f' vo') (hg : w.grownBy w' (some g)) (hB : Blk w' g 31 (rcells vw' vc' f' vo')) : HJ n0 w' h g S S2 F vw' vc' f' vo' :=
  ⟨J.hp.keep hg.size fun k hk hF => hg.block k hk fun e => by cases e; exact hF.elim J.ng fun e => J.gt e, RBox.all J.box.blk J.box.rin.slices hg hB R, J.ng, J.gt, J.ge, J.hF⟩
theorem rd_lt {v : Value} {xs : List Int} (h : Rd i64e w v xs) (hp : 0 < xs.length) {b : Nat} (e : v.ownBlock = some b) : b < w.heap.size := by
  obtain ⟨A, c, rfl, -⟩ := h.len
  obtain ⟨b', o, rfl, hlt, _⟩ := h.at_ hp
  have : b' = b := by simpa [Value.ownBlock] using e
  omega
theorem rdc_lt {v : Value} {xs : List (Int × Int × Int)} (h : RdC 3 objC w v xs) (hp : 0 < xs.length) {b : Nat} (e : v.ownBlock = some b) : b < w.heap.size := by
  obtain ⟨A, c, rfl, -⟩ := h.len
  obtain ⟨b', o, rfl, hlt, _⟩ := h.at_ hp
  have : b' = b := by simpa [Value.ownBlock] using e
  omega
/-- A step of the program's heap leaves the document's as it is. -/
theorem RIn.step (H : RIn (fun b => ¬ F b) w S vw vc f vo) (s : Step F w w' F') : RIn (fun b => ¬ F' b) w' S vw vc f vo := by
  have key : ∀ b, ¬ F b → b < w.heap.size → w'.heap[b]? = w.heap[b]? := fun b hb hlt => s.frame.block b hlt hb
  have out : ∀ b, ¬ F b → b < w.heap.size → ¬ F' b := fun b hb hlt hf => (s.sub b hf).elim hb fun e => by omega
  exact ⟨H.words.keep s.frame.size fun hp b e hlt => key b (H.qw hp b e) hlt, H.cls.keep s.frame.size fun hp b e hlt => key b (H.qc hp b e) hlt,
    fun j hj => (H.fr j hj).keep s.frame.size fun hp b e hlt => key b (H.qf j hj hp b e) hlt, H.objs.keep0 s.frame.size fun hp b e hlt => key b (H.qo hp b e) hlt,
    fun hp b e => out b (H.qw hp b e) (rd_lt H.words hp e), fun hp b e => out b (H.qc hp b e) (rd_lt H.cls hp e),
    fun j hj hp b e => out b (H.qf j hj hp b e) (rd_lt (H.fr j hj) hp e), fun hp b e => out b (H.qo hp b e) (rdc_lt H.objs hp e)⟩
theorem HJ.step (J : HJ n0 w h g S S' F vw vc f vo) (H : HpAt w' h S2 F') (s : Step F w w' F') (hn : n0 ≤ w.heap.size) : HJ n0 w' h g S2 S' F' vw vc f vo :=
  ⟨H, ⟨(s.frame.block g J.box.blk.lt J.ng).trans J.box.blk, J.box.rin.step s⟩, fun hf => (s.sub g hf).elim J.ng fun e => by have := J.box.blk.lt; omega, J.gt, J.ge, fun j hj => (s.sub j hj).elim (J.hF j) fun e => by omega⟩
end
set_option maxHeartbeats 6400000 in
set_option maxRecDepth 100000 in
theorem hacts_ok (v : Value) (acts : List HAct) (spans : Int) (hs0 : -9223372036854775808 ≤ spans) (hs1 : spans ≤ 9223372036854775807) (w : World) (hv : RdC 7 hactC w v acts) (hbd : ∀ a ∈ acts, HActOk a) (hT : TabW w) :
    Calls Tryd.prog 3 #[.int .i64 spans, v] w fun e w' => e = .returned (.bool true) ∧ Below w.heap.size w w' := by
  have SZ := Lib.hid rh_size
  have T0 := Lib.hid hT.lt
  replace hT := Lib.hid hT
  have RA := Lib.hid hv
  have HB := Lib.hid hbd
  obtain ⟨A0, cap0, rfl, hlen0, hcap0, -⟩ := hv.len
  clear hv hbd
  have hways : spans < 1 ∨ 512 < spans ∨ (1 ≤ spans ∧ spans ≤ 512 ∧ 20 < spans) ∨ (1 ≤ spans ∧ spans ≤ 20) := by omega
  rcases hways with h1 | h1 | ⟨h1, h2, h3⟩ | ⟨h1, h2⟩
  · go_enter Tryd.func3, Tryd.ntmps3
    go_wp2_with fail
    refine (halive_ok w hT.out).mono ?_
    rintro e w1 ⟨rfl, b1⟩
    go_wp2_with fail
    refine (new_bad spans w1 (.inl h1)).mono ?_
    rintro e w2 ⟨rfl, rfl⟩
    go_wp2_with fail
    go_ret
    exact ⟨rfl, b1⟩
  · have t1 : 1 ≤ spans := by omega
    go_enter Tryd.func3, Tryd.ntmps3
    go_wp2_with fail
    refine (halive_ok w hT.out).mono ?_
    rintro e w1 ⟨rfl, b1⟩
    go_wp2_with fail
    refine (new_bad spans w1 (.inr h1)).mono ?_
    rintro e w2 ⟨rfl, rfl⟩
    go_wp2_with fail
    go_ret
    exact ⟨rfl, b1⟩
  · obtain ⟨N, rfl⟩ : ∃ N : Nat, spans = (N : Int) := ⟨spans.toNat, by omega⟩
    go_enter Tryd.func3, Tryd.ntmps3
    go_wp2_with fail
    refine (halive_ok w hT.out).mono ?_
    rintro e w1 ⟨rfl, b1⟩
    go_wp2_with fail
    refine (new_s N w1 (by omega) (by omega) (hT.out.below b1)).mono ?_
    rintro e w2 ⟨h, F1, rfl, H1, hF1, b2⟩
    replace b2 := below_all b1 b2
    go_wp2_with fail
    go_ret
    exact ⟨rfl, b2⟩
  obtain ⟨N, rfl⟩ : ∃ N : Nat, spans = (N : Int) := ⟨spans.toNat, by omega⟩
  have h5 : (N : Int) ≤ 512 := by omega
  go_enter Tryd.func3, Tryd.ntmps3
  go_wp2_with fail
  refine (halive_ok w hT.out).mono ?_
  rintro e w1 ⟨rfl, b1⟩
  go_wp2_with fail
  refine (new_s N w1 (by omega) (by omega) (hT.out.below b1)).mono ?_
  rintro e w2 ⟨h, F1, rfl, H1, hF1, b2⟩
  replace hF1 : Hid (∀ j, F1 j → w.heap.size ≤ j) := Lib.hid fun j hj => Nat.le_trans b1.size (hF1 j hj)
  replace H1 := Lib.hid H1
  replace b2 := below_all b1 b2
  clear hT
  go_wp2_with fail
  refine (rnew_ok (Q := fun b => ¬ F1 b) N w2 (by omega) (fun b hb hf => by have := H1.out.lt b hf; omega)).mono ?_
  rintro e w3 ⟨vw, vc, f, vo, rfl, R3, b3⟩
  have O3 := Lib.hid (slices_one R3.slices)
  replace R3 := Lib.hid R3
  replace b3' := b3
  clear b1
  go_wp2_with (first
    | (refine wpList_new rfl (.alloc 31) rfl w3.heap.size rfl 31 rnil (by kernel_rfl) ?_; intro w4 hs4 hb4 hB4; have HB4 := Lib.hid hB4; clear hB4)
    | (refine wpList_store_blk rfl 31 (.tmp 6) (.tmp 46) rfl w3.heap.size rfl (rcells vw vc f vo) rfl 31 rnil HB4.out SZ.out rfl O3.out ?_; intro w5 hB5 hg5 hs5; refine stop_here ?_))
  have hb5 : Below w3.heap.size w3 w5 := hb4.grown hg5 hb4.size (fun k hk => by cases hk; exact Nat.le_refl _)
  have b35 := b3.trans (hb5.mono b3.size)
  have J0 : HJ w.heap.size w5 h w3.heap.size (sNew N) (sNew N) F1 vw vc f vo :=
    ⟨H1.out.below b35, ⟨hB5, R3.out.below hb5⟩, fun hf => by have := H1.out.lt _ hf; have := b3.size; omega, fun e => by have := T0.out; have := b2.size; have := b3.size; omega, by have := b2.size; have := b3.size; omega, hF1.out⟩
  have b5 := b2.trans (b35.mono b2.size)
  replace J0 := Lib.hid J0
  obtain ⟨g, hg⟩ : ∃ g, g = w3.heap.size := ⟨_, rfl⟩
  rw [← hg] at J0 ⊢
  clear hg HB4 hB5 hg5 hs5 hs4 hb4 hb5 b35 b3 b3' b2 H1 hF1 R3 O3
  refine go_on ?_
  go_wp2_with fail
  go_loopw [7] (fun i wr => ∃ (k : Nat) (S : HS) (F : Nat → Prop) (vw vc : Value) (f : Nat → Value) (vo : Value), k ≤ acts.length ∧ k ≤ 80 ∧ i = .int .i64 k ∧ Hid (HJ w.heap.size wr h g S S F vw vc f vo) ∧ Below w.heap.size w wr) (fun i _ => 81 - (intOf i).toNat)
  case atStart => exact ⟨0, _, F1, _, _, _, _, by omega, by omega, rfl, J0, b5⟩
  case round =>
    clear J0 b5
    obtain ⟨k, S, F, vw, vc, f, vo, hk, hk80, rfl, J, hb⟩ := hrel
    have kz : (0 : Int) ≤ (k : Int) := by omega
    have hways : (k < acts.length ∧ k < 80) ∨ acts.length ≤ k ∨ (k < acts.length ∧ ¬ k < 80) := by omega
    rcases hways with ⟨hlt, hl8⟩ | hend
    · have t0 : decide ((k : Int) < (acts.length : Int)) = true := by rw [decide_eq_true_iff]; omega
      have t1 : decide ((k : Int) < 80) = true := by rw [decide_eq_true_iff]; omega
      have kl : (k : Int) < (acts.length : Int) := by omega
      obtain ⟨b, o, rfl, _, hc⟩ := (RA.out.below hb).at_ hlt
      obtain ⟨a, hak⟩ : ∃ a, a = acts[k] := ⟨_, rfl⟩
      have hok := HB.out a (by rw [hak]; exact List.getElem_mem hlt)
      rw [← hak] at hc
      clear hak
      obtain ⟨kind, an, mask, obj, p, fd, x⟩ := a
      have c0 : wr.cell? ⟨b, o + k * 7, none⟩ = some (.int .u8 kind) := hc 0 _ rfl
      have c1 := hc 1 _ rfl
      have c2 := hc 2 _ rfl
      have c3 := hc 3 _ rfl
      have c4 := hc 4 _ rfl
      have c5 := hc 5 _ rfl
      have c6 := hc 6 _ rfl
      obtain ⟨kd0, kd1⟩ := hok.kind
      obtain ⟨mk0, mk1⟩ := hok.mask
      have hx := Lib.hid hok.x
      have hsb := Lib.hid (spot_bd J.out.hp.inv.toInv0 hok)
      obtain ⟨sp, hsp⟩ : ∃ sp, sSpot S ⟨kind, an, mask, obj, p, fd, x⟩ = sp := ⟨_, rfl⟩
      rw [hsp] at hsb
      have hS := Lib.hid fun wx (HX : RIn (fun b => ¬ F b) wx S vw vc f vo) => spot_ok S vw vc vo f wx HX J.out.hp.inv.toInv0 kind an mask obj p fd x
      rw [hsp] at hS
      clear hc hok hsp
      have hk8 : kind % 8 = 0 ∨ kind % 8 = 1 ∨ kind % 8 = 2 ∨ kind % 8 = 3 ∨ kind % 8 = 4 ∨ kind % 8 = 5 ∨ kind % 8 = 6 ∨ kind % 8 = 7 := by omega
      replace hk8 := Lib.hid hk8
      go_wp2_with (first
        | (refine wpList_new rfl (.alloc 34) rfl wr.heap.size rfl 34 #[.int .u8 0, .int .i64 0, .int .u8 0, .bool false, .int .i64 0, .int .i64 0, .int .i64 0] (by kernel_rfl) ?_; intro w1 hs1 hb1 hB1; have HB1 := Lib.hid hB1; clear hB1)
        | (refine wpList_store_blk rfl 34 (.tmp 8) (.tmp 60) rfl wr.heap.size rfl #[.int .u8 kind, .int .i64 an, .int .u8 mask, .bool obj, .int .i64 p, .int .i64 fd, .int .i64 x] rfl 34 #[.int .u8 0, .int .i64 0, .int .u8 0, .bool false, .int .i64 0, .int .i64 0, .int .i64 0] HB1.out hact_size rfl (by simp [Value.oneCell']) ?_; intro w2 hB2 hg2 hs2; refine stop_here ?_))
      have hb2 : Below wr.heap.size wr w2 := hb1.grown hg2 hb1.size (fun k hk => by cases hk; exact Nat.le_refl _)
      have J2 := Lib.hid (J.out.below hb2)
      have A2 := Lib.hid hB2
      have nag : Hid (wr.heap.size ≠ g) := Lib.hid (by have := J.out.box.blk.lt; omega)
      have b2 := hb.trans (hb2.mono hb.size)
      obtain ⟨al, hal⟩ : ∃ al, al = wr.heap.size := ⟨_, rfl⟩
      rw [← hal] at A2 nag ⊢
      clear hal HB1 hB2 hg2 hs2 hs1 hb1 hb2 J hb c0 c1 c2 c3 c4 c5 c6
      refine go_on ?_
      go_wp2_with (first
        | (refine wpList_load_blk rfl 31 (.tmp 6) rfl g rfl 31 (rcells vw vc f vo) J2.out.box.blk _ Tryd.underlying31 rfl SZ.out ?_)
        | (refine wpList_load_blk rfl 34 (.tmp 8) rfl al rfl 34 #[.int .u8 kind, .int .i64 an, .int .u8 mask, .bool obj, .int .i64 p, .int .i64 fd, .int .i64 x] A2.out _ Tryd.underlying34 rfl hact_size ?_))
      refine (hS.out _ J2.out.box.rin).mono ?_
      rintro e w3 ⟨rfl, hb3⟩
      have J3 := Lib.hid (J2.out.below hb3)
      have A3 := Lib.hid (A2.out.below hb3 A2.out.lt)
      have b3 := b2.trans (hb3.mono b2.size)
      have I := Lib.hid J3.out.hp.inv
      clear hS J2 A2 hb3 b2
      have v0 : w3.cell? ⟨al, 0, none⟩ = some (.int .u8 kind) := A3.out.cell 0
      have v1 : w3.cell? ⟨al, 1, none⟩ = some (.int .i64 an) := A3.out.cell 1
      have v2 : w3.cell? ⟨al, 2, none⟩ = some (.int .u8 mask) := A3.out.cell 2
      have v5 : w3.cell? ⟨al, 5, none⟩ = some (.int .i64 fd) := A3.out.cell 5
      have v6 : w3.cell? ⟨al, 6, none⟩ = some (.int .i64 x) := A3.out.cell 6
      rcases hk8.out with hk8 | hk8 | hk8 | hk8 | hk8 | hk8 | hk8 | hk8
      · go_wp2_with (refine wpList_load_blk rfl 31 (.tmp 6) rfl g rfl 31 (rcells vw vc f vo) J3.out.box.blk _ Tryd.underlying31 rfl SZ.out ?_)
        refine (ralloc_ok S vw vc vo f w3 J3.out.box.rin J3.out.new I.out an mask x mk0 mk1).mono ?_
        rintro e w4 ⟨vw4, vc4, f4, vo4, rfl, R4, hb4⟩
        have O4 := Lib.hid (slices_one R4.slices)
        replace R4 := Lib.hid R4
        clear v0 v1 v2 v5 v6
        obtain ⟨⟨S7, pp, er⟩, hr⟩ : ∃ r, sAlloc S an mask x = r := ⟨_, rfl⟩
        rw [hr] at R4 ⊢
        dsimp only at R4 ⊢
        replace hr := Lib.hid hr
        go_wp2_with (first
          | (refine wpList_new rfl (.alloc 31) rfl w4.heap.size rfl 31 rnil (by kernel_rfl) ?_; intro w5 hs5 hb5 hB5; have HB5 := Lib.hid hB5; clear hB5)
          | (refine wpList_store_blk rfl 31 (.tmp 21) (.tmp 76) rfl w4.heap.size rfl (rcells vw4 vc4 f4 vo4) rfl 31 rnil HB5.out SZ.out rfl O4.out ?_; intro w6 hB6 hg6 hs6; refine stop_here ?_))
        have hb6 : Below w4.heap.size w4 w6 := hb5.grown hg6 hb5.size (fun k hk => by cases hk; exact Nat.le_refl _)
        have b46 := hb4.trans (hb6.mono hb4.size)
        have J6 := Lib.hid (J3.out.below b46)
        have A6 := Lib.hid (A3.out.below b46 A3.out.lt)
        have R6 := Lib.hid (R4.out.below hb6)
        have X6 := Lib.hid hB6
        have b6 := b3.trans (b46.mono b3.size)
        obtain ⟨nb, hnb⟩ : ∃ nb, nb = w4.heap.size := ⟨_, rfl⟩
        rw [← hnb] at X6 ⊢
        clear hnb HB5 hB6 hg6 hs6 hs5 hb5 hb6 b46 hb4 R4 J3 A3 b3
        refine go_on ?_
        go_wp2_with (first
          | (refine wpList_load_blk rfl 31 (.tmp 21) rfl nb rfl 31 (rcells vw4 vc4 f4 vo4) X6.out _ Tryd.underlying31 rfl SZ.out ?_)
          | (refine wpList_store_blk rfl 31 (.tmp 6) (.tmp 79) rfl g rfl (rcells vw4 vc4 f4 vo4) rfl 31 (rcells vw vc f vo) J6.out.box.blk SZ.out rfl O4.out ?_; intro wa hBa hga hsa; refine stop_here ?_))
        have Ja := Lib.hid (J6.out.set R6.out hga hBa)
        have Aa := A6.out.grown hga (fun e => nag.out (by cases e; rfl))
        have ba := b6.grown hga b6.size (fun k hk => by cases hk; exact J6.out.ge)
        have v1 : wa.cell? ⟨al, 1, none⟩ = some (.int .i64 an) := Aa.cell 1
        have v2 : wa.cell? ⟨al, 2, none⟩ = some (.int .u8 mask) := Aa.cell 2
        have v5 : wa.cell? ⟨al, 5, none⟩ = some (.int .i64 fd) := Aa.cell 5
        have v6 : wa.cell? ⟨al, 6, none⟩ = some (.int .i64 x) := Aa.cell 6
        clear hBa hga hsa R6 X6 J6 A6 Aa b6 O4
        refine go_on ?_
        go_wp2_with fail
        refine (alloc_r hr.out Ja.out.hp mk0 mk1 hx.out).mono ?_
        rintro e w7 ⟨rfl, F7, H7, s7⟩
        have J7 := Lib.hid (Ja.out.step H7 s7 ba.size)
        have b7 : Below w.heap.size w w7 := ba.trans (s7.below Ja.out.hF ba.size)
        clear H7 s7 Ja ba v1 v2 v5 v6 hr
        have q0 := J7.out.box.cells
        obtain ⟨q0, q1, q2, q3, q4, q5, q6⟩ := q0
        go_wp2_with fail
        refine (hsame_ok h _ _ w7 J7.out.hp _ _ _ _ J7.out.box.rin).mono ?_
        rintro e w8 ⟨rfl, hb8⟩
        have J8 := Lib.hid (J7.out.below hb8)
        have b8 := b7.trans (hb8.mono b7.size)
        clear q0 q1 q2 q3 q4 q5 q6 J7 b7 hb8
        go_wp2_with fail
        go_roundw
        case rel => exact ⟨k + 1, _, _, _, _, _, _, by omega, by omega, by go_num, J8, b8⟩
        case measure => simp [intOf]; omega
      · go_wp2_with (refine wpList_load_blk rfl 31 (.tmp 6) rfl g rfl 31 (rcells vw vc f vo) J3.out.box.blk _ Tryd.underlying31 rfl SZ.out ?_)
        refine (ralloc_ok S vw vc vo f w3 J3.out.box.rin J3.out.new I.out an mask x mk0 mk1).mono ?_
        rintro e w4 ⟨vw4, vc4, f4, vo4, rfl, R4, hb4⟩
        have O4 := Lib.hid (slices_one R4.slices)
        replace R4 := Lib.hid R4
        clear v0 v1 v2 v5 v6
        obtain ⟨⟨S7, pp, er⟩, hr⟩ : ∃ r, sAlloc S an mask x = r := ⟨_, rfl⟩
        rw [hr] at R4 ⊢
        dsimp only at R4 ⊢
        replace hr := Lib.hid hr
        go_wp2_with (first
          | (refine wpList_new rfl (.alloc 31) rfl w4.heap.size rfl 31 rnil (by kernel_rfl) ?_; intro w5 hs5 hb5 hB5; have HB5 := Lib.hid hB5; clear hB5)
          | (refine wpList_store_blk rfl 31 (.tmp 21) (.tmp 76) rfl w4.heap.size rfl (rcells vw4 vc4 f4 vo4) rfl 31 rnil HB5.out SZ.out rfl O4.out ?_; intro w6 hB6 hg6 hs6; refine stop_here ?_))
        have hb6 : Below w4.heap.size w4 w6 := hb5.grown hg6 hb5.size (fun k hk => by cases hk; exact Nat.le_refl _)
        have b46 := hb4.trans (hb6.mono hb4.size)
        have J6 := Lib.hid (J3.out.below b46)
        have A6 := Lib.hid (A3.out.below b46 A3.out.lt)
        have R6 := Lib.hid (R4.out.below hb6)
        have X6 := Lib.hid hB6
        have b6 := b3.trans (b46.mono b3.size)
        obtain ⟨nb, hnb⟩ : ∃ nb, nb = w4.heap.size := ⟨_, rfl⟩
        rw [← hnb] at X6 ⊢
        clear hnb HB5 hB6 hg6 hs6 hs5 hb5 hb6 b46 hb4 R4 J3 A3 b3
        refine go_on ?_
        go_wp2_with (first
          | (refine wpList_load_blk rfl 31 (.tmp 21) rfl nb rfl 31 (rcells vw4 vc4 f4 vo4) X6.out _ Tryd.underlying31 rfl SZ.out ?_)
          | (refine wpList_store_blk rfl 31 (.tmp 6) (.tmp 79) rfl g rfl (rcells vw4 vc4 f4 vo4) rfl 31 (rcells vw vc f vo) J6.out.box.blk SZ.out rfl O4.out ?_; intro wa hBa hga hsa; refine stop_here ?_))
        have Ja := Lib.hid (J6.out.set R6.out hga hBa)
        have Aa := A6.out.grown hga (fun e => nag.out (by cases e; rfl))
        have ba := b6.grown hga b6.size (fun k hk => by cases hk; exact J6.out.ge)
        have v1 : wa.cell? ⟨al, 1, none⟩ = some (.int .i64 an) := Aa.cell 1
        have v2 : wa.cell? ⟨al, 2, none⟩ = some (.int .u8 mask) := Aa.cell 2
        have v5 : wa.cell? ⟨al, 5, none⟩ = some (.int .i64 fd) := Aa.cell 5
        have v6 : wa.cell? ⟨al, 6, none⟩ = some (.int .i64 x) := Aa.cell 6
        clear hBa hga hsa R6 X6 J6 A6 Aa b6 O4
        refine go_on ?_
        go_wp2_with fail
        refine (alloc_r hr.out Ja.out.hp mk0 mk1 hx.out).mono ?_
        rintro e w7 ⟨rfl, F7, H7, s7⟩
        have J7 := Lib.hid (Ja.out.step H7 s7 ba.size)
        have b7 : Below w.heap.size w w7 := ba.trans (s7.below Ja.out.hF ba.size)
        clear H7 s7 Ja ba v1 v2 v5 v6 hr
        have q0 := J7.out.box.cells
        obtain ⟨q0, q1, q2, q3, q4, q5, q6⟩ := q0
        go_wp2_with fail
        refine (hsame_ok h _ _ w7 J7.out.hp _ _ _ _ J7.out.box.rin).mono ?_
        rintro e w8 ⟨rfl, hb8⟩
        have J8 := Lib.hid (J7.out.below hb8)
        have b8 := b7.trans (hb8.mono b7.size)
        clear q0 q1 q2 q3 q4 q5 q6 J7 b7 hb8
        go_wp2_with fail
        go_roundw
        case rel => exact ⟨k + 1, _, _, _, _, _, _, by omega, by omega, by go_num, J8, b8⟩
        case measure => simp [intOf]; omega
      · go_wp2_with (refine wpList_load_blk rfl 31 (.tmp 6) rfl g rfl 31 (rcells vw vc f vo) J3.out.box.blk _ Tryd.underlying31 rfl SZ.out ?_)
        refine (ralloc_ok S vw vc vo f w3 J3.out.box.rin J3.out.new I.out an mask x mk0 mk1).mono ?_
        rintro e w4 ⟨vw4, vc4, f4, vo4, rfl, R4, hb4⟩
        have O4 := Lib.hid (slices_one R4.slices)
        replace R4 := Lib.hid R4
        clear v0 v1 v2 v5 v6
        obtain ⟨⟨S7, pp, er⟩, hr⟩ : ∃ r, sAlloc S an mask x = r := ⟨_, rfl⟩
        rw [hr] at R4 ⊢
        dsimp only at R4 ⊢
        replace hr := Lib.hid hr
        go_wp2_with (first
          | (refine wpList_new rfl (.alloc 31) rfl w4.heap.size rfl 31 rnil (by kernel_rfl) ?_; intro w5 hs5 hb5 hB5; have HB5 := Lib.hid hB5; clear hB5)
          | (refine wpList_store_blk rfl 31 (.tmp 21) (.tmp 76) rfl w4.heap.size rfl (rcells vw4 vc4 f4 vo4) rfl 31 rnil HB5.out SZ.out rfl O4.out ?_; intro w6 hB6 hg6 hs6; refine stop_here ?_))
        have hb6 : Below w4.heap.size w4 w6 := hb5.grown hg6 hb5.size (fun k hk => by cases hk; exact Nat.le_refl _)
        have b46 := hb4.trans (hb6.mono hb4.size)
        have J6 := Lib.hid (J3.out.below b46)
        have A6 := Lib.hid (A3.out.below b46 A3.out.lt)
        have R6 := Lib.hid (R4.out.below hb6)
        have X6 := Lib.hid hB6
        have b6 := b3.trans (b46.mono b3.size)
        obtain ⟨nb, hnb⟩ : ∃ nb, nb = w4.heap.size := ⟨_, rfl⟩
        rw [← hnb] at X6 ⊢
        clear hnb HB5 hB6 hg6 hs6 hs5 hb5 hb6 b46 hb4 R4 J3 A3 b3
        refine go_on ?_
        go_wp2_with (first
          | (refine wpList_load_blk rfl 31 (.tmp 21) rfl nb rfl 31 (rcells vw4 vc4 f4 vo4) X6.out _ Tryd.underlying31 rfl SZ.out ?_)
          | (refine wpList_store_blk rfl 31 (.tmp 6) (.tmp 79) rfl g rfl (rcells vw4 vc4 f4 vo4) rfl 31 (rcells vw vc f vo) J6.out.box.blk SZ.out rfl O4.out ?_; intro wa hBa hga hsa; refine stop_here ?_))
        have Ja := Lib.hid (J6.out.set R6.out hga hBa)
        have Aa := A6.out.grown hga (fun e => nag.out (by cases e; rfl))
        have ba := b6.grown hga b6.size (fun k hk => by cases hk; exact J6.out.ge)
        have v1 : wa.cell? ⟨al, 1, none⟩ = some (.int .i64 an) := Aa.cell 1
        have v2 : wa.cell? ⟨al, 2, none⟩ = some (.int .u8 mask) := Aa.cell 2
        have v5 : wa.cell? ⟨al, 5, none⟩ = some (.int .i64 fd) := Aa.cell 5
        have v6 : wa.cell? ⟨al, 6, none⟩ = some (.int .i64 x) := Aa.cell 6
        clear hBa hga hsa R6 X6 J6 A6 Aa b6 O4
        refine go_on ?_
        go_wp2_with fail
        refine (alloc_r hr.out Ja.out.hp mk0 mk1 hx.out).mono ?_
        rintro e w7 ⟨rfl, F7, H7, s7⟩
        have J7 := Lib.hid (Ja.out.step H7 s7 ba.size)
        have b7 : Below w.heap.size w w7 := ba.trans (s7.below Ja.out.hF ba.size)
        clear H7 s7 Ja ba v1 v2 v5 v6 hr
        have q0 := J7.out.box.cells
        obtain ⟨q0, q1, q2, q3, q4, q5, q6⟩ := q0
        go_wp2_with fail
        refine (hsame_ok h _ _ w7 J7.out.hp _ _ _ _ J7.out.box.rin).mono ?_
        rintro e w8 ⟨rfl, hb8⟩
        have J8 := Lib.hid (J7.out.below hb8)
        have b8 := b7.trans (hb8.mono b7.size)
        clear q0 q1 q2 q3 q4 q5 q6 J7 b7 hb8
        go_wp2_with fail
        go_roundw
        case rel => exact ⟨k + 1, _, _, _, _, _, _, by omega, by omega, by go_num, J8, b8⟩
        case measure => simp [intOf]; omega
      · go_wp2_with (refine wpList_load_blk rfl 31 (.tmp 6) rfl g rfl 31 (rcells vw vc f vo) J3.out.box.blk _ Tryd.underlying31 rfl SZ.out ?_)
        refine (rfree_ok S vw vc vo f w3 J3.out.box.rin J3.out.new I.out sp x).mono ?_
        rintro e w4 ⟨vw4, vc4, f4, vo4, rfl, R4, hb4⟩
        have O4 := Lib.hid (slices_one R4.slices)
        replace R4 := Lib.hid R4
        clear v0 v1 v2 v5 v6
        obtain ⟨⟨S7, er⟩, hr⟩ : ∃ r, sFree S sp x = r := ⟨_, rfl⟩
        rw [hr] at R4 ⊢
        dsimp only at R4 ⊢
        replace hr := Lib.hid hr
        go_wp2_with (first
          | (refine wpList_new rfl (.alloc 31) rfl w4.heap.size rfl 31 rnil (by kernel_rfl) ?_; intro w5 hs5 hb5 hB5; have HB5 := Lib.hid hB5; clear hB5)
          | (refine wpList_store_blk rfl 31 (.tmp 11) (.tmp 107) rfl w4.heap.size rfl (rcells vw4 vc4 f4 vo4) rfl 31 rnil HB5.out SZ.out rfl O4.out ?_; intro w6 hB6 hg6 hs6; refine stop_here ?_))
        have hb6 : Below w4.heap.size w4 w6 := hb5.grown hg6 hb5.size (fun k hk => by cases hk; exact Nat.le_refl _)
        have b46 := hb4.trans (hb6.mono hb4.size)
        have J6 := Lib.hid (J3.out.below b46)
        have A6 := Lib.hid (A3.out.below b46 A3.out.lt)
        have R6 := Lib.hid (R4.out.below hb6)
        have X6 := Lib.hid hB6
        have b6 := b3.trans (b46.mono b3.size)
        obtain ⟨nb, hnb⟩ : ∃ nb, nb = w4.heap.size := ⟨_, rfl⟩
        rw [← hnb] at X6 ⊢
        clear hnb HB5 hB6 hg6 hs6 hs5 hb5 hb6 b46 hb4 R4 J3 A3 b3
        refine go_on ?_
        go_wp2_with (first
          | (refine wpList_load_blk rfl 31 (.tmp 11) rfl nb rfl 31 (rcells vw4 vc4 f4 vo4) X6.out _ Tryd.underlying31 rfl SZ.out ?_)
          | (refine wpList_store_blk rfl 31 (.tmp 6) (.tmp 109) rfl g rfl (rcells vw4 vc4 f4 vo4) rfl 31 (rcells vw vc f vo) J6.out.box.blk SZ.out rfl O4.out ?_; intro wa hBa hga hsa; refine stop_here ?_))
        have Ja := Lib.hid (J6.out.set R6.out hga hBa)
        have Aa := A6.out.grown hga (fun e => nag.out (by cases e; rfl))
        have ba := b6.grown hga b6.size (fun k hk => by cases hk; exact J6.out.ge)
        have v1 : wa.cell? ⟨al, 1, none⟩ = some (.int .i64 an) := Aa.cell 1
        have v2 : wa.cell? ⟨al, 2, none⟩ = some (.int .u8 mask) := Aa.cell 2
        have v5 : wa.cell? ⟨al, 5, none⟩ = some (.int .i64 fd) := Aa.cell 5
        have v6 : wa.cell? ⟨al, 6, none⟩ = some (.int .i64 x) := Aa.cell 6
        clear hBa hga hsa R6 X6 J6 A6 Aa b6 O4
        refine go_on ?_
        go_wp2_with fail
        refine (free_r hr.out Ja.out.hp hsb.out.1 hsb.out.2 hx.out).mono ?_
        rintro e w7 ⟨rfl, F7, H7, s7⟩
        have J7 := Lib.hid (Ja.out.step H7 s7 ba.size)
        have b7 : Below w.heap.size w w7 := ba.trans (s7.below Ja.out.hF ba.size)
        clear H7 s7 Ja ba v1 v2 v5 v6 hr
        have q0 := J7.out.box.cells
        obtain ⟨q0, q1, q2, q3, q4, q5, q6⟩ := q0
        go_wp2_with fail
        refine (hsame_ok h _ _ w7 J7.out.hp _ _ _ _ J7.out.box.rin).mono ?_
        rintro e w8 ⟨rfl, hb8⟩
        have J8 := Lib.hid (J7.out.below hb8)
        have b8 := b7.trans (hb8.mono b7.size)
        clear q0 q1 q2 q3 q4 q5 q6 J7 b7 hb8
        go_wp2_with fail
        go_roundw
        case rel => exact ⟨k + 1, _, _, _, _, _, _, by omega, by omega, by go_num, J8, b8⟩
        case measure => simp [intOf]; omega
      · go_wp2_with (refine wpList_load_blk rfl 31 (.tmp 6) rfl g rfl 31 (rcells vw vc f vo) J3.out.box.blk _ Tryd.underlying31 rfl SZ.out ?_)
        refine (rclear_ok S vw vc vo f w3 J3.out.box.rin J3.out.new I.out.toInv0 sp).mono ?_
        rintro e w4 ⟨vw4, vc4, f4, vo4, rfl, R4, hb4⟩
        have O4 := Lib.hid (slices_one R4.slices)
        replace R4 := Lib.hid R4
        clear v0 v1 v2 v5 v6
        obtain ⟨er, hr⟩ : ∃ r, sThere S sp 0 = r := ⟨_, rfl⟩
        rw [hr]
        replace hr := Lib.hid hr
        go_wp2_with (first
          | (refine wpList_new rfl (.alloc 31) rfl w4.heap.size rfl 31 rnil (by kernel_rfl) ?_; intro w5 hs5 hb5 hB5; have HB5 := Lib.hid hB5; clear hB5)
          | (refine wpList_store_blk rfl 31 (.tmp 13) (.tmp 123) rfl w4.heap.size rfl (rcells vw4 vc4 f4 vo4) rfl 31 rnil HB5.out SZ.out rfl O4.out ?_; intro w6 hB6 hg6 hs6; refine stop_here ?_))
        have hb6 : Below w4.heap.size w4 w6 := hb5.grown hg6 hb5.size (fun k hk => by cases hk; exact Nat.le_refl _)
        have b46 := hb4.trans (hb6.mono hb4.size)
        have J6 := Lib.hid (J3.out.below b46)
        have A6 := Lib.hid (A3.out.below b46 A3.out.lt)
        have R6 := Lib.hid (R4.out.below hb6)
        have X6 := Lib.hid hB6
        have b6 := b3.trans (b46.mono b3.size)
        obtain ⟨nb, hnb⟩ : ∃ nb, nb = w4.heap.size := ⟨_, rfl⟩
        rw [← hnb] at X6 ⊢
        clear hnb HB5 hB6 hg6 hs6 hs5 hb5 hb6 b46 hb4 R4 J3 A3 b3
        refine go_on ?_
        go_wp2_with (first
          | (refine wpList_load_blk rfl 31 (.tmp 13) rfl nb rfl 31 (rcells vw4 vc4 f4 vo4) X6.out _ Tryd.underlying31 rfl SZ.out ?_)
          | (refine wpList_store_blk rfl 31 (.tmp 6) (.tmp 125) rfl g rfl (rcells vw4 vc4 f4 vo4) rfl 31 (rcells vw vc f vo) J6.out.box.blk SZ.out rfl O4.out ?_; intro wa hBa hga hsa; refine stop_here ?_))
        have Ja := Lib.hid (J6.out.set R6.out hga hBa)
        have Aa := A6.out.grown hga (fun e => nag.out (by cases e; rfl))
        have ba := b6.grown hga b6.size (fun k hk => by cases hk; exact J6.out.ge)
        have v1 : wa.cell? ⟨al, 1, none⟩ = some (.int .i64 an) := Aa.cell 1
        have v2 : wa.cell? ⟨al, 2, none⟩ = some (.int .u8 mask) := Aa.cell 2
        have v5 : wa.cell? ⟨al, 5, none⟩ = some (.int .i64 fd) := Aa.cell 5
        have v6 : wa.cell? ⟨al, 6, none⟩ = some (.int .i64 x) := Aa.cell 6
        clear hBa hga hsa R6 X6 J6 A6 Aa b6 O4
        refine go_on ?_
        go_wp2_with fail
        refine (clear_r hr.out Ja.out.hp hsb.out.1 hsb.out.2).mono ?_
        rintro e w7 ⟨rfl, H7, s7⟩
        have J7 := Lib.hid (Ja.out.step H7 s7 ba.size)
        have b7 : Below w.heap.size w w7 := ba.trans (s7.below Ja.out.hF ba.size)
        clear H7 s7 Ja ba v1 v2 v5 v6 hr
        have q0 := J7.out.box.cells
        obtain ⟨q0, q1, q2, q3, q4, q5, q6⟩ := q0
        go_wp2_with fail
        refine (hsame_ok h _ _ w7 J7.out.hp _ _ _ _ J7.out.box.rin).mono ?_
        rintro e w8 ⟨rfl, hb8⟩
        have J8 := Lib.hid (J7.out.below hb8)
        have b8 := b7.trans (hb8.mono b7.size)
        clear q0 q1 q2 q3 q4 q5 q6 J7 b7 hb8
        go_wp2_with fail
        go_roundw
        case rel => exact ⟨k + 1, _, _, _, _, _, _, by omega, by omega, by go_num, J8, b8⟩
        case measure => simp [intOf]; omega
      · obtain ⟨⟨y, er⟩, hr⟩ : ∃ r, sLoad S sp fd = r := ⟨_, rfl⟩
        replace hr := Lib.hid hr
        go_wp2_with fail
        refine (load_r hr.out J3.out.hp hsb.out.1 hsb.out.2).mono ?_
        rintro e w4 ⟨rfl, hb4⟩
        have J4 := Lib.hid (J3.out.below hb4)
        have A4 := A3.out.below hb4 A3.out.lt
        have v5 : w4.cell? ⟨al, 5, none⟩ = some (.int .i64 fd) := A4.cell 5
        have b4 := b3.trans (hb4.mono b3.size)
        clear J3 A3 A4 b3 hb4 v0 v1 v2 v6
        go_wp2_with (refine wpList_load_blk rfl 31 (.tmp 6) rfl g rfl 31 (rcells vw vc f vo) J4.out.box.blk _ Tryd.underlying31 rfl SZ.out ?_)
        refine (rload_ok S vw vc vo f w4 J4.out.box.rin I.out.toInv0 sp fd).mono ?_
        rw [hr.out]
        rintro e w7 ⟨rfl, hb7⟩
        have J7 := Lib.hid (J4.out.below hb7)
        have b7 := b4.trans (hb7.mono b4.size)
        clear J4 b4 hb7 v5
        have q0 := J7.out.box.cells
        obtain ⟨q0, q1, q2, q3, q4, q5, q6⟩ := q0
        go_wp2_with fail
        refine (hsame_ok h _ _ w7 J7.out.hp _ _ _ _ J7.out.box.rin).mono ?_
        rintro e w8 ⟨rfl, hb8⟩
        have J8 := Lib.hid (J7.out.below hb8)
        have b8 := b7.trans (hb8.mono b7.size)
        clear q0 q1 q2 q3 q4 q5 q6 J7 b7 hb8
        go_wp2_with fail
        go_roundw
        case rel => exact ⟨k + 1, _, _, _, _, _, _, by omega, by omega, by go_num, J8, b8⟩
        case measure => simp [intOf]; omega
      · go_wp2_with (refine wpList_load_blk rfl 31 (.tmp 6) rfl g rfl 31 (rcells vw vc f vo) J3.out.box.blk _ Tryd.underlying31 rfl SZ.out ?_)
        refine (rstore_ok S vw vc vo f w3 J3.out.box.rin J3.out.new I.out.toInv0 sp fd x).mono ?_
        rintro e w4 ⟨vw4, vc4, f4, vo4, rfl, R4, hb4⟩
        have O4 := Lib.hid (slices_one R4.slices)
        replace R4 := Lib.hid R4
        clear v0 v1 v2 v5 v6
        obtain ⟨er, hr⟩ : ∃ r, sThere S sp fd = r := ⟨_, rfl⟩
        rw [hr]
        replace hr := Lib.hid hr
        go_wp2_with (first
          | (refine wpList_new rfl (.alloc 31) rfl w4.heap.size rfl 31 rnil (by kernel_rfl) ?_; intro w5 hs5 hb5 hB5; have HB5 := Lib.hid hB5; clear hB5)
          | (refine wpList_store_blk rfl 31 (.tmp 19) (.tmp 168) rfl w4.heap.size rfl (rcells vw4 vc4 f4 vo4) rfl 31 rnil HB5.out SZ.out rfl O4.out ?_; intro w6 hB6 hg6 hs6; refine stop_here ?_))
        have hb6 : Below w4.heap.size w4 w6 := hb5.grown hg6 hb5.size (fun k hk => by cases hk; exact Nat.le_refl _)
        have b46 := hb4.trans (hb6.mono hb4.size)
        have J6 := Lib.hid (J3.out.below b46)
        have A6 := Lib.hid (A3.out.below b46 A3.out.lt)
        have R6 := Lib.hid (R4.out.below hb6)
        have X6 := Lib.hid hB6
        have b6 := b3.trans (b46.mono b3.size)
        obtain ⟨nb, hnb⟩ : ∃ nb, nb = w4.heap.size := ⟨_, rfl⟩
        rw [← hnb] at X6 ⊢
        clear hnb HB5 hB6 hg6 hs6 hs5 hb5 hb6 b46 hb4 R4 J3 A3 b3
        refine go_on ?_
        go_wp2_with (first
          | (refine wpList_load_blk rfl 31 (.tmp 19) rfl nb rfl 31 (rcells vw4 vc4 f4 vo4) X6.out _ Tryd.underlying31 rfl SZ.out ?_)
          | (refine wpList_store_blk rfl 31 (.tmp 6) (.tmp 170) rfl g rfl (rcells vw4 vc4 f4 vo4) rfl 31 (rcells vw vc f vo) J6.out.box.blk SZ.out rfl O4.out ?_; intro wa hBa hga hsa; refine stop_here ?_))
        have Ja := Lib.hid (J6.out.set R6.out hga hBa)
        have Aa := A6.out.grown hga (fun e => nag.out (by cases e; rfl))
        have ba := b6.grown hga b6.size (fun k hk => by cases hk; exact J6.out.ge)
        have v1 : wa.cell? ⟨al, 1, none⟩ = some (.int .i64 an) := Aa.cell 1
        have v2 : wa.cell? ⟨al, 2, none⟩ = some (.int .u8 mask) := Aa.cell 2
        have v5 : wa.cell? ⟨al, 5, none⟩ = some (.int .i64 fd) := Aa.cell 5
        have v6 : wa.cell? ⟨al, 6, none⟩ = some (.int .i64 x) := Aa.cell 6
        clear hBa hga hsa R6 X6 J6 A6 Aa b6 O4
        refine go_on ?_
        go_wp2_with fail
        refine (store_r hr.out Ja.out.hp hsb.out.1 hsb.out.2 hx.out).mono ?_
        rintro e w7 ⟨rfl, H7, s7⟩
        have J7 := Lib.hid (Ja.out.step H7 s7 ba.size)
        have b7 : Below w.heap.size w w7 := ba.trans (s7.below Ja.out.hF ba.size)
        clear H7 s7 Ja ba v1 v2 v5 v6 hr
        have q0 := J7.out.box.cells
        obtain ⟨q0, q1, q2, q3, q4, q5, q6⟩ := q0
        go_wp2_with fail
        refine (hsame_ok h _ _ w7 J7.out.hp _ _ _ _ J7.out.box.rin).mono ?_
        rintro e w8 ⟨rfl, hb8⟩
        have J8 := Lib.hid (J7.out.below hb8)
        have b8 := b7.trans (hb8.mono b7.size)
        clear q0 q1 q2 q3 q4 q5 q6 J7 b7 hb8
        go_wp2_with fail
        go_roundw
        case rel => exact ⟨k + 1, _, _, _, _, _, _, by omega, by omega, by go_num, J8, b8⟩
        case measure => simp [intOf]; omega
      · go_wp2_with (refine wpList_load_blk rfl 31 (.tmp 6) rfl g rfl 31 (rcells vw vc f vo) J3.out.box.blk _ Tryd.underlying31 rfl SZ.out ?_)
        refine (rstore_ok S vw vc vo f w3 J3.out.box.rin J3.out.new I.out.toInv0 sp fd x).mono ?_
        rintro e w4 ⟨vw4, vc4, f4, vo4, rfl, R4, hb4⟩
        have O4 := Lib.hid (slices_one R4.slices)
        replace R4 := Lib.hid R4
        clear v0 v1 v2 v5 v6
        obtain ⟨er, hr⟩ : ∃ r, sThere S sp fd = r := ⟨_, rfl⟩
        rw [hr]
        replace hr := Lib.hid hr
        go_wp2_with (first
          | (refine wpList_new rfl (.alloc 31) rfl w4.heap.size rfl 31 rnil (by kernel_rfl) ?_; intro w5 hs5 hb5 hB5; have HB5 := Lib.hid hB5; clear hB5)
          | (refine wpList_store_blk rfl 31 (.tmp 19) (.tmp 168) rfl w4.heap.size rfl (rcells vw4 vc4 f4 vo4) rfl 31 rnil HB5.out SZ.out rfl O4.out ?_; intro w6 hB6 hg6 hs6; refine stop_here ?_))
        have hb6 : Below w4.heap.size w4 w6 := hb5.grown hg6 hb5.size (fun k hk => by cases hk; exact Nat.le_refl _)
        have b46 := hb4.trans (hb6.mono hb4.size)
        have J6 := Lib.hid (J3.out.below b46)
        have A6 := Lib.hid (A3.out.below b46 A3.out.lt)
        have R6 := Lib.hid (R4.out.below hb6)
        have X6 := Lib.hid hB6
        have b6 := b3.trans (b46.mono b3.size)
        obtain ⟨nb, hnb⟩ : ∃ nb, nb = w4.heap.size := ⟨_, rfl⟩
        rw [← hnb] at X6 ⊢
        clear hnb HB5 hB6 hg6 hs6 hs5 hb5 hb6 b46 hb4 R4 J3 A3 b3
        refine go_on ?_
        go_wp2_with (first
          | (refine wpList_load_blk rfl 31 (.tmp 19) rfl nb rfl 31 (rcells vw4 vc4 f4 vo4) X6.out _ Tryd.underlying31 rfl SZ.out ?_)
          | (refine wpList_store_blk rfl 31 (.tmp 6) (.tmp 170) rfl g rfl (rcells vw4 vc4 f4 vo4) rfl 31 (rcells vw vc f vo) J6.out.box.blk SZ.out rfl O4.out ?_; intro wa hBa hga hsa; refine stop_here ?_))
        have Ja := Lib.hid (J6.out.set R6.out hga hBa)
        have Aa := A6.out.grown hga (fun e => nag.out (by cases e; rfl))
        have ba := b6.grown hga b6.size (fun k hk => by cases hk; exact J6.out.ge)
        have v1 : wa.cell? ⟨al, 1, none⟩ = some (.int .i64 an) := Aa.cell 1
        have v2 : wa.cell? ⟨al, 2, none⟩ = some (.int .u8 mask) := Aa.cell 2
        have v5 : wa.cell? ⟨al, 5, none⟩ = some (.int .i64 fd) := Aa.cell 5
        have v6 : wa.cell? ⟨al, 6, none⟩ = some (.int .i64 x) := Aa.cell 6
        clear hBa hga hsa R6 X6 J6 A6 Aa b6 O4
        refine go_on ?_
        go_wp2_with fail
        refine (store_r hr.out Ja.out.hp hsb.out.1 hsb.out.2 hx.out).mono ?_
        rintro e w7 ⟨rfl, H7, s7⟩
        have J7 := Lib.hid (Ja.out.step H7 s7 ba.size)
        have b7 : Below w.heap.size w w7 := ba.trans (s7.below Ja.out.hF ba.size)
        clear H7 s7 Ja ba v1 v2 v5 v6 hr
        have q0 := J7.out.box.cells
        obtain ⟨q0, q1, q2, q3, q4, q5, q6⟩ := q0
        go_wp2_with fail
        refine (hsame_ok h _ _ w7 J7.out.hp _ _ _ _ J7.out.box.rin).mono ?_
        rintro e w8 ⟨rfl, hb8⟩
        have J8 := Lib.hid (J7.out.below hb8)
        have b8 := b7.trans (hb8.mono b7.size)
        clear q0 q1 q2 q3 q4 q5 q6 J7 b7 hb8
        go_wp2_with fail
        go_roundw
        case rel => exact ⟨k + 1, _, _, _, _, _, _, by omega, by omega, by go_num, J8, b8⟩
        case measure => simp [intOf]; omega
    rcases hend with hend | ⟨hlt, hend⟩
    · have t0 : decide ((k : Int) < (acts.length : Int)) = false := by rw [decide_eq_false_iff_not]; omega
      go_wp2_with fail
      go_ret
      exact ⟨rfl, hb⟩
    · have t0 : decide ((k : Int) < (acts.length : Int)) = true := by rw [decide_eq_true_iff]; omega
      have t1 : decide ((k : Int) < 80) = false := by rw [decide_eq_false_iff_not]; omega
      go_wp2_with fail
      go_ret
      exact ⟨rfl, hb⟩
end Go.Proofs.YtoodfioecabglaaDoor
