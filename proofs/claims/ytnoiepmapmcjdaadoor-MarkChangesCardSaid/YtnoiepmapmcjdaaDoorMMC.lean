/- Joined: MarkPath, MarkChanges. -/
import Derived.Test.YtnoiepmapmcjdaaDoorMMB
import Derived.Test.YtnoiepmapmcjdaaDoorMMR
set_option linter.unusedVariables false
set_option linter.unusedSimpArgs false
namespace Go.Proofs.YtnoiepmapmcjdaaDoor
open Go.RowKit Go.Shelf
section
variable {w0 : W0} {w w' : World} {q h m n : Nat} {S : HS} {K : MK} {R : RM} {objs : List (List Int)}
theorem lostep (H : LO w0 w q h m n K objs) (X : RD) (HX : CK n K X) :
    Calls Tryd.prog 18 #[.pointer (some ⟨m, 0, none⟩)] w fun e w' => e = .returned (.tuple #[.bool (dStep objs X).2, .int .i64 0]) ∧ ∃ K', LO w0 w' q h m n K' objs ∧ CK n K' (dStep objs X).1 ∧ K'.on = K.on := by
  obtain ⟨S, H⟩ := H
  obtain ⟨e1, e2, e3⟩ := H.c.step HX
  have := lstep H
  rw [e1] at this
  refine this.mono ?_
  rintro e w' ⟨rfl, H'⟩
  exact ⟨rfl, _, ⟨S, H'⟩, e2, e3⟩
theorem loptr (H : LO w0 w q h m n K objs) (b : Int) (hb : 0 ≤ b ∧ b ≤ n) : Calls Tryd.prog 20 #[.pointer (some ⟨q, 0, none⟩), .int .i64 b] w fun e w' => e = .returned (.int .i64 (ptrI b)) ∧ w = w' := by
  obtain ⟨S, H⟩ := H
  exact lptr H b hb
theorem locol (H : LO w0 w q h m n K objs) (X : RD) (HX : CK n K X) (i : Nat) (hi : i < n) : Calls Tryd.prog 21 #[.pointer (some ⟨m, 0, none⟩), .int .i64 (4 * (i : Int) + 1)] w fun e w' => e = .returned (.int .i64 (dColor X ((i : Int) + 1))) ∧ w = w' := by
  have := locolor H X HX ((i : Int) + 1) (by omega) (by omega)
  rw [ptrI_pos (by omega), show 4 * ((i : Int) + 1) - 3 = 4 * (i : Int) + 1 by omega] at this
  exact this
theorem lo_path (H : LO w0 w q h m n K objs) {a k : Nat} (ha : a < n) (hk : k < 4) :
    ∃ (Gp : Nat → Prop) (bo oo co bl ol cl : Nat), (∀ j, Gp j → j < w.heap.size) ∧
      (∀ X : World, (∀ j, Gp j → X.heap[j]? = w.heap[j]?) → X.cell? ⟨q, 1, none⟩ = some (.pointer (some ⟨m, 0, none⟩)) ∧ X.cell? ⟨q, 3, none⟩ = some (.slice (some ⟨bo, oo, none⟩) n co) ∧ X.cell? ⟨bo, oo + a, none⟩ = some (.slice (some ⟨bl, ol, none⟩) 4 cl) ∧ X.cell? ⟨bl, ol + k, none⟩ = some (.int .i64 (objAt objs a k))) ∧
      (∀ (w1 : World) (b : Int) (X : RD), Below w.heap.size w w1 → CK n K X → K.on = true → 0 ≤ b ∧ b ≤ n → Calls Tryd.prog 19 #[.pointer (some ⟨m, 0, none⟩), .int .i64 (ptrI b)] w1 fun e w' => e = .returned (.int .i64 0) ∧ (∃ K', LO (w0.guard w w1) w' q h m n K' objs ∧ CK n K' (dShade X b) ∧ K'.on = true) ∧ ∀ j, Gp j → w'.heap[j]? = w1.heap[j]?) := by
  obtain ⟨S, F, D, G, W, hF, fe, C⟩ := H
  have hn := C.n11
  obtain ⟨vp, vo, vg, vb, I⟩ := W.wi
  obtain ⟨us, u1, u2, u3⟩ := I.ob
  have hol : objs.length = n := C.ol
  have hul : us.length = n := by rw [u1]; exact hol
  have u2r := u2.rd
  obtain ⟨Ao, co, rfl, -⟩ := u2r.len
  obtain ⟨bo, oo, rfl, hbo, hco⟩ := u2r.at_ (show a < us.length by omega)
  have hGo : G bo := (u2.inP (by omega) bo rfl).1
  have ho : a < objs.length := by omega
  have u3a := u3 a (by omega) ho
  have h4 : (objs[a]).length = 4 := by
    have := C.four a ha
    rwa [show objs.getD a [] = objs[a] by simp [List.getD, ho]] at this
  have u3r := u3a.rd
  obtain ⟨Al, cl, hus, -⟩ := u3r.len
  rw [hus] at hco u3r
  obtain ⟨bl, ol, rfl, hbl, hcl⟩ := u3r.at_ (show k < (objs[a]).length by omega)
  have hGl : G bl := (u3a.inP (by show 0 < (objs[a]).length; omega) bl (by rw [hus]; rfl)).1
  have hob : objAt objs a k = (objs[a])[k]'(by omega) := by
    unfold objAt
    simp [List.getD, ho, h4, hk]
  refine ⟨G, bo, oo, co, bl, ol, cl, W.glt, fun X hX => ⟨?_, ?_, ?_, ?_⟩, fun w1 b X hb HX hon hbd => ?_⟩
  · rw [World.cell?_of_block (hX q I.gq)]; exact I.blk.cell 1
  · rw [World.cell?_of_block (hX q I.gq), ← hul]; exact I.blk.cell 3
  · rw [World.cell?_of_block (hX bo hGo), hco, h4]
  · rw [World.cell?_of_block (hX bl hGl), hcl, hob]
  · have hk0 := C.known (K := K) hon hbd
    have hsh := C.shade HX hon hbd
    have hp := ptrI_bd hn hbd
    refine (shade_m m h S F K D w1 (W.mm.below hb) (ptrI b) (by omega) (by omega)).mono ?_
    rintro e w' ⟨rfl, D', M, s⟩
    rw [hk0]
    exact ⟨rfl, ⟨_, ⟨S, LW.marks (W.below hb) (guard_free W hF) (fe.guard hb) C M s⟩, hsh.1, hsh.2⟩, fun j hj => s.frame.block j (Nat.lt_of_lt_of_le (W.glt j hj) hb.size) (W.dd j hj)⟩
end
end Go.Proofs.YtnoiepmapmcjdaaDoor
namespace Go.Proofs.YtnoiepmapmcjdaaDoor
open Go.RowKit Go.Shelf
set_option maxHeartbeats 16000000 in
set_option maxRecDepth 100000 in
theorem mchanges_ok (v0 v1 v2 : Value) (l0 l : List MAct) (rs : List Int) (w : World) (hv0 : RdC 5 mactC w v0 l0) (hok0 : ∀ x ∈ l0, MActOk w x) (hr : Rd u8e w v1 rs) (hrb : ∀ x ∈ rs, 0 ≤ x ∧ x ≤ 255) (hv : RdC 5 mactC w v2 l) (hok : ∀ x ∈ l, MActOk w x) (hT : TabW w) :
    Calls Tryd.prog 4 #[v0, v1, v2] w fun e w' => e = .returned (.bool true) ∧ Below w.heap.size w w' := by
  obtain ⟨A0, c0, rfl, hlc0, hcm0, -⟩ := hv0.len
  obtain ⟨A, c, rfl, hlc, hcm, -⟩ := hv.len
  obtain ⟨Ar, cr, rfl, -, hrc, -⟩ := hr.len
  have hl90 : (l0.length : Int) ≤ 9223372036854775807 := by unfold maxLen at hcm0; omega
  have hl9 : (l.length : Int) ≤ 9223372036854775807 := by unfold maxLen at hcm; omega
  have HV0 := Lib.hid (fun wx (bx : Below w.heap.size w wx) => hv0.below bx)
  have HO0 := Lib.hid hok0
  have HV := Lib.hid (fun wx (bx : Below w.heap.size w wx) => hv.below bx)
  have HO := Lib.hid hok
  have HR := Lib.hid (fun wx (bx : Below w.heap.size w wx) => hr.below bx)
  have HA := Lib.hid (malive_ok w hT)
  replace hrb := Lib.hid hrb
  replace hT := Lib.hid hT
  clear hv hok hr hv0 hok0
  go_enter Tryd.func4, Tryd.ntmps4
  go_wp2_with fail
  refine HA.out.mono ?_
  rintro e w1 ⟨rfl, b1⟩
  have HB := Lib.hid (lobegin (n := 11) (by omega) (hT.out.below b1))
  clear HA hT
  go_wp2_with fail
  refine HB.out.mono ?_
  rintro e w2 ⟨q, h, m, rfl, H2⟩
  clear HB
  have b2 := b1.trans (H2.b.mono b1.size)
  have HH := Lib.hid (heavy_w _ l0 w2 (HV0.out w2 b2) (fun x hx => (HO0.out x hx).below b2))
  replace H2 := Lib.hid H2
  go_wp2_with fail
  refine HH.out.mono ?_
  rintro e w3 ⟨rfl, d3⟩
  have b3 := b2.trans (d3.mono b2.size)
  have H3 := Lib.hid (H2.out.below d3)
  clear HH d3 H2
  by_cases hhv0 : mHeavy l0 = true
  · rw [hhv0]
    go_wp2_with fail
    go_ret
    exact ⟨rfl, b3⟩
  rw [show mHeavy l0 = false by simpa using hhv0]
  replace hhv0 := Lib.hid hhv0
  have HH := Lib.hid (heavy_w _ l w3 (HV.out w3 b3) (fun x hx => (HO.out x hx).below b3))
  go_wp2_with fail
  refine HH.out.mono ?_
  rintro e w4 ⟨rfl, d4⟩
  have b4 := b3.trans (d4.mono b3.size)
  have H4 := Lib.hid (H3.out.below d4)
  clear HH d4 H3 b3
  by_cases hhv : mHeavy l = true
  · rw [hhv]
    go_wp2_with fail
    go_ret
    exact ⟨rfl, b4⟩
  rw [show mHeavy l = false by simpa using hhv]
  replace hhv := Lib.hid hhv
  by_cases h20 : 20 < rs.length
  · have t1 : (20 : Int) < (rs.length : Int) := by omega
    go_wp2_with fail
    go_ret
    exact ⟨rfl, b4⟩
  have t1 : decide ((20 : Int) < (rs.length : Int)) = false := by rw [decide_eq_false_iff_not]; omega
  go_wp2_with fail
  clear b2 b4 t1
  go_loopw [40] (fun i wr => ∃ j : Nat, j ≤ l0.length ∧ i = .int .i64 j ∧ Hid (LO (ofW w1) wr q h m 11 mNew ((l0.take j).foldl (actO 11) (List.replicate 11 zero4)))) (fun i _ => l0.length - (intOf i).toNat)
  case atStart => exact ⟨0, by omega, rfl, H4⟩
  case round =>
    clear H4
    obtain ⟨j, hj, rfl, H⟩ := hrel
    have bw : Below w.heap.size w wr := b1.trans (H.out.b.mono b1.size)
    by_cases hlt : j < l0.length
    · have t0 : (j : Int) < (l0.length : Int) := by omega
      obtain ⟨b, o, rfl, _, hc⟩ := (HV0.out wr bw).at_ hlt
      obtain ⟨x, hx⟩ : ∃ x, l0[j] = x := ⟨_, rfl⟩
      have hxo := HO0.out _ (List.getElem_mem hlt)
      have htk : (l0.take (j + 1)).foldl (actO 11) (List.replicate 11 zero4) = actO 11 ((l0.take j).foldl (actO 11) (List.replicate 11 zero4)) x := by
        rw [List.take_add_one, List.getElem?_eq_getElem hlt, List.foldl_append, hx]
        rfl
      rw [hx] at hc hxo
      obtain ⟨kind, xa, xb, xk, rv, rl⟩ := x
      have c0 : wr.cell? ⟨b, o + j * 5, none⟩ = some (.int .u8 kind) := hc 0 _ rfl
      have c1 : wr.cell? ⟨b, o + j * 5 + 1, none⟩ = some (.int .u8 xa) := hc 1 _ rfl
      have c2 : wr.cell? ⟨b, o + j * 5 + 2, none⟩ = some (.int .u8 xb) := hc 2 _ rfl
      have c3 : wr.cell? ⟨b, o + j * 5 + 3, none⟩ = some (.int .u8 xk) := hc 3 _ rfl
      have c4 := hc 4 _ rfl
      obtain ⟨Av, cv, hrv, -⟩ := hxo.rd.len
      dsimp only at hrv c4
      rw [hrv] at c4
      replace c4 : wr.cell? ⟨b, o + j * 5 + 4, none⟩ = some (.slice Av rl.length cv) := c4
      have hd := hxo.kind
      have ha := hxo.a
      have hb := hxo.b
      have hk := hxo.k
      dsimp only at hd ha hb hk
      replace hrv := Lib.hid hrv
      clear hc hx hxo
      replace htk : _ = setO _ (xa % 12) (xk % 4) (xb % 12) := htk
      replace htk := Lib.hid htk
      go_wp2_with (first
        | (refine wpList_new rfl (.alloc 30) rfl wr.heap.size rfl 30 #[.int .u8 0, .int .u8 0, .int .u8 0, .int .u8 0, .slice none 0 0] (by kernel_rfl) ?_; intro w1 hs1 hb1 hB1; have HB1 := Lib.hid hB1; clear hB1)
        | (refine wpList_store_blk rfl 30 (.tmp 10) (.tmp 43) rfl wr.heap.size rfl #[.int .u8 kind, .int .u8 xa, .int .u8 xb, .int .u8 xk, .slice Av rl.length cv] rfl 30 #[.int .u8 0, .int .u8 0, .int .u8 0, .int .u8 0, .slice none 0 0] HB1.out mact_size rfl (by simp [Value.oneCell']) ?_; intro w2 hB2 hg2 hs2; refine stop_here ?_))
      have hb2 : Below wr.heap.size wr w2 := hb1.grown hg2 hb1.size (fun k hk => by cases hk; exact Nat.le_refl _)
      have e0 : w2.cell? ⟨wr.heap.size, 0, none⟩ = some (.int .u8 kind) := hB2.cell 0
      have e1 : w2.cell? ⟨wr.heap.size, 1, none⟩ = some (.int .u8 xa) := hB2.cell 1
      have e2 : w2.cell? ⟨wr.heap.size, 2, none⟩ = some (.int .u8 xb) := hB2.cell 2
      have e3 : w2.cell? ⟨wr.heap.size, 3, none⟩ = some (.int .u8 xk) := hB2.cell 3
      have hgl : wr.heap.size < w2.heap.size := hB2.lt
      clear HB1 hB2 hg2 hs2 hs1 hb1 c0 c1 c2 c3 c4
      have HS := Lib.hid (lset (H.out.below hb2) (xa % 12) (xk % 4) (xb % 12) (by omega) (by omega) (by omega))
      rw [← htk.out] at HS
      clear hb2 H hgl e0
      refine go_on ?_
      go_wp2_with fail
      refine HS.out.mono ?_
      rintro e w4 ⟨rfl, H4⟩
      replace H4 := Lib.hid H4
      clear HS e1 e2 e3 htk
      go_wp2_with fail
      go_roundw
      case rel => exact ⟨j + 1, by omega, by go_num, H4⟩
      case measure => simp [intOf]; omega
    · obtain rfl : j = l0.length := by omega
      rw [List.take_length] at H
      obtain ⟨ob0, hobjs⟩ : ∃ ob0, ob0 = l0.foldl (actO 11) (List.replicate 11 zero4) := ⟨_, rfl⟩
      rw [← hobjs] at H
      have HRo := Lib.hid (loroots H.out _ rs (HR.out wr bw) (by omega) hrb.out)
      clear hobjs HV0 HO0
      go_wp2_with fail
      refine HRo.out.mono ?_
      rintro e w5 ⟨va, vb, rfl, ra, rb, fa, fb, b5⟩
      have rbd : ∀ b ∈ nums 11 rs, 0 ≤ b ∧ b ≤ ((11 : Nat) : Int) := nums_bd
      have rl : (nums 11 rs).length ≤ 20 := by simp [nums]; omega
      obtain ⟨Aa, ca, rfl, -⟩ := ra.len
      obtain ⟨Ab, cb, rfl, -⟩ := rb.len
      obtain ⟨ks, hks⟩ : ∃ ks, ks = nums 11 rs := ⟨_, rfl⟩
      rw [← hks] at ra rb rbd rl fa ⊢
      rw [List.length_map] at ra fa ⊢
      have H5 := H.out.below b5
      obtain ⟨P5, Ao, co, o1, o2⟩ := H5.obs
      obtain ⟨S5, C5⟩ := H5.c
      have HRe := Lib.hid (reach_w 11 _ _ ob0 ks w5 o2 C5.ol (by omega) C5.four C5.bds rb rl rbd)
      have row0 : Row4 11 ob0 := fun i hi => C5.row hi
      have hbd0 := Lib.hid C5.bds
      replace row0 := Lib.hid row0
      replace rbd := Lib.hid rbd
      replace ra := Lib.hid ra
      replace fa := Lib.hid fa
      replace H5 := Lib.hid H5
      replace b5 := Lib.hid b5
      clear HRo fb hks rb C5 o2
      go_wp2_with fail
      refine HRe.out.mono ?_
      rintro e w6 ⟨vr, rfl, hown, b6⟩
      obtain ⟨A9, c9, rfl, -⟩ := own_form hown
      obtain ⟨g9, rfl, hg9, hg9l⟩ := own_addr hown (by omega)
      have b56 := b5.out.trans (b6.mono b5.out.size)
      have HBe := Lib.hid (lobeg H.out rfl b56 _ ks rl rbd.out (ra.out.below b6) fa.out)
      have p1 := (H.out.below b56).cells.2.1
      have hg9w : wr.heap.size ≤ g9 := by have := b5.out.size; omega
      replace hown := Lib.hid hown
      replace b6 := Lib.hid b6
      clear HRe o1 ra fa b5 b6
      go_wp2_with fail
      refine HBe.out.mono ?_
      rintro e w7 ⟨rfl, K1, H7, ck1, on1⟩
      obtain ⟨wg, hwg⟩ : ∃ wg, wg = (ofW w1).guard wr w6 := ⟨_, rfl⟩
      have hgb : wg.base = w1 := by rw [hwg]; rfl
      have hkeep : Hid (∀ (X : World) (K : MK) (objs : List (List Int)), LO wg X q h m 11 K objs → X.heap[g9]? = w6.heap[g9]?) := Lib.hid fun X K objs HX => by
        rw [hwg] at HX
        exact HX.keeps hg9w hg9l
      rw [← hwg] at H7
      have hs1 : Hid (CK 11 K1 (ks.foldl dShade dStart) ∧ K1.on = true ∧ Snp ob0 11 ks ob0 (ks.foldl dShade dStart)) := Lib.hid ⟨ck1, on1, snp_start⟩
      replace H7 := Lib.hid H7
      replace hgb := Lib.hid hgb
      clear HBe p1 ck1 on1 hwg H H5 b56 hg9w bw
      go_wp2_with fail
      -- the pointers are written over
      go_loopw [82] (fun i wr => ∃ (j : Nat) (K : MK) (X : RD) (objs : List (List Int)), j ≤ l.length ∧ i = .int .i64 j ∧ Hid (LO wg wr q h m 11 K objs) ∧ Hid (CK 11 K X ∧ K.on = true ∧ Snp ob0 11 ks objs X)) (fun i _ => l.length - (intOf i).toNat)
      case atStart => exact ⟨0, _, _, _, by omega, rfl, H7, hs1⟩
      case round =>
        clear H7 hs1
        obtain ⟨j, K, X, objs, hj, rfl, H, hs⟩ := hrel
        have bw : Below w.heap.size w wr := b1.trans ((hgb.out ▸ H.out.b).mono b1.size)
        by_cases hlt : j < l.length
        · have t0 : (j : Int) < (l.length : Int) := by omega
          obtain ⟨b, o, rfl, _, hc⟩ := (HV.out wr bw).at_ hlt
          obtain ⟨x, hx⟩ : ∃ x, l[j] = x := ⟨_, rfl⟩
          have hxo := HO.out _ (List.getElem_mem hlt)

          rw [hx] at hc hxo
          obtain ⟨kind, xa, xb, xk, rv, rl⟩ := x
          have c0 : wr.cell? ⟨b, o + j * 5, none⟩ = some (.int .u8 kind) := hc 0 _ rfl
          have c1 : wr.cell? ⟨b, o + j * 5 + 1, none⟩ = some (.int .u8 xa) := hc 1 _ rfl
          have c2 : wr.cell? ⟨b, o + j * 5 + 2, none⟩ = some (.int .u8 xb) := hc 2 _ rfl
          have c3 : wr.cell? ⟨b, o + j * 5 + 3, none⟩ = some (.int .u8 xk) := hc 3 _ rfl
          have c4 := hc 4 _ rfl
          obtain ⟨Av, cv, hrv, -⟩ := hxo.rd.len
          dsimp only at hrv c4
          rw [hrv] at c4
          replace c4 : wr.cell? ⟨b, o + j * 5 + 4, none⟩ = some (.slice Av rl.length cv) := c4
          have hd := hxo.kind
          have ha := hxo.a
          have hb := hxo.b
          have hk := hxo.k
          dsimp only at hd ha hb hk
          replace hrv := Lib.hid hrv
          clear hc hx hxo
          go_wp2_with (first
            | (refine wpList_new rfl (.alloc 30) rfl wr.heap.size rfl 30 #[.int .u8 0, .int .u8 0, .int .u8 0, .int .u8 0, .slice none 0 0] (by kernel_rfl) ?_; intro w1 hs1 hb1 hB1; have HB1 := Lib.hid hB1; clear hB1)
            | (refine wpList_store_blk rfl 30 (.tmp 15) (.tmp 85) rfl wr.heap.size rfl #[.int .u8 kind, .int .u8 xa, .int .u8 xb, .int .u8 xk, .slice Av rl.length cv] rfl 30 #[.int .u8 0, .int .u8 0, .int .u8 0, .int .u8 0, .slice none 0 0] HB1.out mact_size rfl (by simp [Value.oneCell']) ?_; intro w2 hB2 hg2 hs2; refine stop_here ?_))
          have hb2 : Below wr.heap.size wr w2 := hb1.grown hg2 hb1.size (fun k hk => by cases hk; exact Nat.le_refl _)
          have e0 : w2.cell? ⟨wr.heap.size, 0, none⟩ = some (.int .u8 kind) := hB2.cell 0
          have e1 : w2.cell? ⟨wr.heap.size, 1, none⟩ = some (.int .u8 xa) := hB2.cell 1
          have e2 : w2.cell? ⟨wr.heap.size, 2, none⟩ = some (.int .u8 xb) := hB2.cell 2
          have e3 : w2.cell? ⟨wr.heap.size, 3, none⟩ = some (.int .u8 xk) := hB2.cell 3
          have hgl : wr.heap.size < w2.heap.size := hB2.lt
          clear HB1 hB2 hg2 hs2 hs1 hb1 c0 c1 c2 c3 c4
          replace hb2 := Lib.hid hb2
          refine go_on ?_
          by_cases hev : kind % 2 = 0
          · have HSt := Lib.hid (lostep (H.out.below hb2.out) X hs.out.1)
            have p1 := (H.out.below hb2.out).cells.2.1
            have hon : X.on = true := hs.out.1.on ▸ hs.out.2.1
            obtain ⟨S9, C9⟩ := H.out.c
            have hs' := snp_step row0.out (fun i hi => C9.row hi) hs.out.1.ok hon hs.out.2.2
            have ho := hs.out.2.1
            replace hs' := Lib.hid hs'
            replace ho := Lib.hid ho
            clear hs H C9 hon e1 e2 e3 hgl
            go_wp2_with fail
            refine HSt.out.mono ?_
            rintro e w4 ⟨rfl, K2, H4, ck4, on4⟩
            have hs4 := Lib.hid (show CK 11 K2 (dStep objs X).1 ∧ K2.on = true ∧ Snp ob0 11 ks objs (dStep objs X).1 from ⟨ck4, on4.trans ho.out, hs'.out⟩)
            replace H4 := Lib.hid H4
            clear HSt p1 e0 hs' ck4 on4 ho
            go_wp2_with fail
            go_roundw
            case rel => exact ⟨j + 1, _, _, _, by omega, by go_num, H4, hs4⟩
            case measure => simp [intOf]; omega
          · have hev' : kind % 2 = 1 := by omega
            clear hev
            obtain ⟨k, hk4⟩ : ∃ k : Nat, xk % 4 = (k : Int) := ⟨(xk % 4).toNat, by omega⟩
            have hk4l : k < 4 := by omega
            by_cases ha0 : xa % 12 = 0
            · go_wp2_with fail
              go_quiet (fail)
              have H3 := Lib.hid ((H.out.below hb2.out).below (below_drewN (Below.refl w2.heap.size w2) nq))
              generalize w2.drewN nq = w3 at H3 ⊢
              clear e0 e1 e2 e3 hgl H hb2
              go_wp2_with fail
              go_quiet (fail)
              have H4 := Lib.hid (H3.out.below (below_drewN (Below.refl w3.heap.size w3) nq))
              generalize w3.drewN nq = w4 at H4 ⊢
              clear H3
              go_wp2_with fail
              go_roundw
              case rel => exact ⟨j + 1, _, _, _, by omega, by go_num, H4, hs⟩
              case measure => simp [intOf]; omega
            · obtain ⟨a, ha1⟩ : ∃ a : Nat, xa % 12 = (a : Int) + 1 := ⟨(xa % 12 - 1).toNat, by omega⟩
              have ha11 : a < 11 := by omega
              clear ha0
              go_wp2_with fail
              go_quiet (fail)
              rw [ha1, hk4]
              have hb3 : Below wr.heap.size wr (w2.drewN nq) := hb2.out.trans ((below_drewN (Below.refl w2.heap.size w2) nq).mono hb2.out.size)
              have f2 : (w2.drewN nq).cell? ⟨wr.heap.size, 2, none⟩ = some (.int .u8 xb) := e2
              have fgl : wr.heap.size < (w2.drewN nq).heap.size := hgl
              generalize w2.drewN nq = w3 at hb3 f2 fgl ⊢
              clear e0 e1 e2 e3 hgl hb2 w2
              obtain ⟨Gp, bo, oo, co', bl, ol, cl, hGl, hpath, hshade⟩ := lo_path H.out ha11 hk4l
              obtain ⟨S9, C9⟩ := H.out.c
              have hold := C9.bd a k ha11 hk4l
              have hlen := C9.ol
              have hfour := C9.four
              obtain ⟨old, hold1⟩ : ∃ old, objAt objs a k = old := ⟨_, rfl⟩
              rw [hold1] at hold hpath
              obtain ⟨K1, hK1⟩ : ∃ K1, K1 = K := ⟨_, rfl⟩
              have HP := Lib.hid (loptr (H.out.guard (hb3.drew)) old hold)
              have HSh := Lib.hid (hshade w3.drew old X hb3.drew hs.out.1 hs.out.2.1 hold)
              have hg3 : Hid (∀ j, Gp j → w3.drew.heap[j]? = wr.heap[j]?) := Lib.hid fun j hj => hb3.drew.block j (hGl j hj)
              have wb : Hid (IntKind.i64.wrap xb = xb) := Lib.hid (by rw [IntKind.wrap_i64]; omega)
              have mb : Hid (IntKind.i64.wrap (xb.tmod 12) = xb % 12) := Lib.hid (by rw [Int.tmod_eq_emod_of_nonneg hb.1, IntKind.wrap_i64]; omega)
              have tb : Hid (xb.tmod 12 = xb % 12) := Lib.hid (Int.tmod_eq_emod_of_nonneg hb.1)
              have wa : Hid (IntKind.i64.wrap (a : Int) = (a : Int)) := Lib.hid (by rw [IntKind.wrap_i64]; omega)
              have wa1 : Hid (IntKind.i64.wrap ((a : Int) + 1 - 1) = (a : Int)) := Lib.hid (by rw [IntKind.wrap_i64]; omega)
              have pa : Hid (decide ((0 : Int) < (a : Int) + 1) = true) := Lib.hid (by rw [decide_eq_true_iff]; omega)
              have ia : Hid ((a : Int) < 11) := Lib.hid (by omega)
              have ik : Hid ((k : Int) < 4) := Lib.hid (by omega)
              have hpath := Lib.hid hpath
              clear hshade hK1 K1 hGl
              replace hlen := Lib.hid hlen
              replace hfour := Lib.hid hfour
              replace hold1 := Lib.hid hold1
              replace hk4 := Lib.hid hk4
              replace ha1 := Lib.hid ha1
              go_wp2_with fail
              have hS0 : (fun X : World => (∀ j, Gp j → X.heap[j]? = wr.heap[j]?) ∧ X.cell? ⟨wr.heap.size, 2, none⟩ = some (.int .u8 xb)) w3.drew := ⟨hg3.out, f2⟩
              refine wp_T (by kernel_rfl) 31 (fun X : World => (∀ j, Gp j → X.heap[j]? = wr.heap[j]?) ∧ X.cell? ⟨wr.heap.size, 2, none⟩ = some (.int .u8 xb)) ?_
              refine wpAnyT_takeW (i := 0) (v := .int .i64 ((a : Int) + 1)) rfl (by kernel_rfl) (fun _ _ _ hp => hp) (Or.inl ⟨by kernel_rfl, fun X _ => by go_simp⟩) hS0 ?_
              simp only [Act.put, List.setIfInBounds_toArray, List.set_cons_zero, List.set_cons_succ]
              refine wpAnyT_takeW (i := 1) (v := .bool true) rfl (by kernel_rfl) (fun _ _ _ hp => hp) (Or.inl ⟨by kernel_rfl, fun X _ => by have paz := pa.out; go_simp⟩) hS0 ?_
              simp only [Act.put, List.setIfInBounds_toArray, List.set_cons_zero, List.set_cons_succ]
              refine wpAnyT_takeW (i := 2) (v := .bool true) rfl (by kernel_rfl) (fun _ _ _ hp => hp) (Or.inl ⟨by kernel_rfl, fun X _ => by go_simp⟩) hS0 ?_
              simp only [Act.put, List.setIfInBounds_toArray, List.set_cons_zero, List.set_cons_succ]
              refine wpAnyT_takeW (i := 3) (v := .pointer (some ⟨q, 0, none⟩)) rfl (by kernel_rfl) (fun _ _ _ hp => hp) (Or.inl ⟨by kernel_rfl, fun X _ => by go_simp⟩) hS0 ?_
              simp only [Act.put, List.setIfInBounds_toArray, List.set_cons_zero, List.set_cons_succ]
              refine wpAnyT_takeW (i := 4) (v := .pointer (some ⟨q, 0, none⟩)) rfl (by kernel_rfl) (fun _ _ _ hp => hp) (Or.inl ⟨by kernel_rfl, fun X _ => by go_simp⟩) hS0 ?_
              simp only [Act.put, List.setIfInBounds_toArray, List.set_cons_zero, List.set_cons_succ]
              refine wpAnyT_takeW (i := 7) (v := .pointer (some ⟨q, 0, none⟩)) rfl (by kernel_rfl) (fun _ _ _ hp => hp) (Or.inl ⟨by kernel_rfl, fun X _ => by go_simp⟩) hS0 ?_
              simp only [Act.put, List.setIfInBounds_toArray, List.set_cons_zero, List.set_cons_succ]
              refine wpAnyT_takeW (i := 8) (v := .pointer (some ⟨q, 0, none⟩)) rfl (by kernel_rfl) (fun _ _ _ hp => hp) (Or.inl ⟨by kernel_rfl, fun X _ => by go_simp⟩) hS0 ?_
              simp only [Act.put, List.setIfInBounds_toArray, List.set_cons_zero, List.set_cons_succ]
              refine wpAnyT_takeW (i := 9) (v := .pointer (some ⟨q, 0, none⟩)) rfl (by kernel_rfl) (fun _ _ _ hp => hp) (Or.inl ⟨by kernel_rfl, fun X _ => by go_simp⟩) hS0 ?_
              simp only [Act.put, List.setIfInBounds_toArray, List.set_cons_zero, List.set_cons_succ]
              refine wpAnyT_takeW (i := 5) (v := .pointer (some ⟨q, 1, none⟩)) rfl (by kernel_rfl) (fun _ _ _ hp => hp) (Or.inl ⟨by kernel_rfl, fun X _ => by go_simp⟩) hS0 ?_
              simp only [Act.put, List.setIfInBounds_toArray, List.set_cons_zero, List.set_cons_succ]
              refine wpAnyT_takeW (i := 10) (v := .pointer (some ⟨q, 3, none⟩)) rfl (by kernel_rfl) (fun _ _ _ hp => hp) (Or.inl ⟨by kernel_rfl, fun X _ => by go_simp⟩) hS0 ?_
              simp only [Act.put, List.setIfInBounds_toArray, List.set_cons_zero, List.set_cons_succ]
              refine wpAnyT_takeW (i := 11) (v := .pointer (some ⟨q, 3, none⟩)) rfl (by kernel_rfl) (fun _ _ _ hp => hp) (Or.inl ⟨by kernel_rfl, fun X _ => by go_simp⟩) hS0 ?_
              simp only [Act.put, List.setIfInBounds_toArray, List.set_cons_zero, List.set_cons_succ]
              refine wpAnyT_takeW (i := 13) (v := .int .i64 ((a : Int) + 1)) rfl (by kernel_rfl) (fun _ _ _ hp => hp) (Or.inl ⟨by kernel_rfl, fun X _ => by go_simp⟩) hS0 ?_
              simp only [Act.put, List.setIfInBounds_toArray, List.set_cons_zero, List.set_cons_succ]
              refine wpAnyT_takeW (i := 14) (v := .int .i64 (a : Int)) rfl (by kernel_rfl) (fun _ _ _ hp => hp) (Or.inl ⟨by kernel_rfl, fun X _ => by have waz := wa.out; have wa1z := wa1.out; go_simp⟩) hS0 ?_
              simp only [Act.put, List.setIfInBounds_toArray, List.set_cons_zero, List.set_cons_succ]
              refine wpAnyT_takeW (i := 17) (v := .int .i64 (k : Int)) rfl (by kernel_rfl) (fun _ _ _ hp => hp) (Or.inl ⟨by kernel_rfl, fun X _ => by go_simp⟩) hS0 ?_
              simp only [Act.put, List.setIfInBounds_toArray, List.set_cons_zero, List.set_cons_succ]
              refine wpAnyT_takeC (i := 6) (v := .pointer (some ⟨m, 0, none⟩)) [21, 22, 23] rfl (by kernel_rfl) (fun _ _ _ hp => hp) (Or.inl ⟨by kernel_rfl, fun X hX => by have hX1 : (∀ j, Gp j → X.heap[j]? = wr.heap[j]?) := hX.1; have y1 := (hpath.out X hX1).1; go_simp⟩) hS0 ?_
              simp only [Act.put, List.setIfInBounds_toArray, List.set_cons_zero, List.set_cons_succ]
              refine wpAnyT_takeC (i := 12) (v := .slice (some ⟨bo, oo, none⟩) 11 co') [15, 16, 18, 19, 20, 21, 22, 23] rfl (by kernel_rfl) (fun _ _ _ hp => hp) (Or.inl ⟨by kernel_rfl, fun X hX => by have hX1 : (∀ j, Gp j → X.heap[j]? = wr.heap[j]?) := hX.1; have y1 := (hpath.out X hX1).2.1; go_simp⟩) hS0 ?_
              simp only [Act.put, List.setIfInBounds_toArray, List.set_cons_zero, List.set_cons_succ]
              refine wpAnyT_takeW (i := 15) (v := .pointer (some ⟨bo, oo + a, none⟩)) rfl (by kernel_rfl) (fun _ _ _ hp => hp) (Or.inl ⟨by kernel_rfl, fun X _ => by have iaz := ia.out; go_simp⟩) hS0 ?_
              simp only [Act.put, List.setIfInBounds_toArray, List.set_cons_zero, List.set_cons_succ]
              refine wpAnyT_takeC (i := 16) (v := .slice (some ⟨bl, ol, none⟩) 4 cl) [18, 19, 20, 21, 22, 23] rfl (by kernel_rfl) (fun _ _ _ hp => hp) (Or.inl ⟨by kernel_rfl, fun X hX => by have hX1 : (∀ j, Gp j → X.heap[j]? = wr.heap[j]?) := hX.1; have y1 := (hpath.out X hX1).2.2.1; go_simp⟩) hS0 ?_
              simp only [Act.put, List.setIfInBounds_toArray, List.set_cons_zero, List.set_cons_succ]
              refine wpAnyT_takeW (i := 18) (v := .pointer (some ⟨bl, ol + k, none⟩)) rfl (by kernel_rfl) (fun _ _ _ hp => hp) (Or.inl ⟨by kernel_rfl, fun X _ => by have ikz := ik.out; go_simp⟩) hS0 ?_
              simp only [Act.put, List.setIfInBounds_toArray, List.set_cons_zero, List.set_cons_succ]
              refine wpAnyT_takeC (i := 19) (v := .int .i64 old) [20, 21, 22, 23] rfl (by kernel_rfl) (fun _ _ _ hp => hp) (Or.inl ⟨by kernel_rfl, fun X hX => by have hX1 : (∀ j, Gp j → X.heap[j]? = wr.heap[j]?) := hX.1; have y1 := (hpath.out X hX1).2.2.2; go_simp⟩) hS0 ?_
              simp only [Act.put, List.setIfInBounds_toArray, List.set_cons_zero, List.set_cons_succ]
              refine wpAnyT_one (i := 20) rfl (by kernel_rfl) (by kernel_rfl) ?_
              intro K1 hK1
              go_simp
              refine (HP.out).mono ?_
              rintro e _ ⟨rfl, rfl⟩
              dsimp only
              refine hK1.out _ _ (fun _ => hS0) ?_
              (try simp only [Act.put, List.setIfInBounds_toArray, List.set_cons_zero, List.set_cons_succ])
              refine wpAnyT_one (i := 21) rfl (by kernel_rfl) (by kernel_rfl) ?_
              intro K2 hK2
              go_simp
              refine (HSh.out).mono ?_
              rintro e w4 ⟨rfl, ⟨K4, H4, ck4, on4⟩, hkp⟩
              dsimp only
              have hS4 : (∀ j, Gp j → w4.heap[j]? = wr.heap[j]?) ∧ w4.cell? ⟨wr.heap.size, 2, none⟩ = some (.int .u8 xb) := ⟨fun j hj => (hkp j hj).trans (hg3.out j hj), (World.cell?_of_block (H4.keeps (Nat.le_refl _) (by exact fgl))).trans f2⟩
              refine hK2.out _ _ (fun _ => hS4) ?_
              (try simp only [Act.put, List.setIfInBounds_toArray, List.set_cons_zero, List.set_cons_succ])
              refine wpAnyT_takeW (i := 22) (v := .bool false) rfl (by kernel_rfl) (fun _ _ _ hp => hp) (Or.inl ⟨by kernel_rfl, fun X _ => by go_simp⟩) hS4 ?_
              simp only [Act.put, List.setIfInBounds_toArray, List.set_cons_zero, List.set_cons_succ]
              refine wpAnyT_takeW (i := 23) (v := .bool false) rfl (by kernel_rfl) (fun _ _ _ hp => hp) (Or.inl ⟨by kernel_rfl, fun X _ => by go_simp⟩) hS4 ?_
              simp only [Act.put, List.setIfInBounds_toArray, List.set_cons_zero, List.set_cons_succ]
              refine wpAnyT_takeW (i := 24) (v := .pointer (some ⟨q, 0, none⟩)) rfl (by kernel_rfl) (fun _ _ _ hp => hp) (Or.inl ⟨by kernel_rfl, fun X _ => by go_simp⟩) hS4 ?_
              simp only [Act.put, List.setIfInBounds_toArray, List.set_cons_zero, List.set_cons_succ]
              refine wpAnyT_takeW (i := 25) (v := .int .i64 ((a : Int) + 1)) rfl (by kernel_rfl) (fun _ _ _ hp => hp) (Or.inl ⟨by kernel_rfl, fun X _ => by go_simp⟩) hS4 ?_
              simp only [Act.put, List.setIfInBounds_toArray, List.set_cons_zero, List.set_cons_succ]
              refine wpAnyT_takeW (i := 26) (v := .int .i64 (k : Int)) rfl (by kernel_rfl) (fun _ _ _ hp => hp) (Or.inl ⟨by kernel_rfl, fun X _ => by go_simp⟩) hS4 ?_
              simp only [Act.put, List.setIfInBounds_toArray, List.set_cons_zero, List.set_cons_succ]
              refine wpAnyT_takeW (i := 27) (v := .pointer (some ⟨wr.heap.size, 2, none⟩)) rfl (by kernel_rfl) (fun _ _ _ hp => hp) (Or.inl ⟨by kernel_rfl, fun X _ => by go_simp⟩) hS4 ?_
              simp only [Act.put, List.setIfInBounds_toArray, List.set_cons_zero, List.set_cons_succ]
              refine wpAnyT_takeC (i := 28) (v := .int .u8 xb) [29, 30] rfl (by kernel_rfl) (fun _ _ _ hp => hp) (Or.inl ⟨by kernel_rfl, fun X hX => by have y1 : X.cell? ⟨wr.heap.size, 2, none⟩ = some (.int .u8 xb) := hX.2; go_simp⟩) hS4 ?_
              simp only [Act.put, List.setIfInBounds_toArray, List.set_cons_zero, List.set_cons_succ]
              refine wpAnyT_takeW (i := 29) (v := .int .i64 xb) rfl (by kernel_rfl) (fun _ _ _ hp => hp) (Or.inl ⟨by kernel_rfl, fun X _ => by have wbz := wb.out; go_simp⟩) hS4 ?_
              simp only [Act.put, List.setIfInBounds_toArray, List.set_cons_zero, List.set_cons_succ]
              refine wpAnyT_takeW (i := 30) (v := .int .i64 (xb % 12)) rfl (by kernel_rfl) (fun _ _ _ hp => hp) (Or.inl ⟨by kernel_rfl, fun X _ => by have mbz := mb.out; have tbz := tb.out; go_simp⟩) hS4 ?_
              simp only [Act.put, List.setIfInBounds_toArray, List.set_cons_zero, List.set_cons_succ]
              have HSet := Lib.hid (lset H4 ((a : Int) + 1) (k : Int) (xb % 12) (by omega) (by omega) (by omega))
              refine wpAnyT_one (i := 31) rfl (by kernel_rfl) (by kernel_rfl) ?_
              intro K3 hK3
              go_simp
              refine (HSet.out).mono ?_
              rintro e w5 ⟨rfl, H5⟩
              dsimp only
              refine hK3.out _ _ (fun hh => absurd rfl hh) ?_
              (try simp only [Act.put, List.setIfInBounds_toArray, List.set_cons_zero, List.set_cons_succ])
              refine wpAnyT_lat2 (i := 32) rfl (by kernel_rfl) (by kernel_rfl) (by kernel_rfl) ?_
              intro K4 hK4
              go_simp
              refine hK4.out _ _ ?_
              (try simp only [Act.put, List.setIfInBounds_toArray, List.set_cons_zero, List.set_cons_succ])
              refine wpAnyT_lat2 (i := 33) rfl (by kernel_rfl) (by kernel_rfl) (by kernel_rfl) ?_
              intro K5 hK5
              go_simp
              refine hK5.out _ _ ?_
              (try simp only [Act.put, List.setIfInBounds_toArray, List.set_cons_zero, List.set_cons_succ])
              refine wpAnyT_lat2 (i := 34) rfl (by kernel_rfl) (by kernel_rfl) (by kernel_rfl) ?_
              intro K6 hK6
              go_simp
              refine hK6.out _ _ ?_
              (try simp only [Act.put, List.setIfInBounds_toArray, List.set_cons_zero, List.set_cons_succ])
              refine wpAnyT_done (by kernel_rfl) ?_ _
              (try simp only [Act.put, List.setIfInBounds_toArray, List.set_cons_zero, List.set_cons_succ])
              clear hK1 K1 hK2 K2 hK3 K3 hK4 K4 hK5 K5 hK6 K6
              have hs5 := Lib.hid (show CK 11 K4 (dShade X old) ∧ K4.on = true ∧ Snp ob0 11 ks (setO objs ((a : Int) + 1) (k : Int) (xb % 12)) (dShade X old) from ⟨ck4, on4, snp_set hlen.out hfour.out (snp_shade hs.out.2.2 old) _ _ _ (by omega) (by omega) (fun _ => by
                rw [show ((a : Int) + 1 - 1).toNat = a by omega, Int.toNat_natCast, hold1.out]
                by_cases h0 : old = 0
                · exact .inl h0
                · exact .inr ((shade_mem X old old).2 (.inr ⟨rfl, h0⟩)))⟩)
              have H6 := Lib.hid (H.out.unguard hb3.drew H5)
              clear HSet H5 H4 hkp hS4 hS0 HSh HP ck4 on4 hs H f2 fgl hb3 wb mb tb wa wa1 pa ia ik
              go_wp2_with fail
              go_roundw
              case rel => exact ⟨j + 1, _, _, _, by omega, by go_num, H6, hs5⟩
              case measure => simp [intOf]; omega

        · obtain rfl : j = l.length := by omega
          have HF := Lib.hid (lofin H.out X hs.out.1 hs.out.2.1)
          clear HO HV
          go_wp2_with fail
          refine HF.out.mono ?_
          rintro e w8 ⟨rfl, K9, X9, H8, ck9, hg9e, on9, hP⟩
          obtain ⟨S8, C8⟩ := H8.c
          have hsn : Snp ob0 11 ks objs X9 := hP (Snp ob0 11 ks objs) (fun Y hy ho hp => snp_step row0.out (fun i hi => C8.row hi) hy ho hp) hs.out.2.2
          have hcol : Hid (∀ i, i < 11 → (rReach ob0 11 ks).getD (i + 1) false = true → dColor X9 ((i : Int) + 1) = 2) := Lib.hid fun i hi hr => by
            have h1 := reach_iff hbd0.out rbd.out (b := (i : Int) + 1) (by omega) (by omega)
            rw [show ((i : Int) + 1).toNat = i + 1 by omega] at h1
            have h2 := snp_end hsn hg9e (h1.1 hr)
            have hon : X9.on = true := ck9.on ▸ on9
            unfold dColor
            rw [if_neg (by rw [hon]; simp), if_neg (by rw [hg9e]; simp), if_pos h2]
          have hHC : Hid (∀ (i : Nat), i < 11 → ∀ wx, Below w8.heap.size w8 wx → Calls Tryd.prog 21 #[.pointer (some ⟨m, 0, none⟩), .int .i64 (4 * (i : Int) + 1)] wx fun e w' => e = .returned (.int .i64 (dColor X9 ((i : Int) + 1))) ∧ wx = w') := Lib.hid fun i hi wx bx => locol (H8.below bx) X9 ck9 i hi
          have hr8 := hkeep.out _ _ _ H8
          have hb8 := b1.trans ((hgb.out ▸ H8.b).mono b1.size)
          obtain ⟨Ap, cp, hpf⟩ := H8.ptrs_far
          have p2 := (hpf w8 (Below.refl _ _)).1
          have p1 := H8.cells.2.1
          have hq8 := H8.cells.2.2.1
          have hpt : (ptrsN 11).length = 11 := ptrs_len 11
          have hlr : (rReach ob0 11 ks).length = 12 := by
            unfold rReach
            rw [List.length_set, rRounds_len, setBs_len]
            simp
          have hg98 : g9 < w8.heap.size := by
            by_cases h : g9 < w8.heap.size
            · exact h
            · exfalso
              rw [Array.getElem?_eq_none (by omega), Array.getElem?_eq_getElem hg9l] at hr8
              cases hr8
          replace hpf := Lib.hid hpf
          replace hb8 := Lib.hid hb8
          replace hr8 := Lib.hid hr8
          replace hpt := Lib.hid hpt
          replace hlr := Lib.hid hlr
          clear HF hP C8 hsn hs H H8 ck9 on9 hg9e bw
          go_wp2_with fail
          go_loopw [147] (fun i wr => ∃ j : Nat, j ≤ 11 ∧ i = .int .i64 j ∧ Below w8.heap.size w8 wr) (fun i _ => 11 - (intOf i).toNat)
          case atStart => exact ⟨0, by omega, rfl, Below.refl _ _⟩
          case round =>
            clear p2
            obtain ⟨j, hj, rfl, hbw⟩ := hrel
            by_cases hlt : j < 11
            · have t0 : (j : Int) < 11 := by omega
              have hjp : j < (ptrsN 11).length := by rw [hpt.out]; exact hlt
              have hpj : (ptrsN 11)[j] = 4 * (j : Int) + 1 := ptrs_at hjp
              obtain ⟨rch, hrch⟩ : ∃ rch, (rReach ob0 11 ks).getD (j + 1) false = rch := ⟨_, rfl⟩
              have cr1 : wr.cell? ⟨g9, j + 1, none⟩ = some (.bool rch) := by
                have := hown.out.cellAt (j + 1) (by omega)
                rw [World.cell?_of_block (hbw.block g9 hg98), World.cell?_of_block hr8.out, this, List.getElem?_map, List.getElem?_eq_getElem (by have := hlr.out; omega), ← hrch]
                simp [List.getD, List.getElem?_eq_getElem (show j + 1 < (rReach ob0 11 ks).length by have := hlr.out; omega)]
              obtain ⟨p2, rp⟩ := hpf.out wr hbw
              obtain ⟨bp, op, rfl, _, cpj⟩ := rp.at_ hjp
              rw [hpj] at cpj
              replace cpj : wr.cell? ⟨bp, op + j, none⟩ = some (.int .i64 (4 * (j : Int) + 1)) := cpj
              have p3 := (hbw.cell (p := ⟨q, 1, none⟩) hq8).trans p1
              have HC := Lib.hid (fun wx (bx : Below wr.heap.size wr wx) => hHC.out j hlt wx (hbw.trans (bx.mono hbw.size)))
              have hc2 := hcol.out j hlt
              rw [hrch] at hc2
              replace hrch := Lib.hid hrch
              clear hpj rp hjp
              have hj1 : (j : Int) + 1 < 12 := by omega
              cases rch with
              | false =>
                clear hc2
                go_wp2_with fail
                go_quiet (fail)
                have hb4 : Below w8.heap.size w8 (wr.drewN nq) := hbw.trans ((below_drewN (Below.refl _ _) nq).mono hbw.size)
                generalize wr.drewN nq = w10 at hb4 ⊢
                clear cr1 cpj p2 p3 HC hbw
                go_wp2_with fail
                go_roundw
                case rel => exact ⟨j + 1, by omega, by go_num, hb4⟩
                case measure => simp [intOf]; omega
              | true =>
                have hc3 := hc2 rfl
                rw [hc3] at HC
                clear hc2 hc3
                go_wp2_with fail
                go_quiet ((go_at_call 21; exact Calls.quiet_of_same ((HC.out _ (below_drewN (Below.refl _ _) _)).mono fun _ _ h => ⟨h.1, h.2.symm⟩)))
                have hb4 : Below w8.heap.size w8 (wr.drewN nq) := hbw.trans ((below_drewN (Below.refl _ _) nq).mono hbw.size)
                generalize wr.drewN nq = w10 at hb4 ⊢
                clear cr1 cpj p2 p3 HC hbw
                go_wp2_with fail
                go_roundw
                case rel => exact ⟨j + 1, by omega, by go_num, hb4⟩
                case measure => simp [intOf]; omega
            · obtain rfl : j = 11 := by omega
              have hb10 := Lib.hid (hb8.out.trans (hbw.mono hb8.out.size))
              clear hbw
              go_wp2_with fail
              go_ret
              exact ⟨rfl, hb10.out⟩
end Go.Proofs.YtnoiepmapmcjdaaDoor
