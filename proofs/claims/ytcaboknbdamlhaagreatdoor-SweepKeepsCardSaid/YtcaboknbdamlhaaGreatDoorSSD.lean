/- Joined: SweepDoesA, SweepDoesB, SweepDoesC, SweepDoesD. -/
import Derived.Test.YtcaboknbdamlhaaGreatDoorSSR
set_option linter.unusedVariables false
set_option linter.unusedSimpArgs false
namespace Go.Proofs.YtcaboknbdamlhaaGreatDoor
open Go.RowKit Go.Shelf
section
variable {w0 : W0} {w w' w1 : World} {q s h m : Nat} {T : SS} {D : DS}
set_option maxHeartbeats 6400000 in
set_option maxRecDepth 100000 in
theorem sdoes_alloc (H : LX w0 w q s h m T D) (ID : Inv D.S) (dl : DLen D) (kind xa xb xk x : Int) (Av : Option Addr) (nv cv : Nat) (hx : ABd kind xa xb xk x) (hk : kind % 8 = 1) :
    Calls Tryz.prog 12 #[.pointer (some ⟨q, 0, none⟩), .agg #[.int .u8 kind, .int .u8 xa, .int .u8 xb, .int .u8 xk, .slice Av nv cv, .int .i64 x]] w (DidX w0 q s h m (qAlloc T 2 3 0).1 (uAlloc D 2 3 0).1 ((uAlloc D 2 3 0).2 = (qAlloc T 2 3 0).2)) := by
  have hd := hx.kind
  have hkk := hx.k
  have hxx := Lib.hid hx.x
  obtain ⟨a, ha⟩ : ∃ a, objN T.S xa = a := ⟨_, rfl⟩
  obtain ⟨b, hb⟩ : ∃ b, objN T.S xb = b := ⟨_, rfl⟩
  have hab := Lib.hid (objN_bd H.inv.toInv0 xa)
  have hbb := Lib.hid (objN_bd H.inv.toInv0 xb)
  rw [ha] at hab
  rw [hb] at hbb
  obtain ⟨wu, hwu⟩ : ∃ wu : W0, wu = w0 := ⟨_, rfl⟩
  rw [← hwu]
  replace H := Lib.hid H
  replace hx := Lib.hid hx
  replace ID := Lib.hid ID
  replace dl := Lib.hid dl
  go_enter Tryz.func12, Tryz.ntmps12
  go_wp2_with (refine wpList_new rfl (.box 30 (.tmp 1)) rfl w.heap.size rfl 30 #[.int .u8 kind, .int .u8 xa, .int .u8 xb, .int .u8 xk, .slice Av nv cv, .int .i64 x] (by kernel_rfl) ?_; intro w1 hs1 hb1 hB1; refine stop_here ?_)
  have e1 : w1.cell? ⟨w.heap.size, 1, none⟩ = some (.int .u8 xa) := hB1.cell 1
  have e2 : w1.cell? ⟨w.heap.size, 2, none⟩ = some (.int .u8 xb) := hB1.cell 2
  have HO1 := Lib.hid fun wx (hb : Below w.heap.size w wx) => lx_object (H.out.below hb) xa hx.out.a
  have HO2 := Lib.hid fun wx (hb : Below w.heap.size w wx) => lx_object (H.out.below hb) xb hx.out.b
  rw [ha] at HO1
  rw [hb] at HO2
  have hgl := hB1.lt
  obtain ⟨g, hg⟩ : ∃ g, g = w.heap.size := ⟨_, rfl⟩
  rw [← hg] at e1 e2 hgl hB1 ⊢
  replace hg := Lib.hid hg
  replace hB1 := Lib.hid hB1
  replace ha := Lib.hid ha
  replace hb := Lib.hid hb
  refine go_on ?_
  go_wp2_with fail
  have hS0 : (fun X : World => Below w1.heap.size w1 X) w1.drew := (Below.refl _ _).drew
  refine wp_T (by kernel_rfl) 10 (fun X : World => Below w1.heap.size w1 X) ?_
  refine wpAnyT_takeA (i := 0) (v := .pointer (some ⟨q, 0, none⟩)) rfl (by kernel_rfl) rfl (fun _ _ _ hp => hp) (Or.inl ⟨by kernel_rfl, fun X _ => by go_simp⟩) hS0 ?_
  simp only [Act.put, List.getElem_toArray, List.getElem_cons_succ, List.getElem_cons_zero, List.setIfInBounds_toArray, List.set_cons_zero, List.set_cons_succ]
  refine wpAnyT_takeA (i := 1) (v := .pointer (some ⟨g, 1, none⟩)) rfl (by kernel_rfl) rfl (fun _ _ _ hp => hp) (Or.inl ⟨by kernel_rfl, fun X _ => by go_simp⟩) hS0 ?_
  simp only [Act.put, List.getElem_toArray, List.getElem_cons_succ, List.getElem_cons_zero, List.setIfInBounds_toArray, List.set_cons_zero, List.set_cons_succ]
  refine wpAnyT_takeA (i := 4) (v := .pointer (some ⟨q, 0, none⟩)) rfl (by kernel_rfl) rfl (fun _ _ _ hp => hp) (Or.inl ⟨by kernel_rfl, fun X _ => by go_simp⟩) hS0 ?_
  simp only [Act.put, List.getElem_toArray, List.getElem_cons_succ, List.getElem_cons_zero, List.setIfInBounds_toArray, List.set_cons_zero, List.set_cons_succ]
  refine wpAnyT_takeA (i := 5) (v := .pointer (some ⟨g, 2, none⟩)) rfl (by kernel_rfl) rfl (fun _ _ _ hp => hp) (Or.inl ⟨by kernel_rfl, fun X _ => by go_simp⟩) hS0 ?_
  simp only [Act.put, List.getElem_toArray, List.getElem_cons_succ, List.getElem_cons_zero, List.setIfInBounds_toArray, List.set_cons_zero, List.set_cons_succ]
  refine wpAnyT_takeA (i := 2) (v := .int .u8 xa) rfl (by kernel_rfl) rfl (fun _ _ _ hp => hp) (Or.inl ⟨by kernel_rfl, fun X hX => by have hX1 : (fun X : World => Below w1.heap.size w1 X) X := hX; have y1 := (Below.cell (p := ⟨g, 1, none⟩) hX1 hgl).trans e1; go_simp⟩) hS0 ?_
  simp only [Act.put, List.getElem_toArray, List.getElem_cons_succ, List.getElem_cons_zero, List.setIfInBounds_toArray, List.set_cons_zero, List.set_cons_succ]
  refine wpAnyT_takeA (i := 6) (v := .int .u8 xb) rfl (by kernel_rfl) rfl (fun _ _ _ hp => hp) (Or.inl ⟨by kernel_rfl, fun X hX => by have hX1 : (fun X : World => Below w1.heap.size w1 X) X := hX; have y1 := (Below.cell (p := ⟨g, 2, none⟩) hX1 hgl).trans e2; go_simp⟩) hS0 ?_
  simp only [Act.put, List.getElem_toArray, List.getElem_cons_succ, List.getElem_cons_zero, List.setIfInBounds_toArray, List.set_cons_zero, List.set_cons_succ]
  refine wpAnyT_one (i := 3) rfl (by kernel_rfl) (by kernel_rfl) ?_
  intro K1 hK1
  go_simp
  refine (HO1.out _ (hb1.trans (Below.mono hS0 hb1.size))).mono ?_
  rintro e w2 ⟨rfl, bb0⟩
  dsimp only
  have hS1 : (fun X : World => Below w1.heap.size w1 X) w2 := Below.trans hS0 (Below.mono bb0 (Below.size hS0))
  refine hK1.out _ _ (fun _ => hS1) ?_
  (try simp only [Act.put, List.getElem_toArray, List.getElem_cons_succ, List.getElem_cons_zero, List.setIfInBounds_toArray, List.set_cons_zero, List.set_cons_succ])
  refine wpAnyT_one (i := 7) rfl (by kernel_rfl) (by kernel_rfl) ?_
  intro K2 hK2
  go_simp
  refine (HO2.out _ (hb1.trans (Below.mono hS1 hb1.size))).mono ?_
  rintro e w3 ⟨rfl, bb1⟩
  dsimp only
  have hS2 : (fun X : World => Below w1.heap.size w1 X) w3 := Below.trans hS1 (Below.mono bb1 (Below.size hS1))
  refine hK2.out _ _ (fun _ => hS2) ?_
  (try simp only [Act.put, List.getElem_toArray, List.getElem_cons_succ, List.getElem_cons_zero, List.setIfInBounds_toArray, List.set_cons_zero, List.set_cons_succ])
  refine wpAnyT_takeA (i := 8) (v := .int .i64 a) rfl (by kernel_rfl) rfl (fun _ _ _ hp => hp) (Or.inl ⟨by kernel_rfl, fun X _ => by go_simp⟩) hS2 ?_
  simp only [Act.put, List.getElem_toArray, List.getElem_cons_succ, List.getElem_cons_zero, List.setIfInBounds_toArray, List.set_cons_zero, List.set_cons_succ]
  refine wpAnyT_takeA (i := 9) (v := .int .i64 b) rfl (by kernel_rfl) rfl (fun _ _ _ hp => hp) (Or.inl ⟨by kernel_rfl, fun X _ => by go_simp⟩) hS2 ?_
  simp only [Act.put, List.getElem_toArray, List.getElem_cons_succ, List.getElem_cons_zero, List.setIfInBounds_toArray, List.set_cons_zero, List.set_cons_succ]
  refine wpAnyT_done (by kernel_rfl) ?_ _
  (try simp only [Act.put, List.getElem_toArray, List.getElem_cons_succ, List.getElem_cons_zero, List.setIfInBounds_toArray, List.set_cons_zero, List.set_cons_succ])
  clear hK1 K1 hK2 K2
  have b3 : Below w.heap.size w w3 := hb1.trans (Below.mono hS2 hb1.size)
  clear bb0 bb1
  have Hg := Lib.hid (H.out.guard b3)
  have E3 := Lib.hid (hB1.out.below (show Below w1.heap.size w1 w3 from hS2) hgl)
  have hg3 := E3.out.lt
  have hgw : w.heap.size ≤ g := Nat.le_of_eq hg.out.symm
  have hun : Hid (∀ {X : World} {T' : SS} {D' : DS}, LX (w0.guard w w3) X q s h m T' D' → LX w0 X q s h m T' D') := Lib.hid fun hX => H.out.unguard b3 hX
  have e0 : w3.cell? ⟨g, 0, none⟩ = some (.int .u8 kind) := E3.out.cell 0
  have e3 : w3.cell? ⟨g, 3, none⟩ = some (.int .u8 xk) := E3.out.cell 3
  have e5 : w3.cell? ⟨g, 5, none⟩ = some (.int .i64 x) := E3.out.cell 5
  subst hwu
  replace b3 := Lib.hid b3
  clear hS0 hS1 hS2 HO1 HO2 hB1 e1 e2 hs1 hb1 hgl H
  obtain ⟨Q, V, hQ, xv, hat, hput⟩ := lx_open Hg.out
  have SZ := Lib.hid r18_size
  have HC := Lib.hid fun (Q' : Nat → Prop) wx (hxv : XV Q' wx D V) (hq : New Q' wx) => rAlloc18 hxv hq ID.out 2 3 0 (by omega) dl.out.b
  replace hat := Lib.hid hat
  replace hput := Lib.hid hput
  replace hQ := Lib.hid hQ
  replace xv := Lib.hid xv
  obtain ⟨⟨D1, p1, r1⟩, hD1⟩ : ∃ r, uAlloc D 2 3 0 = r := ⟨_, rfl⟩
  rw [hD1] at HC
  dsimp only at HC
  go_wp2_with (refine wpList_load_mid rfl 42 (.tmp 67) rfl q 1 rfl [V.vw, V.vc, V.f 0, V.f 1, V.f 2, V.f 3, V.vo, V.vg, V.vb, .int .i64 D.ph, V.vl, .int .i64 D.cyc] _ (hat.out w3 (Below.refl _ _)) Tryz.underlying42 rfl SZ.out ?_)
  refine (HC.out Q w3 xv.out hQ.out).mono ?_
  rintro e w4 ⟨V4, rfl, xv4, b4⟩
  have ON4 := Lib.hid (xv4.one (D1).ph (D1).cyc)
  have hs4 := b4.size
  clear HC
  go_wp2_with (first
    | (refine wpList_new rfl (.alloc 42) rfl w4.heap.size rfl 42 n18 (by kernel_rfl) ?_; intro w5 hs5 hb5 hB5; have HB5 := Lib.hid hB5; clear hB5)
    | (refine wpList_store_blk rfl 42 (.tmp 10) (.tmp 70) rfl w4.heap.size rfl (c18 V4 (D1).ph (D1).cyc) rfl 42 n18 HB5.out SZ.out rfl ON4.out ?_; intro w6 hB6 hg6 hs6; refine stop_here ?_))
  have b46 : Below w4.heap.size w4 w6 := hb5.grown hg6 hb5.size (fun k hk => by cases hk; exact Nat.le_refl _)
  have b6 : Below w3.heap.size w3 w6 := b4.trans (b46.mono hs4)
  have xv6 := Lib.hid (xv4.below b46)
  obtain ⟨gB, hgB⟩ : ∃ gB, gB = w4.heap.size := ⟨_, rfl⟩
  rw [← hgB] at hB6 ⊢
  replace hgB := Lib.hid hgB
  clear HB5 hs5 hb5 hg6 hs6 b46 xv4 b4
  refine go_on ?_
  obtain ⟨ht, hz7, ho7, H7⟩ := hput.out w6 _ V4 b6 xv6.out
  have ht4 : w6.there q 1 (c18 V4 (D1).ph (D1).cyc).size := ht
  replace hB6 := Lib.hid hB6
  replace ht4 := Lib.hid ht4
  replace H7 := Lib.hid H7
  replace hz7 := Lib.hid hz7
  replace ho7 := Lib.hid ho7
  clear ht
  go_wp2_with (first
    | (refine wpList_load_blk rfl 42 (.tmp 10) rfl gB rfl 42 (c18 V4 (D1).ph (D1).cyc) hB6.out _ Tryz.underlying42 rfl SZ.out ?_)
    | (refine wpList_store_mid rfl 42 (.tmp 76) (.tmp 74) rfl q 1 (c18 V4 (D1).ph (D1).cyc) rfl rfl ht4.out SZ.out ON4.out ?_; refine stop_here ?_))
  obtain ⟨w7, hw7⟩ : ∃ w7, w7 = w6.setCells q 1 (c18 V4 (D1).ph (D1).cyc).toList := ⟨_, rfl⟩
  rw [← hw7] at H7 hz7 ho7 ⊢
  replace hw7 := Lib.hid hw7
  have c0 := H7.out.cells.1
  clear hB6 ht4 hput xv6 b6 ON4
  refine go_on ?_
  have hpb : Hid (-9223372036854775808 ≤ (sAlloc T.S 2 3 0).2.1 ∧ (sAlloc T.S 2 3 0).2.1 ≤ 9223372036854775807) := Lib.hid (alloc_bd H7.out.inv)
  have HA := Lib.hid (H7.out.call (P := fun e _ => e = .returned (.tuple #[.int .i64 (qAlloc T 2 3 0).2.1, .int .i64 (qAlloc T 2 3 0).2.2])) (T' := (qAlloc T 2 3 0).1) fun v0 L => ls_alloc L 2 3 0 (by omega) (by omega) hpb.out)
  obtain ⟨⟨T1, p2, r2⟩, hT1⟩ : ∃ r, qAlloc T 2 3 0 = r := ⟨_, rfl⟩
  rw [hT1] at HA
  dsimp only at HA
  go_wp2_with fail
  refine HA.out.mono ?_
  rintro e w8 ⟨rfl, H8⟩
  have H9 := Lib.hid (hun.out H8)
  clear HA H8 H7 hun hat Hg
  by_cases hp : p1 = p2
  · subst hp
    by_cases hr : r1 = r2
    · subst hr
      go_wp2_with fail
      go_ret
      exact ⟨true, rfl, fun _ => rfl, by rw [hT1, hD1]; exact H9.out⟩
    · have z1 : (r2 == r1) = false := beq_eq_false_iff_ne.2 fun e => hr e.symm
      have z2 : ¬ r2 = r1 := fun e => hr e.symm
      go_wp2_with fail
      go_ret
      exact ⟨false, rfl, fun he => absurd (by rw [hD1, hT1] at he; exact (Prod.mk.inj he).2) hr, by rw [hT1, hD1]; exact H9.out⟩
  · have z1 : (p1 == p2) = false := beq_eq_false_iff_ne.2 hp
    go_wp2_with fail
    go_ret
    exact ⟨false, rfl, fun he => absurd (by rw [hD1, hT1] at he; exact (Prod.mk.inj he).1) hp, by rw [hT1, hD1]; exact H9.out⟩
end
end Go.Proofs.YtcaboknbdamlhaaGreatDoor
namespace Go.Proofs.YtcaboknbdamlhaaGreatDoor
open Go.RowKit Go.Shelf
section
variable {w0 : W0} {w w' w1 : World} {q s h m : Nat} {T : SS} {D : DS}
set_option maxHeartbeats 6400000 in
set_option maxRecDepth 100000 in
theorem sdoes_shade (H : LX w0 w q s h m T D) (ID : Inv D.S) (dl : DLen D) (kind xa xb xk x : Int) (Av : Option Addr) (nv cv : Nat) (hx : ABd kind xa xb xk x) (hk : kind % 8 = 7) :
    Calls Tryz.prog 12 #[.pointer (some ⟨q, 0, none⟩), .agg #[.int .u8 kind, .int .u8 xa, .int .u8 xb, .int .u8 xk, .slice Av nv cv, .int .i64 x]] w (DidX w0 q s h m (qShade T (objN T.S xa)) (uSh D (objN T.S xa)).1 ((uSh D (objN T.S xa)).2 = (mKnown T.S T.K (objN T.S xa)).2)) := by
  have hd := hx.kind
  have hkk := hx.k
  have hxx := Lib.hid hx.x
  obtain ⟨a, ha⟩ : ∃ a, objN T.S xa = a := ⟨_, rfl⟩
  obtain ⟨b, hb⟩ : ∃ b, objN T.S xb = b := ⟨_, rfl⟩
  have hab := Lib.hid (objN_bd H.inv.toInv0 xa)
  have hbb := Lib.hid (objN_bd H.inv.toInv0 xb)
  rw [ha] at hab
  rw [hb] at hbb
  obtain ⟨wu, hwu⟩ : ∃ wu : W0, wu = w0 := ⟨_, rfl⟩
  rw [← hwu]
  replace H := Lib.hid H
  replace hx := Lib.hid hx
  replace ID := Lib.hid ID
  replace dl := Lib.hid dl
  rw [ha]
  go_enter Tryz.func12, Tryz.ntmps12
  go_wp2_with (refine wpList_new rfl (.box 30 (.tmp 1)) rfl w.heap.size rfl 30 #[.int .u8 kind, .int .u8 xa, .int .u8 xb, .int .u8 xk, .slice Av nv cv, .int .i64 x] (by kernel_rfl) ?_; intro w1 hs1 hb1 hB1; refine stop_here ?_)
  have e1 : w1.cell? ⟨w.heap.size, 1, none⟩ = some (.int .u8 xa) := hB1.cell 1
  have e2 : w1.cell? ⟨w.heap.size, 2, none⟩ = some (.int .u8 xb) := hB1.cell 2
  have HO1 := Lib.hid fun wx (hb : Below w.heap.size w wx) => lx_object (H.out.below hb) xa hx.out.a
  have HO2 := Lib.hid fun wx (hb : Below w.heap.size w wx) => lx_object (H.out.below hb) xb hx.out.b
  rw [ha] at HO1
  rw [hb] at HO2
  have hgl := hB1.lt
  obtain ⟨g, hg⟩ : ∃ g, g = w.heap.size := ⟨_, rfl⟩
  rw [← hg] at e1 e2 hgl hB1 ⊢
  replace hg := Lib.hid hg
  replace hB1 := Lib.hid hB1
  replace ha := Lib.hid ha
  replace hb := Lib.hid hb
  refine go_on ?_
  go_wp2_with fail
  have hS0 : (fun X : World => Below w1.heap.size w1 X) w1.drew := (Below.refl _ _).drew
  refine wp_T (by kernel_rfl) 10 (fun X : World => Below w1.heap.size w1 X) ?_
  refine wpAnyT_takeA (i := 0) (v := .pointer (some ⟨q, 0, none⟩)) rfl (by kernel_rfl) rfl (fun _ _ _ hp => hp) (Or.inl ⟨by kernel_rfl, fun X _ => by go_simp⟩) hS0 ?_
  simp only [Act.put, List.getElem_toArray, List.getElem_cons_succ, List.getElem_cons_zero, List.setIfInBounds_toArray, List.set_cons_zero, List.set_cons_succ]
  refine wpAnyT_takeA (i := 1) (v := .pointer (some ⟨g, 1, none⟩)) rfl (by kernel_rfl) rfl (fun _ _ _ hp => hp) (Or.inl ⟨by kernel_rfl, fun X _ => by go_simp⟩) hS0 ?_
  simp only [Act.put, List.getElem_toArray, List.getElem_cons_succ, List.getElem_cons_zero, List.setIfInBounds_toArray, List.set_cons_zero, List.set_cons_succ]
  refine wpAnyT_takeA (i := 4) (v := .pointer (some ⟨q, 0, none⟩)) rfl (by kernel_rfl) rfl (fun _ _ _ hp => hp) (Or.inl ⟨by kernel_rfl, fun X _ => by go_simp⟩) hS0 ?_
  simp only [Act.put, List.getElem_toArray, List.getElem_cons_succ, List.getElem_cons_zero, List.setIfInBounds_toArray, List.set_cons_zero, List.set_cons_succ]
  refine wpAnyT_takeA (i := 5) (v := .pointer (some ⟨g, 2, none⟩)) rfl (by kernel_rfl) rfl (fun _ _ _ hp => hp) (Or.inl ⟨by kernel_rfl, fun X _ => by go_simp⟩) hS0 ?_
  simp only [Act.put, List.getElem_toArray, List.getElem_cons_succ, List.getElem_cons_zero, List.setIfInBounds_toArray, List.set_cons_zero, List.set_cons_succ]
  refine wpAnyT_takeA (i := 2) (v := .int .u8 xa) rfl (by kernel_rfl) rfl (fun _ _ _ hp => hp) (Or.inl ⟨by kernel_rfl, fun X hX => by have hX1 : (fun X : World => Below w1.heap.size w1 X) X := hX; have y1 := (Below.cell (p := ⟨g, 1, none⟩) hX1 hgl).trans e1; go_simp⟩) hS0 ?_
  simp only [Act.put, List.getElem_toArray, List.getElem_cons_succ, List.getElem_cons_zero, List.setIfInBounds_toArray, List.set_cons_zero, List.set_cons_succ]
  refine wpAnyT_takeA (i := 6) (v := .int .u8 xb) rfl (by kernel_rfl) rfl (fun _ _ _ hp => hp) (Or.inl ⟨by kernel_rfl, fun X hX => by have hX1 : (fun X : World => Below w1.heap.size w1 X) X := hX; have y1 := (Below.cell (p := ⟨g, 2, none⟩) hX1 hgl).trans e2; go_simp⟩) hS0 ?_
  simp only [Act.put, List.getElem_toArray, List.getElem_cons_succ, List.getElem_cons_zero, List.setIfInBounds_toArray, List.set_cons_zero, List.set_cons_succ]
  refine wpAnyT_one (i := 3) rfl (by kernel_rfl) (by kernel_rfl) ?_
  intro K1 hK1
  go_simp
  refine (HO1.out _ (hb1.trans (Below.mono hS0 hb1.size))).mono ?_
  rintro e w2 ⟨rfl, bb0⟩
  dsimp only
  have hS1 : (fun X : World => Below w1.heap.size w1 X) w2 := Below.trans hS0 (Below.mono bb0 (Below.size hS0))
  refine hK1.out _ _ (fun _ => hS1) ?_
  (try simp only [Act.put, List.getElem_toArray, List.getElem_cons_succ, List.getElem_cons_zero, List.setIfInBounds_toArray, List.set_cons_zero, List.set_cons_succ])
  refine wpAnyT_one (i := 7) rfl (by kernel_rfl) (by kernel_rfl) ?_
  intro K2 hK2
  go_simp
  refine (HO2.out _ (hb1.trans (Below.mono hS1 hb1.size))).mono ?_
  rintro e w3 ⟨rfl, bb1⟩
  dsimp only
  have hS2 : (fun X : World => Below w1.heap.size w1 X) w3 := Below.trans hS1 (Below.mono bb1 (Below.size hS1))
  refine hK2.out _ _ (fun _ => hS2) ?_
  (try simp only [Act.put, List.getElem_toArray, List.getElem_cons_succ, List.getElem_cons_zero, List.setIfInBounds_toArray, List.set_cons_zero, List.set_cons_succ])
  refine wpAnyT_takeA (i := 8) (v := .int .i64 a) rfl (by kernel_rfl) rfl (fun _ _ _ hp => hp) (Or.inl ⟨by kernel_rfl, fun X _ => by go_simp⟩) hS2 ?_
  simp only [Act.put, List.getElem_toArray, List.getElem_cons_succ, List.getElem_cons_zero, List.setIfInBounds_toArray, List.set_cons_zero, List.set_cons_succ]
  refine wpAnyT_takeA (i := 9) (v := .int .i64 b) rfl (by kernel_rfl) rfl (fun _ _ _ hp => hp) (Or.inl ⟨by kernel_rfl, fun X _ => by go_simp⟩) hS2 ?_
  simp only [Act.put, List.getElem_toArray, List.getElem_cons_succ, List.getElem_cons_zero, List.setIfInBounds_toArray, List.set_cons_zero, List.set_cons_succ]
  refine wpAnyT_done (by kernel_rfl) ?_ _
  (try simp only [Act.put, List.getElem_toArray, List.getElem_cons_succ, List.getElem_cons_zero, List.setIfInBounds_toArray, List.set_cons_zero, List.set_cons_succ])
  clear hK1 K1 hK2 K2
  have b3 : Below w.heap.size w w3 := hb1.trans (Below.mono hS2 hb1.size)
  clear bb0 bb1
  have Hg := Lib.hid (H.out.guard b3)
  have E3 := Lib.hid (hB1.out.below (show Below w1.heap.size w1 w3 from hS2) hgl)
  have hg3 := E3.out.lt
  have hgw : w.heap.size ≤ g := Nat.le_of_eq hg.out.symm
  have hun : Hid (∀ {X : World} {T' : SS} {D' : DS}, LX (w0.guard w w3) X q s h m T' D' → LX w0 X q s h m T' D') := Lib.hid fun hX => H.out.unguard b3 hX
  have e0 : w3.cell? ⟨g, 0, none⟩ = some (.int .u8 kind) := E3.out.cell 0
  have e3 : w3.cell? ⟨g, 3, none⟩ = some (.int .u8 xk) := E3.out.cell 3
  have e5 : w3.cell? ⟨g, 5, none⟩ = some (.int .i64 x) := E3.out.cell 5
  subst hwu
  replace b3 := Lib.hid b3
  clear hS0 hS1 hS2 HO1 HO2 hB1 e1 e2 hs1 hb1 hgl H
  obtain ⟨Q, V, hQ, xv, hat, hput⟩ := lx_open Hg.out
  have SZ := Lib.hid r18_size
  have HC := Lib.hid fun (Q' : Nat → Prop) wx (hxv : XV Q' wx D V) (hq : New Q' wx) => rSh18 hxv hq ID.out.toInv0 a dl.out.g (Nat.le_trans dl.out.b (by omega))
  replace hat := Lib.hid hat
  replace hput := Lib.hid hput
  replace hQ := Lib.hid hQ
  replace xv := Lib.hid xv
  obtain ⟨⟨D1, r1⟩, hD1⟩ : ∃ r, uSh D a = r := ⟨_, rfl⟩
  rw [hD1] at HC
  dsimp only at HC
  go_wp2_with (refine wpList_load_mid rfl 42 (.tmp 134) rfl q 1 rfl [V.vw, V.vc, V.f 0, V.f 1, V.f 2, V.f 3, V.vo, V.vg, V.vb, .int .i64 D.ph, V.vl, .int .i64 D.cyc] _ (hat.out w3 (Below.refl _ _)) Tryz.underlying42 rfl SZ.out ?_)
  refine (HC.out Q w3 xv.out hQ.out).mono ?_
  rintro e w4 ⟨V4, rfl, xv4, b4⟩
  have ON4 := Lib.hid (xv4.one (D1).ph (D1).cyc)
  have hs4 := b4.size
  clear HC
  go_wp2_with (first
    | (refine wpList_new rfl (.alloc 42) rfl w4.heap.size rfl 42 n18 (by kernel_rfl) ?_; intro w5 hs5 hb5 hB5; have HB5 := Lib.hid hB5; clear hB5)
    | (refine wpList_store_blk rfl 42 (.tmp 20) (.tmp 138) rfl w4.heap.size rfl (c18 V4 (D1).ph (D1).cyc) rfl 42 n18 HB5.out SZ.out rfl ON4.out ?_; intro w6 hB6 hg6 hs6; refine stop_here ?_))
  have b46 : Below w4.heap.size w4 w6 := hb5.grown hg6 hb5.size (fun k hk => by cases hk; exact Nat.le_refl _)
  have b6 : Below w3.heap.size w3 w6 := b4.trans (b46.mono hs4)
  have xv6 := Lib.hid (xv4.below b46)
  obtain ⟨gB, hgB⟩ : ∃ gB, gB = w4.heap.size := ⟨_, rfl⟩
  rw [← hgB] at hB6 ⊢
  replace hgB := Lib.hid hgB
  clear HB5 hs5 hb5 hg6 hs6 b46 xv4 b4
  refine go_on ?_
  obtain ⟨ht, hz7, ho7, H7⟩ := hput.out w6 _ V4 b6 xv6.out
  have ht4 : w6.there q 1 (c18 V4 (D1).ph (D1).cyc).size := ht
  replace hB6 := Lib.hid hB6
  replace ht4 := Lib.hid ht4
  replace H7 := Lib.hid H7
  replace hz7 := Lib.hid hz7
  replace ho7 := Lib.hid ho7
  clear ht
  go_wp2_with (first
    | (refine wpList_load_blk rfl 42 (.tmp 20) rfl gB rfl 42 (c18 V4 (D1).ph (D1).cyc) hB6.out _ Tryz.underlying42 rfl SZ.out ?_)
    | (refine wpList_store_mid rfl 42 (.tmp 143) (.tmp 141) rfl q 1 (c18 V4 (D1).ph (D1).cyc) rfl rfl ht4.out SZ.out ON4.out ?_; refine stop_here ?_))
  obtain ⟨w7, hw7⟩ : ∃ w7, w7 = w6.setCells q 1 (c18 V4 (D1).ph (D1).cyc).toList := ⟨_, rfl⟩
  rw [← hw7] at H7 hz7 ho7 ⊢
  replace hw7 := Lib.hid hw7
  have c0 := H7.out.cells.1
  clear hB6 ht4 hput xv6 b6 ON4
  refine go_on ?_
  have HA := Lib.hid (H7.out.call (P := fun e _ => e = .returned (.int .i64 (mKnown T.S T.K a).2)) (T' := qShade T a) fun v0 L => ls_shade L a (by have := hab.out; omega))
  obtain ⟨r2, hr2⟩ : ∃ r, (mKnown T.S T.K a).2 = r := ⟨_, rfl⟩
  rw [hr2] at HA
  go_wp2_with fail
  refine HA.out.mono ?_
  rintro e w8 ⟨rfl, H8⟩
  have H9 := Lib.hid (hun.out H8)
  clear HA H8 H7 hun hat Hg
  by_cases hr : r1 = r2
  · subst hr
    go_wp2_with fail
    go_ret
    exact ⟨_, rfl, fun _ => by simp, by rw [hD1]; exact H9.out⟩
  · have z1 : (r2 == r1) = false := beq_eq_false_iff_ne.2 fun e => hr e.symm
    go_wp2_with fail
    go_ret
    exact ⟨_, rfl, fun he => absurd (by rw [hD1, hr2] at he; exact he) hr, by rw [hD1]; exact H9.out⟩
end
end Go.Proofs.YtcaboknbdamlhaaGreatDoor
namespace Go.Proofs.YtcaboknbdamlhaaGreatDoor
open Go.RowKit Go.Shelf
section
variable {w0 : W0} {w w' w1 : World} {q s h m : Nat} {T : SS} {D : DS}
set_option maxHeartbeats 6400000 in
set_option maxRecDepth 100000 in
theorem sdoes_put (H : LX w0 w q s h m T D) (ID : Inv D.S) (dl : DLen D) (kind xa xb xk x : Int) (Av : Option Addr) (nv cv : Nat) (hx : ABd kind xa xb xk x) (hk : kind % 8 = 4 ∨ kind % 8 = 5 ∨ kind % 8 = 6) :
    Calls Tryz.prog 12 #[.pointer (some ⟨q, 0, none⟩), .agg #[.int .u8 kind, .int .u8 xa, .int .u8 xb, .int .u8 xk, .slice Av nv cv, .int .i64 x]] w (DidX w0 q s h m (qPut T (objN T.S xa) (xk % 3) (objN T.S xb) true).1 (uPut D (objN T.S xa) (xk % 3) (objN T.S xb)).1 ((uPut D (objN T.S xa) (xk % 3) (objN T.S xb)).2 = (qPut T (objN T.S xa) (xk % 3) (objN T.S xb) true).2)) := by
  have hd := hx.kind
  have hkk := hx.k
  have hxx := Lib.hid hx.x
  obtain ⟨a, ha⟩ : ∃ a, objN T.S xa = a := ⟨_, rfl⟩
  obtain ⟨b, hb⟩ : ∃ b, objN T.S xb = b := ⟨_, rfl⟩
  have hab := Lib.hid (objN_bd H.inv.toInv0 xa)
  have hbb := Lib.hid (objN_bd H.inv.toInv0 xb)
  rw [ha] at hab
  rw [hb] at hbb
  obtain ⟨wu, hwu⟩ : ∃ wu : W0, wu = w0 := ⟨_, rfl⟩
  rw [← hwu]
  replace H := Lib.hid H
  replace hx := Lib.hid hx
  replace ID := Lib.hid ID
  replace dl := Lib.hid dl
  rw [ha, hb]
  obtain ⟨j, hj⟩ : ∃ j : Nat, xk % 3 = (j : Int) := ⟨(xk % 3).toNat, by omega⟩
  rw [hj]
  obtain ⟨⟨D1, r1⟩, hD1⟩ : ∃ r, uPut D a j b = r := ⟨_, rfl⟩
  obtain ⟨⟨T1, r2⟩, hT1⟩ : ∃ r, qPut T a j b true = r := ⟨_, rfl⟩
  rw [hD1, hT1]
  dsimp only
  have wk : IntKind.i64.wrap xk = xk := by rw [IntKind.wrap_i64]; omega
  have tk : xk.tmod 3 = (j : Int) := (Int.tmod_eq_emod_of_nonneg hkk.1).trans hj
  replace wk := Lib.hid wk
  replace tk := Lib.hid tk
  replace hj := Lib.hid hj
  replace hT1 := Lib.hid hT1
  replace hD1 := Lib.hid hD1
  go_enter Tryz.func12, Tryz.ntmps12
  go_wp2_with (refine wpList_new rfl (.box 30 (.tmp 1)) rfl w.heap.size rfl 30 #[.int .u8 kind, .int .u8 xa, .int .u8 xb, .int .u8 xk, .slice Av nv cv, .int .i64 x] (by kernel_rfl) ?_; intro w1 hs1 hb1 hB1; refine stop_here ?_)
  have e1 : w1.cell? ⟨w.heap.size, 1, none⟩ = some (.int .u8 xa) := hB1.cell 1
  have e2 : w1.cell? ⟨w.heap.size, 2, none⟩ = some (.int .u8 xb) := hB1.cell 2
  have HO1 := Lib.hid fun wx (hb : Below w.heap.size w wx) => lx_object (H.out.below hb) xa hx.out.a
  have HO2 := Lib.hid fun wx (hb : Below w.heap.size w wx) => lx_object (H.out.below hb) xb hx.out.b
  rw [ha] at HO1
  rw [hb] at HO2
  have hgl := hB1.lt
  obtain ⟨g, hg⟩ : ∃ g, g = w.heap.size := ⟨_, rfl⟩
  rw [← hg] at e1 e2 hgl hB1 ⊢
  replace hg := Lib.hid hg
  replace hB1 := Lib.hid hB1
  replace ha := Lib.hid ha
  replace hb := Lib.hid hb
  refine go_on ?_
  go_wp2_with fail
  have hS0 : (fun X : World => Below w1.heap.size w1 X) w1.drew := (Below.refl _ _).drew
  refine wp_T (by kernel_rfl) 10 (fun X : World => Below w1.heap.size w1 X) ?_
  refine wpAnyT_takeA (i := 0) (v := .pointer (some ⟨q, 0, none⟩)) rfl (by kernel_rfl) rfl (fun _ _ _ hp => hp) (Or.inl ⟨by kernel_rfl, fun X _ => by go_simp⟩) hS0 ?_
  simp only [Act.put, List.getElem_toArray, List.getElem_cons_succ, List.getElem_cons_zero, List.setIfInBounds_toArray, List.set_cons_zero, List.set_cons_succ]
  refine wpAnyT_takeA (i := 1) (v := .pointer (some ⟨g, 1, none⟩)) rfl (by kernel_rfl) rfl (fun _ _ _ hp => hp) (Or.inl ⟨by kernel_rfl, fun X _ => by go_simp⟩) hS0 ?_
  simp only [Act.put, List.getElem_toArray, List.getElem_cons_succ, List.getElem_cons_zero, List.setIfInBounds_toArray, List.set_cons_zero, List.set_cons_succ]
  refine wpAnyT_takeA (i := 4) (v := .pointer (some ⟨q, 0, none⟩)) rfl (by kernel_rfl) rfl (fun _ _ _ hp => hp) (Or.inl ⟨by kernel_rfl, fun X _ => by go_simp⟩) hS0 ?_
  simp only [Act.put, List.getElem_toArray, List.getElem_cons_succ, List.getElem_cons_zero, List.setIfInBounds_toArray, List.set_cons_zero, List.set_cons_succ]
  refine wpAnyT_takeA (i := 5) (v := .pointer (some ⟨g, 2, none⟩)) rfl (by kernel_rfl) rfl (fun _ _ _ hp => hp) (Or.inl ⟨by kernel_rfl, fun X _ => by go_simp⟩) hS0 ?_
  simp only [Act.put, List.getElem_toArray, List.getElem_cons_succ, List.getElem_cons_zero, List.setIfInBounds_toArray, List.set_cons_zero, List.set_cons_succ]
  refine wpAnyT_takeA (i := 2) (v := .int .u8 xa) rfl (by kernel_rfl) rfl (fun _ _ _ hp => hp) (Or.inl ⟨by kernel_rfl, fun X hX => by have hX1 : (fun X : World => Below w1.heap.size w1 X) X := hX; have y1 := (Below.cell (p := ⟨g, 1, none⟩) hX1 hgl).trans e1; go_simp⟩) hS0 ?_
  simp only [Act.put, List.getElem_toArray, List.getElem_cons_succ, List.getElem_cons_zero, List.setIfInBounds_toArray, List.set_cons_zero, List.set_cons_succ]
  refine wpAnyT_takeA (i := 6) (v := .int .u8 xb) rfl (by kernel_rfl) rfl (fun _ _ _ hp => hp) (Or.inl ⟨by kernel_rfl, fun X hX => by have hX1 : (fun X : World => Below w1.heap.size w1 X) X := hX; have y1 := (Below.cell (p := ⟨g, 2, none⟩) hX1 hgl).trans e2; go_simp⟩) hS0 ?_
  simp only [Act.put, List.getElem_toArray, List.getElem_cons_succ, List.getElem_cons_zero, List.setIfInBounds_toArray, List.set_cons_zero, List.set_cons_succ]
  refine wpAnyT_one (i := 3) rfl (by kernel_rfl) (by kernel_rfl) ?_
  intro K1 hK1
  go_simp
  refine (HO1.out _ (hb1.trans (Below.mono hS0 hb1.size))).mono ?_
  rintro e w2 ⟨rfl, bb0⟩
  dsimp only
  have hS1 : (fun X : World => Below w1.heap.size w1 X) w2 := Below.trans hS0 (Below.mono bb0 (Below.size hS0))
  refine hK1.out _ _ (fun _ => hS1) ?_
  (try simp only [Act.put, List.getElem_toArray, List.getElem_cons_succ, List.getElem_cons_zero, List.setIfInBounds_toArray, List.set_cons_zero, List.set_cons_succ])
  refine wpAnyT_one (i := 7) rfl (by kernel_rfl) (by kernel_rfl) ?_
  intro K2 hK2
  go_simp
  refine (HO2.out _ (hb1.trans (Below.mono hS1 hb1.size))).mono ?_
  rintro e w3 ⟨rfl, bb1⟩
  dsimp only
  have hS2 : (fun X : World => Below w1.heap.size w1 X) w3 := Below.trans hS1 (Below.mono bb1 (Below.size hS1))
  refine hK2.out _ _ (fun _ => hS2) ?_
  (try simp only [Act.put, List.getElem_toArray, List.getElem_cons_succ, List.getElem_cons_zero, List.setIfInBounds_toArray, List.set_cons_zero, List.set_cons_succ])
  refine wpAnyT_takeA (i := 8) (v := .int .i64 a) rfl (by kernel_rfl) rfl (fun _ _ _ hp => hp) (Or.inl ⟨by kernel_rfl, fun X _ => by go_simp⟩) hS2 ?_
  simp only [Act.put, List.getElem_toArray, List.getElem_cons_succ, List.getElem_cons_zero, List.setIfInBounds_toArray, List.set_cons_zero, List.set_cons_succ]
  refine wpAnyT_takeA (i := 9) (v := .int .i64 b) rfl (by kernel_rfl) rfl (fun _ _ _ hp => hp) (Or.inl ⟨by kernel_rfl, fun X _ => by go_simp⟩) hS2 ?_
  simp only [Act.put, List.getElem_toArray, List.getElem_cons_succ, List.getElem_cons_zero, List.setIfInBounds_toArray, List.set_cons_zero, List.set_cons_succ]
  refine wpAnyT_done (by kernel_rfl) ?_ _
  (try simp only [Act.put, List.getElem_toArray, List.getElem_cons_succ, List.getElem_cons_zero, List.setIfInBounds_toArray, List.set_cons_zero, List.set_cons_succ])
  clear hK1 K1 hK2 K2
  have b3 : Below w.heap.size w w3 := hb1.trans (Below.mono hS2 hb1.size)
  clear bb0 bb1
  have Hg := Lib.hid (H.out.guard b3)
  have E3 := Lib.hid (hB1.out.below (show Below w1.heap.size w1 w3 from hS2) hgl)
  have hg3 := E3.out.lt
  have hgw : w.heap.size ≤ g := Nat.le_of_eq hg.out.symm
  have hun : Hid (∀ {X : World} {T' : SS} {D' : DS}, LX (w0.guard w w3) X q s h m T' D' → LX w0 X q s h m T' D') := Lib.hid fun hX => H.out.unguard b3 hX
  have e0 : w3.cell? ⟨g, 0, none⟩ = some (.int .u8 kind) := E3.out.cell 0
  have e3 : w3.cell? ⟨g, 3, none⟩ = some (.int .u8 xk) := E3.out.cell 3
  have e5 : w3.cell? ⟨g, 5, none⟩ = some (.int .i64 x) := E3.out.cell 5
  subst hwu
  replace b3 := Lib.hid b3
  clear hS0 hS1 hS2 HO1 HO2 hB1 e1 e2 hs1 hb1 hgl H
  obtain ⟨Q, V, hQ, xv, hat, hput⟩ := lx_open Hg.out
  have SZ := Lib.hid r18_size
  have HC := Lib.hid fun (Q' : Nat → Prop) wx (hxv : XV Q' wx D V) (hq : New Q' wx) => rPut18 hxv hq ID.out.toInv0 a j b dl.out.g (Nat.le_trans dl.out.b (by omega))
  replace hat := Lib.hid hat
  replace hput := Lib.hid hput
  replace hQ := Lib.hid hQ
  replace xv := Lib.hid xv
  rw [hD1.out] at HC
  dsimp only at HC
  have hk8 : kind % 8 = 4 ∨ kind % 8 = 5 ∨ kind % 8 = 6 := hk
  clear hk
  rcases hk8 with hk | hk | hk
  · go_wp2_with fail
    have hS0 : (fun X : World => Below w3.heap.size w3 X) w3.drew := (Below.refl _ _).drew
    refine wp_T (by kernel_rfl) 17 (fun X : World => Below w3.heap.size w3 X) ?_
    refine wpAnyT_takeA (i := 0) (v := .pointer (some ⟨q, 0, none⟩)) rfl (by kernel_rfl) rfl (fun _ _ _ hp => hp) (Or.inl ⟨by kernel_rfl, fun X _ => by go_simp⟩) hS0 ?_
    simp only [Act.put, List.getElem_toArray, List.getElem_cons_succ, List.getElem_cons_zero, List.setIfInBounds_toArray, List.set_cons_zero, List.set_cons_succ]
    refine wpAnyT_takeA (i := 1) (v := .pointer (some ⟨q, 0, none⟩)) rfl (by kernel_rfl) rfl (fun _ _ _ hp => hp) (Or.inl ⟨by kernel_rfl, fun X _ => by go_simp⟩) hS0 ?_
    simp only [Act.put, List.getElem_toArray, List.getElem_cons_succ, List.getElem_cons_zero, List.setIfInBounds_toArray, List.set_cons_zero, List.set_cons_succ]
    refine wpAnyT_takeA (i := 2) (v := .pointer (some ⟨q, 1, none⟩)) rfl (by kernel_rfl) rfl (fun _ _ _ hp => hp) (Or.inl ⟨by kernel_rfl, fun X _ => by go_simp⟩) hS0 ?_
    simp only [Act.put, List.getElem_toArray, List.getElem_cons_succ, List.getElem_cons_zero, List.setIfInBounds_toArray, List.set_cons_zero, List.set_cons_succ]
    refine wpAnyT_takeA (i := 3) (v := .agg (c18 V D.ph D.cyc)) rfl (by kernel_rfl) rfl (fun _ _ _ hp => hp) (yieldsIf_load_mid (by kernel_rfl) _ _ rfl q 1 (by kernel_rfl) [V.vw, V.vc, V.f 0, V.f 1, V.f 2, V.f 3, V.vo, V.vg, V.vb, .int .i64 D.ph, V.vl, .int .i64 D.cyc] _ (fun X hX => hat.out X hX) Tryz.underlying42 rfl r18_size) hS0 ?_
    simp only [Act.put, List.getElem_toArray, List.getElem_cons_succ, List.getElem_cons_zero, List.setIfInBounds_toArray, List.set_cons_zero, List.set_cons_succ]
    refine wpAnyT_takeA (i := 4) (v := .int .i64 a) rfl (by kernel_rfl) rfl (fun _ _ _ hp => hp) (Or.inl ⟨by kernel_rfl, fun X _ => by go_simp⟩) hS0 ?_
    simp only [Act.put, List.getElem_toArray, List.getElem_cons_succ, List.getElem_cons_zero, List.setIfInBounds_toArray, List.set_cons_zero, List.set_cons_succ]
    refine wpAnyT_takeA (i := 5) (v := .pointer (some ⟨g, 3, none⟩)) rfl (by kernel_rfl) rfl (fun _ _ _ hp => hp) (Or.inl ⟨by kernel_rfl, fun X _ => by go_simp⟩) hS0 ?_
    simp only [Act.put, List.getElem_toArray, List.getElem_cons_succ, List.getElem_cons_zero, List.setIfInBounds_toArray, List.set_cons_zero, List.set_cons_succ]
    refine wpAnyT_takeA (i := 6) (v := .int .u8 xk) rfl (by kernel_rfl) rfl (fun _ _ _ hp => hp) (Or.inl ⟨by kernel_rfl, fun X hX => by have hX1 : (fun X : World => Below w3.heap.size w3 X) X := hX; have y1 := (Below.cell (p := ⟨g, 3, none⟩) hX1 hg3).trans e3; go_simp⟩) hS0 ?_
    simp only [Act.put, List.getElem_toArray, List.getElem_cons_succ, List.getElem_cons_zero, List.setIfInBounds_toArray, List.set_cons_zero, List.set_cons_succ]
    refine wpAnyT_takeA (i := 7) (v := .int .i64 xk) rfl (by kernel_rfl) rfl (fun _ _ _ hp => hp) (Or.inl ⟨by kernel_rfl, fun X _ => by have wkz := wk.out; go_simp⟩) hS0 ?_
    simp only [Act.put, List.getElem_toArray, List.getElem_cons_succ, List.getElem_cons_zero, List.setIfInBounds_toArray, List.set_cons_zero, List.set_cons_succ]
    refine wpAnyT_takeA (i := 8) (v := .int .i64 (j : Int)) rfl (by kernel_rfl) rfl (fun _ _ _ hp => hp) (Or.inl ⟨by kernel_rfl, fun X _ => by have tkz := tk.out; go_simp⟩) hS0 ?_
    simp only [Act.put, List.getElem_toArray, List.getElem_cons_succ, List.getElem_cons_zero, List.setIfInBounds_toArray, List.set_cons_zero, List.set_cons_succ]
    refine wpAnyT_takeA (i := 9) (v := .int .i64 b) rfl (by kernel_rfl) rfl (fun _ _ _ hp => hp) (Or.inl ⟨by kernel_rfl, fun X _ => by go_simp⟩) hS0 ?_
    simp only [Act.put, List.getElem_toArray, List.getElem_cons_succ, List.getElem_cons_zero, List.setIfInBounds_toArray, List.set_cons_zero, List.set_cons_succ]
    refine wpAnyT_two (i := 10) (j := 14) rfl rfl (by kernel_rfl) (by kernel_rfl) (by kernel_rfl) ?_ ?_
    · intro K1 hK1
      go_simp
      refine (HC.out Q _ (xv.out.below hS0) (hQ.out.le (Below.size hS0))).mono ?_
      rintro e w4 ⟨V4, rfl, xv4, b4⟩
      dsimp only
      have hS1 : (fun X : World => Below w3.heap.size w3 X) w4 := Below.trans hS0 (Below.mono b4 (Below.size hS0))
      have ON4 := Lib.hid (xv4.one D1.ph D1.cyc)
      refine hK1.out _ _ (fun _ => hS1) ?_
      (try simp only [Act.put, List.getElem_toArray, List.getElem_cons_succ, List.getElem_cons_zero, List.setIfInBounds_toArray, List.set_cons_zero, List.set_cons_succ])
      refine wpAnyT_takeA (i := 11) (v := .tuple #[.agg (c18 V4 D1.ph D1.cyc), .int .i64 r1]) rfl (by kernel_rfl) rfl (fun _ _ _ hp => hp) (Or.inl ⟨by kernel_rfl, fun X _ => by go_simp⟩) hS1 ?_
      simp only [Act.put, List.getElem_toArray, List.getElem_cons_succ, List.getElem_cons_zero, List.setIfInBounds_toArray, List.set_cons_zero, List.set_cons_succ]
      refine wpAnyT_takeA (i := 12) (v := .agg (c18 V4 D1.ph D1.cyc)) rfl (by kernel_rfl) rfl (fun _ _ _ hp => hp) (Or.inl ⟨by kernel_rfl, fun X _ => by go_simp⟩) hS1 ?_
      simp only [Act.put, List.getElem_toArray, List.getElem_cons_succ, List.getElem_cons_zero, List.setIfInBounds_toArray, List.set_cons_zero, List.set_cons_succ]
      refine wpAnyT_takeA (i := 13) (v := .int .i64 r1) rfl (by kernel_rfl) rfl (fun _ _ _ hp => hp) (Or.inl ⟨by kernel_rfl, fun X _ => by go_simp⟩) hS1 ?_
      simp only [Act.put, List.getElem_toArray, List.getElem_cons_succ, List.getElem_cons_zero, List.setIfInBounds_toArray, List.set_cons_zero, List.set_cons_succ]
      refine wpAnyT_one (i := 14) rfl (by kernel_rfl) (by kernel_rfl) ?_
      intro K2 hK2
      simp only [List.getElem_toArray, List.getElem_cons_succ, List.getElem_cons_zero]
      refine wp_new (.alloc 42) rfl 42 n18 (by kernel_rfl) ?_
      have hS2 : (fun X : World => Below w3.heap.size w3 X) (w4.alloc (.cells n18 42)) := Below.trans hS1 ((below_alloc w4 _).mono (Below.size hS1))
      refine hK2.out _ _ (fun _ => hS2) ?_
      (try simp only [Act.put, List.getElem_toArray, List.getElem_cons_succ, List.getElem_cons_zero, List.setIfInBounds_toArray, List.set_cons_zero, List.set_cons_succ])
      refine wpAnyT_one (i := 15) rfl (by kernel_rfl) (by kernel_rfl) ?_
      intro K3 hK3
      simp only [List.getElem_toArray, List.getElem_cons_succ, List.getElem_cons_zero]
      refine wp_store_blk 42 _ _ rfl w4.heap.size rfl (c18 V4 D1.ph D1.cyc) rfl 42 n18 (Blk.new w4 _ _) r18_size rfl ON4.out ?_
      intro w6 hB6 hg6 hs6
      have hS3 : (fun X : World => Below w3.heap.size w3 X) w6 := Below.grown hS2 hg6 (Below.size hS2) (fun k hk => by cases hk; exact Below.size hS1)
      refine hK3.out _ _ (fun _ => hS3) ?_
      (try simp only [Act.put, List.getElem_toArray, List.getElem_cons_succ, List.getElem_cons_zero, List.setIfInBounds_toArray, List.set_cons_zero, List.set_cons_succ])
      refine wpAnyT_takeA (i := 16) (v := .int .i64 r1) rfl (by kernel_rfl) rfl (fun _ _ _ hp => hp) (Or.inl ⟨by kernel_rfl, fun X _ => by go_simp⟩) hS3 ?_
      simp only [Act.put, List.getElem_toArray, List.getElem_cons_succ, List.getElem_cons_zero, List.setIfInBounds_toArray, List.set_cons_zero, List.set_cons_succ]
      refine wpAnyT_done (by kernel_rfl) ?_ _
      (try simp only [Act.put, List.getElem_toArray, List.getElem_cons_succ, List.getElem_cons_zero, List.setIfInBounds_toArray, List.set_cons_zero, List.set_cons_succ])
      clear hK1 K1 hK2 K2 hK3 K3
      have b46 : Below w4.heap.size w4 w6 := (below_alloc w4 _).grown hg6 (by simp) (fun k hk => by cases hk; exact Nat.le_refl _)
      have xv6 := Lib.hid (xv4.below b46)
      obtain ⟨gB, hgB⟩ : ∃ gB, gB = w4.heap.size := ⟨_, rfl⟩
      rw [← hgB] at hB6 ⊢
      have b6 : Below w3.heap.size w3 w6 := hS3
      clear hS0 hS1 hS2 hS3 hg6 hs6 b46 xv4 b4
      obtain ⟨ht, hz7, ho7, H7⟩ := hput.out w6 _ V4 b6 xv6.out
      have ht4 : w6.there q 1 (c18 V4 (D1).ph (D1).cyc).size := ht
      replace hB6 := Lib.hid hB6
      replace ht4 := Lib.hid ht4
      replace H7 := Lib.hid H7
      replace hz7 := Lib.hid hz7
      replace ho7 := Lib.hid ho7
      clear ht
      go_wp2_with (first
        | (refine wpList_load_blk rfl 42 (.tmp 22) rfl gB rfl 42 (c18 V4 (D1).ph (D1).cyc) hB6.out _ Tryz.underlying42 rfl SZ.out ?_)
        | (refine wpList_store_mid rfl 42 (.tmp 169) (.tmp 167) rfl q 1 (c18 V4 (D1).ph (D1).cyc) rfl rfl ht4.out SZ.out ON4.out ?_; refine stop_here ?_))
      obtain ⟨w7, hw7⟩ : ∃ w7, w7 = w6.setCells q 1 (c18 V4 (D1).ph (D1).cyc).toList := ⟨_, rfl⟩
      rw [← hw7] at H7 hz7 ho7 ⊢
      replace hw7 := Lib.hid hw7
      have c0 := H7.out.cells.1
      clear hB6 ht4 hput xv6 b6 ON4
      refine go_on ?_
      have f7 : w7.cell? ⟨g, 3, none⟩ = some (.int .u8 xk) := cell_keep H7.out hgw hg3 e3
      have HA := Lib.hid ((H7.out.below (show Below w7.heap.size w7 w7.drew from (Below.refl _ _).drew)).call (P := fun e _ => e = .returned (.int .i64 (qPut T a j b true).2)) (T' := (qPut T a j b true).1) fun v0 L => ls_put L a j b true (by have := hab.out; omega) (by have := hbb.out; omega))
      rw [hT1.out] at HA
      dsimp only at HA
      go_wp2_with fail
      have hS0 : (fun X : World => X.cell? ⟨q, 0, none⟩ = some (.pointer (some ⟨s, 0, none⟩)) ∧ X.cell? ⟨g, 3, none⟩ = some (.int .u8 xk)) w7.drew := ⟨c0, f7⟩
      refine wp_T (by kernel_rfl) 14 (fun X : World => X.cell? ⟨q, 0, none⟩ = some (.pointer (some ⟨s, 0, none⟩)) ∧ X.cell? ⟨g, 3, none⟩ = some (.int .u8 xk)) ?_
      refine wpAnyT_takeA (i := 0) (v := .pointer (some ⟨q, 0, none⟩)) rfl (by kernel_rfl) rfl (fun _ _ _ hp => hp) (Or.inl ⟨by kernel_rfl, fun X _ => by go_simp⟩) hS0 ?_
      simp only [Act.put, List.getElem_toArray, List.getElem_cons_succ, List.getElem_cons_zero, List.setIfInBounds_toArray, List.set_cons_zero, List.set_cons_succ]
      refine wpAnyT_takeA (i := 1) (v := .pointer (some ⟨q, 0, none⟩)) rfl (by kernel_rfl) rfl (fun _ _ _ hp => hp) (Or.inl ⟨by kernel_rfl, fun X _ => by go_simp⟩) hS0 ?_
      simp only [Act.put, List.getElem_toArray, List.getElem_cons_succ, List.getElem_cons_zero, List.setIfInBounds_toArray, List.set_cons_zero, List.set_cons_succ]
      refine wpAnyT_takeA (i := 2) (v := .pointer (some ⟨q, 0, none⟩)) rfl (by kernel_rfl) rfl (fun _ _ _ hp => hp) (Or.inl ⟨by kernel_rfl, fun X _ => by go_simp⟩) hS0 ?_
      simp only [Act.put, List.getElem_toArray, List.getElem_cons_succ, List.getElem_cons_zero, List.setIfInBounds_toArray, List.set_cons_zero, List.set_cons_succ]
      refine wpAnyT_takeA (i := 3) (v := .pointer (some ⟨s, 0, none⟩)) rfl (by kernel_rfl) rfl (fun _ _ _ hp => hp) (Or.inl ⟨by kernel_rfl, fun X hX => by have hX1 : (fun X : World => X.cell? ⟨q, 0, none⟩ = some (.pointer (some ⟨s, 0, none⟩)) ∧ X.cell? ⟨g, 3, none⟩ = some (.int .u8 xk)) X := hX; have y1 : X.cell? ⟨q, 0, none⟩ = some (.pointer (some ⟨s, 0, none⟩)) := hX1.1; go_simp⟩) hS0 ?_
      simp only [Act.put, List.getElem_toArray, List.getElem_cons_succ, List.getElem_cons_zero, List.setIfInBounds_toArray, List.set_cons_zero, List.set_cons_succ]
      refine wpAnyT_takeA (i := 4) (v := .int .i64 a) rfl (by kernel_rfl) rfl (fun _ _ _ hp => hp) (Or.inl ⟨by kernel_rfl, fun X _ => by go_simp⟩) hS0 ?_
      simp only [Act.put, List.getElem_toArray, List.getElem_cons_succ, List.getElem_cons_zero, List.setIfInBounds_toArray, List.set_cons_zero, List.set_cons_succ]
      refine wpAnyT_takeA (i := 5) (v := .pointer (some ⟨g, 3, none⟩)) rfl (by kernel_rfl) rfl (fun _ _ _ hp => hp) (Or.inl ⟨by kernel_rfl, fun X _ => by go_simp⟩) hS0 ?_
      simp only [Act.put, List.getElem_toArray, List.getElem_cons_succ, List.getElem_cons_zero, List.setIfInBounds_toArray, List.set_cons_zero, List.set_cons_succ]
      refine wpAnyT_takeA (i := 6) (v := .int .u8 xk) rfl (by kernel_rfl) rfl (fun _ _ _ hp => hp) (Or.inl ⟨by kernel_rfl, fun X hX => by have hX1 : (fun X : World => X.cell? ⟨q, 0, none⟩ = some (.pointer (some ⟨s, 0, none⟩)) ∧ X.cell? ⟨g, 3, none⟩ = some (.int .u8 xk)) X := hX; have y1 : X.cell? ⟨g, 3, none⟩ = some (.int .u8 xk) := hX1.2; go_simp⟩) hS0 ?_
      simp only [Act.put, List.getElem_toArray, List.getElem_cons_succ, List.getElem_cons_zero, List.setIfInBounds_toArray, List.set_cons_zero, List.set_cons_succ]
      refine wpAnyT_takeA (i := 7) (v := .int .i64 xk) rfl (by kernel_rfl) rfl (fun _ _ _ hp => hp) (Or.inl ⟨by kernel_rfl, fun X _ => by have wkz := wk.out; go_simp⟩) hS0 ?_
      simp only [Act.put, List.getElem_toArray, List.getElem_cons_succ, List.getElem_cons_zero, List.setIfInBounds_toArray, List.set_cons_zero, List.set_cons_succ]
      refine wpAnyT_takeA (i := 8) (v := .int .i64 (j : Int)) rfl (by kernel_rfl) rfl (fun _ _ _ hp => hp) (Or.inl ⟨by kernel_rfl, fun X _ => by have tkz := tk.out; go_simp⟩) hS0 ?_
      simp only [Act.put, List.getElem_toArray, List.getElem_cons_succ, List.getElem_cons_zero, List.setIfInBounds_toArray, List.set_cons_zero, List.set_cons_succ]
      refine wpAnyT_takeA (i := 9) (v := .int .i64 b) rfl (by kernel_rfl) rfl (fun _ _ _ hp => hp) (Or.inl ⟨by kernel_rfl, fun X _ => by go_simp⟩) hS0 ?_
      simp only [Act.put, List.getElem_toArray, List.getElem_cons_succ, List.getElem_cons_zero, List.setIfInBounds_toArray, List.set_cons_zero, List.set_cons_succ]
      refine wpAnyT_takeA (i := 11) (v := .int .i64 r1) rfl (by kernel_rfl) rfl (fun _ _ _ hp => hp) (Or.inl ⟨by kernel_rfl, fun X _ => by go_simp⟩) hS0 ?_
      simp only [Act.put, List.getElem_toArray, List.getElem_cons_succ, List.getElem_cons_zero, List.setIfInBounds_toArray, List.set_cons_zero, List.set_cons_succ]
      refine wpAnyT_one (i := 10) rfl (by kernel_rfl) (by kernel_rfl) ?_
      intro K1 hK1
      go_simp
      refine (HA.out).mono ?_
      rintro e w8 ⟨rfl, H8⟩
      dsimp only
      have hS1 : (fun X : World => X.cell? ⟨q, 0, none⟩ = some (.pointer (some ⟨s, 0, none⟩)) ∧ X.cell? ⟨g, 3, none⟩ = some (.int .u8 xk)) w8 := ⟨H8.cells.1, cell_keep H8 hgw hg3 e3⟩
      replace H8 := Lib.hid H8
      refine hK1.out _ _ (fun _ => hS1) ?_
      (try simp only [Act.put, List.getElem_toArray, List.getElem_cons_succ, List.getElem_cons_zero, List.setIfInBounds_toArray, List.set_cons_zero, List.set_cons_succ])
      by_cases hr : r1 = r2
      · subst hr
        refine wpAnyT_takeA (i := 12) (v := .bool true) rfl (by kernel_rfl) rfl (fun _ _ _ hp => hp) (Or.inl ⟨by kernel_rfl, fun X _ => by go_simp⟩) hS1 ?_
        simp only [Act.put, List.getElem_toArray, List.getElem_cons_succ, List.getElem_cons_zero, List.setIfInBounds_toArray, List.set_cons_zero, List.set_cons_succ]
        refine wpAnyT_takeA (i := 13) (v := .bool true) rfl (by kernel_rfl) rfl (fun _ _ _ hp => hp) (Or.inl ⟨by kernel_rfl, fun X _ => by go_simp⟩) hS1 ?_
        simp only [Act.put, List.getElem_toArray, List.getElem_cons_succ, List.getElem_cons_zero, List.setIfInBounds_toArray, List.set_cons_zero, List.set_cons_succ]
        refine wpAnyT_done (by kernel_rfl) ?_ _
        (try simp only [Act.put, List.getElem_toArray, List.getElem_cons_succ, List.getElem_cons_zero, List.setIfInBounds_toArray, List.set_cons_zero, List.set_cons_succ])
        clear hK1 K1 hS0 hS1
        go_wp2_with fail
        go_ret
        exact ⟨true, rfl, fun _ => rfl, hun.out H8.out⟩
      · have z1 : (r2 == r1) = false := beq_eq_false_iff_ne.2 fun e => hr e.symm
        refine wpAnyT_takeA (i := 12) (v := .bool false) rfl (by kernel_rfl) rfl (fun _ _ _ hp => hp) (Or.inl ⟨by kernel_rfl, fun X _ => by go_simp⟩) hS1 ?_
        simp only [Act.put, List.getElem_toArray, List.getElem_cons_succ, List.getElem_cons_zero, List.setIfInBounds_toArray, List.set_cons_zero, List.set_cons_succ]
        refine wpAnyT_takeA (i := 13) (v := .bool false) rfl (by kernel_rfl) rfl (fun _ _ _ hp => hp) (Or.inl ⟨by kernel_rfl, fun X _ => by go_simp⟩) hS1 ?_
        simp only [Act.put, List.getElem_toArray, List.getElem_cons_succ, List.getElem_cons_zero, List.setIfInBounds_toArray, List.set_cons_zero, List.set_cons_succ]
        refine wpAnyT_done (by kernel_rfl) ?_ _
        (try simp only [Act.put, List.getElem_toArray, List.getElem_cons_succ, List.getElem_cons_zero, List.setIfInBounds_toArray, List.set_cons_zero, List.set_cons_succ])
        clear hK1 K1 hS0 hS1
        go_wp2_with fail
        go_ret
        exact ⟨false, rfl, fun he => absurd he hr, hun.out H8.out⟩
    · intro K1 hK1
      simp only [List.getElem_toArray, List.getElem_cons_succ, List.getElem_cons_zero]
      refine wp_new (.alloc 42) rfl 42 n18 (by kernel_rfl) ?_
      have hS1 : (fun X : World => Below w3.heap.size w3 X) (w3.drew.alloc (.cells n18 42)) := Below.trans hS0 ((below_alloc w3.drew _).mono (Below.size hS0))
      refine hK1.out _ _ (fun _ => hS1) ?_
      (try simp only [Act.put, List.getElem_toArray, List.getElem_cons_succ, List.getElem_cons_zero, List.setIfInBounds_toArray, List.set_cons_zero, List.set_cons_succ])
      refine wpAnyT_one (i := 10) rfl (by kernel_rfl) (by kernel_rfl) ?_
      intro K2 hK2
      go_simp
      have hz0 : (w3.drew.alloc (.cells n18 42)).heap.size = w3.heap.size + 1 := (show (w3.drew.alloc (.cells n18 42)).heap.size = w3.drew.heap.size + 1 by simp)
      refine (HC.out (fun b => Q b ∧ b ≠ w3.heap.size) _ (xv.out.keepQ (Below.size hS1) (fun b _ hlt => Below.block hS1 b hlt) fun b hb hlt => ⟨hb, by omega⟩) (fun b hb => ⟨hQ.out b (Nat.le_trans (Below.size hS1) hb), by omega⟩)).mono ?_
      rintro e w4 ⟨V4, rfl, xv4, b4⟩
      dsimp only
      have hS2 : (fun X : World => Below w3.heap.size w3 X) w4 := Below.trans hS1 (Below.mono b4 (Below.size hS1))
      have ON4 := Lib.hid (xv4.one D1.ph D1.cyc)
      have hBn := (Blk.new w3.drew 42 n18).below b4 (Blk.new w3.drew 42 n18).lt
      refine hK2.out _ _ (fun _ => hS2) ?_
      (try simp only [Act.put, List.getElem_toArray, List.getElem_cons_succ, List.getElem_cons_zero, List.setIfInBounds_toArray, List.set_cons_zero, List.set_cons_succ])
      refine wpAnyT_takeA (i := 11) (v := .tuple #[.agg (c18 V4 D1.ph D1.cyc), .int .i64 r1]) rfl (by kernel_rfl) rfl (fun _ _ _ hp => hp) (Or.inl ⟨by kernel_rfl, fun X _ => by go_simp⟩) hS2 ?_
      simp only [Act.put, List.getElem_toArray, List.getElem_cons_succ, List.getElem_cons_zero, List.setIfInBounds_toArray, List.set_cons_zero, List.set_cons_succ]
      refine wpAnyT_takeA (i := 12) (v := .agg (c18 V4 D1.ph D1.cyc)) rfl (by kernel_rfl) rfl (fun _ _ _ hp => hp) (Or.inl ⟨by kernel_rfl, fun X _ => by go_simp⟩) hS2 ?_
      simp only [Act.put, List.getElem_toArray, List.getElem_cons_succ, List.getElem_cons_zero, List.setIfInBounds_toArray, List.set_cons_zero, List.set_cons_succ]
      refine wpAnyT_takeA (i := 13) (v := .int .i64 r1) rfl (by kernel_rfl) rfl (fun _ _ _ hp => hp) (Or.inl ⟨by kernel_rfl, fun X _ => by go_simp⟩) hS2 ?_
      simp only [Act.put, List.getElem_toArray, List.getElem_cons_succ, List.getElem_cons_zero, List.setIfInBounds_toArray, List.set_cons_zero, List.set_cons_succ]
      refine wpAnyT_one (i := 15) rfl (by kernel_rfl) (by kernel_rfl) ?_
      intro K3 hK3
      simp only [List.getElem_toArray, List.getElem_cons_succ, List.getElem_cons_zero]
      refine wp_store_blk 42 _ _ rfl w3.drew.heap.size rfl (c18 V4 D1.ph D1.cyc) rfl 42 n18 hBn r18_size rfl ON4.out ?_
      intro w6 hB6 hg6 hs6
      have hS3 : (fun X : World => Below w3.heap.size w3 X) w6 := Below.grown hS2 hg6 (Below.size hS2) (fun k hk => by cases hk; exact Nat.le_refl _)
      refine hK3.out _ _ (fun _ => hS3) ?_
      (try simp only [Act.put, List.getElem_toArray, List.getElem_cons_succ, List.getElem_cons_zero, List.setIfInBounds_toArray, List.set_cons_zero, List.set_cons_succ])
      refine wpAnyT_takeA (i := 16) (v := .int .i64 r1) rfl (by kernel_rfl) rfl (fun _ _ _ hp => hp) (Or.inl ⟨by kernel_rfl, fun X _ => by go_simp⟩) hS3 ?_
      simp only [Act.put, List.getElem_toArray, List.getElem_cons_succ, List.getElem_cons_zero, List.setIfInBounds_toArray, List.set_cons_zero, List.set_cons_succ]
      refine wpAnyT_done (by kernel_rfl) ?_ _
      (try simp only [Act.put, List.getElem_toArray, List.getElem_cons_succ, List.getElem_cons_zero, List.setIfInBounds_toArray, List.set_cons_zero, List.set_cons_succ])
      clear hK1 K1 hK2 K2 hK3 K3
      have xv6 := Lib.hid (xv4.stored (Q' := Q) hg6 fun b hb => ⟨hb.1, hb.2⟩)
      replace hB6 : Blk w6 w3.heap.size 42 (c18 V4 D1.ph D1.cyc) := hB6
      obtain ⟨gB, hgB⟩ : ∃ gB, gB = w3.heap.size := ⟨_, rfl⟩
      rw [← hgB] at hB6 ⊢
      have b6 : Below w3.heap.size w3 w6 := hS3
      clear hS0 hS1 hS2 hS3 hg6 hs6 hBn xv4 b4
      obtain ⟨ht, hz7, ho7, H7⟩ := hput.out w6 _ V4 b6 xv6.out
      have ht4 : w6.there q 1 (c18 V4 (D1).ph (D1).cyc).size := ht
      replace hB6 := Lib.hid hB6
      replace ht4 := Lib.hid ht4
      replace H7 := Lib.hid H7
      replace hz7 := Lib.hid hz7
      replace ho7 := Lib.hid ho7
      clear ht
      go_wp2_with (first
        | (refine wpList_load_blk rfl 42 (.tmp 22) rfl gB rfl 42 (c18 V4 (D1).ph (D1).cyc) hB6.out _ Tryz.underlying42 rfl SZ.out ?_)
        | (refine wpList_store_mid rfl 42 (.tmp 169) (.tmp 167) rfl q 1 (c18 V4 (D1).ph (D1).cyc) rfl rfl ht4.out SZ.out ON4.out ?_; refine stop_here ?_))
      obtain ⟨w7, hw7⟩ : ∃ w7, w7 = w6.setCells q 1 (c18 V4 (D1).ph (D1).cyc).toList := ⟨_, rfl⟩
      rw [← hw7] at H7 hz7 ho7 ⊢
      replace hw7 := Lib.hid hw7
      have c0 := H7.out.cells.1
      clear hB6 ht4 hput xv6 b6 ON4
      refine go_on ?_
      have f7 : w7.cell? ⟨g, 3, none⟩ = some (.int .u8 xk) := cell_keep H7.out hgw hg3 e3
      have HA := Lib.hid ((H7.out.below (show Below w7.heap.size w7 w7.drew from (Below.refl _ _).drew)).call (P := fun e _ => e = .returned (.int .i64 (qPut T a j b true).2)) (T' := (qPut T a j b true).1) fun v0 L => ls_put L a j b true (by have := hab.out; omega) (by have := hbb.out; omega))
      rw [hT1.out] at HA
      dsimp only at HA
      go_wp2_with fail
      have hS0 : (fun X : World => X.cell? ⟨q, 0, none⟩ = some (.pointer (some ⟨s, 0, none⟩)) ∧ X.cell? ⟨g, 3, none⟩ = some (.int .u8 xk)) w7.drew := ⟨c0, f7⟩
      refine wp_T (by kernel_rfl) 14 (fun X : World => X.cell? ⟨q, 0, none⟩ = some (.pointer (some ⟨s, 0, none⟩)) ∧ X.cell? ⟨g, 3, none⟩ = some (.int .u8 xk)) ?_
      refine wpAnyT_takeA (i := 0) (v := .pointer (some ⟨q, 0, none⟩)) rfl (by kernel_rfl) rfl (fun _ _ _ hp => hp) (Or.inl ⟨by kernel_rfl, fun X _ => by go_simp⟩) hS0 ?_
      simp only [Act.put, List.getElem_toArray, List.getElem_cons_succ, List.getElem_cons_zero, List.setIfInBounds_toArray, List.set_cons_zero, List.set_cons_succ]
      refine wpAnyT_takeA (i := 1) (v := .pointer (some ⟨q, 0, none⟩)) rfl (by kernel_rfl) rfl (fun _ _ _ hp => hp) (Or.inl ⟨by kernel_rfl, fun X _ => by go_simp⟩) hS0 ?_
      simp only [Act.put, List.getElem_toArray, List.getElem_cons_succ, List.getElem_cons_zero, List.setIfInBounds_toArray, List.set_cons_zero, List.set_cons_succ]
      refine wpAnyT_takeA (i := 2) (v := .pointer (some ⟨q, 0, none⟩)) rfl (by kernel_rfl) rfl (fun _ _ _ hp => hp) (Or.inl ⟨by kernel_rfl, fun X _ => by go_simp⟩) hS0 ?_
      simp only [Act.put, List.getElem_toArray, List.getElem_cons_succ, List.getElem_cons_zero, List.setIfInBounds_toArray, List.set_cons_zero, List.set_cons_succ]
      refine wpAnyT_takeA (i := 3) (v := .pointer (some ⟨s, 0, none⟩)) rfl (by kernel_rfl) rfl (fun _ _ _ hp => hp) (Or.inl ⟨by kernel_rfl, fun X hX => by have hX1 : (fun X : World => X.cell? ⟨q, 0, none⟩ = some (.pointer (some ⟨s, 0, none⟩)) ∧ X.cell? ⟨g, 3, none⟩ = some (.int .u8 xk)) X := hX; have y1 : X.cell? ⟨q, 0, none⟩ = some (.pointer (some ⟨s, 0, none⟩)) := hX1.1; go_simp⟩) hS0 ?_
      simp only [Act.put, List.getElem_toArray, List.getElem_cons_succ, List.getElem_cons_zero, List.setIfInBounds_toArray, List.set_cons_zero, List.set_cons_succ]
      refine wpAnyT_takeA (i := 4) (v := .int .i64 a) rfl (by kernel_rfl) rfl (fun _ _ _ hp => hp) (Or.inl ⟨by kernel_rfl, fun X _ => by go_simp⟩) hS0 ?_
      simp only [Act.put, List.getElem_toArray, List.getElem_cons_succ, List.getElem_cons_zero, List.setIfInBounds_toArray, List.set_cons_zero, List.set_cons_succ]
      refine wpAnyT_takeA (i := 5) (v := .pointer (some ⟨g, 3, none⟩)) rfl (by kernel_rfl) rfl (fun _ _ _ hp => hp) (Or.inl ⟨by kernel_rfl, fun X _ => by go_simp⟩) hS0 ?_
      simp only [Act.put, List.getElem_toArray, List.getElem_cons_succ, List.getElem_cons_zero, List.setIfInBounds_toArray, List.set_cons_zero, List.set_cons_succ]
      refine wpAnyT_takeA (i := 6) (v := .int .u8 xk) rfl (by kernel_rfl) rfl (fun _ _ _ hp => hp) (Or.inl ⟨by kernel_rfl, fun X hX => by have hX1 : (fun X : World => X.cell? ⟨q, 0, none⟩ = some (.pointer (some ⟨s, 0, none⟩)) ∧ X.cell? ⟨g, 3, none⟩ = some (.int .u8 xk)) X := hX; have y1 : X.cell? ⟨g, 3, none⟩ = some (.int .u8 xk) := hX1.2; go_simp⟩) hS0 ?_
      simp only [Act.put, List.getElem_toArray, List.getElem_cons_succ, List.getElem_cons_zero, List.setIfInBounds_toArray, List.set_cons_zero, List.set_cons_succ]
      refine wpAnyT_takeA (i := 7) (v := .int .i64 xk) rfl (by kernel_rfl) rfl (fun _ _ _ hp => hp) (Or.inl ⟨by kernel_rfl, fun X _ => by have wkz := wk.out; go_simp⟩) hS0 ?_
      simp only [Act.put, List.getElem_toArray, List.getElem_cons_succ, List.getElem_cons_zero, List.setIfInBounds_toArray, List.set_cons_zero, List.set_cons_succ]
      refine wpAnyT_takeA (i := 8) (v := .int .i64 (j : Int)) rfl (by kernel_rfl) rfl (fun _ _ _ hp => hp) (Or.inl ⟨by kernel_rfl, fun X _ => by have tkz := tk.out; go_simp⟩) hS0 ?_
      simp only [Act.put, List.getElem_toArray, List.getElem_cons_succ, List.getElem_cons_zero, List.setIfInBounds_toArray, List.set_cons_zero, List.set_cons_succ]
      refine wpAnyT_takeA (i := 9) (v := .int .i64 b) rfl (by kernel_rfl) rfl (fun _ _ _ hp => hp) (Or.inl ⟨by kernel_rfl, fun X _ => by go_simp⟩) hS0 ?_
      simp only [Act.put, List.getElem_toArray, List.getElem_cons_succ, List.getElem_cons_zero, List.setIfInBounds_toArray, List.set_cons_zero, List.set_cons_succ]
      refine wpAnyT_takeA (i := 11) (v := .int .i64 r1) rfl (by kernel_rfl) rfl (fun _ _ _ hp => hp) (Or.inl ⟨by kernel_rfl, fun X _ => by go_simp⟩) hS0 ?_
      simp only [Act.put, List.getElem_toArray, List.getElem_cons_succ, List.getElem_cons_zero, List.setIfInBounds_toArray, List.set_cons_zero, List.set_cons_succ]
      refine wpAnyT_one (i := 10) rfl (by kernel_rfl) (by kernel_rfl) ?_
      intro K1 hK1
      go_simp
      refine (HA.out).mono ?_
      rintro e w8 ⟨rfl, H8⟩
      dsimp only
      have hS1 : (fun X : World => X.cell? ⟨q, 0, none⟩ = some (.pointer (some ⟨s, 0, none⟩)) ∧ X.cell? ⟨g, 3, none⟩ = some (.int .u8 xk)) w8 := ⟨H8.cells.1, cell_keep H8 hgw hg3 e3⟩
      replace H8 := Lib.hid H8
      refine hK1.out _ _ (fun _ => hS1) ?_
      (try simp only [Act.put, List.getElem_toArray, List.getElem_cons_succ, List.getElem_cons_zero, List.setIfInBounds_toArray, List.set_cons_zero, List.set_cons_succ])
      by_cases hr : r1 = r2
      · subst hr
        refine wpAnyT_takeA (i := 12) (v := .bool true) rfl (by kernel_rfl) rfl (fun _ _ _ hp => hp) (Or.inl ⟨by kernel_rfl, fun X _ => by go_simp⟩) hS1 ?_
        simp only [Act.put, List.getElem_toArray, List.getElem_cons_succ, List.getElem_cons_zero, List.setIfInBounds_toArray, List.set_cons_zero, List.set_cons_succ]
        refine wpAnyT_takeA (i := 13) (v := .bool true) rfl (by kernel_rfl) rfl (fun _ _ _ hp => hp) (Or.inl ⟨by kernel_rfl, fun X _ => by go_simp⟩) hS1 ?_
        simp only [Act.put, List.getElem_toArray, List.getElem_cons_succ, List.getElem_cons_zero, List.setIfInBounds_toArray, List.set_cons_zero, List.set_cons_succ]
        refine wpAnyT_done (by kernel_rfl) ?_ _
        (try simp only [Act.put, List.getElem_toArray, List.getElem_cons_succ, List.getElem_cons_zero, List.setIfInBounds_toArray, List.set_cons_zero, List.set_cons_succ])
        clear hK1 K1 hS0 hS1
        go_wp2_with fail
        go_ret
        exact ⟨true, rfl, fun _ => rfl, hun.out H8.out⟩
      · have z1 : (r2 == r1) = false := beq_eq_false_iff_ne.2 fun e => hr e.symm
        refine wpAnyT_takeA (i := 12) (v := .bool false) rfl (by kernel_rfl) rfl (fun _ _ _ hp => hp) (Or.inl ⟨by kernel_rfl, fun X _ => by go_simp⟩) hS1 ?_
        simp only [Act.put, List.getElem_toArray, List.getElem_cons_succ, List.getElem_cons_zero, List.setIfInBounds_toArray, List.set_cons_zero, List.set_cons_succ]
        refine wpAnyT_takeA (i := 13) (v := .bool false) rfl (by kernel_rfl) rfl (fun _ _ _ hp => hp) (Or.inl ⟨by kernel_rfl, fun X _ => by go_simp⟩) hS1 ?_
        simp only [Act.put, List.getElem_toArray, List.getElem_cons_succ, List.getElem_cons_zero, List.setIfInBounds_toArray, List.set_cons_zero, List.set_cons_succ]
        refine wpAnyT_done (by kernel_rfl) ?_ _
        (try simp only [Act.put, List.getElem_toArray, List.getElem_cons_succ, List.getElem_cons_zero, List.setIfInBounds_toArray, List.set_cons_zero, List.set_cons_succ])
        clear hK1 K1 hS0 hS1
        go_wp2_with fail
        go_ret
        exact ⟨false, rfl, fun he => absurd he hr, hun.out H8.out⟩
  · go_wp2_with fail
    have hS0 : (fun X : World => Below w3.heap.size w3 X) w3.drew := (Below.refl _ _).drew
    refine wp_T (by kernel_rfl) 17 (fun X : World => Below w3.heap.size w3 X) ?_
    refine wpAnyT_takeA (i := 0) (v := .pointer (some ⟨q, 0, none⟩)) rfl (by kernel_rfl) rfl (fun _ _ _ hp => hp) (Or.inl ⟨by kernel_rfl, fun X _ => by go_simp⟩) hS0 ?_
    simp only [Act.put, List.getElem_toArray, List.getElem_cons_succ, List.getElem_cons_zero, List.setIfInBounds_toArray, List.set_cons_zero, List.set_cons_succ]
    refine wpAnyT_takeA (i := 1) (v := .pointer (some ⟨q, 0, none⟩)) rfl (by kernel_rfl) rfl (fun _ _ _ hp => hp) (Or.inl ⟨by kernel_rfl, fun X _ => by go_simp⟩) hS0 ?_
    simp only [Act.put, List.getElem_toArray, List.getElem_cons_succ, List.getElem_cons_zero, List.setIfInBounds_toArray, List.set_cons_zero, List.set_cons_succ]
    refine wpAnyT_takeA (i := 2) (v := .pointer (some ⟨q, 1, none⟩)) rfl (by kernel_rfl) rfl (fun _ _ _ hp => hp) (Or.inl ⟨by kernel_rfl, fun X _ => by go_simp⟩) hS0 ?_
    simp only [Act.put, List.getElem_toArray, List.getElem_cons_succ, List.getElem_cons_zero, List.setIfInBounds_toArray, List.set_cons_zero, List.set_cons_succ]
    refine wpAnyT_takeA (i := 3) (v := .agg (c18 V D.ph D.cyc)) rfl (by kernel_rfl) rfl (fun _ _ _ hp => hp) (yieldsIf_load_mid (by kernel_rfl) _ _ rfl q 1 (by kernel_rfl) [V.vw, V.vc, V.f 0, V.f 1, V.f 2, V.f 3, V.vo, V.vg, V.vb, .int .i64 D.ph, V.vl, .int .i64 D.cyc] _ (fun X hX => hat.out X hX) Tryz.underlying42 rfl r18_size) hS0 ?_
    simp only [Act.put, List.getElem_toArray, List.getElem_cons_succ, List.getElem_cons_zero, List.setIfInBounds_toArray, List.set_cons_zero, List.set_cons_succ]
    refine wpAnyT_takeA (i := 4) (v := .int .i64 a) rfl (by kernel_rfl) rfl (fun _ _ _ hp => hp) (Or.inl ⟨by kernel_rfl, fun X _ => by go_simp⟩) hS0 ?_
    simp only [Act.put, List.getElem_toArray, List.getElem_cons_succ, List.getElem_cons_zero, List.setIfInBounds_toArray, List.set_cons_zero, List.set_cons_succ]
    refine wpAnyT_takeA (i := 5) (v := .pointer (some ⟨g, 3, none⟩)) rfl (by kernel_rfl) rfl (fun _ _ _ hp => hp) (Or.inl ⟨by kernel_rfl, fun X _ => by go_simp⟩) hS0 ?_
    simp only [Act.put, List.getElem_toArray, List.getElem_cons_succ, List.getElem_cons_zero, List.setIfInBounds_toArray, List.set_cons_zero, List.set_cons_succ]
    refine wpAnyT_takeA (i := 6) (v := .int .u8 xk) rfl (by kernel_rfl) rfl (fun _ _ _ hp => hp) (Or.inl ⟨by kernel_rfl, fun X hX => by have hX1 : (fun X : World => Below w3.heap.size w3 X) X := hX; have y1 := (Below.cell (p := ⟨g, 3, none⟩) hX1 hg3).trans e3; go_simp⟩) hS0 ?_
    simp only [Act.put, List.getElem_toArray, List.getElem_cons_succ, List.getElem_cons_zero, List.setIfInBounds_toArray, List.set_cons_zero, List.set_cons_succ]
    refine wpAnyT_takeA (i := 7) (v := .int .i64 xk) rfl (by kernel_rfl) rfl (fun _ _ _ hp => hp) (Or.inl ⟨by kernel_rfl, fun X _ => by have wkz := wk.out; go_simp⟩) hS0 ?_
    simp only [Act.put, List.getElem_toArray, List.getElem_cons_succ, List.getElem_cons_zero, List.setIfInBounds_toArray, List.set_cons_zero, List.set_cons_succ]
    refine wpAnyT_takeA (i := 8) (v := .int .i64 (j : Int)) rfl (by kernel_rfl) rfl (fun _ _ _ hp => hp) (Or.inl ⟨by kernel_rfl, fun X _ => by have tkz := tk.out; go_simp⟩) hS0 ?_
    simp only [Act.put, List.getElem_toArray, List.getElem_cons_succ, List.getElem_cons_zero, List.setIfInBounds_toArray, List.set_cons_zero, List.set_cons_succ]
    refine wpAnyT_takeA (i := 9) (v := .int .i64 b) rfl (by kernel_rfl) rfl (fun _ _ _ hp => hp) (Or.inl ⟨by kernel_rfl, fun X _ => by go_simp⟩) hS0 ?_
    simp only [Act.put, List.getElem_toArray, List.getElem_cons_succ, List.getElem_cons_zero, List.setIfInBounds_toArray, List.set_cons_zero, List.set_cons_succ]
    refine wpAnyT_two (i := 10) (j := 14) rfl rfl (by kernel_rfl) (by kernel_rfl) (by kernel_rfl) ?_ ?_
    · intro K1 hK1
      go_simp
      refine (HC.out Q _ (xv.out.below hS0) (hQ.out.le (Below.size hS0))).mono ?_
      rintro e w4 ⟨V4, rfl, xv4, b4⟩
      dsimp only
      have hS1 : (fun X : World => Below w3.heap.size w3 X) w4 := Below.trans hS0 (Below.mono b4 (Below.size hS0))
      have ON4 := Lib.hid (xv4.one D1.ph D1.cyc)
      refine hK1.out _ _ (fun _ => hS1) ?_
      (try simp only [Act.put, List.getElem_toArray, List.getElem_cons_succ, List.getElem_cons_zero, List.setIfInBounds_toArray, List.set_cons_zero, List.set_cons_succ])
      refine wpAnyT_takeA (i := 11) (v := .tuple #[.agg (c18 V4 D1.ph D1.cyc), .int .i64 r1]) rfl (by kernel_rfl) rfl (fun _ _ _ hp => hp) (Or.inl ⟨by kernel_rfl, fun X _ => by go_simp⟩) hS1 ?_
      simp only [Act.put, List.getElem_toArray, List.getElem_cons_succ, List.getElem_cons_zero, List.setIfInBounds_toArray, List.set_cons_zero, List.set_cons_succ]
      refine wpAnyT_takeA (i := 12) (v := .agg (c18 V4 D1.ph D1.cyc)) rfl (by kernel_rfl) rfl (fun _ _ _ hp => hp) (Or.inl ⟨by kernel_rfl, fun X _ => by go_simp⟩) hS1 ?_
      simp only [Act.put, List.getElem_toArray, List.getElem_cons_succ, List.getElem_cons_zero, List.setIfInBounds_toArray, List.set_cons_zero, List.set_cons_succ]
      refine wpAnyT_takeA (i := 13) (v := .int .i64 r1) rfl (by kernel_rfl) rfl (fun _ _ _ hp => hp) (Or.inl ⟨by kernel_rfl, fun X _ => by go_simp⟩) hS1 ?_
      simp only [Act.put, List.getElem_toArray, List.getElem_cons_succ, List.getElem_cons_zero, List.setIfInBounds_toArray, List.set_cons_zero, List.set_cons_succ]
      refine wpAnyT_one (i := 14) rfl (by kernel_rfl) (by kernel_rfl) ?_
      intro K2 hK2
      simp only [List.getElem_toArray, List.getElem_cons_succ, List.getElem_cons_zero]
      refine wp_new (.alloc 42) rfl 42 n18 (by kernel_rfl) ?_
      have hS2 : (fun X : World => Below w3.heap.size w3 X) (w4.alloc (.cells n18 42)) := Below.trans hS1 ((below_alloc w4 _).mono (Below.size hS1))
      refine hK2.out _ _ (fun _ => hS2) ?_
      (try simp only [Act.put, List.getElem_toArray, List.getElem_cons_succ, List.getElem_cons_zero, List.setIfInBounds_toArray, List.set_cons_zero, List.set_cons_succ])
      refine wpAnyT_one (i := 15) rfl (by kernel_rfl) (by kernel_rfl) ?_
      intro K3 hK3
      simp only [List.getElem_toArray, List.getElem_cons_succ, List.getElem_cons_zero]
      refine wp_store_blk 42 _ _ rfl w4.heap.size rfl (c18 V4 D1.ph D1.cyc) rfl 42 n18 (Blk.new w4 _ _) r18_size rfl ON4.out ?_
      intro w6 hB6 hg6 hs6
      have hS3 : (fun X : World => Below w3.heap.size w3 X) w6 := Below.grown hS2 hg6 (Below.size hS2) (fun k hk => by cases hk; exact Below.size hS1)
      refine hK3.out _ _ (fun _ => hS3) ?_
      (try simp only [Act.put, List.getElem_toArray, List.getElem_cons_succ, List.getElem_cons_zero, List.setIfInBounds_toArray, List.set_cons_zero, List.set_cons_succ])
      refine wpAnyT_takeA (i := 16) (v := .int .i64 r1) rfl (by kernel_rfl) rfl (fun _ _ _ hp => hp) (Or.inl ⟨by kernel_rfl, fun X _ => by go_simp⟩) hS3 ?_
      simp only [Act.put, List.getElem_toArray, List.getElem_cons_succ, List.getElem_cons_zero, List.setIfInBounds_toArray, List.set_cons_zero, List.set_cons_succ]
      refine wpAnyT_done (by kernel_rfl) ?_ _
      (try simp only [Act.put, List.getElem_toArray, List.getElem_cons_succ, List.getElem_cons_zero, List.setIfInBounds_toArray, List.set_cons_zero, List.set_cons_succ])
      clear hK1 K1 hK2 K2 hK3 K3
      have b46 : Below w4.heap.size w4 w6 := (below_alloc w4 _).grown hg6 (by simp) (fun k hk => by cases hk; exact Nat.le_refl _)
      have xv6 := Lib.hid (xv4.below b46)
      obtain ⟨gB, hgB⟩ : ∃ gB, gB = w4.heap.size := ⟨_, rfl⟩
      rw [← hgB] at hB6 ⊢
      have b6 : Below w3.heap.size w3 w6 := hS3
      clear hS0 hS1 hS2 hS3 hg6 hs6 b46 xv4 b4
      obtain ⟨ht, hz7, ho7, H7⟩ := hput.out w6 _ V4 b6 xv6.out
      have ht4 : w6.there q 1 (c18 V4 (D1).ph (D1).cyc).size := ht
      replace hB6 := Lib.hid hB6
      replace ht4 := Lib.hid ht4
      replace H7 := Lib.hid H7
      replace hz7 := Lib.hid hz7
      replace ho7 := Lib.hid ho7
      clear ht
      go_wp2_with (first
        | (refine wpList_load_blk rfl 42 (.tmp 22) rfl gB rfl 42 (c18 V4 (D1).ph (D1).cyc) hB6.out _ Tryz.underlying42 rfl SZ.out ?_)
        | (refine wpList_store_mid rfl 42 (.tmp 169) (.tmp 167) rfl q 1 (c18 V4 (D1).ph (D1).cyc) rfl rfl ht4.out SZ.out ON4.out ?_; refine stop_here ?_))
      obtain ⟨w7, hw7⟩ : ∃ w7, w7 = w6.setCells q 1 (c18 V4 (D1).ph (D1).cyc).toList := ⟨_, rfl⟩
      rw [← hw7] at H7 hz7 ho7 ⊢
      replace hw7 := Lib.hid hw7
      have c0 := H7.out.cells.1
      clear hB6 ht4 hput xv6 b6 ON4
      refine go_on ?_
      have f7 : w7.cell? ⟨g, 3, none⟩ = some (.int .u8 xk) := cell_keep H7.out hgw hg3 e3
      have HA := Lib.hid ((H7.out.below (show Below w7.heap.size w7 w7.drew from (Below.refl _ _).drew)).call (P := fun e _ => e = .returned (.int .i64 (qPut T a j b true).2)) (T' := (qPut T a j b true).1) fun v0 L => ls_put L a j b true (by have := hab.out; omega) (by have := hbb.out; omega))
      rw [hT1.out] at HA
      dsimp only at HA
      go_wp2_with fail
      have hS0 : (fun X : World => X.cell? ⟨q, 0, none⟩ = some (.pointer (some ⟨s, 0, none⟩)) ∧ X.cell? ⟨g, 3, none⟩ = some (.int .u8 xk)) w7.drew := ⟨c0, f7⟩
      refine wp_T (by kernel_rfl) 14 (fun X : World => X.cell? ⟨q, 0, none⟩ = some (.pointer (some ⟨s, 0, none⟩)) ∧ X.cell? ⟨g, 3, none⟩ = some (.int .u8 xk)) ?_
      refine wpAnyT_takeA (i := 0) (v := .pointer (some ⟨q, 0, none⟩)) rfl (by kernel_rfl) rfl (fun _ _ _ hp => hp) (Or.inl ⟨by kernel_rfl, fun X _ => by go_simp⟩) hS0 ?_
      simp only [Act.put, List.getElem_toArray, List.getElem_cons_succ, List.getElem_cons_zero, List.setIfInBounds_toArray, List.set_cons_zero, List.set_cons_succ]
      refine wpAnyT_takeA (i := 1) (v := .pointer (some ⟨q, 0, none⟩)) rfl (by kernel_rfl) rfl (fun _ _ _ hp => hp) (Or.inl ⟨by kernel_rfl, fun X _ => by go_simp⟩) hS0 ?_
      simp only [Act.put, List.getElem_toArray, List.getElem_cons_succ, List.getElem_cons_zero, List.setIfInBounds_toArray, List.set_cons_zero, List.set_cons_succ]
      refine wpAnyT_takeA (i := 2) (v := .pointer (some ⟨q, 0, none⟩)) rfl (by kernel_rfl) rfl (fun _ _ _ hp => hp) (Or.inl ⟨by kernel_rfl, fun X _ => by go_simp⟩) hS0 ?_
      simp only [Act.put, List.getElem_toArray, List.getElem_cons_succ, List.getElem_cons_zero, List.setIfInBounds_toArray, List.set_cons_zero, List.set_cons_succ]
      refine wpAnyT_takeA (i := 3) (v := .pointer (some ⟨s, 0, none⟩)) rfl (by kernel_rfl) rfl (fun _ _ _ hp => hp) (Or.inl ⟨by kernel_rfl, fun X hX => by have hX1 : (fun X : World => X.cell? ⟨q, 0, none⟩ = some (.pointer (some ⟨s, 0, none⟩)) ∧ X.cell? ⟨g, 3, none⟩ = some (.int .u8 xk)) X := hX; have y1 : X.cell? ⟨q, 0, none⟩ = some (.pointer (some ⟨s, 0, none⟩)) := hX1.1; go_simp⟩) hS0 ?_
      simp only [Act.put, List.getElem_toArray, List.getElem_cons_succ, List.getElem_cons_zero, List.setIfInBounds_toArray, List.set_cons_zero, List.set_cons_succ]
      refine wpAnyT_takeA (i := 4) (v := .int .i64 a) rfl (by kernel_rfl) rfl (fun _ _ _ hp => hp) (Or.inl ⟨by kernel_rfl, fun X _ => by go_simp⟩) hS0 ?_
      simp only [Act.put, List.getElem_toArray, List.getElem_cons_succ, List.getElem_cons_zero, List.setIfInBounds_toArray, List.set_cons_zero, List.set_cons_succ]
      refine wpAnyT_takeA (i := 5) (v := .pointer (some ⟨g, 3, none⟩)) rfl (by kernel_rfl) rfl (fun _ _ _ hp => hp) (Or.inl ⟨by kernel_rfl, fun X _ => by go_simp⟩) hS0 ?_
      simp only [Act.put, List.getElem_toArray, List.getElem_cons_succ, List.getElem_cons_zero, List.setIfInBounds_toArray, List.set_cons_zero, List.set_cons_succ]
      refine wpAnyT_takeA (i := 6) (v := .int .u8 xk) rfl (by kernel_rfl) rfl (fun _ _ _ hp => hp) (Or.inl ⟨by kernel_rfl, fun X hX => by have hX1 : (fun X : World => X.cell? ⟨q, 0, none⟩ = some (.pointer (some ⟨s, 0, none⟩)) ∧ X.cell? ⟨g, 3, none⟩ = some (.int .u8 xk)) X := hX; have y1 : X.cell? ⟨g, 3, none⟩ = some (.int .u8 xk) := hX1.2; go_simp⟩) hS0 ?_
      simp only [Act.put, List.getElem_toArray, List.getElem_cons_succ, List.getElem_cons_zero, List.setIfInBounds_toArray, List.set_cons_zero, List.set_cons_succ]
      refine wpAnyT_takeA (i := 7) (v := .int .i64 xk) rfl (by kernel_rfl) rfl (fun _ _ _ hp => hp) (Or.inl ⟨by kernel_rfl, fun X _ => by have wkz := wk.out; go_simp⟩) hS0 ?_
      simp only [Act.put, List.getElem_toArray, List.getElem_cons_succ, List.getElem_cons_zero, List.setIfInBounds_toArray, List.set_cons_zero, List.set_cons_succ]
      refine wpAnyT_takeA (i := 8) (v := .int .i64 (j : Int)) rfl (by kernel_rfl) rfl (fun _ _ _ hp => hp) (Or.inl ⟨by kernel_rfl, fun X _ => by have tkz := tk.out; go_simp⟩) hS0 ?_
      simp only [Act.put, List.getElem_toArray, List.getElem_cons_succ, List.getElem_cons_zero, List.setIfInBounds_toArray, List.set_cons_zero, List.set_cons_succ]
      refine wpAnyT_takeA (i := 9) (v := .int .i64 b) rfl (by kernel_rfl) rfl (fun _ _ _ hp => hp) (Or.inl ⟨by kernel_rfl, fun X _ => by go_simp⟩) hS0 ?_
      simp only [Act.put, List.getElem_toArray, List.getElem_cons_succ, List.getElem_cons_zero, List.setIfInBounds_toArray, List.set_cons_zero, List.set_cons_succ]
      refine wpAnyT_takeA (i := 11) (v := .int .i64 r1) rfl (by kernel_rfl) rfl (fun _ _ _ hp => hp) (Or.inl ⟨by kernel_rfl, fun X _ => by go_simp⟩) hS0 ?_
      simp only [Act.put, List.getElem_toArray, List.getElem_cons_succ, List.getElem_cons_zero, List.setIfInBounds_toArray, List.set_cons_zero, List.set_cons_succ]
      refine wpAnyT_one (i := 10) rfl (by kernel_rfl) (by kernel_rfl) ?_
      intro K1 hK1
      go_simp
      refine (HA.out).mono ?_
      rintro e w8 ⟨rfl, H8⟩
      dsimp only
      have hS1 : (fun X : World => X.cell? ⟨q, 0, none⟩ = some (.pointer (some ⟨s, 0, none⟩)) ∧ X.cell? ⟨g, 3, none⟩ = some (.int .u8 xk)) w8 := ⟨H8.cells.1, cell_keep H8 hgw hg3 e3⟩
      replace H8 := Lib.hid H8
      refine hK1.out _ _ (fun _ => hS1) ?_
      (try simp only [Act.put, List.getElem_toArray, List.getElem_cons_succ, List.getElem_cons_zero, List.setIfInBounds_toArray, List.set_cons_zero, List.set_cons_succ])
      by_cases hr : r1 = r2
      · subst hr
        refine wpAnyT_takeA (i := 12) (v := .bool true) rfl (by kernel_rfl) rfl (fun _ _ _ hp => hp) (Or.inl ⟨by kernel_rfl, fun X _ => by go_simp⟩) hS1 ?_
        simp only [Act.put, List.getElem_toArray, List.getElem_cons_succ, List.getElem_cons_zero, List.setIfInBounds_toArray, List.set_cons_zero, List.set_cons_succ]
        refine wpAnyT_takeA (i := 13) (v := .bool true) rfl (by kernel_rfl) rfl (fun _ _ _ hp => hp) (Or.inl ⟨by kernel_rfl, fun X _ => by go_simp⟩) hS1 ?_
        simp only [Act.put, List.getElem_toArray, List.getElem_cons_succ, List.getElem_cons_zero, List.setIfInBounds_toArray, List.set_cons_zero, List.set_cons_succ]
        refine wpAnyT_done (by kernel_rfl) ?_ _
        (try simp only [Act.put, List.getElem_toArray, List.getElem_cons_succ, List.getElem_cons_zero, List.setIfInBounds_toArray, List.set_cons_zero, List.set_cons_succ])
        clear hK1 K1 hS0 hS1
        go_wp2_with fail
        go_ret
        exact ⟨true, rfl, fun _ => rfl, hun.out H8.out⟩
      · have z1 : (r2 == r1) = false := beq_eq_false_iff_ne.2 fun e => hr e.symm
        refine wpAnyT_takeA (i := 12) (v := .bool false) rfl (by kernel_rfl) rfl (fun _ _ _ hp => hp) (Or.inl ⟨by kernel_rfl, fun X _ => by go_simp⟩) hS1 ?_
        simp only [Act.put, List.getElem_toArray, List.getElem_cons_succ, List.getElem_cons_zero, List.setIfInBounds_toArray, List.set_cons_zero, List.set_cons_succ]
        refine wpAnyT_takeA (i := 13) (v := .bool false) rfl (by kernel_rfl) rfl (fun _ _ _ hp => hp) (Or.inl ⟨by kernel_rfl, fun X _ => by go_simp⟩) hS1 ?_
        simp only [Act.put, List.getElem_toArray, List.getElem_cons_succ, List.getElem_cons_zero, List.setIfInBounds_toArray, List.set_cons_zero, List.set_cons_succ]
        refine wpAnyT_done (by kernel_rfl) ?_ _
        (try simp only [Act.put, List.getElem_toArray, List.getElem_cons_succ, List.getElem_cons_zero, List.setIfInBounds_toArray, List.set_cons_zero, List.set_cons_succ])
        clear hK1 K1 hS0 hS1
        go_wp2_with fail
        go_ret
        exact ⟨false, rfl, fun he => absurd he hr, hun.out H8.out⟩
    · intro K1 hK1
      simp only [List.getElem_toArray, List.getElem_cons_succ, List.getElem_cons_zero]
      refine wp_new (.alloc 42) rfl 42 n18 (by kernel_rfl) ?_
      have hS1 : (fun X : World => Below w3.heap.size w3 X) (w3.drew.alloc (.cells n18 42)) := Below.trans hS0 ((below_alloc w3.drew _).mono (Below.size hS0))
      refine hK1.out _ _ (fun _ => hS1) ?_
      (try simp only [Act.put, List.getElem_toArray, List.getElem_cons_succ, List.getElem_cons_zero, List.setIfInBounds_toArray, List.set_cons_zero, List.set_cons_succ])
      refine wpAnyT_one (i := 10) rfl (by kernel_rfl) (by kernel_rfl) ?_
      intro K2 hK2
      go_simp
      have hz0 : (w3.drew.alloc (.cells n18 42)).heap.size = w3.heap.size + 1 := (show (w3.drew.alloc (.cells n18 42)).heap.size = w3.drew.heap.size + 1 by simp)
      refine (HC.out (fun b => Q b ∧ b ≠ w3.heap.size) _ (xv.out.keepQ (Below.size hS1) (fun b _ hlt => Below.block hS1 b hlt) fun b hb hlt => ⟨hb, by omega⟩) (fun b hb => ⟨hQ.out b (Nat.le_trans (Below.size hS1) hb), by omega⟩)).mono ?_
      rintro e w4 ⟨V4, rfl, xv4, b4⟩
      dsimp only
      have hS2 : (fun X : World => Below w3.heap.size w3 X) w4 := Below.trans hS1 (Below.mono b4 (Below.size hS1))
      have ON4 := Lib.hid (xv4.one D1.ph D1.cyc)
      have hBn := (Blk.new w3.drew 42 n18).below b4 (Blk.new w3.drew 42 n18).lt
      refine hK2.out _ _ (fun _ => hS2) ?_
      (try simp only [Act.put, List.getElem_toArray, List.getElem_cons_succ, List.getElem_cons_zero, List.setIfInBounds_toArray, List.set_cons_zero, List.set_cons_succ])
      refine wpAnyT_takeA (i := 11) (v := .tuple #[.agg (c18 V4 D1.ph D1.cyc), .int .i64 r1]) rfl (by kernel_rfl) rfl (fun _ _ _ hp => hp) (Or.inl ⟨by kernel_rfl, fun X _ => by go_simp⟩) hS2 ?_
      simp only [Act.put, List.getElem_toArray, List.getElem_cons_succ, List.getElem_cons_zero, List.setIfInBounds_toArray, List.set_cons_zero, List.set_cons_succ]
      refine wpAnyT_takeA (i := 12) (v := .agg (c18 V4 D1.ph D1.cyc)) rfl (by kernel_rfl) rfl (fun _ _ _ hp => hp) (Or.inl ⟨by kernel_rfl, fun X _ => by go_simp⟩) hS2 ?_
      simp only [Act.put, List.getElem_toArray, List.getElem_cons_succ, List.getElem_cons_zero, List.setIfInBounds_toArray, List.set_cons_zero, List.set_cons_succ]
      refine wpAnyT_takeA (i := 13) (v := .int .i64 r1) rfl (by kernel_rfl) rfl (fun _ _ _ hp => hp) (Or.inl ⟨by kernel_rfl, fun X _ => by go_simp⟩) hS2 ?_
      simp only [Act.put, List.getElem_toArray, List.getElem_cons_succ, List.getElem_cons_zero, List.setIfInBounds_toArray, List.set_cons_zero, List.set_cons_succ]
      refine wpAnyT_one (i := 15) rfl (by kernel_rfl) (by kernel_rfl) ?_
      intro K3 hK3
      simp only [List.getElem_toArray, List.getElem_cons_succ, List.getElem_cons_zero]
      refine wp_store_blk 42 _ _ rfl w3.drew.heap.size rfl (c18 V4 D1.ph D1.cyc) rfl 42 n18 hBn r18_size rfl ON4.out ?_
      intro w6 hB6 hg6 hs6
      have hS3 : (fun X : World => Below w3.heap.size w3 X) w6 := Below.grown hS2 hg6 (Below.size hS2) (fun k hk => by cases hk; exact Nat.le_refl _)
      refine hK3.out _ _ (fun _ => hS3) ?_
      (try simp only [Act.put, List.getElem_toArray, List.getElem_cons_succ, List.getElem_cons_zero, List.setIfInBounds_toArray, List.set_cons_zero, List.set_cons_succ])
      refine wpAnyT_takeA (i := 16) (v := .int .i64 r1) rfl (by kernel_rfl) rfl (fun _ _ _ hp => hp) (Or.inl ⟨by kernel_rfl, fun X _ => by go_simp⟩) hS3 ?_
      simp only [Act.put, List.getElem_toArray, List.getElem_cons_succ, List.getElem_cons_zero, List.setIfInBounds_toArray, List.set_cons_zero, List.set_cons_succ]
      refine wpAnyT_done (by kernel_rfl) ?_ _
      (try simp only [Act.put, List.getElem_toArray, List.getElem_cons_succ, List.getElem_cons_zero, List.setIfInBounds_toArray, List.set_cons_zero, List.set_cons_succ])
      clear hK1 K1 hK2 K2 hK3 K3
      have xv6 := Lib.hid (xv4.stored (Q' := Q) hg6 fun b hb => ⟨hb.1, hb.2⟩)
      replace hB6 : Blk w6 w3.heap.size 42 (c18 V4 D1.ph D1.cyc) := hB6
      obtain ⟨gB, hgB⟩ : ∃ gB, gB = w3.heap.size := ⟨_, rfl⟩
      rw [← hgB] at hB6 ⊢
      have b6 : Below w3.heap.size w3 w6 := hS3
      clear hS0 hS1 hS2 hS3 hg6 hs6 hBn xv4 b4
      obtain ⟨ht, hz7, ho7, H7⟩ := hput.out w6 _ V4 b6 xv6.out
      have ht4 : w6.there q 1 (c18 V4 (D1).ph (D1).cyc).size := ht
      replace hB6 := Lib.hid hB6
      replace ht4 := Lib.hid ht4
      replace H7 := Lib.hid H7
      replace hz7 := Lib.hid hz7
      replace ho7 := Lib.hid ho7
      clear ht
      go_wp2_with (first
        | (refine wpList_load_blk rfl 42 (.tmp 22) rfl gB rfl 42 (c18 V4 (D1).ph (D1).cyc) hB6.out _ Tryz.underlying42 rfl SZ.out ?_)
        | (refine wpList_store_mid rfl 42 (.tmp 169) (.tmp 167) rfl q 1 (c18 V4 (D1).ph (D1).cyc) rfl rfl ht4.out SZ.out ON4.out ?_; refine stop_here ?_))
      obtain ⟨w7, hw7⟩ : ∃ w7, w7 = w6.setCells q 1 (c18 V4 (D1).ph (D1).cyc).toList := ⟨_, rfl⟩
      rw [← hw7] at H7 hz7 ho7 ⊢
      replace hw7 := Lib.hid hw7
      have c0 := H7.out.cells.1
      clear hB6 ht4 hput xv6 b6 ON4
      refine go_on ?_
      have f7 : w7.cell? ⟨g, 3, none⟩ = some (.int .u8 xk) := cell_keep H7.out hgw hg3 e3
      have HA := Lib.hid ((H7.out.below (show Below w7.heap.size w7 w7.drew from (Below.refl _ _).drew)).call (P := fun e _ => e = .returned (.int .i64 (qPut T a j b true).2)) (T' := (qPut T a j b true).1) fun v0 L => ls_put L a j b true (by have := hab.out; omega) (by have := hbb.out; omega))
      rw [hT1.out] at HA
      dsimp only at HA
      go_wp2_with fail
      have hS0 : (fun X : World => X.cell? ⟨q, 0, none⟩ = some (.pointer (some ⟨s, 0, none⟩)) ∧ X.cell? ⟨g, 3, none⟩ = some (.int .u8 xk)) w7.drew := ⟨c0, f7⟩
      refine wp_T (by kernel_rfl) 14 (fun X : World => X.cell? ⟨q, 0, none⟩ = some (.pointer (some ⟨s, 0, none⟩)) ∧ X.cell? ⟨g, 3, none⟩ = some (.int .u8 xk)) ?_
      refine wpAnyT_takeA (i := 0) (v := .pointer (some ⟨q, 0, none⟩)) rfl (by kernel_rfl) rfl (fun _ _ _ hp => hp) (Or.inl ⟨by kernel_rfl, fun X _ => by go_simp⟩) hS0 ?_
      simp only [Act.put, List.getElem_toArray, List.getElem_cons_succ, List.getElem_cons_zero, List.setIfInBounds_toArray, List.set_cons_zero, List.set_cons_succ]
      refine wpAnyT_takeA (i := 1) (v := .pointer (some ⟨q, 0, none⟩)) rfl (by kernel_rfl) rfl (fun _ _ _ hp => hp) (Or.inl ⟨by kernel_rfl, fun X _ => by go_simp⟩) hS0 ?_
      simp only [Act.put, List.getElem_toArray, List.getElem_cons_succ, List.getElem_cons_zero, List.setIfInBounds_toArray, List.set_cons_zero, List.set_cons_succ]
      refine wpAnyT_takeA (i := 2) (v := .pointer (some ⟨q, 0, none⟩)) rfl (by kernel_rfl) rfl (fun _ _ _ hp => hp) (Or.inl ⟨by kernel_rfl, fun X _ => by go_simp⟩) hS0 ?_
      simp only [Act.put, List.getElem_toArray, List.getElem_cons_succ, List.getElem_cons_zero, List.setIfInBounds_toArray, List.set_cons_zero, List.set_cons_succ]
      refine wpAnyT_takeA (i := 3) (v := .pointer (some ⟨s, 0, none⟩)) rfl (by kernel_rfl) rfl (fun _ _ _ hp => hp) (Or.inl ⟨by kernel_rfl, fun X hX => by have hX1 : (fun X : World => X.cell? ⟨q, 0, none⟩ = some (.pointer (some ⟨s, 0, none⟩)) ∧ X.cell? ⟨g, 3, none⟩ = some (.int .u8 xk)) X := hX; have y1 : X.cell? ⟨q, 0, none⟩ = some (.pointer (some ⟨s, 0, none⟩)) := hX1.1; go_simp⟩) hS0 ?_
      simp only [Act.put, List.getElem_toArray, List.getElem_cons_succ, List.getElem_cons_zero, List.setIfInBounds_toArray, List.set_cons_zero, List.set_cons_succ]
      refine wpAnyT_takeA (i := 4) (v := .int .i64 a) rfl (by kernel_rfl) rfl (fun _ _ _ hp => hp) (Or.inl ⟨by kernel_rfl, fun X _ => by go_simp⟩) hS0 ?_
      simp only [Act.put, List.getElem_toArray, List.getElem_cons_succ, List.getElem_cons_zero, List.setIfInBounds_toArray, List.set_cons_zero, List.set_cons_succ]
      refine wpAnyT_takeA (i := 5) (v := .pointer (some ⟨g, 3, none⟩)) rfl (by kernel_rfl) rfl (fun _ _ _ hp => hp) (Or.inl ⟨by kernel_rfl, fun X _ => by go_simp⟩) hS0 ?_
      simp only [Act.put, List.getElem_toArray, List.getElem_cons_succ, List.getElem_cons_zero, List.setIfInBounds_toArray, List.set_cons_zero, List.set_cons_succ]
      refine wpAnyT_takeA (i := 6) (v := .int .u8 xk) rfl (by kernel_rfl) rfl (fun _ _ _ hp => hp) (Or.inl ⟨by kernel_rfl, fun X hX => by have hX1 : (fun X : World => X.cell? ⟨q, 0, none⟩ = some (.pointer (some ⟨s, 0, none⟩)) ∧ X.cell? ⟨g, 3, none⟩ = some (.int .u8 xk)) X := hX; have y1 : X.cell? ⟨g, 3, none⟩ = some (.int .u8 xk) := hX1.2; go_simp⟩) hS0 ?_
      simp only [Act.put, List.getElem_toArray, List.getElem_cons_succ, List.getElem_cons_zero, List.setIfInBounds_toArray, List.set_cons_zero, List.set_cons_succ]
      refine wpAnyT_takeA (i := 7) (v := .int .i64 xk) rfl (by kernel_rfl) rfl (fun _ _ _ hp => hp) (Or.inl ⟨by kernel_rfl, fun X _ => by have wkz := wk.out; go_simp⟩) hS0 ?_
      simp only [Act.put, List.getElem_toArray, List.getElem_cons_succ, List.getElem_cons_zero, List.setIfInBounds_toArray, List.set_cons_zero, List.set_cons_succ]
      refine wpAnyT_takeA (i := 8) (v := .int .i64 (j : Int)) rfl (by kernel_rfl) rfl (fun _ _ _ hp => hp) (Or.inl ⟨by kernel_rfl, fun X _ => by have tkz := tk.out; go_simp⟩) hS0 ?_
      simp only [Act.put, List.getElem_toArray, List.getElem_cons_succ, List.getElem_cons_zero, List.setIfInBounds_toArray, List.set_cons_zero, List.set_cons_succ]
      refine wpAnyT_takeA (i := 9) (v := .int .i64 b) rfl (by kernel_rfl) rfl (fun _ _ _ hp => hp) (Or.inl ⟨by kernel_rfl, fun X _ => by go_simp⟩) hS0 ?_
      simp only [Act.put, List.getElem_toArray, List.getElem_cons_succ, List.getElem_cons_zero, List.setIfInBounds_toArray, List.set_cons_zero, List.set_cons_succ]
      refine wpAnyT_takeA (i := 11) (v := .int .i64 r1) rfl (by kernel_rfl) rfl (fun _ _ _ hp => hp) (Or.inl ⟨by kernel_rfl, fun X _ => by go_simp⟩) hS0 ?_
      simp only [Act.put, List.getElem_toArray, List.getElem_cons_succ, List.getElem_cons_zero, List.setIfInBounds_toArray, List.set_cons_zero, List.set_cons_succ]
      refine wpAnyT_one (i := 10) rfl (by kernel_rfl) (by kernel_rfl) ?_
      intro K1 hK1
      go_simp
      refine (HA.out).mono ?_
      rintro e w8 ⟨rfl, H8⟩
      dsimp only
      have hS1 : (fun X : World => X.cell? ⟨q, 0, none⟩ = some (.pointer (some ⟨s, 0, none⟩)) ∧ X.cell? ⟨g, 3, none⟩ = some (.int .u8 xk)) w8 := ⟨H8.cells.1, cell_keep H8 hgw hg3 e3⟩
      replace H8 := Lib.hid H8
      refine hK1.out _ _ (fun _ => hS1) ?_
      (try simp only [Act.put, List.getElem_toArray, List.getElem_cons_succ, List.getElem_cons_zero, List.setIfInBounds_toArray, List.set_cons_zero, List.set_cons_succ])
      by_cases hr : r1 = r2
      · subst hr
        refine wpAnyT_takeA (i := 12) (v := .bool true) rfl (by kernel_rfl) rfl (fun _ _ _ hp => hp) (Or.inl ⟨by kernel_rfl, fun X _ => by go_simp⟩) hS1 ?_
        simp only [Act.put, List.getElem_toArray, List.getElem_cons_succ, List.getElem_cons_zero, List.setIfInBounds_toArray, List.set_cons_zero, List.set_cons_succ]
        refine wpAnyT_takeA (i := 13) (v := .bool true) rfl (by kernel_rfl) rfl (fun _ _ _ hp => hp) (Or.inl ⟨by kernel_rfl, fun X _ => by go_simp⟩) hS1 ?_
        simp only [Act.put, List.getElem_toArray, List.getElem_cons_succ, List.getElem_cons_zero, List.setIfInBounds_toArray, List.set_cons_zero, List.set_cons_succ]
        refine wpAnyT_done (by kernel_rfl) ?_ _
        (try simp only [Act.put, List.getElem_toArray, List.getElem_cons_succ, List.getElem_cons_zero, List.setIfInBounds_toArray, List.set_cons_zero, List.set_cons_succ])
        clear hK1 K1 hS0 hS1
        go_wp2_with fail
        go_ret
        exact ⟨true, rfl, fun _ => rfl, hun.out H8.out⟩
      · have z1 : (r2 == r1) = false := beq_eq_false_iff_ne.2 fun e => hr e.symm
        refine wpAnyT_takeA (i := 12) (v := .bool false) rfl (by kernel_rfl) rfl (fun _ _ _ hp => hp) (Or.inl ⟨by kernel_rfl, fun X _ => by go_simp⟩) hS1 ?_
        simp only [Act.put, List.getElem_toArray, List.getElem_cons_succ, List.getElem_cons_zero, List.setIfInBounds_toArray, List.set_cons_zero, List.set_cons_succ]
        refine wpAnyT_takeA (i := 13) (v := .bool false) rfl (by kernel_rfl) rfl (fun _ _ _ hp => hp) (Or.inl ⟨by kernel_rfl, fun X _ => by go_simp⟩) hS1 ?_
        simp only [Act.put, List.getElem_toArray, List.getElem_cons_succ, List.getElem_cons_zero, List.setIfInBounds_toArray, List.set_cons_zero, List.set_cons_succ]
        refine wpAnyT_done (by kernel_rfl) ?_ _
        (try simp only [Act.put, List.getElem_toArray, List.getElem_cons_succ, List.getElem_cons_zero, List.setIfInBounds_toArray, List.set_cons_zero, List.set_cons_succ])
        clear hK1 K1 hS0 hS1
        go_wp2_with fail
        go_ret
        exact ⟨false, rfl, fun he => absurd he hr, hun.out H8.out⟩
  · go_wp2_with fail
    have hS0 : (fun X : World => Below w3.heap.size w3 X) w3.drew := (Below.refl _ _).drew
    refine wp_T (by kernel_rfl) 17 (fun X : World => Below w3.heap.size w3 X) ?_
    refine wpAnyT_takeA (i := 0) (v := .pointer (some ⟨q, 0, none⟩)) rfl (by kernel_rfl) rfl (fun _ _ _ hp => hp) (Or.inl ⟨by kernel_rfl, fun X _ => by go_simp⟩) hS0 ?_
    simp only [Act.put, List.getElem_toArray, List.getElem_cons_succ, List.getElem_cons_zero, List.setIfInBounds_toArray, List.set_cons_zero, List.set_cons_succ]
    refine wpAnyT_takeA (i := 1) (v := .pointer (some ⟨q, 0, none⟩)) rfl (by kernel_rfl) rfl (fun _ _ _ hp => hp) (Or.inl ⟨by kernel_rfl, fun X _ => by go_simp⟩) hS0 ?_
    simp only [Act.put, List.getElem_toArray, List.getElem_cons_succ, List.getElem_cons_zero, List.setIfInBounds_toArray, List.set_cons_zero, List.set_cons_succ]
    refine wpAnyT_takeA (i := 2) (v := .pointer (some ⟨q, 1, none⟩)) rfl (by kernel_rfl) rfl (fun _ _ _ hp => hp) (Or.inl ⟨by kernel_rfl, fun X _ => by go_simp⟩) hS0 ?_
    simp only [Act.put, List.getElem_toArray, List.getElem_cons_succ, List.getElem_cons_zero, List.setIfInBounds_toArray, List.set_cons_zero, List.set_cons_succ]
    refine wpAnyT_takeA (i := 3) (v := .agg (c18 V D.ph D.cyc)) rfl (by kernel_rfl) rfl (fun _ _ _ hp => hp) (yieldsIf_load_mid (by kernel_rfl) _ _ rfl q 1 (by kernel_rfl) [V.vw, V.vc, V.f 0, V.f 1, V.f 2, V.f 3, V.vo, V.vg, V.vb, .int .i64 D.ph, V.vl, .int .i64 D.cyc] _ (fun X hX => hat.out X hX) Tryz.underlying42 rfl r18_size) hS0 ?_
    simp only [Act.put, List.getElem_toArray, List.getElem_cons_succ, List.getElem_cons_zero, List.setIfInBounds_toArray, List.set_cons_zero, List.set_cons_succ]
    refine wpAnyT_takeA (i := 4) (v := .int .i64 a) rfl (by kernel_rfl) rfl (fun _ _ _ hp => hp) (Or.inl ⟨by kernel_rfl, fun X _ => by go_simp⟩) hS0 ?_
    simp only [Act.put, List.getElem_toArray, List.getElem_cons_succ, List.getElem_cons_zero, List.setIfInBounds_toArray, List.set_cons_zero, List.set_cons_succ]
    refine wpAnyT_takeA (i := 5) (v := .pointer (some ⟨g, 3, none⟩)) rfl (by kernel_rfl) rfl (fun _ _ _ hp => hp) (Or.inl ⟨by kernel_rfl, fun X _ => by go_simp⟩) hS0 ?_
    simp only [Act.put, List.getElem_toArray, List.getElem_cons_succ, List.getElem_cons_zero, List.setIfInBounds_toArray, List.set_cons_zero, List.set_cons_succ]
    refine wpAnyT_takeA (i := 6) (v := .int .u8 xk) rfl (by kernel_rfl) rfl (fun _ _ _ hp => hp) (Or.inl ⟨by kernel_rfl, fun X hX => by have hX1 : (fun X : World => Below w3.heap.size w3 X) X := hX; have y1 := (Below.cell (p := ⟨g, 3, none⟩) hX1 hg3).trans e3; go_simp⟩) hS0 ?_
    simp only [Act.put, List.getElem_toArray, List.getElem_cons_succ, List.getElem_cons_zero, List.setIfInBounds_toArray, List.set_cons_zero, List.set_cons_succ]
    refine wpAnyT_takeA (i := 7) (v := .int .i64 xk) rfl (by kernel_rfl) rfl (fun _ _ _ hp => hp) (Or.inl ⟨by kernel_rfl, fun X _ => by have wkz := wk.out; go_simp⟩) hS0 ?_
    simp only [Act.put, List.getElem_toArray, List.getElem_cons_succ, List.getElem_cons_zero, List.setIfInBounds_toArray, List.set_cons_zero, List.set_cons_succ]
    refine wpAnyT_takeA (i := 8) (v := .int .i64 (j : Int)) rfl (by kernel_rfl) rfl (fun _ _ _ hp => hp) (Or.inl ⟨by kernel_rfl, fun X _ => by have tkz := tk.out; go_simp⟩) hS0 ?_
    simp only [Act.put, List.getElem_toArray, List.getElem_cons_succ, List.getElem_cons_zero, List.setIfInBounds_toArray, List.set_cons_zero, List.set_cons_succ]
    refine wpAnyT_takeA (i := 9) (v := .int .i64 b) rfl (by kernel_rfl) rfl (fun _ _ _ hp => hp) (Or.inl ⟨by kernel_rfl, fun X _ => by go_simp⟩) hS0 ?_
    simp only [Act.put, List.getElem_toArray, List.getElem_cons_succ, List.getElem_cons_zero, List.setIfInBounds_toArray, List.set_cons_zero, List.set_cons_succ]
    refine wpAnyT_two (i := 10) (j := 14) rfl rfl (by kernel_rfl) (by kernel_rfl) (by kernel_rfl) ?_ ?_
    · intro K1 hK1
      go_simp
      refine (HC.out Q _ (xv.out.below hS0) (hQ.out.le (Below.size hS0))).mono ?_
      rintro e w4 ⟨V4, rfl, xv4, b4⟩
      dsimp only
      have hS1 : (fun X : World => Below w3.heap.size w3 X) w4 := Below.trans hS0 (Below.mono b4 (Below.size hS0))
      have ON4 := Lib.hid (xv4.one D1.ph D1.cyc)
      refine hK1.out _ _ (fun _ => hS1) ?_
      (try simp only [Act.put, List.getElem_toArray, List.getElem_cons_succ, List.getElem_cons_zero, List.setIfInBounds_toArray, List.set_cons_zero, List.set_cons_succ])
      refine wpAnyT_takeA (i := 11) (v := .tuple #[.agg (c18 V4 D1.ph D1.cyc), .int .i64 r1]) rfl (by kernel_rfl) rfl (fun _ _ _ hp => hp) (Or.inl ⟨by kernel_rfl, fun X _ => by go_simp⟩) hS1 ?_
      simp only [Act.put, List.getElem_toArray, List.getElem_cons_succ, List.getElem_cons_zero, List.setIfInBounds_toArray, List.set_cons_zero, List.set_cons_succ]
      refine wpAnyT_takeA (i := 12) (v := .agg (c18 V4 D1.ph D1.cyc)) rfl (by kernel_rfl) rfl (fun _ _ _ hp => hp) (Or.inl ⟨by kernel_rfl, fun X _ => by go_simp⟩) hS1 ?_
      simp only [Act.put, List.getElem_toArray, List.getElem_cons_succ, List.getElem_cons_zero, List.setIfInBounds_toArray, List.set_cons_zero, List.set_cons_succ]
      refine wpAnyT_takeA (i := 13) (v := .int .i64 r1) rfl (by kernel_rfl) rfl (fun _ _ _ hp => hp) (Or.inl ⟨by kernel_rfl, fun X _ => by go_simp⟩) hS1 ?_
      simp only [Act.put, List.getElem_toArray, List.getElem_cons_succ, List.getElem_cons_zero, List.setIfInBounds_toArray, List.set_cons_zero, List.set_cons_succ]
      refine wpAnyT_one (i := 14) rfl (by kernel_rfl) (by kernel_rfl) ?_
      intro K2 hK2
      simp only [List.getElem_toArray, List.getElem_cons_succ, List.getElem_cons_zero]
      refine wp_new (.alloc 42) rfl 42 n18 (by kernel_rfl) ?_
      have hS2 : (fun X : World => Below w3.heap.size w3 X) (w4.alloc (.cells n18 42)) := Below.trans hS1 ((below_alloc w4 _).mono (Below.size hS1))
      refine hK2.out _ _ (fun _ => hS2) ?_
      (try simp only [Act.put, List.getElem_toArray, List.getElem_cons_succ, List.getElem_cons_zero, List.setIfInBounds_toArray, List.set_cons_zero, List.set_cons_succ])
      refine wpAnyT_one (i := 15) rfl (by kernel_rfl) (by kernel_rfl) ?_
      intro K3 hK3
      simp only [List.getElem_toArray, List.getElem_cons_succ, List.getElem_cons_zero]
      refine wp_store_blk 42 _ _ rfl w4.heap.size rfl (c18 V4 D1.ph D1.cyc) rfl 42 n18 (Blk.new w4 _ _) r18_size rfl ON4.out ?_
      intro w6 hB6 hg6 hs6
      have hS3 : (fun X : World => Below w3.heap.size w3 X) w6 := Below.grown hS2 hg6 (Below.size hS2) (fun k hk => by cases hk; exact Below.size hS1)
      refine hK3.out _ _ (fun _ => hS3) ?_
      (try simp only [Act.put, List.getElem_toArray, List.getElem_cons_succ, List.getElem_cons_zero, List.setIfInBounds_toArray, List.set_cons_zero, List.set_cons_succ])
      refine wpAnyT_takeA (i := 16) (v := .int .i64 r1) rfl (by kernel_rfl) rfl (fun _ _ _ hp => hp) (Or.inl ⟨by kernel_rfl, fun X _ => by go_simp⟩) hS3 ?_
      simp only [Act.put, List.getElem_toArray, List.getElem_cons_succ, List.getElem_cons_zero, List.setIfInBounds_toArray, List.set_cons_zero, List.set_cons_succ]
      refine wpAnyT_done (by kernel_rfl) ?_ _
      (try simp only [Act.put, List.getElem_toArray, List.getElem_cons_succ, List.getElem_cons_zero, List.setIfInBounds_toArray, List.set_cons_zero, List.set_cons_succ])
      clear hK1 K1 hK2 K2 hK3 K3
      have b46 : Below w4.heap.size w4 w6 := (below_alloc w4 _).grown hg6 (by simp) (fun k hk => by cases hk; exact Nat.le_refl _)
      have xv6 := Lib.hid (xv4.below b46)
      obtain ⟨gB, hgB⟩ : ∃ gB, gB = w4.heap.size := ⟨_, rfl⟩
      rw [← hgB] at hB6 ⊢
      have b6 : Below w3.heap.size w3 w6 := hS3
      clear hS0 hS1 hS2 hS3 hg6 hs6 b46 xv4 b4
      obtain ⟨ht, hz7, ho7, H7⟩ := hput.out w6 _ V4 b6 xv6.out
      have ht4 : w6.there q 1 (c18 V4 (D1).ph (D1).cyc).size := ht
      replace hB6 := Lib.hid hB6
      replace ht4 := Lib.hid ht4
      replace H7 := Lib.hid H7
      replace hz7 := Lib.hid hz7
      replace ho7 := Lib.hid ho7
      clear ht
      go_wp2_with (first
        | (refine wpList_load_blk rfl 42 (.tmp 22) rfl gB rfl 42 (c18 V4 (D1).ph (D1).cyc) hB6.out _ Tryz.underlying42 rfl SZ.out ?_)
        | (refine wpList_store_mid rfl 42 (.tmp 169) (.tmp 167) rfl q 1 (c18 V4 (D1).ph (D1).cyc) rfl rfl ht4.out SZ.out ON4.out ?_; refine stop_here ?_))
      obtain ⟨w7, hw7⟩ : ∃ w7, w7 = w6.setCells q 1 (c18 V4 (D1).ph (D1).cyc).toList := ⟨_, rfl⟩
      rw [← hw7] at H7 hz7 ho7 ⊢
      replace hw7 := Lib.hid hw7
      have c0 := H7.out.cells.1
      clear hB6 ht4 hput xv6 b6 ON4
      refine go_on ?_
      have f7 : w7.cell? ⟨g, 3, none⟩ = some (.int .u8 xk) := cell_keep H7.out hgw hg3 e3
      have HA := Lib.hid ((H7.out.below (show Below w7.heap.size w7 w7.drew from (Below.refl _ _).drew)).call (P := fun e _ => e = .returned (.int .i64 (qPut T a j b true).2)) (T' := (qPut T a j b true).1) fun v0 L => ls_put L a j b true (by have := hab.out; omega) (by have := hbb.out; omega))
      rw [hT1.out] at HA
      dsimp only at HA
      go_wp2_with fail
      have hS0 : (fun X : World => X.cell? ⟨q, 0, none⟩ = some (.pointer (some ⟨s, 0, none⟩)) ∧ X.cell? ⟨g, 3, none⟩ = some (.int .u8 xk)) w7.drew := ⟨c0, f7⟩
      refine wp_T (by kernel_rfl) 14 (fun X : World => X.cell? ⟨q, 0, none⟩ = some (.pointer (some ⟨s, 0, none⟩)) ∧ X.cell? ⟨g, 3, none⟩ = some (.int .u8 xk)) ?_
      refine wpAnyT_takeA (i := 0) (v := .pointer (some ⟨q, 0, none⟩)) rfl (by kernel_rfl) rfl (fun _ _ _ hp => hp) (Or.inl ⟨by kernel_rfl, fun X _ => by go_simp⟩) hS0 ?_
      simp only [Act.put, List.getElem_toArray, List.getElem_cons_succ, List.getElem_cons_zero, List.setIfInBounds_toArray, List.set_cons_zero, List.set_cons_succ]
      refine wpAnyT_takeA (i := 1) (v := .pointer (some ⟨q, 0, none⟩)) rfl (by kernel_rfl) rfl (fun _ _ _ hp => hp) (Or.inl ⟨by kernel_rfl, fun X _ => by go_simp⟩) hS0 ?_
      simp only [Act.put, List.getElem_toArray, List.getElem_cons_succ, List.getElem_cons_zero, List.setIfInBounds_toArray, List.set_cons_zero, List.set_cons_succ]
      refine wpAnyT_takeA (i := 2) (v := .pointer (some ⟨q, 0, none⟩)) rfl (by kernel_rfl) rfl (fun _ _ _ hp => hp) (Or.inl ⟨by kernel_rfl, fun X _ => by go_simp⟩) hS0 ?_
      simp only [Act.put, List.getElem_toArray, List.getElem_cons_succ, List.getElem_cons_zero, List.setIfInBounds_toArray, List.set_cons_zero, List.set_cons_succ]
      refine wpAnyT_takeA (i := 3) (v := .pointer (some ⟨s, 0, none⟩)) rfl (by kernel_rfl) rfl (fun _ _ _ hp => hp) (Or.inl ⟨by kernel_rfl, fun X hX => by have hX1 : (fun X : World => X.cell? ⟨q, 0, none⟩ = some (.pointer (some ⟨s, 0, none⟩)) ∧ X.cell? ⟨g, 3, none⟩ = some (.int .u8 xk)) X := hX; have y1 : X.cell? ⟨q, 0, none⟩ = some (.pointer (some ⟨s, 0, none⟩)) := hX1.1; go_simp⟩) hS0 ?_
      simp only [Act.put, List.getElem_toArray, List.getElem_cons_succ, List.getElem_cons_zero, List.setIfInBounds_toArray, List.set_cons_zero, List.set_cons_succ]
      refine wpAnyT_takeA (i := 4) (v := .int .i64 a) rfl (by kernel_rfl) rfl (fun _ _ _ hp => hp) (Or.inl ⟨by kernel_rfl, fun X _ => by go_simp⟩) hS0 ?_
      simp only [Act.put, List.getElem_toArray, List.getElem_cons_succ, List.getElem_cons_zero, List.setIfInBounds_toArray, List.set_cons_zero, List.set_cons_succ]
      refine wpAnyT_takeA (i := 5) (v := .pointer (some ⟨g, 3, none⟩)) rfl (by kernel_rfl) rfl (fun _ _ _ hp => hp) (Or.inl ⟨by kernel_rfl, fun X _ => by go_simp⟩) hS0 ?_
      simp only [Act.put, List.getElem_toArray, List.getElem_cons_succ, List.getElem_cons_zero, List.setIfInBounds_toArray, List.set_cons_zero, List.set_cons_succ]
      refine wpAnyT_takeA (i := 6) (v := .int .u8 xk) rfl (by kernel_rfl) rfl (fun _ _ _ hp => hp) (Or.inl ⟨by kernel_rfl, fun X hX => by have hX1 : (fun X : World => X.cell? ⟨q, 0, none⟩ = some (.pointer (some ⟨s, 0, none⟩)) ∧ X.cell? ⟨g, 3, none⟩ = some (.int .u8 xk)) X := hX; have y1 : X.cell? ⟨g, 3, none⟩ = some (.int .u8 xk) := hX1.2; go_simp⟩) hS0 ?_
      simp only [Act.put, List.getElem_toArray, List.getElem_cons_succ, List.getElem_cons_zero, List.setIfInBounds_toArray, List.set_cons_zero, List.set_cons_succ]
      refine wpAnyT_takeA (i := 7) (v := .int .i64 xk) rfl (by kernel_rfl) rfl (fun _ _ _ hp => hp) (Or.inl ⟨by kernel_rfl, fun X _ => by have wkz := wk.out; go_simp⟩) hS0 ?_
      simp only [Act.put, List.getElem_toArray, List.getElem_cons_succ, List.getElem_cons_zero, List.setIfInBounds_toArray, List.set_cons_zero, List.set_cons_succ]
      refine wpAnyT_takeA (i := 8) (v := .int .i64 (j : Int)) rfl (by kernel_rfl) rfl (fun _ _ _ hp => hp) (Or.inl ⟨by kernel_rfl, fun X _ => by have tkz := tk.out; go_simp⟩) hS0 ?_
      simp only [Act.put, List.getElem_toArray, List.getElem_cons_succ, List.getElem_cons_zero, List.setIfInBounds_toArray, List.set_cons_zero, List.set_cons_succ]
      refine wpAnyT_takeA (i := 9) (v := .int .i64 b) rfl (by kernel_rfl) rfl (fun _ _ _ hp => hp) (Or.inl ⟨by kernel_rfl, fun X _ => by go_simp⟩) hS0 ?_
      simp only [Act.put, List.getElem_toArray, List.getElem_cons_succ, List.getElem_cons_zero, List.setIfInBounds_toArray, List.set_cons_zero, List.set_cons_succ]
      refine wpAnyT_takeA (i := 11) (v := .int .i64 r1) rfl (by kernel_rfl) rfl (fun _ _ _ hp => hp) (Or.inl ⟨by kernel_rfl, fun X _ => by go_simp⟩) hS0 ?_
      simp only [Act.put, List.getElem_toArray, List.getElem_cons_succ, List.getElem_cons_zero, List.setIfInBounds_toArray, List.set_cons_zero, List.set_cons_succ]
      refine wpAnyT_one (i := 10) rfl (by kernel_rfl) (by kernel_rfl) ?_
      intro K1 hK1
      go_simp
      refine (HA.out).mono ?_
      rintro e w8 ⟨rfl, H8⟩
      dsimp only
      have hS1 : (fun X : World => X.cell? ⟨q, 0, none⟩ = some (.pointer (some ⟨s, 0, none⟩)) ∧ X.cell? ⟨g, 3, none⟩ = some (.int .u8 xk)) w8 := ⟨H8.cells.1, cell_keep H8 hgw hg3 e3⟩
      replace H8 := Lib.hid H8
      refine hK1.out _ _ (fun _ => hS1) ?_
      (try simp only [Act.put, List.getElem_toArray, List.getElem_cons_succ, List.getElem_cons_zero, List.setIfInBounds_toArray, List.set_cons_zero, List.set_cons_succ])
      by_cases hr : r1 = r2
      · subst hr
        refine wpAnyT_takeA (i := 12) (v := .bool true) rfl (by kernel_rfl) rfl (fun _ _ _ hp => hp) (Or.inl ⟨by kernel_rfl, fun X _ => by go_simp⟩) hS1 ?_
        simp only [Act.put, List.getElem_toArray, List.getElem_cons_succ, List.getElem_cons_zero, List.setIfInBounds_toArray, List.set_cons_zero, List.set_cons_succ]
        refine wpAnyT_takeA (i := 13) (v := .bool true) rfl (by kernel_rfl) rfl (fun _ _ _ hp => hp) (Or.inl ⟨by kernel_rfl, fun X _ => by go_simp⟩) hS1 ?_
        simp only [Act.put, List.getElem_toArray, List.getElem_cons_succ, List.getElem_cons_zero, List.setIfInBounds_toArray, List.set_cons_zero, List.set_cons_succ]
        refine wpAnyT_done (by kernel_rfl) ?_ _
        (try simp only [Act.put, List.getElem_toArray, List.getElem_cons_succ, List.getElem_cons_zero, List.setIfInBounds_toArray, List.set_cons_zero, List.set_cons_succ])
        clear hK1 K1 hS0 hS1
        go_wp2_with fail
        go_ret
        exact ⟨true, rfl, fun _ => rfl, hun.out H8.out⟩
      · have z1 : (r2 == r1) = false := beq_eq_false_iff_ne.2 fun e => hr e.symm
        refine wpAnyT_takeA (i := 12) (v := .bool false) rfl (by kernel_rfl) rfl (fun _ _ _ hp => hp) (Or.inl ⟨by kernel_rfl, fun X _ => by go_simp⟩) hS1 ?_
        simp only [Act.put, List.getElem_toArray, List.getElem_cons_succ, List.getElem_cons_zero, List.setIfInBounds_toArray, List.set_cons_zero, List.set_cons_succ]
        refine wpAnyT_takeA (i := 13) (v := .bool false) rfl (by kernel_rfl) rfl (fun _ _ _ hp => hp) (Or.inl ⟨by kernel_rfl, fun X _ => by go_simp⟩) hS1 ?_
        simp only [Act.put, List.getElem_toArray, List.getElem_cons_succ, List.getElem_cons_zero, List.setIfInBounds_toArray, List.set_cons_zero, List.set_cons_succ]
        refine wpAnyT_done (by kernel_rfl) ?_ _
        (try simp only [Act.put, List.getElem_toArray, List.getElem_cons_succ, List.getElem_cons_zero, List.setIfInBounds_toArray, List.set_cons_zero, List.set_cons_succ])
        clear hK1 K1 hS0 hS1
        go_wp2_with fail
        go_ret
        exact ⟨false, rfl, fun he => absurd he hr, hun.out H8.out⟩
    · intro K1 hK1
      simp only [List.getElem_toArray, List.getElem_cons_succ, List.getElem_cons_zero]
      refine wp_new (.alloc 42) rfl 42 n18 (by kernel_rfl) ?_
      have hS1 : (fun X : World => Below w3.heap.size w3 X) (w3.drew.alloc (.cells n18 42)) := Below.trans hS0 ((below_alloc w3.drew _).mono (Below.size hS0))
      refine hK1.out _ _ (fun _ => hS1) ?_
      (try simp only [Act.put, List.getElem_toArray, List.getElem_cons_succ, List.getElem_cons_zero, List.setIfInBounds_toArray, List.set_cons_zero, List.set_cons_succ])
      refine wpAnyT_one (i := 10) rfl (by kernel_rfl) (by kernel_rfl) ?_
      intro K2 hK2
      go_simp
      have hz0 : (w3.drew.alloc (.cells n18 42)).heap.size = w3.heap.size + 1 := (show (w3.drew.alloc (.cells n18 42)).heap.size = w3.drew.heap.size + 1 by simp)
      refine (HC.out (fun b => Q b ∧ b ≠ w3.heap.size) _ (xv.out.keepQ (Below.size hS1) (fun b _ hlt => Below.block hS1 b hlt) fun b hb hlt => ⟨hb, by omega⟩) (fun b hb => ⟨hQ.out b (Nat.le_trans (Below.size hS1) hb), by omega⟩)).mono ?_
      rintro e w4 ⟨V4, rfl, xv4, b4⟩
      dsimp only
      have hS2 : (fun X : World => Below w3.heap.size w3 X) w4 := Below.trans hS1 (Below.mono b4 (Below.size hS1))
      have ON4 := Lib.hid (xv4.one D1.ph D1.cyc)
      have hBn := (Blk.new w3.drew 42 n18).below b4 (Blk.new w3.drew 42 n18).lt
      refine hK2.out _ _ (fun _ => hS2) ?_
      (try simp only [Act.put, List.getElem_toArray, List.getElem_cons_succ, List.getElem_cons_zero, List.setIfInBounds_toArray, List.set_cons_zero, List.set_cons_succ])
      refine wpAnyT_takeA (i := 11) (v := .tuple #[.agg (c18 V4 D1.ph D1.cyc), .int .i64 r1]) rfl (by kernel_rfl) rfl (fun _ _ _ hp => hp) (Or.inl ⟨by kernel_rfl, fun X _ => by go_simp⟩) hS2 ?_
      simp only [Act.put, List.getElem_toArray, List.getElem_cons_succ, List.getElem_cons_zero, List.setIfInBounds_toArray, List.set_cons_zero, List.set_cons_succ]
      refine wpAnyT_takeA (i := 12) (v := .agg (c18 V4 D1.ph D1.cyc)) rfl (by kernel_rfl) rfl (fun _ _ _ hp => hp) (Or.inl ⟨by kernel_rfl, fun X _ => by go_simp⟩) hS2 ?_
      simp only [Act.put, List.getElem_toArray, List.getElem_cons_succ, List.getElem_cons_zero, List.setIfInBounds_toArray, List.set_cons_zero, List.set_cons_succ]
      refine wpAnyT_takeA (i := 13) (v := .int .i64 r1) rfl (by kernel_rfl) rfl (fun _ _ _ hp => hp) (Or.inl ⟨by kernel_rfl, fun X _ => by go_simp⟩) hS2 ?_
      simp only [Act.put, List.getElem_toArray, List.getElem_cons_succ, List.getElem_cons_zero, List.setIfInBounds_toArray, List.set_cons_zero, List.set_cons_succ]
      refine wpAnyT_one (i := 15) rfl (by kernel_rfl) (by kernel_rfl) ?_
      intro K3 hK3
      simp only [List.getElem_toArray, List.getElem_cons_succ, List.getElem_cons_zero]
      refine wp_store_blk 42 _ _ rfl w3.drew.heap.size rfl (c18 V4 D1.ph D1.cyc) rfl 42 n18 hBn r18_size rfl ON4.out ?_
      intro w6 hB6 hg6 hs6
      have hS3 : (fun X : World => Below w3.heap.size w3 X) w6 := Below.grown hS2 hg6 (Below.size hS2) (fun k hk => by cases hk; exact Nat.le_refl _)
      refine hK3.out _ _ (fun _ => hS3) ?_
      (try simp only [Act.put, List.getElem_toArray, List.getElem_cons_succ, List.getElem_cons_zero, List.setIfInBounds_toArray, List.set_cons_zero, List.set_cons_succ])
      refine wpAnyT_takeA (i := 16) (v := .int .i64 r1) rfl (by kernel_rfl) rfl (fun _ _ _ hp => hp) (Or.inl ⟨by kernel_rfl, fun X _ => by go_simp⟩) hS3 ?_
      simp only [Act.put, List.getElem_toArray, List.getElem_cons_succ, List.getElem_cons_zero, List.setIfInBounds_toArray, List.set_cons_zero, List.set_cons_succ]
      refine wpAnyT_done (by kernel_rfl) ?_ _
      (try simp only [Act.put, List.getElem_toArray, List.getElem_cons_succ, List.getElem_cons_zero, List.setIfInBounds_toArray, List.set_cons_zero, List.set_cons_succ])
      clear hK1 K1 hK2 K2 hK3 K3
      have xv6 := Lib.hid (xv4.stored (Q' := Q) hg6 fun b hb => ⟨hb.1, hb.2⟩)
      replace hB6 : Blk w6 w3.heap.size 42 (c18 V4 D1.ph D1.cyc) := hB6
      obtain ⟨gB, hgB⟩ : ∃ gB, gB = w3.heap.size := ⟨_, rfl⟩
      rw [← hgB] at hB6 ⊢
      have b6 : Below w3.heap.size w3 w6 := hS3
      clear hS0 hS1 hS2 hS3 hg6 hs6 hBn xv4 b4
      obtain ⟨ht, hz7, ho7, H7⟩ := hput.out w6 _ V4 b6 xv6.out
      have ht4 : w6.there q 1 (c18 V4 (D1).ph (D1).cyc).size := ht
      replace hB6 := Lib.hid hB6
      replace ht4 := Lib.hid ht4
      replace H7 := Lib.hid H7
      replace hz7 := Lib.hid hz7
      replace ho7 := Lib.hid ho7
      clear ht
      go_wp2_with (first
        | (refine wpList_load_blk rfl 42 (.tmp 22) rfl gB rfl 42 (c18 V4 (D1).ph (D1).cyc) hB6.out _ Tryz.underlying42 rfl SZ.out ?_)
        | (refine wpList_store_mid rfl 42 (.tmp 169) (.tmp 167) rfl q 1 (c18 V4 (D1).ph (D1).cyc) rfl rfl ht4.out SZ.out ON4.out ?_; refine stop_here ?_))
      obtain ⟨w7, hw7⟩ : ∃ w7, w7 = w6.setCells q 1 (c18 V4 (D1).ph (D1).cyc).toList := ⟨_, rfl⟩
      rw [← hw7] at H7 hz7 ho7 ⊢
      replace hw7 := Lib.hid hw7
      have c0 := H7.out.cells.1
      clear hB6 ht4 hput xv6 b6 ON4
      refine go_on ?_
      have f7 : w7.cell? ⟨g, 3, none⟩ = some (.int .u8 xk) := cell_keep H7.out hgw hg3 e3
      have HA := Lib.hid ((H7.out.below (show Below w7.heap.size w7 w7.drew from (Below.refl _ _).drew)).call (P := fun e _ => e = .returned (.int .i64 (qPut T a j b true).2)) (T' := (qPut T a j b true).1) fun v0 L => ls_put L a j b true (by have := hab.out; omega) (by have := hbb.out; omega))
      rw [hT1.out] at HA
      dsimp only at HA
      go_wp2_with fail
      have hS0 : (fun X : World => X.cell? ⟨q, 0, none⟩ = some (.pointer (some ⟨s, 0, none⟩)) ∧ X.cell? ⟨g, 3, none⟩ = some (.int .u8 xk)) w7.drew := ⟨c0, f7⟩
      refine wp_T (by kernel_rfl) 14 (fun X : World => X.cell? ⟨q, 0, none⟩ = some (.pointer (some ⟨s, 0, none⟩)) ∧ X.cell? ⟨g, 3, none⟩ = some (.int .u8 xk)) ?_
      refine wpAnyT_takeA (i := 0) (v := .pointer (some ⟨q, 0, none⟩)) rfl (by kernel_rfl) rfl (fun _ _ _ hp => hp) (Or.inl ⟨by kernel_rfl, fun X _ => by go_simp⟩) hS0 ?_
      simp only [Act.put, List.getElem_toArray, List.getElem_cons_succ, List.getElem_cons_zero, List.setIfInBounds_toArray, List.set_cons_zero, List.set_cons_succ]
      refine wpAnyT_takeA (i := 1) (v := .pointer (some ⟨q, 0, none⟩)) rfl (by kernel_rfl) rfl (fun _ _ _ hp => hp) (Or.inl ⟨by kernel_rfl, fun X _ => by go_simp⟩) hS0 ?_
      simp only [Act.put, List.getElem_toArray, List.getElem_cons_succ, List.getElem_cons_zero, List.setIfInBounds_toArray, List.set_cons_zero, List.set_cons_succ]
      refine wpAnyT_takeA (i := 2) (v := .pointer (some ⟨q, 0, none⟩)) rfl (by kernel_rfl) rfl (fun _ _ _ hp => hp) (Or.inl ⟨by kernel_rfl, fun X _ => by go_simp⟩) hS0 ?_
      simp only [Act.put, List.getElem_toArray, List.getElem_cons_succ, List.getElem_cons_zero, List.setIfInBounds_toArray, List.set_cons_zero, List.set_cons_succ]
      refine wpAnyT_takeA (i := 3) (v := .pointer (some ⟨s, 0, none⟩)) rfl (by kernel_rfl) rfl (fun _ _ _ hp => hp) (Or.inl ⟨by kernel_rfl, fun X hX => by have hX1 : (fun X : World => X.cell? ⟨q, 0, none⟩ = some (.pointer (some ⟨s, 0, none⟩)) ∧ X.cell? ⟨g, 3, none⟩ = some (.int .u8 xk)) X := hX; have y1 : X.cell? ⟨q, 0, none⟩ = some (.pointer (some ⟨s, 0, none⟩)) := hX1.1; go_simp⟩) hS0 ?_
      simp only [Act.put, List.getElem_toArray, List.getElem_cons_succ, List.getElem_cons_zero, List.setIfInBounds_toArray, List.set_cons_zero, List.set_cons_succ]
      refine wpAnyT_takeA (i := 4) (v := .int .i64 a) rfl (by kernel_rfl) rfl (fun _ _ _ hp => hp) (Or.inl ⟨by kernel_rfl, fun X _ => by go_simp⟩) hS0 ?_
      simp only [Act.put, List.getElem_toArray, List.getElem_cons_succ, List.getElem_cons_zero, List.setIfInBounds_toArray, List.set_cons_zero, List.set_cons_succ]
      refine wpAnyT_takeA (i := 5) (v := .pointer (some ⟨g, 3, none⟩)) rfl (by kernel_rfl) rfl (fun _ _ _ hp => hp) (Or.inl ⟨by kernel_rfl, fun X _ => by go_simp⟩) hS0 ?_
      simp only [Act.put, List.getElem_toArray, List.getElem_cons_succ, List.getElem_cons_zero, List.setIfInBounds_toArray, List.set_cons_zero, List.set_cons_succ]
      refine wpAnyT_takeA (i := 6) (v := .int .u8 xk) rfl (by kernel_rfl) rfl (fun _ _ _ hp => hp) (Or.inl ⟨by kernel_rfl, fun X hX => by have hX1 : (fun X : World => X.cell? ⟨q, 0, none⟩ = some (.pointer (some ⟨s, 0, none⟩)) ∧ X.cell? ⟨g, 3, none⟩ = some (.int .u8 xk)) X := hX; have y1 : X.cell? ⟨g, 3, none⟩ = some (.int .u8 xk) := hX1.2; go_simp⟩) hS0 ?_
      simp only [Act.put, List.getElem_toArray, List.getElem_cons_succ, List.getElem_cons_zero, List.setIfInBounds_toArray, List.set_cons_zero, List.set_cons_succ]
      refine wpAnyT_takeA (i := 7) (v := .int .i64 xk) rfl (by kernel_rfl) rfl (fun _ _ _ hp => hp) (Or.inl ⟨by kernel_rfl, fun X _ => by have wkz := wk.out; go_simp⟩) hS0 ?_
      simp only [Act.put, List.getElem_toArray, List.getElem_cons_succ, List.getElem_cons_zero, List.setIfInBounds_toArray, List.set_cons_zero, List.set_cons_succ]
      refine wpAnyT_takeA (i := 8) (v := .int .i64 (j : Int)) rfl (by kernel_rfl) rfl (fun _ _ _ hp => hp) (Or.inl ⟨by kernel_rfl, fun X _ => by have tkz := tk.out; go_simp⟩) hS0 ?_
      simp only [Act.put, List.getElem_toArray, List.getElem_cons_succ, List.getElem_cons_zero, List.setIfInBounds_toArray, List.set_cons_zero, List.set_cons_succ]
      refine wpAnyT_takeA (i := 9) (v := .int .i64 b) rfl (by kernel_rfl) rfl (fun _ _ _ hp => hp) (Or.inl ⟨by kernel_rfl, fun X _ => by go_simp⟩) hS0 ?_
      simp only [Act.put, List.getElem_toArray, List.getElem_cons_succ, List.getElem_cons_zero, List.setIfInBounds_toArray, List.set_cons_zero, List.set_cons_succ]
      refine wpAnyT_takeA (i := 11) (v := .int .i64 r1) rfl (by kernel_rfl) rfl (fun _ _ _ hp => hp) (Or.inl ⟨by kernel_rfl, fun X _ => by go_simp⟩) hS0 ?_
      simp only [Act.put, List.getElem_toArray, List.getElem_cons_succ, List.getElem_cons_zero, List.setIfInBounds_toArray, List.set_cons_zero, List.set_cons_succ]
      refine wpAnyT_one (i := 10) rfl (by kernel_rfl) (by kernel_rfl) ?_
      intro K1 hK1
      go_simp
      refine (HA.out).mono ?_
      rintro e w8 ⟨rfl, H8⟩
      dsimp only
      have hS1 : (fun X : World => X.cell? ⟨q, 0, none⟩ = some (.pointer (some ⟨s, 0, none⟩)) ∧ X.cell? ⟨g, 3, none⟩ = some (.int .u8 xk)) w8 := ⟨H8.cells.1, cell_keep H8 hgw hg3 e3⟩
      replace H8 := Lib.hid H8
      refine hK1.out _ _ (fun _ => hS1) ?_
      (try simp only [Act.put, List.getElem_toArray, List.getElem_cons_succ, List.getElem_cons_zero, List.setIfInBounds_toArray, List.set_cons_zero, List.set_cons_succ])
      by_cases hr : r1 = r2
      · subst hr
        refine wpAnyT_takeA (i := 12) (v := .bool true) rfl (by kernel_rfl) rfl (fun _ _ _ hp => hp) (Or.inl ⟨by kernel_rfl, fun X _ => by go_simp⟩) hS1 ?_
        simp only [Act.put, List.getElem_toArray, List.getElem_cons_succ, List.getElem_cons_zero, List.setIfInBounds_toArray, List.set_cons_zero, List.set_cons_succ]
        refine wpAnyT_takeA (i := 13) (v := .bool true) rfl (by kernel_rfl) rfl (fun _ _ _ hp => hp) (Or.inl ⟨by kernel_rfl, fun X _ => by go_simp⟩) hS1 ?_
        simp only [Act.put, List.getElem_toArray, List.getElem_cons_succ, List.getElem_cons_zero, List.setIfInBounds_toArray, List.set_cons_zero, List.set_cons_succ]
        refine wpAnyT_done (by kernel_rfl) ?_ _
        (try simp only [Act.put, List.getElem_toArray, List.getElem_cons_succ, List.getElem_cons_zero, List.setIfInBounds_toArray, List.set_cons_zero, List.set_cons_succ])
        clear hK1 K1 hS0 hS1
        go_wp2_with fail
        go_ret
        exact ⟨true, rfl, fun _ => rfl, hun.out H8.out⟩
      · have z1 : (r2 == r1) = false := beq_eq_false_iff_ne.2 fun e => hr e.symm
        refine wpAnyT_takeA (i := 12) (v := .bool false) rfl (by kernel_rfl) rfl (fun _ _ _ hp => hp) (Or.inl ⟨by kernel_rfl, fun X _ => by go_simp⟩) hS1 ?_
        simp only [Act.put, List.getElem_toArray, List.getElem_cons_succ, List.getElem_cons_zero, List.setIfInBounds_toArray, List.set_cons_zero, List.set_cons_succ]
        refine wpAnyT_takeA (i := 13) (v := .bool false) rfl (by kernel_rfl) rfl (fun _ _ _ hp => hp) (Or.inl ⟨by kernel_rfl, fun X _ => by go_simp⟩) hS1 ?_
        simp only [Act.put, List.getElem_toArray, List.getElem_cons_succ, List.getElem_cons_zero, List.setIfInBounds_toArray, List.set_cons_zero, List.set_cons_succ]
        refine wpAnyT_done (by kernel_rfl) ?_ _
        (try simp only [Act.put, List.getElem_toArray, List.getElem_cons_succ, List.getElem_cons_zero, List.setIfInBounds_toArray, List.set_cons_zero, List.set_cons_succ])
        clear hK1 K1 hS0 hS1
        go_wp2_with fail
        go_ret
        exact ⟨false, rfl, fun he => absurd he hr, hun.out H8.out⟩
end
end Go.Proofs.YtcaboknbdamlhaaGreatDoor
namespace Go.Proofs.YtcaboknbdamlhaaGreatDoor
open Go.RowKit Go.Shelf
section
variable {w0 : W0} {w w' w1 : World} {q s h m : Nat} {T : SS} {D : DS}
set_option maxHeartbeats 6400000 in
set_option maxRecDepth 100000 in
theorem sdoes_step (H : LX w0 w q s h m T D) (x : Int) {D1 : DS} {n1 r1 : Int} {T1 : SS} {n2 r2 : Int}
    (hD : ∀ (Q : Nat → Prop) (V : V18) (wx : World), XV Q wx D V → New Q wx → Calls Tryz.prog 34 #[.agg (c18 V D.ph D.cyc), .int .i64 x] wx (R18 Q wx D1 fun v => .returned (.tuple #[v, .int .i64 n1, .int .i64 r1])))
    (hT : ∀ (v0 : W0) (wx : World), LS v0 wx s h m T → Calls Tryz.prog 24 #[.pointer (some ⟨s, 0, none⟩), .int .i64 x] wx fun e w' => e = .returned (.tuple #[.int .i64 n2, .int .i64 r2]) ∧ LS v0 w' s h m T1)
    (kind xa xb xk : Int) (Av : Option Addr) (nv cv : Nat) (hx : ABd kind xa xb xk x) (hk : kind % 8 = 2 ∨ kind % 8 = 3) :
    Calls Tryz.prog 12 #[.pointer (some ⟨q, 0, none⟩), .agg #[.int .u8 kind, .int .u8 xa, .int .u8 xb, .int .u8 xk, .slice Av nv cv, .int .i64 x]] w (DidX w0 q s h m T1 D1 ((n1, r1) = (n2, r2))) := by
  have hd := hx.kind
  have hkk := hx.k
  have hxx := Lib.hid hx.x
  obtain ⟨a, ha⟩ : ∃ a, objN T.S xa = a := ⟨_, rfl⟩
  obtain ⟨b, hb⟩ : ∃ b, objN T.S xb = b := ⟨_, rfl⟩
  have hab := Lib.hid (objN_bd H.inv.toInv0 xa)
  have hbb := Lib.hid (objN_bd H.inv.toInv0 xb)
  rw [ha] at hab
  rw [hb] at hbb
  obtain ⟨wu, hwu⟩ : ∃ wu : W0, wu = w0 := ⟨_, rfl⟩
  rw [← hwu]
  replace H := Lib.hid H
  replace hx := Lib.hid hx
  replace hD := Lib.hid hD
  replace hT := Lib.hid hT
  go_enter Tryz.func12, Tryz.ntmps12
  go_wp2_with (refine wpList_new rfl (.box 30 (.tmp 1)) rfl w.heap.size rfl 30 #[.int .u8 kind, .int .u8 xa, .int .u8 xb, .int .u8 xk, .slice Av nv cv, .int .i64 x] (by kernel_rfl) ?_; intro w1 hs1 hb1 hB1; refine stop_here ?_)
  have e1 : w1.cell? ⟨w.heap.size, 1, none⟩ = some (.int .u8 xa) := hB1.cell 1
  have e2 : w1.cell? ⟨w.heap.size, 2, none⟩ = some (.int .u8 xb) := hB1.cell 2
  have HO1 := Lib.hid fun wx (hb : Below w.heap.size w wx) => lx_object (H.out.below hb) xa hx.out.a
  have HO2 := Lib.hid fun wx (hb : Below w.heap.size w wx) => lx_object (H.out.below hb) xb hx.out.b
  rw [ha] at HO1
  rw [hb] at HO2
  have hgl := hB1.lt
  obtain ⟨g, hg⟩ : ∃ g, g = w.heap.size := ⟨_, rfl⟩
  rw [← hg] at e1 e2 hgl hB1 ⊢
  replace hg := Lib.hid hg
  replace hB1 := Lib.hid hB1
  replace ha := Lib.hid ha
  replace hb := Lib.hid hb
  refine go_on ?_
  go_wp2_with fail
  have hS0 : (fun X : World => Below w1.heap.size w1 X) w1.drew := (Below.refl _ _).drew
  refine wp_T (by kernel_rfl) 10 (fun X : World => Below w1.heap.size w1 X) ?_
  refine wpAnyT_takeA (i := 0) (v := .pointer (some ⟨q, 0, none⟩)) rfl (by kernel_rfl) rfl (fun _ _ _ hp => hp) (Or.inl ⟨by kernel_rfl, fun X _ => by go_simp⟩) hS0 ?_
  simp only [Act.put, List.getElem_toArray, List.getElem_cons_succ, List.getElem_cons_zero, List.setIfInBounds_toArray, List.set_cons_zero, List.set_cons_succ]
  refine wpAnyT_takeA (i := 1) (v := .pointer (some ⟨g, 1, none⟩)) rfl (by kernel_rfl) rfl (fun _ _ _ hp => hp) (Or.inl ⟨by kernel_rfl, fun X _ => by go_simp⟩) hS0 ?_
  simp only [Act.put, List.getElem_toArray, List.getElem_cons_succ, List.getElem_cons_zero, List.setIfInBounds_toArray, List.set_cons_zero, List.set_cons_succ]
  refine wpAnyT_takeA (i := 4) (v := .pointer (some ⟨q, 0, none⟩)) rfl (by kernel_rfl) rfl (fun _ _ _ hp => hp) (Or.inl ⟨by kernel_rfl, fun X _ => by go_simp⟩) hS0 ?_
  simp only [Act.put, List.getElem_toArray, List.getElem_cons_succ, List.getElem_cons_zero, List.setIfInBounds_toArray, List.set_cons_zero, List.set_cons_succ]
  refine wpAnyT_takeA (i := 5) (v := .pointer (some ⟨g, 2, none⟩)) rfl (by kernel_rfl) rfl (fun _ _ _ hp => hp) (Or.inl ⟨by kernel_rfl, fun X _ => by go_simp⟩) hS0 ?_
  simp only [Act.put, List.getElem_toArray, List.getElem_cons_succ, List.getElem_cons_zero, List.setIfInBounds_toArray, List.set_cons_zero, List.set_cons_succ]
  refine wpAnyT_takeA (i := 2) (v := .int .u8 xa) rfl (by kernel_rfl) rfl (fun _ _ _ hp => hp) (Or.inl ⟨by kernel_rfl, fun X hX => by have hX1 : (fun X : World => Below w1.heap.size w1 X) X := hX; have y1 := (Below.cell (p := ⟨g, 1, none⟩) hX1 hgl).trans e1; go_simp⟩) hS0 ?_
  simp only [Act.put, List.getElem_toArray, List.getElem_cons_succ, List.getElem_cons_zero, List.setIfInBounds_toArray, List.set_cons_zero, List.set_cons_succ]
  refine wpAnyT_takeA (i := 6) (v := .int .u8 xb) rfl (by kernel_rfl) rfl (fun _ _ _ hp => hp) (Or.inl ⟨by kernel_rfl, fun X hX => by have hX1 : (fun X : World => Below w1.heap.size w1 X) X := hX; have y1 := (Below.cell (p := ⟨g, 2, none⟩) hX1 hgl).trans e2; go_simp⟩) hS0 ?_
  simp only [Act.put, List.getElem_toArray, List.getElem_cons_succ, List.getElem_cons_zero, List.setIfInBounds_toArray, List.set_cons_zero, List.set_cons_succ]
  refine wpAnyT_one (i := 3) rfl (by kernel_rfl) (by kernel_rfl) ?_
  intro K1 hK1
  go_simp
  refine (HO1.out _ (hb1.trans (Below.mono hS0 hb1.size))).mono ?_
  rintro e w2 ⟨rfl, bb0⟩
  dsimp only
  have hS1 : (fun X : World => Below w1.heap.size w1 X) w2 := Below.trans hS0 (Below.mono bb0 (Below.size hS0))
  refine hK1.out _ _ (fun _ => hS1) ?_
  (try simp only [Act.put, List.getElem_toArray, List.getElem_cons_succ, List.getElem_cons_zero, List.setIfInBounds_toArray, List.set_cons_zero, List.set_cons_succ])
  refine wpAnyT_one (i := 7) rfl (by kernel_rfl) (by kernel_rfl) ?_
  intro K2 hK2
  go_simp
  refine (HO2.out _ (hb1.trans (Below.mono hS1 hb1.size))).mono ?_
  rintro e w3 ⟨rfl, bb1⟩
  dsimp only
  have hS2 : (fun X : World => Below w1.heap.size w1 X) w3 := Below.trans hS1 (Below.mono bb1 (Below.size hS1))
  refine hK2.out _ _ (fun _ => hS2) ?_
  (try simp only [Act.put, List.getElem_toArray, List.getElem_cons_succ, List.getElem_cons_zero, List.setIfInBounds_toArray, List.set_cons_zero, List.set_cons_succ])
  refine wpAnyT_takeA (i := 8) (v := .int .i64 a) rfl (by kernel_rfl) rfl (fun _ _ _ hp => hp) (Or.inl ⟨by kernel_rfl, fun X _ => by go_simp⟩) hS2 ?_
  simp only [Act.put, List.getElem_toArray, List.getElem_cons_succ, List.getElem_cons_zero, List.setIfInBounds_toArray, List.set_cons_zero, List.set_cons_succ]
  refine wpAnyT_takeA (i := 9) (v := .int .i64 b) rfl (by kernel_rfl) rfl (fun _ _ _ hp => hp) (Or.inl ⟨by kernel_rfl, fun X _ => by go_simp⟩) hS2 ?_
  simp only [Act.put, List.getElem_toArray, List.getElem_cons_succ, List.getElem_cons_zero, List.setIfInBounds_toArray, List.set_cons_zero, List.set_cons_succ]
  refine wpAnyT_done (by kernel_rfl) ?_ _
  (try simp only [Act.put, List.getElem_toArray, List.getElem_cons_succ, List.getElem_cons_zero, List.setIfInBounds_toArray, List.set_cons_zero, List.set_cons_succ])
  clear hK1 K1 hK2 K2
  have b3 : Below w.heap.size w w3 := hb1.trans (Below.mono hS2 hb1.size)
  clear bb0 bb1
  have Hg := Lib.hid (H.out.guard b3)
  have E3 := Lib.hid (hB1.out.below (show Below w1.heap.size w1 w3 from hS2) hgl)
  have hg3 := E3.out.lt
  have hgw : w.heap.size ≤ g := Nat.le_of_eq hg.out.symm
  have hun : Hid (∀ {X : World} {T' : SS} {D' : DS}, LX (w0.guard w w3) X q s h m T' D' → LX w0 X q s h m T' D') := Lib.hid fun hX => H.out.unguard b3 hX
  have e0 : w3.cell? ⟨g, 0, none⟩ = some (.int .u8 kind) := E3.out.cell 0
  have e3 : w3.cell? ⟨g, 3, none⟩ = some (.int .u8 xk) := E3.out.cell 3
  have e5 : w3.cell? ⟨g, 5, none⟩ = some (.int .i64 x) := E3.out.cell 5
  subst hwu
  replace b3 := Lib.hid b3
  clear hS0 hS1 hS2 HO1 HO2 hB1 e1 e2 hs1 hb1 hgl H
  obtain ⟨Q, V, hQ, xv, hat, hput⟩ := lx_open Hg.out
  have SZ := Lib.hid r18_size
  have HC := Lib.hid fun (Q' : Nat → Prop) wx (hxv : XV Q' wx D V) (hq : New Q' wx) => hD.out Q' V wx hxv hq
  replace hat := Lib.hid hat
  replace hput := Lib.hid hput
  replace hQ := Lib.hid hQ
  replace xv := Lib.hid xv
  have hk8 : kind % 8 = 2 ∨ kind % 8 = 3 := hk
  clear hk
  rcases hk8 with hk | hk
  · go_wp2_with fail
    have hS0 : (fun X : World => Below w3.heap.size w3 X) w3.drew := (Below.refl _ _).drew
    refine wp_T (by kernel_rfl) 15 (fun X : World => Below w3.heap.size w3 X) ?_
    refine wpAnyT_takeA (i := 0) (v := .pointer (some ⟨q, 0, none⟩)) rfl (by kernel_rfl) rfl (fun _ _ _ hp => hp) (Or.inl ⟨by kernel_rfl, fun X _ => by go_simp⟩) hS0 ?_
    simp only [Act.put, List.getElem_toArray, List.getElem_cons_succ, List.getElem_cons_zero, List.setIfInBounds_toArray, List.set_cons_zero, List.set_cons_succ]
    refine wpAnyT_takeA (i := 1) (v := .pointer (some ⟨q, 0, none⟩)) rfl (by kernel_rfl) rfl (fun _ _ _ hp => hp) (Or.inl ⟨by kernel_rfl, fun X _ => by go_simp⟩) hS0 ?_
    simp only [Act.put, List.getElem_toArray, List.getElem_cons_succ, List.getElem_cons_zero, List.setIfInBounds_toArray, List.set_cons_zero, List.set_cons_succ]
    refine wpAnyT_takeA (i := 2) (v := .pointer (some ⟨q, 1, none⟩)) rfl (by kernel_rfl) rfl (fun _ _ _ hp => hp) (Or.inl ⟨by kernel_rfl, fun X _ => by go_simp⟩) hS0 ?_
    simp only [Act.put, List.getElem_toArray, List.getElem_cons_succ, List.getElem_cons_zero, List.setIfInBounds_toArray, List.set_cons_zero, List.set_cons_succ]
    refine wpAnyT_takeA (i := 3) (v := .agg (c18 V D.ph D.cyc)) rfl (by kernel_rfl) rfl (fun _ _ _ hp => hp) (yieldsIf_load_mid (by kernel_rfl) _ _ rfl q 1 (by kernel_rfl) [V.vw, V.vc, V.f 0, V.f 1, V.f 2, V.f 3, V.vo, V.vg, V.vb, .int .i64 D.ph, V.vl, .int .i64 D.cyc] _ (fun X hX => hat.out X hX) Tryz.underlying42 rfl r18_size) hS0 ?_
    simp only [Act.put, List.getElem_toArray, List.getElem_cons_succ, List.getElem_cons_zero, List.setIfInBounds_toArray, List.set_cons_zero, List.set_cons_succ]
    refine wpAnyT_takeA (i := 4) (v := .pointer (some ⟨g, 5, none⟩)) rfl (by kernel_rfl) rfl (fun _ _ _ hp => hp) (Or.inl ⟨by kernel_rfl, fun X _ => by go_simp⟩) hS0 ?_
    simp only [Act.put, List.getElem_toArray, List.getElem_cons_succ, List.getElem_cons_zero, List.setIfInBounds_toArray, List.set_cons_zero, List.set_cons_succ]
    refine wpAnyT_takeA (i := 5) (v := .int .i64 x) rfl (by kernel_rfl) rfl (fun _ _ _ hp => hp) (Or.inl ⟨by kernel_rfl, fun X hX => by have hX1 : (fun X : World => Below w3.heap.size w3 X) X := hX; have y1 := (Below.cell (p := ⟨g, 5, none⟩) hX1 hg3).trans e5; go_simp⟩) hS0 ?_
    simp only [Act.put, List.getElem_toArray, List.getElem_cons_succ, List.getElem_cons_zero, List.setIfInBounds_toArray, List.set_cons_zero, List.set_cons_succ]
    refine wpAnyT_two (i := 6) (j := 11) rfl rfl (by kernel_rfl) (by kernel_rfl) (by kernel_rfl) ?_ ?_
    · intro K1 hK1
      go_simp
      refine (HC.out Q _ (xv.out.below hS0) (hQ.out.le (Below.size hS0))).mono ?_
      rintro e w4 ⟨V4, rfl, xv4, b4⟩
      dsimp only
      have hS1 : (fun X : World => Below w3.heap.size w3 X) w4 := Below.trans hS0 (Below.mono b4 (Below.size hS0))
      have ON4 := Lib.hid (xv4.one D1.ph D1.cyc)
      refine hK1.out _ _ (fun _ => hS1) ?_
      (try simp only [Act.put, List.getElem_toArray, List.getElem_cons_succ, List.getElem_cons_zero, List.setIfInBounds_toArray, List.set_cons_zero, List.set_cons_succ])
      refine wpAnyT_takeA (i := 7) (v := .tuple #[.agg (c18 V4 D1.ph D1.cyc), .int .i64 n1, .int .i64 r1]) rfl (by kernel_rfl) rfl (fun _ _ _ hp => hp) (Or.inl ⟨by kernel_rfl, fun X _ => by go_simp⟩) hS1 ?_
      simp only [Act.put, List.getElem_toArray, List.getElem_cons_succ, List.getElem_cons_zero, List.setIfInBounds_toArray, List.set_cons_zero, List.set_cons_succ]
      refine wpAnyT_takeA (i := 8) (v := .agg (c18 V4 D1.ph D1.cyc)) rfl (by kernel_rfl) rfl (fun _ _ _ hp => hp) (Or.inl ⟨by kernel_rfl, fun X _ => by go_simp⟩) hS1 ?_
      simp only [Act.put, List.getElem_toArray, List.getElem_cons_succ, List.getElem_cons_zero, List.setIfInBounds_toArray, List.set_cons_zero, List.set_cons_succ]
      refine wpAnyT_takeA (i := 9) (v := .int .i64 n1) rfl (by kernel_rfl) rfl (fun _ _ _ hp => hp) (Or.inl ⟨by kernel_rfl, fun X _ => by go_simp⟩) hS1 ?_
      simp only [Act.put, List.getElem_toArray, List.getElem_cons_succ, List.getElem_cons_zero, List.setIfInBounds_toArray, List.set_cons_zero, List.set_cons_succ]
      refine wpAnyT_takeA (i := 10) (v := .int .i64 r1) rfl (by kernel_rfl) rfl (fun _ _ _ hp => hp) (Or.inl ⟨by kernel_rfl, fun X _ => by go_simp⟩) hS1 ?_
      simp only [Act.put, List.getElem_toArray, List.getElem_cons_succ, List.getElem_cons_zero, List.setIfInBounds_toArray, List.set_cons_zero, List.set_cons_succ]
      refine wpAnyT_one (i := 11) rfl (by kernel_rfl) (by kernel_rfl) ?_
      intro K2 hK2
      simp only [List.getElem_toArray, List.getElem_cons_succ, List.getElem_cons_zero]
      refine wp_new (.alloc 42) rfl 42 n18 (by kernel_rfl) ?_
      have hS2 : (fun X : World => Below w3.heap.size w3 X) (w4.alloc (.cells n18 42)) := Below.trans hS1 ((below_alloc w4 _).mono (Below.size hS1))
      refine hK2.out _ _ (fun _ => hS2) ?_
      (try simp only [Act.put, List.getElem_toArray, List.getElem_cons_succ, List.getElem_cons_zero, List.setIfInBounds_toArray, List.set_cons_zero, List.set_cons_succ])
      refine wpAnyT_one (i := 12) rfl (by kernel_rfl) (by kernel_rfl) ?_
      intro K3 hK3
      simp only [List.getElem_toArray, List.getElem_cons_succ, List.getElem_cons_zero]
      refine wp_store_blk 42 _ _ rfl w4.heap.size rfl (c18 V4 D1.ph D1.cyc) rfl 42 n18 (Blk.new w4 _ _) r18_size rfl ON4.out ?_
      intro w6 hB6 hg6 hs6
      have hS3 : (fun X : World => Below w3.heap.size w3 X) w6 := Below.grown hS2 hg6 (Below.size hS2) (fun k hk => by cases hk; exact Below.size hS1)
      refine hK3.out _ _ (fun _ => hS3) ?_
      (try simp only [Act.put, List.getElem_toArray, List.getElem_cons_succ, List.getElem_cons_zero, List.setIfInBounds_toArray, List.set_cons_zero, List.set_cons_succ])
      refine wpAnyT_takeA (i := 13) (v := .int .i64 n1) rfl (by kernel_rfl) rfl (fun _ _ _ hp => hp) (Or.inl ⟨by kernel_rfl, fun X _ => by go_simp⟩) hS3 ?_
      simp only [Act.put, List.getElem_toArray, List.getElem_cons_succ, List.getElem_cons_zero, List.setIfInBounds_toArray, List.set_cons_zero, List.set_cons_succ]
      refine wpAnyT_takeA (i := 14) (v := .int .i64 r1) rfl (by kernel_rfl) rfl (fun _ _ _ hp => hp) (Or.inl ⟨by kernel_rfl, fun X _ => by go_simp⟩) hS3 ?_
      simp only [Act.put, List.getElem_toArray, List.getElem_cons_succ, List.getElem_cons_zero, List.setIfInBounds_toArray, List.set_cons_zero, List.set_cons_succ]
      refine wpAnyT_done (by kernel_rfl) ?_ _
      (try simp only [Act.put, List.getElem_toArray, List.getElem_cons_succ, List.getElem_cons_zero, List.setIfInBounds_toArray, List.set_cons_zero, List.set_cons_succ])
      clear hK1 K1 hK2 K2 hK3 K3
      have b46 : Below w4.heap.size w4 w6 := (below_alloc w4 _).grown hg6 (by simp) (fun k hk => by cases hk; exact Nat.le_refl _)
      have xv6 := Lib.hid (xv4.below b46)
      obtain ⟨gB, hgB⟩ : ∃ gB, gB = w4.heap.size := ⟨_, rfl⟩
      rw [← hgB] at hB6 ⊢
      have b6 : Below w3.heap.size w3 w6 := hS3
      clear hS0 hS1 hS2 hS3 hg6 hs6 b46 xv4 b4
      obtain ⟨ht, hz7, ho7, H7⟩ := hput.out w6 _ V4 b6 xv6.out
      have ht4 : w6.there q 1 (c18 V4 (D1).ph (D1).cyc).size := ht
      replace hB6 := Lib.hid hB6
      replace ht4 := Lib.hid ht4
      replace H7 := Lib.hid H7
      replace hz7 := Lib.hid hz7
      replace ho7 := Lib.hid ho7
      clear ht
      go_wp2_with (first
        | (refine wpList_load_blk rfl 42 (.tmp 15) rfl gB rfl 42 (c18 V4 (D1).ph (D1).cyc) hB6.out _ Tryz.underlying42 rfl SZ.out ?_)
        | (refine wpList_store_mid rfl 42 (.tmp 110) (.tmp 108) rfl q 1 (c18 V4 (D1).ph (D1).cyc) rfl rfl ht4.out SZ.out ON4.out ?_; refine stop_here ?_))
      obtain ⟨w7, hw7⟩ : ∃ w7, w7 = w6.setCells q 1 (c18 V4 (D1).ph (D1).cyc).toList := ⟨_, rfl⟩
      rw [← hw7] at H7 hz7 ho7 ⊢
      replace hw7 := Lib.hid hw7
      have c0 := H7.out.cells.1
      clear hB6 ht4 hput xv6 b6 ON4
      refine go_on ?_
      have f7 : w7.cell? ⟨g, 5, none⟩ = some (.int .i64 x) := cell_keep H7.out hgw hg3 e5
      have HA := Lib.hid ((H7.out.below (show Below w7.heap.size w7 w7.drew from (Below.refl _ _).drew)).call (P := fun e _ => e = .returned (.tuple #[.int .i64 n2, .int .i64 r2])) (T' := T1) fun v0 L => hT.out v0 _ L)
      go_wp2_with fail
      have hS0 : (fun X : World => X.cell? ⟨q, 0, none⟩ = some (.pointer (some ⟨s, 0, none⟩)) ∧ X.cell? ⟨g, 5, none⟩ = some (.int .i64 x)) w7.drew := ⟨c0, f7⟩
      refine wp_T (by kernel_rfl) 12 (fun X : World => X.cell? ⟨q, 0, none⟩ = some (.pointer (some ⟨s, 0, none⟩)) ∧ X.cell? ⟨g, 5, none⟩ = some (.int .i64 x)) ?_
      refine wpAnyT_takeA (i := 0) (v := .pointer (some ⟨q, 0, none⟩)) rfl (by kernel_rfl) rfl (fun _ _ _ hp => hp) (Or.inl ⟨by kernel_rfl, fun X _ => by go_simp⟩) hS0 ?_
      simp only [Act.put, List.getElem_toArray, List.getElem_cons_succ, List.getElem_cons_zero, List.setIfInBounds_toArray, List.set_cons_zero, List.set_cons_succ]
      refine wpAnyT_takeA (i := 1) (v := .pointer (some ⟨q, 0, none⟩)) rfl (by kernel_rfl) rfl (fun _ _ _ hp => hp) (Or.inl ⟨by kernel_rfl, fun X _ => by go_simp⟩) hS0 ?_
      simp only [Act.put, List.getElem_toArray, List.getElem_cons_succ, List.getElem_cons_zero, List.setIfInBounds_toArray, List.set_cons_zero, List.set_cons_succ]
      refine wpAnyT_takeA (i := 2) (v := .pointer (some ⟨q, 0, none⟩)) rfl (by kernel_rfl) rfl (fun _ _ _ hp => hp) (Or.inl ⟨by kernel_rfl, fun X _ => by go_simp⟩) hS0 ?_
      simp only [Act.put, List.getElem_toArray, List.getElem_cons_succ, List.getElem_cons_zero, List.setIfInBounds_toArray, List.set_cons_zero, List.set_cons_succ]
      refine wpAnyT_takeA (i := 3) (v := .pointer (some ⟨s, 0, none⟩)) rfl (by kernel_rfl) rfl (fun _ _ _ hp => hp) (Or.inl ⟨by kernel_rfl, fun X hX => by have hX1 : (fun X : World => X.cell? ⟨q, 0, none⟩ = some (.pointer (some ⟨s, 0, none⟩)) ∧ X.cell? ⟨g, 5, none⟩ = some (.int .i64 x)) X := hX; have y1 : X.cell? ⟨q, 0, none⟩ = some (.pointer (some ⟨s, 0, none⟩)) := hX1.1; go_simp⟩) hS0 ?_
      simp only [Act.put, List.getElem_toArray, List.getElem_cons_succ, List.getElem_cons_zero, List.setIfInBounds_toArray, List.set_cons_zero, List.set_cons_succ]
      refine wpAnyT_takeA (i := 4) (v := .pointer (some ⟨g, 5, none⟩)) rfl (by kernel_rfl) rfl (fun _ _ _ hp => hp) (Or.inl ⟨by kernel_rfl, fun X _ => by go_simp⟩) hS0 ?_
      simp only [Act.put, List.getElem_toArray, List.getElem_cons_succ, List.getElem_cons_zero, List.setIfInBounds_toArray, List.set_cons_zero, List.set_cons_succ]
      refine wpAnyT_takeA (i := 5) (v := .int .i64 x) rfl (by kernel_rfl) rfl (fun _ _ _ hp => hp) (Or.inl ⟨by kernel_rfl, fun X hX => by have hX1 : (fun X : World => X.cell? ⟨q, 0, none⟩ = some (.pointer (some ⟨s, 0, none⟩)) ∧ X.cell? ⟨g, 5, none⟩ = some (.int .i64 x)) X := hX; have y1 : X.cell? ⟨g, 5, none⟩ = some (.int .i64 x) := hX1.2; go_simp⟩) hS0 ?_
      simp only [Act.put, List.getElem_toArray, List.getElem_cons_succ, List.getElem_cons_zero, List.setIfInBounds_toArray, List.set_cons_zero, List.set_cons_succ]
      refine wpAnyT_one (i := 6) rfl (by kernel_rfl) (by kernel_rfl) ?_
      intro K1 hK1
      go_simp
      refine (HA.out).mono ?_
      rintro e w8 ⟨rfl, H8⟩
      dsimp only
      have hS1 : (fun X : World => X.cell? ⟨q, 0, none⟩ = some (.pointer (some ⟨s, 0, none⟩)) ∧ X.cell? ⟨g, 5, none⟩ = some (.int .i64 x)) w8 := ⟨H8.cells.1, cell_keep H8 hgw hg3 e5⟩
      replace H8 := Lib.hid H8
      refine hK1.out _ _ (fun _ => hS1) ?_
      (try simp only [Act.put, List.getElem_toArray, List.getElem_cons_succ, List.getElem_cons_zero, List.setIfInBounds_toArray, List.set_cons_zero, List.set_cons_succ])
      refine wpAnyT_takeA (i := 7) (v := .tuple #[.int .i64 n2, .int .i64 r2]) rfl (by kernel_rfl) rfl (fun _ _ _ hp => hp) (Or.inl ⟨by kernel_rfl, fun X _ => by go_simp⟩) hS1 ?_
      simp only [Act.put, List.getElem_toArray, List.getElem_cons_succ, List.getElem_cons_zero, List.setIfInBounds_toArray, List.set_cons_zero, List.set_cons_succ]
      refine wpAnyT_takeA (i := 8) (v := .int .i64 n2) rfl (by kernel_rfl) rfl (fun _ _ _ hp => hp) (Or.inl ⟨by kernel_rfl, fun X _ => by go_simp⟩) hS1 ?_
      simp only [Act.put, List.getElem_toArray, List.getElem_cons_succ, List.getElem_cons_zero, List.setIfInBounds_toArray, List.set_cons_zero, List.set_cons_succ]
      refine wpAnyT_takeA (i := 9) (v := .int .i64 r2) rfl (by kernel_rfl) rfl (fun _ _ _ hp => hp) (Or.inl ⟨by kernel_rfl, fun X _ => by go_simp⟩) hS1 ?_
      simp only [Act.put, List.getElem_toArray, List.getElem_cons_succ, List.getElem_cons_zero, List.setIfInBounds_toArray, List.set_cons_zero, List.set_cons_succ]
      refine wpAnyT_takeA (i := 10) (v := .int .i64 n2) rfl (by kernel_rfl) rfl (fun _ _ _ hp => hp) (Or.inl ⟨by kernel_rfl, fun X _ => by go_simp⟩) hS1 ?_
      simp only [Act.put, List.getElem_toArray, List.getElem_cons_succ, List.getElem_cons_zero, List.setIfInBounds_toArray, List.set_cons_zero, List.set_cons_succ]
      refine wpAnyT_takeA (i := 11) (v := .int .i64 r2) rfl (by kernel_rfl) rfl (fun _ _ _ hp => hp) (Or.inl ⟨by kernel_rfl, fun X _ => by go_simp⟩) hS1 ?_
      simp only [Act.put, List.getElem_toArray, List.getElem_cons_succ, List.getElem_cons_zero, List.setIfInBounds_toArray, List.set_cons_zero, List.set_cons_succ]
      refine wpAnyT_done (by kernel_rfl) ?_ _
      (try simp only [Act.put, List.getElem_toArray, List.getElem_cons_succ, List.getElem_cons_zero, List.setIfInBounds_toArray, List.set_cons_zero, List.set_cons_succ])
      clear hK1 K1 hS0 hS1
      by_cases hp : n1 = n2
      · subst hp
        by_cases hr : r1 = r2
        · subst hr
          go_wp2_with fail
          go_ret
          exact ⟨true, rfl, fun _ => rfl, hun.out H8.out⟩
        · have z1 : (r2 == r1) = false := beq_eq_false_iff_ne.2 fun e => hr e.symm
          have z2 : ¬ r2 = r1 := fun e => hr e.symm
          go_wp2_with fail
          go_ret
          exact ⟨false, rfl, fun he => absurd (by injection he) hr, hun.out H8.out⟩
      · have z1 : (n1 == n2) = false := beq_eq_false_iff_ne.2 hp
        go_wp2_with fail
        go_ret
        exact ⟨false, rfl, fun he => absurd (by injection he) hp, hun.out H8.out⟩
    · intro K1 hK1
      simp only [List.getElem_toArray, List.getElem_cons_succ, List.getElem_cons_zero]
      refine wp_new (.alloc 42) rfl 42 n18 (by kernel_rfl) ?_
      have hS1 : (fun X : World => Below w3.heap.size w3 X) (w3.drew.alloc (.cells n18 42)) := Below.trans hS0 ((below_alloc w3.drew _).mono (Below.size hS0))
      refine hK1.out _ _ (fun _ => hS1) ?_
      (try simp only [Act.put, List.getElem_toArray, List.getElem_cons_succ, List.getElem_cons_zero, List.setIfInBounds_toArray, List.set_cons_zero, List.set_cons_succ])
      refine wpAnyT_one (i := 6) rfl (by kernel_rfl) (by kernel_rfl) ?_
      intro K2 hK2
      go_simp
      have hz0 : (w3.drew.alloc (.cells n18 42)).heap.size = w3.heap.size + 1 := (show (w3.drew.alloc (.cells n18 42)).heap.size = w3.drew.heap.size + 1 by simp)
      refine (HC.out (fun b => Q b ∧ b ≠ w3.heap.size) _ (xv.out.keepQ (Below.size hS1) (fun b _ hlt => Below.block hS1 b hlt) fun b hb hlt => ⟨hb, by omega⟩) (fun b hb => ⟨hQ.out b (Nat.le_trans (Below.size hS1) hb), by omega⟩)).mono ?_
      rintro e w4 ⟨V4, rfl, xv4, b4⟩
      dsimp only
      have hS2 : (fun X : World => Below w3.heap.size w3 X) w4 := Below.trans hS1 (Below.mono b4 (Below.size hS1))
      have ON4 := Lib.hid (xv4.one D1.ph D1.cyc)
      have hBn := (Blk.new w3.drew 42 n18).below b4 (Blk.new w3.drew 42 n18).lt
      refine hK2.out _ _ (fun _ => hS2) ?_
      (try simp only [Act.put, List.getElem_toArray, List.getElem_cons_succ, List.getElem_cons_zero, List.setIfInBounds_toArray, List.set_cons_zero, List.set_cons_succ])
      refine wpAnyT_takeA (i := 7) (v := .tuple #[.agg (c18 V4 D1.ph D1.cyc), .int .i64 n1, .int .i64 r1]) rfl (by kernel_rfl) rfl (fun _ _ _ hp => hp) (Or.inl ⟨by kernel_rfl, fun X _ => by go_simp⟩) hS2 ?_
      simp only [Act.put, List.getElem_toArray, List.getElem_cons_succ, List.getElem_cons_zero, List.setIfInBounds_toArray, List.set_cons_zero, List.set_cons_succ]
      refine wpAnyT_takeA (i := 8) (v := .agg (c18 V4 D1.ph D1.cyc)) rfl (by kernel_rfl) rfl (fun _ _ _ hp => hp) (Or.inl ⟨by kernel_rfl, fun X _ => by go_simp⟩) hS2 ?_
      simp only [Act.put, List.getElem_toArray, List.getElem_cons_succ, List.getElem_cons_zero, List.setIfInBounds_toArray, List.set_cons_zero, List.set_cons_succ]
      refine wpAnyT_takeA (i := 9) (v := .int .i64 n1) rfl (by kernel_rfl) rfl (fun _ _ _ hp => hp) (Or.inl ⟨by kernel_rfl, fun X _ => by go_simp⟩) hS2 ?_
      simp only [Act.put, List.getElem_toArray, List.getElem_cons_succ, List.getElem_cons_zero, List.setIfInBounds_toArray, List.set_cons_zero, List.set_cons_succ]
      refine wpAnyT_takeA (i := 10) (v := .int .i64 r1) rfl (by kernel_rfl) rfl (fun _ _ _ hp => hp) (Or.inl ⟨by kernel_rfl, fun X _ => by go_simp⟩) hS2 ?_
      simp only [Act.put, List.getElem_toArray, List.getElem_cons_succ, List.getElem_cons_zero, List.setIfInBounds_toArray, List.set_cons_zero, List.set_cons_succ]
      refine wpAnyT_one (i := 12) rfl (by kernel_rfl) (by kernel_rfl) ?_
      intro K3 hK3
      simp only [List.getElem_toArray, List.getElem_cons_succ, List.getElem_cons_zero]
      refine wp_store_blk 42 _ _ rfl w3.drew.heap.size rfl (c18 V4 D1.ph D1.cyc) rfl 42 n18 hBn r18_size rfl ON4.out ?_
      intro w6 hB6 hg6 hs6
      have hS3 : (fun X : World => Below w3.heap.size w3 X) w6 := Below.grown hS2 hg6 (Below.size hS2) (fun k hk => by cases hk; exact Nat.le_refl _)
      refine hK3.out _ _ (fun _ => hS3) ?_
      (try simp only [Act.put, List.getElem_toArray, List.getElem_cons_succ, List.getElem_cons_zero, List.setIfInBounds_toArray, List.set_cons_zero, List.set_cons_succ])
      refine wpAnyT_takeA (i := 13) (v := .int .i64 n1) rfl (by kernel_rfl) rfl (fun _ _ _ hp => hp) (Or.inl ⟨by kernel_rfl, fun X _ => by go_simp⟩) hS3 ?_
      simp only [Act.put, List.getElem_toArray, List.getElem_cons_succ, List.getElem_cons_zero, List.setIfInBounds_toArray, List.set_cons_zero, List.set_cons_succ]
      refine wpAnyT_takeA (i := 14) (v := .int .i64 r1) rfl (by kernel_rfl) rfl (fun _ _ _ hp => hp) (Or.inl ⟨by kernel_rfl, fun X _ => by go_simp⟩) hS3 ?_
      simp only [Act.put, List.getElem_toArray, List.getElem_cons_succ, List.getElem_cons_zero, List.setIfInBounds_toArray, List.set_cons_zero, List.set_cons_succ]
      refine wpAnyT_done (by kernel_rfl) ?_ _
      (try simp only [Act.put, List.getElem_toArray, List.getElem_cons_succ, List.getElem_cons_zero, List.setIfInBounds_toArray, List.set_cons_zero, List.set_cons_succ])
      clear hK1 K1 hK2 K2 hK3 K3
      have xv6 := Lib.hid (xv4.stored (Q' := Q) hg6 fun b hb => ⟨hb.1, hb.2⟩)
      replace hB6 : Blk w6 w3.heap.size 42 (c18 V4 D1.ph D1.cyc) := hB6
      obtain ⟨gB, hgB⟩ : ∃ gB, gB = w3.heap.size := ⟨_, rfl⟩
      rw [← hgB] at hB6 ⊢
      have b6 : Below w3.heap.size w3 w6 := hS3
      clear hS0 hS1 hS2 hS3 hg6 hs6 hBn xv4 b4
      obtain ⟨ht, hz7, ho7, H7⟩ := hput.out w6 _ V4 b6 xv6.out
      have ht4 : w6.there q 1 (c18 V4 (D1).ph (D1).cyc).size := ht
      replace hB6 := Lib.hid hB6
      replace ht4 := Lib.hid ht4
      replace H7 := Lib.hid H7
      replace hz7 := Lib.hid hz7
      replace ho7 := Lib.hid ho7
      clear ht
      go_wp2_with (first
        | (refine wpList_load_blk rfl 42 (.tmp 15) rfl gB rfl 42 (c18 V4 (D1).ph (D1).cyc) hB6.out _ Tryz.underlying42 rfl SZ.out ?_)
        | (refine wpList_store_mid rfl 42 (.tmp 110) (.tmp 108) rfl q 1 (c18 V4 (D1).ph (D1).cyc) rfl rfl ht4.out SZ.out ON4.out ?_; refine stop_here ?_))
      obtain ⟨w7, hw7⟩ : ∃ w7, w7 = w6.setCells q 1 (c18 V4 (D1).ph (D1).cyc).toList := ⟨_, rfl⟩
      rw [← hw7] at H7 hz7 ho7 ⊢
      replace hw7 := Lib.hid hw7
      have c0 := H7.out.cells.1
      clear hB6 ht4 hput xv6 b6 ON4
      refine go_on ?_
      have f7 : w7.cell? ⟨g, 5, none⟩ = some (.int .i64 x) := cell_keep H7.out hgw hg3 e5
      have HA := Lib.hid ((H7.out.below (show Below w7.heap.size w7 w7.drew from (Below.refl _ _).drew)).call (P := fun e _ => e = .returned (.tuple #[.int .i64 n2, .int .i64 r2])) (T' := T1) fun v0 L => hT.out v0 _ L)
      go_wp2_with fail
      have hS0 : (fun X : World => X.cell? ⟨q, 0, none⟩ = some (.pointer (some ⟨s, 0, none⟩)) ∧ X.cell? ⟨g, 5, none⟩ = some (.int .i64 x)) w7.drew := ⟨c0, f7⟩
      refine wp_T (by kernel_rfl) 12 (fun X : World => X.cell? ⟨q, 0, none⟩ = some (.pointer (some ⟨s, 0, none⟩)) ∧ X.cell? ⟨g, 5, none⟩ = some (.int .i64 x)) ?_
      refine wpAnyT_takeA (i := 0) (v := .pointer (some ⟨q, 0, none⟩)) rfl (by kernel_rfl) rfl (fun _ _ _ hp => hp) (Or.inl ⟨by kernel_rfl, fun X _ => by go_simp⟩) hS0 ?_
      simp only [Act.put, List.getElem_toArray, List.getElem_cons_succ, List.getElem_cons_zero, List.setIfInBounds_toArray, List.set_cons_zero, List.set_cons_succ]
      refine wpAnyT_takeA (i := 1) (v := .pointer (some ⟨q, 0, none⟩)) rfl (by kernel_rfl) rfl (fun _ _ _ hp => hp) (Or.inl ⟨by kernel_rfl, fun X _ => by go_simp⟩) hS0 ?_
      simp only [Act.put, List.getElem_toArray, List.getElem_cons_succ, List.getElem_cons_zero, List.setIfInBounds_toArray, List.set_cons_zero, List.set_cons_succ]
      refine wpAnyT_takeA (i := 2) (v := .pointer (some ⟨q, 0, none⟩)) rfl (by kernel_rfl) rfl (fun _ _ _ hp => hp) (Or.inl ⟨by kernel_rfl, fun X _ => by go_simp⟩) hS0 ?_
      simp only [Act.put, List.getElem_toArray, List.getElem_cons_succ, List.getElem_cons_zero, List.setIfInBounds_toArray, List.set_cons_zero, List.set_cons_succ]
      refine wpAnyT_takeA (i := 3) (v := .pointer (some ⟨s, 0, none⟩)) rfl (by kernel_rfl) rfl (fun _ _ _ hp => hp) (Or.inl ⟨by kernel_rfl, fun X hX => by have hX1 : (fun X : World => X.cell? ⟨q, 0, none⟩ = some (.pointer (some ⟨s, 0, none⟩)) ∧ X.cell? ⟨g, 5, none⟩ = some (.int .i64 x)) X := hX; have y1 : X.cell? ⟨q, 0, none⟩ = some (.pointer (some ⟨s, 0, none⟩)) := hX1.1; go_simp⟩) hS0 ?_
      simp only [Act.put, List.getElem_toArray, List.getElem_cons_succ, List.getElem_cons_zero, List.setIfInBounds_toArray, List.set_cons_zero, List.set_cons_succ]
      refine wpAnyT_takeA (i := 4) (v := .pointer (some ⟨g, 5, none⟩)) rfl (by kernel_rfl) rfl (fun _ _ _ hp => hp) (Or.inl ⟨by kernel_rfl, fun X _ => by go_simp⟩) hS0 ?_
      simp only [Act.put, List.getElem_toArray, List.getElem_cons_succ, List.getElem_cons_zero, List.setIfInBounds_toArray, List.set_cons_zero, List.set_cons_succ]
      refine wpAnyT_takeA (i := 5) (v := .int .i64 x) rfl (by kernel_rfl) rfl (fun _ _ _ hp => hp) (Or.inl ⟨by kernel_rfl, fun X hX => by have hX1 : (fun X : World => X.cell? ⟨q, 0, none⟩ = some (.pointer (some ⟨s, 0, none⟩)) ∧ X.cell? ⟨g, 5, none⟩ = some (.int .i64 x)) X := hX; have y1 : X.cell? ⟨g, 5, none⟩ = some (.int .i64 x) := hX1.2; go_simp⟩) hS0 ?_
      simp only [Act.put, List.getElem_toArray, List.getElem_cons_succ, List.getElem_cons_zero, List.setIfInBounds_toArray, List.set_cons_zero, List.set_cons_succ]
      refine wpAnyT_one (i := 6) rfl (by kernel_rfl) (by kernel_rfl) ?_
      intro K1 hK1
      go_simp
      refine (HA.out).mono ?_
      rintro e w8 ⟨rfl, H8⟩
      dsimp only
      have hS1 : (fun X : World => X.cell? ⟨q, 0, none⟩ = some (.pointer (some ⟨s, 0, none⟩)) ∧ X.cell? ⟨g, 5, none⟩ = some (.int .i64 x)) w8 := ⟨H8.cells.1, cell_keep H8 hgw hg3 e5⟩
      replace H8 := Lib.hid H8
      refine hK1.out _ _ (fun _ => hS1) ?_
      (try simp only [Act.put, List.getElem_toArray, List.getElem_cons_succ, List.getElem_cons_zero, List.setIfInBounds_toArray, List.set_cons_zero, List.set_cons_succ])
      refine wpAnyT_takeA (i := 7) (v := .tuple #[.int .i64 n2, .int .i64 r2]) rfl (by kernel_rfl) rfl (fun _ _ _ hp => hp) (Or.inl ⟨by kernel_rfl, fun X _ => by go_simp⟩) hS1 ?_
      simp only [Act.put, List.getElem_toArray, List.getElem_cons_succ, List.getElem_cons_zero, List.setIfInBounds_toArray, List.set_cons_zero, List.set_cons_succ]
      refine wpAnyT_takeA (i := 8) (v := .int .i64 n2) rfl (by kernel_rfl) rfl (fun _ _ _ hp => hp) (Or.inl ⟨by kernel_rfl, fun X _ => by go_simp⟩) hS1 ?_
      simp only [Act.put, List.getElem_toArray, List.getElem_cons_succ, List.getElem_cons_zero, List.setIfInBounds_toArray, List.set_cons_zero, List.set_cons_succ]
      refine wpAnyT_takeA (i := 9) (v := .int .i64 r2) rfl (by kernel_rfl) rfl (fun _ _ _ hp => hp) (Or.inl ⟨by kernel_rfl, fun X _ => by go_simp⟩) hS1 ?_
      simp only [Act.put, List.getElem_toArray, List.getElem_cons_succ, List.getElem_cons_zero, List.setIfInBounds_toArray, List.set_cons_zero, List.set_cons_succ]
      refine wpAnyT_takeA (i := 10) (v := .int .i64 n2) rfl (by kernel_rfl) rfl (fun _ _ _ hp => hp) (Or.inl ⟨by kernel_rfl, fun X _ => by go_simp⟩) hS1 ?_
      simp only [Act.put, List.getElem_toArray, List.getElem_cons_succ, List.getElem_cons_zero, List.setIfInBounds_toArray, List.set_cons_zero, List.set_cons_succ]
      refine wpAnyT_takeA (i := 11) (v := .int .i64 r2) rfl (by kernel_rfl) rfl (fun _ _ _ hp => hp) (Or.inl ⟨by kernel_rfl, fun X _ => by go_simp⟩) hS1 ?_
      simp only [Act.put, List.getElem_toArray, List.getElem_cons_succ, List.getElem_cons_zero, List.setIfInBounds_toArray, List.set_cons_zero, List.set_cons_succ]
      refine wpAnyT_done (by kernel_rfl) ?_ _
      (try simp only [Act.put, List.getElem_toArray, List.getElem_cons_succ, List.getElem_cons_zero, List.setIfInBounds_toArray, List.set_cons_zero, List.set_cons_succ])
      clear hK1 K1 hS0 hS1
      by_cases hp : n1 = n2
      · subst hp
        by_cases hr : r1 = r2
        · subst hr
          go_wp2_with fail
          go_ret
          exact ⟨true, rfl, fun _ => rfl, hun.out H8.out⟩
        · have z1 : (r2 == r1) = false := beq_eq_false_iff_ne.2 fun e => hr e.symm
          have z2 : ¬ r2 = r1 := fun e => hr e.symm
          go_wp2_with fail
          go_ret
          exact ⟨false, rfl, fun he => absurd (by injection he) hr, hun.out H8.out⟩
      · have z1 : (n1 == n2) = false := beq_eq_false_iff_ne.2 hp
        go_wp2_with fail
        go_ret
        exact ⟨false, rfl, fun he => absurd (by injection he) hp, hun.out H8.out⟩
  · go_wp2_with fail
    have hS0 : (fun X : World => Below w3.heap.size w3 X) w3.drew := (Below.refl _ _).drew
    refine wp_T (by kernel_rfl) 15 (fun X : World => Below w3.heap.size w3 X) ?_
    refine wpAnyT_takeA (i := 0) (v := .pointer (some ⟨q, 0, none⟩)) rfl (by kernel_rfl) rfl (fun _ _ _ hp => hp) (Or.inl ⟨by kernel_rfl, fun X _ => by go_simp⟩) hS0 ?_
    simp only [Act.put, List.getElem_toArray, List.getElem_cons_succ, List.getElem_cons_zero, List.setIfInBounds_toArray, List.set_cons_zero, List.set_cons_succ]
    refine wpAnyT_takeA (i := 1) (v := .pointer (some ⟨q, 0, none⟩)) rfl (by kernel_rfl) rfl (fun _ _ _ hp => hp) (Or.inl ⟨by kernel_rfl, fun X _ => by go_simp⟩) hS0 ?_
    simp only [Act.put, List.getElem_toArray, List.getElem_cons_succ, List.getElem_cons_zero, List.setIfInBounds_toArray, List.set_cons_zero, List.set_cons_succ]
    refine wpAnyT_takeA (i := 2) (v := .pointer (some ⟨q, 1, none⟩)) rfl (by kernel_rfl) rfl (fun _ _ _ hp => hp) (Or.inl ⟨by kernel_rfl, fun X _ => by go_simp⟩) hS0 ?_
    simp only [Act.put, List.getElem_toArray, List.getElem_cons_succ, List.getElem_cons_zero, List.setIfInBounds_toArray, List.set_cons_zero, List.set_cons_succ]
    refine wpAnyT_takeA (i := 3) (v := .agg (c18 V D.ph D.cyc)) rfl (by kernel_rfl) rfl (fun _ _ _ hp => hp) (yieldsIf_load_mid (by kernel_rfl) _ _ rfl q 1 (by kernel_rfl) [V.vw, V.vc, V.f 0, V.f 1, V.f 2, V.f 3, V.vo, V.vg, V.vb, .int .i64 D.ph, V.vl, .int .i64 D.cyc] _ (fun X hX => hat.out X hX) Tryz.underlying42 rfl r18_size) hS0 ?_
    simp only [Act.put, List.getElem_toArray, List.getElem_cons_succ, List.getElem_cons_zero, List.setIfInBounds_toArray, List.set_cons_zero, List.set_cons_succ]
    refine wpAnyT_takeA (i := 4) (v := .pointer (some ⟨g, 5, none⟩)) rfl (by kernel_rfl) rfl (fun _ _ _ hp => hp) (Or.inl ⟨by kernel_rfl, fun X _ => by go_simp⟩) hS0 ?_
    simp only [Act.put, List.getElem_toArray, List.getElem_cons_succ, List.getElem_cons_zero, List.setIfInBounds_toArray, List.set_cons_zero, List.set_cons_succ]
    refine wpAnyT_takeA (i := 5) (v := .int .i64 x) rfl (by kernel_rfl) rfl (fun _ _ _ hp => hp) (Or.inl ⟨by kernel_rfl, fun X hX => by have hX1 : (fun X : World => Below w3.heap.size w3 X) X := hX; have y1 := (Below.cell (p := ⟨g, 5, none⟩) hX1 hg3).trans e5; go_simp⟩) hS0 ?_
    simp only [Act.put, List.getElem_toArray, List.getElem_cons_succ, List.getElem_cons_zero, List.setIfInBounds_toArray, List.set_cons_zero, List.set_cons_succ]
    refine wpAnyT_two (i := 6) (j := 11) rfl rfl (by kernel_rfl) (by kernel_rfl) (by kernel_rfl) ?_ ?_
    · intro K1 hK1
      go_simp
      refine (HC.out Q _ (xv.out.below hS0) (hQ.out.le (Below.size hS0))).mono ?_
      rintro e w4 ⟨V4, rfl, xv4, b4⟩
      dsimp only
      have hS1 : (fun X : World => Below w3.heap.size w3 X) w4 := Below.trans hS0 (Below.mono b4 (Below.size hS0))
      have ON4 := Lib.hid (xv4.one D1.ph D1.cyc)
      refine hK1.out _ _ (fun _ => hS1) ?_
      (try simp only [Act.put, List.getElem_toArray, List.getElem_cons_succ, List.getElem_cons_zero, List.setIfInBounds_toArray, List.set_cons_zero, List.set_cons_succ])
      refine wpAnyT_takeA (i := 7) (v := .tuple #[.agg (c18 V4 D1.ph D1.cyc), .int .i64 n1, .int .i64 r1]) rfl (by kernel_rfl) rfl (fun _ _ _ hp => hp) (Or.inl ⟨by kernel_rfl, fun X _ => by go_simp⟩) hS1 ?_
      simp only [Act.put, List.getElem_toArray, List.getElem_cons_succ, List.getElem_cons_zero, List.setIfInBounds_toArray, List.set_cons_zero, List.set_cons_succ]
      refine wpAnyT_takeA (i := 8) (v := .agg (c18 V4 D1.ph D1.cyc)) rfl (by kernel_rfl) rfl (fun _ _ _ hp => hp) (Or.inl ⟨by kernel_rfl, fun X _ => by go_simp⟩) hS1 ?_
      simp only [Act.put, List.getElem_toArray, List.getElem_cons_succ, List.getElem_cons_zero, List.setIfInBounds_toArray, List.set_cons_zero, List.set_cons_succ]
      refine wpAnyT_takeA (i := 9) (v := .int .i64 n1) rfl (by kernel_rfl) rfl (fun _ _ _ hp => hp) (Or.inl ⟨by kernel_rfl, fun X _ => by go_simp⟩) hS1 ?_
      simp only [Act.put, List.getElem_toArray, List.getElem_cons_succ, List.getElem_cons_zero, List.setIfInBounds_toArray, List.set_cons_zero, List.set_cons_succ]
      refine wpAnyT_takeA (i := 10) (v := .int .i64 r1) rfl (by kernel_rfl) rfl (fun _ _ _ hp => hp) (Or.inl ⟨by kernel_rfl, fun X _ => by go_simp⟩) hS1 ?_
      simp only [Act.put, List.getElem_toArray, List.getElem_cons_succ, List.getElem_cons_zero, List.setIfInBounds_toArray, List.set_cons_zero, List.set_cons_succ]
      refine wpAnyT_one (i := 11) rfl (by kernel_rfl) (by kernel_rfl) ?_
      intro K2 hK2
      simp only [List.getElem_toArray, List.getElem_cons_succ, List.getElem_cons_zero]
      refine wp_new (.alloc 42) rfl 42 n18 (by kernel_rfl) ?_
      have hS2 : (fun X : World => Below w3.heap.size w3 X) (w4.alloc (.cells n18 42)) := Below.trans hS1 ((below_alloc w4 _).mono (Below.size hS1))
      refine hK2.out _ _ (fun _ => hS2) ?_
      (try simp only [Act.put, List.getElem_toArray, List.getElem_cons_succ, List.getElem_cons_zero, List.setIfInBounds_toArray, List.set_cons_zero, List.set_cons_succ])
      refine wpAnyT_one (i := 12) rfl (by kernel_rfl) (by kernel_rfl) ?_
      intro K3 hK3
      simp only [List.getElem_toArray, List.getElem_cons_succ, List.getElem_cons_zero]
      refine wp_store_blk 42 _ _ rfl w4.heap.size rfl (c18 V4 D1.ph D1.cyc) rfl 42 n18 (Blk.new w4 _ _) r18_size rfl ON4.out ?_
      intro w6 hB6 hg6 hs6
      have hS3 : (fun X : World => Below w3.heap.size w3 X) w6 := Below.grown hS2 hg6 (Below.size hS2) (fun k hk => by cases hk; exact Below.size hS1)
      refine hK3.out _ _ (fun _ => hS3) ?_
      (try simp only [Act.put, List.getElem_toArray, List.getElem_cons_succ, List.getElem_cons_zero, List.setIfInBounds_toArray, List.set_cons_zero, List.set_cons_succ])
      refine wpAnyT_takeA (i := 13) (v := .int .i64 n1) rfl (by kernel_rfl) rfl (fun _ _ _ hp => hp) (Or.inl ⟨by kernel_rfl, fun X _ => by go_simp⟩) hS3 ?_
      simp only [Act.put, List.getElem_toArray, List.getElem_cons_succ, List.getElem_cons_zero, List.setIfInBounds_toArray, List.set_cons_zero, List.set_cons_succ]
      refine wpAnyT_takeA (i := 14) (v := .int .i64 r1) rfl (by kernel_rfl) rfl (fun _ _ _ hp => hp) (Or.inl ⟨by kernel_rfl, fun X _ => by go_simp⟩) hS3 ?_
      simp only [Act.put, List.getElem_toArray, List.getElem_cons_succ, List.getElem_cons_zero, List.setIfInBounds_toArray, List.set_cons_zero, List.set_cons_succ]
      refine wpAnyT_done (by kernel_rfl) ?_ _
      (try simp only [Act.put, List.getElem_toArray, List.getElem_cons_succ, List.getElem_cons_zero, List.setIfInBounds_toArray, List.set_cons_zero, List.set_cons_succ])
      clear hK1 K1 hK2 K2 hK3 K3
      have b46 : Below w4.heap.size w4 w6 := (below_alloc w4 _).grown hg6 (by simp) (fun k hk => by cases hk; exact Nat.le_refl _)
      have xv6 := Lib.hid (xv4.below b46)
      obtain ⟨gB, hgB⟩ : ∃ gB, gB = w4.heap.size := ⟨_, rfl⟩
      rw [← hgB] at hB6 ⊢
      have b6 : Below w3.heap.size w3 w6 := hS3
      clear hS0 hS1 hS2 hS3 hg6 hs6 b46 xv4 b4
      obtain ⟨ht, hz7, ho7, H7⟩ := hput.out w6 _ V4 b6 xv6.out
      have ht4 : w6.there q 1 (c18 V4 (D1).ph (D1).cyc).size := ht
      replace hB6 := Lib.hid hB6
      replace ht4 := Lib.hid ht4
      replace H7 := Lib.hid H7
      replace hz7 := Lib.hid hz7
      replace ho7 := Lib.hid ho7
      clear ht
      go_wp2_with (first
        | (refine wpList_load_blk rfl 42 (.tmp 15) rfl gB rfl 42 (c18 V4 (D1).ph (D1).cyc) hB6.out _ Tryz.underlying42 rfl SZ.out ?_)
        | (refine wpList_store_mid rfl 42 (.tmp 110) (.tmp 108) rfl q 1 (c18 V4 (D1).ph (D1).cyc) rfl rfl ht4.out SZ.out ON4.out ?_; refine stop_here ?_))
      obtain ⟨w7, hw7⟩ : ∃ w7, w7 = w6.setCells q 1 (c18 V4 (D1).ph (D1).cyc).toList := ⟨_, rfl⟩
      rw [← hw7] at H7 hz7 ho7 ⊢
      replace hw7 := Lib.hid hw7
      have c0 := H7.out.cells.1
      clear hB6 ht4 hput xv6 b6 ON4
      refine go_on ?_
      have f7 : w7.cell? ⟨g, 5, none⟩ = some (.int .i64 x) := cell_keep H7.out hgw hg3 e5
      have HA := Lib.hid ((H7.out.below (show Below w7.heap.size w7 w7.drew from (Below.refl _ _).drew)).call (P := fun e _ => e = .returned (.tuple #[.int .i64 n2, .int .i64 r2])) (T' := T1) fun v0 L => hT.out v0 _ L)
      go_wp2_with fail
      have hS0 : (fun X : World => X.cell? ⟨q, 0, none⟩ = some (.pointer (some ⟨s, 0, none⟩)) ∧ X.cell? ⟨g, 5, none⟩ = some (.int .i64 x)) w7.drew := ⟨c0, f7⟩
      refine wp_T (by kernel_rfl) 12 (fun X : World => X.cell? ⟨q, 0, none⟩ = some (.pointer (some ⟨s, 0, none⟩)) ∧ X.cell? ⟨g, 5, none⟩ = some (.int .i64 x)) ?_
      refine wpAnyT_takeA (i := 0) (v := .pointer (some ⟨q, 0, none⟩)) rfl (by kernel_rfl) rfl (fun _ _ _ hp => hp) (Or.inl ⟨by kernel_rfl, fun X _ => by go_simp⟩) hS0 ?_
      simp only [Act.put, List.getElem_toArray, List.getElem_cons_succ, List.getElem_cons_zero, List.setIfInBounds_toArray, List.set_cons_zero, List.set_cons_succ]
      refine wpAnyT_takeA (i := 1) (v := .pointer (some ⟨q, 0, none⟩)) rfl (by kernel_rfl) rfl (fun _ _ _ hp => hp) (Or.inl ⟨by kernel_rfl, fun X _ => by go_simp⟩) hS0 ?_
      simp only [Act.put, List.getElem_toArray, List.getElem_cons_succ, List.getElem_cons_zero, List.setIfInBounds_toArray, List.set_cons_zero, List.set_cons_succ]
      refine wpAnyT_takeA (i := 2) (v := .pointer (some ⟨q, 0, none⟩)) rfl (by kernel_rfl) rfl (fun _ _ _ hp => hp) (Or.inl ⟨by kernel_rfl, fun X _ => by go_simp⟩) hS0 ?_
      simp only [Act.put, List.getElem_toArray, List.getElem_cons_succ, List.getElem_cons_zero, List.setIfInBounds_toArray, List.set_cons_zero, List.set_cons_succ]
      refine wpAnyT_takeA (i := 3) (v := .pointer (some ⟨s, 0, none⟩)) rfl (by kernel_rfl) rfl (fun _ _ _ hp => hp) (Or.inl ⟨by kernel_rfl, fun X hX => by have hX1 : (fun X : World => X.cell? ⟨q, 0, none⟩ = some (.pointer (some ⟨s, 0, none⟩)) ∧ X.cell? ⟨g, 5, none⟩ = some (.int .i64 x)) X := hX; have y1 : X.cell? ⟨q, 0, none⟩ = some (.pointer (some ⟨s, 0, none⟩)) := hX1.1; go_simp⟩) hS0 ?_
      simp only [Act.put, List.getElem_toArray, List.getElem_cons_succ, List.getElem_cons_zero, List.setIfInBounds_toArray, List.set_cons_zero, List.set_cons_succ]
      refine wpAnyT_takeA (i := 4) (v := .pointer (some ⟨g, 5, none⟩)) rfl (by kernel_rfl) rfl (fun _ _ _ hp => hp) (Or.inl ⟨by kernel_rfl, fun X _ => by go_simp⟩) hS0 ?_
      simp only [Act.put, List.getElem_toArray, List.getElem_cons_succ, List.getElem_cons_zero, List.setIfInBounds_toArray, List.set_cons_zero, List.set_cons_succ]
      refine wpAnyT_takeA (i := 5) (v := .int .i64 x) rfl (by kernel_rfl) rfl (fun _ _ _ hp => hp) (Or.inl ⟨by kernel_rfl, fun X hX => by have hX1 : (fun X : World => X.cell? ⟨q, 0, none⟩ = some (.pointer (some ⟨s, 0, none⟩)) ∧ X.cell? ⟨g, 5, none⟩ = some (.int .i64 x)) X := hX; have y1 : X.cell? ⟨g, 5, none⟩ = some (.int .i64 x) := hX1.2; go_simp⟩) hS0 ?_
      simp only [Act.put, List.getElem_toArray, List.getElem_cons_succ, List.getElem_cons_zero, List.setIfInBounds_toArray, List.set_cons_zero, List.set_cons_succ]
      refine wpAnyT_one (i := 6) rfl (by kernel_rfl) (by kernel_rfl) ?_
      intro K1 hK1
      go_simp
      refine (HA.out).mono ?_
      rintro e w8 ⟨rfl, H8⟩
      dsimp only
      have hS1 : (fun X : World => X.cell? ⟨q, 0, none⟩ = some (.pointer (some ⟨s, 0, none⟩)) ∧ X.cell? ⟨g, 5, none⟩ = some (.int .i64 x)) w8 := ⟨H8.cells.1, cell_keep H8 hgw hg3 e5⟩
      replace H8 := Lib.hid H8
      refine hK1.out _ _ (fun _ => hS1) ?_
      (try simp only [Act.put, List.getElem_toArray, List.getElem_cons_succ, List.getElem_cons_zero, List.setIfInBounds_toArray, List.set_cons_zero, List.set_cons_succ])
      refine wpAnyT_takeA (i := 7) (v := .tuple #[.int .i64 n2, .int .i64 r2]) rfl (by kernel_rfl) rfl (fun _ _ _ hp => hp) (Or.inl ⟨by kernel_rfl, fun X _ => by go_simp⟩) hS1 ?_
      simp only [Act.put, List.getElem_toArray, List.getElem_cons_succ, List.getElem_cons_zero, List.setIfInBounds_toArray, List.set_cons_zero, List.set_cons_succ]
      refine wpAnyT_takeA (i := 8) (v := .int .i64 n2) rfl (by kernel_rfl) rfl (fun _ _ _ hp => hp) (Or.inl ⟨by kernel_rfl, fun X _ => by go_simp⟩) hS1 ?_
      simp only [Act.put, List.getElem_toArray, List.getElem_cons_succ, List.getElem_cons_zero, List.setIfInBounds_toArray, List.set_cons_zero, List.set_cons_succ]
      refine wpAnyT_takeA (i := 9) (v := .int .i64 r2) rfl (by kernel_rfl) rfl (fun _ _ _ hp => hp) (Or.inl ⟨by kernel_rfl, fun X _ => by go_simp⟩) hS1 ?_
      simp only [Act.put, List.getElem_toArray, List.getElem_cons_succ, List.getElem_cons_zero, List.setIfInBounds_toArray, List.set_cons_zero, List.set_cons_succ]
      refine wpAnyT_takeA (i := 10) (v := .int .i64 n2) rfl (by kernel_rfl) rfl (fun _ _ _ hp => hp) (Or.inl ⟨by kernel_rfl, fun X _ => by go_simp⟩) hS1 ?_
      simp only [Act.put, List.getElem_toArray, List.getElem_cons_succ, List.getElem_cons_zero, List.setIfInBounds_toArray, List.set_cons_zero, List.set_cons_succ]
      refine wpAnyT_takeA (i := 11) (v := .int .i64 r2) rfl (by kernel_rfl) rfl (fun _ _ _ hp => hp) (Or.inl ⟨by kernel_rfl, fun X _ => by go_simp⟩) hS1 ?_
      simp only [Act.put, List.getElem_toArray, List.getElem_cons_succ, List.getElem_cons_zero, List.setIfInBounds_toArray, List.set_cons_zero, List.set_cons_succ]
      refine wpAnyT_done (by kernel_rfl) ?_ _
      (try simp only [Act.put, List.getElem_toArray, List.getElem_cons_succ, List.getElem_cons_zero, List.setIfInBounds_toArray, List.set_cons_zero, List.set_cons_succ])
      clear hK1 K1 hS0 hS1
      by_cases hp : n1 = n2
      · subst hp
        by_cases hr : r1 = r2
        · subst hr
          go_wp2_with fail
          go_ret
          exact ⟨true, rfl, fun _ => rfl, hun.out H8.out⟩
        · have z1 : (r2 == r1) = false := beq_eq_false_iff_ne.2 fun e => hr e.symm
          have z2 : ¬ r2 = r1 := fun e => hr e.symm
          go_wp2_with fail
          go_ret
          exact ⟨false, rfl, fun he => absurd (by injection he) hr, hun.out H8.out⟩
      · have z1 : (n1 == n2) = false := beq_eq_false_iff_ne.2 hp
        go_wp2_with fail
        go_ret
        exact ⟨false, rfl, fun he => absurd (by injection he) hp, hun.out H8.out⟩
    · intro K1 hK1
      simp only [List.getElem_toArray, List.getElem_cons_succ, List.getElem_cons_zero]
      refine wp_new (.alloc 42) rfl 42 n18 (by kernel_rfl) ?_
      have hS1 : (fun X : World => Below w3.heap.size w3 X) (w3.drew.alloc (.cells n18 42)) := Below.trans hS0 ((below_alloc w3.drew _).mono (Below.size hS0))
      refine hK1.out _ _ (fun _ => hS1) ?_
      (try simp only [Act.put, List.getElem_toArray, List.getElem_cons_succ, List.getElem_cons_zero, List.setIfInBounds_toArray, List.set_cons_zero, List.set_cons_succ])
      refine wpAnyT_one (i := 6) rfl (by kernel_rfl) (by kernel_rfl) ?_
      intro K2 hK2
      go_simp
      have hz0 : (w3.drew.alloc (.cells n18 42)).heap.size = w3.heap.size + 1 := (show (w3.drew.alloc (.cells n18 42)).heap.size = w3.drew.heap.size + 1 by simp)
      refine (HC.out (fun b => Q b ∧ b ≠ w3.heap.size) _ (xv.out.keepQ (Below.size hS1) (fun b _ hlt => Below.block hS1 b hlt) fun b hb hlt => ⟨hb, by omega⟩) (fun b hb => ⟨hQ.out b (Nat.le_trans (Below.size hS1) hb), by omega⟩)).mono ?_
      rintro e w4 ⟨V4, rfl, xv4, b4⟩
      dsimp only
      have hS2 : (fun X : World => Below w3.heap.size w3 X) w4 := Below.trans hS1 (Below.mono b4 (Below.size hS1))
      have ON4 := Lib.hid (xv4.one D1.ph D1.cyc)
      have hBn := (Blk.new w3.drew 42 n18).below b4 (Blk.new w3.drew 42 n18).lt
      refine hK2.out _ _ (fun _ => hS2) ?_
      (try simp only [Act.put, List.getElem_toArray, List.getElem_cons_succ, List.getElem_cons_zero, List.setIfInBounds_toArray, List.set_cons_zero, List.set_cons_succ])
      refine wpAnyT_takeA (i := 7) (v := .tuple #[.agg (c18 V4 D1.ph D1.cyc), .int .i64 n1, .int .i64 r1]) rfl (by kernel_rfl) rfl (fun _ _ _ hp => hp) (Or.inl ⟨by kernel_rfl, fun X _ => by go_simp⟩) hS2 ?_
      simp only [Act.put, List.getElem_toArray, List.getElem_cons_succ, List.getElem_cons_zero, List.setIfInBounds_toArray, List.set_cons_zero, List.set_cons_succ]
      refine wpAnyT_takeA (i := 8) (v := .agg (c18 V4 D1.ph D1.cyc)) rfl (by kernel_rfl) rfl (fun _ _ _ hp => hp) (Or.inl ⟨by kernel_rfl, fun X _ => by go_simp⟩) hS2 ?_
      simp only [Act.put, List.getElem_toArray, List.getElem_cons_succ, List.getElem_cons_zero, List.setIfInBounds_toArray, List.set_cons_zero, List.set_cons_succ]
      refine wpAnyT_takeA (i := 9) (v := .int .i64 n1) rfl (by kernel_rfl) rfl (fun _ _ _ hp => hp) (Or.inl ⟨by kernel_rfl, fun X _ => by go_simp⟩) hS2 ?_
      simp only [Act.put, List.getElem_toArray, List.getElem_cons_succ, List.getElem_cons_zero, List.setIfInBounds_toArray, List.set_cons_zero, List.set_cons_succ]
      refine wpAnyT_takeA (i := 10) (v := .int .i64 r1) rfl (by kernel_rfl) rfl (fun _ _ _ hp => hp) (Or.inl ⟨by kernel_rfl, fun X _ => by go_simp⟩) hS2 ?_
      simp only [Act.put, List.getElem_toArray, List.getElem_cons_succ, List.getElem_cons_zero, List.setIfInBounds_toArray, List.set_cons_zero, List.set_cons_succ]
      refine wpAnyT_one (i := 12) rfl (by kernel_rfl) (by kernel_rfl) ?_
      intro K3 hK3
      simp only [List.getElem_toArray, List.getElem_cons_succ, List.getElem_cons_zero]
      refine wp_store_blk 42 _ _ rfl w3.drew.heap.size rfl (c18 V4 D1.ph D1.cyc) rfl 42 n18 hBn r18_size rfl ON4.out ?_
      intro w6 hB6 hg6 hs6
      have hS3 : (fun X : World => Below w3.heap.size w3 X) w6 := Below.grown hS2 hg6 (Below.size hS2) (fun k hk => by cases hk; exact Nat.le_refl _)
      refine hK3.out _ _ (fun _ => hS3) ?_
      (try simp only [Act.put, List.getElem_toArray, List.getElem_cons_succ, List.getElem_cons_zero, List.setIfInBounds_toArray, List.set_cons_zero, List.set_cons_succ])
      refine wpAnyT_takeA (i := 13) (v := .int .i64 n1) rfl (by kernel_rfl) rfl (fun _ _ _ hp => hp) (Or.inl ⟨by kernel_rfl, fun X _ => by go_simp⟩) hS3 ?_
      simp only [Act.put, List.getElem_toArray, List.getElem_cons_succ, List.getElem_cons_zero, List.setIfInBounds_toArray, List.set_cons_zero, List.set_cons_succ]
      refine wpAnyT_takeA (i := 14) (v := .int .i64 r1) rfl (by kernel_rfl) rfl (fun _ _ _ hp => hp) (Or.inl ⟨by kernel_rfl, fun X _ => by go_simp⟩) hS3 ?_
      simp only [Act.put, List.getElem_toArray, List.getElem_cons_succ, List.getElem_cons_zero, List.setIfInBounds_toArray, List.set_cons_zero, List.set_cons_succ]
      refine wpAnyT_done (by kernel_rfl) ?_ _
      (try simp only [Act.put, List.getElem_toArray, List.getElem_cons_succ, List.getElem_cons_zero, List.setIfInBounds_toArray, List.set_cons_zero, List.set_cons_succ])
      clear hK1 K1 hK2 K2 hK3 K3
      have xv6 := Lib.hid (xv4.stored (Q' := Q) hg6 fun b hb => ⟨hb.1, hb.2⟩)
      replace hB6 : Blk w6 w3.heap.size 42 (c18 V4 D1.ph D1.cyc) := hB6
      obtain ⟨gB, hgB⟩ : ∃ gB, gB = w3.heap.size := ⟨_, rfl⟩
      rw [← hgB] at hB6 ⊢
      have b6 : Below w3.heap.size w3 w6 := hS3
      clear hS0 hS1 hS2 hS3 hg6 hs6 hBn xv4 b4
      obtain ⟨ht, hz7, ho7, H7⟩ := hput.out w6 _ V4 b6 xv6.out
      have ht4 : w6.there q 1 (c18 V4 (D1).ph (D1).cyc).size := ht
      replace hB6 := Lib.hid hB6
      replace ht4 := Lib.hid ht4
      replace H7 := Lib.hid H7
      replace hz7 := Lib.hid hz7
      replace ho7 := Lib.hid ho7
      clear ht
      go_wp2_with (first
        | (refine wpList_load_blk rfl 42 (.tmp 15) rfl gB rfl 42 (c18 V4 (D1).ph (D1).cyc) hB6.out _ Tryz.underlying42 rfl SZ.out ?_)
        | (refine wpList_store_mid rfl 42 (.tmp 110) (.tmp 108) rfl q 1 (c18 V4 (D1).ph (D1).cyc) rfl rfl ht4.out SZ.out ON4.out ?_; refine stop_here ?_))
      obtain ⟨w7, hw7⟩ : ∃ w7, w7 = w6.setCells q 1 (c18 V4 (D1).ph (D1).cyc).toList := ⟨_, rfl⟩
      rw [← hw7] at H7 hz7 ho7 ⊢
      replace hw7 := Lib.hid hw7
      have c0 := H7.out.cells.1
      clear hB6 ht4 hput xv6 b6 ON4
      refine go_on ?_
      have f7 : w7.cell? ⟨g, 5, none⟩ = some (.int .i64 x) := cell_keep H7.out hgw hg3 e5
      have HA := Lib.hid ((H7.out.below (show Below w7.heap.size w7 w7.drew from (Below.refl _ _).drew)).call (P := fun e _ => e = .returned (.tuple #[.int .i64 n2, .int .i64 r2])) (T' := T1) fun v0 L => hT.out v0 _ L)
      go_wp2_with fail
      have hS0 : (fun X : World => X.cell? ⟨q, 0, none⟩ = some (.pointer (some ⟨s, 0, none⟩)) ∧ X.cell? ⟨g, 5, none⟩ = some (.int .i64 x)) w7.drew := ⟨c0, f7⟩
      refine wp_T (by kernel_rfl) 12 (fun X : World => X.cell? ⟨q, 0, none⟩ = some (.pointer (some ⟨s, 0, none⟩)) ∧ X.cell? ⟨g, 5, none⟩ = some (.int .i64 x)) ?_
      refine wpAnyT_takeA (i := 0) (v := .pointer (some ⟨q, 0, none⟩)) rfl (by kernel_rfl) rfl (fun _ _ _ hp => hp) (Or.inl ⟨by kernel_rfl, fun X _ => by go_simp⟩) hS0 ?_
      simp only [Act.put, List.getElem_toArray, List.getElem_cons_succ, List.getElem_cons_zero, List.setIfInBounds_toArray, List.set_cons_zero, List.set_cons_succ]
      refine wpAnyT_takeA (i := 1) (v := .pointer (some ⟨q, 0, none⟩)) rfl (by kernel_rfl) rfl (fun _ _ _ hp => hp) (Or.inl ⟨by kernel_rfl, fun X _ => by go_simp⟩) hS0 ?_
      simp only [Act.put, List.getElem_toArray, List.getElem_cons_succ, List.getElem_cons_zero, List.setIfInBounds_toArray, List.set_cons_zero, List.set_cons_succ]
      refine wpAnyT_takeA (i := 2) (v := .pointer (some ⟨q, 0, none⟩)) rfl (by kernel_rfl) rfl (fun _ _ _ hp => hp) (Or.inl ⟨by kernel_rfl, fun X _ => by go_simp⟩) hS0 ?_
      simp only [Act.put, List.getElem_toArray, List.getElem_cons_succ, List.getElem_cons_zero, List.setIfInBounds_toArray, List.set_cons_zero, List.set_cons_succ]
      refine wpAnyT_takeA (i := 3) (v := .pointer (some ⟨s, 0, none⟩)) rfl (by kernel_rfl) rfl (fun _ _ _ hp => hp) (Or.inl ⟨by kernel_rfl, fun X hX => by have hX1 : (fun X : World => X.cell? ⟨q, 0, none⟩ = some (.pointer (some ⟨s, 0, none⟩)) ∧ X.cell? ⟨g, 5, none⟩ = some (.int .i64 x)) X := hX; have y1 : X.cell? ⟨q, 0, none⟩ = some (.pointer (some ⟨s, 0, none⟩)) := hX1.1; go_simp⟩) hS0 ?_
      simp only [Act.put, List.getElem_toArray, List.getElem_cons_succ, List.getElem_cons_zero, List.setIfInBounds_toArray, List.set_cons_zero, List.set_cons_succ]
      refine wpAnyT_takeA (i := 4) (v := .pointer (some ⟨g, 5, none⟩)) rfl (by kernel_rfl) rfl (fun _ _ _ hp => hp) (Or.inl ⟨by kernel_rfl, fun X _ => by go_simp⟩) hS0 ?_
      simp only [Act.put, List.getElem_toArray, List.getElem_cons_succ, List.getElem_cons_zero, List.setIfInBounds_toArray, List.set_cons_zero, List.set_cons_succ]
      refine wpAnyT_takeA (i := 5) (v := .int .i64 x) rfl (by kernel_rfl) rfl (fun _ _ _ hp => hp) (Or.inl ⟨by kernel_rfl, fun X hX => by have hX1 : (fun X : World => X.cell? ⟨q, 0, none⟩ = some (.pointer (some ⟨s, 0, none⟩)) ∧ X.cell? ⟨g, 5, none⟩ = some (.int .i64 x)) X := hX; have y1 : X.cell? ⟨g, 5, none⟩ = some (.int .i64 x) := hX1.2; go_simp⟩) hS0 ?_
      simp only [Act.put, List.getElem_toArray, List.getElem_cons_succ, List.getElem_cons_zero, List.setIfInBounds_toArray, List.set_cons_zero, List.set_cons_succ]
      refine wpAnyT_one (i := 6) rfl (by kernel_rfl) (by kernel_rfl) ?_
      intro K1 hK1
      go_simp
      refine (HA.out).mono ?_
      rintro e w8 ⟨rfl, H8⟩
      dsimp only
      have hS1 : (fun X : World => X.cell? ⟨q, 0, none⟩ = some (.pointer (some ⟨s, 0, none⟩)) ∧ X.cell? ⟨g, 5, none⟩ = some (.int .i64 x)) w8 := ⟨H8.cells.1, cell_keep H8 hgw hg3 e5⟩
      replace H8 := Lib.hid H8
      refine hK1.out _ _ (fun _ => hS1) ?_
      (try simp only [Act.put, List.getElem_toArray, List.getElem_cons_succ, List.getElem_cons_zero, List.setIfInBounds_toArray, List.set_cons_zero, List.set_cons_succ])
      refine wpAnyT_takeA (i := 7) (v := .tuple #[.int .i64 n2, .int .i64 r2]) rfl (by kernel_rfl) rfl (fun _ _ _ hp => hp) (Or.inl ⟨by kernel_rfl, fun X _ => by go_simp⟩) hS1 ?_
      simp only [Act.put, List.getElem_toArray, List.getElem_cons_succ, List.getElem_cons_zero, List.setIfInBounds_toArray, List.set_cons_zero, List.set_cons_succ]
      refine wpAnyT_takeA (i := 8) (v := .int .i64 n2) rfl (by kernel_rfl) rfl (fun _ _ _ hp => hp) (Or.inl ⟨by kernel_rfl, fun X _ => by go_simp⟩) hS1 ?_
      simp only [Act.put, List.getElem_toArray, List.getElem_cons_succ, List.getElem_cons_zero, List.setIfInBounds_toArray, List.set_cons_zero, List.set_cons_succ]
      refine wpAnyT_takeA (i := 9) (v := .int .i64 r2) rfl (by kernel_rfl) rfl (fun _ _ _ hp => hp) (Or.inl ⟨by kernel_rfl, fun X _ => by go_simp⟩) hS1 ?_
      simp only [Act.put, List.getElem_toArray, List.getElem_cons_succ, List.getElem_cons_zero, List.setIfInBounds_toArray, List.set_cons_zero, List.set_cons_succ]
      refine wpAnyT_takeA (i := 10) (v := .int .i64 n2) rfl (by kernel_rfl) rfl (fun _ _ _ hp => hp) (Or.inl ⟨by kernel_rfl, fun X _ => by go_simp⟩) hS1 ?_
      simp only [Act.put, List.getElem_toArray, List.getElem_cons_succ, List.getElem_cons_zero, List.setIfInBounds_toArray, List.set_cons_zero, List.set_cons_succ]
      refine wpAnyT_takeA (i := 11) (v := .int .i64 r2) rfl (by kernel_rfl) rfl (fun _ _ _ hp => hp) (Or.inl ⟨by kernel_rfl, fun X _ => by go_simp⟩) hS1 ?_
      simp only [Act.put, List.getElem_toArray, List.getElem_cons_succ, List.getElem_cons_zero, List.setIfInBounds_toArray, List.set_cons_zero, List.set_cons_succ]
      refine wpAnyT_done (by kernel_rfl) ?_ _
      (try simp only [Act.put, List.getElem_toArray, List.getElem_cons_succ, List.getElem_cons_zero, List.setIfInBounds_toArray, List.set_cons_zero, List.set_cons_succ])
      clear hK1 K1 hS0 hS1
      by_cases hp : n1 = n2
      · subst hp
        by_cases hr : r1 = r2
        · subst hr
          go_wp2_with fail
          go_ret
          exact ⟨true, rfl, fun _ => rfl, hun.out H8.out⟩
        · have z1 : (r2 == r1) = false := beq_eq_false_iff_ne.2 fun e => hr e.symm
          have z2 : ¬ r2 = r1 := fun e => hr e.symm
          go_wp2_with fail
          go_ret
          exact ⟨false, rfl, fun he => absurd (by injection he) hr, hun.out H8.out⟩
      · have z1 : (n1 == n2) = false := beq_eq_false_iff_ne.2 hp
        go_wp2_with fail
        go_ret
        exact ⟨false, rfl, fun he => absurd (by injection he) hp, hun.out H8.out⟩
end
end Go.Proofs.YtcaboknbdamlhaaGreatDoor
