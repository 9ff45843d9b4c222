/- Joined: SweepPutH, SweepPutA, SweepPutC, SweepPutD, SweepPutE, SweepPutF, SweepPut, SweepFull, SweepNew, SweepAlive. -/
import Derived.Test.YtcaboknbdamlhaaGreatDoorSSA
import Derived.Test.YtcaboknbdamlhaaGreatDoorMMA
import Derived.Test.YtcaboknbdamlhaaGreatDoorHeapAlive
import Derived.Deep.QuietTactic
import Derived.BigQuiet
set_option linter.unusedVariables false
set_option linter.unusedSimpArgs false
namespace Go.Proofs.YtcaboknbdamlhaaGreatDoor
open Go.RowKit Go.Shelf
/-- Put: what stands behind it, and its answer. -/
def qPut (T : SS) (p f to : Int) (bar : Bool) : SS × Int :=
  if (sLoad T.S p f).2 ≠ 0 then (T, (sLoad T.S p f).2)
  else if to ≠ 0 ∧ (sSize T.S to).2.2 = false then (T, 11)
  else if mBit (sSize T.S p).2.1 f.toNat = false then (T, 2)
  else if bar = false then ({ T with S := sStore T.S p f to }, 0)
  else if (mKnown T.S T.K (sLoad T.S p f).1).2 ≠ 0 then (qShade T (sLoad T.S p f).1, (mKnown T.S T.K (sLoad T.S p f).1).2)
  else ({ qShade T (sLoad T.S p f).1 with S := sStore T.S p f to }, 0)
section
variable {w0 : W0} {w w' : World} {s h m : Nat} {T : SS}
theorem ls_loadH (H : LS w0 w s h m T) {p f x er : Int} (hr : sLoad T.S p f = (x, er)) (hp : -9223372036854775808 ≤ p ∧ p ≤ 9223372036854775807) :
    Calls Tryz.prog 28 #[.pointer (some ⟨h, 0, none⟩), .int .i64 p, .int .i64 f] w fun e w' => e = .returned (.tuple #[.int .i64 x, .int .i64 er]) ∧ LS w0 w' s h m T := by
  obtain ⟨F, D, G, W, hF, b⟩ := H
  refine (load_r hr W.mm.hp hp.1 hp.2).mono ?_
  rintro e w' ⟨rfl, hb⟩
  exact ⟨rfl, F, D, G, W.below hb, hF, b.below hb⟩
theorem ls_sizeH (H : LS w0 w s h m T) {p n mask : Int} {is : Bool} (hr : sSize T.S p = (n, mask, is)) (hp : -9223372036854775808 ≤ p ∧ p ≤ 9223372036854775807) :
    Calls Tryz.prog 25 #[.pointer (some ⟨h, 0, none⟩), .int .i64 p] w fun e w' => e = .returned (.tuple #[.int .i64 n, .int .u8 mask, .bool is]) ∧ LS w0 w' s h m T := by
  obtain ⟨F, D, G, W, hF, b⟩ := H
  refine (size_r hr W.mm.hp hp.1 hp.2).mono ?_
  rintro e w' ⟨rfl, hb⟩
  exact ⟨rfl, F, D, G, W.below hb, hF, b.below hb⟩
theorem ls_fitsH (H : LS w0 w s h m T) {n : Int} {b : Bool} (hr : sFits T.S n = b) :
    Calls Tryz.prog 29 #[.pointer (some ⟨h, 0, none⟩), .int .i64 n] w fun e w' => e = .returned (.bool b) ∧ LS w0 w' s h m T := by
  obtain ⟨F, D, G, W, hF, b⟩ := H
  refine (fits_r hr W.mm.hp).mono ?_
  rintro e w' ⟨rfl, hb⟩
  exact ⟨rfl, F, D, G, W.below hb, hF, b.below hb⟩
theorem ls_allH (H : LS w0 w s h m T) {l : List Int} (hr : sAll T.S = l) :
    Calls Tryz.prog 17 #[.pointer (some ⟨h, 0, none⟩)] w fun e w' => ∃ A c, e = .returned (.slice A l.length c) ∧ Rd i64e w' (.slice A l.length c) l ∧ From w.heap.size (.slice A l.length c) ∧ Below w.heap.size w w' ∧ LS w0 w' s h m T := by
  obtain ⟨F, D, G, W, hF, b⟩ := H
  refine (all_r hr W.mm.hp).mono ?_
  rintro e w' ⟨A, c, rfl, hrd, hf, hb⟩
  exact ⟨A, c, rfl, hrd, hf, hb, F, D, G, W.below hb, hF, b.below hb⟩
theorem ls_storeH (H : LS w0 w s h m T) (p f x : Int) (hp : -9223372036854775808 ≤ p ∧ p ≤ 9223372036854775807) (hx : -9223372036854775808 ≤ x ∧ x ≤ 9223372036854775807) :
    Calls Tryz.prog 45 #[.pointer (some ⟨h, 0, none⟩), .int .i64 p, .int .i64 f, .int .i64 x] w fun e w' => e = .returned (.int .i64 (sThere T.S p f)) ∧ LS w0 w' s h m { T with S := sStore T.S p f x } := by
  obtain ⟨F, D, G, W, hF, b⟩ := H
  refine (store_s h T.S F w p f x W.mm.hp hp.1 hp.2 hx).mono ?_
  rintro e w' ⟨rfl, P, st⟩
  exact ⟨rfl, F, D, G, W.heap P st, sfree_heap hF b st, b.step st fun k hk => hF k (.inl hk)⟩
theorem ls_shadeM (H : LS w0 w s h m T) (p : Int) (hp : -9223372036854775808 ≤ p ∧ p ≤ 9223372036854775807) : Calls Tryz.prog 44 #[.pointer (some ⟨m, 0, none⟩), .int .i64 p] w fun e w' => e = .returned (.int .i64 (mKnown T.S T.K p).2) ∧ LS w0 w' s h m (qShade T p) := by
  obtain ⟨F, D, G, W, hF, b⟩ := H
  refine (shade_m m h T.S F T.K D w W.mm p hp.1 hp.2).mono ?_
  rintro e w' ⟨rfl, D', M, st⟩
  exact ⟨rfl, F, D', G, W.marks M st, sfree_marks hF b st, b.step st fun k hk => hF k (.inr (.inl hk))⟩
end
end Go.Proofs.YtcaboknbdamlhaaGreatDoor
namespace Go.Proofs.YtcaboknbdamlhaaGreatDoor
open Go.RowKit Go.Shelf
section
variable {w0 : W0} {w w' : World} {s h m : Nat} {T : SS}
set_option maxHeartbeats 4000000 in
set_option maxRecDepth 100000 in
theorem put_A (H : LS w0 w s h m T) {p to x n1 m1 n2 mask f er : Int} {is is2 bar : Bool} (hx : sLoad T.S p f = (x, er)) (ht : sSize T.S to = (n1, m1, is)) (hs : sSize T.S p = (n2, mask, is2)) (hp : -9223372036854775808 ≤ p ∧ p ≤ 9223372036854775807) (hto : -9223372036854775808 ≤ to ∧ to ≤ 9223372036854775807) (h02 : (er == 0) = false) :
    Calls Tryz.prog 23 #[.pointer (some ⟨s, 0, none⟩), .int .i64 p, .int .i64 f, .int .i64 to, .bool bar] w fun e w' => e = .returned (.int .i64 er) ∧ LS w0 w' s h m T := by
  have c0 := H.cells.1
  have HG := Lib.hid (ls_good H)
  replace H := Lib.hid H
  replace hx := Lib.hid hx
  replace ht := Lib.hid ht
  replace hs := Lib.hid hs
  replace hp := Lib.hid hp
  replace hto := Lib.hid hto
  go_enter Tryz.func23, Tryz.ntmps23
  go_wp2_with fail
  refine HG.out.mono ?_
  rintro e _ ⟨rfl, rfl⟩
  clear HG
  go_wp2_with fail
  refine (ls_loadH H.out hx.out hp.out).mono ?_
  rintro e w1 ⟨rfl, H1⟩
  have c0 := H1.cells.1
  replace H1 := Lib.hid H1
  clear H
  go_wp2_with fail
  refine (ls_sizeH H1.out ht.out hto.out).mono ?_
  rintro e w2 ⟨rfl, H2⟩
  have c0 := H2.cells.1
  replace H2 := Lib.hid H2
  clear H1
  go_wp2_with fail
  refine (ls_sizeH H2.out hs.out hp.out).mono ?_
  rintro e w3 ⟨rfl, H3⟩
  have c0 := H3.cells.1
  have c1 := H3.cells.2.1
  replace H3 := Lib.hid H3
  clear H2
  go_wp2_with fail
  go_ret
  exact ⟨rfl, H3.out⟩
set_option maxHeartbeats 4000000 in
set_option maxRecDepth 100000 in
theorem put_B (H : LS w0 w s h m T) {p to x n1 m1 n2 mask f er : Int} {is is2 bar : Bool} (hx : sLoad T.S p f = (x, er)) (ht : sSize T.S to = (n1, m1, is)) (hs : sSize T.S p = (n2, mask, is2)) (hp : -9223372036854775808 ≤ p ∧ p ≤ 9223372036854775807) (hto : -9223372036854775808 ≤ to ∧ to ≤ 9223372036854775807) (h00 : er = 0) (h01 : is = false) (t1 : (to == 0) = false) :
    Calls Tryz.prog 23 #[.pointer (some ⟨s, 0, none⟩), .int .i64 p, .int .i64 f, .int .i64 to, .bool bar] w fun e w' => e = .returned (.int .i64 11) ∧ LS w0 w' s h m T := by
  have c0 := H.cells.1
  have HG := Lib.hid (ls_good H)
  subst h00 h01
  replace H := Lib.hid H
  replace hx := Lib.hid hx
  replace ht := Lib.hid ht
  replace hs := Lib.hid hs
  replace hp := Lib.hid hp
  replace hto := Lib.hid hto
  go_enter Tryz.func23, Tryz.ntmps23
  go_wp2_with fail
  refine HG.out.mono ?_
  rintro e _ ⟨rfl, rfl⟩
  clear HG
  go_wp2_with fail
  refine (ls_loadH H.out hx.out hp.out).mono ?_
  rintro e w1 ⟨rfl, H1⟩
  have c0 := H1.cells.1
  replace H1 := Lib.hid H1
  clear H
  go_wp2_with fail
  refine (ls_sizeH H1.out ht.out hto.out).mono ?_
  rintro e w2 ⟨rfl, H2⟩
  have c0 := H2.cells.1
  replace H2 := Lib.hid H2
  clear H1
  go_wp2_with fail
  refine (ls_sizeH H2.out hs.out hp.out).mono ?_
  rintro e w3 ⟨rfl, H3⟩
  have c0 := H3.cells.1
  have c1 := H3.cells.2.1
  replace H3 := Lib.hid H3
  clear H2
  go_wp2_with fail
  go_ret
  exact ⟨rfl, H3.out⟩
end
end Go.Proofs.YtcaboknbdamlhaaGreatDoor
namespace Go.Proofs.YtcaboknbdamlhaaGreatDoor
open Go.RowKit Go.Shelf
section
variable {w0 : W0} {w w' : World} {s h m : Nat} {T : SS}
set_option maxHeartbeats 4000000 in
set_option maxRecDepth 100000 in
theorem put_C0 (H : LS w0 w s h m T) {p x n1 m1 n2 mask : Int} {j : Nat} {is : Bool} {is2 bar : Bool} (hx : sLoad T.S p j = (x, 0)) (ht : sSize T.S 0 = (n1, m1, is)) (hs : sSize T.S p = (n2, mask, is2)) (hp : -9223372036854775808 ≤ p ∧ p ≤ 9223372036854775807)
    (hj : j ≤ 5) (hm : 0 ≤ mask ∧ mask ≤ 255) (hb : (bits BinOp.and IntKind.u8 (mask / 2 ^ j) 1 == 0) = true) :
    Calls Tryz.prog 23 #[.pointer (some ⟨s, 0, none⟩), .int .i64 p, .int .i64 j, .int .i64 0, .bool bar] w fun e w' => e = .returned (.int .i64 2) ∧ LS w0 w' s h m T := by
  have c0 := H.cells.1
  have HG := Lib.hid (ls_good H)
  replace H := Lib.hid H
  replace hx := Lib.hid hx
  replace ht := Lib.hid ht
  replace hs := Lib.hid hs
  replace hp := Lib.hid hp
  obtain ⟨hm1, hm2⟩ := hm
  replace hb := Lib.hid hb
  go_enter Tryz.func23, Tryz.ntmps23
  go_wp2_with fail
  refine HG.out.mono ?_
  rintro e _ ⟨rfl, rfl⟩
  clear HG
  go_wp2_with fail
  refine (ls_loadH H.out hx.out hp.out).mono ?_
  rintro e w1 ⟨rfl, H1⟩
  have c0 := H1.cells.1
  replace H1 := Lib.hid H1
  clear H
  go_wp2_with fail
  refine (ls_sizeH H1.out ht.out (by omega)).mono ?_
  rintro e w2 ⟨rfl, H2⟩
  have c0 := H2.cells.1
  replace H2 := Lib.hid H2
  clear H1
  go_wp2_with fail
  refine (ls_sizeH H2.out hs.out hp.out).mono ?_
  rintro e w3 ⟨rfl, H3⟩
  have c0 := H3.cells.1
  have c1 := H3.cells.2.1
  replace H3 := Lib.hid H3
  clear H2
  replace hb := hb.out
  go_wp2_with fail
  go_ret
  exact ⟨rfl, H3.out⟩
set_option maxHeartbeats 4000000 in
set_option maxRecDepth 100000 in
theorem put_C1 (H : LS w0 w s h m T) {p to x n1 m1 n2 mask : Int} {j : Nat} {is2 bar : Bool} (hx : sLoad T.S p j = (x, 0)) (ht : sSize T.S to = (n1, m1, true)) (hs : sSize T.S p = (n2, mask, is2)) (hp : -9223372036854775808 ≤ p ∧ p ≤ 9223372036854775807) (hto : -9223372036854775808 ≤ to ∧ to ≤ 9223372036854775807)
    (hj : j ≤ 5) (hm : 0 ≤ mask ∧ mask ≤ 255) (t1 : (to == 0) = false) (hb : (bits BinOp.and IntKind.u8 (mask / 2 ^ j) 1 == 0) = true) :
    Calls Tryz.prog 23 #[.pointer (some ⟨s, 0, none⟩), .int .i64 p, .int .i64 j, .int .i64 to, .bool bar] w fun e w' => e = .returned (.int .i64 2) ∧ LS w0 w' s h m T := by
  have c0 := H.cells.1
  have HG := Lib.hid (ls_good H)
  replace H := Lib.hid H
  replace hx := Lib.hid hx
  replace ht := Lib.hid ht
  replace hs := Lib.hid hs
  replace hp := Lib.hid hp
  replace hto := Lib.hid hto
  obtain ⟨hm1, hm2⟩ := hm
  replace hb := Lib.hid hb
  have t2 : ¬ to = 0 := beq_eq_false_iff_ne.1 t1
  have t3 : (to != 0) = true := by simpa using t2
  go_enter Tryz.func23, Tryz.ntmps23
  go_wp2_with fail
  refine HG.out.mono ?_
  rintro e _ ⟨rfl, rfl⟩
  clear HG
  go_wp2_with fail
  refine (ls_loadH H.out hx.out hp.out).mono ?_
  rintro e w1 ⟨rfl, H1⟩
  have c0 := H1.cells.1
  replace H1 := Lib.hid H1
  clear H
  go_wp2_with fail
  refine (ls_sizeH H1.out ht.out hto.out).mono ?_
  rintro e w2 ⟨rfl, H2⟩
  have c0 := H2.cells.1
  replace H2 := Lib.hid H2
  clear H1
  go_wp2_with fail
  refine (ls_sizeH H2.out hs.out hp.out).mono ?_
  rintro e w3 ⟨rfl, H3⟩
  have c0 := H3.cells.1
  have c1 := H3.cells.2.1
  replace H3 := Lib.hid H3
  clear H2
  replace hb := hb.out
  go_wp2_with fail
  go_ret
  exact ⟨rfl, H3.out⟩
end
end Go.Proofs.YtcaboknbdamlhaaGreatDoor
namespace Go.Proofs.YtcaboknbdamlhaaGreatDoor
open Go.RowKit Go.Shelf
section
variable {w0 : W0} {w w' : World} {s h m : Nat} {T : SS}
set_option maxHeartbeats 4000000 in
set_option maxRecDepth 100000 in
theorem put_D0 (H : LS w0 w s h m T) {p x n1 m1 n2 mask : Int} {j : Nat} {is : Bool} {is2 : Bool} (hx : sLoad T.S p j = (x, 0)) (ht : sSize T.S 0 = (n1, m1, is)) (hs : sSize T.S p = (n2, mask, is2)) (hp : -9223372036854775808 ≤ p ∧ p ≤ 9223372036854775807)
    (hj : j ≤ 5) (hm : 0 ≤ mask ∧ mask ≤ 255) (hb : (bits BinOp.and IntKind.u8 (mask / 2 ^ j) 1 == 0) = false) (hth : sThere T.S p j = 0) :
    Calls Tryz.prog 23 #[.pointer (some ⟨s, 0, none⟩), .int .i64 p, .int .i64 j, .int .i64 0, .bool false] w fun e w' => e = .returned (.int .i64 0) ∧ LS w0 w' s h m { T with S := sStore T.S p j 0 } := by
  have c0 := H.cells.1
  have HG := Lib.hid (ls_good H)
  replace H := Lib.hid H
  replace hx := Lib.hid hx
  replace ht := Lib.hid ht
  replace hs := Lib.hid hs
  replace hp := Lib.hid hp
  obtain ⟨hm1, hm2⟩ := hm
  replace hb := Lib.hid hb
  replace hth := Lib.hid hth
  go_enter Tryz.func23, Tryz.ntmps23
  go_wp2_with fail
  refine HG.out.mono ?_
  rintro e _ ⟨rfl, rfl⟩
  clear HG
  go_wp2_with fail
  refine (ls_loadH H.out hx.out hp.out).mono ?_
  rintro e w1 ⟨rfl, H1⟩
  have c0 := H1.cells.1
  replace H1 := Lib.hid H1
  clear H
  go_wp2_with fail
  refine (ls_sizeH H1.out ht.out (by omega)).mono ?_
  rintro e w2 ⟨rfl, H2⟩
  have c0 := H2.cells.1
  replace H2 := Lib.hid H2
  clear H1
  go_wp2_with fail
  refine (ls_sizeH H2.out hs.out hp.out).mono ?_
  rintro e w3 ⟨rfl, H3⟩
  have c0 := H3.cells.1
  have c1 := H3.cells.2.1
  replace H3 := Lib.hid H3
  clear H2
  replace hb := hb.out
  go_wp2_with fail
  refine (ls_storeH H3.out p j 0 hp.out (by omega)).mono ?_
  rw [hth.out]
  rintro e w5 ⟨rfl, H5⟩
  replace H5 := Lib.hid H5
  clear H3
  go_wp2_with fail
  go_ret
  exact ⟨rfl, H5.out⟩
set_option maxHeartbeats 4000000 in
set_option maxRecDepth 100000 in
theorem put_D1 (H : LS w0 w s h m T) {p to x n1 m1 n2 mask : Int} {j : Nat} {is2 : Bool} (hx : sLoad T.S p j = (x, 0)) (ht : sSize T.S to = (n1, m1, true)) (hs : sSize T.S p = (n2, mask, is2)) (hp : -9223372036854775808 ≤ p ∧ p ≤ 9223372036854775807) (hto : -9223372036854775808 ≤ to ∧ to ≤ 9223372036854775807)
    (hj : j ≤ 5) (hm : 0 ≤ mask ∧ mask ≤ 255) (t1 : (to == 0) = false) (hb : (bits BinOp.and IntKind.u8 (mask / 2 ^ j) 1 == 0) = false) (hth : sThere T.S p j = 0) :
    Calls Tryz.prog 23 #[.pointer (some ⟨s, 0, none⟩), .int .i64 p, .int .i64 j, .int .i64 to, .bool false] w fun e w' => e = .returned (.int .i64 0) ∧ LS w0 w' s h m { T with S := sStore T.S p j to } := by
  have c0 := H.cells.1
  have HG := Lib.hid (ls_good H)
  replace H := Lib.hid H
  replace hx := Lib.hid hx
  replace ht := Lib.hid ht
  replace hs := Lib.hid hs
  replace hp := Lib.hid hp
  replace hto := Lib.hid hto
  obtain ⟨hm1, hm2⟩ := hm
  replace hb := Lib.hid hb
  have t2 : ¬ to = 0 := beq_eq_false_iff_ne.1 t1
  have t3 : (to != 0) = true := by simpa using t2
  replace hth := Lib.hid hth
  go_enter Tryz.func23, Tryz.ntmps23
  go_wp2_with fail
  refine HG.out.mono ?_
  rintro e _ ⟨rfl, rfl⟩
  clear HG
  go_wp2_with fail
  refine (ls_loadH H.out hx.out hp.out).mono ?_
  rintro e w1 ⟨rfl, H1⟩
  have c0 := H1.cells.1
  replace H1 := Lib.hid H1
  clear H
  go_wp2_with fail
  refine (ls_sizeH H1.out ht.out hto.out).mono ?_
  rintro e w2 ⟨rfl, H2⟩
  have c0 := H2.cells.1
  replace H2 := Lib.hid H2
  clear H1
  go_wp2_with fail
  refine (ls_sizeH H2.out hs.out hp.out).mono ?_
  rintro e w3 ⟨rfl, H3⟩
  have c0 := H3.cells.1
  have c1 := H3.cells.2.1
  replace H3 := Lib.hid H3
  clear H2
  replace hb := hb.out
  go_wp2_with fail
  refine (ls_storeH H3.out p j to hp.out hto.out).mono ?_
  rw [hth.out]
  rintro e w5 ⟨rfl, H5⟩
  replace H5 := Lib.hid H5
  clear H3
  go_wp2_with fail
  go_ret
  exact ⟨rfl, H5.out⟩
end
end Go.Proofs.YtcaboknbdamlhaaGreatDoor
namespace Go.Proofs.YtcaboknbdamlhaaGreatDoor
open Go.RowKit Go.Shelf
section
variable {w0 : W0} {w w' : World} {s h m : Nat} {T : SS}
set_option maxHeartbeats 4000000 in
set_option maxRecDepth 100000 in
theorem put_E0 (H : LS w0 w s h m T) {p x n1 m1 n2 mask : Int} {j : Nat} {is : Bool} {is2 : Bool} (hx : sLoad T.S p j = (x, 0)) (ht : sSize T.S 0 = (n1, m1, is)) (hs : sSize T.S p = (n2, mask, is2)) (hp : -9223372036854775808 ≤ p ∧ p ≤ 9223372036854775807)
    (hj : j ≤ 5) (hm : 0 ≤ mask ∧ mask ≤ 255) (hb : (bits BinOp.and IntKind.u8 (mask / 2 ^ j) 1 == 0) = false) (hxb : -9223372036854775808 ≤ x ∧ x ≤ 9223372036854775807) (hth : sThere T.S p j = 0) (hkn : (mKnown T.S T.K x).2 = 0) :
    Calls Tryz.prog 23 #[.pointer (some ⟨s, 0, none⟩), .int .i64 p, .int .i64 j, .int .i64 0, .bool true] w fun e w' => e = .returned (.int .i64 0) ∧ LS w0 w' s h m { qShade T x with S := sStore T.S p j 0 } := by
  have c0 := H.cells.1
  have HG := Lib.hid (ls_good H)
  replace H := Lib.hid H
  replace hx := Lib.hid hx
  replace ht := Lib.hid ht
  replace hs := Lib.hid hs
  replace hp := Lib.hid hp
  obtain ⟨hm1, hm2⟩ := hm
  replace hb := Lib.hid hb
  replace hth := Lib.hid hth
  replace hkn := Lib.hid hkn
  replace hxb := Lib.hid hxb
  go_enter Tryz.func23, Tryz.ntmps23
  go_wp2_with fail
  refine HG.out.mono ?_
  rintro e _ ⟨rfl, rfl⟩
  clear HG
  go_wp2_with fail
  refine (ls_loadH H.out hx.out hp.out).mono ?_
  rintro e w1 ⟨rfl, H1⟩
  have c0 := H1.cells.1
  replace H1 := Lib.hid H1
  clear H
  go_wp2_with fail
  refine (ls_sizeH H1.out ht.out (by omega)).mono ?_
  rintro e w2 ⟨rfl, H2⟩
  have c0 := H2.cells.1
  replace H2 := Lib.hid H2
  clear H1
  go_wp2_with fail
  refine (ls_sizeH H2.out hs.out hp.out).mono ?_
  rintro e w3 ⟨rfl, H3⟩
  have c0 := H3.cells.1
  have c1 := H3.cells.2.1
  replace H3 := Lib.hid H3
  clear H2
  replace hb := hb.out
  go_wp2_with fail
  refine (ls_shadeM H3.out x hxb.out).mono ?_
  rw [hkn.out]
  rintro e w4 ⟨rfl, H4⟩
  have c0 := H4.cells.1
  replace H4 := Lib.hid H4
  clear H3
  go_wp2_with fail
  refine (ls_storeH H4.out p j 0 hp.out (by omega)).mono ?_
  rw [(show sThere (qShade T x).S p j = 0 from hth.out)]
  rintro e w5 ⟨rfl, H5⟩
  replace H5 := Lib.hid H5
  clear H4
  go_wp2_with fail
  go_ret
  exact ⟨rfl, H5.out⟩
set_option maxHeartbeats 4000000 in
set_option maxRecDepth 100000 in
theorem put_E1 (H : LS w0 w s h m T) {p to x n1 m1 n2 mask : Int} {j : Nat} {is2 : Bool} (hx : sLoad T.S p j = (x, 0)) (ht : sSize T.S to = (n1, m1, true)) (hs : sSize T.S p = (n2, mask, is2)) (hp : -9223372036854775808 ≤ p ∧ p ≤ 9223372036854775807) (hto : -9223372036854775808 ≤ to ∧ to ≤ 9223372036854775807)
    (hj : j ≤ 5) (hm : 0 ≤ mask ∧ mask ≤ 255) (t1 : (to == 0) = false) (hb : (bits BinOp.and IntKind.u8 (mask / 2 ^ j) 1 == 0) = false) (hxb : -9223372036854775808 ≤ x ∧ x ≤ 9223372036854775807) (hth : sThere T.S p j = 0) (hkn : (mKnown T.S T.K x).2 = 0) :
    Calls Tryz.prog 23 #[.pointer (some ⟨s, 0, none⟩), .int .i64 p, .int .i64 j, .int .i64 to, .bool true] w fun e w' => e = .returned (.int .i64 0) ∧ LS w0 w' s h m { qShade T x with S := sStore T.S p j to } := by
  have c0 := H.cells.1
  have HG := Lib.hid (ls_good H)
  replace H := Lib.hid H
  replace hx := Lib.hid hx
  replace ht := Lib.hid ht
  replace hs := Lib.hid hs
  replace hp := Lib.hid hp
  replace hto := Lib.hid hto
  obtain ⟨hm1, hm2⟩ := hm
  replace hb := Lib.hid hb
  have t2 : ¬ to = 0 := beq_eq_false_iff_ne.1 t1
  have t3 : (to != 0) = true := by simpa using t2
  replace hth := Lib.hid hth
  replace hkn := Lib.hid hkn
  replace hxb := Lib.hid hxb
  go_enter Tryz.func23, Tryz.ntmps23
  go_wp2_with fail
  refine HG.out.mono ?_
  rintro e _ ⟨rfl, rfl⟩
  clear HG
  go_wp2_with fail
  refine (ls_loadH H.out hx.out hp.out).mono ?_
  rintro e w1 ⟨rfl, H1⟩
  have c0 := H1.cells.1
  replace H1 := Lib.hid H1
  clear H
  go_wp2_with fail
  refine (ls_sizeH H1.out ht.out hto.out).mono ?_
  rintro e w2 ⟨rfl, H2⟩
  have c0 := H2.cells.1
  replace H2 := Lib.hid H2
  clear H1
  go_wp2_with fail
  refine (ls_sizeH H2.out hs.out hp.out).mono ?_
  rintro e w3 ⟨rfl, H3⟩
  have c0 := H3.cells.1
  have c1 := H3.cells.2.1
  replace H3 := Lib.hid H3
  clear H2
  replace hb := hb.out
  go_wp2_with fail
  refine (ls_shadeM H3.out x hxb.out).mono ?_
  rw [hkn.out]
  rintro e w4 ⟨rfl, H4⟩
  have c0 := H4.cells.1
  replace H4 := Lib.hid H4
  clear H3
  go_wp2_with fail
  refine (ls_storeH H4.out p j to hp.out hto.out).mono ?_
  rw [(show sThere (qShade T x).S p j = 0 from hth.out)]
  rintro e w5 ⟨rfl, H5⟩
  replace H5 := Lib.hid H5
  clear H4
  go_wp2_with fail
  go_ret
  exact ⟨rfl, H5.out⟩
end
end Go.Proofs.YtcaboknbdamlhaaGreatDoor
namespace Go.Proofs.YtcaboknbdamlhaaGreatDoor
open Go.RowKit Go.Shelf
section
variable {w0 : W0} {w w' : World} {s h m : Nat} {T : SS}
set_option maxHeartbeats 4000000 in
set_option maxRecDepth 100000 in
theorem put_F0 (H : LS w0 w s h m T) {p x n1 m1 n2 mask : Int} {j : Nat} {is : Bool} {is2 : Bool} (hx : sLoad T.S p j = (x, 0)) (ht : sSize T.S 0 = (n1, m1, is)) (hs : sSize T.S p = (n2, mask, is2)) (hp : -9223372036854775808 ≤ p ∧ p ≤ 9223372036854775807)
    (hj : j ≤ 5) (hm : 0 ≤ mask ∧ mask ≤ 255) (hb : (bits BinOp.and IntKind.u8 (mask / 2 ^ j) 1 == 0) = false) (hxb : -9223372036854775808 ≤ x ∧ x ≤ 9223372036854775807) {ek : Int} (hkn : (mKnown T.S T.K x).2 = ek) (hk2 : (ek == 0) = false) :
    Calls Tryz.prog 23 #[.pointer (some ⟨s, 0, none⟩), .int .i64 p, .int .i64 j, .int .i64 0, .bool true] w fun e w' => e = .returned (.int .i64 ek) ∧ LS w0 w' s h m (qShade T x) := by
  have c0 := H.cells.1
  have HG := Lib.hid (ls_good H)
  replace H := Lib.hid H
  replace hx := Lib.hid hx
  replace ht := Lib.hid ht
  replace hs := Lib.hid hs
  replace hp := Lib.hid hp
  obtain ⟨hm1, hm2⟩ := hm
  replace hb := Lib.hid hb
  replace hkn := Lib.hid hkn
  replace hxb := Lib.hid hxb
  go_enter Tryz.func23, Tryz.ntmps23
  go_wp2_with fail
  refine HG.out.mono ?_
  rintro e _ ⟨rfl, rfl⟩
  clear HG
  go_wp2_with fail
  refine (ls_loadH H.out hx.out hp.out).mono ?_
  rintro e w1 ⟨rfl, H1⟩
  have c0 := H1.cells.1
  replace H1 := Lib.hid H1
  clear H
  go_wp2_with fail
  refine (ls_sizeH H1.out ht.out (by omega)).mono ?_
  rintro e w2 ⟨rfl, H2⟩
  have c0 := H2.cells.1
  replace H2 := Lib.hid H2
  clear H1
  go_wp2_with fail
  refine (ls_sizeH H2.out hs.out hp.out).mono ?_
  rintro e w3 ⟨rfl, H3⟩
  have c0 := H3.cells.1
  have c1 := H3.cells.2.1
  replace H3 := Lib.hid H3
  clear H2
  replace hb := hb.out
  go_wp2_with fail
  refine (ls_shadeM H3.out x hxb.out).mono ?_
  rw [hkn.out]
  rintro e w4 ⟨rfl, H4⟩
  have c0 := H4.cells.1
  replace H4 := Lib.hid H4
  clear H3
  go_wp2_with fail
  go_ret
  exact ⟨rfl, H4.out⟩
set_option maxHeartbeats 4000000 in
set_option maxRecDepth 100000 in
theorem put_F1 (H : LS w0 w s h m T) {p to x n1 m1 n2 mask : Int} {j : Nat} {is2 : Bool} (hx : sLoad T.S p j = (x, 0)) (ht : sSize T.S to = (n1, m1, true)) (hs : sSize T.S p = (n2, mask, is2)) (hp : -9223372036854775808 ≤ p ∧ p ≤ 9223372036854775807) (hto : -9223372036854775808 ≤ to ∧ to ≤ 9223372036854775807)
    (hj : j ≤ 5) (hm : 0 ≤ mask ∧ mask ≤ 255) (t1 : (to == 0) = false) (hb : (bits BinOp.and IntKind.u8 (mask / 2 ^ j) 1 == 0) = false) (hxb : -9223372036854775808 ≤ x ∧ x ≤ 9223372036854775807) {ek : Int} (hkn : (mKnown T.S T.K x).2 = ek) (hk2 : (ek == 0) = false) :
    Calls Tryz.prog 23 #[.pointer (some ⟨s, 0, none⟩), .int .i64 p, .int .i64 j, .int .i64 to, .bool true] w fun e w' => e = .returned (.int .i64 ek) ∧ LS w0 w' s h m (qShade T x) := by
  have c0 := H.cells.1
  have HG := Lib.hid (ls_good H)
  replace H := Lib.hid H
  replace hx := Lib.hid hx
  replace ht := Lib.hid ht
  replace hs := Lib.hid hs
  replace hp := Lib.hid hp
  replace hto := Lib.hid hto
  obtain ⟨hm1, hm2⟩ := hm
  replace hb := Lib.hid hb
  have t2 : ¬ to = 0 := beq_eq_false_iff_ne.1 t1
  have t3 : (to != 0) = true := by simpa using t2
  replace hkn := Lib.hid hkn
  replace hxb := Lib.hid hxb
  go_enter Tryz.func23, Tryz.ntmps23
  go_wp2_with fail
  refine HG.out.mono ?_
  rintro e _ ⟨rfl, rfl⟩
  clear HG
  go_wp2_with fail
  refine (ls_loadH H.out hx.out hp.out).mono ?_
  rintro e w1 ⟨rfl, H1⟩
  have c0 := H1.cells.1
  replace H1 := Lib.hid H1
  clear H
  go_wp2_with fail
  refine (ls_sizeH H1.out ht.out hto.out).mono ?_
  rintro e w2 ⟨rfl, H2⟩
  have c0 := H2.cells.1
  replace H2 := Lib.hid H2
  clear H1
  go_wp2_with fail
  refine (ls_sizeH H2.out hs.out hp.out).mono ?_
  rintro e w3 ⟨rfl, H3⟩
  have c0 := H3.cells.1
  have c1 := H3.cells.2.1
  replace H3 := Lib.hid H3
  clear H2
  replace hb := hb.out
  go_wp2_with fail
  refine (ls_shadeM H3.out x hxb.out).mono ?_
  rw [hkn.out]
  rintro e w4 ⟨rfl, H4⟩
  have c0 := H4.cells.1
  replace H4 := Lib.hid H4
  clear H3
  go_wp2_with fail
  go_ret
  exact ⟨rfl, H4.out⟩
end
end Go.Proofs.YtcaboknbdamlhaaGreatDoor
namespace Go.Proofs.YtcaboknbdamlhaaGreatDoor
open Go.RowKit Go.Shelf
section
variable {w0 : W0} {w w' : World} {s h m : Nat} {T : SS}
theorem ls_put (H : LS w0 w s h m T) (p f to : Int) (bar : Bool) (hp : -9223372036854775808 ≤ p ∧ p ≤ 9223372036854775807) (hto : -9223372036854775808 ≤ to ∧ to ≤ 9223372036854775807) :
    Calls Tryz.prog 23 #[.pointer (some ⟨s, 0, none⟩), .int .i64 p, .int .i64 f, .int .i64 to, .bool bar] w fun e w' => e = .returned (.int .i64 (qPut T p f to bar).2) ∧ LS w0 w' s h m (qPut T p f to bar).1 := by
  have I := H.inv.toInv0
  obtain ⟨⟨x, er⟩, hx⟩ : ∃ r, sLoad T.S p f = r := ⟨_, rfl⟩
  obtain ⟨⟨n1, m1, is⟩, ht⟩ : ∃ r, sSize T.S to = r := ⟨_, rfl⟩
  obtain ⟨⟨n2, mask, is2⟩, hs⟩ : ∃ r, sSize T.S p = r := ⟨_, rfl⟩
  have hxb := load_bd I p f
  have hsb := size_bd I p
  rw [hx] at hxb
  rw [hs] at hsb
  dsimp only at hxb hsb
  have hthe : er = sThere T.S p f := by
    have := congrArg Prod.snd hx
    unfold sLoad at this
    dsimp only at this
    split at this
    · rename_i e; exact this.symm.trans e.symm
    · exact this.symm
  obtain ⟨Q, hQ⟩ : ∃ Q, Q = qPut T p f to bar := ⟨_, rfl⟩
  rw [← hQ]
  unfold qPut at hQ
  rw [hx, ht, hs] at hQ
  dsimp only at hQ
  by_cases h0 : er = 0
  · subst h0
    rw [if_neg (by simp)] at hQ
    by_cases hto0 : to ≠ 0 ∧ is = false
    · rw [if_pos hto0] at hQ
      rw [hQ]
      exact put_B H hx ht hs hp hto rfl hto0.2 (beq_eq_false_iff_ne.2 hto0.1)
    · rw [if_neg hto0] at hQ
      have hth := hthe.symm
      have hfj : 0 ≤ f ∧ f < n2 := by
        have h1 := hth
        unfold sThere at h1
        split at h1
        · omega
        · rename_i hn
          rw [hs] at hn
          dsimp only at hn
          omega
      obtain ⟨j, rfl⟩ : ∃ j : Nat, f = (j : Int) := ⟨f.toNat, by omega⟩
      rw [Int.toNat_natCast] at hQ
      obtain ⟨hs1, hs2, hs3, hs4⟩ := hsb
      have hj6 : j ≤ 5 := by omega
      have hz : (to = 0) ∨ ((to == 0) = false ∧ is = true) := by
        by_cases e : to = 0
        · exact .inl e
        · exact .inr ⟨beq_eq_false_iff_ne.2 e, by cases is with | true => rfl | false => exact absurd ⟨e, rfl⟩ hto0⟩
      by_cases hb : mBit mask j = false
      · rw [if_pos hb] at hQ
        rw [hQ]
        have hb' : (bits BinOp.and IntKind.u8 (mask / 2 ^ j) 1 == 0) = true := by unfold mBit at hb; simpa using hb
        rcases hz with rfl | ⟨t1, rfl⟩
        · exact put_C0 H hx ht hs hp hj6 ⟨by omega, by omega⟩ hb'
        · exact put_C1 H hx ht hs hp hto hj6 ⟨by omega, by omega⟩ t1 hb'
      · rw [if_neg hb] at hQ
        have hb' : (bits BinOp.and IntKind.u8 (mask / 2 ^ j) 1 == 0) = false := by unfold mBit at hb; simpa using hb
        cases bar with
        | false =>
          rw [if_pos rfl] at hQ
          rw [hQ]
          rcases hz with rfl | ⟨t1, rfl⟩
          · exact put_D0 H hx ht hs hp hj6 ⟨by omega, by omega⟩ hb' hth
          · exact put_D1 H hx ht hs hp hto hj6 ⟨by omega, by omega⟩ t1 hb' hth
        | true =>
          rw [if_neg (by simp)] at hQ
          by_cases hk : (mKnown T.S T.K x).2 = 0
          · rw [if_neg (by omega)] at hQ
            rw [hQ]
            rcases hz with rfl | ⟨t1, rfl⟩
            · exact put_E0 H hx ht hs hp hj6 ⟨by omega, by omega⟩ hb' hxb hth hk
            · exact put_E1 H hx ht hs hp hto hj6 ⟨by omega, by omega⟩ t1 hb' hxb hth hk
          · rw [if_pos hk] at hQ
            rw [hQ]
            rcases hz with rfl | ⟨t1, rfl⟩
            · exact put_F0 H hx ht hs hp hj6 ⟨by omega, by omega⟩ hb' hxb rfl (beq_eq_false_iff_ne.2 hk)
            · exact put_F1 H hx ht hs hp hto hj6 ⟨by omega, by omega⟩ t1 hb' hxb rfl (beq_eq_false_iff_ne.2 hk)
  · rw [if_pos h0] at hQ
    rw [hQ]
    exact put_A H hx ht hs hp hto (beq_eq_false_iff_ne.2 h0)
end
end Go.Proofs.YtcaboknbdamlhaaGreatDoor
namespace Go.Proofs.YtcaboknbdamlhaaGreatDoor
open Go.RowKit Go.Shelf
theorem least (P : Nat → Prop) (h : ∃ d, P d) : ∃ d, P d ∧ ∀ j, P j → d ≤ j := by
  obtain ⟨d, hd⟩ := h
  induction d using Nat.strongRecOn with
  | ind d ih =>
    by_cases hx : ∃ j, j < d ∧ P j
    · obtain ⟨j, hj, hp⟩ := hx
      exact ih j hj hp
    · exact ⟨d, hd, fun j hj => Nat.le_of_not_lt fun h => hx ⟨j, h, hj⟩⟩
/-- The least of some numbers. -/
noncomputable def mea (P : Nat → Prop) : Nat := open Classical in if h : ∃ d, P d then Classical.choose (least P h) else 0
theorem mea_spec {P : Nat → Prop} (h : ∃ d, P d) : P (mea P) := by
  unfold mea
  rw [dif_pos h]
  exact (Classical.choose_spec (least P h)).1
theorem mea_le {P : Nat → Prop} {d : Nat} (h : P d) : mea P ≤ d := by
  unfold mea
  rw [dif_pos ⟨d, h⟩]
  exact (Classical.choose_spec (least P ⟨d, h⟩)).2 d h
section
variable {w0 : W0} {w w' w1 : World} {s h m : Nat} {T : SS}
theorem LS.guard (H : LS w0 w s h m T) (hb : Below w.heap.size w w') : LS (w0.guard w w') w' s h m T := by
  obtain ⟨F, D, G, W, hF, b⟩ := H
  refine ⟨F, D, G, W.below hb, fun k hk => ⟨(hF k hk).1, fun hq => hq.elim (hF k hk).2 fun h => ?_⟩, b.guard hb⟩
  have := h.1
  rcases hk with h | h | h
  · have := W.mm.hp.lt k h; omega
  · have := W.mm.dlt k h; omega
  · have := W.glt k h; omega
theorem LS.unguard {s' h' m' : Nat} {T' : SS} (H0 : LS w0 w s h m T) (hb : Below w.heap.size w w1) (H : LS (w0.guard w w1) w' s' h' m' T') : LS w0 w' s' h' m' T' := by
  obtain ⟨F0, D0, G0, W0', hF0, b0⟩ := H0
  obtain ⟨F, D, G, W, hF, b⟩ := H
  exact ⟨F, D, G, W, fun k hk => ⟨(hF k hk).1, fun hq => (hF k hk).2 (.inl hq)⟩, b0.unguard hb b⟩
theorem LS.keepsQ (H : LS w0 w s h m T) {k : Nat} (h0 : w0.Q k) : k < w.heap.size ∧ w.heap[k]? = w0.wq.heap[k]? := by
  obtain ⟨F, D, G, W, hF, b⟩ := H
  exact b.kept k h0
theorem LS.keeps (H : LS (w0.guard w w1) w' s h m T) {k : Nat} (h0 : w.heap.size ≤ k) (h1 : k < w1.heap.size) : w'.heap[k]? = w1.heap[k]? := (H.keepsQ (.inr ⟨h0, h1⟩)).2
/-- A list that is kept reads still. -/
theorem LS.rd (H : LS (w0.guard w w1) w' s h m T) {α : Type} {enc : α → Value} {xs : List α} {v : Value} (hr : Rd enc w1 v xs) (hf : ∀ b, v.ownBlock = some b → w.heap.size ≤ b) : Rd enc w' v xs := by
  obtain ⟨A, c, rfl, h1, h3⟩ := hr
  refine ⟨A, c, rfl, h1, fun hp => ?_⟩
  obtain ⟨b, o, rfl, hlt, hc⟩ := h3 hp
  have hk := H.keeps (hf b rfl) hlt
  exact ⟨b, o, rfl, (H.keepsQ (.inr ⟨hf b rfl, hlt⟩)).1, fun i hi => (World.cell?_of_block hk).trans (hc i hi)⟩
theorem ls_fresh (H : LS w0 w s h m T) (hb : Below w.heap.size w w1) {k : Nat} (hf : w0.Q k ∨ w.heap.size ≤ k) : True := trivial
/-- Begin at a list that no footprint has. -/
theorem ls_beginQ (H : LS w0 w s h m T) (vr : Value) (l : List Int) (hv : Rd i64e w vr l) (hl : l.length ≤ 4096) (hbd : ∀ x ∈ l, -9223372036854775808 ≤ x ∧ x ≤ 9223372036854775807) (hf : ∀ b, vr.ownBlock = some b → ¬ w0.free b) :
    Calls Tryz.prog 18 #[.pointer (some ⟨s, 0, none⟩), vr] w fun e w' => e = .returned (.int .i64 (qBegin T l).2) ∧ LS w0 w' s h m (qBegin T l).1 := by
  have c1 := H.cells.2.1
  have c2 := H.cells.2.2.1
  have HG := Lib.hid (ls_good H)
  unfold qBegin
  by_cases hp : T.ph = 0
  · rw [if_neg (by simpa using hp)]
    obtain ⟨F, D, G, W, hF, b⟩ := H
    have HM := begin_m m h T.S F T.K D w W.mm vr l hv hl hbd (fun _ k e hD => hf k e (hF k (.inr (.inl hD))))
    obtain ⟨K1, er, hr⟩ : ∃ K1 er, mBegin T.S T.K l = (K1, er) := ⟨_, _, rfl⟩
    rw [hr] at HM ⊢
    dsimp only at HM ⊢
    replace W := Lib.hid W
    replace b := Lib.hid b
    replace hF := Lib.hid hF
    replace HM := Lib.hid HM
    replace hr := Lib.hid hr
    replace hf := Lib.hid hf
    rw [hp] at c2
    obtain ⟨ph', hph⟩ : ∃ ph', ph' = (if er = 0 then 1 else T.ph) := ⟨_, rfl⟩
    rw [← hph]
    replace hph := Lib.hid hph
    replace hp := Lib.hid hp
    obtain ⟨A, c, rfl, -⟩ := hv.len
    clear hv
    go_enter Tryz.func18, Tryz.ntmps18
    go_wp2_with fail
    refine HG.out.mono ?_
    rintro e _ ⟨rfl, rfl⟩
    clear HG
    go_wp2_with fail
    refine HM.out.mono ?_
    rintro e w2 ⟨rfl, D', M, st⟩
    have H2 : LS w0 w2 s h m ⟨T.S, K1, T.ph, T.left, T.cyc⟩ := ⟨F, D', G, W.out.marks M st, sfree_marks hF.out b.out st, b.out.step st fun k hk => hF.out k (.inr (.inl hk))⟩
    have c22 : w2.cell? ⟨s, 2, none⟩ = some (.int .i64 T.ph) := H2.cells.2.2.1
    obtain ⟨f2, H3⟩ := H2.phase 1
    replace H2 := Lib.hid H2
    replace H3 := Lib.hid H3
    clear HM M st W b hF c1 c2
    by_cases h0 : er = 0
    · subst h0
      have hp1 : ph' = 1 := by rw [hph.out, if_pos rfl]
      subst hp1
      go_wp2_with fail
      go_ret
      exact ⟨rfl, H3.out⟩
    · have hp1 : ph' = T.ph := by rw [hph.out, if_neg h0]
      subst hp1
      have h02 : (er == 0) = false := beq_eq_false_iff_ne.2 h0
      go_wp2_with fail
      go_ret
      exact ⟨rfl, H2.out⟩
  · rw [if_pos (by simpa using hp)]
    have hp2 : (T.ph == 0) = false := beq_eq_false_iff_ne.2 hp
    replace H := Lib.hid H
    obtain ⟨A, c, rfl, -⟩ := hv.len
    clear hv
    go_enter Tryz.func18, Tryz.ntmps18
    go_wp2_with fail
    refine HG.out.mono ?_
    rintro e _ ⟨rfl, rfl⟩
    go_wp2_with fail
    go_ret
    exact ⟨rfl, H.out⟩
end
/-- So many steps. -/
def qIt (T : SS) (junk : Int) : Nat → SS
  | 0 => T
  | n + 1 => (qStep (qIt T junk n) junk).1
/-- A store comes to its end behind n steps, without an error. -/
structure Ends (T : SS) (junk : Int) (n : Nat) : Prop where
  go : ∀ i, i < n → (qIt T junk i).ph ≠ 0 ∧ (qStep (qIt T junk i) junk).2 = 0
  off : (qIt T junk n).ph = 0
  ok : ∀ i, i ≤ n → SOk (qIt T junk i)
section
variable {w0 : W0} {w w' w1 : World} {s h m : Nat} {T : SS}
set_option maxHeartbeats 3200000 in
set_option maxRecDepth 100000 in
theorem ls_finish (H : LS w0 w s h m T) (junk : Int) (n : Nat) (E : Ends T junk n) (hx : -9223372036854775808 ≤ junk ∧ junk ≤ 9223372036854775807) :
    Calls Tryz.prog 49 #[.pointer (some ⟨s, 0, none⟩), .int .i64 junk] w fun e w' => e = .returned (.int .i64 0) ∧ LS w0 w' s h m (qIt T junk n) := by
  have H0 : Hid (∃ d, d ≤ n ∧ LS w0 w s h m (qIt T junk (n - d))) := Lib.hid ⟨n, Nat.le_refl _, by rw [Nat.sub_self]; exact H⟩
  replace E := Lib.hid E
  replace hx := Lib.hid hx
  clear H
  go_enter Tryz.func49, Tryz.ntmps49
  go_wp2_with fail
  go_loopw [] (fun wr => Hid (∃ d, d ≤ n ∧ LS w0 wr s h m (qIt T junk (n - d)))) (fun wr => mea (fun d => d ≤ n ∧ LS w0 wr s h m (qIt T junk (n - d))))
  case atStart => exact H0
  case round =>
    clear H0
    have hsp := mea_spec hrel.out
    obtain ⟨d, hd⟩ : ∃ d, d = mea (fun d => d ≤ n ∧ LS w0 wr s h m (qIt T junk (n - d))) := ⟨_, rfl⟩
    rw [← hd] at hsp
    obtain ⟨hdn, H1⟩ := hsp
    have c2 := H1.cells.2.2.1
    replace hd := Lib.hid hd
    by_cases h0 : (qIt T junk (n - d)).ph = 0
    · have hdz : d = 0 := by
        rcases Nat.eq_zero_or_pos d with h | h
        · exact h
        · exact absurd h0 (E.out.go (n - d) (by omega)).1
      subst hdz
      rw [Nat.sub_zero] at c2 H1
      rw [E.out.off] at c2
      replace H1 := Lib.hid H1
      clear hrel hd hdn h0
      go_wp2_with fail
      go_ret
      exact ⟨rfl, H1.out⟩
    · have hd1 : 0 < d := by
        rcases Nat.eq_zero_or_pos d with h | h
        · subst h
          exact absurd E.out.off (by rw [Nat.sub_zero] at h0; exact h0)
        · exact h
      have hpz : ((qIt T junk (n - d)).ph == 0) = false := beq_eq_false_iff_ne.2 h0
      have hstep := ls_step H1 (E.out.ok (n - d) (by omega)) junk hx.out
      have hno := (E.out.go (n - d) (by omega)).2
      rw [hno, if_pos rfl, show (qStep (qIt T junk (n - d)) junk).1 = qIt T junk (n - (d - 1)) from by rw [show n - (d - 1) = n - d + 1 by omega]; rfl] at hstep
      replace hstep := Lib.hid hstep
      replace hno := Lib.hid hno
      replace h0 := Lib.hid h0
      replace H1 := Lib.hid H1
      obtain ⟨ph, hph⟩ : ∃ ph, ph = (qIt T junk (n - d)).ph := ⟨_, rfl⟩
      rw [← hph] at c2 hpz
      replace hph := Lib.hid hph
      clear hrel
      go_wp2_with fail
      refine hstep.out.mono ?_
      rintro e w2 ⟨rfl, H2⟩
      replace H2 := Lib.hid H2
      go_wp2_with fail
      go_roundw
      case rel => exact Lib.hid ⟨d - 1, by omega, H2.out⟩
      case measure =>
        have hle : mea (fun d => d ≤ n ∧ LS w0 w2 s h m (qIt T junk (n - d))) ≤ d - 1 := mea_le (P := fun d => d ≤ n ∧ LS w0 w2 s h m (qIt T junk (n - d))) ⟨by omega, H2.out⟩
        have := hd.out
        omega
set_option maxHeartbeats 6400000 in
set_option maxRecDepth 100000 in
theorem ls_full (H : LS w0 w s h m T) {w1 : World} (hb : Below w.heap.size w w1) (vr : Value) (l : List Int) (hv : Rd i64e w1 vr l) (hl : l.length ≤ 4096) (hbd : ∀ x ∈ l, -9223372036854775808 ≤ x ∧ x ≤ 9223372036854775807) (hf : ∀ b, vr.ownBlock = some b → w.heap.size ≤ b) (hlt : ∀ b, vr.ownBlock = some b → b < w1.heap.size)
    (junk : Int) (hx : -9223372036854775808 ≤ junk ∧ junk ≤ 9223372036854775807) (n1 n2 : Nat) {T1 T2 T3 : SS} {a1 a3 : List Int} (E1 : Ends T junk n1) (h1 : qIt T junk n1 = T1) (h2 : qBegin T1 l = (T2, 0)) (E2 : Ends T2 junk n2) (h3 : qIt T2 junk n2 = T3) (ha1 : sAll T1.S = a1) (ha3 : sAll T3.S = a3) (hn1 : a1.length ≤ 4096) (hn3 : a3.length ≤ 4096) :
    Calls Tryz.prog 26 #[.pointer (some ⟨s, 0, none⟩), vr, .int .i64 junk] w1 fun e w' => e = .returned (.tuple #[.int .i64 ((a1.length : Int) - a3.length), .int .i64 0]) ∧ LS w0 w' s h m T3 := by
  have hun : Hid (∀ {w'}, LS (w0.guard w w1) w' s h m T3 → LS w0 w' s h m T3) := Lib.hid fun h => H.unguard hb h
  have H1 := H.guard hb
  have c0 := H1.cells.1
  have HG := Lib.hid (ls_good H1)
  have HF := Lib.hid (ls_finish H1 junk n1 E1 hx)
  rw [h1] at HF
  have hrd : Hid (∀ {w' : World} {T' : SS}, LS (w0.guard w w1) w' s h m T' → Rd i64e w' vr l) := Lib.hid fun h => h.rd hv hf
  have hnf : Hid (∀ b, vr.ownBlock = some b → ¬ (w0.guard w w1).free b) := Lib.hid fun b e hfr => hfr.2 (.inr ⟨hf b e, hlt b e⟩)
  obtain ⟨A, c, rfl, -⟩ := hv.len
  replace hbd := Lib.hid hbd
  replace hx := Lib.hid hx
  replace h2 := Lib.hid h2
  replace h3 := Lib.hid h3
  replace E1 := Lib.hid E1
  replace E2 := Lib.hid E2
  replace ha1 := Lib.hid ha1
  replace ha3 := Lib.hid ha3
  clear H H1 hv hf hlt hb h1
  generalize w0.guard w w1 = wg at HG HF hun hrd hnf
  go_enter Tryz.func26, Tryz.ntmps26
  go_wp2_with fail
  refine HG.out.mono ?_
  rintro e _ ⟨rfl, rfl⟩
  clear HG
  go_wp2_with fail
  refine HF.out.mono ?_
  rintro e w2 ⟨rfl, H2⟩
  have c0 := H2.cells.1
  replace H2 := Lib.hid H2
  clear HF
  go_wp2_with fail
  refine (ls_allH H2.out ha1.out).mono ?_
  rintro e w3 ⟨A3, c3, rfl, _, _, _, H3⟩
  replace H3 := Lib.hid H3
  clear H2
  go_wp2_with fail
  refine (ls_beginQ H3.out _ l (hrd.out H3.out) hl hbd.out hnf.out).mono ?_
  rw [h2.out]
  rintro e w4 ⟨rfl, H4⟩
  replace H4 := Lib.hid H4
  clear H3
  go_wp2_with fail
  have HF := ls_finish H4.out junk n2 E2.out hx.out
  rw [h3.out] at HF
  refine HF.mono ?_
  rintro e w5 ⟨rfl, H5⟩
  have c0 := H5.cells.1
  replace H5 := Lib.hid H5
  clear H4 HF
  go_wp2_with fail
  refine (ls_allH H5.out ha3.out).mono ?_
  rintro e w6 ⟨A6, c6, rfl, _, _, _, H6⟩
  replace H6 := Lib.hid H6
  have hw : IntKind.i64.wrap ((a1.length : Int) - a3.length) = (a1.length : Int) - a3.length := by rw [IntKind.wrap_i64]; omega
  clear H5
  go_wp2_with fail
  go_ret2
  exact ⟨rfl, hun.out H6.out⟩
end
end Go.Proofs.YtcaboknbdamlhaaGreatDoor
namespace Go.Proofs.YtcaboknbdamlhaaGreatDoor
open Go.RowKit Go.Shelf
def q0 (N : Nat) : SS := ⟨sNew N, mNew, 0, [], 0⟩
set_option maxHeartbeats 1600000 in
set_option maxRecDepth 100000 in
theorem snew_ok (N : Nat) (w : World) (h1 : 1 ≤ N) (h2 : N ≤ 512) (hT : TabW w) :
    Calls Tryz.prog 30 #[.int .i64 (N : Int)] w fun e w' => ∃ s h m, e = .returned (.pointer (some ⟨s, 0, none⟩)) ∧ w.heap.size ≤ s ∧ LS (ofW w) w' s h m (q0 N) := by
  have T0 := Lib.hid hT.lt
  replace hT := Lib.hid hT
  go_enter Tryz.func30, Tryz.ntmps30
  go_wp2_with fail
  refine (new_s N w h1 h2 hT.out).mono ?_
  rintro e w1 ⟨h, F, rfl, H1, hF, b1⟩
  replace H1 := Lib.hid H1
  replace hF := Lib.hid hF
  replace b1 := Lib.hid b1
  go_wp2_with fail
  refine (new_m h _ F w1 H1.out).mono ?_
  rintro e w2 ⟨m, D, rfl, M, hD, b2⟩
  replace M := Lib.hid M
  replace hD := Lib.hid hD
  replace b2 := Lib.hid b2
  go_wp2_with fail
  go_ret
  have hs1 := b1.out.size
  have hs2 := b2.out.size
  have hb := below_alloc w2 (.cells (scells h m 0 (.slice none 0 0) 0) 87)
  have hsz : (w2.alloc (.cells (scells h m 0 (.slice none 0 0) 0) 87)).heap.size = w2.heap.size + 1 := by simp
  have hFl : ∀ k, F k → k < w2.heap.size := fun k hk => by have := H1.out.lt k hk; omega
  have hDl := M.out.dlt
  have htl := T0.out
  refine ⟨w2.heap.size, h, m, rfl, by omega, F, D, fun k => k = w2.heap.size, ⟨M.out.below hb, ⟨.slice none 0 0, Blk.new w2 _ _, ⟨Rd.none_ _ _, fun hp => absurd hp (by simp [q0])⟩, rfl, fun k hk => by subst hk; simp⟩, fun k hk hf => by have := hFl k hf; omega, fun k hk hd => by have := hDl k hd; omega, fun ht => by have ht : 0 = w2.heap.size := ht; omega⟩, fun k hk => ⟨?_, fun hq => hq⟩, ⟨(b1.out.trans (b2.out.mono hs1)).trans (hb.mono (by show w.heap.size ≤ w2.heap.size; omega)), fun k hk => hk.elim⟩⟩
  rcases hk with h | h | h
  · exact hF.out k h
  · have := hD.out k h; show w.heap.size ≤ k; omega
  · show w.heap.size ≤ k; omega
end Go.Proofs.YtcaboknbdamlhaaGreatDoor
namespace Go.Proofs.YtcaboknbdamlhaaGreatDoor
open Go.RowKit Go.Shelf
def aT0 : SS := q0 2
def aT1 : SS := (qAlloc aT0 2 3 0).1
def aT2 : SS := (qAlloc aT1 2 3 0).1
def aT3 : SS := (qBegin aT2 [1]).1
def aT4 : SS := qIt aT3 5 4
def aT5 : SS := (qPut aT4 1 0 1 true).1
def aT6 : SS := (qPut aT5 1 5 1 true).1
theorem a_b1 : -9223372036854775808 ≤ (sAlloc aT0.S 2 3 0).2.1 ∧ (sAlloc aT0.S 2 3 0).2.1 ≤ 9223372036854775807 := by decide +kernel
theorem a_b2 : -9223372036854775808 ≤ (sAlloc aT1.S 2 3 0).2.1 ∧ (sAlloc aT1.S 2 3 0).2.1 ≤ 9223372036854775807 := by decide +kernel
theorem a_1 : qAlloc aT0 2 3 0 = (aT1, 1, 0) := Prod.ext rfl (by decide +kernel)
theorem a_2 : qAlloc aT1 2 3 0 = (aT2, 3, 0) := Prod.ext rfl (by decide +kernel)
theorem a_e1 : Ends aT2 5 0 := ⟨fun i hi => absurd hi (Nat.not_lt_zero _), by decide +kernel, fun i hi => by
  obtain rfl : i = 0 := by omega
  exact ⟨by decide +kernel, by decide +kernel, by decide +kernel, by decide +kernel⟩⟩
theorem a_3 : qBegin aT2 [1] = (aT3, 0) := Prod.ext rfl (by decide +kernel)
theorem a_go : ∀ i, i < 4 → (qIt aT3 5 i).ph ≠ 0 ∧ (qStep (qIt aT3 5 i) 5).2 = 0 := by decide +kernel
theorem a_ok : ∀ i, i < 5 → ((qIt aT3 5 i).ph = 0 ∨ ((qIt aT3 5 i).ph = 1 ∧ (qIt aT3 5 i).K.on = true) ∨ (qIt aT3 5 i).ph = 2) ∧ (0 ≤ (qIt aT3 5 i).cyc ∧ (qIt aT3 5 i).cyc < 1000000) ∧ (∀ x ∈ (qIt aT3 5 i).left, 0 ≤ x ∧ x ≤ 4096) ∧ (qIt aT3 5 i).left.length ≤ 4096 := by decide +kernel
theorem a_e2 : Ends aT3 5 4 := ⟨a_go, by decide +kernel, fun i hi => by
  obtain ⟨h1, h2, h3, h4⟩ := a_ok i (by omega)
  exact ⟨h1, h2, h3, h4⟩⟩
theorem a_all2 : sAll aT2.S = [1, 3] := by decide +kernel
theorem a_all4 : sAll aT4.S = [1] := by decide +kernel
theorem a_ph : aT4.ph = 0 ∧ aT4.cyc = 1 := by decide +kernel
theorem a_5 : qPut aT4 1 0 1 true = (aT5, 0) := Prod.ext rfl (by decide +kernel)
theorem a_6 : qPut aT5 1 5 1 true = (aT6, 11) := Prod.ext rfl (by decide +kernel)
theorem a_t0 : q0 2 = aT0 := rfl
theorem a_i0 : qIt aT2 5 0 = aT2 := rfl
theorem a_i4 : qIt aT3 5 4 = aT4 := rfl
attribute [irreducible] aT0 aT1 aT2 aT3 aT4 aT5 aT6
set_option maxHeartbeats 3200000 in
set_option maxRecDepth 100000 in
theorem salive_ok (w : World) (hT : TabW w) : Calls Tryz.prog 9 #[] w fun e w' => e = .returned (.bool true) ∧ Below w.heap.size w w' := by
  have HB := Lib.hid (snew_ok 2 w (by omega) (by omega) hT)
  rw [a_t0] at HB
  clear hT
  go_enter Tryz.func9, Tryz.ntmps9
  go_wp2_with fail
  refine HB.out.mono ?_
  rintro e w1 ⟨s, h, m, rfl, -, H1⟩
  replace H1 := Lib.hid H1
  clear HB
  go_wp2_with fail
  refine (ls_heap H1.out).mono ?_
  rintro e _ ⟨rfl, rfl⟩
  go_wp2_with fail
  refine (ls_alloc H1.out 2 3 0 (by omega) (by omega) a_b1).mono ?_
  rw [a_1]
  rintro e w2 ⟨rfl, H2⟩
  dsimp only at H2
  replace H2 := Lib.hid H2
  clear H1
  go_wp2_with fail
  refine (ls_alloc H2.out 2 3 0 (by omega) (by omega) a_b2).mono ?_
  rw [a_2]
  rintro e w3 ⟨rfl, H3⟩
  dsimp only at H3
  replace H3 := Lib.hid H3
  clear H2
  go_wp2_with fail
  refine (ls_full H3.out (below_alloc w3 (.cells #[.int .i64 1] 3)) _ [1] (Rd.lit w3 3 [1] (by decide)) (by decide) (by intro x hx; simp at hx; omega) (fun b e => by obtain rfl : w3.heap.size = b := (by simpa [Value.ownBlock] using e); exact Nat.le_refl _) (fun b e => by obtain rfl : w3.heap.size = b := (by simpa [Value.ownBlock] using e); simp) 5 (by omega) 0 4 a_e1 a_i0 a_3 a_e2 a_i4 a_all2 a_all4 (by decide) (by decide)).mono ?_
  rintro e w4 ⟨rfl, H4⟩
  replace H4 := Lib.hid H4
  clear H3
  go_wp2_with fail
  refine (ls_phase H4.out).mono ?_
  rw [a_ph.1, a_ph.2]
  rintro e w5 ⟨rfl, b5⟩
  have H5 := Lib.hid (H4.out.below b5)
  clear H4 b5
  go_wp2_with fail
  refine (ls_heap H5.out).mono ?_
  rintro e _ ⟨rfl, rfl⟩
  go_wp2_with fail
  refine (ls_allH H5.out a_all4).mono ?_
  rintro e w6 ⟨A6, c6, rfl, _, _, _, H6⟩
  replace H6 := Lib.hid H6
  clear H5
  go_wp2_with fail
  refine (ls_put H6.out 1 0 1 true (by omega) (by omega)).mono ?_
  rw [a_5]
  rintro e w7 ⟨rfl, H7⟩
  replace H7 := Lib.hid H7
  clear H6
  go_wp2_with fail
  refine (ls_put H7.out 1 5 1 true (by omega) (by omega)).mono ?_
  rw [a_6]
  rintro e w8 ⟨rfl, H8⟩
  have b8 := Lib.hid H8.b
  clear H7 H8
  go_wp2_with fail
  go_ret
  exact ⟨rfl, b8.out⟩
end Go.Proofs.YtcaboknbdamlhaaGreatDoor
