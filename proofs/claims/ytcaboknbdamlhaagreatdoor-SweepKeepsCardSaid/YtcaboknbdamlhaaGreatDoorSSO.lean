/- Joined: SweepHelp, SweepPlain, SweepOff, HeapOpen, SweepOpen. -/
import Derived.Test.YtcaboknbdamlhaaGreatDoorSSR
import Derived.Test.YtcaboknbdamlhaaGreatDoorSSA
import Derived.Test.YtcaboknbdamlhaaGreatDoorSSD
import Derived.Test.YtcaboknbdamlhaaGreatDoorSSP
import Derived.Test.YtcaboknbdamlhaaGreatDoorOpenRd
import Derived.Test.YtcaboknbdamlhaaGreatDoorMMA
import Derived.Laws.IdiomArrays
set_option linter.unusedVariables false
set_option linter.unusedSimpArgs false
namespace Go.Proofs.YtcaboknbdamlhaaGreatDoor
open Go.RowKit Go.Shelf
structure SAct where
  kind : Int
  a : Int
  b : Int
  k : Int
  rv : Option Addr × Nat × Nat
  rl : List Int
  x : Int
def sactC (x : SAct) : List Value := [.int .u8 x.kind, .int .u8 x.a, .int .u8 x.b, .int .u8 x.k, slE x.rv, .int .i64 x.x]
structure SActOk (w : World) (x : SAct) : Prop where
  bd : ABd x.kind x.a x.b x.k x.x
  rd : Rd u8e w (slE x.rv) x.rl
  rb : ∀ n ∈ x.rl, 0 ≤ n ∧ n ≤ 255
theorem SActOk.below {w w' : World} {x : SAct} (h : SActOk w x) (hb : Below w.heap.size w w') : SActOk w' x := ⟨h.bd, h.rd.below hb, h.rb⟩
def sHeavy (l : List SAct) : Bool := l.any (fun x => decide (20 < x.rl.length)) || decide (120 < l.length)
set_option maxHeartbeats 3200000 in
set_option maxRecDepth 100000 in
theorem sheavy_w (v : Value) (l : List SAct) (w : World) (hv : RdC 6 sactC w v l) (hok : ∀ x ∈ l, SActOk w x) :
    Calls Tryz.prog 11 #[v] w fun e w' => e = .returned (.bool (sHeavy l)) ∧ Below w.heap.size w w' := by
  obtain ⟨A, c, rfl, hlc, hcm, -⟩ := hv.len
  have hl9 : (l.length : Int) ≤ 9223372036854775807 := by unfold maxLen at hcm; omega
  have HV := Lib.hid hv
  have HO := Lib.hid hok
  clear hv hok
  obtain ⟨r, hr⟩ : ∃ r, sHeavy l = r := ⟨_, rfl⟩
  rw [hr]
  replace hr := Lib.hid hr
  go_enter Tryz.func11, Tryz.ntmps11
  go_wp2_with fail
  go_loopw [7] (fun i wr => ∃ j : Nat, j ≤ l.length ∧ i = .int .i64 j ∧ Hid ((l.take j).any (fun x => decide (20 < x.rl.length)) = false) ∧ Below w.heap.size w wr) (fun i _ => l.length - (intOf i).toNat)
  case atStart => exact ⟨0, by omega, rfl, Lib.hid rfl, Below.refl _ _⟩
  case round =>
    obtain ⟨j, hj, rfl, hno, hb⟩ := hrel
    by_cases hlt : j < l.length
    · have t0 : (j : Int) < (l.length : Int) := by omega
      obtain ⟨b, o, rfl, _, hc⟩ := (HV.out.below hb).at_ hlt
      obtain ⟨x, hx⟩ : ∃ x, l[j] = x := ⟨_, rfl⟩
      have hxo := HO.out _ (List.getElem_mem hlt)
      have htk : (l.take (j + 1)).any (fun x => decide (20 < x.rl.length)) = ((l.take j).any (fun x => decide (20 < x.rl.length)) || decide (20 < x.rl.length)) := by
        rw [List.take_add_one, List.getElem?_eq_getElem hlt, List.any_append, hx]
        simp
      have hin : decide (20 < x.rl.length) = true → sHeavy l = true := fun h => by
        unfold sHeavy
        rw [Bool.or_eq_true]
        exact .inl (List.any_eq_true.2 ⟨x, hx ▸ List.getElem_mem hlt, h⟩)
      rw [hx] at hc hxo
      obtain ⟨kind, xa, xb, xk, rv, rl, xx⟩ := x
      have c0 : wr.cell? ⟨b, o + j * 6, none⟩ = some (.int .u8 kind) := hc 0 _ rfl
      have c1 : wr.cell? ⟨b, o + j * 6 + 1, none⟩ = some (.int .u8 xa) := hc 1 _ rfl
      have c2 : wr.cell? ⟨b, o + j * 6 + 2, none⟩ = some (.int .u8 xb) := hc 2 _ rfl
      have c3 : wr.cell? ⟨b, o + j * 6 + 3, none⟩ = some (.int .u8 xk) := hc 3 _ rfl
      have c4 := hc 4 _ rfl
      obtain ⟨Ar, cr, hrv, -⟩ := hxo.rd.len
      dsimp only at hrv c4
      rw [hrv] at c4
      have c5 : wr.cell? ⟨b, o + j * 6 + 5, none⟩ = some (.int .i64 xx) := hc 5 _ rfl
      replace c4 : wr.cell? ⟨b, o + j * 6 + 4, none⟩ = some (.slice Ar rl.length cr) := c4
      dsimp only at htk hin
      replace htk := Lib.hid htk
      replace hin := Lib.hid hin
      replace hxo := Lib.hid hxo
      replace hrv := Lib.hid hrv
      clear hc hx
      go_wp2_with (first
        | (refine wpList_new rfl (.alloc 30) rfl wr.heap.size rfl 30 #[.int .u8 0, .int .u8 0, .int .u8 0, .int .u8 0, .slice none 0 0, .int .i64 0] (by kernel_rfl) ?_; intro w1 hs1 hb1 hB1; have HB1 := Lib.hid hB1; clear hB1)
        | (refine wpList_store_blk rfl 30 (.tmp 4) (.tmp 10) rfl wr.heap.size rfl #[.int .u8 kind, .int .u8 xa, .int .u8 xb, .int .u8 xk, .slice Ar rl.length cr, .int .i64 xx] rfl 30 #[.int .u8 0, .int .u8 0, .int .u8 0, .int .u8 0, .slice none 0 0, .int .i64 0] HB1.out sact_size rfl (by simp [Value.oneCell']) ?_; intro w2 hB2 hg2 hs2; refine stop_here ?_))
      have hb2 : Below wr.heap.size wr w2 := hb1.grown hg2 hb1.size (fun k hk => by cases hk; exact Nat.le_refl _)
      have v4 : w2.cell? ⟨wr.heap.size, 4, none⟩ = some (.slice Ar rl.length cr) := hB2.cell 4
      have b2 := hb.trans (hb2.mono hb.size)
      clear HB1 hB2 hg2 hs2 hs1 hb1 hb2 hb c0 c1 c2 c3 c4 c5
      refine go_on ?_
      by_cases h20 : 20 < rl.length
      · have t1 : (20 : Int) < (rl.length : Int) := by omega
        have hrt := hr.out.symm.trans (hin.out (by simpa using h20))
        subst hrt
        go_wp2_with fail
        go_ret
        exact ⟨rfl, b2⟩
      · have t1 : decide ((20 : Int) < (rl.length : Int)) = false := by rw [decide_eq_false_iff_not]; omega
        have hno' : Hid ((l.take (j + 1)).any (fun x => decide (20 < x.rl.length)) = false) := Lib.hid (by rw [htk.out, hno.out, Bool.false_or, decide_eq_false_iff_not]; exact h20)
        clear hno
        go_wp2_with fail
        go_roundw
        case rel => exact ⟨j + 1, by omega, by go_num, hno', b2⟩
        case measure => simp [intOf]; omega
    · obtain rfl : j = l.length := by omega
      have hfin : r = decide (120 < l.length) := by
        rw [← hr.out]
        have := hno.out
        rw [List.take_length] at this
        unfold sHeavy
        rw [this, Bool.false_or]
      have e : decide ((120 : Int) < (l.length : Int)) = decide (120 < l.length) := by rw [decide_eq_decide]; omega
      rw [← e] at hfin
      replace hfin := Lib.hid hfin
      clear hno e
      go_wp2_with fail
      go_ret
      exact ⟨ret_bool hfin.out.symm, hb⟩
section
variable {w0 : W0} {w w' w1 : World} {q s h m : Nat} {T T' : SS} {D D' : DS}
set_option maxHeartbeats 3200000 in
set_option maxRecDepth 100000 in
theorem lx_roots (H : LX w0 w q s h m T D) (v : Value) (l : List Int) (hv : Rd u8e w v l) (hl : l.length ≤ 20) (hbd : ∀ x ∈ l, 0 ≤ x ∧ x ≤ 255) :
    Calls Tryz.prog 15 #[.pointer (some ⟨q, 0, none⟩), v] w fun e w' => ∃ va, e = .returned va ∧ w'.ownsRow w.heap.size 3 1 va l.length ((l.map (objN T.S)).map i64e) ∧ Below w.heap.size w w' := by
  obtain ⟨A, c, rfl, -⟩ := hv.len
  have HBd := Lib.hid hbd
  have HV := Lib.hid hv
  replace H := Lib.hid H
  clear hbd hv
  go_enter Tryz.func15, Tryz.ntmps15
  go_wp2_with fail
  go_loopw [5, 10] (fun va i wr => ∃ j : Nat, j ≤ l.length ∧ i = .int .i64 j ∧ Hid (wr.ownsRow w.heap.size 3 1 va j (((l.take j).map (objN T.S)).map i64e)) ∧ Below w.heap.size w wr) (fun _ i _ => l.length - (intOf i).toNat)
  case atStart => exact ⟨0, by omega, rfl, Lib.hid (World.ownsRow_nil _ _ _ _), Below.refl _ _⟩
  case round =>
    obtain ⟨j, hj, rfl, ha, hbw⟩ := hrel
    obtain ⟨Aa, ca, rfl, -⟩ := own_form ha.out
    by_cases hlt : j < l.length
    · have t0 : (j : Int) < (l.length : Int) := by omega
      obtain ⟨b, o, rfl, _, hc⟩ := (HV.out.below hbw).at_ hlt
      have hxb := HBd.out _ (List.getElem_mem hlt)
      obtain ⟨x, hx⟩ : ∃ x, l[j] = x := ⟨_, rfl⟩
      have sa : ((l.take j).map (objN T.S)).map i64e ++ [.int .i64 (objN T.S x)] = ((l.take (j + 1)).map (objN T.S)).map i64e := by
        rw [map_take_snoc (objN T.S) l hlt, List.map_append, hx]; rfl
      rw [hx] at hc hxb
      replace hc : wr.cell? ⟨b, o + j, none⟩ = some (.int .u8 x) := hc
      have hP := Lib.hid (lx_object (H.out.below hbw) x hxb)
      have hz := hbw.size
      obtain ⟨y, hy⟩ : ∃ y, objN T.S x = y := ⟨_, rfl⟩
      rw [hy] at hP sa
      replace sa := Lib.hid sa
      replace hy := Lib.hid hy
      clear hx
      go_wp2_with fail
      refine hP.out.mono ?_
      rintro e w1 ⟨rfl, b1⟩
      have ha1 := own_below ha.out b1
      have hbw1 := hbw.trans (b1.mono hz)
      have hz1 := hbw1.size
      clear hP hc ha
      go_wp2_with (at_builtin; refine wpList_push rfl (.tmp 14) (.tmp 18) _ rfl w.heap.size 3 _ 8 Tryz.underlying36 int_info rfl (.slice Aa j ca) _ _ rfl ha1 _ rfl rfl (by unfold maxLen; omega) (by omega) hz1 ?_; intro v2 w2 ho2 hg2 hat2; refine stop_here ?_)
      rw [sa.out] at ho2
      have hbw2 := hbw1.grown hg2 hz1 (fun g e => (ha1.lt g e).1)
      replace ho2 := Lib.hid ho2
      clear ha1 hg2 hat2 b1 hbw1
      refine go_on ?_
      go_wp2_with fail
      go_roundw
      case rel => exact ⟨j + 1, by omega, by go_num, ho2, hbw2⟩
      case measure => simp [intOf]; omega
    · obtain rfl : j = l.length := by omega
      have ha2 := ha.out
      rw [List.take_length] at ha2
      replace ha2 := Lib.hid ha2
      clear ha
      go_wp2_with fail
      go_ret
      exact ⟨_, rfl, ha2.out, hbw⟩
end
end Go.Proofs.YtcaboknbdamlhaaGreatDoor
namespace Go.Proofs.YtcaboknbdamlhaaGreatDoor
/-- Nothing, or an object. -/
def Good (S : HS) (x : Int) : Prop := x = 0 ∨ mIs S x = true
def fldA (S : HS) (p : Int) (f : Nat) : Int := S.words.getD (p.toNat + f) 0
/-- All objects have two fields, which are pointers to objects. -/
structure Clo (S : HS) : Prop where
  obj : ∀ o ∈ S.objs, o.2 = (2, 3)
  fld : ∀ o ∈ S.objs, ∀ f : Nat, f < 2 → Good S (fldA S o.1 f)
section
variable {S S' : HS}
theorem mis_mem (I : Inv0 S) (p : Int) : mIs S p = true ↔ ∃ o ∈ S.objs, o.1 = p := by
  unfold mIs
  rcases I.size_cases p with ⟨e, h⟩ | ⟨o, ho, rfl, e⟩
  · rw [e]
    exact ⟨fun h => (by cases h), fun ⟨o, ho, e⟩ => absurd e (h o ho)⟩
  · rw [e]
    exact ⟨fun _ => ⟨o, ho, rfl⟩, fun _ => rfl⟩
theorem mis_all (I : Inv0 S) (p : Int) : mIs S p = true ↔ p ∈ sAll S := by
  rw [mis_mem I]
  unfold sAll
  rw [List.mem_map]
theorem good_mono (I : Inv0 S) (I' : Inv0 S') (h : ∀ o ∈ S.objs, o ∈ S'.objs) {x : Int} (hg : Good S x) : Good S' x := hg.imp id fun h1 => by
  obtain ⟨o, ho, e⟩ := (mis_mem I x).1 h1
  exact (mis_mem I' x).2 ⟨o, h o ho, e⟩
theorem mis_pos (I : Inv0 S) {p : Int} (h : mIs S p = true) : 1 ≤ p ∧ p ≤ 4096 := mis_bd I h
theorem good_bd (I : Inv0 S) {x : Int} (h : Good S x) : 0 ≤ x ∧ x ≤ 4096 := by
  rcases h with rfl | h
  · omega
  · have := mis_pos I h; omega
theorem all_nodup (I : Inv0 S) : (sAll S).Nodup := by
  unfold sAll List.Nodup
  rw [List.pairwise_map]
  exact I.os.imp fun h e => by omega
theorem Clo.size (C : Clo S) (I : Inv0 S) {p : Int} (h : mIs S p = true) : sSize S p = (2, 3, true) := by
  obtain ⟨o, ho, rfl⟩ := (mis_mem I p).1 h
  rw [I.size ho, C.obj o ho]
theorem Clo.there (C : Clo S) (I : Inv0 S) {p : Int} (h : mIs S p = true) {f : Int} (h0 : 0 ≤ f) (h2 : f < 2) : sThere S p f = 0 := by
  unfold sThere
  rw [C.size I h, if_neg]
  simp
  omega
theorem Clo.load (C : Clo S) (I : Inv0 S) {p : Int} (h : mIs S p = true) {f : Nat} (h2 : f < 2) : sLoad S p f = (fldA S p f, 0) := by
  unfold sLoad
  rw [C.there I h (by omega) (by omega), if_pos rfl]
  have := mis_pos I h
  unfold fldA
  rw [show (p + (f : Int)).toNat = p.toNat + f by omega]
theorem Clo.good (C : Clo S) (I : Inv0 S) {p : Int} (h : mIs S p = true) {f : Nat} (h2 : f < 2) : Good S (fldA S p f) := by
  obtain ⟨o, ho, rfl⟩ := (mis_mem I p).1 h
  exact C.fld o ho f h2
theorem objN_good (I : Inv0 S) (n : Int) : Good S (objN S n) := by
  unfold objN
  split
  · exact .inl rfl
  · rw [List.getD_eq_getElem?_getD]
    cases hg : (sAll S)[(n % (((sAll S).length : Int) + 1) - 1).toNat]? with
    | none => exact .inl rfl
    | some x => exact .inr ((mis_all I x).2 (List.mem_of_getElem? hg))
theorem new_clo (N : Nat) : Clo (sNew N) := ⟨fun o ho => (by cases ho), fun o ho => (by cases ho)⟩
theorem alloc_clo (I : Inv S) (C : Clo S) {p : Int} (A : Alloced S S' 2 3 0 p) : Clo S' := by
  have hm : ∀ o, o ∈ S'.objs ↔ o = (p, 2, 3) ∨ o ∈ S.objs := fun o => by rw [A.objs, ins_mem]
  have hw : ∀ i, S'.words.getD i 0 = 0 ∨ S'.words.getD i 0 = S.words.getD i 0 := fun i => by
    rw [A.words, fillW_get]
    split
    · exact .inl rfl
    · exact .inr rfl
  refine ⟨fun o ho => ?_, fun o ho f hf => ?_⟩
  · rcases (hm o).1 ho with rfl | h
    · rfl
    · exact C.obj o h
  · unfold fldA
    rcases (hm o).1 ho with rfl | h
    · left
      rw [A.words, fillW_get]
      have hk : (wordsOf (classOf 2)).toNat = 2 := by decide
      rw [hk]
      by_cases hlt : p.toNat + f < S.words.length
      · rw [if_pos ⟨by omega, by show p.toNat + f < p.toNat + 2; omega, hlt⟩]
      · rw [if_neg (fun h => hlt h.2.2)]
        simp [List.getD, List.getElem?_eq_none (Nat.le_of_not_lt hlt)]
    · rcases hw (o.1.toNat + f) with e | e
      · exact .inl e
      · rw [e]
        exact good_mono I.toInv0 A.inv.toInv0 (fun o ho => (hm o).2 (.inr ho)) (C.fld o h f hf)
theorem store_clo (I : Inv S) (C : Clo S) (p f : Int) {x : Int} (hg : Good S x) : Clo (sStore S p f x) := by
  have hb := good_bd I.toInv0 hg
  have I' := store_inv I p f (x := x) (by omega)
  have ho := store_objs S p f x
  have gm : ∀ {y : Int}, Good S y → Good (sStore S p f x) y := fun h => good_mono I.toInv0 I'.toInv0 (fun o h => by rw [ho]; exact h) h
  refine ⟨fun o h => C.obj o (by rw [← ho]; exact h), fun o h k hk => ?_⟩
  rw [ho] at h
  have hold := C.fld o h k hk
  by_cases h0 : sThere S p f = 0
  · have hw : fldA (sStore S p f x) o.1 k = (S.words.set (p + f).toNat x).getD (o.1.toNat + k) 0 := by
      unfold fldA sStore
      rw [if_pos h0]
    rw [hw]
    by_cases e : (p + f).toNat = o.1.toNat + k
    · by_cases hl : o.1.toNat + k < S.words.length
      · rw [e]
        simp only [List.getD, List.getElem?_set_self hl, Option.getD_some]
        exact gm hg
      · left
        simp [List.getD, List.getElem?_eq_none (show (S.words.set (p + f).toNat x).length ≤ o.1.toNat + k by rw [List.length_set]; omega)]
    · simp only [List.getD, List.getElem?_set_ne e]
      exact gm hold
  · have hw : sStore S p f x = S := by
      unfold sStore
      rw [if_neg h0]
    rw [hw]
    exact hold
end
/-- A store that is off, and the document's beside. -/
structure OffX (T : SS) (D : DS) : Prop where
  ph : T.ph = 0
  on : T.K.on = false
  lf : T.left = []
  cy : T.cyc = 0
  dph : D.ph = 0
  dg : D.greys = []
  db : D.black = []
  S : D.S = T.S
  clo : Clo T.S
section
variable {T : SS} {D : DS}
theorem off_new (N : Nat) : OffX (q0 N) (u0 N) := ⟨rfl, rfl, rfl, rfl, rfl, rfl, rfl, rfl, new_clo N⟩
theorem OffX.dlen (H : OffX T D) : DLen D := ⟨by rw [H.dg]; simp, by rw [H.db]; simp⟩
theorem OffX.sok (H : OffX T D) : SOk T := ⟨.inl H.ph, by rw [H.cy]; omega, by rw [H.lf]; simp, by rw [H.lf]; simp⟩
theorem off_known (H : OffX T D) (S : HS) (p : Int) : mKnown S T.K p = (false, 0) := by unfold mKnown; rw [if_pos (.inl H.on)]
theorem off_made (H : OffX T D) (S : HS) (p : Int) : mMade S T.K p = T.K := by unfold mMade; rw [off_known H, if_neg (by simp)]
theorem off_shade (H : OffX T D) (S : HS) (p : Int) : mShade S T.K p = T.K := by unfold mShade; rw [off_known H, if_neg (by simp)]
theorem off_alloc (H : OffX T D) (I : Inv T.S) : OffX (qAlloc T 2 3 0).1 (uAlloc D 2 3 0).1 := by
  unfold qAlloc uAlloc
  rw [H.S]
  rcases alloc2 I with ⟨S', p, e, A, _⟩ | ⟨e, _⟩
  · rw [e, if_pos rfl, if_neg (by simp)]
    refine ⟨H.ph, ?_, H.lf, H.cy, H.dph, H.dg, ?_, rfl, alloc_clo I H.clo A⟩
    · show (mMade S' T.K p).on = false
      rw [off_made H]
      exact H.on
    · show (if D.ph = 1 then _ else D.black) = []
      rw [if_neg (by rw [H.dph]; omega), H.db]
  · rw [e, if_neg (by simp), if_pos (by simp)]
    exact ⟨H.ph, H.on, H.lf, H.cy, H.dph, H.dg, H.db, H.S, H.clo⟩
theorem off_put (H : OffX T D) (I : Inv T.S) (p f to : Int) (hg : Good T.S to) : OffX (qPut T p f to true).1 (uPut D p f to).1 := by
  have hsh : uSh D (sLoad T.S p f).1 = (D, 0) := by unfold uSh; rw [if_pos (.inl (by rw [H.dph]; omega))]
  have hc : (to ≠ 0 ∧ (sSize T.S to).2.2 = false) ↔ ¬ (to = 0 ∨ (sSize T.S to).2.2 = true) := by
    constructor
    · rintro ⟨h1, h2⟩ h
      rcases h with h | h
      · exact h1 h
      · rw [h2] at h; cases h
    · intro h
      exact ⟨fun e => h (.inl e), by cases e : (sSize T.S to).2.2 with | false => rfl | true => exact absurd (.inr e) h⟩
  by_cases h1 : (sLoad T.S p f).2 = 0
  · by_cases h2 : to ≠ 0 ∧ (sSize T.S to).2.2 = false
    · have e1 : qPut T p f to true = (T, 11) := by unfold qPut; rw [if_neg (by omega), if_pos h2]
      have e2 : uPut D p f to = (D, 11) := by unfold uPut; rw [H.S, if_pos (.inr (hc.1 h2))]
      rw [e1, e2]
      exact H
    · have h2' : ¬ ((sLoad T.S p f).2 ≠ 0 ∨ ¬ (to = 0 ∨ (sSize T.S to).2.2 = true)) := fun h => h.elim (fun h => h h1) fun h => h2 (hc.2 h)
      by_cases h3 : mBit (sSize T.S p).2.1 f.toNat = false
      · have e1 : qPut T p f to true = (T, 2) := by unfold qPut; rw [if_neg (by omega), if_neg h2, if_pos h3]
        have e2 : uPut D p f to = (D, 2) := by unfold uPut; rw [H.S, if_neg h2', if_pos h3]
        rw [e1, e2]
        exact H
      · have e1 : qPut T p f to true = ({ qShade T (sLoad T.S p f).1 with S := sStore T.S p f to }, 0) := by unfold qPut; rw [if_neg (by omega), if_neg h2, if_neg h3, if_neg (by simp), if_neg (by rw [off_known H]; simp)]
        have e2 : uPut D p f to = ({ D with S := sStore T.S p f to }, 0) := by unfold uPut; rw [H.S, if_neg h2', if_neg h3, hsh, if_neg (by simp)]; dsimp only; rw [H.S]
        rw [e1, e2]
        refine ⟨H.ph, ?_, H.lf, H.cy, H.dph, H.dg, H.db, rfl, store_clo I H.clo p f hg⟩
        show (mShade T.S T.K _).on = false
        rw [off_shade H]
        exact H.on
  · have e1 : qPut T p f to true = (T, (sLoad T.S p f).2) := by unfold qPut; rw [if_pos h1]
    have e2 : uPut D p f to = (D, 11) := by unfold uPut; rw [H.S, if_pos (.inl h1)]
    rw [e1, e2]
    exact H
theorem off_sh (H : OffX T D) (p : Int) : OffX (qShade T p) (uSh D p).1 := by
  have hsh : uSh D p = (D, 0) := by unfold uSh; rw [if_pos (.inl (by rw [H.dph]; omega))]
  rw [hsh]
  refine ⟨H.ph, ?_, H.lf, H.cy, H.dph, H.dg, H.db, H.S, H.clo⟩
  show (mShade T.S T.K p).on = false
  rw [off_shade H]
  exact H.on
theorem off_step (H : OffX T D) (x : Int) : qStep T x = (T, 0) := by unfold qStep; rw [if_neg (by rw [H.ph]; omega), if_neg (by rw [H.ph]; omega)]
end
/-! Marking. -/
def uns (S : HS) (K : MK) : Nat := (keepP K.seen (sAll S)).length
structure MI (S : HS) (K : MK) : Prop where
  on : K.on = true
  obj : ∀ p, K.seen p = true → mIs S p = true
  sn : ∀ p ∈ K.greys, K.seen p = true
section
variable {S : HS} {K : MK}
theorem mi_start : MI S mStart := ⟨rfl, fun p h => (by cases h), fun p h => (by cases h)⟩
theorem known_good (M : MI S K) {p : Int} (hg : Good S p) : mKnown S K p = (decide (p ≠ 0), 0) := by
  unfold mKnown
  by_cases h0 : p = 0
  · rw [if_pos (.inr h0)]; simp [h0]
  · rw [if_neg (fun h => h.elim (fun h => by rw [M.on] at h; cases h) h0), if_pos (hg.resolve_left h0)]; simp [h0]
theorem keep_see (l : List Int) (hn : l.Nodup) (sn : Int → Bool) (p : Int) (hp : p ∈ l) (hs : sn p = false) : (keepP (fun x => x == p || sn x) l).length + 1 = (keepP sn l).length := by
  induction l with
  | nil => cases hp
  | cons x l ih =>
    rw [List.nodup_cons] at hn
    unfold keepP at *
    by_cases e : x = p
    · subst e
      have e1 : l.filter (fun y => !(y == x || sn y)) = l.filter (fun y => !sn y) := List.filter_congr fun y hy => by
        have : (y == x) = false := beq_eq_false_iff_ne.2 fun e => hn.1 (e ▸ hy)
        rw [this, Bool.false_or]
      rw [List.filter_cons_of_neg (by simp), List.filter_cons_of_pos (by simp [hs]), e1]
      rfl
    · have hp' : p ∈ l := (List.mem_cons.1 hp).resolve_left fun h => e h.symm
      have ih' : (l.filter fun y => !(y == p || sn y)).length + 1 = (l.filter fun y => !sn y).length := ih hn.2 hp'
      by_cases hx : sn x = true
      · rw [List.filter_cons_of_neg (by simp [hx]), List.filter_cons_of_neg (by simp [hx])]
        exact ih'
      · rw [List.filter_cons_of_pos (by simp [hx, e]), List.filter_cons_of_pos (by simp [hx])]
        simp only [List.length_cons]
        omega
theorem mi_shade (I : Inv0 S) (M : MI S K) {p : Int} (hg : Good S p) : MI S (mShade S K p) ∧ uns S (mShade S K p) + (mShade S K p).greys.length = uns S K + K.greys.length ∧ (p ≠ 0 → (mShade S K p).seen p = true) ∧ (∀ x, K.seen x = true → (mShade S K p).seen x = true) ∧ (∀ x, (mShade S K p).seen x = true → K.seen x = true ∨ x = p) ∧ (∀ x ∈ K.greys, x ∈ (mShade S K p).greys) ∧ (∀ x, (mShade S K p).seen x = true → K.seen x = true ∨ x ∈ (mShade S K p).greys) := by
  unfold mShade
  rw [known_good M hg]
  by_cases h : decide (p ≠ 0) = true ∧ K.seen p = false
  · rw [if_pos h]
    have h0 : p ≠ 0 := of_decide_eq_true h.1
    have ho := hg.resolve_left h0
    refine ⟨⟨M.on, fun x hx => ?_, fun x hx => ?_⟩, ?_, fun _ => ?_, fun x hx => ?_, fun x hx => ?_, fun x hx => ?_, fun x hx => ?_⟩
    · have hx : (x == p || K.seen x) = true := hx
      rw [Bool.or_eq_true, beq_iff_eq] at hx
      exact hx.elim (fun e => e ▸ ho) (M.obj x)
    · have hx : x ∈ K.greys ++ [p] := hx
      rw [List.mem_append, List.mem_singleton] at hx
      show (x == p || K.seen x) = true
      rw [Bool.or_eq_true, beq_iff_eq]
      exact hx.elim (fun h => .inr (M.sn x h)) .inl
    · have := keep_see (sAll S) (all_nodup I) K.seen p ((mis_all I p).1 ho) h.2
      show (keepP (fun x => x == p || K.seen x) (sAll S)).length + (K.greys ++ [p]).length = (keepP K.seen (sAll S)).length + K.greys.length
      rw [List.length_append]
      simp only [List.length_cons, List.length_nil]
      omega
    · show (p == p || K.seen p) = true
      simp
    · show (x == p || K.seen x) = true
      simp [hx]
    · have hx : (x == p || K.seen x) = true := hx
      rw [Bool.or_eq_true, beq_iff_eq] at hx
      exact hx.symm
    · exact List.mem_append_left _ hx
    · have hx : (x == p || K.seen x) = true := hx
      rw [Bool.or_eq_true, beq_iff_eq] at hx
      rcases hx with rfl | hx
      · exact .inr (List.mem_append_right _ (by simp))
      · exact .inl hx
  · rw [if_neg h]
    refine ⟨M, rfl, fun h0 => ?_, fun x hx => hx, fun x hx => .inl hx, fun x hx => hx, fun x hx => .inl hx⟩
    cases hs : K.seen p with
    | true => rfl
    | false => exact absurd ⟨decide_eq_true h0, hs⟩ h
/-- The first grey one is looked through. -/
def nextK (S : HS) (K : MK) (p : Int) (gs : List Int) : MK := mShade S (mShade S { K with greys := gs } (fldA S p 0)) (fldA S p 1)
theorem mi_step (I : Inv0 S) (C : Clo S) (M : MI S K) {p : Int} {gs : List Int} (hg : K.greys = p :: gs) :
    mStep S K = ((true, 0), nextK S K p gs) ∧ MI S (nextK S K p gs) ∧ uns S (nextK S K p gs) + (nextK S K p gs).greys.length + 1 = uns S K + K.greys.length := by
  have hp : mIs S p = true := M.obj p (M.sn p (by rw [hg]; simp))
  have M0 : MI S { K with greys := gs } := ⟨M.on, M.obj, fun x hx => M.sn x (by rw [hg]; exact List.mem_cons_of_mem _ hx)⟩
  have g0 := C.good I hp (f := 0) (by omega)
  have g1 := C.good I hp (f := 1) (by omega)
  obtain ⟨M1, u1, _⟩ := mi_shade I M0 g0
  obtain ⟨M2, u2, _⟩ := mi_shade I M1 g1
  have l0 := C.load I hp (f := 0) (by omega)
  have l1 := C.load I hp (f := 1) (by omega)
  have b0 : mBit 3 0 = true := by decide
  have b1 : mBit 3 1 = true := by decide
  have s1 : mScan S p 3 { K with greys := gs } 1 = (mShade S { K with greys := gs } (fldA S p 0), 0) := by
    show (if (mScan S p 3 { K with greys := gs } 0).2 ≠ 0 ∨ mBit 3 0 = false then _ else _) = _
    rw [if_neg (by rw [b0]; simp [mScan])]
    show (mShade S { K with greys := gs } (sLoad S p ((0 : Nat) : Int)).1, (mKnown S { K with greys := gs } (sLoad S p ((0 : Nat) : Int)).1).2) = _
    rw [l0, known_good M0 g0]
  have s2 : mScan S p 3 { K with greys := gs } 2 = (nextK S K p gs, 0) := by
    show (if (mScan S p 3 { K with greys := gs } 1).2 ≠ 0 ∨ mBit 3 1 = false then _ else _) = _
    rw [s1, if_neg (by rw [b1]; simp)]
    show (mShade S (mShade S { K with greys := gs } (fldA S p 0)) (sLoad S p ((1 : Nat) : Int)).1, (mKnown S (mShade S { K with greys := gs } (fldA S p 0)) (sLoad S p ((1 : Nat) : Int)).1).2) = _
    rw [l1, known_good M1 g1]
    rfl
  refine ⟨?_, M2, ?_⟩
  · unfold mStep
    rw [if_neg (by rw [M.on]; simp), hg]
    dsimp only
    rw [C.size I hp]
    dsimp only
    rw [show (2 : Int).toNat = 2 from rfl, s2, if_pos rfl]
  · show uns S (mShade S (mShade S { K with greys := gs } (fldA S p 0)) (fldA S p 1)) + (mShade S (mShade S { K with greys := gs } (fldA S p 0)) (fldA S p 1)).greys.length + 1 = _
    rw [u2, u1, hg]
    show uns S K + gs.length + 1 = uns S K + (p :: gs).length
    simp only [List.length_cons]
    omega
theorem mi_end (M : MI S K) (hg : K.greys = []) : mStep S K = ((false, 0), K) := by
  unfold mStep
  rw [if_neg (by rw [M.on]; simp), hg]
theorem fold_shade (I : Inv0 S) : ∀ (l : List Int) (K : MK), MI S K → (∀ x ∈ l, Good S x) → MI S (l.foldl (mShade S) K) ∧ uns S (l.foldl (mShade S) K) + (l.foldl (mShade S) K).greys.length = uns S K + K.greys.length
  | [], K, M, _ => ⟨M, rfl⟩
  | x :: l, K, M, h => by
    obtain ⟨M1, u1, _⟩ := mi_shade I M (h x (by simp))
    obtain ⟨M2, u2⟩ := fold_shade I l _ M1 fun y hy => h y (List.mem_cons_of_mem _ hy)
    exact ⟨M2, u2.trans u1⟩
theorem begin_good (I : Inv0 S) (K : MK) (ho : K.on = false) (l : List Int) (h : ∀ x ∈ l, Good S x) : mBegin S K l = (l.foldl (mShade S) mStart, 0) := by
  unfold mBegin
  rw [if_neg (by rw [ho]; simp), if_neg]
  rw [List.any_eq_true]
  rintro ⟨x, hx, hb⟩
  unfold mBad at hb
  rw [Bool.and_eq_true, bne_iff_ne, Bool.not_eq_true'] at hb
  exact (h x hx).elim hb.1 fun h => by rw [h] at hb; cases hb.2
theorem uns_start (I : Inv0 S) : uns S mStart = (sAll S).length := by
  unfold uns keepP
  rw [List.filter_eq_self.2]
  intro x _
  rfl
end
/-- A store within a cycle: marking (at most so many steps to go), or sweeping. -/
inductive Cyc (T : SS) : Nat → Prop
  | mark (ph : T.ph = 1) (clo : Clo T.S) (M : MI T.S T.K) : Cyc T (uns T.S T.K + T.K.greys.length + (sAll T.S).length + 2)
  | sweep (ph : T.ph = 2) (on : T.K.on = false) (nd : T.left.Nodup) (lo : ∀ x ∈ T.left, mIs T.S x = true) : Cyc T (T.left.length + 1)
theorem cyc_len {T : SS} (I : Inv0 T.S) (nd : T.left.Nodup) (lo : ∀ x ∈ T.left, mIs T.S x = true) : T.left.length ≤ (sAll T.S).length := by
  have h : ∀ (l k : List Int), l.Nodup → (∀ x ∈ l, x ∈ k) → l.length ≤ k.length := by
    intro l
    induction l with
    | nil => intro k _ _; simp
    | cons x l ih =>
      intro k hn hs
      rw [List.nodup_cons] at hn
      have hx : x ∈ k := hs x (by simp)
      have := ih (k.erase x) hn.2 fun y hy => (List.mem_erase_of_ne (fun e => hn.1 (by rw [← e]; exact hy))).2 (hs y (List.mem_cons_of_mem _ hy))
      rw [List.length_erase_of_mem hx] at this
      have := List.length_pos_of_mem hx
      simp only [List.length_cons]
      omega
  exact h _ _ nd fun x hx => (mis_all I x).1 (lo x hx)
theorem cyc_sok {T : SS} {n : Nat} (I : Inv0 T.S) (hc : 0 ≤ T.cyc ∧ T.cyc < 1000000) (hl : T.ph = 1 → T.left = []) (C : Cyc T n) : SOk T := by
  cases C with
  | mark ph clo M => exact ⟨.inr (.inl ⟨ph, M.on⟩), hc, by rw [hl ph]; simp, by rw [hl ph]; simp⟩
  | sweep ph on nd lo =>
    have := cyc_len I nd lo
    have h2 := I.objs_len
    rw [all_len] at this
    exact ⟨.inr (.inr ph), hc, fun x hx => by have := mis_pos I (lo x hx); omega, by omega⟩
theorem mis_free {S : HS} (I : Inv S) {p x : Int} (hp : mIs S p = true) (hx : mIs S x = true) (hne : x ≠ p) {junk : Int} (hj : -9223372036854775808 ≤ junk ∧ junk ≤ 9223372036854775807) : mIs (sFree S p junk).1 x = true := by
  obtain ⟨o, ho, rfl⟩ := (mis_mem I.toInv0 p).1 hp
  obtain ⟨o2, ho2, rfl⟩ := (mis_mem I.toInv0 x).1 hx
  have hf := (free_ok I.toInv0 ho junk).2.2
  exact (mis_mem (free_inv I o.1 hj).toInv0 _).2 ⟨o2, by rw [hf, List.mem_filter]; exact ⟨ho2, by simp [hne]⟩, rfl⟩
/-- One step: no error, and one step less to go; or it is off. -/
theorem cyc_step {T : SS} {n : Nat} (I : Inv T.S) (C : Cyc T n) (hl : T.ph = 1 → T.left = []) (junk : Int) (hj : -9223372036854775808 ≤ junk ∧ junk ≤ 9223372036854775807) :
    (qStep T junk).2 = 0 ∧ (((qStep T junk).1.ph = 0 ∧ (qStep T junk).1.K.on = false ∧ (qStep T junk).1.cyc = T.cyc + 1 ∧ n = 1) ∨
      ∃ k, Cyc (qStep T junk).1 k ∧ k + 1 ≤ n ∧ ((qStep T junk).1.ph = 1 → (qStep T junk).1.left = []) ∧ (qStep T junk).1.cyc = T.cyc) := by
  cases C with
  | mark ph clo M =>
    have hq : qStep T junk = qMark T := by unfold qStep; rw [if_pos ph]
    rw [hq]
    rcases hg : T.K.greys with _ | ⟨p, gs⟩
    · have e := mi_end M hg
      have hm : qMark T = ({ T with K := mOff T.K, ph := 2, left := keepP T.K.seen (sAll T.S) }, 0) := by
        unfold qMark
        rw [e, if_neg (by simp)]
      rw [hm]
      refine ⟨rfl, .inr ⟨(keepP T.K.seen (sAll T.S)).length + 1, Cyc.sweep rfl rfl ?_ fun x hx => ?_, ?_, fun h => (by cases h), rfl⟩⟩
      · exact List.Nodup.sublist List.filter_sublist (all_nodup I.toInv0)
      · exact (mis_all I.toInv0 x).2 (List.mem_filter.1 hx).1
      · have : (keepP T.K.seen (sAll T.S)).length ≤ (sAll T.S).length := List.length_filter_le _ _
        show (keepP T.K.seen (sAll T.S)).length + 1 + 1 ≤ uns T.S T.K + ([] : List Int).length + (sAll T.S).length + 2
        omega
    · obtain ⟨e, M', u⟩ := mi_step I.toInv0 clo M hg
      have hm : qMark T = ({ T with K := nextK T.S T.K p gs }, 0) := by
        unfold qMark
        rw [e, if_pos (.inl rfl)]
      rw [hm]
      refine ⟨rfl, .inr ⟨_, Cyc.mark (T := { T with K := nextK T.S T.K p gs }) ph clo M', ?_, hl, rfl⟩⟩
      rw [← hg]
      show uns T.S (nextK T.S T.K p gs) + (nextK T.S T.K p gs).greys.length + (sAll T.S).length + 2 + 1 ≤ _
      omega
  | sweep ph on nd lo =>
    have hq : qStep T junk = qSweep T junk := by unfold qStep; rw [if_neg (by omega), if_pos ph]
    rw [hq]
    obtain ⟨S, K, ph', left, cyc⟩ := T
    dsimp only at *
    rcases left with _ | ⟨x, l⟩
    · exact ⟨rfl, .inl ⟨rfl, on, rfl, rfl⟩⟩
    · rw [List.nodup_cons] at nd
      have hx := lo x (by simp)
      obtain ⟨o, ho, rfl⟩ := (mis_mem I.toInv0 x).1 hx
      have hf := free_ok I.toInv0 ho junk
      refine ⟨hf.1, .inr ⟨l.length + 1, Cyc.sweep ph on nd.2 (fun y hy => mis_free I hx (lo y (List.mem_cons_of_mem _ hy)) (fun e => nd.1 (e ▸ hy)) hj), by simp, fun h => ?_, rfl⟩⟩
      have h : ph' = 1 := h
      omega
theorem cyc_begin {T : SS} (I : Inv0 T.S) (C : Clo T.S) (hp : T.ph = 0) (ho : T.K.on = false) (l : List Int) (h : ∀ x ∈ l, Good T.S x) :
    (qBegin T l).2 = 0 ∧ (qBegin T l).1 = { T with K := l.foldl (mShade T.S) mStart, ph := 1 } ∧ Cyc (qBegin T l).1 (2 * (sAll T.S).length + 2) := by
  have e : qBegin T l = ({ T with K := l.foldl (mShade T.S) mStart, ph := 1 }, 0) := by
    unfold qBegin
    rw [if_neg (by omega), begin_good I T.K ho l h, if_pos rfl]
  rw [e]
  obtain ⟨M, u⟩ := fold_shade I l mStart mi_start h
  refine ⟨rfl, rfl, ?_⟩
  have c := Cyc.mark (T := { T with K := l.foldl (mShade T.S) mStart, ph := 1 }) rfl C M
  have hu := uns_start I
  rw [show uns T.S (l.foldl (mShade T.S) mStart) + (l.foldl (mShade T.S) mStart).greys.length + (sAll T.S).length + 2 = 2 * (sAll T.S).length + 2 from by rw [u, hu]; show (sAll T.S).length + ([] : List Int).length + _ + 2 = _; simp; omega] at c
  exact c
end Go.Proofs.YtcaboknbdamlhaaGreatDoor
namespace Go.Proofs.YtcaboknbdamlhaaGreatDoor
open Go.RowKit Go.Shelf
section
variable {w0 : W0} {w w' w1 : World} {q s h m : Nat} {T T' : SS} {D D' : DS}
theorem LX.callQ {f : FuncId} {args : Array Value} {P : Ending → World → Prop} (H : LX w0 w q s h m T D) (hc : ∀ v0, (∀ k, w0.Q k → v0.Q k) → LS v0 w s h m T → Calls Tryz.prog f args w fun e w' => P e w' ∧ LS v0 w' s h m T') : Calls Tryz.prog f args w fun e w' => P e w' ∧ LX w0 w' q s h m T' D := by
  obtain ⟨X, V, L, fe, hX, hq, hqt, xv, B⟩ := H
  refine (hc (w0.add X w) (fun k hk => Or.inl hk) L).mono ?_
  rintro e w' ⟨hp, L'⟩
  have k' : ∀ k, w0.Q k ∨ X k → k < w'.heap.size ∧ w'.heap[k]? = w.heap[k]? := L'.fen.kept
  refine ⟨hp, X, V, L'.rebase (fun k _ hf => hf) ⟨L'.fen.b, fun k hk => ⟨(k' k hk).1, rfl⟩⟩, ⟨L'.fen.b, fun k hk => ⟨(k' k (.inl hk)).1, (k' k (.inl hk)).2.trans (fe.kept k hk).2⟩⟩, hX, hq, hqt,
    xv.same (fun b hb _ => (k' b (.inr hb.1)).2) (fun b hb _ => hb), (k' q (.inr hq)).2.trans B⟩
theorem lx_beginL (H : LX w0 w q s h m T D) (hb : Below w.heap.size w w1) (vr : Value) (l : List Int) (hv : Rd i64e w1 vr l) (hl : l.length ≤ 4096) (hbd : ∀ x ∈ l, -9223372036854775808 ≤ x ∧ x ≤ 9223372036854775807) (hf : ∀ b, vr.ownBlock = some b → w.heap.size ≤ b ∧ b < w1.heap.size) :
    Calls Tryz.prog 18 #[.pointer (some ⟨s, 0, none⟩), vr] w1 fun e w' => e = .returned (.int .i64 (qBegin T l).2) ∧ LX w0 w' q s h m (qBegin T l).1 D := by
  refine ((H.guard hb).callQ (P := fun e _ => e = .returned (.int .i64 (qBegin T l).2)) (T' := (qBegin T l).1) fun v0 hQ L => ls_beginQ L vr l hv hl hbd fun b e hfr => hfr.2 (hQ b (.inr (hf b e)))).mono ?_
  rintro e w' ⟨he, H'⟩
  exact ⟨he, H.unguard hb H'⟩
theorem lx_heap (H : LX w0 w q s h m T D) : Calls Tryz.prog 14 #[.pointer (some ⟨s, 0, none⟩)] w fun e w' => e = .returned (.pointer (some ⟨h, 0, none⟩)) ∧ w = w' := by
  obtain ⟨v0, L⟩ := H.ls
  exact ls_heap L
theorem lx_all (H : LX w0 w q s h m T D) : Calls Tryz.prog 17 #[.pointer (some ⟨h, 0, none⟩)] w fun e w' => ∃ A c, e = .returned (.slice A (sAll T.S).length c) ∧ Rd i64e w' (.slice A (sAll T.S).length c) (sAll T.S) ∧ From w.heap.size (.slice A (sAll T.S).length c) ∧ Below w.heap.size w w' := by
  obtain ⟨v0, L⟩ := H.ls
  refine (ls_allH L rfl).mono ?_
  rintro e w' ⟨A, c, h1, h2, h3, h4, _⟩
  exact ⟨A, c, h1, h2, h3, h4⟩
theorem lx_step (H : LX w0 w q s h m T D) (ok : SOk T) (junk : Int) (hx : -9223372036854775808 ≤ junk ∧ junk ≤ 9223372036854775807) :
    Calls Tryz.prog 24 #[.pointer (some ⟨s, 0, none⟩), .int .i64 junk] w fun e w' => e = .returned (.tuple #[.int .i64 (if (qStep T junk).2 = 0 then (qStep T junk).1.ph else 0), .int .i64 (qStep T junk).2]) ∧ LX w0 w' q s h m (qStep T junk).1 D :=
  H.call (P := fun e _ => e = .returned (.tuple #[.int .i64 (if (qStep T junk).2 = 0 then (qStep T junk).1.ph else 0), .int .i64 (qStep T junk).2])) fun v0 L => ls_step L ok junk hx
/-- An act that begins no cycle, at a store that is off. -/
theorem sdoes_off (H : LX w0 w q s h m T D) (O : OffX T D) (kind xa xb xk : Int) (rv : Option Addr × Nat × Nat) (x : Int) (bd : ABd kind xa xb xk x) (hk : kind % 8 ≠ 0) :
    Calls Tryz.prog 12 #[.pointer (some ⟨q, 0, none⟩), .agg #[.int .u8 kind, .int .u8 xa, .int .u8 xb, .int .u8 xk, slE rv, .int .i64 x]] w fun e w' => ∃ b T' D', e = .returned (.bool b) ∧ LX w0 w' q s h m T' D' ∧ OffX T' D' := by
  obtain ⟨Av, nv, cv⟩ := rv
  have I := H.inv
  have ID : Inv D.S := by rw [O.S]; exact I
  have hkb := bd.kind
  rcases (by omega : kind % 8 = 1 ∨ (kind % 8 = 2 ∨ kind % 8 = 3) ∨ (kind % 8 = 4 ∨ kind % 8 = 5 ∨ kind % 8 = 6) ∨ kind % 8 = 7) with hk | hk | hk | hk
  · refine (sdoes_alloc H ID O.dlen kind xa xb xk x Av nv cv bd hk).mono ?_
    rintro e w' ⟨b, he, _, H'⟩
    exact ⟨b, _, _, he, H', off_alloc O I⟩
  · refine (sdoes_step H x (D1 := D) (n1 := 0) (r1 := 0) (T1 := T) (n2 := 0) (r2 := 0) (fun Q V wx xv hq => rStep18_off xv O.dph x) (fun v0 wx L => ?_) kind xa xb xk Av nv cv bd hk).mono ?_
    · have := ls_step L O.sok x bd.x
      rw [off_step O] at this
      dsimp only at this
      rw [if_pos rfl, O.ph] at this
      exact this
    · rintro e w' ⟨b, he, _, H'⟩
      exact ⟨b, _, _, he, H', O⟩
  · refine (sdoes_put H ID O.dlen kind xa xb xk x Av nv cv bd hk).mono ?_
    rintro e w' ⟨b, he, _, H'⟩
    exact ⟨b, _, _, he, H', off_put O I _ _ _ (objN_good I.toInv0 _)⟩
  · refine (sdoes_shade H ID O.dlen kind xa xb xk x Av nv cv bd hk).mono ?_
    rintro e w' ⟨b, he, _, H'⟩
    exact ⟨b, _, _, he, H', off_sh O _⟩
end
end Go.Proofs.YtcaboknbdamlhaaGreatDoor
namespace Go.Proofs.YtcaboknbdamlhaaGreatDoor
open Go.ChangeShapes Go.WideShapes Go.ChangeAt Go.RowKit Go.Joins Go.Deep

instance : Inhabited HAct := ⟨⟨0, 0, 0, false, 0, 0, 0⟩⟩
theorem add_plain (b o k : Nat) : Addr.add ⟨b, o, none⟩ k = ⟨b, o + k, none⟩ := by
  unfold Addr.add
  split
  · next e => subst e; rfl
  · rfl
section
variable {H : Type} {enc : TypeId × Value → H} {w : World} {base : Nat} {spare : Nat → Bool} {held : Bool}
set_option maxRecDepth 100000 in
/-- A slice of structs of k cells, opened. -/
theorem open_structs {α : Type} [Inhabited α] {k : Nat} {encA : α → List Value} {ok : α → Prop} {t e : TypeId} (ht : Tryz.prog.underlying t = some (.slice e)) (hC : Tryz.prog.cellsOf e = k) (hk : 0 < k) (hel : ∀ a, (encA a).length = k)
    (one : ∀ {n : Nat} {cs : List Value} {x : DataW H × List MemPlace}, cs.length = k → DataW.trod enc Tryz.prog w 0 (fun _ => true) true n e cs = some x → ∃ a : α, cs = encA a ∧ ok a)
    {v : Value} {d : DataW H} {p : List MemPlace} (hv : Value.okWide Tryz.prog w .any base t v) (h : DataW.Trod enc Tryz.prog w 0 (fun _ => true) true t v d p) :
    ∃ acts : List α, RdC k encA w v acts ∧ ∀ a ∈ acts, ok a := by
  obtain ⟨a1, len, cap, rfl⟩ := okWide_slice ht hv
  obtain ⟨fuel, hf⟩ := h
  rcases open_slice ht hf with ⟨e, _⟩ | ⟨a, len', cap', m, n, D, Pl, e, hb, hl, hm, hmm, _, hx⟩
  · cases e
    exact ⟨[], ⟨none, 0, rfl, by simp [maxLen], by simp⟩, by simp⟩
  · cases e
    rw [hC] at hx
    have hlm : len ≤ m := by rw [hmm]; split <;> omega
    have each : ∀ i, i < len → ∃ x : α, (∀ j u, (encA x)[j]? = some u → w.cell? ((a.add (i * k)).add j) = some u) ∧ ok x := by
      intro i hi
      obtain ⟨cs', h1, h2⟩ := hx i (by omega)
      obtain ⟨_, hlen, hat⟩ := World.cells?_some h1
      obtain ⟨x, rfl, hok⟩ := one hlen h2
      refine ⟨x, fun j u hu => ?_, hok⟩
      have hj : j < (encA x).length := (List.getElem?_eq_some_iff.1 hu).1
      have h9 := hat j (by rw [← hel x]; exact hj)
      rw [h9]
      rw [List.getElem?_eq_getElem hj] at hu
      simp [List.getD, List.getElem?_eq_getElem hj] at *
      exact hu
    obtain ⟨X, hX⟩ := choose_lt each
    have hXl : ((List.range len).map X).length = len := by simp
    refine ⟨(List.range len).map X, ⟨some a, cap, by rw [hXl], by rw [hXl]; exact ⟨hl, hm, by simp⟩, ?_⟩, ?_⟩
    · intro hp
      rw [hXl] at hp
      have hlen0 : 0 < (encA (X 0)).length := by rw [hel]; exact hk
      have h0 := (hX 0 hp).1 0 _ (List.getElem?_eq_getElem hlen0)
      have ha : (a.add (0 * k)).add 0 = a := by simp [Addr.add]
      rw [ha] at h0
      obtain ⟨hs, hlt⟩ := spot_none h0
      obtain ⟨b, o, s⟩ := a
      obtain rfl : s = none := hs
      refine ⟨b, o, rfl, hlt, fun i hi j u hu => ?_⟩
      rw [hXl] at hi
      have h1 := (hX i hi).1 j u (by simpa using hu)
      simp only [add_plain] at h1
      exact h1
    · intro x hx'
      obtain ⟨i, hi, rfl⟩ := List.mem_map.1 hx'
      exact (hX i (List.mem_range.1 hi)).2
end
end Go.Proofs.YtcaboknbdamlhaaGreatDoor
namespace Go.Proofs.YtcaboknbdamlhaaGreatDoor
open Go.ChangeShapes Go.WideShapes Go.ChangeAt Go.RowKit Go.Joins Go.Deep

instance : Inhabited SAct := ⟨⟨0, 0, 0, 0, (none, 0, 0), [], 0⟩⟩
theorem rd_sl {α : Type} {e : α → Value} {w : World} {v : Value} {xs : List α} (h : Rd e w v xs) : ∃ s, v = slE s := by
  obtain ⟨A, c, rfl, _⟩ := h.len
  exact ⟨(A, xs.length, c), rfl⟩
section
variable {H : Type} {enc : TypeId × Value → H} {w : World} {base : Nat} {spare : Nat → Bool} {held : Bool}
set_option maxRecDepth 100000 in
theorem sact_of_cells {n : Nat} {cs : List Value} {x : DataW H × List MemPlace} (hlen : cs.length = 6) (h : DataW.trod enc Tryz.prog w base spare held n 30 cs = some x) :
    ∃ a : SAct, cs = sactC a ∧ SActOk w a := by
  match cs, hlen with
  | [c0, c1, c2, c3, c4, c5], _ =>
    obtain ⟨xs, n', _, _, _, hxl, hf⟩ := DataW.trod_struct Tryz.underlying30 h
    match xs, hxl with
    | [y0, y1, y2, y3, y4, y5], _ =>
      have k5 : Tryz.prog.cellsOf 5 = 1 := by kernel_rfl
      have k6 : Tryz.prog.cellsOf 28 = 1 := by kernel_rfl
      have h0 := (show DataW.trod enc Tryz.prog w base spare held n' 5 ((([c0, c1, c2, c3, c4, c5] : List Value).drop 0).take (Tryz.prog.cellsOf 5)) = some y0 from hf 0 _ rfl)
      have h1 := (show DataW.trod enc Tryz.prog w base spare held n' 5 ((([c0, c1, c2, c3, c4, c5] : List Value).drop 1).take (Tryz.prog.cellsOf 5)) = some y1 from hf 1 _ rfl)
      have h2 := (show DataW.trod enc Tryz.prog w base spare held n' 5 ((([c0, c1, c2, c3, c4, c5] : List Value).drop 2).take (Tryz.prog.cellsOf 5)) = some y2 from hf 2 _ rfl)
      have h3 := (show DataW.trod enc Tryz.prog w base spare held n' 5 ((([c0, c1, c2, c3, c4, c5] : List Value).drop 3).take (Tryz.prog.cellsOf 5)) = some y3 from hf 3 _ rfl)
      have h4 := (show DataW.trod enc Tryz.prog w base spare held n' 28 ((([c0, c1, c2, c3, c4, c5] : List Value).drop 4).take (Tryz.prog.cellsOf 28)) = some y4 from hf 4 _ rfl)
      have k7 : Tryz.prog.cellsOf 2 = 1 := by kernel_rfl
      have h5 := (show DataW.trod enc Tryz.prog w base spare held n' 2 ((([c0, c1, c2, c3, c4, c5] : List Value).drop 5).take (Tryz.prog.cellsOf 2)) = some y5 from hf 5 _ rfl)
      rw [k7] at h5
      rw [k5] at h0 h1 h2 h3
      rw [k6] at h4
      obtain ⟨v0, e0, _, w0⟩ := DataW.trod_int Tryz.underlying5 h0
      obtain ⟨v1, e1, _, w1⟩ := DataW.trod_int Tryz.underlying5 h1
      obtain ⟨v2, e2, _, w2⟩ := DataW.trod_int Tryz.underlying5 h2
      obtain ⟨v3, e3, _, w3⟩ := DataW.trod_int Tryz.underlying5 h3
      obtain ⟨v5, e5, _, w5⟩ := DataW.trod_int Tryz.underlying2 h5
      obtain ⟨v4, ys, e4, r4, w4, _⟩ := open_rd Tryz.underlying28 Tryz.underlying5 (by kernel_rfl) h4
      obtain ⟨s4, rfl⟩ := rd_sl r4
      simp at e0 e1 e2 e3 e4 e5
      subst e0 e1 e2 e3 e4 e5
      exact ⟨⟨v0, v1, v2, v3, s4, ys, v5⟩, rfl, ⟨bounds_u8 w0, bounds_u8 w1, bounds_u8 w2, bounds_u8 w3, bounds_i64 w5⟩, r4, fun n hn => bounds_u8 (w4 n hn)⟩
set_option maxRecDepth 100000 in
theorem open_sacts {v : Value} {d : DataW H} {p : List MemPlace} (hv : Value.okWide Tryz.prog w .any base 22 v) (h : DataW.Trod enc Tryz.prog w 0 (fun _ => true) true 22 v d p) :
    ∃ acts : List SAct, RdC 6 sactC w v acts ∧ ∀ a ∈ acts, SActOk w a :=
  open_structs (k := 6) Tryz.underlying22 (by kernel_rfl) (by decide) (fun _ => rfl) (fun hl h => sact_of_cells hl h) hv h
set_option maxRecDepth 100000 in
theorem open_u8s {v : Value} {d : DataW H} {p : List MemPlace} (hv : Value.okWide Tryz.prog w .any base 28 v) (h : DataW.Trod enc Tryz.prog w 0 (fun _ => true) true 28 v d p) :
    ∃ l : List Int, Rd u8e w v l ∧ ∀ n ∈ l, 0 ≤ n ∧ n ≤ 255 := by
  obtain ⟨a1, len, cap, rfl⟩ := okWide_slice Tryz.underlying28 hv
  obtain ⟨fuel, hf⟩ := h
  obtain ⟨v1, xs, e, r, wf, _⟩ := open_rd Tryz.underlying28 Tryz.underlying5 (by kernel_rfl) hf
  obtain rfl : Value.slice a1 len cap = v1 := by simpa [Value.cells] using e
  exact ⟨xs, r, fun n hn => bounds_u8 (wf n hn)⟩
end
end Go.Proofs.YtcaboknbdamlhaaGreatDoor
