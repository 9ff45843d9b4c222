/- Joined: MarkPath, MarkCount, MarkRef, MarkRefB, MarkRefC, MarkRefD, MarkRefE. -/
import Derived.Test.YtnoiepmapmcjdaaDoorMMB
import Derived.Test.YtnoiepmapmcjdaaDoorMMR
set_option linter.unusedVariables false
set_option linter.unusedSimpArgs false
namespace Go.Proofs.YtnoiepmapmcjdaaDoor
open Go.RowKit Go.Shelf
section
variable {w0 : W0} {w w' : World} {q h m n : Nat} {S : HS} {K : MK} {R : RM} {objs : List (List Int)}
theorem lostep (H : LO w0 w q h m n K objs) (X : RD) (HX : CK n K X) :
    Calls Tryd.prog 18 #[.pointer (some ⟨m, 0, none⟩)] w fun e w' => e = .returned (.tuple #[.bool (dStep objs X).2, .int .i64 0]) ∧ ∃ K', LO w0 w' q h m n K' objs ∧ CK n K' (dStep objs X).1 ∧ K'.on = K.on := by
  obtain ⟨S, H⟩ := H
  obtain ⟨e1, e2, e3⟩ := H.c.step HX
  have := lstep H
  rw [e1] at this
  refine this.mono ?_
  rintro e w' ⟨rfl, H'⟩
  exact ⟨rfl, _, ⟨S, H'⟩, e2, e3⟩
theorem loptr (H : LO w0 w q h m n K objs) (b : Int) (hb : 0 ≤ b ∧ b ≤ n) : Calls Tryd.prog 20 #[.pointer (some ⟨q, 0, none⟩), .int .i64 b] w fun e w' => e = .returned (.int .i64 (ptrI b)) ∧ w = w' := by
  obtain ⟨S, H⟩ := H
  exact lptr H b hb
theorem locol (H : LO w0 w q h m n K objs) (X : RD) (HX : CK n K X) (i : Nat) (hi : i < n) : Calls Tryd.prog 21 #[.pointer (some ⟨m, 0, none⟩), .int .i64 (4 * (i : Int) + 1)] w fun e w' => e = .returned (.int .i64 (dColor X ((i : Int) + 1))) ∧ w = w' := by
  have := locolor H X HX ((i : Int) + 1) (by omega) (by omega)
  rw [ptrI_pos (by omega), show 4 * ((i : Int) + 1) - 3 = 4 * (i : Int) + 1 by omega] at this
  exact this
theorem lo_path (H : LO w0 w q h m n K objs) {a k : Nat} (ha : a < n) (hk : k < 4) :
    ∃ (Gp : Nat → Prop) (bo oo co bl ol cl : Nat), (∀ j, Gp j → j < w.heap.size) ∧
      (∀ X : World, (∀ j, Gp j → X.heap[j]? = w.heap[j]?) → X.cell? ⟨q, 1, none⟩ = some (.pointer (some ⟨m, 0, none⟩)) ∧ X.cell? ⟨q, 3, none⟩ = some (.slice (some ⟨bo, oo, none⟩) n co) ∧ X.cell? ⟨bo, oo + a, none⟩ = some (.slice (some ⟨bl, ol, none⟩) 4 cl) ∧ X.cell? ⟨bl, ol + k, none⟩ = some (.int .i64 (objAt objs a k))) ∧
      (∀ (w1 : World) (b : Int) (X : RD), Below w.heap.size w w1 → CK n K X → K.on = true → 0 ≤ b ∧ b ≤ n → Calls Tryd.prog 19 #[.pointer (some ⟨m, 0, none⟩), .int .i64 (ptrI b)] w1 fun e w' => e = .returned (.int .i64 0) ∧ (∃ K', LO (w0.guard w w1) w' q h m n K' objs ∧ CK n K' (dShade X b) ∧ K'.on = true) ∧ ∀ j, Gp j → w'.heap[j]? = w1.heap[j]?) := by
  obtain ⟨S, F, D, G, W, hF, fe, C⟩ := H
  have hn := C.n11
  obtain ⟨vp, vo, vg, vb, I⟩ := W.wi
  obtain ⟨us, u1, u2, u3⟩ := I.ob
  have hol : objs.length = n := C.ol
  have hul : us.length = n := by rw [u1]; exact hol
  have u2r := u2.rd
  obtain ⟨Ao, co, rfl, -⟩ := u2r.len
  obtain ⟨bo, oo, rfl, hbo, hco⟩ := u2r.at_ (show a < us.length by omega)
  have hGo : G bo := (u2.inP (by omega) bo rfl).1
  have ho : a < objs.length := by omega
  have u3a := u3 a (by omega) ho
  have h4 : (objs[a]).length = 4 := by
    have := C.four a ha
    rwa [show objs.getD a [] = objs[a] by simp [List.getD, ho]] at this
  have u3r := u3a.rd
  obtain ⟨Al, cl, hus, -⟩ := u3r.len
  rw [hus] at hco u3r
  obtain ⟨bl, ol, rfl, hbl, hcl⟩ := u3r.at_ (show k < (objs[a]).length by omega)
  have hGl : G bl := (u3a.inP (by show 0 < (objs[a]).length; omega) bl (by rw [hus]; rfl)).1
  have hob : objAt objs a k = (objs[a])[k]'(by omega) := by
    unfold objAt
    simp [List.getD, ho, h4, hk]
  refine ⟨G, bo, oo, co, bl, ol, cl, W.glt, fun X hX => ⟨?_, ?_, ?_, ?_⟩, fun w1 b X hb HX hon hbd => ?_⟩
  · rw [World.cell?_of_block (hX q I.gq)]; exact I.blk.cell 1
  · rw [World.cell?_of_block (hX q I.gq), ← hul]; exact I.blk.cell 3
  · rw [World.cell?_of_block (hX bo hGo), hco, h4]
  · rw [World.cell?_of_block (hX bl hGl), hcl, hob]
  · have hk0 := C.known (K := K) hon hbd
    have hsh := C.shade HX hon hbd
    have hp := ptrI_bd hn hbd
    refine (shade_m m h S F K D w1 (W.mm.below hb) (ptrI b) (by omega) (by omega)).mono ?_
    rintro e w' ⟨rfl, D', M, s⟩
    rw [hk0]
    exact ⟨rfl, ⟨_, ⟨S, LW.marks (W.below hb) (guard_free W hF) (fe.guard hb) C M s⟩, hsh.1, hsh.2⟩, fun j hj => s.frame.block j (Nat.lt_of_lt_of_le (W.glt j hj) hb.size) (W.dd j hj)⟩
end
end Go.Proofs.YtnoiepmapmcjdaaDoor
namespace Go.Proofs.YtnoiepmapmcjdaaDoor
open Go.RowKit Go.Shelf
section
variable {n : Nat} {S : HS} {objs : List (List Int)} {K : MK} {R : RD}
theorem made_ok (H : DOk n R) {b : Int} (h1 : 1 ≤ b) (hn : b ≤ n) : DOk n (dMade R b) := by
  have hnd := List.nodup_append.1 H.nd
  have hb : ∀ y, y ∈ (dMade R b).black → y ∈ R.black ∨ y = b := fun y hy => by
    have hy' : y ∈ (if b ∈ R.black then R.black else R.black ++ [b]) := hy
    split at hy'
    · exact .inl hy'
    · exact (List.mem_append.1 hy').imp id List.mem_singleton.1
  have hg : ∀ x, x ∈ (dMade R b).greys → x ∈ R.greys ∧ x ≠ b := fun x hx => by
    have := List.mem_filter.1 (show x ∈ R.greys.filter (fun x => x != b) from hx)
    exact ⟨this.1, by simpa using this.2⟩
  refine ⟨List.nodup_append.2 ⟨hnd.1.filter _, ?_, fun x hx y hy e => ?_⟩, fun x hx => ?_⟩
  · show (if b ∈ R.black then R.black else R.black ++ [b]).Nodup
    split
    · exact hnd.2.1
    · next h =>
      rw [List.nodup_append]
      exact ⟨hnd.2.1, by simp, fun x hx y hy e => by obtain rfl := List.mem_singleton.1 hy; exact h (e ▸ hx)⟩
  · have hx' := hg x hx
    rcases hb y hy with h | h
    · exact hnd.2.2 x hx'.1 y h e
    · exact hx'.2 (e.trans h)
  · rcases hx with h | h
    · exact H.bd x (.inl (hg x h).1)
    · rcases hb x h with h | h
      · exact H.bd x (.inr h)
      · omega
theorem made_mem (R : RD) (b x : Int) : (x ∈ (dMade R b).greys ∨ x ∈ (dMade R b).black) ↔ x = b ∨ (x ∈ R.greys ∨ x ∈ R.black) := by
  have h1 : x ∈ (dMade R b).greys ↔ x ∈ R.greys ∧ x ≠ b := by
    show x ∈ R.greys.filter (fun x => x != b) ↔ _
    rw [List.mem_filter]
    simp
  have h2 : x ∈ (dMade R b).black ↔ x ∈ R.black ∨ x = b := by
    show x ∈ (if b ∈ R.black then R.black else R.black ++ [b]) ↔ _
    split
    · next h => exact ⟨.inl, fun h' => h'.elim id (fun e => e ▸ h)⟩
    · rw [List.mem_append, List.mem_singleton]
  rw [h1, h2]
  by_cases e : x = b
  · subst e; simp
  · simp [e]
theorem Cw.made (C : Cw n S objs) (H : CK n K R) (ho : K.on = true) {b : Int} (h1 : 1 ≤ b) (hn : b ≤ n) : mKnown S K (ptrI b) = (true, 0) ∧ CK n (mMade S K (ptrI b)) (dMade R b) ∧ (mMade S K (ptrI b)).on = true := by
  have hk := C.known (K := K) ho (b := b) (by omega)
  rw [show decide (b ≠ 0) = true by simp; omega] at hk
  refine ⟨hk, ?_⟩
  unfold mMade
  rw [hk, if_pos rfl]
  refine ⟨⟨H.on, ?_, fun x hx1 hxn => ?_, made_ok H.ok h1 hn⟩, ho⟩
  · show keepP (fun x => x == ptrI b) K.greys = (R.greys.filter (fun x => x != b)).map ptrI
    rw [H.greys]
    unfold keepP
    rw [List.filter_map]
    congr 1
    refine List.filter_congr fun x hx => ?_
    have hxb := H.ok.bd x (.inl hx)
    show (!(ptrI x == ptrI b)) = (x != b)
    by_cases e : x = b
    · subst e; simp
    · have : ptrI x ≠ ptrI b := fun e2 => e (ptrI_inj (by omega) (by omega) e2)
      rw [show (ptrI x == ptrI b) = false from beq_eq_false_iff_ne.2 this, show (x != b) = true from bne_iff_ne.2 e]
      rfl
  · rw [made_mem]
    show (ptrI x == ptrI b || K.seen (ptrI x)) = true ↔ _
    rw [Bool.or_eq_true, H.seen x hx1 hxn, beq_iff_eq]
    constructor
    · rintro (h | h)
      · exact .inl (ptrI_inj (by omega) (by omega) h)
      · exact .inr h
    · rintro (h | h)
      · exact .inl (by rw [h])
      · exact .inr h
end
/-! How many are black. -/
def cntB (X : RD) (j : Nat) : Nat := ((List.range j).filter fun (i : Nat) => dColor X ((i : Int) + 1) == 2).length
theorem cntB_succ (X : RD) (j : Nat) : cntB X (j + 1) = if dColor X ((j : Int) + 1) = 2 then cntB X j + 1 else cntB X j := by
  unfold cntB
  rw [List.range_succ, List.filter_append, List.length_append]
  by_cases h : dColor X ((j : Int) + 1) = 2
  · rw [if_pos h]
    simp [h]
  · rw [if_neg h]
    simp [h]
theorem cntB_le (X : RD) (j : Nat) : cntB X j ≤ j := by
  unfold cntB
  have := List.length_filter_le (fun (i : Nat) => dColor X ((i : Int) + 1) == 2) (List.range j)
  rwa [List.length_range] at this
theorem color_two {n : Nat} {X : RD} (hok : DOk n X) (ho : X.on = true) (hg : X.greys = []) (b : Int) : dColor X b = 2 ↔ b ∈ X.black := by
  unfold dColor
  rw [if_neg (by rw [ho]; simp), if_neg (by rw [hg]; simp)]
  split
  · next h => simp [h]
  · next h => simp [h]
theorem cntB_all {n : Nat} {X : RD} (hok : DOk n X) (ho : X.on = true) (hg : X.greys = []) : cntB X n = X.black.length := by
  have hnd : X.black.Nodup := (List.nodup_append.1 hok.nd).2.1
  have e : cntB X n = (((List.range n).filter fun (i : Nat) => dColor X ((i : Int) + 1) == 2).map fun (i : Nat) => (i : Int) + 1).length := by
    rw [List.length_map]; rfl
  rw [e]
  refine List.Perm.length_eq ((List.perm_ext_iff_of_nodup ?_ hnd).2 fun b => ?_)
  · refine List.Pairwise.map _ (fun a b h => ?_) ((List.nodup_range).filter _)
    show (a : Int) + 1 ≠ (b : Int) + 1
    have h' : a ≠ b := h
    omega
  · rw [List.mem_map]
    constructor
    · rintro ⟨i, hi, rfl⟩
      have := (List.mem_filter.1 hi).2
      exact (color_two hok ho hg _).1 (by simpa using this)
    · intro hb
      have hbd := hok.bd b (.inr hb)
      refine ⟨(b - 1).toNat, List.mem_filter.2 ⟨List.mem_range.2 (by omega), ?_⟩, by omega⟩
      rw [show (((b - 1).toNat : Nat) : Int) + 1 = b by omega]
      simpa using (color_two hok ho hg b).2 hb
section
variable {w0 : W0} {w w' : World} {q h m n : Nat} {S : HS} {K : MK} {R : RM} {objs : List (List Int)}
theorem lomade (H : LO w0 w q h m n K objs) (X : RD) (HX : CK n K X) (ho : K.on = true) (i : Nat) (hi : i < n) :
    Calls Tryd.prog 22 #[.pointer (some ⟨m, 0, none⟩), .int .i64 (4 * (i : Int) + 1)] w fun e w' => e = .returned (.int .i64 0) ∧ ∃ K', LO w0 w' q h m n K' objs ∧ CK n K' (dMade X ((i : Int) + 1)) ∧ K'.on = true := by
  have hn := H.n11
  obtain ⟨S, H⟩ := H
  obtain ⟨e1, e2, e3⟩ := H.c.made HX ho (b := (i : Int) + 1) (by omega) (by omega)
  have hp : ptrI ((i : Int) + 1) = 4 * (i : Int) + 1 := by rw [ptrI_pos (by omega)]; omega
  rw [hp] at e1 e2 e3
  have := lmade H (4 * (i : Int) + 1) (by omega) (by omega)
  rw [e1] at this
  refine this.mono ?_
  rintro e w' ⟨rfl, H'⟩
  exact ⟨rfl, _, ⟨S, H'⟩, e2, e3⟩
end
end Go.Proofs.YtnoiepmapmcjdaaDoor
namespace Go.Proofs.YtnoiepmapmcjdaaDoor
open Go.RowKit Go.Shelf
theorem wps_blk {P : Program} {w : World} {o : Oper} {a : Act} {Q : Exit → Act → World → Prop} {K : Act → World → Prop} (ty : TypeId) (x y : Operand) (ho : o.op = .store ty x y)
    (g : Nat) (hx : a.eval x = .pointer (some ⟨g, 0, none⟩)) (c' : Array Value) (hy : a.eval y = .agg c') (t : TypeId) (c : Array Value) (hg : Blk w g t c)
    (hi : (P.info? ty).map (·.size) = some c'.size) (hsz : c.size = c'.size) (h1 : c'.all (·.oneCell') = true)
    (h : ∀ w', Blk w' g t c' → w.grownBy w' (some g) → w'.heap.size = w.heap.size → K (a.put o.dst undef) w') : Oper.wp P o a w K Q := by
  refine wp_store_row ty x y ho g c' hx hy t c hg hi hsz h1 (h _ ?_ ?_ (size_setRow _ _ _))
  · exact setRow_heap w g c c' t (0, 0) hg
  · exact ⟨rfl, rfl, rfl, by simp, fun k _ hne => setRow_other w g k c' (fun e => hne (by rw [e]))⟩
def rm4 (vo : Value) (on : Bool) (vg vb : Value) : Array Value := #[vo, .bool on, vg, vb]
def rm0 : Array Value := #[.slice none 0 0, .bool false, .slice none 0 0, .slice none 0 0]
theorem rm_size : (Tryd.prog.info? 37).map (·.size) = some 4 := by kernel_rfl
/-- Slices that read as the document's marks. -/
structure RV (w : World) (objs : List (List Int)) (greys black : List Int) (vo vg vb : Value) : Prop where
  ob : RdLL (fun _ => True) w vo objs
  gr : Rd i64e w vg greys
  bl : Rd i64e w vb black
  gs : greys.length ≤ 4096
  bs : black.length ≤ 4096
/-- In the old slice's block, or in a new one. -/
def Nw (B : Nat) (v : Value) (xs : List Int) (v' : Value) (xs' : List Int) : Prop := 0 < xs'.length → ∀ b, v'.ownBlock = some b → (0 < xs.length ∧ v.ownBlock = some b) ∨ B ≤ b
theorem Nw.refl (B : Nat) (v : Value) (xs : List Int) : Nw B v xs v xs := fun hp b h => .inl ⟨hp, h⟩
theorem Nw.trans {B B' : Nat} {v v' v'' : Value} {xs xs' xs'' : List Int} (h : Nw B v xs v' xs') (h' : Nw B' v' xs' v'' xs'') (hB : B ≤ B') : Nw B v xs v'' xs'' := fun hp b e => (h' hp b e).elim (fun h1 => h h1.1 b h1.2) fun h => .inr (Nat.le_trans hB h)
/-- Marks by value, behind a call. -/
def RetM (w : World) (objs : List (List Int)) (greys black : List Int) (vo vg vb : Value) (X : RD) (wrap : Value → Ending) : Ending → World → Prop := fun e w' =>
  ∃ vg' vb', e = wrap (.agg (rm4 vo X.on vg' vb')) ∧ RV w' objs X.greys X.black vo vg' vb' ∧ Nw w.heap.size vg greys vg' X.greys ∧ Nw w.heap.size vb black vb' X.black ∧ Below w.heap.size w w'
section
variable {w w' : World} {objs : List (List Int)} {greys black : List Int} {vo vg vb : Value} {on : Bool}
theorem RV.below (H : RV w objs greys black vo vg vb) (hb : Below w.heap.size w w') : RV w' objs greys black vo vg vb :=
  ⟨H.ob.keep hb.size fun k _ hk => hb.block k hk, H.gr.below hb, H.bl.below hb, H.gs, H.bs⟩
theorem RV.one (H : RV w objs greys black vo vg vb) (on : Bool) : (rm4 vo on vg vb).all (·.oneCell') = true := by
  obtain ⟨us, _, h2, _⟩ := H.ob
  obtain ⟨A1, c1, rfl, -⟩ := h2.rd.len
  obtain ⟨A2, c2, rfl, -⟩ := H.gr.len
  obtain ⟨A3, c3, rfl, -⟩ := H.bl.len
  simp [rm4, Value.oneCell']
/-- A block whose cells are no numbers and no slices of slices. -/
def NoInt (cs : Array Value) : Prop := ∀ (i : Nat) (k : IntKind) (x : Int), cs[i]? ≠ some (Value.int k x)
theorem rd_ne {t : TypeId} {cs : Array Value} {g : Nat} (hB : Blk w g t cs) (hs : NoInt cs) {v : Value} {xs : List Int} (h : Rd i64e w v xs) (hp : 0 < xs.length) : v.ownBlock ≠ some g := by
  intro e
  obtain ⟨A, c, rfl, -⟩ := h.len
  obtain ⟨b, o, rfl, _, hc⟩ := h.at_ hp
  have e' : b = g := by simpa [Value.ownBlock] using e
  subst e'
  rw [hB.cell] at hc
  exact hs _ _ _ hc
theorem Rd.far_blk {t : TypeId} {cs : Array Value} {g : Nat} (hB : Blk w g t cs) (hs : NoInt cs) {v : Value} {xs : List Int} (h : Rd i64e w v xs) (hg : w.grownBy w' (some g)) : Rd i64e w' v xs :=
  h.keep hg.size fun hp b e hlt => hg.block b hlt fun e2 => rd_ne hB hs h hp (by rw [e]; exact e2)
theorem rm4_noint {w1 w2 w3 : World} {on : Bool} (h1 : RdLL (fun _ => True) w1 vo objs) (h2 : Rd i64e w2 vg greys) (h3 : Rd i64e w3 vb black) : NoInt (rm4 vo on vg vb) := by
  obtain ⟨us, _, h, _⟩ := h1
  obtain ⟨A1, c1, rfl, -⟩ := h.rd.len
  obtain ⟨A2, c2, rfl, -⟩ := h2.len
  obtain ⟨A3, c3, rfl, -⟩ := h3.len
  intro i k x h
  match i, h with
  | 0, h => cases h
  | 1, h => cases h
  | 2, h => cases h
  | 3, h => cases h
theorem rm0_noint : NoInt rm0 := by
  intro i k x h
  match i, h with
  | 0, h => cases h
  | 1, h => cases h
  | 2, h => cases h
  | 3, h => cases h
set_option maxHeartbeats 3200000 in
set_option maxRecDepth 100000 in
theorem mhas17 (v : Value) (l : List Int) (x : Int) (w : World) (hv : Rd i64e w v l) (hl : l.length ≤ 4096) :
    Calls Tryd.prog 66 #[v, .int .i64 x] w fun e w' => e = .returned (.bool (decide (x ∈ l))) ∧ w = w' := by
  obtain ⟨A, c, rfl, -⟩ := hv.len
  have HV := Lib.hid hv
  clear hv
  obtain ⟨r, hr⟩ : ∃ r, decide (x ∈ l) = r := ⟨_, rfl⟩
  rw [hr]
  replace hr := Lib.hid hr
  obtain ⟨wz, hwz⟩ : ∃ wz, wz = w := ⟨_, rfl⟩
  rw [← hwz] at HV ⊢
  replace hwz := Lib.hid hwz
  go_enter Tryd.func66, Tryd.ntmps66
  go_wp2_with fail
  go_loopw [5] (fun i wr => ∃ j : Nat, j ≤ l.length ∧ i = .int .i64 j ∧ Hid (x ∉ l.take j) ∧ Hid (wz = wr)) (fun i _ => l.length - (intOf i).toNat)
  case atStart => exact ⟨0, by omega, rfl, Lib.hid (by simp), Lib.hid rfl⟩
  case round =>
    obtain ⟨j, hj, rfl, hno, hw⟩ := hrel
    have hw2 := hw.out
    subst hw2
    by_cases hlt : j < l.length
    · have t0 : (j : Int) < (l.length : Int) := by omega
      obtain ⟨b, o, rfl, _, hc⟩ := HV.out.at_ hlt
      obtain ⟨y, hy⟩ : ∃ y, l[j] = y := ⟨_, rfl⟩
      have htk : l.take (j + 1) = l.take j ++ [y] := by rw [take_snoc l hlt, hy]
      rw [hy] at hc
      replace hc : _ = some (Value.int IntKind.i64 y) := hc
      by_cases hx : y = x
      · have hr1 : r = true := by
          rw [← hr.out, decide_eq_true_iff, ← hx, ← hy]
          exact List.getElem_mem hlt
        subst hr1
        subst hx
        clear htk hy
        go_wp2_with fail
        go_ret
        exact ⟨rfl, rfl⟩
      · have hx2 : (y == x) = false := beq_eq_false_iff_ne.2 hx
        have hno2 : Hid (x ∉ l.take (j + 1)) := Lib.hid (by
          rw [htk, List.mem_append, List.mem_singleton]
          rintro (h | h)
          · exact hno.out h
          · exact hx h.symm)
        clear htk hy hx hno
        go_wp2_with fail
        go_roundw
        case rel => exact ⟨j + 1, by omega, by go_num, hno2, Lib.hid (by trivial)⟩
        case measure => simp [intOf]; omega
    · obtain rfl : j = l.length := by omega
      have hr1 : r = false := by
        rw [← hr.out, decide_eq_false_iff_not]
        have := hno.out
        rwa [List.take_length] at this
      subst hr1
      clear hno
      go_wp2_with fail
      go_ret
      exact ⟨rfl, rfl⟩
set_option maxHeartbeats 3200000 in
set_option maxRecDepth 100000 in
theorem mcol17 (H : RV w objs greys black vo vg vb) (b : Int) :
    Calls Tryd.prog 50 #[.agg (rm4 vo on vg vb), .int .i64 b] w fun e w' => e = .returned (.int .i64 (dColor ⟨on, greys, black⟩ b)) ∧ Below w.heap.size w w' := by
  replace H := Lib.hid H
  obtain ⟨r, hr⟩ : ∃ r, dColor ⟨on, greys, black⟩ b = r := ⟨_, rfl⟩
  rw [hr]
  unfold dColor at hr
  replace hr := Lib.hid hr
  go_enter Tryd.func50, Tryd.ntmps50
  go_wp2_with (refine wpList_new rfl (.box 37 (.tmp 0)) rfl w.heap.size rfl 37 (rm4 vo on vg vb) (by kernel_rfl) ?_; intro w1 hs1 hb1 hB1; refine stop_here ?_)
  have c1 : w1.cell? ⟨w.heap.size, 1, none⟩ = some (.bool on) := hB1.cell 1
  have c2 : w1.cell? ⟨w.heap.size, 2, none⟩ = some vg := hB1.cell 2
  have c3 : w1.cell? ⟨w.heap.size, 3, none⟩ = some vb := hB1.cell 3
  have h1 := Lib.hid (mhas17 vg greys b w1 (H.out.gr.below hb1) H.out.gs)
  have h2 := Lib.hid (mhas17 vb black b w1 (H.out.bl.below hb1) H.out.bs)
  clear hB1 H hs1
  refine go_on ?_
  cases on with
  | false =>
    have hr0 : r = 0 := by rw [← hr.out, if_pos rfl]
    subst hr0
    go_wp2_with fail
    go_ret
    exact ⟨rfl, hb1⟩
  | true =>
    have hr' := hr.out
    rw [if_neg (by simp)] at hr'
    replace hr' := Lib.hid hr'
    clear hr
    go_wp2_with fail
    refine h1.out.mono ?_
    rintro e _ ⟨rfl, rfl⟩
    by_cases hg : b ∈ greys
    · have hr0 : r = 1 := by rw [← hr'.out, if_pos hg]
      subst hr0
      rw [decide_eq_true hg]
      clear h1 h2 hr'
      go_wp2_with fail
      go_ret
      exact ⟨rfl, hb1⟩
    · rw [decide_eq_false hg]
      go_wp2_with fail
      refine h2.out.mono ?_
      rintro e _ ⟨rfl, rfl⟩
      by_cases hk : b ∈ black
      · have hr0 : r = 2 := by rw [← hr'.out, if_neg hg, if_pos hk]
        subst hr0
        rw [decide_eq_true hk]
        clear h1 h2 hr'
        go_wp2_with fail
        go_ret
        exact ⟨rfl, hb1⟩
      · have hr0 : r = 0 := by rw [← hr'.out, if_neg hg, if_neg hk]
        subst hr0
        rw [decide_eq_false hk]
        clear h1 h2 hr'
        go_wp2_with fail
        go_ret
        exact ⟨rfl, hb1⟩
set_option maxHeartbeats 3200000 in
set_option maxRecDepth 100000 in
theorem mthere17 (H : RV w objs greys black vo vg vb) (b : Int) (hb : 0 ≤ b ∧ b ≤ objs.length) (hol : objs.length ≤ 4096) :
    Calls Tryd.prog 64 #[.agg (rm4 vo on vg vb), .int .i64 b] w fun e w' => e = .returned (.bool true) ∧ Below w.heap.size w w' := by
  obtain ⟨us, u1, u2, _⟩ := H.ob
  obtain ⟨A, c, rfl, -⟩ := u2.rd.len
  rw [u1]
  obtain ⟨k, hk⟩ : ∃ k : Nat, b = (k : Int) := ⟨b.toNat, by omega⟩
  subst hk
  have t1 : (k : Int) ≤ (objs.length : Int) := by omega
  have t2 : decide ((k : Int) ≤ (objs.length : Int)) = true := by rw [decide_eq_true_iff]; exact t1
  clear H u1 u2
  go_enter Tryd.func64, Tryd.ntmps64
  go_wp2_with (refine wpList_new rfl (.box 37 (.tmp 0)) rfl w.heap.size rfl 37 (rm4 (.slice A objs.length c) on vg vb) (by kernel_rfl) ?_; intro w1 hs1 hb1 hB1; refine stop_here ?_)
  have c0 : w1.cell? ⟨w.heap.size, 0, none⟩ = some (.slice A objs.length c) := hB1.cell 0
  clear hB1
  refine go_on ?_
  go_wp2_with fail
  go_ret
  exact ⟨rfl, hb1⟩
end
end Go.Proofs.YtnoiepmapmcjdaaDoor
namespace Go.Proofs.YtnoiepmapmcjdaaDoor
open Go.RowKit Go.Shelf
section
variable {w w' : World} {objs : List (List Int)} {greys black : List Int} {vo vg vb : Value} {on : Bool}
set_option maxHeartbeats 3200000 in
set_option maxRecDepth 100000 in
theorem mshade17 (H : RV w objs greys black vo vg vb) (b : Int) (hgs : greys.length ≤ 4000) :
    Calls Tryd.prog 65 #[.agg (rm4 vo true vg vb), .int .i64 b] w (RetM w objs greys black vo vg vb (dShade ⟨true, greys, black⟩ b) Ending.returned) := by
  have ONE := Lib.hid (H.one true)
  have SZ := Lib.hid rm_size
  replace H := Lib.hid H
  obtain ⟨X, hX⟩ : ∃ X, X = dShade ⟨true, greys, black⟩ b := ⟨_, rfl⟩
  rw [← hX]
  unfold dShade at hX
  replace hX := Lib.hid hX
  go_enter Tryd.func65, Tryd.ntmps65
  go_wp2_with (first
    | (refine wpList_new rfl (.box 37 (.tmp 0)) rfl w.heap.size rfl 37 (rm4 vo true vg vb) (by kernel_rfl) ?_; intro w1 hs1 hb1 hB1)
    | (refine wpList_new rfl (.alloc 37) rfl (w.heap.size + 1) hs1 37 rm0 (by kernel_rfl) ?_; intro w2 hs2 hb2 hB2; refine stop_here ?_))
  have HB := hB1.below hb2 (by omega)
  have HR := hB2
  have b2 : Below w.heap.size w w2 := hb1.trans (hb2.mono (by omega))
  have hz2 : w2.heap.size = w.heap.size + 2 := by omega
  obtain ⟨gX, hgX⟩ : ∃ gX, gX = w.heap.size := ⟨_, rfl⟩
  obtain ⟨gR, hgR⟩ : ∃ gR, gR = w.heap.size + 1 := ⟨_, rfl⟩
  rw [← hgR] at HR ⊢
  rw [← hgX] at HB ⊢
  replace hgX := Lib.hid hgX
  replace hgR := Lib.hid hgR
  clear hs1 hB1 hb1 hB2 hs2 hb2
  refine go_on ?_
  by_cases h0 : b = 0
  · subst h0
    have hX1 : X = ⟨true, greys, black⟩ := by rw [hX.out, if_pos (.inl rfl)]
    subst hX1
    go_wp2_with (first
      | (refine wpList_load_blk rfl 37 (.tmp 2) rfl gX rfl 37 (rm4 vo true vg vb) HB _ Tryd.underlying37 rfl SZ.out ?_)
      | (refine wpList_store_blk rfl 37 (.tmp 4) (.tmp 14) rfl gR rfl (rm4 vo true vg vb) rfl 37 (rm0) HR SZ.out rfl ONE.out ?_; intro w9 hR9 hg9 hs9))
    have b9 := b2.grown hg9 b2.size (fun k hk => by cases hk; have := hgR.out; omega)
    refine bodyPost_ret (res_cell rfl rfl hR9 Tryd.underlying37 rfl SZ.out) rfl ⟨vg, vb, rfl, H.out.below b9, Nw.refl _ _ _, Nw.refl _ _ _, b9⟩
  have z0 : (b == 0) = false := beq_eq_false_iff_ne.2 h0
  have q0 : w2.cell? ⟨gX, 0, none⟩ = some vo := HB.cell 0
  have q1 : w2.cell? ⟨gX, 1, none⟩ = some (.bool true) := HB.cell 1
  have q2 : w2.cell? ⟨gX, 2, none⟩ = some vg := HB.cell 2
  have q3 : w2.cell? ⟨gX, 3, none⟩ = some vb := HB.cell 3
  have HC := Lib.hid (mcol17 (on := true) (H.out.below b2) b)
  go_wp2_with fail
  refine HC.out.mono ?_
  rintro e w3 ⟨rfl, b3⟩
  have hs23 := b3.size
  have HB3 := HB.below b3 HB.lt
  have HR3 := HR.below b3 HR.lt
  have b3w := b2.trans (b3.mono b2.size)
  clear HC q0 q1 q2 q3 HB HR b3
  by_cases hm : b ∈ greys ∨ b ∈ black
  · have hX1 : X = ⟨true, greys, black⟩ := by rw [hX.out, if_pos (.inr hm)]
    subst hX1
    have hd : (dColor ⟨true, greys, black⟩ b == 0) = false := by
      rw [beq_eq_false_iff_ne]
      unfold dColor
      rw [if_neg (by simp)]
      by_cases h1 : b ∈ greys
      · rw [if_pos h1]; decide
      · rw [if_neg h1, if_pos (hm.resolve_left h1)]; decide
    obtain ⟨dc, hdc⟩ : ∃ dc, dc = dColor ⟨true, greys, black⟩ b := ⟨_, rfl⟩
    rw [← hdc] at hd ⊢
    replace hdc := Lib.hid hdc
    go_wp2_with (first
      | (refine wpList_load_blk rfl 37 (.tmp 2) rfl gX rfl 37 (rm4 vo true vg vb) HB3 _ Tryd.underlying37 rfl SZ.out ?_)
      | (refine wpList_store_blk rfl 37 (.tmp 4) (.tmp 14) rfl gR rfl (rm4 vo true vg vb) rfl 37 (rm0) HR3 SZ.out rfl ONE.out ?_; intro w9 hR9 hg9 hs9))
    have b9 := b3w.grown hg9 b3w.size (fun k hk => by cases hk; have := hgR.out; omega)
    refine bodyPost_ret (res_cell rfl rfl hR9 Tryd.underlying37 rfl SZ.out) rfl ⟨vg, vb, rfl, H.out.below b9, Nw.refl _ _ _, Nw.refl _ _ _, b9⟩
  have hX1 : X = ⟨true, greys ++ [b], black⟩ := by rw [hX.out, if_neg (fun h => h.elim h0 hm)]
  subst hX1
  have hd : dColor ⟨true, greys, black⟩ b = 0 := by
    unfold dColor
    rw [if_neg (by simp), if_neg (fun h => hm (.inl h)), if_neg (fun h => hm (.inr h))]
  rw [hd]
  have c2 : w3.cell? ⟨gX, 2, none⟩ = some vg := HB3.cell 2
  have hgX3 : gX < w3.heap.size := HB3.lt
  have hown0 := Lib.hid (World.ownsRow_made (e := 3) (size := 1) w3 (base := w3.heap.size) #[] 0 (Nat.le_refl _) (Nat.zero_le _) rfl)
  have hrw := Lib.hid ((H.out.below b3w).gr)
  replace HB3 := Lib.hid HB3
  replace HR3 := Lib.hid HR3
  replace hd := Lib.hid hd
  clear z0
  go_wp2_with (at_builtin; refine wpList_append_all rfl (.tmp 15) (.tmp 17) _ rfl w3.heap.size 3 _ 8 Tryd.underlying34 int_info rfl _ 0 [] rfl hown0.out i64e _ greys (fun _ => rfl) rfl (hrw.out.below (below_alloc _ _)) (by unfold maxLen; omega) (by omega) (by simp) ?_; intro v4 w4 hown4 hg4 hat4; refine stop_here ?_)
  have b34 : Below w3.heap.size w3 w4 := (below_alloc w3 _).grown hg4 (by simp) (fun k hk => by cases hk; exact Nat.le_refl _)
  have hown4 : w4.ownsRow w3.heap.size 3 1 v4 greys.length (greys.map i64e) := by simpa using hown4
  obtain ⟨A4, c4, rfl, -⟩ := own_form hown4
  have hz4 := b34.size
  clear hown0 hrw hg4 hat4 c2
  refine go_on ?_
  go_wp2_with (at_builtin; refine wpList_push rfl (.tmp 19) (.tmp 21) _ rfl w3.heap.size 3 _ 8 Tryd.underlying34 int_info rfl (.slice A4 greys.length c4) _ _ rfl hown4 _ rfl rfl (by unfold maxLen; omega) (by omega) hz4 ?_; intro v5 w5 hown5 hg5 hat5; refine stop_here ?_)
  have b35 := b34.grown hg5 hz4 (fun k hk => (hown4.lt k hk).1)
  obtain ⟨A5, c5, rfl, -⟩ := own_form hown5
  have hgl3 := HB3.out.lt
  have hrl3 := HR3.out.lt
  have HB5 := HB3.out.below b35 hgl3
  have HR5 := HR3.out.below b35 hrl3
  have c25 : w5.cell? ⟨gX, 2, none⟩ = some vg := HB5.cell 2
  have f25 := HB5.frozen 2
  have HB6 : Blk (w5.setCell ⟨gX, 2, none⟩ (.slice A5 (greys.length + 1) c5)) gX 37 (rm4 vo true (.slice A5 (greys.length + 1) c5) vb) := HB5.set_ 2 _
  have HR6 : Blk (w5.setCell ⟨gX, 2, none⟩ (.slice A5 (greys.length + 1) c5)) gR 37 rm0 := HR5.far (p := ⟨gX, 2, none⟩) (by show gR ≠ gX; have := hgR.out; have := hgX.out; omega) _
  have b5w := b3w.trans (b35.mono b3w.size)
  have b6 : Below w.heap.size w (w5.setCell ⟨gX, 2, none⟩ (.slice A5 (greys.length + 1) c5)) := b5w.setCell (p := ⟨gX, 2, none⟩) (Nat.le_of_eq hgX.out.symm) _
  have ONE6 : Hid ((rm4 vo true (.slice A5 (greys.length + 1) c5) vb).all (·.oneCell') = true) := Lib.hid (by
    obtain ⟨us, _, h2, _⟩ := H.out.ob
    obtain ⟨A1, c1, rfl, -⟩ := h2.rd.len
    obtain ⟨A3, c3, rfl, -⟩ := H.out.bl.len
    simp [rm4, Value.oneCell'])
  replace hown5 := Lib.hid hown5
  replace b6 := Lib.hid b6
  clear hown4 hg5 hat5 b34 b35 HB5 HR5 b5w
  refine go_on ?_
  go_wp2_with (first
    | (refine wpList_load_blk rfl 37 (.tmp 2) rfl gX rfl 37 (rm4 vo true (.slice A5 (greys.length + 1) c5) vb) HB6 _ Tryd.underlying37 rfl SZ.out ?_)
    | (refine wpList_store_blk rfl 37 (.tmp 4) (.tmp 24) rfl gR rfl (rm4 vo true (.slice A5 (greys.length + 1) c5) vb) rfl 37 (rm0) HR6 SZ.out rfl ONE6.out ?_; intro w9 hR9 hg9 hs9))
  have b9 := b6.out.grown hg9 b6.out.size (fun k hk => by cases hk; have := hgR.out; omega)
  have ho9 : w9.ownsRow w3.heap.size 3 1 (.slice A5 (greys.length + 1) c5) (greys.length + 1) (greys.map i64e ++ [i64e b]) := own_keep hown5.out fun g e => by
    have h1 := hown5.out.lt g e
    refine (hg9.block g (by simpa [setCell_size] using h1.2) fun e2 => ?_).trans (setCell_other w5 gX 2 _ fun e2 => ?_)
    · cases e2; omega
    · omega
  have r9 : Rd i64e w9 (.slice A5 (greys.length + 1) c5) (greys ++ [b]) := by
    have hl : (greys ++ [b]).length = greys.length + 1 := by simp
    rw [← hl] at ho9 ⊢
    exact Rd.of_own (by rw [List.map_append]; exact ho9)
  have H9 := H.out.below b9
  refine bodyPost_ret (res_cell rfl rfl hR9 Tryd.underlying37 rfl SZ.out) rfl ⟨_, vb, rfl, ⟨H9.ob, r9, H9.bl, by rw [List.length_append]; show greys.length + 1 ≤ 4096; omega, H9.bs⟩, fun _ k hk => .inr ?_, Nw.refl _ _ _, b9⟩
  have := (hown5.out.lt k hk).1
  have := b3w.size
  omega
set_option maxHeartbeats 3200000 in
set_option maxRecDepth 100000 in
theorem mShade17 (H : RV w objs greys black vo vg vb) (b : Int) (hgs : greys.length ≤ 4000) (hb : 0 ≤ b ∧ b ≤ objs.length) (hol : objs.length ≤ 4096) :
    Calls Tryd.prog 46 #[.agg (rm4 vo on vg vb), .int .i64 b] w (RetM w objs greys black vo vg vb (if on = false then ⟨on, greys, black⟩ else dShade ⟨on, greys, black⟩ b) (fun v => .returned (.tuple #[v, .int .i64 0]))) := by
  have ONE := Lib.hid (H.one on)
  have SZ := Lib.hid rm_size
  replace H := Lib.hid H
  obtain ⟨X, hX⟩ : ∃ X, X = (if on = false then ⟨on, greys, black⟩ else dShade ⟨on, greys, black⟩ b) := ⟨_, rfl⟩
  rw [← hX]
  replace hX := Lib.hid hX
  go_enter Tryd.func46, Tryd.ntmps46
  go_wp2_with (first
    | (refine wpList_new rfl (.box 37 (.tmp 0)) rfl w.heap.size rfl 37 (rm4 vo on vg vb) (by kernel_rfl) ?_; intro w1 hs1 hb1 hB1)
    | (refine wpList_new rfl (.alloc 37) rfl (w.heap.size + 1) hs1 37 rm0 (by kernel_rfl) ?_; intro w2 hs2 hb2 hB2; refine stop_here ?_))
  have HB := hB1.below hb2 (by omega)
  have HR := hB2
  have b2 : Below w.heap.size w w2 := hb1.trans (hb2.mono (by omega))
  have hz2 : w2.heap.size = w.heap.size + 2 := by omega
  obtain ⟨gX, hgX⟩ : ∃ gX, gX = w.heap.size := ⟨_, rfl⟩
  obtain ⟨gR, hgR⟩ : ∃ gR, gR = w.heap.size + 1 := ⟨_, rfl⟩
  rw [← hgR] at HR ⊢
  rw [← hgX] at HB ⊢
  replace hgX := Lib.hid hgX
  replace hgR := Lib.hid hgR
  clear hs1 hB1 hb1 hB2 hs2 hb2
  have c1 : w2.cell? ⟨gX, 1, none⟩ = some (.bool on) := HB.cell 1
  refine go_on ?_
  by_cases hsame : on = false ∨ b = 0
  · have hX1 : X = ⟨on, greys, black⟩ := by
      rw [hX.out]
      by_cases h : on = false
      · rw [if_pos h]
      · rw [if_neg h]
        unfold dShade
        rw [if_pos (.inl (hsame.resolve_left h))]
    subst hX1
    rcases hsame with rfl | rfl
    · go_wp2_with (first
        | (refine wpList_load_blk rfl 37 (.tmp 2) rfl gX rfl 37 (rm4 vo false vg vb) HB _ Tryd.underlying37 rfl SZ.out ?_)
        | (refine wpList_store_blk rfl 37 (.tmp 4) (.tmp 13) rfl gR rfl (rm4 vo false vg vb) rfl 37 (rm0) HR SZ.out rfl ONE.out ?_; intro w9 hR9 hg9 hs9))
      have b9 := b2.grown hg9 b2.size (fun k hk => by cases hk; have := hgR.out; omega)
      refine bodyPost_ret (res_cell_tmp rfl rfl hR9 Tryd.underlying37 rfl SZ.out) rfl ⟨vg, vb, rfl, H.out.below b9, Nw.refl _ _ _, Nw.refl _ _ _, b9⟩
    · cases on with
      | false =>
        go_wp2_with (first
          | (refine wpList_load_blk rfl 37 (.tmp 2) rfl gX rfl 37 (rm4 vo false vg vb) HB _ Tryd.underlying37 rfl SZ.out ?_)
          | (refine wpList_store_blk rfl 37 (.tmp 4) (.tmp 13) rfl gR rfl (rm4 vo false vg vb) rfl 37 (rm0) HR SZ.out rfl ONE.out ?_; intro w9 hR9 hg9 hs9))
        have b9 := b2.grown hg9 b2.size (fun k hk => by cases hk; have := hgR.out; omega)
        refine bodyPost_ret (res_cell_tmp rfl rfl hR9 Tryd.underlying37 rfl SZ.out) rfl ⟨vg, vb, rfl, H.out.below b9, Nw.refl _ _ _, Nw.refl _ _ _, b9⟩
      | true =>
        go_wp2_with (first
          | (refine wpList_load_blk rfl 37 (.tmp 2) rfl gX rfl 37 (rm4 vo true vg vb) HB _ Tryd.underlying37 rfl SZ.out ?_)
          | (refine wpList_store_blk rfl 37 (.tmp 4) (.tmp 13) rfl gR rfl (rm4 vo true vg vb) rfl 37 (rm0) HR SZ.out rfl ONE.out ?_; intro w9 hR9 hg9 hs9))
        have b9 := b2.grown hg9 b2.size (fun k hk => by cases hk; have := hgR.out; omega)
        refine bodyPost_ret (res_cell_tmp rfl rfl hR9 Tryd.underlying37 rfl SZ.out) rfl ⟨vg, vb, rfl, H.out.below b9, Nw.refl _ _ _, Nw.refl _ _ _, b9⟩
  have hon : on = true := by
    cases on with
    | false => exact absurd (.inl rfl) hsame
    | true => rfl
  subst hon
  have h0 : b ≠ 0 := fun e => hsame (.inr e)
  have z0 : (b == 0) = false := beq_eq_false_iff_ne.2 h0
  have hX1 : X = dShade ⟨true, greys, black⟩ b := by rw [hX.out, if_neg (by simp)]
  subst hX1
  have HT := Lib.hid (mthere17 (on := true) (H.out.below b2) b hb hol)
  clear hsame h0
  go_wp2_with (refine wpList_load_blk rfl 37 (.tmp 2) rfl gX rfl 37 (rm4 vo true vg vb) HB _ Tryd.underlying37 rfl SZ.out ?_)
  refine HT.out.mono ?_
  rintro e w3 ⟨rfl, b3⟩
  have HB3 := HB.below b3 HB.lt
  have HR3 := HR.below b3 HR.lt
  have b3w := b2.trans (b3.mono b2.size)
  have HS := Lib.hid (mshade17 (H.out.below b3w) b hgs)
  clear HT HB HR b3 c1
  go_wp2_with (refine wpList_load_blk rfl 37 (.tmp 2) rfl gX rfl 37 (rm4 vo true vg vb) HB3 _ Tryd.underlying37 rfl SZ.out ?_)
  refine HS.out.mono ?_
  rintro e w4 ⟨vg', vb', rfl, H4, n1, n2, b4⟩
  have HR4 := HR3.below b4 HR3.lt
  have b4w := b3w.trans (b4.mono b3w.size)
  have ONE4 := Lib.hid (H4.one (dShade ⟨true, greys, black⟩ b).on)
  have hz3 := b3w.size
  clear HS HB3 HR3
  go_wp2_with (refine wpList_store_blk rfl 37 (.tmp 4) (.tmp 21) rfl gR rfl (rm4 vo (dShade ⟨true, greys, black⟩ b).on vg' vb') rfl 37 (rm0) HR4 SZ.out rfl ONE4.out ?_; intro w9 hR9 hg9 hs9)
  have b9 := b4w.grown hg9 b4w.size (fun k hk => by cases hk; have := hgR.out; omega)
  have H9 : RV w9 objs (dShade ⟨true, greys, black⟩ b).greys (dShade ⟨true, greys, black⟩ b).black vo vg' vb' := ⟨(H.out.below b9).ob, H4.gr.far_blk HR4 rm0_noint hg9, H4.bl.far_blk HR4 rm0_noint hg9, H4.gs, H4.bs⟩
  refine bodyPost_ret (res_cell_tmp rfl rfl hR9 Tryd.underlying37 rfl SZ.out) rfl ⟨vg', vb', rfl, H9, fun hp k hk => (n1 hp k hk).imp id (fun h => by omega), fun hp k hk => (n2 hp k hk).imp id (fun h => by omega), b9⟩
end
end Go.Proofs.YtnoiepmapmcjdaaDoor
namespace Go.Proofs.YtnoiepmapmcjdaaDoor
open Go.RowKit Go.Shelf
section
variable {w w' : World} {objs : List (List Int)} {greys black : List Int} {vo vg vb : Value} {on : Bool}
set_option maxHeartbeats 6400000 in
set_option maxRecDepth 100000 in
theorem mMade17 (H : RV w objs greys black vo vg vb) (b : Int) (hgs : greys.length ≤ 4000) (hbs : black.length ≤ 4000) (hb : 0 ≤ b ∧ b ≤ objs.length) (hol : objs.length ≤ 4096) :
    Calls Tryd.prog 47 #[.agg (rm4 vo on vg vb), .int .i64 b] w (RetM w objs greys black vo vg vb (if on = false ∨ b = 0 then ⟨on, greys, black⟩ else dMade ⟨on, greys, black⟩ b) (fun v => .returned (.tuple #[v, .int .i64 0]))) := by
  have ONE := Lib.hid (H.one on)
  have SZ := Lib.hid rm_size
  obtain ⟨Ag, cg, hvg, -⟩ := H.gr.len
  have HG := H.gr
  rw [hvg] at HG
  replace HG := Lib.hid HG
  replace H := Lib.hid H
  obtain ⟨X, hX⟩ : ∃ X, X = (if on = false ∨ b = 0 then (⟨on, greys, black⟩ : RD) else dMade ⟨on, greys, black⟩ b) := ⟨_, rfl⟩
  rw [← hX]
  replace hX := Lib.hid hX
  replace hvg := Lib.hid hvg
  go_enter Tryd.func47, Tryd.ntmps47
  go_wp2_with (first
    | (refine wpList_new rfl (.box 37 (.tmp 0)) rfl w.heap.size rfl 37 (rm4 vo on vg vb) (by kernel_rfl) ?_; intro w1 hs1 hb1 hB1)
    | (refine wpList_new rfl (.alloc 37) rfl (w.heap.size + 1) hs1 37 rm0 (by kernel_rfl) ?_; intro w2 hs2 hb2 hB2; refine stop_here ?_))
  have HB := hB1.below hb2 (by omega)
  have HR := hB2
  have b2 : Below w.heap.size w w2 := hb1.trans (hb2.mono (by omega))
  have hz2 : w2.heap.size = w.heap.size + 2 := by omega
  obtain ⟨gX, hgX⟩ : ∃ gX, gX = w.heap.size := ⟨_, rfl⟩
  obtain ⟨gR, hgR⟩ : ∃ gR, gR = w.heap.size + 1 := ⟨_, rfl⟩
  rw [← hgR] at HR ⊢
  rw [← hgX] at HB ⊢
  replace hgX := Lib.hid hgX
  replace hgR := Lib.hid hgR
  clear hs1 hB1 hb1 hB2 hs2 hb2
  have c1 : w2.cell? ⟨gX, 1, none⟩ = some (.bool on) := HB.cell 1
  refine go_on ?_
  by_cases hsame : on = false ∨ b = 0
  · have hX1 : X = ⟨on, greys, black⟩ := by rw [hX.out, if_pos hsame]
    subst hX1
    rcases hsame with rfl | rfl
    · go_wp2_with (first
        | (refine wpList_load_blk rfl 37 (.tmp 2) rfl gX rfl 37 (rm4 vo false vg vb) HB _ Tryd.underlying37 rfl SZ.out ?_)
        | (refine wpList_store_blk rfl 37 (.tmp 4) (.tmp 16) rfl gR rfl (rm4 vo false vg vb) rfl 37 (rm0) HR SZ.out rfl ONE.out ?_; intro w9 hR9 hg9 hs9))
      have b9 := b2.grown hg9 b2.size (fun k hk => by cases hk; have := hgR.out; omega)
      refine bodyPost_ret (res_cell_tmp rfl rfl hR9 Tryd.underlying37 rfl SZ.out) rfl ⟨vg, vb, rfl, H.out.below b9, Nw.refl _ _ _, Nw.refl _ _ _, b9⟩
    · cases on with
      | false =>
        go_wp2_with (first
          | (refine wpList_load_blk rfl 37 (.tmp 2) rfl gX rfl 37 (rm4 vo false vg vb) HB _ Tryd.underlying37 rfl SZ.out ?_)
          | (refine wpList_store_blk rfl 37 (.tmp 4) (.tmp 16) rfl gR rfl (rm4 vo false vg vb) rfl 37 (rm0) HR SZ.out rfl ONE.out ?_; intro w9 hR9 hg9 hs9))
        have b9 := b2.grown hg9 b2.size (fun k hk => by cases hk; have := hgR.out; omega)
        refine bodyPost_ret (res_cell_tmp rfl rfl hR9 Tryd.underlying37 rfl SZ.out) rfl ⟨vg, vb, rfl, H.out.below b9, Nw.refl _ _ _, Nw.refl _ _ _, b9⟩
      | true =>
        go_wp2_with (first
          | (refine wpList_load_blk rfl 37 (.tmp 2) rfl gX rfl 37 (rm4 vo true vg vb) HB _ Tryd.underlying37 rfl SZ.out ?_)
          | (refine wpList_store_blk rfl 37 (.tmp 4) (.tmp 16) rfl gR rfl (rm4 vo true vg vb) rfl 37 (rm0) HR SZ.out rfl ONE.out ?_; intro w9 hR9 hg9 hs9))
        have b9 := b2.grown hg9 b2.size (fun k hk => by cases hk; have := hgR.out; omega)
        refine bodyPost_ret (res_cell_tmp rfl rfl hR9 Tryd.underlying37 rfl SZ.out) rfl ⟨vg, vb, rfl, H.out.below b9, Nw.refl _ _ _, Nw.refl _ _ _, b9⟩
  have hon : on = true := by
    cases on with
    | false => exact absurd (.inl rfl) hsame
    | true => rfl
  subst hon
  have h0 : b ≠ 0 := fun e => hsame (.inr e)
  have z0 : (b == 0) = false := beq_eq_false_iff_ne.2 h0
  have hX1 : X = ⟨true, greys.filter (fun x => x != b), if b ∈ black then black else black ++ [b]⟩ := by rw [hX.out, if_neg hsame]; rfl
  subst hX1
  have HT := Lib.hid (mthere17 (on := true) (H.out.below b2) b hb hol)
  clear hsame h0 hX
  go_wp2_with (refine wpList_load_blk rfl 37 (.tmp 2) rfl gX rfl 37 (rm4 vo true vg vb) HB _ Tryd.underlying37 rfl SZ.out ?_)
  refine HT.out.mono ?_
  rintro e w3 ⟨rfl, b3⟩
  have HB3 := HB.below b3 HB.lt
  have HR3 := HR.below b3 HR.lt
  have hs23 := b3.size
  have b3w := b2.trans (b3.mono b2.size)
  clear HT HB HR b3 c1
  go_wp2_with fail
  replace HB3 := Lib.hid HB3
  replace HR3 := Lib.hid HR3
  go_loopw [6, 7] (fun gv i wr => ∃ j : Nat, j ≤ greys.length ∧ i = .int .i64 j ∧ Hid (wr.ownsRow w3.heap.size 3 1 gv ((greys.take j).filter (fun x => x != b)).length (((greys.take j).filter (fun x => x != b)).map i64e)) ∧ Hid (Below w3.heap.size w3 wr)) (fun _ i _ => greys.length - (intOf i).toNat)
  case atStart => exact ⟨0, by omega, rfl, Lib.hid (World.ownsRow_nil _ _ _ _), Lib.hid (Below.refl _ _)⟩
  case round =>
    obtain ⟨j, hj, rfl, ho, hbw⟩ := hrel
    have hz := hbw.out.size
    have HBw := HB3.out.below hbw.out HB3.out.lt
    have hbww := b3w.trans (hbw.out.mono b3w.size)
    have k2 : wr.cell? ⟨gX, 2, none⟩ = some (.slice Ag greys.length cg) := by rw [← hvg.out]; exact HBw.cell 2
    obtain ⟨Af, cf, rfl, -⟩ := own_form ho.out
    by_cases hlt : j < greys.length
    · have t0 : (j : Int) < (greys.length : Int) := by omega
      obtain ⟨bg, og, hAg, _, hc⟩ := (HG.out.below hbww).at_ hlt
      obtain ⟨y, hy⟩ : ∃ y, greys[j] = y := ⟨_, rfl⟩
      rw [hy] at hc
      replace hc : wr.cell? ⟨bg, og + j, none⟩ = some (.int .i64 y) := hc
      rw [hAg] at k2
      have htk : greys.take (j + 1) = greys.take j ++ [y] := by rw [take_snoc greys hlt, hy]
      have hfl := List.length_filter_le (fun x => x != b) (greys.take j)
      rw [List.length_take] at hfl
      obtain ⟨fl, hfl2⟩ : ∃ fl, fl = (greys.take j).filter (fun x => x != b) := ⟨_, rfl⟩
      rw [← hfl2] at ho hfl ⊢
      have hfl3 : fl.length ≤ 4000 := by omega
      replace hAg := Lib.hid hAg
      clear HBw hbww hy
      by_cases hyb : y = b
      · subst hyb
        have ho2 : Hid (wr.ownsRow w3.heap.size 3 1 (.slice Af fl.length cf) ((greys.take (j + 1)).filter (fun x => x != y)).length (((greys.take (j + 1)).filter (fun x => x != y)).map i64e)) := Lib.hid (by
          rw [htk, List.filter_append, ← hfl2]
          simpa using ho.out)
        clear htk ho hfl2
        go_wp2_with fail
        go_roundw
        case rel => exact ⟨j + 1, by omega, by go_num, ho2, hbw⟩
        case measure => simp [intOf]; omega
      · have hyb2 : (y == b) = false := beq_eq_false_iff_ne.2 hyb
        replace htk := Lib.hid htk
        replace hfl2 := Lib.hid hfl2
        go_wp2_with (at_builtin; refine wpList_push rfl (.tmp 36) (.tmp 42) _ rfl w3.heap.size 3 _ 8 Tryd.underlying34 int_info rfl (.slice Af fl.length cf) _ _ rfl ho.out _ rfl rfl (by unfold maxLen; omega) (by omega) hz ?_; intro v5 w5 hown5 hg5 hat5; refine stop_here ?_)
        have hb5 := Lib.hid (hbw.out.grown hg5 hz (fun k hk => (ho.out.lt k hk).1))
        have ho2 : Hid (w5.ownsRow w3.heap.size 3 1 v5 ((greys.take (j + 1)).filter (fun x => x != b)).length (((greys.take (j + 1)).filter (fun x => x != b)).map i64e)) := Lib.hid (by
          rw [htk.out, List.filter_append, ← hfl2.out]
          simpa [hyb] using hown5)
        clear hown5 hg5 hat5 ho
        refine go_on ?_
        go_wp2_with fail
        go_roundw
        case rel => exact ⟨j + 1, by omega, by go_num, ho2, hb5⟩
        case measure => simp [intOf]; omega
    · obtain rfl : j = greys.length := by omega
      rw [List.take_length] at ho ⊢
      obtain ⟨fl, hfl2⟩ : ∃ fl, fl = greys.filter (fun x => x != b) := ⟨_, rfl⟩
      have hfl := List.length_filter_le (fun x => x != b) greys
      rw [← hfl2] at ho hfl ⊢
      replace hfl2 := Lib.hid hfl2
      have f2 := HBw.frozen 2
      have HB6 : Blk (wr.setCell ⟨gX, 2, none⟩ (.slice Af fl.length cf)) gX 37 (rm4 vo true (.slice Af fl.length cf) vb) := HBw.set_ 2 _
      have hgl3 := HB3.out.lt
      have HR6 : Blk (wr.setCell ⟨gX, 2, none⟩ (.slice Af fl.length cf)) gR 37 rm0 := (HR3.out.below hbw.out HR3.out.lt).far (p := ⟨gX, 2, none⟩) (by show gR ≠ gX; have := hgR.out; have := hgX.out; omega) _
      have b6 : Below w.heap.size w (wr.setCell ⟨gX, 2, none⟩ (.slice Af fl.length cf)) := hbww.setCell (p := ⟨gX, 2, none⟩) (Nat.le_of_eq hgX.out.symm) _
      have q3 : (wr.setCell ⟨gX, 2, none⟩ (.slice Af fl.length cf)).cell? ⟨gX, 3, none⟩ = some vb := HB6.cell 3
      have o6 : (wr.setCell ⟨gX, 2, none⟩ (.slice Af fl.length cf)).ownsRow w3.heap.size 3 1 (.slice Af fl.length cf) fl.length (fl.map i64e) := own_keep ho.out fun g e => setCell_other wr gX 2 _ (by have := (ho.out.lt g e).1; omega)
      have HH := Lib.hid (mhas17 vb black b _ (H.out.bl.below b6) H.out.bs)
      replace HB6 := Lib.hid HB6
      replace HR6 := Lib.hid HR6
      replace b6 := Lib.hid b6
      replace o6 := Lib.hid o6
      clear HBw hbww ho
      go_wp2_with fail
      obtain ⟨w6, hw6⟩ : ∃ w6, w6 = wr.setCell ⟨gX, 2, none⟩ (.slice Af fl.length cf) := ⟨_, rfl⟩
      rw [← hw6] at HB6 HR6 b6 o6 q3 HH ⊢
      have z6 : w3.heap.size ≤ w6.heap.size := by rw [hw6, setCell_size]; exact hz
      clear hw6 k2 f2
      refine HH.out.mono ?_
      rintro e _ ⟨rfl, rfl⟩
      have ONE6 : Hid ((rm4 vo true (.slice Af fl.length cf) vb).all (·.oneCell') = true) := Lib.hid (by
        obtain ⟨us, _, h2, _⟩ := H.out.ob
        obtain ⟨A1, c1, rfl, -⟩ := h2.rd.len
        obtain ⟨A3, c3, rfl, -⟩ := H.out.bl.len
        simp [rm4, Value.oneCell'])
      clear HH
      by_cases hk : b ∈ black
      · rw [decide_eq_true hk]
        go_wp2_with (first
          | (refine wpList_load_blk rfl 37 (.tmp 2) rfl gX rfl 37 (rm4 vo true (.slice Af fl.length cf) vb) HB6.out _ Tryd.underlying37 rfl SZ.out ?_)
          | (refine wpList_store_blk rfl 37 (.tmp 4) (.tmp 60) rfl gR rfl (rm4 vo true (.slice Af fl.length cf) vb) rfl 37 (rm0) HR6.out SZ.out rfl ONE6.out ?_; intro w9 hR9 hg9 hs9))
        have b9 := b6.out.grown hg9 b6.out.size (fun k hk => by cases hk; have := hgR.out; omega)
        have o9 := own_keep o6.out fun g e => hg9.block g (o6.out.lt g e).2 (fun e2 => by cases e2; have := (o6.out.lt _ e).1; have := HR3.out.lt; omega)
        have H9 := H.out.below b9
        have hbk : (if b ∈ black then black else black ++ [b]) = black := if_pos hk
        refine bodyPost_ret (res_cell_tmp rfl rfl hR9 Tryd.underlying37 rfl SZ.out) rfl ⟨_, vb, rfl, ⟨H9.ob, by rw [← hfl2.out]; exact Rd.of_own o9, by first | exact H9.bl | (rw [hbk]; exact H9.bl), by rw [← hfl2.out]; show fl.length ≤ 4096; omega, by first | exact H9.bs | (rw [hbk]; exact H9.bs)⟩, fun _ k hk => .inr ?_, Nw.refl _ _ _, b9⟩
        have := (o6.out.lt k hk).1
        have := b3w.size
        omega
      · rw [decide_eq_false hk]
        have hgX6 : gX < w6.heap.size := HB6.out.lt
        have hown0 := Lib.hid (World.ownsRow_made (e := 3) (size := 1) w6 (base := w6.heap.size) #[] 0 (Nat.le_refl _) (Nat.zero_le _) rfl)
        have hrw := Lib.hid ((H.out.below b6.out).bl)
        go_wp2_with (at_builtin; refine wpList_append_all rfl (.tmp 51) (.tmp 53) _ rfl w6.heap.size 3 _ 8 Tryd.underlying34 int_info rfl _ 0 [] rfl hown0.out i64e _ black (fun _ => rfl) rfl (hrw.out.below (below_alloc _ _)) (by unfold maxLen; omega) (by omega) (by simp) ?_; intro v7 w7 hown7 hg7 hat7; refine stop_here ?_)
        have b67 : Below w6.heap.size w6 w7 := (below_alloc w6 _).grown hg7 (by simp) (fun k hk => by cases hk; exact Nat.le_refl _)
        have hown7 : w7.ownsRow w6.heap.size 3 1 v7 black.length (black.map i64e) := by simpa using hown7
        obtain ⟨A7, c7, rfl, -⟩ := own_form hown7
        have hz7 := b67.size
        clear hown0 hrw hg7 hat7 q3
        refine go_on ?_
        go_wp2_with (at_builtin; refine wpList_push rfl (.tmp 55) (.tmp 57) _ rfl w6.heap.size 3 _ 8 Tryd.underlying34 int_info rfl (.slice A7 black.length c7) _ _ rfl hown7 _ rfl rfl (by unfold maxLen; omega) (by omega) hz7 ?_; intro v8 w8 hown8 hg8 hat8; refine stop_here ?_)
        have b68 := b67.grown hg8 hz7 (fun k hk => (hown7.lt k hk).1)
        obtain ⟨A8, c8, rfl, -⟩ := own_form hown8
        have HB8 := HB6.out.below b68 hgX6
        have HR8 := HR6.out.below b68 HR6.out.lt
        have c83 : w8.cell? ⟨gX, 3, none⟩ = some vb := HB8.cell 3
        have f83 := HB8.frozen 3
        have HBf : Blk (w8.setCell ⟨gX, 3, none⟩ (.slice A8 (black.length + 1) c8)) gX 37 (rm4 vo true (.slice Af fl.length cf) (.slice A8 (black.length + 1) c8)) := HB8.set_ 3 _
        have HRf : Blk (w8.setCell ⟨gX, 3, none⟩ (.slice A8 (black.length + 1) c8)) gR 37 rm0 := HR8.far (p := ⟨gX, 3, none⟩) (by show gR ≠ gX; have := hgR.out; have := hgX.out; omega) _
        have b8w := b6.out.trans (b68.mono b6.out.size)
        have bf : Below w.heap.size w (w8.setCell ⟨gX, 3, none⟩ (.slice A8 (black.length + 1) c8)) := b8w.setCell (p := ⟨gX, 3, none⟩) (Nat.le_of_eq hgX.out.symm) _
        have ONEf : Hid ((rm4 vo true (.slice Af fl.length cf) (.slice A8 (black.length + 1) c8)).all (·.oneCell') = true) := Lib.hid (by
          obtain ⟨us, _, h2, _⟩ := H.out.ob
          obtain ⟨A1, c1, rfl, -⟩ := h2.rd.len
          simp [rm4, Value.oneCell'])
        have o8g : w8.ownsRow w3.heap.size 3 1 (.slice Af fl.length cf) fl.length (fl.map i64e) := own_keep o6.out fun g e => b68.block g (o6.out.lt g e).2
        replace hown8 := Lib.hid hown8
        replace bf := Lib.hid bf
        replace o8g := Lib.hid o8g
        clear hown7 hg8 hat8 b67 b68 HB8 HR8 b8w
        refine go_on ?_
        go_wp2_with (first
          | (refine wpList_load_blk rfl 37 (.tmp 2) rfl gX rfl 37 (rm4 vo true (.slice Af fl.length cf) (.slice A8 (black.length + 1) c8)) HBf _ Tryd.underlying37 rfl SZ.out ?_)
          | (refine wpList_store_blk rfl 37 (.tmp 4) (.tmp 60) rfl gR rfl (rm4 vo true (.slice Af fl.length cf) (.slice A8 (black.length + 1) c8)) rfl 37 (rm0) HRf SZ.out rfl ONEf.out ?_; intro w9 hR9 hg9 hs9))
        have b9 := bf.out.grown hg9 bf.out.size (fun k hk => by cases hk; have := hgR.out; omega)
        have hrl := HR3.out.lt
        have kp : ∀ g, w3.heap.size ≤ g → g < w8.heap.size → w9.heap[g]? = w8.heap[g]? := fun g h1 h2 => (hg9.block g (by simpa [setCell_size] using h2) (fun e2 => by cases e2; omega)).trans (setCell_other w8 gX 3 _ (by omega))
        have o9 := own_keep o8g.out fun g e => kp g (o8g.out.lt g e).1 (o8g.out.lt g e).2
        have o9b := own_keep hown8.out fun g e => kp g (by have := (hown8.out.lt g e).1; omega) (hown8.out.lt g e).2
        have r9b : Rd i64e w9 (.slice A8 (black.length + 1) c8) (black ++ [b]) := by
          have hl : (black ++ [b]).length = black.length + 1 := by simp
          rw [← hl] at o9b ⊢
          exact Rd.of_own (by rw [List.map_append]; exact o9b)
        have H9 := H.out.below b9
        have hbk : (if b ∈ black then black else black ++ [b]) = black ++ [b] := if_neg hk
        have hw3 := b3w.size
        refine bodyPost_ret (res_cell_tmp rfl rfl hR9 Tryd.underlying37 rfl SZ.out) rfl ⟨_, _, rfl, ⟨H9.ob, by rw [← hfl2.out]; exact Rd.of_own o9, by first | exact r9b | (rw [hbk]; exact r9b), by rw [← hfl2.out]; show fl.length ≤ 4096; omega, by have hq : (black ++ [b]).length ≤ 4096 := (by rw [List.length_append]; show black.length + 1 ≤ 4096; omega); first | exact hq | (rw [hbk]; exact hq)⟩, fun _ k hk => .inr ?_, fun _ k hk => .inr ?_, b9⟩
        · have := (o8g.out.lt k hk).1
          omega
        · have := (hown8.out.lt k hk).1
          omega
end
end Go.Proofs.YtnoiepmapmcjdaaDoor
namespace Go.Proofs.YtnoiepmapmcjdaaDoor
open Go.RowKit Go.Shelf
def nsN (n : Nat) : List Int := (List.range n).map fun (i : Nat) => (i : Int) + 1
def whN (n : Nat) (X : RD) : List Int := (nsN n).filter fun b => dColor X b == 0
theorem nsN_len (n : Nat) : (nsN n).length = n := by simp [nsN]
theorem nsN_at {n i : Nat} (h : i < (nsN n).length) : (nsN n)[i] = (i : Int) + 1 := by simp [nsN]
theorem rd_nil0 {w : World} {b o : Nat} {g : List Int} (h : g.length = 0) : Rd i64e w (.slice (some ⟨b, o, none⟩) g.length 0) g := ⟨_, _, rfl, ⟨by omega, by omega, fun e => by cases e⟩, fun hp => absurd hp (by omega)⟩
theorem Rd.tail {α : Type} {enc : α → Value} {w : World} {b o c : Nat} {x : α} {xs : List α} (h : Rd enc w (.slice (some ⟨b, o, none⟩) (xs.length + 1) c) (x :: xs)) : Rd enc w (.slice (some ⟨b, o + 1, none⟩) xs.length (c - 1)) xs := by
  obtain ⟨A, c', he, h1, h3⟩ := h
  injection he with e1 e2 e3
  subst e1 e3
  have hl : (x :: xs).length = xs.length + 1 := rfl
  refine ⟨_, _, rfl, ⟨by omega, by omega, fun e => by cases e⟩, fun hp => ?_⟩
  obtain ⟨b', o', e, hlt, hc⟩ := h3 (by omega)
  cases e
  refine ⟨_, _, rfl, hlt, fun i hi => ?_⟩
  have := hc (i + 1) (by omega)
  rw [show o + 1 + i = o + (i + 1) by omega, this]
  rfl
theorem shades_ok {n : Nat} : ∀ (l : List Int) {R : RD}, DOk n R → (∀ b ∈ l, 0 ≤ b ∧ b ≤ n) → DOk n (l.foldl dShade R)
  | [], _, h, _ => h
  | b :: l, _, h, hl => shades_ok l (shade_fold_ok h (hl b (by simp))) fun x hx => hl x (by simp [hx])
theorem takeok17 {n : Nat} {on : Bool} {p : Int} {g black : List Int} (H : DOk n ⟨on, p :: g, black⟩) : DOk n ⟨on, g, black ++ [p]⟩ := by
  refine ⟨?_, fun b hb => H.bd b ?_⟩
  · show (g ++ (black ++ [p])).Nodup
    rw [← List.append_assoc]
    have h2 : (p :: (g ++ black)).Nodup := H.nd
    rw [List.nodup_cons] at h2
    rw [List.nodup_append]
    exact ⟨h2.2, by simp, fun x hx y hy => by obtain rfl := List.mem_singleton.1 hy; exact fun e => h2.1 (e ▸ hx)⟩
  · rcases hb with h | h
    · exact .inl (List.mem_cons_of_mem _ h)
    · rcases List.mem_append.1 h with h | h
      · exact .inr h
      · obtain rfl := List.mem_singleton.1 h; exact .inl (by simp)
theorem ok_len {n : Nat} {R : RD} (H : DOk n R) : R.greys.length ≤ n ∧ R.black.length ≤ n := by
  have hn := List.nodup_append.1 H.nd
  exact ⟨nodup_lenI n _ hn.1 fun x hx => H.bd x (.inl hx), nodup_lenI n _ hn.2.1 fun x hx => H.bd x (.inr hx)⟩
section
variable {w w' : World} {objs : List (List Int)} {greys black : List Int} {vo vg vb : Value} {on : Bool}
set_option maxHeartbeats 6400000 in
set_option maxRecDepth 100000 in
theorem mEnd17_off (H : RV w objs greys black vo vg vb) :
    Calls Tryd.prog 49 #[.agg (rm4 vo false vg vb)] w (RetM w objs greys black vo vg vb ⟨false, greys, black⟩ (fun v => .returned (.tuple #[v, .slice none 0 0, .int .i64 7]))) := by
  have ONE := Lib.hid (H.one false)
  have SZ := Lib.hid rm_size
  replace H := Lib.hid H
  go_enter Tryd.func49, Tryd.ntmps49
  go_wp2_with (first
    | (refine wpList_new rfl (.box 37 (.tmp 0)) rfl w.heap.size rfl 37 (rm4 vo false vg vb) (by kernel_rfl) ?_; intro w1 hs1 hb1 hB1)
    | (refine wpList_new rfl (.alloc 37) rfl (w.heap.size + 1) hs1 37 rm0 (by kernel_rfl) ?_; intro w2 hs2 hb2 hB2; refine stop_here ?_))
  have HB := hB1.below hb2 (by omega)
  have HR := hB2
  have b2 : Below w.heap.size w w2 := hb1.trans (hb2.mono (by omega))
  have hz2 : w2.heap.size = w.heap.size + 2 := by omega
  obtain ⟨gX, hgX⟩ : ∃ gX, gX = w.heap.size := ⟨_, rfl⟩
  obtain ⟨gR, hgR⟩ : ∃ gR, gR = w.heap.size + 1 := ⟨_, rfl⟩
  rw [← hgR] at HR ⊢
  rw [← hgX] at HB ⊢
  replace hgX := Lib.hid hgX
  replace hgR := Lib.hid hgR
  clear hs1 hB1 hb1 hB2 hs2 hb2
  have c1 : w2.cell? ⟨gX, 1, none⟩ = some (.bool false) := HB.cell 1
  refine go_on ?_
  go_wp2_with (first
    | (refine wpList_load_blk rfl 37 (.tmp 1) rfl gX rfl 37 (rm4 vo false vg vb) HB _ Tryd.underlying37 rfl SZ.out ?_)
    | (refine wpList_store_blk rfl 37 (.tmp 2) (.tmp 10) rfl gR rfl (rm4 vo false vg vb) rfl 37 (rm0) HR SZ.out rfl ONE.out ?_; intro w9 hR9 hg9 hs9))
  have b9 := b2.grown hg9 b2.size (fun k hk => by cases hk; have := hgR.out; omega)
  refine bodyPost_ret (res_cell_tmp2 rfl rfl hR9 Tryd.underlying37 rfl SZ.out) rfl ⟨vg, vb, rfl, H.out.below b9, Nw.refl _ _ _, Nw.refl _ _ _, b9⟩
set_option maxHeartbeats 6400000 in
set_option maxRecDepth 100000 in
theorem mEnd17_on (H : RV w objs greys black vo vg vb) (n : Nat) (hol : objs.length = n) (hn : n ≤ 11) :
    Calls Tryd.prog 49 #[.agg (rm4 vo true vg vb)] w fun e w' => ∃ vl, e = .returned (.tuple #[.agg (rm4 vo false vg vb), vl, .int .i64 0]) ∧ w'.ownsRow w.heap.size 3 1 vl (whN n ⟨true, greys, black⟩).length ((whN n ⟨true, greys, black⟩).map i64e) ∧ Below w.heap.size w w' := by
  have ONE := Lib.hid (H.one false)
  have SZ := Lib.hid rm_size
  obtain ⟨us, u1, u2, _⟩ := H.ob
  obtain ⟨Ao, co, rfl, -⟩ := u2.rd.len
  have hul : us.length = n := by rw [u1, hol]
  rw [hul] at H ONE ⊢
  clear u1 u2
  replace hul := Lib.hid hul
  replace hol := Lib.hid hol
  replace H := Lib.hid H
  obtain ⟨X, hX⟩ : ∃ X : RD, X = ⟨true, greys, black⟩ := ⟨_, rfl⟩
  rw [← hX]
  obtain ⟨W, hW⟩ : ∃ W, W = whN n X := ⟨_, rfl⟩
  rw [← hW]
  have hCol := Lib.hid (fun wx (bx : Below w.heap.size w wx) (b : Int) => mcol17 (on := true) (H.out.below bx) b)
  rw [← hX] at hCol
  replace hX := Lib.hid hX
  replace hW := Lib.hid hW
  go_enter Tryd.func49, Tryd.ntmps49
  go_wp2_with (first
    | (refine wpList_new rfl (.box 37 (.tmp 0)) rfl w.heap.size rfl 37 (rm4 (.slice Ao n co) true vg vb) (by kernel_rfl) ?_; intro w1 hs1 hb1 hB1)
    | (refine wpList_new rfl (.alloc 37) rfl (w.heap.size + 1) hs1 37 rm0 (by kernel_rfl) ?_; intro w2 hs2 hb2 hB2; refine stop_here ?_))
  have HB := hB1.below hb2 (by omega)
  have HR := hB2
  have b2 : Below w.heap.size w w2 := hb1.trans (hb2.mono (by omega))
  have hz2 : w2.heap.size = w.heap.size + 2 := by omega
  obtain ⟨gX, hgX⟩ : ∃ gX, gX = w.heap.size := ⟨_, rfl⟩
  obtain ⟨gR, hgR⟩ : ∃ gR, gR = w.heap.size + 1 := ⟨_, rfl⟩
  rw [← hgR] at HR ⊢
  rw [← hgX] at HB ⊢
  replace hgX := Lib.hid hgX
  replace hgR := Lib.hid hgR
  clear hs1 hB1 hb1 hB2 hs2 hb2
  have c1 : w2.cell? ⟨gX, 1, none⟩ = some (.bool true) := HB.cell 1
  replace HB := Lib.hid HB
  replace HR := Lib.hid HR
  refine go_on ?_
  go_wp2_with fail
  go_loopw [5, 6] (fun gv i wr => ∃ j : Nat, j ≤ n ∧ i = .int .i64 ((j : Int) + 1) ∧ Hid (wr.ownsRow w2.heap.size 3 1 gv (((nsN n).take j).filter (fun b => dColor X b == 0)).length ((((nsN n).take j).filter (fun b => dColor X b == 0)).map i64e)) ∧ Hid (Below w2.heap.size w2 wr)) (fun _ i _ => n + 1 - (intOf i).toNat)
  case atStart => exact ⟨0, by omega, rfl, Lib.hid (World.ownsRow_nil _ _ _ _), Lib.hid (Below.refl _ _)⟩
  case round =>
    clear c1
    obtain ⟨j, hj, rfl, ho, hbw⟩ := hrel
    have hz := hbw.out.size
    have HBw := HB.out.below hbw.out HB.out.lt
    have hbww := b2.trans (hbw.out.mono b2.size)
    have k0 : wr.cell? ⟨gX, 0, none⟩ = some (.slice Ao n co) := HBw.cell 0
    obtain ⟨Af, cf, rfl, -⟩ := own_form ho.out
    by_cases hlt : j < n
    · have t0 : (j : Int) + 1 ≤ (n : Int) := by omega
      have hjn : j < (nsN n).length := by rw [nsN_len]; exact hlt
      have hy : (nsN n)[j] = (j : Int) + 1 := nsN_at hjn
      have htk : (nsN n).take (j + 1) = (nsN n).take j ++ [(j : Int) + 1] := by rw [take_snoc (nsN n) hjn, hy]
      have hfl := List.length_filter_le (fun b => dColor X b == 0) ((nsN n).take j)
      rw [List.length_take] at hfl
      obtain ⟨fl, hfl2⟩ : ∃ fl, fl = ((nsN n).take j).filter (fun b => dColor X b == 0) := ⟨_, rfl⟩
      rw [← hfl2] at ho hfl ⊢
      have hfl3 : fl.length ≤ 11 := by omega
      have HC := Lib.hid (hCol.out wr hbww ((j : Int) + 1))
      obtain ⟨dc, hdc⟩ : ∃ dc, dc = dColor X ((j : Int) + 1) := ⟨_, rfl⟩
      rw [← hdc] at HC
      clear hy hjn
      replace htk := Lib.hid htk
      replace hfl2 := Lib.hid hfl2
      replace hdc := Lib.hid hdc
      go_wp2_with (refine wpList_load_blk rfl 37 (.tmp 1) rfl gX rfl 37 (rm4 (.slice Ao n co) true vg vb) HBw _ Tryd.underlying37 rfl SZ.out ?_)
      refine HC.out.mono ?_
      rintro e w4 ⟨rfl, b4⟩
      have hb4 := hbw.out.trans (b4.mono hz)
      have hz4 := hb4.size
      have ho4 := own_below ho.out b4
      clear HC HBw hbww b4
      by_cases h0 : dc = 0
      · subst h0
        go_wp2_with (at_builtin; refine wpList_push rfl (.tmp 22) (.tmp 24) _ rfl w2.heap.size 3 _ 8 Tryd.underlying34 int_info rfl (.slice Af fl.length cf) _ _ rfl ho4 _ rfl rfl (by unfold maxLen; omega) (by omega) hz4 ?_; intro v5 w5 hown5 hg5 hat5; refine stop_here ?_)
        have hb5 := Lib.hid (hb4.grown hg5 hz4 (fun k hk => (ho4.lt k hk).1))
        have ho2 : Hid (w5.ownsRow w2.heap.size 3 1 v5 (((nsN n).take (j + 1)).filter (fun b => dColor X b == 0)).length ((((nsN n).take (j + 1)).filter (fun b => dColor X b == 0)).map i64e)) := Lib.hid (by
          rw [htk.out, List.filter_append, ← hfl2.out]
          simpa [← hdc.out] using hown5)
        clear hown5 hg5 hat5 ho ho4 hb4
        refine go_on ?_
        go_wp2_with fail
        go_roundw
        case rel => exact ⟨j + 1, by omega, by go_num, ho2, hb5⟩
        case measure => simp [intOf]; omega
      · have h02 : (dc == 0) = false := beq_eq_false_iff_ne.2 h0
        have ho2 : Hid (w4.ownsRow w2.heap.size 3 1 (.slice Af fl.length cf) (((nsN n).take (j + 1)).filter (fun b => dColor X b == 0)).length ((((nsN n).take (j + 1)).filter (fun b => dColor X b == 0)).map i64e)) := Lib.hid (by
          rw [htk.out, List.filter_append, ← hfl2.out]
          simpa [← hdc.out, h0] using ho4)
        have hb5 := Lib.hid hb4
        clear ho ho4 hb4 h0
        go_wp2_with fail
        go_roundw
        case rel => exact ⟨j + 1, by omega, by go_num, ho2, hb5⟩
        case measure => simp [intOf]; omega
    · obtain rfl : j = n := by omega
      rw [List.take_of_length_le (by rw [nsN_len]; exact Nat.le_refl _)] at ho ⊢
      have hWe : W = (nsN j).filter (fun b => dColor X b == 0) := hW.out
      rw [← hWe] at ho ⊢
      replace hWe := Lib.hid hWe
      have t0 : decide ((j : Int) + 1 ≤ (j : Int)) = false := by rw [decide_eq_false_iff_not]; omega
      have k1 : wr.cell? ⟨gX, 1, none⟩ = some (.bool true) := HBw.cell 1
      have f1 := HBw.frozen 1
      have hgl := HB.out.lt
      have HB6 : Blk (wr.setCell ⟨gX, 1, none⟩ (.bool false)) gX 37 (rm4 (.slice Ao j co) false vg vb) := HBw.set_ 1 _
      have HR6 : Blk (wr.setCell ⟨gX, 1, none⟩ (.bool false)) gR 37 rm0 := (HR.out.below hbw.out HR.out.lt).far (p := ⟨gX, 1, none⟩) (by show gR ≠ gX; have := hgR.out; have := hgX.out; omega) _
      have b6 : Below w.heap.size w (wr.setCell ⟨gX, 1, none⟩ (.bool false)) := hbww.setCell (p := ⟨gX, 1, none⟩) (Nat.le_of_eq hgX.out.symm) _
      have o6 : (wr.setCell ⟨gX, 1, none⟩ (.bool false)).ownsRow w2.heap.size 3 1 (.slice Af W.length cf) W.length (W.map i64e) := own_keep ho.out fun g e => setCell_other wr gX 1 _ (by have := (ho.out.lt g e).1; omega)
      replace o6 := Lib.hid o6
      replace b6 := Lib.hid b6
      clear HBw hbww ho
      go_wp2_with (first
        | (refine wpList_load_blk rfl 37 (.tmp 1) rfl gX rfl 37 (rm4 (.slice Ao j co) false vg vb) HB6 _ Tryd.underlying37 rfl SZ.out ?_)
        | (refine wpList_store_blk rfl 37 (.tmp 2) (.tmp 27) rfl gR rfl (rm4 (.slice Ao j co) false vg vb) rfl 37 (rm0) HR6 SZ.out rfl ONE.out ?_; intro w9 hR9 hg9 hs9))
      have b9 := b6.out.grown hg9 b6.out.size (fun k hk => by cases hk; have := hgR.out; omega)
      have o9 := own_keep o6.out fun g e => hg9.block g (o6.out.lt g e).2 (fun e2 => by cases e2; have := (o6.out.lt _ e).1; have := HR.out.lt; omega)
      exact bodyPost_ret (res_cell_tmp2 rfl rfl hR9 Tryd.underlying37 rfl SZ.out) rfl ⟨_, rfl, own_base o9 (by have := b2.size; omega), b9⟩
set_option maxHeartbeats 6400000 in
set_option maxRecDepth 100000 in
theorem mStep17 (H : RV w objs greys black vo vg vb) (n : Nat) (hok : DOk n ⟨on, greys, black⟩) (hol : objs.length = n) (hn : n ≤ 11) (hrow : ∀ i, i < n → (objs.getD i []).length = 4) (hbd : ∀ i, i < n → ∀ b ∈ objs.getD i [], 0 ≤ b ∧ b ≤ n) :
    Calls Tryd.prog 48 #[.agg (rm4 vo on vg vb)] w (RetM w objs greys black vo vg vb (dStep objs ⟨on, greys, black⟩).1 (fun v => .returned (.tuple #[v, .bool (dStep objs ⟨on, greys, black⟩).2]))) := by
  have ONE := Lib.hid (H.one on)
  have SZ := Lib.hid rm_size
  obtain ⟨us, u1, u2, u3⟩ := H.ob
  have u2r := u2.rd
  have u3r := fun i h1 h2 => (u3 i h1 h2).rd
  obtain ⟨Ao, co, rfl, -⟩ := u2r.len
  have hul : us.length = n := by rw [u1, hol]
  rw [hul] at H ONE u2r ⊢
  obtain ⟨Ag, cg, hvg, hcg, -⟩ := H.gr.len
  have HG := H.gr
  rw [hvg] at HG
  replace HG := Lib.hid HG
  replace hvg := Lib.hid hvg
  replace u2r := Lib.hid u2r
  replace u3r := Lib.hid u3r
  replace u1 := Lib.hid u1
  replace H := Lib.hid H
  replace hok := Lib.hid hok
  replace hrow := Lib.hid hrow
  replace hbd := Lib.hid hbd
  clear u2 u3
  obtain ⟨X, hX⟩ : ∃ X, X = dStep objs ⟨on, greys, black⟩ := ⟨_, rfl⟩
  rw [← hX]
  unfold dStep at hX
  replace hX := Lib.hid hX
  go_enter Tryd.func48, Tryd.ntmps48
  go_wp2_with (first
    | (refine wpList_new rfl (.box 37 (.tmp 0)) rfl w.heap.size rfl 37 (rm4 (.slice Ao n co) on vg vb) (by kernel_rfl) ?_; intro w1 hs1 hb1 hB1)
    | (refine wpList_new rfl (.alloc 37) rfl (w.heap.size + 1) hs1 37 rm0 (by kernel_rfl) ?_; intro w2 hs2 hb2 hB2; refine stop_here ?_))
  have HB := hB1.below hb2 (by omega)
  have HR := hB2
  have b2 : Below w.heap.size w w2 := hb1.trans (hb2.mono (by omega))
  have hz2 : w2.heap.size = w.heap.size + 2 := by omega
  obtain ⟨gX, hgX⟩ : ∃ gX, gX = w.heap.size := ⟨_, rfl⟩
  obtain ⟨gR, hgR⟩ : ∃ gR, gR = w.heap.size + 1 := ⟨_, rfl⟩
  rw [← hgR] at HR ⊢
  rw [← hgX] at HB ⊢
  replace hgX := Lib.hid hgX
  replace hgR := Lib.hid hgR
  clear hs1 hB1 hb1 hB2 hs2 hb2
  have c1 : w2.cell? ⟨gX, 1, none⟩ = some (.bool on) := HB.cell 1
  have c2 : w2.cell? ⟨gX, 2, none⟩ = some (.slice Ag greys.length cg) := by rw [← hvg.out]; exact HB.cell 2
  refine go_on ?_
  cases on with
  | false =>
    have hX1 : X = (⟨false, greys, black⟩, false) := by rw [hX.out, if_pos rfl]
    subst hX1
    go_wp2_with (first
      | (refine wpList_load_blk rfl 37 (.tmp 1) rfl gX rfl 37 (rm4 (.slice Ao n co) false vg vb) HB _ Tryd.underlying37 rfl SZ.out ?_)
      | (refine wpList_store_blk rfl 37 (.tmp 2) (.tmp 16) rfl gR rfl (rm4 (.slice Ao n co) false vg vb) rfl 37 (rm0) HR SZ.out rfl ONE.out ?_; intro w9 hR9 hg9 hs9))
    have b9 := b2.grown hg9 b2.size (fun k hk => by cases hk; have := hgR.out; omega)
    refine bodyPost_ret (res_cell_tmp rfl rfl hR9 Tryd.underlying37 rfl SZ.out) rfl ⟨vg, vb, rfl, H.out.below b9, Nw.refl _ _ _, Nw.refl _ _ _, b9⟩
  | true =>
    have hX2 := hX.out
    rw [if_neg (by simp)] at hX2
    rcases hgr : greys with _ | ⟨p, g⟩
    · subst hgr
      have hX1 : X = (⟨true, [], black⟩, false) := hX2
      subst hX1
      have z0 : (([] : List Int).length) = 0 := rfl
      go_wp2_with (first
        | (refine wpList_load_blk rfl 37 (.tmp 1) rfl gX rfl 37 (rm4 (.slice Ao n co) true vg vb) HB _ Tryd.underlying37 rfl SZ.out ?_)
        | (refine wpList_store_blk rfl 37 (.tmp 2) (.tmp 16) rfl gR rfl (rm4 (.slice Ao n co) true vg vb) rfl 37 (rm0) HR SZ.out rfl ONE.out ?_; intro w9 hR9 hg9 hs9))
      have b9 := b2.grown hg9 b2.size (fun k hk => by cases hk; have := hgR.out; omega)
      refine bodyPost_ret (res_cell_tmp rfl rfl hR9 Tryd.underlying37 rfl SZ.out) rfl ⟨vg, vb, rfl, H.out.below b9, Nw.refl _ _ _, Nw.refl _ _ _, b9⟩
    · subst hgr
      have hX1 : X = ((objs.getD (p - 1).toNat []).foldl dShade ⟨true, g, black ++ [p]⟩, true) := hX2
      clear hX2
      replace hX1 := Lib.hid hX1
      have hgl : (p :: g).length = g.length + 1 := rfl
      have hpb := hok.out.bd p (.inl (by simp))
      obtain ⟨bg, og, hAg, hbgl, hcp⟩ := HG.out.at_ (i := 0) (by rw [hgl]; omega)
      replace hcp : w.cell? ⟨bg, og, none⟩ = some (.int .i64 p) := hcp
      rw [hgl] at c2 HG hcg
      rw [hAg] at c2 HG
      have d2 := (b2.cell (p := ⟨bg, og, none⟩) hbgl).trans hcp
      have hgn : g.length ≤ 11 := by
        have := (List.nodup_append.1 hok.out.nd).1
        have h2 := nodup_lenI n (p :: g) this (fun x hx => hok.out.bd x (.inl hx))
        rw [hgl] at h2
        omega
      have hbn : black.length ≤ 11 := by have := black_len hok.out; show black.length ≤ 11; have h2 : black.length ≤ n := this; omega
      have z1 : ((g.length : Int) + 1 == 0) = false := by rw [beq_eq_false_iff_ne]; omega
      have z2 : (1 : Int) ≤ (g.length : Int) + 1 := by omega
      have z3 : (g.length : Int) + 1 ≤ (cg : Int) := by omega
      have f2 := HB.frozen 2
      obtain ⟨a, rfl⟩ : ∃ a : Nat, p = (a : Int) + 1 := ⟨(p - 1).toNat, by omega⟩
      rw [show ((a : Int) + 1 - 1).toNat = a by omega] at hX1
      have han : a < n := by omega
      have hao : a < objs.length := by omega
      have hau : a < us.length := by omega
      -- the row of the first grey one
      obtain ⟨bo, oo, hAo, hbol, hco⟩ := u2r.out.at_ hau
      have hrd := u3r.out a hau hao
      have h4 : (objs[a]).length = 4 := by
        have := hrow.out a han
        rwa [show objs.getD a [] = objs[a] by simp [List.getD, hao]] at this
      obtain ⟨Al, cl, hus, -⟩ := hrd.len
      rw [hus] at hco hrd
      rw [h4] at hco hrd
      obtain ⟨row, hrw⟩ : ∃ row, row = objs.getD a [] := ⟨_, rfl⟩
      have hrw2 : objs[a] = row := by rw [hrw]; simp [List.getD, hao]
      have hrbd : ∀ b ∈ row, 0 ≤ b ∧ b ≤ n := by rw [hrw]; exact hbd.out a han
      rw [hrw2] at hrd h4
      rw [← hrw] at hX1
      have hco' : w.cell? ⟨bo, oo + a, none⟩ = some (.slice Al 4 cl) := hco
      by_cases hc1 : cg = 1
      · subst hc1
        obtain ⟨V2, hV2⟩ : ∃ V2, V2 = Value.slice (some ⟨bg, og, none⟩) g.length 0 := ⟨_, rfl⟩
        have hok0 := takeok17 hok.out
        have zz := setCell_size w2 ⟨gX, 2, none⟩ (Value.slice (some ⟨bg, og, none⟩) g.length 0)
        have HB3 : Blk (w2.setCell ⟨gX, 2, none⟩ (Value.slice (some ⟨bg, og, none⟩) g.length 0)) gX 37 (rm4 (.slice Ao n co) true (Value.slice (some ⟨bg, og, none⟩) g.length 0) vb) := HB.set_ 2 _
        have HR3 : Blk (w2.setCell ⟨gX, 2, none⟩ (Value.slice (some ⟨bg, og, none⟩) g.length 0)) gR 37 rm0 := HR.far (p := ⟨gX, 2, none⟩) (by show gR ≠ gX; have := hgR.out; have := hgX.out; omega) _
        have b3w : Below w.heap.size w (w2.setCell ⟨gX, 2, none⟩ (Value.slice (some ⟨bg, og, none⟩) g.length 0)) := b2.setCell (p := ⟨gX, 2, none⟩) (Nat.le_of_eq hgX.out.symm) _
        have q3 : (w2.setCell ⟨gX, 2, none⟩ (Value.slice (some ⟨bg, og, none⟩) g.length 0)).cell? ⟨gX, 3, none⟩ = some vb := HB3.cell 3
        have hgX2 : gX < (w2.setCell ⟨gX, 2, none⟩ (Value.slice (some ⟨bg, og, none⟩) g.length 0)).heap.size := HB3.lt
        have hgX3 : gX < w2.heap.size := HB.lt
        have hown0 := World.ownsRow_made (e := 3) (size := 1) (w2.setCell ⟨gX, 2, none⟩ (Value.slice (some ⟨bg, og, none⟩) g.length 0)) (base := w2.heap.size) #[] 0 (by rw [setCell_size]; exact Nat.le_refl _) (Nat.zero_le _) rfl
        rw [setCell_size] at hown0
        have hrb := Lib.hid ((H.out.below b3w).bl)
        replace hown0 := Lib.hid hown0
        replace zz := Lib.hid zz
        replace HB3 := Lib.hid HB3
        replace HR3 := Lib.hid HR3
        replace b3w := Lib.hid b3w
        replace hus := Lib.hid hus
        replace hrw := Lib.hid hrw
        replace hrw2 := Lib.hid hrw2
        replace hV2 := Lib.hid hV2
        replace hrd := Lib.hid hrd
        replace hz2 := Lib.hid hz2
        replace hAo := Lib.hid hAo
        replace h4 := Lib.hid h4
        replace hcg := Lib.hid hcg
        replace hok0 := Lib.hid hok0
        replace hrbd := Lib.hid hrbd
        replace hAg := Lib.hid hAg
        replace hco := Lib.hid hco
        replace hco' := Lib.hid hco'
        replace hX := Lib.hid hX
        clear hgX2
        go_wp2_with (at_builtin; refine wpList_append_all rfl (.tmp 25) (.tmp 27) _ rfl w2.heap.size 3 _ 8 Tryd.underlying34 int_info rfl _ 0 [] rfl hown0.out i64e _ black (fun _ => rfl) rfl (hrb.out.below (below_alloc _ _)) (by unfold maxLen; omega) (by omega) (by simp [setCell_size]) ?_; intro v4 w4 hown4 hg4 hat4; refine stop_here ?_)
        have b34 : Below w2.heap.size (w2.setCell ⟨gX, 2, none⟩ (Value.slice (some ⟨bg, og, none⟩) g.length 0)) w4 := by
          have := below_alloc (w2.setCell ⟨gX, 2, none⟩ (Value.slice (some ⟨bg, og, none⟩) g.length 0)) (.cells #[] 3)
          rw [zz.out] at this
          exact this.grown hg4 (by simp [setCell_size]) (fun k hk => by cases hk; exact Nat.le_refl _)
        have hown4 : w4.ownsRow w2.heap.size 3 1 v4 black.length (black.map i64e) := by simpa using hown4
        obtain ⟨A4, c4, rfl, -⟩ := own_form hown4
        have hz4 : w2.heap.size ≤ w4.heap.size := by have := b34.size; rw [zz.out] at this; exact this
        clear hown0 hrb hg4 hat4 q3
        refine go_on ?_
        go_wp2_with (at_builtin; refine wpList_push rfl (.tmp 29) (.tmp 31) _ rfl w2.heap.size 3 _ 8 Tryd.underlying34 int_info rfl (.slice A4 black.length c4) _ _ rfl hown4 _ rfl rfl (by unfold maxLen; omega) (by omega) hz4 ?_; intro v5 w5 hown5 hg5 hat5; refine stop_here ?_)
        have b35 := b34.grown hg5 hz4 (fun k hk => (hown4.lt k hk).1)
        obtain ⟨A5, c5, rfl, -⟩ := own_form hown5
        have HB5 := HB3.out.below b35 hgX3
        have hgR3 : gR < w2.heap.size := HR.lt
        have HR5 := HR3.out.below b35 hgR3
        have c53 : w5.cell? ⟨gX, 3, none⟩ = some vb := HB5.cell 3
        have f53 := HB5.frozen 3
        have HB6 : Blk (w5.setCell ⟨gX, 3, none⟩ (.slice A5 (black.length + 1) c5)) gX 37 (rm4 (.slice Ao n co) true (Value.slice (some ⟨bg, og, none⟩) g.length 0) (.slice A5 (black.length + 1) c5)) := HB5.set_ 3 _
        have HR6 : Blk (w5.setCell ⟨gX, 3, none⟩ (.slice A5 (black.length + 1) c5)) gR 37 rm0 := HR5.far (p := ⟨gX, 3, none⟩) (by show gR ≠ gX; have := hgR.out; have := hgX.out; omega) _
        have b5w : Below w.heap.size w w5 := b3w.out.trans (b35.mono b2.size)
        have b6 : Below w.heap.size w (w5.setCell ⟨gX, 3, none⟩ (.slice A5 (black.length + 1) c5)) := b5w.setCell (p := ⟨gX, 3, none⟩) (Nat.le_of_eq hgX.out.symm) _
        have o6 : (w5.setCell ⟨gX, 3, none⟩ (.slice A5 (black.length + 1) c5)).ownsRow w2.heap.size 3 1 (.slice A5 (black.length + 1) c5) (black.length + 1) (black.map i64e ++ [i64e ((a : Int) + 1)]) := own_keep hown5 fun g e => setCell_other w5 gX 3 _ (by have := (hown5.lt g e).1; omega)
        have hlb : (black ++ [(a : Int) + 1]).length = black.length + 1 := by simp
        have r6 : Rd i64e (w5.setCell ⟨gX, 3, none⟩ (.slice A5 (black.length + 1) c5)) (.slice A5 (black.length + 1) c5) (black ++ [(a : Int) + 1]) := by
          have o7 := o6
          rw [← hlb] at o7 ⊢
          exact Rd.of_own (by rw [List.map_append]; exact o7)
        have H6 : RV (w5.setCell ⟨gX, 3, none⟩ (.slice A5 (black.length + 1) c5)) objs g (black ++ [(a : Int) + 1]) (.slice Ao n co) (Value.slice (some ⟨bg, og, none⟩) g.length 0) (.slice A5 (black.length + 1) c5) :=
          ⟨(H.out.below b6).ob, rd_nil0 (by omega), r6, by omega, by rw [hlb]; omega⟩
        have hnw : Nw w.heap.size vg (((a : Int) + 1) :: g) (Value.slice (some ⟨bg, og, none⟩) g.length 0) g ∧ Nw w.heap.size vb black (.slice A5 (black.length + 1) c5) (black ++ [(a : Int) + 1]) := by
          refine ⟨fun _ k hk => .inl ⟨by simp, ?_⟩, fun _ k hk => .inr ?_⟩
          · rw [hvg.out, hAg.out]; exact hk
          · have := (o6.lt k hk).1; have := b2.size; omega
        rw [← hV2.out] at HB6 H6 hnw
        have hb0 := Lib.hid (show Blk (w5.setCell ⟨gX, 3, none⟩ (.slice A5 (black.length + 1) c5)) gR 37 rm0 from HR6)
        replace HB6 := Lib.hid HB6
        replace HR6 := Lib.hid HR6
        replace H6 := Lib.hid H6
        replace hnw := Lib.hid hnw
        replace b6 := Lib.hid b6
        replace hown5 := Lib.hid hown5
        clear hown4 hg5 hat5 b34 b35 HB5 HR5 b5w o6 r6 HB3 HR3 b3w hb0 HB HR c1 c2
        refine go_on ?_
        go_wp2_with fail
        go_loopw [6] (fun i wr => ∃ (j : Nat) (vg' vb' : Value), j ≤ 4 ∧ i = .int .i64 j ∧ Hid (Blk wr gX 37 (rm4 (.slice Ao n co) true vg' vb')) ∧ Hid (Blk wr gR 37 rm0) ∧ Hid (RV wr objs ((row.take j).foldl dShade ⟨true, g, black ++ [(a : Int) + 1]⟩).greys ((row.take j).foldl dShade ⟨true, g, black ++ [(a : Int) + 1]⟩).black (.slice Ao n co) vg' vb') ∧ Hid (Nw w.heap.size vg (((a : Int) + 1) :: g) vg' ((row.take j).foldl dShade ⟨true, g, black ++ [(a : Int) + 1]⟩).greys ∧ Nw w.heap.size vb black vb' ((row.take j).foldl dShade ⟨true, g, black ++ [(a : Int) + 1]⟩).black) ∧ Hid (Below w.heap.size w wr)) (fun i _ => 4 - (intOf i).toNat)
        case atStart => exact ⟨0, _, _, by omega, rfl, HB6, HR6, H6, hnw, b6⟩
        case round =>
          clear HB6 HR6 H6 hnw b6 c53 f53 d2 f2
          obtain ⟨j, vg', vb', hj, rfl, HBj, HRj, Hj, hnw, bj⟩ := hrel
          obtain ⟨Xj, hXj⟩ : ∃ Xj, Xj = (row.take j).foldl dShade ⟨true, g, black ++ [(a : Int) + 1]⟩ := ⟨_, rfl⟩
          have hokj : DOk n Xj := by rw [hXj]; exact shades_ok _ hok0.out fun b hb => hrbd.out b (List.mem_of_mem_take hb)
          have hlj := ok_len hokj
          have honj : Xj.on = true := by rw [hXj]; exact (shades_black _ _).2
          rw [← hXj] at Hj hnw
          have k0 : wr.cell? ⟨gX, 0, none⟩ = some (.slice (some ⟨bo, oo, none⟩) n co) := by rw [← hAo.out]; exact HBj.out.cell 0
          have ko := (bj.out.cell (p := ⟨bo, oo + a, none⟩) hbol).trans hco'.out
          have hgl9 := HBj.out.lt
          have han2 : (a : Int) < (n : Int) := by omega
          have ha1 : (a : Int) + 1 - 1 = (a : Int) := by omega
          by_cases hlt : j < 4
          · have t0 : (j : Int) < 4 := by omega
            have hjr : j < row.length := by have := h4.out; omega
            have hrd' := hrd.out
            rw [← h4.out] at hrd'
            obtain ⟨bl, ol, hAl, hbll, hcl⟩ := hrd'.at_ hjr
            obtain ⟨y, hy⟩ : ∃ y, y = row[j] := ⟨_, rfl⟩
            rw [← hy] at hcl
            replace hcl : w.cell? ⟨bl, ol + j, none⟩ = some (.int .i64 y) := hcl
            rw [hAl] at ko
            have kl := (bj.out.cell (p := ⟨bl, ol + j, none⟩) hbll).trans hcl
            have hbo9 := Nat.lt_of_lt_of_le hbol bj.out.size
            have hbl9 := Nat.lt_of_lt_of_le hbll bj.out.size
            have htk : (row.take (j + 1)).foldl dShade ⟨true, g, black ++ [(a : Int) + 1]⟩ = dShade Xj y := by
              rw [take_snoc row hjr, List.foldl_append, ← hXj, hy]
              rfl
            have hxe : Xj = ⟨true, Xj.greys, Xj.black⟩ := by rw [← honj]
            have HS := Lib.hid (fun wx (bx : Below wr.heap.size wr wx) => mshade17 (Hj.out.below bx) y (by omega))
            rw [← hxe] at HS
            have hAl' := Lib.hid hAl
            replace htk := Lib.hid htk
            replace hxe := Lib.hid hxe
            replace hXj := Lib.hid hXj
            replace hy := Lib.hid hy
            clear hrd' hAl hcl hokj
            have wa1 : Hid (IntKind.i64.wrap (a : Int) = (a : Int)) := Lib.hid (by rw [IntKind.wrap_i64]; omega)
            have ia : Hid ((a : Int) < (n : Int)) := Lib.hid (by omega)
            have ia0 : Hid ((0 : Int) ≤ (a : Int)) := Lib.hid (by omega)
            have ij : Hid ((j : Int) < 4) := Lib.hid (by omega)
            go_wp2_with fail
            have hS0 : (fun X : World => Below wr.heap.size wr X) wr.drew := (Below.refl _ _).drew
            refine wp_T (by kernel_rfl) 11 (fun X : World => Below wr.heap.size wr X) ?_
            refine wpAnyT_takeC (i := 0) (v := .agg (rm4 (.slice Ao n co) true vg' vb')) [10] rfl (by kernel_rfl) (fun _ _ _ hp => hp) (yieldsIf_load_mid (by kernel_rfl) _ _ rfl gX 0 rfl [.slice Ao n co, .bool true, vg', vb'] _ (fun X hX => World.rangeAt_of_block (HBj.out.below hX hgl9) 0 4) Tryd.underlying37 rfl rm_size) hS0 ?_
            simp only [Act.put, List.setIfInBounds_toArray, List.set_cons_zero, List.set_cons_succ]
            refine wpAnyT_takeW (i := 1) (v := .pointer (some ⟨gX, 0, none⟩)) rfl (by kernel_rfl) (fun _ _ _ hp => hp) (Or.inl ⟨by kernel_rfl, fun X _ => by go_simp⟩) hS0 ?_
            simp only [Act.put, List.setIfInBounds_toArray, List.set_cons_zero, List.set_cons_succ]
            refine wpAnyT_takeC (i := 2) (v := .slice (some ⟨bo, oo, none⟩) n co) [5, 6, 8, 9, 10] rfl (by kernel_rfl) (fun _ _ _ hp => hp) (Or.inl ⟨by kernel_rfl, fun X hX => by have y1 := (hX.cell (p := ⟨gX, 0, none⟩) hgl9).trans k0; go_simp⟩) hS0 ?_
            simp only [Act.put, List.setIfInBounds_toArray, List.set_cons_zero, List.set_cons_succ]
            refine wpAnyT_takeW (i := 3) (v := .int .i64 ((a : Int) + 1)) rfl (by kernel_rfl) (fun _ _ _ hp => hp) (Or.inl ⟨by kernel_rfl, fun X _ => by go_simp⟩) hS0 ?_
            simp only [Act.put, List.setIfInBounds_toArray, List.set_cons_zero, List.set_cons_succ]
            refine wpAnyT_takeW (i := 4) (v := .int .i64 (a : Int)) rfl (by kernel_rfl) (fun _ _ _ hp => hp) (Or.inl ⟨by kernel_rfl, fun X _ => by have wa1z := wa1.out; go_simp⟩) hS0 ?_
            simp only [Act.put, List.setIfInBounds_toArray, List.set_cons_zero, List.set_cons_succ]
            refine wpAnyT_takeW (i := 5) (v := .pointer (some ⟨bo, oo + a, none⟩)) rfl (by kernel_rfl) (fun _ _ _ hp => hp) (Or.inl ⟨by kernel_rfl, fun X _ => by have iaz := ia.out; have ia0z := ia0.out; go_simp⟩) hS0 ?_
            simp only [Act.put, List.setIfInBounds_toArray, List.set_cons_zero, List.set_cons_succ]
            refine wpAnyT_takeC (i := 6) (v := .slice (some ⟨bl, ol, none⟩) 4 cl) [8, 9, 10] rfl (by kernel_rfl) (fun _ _ _ hp => hp) (Or.inl ⟨by kernel_rfl, fun X hX => by have y1 := (hX.cell (p := ⟨bo, oo + a, none⟩) hbo9).trans ko; go_simp⟩) hS0 ?_
            simp only [Act.put, List.setIfInBounds_toArray, List.set_cons_zero, List.set_cons_succ]
            refine wpAnyT_takeW (i := 7) (v := .int .i64 (j : Int)) rfl (by kernel_rfl) (fun _ _ _ hp => hp) (Or.inl ⟨by kernel_rfl, fun X _ => by go_simp⟩) hS0 ?_
            simp only [Act.put, List.setIfInBounds_toArray, List.set_cons_zero, List.set_cons_succ]
            refine wpAnyT_takeW (i := 8) (v := .pointer (some ⟨bl, ol + j, none⟩)) rfl (by kernel_rfl) (fun _ _ _ hp => hp) (Or.inl ⟨by kernel_rfl, fun X _ => by have ijz := ij.out; go_simp⟩) hS0 ?_
            simp only [Act.put, List.setIfInBounds_toArray, List.set_cons_zero, List.set_cons_succ]
            refine wpAnyT_takeC (i := 9) (v := .int .i64 y) [10] rfl (by kernel_rfl) (fun _ _ _ hp => hp) (Or.inl ⟨by kernel_rfl, fun X hX => by have y1 := (hX.cell (p := ⟨bl, ol + j, none⟩) hbl9).trans kl; go_simp⟩) hS0 ?_
            simp only [Act.put, List.setIfInBounds_toArray, List.set_cons_zero, List.set_cons_succ]
            refine wpAnyT_one (i := 10) rfl (by kernel_rfl) (by kernel_rfl) ?_
            intro K1 hK1
            go_simp
            refine (HS.out _ (Below.refl _ _).drew).mono ?_
            rintro e w8 ⟨vg2, vb2, rfl, H8, n1, n2, b8⟩
            dsimp only
            have hS1 : (fun X : World => Below wr.heap.size wr X) w8 := Below.trans hS0 (Below.mono b8 (Below.size hS0))
            refine hK1.out _ _ (fun _ => hS1) ?_
            (try simp only [Act.put, List.setIfInBounds_toArray, List.set_cons_zero, List.set_cons_succ])
            have HB8 := HBj.out.below hS1 hgl9
            have ON8 := Lib.hid (H8.one (dShade Xj y).on)
            refine wpAnyT_one (i := 11) rfl (by kernel_rfl) (by kernel_rfl) ?_
            intro K2 hK2
            refine wps_blk 37 _ _ rfl gX rfl (rm4 (.slice Ao n co) (dShade Xj y).on vg2 vb2) rfl 37 (rm4 (.slice Ao n co) true vg' vb') HB8 SZ.out rfl ON8.out ?_
            intro w9 hB9 hg9 hs9
            refine hK2.out _ _ (fun hh => absurd rfl hh) ?_
            (try simp only [Act.put, List.setIfInBounds_toArray, List.set_cons_zero, List.set_cons_succ])
            refine wpAnyT_done (by kernel_rfl) ?_ _
            (try simp only [Act.put, List.setIfInBounds_toArray, List.set_cons_zero, List.set_cons_succ])
            clear hK1 K1 hK2 K2
            have hon2 : (dShade Xj y).on = true := (shade_black Xj y).2.trans honj
            rw [hon2] at hB9
            have bj8 : Below w.heap.size w w8 := bj.out.trans (Below.mono hS1 bj.out.size)
            have b9 := bj8.grown hg9 bj8.size (fun k hk => by cases hk; have := hgX.out; omega)
            have HR9 := Lib.hid ((HRj.out.below hS1 HRj.out.lt).grown hg9 (fun e => by have h1 := Option.some.inj e; have := hgR.out; have := hgX.out; omega))
            have hni : NoInt (rm4 (.slice Ao n co) true vg' vb') := rm4_noint H8.ob Hj.out.gr Hj.out.bl
            have H9 : RV w9 objs (dShade Xj y).greys (dShade Xj y).black (.slice Ao n co) vg2 vb2 := ⟨(H.out.below b9).ob, H8.gr.far_blk HB8 hni hg9, H8.bl.far_blk HB8 hni hg9, H8.gs, H8.bs⟩
            have hnw9 := show Nw w.heap.size vg (((a : Int) + 1) :: g) vg2 (dShade Xj y).greys ∧ Nw w.heap.size vb black vb2 (dShade Xj y).black from ⟨hnw.out.1.trans n1 (by have := bj.out.size; exact this), hnw.out.2.trans n2 (by have := bj.out.size; exact this)⟩
            rw [← htk.out] at H9 hnw9
            replace hnw9 := Lib.hid hnw9
            replace hB9 := Lib.hid hB9
            replace H9 := Lib.hid H9
            replace b9 := Lib.hid b9
            clear HBj HRj Hj hnw bj HS H8 n1 n2 b8 hS1 hS0 HB8 ON8 hg9 bj8 kl ko k0 hni
            go_wp2_with fail
            go_roundw
            case rel => exact ⟨j + 1, vg2, vb2, by omega, by go_num, hB9, HR9, H9, hnw9, b9⟩
            case measure => simp [intOf]; omega
          · obtain rfl : j = 4 := by omega
            rw [List.take_of_length_le (by have := h4.out; omega)] at hXj
            have hX3 : X = (Xj, true) := by rw [hX1.out, hXj]
            subst hX3
            have hxe : Xj.on = true := honj
            have ONEj := Lib.hid (Hj.out.one true)
            replace hXj := Lib.hid hXj
            go_wp2_with (first
              | (refine wpList_load_blk rfl 37 (.tmp 1) rfl gX rfl 37 (rm4 (.slice Ao n co) true vg' vb') HBj.out _ Tryd.underlying37 rfl SZ.out ?_)
              | (refine wpList_store_blk rfl 37 (.tmp 2) (.tmp 56) rfl gR rfl (rm4 (.slice Ao n co) true vg' vb') rfl 37 (rm0) HRj.out SZ.out rfl ONEj.out ?_; intro w9 hR9 hg9 hs9))
            have b9 := bj.out.grown hg9 bj.out.size (fun k hk => by cases hk; have := hgR.out; omega)
            refine bodyPost_ret (res_cell_tmp rfl rfl hR9 Tryd.underlying37 rfl SZ.out) rfl ⟨vg', vb', by show Ending.returned (.tuple #[.agg (rm4 (.slice Ao n co) true vg' vb'), .bool true]) = Ending.returned (.tuple #[.agg (rm4 (.slice Ao n co) Xj.on vg' vb'), .bool true]); rw [hxe], ⟨(H.out.below b9).ob, Hj.out.gr.far_blk HRj.out rm0_noint hg9, Hj.out.bl.far_blk HRj.out rm0_noint hg9, Hj.out.gs, Hj.out.bs⟩, hnw.out.1, hnw.out.2, b9⟩

      · obtain ⟨V2, hV2⟩ : ∃ V2, V2 = Value.slice (some ⟨bg, og + 1, none⟩) g.length (cg - 1) := ⟨_, rfl⟩
        have hok0 := takeok17 hok.out
        have zz := setCell_size w2 ⟨gX, 2, none⟩ (Value.slice (some ⟨bg, og + 1, none⟩) g.length (cg - 1))
        have HB3 : Blk (w2.setCell ⟨gX, 2, none⟩ (Value.slice (some ⟨bg, og + 1, none⟩) g.length (cg - 1))) gX 37 (rm4 (.slice Ao n co) true (Value.slice (some ⟨bg, og + 1, none⟩) g.length (cg - 1)) vb) := HB.set_ 2 _
        have HR3 : Blk (w2.setCell ⟨gX, 2, none⟩ (Value.slice (some ⟨bg, og + 1, none⟩) g.length (cg - 1))) gR 37 rm0 := HR.far (p := ⟨gX, 2, none⟩) (by show gR ≠ gX; have := hgR.out; have := hgX.out; omega) _
        have b3w : Below w.heap.size w (w2.setCell ⟨gX, 2, none⟩ (Value.slice (some ⟨bg, og + 1, none⟩) g.length (cg - 1))) := b2.setCell (p := ⟨gX, 2, none⟩) (Nat.le_of_eq hgX.out.symm) _
        have q3 : (w2.setCell ⟨gX, 2, none⟩ (Value.slice (some ⟨bg, og + 1, none⟩) g.length (cg - 1))).cell? ⟨gX, 3, none⟩ = some vb := HB3.cell 3
        have hgX2 : gX < (w2.setCell ⟨gX, 2, none⟩ (Value.slice (some ⟨bg, og + 1, none⟩) g.length (cg - 1))).heap.size := HB3.lt
        have hgX3 : gX < w2.heap.size := HB.lt
        have hown0 := World.ownsRow_made (e := 3) (size := 1) (w2.setCell ⟨gX, 2, none⟩ (Value.slice (some ⟨bg, og + 1, none⟩) g.length (cg - 1))) (base := w2.heap.size) #[] 0 (by rw [setCell_size]; exact Nat.le_refl _) (Nat.zero_le _) rfl
        rw [setCell_size] at hown0
        have hrb := Lib.hid ((H.out.below b3w).bl)
        replace hown0 := Lib.hid hown0
        replace zz := Lib.hid zz
        replace HB3 := Lib.hid HB3
        replace HR3 := Lib.hid HR3
        replace b3w := Lib.hid b3w
        replace hus := Lib.hid hus
        replace hrw := Lib.hid hrw
        replace hrw2 := Lib.hid hrw2
        replace hV2 := Lib.hid hV2
        replace hrd := Lib.hid hrd
        replace hz2 := Lib.hid hz2
        replace hAo := Lib.hid hAo
        replace h4 := Lib.hid h4
        replace hcg := Lib.hid hcg
        replace hok0 := Lib.hid hok0
        replace hrbd := Lib.hid hrbd
        replace hAg := Lib.hid hAg
        replace hco := Lib.hid hco
        replace hco' := Lib.hid hco'
        replace hX := Lib.hid hX
        clear hgX2
        go_wp2_with (at_builtin; refine wpList_append_all rfl (.tmp 25) (.tmp 27) _ rfl w2.heap.size 3 _ 8 Tryd.underlying34 int_info rfl _ 0 [] rfl hown0.out i64e _ black (fun _ => rfl) rfl (hrb.out.below (below_alloc _ _)) (by unfold maxLen; omega) (by omega) (by simp [setCell_size]) ?_; intro v4 w4 hown4 hg4 hat4; refine stop_here ?_)
        have b34 : Below w2.heap.size (w2.setCell ⟨gX, 2, none⟩ (Value.slice (some ⟨bg, og + 1, none⟩) g.length (cg - 1))) w4 := by
          have := below_alloc (w2.setCell ⟨gX, 2, none⟩ (Value.slice (some ⟨bg, og + 1, none⟩) g.length (cg - 1))) (.cells #[] 3)
          rw [zz.out] at this
          exact this.grown hg4 (by simp [setCell_size]) (fun k hk => by cases hk; exact Nat.le_refl _)
        have hown4 : w4.ownsRow w2.heap.size 3 1 v4 black.length (black.map i64e) := by simpa using hown4
        obtain ⟨A4, c4, rfl, -⟩ := own_form hown4
        have hz4 : w2.heap.size ≤ w4.heap.size := by have := b34.size; rw [zz.out] at this; exact this
        clear hown0 hrb hg4 hat4 q3
        refine go_on ?_
        go_wp2_with (at_builtin; refine wpList_push rfl (.tmp 29) (.tmp 31) _ rfl w2.heap.size 3 _ 8 Tryd.underlying34 int_info rfl (.slice A4 black.length c4) _ _ rfl hown4 _ rfl rfl (by unfold maxLen; omega) (by omega) hz4 ?_; intro v5 w5 hown5 hg5 hat5; refine stop_here ?_)
        have b35 := b34.grown hg5 hz4 (fun k hk => (hown4.lt k hk).1)
        obtain ⟨A5, c5, rfl, -⟩ := own_form hown5
        have HB5 := HB3.out.below b35 hgX3
        have hgR3 : gR < w2.heap.size := HR.lt
        have HR5 := HR3.out.below b35 hgR3
        have c53 : w5.cell? ⟨gX, 3, none⟩ = some vb := HB5.cell 3
        have f53 := HB5.frozen 3
        have HB6 : Blk (w5.setCell ⟨gX, 3, none⟩ (.slice A5 (black.length + 1) c5)) gX 37 (rm4 (.slice Ao n co) true (Value.slice (some ⟨bg, og + 1, none⟩) g.length (cg - 1)) (.slice A5 (black.length + 1) c5)) := HB5.set_ 3 _
        have HR6 : Blk (w5.setCell ⟨gX, 3, none⟩ (.slice A5 (black.length + 1) c5)) gR 37 rm0 := HR5.far (p := ⟨gX, 3, none⟩) (by show gR ≠ gX; have := hgR.out; have := hgX.out; omega) _
        have b5w : Below w.heap.size w w5 := b3w.out.trans (b35.mono b2.size)
        have b6 : Below w.heap.size w (w5.setCell ⟨gX, 3, none⟩ (.slice A5 (black.length + 1) c5)) := b5w.setCell (p := ⟨gX, 3, none⟩) (Nat.le_of_eq hgX.out.symm) _
        have o6 : (w5.setCell ⟨gX, 3, none⟩ (.slice A5 (black.length + 1) c5)).ownsRow w2.heap.size 3 1 (.slice A5 (black.length + 1) c5) (black.length + 1) (black.map i64e ++ [i64e ((a : Int) + 1)]) := own_keep hown5 fun g e => setCell_other w5 gX 3 _ (by have := (hown5.lt g e).1; omega)
        have hlb : (black ++ [(a : Int) + 1]).length = black.length + 1 := by simp
        have r6 : Rd i64e (w5.setCell ⟨gX, 3, none⟩ (.slice A5 (black.length + 1) c5)) (.slice A5 (black.length + 1) c5) (black ++ [(a : Int) + 1]) := by
          have o7 := o6
          rw [← hlb] at o7 ⊢
          exact Rd.of_own (by rw [List.map_append]; exact o7)
        have H6 : RV (w5.setCell ⟨gX, 3, none⟩ (.slice A5 (black.length + 1) c5)) objs g (black ++ [(a : Int) + 1]) (.slice Ao n co) (Value.slice (some ⟨bg, og + 1, none⟩) g.length (cg - 1)) (.slice A5 (black.length + 1) c5) :=
          ⟨(H.out.below b6).ob, Rd.tail (HG.out.below b6), r6, by omega, by rw [hlb]; omega⟩
        have hnw : Nw w.heap.size vg (((a : Int) + 1) :: g) (Value.slice (some ⟨bg, og + 1, none⟩) g.length (cg - 1)) g ∧ Nw w.heap.size vb black (.slice A5 (black.length + 1) c5) (black ++ [(a : Int) + 1]) := by
          refine ⟨fun _ k hk => .inl ⟨by simp, ?_⟩, fun _ k hk => .inr ?_⟩
          · rw [hvg.out, hAg.out]; exact hk
          · have := (o6.lt k hk).1; have := b2.size; omega
        rw [← hV2.out] at HB6 H6 hnw
        have hb0 := Lib.hid (show Blk (w5.setCell ⟨gX, 3, none⟩ (.slice A5 (black.length + 1) c5)) gR 37 rm0 from HR6)
        replace HB6 := Lib.hid HB6
        replace HR6 := Lib.hid HR6
        replace H6 := Lib.hid H6
        replace hnw := Lib.hid hnw
        replace b6 := Lib.hid b6
        replace hown5 := Lib.hid hown5
        clear hown4 hg5 hat5 b34 b35 HB5 HR5 b5w o6 r6 HB3 HR3 b3w hb0 HB HR c1 c2
        refine go_on ?_
        go_wp2_with fail
        go_loopw [6] (fun i wr => ∃ (j : Nat) (vg' vb' : Value), j ≤ 4 ∧ i = .int .i64 j ∧ Hid (Blk wr gX 37 (rm4 (.slice Ao n co) true vg' vb')) ∧ Hid (Blk wr gR 37 rm0) ∧ Hid (RV wr objs ((row.take j).foldl dShade ⟨true, g, black ++ [(a : Int) + 1]⟩).greys ((row.take j).foldl dShade ⟨true, g, black ++ [(a : Int) + 1]⟩).black (.slice Ao n co) vg' vb') ∧ Hid (Nw w.heap.size vg (((a : Int) + 1) :: g) vg' ((row.take j).foldl dShade ⟨true, g, black ++ [(a : Int) + 1]⟩).greys ∧ Nw w.heap.size vb black vb' ((row.take j).foldl dShade ⟨true, g, black ++ [(a : Int) + 1]⟩).black) ∧ Hid (Below w.heap.size w wr)) (fun i _ => 4 - (intOf i).toNat)
        case atStart => exact ⟨0, _, _, by omega, rfl, HB6, HR6, H6, hnw, b6⟩
        case round =>
          clear HB6 HR6 H6 hnw b6 c53 f53 d2 f2
          obtain ⟨j, vg', vb', hj, rfl, HBj, HRj, Hj, hnw, bj⟩ := hrel
          obtain ⟨Xj, hXj⟩ : ∃ Xj, Xj = (row.take j).foldl dShade ⟨true, g, black ++ [(a : Int) + 1]⟩ := ⟨_, rfl⟩
          have hokj : DOk n Xj := by rw [hXj]; exact shades_ok _ hok0.out fun b hb => hrbd.out b (List.mem_of_mem_take hb)
          have hlj := ok_len hokj
          have honj : Xj.on = true := by rw [hXj]; exact (shades_black _ _).2
          rw [← hXj] at Hj hnw
          have k0 : wr.cell? ⟨gX, 0, none⟩ = some (.slice (some ⟨bo, oo, none⟩) n co) := by rw [← hAo.out]; exact HBj.out.cell 0
          have ko := (bj.out.cell (p := ⟨bo, oo + a, none⟩) hbol).trans hco'.out
          have hgl9 := HBj.out.lt
          have han2 : (a : Int) < (n : Int) := by omega
          have ha1 : (a : Int) + 1 - 1 = (a : Int) := by omega
          by_cases hlt : j < 4
          · have t0 : (j : Int) < 4 := by omega
            have hjr : j < row.length := by have := h4.out; omega
            have hrd' := hrd.out
            rw [← h4.out] at hrd'
            obtain ⟨bl, ol, hAl, hbll, hcl⟩ := hrd'.at_ hjr
            obtain ⟨y, hy⟩ : ∃ y, y = row[j] := ⟨_, rfl⟩
            rw [← hy] at hcl
            replace hcl : w.cell? ⟨bl, ol + j, none⟩ = some (.int .i64 y) := hcl
            rw [hAl] at ko
            have kl := (bj.out.cell (p := ⟨bl, ol + j, none⟩) hbll).trans hcl
            have hbo9 := Nat.lt_of_lt_of_le hbol bj.out.size
            have hbl9 := Nat.lt_of_lt_of_le hbll bj.out.size
            have htk : (row.take (j + 1)).foldl dShade ⟨true, g, black ++ [(a : Int) + 1]⟩ = dShade Xj y := by
              rw [take_snoc row hjr, List.foldl_append, ← hXj, hy]
              rfl
            have hxe : Xj = ⟨true, Xj.greys, Xj.black⟩ := by rw [← honj]
            have HS := Lib.hid (fun wx (bx : Below wr.heap.size wr wx) => mshade17 (Hj.out.below bx) y (by omega))
            rw [← hxe] at HS
            have hAl' := Lib.hid hAl
            replace htk := Lib.hid htk
            replace hxe := Lib.hid hxe
            replace hXj := Lib.hid hXj
            replace hy := Lib.hid hy
            clear hrd' hAl hcl hokj
            have wa1 : Hid (IntKind.i64.wrap (a : Int) = (a : Int)) := Lib.hid (by rw [IntKind.wrap_i64]; omega)
            have ia : Hid ((a : Int) < (n : Int)) := Lib.hid (by omega)
            have ia0 : Hid ((0 : Int) ≤ (a : Int)) := Lib.hid (by omega)
            have ij : Hid ((j : Int) < 4) := Lib.hid (by omega)
            go_wp2_with fail
            have hS0 : (fun X : World => Below wr.heap.size wr X) wr.drew := (Below.refl _ _).drew
            refine wp_T (by kernel_rfl) 11 (fun X : World => Below wr.heap.size wr X) ?_
            refine wpAnyT_takeC (i := 0) (v := .agg (rm4 (.slice Ao n co) true vg' vb')) [10] rfl (by kernel_rfl) (fun _ _ _ hp => hp) (yieldsIf_load_mid (by kernel_rfl) _ _ rfl gX 0 rfl [.slice Ao n co, .bool true, vg', vb'] _ (fun X hX => World.rangeAt_of_block (HBj.out.below hX hgl9) 0 4) Tryd.underlying37 rfl rm_size) hS0 ?_
            simp only [Act.put, List.setIfInBounds_toArray, List.set_cons_zero, List.set_cons_succ]
            refine wpAnyT_takeW (i := 1) (v := .pointer (some ⟨gX, 0, none⟩)) rfl (by kernel_rfl) (fun _ _ _ hp => hp) (Or.inl ⟨by kernel_rfl, fun X _ => by go_simp⟩) hS0 ?_
            simp only [Act.put, List.setIfInBounds_toArray, List.set_cons_zero, List.set_cons_succ]
            refine wpAnyT_takeC (i := 2) (v := .slice (some ⟨bo, oo, none⟩) n co) [5, 6, 8, 9, 10] rfl (by kernel_rfl) (fun _ _ _ hp => hp) (Or.inl ⟨by kernel_rfl, fun X hX => by have y1 := (hX.cell (p := ⟨gX, 0, none⟩) hgl9).trans k0; go_simp⟩) hS0 ?_
            simp only [Act.put, List.setIfInBounds_toArray, List.set_cons_zero, List.set_cons_succ]
            refine wpAnyT_takeW (i := 3) (v := .int .i64 ((a : Int) + 1)) rfl (by kernel_rfl) (fun _ _ _ hp => hp) (Or.inl ⟨by kernel_rfl, fun X _ => by go_simp⟩) hS0 ?_
            simp only [Act.put, List.setIfInBounds_toArray, List.set_cons_zero, List.set_cons_succ]
            refine wpAnyT_takeW (i := 4) (v := .int .i64 (a : Int)) rfl (by kernel_rfl) (fun _ _ _ hp => hp) (Or.inl ⟨by kernel_rfl, fun X _ => by have wa1z := wa1.out; go_simp⟩) hS0 ?_
            simp only [Act.put, List.setIfInBounds_toArray, List.set_cons_zero, List.set_cons_succ]
            refine wpAnyT_takeW (i := 5) (v := .pointer (some ⟨bo, oo + a, none⟩)) rfl (by kernel_rfl) (fun _ _ _ hp => hp) (Or.inl ⟨by kernel_rfl, fun X _ => by have iaz := ia.out; have ia0z := ia0.out; go_simp⟩) hS0 ?_
            simp only [Act.put, List.setIfInBounds_toArray, List.set_cons_zero, List.set_cons_succ]
            refine wpAnyT_takeC (i := 6) (v := .slice (some ⟨bl, ol, none⟩) 4 cl) [8, 9, 10] rfl (by kernel_rfl) (fun _ _ _ hp => hp) (Or.inl ⟨by kernel_rfl, fun X hX => by have y1 := (hX.cell (p := ⟨bo, oo + a, none⟩) hbo9).trans ko; go_simp⟩) hS0 ?_
            simp only [Act.put, List.setIfInBounds_toArray, List.set_cons_zero, List.set_cons_succ]
            refine wpAnyT_takeW (i := 7) (v := .int .i64 (j : Int)) rfl (by kernel_rfl) (fun _ _ _ hp => hp) (Or.inl ⟨by kernel_rfl, fun X _ => by go_simp⟩) hS0 ?_
            simp only [Act.put, List.setIfInBounds_toArray, List.set_cons_zero, List.set_cons_succ]
            refine wpAnyT_takeW (i := 8) (v := .pointer (some ⟨bl, ol + j, none⟩)) rfl (by kernel_rfl) (fun _ _ _ hp => hp) (Or.inl ⟨by kernel_rfl, fun X _ => by have ijz := ij.out; go_simp⟩) hS0 ?_
            simp only [Act.put, List.setIfInBounds_toArray, List.set_cons_zero, List.set_cons_succ]
            refine wpAnyT_takeC (i := 9) (v := .int .i64 y) [10] rfl (by kernel_rfl) (fun _ _ _ hp => hp) (Or.inl ⟨by kernel_rfl, fun X hX => by have y1 := (hX.cell (p := ⟨bl, ol + j, none⟩) hbl9).trans kl; go_simp⟩) hS0 ?_
            simp only [Act.put, List.setIfInBounds_toArray, List.set_cons_zero, List.set_cons_succ]
            refine wpAnyT_one (i := 10) rfl (by kernel_rfl) (by kernel_rfl) ?_
            intro K1 hK1
            go_simp
            refine (HS.out _ (Below.refl _ _).drew).mono ?_
            rintro e w8 ⟨vg2, vb2, rfl, H8, n1, n2, b8⟩
            dsimp only
            have hS1 : (fun X : World => Below wr.heap.size wr X) w8 := Below.trans hS0 (Below.mono b8 (Below.size hS0))
            refine hK1.out _ _ (fun _ => hS1) ?_
            (try simp only [Act.put, List.setIfInBounds_toArray, List.set_cons_zero, List.set_cons_succ])
            have HB8 := HBj.out.below hS1 hgl9
            have ON8 := Lib.hid (H8.one (dShade Xj y).on)
            refine wpAnyT_one (i := 11) rfl (by kernel_rfl) (by kernel_rfl) ?_
            intro K2 hK2
            refine wps_blk 37 _ _ rfl gX rfl (rm4 (.slice Ao n co) (dShade Xj y).on vg2 vb2) rfl 37 (rm4 (.slice Ao n co) true vg' vb') HB8 SZ.out rfl ON8.out ?_
            intro w9 hB9 hg9 hs9
            refine hK2.out _ _ (fun hh => absurd rfl hh) ?_
            (try simp only [Act.put, List.setIfInBounds_toArray, List.set_cons_zero, List.set_cons_succ])
            refine wpAnyT_done (by kernel_rfl) ?_ _
            (try simp only [Act.put, List.setIfInBounds_toArray, List.set_cons_zero, List.set_cons_succ])
            clear hK1 K1 hK2 K2
            have hon2 : (dShade Xj y).on = true := (shade_black Xj y).2.trans honj
            rw [hon2] at hB9
            have bj8 : Below w.heap.size w w8 := bj.out.trans (Below.mono hS1 bj.out.size)
            have b9 := bj8.grown hg9 bj8.size (fun k hk => by cases hk; have := hgX.out; omega)
            have HR9 := Lib.hid ((HRj.out.below hS1 HRj.out.lt).grown hg9 (fun e => by have h1 := Option.some.inj e; have := hgR.out; have := hgX.out; omega))
            have hni : NoInt (rm4 (.slice Ao n co) true vg' vb') := rm4_noint H8.ob Hj.out.gr Hj.out.bl
            have H9 : RV w9 objs (dShade Xj y).greys (dShade Xj y).black (.slice Ao n co) vg2 vb2 := ⟨(H.out.below b9).ob, H8.gr.far_blk HB8 hni hg9, H8.bl.far_blk HB8 hni hg9, H8.gs, H8.bs⟩
            have hnw9 := show Nw w.heap.size vg (((a : Int) + 1) :: g) vg2 (dShade Xj y).greys ∧ Nw w.heap.size vb black vb2 (dShade Xj y).black from ⟨hnw.out.1.trans n1 (by have := bj.out.size; exact this), hnw.out.2.trans n2 (by have := bj.out.size; exact this)⟩
            rw [← htk.out] at H9 hnw9
            replace hnw9 := Lib.hid hnw9
            replace hB9 := Lib.hid hB9
            replace H9 := Lib.hid H9
            replace b9 := Lib.hid b9
            clear HBj HRj Hj hnw bj HS H8 n1 n2 b8 hS1 hS0 HB8 ON8 hg9 bj8 kl ko k0 hni
            go_wp2_with fail
            go_roundw
            case rel => exact ⟨j + 1, vg2, vb2, by omega, by go_num, hB9, HR9, H9, hnw9, b9⟩
            case measure => simp [intOf]; omega
          · obtain rfl : j = 4 := by omega
            rw [List.take_of_length_le (by have := h4.out; omega)] at hXj
            have hX3 : X = (Xj, true) := by rw [hX1.out, hXj]
            subst hX3
            have hxe : Xj.on = true := honj
            have ONEj := Lib.hid (Hj.out.one true)
            replace hXj := Lib.hid hXj
            go_wp2_with (first
              | (refine wpList_load_blk rfl 37 (.tmp 1) rfl gX rfl 37 (rm4 (.slice Ao n co) true vg' vb') HBj.out _ Tryd.underlying37 rfl SZ.out ?_)
              | (refine wpList_store_blk rfl 37 (.tmp 2) (.tmp 56) rfl gR rfl (rm4 (.slice Ao n co) true vg' vb') rfl 37 (rm0) HRj.out SZ.out rfl ONEj.out ?_; intro w9 hR9 hg9 hs9))
            have b9 := bj.out.grown hg9 bj.out.size (fun k hk => by cases hk; have := hgR.out; omega)
            refine bodyPost_ret (res_cell_tmp rfl rfl hR9 Tryd.underlying37 rfl SZ.out) rfl ⟨vg', vb', by show Ending.returned (.tuple #[.agg (rm4 (.slice Ao n co) true vg' vb'), .bool true]) = Ending.returned (.tuple #[.agg (rm4 (.slice Ao n co) Xj.on vg' vb'), .bool true]); rw [hxe], ⟨(H.out.below b9).ob, Hj.out.gr.far_blk HRj.out rm0_noint hg9, Hj.out.bl.far_blk HRj.out rm0_noint hg9, Hj.out.gs, Hj.out.bs⟩, hnw.out.1, hnw.out.2, b9⟩
end
end Go.Proofs.YtnoiepmapmcjdaaDoor
namespace Go.Proofs.YtnoiepmapmcjdaaDoor
open Go.RowKit Go.Shelf
section
variable {w w' : World} {objs : List (List Int)} {greys black : List Int} {vo vg vb : Value} {on : Bool}
set_option maxHeartbeats 6400000 in
set_option maxRecDepth 100000 in
theorem mBegin17 (H : RV w objs greys black vo vg vb) (vr : Value) (roots : List Int) (hr : Rd i64e w vr roots) (hrl : roots.length ≤ 20) (n : Nat) (hol : objs.length = n) (hn : n ≤ 11) (hrb : ∀ b ∈ roots, 0 ≤ b ∧ b ≤ n) :
    Calls Tryd.prog 45 #[.agg (rm4 vo on vg vb), vr] w (RetM w objs greys black vo vg vb (if on = true then ⟨on, greys, black⟩ else roots.foldl dShade dStart) (fun v => .returned (.tuple #[v, .int .i64 (if on = true then 8 else 0)]))) := by
  have ONE := Lib.hid (H.one on)
  have SZ := Lib.hid rm_size
  obtain ⟨Ar, cr, rfl, -⟩ := hr.len
  have HR0 := Lib.hid (fun wx (bx : Below w.heap.size w wx) => hr.below bx)
  replace H := Lib.hid H
  replace hrb := Lib.hid hrb
  clear hr
  obtain ⟨X, hX⟩ : ∃ X : RD, X = (if on = true then ⟨on, greys, black⟩ else roots.foldl dShade dStart) := ⟨_, rfl⟩
  obtain ⟨cd, hcd⟩ : ∃ cd : Int, cd = (if on = true then 8 else 0) := ⟨_, rfl⟩
  rw [← hX, ← hcd]
  replace hX := Lib.hid hX
  replace hcd := Lib.hid hcd
  go_enter Tryd.func45, Tryd.ntmps45
  go_wp2_with (first
    | (refine wpList_new rfl (.box 37 (.tmp 0)) rfl w.heap.size rfl 37 (rm4 vo on vg vb) (by kernel_rfl) ?_; intro w1 hs1 hb1 hB1)
    | (refine wpList_new rfl (.alloc 37) rfl (w.heap.size + 1) hs1 37 rm0 (by kernel_rfl) ?_; intro w2 hs2 hb2 hB2; refine stop_here ?_))
  have HB := hB1.below hb2 (by omega)
  have HR := hB2
  have b2 : Below w.heap.size w w2 := hb1.trans (hb2.mono (by omega))
  have hz2 : w2.heap.size = w.heap.size + 2 := by omega
  obtain ⟨gX, hgX⟩ : ∃ gX, gX = w.heap.size := ⟨_, rfl⟩
  obtain ⟨gR, hgR⟩ : ∃ gR, gR = w.heap.size + 1 := ⟨_, rfl⟩
  rw [← hgR] at HR ⊢
  rw [← hgX] at HB ⊢
  replace hgX := Lib.hid hgX
  replace hgR := Lib.hid hgR
  clear hs1 hB1 hb1 hB2 hs2 hb2
  have c1 : w2.cell? ⟨gX, 1, none⟩ = some (.bool on) := HB.cell 1
  refine go_on ?_
  cases on with
  | true =>
    have hX1 : X = ⟨true, greys, black⟩ := by rw [hX.out, if_pos rfl]
    have hc1 : cd = 8 := by rw [hcd.out, if_pos rfl]
    subst hX1
    subst hc1
    go_wp2_with (first
      | (refine wpList_load_blk rfl 37 (.tmp 2) rfl gX rfl 37 (rm4 vo true vg vb) HB _ Tryd.underlying37 rfl SZ.out ?_)
      | (refine wpList_store_blk rfl 37 (.tmp 4) (.tmp 10) rfl gR rfl (rm4 vo true vg vb) rfl 37 (rm0) HR SZ.out rfl ONE.out ?_; intro w9 hR9 hg9 hs9))
    have b9 := b2.grown hg9 b2.size (fun k hk => by cases hk; have := hgR.out; omega)
    refine bodyPost_ret (res_cell_tmp rfl rfl hR9 Tryd.underlying37 rfl SZ.out) rfl ⟨vg, vb, rfl, H.out.below b9, Nw.refl _ _ _, Nw.refl _ _ _, b9⟩
  | false =>
    have hX1 : X = roots.foldl dShade dStart := by rw [hX.out, if_neg (by simp)]
    have hc1 : cd = 0 := by rw [hcd.out, if_neg (by simp)]
    subst hc1
    clear hX hcd
    replace hX1 := Lib.hid hX1
    replace HB := Lib.hid HB
    replace HR := Lib.hid HR
    go_wp2_with fail
    go_loopw [6] (fun i wr => ∃ j : Nat, j ≤ roots.length ∧ i = .int .i64 j ∧ Hid (Below w2.heap.size w2 wr)) (fun i _ => roots.length - (intOf i).toNat)
    case atStart => exact ⟨0, by omega, rfl, Lib.hid (Below.refl _ _)⟩
    case round =>
      clear c1
      obtain ⟨j, hj, rfl, hbw⟩ := hrel
      have hz := hbw.out.size
      have HBw := HB.out.below hbw.out HB.out.lt
      have hbww := b2.trans (hbw.out.mono b2.size)
      by_cases hlt : j < roots.length
      · have t0 : (j : Int) < (roots.length : Int) := by omega
        obtain ⟨b, ob, rfl, hbl, hc⟩ := (HR0.out wr hbww).at_ hlt
        obtain ⟨y, hy⟩ : ∃ y, y = roots[j] := ⟨_, rfl⟩
        have hyb : 0 ≤ y ∧ y ≤ n := by rw [hy]; exact hrb.out _ (List.getElem_mem hlt)
        rw [← hy] at hc
        replace hc : wr.cell? ⟨b, ob + j, none⟩ = some (.int .i64 y) := hc
        have HT := Lib.hid (fun wx (bx : Below wr.heap.size wr wx) => mthere17 (on := false) ((H.out.below hbww).below bx) y (by rw [hol]; exact hyb) (by omega))
        have hgl9 : gX < wr.heap.size := HBw.lt
        replace hy := Lib.hid hy
        replace hol := Lib.hid hol
        replace hbww := Lib.hid hbww
        replace HBw := Lib.hid HBw
        go_wp2_with fail
        have hS0 : (fun X : World => Below wr.heap.size wr X) wr.drew := (Below.refl _ _).drew
        refine wp_T (by kernel_rfl) 5 (fun X : World => Below wr.heap.size wr X) ?_
        refine wpAnyT_takeC (i := 0) (v := .agg (rm4 vo false vg vb)) [] rfl (by kernel_rfl) (fun _ _ _ hp => hp) (yieldsIf_load_mid (by kernel_rfl) _ _ rfl gX 0 rfl [vo, .bool false, vg, vb] _ (fun X hX => World.rangeAt_of_block (HBw.out.below hX hgl9) 0 4) Tryd.underlying37 rfl rm_size) hS0 ?_
        simp only [Act.put, List.setIfInBounds_toArray, List.set_cons_zero, List.set_cons_succ]
        refine wpAnyT_takeW (i := 1) (v := .slice (some ⟨b, ob, none⟩) roots.length cr) rfl (by kernel_rfl) (fun _ _ _ hp => hp) (Or.inl ⟨by kernel_rfl, fun X _ => by go_simp⟩) hS0 ?_
        simp only [Act.put, List.setIfInBounds_toArray, List.set_cons_zero, List.set_cons_succ]
        refine wpAnyT_takeW (i := 2) (v := .int .i64 (j : Int)) rfl (by kernel_rfl) (fun _ _ _ hp => hp) (Or.inl ⟨by kernel_rfl, fun X _ => by go_simp⟩) hS0 ?_
        simp only [Act.put, List.setIfInBounds_toArray, List.set_cons_zero, List.set_cons_succ]
        refine wpAnyT_takeW (i := 3) (v := .pointer (some ⟨b, ob + j, none⟩)) rfl (by kernel_rfl) (fun _ _ _ hp => hp) (Or.inl ⟨by kernel_rfl, fun X _ => by go_simp⟩) hS0 ?_
        simp only [Act.put, List.setIfInBounds_toArray, List.set_cons_zero, List.set_cons_succ]
        refine wpAnyT_takeC (i := 4) (v := .int .i64 y) [] rfl (by kernel_rfl) (fun _ _ _ hp => hp) (Or.inl ⟨by kernel_rfl, fun X hX => by have y1 := (hX.cell (p := ⟨b, ob + j, none⟩) hbl).trans hc; go_simp⟩) hS0 ?_
        simp only [Act.put, List.setIfInBounds_toArray, List.set_cons_zero, List.set_cons_succ]
        refine wpAnyT_one (i := 5) rfl (by kernel_rfl) (by kernel_rfl) ?_
        intro K1 hK1
        go_simp
        refine (HT.out _ (Below.refl _ _).drew).mono ?_
        rintro e w4 ⟨rfl, b4⟩
        dsimp only
        refine hK1.out _ _ (fun hh => absurd rfl hh) ?_
        (try simp only [Act.put, List.setIfInBounds_toArray, List.set_cons_zero, List.set_cons_succ])
        refine wpAnyT_lat2 (i := 6) rfl (by kernel_rfl) (by kernel_rfl) (by kernel_rfl) ?_
        intro K2 hK2
        go_simp
        refine hK2.out _ _ ?_
        (try simp only [Act.put, List.setIfInBounds_toArray, List.set_cons_zero, List.set_cons_succ])
        refine wpAnyT_done (by kernel_rfl) ?_ _
        (try simp only [Act.put, List.setIfInBounds_toArray, List.set_cons_zero, List.set_cons_succ])
        clear hK1 K1 hK2 K2
        have hb4 := Lib.hid (hbw.out.trans (Below.mono (Below.trans hS0 (Below.mono b4 (Below.size hS0))) hz))
        clear hS0 b4 HT hbw hc
        go_wp2_with fail
        go_roundw
        case rel => exact ⟨j + 1, by omega, by go_num, hb4⟩
        case measure => simp [intOf]; omega
      · obtain rfl : j = roots.length := by omega
        have k1 : wr.cell? ⟨gX, 1, none⟩ = some (.bool false) := HBw.cell 1
        have f1 := HBw.frozen 1
        have B1 := HBw.set_ 1 (.bool true)
        have k2 : (wr.setCell ⟨gX, 1, none⟩ (.bool true)).cell? ⟨gX, 2, none⟩ = some vg := B1.cell 2
        have f2 := B1.frozen 2
        have B2 := B1.set_ 2 (.slice none 0 0)
        have k3 : ((wr.setCell ⟨gX, 1, none⟩ (.bool true)).setCell ⟨gX, 2, none⟩ (.slice none 0 0)).cell? ⟨gX, 3, none⟩ = some vb := B2.cell 3
        have f3 := B2.frozen 3
        have B3 : Blk (((wr.setCell ⟨gX, 1, none⟩ (.bool true)).setCell ⟨gX, 2, none⟩ (.slice none 0 0)).setCell ⟨gX, 3, none⟩ (.slice none 0 0)) gX 37 (rm4 vo true (.slice none 0 0) (.slice none 0 0)) := B2.set_ 3 (.slice none 0 0)
        have hne : gR ≠ gX := by have := hgR.out; have := hgX.out; omega
        have R3 : Blk (((wr.setCell ⟨gX, 1, none⟩ (.bool true)).setCell ⟨gX, 2, none⟩ (.slice none 0 0)).setCell ⟨gX, 3, none⟩ (.slice none 0 0)) gR 37 rm0 := (((HR.out.below hbw.out HR.out.lt).far (p := ⟨gX, 1, none⟩) hne _).far (p := ⟨gX, 2, none⟩) hne _).far (p := ⟨gX, 3, none⟩) hne _
        have hgx0 := Nat.le_of_eq hgX.out.symm
        have b3 : Below w.heap.size w (((wr.setCell ⟨gX, 1, none⟩ (.bool true)).setCell ⟨gX, 2, none⟩ (.slice none 0 0)).setCell ⟨gX, 3, none⟩ (.slice none 0 0)) := ((hbww.setCell (p := ⟨gX, 1, none⟩) hgx0 _).setCell (p := ⟨gX, 2, none⟩) hgx0 _).setCell (p := ⟨gX, 3, none⟩) hgx0 _
        have H3 : RV (((wr.setCell ⟨gX, 1, none⟩ (.bool true)).setCell ⟨gX, 2, none⟩ (.slice none 0 0)).setCell ⟨gX, 3, none⟩ (.slice none 0 0)) objs [] [] vo (.slice none 0 0) (.slice none 0 0) := ⟨(H.out.below b3).ob, Rd.none_ _ _, Rd.none_ _ _, by simp, by simp⟩
        have hnw0 : Hid (Nw w.heap.size vg greys (.slice none 0 0) [] ∧ Nw w.heap.size vb black (.slice none 0 0) []) := Lib.hid ⟨fun _ k hk => (by cases hk), fun _ k hk => (by cases hk)⟩
        replace B3 := Lib.hid B3
        replace R3 := Lib.hid R3
        replace b3 := Lib.hid b3
        replace H3 := Lib.hid H3
        clear B1 B2 HBw hbww hbw
        go_wp2_with fail
        go_loopw [7] (fun i wr => ∃ (j : Nat) (vg' vb' : Value), j ≤ roots.length ∧ i = .int .i64 j ∧ Hid (Blk wr gX 37 (rm4 vo true vg' vb')) ∧ Hid (Blk wr gR 37 rm0) ∧ Hid (RV wr objs ((roots.take j).foldl dShade dStart).greys ((roots.take j).foldl dShade dStart).black vo vg' vb') ∧ Hid (Nw w.heap.size vg greys vg' ((roots.take j).foldl dShade dStart).greys ∧ Nw w.heap.size vb black vb' ((roots.take j).foldl dShade dStart).black) ∧ Hid (Below w.heap.size w wr)) (fun i _ => roots.length - (intOf i).toNat)
        case atStart => exact ⟨0, _, _, by omega, rfl, B3, R3, H3, hnw0, b3⟩
        case round =>
          clear B3 R3 H3 hnw0 b3 k1 k2 k3 f1 f2 f3 hj
          obtain ⟨j, vg', vb', hj, rfl, HBj, HRj, Hj, hnw, bj⟩ := hrel
          obtain ⟨Xj, hXj⟩ : ∃ Xj, Xj = (roots.take j).foldl dShade dStart := ⟨_, rfl⟩
          have hokj : DOk n Xj := by rw [hXj]; exact shades_ok _ ⟨by simp [dStart], fun b hb => by simp [dStart] at hb⟩ fun b hb => hrb.out b (List.mem_of_mem_take hb)
          have hlj := ok_len hokj
          have honj : Xj.on = true := by rw [hXj]; exact (shades_black _ _).2
          rw [← hXj] at Hj hnw
          have hgl9 := HBj.out.lt
          by_cases hlt : j < roots.length
          · have t0 : (j : Int) < (roots.length : Int) := by omega
            obtain ⟨b, ob, rfl, hbl, hc⟩ := (HR0.out wr bj.out).at_ hlt
            obtain ⟨y, hy⟩ : ∃ y, y = roots[j] := ⟨_, rfl⟩
            rw [← hy] at hc
            replace hc : wr.cell? ⟨b, ob + j, none⟩ = some (.int .i64 y) := hc
            have htk : (roots.take (j + 1)).foldl dShade dStart = dShade Xj y := by
              rw [take_snoc roots hlt, List.foldl_append, ← hXj, hy]
              rfl
            have hxe : Xj = ⟨true, Xj.greys, Xj.black⟩ := by rw [← honj]
            have HS := Lib.hid (fun wx (bx : Below wr.heap.size wr wx) => mshade17 (Hj.out.below bx) y (by omega))
            rw [← hxe] at HS
            replace htk := Lib.hid htk
            replace hxe := Lib.hid hxe
            replace hXj := Lib.hid hXj
            replace hy := Lib.hid hy
            clear hokj
            go_wp2_with fail
            have hS0 : (fun X : World => Below wr.heap.size wr X) wr.drew := (Below.refl _ _).drew
            refine wp_T (by kernel_rfl) 6 (fun X : World => Below wr.heap.size wr X) ?_
            refine wpAnyT_takeC (i := 0) (v := .agg (rm4 vo true vg' vb')) [5] rfl (by kernel_rfl) (fun _ _ _ hp => hp) (yieldsIf_load_mid (by kernel_rfl) _ _ rfl gX 0 rfl [vo, .bool true, vg', vb'] _ (fun X hX => World.rangeAt_of_block (HBj.out.below hX hgl9) 0 4) Tryd.underlying37 rfl rm_size) hS0 ?_
            simp only [Act.put, List.setIfInBounds_toArray, List.set_cons_zero, List.set_cons_succ]
            refine wpAnyT_takeW (i := 1) (v := .slice (some ⟨b, ob, none⟩) roots.length cr) rfl (by kernel_rfl) (fun _ _ _ hp => hp) (Or.inl ⟨by kernel_rfl, fun X _ => by go_simp⟩) hS0 ?_
            simp only [Act.put, List.setIfInBounds_toArray, List.set_cons_zero, List.set_cons_succ]
            refine wpAnyT_takeW (i := 2) (v := .int .i64 (j : Int)) rfl (by kernel_rfl) (fun _ _ _ hp => hp) (Or.inl ⟨by kernel_rfl, fun X _ => by go_simp⟩) hS0 ?_
            simp only [Act.put, List.setIfInBounds_toArray, List.set_cons_zero, List.set_cons_succ]
            refine wpAnyT_takeW (i := 3) (v := .pointer (some ⟨b, ob + j, none⟩)) rfl (by kernel_rfl) (fun _ _ _ hp => hp) (Or.inl ⟨by kernel_rfl, fun X _ => by go_simp⟩) hS0 ?_
            simp only [Act.put, List.setIfInBounds_toArray, List.set_cons_zero, List.set_cons_succ]
            refine wpAnyT_takeC (i := 4) (v := .int .i64 y) [5] rfl (by kernel_rfl) (fun _ _ _ hp => hp) (Or.inl ⟨by kernel_rfl, fun X hX => by have y1 := (hX.cell (p := ⟨b, ob + j, none⟩) hbl).trans hc; go_simp⟩) hS0 ?_
            simp only [Act.put, List.setIfInBounds_toArray, List.set_cons_zero, List.set_cons_succ]
            refine wpAnyT_one (i := 5) rfl (by kernel_rfl) (by kernel_rfl) ?_
            intro K1 hK1
            go_simp
            refine (HS.out _ (Below.refl _ _).drew).mono ?_
            rintro e w8 ⟨vg2, vb2, rfl, H8, n1, n2, b8⟩
            dsimp only
            have hS1 : (fun X : World => Below wr.heap.size wr X) w8 := Below.trans hS0 (Below.mono b8 (Below.size hS0))
            refine hK1.out _ _ (fun _ => hS1) ?_
            (try simp only [Act.put, List.setIfInBounds_toArray, List.set_cons_zero, List.set_cons_succ])
            have HB8 := HBj.out.below hS1 hgl9
            have ON8 := Lib.hid (H8.one (dShade Xj y).on)
            refine wpAnyT_one (i := 6) rfl (by kernel_rfl) (by kernel_rfl) ?_
            intro K2 hK2
            refine wps_blk 37 _ _ rfl gX rfl (rm4 vo (dShade Xj y).on vg2 vb2) rfl 37 (rm4 vo true vg' vb') HB8 SZ.out rfl ON8.out ?_
            intro w9 hB9 hg9 hs9
            refine hK2.out _ _ (fun hh => absurd rfl hh) ?_
            (try simp only [Act.put, List.setIfInBounds_toArray, List.set_cons_zero, List.set_cons_succ])
            refine wpAnyT_done (by kernel_rfl) ?_ _
            (try simp only [Act.put, List.setIfInBounds_toArray, List.set_cons_zero, List.set_cons_succ])
            clear hK1 K1 hK2 K2
            have hon2 : (dShade Xj y).on = true := (shade_black Xj y).2.trans honj
            rw [hon2] at hB9
            have bj8 : Below w.heap.size w w8 := bj.out.trans (Below.mono hS1 bj.out.size)
            have b9 := bj8.grown hg9 bj8.size (fun k hk => by cases hk; have := hgX.out; omega)
            have HR9 := Lib.hid ((HRj.out.below hS1 HRj.out.lt).grown hg9 (fun e => by have h1 := Option.some.inj e; have := hgR.out; have := hgX.out; omega))
            have hni : NoInt (rm4 vo true vg' vb') := rm4_noint H8.ob Hj.out.gr Hj.out.bl
            have H9 : RV w9 objs (dShade Xj y).greys (dShade Xj y).black vo vg2 vb2 := ⟨(H.out.below b9).ob, H8.gr.far_blk HB8 hni hg9, H8.bl.far_blk HB8 hni hg9, H8.gs, H8.bs⟩
            have hnw9 := show Nw w.heap.size vg greys vg2 (dShade Xj y).greys ∧ Nw w.heap.size vb black vb2 (dShade Xj y).black from ⟨hnw.out.1.trans n1 (by have := bj.out.size; exact this), hnw.out.2.trans n2 (by have := bj.out.size; exact this)⟩
            rw [← htk.out] at H9 hnw9
            replace hnw9 := Lib.hid hnw9
            replace hB9 := Lib.hid hB9
            replace H9 := Lib.hid H9
            replace b9 := Lib.hid b9
            clear HBj HRj Hj hnw bj HS H8 n1 n2 b8 hS1 hS0 HB8 ON8 hg9 bj8 hc hni
            go_wp2_with fail
            go_roundw
            case rel => exact ⟨j + 1, vg2, vb2, by omega, by go_num, hB9, HR9, H9, hnw9, b9⟩
            case measure => simp [intOf]; omega
          · obtain rfl : j = roots.length := by omega
            rw [List.take_length] at hXj
            have hX3 : X = Xj := by rw [hX1.out, hXj]
            subst hX3
            have ONEj := Lib.hid (Hj.out.one true)
            replace hXj := Lib.hid hXj
            have hone := Lib.hid honj
            clear honj
            go_wp2_with (first
              | (refine wpList_load_blk rfl 37 (.tmp 2) rfl gX rfl 37 (rm4 vo true vg' vb') HBj.out _ Tryd.underlying37 rfl SZ.out ?_)
              | (refine wpList_store_blk rfl 37 (.tmp 4) (.tmp 40) rfl gR rfl (rm4 vo true vg' vb') rfl 37 (rm0) HRj.out SZ.out rfl ONEj.out ?_; intro w9 hR9 hg9 hs9))
            have b9 := bj.out.grown hg9 bj.out.size (fun k hk => by cases hk; have := hgR.out; omega)
            refine bodyPost_ret (res_cell_tmp rfl rfl hR9 Tryd.underlying37 rfl SZ.out) rfl ⟨vg', vb', by show Ending.returned (.tuple #[.agg (rm4 vo true vg' vb'), .int .i64 0]) = Ending.returned (.tuple #[.agg (rm4 vo X.on vg' vb'), .int .i64 0]); rw [hone.out], ⟨(H.out.below b9).ob, Hj.out.gr.far_blk HRj.out rm0_noint hg9, Hj.out.bl.far_blk HRj.out rm0_noint hg9, Hj.out.gs, Hj.out.bs⟩, hnw.out.1, hnw.out.2, b9⟩
end
end Go.Proofs.YtnoiepmapmcjdaaDoor
