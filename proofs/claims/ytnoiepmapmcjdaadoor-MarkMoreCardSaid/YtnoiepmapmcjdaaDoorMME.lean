/- Joined: SetMap, SetRange, MarkPath, MarkCount, MarkFar, MarkMore. -/
import Derived.Test.YtnoiepmapmcjdaaDoorBase
import Derived.Test.YtnoiepmapmcjdaaDoorInfo
import Derived.Maps.Own
import Derived.Maps.Views
import Derived.Maps.Keyed
import Derived.Maps.OwnSet
import Derived.Maps.RangeWalk
import Derived.Test.YtnoiepmapmcjdaaDoorMMB
import Derived.Test.YtnoiepmapmcjdaaDoorMMR
set_option linter.unusedVariables false
set_option linter.unusedSimpArgs false
namespace Go.Proofs.YtnoiepmapmcjdaaDoor
open Go.RowKit Go.Maps

theorem mapi_law : Keyed Tryd.prog 3 := int_keyed Tryd.underlying3
theorem mapb_zero (w : World) : (zeroValue 4).run Tryd.prog w = .ok (.bool false) w := by kernel_rfl
/-- Block b is a map that has true just at the numbers ks, each listed once; at most n entries. -/
def SetM (w : World) (b n : Nat) (ks : List Int) : Prop :=
  ∃ D : DataW Unit, w.ownsMap Tryd.prog 3 (plainElem Tryd.prog 4) b n D ∧ (∀ x, D.atKey (.int .i64 x) (.lit (.bool false)) = .lit (.bool (decide (x ∈ ks)))) ∧ (∀ x, Maps.has D (.int .i64 x) = decide (x ∈ ks)) ∧ ks.Nodup ∧ Maps.size D = ks.length
theorem SetM.new (w : World) : SetM (w.alloc (.map #[] 0)) w.heap.size 0 [] := ⟨.map [], World.ownsMap_made _ _ _ _, fun _ => rfl, fun _ => rfl, by simp, rfl⟩
theorem SetM.kept {w w' : World} {b n : Nat} {ks : List Int} (h : SetM w b n ks) (hb : Below w.heap.size w w') : SetM w' b n ks := by
  obtain ⟨D, h1, h2⟩ := h
  exact ⟨D, h1.kept (row := none) ⟨hb.os, hb.tape, hb.output, hb.size, fun k hk _ => hb.block k hk⟩ (by simp), h2⟩
theorem SetM.lt {w : World} {b n : Nat} {ks : List Int} (h : SetM w b n ks) : b < w.heap.size := by
  obtain ⟨D, h1, _⟩ := h
  exact h1.lt
theorem SetM.look {w : World} {b n : Nat} {ks : List Int} (h : SetM w b n ks) (x : Int) (hw : (Lit.int .i64 x).wf = true) :
    (Instr.lookup 54 (.map (some b)) (.int .i64 x) false).run Tryd.prog w = .ok (.bool (decide (x ∈ ks))) w := by
  obtain ⟨D, h1, h2, _⟩ := h
  obtain ⟨v, ps, hrun, hv⟩ := h1.lookup mapi_law Tryd.underlying54 (mapb_zero w) (plainElem_bool Tryd.underlying4 false) (keyOf_int_mk Tryd.underlying3 hw)
  rw [h2 x] at hv
  rw [hrun]
  cases v <;> simp [plainElem, Tryd.underlying4] at hv
  rw [hv.1]
def addK (ks : List Int) (x : Int) : List Int := if x ∈ ks then ks else ks ++ [x]
theorem mem_addK {ks : List Int} {x y : Int} : y ∈ addK ks x ↔ y ∈ ks ∨ y = x := by
  unfold addK
  split
  · rename_i h
    exact ⟨.inl, fun e => e.elim id fun e => e ▸ h⟩
  · simp
theorem addK_nodup {ks : List Int} {x : Int} (h : ks.Nodup) : (addK ks x).Nodup := by
  unfold addK
  split
  · exact h
  · rename_i hx
    rw [List.nodup_append]
    exact ⟨h, by simp, fun a ha b hb e => by rw [List.mem_singleton] at hb; subst hb e; exact hx ha⟩
theorem addK_len (ks : List Int) (x : Int) : (addK ks x).length ≤ ks.length + 1 := by
  unfold addK
  split <;> simp
theorem SetM.put {w' : World} {b n : Nat} {ks : List Int} {x : Int} {D : DataW Unit} (ht : Tidy D) (hkey : WideAt.IsKeyLit (.int .i64 x)) (h2 : ∀ x, D.atKey (.int .i64 x) (.lit (.bool false)) = .lit (.bool (decide (x ∈ ks)))) (h3 : ∀ x, Maps.has D (.int .i64 x) = decide (x ∈ ks)) (h4 : ks.Nodup) (h5 : Maps.size D = ks.length)
    (h1 : w'.ownsMap Tryd.prog 3 (plainElem Tryd.prog 4) b (n + 1) (D.put (.int .i64 x) (.lit (.bool true)))) : SetM w' b (n + 1) (addK ks x) := by
  have ne : ∀ {y : Int}, y ≠ x → (Lit.int .i64 y) ≠ .int .i64 x := by
    intro y h e
    injection e with _ e
    exact h e
  refine ⟨_, h1, fun y => ?_, fun y => ?_, addK_nodup h4, ?_⟩
  · by_cases e : y = x
    · subst e
      rw [atKey_put_same ht.isMap hkey, decide_eq_true (mem_addK.2 (.inr rfl))]
    · rw [atKey_put_other (ne e), h2 y]
      congr 3
      exact propext ⟨fun h => mem_addK.2 (.inl h), fun h => (mem_addK.1 h).elim id fun h => absurd h e⟩
  · by_cases e : y = x
    · subst e
      rw [has_put_same ht.isMap hkey, decide_eq_true (mem_addK.2 (.inr rfl))]
    · rw [has_put_other (ne e), h3 y, decide_eq_decide, mem_addK]
      exact ⟨.inl, fun h => h.elim id fun h => absurd h e⟩
  · rw [size_put ht, h3 x, h5]
    unfold addK
    by_cases e : x ∈ ks
    · rw [if_pos e, if_pos (decide_eq_true e)]
    · rw [if_neg e, if_neg (by simp [e])]
      simp
section
variable {w : World} {ops : Array Oper} {rest : List Oper} {o : Oper} {a : Act} {Q : Exit → Act → World → Prop}
theorem wpList_setm_new (hgd : o.guard = none) (ho : o.op = .makeMap 54 none)
    (hrun : (execOp a.eval o).run Tryd.prog w = .ok (.value (.map (some w.heap.size))) (w.alloc (.map #[] 0)))
    (h : ∀ w', w'.heap.size = w.heap.size + 1 → Below w.heap.size w w' → SetM w' w.heap.size 0 [] → wpList Tryd.prog ops Q rest (a.put o.dst (.map (some w.heap.size))) w') : wpList Tryd.prog ops Q (o :: rest) a w := by
  refine wpList_plain hgd fun K hK => ?_
  unfold Oper.wp
  rw [hrun]
  exact hK _ _ (h _ (by simp) (below_alloc w _) (SetM.new w))
theorem wpList_setm_put (hgd : o.guard = none) (m x v : Operand) (ho : o.op = .mapUpdate 54 m x v) {b n : Nat} {ks : List Int} (hS : SetM w b n ks) (hm : a.eval m = .map (some b)) (hn : n < maxLen)
    (y : Int) (hx : a.eval x = .int .i64 y) (hv : a.eval v = .bool true) (hw : (Lit.int .i64 y).wf = true)
    (h : ∀ w', SetM w' b (n + 1) (addK ks y) → w.grownBy w' (some b) → wpList Tryd.prog ops Q rest (a.put o.dst undef) w') : wpList Tryd.prog ops Q (o :: rest) a w := by
  obtain ⟨D, h1, h2, h3, h4, h5⟩ := hS
  exact wpList_mapUpdate_own _ hgd m x v _ ho _ _ mapi_law Tryd.underlying54 _ b n D hm h1 hn _ _ (.int .i64 y) hx hv (keyOf_int_mk Tryd.underlying3 hw) (.lit (.bool true)) [] (plainElem_bool Tryd.underlying4 true)
    fun w' h6 h7 => h w' (SetM.put (h1.tidy mapi_law) trivial h2 h3 h4 h5 h6) h7
theorem wpList_setm_len (hgd : o.guard = none) (m : Operand) (ho : o.op = Op.call { callee := Callee.builtin Builtin.len, args := #[m], argTypes := #[54] }) {b n : Nat} {ks : List Int} (hS : SetM w b n ks) (hm : a.eval m = .map (some b))
    (h : wpList Tryd.prog ops Q rest (a.put o.dst (.int .i64 (ks.length : Nat))) w) : wpList Tryd.prog ops Q (o :: rest) a w := by
  obtain ⟨D, h1, h2, h3, h4, h5⟩ := hS
  refine wpList_len_own _ hgd m _ ho _ _ Tryd.underlying54 _ b n D hm h1 ?_
  rw [h5]
  exact h
end
end Go.Proofs.YtnoiepmapmcjdaaDoor
namespace Go.Proofs.YtnoiepmapmcjdaaDoor
open Go.RowKit Go.Maps
theorem SetM.of_block {w w' : World} {b n : Nat} {ks : List Int} (h : SetM w b n ks) (hb : w'.heap[b]? = w.heap[b]?) : SetM w' b n ks := by
  obtain ⟨D, ⟨es, clock, h1, h2⟩, h3⟩ := h
  exact ⟨D, ⟨es, clock, hb.trans h1, h2⟩, h3⟩
theorem SetM.not_cells {w : World} {b n : Nat} {ks : List Int} (h : SetM w b n ks) {o : Nat} {v : Value} (hc : w.cell? ⟨b, o, none⟩ = some v) : False := by
  obtain ⟨D, ⟨es, clock, h1, h2⟩, h3⟩ := h
  simp [World.cell?, h1] at hc
/-- 'for x := range m' under way: block r the iterator, cnt still to come. -/
def SetR (w : World) (b r n : Nat) (ks : List Int) (cnt : Nat) : Prop :=
  ∃ (D : DataW Unit) (left : Lit → Bool), w.ranges Tryd.prog 3 (plainElem Tryd.prog 4) b r n D left cnt ∧ (∀ x, left (.int .i64 x) = true → x ∈ ks)
theorem SetR.left {w : World} {b r n : Nat} {ks : List Int} {cnt : Nat} (h : SetR w b r n ks cnt) : w.rangeLeft b r = cnt := by
  obtain ⟨D, left, h1, _⟩ := h
  exact h1.left_eq
section
variable {w : World} {ops : Array Oper} {rest : List Oper} {o : Oper} {a : Act} {Q : Exit → Act → World → Prop}
theorem wpList_setm_range (hg : o.guard = none) (m : Operand) (hop : o.op = Op.range 54 m) {b n : Nat} {ks : List Int} (hS : SetM w b n ks) (hm : a.eval m = .map (some b))
    (hK : ∀ w' cnt, SetR w' b w.heap.size n ks cnt → Below w.heap.size w w' → w'.heap.size = w.heap.size + 1 → wpList Tryd.prog ops Q rest (a.put o.dst (.pointer (some ⟨w.heap.size, 0, none⟩))) w') :
    wpList Tryd.prog ops Q (o :: rest) a w := by
  obtain ⟨D, h1, h2, h3, h4, h5⟩ := hS
  refine wpList_range_own _ hg m _ hop 3 4 mapi_law Tryd.underlying54 _ b n D hm h1 ?_
  intro w' hr hg' hs
  refine hK w' _ ⟨D, _, hr, fun x hx => ?_⟩ ⟨hg'.os, hg'.tape, hg'.output, hg'.size, fun k hk => hg'.block k hk (by simp)⟩ hs
  rw [h3 x] at hx
  exact of_decide_eq_true hx
theorem wpList_setm_next (hg : o.guard = none) (it : Operand) (hop : o.op = Op.next it false) {b r n cnt : Nat} {ks : List Int} (h : SetR w b r n ks cnt) (hit : a.eval it = .pointer (some ⟨r, 0, none⟩))
    (hDone : wpList Tryd.prog ops Q rest (a.put o.dst (.tuple #[.bool false])) w)
    (hMore : ∀ (x : Int) (c : Value) (w' : World) (cnt' : Nat), x ∈ ks → (Lit.int .i64 x).wf = true → SetR w' b r n ks cnt' → cnt' < cnt → w.grownBy w' (some r) → w'.heap.size = w.heap.size → (Instr.entry (.pointer (some ⟨r, 0, none⟩))).run Tryd.prog w' = .ok (.tuple #[.int .i64 x, c]) w' → wpList Tryd.prog ops Q rest (a.put o.dst (.tuple #[.bool true, .int .i64 x, c])) w') :
    wpList Tryd.prog ops Q (o :: rest) a w := by
  obtain ⟨D, left, hr, hl⟩ := h
  refine wpList_next_ranges w hg it hop 3 mapi_law (plainElem Tryd.prog 4) (Value.int .i64) Value.bool
    (fun key kl hkey => by obtain ⟨x, rfl, _⟩ := Maps.keyOf_int_inv Tryd.underlying3 hkey; exact ⟨x, rfl⟩)
    (fun v y hv => by
      cases v <;> simp [plainElem, Tryd.underlying4] at hv
      exact ⟨_, rfl⟩) b r n D left cnt hit hr (fun _ _ => hDone) fun x c kl y w' cnt' hkey hlk hv hat hrg hlt hgr hsz hen => ?_
  obtain ⟨x', ex, rfl, hwx⟩ := Maps.keyOf_int_inv Tryd.underlying3 hkey
  cases ex
  exact hMore x (.bool c) w' cnt' (hl x hlk) hwx ⟨D, _, hrg, fun z hz => hl z (by
    have := hz
    simp only [Bool.and_eq_true] at this
    exact this.1)⟩ hlt hgr hsz hen
end
end Go.Proofs.YtnoiepmapmcjdaaDoor
namespace Go.Proofs.YtnoiepmapmcjdaaDoor
open Go.RowKit Go.Shelf
section
variable {w0 : W0} {w w' : World} {q h m n : Nat} {S : HS} {K : MK} {R : RM} {objs : List (List Int)}
theorem lostep (H : LO w0 w q h m n K objs) (X : RD) (HX : CK n K X) :
    Calls Tryd.prog 18 #[.pointer (some ⟨m, 0, none⟩)] w fun e w' => e = .returned (.tuple #[.bool (dStep objs X).2, .int .i64 0]) ∧ ∃ K', LO w0 w' q h m n K' objs ∧ CK n K' (dStep objs X).1 ∧ K'.on = K.on := by
  obtain ⟨S, H⟩ := H
  obtain ⟨e1, e2, e3⟩ := H.c.step HX
  have := lstep H
  rw [e1] at this
  refine this.mono ?_
  rintro e w' ⟨rfl, H'⟩
  exact ⟨rfl, _, ⟨S, H'⟩, e2, e3⟩
theorem loptr (H : LO w0 w q h m n K objs) (b : Int) (hb : 0 ≤ b ∧ b ≤ n) : Calls Tryd.prog 20 #[.pointer (some ⟨q, 0, none⟩), .int .i64 b] w fun e w' => e = .returned (.int .i64 (ptrI b)) ∧ w = w' := by
  obtain ⟨S, H⟩ := H
  exact lptr H b hb
theorem locol (H : LO w0 w q h m n K objs) (X : RD) (HX : CK n K X) (i : Nat) (hi : i < n) : Calls Tryd.prog 21 #[.pointer (some ⟨m, 0, none⟩), .int .i64 (4 * (i : Int) + 1)] w fun e w' => e = .returned (.int .i64 (dColor X ((i : Int) + 1))) ∧ w = w' := by
  have := locolor H X HX ((i : Int) + 1) (by omega) (by omega)
  rw [ptrI_pos (by omega), show 4 * ((i : Int) + 1) - 3 = 4 * (i : Int) + 1 by omega] at this
  exact this
theorem lo_path (H : LO w0 w q h m n K objs) {a k : Nat} (ha : a < n) (hk : k < 4) :
    ∃ (Gp : Nat → Prop) (bo oo co bl ol cl : Nat), (∀ j, Gp j → j < w.heap.size) ∧
      (∀ X : World, (∀ j, Gp j → X.heap[j]? = w.heap[j]?) → X.cell? ⟨q, 1, none⟩ = some (.pointer (some ⟨m, 0, none⟩)) ∧ X.cell? ⟨q, 3, none⟩ = some (.slice (some ⟨bo, oo, none⟩) n co) ∧ X.cell? ⟨bo, oo + a, none⟩ = some (.slice (some ⟨bl, ol, none⟩) 4 cl) ∧ X.cell? ⟨bl, ol + k, none⟩ = some (.int .i64 (objAt objs a k))) ∧
      (∀ (w1 : World) (b : Int) (X : RD), Below w.heap.size w w1 → CK n K X → K.on = true → 0 ≤ b ∧ b ≤ n → Calls Tryd.prog 19 #[.pointer (some ⟨m, 0, none⟩), .int .i64 (ptrI b)] w1 fun e w' => e = .returned (.int .i64 0) ∧ (∃ K', LO (w0.guard w w1) w' q h m n K' objs ∧ CK n K' (dShade X b) ∧ K'.on = true) ∧ ∀ j, Gp j → w'.heap[j]? = w1.heap[j]?) := by
  obtain ⟨S, F, D, G, W, hF, fe, C⟩ := H
  have hn := C.n11
  obtain ⟨vp, vo, vg, vb, I⟩ := W.wi
  obtain ⟨us, u1, u2, u3⟩ := I.ob
  have hol : objs.length = n := C.ol
  have hul : us.length = n := by rw [u1]; exact hol
  have u2r := u2.rd
  obtain ⟨Ao, co, rfl, -⟩ := u2r.len
  obtain ⟨bo, oo, rfl, hbo, hco⟩ := u2r.at_ (show a < us.length by omega)
  have hGo : G bo := (u2.inP (by omega) bo rfl).1
  have ho : a < objs.length := by omega
  have u3a := u3 a (by omega) ho
  have h4 : (objs[a]).length = 4 := by
    have := C.four a ha
    rwa [show objs.getD a [] = objs[a] by simp [List.getD, ho]] at this
  have u3r := u3a.rd
  obtain ⟨Al, cl, hus, -⟩ := u3r.len
  rw [hus] at hco u3r
  obtain ⟨bl, ol, rfl, hbl, hcl⟩ := u3r.at_ (show k < (objs[a]).length by omega)
  have hGl : G bl := (u3a.inP (by show 0 < (objs[a]).length; omega) bl (by rw [hus]; rfl)).1
  have hob : objAt objs a k = (objs[a])[k]'(by omega) := by
    unfold objAt
    simp [List.getD, ho, h4, hk]
  refine ⟨G, bo, oo, co, bl, ol, cl, W.glt, fun X hX => ⟨?_, ?_, ?_, ?_⟩, fun w1 b X hb HX hon hbd => ?_⟩
  · rw [World.cell?_of_block (hX q I.gq)]; exact I.blk.cell 1
  · rw [World.cell?_of_block (hX q I.gq), ← hul]; exact I.blk.cell 3
  · rw [World.cell?_of_block (hX bo hGo), hco, h4]
  · rw [World.cell?_of_block (hX bl hGl), hcl, hob]
  · have hk0 := C.known (K := K) hon hbd
    have hsh := C.shade HX hon hbd
    have hp := ptrI_bd hn hbd
    refine (shade_m m h S F K D w1 (W.mm.below hb) (ptrI b) (by omega) (by omega)).mono ?_
    rintro e w' ⟨rfl, D', M, s⟩
    rw [hk0]
    exact ⟨rfl, ⟨_, ⟨S, LW.marks (W.below hb) (guard_free W hF) (fe.guard hb) C M s⟩, hsh.1, hsh.2⟩, fun j hj => s.frame.block j (Nat.lt_of_lt_of_le (W.glt j hj) hb.size) (W.dd j hj)⟩
end
end Go.Proofs.YtnoiepmapmcjdaaDoor
namespace Go.Proofs.YtnoiepmapmcjdaaDoor
open Go.RowKit Go.Shelf
section
variable {n : Nat} {S : HS} {objs : List (List Int)} {K : MK} {R : RD}
theorem made_ok (H : DOk n R) {b : Int} (h1 : 1 ≤ b) (hn : b ≤ n) : DOk n (dMade R b) := by
  have hnd := List.nodup_append.1 H.nd
  have hb : ∀ y, y ∈ (dMade R b).black → y ∈ R.black ∨ y = b := fun y hy => by
    have hy' : y ∈ (if b ∈ R.black then R.black else R.black ++ [b]) := hy
    split at hy'
    · exact .inl hy'
    · exact (List.mem_append.1 hy').imp id List.mem_singleton.1
  have hg : ∀ x, x ∈ (dMade R b).greys → x ∈ R.greys ∧ x ≠ b := fun x hx => by
    have := List.mem_filter.1 (show x ∈ R.greys.filter (fun x => x != b) from hx)
    exact ⟨this.1, by simpa using this.2⟩
  refine ⟨List.nodup_append.2 ⟨hnd.1.filter _, ?_, fun x hx y hy e => ?_⟩, fun x hx => ?_⟩
  · show (if b ∈ R.black then R.black else R.black ++ [b]).Nodup
    split
    · exact hnd.2.1
    · next h =>
      rw [List.nodup_append]
      exact ⟨hnd.2.1, by simp, fun x hx y hy e => by obtain rfl := List.mem_singleton.1 hy; exact h (e ▸ hx)⟩
  · have hx' := hg x hx
    rcases hb y hy with h | h
    · exact hnd.2.2 x hx'.1 y h e
    · exact hx'.2 (e.trans h)
  · rcases hx with h | h
    · exact H.bd x (.inl (hg x h).1)
    · rcases hb x h with h | h
      · exact H.bd x (.inr h)
      · omega
theorem made_mem (R : RD) (b x : Int) : (x ∈ (dMade R b).greys ∨ x ∈ (dMade R b).black) ↔ x = b ∨ (x ∈ R.greys ∨ x ∈ R.black) := by
  have h1 : x ∈ (dMade R b).greys ↔ x ∈ R.greys ∧ x ≠ b := by
    show x ∈ R.greys.filter (fun x => x != b) ↔ _
    rw [List.mem_filter]
    simp
  have h2 : x ∈ (dMade R b).black ↔ x ∈ R.black ∨ x = b := by
    show x ∈ (if b ∈ R.black then R.black else R.black ++ [b]) ↔ _
    split
    · next h => exact ⟨.inl, fun h' => h'.elim id (fun e => e ▸ h)⟩
    · rw [List.mem_append, List.mem_singleton]
  rw [h1, h2]
  by_cases e : x = b
  · subst e; simp
  · simp [e]
theorem Cw.made (C : Cw n S objs) (H : CK n K R) (ho : K.on = true) {b : Int} (h1 : 1 ≤ b) (hn : b ≤ n) : mKnown S K (ptrI b) = (true, 0) ∧ CK n (mMade S K (ptrI b)) (dMade R b) ∧ (mMade S K (ptrI b)).on = true := by
  have hk := C.known (K := K) ho (b := b) (by omega)
  rw [show decide (b ≠ 0) = true by simp; omega] at hk
  refine ⟨hk, ?_⟩
  unfold mMade
  rw [hk, if_pos rfl]
  refine ⟨⟨H.on, ?_, fun x hx1 hxn => ?_, made_ok H.ok h1 hn⟩, ho⟩
  · show keepP (fun x => x == ptrI b) K.greys = (R.greys.filter (fun x => x != b)).map ptrI
    rw [H.greys]
    unfold keepP
    rw [List.filter_map]
    congr 1
    refine List.filter_congr fun x hx => ?_
    have hxb := H.ok.bd x (.inl hx)
    show (!(ptrI x == ptrI b)) = (x != b)
    by_cases e : x = b
    · subst e; simp
    · have : ptrI x ≠ ptrI b := fun e2 => e (ptrI_inj (by omega) (by omega) e2)
      rw [show (ptrI x == ptrI b) = false from beq_eq_false_iff_ne.2 this, show (x != b) = true from bne_iff_ne.2 e]
      rfl
  · rw [made_mem]
    show (ptrI x == ptrI b || K.seen (ptrI x)) = true ↔ _
    rw [Bool.or_eq_true, H.seen x hx1 hxn, beq_iff_eq]
    constructor
    · rintro (h | h)
      · exact .inl (ptrI_inj (by omega) (by omega) h)
      · exact .inr h
    · rintro (h | h)
      · exact .inl (by rw [h])
      · exact .inr h
end
/-! How many are black. -/
def cntB (X : RD) (j : Nat) : Nat := ((List.range j).filter fun (i : Nat) => dColor X ((i : Int) + 1) == 2).length
theorem cntB_succ (X : RD) (j : Nat) : cntB X (j + 1) = if dColor X ((j : Int) + 1) = 2 then cntB X j + 1 else cntB X j := by
  unfold cntB
  rw [List.range_succ, List.filter_append, List.length_append]
  by_cases h : dColor X ((j : Int) + 1) = 2
  · rw [if_pos h]
    simp [h]
  · rw [if_neg h]
    simp [h]
theorem cntB_le (X : RD) (j : Nat) : cntB X j ≤ j := by
  unfold cntB
  have := List.length_filter_le (fun (i : Nat) => dColor X ((i : Int) + 1) == 2) (List.range j)
  rwa [List.length_range] at this
theorem color_two {n : Nat} {X : RD} (hok : DOk n X) (ho : X.on = true) (hg : X.greys = []) (b : Int) : dColor X b = 2 ↔ b ∈ X.black := by
  unfold dColor
  rw [if_neg (by rw [ho]; simp), if_neg (by rw [hg]; simp)]
  split
  · next h => simp [h]
  · next h => simp [h]
theorem cntB_all {n : Nat} {X : RD} (hok : DOk n X) (ho : X.on = true) (hg : X.greys = []) : cntB X n = X.black.length := by
  have hnd : X.black.Nodup := (List.nodup_append.1 hok.nd).2.1
  have e : cntB X n = (((List.range n).filter fun (i : Nat) => dColor X ((i : Int) + 1) == 2).map fun (i : Nat) => (i : Int) + 1).length := by
    rw [List.length_map]; rfl
  rw [e]
  refine List.Perm.length_eq ((List.perm_ext_iff_of_nodup ?_ hnd).2 fun b => ?_)
  · refine List.Pairwise.map _ (fun a b h => ?_) ((List.nodup_range).filter _)
    show (a : Int) + 1 ≠ (b : Int) + 1
    have h' : a ≠ b := h
    omega
  · rw [List.mem_map]
    constructor
    · rintro ⟨i, hi, rfl⟩
      have := (List.mem_filter.1 hi).2
      exact (color_two hok ho hg _).1 (by simpa using this)
    · intro hb
      have hbd := hok.bd b (.inr hb)
      refine ⟨(b - 1).toNat, List.mem_filter.2 ⟨List.mem_range.2 (by omega), ?_⟩, by omega⟩
      rw [show (((b - 1).toNat : Nat) : Int) + 1 = b by omega]
      simpa using (color_two hok ho hg b).2 hb
section
variable {w0 : W0} {w w' : World} {q h m n : Nat} {S : HS} {K : MK} {R : RM} {objs : List (List Int)}
theorem lomade (H : LO w0 w q h m n K objs) (X : RD) (HX : CK n K X) (ho : K.on = true) (i : Nat) (hi : i < n) :
    Calls Tryd.prog 22 #[.pointer (some ⟨m, 0, none⟩), .int .i64 (4 * (i : Int) + 1)] w fun e w' => e = .returned (.int .i64 0) ∧ ∃ K', LO w0 w' q h m n K' objs ∧ CK n K' (dMade X ((i : Int) + 1)) ∧ K'.on = true := by
  have hn := H.n11
  obtain ⟨S, H⟩ := H
  obtain ⟨e1, e2, e3⟩ := H.c.made HX ho (b := (i : Int) + 1) (by omega) (by omega)
  have hp : ptrI ((i : Int) + 1) = 4 * (i : Int) + 1 := by rw [ptrI_pos (by omega)]; omega
  rw [hp] at e1 e2 e3
  have := lmade H (4 * (i : Int) + 1) (by omega) (by omega)
  rw [e1] at this
  refine this.mono ?_
  rintro e w' ⟨rfl, H'⟩
  exact ⟨rfl, _, ⟨S, H'⟩, e2, e3⟩
end
end Go.Proofs.YtnoiepmapmcjdaaDoor
namespace Go.Proofs.YtnoiepmapmcjdaaDoor
open Go.RowKit Go.Shelf
section
variable {w0 : W0} {w w' : World} {q h m n : Nat} {S : HS} {K : MK} {R : RM} {objs : List (List Int)}
theorem lo_far (H : LO w0 w q h m n K objs) (X : RD) (HX : CK n K X) : ∃ (Fp : Nat → Prop) (A : Option Addr) (c : Nat), (∀ k, Fp k → w0.base.heap.size ≤ k ∨ k = 0) ∧
    ∀ w', w.heap.size ≤ w'.heap.size → (∀ k, k < w.heap.size → Fp k → w'.heap[k]? = w.heap[k]?) →
      w'.cell? ⟨q, 1, none⟩ = some (.pointer (some ⟨m, 0, none⟩)) ∧ w'.cell? ⟨q, 2, none⟩ = some (.slice A n c) ∧ Rd i64e w' (.slice A n c) (ptrsN n) ∧
      ∀ i, i < n → Calls Tryd.prog 21 #[.pointer (some ⟨m, 0, none⟩), .int .i64 (4 * (i : Int) + 1)] w' fun e w2 => e = .returned (.int .i64 (dColor X ((i : Int) + 1))) ∧ w' = w2 := by
  have hn := H.n11
  obtain ⟨S, F, D, G, W, hF, fe, C⟩ := H
  obtain ⟨vp, vo, vg, vb, I⟩ := W.wi
  obtain ⟨A, c, rfl, -⟩ := I.pr.rd.len
  refine ⟨fun k => F k ∨ D k ∨ G k ∨ k = 0, A, c, fun k hk => ?_, fun w' hs hk => ?_⟩
  · rcases hk with h | h | h | h
    · exact .inl (hF k (.inl h)).1
    · exact .inl (hF k (.inr (.inl h))).1
    · exact .inl (hF k (.inr (.inr h))).1
    · exact .inr h
  · have M := W.mm.keep hs fun k hlt hkk => hk k hlt (hkk.imp id fun h => h.elim .inl fun h => .inr (.inr h))
    have hq := hk q I.blk.lt (.inr (.inr (.inl I.gq)))
    have hpr := I.pr.keep hs fun b hb hlt => hk b hlt (.inr (.inr (.inl hb.1)))
    have hrd := hpr.rd
    rw [ptrs_len] at hrd
    refine ⟨(World.cell?_of_block hq).trans (I.blk.cell 1), ?_, hrd, fun i hi => ?_⟩
    · rw [World.cell?_of_block hq, I.blk.cell 2]
      show some (Value.slice A (ptrsN n).length c) = _
      rw [ptrs_len]
    · have := color_m m h S F K D w' M (4 * (i : Int) + 1) (by omega) (by omega)
      have hc := HX.color (b := (i : Int) + 1) (by omega) (by omega)
      rw [ptrI_pos (by omega), show 4 * ((i : Int) + 1) - 3 = 4 * (i : Int) + 1 by omega] at hc
      rw [hc] at this
      exact this
end
/-! What is reached from some roots together. -/
section
variable {objs : List (List Int)} {n : Nat} {r1 r2 : List Int}
theorem Rch.sub (hs : ∀ b ∈ r1, b ∈ r2) {b : Int} (h : Rch objs n r1 b) : Rch objs n r2 b := by
  induction h with
  | root hb b1 bn => exact .root (hs _ hb) b1 bn
  | step _ hb b1 bn ih => exact .step ih hb b1 bn
theorem Rch.both {b : Int} (h : Rch objs n (r1 ++ r2) b) : Rch objs n r1 b ∨ Rch objs n r2 b := by
  induction h with
  | root hb b1 bn => exact (List.mem_append.1 hb).imp (fun h => .root h b1 bn) fun h => .root h b1 bn
  | step _ hb b1 bn ih => exact ih.imp (fun h => .step h hb b1 bn) fun h => .step h hb b1 bn
end
/-- The pointers that are reached from some roots. -/
def Got (objs : List (List Int)) (n : Nat) (roots : List Int) (x : Int) : Prop := ∃ i : Nat, i < n ∧ x = 4 * (i : Int) + 1 ∧ Rch objs n roots ((i : Int) + 1)
theorem got_col {objs : List (List Int)} {n : Nat} {roots : List Int} {X : RD} (hbd : ∀ i, i < n → ∀ b ∈ objs.getD i [], 0 ≤ b ∧ b ≤ n) (hok : DOk n X) (ho : X.on = true) (hg : X.greys = []) (hT : Tri objs n roots X) (x : Int) :
    Got objs n roots x ↔ ∃ i : Nat, i < n ∧ x = 4 * (i : Int) + 1 ∧ dColor X ((i : Int) + 1) = 2 := by
  constructor
  · rintro ⟨i, hi, rfl, h⟩
    exact ⟨i, hi, rfl, (color_two hok ho hg _).2 ((tri_end hbd hg hT _).2 h)⟩
  · rintro ⟨i, hi, rfl, h⟩
    exact ⟨i, hi, rfl, (tri_end hbd hg hT _).1 ((color_two hok ho hg _).1 h)⟩
end Go.Proofs.YtnoiepmapmcjdaaDoor
namespace Go.Proofs.YtnoiepmapmcjdaaDoor
open Go.RowKit Go.Shelf Go.Maps
theorem u8_info : (Tryd.prog.info? 5).map (fun i => (i.zero, i.size, i.bytes)) = some (some (.int .u8 0), 1, 1) := by kernel_rfl
def arr3 (f : Nat → Value) : Array Value := #[f 0, f 1, f 2]
theorem arr3_get (f : Nat → Value) {k : Nat} (hk : k < 3) : (arr3 f)[k]? = some (f k) := by
  rcases (show k = 0 ∨ k = 1 ∨ k = 2 from by omega) with rfl | rfl | rfl <;> rfl
theorem arr3_set (f : Nat → Value) {k : Nat} (hk : k < 3) (u : Value) : (arr3 f).setIfInBounds k u = arr3 (fun j => if j = k then u else f j) := by
  rcases (show k = 0 ∨ k = 1 ∨ k = 2 from by omega) with rfl | rfl | rfl <;> rfl
/-- A map of the pointers that are reached from some roots. -/
def GotM (w : World) (objs : List (List Int)) (roots : List Int) (v : Value) : Prop := ∃ b n ks, v = .map (some b) ∧ SetM w b n ks ∧ ∀ x, x ∈ ks ↔ Got objs 11 roots x
theorem nums_append (n : Nat) (a b : List Int) : nums n (a ++ b) = nums n a ++ nums n b := by simp [nums]
set_option maxHeartbeats 16000000 in
set_option maxRecDepth 100000 in
theorem mmore_ok (v0 v1 v2 : Value) (l : List MAct) (r1 r2 : List Int) (w : World) (hv : RdC 5 mactC w v0 l) (hok : ∀ x ∈ l, MActOk w x) (hr1 : Rd u8e w v1 r1) (hb1 : ∀ x ∈ r1, 0 ≤ x ∧ x ≤ 255) (hr2 : Rd u8e w v2 r2) (hb2 : ∀ x ∈ r2, 0 ≤ x ∧ x ≤ 255) (hT : TabW w) :
    Calls Tryd.prog 5 #[v0, v1, v2] w fun e w' => e = .returned (.bool true) ∧ Below w.heap.size w w' := by
  obtain ⟨A, c, rfl, hlc, hcm, -⟩ := hv.len
  obtain ⟨A1, c1, rfl, -, hc1, -⟩ := hr1.len
  obtain ⟨A2, c2, rfl, -, hc2, -⟩ := hr2.len
  have hl9 : (l.length : Int) ≤ 9223372036854775807 := by unfold maxLen at hcm; omega
  have HV := Lib.hid (fun wx (bx : Below w.heap.size w wx) => hv.below bx)
  have HO := Lib.hid hok
  have HR1 := Lib.hid hr1
  have HR2 := Lib.hid hr2
  have HA := Lib.hid (malive_ok w hT)
  have htab := hT.lt
  replace hb1 := Lib.hid hb1
  replace hb2 := Lib.hid hb2
  replace hT := Lib.hid hT
  replace htab := Lib.hid htab
  clear hv hok hr1 hr2
  go_enter Tryd.func5, Tryd.ntmps5
  go_wp2_with fail
  refine HA.out.mono ?_
  rintro e w1 ⟨rfl, b1⟩
  have HH := Lib.hid (heavy_w _ l w1 (HV.out w1 b1) (fun x hx => (HO.out x hx).below b1))
  clear HA
  go_wp2_with fail
  refine HH.out.mono ?_
  rintro e w3 ⟨rfl, d3⟩
  have b3 := b1.trans (d3.mono b1.size)
  clear HH d3 b1
  by_cases hhv : mHeavy l = true
  · rw [hhv]
    go_wp2_with fail
    go_ret
    exact ⟨rfl, b3⟩
  rw [show mHeavy l = false by simpa using hhv]
  replace hhv := Lib.hid hhv
  by_cases h10 : 10 < r1.length
  · have t1 : (10 : Int) < (r1.length : Int) := by omega
    go_wp2_with fail
    go_ret
    exact ⟨rfl, b3⟩
  have t1 : decide ((10 : Int) < (r1.length : Int)) = false := by rw [decide_eq_false_iff_not]; omega
  by_cases h11 : 10 < r2.length
  · have t2 : (10 : Int) < (r2.length : Int) := by omega
    go_wp2_with fail
    go_ret
    exact ⟨rfl, b3⟩
  have t2 : decide ((10 : Int) < (r2.length : Int)) = false := by rw [decide_eq_false_iff_not]; omega
  go_wp2_with (refine wpList_new rfl (.alloc 55) rfl w3.heap.size rfl 55 #[.map none, .map none, .map none] (by kernel_rfl) ?_; intro w4 hs4 hb4 hB4; refine stop_here ?_)
  have b4 := b3.trans (hb4.mono b3.size)
  have hR1 := HR1.out.below b4
  have hgBw : w.heap.size ≤ w3.heap.size := b3.size
  obtain ⟨gB, hgB⟩ : ∃ gB, gB = w3.heap.size := ⟨_, rfl⟩
  rw [← hgB] at hB4 hs4 hgBw ⊢
  replace hgB := Lib.hid hgB
  have hgl : gB < w4.heap.size := hB4.lt
  replace hB4 := Lib.hid hB4
  clear hb4 b3 t1 t2
  refine go_on ?_
  go_wp2_with (at_builtin; refine wpList_append_all rfl (.const (.slice none 0 0)) (.tmp 37) _ rfl w4.heap.size 5 _ 1 Tryd.underlying23 u8_info rfl _ 0 [] rfl (World.ownsRow_nil _ _ _ _) u8e _ r1 (fun _ => rfl) rfl hR1 (by unfold maxLen; omega) (by omega) (Nat.le_refl _) ?_; intro v5 w5 ho5 hg5 hat5; refine stop_here ?_)
  rw [Nat.zero_add, List.nil_append] at ho5
  have b45 : Below w4.heap.size w4 w5 := (Below.refl _ w4).grown hg5 (Nat.le_refl _) (fun k e => by cases e)
  have hR2 := HR2.out.below (b4.trans (b45.mono b4.size))
  obtain ⟨A5, c5, rfl, -⟩ := own_form ho5
  clear hg5 hat5 hR1
  refine go_on ?_
  go_wp2_with (at_builtin; refine wpList_append_all rfl (.tmp 38) (.tmp 39) _ rfl w4.heap.size 5 _ 1 Tryd.underlying23 u8_info rfl _ r1.length _ rfl ho5 u8e _ r2 (fun _ => rfl) rfl hR2 (by unfold maxLen; omega) (by omega) b45.size ?_; intro v6 w6 ho6 hg6 hat6; refine stop_here ?_)
  have b46 : Below w4.heap.size w4 w6 := b45.grown hg6 b45.size (fun k e => (ho5.lt k e).1)
  obtain ⟨A6, c6, rfl, -⟩ := own_form ho6
  have r6 : Rd u8e w6 (.slice A6 (r1.length + r2.length) c6) (r1 ++ r2) := by
    have : (r1 ++ r2).length = r1.length + r2.length := by simp
    rw [← this]
    exact Rd.of_own (by rw [this, List.map_append]; exact ho6)
  have f6 := own_from ho6
  clear hg6 hat6 ho5 ho6 hR2 b45
  refine go_on ?_
  go_wp2_with fail
  -- the three lists of roots
  obtain ⟨gS, hgS⟩ : ∃ gS, gS = w6.heap.size := ⟨_, rfl⟩
  have hBS := Blk.new w6 23 #[.slice A1 r1.length c1, .slice A2 r2.length c2, .slice A6 (r1.length + r2.length) c6]
  have b6S := below_alloc w6 (.cells #[.slice A1 r1.length c1, .slice A2 r2.length c2, .slice A6 (r1.length + r2.length) c6] 23)
  generalize w6.alloc (.cells #[.slice A1 r1.length c1, .slice A2 r2.length c2, .slice A6 (r1.length + r2.length) c6] 23) = wS at hBS b6S ⊢
  have b4S : Below w4.heap.size w4 wS := b46.trans (b6S.mono b46.size)
  have bS := b4.trans (b4S.mono b4.size)
  have HU : Hid (∃ (uv : Nat → Option Addr × Nat × Nat) (rl : Nat → List Int), Blk wS gS 23 (arr3 fun j => slE (uv j)) ∧ rl 0 = r1 ∧ rl 1 = r2 ∧ rl 2 = r1 ++ r2 ∧ ∀ j, j < 3 → Rd u8e wS (slE (uv j)) (rl j) ∧ (rl j).length ≤ 20 ∧ (∀ x ∈ rl j, 0 ≤ x ∧ x ≤ 255) ∧ (0 < (rl j).length → ∀ b, (slE (uv j)).ownBlock = some b → b ≠ gB)) := Lib.hid (by
    refine ⟨fun j => if j = 0 then (A1, r1.length, c1) else if j = 1 then (A2, r2.length, c2) else (A6, r1.length + r2.length, c6), fun j => if j = 0 then r1 else if j = 1 then r2 else r1 ++ r2, by rw [hgS]; exact hBS, rfl, rfl, rfl, fun j hj => ?_⟩
    rcases (show j = 0 ∨ j = 1 ∨ j = 2 by omega) with rfl | rfl | rfl
    · exact ⟨HR1.out.below bS, by show r1.length ≤ 20; omega, hb1.out, fun hp b e => by have := rdl_lt HR1.out hp e; omega⟩
    · exact ⟨HR2.out.below bS, by show r2.length ≤ 20; omega, hb2.out, fun hp b e => by have := rdl_lt HR2.out hp e; omega⟩
    · exact ⟨r6.below b6S, by show (r1 ++ r2).length ≤ 20; rw [List.length_append]; omega, fun x hx => (List.mem_append.1 hx).elim (hb1.out x) (hb2.out x), fun hp b e => by have := f6 b e; omega⟩)
  obtain ⟨uv, rl, hU⟩ := HU.out
  have hBo := hB4.out.below b4S hgl
  have hgS4 : gS ≠ gB := by have := b46.size; omega
  rw [← hgS]
  replace hgS := Lib.hid hgS
  replace hU := Lib.hid hU
  replace bS := Lib.hid bS
  have hglS : gB < wS.heap.size := by have := b4S.size; omega
  obtain ⟨ob0, hob0⟩ : ∃ ob0, ob0 = l.foldl (actO 11) (List.replicate 11 zero4) := ⟨_, rfl⟩
  have hM0 : Hid (Blk wS gB 55 (arr3 fun _ => .map none) ∧ ∀ i, i < 0 → GotM wS ob0 (nums 11 (rl i)) ((fun _ : Nat => Value.map none) i)) := Lib.hid ⟨hBo, fun i hi => absurd hi (by omega)⟩
  replace hob0 := Lib.hid hob0
  clear HU hBS b6S b46 r6 f6 b4S b4 hB4 hs4 hgl hBo
  go_loopw [43] (fun i wo => ∃ (j : Nat) (mv : Nat → Value), j ≤ 3 ∧ i = .int .i64 j ∧ Hid (wS.grownBy wo (some gB)) ∧ Hid (Blk wo gB 55 (arr3 mv) ∧ ∀ i, i < j → GotM wo ob0 (nums 11 (rl i)) (mv i))) (fun i _ => 3 - (intOf i).toNat)
  case atStart => exact ⟨0, _, by omega, rfl, Lib.hid (World.grownBy.refl _ _), hM0⟩
  case round =>
    clear hM0
    rename World => wo
    obtain ⟨jo, mv, hjo, rfl, hgo, hM⟩ := hrel
    have bo : Below w.heap.size w wo := bS.out.grown hgo.out bS.out.size (fun k e => by cases e; exact hgBw)
    by_cases hlto : jo < 3
    · have t0 : (jo : Int) < 3 := by omega
      obtain ⟨hBS, -, -, -, hall⟩ := hU.out
      obtain ⟨hrj, hlj, hbj, hnj⟩ := hall jo hlto
      have hrjo : Rd u8e wo (slE (uv jo)) (rl jo) := hrj.keep hgo.out.size fun hp b e hb => hgo.out.block b hb (fun e2 => hnj hp b e (Option.some.inj e2))
      have cs := hBS.grown hgo.out (fun e => hgS4 (Option.some.inj e))
      have cjo : wo.cell? ⟨gS, jo, none⟩ = some (slE (uv jo)) := by rw [cs.cell jo, arr3_get _ hlto]
      obtain ⟨Aj, cj, ej, -⟩ := hrjo.len
      rw [ej] at cjo hrjo
      obtain ⟨rj, hrjn⟩ : ∃ rj, rj = rl jo := ⟨_, rfl⟩
      rw [← hrjn] at hrjo cjo hlj hbj
      replace hrjo := Lib.hid hrjo
      replace hbj := Lib.hid hbj
      replace hrjn := Lib.hid hrjn
      have HB := Lib.hid (lobegin (n := 11) (w := wo) (by omega) (hT.out.below bo))
      have hgBo : gB < wo.heap.size := by have := hgo.out.size; omega
      clear hBS hall hrj hnj cs ej
      go_wp2_with fail
      refine HB.out.mono ?_
      rintro e w2 ⟨q, h, m, rfl, H2⟩
      replace H2 := Lib.hid H2
      clear HB cjo
      go_wp2_with fail
      go_loopw [56] (fun i wr => ∃ j : Nat, j ≤ l.length ∧ i = .int .i64 j ∧ Hid (LO (ofW wo) wr q h m 11 mNew ((l.take j).foldl (actO 11) (List.replicate 11 zero4)))) (fun i _ => l.length - (intOf i).toNat)
      case atStart => exact ⟨0, by omega, rfl, H2⟩
      case round =>
        clear H2
        obtain ⟨j, hj, rfl, H⟩ := hrel
        have bw : Below w.heap.size w wr := bo.trans (H.out.b.mono bo.size)
        by_cases hlt : j < l.length
        · have t0 : (j : Int) < (l.length : Int) := by omega
          obtain ⟨b, o, rfl, _, hc⟩ := (HV.out wr bw).at_ hlt
          obtain ⟨x, hx⟩ : ∃ x, l[j] = x := ⟨_, rfl⟩
          have hxo := HO.out _ (List.getElem_mem hlt)
          have htk : (l.take (j + 1)).foldl (actO 11) (List.replicate 11 zero4) = actO 11 ((l.take j).foldl (actO 11) (List.replicate 11 zero4)) x := by
            rw [List.take_add_one, List.getElem?_eq_getElem hlt, List.foldl_append, hx]
            rfl
          rw [hx] at hc hxo
          obtain ⟨kind, xa, xb, xk, rv, rl⟩ := x
          have c0 : wr.cell? ⟨b, o + j * 5, none⟩ = some (.int .u8 kind) := hc 0 _ rfl
          have c1 : wr.cell? ⟨b, o + j * 5 + 1, none⟩ = some (.int .u8 xa) := hc 1 _ rfl
          have c2 : wr.cell? ⟨b, o + j * 5 + 2, none⟩ = some (.int .u8 xb) := hc 2 _ rfl
          have c3 : wr.cell? ⟨b, o + j * 5 + 3, none⟩ = some (.int .u8 xk) := hc 3 _ rfl
          have c4 := hc 4 _ rfl
          obtain ⟨Av, cv, hrv, -⟩ := hxo.rd.len
          dsimp only at hrv c4
          rw [hrv] at c4
          replace c4 : wr.cell? ⟨b, o + j * 5 + 4, none⟩ = some (.slice Av rl.length cv) := c4
          have hd := hxo.kind
          have ha := hxo.a
          have hb := hxo.b
          have hk := hxo.k
          dsimp only at hd ha hb hk
          replace hrv := Lib.hid hrv
          clear hc hx hxo
          replace htk : _ = setO _ (xa % 12) (xk % 4) (xb % 12) := htk
          replace htk := Lib.hid htk
          go_wp2_with (first
            | (refine wpList_new rfl (.alloc 30) rfl wr.heap.size rfl 30 #[.int .u8 0, .int .u8 0, .int .u8 0, .int .u8 0, .slice none 0 0] (by kernel_rfl) ?_; intro w1 hs1 hb1 hB1; have HB1 := Lib.hid hB1; clear hB1)
            | (refine wpList_store_blk rfl 30 (.tmp 13) (.tmp 59) rfl wr.heap.size rfl #[.int .u8 kind, .int .u8 xa, .int .u8 xb, .int .u8 xk, .slice Av rl.length cv] rfl 30 #[.int .u8 0, .int .u8 0, .int .u8 0, .int .u8 0, .slice none 0 0] HB1.out mact_size rfl (by simp [Value.oneCell']) ?_; intro w2 hB2 hg2 hs2; refine stop_here ?_))
          have hb2 : Below wr.heap.size wr w2 := hb1.grown hg2 hb1.size (fun k hk => by cases hk; exact Nat.le_refl _)
          have e0 : w2.cell? ⟨wr.heap.size, 0, none⟩ = some (.int .u8 kind) := hB2.cell 0
          have e1 : w2.cell? ⟨wr.heap.size, 1, none⟩ = some (.int .u8 xa) := hB2.cell 1
          have e2 : w2.cell? ⟨wr.heap.size, 2, none⟩ = some (.int .u8 xb) := hB2.cell 2
          have e3 : w2.cell? ⟨wr.heap.size, 3, none⟩ = some (.int .u8 xk) := hB2.cell 3
          have hgl : wr.heap.size < w2.heap.size := hB2.lt
          clear HB1 hB2 hg2 hs2 hs1 hb1 c0 c1 c2 c3 c4
          have HS := Lib.hid (lset (H.out.below hb2) (xa % 12) (xk % 4) (xb % 12) (by omega) (by omega) (by omega))
          rw [← htk.out] at HS
          clear hb2 H hgl e0
          refine go_on ?_
          go_wp2_with fail
          refine HS.out.mono ?_
          rintro e w4 ⟨rfl, H4⟩
          replace H4 := Lib.hid H4
          clear HS e1 e2 e3 htk
          go_wp2_with fail
          go_roundw
          case rel => exact ⟨j + 1, by omega, by go_num, H4⟩
          case measure => simp [intOf]; omega
        · obtain rfl : j = l.length := by omega
          rw [List.take_length, ← hob0.out] at H
          have HRo := Lib.hid (loroots H.out _ rj (hrjo.out.below H.out.b) hlj hbj.out)
          go_wp2_with fail
          refine HRo.out.mono ?_
          rintro e w5 ⟨va, vb, rfl, ra, rb, fa, fb, b5⟩
          have rbd : ∀ b ∈ nums 11 rj, 0 ≤ b ∧ b ≤ ((11 : Nat) : Int) := nums_bd
          have rl' : (nums 11 rj).length ≤ 20 := by simp [nums]; omega
          obtain ⟨Aa, ca, rfl, -⟩ := ra.len
          obtain ⟨Ab, cb, rfl, -⟩ := rb.len
          obtain ⟨ks, hks⟩ : ∃ ks, ks = nums 11 rj := ⟨_, rfl⟩
          rw [← hks] at ra rb rbd rl' fa ⊢
          rw [List.length_map] at ra fa ⊢
          have HBe := Lib.hid (lobeg H.out rfl b5 _ ks rl' rbd ra fa)
          have p1 := (H.out.below b5).cells.2.1
          replace rbd := Lib.hid rbd
          replace hks := Lib.hid hks
          clear HRo fb rb ra fa
          go_wp2_with fail
          refine HBe.out.mono ?_
          rintro e w7 ⟨rfl, K1, H7, ck1, on1⟩
          have HF := Lib.hid (lofin H7 _ ck1 on1)
          replace H7 := Lib.hid H7
          clear HBe p1 b5 H bw
          go_wp2_with fail
          refine HF.out.mono ?_
          rintro e w8 ⟨rfl, K9, X9, H8, ck9, hg9, on9, hP⟩
          obtain ⟨S8, C8⟩ := H8.c
          have hT9 : Tri ob0 11 ks X9 := hP (Tri ob0 11 ks) (fun Y hy ho hp => tri_step C8.bds hy ho hp) (tri_start rbd.out)
          have hgot := Lib.hid (got_col C8.bds ck9.ok (ck9.on ▸ on9) hg9 hT9)
          obtain ⟨Fp, Ap, cp, hFp, hfar⟩ := lo_far H8 X9 ck9
          have b8 : Below wo.heap.size wo w8 := H8.b
          replace hFp : ∀ k, Fp k → wo.heap.size ≤ k ∨ k = 0 := hFp
          have hs8 := b8.size
          have hBo8 : Blk w8 gB 55 (arr3 mv) := hM.out.1.below b8 hgBo
          have c8 : w8.cell? ⟨gB, jo, none⟩ = some (mv jo) := by rw [hBo8.cell jo, arr3_get _ hlto]
          have f8 := hBo8.frozen jo
          have hq8 : q ≠ gB := by have := H8.cells.2.2.2; intro e; have h2 : wo.heap.size ≤ q := this; omega
          have hqs := H8.cells.2.2.1
          have pq := (hfar w8 (Nat.le_refl _) (fun _ _ _ => rfl)).2.1
          have hFg : Hid (∀ k, Fp k → k ≠ gB) := Lib.hid fun k hk e => by
            rcases hFp k hk with h | h
            · omega
            · have := htab.out; omega
          replace hFp := Lib.hid hFp
          replace hfar := Lib.hid hfar
          replace b8 := Lib.hid b8
          replace hBo8 := Lib.hid hBo8
          obtain ⟨bM, hbM⟩ : ∃ bM, bM = w8.heap.size := ⟨_, rfl⟩
          clear HF hP C8 hT9 H8 ck9 ck1 on1 on9 hg9 H7
          go_wp2_with (refine wpList_setm_new rfl rfl (by kernel_rfl) ?_; intro w9 hs9 hb9 hS9; refine stop_here ?_)
          rw [← hbM] at hS9 hs9 ⊢
          have hgB8 : gB < w8.heap.size := by omega
          have c9 : w9.cell? ⟨gB, jo, none⟩ = some (mv jo) := (World.cell?_of_block (hb9.block gB hgB8)).trans c8
          have f9 : w9.frozen? ⟨gB, jo, none⟩ = false := (hBo8.out.below hb9 hgB8).frozen jo
          have p9 : w9.cell? ⟨q, 2, none⟩ = some (.slice Ap 11 cp) := (World.cell?_of_block (hb9.block q hqs)).trans pq
          have p10 : (w9.setCell ⟨gB, jo, none⟩ (.map (some bM))).cell? ⟨q, 2, none⟩ = some (.slice Ap 11 cp) := (World.cell?_of_block (setCell_other w9 gB jo _ hq8)).trans p9
          have z10 : (w9.setCell ⟨gB, jo, none⟩ (.map (some bM))).heap.size = w9.heap.size := setCell_size _ _ _
          have o10 : ∀ k, k ≠ gB → (w9.setCell ⟨gB, jo, none⟩ (.map (some bM))).heap[k]? = w9.heap[k]? := fun k hk => setCell_other w9 gB jo _ hk
          have B10 := (hBo8.out.below hb9 hgB8).set_ jo (.map (some bM))
          rw [arr3_set _ hlto] at B10
          have hbg : bM ≠ gB := by omega
          have S10 : SetM (w9.setCell ⟨gB, jo, none⟩ (.map (some bM))) bM 0 [] := hS9.of_block (o10 bM hbg)
          have h810 : Hid (∀ k, k < w8.heap.size → k ≠ gB → (w9.setCell ⟨gB, jo, none⟩ (.map (some bM))).heap[k]? = w8.heap[k]?) := Lib.hid fun k hk hne => (o10 k hne).trans (hb9.block k hk)
          have g10 : (w9.setCell ⟨gB, jo, none⟩ (.map (some bM))).os = wo.os ∧ (w9.setCell ⟨gB, jo, none⟩ (.map (some bM))).tape = wo.tape ∧ (w9.setCell ⟨gB, jo, none⟩ (.map (some bM))).output = wo.output := ⟨hb9.os.trans b8.out.os, hb9.tape.trans b8.out.tape, hb9.output.trans b8.out.output⟩
          have hz9 : bM < w9.heap.size := by omega
          replace S10 := Lib.hid S10
          replace B10 := Lib.hid B10
          replace z10 := Lib.hid z10
          replace g10 := Lib.hid g10
          replace o10 := Lib.hid o10
          replace hbM := Lib.hid hbM
          replace hS9 := Lib.hid hS9
          clear c8 f8 pq
          refine go_on ?_
          go_wp2_with fail
          obtain ⟨w10, hw10⟩ : ∃ w10, w10 = w9.setCell ⟨gB, jo, none⟩ (.map (some bM)) := ⟨_, rfl⟩
          rw [← hw10] at S10 B10 z10 g10 h810 ⊢
          have hz10 : bM < w10.heap.size := by rw [z10.out]; exact hz9
          clear hw10 p10 p9 c9 f9 o10 hS9 hb9 hz9 hs9
          go_loopw [101] (fun i wr => ∃ (j2 n2 : Nat) (ks2 : List Int), j2 ≤ 11 ∧ i = .int .i64 j2 ∧ n2 ≤ j2 ∧ Hid (SetM wr bM n2 ks2) ∧ Hid (∀ x, x ∈ ks2 ↔ ∃ i : Nat, i < j2 ∧ x = 4 * (i : Int) + 1 ∧ dColor X9 ((i : Int) + 1) = 2) ∧ Hid (w10.grownBy wr (some bM))) (fun i _ => 11 - (intOf i).toNat)
          case atStart => exact ⟨0, 0, [], by omega, rfl, by omega, S10, Lib.hid fun x => ⟨fun h => (by cases h), fun ⟨i, hi, _⟩ => by omega⟩, Lib.hid (World.grownBy.refl _ _)⟩
          case round =>
            clear S10
            obtain ⟨j2, n2, ks2, hj2, rfl, hn2, hS, hks2, hgw⟩ := hrel
            have hszw : w10.heap.size ≤ wr.heap.size := hgw.out.size
            have h8w : ∀ k, k < w8.heap.size → k ≠ gB → wr.heap[k]? = w8.heap[k]? := fun k hk hne => (hgw.out.block k (by have := hbM.out; omega) (fun e => by have := Option.some.inj e; have := hbM.out; omega)).trans (h810.out k hk hne)
            have hBw : Blk wr gB 55 (arr3 fun i => if i = jo then .map (some bM) else mv i) := B10.out.grown hgw.out (fun e => hbg (Option.some.inj e).symm)
            have cbw : wr.cell? ⟨gB, jo, none⟩ = some (.map (some bM)) := by rw [hBw.cell jo, arr3_get _ hlto, if_pos rfl]
            by_cases hlt2 : j2 < 11
            · have t5 : (j2 : Int) < 11 := by omega
              obtain ⟨p1, p2, rp, hC⟩ := hfar.out wr (by have := hbM.out; omega) (fun k hk hf => h8w k hk (hFg.out k hf))
              have hjp : j2 < (ptrsN 11).length := by rw [ptrs_len]; exact hlt2
              have hpj : (ptrsN 11)[j2] = 4 * (j2 : Int) + 1 := ptrs_at hjp
              obtain ⟨bp, op, rfl, _, cpj⟩ := rp.at_ hjp
              rw [hpj] at cpj
              replace cpj : wr.cell? ⟨bp, op + j2, none⟩ = some (.int .i64 (4 * (j2 : Int) + 1)) := cpj
              have HCj := Lib.hid (hC j2 hlt2)
              have hwf : Hid ((Lit.int .i64 (4 * (j2 : Int) + 1)).wf = true) := Lib.hid (WalkArith.wf_i64 ⟨by omega, by omega⟩)
              have hn9 : n2 < maxLen := by unfold maxLen; omega
              clear hpj rp hjp hC h8w hBw
              by_cases hc : dColor X9 ((j2 : Int) + 1) = 2
              · have hks3 : Hid (∀ x, x ∈ addK ks2 (4 * (j2 : Int) + 1) ↔ ∃ i : Nat, i < j2 + 1 ∧ x = 4 * (i : Int) + 1 ∧ dColor X9 ((i : Int) + 1) = 2) := Lib.hid fun x => by
                  rw [mem_addK, hks2.out x]
                  constructor
                  · rintro (⟨i, hi, h⟩ | rfl)
                    · exact ⟨i, by omega, h⟩
                    · exact ⟨j2, by omega, rfl, hc⟩
                  · rintro ⟨i, hi, rfl, h⟩
                    by_cases e : i = j2
                    · subst e; exact .inr rfl
                    · exact .inl ⟨i, by omega, rfl, h⟩
                rw [hc] at HCj
                clear hc
                go_wp2_with fail
                refine HCj.out.mono ?_
                rintro e _ ⟨rfl, rfl⟩
                clear HCj p1 p2 cpj
                go_wp2_with (refine wpList_setm_put rfl (.tmp 114) (.tmp 115) (.const (.bool true)) rfl hS.out rfl hn9 (4 * (j2 : Int) + 1) rfl rfl hwf.out ?_; intro w4 hS4 hg4; replace hS4 := Lib.hid hS4)
                have hgw4 := Lib.hid (hgw.out.andThen hg4 (fun k e => by cases e; exact .inr rfl))
                go_roundw
                case rel => exact ⟨j2 + 1, n2 + 1, _, by omega, by go_num, by omega, hS4, hks3, hgw4⟩
                case measure => simp [intOf]; omega
              · have hks3 : Hid (∀ x, x ∈ ks2 ↔ ∃ i : Nat, i < j2 + 1 ∧ x = 4 * (i : Int) + 1 ∧ dColor X9 ((i : Int) + 1) = 2) := Lib.hid fun x => by
                  rw [hks2.out x]
                  constructor
                  · rintro ⟨i, hi, h⟩
                    exact ⟨i, by omega, h⟩
                  · rintro ⟨i, hi, rfl, h⟩
                    by_cases e : i = j2
                    · subst e; exact absurd h hc
                    · exact ⟨i, by omega, rfl, h⟩
                have hc' : (dColor X9 ((j2 : Int) + 1) == 2) = false := by rw [beq_eq_false_iff_ne]; exact hc
                obtain ⟨dc, hdc⟩ : ∃ dc, dc = dColor X9 ((j2 : Int) + 1) := ⟨_, rfl⟩
                rw [← hdc] at hc' HCj
                replace hdc := Lib.hid hdc
                clear hc
                go_wp2_with fail
                refine HCj.out.mono ?_
                rintro e _ ⟨rfl, rfl⟩
                clear HCj p1 p2 cpj
                go_wp2_with fail
                go_roundw
                case rel => exact ⟨j2 + 1, n2, _, by omega, by go_num, by omega, hS, hks3, hgw⟩
                case measure => simp [intOf]; omega
            · obtain rfl : j2 = 11 := by omega
              have hch : ∀ k, k < wo.heap.size → k ≠ gB → wr.heap[k]? = wo.heap[k]? := fun k hk hne => (h8w k (by omega) hne).trans (b8.out.block k hk)
              have hgr : wo.grownBy wr (some gB) := ⟨hgw.out.os.trans g10.out.1, hgw.out.tape.trans g10.out.2.1, hgw.out.output.trans g10.out.2.2, by have := hbM.out; omega, fun k hk hne => hch k hk (fun e => hne (by rw [e]))⟩
              have hgo2 := Lib.hid (hgo.out.andThen hgr (fun k e => by cases e; exact .inr rfl))
              have hM2 : Hid (Blk wr gB 55 (arr3 fun i => if i = jo then .map (some bM) else mv i) ∧ ∀ i, i < jo + 1 → GotM wr ob0 (nums 11 (rl i)) ((fun i => if i = jo then Value.map (some bM) else mv i) i)) := Lib.hid ⟨hBw, fun i hi => by
                by_cases e : i = jo
                · subst e
                  refine ⟨bM, _, ks2, by simp, hS.out, fun x => ?_⟩
                  rw [← hrjn.out, ← hks.out, hgot.out x, hks2.out x]
                · obtain ⟨b, n, ks, e1, s1, x1⟩ := hM.out.2 i (by omega)
                  refine ⟨b, n, ks, by simp only [if_neg e]; exact e1, s1.of_block (hch b s1.lt fun e2 => ?_), x1⟩
                  subst e2
                  exact s1.not_cells (hM.out.1.cell 0)⟩
              clear hch hgr h8w hBw cbw hS hks2 hgw
              go_wp2_with fail
              go_roundw
              case rel => exact ⟨jo + 1, _, by omega, by go_num, hgo2, hM2⟩
              case measure => simp [intOf]; omega
    · obtain rfl : jo = 3 := by omega
      obtain ⟨hBo, hG⟩ := hM.out
      obtain ⟨-, hl0, hl1, hl2, -⟩ := hU.out
      obtain ⟨m0, n0, k0, e0, s0, x0⟩ := hG 0 (by omega)
      obtain ⟨m1, n1, k1, e1, s1, x1⟩ := hG 1 (by omega)
      obtain ⟨m2, n2, k2, e2, s2, x2⟩ := hG 2 (by omega)
      rw [hl0] at x0
      rw [hl1] at x1
      rw [hl2, nums_append] at x2
      have hgBo : gB < wo.heap.size := hBo.lt
      have d0 : wo.cell? ⟨gB, 0, none⟩ = some (.map (some m0)) := by rw [hBo.cell 0, ← e0]; rfl
      have d1 : wo.cell? ⟨gB, 1, none⟩ = some (.map (some m1)) := by rw [hBo.cell 1, ← e1]; rfl
      have d2 : wo.cell? ⟨gB, 2, none⟩ = some (.map (some m2)) := by rw [hBo.cell 2, ← e2]; rfl
      have hup : Hid (∀ x, x ∈ k2 → x ∈ k0 ∨ x ∈ k1) := Lib.hid fun x hx => by
        obtain ⟨i, hi, rfl, h⟩ := (x2 x).1 hx
        exact h.both.imp (fun h => (x0 _).2 ⟨i, hi, rfl, h⟩) fun h => (x1 _).2 ⟨i, hi, rfl, h⟩
      have hd0 : ∀ x, x ∈ k0 → x ∈ k2 := fun x hx => by
        obtain ⟨i, hi, rfl, h⟩ := (x0 x).1 hx
        exact (x2 _).2 ⟨i, hi, rfl, h.sub fun b hb => List.mem_append_left _ hb⟩
      have hd1 : ∀ x, x ∈ k1 → x ∈ k2 := fun x hx => by
        obtain ⟨i, hi, rfl, h⟩ := (x1 x).1 hx
        exact (x2 _).2 ⟨i, hi, rfl, h.sub fun b hb => List.mem_append_right _ hb⟩
      have hdn : Hid (∀ i, i < 2 → ∃ b n ks, wo.cell? ⟨gB, i, none⟩ = some (.map (some b)) ∧ SetM wo b n ks ∧ ∀ x, x ∈ ks → x ∈ k2) := Lib.hid fun i hi => by
        rcases (show i = 0 ∨ i = 1 by omega) with rfl | rfl
        · exact ⟨m0, n0, k0, d0, s0, hd0⟩
        · exact ⟨m1, n1, k1, d1, s1, hd1⟩
      have S0 := Lib.hid s0
      have S1 := Lib.hid s1
      have S2 := Lib.hid s2
      have D0 := Lib.hid d0
      have D1 := Lib.hid d1
      have D2 := Lib.hid d2
      clear hBo hG hl0 hl1 hl2 x0 x1 x2 hd0 hd1 e0 e1 e2 s0 s1 s2 d0 d1 hM hU hgo
      go_wp2_with (at_range; refine wpList_setm_range rfl (.tmp 119) rfl S2.out rfl ?_; intro w5 cnt hR hb5 hs5)
      go_frame
      have hR5 := Lib.hid hR
      clear hR hs5 d2
      obtain ⟨rI, hrI⟩ : ∃ rI, rI = wo.heap.size := ⟨_, rfl⟩
      rw [← hrI] at hR5 ⊢
      have hrI' := Lib.hid hrI
      clear hrI
      go_loopw [18] (fun _ wr => ∃ cnt, Hid (SetR wr m2 rI n2 k2 cnt) ∧ Below wo.heap.size wo wr) (fun _ wr => wr.rangeLeft m2 rI)
      case atStart => exact ⟨cnt, hR5, hb5⟩
      case round =>
        clear hR5 hb5
        obtain ⟨ct, hR, hbr⟩ := hrel
        go_wp2_with (at_next; refine wpList_setm_next rfl (.tmp 120) rfl hR.out rfl ?_ ?_)
        · go_wp2_with fail
          go_loopw [137] (fun i wr => ∃ k : Nat, k ≤ 2 ∧ i = .int .i64 k ∧ Below wo.heap.size wo wr) (fun i _ => 2 - (intOf i).toNat)
          case atStart => exact ⟨0, by omega, rfl, hbr⟩
          case round =>
            clear hbr hR
            rename World => wl
            obtain ⟨k, hk, rfl, hbr⟩ := hrel
            by_cases hk2 : k < 2
            · have t6 : (k : Int) < 2 := by omega
              have t7 : (k : Int) < 3 := by omega
              obtain ⟨bk, nk, kk, dk, sk, xk⟩ := hdn.out k hk2
              have dkw := (hbr.cell (p := ⟨gB, k, none⟩) hgBo).trans dk
              have skw := sk.of_block (hbr.block bk sk.lt)
              replace xk := Lib.hid xk
              clear dk sk
              go_wp2_with (at_range; refine wpList_setm_range rfl (.tmp 142) rfl skw rfl ?_; intro w6 cnt6 hR hb6 hs6)
              go_frame
              have hR6 := Lib.hid hR
              clear hR hs6 dkw skw
              obtain ⟨rJ, hrJ⟩ : ∃ rJ, rJ = wl.heap.size := ⟨_, rfl⟩
              rw [← hrJ] at hR6 ⊢
              have hrJ' := Lib.hid hrJ
              have hsz := hbr.size
              clear hrJ
              go_loopw [20] (fun _ wr => ∃ cnt, Hid (SetR wr bk rJ nk kk cnt) ∧ Below wl.heap.size wl wr) (fun _ wr => wr.rangeLeft bk rJ)
              case atStart => exact ⟨cnt6, hR6, hb6⟩
              case round =>
                clear hR6 hb6
                obtain ⟨ct6, hR, hb7⟩ := hrel
                have hb07 := hbr.trans (hb7.mono hbr.size)
                go_wp2_with (at_next; refine wpList_setm_next rfl (.tmp 143) rfl hR.out rfl ?_ ?_)
                · go_wp2_with fail
                  go_roundw
                  case rel => exact ⟨k + 1, by omega, by go_num, hb07⟩
                  case measure => simp [intOf]; omega
                · intro x cx w8 cnt8 hx hwx hR8 hlt8 hg8 hs8 hen
                  have hb8 : Below wl.heap.size wl w8 := hb7.grown hg8 hb7.size (fun j e => by cases e; exact Nat.le_of_eq hrJ'.out.symm)
                  have hb08 := hbr.trans (hb8.mono hbr.size)
                  have L2 := (S2.out.of_block (hb08.block m2 S2.out.lt)).look x hwx
                  rw [decide_eq_true (xk.out x hx)] at L2
                  have d2 := (hb08.cell (p := ⟨gB, 2, none⟩) hgBo).trans D2.out
                  have hlf : Hid (w8.rangeLeft bk rJ < wr.rangeLeft bk rJ) := Lib.hid (by rw [hR8.left, hR.out.left]; exact hlt8)
                  replace hR8 := Lib.hid hR8
                  clear hg8 hs8 hR hb7 hb07 hb08
                  go_wp2_with fail
                  go_roundw
                  case rel => exact ⟨cnt8, hR8, hb8⟩
                  case measure => exact hlf.out
            · obtain rfl : k = 2 := by omega
              have hb10 := Lib.hid (bo.trans (hbr.mono bo.size))
              clear hbr
              go_wp2_with fail
              go_ret
              exact ⟨rfl, hb10.out⟩
        · intro x cx w8 cnt8 hx hwx hR8 hlt8 hg8 hs8 hen
          have hb8 : Below wo.heap.size wo w8 := hbr.grown hg8 hbr.size (fun j e => by cases e; exact Nat.le_of_eq hrI'.out.symm)
          have L0 := (S0.out.of_block (hb8.block m0 S0.out.lt)).look x hwx
          have L1 := (S1.out.of_block (hb8.block m1 S1.out.lt)).look x hwx
          have d0 := (hb8.cell (p := ⟨gB, 0, none⟩) hgBo).trans D0.out
          have d1 := (hb8.cell (p := ⟨gB, 1, none⟩) hgBo).trans D1.out
          have hlf : Hid (w8.rangeLeft m2 rI < wr.rangeLeft m2 rI) := Lib.hid (by rw [hR8.left, hR.out.left]; exact hlt8)
          have hor := hup.out x hx
          replace hR8 := Lib.hid hR8
          clear hg8 hs8 hR hbr hx
          by_cases hx0 : x ∈ k0
          · rw [decide_eq_true hx0] at L0
            clear hor hx0 L1
            go_wp2_with fail
            exact ⟨⟨_, _, _, _, _, _, _, _, _, _, _, _, _, _, _, _, _, _, ⟨cnt8, hR8, hb8⟩, rfl⟩, hlf.out⟩
          · rw [decide_eq_false hx0] at L0
            rw [decide_eq_true (hor.resolve_left hx0)] at L1
            clear hor hx0
            go_wp2_with fail
            exact ⟨⟨_, _, _, _, _, _, _, _, _, _, _, _, _, _, _, _, _, _, ⟨cnt8, hR8, hb8⟩, rfl⟩, hlf.out⟩
end Go.Proofs.YtnoiepmapmcjdaaDoor
