/- Joined: PairMap, SweepPutsP, SweepKeepsP, SweepUse, SweepKeepsH, SweepKeepsLaw. -/
import Derived.Test.YtcaboknbdamlhaaGreatDoorSSY
import Derived.WideKeyPair
set_option linter.unusedVariables false
set_option linter.unusedSimpArgs false
namespace Go.Proofs.YtcaboknbdamlhaaGreatDoor
open Go.RowKit Go.Maps Go.WideMaps
theorem pair_arr : ArrKey Tryz.prog 69 3 2 := ⟨by kernel_rfl, by kernel_rfl, by kernel_rfl, by kernel_rfl⟩
theorem mapp_law : Keyed Tryz.prog 69 := Keyed.of_law pair_arr.law
theorem mapp_zero (w : World) : (zeroValue 2).run Tryz.prog w = .ok (.int .i64 0) w := by kernel_rfl
def pv (x : Int × Int) : Value := .agg #[.int .i64 x.1, .int .i64 x.2]
def pkL (x : Int × Int) : Lit := .string (keyBytes [.int .i64 x.1, .int .i64 x.2])
theorem pv_inj {x y : Int × Int} (h : pv x = pv y) : x = y := by
  have h1 : (#[Value.int .i64 x.1, .int .i64 x.2] : Array Value) = #[.int .i64 y.1, .int .i64 y.2] := Value.agg.inj h
  have h2 : [Value.int .i64 x.1, .int .i64 x.2] = [.int .i64 y.1, .int .i64 y.2] := congrArg Array.toList h1
  have h3 := List.cons.inj h2
  have h4 := List.cons.inj h3.2
  exact Prod.ext (Value.int.inj h3.1).2 (Value.int.inj h4.1).2
def wfP (x : Int × Int) : Prop := (Lit.int .i64 x.1).wf = true ∧ (Lit.int .i64 x.2).wf = true
theorem types_pos : ∃ m, (Tryz.prog).types.size = m + 1 := ⟨(Tryz.prog).types.size - 1, by kernel_rfl⟩
theorem key_mk {x : Int × Int} (h : wfP x) : keyOf Tryz.prog 69 (pv x) = some (pkL x) := keyOf_pair pair_arr Tryz.underlying3 types_pos h.1 h.2
theorem pk_inj {x y : Int × Int} (hx : wfP x) (hy : wfP y) (h : pkL x = pkL y) : x = y := by
  have h1 := key_mk hx
  have h2 := key_mk hy
  rw [h] at h1
  exact pv_inj (mapp_law.inj h1 h2)
set_option maxRecDepth 100000 in
theorem pair_inv {v : Value} {l : Lit} (h : keyOf Tryz.prog 69 v = some l) : ∃ x : Int × Int, v = pv x ∧ wfP x ∧ l = pkL x := by
  have hh := h
  have A := pair_arr
  unfold keyOf at h
  simp only [A.hu] at h
  split at h
  · next hf =>
    rw [Bool.and_eq_true] at hf
    obtain ⟨m, hm⟩ := types_pos
    cases v with
    | agg cs =>
      have hsz : cs.size = 2 := by
        have := hf.2
        simp only [Value.formed, A.hu, A.size] at this
        simpa using this
      obtain ⟨cl⟩ := cs
      match cl, hsz with
      | [c0, c1], _ =>
        rw [hm] at h
        unfold Program.keyLits at h
        simp only [A.hu, Value.cells] at h
        rw [if_pos (by rw [A.size]; rfl), show List.range 2 = [0, 1] from rfl, List.mapM_cons, List.mapM_cons, List.mapM_nil] at h
        simp only [bind, Option.bind_eq_some_iff, pure, Option.some.injEq, A.one, Option.map_eq_some_iff] at h
        obtain ⟨ls, ⟨zs, ⟨y0, h0, ys, ⟨y1, h1, _, rfl, rfl⟩, rfl⟩, rfl⟩, rfl⟩ := h
        have key : ∀ {c : Value} {y : List Lit}, Program.keyLits Tryz.prog (m + 1) 3 [c] = some y → ∃ a, c = .int .i64 a ∧ (Lit.int .i64 a).wf = true ∧ y = [.int .i64 a] := by
          intro c y hc
          unfold Program.keyLits at hc
          rw [Tryz.underlying3] at hc
          cases c <;> simp at hc
          obtain ⟨⟨e1, e2⟩, e3⟩ := hc
          subst e1
          exact ⟨_, rfl, e2, e3.symm⟩
        obtain ⟨a, rfl, wa, rfl⟩ := key h0
        obtain ⟨b, rfl, wb, rfl⟩ := key h1
        exact ⟨(a, b), rfl, ⟨wa, wb⟩, rfl⟩
    | _ => exact absurd hf.2 (by simp [Value.formed, A.hu])
  · cases h
/-- Block b is a map that has g at each of the pairs ps, each listed once. -/
def PM (w : World) (b n : Nat) (ps : List (Int × Int)) (g : Int × Int → Int) : Prop :=
  ∃ D : DataW Unit, w.ownsMap Tryz.prog 69 (plainElem Tryz.prog 2) b n D ∧ (∀ x ∈ ps, ∀ z, D.atKey (pkL x) z = .lit (.int .i64 (g x))) ∧ (∀ x, wfP x → Maps.has D (pkL x) = decide (x ∈ ps)) ∧ ps.Nodup ∧ Maps.size D = ps.length ∧ ∀ x ∈ ps, wfP x
theorem PM.new (w : World) (g : Int × Int → Int) : PM (w.alloc (.map #[] 0)) w.heap.size 0 [] g := ⟨.map [], World.ownsMap_made _ _ _ _, fun x hx => (by cases hx), fun x _ => rfl, by simp, rfl, fun x hx => (by cases hx)⟩
theorem PM.kept {w w' : World} {b n : Nat} {ps : List (Int × Int)} {g : Int × Int → Int} (h : PM w b n ps g) (hb : Below w.heap.size w w') : PM w' b n ps g := by
  obtain ⟨D, h1, h2⟩ := h
  exact ⟨D, h1.kept (row := none) ⟨hb.os, hb.tape, hb.output, hb.size, fun k hk _ => hb.block k hk⟩ (by simp), h2⟩
theorem PM.lt {w : World} {b n : Nat} {ps : List (Int × Int)} {g : Int × Int → Int} (h : PM w b n ps g) : b < w.heap.size := by
  obtain ⟨D, h1, _⟩ := h
  exact h1.lt
theorem PM.of_block {w w' : World} {b n : Nat} {ps : List (Int × Int)} {g : Int × Int → Int} (h : PM w b n ps g) (hb : w'.heap[b]? = w.heap[b]?) : PM w' b n ps g := by
  obtain ⟨D, ⟨es, clock, h1, h2⟩, h3⟩ := h
  exact ⟨D, ⟨es, clock, hb.trans h1, h2⟩, h3⟩
def addP (ps : List (Int × Int)) (x : Int × Int) : List (Int × Int) := if x ∈ ps then ps else ps ++ [x]
def setG (g : Int × Int → Int) (x : Int × Int) (v : Int) : Int × Int → Int := fun y => if y = x then v else g y
theorem mem_addP {ps : List (Int × Int)} {x y : Int × Int} : y ∈ addP ps x ↔ y ∈ ps ∨ y = x := by
  unfold addP
  split
  · rename_i h
    exact ⟨.inl, fun e => e.elim id fun e => e ▸ h⟩
  · simp
theorem PM.put {w' : World} {b n : Nat} {ps : List (Int × Int)} {g : Int × Int → Int} {x : Int × Int} {v : Int} {D : DataW Unit} (ht : Tidy D) (hx : wfP x) (h2 : ∀ x ∈ ps, ∀ z, D.atKey (pkL x) z = .lit (.int .i64 (g x))) (h3 : ∀ x, wfP x → Maps.has D (pkL x) = decide (x ∈ ps)) (h4 : ps.Nodup) (h5 : Maps.size D = ps.length) (h6 : ∀ x ∈ ps, wfP x)
    (h1 : w'.ownsMap Tryz.prog 69 (plainElem Tryz.prog 2) b (n + 1) (D.put (pkL x) (.lit (.int .i64 v)))) : PM w' b (n + 1) (addP ps x) (setG g x v) := by
  have hkey := mapp_law.key (key_mk hx)
  have ne : ∀ {y : Int × Int}, wfP y → y ≠ x → pkL y ≠ pkL x := fun hy h e => h (pk_inj hy hx e)
  have hw : ∀ y ∈ addP ps x, wfP y := fun y hy => (mem_addP.1 hy).elim (h6 y) fun e => e ▸ hx
  refine ⟨_, h1, fun y hy z => ?_, fun y hy => ?_, ?_, ?_, hw⟩
  · unfold setG
    by_cases e : y = x
    · subst e
      rw [atKey_put_same ht.isMap hkey, if_pos rfl]
    · rw [atKey_put_other (ne (hw y hy) e), h2 y ((mem_addP.1 hy).resolve_right e), if_neg e]
  · by_cases e : y = x
    · subst e
      rw [has_put_same ht.isMap hkey, decide_eq_true (mem_addP.2 (.inr rfl))]
    · rw [has_put_other (ne hy e), h3 y hy, decide_eq_decide, mem_addP]
      exact ⟨.inl, fun h => h.elim id fun h => absurd h e⟩
  · unfold addP
    split
    · exact h4
    · rename_i hx
      rw [List.nodup_append]
      exact ⟨h4, by simp, fun a ha b hb e => by rw [List.mem_singleton] at hb; subst hb e; exact hx ha⟩
  · rw [size_put ht, h3 x hx, h5]
    unfold addP
    by_cases e : x ∈ ps
    · rw [if_pos e, if_pos (decide_eq_true e)]
    · rw [if_neg e, if_neg (by simp [e])]
      simp
/-- 'for x, n := range m' under way. -/
def PR (w : World) (b r n : Nat) (ps : List (Int × Int)) (g : Int × Int → Int) (cnt : Nat) : Prop :=
  ∃ (D : DataW Unit) (left : Lit → Bool), w.ranges Tryz.prog 69 (plainElem Tryz.prog 2) b r n D left cnt ∧ (∀ x, wfP x → left (pkL x) = true → x ∈ ps) ∧ (∀ x ∈ ps, ∀ z, D.atKey (pkL x) z = .lit (.int .i64 (g x)))
theorem PR.left {w : World} {b r n : Nat} {ps : List (Int × Int)} {g : Int × Int → Int} {cnt : Nat} (h : PR w b r n ps g cnt) : w.rangeLeft b r = cnt := by
  obtain ⟨D, left, h1, _⟩ := h
  exact h1.left_eq
theorem PR.kept {w w' : World} {b r n : Nat} {ps : List (Int × Int)} {g : Int × Int → Int} {cnt : Nat} (h : PR w b r n ps g cnt) (hb : Below w.heap.size w w') : PR w' b r n ps g cnt := by
  obtain ⟨D, left, h1, h2⟩ := h
  exact ⟨D, left, h1.kept (row := none) ⟨hb.os, hb.tape, hb.output, hb.size, fun k hk _ => hb.block k hk⟩ (by simp) (by simp), h2⟩
section
variable {w : World} {ops : Array Oper} {rest : List Oper} {o : Oper} {a : Act} {Q : Exit → Act → World → Prop}
theorem wpList_pm_new (hgd : o.guard = none) (ho : o.op = .makeMap 66 none) (g : Int × Int → Int)
    (hrun : (execOp a.eval o).run Tryz.prog w = .ok (.value (.map (some w.heap.size))) (w.alloc (.map #[] 0)))
    (h : ∀ w', w'.heap.size = w.heap.size + 1 → Below w.heap.size w w' → PM w' w.heap.size 0 [] g → wpList Tryz.prog ops Q rest (a.put o.dst (.map (some w.heap.size))) w') : wpList Tryz.prog ops Q (o :: rest) a w := by
  refine wpList_plain hgd fun K hK => ?_
  unfold Oper.wp
  rw [hrun]
  exact hK _ _ (h _ (by simp) (below_alloc w _) (PM.new w g))
theorem wpList_pm_put (hgd : o.guard = none) (m x v : Operand) (ho : o.op = .mapUpdate 66 m x v) {b n : Nat} {ps : List (Int × Int)} {g : Int × Int → Int} (hS : PM w b n ps g) (hm : a.eval m = .map (some b)) (hn : n < maxLen)
    (y : Int × Int) (c : Int) (hx : a.eval x = pv y) (hv : a.eval v = .int .i64 c) (hw : wfP y) (hc : (Lit.int .i64 c).wf = true)
    (h : ∀ w', PM w' b (n + 1) (addP ps y) (setG g y c) → w.grownBy w' (some b) → wpList Tryz.prog ops Q rest (a.put o.dst undef) w') : wpList Tryz.prog ops Q (o :: rest) a w := by
  obtain ⟨D, h1, h2, h3, h4, h5, h6⟩ := hS
  exact wpList_mapUpdate_own _ hgd m x v _ ho _ _ mapp_law Tryz.underlying66 _ b n D hm h1 hn _ _ (pkL y) hx hv (key_mk hw) (.lit (.int .i64 c)) [] (plainElem_int Tryz.underlying2 hc)
    fun w' h7 h8 => h w' (PM.put (h1.tidy mapp_law) hw h2 h3 h4 h5 h6 h7) h8
theorem wp_pm_len {K : Act → World → Prop} (m : Operand) (ho : o.op = Op.call { callee := Callee.builtin Builtin.len, args := #[m], argTypes := #[66] }) {b n : Nat} {ps : List (Int × Int)} {g : Int × Int → Int} (hS : PM w b n ps g) (hm : a.eval m = .map (some b))
    (h : K (a.put o.dst (.int .i64 (ps.length : Nat))) w) : Oper.wp Tryz.prog o a w K Q := by
  obtain ⟨D, h1, h2, h3, h4, h5, _⟩ := hS
  unfold Oper.wp
  simp [execOp, ho, resolve, invoke, builtin, hm, h1.len Tryz.underlying66 o.type, Result.andThen]
  rw [h5]
  exact h
theorem wpList_pm_range (hg : o.guard = none) (m : Operand) (hop : o.op = Op.range 66 m) {b n : Nat} {ps : List (Int × Int)} {g : Int × Int → Int} (hS : PM w b n ps g) (hm : a.eval m = .map (some b))
    (hK : ∀ w' cnt, PR w' b w.heap.size n ps g cnt → Below w.heap.size w w' → w'.heap.size = w.heap.size + 1 → wpList Tryz.prog ops Q rest (a.put o.dst (.pointer (some ⟨w.heap.size, 0, none⟩))) w') :
    wpList Tryz.prog ops Q (o :: rest) a w := by
  obtain ⟨D, h1, h2, h3, h4, h5, h6⟩ := hS
  refine wpList_range_own _ hg m _ hop 69 2 mapp_law Tryz.underlying66 _ b n D hm h1 ?_
  intro w' hr hg' hs
  refine hK w' _ ⟨D, _, hr, fun x hx hl => ?_, h2⟩ ⟨hg'.os, hg'.tape, hg'.output, hg'.size, fun k hk => hg'.block k hk (by simp)⟩ hs
  rw [h3 x hx] at hl
  exact of_decide_eq_true hl
theorem wpList_pm_next (hg : o.guard = none) (it : Operand) (hop : o.op = Op.next it false) {b r n cnt : Nat} {ps : List (Int × Int)} {g : Int × Int → Int} (h : PR w b r n ps g cnt) (hit : a.eval it = .pointer (some ⟨r, 0, none⟩))
    (hDone : wpList Tryz.prog ops Q rest (a.put o.dst (.tuple #[.bool false])) w)
    (hMore : ∀ (p f : Int) (w' : World) (cnt' : Nat), (p, f) ∈ ps → wfP (p, f) → PR w' b r n ps g cnt' → cnt' < cnt → w.grownBy w' (some r) → w'.heap.size = w.heap.size → (Instr.entry (.pointer (some ⟨r, 0, none⟩))).run Tryz.prog w' = .ok (.tuple #[.agg #[.int .i64 p, .int .i64 f], .int .i64 (g (p, f))]) w' → wpList Tryz.prog ops Q rest (a.put o.dst (.tuple #[.bool true, .agg #[.int .i64 p, .int .i64 f], .int .i64 (g (p, f))])) w') :
    wpList Tryz.prog ops Q (o :: rest) a w := by
  obtain ⟨D, left, hr, hl, hat0⟩ := h
  refine wpList_next_ranges w hg it hop 69 mapp_law (plainElem Tryz.prog 2) pv (Value.int .i64)
    (fun key kl hkey => by obtain ⟨x, rfl, _⟩ := pair_inv hkey; exact ⟨x, rfl⟩)
    (fun v y hv => by obtain ⟨c, rfl, _⟩ := plainElem_int_inv Tryz.underlying2 hv; exact ⟨c, rfl⟩) b r n D left cnt hit hr (fun _ _ => hDone) fun x c kl y w' cnt' hkey hlk hv hat hrg hlt hgr hsz hen => ?_
  obtain ⟨x', ex, hwx, rfl⟩ := pair_inv hkey
  have hxx : x = x' := pv_inj ex
  subst hxx
  have hmem := hl x hwx hlk
  obtain ⟨c', ec, rfl, hwc⟩ := plainElem_int_inv Tryz.underlying2 hv
  cases ec
  have hc : g x = c := by
    have h1 := hat (.lit (.int .i64 0))
    rw [hat0 x hmem] at h1
    have h1 : (DataW.lit (Lit.int IntKind.i64 (g x)) : DataW Unit) = .lit (.int .i64 c) := h1
    exact (Lit.int.inj (DataW.lit.inj h1)).2
  subst hc
  exact hMore x.1 x.2 w' cnt' hmem hwx ⟨D, _, hrg, fun z hz hlz => hl z hz (by
    have := hlz
    simp only [Bool.and_eq_true] at this
    exact this.1), hat0⟩ hlt hgr hsz hen
end
end Go.Proofs.YtcaboknbdamlhaaGreatDoor
namespace Go.Proofs.YtcaboknbdamlhaaGreatDoor
open Go.RowKit Go.Shelf
section
variable {S : HS} {T : SS} {r : Nat}
theorem obj_apart (I : Inv0 S) (C : Clo S) {p q : Int} (hp : mIs S p = true) (hq : mIs S q = true) (h : p < q) : p + 2 ≤ q := by
  obtain ⟨o, ho, rfl⟩ := (mis_mem I p).1 hp
  obtain ⟨o2, ho2, rfl⟩ := (mis_mem I q).1 hq
  have s1 := (I.ob o ho).2.2.2.2
  have s2 := (I.ob o2 ho2).2.2.2.2
  rw [C.obj o ho] at s1
  rw [C.obj o2 ho2] at s2
  have := s1.apart s2 h
  have hk : wordsOf (classOf 2) = 2 := by decide
  dsimp only at this
  omega
theorem fld_store (I : Inv0 S) (C : Clo S) {a p b : Int} (ha : mIs S a = true) (hp : mIs S p = true) {k f : Nat} (hk : k < 2) (hf : f < 2) : fldA (sStore S a k b) p f = if p = a ∧ f = k then b else fldA S p f := by
  have ha1 := mis_pos I ha
  have hp1 := mis_pos I hp
  have hth := C.there I ha (f := (k : Int)) (by omega) (by omega)
  have hw : (sStore S a k b).words = S.words.set (a + (k : Int)).toNat b := by
    unfold sStore
    rw [if_pos hth]
  unfold fldA
  rw [hw]
  by_cases e : p = a ∧ f = k
  · obtain ⟨rfl, rfl⟩ := e
    rw [if_pos ⟨rfl, rfl⟩]
    obtain ⟨o, ho, rfl⟩ := (mis_mem I p).1 hp
    have hl := (I.word_in ho (f := (f : Int)) (by omega) (by rw [C.obj o ho]; show (f : Int) < 2; omega)).2.1
    have e1 : (o.1 + (f : Int)).toNat = o.1.toNat + f := by omega
    rw [e1] at hl ⊢
    simp only [List.getD, List.getElem?_set_self hl, Option.getD_some]
  · rw [if_neg e]
    have hne : (a + (k : Int)).toNat ≠ p.toNat + f := fun h => by
      rcases Int.lt_trichotomy a p with h1 | h1 | h1
      · have := obj_apart I C ha hp h1
        omega
      · exact e ⟨h1.symm, by omega⟩
      · have := obj_apart I C hp ha h1
        omega
    simp only [List.getD, List.getElem?_set_ne hne]
theorem put_zero (I : Inv0 S) (hS : T.S = S) (k b : Int) (bar : Bool) : (qPut T 0 k b bar).2 = 11 := by
  have h0 : sThere T.S 0 k = 11 := by
    unfold sThere
    rw [hS]
    have : (sSize S 0).2.2 = false := by
      cases e : (sSize S 0).2.2 with
      | false => rfl
      | true => have := mis_pos I (p := 0) e; omega
    rw [if_pos (.inl this)]
  have hl : (sLoad T.S 0 k).2 = 11 := by
    unfold sLoad
    rw [h0, if_neg (by decide)]
  unfold qPut
  rw [hl, if_pos (by decide)]
theorem put_good (I : Inv0 S) (C : Clo S) (A : All1 S T r) {a b : Int} (ha : mIs S a = true) (hb : Good S b) {k : Nat} (hk : k < 2) (bar : Bool) : (qPut T a k b bar).2 = 0 ∧ (qPut T a k b bar).1.S = sStore S a k b := by
  have hS := A.s
  have hl := C.load I ha hk
  have hg := C.good I ha hk
  have hz := C.size I ha
  have hbit : mBit 3 k = true := by
    rcases (by omega : k = 0 ∨ k = 1) with rfl | rfl <;> decide
  have hbo : ¬ (b ≠ 0 ∧ (sSize S b).2.2 = false) := fun h => hb.elim h.1 fun h2 => by
    have : (sSize S b).2.2 = true := h2
    rw [this] at h
    cases h.2
  have hkn : (mKnown S T.K (fldA S a k)).2 = 0 := by
    cases A with
    | mark ph hS M al lf => rw [known_good M hg]
    | sweep ph hS on lf => unfold mKnown; rw [if_pos (.inl on)]
    | off ph hS on lf => unfold mKnown; rw [if_pos (.inl on)]
  unfold qPut
  rw [hS, hl, hz, if_neg (by simp), if_neg hbo]
  dsimp only
  rw [Int.toNat_natCast, if_neg (by rw [hbit]; simp)]
  by_cases hbar : bar = false
  · rw [if_pos hbar]
    exact ⟨rfl, rfl⟩
  · rw [if_neg hbar, if_neg (by rw [hkn]; simp)]
    exact ⟨rfl, rfl⟩
end
/-- The fields of the first objects, and some of one more. -/
def prs (l : List Int) (i f : Nat) : List (Int × Int) := ((l.take i).flatMap fun p => [(p, 0), (p, 1)]) ++ ((List.range f).map fun (j : Nat) => ((l.getD i 0, (j : Int))))
theorem prs_mem (l : List Int) (i : Nat) (hi : i ≤ l.length) (x : Int × Int) : x ∈ prs l i 0 ↔ x.1 ∈ l.take i ∧ (x.2 = 0 ∨ x.2 = 1) := by
  unfold prs
  simp only [List.range_zero, List.map_nil, List.append_nil, List.mem_flatMap, List.mem_cons, List.not_mem_nil, or_false]
  constructor
  · rintro ⟨p, hp, rfl | rfl⟩
    · exact ⟨hp, .inl rfl⟩
    · exact ⟨hp, .inr rfl⟩
  · rintro ⟨h1, h2⟩
    exact ⟨x.1, h1, h2.imp (fun e => Prod.ext rfl e) fun e => Prod.ext rfl e⟩
theorem prs_two (l : List Int) {i : Nat} (hi : i < l.length) : prs l i 2 = prs l (i + 1) 0 := by
  have e : l.take (i + 1) = l.take i ++ [l[i]] := take_snoc l hi
  unfold prs
  rw [e, List.flatMap_append]
  simp [List.getD, List.getElem?_eq_getElem hi, List.range_succ]
theorem prs_next (l : List Int) (i f : Nat) : prs l i (f + 1) = prs l i f ++ [(l.getD i 0, (f : Int))] := by
  unfold prs
  rw [List.range_succ, List.map_append, List.append_assoc]
  rfl
theorem prs_new (l : List Int) (hn : l.Nodup) {i f : Nat} (hi : i < l.length) (hf : f < 2) : (l.getD i 0, (f : Int)) ∉ prs l i f := by
  have hgi : l.getD i 0 = l[i] := by simp [List.getD, List.getElem?_eq_getElem hi]
  unfold prs
  rw [List.mem_append]
  rintro (h | h)
  · obtain ⟨p, hp, hx⟩ := List.mem_flatMap.1 h
    have hpe : p = l.getD i 0 := by
      simp only [List.mem_cons, List.not_mem_nil, or_false, Prod.mk.injEq] at hx
      rcases hx with h | h
      · exact h.1.symm
      · exact h.1.symm
    rw [hpe, hgi] at hp
    obtain ⟨j, hj, e⟩ := List.getElem_of_mem hp
    rw [List.length_take] at hj
    rw [List.getElem_take] at e
    have := (List.nodup_iff_pairwise_ne.1 hn)
    have hne := List.pairwise_iff_getElem.1 this j i (by omega) hi (by omega)
    exact hne e
  · obtain ⟨j, hj, e⟩ := List.mem_map.1 h
    have := (Prod.mk.inj e).2
    have hj2 := List.mem_range.1 hj
    omega
theorem prs_len (l : List Int) : ∀ i, i ≤ l.length → (prs l i 0).length = 2 * i
  | 0, _ => rfl
  | i + 1, hi => by
    rw [← prs_two l hi, prs_next, prs_next]
    have := prs_len l i (by omega)
    simp only [List.length_append, List.length_singleton]
    omega
section
variable {w0 : W0} {w w' w1 w2 : World} {q s h m : Nat} {T T' : SS} {D D' : DS}
/-- A kept block of the call's own is written, and kept no more. -/
theorem LX.wrote {bm : Nat} (H0 : LX w0 w q s h m T' D') (hb : Below w.heap.size w w1) (H : LX (w0.guard w w1) w2 q s h m T D) (hbm : w.heap.size ≤ bm ∧ bm < w1.heap.size) (hT : 0 < w.heap.size) (hg : w2.grownBy w' (some bm)) (hs : w2.heap.size ≤ w'.heap.size) : LX w0 w' q s h m T D := by
  obtain ⟨X, V, L, fe, hX, hq, hqt, xv, B⟩ := H
  have fe0 := H0.fen
  have hbQ : (w0.guard w w1).Q bm := .inr hbm
  have hXb : ∀ k, X k → k ≠ bm := fun k hk e => (hX k hk).2 (e ▸ hbQ)
  have hko : ∀ k, k < w2.heap.size → k ≠ bm → w'.heap[k]? = w2.heap[k]? := fun k hk hne => hg.block k hk fun e => hne (by injection e)
  have hb0 : w0.base.heap.size ≤ bm := Nat.le_trans fe0.b.size hbm.1
  have bw : Below w0.base.heap.size w0.base w' := fe.b.grown hg fe.b.size fun k hk => by cases hk; exact hb0
  have hqb : ¬ w0.Q bm := fun hqq => by have := (fe0.kept bm hqq).1; omega
  have fu : Fen w0 w2 := fe0.unguard hb fe
  refine ⟨X, V, L.wrote hs (fun k hk h => hko k hk fun e => ?_) (fun k hk hf => ⟨hf.1, fun h => hf.2 (h.elim (fun h => .inl (.inl h)) .inr)⟩) ⟨bw, fun k hk => ⟨?_, rfl⟩⟩, ⟨bw, fun k hk => ?_⟩, fun k hk => ⟨(hX k hk).1, fun h => (hX k hk).2 (.inl h)⟩, hq, hqt, xv.same (fun b hb' hlt => hko b hlt (hXb b hb'.1)) fun b hb' _ => hb', (hko q B.lt (hXb q hq)).trans B⟩
  · rcases h with h | h
    · exact h.2 (.inl (e ▸ hbQ))
    · omega
  · rcases hk with h | h
    · have := (fu.kept k h).1; omega
    · have := (L.fen.kept k (.inr h)).1; omega
  · have hk' := fu.kept k hk
    exact ⟨by omega, (hko k hk'.1 fun e => hqb (e ▸ hk)).trans hk'.2⟩
theorem lx_put (H : LX w0 w q s h m T D) (p f to : Int) (bar : Bool) (hp : -9223372036854775808 ≤ p ∧ p ≤ 9223372036854775807) (hto : -9223372036854775808 ≤ to ∧ to ≤ 9223372036854775807) :
    Calls Tryz.prog 23 #[.pointer (some ⟨s, 0, none⟩), .int .i64 p, .int .i64 f, .int .i64 to, .bool bar] w fun e w' => e = .returned (.int .i64 (qPut T p f to bar).2) ∧ LX w0 w' q s h m (qPut T p f to bar).1 D :=
  H.call (P := fun e _ => e = .returned (.int .i64 (qPut T p f to bar).2)) fun v0 L => ls_put L p f to bar hp hto
end
end Go.Proofs.YtcaboknbdamlhaaGreatDoor
namespace Go.Proofs.YtcaboknbdamlhaaGreatDoor
open Go.RowKit Go.Shelf
/-- Not looked through yet. -/
def Uns (K : MK) (p : Int) : Prop := K.seen p = false ∨ p ∈ K.greys
/-- Each field that was there when the cycle began: nothing, or seen, or still there, in what is not looked through. -/
def Snp (S0 S : HS) (K : MK) : Prop := ∀ p, mIs S0 p = true → ∀ f : Nat, f < 2 → fldA S0 p f = 0 ∨ K.seen (fldA S0 p f) = true ∨ (Uns K p ∧ fldA S p f = fldA S0 p f)
structure KMark (S0 : HS) (l : List Int) (T : SS) (ks : List Int) : Prop where
  ph : T.ph = 1
  lf : T.left = []
  cy : T.cyc = 0
  clo : Clo T.S
  mi : MI T.S T.K
  ke : ∀ x ∈ ks, mIs T.S x = true
  kc : ∀ x ∈ ks, ∀ f : Nat, f < 2 → fldA T.S x f = 0 ∨ fldA T.S x f ∈ ks
  sk : ∀ x, T.K.seen x = true → x ∈ ks
  old : ∀ x, mIs S0 x = true → mIs T.S x = true
  snp : Snp S0 T.S T.K
  rts : ∀ x ∈ l, x ≠ 0 → T.K.seen x = true
  new : ∀ x ∈ ks, mIs S0 x = false → T.K.seen x = true
  ko : ∀ x ∈ ks, mIs S0 x = true → RcS S0 l x
structure KSweep (S0 : HS) (T : SS) (ks : List Int) : Prop where
  ph : T.ph = 2
  on : T.K.on = false
  cy : T.cyc = 0
  nd : T.left.Nodup
  lo : ∀ x ∈ T.left, mIs T.S x = true
  o2 : ∀ o ∈ T.S.objs, o.2 = (2, 3)
  ke : ∀ x ∈ ks, mIs T.S x = true
  kl : ∀ x ∈ ks, x ∉ T.left
  od : ∀ x, mIs S0 x = true → x ∈ ks ∨ x ∈ T.left ∨ mIs T.S x = false
structure KOff (S0 : HS) (T : SS) (ks : List Int) : Prop where
  ph : T.ph = 0
  cy : T.cyc = 1
  ke : ∀ x ∈ ks, mIs T.S x = true
  od : ∀ x, mIs S0 x = true → x ∈ ks ∨ mIs T.S x = false
inductive KSt (S0 : HS) (l : List Int) (T : SS) (ks : List Int) : Prop
  | mark (h : KMark S0 l T ks)
  | sweep (h : KSweep S0 T ks)
  | off (h : KOff S0 T ks)
section
variable {S0 S S' : HS} {K : MK} {l ks : List Int} {T : SS} {D : DS}
theorem KSt.ke (H : KSt S0 l T ks) : ∀ x ∈ ks, mIs T.S x = true := by
  cases H with
  | mark h => exact h.ke
  | sweep h => exact h.ke
  | off h => exact h.ke
theorem uns_shade (I : Inv0 S) (M : MI S K) {v : Int} (hg : Good S v) {p : Int} (h : Uns K p) : Uns (mShade S K v) p := by
  obtain ⟨_, _, _, _, _, s4, s5⟩ := mi_shade I M hg
  rcases h with h | h
  · cases hs : (mShade S K v).seen p with
    | false => exact .inl hs
    | true => exact .inr ((s5 p hs).resolve_left (by rw [h]; simp))
  · exact .inr (s4 p h)
theorem KMark.all (H : KMark S0 l T ks) (I0 : Inv0 S0) (C0 : Clo S0) (hl : ∀ x ∈ l, Good S0 x) (hg : T.K.greys = []) {x : Int} (hx : x ∈ ks) : T.K.seen x = true := by
  have hr : ∀ x, RcS S0 l x → T.K.seen x = true := fun x h => by
    induction h with
    | root h h0 => exact H.rts _ h h0
    | fld h f hf h0 ih =>
      rcases H.snp _ (h.good I0 C0 hl) f hf with h1 | h1 | ⟨h1, _⟩
      · exact absurd h1 h0
      · exact h1
      · rcases h1 with h1 | h1
        · rw [ih] at h1; cases h1
        · rw [hg] at h1; cases h1
  cases h : mIs S0 x with
  | true => exact hr x (H.ko x hx h)
  | false => exact H.new x hx h
theorem km_step (I : Inv T.S) (H : KMark S0 l T ks) (I0 : Inv0 S0) (C0 : Clo S0) (hl : ∀ x ∈ l, Good S0 x) (junk : Int) :
    (qStep T junk).2 = 0 ∧ KSt S0 l (qStep T junk).1 ks ∧ (qStep T junk).1.S = T.S := by
  have e1 : qStep T junk = qMark T := by unfold qStep; rw [if_pos H.ph]
  rw [e1]
  rcases hg : T.K.greys with _ | ⟨p, gs⟩
  · have e := mi_end H.mi hg
    have hm : qMark T = ({ T with K := mOff T.K, ph := 2, left := keepP T.K.seen (sAll T.S) }, 0) := by
      unfold qMark
      rw [e, if_neg (by simp)]
    rw [hm]
    have hlm : ∀ x, x ∈ keepP T.K.seen (sAll T.S) ↔ mIs T.S x = true ∧ T.K.seen x = false := fun x => by
      unfold keepP
      rw [List.mem_filter, mis_all I.toInv0 x, Bool.not_eq_true']
    refine ⟨rfl, .sweep ⟨rfl, rfl, H.cy, ?_, fun x hx => ((hlm x).1 hx).1, H.clo.obj, H.ke, fun x hx h => ?_, fun x hx => ?_⟩, rfl⟩
    · exact List.Nodup.sublist List.filter_sublist (all_nodup I.toInv0)
    · have := H.all I0 C0 hl hg hx
      rw [((hlm x).1 h).2] at this
      cases this
    · have hx' := H.old x hx
      cases hs : T.K.seen x with
      | true => exact .inl (H.sk x hs)
      | false => exact .inr (.inl ((hlm x).2 ⟨hx', hs⟩))
  · obtain ⟨e, M', _⟩ := mi_step I.toInv0 H.clo H.mi hg
    have hm : qMark T = ({ T with K := nextK T.S T.K p gs }, 0) := by
      unfold qMark
      rw [e, if_pos (.inl rfl)]
    rw [hm]
    have hps : T.K.seen p = true := H.mi.sn p (by rw [hg]; simp)
    have hp : mIs T.S p = true := H.mi.obj p hps
    have hpk := H.sk p hps
    have M0 : MI T.S { T.K with greys := gs } := ⟨H.mi.on, H.mi.obj, fun x hx => H.mi.sn x (by rw [hg]; exact List.mem_cons_of_mem _ hx)⟩
    have g0 := H.clo.good I.toInv0 hp (f := 0) (by omega)
    have g1 := H.clo.good I.toInv0 hp (f := 1) (by omega)
    obtain ⟨M1, _, a1, a2, a3, a4, a5⟩ := mi_shade I.toInv0 M0 g0
    obtain ⟨M2, _, b1, b2, b3, b4, b5⟩ := mi_shade I.toInv0 M1 g1
    have up : ∀ x, T.K.seen x = true → (nextK T.S T.K p gs).seen x = true := fun x hx => b2 x (a2 x hx)
    refine ⟨rfl, .mark ⟨H.ph, H.lf, H.cy, H.clo, M', H.ke, H.kc, fun x hx => ?_, H.old, fun y hy f hf => ?_, fun x hx h0 => up x (H.rts x hx h0), fun x hx h0 => up x (H.new x hx h0), H.ko⟩, rfl⟩
    · have hx0 := mis_pos I.toInv0 (M2.obj x hx)
      rcases b3 x hx with h | h
      · rcases a3 x h with h | h
        · exact H.sk x h
        · exact h ▸ (H.kc p hpk 0 (by omega)).resolve_left (by omega)
      · exact h ▸ (H.kc p hpk 1 (by omega)).resolve_left (by omega)
    · rcases H.snp y hy f hf with h | h | ⟨h, hc⟩
      · exact .inl h
      · exact .inr (.inl (up _ h))
      · by_cases h0 : fldA S0 y f = 0
        · exact .inl h0
        by_cases e : y = p
        · subst e
          refine .inr (.inl ?_)
          rw [← hc] at h0 ⊢
          rcases (by omega : f = 0 ∨ f = 1) with rfl | rfl
          · exact b2 _ (a1 h0)
          · exact b1 h0
        · refine .inr (.inr ⟨?_, hc⟩)
          have hu : Uns { T.K with greys := gs } y := h.imp id fun h => by
            rw [hg] at h
            exact (List.mem_cons.1 h).resolve_left e
          exact uns_shade I.toInv0 M1 g1 (uns_shade I.toInv0 M0 g0 hu)
theorem kw_step (I : Inv T.S) (H : KSweep S0 T ks) (junk : Int) (hj : -9223372036854775808 ≤ junk ∧ junk ≤ 9223372036854775807) :
    (qStep T junk).2 = 0 ∧ KSt S0 l (qStep T junk).1 ks ∧ (qStep T junk).1.S.objs.length ≤ T.S.objs.length := by
  have e1 : qStep T junk = qSweep T junk := by unfold qStep; rw [if_neg (by rw [H.ph]; omega), if_pos H.ph]
  rw [e1]
  obtain ⟨ph, on, cy, nd, lo, o2, ke, kl, od⟩ := H
  obtain ⟨S, K, ph', left, cyc⟩ := T
  dsimp only at *
  rcases left with _ | ⟨x, xs⟩
  · refine ⟨rfl, .off ⟨rfl, ?_, ke, fun y hy => (od y hy).imp id fun h => h.resolve_left (by simp)⟩, Nat.le_refl _⟩
    show cyc + 1 = 1
    omega
  · rw [List.nodup_cons] at nd
    have hx := lo x (by simp)
    obtain ⟨o, ho, rfl⟩ := (mis_mem I.toInv0 x).1 hx
    have hf := free_ok I.toInv0 ho junk
    have I' := free_inv I o.1 hj
    have hgone : mIs (sFree S o.1 junk).1 o.1 = false := by
      cases h : mIs (sFree S o.1 junk).1 o.1 with
      | false => rfl
      | true =>
        obtain ⟨o2, h1, h2⟩ := (mis_mem I'.toInv0 o.1).1 h
        rw [hf.2.2, List.mem_filter] at h1
        simp [h2] at h1
    refine ⟨hf.1, .sweep ⟨ph, on, cy, nd.2, fun y hy => mis_free I hx (lo y (List.mem_cons_of_mem _ hy)) (fun e => nd.1 (e ▸ hy)) hj, fun o2' ho2 => ?_, fun y hy => mis_free I hx (ke y hy) (fun e => kl y hy (by rw [e]; simp)) hj, fun y hy h => kl y hy (List.mem_cons_of_mem _ h), fun y hy => ?_⟩, ?_⟩
    · have ho2 : o2' ∈ (sFree S o.1 junk).1.objs := ho2
      rw [hf.2.2, List.mem_filter] at ho2
      exact o2 o2' ho2.1
    · rcases od y hy with h | h | h
      · exact .inl h
      · rcases List.mem_cons.1 h with e | h
        · exact .inr (.inr (e ▸ hgone))
        · exact .inr (.inl h)
      · refine .inr (.inr ?_)
        show mIs (sFree S o.1 junk).1 y = false
        cases h2 : mIs (sFree S o.1 junk).1 y with
        | false => rfl
        | true =>
          obtain ⟨o3, h3, h4⟩ := (mis_mem I'.toInv0 y).1 h2
          rw [hf.2.2, List.mem_filter] at h3
          have := (mis_mem I.toInv0 y).2 ⟨o3, h3.1, h4⟩
          rw [h] at this
          cases this
    · show (sFree S o.1 junk).1.objs.length ≤ S.objs.length
      rw [hf.2.2]
      exact List.length_filter_le _ _
/-- A step, while the cycle goes on. -/
theorem ks_step (I : Inv T.S) (H : KSt S0 l T ks) (hp : T.ph ≠ 0) (I0 : Inv0 S0) (C0 : Clo S0) (hl : ∀ x ∈ l, Good S0 x) (junk : Int) (hj : -9223372036854775808 ≤ junk ∧ junk ≤ 9223372036854775807) :
    (qStep T junk).2 = 0 ∧ KSt S0 l (qStep T junk).1 ks ∧ (qStep T junk).1.S.objs.length ≤ T.S.objs.length := by
  cases H with
  | mark h =>
    obtain ⟨a, b, c⟩ := km_step I h I0 C0 hl junk
    exact ⟨a, b, by rw [c]; exact Nat.le_refl _⟩
  | sweep h => exact kw_step I h junk hj
  | off h => exact absurd h.ph hp
theorem fld_made (I : Inv S) (C : Clo S) {p : Int} (A : Alloced S S' 2 3 0 p) : (∀ x, mIs S x = true → ∀ f : Nat, f < 2 → fldA S' x f = fldA S x f) ∧ ∀ f : Nat, f < 2 → fldA S' p f = 0 := by
  have C' := alloc_clo I C A
  have hm : ∀ o, o ∈ S'.objs ↔ o = (p, 2, 3) ∨ o ∈ S.objs := fun o => by rw [A.objs, ins_mem]
  have hpo : mIs S' p = true := (mis_mem A.inv.toInv0 p).2 ⟨_, (hm _).2 (.inl rfl), rfl⟩
  have hp := mis_pos A.inv.toInv0 hpo
  have hk : (wordsOf (classOf 2)).toNat = 2 := by decide
  refine ⟨fun x hx f hf => ?_, fun f hf => ?_⟩
  · have hx' : mIs S' x = true := by
      obtain ⟨o, ho, e⟩ := (mis_mem I.toInv0 x).1 hx
      exact (mis_mem A.inv.toInv0 x).2 ⟨o, (hm o).2 (.inr ho), e⟩
    have hne : x ≠ p := fun e => by
      obtain ⟨o, ho, e2⟩ := (mis_mem I.toInv0 x).1 hx
      exact A.no o ho (e2.trans e)
    have hx1 := mis_pos A.inv.toInv0 hx'
    unfold fldA
    rw [A.words, fillW_get, hk, if_neg]
    rintro ⟨h1, h2, _⟩
    rcases Int.lt_trichotomy x p with h | h | h
    · have := obj_apart A.inv.toInv0 C' hx' hpo h
      omega
    · exact hne h
    · have := obj_apart A.inv.toInv0 C' hpo hx' h
      omega
  · unfold fldA
    rw [A.words, fillW_get, hk]
    by_cases hlt : p.toNat + f < S.words.length
    · rw [if_pos ⟨by omega, by omega, hlt⟩]
    · rw [if_neg (fun h => hlt h.2.2)]
      simp [List.getD, List.getElem?_eq_none (Nat.le_of_not_lt hlt)]
/-- An object is made. -/
theorem ks_alloc (I : Inv T.S) (H : KSt S0 l T ks) (hp : T.ph ≠ 0) :
    ((qAlloc T 2 3 0).2.2 ≠ 0 ∧ KSt S0 l (qAlloc T 2 3 0).1 ks ∨ (qAlloc T 2 3 0).2.2 = 0 ∧ KSt S0 l (qAlloc T 2 3 0).1 (addK ks (qAlloc T 2 3 0).2.1) ∧ 1 ≤ (qAlloc T 2 3 0).2.1 ∧ (qAlloc T 2 3 0).2.1 ≤ 4096) ∧ (qAlloc T 2 3 0).1.S.objs.length ≤ T.S.objs.length + 1 ∧ (qAlloc T 2 3 0).1.ph = T.ph := by
  rcases alloc2 I with ⟨S', p, e, A, _⟩ | ⟨e, _⟩
  · have hm : ∀ o, o ∈ S'.objs ↔ o = (p, 2, 3) ∨ o ∈ T.S.objs := fun o => by rw [A.objs, ins_mem]
    have hpo : mIs S' p = true := (mis_mem A.inv.toInv0 p).2 ⟨_, (hm _).2 (.inl rfl), rfl⟩
    have hp0 := mis_pos A.inv.toInv0 hpo
    have mono : ∀ x, mIs T.S x = true → mIs S' x = true := fun x hx => by
      obtain ⟨o, ho, e⟩ := (mis_mem I.toInv0 x).1 hx
      exact (mis_mem A.inv.toInv0 x).2 ⟨o, (hm o).2 (.inr ho), e⟩
    have inv' : ∀ x, mIs S' x = true → x = p ∨ mIs T.S x = true := fun x hx => by
      obtain ⟨o, ho, e⟩ := (mis_mem A.inv.toInv0 x).1 hx
      rcases (hm o).1 ho with rfl | h
      · exact .inl e.symm
      · exact .inr ((mis_mem I.toInv0 x).2 ⟨o, h, e⟩)
    have hnew : mIs T.S p = false := by
      cases h : mIs T.S p with
      | false => rfl
      | true =>
        obtain ⟨o, ho, e⟩ := (mis_mem I.toInv0 p).1 h
        exact absurd e (A.no o ho)
    have hlen : S'.objs.length = T.S.objs.length + 1 := by rw [A.objs, ins_len]
    have hq : qAlloc T 2 3 0 = ({ T with S := S', K := mMade S' T.K p }, p, (mKnown S' T.K p).2) := by
      unfold qAlloc
      rw [e, if_pos rfl]
    rw [hq]
    cases H with
    | off h => exact absurd h.ph hp
    | mark H =>
      have hk : mKnown S' T.K p = (true, 0) := by
        unfold mKnown
        rw [if_neg (fun h => h.elim (fun h => by rw [H.mi.on] at h; cases h) fun h => by omega), if_pos hpo]
      have hpg : p ∉ T.K.greys := fun h => by
        have := H.mi.obj p (H.mi.sn p h)
        rw [hnew] at this
        cases this
      have hgk : keepP (fun x => x == p) T.K.greys = T.K.greys := keepP_all fun x hx => by
        rw [beq_eq_false_iff_ne]
        intro e
        exact hpg (e ▸ hx)
      have hmd : mMade S' T.K p = mSee T.K p := by
        unfold mMade
        rw [hk, if_pos rfl, hgk]
        rfl
      rw [hk, hmd]
      obtain ⟨f1, f2⟩ := fld_made I H.clo A
      have up : ∀ x, T.K.seen x = true → (mSee T.K p).seen x = true := fun x hx => by show (x == p || T.K.seen x) = true; rw [hx]; simp
      have hseen : ∀ x, (mSee T.K p).seen x = true ↔ x = p ∨ T.K.seen x = true := fun x => by
        show (x == p || T.K.seen x) = true ↔ _
        rw [Bool.or_eq_true, beq_iff_eq]
      have hold : ∀ x, mIs S0 x = true → x ≠ p := fun x hx e => by
        have := H.old x hx
        rw [e, hnew] at this
        cases this
      refine ⟨.inr ⟨rfl, .mark ⟨H.ph, H.lf, H.cy, alloc_clo I H.clo A, ⟨H.mi.on, fun x hx => ?_, fun x hx => up x (H.mi.sn x hx)⟩, fun x hx => ?_, fun x hx f hf => ?_, fun x hx => ?_, fun x hx => mono x (H.old x hx), fun y hy f hf => ?_, fun x hx h0 => up x (H.rts x hx h0), fun x hx h0 => ?_, fun x hx h0 => ?_⟩, hp0⟩, by show S'.objs.length ≤ _; omega, rfl⟩
      · rcases (hseen x).1 hx with h | h
        · exact h ▸ hpo
        · exact mono x (H.mi.obj x h)
      · rcases mem_addK.1 hx with h | h
        · exact mono x (H.ke x h)
        · exact h ▸ hpo
      · rcases mem_addK.1 hx with h | h
        · show fldA S' x f = 0 ∨ fldA S' x f ∈ _
          rw [f1 x (H.ke x h) f hf]
          exact (H.kc x h f hf).imp id fun h => mem_addK.2 (.inl h)
        · subst h
          exact .inl (f2 f hf)
      · exact mem_addK.2 (((hseen x).1 hx).symm.imp (H.sk x) id)
      · rcases H.snp y hy f hf with h | h | ⟨h, hc⟩
        · exact .inl h
        · exact .inr (.inl (up _ h))
        · refine .inr (.inr ⟨h.imp (fun h => ?_) id, ?_⟩)
          · show (y == p || T.K.seen y) = false
            rw [h, beq_eq_false_iff_ne.2 (hold y hy)]
            rfl
          · show fldA S' y f = _
            rw [f1 y (H.old y hy) f hf, hc]
      · rcases mem_addK.1 hx with h | h
        · exact up x (H.new x h h0)
        · exact (hseen x).2 (.inl h)
      · rcases mem_addK.1 hx with h | h
        · exact H.ko x h h0
        · exact absurd h (hold x h0)
    | sweep H =>
      have hk : mKnown S' T.K p = (false, 0) := known_off H.on p
      have hmd : mMade S' T.K p = T.K := by unfold mMade; rw [hk, if_neg (by simp)]
      rw [hk, hmd]
      refine ⟨.inr ⟨rfl, .sweep ⟨H.ph, H.on, H.cy, H.nd, fun x hx => mono x (H.lo x hx), fun o ho => ?_, fun x hx => ?_, fun x hx h => ?_, fun x hx => ?_⟩, hp0⟩, by show S'.objs.length ≤ _; omega, rfl⟩
      · rcases (hm o).1 ho with rfl | h
        · rfl
        · exact H.o2 o h
      · rcases mem_addK.1 hx with h | h
        · exact mono x (H.ke x h)
        · exact h ▸ hpo
      · rcases mem_addK.1 hx with h1 | h1
        · exact H.kl x h1 h
        · have := H.lo x h
          rw [h1, hnew] at this
          cases this
      · rcases H.od x hx with h | h | h
        · exact .inl (mem_addK.2 (.inl h))
        · exact .inr (.inl h)
        · by_cases e : x = p
          · exact .inl (mem_addK.2 (.inr e))
          · refine .inr (.inr ?_)
            show mIs S' x = false
            cases h2 : mIs S' x with
            | false => rfl
            | true =>
              have := (inv' x h2).resolve_left e
              rw [h] at this
              cases this
  · have hq : qAlloc T 2 3 0 = (T, 0, 6) := by
      unfold qAlloc
      rw [e, if_neg (by simp)]
    rw [hq]
    exact ⟨.inl ⟨by simp, H⟩, Nat.le_succ _, rfl⟩
theorem bit3 {k : Nat} (hk : k < 2) : mBit 3 k = true := by
  rcases (by omega : k = 0 ∨ k = 1) with rfl | rfl <;> decide
/-- A pointer is put, with the barrier. -/
theorem ks_put (I : Inv T.S) (H : KSt S0 l T ks) (hp : T.ph ≠ 0) {a b : Int} (ha : a ∈ ks) (hb : b = 0 ∨ b ∈ ks) {k : Nat} (hk : k < 2) :
    (qPut T a k b true).2 = 0 ∧ KSt S0 l (qPut T a k b true).1 ks ∧ (qPut T a k b true).1.S.objs.length ≤ T.S.objs.length ∧ (qPut T a k b true).1.ph = T.ph := by
  have hao := H.ke a ha
  have hbg : Good T.S b := hb.imp id (H.ke b)
  have hbd := good_bd I.toInv0 hbg
  have hob : ∀ o ∈ T.S.objs, o.2 = (2, 3) := by
    cases H with
    | mark h => exact h.clo.obj
    | sweep h => exact h.o2
    | off h => exact absurd h.ph hp
  have hsz : sSize T.S a = (2, 3, true) := by
    obtain ⟨o, ho, rfl⟩ := (mis_mem I.toInv0 a).1 hao
    rw [I.toInv0.size ho, hob o ho]
  have hth : sThere T.S a (k : Int) = 0 := by
    unfold sThere
    rw [hsz, if_neg]
    simp
    omega
  have hl : (sLoad T.S a k).2 = 0 := by
    unfold sLoad
    rw [hth, if_pos rfl]
  have hbo : ¬ (b ≠ 0 ∧ (sSize T.S b).2.2 = false) := fun h => hbg.elim h.1 fun h2 => by
    have : (sSize T.S b).2.2 = true := h2
    rw [this] at h
    cases h.2
  have eq1 : qPut T a k b true = if (mKnown T.S T.K (sLoad T.S a k).1).2 ≠ 0 then (qShade T (sLoad T.S a k).1, (mKnown T.S T.K (sLoad T.S a k).1).2) else ({ qShade T (sLoad T.S a k).1 with S := sStore T.S a k b }, 0) := by
    unfold qPut
    rw [if_neg (by omega), if_neg hbo, hsz]
    dsimp only
    rw [Int.toNat_natCast, if_neg (by rw [bit3 hk]; simp), if_neg (by simp)]
  have ho := store_objs T.S a k b
  have I' := store_inv I a k (x := b) (by omega)
  have hmm : ∀ x, mIs (sStore T.S a k b) x = true ↔ mIs T.S x = true := fun x => by
    rw [mis_mem I.toInv0, mis_mem I'.toInv0, ho]
  have hmf : ∀ x, mIs T.S x = false → mIs (sStore T.S a k b) x = false := fun x h => by
    cases h2 : mIs (sStore T.S a k b) x with
    | false => rfl
    | true => rw [(hmm x).1 h2] at h; cases h
  have hlen : (sStore T.S a k b).objs.length ≤ T.S.objs.length := by rw [ho]; exact Nat.le_refl _
  rw [eq1]
  generalize hv : (sLoad T.S a k).1 = v
  cases H with
  | off h => exact absurd h.ph hp
  | sweep H =>
    have e4 : qShade T v = T := by unfold qShade mShade; rw [known_off H.on, if_neg (by simp)]
    rw [known_off H.on, e4, if_neg (by simp)]
    exact ⟨rfl, .sweep ⟨H.ph, H.on, H.cy, H.nd, fun x hx => (hmm x).2 (H.lo x hx), fun o h => H.o2 o (ho ▸ h), fun x hx => (hmm x).2 (H.ke x hx), H.kl, fun x hx => (H.od x hx).imp id fun h => h.imp id (hmf x)⟩, hlen, rfl⟩
  | mark H =>
    have hvf : v = fldA T.S a k := by rw [← hv, H.clo.load I.toInv0 hao hk]
    have hvg : Good T.S v := by rw [hvf]; exact H.clo.good I.toInv0 hao hk
    have hvk : v = 0 ∨ v ∈ ks := by rw [hvf]; exact H.kc a ha k hk
    rw [known_good H.mi hvg, if_neg (by simp)]
    obtain ⟨M1, _, a1, a2, a3, a4, a5⟩ := mi_shade I.toInv0 H.mi hvg
    have hfs : ∀ x, mIs T.S x = true → ∀ f : Nat, f < 2 → fldA (sStore T.S a k b) x f = if x = a ∧ f = k then b else fldA T.S x f := fun x hx f hf => fld_store I.toInv0 H.clo hao hx hk hf
    refine ⟨rfl, .mark ⟨H.ph, H.lf, H.cy, store_clo I H.clo a k hbg, ⟨M1.on, fun x hx => (hmm x).2 (M1.obj x hx), M1.sn⟩, fun x hx => (hmm x).2 (H.ke x hx), fun x hx f hf => ?_, fun x hx => ?_, fun x hx => (hmm x).2 (H.old x hx), fun y hy f hf => ?_, fun x hx h0 => a2 x (H.rts x hx h0), fun x hx h0 => a2 x (H.new x hx h0), H.ko⟩, hlen, rfl⟩
    · show fldA (sStore T.S a k b) x f = 0 ∨ fldA (sStore T.S a k b) x f ∈ ks
      rw [hfs x (H.ke x hx) f hf]
      split
      · exact hb
      · exact H.kc x hx f hf
    · have hx0 := mis_pos I.toInv0 (M1.obj x hx)
      rcases a3 x hx with h | h
      · exact H.sk x h
      · exact h ▸ hvk.resolve_left (by omega)
    · rcases H.snp y hy f hf with h | h | ⟨h, hc⟩
      · exact .inl h
      · exact .inr (.inl (a2 _ h))
      · by_cases h0 : fldA S0 y f = 0
        · exact .inl h0
        by_cases e : y = a ∧ f = k
        · refine .inr (.inl ?_)
          obtain ⟨rfl, rfl⟩ := e
          rw [← hc] at h0 ⊢
          rw [← hvf] at h0 ⊢
          exact a1 h0
        · refine .inr (.inr ⟨uns_shade I.toInv0 H.mi hvg h, ?_⟩)
          show fldA (sStore T.S a k b) y f = _
          rw [hfs y (H.old y hy) f hf, if_neg e, hc]
/-- A cycle is begun. -/
theorem ks_begin (I : Inv T.S) (O : OffX T D) (l : List Int) (hl : ∀ x ∈ l, Good T.S x) (hk : ∀ x, x ∈ ks ↔ RcS T.S l x) :
    (qBegin T l).2 = 0 ∧ KSt T.S l (qBegin T l).1 ks ∧ (qBegin T l).1.S = T.S ∧ (qBegin T l).1.ph = 1 ∧ (qBegin T l).1.cyc = 0 := by
  obtain ⟨e2, e1, _⟩ := cyc_begin I.toInv0 O.clo O.ph O.on l hl
  obtain ⟨M, _⟩ := fold_shade I.toInv0 l mStart mi_start hl
  have hs := fold_seen I.toInv0 l mStart mi_start hl
  have hgr : ∀ (l : List Int) (K : MK), MI T.S K → (∀ x ∈ l, Good T.S x) → (∀ x, K.seen x = true → x ∈ K.greys) → ∀ x, (l.foldl (mShade T.S) K).seen x = true → x ∈ (l.foldl (mShade T.S) K).greys := by
    intro l
    induction l with
    | nil => intro K _ _ h; exact h
    | cons y l ih =>
      intro K M h hk
      obtain ⟨M1, _, _, _, s3, s4, s5⟩ := mi_shade I.toInv0 M (h y (by simp))
      exact ih _ M1 (fun z hz => h z (List.mem_cons_of_mem _ hz)) fun x hx => (s5 x hx).elim (fun h1 => s4 x (hk x h1)) id
  have hg := hgr l mStart mi_start hl (fun x hx => by cases hx)
  have hex : ∀ x ∈ ks, mIs T.S x = true := fun x hx => ((hk x).1 hx).good I.toInv0 O.clo hl
  rw [e1]
  refine ⟨e2, .mark ⟨rfl, O.lf, O.cy, O.clo, M, hex, fun x hx f hf => ?_, fun x hx => ?_, fun x hx => hx, fun y hy f hf => .inr (.inr ⟨?_, rfl⟩), fun x hx h0 => (hs x).2 (.inr ⟨hx, h0⟩), fun x hx h0 => ?_, fun x hx _ => (hk x).1 hx⟩, rfl, rfl, O.cy⟩
  · by_cases h0 : fldA T.S x f = 0
    · exact .inl h0
    · exact .inr ((hk _).2 (.fld ((hk x).1 hx) f hf h0))
  · rcases (hs x).1 hx with h | h
    · cases h
    · exact (hk x).2 (.root h.1 h.2)
  · show Uns (l.foldl (mShade T.S) mStart) y
    cases h : (l.foldl (mShade T.S) mStart).seen y with
    | false => exact .inl h
    | true => exact .inr (hg y h)
  · rw [hex x hx] at h0
    cases h0
/-- It has ended just if it is off. -/
theorem KSt.ended (H : KSt S0 l T ks) : (T.ph = 0 ∧ T.cyc = 1) ∨ ((T.ph = 1 ∨ T.ph = 2) ∧ T.cyc = 0) := by
  cases H with
  | mark h => exact .inr ⟨.inl h.ph, h.cy⟩
  | sweep h => exact .inr ⟨.inr h.ph, h.cy⟩
  | off h => exact .inl ⟨h.ph, h.cy⟩
theorem KSt.sok (H : KSt S0 l T ks) (I : Inv0 T.S) (hp : T.ph ≠ 0) : SOk T := by
  have hc : 0 ≤ T.cyc ∧ T.cyc < 1000000 := by rcases H.ended with h | h <;> omega
  cases H with
  | mark h => exact ⟨.inr (.inl ⟨h.ph, h.mi.on⟩), hc, by rw [h.lf]; simp, by rw [h.lf]; simp⟩
  | sweep h =>
    have := nodup_sub I h.nd h.lo
    have h2 := I.objs_len
    exact ⟨.inr (.inr h.ph), hc, fun x hx => by have := mis_pos I (h.lo x hx); omega, by omega⟩
  | off h => exact absurd h.ph hp
/-- How many steps are left at most. -/
theorem KSt.cyc (H : KSt S0 l T ks) (I : Inv0 T.S) (G : GInv T.K) (hp : T.ph ≠ 0) {c : Nat} (hc : T.S.objs.length ≤ c) : (∃ n, Cyc T n ∧ n ≤ 2 * c + 2) ∧ (T.ph = 1 → T.left = []) := by
  cases H with
  | mark h =>
    refine ⟨⟨_, Cyc.mark h.ph h.clo h.mi, ?_⟩, fun _ => h.lf⟩
    have hgl : T.K.greys.Nodup → uns T.S T.K + T.K.greys.length ≤ (sAll T.S).length := fun nd => by
      have h1 : (keepP T.K.seen (sAll T.S) ++ T.K.greys).Nodup := by
        rw [List.nodup_append]
        refine ⟨List.Nodup.sublist List.filter_sublist (all_nodup I), nd, fun x hx y hy e => ?_⟩
        subst e
        have h2 := (List.mem_filter.1 hx).2
        rw [h.mi.sn x hy] at h2
        cases h2
      have h3 := nodup_sub I h1 fun x hx => (List.mem_append.1 hx).elim (fun h => (mis_all I x).2 (List.mem_filter.1 h).1) fun h2 => h.mi.obj x (h.mi.sn x h2)
      rw [List.length_append] at h3
      rw [all_len]
      exact h3
    have h4 := hgl G.nd
    have h5 := all_len T.S
    omega
  | sweep h =>
    refine ⟨⟨_, Cyc.sweep h.ph h.on h.nd h.lo, ?_⟩, fun h1 => by rw [h.ph] at h1; omega⟩
    have := nodup_sub I h.nd h.lo
    omega
  | off h => exact absurd h.ph hp
end
end Go.Proofs.YtcaboknbdamlhaaGreatDoor
namespace Go.Proofs.YtcaboknbdamlhaaGreatDoor
open Go.RowKit Go.Shelf
theorem SetR.kept {w w' : World} {b r n : Nat} {ks : List Int} {cnt : Nat} (h : SetR w b r n ks cnt) (hb : Below w.heap.size w w') : SetR w' b r n ks cnt := by
  obtain ⟨D, left, h1, h2⟩ := h
  exact ⟨D, left, h1.kept (row := none) ⟨hb.os, hb.tape, hb.output, hb.size, fun k hk _ => hb.block k hk⟩ (by simp) (by simp), h2⟩
section
variable {v0 : W0} {w : World} {q s h m : Nat} {T : SS} {D : DS}
set_option maxHeartbeats 6400000 in
set_option maxRecDepth 100000 in
theorem ended_ok (H : LX v0 w q s h m T D) {gW gC : Nat} (cW : w.cell? ⟨gW, 0, none⟩ = some (.pointer (some ⟨q, 0, none⟩))) (cC : w.cell? ⟨gC, 0, none⟩ = some (.int .i64 0)) (hW : gW < w.heap.size) (hC : gC < w.heap.size)
    (he : (T.ph = 0 ∧ T.cyc = 1) ∨ ((T.ph = 1 ∨ T.ph = 2) ∧ T.cyc = 0)) :
    Calls Tryz.prog 21 #[.pointer (some ⟨gW, 0, none⟩), .pointer (some ⟨gC, 0, none⟩)] w fun e w' => e = .returned (.bool (decide (T.ph = 0))) ∧ Below w.heap.size w w' := by
  have c0 := H.cells.1
  have HP : Calls Tryz.prog 20 #[.pointer (some ⟨s, 0, none⟩)] w fun e w' => e = .returned (.tuple #[.int .i64 T.ph, .int .i64 T.cyc]) ∧ Below w.heap.size w w' := by
    obtain ⟨v0, L⟩ := H.ls
    exact ls_phase L
  obtain ⟨ph, hph⟩ : ∃ ph, T.ph = ph := ⟨_, rfl⟩
  obtain ⟨cyc, hcy⟩ : ∃ cyc, T.cyc = cyc := ⟨_, rfl⟩
  rw [hph, hcy] at HP he
  rw [hph]
  replace HP := Lib.hid HP
  replace hph := Lib.hid hph
  replace hcy := Lib.hid hcy
  clear H
  go_enter Tryz.func21, Tryz.ntmps21
  go_wp2_with fail
  refine HP.out.mono ?_
  rintro e w2 ⟨rfl, b2⟩
  have c2 := (b2.cell (p := ⟨gC, 0, none⟩) hC).trans cC
  clear HP cW c0 cC
  rcases he with ⟨rfl, rfl⟩ | ⟨rfl | rfl, rfl⟩
  · go_wp2_with fail
    go_ret
    exact ⟨ret_bool (by decide), b2⟩
  · go_wp2_with fail
    go_ret
    exact ⟨ret_bool (by decide), b2⟩
  · go_wp2_with fail
    go_ret
    exact ⟨ret_bool (by decide), b2⟩
set_option maxHeartbeats 6400000 in
set_option maxRecDepth 100000 in
theorem use_ok (H : LX v0 w q s h m T D) {gH gK bm n : Nat} {ks : List Int} (cH : w.cell? ⟨gH, 0, none⟩ = some (.pointer (some ⟨h, 0, none⟩))) (cK : w.cell? ⟨gK, 0, none⟩ = some (.map (some bm))) (hK : gK < w.heap.size) (hS : SetM w bm n ks) (x : Int) (hx : 0 ≤ x ∧ x ≤ 255) :
    Calls Tryz.prog 19 #[.int .u8 x, .pointer (some ⟨gH, 0, none⟩), .pointer (some ⟨gK, 0, none⟩)] w fun e w' => (∃ a, e = .returned (.int .i64 a) ∧ (a = 0 ∨ a ∈ ks)) ∧ Below w.heap.size w w' := by
  have I := H.inv.toInv0
  have HAl := Lib.hid (lx_all H)
  obtain ⟨l, hl⟩ : ∃ l, l = sAll T.S := ⟨_, rfl⟩
  have hll : l.length ≤ 4096 := by rw [hl, all_len]; exact I.objs_len
  have hlw : Hid (∀ y ∈ l, (Lit.int .i64 y).wf = true) := Lib.hid fun y hy => by
    have := mis_pos I ((mis_all I y).2 (hl ▸ hy))
    exact wf_i64 (by omega)
  rw [← hl] at HAl
  replace hl := Lib.hid hl
  replace hS := Lib.hid hS
  clear I H
  obtain ⟨hx0, hx1⟩ := hx
  go_enter Tryz.func19, Tryz.ntmps19
  go_wp2_with fail
  refine HAl.out.mono ?_
  rintro e w2 ⟨A, c, rfl, hrd, hfr, b2⟩
  have hS2 := Lib.hid (hS.out.kept b2)
  have cK2 := Lib.hid ((b2.cell (p := ⟨gK, 0, none⟩) hK).trans cK)
  have hK2 : gK < w2.heap.size := Nat.lt_of_lt_of_le hK b2.size
  have hrd2 := Lib.hid hrd
  replace b2 := Lib.hid b2
  clear HAl cH cK hS hrd hfr
  go_wp2_with fail
  go_loopw [5, 12] (fun cv i wr => ∃ (j : Nat) (cs : List Int), j ≤ l.length ∧ i = .int .i64 j ∧ cs.length ≤ j ∧ Hid (wr.ownsRow w2.heap.size 3 1 cv cs.length (cs.map i64e)) ∧ Hid (∀ y ∈ cs, y ∈ ks) ∧ Hid (Below w2.heap.size w2 wr)) (fun _ i _ => l.length - (intOf i).toNat)
  case atStart => exact ⟨0, [], by omega, rfl, Nat.le_refl _, Lib.hid (World.ownsRow_nil _ _ _ _), Lib.hid (fun y hy => by cases hy), Lib.hid (Below.refl _ _)⟩
  case round =>
    obtain ⟨j, cs, hj, rfl, hcl, ho, hck, hbr⟩ := hrel
    obtain ⟨Ac, cc, rfl, -⟩ := own_form ho.out
    have hz := hbr.out.size
    by_cases hlt : j < l.length
    · have t0 : (j : Int) < (l.length : Int) := by omega
      obtain ⟨b, o, rfl, _, hc⟩ := (hrd2.out.below hbr.out).at_ hlt
      obtain ⟨y, hy⟩ : ∃ y, y = l[j] := ⟨_, rfl⟩
      have hyw := hlw.out y (by rw [hy]; exact List.getElem_mem hlt)
      rw [← hy] at hc
      replace hc : wr.cell? ⟨b, o + j, none⟩ = some (.int .i64 y) := hc
      have hlk := (hS2.out.kept hbr.out).look y hyw
      have ck : wr.cell? ⟨gK, 0, none⟩ = some (.map (some bm)) := (hbr.out.cell (p := ⟨gK, 0, none⟩) hK2).trans cK2.out
      obtain ⟨r, hr⟩ : ∃ r, decide (y ∈ ks) = r := ⟨_, rfl⟩
      rw [hr] at hlk
      replace hy := Lib.hid hy
      replace hyw := Lib.hid hyw
      replace hr := Lib.hid hr
      rcases r with _ | _
      · have hb9 := hbr
        clear hbr
        go_wp2_with fail
        go_roundw
        case rel => exact ⟨j + 1, cs, by omega, by go_num, by omega, ho, hck, hb9⟩
        case measure => simp [intOf]; omega
      · have ho' := ho.out
        clear ho
        go_wp2_with (at_builtin; refine wpList_push rfl (.tmp 19) (.tmp 21) _ rfl w2.heap.size 3 _ 8 Tryz.underlying36 int_info rfl (.slice Ac cs.length cc) _ _ rfl ho' _ rfl rfl (by unfold maxLen; omega) (by omega) hz ?_; intro v5 w5 hown5 hg5 hat5; refine stop_here ?_)
        have hb5 := Lib.hid (hbr.out.grown hg5 hz (fun k hk => (ho'.lt k hk).1))
        have ho5 : Hid (w5.ownsRow w2.heap.size 3 1 v5 (cs ++ [y]).length ((cs ++ [y]).map i64e)) := Lib.hid (by simpa using hown5)
        have hck5 : Hid (∀ z ∈ cs ++ [y], z ∈ ks) := Lib.hid fun z hz => (List.mem_append.1 hz).elim (hck.out z) fun h => by
          rw [List.mem_singleton.1 h]
          exact of_decide_eq_true hr.out
        have hcl5 : (cs ++ [y]).length ≤ j + 1 := by simp; omega
        clear hown5 hg5 hat5 ho' hbr hck
        refine go_on ?_
        go_wp2_with fail
        go_roundw
        case rel => exact ⟨j + 1, cs ++ [y], by omega, by go_num, hcl5, ho5, hck5, hb5⟩
        case measure => simp [intOf]; omega
    · obtain rfl : j = l.length := by omega
      have hrc := Rd.of_own ho.out
      obtain ⟨k, hk⟩ : ∃ k : Nat, x % ((cs.length : Int) + 1) = (k : Int) := ⟨(x % ((cs.length : Int) + 1)).toNat, by have := Int.emod_nonneg x (show (cs.length : Int) + 1 ≠ 0 by omega); omega⟩
      have hkl : k ≤ cs.length := by have := Int.emod_lt_of_pos x (show 0 < (cs.length : Int) + 1 by omega); omega
      have wn : IntKind.i64.wrap ((cs.length : Int) + 1) = (cs.length : Int) + 1 := by rw [IntKind.wrap_i64]; omega
      have wx : IntKind.i64.wrap x = x := by rw [IntKind.wrap_i64]; omega
      have nz : ((cs.length : Int) + 1 = 0) = False := by rw [eq_iff_iff, iff_false]; omega
      have tk : x.tmod ((cs.length : Int) + 1) = (k : Int) := (Int.tmod_eq_emod_of_nonneg hx0).trans hk
      have bw := Lib.hid (b2.out.trans (hbr.out.mono b2.out.size))
      replace hk := Lib.hid hk
      clear hbr ho
      rcases Nat.eq_zero_or_pos k with h0 | hpos
      · subst h0
        replace hrc := Lib.hid hrc
        go_wp2_with fail
        go_ret
        exact ⟨⟨0, rfl, .inl rfl⟩, bw.out⟩
      · obtain ⟨i, rfl⟩ : ∃ i, k = i + 1 := ⟨k - 1, by omega⟩
        have hil : i < cs.length := by omega
        obtain ⟨b, o, rfl, _, hc⟩ := hrc.at_ hil
        obtain ⟨y, hy⟩ : ∃ y, y = cs[i] := ⟨_, rfl⟩
        have hym : y ∈ ks := hck.out y (by rw [hy]; exact List.getElem_mem hil)
        rw [← hy] at hc
        replace hc : wr.cell? ⟨b, o + i, none⟩ = some (.int .i64 y) := hc
        have z0 : (((i + 1 : Nat) : Int) == 0) = false := by rw [beq_eq_false_iff_ne]; omega
        have zj : (i : Int) < (cs.length : Int) := by omega
        have wj : IntKind.i64.wrap (((i + 1 : Nat) : Int) - 1) = (i : Int) := by rw [IntKind.wrap_i64]; omega
        replace hrc := Lib.hid hrc
        replace hy := Lib.hid hy
        replace hym := Lib.hid hym
        go_wp2_with fail
        go_ret
        exact ⟨⟨y, rfl, .inr hym.out⟩, bw.out⟩
end
end Go.Proofs.YtcaboknbdamlhaaGreatDoor
namespace Go.Proofs.YtcaboknbdamlhaaGreatDoor
open Go.RowKit Go.Shelf
section
variable {w0 v0 : W0} {w w' B wv : World} {q s h m : Nat} {T : SS} {D : DS} {Qp : Nat → Prop}
theorem LX.qkeep (H : LX v0 w q s h m T D) {T' : SS} {D' : DS} (H' : LX v0 w' q s h m T' D') {k : Nat} (hk : v0.Q k) : w'.heap[k]? = w.heap[k]? := (H'.fen.kept k hk).2.trans (H.fen.kept k hk).2.symm
theorem LX.gi (H : LX v0 w q s h m T D) : GInv T.K := by
  obtain ⟨v, L⟩ := H.ls
  exact L.gi
/-- A kept block is written: it is kept as it is then. -/
theorem LX.reref {bm : Nat} (H : LX ⟨B, Qp, wv⟩ w q s h m T D) (hb : Qp bm) (hB : B.heap.size ≤ bm) (hT : 0 < B.heap.size) (hg : w.grownBy w' (some bm)) (hs : w.heap.size ≤ w'.heap.size) : LX ⟨B, Qp, w'⟩ w' q s h m T D := by
  obtain ⟨X, V, L, fe, hX, hq, hqt, xv, Bk⟩ := H
  have hXb : ∀ k, X k → k ≠ bm := fun k hk e => (hX k hk).2 (e ▸ hb)
  have hko : ∀ k, k < w.heap.size → k ≠ bm → w'.heap[k]? = w.heap[k]? := fun k hk hne => hg.block k hk fun e => hne (by injection e)
  have bw : Below B.heap.size B w' := fe.b.grown hg fe.b.size fun k hk => by cases hk; exact hB
  have fk : ∀ k, Qp k → k < w'.heap.size := fun k hk => Nat.lt_of_lt_of_le (fe.kept k hk).1 hs
  refine ⟨X, V, L.wrote hs (fun k hk h => hko k hk fun e => ?_) (fun k hk hf => hf) ⟨bw, fun k hk => ⟨?_, rfl⟩⟩, ⟨bw, fun k hk => ⟨fk k hk, rfl⟩⟩, hX, hq, hqt, xv.same (fun b hb' hlt => hko b hlt (hXb b hb'.1)) fun b hb' _ => hb', (hko q Bk.lt (hXb q hq)).trans Bk⟩
  · rcases h with h | h
    · exact h.2 (.inl (e ▸ hb))
    · omega
  · rcases hk with h | h
    · exact fk k h
    · exact Nat.lt_of_lt_of_le (L.fen.kept k (.inr h)).1 hs
theorem lx_sizeB (H : LX v0 w q s h m T D) (p : Int) (hp : -9223372036854775808 ≤ p ∧ p ≤ 9223372036854775807) :
    Calls Tryz.prog 25 #[.pointer (some ⟨h, 0, none⟩), .int .i64 p] w fun e w' => e = .returned (.tuple #[.int .i64 (sSize T.S p).1, .int .u8 (sSize T.S p).2.1, .bool (sSize T.S p).2.2]) ∧ Below w.heap.size w w' := by
  obtain ⟨v0, F, Dm, G, W, hF, b⟩ := H.ls
  exact size_s h T.S F w p W.mm.hp hp.1 hp.2
end
/-- What the law has in memory: four boxes, a set, a list. -/
structure KB (Qp : Nat → Prop) (w : World) (gW gH gK gC bm n q h : Nat) (ks old : List Int) (vo : Value) : Prop where
  cW : w.cell? ⟨gW, 0, none⟩ = some (.pointer (some ⟨q, 0, none⟩))
  cH : w.cell? ⟨gH, 0, none⟩ = some (.pointer (some ⟨h, 0, none⟩))
  cK : w.cell? ⟨gK, 0, none⟩ = some (.map (some bm))
  cC : w.cell? ⟨gC, 0, none⟩ = some (.int .i64 0)
  set : SetM w bm n ks
  rdo : Rd i64e w vo old
  qq : Qp gW ∧ Qp gH ∧ Qp gK ∧ Qp gC ∧ Qp bm
  qo : 0 < old.length → ∀ b, vo.ownBlock = some b → Qp b
  lt : gW < w.heap.size ∧ gH < w.heap.size ∧ gK < w.heap.size ∧ gC < w.heap.size
section
variable {Qp : Nat → Prop} {w w' : World} {gW gH gK gC bm n q h : Nat} {ks old : List Int} {vo : Value}
theorem KB.next (H : KB Qp w gW gH gK gC bm n q h ks old vo) (hk : ∀ k, Qp k → w'.heap[k]? = w.heap[k]?) : KB Qp w' gW gH gK gC bm n q h ks old vo := by
  obtain ⟨q1, q2, q3, q4, q5⟩ := H.qq
  obtain ⟨l1, l2, l3, l4⟩ := H.lt
  exact ⟨(World.cell?_of_block (hk _ q1)).trans H.cW, (World.cell?_of_block (hk _ q2)).trans H.cH, (World.cell?_of_block (hk _ q3)).trans H.cK, (World.cell?_of_block (hk _ q4)).trans H.cC,
    H.set.of_block (hk _ q5), H.rdo.same fun hp b e _ => hk b (H.qo hp b e), H.qq, H.qo, heap_lt l1 (hk _ q1), heap_lt l2 (hk _ q2), heap_lt l3 (hk _ q3), heap_lt l4 (hk _ q4)⟩
theorem KB.below (H : KB Qp w gW gH gK gC bm n q h ks old vo) (hb : Below w.heap.size w w') : KB Qp w' gW gH gK gC bm n q h ks old vo := by
  obtain ⟨l1, l2, l3, l4⟩ := H.lt
  have hz := hb.size
  exact ⟨(hb.cell (p := ⟨gW, 0, none⟩) l1).trans H.cW, (hb.cell (p := ⟨gH, 0, none⟩) l2).trans H.cH, (hb.cell (p := ⟨gK, 0, none⟩) l3).trans H.cK, (hb.cell (p := ⟨gC, 0, none⟩) l4).trans H.cC,
    H.set.kept hb, H.rdo.below hb, H.qq, H.qo, by omega, by omega, by omega, by omega⟩
theorem KB.put (H : KB Qp w gW gH gK gC bm n q h ks old vo) (hg : w.grownBy w' (some bm)) {n' : Nat} {ks' : List Int} (hS : SetM w' bm n' ks') : KB Qp w' gW gH gK gC bm n' q h ks' old vo := by
  obtain ⟨l1, l2, l3, l4⟩ := H.lt
  have hz := hg.size
  have ne : ∀ {k o : Nat} {v : Value}, w.cell? ⟨k, o, none⟩ = some v → k ≠ bm := fun hc e => H.set.not_cells (by rw [← e]; exact hc)
  have hk : ∀ {k : Nat} {v : Value}, k < w.heap.size → w.cell? ⟨k, 0, none⟩ = some v → w'.heap[k]? = w.heap[k]? := fun hl hc => hg.block _ hl fun e => ne hc (by injection e)
  refine ⟨(World.cell?_of_block (hk l1 H.cW)).trans H.cW, (World.cell?_of_block (hk l2 H.cH)).trans H.cH, (World.cell?_of_block (hk l3 H.cK)).trans H.cK, (World.cell?_of_block (hk l4 H.cC)).trans H.cC,
    hS, H.rdo.same fun hp b e hlt => ?_, H.qq, H.qo, by omega, by omega, by omega, by omega⟩
  refine hg.block b hlt fun e2 => ?_
  obtain ⟨A, c, rfl, -⟩ := H.rdo.len
  obtain ⟨b', o, rfl, _, hc⟩ := H.rdo.at_ hp
  have : b' = b := by simpa [Value.ownBlock] using e
  subst this
  exact ne hc (by injection e2)
end
section
variable {w0 : W0} {w : World} {q s h m : Nat} {T : SS} {D : DS}
/-- An act that begins no cycle, at a store that is off; objects are counted. -/
theorem sdoes_offC (H : LX w0 w q s h m T D) (O : OffX T D) {c : Nat} (C : Cp T D c) (kind xa xb xk : Int) (rv : Option Addr × Nat × Nat) (x : Int) (bd : ABd kind xa xb xk x) (hk : kind % 8 ≠ 0) :
    Calls Tryz.prog 12 #[.pointer (some ⟨q, 0, none⟩), .agg #[.int .u8 kind, .int .u8 xa, .int .u8 xb, .int .u8 xk, slE rv, .int .i64 x]] w fun e w' => ∃ b T' D', e = .returned (.bool b) ∧ LX w0 w' q s h m T' D' ∧ OffX T' D' ∧ Cp T' D' (c + 1) := by
  obtain ⟨Av, nv, cv⟩ := rv
  have I := H.inv
  have ID : Inv D.S := by rw [O.S]; exact I
  have hkb := bd.kind
  rcases (by omega : kind % 8 = 1 ∨ (kind % 8 = 2 ∨ kind % 8 = 3) ∨ (kind % 8 = 4 ∨ kind % 8 = 5 ∨ kind % 8 = 6) ∨ kind % 8 = 7) with hk | hk | hk | hk
  · refine (sdoes_alloc H ID O.dlen kind xa xb xk x Av nv cv bd hk).mono ?_
    rintro e w' ⟨b, he, _, H'⟩
    exact ⟨b, _, _, he, H', off_alloc O I, (cp_alloc I C).1⟩
  · refine (sdoes_step H x (D1 := D) (n1 := 0) (r1 := 0) (T1 := T) (n2 := 0) (r2 := 0) (fun Q V wx xv hq => rStep18_off xv O.dph x) (fun v0 wx L => ?_) kind xa xb xk Av nv cv bd hk).mono ?_
    · have := ls_step L O.sok x bd.x
      rw [off_step O] at this
      dsimp only at this
      rw [if_pos rfl, O.ph] at this
      exact this
    · rintro e w' ⟨b, he, _, H'⟩
      exact ⟨b, _, _, he, H', O, C.mono (by omega)⟩
  · refine (sdoes_put H ID O.dlen kind xa xb xk x Av nv cv bd hk).mono ?_
    rintro e w' ⟨b, he, _, H'⟩
    exact ⟨b, _, _, he, H', off_put O I _ _ _ (objN_good I.toInv0 _), (cp_put I C _ _ (objN_good I.toInv0 _)).1⟩
  · refine (sdoes_shade H ID O.dlen kind xa xb xk x Av nv cv bd hk).mono ?_
    rintro e w' ⟨b, he, _, H'⟩
    exact ⟨b, _, _, he, H', off_sh O _, (cp_shade I.toInv0 C (objN_good I.toInv0 _)).1⟩
end
end Go.Proofs.YtcaboknbdamlhaaGreatDoor
namespace Go.Proofs.YtcaboknbdamlhaaGreatDoor
open Go.RowKit Go.Shelf
set_option maxHeartbeats 12800000 in
set_option maxRecDepth 100000 in
theorem skeeps_ok (v0 v1 v2 : Value) (acts : List SAct) (rs : List Int) (acts2 : List SAct) (w : World) (hra : RdC 6 sactC w v0 acts) (hba : ∀ a ∈ acts, SActOk w a) (hrs : Rd u8e w v1 rs) (hbs : ∀ n ∈ rs, 0 ≤ n ∧ n ≤ 255) (hrc : RdC 6 sactC w v2 acts2) (hbc : ∀ a ∈ acts2, SActOk w a) (hT : TabW w) :
    Calls Tryz.prog 4 #[v0, v1, v2] w fun e w' => e = .returned (.bool true) ∧ Below w.heap.size w w' := by
  have HA := Lib.hid (salive_ok w hT)
  replace hT := Lib.hid hT
  have RA := Lib.hid hra
  have HB := Lib.hid hba
  have RS := Lib.hid hrs
  have HS := Lib.hid hbs
  have RC := Lib.hid hrc
  have HC := Lib.hid hbc
  obtain ⟨Aa, ca, rfl, hlc, hcm, -⟩ := hra.len
  obtain ⟨Ar, cr, rfl, hlr, -⟩ := hrs.len
  obtain ⟨Ab, cb, rfl, hlc2, hcm2, -⟩ := hrc.len
  clear hra hba hrs hbs hrc hbc
  go_enter Tryz.func4, Tryz.ntmps4
  go_wp2_with fail
  refine HA.out.mono ?_
  rintro e w1 ⟨rfl, b1⟩
  clear HA
  have hTb : Hid (0 < w1.heap.size) := Lib.hid (Nat.lt_of_lt_of_le hT.out.lt b1.size)
  go_wp2_with fail
  refine (lx_begin 8 w1 (by omega) (by omega) (hT.out.below b1)).mono ?_
  rintro e w2 ⟨q, s, h, m, rfl, H2⟩
  have b2 := b1.trans (Below.mono H2.b b1.size)
  replace H2 := Lib.hid H2
  clear hT
  go_wp2_with (refine wpList_new rfl (.alloc 24) rfl w2.heap.size rfl 24 #[.pointer none] (by kernel_rfl) ?_; intro w3 hs3 hb3 hB3; refine stop_here ?_)
  obtain ⟨gW, hgW⟩ : ∃ gW, gW = w2.heap.size := ⟨_, rfl⟩
  rw [← hgW] at hB3 ⊢
  have kW : w3.cell? ⟨gW, 0, none⟩ = some (.pointer none) := hB3.cell 0
  have fW := hB3.frozen 0
  have B4 : Blk (w3.setCell ⟨gW, 0, none⟩ (.pointer (some ⟨q, 0, none⟩))) gW 24 #[.pointer (some ⟨q, 0, none⟩)] := hB3.set_ 0 _
  have b24 : Below w2.heap.size w2 (w3.setCell ⟨gW, 0, none⟩ (.pointer (some ⟨q, 0, none⟩))) := hb3.setCell (p := ⟨gW, 0, none⟩) (Nat.le_of_eq hgW.symm) _
  replace B4 := Lib.hid B4
  replace b24 := Lib.hid b24
  replace hgW := Lib.hid hgW
  clear hB3 hs3
  refine go_on ?_
  go_wp2_with fail
  obtain ⟨w4, hw4⟩ : ∃ w4, w4 = w3.setCell ⟨gW, 0, none⟩ (.pointer (some ⟨q, 0, none⟩)) := ⟨_, rfl⟩
  rw [← hw4] at B4 b24 ⊢
  replace hw4 := Lib.hid hw4
  clear kW fW hb3
  have b4 := b2.trans (b24.out.mono b2.size)
  have cW4 : w4.cell? ⟨gW, 0, none⟩ = some (.pointer (some ⟨q, 0, none⟩)) := B4.out.cell 0
  have hgW4 : gW < w4.heap.size := B4.out.lt
  refine (sheavy_w _ acts w4 (RA.out.below b4) (fun a ha => (HB.out a ha).below b4)).mono ?_
  rintro e w5 ⟨rfl, b5⟩
  have b5w := b4.trans (b5.mono b4.size)
  cases hh : sHeavy acts with
  | true =>
    go_wp2_with fail
    go_ret
    exact ⟨rfl, b5w⟩
  | false =>
  go_wp2_with fail
  refine (sheavy_w _ acts2 w5 (RC.out.below b5w) (fun a ha => (HC.out a ha).below b5w)).mono ?_
  rintro e w6 ⟨rfl, b6⟩
  have b6w := b5w.trans (b6.mono b5w.size)
  cases hh2 : sHeavy acts2 with
  | true =>
    go_wp2_with fail
    go_ret
    exact ⟨rfl, b6w⟩
  | false =>
  by_cases hr20 : 20 < rs.length
  · have t20 : (20 : Int) < (rs.length : Int) := by omega
    go_wp2_with fail
    go_ret
    exact ⟨rfl, b6w⟩
  have t20 : decide ((20 : Int) < (rs.length : Int)) = false := by rw [decide_eq_false_iff_not]; omega
  have O3 := Lib.hid (off_new 8)
  have C3 := Lib.hid (cp_new 8)
  have H3 := Lib.hid ((H2.out.guard b24.out).below (b5.trans (b6.mono b5.size)))
  replace RA : Hid (RdC 6 sactC w1 (.slice Aa acts.length ca) acts) := Lib.hid (RA.out.below b1)
  replace HB : Hid (∀ a ∈ acts, SActOk w1 a) := Lib.hid fun a ha => (HB.out a ha).below b1
  replace RC : Hid (RdC 6 sactC w1 (.slice Ab acts2.length cb) acts2) := Lib.hid (RC.out.below b1)
  replace HC : Hid (∀ a ∈ acts2, SActOk w1 a) := Lib.hid fun a ha => (HC.out a ha).below b1
  replace RS : Hid (Rd u8e w1 (.slice Ar rs.length cr) rs) := Lib.hid (RS.out.below b1)
  have hal : acts.length ≤ 120 := by
    unfold sHeavy at hh
    rw [Bool.or_eq_false_iff] at hh
    have := hh.2
    rw [decide_eq_false_iff_not] at this
    omega
  have hal2 : acts2.length ≤ 120 := by
    unfold sHeavy at hh2
    rw [Bool.or_eq_false_iff] at hh2
    have := hh2.2
    rw [decide_eq_false_iff_not] at this
    omega
  have hgW2 : w2.heap.size ≤ gW := Nat.le_of_eq hgW.out.symm
  replace b1 := Lib.hid b1
  replace hh := Lib.hid hh
  replace hh2 := Lib.hid hh2
  have cW4h := Lib.hid cW4
  clear b2 b4 b5 b5w b6 b6w cW4 H2 B4
  go_wp2_with fail
  go_loopw [61] (fun i wr => ∃ (k : Nat) (T : SS) (D : DS), k ≤ acts.length ∧ i = .int .i64 k ∧ Hid (LX ((ofW w1).guard w2 w4) wr q s h m T D) ∧ Hid (OffX T D) ∧ Hid (Cp T D k)) (fun i _ => acts.length - (intOf i).toNat)
  case atStart => exact ⟨0, _, _, by omega, rfl, H3, O3, C3⟩
  case round =>
    clear H3 O3 C3
    obtain ⟨k, T, D, hk, rfl, H1, O1, C1⟩ := hrel
    by_cases hlt : k < acts.length
    · have t0 : (k : Int) < (acts.length : Int) := by omega
      obtain ⟨b, o, rfl, _, hc⟩ := (RA.out.below H1.out.b).at_ hlt
      obtain ⟨x, hx⟩ : ∃ x, acts[k] = x := ⟨_, rfl⟩
      have hok := (HB.out _ (List.getElem_mem hlt))
      rw [hx] at hc hok
      have hbd := hok.bd
      obtain ⟨kind, xa, xb, xk, rv, rl, xx⟩ := x
      have c0 : wr.cell? ⟨b, o + k * 6, none⟩ = some (.int .u8 kind) := hc 0 _ rfl
      have c1 : wr.cell? ⟨b, o + k * 6 + 1, none⟩ = some (.int .u8 xa) := hc 1 _ rfl
      have c2 : wr.cell? ⟨b, o + k * 6 + 2, none⟩ = some (.int .u8 xb) := hc 2 _ rfl
      have c3 : wr.cell? ⟨b, o + k * 6 + 3, none⟩ = some (.int .u8 xk) := hc 3 _ rfl
      have c4 : wr.cell? ⟨b, o + k * 6 + 4, none⟩ = some (slE rv) := hc 4 _ rfl
      have c5 : wr.cell? ⟨b, o + k * 6 + 5, none⟩ = some (.int .i64 xx) := hc 5 _ rfl
      have kd := hbd.kind
      dsimp only at kd
      replace hbd := Lib.hid hbd
      replace hok := Lib.hid hok
      clear hc hx
      go_wp2_with (first
        | (refine wpList_new rfl (.alloc 30) rfl wr.heap.size rfl 30 #[.int .u8 0, .int .u8 0, .int .u8 0, .int .u8 0, .slice none 0 0, .int .i64 0] (by kernel_rfl) ?_; intro w1 hs1 hb1 hB1; have HB1 := Lib.hid hB1; clear hB1)
        | (refine wpList_store_blk rfl 30 (.tmp 10) (.tmp 64) rfl wr.heap.size rfl #[.int .u8 kind, .int .u8 xa, .int .u8 xb, .int .u8 xk, slE rv, .int .i64 xx] rfl 30 #[.int .u8 0, .int .u8 0, .int .u8 0, .int .u8 0, .slice none 0 0, .int .i64 0] HB1.out sact_size rfl (by simp [Value.oneCell']) ?_; intro w7 hB2 hg2 hs2; refine stop_here ?_))
      have hb2 : Below wr.heap.size wr w7 := hb1.grown hg2 hb1.size (fun k hk => by cases hk; exact Nat.le_refl _)
      have H2 := Lib.hid (H1.out.below hb2)
      have v0 : w7.cell? ⟨wr.heap.size, 0, none⟩ = some (.int .u8 kind) := hB2.cell 0
      have cW := cell_keep H2.out hgW2 hgW4 cW4h.out
      obtain ⟨gA, hgA⟩ : ∃ gA, gA = wr.heap.size := ⟨_, rfl⟩
      rw [← hgA] at hB2 v0 ⊢
      replace hgA := Lib.hid hgA
      replace hB2 := Lib.hid hB2
      clear HB1 hg2 hs2 hs1 hb1 hb2 H1 c0 c1 c2 c3 c4 c5
      refine go_on ?_
      by_cases h8 : kind % 8 = 0
      · clear cW
        have C2 := Lib.hid (C1.out.mono (Nat.le_succ k))
        go_wp2_with fail
        go_roundw
        case rel => exact ⟨k + 1, T, D, by omega, by go_num, H2, O1, C2⟩
        case measure => simp [intOf]; omega
      · have HD := Lib.hid (sdoes_offC H2.out O1.out C1.out kind xa xb xk rv xx hbd.out h8)
        go_wp2_with (refine wpList_load_blk rfl 30 (.tmp 10) rfl gA rfl 30 #[.int .u8 kind, .int .u8 xa, .int .u8 xb, .int .u8 xk, slE rv, .int .i64 xx] hB2.out _ Tryz.underlying30 rfl sact_size ?_)
        refine HD.out.mono ?_
        rintro e w8 ⟨bb, T3, D3, rfl, H3, O3, C3⟩
        replace H3 := Lib.hid H3
        replace O3 := Lib.hid O3
        replace C3 := Lib.hid C3
        clear HD H2 O1 hB2 v0 cW C1
        go_wp2_with fail
        go_roundw
        case rel => exact ⟨k + 1, T3, D3, by omega, by go_num, H3, O3, C3⟩
        case measure => simp [intOf]; omega
    · obtain rfl : k = acts.length := by omega
      rename World => wE
      have I := H1.out.inv
      have cw := cell_keep H1.out hgW2 hgW4 cW4h.out
      have hgWE : gW < wE.heap.size := (H1.out.keeps hgW2 hgW4).1
      have c0 := H1.out.cells.1
      have hqE := H1.out.cells.2.1
      replace I := Lib.hid I
      go_wp2_with fail
      refine (lx_heap H1.out).mono ?_
      rintro e _ ⟨rfl, rfl⟩
      go_wp2_with (refine wpList_new rfl (.alloc 33) rfl wE.heap.size rfl 33 #[.pointer none] (by kernel_rfl) ?_; intro w8 hs8 hb8 hB8; refine stop_here ?_)
      obtain ⟨gH, hgH⟩ : ∃ gH, gH = wE.heap.size := ⟨_, rfl⟩
      rw [← hgH] at hB8 ⊢
      have kH : w8.cell? ⟨gH, 0, none⟩ = some (.pointer none) := hB8.cell 0
      have fH := hB8.frozen 0
      have B9 : Blk (w8.setCell ⟨gH, 0, none⟩ (.pointer (some ⟨h, 0, none⟩))) gH 33 #[.pointer (some ⟨h, 0, none⟩)] := hB8.set_ 0 _
      have b9 : Below wE.heap.size wE (w8.setCell ⟨gH, 0, none⟩ (.pointer (some ⟨h, 0, none⟩))) := hb8.setCell (p := ⟨gH, 0, none⟩) (Nat.le_of_eq hgH.symm) _
      have cw9 := (b9.cell (p := ⟨gW, 0, none⟩) hgWE).trans cw
      replace B9 := Lib.hid B9
      replace b9 := Lib.hid b9
      replace hgH := Lib.hid hgH
      clear hB8 hs8 c0
      refine go_on ?_
      go_wp2_with fail
      obtain ⟨w9, hw9⟩ : ∃ w9, w9 = w8.setCell ⟨gH, 0, none⟩ (.pointer (some ⟨h, 0, none⟩)) := ⟨_, rfl⟩
      rw [← hw9] at B9 b9 cw9 ⊢
      replace hw9 := Lib.hid hw9
      clear kH fH hb8
      have cH9 : w9.cell? ⟨gH, 0, none⟩ = some (.pointer (some ⟨h, 0, none⟩)) := B9.out.cell 0
      have hgH9 : gH < w9.heap.size := B9.out.lt
      have H9 := H1.out.below b9.out
      obtain ⟨lp, hlp⟩ : ∃ lp, lp = rs.map (objN T.S) := ⟨_, rfl⟩
      have hlpg : Hid (∀ x ∈ lp, Good T.S x) := Lib.hid fun x hx => by
        rw [hlp, List.mem_map] at hx
        obtain ⟨n, _, rfl⟩ := hx
        exact objN_good I.out.toInv0 n
      have hlpl : lp.length = rs.length := by rw [hlp, List.length_map]
      have hlpb : Hid (∀ x ∈ lp, -9223372036854775808 ≤ x ∧ x ≤ 9223372036854775807) := Lib.hid fun x hx => by have := good_bd I.out.toInv0 (hlpg.out x hx); omega
      refine (lx_roots H9 (.slice Ar rs.length cr) rs (RS.out.below H9.b) (by omega) HS.out).mono ?_
      rintro e w10 ⟨vp, rfl, hown, b10⟩
      have rd10 : Hid (Rd i64e w10 vp lp) := Lib.hid (by
        rw [hlp]
        have := hown
        rw [← List.length_map (f := objN T.S)] at this
        exact Rd.of_own this)
      have hvp : Hid (∀ b, vp.ownBlock = some b → wE.heap.size ≤ b ∧ b < w10.heap.size) := Lib.hid fun b e => by have h1 := hown.lt b e; have := b9.out.size; omega
      have cw10 := (b10.cell (p := ⟨gW, 0, none⟩) (Nat.lt_of_lt_of_le hgWE b9.out.size)).trans cw9
      have cH10 := (b10.cell (p := ⟨gH, 0, none⟩) hgH9).trans cH9
      have bE10 := b9.out.trans (b10.mono b9.out.size)
      replace hlp := Lib.hid hlp
      replace H9 := Lib.hid H9
      clear hown cw9 cH9
      go_wp2_with fail
      refine (lx_reach (H1.out.below bE10) O1.out.clo vp lp rd10.out (by omega) hlpg.out).mono ?_
      rintro e w11 ⟨bm, n0, ks0, rfl, SM11, hn0, hbm0, hks0, b11⟩
      have cw11 := (b11.cell (p := ⟨gW, 0, none⟩) (Nat.lt_of_lt_of_le hgWE bE10.size)).trans cw10
      have cH11 := (b11.cell (p := ⟨gH, 0, none⟩) (Nat.lt_of_lt_of_le hgH9 b10.size)).trans cH10
      have bE11 := bE10.trans (b11.mono bE10.size)
      have hbmE : wE.heap.size ≤ bm := Nat.le_trans bE10.size hbm0
      have rd11 := Lib.hid (rd10.out.below b11)
      replace hvp : Hid (∀ b, vp.ownBlock = some b → wE.heap.size ≤ b ∧ b < w11.heap.size) := Lib.hid fun b e => ⟨(hvp.out b e).1, Nat.lt_of_lt_of_le (hvp.out b e).2 b11.size⟩
      replace SM11 := Lib.hid SM11
      replace hks0 := Lib.hid hks0
      have hWl : gW < w11.heap.size := Nat.lt_of_lt_of_le hgWE bE11.size
      have hHl : gH < w11.heap.size := by have := b10.size; have := b11.size; omega
      clear cw10 cH10 rd10 b10 b11 bE10 hbm0 hgH9
      go_wp2_with (refine wpList_new rfl (.alloc 47) rfl w11.heap.size rfl 47 #[.map none] (by kernel_rfl) ?_; intro w12 hs12 hb12 hB12; refine stop_here ?_)
      obtain ⟨gK, hgK⟩ : ∃ gK, gK = w11.heap.size := ⟨_, rfl⟩
      rw [← hgK] at hB12 ⊢
      have kK : w12.cell? ⟨gK, 0, none⟩ = some (.map none) := hB12.cell 0
      have fK := hB12.frozen 0
      have B13 : Blk (w12.setCell ⟨gK, 0, none⟩ (.map (some bm))) gK 47 #[.map (some bm)] := hB12.set_ 0 _
      have b13 : Below w11.heap.size w11 (w12.setCell ⟨gK, 0, none⟩ (.map (some bm))) := hb12.setCell (p := ⟨gK, 0, none⟩) (Nat.le_of_eq hgK.symm) _
      have cw13 := (b13.cell (p := ⟨gW, 0, none⟩) hWl).trans cw11
      have cH13 := (b13.cell (p := ⟨gH, 0, none⟩) hHl).trans cH11
      replace B13 := Lib.hid B13
      replace b13 := Lib.hid b13
      replace hgK := Lib.hid hgK
      clear hB12 hs12
      refine go_on ?_
      go_wp2_with fail
      obtain ⟨w13, hw13⟩ : ∃ w13, w13 = w12.setCell ⟨gK, 0, none⟩ (.map (some bm)) := ⟨_, rfl⟩
      rw [← hw13] at B13 b13 cw13 cH13 ⊢
      replace hw13 := Lib.hid hw13
      clear kK fK hb12 cw11 cH11
      have bE13 := bE11.trans (b13.out.mono bE11.size)
      have cK13 : w13.cell? ⟨gK, 0, none⟩ = some (.map (some bm)) := B13.out.cell 0
      have hKl : gK < w13.heap.size := B13.out.lt
      have hz1113 := b13.out.size
      refine (lx_all (H1.out.below bE13)).mono ?_
      rintro e w14 ⟨Al, cl, rfl, hrd14, hfr14, b14⟩
      have bE14 := bE13.trans (b14.mono bE13.size)
      have hz14 := b14.size
      have cw14 := (b14.cell (p := ⟨gW, 0, none⟩) (by show gW < w13.heap.size; omega)).trans cw13
      have cH14 := (b14.cell (p := ⟨gH, 0, none⟩) (by show gH < w13.heap.size; omega)).trans cH13
      have cK14 := (b14.cell (p := ⟨gK, 0, none⟩) hKl).trans cK13
      have SM14 := Lib.hid ((SM11.out.kept b13.out).kept b14)
      have rd14 := Lib.hid ((rd11.out.below b13.out).below b14)
      have hfo : Hid (0 < (sAll T.S).length → ∀ b, (Value.slice Al (sAll T.S).length cl).ownBlock = some b → wE.heap.size ≤ b ∧ b < w14.heap.size) := Lib.hid fun hp b e => by
        obtain ⟨b', o', e2, hlt, _⟩ := hrd14.at_ hp
        have h1 := hfr14 b e
        have h2 := bE13.size
        rw [e2] at e
        have h3 : b' = b := by simpa [Value.ownBlock] using e
        omega
      have HG2 := Lib.hid (H1.out.guard bE14)
      have hz1114 : w11.heap.size ≤ w14.heap.size := by omega
      obtain ⟨e0, KS0, eS, ep, ec⟩ := ks_begin I.out O1.out lp hlpg.out hks0.out
      have HBg := lx_beginG HG2.out vp lp rd14.out (by omega) hlpb.out (fun b e => ⟨(hvp.out b e).1, Nat.lt_of_lt_of_le (hvp.out b e).2 hz1114⟩)
      rw [e0] at HBg
      have hnb := C1.out.nb
      obtain ⟨T1, hT1⟩ : ∃ T1, T1 = (qBegin T lp).1 := ⟨_, rfl⟩
      rw [← hT1] at HBg KS0 eS ep ec
      replace HBg := Lib.hid HBg
      replace KS0 := Lib.hid KS0
      replace hrd14 := Lib.hid hrd14
      replace eS := Lib.hid eS
      replace ep := Lib.hid ep
      replace ec := Lib.hid ec
      replace hT1 := Lib.hid hT1
      replace hnb := Lib.hid hnb
      have c014 := HG2.out.cells.1
      clear cw13 cH13 cK13 b14 hfr14 rd11 SM11 e0
      go_wp2_with fail
      refine HBg.out.mono ?_
      rintro e w15 ⟨rfl, H15⟩
      have hqW : (((ofW w1).guard w2 w4).guard wE w14).Q gW := .inl (.inr ⟨hgW2, hgW4⟩)
      have hqH : (((ofW w1).guard w2 w4).guard wE w14).Q gH := .inr ⟨Nat.le_of_eq hgH.out.symm, by omega⟩
      have hqK : (((ofW w1).guard w2 w4).guard wE w14).Q gK := .inr ⟨by have := bE11.size; have := hgK.out; omega, by omega⟩
      have hqM : (((ofW w1).guard w2 w4).guard wE w14).Q bm := .inr ⟨hbmE, SM14.out.lt⟩
      have cw15 := (World.cell?_of_block (LX.qkeep HG2.out H15 hqW)).trans cw14
      have cH15 := (World.cell?_of_block (LX.qkeep HG2.out H15 hqH)).trans cH14
      have cK15 := (World.cell?_of_block (LX.qkeep HG2.out H15 hqK)).trans cK14
      have SM15 := Lib.hid (SM14.out.of_block (LX.qkeep HG2.out H15 hqM))
      obtain ⟨old, hold⟩ : ∃ old, old = sAll T.S := ⟨_, rfl⟩
      rw [← hold] at hrd14 hfo ⊢
      have rdo15 := Lib.hid (hrd14.out.same (w' := w15) fun hp b e _ => LX.qkeep HG2.out H15 (.inr (hfo.out hp b e)))
      have l15 : gW < w15.heap.size ∧ gH < w15.heap.size ∧ gK < w15.heap.size := ⟨(H15.fen.kept gW hqW).1, (H15.fen.kept gH hqH).1, (H15.fen.kept gK hqK).1⟩
      have HPh : Calls Tryz.prog 20 #[.pointer (some ⟨s, 0, none⟩)] w15 fun e w' => e = .returned (.tuple #[.int .i64 1, .int .i64 0]) ∧ Below w15.heap.size w15 w' := by
        obtain ⟨v0, L⟩ := H15.ls
        rw [← ep.out, ← ec.out]
        exact ls_phase L
      have c015 := H15.cells.1
      replace HPh := Lib.hid HPh
      have H15h := Lib.hid H15
      replace hold := Lib.hid hold
      clear HBg H15 cw14 cH14 cK14 SM14 hrd14 rd14 c014
      go_wp2_with fail
      refine HPh.out.mono ?_
      rintro e w16 ⟨rfl, b16⟩
      clear HPh
      go_wp2_with (refine wpList_new rfl (.alloc 3) rfl w16.heap.size rfl 3 #[.int .i64 0] (by kernel_rfl) ?_; intro w17 hs17 hb17 hB17; refine stop_here ?_)
      obtain ⟨gC, hgC⟩ : ∃ gC, gC = w16.heap.size := ⟨_, rfl⟩
      rw [← hgC] at hB17 ⊢
      have kC : w17.cell? ⟨gC, 0, none⟩ = some (.int .i64 0) := hB17.cell 0
      have fC := hB17.frozen 0
      have B18 : Blk (w17.setCell ⟨gC, 0, none⟩ (.int .i64 0)) gC 3 #[.int .i64 0] := hB17.set_ 0 _
      have b18 : Below w16.heap.size w16 (w17.setCell ⟨gC, 0, none⟩ (.int .i64 0)) := hb17.setCell (p := ⟨gC, 0, none⟩) (Nat.le_of_eq hgC.symm) _
      have b1518 := b16.trans (b18.mono b16.size)
      have hz16 := b16.size
      have H18 := H15h.out.guard b1518
      obtain ⟨Qp, hQp⟩ : ∃ Qp : Nat → Prop, Qp = ((((ofW w1).guard w2 w4).guard wE w14).guard w15 (w17.setCell ⟨gC, 0, none⟩ (.int .i64 0))).Q := ⟨_, rfl⟩
      replace H18 : LX ⟨w1, Qp, w17.setCell ⟨gC, 0, none⟩ (.int .i64 0)⟩ (w17.setCell ⟨gC, 0, none⟩ (.int .i64 0)) q s h m T1 D := by rw [hQp]; exact H18
      have KB18 : KB Qp (w17.setCell ⟨gC, 0, none⟩ (.int .i64 0)) gW gH gK gC bm n0 q h ks0 old (.slice Al old.length cl) := by
        have hz := b1518.size
        refine ⟨(b1518.cell (p := ⟨gW, 0, none⟩) l15.1).trans cw15, (b1518.cell (p := ⟨gH, 0, none⟩) l15.2.1).trans cH15, (b1518.cell (p := ⟨gK, 0, none⟩) l15.2.2).trans cK15, B18.cell 0, SM15.out.kept b1518, rdo15.out.below b1518, ?_, fun hp b e => ?_, by omega, by omega, by omega, B18.lt⟩
        · rw [hQp]
          exact ⟨.inl hqW, .inl hqH, .inl hqK, .inr ⟨by omega, B18.lt⟩, .inl hqM⟩
        · rw [hQp]
          exact .inl (.inr (hfo.out hp b e))
      have hbmB : Hid (Qp bm ∧ w1.heap.size ≤ bm) := Lib.hid ⟨by rw [hQp]; exact .inl hqM, Nat.le_trans H1.out.b.size hbmE⟩
      have hS0g : Hid (∀ x ∈ lp, Good T.S x) := hlpg
      obtain ⟨S0, hS0⟩ : ∃ S0, S0 = T.S := ⟨_, rfl⟩
      have I0 : Inv0 S0 := by rw [hS0]; exact I.out.toInv0
      have CL0 : Clo S0 := by rw [hS0]; exact O1.out.clo
      have hKS : KSt S0 lp T1 ks0 := by rw [hS0]; exact KS0.out
      have hcn : T1.S.objs.length ≤ 120 + 0 := by rw [eS.out]; have := hnb.out; omega
      have hold0 : Hid (∀ x ∈ old, mIs S0 x = true) := Lib.hid fun x hx => by rw [hold.out] at hx; rw [hS0]; exact (mis_all I.out.toInv0 x).2 hx
      have hol9 : old.length ≤ 4096 := by rw [hold.out, all_len]; exact I.out.toInv0.objs_len
      have hl0 : Hid (∀ x ∈ lp, Good S0 x) := Lib.hid (by rw [hS0]; exact hS0g.out)
      replace I0 := Lib.hid I0
      replace CL0 := Lib.hid CL0
      replace hKS := Lib.hid hKS
      replace hcn := Lib.hid hcn
      replace hQp := Lib.hid hQp
      replace H18 := Lib.hid H18
      replace KB18 := Lib.hid KB18
      replace hgC := Lib.hid hgC
      replace hS0 := Lib.hid hS0
      replace b1518 := Lib.hid b1518
      replace l15 := Lib.hid l15
      clear hB17 hs17 B18 b18 cw15 cH15 cK15 SM15 rdo15 b16 H15h KS0 hqW hqH hqK hqM B9 B13 HG2 hlpg hS0g
      refine go_on ?_
      go_wp2_with fail
      obtain ⟨w18, hw18⟩ : ∃ w18, w18 = w17.setCell ⟨gC, 0, none⟩ (.int .i64 0) := ⟨_, rfl⟩
      rw [← hw18] at H18 KB18 ⊢
      replace hw18 := Lib.hid hw18
      clear kC fC hb17 c015 b1518 l15 cw
      go_loopw [105] (fun i wr => ∃ (k : Nat) (Ti : SS) (ks : List Int) (n : Nat) (wv : World), k ≤ acts2.length ∧ i = .int .i64 k ∧ n ≤ 4096 + k ∧ Hid (LX ⟨w1, Qp, wv⟩ wr q s h m Ti D) ∧ Hid (KSt S0 lp Ti ks) ∧ Hid (KB Qp wr gW gH gK gC bm n q h ks old (.slice Al old.length cl)) ∧ Hid (Ti.S.objs.length ≤ 120 + k)) (fun i _ => acts2.length - (intOf i).toNat)
      case atStart => exact ⟨0, T1, ks0, n0, w18, by omega, rfl, by omega, H18, hKS, KB18, hcn⟩
      case round =>
        clear H18 hKS KB18 hcn hk hlt
        obtain ⟨k, Ti, ks, n, wv, hk2, rfl, hn, Hi, KSi, KBi, hci⟩ := hrel
        have hci9 : Hid (Ti.S.objs.length ≤ 240) := Lib.hid (by have := hci.out; omega)
        by_cases hlt2 : k < acts2.length
        · have t02 : (k : Int) < (acts2.length : Int) := by omega
          obtain ⟨b, o, rfl, _, hc⟩ := (RC.out.below Hi.out.b).at_ hlt2
          obtain ⟨x, hx⟩ : ∃ x, acts2[k] = x := ⟨_, rfl⟩
          have hok := (HC.out _ (List.getElem_mem hlt2))
          rw [hx] at hc hok
          have hbd := hok.bd
          obtain ⟨kind, xa, xb, xk, rv, rl, xx⟩ := x
          have c0 : wr.cell? ⟨b, o + k * 6, none⟩ = some (.int .u8 kind) := hc 0 _ rfl
          have c1 : wr.cell? ⟨b, o + k * 6 + 1, none⟩ = some (.int .u8 xa) := hc 1 _ rfl
          have c2 : wr.cell? ⟨b, o + k * 6 + 2, none⟩ = some (.int .u8 xb) := hc 2 _ rfl
          have c3 : wr.cell? ⟨b, o + k * 6 + 3, none⟩ = some (.int .u8 xk) := hc 3 _ rfl
          have c4 : wr.cell? ⟨b, o + k * 6 + 4, none⟩ = some (slE rv) := hc 4 _ rfl
          have c5 : wr.cell? ⟨b, o + k * 6 + 5, none⟩ = some (.int .i64 xx) := hc 5 _ rfl
          have kd := hbd.kind
          dsimp only at kd hbd
          replace hbd := Lib.hid hbd
          replace hok := Lib.hid hok
          clear hc hx
          go_wp2_with (first
            | (refine wpList_new rfl (.alloc 30) rfl wr.heap.size rfl 30 #[.int .u8 0, .int .u8 0, .int .u8 0, .int .u8 0, .slice none 0 0, .int .i64 0] (by kernel_rfl) ?_; intro w19 hs19 hb19 hB19; have HB19 := Lib.hid hB19; clear hB19)
            | (refine wpList_store_blk rfl 30 (.tmp 20) (.tmp 108) rfl wr.heap.size rfl #[.int .u8 kind, .int .u8 xa, .int .u8 xb, .int .u8 xk, slE rv, .int .i64 xx] rfl 30 #[.int .u8 0, .int .u8 0, .int .u8 0, .int .u8 0, .slice none 0 0, .int .i64 0] HB19.out sact_size rfl (by simp [Value.oneCell']) ?_; intro w20 hB20 hg20 hs20; refine stop_here ?_))
          have hb20 : Below wr.heap.size wr w20 := hb19.grown hg20 hb19.size (fun k hk => by cases hk; exact Nat.le_refl _)
          obtain ⟨gA, hgA⟩ : ∃ gA, gA = wr.heap.size := ⟨_, rfl⟩
          rw [← hgA] at hB20 ⊢
          have H20 := Hi.out.below hb20
          have KB20 := KBi.out.below hb20
          have HEn := Lib.hid (ended_ok H20 KB20.cW KB20.cC KB20.lt.1 KB20.lt.2.2.2 KSi.out.ended)
          replace hgA := Lib.hid hgA
          replace hB20 := Lib.hid hB20
          replace hb20 := Lib.hid hb20
          replace H20 := Lib.hid H20
          replace KB20 := Lib.hid KB20
          clear HB19 hg20 hs20 hs19 hb19 KBi c0 c1 c2 c3 c4 c5
          refine go_on ?_
          go_wp2_with fail
          refine HEn.out.mono ?_
          rintro e w21 ⟨rfl, b21⟩
          have H21 := Lib.hid (H20.out.below b21)
          have KB21 := Lib.hid (KB20.out.below b21)
          have B21 := Lib.hid (hB20.out.below b21 hB20.out.lt)
          have br21 := Lib.hid (hb20.out.trans (b21.mono hb20.out.size))
          have e0v : w21.cell? ⟨gA, 0, none⟩ = some (.int .u8 kind) := B21.out.cell 0
          clear HEn H20 KB20 hB20 hb20 b21
          by_cases hp0 : Ti.ph = 0
          · rw [decide_eq_true hp0]
            replace hp0 := Lib.hid hp0
            clear e0v B21 br21 Hi
            have hcyc : Hid (Ti.ph ≠ 0 → (∃ r, Cyc Ti r ∧ r + 0 ≤ 490) ∧ (Ti.ph = 1 → Ti.left = [])) := Lib.hid fun hp => by
              obtain ⟨⟨r, c1, c2⟩, c3⟩ := KSi.out.cyc H21.out.inv.toInv0 (LX.gi H21.out) hp (c := 240) (by have := hci9.out; omega)
              exact ⟨⟨r, c1, by omega⟩, c3⟩
            go_wp2_with fail
            go_loopw [28] (fun i wz => ∃ (j : Nat) (Tj : SS), j ≤ 490 ∧ i = .int .i64 j ∧ Hid (LX ⟨w1, Qp, wv⟩ wz q s h m Tj D) ∧ Hid (KSt S0 lp Tj ks) ∧ Hid (KB Qp wz gW gH gK gC bm n q h ks old (.slice Al old.length cl)) ∧ Hid (Tj.ph ≠ 0 → (∃ r, Cyc Tj r ∧ r + j ≤ 490) ∧ (Tj.ph = 1 → Tj.left = []))) (fun i _ => 600 - (intOf i).toNat)
            case atStart => exact ⟨0, Ti, by omega, rfl, H21, KSi, KB21, hcyc⟩
            case round =>
              clear H21 KSi KB21 hcyc
              obtain ⟨j, Tj, hj, rfl, Hj, KSj, KBj, hcj⟩ := hrel
              have HEn := Lib.hid (ended_ok Hj.out KBj.out.cW KBj.out.cC KBj.out.lt.1 KBj.out.lt.2.2.2 KSj.out.ended)
              go_wp2_with fail
              refine HEn.out.mono ?_
              rintro e w31 ⟨rfl, b31⟩
              have H31 := Lib.hid (Hj.out.below b31)
              have KB31 := Lib.hid (KBj.out.below b31)
              clear HEn Hj KBj b31
              by_cases hp0 : Tj.ph = 0
              · rw [decide_eq_true hp0]
                have hof : Hid (KOff S0 Tj ks) := Lib.hid (by
                  cases KSj.out with
                  | mark h => have := h.ph; omega
                  | sweep h => have := h.ph; omega
                  | off h => exact h)
                replace hp0 := Lib.hid hp0
                clear hcj
                have cKr := KB31.out.cK
                have SMr := KB31.out.set
                go_wp2_with (at_range; refine wpList_setm_range rfl (.tmp 197) rfl SMr rfl ?_; intro wR cnt hR hbR hsR)
                (try go_frame)
                obtain ⟨rI, hrI⟩ : ∃ rI, rI = w31.heap.size := ⟨_, rfl⟩
                rw [← hrI] at hR ⊢
                have hRh := Lib.hid hR
                replace hrI := Lib.hid hrI
                replace hbR := Lib.hid hbR
                clear hR hsR cKr SMr
                go_loopw [] (fun wq => ∃ ct, Hid (SetR wq bm rI n ks ct) ∧ Hid (Below w31.heap.size w31 wq)) (fun wq => wq.rangeLeft bm rI)
                case atStart => exact ⟨cnt, hRh, hbR⟩
                case round =>
                  clear hRh hbR
                  obtain ⟨ct, hRq, hbq⟩ := hrel
                  go_wp2_with (at_next; refine wpList_setm_next rfl (.tmp 198) rfl hRq.out rfl (stop_here ?_) ?_)
                  · refine go_on ?_
                    clear hRq
                    go_wp2_with fail
                    go_loopw [214] (fun i wz => ∃ j6 : Nat, j6 ≤ old.length ∧ i = .int .i64 j6 ∧ Hid (Below w31.heap.size w31 wz)) (fun i _ => old.length - (intOf i).toNat)
                    case atStart => exact ⟨0, by omega, rfl, hbq⟩
                    case round =>
                      clear hbq
                      obtain ⟨j6, hj6, rfl, hb6⟩ := hrel
                      have KB6 := KB31.out.below hb6.out
                      have H6 := H31.out.below hb6.out
                      by_cases hlt6 : j6 < old.length
                      · have t6 : (j6 : Int) < (old.length : Int) := by omega
                        obtain ⟨bo, oo, rfl, _, hc6⟩ := KB6.rdo.at_ hlt6
                        obtain ⟨x, hx⟩ : ∃ x, x = old[j6] := ⟨_, rfl⟩
                        have hx0 := hold0.out x (by rw [hx]; exact List.getElem_mem hlt6)
                        have hxb := mis_pos I0.out hx0
                        have hod := hof.out.od x hx0
                        rw [← hx] at hc6
                        replace hc6 : wr.cell? ⟨bo, oo + j6, none⟩ = some (.int .i64 x) := hc6
                        have HSz := lx_sizeB H6 x (by omega)
                        obtain ⟨⟨n9, mk9, is9⟩, hs9⟩ : ∃ r, sSize Tj.S x = r := ⟨_, rfl⟩
                        have hi9 : is9 = true → x ∈ ks := fun e => by
                          refine hod.resolve_right fun h => ?_
                          have h2 : (sSize Tj.S x).2.2 = false := h
                          rw [hs9] at h2
                          rw [e] at h2
                          cases h2
                        rw [hs9] at HSz
                        dsimp only at HSz
                        have cH6 := KB6.cH
                        have hwx := wf_i64 (x := x) (by omega)
                        replace HSz := Lib.hid HSz
                        replace KB6 := Lib.hid KB6
                        replace hs9 := Lib.hid hs9
                        replace hx := Lib.hid hx
                        replace hx0 := Lib.hid hx0
                        replace hxb := Lib.hid hxb
                        replace hod := Lib.hid hod
                        clear H6
                        rcases is9 with _ | _
                        · replace hi9 := Lib.hid hi9
                          go_wp2_with fail
                          refine HSz.out.mono ?_
                          rintro e w61 ⟨rfl, b61⟩
                          have hb61 := Lib.hid (hb6.out.trans (b61.mono hb6.out.size))
                          clear HSz hb6 b61 KB6 cH6 hc6
                          go_wp2_with fail
                          go_roundw
                          case rel => exact ⟨j6 + 1, by omega, by go_num, hb61⟩
                          case measure => simp [intOf]; omega
                        · have hxk := hi9 rfl
                          clear hi9
                          go_wp2_with fail
                          refine HSz.out.mono ?_
                          rintro e w61 ⟨rfl, b61⟩
                          have hb61 := Lib.hid (hb6.out.trans (b61.mono hb6.out.size))
                          have cK61 := (KB6.out.below b61).cK
                          have hlk := (KB6.out.below b61).set.look x hwx
                          rw [decide_eq_true hxk] at hlk
                          replace hxk := Lib.hid hxk
                          clear HSz hb6 b61 KB6 cH6 hc6
                          go_wp2_with fail
                          go_roundw
                          case rel => exact ⟨j6 + 1, by omega, by go_num, hb61⟩
                          case measure => simp [intOf]; omega
                      · obtain rfl : j6 = old.length := by omega
                        have bfin := Lib.hid (b1.out.trans (Below.mono H6.b b1.out.size))
                        clear KB6 H6 hb6
                        go_wp2_with fail
                        go_ret
                        exact ⟨rfl, bfin.out⟩
                  · intro x c w73 cnt73 hx hwx hR73 hlt73 hg73 hs73 hen
                    have hb73 : Below w31.heap.size w31 w73 := hbq.out.grown hg73 hbq.out.size (fun j e => by cases e; exact Nat.le_of_eq hrI.out.symm)
                    have hlf : Hid (cnt73 < wr.rangeLeft bm rI) := Lib.hid (by rw [hRq.out.left]; exact hlt73)
                    have hxm := KSj.out.ke x hx
                    have hxb := mis_pos H31.out.inv.toInv0 hxm
                    have HSz := lx_sizeB (H31.out.below hb73) x (by omega)
                    obtain ⟨⟨n9, mk9, is9⟩, hs9⟩ : ∃ r, sSize Tj.S x = r := ⟨_, rfl⟩
                    have hi9 : is9 = true := by
                      have : (sSize Tj.S x).2.2 = true := hxm
                      rw [hs9] at this
                      exact this
                    subst hi9
                    rw [hs9] at HSz
                    dsimp only at HSz
                    have cH73 := (KB31.out.below hb73).cH
                    have hb73h := Lib.hid hb73
                    replace HSz := Lib.hid HSz
                    replace hR73 := Lib.hid hR73
                    replace hs9 := Lib.hid hs9
                    replace hxm := Lib.hid hxm
                    replace hxb := Lib.hid hxb
                    clear hx hwx hlt73 hg73 hs73 hRq hbq hb73
                    go_wp2_with fail
                    refine HSz.out.mono ?_
                    rintro e w76 ⟨rfl, b76⟩
                    have hR76 := Lib.hid (hR73.out.kept b76)
                    have hb76 := Lib.hid (hb73h.out.trans (b76.mono hb73h.out.size))
                    have hlf76 : Hid (w76.rangeLeft bm rI < wr.rangeLeft bm rI) := Lib.hid (by rw [hR76.out.left]; exact hlf.out)
                    clear HSz b76 hR73 hb73h cH73 hen
                    go_wp2_with fail
                    go_roundw
                    case rel => exact ⟨cnt73, hR76, hb76⟩
                    case measure => exact hlf76.out
              · rw [decide_eq_false hp0]
                obtain ⟨⟨r, hcc, hr⟩, hlf⟩ := hcj.out hp0
                have hr1 : 1 ≤ r := by cases hcc <;> omega
                have hst := cyc_step H31.out.inv hcc hlf 9 (by omega)
                have hks := ks_step H31.out.inv KSj.out hp0 I0.out CL0.out hl0.out 9 (by omega)
                have HSt := lx_step H31.out (KSj.out.sok H31.out.inv.toInv0 hp0) 9 (by omega)
                rw [hst.1, if_pos rfl] at HSt
                obtain ⟨T3, hT3⟩ : ∃ T3, T3 = (qStep Tj 9).1 := ⟨_, rfl⟩
                rw [← hT3] at HSt hst hks
                have KS3 := Lib.hid hks.2.1
                have hc3 : Hid (T3.ph ≠ 0 → (∃ r, Cyc T3 r ∧ r + (j + 1) ≤ 490) ∧ (T3.ph = 1 → T3.left = [])) := Lib.hid fun hp => by
                  rcases hst.2 with h | ⟨k', h1, h2, h3, _⟩
                  · exact absurd h.1 hp
                  · exact ⟨⟨k', h1, by omega⟩, h3⟩
                obtain ⟨p3, hp3⟩ : ∃ p3, p3 = T3.ph := ⟨_, rfl⟩
                rw [← hp3] at HSt
                have tj : decide ((500 : Int) < (j : Int)) = false := by rw [decide_eq_false_iff_not]; omega
                have hj9 : j + 1 ≤ 490 := by omega
                have cw31 := KB31.out.cW
                have c031 := H31.out.cells.1
                replace HSt := Lib.hid HSt
                replace hT3 := Lib.hid hT3
                replace hp3 := Lib.hid hp3
                replace hp0 := Lib.hid hp0
                clear hst hks hcc hlf hcj KSj
                go_wp2_with fail
                refine HSt.out.mono ?_
                rintro e w32 ⟨rfl, H32⟩
                have KB32 := Lib.hid (KB31.out.next fun j hj => LX.qkeep H31.out H32 hj)
                replace H32 := Lib.hid H32
                clear HSt H31 KB31 cw31 c031
                go_wp2_with fail
                go_roundw
                case rel => exact ⟨j + 1, T3, hj9, by go_num, H32, KS3, KB32, hc3⟩
                case measure => simp [intOf]; omega
          · rw [decide_eq_false hp0]
            obtain ⟨z, hz⟩ : ∃ z, kind % 8 = z := ⟨_, rfl⟩
            by_cases h1 : z = 1
            · subst h1
              have HAl := lx_alloc H21.out
              have hka := ks_alloc H21.out.inv KSi.out hp0
              obtain ⟨⟨T2, p, er⟩, hq2⟩ : ∃ r, qAlloc Ti 2 3 0 = r := ⟨_, rfl⟩
              rw [hq2] at HAl hka
              dsimp only at HAl hka
              obtain ⟨hal9, hlen9, -⟩ := hka
              have hc2 : Hid (T2.S.objs.length ≤ 120 + (k + 1)) := Lib.hid (by have := hci.out; omega)
              have cw21 := KB21.out.cW
              have c021 := H21.out.cells.1
              replace HAl := Lib.hid HAl
              replace hq2 := Lib.hid hq2
              replace hp0 := Lib.hid hp0
              clear hlen9
              go_wp2_with fail
              refine HAl.out.mono ?_
              rintro e w22 ⟨rfl, H22⟩
              have KB22 := Lib.hid (KB21.out.next fun j hj => LX.qkeep H21.out H22 hj)
              replace H22 := Lib.hid H22
              clear HAl H21 KB21 cw21 c021 KSi e0v
              rcases hal9 with ⟨h0, KS2⟩ | ⟨h0, KS2, hpb⟩
              · have z0 : (er == 0) = false := beq_eq_false_iff_ne.2 h0
                replace KS2 := Lib.hid KS2
                have cKr := KB22.out.cK
                have SMr := KB22.out.set
                go_wp2_with (at_range; refine wpList_setm_range rfl (.tmp 162) rfl SMr rfl ?_; intro wR cnt hR hbR hsR)
                (try go_frame)
                obtain ⟨rI, hrI⟩ : ∃ rI, rI = w22.heap.size := ⟨_, rfl⟩
                rw [← hrI] at hR ⊢
                have hRh := Lib.hid hR
                replace hrI := Lib.hid hrI
                replace hbR := Lib.hid hbR
                clear hR hsR cKr SMr
                go_loopw [] (fun wq => ∃ ct, Hid (SetR wq bm rI n ks ct) ∧ Hid (Below w22.heap.size w22 wq)) (fun wq => wq.rangeLeft bm rI)
                case atStart => exact ⟨cnt, hRh, hbR⟩
                case round =>
                  clear hRh hbR
                  obtain ⟨ct, hRq, hbq⟩ := hrel
                  go_wp2_with (at_next; refine wpList_setm_next rfl (.tmp 163) rfl hRq.out rfl (stop_here ?_) ?_)
                  · refine go_on ?_
                    clear hRq
                    have HF := Lib.hid (H22.out.below hbq.out)
                    have KF := Lib.hid (KB22.out.below hbq.out)
                    clear hbq
                    go_wp2_with fail
                    go_roundw
                    case rel => exact ⟨k + 1, T2, ks, n, wv, by omega, by go_num, by omega, HF, KS2, KF, hc2⟩
                    case measure => simp [intOf]; omega
                  · intro x c w73 cnt73 hx hwx hR73 hlt73 hg73 hs73 hen
                    have hb73 : Below w22.heap.size w22 w73 := hbq.out.grown hg73 hbq.out.size (fun j e => by cases e; exact Nat.le_of_eq hrI.out.symm)
                    have hlf : Hid (cnt73 < wr.rangeLeft bm rI) := Lib.hid (by rw [hRq.out.left]; exact hlt73)
                    have hxm := KS2.out.ke x hx
                    have hxb := mis_pos H22.out.inv.toInv0 hxm
                    have HSz := lx_sizeB (H22.out.below hb73) x (by omega)
                    obtain ⟨⟨n9, mk9, is9⟩, hs9⟩ : ∃ r, sSize T2.S x = r := ⟨_, rfl⟩
                    have hi9 : is9 = true := by
                      have : (sSize T2.S x).2.2 = true := hxm
                      rw [hs9] at this
                      exact this
                    subst hi9
                    rw [hs9] at HSz
                    dsimp only at HSz
                    have cH73 := (KB22.out.below hb73).cH
                    have hb73h := Lib.hid hb73
                    replace HSz := Lib.hid HSz
                    replace hR73 := Lib.hid hR73
                    replace hs9 := Lib.hid hs9
                    replace hxm := Lib.hid hxm
                    replace hxb := Lib.hid hxb
                    clear hx hwx hlt73 hg73 hs73 hRq hbq hb73
                    go_wp2_with fail
                    refine HSz.out.mono ?_
                    rintro e w76 ⟨rfl, b76⟩
                    have hR76 := Lib.hid (hR73.out.kept b76)
                    have hb76 := Lib.hid (hb73h.out.trans (b76.mono hb73h.out.size))
                    have hlf76 : Hid (w76.rangeLeft bm rI < wr.rangeLeft bm rI) := Lib.hid (by rw [hR76.out.left]; exact hlf.out)
                    clear HSz b76 hR73 hb73h cH73 hen
                    go_wp2_with fail
                    go_roundw
                    case rel => exact ⟨cnt73, hR76, hb76⟩
                    case measure => exact hlf76.out
              · subst h0
                replace KS2 := Lib.hid KS2
                have cK22 := KB22.out.cK
                have SM22 := KB22.out.set
                have hwp := wf_i64 (x := p) (by omega)
                go_wp2_with (refine wpList_setm_put rfl (.tmp 133) (.tmp 134) (.const (.bool true)) rfl SM22 rfl (by unfold maxLen; omega) p rfl rfl hwp ?_; intro w23 hS23 hg23; refine stop_here ?_)
                have KB23 := Lib.hid (KB22.out.put hg23 hS23)
                have H23 := Lib.hid (LX.reref H22.out hbmB.out.1 hbmB.out.2 hTb.out hg23 hg23.size)
                clear hS23 hg23 cK22 SM22 H22 KB22
                refine go_on ?_
                have cKr := KB23.out.cK
                have SMr := KB23.out.set
                go_wp2_with (at_range; refine wpList_setm_range rfl (.tmp 162) rfl SMr rfl ?_; intro wR cnt hR hbR hsR)
                (try go_frame)
                obtain ⟨rI, hrI⟩ : ∃ rI, rI = w23.heap.size := ⟨_, rfl⟩
                rw [← hrI] at hR ⊢
                have hRh := Lib.hid hR
                replace hrI := Lib.hid hrI
                replace hbR := Lib.hid hbR
                clear hR hsR cKr SMr
                go_loopw [] (fun wq => ∃ ct, Hid (SetR wq bm rI (n + 1) (addK ks p) ct) ∧ Hid (Below w23.heap.size w23 wq)) (fun wq => wq.rangeLeft bm rI)
                case atStart => exact ⟨cnt, hRh, hbR⟩
                case round =>
                  clear hRh hbR
                  obtain ⟨ct, hRq, hbq⟩ := hrel
                  go_wp2_with (at_next; refine wpList_setm_next rfl (.tmp 163) rfl hRq.out rfl (stop_here ?_) ?_)
                  · refine go_on ?_
                    clear hRq
                    have HF := Lib.hid (H23.out.below hbq.out)
                    have KF := Lib.hid (KB23.out.below hbq.out)
                    clear hbq
                    go_wp2_with fail
                    go_roundw
                    case rel => exact ⟨k + 1, T2, (addK ks p), (n + 1), w23, by omega, by go_num, by omega, HF, KS2, KF, hc2⟩
                    case measure => simp [intOf]; omega
                  · intro x c w73 cnt73 hx hwx hR73 hlt73 hg73 hs73 hen
                    have hb73 : Below w23.heap.size w23 w73 := hbq.out.grown hg73 hbq.out.size (fun j e => by cases e; exact Nat.le_of_eq hrI.out.symm)
                    have hlf : Hid (cnt73 < wr.rangeLeft bm rI) := Lib.hid (by rw [hRq.out.left]; exact hlt73)
                    have hxm := KS2.out.ke x hx
                    have hxb := mis_pos H23.out.inv.toInv0 hxm
                    have HSz := lx_sizeB (H23.out.below hb73) x (by omega)
                    obtain ⟨⟨n9, mk9, is9⟩, hs9⟩ : ∃ r, sSize T2.S x = r := ⟨_, rfl⟩
                    have hi9 : is9 = true := by
                      have : (sSize T2.S x).2.2 = true := hxm
                      rw [hs9] at this
                      exact this
                    subst hi9
                    rw [hs9] at HSz
                    dsimp only at HSz
                    have cH73 := (KB23.out.below hb73).cH
                    have hb73h := Lib.hid hb73
                    replace HSz := Lib.hid HSz
                    replace hR73 := Lib.hid hR73
                    replace hs9 := Lib.hid hs9
                    replace hxm := Lib.hid hxm
                    replace hxb := Lib.hid hxb
                    clear hx hwx hlt73 hg73 hs73 hRq hbq hb73
                    go_wp2_with fail
                    refine HSz.out.mono ?_
                    rintro e w76 ⟨rfl, b76⟩
                    have hR76 := Lib.hid (hR73.out.kept b76)
                    have hb76 := Lib.hid (hb73h.out.trans (b76.mono hb73h.out.size))
                    have hlf76 : Hid (w76.rangeLeft bm rI < wr.rangeLeft bm rI) := Lib.hid (by rw [hR76.out.left]; exact hlf.out)
                    clear HSz b76 hR73 hb73h cH73 hen
                    go_wp2_with fail
                    go_roundw
                    case rel => exact ⟨cnt73, hR76, hb76⟩
                    case measure => exact hlf76.out
            by_cases h4 : z = 4
            · subst h4
              have HU := Lib.hid (use_ok H21.out KB21.out.cH KB21.out.cK KB21.out.lt.2.2.1 KB21.out.set xa hbd.out.a)
              have e1v : w21.cell? ⟨gA, 1, none⟩ = some (.int .u8 xa) := B21.out.cell 1
              go_wp2_with fail
              refine HU.out.mono ?_
              rintro e w22 ⟨⟨a, rfl, ha⟩, b22⟩
              have H22 := Lib.hid (H21.out.below b22)
              have KB22 := Lib.hid (KB21.out.below b22)
              have B22 := Lib.hid (B21.out.below b22 B21.out.lt)
              have br22 := Lib.hid (br21.out.trans (b22.mono br21.out.size))
              have hc2 : Hid (Ti.S.objs.length ≤ 120 + (k + 1)) := Lib.hid (by have := hci.out; omega)
              clear HU e0v e1v H21 KB21 B21 br21 b22
              rcases ha with rfl | ha
              · replace hp0 := Lib.hid hp0
                go_wp2_with fail
                go_quiet (fail)
                have H23 := Lib.hid (H22.out.below (below_drewN (Below.refl _ _) nq))
                have KB23 := Lib.hid (KB22.out.below (below_drewN (Below.refl _ _) nq))
                obtain ⟨w23, hw23⟩ : ∃ w23, w23 = w22.drewN nq := ⟨_, rfl⟩
                rw [← hw23] at H23 KB23 ⊢
                replace hw23 := Lib.hid hw23
                clear H22 KB22 B22 br22
                have cKr := KB23.out.cK
                have SMr := KB23.out.set
                go_wp2_with (at_range; refine wpList_setm_range rfl (.tmp 162) rfl SMr rfl ?_; intro wR cnt hR hbR hsR)
                (try go_frame)
                obtain ⟨rI, hrI⟩ : ∃ rI, rI = w23.heap.size := ⟨_, rfl⟩
                rw [← hrI] at hR ⊢
                have hRh := Lib.hid hR
                replace hrI := Lib.hid hrI
                replace hbR := Lib.hid hbR
                clear hR hsR cKr SMr
                go_loopw [] (fun wq => ∃ ct, Hid (SetR wq bm rI n ks ct) ∧ Hid (Below w23.heap.size w23 wq)) (fun wq => wq.rangeLeft bm rI)
                case atStart => exact ⟨cnt, hRh, hbR⟩
                case round =>
                  clear hRh hbR
                  obtain ⟨ct, hRq, hbq⟩ := hrel
                  go_wp2_with (at_next; refine wpList_setm_next rfl (.tmp 163) rfl hRq.out rfl (stop_here ?_) ?_)
                  · refine go_on ?_
                    clear hRq
                    have HF := Lib.hid (H23.out.below hbq.out)
                    have KF := Lib.hid (KB23.out.below hbq.out)
                    clear hbq
                    go_wp2_with fail
                    go_roundw
                    case rel => exact ⟨k + 1, Ti, ks, n, wv, by omega, by go_num, by omega, HF, KSi, KF, hc2⟩
                    case measure => simp [intOf]; omega
                  · intro x c w73 cnt73 hx hwx hR73 hlt73 hg73 hs73 hen
                    have hb73 : Below w23.heap.size w23 w73 := hbq.out.grown hg73 hbq.out.size (fun j e => by cases e; exact Nat.le_of_eq hrI.out.symm)
                    have hlf : Hid (cnt73 < wr.rangeLeft bm rI) := Lib.hid (by rw [hRq.out.left]; exact hlt73)
                    have hxm := KSi.out.ke x hx
                    have hxb := mis_pos H23.out.inv.toInv0 hxm
                    have HSz := lx_sizeB (H23.out.below hb73) x (by omega)
                    obtain ⟨⟨n9, mk9, is9⟩, hs9⟩ : ∃ r, sSize Ti.S x = r := ⟨_, rfl⟩
                    have hi9 : is9 = true := by
                      have : (sSize Ti.S x).2.2 = true := hxm
                      rw [hs9] at this
                      exact this
                    subst hi9
                    rw [hs9] at HSz
                    dsimp only at HSz
                    have cH73 := (KB23.out.below hb73).cH
                    have hb73h := Lib.hid hb73
                    replace HSz := Lib.hid HSz
                    replace hR73 := Lib.hid hR73
                    replace hs9 := Lib.hid hs9
                    replace hxm := Lib.hid hxm
                    replace hxb := Lib.hid hxb
                    clear hx hwx hlt73 hg73 hs73 hRq hbq hb73
                    go_wp2_with fail
                    refine HSz.out.mono ?_
                    rintro e w76 ⟨rfl, b76⟩
                    have hR76 := Lib.hid (hR73.out.kept b76)
                    have hb76 := Lib.hid (hb73h.out.trans (b76.mono hb73h.out.size))
                    have hlf76 : Hid (w76.rangeLeft bm rI < wr.rangeLeft bm rI) := Lib.hid (by rw [hR76.out.left]; exact hlf.out)
                    clear HSz b76 hR73 hb73h cH73 hen
                    go_wp2_with fail
                    go_roundw
                    case rel => exact ⟨cnt73, hR76, hb76⟩
                    case measure => exact hlf76.out
              · have hab := Lib.hid (mis_pos H22.out.inv.toInv0 (KSi.out.ke a ha))
                have ya : (a != 0) = true := by have := hab.out; simp; omega
                replace ya := Lib.hid ya
                obtain ⟨kf, hkf⟩ : ∃ kf : Nat, xk % 2 = (kf : Int) := ⟨(xk % 2).toNat, by omega⟩
                have hk2f : kf < 2 := by omega
                have hxk := hbd.out.k
                have wk := Lib.hid (show IntKind.i64.wrap xk = xk by rw [IntKind.wrap_i64]; omega)
                have tk := Lib.hid (show xk.tmod 2 = (kf : Int) from (Int.tmod_eq_emod_of_nonneg hxk.1).trans hkf)
                have HG := Lib.hid (Hi.out.guard br22.out)
                have HU2 := Lib.hid (fun wx (bx : Below w22.heap.size w22 wx) => use_ok (H22.out.below bx) (KB22.out.below bx).cH (KB22.out.below bx).cK (KB22.out.below bx).lt.2.2.1 (KB22.out.below bx).set xb hbd.out.b)
                have c022 := H22.out.cells.1
                have cw22 := KB22.out.cW
                have d2 : w22.cell? ⟨gA, 2, none⟩ = some (.int .u8 xb) := B22.out.cell 2
                have d3 : w22.cell? ⟨gA, 3, none⟩ = some (.int .u8 xk) := B22.out.cell 3
                have hq22 := H22.out.cells.2.1
                have hW22 := KB22.out.lt.1
                have hA22 := B22.out.lt
                have hAr : wr.heap.size ≤ gA := Nat.le_of_eq hgA.out.symm
                replace hp0 := Lib.hid hp0
                replace hkf := Lib.hid hkf
                replace hxk := Lib.hid hxk
                go_wp2_with fail
                have hS0 : (fun X : World => X.cell? ⟨q, 0, none⟩ = some (.pointer (some ⟨s, 0, none⟩)) ∧ X.cell? ⟨gW, 0, none⟩ = some (.pointer (some ⟨q, 0, none⟩)) ∧ X.cell? ⟨gA, 2, none⟩ = some (.int .u8 xb) ∧ X.cell? ⟨gA, 3, none⟩ = some (.int .u8 xk)) w22.drew := ⟨c022, cw22, d2, d3⟩
                refine wp_T (by kernel_rfl) 19 (fun X : World => X.cell? ⟨q, 0, none⟩ = some (.pointer (some ⟨s, 0, none⟩)) ∧ X.cell? ⟨gW, 0, none⟩ = some (.pointer (some ⟨q, 0, none⟩)) ∧ X.cell? ⟨gA, 2, none⟩ = some (.int .u8 xb) ∧ X.cell? ⟨gA, 3, none⟩ = some (.int .u8 xk)) ?_
                refine wpAnyT_takeA (i := 0) (v := .int .i64 a) rfl (by kernel_rfl) rfl (fun _ _ _ hp => hp) (Or.inl ⟨by kernel_rfl, fun X _ => by go_simp⟩) hS0 ?_
                simp only [Act.put, List.getElem_toArray, List.getElem_cons_succ, List.getElem_cons_zero, List.setIfInBounds_toArray, List.set_cons_zero, List.set_cons_succ]
                refine wpAnyT_takeA (i := 1) (v := .bool true) rfl (by kernel_rfl) rfl (fun _ _ _ hp => hp) (Or.inl ⟨by kernel_rfl, fun X _ => by have yaz := ya.out; go_simp⟩) hS0 ?_
                simp only [Act.put, List.getElem_toArray, List.getElem_cons_succ, List.getElem_cons_zero, List.setIfInBounds_toArray, List.set_cons_zero, List.set_cons_succ]
                refine wpAnyT_takeA (i := 2) (v := .bool true) rfl (by kernel_rfl) rfl (fun _ _ _ hp => hp) (Or.inl ⟨by kernel_rfl, fun X _ => by go_simp⟩) hS0 ?_
                simp only [Act.put, List.getElem_toArray, List.getElem_cons_succ, List.getElem_cons_zero, List.setIfInBounds_toArray, List.set_cons_zero, List.set_cons_succ]
                refine wpAnyT_takeA (i := 3) (v := .pointer (some ⟨q, 0, none⟩)) rfl (by kernel_rfl) rfl (fun _ _ _ hp => hp) (Or.inl ⟨by kernel_rfl, fun X hX => by have hX1 : (fun X : World => X.cell? ⟨q, 0, none⟩ = some (.pointer (some ⟨s, 0, none⟩)) ∧ X.cell? ⟨gW, 0, none⟩ = some (.pointer (some ⟨q, 0, none⟩)) ∧ X.cell? ⟨gA, 2, none⟩ = some (.int .u8 xb) ∧ X.cell? ⟨gA, 3, none⟩ = some (.int .u8 xk)) X := hX; have y1 := hX1.2.1; go_simp⟩) hS0 ?_
                simp only [Act.put, List.getElem_toArray, List.getElem_cons_succ, List.getElem_cons_zero, List.setIfInBounds_toArray, List.set_cons_zero, List.set_cons_succ]
                refine wpAnyT_takeA (i := 4) (v := .pointer (some ⟨q, 0, none⟩)) rfl (by kernel_rfl) rfl (fun _ _ _ hp => hp) (Or.inl ⟨by kernel_rfl, fun X _ => by go_simp⟩) hS0 ?_
                simp only [Act.put, List.getElem_toArray, List.getElem_cons_succ, List.getElem_cons_zero, List.setIfInBounds_toArray, List.set_cons_zero, List.set_cons_succ]
                refine wpAnyT_takeA (i := 5) (v := .pointer (some ⟨q, 0, none⟩)) rfl (by kernel_rfl) rfl (fun _ _ _ hp => hp) (Or.inl ⟨by kernel_rfl, fun X _ => by go_simp⟩) hS0 ?_
                simp only [Act.put, List.getElem_toArray, List.getElem_cons_succ, List.getElem_cons_zero, List.setIfInBounds_toArray, List.set_cons_zero, List.set_cons_succ]
                refine wpAnyT_takeA (i := 6) (v := .pointer (some ⟨s, 0, none⟩)) rfl (by kernel_rfl) rfl (fun _ _ _ hp => hp) (Or.inl ⟨by kernel_rfl, fun X hX => by have hX1 : (fun X : World => X.cell? ⟨q, 0, none⟩ = some (.pointer (some ⟨s, 0, none⟩)) ∧ X.cell? ⟨gW, 0, none⟩ = some (.pointer (some ⟨q, 0, none⟩)) ∧ X.cell? ⟨gA, 2, none⟩ = some (.int .u8 xb) ∧ X.cell? ⟨gA, 3, none⟩ = some (.int .u8 xk)) X := hX; have y1 := hX1.1; go_simp⟩) hS0 ?_
                simp only [Act.put, List.getElem_toArray, List.getElem_cons_succ, List.getElem_cons_zero, List.setIfInBounds_toArray, List.set_cons_zero, List.set_cons_succ]
                refine wpAnyT_takeA (i := 7) (v := .int .i64 a) rfl (by kernel_rfl) rfl (fun _ _ _ hp => hp) (Or.inl ⟨by kernel_rfl, fun X _ => by go_simp⟩) hS0 ?_
                simp only [Act.put, List.getElem_toArray, List.getElem_cons_succ, List.getElem_cons_zero, List.setIfInBounds_toArray, List.set_cons_zero, List.set_cons_succ]
                refine wpAnyT_takeA (i := 8) (v := .pointer (some ⟨gA, 3, none⟩)) rfl (by kernel_rfl) rfl (fun _ _ _ hp => hp) (Or.inl ⟨by kernel_rfl, fun X _ => by go_simp⟩) hS0 ?_
                simp only [Act.put, List.getElem_toArray, List.getElem_cons_succ, List.getElem_cons_zero, List.setIfInBounds_toArray, List.set_cons_zero, List.set_cons_succ]
                refine wpAnyT_takeA (i := 9) (v := .int .u8 xk) rfl (by kernel_rfl) rfl (fun _ _ _ hp => hp) (Or.inl ⟨by kernel_rfl, fun X hX => by have hX1 : (fun X : World => X.cell? ⟨q, 0, none⟩ = some (.pointer (some ⟨s, 0, none⟩)) ∧ X.cell? ⟨gW, 0, none⟩ = some (.pointer (some ⟨q, 0, none⟩)) ∧ X.cell? ⟨gA, 2, none⟩ = some (.int .u8 xb) ∧ X.cell? ⟨gA, 3, none⟩ = some (.int .u8 xk)) X := hX; have y1 := hX1.2.2.2; go_simp⟩) hS0 ?_
                simp only [Act.put, List.getElem_toArray, List.getElem_cons_succ, List.getElem_cons_zero, List.setIfInBounds_toArray, List.set_cons_zero, List.set_cons_succ]
                refine wpAnyT_takeA (i := 10) (v := .int .i64 xk) rfl (by kernel_rfl) rfl (fun _ _ _ hp => hp) (Or.inl ⟨by kernel_rfl, fun X _ => by have wkz := wk.out; go_simp⟩) hS0 ?_
                simp only [Act.put, List.getElem_toArray, List.getElem_cons_succ, List.getElem_cons_zero, List.setIfInBounds_toArray, List.set_cons_zero, List.set_cons_succ]
                refine wpAnyT_takeA (i := 11) (v := .int .i64 (kf : Int)) rfl (by kernel_rfl) rfl (fun _ _ _ hp => hp) (Or.inl ⟨by kernel_rfl, fun X _ => by have tkz := tk.out; go_simp⟩) hS0 ?_
                simp only [Act.put, List.getElem_toArray, List.getElem_cons_succ, List.getElem_cons_zero, List.setIfInBounds_toArray, List.set_cons_zero, List.set_cons_succ]
                refine wpAnyT_takeA (i := 12) (v := .func (.func 19) #[] #[.pointer (some ⟨gH, 0, none⟩), .pointer (some ⟨gK, 0, none⟩)]) rfl (by kernel_rfl) rfl (fun _ _ _ hp => hp) (Or.inl ⟨by kernel_rfl, fun X _ => by go_simp⟩) hS0 ?_
                simp only [Act.put, List.getElem_toArray, List.getElem_cons_succ, List.getElem_cons_zero, List.setIfInBounds_toArray, List.set_cons_zero, List.set_cons_succ]
                refine wpAnyT_takeA (i := 13) (v := .pointer (some ⟨gA, 2, none⟩)) rfl (by kernel_rfl) rfl (fun _ _ _ hp => hp) (Or.inl ⟨by kernel_rfl, fun X _ => by go_simp⟩) hS0 ?_
                simp only [Act.put, List.getElem_toArray, List.getElem_cons_succ, List.getElem_cons_zero, List.setIfInBounds_toArray, List.set_cons_zero, List.set_cons_succ]
                refine wpAnyT_takeA (i := 14) (v := .int .u8 xb) rfl (by kernel_rfl) rfl (fun _ _ _ hp => hp) (Or.inl ⟨by kernel_rfl, fun X hX => by have hX1 : (fun X : World => X.cell? ⟨q, 0, none⟩ = some (.pointer (some ⟨s, 0, none⟩)) ∧ X.cell? ⟨gW, 0, none⟩ = some (.pointer (some ⟨q, 0, none⟩)) ∧ X.cell? ⟨gA, 2, none⟩ = some (.int .u8 xb) ∧ X.cell? ⟨gA, 3, none⟩ = some (.int .u8 xk)) X := hX; have y1 := hX1.2.2.1; go_simp⟩) hS0 ?_
                simp only [Act.put, List.getElem_toArray, List.getElem_cons_succ, List.getElem_cons_zero, List.setIfInBounds_toArray, List.set_cons_zero, List.set_cons_succ]
                refine wpAnyT_one (i := 15) rfl (by kernel_rfl) (by kernel_rfl) ?_
                intro K1 hK1
                go_simp
                refine (HU2.out _ (Below.refl _ _).drew).mono ?_
                rintro e w23 ⟨⟨b9, rfl, hb9⟩, bb⟩
                dsimp only
                have bb2 : Below w22.heap.size w22 w23 := Below.trans (show Below w22.heap.size w22 w22.drew from (Below.refl _ _).drew) (Below.mono bb (show w22.heap.size ≤ w22.drew.heap.size from Nat.le_refl _))
                have hS1 : (fun X : World => X.cell? ⟨q, 0, none⟩ = some (.pointer (some ⟨s, 0, none⟩)) ∧ X.cell? ⟨gW, 0, none⟩ = some (.pointer (some ⟨q, 0, none⟩)) ∧ X.cell? ⟨gA, 2, none⟩ = some (.int .u8 xb) ∧ X.cell? ⟨gA, 3, none⟩ = some (.int .u8 xk)) w23 := ⟨(bb2.cell (p := ⟨q, 0, none⟩) hq22).trans c022, (bb2.cell (p := ⟨gW, 0, none⟩) hW22).trans cw22, (bb2.cell (p := ⟨gA, 2, none⟩) hA22).trans d2, (bb2.cell (p := ⟨gA, 3, none⟩) hA22).trans d3⟩
                refine hK1.out _ _ (fun _ => hS1) ?_
                (try simp only [Act.put, List.getElem_toArray, List.getElem_cons_succ, List.getElem_cons_zero, List.setIfInBounds_toArray, List.set_cons_zero, List.set_cons_succ])
                refine wpAnyT_one (i := 16) rfl (by kernel_rfl) (by kernel_rfl) ?_
                intro K2 hK2
                have hbx : -9223372036854775808 ≤ b9 ∧ b9 ≤ 9223372036854775807 := by
                  rcases hb9 with h | h
                  · omega
                  · have := mis_pos HG.out.inv.toInv0 (KSi.out.ke b9 h); omega
                obtain ⟨e9, KS2, hl2, -⟩ := ks_put HG.out.inv KSi.out hp0.out ha hb9 hk2f
                have HPt := lx_put (HG.out.below bb2) a (kf : Int) b9 true (by have := hab.out; omega) hbx
                rw [e9] at HPt
                obtain ⟨T2, hT2⟩ : ∃ T2, T2 = (qPut Ti a (kf : Int) b9 true).1 := ⟨_, rfl⟩
                rw [← hT2] at HPt KS2 hl2
                go_simp
                refine HPt.mono ?_
                rintro e w24 ⟨rfl, H24⟩
                dsimp only
                have hS2 : (fun X : World => X.cell? ⟨q, 0, none⟩ = some (.pointer (some ⟨s, 0, none⟩)) ∧ X.cell? ⟨gW, 0, none⟩ = some (.pointer (some ⟨q, 0, none⟩)) ∧ X.cell? ⟨gA, 2, none⟩ = some (.int .u8 xb) ∧ X.cell? ⟨gA, 3, none⟩ = some (.int .u8 xk)) w24 := ⟨H24.cells.1, (KB22.out.next fun j hj => LX.qkeep HG.out H24 (.inl hj)).cW, cell_keep H24 hAr hA22 d2, cell_keep H24 hAr hA22 d3⟩
                replace H24 := Lib.hid H24
                refine hK2.out _ _ (fun _ => hS2) ?_
                (try simp only [Act.put, List.getElem_toArray, List.getElem_cons_succ, List.getElem_cons_zero, List.setIfInBounds_toArray, List.set_cons_zero, List.set_cons_succ])
                refine wpAnyT_takeA (i := 17) (v := .bool false) rfl (by kernel_rfl) rfl (fun _ _ _ hp => hp) (Or.inl ⟨by kernel_rfl, fun X _ => by go_simp⟩) hS2 ?_
                simp only [Act.put, List.getElem_toArray, List.getElem_cons_succ, List.getElem_cons_zero, List.setIfInBounds_toArray, List.set_cons_zero, List.set_cons_succ]
                refine wpAnyT_takeA (i := 18) (v := .bool false) rfl (by kernel_rfl) rfl (fun _ _ _ hp => hp) (Or.inl ⟨by kernel_rfl, fun X _ => by go_simp⟩) hS2 ?_
                simp only [Act.put, List.getElem_toArray, List.getElem_cons_succ, List.getElem_cons_zero, List.setIfInBounds_toArray, List.set_cons_zero, List.set_cons_succ]
                refine wpAnyT_done (by kernel_rfl) ?_ _
                (try simp only [Act.put, List.getElem_toArray, List.getElem_cons_succ, List.getElem_cons_zero, List.setIfInBounds_toArray, List.set_cons_zero, List.set_cons_succ])
                clear hK1 K1 hK2 K2
                have KB24 := Lib.hid (KB22.out.next fun j hj => LX.qkeep HG.out H24.out (.inl hj))
                have HF24 := Lib.hid (Hi.out.unguard br22.out H24.out)
                have hc24 : Hid (T2.S.objs.length ≤ 120 + (k + 1)) := Lib.hid (by have := hci.out; omega)
                replace KS2 := Lib.hid KS2
                replace hT2 := Lib.hid hT2
                clear HU2 HG H22 KB22 B22 H24 c022 cw22 d2 d3 hS0 hS1 hS2 e9 bb bb2 hl2
                have cKr := KB24.out.cK
                have SMr := KB24.out.set
                go_wp2_with (at_range; refine wpList_setm_range rfl (.tmp 162) rfl SMr rfl ?_; intro wR cnt hR hbR hsR)
                (try go_frame)
                obtain ⟨rI, hrI⟩ : ∃ rI, rI = w24.heap.size := ⟨_, rfl⟩
                rw [← hrI] at hR ⊢
                have hRh := Lib.hid hR
                replace hrI := Lib.hid hrI
                replace hbR := Lib.hid hbR
                clear hR hsR cKr SMr
                go_loopw [] (fun wq => ∃ ct, Hid (SetR wq bm rI n ks ct) ∧ Hid (Below w24.heap.size w24 wq)) (fun wq => wq.rangeLeft bm rI)
                case atStart => exact ⟨cnt, hRh, hbR⟩
                case round =>
                  clear hRh hbR
                  obtain ⟨ct, hRq, hbq⟩ := hrel
                  go_wp2_with (at_next; refine wpList_setm_next rfl (.tmp 163) rfl hRq.out rfl (stop_here ?_) ?_)
                  · refine go_on ?_
                    clear hRq
                    have HF := Lib.hid (HF24.out.below hbq.out)
                    have KF := Lib.hid (KB24.out.below hbq.out)
                    clear hbq
                    go_wp2_with fail
                    go_roundw
                    case rel => exact ⟨k + 1, T2, ks, n, wv, by omega, by go_num, by omega, HF, KS2, KF, hc24⟩
                    case measure => simp [intOf]; omega
                  · intro x c w73 cnt73 hx hwx hR73 hlt73 hg73 hs73 hen
                    have hb73 : Below w24.heap.size w24 w73 := hbq.out.grown hg73 hbq.out.size (fun j e => by cases e; exact Nat.le_of_eq hrI.out.symm)
                    have hlf : Hid (cnt73 < wr.rangeLeft bm rI) := Lib.hid (by rw [hRq.out.left]; exact hlt73)
                    have hxm := KS2.out.ke x hx
                    have hxb := mis_pos HF24.out.inv.toInv0 hxm
                    have HSz := lx_sizeB (HF24.out.below hb73) x (by omega)
                    obtain ⟨⟨n9, mk9, is9⟩, hs9⟩ : ∃ r, sSize T2.S x = r := ⟨_, rfl⟩
                    have hi9 : is9 = true := by
                      have : (sSize T2.S x).2.2 = true := hxm
                      rw [hs9] at this
                      exact this
                    subst hi9
                    rw [hs9] at HSz
                    dsimp only at HSz
                    have cH73 := (KB24.out.below hb73).cH
                    have hb73h := Lib.hid hb73
                    replace HSz := Lib.hid HSz
                    replace hR73 := Lib.hid hR73
                    replace hs9 := Lib.hid hs9
                    replace hxm := Lib.hid hxm
                    replace hxb := Lib.hid hxb
                    clear hx hwx hlt73 hg73 hs73 hRq hbq hb73
                    go_wp2_with fail
                    refine HSz.out.mono ?_
                    rintro e w76 ⟨rfl, b76⟩
                    have hR76 := Lib.hid (hR73.out.kept b76)
                    have hb76 := Lib.hid (hb73h.out.trans (b76.mono hb73h.out.size))
                    have hlf76 : Hid (w76.rangeLeft bm rI < wr.rangeLeft bm rI) := Lib.hid (by rw [hR76.out.left]; exact hlf.out)
                    clear HSz b76 hR73 hb73h cH73 hen
                    go_wp2_with fail
                    go_roundw
                    case rel => exact ⟨cnt73, hR76, hb76⟩
                    case measure => exact hlf76.out
            by_cases h5 : z = 5
            · subst h5
              have HU := Lib.hid (use_ok H21.out KB21.out.cH KB21.out.cK KB21.out.lt.2.2.1 KB21.out.set xa hbd.out.a)
              have e1v : w21.cell? ⟨gA, 1, none⟩ = some (.int .u8 xa) := B21.out.cell 1
              go_wp2_with fail
              refine HU.out.mono ?_
              rintro e w22 ⟨⟨a, rfl, ha⟩, b22⟩
              have H22 := Lib.hid (H21.out.below b22)
              have KB22 := Lib.hid (KB21.out.below b22)
              have B22 := Lib.hid (B21.out.below b22 B21.out.lt)
              have br22 := Lib.hid (br21.out.trans (b22.mono br21.out.size))
              have hc2 : Hid (Ti.S.objs.length ≤ 120 + (k + 1)) := Lib.hid (by have := hci.out; omega)
              clear HU e0v e1v H21 KB21 B21 br21 b22
              rcases ha with rfl | ha
              · replace hp0 := Lib.hid hp0
                go_wp2_with fail
                go_quiet (fail)
                have H23 := Lib.hid (H22.out.below (below_drewN (Below.refl _ _) nq))
                have KB23 := Lib.hid (KB22.out.below (below_drewN (Below.refl _ _) nq))
                obtain ⟨w23, hw23⟩ : ∃ w23, w23 = w22.drewN nq := ⟨_, rfl⟩
                rw [← hw23] at H23 KB23 ⊢
                replace hw23 := Lib.hid hw23
                clear H22 KB22 B22 br22
                have cKr := KB23.out.cK
                have SMr := KB23.out.set
                go_wp2_with (at_range; refine wpList_setm_range rfl (.tmp 162) rfl SMr rfl ?_; intro wR cnt hR hbR hsR)
                (try go_frame)
                obtain ⟨rI, hrI⟩ : ∃ rI, rI = w23.heap.size := ⟨_, rfl⟩
                rw [← hrI] at hR ⊢
                have hRh := Lib.hid hR
                replace hrI := Lib.hid hrI
                replace hbR := Lib.hid hbR
                clear hR hsR cKr SMr
                go_loopw [] (fun wq => ∃ ct, Hid (SetR wq bm rI n ks ct) ∧ Hid (Below w23.heap.size w23 wq)) (fun wq => wq.rangeLeft bm rI)
                case atStart => exact ⟨cnt, hRh, hbR⟩
                case round =>
                  clear hRh hbR
                  obtain ⟨ct, hRq, hbq⟩ := hrel
                  go_wp2_with (at_next; refine wpList_setm_next rfl (.tmp 163) rfl hRq.out rfl (stop_here ?_) ?_)
                  · refine go_on ?_
                    clear hRq
                    have HF := Lib.hid (H23.out.below hbq.out)
                    have KF := Lib.hid (KB23.out.below hbq.out)
                    clear hbq
                    go_wp2_with fail
                    go_roundw
                    case rel => exact ⟨k + 1, Ti, ks, n, wv, by omega, by go_num, by omega, HF, KSi, KF, hc2⟩
                    case measure => simp [intOf]; omega
                  · intro x c w73 cnt73 hx hwx hR73 hlt73 hg73 hs73 hen
                    have hb73 : Below w23.heap.size w23 w73 := hbq.out.grown hg73 hbq.out.size (fun j e => by cases e; exact Nat.le_of_eq hrI.out.symm)
                    have hlf : Hid (cnt73 < wr.rangeLeft bm rI) := Lib.hid (by rw [hRq.out.left]; exact hlt73)
                    have hxm := KSi.out.ke x hx
                    have hxb := mis_pos H23.out.inv.toInv0 hxm
                    have HSz := lx_sizeB (H23.out.below hb73) x (by omega)
                    obtain ⟨⟨n9, mk9, is9⟩, hs9⟩ : ∃ r, sSize Ti.S x = r := ⟨_, rfl⟩
                    have hi9 : is9 = true := by
                      have : (sSize Ti.S x).2.2 = true := hxm
                      rw [hs9] at this
                      exact this
                    subst hi9
                    rw [hs9] at HSz
                    dsimp only at HSz
                    have cH73 := (KB23.out.below hb73).cH
                    have hb73h := Lib.hid hb73
                    replace HSz := Lib.hid HSz
                    replace hR73 := Lib.hid hR73
                    replace hs9 := Lib.hid hs9
                    replace hxm := Lib.hid hxm
                    replace hxb := Lib.hid hxb
                    clear hx hwx hlt73 hg73 hs73 hRq hbq hb73
                    go_wp2_with fail
                    refine HSz.out.mono ?_
                    rintro e w76 ⟨rfl, b76⟩
                    have hR76 := Lib.hid (hR73.out.kept b76)
                    have hb76 := Lib.hid (hb73h.out.trans (b76.mono hb73h.out.size))
                    have hlf76 : Hid (w76.rangeLeft bm rI < wr.rangeLeft bm rI) := Lib.hid (by rw [hR76.out.left]; exact hlf.out)
                    clear HSz b76 hR73 hb73h cH73 hen
                    go_wp2_with fail
                    go_roundw
                    case rel => exact ⟨cnt73, hR76, hb76⟩
                    case measure => exact hlf76.out
              · have hab := Lib.hid (mis_pos H22.out.inv.toInv0 (KSi.out.ke a ha))
                have ya : (a != 0) = true := by have := hab.out; simp; omega
                replace ya := Lib.hid ya
                obtain ⟨kf, hkf⟩ : ∃ kf : Nat, xk % 2 = (kf : Int) := ⟨(xk % 2).toNat, by omega⟩
                have hk2f : kf < 2 := by omega
                have hxk := hbd.out.k
                have wk := Lib.hid (show IntKind.i64.wrap xk = xk by rw [IntKind.wrap_i64]; omega)
                have tk := Lib.hid (show xk.tmod 2 = (kf : Int) from (Int.tmod_eq_emod_of_nonneg hxk.1).trans hkf)
                have HG := Lib.hid (Hi.out.guard br22.out)
                have HU2 := Lib.hid (fun wx (bx : Below w22.heap.size w22 wx) => use_ok (H22.out.below bx) (KB22.out.below bx).cH (KB22.out.below bx).cK (KB22.out.below bx).lt.2.2.1 (KB22.out.below bx).set xb hbd.out.b)
                have c022 := H22.out.cells.1
                have cw22 := KB22.out.cW
                have d2 : w22.cell? ⟨gA, 2, none⟩ = some (.int .u8 xb) := B22.out.cell 2
                have d3 : w22.cell? ⟨gA, 3, none⟩ = some (.int .u8 xk) := B22.out.cell 3
                have hq22 := H22.out.cells.2.1
                have hW22 := KB22.out.lt.1
                have hA22 := B22.out.lt
                have hAr : wr.heap.size ≤ gA := Nat.le_of_eq hgA.out.symm
                replace hp0 := Lib.hid hp0
                replace hkf := Lib.hid hkf
                replace hxk := Lib.hid hxk
                go_wp2_with fail
                have hS0 : (fun X : World => X.cell? ⟨q, 0, none⟩ = some (.pointer (some ⟨s, 0, none⟩)) ∧ X.cell? ⟨gW, 0, none⟩ = some (.pointer (some ⟨q, 0, none⟩)) ∧ X.cell? ⟨gA, 2, none⟩ = some (.int .u8 xb) ∧ X.cell? ⟨gA, 3, none⟩ = some (.int .u8 xk)) w22.drew := ⟨c022, cw22, d2, d3⟩
                refine wp_T (by kernel_rfl) 19 (fun X : World => X.cell? ⟨q, 0, none⟩ = some (.pointer (some ⟨s, 0, none⟩)) ∧ X.cell? ⟨gW, 0, none⟩ = some (.pointer (some ⟨q, 0, none⟩)) ∧ X.cell? ⟨gA, 2, none⟩ = some (.int .u8 xb) ∧ X.cell? ⟨gA, 3, none⟩ = some (.int .u8 xk)) ?_
                refine wpAnyT_takeA (i := 0) (v := .int .i64 a) rfl (by kernel_rfl) rfl (fun _ _ _ hp => hp) (Or.inl ⟨by kernel_rfl, fun X _ => by go_simp⟩) hS0 ?_
                simp only [Act.put, List.getElem_toArray, List.getElem_cons_succ, List.getElem_cons_zero, List.setIfInBounds_toArray, List.set_cons_zero, List.set_cons_succ]
                refine wpAnyT_takeA (i := 1) (v := .bool true) rfl (by kernel_rfl) rfl (fun _ _ _ hp => hp) (Or.inl ⟨by kernel_rfl, fun X _ => by have yaz := ya.out; go_simp⟩) hS0 ?_
                simp only [Act.put, List.getElem_toArray, List.getElem_cons_succ, List.getElem_cons_zero, List.setIfInBounds_toArray, List.set_cons_zero, List.set_cons_succ]
                refine wpAnyT_takeA (i := 2) (v := .bool true) rfl (by kernel_rfl) rfl (fun _ _ _ hp => hp) (Or.inl ⟨by kernel_rfl, fun X _ => by go_simp⟩) hS0 ?_
                simp only [Act.put, List.getElem_toArray, List.getElem_cons_succ, List.getElem_cons_zero, List.setIfInBounds_toArray, List.set_cons_zero, List.set_cons_succ]
                refine wpAnyT_takeA (i := 3) (v := .pointer (some ⟨q, 0, none⟩)) rfl (by kernel_rfl) rfl (fun _ _ _ hp => hp) (Or.inl ⟨by kernel_rfl, fun X hX => by have hX1 : (fun X : World => X.cell? ⟨q, 0, none⟩ = some (.pointer (some ⟨s, 0, none⟩)) ∧ X.cell? ⟨gW, 0, none⟩ = some (.pointer (some ⟨q, 0, none⟩)) ∧ X.cell? ⟨gA, 2, none⟩ = some (.int .u8 xb) ∧ X.cell? ⟨gA, 3, none⟩ = some (.int .u8 xk)) X := hX; have y1 := hX1.2.1; go_simp⟩) hS0 ?_
                simp only [Act.put, List.getElem_toArray, List.getElem_cons_succ, List.getElem_cons_zero, List.setIfInBounds_toArray, List.set_cons_zero, List.set_cons_succ]
                refine wpAnyT_takeA (i := 4) (v := .pointer (some ⟨q, 0, none⟩)) rfl (by kernel_rfl) rfl (fun _ _ _ hp => hp) (Or.inl ⟨by kernel_rfl, fun X _ => by go_simp⟩) hS0 ?_
                simp only [Act.put, List.getElem_toArray, List.getElem_cons_succ, List.getElem_cons_zero, List.setIfInBounds_toArray, List.set_cons_zero, List.set_cons_succ]
                refine wpAnyT_takeA (i := 5) (v := .pointer (some ⟨q, 0, none⟩)) rfl (by kernel_rfl) rfl (fun _ _ _ hp => hp) (Or.inl ⟨by kernel_rfl, fun X _ => by go_simp⟩) hS0 ?_
                simp only [Act.put, List.getElem_toArray, List.getElem_cons_succ, List.getElem_cons_zero, List.setIfInBounds_toArray, List.set_cons_zero, List.set_cons_succ]
                refine wpAnyT_takeA (i := 6) (v := .pointer (some ⟨s, 0, none⟩)) rfl (by kernel_rfl) rfl (fun _ _ _ hp => hp) (Or.inl ⟨by kernel_rfl, fun X hX => by have hX1 : (fun X : World => X.cell? ⟨q, 0, none⟩ = some (.pointer (some ⟨s, 0, none⟩)) ∧ X.cell? ⟨gW, 0, none⟩ = some (.pointer (some ⟨q, 0, none⟩)) ∧ X.cell? ⟨gA, 2, none⟩ = some (.int .u8 xb) ∧ X.cell? ⟨gA, 3, none⟩ = some (.int .u8 xk)) X := hX; have y1 := hX1.1; go_simp⟩) hS0 ?_
                simp only [Act.put, List.getElem_toArray, List.getElem_cons_succ, List.getElem_cons_zero, List.setIfInBounds_toArray, List.set_cons_zero, List.set_cons_succ]
                refine wpAnyT_takeA (i := 7) (v := .int .i64 a) rfl (by kernel_rfl) rfl (fun _ _ _ hp => hp) (Or.inl ⟨by kernel_rfl, fun X _ => by go_simp⟩) hS0 ?_
                simp only [Act.put, List.getElem_toArray, List.getElem_cons_succ, List.getElem_cons_zero, List.setIfInBounds_toArray, List.set_cons_zero, List.set_cons_succ]
                refine wpAnyT_takeA (i := 8) (v := .pointer (some ⟨gA, 3, none⟩)) rfl (by kernel_rfl) rfl (fun _ _ _ hp => hp) (Or.inl ⟨by kernel_rfl, fun X _ => by go_simp⟩) hS0 ?_
                simp only [Act.put, List.getElem_toArray, List.getElem_cons_succ, List.getElem_cons_zero, List.setIfInBounds_toArray, List.set_cons_zero, List.set_cons_succ]
                refine wpAnyT_takeA (i := 9) (v := .int .u8 xk) rfl (by kernel_rfl) rfl (fun _ _ _ hp => hp) (Or.inl ⟨by kernel_rfl, fun X hX => by have hX1 : (fun X : World => X.cell? ⟨q, 0, none⟩ = some (.pointer (some ⟨s, 0, none⟩)) ∧ X.cell? ⟨gW, 0, none⟩ = some (.pointer (some ⟨q, 0, none⟩)) ∧ X.cell? ⟨gA, 2, none⟩ = some (.int .u8 xb) ∧ X.cell? ⟨gA, 3, none⟩ = some (.int .u8 xk)) X := hX; have y1 := hX1.2.2.2; go_simp⟩) hS0 ?_
                simp only [Act.put, List.getElem_toArray, List.getElem_cons_succ, List.getElem_cons_zero, List.setIfInBounds_toArray, List.set_cons_zero, List.set_cons_succ]
                refine wpAnyT_takeA (i := 10) (v := .int .i64 xk) rfl (by kernel_rfl) rfl (fun _ _ _ hp => hp) (Or.inl ⟨by kernel_rfl, fun X _ => by have wkz := wk.out; go_simp⟩) hS0 ?_
                simp only [Act.put, List.getElem_toArray, List.getElem_cons_succ, List.getElem_cons_zero, List.setIfInBounds_toArray, List.set_cons_zero, List.set_cons_succ]
                refine wpAnyT_takeA (i := 11) (v := .int .i64 (kf : Int)) rfl (by kernel_rfl) rfl (fun _ _ _ hp => hp) (Or.inl ⟨by kernel_rfl, fun X _ => by have tkz := tk.out; go_simp⟩) hS0 ?_
                simp only [Act.put, List.getElem_toArray, List.getElem_cons_succ, List.getElem_cons_zero, List.setIfInBounds_toArray, List.set_cons_zero, List.set_cons_succ]
                refine wpAnyT_takeA (i := 12) (v := .func (.func 19) #[] #[.pointer (some ⟨gH, 0, none⟩), .pointer (some ⟨gK, 0, none⟩)]) rfl (by kernel_rfl) rfl (fun _ _ _ hp => hp) (Or.inl ⟨by kernel_rfl, fun X _ => by go_simp⟩) hS0 ?_
                simp only [Act.put, List.getElem_toArray, List.getElem_cons_succ, List.getElem_cons_zero, List.setIfInBounds_toArray, List.set_cons_zero, List.set_cons_succ]
                refine wpAnyT_takeA (i := 13) (v := .pointer (some ⟨gA, 2, none⟩)) rfl (by kernel_rfl) rfl (fun _ _ _ hp => hp) (Or.inl ⟨by kernel_rfl, fun X _ => by go_simp⟩) hS0 ?_
                simp only [Act.put, List.getElem_toArray, List.getElem_cons_succ, List.getElem_cons_zero, List.setIfInBounds_toArray, List.set_cons_zero, List.set_cons_succ]
                refine wpAnyT_takeA (i := 14) (v := .int .u8 xb) rfl (by kernel_rfl) rfl (fun _ _ _ hp => hp) (Or.inl ⟨by kernel_rfl, fun X hX => by have hX1 : (fun X : World => X.cell? ⟨q, 0, none⟩ = some (.pointer (some ⟨s, 0, none⟩)) ∧ X.cell? ⟨gW, 0, none⟩ = some (.pointer (some ⟨q, 0, none⟩)) ∧ X.cell? ⟨gA, 2, none⟩ = some (.int .u8 xb) ∧ X.cell? ⟨gA, 3, none⟩ = some (.int .u8 xk)) X := hX; have y1 := hX1.2.2.1; go_simp⟩) hS0 ?_
                simp only [Act.put, List.getElem_toArray, List.getElem_cons_succ, List.getElem_cons_zero, List.setIfInBounds_toArray, List.set_cons_zero, List.set_cons_succ]
                refine wpAnyT_one (i := 15) rfl (by kernel_rfl) (by kernel_rfl) ?_
                intro K1 hK1
                go_simp
                refine (HU2.out _ (Below.refl _ _).drew).mono ?_
                rintro e w23 ⟨⟨b9, rfl, hb9⟩, bb⟩
                dsimp only
                have bb2 : Below w22.heap.size w22 w23 := Below.trans (show Below w22.heap.size w22 w22.drew from (Below.refl _ _).drew) (Below.mono bb (show w22.heap.size ≤ w22.drew.heap.size from Nat.le_refl _))
                have hS1 : (fun X : World => X.cell? ⟨q, 0, none⟩ = some (.pointer (some ⟨s, 0, none⟩)) ∧ X.cell? ⟨gW, 0, none⟩ = some (.pointer (some ⟨q, 0, none⟩)) ∧ X.cell? ⟨gA, 2, none⟩ = some (.int .u8 xb) ∧ X.cell? ⟨gA, 3, none⟩ = some (.int .u8 xk)) w23 := ⟨(bb2.cell (p := ⟨q, 0, none⟩) hq22).trans c022, (bb2.cell (p := ⟨gW, 0, none⟩) hW22).trans cw22, (bb2.cell (p := ⟨gA, 2, none⟩) hA22).trans d2, (bb2.cell (p := ⟨gA, 3, none⟩) hA22).trans d3⟩
                refine hK1.out _ _ (fun _ => hS1) ?_
                (try simp only [Act.put, List.getElem_toArray, List.getElem_cons_succ, List.getElem_cons_zero, List.setIfInBounds_toArray, List.set_cons_zero, List.set_cons_succ])
                refine wpAnyT_one (i := 16) rfl (by kernel_rfl) (by kernel_rfl) ?_
                intro K2 hK2
                have hbx : -9223372036854775808 ≤ b9 ∧ b9 ≤ 9223372036854775807 := by
                  rcases hb9 with h | h
                  · omega
                  · have := mis_pos HG.out.inv.toInv0 (KSi.out.ke b9 h); omega
                obtain ⟨e9, KS2, hl2, -⟩ := ks_put HG.out.inv KSi.out hp0.out ha hb9 hk2f
                have HPt := lx_put (HG.out.below bb2) a (kf : Int) b9 true (by have := hab.out; omega) hbx
                rw [e9] at HPt
                obtain ⟨T2, hT2⟩ : ∃ T2, T2 = (qPut Ti a (kf : Int) b9 true).1 := ⟨_, rfl⟩
                rw [← hT2] at HPt KS2 hl2
                go_simp
                refine HPt.mono ?_
                rintro e w24 ⟨rfl, H24⟩
                dsimp only
                have hS2 : (fun X : World => X.cell? ⟨q, 0, none⟩ = some (.pointer (some ⟨s, 0, none⟩)) ∧ X.cell? ⟨gW, 0, none⟩ = some (.pointer (some ⟨q, 0, none⟩)) ∧ X.cell? ⟨gA, 2, none⟩ = some (.int .u8 xb) ∧ X.cell? ⟨gA, 3, none⟩ = some (.int .u8 xk)) w24 := ⟨H24.cells.1, (KB22.out.next fun j hj => LX.qkeep HG.out H24 (.inl hj)).cW, cell_keep H24 hAr hA22 d2, cell_keep H24 hAr hA22 d3⟩
                replace H24 := Lib.hid H24
                refine hK2.out _ _ (fun _ => hS2) ?_
                (try simp only [Act.put, List.getElem_toArray, List.getElem_cons_succ, List.getElem_cons_zero, List.setIfInBounds_toArray, List.set_cons_zero, List.set_cons_succ])
                refine wpAnyT_takeA (i := 17) (v := .bool false) rfl (by kernel_rfl) rfl (fun _ _ _ hp => hp) (Or.inl ⟨by kernel_rfl, fun X _ => by go_simp⟩) hS2 ?_
                simp only [Act.put, List.getElem_toArray, List.getElem_cons_succ, List.getElem_cons_zero, List.setIfInBounds_toArray, List.set_cons_zero, List.set_cons_succ]
                refine wpAnyT_takeA (i := 18) (v := .bool false) rfl (by kernel_rfl) rfl (fun _ _ _ hp => hp) (Or.inl ⟨by kernel_rfl, fun X _ => by go_simp⟩) hS2 ?_
                simp only [Act.put, List.getElem_toArray, List.getElem_cons_succ, List.getElem_cons_zero, List.setIfInBounds_toArray, List.set_cons_zero, List.set_cons_succ]
                refine wpAnyT_done (by kernel_rfl) ?_ _
                (try simp only [Act.put, List.getElem_toArray, List.getElem_cons_succ, List.getElem_cons_zero, List.setIfInBounds_toArray, List.set_cons_zero, List.set_cons_succ])
                clear hK1 K1 hK2 K2
                have KB24 := Lib.hid (KB22.out.next fun j hj => LX.qkeep HG.out H24.out (.inl hj))
                have HF24 := Lib.hid (Hi.out.unguard br22.out H24.out)
                have hc24 : Hid (T2.S.objs.length ≤ 120 + (k + 1)) := Lib.hid (by have := hci.out; omega)
                replace KS2 := Lib.hid KS2
                replace hT2 := Lib.hid hT2
                clear HU2 HG H22 KB22 B22 H24 c022 cw22 d2 d3 hS0 hS1 hS2 e9 bb bb2 hl2
                have cKr := KB24.out.cK
                have SMr := KB24.out.set
                go_wp2_with (at_range; refine wpList_setm_range rfl (.tmp 162) rfl SMr rfl ?_; intro wR cnt hR hbR hsR)
                (try go_frame)
                obtain ⟨rI, hrI⟩ : ∃ rI, rI = w24.heap.size := ⟨_, rfl⟩
                rw [← hrI] at hR ⊢
                have hRh := Lib.hid hR
                replace hrI := Lib.hid hrI
                replace hbR := Lib.hid hbR
                clear hR hsR cKr SMr
                go_loopw [] (fun wq => ∃ ct, Hid (SetR wq bm rI n ks ct) ∧ Hid (Below w24.heap.size w24 wq)) (fun wq => wq.rangeLeft bm rI)
                case atStart => exact ⟨cnt, hRh, hbR⟩
                case round =>
                  clear hRh hbR
                  obtain ⟨ct, hRq, hbq⟩ := hrel
                  go_wp2_with (at_next; refine wpList_setm_next rfl (.tmp 163) rfl hRq.out rfl (stop_here ?_) ?_)
                  · refine go_on ?_
                    clear hRq
                    have HF := Lib.hid (HF24.out.below hbq.out)
                    have KF := Lib.hid (KB24.out.below hbq.out)
                    clear hbq
                    go_wp2_with fail
                    go_roundw
                    case rel => exact ⟨k + 1, T2, ks, n, wv, by omega, by go_num, by omega, HF, KS2, KF, hc24⟩
                    case measure => simp [intOf]; omega
                  · intro x c w73 cnt73 hx hwx hR73 hlt73 hg73 hs73 hen
                    have hb73 : Below w24.heap.size w24 w73 := hbq.out.grown hg73 hbq.out.size (fun j e => by cases e; exact Nat.le_of_eq hrI.out.symm)
                    have hlf : Hid (cnt73 < wr.rangeLeft bm rI) := Lib.hid (by rw [hRq.out.left]; exact hlt73)
                    have hxm := KS2.out.ke x hx
                    have hxb := mis_pos HF24.out.inv.toInv0 hxm
                    have HSz := lx_sizeB (HF24.out.below hb73) x (by omega)
                    obtain ⟨⟨n9, mk9, is9⟩, hs9⟩ : ∃ r, sSize T2.S x = r := ⟨_, rfl⟩
                    have hi9 : is9 = true := by
                      have : (sSize T2.S x).2.2 = true := hxm
                      rw [hs9] at this
                      exact this
                    subst hi9
                    rw [hs9] at HSz
                    dsimp only at HSz
                    have cH73 := (KB24.out.below hb73).cH
                    have hb73h := Lib.hid hb73
                    replace HSz := Lib.hid HSz
                    replace hR73 := Lib.hid hR73
                    replace hs9 := Lib.hid hs9
                    replace hxm := Lib.hid hxm
                    replace hxb := Lib.hid hxb
                    clear hx hwx hlt73 hg73 hs73 hRq hbq hb73
                    go_wp2_with fail
                    refine HSz.out.mono ?_
                    rintro e w76 ⟨rfl, b76⟩
                    have hR76 := Lib.hid (hR73.out.kept b76)
                    have hb76 := Lib.hid (hb73h.out.trans (b76.mono hb73h.out.size))
                    have hlf76 : Hid (w76.rangeLeft bm rI < wr.rangeLeft bm rI) := Lib.hid (by rw [hR76.out.left]; exact hlf.out)
                    clear HSz b76 hR73 hb73h cH73 hen
                    go_wp2_with fail
                    go_roundw
                    case rel => exact ⟨cnt73, hR76, hb76⟩
                    case measure => exact hlf76.out
            by_cases h6 : z = 6
            · subst h6
              have HU := Lib.hid (use_ok H21.out KB21.out.cH KB21.out.cK KB21.out.lt.2.2.1 KB21.out.set xa hbd.out.a)
              have e1v : w21.cell? ⟨gA, 1, none⟩ = some (.int .u8 xa) := B21.out.cell 1
              go_wp2_with fail
              refine HU.out.mono ?_
              rintro e w22 ⟨⟨a, rfl, ha⟩, b22⟩
              have H22 := Lib.hid (H21.out.below b22)
              have KB22 := Lib.hid (KB21.out.below b22)
              have B22 := Lib.hid (B21.out.below b22 B21.out.lt)
              have br22 := Lib.hid (br21.out.trans (b22.mono br21.out.size))
              have hc2 : Hid (Ti.S.objs.length ≤ 120 + (k + 1)) := Lib.hid (by have := hci.out; omega)
              clear HU e0v e1v H21 KB21 B21 br21 b22
              rcases ha with rfl | ha
              · replace hp0 := Lib.hid hp0
                go_wp2_with fail
                go_quiet (fail)
                have H23 := Lib.hid (H22.out.below (below_drewN (Below.refl _ _) nq))
                have KB23 := Lib.hid (KB22.out.below (below_drewN (Below.refl _ _) nq))
                obtain ⟨w23, hw23⟩ : ∃ w23, w23 = w22.drewN nq := ⟨_, rfl⟩
                rw [← hw23] at H23 KB23 ⊢
                replace hw23 := Lib.hid hw23
                clear H22 KB22 B22 br22
                have cKr := KB23.out.cK
                have SMr := KB23.out.set
                go_wp2_with (at_range; refine wpList_setm_range rfl (.tmp 162) rfl SMr rfl ?_; intro wR cnt hR hbR hsR)
                (try go_frame)
                obtain ⟨rI, hrI⟩ : ∃ rI, rI = w23.heap.size := ⟨_, rfl⟩
                rw [← hrI] at hR ⊢
                have hRh := Lib.hid hR
                replace hrI := Lib.hid hrI
                replace hbR := Lib.hid hbR
                clear hR hsR cKr SMr
                go_loopw [] (fun wq => ∃ ct, Hid (SetR wq bm rI n ks ct) ∧ Hid (Below w23.heap.size w23 wq)) (fun wq => wq.rangeLeft bm rI)
                case atStart => exact ⟨cnt, hRh, hbR⟩
                case round =>
                  clear hRh hbR
                  obtain ⟨ct, hRq, hbq⟩ := hrel
                  go_wp2_with (at_next; refine wpList_setm_next rfl (.tmp 163) rfl hRq.out rfl (stop_here ?_) ?_)
                  · refine go_on ?_
                    clear hRq
                    have HF := Lib.hid (H23.out.below hbq.out)
                    have KF := Lib.hid (KB23.out.below hbq.out)
                    clear hbq
                    go_wp2_with fail
                    go_roundw
                    case rel => exact ⟨k + 1, Ti, ks, n, wv, by omega, by go_num, by omega, HF, KSi, KF, hc2⟩
                    case measure => simp [intOf]; omega
                  · intro x c w73 cnt73 hx hwx hR73 hlt73 hg73 hs73 hen
                    have hb73 : Below w23.heap.size w23 w73 := hbq.out.grown hg73 hbq.out.size (fun j e => by cases e; exact Nat.le_of_eq hrI.out.symm)
                    have hlf : Hid (cnt73 < wr.rangeLeft bm rI) := Lib.hid (by rw [hRq.out.left]; exact hlt73)
                    have hxm := KSi.out.ke x hx
                    have hxb := mis_pos H23.out.inv.toInv0 hxm
                    have HSz := lx_sizeB (H23.out.below hb73) x (by omega)
                    obtain ⟨⟨n9, mk9, is9⟩, hs9⟩ : ∃ r, sSize Ti.S x = r := ⟨_, rfl⟩
                    have hi9 : is9 = true := by
                      have : (sSize Ti.S x).2.2 = true := hxm
                      rw [hs9] at this
                      exact this
                    subst hi9
                    rw [hs9] at HSz
                    dsimp only at HSz
                    have cH73 := (KB23.out.below hb73).cH
                    have hb73h := Lib.hid hb73
                    replace HSz := Lib.hid HSz
                    replace hR73 := Lib.hid hR73
                    replace hs9 := Lib.hid hs9
                    replace hxm := Lib.hid hxm
                    replace hxb := Lib.hid hxb
                    clear hx hwx hlt73 hg73 hs73 hRq hbq hb73
                    go_wp2_with fail
                    refine HSz.out.mono ?_
                    rintro e w76 ⟨rfl, b76⟩
                    have hR76 := Lib.hid (hR73.out.kept b76)
                    have hb76 := Lib.hid (hb73h.out.trans (b76.mono hb73h.out.size))
                    have hlf76 : Hid (w76.rangeLeft bm rI < wr.rangeLeft bm rI) := Lib.hid (by rw [hR76.out.left]; exact hlf.out)
                    clear HSz b76 hR73 hb73h cH73 hen
                    go_wp2_with fail
                    go_roundw
                    case rel => exact ⟨cnt73, hR76, hb76⟩
                    case measure => exact hlf76.out
              · have hab := Lib.hid (mis_pos H22.out.inv.toInv0 (KSi.out.ke a ha))
                have ya : (a != 0) = true := by have := hab.out; simp; omega
                replace ya := Lib.hid ya
                obtain ⟨kf, hkf⟩ : ∃ kf : Nat, xk % 2 = (kf : Int) := ⟨(xk % 2).toNat, by omega⟩
                have hk2f : kf < 2 := by omega
                have hxk := hbd.out.k
                have wk := Lib.hid (show IntKind.i64.wrap xk = xk by rw [IntKind.wrap_i64]; omega)
                have tk := Lib.hid (show xk.tmod 2 = (kf : Int) from (Int.tmod_eq_emod_of_nonneg hxk.1).trans hkf)
                have HG := Lib.hid (Hi.out.guard br22.out)
                have HU2 := Lib.hid (fun wx (bx : Below w22.heap.size w22 wx) => use_ok (H22.out.below bx) (KB22.out.below bx).cH (KB22.out.below bx).cK (KB22.out.below bx).lt.2.2.1 (KB22.out.below bx).set xb hbd.out.b)
                have c022 := H22.out.cells.1
                have cw22 := KB22.out.cW
                have d2 : w22.cell? ⟨gA, 2, none⟩ = some (.int .u8 xb) := B22.out.cell 2
                have d3 : w22.cell? ⟨gA, 3, none⟩ = some (.int .u8 xk) := B22.out.cell 3
                have hq22 := H22.out.cells.2.1
                have hW22 := KB22.out.lt.1
                have hA22 := B22.out.lt
                have hAr : wr.heap.size ≤ gA := Nat.le_of_eq hgA.out.symm
                replace hp0 := Lib.hid hp0
                replace hkf := Lib.hid hkf
                replace hxk := Lib.hid hxk
                go_wp2_with fail
                have hS0 : (fun X : World => X.cell? ⟨q, 0, none⟩ = some (.pointer (some ⟨s, 0, none⟩)) ∧ X.cell? ⟨gW, 0, none⟩ = some (.pointer (some ⟨q, 0, none⟩)) ∧ X.cell? ⟨gA, 2, none⟩ = some (.int .u8 xb) ∧ X.cell? ⟨gA, 3, none⟩ = some (.int .u8 xk)) w22.drew := ⟨c022, cw22, d2, d3⟩
                refine wp_T (by kernel_rfl) 19 (fun X : World => X.cell? ⟨q, 0, none⟩ = some (.pointer (some ⟨s, 0, none⟩)) ∧ X.cell? ⟨gW, 0, none⟩ = some (.pointer (some ⟨q, 0, none⟩)) ∧ X.cell? ⟨gA, 2, none⟩ = some (.int .u8 xb) ∧ X.cell? ⟨gA, 3, none⟩ = some (.int .u8 xk)) ?_
                refine wpAnyT_takeA (i := 0) (v := .int .i64 a) rfl (by kernel_rfl) rfl (fun _ _ _ hp => hp) (Or.inl ⟨by kernel_rfl, fun X _ => by go_simp⟩) hS0 ?_
                simp only [Act.put, List.getElem_toArray, List.getElem_cons_succ, List.getElem_cons_zero, List.setIfInBounds_toArray, List.set_cons_zero, List.set_cons_succ]
                refine wpAnyT_takeA (i := 1) (v := .bool true) rfl (by kernel_rfl) rfl (fun _ _ _ hp => hp) (Or.inl ⟨by kernel_rfl, fun X _ => by have yaz := ya.out; go_simp⟩) hS0 ?_
                simp only [Act.put, List.getElem_toArray, List.getElem_cons_succ, List.getElem_cons_zero, List.setIfInBounds_toArray, List.set_cons_zero, List.set_cons_succ]
                refine wpAnyT_takeA (i := 2) (v := .bool true) rfl (by kernel_rfl) rfl (fun _ _ _ hp => hp) (Or.inl ⟨by kernel_rfl, fun X _ => by go_simp⟩) hS0 ?_
                simp only [Act.put, List.getElem_toArray, List.getElem_cons_succ, List.getElem_cons_zero, List.setIfInBounds_toArray, List.set_cons_zero, List.set_cons_succ]
                refine wpAnyT_takeA (i := 3) (v := .pointer (some ⟨q, 0, none⟩)) rfl (by kernel_rfl) rfl (fun _ _ _ hp => hp) (Or.inl ⟨by kernel_rfl, fun X hX => by have hX1 : (fun X : World => X.cell? ⟨q, 0, none⟩ = some (.pointer (some ⟨s, 0, none⟩)) ∧ X.cell? ⟨gW, 0, none⟩ = some (.pointer (some ⟨q, 0, none⟩)) ∧ X.cell? ⟨gA, 2, none⟩ = some (.int .u8 xb) ∧ X.cell? ⟨gA, 3, none⟩ = some (.int .u8 xk)) X := hX; have y1 := hX1.2.1; go_simp⟩) hS0 ?_
                simp only [Act.put, List.getElem_toArray, List.getElem_cons_succ, List.getElem_cons_zero, List.setIfInBounds_toArray, List.set_cons_zero, List.set_cons_succ]
                refine wpAnyT_takeA (i := 4) (v := .pointer (some ⟨q, 0, none⟩)) rfl (by kernel_rfl) rfl (fun _ _ _ hp => hp) (Or.inl ⟨by kernel_rfl, fun X _ => by go_simp⟩) hS0 ?_
                simp only [Act.put, List.getElem_toArray, List.getElem_cons_succ, List.getElem_cons_zero, List.setIfInBounds_toArray, List.set_cons_zero, List.set_cons_succ]
                refine wpAnyT_takeA (i := 5) (v := .pointer (some ⟨q, 0, none⟩)) rfl (by kernel_rfl) rfl (fun _ _ _ hp => hp) (Or.inl ⟨by kernel_rfl, fun X _ => by go_simp⟩) hS0 ?_
                simp only [Act.put, List.getElem_toArray, List.getElem_cons_succ, List.getElem_cons_zero, List.setIfInBounds_toArray, List.set_cons_zero, List.set_cons_succ]
                refine wpAnyT_takeA (i := 6) (v := .pointer (some ⟨s, 0, none⟩)) rfl (by kernel_rfl) rfl (fun _ _ _ hp => hp) (Or.inl ⟨by kernel_rfl, fun X hX => by have hX1 : (fun X : World => X.cell? ⟨q, 0, none⟩ = some (.pointer (some ⟨s, 0, none⟩)) ∧ X.cell? ⟨gW, 0, none⟩ = some (.pointer (some ⟨q, 0, none⟩)) ∧ X.cell? ⟨gA, 2, none⟩ = some (.int .u8 xb) ∧ X.cell? ⟨gA, 3, none⟩ = some (.int .u8 xk)) X := hX; have y1 := hX1.1; go_simp⟩) hS0 ?_
                simp only [Act.put, List.getElem_toArray, List.getElem_cons_succ, List.getElem_cons_zero, List.setIfInBounds_toArray, List.set_cons_zero, List.set_cons_succ]
                refine wpAnyT_takeA (i := 7) (v := .int .i64 a) rfl (by kernel_rfl) rfl (fun _ _ _ hp => hp) (Or.inl ⟨by kernel_rfl, fun X _ => by go_simp⟩) hS0 ?_
                simp only [Act.put, List.getElem_toArray, List.getElem_cons_succ, List.getElem_cons_zero, List.setIfInBounds_toArray, List.set_cons_zero, List.set_cons_succ]
                refine wpAnyT_takeA (i := 8) (v := .pointer (some ⟨gA, 3, none⟩)) rfl (by kernel_rfl) rfl (fun _ _ _ hp => hp) (Or.inl ⟨by kernel_rfl, fun X _ => by go_simp⟩) hS0 ?_
                simp only [Act.put, List.getElem_toArray, List.getElem_cons_succ, List.getElem_cons_zero, List.setIfInBounds_toArray, List.set_cons_zero, List.set_cons_succ]
                refine wpAnyT_takeA (i := 9) (v := .int .u8 xk) rfl (by kernel_rfl) rfl (fun _ _ _ hp => hp) (Or.inl ⟨by kernel_rfl, fun X hX => by have hX1 : (fun X : World => X.cell? ⟨q, 0, none⟩ = some (.pointer (some ⟨s, 0, none⟩)) ∧ X.cell? ⟨gW, 0, none⟩ = some (.pointer (some ⟨q, 0, none⟩)) ∧ X.cell? ⟨gA, 2, none⟩ = some (.int .u8 xb) ∧ X.cell? ⟨gA, 3, none⟩ = some (.int .u8 xk)) X := hX; have y1 := hX1.2.2.2; go_simp⟩) hS0 ?_
                simp only [Act.put, List.getElem_toArray, List.getElem_cons_succ, List.getElem_cons_zero, List.setIfInBounds_toArray, List.set_cons_zero, List.set_cons_succ]
                refine wpAnyT_takeA (i := 10) (v := .int .i64 xk) rfl (by kernel_rfl) rfl (fun _ _ _ hp => hp) (Or.inl ⟨by kernel_rfl, fun X _ => by have wkz := wk.out; go_simp⟩) hS0 ?_
                simp only [Act.put, List.getElem_toArray, List.getElem_cons_succ, List.getElem_cons_zero, List.setIfInBounds_toArray, List.set_cons_zero, List.set_cons_succ]
                refine wpAnyT_takeA (i := 11) (v := .int .i64 (kf : Int)) rfl (by kernel_rfl) rfl (fun _ _ _ hp => hp) (Or.inl ⟨by kernel_rfl, fun X _ => by have tkz := tk.out; go_simp⟩) hS0 ?_
                simp only [Act.put, List.getElem_toArray, List.getElem_cons_succ, List.getElem_cons_zero, List.setIfInBounds_toArray, List.set_cons_zero, List.set_cons_succ]
                refine wpAnyT_takeA (i := 12) (v := .func (.func 19) #[] #[.pointer (some ⟨gH, 0, none⟩), .pointer (some ⟨gK, 0, none⟩)]) rfl (by kernel_rfl) rfl (fun _ _ _ hp => hp) (Or.inl ⟨by kernel_rfl, fun X _ => by go_simp⟩) hS0 ?_
                simp only [Act.put, List.getElem_toArray, List.getElem_cons_succ, List.getElem_cons_zero, List.setIfInBounds_toArray, List.set_cons_zero, List.set_cons_succ]
                refine wpAnyT_takeA (i := 13) (v := .pointer (some ⟨gA, 2, none⟩)) rfl (by kernel_rfl) rfl (fun _ _ _ hp => hp) (Or.inl ⟨by kernel_rfl, fun X _ => by go_simp⟩) hS0 ?_
                simp only [Act.put, List.getElem_toArray, List.getElem_cons_succ, List.getElem_cons_zero, List.setIfInBounds_toArray, List.set_cons_zero, List.set_cons_succ]
                refine wpAnyT_takeA (i := 14) (v := .int .u8 xb) rfl (by kernel_rfl) rfl (fun _ _ _ hp => hp) (Or.inl ⟨by kernel_rfl, fun X hX => by have hX1 : (fun X : World => X.cell? ⟨q, 0, none⟩ = some (.pointer (some ⟨s, 0, none⟩)) ∧ X.cell? ⟨gW, 0, none⟩ = some (.pointer (some ⟨q, 0, none⟩)) ∧ X.cell? ⟨gA, 2, none⟩ = some (.int .u8 xb) ∧ X.cell? ⟨gA, 3, none⟩ = some (.int .u8 xk)) X := hX; have y1 := hX1.2.2.1; go_simp⟩) hS0 ?_
                simp only [Act.put, List.getElem_toArray, List.getElem_cons_succ, List.getElem_cons_zero, List.setIfInBounds_toArray, List.set_cons_zero, List.set_cons_succ]
                refine wpAnyT_one (i := 15) rfl (by kernel_rfl) (by kernel_rfl) ?_
                intro K1 hK1
                go_simp
                refine (HU2.out _ (Below.refl _ _).drew).mono ?_
                rintro e w23 ⟨⟨b9, rfl, hb9⟩, bb⟩
                dsimp only
                have bb2 : Below w22.heap.size w22 w23 := Below.trans (show Below w22.heap.size w22 w22.drew from (Below.refl _ _).drew) (Below.mono bb (show w22.heap.size ≤ w22.drew.heap.size from Nat.le_refl _))
                have hS1 : (fun X : World => X.cell? ⟨q, 0, none⟩ = some (.pointer (some ⟨s, 0, none⟩)) ∧ X.cell? ⟨gW, 0, none⟩ = some (.pointer (some ⟨q, 0, none⟩)) ∧ X.cell? ⟨gA, 2, none⟩ = some (.int .u8 xb) ∧ X.cell? ⟨gA, 3, none⟩ = some (.int .u8 xk)) w23 := ⟨(bb2.cell (p := ⟨q, 0, none⟩) hq22).trans c022, (bb2.cell (p := ⟨gW, 0, none⟩) hW22).trans cw22, (bb2.cell (p := ⟨gA, 2, none⟩) hA22).trans d2, (bb2.cell (p := ⟨gA, 3, none⟩) hA22).trans d3⟩
                refine hK1.out _ _ (fun _ => hS1) ?_
                (try simp only [Act.put, List.getElem_toArray, List.getElem_cons_succ, List.getElem_cons_zero, List.setIfInBounds_toArray, List.set_cons_zero, List.set_cons_succ])
                refine wpAnyT_one (i := 16) rfl (by kernel_rfl) (by kernel_rfl) ?_
                intro K2 hK2
                have hbx : -9223372036854775808 ≤ b9 ∧ b9 ≤ 9223372036854775807 := by
                  rcases hb9 with h | h
                  · omega
                  · have := mis_pos HG.out.inv.toInv0 (KSi.out.ke b9 h); omega
                obtain ⟨e9, KS2, hl2, -⟩ := ks_put HG.out.inv KSi.out hp0.out ha hb9 hk2f
                have HPt := lx_put (HG.out.below bb2) a (kf : Int) b9 true (by have := hab.out; omega) hbx
                rw [e9] at HPt
                obtain ⟨T2, hT2⟩ : ∃ T2, T2 = (qPut Ti a (kf : Int) b9 true).1 := ⟨_, rfl⟩
                rw [← hT2] at HPt KS2 hl2
                go_simp
                refine HPt.mono ?_
                rintro e w24 ⟨rfl, H24⟩
                dsimp only
                have hS2 : (fun X : World => X.cell? ⟨q, 0, none⟩ = some (.pointer (some ⟨s, 0, none⟩)) ∧ X.cell? ⟨gW, 0, none⟩ = some (.pointer (some ⟨q, 0, none⟩)) ∧ X.cell? ⟨gA, 2, none⟩ = some (.int .u8 xb) ∧ X.cell? ⟨gA, 3, none⟩ = some (.int .u8 xk)) w24 := ⟨H24.cells.1, (KB22.out.next fun j hj => LX.qkeep HG.out H24 (.inl hj)).cW, cell_keep H24 hAr hA22 d2, cell_keep H24 hAr hA22 d3⟩
                replace H24 := Lib.hid H24
                refine hK2.out _ _ (fun _ => hS2) ?_
                (try simp only [Act.put, List.getElem_toArray, List.getElem_cons_succ, List.getElem_cons_zero, List.setIfInBounds_toArray, List.set_cons_zero, List.set_cons_succ])
                refine wpAnyT_takeA (i := 17) (v := .bool false) rfl (by kernel_rfl) rfl (fun _ _ _ hp => hp) (Or.inl ⟨by kernel_rfl, fun X _ => by go_simp⟩) hS2 ?_
                simp only [Act.put, List.getElem_toArray, List.getElem_cons_succ, List.getElem_cons_zero, List.setIfInBounds_toArray, List.set_cons_zero, List.set_cons_succ]
                refine wpAnyT_takeA (i := 18) (v := .bool false) rfl (by kernel_rfl) rfl (fun _ _ _ hp => hp) (Or.inl ⟨by kernel_rfl, fun X _ => by go_simp⟩) hS2 ?_
                simp only [Act.put, List.getElem_toArray, List.getElem_cons_succ, List.getElem_cons_zero, List.setIfInBounds_toArray, List.set_cons_zero, List.set_cons_succ]
                refine wpAnyT_done (by kernel_rfl) ?_ _
                (try simp only [Act.put, List.getElem_toArray, List.getElem_cons_succ, List.getElem_cons_zero, List.setIfInBounds_toArray, List.set_cons_zero, List.set_cons_succ])
                clear hK1 K1 hK2 K2
                have KB24 := Lib.hid (KB22.out.next fun j hj => LX.qkeep HG.out H24.out (.inl hj))
                have HF24 := Lib.hid (Hi.out.unguard br22.out H24.out)
                have hc24 : Hid (T2.S.objs.length ≤ 120 + (k + 1)) := Lib.hid (by have := hci.out; omega)
                replace KS2 := Lib.hid KS2
                replace hT2 := Lib.hid hT2
                clear HU2 HG H22 KB22 B22 H24 c022 cw22 d2 d3 hS0 hS1 hS2 e9 bb bb2 hl2
                have cKr := KB24.out.cK
                have SMr := KB24.out.set
                go_wp2_with (at_range; refine wpList_setm_range rfl (.tmp 162) rfl SMr rfl ?_; intro wR cnt hR hbR hsR)
                (try go_frame)
                obtain ⟨rI, hrI⟩ : ∃ rI, rI = w24.heap.size := ⟨_, rfl⟩
                rw [← hrI] at hR ⊢
                have hRh := Lib.hid hR
                replace hrI := Lib.hid hrI
                replace hbR := Lib.hid hbR
                clear hR hsR cKr SMr
                go_loopw [] (fun wq => ∃ ct, Hid (SetR wq bm rI n ks ct) ∧ Hid (Below w24.heap.size w24 wq)) (fun wq => wq.rangeLeft bm rI)
                case atStart => exact ⟨cnt, hRh, hbR⟩
                case round =>
                  clear hRh hbR
                  obtain ⟨ct, hRq, hbq⟩ := hrel
                  go_wp2_with (at_next; refine wpList_setm_next rfl (.tmp 163) rfl hRq.out rfl (stop_here ?_) ?_)
                  · refine go_on ?_
                    clear hRq
                    have HF := Lib.hid (HF24.out.below hbq.out)
                    have KF := Lib.hid (KB24.out.below hbq.out)
                    clear hbq
                    go_wp2_with fail
                    go_roundw
                    case rel => exact ⟨k + 1, T2, ks, n, wv, by omega, by go_num, by omega, HF, KS2, KF, hc24⟩
                    case measure => simp [intOf]; omega
                  · intro x c w73 cnt73 hx hwx hR73 hlt73 hg73 hs73 hen
                    have hb73 : Below w24.heap.size w24 w73 := hbq.out.grown hg73 hbq.out.size (fun j e => by cases e; exact Nat.le_of_eq hrI.out.symm)
                    have hlf : Hid (cnt73 < wr.rangeLeft bm rI) := Lib.hid (by rw [hRq.out.left]; exact hlt73)
                    have hxm := KS2.out.ke x hx
                    have hxb := mis_pos HF24.out.inv.toInv0 hxm
                    have HSz := lx_sizeB (HF24.out.below hb73) x (by omega)
                    obtain ⟨⟨n9, mk9, is9⟩, hs9⟩ : ∃ r, sSize T2.S x = r := ⟨_, rfl⟩
                    have hi9 : is9 = true := by
                      have : (sSize T2.S x).2.2 = true := hxm
                      rw [hs9] at this
                      exact this
                    subst hi9
                    rw [hs9] at HSz
                    dsimp only at HSz
                    have cH73 := (KB24.out.below hb73).cH
                    have hb73h := Lib.hid hb73
                    replace HSz := Lib.hid HSz
                    replace hR73 := Lib.hid hR73
                    replace hs9 := Lib.hid hs9
                    replace hxm := Lib.hid hxm
                    replace hxb := Lib.hid hxb
                    clear hx hwx hlt73 hg73 hs73 hRq hbq hb73
                    go_wp2_with fail
                    refine HSz.out.mono ?_
                    rintro e w76 ⟨rfl, b76⟩
                    have hR76 := Lib.hid (hR73.out.kept b76)
                    have hb76 := Lib.hid (hb73h.out.trans (b76.mono hb73h.out.size))
                    have hlf76 : Hid (w76.rangeLeft bm rI < wr.rangeLeft bm rI) := Lib.hid (by rw [hR76.out.left]; exact hlf.out)
                    clear HSz b76 hR73 hb73h cH73 hen
                    go_wp2_with fail
                    go_roundw
                    case rel => exact ⟨cnt73, hR76, hb76⟩
                    case measure => exact hlf76.out
            have y1z : (z == 1) = false := beq_eq_false_iff_ne.2 h1
            have y4z : (z == 4) = false := beq_eq_false_iff_ne.2 h4
            have y5z : (z == 5) = false := beq_eq_false_iff_ne.2 h5
            have y6z : (z == 6) = false := beq_eq_false_iff_ne.2 h6
            clear h1 h4 h5 h6
            have hks := ks_step H21.out.inv KSi.out hp0 I0.out CL0.out hl0.out xx hbd.out.x
            have HSt := fun wx (bx : Below w21.heap.size w21 wx) => lx_step (H21.out.below bx) (KSi.out.sok H21.out.inv.toInv0 hp0) xx hbd.out.x
            obtain ⟨T2, hT2⟩ : ∃ T2, T2 = (qStep Ti xx).1 := ⟨_, rfl⟩
            rw [hks.1, if_pos rfl] at HSt
            rw [← hT2] at hks HSt
            obtain ⟨p2, hp2⟩ : ∃ p2, p2 = T2.ph := ⟨_, rfl⟩
            rw [← hp2] at HSt
            replace hp2 := Lib.hid hp2
            replace HSt := Lib.hid HSt
            have KS2 := Lib.hid hks.2.1
            have hc2 : Hid (T2.S.objs.length ≤ 120 + (k + 1)) := Lib.hid (by have := hci.out; have := hks.2.2; omega)
            have cw21 := KB21.out.cW
            have c021 := H21.out.cells.1
            have hW21 := KB21.out.lt.1
            have hq21 := H21.out.cells.2.1
            have e5v : w21.cell? ⟨gA, 5, none⟩ = some (.int .i64 xx) := B21.out.cell 5
            have hA21 := B21.out.lt
            replace hT2 := Lib.hid hT2
            replace hp0 := Lib.hid hp0
            clear hks
            go_wp2_with fail
            have hS0 : (fun X : World => Below w21.heap.size w21 X) w21.drew := (Below.refl _ _).drew
            refine wp_T (by kernel_rfl) 6 (fun X : World => Below w21.heap.size w21 X) ?_
            refine wpAnyT_takeC (i := 0) (v := .pointer (some ⟨q, 0, none⟩)) [1, 2, 3] rfl (by kernel_rfl) (fun _ _ _ hp => hp) (Or.inl ⟨by kernel_rfl, fun X hX => by have y1 := (hX.cell (p := ⟨gW, 0, none⟩) hW21).trans cw21; go_simp⟩) hS0 ?_
            simp only [Act.put, List.getElem_toArray, List.getElem_cons_succ, List.getElem_cons_zero, List.setIfInBounds_toArray, List.set_cons_zero, List.set_cons_succ]
            refine wpAnyT_takeW (i := 1) (v := .pointer (some ⟨q, 0, none⟩)) rfl (by kernel_rfl) (fun _ _ _ hp => hp) (Or.inl ⟨by kernel_rfl, fun X _ => by go_simp⟩) hS0 ?_
            simp only [Act.put, List.getElem_toArray, List.getElem_cons_succ, List.getElem_cons_zero, List.setIfInBounds_toArray, List.set_cons_zero, List.set_cons_succ]
            refine wpAnyT_takeW (i := 2) (v := .pointer (some ⟨q, 0, none⟩)) rfl (by kernel_rfl) (fun _ _ _ hp => hp) (Or.inl ⟨by kernel_rfl, fun X _ => by go_simp⟩) hS0 ?_
            simp only [Act.put, List.getElem_toArray, List.getElem_cons_succ, List.getElem_cons_zero, List.setIfInBounds_toArray, List.set_cons_zero, List.set_cons_succ]
            refine wpAnyT_takeC (i := 3) (v := .pointer (some ⟨s, 0, none⟩)) [] rfl (by kernel_rfl) (fun _ _ _ hp => hp) (Or.inl ⟨by kernel_rfl, fun X hX => by have y1 := (hX.cell (p := ⟨q, 0, none⟩) hq21).trans c021; go_simp⟩) hS0 ?_
            simp only [Act.put, List.getElem_toArray, List.getElem_cons_succ, List.getElem_cons_zero, List.setIfInBounds_toArray, List.set_cons_zero, List.set_cons_succ]
            refine wpAnyT_takeW (i := 4) (v := .pointer (some ⟨gA, 5, none⟩)) rfl (by kernel_rfl) (fun _ _ _ hp => hp) (Or.inl ⟨by kernel_rfl, fun X _ => by go_simp⟩) hS0 ?_
            simp only [Act.put, List.getElem_toArray, List.getElem_cons_succ, List.getElem_cons_zero, List.setIfInBounds_toArray, List.set_cons_zero, List.set_cons_succ]
            refine wpAnyT_takeC (i := 5) (v := .int .i64 xx) [] rfl (by kernel_rfl) (fun _ _ _ hp => hp) (Or.inl ⟨by kernel_rfl, fun X hX => by have y1 := (hX.cell (p := ⟨gA, 5, none⟩) hA21).trans e5v; go_simp⟩) hS0 ?_
            simp only [Act.put, List.getElem_toArray, List.getElem_cons_succ, List.getElem_cons_zero, List.setIfInBounds_toArray, List.set_cons_zero, List.set_cons_succ]
            refine wpAnyT_one (i := 6) rfl (by kernel_rfl) (by kernel_rfl) ?_
            intro K1 hK1
            go_simp
            refine (HSt.out _ (Below.refl _ _).drew).mono ?_
            rintro e w22 ⟨rfl, H22⟩
            dsimp only
            refine hK1.out _ _ (fun hh => absurd rfl hh) ?_
            (try simp only [Act.put, List.getElem_toArray, List.getElem_cons_succ, List.getElem_cons_zero, List.setIfInBounds_toArray, List.set_cons_zero, List.set_cons_succ])
            refine wpAnyT_done (by kernel_rfl) ?_ _
            (try simp only [Act.put, List.getElem_toArray, List.getElem_cons_succ, List.getElem_cons_zero, List.setIfInBounds_toArray, List.set_cons_zero, List.set_cons_succ])
            clear hK1 K1
            have KB22 := Lib.hid (KB21.out.next fun j hj => LX.qkeep H21.out H22 hj)
            replace H22 := Lib.hid H22
            clear HSt H21 KB21 cw21 c021 KSi e0v e5v hS0 B21 y1z y4z y5z y6z
            replace hz := Lib.hid hz
            go_step
            go_step
            have cKr := KB22.out.cK
            have SMr := KB22.out.set
            go_wp2_with (at_range; refine wpList_setm_range rfl (.tmp 162) rfl SMr rfl ?_; intro wR cnt hR hbR hsR)
            (try go_frame)
            obtain ⟨rI, hrI⟩ : ∃ rI, rI = w22.heap.size := ⟨_, rfl⟩
            rw [← hrI] at hR ⊢
            have hRh := Lib.hid hR
            replace hrI := Lib.hid hrI
            replace hbR := Lib.hid hbR
            clear hR hsR cKr SMr
            go_loopw [] (fun wq => ∃ ct, Hid (SetR wq bm rI n ks ct) ∧ Hid (Below w22.heap.size w22 wq)) (fun wq => wq.rangeLeft bm rI)
            case atStart => exact ⟨cnt, hRh, hbR⟩
            case round =>
              clear hRh hbR
              obtain ⟨ct, hRq, hbq⟩ := hrel
              go_wp2_with (at_next; refine wpList_setm_next rfl (.tmp 163) rfl hRq.out rfl (stop_here ?_) ?_)
              · refine go_on ?_
                clear hRq
                have HF := Lib.hid (H22.out.below hbq.out)
                have KF := Lib.hid (KB22.out.below hbq.out)
                clear hbq
                go_wp2_with fail
                go_roundw
                case rel => exact ⟨k + 1, T2, ks, n, wv, by omega, by go_num, by omega, HF, KS2, KF, hc2⟩
                case measure => simp [intOf]; omega
              · intro x c w73 cnt73 hx hwx hR73 hlt73 hg73 hs73 hen
                have hb73 : Below w22.heap.size w22 w73 := hbq.out.grown hg73 hbq.out.size (fun j e => by cases e; exact Nat.le_of_eq hrI.out.symm)
                have hlf : Hid (cnt73 < wr.rangeLeft bm rI) := Lib.hid (by rw [hRq.out.left]; exact hlt73)
                have hxm := KS2.out.ke x hx
                have hxb := mis_pos H22.out.inv.toInv0 hxm
                have HSz := lx_sizeB (H22.out.below hb73) x (by omega)
                obtain ⟨⟨n9, mk9, is9⟩, hs9⟩ : ∃ r, sSize T2.S x = r := ⟨_, rfl⟩
                have hi9 : is9 = true := by
                  have : (sSize T2.S x).2.2 = true := hxm
                  rw [hs9] at this
                  exact this
                subst hi9
                rw [hs9] at HSz
                dsimp only at HSz
                have cH73 := (KB22.out.below hb73).cH
                have hb73h := Lib.hid hb73
                replace HSz := Lib.hid HSz
                replace hR73 := Lib.hid hR73
                replace hs9 := Lib.hid hs9
                replace hxm := Lib.hid hxm
                replace hxb := Lib.hid hxb
                clear hx hwx hlt73 hg73 hs73 hRq hbq hb73
                go_wp2_with fail
                refine HSz.out.mono ?_
                rintro e w76 ⟨rfl, b76⟩
                have hR76 := Lib.hid (hR73.out.kept b76)
                have hb76 := Lib.hid (hb73h.out.trans (b76.mono hb73h.out.size))
                have hlf76 : Hid (w76.rangeLeft bm rI < wr.rangeLeft bm rI) := Lib.hid (by rw [hR76.out.left]; exact hlf.out)
                clear HSz b76 hR73 hb73h cH73 hen
                go_wp2_with fail
                go_roundw
                case rel => exact ⟨cnt73, hR76, hb76⟩
                case measure => exact hlf76.out
        · obtain rfl : k = acts2.length := by omega
          have hcyc : Hid (Ti.ph ≠ 0 → (∃ r, Cyc Ti r ∧ r + 0 ≤ 490) ∧ (Ti.ph = 1 → Ti.left = [])) := Lib.hid fun hp => by
            obtain ⟨⟨r, c1, c2⟩, c3⟩ := KSi.out.cyc Hi.out.inv.toInv0 (LX.gi Hi.out) hp (c := 240) (by have := hci9.out; omega)
            exact ⟨⟨r, c1, by omega⟩, c3⟩
          go_wp2_with fail
          go_loopw [28] (fun i wz => ∃ (j : Nat) (Tj : SS), j ≤ 490 ∧ i = .int .i64 j ∧ Hid (LX ⟨w1, Qp, wv⟩ wz q s h m Tj D) ∧ Hid (KSt S0 lp Tj ks) ∧ Hid (KB Qp wz gW gH gK gC bm n q h ks old (.slice Al old.length cl)) ∧ Hid (Tj.ph ≠ 0 → (∃ r, Cyc Tj r ∧ r + j ≤ 490) ∧ (Tj.ph = 1 → Tj.left = []))) (fun i _ => 600 - (intOf i).toNat)
          case atStart => exact ⟨0, Ti, by omega, rfl, Hi, KSi, KBi, hcyc⟩
          case round =>
            clear Hi KSi KBi hcyc
            obtain ⟨j, Tj, hj, rfl, Hj, KSj, KBj, hcj⟩ := hrel
            have HEn := Lib.hid (ended_ok Hj.out KBj.out.cW KBj.out.cC KBj.out.lt.1 KBj.out.lt.2.2.2 KSj.out.ended)
            go_wp2_with fail
            refine HEn.out.mono ?_
            rintro e w31 ⟨rfl, b31⟩
            have H31 := Lib.hid (Hj.out.below b31)
            have KB31 := Lib.hid (KBj.out.below b31)
            clear HEn Hj KBj b31
            by_cases hp0 : Tj.ph = 0
            · rw [decide_eq_true hp0]
              have hof : Hid (KOff S0 Tj ks) := Lib.hid (by
                cases KSj.out with
                | mark h => have := h.ph; omega
                | sweep h => have := h.ph; omega
                | off h => exact h)
              replace hp0 := Lib.hid hp0
              clear hcj
              have cKr := KB31.out.cK
              have SMr := KB31.out.set
              go_wp2_with (at_range; refine wpList_setm_range rfl (.tmp 197) rfl SMr rfl ?_; intro wR cnt hR hbR hsR)
              (try go_frame)
              obtain ⟨rI, hrI⟩ : ∃ rI, rI = w31.heap.size := ⟨_, rfl⟩
              rw [← hrI] at hR ⊢
              have hRh := Lib.hid hR
              replace hrI := Lib.hid hrI
              replace hbR := Lib.hid hbR
              clear hR hsR cKr SMr
              go_loopw [] (fun wq => ∃ ct, Hid (SetR wq bm rI n ks ct) ∧ Hid (Below w31.heap.size w31 wq)) (fun wq => wq.rangeLeft bm rI)
              case atStart => exact ⟨cnt, hRh, hbR⟩
              case round =>
                clear hRh hbR
                obtain ⟨ct, hRq, hbq⟩ := hrel
                go_wp2_with (at_next; refine wpList_setm_next rfl (.tmp 198) rfl hRq.out rfl (stop_here ?_) ?_)
                · refine go_on ?_
                  clear hRq
                  go_wp2_with fail
                  go_loopw [214] (fun i wz => ∃ j6 : Nat, j6 ≤ old.length ∧ i = .int .i64 j6 ∧ Hid (Below w31.heap.size w31 wz)) (fun i _ => old.length - (intOf i).toNat)
                  case atStart => exact ⟨0, by omega, rfl, hbq⟩
                  case round =>
                    clear hbq
                    obtain ⟨j6, hj6, rfl, hb6⟩ := hrel
                    have KB6 := KB31.out.below hb6.out
                    have H6 := H31.out.below hb6.out
                    by_cases hlt6 : j6 < old.length
                    · have t6 : (j6 : Int) < (old.length : Int) := by omega
                      obtain ⟨bo, oo, rfl, _, hc6⟩ := KB6.rdo.at_ hlt6
                      obtain ⟨x, hx⟩ : ∃ x, x = old[j6] := ⟨_, rfl⟩
                      have hx0 := hold0.out x (by rw [hx]; exact List.getElem_mem hlt6)
                      have hxb := mis_pos I0.out hx0
                      have hod := hof.out.od x hx0
                      rw [← hx] at hc6
                      replace hc6 : wr.cell? ⟨bo, oo + j6, none⟩ = some (.int .i64 x) := hc6
                      have HSz := lx_sizeB H6 x (by omega)
                      obtain ⟨⟨n9, mk9, is9⟩, hs9⟩ : ∃ r, sSize Tj.S x = r := ⟨_, rfl⟩
                      have hi9 : is9 = true → x ∈ ks := fun e => by
                        refine hod.resolve_right fun h => ?_
                        have h2 : (sSize Tj.S x).2.2 = false := h
                        rw [hs9] at h2
                        rw [e] at h2
                        cases h2
                      rw [hs9] at HSz
                      dsimp only at HSz
                      have cH6 := KB6.cH
                      have hwx := wf_i64 (x := x) (by omega)
                      replace HSz := Lib.hid HSz
                      replace KB6 := Lib.hid KB6
                      replace hs9 := Lib.hid hs9
                      replace hx := Lib.hid hx
                      replace hx0 := Lib.hid hx0
                      replace hxb := Lib.hid hxb
                      replace hod := Lib.hid hod
                      clear H6
                      rcases is9 with _ | _
                      · replace hi9 := Lib.hid hi9
                        go_wp2_with fail
                        refine HSz.out.mono ?_
                        rintro e w61 ⟨rfl, b61⟩
                        have hb61 := Lib.hid (hb6.out.trans (b61.mono hb6.out.size))
                        clear HSz hb6 b61 KB6 cH6 hc6
                        go_wp2_with fail
                        go_roundw
                        case rel => exact ⟨j6 + 1, by omega, by go_num, hb61⟩
                        case measure => simp [intOf]; omega
                      · have hxk := hi9 rfl
                        clear hi9
                        go_wp2_with fail
                        refine HSz.out.mono ?_
                        rintro e w61 ⟨rfl, b61⟩
                        have hb61 := Lib.hid (hb6.out.trans (b61.mono hb6.out.size))
                        have cK61 := (KB6.out.below b61).cK
                        have hlk := (KB6.out.below b61).set.look x hwx
                        rw [decide_eq_true hxk] at hlk
                        replace hxk := Lib.hid hxk
                        clear HSz hb6 b61 KB6 cH6 hc6
                        go_wp2_with fail
                        go_roundw
                        case rel => exact ⟨j6 + 1, by omega, by go_num, hb61⟩
                        case measure => simp [intOf]; omega
                    · obtain rfl : j6 = old.length := by omega
                      have bfin := Lib.hid (b1.out.trans (Below.mono H6.b b1.out.size))
                      clear KB6 H6 hb6
                      go_wp2_with fail
                      go_ret
                      exact ⟨rfl, bfin.out⟩
                · intro x c w73 cnt73 hx hwx hR73 hlt73 hg73 hs73 hen
                  have hb73 : Below w31.heap.size w31 w73 := hbq.out.grown hg73 hbq.out.size (fun j e => by cases e; exact Nat.le_of_eq hrI.out.symm)
                  have hlf : Hid (cnt73 < wr.rangeLeft bm rI) := Lib.hid (by rw [hRq.out.left]; exact hlt73)
                  have hxm := KSj.out.ke x hx
                  have hxb := mis_pos H31.out.inv.toInv0 hxm
                  have HSz := lx_sizeB (H31.out.below hb73) x (by omega)
                  obtain ⟨⟨n9, mk9, is9⟩, hs9⟩ : ∃ r, sSize Tj.S x = r := ⟨_, rfl⟩
                  have hi9 : is9 = true := by
                    have : (sSize Tj.S x).2.2 = true := hxm
                    rw [hs9] at this
                    exact this
                  subst hi9
                  rw [hs9] at HSz
                  dsimp only at HSz
                  have cH73 := (KB31.out.below hb73).cH
                  have hb73h := Lib.hid hb73
                  replace HSz := Lib.hid HSz
                  replace hR73 := Lib.hid hR73
                  replace hs9 := Lib.hid hs9
                  replace hxm := Lib.hid hxm
                  replace hxb := Lib.hid hxb
                  clear hx hwx hlt73 hg73 hs73 hRq hbq hb73
                  go_wp2_with fail
                  refine HSz.out.mono ?_
                  rintro e w76 ⟨rfl, b76⟩
                  have hR76 := Lib.hid (hR73.out.kept b76)
                  have hb76 := Lib.hid (hb73h.out.trans (b76.mono hb73h.out.size))
                  have hlf76 : Hid (w76.rangeLeft bm rI < wr.rangeLeft bm rI) := Lib.hid (by rw [hR76.out.left]; exact hlf.out)
                  clear HSz b76 hR73 hb73h cH73 hen
                  go_wp2_with fail
                  go_roundw
                  case rel => exact ⟨cnt73, hR76, hb76⟩
                  case measure => exact hlf76.out
            · rw [decide_eq_false hp0]
              obtain ⟨⟨r, hcc, hr⟩, hlf⟩ := hcj.out hp0
              have hr1 : 1 ≤ r := by cases hcc <;> omega
              have hst := cyc_step H31.out.inv hcc hlf 9 (by omega)
              have hks := ks_step H31.out.inv KSj.out hp0 I0.out CL0.out hl0.out 9 (by omega)
              have HSt := lx_step H31.out (KSj.out.sok H31.out.inv.toInv0 hp0) 9 (by omega)
              rw [hst.1, if_pos rfl] at HSt
              obtain ⟨T3, hT3⟩ : ∃ T3, T3 = (qStep Tj 9).1 := ⟨_, rfl⟩
              rw [← hT3] at HSt hst hks
              have KS3 := Lib.hid hks.2.1
              have hc3 : Hid (T3.ph ≠ 0 → (∃ r, Cyc T3 r ∧ r + (j + 1) ≤ 490) ∧ (T3.ph = 1 → T3.left = [])) := Lib.hid fun hp => by
                rcases hst.2 with h | ⟨k', h1, h2, h3, _⟩
                · exact absurd h.1 hp
                · exact ⟨⟨k', h1, by omega⟩, h3⟩
              obtain ⟨p3, hp3⟩ : ∃ p3, p3 = T3.ph := ⟨_, rfl⟩
              rw [← hp3] at HSt
              have tj : decide ((500 : Int) < (j : Int)) = false := by rw [decide_eq_false_iff_not]; omega
              have hj9 : j + 1 ≤ 490 := by omega
              have cw31 := KB31.out.cW
              have c031 := H31.out.cells.1
              replace HSt := Lib.hid HSt
              replace hT3 := Lib.hid hT3
              replace hp3 := Lib.hid hp3
              replace hp0 := Lib.hid hp0
              clear hst hks hcc hlf hcj KSj
              go_wp2_with fail
              refine HSt.out.mono ?_
              rintro e w32 ⟨rfl, H32⟩
              have KB32 := Lib.hid (KB31.out.next fun j hj => LX.qkeep H31.out H32 hj)
              replace H32 := Lib.hid H32
              clear HSt H31 KB31 cw31 c031
              go_wp2_with fail
              go_roundw
              case rel => exact ⟨j + 1, T3, hj9, by go_num, H32, KS3, KB32, hc3⟩
              case measure => simp [intOf]; omega
end Go.Proofs.YtcaboknbdamlhaaGreatDoor
