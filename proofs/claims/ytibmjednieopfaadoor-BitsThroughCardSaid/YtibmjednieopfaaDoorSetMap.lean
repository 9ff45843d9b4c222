/- A map from numbers to truths of the call's own, as the set of the numbers that are true. -/
import Derived.Test.YtibmjednieopfaaDoorBase
import Derived.Test.YtibmjednieopfaaDoorInfo
import Derived.Maps.Own
import Derived.Maps.Views
import Derived.Maps.Keyed
import Derived.Maps.OwnSet
set_option linter.unusedVariables false
set_option linter.unusedSimpArgs false
namespace Go.Proofs.YtibmjednieopfaaDoor
open Go.RowKit Go.Maps

theorem mapi_law : Keyed Tryd.prog 3 := int_keyed Tryd.underlying3
theorem mapb_zero (w : World) : (zeroValue 4).run Tryd.prog w = .ok (.bool false) w := by kernel_rfl
/-- Block b is a map that has true just at the numbers ks, each listed once; at most n entries. -/
def SetM (w : World) (b n : Nat) (ks : List Int) : Prop :=
  ∃ D : DataW Unit, w.ownsMap Tryd.prog 3 (plainElem Tryd.prog 4) b n D ∧ (∀ x, D.atKey (.int .i64 x) (.lit (.bool false)) = .lit (.bool (decide (x ∈ ks)))) ∧ (∀ x, Maps.has D (.int .i64 x) = decide (x ∈ ks)) ∧ ks.Nodup ∧ Maps.size D = ks.length
theorem SetM.new (w : World) : SetM (w.alloc (.map #[] 0)) w.heap.size 0 [] := ⟨.map [], World.ownsMap_made _ _ _ _, fun _ => rfl, fun _ => rfl, by simp, rfl⟩
theorem SetM.kept {w w' : World} {b n : Nat} {ks : List Int} (h : SetM w b n ks) (hb : Below w.heap.size w w') : SetM w' b n ks := by
  obtain ⟨D, h1, h2⟩ := h
  exact ⟨D, h1.kept (row := none) ⟨hb.os, hb.tape, hb.output, hb.size, fun k hk _ => hb.block k hk⟩ (by simp), h2⟩
theorem SetM.lt {w : World} {b n : Nat} {ks : List Int} (h : SetM w b n ks) : b < w.heap.size := by
  obtain ⟨D, h1, _⟩ := h
  exact h1.lt
theorem SetM.look {w : World} {b n : Nat} {ks : List Int} (h : SetM w b n ks) (x : Int) (hw : (Lit.int .i64 x).wf = true) :
    (Instr.lookup 36 (.map (some b)) (.int .i64 x) false).run Tryd.prog w = .ok (.bool (decide (x ∈ ks))) w := by
  obtain ⟨D, h1, h2, _⟩ := h
  obtain ⟨v, ps, hrun, hv⟩ := h1.lookup mapi_law Tryd.underlying36 (mapb_zero w) (plainElem_bool Tryd.underlying4 false) (keyOf_int_mk Tryd.underlying3 hw)
  rw [h2 x] at hv
  rw [hrun]
  cases v <;> simp [plainElem, Tryd.underlying4] at hv
  rw [hv.1]
def addK (ks : List Int) (x : Int) : List Int := if x ∈ ks then ks else ks ++ [x]
theorem mem_addK {ks : List Int} {x y : Int} : y ∈ addK ks x ↔ y ∈ ks ∨ y = x := by
  unfold addK
  split
  · rename_i h
    exact ⟨.inl, fun e => e.elim id fun e => e ▸ h⟩
  · simp
theorem addK_nodup {ks : List Int} {x : Int} (h : ks.Nodup) : (addK ks x).Nodup := by
  unfold addK
  split
  · exact h
  · rename_i hx
    rw [List.nodup_append]
    exact ⟨h, by simp, fun a ha b hb e => by rw [List.mem_singleton] at hb; subst hb e; exact hx ha⟩
theorem addK_len (ks : List Int) (x : Int) : (addK ks x).length ≤ ks.length + 1 := by
  unfold addK
  split <;> simp
theorem SetM.put {w' : World} {b n : Nat} {ks : List Int} {x : Int} {D : DataW Unit} (ht : Tidy D) (hkey : WideAt.IsKeyLit (.int .i64 x)) (h2 : ∀ x, D.atKey (.int .i64 x) (.lit (.bool false)) = .lit (.bool (decide (x ∈ ks)))) (h3 : ∀ x, Maps.has D (.int .i64 x) = decide (x ∈ ks)) (h4 : ks.Nodup) (h5 : Maps.size D = ks.length)
    (h1 : w'.ownsMap Tryd.prog 3 (plainElem Tryd.prog 4) b (n + 1) (D.put (.int .i64 x) (.lit (.bool true)))) : SetM w' b (n + 1) (addK ks x) := by
  have ne : ∀ {y : Int}, y ≠ x → (Lit.int .i64 y) ≠ .int .i64 x := by
    intro y h e
    injection e with _ e
    exact h e
  refine ⟨_, h1, fun y => ?_, fun y => ?_, addK_nodup h4, ?_⟩
  · by_cases e : y = x
    · subst e
      rw [atKey_put_same ht.isMap hkey, decide_eq_true (mem_addK.2 (.inr rfl))]
    · rw [atKey_put_other (ne e), h2 y]
      congr 3
      exact propext ⟨fun h => mem_addK.2 (.inl h), fun h => (mem_addK.1 h).elim id fun h => absurd h e⟩
  · by_cases e : y = x
    · subst e
      rw [has_put_same ht.isMap hkey, decide_eq_true (mem_addK.2 (.inr rfl))]
    · rw [has_put_other (ne e), h3 y, decide_eq_decide, mem_addK]
      exact ⟨.inl, fun h => h.elim id fun h => absurd h e⟩
  · rw [size_put ht, h3 x, h5]
    unfold addK
    by_cases e : x ∈ ks
    · rw [if_pos e, if_pos (decide_eq_true e)]
    · rw [if_neg e, if_neg (by simp [e])]
      simp
section
variable {w : World} {ops : Array Oper} {rest : List Oper} {o : Oper} {a : Act} {Q : Exit → Act → World → Prop}
theorem wpList_setm_new (hgd : o.guard = none) (ho : o.op = .makeMap 36 none)
    (hrun : (execOp a.eval o).run Tryd.prog w = .ok (.value (.map (some w.heap.size))) (w.alloc (.map #[] 0)))
    (h : ∀ w', w'.heap.size = w.heap.size + 1 → Below w.heap.size w w' → SetM w' w.heap.size 0 [] → wpList Tryd.prog ops Q rest (a.put o.dst (.map (some w.heap.size))) w') : wpList Tryd.prog ops Q (o :: rest) a w := by
  refine wpList_plain hgd fun K hK => ?_
  unfold Oper.wp
  rw [hrun]
  exact hK _ _ (h _ (by simp) (below_alloc w _) (SetM.new w))
theorem wpList_setm_put (hgd : o.guard = none) (m x v : Operand) (ho : o.op = .mapUpdate 36 m x v) {b n : Nat} {ks : List Int} (hS : SetM w b n ks) (hm : a.eval m = .map (some b)) (hn : n < maxLen)
    (y : Int) (hx : a.eval x = .int .i64 y) (hv : a.eval v = .bool true) (hw : (Lit.int .i64 y).wf = true)
    (h : ∀ w', SetM w' b (n + 1) (addK ks y) → w.grownBy w' (some b) → wpList Tryd.prog ops Q rest (a.put o.dst undef) w') : wpList Tryd.prog ops Q (o :: rest) a w := by
  obtain ⟨D, h1, h2, h3, h4, h5⟩ := hS
  exact wpList_mapUpdate_own _ hgd m x v _ ho _ _ mapi_law Tryd.underlying36 _ b n D hm h1 hn _ _ (.int .i64 y) hx hv (keyOf_int_mk Tryd.underlying3 hw) (.lit (.bool true)) [] (plainElem_bool Tryd.underlying4 true)
    fun w' h6 h7 => h w' (SetM.put (h1.tidy mapi_law) trivial h2 h3 h4 h5 h6) h7
theorem wpList_setm_len (hgd : o.guard = none) (m : Operand) (ho : o.op = Op.call { callee := Callee.builtin Builtin.len, args := #[m], argTypes := #[36] }) {b n : Nat} {ks : List Int} (hS : SetM w b n ks) (hm : a.eval m = .map (some b))
    (h : wpList Tryd.prog ops Q rest (a.put o.dst (.int .i64 (ks.length : Nat))) w) : wpList Tryd.prog ops Q (o :: rest) a w := by
  obtain ⟨D, h1, h2, h3, h4, h5⟩ := hS
  refine wpList_len_own _ hgd m _ ho _ _ Tryd.underlying36 _ b n D hm h1 ?_
  rw [h5]
  exact h
end
end Go.Proofs.YtibmjednieopfaaDoor
