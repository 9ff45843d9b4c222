/- A variable that holds four lists: loads, stores, and what stays. -/
import Derived.Test.YtbjchfhglnepiaaListSame
set_option linter.unusedVariables false
set_option linter.unusedSimpArgs false
namespace Go.Proofs.Ytbjchfhglnepiaa
open Go.RowKit

/-- The block n is a variable that holds the lists L. -/
def VarL (w : World) (n : Nat) (t : TypeId) (L : Nat → List Int) : Prop := ∃ f, Blk w n t (arr4 f) ∧ ∀ j, j < 4 → Rd i64e w (f j) (L j)
theorem VarL.lt {w : World} {n : Nat} {t : TypeId} {L : Nat → List Int} (h : VarL w n t L) : n < w.heap.size := by
  obtain ⟨f, h1, _⟩ := h
  exact h1.lt
theorem VarL.below {w w' : World} {n : Nat} {t : TypeId} {L : Nat → List Int} (h : VarL w n t L) (hb : Below w.heap.size w w') : VarL w' n t L := by
  obtain ⟨f, h1, h2⟩ := h
  exact ⟨f, h1.below hb h1.lt, fun j hj => (h2 j hj).below hb⟩
/-- A list of numbers does not lie in a block of slices. -/
theorem Rd.not_in {w : World} {v : Value} {xs : List Int} {m : Nat} {t : TypeId} {L : Nat → List Int} (h : Rd i64e w v xs) (hm : VarL w m t L) (hp : 0 < xs.length) : v.ownBlock ≠ some m := by
  intro e
  obtain ⟨f, hb, hf⟩ := hm
  obtain ⟨A, c, rfl, _, h4⟩ := h
  obtain ⟨b, o, rfl, hlt, hc⟩ := h4 hp
  injection e with e
  subst e
  have h0 := hc 0 hp
  rw [hb.cell] at h0
  have hk : o + 0 < 4 := by
    have := (Array.getElem?_eq_some_iff.1 h0).1
    simpa [arr4] using this
  rw [arr4_get f hk] at h0
  obtain ⟨A', n', c', e'⟩ := (hf _ hk).form
  rw [e'] at h0
  simp at h0
theorem RdL.other {w w' : World} {v : Value} {L L' : Nat → List Int} {m : Nat} {t : TypeId} (h : RdL w v L) (hm : VarL w m t L') (hg : w.grownBy w' (some m)) : RdL w' v L := by
  obtain ⟨f, rfl, hf⟩ := h
  exact ⟨f, rfl, fun j hj => (hf j hj).far hg fun hp => (hf j hj).not_in hm hp⟩
theorem VarL.other {w w' : World} {n m : Nat} {t t' : TypeId} {L L' : Nat → List Int} (h : VarL w n t L) (hm : VarL w m t' L') (hne : n ≠ m) (hg : w.grownBy w' (some m)) : VarL w' n t L := by
  obtain ⟨f, h1, hf⟩ := h
  exact ⟨f, h1.grown hg (fun e => hne (by injection e)), fun j hj => (hf j hj).far hg fun hp => (hf j hj).not_in hm hp⟩
def noL : Nat → List Int := fun _ => []
theorem VarL.nil {w : World} {n : Nat} {t : TypeId} (h : Blk w n t nil4) : VarL w n t noL := ⟨fun _ => .slice none 0 0, h, fun _ _ => Rd.none_ _ _⟩

theorem wpList_load_var {P : Program} {w : World} {ops : Array Oper} {rest : List Oper} {o : Oper} {a : Act} {Q : Exit → Act → World → Prop} (hgd : o.guard = none) (ty : TypeId) (x : Operand) (ho : o.op = .load ty x)
    (n : Nat) (hx : a.eval x = .pointer (some ⟨n, 0, none⟩)) (t : TypeId) (L : Nat → List Int) (hv : VarL w n t L) (d : TypeDesc)
    (hu : P.underlying ty = some d) (hd : (match d with | .struct _ | .array _ _ => true | _ => false) = true) (hi : (P.info? ty).map (·.size) = some 4)
    (h : ∀ f, (∀ j, j < 4 → Rd i64e w (f j) (L j)) → wpList P ops Q rest (a.put o.dst (.agg (arr4 f))) w) : wpList P ops Q (o :: rest) a w := by
  obtain ⟨f, h1, h2⟩ := hv
  exact wpList_load_blk hgd ty x ho n hx t (arr4 f) h1 d hu hd hi (h f h2)
theorem wpList_store_var {P : Program} {w : World} {ops : Array Oper} {rest : List Oper} {o : Oper} {a : Act} {Q : Exit → Act → World → Prop} (hgd : o.guard = none) (ty : TypeId) (x y : Operand) (ho : o.op = .store ty x y)
    (n : Nat) (hx : a.eval x = .pointer (some ⟨n, 0, none⟩)) (v : Value) (hy : a.eval y = v) (L : Nat → List Int) (hv : RdL w v L) (t : TypeId) (L' : Nat → List Int) (hn : VarL w n t L')
    (hi : (P.info? ty).map (·.size) = some 4)
    (h : ∀ w', VarL w' n t L → w.grownBy w' (some n) → w'.heap.size = w.heap.size → wpList P ops Q rest (a.put o.dst undef) w') : wpList P ops Q (o :: rest) a w := by
  obtain ⟨f, rfl, hf⟩ := hv
  have hn0 := hn
  obtain ⟨g, hg, hgr⟩ := hn
  refine wpList_store_blk hgd ty x y ho n hx (arr4 f) hy t (arr4 g) hg hi rfl (arr4_one fun j hj => rd_one (hf j hj)) fun w' h1 h2 h3 => h w' ?_ h2 h3
  exact ⟨f, h1, fun j hj => (hf j hj).far h2 fun hp => (hf j hj).not_in hn0 hp⟩
theorem grown_below {B : Nat} {a w w' : World} {n : Nat} (h : Below B a w) (hg : w.grownBy w' (some n)) (hB : B ≤ w.heap.size) (hn : B ≤ n) : Below B a w' := h.grown hg hB fun k hk => by cases hk; exact hn
/-- Two lists that agree where it counts. -/
theorem RdL.congr {w : World} {v : Value} {L L' : Nat → List Int} (h : RdL w v L) (he : ∀ j, j < 4 → L j = L' j) : RdL w v L' := by
  obtain ⟨f, rfl, hf⟩ := h
  exact ⟨f, rfl, fun j hj => he j hj ▸ hf j hj⟩
theorem VarL.congr {w : World} {n : Nat} {t : TypeId} {L L' : Nat → List Int} (h : VarL w n t L) (he : ∀ j, j < 4 → L j = L' j) : VarL w n t L' := by
  obtain ⟨f, h1, hf⟩ := h
  exact ⟨f, h1, fun j hj => he j hj ▸ hf j hj⟩
/-- The contracts at a value that reads as four lists. -/
theorem put_any {v : Value} {L : Nat → List Int} (c p : Int) {w : World} (hv : RdL w v L) (hl : ShortL L) (hp : p ≤ 9223372036854775807) :
    Calls Try.prog 27 #[v, .int .i64 c, .int .i64 p] w fun e w' => ∃ v, e = .returned (.tuple #[v, .int .i64 (putL L c p).2]) ∧ RdL w' v (putL L c p).1 ∧ Below w.heap.size w w' := by
  obtain ⟨f, rfl, hf⟩ := hv
  exact put_ok f L c p w hf hl hp

end Go.Proofs.Ytbjchfhglnepiaa
