/- Words for memory: a slice that reads as a list, a world in which only some blocks have changed. -/
import Derived.WalkKit
import Derived.OpenShut
import Derived.Deep.Draws
import Derived.Maps.AppendAt
import Derived.Lib.Hide
import Derived.WalkSpells
set_option linter.unusedVariables false
set_option linter.unusedSimpArgs false
namespace Go.Proofs.YtcaboknbdamlhaaGreatDoor
open Go.RowKit

/-- A goal behind a name: the walk lets it be. -/
def Stop (p : Prop) : Prop := p
theorem stop_here {p : Prop} (h : Stop p) : p := h
theorem go_on {p : Prop} (h : p) : Stop p := h

/-- A slice value that reads as the list xs (each element one cell). -/
def Rd {α : Type} (enc : α → Value) (w : World) (v : Value) (xs : List α) : Prop :=
  ∃ A c, v = .slice A xs.length c ∧ (xs.length ≤ c ∧ c ≤ maxLen ∧ (A = none → c = 0)) ∧
    (0 < xs.length → ∃ b o, A = some ⟨b, o, none⟩ ∧ b < w.heap.size ∧ ∀ i (h : i < xs.length), w.cell? ⟨b, o + i, none⟩ = some (enc xs[i]))

theorem ret_int {k : IntKind} {a b : Int} (h : a = b) : Ending.returned (.int k a) = .returned (.int k b) := by rw [h]
theorem ret_bool {a b : Bool} (h : a = b) : Ending.returned (.bool a) = .returned (.bool b) := by rw [h]
abbrev i64e (n : Int) : Value := .int .i64 n

theorem below_drewN {B : Nat} {a w : World} (h : Below B a w) (n : Nat) : Below B a (w.drewN n) := ⟨h.os, h.tape, h.output, h.size, h.block⟩
theorem below_all {a b c : World} (h : Below a.heap.size a b) (k : Below b.heap.size b c) : Below a.heap.size a c := h.trans (k.mono h.size)
theorem below_alloc (w : World) (o : Obj) : Below w.heap.size w (w.alloc o) := (Below.refl _ w).alloc (Nat.le_refl _) o

section
variable {α : Type} {enc : α → Value} {w w' : World} {v : Value} {xs : List α}
theorem Rd.keep (h : Rd enc w v xs) (hs : w.heap.size ≤ w'.heap.size) (hb : 0 < xs.length → ∀ b, v.ownBlock = some b → b < w.heap.size → w'.heap[b]? = w.heap[b]?) : Rd enc w' v xs := by
  obtain ⟨A, c, rfl, h1, h3⟩ := h
  refine ⟨A, c, rfl, h1, fun hp => ?_⟩
  obtain ⟨b, o, rfl, hlt, hc⟩ := h3 hp
  refine ⟨b, o, rfl, by omega, fun i hi => ?_⟩
  rw [← hc i hi]
  exact World.cell?_of_block (hb hp b rfl hlt)
theorem Rd.below (h : Rd enc w v xs) (hb : Below w.heap.size w w') : Rd enc w' v xs := h.keep hb.size fun _ b _ hlt => hb.block b hlt
theorem Rd.drewN (h : Rd enc w v xs) (n : Nat) : Rd enc (w.drewN n) v xs := h
theorem Rd.none_ (enc : α → Value) (w : World) : Rd enc w (.slice none 0 0) [] := ⟨none, 0, rfl, ⟨Nat.le_refl _, Nat.zero_le _, fun _ => rfl⟩, fun h => absurd h (by simp)⟩
theorem Rd.of_own {base : Nat} {e : TypeId} (h : w.ownsRow base e 1 v xs.length (xs.map enc)) : Rd enc w v xs := by
  have h0 := h
  rcases h.2 with ⟨rfl, h1⟩ | ⟨g, cap, cur, rfl, _, hg, hn, hm, _, ht⟩
  · refine ⟨none, 0, by rw [h1], ⟨by omega, Nat.zero_le _, fun _ => rfl⟩, fun hp => absurd hp (by omega)⟩
  · refine ⟨_, cap, rfl, ⟨hn, hm, fun h => by cases h⟩, fun _ => ⟨g, 0, rfl, (Array.getElem?_eq_some_iff.1 hg).1, fun i hi => ?_⟩⟩
    have := h0.cells (g := g) rfl i (enc xs[i]) (by simp [hi])
    rwa [Addr.add_lit] at this
theorem Rd.lit (w : World) (e : TypeId) (xs : List α) (hm : xs.length ≤ maxLen) : Rd enc (w.alloc (.cells (xs.map enc).toArray e)) (.slice (some ⟨w.heap.size, 0, none⟩) xs.length xs.length) xs := by
  refine ⟨_, _, rfl, ⟨Nat.le_refl _, hm, fun h => by cases h⟩, fun _ => ⟨_, _, rfl, by simp, fun i hi => ?_⟩⟩
  rw [World.cell?_alloc_at _ _ _ _ rfl]
  simp [hi]
theorem Rd.len (h : Rd enc w v xs) : ∃ A c, v = .slice A xs.length c ∧ xs.length ≤ c ∧ c ≤ maxLen ∧ (A = none → c = 0) := by
  obtain ⟨A, c, h0, h1, _⟩ := h
  exact ⟨A, c, h0, h1⟩
theorem Rd.form (h : Rd enc w v xs) : ∃ A n c, v = .slice A n c := by
  obtain ⟨A, c, h0, _⟩ := h
  exact ⟨A, _, c, h0⟩
theorem Rd.at_ {A : Option Addr} {n c : Nat} (h : Rd enc w (.slice A n c) xs) {i : Nat} (hi : i < xs.length) : ∃ b o, A = some ⟨b, o, none⟩ ∧ b < w.heap.size ∧ w.cell? ⟨b, o + i, none⟩ = some (enc xs[i]) := by
  obtain ⟨A', c', he, _, h3⟩ := h
  injection he with e1 e2 e3
  subst e1
  obtain ⟨b, o, rfl, hlt, hc⟩ := h3 (by omega)
  exact ⟨b, o, rfl, hlt, hc i hi⟩
theorem Rd.take_to {A : Option Addr} {c n : Nat} (h : Rd enc w (.slice A xs.length c) xs) (hn : n ≤ xs.length) : Rd enc w (.slice A n c) (xs.take n) := by
  obtain ⟨A', c', he, h1, h3⟩ := h
  injection he with e1 e2 e3
  subst e1 e3
  have hlen : (xs.take n).length = n := by rw [List.length_take]; omega
  refine ⟨A, c, by rw [hlen], ⟨by omega, h1.2.1, h1.2.2⟩, fun hp => ?_⟩
  obtain ⟨b, o, rfl, hlt, hc⟩ := h3 (by omega)
  refine ⟨b, o, rfl, hlt, fun i hi => ?_⟩
  rw [hc i (by omega), List.getElem_take]
end

/-- A block that is known whole. -/
def Blk (w : World) (g : Nat) (t : TypeId) (cs : Array Value) : Prop := w.heap[g]? = some (.cells cs t (0, 0))
section
variable {w w' : World} {g : Nat} {t : TypeId} {cs : Array Value}
theorem Blk.lt (h : Blk w g t cs) : g < w.heap.size := (Array.getElem?_eq_some_iff.1 h).1
theorem Blk.cell (h : Blk w g t cs) (i : Nat) : w.cell? ⟨g, i, none⟩ = cs[i]? := cell_of_row w g i cs t (0, 0) h
theorem Blk.frozen (h : Blk w g t cs) (i : Nat) : w.frozen? ⟨g, i, none⟩ = false := by
  unfold Blk at h
  simp [World.frozen?, h]
theorem Blk.new (w : World) (t : TypeId) (cs : Array Value) : Blk (w.alloc (.cells cs t)) w.heap.size t cs := heap_alloc_new w _
theorem Blk.drewN (h : Blk w g t cs) (n : Nat) : Blk (w.drewN n) g t cs := h
theorem Blk.alloc (h : Blk w g t cs) (o : Obj) : Blk (w.alloc o) g t cs := (Below.heap_alloc w o g h.lt).trans h
theorem Blk.set_ (h : Blk w g t cs) (i : Nat) (u : Value) : Blk (w.setCell ⟨g, i, none⟩ u) g t (cs.setIfInBounds i u) := by
  unfold Blk at h ⊢
  simp [World.setCell, Array.getElem?_modify, h]
theorem Blk.far (h : Blk w g t cs) {p : Addr} (hp : g ≠ p.block) (u : Value) : Blk (w.setCell p u) g t cs := (Below.heap_setCell w p u g hp).trans h
theorem Blk.below {B : Nat} (h : Blk w g t cs) (hb : Below B w w') (hg : g < B) : Blk w' g t cs := (hb.block g hg).trans h
theorem Blk.grown {row : Option Nat} (h : Blk w g t cs) (hb : w.grownBy w' row) (hg : some g ≠ row) : Blk w' g t cs := (hb.block g h.lt hg).trans h
end

/-- Only the blocks of S may have changed; blocks may be new. -/
structure Frame (S : Nat → Prop) (w w' : World) : Prop where
  os : w'.os = w.os
  tape : w'.tape = w.tape
  output : w'.output = w.output
  size : w.heap.size ≤ w'.heap.size
  block : ∀ k, k < w.heap.size → ¬ S k → w'.heap[k]? = w.heap[k]?
theorem Frame.of_below {S : Nat → Prop} {w w' : World} (h : Below w.heap.size w w') : Frame S w w' := ⟨h.os, h.tape, h.output, h.size, fun k hk _ => h.block k hk⟩

theorem own_base {w : World} {B B' : Nat} {e : TypeId} {size : Nat} {v : Value} {n : Nat} {xs : List Value} (h : w.ownsRow B e size v n xs) (hB : B' ≤ B) : w.ownsRow B' e size v n xs := by
  obtain ⟨h1, h2⟩ := h
  refine ⟨h1, ?_⟩
  rcases h2 with h2 | ⟨g, cap, cur, hv, hg, r⟩
  · exact .inl h2
  · exact .inr ⟨g, cap, cur, hv, by omega, r⟩
theorem own_below {w w' : World} {B : Nat} {e : TypeId} {size : Nat} {v : Value} {n : Nat} {xs : List Value} (h : w.ownsRow B e size v n xs) (hb : Below w.heap.size w w') : w'.ownsRow B e size v n xs :=
  h.kept (row := none) ⟨hb.os, hb.tape, hb.output, hb.size, fun k hk _ => hb.block k hk⟩ (by cases v.ownBlock <;> simp)
theorem own_drop_last {w : World} {base : Nat} {e : TypeId} {A : Option Addr} {n c : Nat} {xs : List Value} (h : w.ownsRow base e 1 (.slice A n c) n xs) {m : Nat} (hm : m ≤ n) (hA : n ≠ 0 ∨ m = n) : w.ownsRow base e 1 (.slice A m c) m (xs.take m) := by
  obtain ⟨h1, h2⟩ := h
  refine ⟨by rw [List.length_take]; omega, ?_⟩
  rcases h2 with ⟨h2, h3⟩ | ⟨g, cap, cur, hv, hg, hh, hn, hc, hs, ht⟩
  · subst h3
    obtain rfl : m = 0 := by omega
    exact .inl ⟨h2, rfl⟩
  · injection hv with e1 e2 e3
    subst e1; subst e3
    refine .inr ⟨g, c, cur, rfl, hg, hh, by omega, hc, hs, ?_⟩
    rw [← ht, List.take_take]
    congr 1
    omega

/-- What a one-element append leaves: the row is longer by u; old blocks but the row's are as they were. -/
theorem wpList_push {P : Program} {w0 : World} {ops : Array Oper} {rest : List Oper} {o : Oper} {a : Act} {Q : Exit → Act → World → Prop} (hgd : o.guard = none) (s x : Operand) (t : TypeId)
    (ho : o.op = .call { callee := .builtin .append, args := #[s, x], argTypes := #[t, t] })
    (base : Nat) (e : TypeId) (z : Value) (bytes : Nat) (ht : P.underlying t = some (.slice e)) (hi : (P.info? e).map (fun i => (i.zero, i.size, i.bytes)) = some (some z, 1, bytes)) (hz1 : z.cells.size = 1)
    (v : Value) (n : Nat) (xs : List Value) (hs : a.eval s = v) (hown : w0.ownsRow base e 1 v n xs) (u : Value) (hu : u.oneCell' = true)
    (hx : a.eval x = .slice (some ⟨w0.heap.size, 0, none⟩) 1 1)
    (h63 : n < maxLen) (hbytes : (n + 1) * bytes ≤ 140737488355328) (hbase : base ≤ w0.heap.size)
    (h : ∀ v' w', w'.ownsRow base e 1 v' (n + 1) (xs ++ [u]) → w0.grownBy w' v.ownBlock → (v'.ownBlock = v.ownBlock ∨ v'.ownBlock = some (w0.heap.size + 1)) → wpList P ops Q rest (a.put o.dst v') w') :
    wpList P ops Q (o :: rest) a (w0.alloc (.cells #[u] e)) := by
  obtain ⟨i, hi1, hz, hsize, hby⟩ := info_parts hi
  refine wpList_append_own_at _ hgd s x t ho base e i z 1 bytes ht hi1 hz hsize hby hz1 (by omega) v n xs hs (hown.alloc _) ⟨w0.heap.size, 0, none⟩ 1 1 [u] hx rfl (cell_one_new _ _ _)
    (fun y hy => by rw [List.mem_singleton.1 hy]; exact hu) (by omega) hbytes (by simp; omega) fun v' w' h1 h2 _ h3 => h v' w' h1 ?_ ?_
  · exact ⟨h2.os, h2.tape, h2.output, Nat.le_trans (by simp) h2.size, fun k hk hne => (h2.block k (by simp; omega) hne).trans (Below.heap_alloc w0 _ k hk)⟩
  · simpa using h3

/-- An operation that lays one new block and hands back its address: the world behind it by its facts alone. -/
theorem wpList_new {P : Program} {w : World} {ops : Array Oper} {rest : List Oper} {o : Oper} {a : Act} {Q : Exit → Act → World → Prop} (hgd : o.guard = none) (op : Op) (ho : o.op = op) (n : Nat) (hn : w.heap.size = n) (t : TypeId) (cs : Array Value)
    (hrun : (execOp a.eval o).run P w = .ok (.value (.pointer (some ⟨w.heap.size, 0, none⟩))) (w.alloc (.cells cs t)))
    (h : ∀ w', w'.heap.size = n + 1 → Below n w w' → Blk w' n t cs → wpList P ops Q rest (a.put o.dst (.pointer (some ⟨n, 0, none⟩))) w') : wpList P ops Q (o :: rest) a w := by
  subst hn
  refine wpList_plain hgd fun K hK => ?_
  unfold Oper.wp
  rw [hrun]
  exact hK _ _ (h _ (by simp) (below_alloc w _) (Blk.new w t cs))

/-- A whole array or struct, out of a block that is known whole. -/
theorem wpList_load_blk {P : Program} {w : World} {ops : Array Oper} {rest : List Oper} {o : Oper} {a : Act} {Q : Exit → Act → World → Prop} (hgd : o.guard = none) (ty : TypeId) (x : Operand) (ho : o.op = .load ty x)
    (g : Nat) (hx : a.eval x = .pointer (some ⟨g, 0, none⟩)) (t : TypeId) (cs : Array Value) (hg : Blk w g t cs) (d : TypeDesc)
    (hu : P.underlying ty = some d) (hd : (match d with | .struct _ | .array _ _ => true | _ => false) = true) (hi : (P.info? ty).map (·.size) = some cs.size)
    (h : wpList P ops Q rest (a.put o.dst (.agg cs)) w) : wpList P ops Q (o :: rest) a w :=
  wpList_load_row hgd ty x ho g hx t cs (0, 0) d hg hu hd hi h
/-- A whole array or struct, into a block that is known whole. -/
theorem wpList_store_blk {P : Program} {w : World} {ops : Array Oper} {rest : List Oper} {o : Oper} {a : Act} {Q : Exit → Act → World → Prop} (hgd : o.guard = none) (ty : TypeId) (x y : Operand) (ho : o.op = .store ty x y)
    (g : Nat) (hx : a.eval x = .pointer (some ⟨g, 0, none⟩)) (c' : Array Value) (hy : a.eval y = .agg c') (t : TypeId) (c : Array Value) (hg : Blk w g t c)
    (hi : (P.info? ty).map (·.size) = some c'.size) (hsz : c.size = c'.size) (h1 : c'.all (·.oneCell') = true)
    (h : ∀ w', Blk w' g t c' → w.grownBy w' (some g) → w'.heap.size = w.heap.size → wpList P ops Q rest (a.put o.dst undef) w') : wpList P ops Q (o :: rest) a w := by
  refine wpList_plain hgd fun K hK => ?_
  refine wp_store_row ty x y ho g c' hx hy t c hg hi hsz h1 (hK _ _ (h _ ?_ ?_ (size_setRow _ _ _)))
  · exact setRow_heap w g c c' t (0, 0) hg
  · exact ⟨rfl, rfl, rfl, by simp, fun k _ hne => setRow_other w g k c' (fun e => hne (by rw [e]))⟩
section
variable {P : Program} {fn : Func} {p u u' : Tmp} {ty t : TypeId} {g : Nat} {cs : Array Value} {d : TypeDesc}
theorem res_cell {w : World} {tmps : Array Value} (h : fn.results = #[.cell p ty]) (hp : tmps.getD p undef = .pointer (some ⟨g, 0, none⟩)) (hg : Blk w g t cs)
    (hu : P.underlying ty = some d) (hd : (match d with | .struct _ | .array _ _ => true | _ => false) = true) (hi : (P.info? ty).map (·.size) = some cs.size) :
    (results fn tmps).run P w = .ok (.agg cs) w := results_cell_row h tmps w g t cs (0, 0) d hp hg hu hd hi
theorem res_cell_tmp {w : World} {tmps : Array Value} (h : fn.results = #[.cell p ty, .tmp u]) (hp : tmps.getD p undef = .pointer (some ⟨g, 0, none⟩)) (hg : Blk w g t cs)
    (hu : P.underlying ty = some d) (hd : (match d with | .struct _ | .array _ _ => true | _ => false) = true) (hi : (P.info? ty).map (·.size) = some cs.size) :
    (results fn tmps).run P w = .ok (.tuple #[.agg cs, tmps.getD u undef]) w := by
  have hp' : tmps[p]?.getD undef = .pointer (some ⟨g, 0, none⟩) := by simpa using hp
  simp [results, h, hp', asAddr, run_loadVar_row w g t ty cs (0, 0) d hg hu hd hi]
theorem res_cell_tmp2 {w : World} {tmps : Array Value} (h : fn.results = #[.cell p ty, .tmp u, .tmp u']) (hp : tmps.getD p undef = .pointer (some ⟨g, 0, none⟩)) (hg : Blk w g t cs)
    (hu : P.underlying ty = some d) (hd : (match d with | .struct _ | .array _ _ => true | _ => false) = true) (hi : (P.info? ty).map (·.size) = some cs.size) :
    (results fn tmps).run P w = .ok (.tuple #[.agg cs, tmps.getD u undef, tmps.getD u' undef]) w := by
  have hp' : tmps[p]?.getD undef = .pointer (some ⟨g, 0, none⟩) := by simpa using hp
  simp [results, h, hp', asAddr, run_loadVar_row w g t ty cs (0, 0) d hg hu hd hi]
end
theorem own_grown {w w' : World} {B : Nat} {e : TypeId} {size : Nat} {v : Value} {n : Nat} {xs : List Value} {g : Nat} (h : w.ownsRow B e size v n xs) (hg : w.grownBy w' (some g)) (hlt : g < B) : w'.ownsRow B e size v n xs := by
  refine h.kept hg ?_
  cases hv : v.ownBlock with
  | none => exact .inl rfl
  | some k => exact .inr (fun e => by have := (h.lt k hv).1; injection e with e; omega)

/-- The classes of blocks. -/
def wordsOf (c : Int) : Int := if c = 0 then 1 else if c = 1 then 2 else if c = 2 then 4 else if c = 3 then 8 else 0
def classOf (n : Int) : Int := if n < 1 then -1 else if n ≤ 1 then 0 else if n ≤ 2 then 1 else if n ≤ 4 then 2 else if n ≤ 8 then 3 else -1
def spanOf (p : Int) : Int := if p < 1 then -1 else (p - 1) / 8
def beginsAt (p c : Int) : Bool := decide (1 ≤ p ∧ 0 < wordsOf c ∧ (p - 1) % wordsOf c = 0)
def blockCount (c : Int) : Nat := if c = 0 then 8 else if c = 1 then 4 else if c = 2 then 2 else if c = 3 then 1 else 0
def blocksOf (s c : Int) : List Int := if s < 0 ∨ 1048576 < s then [] else (List.range (blockCount c)).map fun (j : Nat) => 8 * s + 1 + wordsOf c * (j : Int)

theorem words_cases (c : Int) : (c = 0 ∧ wordsOf c = 1 ∧ blockCount c = 8) ∨ (c = 1 ∧ wordsOf c = 2 ∧ blockCount c = 4) ∨ (c = 2 ∧ wordsOf c = 4 ∧ blockCount c = 2) ∨ (c = 3 ∧ wordsOf c = 8 ∧ blockCount c = 1) ∨ ((c < 0 ∨ 4 ≤ c) ∧ wordsOf c = 0 ∧ blockCount c = 0) := by
  unfold wordsOf blockCount
  by_cases h0 : c = 0
  · simp [h0]
  by_cases h1 : c = 1
  · simp [h1]
  by_cases h2 : c = 2
  · simp [h2]
  by_cases h3 : c = 3
  · simp [h3]
  rw [if_neg h0, if_neg h1, if_neg h2, if_neg h3, if_neg h0, if_neg h1, if_neg h2, if_neg h3]
  omega
theorem words_bd (c : Int) : 0 ≤ wordsOf c ∧ wordsOf c ≤ 8 := by
  rcases words_cases c with ⟨_, h, _⟩ | ⟨_, h, _⟩ | ⟨_, h, _⟩ | ⟨_, h, _⟩ | ⟨_, h, _⟩ <;> rw [h] <;> omega
theorem class_bd (n : Int) : -1 ≤ classOf n ∧ classOf n ≤ 3 := by
  unfold classOf
  repeat' split
  all_goals omega
theorem span_bd (p : Int) : -1 ≤ spanOf p ∧ (p < 1 → spanOf p = -1) ∧ (1 ≤ p → spanOf p = (p - 1) / 8) := by
  unfold spanOf
  split <;> omega

end Go.Proofs.YtcaboknbdamlhaaGreatDoor
