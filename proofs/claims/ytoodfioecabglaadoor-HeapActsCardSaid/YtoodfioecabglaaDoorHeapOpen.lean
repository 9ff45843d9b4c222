/- Arguments opened: a slice of calls on a heap. -/
import Derived.Test.YtoodfioecabglaaDoorOpenRd
import Derived.Test.YtoodfioecabglaaDoorHeapDoes
import Derived.Laws.IdiomArrays
set_option linter.unusedVariables false
set_option linter.unusedSimpArgs false
namespace Go.Proofs.YtoodfioecabglaaDoor
open Go.ChangeShapes Go.WideShapes Go.ChangeAt Go.RowKit Go.Joins Go.Deep

instance : Inhabited HAct := ⟨⟨0, 0, 0, false, 0, 0, 0⟩⟩
theorem add_plain (b o k : Nat) : Addr.add ⟨b, o, none⟩ k = ⟨b, o + k, none⟩ := by
  unfold Addr.add
  split
  · next e => subst e; rfl
  · rfl
section
variable {H : Type} {enc : TypeId × Value → H} {w : World} {base : Nat} {spare : Nat → Bool} {held : Bool}
set_option maxRecDepth 100000 in
theorem hact_of_cells {n : Nat} {cs : List Value} {x : DataW H × List MemPlace} (hlen : cs.length = 7) (h : DataW.trod enc Tryd.prog w base spare held n 34 cs = some x) :
    ∃ a : HAct, cs = hactC a ∧ HActOk a := by
  match cs, hlen with
  | [c0, c1, c2, c3, c4, c5, c6], _ =>
    obtain ⟨xs, n', _, _, _, hxl, hf⟩ := DataW.trod_struct Tryd.underlying34 h
    match xs, hxl with
    | [y0, y1, y2, y3, y4, y5, y6], _ =>
      have k5 : Tryd.prog.cellsOf 5 = 1 := by kernel_rfl
      have k3 : Tryd.prog.cellsOf 3 = 1 := by kernel_rfl
      have k4 : Tryd.prog.cellsOf 4 = 1 := by kernel_rfl
      have k2 : Tryd.prog.cellsOf 2 = 1 := by kernel_rfl
      have h0 := (show DataW.trod enc Tryd.prog w base spare held n' 5 ((([c0, c1, c2, c3, c4, c5, c6] : List Value).drop 0).take (Tryd.prog.cellsOf 5)) = some y0 from hf 0 _ rfl)
      have h1 := (show DataW.trod enc Tryd.prog w base spare held n' 3 ((([c0, c1, c2, c3, c4, c5, c6] : List Value).drop 1).take (Tryd.prog.cellsOf 3)) = some y1 from hf 1 _ rfl)
      have h2 := (show DataW.trod enc Tryd.prog w base spare held n' 5 ((([c0, c1, c2, c3, c4, c5, c6] : List Value).drop 2).take (Tryd.prog.cellsOf 5)) = some y2 from hf 2 _ rfl)
      have h3 := (show DataW.trod enc Tryd.prog w base spare held n' 4 ((([c0, c1, c2, c3, c4, c5, c6] : List Value).drop 3).take (Tryd.prog.cellsOf 4)) = some y3 from hf 3 _ rfl)
      have h4 := (show DataW.trod enc Tryd.prog w base spare held n' 3 ((([c0, c1, c2, c3, c4, c5, c6] : List Value).drop 4).take (Tryd.prog.cellsOf 3)) = some y4 from hf 4 _ rfl)
      have h5 := (show DataW.trod enc Tryd.prog w base spare held n' 3 ((([c0, c1, c2, c3, c4, c5, c6] : List Value).drop 5).take (Tryd.prog.cellsOf 3)) = some y5 from hf 5 _ rfl)
      have h6 := (show DataW.trod enc Tryd.prog w base spare held n' 2 ((([c0, c1, c2, c3, c4, c5, c6] : List Value).drop 6).take (Tryd.prog.cellsOf 2)) = some y6 from hf 6 _ rfl)
      rw [k5] at h0 h2
      rw [k3] at h1 h4 h5
      rw [k4] at h3
      rw [k2] at h6
      obtain ⟨v0, e0, _, w0⟩ := DataW.trod_int Tryd.underlying5 h0
      obtain ⟨v1, e1, _, w1⟩ := DataW.trod_int Tryd.underlying3 h1
      obtain ⟨v2, e2, _, w2⟩ := DataW.trod_int Tryd.underlying5 h2
      obtain ⟨v3, e3, _⟩ := DataW.trod_bool Tryd.underlying4 h3
      obtain ⟨v4, e4, _, w4⟩ := DataW.trod_int Tryd.underlying3 h4
      obtain ⟨v5, e5, _, w5⟩ := DataW.trod_int Tryd.underlying3 h5
      obtain ⟨v6, e6, _, w6⟩ := DataW.trod_int Tryd.underlying2 h6
      simp at e0 e1 e2 e3 e4 e5 e6
      subst e0 e1 e2 e3 e4 e5 e6
      exact ⟨⟨v0, v1, v2, v3, v4, v5, v6⟩, rfl, bounds_u8 w0, bounds_i64 w1, bounds_u8 w2, bounds_i64 w4, bounds_i64 w5, bounds_i64 w6⟩
set_option maxRecDepth 100000 in
/-- A slice of structs of k cells, opened. -/
theorem open_structs {α : Type} [Inhabited α] {k : Nat} {encA : α → List Value} {ok : α → Prop} {t e : TypeId} (ht : Tryd.prog.underlying t = some (.slice e)) (hC : Tryd.prog.cellsOf e = k) (hk : 0 < k) (hel : ∀ a, (encA a).length = k)
    (one : ∀ {n : Nat} {cs : List Value} {x : DataW H × List MemPlace}, cs.length = k → DataW.trod enc Tryd.prog w 0 (fun _ => true) true n e cs = some x → ∃ a : α, cs = encA a ∧ ok a)
    {v : Value} {d : DataW H} {p : List MemPlace} (hv : Value.okWide Tryd.prog w .any base t v) (h : DataW.Trod enc Tryd.prog w 0 (fun _ => true) true t v d p) :
    ∃ acts : List α, RdC k encA w v acts ∧ ∀ a ∈ acts, ok a := by
  obtain ⟨a1, len, cap, rfl⟩ := okWide_slice ht hv
  obtain ⟨fuel, hf⟩ := h
  rcases open_slice ht hf with ⟨e, _⟩ | ⟨a, len', cap', m, n, D, Pl, e, hb, hl, hm, hmm, _, hx⟩
  · cases e
    exact ⟨[], ⟨none, 0, rfl, by simp [maxLen], by simp⟩, by simp⟩
  · cases e
    rw [hC] at hx
    have hlm : len ≤ m := by rw [hmm]; split <;> omega
    have each : ∀ i, i < len → ∃ x : α, (∀ j u, (encA x)[j]? = some u → w.cell? ((a.add (i * k)).add j) = some u) ∧ ok x := by
      intro i hi
      obtain ⟨cs', h1, h2⟩ := hx i (by omega)
      obtain ⟨_, hlen, hat⟩ := World.cells?_some h1
      obtain ⟨x, rfl, hok⟩ := one hlen h2
      refine ⟨x, fun j u hu => ?_, hok⟩
      have hj : j < (encA x).length := (List.getElem?_eq_some_iff.1 hu).1
      have h9 := hat j (by rw [← hel x]; exact hj)
      rw [h9]
      rw [List.getElem?_eq_getElem hj] at hu
      simp [List.getD, List.getElem?_eq_getElem hj] at *
      exact hu
    obtain ⟨X, hX⟩ := choose_lt each
    have hXl : ((List.range len).map X).length = len := by simp
    refine ⟨(List.range len).map X, ⟨some a, cap, by rw [hXl], by rw [hXl]; exact ⟨hl, hm, by simp⟩, ?_⟩, ?_⟩
    · intro hp
      rw [hXl] at hp
      have hlen0 : 0 < (encA (X 0)).length := by rw [hel]; exact hk
      have h0 := (hX 0 hp).1 0 _ (List.getElem?_eq_getElem hlen0)
      have ha : (a.add (0 * k)).add 0 = a := by simp [Addr.add]
      rw [ha] at h0
      obtain ⟨hs, hlt⟩ := spot_none h0
      obtain ⟨b, o, s⟩ := a
      obtain rfl : s = none := hs
      refine ⟨b, o, rfl, hlt, fun i hi j u hu => ?_⟩
      rw [hXl] at hi
      have h1 := (hX i hi).1 j u (by simpa using hu)
      simp only [add_plain] at h1
      exact h1
    · intro x hx'
      obtain ⟨i, hi, rfl⟩ := List.mem_map.1 hx'
      exact (hX i (List.mem_range.1 hi)).2
set_option maxRecDepth 100000 in
theorem open_hacts {v : Value} {d : DataW H} {p : List MemPlace} (hv : Value.okWide Tryd.prog w .any base 22 v) (h : DataW.Trod enc Tryd.prog w 0 (fun _ => true) true 22 v d p) :
    ∃ acts : List HAct, RdC 7 hactC w v acts ∧ ∀ a ∈ acts, HActOk a :=
  open_structs (k := 7) Tryd.underlying22 (by kernel_rfl) (by decide) (fun _ => rfl) (fun hl h => hact_of_cells hl h) hv h
end
end Go.Proofs.YtoodfioecabglaaDoor
