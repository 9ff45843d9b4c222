/- Joined: HeapOpen, MarkOpen. -/
import Derived.Test.YtnoiepmapmcjdaaDoorOpenRd
import Derived.Test.YtnoiepmapmcjdaaDoorMMA
import Derived.Laws.IdiomArrays
import Derived.Test.YtnoiepmapmcjdaaDoorMMB
set_option linter.unusedVariables false
set_option linter.unusedSimpArgs false
namespace Go.Proofs.YtnoiepmapmcjdaaDoor
open Go.ChangeShapes Go.WideShapes Go.ChangeAt Go.RowKit Go.Joins Go.Deep

instance : Inhabited HAct := ⟨⟨0, 0, 0, false, 0, 0, 0⟩⟩
theorem add_plain (b o k : Nat) : Addr.add ⟨b, o, none⟩ k = ⟨b, o + k, none⟩ := by
  unfold Addr.add
  split
  · next e => subst e; rfl
  · rfl
section
variable {H : Type} {enc : TypeId × Value → H} {w : World} {base : Nat} {spare : Nat → Bool} {held : Bool}
set_option maxRecDepth 100000 in
/-- A slice of structs of k cells, opened. -/
theorem open_structs {α : Type} [Inhabited α] {k : Nat} {encA : α → List Value} {ok : α → Prop} {t e : TypeId} (ht : Tryd.prog.underlying t = some (.slice e)) (hC : Tryd.prog.cellsOf e = k) (hk : 0 < k) (hel : ∀ a, (encA a).length = k)
    (one : ∀ {n : Nat} {cs : List Value} {x : DataW H × List MemPlace}, cs.length = k → DataW.trod enc Tryd.prog w 0 (fun _ => true) true n e cs = some x → ∃ a : α, cs = encA a ∧ ok a)
    {v : Value} {d : DataW H} {p : List MemPlace} (hv : Value.okWide Tryd.prog w .any base t v) (h : DataW.Trod enc Tryd.prog w 0 (fun _ => true) true t v d p) :
    ∃ acts : List α, RdC k encA w v acts ∧ ∀ a ∈ acts, ok a := by
  obtain ⟨a1, len, cap, rfl⟩ := okWide_slice ht hv
  obtain ⟨fuel, hf⟩ := h
  rcases open_slice ht hf with ⟨e, _⟩ | ⟨a, len', cap', m, n, D, Pl, e, hb, hl, hm, hmm, _, hx⟩
  · cases e
    exact ⟨[], ⟨none, 0, rfl, by simp [maxLen], by simp⟩, by simp⟩
  · cases e
    rw [hC] at hx
    have hlm : len ≤ m := by rw [hmm]; split <;> omega
    have each : ∀ i, i < len → ∃ x : α, (∀ j u, (encA x)[j]? = some u → w.cell? ((a.add (i * k)).add j) = some u) ∧ ok x := by
      intro i hi
      obtain ⟨cs', h1, h2⟩ := hx i (by omega)
      obtain ⟨_, hlen, hat⟩ := World.cells?_some h1
      obtain ⟨x, rfl, hok⟩ := one hlen h2
      refine ⟨x, fun j u hu => ?_, hok⟩
      have hj : j < (encA x).length := (List.getElem?_eq_some_iff.1 hu).1
      have h9 := hat j (by rw [← hel x]; exact hj)
      rw [h9]
      rw [List.getElem?_eq_getElem hj] at hu
      simp [List.getD, List.getElem?_eq_getElem hj] at *
      exact hu
    obtain ⟨X, hX⟩ := choose_lt each
    have hXl : ((List.range len).map X).length = len := by simp
    refine ⟨(List.range len).map X, ⟨some a, cap, by rw [hXl], by rw [hXl]; exact ⟨hl, hm, by simp⟩, ?_⟩, ?_⟩
    · intro hp
      rw [hXl] at hp
      have hlen0 : 0 < (encA (X 0)).length := by rw [hel]; exact hk
      have h0 := (hX 0 hp).1 0 _ (List.getElem?_eq_getElem hlen0)
      have ha : (a.add (0 * k)).add 0 = a := by simp [Addr.add]
      rw [ha] at h0
      obtain ⟨hs, hlt⟩ := spot_none h0
      obtain ⟨b, o, s⟩ := a
      obtain rfl : s = none := hs
      refine ⟨b, o, rfl, hlt, fun i hi j u hu => ?_⟩
      rw [hXl] at hi
      have h1 := (hX i hi).1 j u (by simpa using hu)
      simp only [add_plain] at h1
      exact h1
    · intro x hx'
      obtain ⟨i, hi, rfl⟩ := List.mem_map.1 hx'
      exact (hX i (List.mem_range.1 hi)).2
end
end Go.Proofs.YtnoiepmapmcjdaaDoor
namespace Go.Proofs.YtnoiepmapmcjdaaDoor
open Go.ChangeShapes Go.WideShapes Go.ChangeAt Go.RowKit Go.Joins Go.Deep

instance : Inhabited MAct := ⟨⟨0, 0, 0, 0, (none, 0, 0), []⟩⟩
theorem rd_sl {α : Type} {e : α → Value} {w : World} {v : Value} {xs : List α} (h : Rd e w v xs) : ∃ s, v = slE s := by
  obtain ⟨A, c, rfl, _⟩ := h.len
  exact ⟨(A, xs.length, c), rfl⟩
section
variable {H : Type} {enc : TypeId × Value → H} {w : World} {base : Nat} {spare : Nat → Bool} {held : Bool}
set_option maxRecDepth 100000 in
theorem mact_of_cells {n : Nat} {cs : List Value} {x : DataW H × List MemPlace} (hlen : cs.length = 5) (h : DataW.trod enc Tryd.prog w base spare held n 30 cs = some x) :
    ∃ a : MAct, cs = mactC a ∧ MActOk w a := by
  match cs, hlen with
  | [c0, c1, c2, c3, c4], _ =>
    obtain ⟨xs, n', _, _, _, hxl, hf⟩ := DataW.trod_struct Tryd.underlying30 h
    match xs, hxl with
    | [y0, y1, y2, y3, y4], _ =>
      have k5 : Tryd.prog.cellsOf 5 = 1 := by kernel_rfl
      have k6 : Tryd.prog.cellsOf 23 = 1 := by kernel_rfl
      have h0 := (show DataW.trod enc Tryd.prog w base spare held n' 5 ((([c0, c1, c2, c3, c4] : List Value).drop 0).take (Tryd.prog.cellsOf 5)) = some y0 from hf 0 _ rfl)
      have h1 := (show DataW.trod enc Tryd.prog w base spare held n' 5 ((([c0, c1, c2, c3, c4] : List Value).drop 1).take (Tryd.prog.cellsOf 5)) = some y1 from hf 1 _ rfl)
      have h2 := (show DataW.trod enc Tryd.prog w base spare held n' 5 ((([c0, c1, c2, c3, c4] : List Value).drop 2).take (Tryd.prog.cellsOf 5)) = some y2 from hf 2 _ rfl)
      have h3 := (show DataW.trod enc Tryd.prog w base spare held n' 5 ((([c0, c1, c2, c3, c4] : List Value).drop 3).take (Tryd.prog.cellsOf 5)) = some y3 from hf 3 _ rfl)
      have h4 := (show DataW.trod enc Tryd.prog w base spare held n' 23 ((([c0, c1, c2, c3, c4] : List Value).drop 4).take (Tryd.prog.cellsOf 23)) = some y4 from hf 4 _ rfl)
      rw [k5] at h0 h1 h2 h3
      rw [k6] at h4
      obtain ⟨v0, e0, _, w0⟩ := DataW.trod_int Tryd.underlying5 h0
      obtain ⟨v1, e1, _, w1⟩ := DataW.trod_int Tryd.underlying5 h1
      obtain ⟨v2, e2, _, w2⟩ := DataW.trod_int Tryd.underlying5 h2
      obtain ⟨v3, e3, _, w3⟩ := DataW.trod_int Tryd.underlying5 h3
      obtain ⟨v4, ys, e4, r4, w4, _⟩ := open_rd Tryd.underlying23 Tryd.underlying5 (by kernel_rfl) h4
      obtain ⟨s4, rfl⟩ := rd_sl r4
      simp at e0 e1 e2 e3 e4
      subst e0 e1 e2 e3 e4
      exact ⟨⟨v0, v1, v2, v3, s4, ys⟩, rfl, bounds_u8 w0, bounds_u8 w1, bounds_u8 w2, bounds_u8 w3, r4, fun n hn => bounds_u8 (w4 n hn)⟩
set_option maxRecDepth 100000 in
theorem open_macts {v : Value} {d : DataW H} {p : List MemPlace} (hv : Value.okWide Tryd.prog w .any base 22 v) (h : DataW.Trod enc Tryd.prog w 0 (fun _ => true) true 22 v d p) :
    ∃ acts : List MAct, RdC 5 mactC w v acts ∧ ∀ a ∈ acts, MActOk w a :=
  open_structs (k := 5) Tryd.underlying22 (by kernel_rfl) (by decide) (fun _ => rfl) (fun hl h => mact_of_cells hl h) hv h
set_option maxRecDepth 100000 in
theorem open_u8s {v : Value} {d : DataW H} {p : List MemPlace} (hv : Value.okWide Tryd.prog w .any base 23 v) (h : DataW.Trod enc Tryd.prog w 0 (fun _ => true) true 23 v d p) :
    ∃ l : List Int, Rd u8e w v l ∧ ∀ n ∈ l, 0 ≤ n ∧ n ≤ 255 := by
  obtain ⟨a1, len, cap, rfl⟩ := okWide_slice Tryd.underlying23 hv
  obtain ⟨fuel, hf⟩ := h
  obtain ⟨v1, xs, e, r, wf, _⟩ := open_rd Tryd.underlying23 Tryd.underlying5 (by kernel_rfl) hf
  obtain rfl : Value.slice a1 len cap = v1 := by simpa [Value.cells] using e
  exact ⟨xs, r, fun n hn => bounds_u8 (wf n hn)⟩
end
end Go.Proofs.YtnoiepmapmcjdaaDoor
