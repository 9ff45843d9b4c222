/- Arguments opened: a slice of calls. -/
import Derived.Test.YtbjchfhglnepiaaListOpen
import Derived.Test.YtbjchfhglnepiaaListActs
set_option linter.unusedVariables false
set_option linter.unusedSimpArgs false
namespace Go.Proofs.Ytbjchfhglnepiaa
open Go.ChangeShapes Go.WideShapes Go.ChangeAt Go.RowKit Go.Joins Go.Deep

theorem add_plain (b o k : Nat) : Addr.add ⟨b, o, none⟩ k = ⟨b, o + k, none⟩ := by
  unfold Addr.add
  split
  · next e => subst e; rfl
  · rfl
section
variable {H : Type} {enc : TypeId × Value → H} {w : World} {base : Nat} {spare : Nat → Bool} {held : Bool}
theorem act_of_cells {n : Nat} {cs : List Value} {x : DataW H × List MemPlace} (hlen : cs.length = 3) (h : DataW.trod enc Try.prog w base spare held n 36 cs = some x) :
    ∃ k c q : Int, cs = [.int .u8 k, .int .i64 c, .int .i64 q] ∧ (0 ≤ k ∧ k ≤ 255) ∧ (-9223372036854775808 ≤ c ∧ c ≤ 9223372036854775807) ∧ (-9223372036854775808 ≤ q ∧ q ≤ 9223372036854775807) := by
  match cs, hlen with
  | [c0, c1, c2], _ =>
    obtain ⟨y0, y1, y2, n', _, _, h0, h1, h2⟩ := trod_struct3 Try.underlying36 h
    have k5 : Try.prog.cellsOf 5 = 1 := by kernel_rfl
    have k3 : Try.prog.cellsOf 3 = 1 := by kernel_rfl
    dsimp only at h0 h1 h2
    rw [k5] at h0
    rw [k3] at h1 h2
    obtain ⟨k, e0, _, w0⟩ := DataW.trod_int Try.underlying5 h0
    obtain ⟨c, e1, _, w1⟩ := DataW.trod_int Try.underlying3 h1
    obtain ⟨q, e2, _, w2⟩ := DataW.trod_int Try.underlying3 h2
    simp at e0 e1 e2
    subst e0 e1 e2
    exact ⟨k, c, q, rfl, bounds_u8 w0, bounds_i64 w1, bounds_i64 w2⟩
theorem open_acts {v : Value} {d : DataW H} {p : List MemPlace} (hv : Value.okWide Try.prog w .any base 55 v) (h : DataW.Trod enc Try.prog w 0 (fun _ => true) true 55 v d p) :
    ∃ acts : List (Int × Int × Int), RdA w v acts ∧ ∀ x ∈ acts, (0 ≤ x.1 ∧ x.1 ≤ 255) ∧ (-9223372036854775808 ≤ x.2.1 ∧ x.2.1 ≤ 9223372036854775807) ∧ (-9223372036854775808 ≤ x.2.2 ∧ x.2.2 ≤ 9223372036854775807) := by
  obtain ⟨a1, len, cap, rfl⟩ := okWide_slice Try.underlying55 hv
  obtain ⟨fuel, hf⟩ := h
  rcases open_slice Try.underlying55 hf with ⟨e, _⟩ | ⟨a, len', cap', m, n, D, Pl, e, hb, hl, hm, hmm, _, hx⟩
  · cases e
    exact ⟨[], ⟨none, 0, rfl, by simp [maxLen], by simp⟩, by simp⟩
  · cases e
    have hC : Try.prog.cellsOf 36 = 3 := by kernel_rfl
    rw [hC] at hx
    have hlm : len ≤ m := by rw [hmm]; split <;> omega
    have each : ∀ i, i < len → ∃ x : Int × Int × Int, (w.cell? ((a.add (i * 3)).add 0) = some (.int .u8 x.1) ∧ w.cell? ((a.add (i * 3)).add 1) = some (.int .i64 x.2.1) ∧ w.cell? ((a.add (i * 3)).add 2) = some (.int .i64 x.2.2)) ∧
        (0 ≤ x.1 ∧ x.1 ≤ 255) ∧ (-9223372036854775808 ≤ x.2.1 ∧ x.2.1 ≤ 9223372036854775807) ∧ (-9223372036854775808 ≤ x.2.2 ∧ x.2.2 ≤ 9223372036854775807) := by
      intro i hi
      obtain ⟨cs', h1, h2⟩ := hx i (by omega)
      obtain ⟨_, hlen, hat⟩ := World.cells?_some h1
      obtain ⟨k, c, q, rfl, b0, b1, b2⟩ := act_of_cells hlen h2
      exact ⟨(k, c, q), ⟨hat 0 (by omega), hat 1 (by omega), hat 2 (by omega)⟩, b0, b1, b2⟩
    obtain ⟨X, hX⟩ := choose_lt each
    have hXl : ((List.range len).map X).length = len := by simp
    refine ⟨(List.range len).map X, ⟨some a, cap, by rw [hXl], by rw [hXl]; exact ⟨hl, hm⟩, ?_⟩, ?_⟩
    · intro hp
      rw [hXl] at hp
      have h0 := (hX 0 hp).1.1
      have ha : (a.add (0 * 3)).add 0 = a := by simp [Addr.add]
      rw [ha] at h0
      obtain ⟨hs, hlt⟩ := spot_none h0
      obtain ⟨b, o, s⟩ := a
      obtain rfl : s = none := hs
      refine ⟨b, o, rfl, hlt, fun i hi => ?_⟩
      rw [hXl] at hi
      have h1 := (hX i hi).1
      simp only [add_plain, Nat.add_zero] at h1
      simpa using h1
    · intro x hx'
      obtain ⟨i, hi, rfl⟩ := List.mem_map.1 hx'
      exact (hX i (List.mem_range.1 hi)).2
end
end Go.Proofs.Ytbjchfhglnepiaa
