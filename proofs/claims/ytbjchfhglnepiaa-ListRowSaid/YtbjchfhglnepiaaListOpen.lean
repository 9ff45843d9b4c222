/- Arguments opened: four lists by value, a slice of numbers. -/
import Derived.Test.YtbjchfhglnepiaaRowKit
import Derived.Test.YtbjchfhglnepiaaListTake
import Derived.Test.YtbjchfhglnepiaaListRCut
import Derived.Deep.Slices
import Derived.Laws.IdiomArrays
set_option linter.unusedVariables false
set_option linter.unusedSimpArgs false
namespace Go.Proofs.Ytbjchfhglnepiaa
open Go.ChangeShapes Go.WideShapes Go.ChangeAt Go.RowKit Go.Joins

theorem spot_none {w : World} {a : Addr} {v : Value} (h : w.cell? a = some v) : a.spot = none ∧ a.block < w.heap.size := by
  refine ⟨?_, World.block_lt_of_cell? w a h⟩
  unfold World.cell? at h
  split at h
  · split at h
    · cases h
    · rename_i hs
      cases hh : a.spot with
      | none => rfl
      | some s => rw [hh] at hs; exact absurd rfl hs
  · cases h

section
variable {H : Type} {enc : TypeId × Value → H} {P : Program} {w : World} {base : Nat} {spare : Nat → Bool} {held : Bool}
/-- A slice of integers reads as a list. -/
theorem open_rd {t e : TypeId} {k : IntKind} {fuel : Nat} {cs : List Value} {x : DataW H × List MemPlace} (ht : P.underlying t = some (.slice e)) (he : P.underlying e = some (.int k)) (hc : P.cellsOf e = 1)
    (h : DataW.trod enc P w base spare held fuel t cs = some x) :
    ∃ v xs, cs = [v] ∧ Rd (fun n => Value.int k n) w v xs ∧ (∀ n ∈ xs, (Lit.int k n).wf = true) ∧ ((x.1 = .nil ∧ xs = []) ∨ ∃ sp, x.1 = .slice (lits k xs) sp) := by
  rcases open_ints ht he hc h with ⟨rfl, rfl⟩ | ⟨a, len, cap, zs, rfl, hb, hl, hm, hlen, rfl, hcell, hwf⟩
  · exact ⟨_, [], rfl, Rd.none_ _ _, by simp, .inl ⟨rfl, rfl⟩⟩
  · have hzs : len ≤ zs.length := by rw [hlen]; split <;> omega
    have htl : (zs.take len).length = len := by simp; omega
    refine ⟨_, zs.take len, rfl, ⟨some a, cap, by rw [htl], ⟨by omega, hm, by simp⟩, ?_⟩, fun n hn => hwf n (List.mem_of_mem_take hn), .inr ⟨_, rfl⟩⟩
    intro hp
    have h0 := hcell 0 (by omega)
    have ha : a.add 0 = a := by simp [Addr.add]
    rw [ha] at h0
    obtain ⟨hs, hlt⟩ := spot_none h0
    obtain ⟨b, o, s⟩ := a
    obtain rfl : s = none := hs
    refine ⟨b, o, rfl, hlt, fun i hi => ?_⟩
    have h1 := hcell i (by omega)
    have hai : Addr.add ⟨b, o, none⟩ i = ⟨b, o + i, none⟩ := by
      unfold Addr.add
      split
      · next e => subst e; rfl
      · rfl
    rw [hai] at h1
    rw [h1]
    simp [List.getD, List.getElem?_eq_getElem (show i < zs.length by omega)]
end
theorem wf_top {n : Int} (h : (Lit.int .i64 n).wf = true) : n ≤ 9223372036854775807 := (bounds_i64 h).2
section
variable {H : Type} {enc : TypeId × Value → H} {w : World} {base : Nat} {spare : Nat → Bool} {held : Bool}
/-- Four lists of numbers, by value. -/
theorem open_lists {ts : List TypeId} {ds : List (DataW H)} {j : Nat} {v : Value} {d : DataW H} {p : List MemPlace} (hv : Value.okWide Try.prog w .any base 34 v) (h : DataW.Trod enc Try.prog w 0 (fun _ => true) true 34 v d p)
    (hsz : (DataW.weightsEach Try.prog ts ds).all (· ≤ reachBytes) = true) (ht : ts[j]? = some 34) (hd : ds[j]? = some d) :
    ∃ (f : Nat → Value) (L : Nat → List Int), v = .agg (arr4 f) ∧ (∀ j, j < 4 → Rd i64e w (f j) (L j)) ∧ BdL L ∧ ∀ j, j < 4 → (L j).length ≤ 17592186044416 := by
  obtain ⟨cs, rfl, hcs, _⟩ : ∃ cs, v = .agg cs ∧ cs.size = Try.prog.cellsOf 34 ∧ Row.okWide Try.prog w .any base 34 cs := by
    simpa [Value.okWide, Try.underlying34] using hv
  rw [show Try.prog.cellsOf 34 = 4 by kernel_rfl] at hcs
  obtain ⟨l⟩ := cs
  match l, hcs with
  | [c0, c1, c2, c3], _ =>
    obtain ⟨fuel, hf⟩ := h
    obtain ⟨y0, y1, y2, y3, n, hx, h0, h1, h2, h3⟩ := trod_array4 Try.underlying34 (by kernel_rfl) (show DataW.trod enc Try.prog w 0 (fun _ => true) true fuel 34 [c0, c1, c2, c3] = some _ from hf)
    have hi : Try.prog.cellsOf 3 = 1 := by kernel_rfl
    obtain ⟨v0, x0, e0, r0, b0, k0⟩ := open_rd Try.underlying26 Try.underlying3 hi h0
    obtain ⟨v1, x1, e1, r1, b1, k1⟩ := open_rd Try.underlying26 Try.underlying3 hi h1
    obtain ⟨v2, x2, e2, r2, b2, k2⟩ := open_rd Try.underlying26 Try.underlying3 hi h2
    obtain ⟨v3, x3, e3, r3, b3, k3⟩ := open_rd Try.underlying26 Try.underlying3 hi h3
    cases e0; cases e1; cases e2; cases e3
    obtain ⟨hx, -⟩ := Prod.mk.inj hx
    subst hx
    have hby : Try.prog.bytesOf 3 = 8 := by kernel_rfl
    have key : ∀ (y : DataW H) (xs : List Int), y ∈ [y0.1, y1.1, y2.1, y3.1] → ((y = .nil ∧ xs = []) ∨ ∃ sp, y = .slice (lits .i64 xs) sp) → xs.length ≤ 17592186044416 := by
      intro y xs hy hk
      rcases hk with ⟨_, rfl⟩ | ⟨sp, rfl⟩
      · simp
      · have hm : ((lits (H := H) .i64 xs).length + sp.length) * Try.prog.bytesOf 3 ∈ (DataW.agg [y0.1, y1.1, y2.1, y3.1]).weights Try.prog 34 := by
          simp only [DataW.weights, Try.underlying34, DataW.weightsAll, List.mem_append, List.append_nil]
          have hw : ((lits (H := H) .i64 xs).length + sp.length) * Try.prog.bytesOf 3 ∈ (DataW.slice (lits (H := H) .i64 xs) sp).weights Try.prog 26 := by
            simp only [DataW.weights, Try.underlying26]
            exact List.mem_cons_self
          simp only [List.mem_cons, List.not_mem_nil, or_false] at hy
          rcases hy with h | h | h | h <;> rw [← h] <;> simp only [hw, true_or, or_true]
        have hle := List.all_eq_true.1 hsz _ (DataW.weights_mem_each ht hd _ hm)
        rw [hby] at hle
        simp only [lits, List.length_map, decide_eq_true_eq] at hle
        unfold reachBytes at hle
        omega
    refine ⟨fun j => match j with | 0 => c0 | 1 => c1 | 2 => c2 | _ => c3, fun j => match j with | 0 => x0 | 1 => x1 | 2 => x2 | _ => x3, rfl, ?_, ?_, ?_⟩
    · intro j hj
      match j, hj with
      | 0, _ => exact r0
      | 1, _ => exact r1
      | 2, _ => exact r2
      | 3, _ => exact r3
    · intro j hj
      match j, hj with
      | 0, _ => exact fun x hx => wf_top (b0 x hx)
      | 1, _ => exact fun x hx => wf_top (b1 x hx)
      | 2, _ => exact fun x hx => wf_top (b2 x hx)
      | 3, _ => exact fun x hx => wf_top (b3 x hx)
    · intro j hj
      match j, hj with
      | 0, _ => exact key _ _ (by simp) k0
      | 1, _ => exact key _ _ (by simp) k1
      | 2, _ => exact key _ _ (by simp) k2
      | 3, _ => exact key _ _ (by simp) k3
/-- A call, by value. -/
theorem open_act {v : Value} {d : DataW H} {p : List MemPlace} (hv : Value.okWide Try.prog w .any base 36 v) (h : DataW.Trod enc Try.prog w 0 (fun _ => true) true 36 v d p) :
    ∃ k c q : Int, v = .agg #[.int .u8 k, .int .i64 c, .int .i64 q] ∧ (0 ≤ k ∧ k ≤ 255) ∧ (-9223372036854775808 ≤ c ∧ c ≤ 9223372036854775807) ∧ (-9223372036854775808 ≤ q ∧ q ≤ 9223372036854775807) := by
  obtain ⟨v0, v1, v2, y0, y1, y2, n, rfl, _, _, h0, h1, h2⟩ := open_agg3 Try.underlying36 (by kernel_rfl) (by kernel_rfl) hv h
  obtain ⟨k, e0, _, w0⟩ := DataW.trod_int Try.underlying5 h0
  obtain ⟨c, e1, _, w1⟩ := DataW.trod_int Try.underlying3 h1
  obtain ⟨q, e2, _, w2⟩ := DataW.trod_int Try.underlying3 h2
  cases e0; cases e1; cases e2
  exact ⟨k, c, q, rfl, bounds_u8 w0, bounds_i64 w1, bounds_i64 w2⟩
end
end Go.Proofs.Ytbjchfhglnepiaa
