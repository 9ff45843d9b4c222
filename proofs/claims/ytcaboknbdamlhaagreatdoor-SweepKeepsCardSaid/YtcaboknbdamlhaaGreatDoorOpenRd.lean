/- Arguments opened: a slice of numbers. -/
import Derived.Test.YtcaboknbdamlhaaGreatDoorRowKit
import Derived.Deep.Slices
set_option linter.unusedVariables false
set_option linter.unusedSimpArgs false
namespace Go.Proofs.YtcaboknbdamlhaaGreatDoor
open Go.ChangeShapes Go.WideShapes Go.ChangeAt Go.RowKit Go.Joins

theorem spot_none {w : World} {a : Addr} {v : Value} (h : w.cell? a = some v) : a.spot = none ∧ a.block < w.heap.size := by
  refine ⟨?_, World.block_lt_of_cell? w a h⟩
  unfold World.cell? at h
  split at h
  · split at h
    · cases h
    · rename_i hs
      cases hh : a.spot with
      | none => rfl
      | some s => rw [hh] at hs; exact absurd rfl hs
  · cases h

section
variable {H : Type} {enc : TypeId × Value → H} {P : Program} {w : World} {base : Nat} {spare : Nat → Bool} {held : Bool}
/-- A slice of integers reads as a list. -/
theorem open_rd {t e : TypeId} {k : IntKind} {fuel : Nat} {cs : List Value} {x : DataW H × List MemPlace} (ht : P.underlying t = some (.slice e)) (he : P.underlying e = some (.int k)) (hc : P.cellsOf e = 1)
    (h : DataW.trod enc P w base spare held fuel t cs = some x) :
    ∃ v xs, cs = [v] ∧ Rd (fun n => Value.int k n) w v xs ∧ (∀ n ∈ xs, (Lit.int k n).wf = true) ∧ ((x.1 = .nil ∧ xs = []) ∨ ∃ sp, x.1 = .slice (lits k xs) sp) := by
  rcases open_ints ht he hc h with ⟨rfl, rfl⟩ | ⟨a, len, cap, zs, rfl, hb, hl, hm, hlen, rfl, hcell, hwf⟩
  · exact ⟨_, [], rfl, Rd.none_ _ _, by simp, .inl ⟨rfl, rfl⟩⟩
  · have hzs : len ≤ zs.length := by rw [hlen]; split <;> omega
    have htl : (zs.take len).length = len := by simp; omega
    refine ⟨_, zs.take len, rfl, ⟨some a, cap, by rw [htl], ⟨by omega, hm, by simp⟩, ?_⟩, fun n hn => hwf n (List.mem_of_mem_take hn), .inr ⟨_, rfl⟩⟩
    intro hp
    have h0 := hcell 0 (by omega)
    have ha : a.add 0 = a := by simp [Addr.add]
    rw [ha] at h0
    obtain ⟨hs, hlt⟩ := spot_none h0
    obtain ⟨b, o, s⟩ := a
    obtain rfl : s = none := hs
    refine ⟨b, o, rfl, hlt, fun i hi => ?_⟩
    have h1 := hcell i (by omega)
    have hai : Addr.add ⟨b, o, none⟩ i = ⟨b, o + i, none⟩ := by
      unfold Addr.add
      split
      · next e => subst e; rfl
      · rfl
    rw [hai] at h1
    rw [h1]
    simp [List.getD, List.getElem?_eq_getElem (show i < zs.length by omega)]
end
end Go.Proofs.YtcaboknbdamlhaaGreatDoor
