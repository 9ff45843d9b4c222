/- An object has room in a block of its class, and in none of a lesser one, and greater objects are of no lesser class: for every pair of numbers of 8 bits; no condition. -/
import Derived.Test.YtlbjcaefemmjmaaPClassFitsx2
import Derived.OpenShut
namespace Go.Proofs.Ytlbjcaefemmjmaa.Pure
open Go.RowKit Go.Proofs.Ytlbjcaefemmjmaa.PClassFits Go.Proofs.YtlbjcaefemmjmaaW.PrintWords Go.Proofs.YtlbjcaefemmjmaaW.PrintLast

theorem fits_all : ∀ r : Fin 8, ∀ s : Fin 8, lockstitchlaw13_ClassFits.f 20 (r.val : Int) (s.val : Int) = some true := by decide +kernel

theorem fits_mod (a b : Int) : lockstitchlaw13_ClassFits.f 20 a b = lockstitchlaw13_ClassFits.f 20 (Int.tmod a 8) (Int.tmod b 8) := by
  unfold lockstitchlaw13_ClassFits.f
  rw [Int.tmod_tmod, Int.tmod_tmod]

theorem ClassFits : lockstitchlaw13_ClassFits.Pure := by
  intro a b ha hb
  obtain ⟨ha0, _⟩ := bounds_u8 ha
  obtain ⟨hb0, _⟩ := bounds_u8 hb
  refine ⟨20, ?_⟩
  rw [fits_mod, Int.tmod_eq_emod_of_nonneg ha0, Int.tmod_eq_emod_of_nonneg hb0]
  have h := fits_all ⟨(a % 8).toNat, by omega⟩ ⟨(b % 8).toNat, by omega⟩
  have e1 : (((a % 8).toNat : Nat) : Int) = a % 8 := by omega
  have e2 : (((b % 8).toNat : Nat) : Int) = b % 8 := by omega
  simp only [e1, e2] at h
  exact h

end Go.Proofs.Ytlbjcaefemmjmaa.Pure
