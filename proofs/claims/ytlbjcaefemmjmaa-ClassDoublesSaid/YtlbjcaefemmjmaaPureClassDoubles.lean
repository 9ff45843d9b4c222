/- Each class has blocks of twice as many words as the one ahead, and a span half as many of them: for every pair of numbers of 8 bits; no condition. -/
import Derived.Test.YtlbjcaefemmjmaaPClassDoublesx2
import Derived.OpenShut
namespace Go.Proofs.Ytlbjcaefemmjmaa.Pure
open Go.RowKit Go.Proofs.Ytlbjcaefemmjmaa.PClassDoubles Go.Proofs.YtlbjcaefemmjmaaW.PrintWords Go.Proofs.YtlbjcaefemmjmaaW.PrintLast

set_option maxRecDepth 100000 in
theorem doubles_all : ∀ r : Fin 3, ∀ s : Fin 256, lockstitchlaw13_ClassDoubles.f 40 (r.val : Int) (s.val : Int) = some true := by decide +kernel

theorem doubles_mod (a b : Int) : lockstitchlaw13_ClassDoubles.f 40 a b = lockstitchlaw13_ClassDoubles.f 40 (Int.tmod a 3) b := by
  unfold lockstitchlaw13_ClassDoubles.f
  rw [Int.tmod_tmod]

theorem ClassDoubles : lockstitchlaw13_ClassDoubles.Pure := by
  intro a b ha hb
  obtain ⟨ha0, _⟩ := bounds_u8 ha
  obtain ⟨hb0, hb1⟩ := bounds_u8 hb
  refine ⟨40, ?_⟩
  rw [doubles_mod, Int.tmod_eq_emod_of_nonneg ha0]
  have h := doubles_all ⟨(a % 3).toNat, by omega⟩ ⟨b.toNat, by omega⟩
  have e1 : (((a % 3).toNat : Nat) : Int) = a % 3 := by omega
  have e2 : ((b.toNat : Nat) : Int) = b := by omega
  simp only [e1, e2] at h
  exact h

end Go.Proofs.Ytlbjcaefemmjmaa.Pure
