/- Words: both, one, and not of two words, bit by bit. -/
import Derived.Test.YtcaboknbdamlhaaGreatDoorBitPure
import Derived.Laws.Bits64b
set_option linter.unusedVariables false
set_option linter.unusedSimpArgs false
namespace Go.Proofs.YtcaboknbdamlhaaGreatDoor
open Go
def W64 (x : Int) : Prop := 0 ≤ x ∧ x < 18446744073709551616
def op3 (op : BinOp) (a b : Bool) : Bool := match op with
  | .and => a && b
  | .or => a || b
  | .andNot => a && !b
  | _ => false
theorem bits_u64 (op : BinOp) (h : op = .and ∨ op = .or ∨ op = .andNot) {x y : Int} (hx : W64 x) (hy : W64 y) :
    W64 (bits op .u64 x y) ∧ ∀ k, k < 64 → (bits op .u64 x y).toNat.testBit k = op3 op (x.toNat.testBit k) (y.toNat.testBit k) := by
  obtain ⟨a, rfl⟩ : ∃ a : Nat, x = (a : Int) := ⟨x.toNat, by have := hx.1; omega⟩
  obtain ⟨b, rfl⟩ : ∃ b : Nat, y = (b : Int) := ⟨y.toNat, by have := hy.1; omega⟩
  have ha : a < 18446744073709551616 := by have := hx.2; omega
  have hb : b < 18446744073709551616 := by have := hy.2; omega
  have h1 : (BitVec.ofInt 64 (a : Int)).toNat = a := by
    rw [BitVec.ofInt_natCast, BitVec.toNat_ofNat]; exact Nat.mod_eq_of_lt (by omega)
  have h2 : (BitVec.ofInt 64 (b : Int)).toNat = b := by
    rw [BitVec.ofInt_natCast, BitVec.toNat_ofNat]; exact Nat.mod_eq_of_lt (by omega)
  rcases h with rfl | rfl | rfl
  · rw [bits_and_u64_nat a b ha hb]
    have hlt : a &&& b < 2 ^ 64 := Nat.and_lt_two_pow _ (by omega)
    exact ⟨⟨by omega, by omega⟩, fun k _ => by simp [op3, Nat.testBit_and]⟩
  · rw [bits_or_u64_nat a b ha hb]
    have hlt : a ||| b < 2 ^ 64 := Nat.or_lt_two_pow (by omega) (by omega)
    exact ⟨⟨by omega, by omega⟩, fun k _ => by simp [op3, Nat.testBit_or]⟩
  · have e : bits .andNot .u64 (a : Int) (b : Int) = (((BitVec.ofInt 64 (a : Int)) &&& ~~~(BitVec.ofInt 64 (b : Int))).toNat : Int) := by
      show IntKind.u64.wrap (((BitVec.ofInt 64 (a : Int)) &&& ~~~(BitVec.ofInt 64 (b : Int))).toNat : Int) = _
      rw [IntKind.wrap_u64]
      have := ((BitVec.ofInt 64 (a : Int)) &&& ~~~(BitVec.ofInt 64 (b : Int))).isLt
      omega
    rw [e]
    have hlt := ((BitVec.ofInt 64 (a : Int)) &&& ~~~(BitVec.ofInt 64 (b : Int))).isLt
    refine ⟨⟨by omega, by omega⟩, fun k hk => ?_⟩
    rw [Int.toNat_natCast, BitVec.testBit_toNat, BitVec.getLsbD_and, BitVec.getLsbD_not, ← BitVec.testBit_toNat, ← BitVec.testBit_toNat, h1, h2]
    simp [op3, hk]
/-- One bit of a word put, or taken away. -/
theorem two_pow_64 {k : Nat} (h : k < 64) : (2 : Nat) ^ k < 18446744073709551616 := by
  have := Nat.pow_lt_pow_right (a := 2) (by decide) h
  omega
theorem wrap_pow {k : Nat} (h : k < 64) : IntKind.u64.wrap (1 * 2 ^ k) = ((2 ^ k : Nat) : Int) := by
  have := two_pow_64 h
  rw [IntKind.wrap_u64, Int.one_mul]
  have e : ((2 : Int) ^ k) = ((2 ^ k : Nat) : Int) := by simp
  rw [e]
  generalize (2 : Nat) ^ k = p at *
  omega
theorem put_word {x : Int} (hx : W64 x) {k : Nat} (hk : k < 64) (op : BinOp) (h : op = .or ∨ op = .andNot) :
    W64 (bits op .u64 x ((2 ^ k : Nat) : Int)) ∧ ∀ j, j < 64 → (bits op .u64 x ((2 ^ k : Nat) : Int)).toNat.testBit j = if j = k then decide (op = .or) else x.toNat.testBit j := by
  have hp := two_pow_64 hk
  have hb := bits_u64 op (by rcases h with rfl | rfl <;> simp) hx (y := ((2 ^ k : Nat) : Int)) ⟨Int.natCast_nonneg _, by generalize (2 : Nat) ^ k = p at *; omega⟩
  refine ⟨hb.1, fun j hj => ?_⟩
  rw [hb.2 j hj, Int.toNat_natCast, Nat.testBit_two_pow]
  by_cases e : k = j
  · subst e
    rcases h with rfl | rfl <;> simp [op3]
  · rw [if_neg (fun h => e h.symm)]
    rcases h with rfl | rfl <;> simp [op3, e]
end Go.Proofs.YtcaboknbdamlhaaGreatDoor
