/- New over the document's heap; the walk of the heap laws' alive. -/
import Derived.Test.YtcaboknbdamlhaaGreatDoorHeapAt
import Derived.Test.YtcaboknbdamlhaaGreatDoorHeapNew
set_option linter.unusedVariables false
set_option linter.unusedSimpArgs false
namespace Go.Proofs.YtcaboknbdamlhaaGreatDoor
open Go.RowKit Go.Shelf

theorem new_s (N : Nat) (w : World) (h1 : 1 ≤ N) (h2 : N ≤ 512) (hT : TabW w) :
    Calls Tryz.prog 53 #[.int .i64 (N : Int)] w fun e w' => ∃ (h : Nat) (F : Nat → Prop), e = .returned (.pointer (some ⟨h, 0, none⟩)) ∧ HpAt w' h (sNew N) F ∧ (∀ k, F k → w.heap.size ≤ k) ∧ Below w.heap.size w w' := by
  refine (new_ok N w h1 h2).mono ?_
  rintro e w' ⟨h, rfl, _, H, hb⟩
  refine ⟨h, _, rfl, ⟨new_inv h1 h2, ⟨[], _, ⟨fun j => ?_, fun o ho => by cases ho⟩, H⟩, hT.below hb, fun hF => ?_⟩, fun k hk => hk.1, hb⟩
  · rw [bitAt_nil]
    constructor
    · intro e; cases e
    · rintro ⟨o, ho, _⟩; cases ho
  · have := hT.lt
    have := hF.1
    omega
section
variable {h : Nat} {S S' : HS} {F : Nat → Prop} {w : World}
theorem alloc_r {n mask junk p er : Int} (hr : sAlloc S n mask junk = (S', p, er)) (H : HpAt w h S F) (hm0 : 0 ≤ mask) (hm : mask ≤ 255) (hx : -9223372036854775808 ≤ junk ∧ junk ≤ 9223372036854775807) :
    Calls Tryz.prog 42 #[.pointer (some ⟨h, 0, none⟩), .int .i64 n, .int .u8 mask, .int .i64 junk] w fun e w' => e = .returned (.tuple #[.int .i64 p, .int .i64 er]) ∧ ∃ F', HpAt w' h S' F' ∧ Step F w w' F' := by
  have := alloc_s h S F w n mask junk H hm0 hm hx
  rw [hr] at this
  exact this
theorem free_r {p junk er : Int} (hr : sFree S p junk = (S', er)) (H : HpAt w h S F) (hp0 : -9223372036854775808 ≤ p) (hp : p ≤ 9223372036854775807) (hx : -9223372036854775808 ≤ junk ∧ junk ≤ 9223372036854775807) :
    Calls Tryz.prog 81 #[.pointer (some ⟨h, 0, none⟩), .int .i64 p, .int .i64 junk] w fun e w' => e = .returned (.int .i64 er) ∧ ∃ F', HpAt w' h S' F' ∧ Step F w w' F' := by
  have := free_s h S F w p junk H hp0 hp hx
  rw [hr] at this
  exact this
theorem load_r {p f x er : Int} (hr : sLoad S p f = (x, er)) (H : HpAt w h S F) (hp0 : -9223372036854775808 ≤ p) (hp : p ≤ 9223372036854775807) :
    Calls Tryz.prog 28 #[.pointer (some ⟨h, 0, none⟩), .int .i64 p, .int .i64 f] w fun e w' => e = .returned (.tuple #[.int .i64 x, .int .i64 er]) ∧ Below w.heap.size w w' := by
  have := load_s h S F w p f H hp0 hp
  rw [hr] at this
  exact this
theorem size_r {p n mask : Int} {is : Bool} (hr : sSize S p = (n, mask, is)) (H : HpAt w h S F) (hp0 : -9223372036854775808 ≤ p) (hp : p ≤ 9223372036854775807) :
    Calls Tryz.prog 25 #[.pointer (some ⟨h, 0, none⟩), .int .i64 p] w fun e w' => e = .returned (.tuple #[.int .i64 n, .int .u8 mask, .bool is]) ∧ Below w.heap.size w w' := by
  have := size_s h S F w p H hp0 hp
  rw [hr] at this
  exact this
theorem fits_r {n : Int} {b : Bool} (hr : sFits S n = b) (H : HpAt w h S F) :
    Calls Tryz.prog 29 #[.pointer (some ⟨h, 0, none⟩), .int .i64 n] w fun e w' => e = .returned (.bool b) ∧ Below w.heap.size w w' := by
  have := fits_s h S F w n H
  rw [hr] at this
  exact this
theorem all_r {l : List Int} (hr : sAll S = l) (H : HpAt w h S F) :
    Calls Tryz.prog 17 #[.pointer (some ⟨h, 0, none⟩)] w fun e w' => ∃ A c, e = .returned (.slice A l.length c) ∧ Rd i64e w' (.slice A l.length c) l ∧ From w.heap.size (.slice A l.length c) ∧ Below w.heap.size w w' := by
  refine (all_s h S F w H).mono ?_
  rintro e w' ⟨v, rfl, ho, hb⟩
  rw [hr] at ho
  obtain ⟨A, c, rfl, _⟩ := own_form ho
  exact ⟨A, c, rfl, Rd.of_own ho, own_from ho, hb⟩
end
theorem step_all {F G : Nat → Prop} {w w1 w2 : World} (h : Below w.heap.size w w1) (hF : ∀ k, F k → w.heap.size ≤ k) (k : Step F w1 w2 G) : Below w.heap.size w w2 ∧ ∀ k, G k → w.heap.size ≤ k :=
  ⟨h.trans (k.below hF h.size), fun j hj => (k.sub j hj).elim (hF j) fun e => Nat.le_trans h.size e⟩

def v1 : HS := (sAlloc (sNew 1) 3 2 9).1
def v2 : HS := (sAlloc v1 3 0 9).1
def v3 : HS := (sFree v2 1 0).1
def v4 : HS := (sFree v3 5 0).1
def v5 : HS := (sAlloc v4 1 1 0).1
theorem v1_eq : sAlloc (sNew 1) 3 2 9 = (v1, 1, 0) := Prod.ext rfl (by decide +kernel)
theorem v2_eq : sAlloc v1 3 0 9 = (v2, 5, 0) := Prod.ext rfl (by decide +kernel)
theorem v2_full : sAlloc v2 1 0 9 = (v2, 0, 6) := by
  have h : sFits v2 1 = false := by decide +kernel
  unfold sAlloc
  rw [if_neg (by decide), if_pos h]
theorem v2_load : sLoad v2 5 2 = (9, 0) := by decide +kernel
theorem v3_eq : sFree v2 1 0 = (v3, 0) := Prod.ext rfl (by decide +kernel)
theorem v4_eq : sFree v3 5 0 = (v4, 0) := Prod.ext rfl (by decide +kernel)
theorem v4_gone : sFree v4 5 0 = (v4, 11) := by
  have h : sThere v4 5 0 = 11 := by decide +kernel
  unfold sFree
  rw [if_pos (by rw [h]; decide)]
theorem v5_eq : sAlloc v4 1 1 0 = (v5, 1, 0) := Prod.ext rfl (by decide +kernel)
theorem v5_size : sSize v5 1 = (1, 1, true) := by decide +kernel
theorem v5_all : sAll v5 = [1] := by decide +kernel
theorem v5_fits : sFits v5 1 = true := by decide +kernel
theorem v5_not : sFits v5 2 = false := by decide +kernel
end Go.Proofs.YtcaboknbdamlhaaGreatDoor
