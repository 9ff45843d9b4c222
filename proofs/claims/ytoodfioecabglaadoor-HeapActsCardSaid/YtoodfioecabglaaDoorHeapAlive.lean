/- New over the document's heap; the walk of the heap laws' alive. -/
import Derived.Test.YtoodfioecabglaaDoorHeapAt
import Derived.Test.YtoodfioecabglaaDoorHeapNew
set_option linter.unusedVariables false
set_option linter.unusedSimpArgs false
namespace Go.Proofs.YtoodfioecabglaaDoor
open Go.RowKit Go.Shelf

theorem new_s (N : Nat) (w : World) (h1 : 1 ≤ N) (h2 : N ≤ 512) (hT : TabW w) :
    Calls Tryd.prog 11 #[.int .i64 (N : Int)] w fun e w' => ∃ (h : Nat) (F : Nat → Prop), e = .returned (.pointer (some ⟨h, 0, none⟩)) ∧ HpAt w' h (sNew N) F ∧ (∀ k, F k → w.heap.size ≤ k) ∧ Below w.heap.size w w' := by
  refine (new_ok N w h1 h2).mono ?_
  rintro e w' ⟨h, rfl, _, H, hb⟩
  refine ⟨h, _, rfl, ⟨new_inv h1 h2, ⟨[], _, ⟨fun j => ?_, fun o ho => by cases ho⟩, H⟩, hT.below hb, fun hF => ?_⟩, fun k hk => hk.1, hb⟩
  · rw [bitAt_nil]
    constructor
    · intro e; cases e
    · rintro ⟨o, ho, _⟩; cases ho
  · have := hT.lt
    have := hF.1
    omega
section
variable {h : Nat} {S S' : HS} {F : Nat → Prop} {w : World}
theorem alloc_r {n mask junk p er : Int} (hr : sAlloc S n mask junk = (S', p, er)) (H : HpAt w h S F) (hm0 : 0 ≤ mask) (hm : mask ≤ 255) (hx : -9223372036854775808 ≤ junk ∧ junk ≤ 9223372036854775807) :
    Calls Tryd.prog 23 #[.pointer (some ⟨h, 0, none⟩), .int .i64 n, .int .u8 mask, .int .i64 junk] w fun e w' => e = .returned (.tuple #[.int .i64 p, .int .i64 er]) ∧ ∃ F', HpAt w' h S' F' ∧ Step F w w' F' := by
  have := alloc_s h S F w n mask junk H hm0 hm hx
  rw [hr] at this
  exact this
theorem free_r {p junk er : Int} (hr : sFree S p junk = (S', er)) (H : HpAt w h S F) (hp0 : -9223372036854775808 ≤ p) (hp : p ≤ 9223372036854775807) (hx : -9223372036854775808 ≤ junk ∧ junk ≤ 9223372036854775807) :
    Calls Tryd.prog 15 #[.pointer (some ⟨h, 0, none⟩), .int .i64 p, .int .i64 junk] w fun e w' => e = .returned (.int .i64 er) ∧ ∃ F', HpAt w' h S' F' ∧ Step F w w' F' := by
  have := free_s h S F w p junk H hp0 hp hx
  rw [hr] at this
  exact this
theorem load_r {p f x er : Int} (hr : sLoad S p f = (x, er)) (H : HpAt w h S F) (hp0 : -9223372036854775808 ≤ p) (hp : p ≤ 9223372036854775807) :
    Calls Tryd.prog 18 #[.pointer (some ⟨h, 0, none⟩), .int .i64 p, .int .i64 f] w fun e w' => e = .returned (.tuple #[.int .i64 x, .int .i64 er]) ∧ Below w.heap.size w w' := by
  have := load_s h S F w p f H hp0 hp
  rw [hr] at this
  exact this
theorem size_r {p n mask : Int} {is : Bool} (hr : sSize S p = (n, mask, is)) (H : HpAt w h S F) (hp0 : -9223372036854775808 ≤ p) (hp : p ≤ 9223372036854775807) :
    Calls Tryd.prog 27 #[.pointer (some ⟨h, 0, none⟩), .int .i64 p] w fun e w' => e = .returned (.tuple #[.int .i64 n, .int .u8 mask, .bool is]) ∧ Below w.heap.size w w' := by
  have := size_s h S F w p H hp0 hp
  rw [hr] at this
  exact this
theorem fits_r {n : Int} {b : Bool} (hr : sFits S n = b) (H : HpAt w h S F) :
    Calls Tryd.prog 32 #[.pointer (some ⟨h, 0, none⟩), .int .i64 n] w fun e w' => e = .returned (.bool b) ∧ Below w.heap.size w w' := by
  have := fits_s h S F w n H
  rw [hr] at this
  exact this
theorem all_r {l : List Int} (hr : sAll S = l) (H : HpAt w h S F) :
    Calls Tryd.prog 26 #[.pointer (some ⟨h, 0, none⟩)] w fun e w' => ∃ A c, e = .returned (.slice A l.length c) ∧ Rd i64e w' (.slice A l.length c) l ∧ From w.heap.size (.slice A l.length c) ∧ Below w.heap.size w w' := by
  refine (all_s h S F w H).mono ?_
  rintro e w' ⟨v, rfl, ho, hb⟩
  rw [hr] at ho
  obtain ⟨A, c, rfl, _⟩ := own_form ho
  exact ⟨A, c, rfl, Rd.of_own ho, own_from ho, hb⟩
end
theorem step_all {F G : Nat → Prop} {w w1 w2 : World} (h : Below w.heap.size w w1) (hF : ∀ k, F k → w.heap.size ≤ k) (k : Step F w1 w2 G) : Below w.heap.size w w2 ∧ ∀ k, G k → w.heap.size ≤ k :=
  ⟨h.trans (k.below hF h.size), fun j hj => (k.sub j hj).elim (hF j) fun e => Nat.le_trans h.size e⟩

def v1 : HS := (sAlloc (sNew 1) 3 2 9).1
def v2 : HS := (sAlloc v1 3 0 9).1
def v3 : HS := (sFree v2 1 0).1
def v4 : HS := (sFree v3 5 0).1
def v5 : HS := (sAlloc v4 1 1 0).1
theorem v1_eq : sAlloc (sNew 1) 3 2 9 = (v1, 1, 0) := Prod.ext rfl (by decide +kernel)
theorem v2_eq : sAlloc v1 3 0 9 = (v2, 5, 0) := Prod.ext rfl (by decide +kernel)
theorem v2_full : sAlloc v2 1 0 9 = (v2, 0, 6) := by
  have h : sFits v2 1 = false := by decide +kernel
  unfold sAlloc
  rw [if_neg (by decide), if_pos h]
theorem v2_load : sLoad v2 5 2 = (9, 0) := by decide +kernel
theorem v3_eq : sFree v2 1 0 = (v3, 0) := Prod.ext rfl (by decide +kernel)
theorem v4_eq : sFree v3 5 0 = (v4, 0) := Prod.ext rfl (by decide +kernel)
theorem v4_gone : sFree v4 5 0 = (v4, 11) := by
  have h : sThere v4 5 0 = 11 := by decide +kernel
  unfold sFree
  rw [if_pos (by rw [h]; decide)]
theorem v5_eq : sAlloc v4 1 1 0 = (v5, 1, 0) := Prod.ext rfl (by decide +kernel)
theorem v5_size : sSize v5 1 = (1, 1, true) := by decide +kernel
theorem v5_all : sAll v5 = [1] := by decide +kernel
theorem v5_fits : sFits v5 1 = true := by decide +kernel
theorem v5_not : sFits v5 2 = false := by decide +kernel
set_option maxHeartbeats 1600000 in
set_option maxRecDepth 100000 in
theorem halive_ok (w : World) (hT : TabW w) : Calls Tryd.prog 10 #[] w fun e w' => e = .returned (.bool true) ∧ Below w.heap.size w w' := by
  replace hT := Lib.hid hT
  go_enter Tryd.func10, Tryd.ntmps10
  go_wp2_with fail
  refine (new_s 1 w (by omega) (by omega) hT.out).mono ?_
  rintro e w1 ⟨h, F1, rfl, H1, hF1, b1⟩
  replace hF1 := Lib.hid hF1
  go_wp2_with fail
  refine (alloc_r v1_eq H1 (by omega) (by omega) (by omega)).mono ?_
  rintro e w2 ⟨rfl, F2, H2, s2⟩
  obtain ⟨b2, hF2⟩ := step_all b1 hF1.out s2
  replace hF2 := Lib.hid hF2
  clear s2
  go_wp2_with fail
  refine (alloc_r v2_eq H2 (by omega) (by omega) (by omega)).mono ?_
  rintro e w3 ⟨rfl, F3, H3, s3⟩
  obtain ⟨b3, hF3⟩ := step_all b2 hF2.out s3
  replace hF3 := Lib.hid hF3
  clear s3
  go_wp2_with fail
  refine (alloc_r v2_full H3 (by omega) (by omega) (by omega)).mono ?_
  rintro e w4 ⟨rfl, F4, H4, s4⟩
  obtain ⟨b4, hF4⟩ := step_all b3 hF3.out s4
  replace hF4 := Lib.hid hF4
  clear s4
  go_wp2_with fail
  refine (load_r v2_load H4 (by omega) (by omega)).mono ?_
  rintro e w5 ⟨rfl, b5⟩
  have H5 := H4.below b5
  have b5 := below_all b4 b5
  go_wp2_with fail
  refine (free_r v3_eq H5 (by omega) (by omega) (by omega)).mono ?_
  rintro e w6 ⟨rfl, F6, H6, s6⟩
  obtain ⟨b6, hF6⟩ := step_all b5 hF4.out s6
  replace hF6 := Lib.hid hF6
  clear s6
  go_wp2_with fail
  refine (free_r v4_eq H6 (by omega) (by omega) (by omega)).mono ?_
  rintro e w7 ⟨rfl, F7, H7, s7⟩
  obtain ⟨b7, hF7⟩ := step_all b6 hF6.out s7
  replace hF7 := Lib.hid hF7
  clear s7
  go_wp2_with fail
  refine (free_r v4_gone H7 (by omega) (by omega) (by omega)).mono ?_
  rintro e w8 ⟨rfl, F8, H8, s8⟩
  obtain ⟨b8, hF8⟩ := step_all b7 hF7.out s8
  replace hF8 := Lib.hid hF8
  clear s8
  go_wp2_with fail
  refine (alloc_r v5_eq H8 (by omega) (by omega) (by omega)).mono ?_
  rintro e w9 ⟨rfl, F9, H9, s9⟩
  obtain ⟨b9, hF9⟩ := step_all b8 hF8.out s9
  replace hF9 := Lib.hid hF9
  clear s9
  go_wp2_with fail
  refine (size_r v5_size H9 (by omega) (by omega)).mono ?_
  rintro e w10 ⟨rfl, b10⟩
  have H10 := H9.below b10
  have b10 := below_all b9 b10
  go_wp2_with fail
  refine (all_r v5_all H10).mono ?_
  rintro e w11 ⟨A, c, rfl, _, _, b11⟩
  have H11 := H10.below b11
  have b11 := below_all b10 b11
  go_wp2_with fail
  refine (fits_r v5_fits H11).mono ?_
  rintro e w12 ⟨rfl, b12⟩
  have H12 := H11.below b12
  have b12 := below_all b11 b12
  go_wp2_with fail
  refine (fits_r v5_not H12).mono ?_
  rintro e w13 ⟨rfl, b13⟩
  have b13 := below_all b12 b13
  go_wp2_with fail
  go_ret
  exact ⟨rfl, b13⟩
end Go.Proofs.YtoodfioecabglaaDoor
