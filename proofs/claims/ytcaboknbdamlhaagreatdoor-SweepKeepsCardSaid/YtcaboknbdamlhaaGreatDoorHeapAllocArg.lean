/- The walk of Alloc: where an argument is refused. -/
import Derived.Test.YtcaboknbdamlhaaGreatDoorHeapAllocCut
set_option linter.unusedVariables false
set_option linter.unusedSimpArgs false
namespace Go.Proofs.YtcaboknbdamlhaaGreatDoor
open Go.RowKit Go.Shelf
set_option maxRecDepth 100000 in
set_option maxHeartbeats 4000000 in
theorem alloc_arg (h : Nat) (M : HM) (F : Nat → Prop) (n mask junk : Int) (w : World) (H : HAt w h M F) (hbad : n < 1 ∨ 6 < n ∨ mask / 2 ^ n.toNat ≠ 0) :
    Calls Tryz.prog 42 #[.pointer (some ⟨h, 0, none⟩), .int .i64 n, .int .u8 mask, .int .i64 junk] w fun e w' => e = .returned (.tuple #[.int .i64 0, .int .i64 2]) ∧ w = w' := by
  have HG := Lib.hid (good_ok h M F w H)
  replace H := Lib.hid H
  by_cases h1 : n < 1
  · clear hbad H
    go_enter Tryz.func42, Tryz.ntmps42
    go_wp2_with (go_at_call 39; refine HG.out.mono ?_; rintro e w' ⟨rfl, rfl⟩)
    go_ret2
    exact ⟨rfl, rfl⟩
  · by_cases h6 : 6 < n
    · clear hbad H
      go_enter Tryz.func42, Tryz.ntmps42
      go_wp2_with (go_at_call 39; refine HG.out.mono ?_; rintro e w' ⟨rfl, rfl⟩)
      go_ret2
      exact ⟨rfl, rfl⟩
    · have hm : ¬ (mask / 2 ^ n.toNat = 0) := by
        rcases hbad with hb | hb | hb
        · exact absurd hb h1
        · exact absurd hb h6
        · exact hb
      have tm : (mask / 2 ^ n.toNat != 0) = true := bne_iff_ne.2 hm
      clear hbad H
      go_enter Tryz.func42, Tryz.ntmps42
      go_wp2_with (go_at_call 39; refine HG.out.mono ?_; rintro e w' ⟨rfl, rfl⟩)
      go_ret2
      exact ⟨rfl, rfl⟩
end Go.Proofs.YtcaboknbdamlhaaGreatDoor
