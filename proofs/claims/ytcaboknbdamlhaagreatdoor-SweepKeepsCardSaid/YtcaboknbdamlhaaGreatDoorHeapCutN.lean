/- cut, whatever the heap. -/
import Derived.Test.YtcaboknbdamlhaaGreatDoorHeapCutW
set_option linter.unusedVariables false
set_option linter.unusedSimpArgs false
namespace Go.Proofs.YtcaboknbdamlhaaGreatDoor
open Go.RowKit Go.Shelf
attribute [local go_sem] Oper.semAt_some
set_option maxRecDepth 100000 in
set_option maxHeartbeats 4000000 in
theorem cut_none (h : Nat) (M : HM) (F : Nat → Prop) (c : Int) (w : World) (H : HAt w h M F) (hx : (-1 : Int) ∉ M.cls) :
    Calls Tryz.prog 71 #[.pointer (some ⟨h, 0, none⟩), .int .i64 c] w fun e w' => e = .returned (.int .i64 (mCut M c).2) ∧ ∃ F', HAt w' h (mCut M c).1 F' ∧ Step F w w' F' := by
  obtain ⟨bw, bc, bs, cc, f, vu, H⟩ := H
  have hm : mCut M c = (M, 6) := by unfold mCut; rw [if_neg hx]
  have hix : ixOf M.cls (-1) = -1 := by unfold ixOf; rw [if_neg hx]
  rw [hm]
  have hn2 := H.n2
  have HX := Lib.hid (fun (wx : World) (hb : Below w.heap.size w wx) => show Calls Tryz.prog 84 #[.slice (some ⟨bc, 0, none⟩) M.n cc, .int .i64 (-1)] wx fun e w' => e = .returned (.int .i64 (-1)) ∧ wx = w' by
    have h1 : w.ownsRow 0 3 1 (.slice (some ⟨bc, 0, none⟩) M.n cc) M.cls.length (M.cls.map i64e) := by rw [H.clen]; exact H.cown
    have h2 := index_ok _ M.cls (-1) wx ((Rd.of_own h1).below hb) (by have := H.clen; omega)
    rw [hix] at h2
    exact h2)
  clear hm hix hx
  obtain ⟨W0, hW0⟩ : ∃ W0, W0 = ((w.alloc (.cells #[.pointer (some ⟨h, 0, none⟩)] 33)).alloc (.cells #[.int .i64 c] 3)) := ⟨_, rfl⟩
  have hB0 : Below w.heap.size w W0 := by rw [hW0]; exact ((Below.refl _ w).alloc (Nat.le_refl _) _).alloc (by simp) _
  have HT := H.below hB0
  have c1 := HT.cells.2.1
  have b2 := (Boxed.new w 33 (.pointer (some ⟨h, 0, none⟩))).alloc (.cells #[.int .i64 c] 3)
  have b3 := Boxed.new (w.alloc (.cells #[.pointer (some ⟨h, 0, none⟩)] 33)) 3 (.int .i64 c)
  rw [World.size_alloc] at b3
  rw [← hW0] at b2 b3
  have d2 := b2.cell
  have d3 := b3.cell
  have hres : Hid (∃ F', HAt W0 h M F' ∧ Step F w W0 F') := Lib.hid ⟨F, ⟨bw, bc, bs, cc, f, vu, HT⟩, Step.of_below hB0⟩
  replace HX := Lib.hid (HX.out W0 hB0)
  clear hB0 b2 b3 HT H
  subst hW0
  refine (callsIn_wide (n := 3)).1 ?_
  refine callsIn_of_wp_marks Tryz.func71 rfl trivial ?_ rfl
  simp only [Tryz.ntmps71, List.size_toArray, List.length_cons, List.length_nil, Nat.reduceAdd, Nat.reduceSub, Array.replicate_succ, Array.replicate_zero, List.push_toArray, List.append_toArray, List.nil_append, List.cons_append]
  gi_wp2_with (refine ⟨trivial, ?_⟩; gi_at_call 84; refine (callsIn_wide.2 HX.out).mono ?_; rintro e w' ⟨rfl, rfl⟩)
  exact ⟨_, results_tmp rfl _ _ _, rfl, hres.out⟩
theorem hcut_ok (h : Nat) (M : HM) (F : Nat → Prop) (c : Int) (w : World) (H : HAt w h M F) (hlf : LenF M.free 1000000) :
    Calls Tryz.prog 71 #[.pointer (some ⟨h, 0, none⟩), .int .i64 c] w fun e w' => e = .returned (.int .i64 (mCut M c).2) ∧ ∃ F', HAt w' h (mCut M c).1 F' ∧ Step F w w' F' := by
  by_cases hx : (-1 : Int) ∈ M.cls
  · exact cut_full h M F c w H hlf hx
  · exact cut_none h M F c w H hx
end Go.Proofs.YtcaboknbdamlhaaGreatDoor
