/- Which list has a block: Has, of the program and of the reference. -/
import Derived.Test.YtcaboknbdamlhaaGreatDoorListOwn
set_option linter.unusedVariables false
set_option linter.unusedSimpArgs false
namespace Go.Proofs.YtcaboknbdamlhaaGreatDoor
open Go.RowKit

def hasIn (L : Nat → List Int) (x : Int) : Int := if x ∈ L 0 then 0 else if x ∈ L 1 then 1 else if x ∈ L 2 then 2 else if x ∈ L 3 then 3 else -1

theorem has_in_ok (v : Value) (xs : List Int) (B : Nat) (x : Int) (w : World) (hv : Rd i64e w v xs) (hl : xs.length ≤ 1099511627776) (hB : w.cell? ⟨B, 0, none⟩ = some (.int .i64 x)) :
    Calls Tryz.prog 117 #[v, .pointer (some ⟨B, 0, none⟩)] w fun e w' => e = .returned (.bool (decide (x ∈ xs))) ∧ w = w' := by
  go_enter Tryz.func117, Tryz.ntmps117
  go_wp2_with (go_at_call 52; refine (contains_ok _ xs _ _ hv hl).mono ?_; rintro e w' ⟨rfl, rfl⟩)
  go_ret
  exact ⟨rfl, rfl⟩

theorem cell_arr4 {w : World} {g : Nat} {t : TypeId} {f : Nat → Value} (h : Blk w g t (arr4 f)) : w.cell? ⟨g, 0, none⟩ = some (f 0) ∧ w.cell? ⟨g, 1, none⟩ = some (f 1) ∧ w.cell? ⟨g, 2, none⟩ = some (f 2) ∧ w.cell? ⟨g, 3, none⟩ = some (f 3) :=
  ⟨h.cell 0, h.cell 1, h.cell 2, h.cell 3⟩

theorem has_walk (g B : Nat) (f : Nat → Value) (L : Nat → List Int) (x : Int) (w : World) (hf : ∀ j, j < 4 → Rd i64e w (f j) (L j)) (hl : ShortL L) (hg : Blk w g 89 (arr4 f)) (hB : w.cell? ⟨B, 0, none⟩ = some (.int .i64 x)) :
    Calls Tryz.prog 116 #[.slice (some ⟨g, 0, none⟩) 4 4, .func (.func 117) #[] #[.pointer (some ⟨B, 0, none⟩)]] w fun e w' => e = .returned (.int .i64 (hasIn L x)) ∧ w = w' := by
  obtain ⟨c0, c1, c2, c3⟩ := cell_arr4 hg
  have h0 := has_in_ok (f 0) (L 0) B x w (hf 0 (by omega)) (hl 0 (by omega)) hB
  have h1 := has_in_ok (f 1) (L 1) B x w (hf 1 (by omega)) (hl 1 (by omega)) hB
  have h2 := has_in_ok (f 2) (L 2) B x w (hf 2 (by omega)) (hl 2 (by omega)) hB
  have h3 := has_in_ok (f 3) (L 3) B x w (hf 3 (by omega)) (hl 3 (by omega)) hB
  have H0 := Lib.hid h0
  have H1 := Lib.hid h1
  have H2 := Lib.hid h2
  have H3 := Lib.hid h3
  clear h0 h1 h2 h3 hf hl hg
  unfold hasIn
  go_enter Tryz.func116, Tryz.ntmps116
  go_wp2_with fail
  refine wp_loop_rounds 5 ?_
  rw [rounds_succ]
  go_wp2_with fail
  refine H0.out.mono ?_
  rintro e w' ⟨rfl, rfl⟩
  by_cases m0 : x ∈ L 0
  · go_wp2_with fail
    go_ret
    exact ⟨rfl, rfl⟩
  go_wp2_with fail
  rw [rounds_succ]
  go_wp2_with fail
  refine H1.out.mono ?_
  rintro e w' ⟨rfl, rfl⟩
  by_cases m1 : x ∈ L 1
  · go_wp2_with fail
    go_ret
    exact ⟨rfl, rfl⟩
  go_wp2_with fail
  rw [rounds_succ]
  go_wp2_with fail
  refine H2.out.mono ?_
  rintro e w' ⟨rfl, rfl⟩
  by_cases m2 : x ∈ L 2
  · go_wp2_with fail
    go_ret
    exact ⟨rfl, rfl⟩
  go_wp2_with fail
  rw [rounds_succ]
  go_wp2_with fail
  refine H3.out.mono ?_
  rintro e w' ⟨rfl, rfl⟩
  by_cases m3 : x ∈ L 3
  · go_wp2_with fail
    go_ret
    exact ⟨rfl, rfl⟩
  go_wp2_with fail
  rw [rounds_succ]
  go_wp2_with fail
  go_ret
  exact ⟨rfl, rfl⟩

theorem has_ok (f : Nat → Value) (L : Nat → List Int) (x : Int) (w : World) (hf : ∀ j, j < 4 → Rd i64e w (f j) (L j)) (hl : ShortL L) :
    Calls Tryz.prog 113 #[.agg (arr4 f), .int .i64 x] w fun e w' => e = .returned (.int .i64 (hasIn L x)) ∧ Below w.heap.size w w' := by
  go_enter Tryz.func113, Tryz.ntmps113
  go_wp2_with fail
  have hb := (below_alloc w (.cells (arr4 f) 89)).alloc (by simp) (.cells #[.int .i64 x] 3)
  refine (has_walk w.heap.size (w.heap.size + 1) f L x _ (fun j hj => (hf j hj).below hb) hl ((Blk.new w 89 (arr4 f)).alloc _) ?_).mono ?_
  · rw [World.cell?_alloc_at _ _ _ _ (by simp)]; rfl
  rintro e w' ⟨rfl, rfl⟩
  go_wp2_with fail
  go_ret
  exact ⟨rfl, hb⟩

end Go.Proofs.YtcaboknbdamlhaaGreatDoor
