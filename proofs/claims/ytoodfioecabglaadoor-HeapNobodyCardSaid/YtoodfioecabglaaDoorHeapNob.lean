/- A heap that no call made; HeapNobody: what the walk shows is true for any numbers. -/
import Derived.Test.YtoodfioecabglaaDoorHeapAlive
set_option linter.unusedVariables false
set_option linter.unusedSimpArgs false
namespace Go.Proofs.YtoodfioecabglaaDoor
open Go.RowKit Go.Shelf

def zeroH : Array Value := #[.slice none 0 0, .slice none 0 0, .slice none 0 0, .slice none 0 0, .slice none 0 0, .slice none 0 0, .slice none 0 0, .slice none 0 0]
/-- Nothing, or a heap that is nought. -/
def Nob (w : World) (v : Value) : Prop := v = .pointer none ∨ ∃ h, v = .pointer (some ⟨h, 0, none⟩) ∧ Blk w h 70 zeroH
theorem Nob.below {w w' : World} {v : Value} (H : Nob w v) (hb : Below w.heap.size w w') : Nob w' v :=
  H.elim .inl fun ⟨h, e, hB⟩ => .inr ⟨h, e, hB.below hb hB.lt⟩
section
variable (v : Value) (w : World) (H : Nob w v)
include H
theorem good_nob : Calls Tryd.prog 52 #[v] w fun e w' => e = .returned (.bool false) ∧ w = w' := by
  rcases H with rfl | ⟨h, rfl, hB⟩
  · go_enter Tryd.func52, Tryd.ntmps52
    go_wp2_with fail
    go_ret
    exact ⟨rfl, rfl⟩
  · have c1 : w.cell? ⟨h, 1, none⟩ = some (.slice none 0 0) := hB.cell 1
    clear hB
    go_enter Tryd.func52, Tryd.ntmps52
    go_wp2_with fail
    go_ret
    exact ⟨rfl, rfl⟩
theorem size_nob (p : Int) : Calls Tryd.prog 27 #[v, .int .i64 p] w fun e w' => e = .returned (.tuple #[.int .i64 0, .int .u8 0, .bool false]) ∧ w = w' := by
  have HG := Lib.hid (good_nob v w H)
  replace H := Lib.hid H
  go_enter Tryd.func27, Tryd.ntmps27
  go_wp2_with fail
  refine HG.out.mono ?_
  rintro e w' ⟨rfl, rfl⟩
  go_wp2_with fail
  go_ret3
  exact ⟨rfl, rfl⟩
theorem there_nob (p f : Int) : Calls Tryd.prog 40 #[v, .int .i64 p, .int .i64 f] w fun e w' => e = .returned (.int .i64 1) ∧ w = w' := by
  have HG := Lib.hid (good_nob v w H)
  replace H := Lib.hid H
  go_enter Tryd.func40, Tryd.ntmps40
  go_wp2_with fail
  refine HG.out.mono ?_
  rintro e w' ⟨rfl, rfl⟩
  go_wp2_with fail
  go_ret
  exact ⟨rfl, rfl⟩
theorem load_nob (p f : Int) : Calls Tryd.prog 18 #[v, .int .i64 p, .int .i64 f] w fun e w' => e = .returned (.tuple #[.int .i64 0, .int .i64 1]) ∧ w = w' := by
  have HG := Lib.hid (there_nob v w H p f)
  replace H := Lib.hid H
  go_enter Tryd.func18, Tryd.ntmps18
  go_wp2_with fail
  refine HG.out.mono ?_
  rintro e w' ⟨rfl, rfl⟩
  go_wp2_with fail
  go_ret2
  exact ⟨rfl, rfl⟩
theorem store_nob (p f x : Int) : Calls Tryd.prog 21 #[v, .int .i64 p, .int .i64 f, .int .i64 x] w fun e w' => e = .returned (.int .i64 1) ∧ w = w' := by
  have HG := Lib.hid (there_nob v w H p f)
  replace H := Lib.hid H
  go_enter Tryd.func21, Tryd.ntmps21
  go_wp2_with fail
  refine HG.out.mono ?_
  rintro e w' ⟨rfl, rfl⟩
  go_wp2_with fail
  go_ret
  exact ⟨rfl, rfl⟩
theorem clear_nob (p : Int) : Calls Tryd.prog 17 #[v, .int .i64 p] w fun e w' => e = .returned (.int .i64 1) ∧ w = w' := by
  have HG := Lib.hid (there_nob v w H p 0)
  replace H := Lib.hid H
  go_enter Tryd.func17, Tryd.ntmps17
  go_wp2_with fail
  refine HG.out.mono ?_
  rintro e w' ⟨rfl, rfl⟩
  go_wp2_with fail
  go_ret
  exact ⟨rfl, rfl⟩
theorem free_nob (p x : Int) : Calls Tryd.prog 15 #[v, .int .i64 p, .int .i64 x] w fun e w' => e = .returned (.int .i64 1) ∧ w = w' := by
  have HG := Lib.hid (there_nob v w H p 0)
  replace H := Lib.hid H
  go_enter Tryd.func15, Tryd.ntmps15
  go_wp2_with fail
  refine HG.out.mono ?_
  rintro e w' ⟨rfl, rfl⟩
  go_wp2_with fail
  go_ret
  exact ⟨rfl, rfl⟩
theorem alloc_nob (n mask x : Int) : Calls Tryd.prog 23 #[v, .int .i64 n, .int .u8 mask, .int .i64 x] w fun e w' => e = .returned (.tuple #[.int .i64 0, .int .i64 1]) ∧ w = w' := by
  have HG := Lib.hid (good_nob v w H)
  replace H := Lib.hid H
  go_enter Tryd.func23, Tryd.ntmps23
  go_wp2_with fail
  refine HG.out.mono ?_
  rintro e w' ⟨rfl, rfl⟩
  go_wp2_with fail
  go_ret2
  exact ⟨rfl, rfl⟩
theorem all_nob : Calls Tryd.prog 26 #[v] w fun e w' => e = .returned (.slice none 0 0) ∧ w = w' := by
  have HG := Lib.hid (good_nob v w H)
  replace H := Lib.hid H
  go_enter Tryd.func26, Tryd.ntmps26
  go_wp2_with fail
  refine HG.out.mono ?_
  rintro e w' ⟨rfl, rfl⟩
  go_wp2_with fail
  go_ret
  exact ⟨rfl, rfl⟩
theorem fits_nob (n : Int) : Calls Tryd.prog 32 #[v, .int .i64 n] w fun e w' => e = .returned (.bool false) ∧ Below w.heap.size w w' := by
  have HG := Lib.hid (fun a => (good_nob v (w.drewN a) (H.below (below_drewN (Below.refl _ _) a))).mono fun e w' hh => And.intro hh.1 hh.2.symm)
  replace H := Lib.hid H
  go_enter Tryd.func32, Tryd.ntmps32
  go_wp2_with fail
  go_quiet ((go_at_call 52; exact Calls.quiet_of_same (HG.out _)))
  go_wp2_with fail
  go_ret
  exact ⟨rfl, below_drewN (Below.refl _ _) _⟩
end
theorem zero_box (w : World) : Blk (w.alloc (.cells #[.slice none 0 0, .slice none 0 0, .slice none 0 0, .slice none 0 0, .slice none 0 0, .slice none 0 0, .slice none 0 0, .slice none 0 0] 70)) w.heap.size 70 zeroH := Blk.new w _ _
def pick2 (a b : Value) (k : Nat) : Value := match k with | 0 => a | _ => b
theorem pick2_nob {w : World} {a b : Value} (ha : Nob w a) (hb : Nob w b) (k : Nat) : Nob w (pick2 a b k) := by
  unfold pick2
  split
  · exact ha
  · exact hb
set_option maxHeartbeats 1600000 in
set_option maxRecDepth 100000 in
theorem hnobody_ok (n mask x : Int) (w : World) (hT : TabW w) :
    Calls Tryd.prog 7 #[.int .i64 n, .int .u8 mask, .int .i64 x] w fun e w' => e = .returned (.bool true) ∧ Below w.heap.size w w' := by
  replace hT := Lib.hid hT
  go_enter Tryd.func7, Tryd.ntmps7
  go_wp2_with fail
  refine (halive_ok w hT.out).mono ?_
  rintro e w1 ⟨rfl, b1⟩
  have hz := Lib.hid (zero_box w1)
  go_wp2_with fail
  go_loopw [22] (fun i wr => ∃ k : Nat, k ≤ 2 ∧ i = .int .i64 k ∧ Below (w1.heap.size + 2) ((w1.alloc (.cells #[.slice none 0 0, .slice none 0 0, .slice none 0 0, .slice none 0 0, .slice none 0 0, .slice none 0 0, .slice none 0 0, .slice none 0 0] 70)).alloc (.cells #[.pointer none, .pointer (some ⟨w1.heap.size, 0, none⟩)] 24)) wr) (fun i _ => 2 - (intOf i).toNat)
  case atStart => exact ⟨0, by omega, rfl, Below.refl _ _⟩
  case round =>
    obtain ⟨k, hk, rfl, hb⟩ := hrel
    by_cases hlt : k < 2
    · have B1 : Blk wr (w1.heap.size + 1) 24 #[.pointer none, .pointer (some ⟨w1.heap.size, 0, none⟩)] := by
        have := Blk.new (w1.alloc (.cells #[.slice none 0 0, .slice none 0 0, .slice none 0 0, .slice none 0 0, .slice none 0 0, .slice none 0 0, .slice none 0 0, .slice none 0 0] 70)) 24 #[.pointer none, .pointer (some ⟨w1.heap.size, 0, none⟩)]
        rw [World.size_alloc] at this
        exact this.below hb (by omega)
      have B0 : Blk wr w1.heap.size 70 zeroH := ((hz.out.alloc _).below hb (by omega))
      have hc : wr.cell? ⟨w1.heap.size + 1, k, none⟩ = some (pick2 (.pointer none) (.pointer (some ⟨w1.heap.size, 0, none⟩)) k) := by
        rw [B1.cell k]
        rcases (by omega : k = 0 ∨ k = 1) with rfl | rfl <;> rfl
      have HN : Nob wr (pick2 (.pointer none) (.pointer (some ⟨w1.heap.size, 0, none⟩)) k) := pick2_nob (.inl rfl) (.inr ⟨_, rfl, B0⟩) k
      obtain ⟨v, hv⟩ : ∃ v, v = pick2 (.pointer none) (.pointer (some ⟨w1.heap.size, 0, none⟩)) k := ⟨_, rfl⟩
      rw [← hv] at hc HN
      replace HN := Lib.hid HN
      clear hv B1 B0
      have k2 : (k : Int) < 2 := by omega
      go_wp2_with (first
        | (go_at_call 23; refine (alloc_nob _ _ HN.out _ _ _).mono ?_; rintro e w' ⟨rfl, rfl⟩)
        | (go_at_call 18; refine (load_nob _ _ HN.out _ _).mono ?_; rintro e w' ⟨rfl, rfl⟩)
        | (go_at_call 27; refine (size_nob _ _ HN.out _).mono ?_; rintro e w' ⟨rfl, rfl⟩)
        | (go_at_call 17; refine (clear_nob _ _ HN.out _).mono ?_; rintro e w' ⟨rfl, rfl⟩)
        | (go_at_call 15; refine (free_nob _ _ HN.out _ _).mono ?_; rintro e w' ⟨rfl, rfl⟩)
        | (go_at_call 21; refine (store_nob _ _ HN.out _ _ _).mono ?_; rintro e w' ⟨rfl, rfl⟩)
        | (go_at_call 26; refine (all_nob _ _ HN.out).mono ?_; rintro e w' ⟨rfl, rfl⟩)
        | (go_at_call 32; refine (fits_nob _ _ HN.out _).mono ?_; rintro e w2 ⟨rfl, b2⟩))
      go_roundw
      case rel => exact ⟨k + 1, by omega, by go_num, hb.trans (b2.mono (by have := hb.size; simpa using this))⟩
      case measure => simp [intOf]; omega
    · obtain rfl : k = 2 := by omega
      go_wp2_with fail
      go_ret
      exact ⟨rfl, b1.trans ((((below_alloc w1 _).alloc (by simp) _).trans (hb.mono (by omega))).mono b1.size)⟩
end Go.Proofs.YtoodfioecabglaaDoor
