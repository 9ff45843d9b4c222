/- The walks of fill, block, Store, and Clear. -/
import Derived.Test.YtcaboknbdamlhaaGreatDoorHeapGet
import Derived.Test.YtcaboknbdamlhaaGreatDoorClass
import Derived.Deep.RegionHeld3
import Derived.StillTailTactics
set_option linter.unusedVariables false
set_option linter.unusedSimpArgs false
namespace Go.Proofs.YtcaboknbdamlhaaGreatDoor
open Go.RowKit

def fillW (xs : List Int) (p : Nat) (x : Int) : Nat → List Int
  | 0 => xs
  | k + 1 => (fillW xs p x k).set (p + k) x
theorem fillW_len (xs : List Int) (p : Nat) (x : Int) : ∀ k, (fillW xs p x k).length = xs.length
  | 0 => rfl
  | k + 1 => by simp [fillW, fillW_len xs p x k]
theorem setCell_frame (F : Nat → Prop) {w wr : World} (hs : Step F w wr F) {b i : Nat} (u : Value) (hb : F b) : Step F w (wr.setCell ⟨b, i, none⟩ u) F := hs.trans (step_setCell u hb)
set_option maxHeartbeats 800000 in
theorem fill_ok (h : Nat) (M : HM) (F : Nat → Prop) (bw bc bs cc : Nat) (f : Nat → Value) (vu : Value) (w : World) (H : HIn w h M F bw bc bs cc f vu) (p k c : Nat) (x : Int) (hx : -9223372036854775808 ≤ x ∧ x ≤ 9223372036854775807) (hk : p + k ≤ 8 * M.n + 1) (hkc : k ≤ c) :
    Calls Tryz.prog 74 #[.slice (some ⟨bw, p, none⟩) k c, .int .i64 x] w fun e w' => e = .returned (.tuple #[]) ∧ HIn w' h { M with words := fillW M.words p x k } F bw bc bs cc f vu ∧ Step F w w' F ∧ w'.heap.size = w.heap.size := by
  have hn2 := H.n2
  have HX := Lib.hid hx
  have HH := Lib.hid H
  clear H hx
  go_enter Tryz.func74, Tryz.ntmps74
  go_wp2_with fail
  go_loopw [4, 7] (fun i t wr => ∃ j : Nat, j ≤ k ∧ t = .int .i64 j ∧ Hid (HIn wr h { M with words := fillW M.words p x j } F bw bc bs cc f vu) ∧ Hid (Step F w wr F) ∧ Hid (wr.heap.size = w.heap.size)) (fun _ t _ => k - (intOf t).toNat)
  case atStart => exact ⟨0, by omega, rfl, HH, Lib.hid (Step.refl _ _), Lib.hid rfl⟩
  case round =>
    obtain ⟨j, hj, rfl, HJ, hst, hsz⟩ := hrel
    by_cases hlt : j < k
    · have hc := HJ.out.word_cell (i := p + j) (show p + j < 8 * M.n + 1 by omega)
      have hf := HJ.out.wblk.frozen (p + j)
      have HJ' := Lib.hid (HJ.out.set_word (p + j) x HX.out)
      have hst' := Lib.hid (setCell_frame F hst.out (b := bw) (i := p + j) (.int .i64 x) HJ.out.inF.2.1)
      have hsz' : Hid ((wr.setCell ⟨bw, p + j, none⟩ (.int .i64 x)).heap.size = w.heap.size) := Lib.hid ((setCell_size _ _ _).trans hsz.out)
      obtain ⟨y, hy⟩ : ∃ y, y = (fillW M.words p x j).getD (p + j) 0 := ⟨_, rfl⟩
      replace hc : wr.cell? ⟨bw, p + j, none⟩ = some (.int .i64 y) := by rw [hy]; exact hc
      clear hy HJ
      go_wp2_with fail
      go_roundw
      case rel => exact ⟨j + 1, by omega, by go_num, HJ', hst', hsz'⟩
      case measure => simp [intOf]; omega
    · obtain rfl : j = k := by omega
      have t0 : decide ((j : Int) < (j : Int)) = false := by rw [decide_eq_false_iff_not]; omega
      go_wp2_with fail
      go_end0
      exact ⟨rfl, HJ.out, hst.out, hsz.out⟩
theorem shape_le (n : Int) (h1 : 1 ≤ n) (h6 : n ≤ 6) : n ≤ wordsOf (classOf n) ∧ wordsOf (classOf n) ≤ 8 ∧ 1 ≤ wordsOf (classOf n) := by
  unfold classOf wordsOf
  repeat' split
  all_goals omega
def blockLen (M : HM) (k : Nat) : Nat := (wordsOf (classOf (M.sh.getD k (0, 0)).1)).toNat
theorem block_ok (h : Nat) (M : HM) (F : Nat → Prop) (bw bc bs cc : Nat) (f : Nat → Value) (vu : Value) (w : World) (H : HIn w h M F bw bc bs cc f vu) (k : Nat) (h1 : 1 ≤ (M.sh.getD k (0, 0)).1) (h6 : (M.sh.getD k (0, 0)).1 ≤ 6) (hk : k + blockLen M k ≤ 8 * M.n + 1) :
    Calls Tryz.prog 75 #[.pointer (some ⟨h, 0, none⟩), .int .i64 (k : Int)] w fun e w' => e = .returned (.slice (some ⟨bw, k, none⟩) (blockLen M k) (8 * M.n + 1 - k)) ∧ ∃ nq, w' = w.drewN nq := by
  have hn2 := H.n2
  obtain ⟨c0, c1, c6, c7⟩ := H.cells
  obtain ⟨s1, s2, s3⟩ := shape_le _ h1 h6
  have hlt : k < 8 * M.n + 1 := by unfold blockLen at hk; omega
  have hc := (H.sh_cell hlt).1
  rw [Nat.mul_comm] at hc
  obtain ⟨x, hx⟩ : ∃ x, x = (M.sh.getD k (0, 0)).1 := ⟨_, rfl⟩
  have hL : ((blockLen M k : Nat) : Int) = wordsOf (classOf x) := by unfold blockLen; rw [← hx]; rw [← hx] at s3; omega
  rw [← hx] at hc
  obtain ⟨L, hLL⟩ : ∃ L, L = blockLen M k := ⟨_, rfl⟩
  rw [← hLL] at hL hk ⊢
  have hw : wordsOf (classOf x) = (L : Int) := hL.symm
  have HW : ∀ wx, Calls Tryz.prog 83 #[.int .i64 (classOf x)] wx fun e w' => e = .returned (.int .i64 (L : Int)) ∧ wx = w' := fun wx => by rw [← hw]; exact words_ok _ wx
  have HW := Lib.hid HW
  have hL8 : L ≤ 8 := by have := words_bd (classOf x); omega
  clear hx hL hw hLL s1 s2 s3 h1 h6 H c1 c6
  have k0 : (0 : Int) ≤ (k : Int) := by omega
  have k1 : (k : Int) < 8 * (M.n : Int) + 1 := by omega
  have k2 : (k : Int) + (L : Int) ≤ 8 * (M.n : Int) + 1 := by omega
  have k3 : (k : Int) ≤ (k : Int) + (L : Int) := by omega
  have k4 : IntKind.i64.wrap ((k : Int) + (L : Int)) = (k : Int) + (L : Int) := by rw [IntKind.wrap_i64]; omega
  go_enter Tryz.func75, Tryz.ntmps75
  go_wp2_with fail
  go_quiet (first | (go_at_call 51; exact Calls.quiet_of_same ((of_ok _ _).mono fun _ _ h => ⟨h.1, h.2.symm⟩)) | (go_at_call 83; exact Calls.quiet_of_same ((HW.out _).mono fun _ _ h => ⟨h.1, h.2.symm⟩)))
  go_wp2_with fail
  go_ret
  exact ⟨ret_slice (by omega), nq, rfl⟩

def mStore (M : HM) (p f x : Int) : HM := if mThere M p f = 0 then { M with words := M.words.set (p + f).toNat x } else M
set_option maxHeartbeats 800000 in
theorem store_ok (h : Nat) (M : HM) (F : Nat → Prop) (p f x : Int) (w : World) (H : HAt w h M F) (hok : MOk M) (hp : p ≤ 9223372036854775807) (hp0 : -9223372036854775808 ≤ p) (hx : -9223372036854775808 ≤ x ∧ x ≤ 9223372036854775807) :
    Calls Tryz.prog 45 #[.pointer (some ⟨h, 0, none⟩), .int .i64 p, .int .i64 f, .int .i64 x] w fun e w' => e = .returned (.int .i64 (mThere M p f)) ∧ HAt w' h (mStore M p f x) F ∧ Step F w w' F := by
  have HT := Lib.hid (there_ok h M F p f w H hok hp hp0)
  by_cases h0 : mThere M p f = 0
  · have hl : mStore M p f x = { M with words := M.words.set (p + f).toNat x } := by unfold mStore; rw [if_pos h0]
    rw [hl, h0]
    rw [h0] at HT
    obtain ⟨k, g, rfl, rfl, hb, hg, hk1, hlt, hg6⟩ := there_in hok h0
    have hg5 : g ≤ 6 := by omega
    rw [show ((k : Int) + (g : Int)).toNat = k + g by omega]
    have q0 : (0 : Int) ≤ (k : Int) + (g : Int) := by omega
    have q1 : (k : Int) + (g : Int) < 8 * (M.n : Int) + 1 := by omega
    obtain ⟨bw, bc, bs, cc, ff, vu, H⟩ := H
    have hn2 := H.n2
    have HX := Lib.hid hx
    replace H := Lib.hid H
    clear h0 hl hok hb hg hg6 hx
    go_enter Tryz.func45, Tryz.ntmps45
    go_wp2_with fail
    refine HT.out.mono ?_
    rintro e w1 ⟨rfl, hb⟩
    have H1 := H.out.below hb
    have c0 := H1.cells.1
    have cw := H1.word_cell hlt
    have cf := H1.wblk.frozen (k + g)
    have H2 := Lib.hid (H1.set_word (k + g) x HX.out)
    have hst := Lib.hid (setCell_frame F (Step.of_below hb) (b := bw) (i := k + g) (.int .i64 x) H1.inF.2.1)
    obtain ⟨y, hy⟩ : ∃ y, y = M.words.getD (k + g) 0 := ⟨_, rfl⟩
    rw [← hy] at cw
    clear H1 hy
    go_wp2_with fail
    go_ret
    exact ⟨rfl, ⟨bw, bc, bs, cc, ff, vu, H2.out⟩, hst.out⟩
  · have hl : mStore M p f x = M := by unfold mStore; rw [if_neg h0]
    rw [hl]
    obtain ⟨y, hy⟩ : ∃ y, y = mThere M p f := ⟨_, rfl⟩
    rw [← hy] at HT h0 ⊢
    have tb : (y == 0) = false := by rw [beq_eq_false_iff_ne]; exact h0
    replace H := Lib.hid H
    clear hok hl h0 hy
    go_enter Tryz.func45, Tryz.ntmps45
    go_wp2_with fail
    refine HT.out.mono ?_
    rintro e w1 ⟨rfl, hb⟩
    go_wp2_with fail
    go_ret
    exact ⟨rfl, H.out.below hb, Step.of_below hb⟩

def mClear (M : HM) (p : Int) : HM := if mThere M p 0 = 0 then { M with words := fillW M.words p.toNat 0 (M.sh.getD p.toNat (0, 0)).1.toNat } else M
theorem keep_call {P : Program} {f : FuncId} {args : Array Value} {W w : World} {Q : Ending → World → Prop} (h : Below W.heap.size W w) (k : Below W.heap.size W w → Calls P f args w Q) : Calls P f args w Q := k h
end Go.Proofs.YtcaboknbdamlhaaGreatDoor
