/- The walks of good, Size, there, and Load. -/
import Derived.Test.YtcaboknbdamlhaaGreatDoorHeapMem
import Derived.BigQuiet
import Derived.Deep.QuietTactic
import Derived.RegionTactic
import Derived.BigRegion
set_option linter.unusedVariables false
set_option linter.unusedSimpArgs false
namespace Go.Proofs.YtcaboknbdamlhaaGreatDoor
open Go.RowKit

def ptrV (h : Nat) : Value := .pointer (some ⟨h, 0, none⟩)
def mSize (M : HM) (p : Int) : Int × Int × Bool := if hasB M.zs p = true then ((M.sh.getD p.toNat (0, 0)).1, (M.sh.getD p.toNat (0, 0)).2, true) else (0, 0, false)
/-- Where an object begins there is one, with room. -/
def MOk (M : HM) : Prop := ∀ j, bitAt M.zs j = true → 1 ≤ j ∧ 1 ≤ (M.sh.getD j (0, 0)).1 ∧ (M.sh.getD j (0, 0)).1 ≤ 6 ∧ (j : Int) + wordsOf (classOf (M.sh.getD j (0, 0)).1) ≤ 8 * M.n + 1 ∧ 0 ≤ (M.sh.getD j (0, 0)).2 ∧ (M.sh.getD j (0, 0)).2 ≤ 255

theorem good_ok (h : Nat) (M : HM) (F : Nat → Prop) (w : World) (H : HAt w h M F) :
    Calls Tryz.prog 39 #[.pointer (some ⟨h, 0, none⟩)] w fun e w' => e = .returned (.bool true) ∧ w = w' := by
  obtain ⟨bw, bc, bs, cc, f, vu, H⟩ := H
  obtain ⟨c0, c1, c6, c7⟩ := H.cells
  have hn : (0 : Int) < (M.n : Int) := by have := H.n1; omega
  clear H c0 c6 c7
  go_enter Tryz.func39, Tryz.ntmps39
  go_wp2_with fail
  go_ret
  exact ⟨ret_bool (by rw [decide_eq_true_iff]; omega), rfl⟩

theorem has_lt {M : HM} (hok : MOk M) {j : Nat} (h : bitAt M.zs j = true) : j < 8 * M.n + 1 := by
  obtain ⟨h1, h2, h3, h4, _⟩ := hok j h
  have : 0 < wordsOf (classOf (M.sh.getD j (0, 0)).1) := by
    unfold classOf wordsOf
    repeat' split
    all_goals omega
  omega
set_option maxHeartbeats 800000 in
theorem size_ok (h : Nat) (M : HM) (F : Nat → Prop) (p : Int) (w : World) (H : HAt w h M F) (hok : MOk M) (hp : p ≤ 9223372036854775807) (hp0 : -9223372036854775808 ≤ p) :
    Calls Tryz.prog 25 #[.pointer (some ⟨h, 0, none⟩), .int .i64 p] w fun e w' => e = .returned (.tuple #[.int .i64 (mSize M p).1, .int .u8 (mSize M p).2.1, .bool (mSize M p).2.2]) ∧ Below w.heap.size w w' := by
  have HG := good_ok h M F w H
  obtain ⟨bw, bc, bs, cc, f, vu, H⟩ := H
  obtain ⟨c0, c1, c6, c7⟩ := H.cells
  have HH := bhas_ok vu M.zs p w H.ur (by have := H.ulen; omega) H.u64 hp hp0
  replace HG := Lib.hid HG
  replace HH := Lib.hid HH
  rcases hb : hasB M.zs p with _ | _
  · have hs : mSize M p = (0, 0, false) := by unfold mSize; rw [hb]; rfl
    rw [hb] at HH
    rw [hs]
    clear H c0 c1 c7 hs hok
    go_enter Tryz.func25, Tryz.ntmps25
    go_wp2_with fail
    refine HG.out.mono ?_
    rintro e w' ⟨rfl, rfl⟩
    go_wp2_with fail
    refine HH.out.mono ?_
    rintro e w' ⟨rfl, rfl⟩
    go_wp2_with fail
    go_ret3
    exact ⟨rfl, Below.refl _ _⟩
  · obtain ⟨k, rfl⟩ : ∃ k : Nat, p = (k : Int) := by
      refine ⟨p.toNat, ?_⟩
      unfold hasB at hb
      simp at hb
      omega
    have hbk : bitAt M.zs k = true := by unfold hasB at hb; simpa using hb
    have hlt := has_lt hok hbk
    have hs : mSize M k = ((M.sh.getD k (0, 0)).1, (M.sh.getD k (0, 0)).2, true) := by unfold mSize; rw [hb, Int.toNat_natCast]; rfl
    have hc := H.sh_cell hlt
    rw [hb] at HH
    rw [hs]
    obtain ⟨s1, hs1⟩ : ∃ s1, s1 = (M.sh.getD k (0, 0)).1 := ⟨_, rfl⟩
    obtain ⟨s2, hs2⟩ : ∃ s2, s2 = (M.sh.getD k (0, 0)).2 := ⟨_, rfl⟩
    rw [← hs1, ← hs2] at hc ⊢
    obtain ⟨q1, q2⟩ := hc
    rw [Nat.mul_comm] at q1 q2
    have k0 : (0 : Int) ≤ (k : Int) := by omega
    have k1 : (k : Int) < 8 * (M.n : Int) + 1 := by omega
    have hb9 := below_alloc w (.cells #[.int .i64 0, .int .u8 0] 100)
    clear H c0 c1 hs hok hb hbk hs1 hs2
    go_enter Tryz.func25, Tryz.ntmps25
    go_wp2_with fail
    refine HG.out.mono ?_
    rintro e w' ⟨rfl, rfl⟩
    go_wp2_with fail
    refine HH.out.mono ?_
    rintro e w' ⟨rfl, rfl⟩
    go_wp2_with fail
    have b0 : (w.alloc (.cells #[.int .i64 s1, .int .u8 s2] 100)).cell? ⟨w.heap.size, 0, none⟩ = some (.int .i64 s1) := (Blk.new w _ _).cell 0
    have b1 : (w.alloc (.cells #[.int .i64 s1, .int .u8 s2] 100)).cell? ⟨w.heap.size, 1, none⟩ = some (.int .u8 s2) := (Blk.new w _ _).cell 1
    have hb9 := below_alloc w (.cells #[.int .i64 s1, .int .u8 s2] 100)
    go_quiet (fail)
    go_wp2_with fail
    go_ret3
    exact ⟨rfl, below_drewN hb9 nq⟩

/-- What is wrong with a field. -/
def mThere (M : HM) (p f : Int) : Int := if (mSize M p).2.2 = false ∨ f < 0 ∨ (mSize M p).1 ≤ f then 11 else 0
theorem there_ok (h : Nat) (M : HM) (F : Nat → Prop) (p f : Int) (w : World) (H : HAt w h M F) (hok : MOk M) (hp : p ≤ 9223372036854775807) (hp0 : -9223372036854775808 ≤ p) :
    Calls Tryz.prog 50 #[.pointer (some ⟨h, 0, none⟩), .int .i64 p, .int .i64 f] w fun e w' => e = .returned (.int .i64 (mThere M p f)) ∧ Below w.heap.size w w' := by
  have HG := Lib.hid (good_ok h M F w H)
  have HS := Lib.hid (size_ok h M F p w H hok hp hp0)
  unfold mThere
  obtain ⟨s, hs⟩ : ∃ s, s = mSize M p := ⟨_, rfl⟩
  rw [← hs] at HS ⊢
  obtain ⟨s1, s2, s3⟩ := s
  obtain ⟨r, hr⟩ : ∃ r : Int, r = (if s3 = false ∨ f < 0 ∨ s1 ≤ f then 11 else 0) := ⟨_, rfl⟩
  show Calls _ _ _ _ (fun e w' => e = .returned (.int .i64 (if s3 = false ∨ f < 0 ∨ s1 ≤ f then 11 else 0)) ∧ _)
  rw [← hr]
  replace hr := Lib.hid hr
  clear hs H hok
  go_enter Tryz.func50, Tryz.ntmps50
  go_wp2_with fail
  refine HG.out.mono ?_
  rintro e w' ⟨rfl, rfl⟩
  go_wp2_with fail
  refine HS.out.mono ?_
  rintro e w' ⟨rfl, hb⟩
  rcases s3 with _ | _
  · go_wp2_with fail
    go_ret
    exact ⟨ret_int (by have := hr.out; simp at this; omega), hb⟩
  · by_cases h1 : f < 0
    · have t1 : decide (f < 0) = true := decide_eq_true h1
      replace h1 := Lib.hid h1
      go_wp2_with fail
      go_ret
      exact ⟨ret_int (by rw [hr.out, if_pos (.inr (.inl h1.out))]), hb⟩
    · have t1 : decide (f < 0) = false := decide_eq_false h1
      by_cases h2 : s1 ≤ f
      · have t2 : decide (s1 ≤ f) = true := decide_eq_true h2
        replace h2 := Lib.hid h2
        clear h1
        go_wp2_with fail
        go_ret
        exact ⟨ret_int (by rw [hr.out, if_pos (.inr (.inr h2.out))]), hb⟩
      · have t2 : decide (s1 ≤ f) = false := decide_eq_false h2
        have h3 : Hid (¬ (true = false ∨ f < 0 ∨ s1 ≤ f)) := Lib.hid (by simp [h1, h2])
        clear h1 h2
        go_wp2_with fail
        go_ret
        exact ⟨ret_int (by rw [hr.out, if_neg h3.out]), hb⟩

def mLoad (M : HM) (p f : Int) : Int × Int := if mThere M p f = 0 then (M.words.getD (p + f).toNat 0, 0) else (0, mThere M p f)
theorem there_in {M : HM} (hok : MOk M) {p f : Int} (h : mThere M p f = 0) : ∃ k g : Nat, p = (k : Int) ∧ f = (g : Int) ∧ bitAt M.zs k = true ∧ (g : Int) < (M.sh.getD k (0, 0)).1 ∧ 1 ≤ k ∧ k + g < 8 * M.n + 1 ∧ (M.sh.getD k (0, 0)).1 ≤ 6 := by
  unfold mThere at h
  split at h
  · omega
  · rename_i hn
    have h1 : (mSize M p).2.2 = true := by cases e : (mSize M p).2.2 <;> simp [e] at hn ⊢
    have h2 : 0 ≤ f := by omega
    have h3 : f < (mSize M p).1 := by omega
    clear hn
    unfold mSize at h1 h3
    split at h1
    · rename_i hb
      rw [if_pos hb] at h3
      have hb' := hb
      unfold hasB at hb'
      simp only [Bool.and_eq_true, decide_eq_true_eq] at hb'
      obtain ⟨e1, e2, e3, e4, _⟩ := hok _ hb'.2
      refine ⟨p.toNat, f.toNat, by omega, by omega, hb'.2, by omega, e1, ?_, e3⟩
      have hw : (M.sh.getD p.toNat (0, 0)).1 ≤ wordsOf (classOf (M.sh.getD p.toNat (0, 0)).1) := by
        generalize (M.sh.getD p.toNat (0, 0)).1 = n at *
        unfold classOf wordsOf
        repeat' split
        all_goals omega
      omega
    · cases h1
set_option maxHeartbeats 800000 in
theorem load_ok (h : Nat) (M : HM) (F : Nat → Prop) (p f : Int) (w : World) (H : HAt w h M F) (hok : MOk M) (hp : p ≤ 9223372036854775807) (hp0 : -9223372036854775808 ≤ p) :
    Calls Tryz.prog 28 #[.pointer (some ⟨h, 0, none⟩), .int .i64 p, .int .i64 f] w fun e w' => e = .returned (.tuple #[.int .i64 (mLoad M p f).1, .int .i64 (mLoad M p f).2]) ∧ Below w.heap.size w w' := by
  have HT := Lib.hid (there_ok h M F p f w H hok hp hp0)
  by_cases h0 : mThere M p f = 0
  · have hl : mLoad M p f = (M.words.getD (p + f).toNat 0, 0) := by unfold mLoad; rw [if_pos h0]
    rw [hl]
    rw [h0] at HT
    obtain ⟨k, g, rfl, rfl, hb, hg, hk1, hlt, hg6⟩ := there_in hok h0
    have hg5 : g ≤ 6 := by omega
    rw [show ((k : Int) + (g : Int)).toNat = k + g by omega]
    obtain ⟨x, hx⟩ : ∃ x, x = M.words.getD (k + g) 0 := ⟨_, rfl⟩
    rw [← hx]
    have q0 : (0 : Int) ≤ (k : Int) + (g : Int) := by omega
    have q1 : (k : Int) + (g : Int) < 8 * (M.n : Int) + 1 := by omega
    obtain ⟨bw, bc, bs, cc, ff, vu, H⟩ := H
    have hn2 := H.n2
    replace H := Lib.hid H
    replace hx := Lib.hid hx
    clear h0 hl hok hb hg hg6
    go_enter Tryz.func28, Tryz.ntmps28
    go_wp2_with fail
    refine HT.out.mono ?_
    rintro e w1 ⟨rfl, hb⟩
    have H1 := H.out.below hb
    have c0 := H1.cells.1
    have cw := H1.word_cell hlt
    rw [← hx.out] at cw
    clear H1
    go_wp2_with fail
    go_ret2
    exact ⟨rfl, hb⟩
  · have hl : mLoad M p f = (0, mThere M p f) := by unfold mLoad; rw [if_neg h0]
    rw [hl]
    obtain ⟨x, hx⟩ : ∃ x, x = mThere M p f := ⟨_, rfl⟩
    rw [← hx] at HT h0 ⊢
    have tb : (x != 0) = true := by rw [bne_iff_ne]; exact h0
    clear H hok hl h0 hx
    go_enter Tryz.func28, Tryz.ntmps28
    go_wp2_with fail
    refine HT.out.mono ?_
    rintro e w1 ⟨rfl, hb⟩
    go_wp2_with fail
    go_ret2
    exact ⟨rfl, hb⟩
end Go.Proofs.YtcaboknbdamlhaaGreatDoor
