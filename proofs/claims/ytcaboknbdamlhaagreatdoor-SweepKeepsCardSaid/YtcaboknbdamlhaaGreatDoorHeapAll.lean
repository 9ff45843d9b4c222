/- The walks of All and Fits. -/
import Derived.Test.YtcaboknbdamlhaaGreatDoorHeapFill
set_option linter.unusedVariables false
set_option linter.unusedSimpArgs false
namespace Go.Proofs.YtcaboknbdamlhaaGreatDoor
open Go.RowKit

/-- The numbers of a set, rising, below n. -/
def numsTo (p : Nat → Bool) : Nat → List Int
  | 0 => []
  | n + 1 => if p n then numsTo p n ++ [(n : Int)] else numsTo p n
theorem numsTo_skip {p : Nat → Bool} {m n : Nat} (h : m ≤ n) (hno : ∀ j, m ≤ j → j < n → p j = false) : numsTo p n = numsTo p m := by
  obtain ⟨d, rfl⟩ : ∃ d, n = m + d := ⟨n - m, by omega⟩
  clear h
  induction d with
  | zero => rfl
  | succ d ih =>
    show (if p (m + d) then _ else numsTo p (m + d)) = _
    rw [hno (m + d) (by omega) (by omega)]
    exact ih fun j h1 h2 => hno j h1 (by omega)
theorem numsTo_len (p : Nat → Bool) : ∀ n, (numsTo p n).length ≤ n
  | 0 => Nat.le_refl _
  | n + 1 => by
    have := numsTo_len p n
    unfold numsTo
    split <;> simp <;> omega
def mAll (M : HM) : List Int := numsTo (bitAt M.zs) (64 * M.zs.length)
theorem mAll_at {M : HM} {m : Nat} (h : ∀ j, m ≤ j → bitAt M.zs j = false) : numsTo (bitAt M.zs) m = mAll M := by
  unfold mAll
  rcases Nat.le_total m (64 * M.zs.length) with h1 | h1
  · exact (numsTo_skip h1 fun j h2 _ => h j h2).symm
  · exact numsTo_skip h1 fun j h2 _ => bitAt_top h2
def muAll (L : Nat) (v : Value) : Nat := if intOf v < 0 then 0 else 64 * L + 1 - (intOf v).toNat
theorem muAll_dec {L kk : Nat} {r : Int} (hk : kk < 64 * L) (h : r = -1 ∨ ∃ k2 : Nat, r = (k2 : Int) ∧ kk + 1 ≤ k2 ∧ k2 < 64 * L) : muAll L (.int .i64 r) < muAll L (.int .i64 (kk : Int)) := by
  show (if r < 0 then 0 else 64 * L + 1 - r.toNat) < (if (kk : Int) < 0 then 0 else 64 * L + 1 - (kk : Int).toNat)
  rw [if_neg (show ¬ ((kk : Int) < 0) by omega)]
  rcases h with rfl | ⟨k2, rfl, h1, h2⟩
  · rw [if_pos (by omega)]; omega
  · rw [if_neg (by omega)]; omega
set_option maxHeartbeats 1600000 in
theorem all_ok (h : Nat) (M : HM) (F : Nat → Prop) (w : World) (H : HAt w h M F) (hT : TabW w) :
    Calls Tryz.prog 17 #[.pointer (some ⟨h, 0, none⟩)] w fun e w' => ∃ v, e = .returned v ∧ w'.ownsRow w.heap.size 3 1 v (mAll M).length ((mAll M).map i64e) ∧ Below w.heap.size w w' := by
  have HG := Lib.hid (good_ok h M F w H)
  obtain ⟨bw, bc, bs, cc, f, vu, H⟩ := H
  have hul := H.ulen
  have HU := Lib.hid H.u64
  have c6 := H.cells.2.2.1
  replace H := Lib.hid H
  replace hT := Lib.hid hT
  go_enter Tryz.func17, Tryz.ntmps17
  go_wp2_with fail
  refine HG.out.mono ?_
  rintro e w' ⟨rfl, rfl⟩
  go_wp2_with fail
  refine (next_ok vu M.zs 0 _ H.out.ur (by omega) HU.out (by omega) (by omega) hT.out).mono ?_
  rintro e w' ⟨r, rfl, hn0, rfl⟩
  replace hn0 := Lib.hid hn0
  clear c6
  go_wp2_with fail
  go_loopw [3, 4] (fun o i wr => ∃ (m : Nat) (r : Int) (A : Option Addr) (c n : Nat), i = .int .i64 r ∧ o = .slice A n c ∧ Hid (n = (numsTo (bitAt M.zs) m).length) ∧ m ≤ 70000 ∧ n ≤ m ∧ Hid (IsNext (bitAt M.zs) (m : Int) r) ∧ Hid (wr.ownsRow w.heap.size 3 1 (.slice A n c) n ((numsTo (bitAt M.zs) m).map i64e)) ∧ Below w.heap.size w wr) (fun _ i _ => muAll M.zs.length i)
  case atStart => exact ⟨0, r, none, 0, 0, rfl, rfl, Lib.hid rfl, by omega, by omega, hn0, Lib.hid (World.ownsRow_nil _ _ _ _), Below.refl _ _⟩
  case round =>
    obtain ⟨m, r, A, c, n, rfl, rfl, hnl, hm7, hnm, hnx, hown, hb⟩ := hrel
    rcases hnx.out with ⟨rfl, hno⟩ | ⟨kk, rfl, hmk, hpk, hno⟩
    · have he := Lib.hid (mAll_at (M := M) (m := m) fun j hj => hno j (by omega))
      clear hno
      go_wp2_with fail
      go_ret
      refine ⟨_, rfl, ?_, hb⟩
      have h9 := hown.out
      rw [hnl.out, he.out] at h9
      rw [hnl.out, he.out]
      exact h9
    · have hkz : kk < 64 * M.zs.length := bitAt_lt hpk
      have hn1 : numsTo (bitAt M.zs) (kk + 1) = numsTo (bitAt M.zs) m ++ [(kk : Int)] := by
        show (if bitAt M.zs kk then numsTo (bitAt M.zs) kk ++ [(kk : Int)] else _) = _
        rw [if_pos hpk, numsTo_skip (m := m) (by omega) fun j h1 h2 => hno j (by omega) h2]
      replace hn1 := Lib.hid hn1
      have hz : w.heap.size ≤ wr.heap.size := hb.size
      clear hno hpk
      have hkk9 : (kk : Int) ≤ 70000 := by omega
      go_wp2_with (at_builtin; refine wpList_push rfl (.tmp 22) (.tmp 24) _ rfl w.heap.size 3 _ 8 Tryz.underlying36 int_info rfl _ _ _ rfl hown.out _ rfl rfl (by unfold maxLen; omega) (by omega) hz ?_; intro v' w2 hown' hg hat; refine stop_here ?_)
      obtain ⟨A3, c3, rfl, -⟩ := own_form hown'
      have hb' := hb.grown hg hz (fun g e => (hown.out.lt g e).1)
      have H2 := Lib.hid (H.out.below hb')
      have hT2 := Lib.hid (hT.out.below hb')
      have c6 := H2.out.cells.2.2.1
      replace hown' := Lib.hid hown'
      clear hg hat
      refine go_on ?_
      go_wp2_with fail
      refine (next_ok vu M.zs ((kk : Int) + 1) _ H2.out.ur (by omega) HU.out (by omega) (by omega) hT2.out).mono ?_
      rintro e w' ⟨r', rfl, hn2, rfl⟩
      have hdec := Lib.hid (muAll_dec (L := M.zs.length) (kk := kk) (r := r') hkz (by
        rcases hn2 with ⟨rfl, _⟩ | ⟨k2, rfl, h1, h2, _⟩
        · exact .inl rfl
        · exact .inr ⟨k2, rfl, by omega, bitAt_lt h2⟩))
      replace hn2 := Lib.hid hn2
      clear c6
      go_wp2_with fail
      go_roundw
      case rel => exact ⟨kk + 1, r', A3, c3, n + 1, rfl, rfl, Lib.hid (by rw [hn1.out, List.length_append, ← hnl.out]; rfl), by omega, by omega, hn2, Lib.hid (by rw [hn1.out, List.map_append]; exact hown'.out), hb'⟩
      case measure => exact hdec.out
def classNat (n : Int) : Nat := (classOf n).toNat
theorem classNat_eq {n : Int} (h1 : 1 ≤ n) (h6 : n ≤ 6) : (classOf n) = (classNat n : Int) ∧ classNat n < 4 := by
  unfold classNat classOf
  repeat' split
  all_goals omega
def mFits (M : HM) (n : Int) : Bool := decide (1 ≤ n) && (decide (n ≤ 6) && (decide (0 < (M.free (classNat n)).length) || decide ((-1 : Int) ∈ M.cls)))
def ShortF (M : HM) : Prop := ∀ j, j < 4 → (M.free j).length ≤ 1099511627776
theorem HAt.drewN {w : World} {h : Nat} {M : HM} {F : Nat → Prop} (H : HAt w h M F) (a : Nat) : HAt (w.drewN a) h M F := H.below (below_drewN (Below.refl _ _) a)
set_option maxHeartbeats 1600000 in
set_option maxRecDepth 100000 in
theorem fits_ok (h : Nat) (M : HM) (F : Nat → Prop) (n : Int) (w : World) (H : HAt w h M F) (hsf : ShortF M) :
    Calls Tryz.prog 29 #[.pointer (some ⟨h, 0, none⟩), .int .i64 n] w fun e w' => e = .returned (.bool (mFits M n)) ∧ Below w.heap.size w w' := by
  have HG := Lib.hid (fun a => (good_ok h M F (w.drewN a) (H.drewN a)).mono fun e w' (hh : e = .returned (.bool true) ∧ w.drewN a = w') => And.intro hh.1 hh.2.symm)
  obtain ⟨bw, bc, bs, cc, f, vu, H⟩ := H
  obtain ⟨r, hr⟩ : ∃ r, r = mFits M n := ⟨_, rfl⟩
  rw [← hr]
  unfold mFits at hr
  by_cases h1 : 1 ≤ n
  · by_cases h6 : n ≤ 6
    · obtain ⟨e1, e2⟩ := classNat_eq h1 h6
      obtain ⟨c, hc⟩ : ∃ c, c = classNat n := ⟨_, rfl⟩
      rw [← hc] at e1 e2 hr
      have HO := Lib.hid (fun wx => show Calls Tryz.prog 51 #[.int .i64 n] wx fun e w' => e = .returned (.int .i64 (c : Int)) ∧ w' = wx by rw [← e1]; exact (of_ok n wx).mono fun _ _ hh => ⟨hh.1, hh.2.symm⟩)
      have t1 : decide (1 ≤ n) = true := decide_eq_true h1
      have t6 : decide (n ≤ 6) = true := decide_eq_true h6
      rw [t1, t6] at hr
      have hrf := H.fr c e2
      obtain ⟨A, d, ev, -⟩ := hrf.len
      have cf := H.free_cell e2
      rw [ev] at cf
      have c1 := H.cells.2.1
      have hcon := Lib.hid (fun a => (contains_ok (.slice (some ⟨bc, 0, none⟩) M.n cc) M.cls (-1) (w.drewN a) (by have := Rd.of_own (enc := i64e) (xs := M.cls) (base := 0) (e := 3) (v := .slice (some ⟨bc, 0, none⟩) M.n cc) (w := w) (by rw [H.clen]; exact H.cown); exact this.drewN a) (by have := H.clen; have := H.n2; omega)).mono fun e w' (hh : e = .returned (.bool (decide ((-1 : Int) ∈ M.cls))) ∧ w.drewN a = w') => And.intro hh.1 hh.2.symm)
      have k0 : (0 : Int) ≤ (c : Int) := by omega
      have k1 : (c : Int) < 4 := by omega
      have hsl := hsf c e2
      obtain ⟨L, hL⟩ : ∃ L, L = (M.free c).length := ⟨_, rfl⟩
      rw [← hL] at cf hr hsl
      rcases L with _ | L
      · obtain ⟨b, hb⟩ : ∃ b, b = decide ((-1 : Int) ∈ M.cls) := ⟨_, rfl⟩
        rw [← hb] at hr hcon
        replace hr := Lib.hid hr
        clear hL hb ev hrf H hsf e1 hc h1 h6
        go_enter Tryz.func29, Tryz.ntmps29
        go_wp2_with fail
        go_quiet (first | (go_at_call 39; exact Calls.quiet_of_same (HG.out _)) | (go_at_call 51; exact Calls.quiet_of_same (HO.out _)) | (go_at_call 52; exact Calls.quiet_of_same (hcon.out _)))
        go_wp2_with fail
        go_ret
        exact ⟨ret_bool (by rw [hr.out]; simp), below_drewN (Below.refl _ _) _⟩
      · have tl : decide ((0 : Int) < (L : Int) + 1) = true := by rw [decide_eq_true_iff]; omega
        replace hr := Lib.hid hr
        clear hL ev hrf H hsf e1 hc h1 h6 c1 hcon
        go_enter Tryz.func29, Tryz.ntmps29
        go_wp2_with fail
        go_quiet (first | (go_at_call 39; exact Calls.quiet_of_same (HG.out _)) | (go_at_call 51; exact Calls.quiet_of_same (HO.out _)))
        go_wp2_with fail
        go_ret
        exact ⟨ret_bool (by rw [hr.out]; simp), below_drewN (Below.refl _ _) _⟩
    · have t1 : decide (1 ≤ n) = true := decide_eq_true h1
      have t6 : decide (n ≤ 6) = false := decide_eq_false h6
      rw [t1, t6] at hr
      replace hr := Lib.hid hr
      clear H h1 h6 hsf
      go_enter Tryz.func29, Tryz.ntmps29
      go_wp2_with fail
      go_quiet ((go_at_call 39; exact Calls.quiet_of_same (HG.out _)))
      go_wp2_with fail
      go_ret
      exact ⟨ret_bool (by rw [hr.out]; simp), below_drewN (Below.refl _ _) _⟩
  · have t1 : decide (1 ≤ n) = false := decide_eq_false h1
    rw [t1] at hr
    replace hr := Lib.hid hr
    clear H h1 hsf
    go_enter Tryz.func29, Tryz.ntmps29
    go_wp2_with fail
    go_quiet ((go_at_call 39; exact Calls.quiet_of_same (HG.out _)))
    go_wp2_with fail
    go_ret
    exact ⟨ret_bool (by rw [hr.out]; simp), below_drewN (Below.refl _ _) _⟩
end Go.Proofs.YtcaboknbdamlhaaGreatDoor
