/- Joined: MarkNob. -/
import Derived.Test.YtnoiepmapmcjdaaDoorMMB
set_option linter.unusedVariables false
set_option linter.unusedSimpArgs false
namespace Go.Proofs.YtnoiepmapmcjdaaDoor
open Go.RowKit Go.Shelf
def MNob (w : World) (v : Value) : Prop := v = .pointer none ∨ ∃ m, v = .pointer (some ⟨m, 0, none⟩) ∧ Blk w m 64 #[.pointer none, .bool false, .slice none 0 0, .slice none 0 0]
theorem MNob.below {w w' : World} {v : Value} (H : MNob w v) (hb : Below w.heap.size w w') : MNob w' v :=
  H.elim .inl fun ⟨h, e, hB⟩ => .inr ⟨h, e, hB.below hb hB.lt⟩
theorem MNob.form {w : World} {v : Value} (H : MNob w v) : ∃ p, v = .pointer p := H.elim (fun h => ⟨_, h⟩) fun ⟨_, h, _⟩ => ⟨_, h⟩
section
variable (v : Value) (w : World) (H : MNob w v)
include H
theorem mgood_nob : Calls Tryd.prog 30 #[v] w fun e w' => e = .returned (.bool false) ∧ w = w' := by
  rcases H with rfl | ⟨h, rfl, hB⟩
  · go_enter Tryd.func30, Tryd.ntmps30
    go_wp2_with fail
    go_ret
    exact ⟨rfl, rfl⟩
  · have c0 : w.cell? ⟨h, 0, none⟩ = some (.pointer none) := hB.cell 0
    clear hB
    go_enter Tryd.func30, Tryd.ntmps30
    go_wp2_with fail
    go_ret
    exact ⟨rfl, rfl⟩
theorem mstep_nob : Calls Tryd.prog 18 #[v] w fun e w' => e = .returned (.tuple #[.bool false, .int .i64 1]) ∧ Below w.heap.size w w' := by
  have HG := Lib.hid (mgood_nob v w H)
  obtain ⟨p, rfl⟩ := H.form
  clear H
  go_enter Tryd.func18, Tryd.ntmps18
  go_wp2_with fail
  refine HG.out.mono ?_
  rintro e w' ⟨rfl, rfl⟩
  go_wp2_with fail
  go_ret2
  exact ⟨rfl, Below.refl _ _⟩
theorem mon_nob : Calls Tryd.prog 25 #[v] w fun e w' => e = .returned (.tuple #[.int .i64 0, .bool false]) ∧ Below w.heap.size w w' := by
  have HG := Lib.hid (mgood_nob v w H)
  obtain ⟨p, rfl⟩ := H.form
  clear H
  go_enter Tryd.func25, Tryd.ntmps25
  go_wp2_with fail
  refine HG.out.mono ?_
  rintro e w' ⟨rfl, rfl⟩
  go_wp2_with fail
  go_ret2
  exact ⟨rfl, Below.refl _ _⟩
theorem mcolor_nob (x : Int) : Calls Tryd.prog 21 #[v, .int .i64 x] w fun e w' => e = .returned (.int .i64 0) ∧ Below w.heap.size w w' := by
  have HG := Lib.hid (mgood_nob v w H)
  obtain ⟨p, rfl⟩ := H.form
  clear H
  go_enter Tryd.func21, Tryd.ntmps21
  go_wp2_with fail
  refine HG.out.mono ?_
  rintro e w' ⟨rfl, rfl⟩
  go_wp2_with fail
  go_ret
  exact ⟨rfl, Below.refl _ _⟩
theorem mknown_nob (x : Int) : Calls Tryd.prog 41 #[v, .int .i64 x] w fun e w' => e = .returned (.tuple #[.bool false, .int .i64 1]) ∧ Below w.heap.size w w' := by
  have HG := Lib.hid (mgood_nob v w H)
  obtain ⟨p, rfl⟩ := H.form
  clear H
  go_enter Tryd.func41, Tryd.ntmps41
  go_wp2_with fail
  refine HG.out.mono ?_
  rintro e w' ⟨rfl, rfl⟩
  go_wp2_with fail
  go_ret2
  exact ⟨rfl, Below.refl _ _⟩
theorem mshade_nob (x : Int) : Calls Tryd.prog 19 #[v, .int .i64 x] w fun e w' => e = .returned (.int .i64 1) ∧ Below w.heap.size w w' := by
  have HG := Lib.hid (mknown_nob v w H x)
  obtain ⟨p, rfl⟩ := H.form
  clear H
  go_enter Tryd.func19, Tryd.ntmps19
  go_wp2_with fail
  refine HG.out.mono ?_
  rintro e w1 ⟨rfl, b1⟩
  go_wp2_with fail
  go_ret
  exact ⟨rfl, b1⟩
theorem mmade_nob (x : Int) : Calls Tryd.prog 22 #[v, .int .i64 x] w fun e w' => e = .returned (.int .i64 1) ∧ Below w.heap.size w w' := by
  have hb := below_alloc w (.cells #[.int .i64 x] 3)
  have HG := Lib.hid (mknown_nob v _ (H.below hb) x)
  obtain ⟨p, rfl⟩ := H.form
  replace hb := Lib.hid hb
  clear H
  go_enter Tryd.func22, Tryd.ntmps22
  go_wp2_with fail
  refine HG.out.mono ?_
  rintro e w1 ⟨rfl, b1⟩
  have b1 := Lib.hid (below_all hb.out b1)
  go_wp2_with fail
  go_ret
  exact ⟨rfl, b1.out⟩
theorem mbegin_nob : Calls Tryd.prog 14 #[v, .slice none 0 0] w fun e w' => e = .returned (.int .i64 1) ∧ Below w.heap.size w w' := by
  obtain ⟨p, rfl⟩ := H.form
  have hb := below_alloc w (.cells #[.pointer p] 33)
  have HG := Lib.hid (mgood_nob _ _ (H.below hb))
  replace hb := Lib.hid hb
  clear H
  go_enter Tryd.func14, Tryd.ntmps14
  go_wp2_with fail
  refine HG.out.mono ?_
  rintro e w' ⟨rfl, rfl⟩
  go_wp2_with fail
  go_ret
  exact ⟨rfl, hb.out⟩
theorem mend_nob : Calls Tryd.prog 16 #[v] w fun e w' => e = .returned (.tuple #[.slice none 0 0, .int .i64 1]) ∧ Below w.heap.size w w' := by
  obtain ⟨p, rfl⟩ := H.form
  have hb := below_alloc w (.cells #[.pointer p] 33)
  have HG := Lib.hid (mgood_nob _ _ (H.below hb))
  replace hb := Lib.hid hb
  clear H
  go_enter Tryd.func16, Tryd.ntmps16
  go_wp2_with fail
  refine HG.out.mono ?_
  rintro e w' ⟨rfl, rfl⟩
  go_wp2_with fail
  go_ret2
  exact ⟨rfl, hb.out⟩
end
/-- Marks and a heap, their footprints behind a fence. -/
def MW (w0 w : World) (m h : Nat) (S : HS) (K : MK) : Prop := ∃ F D, MAt w m h S F K D ∧ (∀ k, F k ∨ D k → w0.heap.size ≤ k) ∧ Below w0.heap.size w0 w
section
variable {w0 w w' : World} {m h : Nat} {S : HS} {K K' : MK}
theorem MW.of {F D D' : Nat → Prop} (H : MAt w m h S F K D) (hF : ∀ k, F k ∨ D k → w0.heap.size ≤ k) (b : Below w0.heap.size w0 w) (M : MAt w' m h S F K' D') (s : Step D w w' D') : MW w0 w' m h S K' :=
  ⟨F, D', M, fun k hk => hk.elim (fun h => hF k (.inl h)) fun h => (s.sub k h).elim (fun h => hF k (.inr h)) fun e => Nat.le_trans b.size e, b.trans (s.below (fun k hk => hF k (.inr hk)) b.size)⟩
theorem wshade (H : MW w0 w m h S K) (p : Int) (hp0 : -9223372036854775808 ≤ p) (hp : p ≤ 9223372036854775807) : Calls Tryd.prog 19 #[.pointer (some ⟨m, 0, none⟩), .int .i64 p] w fun e w' => e = .returned (.int .i64 (mKnown S K p).2) ∧ MW w0 w' m h S (mShade S K p) := by
  obtain ⟨F, D, M, hF, b⟩ := H
  refine (shade_m m h S F K D w M p hp0 hp).mono ?_
  rintro e w' ⟨rfl, D', M', s⟩
  exact ⟨rfl, MW.of M hF b M' s⟩
theorem wmade (H : MW w0 w m h S K) (p : Int) (hp0 : -9223372036854775808 ≤ p) (hp : p ≤ 9223372036854775807) : Calls Tryd.prog 22 #[.pointer (some ⟨m, 0, none⟩), .int .i64 p] w fun e w' => e = .returned (.int .i64 (mKnown S K p).2) ∧ MW w0 w' m h S (mMade S K p) := by
  obtain ⟨F, D, M, hF, b⟩ := H
  refine (made_m m h S F K D w M p hp0 hp).mono ?_
  rintro e w' ⟨rfl, D', M', s⟩
  exact ⟨rfl, MW.of M hF b M' s⟩
theorem wcolor (H : MW w0 w m h S K) (p : Int) (hp0 : -9223372036854775808 ≤ p) (hp : p ≤ 9223372036854775807) : Calls Tryd.prog 21 #[.pointer (some ⟨m, 0, none⟩), .int .i64 p] w fun e w' => e = .returned (.int .i64 (mColor K p)) ∧ w = w' := by
  obtain ⟨F, D, M, hF, b⟩ := H
  exact color_m m h S F K D w M p hp0 hp
theorem wbegin {w1 : World} (H : MW w0 w m h S K) (hb : Below w.heap.size w w1) (vr : Value) (l : List Int) (hv : Rd i64e w1 vr l) (hl : l.length ≤ 4096) (hbd : ∀ x ∈ l, -9223372036854775808 ≤ x ∧ x ≤ 9223372036854775807) (hf : ∀ b, vr.ownBlock = some b → w.heap.size ≤ b) :
    Calls Tryd.prog 14 #[.pointer (some ⟨m, 0, none⟩), vr] w1 fun e w' => e = .returned (.int .i64 (mBegin S K l).2) ∧ MW w0 w' m h S (mBegin S K l).1 := by
  obtain ⟨F, D, M, hF, b⟩ := H
  have b1 := b.trans (hb.mono b.size)
  refine (begin_m m h S F K D w1 (M.below hb) vr l hv hl hbd (fun _ k e hD => by have := M.dlt k hD; have := hf k e; omega)).mono ?_
  rintro e w' ⟨rfl, D', M', s⟩
  exact ⟨rfl, MW.of (M.below hb) hF b1 M' s⟩
end
def nS : HS := sNew 1
theorem nis (p : Int) : mIs nS p = false := rfl
theorem n_known {p : Int} (h : p ≠ 0) : mKnown nS mStart p = (false, 11) := by unfold mKnown; rw [if_neg (by simp [mStart, h]), nis, if_neg (by simp)]
theorem n_b5 : mBegin nS mNew [5] = (mNew, 11) := Prod.ext rfl rfl
theorem n_b0 : mBegin nS mNew [0] = (mStart, 0) := Prod.ext rfl rfl
set_option maxHeartbeats 3200000 in
set_option maxRecDepth 100000 in
theorem mnobody_ok (p : Int) (hp : -9223372036854775808 ≤ p ∧ p ≤ 9223372036854775807) (w : World) (hT : TabW w) : Calls Tryd.prog 8 #[.int .i64 p] w fun e w' => e = .returned (.bool true) ∧ Below w.heap.size w w' := by
  have HA := Lib.hid (malive_ok w hT)
  replace hT := Lib.hid hT
  replace hp := Lib.hid hp
  go_enter Tryd.func8, Tryd.ntmps8
  go_wp2_with fail
  refine HA.out.mono ?_
  rintro e w1 ⟨rfl, b1⟩
  clear HA
  go_wp2_with fail
  have Bm : Blk ((w1.alloc (.cells #[.pointer none, .bool false, .slice none 0 0, .slice none 0 0] 64)).alloc (.cells #[.pointer none, .pointer (some ⟨w1.heap.size, 0, none⟩)] 33)) w1.heap.size 64 #[.pointer none, .bool false, .slice none 0 0, .slice none 0 0] := (Blk.new w1 _ _).alloc _
  have Bs : Blk ((w1.alloc (.cells #[.pointer none, .bool false, .slice none 0 0, .slice none 0 0] 64)).alloc (.cells #[.pointer none, .pointer (some ⟨w1.heap.size, 0, none⟩)] 33)) (w1.heap.size + 1) 33 #[.pointer none, .pointer (some ⟨w1.heap.size, 0, none⟩)] := by
    have := Blk.new (w1.alloc (.cells #[.pointer none, .bool false, .slice none 0 0, .slice none 0 0] 64)) 33 #[.pointer none, .pointer (some ⟨w1.heap.size, 0, none⟩)]
    rw [show (w1.alloc (.cells #[.pointer none, .bool false, .slice none 0 0, .slice none 0 0] 64)).heap.size = w1.heap.size + 1 by simp] at this
    exact this
  have b2 : Below w.heap.size w ((w1.alloc (.cells #[.pointer none, .bool false, .slice none 0 0, .slice none 0 0] 64)).alloc (.cells #[.pointer none, .pointer (some ⟨w1.heap.size, 0, none⟩)] 33)) := (b1.trans ((below_alloc w1 _).mono b1.size)).trans ((below_alloc _ _).mono (by have := b1.size; simp; omega))
  generalize ((w1.alloc (.cells #[.pointer none, .bool false, .slice none 0 0, .slice none 0 0] 64)).alloc (.cells #[.pointer none, .pointer (some ⟨w1.heap.size, 0, none⟩)] 33)) = w2 at Bm Bs b2 ⊢
  obtain ⟨zm, hzm⟩ : ∃ zm, zm = w1.heap.size := ⟨_, rfl⟩
  rw [← hzm] at Bm Bs ⊢
  have HN : Hid (∀ wx, Below w2.heap.size w2 wx → MNob wx (.pointer (some ⟨zm, 0, none⟩))) := Lib.hid fun wx bx => MNob.below (.inr ⟨zm, rfl, Bm⟩) bx
  have HN0 : Hid (∀ wx, Below w2.heap.size w2 wx → MNob wx (.pointer none)) := Lib.hid fun wx bx => .inl rfl
  have hbs := Bs.lt
  replace Bs := Lib.hid Bs
  clear hzm Bm
  go_loopw [18] (fun i wr => ∃ j : Nat, j ≤ 2 ∧ i = .int .i64 j ∧ Below w2.heap.size w2 wr) (fun i _ => 2 - (intOf i).toNat)
  case atStart => exact ⟨0, by omega, rfl, Below.refl _ _⟩
  case round =>
    obtain ⟨j, hj, rfl, b3⟩ := hrel
    have hB := Bs.out.below b3 hbs
    have d0 : wr.cell? ⟨zm + 1, 0, none⟩ = some (.pointer none) := hB.cell 0
    have d1 : wr.cell? ⟨zm + 1, 1, none⟩ = some (.pointer (some ⟨zm, 0, none⟩)) := hB.cell 1
    clear hB
    rcases (by omega : j = 0 ∨ j = 1 ∨ j = 2) with rfl | rfl | rfl
    · go_wp2_with fail
      refine (mstep_nob _ _ (HN0.out _ b3)).mono ?_
      rintro e w4 ⟨rfl, c4⟩
      have b4 := b3.trans (c4.mono b3.size)
      clear c4
      go_wp2_with fail
      refine (mend_nob _ _ (HN0.out _ b4)).mono ?_
      rintro e w5 ⟨rfl, c5⟩
      have b5 := b4.trans (c5.mono b4.size)
      clear c5
      go_wp2_with fail
      refine (mon_nob _ _ (HN0.out _ b5)).mono ?_
      rintro e w6 ⟨rfl, c6⟩
      have b6 := b5.trans (c6.mono b5.size)
      clear c6
      go_wp2_with fail
      refine (mbegin_nob _ _ (HN0.out _ b6)).mono ?_
      rintro e w7 ⟨rfl, c7⟩
      have b7 := b6.trans (c7.mono b6.size)
      clear c7
      go_wp2_with fail
      refine (mshade_nob _ _ (HN0.out _ b7) p).mono ?_
      rintro e w8 ⟨rfl, c8⟩
      have b8 := b7.trans (c8.mono b7.size)
      clear c8
      go_wp2_with fail
      refine (mmade_nob _ _ (HN0.out _ b8) p).mono ?_
      rintro e w9 ⟨rfl, c9⟩
      have b9 := b8.trans (c9.mono b8.size)
      clear c9
      go_wp2_with fail
      refine (mcolor_nob _ _ (HN0.out _ b9) p).mono ?_
      rintro e w10 ⟨rfl, c10⟩
      have b10 := b9.trans (c10.mono b9.size)
      clear c10
      go_wp2_with fail
      go_roundw
      case rel => exact ⟨1, by omega, by go_num, b10⟩
      case measure => simp [intOf]
    · go_wp2_with fail
      refine (mstep_nob _ _ (HN.out _ b3)).mono ?_
      rintro e w4 ⟨rfl, c4⟩
      have b4 := b3.trans (c4.mono b3.size)
      clear c4
      go_wp2_with fail
      refine (mend_nob _ _ (HN.out _ b4)).mono ?_
      rintro e w5 ⟨rfl, c5⟩
      have b5 := b4.trans (c5.mono b4.size)
      clear c5
      go_wp2_with fail
      refine (mon_nob _ _ (HN.out _ b5)).mono ?_
      rintro e w6 ⟨rfl, c6⟩
      have b6 := b5.trans (c6.mono b5.size)
      clear c6
      go_wp2_with fail
      refine (mbegin_nob _ _ (HN.out _ b6)).mono ?_
      rintro e w7 ⟨rfl, c7⟩
      have b7 := b6.trans (c7.mono b6.size)
      clear c7
      go_wp2_with fail
      refine (mshade_nob _ _ (HN.out _ b7) p).mono ?_
      rintro e w8 ⟨rfl, c8⟩
      have b8 := b7.trans (c8.mono b7.size)
      clear c8
      go_wp2_with fail
      refine (mmade_nob _ _ (HN.out _ b8) p).mono ?_
      rintro e w9 ⟨rfl, c9⟩
      have b9 := b8.trans (c9.mono b8.size)
      clear c9
      go_wp2_with fail
      refine (mcolor_nob _ _ (HN.out _ b9) p).mono ?_
      rintro e w10 ⟨rfl, c10⟩
      have b10 := b9.trans (c10.mono b9.size)
      clear c10
      go_wp2_with fail
      go_roundw
      case rel => exact ⟨2, by omega, by go_num, b10⟩
      case measure => simp [intOf]
    · have b4 := Lib.hid (b2.trans (b3.mono b2.size))
      have hT4 := Lib.hid (hT.out.below b4.out)
      clear d0 d1 HN HN0 Bs b1 b2 b3 hT
      go_wp2_with fail
      refine (new_s 1 wr (by omega) (by omega) hT4.out).mono ?_
      rintro e w5 ⟨h, F, rfl, H5, hF5, c5⟩
      replace H5 := Lib.hid H5
      replace hF5 := Lib.hid hF5
      go_wp2_with fail
      refine (new_m h _ F w5 H5.out).mono ?_
      rintro e w6 ⟨m, D, rfl, M6, hD, c6⟩
      have hs4 := b4.out.size
      have hs5 := c5.size
      have H6 : Hid (MW w w6 m h nS mNew) := Lib.hid ⟨F, D, M6, fun k hk => hk.elim (fun h => by have := hF5.out k h; omega) (fun h => by have := hD k h; omega), (b4.out.trans (c5.mono b4.out.size)).trans (c6.mono (by omega))⟩
      clear H5 hF5 M6 hD c5 c6 hs4 hs5 b4 hT4
      go_wp2_with fail
      refine (wcolor H6.out p hp.out.1 hp.out.2).mono ?_
      rintro e _ ⟨rfl, rfl⟩
      rw [show mColor mNew p = 0 from rfl]
      go_wp2_with fail
      refine (wshade H6.out p hp.out.1 hp.out.2).mono ?_
      rintro e w7 ⟨rfl, H7⟩
      rw [show mKnown nS mNew p = (false, 0) from rfl]
      replace H7 : Hid (MW w w7 m h nS mNew) := Lib.hid H7
      clear H6
      go_wp2_with fail
      refine (wbegin H7.out (below_alloc w7 (.cells #[.int .i64 5] 3)) _ [5] (Rd.lit w7 3 [5] (by decide)) (by decide) (by intro x hx; simp at hx; omega) (fun b e => by obtain rfl : w7.heap.size = b := (by simpa [Value.ownBlock] using e); exact Nat.le_refl _)).mono ?_
      rw [n_b5]
      rintro e w8 ⟨rfl, H8⟩
      replace H8 := Lib.hid H8
      clear H7
      go_wp2_with fail
      refine (wbegin H8.out (below_alloc w8 (.cells #[.int .i64 0] 3)) _ [0] (Rd.lit w8 3 [0] (by decide)) (by decide) (by intro x hx; simp at hx; omega) (fun b e => by obtain rfl : w8.heap.size = b := (by simpa [Value.ownBlock] using e); exact Nat.le_refl _)).mono ?_
      rw [n_b0]
      rintro e w9 ⟨rfl, H9⟩
      replace H9 := Lib.hid H9
      clear H8
      go_wp2_with fail
      refine (wbegin H9.out (Below.refl _ _) (.slice none 0 0) [] (Rd.none_ _ _) (by decide) (by intro x hx; simp at hx) (fun b e => by cases e)).mono ?_
      rw [show mBegin nS mStart [] = (mStart, 8) from rfl]
      rintro e w10 ⟨rfl, H10⟩
      replace H10 := Lib.hid H10
      clear H9
      go_wp2_with fail
      have HS := wshade H10.out p hp.out.1 hp.out.2
      by_cases h0 : p = 0
      · subst h0
        rw [show mKnown nS mStart 0 = (false, 0) from rfl] at HS
        refine HS.mono ?_
        rintro e w11 ⟨rfl, H11⟩
        replace H11 : Hid (MW w w11 m h nS mStart) := Lib.hid H11
        clear HS H10
        go_wp2_with fail
        refine (wmade H11.out 0 (by omega) (by omega)).mono ?_
        rw [show mKnown nS mStart 0 = (false, 0) from rfl]
        rintro e w12 ⟨rfl, _, _, _, _, b12⟩
        replace b12 := Lib.hid b12
        clear H11
        go_wp2_with fail
        go_ret
        exact ⟨rfl, b12.out⟩
      · have hz : (p == 0) = false := by simpa using h0
        have hk := n_known h0
        rw [hk] at HS
        have hsh : mShade nS mStart p = mStart := by unfold mShade; rw [hk]; rfl
        rw [hsh] at HS
        replace hk := Lib.hid hk
        refine HS.mono ?_
        rintro e w11 ⟨rfl, H11⟩
        replace H11 : Hid (MW w w11 m h nS mStart) := Lib.hid H11
        clear HS H10 hsh
        go_wp2_with fail
        refine (wmade H11.out p hp.out.1 hp.out.2).mono ?_
        rw [hk.out]
        rintro e w12 ⟨rfl, _, _, _, _, b12⟩
        replace b12 := Lib.hid b12
        clear H11
        go_wp2_with fail
        go_ret
        exact ⟨ret_bool (show (p != 0) = true by simpa using h0), b12.out⟩
end Go.Proofs.YtnoiepmapmcjdaaDoor
