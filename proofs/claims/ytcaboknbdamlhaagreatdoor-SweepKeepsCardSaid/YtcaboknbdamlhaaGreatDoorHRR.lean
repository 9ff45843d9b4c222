/- Joined: HeapRoomP, ListRQ, HeapRef, HeapRefB, HeapRefC, HeapRefD, HeapRefE, HeapRefF, HeapRefG. -/
import Derived.Test.YtcaboknbdamlhaaGreatDoorMMA
import Derived.Test.YtcaboknbdamlhaaGreatDoorListRCut
import Derived.Test.YtcaboknbdamlhaaGreatDoorListRPut
import Derived.Test.YtcaboknbdamlhaaGreatDoorAppendAll
import Derived.Test.YtcaboknbdamlhaaGreatDoorRoundKit
import Derived.Test.YtcaboknbdamlhaaGreatDoorHeapNew
import Derived.Deep.MidRow
import Derived.Deep.RegionHeld3
set_option linter.unusedVariables false
set_option linter.unusedSimpArgs false
namespace Go.Proofs.YtcaboknbdamlhaaGreatDoor
/-- How many objects of a class have room yet. -/
def cntR (S : HS) (c : Nat) : Nat := (S.free c).length + blockCount c * S.cls.count (-1)
theorem bcount_pos {c : Nat} (hc : c < 4) : 1 ≤ blockCount c ∧ (blockCount c : Int) * wordsOf c = 8 := by
  rcases (by omega : c = 0 ∨ c = 1 ∨ c = 2 ∨ c = 3) with rfl | rfl | rfl | rfl <;> decide
theorem blocks_count {s c : Nat} (hs : s ≤ 1048576) : (blocksOf s c).length = blockCount c := by
  unfold blocksOf
  rw [if_neg (by omega)]
  simp
theorem room_start {S : HS} (I : Inv S) (ho : S.objs = []) {c : Nat} (hc : c < 4) : cntR S c = blockCount c * S.n := by
  have hall : ∀ x ∈ S.cls, x = -1 := fun x hx => by
    obtain ⟨i, hi, e⟩ := List.getElem_of_mem hx
    apply Classical.byContradiction
    intro hne
    have hg : S.cls.getD i (-1) = x := by simp [List.getD, List.getElem?_eq_getElem hi, e]
    obtain ⟨o, h, _⟩ := I.live i (by rw [← I.cl]; exact hi) (by rw [hg]; exact hne)
    rw [ho] at h
    cases h
  have hf : S.free c = [] := by
    cases hh : S.free c with
    | nil => rfl
    | cons x l =>
      have hx : x ∈ S.free c := by rw [hh]; simp
      obtain ⟨h1, h2, h3, h4, h5, h6⟩ := I.fb c hc x hx
      have hl : ((x - 1) / 8).toNat < S.cls.length := by rw [I.cl]; omega
      have := hall _ (List.getElem_mem hl)
      simp only [List.getD, List.getElem?_eq_getElem hl, Option.getD_some] at h5
      omega
  unfold cntR
  rw [hf, List.count_eq_length.2 (fun b hb => (hall b hb).symm), I.cl]
  simp
theorem room_fits {S : HS} {n : Int} (h1 : 1 ≤ n) (h6 : n ≤ 6) : sFits S n = decide (0 < cntR S (classNat n)) := by
  obtain ⟨_, hc⟩ := classNat_eq h1 h6
  have hb := (bcount_pos hc).1
  unfold sFits cntR
  rw [decide_eq_true h1, decide_eq_true h6, Bool.true_and, Bool.true_and, ← Bool.decide_or, decide_eq_decide, ← List.count_pos_iff (a := (-1 : Int)) (l := S.cls)]
  constructor
  · rintro (h | h)
    · omega
    · have := Nat.mul_pos hb h; omega
  · intro h
    rcases Nat.eq_zero_or_pos (S.free (classNat n)).length with e | e
    · right
      rcases Nat.eq_zero_or_pos (S.cls.count (-1)) with e2 | e2
      · rw [e, e2] at h; simp at h
      · exact e2
    · exact .inl e
theorem pop_len (f : Nat → List Int) (c : Nat) (h : 0 < (f c).length) : (popL f c c).length + 1 = (f c).length := by
  unfold popL
  rw [if_pos rfl, List.length_take]
  omega
theorem room_alloc {S : HS} (I : Inv S) {n mask junk : Int} (h1 : 1 ≤ n) (h6 : n ≤ 6) (hmk : mask / 2 ^ n.toNat = 0) (hf : sFits S n = true) : cntR (sAlloc S n mask junk).1 (classNat n) + 1 = cntR S (classNat n) := by
  obtain ⟨_, hc⟩ := classNat_eq h1 h6
  have e : (sAlloc S n mask junk).1 = sTake (sRoom S (classNat n)) (classNat n) n mask junk := by
    unfold sAlloc
    rw [if_neg (by omega), if_neg (by rw [hf]; simp)]
  rw [e]
  obtain ⟨c, ec⟩ : ∃ c, c = classNat n := ⟨_, rfl⟩
  have hr := (fits_room hf).2.2
  rw [← ec] at hc hr ⊢
  show (popL (sRoom S c).free c c).length + blockCount c * (sRoom S c).cls.count (-1) + 1 = _
  unfold sRoom
  by_cases hz : (S.free c).length = 0
  · rw [if_pos hz]
    have hx := hr.resolve_left (by omega)
    obtain ⟨hs, hm⟩ := idx_free I.toInv0 hx
    have hn2 := I.n2
    have hl : S.cls.idxOf (-1) < S.cls.length := List.idxOf_lt_length_of_mem hx
    have hfc : (sCut S c).free c = S.free c ++ (blocksOf (S.cls.idxOf (-1) : Nat) c).reverse := if_pos rfl
    have hlen : ((sCut S c).free c).length = blockCount c := by
      rw [hfc, List.length_append, List.length_reverse, blocks_count (by omega), hz, Nat.zero_add]
    have hb := (bcount_pos hc).1
    have hp := pop_len (sCut S c).free c (by omega)
    have hcl : (sCut S c).cls.count (-1) + 1 = S.cls.count (-1) := by
      show (S.cls.set (S.cls.idxOf (-1)) (c : Int)).count (-1) + 1 = _
      rw [List.count_set hl, List.getElem_idxOf hl]
      have hpos := List.count_pos_iff.2 hx
      have e1 : ((-1 : Int) == -1) = true := by decide
      have e2 : ((c : Int) == -1) = false := by rw [beq_eq_false_iff_ne]; omega
      rw [e1, e2]
      simp
      omega
    unfold cntR
    rw [← hcl, hz, Nat.mul_add]
    omega
  · rw [if_neg hz]
    have hp := pop_len S.free c (by omega)
    unfold cntR
    omega
/-- The first of all objects is freed. -/
theorem free_first {S : HS} (I : Inv0 S) {o : Int × Int × Int} {l : List (Int × Int × Int)} (h : S.objs = o :: l) (junk : Int) : (sFree S o.1 junk).2 = 0 ∧ (sFree S o.1 junk).1.n = S.n ∧ (sFree S o.1 junk).1.objs = l := by
  have ho : o ∈ S.objs := by rw [h]; simp
  obtain ⟨e1, e2, e3⟩ := free_ok I ho junk
  refine ⟨e1, e2, ?_⟩
  have hs := I.os
  rw [h, List.pairwise_cons] at hs
  rw [e3, h, List.filter_cons_of_neg (by simp), List.filter_eq_self]
  intro y hy
  have := hs.1 y hy
  have h2 : y.1 ≠ o.1 := by omega
  simpa using h2
open Go.RowKit Go.Shelf
/-- A slice that reads as a list, in blocks that are none of F. -/
structure RdO {α : Type} (enc : α → Value) (w : World) (F : Nat → Prop) (v : Value) (xs : List α) : Prop where
  rd : Rd enc w v xs
  off : 0 < xs.length → ∀ b, v.ownBlock = some b → ¬ F b
section
variable {α : Type} {enc : α → Value} {w w' : World} {F F' : Nat → Prop} {v : Value} {xs : List α}
theorem RdO.step (H : RdO enc w F v xs) (s : Step F w w' F') : RdO enc w' F' v xs :=
  ⟨H.rd.keep s.frame.size fun hp b e hlt => s.frame.block b hlt (H.off hp b e), fun hp b e hF => (s.sub b hF).elim (H.off hp b e) fun h => by
    obtain ⟨A, c, rfl, -⟩ := H.rd.len
    obtain ⟨b', o, rfl, hlt, _⟩ := H.rd.at_ hp
    have e' : b' = b := by simpa [Value.ownBlock] using e
    omega⟩
theorem RdO.below (H : RdO enc w F v xs) (hb : Below w.heap.size w w') : RdO enc w' F v xs := ⟨H.rd.below hb, H.off⟩
theorem all_o {h : Nat} {S : HS} {l : List Int} (hr : sAll S = l) (H : HpAt w h S F) :
    Calls Tryz.prog 17 #[.pointer (some ⟨h, 0, none⟩)] w fun e w' => ∃ A c, e = .returned (.slice A l.length c) ∧ RdO i64e w' F (.slice A l.length c) l ∧ From w.heap.size (.slice A l.length c) ∧ Below w.heap.size w w' := by
  refine (all_r hr H).mono ?_
  rintro e w' ⟨A, c, h1, h2, h3, h4⟩
  exact ⟨A, c, h1, ⟨h2, fun _ b e hF => by have := H.lt b hF; have := h3 b e; omega⟩, h3, h4⟩
theorem new_i (z : Int) (N : Nat) (hz : z = (N : Int)) (w : World) (h1 : 1 ≤ N) (h2 : N ≤ 512) (hT : TabW w) :
    Calls Tryz.prog 53 #[.int .i64 z] w fun e w' => ∃ (h : Nat) (F : Nat → Prop), e = .returned (.pointer (some ⟨h, 0, none⟩)) ∧ HpAt w' h (sNew N) F ∧ (∀ k, F k → w.heap.size ≤ k) ∧ Below w.heap.size w w' := by
  subst hz
  exact new_s N w h1 h2 hT
theorem of_r {n c : Int} (hc : classOf n = c) (w : World) : Calls Tryz.prog 51 #[.int .i64 n] w fun e w' => e = .returned (.int .i64 c) ∧ w = w' := by
  rw [← hc]
  exact of_ok n w
theorem words_r {c W : Int} (hc : wordsOf c = W) (w : World) : Calls Tryz.prog 83 #[.int .i64 c] w fun e w' => e = .returned (.int .i64 W) ∧ w = w' := by
  rw [← hc]
  exact words_ok c w
theorem in_r {p s : Int} (hs : spanOf p = s) (hp : p ≤ 9223372036854775807) (w : World) : Calls Tryz.prog 106 #[.int .i64 p] w fun e w' => e = .returned (.int .i64 s) ∧ w = w' := by
  rw [← hs]
  exact in_ok p w hp
end
end Go.Proofs.YtcaboknbdamlhaaGreatDoor
namespace Go.Proofs.YtcaboknbdamlhaaGreatDoor
open Go.RowKit
/-- The blocks of four lists are in Q. -/
def InQ (Q : Nat → Prop) (f : Nat → Value) (L : Nat → List Int) : Prop := ∀ j, j < 4 → 0 < (L j).length → ∀ b, (f j).ownBlock = some b → Q b
def RdQ (Q : Nat → Prop) (w : World) (v : Value) (L : Nat → List Int) : Prop := ∃ f, v = .agg (arr4 f) ∧ (∀ j, j < 4 → Rd i64e w (f j) (L j)) ∧ InQ Q f L
set_option maxHeartbeats 1600000 in
set_option maxRecDepth 100000 in
theorem rput_q (Q : Nat → Prop) (f : Nat → Value) (L : Nat → List Int) (c p : Int) (w : World) (hf : ∀ j, j < 4 → Rd i64e w (f j) (L j)) (hl : ShortL L) (hp : p ≤ 9223372036854775807) (hQ0 : ∀ b, w.heap.size ≤ b → Q b) (hqf0 : InQ Q f L) :
    Calls Tryz.prog 95 #[.agg (arr4 f), .int .i64 c, .int .i64 p] w fun e w' => ∃ v, e = .returned (.tuple #[v, .int .i64 (putL L c p).2]) ∧ RdQ Q w' v (putL L c p).1 ∧ Below w.heap.size w w' := by
  have HQ := Lib.hid hQ0
  have HQF := Lib.hid hqf0
  clear hQ0 hqf0
  have HL := Lib.hid hl
  have HS := Lib.hid rlists_size
  have h1g := Lib.hid (arr4_one fun j hj => rd_one (hf j hj))
  have HF := Lib.hid hf
  have HA := Lib.hid (apart_new hf)
  clear hf hl
  go_enter Tryz.func95, Tryz.ntmps95
  go_wp2_with (first
    | (refine wpList_new rfl (.box 37 (.tmp 0)) rfl w.heap.size rfl 37 (arr4 f) (by kernel_rfl) ?_; intro w1 hs1 hb1 hB1)
    | (refine wpList_new rfl (.alloc 37) rfl (w.heap.size + 1) hs1 37 nil4 (by kernel_rfl) ?_; intro w2 hs2 hb2 hR2; refine stop_here ?_))
  have hB2 := Lib.hid (hB1.below hb2 (by omega))
  have hb2 := hb1.trans (hb2.mono (by omega))
  have hR2 := Lib.hid hR2
  have HF2 := Lib.hid (fun j (hj : j < 4) => (HF.out j hj).below hb2)
  clear hs1 hB1 hb1
  by_cases hbg : beginsAt p c = false
  · have hput := Lib.hid (show putL L c p = (L, 2) by unfold putL; rw [if_pos hbg])
    rcases (show c < 0 ∨ 3 < c ∨ (0 ≤ c ∧ c ≤ 3) from by omega) with hc | hc | hc
    · refine go_on ?_
      go_wp2_with (first
        | (refine wpList_load_blk rfl 37 (.tmp 3) rfl w.heap.size rfl 37 (arr4 f) hB2.out _ Tryz.underlying37 rfl HS.out ?_)
        | (refine wpList_store_blk rfl 37 (.tmp 6) (.tmp 21) rfl (w.heap.size + 1) rfl (arr4 f) rfl 37 nil4 hR2.out HS.out rfl h1g.out ?_; intro w3 hR3 hg3 hs3))
      refine bodyPost_ret (res_cell_tmp rfl rfl hR3 Tryz.underlying37 rfl HS.out) rfl ⟨_, by rw [hput.out]; rfl, ?_, hb2.grown hg3 hb2.size (fun k hk => by cases hk; omega)⟩
      rw [hput.out]
      exact ⟨_, rfl, fun j hj => (HF2.out j hj).far hg3 (HA.out j hj).2, HQF.out⟩
    · have hc0 : ¬ c < 0 := by omega
      refine go_on ?_
      go_wp2_with (first
        | (refine wpList_load_blk rfl 37 (.tmp 3) rfl w.heap.size rfl 37 (arr4 f) hB2.out _ Tryz.underlying37 rfl HS.out ?_)
        | (refine wpList_store_blk rfl 37 (.tmp 6) (.tmp 21) rfl (w.heap.size + 1) rfl (arr4 f) rfl 37 nil4 hR2.out HS.out rfl h1g.out ?_; intro w3 hR3 hg3 hs3))
      refine bodyPost_ret (res_cell_tmp rfl rfl hR3 Tryz.underlying37 rfl HS.out) rfl ⟨_, by rw [hput.out]; rfl, ?_, hb2.grown hg3 hb2.size (fun k hk => by cases hk; omega)⟩
      rw [hput.out]
      exact ⟨_, rfl, fun j hj => (HF2.out j hj).far hg3 (HA.out j hj).2, HQF.out⟩
    · have hc0 : ¬ c < 0 := by omega
      have hc1 : ¬ 3 < c := by omega
      refine go_on ?_
      go_wp2_with (first
        | (go_at_call 109; refine (rbegins_ok _ _ _ hp).mono ?_; rintro e w' ⟨rfl, rfl⟩)
        | (refine wpList_load_blk rfl 37 (.tmp 3) rfl w.heap.size rfl 37 (arr4 f) hB2.out _ Tryz.underlying37 rfl HS.out ?_)
        | (refine wpList_store_blk rfl 37 (.tmp 6) (.tmp 21) rfl (w.heap.size + 1) rfl (arr4 f) rfl 37 nil4 hR2.out HS.out rfl h1g.out ?_; intro w3 hR3 hg3 hs3))
      refine bodyPost_ret (res_cell_tmp rfl rfl hR3 Tryz.underlying37 rfl HS.out) rfl ⟨_, by rw [hput.out]; rfl, ?_, hb2.grown hg3 hb2.size (fun k hk => by cases hk; omega)⟩
      rw [hput.out]
      exact ⟨_, rfl, fun j hj => (HF2.out j hj).far hg3 (HA.out j hj).2, HQF.out⟩
  · have hbg : beginsAt p c = true := by simpa using hbg
    have hcl := begins_class hbg
    have hc0 : ¬ c < 0 := by omega
    have hc1 : ¬ 3 < c := by omega
    refine go_on ?_
    go_wp2_with (first
      | (go_at_call 109; refine (rbegins_ok _ _ _ hp).mono ?_; rintro e w' ⟨rfl, rfl⟩)
      | (refine wpList_load_blk rfl 37 (.tmp 3) rfl w.heap.size rfl 37 (arr4 f) hB2.out _ Tryz.underlying37 rfl HS.out ?_))
    refine (rhas_ok f L p _ HF2.out HL.out).mono ?_
    rintro e w3 ⟨rfl, hb3⟩
    have hB3 := Lib.hid (hB2.out.below hb3 hB2.out.lt)
    have hR3 := Lib.hid (hR2.out.below hb3 hR2.out.lt)
    have HF3 := Lib.hid (fun j (hj : j < 4) => (HF2.out j hj).below hb3)
    have hb3 := hb2.trans (hb3.mono hb2.size)
    clear HF2 hR2 hB2 hb2
    by_cases hh : 0 ≤ hasIn L p
    · have hput := Lib.hid (show putL L c p = (L, 8) by unfold putL; rw [if_neg (by rw [hbg]; simp), if_pos hh])
      go_wp2_with (first
        | (refine wpList_load_blk rfl 37 (.tmp 3) rfl w.heap.size rfl 37 (arr4 f) hB3.out _ Tryz.underlying37 rfl HS.out ?_)
        | (refine wpList_store_blk rfl 37 (.tmp 6) (.tmp 26) rfl (w.heap.size + 1) rfl (arr4 f) rfl 37 nil4 hR3.out HS.out rfl h1g.out ?_; intro w4 hR4 hg4 hs4))
      refine bodyPost_ret (res_cell_tmp rfl rfl hR4 Tryz.underlying37 rfl HS.out) rfl ⟨_, by rw [hput.out]; rfl, ?_, hb3.grown hg4 hb3.size (fun k hk => by cases hk; omega)⟩
      rw [hput.out]
      exact ⟨_, rfl, fun j hj => (HF3.out j hj).far hg4 (HA.out j hj).2, HQF.out⟩
    · have hput := Lib.hid (show putL L c p = (addL L c p, 0) by unfold putL; rw [if_neg (by rw [hbg]; simp), if_neg hh])
      obtain ⟨k, rfl⟩ : ∃ k : Nat, c = (k : Int) := ⟨c.toNat, by omega⟩
      have hk : k < 4 := by omega
      obtain ⟨A, d, hc, hr, eg⟩ := rd_cell3 hB3.out hk (HF3.out k hk)
      have hlk := HL.out k hk
      have hz := hR3.out.lt
      have hz0 : w.heap.size < w3.heap.size := by omega
      have eg := Lib.hid eg
      have hr := Lib.hid hr
      have hown0 := Lib.hid (World.ownsRow_made (e := 3) (size := 1) w3 (base := w3.heap.size) #[] 0 (Nat.le_refl _) (Nat.zero_le _) rfl)
      clear hbg
      go_wp2_with (first
        | (at_builtin; refine wpList_append_all rfl (.tmp 27) (.tmp 30) _ rfl w3.heap.size 3 _ 8 Tryz.underlying36 int_info rfl _ 0 [] rfl hown0.out i64e _ (L k) (fun _ => rfl) rfl (hr.out.below (below_alloc _ _)) (by unfold maxLen; omega) (by omega) (by simp) ?_; intro v4 w4 hown4 hg4 hat4; refine stop_here ?_))
      have hB4 := Lib.hid (hB3.out.below ((below_alloc w3 _).grown hg4 (by simp) (fun k hk => by cases hk; exact Nat.le_refl _)) hB3.out.lt)
      have hR4 := Lib.hid (hR3.out.below ((below_alloc w3 _).grown hg4 (by simp) (fun k hk => by cases hk; exact Nat.le_refl _)) hR3.out.lt)
      have hb34 : Below w3.heap.size w3 w4 := (below_alloc w3 _).grown hg4 (by simp) (fun k hk => by cases hk; exact Nat.le_refl _)
      have HF4 := Lib.hid (fun j (hj : j < 4) => (HF3.out j hj).below hb34)
      have hown4 : w4.ownsRow w3.heap.size 3 1 v4 (L k).length ((L k).map i64e) := by simpa using hown4
      have hz4 := hb34.size
      have hb4 := hb3.trans (hb34.mono hb3.size)
      clear hb34 hg4 hat4 hr HF3 hB3 hR3 hc hb3
      refine go_on ?_
      go_wp2_with (at_builtin; refine wpList_push rfl (.tmp 33) (.tmp 35) _ rfl w3.heap.size 3 _ 8 Tryz.underlying36 int_info rfl _ _ _ rfl hown4 _ rfl rfl (by unfold maxLen; omega) (by omega) (by omega) ?_; intro v5 w5 hown5 hg5 hat5; refine stop_here ?_)
      have hb45 : Below w3.heap.size w4 w5 := (Below.refl _ _).grown hg5 hz4 (fun k hk => (hown4.lt k hk).1)
      have hB5 := hB4.out.below hb45 hz0
      have hR5 := Lib.hid (hR4.out.below hb45 hz)
      have hown5 : w5.ownsRow w3.heap.size 3 1 v5 (L k ++ [p]).length ((L k ++ [p]).map i64e) := by simpa using hown5
      obtain ⟨A', n', d', rfl⟩ := (Rd.of_own hown5).form
      have hc5 := (hB5.cell k).trans (arr4_get f hk)
      rw [eg.out] at hc5
      have hf5 := hB5.frozen k
      have hB6 := hB5.set_ k (.slice A' n' d')
      rw [arr4_set f hk] at hB6
      have hB6 := Lib.hid hB6
      have hR6 := Lib.hid (hR5.out.far (p := ⟨w.heap.size, k, none⟩) (by simp) (.slice A' n' d'))
      have hone6 : Hid ((arr4 fun j => if j = k then Value.slice A' n' d' else f j).all (·.oneCell') = true) := Lib.hid (arr4_one fun j hj => by
        by_cases e : j = k
        · rw [if_pos e]; rfl
        · rw [if_neg e]; exact rd_one (HF4.out j hj))
      have hb5 : Below w.heap.size w w5 := hb4.trans (hb45.mono (by omega))
      have hb6 := hb5.setCell (p := ⟨w.heap.size, k, none⟩) (Nat.le_refl _) (.slice A' n' d')
      have hrd : Hid (∀ j, j < 4 → Rd i64e (w5.setCell ⟨w.heap.size, k, none⟩ (.slice A' n' d')) (if j = k then Value.slice A' n' d' else f j) (addL L k p j) ∧ (0 < (addL L k p j).length → (if j = k then Value.slice A' n' d' else f j).ownBlock ≠ some (w.heap.size + 1))) := Lib.hid fun j hj => by
        unfold addL
        by_cases e : j = k
        · subst e
          rw [if_pos rfl, if_pos rfl]
          exact ⟨Rd.of_own (ownsRow_setCell_below hown5 (by show w.heap.size < w3.heap.size; omega) _), fun _ e => by have := (hown5.lt _ e).1; omega⟩
        · rw [if_neg e, if_neg (by omega)]
          refine ⟨((HF4.out j hj).keep hb45.size fun hp b hb hlt => hb45.block b ?_).far_cell _ (HA.out j hj).1, (HA.out j hj).2⟩
          exact Nat.lt_of_lt_of_le ((HF.out j hj).block hb hp) (by have := hb4.size; omega)
      have hzw : w.heap.size ≤ w3.heap.size := by omega
      have HQ6 : Hid (InQ Q (fun j => if j = k then Value.slice A' n' d' else f j) (addL L k p)) := Lib.hid fun j hj hp b hb => by
        by_cases e : j = k
        · simp only [if_pos e] at hb
          exact HQ.out b (Nat.le_trans hzw (hown5.lt b hb).1)
        · simp only [if_neg e] at hb
          refine HQF.out j hj ?_ b hb
          unfold addL at hp
          rwa [if_neg (by omega)] at hp
      clear hown5 hown4 hB5 hg5 hat5 hB4 hR4 hR5 HF4 hb4 hb5 hb45
      refine go_on ?_
      go_wp2_with (first
        | (refine wpList_load_blk rfl 37 (.tmp 3) rfl w.heap.size rfl 37 _ hB6.out _ Tryz.underlying37 rfl HS.out ?_)
        | (refine wpList_store_blk rfl 37 (.tmp 6) (.tmp 38) rfl (w.heap.size + 1) rfl _ rfl 37 nil4 hR6.out HS.out rfl hone6.out ?_; intro w7 hR7 hg7 hs7))
      refine bodyPost_ret (res_cell_tmp rfl rfl hR7 Tryz.underlying37 rfl HS.out) rfl ⟨.agg (arr4 fun j => if j = k then Value.slice A' n' d' else f j), by rw [hput.out]; rfl, ?_, hb6.grown hg7 hb6.size (fun k hk => by cases hk; omega)⟩
      rw [hput.out]
      exact ⟨_, rfl, fun j hj => (hrd.out j hj).1.far hg7 (hrd.out j hj).2, HQ6.out⟩
set_option maxHeartbeats 1600000 in
set_option maxRecDepth 100000 in
theorem rtake_q (Q : Nat → Prop) (f : Nat → Value) (L : Nat → List Int) (c : Int) (w : World) (hf : ∀ j, j < 4 → Rd i64e w (f j) (L j)) (hl : ShortL L) (hqf0 : InQ Q f L) :
    Calls Tryz.prog 90 #[.agg (arr4 f), .int .i64 c] w fun e w' => ∃ v, e = .returned (.tuple #[v, .int .i64 (takeL L c).2.1, .int .i64 (takeL L c).2.2]) ∧ RdQ Q w' v (takeL L c).1 ∧ Below w.heap.size w w' := by
  have hb0 := (below_alloc w (.cells (arr4 f) 37)).alloc (by simp) (.cells #[.slice none 0 0, .slice none 0 0, .slice none 0 0, .slice none 0 0] 37)
  have hB0 := Lib.hid ((Blk.new w 37 (arr4 f)).alloc (.cells #[.slice none 0 0, .slice none 0 0, .slice none 0 0, .slice none 0 0] 37))
  have hR0 := Lib.hid (nil4_new w (.cells (arr4 f) 37) 37)
  have HQF := Lib.hid hqf0
  clear hqf0
  have HL := Lib.hid hl
  have HS := Lib.hid rlists_size
  have h1f := Lib.hid (arr4_one fun j hj => rd_one (hf j hj))
  have HF := Lib.hid hf
  have HA := Lib.hid (apart_new hf)
  have h1g := h1f
  clear hf hl h1f hB0 hR0 hb0
  go_enter Tryz.func90, Tryz.ntmps90
  go_wp2_with (first
    | (refine wpList_new rfl (.box 37 (.tmp 0)) rfl w.heap.size rfl 37 (arr4 f) (by kernel_rfl) ?_; intro w1 hs1 hb1 hB1)
    | (refine wpList_new rfl (.alloc 37) rfl (w.heap.size + 1) hs1 37 nil4 (by kernel_rfl) ?_; intro w2 hs2 hb2 hR2; refine stop_here ?_))
  have hB2 := Lib.hid (hB1.below hb2 (by omega))
  have hb2 := hb1.trans (hb2.mono (by omega))
  have hR2 := Lib.hid hR2
  have HF2 := Lib.hid (fun j (hj : j < 4) => (HF.out j hj).below hb2)
  clear hs1 hB1 hb1
  refine go_on ?_
  by_cases hc : c < 0 ∨ 3 < c
  · have hput := Lib.hid (show takeL L c = (L, 0, 2) by unfold takeL; rw [if_pos hc])
    rcases hc with hc | hc
    · have hc1 : ¬ 3 < c := by omega
      go_wp2_with (first
        | (refine wpList_load_blk rfl 37 (.tmp 2) rfl w.heap.size rfl 37 (arr4 f) hB2.out _ Tryz.underlying37 rfl HS.out ?_)
        | (refine wpList_store_blk rfl 37 (.tmp 4) (.tmp 15) rfl (w.heap.size + 1) rfl (arr4 f) rfl 37 nil4 hR2.out HS.out rfl h1g.out ?_; intro w3 hR3 hg3 hs3))
      refine bodyPost_ret (res_cell_tmp2 rfl rfl hR3 Tryz.underlying37 rfl HS.out) rfl ⟨_, by rw [hput.out]; rfl, ?_, hb2.grown hg3 hb2.size (fun k hk => by cases hk; omega)⟩
      rw [hput.out]
      exact ⟨_, rfl, fun j hj => (HF2.out j hj).far hg3 (HA.out j hj).2, HQF.out⟩
    · have hc0 : ¬ c < 0 := by omega
      go_wp2_with (first
        | (refine wpList_load_blk rfl 37 (.tmp 2) rfl w.heap.size rfl 37 (arr4 f) hB2.out _ Tryz.underlying37 rfl HS.out ?_)
        | (refine wpList_store_blk rfl 37 (.tmp 4) (.tmp 15) rfl (w.heap.size + 1) rfl (arr4 f) rfl 37 nil4 hR2.out HS.out rfl h1g.out ?_; intro w3 hR3 hg3 hs3))
      refine bodyPost_ret (res_cell_tmp2 rfl rfl hR3 Tryz.underlying37 rfl HS.out) rfl ⟨_, by rw [hput.out]; rfl, ?_, hb2.grown hg3 hb2.size (fun k hk => by cases hk; omega)⟩
      rw [hput.out]
      exact ⟨_, rfl, fun j hj => (HF2.out j hj).far hg3 (HA.out j hj).2, HQF.out⟩
  · obtain ⟨k, rfl⟩ : ∃ k : Nat, c = (k : Int) := ⟨c.toNat, by omega⟩
    have hk : k < 4 := by omega
    have hlk := HL.out k hk
    by_cases he : (L k).length = 0
    · have hput := Lib.hid (show takeL L (k : Int) = (L, 0, 7) by unfold takeL; rw [if_neg hc, Int.toNat_natCast, if_pos he])
      have heb : (((L k).length : Int) == 0) = true := by rw [beq_iff_eq]; omega
      clear hc he
      obtain ⟨A, d, hcell, hr, _⟩ := rd_cell3 hB2.out hk (HF2.out k hk)
      go_wp2_with (first
        | (refine wpList_load_blk rfl 37 (.tmp 2) rfl w.heap.size rfl 37 (arr4 f) hB2.out _ Tryz.underlying37 rfl HS.out ?_)
        | (refine wpList_store_blk rfl 37 (.tmp 4) (.tmp 22) rfl (w.heap.size + 1) rfl (arr4 f) rfl 37 nil4 hR2.out HS.out rfl h1g.out ?_; intro w3 hR3 hg3 hs3))
      refine bodyPost_ret (res_cell_tmp2 rfl rfl hR3 Tryz.underlying37 rfl HS.out) rfl ⟨_, by rw [hput.out]; rfl, ?_, hb2.grown hg3 hb2.size (fun k hk => by cases hk; omega)⟩
      rw [hput.out]
      exact ⟨_, rfl, fun j hj => (HF2.out j hj).far hg3 (HA.out j hj).2, HQF.out⟩
    · have hput := Lib.hid (show takeL L (k : Int) = (popL L k, lastOf (L k), 0) by unfold takeL; rw [if_neg hc, Int.toNat_natCast, if_neg he])
      have heb : (((L k).length : Int) == 0) = false := by rw [beq_eq_false_iff_ne]; omega
      have hpos : 1 ≤ (L k).length := by omega
      clear hc he
      obtain ⟨A, d, hcell, hr, eg⟩ := rd_cell3 hB2.out hk (HF2.out k hk)
      have hd : (L k).length ≤ d := by obtain ⟨_, _, e, h1, _⟩ := hr; injection e with _ _ e3; omega
      obtain ⟨b, o, rfl, hlt, hlast⟩ := hr.at_ (i := (L k).length - 1) (by omega)
      have hfk := hB2.out.frozen k
      have hap2 := HA.out k hk
      rw [eg] at hap2
      have hap2 := Lib.hid hap2
      have eg := Lib.hid eg
      have hB5 := hB2.out.set_ k (.slice (some ⟨b, o, none⟩) ((L k).length - 1) d)
      rw [arr4_set _ hk] at hB5
      have hB5 := Lib.hid hB5
      have hR5 := Lib.hid (hR2.out.far (p := ⟨w.heap.size, k, none⟩) (by simp) (.slice (some ⟨b, o, none⟩) ((L k).length - 1) d))
      have hone5 : Hid ((arr4 fun j => if j = k then Value.slice (some ⟨b, o, none⟩) ((L k).length - 1) d else f j).all (·.oneCell') = true) := Lib.hid (arr4_one fun j hj => by
        by_cases e : j = k
        · rw [if_pos e]; rfl
        · rw [if_neg e]; exact rd_one (HF2.out j hj))
      have hb5 := hb2.setCell (p := ⟨w.heap.size, k, none⟩) (Nat.le_refl _) (.slice (some ⟨b, o, none⟩) ((L k).length - 1) d)
      have hrd : Hid (∀ j, j < 4 → Rd i64e (w2.setCell ⟨w.heap.size, k, none⟩ (.slice (some ⟨b, o, none⟩) ((L k).length - 1) d)) (if j = k then Value.slice (some ⟨b, o, none⟩) ((L k).length - 1) d else f j) (popL L k j) ∧ (0 < (popL L k j).length → (if j = k then Value.slice (some ⟨b, o, none⟩) ((L k).length - 1) d else f j).ownBlock ≠ some (w.heap.size + 1))) := Lib.hid fun j hj => by
        unfold popL
        by_cases e : j = k
        · subst e
          rw [if_pos rfl, if_pos rfl]
          exact ⟨(hr.take (Nat.sub_le _ _)).far_cell _ (fun _ => hap2.out.1 hpos), fun _ => hap2.out.2 hpos⟩
        · rw [if_neg e, if_neg (by omega)]
          exact ⟨(HF2.out j hj).far_cell _ (HA.out j hj).1, (HA.out j hj).2⟩
      go_wp2_with (first
        | (refine wpList_load_blk rfl 37 (.tmp 2) rfl w.heap.size rfl 37 _ hB5.out _ Tryz.underlying37 rfl HS.out ?_)
        | (refine wpList_store_blk rfl 37 (.tmp 4) (.tmp 38) rfl (w.heap.size + 1) rfl _ rfl 37 nil4 hR5.out HS.out rfl hone5.out ?_; intro w6 hR6 hg6 hs6))
      refine bodyPost_ret (res_cell_tmp2 rfl rfl hR6 Tryz.underlying37 rfl HS.out) rfl ⟨.agg (arr4 fun j => if j = k then Value.slice (some ⟨b, o, none⟩) ((L k).length - 1) d else f j), ?_, ?_, hb5.grown hg6 hb5.size (fun k hk => by cases hk; omega)⟩
      · rw [hput.out]
        show _ = Ending.returned (.tuple #[_, .int .i64 (lastOf (L k)), .int .i64 0])
        unfold lastOf
        have hlt' : (L k).length - 1 < (L k).length := by omega
        simp only [List.getD, List.getElem?_eq_getElem hlt', Option.getD_some]
        rfl
      · rw [hput.out]
        exact ⟨_, rfl, fun j hj => (hrd.out j hj).1.far hg6 (hrd.out j hj).2, fun j hj hp b' hb' => by
          by_cases e : j = k
          · subst e
            simp only [if_true] at hb'
            exact HQF.out j hj hpos b' (by rw [eg.out]; exact hb')
          · simp only [if_neg e] at hb'
            refine HQF.out j hj ?_ b' hb'
            unfold popL at hp
            dsimp only at hp
            rwa [if_neg (by omega)] at hp⟩
set_option maxHeartbeats 1600000 in
set_option maxRecDepth 100000 in
theorem rcut_q (Q : Nat → Prop) (f : Nat → Value) (L : Nat → List Int) (s : Int) (w : World) (hf : ∀ j, j < 4 → Rd i64e w (f j) (L j)) (hl : ShortL L) (hbd : BdL L) (hQ0 : ∀ b, w.heap.size ≤ b → Q b) (hqf0 : InQ Q f L) :
    Calls Tryz.prog 96 #[.agg (arr4 f), .int .i64 s] w fun e w' => ∃ v, e = .returned (.tuple #[v, .int .i64 (goneTo L s 4)]) ∧ RdQ Q w' v (cutL L s) ∧ Below w.heap.size w w' := by
  have HQ := Lib.hid hQ0
  have HQF := Lib.hid hqf0
  clear hQ0 hqf0
  have HL := Lib.hid hl
  have HBd := Lib.hid hbd
  have HS := Lib.hid rlists_size
  have h1g := Lib.hid (arr4_one fun j hj => rd_one (hf j hj))
  have HF := Lib.hid hf
  have HA := Lib.hid (apart_new hf)
  clear hf hl hbd
  go_enter Tryz.func96, Tryz.ntmps96
  go_wp2_with (first
    | (refine wpList_new rfl (.box 37 (.tmp 0)) rfl w.heap.size rfl 37 (arr4 f) (by kernel_rfl) ?_; intro w1 hs1 hb1 hB1)
    | (refine wpList_new rfl (.alloc 37) rfl (w.heap.size + 1) hs1 37 nil4 (by kernel_rfl) ?_; intro w2 hs2 hb2 hR2; refine stop_here ?_))
  have hB2 := Lib.hid (hB1.below hb2 (by omega))
  have hb2 := hb1.trans (hb2.mono (by omega))
  have hR2 := Lib.hid hR2
  have HF2 := Lib.hid (fun j (hj : j < 4) => (HF.out j hj).below hb2)
  clear hs1 hB1 hb1 hs2
  refine go_on ?_
  go_wp2_with fail
  go_loopw [6, 7] (fun n c wr => ∃ k : Nat, k ≤ 4 ∧ c = .int .i64 k ∧ n = .int .i64 (goneTo L s k) ∧ ∃ g : Nat → Value, Hid (Blk wr w.heap.size 37 (arr4 g)) ∧ Hid (Blk wr (w.heap.size + 1) 37 nil4) ∧
      Hid (∀ j, j < 4 → Rd i64e wr (g j) (if j < k then keepS s (L j) else L j)) ∧ Hid (∀ j, j < 4 → 0 < (L j).length → (g j).ownBlock ≠ some w.heap.size ∧ (g j).ownBlock ≠ some (w.heap.size + 1) ∧ ∀ b, (g j).ownBlock = some b → Q b) ∧ Below w.heap.size w wr)
    (fun _ c _ => 4 - (intOf c).toNat)
  case atStart => exact ⟨0, by omega, rfl, rfl, f, hB2, hR2, Lib.hid fun j hj => by rw [if_neg (by omega)]; exact HF2.out j hj, Lib.hid fun j hj hp => ⟨(HA.out j hj).1 hp, (HA.out j hj).2 hp, HQF.out j hj hp⟩, hb2⟩
  case round =>
    obtain ⟨k, hk, rfl, rfl, g, hB, hR, hG, hN, hb⟩ := hrel
    have hgt := goneTo_bd L s HL.out k hk
    by_cases hlt : k < 4
    · have hfk := hG.out k hlt
      rw [if_neg (by omega)] at hfk
      obtain ⟨A, c, hcell, hr, eg⟩ := rd_cell3 hB.out hlt hfk
      have hr := Lib.hid hr
      have eg := Lib.hid eg
      have hlk := HL.out k hlt
      have hz := hR.out.lt
      have hz0 : w.heap.size < wr.heap.size := by omega
      clear hfk
      have hlb : decide ((k : Int) < 4) = true := by rw [decide_eq_true_iff]; omega
      obtain ⟨wo, rfl⟩ : ∃ wo : World, wo = wr := ⟨_, rfl⟩
      go_wp2_with fail
      go_loopw [6, 8, 9] (fun n v i wx => ∃ m : Nat, m ≤ (L k).length ∧ i = .int .i64 m ∧ n = .int .i64 (goneTo L s k + goneS s ((L k).take m)) ∧ Hid (wx.ownsRow wo.heap.size 3 1 v (keepS s ((L k).take m)).length ((keepS s ((L k).take m)).map i64e)) ∧ Below wo.heap.size wo wx)
        (fun _ _ i _ => (L k).length - (intOf i).toNat)
      case atStart => exact ⟨0, by omega, rfl, by simp [goneS], Lib.hid (World.ownsRow_nil _ _ _ _), Below.refl _ _⟩
      case round =>
        obtain ⟨m, hm, rfl, rfl, hown, hbx⟩ := hrel
        have hcx : wr.cell? ⟨w.heap.size, k, none⟩ = some (.slice A (L k).length c) := (hbx.cell hz0).trans hcell
        have hgs := gone_bd s ((L k).take m)
        have hlt2 : ((L k).take m).length ≤ m := List.length_take_le _ _
        have hkl := keep_le s ((L k).take m)
        have hzx := hbx.size
        by_cases hlm : m < (L k).length
        · obtain ⟨b, o, rfl, _, hce⟩ := (hr.out.below hbx).at_ hlm
          have hxb := HBd.out k hlt _ (List.getElem_mem hlm)
          have hts := take_snoc (L k) hlm
          by_cases hx : spanOf (L k)[m] = s
          · have hb1 : (spanOf (L k)[m] == s) = true := by rw [beq_iff_eq]; exact hx
            have hK : Hid (keepS s ((L k).take (m + 1)) = keepS s ((L k).take m)) := Lib.hid (by rw [hts, keep_snoc, if_pos hx])
            have hGn : Hid (goneS s ((L k).take (m + 1)) = goneS s ((L k).take m) + 1) := Lib.hid (by rw [hts, gone_snoc, if_pos hx])
            clear hx hts
            go_wp2_with (go_at_call 94; refine (rin_ok _ _ hxb).mono ?_; rintro e w' ⟨rfl, rfl⟩)
            go_roundw
            case rel => exact ⟨m + 1, by omega, by go_num, by rw [hGn.out, ← Int.add_assoc], by rw [hK.out]; exact hown, hbx⟩
            case measure => simp [intOf]; omega
          · have hb1 : (spanOf (L k)[m] == s) = false := by rw [beq_eq_false_iff_ne]; exact hx
            have hK : Hid (keepS s ((L k).take (m + 1)) = keepS s ((L k).take m) ++ [(L k)[m]]) := Lib.hid (by rw [hts, keep_snoc, if_neg hx])
            have hGn : Hid (goneS s ((L k).take (m + 1)) = goneS s ((L k).take m)) := Lib.hid (by rw [hts, gone_snoc, if_neg hx])
            clear hx hts
            go_wp2_with (first
              | (go_at_call 94; refine (rin_ok _ _ hxb).mono ?_; rintro e w' ⟨rfl, rfl⟩)
              | (at_builtin; refine wpList_push rfl (.tmp 33) (.tmp 40) _ rfl wo.heap.size 3 _ 8 Tryz.underlying36 int_info rfl _ _ _ rfl hown.out _ rfl rfl (by unfold maxLen; omega) (by omega) hzx ?_; intro v' w4 hown4 hg4 hat4))
            go_roundw
            case rel => exact ⟨m + 1, by omega, by go_num, by rw [hGn.out], by rw [hK.out]; exact Lib.hid (by simpa using hown4), hbx.grown hg4 hzx (fun q hq => (hown.out.lt q hq).1)⟩
            case measure => simp [intOf]; omega
        · obtain rfl : m = (L k).length := by omega
          have hown := hown.out
          rw [List.take_length] at hown hgs
          have hrv := Rd.of_own (enc := i64e) (xs := keepS s (L k)) hown
          obtain ⟨A', n', c', rfl⟩ := hrv.form
          have hBx := hB.out.below hbx hz0
          have hRx := hR.out.below hbx hz
          have hfx := hBx.frozen k
          have hB3 := hBx.set_ k (.slice A' n' c')
          rw [arr4_set g hlt] at hB3
          have hB3 := Lib.hid hB3
          have hR3 := Lib.hid (hRx.far (p := ⟨w.heap.size, k, none⟩) (by simp) (.slice A' n' c'))
          have hG3 : Hid (∀ j, j < 4 → Rd i64e (wr.setCell ⟨w.heap.size, k, none⟩ (.slice A' n' c')) (if j = k then .slice A' n' c' else g j) (if j < k + 1 then keepS s (L j) else L j)) := Lib.hid fun j hj => by
            by_cases e : j = k
            · subst e
              rw [if_pos rfl, if_pos (by omega)]
              exact Rd.of_own (ownsRow_setCell_below hown hz0 _)
            · rw [if_neg e, show (if j < k + 1 then keepS s (L j) else L j) = (if j < k then keepS s (L j) else L j) by by_cases h : j < k <;> simp [h] <;> omega]
              refine ((hG.out j hj).below hbx).far_cell _ fun hp => ?_
              refine (hN.out j hj ?_).1
              split at hp
              · have := keep_le s (L j); omega
              · exact hp
          have hN3 : Hid (∀ j, j < 4 → 0 < (L j).length → (if j = k then Value.slice A' n' c' else g j).ownBlock ≠ some w.heap.size ∧ (if j = k then Value.slice A' n' c' else g j).ownBlock ≠ some (w.heap.size + 1) ∧ ∀ b, (if j = k then Value.slice A' n' c' else g j).ownBlock = some b → Q b) := Lib.hid fun j hj hp => by
            by_cases e : j = k
            · rw [if_pos e]
              exact ⟨fun e => by have := (hown.lt _ e).1; omega, fun e => by have := (hown.lt _ e).1; omega, fun b e => HQ.out b (by have := (hown.lt _ e).1; omega)⟩
            · rw [if_neg e]; exact hN.out j hj hp
          have hb3 := (hb.trans (hbx.mono (by omega))).setCell (p := ⟨w.heap.size, k, none⟩) (Nat.le_refl _) (.slice A' n' c')
          have hgt' : Hid (goneTo L s k + goneS s ((L k).take (L k).length) = goneTo L s (k + 1)) := Lib.hid (by rw [List.take_length]; rfl)
          clear hrv hBx hRx hown hr eg hG hN hB hR hcell
          go_wp2_with fail
          go_roundw
          case rel => exact ⟨k + 1, by omega, by go_num, by rw [← hgt'.out], _, hB3, hR3, hG3, hN3, hb3⟩
          case measure => simp [intOf]; omega
    · obtain rfl : k = 4 := by omega
      have hone4 := Lib.hid (arr4_one fun j hj => rd_one (hG.out j hj))
      go_wp2_with (first
        | (refine wpList_load_blk rfl 37 (.tmp 2) rfl w.heap.size rfl 37 _ hB.out _ Tryz.underlying37 rfl HS.out ?_)
        | (refine wpList_store_blk rfl 37 (.tmp 4) (.tmp 45) rfl (w.heap.size + 1) rfl _ rfl 37 nil4 hR.out HS.out rfl hone4.out ?_; intro w7 hR7 hg7 hs7))
      refine bodyPost_ret (res_cell_tmp rfl rfl hR7 Tryz.underlying37 rfl HS.out) rfl ⟨.agg (arr4 g), rfl, ⟨_, rfl, fun j hj => ?_, fun j hj hp => (hN.out j hj (by have := keep_le s (L j); unfold cutL at hp; omega)).2.2⟩, hb.grown hg7 hb.size (fun k hk => by cases hk; omega)⟩
      have := hG.out j hj
      rw [if_pos hj] at this
      exact this.far hg7 fun hp => (hN.out j hj (by have := keep_le s (L j); omega)).2.1
end Go.Proofs.YtcaboknbdamlhaaGreatDoor
namespace Go.Proofs.YtcaboknbdamlhaaGreatDoor
open Go.RowKit Go.Shelf

def objC (o : Int × Int × Int) : List Value := [.int .i64 o.1, .int .i64 o.2.1, .int .u8 o.2.2]
def rcells (vw vc : Value) (f : Nat → Value) (vo : Value) : Array Value := #[vw, vc, f 0, f 1, f 2, f 3, vo]
def rnil : Array Value := #[.slice none 0 0, .slice none 0 0, .slice none 0 0, .slice none 0 0, .slice none 0 0, .slice none 0 0, .slice none 0 0]
theorem rh_size : (Tryz.prog.info? 40).map (·.size) = some 7 := by kernel_rfl
/-- Slices that read as the document's heap. -/
structure RIn (Q : Nat → Prop) (w : World) (S : HS) (vw vc : Value) (f : Nat → Value) (vo : Value) : Prop where
  words : Rd i64e w vw S.words
  cls : Rd i64e w vc S.cls
  fr : ∀ j, j < 4 → Rd i64e w (f j) (S.free j)
  objs : RdC 3 objC w vo S.objs
  qw : 0 < S.words.length → ∀ b, vw.ownBlock = some b → Q b
  qc : 0 < S.cls.length → ∀ b, vc.ownBlock = some b → Q b
  qf : InQ Q f S.free
  qo : 0 < S.objs.length → ∀ b, vo.ownBlock = some b → Q b
/-- New blocks are in Q. -/
def New (Q : Nat → Prop) (w : World) : Prop := ∀ b, w.heap.size ≤ b → Q b
theorem New.le {Q : Nat → Prop} {w w' : World} (h : New Q w) (hs : w.heap.size ≤ w'.heap.size) : New Q w' := fun b hb => h b (Nat.le_trans hs hb)
def RH (Q : Nat → Prop) (w : World) (v : Value) (S : HS) : Prop := ∃ vw vc f vo, v = .agg (rcells vw vc f vo) ∧ RIn Q w S vw vc f vo
section
variable {Q : Nat → Prop} {w w' : World} {S : HS} {vw vc vo : Value} {f : Nat → Value} {g : Nat}
theorem RIn.below (H : RIn Q w S vw vc f vo) (hb : Below w.heap.size w w') : RIn Q w' S vw vc f vo :=
  ⟨H.words.below hb, H.cls.below hb, fun j hj => (H.fr j hj).below hb, H.objs.below hb, H.qw, H.qc, H.qf, H.qo⟩
theorem RH.below {v : Value} (H : RH Q w v S) (hb : Below w.heap.size w w') : RH Q w' v S := by
  obtain ⟨vw, vc, f, vo, rfl, H⟩ := H
  exact ⟨vw, vc, f, vo, rfl, H.below hb⟩
/-- A block of slices holds no number: what reads as numbers lies elsewhere. -/
def Slices (cs : Array Value) : Prop := ∀ u ∈ cs, ∃ A n c, u = .slice A n c
theorem rd_apart {t : TypeId} {cs : Array Value} (hB : Blk w g t cs) (hs : Slices cs) {v : Value} {xs : List Int} (h : Rd i64e w v xs) (hp : 0 < xs.length) : v.ownBlock ≠ some g := by
  intro e
  obtain ⟨A, c, rfl, -⟩ := h.len
  obtain ⟨b, o, rfl, _, hc⟩ := h.at_ hp
  have e' : b = g := by simpa [Value.ownBlock] using e
  subst e'
  rw [hB.cell] at hc
  obtain ⟨A', n', c', e2⟩ := hs _ (Array.mem_of_getElem? hc)
  cases e2
theorem rdc_apart {t : TypeId} {cs : Array Value} (hB : Blk w g t cs) (hs : Slices cs) {v : Value} {xs : List (Int × Int × Int)} (h : RdC 3 objC w v xs) (hp : 0 < xs.length) : v.ownBlock ≠ some g := by
  intro e
  obtain ⟨A, c, rfl, -⟩ := h.len
  obtain ⟨b, o, rfl, _, hc⟩ := h.at_ hp
  have e' : b = g := by simpa [Value.ownBlock] using e
  subst e'
  have hc := hc 0 _ rfl
  rw [hB.cell] at hc
  obtain ⟨A', n', c', e2⟩ := hs _ (Array.mem_of_getElem? hc)
  cases e2
theorem RdC.keep0 {α : Type} {k : Nat} {enc : α → List Value} {v : Value} {xs : List α} (h : RdC k enc w v xs) (hs : w.heap.size ≤ w'.heap.size) (hb : 0 < xs.length → ∀ b, v.ownBlock = some b → b < w.heap.size → w'.heap[b]? = w.heap[b]?) : RdC k enc w' v xs := by
  obtain ⟨A, c, rfl, h1, h3⟩ := h
  refine ⟨A, c, rfl, h1, fun hp => ?_⟩
  obtain ⟨b, o, rfl, hlt, hc⟩ := h3 hp
  refine ⟨b, o, rfl, by omega, fun i hi j u hu => ?_⟩
  rw [← hc i hi j u hu]
  exact World.cell?_of_block (hb hp b rfl hlt)
/-- Only one block, which is one of slices, has changed. -/
theorem RIn.far {t : TypeId} {cs : Array Value} (H : RIn Q w S vw vc f vo) (hB : Blk w g t cs) (hs : Slices cs) (hg : w.grownBy w' (some g)) : RIn Q w' S vw vc f vo := by
  have key : ∀ b, b ≠ g → b < w.heap.size → w'.heap[b]? = w.heap[b]? := fun b hb hlt => hg.block b hlt fun e => hb (by injection e)
  refine ⟨H.words.keep hg.size fun hp b e hlt => key b (fun e2 => rd_apart hB hs H.words hp (by rw [e, e2])) hlt, H.cls.keep hg.size fun hp b e hlt => key b (fun e2 => rd_apart hB hs H.cls hp (by rw [e, e2])) hlt,
    fun j hj => (H.fr j hj).keep hg.size fun hp b e hlt => key b (fun e2 => rd_apart hB hs (H.fr j hj) hp (by rw [e, e2])) hlt, H.objs.keep0 hg.size fun hp b e hlt => key b (fun e2 => rdc_apart hB hs H.objs hp (by rw [e, e2])) hlt, H.qw, H.qc, H.qf, H.qo⟩
theorem RIn.slices (H : RIn Q w S vw vc f vo) : Slices (rcells vw vc f vo) := by
  intro u hu
  have h1 := H.words.form
  have h2 := H.cls.form
  have h3 : ∃ A n c, vo = .slice A n c := by obtain ⟨A, c, e, _⟩ := H.objs.len; exact ⟨A, _, c, e⟩
  have h4 := fun j hj => (H.fr j hj).form
  simp only [rcells, List.mem_toArray, List.mem_cons, List.not_mem_nil, or_false] at hu
  rcases hu with rfl | rfl | rfl | rfl | rfl | rfl | rfl
  · exact h1
  · exact h2
  · exact h4 0 (by omega)
  · exact h4 1 (by omega)
  · exact h4 2 (by omega)
  · exact h4 3 (by omega)
  · exact h3
theorem rnil_slices : Slices rnil := by
  intro u hu
  simp only [rnil, List.mem_toArray, List.mem_cons, List.not_mem_nil, or_false] at hu
  rcases hu with rfl | rfl | rfl | rfl | rfl | rfl | rfl <;> exact ⟨_, _, _, rfl⟩
theorem slices_one {cs : Array Value} (h : Slices cs) : cs.all (·.oneCell') = true := by
  rw [Array.all_eq_true]
  intro i hi
  obtain ⟨A, n, c, e⟩ := h _ (Array.getElem_mem hi)
  rw [e]
  rfl
/-- A heap of the reference in a variable. -/
structure RBox (Q : Nat → Prop) (w : World) (g : Nat) (S : HS) (vw vc : Value) (f : Nat → Value) (vo : Value) : Prop where
  blk : Blk w g 40 (rcells vw vc f vo)
  rin : RIn Q w S vw vc f vo
theorem RBox.below (H : RBox Q w g S vw vc f vo) (hb : Below w.heap.size w w') : RBox Q w' g S vw vc f vo := ⟨H.blk.below hb H.blk.lt, H.rin.below hb⟩
theorem RBox.cells (H : RBox Q w g S vw vc f vo) : w.cell? ⟨g, 0, none⟩ = some vw ∧ w.cell? ⟨g, 1, none⟩ = some vc ∧ w.cell? ⟨g, 2, none⟩ = some (f 0) ∧ w.cell? ⟨g, 3, none⟩ = some (f 1) ∧ w.cell? ⟨g, 4, none⟩ = some (f 2) ∧ w.cell? ⟨g, 5, none⟩ = some (f 3) ∧ w.cell? ⟨g, 6, none⟩ = some vo :=
  ⟨H.blk.cell 0, H.blk.cell 1, H.blk.cell 2, H.blk.cell 3, H.blk.cell 4, H.blk.cell 5, H.blk.cell 6⟩
theorem RBox.free_cell (H : RBox Q w g S vw vc f vo) {k : Nat} (hk : k < 4) : w.cell? ⟨g, 2 + k, none⟩ = some (f k) := by
  rw [H.blk.cell (2 + k)]
  rcases (show k = 0 ∨ k = 1 ∨ k = 2 ∨ k = 3 from by omega) with rfl | rfl | rfl | rfl <;> rfl
theorem grown_setCell (w : World) (g i : Nat) (u : Value) : w.grownBy (w.setCell ⟨g, i, none⟩ u) (some g) :=
  ⟨rfl, rfl, rfl, Nat.le_of_eq (setCell_size w _ u).symm, fun k hk hne => setCell_other w g i u (fun e => hne (by rw [e]))⟩
theorem RBox.set_words (H : RBox Q w g S vw vc f vo) {v' : Value} {xs : List Int} (hr : Rd i64e w v' xs) (hq : 0 < xs.length → ∀ b, v'.ownBlock = some b → Q b) : RBox Q (w.setCell ⟨g, 0, none⟩ v') g { S with words := xs } v' vc f vo :=
  ⟨H.blk.set_ 0 v', { H.rin.far H.blk H.rin.slices (grown_setCell w g 0 v') with
    words := hr.keep (grown_setCell w g 0 v').size fun hp b e hlt => (grown_setCell w g 0 v').block b hlt fun e2 => rd_apart H.blk H.rin.slices hr hp (by rw [e, e2]), qw := hq }⟩
theorem RBox.set_cls (H : RBox Q w g S vw vc f vo) {v' : Value} {xs : List Int} (hr : Rd i64e w v' xs) (hq : 0 < xs.length → ∀ b, v'.ownBlock = some b → Q b) : RBox Q (w.setCell ⟨g, 1, none⟩ v') g { S with cls := xs } vw v' f vo :=
  ⟨H.blk.set_ 1 v', { H.rin.far H.blk H.rin.slices (grown_setCell w g 1 v') with
    cls := hr.keep (grown_setCell w g 1 v').size fun hp b e hlt => (grown_setCell w g 1 v').block b hlt fun e2 => rd_apart H.blk H.rin.slices hr hp (by rw [e, e2]), qc := hq }⟩
theorem RBox.set_objs (H : RBox Q w g S vw vc f vo) {v' : Value} {xs : List (Int × Int × Int)} (hr : RdC 3 objC w v' xs) (hq : 0 < xs.length → ∀ b, v'.ownBlock = some b → Q b) : RBox Q (w.setCell ⟨g, 6, none⟩ v') g { S with objs := xs } vw vc f v' :=
  ⟨H.blk.set_ 6 v', { H.rin.far H.blk H.rin.slices (grown_setCell w g 6 v') with
    objs := hr.keep0 (grown_setCell w g 6 v').size fun hp b e hlt => (grown_setCell w g 6 v').block b hlt fun e2 => rdc_apart H.blk H.rin.slices hr hp (by rw [e, e2]), qo := hq }⟩
theorem grown_set4 (w : World) (g : Nat) (f : Nat → Value) : w.grownBy (w.setCells g 2 (arr4 f).toList) (some g) := by
  refine ⟨rfl, rfl, rfl, Nat.le_of_eq (set4_size w g f).symm, fun k hk hne => ?_⟩
  exact set4_other w g f (fun e => hne (by rw [e]))
theorem RBox.set_free (H : RBox Q w g S vw vc f vo) {f' : Nat → Value} {L : Nat → List Int} (hr : ∀ j, j < 4 → Rd i64e w (f' j) (L j)) (hq : InQ Q f' L) : RBox Q (w.setCells g 2 (arr4 f').toList) g { S with free := L } vw vc f' vo :=
  ⟨by rw [set4_eq]; exact (((H.blk.set_ 2 (f' 0)).set_ 3 (f' 1)).set_ 4 (f' 2)).set_ 5 (f' 3), { H.rin.far H.blk H.rin.slices (grown_set4 w g f') with
    fr := fun j hj => (hr j hj).keep (grown_set4 w g f').size fun hp b e hlt => (grown_set4 w g f').block b hlt fun e2 => rd_apart H.blk H.rin.slices (hr j hj) hp (by rw [e, e2]), qf := hq }⟩
theorem RBox.there4 (H : RBox Q w g S vw vc f vo) (f' : Nat → Value) : w.there g 2 (arr4 f').size := fun j hj => by
  have hj4 : j < 4 := hj
  rw [H.blk.cell (2 + j), H.blk.frozen (2 + j)]
  rcases (show j = 0 ∨ j = 1 ∨ j = 2 ∨ j = 3 from by omega) with rfl | rfl | rfl | rfl <;> exact ⟨rfl, rfl⟩
theorem RBox.range4 (H : RBox Q w g S vw vc f vo) : w.rangeAt g 2 [f 0, f 1, f 2, f 3] := World.rangeAt_of_block H.blk 2 4
end
theorem rbox_new {Q : Nat → Prop} (w : World) {S : HS} {vw vc vo : Value} {f : Nat → Value} (H : RIn Q w S vw vc f vo) : RBox Q (w.alloc (.cells (rcells vw vc f vo) 40)) w.heap.size S vw vc f vo := ⟨Blk.new w _ _, H.below (below_alloc w _)⟩

/-- Where an object is. -/
def IsAt (objs : List (Int × Int × Int)) (p r : Int) : Prop := (r = -1 ∧ ∀ o ∈ objs, o.1 ≠ p) ∨ ∃ k : Nat, ∃ h : k < objs.length, r = (k : Int) ∧ (objs[k]).1 = p
section
variable {Q : Nat → Prop} (S : HS) (vw vc vo : Value) (f : Nat → Value) (w : World) (H : RIn Q w S vw vc f vo)
include H
set_option maxHeartbeats 1600000 in
set_option maxRecDepth 100000 in
theorem rfind_ok (p : Int) (hl : S.objs.length ≤ 4096) :
    Calls Tryz.prog 93 #[.agg (rcells vw vc f vo), .int .i64 p] w fun e w' => (∃ r, e = .returned (.int .i64 r) ∧ IsAt S.objs p r) ∧ Below w.heap.size w w' := by
  obtain ⟨Ao, co, rfl, -⟩ := H.objs.len
  replace H := Lib.hid H
  go_enter Tryz.func93, Tryz.ntmps93
  go_wp2_with (refine wpList_new rfl (.box 40 (.tmp 0)) rfl w.heap.size rfl 40 (rcells vw vc f (.slice Ao S.objs.length co)) (by kernel_rfl) ?_; intro w1 hs1 hb1 hB1; refine stop_here ?_)
  have HX := Lib.hid (show RBox Q w1 w.heap.size S vw vc f (.slice Ao S.objs.length co) from ⟨hB1, H.out.below hb1⟩)
  have c6 := HX.out.cells.2.2.2.2.2.2
  clear hs1 hB1
  refine go_on ?_
  go_wp2_with fail
  go_loop [5] (fun i => ∃ k : Nat, k ≤ S.objs.length ∧ i = .int .i64 k ∧ Hid (∀ j (hj : j < S.objs.length), j < k → (S.objs[j]).1 ≠ p)) (fun i => S.objs.length - (intOf i).toNat)
  case atStart => exact ⟨0, by omega, rfl, Lib.hid (fun j hj h => by omega)⟩
  case round =>
    obtain ⟨k, hk, rfl, hno⟩ := hrel
    by_cases hlt : k < S.objs.length
    · have t0 : (k : Int) < (S.objs.length : Int) := by omega
      obtain ⟨b, o, rfl, _, hc⟩ := HX.out.rin.objs.at_ hlt
      have h0 : w1.cell? ⟨b, o + k * 3, none⟩ = some (.int .i64 (S.objs[k]).1) := hc 0 _ rfl
      obtain ⟨x, hx⟩ : ∃ x, x = (S.objs[k]).1 := ⟨_, rfl⟩
      rw [← hx] at h0
      clear hc
      by_cases he : x = p
      · subst he
        have te : (x == x) = true := by simp
        replace hx := Lib.hid hx
        go_wp2_with fail
        go_ret
        exact ⟨⟨_, rfl, .inr ⟨k, hlt, rfl, hx.out.symm⟩⟩, hb1⟩
      · have te : (x == p) = false := beq_eq_false_iff_ne.2 he
        have hno' : Hid (∀ j (hj : j < S.objs.length), j < k + 1 → (S.objs[j]).1 ≠ p) := Lib.hid fun j hj h => by
          by_cases e : j = k
          · subst e; rw [← hx]; exact he
          · exact hno.out j hj (by omega)
        replace hx := Lib.hid hx
        replace he := Lib.hid he
        go_wp2_with fail
        go_round
        case rel => exact ⟨k + 1, by omega, by go_num, hno'⟩
        case measure => simp [intOf]; omega
    · obtain rfl : k = S.objs.length := by omega
      have t0 : decide (((S.objs.length : Nat) : Int) < ((S.objs.length : Nat) : Int)) = false := by rw [decide_eq_false_iff_not]; omega
      go_wp2_with fail
      go_ret
      exact ⟨⟨_, rfl, .inl ⟨rfl, fun o ho => by obtain ⟨j, hj, rfl⟩ := List.getElem_of_mem ho; exact hno.out j hj hj⟩⟩, hb1⟩
/-- The first span without a class. -/
def IsSpan (cls : List Int) (r : Int) : Prop := (r = -1 ∧ ∀ x ∈ cls, 0 ≤ x) ∨ ∃ k : Nat, ∃ h : k < cls.length, r = (k : Int) ∧ cls[k] < 0 ∧ ∀ j (hj : j < cls.length), j < k → 0 ≤ cls[j]
set_option maxHeartbeats 1600000 in
set_option maxRecDepth 100000 in
theorem rspan_ok (hl : S.cls.length ≤ 4096) :
    Calls Tryz.prog 89 #[.agg (rcells vw vc f vo)] w fun e w' => (∃ r, e = .returned (.int .i64 r) ∧ IsSpan S.cls r) ∧ Below w.heap.size w w' := by
  obtain ⟨Ac, cc, rfl, -⟩ := H.cls.len
  replace H := Lib.hid H
  go_enter Tryz.func89, Tryz.ntmps89
  go_wp2_with (refine wpList_new rfl (.box 40 (.tmp 0)) rfl w.heap.size rfl 40 (rcells vw (.slice Ac S.cls.length cc) f vo) (by kernel_rfl) ?_; intro w1 hs1 hb1 hB1; refine stop_here ?_)
  have HX := Lib.hid (show RBox Q w1 w.heap.size S vw (.slice Ac S.cls.length cc) f vo from ⟨hB1, H.out.below hb1⟩)
  have c1 := HX.out.cells.2.1
  clear hs1 hB1
  refine go_on ?_
  go_wp2_with fail
  go_loop [3] (fun i => ∃ k : Nat, k ≤ S.cls.length ∧ i = .int .i64 k ∧ Hid (∀ j (hj : j < S.cls.length), j < k → 0 ≤ S.cls[j])) (fun i => S.cls.length - (intOf i).toNat)
  case atStart => exact ⟨0, by omega, rfl, Lib.hid (fun j hj h => by omega)⟩
  case round =>
    obtain ⟨k, hk, rfl, hno⟩ := hrel
    by_cases hlt : k < S.cls.length
    · have t0 : (k : Int) < (S.cls.length : Int) := by omega
      obtain ⟨b, o, rfl, _, hc⟩ := HX.out.rin.cls.at_ hlt
      obtain ⟨x, hx⟩ : ∃ x, x = S.cls[k] := ⟨_, rfl⟩
      rw [← hx] at hc
      replace hc : w1.cell? ⟨b, o + k, none⟩ = some (.int .i64 x) := hc
      by_cases he : x < 0
      · have hx' := Lib.hid (show S.cls[k] < 0 by rw [← hx]; exact he)
        replace hx := Lib.hid hx
        go_wp2_with fail
        go_ret
        exact ⟨⟨_, rfl, .inr ⟨k, hlt, rfl, hx'.out, hno.out⟩⟩, hb1⟩
      · have hno' : Hid (∀ j (hj : j < S.cls.length), j < k + 1 → 0 ≤ S.cls[j]) := Lib.hid fun j hj h => by
          by_cases e : j = k
          · subst e; rw [← hx]; omega
          · exact hno.out j hj (by omega)
        replace hx := Lib.hid hx
        go_wp2_with fail
        go_round
        case rel => exact ⟨k + 1, by omega, by go_num, hno'⟩
        case measure => simp [intOf]; omega
    · obtain rfl : k = S.cls.length := by omega
      have t0 : decide (((S.cls.length : Nat) : Int) < ((S.cls.length : Nat) : Int)) = false := by rw [decide_eq_false_iff_not]; omega
      go_wp2_with fail
      go_ret
      exact ⟨⟨_, rfl, .inl ⟨rfl, fun x ho => by obtain ⟨j, hj, rfl⟩ := List.getElem_of_mem ho; exact hno.out j hj hj⟩⟩, hb1⟩
end
set_option maxHeartbeats 1600000 in
set_option maxRecDepth 100000 in
theorem rover_ok (mask n : Int) (w : World) (h0 : 0 ≤ mask) (h1 : mask ≤ 255) (hn : 1 ≤ n) (h6 : n ≤ 6) :
    Calls Tryz.prog 85 #[.int .u8 mask, .int .i64 n] w fun e w' => e = .returned (.bool (decide (mask / 2 ^ n.toNat ≠ 0))) ∧ w = w' := by
  obtain ⟨N, rfl⟩ : ∃ N : Nat, n = (N : Int) := ⟨n.toNat, by omega⟩
  rw [Int.toNat_natCast]
  obtain ⟨q, hq⟩ : ∃ q, q = decide (mask / 2 ^ N ≠ 0) := ⟨_, rfl⟩
  rw [← hq]
  replace hq := Lib.hid hq
  go_enter Tryz.func85, Tryz.ntmps85
  go_wp2_with fail
  go_loop [5, 6] (fun m i => ∃ (k : Nat) (x : Int), k ≤ N ∧ i = .int .i64 k ∧ m = .int .i64 x ∧ 0 ≤ x ∧ x ≤ 255 ∧ Hid (x = mask / 2 ^ k)) (fun _ i => N - (intOf i).toNat)
  case atStart => exact ⟨0, mask, by omega, rfl, rfl, h0, h1, Lib.hid (by simp)⟩
  case round =>
    obtain ⟨k, x, hk, rfl, rfl, x0, x1, hx⟩ := hrel
    by_cases hlt : k < N
    · have t0 : (k : Int) < (N : Int) := by omega
      go_wp2_with fail
      go_round
      case rel => exact ⟨k + 1, x / 2, by omega, by go_num, rfl, by omega, by omega, Lib.hid (by rw [hx.out, Int.pow_succ, ← Int.ediv_ediv_of_nonneg (Int.le_of_lt (Int.pow_pos (by omega)))])⟩
      case measure => simp [intOf]; omega
    · obtain rfl : k = N := by omega
      have t0 : decide ((k : Int) < (k : Int)) = false := by rw [decide_eq_false_iff_not]; omega
      go_wp2_with fail
      go_ret
      exact ⟨ret_bool (by rw [hq.out, decide_eq_decide, ← hx.out]; omega), rfl⟩
end Go.Proofs.YtcaboknbdamlhaaGreatDoor
namespace Go.Proofs.YtcaboknbdamlhaaGreatDoor
open Go.RowKit Go.Shelf

theorem i64x_info : (Tryz.prog.info? 2).map (fun i => (i.zero, i.size, i.bytes)) = some (some (.int .i64 0), 1, 8) := by kernel_rfl
/-- What a function of the reference hands back: a heap. -/
def RetH (Q : Nat → Prop) (w : World) (S : HS) (e : Ending) (w' : World) : Prop := ∃ vw vc f vo, e = .returned (.agg (rcells vw vc f vo)) ∧ RIn Q w' S vw vc f vo ∧ Below w.heap.size w w'
def RetHE (Q : Nat → Prop) (w : World) (S : HS) (er : Int) (e : Ending) (w' : World) : Prop := ∃ vw vc f vo, e = .returned (.tuple #[.agg (rcells vw vc f vo), .int .i64 er]) ∧ RIn Q w' S vw vc f vo ∧ Below w.heap.size w w'
section
variable {Q : Nat → Prop} {w w' : World} {S S' : HS} {vw vc vo vw' vc' vo' : Value} {f f' : Nat → Value} {g g' : Nat}
/-- Another variable is stored to. -/
theorem RBox.other (H : RBox Q w g S vw vc f vo) {t : TypeId} {cs : Array Value} (hB : Blk w g' t cs) (hs : Slices cs) (hg : w.grownBy w' (some g')) (hne : g ≠ g') : RBox Q w' g S vw vc f vo :=
  ⟨H.blk.grown hg (fun e => hne (by injection e)), H.rin.far hB hs hg⟩
/-- The whole variable is stored to. -/
theorem RBox.all (hB : Blk w g 40 (rcells vw vc f vo)) (hs : Slices (rcells vw vc f vo)) (hg : w.grownBy w' (some g)) (hB' : Blk w' g 40 (rcells vw' vc' f' vo')) (H : RIn Q w S' vw' vc' f' vo') : RBox Q w' g S' vw' vc' f' vo' :=
  ⟨hB', H.far hB hs hg⟩
end
set_option maxHeartbeats 3200000 in
set_option maxRecDepth 100000 in
theorem rfill_ok {Q : Nat → Prop} (S : HS) (vw vc vo : Value) (f : Nat → Value) (w : World) (H : RIn Q w S vw vc f vo) (hQ : New Q w) (p N : Nat) (x : Int) (hl : S.words.length ≤ 5000) (hp : p + N ≤ S.words.length) :
    Calls Tryz.prog 91 #[.agg (rcells vw vc f vo), .int .i64 (p : Int), .int .i64 (N : Int), .int .i64 x] w (RetH Q w { S with words := fillW S.words p x N }) := by
  obtain ⟨Aw, cw, rfl, -⟩ := H.words.len
  replace H := Lib.hid H
  replace hQ := Lib.hid hQ
  have SZ := Lib.hid rh_size
  go_enter Tryz.func91, Tryz.ntmps91
  go_wp2_with (first
    | (refine wpList_new rfl (.box 40 (.tmp 0)) rfl w.heap.size rfl 40 (rcells (.slice Aw S.words.length cw) vc f vo) (by kernel_rfl) ?_; intro w1 hs1 hb1 hB1)
    | (refine wpList_new rfl (.alloc 40) rfl (w.heap.size + 1) hs1 40 rnil (by kernel_rfl) ?_; intro w2 hs2 hb2 hB2; refine stop_here ?_))
  have HX := Lib.hid ((show RBox Q w1 w.heap.size S (.slice Aw S.words.length cw) vc f vo from ⟨hB1, H.out.below hb1⟩).below (hb2.mono (by omega)))
  have HR := Lib.hid hB2
  have hb2 := Lib.hid (hb1.trans (hb2.mono (by omega)))
  have c0 := HX.out.cells.1
  have hz0 : w.heap.size < w2.heap.size := by omega
  have hz2 := Lib.hid hs2
  have hown0 := Lib.hid (World.ownsRow_made (e := 2) (size := 1) w2 (base := w2.heap.size) #[] 0 (Nat.le_refl _) (Nat.zero_le _) rfl)
  have hrw := Lib.hid HX.out.rin.words
  have SL := Lib.hid HX.out.rin.slices
  clear hs1 hB1 hb1 hB2 hs2
  refine go_on ?_
  go_wp2_with (at_builtin; refine wpList_append_all rfl (.tmp 11) (.tmp 13) _ rfl w2.heap.size 2 _ 8 Tryz.underlying35 i64x_info rfl _ 0 [] rfl hown0.out i64e _ S.words (fun _ => rfl) rfl (hrw.out.below (below_alloc _ _)) (by unfold maxLen; omega) (by omega) (by simp) ?_; intro v4 w4 hown4 hg4 hat4; refine stop_here ?_)
  have hb24 : Below w2.heap.size w2 w4 := (below_alloc w2 _).grown hg4 (by simp) (fun k hk => by cases hk; exact Nat.le_refl _)
  have hown4 : w4.ownsRow w2.heap.size 2 1 v4 S.words.length (S.words.map i64e) := by simpa using hown4
  obtain ⟨A4, c4, rfl, -⟩ := own_form hown4
  replace hown4 := Lib.hid hown4
  replace hb24 := Lib.hid hb24
  clear hown0 hrw hg4 hat4 c0
  refine go_on ?_
  go_wp2_with fail
  go_loopw [10] (fun i wr => ∃ k : Nat, k ≤ N ∧ i = .int .i64 k ∧ Hid (wr.ownsRow w2.heap.size 2 1 (.slice A4 S.words.length c4) S.words.length ((fillW S.words p x k).map i64e)) ∧ Hid (Below w2.heap.size w2 wr)) (fun i _ => N - (intOf i).toNat)
  case atStart => exact ⟨0, by omega, rfl, hown4, hb24⟩
  case round =>
    clear hown4 hb24
    obtain ⟨k, hk, rfl, hown, hbr⟩ := hrel
    by_cases hlt : k < N
    · have t0 : (k : Int) < (N : Int) := by omega
      have hpk : p + k < S.words.length := by omega
      have q0 : (0 : Int) ≤ (p : Int) + (k : Int) := by omega
      have q1 : (p : Int) + (k : Int) < (S.words.length : Int) := by omega
      obtain ⟨b, rfl, hb2', hbl⟩ := own_addr hown.out (by omega)
      have hc := hown.out.cellAt (p + k) (by omega)
      have hz := hown.out.frozenAt (p + k)
      obtain ⟨y, hy⟩ : ∃ y, y = (fillW S.words p x k).getD (p + k) 0 := ⟨_, rfl⟩
      have hyl : p + k < (fillW S.words p x k).length := by rw [fillW_len]; exact hpk
      replace hc : wr.cell? ⟨b, p + k, none⟩ = some (.int .i64 y) := by
        rw [hc, hy]
        simp [List.getD, List.getElem?_eq_getElem hyl]
      have hown' : Hid ((wr.setCell ⟨b, p + k, none⟩ (.int .i64 x)).ownsRow w2.heap.size 2 1 (.slice (some ⟨b, 0, none⟩) S.words.length c4) S.words.length ((fillW S.words p x (k + 1)).map i64e)) := Lib.hid (by
        have := (hown.out.stored (p + k) (.int .i64 x)).1
        rw [show ((fillW S.words p x k).map i64e).set (p + k) (.int .i64 x) = (fillW S.words p x (k + 1)).map i64e by show _ = ((fillW S.words p x k).set (p + k) x).map i64e; rw [List.map_set]] at this
        exact this)
      have hbr' := Lib.hid (hbr.out.setCell (p := ⟨b, p + k, none⟩) hb2' (.int .i64 x))
      clear hy hyl hown
      go_wp2_with fail
      go_roundw
      case rel => exact ⟨k + 1, by omega, by go_num, hown', hbr'⟩
      case measure => simp [intOf]; omega
    · obtain rfl : k = N := by omega
      have t0 : decide ((k : Int) < (k : Int)) = false := by rw [decide_eq_false_iff_not]; omega
      have hX := HX.out.below hbr.out
      have hR := HR.out.below hbr.out HR.out.lt
      have hrd : Rd i64e wr (.slice A4 S.words.length c4) (fillW S.words p x k) := by
        have h9 := hown.out
        rw [← fillW_len S.words p x k] at h9 ⊢
        exact Rd.of_own h9
      have hX2 := hX.set_words hrd (fun _ b e => hQ.out b (by have := (hown.out.lt b e).1; have := hz2.out; omega))
      have c0 := hX.cells.1
      have z0 := hX.blk.frozen 0
      have hR2 := Lib.hid (hR.far (p := ⟨w.heap.size, 0, none⟩) (by show w.heap.size + 1 ≠ w.heap.size; omega) (.slice A4 S.words.length c4))
      have hb3 := Lib.hid ((hb2.out.trans (hbr.out.mono hb2.out.size)).setCell (p := ⟨w.heap.size, 0, none⟩) (Nat.le_refl _) (.slice A4 S.words.length c4))
      have O1 := Lib.hid (slices_one hX2.rin.slices)
      replace hX2 := Lib.hid hX2
      clear hX hR hrd hown
      go_wp2_with (first
        | (refine wpList_load_blk rfl 40 (.tmp 4) rfl w.heap.size rfl 40 (rcells (.slice A4 S.words.length c4) vc f vo) hX2.out.blk _ Tryz.underlying40 rfl SZ.out ?_)
        | (refine wpList_store_blk rfl 40 (.tmp 8) (.tmp 28) rfl (w.heap.size + 1) rfl (rcells (.slice A4 S.words.length c4) vc f vo) rfl 40 rnil hR2.out SZ.out rfl O1.out ?_; intro w9 hR9 hg9 hs9))
      refine bodyPost_ret (res_cell rfl rfl hR9 Tryz.underlying40 rfl SZ.out) rfl ⟨_, _, _, _, rfl, hX2.out.rin.far hR2.out rnil_slices hg9, hb3.out.grown hg9 hb3.out.size (fun k hk => by cases hk; omega)⟩

theorem RIn.len0 {Q : Nat → Prop} {w : World} {S : HS} {vw vc vo : Value} {f : Nat → Value} (H : RIn Q w S vw vc f vo) (I : Inv0 S) : S.words.length ≤ 5000 ∧ S.cls.length ≤ 512 ∧ S.objs.length ≤ 4096 := by
  have := I.wl
  have := I.cl
  have := I.n2
  have := I.objs_len
  omega
theorem at_obj {objs : List (Int × Int × Int)} (hs : objs.Pairwise fun a b => a.1 < b.1) {k : Nat} (hk : k < objs.length) : objs[k] ∈ objs := List.getElem_mem hk
set_option maxHeartbeats 3200000 in
set_option maxRecDepth 100000 in
theorem rload_ok {Q : Nat → Prop} (S : HS) (vw vc vo : Value) (f : Nat → Value) (w : World) (H : RIn Q w S vw vc f vo) (I : Inv0 S) (p fd : Int) :
    Calls Tryz.prog 62 #[.agg (rcells vw vc f vo), .int .i64 p, .int .i64 fd] w fun e w' => e = .returned (.tuple #[.int .i64 (sLoad S p fd).1, .int .i64 (sLoad S p fd).2]) ∧ Below w.heap.size w w' := by
  have hlen := H.len0 I
  obtain ⟨Ao, co, rfl, -⟩ := H.objs.len
  obtain ⟨Aw, cw, rfl, -⟩ := H.words.len
  have SZ := Lib.hid rh_size
  replace H := Lib.hid H
  obtain ⟨r, hr⟩ : ∃ r, r = sLoad S p fd := ⟨_, rfl⟩
  rw [← hr]
  replace hr := Lib.hid hr
  replace I := Lib.hid I
  go_enter Tryz.func62, Tryz.ntmps62
  go_wp2_with (refine wpList_new rfl (.box 40 (.tmp 0)) rfl w.heap.size rfl 40 (rcells (.slice Aw S.words.length cw) vc f (.slice Ao S.objs.length co)) (by kernel_rfl) ?_; intro w1 hs1 hb1 hB1; refine stop_here ?_)
  have HX := Lib.hid (show RBox Q w1 w.heap.size S (.slice Aw S.words.length cw) vc f (.slice Ao S.objs.length co) from ⟨hB1, H.out.below hb1⟩)
  clear hs1 hB1
  refine go_on ?_
  go_wp2_with (refine wpList_load_blk rfl 40 (.tmp 3) rfl w.heap.size rfl 40 (rcells (.slice Aw S.words.length cw) vc f (.slice Ao S.objs.length co)) HX.out.blk _ Tryz.underlying40 rfl SZ.out ?_)
  refine (rfind_ok S _ _ _ _ _ HX.out.rin p hlen.2.2).mono ?_
  rintro e w2 ⟨⟨at_, rfl, hat⟩, hb2⟩
  have HX2 := Lib.hid (HX.out.below hb2)
  have b2 := below_all hb1 hb2
  have c6 := HX2.out.cells.2.2.2.2.2.2
  have c0 := HX2.out.cells.1
  clear HX hb2 hb1
  rcases hat with ⟨rfl, hno⟩ | ⟨k, hk, rfl, hp⟩
  · have hv : r = (0, 11) := by
      rw [hr.out]
      unfold sLoad sThere
      rw [size_none hno]
      simp
    subst hv
    replace hno := Lib.hid hno
    go_wp2_with fail
    go_ret2
    exact ⟨rfl, b2⟩
  · obtain ⟨b, o, rfl, _, hc⟩ := HX2.out.rin.objs.at_ hk
    have c1 := hc 1 _ rfl
    have hmem : S.objs[k] ∈ S.objs := List.getElem_mem hk
    have hin := fun h0 h1 => I.out.load_in (f := fd) hmem h0 h1
    have hou := fun h0 => I.out.load_out (f := fd) hmem h0
    have hwi := fun h0 h1 => I.out.word_in (f := fd) hmem h0 h1
    have hn6 := (I.out.ob _ hmem).2.1
    obtain ⟨oo, ho⟩ : ∃ oo, oo = S.objs[k] := ⟨_, rfl⟩
    rw [← ho] at c1 hin hou hwi hp hn6
    obtain ⟨q, n, mk⟩ := oo
    dsimp only at c1 hin hou hwi hp hn6
    subst hp
    have k0 : (0 : Int) ≤ (k : Int) := by omega
    have k1 : (k : Int) < (S.objs.length : Int) := by omega
    clear hc ho hmem
    by_cases h0 : fd < 0
    · have hv : r = (0, 11) := by rw [hr.out, hou (.inl h0)]
      subst hv
      replace hin := Lib.hid hin
      replace hou := Lib.hid hou
      replace hwi := Lib.hid hwi
      have t0 : decide (fd < 0) = true := decide_eq_true h0
      go_wp2_with fail
      go_ret2
      exact ⟨rfl, b2⟩
    · by_cases h1 : n ≤ fd
      · have hv : r = (0, 11) := by rw [hr.out, hou (.inr h1)]
        subst hv
        replace hin := Lib.hid hin
        replace hou := Lib.hid hou
        replace hwi := Lib.hid hwi
        have t0 : decide (fd < 0) = false := decide_eq_false h0
        have t1 : decide (n ≤ fd) = true := decide_eq_true h1
        go_wp2_with fail
        go_ret2
        exact ⟨rfl, b2⟩
      · have hv := hin (by omega) (by omega)
        obtain ⟨z1, z2, z3⟩ := hwi (by omega) (by omega)
        obtain ⟨m, hm⟩ : ∃ m : Nat, q + fd = (m : Int) := ⟨(q + fd).toNat, by omega⟩
        rw [hm, Int.toNat_natCast] at hv z2
        obtain ⟨bw, ow, rfl, _, hcw⟩ := HX2.out.rin.words.at_ z2
        have hxv : S.words.getD m 0 = S.words[m] := by simp [List.getD, List.getElem?_eq_getElem z2]
        rw [hxv, ← hr.out] at hv
        obtain ⟨x, hx⟩ : ∃ x, x = S.words[m] := ⟨_, rfl⟩
        rw [← hx] at hcw hv
        subst hv
        replace hcw : w2.cell? ⟨bw, ow + m, none⟩ = some (.int .i64 x) := hcw
        have hml : (m : Int) < (S.words.length : Int) := by omega
        replace hin := Lib.hid hin
        replace hou := Lib.hid hou
        replace hwi := Lib.hid hwi
        clear hx hxv
        have t0 : decide (fd < 0) = false := decide_eq_false h0
        have t1 : decide (n ≤ fd) = false := decide_eq_false h1
        go_wp2_with fail
        go_ret2
        exact ⟨rfl, b2⟩
set_option maxHeartbeats 3200000 in
set_option maxRecDepth 100000 in
theorem rstore_ok {Q : Nat → Prop} (S : HS) (vw vc vo : Value) (f : Nat → Value) (w : World) (H : RIn Q w S vw vc f vo) (hQ : New Q w) (I : Inv0 S) (p fd x : Int) :
    Calls Tryz.prog 65 #[.agg (rcells vw vc f vo), .int .i64 p, .int .i64 fd, .int .i64 x] w (RetHE Q w (sStore S p fd x) (sThere S p fd)) := by
  have hlen := H.len0 I
  have SZ := Lib.hid rh_size
  have O0 := Lib.hid (slices_one H.slices)
  replace H := Lib.hid H
  replace hQ := Lib.hid hQ
  have hth : (sThere S p fd = 11 ∧ sLoad S p fd = (0, 11) ∧ sStore S p fd x = S) ∨ (sThere S p fd = 0 ∧ (sLoad S p fd).2 = 0 ∧ ∃ q : Nat, p + fd = (q : Int) ∧ q + 1 ≤ S.words.length ∧ sStore S p fd x = { S with words := fillW S.words q x 1 }) := by
    rcases I.there_cases p fd with ⟨h, _⟩ | ⟨h, o, ho, rfl, _, f0, f1⟩
    · exact .inl ⟨h, by unfold sLoad; rw [h]; rfl, by unfold sStore; rw [h]; rfl⟩
    · obtain ⟨z1, z2, z3⟩ := I.word_in ho f0 f1
      refine .inr ⟨h, by unfold sLoad; rw [h]; rfl, (o.1 + fd).toNat, by omega, by omega, ?_⟩
      unfold sStore
      rw [h]
      rfl
  have hL := Lib.hid (fun wx (HX : RIn Q wx S vw vc f vo) => rload_ok S vw vc vo f wx HX I p fd)
  clear I
  obtain ⟨T, hT⟩ : ∃ T, T = sStore S p fd x := ⟨_, rfl⟩
  rw [← hT] at hth ⊢
  obtain ⟨r, hr⟩ : ∃ r, r = sLoad S p fd := ⟨_, rfl⟩
  rw [← hr] at hth hL
  obtain ⟨t, ht⟩ : ∃ t, t = sThere S p fd := ⟨_, rfl⟩
  rw [← ht] at hth ⊢
  clear hT hr ht
  obtain ⟨r1, r2⟩ := r
  dsimp only at hL hth
  go_enter Tryz.func65, Tryz.ntmps65
  go_wp2_with (first
    | (refine wpList_new rfl (.box 40 (.tmp 0)) rfl w.heap.size rfl 40 (rcells vw vc f vo) (by kernel_rfl) ?_; intro w1 hs1 hb1 hB1)
    | (refine wpList_new rfl (.alloc 40) rfl (w.heap.size + 1) hs1 40 rnil (by kernel_rfl) ?_; intro w2 hs2 hb2 hB2; refine stop_here ?_))
  have HX := Lib.hid ((show RBox Q w1 w.heap.size S vw vc f vo from ⟨hB1, H.out.below hb1⟩).below (hb2.mono (by omega)))
  have HR := Lib.hid hB2
  have hb2 := hb1.trans (hb2.mono (by omega))
  have hne : Hid (w.heap.size ≠ w.heap.size + 1) := Lib.hid (by omega)
  clear hs1 hB1 hb1 hB2 hs2
  refine go_on ?_
  go_wp2_with (refine wpList_load_blk rfl 40 (.tmp 4) rfl w.heap.size rfl 40 (rcells vw vc f vo) HX.out.blk _ Tryz.underlying40 rfl SZ.out ?_)
  refine (hL.out _ HX.out.rin).mono ?_
  rintro e w3 ⟨rfl, hb3⟩
  have HX3 := Lib.hid (HX.out.below hb3)
  have HR3 := Lib.hid (HR.out.below hb3 HR.out.lt)
  have b3 := below_all hb2 hb3
  clear HX HR hb3 hb2
  rcases hth with ⟨rfl, he, rfl⟩ | ⟨rfl, rfl, q, hq, hql, rfl⟩
  · cases he
    go_wp2_with (first
      | (refine wpList_load_blk rfl 40 (.tmp 4) rfl w.heap.size rfl 40 (rcells vw vc f vo) HX3.out.blk _ Tryz.underlying40 rfl SZ.out ?_)
      | (refine wpList_store_blk rfl 40 (.tmp 8) (.tmp 21) rfl (w.heap.size + 1) rfl (rcells vw vc f vo) rfl 40 rnil HR3.out SZ.out rfl O0.out ?_; intro w9 hR9 hg9 hs9))
    refine bodyPost_ret (res_cell_tmp rfl rfl hR9 Tryz.underlying40 rfl SZ.out) rfl ⟨_, _, _, _, rfl, HX3.out.rin.far HR3.out rnil_slices hg9, b3.grown hg9 b3.size (fun k hk => by cases hk; omega)⟩
  · go_wp2_with (refine wpList_load_blk rfl 40 (.tmp 4) rfl w.heap.size rfl 40 (rcells vw vc f vo) HX3.out.blk _ Tryz.underlying40 rfl SZ.out ?_)
    refine (rfill_ok S _ _ _ _ _ HX3.out.rin (hQ.out.le b3.size) q 1 x hlen.1 hql).mono ?_
    rintro e w4 ⟨vw4, vc4, f4, vo4, rfl, hr4, hb4⟩
    have HR4 := Lib.hid (HR3.out.below hb4 HR3.out.lt)
    have b4 := below_all b3 hb4
    have O4 := Lib.hid (slices_one hr4.slices)
    replace hr4 := Lib.hid hr4
    clear HX3 HR3 hb4 b3
    go_wp2_with (refine wpList_store_blk rfl 40 (.tmp 8) (.tmp 28) rfl (w.heap.size + 1) rfl (rcells vw4 vc4 f4 vo4) rfl 40 rnil HR4.out SZ.out rfl O4.out ?_; intro w9 hR9 hg9 hs9)
    refine bodyPost_ret (res_cell_tmp rfl rfl hR9 Tryz.underlying40 rfl SZ.out) rfl ⟨_, _, _, _, rfl, hr4.out.far HR4.out rnil_slices hg9, b4.grown hg9 b4.size (fun k hk => by cases hk; omega)⟩
end Go.Proofs.YtcaboknbdamlhaaGreatDoor
namespace Go.Proofs.YtcaboknbdamlhaaGreatDoor
open Go.RowKit Go.Shelf
theorem rarr_row : Tryz.prog.underlying 37 = some (.array 4 36) := by kernel_rfl
theorem rarr_size : (Tryz.prog.info? 37).map (·.size) = some 4 := by kernel_rfl
theorem rh_len : (Tryz.prog.info? 40).map (·.size) = some 7 := by kernel_rfl
theorem wp_store_blk {P : Program} {w : World} {o : Oper} {a : Act} {Q : Exit → Act → World → Prop} {K : Act → World → Prop} (ty : TypeId) (x y : Operand) (ho : o.op = .store ty x y)
    (g : Nat) (hx : a.eval x = .pointer (some ⟨g, 0, none⟩)) (c' : Array Value) (hy : a.eval y = .agg c') (t : TypeId) (c : Array Value) (hg : Blk w g t c)
    (hi : (P.info? ty).map (·.size) = some c'.size) (hsz : c.size = c'.size) (h1 : c'.all (·.oneCell') = true)
    (h : ∀ w', Blk w' g t c' → w.grownBy w' (some g) → w'.heap.size = w.heap.size → K (a.put o.dst undef) w') : Oper.wp P o a w K Q := by
  refine wp_store_row ty x y ho g c' hx hy t c hg hi hsz h1 (h _ ?_ ?_ (size_setRow _ _ _))
  · exact setRow_heap w g c c' t (0, 0) hg
  · exact ⟨rfl, rfl, rfl, by simp, fun k _ hne => setRow_other w g k c' (fun e => hne (by rw [e]))⟩
/-- One alone may come up, behind the last store. -/
theorem wpAnyT_late {P : Program} {md : Region.Mode} {ops : Array Oper} {Q : Exit → Act → World → Prop} {S : World → Prop} {T i : Nat} {o : Oper} {fuel : Nat} {listed : Array Bool} {a : Act} {w : World} (hi : ops[i]? = some o) (hr : Region.ready md ops listed = [i]) (hw : Region.wanted o (yielded ops a.tmps) = true)
    (hT : listed.getD T false = true) (h : ∀ K' : Act → World → Prop, Shut (∀ a' w', wpAnyT P md ops Q T S fuel (listed.setIfInBounds i true) a' w' → K' a' w') → Oper.wp P o a w K' Q) : wpAnyT P md ops Q T S (fuel + 1) listed a w := by
  refine ⟨fun h0 => (by rw [hr] at h0; cases h0), fun j hj => ?_⟩
  rw [hr] at hj
  obtain rfl : j = i := by simpa using hj
  unfold wpOp
  rw [hi]
  simp only
  rw [if_pos hw]
  exact .inl (h _ fun a' w' h1 => ⟨fun _ h4 => absurd (hT.symm.trans h4) (by decide), h1⟩)
theorem sRef_clear {S : HS} (I : Inv0 S) (p : Int) : (sThere S p 0 = 11 ∧ sClear S p = S ∧ ∀ o ∈ S.objs, o.1 ≠ p) ∨ ∃ o ∈ S.objs, o.1 = p ∧ sThere S p 0 = 0 ∧ sClear S p = { S with words := fillW S.words p.toNat 0 o.2.1.toNat } ∧ 1 ≤ p ∧ p.toNat + o.2.1.toNat ≤ S.words.length ∧ 1 ≤ o.2.1 ∧ o.2.1 ≤ 6 := by
  rcases I.there_cases p 0 with ⟨h, hh⟩ | ⟨h, o, ho, rfl, hs, _⟩
  · refine .inl ⟨h, by unfold sClear; rw [h]; rfl, ?_⟩
    intro o ho e
    have := I.there_in ho (Int.le_refl 0) (by have := (I.ob o ho).1; omega)
    rw [e, h] at this
    cases this
  · obtain ⟨a1, a2, _, _, a5⟩ := I.ob o ho
    have := a5.1
    have h2 := a5.ends.2
    have h3 := (class_ge a1 a2).2.2
    have h4 := I.wl
    refine .inr ⟨o, ho, rfl, h, by unfold sClear; rw [h, hs]; rfl, by omega, by omega, a1, a2⟩
end Go.Proofs.YtcaboknbdamlhaaGreatDoor
namespace Go.Proofs.YtcaboknbdamlhaaGreatDoor
open Go.RowKit Go.Shelf
theorem span_has {S : HS} (I : Inv0 S) {r : Int} (h : IsSpan S.cls r) : decide (0 ≤ r) = decide ((-1 : Int) ∈ S.cls) := by
  rw [decide_eq_decide]
  rcases h with ⟨rfl, h⟩ | ⟨k, hk, rfl, h1, _⟩
  · constructor
    · intro h; omega
    · intro hm; have := h _ hm; omega
  · have := I.cb _ (List.getElem_mem hk)
    have e : S.cls[k] = -1 := by omega
    exact ⟨fun _ => e ▸ List.getElem_mem hk, fun _ => by omega⟩
theorem span_ix {S : HS} (I : Inv0 S) {r : Int} (h : IsSpan S.cls r) (hx : (-1 : Int) ∈ S.cls) : r = ((S.cls.idxOf (-1) : Nat) : Int) := by
  rcases h with ⟨rfl, h⟩ | ⟨k, hk, rfl, h1, h2⟩
  · have := h _ hx; omega
  · have := I.cb _ (List.getElem_mem hk)
    have e : S.cls[k] = -1 := by omega
    have hi := List.idxOf_lt_length_of_mem hx
    have he := List.getElem_idxOf hi
    rcases Nat.lt_trichotomy k (S.cls.idxOf (-1)) with h3 | h3 | h3
    · exact absurd e (by simpa using List.not_of_lt_findIdx (p := (· == (-1 : Int))) h3)
    · rw [← h3]
    · have := h2 _ hi h3; omega
set_option maxHeartbeats 3200000 in
set_option maxRecDepth 100000 in
theorem rfits_ok {Q : Nat → Prop} (S : HS) (vw vc vo : Value) (f : Nat → Value) (w : World) (H : RIn Q w S vw vc f vo) (I : Inv0 S) (n : Int) :
    Calls Tryz.prog 86 #[.agg (rcells vw vc f vo), .int .i64 n] w fun e w' => e = .returned (.bool (sFits S n)) ∧ Below w.heap.size w w' := by
  have hlen := H.len0 I
  have SZ := Lib.hid rh_size
  obtain ⟨r, hr⟩ : ∃ r, r = sFits S n := ⟨_, rfl⟩
  rw [← hr]
  unfold sFits at hr
  by_cases h1 : 1 ≤ n
  · by_cases h6 : n ≤ 6
    · obtain ⟨e1, e2⟩ := classNat_eq h1 h6
      obtain ⟨c, hc⟩ : ∃ c, c = classNat n := ⟨_, rfl⟩
      rw [← hc] at e1 e2 hr
      have HO := Lib.hid (fun wx => show Calls Tryz.prog 87 #[.int .i64 n] wx fun e w' => e = .returned (.int .i64 (c : Int)) ∧ wx = w' by rw [← e1]; exact rof_ok n wx)
      rw [decide_eq_true h1, decide_eq_true h6] at hr
      obtain ⟨Af, cf, ef, -⟩ := (H.fr c e2).len
      have hfl := I.free_len e2
      have k0 : (0 : Int) ≤ (c : Int) := by omega
      have k1 : (c : Int) < 4 := by omega
      obtain ⟨L, hL⟩ : ∃ L, L = (S.free c).length := ⟨_, rfl⟩
      rw [← hL] at ef hr hfl
      replace H := Lib.hid H
      replace I := Lib.hid I
      replace ef := Lib.hid ef
      replace hL := Lib.hid hL
      replace hc := Lib.hid hc
      replace e1 := Lib.hid e1
      rcases L with _ | L
      · obtain ⟨b, hb⟩ : ∃ b, b = decide ((-1 : Int) ∈ S.cls) := ⟨_, rfl⟩
        rw [← hb] at hr
        replace hr := Lib.hid hr
        replace hb := Lib.hid hb
        go_enter Tryz.func86, Tryz.ntmps86
        go_wp2_with (refine wpList_new rfl (.box 40 (.tmp 0)) rfl w.heap.size rfl 40 (rcells vw vc f vo) (by kernel_rfl) ?_; intro w2 hs2 hb2 hB2; refine stop_here ?_)
        have HX := Lib.hid (show RBox Q w2 w.heap.size S vw vc f vo from ⟨hB2, H.out.below hb2⟩)
        clear hs2 hB2
        refine go_on ?_
        have cfc := HX.out.free_cell e2
        rw [ef.out] at cfc
        obtain ⟨d0, d1, d2, d3, d4, d5, d6⟩ := HX.out.cells
        have t6 : decide ((6 : Int) < n) = false := by rw [decide_eq_false_iff_not]; omega
        have t1 : decide (n < 1) = false := by rw [decide_eq_false_iff_not]; omega
        have s6 : ¬ 6 < n := by omega
        have s1 : ¬ n < 1 := by omega
        go_wp2_with (first
          | (go_at_call 87; refine (HO.out _).mono ?_; rintro e w' ⟨rfl, rfl⟩)
          | (go_at_call 89; refine (rspan_ok S _ _ _ _ _ HX.out.rin (by omega)).mono ?_; rintro e w3 ⟨⟨q, rfl, hq⟩, hb3⟩; refine stop_here ?_))
        have hqq : decide (0 ≤ q) = b := by rw [hb.out]; exact span_has I.out hq
        replace hq := Lib.hid hq
        refine go_on ?_
        go_wp2_with fail
        go_ret
        exact ⟨ret_bool (by rw [hr.out]; simp), below_all hb2 hb3⟩
      · replace hr := Lib.hid hr
        go_enter Tryz.func86, Tryz.ntmps86
        go_wp2_with (refine wpList_new rfl (.box 40 (.tmp 0)) rfl w.heap.size rfl 40 (rcells vw vc f vo) (by kernel_rfl) ?_; intro w2 hs2 hb2 hB2; refine stop_here ?_)
        have HX := Lib.hid (show RBox Q w2 w.heap.size S vw vc f vo from ⟨hB2, H.out.below hb2⟩)
        clear hs2 hB2
        refine go_on ?_
        have cfc := HX.out.free_cell e2
        rw [ef.out] at cfc
        have t6 : decide ((6 : Int) < n) = false := by rw [decide_eq_false_iff_not]; omega
        have t1 : decide (n < 1) = false := by rw [decide_eq_false_iff_not]; omega
        have s6 : ¬ 6 < n := by omega
        have s1 : ¬ n < 1 := by omega
        have tl : decide ((0 : Int) < (L : Int) + 1) = true := by rw [decide_eq_true_iff]; omega
        go_wp2_with (go_at_call 87; refine (HO.out _).mono ?_; rintro e w' ⟨rfl, rfl⟩)
        go_ret
        exact ⟨ret_bool (by rw [hr.out]; simp), hb2⟩
    · rw [decide_eq_true h1, decide_eq_false h6] at hr
      replace H := Lib.hid H
      replace hr := Lib.hid hr
      clear I
      have s6 : 6 < n := by omega
      have s1 : ¬ n < 1 := by omega
      go_enter Tryz.func86, Tryz.ntmps86
      go_wp2_with (refine wpList_new rfl (.box 40 (.tmp 0)) rfl w.heap.size rfl 40 (rcells vw vc f vo) (by kernel_rfl) ?_; intro w2 hs2 hb2 hB2; refine stop_here ?_)
      have HX := Lib.hid (show RBox Q w2 w.heap.size S vw vc f vo from ⟨hB2, H.out.below hb2⟩)
      clear hs2 hB2
      refine go_on ?_
      go_wp2_with fail
      go_ret
      exact ⟨ret_bool (by rw [hr.out]; simp), hb2⟩
  · rw [decide_eq_false h1] at hr
    replace H := Lib.hid H
    replace hr := Lib.hid hr
    clear I
    have s1 : n < 1 := by omega
    go_enter Tryz.func86, Tryz.ntmps86
    go_wp2_with (refine wpList_new rfl (.box 40 (.tmp 0)) rfl w.heap.size rfl 40 (rcells vw vc f vo) (by kernel_rfl) ?_; intro w2 hs2 hb2 hB2; refine stop_here ?_)
    have HX := Lib.hid (show RBox Q w2 w.heap.size S vw vc f vo from ⟨hB2, H.out.below hb2⟩)
    clear hs2 hB2
    refine go_on ?_
    go_wp2_with fail
    go_ret
    exact ⟨ret_bool (by rw [hr.out]; simp), hb2⟩

theorem rnew_start (w : World) (N : Nat) {w3 : World} (hb : Below (w.heap.size + 1) (w.alloc (.cells rnil 40)) w3) : True := trivial
set_option maxHeartbeats 3200000 in
set_option maxRecDepth 100000 in
theorem rnew_ok {Q : Nat → Prop} (N : Nat) (w : World) (h2 : N ≤ 512) (hQ : New Q w) :
    Calls Tryz.prog 55 #[.int .i64 (N : Int)] w (RetH Q w (sNew N)) := by
  have SZ := Lib.hid rh_size
  replace hQ := Lib.hid hQ
  have hm1 := fun W => run_make_row' (P := Tryz.prog) 35 2 (.int .i64 0) 8 Tryz.underlying35 i64_row rfl .i64 .i64 (8 * N + 1) (by omega) (by omega) W
  rw [show (((8 * N + 1 : Nat) : Int)) = 8 * (N : Int) + 1 by omega] at hm1
  go_enter Tryz.func55, Tryz.ntmps55
  go_wp2_with (refine wpList_new rfl (.alloc 40) rfl w.heap.size rfl 40 rnil (by kernel_rfl) ?_; intro w1 hs1 hb1 hB1; refine stop_here ?_)
  have HR := Lib.hid hB1
  have hz1 : w.heap.size < w1.heap.size := by omega
  clear hB1 hs1
  refine go_on ?_
  go_wp2_with (first
    | (refine wpList_new rfl (.alloc 40) rfl (w1.heap.size + 1) (by simp) 40 rnil (by kernel_rfl) ?_; intro w3 hs3 hb3 hB3; have HB3 := Lib.hid hB3; clear hB3)
    | (refine wpList_store_blk rfl 40 (.tmp 3) (.tmp 9) rfl (w1.heap.size + 1) rfl (rcells (.slice (some ⟨w1.heap.size, 0, none⟩) (8 * N + 1) (8 * N + 1)) (.slice none 0 0) (fun _ => .slice none 0 0) (.slice none 0 0)) rfl 40 rnil HB3.out SZ.out rfl (by simp [rcells, Value.oneCell']) ?_; intro w4 hB4 hg4 hs4; refine stop_here ?_))
  have hW3 : Rd i64e w3 (.slice (some ⟨w1.heap.size, 0, none⟩) (8 * N + 1) (8 * N + 1)) (List.replicate (8 * N + 1) 0) := by
    have h0 : Blk (w1.alloc (.cells (madeCells #[.int .i64 0] (8 * N + 1)) 2)) w1.heap.size 2 (madeCells #[.int .i64 0] (8 * N + 1)) := Blk.new w1 _ _
    rw [made_one] at h0 hb3
    have h1 := h0.below hb3 (by omega)
    refine ⟨some ⟨w1.heap.size, 0, none⟩, 8 * N + 1, by rw [List.length_replicate], ⟨by rw [List.length_replicate]; exact Nat.le_refl _, by unfold maxLen; omega, fun h => by cases h⟩, fun _ => ⟨_, _, rfl, h1.lt, fun i hi => ?_⟩⟩
    rw [h1.cell]
    have hi' : i < 8 * N + 1 := by simpa using hi
    simp [hi']
  have HX := Lib.hid (show RBox Q w4 (w1.heap.size + 1) ⟨N, List.replicate (8 * N + 1) 0, List.replicate 0 (-1), fun _ => [], []⟩ (.slice (some ⟨w1.heap.size, 0, none⟩) (8 * N + 1) (8 * N + 1)) (.slice none 0 0) (fun _ => .slice none 0 0) (.slice none 0 0) from
    ⟨hB4, (show RIn Q w3 ⟨N, List.replicate (8 * N + 1) 0, List.replicate 0 (-1), fun _ => [], []⟩ (.slice (some ⟨w1.heap.size, 0, none⟩) (8 * N + 1) (8 * N + 1)) (.slice none 0 0) (fun _ => .slice none 0 0) (.slice none 0 0) from ⟨hW3, Rd.none_ _ _, fun _ _ => Rd.none_ _ _, ⟨none, 0, rfl, ⟨Nat.le_refl _, Nat.zero_le _, fun _ => rfl⟩, fun h => absurd h (by simp)⟩, fun _ b e => hQ.out b (by have e' : w1.heap.size = b := (by simpa [Value.ownBlock] using e); omega), fun h => absurd h (by simp), fun j _ h => absurd h (by simp), fun h => absurd h (by simp)⟩).far HB3.out rnil_slices hg4⟩)
  have hb13 : Below w1.heap.size w1 w3 := (below_alloc w1 _).trans (hb3.mono (by omega))
  have HR4 := Lib.hid ((HR.out.below hb13 hz1).grown hg4 (fun e => by injection e with e; omega))
  have hb4 := (below_all hb1 hb13).grown hg4 (below_all hb1 hb13).size (fun k hk => by cases hk; omega)
  have hz4 : w1.heap.size + 1 < w4.heap.size := HX.out.blk.lt
  have hown4 := Lib.hid (World.ownsRow_nil w4 (w1.heap.size + 2) 3 1)
  clear hW3 hs4 hg4 hB4 HB3 hs3 hb3 hb13 HR hb1 hm1
  refine go_on ?_
  go_wp2_with fail
  go_loopw [4] (fun i wr => ∃ (k : Nat) (A : Option Addr) (c : Nat), k ≤ N ∧ i = .int .i64 k ∧ Hid (RBox Q wr (w1.heap.size + 1) ⟨N, List.replicate (8 * N + 1) 0, List.replicate k (-1), fun _ => [], []⟩ (.slice (some ⟨w1.heap.size, 0, none⟩) (8 * N + 1) (8 * N + 1)) (.slice A k c) (fun _ => .slice none 0 0) (.slice none 0 0)) ∧ Hid (wr.ownsRow (w1.heap.size + 2) 3 1 (.slice A k c) k ((List.replicate k (-1 : Int)).map i64e)) ∧ Hid (Blk wr w.heap.size 40 rnil) ∧ w1.heap.size + 1 < wr.heap.size ∧ Below w.heap.size w wr) (fun i _ => N - (intOf i).toNat)
  case atStart => exact ⟨0, none, 0, by omega, rfl, HX, hown4, HR4, hz4, hb4⟩
  case round =>
    clear HX hown4 HR4 hz4 hb4
    obtain ⟨k, A, c, hk, rfl, HX, hown, HR, hz, hb⟩ := hrel
    by_cases hlt : k < N
    · have t0 : (k : Int) < (N : Int) := by omega
      have c1 := HX.out.cells.2.1
      go_wp2_with (at_builtin; refine wpList_push rfl (.tmp 16) (.tmp 17) _ rfl (w1.heap.size + 2) 3 _ 8 Tryz.underlying36 int_info rfl _ _ _ rfl hown.out _ rfl rfl (by unfold maxLen; omega) (by omega) (by omega) ?_; intro v' w5 hown5 hg5 hat5; refine stop_here ?_)
      have hne : ∀ g, g < w1.heap.size + 2 → some g ≠ (Value.slice A k c).ownBlock := fun g hg e => by have := (hown.out.lt g e.symm).1; omega
      have HX5 : RBox Q wr.drew (w1.heap.size + 1) ⟨N, List.replicate (8 * N + 1) 0, List.replicate k (-1), fun _ => [], []⟩ (.slice (some ⟨w1.heap.size, 0, none⟩) (8 * N + 1) (8 * N + 1)) (.slice A k c) (fun _ => .slice none 0 0) (.slice none 0 0) := ⟨HX.out.blk, HX.out.rin.below (Below.refl _ _).drew⟩
      obtain ⟨A5, c5, rfl, -⟩ := own_form hown5
      have B5 := HX.out.blk.grown hg5 (hne _ (by omega))
      have c15 := B5.cell 1
      have z15 := B5.frozen 1
      have W5 := HX.out.rin.words.keep hg5.size fun _ b e hlt => hg5.block b hlt (hne b (by
        have e' : w1.heap.size = b := by simpa [Value.ownBlock] using e
        omega))
      have hown6 := ownsRow_setCell_below hown5 (a := ⟨w1.heap.size + 1, 1, none⟩) (by show w1.heap.size + 1 < w1.heap.size + 2; omega) (.slice A5 (k + 1) c5)
      have hcl5 : Rd i64e w5 (.slice A5 (k + 1) c5) (List.replicate (k + 1) (-1 : Int)) := by
        have h9 : w5.ownsRow (w1.heap.size + 2) 3 1 (.slice A5 (k + 1) c5) (List.replicate (k + 1) (-1 : Int)).length ((List.replicate (k + 1) (-1 : Int)).map i64e) := by
          rw [List.length_replicate, List.replicate_succ', List.map_append]
          exact hown5
        have h8 := Rd.of_own h9
        rw [List.length_replicate] at h9
        exact Rd.of_own (by rw [List.length_replicate]; exact h9)
      have X5 : RBox Q w5 (w1.heap.size + 1) ⟨N, List.replicate (8 * N + 1) 0, List.replicate (k + 1) (-1), fun _ => [], []⟩ (.slice (some ⟨w1.heap.size, 0, none⟩) (8 * N + 1) (8 * N + 1)) (.slice A k c) (fun _ => .slice none 0 0) (.slice none 0 0) → False ∨ True := fun _ => .inr trivial
      have HX6 := Lib.hid (show RBox Q (w5.setCell ⟨w1.heap.size + 1, 1, none⟩ (.slice A5 (k + 1) c5)) (w1.heap.size + 1) ⟨N, List.replicate (8 * N + 1) 0, List.replicate (k + 1) (-1), fun _ => [], []⟩ (.slice (some ⟨w1.heap.size, 0, none⟩) (8 * N + 1) (8 * N + 1)) (.slice A5 (k + 1) c5) (fun _ => .slice none 0 0) (.slice none 0 0) from
        ⟨B5.set_ 1 _, (show RIn Q w5 ⟨N, List.replicate (8 * N + 1) 0, List.replicate (k + 1) (-1), fun _ => [], []⟩ _ _ _ _ from ⟨W5, hcl5, fun _ _ => Rd.none_ _ _, ⟨none, 0, rfl, ⟨Nat.le_refl _, Nat.zero_le _, fun _ => rfl⟩, fun h => absurd h (by simp)⟩, HX.out.rin.qw, fun _ b e => hQ.out b (by have := (hown5.lt b e).1; omega), fun j _ h => absurd h (by simp), fun h => absurd h (by simp)⟩).far B5 HX.out.rin.slices (grown_setCell w5 _ 1 _)⟩)
      have HR6 := Lib.hid ((HR.out.grown hg5 (hne _ (by omega))).far (p := ⟨w1.heap.size + 1, 1, none⟩) (by show w.heap.size ≠ w1.heap.size + 1; omega) (.slice A5 (k + 1) c5))
      have hb6 := (hb.grown hg5 hb.size (fun g e => by have := (hown.out.lt g e).1; omega)).setCell (p := ⟨w1.heap.size + 1, 1, none⟩) (by show w.heap.size ≤ w1.heap.size + 1; omega) (.slice A5 (k + 1) c5)
      have hz6 : w1.heap.size + 1 < (w5.setCell ⟨w1.heap.size + 1, 1, none⟩ (.slice A5 (k + 1) c5)).heap.size := by rw [setCell_size]; have := hg5.size; omega
      have hown6 := Lib.hid (show (w5.setCell ⟨w1.heap.size + 1, 1, none⟩ (.slice A5 (k + 1) c5)).ownsRow (w1.heap.size + 2) 3 1 (.slice A5 (k + 1) c5) (k + 1) ((List.replicate (k + 1) (-1 : Int)).map i64e) by rw [List.replicate_succ', List.map_append]; exact hown6)
      clear X5 HX5 B5 W5 hcl5 hown5 hg5 hat5 HX hown HR hne c1
      refine go_on ?_
      go_wp2_with fail
      go_roundw
      case rel => exact ⟨k + 1, A5, c5, by omega, by go_num, HX6, hown6, HR6, hz6, hb6⟩
      case measure => simp [intOf]; omega
    · obtain rfl : k = N := by omega
      have t0 : decide ((k : Int) < (k : Int)) = false := by rw [decide_eq_false_iff_not]; omega
      have O1 := Lib.hid (slices_one HX.out.rin.slices)
      go_wp2_with (first
        | (refine wpList_load_blk rfl 40 (.tmp 3) rfl (w1.heap.size + 1) rfl 40 (rcells (.slice (some ⟨w1.heap.size, 0, none⟩) (8 * k + 1) (8 * k + 1)) (.slice A k c) (fun _ => .slice none 0 0) (.slice none 0 0)) HX.out.blk _ Tryz.underlying40 rfl SZ.out ?_)
        | (refine wpList_store_blk rfl 40 (.tmp 2) (.tmp 20) rfl (w.heap.size) rfl (rcells (.slice (some ⟨w1.heap.size, 0, none⟩) (8 * k + 1) (8 * k + 1)) (.slice A k c) (fun _ => .slice none 0 0) (.slice none 0 0)) rfl 40 (rnil) HR.out SZ.out rfl O1.out ?_; intro w9 hR9 hg9 hs9))
      refine bodyPost_ret (res_cell rfl rfl hR9 Tryz.underlying40 rfl SZ.out) rfl ⟨_, _, _, _, rfl, HX.out.rin.far HR.out rnil_slices hg9, hb.grown hg9 hb.size (fun k hk => by cases hk; omega)⟩
end Go.Proofs.YtcaboknbdamlhaaGreatDoor
namespace Go.Proofs.YtcaboknbdamlhaaGreatDoor
open Go.RowKit Go.Shelf
/-- One of two may come up. -/
theorem wpAnyT_two {P : Program} {md : Region.Mode} {ops : Array Oper} {Q : Exit → Act → World → Prop} {S : World → Prop} {T i j : Nat} {oi oj : Oper} {fuel : Nat} {listed : Array Bool} {a : Act} {w : World} (hi : ops[i]? = some oi) (hj : ops[j]? = some oj) (hr : Region.ready md ops listed = [i, j])
    (hwi : Region.wanted oi (yielded ops a.tmps) = true) (hwj : Region.wanted oj (yielded ops a.tmps) = true)
    (h1 : ∀ K' : Act → World → Prop, Shut (∀ a' w', (i ≠ T → S w') → wpAnyT P md ops Q T S fuel (listed.setIfInBounds i true) a' w' → K' a' w') → Oper.wp P oi a w K' Q)
    (h2 : ∀ K' : Act → World → Prop, Shut (∀ a' w', (j ≠ T → S w') → wpAnyT P md ops Q T S fuel (listed.setIfInBounds j true) a' w' → K' a' w') → Oper.wp P oj a w K' Q) : wpAnyT P md ops Q T S (fuel + 1) listed a w := by
  refine ⟨fun h0 => (by rw [hr] at h0; cases h0), fun k hk => ?_⟩
  rw [hr] at hk
  rcases (by simpa using hk : k = i ∨ k = j) with rfl | rfl
  · unfold wpOp
    rw [hi]
    simp only
    rw [if_pos hwi]
    exact .inl (h1 _ fun a' w' h1 h2 => ⟨fun h3 _ => h1 h3, h2⟩)
  · unfold wpOp
    rw [hj]
    simp only
    rw [if_pos hwj]
    exact .inl (h2 _ fun a' w' h1 h2 => ⟨fun h3 _ => h1 h3, h2⟩)
theorem wp_new {P : Program} {w : World} {o : Oper} {a : Act} {Q : Exit → Act → World → Prop} {K : Act → World → Prop} (op : Op) (ho : o.op = op) (t : TypeId) (cs : Array Value)
    (hrun : (execOp a.eval o).run P w = .ok (.value (.pointer (some ⟨w.heap.size, 0, none⟩))) (w.alloc (.cells cs t)))
    (h : K (a.put o.dst (.pointer (some ⟨w.heap.size, 0, none⟩))) (w.alloc (.cells cs t))) : Oper.wp P o a w K Q := by
  unfold Oper.wp
  rw [hrun]
  exact h
theorem nil4_slices : Slices nil4 := by
  intro u hu
  simp only [nil4, List.mem_toArray, List.mem_cons, List.not_mem_nil, or_false] at hu
  rcases hu with rfl | rfl | rfl | rfl <;> exact ⟨_, _, _, rfl⟩
set_option maxHeartbeats 3200000 in
set_option maxRecDepth 100000 in
theorem rcutH_ok {Q : Nat → Prop} (S : HS) (vw vc vo : Value) (f : Nat → Value) (w : World) (H : RIn Q w S vw vc f vo) (hQ : New Q w) (I : Inv0 S) (s c : Nat) (hc4 : c < 4) (hx : (-1 : Int) ∈ S.cls) (hs : s = S.cls.idxOf (-1)) :
    Calls Tryz.prog 88 #[.agg (rcells vw vc f vo), .int .i64 (s : Int), .int .i64 (c : Int)] w (RetH Q w (sCut S c)) := by
  have hlen := H.len0 I
  have hsl : s < S.cls.length := by rw [hs]; exact List.idxOf_lt_length_of_mem hx
  have hfin := congrArg (fun x => x.1.free) (cpl_cut I hc4 [] [] hx)
  have hst : sCut S c = { S with cls := S.cls.set s c, free := (sCut S c).free } := by rw [hs]; rfl
  have hfr : mPuts c S.free (blocksOf s c).reverse = (sCut S c).free := by
    rw [hs]
    have h9 := hfin
    unfold mCut at h9
    rw [if_pos (show (-1 : Int) ∈ (toM S [] []).cls from hx)] at h9
    exact h9
  have hLF := I.lenF 4096 (Nat.le_refl _)
  rw [hst, ← hfr]
  clear hst hfin hfr
  obtain ⟨Ac, cc, rfl, -⟩ := H.cls.len
  have SZ := Lib.hid rh_size
  replace H := Lib.hid H
  replace hQ := Lib.hid hQ
  replace hLF := Lib.hid hLF
  replace hs := Lib.hid hs
  replace I := Lib.hid I
  go_enter Tryz.func88, Tryz.ntmps88
  go_wp2_with (first
    | (refine wpList_new rfl (.box 40 (.tmp 0)) rfl w.heap.size rfl 40 (rcells vw (.slice Ac S.cls.length cc) f vo) (by kernel_rfl) ?_; intro w1 hs1 hb1 hB1)
    | (refine wpList_new rfl (.alloc 40) rfl (w.heap.size + 1) hs1 40 rnil (by kernel_rfl) ?_; intro w2 hs2 hb2 hB2; refine stop_here ?_))
  have HX := Lib.hid ((show RBox Q w1 w.heap.size S vw (.slice Ac S.cls.length cc) f vo from ⟨hB1, H.out.below hb1⟩).below (hb2.mono (by omega)))
  have HR := Lib.hid hB2
  have hb2 := hb1.trans (hb2.mono (by omega))
  have hz2 : w.heap.size + 1 < w2.heap.size := by omega
  clear hs1 hB1 hb1 hB2 hs2
  refine go_on ?_
  have c1 := HX.out.cells.2.1
  have hz0 : w.heap.size < w2.heap.size := by omega
  have hown0 := Lib.hid (World.ownsRow_made (e := 3) (size := 1) w2 (base := w2.heap.size) #[] 0 (Nat.le_refl _) (Nat.zero_le _) rfl)
  have hrw := Lib.hid HX.out.rin.cls
  go_wp2_with (at_builtin; refine wpList_append_all rfl (.tmp 12) (.tmp 14) _ rfl w2.heap.size 3 _ 8 Tryz.underlying36 int_info rfl _ 0 [] rfl hown0.out i64e _ S.cls (fun _ => rfl) rfl (hrw.out.below (below_alloc _ _)) (by unfold maxLen; omega) (by omega) (by simp) ?_; intro v4 w4 hown4 hg4 hat4; refine stop_here ?_)
  have hb24 : Below w2.heap.size w2 w4 := (below_alloc w2 _).grown hg4 (by simp) (fun k hk => by cases hk; exact Nat.le_refl _)
  have hown4 : w4.ownsRow w2.heap.size 3 1 v4 S.cls.length (S.cls.map i64e) := by simpa using hown4
  obtain ⟨A4, c4, rfl, -⟩ := own_form hown4
  obtain ⟨b4, rfl, hb4l, hb4h⟩ := own_addr hown4 (by omega)
  have q0 : (0 : Int) ≤ (s : Int) := by omega
  have q1 : (s : Int) < (S.cls.length : Int) := by omega
  have hcs := hown4.cellAt s (by omega)
  have hzs := hown4.frozenAt s
  have hcs : w4.cell? ⟨b4, s, none⟩ = some (.int .i64 S.cls[s]) := by rw [hcs]; simp [hsl]
  obtain ⟨y, hy⟩ : ∃ y, y = S.cls[s] := ⟨_, rfl⟩
  rw [← hy] at hcs
  have hown5 : (w4.setCell ⟨b4, s, none⟩ (.int .i64 (c : Int))).ownsRow w2.heap.size 3 1 (.slice (some ⟨b4, 0, none⟩) S.cls.length c4) S.cls.length ((S.cls.set s (c : Int)).map i64e) := by
    have := (hown4.stored s (.int .i64 (c : Int))).1
    rw [List.map_set]
    exact this
  have hb25 := hb24.setCell (p := ⟨b4, s, none⟩) hb4l (.int .i64 (c : Int))
  have HX5 := HX.out.below hb25
  have HR5 := HR.out.below hb25 HR.out.lt
  have hrd5 : Rd i64e (w4.setCell ⟨b4, s, none⟩ (.int .i64 (c : Int))) (.slice (some ⟨b4, 0, none⟩) S.cls.length c4) (S.cls.set s (c : Int)) := by
    have hl9 : (S.cls.set s (c : Int)).length = S.cls.length := by simp
    rw [← hl9] at hown5 ⊢
    exact Rd.of_own hown5
  have HX6 := Lib.hid (HX5.set_cls hrd5 (fun _ b e => hQ.out b (by have := (hown5.lt b e).1; omega)))
  have HR6 := Lib.hid (HR5.far (p := ⟨w.heap.size, 1, none⟩) (by show w.heap.size + 1 ≠ w.heap.size; omega) (.slice (some ⟨b4, 0, none⟩) S.cls.length c4))
  have hc15 := HX5.cells.2.1
  have hz15 := HX5.blk.frozen 1
  have hb6 := Lib.hid ((hb2.trans (hb25.mono hb2.size)).setCell (p := ⟨w.heap.size, 1, none⟩) (Nat.le_refl _) (.slice (some ⟨b4, 0, none⟩) S.cls.length c4))
  clear hy hown4 hown5 hb25 HX5 HR5 hrd5 hg4 hat4 hb24 hown0 hrw HX HR hb2 c1
  refine go_on ?_
  go_wp2_with fail
  generalize (w4.setCell ⟨b4, s, none⟩ (.int .i64 (c : Int))).setCell ⟨w.heap.size, 1, none⟩ (.slice (some ⟨b4, 0, none⟩) S.cls.length c4) = w6 at HX6 HR6 hb6 ⊢
  clear hcs hzs hc15 hz15
  refine (rblocks_ok (s : Int) (c : Int) w6).mono ?_
  rintro e w7 ⟨vb, rfl, hob, hb7⟩
  obtain ⟨Ab, cb, rfl, -⟩ := own_form hob
  have HX7 := Lib.hid (HX6.out.below hb7)
  have HR7 := Lib.hid (HR6.out.below hb7 HR6.out.lt)
  have b7 := below_all hb6.out hb7
  have hbl := blocks_len (s : Int) (c : Int)
  have hbt := Lib.hid (blocks_top (s : Int) (c : Int) (by omega))
  obtain ⟨B, hB⟩ : ∃ B, B = blocksOf (s : Int) (c : Int) := ⟨_, rfl⟩
  rw [← hB] at hob hbl hbt ⊢
  replace hB := Lib.hid hB
  have hrb := Lib.hid (Rd.of_own hob)
  clear HX6 HR6 hb6 hb7 hob
  go_wp2_with fail
  go_loopw [9] (fun i wr => ∃ (m : Nat) (f7 : Nat → Value), m ≤ B.length ∧ i = .int .i64 ((m : Int) - 1) ∧ Hid (RBox Q wr w.heap.size { S with cls := S.cls.set s (c : Int), free := mPuts c S.free (B.drop m).reverse } vw (.slice (some ⟨b4, 0, none⟩) S.cls.length c4) f7 vo) ∧ Hid (Blk wr (w.heap.size + 1) 40 rnil) ∧ Hid (Rd i64e wr (.slice Ab B.length cb) B) ∧ Below w.heap.size w wr) (fun i _ => (intOf i + 1).toNat)
  case atStart => exact ⟨B.length, f, Nat.le_refl _, rfl, by rw [List.drop_length]; exact HX7, HR7, hrb, b7⟩
  case round =>
    clear HX7 HR7 hrb b7
    obtain ⟨m, f7, hm, rfl, HX, HR, hrb, hb⟩ := hrel
    rcases m with _ | m
    · have e0 : (((0 : Nat) : Int) - 1) = -1 := by omega
      rw [e0]
      have O1 := Lib.hid (slices_one HX.out.rin.slices)
      rw [List.drop_zero] at HX
      go_wp2_with (first
        | (refine wpList_load_blk rfl 40 (.tmp 3) rfl w.heap.size rfl 40 (rcells vw (.slice (some ⟨b4, 0, none⟩) S.cls.length c4) f7 vo) HX.out.blk _ Tryz.underlying40 rfl SZ.out ?_)
        | (refine wpList_store_blk rfl 40 (.tmp 6) (.tmp 45) rfl (w.heap.size + 1) rfl (rcells vw (.slice (some ⟨b4, 0, none⟩) S.cls.length c4) f7 vo) rfl 40 (rnil) HR.out SZ.out rfl O1.out ?_; intro w9 hR9 hg9 hs9))
      refine bodyPost_ret (res_cell rfl rfl hR9 Tryz.underlying40 rfl SZ.out) rfl ⟨_, _, _, _, rfl, (by rw [← hB.out]; exact HX.out.rin.far HR.out rnil_slices hg9), hb.grown hg9 hb.size (fun k hk => by cases hk; omega)⟩
    · have e0 : (((m + 1 : Nat) : Int) - 1) = (m : Int) := by omega
      rw [e0]
      have m1 : (m : Int) < (B.length : Int) := by omega
      have hml : m < B.length := by omega
      obtain ⟨b, ob, rfl, hbl2, hcb⟩ := hrb.out.at_ hml
      have hx9 := hbt.out _ (List.getElem_mem hml)
      have hd := List.drop_eq_getElem_cons hml
      obtain ⟨x, hx⟩ : ∃ x, x = B[m] := ⟨_, rfl⟩
      rw [← hx] at hcb hx9 hd
      replace hcb : wr.cell? ⟨b, ob + m, none⟩ = some (.int .i64 x) := hcb
      replace hd := Lib.hid hd
      obtain ⟨L, hL⟩ : ∃ L, L = mPuts c S.free (B.drop (m + 1)).reverse := ⟨_, rfl⟩
      rw [← hL] at HX
      have hLl : ∀ j, j < 4 → (L j).length ≤ 1099511627776 := fun j hj => by
        have := lenF_puts hLF.out (c : Int) (B.drop (m + 1)).reverse j hj
        rw [← hL] at this
        simp at this
        omega
      replace hL := Lib.hid hL
      clear hx
      have hgr : w.heap.size < wr.heap.size := HX.out.blk.lt
      go_wp2_with fail
      have hS0 : (fun X : World => Below wr.heap.size wr X) wr.drew := (Below.refl _ _).drew
      refine wp_T (by kernel_rfl) 12 (fun X : World => Below wr.heap.size wr X) ?_
      refine wpAnyT_takeW (i := 0) (v := .pointer (some ⟨w.heap.size, 2, none⟩)) rfl (by kernel_rfl) (fun _ _ _ hp => hp) (Or.inl ⟨by rfl, fun X _ => by go_simp⟩) hS0 ?_
      simp only [Act.put, List.setIfInBounds_toArray, List.set_cons_zero, List.set_cons_succ]
      refine wpAnyT_take (i := 1) (v := .agg (arr4 f7)) rfl (by kernel_rfl) (fun _ _ _ hp => hp) (yieldsIf_load_mid (by rfl) _ _ rfl w.heap.size 2 rfl [f7 0, f7 1, f7 2, f7 3] _ (fun X hX => (HX.out.below hX).range4) rarr_row rfl rarr_size) hS0 ?_
      simp only [Act.put, List.setIfInBounds_toArray, List.set_cons_zero, List.set_cons_succ]
      refine wpAnyT_takeW (i := 2) (v := .int .i64 (c : Int)) rfl (by kernel_rfl) (fun _ _ _ hp => hp) (Or.inl ⟨by rfl, fun X _ => by go_simp⟩) hS0 ?_
      simp only [Act.put, List.setIfInBounds_toArray, List.set_cons_zero, List.set_cons_succ]
      refine wpAnyT_takeW (i := 3) (v := .slice (some ⟨b, ob, none⟩) B.length cb) rfl (by kernel_rfl) (fun _ _ _ hp => hp) (Or.inl ⟨by rfl, fun X _ => by go_simp⟩) hS0 ?_
      simp only [Act.put, List.setIfInBounds_toArray, List.set_cons_zero, List.set_cons_succ]
      refine wpAnyT_takeW (i := 4) (v := .int .i64 (m : Int)) rfl (by kernel_rfl) (fun _ _ _ hp => hp) (Or.inl ⟨by rfl, fun X _ => by go_simp⟩) hS0 ?_
      simp only [Act.put, List.setIfInBounds_toArray, List.set_cons_zero, List.set_cons_succ]
      refine wpAnyT_takeW (i := 5) (v := .pointer (some ⟨b, ob + m, none⟩)) rfl (by kernel_rfl) (fun _ _ _ hp => hp) (Or.inl ⟨by rfl, fun X _ => by go_simp⟩) hS0 ?_
      simp only [Act.put, List.setIfInBounds_toArray, List.set_cons_zero, List.set_cons_succ]
      refine wpAnyT_take (i := 6) (v := .int .i64 x) rfl (by kernel_rfl) (fun _ _ _ hp => hp) (Or.inl ⟨by rfl, fun X hX => by have y1 := (hX.cell (p := ⟨b, ob + m, none⟩) hbl2).trans hcb; go_simp⟩) hS0 ?_
      simp only [Act.put, List.setIfInBounds_toArray, List.set_cons_zero, List.set_cons_succ]
      refine wpAnyT_two (i := 7) (j := 11) rfl rfl (by kernel_rfl) (by rfl) (by rfl) ?_ ?_
      · intro K1 hK1
        go_simp
        refine (rput_q Q f7 L (c : Int) x wr.drew (fun j hj => (HX.out.rin.below hS0).fr j hj) hLl (by omega) (hQ.out.le (Nat.le_trans hb.size (Below.size hS0))) HX.out.rin.qf).mono ?_
        rintro e w8 ⟨v8, rfl, ⟨f8, rfl, hr8, hq8⟩, hb8⟩
        dsimp only
        have hS8 : (fun X : World => Below wr.heap.size wr X) w8 := Below.trans hS0 (Below.mono hb8 (Below.size hS0))
        refine hK1.out _ _ (fun _ => hS8) ?_
        (try simp only [Act.put, List.setIfInBounds_toArray, List.set_cons_zero, List.set_cons_succ])
        refine wpAnyT_takeW (i := 8) (v := .tuple #[.agg (arr4 f8), .int .i64 (putL L (c : Int) x).2]) rfl (by kernel_rfl) (fun _ _ _ hp => hp) (Or.inl ⟨by rfl, fun X _ => by go_simp⟩) hS8 ?_
        simp only [Act.put, List.setIfInBounds_toArray, List.set_cons_zero, List.set_cons_succ]
        refine wpAnyT_takeW (i := 9) (v := .agg (arr4 f8)) rfl (by kernel_rfl) (fun _ _ _ hp => hp) (Or.inl ⟨by rfl, fun X _ => by go_simp⟩) hS8 ?_
        simp only [Act.put, List.setIfInBounds_toArray, List.set_cons_zero, List.set_cons_succ]
        refine wpAnyT_takeW (i := 10) (v := .int .i64 (putL L (c : Int) x).2) rfl (by kernel_rfl) (fun _ _ _ hp => hp) (Or.inl ⟨by rfl, fun X _ => by go_simp⟩) hS8 ?_
        simp only [Act.put, List.setIfInBounds_toArray, List.set_cons_zero, List.set_cons_succ]
        refine wpAnyT_one (i := 11) rfl (by kernel_rfl) (by rfl) ?_
        intro K2 hK2
        refine wp_new (.alloc 37) rfl 37 nil4 (by kernel_rfl) ?_
        have hS10 : (fun X : World => Below wr.heap.size wr X) (w8.alloc (.cells nil4 37)) := Below.trans hS8 ((below_alloc w8 _).mono (Below.size hS8))
        refine hK2.out _ _ (fun _ => hS10) ?_
        (try simp only [Act.put, List.setIfInBounds_toArray, List.set_cons_zero, List.set_cons_succ])
        refine wpAnyT_one (i := 12) rfl (by kernel_rfl) (by rfl) ?_
        intro K3 hK3
        refine wp_store_blk 37 _ _ rfl w8.heap.size rfl (arr4 f8) rfl 37 nil4 (Blk.new w8 _ _) rarr_size rfl (arr4_one fun j hj => rd_one (hr8 j hj)) ?_
        intro w9 hV9 hg9 hs9
        refine hK3.out _ _ (fun hh => absurd rfl hh) ?_
        (try simp only [Act.put, List.setIfInBounds_toArray, List.set_cons_zero, List.set_cons_succ])
        refine wpAnyT_late (i := 13) rfl (by kernel_rfl) (by rfl) (by kernel_rfl) ?_
        intro K4 hK4
        go_simp
        refine hK4.out _ _ ?_
        (try simp only [Act.put, List.setIfInBounds_toArray, List.set_cons_zero, List.set_cons_succ])
        refine wpAnyT_done (by kernel_rfl) ?_ _
        (try simp only [Act.put, List.setIfInBounds_toArray, List.set_cons_zero, List.set_cons_succ])
        clear hK1 K1 hK2 K2 hK3 K3 hK4 K4
        have hr9 : ∀ j, j < 4 → Rd i64e w9 (f8 j) ((putL L (c : Int) x).1 j) := fun j hj => ((hr8 j hj).below (below_alloc w8 _)).keep hg9.size fun hp b' e hlt => hg9.block b' hlt fun e2 => by have h1 := (hr8 j hj).block e hp; injection e2 with e2; omega
        have hS9 : Below wr.heap.size wr w9 := Below.grown hS10 hg9 (Below.size hS10) (fun k hk => by cases hk; exact Below.size hS8)
        have hb9 : Below w.heap.size w w9 := below_all hb hS9
        have X9 := Lib.hid (HX.out.below hS9)
        have R9 := Lib.hid (HR.out.below hS9 HR.out.lt)
        have B9 := Lib.hid (hrb.out.below hS9)
        have hd9 := hd.out
        have hM : Hid (RBox Q (w9.setCells w.heap.size 2 (arr4 f8).toList) w.heap.size { S with cls := S.cls.set s (c : Int), free := mPuts c S.free (B.drop m).reverse } vw (.slice (some ⟨b4, 0, none⟩) S.cls.length c4) f8 vo) := Lib.hid (by
          have h9 := X9.out.set_free hr9 hq8
          rw [hd9, List.reverse_cons, mPuts_snoc, ← hL.out]
          exact h9)
        have R10 := Lib.hid (show Blk (w9.setCells w.heap.size 2 (arr4 f8).toList) (w.heap.size + 1) 40 rnil from (set4_other w9 w.heap.size f8 (by omega)).trans R9.out)
        have B10 := Lib.hid (show Rd i64e (w9.setCells w.heap.size 2 (arr4 f8).toList) (.slice (some ⟨b, ob, none⟩) B.length cb) B from B9.out.keep (grown_set4 w9 w.heap.size f8).size fun hp b' e hlt => (grown_set4 w9 w.heap.size f8).block b' hlt fun e2 => rd_apart X9.out.blk X9.out.rin.slices B9.out hp (by rw [e, e2]))
        have hb10 : Below w.heap.size w (w9.setCells w.heap.size 2 (arr4 f8).toList) := hb9.grown (grown_set4 w9 w.heap.size f8) hb9.size (fun k hk => by cases hk; exact Nat.le_refl _)
        have O9 := Lib.hid (arr4_one fun j hj => rd_one (hr9 j hj))
        have T9 := Lib.hid (X9.out.there4 f8)
        have V9 := Lib.hid hV9
        clear hd9 hr9 hV9
        go_wp2_with (first
          | (refine wpList_load_blk rfl 37 (.tmp 10) rfl w8.heap.size rfl 37 (arr4 f8) V9.out _ rarr_row rfl rarr_size ?_)
          | (refine wpList_store_mid rfl 37 (.tmp 44) (.tmp 43) rfl w.heap.size 2 (arr4 f8) rfl rfl T9.out rarr_size O9.out ?_; refine stop_here ?_))
        generalize w9.setCells w.heap.size 2 (arr4 f8).toList = w10 at hM R10 B10 hb10 ⊢
        clear X9 R9 B9 T9 V9
        refine go_on ?_
        go_wp2_with fail
        go_roundw
        case rel => exact ⟨m, f8, by omega, rfl, hM, R10, B10, hb10⟩
        case measure => simp [intOf]
      · intro K1 hK1
        refine wp_new (.alloc 37) rfl 37 nil4 (by kernel_rfl) ?_
        have hS1 : (fun X : World => Below wr.heap.size wr X) (wr.drew.alloc (.cells nil4 37)) := Below.trans hS0 ((below_alloc wr.drew _))
        refine hK1.out _ _ (fun _ => hS1) ?_
        (try simp only [Act.put, List.setIfInBounds_toArray, List.set_cons_zero, List.set_cons_succ])
        refine wpAnyT_one (i := 7) rfl (by kernel_rfl) (by rfl) ?_
        intro K2 hK2
        go_simp
        refine (rput_q Q f7 L (c : Int) x _ (fun j hj => (HX.out.rin.below hS1).fr j hj) hLl (by omega) (hQ.out.le (Nat.le_trans hb.size (Below.size hS1))) HX.out.rin.qf).mono ?_
        rintro e w8 ⟨v8, rfl, ⟨f8, rfl, hr8, hq8⟩, hb8⟩
        dsimp only
        have hS8 : (fun X : World => Below wr.heap.size wr X) w8 := Below.trans hS1 (Below.mono hb8 (Below.size hS1))
        refine hK2.out _ _ (fun _ => hS8) ?_
        (try simp only [Act.put, List.setIfInBounds_toArray, List.set_cons_zero, List.set_cons_succ])
        refine wpAnyT_takeW (i := 8) (v := .tuple #[.agg (arr4 f8), .int .i64 (putL L (c : Int) x).2]) rfl (by kernel_rfl) (fun _ _ _ hp => hp) (Or.inl ⟨by rfl, fun X _ => by go_simp⟩) hS8 ?_
        simp only [Act.put, List.setIfInBounds_toArray, List.set_cons_zero, List.set_cons_succ]
        refine wpAnyT_takeW (i := 9) (v := .agg (arr4 f8)) rfl (by kernel_rfl) (fun _ _ _ hp => hp) (Or.inl ⟨by rfl, fun X _ => by go_simp⟩) hS8 ?_
        simp only [Act.put, List.setIfInBounds_toArray, List.set_cons_zero, List.set_cons_succ]
        refine wpAnyT_takeW (i := 10) (v := .int .i64 (putL L (c : Int) x).2) rfl (by kernel_rfl) (fun _ _ _ hp => hp) (Or.inl ⟨by rfl, fun X _ => by go_simp⟩) hS8 ?_
        simp only [Act.put, List.setIfInBounds_toArray, List.set_cons_zero, List.set_cons_succ]
        have hV8 : Blk w8 wr.drew.heap.size 37 nil4 := (Blk.new wr.drew 37 nil4).below hb8 (by rw [World.size_alloc]; omega)
        refine wpAnyT_one (i := 12) rfl (by kernel_rfl) (by rfl) ?_
        intro K3 hK3
        refine wp_store_blk 37 _ _ rfl wr.drew.heap.size rfl (arr4 f8) rfl 37 nil4 hV8 rarr_size rfl (arr4_one fun j hj => rd_one (hr8 j hj)) ?_
        intro w9 hV9 hg9 hs9
        refine hK3.out _ _ (fun hh => absurd rfl hh) ?_
        (try simp only [Act.put, List.setIfInBounds_toArray, List.set_cons_zero, List.set_cons_succ])
        refine wpAnyT_late (i := 13) rfl (by kernel_rfl) (by rfl) (by kernel_rfl) ?_
        intro K4 hK4
        go_simp
        refine hK4.out _ _ ?_
        (try simp only [Act.put, List.setIfInBounds_toArray, List.set_cons_zero, List.set_cons_succ])
        refine wpAnyT_done (by kernel_rfl) ?_ _
        (try simp only [Act.put, List.setIfInBounds_toArray, List.set_cons_zero, List.set_cons_succ])
        clear hK1 K1 hK2 K2 hK3 K3 hK4 K4
        have hr9 : ∀ j, j < 4 → Rd i64e w9 (f8 j) ((putL L (c : Int) x).1 j) := fun j hj => (hr8 j hj).keep hg9.size fun hp b' e hlt => hg9.block b' hlt fun e2 => rd_apart hV8 nil4_slices (hr8 j hj) hp (by rw [e, e2])
        have hS9 : Below wr.heap.size wr w9 := Below.grown hS8 hg9 (Below.size hS8) (fun k hk => by cases hk; exact Nat.le_refl _)
        have hb9 : Below w.heap.size w w9 := below_all hb hS9
        have X9 := Lib.hid (HX.out.below hS9)
        have R9 := Lib.hid (HR.out.below hS9 HR.out.lt)
        have B9 := Lib.hid (hrb.out.below hS9)
        have hd9 := hd.out
        have hM : Hid (RBox Q (w9.setCells w.heap.size 2 (arr4 f8).toList) w.heap.size { S with cls := S.cls.set s (c : Int), free := mPuts c S.free (B.drop m).reverse } vw (.slice (some ⟨b4, 0, none⟩) S.cls.length c4) f8 vo) := Lib.hid (by
          have h9 := X9.out.set_free hr9 hq8
          rw [hd9, List.reverse_cons, mPuts_snoc, ← hL.out]
          exact h9)
        have R10 := Lib.hid (show Blk (w9.setCells w.heap.size 2 (arr4 f8).toList) (w.heap.size + 1) 40 rnil from (set4_other w9 w.heap.size f8 (by omega)).trans R9.out)
        have B10 := Lib.hid (show Rd i64e (w9.setCells w.heap.size 2 (arr4 f8).toList) (.slice (some ⟨b, ob, none⟩) B.length cb) B from B9.out.keep (grown_set4 w9 w.heap.size f8).size fun hp b' e hlt => (grown_set4 w9 w.heap.size f8).block b' hlt fun e2 => rd_apart X9.out.blk X9.out.rin.slices B9.out hp (by rw [e, e2]))
        have hb10 : Below w.heap.size w (w9.setCells w.heap.size 2 (arr4 f8).toList) := hb9.grown (grown_set4 w9 w.heap.size f8) hb9.size (fun k hk => by cases hk; exact Nat.le_refl _)
        have O9 := Lib.hid (arr4_one fun j hj => rd_one (hr9 j hj))
        have T9 := Lib.hid (X9.out.there4 f8)
        have V9 := Lib.hid hV9
        clear hd9 hr9 hV9
        go_wp2_with (first
          | (refine wpList_load_blk rfl 37 (.tmp 10) rfl wr.heap.size rfl 37 (arr4 f8) V9.out _ rarr_row rfl rarr_size ?_)
          | (refine wpList_store_mid rfl 37 (.tmp 44) (.tmp 43) rfl w.heap.size 2 (arr4 f8) rfl rfl T9.out rarr_size O9.out ?_; refine stop_here ?_))
        generalize w9.setCells w.heap.size 2 (arr4 f8).toList = w10 at hM R10 B10 hb10 ⊢
        clear X9 R9 B9 T9 V9
        refine go_on ?_
        go_wp2_with fail
        go_roundw
        case rel => exact ⟨m, f8, by omega, rfl, hM, R10, B10, hb10⟩
        case measure => simp [intOf]
end Go.Proofs.YtcaboknbdamlhaaGreatDoor
namespace Go.Proofs.YtcaboknbdamlhaaGreatDoor
open Go.RowKit Go.Shelf
theorem obj_info : (Tryz.prog.info? 84).map (fun i => (i.zero, i.size, i.bytes)) = some (some (.agg #[.int .i64 0, .int .i64 0, .int .u8 0]), 3, 24) := by kernel_rfl
theorem obj_size : (Tryz.prog.info? 84).map (·.size) = some 3 := by kernel_rfl
/-- What a one-element append leaves, an element of three cells. -/
theorem wpList_push3 {w0 : World} {ops : Array Oper} {rest : List Oper} {o : Oper} {a : Act} {Q : Exit → Act → World → Prop} (hgd : o.guard = none) (s x : Operand)
    (ho : o.op = .call { callee := .builtin .append, args := #[s, x], argTypes := #[38, 38] })
    (base : Nat) (v : Value) (l : List (Int × Int × Int)) (hs : a.eval s = v) (hown : w0.ownsRow base 84 3 v l.length (l.flatMap objC)) (u : Int × Int × Int)
    (hx : a.eval x = .slice (some ⟨w0.heap.size, 0, none⟩) 1 1) (hn : l.length ≤ 5000) (hbase : base ≤ w0.heap.size)
    (h : ∀ zs A c w', zs = l ++ [u] → w'.ownsRow base 84 3 (.slice A zs.length c) zs.length (zs.flatMap objC) → Below base w0 w' → wpList Tryz.prog ops Q rest (a.put o.dst (.slice A zs.length c)) w') :
    wpList Tryz.prog ops Q (o :: rest) a (w0.alloc (.cells #[.int .i64 u.1, .int .i64 u.2.1, .int .u8 u.2.2] 84)) := by
  obtain ⟨i, hi1, hz, hsize, hby⟩ := info_parts obj_info
  refine wpList_append_own_at _ hgd s x _ ho base 84 i _ 3 24 Tryz.underlying38 hi1 hz hsize hby rfl (by omega) v l.length _ hs (hown.alloc _) ⟨w0.heap.size, 0, none⟩ 1 1 (objC u) hx rfl
    (fun j y hy => ?_) (fun y hy => ?_) (by unfold maxLen; omega) (by omega) (by simp; omega) fun v' w' h1 h2 _ h3 => ?_
  · have hj : j < 3 := (List.getElem?_eq_some_iff.1 hy).1
    have hB := Blk.new w0 84 #[.int .i64 u.1, .int .i64 u.2.1, .int .u8 u.2.2]
    have e : Addr.add ⟨w0.heap.size, 0, none⟩ j = ⟨w0.heap.size, j, none⟩ := by
      unfold Addr.add
      split
      · next e => subst e; rfl
      · simp
    rw [e, hB.cell j]
    rcases (by omega : j = 0 ∨ j = 1 ∨ j = 2) with rfl | rfl | rfl <;> exact hy
  · simp only [objC, List.mem_cons, List.not_mem_nil, or_false] at hy
    rcases hy with rfl | rfl | rfl <;> rfl
  · have hf : ∃ A c, v' = .slice A (l.length + 1) c := by
      rcases h1.2 with ⟨rfl, h9⟩ | ⟨g, cap, cur, rfl, _⟩
      · omega
      · exact ⟨_, _, rfl⟩
    obtain ⟨A, c, rfl⟩ := hf
    have e1 : (l ++ [u]).length = l.length + 1 := by simp
    rw [← e1]
    refine h _ A c w' rfl ?_ ?_
    · rw [e1, List.flatMap_append]
      simpa using h1
    · refine ⟨h2.os, h2.tape, h2.output, Nat.le_trans (by simp) h2.size, fun k hk => (h2.block k (by simp; omega) fun e => ?_).trans (Below.heap_alloc w0 _ k (by omega))⟩
      have := (hown.lt k e.symm).1
      omega
theorem flat3_at : ∀ (l : List (Int × Int × Int)) (i j : Nat) (h : i < l.length), j < 3 → (l.flatMap objC)[i * 3 + j]? = (objC l[i])[j]?
  | o :: l, 0, j, _, hj => by
    rw [List.flatMap_cons, List.getElem?_append_left (by simp [objC]; omega)]
    simp
  | o :: l, i + 1, j, h, hj => by
    rw [List.flatMap_cons, List.getElem?_append_right (by simp [objC]; omega)]
    have := flat3_at l i j (by simpa using h) hj
    have e : (i + 1) * 3 + j - (objC o).length = i * 3 + j := by simp [objC]; omega
    rw [e, this]
    rfl
theorem rdc_of_own {w : World} {base : Nat} {v : Value} {l : List (Int × Int × Int)} (h : w.ownsRow base 84 3 v l.length (l.flatMap objC)) : RdC 3 objC w v l := by
  have h0 := h
  rcases h.2 with ⟨rfl, h1⟩ | ⟨g, cap, cur, rfl, _, hg, hn, hm, _, ht⟩
  · refine ⟨none, 0, by rw [h1], ⟨by omega, Nat.zero_le _, fun _ => rfl⟩, fun hp => absurd hp (by omega)⟩
  · refine ⟨_, cap, rfl, ⟨hn, hm, fun h => by cases h⟩, fun _ => ⟨g, 0, rfl, (Array.getElem?_eq_some_iff.1 hg).1, fun i hi j u hu => ?_⟩⟩
    have hj : j < 3 := (List.getElem?_eq_some_iff.1 hu).1
    have := h0.cells (g := g) rfl (i * 3 + j) u (by rw [flat3_at l i j hi hj]; exact hu)
    have e : Addr.add ⟨g, 0, none⟩ (i * 3 + j) = ⟨g, 0 + i * 3 + j, none⟩ := by
      unfold Addr.add
      split
      · next e => rw [show (0 : Nat) + i * 3 + j = i * 3 + j by omega, e]
      · simp
    rw [e] at this
    exact this
theorem own3_form {w : World} {base n : Nat} {v : Value} {xs : List Value} {e : TypeId} (h : w.ownsRow base e 3 v n xs) : ∃ A c, v = .slice A n c := by
  rcases h.2 with ⟨rfl, h1⟩ | ⟨g, cap, cur, rfl, _⟩
  · exact ⟨none, 0, by rw [h1]⟩
  · exact ⟨_, _, rfl⟩
/-! An object put in its place, as the reference does it. -/
def hasGt (o : Int × Int × Int) (l : List (Int × Int × Int)) : Bool := l.any fun x => decide (o.1 < x.1)
def insP (o : Int × Int × Int) (l : List (Int × Int × Int)) : List (Int × Int × Int) := if hasGt o l = true then insO o l else l
theorem ins_noGt {o : Int × Int × Int} : ∀ {l}, hasGt o l = false → insO o l = l ++ [o]
  | [], _ => rfl
  | x :: l, h => by
    simp only [hasGt, List.any_cons, Bool.or_eq_false_iff, decide_eq_false_iff_not] at h
    unfold insO
    rw [if_neg h.1, ins_noGt (l := l) (by simpa [hasGt] using h.2)]
    rfl
theorem ins_gt {o : Int × Int × Int} (x : Int × Int × Int) : ∀ {l}, hasGt o l = true → insO o (l ++ [x]) = insO o l ++ [x]
  | [], h => by cases h
  | y :: l, h => by
    by_cases hy : o.1 < y.1
    · show (if o.1 < y.1 then _ else _) = (if o.1 < y.1 then _ else _) ++ [x]
      rw [if_pos hy, if_pos hy]
      rfl
    · show (if o.1 < y.1 then _ else y :: insO o (l ++ [x])) = (if o.1 < y.1 then _ else y :: insO o l) ++ [x]
      have h' : hasGt o l = true := by
        simp only [hasGt, List.any_cons, Bool.or_eq_true, decide_eq_true_eq] at h
        rcases h with h | h
        · exact absurd h hy
        · exact h
      rw [if_neg hy, if_neg hy, ins_gt x h']
      rfl
theorem ins_snoc_lt {o x : Int × Int × Int} : ∀ {l}, hasGt o l = false → o.1 < x.1 → insO o (l ++ [x]) = l ++ [o] ++ [x]
  | [], _, h => by
    show (if o.1 < x.1 then _ else _) = _
    rw [if_pos h]
    rfl
  | y :: l, h, hlt => by
    simp only [hasGt, List.any_cons, Bool.or_eq_false_iff, decide_eq_false_iff_not] at h
    show (if o.1 < y.1 then _ else y :: insO o (l ++ [x])) = _
    rw [if_neg h.1, ins_snoc_lt (l := l) (by simpa [hasGt] using h.2) hlt]
    rfl
theorem hasGt_snoc (o x : Int × Int × Int) (l : List (Int × Int × Int)) : hasGt o (l ++ [x]) = (hasGt o l || decide (o.1 < x.1)) := by simp [hasGt]
theorem insP_gt {o x : Int × Int × Int} {l} (h : hasGt o l = true) : insP o (l ++ [x]) = insP o l ++ [x] := by
  unfold insP
  rw [hasGt_snoc, h, Bool.true_or, if_pos rfl, if_pos rfl, ins_gt x h]
theorem insP_lt {o x : Int × Int × Int} {l} (h : hasGt o l = false) (hx : o.1 < x.1) : insP o (l ++ [x]) = insP o l ++ [o] ++ [x] := by
  unfold insP
  rw [hasGt_snoc, h, decide_eq_true hx, Bool.false_or, if_pos rfl, if_neg (by simp), ins_snoc_lt h hx]
theorem insP_ge {o x : Int × Int × Int} {l} (h : hasGt o l = false) (hx : ¬ o.1 < x.1) : insP o (l ++ [x]) = insP o l ++ [x] := by
  unfold insP
  rw [hasGt_snoc, h, decide_eq_false hx, Bool.false_or, if_neg (by simp), if_neg (by simp)]
theorem insP_len (o : Int × Int × Int) (l : List (Int × Int × Int)) : (insP o l).length ≤ l.length + 1 := by
  unfold insP
  split
  · rw [ins_len]; exact Nat.le_refl _
  · omega
theorem insP_end {o : Int × Int × Int} {l} : insO o l = if hasGt o l = true then insP o l else insP o l ++ [o] := by
  unfold insP
  cases h : hasGt o l
  · rw [if_neg (by simp), if_neg (by simp), ins_noGt h]
  · rw [if_pos rfl, if_pos rfl]
/-- What Alloc of the reference hands back. -/
def RetHPE (Q : Nat → Prop) (w : World) (S : HS) (p er : Int) (e : Ending) (w' : World) : Prop := ∃ vw vc f vo, e = .returned (.tuple #[.agg (rcells vw vc f vo), .int .i64 p, .int .i64 er]) ∧ RIn Q w' S vw vc f vo ∧ Below w.heap.size w w'
theorem res_cell_2 {P : Program} {fn : Func} {p u u' : Tmp} {ty t : TypeId} {g : Nat} {cs : Array Value} {d : TypeDesc} {w : World} {tmps : Array Value} (h : fn.results = #[.cell p ty, .tmp u, .tmp u']) (hp : tmps.getD p undef = .pointer (some ⟨g, 0, none⟩)) (hg : Blk w g t cs)
    (hu : P.underlying ty = some d) (hd : (match d with | .struct _ | .array _ _ => true | _ => false) = true) (hi : (P.info? ty).map (·.size) = some cs.size) :
    (results fn tmps).run P w = .ok (.tuple #[.agg cs, tmps.getD u undef, tmps.getD u' undef]) w := res_cell_tmp2 h hp hg hu hd hi
set_option maxHeartbeats 6400000 in
set_option maxRecDepth 100000 in
theorem ralloc_no {Q : Nat → Prop} (S : HS) (vw vc vo : Value) (f : Nat → Value) (w : World) (H : RIn Q w S vw vc f vo) (I : Inv S) (n mask junk : Int) (hm0 : 0 ≤ mask) (hm1 : mask ≤ 255) (er : Int) (hr : (er = 2 ∧ (n < 1 ∨ 6 < n ∨ mask / 2 ^ n.toNat ≠ 0)) ∨ (er = 6 ∧ 1 ≤ n ∧ n ≤ 6 ∧ mask / 2 ^ n.toNat = 0 ∧ sFits S n = false)) :
    Calls Tryz.prog 58 #[.agg (rcells vw vc f vo), .int .i64 n, .int .u8 mask, .int .i64 junk] w (RetHPE Q w S 0 er) := by
  have SZ := Lib.hid rh_size
  have O0 := Lib.hid (slices_one H.slices)
  replace H := Lib.hid H
  rcases hr with ⟨rfl, hbad⟩ | ⟨rfl, h1, h6, hmk, hf⟩
  · by_cases h1 : n < 1
    · clear hbad I
      go_enter Tryz.func58, Tryz.ntmps58
      go_wp2_with (first
        | (refine wpList_new rfl (.box 40 (.tmp 0)) rfl w.heap.size rfl 40 (rcells vw vc f vo) (by kernel_rfl) ?_; intro w1 hs1 hb1 hB1)
        | (refine wpList_new rfl (.alloc 40) rfl (w.heap.size + 1) hs1 40 rnil (by kernel_rfl) ?_; intro w2 hs2 hb2 hB2; refine stop_here ?_))
      have HX := Lib.hid ((show RBox Q w1 w.heap.size S vw vc f vo from ⟨hB1, H.out.below hb1⟩).below (hb2.mono (by omega)))
      have HR := Lib.hid hB2
      have hb2 := hb1.trans (hb2.mono (by omega))
      have hz2 : w.heap.size + 1 < w2.heap.size := by omega
      clear hs1 hB1 hb1 hB2 hs2
      refine go_on ?_
      go_wp2_with (first
        | (refine wpList_load_blk rfl 40 (.tmp 4) rfl w.heap.size rfl 40 (rcells vw vc f vo) HX.out.blk _ Tryz.underlying40 rfl SZ.out ?_)
        | (refine wpList_store_blk rfl 40 (.tmp 8) (.tmp 30) rfl (w.heap.size + 1) rfl (rcells vw vc f vo) rfl 40 (rnil) HR.out SZ.out rfl O0.out ?_; intro w9 hR9 hg9 hs9))
      refine bodyPost_ret (res_cell_tmp2 rfl rfl hR9 Tryz.underlying40 rfl SZ.out) rfl ⟨_, _, _, _, rfl, HX.out.rin.far HR.out rnil_slices hg9, hb2.grown hg9 hb2.size (fun k hk => by cases hk; omega)⟩
    · by_cases h6 : 6 < n
      · clear hbad I
        go_enter Tryz.func58, Tryz.ntmps58
        go_wp2_with (first
          | (refine wpList_new rfl (.box 40 (.tmp 0)) rfl w.heap.size rfl 40 (rcells vw vc f vo) (by kernel_rfl) ?_; intro w1 hs1 hb1 hB1)
          | (refine wpList_new rfl (.alloc 40) rfl (w.heap.size + 1) hs1 40 rnil (by kernel_rfl) ?_; intro w2 hs2 hb2 hB2; refine stop_here ?_))
        have HX := Lib.hid ((show RBox Q w1 w.heap.size S vw vc f vo from ⟨hB1, H.out.below hb1⟩).below (hb2.mono (by omega)))
        have HR := Lib.hid hB2
        have hb2 := hb1.trans (hb2.mono (by omega))
        have hz2 : w.heap.size + 1 < w2.heap.size := by omega
        clear hs1 hB1 hb1 hB2 hs2
        refine go_on ?_
        go_wp2_with (first
          | (refine wpList_load_blk rfl 40 (.tmp 4) rfl w.heap.size rfl 40 (rcells vw vc f vo) HX.out.blk _ Tryz.underlying40 rfl SZ.out ?_)
          | (refine wpList_store_blk rfl 40 (.tmp 8) (.tmp 30) rfl (w.heap.size + 1) rfl (rcells vw vc f vo) rfl 40 (rnil) HR.out SZ.out rfl O0.out ?_; intro w9 hR9 hg9 hs9))
        refine bodyPost_ret (res_cell_tmp2 rfl rfl hR9 Tryz.underlying40 rfl SZ.out) rfl ⟨_, _, _, _, rfl, HX.out.rin.far HR.out rnil_slices hg9, hb2.grown hg9 hb2.size (fun k hk => by cases hk; omega)⟩
      · have hmk : decide (mask / 2 ^ n.toNat ≠ 0) = true := by
          rw [decide_eq_true_iff]
          rcases hbad with hb | hb | hb
          · exact absurd hb h1
          · exact absurd hb h6
          · exact hb
        have HV := Lib.hid (fun wx => show Calls Tryz.prog 85 #[.int .u8 mask, .int .i64 n] wx fun e w' => e = .returned (.bool true) ∧ wx = w' by rw [← hmk]; exact rover_ok mask n wx hm0 hm1 (by omega) (by omega))
        clear hbad I hmk
        go_enter Tryz.func58, Tryz.ntmps58
        go_wp2_with (first
          | (refine wpList_new rfl (.box 40 (.tmp 0)) rfl w.heap.size rfl 40 (rcells vw vc f vo) (by kernel_rfl) ?_; intro w1 hs1 hb1 hB1)
          | (refine wpList_new rfl (.alloc 40) rfl (w.heap.size + 1) hs1 40 rnil (by kernel_rfl) ?_; intro w2 hs2 hb2 hB2; refine stop_here ?_))
        have HX := Lib.hid ((show RBox Q w1 w.heap.size S vw vc f vo from ⟨hB1, H.out.below hb1⟩).below (hb2.mono (by omega)))
        have HR := Lib.hid hB2
        have hb2 := hb1.trans (hb2.mono (by omega))
        have hz2 : w.heap.size + 1 < w2.heap.size := by omega
        clear hs1 hB1 hb1 hB2 hs2
        refine go_on ?_
        go_wp2_with fail
        refine (HV.out _).mono ?_
        rintro e w' ⟨rfl, rfl⟩
        go_wp2_with (first
          | (refine wpList_load_blk rfl 40 (.tmp 4) rfl w.heap.size rfl 40 (rcells vw vc f vo) HX.out.blk _ Tryz.underlying40 rfl SZ.out ?_)
          | (refine wpList_store_blk rfl 40 (.tmp 8) (.tmp 30) rfl (w.heap.size + 1) rfl (rcells vw vc f vo) rfl 40 (rnil) HR.out SZ.out rfl O0.out ?_; intro w9 hR9 hg9 hs9))
        refine bodyPost_ret (res_cell_tmp2 rfl rfl hR9 Tryz.underlying40 rfl SZ.out) rfl ⟨_, _, _, _, rfl, HX.out.rin.far HR.out rnil_slices hg9, hb2.grown hg9 hb2.size (fun k hk => by cases hk; omega)⟩
  · have hmk' : decide (mask / 2 ^ n.toNat ≠ 0) = false := by rw [decide_eq_false_iff_not]; simp [hmk]
    have HV := Lib.hid (fun wx => show Calls Tryz.prog 85 #[.int .u8 mask, .int .i64 n] wx fun e w' => e = .returned (.bool false) ∧ wx = w' by rw [← hmk']; exact rover_ok mask n wx hm0 hm1 h1 h6)
    replace I := Lib.hid I
    replace hf := Lib.hid hf
    have s1 : ¬ n < 1 := by omega
    have s6 : ¬ 6 < n := by omega
    clear hmk hmk'
    go_enter Tryz.func58, Tryz.ntmps58
    go_wp2_with (first
      | (refine wpList_new rfl (.box 40 (.tmp 0)) rfl w.heap.size rfl 40 (rcells vw vc f vo) (by kernel_rfl) ?_; intro w1 hs1 hb1 hB1)
      | (refine wpList_new rfl (.alloc 40) rfl (w.heap.size + 1) hs1 40 rnil (by kernel_rfl) ?_; intro w2 hs2 hb2 hB2; refine stop_here ?_))
    have HX := Lib.hid ((show RBox Q w1 w.heap.size S vw vc f vo from ⟨hB1, H.out.below hb1⟩).below (hb2.mono (by omega)))
    have HR := Lib.hid hB2
    have hb2 := hb1.trans (hb2.mono (by omega))
    have hz2 : w.heap.size + 1 < w2.heap.size := by omega
    clear hs1 hB1 hb1 hB2 hs2
    refine go_on ?_
    go_wp2_with fail
    refine (HV.out _).mono ?_
    rintro e w' ⟨rfl, rfl⟩
    go_wp2_with (refine wpList_load_blk rfl 40 (.tmp 4) rfl w.heap.size rfl 40 (rcells vw vc f vo) HX.out.blk _ Tryz.underlying40 rfl SZ.out ?_)
    refine (rfits_ok S _ _ _ _ _ HX.out.rin I.out.toInv0 n).mono ?_
    rintro e w3 ⟨rfl, hb3⟩
    rw [hf.out]
    have HX3 := Lib.hid (HX.out.below hb3)
    have HR3 := Lib.hid (HR.out.below hb3 HR.out.lt)
    have b3 := below_all hb2 hb3
    clear HX HR hb3 hb2
    go_wp2_with (first
      | (refine wpList_load_blk rfl 40 (.tmp 4) rfl w.heap.size rfl 40 (rcells vw vc f vo) HX3.out.blk _ Tryz.underlying40 rfl SZ.out ?_)
      | (refine wpList_store_blk rfl 40 (.tmp 8) (.tmp 35) rfl (w.heap.size + 1) rfl (rcells vw vc f vo) rfl 40 (rnil) HR3.out SZ.out rfl O0.out ?_; intro w9 hR9 hg9 hs9))
    refine bodyPost_ret (res_cell_tmp2 rfl rfl hR9 Tryz.underlying40 rfl SZ.out) rfl ⟨_, _, _, _, rfl, HX3.out.rin.far HR3.out rnil_slices hg9, b3.grown hg9 b3.size (fun k hk => by cases hk; omega)⟩
end Go.Proofs.YtcaboknbdamlhaaGreatDoor
namespace Go.Proofs.YtcaboknbdamlhaaGreatDoor
open Go.RowKit Go.Shelf
theorem range7 {Q : Nat → Prop} {w : World} {g : Nat} {S : HS} {vw vc vo : Value} {f : Nat → Value} (H : RBox Q w g S vw vc f vo) : w.rangeAt g 0 [vw, vc, f 0, f 1, f 2, f 3, vo] := World.rangeAt_of_block H.blk 0 7
set_option maxHeartbeats 12800000 in
set_option maxRecDepth 100000 in
theorem ralloc_yes {Q : Nat → Prop} (S : HS) (vw vc vo : Value) (f : Nat → Value) (w : World) (H : RIn Q w S vw vc f vo) (hQ : New Q w) (I : Inv S) (n mask junk : Int) (hm0 : 0 ≤ mask) (hm1 : mask ≤ 255) (h1 : 1 ≤ n) (h6 : n ≤ 6) (hmk : mask / 2 ^ n.toNat = 0) (hf : sFits S n = true) :
    Calls Tryz.prog 58 #[.agg (rcells vw vc f vo), .int .i64 n, .int .u8 mask, .int .i64 junk] w (RetHPE Q w (sAlloc S n mask junk).1 (sAlloc S n mask junk).2.1 (sAlloc S n mask junk).2.2) := by
  have SZ := Lib.hid rh_size
  have O0 := Lib.hid (slices_one H.slices)
  have hmk' : decide (mask / 2 ^ n.toNat ≠ 0) = false := by rw [decide_eq_false_iff_not]; simp [hmk]
  have HV := Lib.hid (fun wx => show Calls Tryz.prog 85 #[.int .u8 mask, .int .i64 n] wx fun e w' => e = .returned (.bool false) ∧ wx = w' by rw [← hmk']; exact rover_ok mask n wx hm0 hm1 h1 h6)
  have ea : sAlloc S n mask junk = (sTake (sRoom S (classNat n)) (classNat n) n mask junk, lastOf ((sRoom S (classNat n)).free (classNat n)), 0) := by
    unfold sAlloc
    rw [if_neg (by omega), if_neg (by rw [hf]; simp)]
  rw [ea]
  obtain ⟨r1, r2, r3, r4, r5, -⟩ := room_inv I hf
  have hrm := (fits_room hf).2.2
  obtain ⟨e1, e2⟩ := classNat_eq h1 h6
  obtain ⟨c, hc⟩ : ∃ c, c = classNat n := ⟨_, rfl⟩
  rw [← hc] at e1 e2 r1 r2 r3 r4 r5 hrm ⊢
  obtain ⟨-, t2, -⟩ := take_inv (mask := 0) (junk := 0) r1 e2 r2 h1 h6 e1 (by omega) (by omega) (by omega)
  have hend := t2.ends.2
  have hp1 := t2.1
  have hp2 := t2.2.1
  have hrw := r1.wl
  have hrn := r1.n2
  have HO := Lib.hid (fun wx => show Calls Tryz.prog 87 #[.int .i64 n] wx fun e w' => e = .returned (.int .i64 (c : Int)) ∧ wx = w' by rw [← e1]; exact rof_ok n wx)
  obtain ⟨pk, hpk⟩ : ∃ pk : Nat, lastOf ((sRoom S c).free c) = (pk : Int) := ⟨(lastOf ((sRoom S c).free c)).toNat, by omega⟩
  obtain ⟨W, hW⟩ : ∃ W : Nat, wordsOf (c : Int) = (W : Int) := ⟨(wordsOf (c : Int)).toNat, by have := words_bd (c : Int); omega⟩
  have hTk : takeL (sRoom S c).free (c : Int) = (popL (sRoom S c).free c, (pk : Int), 0) := by
    unfold takeL
    rw [if_neg (by omega), Int.toNat_natCast, if_neg (by omega), hpk]
  have hSh : ∀ j, j < 4 → ((sRoom S c).free j).length ≤ 1099511627776 := fun j hj => by have := r1.free_len hj; omega
  have hst : sTake (sRoom S c) c n mask junk = { sRoom S c with free := popL (sRoom S c).free c, words := fillW (sRoom S c).words pk junk W, objs := insO ((pk : Int), n, mask) (sRoom S c).objs } := by
    unfold sTake
    rw [hpk, hW, Int.toNat_natCast, Int.toNat_natCast]
  rw [hst, hpk]
  rw [hW, hpk] at hend
  have HW := Lib.hid (fun wx => show Calls Tryz.prog 92 #[.int .i64 (c : Int)] wx fun e w' => e = .returned (.int .i64 (W : Int)) ∧ wx = w' by rw [← hW]; exact rwords_ok _ wx)
  have hpw : pk + W ≤ (sRoom S c).words.length := by omega
  have hwl5 : (sRoom S c).words.length ≤ 5000 := by omega
  have hol : (sRoom S c).objs.length ≤ 4096 := r1.objs_len
  have hpk9 : pk ≤ 5000 := by omega
  have s1 : ¬ n < 1 := by omega
  have s6 : ¬ 6 < n := by omega
  have k0 : (0 : Int) ≤ (c : Int) := by omega
  have k1 : (c : Int) < 4 := by omega
  obtain ⟨T, hT⟩ : ∃ T, T = sRoom S c := ⟨_, rfl⟩
  rw [← hT] at hTk hSh hpw hwl5 hol ⊢
  obtain ⟨Af, cf, ef, -⟩ := (H.fr c e2).len
  have hfl := I.free_len e2
  replace H := Lib.hid H
  replace hQ := Lib.hid hQ
  replace I := Lib.hid I
  replace hf := Lib.hid hf
  replace hTk := Lib.hid hTk
  replace hSh := Lib.hid hSh
  replace hT := Lib.hid hT
  replace hrm := Lib.hid hrm
  replace ef := Lib.hid ef
  clear hmk hmk' ea r1 r2 r3 r4 r5 t2 hp1 hp2 hrw hrn e1 hW hst hc hpk
  go_enter Tryz.func58, Tryz.ntmps58
  go_wp2_with (first
    | (refine wpList_new rfl (.box 40 (.tmp 0)) rfl w.heap.size rfl 40 (rcells vw vc f vo) (by kernel_rfl) ?_; intro w1 hs1 hb1 hB1)
    | (refine wpList_new rfl (.alloc 40) rfl (w.heap.size + 1) hs1 40 rnil (by kernel_rfl) ?_; intro w2 hs2 hb2 hB2; refine stop_here ?_))
  have HX := Lib.hid ((show RBox Q w1 w.heap.size S vw vc f vo from ⟨hB1, H.out.below hb1⟩).below (hb2.mono (by omega)))
  have HR := Lib.hid hB2
  have hb2 := hb1.trans (hb2.mono (by omega))
  have hz2 : w.heap.size + 1 < w2.heap.size := by omega
  clear hs1 hB1 hb1 hB2 hs2
  refine go_on ?_
  go_wp2_with fail
  refine (HV.out _).mono ?_
  rintro e w' ⟨rfl, rfl⟩
  go_wp2_with (refine wpList_load_blk rfl 40 (.tmp 4) rfl w.heap.size rfl 40 (rcells vw vc f vo) HX.out.blk _ Tryz.underlying40 rfl SZ.out ?_)
  refine (rfits_ok S _ _ _ _ _ HX.out.rin I.out.toInv0 n).mono ?_
  rintro e w3 ⟨rfl, hb3⟩
  rw [hf.out]
  have HX3 := Lib.hid (HX.out.below hb3)
  have HR3 := Lib.hid (HR.out.below hb3 HR.out.lt)
  have b3 := below_all hb2 hb3
  have cfc := HX3.out.free_cell e2
  rw [ef.out] at cfc
  clear HX HR hb3 hb2 hz2 HV
  by_cases hz : (S.free c).length = 0
  · have er : T = sCut S c := by rw [hT.out]; unfold sRoom; rw [if_pos hz]
    have hx : (-1 : Int) ∈ S.cls := hrm.out.resolve_left (by omega)
    rw [hz] at cfc
    have hg3 : w.heap.size < w3.heap.size := HX3.out.blk.lt
    replace hx := Lib.hid hx
    replace er := Lib.hid er
    clear hz
    go_wp2_with (go_at_call 87; refine (HO.out _).mono ?_; rintro e w' ⟨rfl, rfl⟩)
    have hS0 : (fun X : World => Below w3.heap.size w3 X) w3.drew := (Below.refl _ _).drew
    refine wp_T (by kernel_rfl) 5 (fun X : World => Below w3.heap.size w3 X) ?_
    refine wpAnyT_take (i := 0) (v := .agg #[vw, vc, f 0, f 1, f 2, f 3, vo]) rfl (by kernel_rfl) (fun _ _ _ hp => hp) (yieldsIf_load_mid (by rfl) _ _ rfl w.heap.size 0 rfl [vw, vc, f 0, f 1, f 2, f 3, vo] _ (fun X hX => World.rangeAt_of_block (HX3.out.below hX).blk 0 7) Tryz.underlying40 rfl rh_size) hS0 ?_
    simp only [Act.put, List.setIfInBounds_toArray, List.set_cons_zero, List.set_cons_succ]
    refine wpAnyT_take (i := 1) (v := .agg #[vw, vc, f 0, f 1, f 2, f 3, vo]) rfl (by kernel_rfl) (fun _ _ _ hp => hp) (yieldsIf_load_mid (by rfl) _ _ rfl w.heap.size 0 rfl [vw, vc, f 0, f 1, f 2, f 3, vo] _ (fun X hX => World.rangeAt_of_block (HX3.out.below hX).blk 0 7) Tryz.underlying40 rfl rh_size) hS0 ?_
    simp only [Act.put, List.setIfInBounds_toArray, List.set_cons_zero, List.set_cons_succ]
    refine wpAnyT_takeW (i := 3) (v := .int .i64 (c : Int)) rfl (by kernel_rfl) (fun _ _ _ hp => hp) (Or.inl ⟨by rfl, fun X _ => by go_simp⟩) hS0 ?_
    simp only [Act.put, List.setIfInBounds_toArray, List.set_cons_zero, List.set_cons_succ]
    refine wpAnyT_one (i := 2) rfl (by kernel_rfl) (by rfl) ?_
    intro K1 hK1
    go_simp
    refine (rspan_ok S vw vc vo f _ (HX3.out.rin.below hS0) (by have := I.out.cl; have := I.out.n2; omega)).mono ?_
    rintro e w4 ⟨⟨r, rfl, hsp⟩, hb4⟩
    dsimp only
    have hS1 : (fun X : World => Below w3.heap.size w3 X) w4 := Below.trans hS0 (Below.mono hb4 (Below.size hS0))
    refine hK1.out _ _ (fun _ => hS1) ?_
    (try simp only [Act.put, List.setIfInBounds_toArray, List.set_cons_zero, List.set_cons_succ])
    obtain rfl := span_ix I.out.toInv0 hsp hx.out
    refine wpAnyT_one (i := 4) rfl (by kernel_rfl) (by rfl) ?_
    intro K2 hK2
    go_simp
    refine (rcutH_ok S vw vc vo f _ (HX3.out.rin.below hS1) (hQ.out.le (Nat.le_trans b3.size (Below.size hS1))) I.out.toInv0 (S.cls.idxOf (-1)) c e2 hx.out rfl).mono ?_
    rintro e w6 ⟨vw6, vc6, f6, vo6, rfl, hr6, hb6⟩
    dsimp only
    have hS2 : (fun X : World => Below w3.heap.size w3 X) w6 := Below.trans hS1 (Below.mono hb6 (Below.size hS1))
    refine hK2.out _ _ (fun _ => hS2) ?_
    (try simp only [Act.put, List.setIfInBounds_toArray, List.set_cons_zero, List.set_cons_succ])
    refine wpAnyT_one (i := 5) rfl (by kernel_rfl) (by rfl) ?_
    intro K3 hK3
    refine wp_store_blk 40 _ _ rfl w.heap.size rfl (rcells vw6 vc6 f6 vo6) rfl 40 (rcells vw vc f vo) (HX3.out.below hS2).blk rh_size rfl (slices_one hr6.slices) ?_
    intro w7 hR7 hg7 hs7
    refine hK3.out _ _ (fun hh => absurd rfl hh) ?_
    (try simp only [Act.put, List.setIfInBounds_toArray, List.set_cons_zero, List.set_cons_succ])
    refine wpAnyT_done (by kernel_rfl) ?_ _
    (try simp only [Act.put, List.setIfInBounds_toArray, List.set_cons_zero, List.set_cons_succ])
    clear hK1 K1 hK2 K2 hK3 K3
    have HX7 := RBox.all (HX3.out.below hS2).blk HX3.out.rin.slices hg7 hR7 hr6
    rw [← er.out] at HX7
    replace HX7 := Lib.hid HX7
    have HR7 := Lib.hid ((HR3.out.below hS2 HR3.out.lt).grown hg7 (fun e => by injection e with e; omega))
    have b7 := (below_all b3 hS2).grown hg7 (below_all b3 hS2).size (fun k hk => by cases hk; exact Nat.le_refl _)
    clear hS2 hS1 hS0 hsp hb4 hb6 hr6 hR7 hg7 hs7 HX3 HR3 b3 cfc hg3
    obtain ⟨w7, rfl⟩ : ∃ wx : World, wx = w7 := ⟨_, rfl⟩
    have HTk : Hid (Calls Tryz.prog 90 #[.agg (arr4 f6), .int .i64 (c : Int)] w7 fun e w' => ∃ v, e = .returned (.tuple #[v, .int .i64 (pk : Int), .int .i64 0]) ∧ RdQ Q w' v (popL T.free c) ∧ Below w7.heap.size w7 w') := Lib.hid (by
      have h9 := rtake_q Q f6 T.free (c : Int) w7 (fun j hj => HX7.out.rin.fr j hj) hSh.out HX7.out.rin.qf
      rw [hTk.out] at h9
      exact h9)
    go_wp2_with (first
      | (refine wpList_load_mid rfl 37 (.tmp 50) rfl w.heap.size 2 rfl [f6 0, f6 1, f6 2, f6 3] _ HX7.out.range4 rarr_row rfl rarr_size ?_)
      | (go_at_call 90; refine HTk.out.mono ?_; rintro e w8 ⟨v8, rfl, ⟨f8, rfl, hr8, hq8⟩, hb8⟩; replace hq8 := Lib.hid hq8; refine stop_here ?_))
    have O8 := Lib.hid (arr4_one fun j hj => rd_one (hr8 j hj))
    have X8 := Lib.hid (HX7.out.below hb8)
    have R8 := Lib.hid (HR7.out.below hb8 HR7.out.lt)
    have b8 := Lib.hid (below_all b7 hb8)
    replace hr8 := Lib.hid hr8
    clear HX7 HR7 HTk hb8 b7
    refine go_on ?_
    go_wp2_with (first
      | (refine wpList_new rfl (.alloc 37) rfl w8.heap.size rfl 37 nil4 (by kernel_rfl) ?_; intro w9 hs9 hb9 hB9; have HB9 := Lib.hid hB9; clear hB9 hs9)
      | (refine wpList_store_blk rfl 37 (.tmp 12) (.tmp 54) rfl w8.heap.size rfl (arr4 f8) rfl 37 nil4 HB9.out rarr_size rfl O8.out ?_; intro w10 hB10 hg10 hs10; refine stop_here ?_))
    have h810 : Below w8.heap.size w8 w10 := hb9.grown hg10 hb9.size (fun k hk => by cases hk; exact Nat.le_refl _)
    have X10 := Lib.hid (X8.out.below h810)
    have R10 := R8.out.below h810 R8.out.lt
    have b10 := below_all b8.out h810
    have hr10 : ∀ j, j < 4 → Rd i64e w10 (f8 j) (popL T.free c j) := fun j hj => (hr8.out j hj).below h810
    have X11 := Lib.hid (X10.out.set_free hr10 hq8.out)
    have R11 := Lib.hid (show Blk (w10.setCells w.heap.size 2 (arr4 f8).toList) (w.heap.size + 1) 40 rnil from (set4_other w10 w.heap.size f8 (by omega)).trans R10)
    have b11 : Below w.heap.size w (w10.setCells w.heap.size 2 (arr4 f8).toList) := b10.grown (grown_set4 w10 w.heap.size f8) b10.size (fun k hk => by cases hk; exact Nat.le_refl _)
    have V10 := Lib.hid hB10
    have T10 := Lib.hid (X10.out.there4 f8)
    clear h810 hB10 hr10 R10 b10 hg10 hs10 hb9 HB9 X8 R8 b8 hr8
    refine go_on ?_
    go_wp2_with (first
      | (refine wpList_load_blk rfl 37 (.tmp 12) rfl w8.heap.size rfl 37 (arr4 f8) V10.out _ rarr_row rfl rarr_size ?_)
      | (refine wpList_store_mid rfl 37 (.tmp 58) (.tmp 57) rfl w.heap.size 2 (arr4 f8) rfl rfl T10.out rarr_size O8.out ?_; refine stop_here ?_))
    generalize w10.setCells w.heap.size 2 (arr4 f8).toList = w11 at X11 R11 b11 ⊢
    clear V10 T10 X10 O8
    refine go_on ?_
    go_wp2_with fail
    have hg11 : w.heap.size < w11.heap.size := X11.out.blk.lt
    have hS0 : (fun X : World => Below w11.heap.size w11 X) w11.drew := (Below.refl _ _).drew
    refine wp_T (by kernel_rfl) 6 (fun X : World => Below w11.heap.size w11 X) ?_
    refine wpAnyT_take (i := 0) (v := .agg #[vw6, vc6, f8 0, f8 1, f8 2, f8 3, vo6]) rfl (by kernel_rfl) (fun _ _ _ hp => hp) (yieldsIf_load_mid (by rfl) _ _ rfl w.heap.size 0 rfl [vw6, vc6, f8 0, f8 1, f8 2, f8 3, vo6] _ (fun X hX => World.rangeAt_of_block (X11.out.below hX).blk 0 7) Tryz.underlying40 rfl rh_size) hS0 ?_
    simp only [Act.put, List.setIfInBounds_toArray, List.set_cons_zero, List.set_cons_succ]
    refine wpAnyT_takeW (i := 1) (v := .int .i64 (pk : Int)) rfl (by kernel_rfl) (fun _ _ _ hp => hp) (Or.inl ⟨by rfl, fun X _ => by go_simp⟩) hS0 ?_
    simp only [Act.put, List.setIfInBounds_toArray, List.set_cons_zero, List.set_cons_succ]
    refine wpAnyT_takeW (i := 2) (v := .int .i64 (c : Int)) rfl (by kernel_rfl) (fun _ _ _ hp => hp) (Or.inl ⟨by rfl, fun X _ => by go_simp⟩) hS0 ?_
    simp only [Act.put, List.setIfInBounds_toArray, List.set_cons_zero, List.set_cons_succ]
    refine wpAnyT_takeW (i := 4) (v := .int .i64 junk) rfl (by kernel_rfl) (fun _ _ _ hp => hp) (Or.inl ⟨by rfl, fun X _ => by go_simp⟩) hS0 ?_
    simp only [Act.put, List.setIfInBounds_toArray, List.set_cons_zero, List.set_cons_succ]
    refine wpAnyT_one (i := 3) rfl (by kernel_rfl) (by rfl) ?_
    intro K1 hK1
    go_simp
    refine (HW.out _).mono ?_
    rintro e _ ⟨rfl, rfl⟩
    dsimp only
    refine hK1.out _ _ (fun _ => hS0) ?_
    (try simp only [Act.put, List.setIfInBounds_toArray, List.set_cons_zero, List.set_cons_succ])
    refine wpAnyT_one (i := 5) rfl (by kernel_rfl) (by rfl) ?_
    intro K2 hK2
    go_simp
    refine (rfill_ok { T with free := popL T.free c } vw6 vc6 vo6 f8 _ (X11.out.rin.below hS0) (hQ.out.le (Nat.le_trans b11.size (Below.size hS0))) pk W junk hwl5 hpw).mono ?_
    rintro e w12 ⟨vw12, vc12, f12, vo12, rfl, hr12, hb12⟩
    dsimp only
    have hS2 : (fun X : World => Below w11.heap.size w11 X) w12 := Below.trans hS0 (Below.mono hb12 (Below.size hS0))
    refine hK2.out _ _ (fun _ => hS2) ?_
    (try simp only [Act.put, List.setIfInBounds_toArray, List.set_cons_zero, List.set_cons_succ])
    refine wpAnyT_one (i := 6) rfl (by kernel_rfl) (by rfl) ?_
    intro K3 hK3
    refine wp_store_blk 40 _ _ rfl w.heap.size rfl (rcells vw12 vc12 f12 vo12) rfl 40 (rcells vw6 vc6 f8 vo6) (X11.out.below hS2).blk rh_size rfl (slices_one hr12.slices) ?_
    intro w13 hR13 hg13 hs13
    refine hK3.out _ _ (fun hh => absurd rfl hh) ?_
    (try simp only [Act.put, List.setIfInBounds_toArray, List.set_cons_zero, List.set_cons_succ])
    refine wpAnyT_done (by kernel_rfl) ?_ _
    (try simp only [Act.put, List.setIfInBounds_toArray, List.set_cons_zero, List.set_cons_succ])
    clear hK1 K1 hK2 K2 hK3 K3
    have X13 := Lib.hid (RBox.all (X11.out.below hS2).blk X11.out.rin.slices hg13 hR13 hr12)
    have R13 := Lib.hid ((R11.out.below hS2 R11.out.lt).grown hg13 (fun e => by injection e with e; omega))
    have b13 := Lib.hid ((below_all b11 hS2).grown hg13 (below_all b11 hS2).size (fun k hk => by cases hk; exact Nat.le_refl _))
    clear hS2 hS0 hR13 hg13 hs13 hr12 hb12 X11 R11 b11 hg11
    go_wp2_with (first
      | (refine wpList_new rfl (.alloc 84) rfl w13.heap.size rfl 84 #[.int .i64 0, .int .i64 0, .int .u8 0] (by kernel_rfl) ?_; intro w9 hs9 hb9 hB9; have HB9 := Lib.hid hB9; clear hB9 hs9)
      | (refine wpList_store_blk rfl 84 (.tmp 17) (.tmp 68) rfl w13.heap.size rfl #[.int .i64 (pk : Int), .int .i64 n, .int .u8 mask] rfl 84 #[.int .i64 0, .int .i64 0, .int .u8 0] HB9.out obj_size rfl (by simp [Value.oneCell']) ?_; intro w14 hB14 hg14 hs14; refine stop_here ?_))
    have h1314 : Below w13.heap.size w13 w14 := hb9.grown hg14 hb9.size (fun k hk => by cases hk; exact Nat.le_refl _)
    have X14 := Lib.hid (X13.out.below h1314)
    have R14 := Lib.hid (R13.out.below h1314 R13.out.lt)
    have b14 := Lib.hid (below_all b13.out h1314)
    have V14 := Lib.hid hB14
    have g13 : w13.heap.size < w14.heap.size := hB14.lt
    have g14 : w.heap.size + 1 < w14.heap.size := R14.out.lt
    have hown0 := Lib.hid (World.ownsRow_nil w14 w14.heap.size 84 3)
    clear hB14 hg14 hs14 h1314 hb9 HB9 X13 R13 b13
    obtain ⟨Ao, co, rfl, -⟩ := X14.out.rin.objs.len
    have hlo : ({ T with free := popL T.free c, words := fillW T.words pk junk W } : HS).objs.length = T.objs.length := rfl
    rw [hlo] at X14 ⊢
    clear hlo
    refine go_on ?_
    go_wp2_with fail
    go_loopw [15, 16, 18] (fun l d i wr => ∃ (k : Nat) (A : Option Addr) (cc : Nat) (b : Bool) (xs : List (Int × Int × Int)), k ≤ T.objs.length ∧ i = .int .i64 k ∧ d = .bool b ∧ l = .slice A xs.length cc ∧ Hid (b = hasGt ((pk : Int), n, mask) (T.objs.take k)) ∧ Hid (xs = insP ((pk : Int), n, mask) (T.objs.take k)) ∧ Hid (wr.ownsRow w14.heap.size 84 3 (.slice A xs.length cc) xs.length (xs.flatMap objC)) ∧ Hid (Below w14.heap.size w14 wr)) (fun _ _ i _ => T.objs.length - (intOf i).toNat)
    case atStart => exact ⟨0, none, 0, false, [], by omega, rfl, rfl, rfl, Lib.hid rfl, Lib.hid rfl, hown0, Lib.hid (Below.refl _ _)⟩
    case round =>
      clear hown0
      obtain ⟨k, A, cc, b, xs, hk, rfl, rfl, rfl, hbb, hxs, hown, hbr⟩ := hrel
      have X := Lib.hid (X14.out.below hbr.out)
      have V := V14.out.below hbr.out g13
      have c6 := X.out.cells.2.2.2.2.2.2
      have o0 := V.cell 0
      have o1 := V.cell 1
      have o2 := V.cell 2
      have hxl : xs.length ≤ 5000 := by have := insP_len ((pk : Int), n, mask) (T.objs.take k); rw [← hxs.out] at this; have h9 : (T.objs.take k).length ≤ k := List.length_take_le _ _; omega
      have hzr : w14.heap.size ≤ wr.heap.size := hbr.out.size
      by_cases hlt : k < T.objs.length
      · have t0 : (k : Int) < (T.objs.length : Int) := by omega
        have hts : T.objs.take (k + 1) = T.objs.take k ++ [T.objs[k]] := by rw [List.take_succ_eq_append_getElem hlt]
        obtain ⟨bo, oo, rfl, hbol, hc⟩ := X.out.rin.objs.at_ (i := k) hlt
        obtain ⟨x, hx⟩ : ∃ x, x = T.objs[k] := ⟨_, rfl⟩
        have hc' : ∀ j u, (objC x)[j]? = some u → wr.cell? ⟨bo, oo + k * 3 + j, none⟩ = some u := by rw [hx]; exact hc
        rw [← hx] at hts
        obtain ⟨x1, x2, x3⟩ := x
        have d0 : wr.cell? ⟨bo, oo + k * 3, none⟩ = some (.int .i64 x1) := hc' 0 _ rfl
        have d1 := hc' 1 _ rfl
        have d2 := hc' 2 _ rfl
        clear hc hc' hx
        replace hts := Lib.hid hts
        rcases b with _ | _
        · by_cases hpx : (pk : Int) < x1
          · have t1 : decide ((pk : Int) < x1) = true := decide_eq_true hpx
            go_wp2_with (refine wpList_push3 rfl (.tmp 88) (.tmp 90) rfl w14.heap.size _ xs rfl hown.out ((pk : Int), n, mask) rfl hxl hzr ?_; intro ys A2 cc2 w15 hys hown2 hbw2; replace hys := Lib.hid hys; refine stop_here ?_)
            have hbol2 : bo < w14.heap.size := by
              obtain ⟨b9, o9, e9, h9, _⟩ := X14.out.rin.objs.at_ (i := k) hlt
              cases e9
              exact h9
            have e0 := (hbw2.cell (p := ⟨bo, oo + k * 3, none⟩) hbol2).trans d0
            have e1 := (hbw2.cell (p := ⟨bo, oo + k * 3 + 1, none⟩) hbol2).trans d1
            have e2 := (hbw2.cell (p := ⟨bo, oo + k * 3 + 2, none⟩) hbol2).trans d2
            have f6 := (hbw2.cell (p := ⟨w.heap.size, 6, none⟩) (show w.heap.size < w14.heap.size by omega)).trans c6
            have hbr2 := Lib.hid (hbr.out.trans hbw2)
            have hzr2 : w14.heap.size ≤ w15.heap.size := Nat.le_trans hzr hbw2.size
            have hxl2 : (xs ++ [((pk : Int), n, mask)]).length ≤ 5000 := by
              have h8 := insP_len ((pk : Int), n, mask) (T.objs.take k)
              rw [← hxs.out] at h8
              have h9 : (T.objs.take k).length ≤ k := List.length_take_le _ _
              simp
              omega
            have hnew : Hid (xs ++ [((pk : Int), n, mask)] ++ [(x1, x2, x3)] = insP ((pk : Int), n, mask) (T.objs.take (k + 1))) := Lib.hid (by rw [hts.out, insP_lt hbb.out.symm hpx, hxs.out])
            have hbn : Hid (true = hasGt ((pk : Int), n, mask) (T.objs.take (k + 1))) := Lib.hid (by rw [hts.out, hasGt_snoc, decide_eq_true hpx]; simp)
            rw [← hys.out] at hxl2 hnew
            replace hown2 := Lib.hid hown2
            clear hbw2 o0 o1 o2 d0 d1 d2 c6 hown hys
            refine go_on ?_
            go_wp2_with (refine wpList_push3 rfl (.tmp 92) (.tmp 98) rfl w14.heap.size _ ys rfl hown2.out (x1, x2, x3) rfl hxl2 hzr2 ?_; intro zs A3 cc3 w16 hzs hown3 hbw3; replace hzs := Lib.hid hzs; refine stop_here ?_)
            have hbr3 := Lib.hid (hbr2.out.trans hbw3)
            rw [← hzs.out] at hnew
            replace hown3 := Lib.hid hown3
            clear hbw3 hzs
            refine go_on ?_
            go_wp2_with fail
            go_roundw
            case rel => exact ⟨k + 1, A3, cc3, true, zs, by omega, by go_num, rfl, rfl, hbn, hnew, hown3, hbr3⟩
            case measure => simp [intOf]; omega
          · have t1 : decide ((pk : Int) < x1) = false := decide_eq_false hpx
            have hnew : Hid (xs ++ [(x1, x2, x3)] = insP ((pk : Int), n, mask) (T.objs.take (k + 1))) := Lib.hid (by rw [hts.out, insP_ge hbb.out.symm hpx, hxs.out])
            have hbn : Hid (false = hasGt ((pk : Int), n, mask) (T.objs.take (k + 1))) := Lib.hid (by rw [hts.out, hasGt_snoc, decide_eq_false hpx, ← hbb.out]; rfl)
            go_wp2_with (refine wpList_push3 rfl (.tmp 92) (.tmp 98) rfl w14.heap.size _ xs rfl hown.out (x1, x2, x3) rfl hxl hzr ?_; intro zs A3 cc3 w16 hzs hown3 hbw3; replace hzs := Lib.hid hzs; refine stop_here ?_)
            have hbr3 := Lib.hid (hbr.out.trans hbw3)
            rw [← hzs.out] at hnew
            replace hown3 := Lib.hid hown3
            clear hbw3 hzs
            refine go_on ?_
            go_wp2_with fail
            go_roundw
            case rel => exact ⟨k + 1, A3, cc3, false, zs, by omega, by go_num, rfl, rfl, hbn, hnew, hown3, hbr3⟩
            case measure => simp [intOf]; omega
        · have hnew : Hid (xs ++ [(x1, x2, x3)] = insP ((pk : Int), n, mask) (T.objs.take (k + 1))) := Lib.hid (by rw [hts.out, insP_gt hbb.out.symm, hxs.out])
          have hbn : Hid (true = hasGt ((pk : Int), n, mask) (T.objs.take (k + 1))) := Lib.hid (by rw [hts.out, hasGt_snoc, ← hbb.out]; rfl)
          go_wp2_with (refine wpList_push3 rfl (.tmp 92) (.tmp 98) rfl w14.heap.size _ xs rfl hown.out (x1, x2, x3) rfl hxl hzr ?_; intro zs A3 cc3 w16 hzs hown3 hbw3; replace hzs := Lib.hid hzs; refine stop_here ?_)
          have hbr3 := Lib.hid (hbr.out.trans hbw3)
          rw [← hzs.out] at hnew
          replace hown3 := Lib.hid hown3
          clear hbw3 hzs
          refine go_on ?_
          go_wp2_with fail
          go_roundw
          case rel => exact ⟨k + 1, A3, cc3, true, zs, by omega, by go_num, rfl, rfl, hbn, hnew, hown3, hbr3⟩
          case measure => simp [intOf]; omega
      · obtain rfl : k = T.objs.length := by omega
        have t0 : decide (((T.objs.length : Nat) : Int) < ((T.objs.length : Nat) : Int)) = false := by rw [decide_eq_false_iff_not]; omega
        rw [List.take_length] at hbb hxs
        have hfin := Lib.hid (insP_end (o := ((pk : Int), n, mask)) (l := T.objs))
        rcases b with _ | _
        · go_wp2_with (refine wpList_push3 rfl (.tmp 102) (.tmp 104) rfl w14.heap.size _ xs rfl hown.out ((pk : Int), n, mask) rfl hxl hzr ?_; intro zs A3 cc3 w16 hzs hown3 hbw3; replace hzs := Lib.hid hzs; refine stop_here ?_)
          have hbr3 := Lib.hid (hbr.out.trans hbw3)
          have he := Lib.hid (show zs = insO ((pk : Int), n, mask) T.objs by rw [hzs.out, hfin.out, ← hbb.out, if_neg (by simp), hxs.out])
          clear hbw3 hzs
          have X16 := X14.out.below hbr3.out
          have R16 := R14.out.below hbr3.out R14.out.lt
          have hrd := rdc_of_own hown3
          have X17 := X16.set_objs hrd (fun _ b e => hQ.out b (by have := (hown3.lt b e).1; have := b14.out.size; omega))
          have z6 := X16.blk.frozen 6
          have c66 := X16.cells.2.2.2.2.2.2
          have R17 := Lib.hid (R16.far (p := ⟨w.heap.size, 6, none⟩) (by show w.heap.size + 1 ≠ w.heap.size; omega) (.slice A3 zs.length cc3))
          have b17 := Lib.hid ((b14.out.trans (hbr3.out.mono b14.out.size)).setCell (p := ⟨w.heap.size, 6, none⟩) (Nat.le_refl _) (.slice A3 zs.length cc3))
          have O17 := Lib.hid (slices_one X17.rin.slices)
          replace X17 := Lib.hid X17
          clear X16 R16 hrd hown3 X V o0 o1 o2 c6 hown
          refine go_on ?_
          go_wp2_with (first
            | (refine wpList_load_blk rfl 40 (.tmp 4) rfl w.heap.size rfl 40 (rcells vw12 vc12 f12 (.slice A3 zs.length cc3)) X17.out.blk _ Tryz.underlying40 rfl SZ.out ?_)
            | (refine wpList_store_blk rfl 40 (.tmp 8) (.tmp 108) rfl (w.heap.size + 1) rfl (rcells vw12 vc12 f12 (.slice A3 zs.length cc3)) rfl 40 (rnil) R17.out SZ.out rfl O17.out ?_; intro w19 hR19 hg19 hs19))
          refine bodyPost_ret (res_cell_tmp2 rfl rfl hR19 Tryz.underlying40 rfl SZ.out) rfl ⟨_, _, _, _, rfl, (by rw [← he.out]; exact X17.out.rin.far R17.out rnil_slices hg19), b17.out.grown hg19 b17.out.size (fun k hk => by cases hk; omega)⟩
        · have he := Lib.hid (show xs = insO ((pk : Int), n, mask) T.objs by rw [hfin.out, ← hbb.out, if_pos rfl, hxs.out])
          obtain ⟨zs, rfl⟩ : ∃ zs, zs = xs := ⟨_, rfl⟩
          obtain ⟨w16, rfl⟩ : ∃ wx : World, wx = wr := ⟨_, rfl⟩
          obtain ⟨A3, rfl⟩ : ∃ A3, A3 = A := ⟨_, rfl⟩
          obtain ⟨cc3, rfl⟩ : ∃ A3, A3 = cc := ⟨_, rfl⟩
          have hown3 := hown.out
          have hbr3 := hbr
          refine stop_here ?_
          have X16 := X14.out.below hbr3.out
          have R16 := R14.out.below hbr3.out R14.out.lt
          have hrd := rdc_of_own hown3
          have X17 := X16.set_objs hrd (fun _ b e => hQ.out b (by have := (hown3.lt b e).1; have := b14.out.size; omega))
          have z6 := X16.blk.frozen 6
          have c66 := X16.cells.2.2.2.2.2.2
          have R17 := Lib.hid (R16.far (p := ⟨w.heap.size, 6, none⟩) (by show w.heap.size + 1 ≠ w.heap.size; omega) (.slice A3 zs.length cc3))
          have b17 := Lib.hid ((b14.out.trans (hbr3.out.mono b14.out.size)).setCell (p := ⟨w.heap.size, 6, none⟩) (Nat.le_refl _) (.slice A3 zs.length cc3))
          have O17 := Lib.hid (slices_one X17.rin.slices)
          replace X17 := Lib.hid X17
          clear X16 R16 hrd hown3 X V o0 o1 o2 c6 hown
          refine go_on ?_
          go_wp2_with (first
            | (refine wpList_load_blk rfl 40 (.tmp 4) rfl w.heap.size rfl 40 (rcells vw12 vc12 f12 (.slice A3 zs.length cc3)) X17.out.blk _ Tryz.underlying40 rfl SZ.out ?_)
            | (refine wpList_store_blk rfl 40 (.tmp 8) (.tmp 108) rfl (w.heap.size + 1) rfl (rcells vw12 vc12 f12 (.slice A3 zs.length cc3)) rfl 40 (rnil) R17.out SZ.out rfl O17.out ?_; intro w19 hR19 hg19 hs19))
          refine bodyPost_ret (res_cell_tmp2 rfl rfl hR19 Tryz.underlying40 rfl SZ.out) rfl ⟨_, _, _, _, rfl, (by rw [← he.out]; exact X17.out.rin.far R17.out rnil_slices hg19), b17.out.grown hg19 b17.out.size (fun k hk => by cases hk; omega)⟩
  · have er : T = S := by rw [hT.out]; unfold sRoom; rw [if_neg hz]
    obtain ⟨L, hL⟩ : ∃ L, L = (S.free c).length := ⟨_, rfl⟩
    rw [← hL] at cfc hz hfl
    have tl : ((L : Int) == 0) = false := by rw [beq_eq_false_iff_ne]; omega
    replace hL := Lib.hid hL
    go_wp2_with (go_at_call 87; refine (HO.out _).mono ?_; rintro e w' ⟨rfl, rfl⟩; refine stop_here ?_)
    obtain ⟨w7, rfl⟩ : ∃ wx : World, wx = w3 := ⟨_, rfl⟩
    have HX7 := HX3.out
    rw [← er] at HX7
    obtain ⟨vw6, rfl⟩ : ∃ x, x = vw := ⟨_, rfl⟩
    obtain ⟨vc6, rfl⟩ : ∃ x, x = vc := ⟨_, rfl⟩
    obtain ⟨vo6, rfl⟩ : ∃ x, x = vo := ⟨_, rfl⟩
    obtain ⟨f6, rfl⟩ : ∃ x, x = f := ⟨_, rfl⟩
    replace HX7 := Lib.hid HX7
    have HR7 := HR3
    have b7 := b3
    replace er := Lib.hid er
    refine go_on ?_
    obtain ⟨w7, rfl⟩ : ∃ wx : World, wx = w7 := ⟨_, rfl⟩
    have HTk : Hid (Calls Tryz.prog 90 #[.agg (arr4 f6), .int .i64 (c : Int)] w7 fun e w' => ∃ v, e = .returned (.tuple #[v, .int .i64 (pk : Int), .int .i64 0]) ∧ RdQ Q w' v (popL T.free c) ∧ Below w7.heap.size w7 w') := Lib.hid (by
      have h9 := rtake_q Q f6 T.free (c : Int) w7 (fun j hj => HX7.out.rin.fr j hj) hSh.out HX7.out.rin.qf
      rw [hTk.out] at h9
      exact h9)
    go_wp2_with (first
      | (refine wpList_load_mid rfl 37 (.tmp 50) rfl w.heap.size 2 rfl [f6 0, f6 1, f6 2, f6 3] _ HX7.out.range4 rarr_row rfl rarr_size ?_)
      | (go_at_call 90; refine HTk.out.mono ?_; rintro e w8 ⟨v8, rfl, ⟨f8, rfl, hr8, hq8⟩, hb8⟩; replace hq8 := Lib.hid hq8; refine stop_here ?_))
    have O8 := Lib.hid (arr4_one fun j hj => rd_one (hr8 j hj))
    have X8 := Lib.hid (HX7.out.below hb8)
    have R8 := Lib.hid (HR7.out.below hb8 HR7.out.lt)
    have b8 := Lib.hid (below_all b7 hb8)
    replace hr8 := Lib.hid hr8
    clear HX7 HR7 HTk hb8 b7
    refine go_on ?_
    go_wp2_with (first
      | (refine wpList_new rfl (.alloc 37) rfl w8.heap.size rfl 37 nil4 (by kernel_rfl) ?_; intro w9 hs9 hb9 hB9; have HB9 := Lib.hid hB9; clear hB9 hs9)
      | (refine wpList_store_blk rfl 37 (.tmp 12) (.tmp 54) rfl w8.heap.size rfl (arr4 f8) rfl 37 nil4 HB9.out rarr_size rfl O8.out ?_; intro w10 hB10 hg10 hs10; refine stop_here ?_))
    have h810 : Below w8.heap.size w8 w10 := hb9.grown hg10 hb9.size (fun k hk => by cases hk; exact Nat.le_refl _)
    have X10 := Lib.hid (X8.out.below h810)
    have R10 := R8.out.below h810 R8.out.lt
    have b10 := below_all b8.out h810
    have hr10 : ∀ j, j < 4 → Rd i64e w10 (f8 j) (popL T.free c j) := fun j hj => (hr8.out j hj).below h810
    have X11 := Lib.hid (X10.out.set_free hr10 hq8.out)
    have R11 := Lib.hid (show Blk (w10.setCells w.heap.size 2 (arr4 f8).toList) (w.heap.size + 1) 40 rnil from (set4_other w10 w.heap.size f8 (by omega)).trans R10)
    have b11 : Below w.heap.size w (w10.setCells w.heap.size 2 (arr4 f8).toList) := b10.grown (grown_set4 w10 w.heap.size f8) b10.size (fun k hk => by cases hk; exact Nat.le_refl _)
    have V10 := Lib.hid hB10
    have T10 := Lib.hid (X10.out.there4 f8)
    clear h810 hB10 hr10 R10 b10 hg10 hs10 hb9 HB9 X8 R8 b8 hr8
    refine go_on ?_
    go_wp2_with (first
      | (refine wpList_load_blk rfl 37 (.tmp 12) rfl w8.heap.size rfl 37 (arr4 f8) V10.out _ rarr_row rfl rarr_size ?_)
      | (refine wpList_store_mid rfl 37 (.tmp 58) (.tmp 57) rfl w.heap.size 2 (arr4 f8) rfl rfl T10.out rarr_size O8.out ?_; refine stop_here ?_))
    generalize w10.setCells w.heap.size 2 (arr4 f8).toList = w11 at X11 R11 b11 ⊢
    clear V10 T10 X10 O8
    refine go_on ?_
    go_wp2_with fail
    have hg11 : w.heap.size < w11.heap.size := X11.out.blk.lt
    have hS0 : (fun X : World => Below w11.heap.size w11 X) w11.drew := (Below.refl _ _).drew
    refine wp_T (by kernel_rfl) 6 (fun X : World => Below w11.heap.size w11 X) ?_
    refine wpAnyT_take (i := 0) (v := .agg #[vw6, vc6, f8 0, f8 1, f8 2, f8 3, vo6]) rfl (by kernel_rfl) (fun _ _ _ hp => hp) (yieldsIf_load_mid (by rfl) _ _ rfl w.heap.size 0 rfl [vw6, vc6, f8 0, f8 1, f8 2, f8 3, vo6] _ (fun X hX => World.rangeAt_of_block (X11.out.below hX).blk 0 7) Tryz.underlying40 rfl rh_size) hS0 ?_
    simp only [Act.put, List.setIfInBounds_toArray, List.set_cons_zero, List.set_cons_succ]
    refine wpAnyT_takeW (i := 1) (v := .int .i64 (pk : Int)) rfl (by kernel_rfl) (fun _ _ _ hp => hp) (Or.inl ⟨by rfl, fun X _ => by go_simp⟩) hS0 ?_
    simp only [Act.put, List.setIfInBounds_toArray, List.set_cons_zero, List.set_cons_succ]
    refine wpAnyT_takeW (i := 2) (v := .int .i64 (c : Int)) rfl (by kernel_rfl) (fun _ _ _ hp => hp) (Or.inl ⟨by rfl, fun X _ => by go_simp⟩) hS0 ?_
    simp only [Act.put, List.setIfInBounds_toArray, List.set_cons_zero, List.set_cons_succ]
    refine wpAnyT_takeW (i := 4) (v := .int .i64 junk) rfl (by kernel_rfl) (fun _ _ _ hp => hp) (Or.inl ⟨by rfl, fun X _ => by go_simp⟩) hS0 ?_
    simp only [Act.put, List.setIfInBounds_toArray, List.set_cons_zero, List.set_cons_succ]
    refine wpAnyT_one (i := 3) rfl (by kernel_rfl) (by rfl) ?_
    intro K1 hK1
    go_simp
    refine (HW.out _).mono ?_
    rintro e _ ⟨rfl, rfl⟩
    dsimp only
    refine hK1.out _ _ (fun _ => hS0) ?_
    (try simp only [Act.put, List.setIfInBounds_toArray, List.set_cons_zero, List.set_cons_succ])
    refine wpAnyT_one (i := 5) rfl (by kernel_rfl) (by rfl) ?_
    intro K2 hK2
    go_simp
    refine (rfill_ok { T with free := popL T.free c } vw6 vc6 vo6 f8 _ (X11.out.rin.below hS0) (hQ.out.le (Nat.le_trans b11.size (Below.size hS0))) pk W junk hwl5 hpw).mono ?_
    rintro e w12 ⟨vw12, vc12, f12, vo12, rfl, hr12, hb12⟩
    dsimp only
    have hS2 : (fun X : World => Below w11.heap.size w11 X) w12 := Below.trans hS0 (Below.mono hb12 (Below.size hS0))
    refine hK2.out _ _ (fun _ => hS2) ?_
    (try simp only [Act.put, List.setIfInBounds_toArray, List.set_cons_zero, List.set_cons_succ])
    refine wpAnyT_one (i := 6) rfl (by kernel_rfl) (by rfl) ?_
    intro K3 hK3
    refine wp_store_blk 40 _ _ rfl w.heap.size rfl (rcells vw12 vc12 f12 vo12) rfl 40 (rcells vw6 vc6 f8 vo6) (X11.out.below hS2).blk rh_size rfl (slices_one hr12.slices) ?_
    intro w13 hR13 hg13 hs13
    refine hK3.out _ _ (fun hh => absurd rfl hh) ?_
    (try simp only [Act.put, List.setIfInBounds_toArray, List.set_cons_zero, List.set_cons_succ])
    refine wpAnyT_done (by kernel_rfl) ?_ _
    (try simp only [Act.put, List.setIfInBounds_toArray, List.set_cons_zero, List.set_cons_succ])
    clear hK1 K1 hK2 K2 hK3 K3
    have X13 := Lib.hid (RBox.all (X11.out.below hS2).blk X11.out.rin.slices hg13 hR13 hr12)
    have R13 := Lib.hid ((R11.out.below hS2 R11.out.lt).grown hg13 (fun e => by injection e with e; omega))
    have b13 := Lib.hid ((below_all b11 hS2).grown hg13 (below_all b11 hS2).size (fun k hk => by cases hk; exact Nat.le_refl _))
    clear hS2 hS0 hR13 hg13 hs13 hr12 hb12 X11 R11 b11 hg11
    go_wp2_with (first
      | (refine wpList_new rfl (.alloc 84) rfl w13.heap.size rfl 84 #[.int .i64 0, .int .i64 0, .int .u8 0] (by kernel_rfl) ?_; intro w9 hs9 hb9 hB9; have HB9 := Lib.hid hB9; clear hB9 hs9)
      | (refine wpList_store_blk rfl 84 (.tmp 17) (.tmp 68) rfl w13.heap.size rfl #[.int .i64 (pk : Int), .int .i64 n, .int .u8 mask] rfl 84 #[.int .i64 0, .int .i64 0, .int .u8 0] HB9.out obj_size rfl (by simp [Value.oneCell']) ?_; intro w14 hB14 hg14 hs14; refine stop_here ?_))
    have h1314 : Below w13.heap.size w13 w14 := hb9.grown hg14 hb9.size (fun k hk => by cases hk; exact Nat.le_refl _)
    have X14 := Lib.hid (X13.out.below h1314)
    have R14 := Lib.hid (R13.out.below h1314 R13.out.lt)
    have b14 := Lib.hid (below_all b13.out h1314)
    have V14 := Lib.hid hB14
    have g13 : w13.heap.size < w14.heap.size := hB14.lt
    have g14 : w.heap.size + 1 < w14.heap.size := R14.out.lt
    have hown0 := Lib.hid (World.ownsRow_nil w14 w14.heap.size 84 3)
    clear hB14 hg14 hs14 h1314 hb9 HB9 X13 R13 b13
    obtain ⟨Ao, co, rfl, -⟩ := X14.out.rin.objs.len
    have hlo : ({ T with free := popL T.free c, words := fillW T.words pk junk W } : HS).objs.length = T.objs.length := rfl
    rw [hlo] at X14 ⊢
    clear hlo
    refine go_on ?_
    go_wp2_with fail
    go_loopw [15, 16, 18] (fun l d i wr => ∃ (k : Nat) (A : Option Addr) (cc : Nat) (b : Bool) (xs : List (Int × Int × Int)), k ≤ T.objs.length ∧ i = .int .i64 k ∧ d = .bool b ∧ l = .slice A xs.length cc ∧ Hid (b = hasGt ((pk : Int), n, mask) (T.objs.take k)) ∧ Hid (xs = insP ((pk : Int), n, mask) (T.objs.take k)) ∧ Hid (wr.ownsRow w14.heap.size 84 3 (.slice A xs.length cc) xs.length (xs.flatMap objC)) ∧ Hid (Below w14.heap.size w14 wr)) (fun _ _ i _ => T.objs.length - (intOf i).toNat)
    case atStart => exact ⟨0, none, 0, false, [], by omega, rfl, rfl, rfl, Lib.hid rfl, Lib.hid rfl, hown0, Lib.hid (Below.refl _ _)⟩
    case round =>
      clear hown0
      obtain ⟨k, A, cc, b, xs, hk, rfl, rfl, rfl, hbb, hxs, hown, hbr⟩ := hrel
      have X := Lib.hid (X14.out.below hbr.out)
      have V := V14.out.below hbr.out g13
      have c6 := X.out.cells.2.2.2.2.2.2
      have o0 := V.cell 0
      have o1 := V.cell 1
      have o2 := V.cell 2
      have hxl : xs.length ≤ 5000 := by have := insP_len ((pk : Int), n, mask) (T.objs.take k); rw [← hxs.out] at this; have h9 : (T.objs.take k).length ≤ k := List.length_take_le _ _; omega
      have hzr : w14.heap.size ≤ wr.heap.size := hbr.out.size
      by_cases hlt : k < T.objs.length
      · have t0 : (k : Int) < (T.objs.length : Int) := by omega
        have hts : T.objs.take (k + 1) = T.objs.take k ++ [T.objs[k]] := by rw [List.take_succ_eq_append_getElem hlt]
        obtain ⟨bo, oo, rfl, hbol, hc⟩ := X.out.rin.objs.at_ (i := k) hlt
        obtain ⟨x, hx⟩ : ∃ x, x = T.objs[k] := ⟨_, rfl⟩
        have hc' : ∀ j u, (objC x)[j]? = some u → wr.cell? ⟨bo, oo + k * 3 + j, none⟩ = some u := by rw [hx]; exact hc
        rw [← hx] at hts
        obtain ⟨x1, x2, x3⟩ := x
        have d0 : wr.cell? ⟨bo, oo + k * 3, none⟩ = some (.int .i64 x1) := hc' 0 _ rfl
        have d1 := hc' 1 _ rfl
        have d2 := hc' 2 _ rfl
        clear hc hc' hx
        replace hts := Lib.hid hts
        rcases b with _ | _
        · by_cases hpx : (pk : Int) < x1
          · have t1 : decide ((pk : Int) < x1) = true := decide_eq_true hpx
            go_wp2_with (refine wpList_push3 rfl (.tmp 88) (.tmp 90) rfl w14.heap.size _ xs rfl hown.out ((pk : Int), n, mask) rfl hxl hzr ?_; intro ys A2 cc2 w15 hys hown2 hbw2; replace hys := Lib.hid hys; refine stop_here ?_)
            have hbol2 : bo < w14.heap.size := by
              obtain ⟨b9, o9, e9, h9, _⟩ := X14.out.rin.objs.at_ (i := k) hlt
              cases e9
              exact h9
            have e0 := (hbw2.cell (p := ⟨bo, oo + k * 3, none⟩) hbol2).trans d0
            have e1 := (hbw2.cell (p := ⟨bo, oo + k * 3 + 1, none⟩) hbol2).trans d1
            have e2 := (hbw2.cell (p := ⟨bo, oo + k * 3 + 2, none⟩) hbol2).trans d2
            have f6 := (hbw2.cell (p := ⟨w.heap.size, 6, none⟩) (show w.heap.size < w14.heap.size by omega)).trans c6
            have hbr2 := Lib.hid (hbr.out.trans hbw2)
            have hzr2 : w14.heap.size ≤ w15.heap.size := Nat.le_trans hzr hbw2.size
            have hxl2 : (xs ++ [((pk : Int), n, mask)]).length ≤ 5000 := by
              have h8 := insP_len ((pk : Int), n, mask) (T.objs.take k)
              rw [← hxs.out] at h8
              have h9 : (T.objs.take k).length ≤ k := List.length_take_le _ _
              simp
              omega
            have hnew : Hid (xs ++ [((pk : Int), n, mask)] ++ [(x1, x2, x3)] = insP ((pk : Int), n, mask) (T.objs.take (k + 1))) := Lib.hid (by rw [hts.out, insP_lt hbb.out.symm hpx, hxs.out])
            have hbn : Hid (true = hasGt ((pk : Int), n, mask) (T.objs.take (k + 1))) := Lib.hid (by rw [hts.out, hasGt_snoc, decide_eq_true hpx]; simp)
            rw [← hys.out] at hxl2 hnew
            replace hown2 := Lib.hid hown2
            clear hbw2 o0 o1 o2 d0 d1 d2 c6 hown hys
            refine go_on ?_
            go_wp2_with (refine wpList_push3 rfl (.tmp 92) (.tmp 98) rfl w14.heap.size _ ys rfl hown2.out (x1, x2, x3) rfl hxl2 hzr2 ?_; intro zs A3 cc3 w16 hzs hown3 hbw3; replace hzs := Lib.hid hzs; refine stop_here ?_)
            have hbr3 := Lib.hid (hbr2.out.trans hbw3)
            rw [← hzs.out] at hnew
            replace hown3 := Lib.hid hown3
            clear hbw3 hzs
            refine go_on ?_
            go_wp2_with fail
            go_roundw
            case rel => exact ⟨k + 1, A3, cc3, true, zs, by omega, by go_num, rfl, rfl, hbn, hnew, hown3, hbr3⟩
            case measure => simp [intOf]; omega
          · have t1 : decide ((pk : Int) < x1) = false := decide_eq_false hpx
            have hnew : Hid (xs ++ [(x1, x2, x3)] = insP ((pk : Int), n, mask) (T.objs.take (k + 1))) := Lib.hid (by rw [hts.out, insP_ge hbb.out.symm hpx, hxs.out])
            have hbn : Hid (false = hasGt ((pk : Int), n, mask) (T.objs.take (k + 1))) := Lib.hid (by rw [hts.out, hasGt_snoc, decide_eq_false hpx, ← hbb.out]; rfl)
            go_wp2_with (refine wpList_push3 rfl (.tmp 92) (.tmp 98) rfl w14.heap.size _ xs rfl hown.out (x1, x2, x3) rfl hxl hzr ?_; intro zs A3 cc3 w16 hzs hown3 hbw3; replace hzs := Lib.hid hzs; refine stop_here ?_)
            have hbr3 := Lib.hid (hbr.out.trans hbw3)
            rw [← hzs.out] at hnew
            replace hown3 := Lib.hid hown3
            clear hbw3 hzs
            refine go_on ?_
            go_wp2_with fail
            go_roundw
            case rel => exact ⟨k + 1, A3, cc3, false, zs, by omega, by go_num, rfl, rfl, hbn, hnew, hown3, hbr3⟩
            case measure => simp [intOf]; omega
        · have hnew : Hid (xs ++ [(x1, x2, x3)] = insP ((pk : Int), n, mask) (T.objs.take (k + 1))) := Lib.hid (by rw [hts.out, insP_gt hbb.out.symm, hxs.out])
          have hbn : Hid (true = hasGt ((pk : Int), n, mask) (T.objs.take (k + 1))) := Lib.hid (by rw [hts.out, hasGt_snoc, ← hbb.out]; rfl)
          go_wp2_with (refine wpList_push3 rfl (.tmp 92) (.tmp 98) rfl w14.heap.size _ xs rfl hown.out (x1, x2, x3) rfl hxl hzr ?_; intro zs A3 cc3 w16 hzs hown3 hbw3; replace hzs := Lib.hid hzs; refine stop_here ?_)
          have hbr3 := Lib.hid (hbr.out.trans hbw3)
          rw [← hzs.out] at hnew
          replace hown3 := Lib.hid hown3
          clear hbw3 hzs
          refine go_on ?_
          go_wp2_with fail
          go_roundw
          case rel => exact ⟨k + 1, A3, cc3, true, zs, by omega, by go_num, rfl, rfl, hbn, hnew, hown3, hbr3⟩
          case measure => simp [intOf]; omega
      · obtain rfl : k = T.objs.length := by omega
        have t0 : decide (((T.objs.length : Nat) : Int) < ((T.objs.length : Nat) : Int)) = false := by rw [decide_eq_false_iff_not]; omega
        rw [List.take_length] at hbb hxs
        have hfin := Lib.hid (insP_end (o := ((pk : Int), n, mask)) (l := T.objs))
        rcases b with _ | _
        · go_wp2_with (refine wpList_push3 rfl (.tmp 102) (.tmp 104) rfl w14.heap.size _ xs rfl hown.out ((pk : Int), n, mask) rfl hxl hzr ?_; intro zs A3 cc3 w16 hzs hown3 hbw3; replace hzs := Lib.hid hzs; refine stop_here ?_)
          have hbr3 := Lib.hid (hbr.out.trans hbw3)
          have he := Lib.hid (show zs = insO ((pk : Int), n, mask) T.objs by rw [hzs.out, hfin.out, ← hbb.out, if_neg (by simp), hxs.out])
          clear hbw3 hzs
          have X16 := X14.out.below hbr3.out
          have R16 := R14.out.below hbr3.out R14.out.lt
          have hrd := rdc_of_own hown3
          have X17 := X16.set_objs hrd (fun _ b e => hQ.out b (by have := (hown3.lt b e).1; have := b14.out.size; omega))
          have z6 := X16.blk.frozen 6
          have c66 := X16.cells.2.2.2.2.2.2
          have R17 := Lib.hid (R16.far (p := ⟨w.heap.size, 6, none⟩) (by show w.heap.size + 1 ≠ w.heap.size; omega) (.slice A3 zs.length cc3))
          have b17 := Lib.hid ((b14.out.trans (hbr3.out.mono b14.out.size)).setCell (p := ⟨w.heap.size, 6, none⟩) (Nat.le_refl _) (.slice A3 zs.length cc3))
          have O17 := Lib.hid (slices_one X17.rin.slices)
          replace X17 := Lib.hid X17
          clear X16 R16 hrd hown3 X V o0 o1 o2 c6 hown
          refine go_on ?_
          go_wp2_with (first
            | (refine wpList_load_blk rfl 40 (.tmp 4) rfl w.heap.size rfl 40 (rcells vw12 vc12 f12 (.slice A3 zs.length cc3)) X17.out.blk _ Tryz.underlying40 rfl SZ.out ?_)
            | (refine wpList_store_blk rfl 40 (.tmp 8) (.tmp 108) rfl (w.heap.size + 1) rfl (rcells vw12 vc12 f12 (.slice A3 zs.length cc3)) rfl 40 (rnil) R17.out SZ.out rfl O17.out ?_; intro w19 hR19 hg19 hs19))
          refine bodyPost_ret (res_cell_tmp2 rfl rfl hR19 Tryz.underlying40 rfl SZ.out) rfl ⟨_, _, _, _, rfl, (by rw [← he.out]; exact X17.out.rin.far R17.out rnil_slices hg19), b17.out.grown hg19 b17.out.size (fun k hk => by cases hk; omega)⟩
        · have he := Lib.hid (show xs = insO ((pk : Int), n, mask) T.objs by rw [hfin.out, ← hbb.out, if_pos rfl, hxs.out])
          obtain ⟨zs, rfl⟩ : ∃ zs, zs = xs := ⟨_, rfl⟩
          obtain ⟨w16, rfl⟩ : ∃ wx : World, wx = wr := ⟨_, rfl⟩
          obtain ⟨A3, rfl⟩ : ∃ A3, A3 = A := ⟨_, rfl⟩
          obtain ⟨cc3, rfl⟩ : ∃ A3, A3 = cc := ⟨_, rfl⟩
          have hown3 := hown.out
          have hbr3 := hbr
          refine stop_here ?_
          have X16 := X14.out.below hbr3.out
          have R16 := R14.out.below hbr3.out R14.out.lt
          have hrd := rdc_of_own hown3
          have X17 := X16.set_objs hrd (fun _ b e => hQ.out b (by have := (hown3.lt b e).1; have := b14.out.size; omega))
          have z6 := X16.blk.frozen 6
          have c66 := X16.cells.2.2.2.2.2.2
          have R17 := Lib.hid (R16.far (p := ⟨w.heap.size, 6, none⟩) (by show w.heap.size + 1 ≠ w.heap.size; omega) (.slice A3 zs.length cc3))
          have b17 := Lib.hid ((b14.out.trans (hbr3.out.mono b14.out.size)).setCell (p := ⟨w.heap.size, 6, none⟩) (Nat.le_refl _) (.slice A3 zs.length cc3))
          have O17 := Lib.hid (slices_one X17.rin.slices)
          replace X17 := Lib.hid X17
          clear X16 R16 hrd hown3 X V o0 o1 o2 c6 hown
          refine go_on ?_
          go_wp2_with (first
            | (refine wpList_load_blk rfl 40 (.tmp 4) rfl w.heap.size rfl 40 (rcells vw12 vc12 f12 (.slice A3 zs.length cc3)) X17.out.blk _ Tryz.underlying40 rfl SZ.out ?_)
            | (refine wpList_store_blk rfl 40 (.tmp 8) (.tmp 108) rfl (w.heap.size + 1) rfl (rcells vw12 vc12 f12 (.slice A3 zs.length cc3)) rfl 40 (rnil) R17.out SZ.out rfl O17.out ?_; intro w19 hR19 hg19 hs19))
          refine bodyPost_ret (res_cell_tmp2 rfl rfl hR19 Tryz.underlying40 rfl SZ.out) rfl ⟨_, _, _, _, rfl, (by rw [← he.out]; exact X17.out.rin.far R17.out rnil_slices hg19), b17.out.grown hg19 b17.out.size (fun k hk => by cases hk; omega)⟩
end Go.Proofs.YtcaboknbdamlhaaGreatDoor
