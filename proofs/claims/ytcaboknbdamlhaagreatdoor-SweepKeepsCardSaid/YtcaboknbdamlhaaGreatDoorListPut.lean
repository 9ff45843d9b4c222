/- Put of the program: a block is free. -/
import Derived.Test.YtcaboknbdamlhaaGreatDoorListHas
import Derived.Test.YtcaboknbdamlhaaGreatDoorClass
set_option linter.unusedVariables false
set_option linter.unusedSimpArgs false
namespace Go.Proofs.YtcaboknbdamlhaaGreatDoor
open Go.RowKit

def addL (L : Nat → List Int) (c p : Int) : Nat → List Int := fun j => if (j : Int) = c then L j ++ [p] else L j
def putL (L : Nat → List Int) (c p : Int) : (Nat → List Int) × Int := if beginsAt p c = false then (L, 2) else if 0 ≤ hasIn L p then (L, 8) else (addL L c p, 0)
theorem begins_class {p c : Int} (h : beginsAt p c = true) : 0 ≤ c ∧ c ≤ 3 := by
  unfold beginsAt at h
  rw [decide_eq_true_iff] at h
  rcases words_cases c with ⟨h1, h2, _⟩ | ⟨h1, h2, _⟩ | ⟨h1, h2, _⟩ | ⟨h1, h2, _⟩ | ⟨h1, h2, _⟩ <;> omega
theorem arr4_one {g : Nat → Value} (h : ∀ j, j < 4 → (g j).oneCell' = true) : (arr4 g).all (·.oneCell') = true := by simp [arr4, h]
theorem rd_one {α : Type} {enc : α → Value} {w : World} {v : Value} {xs : List α} (h : Rd enc w v xs) : v.oneCell' = true := by
  obtain ⟨_, _, e, _⟩ := h.len
  rw [e]; rfl
theorem lists_size : (Tryz.prog.info? 89).map (·.size) = some 4 := by kernel_rfl
theorem OwnL.below {w w1 : World} {B k : Nat} {g : Nat → Value} {L : Nat → List Int} (h : OwnL w B k g L) (hb : Below w.heap.size w w1) : OwnL w1 B k g L :=
  ⟨fun j hj => own_below (h.1 j hj) hb, h.2⟩
theorem OwnL.grown {w w1 : World} {B k n : Nat} {g : Nat → Value} {L : Nat → List Int} (h : OwnL w B k g L) (hb : w.grownBy w1 (some n)) (hn : n < B) : OwnL w1 B k g L :=
  ⟨fun j hj => own_grown (h.1 j hj) hb hn, h.2⟩
theorem nil4_new (w : World) (o : Obj) (t : TypeId) : Blk ((w.alloc o).alloc (.cells #[.slice none 0 0, .slice none 0 0, .slice none 0 0, .slice none 0 0] t)) (w.heap.size + 1) t nil4 := by
  unfold nil4
  simpa using Blk.new (w.alloc o) t #[.slice none 0 0, .slice none 0 0, .slice none 0 0, .slice none 0 0]

theorem rd_cell3 {w : World} {g : Nat} {t : TypeId} {f : Nat → Value} {xs : List Int} {k : Nat} (h : Blk w g t (arr4 f)) (hk : k < 4) (hf : Rd i64e w (f k) xs) :
    ∃ A c, w.cell? ⟨g, k, none⟩ = some (.slice A xs.length c) ∧ Rd i64e w (.slice A xs.length c) xs ∧ f k = .slice A xs.length c := by
  have hf0 := hf
  obtain ⟨A, c, e, _⟩ := hf.len
  refine ⟨A, c, ?_, e ▸ hf0, e⟩
  rw [h.cell k, arr4_get f hk, e]

/-- Four lists, in blocks from B on. -/
def RdF (w : World) (B : Nat) (v : Value) (L : Nat → List Int) : Prop := ∃ f, v = .agg (arr4 f) ∧ (∀ j, j < 4 → Rd i64e w (f j) (L j)) ∧ ∀ j, j < 4 → ∀ b, (f j).ownBlock = some b → B ≤ b ∧ b < w.heap.size
theorem RdF.rd {w : World} {B : Nat} {v : Value} {L : Nat → List Int} (h : RdF w B v L) : RdL w v L := by
  obtain ⟨f, rfl, hf, _⟩ := h
  exact ⟨f, rfl, hf⟩
theorem RdF.of_own {w : World} {B B' : Nat} {f : Nat → Value} {L : Nat → List Int} (h : OwnL w B' 4 f L) (hB : B ≤ B') : RdF w B (.agg (arr4 f)) L := ⟨f, rfl, fun j hj => Rd.of_own (h.1 j hj), fun j hj b hb => ⟨Nat.le_trans hB ((h.1 j hj).lt b hb).1, ((h.1 j hj).lt b hb).2⟩⟩
set_option maxHeartbeats 400000 in
set_option maxRecDepth 100000 in
theorem put_fresh (f : Nat → Value) (L : Nat → List Int) (c p : Int) (w : World) (hf : ∀ j, j < 4 → Rd i64e w (f j) (L j)) (hl : ShortL L) (hp : p ≤ 9223372036854775807) :
    Calls Tryz.prog 100 #[.agg (arr4 f), .int .i64 c, .int .i64 p] w fun e w' => ∃ v, e = .returned (.tuple #[v, .int .i64 (putL L c p).2]) ∧ RdF w' w.heap.size v (putL L c p).1 ∧ Below w.heap.size w w' := by
  have hb0 := (below_alloc w (.cells (arr4 f) 89)).alloc (by simp) (.cells #[.slice none 0 0, .slice none 0 0, .slice none 0 0, .slice none 0 0] 89)
  have hB0 := Lib.hid ((Blk.new w 89 (arr4 f)).alloc (.cells #[.slice none 0 0, .slice none 0 0, .slice none 0 0, .slice none 0 0] 89))
  have hR0 := Lib.hid (nil4_new w (.cells (arr4 f) 89) 89)
  have HF := Lib.hid hf
  have HL := Lib.hid hl
  have HS := Lib.hid lists_size
  have h1f := Lib.hid (arr4_one fun j hj => rd_one (hf j hj))
  clear hf hl
  go_enter Tryz.func100, Tryz.ntmps100
  go_wp2_with (refine wpList_load_blk rfl 89 (.tmp 3) rfl w.heap.size rfl 89 (arr4 f) hB0.out _ Tryz.underlying89 rfl HS.out ?_)
  refine (own_ok f L _ (fun j hj => (HF.out j hj).below hb0) HL.out).mono ?_
  rintro e w1 ⟨g, rfl, ho, hb1⟩
  have hB1 := Lib.hid (hB0.out.below hb1 hB0.out.lt)
  have hR1 := Lib.hid (hR0.out.below hb1 hR0.out.lt)
  have h1g := Lib.hid (arr4_one fun j hj => rd_one (Rd.of_own (enc := i64e) (xs := L j) (ho.1 j hj)))
  have hb1 := hb0.trans (hb1.mono hb0.size)
  have HO := Lib.hid (show OwnL w1 (w.heap.size + 2) 4 g L by simpa using ho)
  clear ho
  go_wp2_with (refine wpList_store_blk rfl 89 (.tmp 3) (.tmp 9) rfl w.heap.size rfl (arr4 g) rfl 89 (arr4 f) hB1.out HS.out rfl h1g.out ?_; intro w2 hB2 hg2 hs2)
  have hR2 := Lib.hid (hR1.out.grown hg2 (by simp))
  have HO2 := Lib.hid (HO.out.grown hg2 (by omega))
  have hb2 := hb1.grown hg2 hb1.size (fun k hk => by cases hk; exact Nat.le_refl _)
  have hB2 := Lib.hid hB2
  clear HO hR1 hB1 hB0 hR0 hg2 hs2 h1f
  by_cases hbg : beginsAt p c = false
  · have hput := Lib.hid (show putL L c p = (L, 2) by unfold putL; rw [if_pos hbg])
    go_wp2_with (first
      | (go_at_call 112; refine (begins_ok _ _ _ hp).mono ?_; rintro e w' ⟨rfl, rfl⟩)
      | (refine wpList_load_blk rfl 89 (.tmp 3) rfl w.heap.size rfl 89 (arr4 g) hB2.out _ Tryz.underlying89 rfl HS.out ?_)
      | (refine wpList_store_blk rfl 89 (.tmp 6) (.tmp 15) rfl (w.heap.size + 1) rfl (arr4 g) rfl 89 nil4 hR2.out HS.out rfl h1g.out ?_; intro w3 hR3 hg3 hs3))
    refine bodyPost_ret (res_cell_tmp rfl rfl hR3 Tryz.underlying89 rfl HS.out) rfl ⟨_, by rw [hput.out]; rfl, ?_, hb2.grown hg3 hb2.size (fun k hk => by cases hk; omega)⟩
    rw [hput.out]
    exact RdF.of_own (HO2.out.grown hg3 (by omega)) (by omega)
  · have hbg : beginsAt p c = true := by simpa using hbg
    have hcl := begins_class hbg
    go_wp2_with (first
      | (go_at_call 112; refine (begins_ok _ _ _ hp).mono ?_; rintro e w' ⟨rfl, rfl⟩)
      | (refine wpList_load_blk rfl 89 (.tmp 3) rfl w.heap.size rfl 89 (arr4 g) hB2.out _ Tryz.underlying89 rfl HS.out ?_))
    refine (has_ok g L p _ (fun j hj => Rd.of_own (HO2.out.1 j hj)) HL.out).mono ?_
    rintro e w3 ⟨rfl, hb3⟩
    have hB3 := Lib.hid (hB2.out.below hb3 hB2.out.lt)
    have hR3 := Lib.hid (hR2.out.below hb3 hR2.out.lt)
    have HO3 := Lib.hid (HO2.out.below hb3)
    have hb3 := hb2.trans (hb3.mono hb2.size)
    clear HO2 hR2 hB2 hb2
    by_cases hh : 0 ≤ hasIn L p
    · have hput := Lib.hid (show putL L c p = (L, 8) by unfold putL; rw [if_neg (by rw [hbg]; simp), if_pos hh])
      go_wp2_with (first
        | (refine wpList_load_blk rfl 89 (.tmp 3) rfl w.heap.size rfl 89 (arr4 g) hB3.out _ Tryz.underlying89 rfl HS.out ?_)
        | (refine wpList_store_blk rfl 89 (.tmp 6) (.tmp 21) rfl (w.heap.size + 1) rfl (arr4 g) rfl 89 nil4 hR3.out HS.out rfl h1g.out ?_; intro w4 hR4 hg4 hs4))
      refine bodyPost_ret (res_cell_tmp rfl rfl hR4 Tryz.underlying89 rfl HS.out) rfl ⟨_, by rw [hput.out]; rfl, ?_, hb3.grown hg4 hb3.size (fun k hk => by cases hk; omega)⟩
      rw [hput.out]
      exact RdF.of_own (HO3.out.grown hg4 (by omega)) (by omega)
    · have hput := Lib.hid (show putL L c p = (addL L c p, 0) by unfold putL; rw [if_neg (by rw [hbg]; simp), if_neg hh])
      obtain ⟨k, rfl⟩ : ∃ k : Nat, c = (k : Int) := ⟨c.toNat, by omega⟩
      have hk : k < 4 := by omega
      obtain ⟨A, d, hc, hr, eg⟩ := rd_cell3 hB3.out hk (Rd.of_own (enc := i64e) (xs := L k) (HO3.out.1 k hk))
      have hown := HO3.out.1 k hk
      rw [eg] at hown
      have hlk := HL.out k hk
      have hz := hR3.out.lt
      clear hr hbg
      go_wp2_with (at_builtin; refine wpList_push rfl (.tmp 25) (.tmp 27) _ rfl (w.heap.size + 2) 3 _ 8 Tryz.underlying36 int_info rfl _ _ _ rfl hown _ rfl rfl (by unfold maxLen; omega) (by omega) (by omega) ?_)
      intro v' w4 hown4 hg4 hat4
      have hne : (Value.slice A (L k).length d).ownBlock ≠ some w.heap.size ∧ (Value.slice A (L k).length d).ownBlock ≠ some (w.heap.size + 1) := by
        constructor
        · intro e; have := (hown.lt _ e).1; omega
        · intro e; have := (hown.lt _ e).1; omega
      have hB4 := hB3.out.grown hg4 (fun e => hne.1 e.symm)
      have hR4 := Lib.hid (hR3.out.grown hg4 (fun e => hne.2 e.symm))
      have hown5 : w4.ownsRow (w.heap.size + 2) 3 1 v' (L k ++ [p]).length ((L k ++ [p]).map i64e) := by simpa using hown4
      obtain ⟨A', n', d', rfl⟩ := (Rd.of_own hown5).form
      have hc4 := (hB4.cell k).trans (arr4_get g hk)
      have hf4 := hB4.frozen k
      have hB5 := hB4.set_ k (.slice A' n' d')
      rw [arr4_set g hk] at hB5
      have hB5 := Lib.hid hB5
      have hR5 := Lib.hid (hR4.out.far (p := ⟨w.heap.size, k, none⟩) (by simp) (.slice A' n' d'))
      have hone5 : Hid ((arr4 fun j => if j = k then Value.slice A' n' d' else g j).all (·.oneCell') = true) := Lib.hid (arr4_one fun j hj => by
        by_cases e : j = k
        · rw [if_pos e]; rfl
        · rw [if_neg e]; exact rd_one (Rd.of_own (enc := i64e) (xs := L j) (HO3.out.1 j hj)))
      have hb4 : Below w.heap.size w w4 := hb3.grown hg4 hb3.size (fun k hk => by have := (hown.lt k hk).1; omega)
      have hb5 := hb4.setCell (p := ⟨w.heap.size, k, none⟩) (Nat.le_refl _) (.slice A' n' d')
      have hrd : ∀ j, j < 4 → Rd i64e (w4.setCell ⟨w.heap.size, k, none⟩ (.slice A' n' d')) (if j = k then Value.slice A' n' d' else g j) (addL L k p j) := fun j hj => by
        unfold addL
        by_cases e : j = k
        · subst e
          rw [if_pos rfl, if_pos rfl]
          exact Rd.of_own (ownsRow_setCell_below hown5 (by show w.heap.size < w.heap.size + 2; omega) _)
        · rw [if_neg e, if_neg (by omega)]
          refine Rd.of_own (ownsRow_setCell_below ((HO3.out.1 j hj).kept hg4 ?_) (by show w.heap.size < w.heap.size + 2; omega) _)
          have := HO3.out.2 j k hj hk e
          rw [eg] at this
          exact this
      have HRD := Lib.hid hrd
      have HBK : Hid (∀ j, j < 4 → ∀ b, (if j = k then Value.slice A' n' d' else g j).ownBlock = some b → w.heap.size + 2 ≤ b ∧ b < w4.heap.size) := Lib.hid fun j hj b hb => by
        by_cases e : j = k
        · rw [if_pos e] at hb; exact hown5.lt b hb
        · rw [if_neg e] at hb; exact ⟨((HO3.out.1 j hj).lt b hb).1, Nat.lt_of_lt_of_le ((HO3.out.1 j hj).lt b hb).2 hg4.size⟩
      clear hB4 hR4 hown4 hown5 hrd hg4 hat4 hown eg hc hB3 hR3
      go_wp2_with (first
        | (refine wpList_load_blk rfl 89 (.tmp 3) rfl w.heap.size rfl 89 _ hB5.out _ Tryz.underlying89 rfl HS.out ?_)
        | (refine wpList_store_blk rfl 89 (.tmp 6) (.tmp 30) rfl (w.heap.size + 1) rfl _ rfl 89 nil4 hR5.out HS.out rfl hone5.out ?_; intro w6 hR6 hg6 hs6))
      refine bodyPost_ret (res_cell_tmp rfl rfl hR6 Tryz.underlying89 rfl HS.out) rfl ⟨_, by rw [hput.out]; rfl, ?_, hb5.grown hg6 hb5.size (fun k hk => by cases hk; omega)⟩
      rw [hput.out]
      exact ⟨_, rfl, fun j hj => (HRD.out j hj).keep hg6.size fun _ b hbo hlt => hg6.block b hlt fun e => by have := (HBK.out j hj b hbo).1; injection e with e; omega, fun j hj b hb => by
        have h9 := HBK.out j hj b hb
        have h8 := hg6.size
        have h7 : (w4.setCell ⟨w.heap.size, k, none⟩ (.slice A' n' d')).heap.size = w4.heap.size := by simp [World.setCell]
        omega⟩
theorem put_ok (f : Nat → Value) (L : Nat → List Int) (c p : Int) (w : World) (hf : ∀ j, j < 4 → Rd i64e w (f j) (L j)) (hl : ShortL L) (hp : p ≤ 9223372036854775807) :
    Calls Tryz.prog 100 #[.agg (arr4 f), .int .i64 c, .int .i64 p] w fun e w' => ∃ v, e = .returned (.tuple #[v, .int .i64 (putL L c p).2]) ∧ RdL w' v (putL L c p).1 ∧ Below w.heap.size w w' :=
  (put_fresh f L c p w hf hl hp).mono fun _ _ ⟨v, h1, h2, h3⟩ => ⟨v, h1, h2.rd, h3⟩

end Go.Proofs.YtcaboknbdamlhaaGreatDoor
