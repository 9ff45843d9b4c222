/- ListBack: what the walk shows is true for any blocks, any class and any span. -/
import Derived.Test.YtlbjcaefemmjmaaListCounts
set_option linter.unusedVariables false
set_option linter.unusedSimpArgs false
namespace Go.Proofs.Ytlbjcaefemmjmaa
open Go.RowKit

theorem wp_new_d {P : Program} {o : Oper} {a : Act} {w : World} {K : Act → World → Prop} {Q : Exit → Act → World → Prop} {d : Nat} (hd : o.dst = some d) (op : Op) (ho : o.op = op) (t : TypeId) (cs : Array Value)
    (hrun : (execOp a.eval o).run P w = .ok (.value (.pointer (some ⟨w.heap.size, 0, none⟩))) (w.alloc (.cells cs t)))
    (h : ∀ w', w'.heap.size = w.heap.size + 1 → Below w.heap.size w w' → Blk w' w.heap.size t cs → K (a.put (some d) (.pointer (some ⟨w.heap.size, 0, none⟩))) w') : o.wp P a w K Q := by
  rw [← hd] at h
  unfold Oper.wp
  rw [hrun]
  exact h _ (by simp) (below_alloc w _) (Blk.new w t cs)
theorem wp_store_d {P : Program} {o : Oper} {a : Act} {w : World} {K : Act → World → Prop} {Q : Exit → Act → World → Prop} (hd : o.dst = none) (ty : TypeId) (x y : Operand) (ho : o.op = .store ty x y)
    (g : Nat) (hx : a.eval x = .pointer (some ⟨g, 0, none⟩)) (c' : Array Value) (hy : a.eval y = .agg c') (t : TypeId) (c : Array Value) (hg : Blk w g t c)
    (hi : (P.info? ty).map (·.size) = some c'.size) (hsz : c.size = c'.size) (h1 : c'.all (·.oneCell') = true)
    (h : ∀ w', Blk w' g t c' → w.grownBy w' (some g) → w'.heap.size = w.heap.size → K (a.put none undef) w') : o.wp P a w K Q := by
  rw [← hd] at h
  refine wp_store_row ty x y ho g c' hx hy t c hg hi hsz h1 (h _ ?_ ?_ (size_setRow _ _ _))
  · exact setRow_heap w g c c' t (0, 0) hg
  · exact ⟨rfl, rfl, rfl, by simp, fun k _ hne => setRow_other w g k c' (fun e => hne (by rw [e]))⟩
theorem put_fresh_any {v : Value} {L : Nat → List Int} (c p : Int) (B : Nat) {w : World} (hv : RdL w v L) (hl : ShortL L) (hp : p ≤ 9223372036854775807) (hB : B ≤ w.heap.size) :
    Calls Try.prog 27 #[v, .int .i64 c, .int .i64 p] w fun e w' => ∃ g, e = .returned (.tuple #[.agg (arr4 g), .int .i64 (putL L c p).2]) ∧ ((∀ j, j < 4 → Rd i64e w' (g j) ((putL L c p).1 j)) ∧ ∀ j, j < 4 → ∀ b, (g j).ownBlock = some b → B ≤ b) ∧ Below w.heap.size w w' := by
  obtain ⟨f, rfl, hf⟩ := hv
  refine (put_fresh f L c p w hf hl hp).mono ?_
  rintro e w' ⟨v, rfl, ⟨g, rfl, h1, h2⟩, h3⟩
  exact ⟨g, rfl, ⟨h1, fun j hj b hb => Nat.le_trans hB (h2 j hj b hb)⟩, h3⟩
def oneL (k : Nat) (xs : List Int) : Nat → List Int := fun j => if j = k then xs else []
theorem oneL_le {k : Nat} {xs : List Int} {n : Nat} (h : xs.length ≤ n) (j : Nat) : (oneL k xs j).length ≤ n := by
  unfold oneL
  split
  · exact h
  · simp
theorem putL_one {k : Nat} (hk : k < 4) (xs : List Int) (p : Int) : (((putL (oneL k xs) k p).2 == 0) = false ∧ (putL (oneL k xs) k p).1 = oneL k xs) ∨ (((putL (oneL k xs) k p).2 == 0) = true ∧ (putL (oneL k xs) k p).1 = oneL k (xs ++ [p])) := by
  unfold putL
  split
  · exact .inl ⟨rfl, rfl⟩
  · split
    · exact .inl ⟨rfl, rfl⟩
    · refine .inr ⟨rfl, ?_⟩
      funext j
      show addL (oneL k xs) k p j = _
      unfold addL oneL
      by_cases e : j = k
      · subst e; simp
      · have : ¬ (j : Int) = (k : Int) := by omega
        simp [e, this]
theorem gone_one {k : Nat} (hk : k < 4) (xs : List Int) (s : Int) : goneTo (oneL k xs) s 4 = goneS s xs := by
  have h0 : goneS s [] = 0 := rfl
  match k, hk with
  | 0, _ => simp [goneTo, oneL, h0]
  | 1, _ => simp [goneTo, oneL, h0]
  | 2, _ => simp [goneTo, oneL, h0]
  | 3, _ => simp [goneTo, oneL, h0]
theorem cut_one (k : Nat) (xs : List Int) (s : Int) (j : Nat) : cutL (oneL k xs) s j = oneL k (keepS s xs) j := by
  unfold cutL oneL
  split
  · rfl
  · rfl
theorem take_none {k : Nat} (hk : k < 4) : (takeL (oneL k []) k).2.1 = 0 ∧ (takeL (oneL k []) k).2.2 = 7 ∧ (takeL (oneL k []) k).1 = oneL k [] := by
  unfold takeL
  rw [if_neg (by omega), if_pos (by simp [oneL])]
  exact ⟨rfl, rfl, rfl⟩
theorem take_one {k : Nat} (hk : k < 4) (ys : List Int) {q : Nat} (hq : q < ys.length) :
    (takeL (oneL k (ys.take (q + 1))) k).2.1 = ys[q] ∧ (takeL (oneL k (ys.take (q + 1))) k).2.2 = 0 ∧ ∀ j, j < 4 → (takeL (oneL k (ys.take (q + 1))) k).1 j = oneL k (ys.take q) j := by
  have hl : (ys.take (q + 1)).length = q + 1 := by simp; omega
  have hk' : oneL k (ys.take (q + 1)) k = ys.take (q + 1) := by simp [oneL]
  unfold takeL
  rw [if_neg (by omega), Int.toNat_natCast, hk', if_neg (by omega)]
  refine ⟨?_, rfl, fun j _ => ?_⟩
  · show lastOf (ys.take (q + 1)) = _
    unfold lastOf
    rw [hl]
    simp [List.getD, hq]
  · show popL (oneL k (ys.take (q + 1))) k j = _
    unfold popL oneL
    by_cases e : j = k
    · subst e
      rw [if_pos rfl, if_pos rfl, if_pos rfl, hl, List.take_take]
      congr 1
      omega
    · rw [if_neg (by omega), if_neg e, if_neg e]

set_option maxHeartbeats 3200000 in
set_option maxRecDepth 100000 in
theorem back_ok (v : Value) (ps : List Int) (c sp : Int) (w : World) (hv : Rd (fun n => Value.int .u16 n) w v ps) (hbd : ∀ x ∈ ps, 0 ≤ x ∧ x ≤ 65535) (hc : 0 ≤ c ∧ c ≤ 255) (hsp : 0 ≤ sp ∧ sp ≤ 65535) :
    Calls Try.prog 10 #[v, .int .u8 c, .int .u16 sp] w fun e w' => e = .returned (.bool true) ∧ Below w.heap.size w w' := by
  have SZ := Lib.hid lists_size
  have HP := Lib.hid hv
  have HB := Lib.hid hbd
  obtain ⟨A, cp, rfl, _⟩ := hv.len
  clear hv hbd
  obtain ⟨kc, hkc, hkc4⟩ : ∃ kc : Nat, (kc : Int) = c % 4 ∧ kc < 4 := ⟨(c % 4).toNat, by omega, by omega⟩
  go_enter Try.func10, Try.ntmps10
  go_wp2_with fail
  refine (alive_ok _).mono ?_
  rintro e w1 ⟨rfl, hb1⟩
  go_wp2_with (refine wpList_new rfl (.alloc 38) rfl w1.heap.size rfl 38 nil4 (by kernel_rfl) ?_; intro w2 hs2 hb2 hV2; refine stop_here ?_)
  have hV2 := Lib.hid hV2
  have hb2 := hb1.trans (hb2.mono hb1.size)
  have hz2 : w1.heap.size < w2.heap.size := by omega
  clear hs2
  refine go_on ?_
  go_wp2_with fail
  rw [← hkc]
  clear hkc
  go_loopw [9, 10] (fun h i wr => ∃ (m : Nat) (xs : List Int) (f : Nat → Value), m ≤ ps.length ∧ m ≤ 100 ∧ i = .int .i64 m ∧ xs.length ≤ m ∧ Hid (∀ x ∈ xs, 0 ≤ x ∧ x ≤ 199) ∧ Hid (wr.ownsRow w2.heap.size 3 1 h xs.length (xs.map i64e)) ∧
    Hid (Blk wr w1.heap.size 38 (arr4 f)) ∧ Hid (∀ j, j < 4 → Rd i64e wr (f j) (oneL kc xs j)) ∧ Hid (∀ j, j < 4 → 0 < (oneL kc xs j).length → ∀ b, (f j).ownBlock = some b → h.ownBlock ≠ some b) ∧ Below w.heap.size w wr ∧ w2.heap.size ≤ wr.heap.size) (fun _ i _ => 101 - (intOf i).toNat)
  case atStart => exact ⟨0, [], fun _ => .slice none 0 0, by omega, by omega, rfl, by simp, Lib.hid (by simp), Lib.hid (World.ownsRow_nil _ _ _ _), hV2, Lib.hid fun j _ => by rw [show oneL kc [] j = [] by simp [oneL]]; exact Rd.none_ _ _, Lib.hid fun j _ _ b hb => by simp [Value.ownBlock] at hb, hb2, Nat.le_refl _⟩
  case round =>
    obtain ⟨m, xs, f, hm, hm100, rfl, hxm, hxs, hown, hBl, hRd, hAp, hbr, hzr⟩ := hrel
    obtain ⟨wo, rfl⟩ : ∃ wo : World, wo = wr := ⟨_, rfl⟩
    by_cases hgo : m < ps.length ∧ m < 100
    · obtain ⟨hlt, hlt2⟩ := hgo
      have hmz : (0 : Int) ≤ (m : Int) := by omega
      have hml : (m : Int) < (ps.length : Int) := by omega
      have hmb : decide ((m : Int) < (ps.length : Int)) = true := by rw [decide_eq_true_iff]; omega
      have hmc : decide ((m : Int) < 100) = true := by rw [decide_eq_true_iff]; omega
      obtain ⟨b, o, rfl, hbl, hce⟩ := (HP.out.below hbr).at_ hlt
      obtain ⟨p, hp⟩ : ∃ p, p = ps[m] := ⟨_, rfl⟩
      have hpb := HB.out _ (List.getElem_mem hlt)
      rw [← hp] at hce hpb
      replace hce : wo.cell? ⟨b, o + m, none⟩ = some (.int .u16 p) := hce
      clear hp
      have hzn : w1.heap.size < wo.heap.size := hBl.out.lt
      obtain ⟨l0, l1, l2, l3⟩ := cell_arr4 hBl.out
      have HK : Hid (∀ w', Below wo.heap.size wo w' → Below wo.heap.size wo w' ∧ w'.cell? ⟨w1.heap.size, 0, none⟩ = some (f 0) ∧ w'.cell? ⟨w1.heap.size, 1, none⟩ = some (f 1) ∧ w'.cell? ⟨w1.heap.size, 2, none⟩ = some (f 2) ∧ w'.cell? ⟨w1.heap.size, 3, none⟩ = some (f 3) ∧ w'.cell? ⟨b, o + m, none⟩ = some (.int .u16 p)) := Lib.hid fun w' hB => ⟨hB, (hB.cell hzn).trans l0, (hB.cell hzn).trans l1, (hB.cell hzn).trans l2, (hB.cell hzn).trans l3, (hB.cell hbl).trans hce⟩
      have hD0 : Below wo.heap.size wo wo.drew := (Below.refl _ _).drew
      have rl : Hid (RdL wo (.agg #[f 0, f 1, f 2, f 3]) (oneL kc xs)) := Lib.hid ⟨f, rfl, hRd.out⟩
      have hS1 : Hid (ShortL (oneL kc xs)) := Lib.hid fun j _ => oneL_le (by omega) j
      clear l0 l1 l2 l3
      have hpw := Lib.hid (show IntKind.i64.wrap (p.tmod 200) = p % 200 by rw [Int.tmod_eq_emod_of_nonneg (by omega), IntWalk.i64_in _ (by omega)])
      go_wp2_with fail
      refine wp_region_noPanic ?_
      refine wp_region_held_drew (S := (fun w' => Below wo.heap.size wo w' ∧ w'.cell? ⟨w1.heap.size, 0, none⟩ = some (f 0) ∧ w'.cell? ⟨w1.heap.size, 1, none⟩ = some (f 1) ∧ w'.cell? ⟨w1.heap.size, 2, none⟩ = some (f 2) ∧ w'.cell? ⟨w1.heap.size, 3, none⟩ = some (f 3) ∧ w'.cell? ⟨b, o + m, none⟩ = some (.int .u16 p))) (by kernel_rfl) (HK.out _ hD0) (fun hHeld => ?_)
      refine take_yield (i := 0) (d := 40) (v := ?_) rfl (by rfl) (by kernel_rfl) (by kernel_rfl) (by kernel_rfl) (fun _ _ _ h => h) (by rfl) ?_ (by assumption) ?_
      rotate_left
      · intro w hSw
        (try dsimp only at hSw)
        first | (go_simp; done) | (go_simp; with_reducible rfl)
      (try simp only [Act.put, List.setIfInBounds_toArray, List.set_cons_zero, List.set_cons_succ])
      refine take_yield (i := 1) (d := 41) (v := ?_) rfl (by rfl) (by kernel_rfl) (by kernel_rfl) (by kernel_rfl) (fun _ _ _ h => h) (by rfl) ?_ (by assumption) ?_
      rotate_left
      · intro w hSw
        (try dsimp only at hSw)
        first | (go_simp; done) | (go_simp; with_reducible rfl)
      (try simp only [Act.put, List.setIfInBounds_toArray, List.set_cons_zero, List.set_cons_succ])
      refine take_yield (i := 2) (d := 42) (v := ?_) rfl (by rfl) (by kernel_rfl) (by kernel_rfl) (by kernel_rfl) (fun _ _ _ h => h) (by rfl) ?_ (by assumption) ?_
      rotate_left
      · intro w hSw
        (try dsimp only at hSw)
        first | (go_simp; done) | (go_simp; with_reducible rfl)
      (try simp only [Act.put, List.setIfInBounds_toArray, List.set_cons_zero, List.set_cons_succ])
      refine take_yield (i := 3) (d := 43) (v := ?_) rfl (by rfl) (by kernel_rfl) (by kernel_rfl) (by kernel_rfl) (fun _ _ _ h => h) (by rfl) ?_ (by assumption) ?_
      rotate_left
      · intro w hSw
        (try dsimp only at hSw)
        first | (go_simp; done) | (go_simp; with_reducible rfl)
      (try simp only [Act.put, List.setIfInBounds_toArray, List.set_cons_zero, List.set_cons_succ])
      refine take_yield (i := 4) (d := 44) (v := ?_) rfl (by rfl) (by kernel_rfl) (by kernel_rfl) (by kernel_rfl) (fun _ _ _ h => h) (by rfl) ?_ (by assumption) ?_
      rotate_left
      · intro w hSw
        (try dsimp only at hSw)
        first | (go_simp; done) | (go_simp; with_reducible rfl)
      (try simp only [Act.put, List.setIfInBounds_toArray, List.set_cons_zero, List.set_cons_succ])
      refine take_yield (i := 5) (d := 45) (v := ?_) rfl (by rfl) (by kernel_rfl) (by kernel_rfl) (by kernel_rfl) (fun _ _ _ h => h) (by rfl) ?_ (by assumption) ?_
      rotate_left
      · intro w hSw
        (try dsimp only at hSw)
        first | (go_simp; done) | (go_simp; with_reducible rfl)
      (try simp only [Act.put, List.setIfInBounds_toArray, List.set_cons_zero, List.set_cons_succ])
      refine take_yield (i := 6) (d := 46) (v := ?_) rfl (by rfl) (by kernel_rfl) (by kernel_rfl) (by kernel_rfl) (fun _ _ _ h => h) (by rfl) ?_ (by assumption) ?_
      rotate_left
      · intro w hSw
        (try dsimp only at hSw)
        first | (go_simp; done) | (go_simp; with_reducible rfl)
      (try simp only [Act.put, List.setIfInBounds_toArray, List.set_cons_zero, List.set_cons_succ])
      refine take_yield (i := 7) (d := 47) (v := ?_) rfl (by rfl) (by kernel_rfl) (by kernel_rfl) (by kernel_rfl) (fun _ _ _ h => h) (by rfl) ?_ (by assumption) ?_
      rotate_left
      · intro w hSw
        (try dsimp only at hSw)
        first | (go_simp; done) | (go_simp; with_reducible rfl)
      (try simp only [Act.put, List.setIfInBounds_toArray, List.set_cons_zero, List.set_cons_succ])
      refine wpAnyH_ready (rs := [8, 12]) (by kernel_rfl) (by simp) ?_
      refine AllReadyH.cons rfl (fun K hK => ?_) (AllReadyH.cons rfl (fun K hK => ?_) AllReadyH.nil)
      · go_simp
        rw [hpw.out]
        refine (put_fresh_any kc (p % 200) wo.heap.size (rl.out.below hD0) hS1.out (by omega) (Nat.le_refl _)).mono ?_
        rintro e w6 ⟨g, rfl, ⟨hg, hgb⟩, hb6⟩
        go_wp2_with fail
        have hA6 := below_all hD0 hb6
        refine hK.out _ _ (HK.out _ hA6) (fun hHeld => ?_)
        clear hK K
        (try simp only [Act.put, List.setIfInBounds_toArray, List.set_cons_zero, List.set_cons_succ])
        refine take_yield (i := 9) (d := 39) (v := ?_) rfl (by rfl) (by kernel_rfl) (by kernel_rfl) (by kernel_rfl) (fun _ _ _ h => h) (by rfl) ?_ (by assumption) ?_
        rotate_left
        · intro w hSw
          (try dsimp only at hSw)
          first | (go_simp; done) | (go_simp; with_reducible rfl)
        (try simp only [Act.put, List.setIfInBounds_toArray, List.set_cons_zero, List.set_cons_succ])
        refine take_yield (i := 10) (d := 49) (v := ?_) rfl (by rfl) (by kernel_rfl) (by kernel_rfl) (by kernel_rfl) (fun _ _ _ h => h) (by rfl) ?_ (by assumption) ?_
        rotate_left
        · intro w hSw
          (try dsimp only at hSw)
          first | (go_simp; done) | (go_simp; with_reducible rfl)
        (try simp only [Act.put, List.setIfInBounds_toArray, List.set_cons_zero, List.set_cons_succ])
        refine take_yield (i := 11) (d := 50) (v := ?_) rfl (by rfl) (by kernel_rfl) (by kernel_rfl) (by kernel_rfl) (fun _ _ _ h => h) (by rfl) ?_ (by assumption) ?_
        rotate_left
        · intro w hSw
          (try dsimp only at hSw)
          first | (go_simp; done) | (go_simp; with_reducible rfl)
        (try simp only [Act.put, List.setIfInBounds_toArray, List.set_cons_zero, List.set_cons_succ])
        refine wpAnyH_ready (rs := [12]) (by kernel_rfl) (by simp) ?_
        refine AllReadyH.cons rfl (fun K hK => ?_) AllReadyH.nil
        rw [if_pos (by rfl)]
        refine wp_new_d (d := 11) rfl (.alloc 38) rfl 38 nil4 (by kernel_rfl) ?_
        intro w7 hs7 hb7 hN7
        clear hs7
        have hA7 := below_all hA6 hb7
        refine hK.out _ _ (HK.out _ hA7) (fun hHeld => ?_)
        clear hK K
        (try simp only [Act.put, List.setIfInBounds_toArray, List.set_cons_zero, List.set_cons_succ])
        refine wpAnyH_ready (rs := [13]) (by kernel_rfl) (by simp) ?_
        refine AllReadyH.cons rfl (fun K hK => ?_) AllReadyH.nil
        rw [if_pos (by rfl)]
        refine wp_store_d rfl 38 (.tmp 11) (.tmp 49) rfl w6.heap.size rfl (arr4 g) rfl 38 nil4 hN7 SZ.out rfl (arr4_one fun j hj => rd_one (hg j hj)) ?_
        intro w8 hN8 hg8 hs8
        clear hs8
        have hA8 := grown_below hA7 hg8 hA7.size hA6.size
        refine hK.out _ _ (HK.out _ hA8) (fun hHeld => ?_)
        clear hK K
        (try simp only [Act.put, List.setIfInBounds_toArray, List.set_cons_zero, List.set_cons_succ])
        refine take_yield (i := 14) (d := 12) (v := ?_) rfl (by rfl) (by kernel_rfl) (by kernel_rfl) (by kernel_rfl) (fun _ _ _ h => h) (by rfl) ?_ (by assumption) ?_
        rotate_left
        · intro w hSw
          (try dsimp only at hSw)
          first | (go_simp; done) | (go_simp; with_reducible rfl)
        (try simp only [Act.put, List.setIfInBounds_toArray, List.set_cons_zero, List.set_cons_succ])
        refine wpAnyH_done (by kernel_rfl) ?_ _
        refine NoPanic.normal ?_
        have hb68 := grown_below hb7 hg8 hb7.size (Nat.le_refl _)
        have hg' : ∀ j, j < 4 → Rd i64e w8 (g j) ((putL (oneL kc xs) kc (p % 200)).1 j) := fun j hj => (hg j hj).below hb68
        have hgb' := hgb
        have hzN : wo.heap.size ≤ w6.heap.size := hA6.size
        have hGB := Lib.hid hgb'
        have hGR := Lib.hid hg'
        have hN8 := Lib.hid hN8
        have hBl8 := Lib.hid (hBl.out.below hA8 hBl.out.lt)
        have hown8 := own_below hown.out hA8
        have hl8 := hown.out.lt
        have hz8 : w2.heap.size ≤ w8.heap.size := by have := hA8.size; omega
        have hb8 := hbr.trans (hA8.mono hbr.size)
        have h1g := Lib.hid (arr4_one fun j hj => rd_one (hg' j hj))
        have hce8 : w8.cell? ⟨b, o + m, none⟩ = some (.int .u16 p) := (hA8.cell hbl).trans hce
        clear hg hgb hgb' hg' hHeld HK rl hD0 hA6 hA7 hce
        rcases putL_one hkc4 xs (p % 200) with ⟨he, hL⟩ | ⟨he, hL⟩
        · rw [hL] at hGR
          have hown8 := Lib.hid hown8
          have hl8 := Lib.hid hl8
          go_wp2_with (first
            | (refine wpList_load_blk rfl 38 (.tmp 11) rfl (w6.heap.size) rfl 38 (arr4 g) hN8.out _ Try.underlying38 rfl SZ.out ?_)
            | (refine wpList_store_blk rfl 38 (.tmp 8) (.tmp 62) rfl w1.heap.size rfl (arr4 g) rfl 38 (arr4 f) hBl8.out SZ.out rfl h1g.out ?_; intro w10 hBl10 hg10 hs10))
          go_roundw
          case rel => exact ⟨m + 1, xs, g, by omega, by omega, by go_num, by omega, hxs, Lib.hid (own_grown hown8.out hg10 hz2), Lib.hid hBl10,
            Lib.hid fun j hj => (hGR.out j hj).keep hg10.size fun _ b hb hlt => hg10.block b hlt fun e => by have := hGB.out j hj b hb; injection e with e; omega,
            Lib.hid fun j hj _ b hb e => by have h1 := hGB.out j hj b hb; have h2 := (hl8.out b e).2; omega,
            hb8.grown hg10 hb8.size (fun k hk => by cases hk; exact hb1.size), by omega⟩
          case measure => simp [intOf]; omega
        · rw [hL] at hGR
          go_wp2_with (at_builtin; refine wpList_push rfl (.tmp 53) (.tmp 60) _ rfl w2.heap.size 3 _ 8 Try.underlying26 int_info rfl _ _ _ rfl hown8 _ rfl rfl (by unfold maxLen; omega) (by omega) hz8 ?_; intro v' w9 hown9 hg9 hat9; refine stop_here ?_)
          have hN9 := Lib.hid (hN8.out.grown hg9 (fun e => by have := (hl8 _ e.symm).2; omega))
          have hBl9 := Lib.hid (hBl8.out.grown hg9 (fun e => by have := (hl8 _ e.symm).1; omega))
          have hGR9 : Hid (∀ j, j < 4 → Rd i64e w9 (g j) (oneL kc (xs ++ [p % 200]) j)) := Lib.hid fun j hj => (hGR.out j hj).keep hg9.size fun _ b hb hlt => hg9.block b hlt fun e => by have h1 := hGB.out j hj b hb; have h2 := (hl8 _ e.symm).2; omega
          have hb9 := hb8.grown hg9 hb8.size (fun k hk => by have h1 := (hl8 _ hk).1; have h2 := hb2.size; omega)
          have hap : Hid (∀ j, j < 4 → 0 < (oneL kc (xs ++ [p % 200]) j).length → ∀ b, (g j).ownBlock = some b → v'.ownBlock ≠ some b) := Lib.hid fun j hj hp b hb e => by
            have h1 := hGB.out j hj b hb
            have h3 := (hGR.out j hj).block hb hp
            rcases hat9 with h | h
            · have h2 := (hl8 b (h ▸ e)).2; omega
            · rw [h] at e; injection e with e; omega
          have hown9 := Lib.hid (show w9.ownsRow w2.heap.size 3 1 v' (xs ++ [p % 200]).length ((xs ++ [p % 200]).map i64e) by simpa using hown9)
          have hs9 := hg9.size
          clear hg9 hat9 hN8 hBl8 hown8 hl8
          refine go_on ?_
          go_wp2_with (first
            | (refine wpList_load_blk rfl 38 (.tmp 11) rfl (w6.heap.size) rfl 38 (arr4 g) hN9.out _ Try.underlying38 rfl SZ.out ?_)
            | (refine wpList_store_blk rfl 38 (.tmp 8) (.tmp 62) rfl w1.heap.size rfl (arr4 g) rfl 38 (arr4 f) hBl9.out SZ.out rfl h1g.out ?_; intro w10 hBl10 hg10 hs10))
          go_roundw
          case rel => exact ⟨m + 1, xs ++ [p % 200], g, by omega, by omega, by go_num, by simp; omega, Lib.hid fun x hx => by
              rcases List.mem_append.1 hx with hx | hx
              · exact hxs.out x hx
              · simp only [List.mem_singleton] at hx; omega, Lib.hid (own_grown hown9.out hg10 hz2), Lib.hid hBl10,
            Lib.hid fun j hj => (hGR9.out j hj).keep hg10.size fun _ b hb hlt => hg10.block b hlt fun e => by have := hGB.out j hj b hb; injection e with e; omega,
            hap, hb9.grown hg10 hb9.size (fun k hk => by cases hk; exact hb1.size), by omega⟩
          case measure => simp [intOf]; omega
      · rw [if_pos (by rfl)]
        refine wp_new_d (d := 11) rfl (.alloc 38) rfl 38 nil4 (by kernel_rfl) ?_
        intro w7 hs7 hb7 hN7
        have hA7 := below_all hD0 hb7
        have hs7 : w7.heap.size = wo.heap.size + 1 := hs7
        have hN7 : Blk w7 wo.heap.size 38 nil4 := hN7
        have hs7 := Lib.hid hs7
        refine hK.out _ _ (HK.out _ hA7) (fun hHeld => ?_)
        clear hK K
        (try simp only [Act.put, List.setIfInBounds_toArray, List.set_cons_zero, List.set_cons_succ])
        refine wpAnyH_ready (rs := [8]) (by kernel_rfl) (by simp) ?_
        refine AllReadyH.cons rfl (fun K hK => ?_) AllReadyH.nil
        go_simp
        rw [hpw.out]
        refine (put_fresh_any kc (p % 200) w7.heap.size (rl.out.below hA7) hS1.out (by omega) (Nat.le_refl _)).mono ?_
        rintro e w6 ⟨g, rfl, ⟨hg, hgb⟩, hb6⟩
        go_wp2_with fail
        have hA6 := below_all hA7 hb6
        refine hK.out _ _ (HK.out _ hA6) (fun hHeld => ?_)
        clear hK K
        (try simp only [Act.put, List.setIfInBounds_toArray, List.set_cons_zero, List.set_cons_succ])
        refine take_yield (i := 9) (d := 39) (v := ?_) rfl (by rfl) (by kernel_rfl) (by kernel_rfl) (by kernel_rfl) (fun _ _ _ h => h) (by rfl) ?_ (by assumption) ?_
        rotate_left
        · intro w hSw
          (try dsimp only at hSw)
          first | (go_simp; done) | (go_simp; with_reducible rfl)
        (try simp only [Act.put, List.setIfInBounds_toArray, List.set_cons_zero, List.set_cons_succ])
        refine take_yield (i := 10) (d := 49) (v := ?_) rfl (by rfl) (by kernel_rfl) (by kernel_rfl) (by kernel_rfl) (fun _ _ _ h => h) (by rfl) ?_ (by assumption) ?_
        rotate_left
        · intro w hSw
          (try dsimp only at hSw)
          first | (go_simp; done) | (go_simp; with_reducible rfl)
        (try simp only [Act.put, List.setIfInBounds_toArray, List.set_cons_zero, List.set_cons_succ])
        refine take_yield (i := 11) (d := 50) (v := ?_) rfl (by rfl) (by kernel_rfl) (by kernel_rfl) (by kernel_rfl) (fun _ _ _ h => h) (by rfl) ?_ (by assumption) ?_
        rotate_left
        · intro w hSw
          (try dsimp only at hSw)
          first | (go_simp; done) | (go_simp; with_reducible rfl)
        (try simp only [Act.put, List.setIfInBounds_toArray, List.set_cons_zero, List.set_cons_succ])
        refine wpAnyH_ready (rs := [13]) (by kernel_rfl) (by simp) ?_
        refine AllReadyH.cons rfl (fun K hK => ?_) AllReadyH.nil
        rw [if_pos (by rfl)]
        refine wp_store_d rfl 38 (.tmp 11) (.tmp 49) rfl wo.heap.size rfl (arr4 g) rfl 38 nil4 (hN7.below hb6 hN7.lt) SZ.out rfl (arr4_one fun j hj => rd_one (hg j hj)) ?_
        intro w8 hN8 hg8 hs8
        clear hs8
        have hA8 := grown_below hA6 hg8 hA6.size (Nat.le_refl _)
        refine hK.out _ _ (HK.out _ hA8) (fun hHeld => ?_)
        clear hK K
        (try simp only [Act.put, List.setIfInBounds_toArray, List.set_cons_zero, List.set_cons_succ])
        refine take_yield (i := 14) (d := 12) (v := ?_) rfl (by rfl) (by kernel_rfl) (by kernel_rfl) (by kernel_rfl) (fun _ _ _ h => h) (by rfl) ?_ (by assumption) ?_
        rotate_left
        · intro w hSw
          (try dsimp only at hSw)
          first | (go_simp; done) | (go_simp; with_reducible rfl)
        (try simp only [Act.put, List.setIfInBounds_toArray, List.set_cons_zero, List.set_cons_succ])
        refine wpAnyH_done (by kernel_rfl) ?_ _
        refine NoPanic.normal ?_
        have hgb' : ∀ j, j < 4 → ∀ b, (g j).ownBlock = some b → wo.heap.size ≤ b := fun j hj b hb => by have := hgb j hj b hb; have := hs7.out; omega
        have hg' : ∀ j, j < 4 → Rd i64e w8 (g j) ((putL (oneL kc xs) kc (p % 200)).1 j) := fun j hj => (hg j hj).keep hg8.size fun _ b hb hlt => hg8.block b hlt fun e => by have := hgb j hj b hb; have := hs7.out; injection e with e; omega
        have hzN : wo.heap.size ≤ wo.heap.size := Nat.le_refl _
        have hGB := Lib.hid hgb'
        have hGR := Lib.hid hg'
        have hN8 := Lib.hid hN8
        have hBl8 := Lib.hid (hBl.out.below hA8 hBl.out.lt)
        have hown8 := own_below hown.out hA8
        have hl8 := hown.out.lt
        have hz8 : w2.heap.size ≤ w8.heap.size := by have := hA8.size; omega
        have hb8 := hbr.trans (hA8.mono hbr.size)
        have h1g := Lib.hid (arr4_one fun j hj => rd_one (hg' j hj))
        have hce8 : w8.cell? ⟨b, o + m, none⟩ = some (.int .u16 p) := (hA8.cell hbl).trans hce
        clear hg hgb hgb' hg' hHeld HK rl hD0 hA6 hA7 hce
        rcases putL_one hkc4 xs (p % 200) with ⟨he, hL⟩ | ⟨he, hL⟩
        · rw [hL] at hGR
          have hown8 := Lib.hid hown8
          have hl8 := Lib.hid hl8
          go_wp2_with (first
            | (refine wpList_load_blk rfl 38 (.tmp 11) rfl (wo.heap.size) rfl 38 (arr4 g) hN8.out _ Try.underlying38 rfl SZ.out ?_)
            | (refine wpList_store_blk rfl 38 (.tmp 8) (.tmp 62) rfl w1.heap.size rfl (arr4 g) rfl 38 (arr4 f) hBl8.out SZ.out rfl h1g.out ?_; intro w10 hBl10 hg10 hs10))
          go_roundw
          case rel => exact ⟨m + 1, xs, g, by omega, by omega, by go_num, by omega, hxs, Lib.hid (own_grown hown8.out hg10 hz2), Lib.hid hBl10,
            Lib.hid fun j hj => (hGR.out j hj).keep hg10.size fun _ b hb hlt => hg10.block b hlt fun e => by have := hGB.out j hj b hb; injection e with e; omega,
            Lib.hid fun j hj _ b hb e => by have h1 := hGB.out j hj b hb; have h2 := (hl8.out b e).2; omega,
            hb8.grown hg10 hb8.size (fun k hk => by cases hk; exact hb1.size), by omega⟩
          case measure => simp [intOf]; omega
        · rw [hL] at hGR
          go_wp2_with (at_builtin; refine wpList_push rfl (.tmp 53) (.tmp 60) _ rfl w2.heap.size 3 _ 8 Try.underlying26 int_info rfl _ _ _ rfl hown8 _ rfl rfl (by unfold maxLen; omega) (by omega) hz8 ?_; intro v' w9 hown9 hg9 hat9; refine stop_here ?_)
          have hN9 := Lib.hid (hN8.out.grown hg9 (fun e => by have := (hl8 _ e.symm).2; omega))
          have hBl9 := Lib.hid (hBl8.out.grown hg9 (fun e => by have := (hl8 _ e.symm).1; omega))
          have hGR9 : Hid (∀ j, j < 4 → Rd i64e w9 (g j) (oneL kc (xs ++ [p % 200]) j)) := Lib.hid fun j hj => (hGR.out j hj).keep hg9.size fun _ b hb hlt => hg9.block b hlt fun e => by have h1 := hGB.out j hj b hb; have h2 := (hl8 _ e.symm).2; omega
          have hb9 := hb8.grown hg9 hb8.size (fun k hk => by have h1 := (hl8 _ hk).1; have h2 := hb2.size; omega)
          have hap : Hid (∀ j, j < 4 → 0 < (oneL kc (xs ++ [p % 200]) j).length → ∀ b, (g j).ownBlock = some b → v'.ownBlock ≠ some b) := Lib.hid fun j hj hp b hb e => by
            have h1 := hGB.out j hj b hb
            have h3 := (hGR.out j hj).block hb hp
            rcases hat9 with h | h
            · have h2 := (hl8 b (h ▸ e)).2; omega
            · rw [h] at e; injection e with e; omega
          have hown9 := Lib.hid (show w9.ownsRow w2.heap.size 3 1 v' (xs ++ [p % 200]).length ((xs ++ [p % 200]).map i64e) by simpa using hown9)
          have hs9 := hg9.size
          clear hg9 hat9 hN8 hBl8 hown8 hl8
          refine go_on ?_
          go_wp2_with (first
            | (refine wpList_load_blk rfl 38 (.tmp 11) rfl (wo.heap.size) rfl 38 (arr4 g) hN9.out _ Try.underlying38 rfl SZ.out ?_)
            | (refine wpList_store_blk rfl 38 (.tmp 8) (.tmp 62) rfl w1.heap.size rfl (arr4 g) rfl 38 (arr4 f) hBl9.out SZ.out rfl h1g.out ?_; intro w10 hBl10 hg10 hs10))
          go_roundw
          case rel => exact ⟨m + 1, xs ++ [p % 200], g, by omega, by omega, by go_num, by simp; omega, Lib.hid fun x hx => by
              rcases List.mem_append.1 hx with hx | hx
              · exact hxs.out x hx
              · simp only [List.mem_singleton] at hx; omega, Lib.hid (own_grown hown9.out hg10 hz2), Lib.hid hBl10,
            Lib.hid fun j hj => (hGR9.out j hj).keep hg10.size fun _ b hb hlt => hg10.block b hlt fun e => by have := hGB.out j hj b hb; injection e with e; omega,
            hap, hb9.grown hg10 hb9.size (fun k hk => by cases hk; exact hb1.size), by omega⟩
          case measure => simp [intOf]; omega
    · have hxl : xs.length ≤ 100 := by omega
      by_cases hlt : m < ps.length
      · have hmb : decide ((m : Int) < (ps.length : Int)) = true := by rw [decide_eq_true_iff]; omega
        have hmc : decide ((m : Int) < 100) = false := by rw [decide_eq_false_iff_not]; omega
        have hSx : Hid (ShortL (oneL kc xs)) := Lib.hid fun j _ => oneL_le (by omega) j
        have hBx : Hid (BdL (oneL kc xs)) := Lib.hid fun j _ x hx => by
          unfold oneL at hx
          split at hx
          · have := hxs.out x hx; omega
          · cases hx
        have hVn : Hid (VarL wo w1.heap.size 38 (oneL kc xs)) := Lib.hid ⟨f, hBl.out, hRd.out⟩
        have hX := Rd.of_own (enc := i64e) (xs := xs) hown.out
        have hol := hown.out.lt
        obtain ⟨Ah, ch, rfl, hch⟩ := hX.len
        have hX := Lib.hid hX
        clear hown hBl hRd hAp
        go_wp2_with (refine wpList_load_var rfl 38 (.tmp 8) rfl w1.heap.size rfl 38 (oneL kc xs) hVn.out _ Try.underlying38 rfl SZ.out ?_; intro f4 hf4)
        refine (cut_at (oneL kc (keepS (sp % 25) xs)) (sp % 25) (goneS (sp % 25) xs) ⟨f4, rfl, hf4⟩ hSx.out hBx.out (gone_one hkc4 xs _) fun j _ => cut_one kc xs _ j).mono ?_
        rintro e w6 ⟨v6, rfl, hv6, hb6⟩
        have hv6 := Lib.hid hv6
        have hV6 := Lib.hid (hVn.out.below hb6)
        have hX6 := Lib.hid (hX.out.below hb6)
        clear hf4
        go_wp2_with (refine wpList_store_var rfl 38 (.tmp 8) (.tmp 69) rfl w1.heap.size rfl _ rfl _ hv6.out 38 (oneL kc xs) hV6.out SZ.out ?_; intro w7 hV7 hg7 hs7; clear hs7; refine stop_here ?_)
        have hV7 := Lib.hid hV7
        have hX7 : Hid (Rd i64e w7 (.slice Ah xs.length ch) xs) := Lib.hid (hX6.out.keep hg7.size fun _ b hb hlt => hg7.block b hlt fun e => by have := (hol b hb).1; injection e with e; omega)
        have hb7 : Below w.heap.size w w7 := grown_below (hbr.trans (hb6.mono hbr.size)) hg7 (by have := hbr.size; have := hb6.size; omega) hb1.size
        have hz7 : w2.heap.size ≤ w7.heap.size := by have := hb6.size; have := hg7.size; omega
        have hn7 : w1.heap.size < w7.heap.size := by omega
        clear hX hX6 hVn hV6 hv6 hol hg7
        refine go_on ?_
        go_wp2_with fail
        go_loopw [73, 14] (fun i l wr => ∃ q : Nat, q ≤ xs.length ∧ i = .int .i64 q ∧ wr.ownsRow w7.heap.size 3 1 l (keepS (sp % 25) (xs.take q)).length ((keepS (sp % 25) (xs.take q)).map i64e) ∧ Below w7.heap.size w7 wr) (fun i _ _ => xs.length - (intOf i).toNat)
        case atStart => exact ⟨0, by omega, rfl, World.ownsRow_nil _ _ _ _, Below.refl _ _⟩
        case round =>
          obtain ⟨q, hq, rfl, hown, hbq⟩ := hrel
          by_cases hqx : q < xs.length
          · obtain ⟨b, o, rfl, _, hcx⟩ := (hX7.out.below hbq).at_ hqx
            have hqz : (0 : Int) ≤ (q : Int) := by omega
            have hql : (q : Int) < (xs.length : Int) := by omega
            have hqb : decide ((q : Int) < (xs.length : Int)) = true := by rw [decide_eq_true_iff]; omega
            have hx9 : xs[q] ≤ 9223372036854775807 := by have := hxs.out _ (List.getElem_mem hqx); omega
            have hks := keep_snoc (sp % 25) (xs.take q) xs[q]
            rw [← take_snoc xs hqx] at hks
            have hkl : (keepS (sp % 25) (xs.take q)).length ≤ 100 := by have := keep_le (sp % 25) (xs.take q); have : (xs.take q).length ≤ xs.length := by simp; omega
                                                                        omega
            have hzq := hbq.size
            by_cases hsx : spanOf xs[q] = sp % 25
            · have hsb : (spanOf xs[q] != sp % 25) = false := by rw [hsx]; exact bne_self_eq_false _
              rw [if_pos hsx] at hks
              have hks := Lib.hid hks
              clear hsx
              go_wp2_with (go_at_call 21; refine (in_ok _ _ hx9).mono ?_; rintro e w' ⟨rfl, rfl⟩)
              go_roundw
              case rel => exact ⟨q + 1, by omega, by go_num, by rw [hks.out]; exact hown, hbq⟩
              case measure => simp [intOf]; omega
            · have hsb : (spanOf xs[q] != sp % 25) = true := by simpa using hsx
              rw [if_neg hsx] at hks
              have hks := Lib.hid hks
              clear hsx
              go_wp2_with (first
                | (go_at_call 21; refine (in_ok _ _ hx9).mono ?_; rintro e w' ⟨rfl, rfl⟩)
                | (at_builtin; refine wpList_push rfl (.tmp 83) (.tmp 85) _ rfl w7.heap.size 3 _ 8 Try.underlying26 int_info rfl _ _ _ rfl hown _ rfl rfl (by unfold maxLen; omega) (by omega) hzq ?_; intro v' w9 hown9 hg9 hat9))
              go_roundw
              case rel => exact ⟨q + 1, by omega, by go_num, by rw [hks.out]; simpa using hown9, hbq.grown hg9 hbq.size (fun k hk => (hown.lt k hk).1)⟩
              case measure => simp [intOf]; omega
          · obtain rfl : q = xs.length := by omega
            obtain ⟨wp, rfl⟩ : ∃ wp : World, wp = wr := ⟨_, rfl⟩
            rw [List.take_length] at hown
            have hqb : decide ((xs.length : Int) < (xs.length : Int)) = false := by rw [decide_eq_false_iff_not]; omega
            have hkg := keep_gone (sp % 25) xs
            have hkl := keep_le (sp % 25) xs
            obtain ⟨ys, hys⟩ : ∃ ys, ys = keepS (sp % 25) xs := ⟨_, rfl⟩
            rw [← hys] at hown hkg hkl
            have hV9 := hV7.out.below hbq
            rw [← hys] at hV9
            have hV9 := Lib.hid hV9
            have hY := Rd.of_own (enc := i64e) (xs := ys) hown
            have hyl := hown.lt
            obtain ⟨Ay, cy, rfl, hcy⟩ := hY.len
            have hY := Lib.hid hY
            have hge : (goneS (sp % 25) xs != (xs.length : Int) - (ys.length : Int)) = false := by rw [hkg, show (xs.length : Int) - ((xs.length : Int) - goneS (sp % 25) xs) = goneS (sp % 25) xs by omega]; exact bne_self_eq_false _
            have hb9 := hb7.trans (hbq.mono hb7.size)
            have hz9 : w7.heap.size ≤ wp.heap.size := hbq.size
            clear hown hys hkg
            go_wp2_with fail
            go_loopw [17] (fun i wr => ∃ z : Nat, z ≤ ys.length ∧ i = .int .i64 ((z : Int) - 1) ∧ Hid (VarL wr w1.heap.size 38 (oneL kc (ys.take z))) ∧ Hid (Rd i64e wr (.slice Ay ys.length cy) ys) ∧ Below w.heap.size w wr) (fun i _ => ((intOf i) + 1).toNat)
            case atStart => exact ⟨ys.length, Nat.le_refl _, rfl, Lib.hid (by rw [List.take_length]; exact hV9.out), hY, hb9⟩
            case round =>
              obtain ⟨z, hz, rfl, hV, hYr, hb⟩ := hrel
              obtain ⟨wq, rfl⟩ : ∃ wq : World, wq = wr := ⟨_, rfl⟩
              have hzn := hV.out.lt
              rcases (by cases z with | zero => exact .inl rfl | succ q => exact .inr ⟨q, rfl⟩ : z = 0 ∨ ∃ q, z = q + 1) with rfl | ⟨q, rfl⟩
              · rw [List.take_zero] at hV
                rw [show (((0 : Nat) : Int) - 1) = -1 from rfl]
                go_wp2_with (refine wpList_load_var rfl 38 (.tmp 8) rfl w1.heap.size rfl 38 (oneL kc []) hV.out _ Try.underlying38 rfl SZ.out ?_; intro f9 hf9)
                refine (take_at (oneL kc []) kc 0 7 ⟨f9, rfl, hf9⟩ (fun j _ => oneL_le (by simp) j) (take_none hkc4).1 (take_none hkc4).2.1 fun j _ => by rw [(take_none hkc4).2.2]).mono ?_
                rintro e w11 ⟨v11, rfl, hv11, hb11⟩
                have hv11 := Lib.hid hv11
                clear hf9
                go_wp2_with (first
                  | (refine wpList_new rfl (.alloc 38) rfl w11.heap.size rfl 38 nil4 (by kernel_rfl) ?_; intro w12 hs12 hb12 hN12; have hN12 := Lib.hid (VarL.nil hN12); have hv12 := Lib.hid (hv11.out.below hb12); clear hs12)
                  | (refine wpList_store_var rfl 38 (.tmp 21) (.tmp 124) rfl w11.heap.size rfl _ rfl _ hv12.out 38 noL hN12.out SZ.out ?_; intro w13 hN13 hg13 hs13))
                go_ret
                have hbx := hb.trans (hb11.mono hb.size)
                exact ⟨rfl, grown_below (hbx.trans (hb12.mono hbx.size)) hg13 (by have := hbx.size; have := hb12.size; omega) hbx.size⟩
              · have hqy : q < ys.length := by omega
                rw [show (((q + 1 : Nat) : Int) - 1) = (q : Int) by omega]
                have hq0 : (0 : Int) ≤ (q : Int) := by omega
                have hql : (q : Int) < (ys.length : Int) := by omega
                have hqb : decide ((0 : Int) ≤ (q : Int)) = true := by rw [decide_eq_true_iff]; omega
                obtain ⟨t1, t2, t3⟩ := take_one hkc4 ys hqy
                go_wp2_with (refine wpList_load_var rfl 38 (.tmp 8) rfl w1.heap.size rfl 38 (oneL kc (ys.take (q + 1))) hV.out _ Try.underlying38 rfl SZ.out ?_; intro f9 hf9)
                refine (take_at (oneL kc (ys.take q)) kc ys[q] 0 ⟨f9, rfl, hf9⟩ (fun j _ => oneL_le (by simp; omega) j) t1 t2 t3).mono ?_
                rintro e w11 ⟨v11, rfl, hv11, hb11⟩
                have hv11 := Lib.hid hv11
                clear hf9 t1 t2 t3
                go_wp2_with (first
                  | (refine wpList_new rfl (.alloc 38) rfl w11.heap.size rfl 38 nil4 (by kernel_rfl) ?_; intro w12 hs12 hb12 hN12; have hN12 := Lib.hid (VarL.nil hN12); have hv12 := Lib.hid (hv11.out.below hb12); clear hs12)
                  | (refine wpList_store_var rfl 38 (.tmp 18) (.tmp 106) rfl w11.heap.size rfl _ rfl (oneL kc (ys.take q)) hv12.out 38 noL hN12.out SZ.out ?_; intro w13 hN13 hg13 hs13; refine stop_here ?_))
                clear hs13
                have hN13 := Lib.hid hN13
                have hb13 := grown_below hb12 hg13 hb12.size (Nat.le_refl _)
                have hb13' := hb11.trans (hb13.mono hb11.size)
                have hV13 := Lib.hid (hV.out.below hb13')
                have hY13 := hYr.out.below hb13'
                obtain ⟨b, o, rfl, _, hcx⟩ := hY13.at_ hqy
                have hY13 := Lib.hid hY13
                have hnx : (ys[q] != ys[q]) = false := bne_self_eq_false _
                have hbx := hb.trans (hb13'.mono hb.size)
                clear hN12 hv12 hv11 hg13
                refine go_on ?_
                go_wp2_with (first
                  | (refine wpList_load_var rfl 38 (.tmp 18) rfl w11.heap.size rfl 38 (oneL kc (ys.take q)) hN13.out _ Try.underlying38 rfl SZ.out ?_; intro g9 hg9)
                  | (refine wpList_store_var rfl 38 (.tmp 8) (.tmp 119) rfl w1.heap.size rfl _ rfl (oneL kc (ys.take q)) ⟨g9, rfl, hg9⟩ 38 (oneL kc (ys.take (q + 1))) hV13.out SZ.out ?_; intro w14 hV14 hg14 hs14))
                go_roundw
                case rel => exact ⟨q, by omega, by first | rfl | go_num, Lib.hid hV14, Lib.hid (hY13.out.keep hg14.size fun _ b' hb' hlt => hg14.block b' hlt fun e => by have := (hyl b' hb').1; injection e with e; omega), grown_below hbx hg14 hbx.size hb1.size⟩
                case measure => first | (simp [intOf]; done) | (simp [intOf]; omega)
      · have hmb : decide ((m : Int) < (ps.length : Int)) = false := by rw [decide_eq_false_iff_not]; omega
        have hSx : Hid (ShortL (oneL kc xs)) := Lib.hid fun j _ => oneL_le (by omega) j
        have hBx : Hid (BdL (oneL kc xs)) := Lib.hid fun j _ x hx => by
          unfold oneL at hx
          split at hx
          · have := hxs.out x hx; omega
          · cases hx
        have hVn : Hid (VarL wo w1.heap.size 38 (oneL kc xs)) := Lib.hid ⟨f, hBl.out, hRd.out⟩
        have hX := Rd.of_own (enc := i64e) (xs := xs) hown.out
        have hol := hown.out.lt
        obtain ⟨Ah, ch, rfl, hch⟩ := hX.len
        have hX := Lib.hid hX
        clear hown hBl hRd hAp
        go_wp2_with (refine wpList_load_var rfl 38 (.tmp 8) rfl w1.heap.size rfl 38 (oneL kc xs) hVn.out _ Try.underlying38 rfl SZ.out ?_; intro f4 hf4)
        refine (cut_at (oneL kc (keepS (sp % 25) xs)) (sp % 25) (goneS (sp % 25) xs) ⟨f4, rfl, hf4⟩ hSx.out hBx.out (gone_one hkc4 xs _) fun j _ => cut_one kc xs _ j).mono ?_
        rintro e w6 ⟨v6, rfl, hv6, hb6⟩
        have hv6 := Lib.hid hv6
        have hV6 := Lib.hid (hVn.out.below hb6)
        have hX6 := Lib.hid (hX.out.below hb6)
        clear hf4
        go_wp2_with (refine wpList_store_var rfl 38 (.tmp 8) (.tmp 69) rfl w1.heap.size rfl _ rfl _ hv6.out 38 (oneL kc xs) hV6.out SZ.out ?_; intro w7 hV7 hg7 hs7; clear hs7; refine stop_here ?_)
        have hV7 := Lib.hid hV7
        have hX7 : Hid (Rd i64e w7 (.slice Ah xs.length ch) xs) := Lib.hid (hX6.out.keep hg7.size fun _ b hb hlt => hg7.block b hlt fun e => by have := (hol b hb).1; injection e with e; omega)
        have hb7 : Below w.heap.size w w7 := grown_below (hbr.trans (hb6.mono hbr.size)) hg7 (by have := hbr.size; have := hb6.size; omega) hb1.size
        have hz7 : w2.heap.size ≤ w7.heap.size := by have := hb6.size; have := hg7.size; omega
        have hn7 : w1.heap.size < w7.heap.size := by omega
        clear hX hX6 hVn hV6 hv6 hol hg7
        refine go_on ?_
        go_wp2_with fail
        go_loopw [73, 14] (fun i l wr => ∃ q : Nat, q ≤ xs.length ∧ i = .int .i64 q ∧ wr.ownsRow w7.heap.size 3 1 l (keepS (sp % 25) (xs.take q)).length ((keepS (sp % 25) (xs.take q)).map i64e) ∧ Below w7.heap.size w7 wr) (fun i _ _ => xs.length - (intOf i).toNat)
        case atStart => exact ⟨0, by omega, rfl, World.ownsRow_nil _ _ _ _, Below.refl _ _⟩
        case round =>
          obtain ⟨q, hq, rfl, hown, hbq⟩ := hrel
          by_cases hqx : q < xs.length
          · obtain ⟨b, o, rfl, _, hcx⟩ := (hX7.out.below hbq).at_ hqx
            have hqz : (0 : Int) ≤ (q : Int) := by omega
            have hql : (q : Int) < (xs.length : Int) := by omega
            have hqb : decide ((q : Int) < (xs.length : Int)) = true := by rw [decide_eq_true_iff]; omega
            have hx9 : xs[q] ≤ 9223372036854775807 := by have := hxs.out _ (List.getElem_mem hqx); omega
            have hks := keep_snoc (sp % 25) (xs.take q) xs[q]
            rw [← take_snoc xs hqx] at hks
            have hkl : (keepS (sp % 25) (xs.take q)).length ≤ 100 := by have := keep_le (sp % 25) (xs.take q); have : (xs.take q).length ≤ xs.length := by simp; omega
                                                                        omega
            have hzq := hbq.size
            by_cases hsx : spanOf xs[q] = sp % 25
            · have hsb : (spanOf xs[q] != sp % 25) = false := by rw [hsx]; exact bne_self_eq_false _
              rw [if_pos hsx] at hks
              have hks := Lib.hid hks
              clear hsx
              go_wp2_with (go_at_call 21; refine (in_ok _ _ hx9).mono ?_; rintro e w' ⟨rfl, rfl⟩)
              go_roundw
              case rel => exact ⟨q + 1, by omega, by go_num, by rw [hks.out]; exact hown, hbq⟩
              case measure => simp [intOf]; omega
            · have hsb : (spanOf xs[q] != sp % 25) = true := by simpa using hsx
              rw [if_neg hsx] at hks
              have hks := Lib.hid hks
              clear hsx
              go_wp2_with (first
                | (go_at_call 21; refine (in_ok _ _ hx9).mono ?_; rintro e w' ⟨rfl, rfl⟩)
                | (at_builtin; refine wpList_push rfl (.tmp 83) (.tmp 85) _ rfl w7.heap.size 3 _ 8 Try.underlying26 int_info rfl _ _ _ rfl hown _ rfl rfl (by unfold maxLen; omega) (by omega) hzq ?_; intro v' w9 hown9 hg9 hat9))
              go_roundw
              case rel => exact ⟨q + 1, by omega, by go_num, by rw [hks.out]; simpa using hown9, hbq.grown hg9 hbq.size (fun k hk => (hown.lt k hk).1)⟩
              case measure => simp [intOf]; omega
          · obtain rfl : q = xs.length := by omega
            obtain ⟨wp, rfl⟩ : ∃ wp : World, wp = wr := ⟨_, rfl⟩
            rw [List.take_length] at hown
            have hqb : decide ((xs.length : Int) < (xs.length : Int)) = false := by rw [decide_eq_false_iff_not]; omega
            have hkg := keep_gone (sp % 25) xs
            have hkl := keep_le (sp % 25) xs
            obtain ⟨ys, hys⟩ : ∃ ys, ys = keepS (sp % 25) xs := ⟨_, rfl⟩
            rw [← hys] at hown hkg hkl
            have hV9 := hV7.out.below hbq
            rw [← hys] at hV9
            have hV9 := Lib.hid hV9
            have hY := Rd.of_own (enc := i64e) (xs := ys) hown
            have hyl := hown.lt
            obtain ⟨Ay, cy, rfl, hcy⟩ := hY.len
            have hY := Lib.hid hY
            have hge : (goneS (sp % 25) xs != (xs.length : Int) - (ys.length : Int)) = false := by rw [hkg, show (xs.length : Int) - ((xs.length : Int) - goneS (sp % 25) xs) = goneS (sp % 25) xs by omega]; exact bne_self_eq_false _
            have hb9 := hb7.trans (hbq.mono hb7.size)
            have hz9 : w7.heap.size ≤ wp.heap.size := hbq.size
            clear hown hys hkg
            go_wp2_with fail
            go_loopw [17] (fun i wr => ∃ z : Nat, z ≤ ys.length ∧ i = .int .i64 ((z : Int) - 1) ∧ Hid (VarL wr w1.heap.size 38 (oneL kc (ys.take z))) ∧ Hid (Rd i64e wr (.slice Ay ys.length cy) ys) ∧ Below w.heap.size w wr) (fun i _ => ((intOf i) + 1).toNat)
            case atStart => exact ⟨ys.length, Nat.le_refl _, rfl, Lib.hid (by rw [List.take_length]; exact hV9.out), hY, hb9⟩
            case round =>
              obtain ⟨z, hz, rfl, hV, hYr, hb⟩ := hrel
              obtain ⟨wq, rfl⟩ : ∃ wq : World, wq = wr := ⟨_, rfl⟩
              have hzn := hV.out.lt
              rcases (by cases z with | zero => exact .inl rfl | succ q => exact .inr ⟨q, rfl⟩ : z = 0 ∨ ∃ q, z = q + 1) with rfl | ⟨q, rfl⟩
              · rw [List.take_zero] at hV
                rw [show (((0 : Nat) : Int) - 1) = -1 from rfl]
                go_wp2_with (refine wpList_load_var rfl 38 (.tmp 8) rfl w1.heap.size rfl 38 (oneL kc []) hV.out _ Try.underlying38 rfl SZ.out ?_; intro f9 hf9)
                refine (take_at (oneL kc []) kc 0 7 ⟨f9, rfl, hf9⟩ (fun j _ => oneL_le (by simp) j) (take_none hkc4).1 (take_none hkc4).2.1 fun j _ => by rw [(take_none hkc4).2.2]).mono ?_
                rintro e w11 ⟨v11, rfl, hv11, hb11⟩
                have hv11 := Lib.hid hv11
                clear hf9
                go_wp2_with (first
                  | (refine wpList_new rfl (.alloc 38) rfl w11.heap.size rfl 38 nil4 (by kernel_rfl) ?_; intro w12 hs12 hb12 hN12; have hN12 := Lib.hid (VarL.nil hN12); have hv12 := Lib.hid (hv11.out.below hb12); clear hs12)
                  | (refine wpList_store_var rfl 38 (.tmp 21) (.tmp 124) rfl w11.heap.size rfl _ rfl _ hv12.out 38 noL hN12.out SZ.out ?_; intro w13 hN13 hg13 hs13))
                go_ret
                have hbx := hb.trans (hb11.mono hb.size)
                exact ⟨rfl, grown_below (hbx.trans (hb12.mono hbx.size)) hg13 (by have := hbx.size; have := hb12.size; omega) hbx.size⟩
              · have hqy : q < ys.length := by omega
                rw [show (((q + 1 : Nat) : Int) - 1) = (q : Int) by omega]
                have hq0 : (0 : Int) ≤ (q : Int) := by omega
                have hql : (q : Int) < (ys.length : Int) := by omega
                have hqb : decide ((0 : Int) ≤ (q : Int)) = true := by rw [decide_eq_true_iff]; omega
                obtain ⟨t1, t2, t3⟩ := take_one hkc4 ys hqy
                go_wp2_with (refine wpList_load_var rfl 38 (.tmp 8) rfl w1.heap.size rfl 38 (oneL kc (ys.take (q + 1))) hV.out _ Try.underlying38 rfl SZ.out ?_; intro f9 hf9)
                refine (take_at (oneL kc (ys.take q)) kc ys[q] 0 ⟨f9, rfl, hf9⟩ (fun j _ => oneL_le (by simp; omega) j) t1 t2 t3).mono ?_
                rintro e w11 ⟨v11, rfl, hv11, hb11⟩
                have hv11 := Lib.hid hv11
                clear hf9 t1 t2 t3
                go_wp2_with (first
                  | (refine wpList_new rfl (.alloc 38) rfl w11.heap.size rfl 38 nil4 (by kernel_rfl) ?_; intro w12 hs12 hb12 hN12; have hN12 := Lib.hid (VarL.nil hN12); have hv12 := Lib.hid (hv11.out.below hb12); clear hs12)
                  | (refine wpList_store_var rfl 38 (.tmp 18) (.tmp 106) rfl w11.heap.size rfl _ rfl (oneL kc (ys.take q)) hv12.out 38 noL hN12.out SZ.out ?_; intro w13 hN13 hg13 hs13; refine stop_here ?_))
                clear hs13
                have hN13 := Lib.hid hN13
                have hb13 := grown_below hb12 hg13 hb12.size (Nat.le_refl _)
                have hb13' := hb11.trans (hb13.mono hb11.size)
                have hV13 := Lib.hid (hV.out.below hb13')
                have hY13 := hYr.out.below hb13'
                obtain ⟨b, o, rfl, _, hcx⟩ := hY13.at_ hqy
                have hY13 := Lib.hid hY13
                have hnx : (ys[q] != ys[q]) = false := bne_self_eq_false _
                have hbx := hb.trans (hb13'.mono hb.size)
                clear hN12 hv12 hv11 hg13
                refine go_on ?_
                go_wp2_with (first
                  | (refine wpList_load_var rfl 38 (.tmp 18) rfl w11.heap.size rfl 38 (oneL kc (ys.take q)) hN13.out _ Try.underlying38 rfl SZ.out ?_; intro g9 hg9)
                  | (refine wpList_store_var rfl 38 (.tmp 8) (.tmp 119) rfl w1.heap.size rfl _ rfl (oneL kc (ys.take q)) ⟨g9, rfl, hg9⟩ 38 (oneL kc (ys.take (q + 1))) hV13.out SZ.out ?_; intro w14 hV14 hg14 hs14))
                go_roundw
                case rel => exact ⟨q, by omega, by first | rfl | go_num, Lib.hid hV14, Lib.hid (hY13.out.keep hg14.size fun _ b' hb' hlt => hg14.block b' hlt fun e => by have := (hyl b' hb').1; injection e with e; omega), grown_below hbx hg14 hbx.size hb1.size⟩
                case measure => first | (simp [intOf]; done) | (simp [intOf]; omega)
end Go.Proofs.Ytlbjcaefemmjmaa
