/- Cut of the reference. -/
import Derived.Test.YtcaboknbdamlhaaGreatDoorListRPut
set_option linter.unusedVariables false
set_option linter.unusedSimpArgs false
namespace Go.Proofs.YtcaboknbdamlhaaGreatDoor
open Go.RowKit

def keepS (s : Int) (xs : List Int) : List Int := xs.filter fun x => !(spanOf x == s)
def goneS (s : Int) (xs : List Int) : Int := (xs.filter fun x => spanOf x == s).length
def goneTo (L : Nat → List Int) (s : Int) : Nat → Int
  | 0 => 0
  | k + 1 => goneTo L s k + goneS s (L k)
def cutL (L : Nat → List Int) (s : Int) : Nat → List Int := fun j => keepS s (L j)
def BdL (L : Nat → List Int) : Prop := ∀ j, j < 4 → ∀ x ∈ L j, x ≤ 9223372036854775807
theorem keep_le (s : Int) (xs : List Int) : (keepS s xs).length ≤ xs.length := List.length_filter_le _ _
theorem gone_bd (s : Int) (xs : List Int) : 0 ≤ goneS s xs ∧ goneS s xs ≤ xs.length := by
  unfold goneS
  have := List.length_filter_le (fun x => spanOf x == s) xs
  omega
theorem keep_gone (s : Int) (xs : List Int) : ((keepS s xs).length : Int) = xs.length - goneS s xs := by
  induction xs with
  | nil => rfl
  | cons x xs ih =>
    unfold keepS goneS at *
    by_cases h : spanOf x = s
    · have h1 : (spanOf x == s) = true := by rw [beq_iff_eq]; exact h
      rw [List.filter_cons_of_neg (by simp [h1]), List.filter_cons_of_pos (by simp [h1])]
      simp only [List.length_cons]
      omega
    · have h1 : (spanOf x == s) = false := by rw [beq_eq_false_iff_ne]; exact h
      rw [List.filter_cons_of_pos (by simp [h1]), List.filter_cons_of_neg (by simp [h1])]
      simp only [List.length_cons]
      omega
theorem goneTo_bd (L : Nat → List Int) (s : Int) (hl : ShortL L) : ∀ k, k ≤ 4 → 0 ≤ goneTo L s k ∧ goneTo L s k ≤ k * 1099511627776
  | 0, _ => by simp [goneTo]
  | k + 1, h => by
    have h1 := goneTo_bd L s hl k (by omega)
    have h2 := gone_bd s (L k)
    have h3 := hl k (by omega)
    unfold goneTo
    omega
theorem keep_snoc (s : Int) (xs : List Int) (x : Int) : keepS s (xs ++ [x]) = if spanOf x = s then keepS s xs else keepS s xs ++ [x] := by
  unfold keepS
  rw [List.filter_append]
  by_cases h : spanOf x = s
  · simp [h]
  · simp [h]
theorem gone_snoc (s : Int) (xs : List Int) (x : Int) : goneS s (xs ++ [x]) = if spanOf x = s then goneS s xs + 1 else goneS s xs := by
  unfold goneS
  rw [List.filter_append]
  by_cases h : spanOf x = s
  · simp [h]
  · simp [h]
theorem take_snoc {α : Type} (xs : List α) {m : Nat} (h : m < xs.length) : xs.take (m + 1) = xs.take m ++ [xs[m]] := by
  rw [List.take_succ_eq_append_getElem h]

set_option maxHeartbeats 1600000 in
set_option maxRecDepth 100000 in
theorem rcut_ok (f : Nat → Value) (L : Nat → List Int) (s : Int) (w : World) (hf : ∀ j, j < 4 → Rd i64e w (f j) (L j)) (hl : ShortL L) (hbd : BdL L) :
    Calls Tryz.prog 96 #[.agg (arr4 f), .int .i64 s] w fun e w' => ∃ v, e = .returned (.tuple #[v, .int .i64 (goneTo L s 4)]) ∧ RdL w' v (cutL L s) ∧ Below w.heap.size w w' := by
  have HL := Lib.hid hl
  have HBd := Lib.hid hbd
  have HS := Lib.hid rlists_size
  have h1g := Lib.hid (arr4_one fun j hj => rd_one (hf j hj))
  have HF := Lib.hid hf
  have HA := Lib.hid (apart_new hf)
  clear hf hl hbd
  go_enter Tryz.func96, Tryz.ntmps96
  go_wp2_with (first
    | (refine wpList_new rfl (.box 37 (.tmp 0)) rfl w.heap.size rfl 37 (arr4 f) (by kernel_rfl) ?_; intro w1 hs1 hb1 hB1)
    | (refine wpList_new rfl (.alloc 37) rfl (w.heap.size + 1) hs1 37 nil4 (by kernel_rfl) ?_; intro w2 hs2 hb2 hR2; refine stop_here ?_))
  have hB2 := Lib.hid (hB1.below hb2 (by omega))
  have hb2 := hb1.trans (hb2.mono (by omega))
  have hR2 := Lib.hid hR2
  have HF2 := Lib.hid (fun j (hj : j < 4) => (HF.out j hj).below hb2)
  clear hs1 hB1 hb1 hs2
  refine go_on ?_
  go_wp2_with fail
  go_loopw [6, 7] (fun n c wr => ∃ k : Nat, k ≤ 4 ∧ c = .int .i64 k ∧ n = .int .i64 (goneTo L s k) ∧ ∃ g : Nat → Value, Hid (Blk wr w.heap.size 37 (arr4 g)) ∧ Hid (Blk wr (w.heap.size + 1) 37 nil4) ∧
      Hid (∀ j, j < 4 → Rd i64e wr (g j) (if j < k then keepS s (L j) else L j)) ∧ Hid (∀ j, j < 4 → 0 < (L j).length → (g j).ownBlock ≠ some w.heap.size ∧ (g j).ownBlock ≠ some (w.heap.size + 1)) ∧ Below w.heap.size w wr)
    (fun _ c _ => 4 - (intOf c).toNat)
  case atStart => exact ⟨0, by omega, rfl, rfl, f, hB2, hR2, Lib.hid fun j hj => by rw [if_neg (by omega)]; exact HF2.out j hj, Lib.hid fun j hj hp => ⟨(HA.out j hj).1 hp, (HA.out j hj).2 hp⟩, hb2⟩
  case round =>
    obtain ⟨k, hk, rfl, rfl, g, hB, hR, hG, hN, hb⟩ := hrel
    have hgt := goneTo_bd L s HL.out k hk
    by_cases hlt : k < 4
    · have hfk := hG.out k hlt
      rw [if_neg (by omega)] at hfk
      obtain ⟨A, c, hcell, hr, eg⟩ := rd_cell3 hB.out hlt hfk
      have hr := Lib.hid hr
      have eg := Lib.hid eg
      have hlk := HL.out k hlt
      have hz := hR.out.lt
      have hz0 : w.heap.size < wr.heap.size := by omega
      clear hfk
      have hlb : decide ((k : Int) < 4) = true := by rw [decide_eq_true_iff]; omega
      obtain ⟨wo, rfl⟩ : ∃ wo : World, wo = wr := ⟨_, rfl⟩
      go_wp2_with fail
      go_loopw [6, 8, 9] (fun n v i wx => ∃ m : Nat, m ≤ (L k).length ∧ i = .int .i64 m ∧ n = .int .i64 (goneTo L s k + goneS s ((L k).take m)) ∧ Hid (wx.ownsRow wo.heap.size 3 1 v (keepS s ((L k).take m)).length ((keepS s ((L k).take m)).map i64e)) ∧ Below wo.heap.size wo wx)
        (fun _ _ i _ => (L k).length - (intOf i).toNat)
      case atStart => exact ⟨0, by omega, rfl, by simp [goneS], Lib.hid (World.ownsRow_nil _ _ _ _), Below.refl _ _⟩
      case round =>
        obtain ⟨m, hm, rfl, rfl, hown, hbx⟩ := hrel
        have hcx : wr.cell? ⟨w.heap.size, k, none⟩ = some (.slice A (L k).length c) := (hbx.cell hz0).trans hcell
        have hgs := gone_bd s ((L k).take m)
        have hlt2 : ((L k).take m).length ≤ m := List.length_take_le _ _
        have hkl := keep_le s ((L k).take m)
        have hzx := hbx.size
        by_cases hlm : m < (L k).length
        · obtain ⟨b, o, rfl, _, hce⟩ := (hr.out.below hbx).at_ hlm
          have hxb := HBd.out k hlt _ (List.getElem_mem hlm)
          have hts := take_snoc (L k) hlm
          by_cases hx : spanOf (L k)[m] = s
          · have hb1 : (spanOf (L k)[m] == s) = true := by rw [beq_iff_eq]; exact hx
            have hK : Hid (keepS s ((L k).take (m + 1)) = keepS s ((L k).take m)) := Lib.hid (by rw [hts, keep_snoc, if_pos hx])
            have hGn : Hid (goneS s ((L k).take (m + 1)) = goneS s ((L k).take m) + 1) := Lib.hid (by rw [hts, gone_snoc, if_pos hx])
            clear hx hts
            go_wp2_with (go_at_call 94; refine (rin_ok _ _ hxb).mono ?_; rintro e w' ⟨rfl, rfl⟩)
            go_roundw
            case rel => exact ⟨m + 1, by omega, by go_num, by rw [hGn.out, ← Int.add_assoc], by rw [hK.out]; exact hown, hbx⟩
            case measure => simp [intOf]; omega
          · have hb1 : (spanOf (L k)[m] == s) = false := by rw [beq_eq_false_iff_ne]; exact hx
            have hK : Hid (keepS s ((L k).take (m + 1)) = keepS s ((L k).take m) ++ [(L k)[m]]) := Lib.hid (by rw [hts, keep_snoc, if_neg hx])
            have hGn : Hid (goneS s ((L k).take (m + 1)) = goneS s ((L k).take m)) := Lib.hid (by rw [hts, gone_snoc, if_neg hx])
            clear hx hts
            go_wp2_with (first
              | (go_at_call 94; refine (rin_ok _ _ hxb).mono ?_; rintro e w' ⟨rfl, rfl⟩)
              | (at_builtin; refine wpList_push rfl (.tmp 33) (.tmp 40) _ rfl wo.heap.size 3 _ 8 Tryz.underlying36 int_info rfl _ _ _ rfl hown.out _ rfl rfl (by unfold maxLen; omega) (by omega) hzx ?_; intro v' w4 hown4 hg4 hat4))
            go_roundw
            case rel => exact ⟨m + 1, by omega, by go_num, by rw [hGn.out], by rw [hK.out]; exact Lib.hid (by simpa using hown4), hbx.grown hg4 hzx (fun q hq => (hown.out.lt q hq).1)⟩
            case measure => simp [intOf]; omega
        · obtain rfl : m = (L k).length := by omega
          have hown := hown.out
          rw [List.take_length] at hown hgs
          have hrv := Rd.of_own (enc := i64e) (xs := keepS s (L k)) hown
          obtain ⟨A', n', c', rfl⟩ := hrv.form
          have hBx := hB.out.below hbx hz0
          have hRx := hR.out.below hbx hz
          have hfx := hBx.frozen k
          have hB3 := hBx.set_ k (.slice A' n' c')
          rw [arr4_set g hlt] at hB3
          have hB3 := Lib.hid hB3
          have hR3 := Lib.hid (hRx.far (p := ⟨w.heap.size, k, none⟩) (by simp) (.slice A' n' c'))
          have hG3 : Hid (∀ j, j < 4 → Rd i64e (wr.setCell ⟨w.heap.size, k, none⟩ (.slice A' n' c')) (if j = k then .slice A' n' c' else g j) (if j < k + 1 then keepS s (L j) else L j)) := Lib.hid fun j hj => by
            by_cases e : j = k
            · subst e
              rw [if_pos rfl, if_pos (by omega)]
              exact Rd.of_own (ownsRow_setCell_below hown hz0 _)
            · rw [if_neg e, show (if j < k + 1 then keepS s (L j) else L j) = (if j < k then keepS s (L j) else L j) by by_cases h : j < k <;> simp [h] <;> omega]
              refine ((hG.out j hj).below hbx).far_cell _ fun hp => ?_
              refine (hN.out j hj ?_).1
              split at hp
              · have := keep_le s (L j); omega
              · exact hp
          have hN3 : Hid (∀ j, j < 4 → 0 < (L j).length → (if j = k then Value.slice A' n' c' else g j).ownBlock ≠ some w.heap.size ∧ (if j = k then Value.slice A' n' c' else g j).ownBlock ≠ some (w.heap.size + 1)) := Lib.hid fun j hj hp => by
            by_cases e : j = k
            · rw [if_pos e]
              exact ⟨fun e => by have := (hown.lt _ e).1; omega, fun e => by have := (hown.lt _ e).1; omega⟩
            · rw [if_neg e]; exact hN.out j hj hp
          have hb3 := (hb.trans (hbx.mono (by omega))).setCell (p := ⟨w.heap.size, k, none⟩) (Nat.le_refl _) (.slice A' n' c')
          have hgt' : Hid (goneTo L s k + goneS s ((L k).take (L k).length) = goneTo L s (k + 1)) := Lib.hid (by rw [List.take_length]; rfl)
          clear hrv hBx hRx hown hr eg hG hN hB hR hcell
          go_wp2_with fail
          go_roundw
          case rel => exact ⟨k + 1, by omega, by go_num, by rw [← hgt'.out], _, hB3, hR3, hG3, hN3, hb3⟩
          case measure => simp [intOf]; omega
    · obtain rfl : k = 4 := by omega
      have hone4 := Lib.hid (arr4_one fun j hj => rd_one (hG.out j hj))
      go_wp2_with (first
        | (refine wpList_load_blk rfl 37 (.tmp 2) rfl w.heap.size rfl 37 _ hB.out _ Tryz.underlying37 rfl HS.out ?_)
        | (refine wpList_store_blk rfl 37 (.tmp 4) (.tmp 45) rfl (w.heap.size + 1) rfl _ rfl 37 nil4 hR.out HS.out rfl hone4.out ?_; intro w7 hR7 hg7 hs7))
      refine bodyPost_ret (res_cell_tmp rfl rfl hR7 Tryz.underlying37 rfl HS.out) rfl ⟨.agg (arr4 g), rfl, ⟨_, rfl, fun j hj => ?_⟩, hb.grown hg7 hb.size (fun k hk => by cases hk; omega)⟩
      have := hG.out j hj
      rw [if_pos hj] at this
      exact this.far hg7 fun hp => (hN.out j hj (by have := keep_le s (L j); omega)).2

end Go.Proofs.YtcaboknbdamlhaaGreatDoor
