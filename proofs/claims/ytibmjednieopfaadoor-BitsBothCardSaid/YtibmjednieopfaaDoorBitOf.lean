/- The walks of the reference: of, Put, Count, Next. -/
import Derived.Test.YtibmjednieopfaaDoorBitRef
set_option linter.unusedVariables false
set_option linter.unusedSimpArgs false
namespace Go.Proofs.YtibmjednieopfaaDoor
open Go.RowKit

def OfB (l : List Bool) (ys : List Int) : Prop := U64 ys ∧ Short ys ∧ 64 * ys.length ≤ l.length + 63 ∧ ∀ j, bitAt ys j = l.getD j false
theorem ofB_done {l : List Bool} {k : Nat} (h : l.length ≤ 64 * k) (h2 : 64 * k ≤ l.length + 63) : OfB l ((ofW l k).take (shortN (ofW l k))) := by
  have hle := shortN_le (ofW l k)
  rw [ofW_len] at hle
  refine ⟨(ofW_u64 l k).take _, short_take _, ?_, fun j => ?_⟩
  · rw [List.length_take, ofW_len]; omega
  · rw [bitAt_take, ofW_bit l k j h]
theorem Rd.take_len {α : Type} {enc : α → Value} {w : World} {xs : List α} {A : Option Addr} {n m c : Nat} (h : Rd enc w (.slice A n c) xs) (hm : m ≤ n) : Rd enc w (.slice A m c) (xs.take m) := by
  obtain ⟨_, _, e, _⟩ := h.len
  injection e with _ e2 _
  subst e2
  exact h.take_to hm
set_option maxHeartbeats 1600000 in
theorem rof_ok (v : Value) (l : List Bool) (w : World) (hv : Rd boole w v l) (hl : l.length ≤ 70368744177664) :
    Calls Tryd.prog 29 #[v] w fun e w' => ∃ v' ys, e = .returned v' ∧ Rd u64e w' v' ys ∧ OfB l ys ∧ From w.heap.size v' ∧ Below w.heap.size w w' := by
  obtain ⟨A0, c0, rfl, _⟩ := hv.len
  have RX := Lib.hid hv
  clear hv
  go_enter Tryd.func29, Tryd.ntmps29
  go_wp2_with fail
  go_loopw [3, 4, 5, 6, 7] (fun o u i x d wr => ∃ (k m : Nat) (A : Option Addr) (c : Nat), 64 * k ≤ l.length + 63 ∧ i = .int .i64 k ∧ o = .slice A k c ∧ u = .int .i64 m ∧ Hid (m = shortN (ofW l k)) ∧ Hid (wr.ownsRow w.heap.size 45 1 (.slice A k c) k ((ofW l k).map u64e)) ∧ Below w.heap.size w wr) (fun _ _ i _ _ _ => l.length + 1 - (intOf i).toNat)
  case atStart => exact ⟨0, 0, none, 0, by omega, rfl, rfl, rfl, Lib.hid rfl, Lib.hid (World.ownsRow_nil _ _ _ _), Below.refl _ _⟩
  case round =>
    obtain ⟨k, m, A, c, hk, rfl, rfl, rfl, hm, hown, hb⟩ := hrel
    obtain ⟨wo, rfl⟩ : ∃ wo : World, wo = wr := ⟨_, rfl⟩
    by_cases hlt : k * 64 < l.length
    · have t0 : decide ((k : Int) * 64 < ((l.length : Nat) : Int)) = true := by rw [decide_eq_true_iff]; omega
      have hz : w.heap.size ≤ wo.heap.size := hb.size
      have RX' := Lib.hid (RX.out.below hb)
      have hk9 : k ≤ 1099511627776 := by omega
      go_wp2_with fail
      go_loop [6, 7] (fun x i => ∃ d y : Nat, d ≤ 64 ∧ Hid (y = accW l k (64 - d)) ∧ i = .int .i64 ((d : Int) - 1) ∧ x = .int .u64 y) (fun _ i => (intOf i + 1).toNat)
      case atStart => exact ⟨64, 0, by omega, Lib.hid rfl, rfl, rfl⟩
      case round =>
        obtain ⟨d, y, hd, hy, rfl, rfl⟩ := hrel
        rcases d with _ | d
        · have hy64 : y < 18446744073709551616 := by
            have h8 := accW_lt l k 64
            have h9 : y = accW l k 64 := hy.out
            omega
          rw [show (((0 : Nat) : Int) - 1) = -1 by omega]
          have hsn := Lib.hid (ofW_snoc l k)
          have hss := Lib.hid (shortN_snoc (ofW l k) ((y : Nat) : Int))
          have hol := Lib.hid (ofW_len l k)
          by_cases hy0 : y = 0
          · have tb : ((y : Int) != 0) = false := by rw [hy0]; rfl
            replace hy0 := Lib.hid hy0
            go_wp2_with (at_builtin; refine wpList_push rfl (.tmp 39) (.tmp 41) _ rfl w.heap.size 45 _ 8 Tryd.underlying22 u64_info rfl _ _ _ rfl hown.out _ rfl rfl (by unfold maxLen; omega) (by omega) hz ?_; intro v' w2 hown' hg hat; refine stop_here ?_)
            obtain ⟨A3, c3, rfl, -⟩ := own_form hown'
            have hn' := Lib.hid hown'
            have hb' := hb.grown hg hz (fun g e => (hown.out.lt g e).1)
            clear hown' hg hat
            refine go_on ?_
            go_wp2_with fail
            go_roundw
            case rel => exact ⟨k + 1, m, A3, c3, by omega, by go_num, rfl, rfl, Lib.hid (by rw [hsn.out, ← show y = accW l k 64 from hy.out, hss.out, if_pos (by have := hy0.out; omega)]; exact hm.out), Lib.hid (by rw [hsn.out, ← show y = accW l k 64 from hy.out, List.map_append]; exact hn'.out), hb'⟩
            case measure => simp [intOf]; omega
          · have tb : ((y : Int) != 0) = true := by rw [bne_iff_ne]; omega
            replace hy0 := Lib.hid hy0
            go_wp2_with (at_builtin; refine wpList_push rfl (.tmp 39) (.tmp 41) _ rfl w.heap.size 45 _ 8 Tryd.underlying22 u64_info rfl _ _ _ rfl hown.out _ rfl rfl (by unfold maxLen; omega) (by omega) hz ?_; intro v' w2 hown' hg hat; refine stop_here ?_)
            obtain ⟨A3, c3, rfl, -⟩ := own_form hown'
            have hn' := Lib.hid hown'
            have hb' := hb.grown hg hz (fun g e => (hown.out.lt g e).1)
            clear hown' hg hat
            refine go_on ?_
            go_wp2_with fail
            go_roundw
            case rel => exact ⟨k + 1, k + 1, A3, c3, by omega, by go_num, rfl, by go_num, Lib.hid (by rw [hsn.out, ← show y = accW l k 64 from hy.out, hss.out, if_neg (by have := hy0.out; omega), hol.out]), Lib.hid (by rw [hsn.out, ← show y = accW l k 64 from hy.out, List.map_append]; exact hn'.out), hb'⟩
            case measure => simp [intOf]; omega
        · have hy63 : y < 9223372036854775808 := by
            have h1 := accW_lt l k (64 - (d + 1))
            have h2 : 2 ^ (64 - (d + 1)) ≤ 2 ^ 63 := Nat.pow_le_pow_right (by decide) (by omega)
            have := hy.out
            omega
          rw [show (((d + 1 : Nat) : Int) - 1) = (d : Int) by omega]
          have hstep : accW l k (64 - d) = 2 * accW l k (64 - (d + 1)) + if l.getD (64 * k + d) false then 1 else 0 := by
            rw [show 64 - d = (64 - (d + 1)) + 1 by omega]
            show 2 * accW l k _ + (if l.getD (64 * k + (63 - (64 - (d + 1)))) false then 1 else 0) = _
            rw [show 63 - (64 - (d + 1)) = d by omega]
          rw [← hy.out] at hstep
          by_cases hin : k * 64 + d < l.length
          · have t1 : decide ((k : Int) * 64 + (d : Int) < ((l.length : Nat) : Int)) = true := by rw [decide_eq_true_iff]; omega
            have t2 : (0 : Int) ≤ (k : Int) * 64 + (d : Int) := by omega
            have t3 : (k : Int) * 64 + (d : Int) < ((l.length : Nat) : Int) := by omega
            obtain ⟨b, o, rfl, _, hc⟩ := RX'.out.at_ hin
            have hg : l.getD (64 * k + d) false = l[k * 64 + d] := by rw [Nat.mul_comm 64 k]; simp [List.getD, hin]
            rw [hg] at hstep
            obtain ⟨q, hq⟩ : ∃ q, q = l[k * 64 + d] := ⟨_, rfl⟩
            rw [← hq] at hc hstep
            clear hg hq
            rcases q with _ | _
            · replace hstep := Lib.hid hstep
              go_wp2_with fail
              go_round
              case rel => exact ⟨d, y * 2, by omega, Lib.hid (by rw [hstep.out]; simp; omega), rfl, by go_num⟩
              case measure => simp [intOf]
            · replace hstep := Lib.hid hstep
              go_wp2_with fail
              go_round
              case rel => exact ⟨d, y * 2 + 1, by omega, Lib.hid (by rw [hstep.out]; simp; omega), rfl, by go_num⟩
              case measure => simp [intOf]
          · have t1 : decide ((k : Int) * 64 + (d : Int) < ((l.length : Nat) : Int)) = false := by rw [decide_eq_false_iff_not]; omega
            have hg : l.getD (64 * k + d) false = false := by rw [Nat.mul_comm 64 k]; simp [List.getD, List.getElem?_eq_none (show l.length ≤ k * 64 + d by omega)]
            rw [hg] at hstep
            clear hg
            replace hstep := Lib.hid hstep
            go_wp2_with fail
            go_round
            case rel => exact ⟨d, y * 2, by omega, Lib.hid (by rw [hstep.out]; simp; omega), rfl, by go_num⟩
            case measure => simp [intOf]
    · have t0 : decide ((k : Int) * 64 < ((l.length : Nat) : Int)) = false := by rw [decide_eq_false_iff_not]; omega
      have hr := Rd.of_own (enc := u64e) (xs := ofW l k) (w := wo) (base := w.heap.size) (e := 45) (v := .slice A k c) (by rw [ofW_len]; exact hown.out)
      have hfr := Lib.hid (own_from hown.out)
      have hmk : m ≤ k := by have h1 := shortN_le (ofW l k); rw [ofW_len] at h1; have := hm.out; omega
      have hkc : k ≤ c := by obtain ⟨_, _, e, h⟩ := own_form hown.out; injection e with _ _ e3; omega
      have hd := Lib.hid (ofB_done (l := l) (k := k) (by omega) hk)
      have hc47 : c ≤ maxLen := by obtain ⟨_, _, e, _, h, _⟩ := hr.len; injection e with _ _ e3; omega
      replace hr := Lib.hid hr
      go_wp2_with fail
      go_ret
      refine ⟨_, _, rfl, ?_, hd.out, hfr.out.len _, hb⟩
      rw [← hm.out]
      exact hr.out.take_len hmk
end Go.Proofs.YtibmjednieopfaaDoor
