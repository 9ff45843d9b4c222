/- BitsShort: what the walk shows is true for any set, number and noughts. -/
import Derived.Test.YtibmjednieopfaaDoorBitAlive
import Derived.Test.YtibmjednieopfaaDoorAppendZeros
set_option linter.unusedVariables false
set_option linter.unusedSimpArgs false
namespace Go.Proofs.YtibmjednieopfaaDoor
open Go.RowKit

def pick5 (a b c d e : Value) (k : Nat) : Value := match k with | 0 => a | 1 => b | 2 => c | 3 => d | _ => e
theorem pick5_get (a b c d e : Value) {k : Nat} (hk : k < 5) : (#[a, b, c, d, e] : Array Value)[k]? = some (pick5 a b c d e k) := by
  rcases (show k = 0 ∨ k = 1 ∨ k = 2 ∨ k = 3 ∨ k = 4 from by omega) with rfl | rfl | rfl | rfl | rfl <;> rfl
theorem short_last {xs : List Int} (h : Short xs) {n : Nat} (hn : n + 1 = xs.length) (hlt : n < xs.length) : xs[n] ≠ 0 := by
  have h1 := shortN_last xs (by rw [h]; omega)
  rw [h, show xs.length - 1 = n by omega, getD_lt hlt] at h1
  exact h1
theorem same_bits {a b : List Int} (ha : U64 a) (hb : U64 b) (h : ∀ j, bitAt a j = bitAt b j) : sameB a b = true := by
  unfold sameB
  rw [decide_eq_true_iff, canon_iff ha hb]
  exact h
/-- A slice that reads as a short set. -/
def ShortV (w : World) (v : Value) : Prop := ∃ ys, Rd u64e w v ys ∧ Short ys ∧ ys.length ≤ 1099511627776
theorem ShortV.below {w w' : World} {v : Value} (h : ShortV w v) (hb : Below w.heap.size w w') : ShortV w' v := by
  obtain ⟨ys, h1, h2, h3⟩ := h
  exact ⟨ys, h1.below hb, h2, h3⟩
set_option maxHeartbeats 6400000 in
theorem short_law_ok (v : Value) (xs : List Int) (i z : Nat) (w : World) (hv : Rd u64e w v xs) (hu : U64 xs) (hi : i ≤ 65535) (hz : z ≤ 255) (hT : TabW w) :
    Calls Tryd.prog 8 #[v, .int .u16 i, .int .u8 z] w fun e w' => e = .returned (.bool true) ∧ Below w.heap.size w w' := by
  obtain ⟨A, c, rfl, _⟩ := hv.len
  have HU := Lib.hid hu
  have RX := Lib.hid hv
  have HT := Lib.hid hT
  clear hu hv hT
  go_enter Tryd.func8, Tryd.ntmps8
  go_wp2_with fail
  refine (alive_ok _ HT.out).mono ?_
  rintro e w1 ⟨rfl, hb1⟩
  by_cases hl : xs.length ≤ 12
  · have t0 : decide ((12 : Int) < ((xs.length : Nat) : Int)) = false := by rw [decide_eq_false_iff_not]; omega
    have hl9 : xs.length ≤ 1099511627776 := by omega
    replace RX := Lib.hid (RX.out.below hb1)
    replace HT := Lib.hid (HT.out.below hb1)
    have hb := hb1
    obtain ⟨m, hm⟩ : ∃ m, m = z % 5 := ⟨_, rfl⟩
    have hm5 : m ≤ 4 := by omega
    have hzm : (z : Int) % 5 = (m : Int) := by omega
    clear hm hb1
    obtain ⟨i0, hi1, hz0, hsz, hby⟩ := info_parts u64_info
    go_wp2_with (first
      | (at_builtin; refine wpList_append_all rfl (.const (.slice none 0 0)) (.tmp 15) 22 rfl w1.heap.size 45 (.int .u64 0) 8 Tryd.underlying22 u64_info rfl _ 0 [] rfl (World.ownsRow_nil _ _ _ _) u64e _ xs (fun _ => rfl) rfl RX.out (by unfold maxLen; omega) (by omega) (Nat.le_refl _) ?_; intro v2 w2 hown2 hg2 hat2; refine stop_here ?_))
    have hb2 := (Below.refl w1.heap.size w1).grown hg2 (Nat.le_refl _) (fun k hk => by cases hk)
    simp only [Nat.zero_add, List.nil_append] at hown2
    obtain ⟨A2, c2, rfl, -⟩ := own_form hown2
    obtain ⟨v3, w3, hr3, hown3, hg3, hat3⟩ := run_append_zeros (P := Tryd.prog) w2 w1.heap.size 22 5 22 45 i0 (.int .u64 0) .u8 .u8 8 Tryd.underlying22 Tryd.underlying5 hi1 hz0 hsz hby (by omega) rfl rfl _ _ _ hown2 m (by omega) (by omega) hb2.size
    have hb3 := hb2.grown hg3 hb2.size (fun k hk => (hown2.lt k hk).1)
    have hll : (xs ++ List.replicate m 0).length = xs.length + m := by simp
    have hl3 := Rd.of_own (enc := u64e) (xs := xs ++ List.replicate m 0) (w := w3) (base := w1.heap.size) (e := 45) (v := v3) (by rw [hll, List.map_append, List.map_replicate]; exact hown3)
    obtain ⟨A3, c3, rfl, -⟩ := own_form hown3
    have HL : Hid (U64 (xs ++ List.replicate m 0)) := Lib.hid (HU.out.append fun x hx => by rw [List.eq_of_mem_replicate hx]; omega)
    have HB := Lib.hid (fun j => bitAt_append_zeros xs m j)
    obtain ⟨ls, hls⟩ : ∃ ls, ls = xs ++ List.replicate m 0 := ⟨_, rfl⟩
    rw [← hls] at hll hl3 HL HB
    have hlb : ls.length ≤ 16 := by omega
    replace hl3 := Lib.hid hl3
    have RX3 := Lib.hid (RX.out.below hb3)
    have HT3 := Lib.hid (HT.out.below hb3)
    have hb := below_all hb hb3
    have hlen3 := Lib.hid hll
    clear hls hll hown2 hown3 hg2 hg3 hat2 hat3 hb2 hb3
    rw [← hzm] at hr3
    replace hr3 := Lib.hid hr3
    clear hzm
    refine go_on ?_
    go_wp2_with (first
      | (at_builtin; refine Lib.wpList_append_run _ rfl (.tmp 16) (.tmp 18) 22 5 rfl _ _ rfl rfl _ _ hr3.out ?_; refine stop_here ?_))
    clear hr3
    refine go_on ?_
    go_wp2_with fail
    refine (put_ok _ xs i true _ RX3.out hl9 HU.out (by omega) (by omega)).mono ?_
    rintro e w4 ⟨v4, y4, rfl, hr4, hp4, -, hb4⟩
    obtain ⟨A4, c4, rfl, -⟩ := hr4.len
    obtain ⟨n4, hn4⟩ : ∃ n, n = y4.length := ⟨_, rfl⟩
    rw [← hn4] at hr4 ⊢
    have S4 : Hid (ShortV w4 (.slice A4 n4 c4)) := Lib.hid ⟨y4, hr4, hp4.2.1, by have := hp4.2.2.1; omega⟩
    clear hr4 hp4 hn4
    replace RX3 := Lib.hid (RX3.out.below hb4)
    replace hl3 := Lib.hid (hl3.out.below hb4)
    replace HT3 := Lib.hid (HT3.out.below hb4)
    replace hb := below_all hb hb4
    clear hb4
    go_wp2_with fail
    refine (put_ok _ ls i false _ hl3.out (by omega) HL.out (by omega) (by omega)).mono ?_
    rintro e w5 ⟨v5, y5, rfl, hr5, hp5, -, hb5⟩
    obtain ⟨A5, c5, rfl, -⟩ := hr5.len
    obtain ⟨n5, hn5⟩ : ∃ n, n = y5.length := ⟨_, rfl⟩
    rw [← hn5] at hr5 ⊢
    have S5 : Hid (ShortV w5 (.slice A5 n5 c5)) := Lib.hid ⟨y5, hr5, hp5.2.1, by have := hp5.2.2.1; omega⟩
    clear hr5 hp5 hn5
    replace RX3 := Lib.hid (RX3.out.below hb5)
    replace hl3 := Lib.hid (hl3.out.below hb5)
    replace HT3 := Lib.hid (HT3.out.below hb5)
    replace S4 := Lib.hid (S4.out.below hb5)
    replace hb := below_all hb hb5
    clear hb5
    go_wp2_with fail
    refine (or_ok _ _ ls xs _ hl3.out RX3.out (by omega) (by omega) HL.out HU.out).mono ?_
    rintro e w6 ⟨v6, y6, rfl, hr6, hp6, -, hb6⟩
    obtain ⟨A6, c6, rfl, -⟩ := hr6.len
    obtain ⟨n6, hn6⟩ : ∃ n, n = y6.length := ⟨_, rfl⟩
    rw [← hn6] at hr6 ⊢
    have S6 : Hid (ShortV w6 (.slice A6 n6 c6)) := Lib.hid ⟨y6, hr6, hp6.2.1, by have := hp6.2.2.1; omega⟩
    clear hr6 hp6 hn6
    replace RX3 := Lib.hid (RX3.out.below hb6)
    replace hl3 := Lib.hid (hl3.out.below hb6)
    replace HT3 := Lib.hid (HT3.out.below hb6)
    replace S4 := Lib.hid (S4.out.below hb6)
    replace S5 := Lib.hid (S5.out.below hb6)
    replace hb := below_all hb hb6
    clear hb6
    go_wp2_with fail
    refine (and_ok _ _ ls xs _ hl3.out RX3.out (by omega) (by omega) HL.out HU.out).mono ?_
    rintro e w7 ⟨v7, y7, rfl, hr7, hp7, -, hb7⟩
    obtain ⟨A7, c7, rfl, -⟩ := hr7.len
    obtain ⟨n7, hn7⟩ : ∃ n, n = y7.length := ⟨_, rfl⟩
    rw [← hn7] at hr7 ⊢
    have S7 : Hid (ShortV w7 (.slice A7 n7 c7)) := Lib.hid ⟨y7, hr7, hp7.2.1, by have := hp7.2.2.1; omega⟩
    clear hr7 hp7 hn7
    replace RX3 := Lib.hid (RX3.out.below hb7)
    replace hl3 := Lib.hid (hl3.out.below hb7)
    replace HT3 := Lib.hid (HT3.out.below hb7)
    replace S4 := Lib.hid (S4.out.below hb7)
    replace S5 := Lib.hid (S5.out.below hb7)
    replace S6 := Lib.hid (S6.out.below hb7)
    replace hb := below_all hb hb7
    clear hb7
    go_wp2_with fail
    refine (less_ok _ _ ls [] _ hl3.out (Rd.none_ u64e _) (by omega) (by simp) HL.out U64.nil).mono ?_
    rintro e w8 ⟨v8, y8, rfl, hr8, hp8, -, hb8⟩
    obtain ⟨A8, c8, rfl, -⟩ := hr8.len
    obtain ⟨n8, hn8⟩ : ∃ n, n = y8.length := ⟨_, rfl⟩
    rw [← hn8] at hr8 ⊢
    have S8 : Hid (ShortV w8 (.slice A8 n8 c8)) := Lib.hid ⟨y8, hr8, hp8.2.1, by have := hp8.2.2.1; simp only [List.length_nil] at this; omega⟩
    clear hr8 hp8 hn8
    replace RX3 := Lib.hid (RX3.out.below hb8)
    replace hl3 := Lib.hid (hl3.out.below hb8)
    replace HT3 := Lib.hid (HT3.out.below hb8)
    replace S4 := Lib.hid (S4.out.below hb8)
    replace S5 := Lib.hid (S5.out.below hb8)
    replace S6 := Lib.hid (S6.out.below hb8)
    replace S7 := Lib.hid (S7.out.below hb8)
    replace hb := below_all hb hb8
    clear hb8
    have hba := below_alloc w8 (.cells #[.slice A4 n4 c4, .slice A5 n5 c5, .slice A6 n6 c6, .slice A7 n7 c7, .slice A8 n8 c8] 27)
    have hB := Lib.hid (Blk.new w8 27 #[.slice A4 n4 c4, .slice A5 n5 c5, .slice A6 n6 c6, .slice A7 n7 c7, .slice A8 n8 c8])
    replace RX3 := Lib.hid (RX3.out.below hba)
    replace hl3 := Lib.hid (hl3.out.below hba)
    replace HT3 := Lib.hid (HT3.out.below hba)
    obtain ⟨f, hf⟩ : ∃ f : Nat → Value, f = pick5 (.slice A4 n4 c4) (.slice A5 n5 c5) (.slice A6 n6 c6) (.slice A7 n7 c7) (.slice A8 n8 c8) := ⟨_, rfl⟩
    have SS : Hid (∀ k, k < 5 → ShortV (w8.alloc (.cells #[.slice A4 n4 c4, .slice A5 n5 c5, .slice A6 n6 c6, .slice A7 n7 c7, .slice A8 n8 c8] 27)) (f k)) := Lib.hid fun k hk => by
      subst hf
      rcases (show k = 0 ∨ k = 1 ∨ k = 2 ∨ k = 3 ∨ k = 4 from by omega) with rfl | rfl | rfl | rfl | rfl
      · exact S4.out.below hba
      · exact S5.out.below hba
      · exact S6.out.below hba
      · exact S7.out.below hba
      · exact S8.out.below hba
    have SC : Hid (∀ k, k < 5 → (w8.alloc (.cells #[.slice A4 n4 c4, .slice A5 n5 c5, .slice A6 n6 c6, .slice A7 n7 c7, .slice A8 n8 c8] 27)).cell? ⟨w8.heap.size, k, none⟩ = some (f k)) := Lib.hid fun k hk => by
      subst hf
      exact (hB.out.cell k).trans (pick5_get _ _ _ _ _ hk)
    replace hb := below_all hb hba
    clear hf S4 S5 S6 S7 S8 hB hba
    go_wp2_with fail
    go_outline
    generalize w8.alloc (.cells #[.slice A4 n4 c4, .slice A5 n5 c5, .slice A6 n6 c6, .slice A7 n7 c7, .slice A8 n8 c8] 27) = w9 at RX3 hl3 HT3 SS SC hb ⊢
    go_loop [9, 38] (fun x i => ∃ k : Nat, k ≤ 5 ∧ i = .int .i64 k) (fun _ i => 5 - (intOf i).toNat)
    case atStart => exact ⟨0, by omega, rfl⟩
    case round =>
      obtain ⟨k, hk, rfl⟩ := hrel
      by_cases hlt : k < 5
      · have t1 : decide ((k : Int) < 5) = true := by rw [decide_eq_true_iff]; omega
        have q0 : (0 : Int) ≤ (k : Int) := by omega
        have q1 : (k : Int) < 5 := by omega
        obtain ⟨ys, hry, hsy, hly⟩ := SS.out k hlt
        have hc := SC.out k hlt
        obtain ⟨A', c', e', -⟩ := hry.len
        rw [e'] at hc hry
        clear e'
        rcases ys with _ | ⟨y, ys⟩
        · go_wp2_with fail
          go_round
          case rel => exact ⟨k + 1, by omega, by go_num⟩
          case measure => simp [intOf]; omega
        · obtain ⟨n, hn⟩ : ∃ n, n + 1 = (y :: ys).length := ⟨ys.length, by simp⟩
          have hne := short_last hsy hn (by omega)
          obtain ⟨b, o, rfl, _, hcy⟩ := hry.at_ (i := n) (by omega)
          have tb : ((y :: ys)[n] == 0) = false := by rw [beq_eq_false_iff_ne]; exact hne
          obtain ⟨q, hq⟩ : ∃ q, q = (y :: ys)[n] := ⟨_, rfl⟩
          rw [← hq] at tb hcy
          rw [← hn] at hc hly
          clear hq hne hry hsy hn
          have q2 : (0 : Int) < (n : Int) + 1 := by omega
          go_wp2_with fail
          go_round
          case rel => exact ⟨k + 1, by omega, by go_num⟩
          case measure => simp [intOf]; omega
      · obtain rfl : k = 5 := by omega
        have hs := same_bits (a := xs) (b := ls) HU.out HL.out fun j => (HB.out j).symm
        have hpp : ((popAll xs : Nat) : Int) = ((popAll ls : Nat) : Int) := by rw [popAll_congr HB.out]
        have hpp : (((popAll xs : Nat) : Int) == ((popAll ls : Nat) : Int)) = true := by rw [beq_iff_eq]; exact hpp
        have hhb : hasB ls (i : Int) = hasB xs (i : Int) := by rw [hasB, hasB, Int.toNat_natCast, HB.out]
        replace hhb := Lib.hid hhb
        go_wp2_with fail
        refine (same_ok _ _ xs ls _ RX3.out hl3.out (by omega) (by omega)).mono ?_
        rintro e w10 ⟨rfl, hb10⟩
        replace RX3 := Lib.hid (RX3.out.below hb10)
        replace hl3 := Lib.hid (hl3.out.below hb10)
        replace HT3 := Lib.hid (HT3.out.below hb10)
        replace hb := below_all hb hb10
        clear hb10
        go_wp2_with fail
        refine (count_ok _ xs _ RX3.out (by omega) HU.out).mono ?_
        rintro e w' ⟨rfl, rfl⟩
        go_wp2_with fail
        refine (count_ok _ ls _ hl3.out (by omega) HL.out).mono ?_
        rintro e w' ⟨rfl, rfl⟩
        go_wp2_with fail
        refine (next_ok _ xs _ _ RX3.out (by omega) HU.out (by omega) (by omega) HT3.out).mono ?_
        rintro e w' ⟨r, rfl, hn, rfl⟩
        replace hn := Lib.hid hn
        go_wp2_with fail
        refine (next_ok _ ls _ _ hl3.out (by omega) HL.out (by omega) (by omega) HT3.out).mono ?_
        rintro e w' ⟨r', rfl, hn', rfl⟩
        obtain rfl := (hn.out.congr fun j => (HB.out j).symm).uniq hn'
        clear hn'
        go_wp2_with fail
        refine (has_ok _ xs _ _ RX3.out (by omega) HU.out (by omega) (by omega)).mono ?_
        rintro e w' ⟨rfl, rfl⟩
        go_wp2_with fail
        refine (has_ok _ ls _ _ hl3.out (by omega) HL.out (by omega) (by omega)).mono ?_
        rintro e w' ⟨rfl, rfl⟩
        rw [hhb.out]
        have tq : (hasB xs (i : Int) == hasB xs (i : Int)) = true := beq_self_eq_true _
        go_wp2_with fail
        go_ret
        exact ⟨rfl, hb⟩
  · have t0 : decide ((12 : Int) < ((xs.length : Nat) : Int)) = true := by rw [decide_eq_true_iff]; omega
    go_wp2_with fail
    go_ret
    exact ⟨rfl, hb1⟩
end Go.Proofs.YtibmjednieopfaaDoor
