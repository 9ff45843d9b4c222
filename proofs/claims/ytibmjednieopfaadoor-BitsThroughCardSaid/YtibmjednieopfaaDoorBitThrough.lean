/- BitsThrough: what the walk shows is true for any numbers. -/
import Derived.Test.YtibmjednieopfaaDoorBitAlive
import Derived.Test.YtibmjednieopfaaDoorSetMap
set_option linter.unusedVariables false
set_option linter.unusedSimpArgs false
namespace Go.Proofs.YtibmjednieopfaaDoor
open Go.RowKit Go.Maps

theorem count_or {p q s : Nat → Bool} (h1 : ∀ j, (p j && q j) = false) (h2 : ∀ j, s j = (p j || q j)) : ∀ n, countTo s n = countTo p n + countTo q n
  | 0 => rfl
  | n + 1 => by
    have := count_or h1 h2 n
    have h3 := h1 n
    unfold countTo
    rw [h2 n]
    revert h3
    cases p n <;> cases q n <;> simp <;> omega
theorem count_eq {x : Nat} : ∀ n, countTo (fun j => decide (j = x)) n = if x < n then 1 else 0
  | 0 => rfl
  | n + 1 => by
    have ih := count_eq (x := x) n
    show countTo _ n + (if decide (n = x) = true then 1 else 0) = _
    rw [ih]
    rcases Nat.lt_trichotomy n x with h | h | h
    · simp [show ¬ x < n by omega, show ¬ n = x by omega, show ¬ x < n + 1 by omega]
    · subst h; simp
    · simp [h, show ¬ n = x by omega, show x < n + 1 by omega]
theorem count_mem {N : Nat} : ∀ {ks : List Int}, ks.Nodup → (∀ x ∈ ks, 0 ≤ x ∧ x < N) → countTo (fun j => decide ((j : Int) ∈ ks)) N = ks.length
  | [], _, _ => by
    have h : countTo (fun j => decide ((j : Int) ∈ ([] : List Int))) N = countTo (fun j => decide (j = N)) N := countTo_congr fun j hj => by
      rw [decide_eq_false (by omega : ¬ j = N)]; simp
    rw [h, count_eq, if_neg (by omega)]; rfl
  | x :: ks, hn, hb => by
    have hx := hb x (by simp)
    rw [List.nodup_cons] at hn
    have ih := count_mem hn.2 fun y hy => hb y (by simp [hy])
    rw [count_or (p := fun j => decide (j = x.toNat)) (q := fun j => decide ((j : Int) ∈ ks)) (fun j => ?_) (fun j => ?_), count_eq, if_pos (by omega), ih]
    · simp; omega
    · by_cases e : j = x.toNat
      · have e2 : (j : Int) = x := by omega
        rw [e2, decide_eq_false hn.1]; simp
      · rw [decide_eq_false e]; rfl
    · rw [← Bool.decide_or, decide_eq_decide, List.mem_cons]
      constructor
      · rintro (h | h)
        · exact .inl (by omega)
        · exact .inr h
      · rintro (h | h)
        · exact .inl (by omega)
        · exact .inr h
def muNext (L : Nat) (v : Value) : Nat := if intOf v < 0 then 0 else 64 * L + 1 - (intOf v).toNat
theorem mu_dec {L kk : Nat} {r : Int} (hk : kk < 64 * L) (h : r = -1 ∨ ∃ k2 : Nat, r = (k2 : Int) ∧ kk + 1 ≤ k2 ∧ k2 < 64 * L) : muNext L (.int .i64 r) < muNext L (.int .i64 (kk : Int)) := by
  show (if r < 0 then 0 else 64 * L + 1 - r.toNat) < (if (kk : Int) < 0 then 0 else 64 * L + 1 - (kk : Int).toNat)
  rw [if_neg (show ¬ ((kk : Int) < 0) by omega)]
  rcases h with rfl | ⟨k2, rfl, h1, h2⟩
  · rw [if_pos (by omega)]; omega
  · rw [if_neg (by omega)]; omega
abbrev u16e (n : Int) : Value := .int .u16 n
theorem wf_small {x : Int} (h0 : 0 ≤ x) (h1 : x ≤ 1000000) : (Lit.int .i64 x).wf = true := by
  simp [Lit.wf, IntKind.min, IntKind.max, IntKind.signed, IntKind.bits]; omega
set_option maxHeartbeats 3200000 in
set_option maxRecDepth 100000 in
theorem through_ok (v : Value) (l : List Int) (w : World) (hv : Rd u16e w v l) (hl16 : ∀ x ∈ l, 0 ≤ x ∧ x ≤ 65535) (hT : TabW w) :
    Calls Tryd.prog 4 #[v] w fun e w' => e = .returned (.bool true) ∧ Below w.heap.size w w' := by
  obtain ⟨A, c, rfl, _⟩ := hv.len
  have H16 := Lib.hid hl16
  have RX := Lib.hid hv
  have HT := Lib.hid hT
  clear hl16 hv hT
  go_enter Tryd.func4, Tryd.ntmps4
  go_wp2_with fail
  refine (alive_ok _ HT.out).mono ?_
  rintro e w1 ⟨rfl, hb1⟩
  by_cases hl : l.length ≤ 60
  · have t0 : decide ((60 : Int) < ((l.length : Nat) : Int)) = false := by rw [decide_eq_false_iff_not]; omega
    replace RX := Lib.hid (RX.out.below hb1)
    replace HT := Lib.hid (HT.out.below hb1)
    go_wp2_with (refine wpList_setm_new rfl rfl (by kernel_rfl) ?_; intro w2 hs2 hb2 hS2; replace hS2 := Lib.hid hS2; clear hs2)
    go_loopw [3, 6, 17] (fun b x i wr => ∃ (k : Nat) (A' : Option Addr) (c' n : Nat) (zs ks : List Int), k ≤ l.length ∧ i = .int .i64 k ∧ b = .slice A' n c' ∧ Hid (zs.length = n) ∧ n ≤ 1024 ∧ Hid (Rd u64e wr (.slice A' n c') zs) ∧ Hid (U64 zs) ∧ Hid (SetM wr w1.heap.size k ks) ∧ Hid (ks.length ≤ k) ∧ Hid (ks.Nodup) ∧ Hid (∀ x ∈ ks, 0 ≤ x ∧ x < (900 : Nat)) ∧ Hid (∀ j : Nat, bitAt zs j = decide ((j : Int) ∈ ks)) ∧ Below w1.heap.size w1 wr) (fun _ _ i _ => l.length - (intOf i).toNat)
    case atStart => exact ⟨0, none, 0, 0, [], [], by omega, rfl, rfl, Lib.hid rfl, by omega, Lib.hid (Rd.none_ _ _), Lib.hid U64.nil, hS2, Lib.hid (by simp), Lib.hid (by simp), Lib.hid (by simp), Lib.hid (fun j => by rw [bitAt_nil]; simp), hb2⟩
    case round =>
      obtain ⟨k, A', c', n, zs, ks, hk, rfl, rfl, hzn, hn, hr, hU, hS, hkl, hnd, h900, hB, hb⟩ := hrel
      by_cases hlt : k < l.length
      · obtain ⟨b, o, rfl, _, hc⟩ := (RX.out.below hb).at_ hlt
        have hx16 := H16.out _ (List.getElem_mem hlt)
        obtain ⟨x, hx⟩ : ∃ x, x = l[k] := ⟨_, rfl⟩
        rw [← hx] at hc hx16
        clear hx
        have hx0 : 0 ≤ x % 900 := by omega
        have hx9 : x % 900 < 900 := by omega
        have hwf := Lib.hid (wf_small hx0 (by omega))
        go_wp2_with fail
        refine (put_ok _ zs (x % 900) true _ hr.out (by have := hzn.out; omega) hU.out (by omega) (by omega)).mono ?_
        rintro e w3 ⟨v3, ys, rfl, hr3, hp3, hf3, hb3⟩
        obtain ⟨A3, c3, rfl, -⟩ := hr3.len
        have hyl : ys.length ≤ 1024 := by have := hp3.2.2.1; have := hzn.out; omega
        have hUy := Lib.hid hp3.1
        have hBy : Hid (∀ j : Nat, bitAt ys j = decide ((j : Int) ∈ addK ks (x % 900))) := Lib.hid fun j => by
          rw [hp3.2.2.2 j, hB.out j]
          by_cases e : (j : Int) = x % 900
          · rw [if_pos ⟨e, by omega⟩, decide_eq_true (mem_addK.2 (.inr e))]
          · rw [if_neg (fun h => e h.1), decide_eq_decide, mem_addK]
            exact ⟨.inl, fun h => h.elim id fun h => absurd h e⟩
        have hks : Hid (∀ y ∈ addK ks (x % 900), 0 ≤ y ∧ y < (900 : Nat)) := Lib.hid fun y hy => by
          rcases mem_addK.1 hy with h | h
          · exact h900.out y h
          · omega
        have hS3 := Lib.hid (hS.out.kept hb3)
        have hb3' := hb.trans (hb3.mono hb.size)
        have hr3 := Lib.hid hr3
        have hkl' : Hid ((addK ks (x % 900)).length ≤ k + 1) := Lib.hid (by have := addK_len ks (x % 900); have := hkl.out; omega)
        have hk9 : k < maxLen := by unfold maxLen; omega
        clear hp3 hb3
        go_wp2_with (refine wpList_setm_put rfl (.tmp 26) (.tmp 29) (.const (.bool true)) rfl hS3.out rfl hk9 (x % 900) rfl rfl hwf.out ?_; intro w4 hS4 hg4; replace hS4 := Lib.hid hS4)
        have hr4 := Lib.hid (hr3.out.keep hg4.size fun _ bb e hlt => hg4.block bb hlt (by intro e2; cases e2; have h1 := hf3 _ e; have h2 := hS.out.lt; omega))
        go_roundw
        case rel => exact ⟨k + 1, A3, c3, ys.length, ys, addK ks (x % 900), by omega, by go_num, rfl, Lib.hid rfl, hyl, hr4, hUy, hS4, hkl', Lib.hid (addK_nodup hnd.out), hks, hBy, hb3'.grown hg4 hb3'.size (fun k hk => by cases hk; exact Nat.le_refl _)⟩
        case measure => simp [intOf]; omega
      · obtain rfl : k = l.length := by omega
        have t1 : decide (((l.length : Nat) : Int) < ((l.length : Nat) : Int)) = false := by rw [decide_eq_false_iff_not]; omega
        have hcnt : popAll zs = ks.length := by
          have h1 := count_mem hnd.out h900.out
          rw [← popAll_upto zs (n := 900 + 64 * zs.length) (by omega), ← h1, countTo_congr (fun j _ => hB.out j), countTo_none (m := 900) (fun j hj => by rw [decide_eq_false]; intro h; have := h900.out _ h; omega) _ (by omega)]
        have hend : ∀ m : Nat, (∀ j : Nat, (m : Int) ≤ (j : Int) → bitAt zs j = false) → countTo (bitAt zs) m = ks.length := fun m h => by
          rw [← hcnt, ← popAll_upto zs (n := m + 64 * zs.length) (by omega)]
          exact (countTo_none (m := m) (fun j hj => h j (by omega)) _ (by omega)).symm
        have hmono : ∀ m : Nat, countTo (bitAt zs) m ≤ ks.length := fun m => by
          rw [← hcnt, ← popAll_upto zs (n := m + 64 * zs.length) (by omega), countTo_add]
          exact Nat.le_add_right _ _
        replace hcnt := Lib.hid hcnt
        replace hend := Lib.hid hend
        replace hmono := Lib.hid hmono
        have HT' := Lib.hid (HT.out.below hb)
        have hzl : zs.length ≤ 1024 := by have := hzn.out; omega
        have hkk := hkl.out
        go_wp2_with fail
        refine (next_ok _ zs 0 _ hr.out (by omega) hU.out (by omega) (by omega) HT'.out).mono ?_
        rintro e w' ⟨r, rfl, hn0, rfl⟩
        replace hn0 := Lib.hid hn0
        go_wp2_with fail
        go_loop [7, 8] (fun n i => ∃ (m c : Nat) (r : Int), n = .int .i64 c ∧ i = .int .i64 r ∧ c ≤ 60 ∧ Hid (c = countTo (bitAt zs) m) ∧ Hid (IsNext (bitAt zs) (m : Int) r)) (fun _ i => muNext zs.length i)
        case atStart => exact ⟨0, 0, r, rfl, rfl, by omega, Lib.hid rfl, hn0⟩
        case round =>
          obtain ⟨m, q, r, rfl, rfl, hq60, hq, hnx⟩ := hrel
          have hqk : q ≤ ks.length := by rw [hq.out]; exact hmono.out m
          rcases hnx.out with ⟨rfl, hno⟩ | ⟨kk, rfl, hmk, hpk, hno⟩
          · have hqe : q = ks.length := by rw [hq.out]; exact hend.out m hno
            have te : ((q : Int) == ((ks.length : Nat) : Int)) = true := by rw [beq_iff_eq]; omega
            have te2 : (((popAll zs : Nat) : Int) == (q : Int)) = true := by have := hcnt.out; rw [beq_iff_eq]; omega
            replace hqe := Lib.hid hqe
            clear hno
            go_wp2_with (refine wpList_setm_len rfl (.tmp 52) rfl hS.out rfl ?_)
            refine (count_ok _ zs _ hr.out (by omega) hU.out).mono ?_
            rintro e w' ⟨rfl, rfl⟩
            go_wp2_with fail
            go_ret
            exact ⟨rfl, below_all hb1 hb⟩
          · have hkz : kk < 64 * zs.length := bitAt_lt hpk
            have hmem : decide ((kk : Int) ∈ ks) = true := by rw [← hB.out kk]; exact hpk
            have hlook := hS.out.look (kk : Int) (wf_small (by omega) (by omega))
            rw [hmem] at hlook
            have t2 : decide (((l.length : Nat) : Int) < (q : Int)) = false := by rw [decide_eq_false_iff_not]; omega
            have hq1 : countTo (bitAt zs) (kk + 1) = q + 1 := by
              obtain ⟨d, hd⟩ : ∃ d, kk = m + d := ⟨kk - m, by omega⟩
              show countTo (bitAt zs) kk + (if bitAt zs kk then 1 else 0) = q + 1
              rw [hpk, hq.out]
              have : countTo (bitAt zs) kk = countTo (bitAt zs) m := by
                rw [hd, countTo_add]
                have hz : countTo (fun j => bitAt zs (m + j)) d = countTo (fun j => decide (j = d)) d := countTo_congr fun j hj => by
                  rw [hno (m + j) (by omega) (by omega), decide_eq_false (by omega : ¬ j = d)]
                rw [hz, count_eq, if_neg (by omega)]
                rfl
              rw [this]
              rfl
            have hq60' : q + 1 ≤ 60 := by have h9 := hmono.out (kk + 1); omega
            replace hq1 := Lib.hid hq1
            clear hno hpk hmem
            have hkk9 : (kk : Int) ≤ 70000 := by omega
            go_wp2_with fail
            refine (next_ok _ zs ((kk : Int) + 1) _ hr.out (by omega) hU.out (by omega) (by omega) HT'.out).mono ?_
            rintro e w' ⟨r', rfl, hn1, rfl⟩
            have hdec := mu_dec (L := zs.length) (kk := kk) (r := r') hkz (by
              rcases hn1 with ⟨rfl, _⟩ | ⟨k2, rfl, h1, h2, _⟩
              · exact .inl rfl
              · exact .inr ⟨k2, rfl, by omega, bitAt_lt h2⟩)
            replace hn1 := Lib.hid hn1
            replace hdec := Lib.hid hdec
            go_wp2_with fail
            go_round
            case rel => exact ⟨kk + 1, q + 1, r', by go_num, rfl, hq60', Lib.hid hq1.out.symm, hn1⟩
            case measure => exact hdec.out
  · have t0 : decide ((60 : Int) < ((l.length : Nat) : Int)) = true := by rw [decide_eq_true_iff]; omega
    go_wp2_with fail
    go_ret
    exact ⟨rfl, hb1⟩
end Go.Proofs.YtibmjednieopfaaDoor
