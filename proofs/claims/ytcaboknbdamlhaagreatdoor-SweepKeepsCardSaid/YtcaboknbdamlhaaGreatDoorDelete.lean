/- The walks of IndexFunc and DeleteFunc at the closure of Cut. -/
import Derived.Test.YtcaboknbdamlhaaGreatDoorListRCut
import Derived.Deep.QuietTactic
import Derived.BigQuiet
set_option linter.unusedVariables false
set_option linter.unusedSimpArgs false
namespace Go.Proofs.YtcaboknbdamlhaaGreatDoor
open Go.RowKit

/-- Where a test is first met, or -1. -/
def ixP (pr : Int → Bool) (xs : List Int) : Int := if xs.any pr then (xs.findIdx pr : Int) else -1
theorem ixP_here {pr : Int → Bool} {xs : List Int} {k : Nat} (hk : k < xs.length) (h : pr xs[k] = true) (hno : ∀ j (hj : j < xs.length), j < k → pr xs[j] = false) : ixP pr xs = (k : Int) := by
  have hm : xs.any pr = true := List.any_eq_true.2 ⟨_, List.getElem_mem hk, h⟩
  unfold ixP
  rw [if_pos hm]
  have : xs.findIdx pr = k := by
    rw [List.findIdx_eq hk]
    exact ⟨h, fun j hj => by simpa using hno j (by omega) hj⟩
  rw [this]
theorem ixP_none {pr : Int → Bool} {xs : List Int} (hno : ∀ j (hj : j < xs.length), pr xs[j] = false) : ixP pr xs = -1 := by
  unfold ixP
  rw [if_neg]
  intro h
  obtain ⟨x, hx, hp⟩ := List.any_eq_true.1 h
  obtain ⟨j, hj, rfl⟩ := List.getElem_of_mem hx
  rw [hno j hj] at hp
  cases hp

theorem own_setCells {B : Nat} {e : TypeId} {g cap n : Nat} : ∀ (us : List Value) (o : Nat) (w : World) (zs : List Value), w.ownsRow B e 1 (.slice (some ⟨g, 0, none⟩) n cap) n zs →
    ∃ zs', (w.setCells g o us).ownsRow B e 1 (.slice (some ⟨g, 0, none⟩) n cap) n zs' ∧ zs'.take o = zs.take o ∧ w.grownBy (w.setCells g o us) (some g)
  | [], o, w, zs, h => ⟨zs, h, rfl, World.grownBy.refl _ _⟩
  | u :: us, o, w, zs, h => by
    obtain ⟨h1, hg1⟩ := h.stored o u
    obtain ⟨zs', h2, ht, hg2⟩ := own_setCells us (o + 1) _ _ h1
    refine ⟨zs', h2, ?_, hg1.trans hg2⟩
    have := congrArg (List.take o) ht
    rw [List.take_take, List.take_take, Nat.min_eq_left (by omega)] at this
    rw [this, List.take_set_of_le (Nat.le_refl _)]

--BEGIN CLOSURE
theorem cut1_clo (B : Nat) (x s : Int) (w : World) (hx : x ≤ 9223372036854775807) (hB : w.cell? ⟨B, 0, none⟩ = some (.int .i64 s)) :
    Calls Tryz.prog 115 #[.int .i64 x, .pointer (some ⟨B, 0, none⟩)] w fun e w' => e = .returned (.bool (spanOf x == s)) ∧ ∃ n, w' = w.drewN n := by
  go_enter Tryz.func115, Tryz.ntmps115
  go_wp2_with fail
  go_quiet ((go_at_call 106; exact Calls.quiet_of_same ((in_ok _ _ hx).mono fun _ _ h => ⟨h.1, h.2.symm⟩)))
  go_wp2_with fail
  go_ret
  exact ⟨rfl, _, rfl⟩

theorem drewN_add (w : World) (a b : Nat) : (w.drewN a).drewN b = w.drewN (a + b) := World.drewN_drewN w a b

theorem cut1_index (B : Nat) (v : Value) (xs : List Int) (s : Int) (w : World) (hv : Rd i64e w v xs) (hl : xs.length ≤ 1099511627776) (hbd : ∀ x ∈ xs, x ≤ 9223372036854775807) (hB : w.cell? ⟨B, 0, none⟩ = some (.int .i64 s)) :
    Calls Tryz.prog 97 #[v, .func (.func 115) #[] #[.pointer (some ⟨B, 0, none⟩)]] w fun e w' => e = .returned (.int .i64 (ixP (fun x => spanOf x == s) xs)) ∧ ∃ n, w' = w.drewN n := by
  obtain ⟨A, c, rfl, _⟩ := hv.len
  have HBd := Lib.hid hbd
  clear hbd
  go_enter Tryz.func97, Tryz.ntmps97
  go_wp2_with fail
  go_loopw [8] (fun i wr => ∃ k : Nat, k ≤ xs.length ∧ i = .int .i64 k ∧ Hid (∀ j (hj : j < xs.length), j < k → (spanOf xs[j] == s) = false) ∧ ∃ m, wr = w.drewN m) (fun i _ => xs.length - (intOf i).toNat)
  case atStart => exact ⟨0, by omega, rfl, Lib.hid fun j _ h => by omega, 0, rfl⟩
  case round =>
    obtain ⟨k, hk, rfl, hno, m, rfl⟩ := hrel
    by_cases hlt : k < xs.length
    · obtain ⟨b, o, rfl, _, hc⟩ := hv.at_ hlt
      have hxb := HBd.out _ (List.getElem_mem hlt)
      by_cases hx : (spanOf xs[k] == s) = true
      · have hi := Lib.hid (ixP_here (pr := fun x => spanOf x == s) hlt hx hno.out)
        go_wp2_with (go_at_call 115; refine (cut1_clo B _ s _ hxb (by exact hB)).mono ?_; rintro e w' ⟨rfl, n, rfl⟩)
        go_ret
        exact ⟨ret_int hi.out.symm, _, rfl⟩
      · have hx : (spanOf xs[k] == s) = false := by simpa using hx
        have hno' : Hid (∀ j (hj : j < xs.length), j < k + 1 → (spanOf xs[j] == s) = false) := Lib.hid fun j hj h => by
          rcases Nat.lt_or_ge j k with h1 | h1
          · exact hno.out j hj h1
          · have : j = k := by omega
            subst this; exact hx
        go_wp2_with (go_at_call 115; refine (cut1_clo B _ s _ hxb (by exact hB)).mono ?_; rintro e w' ⟨rfl, n, rfl⟩)
        go_roundw
        case rel => exact ⟨k + 1, by omega, by go_num, hno', _, rfl⟩
        case measure => simp [intOf]; omega
    · have hi := Lib.hid (ixP_none (pr := fun x => spanOf x == s) (xs := xs) fun j hj => hno.out j hj (by omega))
      go_wp2_with fail
      go_ret
      exact ⟨ret_int hi.out.symm, _, rfl⟩

theorem grown_drewN {a w : World} {row : Option Nat} (h : a.grownBy w row) (n : Nat) : a.grownBy (w.drewN n) row := ⟨h.os, h.tape, h.output, h.size, h.block⟩
theorem keep_all {s : Int} {xs : List Int} (h : ∀ x ∈ xs, (spanOf x == s) = false) : keepS s xs = xs := by
  unfold keepS
  rw [List.filter_eq_self]
  intro x hx
  simp [h x hx]

set_option maxHeartbeats 1600000 in
set_option maxRecDepth 100000 in
theorem cut1_delete (B base : Nat) (v : Value) (xs : List Int) (s : Int) (w : World) (hown : w.ownsRow base 3 1 v xs.length (xs.map i64e)) (hl : xs.length ≤ 1099511627776) (hbd : ∀ x ∈ xs, x ≤ 9223372036854775807)
    (hB : w.cell? ⟨B, 0, none⟩ = some (.int .i64 s)) (hne : v.ownBlock ≠ some B) :
    Calls Tryz.prog 77 #[v, .func (.func 115) #[] #[.pointer (some ⟨B, 0, none⟩)]] w fun e w' => ∃ v', e = .returned v' ∧ w'.ownsRow base 3 1 v' (keepS s xs).length ((keepS s xs).map i64e) ∧ w.grownBy w' v.ownBlock ∧ v'.ownBlock = v.ownBlock := by
  have hidx := cut1_index B v xs s w (Rd.of_own hown) hl hbd hB
  by_cases hany : xs.any (fun x => spanOf x == s) = true
  · have hi0 : xs.findIdx (fun x => spanOf x == s) < xs.length := by
      rw [List.findIdx_lt_length]
      simpa using hany
    obtain ⟨i0, e0⟩ : ∃ i0, i0 = xs.findIdx (fun x => spanOf x == s) := ⟨_, rfl⟩
    rw [← e0] at hi0
    have hix : ixP (fun x => spanOf x == s) xs = (i0 : Int) := by unfold ixP; rw [if_pos hany, e0]
    rw [hix] at hidx
    have hpi : (spanOf xs[i0] == s) = true := by
      subst e0
      exact List.findIdx_getElem (w := hi0)
    have hpj : ∀ j (hj : j < xs.length), j < i0 → (spanOf xs[j] == s) = false := fun j hj h => by
      subst e0
      simpa using List.not_of_lt_findIdx h
    have hstart : Hid (xs.take i0 = keepS s (xs.take (i0 + 1))) := Lib.hid (by
      rw [take_snoc xs hi0, keep_snoc, if_pos (by simpa using hpi)]
      refine (keep_all fun x hx => ?_).symm
      obtain ⟨j, hj, rfl⟩ := List.getElem_of_mem hx
      rw [List.length_take] at hj
      rw [List.getElem_take]
      exact hpj j (by omega) (by omega))
    have HBd := Lib.hid hbd
    rcases hown.2 with ⟨rfl, h0⟩ | ⟨g, cap, cur, rfl, hg, hh, hnc, hcm, hcs, htk⟩
    · omega
    have hown := Lib.hid hown
    have hidx := Lib.hid hidx
    have hneB : g ≠ B := fun e => hne (by rw [e]; rfl)
    have hBlt : B < w.heap.size := World.block_lt_of_cell? w _ hB
    clear hne hbd hany hix hpi hpj e0 htk hcs hh
    go_enter Tryz.func77, Tryz.ntmps77
    go_wp2_with fail
    refine hidx.out.mono ?_
    rintro e w' ⟨rfl, n, rfl⟩
    have hb0 : (((i0 : Nat) : Int) == -1) = false := by rw [beq_eq_false_iff_ne]; omega
    go_wp2_with fail
    go_loopw [5, 6] (fun a b wr => ∃ i j : Nat, i < j ∧ j ≤ xs.length ∧ a = .int .i64 i ∧ b = .int .i64 j ∧ ∃ zs : List Int, Hid (zs.length = xs.length) ∧ Hid (wr.ownsRow base 3 1 (.slice (some ⟨g, 0, none⟩) xs.length cap) xs.length (zs.map i64e)) ∧
        Hid (zs.take i = keepS s (xs.take j)) ∧ Hid (zs.drop j = xs.drop j) ∧ w.grownBy wr (some g)) (fun _ b _ => xs.length - (intOf b).toNat)
    case atStart => exact ⟨i0, i0 + 1, by omega, by omega, rfl, by go_num, xs, Lib.hid rfl, hown, hstart, Lib.hid rfl, grown_drewN (World.grownBy.refl _ _) _⟩
    case round =>
      obtain ⟨i, j, hij, hj, rfl, rfl, zs, hzs, hz, ht, hd, hgw⟩ := hrel
      have hzl := hzs.out
      have hBr : wr.cell? ⟨B, 0, none⟩ = some (.int .i64 s) := by rw [← hB]; exact World.cell?_of_block (hgw.block B hBlt (fun e => hneB (by injection e with e; exact e.symm)))
      by_cases hlt : j < xs.length
      · have hel : zs[j]'(by omega) = xs[j] := by
          have h1 : (zs.drop j)[0]? = (xs.drop j)[0]? := by rw [hd.out]
          simp only [List.getElem?_drop, Nat.add_zero] at h1
          rw [List.getElem?_eq_getElem (by omega), List.getElem?_eq_getElem hlt] at h1
          injection h1
        have hce : wr.cell? ⟨g, j, none⟩ = some (i64e xs[j]) := by
          rw [hz.out.cellAt j (by omega), List.getElem?_map, List.getElem?_eq_getElem (by omega), hel]
          rfl
        have hfz := hz.out.frozenAt i
        obtain ⟨u, hci⟩ : ∃ u, wr.cell? ⟨g, i, none⟩ = some u := ⟨i64e (zs[i]'(by omega)), by
          rw [hz.out.cellAt i (by omega), List.getElem?_map, List.getElem?_eq_getElem (by omega)]
          rfl⟩
        have hxb := HBd.out _ (List.getElem_mem hlt)
        have hd' : zs.drop (j + 1) = xs.drop (j + 1) := by rw [← List.drop_drop, hd.out, List.drop_drop]
        by_cases hx : (spanOf xs[j] == s) = true
        · have ht' : Hid (zs.take i = keepS s (xs.take (j + 1))) := Lib.hid (by rw [take_snoc xs hlt, keep_snoc, if_pos (by simpa using hx)]; exact ht.out)
          have hd' := Lib.hid hd'
          clear hel ht hd hzl
          go_wp2_with (go_at_call 115; refine (cut1_clo B _ s _ hxb (by exact hBr)).mono ?_; rintro e w' ⟨rfl, n, rfl⟩)
          go_roundw
          case rel => exact ⟨i, j + 1, by omega, by omega, rfl, by go_num, zs, hzs, hz, ht', hd', grown_drewN hgw _⟩
          case measure => simp [intOf]; omega
        · have hx : (spanOf xs[j] == s) = false := by simpa using hx
          have ht' : Hid ((zs.set i xs[j]).take (i + 1) = keepS s (xs.take (j + 1))) := Lib.hid (by
            rw [take_snoc xs hlt, keep_snoc, if_neg (by simpa using hx), ← ht.out]
            rw [take_snoc _ (by rw [List.length_set]; omega), List.getElem_set_self, List.take_set_of_le (Nat.le_refl _)])
          have hd' : Hid ((zs.set i xs[j]).drop (j + 1) = xs.drop (j + 1)) := Lib.hid (by rw [List.drop_set_of_lt (by omega), hd'])
          obtain ⟨hz2, hg2⟩ := hz.out.stored i (i64e xs[j])
          rw [← List.map_set] at hz2
          have hz2 := Lib.hid hz2
          have hg2 := hgw.trans hg2
          have hzs' : Hid ((zs.set i xs[j]).length = xs.length) := Lib.hid (by rw [List.length_set]; exact hzl)
          clear hel ht hd hz hzl
          go_wp2_with (go_at_call 115; refine (cut1_clo B _ s _ hxb (by exact hBr)).mono ?_; rintro e w' ⟨rfl, n, rfl⟩)
          go_roundw
          case rel => exact ⟨i + 1, j + 1, by omega, by omega, by go_num, by go_num, zs.set i xs[j], hzs', hz2, ht', hd', grown_drewN hg2 _⟩
          case measure => simp [intOf]; omega
      · obtain rfl : j = xs.length := by omega
        have hcap : i < cap := by omega
        have hcl := fun ty => Lib.run_clear_slice (P := Tryz.prog) wr 36 3 ty (.int .i64 0) Tryz.underlying36 (fun _ => by kernel_rfl) rfl rfl g i (xs.length - i) (cap - i) (by omega)
          (fun t ht' => by rw [hz.out.cellAt (i + t) (by omega), List.getElem?_map, List.getElem?_eq_getElem (by omega)]; rfl) (fun t _ => hz.out.frozenAt (i + t))
        obtain ⟨zs', hz2, ht2, hg2⟩ := own_setCells (List.replicate (xs.length - i) (.int .i64 0)) i wr _ hz.out
        have hg2 := hgw.trans hg2
        have hke : Hid ((keepS s xs) = zs.take i) := Lib.hid (by rw [ht.out, List.take_length])
        have hkl : (keepS s xs).length = i := by rw [hke.out, List.length_take]; omega
        have hz3 := own_drop_last hz2 (m := i) (by omega) (.inl (by omega))
        rw [ht2, ← List.map_take, ← hke.out] at hz3
        have hz3 := Lib.hid hz3
        have hkl := Lib.hid hkl
        clear hz2 ht2 hzl ht hd hz
        go_wp2_with fail
        go_ret
        exact ⟨_, rfl, by rw [hkl.out]; exact hz3.out, hg2, rfl⟩
  · have hno : ∀ x ∈ xs, (spanOf x == s) = false := fun x hx => by
      rcases hb : (spanOf x == s) with _ | _
      · rfl
      · exact absurd (List.any_eq_true.2 ⟨x, hx, hb⟩) hany
    have hix : ixP (fun x => spanOf x == s) xs = -1 := by unfold ixP; rw [if_neg hany]
    rw [hix] at hidx
    have hke := Lib.hid (keep_all hno)
    have hidx := Lib.hid hidx
    have hown := Lib.hid hown
    clear hno hix hany
    go_enter Tryz.func77, Tryz.ntmps77
    go_wp2_with fail
    refine hidx.out.mono ?_
    rintro e w' ⟨rfl, n, rfl⟩
    go_wp2_with fail
    go_ret
    exact ⟨_, rfl, by rw [hke.out]; exact hown.out, grown_drewN (World.grownBy.refl _ _) _, rfl⟩

end Go.Proofs.YtcaboknbdamlhaaGreatDoor
