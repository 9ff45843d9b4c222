/- The walks of a set's clone and of Put. -/
import Derived.Test.YtcaboknbdamlhaaGreatDoorBitAt
import Derived.Test.YtcaboknbdamlhaaGreatDoorBitOps
import Derived.Test.YtcaboknbdamlhaaGreatDoorAppendAll
import Derived.RegionTactic
import Derived.BigRegion
set_option linter.unusedVariables false
set_option linter.unusedSimpArgs false
namespace Go.Proofs.YtcaboknbdamlhaaGreatDoor
open Go.RowKit

theorem u64_info : (Tryz.prog.info? 120).map (fun i => (i.zero, i.size, i.bytes)) = some (some (.int .u64 0), 1, 8) := by kernel_rfl
theorem bclone_ok (v : Value) (xs : List Int) (w : World) (hv : Rd u64e w v xs) (hl : xs.length ≤ 1099511627776) :
    Calls Tryz.prog 102 #[v] w fun e w' => ∃ v', e = .returned v' ∧ w'.ownsRow w.heap.size 120 1 v' xs.length (xs.map u64e) ∧ Below w.heap.size w w' := by
  have hv0 := hv
  obtain ⟨A, c, rfl, _, _, hAc⟩ := hv.len
  rcases A with _ | ad
  · have hn : xs = [] := by
      rcases xs with _ | ⟨y, ys⟩
      · rfl
      · obtain ⟨b, o, h0, _⟩ := hv.at_ (i := 0) (by simp)
        cases h0
    subst hn
    obtain rfl : c = 0 := hAc rfl
    have hnil := fun w' => Lib.run_eql_slice_nil (P := Tryz.prog) w' 91 120 none 0 0 0 0 Tryz.underlying91
    go_enter Tryz.func102, Tryz.ntmps102
    go_wp2
    go_ret
    exact ⟨_, rfl, World.ownsRow_nil _ _ _ _, Below.refl _ _⟩
  · have hnil := fun w' => Lib.run_eql_slice_nil (P := Tryz.prog) w' 91 120 (some ad) xs.length c 0 0 Tryz.underlying91
    go_enter Tryz.func102, Tryz.ntmps102
    go_wp2_with (at_builtin; refine wpList_append_all rfl (.tmp 5) (.tmp 6) _ rfl w.heap.size 120 _ 8 Tryz.underlying91 u64_info rfl _ 0 [] rfl ?c1 u64e _ xs (fun _ => rfl) rfl ?c2 (by unfold maxLen; omega) (by omega) ?c3 ?_)
    case c1 => exact World.ownsRow_made w #[] 0 (Nat.le_refl _) (Nat.zero_le _) rfl
    case c2 => exact hv0.below (below_alloc _ _)
    case c3 => simp
    intro v' w1 hown hg hat
    go_wp2_with fail
    go_ret
    refine ⟨_, rfl, by simpa using hown, ?_⟩
    exact (below_alloc w _).grown hg (by simp) (fun k hk => by cases hk; exact Nat.le_refl _)

/-- A slice in blocks from B on. -/
def From (B : Nat) (v : Value) : Prop := ∀ b, v.ownBlock = some b → B ≤ b
def PutB (xs : List Int) (i : Int) (is : Bool) (ys : List Int) : Prop :=
  U64 ys ∧ Short ys ∧ (ys.length ≤ xs.length ∨ ys.length ≤ 1024) ∧ ∀ j : Nat, bitAt ys j = if (j : Int) = i ∧ i < 65536 then is else bitAt xs j
theorem putB_out {xs : List Int} {i : Int} {is : Bool} (hu : U64 xs) (h : i < 0 ∨ 65536 ≤ i) : PutB xs i is (xs.take (shortN xs)) :=
  ⟨hu.take _, short_take _, .inl (by simp; omega), fun j => by rw [bitAt_take, if_neg (by omega)]⟩
theorem own_form {w : World} {B : Nat} {e : TypeId} {v : Value} {n : Nat} {xs : List Value} (h : w.ownsRow B e 1 v n xs) : ∃ A c, v = .slice A n c ∧ n ≤ c := by
  rcases h.2 with ⟨rfl, h1⟩ | ⟨g, cap, cur, rfl, _, hg, hn, hm, _, ht⟩
  · subst h1; exact ⟨none, 0, rfl, Nat.le_refl _⟩
  · exact ⟨_, _, rfl, hn⟩
theorem own_addr {w : World} {B : Nat} {e : TypeId} {A : Option Addr} {n c : Nat} {xs : List Value} (h : w.ownsRow B e 1 (.slice A n c) n xs) (hn : 0 < n) : ∃ g, A = some ⟨g, 0, none⟩ ∧ B ≤ g ∧ g < w.heap.size := by
  rcases h.2 with ⟨h1, h2⟩ | ⟨g, cap, cur, hv, hB, hg, _⟩
  · injection h1 with _ h1 _; omega
  · injection hv with hv _ _
    exact ⟨g, hv, hB, (Array.getElem?_eq_some_iff.1 hg).1⟩
theorem From.len {B : Nat} {A : Option Addr} {n c : Nat} (h : From B (.slice A n c)) (m : Nat) : From B (.slice A m c) := by
  intro b hb
  exact h b (by cases A <;> exact hb)
theorem own_from {w : World} {B : Nat} {e : TypeId} {v : Value} {n : Nat} {xs : List Value} (h : w.ownsRow B e 1 v n xs) : From B v := fun b hb => (h.lt b hb).1

theorem own_grow {w : World} {B : Nat} {e : TypeId} {v : Value} {ys : List Int} {x : Int} (h : w.ownsRow B e 1 v (ys.length + 1) (ys.map u64e ++ [u64e x])) : w.ownsRow B e 1 v (ys ++ [x]).length ((ys ++ [x]).map u64e) := by
  have e1 : (ys ++ [x]).length = ys.length + 1 := by simp
  rw [e1, List.map_append]
  exact h
theorem set_bits {ys : List Int} (hU : U64 ys) {k : Nat} (hk : k / 64 < ys.length) (op : BinOp) (h : op = .or ∨ op = .andNot) :
    U64 (ys.set (k / 64) (bits op .u64 ys[k / 64] (IntKind.u64.wrap (2 ^ (k % 64))))) ∧ ∀ j, bitAt (ys.set (k / 64) (bits op .u64 ys[k / 64] (IntKind.u64.wrap (2 ^ (k % 64))))) j = if j = k then decide (op = .or) else bitAt ys j := by
  have hr : k % 64 < 64 := by omega
  have e : IntKind.u64.wrap (2 ^ (k % 64)) = ((2 ^ (k % 64) : Nat) : Int) := by rw [← wrap_pow hr, Int.one_mul]
  have hw := put_word (hU _ (List.getElem_mem hk)) hr op h
  rw [← e] at hw
  refine ⟨hU.set _ hw.1.1 hw.1.2, fun j => ?_⟩
  rw [bitAt_set _ _ hk]
  by_cases e1 : j / 64 = k / 64
  · rw [if_pos e1, hw.2 _ (by omega)]
    by_cases e2 : j = k
    · rw [if_pos e2, if_pos (by omega)]
    · rw [if_neg e2, if_neg (by omega)]
      unfold bitAt
      rw [e1, getD_lt hk]
  · rw [if_neg e1, if_neg (by intro e2; exact e1 (by rw [e2]))]
theorem putB_in {xs zs : List Int} {k : Nat} {is : Bool} (hk : k < 65536) (hU : U64 zs) (hlen : zs.length ≤ xs.length ∨ zs.length ≤ 1024) (h : ∀ j, bitAt zs j = if j = k then is else bitAt xs j) : PutB xs (k : Int) is (zs.take (shortN zs)) := by
  have hle := shortN_le zs
  refine ⟨hU.take _, short_take _, by rw [List.length_take]; omega, fun j => ?_⟩
  rw [bitAt_take, h j]
  by_cases e : j = k
  · rw [if_pos e, if_pos ⟨by omega, by omega⟩]
  · rw [if_neg e, if_neg (by omega)]
set_option maxHeartbeats 800000 in
theorem bput_ok (v : Value) (xs : List Int) (i : Int) (is : Bool) (w : World) (hv : Rd u64e w v xs) (hl : xs.length ≤ 1099511627776) (hu : U64 xs) (hi : i ≤ 9223372036854775807) (hi0 : -9223372036854775808 ≤ i) :
    Calls Tryz.prog 73 #[v, .int .i64 i, .bool is] w fun e w' => ∃ v' ys, e = .returned v' ∧ Rd u64e w' v' ys ∧ PutB xs i is ys ∧ From w.heap.size v' ∧ Below w.heap.size w w' := by
  have HU := Lib.hid hu
  clear hu
  go_enter Tryz.func73, Tryz.ntmps73
  go_wp2_with fail
  refine (bclone_ok v xs _ hv hl).mono ?_
  rintro e w1 ⟨v1, rfl, hown, hb1⟩
  have hr1 := Rd.of_own (enc := u64e) hown
  have hf1 := own_from hown
  obtain ⟨A, c, rfl, hAc⟩ := own_form hown
  have hr1 := Lib.hid hr1
  have hf1 := Lib.hid hf1
  have hown := Lib.hid hown
  by_cases h0 : i < 0
  · have hp := Lib.hid (putB_out (is := is) HU.out (.inl h0))
    go_wp2_with fail
    refine (short_ok A c xs _ hr1.out hl).mono ?_
    rintro e w' ⟨rfl, rfl⟩
    go_wp2_with fail
    go_ret
    exact ⟨_, _, rfl, hr1.out.take_to (shortN_le xs), hp.out, hf1.out.len _, hb1⟩
  by_cases h1 : 65536 ≤ i
  · have hp := Lib.hid (putB_out (is := is) HU.out (.inr h1))
    go_wp2_with fail
    refine (short_ok A c xs _ hr1.out hl).mono ?_
    rintro e w' ⟨rfl, rfl⟩
    go_wp2_with fail
    go_ret
    exact ⟨_, _, rfl, hr1.out.take_to (shortN_le xs), hp.out, hf1.out.len _, hb1⟩
  obtain ⟨k, rfl⟩ : ∃ k : Nat, i = (k : Int) := ⟨i.toNat, by omega⟩
  have hk : k < 65536 := by omega
  have t0 : decide ((k : Int) < 0) = false := by rw [decide_eq_false_iff_not]; omega
  have t1 : decide (65536 ≤ (k : Int)) = false := by rw [decide_eq_false_iff_not]; omega
  clear h0 h1
  go_wp2_with fail
  go_loopw [0] (fun s wr => ∃ (ys : List Int) (A : Option Addr) (c : Nat), s = .slice A ys.length c ∧ Hid (U64 ys) ∧ Hid (∀ j, bitAt ys j = bitAt xs j) ∧ (ys.length ≤ xs.length ∨ ys.length ≤ k / 64 + 1) ∧ Hid (wr.ownsRow w.heap.size 120 1 (.slice A ys.length c) ys.length (ys.map u64e)) ∧ Below w.heap.size w wr) (fun s _ => k / 64 + 2 - slen s)
  case atStart => exact ⟨xs, A, c, rfl, HU, Lib.hid fun _ => rfl, .inl (Nat.le_refl _), hown, hb1⟩
  case round =>
    obtain ⟨ys, A, c, rfl, hU, hB, hlen, hown, hb⟩ := hrel
    have hl5 : ys.length ≤ 1099511627777 := by omega
    by_cases hlt : ys.length ≤ k / 64
    · have ht : decide (((ys.length : Nat) : Int) ≤ (k : Int) / 64) = true := by rw [decide_eq_true_iff]; omega
      have hz : w.heap.size ≤ wr.heap.size := hb.size
      go_wp2_with (at_builtin; refine wpList_push rfl (.tmp 22) (.tmp 23) _ rfl w.heap.size 120 _ 8 Tryz.underlying91 u64_info rfl _ _ _ rfl hown.out _ rfl rfl (by unfold maxLen; omega) (by omega) hz ?_; intro v' w2 hown' hg hat)
      have hn' := own_grow (x := 0) hown'
      obtain ⟨A', c', rfl, -⟩ := own_form hown'
      have hn' := Lib.hid hn'
      have hB' := Lib.hid (fun j => (bitAt_append_zeros ys 1 j).trans (hB.out j))
      have hU' : Hid (U64 (ys ++ [0])) := Lib.hid (hU.out.append fun x hx => by obtain rfl := List.mem_singleton.1 hx; omega)
      have hb' := hb.grown hg hz (fun g e => (hown.out.lt g e).1)
      have hl' : (ys ++ [(0 : Int)]).length = ys.length + 1 := by simp
      have hl' := Lib.hid hl'
      clear hown' hg hat
      go_wp2_with fail
      go_roundw
      case rel => exact ⟨ys ++ [0], A', c', by rw [hl'.out], hU', hB', .inr (by rw [hl'.out]; omega), Lib.hid (by have h := hn'.out; rw [hl'.out] at h ⊢; exact h), hb'⟩
      case measure => simp [slen]; omega
    · have hlt' : k / 64 < ys.length := by omega
      have ht : decide (((ys.length : Nat) : Int) ≤ (k : Int) / 64) = false := by rw [decide_eq_false_iff_not]; omega
      obtain ⟨g, rfl, hg1, hg2⟩ := own_addr hown.out (by omega)
      have hcell := hown.out.cellAt (k / 64) (by omega)
      have hfz := hown.out.frozenAt (k / 64)
      have hcell : wr.cell? ⟨g, k / 64, none⟩ = some (.int .u64 ys[k / 64]) := by rw [hcell]; simp [hlt']
      have hq0 : (0 : Int) ≤ (k : Int) / 64 := by omega
      have hq1 : (k : Int) / 64 < ((ys.length : Nat) : Int) := by omega
      have hr0 : (0 : Int) ≤ (k : Int) % 64 := by omega
      have hr1 : (k : Int) % 64 < 64 := by omega
      have hw64 := hU.out _ (List.getElem_mem hlt')
      rcases is with _ | _
      · go_wp2_with fail
        go_region
        go_wp2_with fail
        have hs := (hown.out.stored (k / 64) (.int .u64 (bits BinOp.andNot IntKind.u64 ys[k / 64] (IntKind.u64.wrap (2 ^ (k % 64))))))
        have hsb := set_bits hU.out hlt' .andNot (by simp)
        obtain ⟨zs, hzs⟩ : ∃ zs, zs = ys.set (k / 64) (bits BinOp.andNot IntKind.u64 ys[k / 64] (IntKind.u64.wrap (2 ^ (k % 64)))) := ⟨_, rfl⟩
        have hzl : zs.length = ys.length := by rw [hzs]; simp
        rw [← hzs] at hsb
        have ho2 := hs.1
        rw [show (ys.map u64e).set (k / 64) (.int .u64 (bits BinOp.andNot IntKind.u64 ys[k / 64] (IntKind.u64.wrap (2 ^ (k % 64))))) = zs.map u64e by rw [hzs, List.map_set], ← hzl] at ho2
        have hrd := Rd.of_own (enc := u64e) ho2
        rw [hzl] at hrd
        refine (short_at _ _ c zs _ hzl (by exact hrd) (by omega)).mono ?_
        rintro e w' ⟨rfl, rfl⟩
        have hp := Lib.hid (putB_in (xs := xs) (is := false) hk hsb.1 (by omega) (fun j => by rw [hsb.2 j, hB.out j]; simp))
        have hr := Lib.hid ((Rd.of_own (enc := u64e) ho2).take_to (shortN_le zs))
        have hb9 := Lib.hid (below_drewN (hb.setCell (p := ⟨g, k / 64, none⟩) hg1 (.int .u64 (bits BinOp.andNot IntKind.u64 ys[k / 64] (IntKind.u64.wrap (2 ^ (k % 64)))))) 1)
        have hfr := Lib.hid ((own_from ho2).len (shortN zs))
        clear hs hsb hzs hzl ho2 hrd
        go_wp2_with fail
        go_ret
        exact ⟨_, _, rfl, hr.out, hp.out, hfr.out, hb9.out⟩
      · go_wp2_with fail
        go_region
        go_wp2_with fail
        have hs := (hown.out.stored (k / 64) (.int .u64 (bits BinOp.or IntKind.u64 ys[k / 64] (IntKind.u64.wrap (2 ^ (k % 64))))))
        have hsb := set_bits hU.out hlt' .or (by simp)
        obtain ⟨zs, hzs⟩ : ∃ zs, zs = ys.set (k / 64) (bits BinOp.or IntKind.u64 ys[k / 64] (IntKind.u64.wrap (2 ^ (k % 64)))) := ⟨_, rfl⟩
        have hzl : zs.length = ys.length := by rw [hzs]; simp
        rw [← hzs] at hsb
        have ho2 := hs.1
        rw [show (ys.map u64e).set (k / 64) (.int .u64 (bits BinOp.or IntKind.u64 ys[k / 64] (IntKind.u64.wrap (2 ^ (k % 64))))) = zs.map u64e by rw [hzs, List.map_set], ← hzl] at ho2
        have hrd := Rd.of_own (enc := u64e) ho2
        rw [hzl] at hrd
        refine (short_at _ _ c zs _ hzl (by exact hrd) (by omega)).mono ?_
        rintro e w' ⟨rfl, rfl⟩
        have hp := Lib.hid (putB_in (xs := xs) (is := true) hk hsb.1 (by omega) (fun j => by rw [hsb.2 j, hB.out j]; simp))
        have hr := Lib.hid ((Rd.of_own (enc := u64e) ho2).take_to (shortN_le zs))
        have hb9 := Lib.hid (below_drewN (hb.setCell (p := ⟨g, k / 64, none⟩) hg1 (.int .u64 (bits BinOp.or IntKind.u64 ys[k / 64] (IntKind.u64.wrap (2 ^ (k % 64)))))) 1)
        have hfr := Lib.hid ((own_from ho2).len (shortN zs))
        clear hs hsb hzs hzl ho2 hrd
        go_wp2_with fail
        go_ret
        exact ⟨_, _, rfl, hr.out, hp.out, hfr.out, hb9.out⟩
end Go.Proofs.YtcaboknbdamlhaaGreatDoor
