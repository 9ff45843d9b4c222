/- The walks of both, And, Or, Less, and of Same. -/
import Derived.Test.YtibmjednieopfaaDoorBitPut
set_option linter.unusedVariables false
set_option linter.unusedSimpArgs false
namespace Go.Proofs.YtibmjednieopfaaDoor
open Go.RowKit
theorem band_ok (x y : Int) (w : World) : Calls Tryd.prog 33 #[.int .u64 x, .int .u64 y] w fun e w' => e = .returned (.int .u64 (bits .and .u64 x y)) ∧ w = w' := by
  go_enter Tryd.func33, Tryd.ntmps33
  go_wp2
  go_ret
  exact ⟨rfl, rfl⟩
theorem bor_ok (x y : Int) (w : World) : Calls Tryd.prog 34 #[.int .u64 x, .int .u64 y] w fun e w' => e = .returned (.int .u64 (bits .or .u64 x y)) ∧ w = w' := by
  go_enter Tryd.func34, Tryd.ntmps34
  go_wp2
  go_ret
  exact ⟨rfl, rfl⟩
theorem bless_ok (x y : Int) (w : World) : Calls Tryd.prog 35 #[.int .u64 x, .int .u64 y] w fun e w' => e = .returned (.int .u64 (bits .andNot .u64 x y)) ∧ w = w' := by
  go_enter Tryd.func35, Tryd.ntmps35
  go_wp2
  go_ret
  exact ⟨rfl, rfl⟩
def BothB (op : BinOp) (xs ys zs : List Int) : Prop := U64 zs ∧ Short zs ∧ (zs.length ≤ xs.length ∨ zs.length ≤ ys.length) ∧ ∀ j, bitAt zs j = op3 op (bitAt xs j) (bitAt ys j)
theorem op3_ff {op : BinOp} : op3 op false false = false := by
  unfold op3
  split <;> rfl
theorem both_snoc {op : BinOp} (h : op = .and ∨ op = .or ∨ op = .andNot) {xs ys zs : List Int} (hx : U64 xs) (hy : U64 ys) (hz : U64 zs) (hb : ∀ j, j < 64 * zs.length → bitAt zs j = op3 op (bitAt xs j) (bitAt ys j)) :
    U64 (zs ++ [bits op .u64 (xs.getD zs.length 0) (ys.getD zs.length 0)]) ∧ ∀ j, j < 64 * (zs.length + 1) → bitAt (zs ++ [bits op .u64 (xs.getD zs.length 0) (ys.getD zs.length 0)]) j = op3 op (bitAt xs j) (bitAt ys j) := by
  have hw := bits_u64 op h (hx.getD zs.length) (hy.getD zs.length)
  refine ⟨hz.append fun x hx' => by rw [List.mem_singleton.1 hx']; exact hw.1, fun j hj => ?_⟩
  rcases Nat.lt_or_ge j (64 * zs.length) with h1 | h1
  · rw [← hb j h1]
    unfold bitAt
    simp only [List.getD]
    rw [List.getElem?_append_left (by omega)]
  · have e : j = 64 * zs.length + (j - 64 * zs.length) := by omega
    rw [e, bitAt_word _ _ _ (by omega), bitAt_word _ _ _ (by omega), bitAt_word _ _ _ (by omega), ← hw.2 _ (by omega)]
    simp [List.getD]
set_option maxHeartbeats 800000 in
theorem both_band (u v : Value) (xs ys : List Int) (w : World) (hu : Rd u64e w u xs) (hv : Rd u64e w v ys) (hlx : xs.length ≤ 1099511627776) (hly : ys.length ≤ 1099511627776) (hux : U64 xs) (huy : U64 ys) :
    Calls Tryd.prog 32 #[u, v, .func (.func 33) #[] #[]] w fun e w' => ∃ v' zs, e = .returned v' ∧ Rd u64e w' v' zs ∧ BothB .and xs ys zs ∧ From w.heap.size v' ∧ Below w.heap.size w w' := by
  obtain ⟨A, c, rfl, _⟩ := hu.len
  obtain ⟨A2, c2, rfl, _⟩ := hv.len
  have HX := Lib.hid hux
  have HY := Lib.hid huy
  have RX := Lib.hid hu
  have RY := Lib.hid hv
  clear hux huy hu hv
  obtain ⟨n, hn⟩ : ∃ n : Nat, n = max xs.length ys.length := ⟨_, rfl⟩
  have hif : (if xs.length < ys.length then ((ys.length : Nat) : Int) else ((xs.length : Nat) : Int)) = (n : Int) := by split <;> omega
  have hn1 : xs.length ≤ n := by omega
  have hn2 : ys.length ≤ n := by omega
  have hn3 : n ≤ 1099511627776 := by omega
  have HN := Lib.hid hn
  clear hn
  go_enter Tryd.func32, Tryd.ntmps32
  go_wp2_with fail
  go_loopw [7, 8, 14] (fun o x i wr => ∃ (k : Nat) (zs : List Int) (A' : Option Addr) (c' : Nat), k ≤ n ∧ i = .int .i64 k ∧ o = .slice A' zs.length c' ∧ zs.length = k ∧ Hid (U64 zs) ∧ Hid (∀ j, j < 64 * zs.length → bitAt zs j = op3 .and (bitAt xs j) (bitAt ys j)) ∧ Hid (wr.ownsRow w.heap.size 45 1 (.slice A' zs.length c') zs.length (zs.map u64e)) ∧ Below w.heap.size w wr) (fun _ _ i _ => n - (intOf i).toNat)
  case atStart => exact ⟨0, [], none, 0, by omega, rfl, rfl, rfl, Lib.hid U64.nil, Lib.hid fun j hj => by simp at hj, Lib.hid (World.ownsRow_nil _ _ _ _), Below.refl _ _⟩
  case round =>
    obtain ⟨k, zs, A', c', hk, rfl, rfl, hzl, hU, hB, hown, hb⟩ := hrel
    subst hzl
    by_cases hlt : zs.length < n
    · have hz : w.heap.size ≤ wr.heap.size := hb.size
      have hsn := both_snoc (by simp) HX.out HY.out hU.out hB.out
      have RX' := Lib.hid (RX.out.below hb)
      have RY' := Lib.hid (RY.out.below hb)
      obtain ⟨z, hz1⟩ : ∃ z, z = bits .and .u64 (xs.getD zs.length 0) (ys.getD zs.length 0) := ⟨_, rfl⟩
      rw [← hz1] at hsn
      have hf := band_ok (xs.getD zs.length 0) (ys.getD zs.length 0) wr
      rw [← hz1] at hf
      have hf := Lib.hid hf
      have hU' := Lib.hid hsn.1
      have hB' := Lib.hid hsn.2
      clear hz1 hsn
      go_wp2_with fail
      refine (at_ok _ xs zs.length _ RX'.out hlx (by omega)).mono ?_
      rintro e w' ⟨rfl, rfl⟩
      go_wp2_with fail
      refine (at_ok _ ys zs.length _ RY'.out hly (by omega)).mono ?_
      rintro e w' ⟨rfl, rfl⟩
      go_wp2_with fail
      refine hf.out.mono ?_
      rintro e w' ⟨rfl, rfl⟩
      go_wp2_with (at_builtin; refine wpList_push rfl (.tmp 17) (.tmp 26) _ rfl w.heap.size 45 _ 8 Tryd.underlying27 u64_info rfl _ _ _ rfl hown.out _ rfl rfl (by unfold maxLen; omega) (by omega) hz ?_; intro v' w2 hown' hg hat)
      have hn' := own_grow hown'
      obtain ⟨A3, c3, rfl, -⟩ := own_form hown'
      have hn' := Lib.hid hn'
      have hb' := hb.grown hg hz (fun g e => (hown.out.lt g e).1)
      have hl' : (zs ++ [z]).length = zs.length + 1 := by simp
      have hl' := Lib.hid hl'
      clear hown' hg hat
      go_wp2_with fail
      go_roundw
      case rel => exact ⟨zs.length + 1, zs ++ [z], A3, c3, by omega, by go_num, by rw [hl'.out], hl'.out, hU', Lib.hid (by rw [hl'.out]; exact hB'.out), Lib.hid (by have h := hn'.out; rw [hl'.out] at h ⊢; exact h), hb'⟩
      case measure => simp [intOf]; omega
    · have hge : decide (((zs.length : Nat) : Int) < (n : Int)) = false := by rw [decide_eq_false_iff_not]; omega
      have hr := Lib.hid (Rd.of_own (enc := u64e) hown.out)
      have hfr := Lib.hid (own_from hown.out)
      have hl9 : zs.length ≤ 1099511627776 := by omega
      go_wp2_with fail
      refine (short_ok A' c' zs _ hr.out hl9).mono ?_
      rintro e w' ⟨rfl, rfl⟩
      go_wp2_with fail
      go_ret
      have hle := shortN_le zs
      refine ⟨_, zs.take (shortN zs), rfl, hr.out.take_to hle, ⟨hU.out.take _, short_take _, ?_, fun j => ?_⟩, hfr.out.len _, hb⟩
      · have := HN.out
        rw [List.length_take]; omega
      · rw [bitAt_take]
        rcases Nat.lt_or_ge j (64 * zs.length) with h1 | h1
        · exact hB.out j h1
        · rw [bitAt_top h1, bitAt_top (xs := xs) (by omega), bitAt_top (xs := ys) (by omega), op3_ff]
set_option maxHeartbeats 800000 in
theorem both_bor (u v : Value) (xs ys : List Int) (w : World) (hu : Rd u64e w u xs) (hv : Rd u64e w v ys) (hlx : xs.length ≤ 1099511627776) (hly : ys.length ≤ 1099511627776) (hux : U64 xs) (huy : U64 ys) :
    Calls Tryd.prog 32 #[u, v, .func (.func 34) #[] #[]] w fun e w' => ∃ v' zs, e = .returned v' ∧ Rd u64e w' v' zs ∧ BothB .or xs ys zs ∧ From w.heap.size v' ∧ Below w.heap.size w w' := by
  obtain ⟨A, c, rfl, _⟩ := hu.len
  obtain ⟨A2, c2, rfl, _⟩ := hv.len
  have HX := Lib.hid hux
  have HY := Lib.hid huy
  have RX := Lib.hid hu
  have RY := Lib.hid hv
  clear hux huy hu hv
  obtain ⟨n, hn⟩ : ∃ n : Nat, n = max xs.length ys.length := ⟨_, rfl⟩
  have hif : (if xs.length < ys.length then ((ys.length : Nat) : Int) else ((xs.length : Nat) : Int)) = (n : Int) := by split <;> omega
  have hn1 : xs.length ≤ n := by omega
  have hn2 : ys.length ≤ n := by omega
  have hn3 : n ≤ 1099511627776 := by omega
  have HN := Lib.hid hn
  clear hn
  go_enter Tryd.func32, Tryd.ntmps32
  go_wp2_with fail
  go_loopw [7, 8, 14] (fun o x i wr => ∃ (k : Nat) (zs : List Int) (A' : Option Addr) (c' : Nat), k ≤ n ∧ i = .int .i64 k ∧ o = .slice A' zs.length c' ∧ zs.length = k ∧ Hid (U64 zs) ∧ Hid (∀ j, j < 64 * zs.length → bitAt zs j = op3 .or (bitAt xs j) (bitAt ys j)) ∧ Hid (wr.ownsRow w.heap.size 45 1 (.slice A' zs.length c') zs.length (zs.map u64e)) ∧ Below w.heap.size w wr) (fun _ _ i _ => n - (intOf i).toNat)
  case atStart => exact ⟨0, [], none, 0, by omega, rfl, rfl, rfl, Lib.hid U64.nil, Lib.hid fun j hj => by simp at hj, Lib.hid (World.ownsRow_nil _ _ _ _), Below.refl _ _⟩
  case round =>
    obtain ⟨k, zs, A', c', hk, rfl, rfl, hzl, hU, hB, hown, hb⟩ := hrel
    subst hzl
    by_cases hlt : zs.length < n
    · have hz : w.heap.size ≤ wr.heap.size := hb.size
      have hsn := both_snoc (by simp) HX.out HY.out hU.out hB.out
      have RX' := Lib.hid (RX.out.below hb)
      have RY' := Lib.hid (RY.out.below hb)
      obtain ⟨z, hz1⟩ : ∃ z, z = bits .or .u64 (xs.getD zs.length 0) (ys.getD zs.length 0) := ⟨_, rfl⟩
      rw [← hz1] at hsn
      have hf := bor_ok (xs.getD zs.length 0) (ys.getD zs.length 0) wr
      rw [← hz1] at hf
      have hf := Lib.hid hf
      have hU' := Lib.hid hsn.1
      have hB' := Lib.hid hsn.2
      clear hz1 hsn
      go_wp2_with fail
      refine (at_ok _ xs zs.length _ RX'.out hlx (by omega)).mono ?_
      rintro e w' ⟨rfl, rfl⟩
      go_wp2_with fail
      refine (at_ok _ ys zs.length _ RY'.out hly (by omega)).mono ?_
      rintro e w' ⟨rfl, rfl⟩
      go_wp2_with fail
      refine hf.out.mono ?_
      rintro e w' ⟨rfl, rfl⟩
      go_wp2_with (at_builtin; refine wpList_push rfl (.tmp 17) (.tmp 26) _ rfl w.heap.size 45 _ 8 Tryd.underlying27 u64_info rfl _ _ _ rfl hown.out _ rfl rfl (by unfold maxLen; omega) (by omega) hz ?_; intro v' w2 hown' hg hat)
      have hn' := own_grow hown'
      obtain ⟨A3, c3, rfl, -⟩ := own_form hown'
      have hn' := Lib.hid hn'
      have hb' := hb.grown hg hz (fun g e => (hown.out.lt g e).1)
      have hl' : (zs ++ [z]).length = zs.length + 1 := by simp
      have hl' := Lib.hid hl'
      clear hown' hg hat
      go_wp2_with fail
      go_roundw
      case rel => exact ⟨zs.length + 1, zs ++ [z], A3, c3, by omega, by go_num, by rw [hl'.out], hl'.out, hU', Lib.hid (by rw [hl'.out]; exact hB'.out), Lib.hid (by have h := hn'.out; rw [hl'.out] at h ⊢; exact h), hb'⟩
      case measure => simp [intOf]; omega
    · have hge : decide (((zs.length : Nat) : Int) < (n : Int)) = false := by rw [decide_eq_false_iff_not]; omega
      have hr := Lib.hid (Rd.of_own (enc := u64e) hown.out)
      have hfr := Lib.hid (own_from hown.out)
      have hl9 : zs.length ≤ 1099511627776 := by omega
      go_wp2_with fail
      refine (short_ok A' c' zs _ hr.out hl9).mono ?_
      rintro e w' ⟨rfl, rfl⟩
      go_wp2_with fail
      go_ret
      have hle := shortN_le zs
      refine ⟨_, zs.take (shortN zs), rfl, hr.out.take_to hle, ⟨hU.out.take _, short_take _, ?_, fun j => ?_⟩, hfr.out.len _, hb⟩
      · have := HN.out
        rw [List.length_take]; omega
      · rw [bitAt_take]
        rcases Nat.lt_or_ge j (64 * zs.length) with h1 | h1
        · exact hB.out j h1
        · rw [bitAt_top h1, bitAt_top (xs := xs) (by omega), bitAt_top (xs := ys) (by omega), op3_ff]
set_option maxHeartbeats 800000 in
theorem both_bless (u v : Value) (xs ys : List Int) (w : World) (hu : Rd u64e w u xs) (hv : Rd u64e w v ys) (hlx : xs.length ≤ 1099511627776) (hly : ys.length ≤ 1099511627776) (hux : U64 xs) (huy : U64 ys) :
    Calls Tryd.prog 32 #[u, v, .func (.func 35) #[] #[]] w fun e w' => ∃ v' zs, e = .returned v' ∧ Rd u64e w' v' zs ∧ BothB .andNot xs ys zs ∧ From w.heap.size v' ∧ Below w.heap.size w w' := by
  obtain ⟨A, c, rfl, _⟩ := hu.len
  obtain ⟨A2, c2, rfl, _⟩ := hv.len
  have HX := Lib.hid hux
  have HY := Lib.hid huy
  have RX := Lib.hid hu
  have RY := Lib.hid hv
  clear hux huy hu hv
  obtain ⟨n, hn⟩ : ∃ n : Nat, n = max xs.length ys.length := ⟨_, rfl⟩
  have hif : (if xs.length < ys.length then ((ys.length : Nat) : Int) else ((xs.length : Nat) : Int)) = (n : Int) := by split <;> omega
  have hn1 : xs.length ≤ n := by omega
  have hn2 : ys.length ≤ n := by omega
  have hn3 : n ≤ 1099511627776 := by omega
  have HN := Lib.hid hn
  clear hn
  go_enter Tryd.func32, Tryd.ntmps32
  go_wp2_with fail
  go_loopw [7, 8, 14] (fun o x i wr => ∃ (k : Nat) (zs : List Int) (A' : Option Addr) (c' : Nat), k ≤ n ∧ i = .int .i64 k ∧ o = .slice A' zs.length c' ∧ zs.length = k ∧ Hid (U64 zs) ∧ Hid (∀ j, j < 64 * zs.length → bitAt zs j = op3 .andNot (bitAt xs j) (bitAt ys j)) ∧ Hid (wr.ownsRow w.heap.size 45 1 (.slice A' zs.length c') zs.length (zs.map u64e)) ∧ Below w.heap.size w wr) (fun _ _ i _ => n - (intOf i).toNat)
  case atStart => exact ⟨0, [], none, 0, by omega, rfl, rfl, rfl, Lib.hid U64.nil, Lib.hid fun j hj => by simp at hj, Lib.hid (World.ownsRow_nil _ _ _ _), Below.refl _ _⟩
  case round =>
    obtain ⟨k, zs, A', c', hk, rfl, rfl, hzl, hU, hB, hown, hb⟩ := hrel
    subst hzl
    by_cases hlt : zs.length < n
    · have hz : w.heap.size ≤ wr.heap.size := hb.size
      have hsn := both_snoc (by simp) HX.out HY.out hU.out hB.out
      have RX' := Lib.hid (RX.out.below hb)
      have RY' := Lib.hid (RY.out.below hb)
      obtain ⟨z, hz1⟩ : ∃ z, z = bits .andNot .u64 (xs.getD zs.length 0) (ys.getD zs.length 0) := ⟨_, rfl⟩
      rw [← hz1] at hsn
      have hf := bless_ok (xs.getD zs.length 0) (ys.getD zs.length 0) wr
      rw [← hz1] at hf
      have hf := Lib.hid hf
      have hU' := Lib.hid hsn.1
      have hB' := Lib.hid hsn.2
      clear hz1 hsn
      go_wp2_with fail
      refine (at_ok _ xs zs.length _ RX'.out hlx (by omega)).mono ?_
      rintro e w' ⟨rfl, rfl⟩
      go_wp2_with fail
      refine (at_ok _ ys zs.length _ RY'.out hly (by omega)).mono ?_
      rintro e w' ⟨rfl, rfl⟩
      go_wp2_with fail
      refine hf.out.mono ?_
      rintro e w' ⟨rfl, rfl⟩
      go_wp2_with (at_builtin; refine wpList_push rfl (.tmp 17) (.tmp 26) _ rfl w.heap.size 45 _ 8 Tryd.underlying27 u64_info rfl _ _ _ rfl hown.out _ rfl rfl (by unfold maxLen; omega) (by omega) hz ?_; intro v' w2 hown' hg hat)
      have hn' := own_grow hown'
      obtain ⟨A3, c3, rfl, -⟩ := own_form hown'
      have hn' := Lib.hid hn'
      have hb' := hb.grown hg hz (fun g e => (hown.out.lt g e).1)
      have hl' : (zs ++ [z]).length = zs.length + 1 := by simp
      have hl' := Lib.hid hl'
      clear hown' hg hat
      go_wp2_with fail
      go_roundw
      case rel => exact ⟨zs.length + 1, zs ++ [z], A3, c3, by omega, by go_num, by rw [hl'.out], hl'.out, hU', Lib.hid (by rw [hl'.out]; exact hB'.out), Lib.hid (by have h := hn'.out; rw [hl'.out] at h ⊢; exact h), hb'⟩
      case measure => simp [intOf]; omega
    · have hge : decide (((zs.length : Nat) : Int) < (n : Int)) = false := by rw [decide_eq_false_iff_not]; omega
      have hr := Lib.hid (Rd.of_own (enc := u64e) hown.out)
      have hfr := Lib.hid (own_from hown.out)
      have hl9 : zs.length ≤ 1099511627776 := by omega
      go_wp2_with fail
      refine (short_ok A' c' zs _ hr.out hl9).mono ?_
      rintro e w' ⟨rfl, rfl⟩
      go_wp2_with fail
      go_ret
      have hle := shortN_le zs
      refine ⟨_, zs.take (shortN zs), rfl, hr.out.take_to hle, ⟨hU.out.take _, short_take _, ?_, fun j => ?_⟩, hfr.out.len _, hb⟩
      · have := HN.out
        rw [List.length_take]; omega
      · rw [bitAt_take]
        rcases Nat.lt_or_ge j (64 * zs.length) with h1 | h1
        · exact hB.out j h1
        · rw [bitAt_top h1, bitAt_top (xs := xs) (by omega), bitAt_top (xs := ys) (by omega), op3_ff]
theorem and_ok (u v : Value) (xs ys : List Int) (w : World) (hu : Rd u64e w u xs) (hv : Rd u64e w v ys) (hlx : xs.length ≤ 1099511627776) (hly : ys.length ≤ 1099511627776) (hux : U64 xs) (huy : U64 ys) :
    Calls Tryd.prog 21 #[u, v] w fun e w' => ∃ v' zs, e = .returned v' ∧ Rd u64e w' v' zs ∧ BothB .and xs ys zs ∧ From w.heap.size v' ∧ Below w.heap.size w w' := by
  go_enter Tryd.func21, Tryd.ntmps21
  go_wp2_with fail
  refine (both_band u v xs ys _ hu hv hlx hly hux huy).mono ?_
  rintro e w' ⟨v', zs, rfl, h1, h2, h3, h4⟩
  have h3 := Lib.hid h3
  go_wp2_with fail
  go_ret
  exact ⟨_, _, rfl, h1, h2, h3.out, h4⟩
theorem or_ok (u v : Value) (xs ys : List Int) (w : World) (hu : Rd u64e w u xs) (hv : Rd u64e w v ys) (hlx : xs.length ≤ 1099511627776) (hly : ys.length ≤ 1099511627776) (hux : U64 xs) (huy : U64 ys) :
    Calls Tryd.prog 22 #[u, v] w fun e w' => ∃ v' zs, e = .returned v' ∧ Rd u64e w' v' zs ∧ BothB .or xs ys zs ∧ From w.heap.size v' ∧ Below w.heap.size w w' := by
  go_enter Tryd.func22, Tryd.ntmps22
  go_wp2_with fail
  refine (both_bor u v xs ys _ hu hv hlx hly hux huy).mono ?_
  rintro e w' ⟨v', zs, rfl, h1, h2, h3, h4⟩
  have h3 := Lib.hid h3
  go_wp2_with fail
  go_ret
  exact ⟨_, _, rfl, h1, h2, h3.out, h4⟩
theorem less_ok (u v : Value) (xs ys : List Int) (w : World) (hu : Rd u64e w u xs) (hv : Rd u64e w v ys) (hlx : xs.length ≤ 1099511627776) (hly : ys.length ≤ 1099511627776) (hux : U64 xs) (huy : U64 ys) :
    Calls Tryd.prog 23 #[u, v] w fun e w' => ∃ v' zs, e = .returned v' ∧ Rd u64e w' v' zs ∧ BothB .andNot xs ys zs ∧ From w.heap.size v' ∧ Below w.heap.size w w' := by
  go_enter Tryd.func23, Tryd.ntmps23
  go_wp2_with fail
  refine (both_bless u v xs ys _ hu hv hlx hly hux huy).mono ?_
  rintro e w' ⟨v', zs, rfl, h1, h2, h3, h4⟩
  have h3 := Lib.hid h3
  go_wp2_with fail
  go_ret
  exact ⟨_, _, rfl, h1, h2, h3.out, h4⟩

/-- Two slices of words are equal, word by word. -/
theorem equal_ok (u v : Value) (xs ys : List Int) (w : World) (hu : Rd u64e w u xs) (hv : Rd u64e w v ys) (hlx : xs.length ≤ 1099511627776) (hly : ys.length ≤ 1099511627776) :
    Calls Tryd.prog 36 #[u, v] w fun e w' => e = .returned (.bool (decide (xs = ys))) ∧ Below w.heap.size w w' := by
  obtain ⟨A, c, rfl, _⟩ := hu.len
  obtain ⟨A2, c2, rfl, _⟩ := hv.len
  by_cases hl : xs.length = ys.length
  · have hn : (((xs.length : Nat) : Int) != ((ys.length : Nat) : Int)) = false := by rw [hl]; exact bne_self_eq_false _
    have RX := Lib.hid hu
    have RY := Lib.hid hv
    have HL := Lib.hid hl
    clear hu hv hl
    go_enter Tryd.func36, Tryd.ntmps36
    go_wp2_with fail
    go_loopw [5, 13] (fun x i wr => ∃ k : Nat, k ≤ xs.length ∧ i = .int .i64 k ∧ Hid (xs.take k = ys.take k) ∧ Below w.heap.size w wr) (fun _ i _ => xs.length - (intOf i).toNat)
    case atStart => exact ⟨0, by omega, rfl, Lib.hid rfl, Below.refl _ _⟩
    case round =>
      obtain ⟨k, hk, rfl, he, hb⟩ := hrel
      by_cases hlt : k < xs.length
      · have hlt2 : k < ys.length := by have := HL.out; omega
        obtain ⟨b, o, rfl, _, hc⟩ := (RX.out.below hb).at_ hlt
        obtain ⟨b2, o2, rfl, _, hc2⟩ := (RY.out.below hb).at_ hlt2
        have q0 : (0 : Int) ≤ (k : Int) := by omega
        have q1 : (k : Int) < ((xs.length : Nat) : Int) := by omega
        have q2 : (k : Int) < ((ys.length : Nat) : Int) := by omega
        have hte : xs.take (k + 1) = ys.take (k + 1) ↔ xs[k] = ys[k] := by
          rw [List.take_succ_eq_append_getElem hlt, List.take_succ_eq_append_getElem hlt2, he.out]
          exact ⟨fun h => by simpa using List.append_cancel_left h, fun h => by rw [h]⟩
        have hte := Lib.hid hte
        by_cases hx : xs[k] = ys[k]
        · have hb1 : (xs[k] != ys[k]) = false := by rw [hx]; exact bne_self_eq_false _
          have he' := Lib.hid (hte.out.2 hx)
          clear hx he
          go_wp2_with fail
          go_quiet (fail)
          go_wp2_with fail
          go_roundw
          case rel => exact ⟨k + 1, by omega, by go_num, he', below_drewN hb _⟩
          case measure => simp [intOf]; omega
        · have hb1 : (xs[k] != ys[k]) = true := by rw [bne_iff_ne]; exact hx
          have hne : Hid (decide (xs = ys) = false) := Lib.hid (by rw [decide_eq_false_iff_not]; intro e; exact hx (hte.out.1 (by rw [e])))
          clear hx he
          go_wp2_with fail
          go_quiet (fail)
          go_wp2_with fail
          go_ret
          exact ⟨ret_bool hne.out.symm, below_drewN hb _⟩
      · have hge : decide ((k : Int) < ((xs.length : Nat) : Int)) = false := by rw [decide_eq_false_iff_not]; omega
        have hne : Hid (decide (xs = ys) = true) := Lib.hid (by
          rw [decide_eq_true_iff]
          have h1 := he.out
          rw [List.take_of_length_le (by omega), List.take_of_length_le (by have := HL.out; omega)] at h1
          exact h1)
        go_wp2_with fail
        go_ret
        exact ⟨ret_bool hne.out.symm, hb⟩
  · have hn : (((xs.length : Nat) : Int) != ((ys.length : Nat) : Int)) = true := by rw [bne_iff_ne]; omega
    have hne : Hid (decide (xs = ys) = false) := Lib.hid (by rw [decide_eq_false_iff_not]; intro e; exact hl (by rw [e]))
    clear hl
    go_enter Tryd.func36, Tryd.ntmps36
    go_wp2_with fail
    go_ret
    exact ⟨ret_bool hne.out.symm, Below.refl _ _⟩
/-- Have two sets the same numbers? -/
noncomputable def sameB (xs ys : List Int) : Bool := decide (xs.take (shortN xs) = ys.take (shortN ys))
theorem same_ok (u v : Value) (xs ys : List Int) (w : World) (hu : Rd u64e w u xs) (hv : Rd u64e w v ys) (hlx : xs.length ≤ 1099511627776) (hly : ys.length ≤ 1099511627776) :
    Calls Tryd.prog 24 #[u, v] w fun e w' => e = .returned (.bool (sameB xs ys)) ∧ Below w.heap.size w w' := by
  obtain ⟨A, c, rfl, _⟩ := hu.len
  obtain ⟨A2, c2, rfl, _⟩ := hv.len
  have h1 := shortN_le xs
  have h2 := shortN_le ys
  have ht1 : (xs.take (shortN xs)).length = shortN xs := by rw [List.length_take]; omega
  have ht2 : (ys.take (shortN ys)).length = shortN ys := by rw [List.length_take]; omega
  have HE := Lib.hid (equal_ok _ _ _ _ w (hu.take_to h1) (hv.take_to h2) (by omega) (by omega))
  clear ht1 ht2 h1 h2
  go_enter Tryd.func24, Tryd.ntmps24
  go_wp2_with fail
  refine (short_ok A c xs _ hu hlx).mono ?_
  rintro e w' ⟨rfl, rfl⟩
  go_wp2_with fail
  refine (short_ok A2 c2 ys _ hv hly).mono ?_
  rintro e w' ⟨rfl, rfl⟩
  go_wp2_with fail
  refine HE.out.mono ?_
  rintro e w' ⟨rfl, hb⟩
  go_wp2_with fail
  go_ret
  exact ⟨rfl, hb⟩
end Go.Proofs.YtibmjednieopfaaDoor
