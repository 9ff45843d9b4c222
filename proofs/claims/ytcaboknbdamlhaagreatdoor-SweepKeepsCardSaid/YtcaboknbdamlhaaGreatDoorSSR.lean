/- Joined: SweepRef, SweepRefB, SweepRefC, SweepRefD, SweepWorld, SweepDoesH. -/
import Derived.Test.YtcaboknbdamlhaaGreatDoorSSA
import Derived.Test.YtcaboknbdamlhaaGreatDoorHRR
import Derived.Deep.QuietTactic
import Derived.BigQuiet
import Derived.Test.YtcaboknbdamlhaaGreatDoorHeapAlive
import Derived.Test.YtcaboknbdamlhaaGreatDoorSSP
import Derived.Test.YtcaboknbdamlhaaGreatDoorMMA
set_option linter.unusedVariables false
set_option linter.unusedSimpArgs false
namespace Go.Proofs.YtcaboknbdamlhaaGreatDoor
open Go.RowKit Go.Shelf
/-- The document's store. -/
structure DS where
  S : HS
  greys : List Int
  black : List Int
  ph : Int
  left : List Int
  cyc : Int
/-- Its slices. -/
structure V18 where
  vw : Value
  vc : Value
  f : Nat → Value
  vo : Value
  vg : Value
  vb : Value
  vl : Value
def c18 (V : V18) (ph cyc : Int) : Array Value := #[V.vw, V.vc, V.f 0, V.f 1, V.f 2, V.f 3, V.vo, V.vg, V.vb, .int .i64 ph, V.vl, .int .i64 cyc]
def n18 : Array Value := #[.slice none 0 0, .slice none 0 0, .slice none 0 0, .slice none 0 0, .slice none 0 0, .slice none 0 0, .slice none 0 0, .slice none 0 0, .slice none 0 0, .int .i64 0, .slice none 0 0, .int .i64 0]
theorem r18_size : (Tryz.prog.info? 42).map (·.size) = some 12 := by kernel_rfl
structure XV (Q : Nat → Prop) (w : World) (D : DS) (V : V18) : Prop where
  rin : RIn Q w D.S V.vw V.vc V.f V.vo
  gr : RdG Q i64e w V.vg D.greys
  bl : RdG Q i64e w V.vb D.black
  lf : RdG Q i64e w V.vl D.left
theorem rd_own_lt {w : World} {v : Value} {xs : List Int} (h : Rd i64e w v xs) (hp : 0 < xs.length) {b : Nat} (e : v.ownBlock = some b) : b < w.heap.size := by
  obtain ⟨A, c, rfl, -⟩ := h.len
  obtain ⟨b', o, rfl, hlt, _⟩ := h.at_ hp
  have : b' = b := by simpa [Value.ownBlock] using e
  omega
theorem rdc_own_lt {w : World} {v : Value} {xs : List (Int × Int × Int)} (h : RdC 3 objC w v xs) (hp : 0 < xs.length) {b : Nat} (e : v.ownBlock = some b) : b < w.heap.size := by
  obtain ⟨A, c, rfl, -⟩ := h.len
  obtain ⟨b', o, rfl, hlt, _⟩ := h.at_ hp
  have : b' = b := by simpa [Value.ownBlock] using e
  omega
section
variable {Q Q' : Nat → Prop} {w w' : World} {S : HS} {vw vc vo : Value} {f : Nat → Value} {D : DS} {V : V18}
/-- Where Q's blocks lie as they lay. -/
theorem RIn.keepQ (H : RIn Q w S vw vc f vo) (hs : w.heap.size ≤ w'.heap.size) (hk : ∀ b, Q b → b < w.heap.size → w'.heap[b]? = w.heap[b]?) (hQ : ∀ b, Q b → b < w.heap.size → Q' b) : RIn Q' w' S vw vc f vo :=
  ⟨H.words.keep hs fun hp b e hlt => hk b (H.qw hp b e) hlt, H.cls.keep hs fun hp b e hlt => hk b (H.qc hp b e) hlt,
    fun j hj => (H.fr j hj).keep hs fun hp b e hlt => hk b (H.qf j hj hp b e) hlt, H.objs.keep0 hs fun hp b e hlt => hk b (H.qo hp b e) hlt,
    fun hp b e => hQ b (H.qw hp b e) (rd_own_lt H.words hp e), fun hp b e => hQ b (H.qc hp b e) (rd_own_lt H.cls hp e),
    fun j hj hp b e => hQ b (H.qf j hj hp b e) (rd_own_lt (H.fr j hj) hp e), fun hp b e => hQ b (H.qo hp b e) (rdc_own_lt H.objs hp e)⟩
theorem RdG.keepQ {v : Value} {xs : List Int} (h : RdG Q i64e w v xs) (hs : w.heap.size ≤ w'.heap.size) (hk : ∀ b, Q b → b < w.heap.size → w'.heap[b]? = w.heap[b]?) (hQ : ∀ b, Q b → b < w.heap.size → Q' b) : RdG Q' i64e w' v xs :=
  ⟨(h.keep hs hk).rd, fun hp b e => hQ b (h.inP hp b e) (rd_own_lt h.rd hp e)⟩
theorem XV.keepQ (H : XV Q w D V) (hs : w.heap.size ≤ w'.heap.size) (hk : ∀ b, Q b → b < w.heap.size → w'.heap[b]? = w.heap[b]?) (hQ : ∀ b, Q b → b < w.heap.size → Q' b) : XV Q' w' D V :=
  ⟨H.rin.keepQ hs hk hQ, H.gr.keepQ hs hk hQ, H.bl.keepQ hs hk hQ, H.lf.keepQ hs hk hQ⟩
theorem XV.below (H : XV Q w D V) (hb : Below w.heap.size w w') : XV Q w' D V := H.keepQ hb.size (fun b _ hlt => hb.block b hlt) fun _ h _ => h
theorem XV.lt (H : XV Q w D V) : XV (fun b => Q b ∧ b < w.heap.size) w D V := H.keepQ (Nat.le_refl _) (fun _ _ _ => rfl) fun _ h hlt => ⟨h, hlt⟩
theorem XV.mono (H : XV Q w D V) (hQ : ∀ b, Q b → Q' b) : XV Q' w D V := H.keepQ (Nat.le_refl _) (fun _ _ _ => rfl) fun b h _ => hQ b h
theorem XV.one (H : XV Q w D V) (ph cyc : Int) : (c18 V ph cyc).all (·.oneCell') = true := by
  have h1 := slices_one H.rin.slices
  obtain ⟨A2, c2, e2, -⟩ := H.gr.rd.len
  obtain ⟨A3, c3, e3, -⟩ := H.bl.rd.len
  obtain ⟨A4, c4, e4, -⟩ := H.lf.rd.len
  simp only [rcells, c18, List.all_toArray, List.all_cons, List.all_nil, Bool.and_true, Bool.and_eq_true] at h1 ⊢
  rw [e2, e3, e4]
  simpa [Value.oneCell'] using h1
end
set_option maxHeartbeats 3200000 in
set_option maxRecDepth 100000 in
theorem rhas18 (v : Value) (l : List Int) (x : Int) (w : World) (hv : Rd i64e w v l) (hl : l.length ≤ 4096) :
    Calls Tryz.prog 60 #[v, .int .i64 x] w fun e w' => e = .returned (.bool (decide (x ∈ l))) ∧ w = w' := by
  obtain ⟨A, c, rfl, -⟩ := hv.len
  have HV := Lib.hid hv
  clear hv
  obtain ⟨r, hr⟩ : ∃ r, decide (x ∈ l) = r := ⟨_, rfl⟩
  rw [hr]
  replace hr := Lib.hid hr
  obtain ⟨wz, hwz⟩ : ∃ wz, wz = w := ⟨_, rfl⟩
  rw [← hwz] at HV ⊢
  replace hwz := Lib.hid hwz
  go_enter Tryz.func60, Tryz.ntmps60
  go_wp2_with fail
  go_loopw [5] (fun i wr => ∃ j : Nat, j ≤ l.length ∧ i = .int .i64 j ∧ Hid (x ∉ l.take j) ∧ Hid (wz = wr)) (fun i _ => l.length - (intOf i).toNat)
  case atStart => exact ⟨0, by omega, rfl, Lib.hid (by simp), Lib.hid rfl⟩
  case round =>
    obtain ⟨j, hj, rfl, hno, hw⟩ := hrel
    have hw2 := hw.out
    subst hw2
    by_cases hlt : j < l.length
    · have t0 : (j : Int) < (l.length : Int) := by omega
      obtain ⟨b, o, rfl, _, hc⟩ := HV.out.at_ hlt
      obtain ⟨y, hy⟩ : ∃ y, l[j] = y := ⟨_, rfl⟩
      have htk : l.take (j + 1) = l.take j ++ [y] := by rw [take_snoc l hlt, hy]
      rw [hy] at hc
      replace hc : _ = some (Value.int IntKind.i64 y) := hc
      by_cases hx : y = x
      · have hr1 : r = true := by
          rw [← hr.out, decide_eq_true_iff, ← hx, ← hy]
          exact List.getElem_mem hlt
        subst hr1
        subst hx
        clear htk hy
        go_wp2_with fail
        go_ret
        exact ⟨rfl, rfl⟩
      · have hx2 : (y == x) = false := beq_eq_false_iff_ne.2 hx
        have hno2 : Hid (x ∉ l.take (j + 1)) := Lib.hid (by
          rw [htk, List.mem_append, List.mem_singleton]
          rintro (h | h)
          · exact hno.out h
          · exact hx h.symm)
        clear htk hy hx hno
        go_wp2_with fail
        go_roundw
        case rel => exact ⟨j + 1, by omega, by go_num, hno2, Lib.hid (by trivial)⟩
        case measure => simp [intOf]; omega
    · obtain rfl : j = l.length := by omega
      have hr1 : r = false := by
        rw [← hr.out, decide_eq_false_iff_not]
        have := hno.out
        rwa [List.take_length] at this
      subst hr1
      clear hno
      go_wp2_with fail
      go_ret
      exact ⟨rfl, rfl⟩
set_option maxHeartbeats 3200000 in
set_option maxRecDepth 100000 in
theorem rsize_ok {Q : Nat → Prop} (S : HS) (vw vc vo : Value) (f : Nat → Value) (w : World) (H : RIn Q w S vw vc f vo) (I : Inv0 S) (p : Int) :
    Calls Tryz.prog 63 #[.agg (rcells vw vc f vo), .int .i64 p] w fun e w' => e = .returned (.tuple #[.int .i64 (sSize S p).1, .int .u8 (sSize S p).2.1, .bool (sSize S p).2.2]) ∧ Below w.heap.size w w' := by
  have hlen := H.len0 I
  obtain ⟨Ao, co, rfl, -⟩ := H.objs.len
  have SZ := Lib.hid rh_size
  replace H := Lib.hid H
  obtain ⟨r, hr⟩ : ∃ r, r = sSize S p := ⟨_, rfl⟩
  rw [← hr]
  replace hr := Lib.hid hr
  replace I := Lib.hid I
  go_enter Tryz.func63, Tryz.ntmps63
  go_wp2_with (refine wpList_new rfl (.box 40 (.tmp 0)) rfl w.heap.size rfl 40 (rcells vw vc f (.slice Ao S.objs.length co)) (by kernel_rfl) ?_; intro w1 hs1 hb1 hB1; refine stop_here ?_)
  have HX := Lib.hid (show RBox Q w1 w.heap.size S vw vc f (.slice Ao S.objs.length co) from ⟨hB1, H.out.below hb1⟩)
  clear hs1 hB1
  refine go_on ?_
  go_wp2_with (refine wpList_load_blk rfl 40 (.tmp 2) rfl w.heap.size rfl 40 (rcells vw vc f (.slice Ao S.objs.length co)) HX.out.blk _ Tryz.underlying40 rfl SZ.out ?_)
  refine (rfind_ok S _ _ _ _ _ HX.out.rin p hlen.2.2).mono ?_
  rintro e w2 ⟨⟨at_, rfl, hat⟩, hb2⟩
  have HX2 := Lib.hid (HX.out.below hb2)
  have b2 := below_all hb1 hb2
  have c6 := HX2.out.cells.2.2.2.2.2.2
  clear HX hb2 hb1
  rcases hat with ⟨rfl, hno⟩ | ⟨k, hk, rfl, hp⟩
  · have hv : r = (0, 0, false) := by
      rw [hr.out, size_none hno]
    subst hv
    replace hno := Lib.hid hno
    go_wp2_with fail
    go_ret3
    exact ⟨rfl, b2⟩
  · obtain ⟨b, o, rfl, _, hc⟩ := HX2.out.rin.objs.at_ hk
    have c1 := hc 1 _ rfl
    have c2 := hc 2 _ rfl
    have hmem : S.objs[k] ∈ S.objs := List.getElem_mem hk
    have hsz := I.out.size hmem
    obtain ⟨oo, ho⟩ : ∃ oo, oo = S.objs[k] := ⟨_, rfl⟩
    rw [← ho] at c1 c2 hsz hp
    obtain ⟨q, n, mk⟩ := oo
    dsimp only at c1 c2 hsz hp
    subst hp
    have hv : r = (n, mk, true) := by rw [hr.out, hsz]
    subst hv
    have k0 : (0 : Int) ≤ (k : Int) := by omega
    have k1 : (k : Int) < (S.objs.length : Int) := by omega
    clear hc ho hmem hsz
    go_wp2_with fail
    go_quiet (fail)
    go_wp2_with fail
    go_ret3
    exact ⟨rfl, below_drewN b2 _⟩
section
variable {Q : Nat → Prop} {w : World} {D : DS} {V : V18}
set_option maxHeartbeats 3200000 in
set_option maxRecDepth 100000 in
theorem robj18 (H : XV Q w D V) (I : Inv0 D.S) (p : Int) :
    Calls Tryz.prog 56 #[.agg (c18 V D.ph D.cyc), .int .i64 p] w fun e w' => e = .returned (.bool (decide (p = 0 ∨ (sSize D.S p).2.2 = true))) ∧ Below w.heap.size w w' := by
  have SZ := Lib.hid r18_size
  have SZh := Lib.hid rh_size
  replace H := Lib.hid H
  replace I := Lib.hid I
  obtain ⟨r, hr⟩ : ∃ r, r = sSize D.S p := ⟨_, rfl⟩
  rw [← hr]
  replace hr := Lib.hid hr
  obtain ⟨n, mk, is⟩ := r
  dsimp only
  obtain ⟨a, ha⟩ : ∃ a, decide (p = 0 ∨ is = true) = a := ⟨_, rfl⟩
  rw [ha]
  replace ha := Lib.hid ha
  go_enter Tryz.func56, Tryz.ntmps56
  go_wp2_with (refine wpList_new rfl (.box 42 (.tmp 0)) rfl w.heap.size rfl 42 (c18 V D.ph D.cyc) (by kernel_rfl) ?_; intro w1 hs1 hb1 hB1; refine stop_here ?_)
  have hR := Lib.hid (show w1.rangeAt w.heap.size 0 [V.vw, V.vc, V.f 0, V.f 1, V.f 2, V.f 3, V.vo] from World.rangeAt_of_block hB1 0 7)
  have HS := Lib.hid (rsize_ok D.S _ _ _ _ w1 (H.out.below hb1).rin I.out p)
  rw [← hr.out] at HS
  dsimp only at HS
  clear hs1 hB1
  refine go_on ?_
  go_wp2_with (refine wpList_load_mid rfl 40 (.tmp 9) rfl w.heap.size 0 rfl [V.vw, V.vc, V.f 0, V.f 1, V.f 2, V.f 3, V.vo] _ hR.out Tryz.underlying40 rfl SZh.out ?_)
  refine HS.out.mono ?_
  rintro e w2 ⟨rfl, hb2⟩
  have b2 := below_all hb1 hb2
  clear HS hR hb1 hb2
  by_cases h0 : p = 0
  · subst h0
    go_wp2_with fail
    go_ret
    exact ⟨ret_bool (show true = a by rw [← ha.out]; simp), b2⟩
  · have z0 : (p == 0) = false := beq_eq_false_iff_ne.2 h0
    have hv : is = a := by rw [← ha.out]; cases is <;> simp [h0]
    subst hv
    go_wp2_with fail
    go_ret
    exact ⟨rfl, b2⟩
end
theorem and_one18 : ∀ n : Fin 256, (bits BinOp.and IntKind.u8 ((n.val : Nat) : Int) 1 == 0) = decide (((n.val : Nat) : Int) % 2 = 0) := by decide +kernel
theorem bit_mod (x : Int) (h0 : 0 ≤ x) (h1 : x ≤ 255) : (!(bits BinOp.and IntKind.u8 x 1 == 0)) = decide (x % 2 = 1) := by
  obtain ⟨n, rfl⟩ : ∃ n : Nat, x = (n : Int) := ⟨x.toNat, by omega⟩
  have := and_one18 ⟨n, by omega⟩
  dsimp only at this
  rw [this]
  by_cases h : (n : Int) % 2 = 0
  · rw [decide_eq_true h, decide_eq_false (by omega)]; rfl
  · rw [decide_eq_false h, decide_eq_true (by omega)]; rfl
theorem half_pow (m : Int) (j : Nat) : m / 2 ^ j / 2 = m / 2 ^ (j + 1) := by
  rw [Int.ediv_ediv_of_nonneg (by exact Int.pow_nonneg (by omega)), Int.pow_succ]
set_option maxHeartbeats 3200000 in
set_option maxRecDepth 100000 in
theorem rbit18 (mask : Int) (j : Nat) (hm : 0 ≤ mask ∧ mask ≤ 255) (hj : j ≤ 5) (w : World) :
    Calls Tryz.prog 64 #[.int .u8 mask, .int .i64 j] w fun e w' => e = .returned (.bool (mBit mask j)) ∧ w = w' := by
  obtain ⟨hm0, hm1⟩ := hm
  have key : ∀ i : Nat, 0 ≤ mask / 2 ^ i ∧ mask / 2 ^ i ≤ 255 := fun i => by
    have hp : (0 : Int) < 2 ^ i := Int.pow_pos (by omega)
    exact ⟨Int.ediv_nonneg hm0 (Int.le_of_lt hp), Int.le_trans (Int.ediv_le_self _ hm0) hm1⟩
  obtain ⟨r, hr⟩ : ∃ r, r = mBit mask j := ⟨_, rfl⟩
  rw [← hr]
  have hr2 : r = decide (mask / 2 ^ j % 2 = 1) := by
    rw [hr]
    exact bit_mod _ (key j).1 (key j).2
  replace hr := Lib.hid hr
  replace hr2 := Lib.hid hr2
  replace key := Lib.hid key
  obtain ⟨wz, hwz⟩ : ∃ wz, wz = w := ⟨_, rfl⟩
  rw [← hwz]
  replace hwz := Lib.hid hwz
  go_enter Tryz.func64, Tryz.ntmps64
  go_wp2_with fail
  go_loopw [5, 6] (fun m i wr => ∃ (k : Nat) (x : Int), k ≤ j ∧ i = .int .i64 k ∧ m = .int .i64 x ∧ 0 ≤ x ∧ x ≤ 255 ∧ Hid (x = mask / 2 ^ k) ∧ Hid (wz = wr)) (fun _ i _ => j - (intOf i).toNat)
  case atStart => exact ⟨0, mask, by omega, rfl, rfl, hm0, hm1, Lib.hid (by simp), Lib.hid rfl⟩
  case round =>
    obtain ⟨k, x, hk, rfl, rfl, hx0, hx1, hx, hw⟩ := hrel
    have hw2 := hw.out
    subst hw2
    by_cases hlt : k < j
    · have t0 : (k : Int) < (j : Int) := by omega
      have hx2 : Hid (x / 2 = mask / 2 ^ (k + 1)) := Lib.hid (by rw [hx.out, half_pow])
      have hd : IntKind.i64.wrap (x.tdiv 2) = x / 2 := by rw [Int.tdiv_eq_ediv_of_nonneg hx0, IntKind.wrap_i64]; omega
      have hy : 0 ≤ x / 2 ∧ x / 2 ≤ 255 := by omega
      go_wp2_with fail
      go_roundw
      case rel => exact ⟨k + 1, x / 2, by omega, by go_num, by first | rfl | (simp [hd]) , hy.1, hy.2, hx2, Lib.hid (by trivial)⟩
      case measure => simp [intOf]; omega
    · obtain rfl : k = j := by omega
      have hmod : x.tmod 2 = x % 2 := Int.tmod_eq_emod_of_nonneg hx0
      have hr3 : r = (x % 2 == 1) := by rw [hr2.out, ← hx.out]; by_cases h : x % 2 = 1 <;> simp [h]
      go_wp2_with fail
      go_ret
      exact ⟨ret_bool (by first | exact hr3.symm | (rw [hr3, hmod]) | rfl), rfl⟩
end Go.Proofs.YtcaboknbdamlhaaGreatDoor
namespace Go.Proofs.YtcaboknbdamlhaaGreatDoor
open Go.RowKit Go.Shelf
def uShade (D : DS) (p : Int) : DS := if p = 0 ∨ p ∈ D.greys ∨ p ∈ D.black then D else { D with greys := D.greys ++ [p] }
def uSh (D : DS) (p : Int) : DS × Int := if D.ph ≠ 1 ∨ p = 0 then (D, 0) else if (sSize D.S p).2.2 = false then (D, 11) else (uShade D p, 0)
def uAlloc (D : DS) (n mask junk : Int) : DS × Int × Int :=
  if (sAlloc D.S n mask junk).2.2 ≠ 0 then (D, 0, (sAlloc D.S n mask junk).2.2)
  else ({ D with S := (sAlloc D.S n mask junk).1, black := if D.ph = 1 then D.black ++ [(sAlloc D.S n mask junk).2.1] else D.black }, (sAlloc D.S n mask junk).2.1, 0)
def uPut (D : DS) (p f to : Int) : DS × Int :=
  if (sLoad D.S p f).2 ≠ 0 ∨ ¬ (to = 0 ∨ (sSize D.S to).2.2 = true) then (D, 11)
  else if mBit (sSize D.S p).2.1 f.toNat = false then (D, 2)
  else if (uSh D (sLoad D.S p f).1).2 ≠ 0 then (D, (uSh D (sLoad D.S p f).1).2)
  else ({ (uSh D (sLoad D.S p f).1).1 with S := sStore (uSh D (sLoad D.S p f).1).1.S p f to }, 0)
/-- A store by value, behind a call. -/
def R18 (Q : Nat → Prop) (w : World) (D : DS) (wrap : Value → Ending) : Ending → World → Prop := fun e w' => ∃ V, e = wrap (.agg (c18 V D.ph D.cyc)) ∧ XV Q w' D V ∧ Below w.heap.size w w'
section
variable {Q : Nat → Prop} {w : World} {D : DS} {V : V18}
/-- Lists that lie apart from the call's own two boxes. -/
theorem XV.apart (H : XV Q w D V) {w' : World} {gX gR : Nat} (hb : Below w.heap.size w w') (hX : gX = w.heap.size) (hR : gR = w.heap.size + 1) : XV (fun b => Q b ∧ b ≠ gX ∧ b ≠ gR) w' D V :=
  H.keepQ hb.size (fun b _ hlt => hb.block b hlt) fun b h hlt => ⟨h, by omega, by omega⟩
theorem XV.stored {Q' : Nat → Prop} {w' : World} {g : Nat} (H : XV Q w D V) (hg : w.grownBy w' (some g)) (hQ : ∀ b, Q b → Q' b ∧ b ≠ g) : XV Q' w' D V :=
  H.keepQ hg.size (fun b h hlt => hg.block b hlt fun e => (hQ b h).2 (by injection e)) fun b h _ => (hQ b h).1
set_option maxHeartbeats 3200000 in
set_option maxRecDepth 100000 in
theorem rshade18 (H : XV Q w D V) (hQ : New Q w) (p : Int) (hgs : D.greys.length ≤ 4000) (hbs : D.black.length ≤ 4096) :
    Calls Tryz.prog 57 #[.agg (c18 V D.ph D.cyc), .int .i64 p] w (R18 Q w (uShade D p) Ending.returned) := by
  have ONE := Lib.hid (H.one D.ph D.cyc)
  have SZ := Lib.hid r18_size
  replace H := Lib.hid H
  replace hQ := Lib.hid hQ
  obtain ⟨X, hX⟩ : ∃ X, X = uShade D p := ⟨_, rfl⟩
  rw [← hX]
  unfold uShade at hX
  replace hX := Lib.hid hX
  go_enter Tryz.func57, Tryz.ntmps57
  go_wp2_with (first
    | (refine wpList_new rfl (.box 42 (.tmp 0)) rfl w.heap.size rfl 42 (c18 V D.ph D.cyc) (by kernel_rfl) ?_; intro w1 hs1 hb1 hB1)
    | (refine wpList_new rfl (.alloc 42) rfl (w.heap.size + 1) hs1 42 n18 (by kernel_rfl) ?_; intro w2 hs2 hb2 hB2; refine stop_here ?_))
  have HB := hB1.below hb2 (by omega)
  have HR := hB2
  have b2 : Below w.heap.size w w2 := hb1.trans (hb2.mono (by omega))
  have hz2 : w2.heap.size = w.heap.size + 2 := by omega
  obtain ⟨gX, hgX⟩ : ∃ gX, gX = w.heap.size := ⟨_, rfl⟩
  obtain ⟨gR, hgR⟩ : ∃ gR, gR = w.heap.size + 1 := ⟨_, rfl⟩
  rw [← hgR] at HR ⊢
  rw [← hgX] at HB ⊢
  replace hgX := Lib.hid hgX
  replace hgR := Lib.hid hgR
  replace hz2 := Lib.hid hz2
  clear hs1 hB1 hb1 hB2 hs2 hb2
  have q7 : w2.cell? ⟨gX, 7, none⟩ = some V.vg := HB.cell 7
  have q8 : w2.cell? ⟨gX, 8, none⟩ = some V.vb := HB.cell 8
  have h1 := Lib.hid (rhas18 V.vg D.greys p w2 (H.out.below b2).gr.rd (by omega))
  have h2 := Lib.hid (rhas18 V.vb D.black p w2 (H.out.below b2).bl.rd hbs)
  refine go_on ?_
  by_cases h0 : p = 0
  · subst h0
    have hX1 : D = X := Eq.symm (by rw [hX.out, if_pos (.inl rfl)])
    subst hX1
    go_wp2_with (first
      | (refine wpList_load_blk rfl 42 (.tmp 2) rfl gX rfl 42 (c18 V D.ph D.cyc) HB _ Tryz.underlying42 rfl SZ.out ?_)
      | (refine wpList_store_blk rfl 42 (.tmp 4) (.tmp 20) rfl gR rfl (c18 V D.ph D.cyc) rfl 42 n18 HR SZ.out rfl ONE.out ?_; intro w9 hR9 hg9 hs9))
    have b9 := b2.grown hg9 b2.size (fun k hk => by cases hk; have := hgR.out; omega)
    refine bodyPost_ret (res_cell rfl rfl hR9 Tryz.underlying42 rfl SZ.out) rfl ⟨V, rfl, H.out.below b9, b9⟩
  have z0 : (p == 0) = false := beq_eq_false_iff_ne.2 h0
  go_wp2_with fail
  refine h1.out.mono ?_
  rintro e _ ⟨rfl, rfl⟩
  by_cases hg : p ∈ D.greys
  · have hX1 : D = X := Eq.symm (by rw [hX.out, if_pos (.inr (.inl hg))])
    subst hX1
    rw [decide_eq_true hg]
    replace hg := Lib.hid hg
    go_wp2_with (first
      | (refine wpList_load_blk rfl 42 (.tmp 2) rfl gX rfl 42 (c18 V D.ph D.cyc) HB _ Tryz.underlying42 rfl SZ.out ?_)
      | (refine wpList_store_blk rfl 42 (.tmp 4) (.tmp 20) rfl gR rfl (c18 V D.ph D.cyc) rfl 42 n18 HR SZ.out rfl ONE.out ?_; intro w9 hR9 hg9 hs9))
    have b9 := b2.grown hg9 b2.size (fun k hk => by cases hk; have := hgR.out; omega)
    refine bodyPost_ret (res_cell rfl rfl hR9 Tryz.underlying42 rfl SZ.out) rfl ⟨V, rfl, H.out.below b9, b9⟩
  rw [decide_eq_false hg]
  go_wp2_with fail
  refine h2.out.mono ?_
  rintro e _ ⟨rfl, rfl⟩
  by_cases hk : p ∈ D.black
  · have hX1 : D = X := Eq.symm (by rw [hX.out, if_pos (.inr (.inr hk))])
    subst hX1
    rw [decide_eq_true hk]
    replace hk := Lib.hid hk
    replace hg := Lib.hid hg
    go_wp2_with (first
      | (refine wpList_load_blk rfl 42 (.tmp 2) rfl gX rfl 42 (c18 V D.ph D.cyc) HB _ Tryz.underlying42 rfl SZ.out ?_)
      | (refine wpList_store_blk rfl 42 (.tmp 4) (.tmp 20) rfl gR rfl (c18 V D.ph D.cyc) rfl 42 n18 HR SZ.out rfl ONE.out ?_; intro w9 hR9 hg9 hs9))
    have b9 := b2.grown hg9 b2.size (fun k hk => by cases hk; have := hgR.out; omega)
    refine bodyPost_ret (res_cell rfl rfl hR9 Tryz.underlying42 rfl SZ.out) rfl ⟨V, rfl, H.out.below b9, b9⟩
  have hX1 : X = { D with greys := D.greys ++ [p] } := by rw [hX.out, if_neg (fun h => h.elim h0 fun h => h.elim hg hk)]
  subst hX1
  rw [decide_eq_false hk]
  replace hk := Lib.hid hk
  replace hg := Lib.hid hg
  have hown0 := Lib.hid (World.ownsRow_made (e := 3) (size := 1) w2 (base := w2.heap.size) #[] 0 (Nat.le_refl _) (Nat.zero_le _) rfl)
  have hrw := Lib.hid ((H.out.below b2).gr.rd)
  have hgXl : gX < w2.heap.size := HB.lt
  replace HB := Lib.hid HB
  replace HR := Lib.hid HR
  clear z0 h1 h2 q8 hX
  go_wp2_with (at_builtin; refine wpList_append_all rfl (.tmp 21) (.tmp 23) _ rfl w2.heap.size 3 _ 8 Tryz.underlying36 int_info rfl _ 0 [] rfl hown0.out i64e _ D.greys (fun _ => rfl) rfl (hrw.out.below (below_alloc _ _)) (by unfold maxLen; omega) (by omega) (by simp) ?_; intro v4 w4 hown4 hg4 hat4; refine stop_here ?_)
  have b24 : Below w2.heap.size w2 w4 := (below_alloc w2 _).grown hg4 (by simp) (fun k hk => by cases hk; exact Nat.le_refl _)
  have hown4 : w4.ownsRow w2.heap.size 3 1 v4 D.greys.length (D.greys.map i64e) := by simpa using hown4
  obtain ⟨A4, c4, rfl, -⟩ := own_form hown4
  have hz4 := b24.size
  clear hown0 hrw hg4 hat4 q7
  refine go_on ?_
  go_wp2_with (at_builtin; refine wpList_push rfl (.tmp 25) (.tmp 27) _ rfl w2.heap.size 3 _ 8 Tryz.underlying36 int_info rfl (.slice A4 D.greys.length c4) _ _ rfl hown4 _ rfl rfl (by unfold maxLen; omega) (by omega) hz4 ?_; intro v5 w5 hown5 hg5 hat5; refine stop_here ?_)
  have b25 := b24.grown hg5 hz4 (fun k hk => (hown4.lt k hk).1)
  obtain ⟨A5, c5, rfl, -⟩ := own_form hown5
  have HB5 := HB.out.below b25 HB.out.lt
  have HR5 := HR.out.below b25 HR.out.lt
  have c25 : w5.cell? ⟨gX, 7, none⟩ = some V.vg := HB5.cell 7
  have f25 := HB5.frozen 7
  have HB6 : Blk (w5.setCell ⟨gX, 7, none⟩ (.slice A5 (D.greys.length + 1) c5)) gX 42 (c18 { V with vg := .slice A5 (D.greys.length + 1) c5 } D.ph D.cyc) := HB5.set_ 7 _
  have HR6 : Blk (w5.setCell ⟨gX, 7, none⟩ (.slice A5 (D.greys.length + 1) c5)) gR 42 n18 := HR5.far (p := ⟨gX, 7, none⟩) (by show gR ≠ gX; have := hgR.out; have := hgX.out; omega) _
  have b5w := b2.trans (b25.mono b2.size)
  have b6 : Below w.heap.size w (w5.setCell ⟨gX, 7, none⟩ (.slice A5 (D.greys.length + 1) c5)) := b5w.setCell (p := ⟨gX, 7, none⟩) (Nat.le_of_eq hgX.out.symm) _
  have ONE6 : Hid ((c18 { V with vg := .slice A5 (D.greys.length + 1) c5 } D.ph D.cyc).all (·.oneCell') = true) := Lib.hid (by
    have h := ONE.out
    simp only [c18, List.all_toArray, List.all_cons, List.all_nil, Bool.and_true, Bool.and_eq_true] at h ⊢
    obtain ⟨h1, h2, h3, h4, h5, h6, h7, h8, h9⟩ := h
    exact ⟨h1, h2, h3, h4, h5, h6, h7, rfl, h9⟩)
  replace hown5 := Lib.hid hown5
  replace b6 := Lib.hid b6
  clear hown4 hg5 hat5 b24 b25 HB5 HR5 b5w
  refine go_on ?_
  go_wp2_with (first
    | (refine wpList_load_blk rfl 42 (.tmp 2) rfl gX rfl 42 (c18 { V with vg := .slice A5 (D.greys.length + 1) c5 } D.ph D.cyc) HB6 _ Tryz.underlying42 rfl SZ.out ?_)
    | (refine wpList_store_blk rfl 42 (.tmp 4) (.tmp 30) rfl gR rfl (c18 { V with vg := .slice A5 (D.greys.length + 1) c5 } D.ph D.cyc) rfl 42 n18 HR6 SZ.out rfl ONE6.out ?_; intro w9 hR9 hg9 hs9))
  have b9 := b6.out.grown hg9 b6.out.size (fun k hk => by cases hk; have := hgR.out; omega)
  have ho9 : w9.ownsRow w2.heap.size 3 1 (.slice A5 (D.greys.length + 1) c5) (D.greys.length + 1) (D.greys.map i64e ++ [i64e p]) := own_keep hown5.out fun g e => by
    have h1 := hown5.out.lt g e
    have := hgR.out
    have := hgX.out
    have := hz2.out
    refine (hg9.block g (by simpa [setCell_size] using h1.2) fun e2 => ?_).trans (setCell_other w5 gX 7 _ fun e2 => ?_)
    · cases e2; omega
    · omega
  have r9 : Rd i64e w9 (.slice A5 (D.greys.length + 1) c5) (D.greys ++ [p]) := by
    have hl : (D.greys ++ [p]).length = D.greys.length + 1 := by simp
    rw [← hl] at ho9 ⊢
    exact Rd.of_own (by rw [List.map_append]; exact ho9)
  have H9 := H.out.below b9
  refine bodyPost_ret (res_cell rfl rfl hR9 Tryz.underlying42 rfl SZ.out) rfl ⟨{ V with vg := .slice A5 (D.greys.length + 1) c5 }, rfl, ⟨H9.rin, ⟨r9, fun _ k hk => hQ.out k ?_⟩, H9.bl, H9.lf⟩, b9⟩
  have := (hown5.out.lt k hk).1
  have := b2.size
  omega
set_option maxHeartbeats 3200000 in
set_option maxRecDepth 100000 in
theorem rSh18 (H : XV Q w D V) (hQ : New Q w) (I : Inv0 D.S) (p : Int) (hgs : D.greys.length ≤ 4000) (hbs : D.black.length ≤ 4096) :
    Calls Tryz.prog 35 #[.agg (c18 V D.ph D.cyc), .int .i64 p] w (R18 Q w (uSh D p).1 fun v => .returned (.tuple #[v, .int .i64 (uSh D p).2])) := by
  have ONE := Lib.hid (H.one D.ph D.cyc)
  have SZ := Lib.hid r18_size
  replace H := Lib.hid H
  replace hQ := Lib.hid hQ
  obtain ⟨X, hX⟩ : ∃ X, X = uSh D p := ⟨_, rfl⟩
  rw [← hX]
  unfold uSh at hX
  replace hX := Lib.hid hX
  replace I := Lib.hid I
  go_enter Tryz.func35, Tryz.ntmps35
  go_wp2_with (first
    | (refine wpList_new rfl (.box 42 (.tmp 0)) rfl w.heap.size rfl 42 (c18 V D.ph D.cyc) (by kernel_rfl) ?_; intro w1 hs1 hb1 hB1)
    | (refine wpList_new rfl (.alloc 42) rfl (w.heap.size + 1) hs1 42 n18 (by kernel_rfl) ?_; intro w2 hs2 hb2 hB2; refine stop_here ?_))
  have HB := hB1.below hb2 (by omega)
  have HR := hB2
  have b2 : Below w.heap.size w w2 := hb1.trans (hb2.mono (by omega))
  have hz2 : w2.heap.size = w.heap.size + 2 := by omega
  obtain ⟨gX, hgX⟩ : ∃ gX, gX = w.heap.size := ⟨_, rfl⟩
  obtain ⟨gR, hgR⟩ : ∃ gR, gR = w.heap.size + 1 := ⟨_, rfl⟩
  rw [← hgR] at HR ⊢
  rw [← hgX] at HB ⊢
  replace hgX := Lib.hid hgX
  replace hgR := Lib.hid hgR
  replace hz2 := Lib.hid hz2
  clear hs1 hB1 hb1 hB2 hs2 hb2
  have q9 : w2.cell? ⟨gX, 9, none⟩ = some (.int .i64 D.ph) := HB.cell 9
  have HO := Lib.hid (robj18 (H.out.below b2) I.out p)
  refine go_on ?_
  by_cases hp1 : D.ph = 1
  case neg =>
    have z1 : (D.ph == 1) = false := beq_eq_false_iff_ne.2 hp1
    have z2 : (D.ph != 1) = true := by simpa using hp1
    have hX1 : X = (D, 0) := by rw [hX.out, if_pos (.inl hp1)]
    subst hX1
    go_wp2_with (first
      | (refine wpList_load_blk rfl 42 (.tmp 2) rfl gX rfl 42 (c18 V D.ph D.cyc) HB _ Tryz.underlying42 rfl SZ.out ?_)
      | (refine wpList_store_blk rfl 42 (.tmp 4) (.tmp 13) rfl gR rfl (c18 V D.ph D.cyc) rfl 42 n18 HR SZ.out rfl ONE.out ?_; intro w9 hR9 hg9 hs9))
    have b9 := b2.grown hg9 b2.size (fun k hk => by cases hk; have := hgR.out; omega)
    refine bodyPost_ret (res_cell_tmp rfl rfl hR9 Tryz.underlying42 rfl SZ.out) rfl ⟨V, rfl, H.out.below b9, b9⟩
  rw [hp1] at q9
  replace hp1 := Lib.hid hp1
  by_cases h0 : p = 0
  · subst h0
    have hX1 : X = (D, 0) := by rw [hX.out, if_pos (.inr rfl)]
    subst hX1
    go_wp2_with (first
      | (refine wpList_load_blk rfl 42 (.tmp 2) rfl gX rfl 42 (c18 V D.ph D.cyc) HB _ Tryz.underlying42 rfl SZ.out ?_)
      | (refine wpList_store_blk rfl 42 (.tmp 4) (.tmp 13) rfl gR rfl (c18 V D.ph D.cyc) rfl 42 n18 HR SZ.out rfl ONE.out ?_; intro w9 hR9 hg9 hs9))
    have b9 := b2.grown hg9 b2.size (fun k hk => by cases hk; have := hgR.out; omega)
    refine bodyPost_ret (res_cell_tmp rfl rfl hR9 Tryz.underlying42 rfl SZ.out) rfl ⟨V, rfl, H.out.below b9, b9⟩
  have z0 : (p == 0) = false := beq_eq_false_iff_ne.2 h0
  go_wp2_with (refine wpList_load_blk rfl 42 (.tmp 2) rfl gX rfl 42 (c18 V D.ph D.cyc) HB _ Tryz.underlying42 rfl SZ.out ?_)
  refine HO.out.mono ?_
  rintro e w3 ⟨rfl, b3⟩
  have HB3 := HB.below b3 HB.lt
  have HR3 := HR.below b3 HR.lt
  have b3w := b2.trans (b3.mono b2.size)
  clear HO HB HR q9
  by_cases hno : (sSize D.S p).2.2 = false
  · have hX1 : X = (D, 11) := by rw [hX.out, if_neg (fun h => h.elim (fun h => h hp1.out) h0), if_pos hno]
    subst hX1
    rw [show decide (p = 0 ∨ (sSize D.S p).2.2 = true) = false from decide_eq_false fun h => h.elim h0 fun h => by rw [hno] at h; cases h]
    replace hno := Lib.hid hno
    go_wp2_with (first
      | (refine wpList_load_blk rfl 42 (.tmp 2) rfl gX rfl 42 (c18 V D.ph D.cyc) HB3 _ Tryz.underlying42 rfl SZ.out ?_)
      | (refine wpList_store_blk rfl 42 (.tmp 4) (.tmp 18) rfl gR rfl (c18 V D.ph D.cyc) rfl 42 n18 HR3 SZ.out rfl ONE.out ?_; intro w9 hR9 hg9 hs9))
    have b9 := b3w.grown hg9 b3w.size (fun k hk => by cases hk; have := hgR.out; omega)
    refine bodyPost_ret (res_cell_tmp rfl rfl hR9 Tryz.underlying42 rfl SZ.out) rfl ⟨V, rfl, H.out.below b9, b9⟩
  have hX1 : X = (uShade D p, 0) := by rw [hX.out, if_neg (fun h => h.elim (fun h => h hp1.out) h0), if_neg hno]
  subst hX1
  rw [show decide (p = 0 ∨ (sSize D.S p).2.2 = true) = true from decide_eq_true (.inr (by simpa using hno))]
  replace hno := Lib.hid hno
  have HS := Lib.hid (rshade18 (Q := fun b => Q b ∧ b ≠ gX ∧ b ≠ gR) (H.out.apart b3w hgX.out hgR.out) (fun b hb => ⟨hQ.out b (Nat.le_trans b3w.size hb), by have := HB3.lt; omega, by have := HR3.lt; omega⟩) p hgs hbs)
  dsimp only
  go_wp2_with (refine wpList_load_blk rfl 42 (.tmp 2) rfl gX rfl 42 (c18 V D.ph D.cyc) HB3 _ Tryz.underlying42 rfl SZ.out ?_)
  refine HS.out.mono ?_
  rintro e w4 ⟨V4, rfl, H4, b4⟩
  have HR4 := HR3.below b4 HR3.lt
  have b4w := b3w.trans (b4.mono b3w.size)
  have ONE4 := Lib.hid (H4.one (uShade D p).ph (uShade D p).cyc)
  clear HS HB3 HR3
  replace H4 := Lib.hid H4
  go_wp2_with (refine wpList_store_blk rfl 42 (.tmp 4) (.tmp 21) rfl gR rfl (c18 V4 (uShade D p).ph (uShade D p).cyc) rfl 42 n18 HR4 SZ.out rfl ONE4.out ?_; intro w9 hR9 hg9 hs9)
  have b9 := b4w.grown hg9 b4w.size (fun k hk => by cases hk; have := hgR.out; omega)
  refine bodyPost_ret (res_cell_tmp rfl rfl hR9 Tryz.underlying42 rfl SZ.out) rfl ⟨V4, rfl, H4.out.stored hg9 fun b h => ⟨h.1, h.2.2⟩, b9⟩
end
end Go.Proofs.YtcaboknbdamlhaaGreatDoor
namespace Go.Proofs.YtcaboknbdamlhaaGreatDoor
open Go.RowKit Go.Shelf
theorem wpList_wants {P : Program} {ops : Array Oper} {rest : List Oper} {o : Oper} {a : Act} {w : World} {Q : Exit → Act → World → Prop} (hw : Region.wanted o (yielded ops a.tmps) = true)
    (h : ∀ K' : Act → World → Prop, (∀ a' w', wpList P ops Q rest a' w' → K' a' w') → Oper.wp P o a w K' Q) : wpList P ops Q (o :: rest) a w := by
  show if _ then _ else _
  rw [if_pos hw]
  exact .inl (h _ fun _ _ h => h)
theorem ralloc18_ok {Q : Nat → Prop} (S : HS) (vw vc vo : Value) (f : Nat → Value) (w : World) (H : RIn Q w S vw vc f vo) (hQ : New Q w) (I : Inv S) (n mask junk : Int) (hm0 : 0 ≤ mask) (hm1 : mask ≤ 255) :
    Calls Tryz.prog 58 #[.agg (rcells vw vc f vo), .int .i64 n, .int .u8 mask, .int .i64 junk] w (RetHPE Q w (sAlloc S n mask junk).1 (sAlloc S n mask junk).2.1 (sAlloc S n mask junk).2.2) := by
  by_cases hbad : n < 1 ∨ 6 < n ∨ mask / 2 ^ n.toNat ≠ 0
  · have e : sAlloc S n mask junk = (S, 0, 2) := by unfold sAlloc; rw [if_pos hbad]
    rw [e]
    exact ralloc_no S vw vc vo f w H I n mask junk hm0 hm1 2 (.inl ⟨rfl, hbad⟩)
  · have h1 : 1 ≤ n := by omega
    have h6 : n ≤ 6 := by omega
    have hmk : mask / 2 ^ n.toNat = 0 := Decidable.byContradiction fun h => hbad (.inr (.inr h))
    rcases hf : sFits S n with _ | _
    · rw [alloc_none h1 h6 hmk hf]
      exact ralloc_no S vw vc vo f w H I n mask junk hm0 hm1 6 (.inr ⟨rfl, h1, h6, hmk, hf⟩)
    · exact ralloc_yes S vw vc vo f w H hQ I n mask junk hm0 hm1 h1 h6 hmk hf
/-- The slices of a heap in place of a store's. -/
def V18.heap (V : V18) (vw vc : Value) (f : Nat → Value) (vo : Value) : V18 := { V with vw := vw, vc := vc, f := f, vo := vo }
theorem setCells7 (w : World) (g o : Nat) (a b c d e f h : Value) : w.setCells g o [a, b, c, d, e, f, h] = ((((((w.setCell ⟨g, o, none⟩ a).setCell ⟨g, o + 1, none⟩ b).setCell ⟨g, o + 1 + 1, none⟩ c).setCell ⟨g, o + 1 + 1 + 1, none⟩ d).setCell ⟨g, o + 1 + 1 + 1 + 1, none⟩ e).setCell ⟨g, o + 1 + 1 + 1 + 1 + 1, none⟩ f).setCell ⟨g, o + 1 + 1 + 1 + 1 + 1 + 1, none⟩ h := by
  unfold World.setCells World.setCells World.setCells World.setCells World.setCells World.setCells World.setCells World.setCells
  rfl
theorem setCells7z (w : World) (g : Nat) (a b c d e f h : Value) : w.setCells g 0 [a, b, c, d, e, f, h] = ((((((w.setCell ⟨g, 0, none⟩ a).setCell ⟨g, 1, none⟩ b).setCell ⟨g, 2, none⟩ c).setCell ⟨g, 3, none⟩ d).setCell ⟨g, 4, none⟩ e).setCell ⟨g, 5, none⟩ f).setCell ⟨g, 6, none⟩ h := by
  rw [setCells7]
theorem sc_os (w : World) (g i : Nat) (v : Value) : (w.setCell ⟨g, i, none⟩ v).os = w.os := (grown_setCell w g i v).os
theorem sc_tape (w : World) (g i : Nat) (v : Value) : (w.setCell ⟨g, i, none⟩ v).tape = w.tape := (grown_setCell w g i v).tape
theorem sc_out (w : World) (g i : Nat) (v : Value) : (w.setCell ⟨g, i, none⟩ v).output = w.output := (grown_setCell w g i v).output
theorem blk_heap {w : World} {g : Nat} {V : V18} {ph cyc : Int} (hB : Blk w g 42 (c18 V ph cyc)) (vw vc : Value) (f : Nat → Value) (vo : Value) :
    w.there g 0 7 ∧ Blk (w.setCells g 0 [vw, vc, f 0, f 1, f 2, f 3, vo]) g 42 (c18 (V.heap vw vc f vo) ph cyc) ∧ w.grownBy (w.setCells g 0 [vw, vc, f 0, f 1, f 2, f 3, vo]) (some g) ∧ (w.setCells g 0 [vw, vc, f 0, f 1, f 2, f 3, vo]).heap.size = w.heap.size := by
  have hz : (w.setCells g 0 [vw, vc, f 0, f 1, f 2, f 3, vo]).heap.size = w.heap.size := by rw [setCells7z]; simp only [setCell_size]
  refine ⟨fun j hj => ⟨?_, hB.frozen _⟩, ?_, ⟨by rw [setCells7z]; simp only [sc_os], by rw [setCells7z]; simp only [sc_tape], by rw [setCells7z]; simp only [sc_out], by rw [hz]; exact Nat.le_refl _, fun k hk hne => ?_⟩, hz⟩
  · rw [hB.cell]
    rcases (show j = 0 ∨ j = 1 ∨ j = 2 ∨ j = 3 ∨ j = 4 ∨ j = 5 ∨ j = 6 by omega) with rfl | rfl | rfl | rfl | rfl | rfl | rfl <;> rfl
  · rw [setCells7z]
    have B1 : Blk _ g 42 #[vw, V.vc, V.f 0, V.f 1, V.f 2, V.f 3, V.vo, V.vg, V.vb, .int .i64 ph, V.vl, .int .i64 cyc] := hB.set_ 0 (vw)
    have B2 : Blk _ g 42 #[vw, vc, V.f 0, V.f 1, V.f 2, V.f 3, V.vo, V.vg, V.vb, .int .i64 ph, V.vl, .int .i64 cyc] := B1.set_ 1 (vc)
    have B3 : Blk _ g 42 #[vw, vc, f 0, V.f 1, V.f 2, V.f 3, V.vo, V.vg, V.vb, .int .i64 ph, V.vl, .int .i64 cyc] := B2.set_ 2 (f 0)
    have B4 : Blk _ g 42 #[vw, vc, f 0, f 1, V.f 2, V.f 3, V.vo, V.vg, V.vb, .int .i64 ph, V.vl, .int .i64 cyc] := B3.set_ 3 (f 1)
    have B5 : Blk _ g 42 #[vw, vc, f 0, f 1, f 2, V.f 3, V.vo, V.vg, V.vb, .int .i64 ph, V.vl, .int .i64 cyc] := B4.set_ 4 (f 2)
    have B6 : Blk _ g 42 #[vw, vc, f 0, f 1, f 2, f 3, V.vo, V.vg, V.vb, .int .i64 ph, V.vl, .int .i64 cyc] := B5.set_ 5 (f 3)
    have B7 : Blk _ g 42 #[vw, vc, f 0, f 1, f 2, f 3, vo, V.vg, V.vb, .int .i64 ph, V.vl, .int .i64 cyc] := B6.set_ 6 (vo)
    exact B7
  · have hk' : k ≠ g := fun e => hne (by rw [e])
    rw [setCells7z, setCell_other _ g _ _ hk', setCell_other _ g _ _ hk', setCell_other _ g _ _ hk', setCell_other _ g _ _ hk', setCell_other _ g _ _ hk', setCell_other _ g _ _ hk', setCell_other _ g _ _ hk']
section
variable {Q : Nat → Prop} {w : World} {D : DS} {V : V18}
set_option maxHeartbeats 3200000 in
set_option maxRecDepth 100000 in
theorem rAlloc18 (H : XV Q w D V) (hQ : New Q w) (I : Inv D.S) (n mask junk : Int) (hm : 0 ≤ mask ∧ mask ≤ 255) (hbs : D.black.length ≤ 4000) :
    Calls Tryz.prog 33 #[.agg (c18 V D.ph D.cyc), .int .i64 n, .int .u8 mask, .int .i64 junk] w (R18 Q w (uAlloc D n mask junk).1 fun v => .returned (.tuple #[v, .int .i64 (uAlloc D n mask junk).2.1, .int .i64 (uAlloc D n mask junk).2.2])) := by
  have ONE := Lib.hid (H.one D.ph D.cyc)
  have SZ := Lib.hid r18_size
  have SZh := Lib.hid rh_size
  replace H := Lib.hid H
  replace hQ := Lib.hid hQ
  obtain ⟨X, hX⟩ : ∃ X, X = uAlloc D n mask junk := ⟨_, rfl⟩
  rw [← hX]
  unfold uAlloc at hX
  obtain ⟨S1, p, er, hr⟩ : ∃ S1 p er, sAlloc D.S n mask junk = (S1, p, er) := ⟨_, _, _, rfl⟩
  have HAA := fun (Q : Nat → Prop) (wx : World) (h : XV Q wx D V) (hq : New Q wx) => ralloc18_ok D.S _ _ _ _ wx h.rin hq I n mask junk hm.1 hm.2
  rw [hr] at hX HAA
  dsimp only at hX HAA
  replace hX := Lib.hid hX
  replace HAA := Lib.hid HAA
  replace hr := Lib.hid hr
  replace I := Lib.hid I
  replace hm := Lib.hid hm
  go_enter Tryz.func33, Tryz.ntmps33
  go_wp2_with (first
    | (refine wpList_new rfl (.box 42 (.tmp 0)) rfl w.heap.size rfl 42 (c18 V D.ph D.cyc) (by kernel_rfl) ?_; intro w1 hs1 hb1 hB1)
    | (refine wpList_new rfl (.alloc 42) rfl (w.heap.size + 1) hs1 42 n18 (by kernel_rfl) ?_; intro w2 hs2 hb2 hB2; refine stop_here ?_))
  have HB := hB1.below hb2 (by omega)
  have HR := hB2
  have b2 : Below w.heap.size w w2 := hb1.trans (hb2.mono (by omega))
  have hz2 : w2.heap.size = w.heap.size + 2 := by omega
  obtain ⟨gX, hgX⟩ : ∃ gX, gX = w.heap.size := ⟨_, rfl⟩
  obtain ⟨gR, hgR⟩ : ∃ gR, gR = w.heap.size + 1 := ⟨_, rfl⟩
  rw [← hgR] at HR ⊢
  rw [← hgX] at HB ⊢
  have hXR : gX ≠ gR := by omega
  replace hgX := Lib.hid hgX
  replace hgR := Lib.hid hgR
  replace hz2 := Lib.hid hz2
  clear hs1 hB1 hb1 hB2 hs2 hb2
  have HA := Lib.hid (HAA.out (fun b => Q b ∧ b ≠ gX ∧ b ≠ gR) w2 (H.out.apart b2 hgX.out hgR.out) (fun b hb => ⟨hQ.out b (Nat.le_trans b2.size hb), by have := HB.lt; omega, by have := HR.lt; omega⟩))
  refine go_on ?_
  go_wp2_with (refine wpList_load_mid rfl 40 (.tmp 16) rfl gX 0 rfl [V.vw, V.vc, V.f 0, V.f 1, V.f 2, V.f 3, V.vo] _ (World.rangeAt_of_block HB 0 7) Tryz.underlying40 rfl SZh.out ?_)
  refine HA.out.mono ?_
  rintro e w3 ⟨vw, vc, f, vo, rfl, H3, b3⟩
  have HB3 := HB.below b3 HB.lt
  have HR3 := HR.below b3 HR.lt
  have b3w := b2.trans (b3.mono b2.size)
  have O3 := Lib.hid (slices_one H3.slices)
  replace H3 := Lib.hid H3
  clear HA HAA HB HR
  go_wp2_with (first
    | (refine wpList_new rfl (.alloc 40) rfl w3.heap.size rfl 40 rnil (by kernel_rfl) ?_; intro w4 hs4 hb4 hB4; have HB4 := Lib.hid hB4; clear hB4)
    | (refine wpList_store_blk rfl 40 (.tmp 11) (.tmp 22) rfl w3.heap.size rfl (rcells vw vc f vo) rfl 40 rnil HB4.out SZh.out rfl O3.out ?_; intro w5 hR5 hg5 hs5; refine stop_here ?_))
  have hb5 : Below w3.heap.size w3 w5 := hb4.grown hg5 hb4.size (fun k hk => by cases hk; exact Nat.le_refl _)
  have HB5 := HB3.below hb5 HB3.lt
  have HR5 := HR3.below hb5 HR3.lt
  have b5w := b3w.trans (hb5.mono b3w.size)
  have H5 := Lib.hid (H3.out.keepQ (Q' := fun b => Q b ∧ b ≠ gX ∧ b ≠ gR) hb5.size (fun b _ hlt => hb5.block b hlt) (fun _ h _ => h))
  obtain ⟨gH, hgH⟩ : ∃ gH, gH = w3.heap.size := ⟨_, rfl⟩
  rw [← hgH] at hR5 ⊢
  replace hgH := Lib.hid hgH
  clear HB3 HR3 hb5 hg5 hs5 hb4 hs4 HB4 H3
  refine go_on ?_
  by_cases h0 : er = 0
  case neg =>
    have z0 : (er == 0) = false := beq_eq_false_iff_ne.2 h0
    have z2 : (er != 0) = true := by simpa using h0
    have hX1 : X = (D, 0, er) := by rw [hX.out, if_pos h0]
    subst hX1
    go_wp2_with (first
      | (refine wpList_load_blk rfl 42 (.tmp 4) rfl gX rfl 42 (c18 V D.ph D.cyc) HB5 _ Tryz.underlying42 rfl SZ.out ?_)
      | (refine wpList_store_blk rfl 42 (.tmp 8) (.tmp 27) rfl gR rfl (c18 V D.ph D.cyc) rfl 42 n18 HR5 SZ.out rfl ONE.out ?_; intro w9 hR9 hg9 hs9))
    have b9 := b5w.grown hg9 b5w.size (fun k hk => by cases hk; have := hgR.out; omega)
    refine bodyPost_ret (res_cell_2 rfl rfl hR9 Tryz.underlying42 rfl SZ.out) rfl ⟨V, rfl, H.out.below b9, b9⟩
  subst h0
  obtain ⟨t6, B6, hg6, hs6⟩ := blk_heap HB5 vw vc f vo
  have HR6 := HR5.grown hg6 (fun e => by injection e with e; exact hXR e.symm)
  have b6 : Below w.heap.size w _ := b5w.grown hg6 b5w.size (fun k hk => by cases hk; have := hgX.out; omega)
  have H6 := Lib.hid (H5.out.keepQ (Q' := fun b => Q b ∧ b ≠ gX ∧ b ≠ gR) (Nat.le_of_eq hs6.symm) (fun b h hlt => hg6.block b hlt fun e => h.2.1 (by injection e)) (fun _ h _ => h))
  replace t6 := Lib.hid t6
  replace b6 := Lib.hid b6
  replace B6 := Lib.hid B6
  replace HR6 := Lib.hid HR6
  replace hs6 := Lib.hid hs6
  clear hg6 H5 HR5
  go_wp2_with (first
    | (refine wpList_load_blk rfl 40 (.tmp 11) rfl gH rfl 40 (rcells vw vc f vo) hR5 _ Tryz.underlying40 rfl SZh.out ?_)
    | (refine wpList_store_mid rfl 40 (.tmp 30) (.tmp 29) rfl gX 0 (rcells vw vc f vo) rfl rfl t6.out SZh.out O3.out ?_; refine stop_here ?_))
  dsimp only [rcells]
  obtain ⟨w6, hw6⟩ : ∃ w6, w6 = w5.setCells gX 0 [vw, vc, f 0, f 1, f 2, f 3, vo] := ⟨_, rfl⟩
  rw [← hw6] at H6 B6 HR6 b6 hs6 ⊢
  replace hw6 := Lib.hid hw6
  clear t6 HB5 b5w hR5
  refine go_on ?_
  have q9 : w6.cell? ⟨gX, 9, none⟩ = some (.int .i64 D.ph) := B6.out.cell 9
  obtain ⟨DB, hDB⟩ : ∃ DB : List Int, DB = (if D.ph = 1 then D.black ++ [p] else D.black) := ⟨_, rfl⟩
  have hX1 : X = ({ D with S := S1, black := DB }, p, 0) := by rw [hX.out, if_neg (by simp), hDB]
  subst hX1
  clear hX
  replace hDB := Lib.hid hDB
  by_cases hp1 : D.ph = 1
  case neg =>
    have z1 : (D.ph == 1) = false := beq_eq_false_iff_ne.2 hp1
    have z2 : (D.ph != 1) = true := by simpa using hp1
    have hDB1 : DB = D.black := by rw [hDB.out, if_neg hp1]
    subst hDB1
    have hrest := H.out.below b6.out
    have X6 : XV (fun b => Q b ∧ b ≠ gX ∧ b ≠ gR) w6 { D with S := S1 } (V.heap vw vc f vo) := ⟨H6.out, (H.out.apart b6.out hgX.out hgR.out).gr, (H.out.apart b6.out hgX.out hgR.out).bl, (H.out.apart b6.out hgX.out hgR.out).lf⟩
    have ONE6 := Lib.hid (X6.one D.ph D.cyc)
    replace X6 := Lib.hid X6
    go_wp2_with (first
      | (refine wpList_load_blk rfl 42 (.tmp 4) rfl gX rfl 42 (c18 (V.heap vw vc f vo) D.ph D.cyc) B6.out _ Tryz.underlying42 rfl SZ.out ?_)
      | (refine wpList_store_blk rfl 42 (.tmp 8) (.tmp 43) rfl gR rfl (c18 (V.heap vw vc f vo) D.ph D.cyc) rfl 42 n18 HR6.out SZ.out rfl ONE6.out ?_; intro w9 hR9 hg9 hs9))
    have b9 := b6.out.grown hg9 b6.out.size (fun k hk => by cases hk; have := hgR.out; omega)
    refine bodyPost_ret (res_cell_2 rfl rfl hR9 Tryz.underlying42 rfl SZ.out) rfl ⟨V.heap vw vc f vo, rfl, X6.out.stored hg9 fun b h => ⟨h.1, h.2.2⟩, b9⟩
  rw [hp1] at q9
  have hDB1 : DB = D.black ++ [p] := by rw [hDB.out, if_pos hp1]
  replace hp1 := Lib.hid hp1
  subst hDB1
  have hown0 := Lib.hid (World.ownsRow_made (e := 3) (size := 1) w6 (base := w6.heap.size) #[] 0 (Nat.le_refl _) (Nat.zero_le _) rfl)
  have hrw := Lib.hid ((H.out.below b6.out).bl.rd)
  have q8 : w6.cell? ⟨gX, 8, none⟩ = some V.vb := B6.out.cell 8
  have hgXl : gX < w6.heap.size := B6.out.lt
  go_wp2_with (at_builtin; refine wpList_append_all rfl (.tmp 34) (.tmp 36) _ rfl w6.heap.size 3 _ 8 Tryz.underlying36 int_info rfl _ 0 [] rfl hown0.out i64e _ D.black (fun _ => rfl) rfl (hrw.out.below (below_alloc _ _)) (by unfold maxLen; omega) (by omega) (by simp) ?_; intro v7 w7 hown7 hg7 hat7; refine stop_here ?_)
  have b67 : Below w6.heap.size w6 w7 := (below_alloc w6 _).grown hg7 (by simp) (fun k hk => by cases hk; exact Nat.le_refl _)
  have hown7 : w7.ownsRow w6.heap.size 3 1 v7 D.black.length (D.black.map i64e) := by simpa using hown7
  obtain ⟨A7, c7, rfl, -⟩ := own_form hown7
  have hz7 := b67.size
  clear hown0 hrw hg7 hat7 q8 q9
  refine go_on ?_
  go_wp2_with (at_builtin; refine wpList_push rfl (.tmp 38) (.tmp 40) _ rfl w6.heap.size 3 _ 8 Tryz.underlying36 int_info rfl (.slice A7 D.black.length c7) _ _ rfl hown7 _ rfl rfl (by unfold maxLen; omega) (by omega) hz7 ?_; intro v8 w8 hown8 hg8 hat8; refine stop_here ?_)
  have b68 := b67.grown hg8 hz7 (fun k hk => (hown7.lt k hk).1)
  obtain ⟨A8, c8, rfl, -⟩ := own_form hown8
  have B8 := B6.out.below b68 B6.out.lt
  have R8 := HR6.out.below b68 HR6.out.lt
  have q8 : w8.cell? ⟨gX, 8, none⟩ = some V.vb := B8.cell 8
  have f8 := B8.frozen 8
  have B10 : Blk (w8.setCell ⟨gX, 8, none⟩ (.slice A8 (D.black.length + 1) c8)) gX 42 (c18 { V.heap vw vc f vo with vb := .slice A8 (D.black.length + 1) c8 } D.ph D.cyc) := B8.set_ 8 _
  have R10 : Blk (w8.setCell ⟨gX, 8, none⟩ (.slice A8 (D.black.length + 1) c8)) gR 42 n18 := R8.far (p := ⟨gX, 8, none⟩) (by show gR ≠ gX; exact hXR.symm) _
  have b8w := b6.out.trans (b68.mono b6.out.size)
  have b10 : Below w.heap.size w (w8.setCell ⟨gX, 8, none⟩ (.slice A8 (D.black.length + 1) c8)) := b8w.setCell (p := ⟨gX, 8, none⟩) (Nat.le_of_eq hgX.out.symm) _
  have hz10 : (w8.setCell ⟨gX, 8, none⟩ (.slice A8 (D.black.length + 1) c8)).heap.size = w8.heap.size := setCell_size _ _ _
  have H10 := Lib.hid (H6.out.keepQ (w' := w8.setCell ⟨gX, 8, none⟩ (.slice A8 (D.black.length + 1) c8)) (Q' := fun b => Q b ∧ b ≠ gX ∧ b ≠ gR) (by rw [hz10]; exact b68.size) (fun b h hlt => (setCell_other w8 gX 8 _ h.2.1).trans (b68.block b hlt)) (fun _ h _ => h))
  have X10 := Lib.hid (H.out.apart b10 hgX.out hgR.out)
  have ONE10 : Hid ((c18 { V.heap vw vc f vo with vb := .slice A8 (D.black.length + 1) c8 } D.ph D.cyc).all (·.oneCell') = true) := Lib.hid (by
    have h := ONE.out
    have h2 := O3.out
    simp only [c18, rcells, V18.heap, List.all_toArray, List.all_cons, List.all_nil, Bool.and_true, Bool.and_eq_true] at h h2 ⊢
    obtain ⟨_, _, _, _, _, _, _, h8, _, h10⟩ := h
    obtain ⟨k1, k2, k3, k4, k5, k6, k7⟩ := h2
    exact ⟨k1, k2, k3, k4, k5, k6, k7, h8, rfl, h10⟩)
  replace hown8 := Lib.hid hown8
  replace b10 := Lib.hid b10
  clear hown7 hg8 hat8 b67 B8 R8 b8w
  refine go_on ?_
  go_wp2_with (first
    | (refine wpList_load_blk rfl 42 (.tmp 4) rfl gX rfl 42 (c18 { V.heap vw vc f vo with vb := .slice A8 (D.black.length + 1) c8 } D.ph D.cyc) B10 _ Tryz.underlying42 rfl SZ.out ?_)
    | (refine wpList_store_blk rfl 42 (.tmp 8) (.tmp 43) rfl gR rfl (c18 { V.heap vw vc f vo with vb := .slice A8 (D.black.length + 1) c8 } D.ph D.cyc) rfl 42 n18 R10 SZ.out rfl ONE10.out ?_; intro w9 hR9 hg9 hs9))
  have b9 := b10.out.grown hg9 b10.out.size (fun k hk => by cases hk; have := hgR.out; omega)
  have hw6s := b6.out.size
  have ho9 : w9.ownsRow w6.heap.size 3 1 (.slice A8 (D.black.length + 1) c8) (D.black.length + 1) (D.black.map i64e ++ [i64e p]) := own_keep hown8.out fun g e => by
    have h1 := hown8.out.lt g e
    have h2 := B6.out.lt
    have h3 := HR6.out.lt
    refine (hg9.block g (by rw [hz10]; exact h1.2) fun e2 => ?_).trans (setCell_other w8 gX 8 _ fun e2 => ?_)
    · cases e2; omega
    · omega
  have r9 : Rd i64e w9 (.slice A8 (D.black.length + 1) c8) (D.black ++ [p]) := by
    have hl : (D.black ++ [p]).length = D.black.length + 1 := by simp
    rw [← hl] at ho9 ⊢
    exact Rd.of_own (by rw [List.map_append]; exact ho9)
  have st := fun {v : Value} {xs : List Int} (h : RdG (fun b => Q b ∧ b ≠ gX ∧ b ≠ gR) i64e _ v xs) => h.keepQ (Q' := Q) hg9.size (fun b h hlt => hg9.block b hlt fun e => h.2.2 (by injection e)) (fun b h _ => h.1)
  refine bodyPost_ret (res_cell_2 rfl rfl hR9 Tryz.underlying42 rfl SZ.out) rfl ⟨{ V.heap vw vc f vo with vb := .slice A8 (D.black.length + 1) c8 }, rfl, ⟨H10.out.keepQ hg9.size (fun b h hlt => hg9.block b hlt fun e => h.2.2 (by injection e)) (fun b h _ => h.1), st X10.out.gr, ⟨r9, fun _ k hk => hQ.out k ?_⟩, st X10.out.lf⟩, b9⟩
  have := (hown8.out.lt k hk).1
  omega
end
end Go.Proofs.YtcaboknbdamlhaaGreatDoor
namespace Go.Proofs.YtcaboknbdamlhaaGreatDoor
open Go.RowKit Go.Shelf
theorem uSh_S (D : DS) (p : Int) : (uSh D p).1.S = D.S := by
  unfold uSh
  split
  · rfl
  · split
    · rfl
    · unfold uShade
      split <;> rfl
section
variable {Q : Nat → Prop} {w : World} {D : DS} {V : V18}
set_option maxHeartbeats 6400000 in
set_option maxRecDepth 100000 in
theorem rPut18 (H : XV Q w D V) (hQ : New Q w) (I : Inv0 D.S) (p f to : Int) (hgs : D.greys.length ≤ 4000) (hbs : D.black.length ≤ 4096) :
    Calls Tryz.prog 37 #[.agg (c18 V D.ph D.cyc), .int .i64 p, .int .i64 f, .int .i64 to, .bool true] w (R18 Q w (uPut D p f to).1 fun v => .returned (.tuple #[v, .int .i64 (uPut D p f to).2])) := by
  have ONE := Lib.hid (H.one D.ph D.cyc)
  have SZ := Lib.hid r18_size
  have SZh := Lib.hid rh_size
  replace H := Lib.hid H
  replace hQ := Lib.hid hQ
  obtain ⟨X, hX⟩ : ∃ X, X = uPut D p f to := ⟨_, rfl⟩
  rw [← hX]
  unfold uPut at hX
  obtain ⟨⟨x, er⟩, hx⟩ : ∃ r, sLoad D.S p f = r := ⟨_, rfl⟩
  obtain ⟨⟨n2, mask, is2⟩, hs⟩ : ∃ r, sSize D.S p = r := ⟨_, rfl⟩
  obtain ⟨ok, hok⟩ : ∃ b, decide (to = 0 ∨ (sSize D.S to).2.2 = true) = b := ⟨_, rfl⟩
  rw [hx, hs] at hX
  dsimp only at hX
  have hsb := size_bd I p
  rw [hs] at hsb
  dsimp only at hsb
  have hthe : er = sThere D.S p f := by
    have := congrArg Prod.snd hx
    unfold sLoad at this
    dsimp only at this
    split at this
    · rename_i e; exact this.symm.trans e.symm
    · exact this.symm
  have HLd := fun (wx : World) (h : XV Q wx D V) => rload_ok D.S _ _ _ _ wx h.rin I p f
  have HOb := fun (wx : World) (h : XV Q wx D V) => robj18 h I to
  have HSz := fun (wx : World) (h : XV Q wx D V) => rsize_ok D.S _ _ _ _ wx h.rin I p
  rw [hx] at HLd
  rw [hok] at HOb
  rw [hs] at HSz
  dsimp only at HLd HOb HSz
  replace HLd := Lib.hid HLd
  replace HOb := Lib.hid HOb
  replace HSz := Lib.hid HSz
  replace hX := Lib.hid hX
  replace hx := Lib.hid hx
  replace hs := Lib.hid hs
  replace hok := Lib.hid hok
  replace hsb := Lib.hid hsb
  replace hthe := Lib.hid hthe
  replace I := Lib.hid I
  go_enter Tryz.func37, Tryz.ntmps37
  go_wp2_with (first
    | (refine wpList_new rfl (.box 42 (.tmp 0)) rfl w.heap.size rfl 42 (c18 V D.ph D.cyc) (by kernel_rfl) ?_; intro w1 hs1 hb1 hB1)
    | (refine wpList_new rfl (.alloc 42) rfl (w.heap.size + 1) hs1 42 n18 (by kernel_rfl) ?_; intro w2 hs2 hb2 hB2; refine stop_here ?_))
  have HB := hB1.below hb2 (by omega)
  have HR := hB2
  have b2 : Below w.heap.size w w2 := hb1.trans (hb2.mono (by omega))
  have hz2 : w2.heap.size = w.heap.size + 2 := by omega
  obtain ⟨gX, hgX⟩ : ∃ gX, gX = w.heap.size := ⟨_, rfl⟩
  obtain ⟨gR, hgR⟩ : ∃ gR, gR = w.heap.size + 1 := ⟨_, rfl⟩
  rw [← hgR] at HR ⊢
  rw [← hgX] at HB ⊢
  have hXR : gX ≠ gR := by omega
  replace hgX := Lib.hid hgX
  replace hgR := Lib.hid hgR
  replace hz2 := Lib.hid hz2
  clear hs1 hB1 hb1 hB2 hs2 hb2
  refine go_on ?_
  go_wp2_with (refine wpList_load_mid rfl 40 (.tmp 22) rfl gX 0 rfl [V.vw, V.vc, V.f 0, V.f 1, V.f 2, V.f 3, V.vo] _ (World.rangeAt_of_block HB 0 7) Tryz.underlying40 rfl SZh.out ?_)
  refine (HLd.out _ (H.out.below b2)).mono ?_
  rintro e w3 ⟨rfl, b3⟩
  have HB3 := HB.below b3 HB.lt
  have HR3 := HR.below b3 HR.lt
  have b3w := b2.trans (b3.mono b2.size)
  clear HB HR HLd
  by_cases h0 : er = 0
  case neg =>
    have z0 : (er == 0) = false := beq_eq_false_iff_ne.2 h0
    have z2 : (er != 0) = true := by simpa using h0
    have hX1 : X = (D, 11) := by rw [hX.out, if_pos (.inl h0)]
    subst hX1
    go_wp2_with (first
      | (refine wpList_load_blk rfl 42 (.tmp 5) rfl gX rfl 42 (c18 V D.ph D.cyc) HB3 _ Tryz.underlying42 rfl SZ.out ?_)
      | (refine wpList_store_blk rfl 42 (.tmp 10) (.tmp 37) rfl gR rfl (c18 V D.ph D.cyc) rfl 42 n18 HR3 SZ.out rfl ONE.out ?_; intro w9 hR9 hg9 hs9))
    have b9 := b3w.grown hg9 b3w.size (fun k hk => by cases hk; have := hgR.out; omega)
    refine bodyPost_ret (res_cell_tmp rfl rfl hR9 Tryz.underlying42 rfl SZ.out) rfl ⟨V, rfl, H.out.below b9, b9⟩
  subst h0
  go_wp2_with (refine wpList_wants (by kernel_rfl) fun _ hK => wp_load_mid 42 (.tmp 5) rfl gX 0 rfl [V.vw, V.vc, V.f 0, V.f 1, V.f 2, V.f 3, V.vo, V.vg, V.vb, .int .i64 D.ph, V.vl, .int .i64 D.cyc] _ (World.rangeAt_of_block HB3 0 12) Tryz.underlying42 rfl SZ.out (hK _ _ ?_))
  refine (HOb.out _ (H.out.below b3w)).mono ?_
  rintro e w4 ⟨rfl, b4⟩
  have HB4 := HB3.below b4 HB3.lt
  have HR4 := HR3.below b4 HR3.lt
  have b4w := b3w.trans (b4.mono b3w.size)
  clear HB3 HR3 HOb
  rcases ok with _ | _
  · have hX1 : X = (D, 11) := by rw [hX.out, if_pos (.inr (of_decide_eq_false hok.out))]
    subst hX1
    go_wp2_with (first
      | (refine wpList_load_blk rfl 42 (.tmp 5) rfl gX rfl 42 (c18 V D.ph D.cyc) HB4 _ Tryz.underlying42 rfl SZ.out ?_)
      | (refine wpList_store_blk rfl 42 (.tmp 10) (.tmp 37) rfl gR rfl (c18 V D.ph D.cyc) rfl 42 n18 HR4 SZ.out rfl ONE.out ?_; intro w9 hR9 hg9 hs9))
    have b9 := b4w.grown hg9 b4w.size (fun k hk => by cases hk; have := hgR.out; omega)
    refine bodyPost_ret (res_cell_tmp rfl rfl hR9 Tryz.underlying42 rfl SZ.out) rfl ⟨V, rfl, H.out.below b9, b9⟩
  have hgood : ¬ ((0 : Int) ≠ 0 ∨ ¬ (to = 0 ∨ (sSize D.S to).2.2 = true)) := fun h => h.elim (fun h => h rfl) fun h => h (of_decide_eq_true hok.out)
  have hfj : 0 ≤ f ∧ f < n2 := by
    have h1 := hthe.out.symm
    unfold sThere at h1
    split at h1
    · omega
    · rename_i hn
      rw [hs.out] at hn
      dsimp only at hn
      omega
  obtain ⟨j, rfl⟩ : ∃ j : Nat, f = (j : Int) := ⟨f.toNat, by omega⟩
  have hj5 : j ≤ 5 := by have := hsb.out; omega
  have hmk : 0 ≤ mask ∧ mask ≤ 255 := by have := hsb.out; omega
  have HBt := rbit18 mask j hmk hj5
  have hX2 := hX.out
  rw [if_neg hgood, Int.toNat_natCast] at hX2
  obtain ⟨bt, hbt⟩ : ∃ b, mBit mask j = b := ⟨_, rfl⟩
  rw [hbt] at hX2 HBt
  replace HBt := Lib.hid HBt
  replace hX2 := Lib.hid hX2
  replace hbt := Lib.hid hbt
  replace hgood := Lib.hid hgood
  clear hX hthe hsb hmk hfj
  go_wp2_with (refine wpList_load_mid rfl 40 (.tmp 39) rfl gX 0 rfl [V.vw, V.vc, V.f 0, V.f 1, V.f 2, V.f 3, V.vo] _ (World.rangeAt_of_block HB4 0 7) Tryz.underlying40 rfl SZh.out ?_)
  refine (HSz.out _ (H.out.below b4w)).mono ?_
  rintro e w5 ⟨rfl, b5⟩
  have HB5 := HB4.below b5 HB4.lt
  have HR5 := HR4.below b5 HR4.lt
  have b5w := b4w.trans (b5.mono b4w.size)
  clear HB4 HR4 HSz
  go_wp2_with fail
  refine (HBt.out w5).mono ?_
  rintro e _ ⟨rfl, rfl⟩
  rcases bt with _ | _
  · have hX1 : X = (D, 2) := by rw [hX2.out, if_pos rfl]
    subst hX1
    go_wp2_with (first
      | (refine wpList_load_blk rfl 42 (.tmp 5) rfl gX rfl 42 (c18 V D.ph D.cyc) HB5 _ Tryz.underlying42 rfl SZ.out ?_)
      | (refine wpList_store_blk rfl 42 (.tmp 10) (.tmp 50) rfl gR rfl (c18 V D.ph D.cyc) rfl 42 n18 HR5 SZ.out rfl ONE.out ?_; intro w9 hR9 hg9 hs9))
    have b9 := b5w.grown hg9 b5w.size (fun k hk => by cases hk; have := hgR.out; omega)
    refine bodyPost_ret (res_cell_tmp rfl rfl hR9 Tryz.underlying42 rfl SZ.out) rfl ⟨V, rfl, H.out.below b9, b9⟩
  have HS := rSh18 (Q := fun b => Q b ∧ b ≠ gX ∧ b ≠ gR) (H.out.apart b5w hgX.out hgR.out) (fun b hb => ⟨hQ.out b (Nat.le_trans b5w.size hb), by have := HB5.lt; omega, by have := HR5.lt; omega⟩) I.out x hgs hbs
  have hSS := uSh_S D x
  obtain ⟨⟨D', ek⟩, hsh⟩ : ∃ r, uSh D x = r := ⟨_, rfl⟩
  rw [hsh] at HS hSS
  dsimp only at HS hSS
  have hX3 := hX2.out
  rw [if_neg (by simp), hsh] at hX3
  dsimp only at hX3
  replace HS := Lib.hid HS
  replace hX3 := Lib.hid hX3
  replace hsh := Lib.hid hsh
  replace hSS := Lib.hid hSS
  clear hX2
  go_wp2_with (refine wpList_load_blk rfl 42 (.tmp 5) rfl gX rfl 42 (c18 V D.ph D.cyc) HB5 _ Tryz.underlying42 rfl SZ.out ?_)
  refine HS.out.mono ?_
  rintro e w6 ⟨V4, rfl, H6, b6⟩
  have HB6 := HB5.below b6 HB5.lt
  have HR6 := HR5.below b6 HR5.lt
  have b6w := b5w.trans (b6.mono b5w.size)
  have ONE4 := Lib.hid (H6.one D'.ph D'.cyc)
  replace H6 := Lib.hid H6
  clear HS HB5 HR5
  go_wp2_with (first
    | (refine wpList_new rfl (.alloc 42) rfl w6.heap.size rfl 42 n18 (by kernel_rfl) ?_; intro w7 hs7 hb7 hB7; have HB7 := Lib.hid hB7; clear hB7)
    | (refine wpList_store_blk rfl 42 (.tmp 17) (.tmp 56) rfl w6.heap.size rfl (c18 V4 D'.ph D'.cyc) rfl 42 n18 HB7.out SZ.out rfl ONE4.out ?_; intro w8 hR8 hg8 hs8; refine stop_here ?_))
  have hb8 : Below w6.heap.size w6 w8 := hb7.grown hg8 hb7.size (fun k hk => by cases hk; exact Nat.le_refl _)
  have HB8 := HB6.below hb8 HB6.lt
  have HR8x := HR6.below hb8 HR6.lt
  have b8w := b6w.trans (hb8.mono b6w.size)
  have H8 := Lib.hid (H6.out.below hb8)
  have hgS1 : gX < w6.heap.size := HB6.lt
  have hgS2 : gR < w6.heap.size := HR6.lt
  obtain ⟨gS, hgS⟩ : ∃ gS, gS = w6.heap.size := ⟨_, rfl⟩
  rw [← hgS] at hR8 hgS1 hgS2 ⊢
  replace hgS := Lib.hid hgS
  clear HB6 HR6 H6 HB7 hb7 hs7 hg8 hs8 hb8
  refine go_on ?_
  by_cases hk : ek = 0
  case neg =>
    have z0 : (ek == 0) = false := beq_eq_false_iff_ne.2 hk
    have z2 : (ek != 0) = true := by simpa using hk
    have hX1 : X = (D, ek) := by rw [hX3.out, if_pos hk]
    subst hX1
    go_wp2_with (first
      | (refine wpList_load_blk rfl 42 (.tmp 5) rfl gX rfl 42 (c18 V D.ph D.cyc) HB8 _ Tryz.underlying42 rfl SZ.out ?_)
      | (refine wpList_store_blk rfl 42 (.tmp 10) (.tmp 60) rfl gR rfl (c18 V D.ph D.cyc) rfl 42 n18 HR8x SZ.out rfl ONE.out ?_; intro w9 hR9 hg9 hs9))
    have b9 := b8w.grown hg9 b8w.size (fun k hk => by cases hk; have := hgR.out; omega)
    refine bodyPost_ret (res_cell_tmp rfl rfl hR9 Tryz.underlying42 rfl SZ.out) rfl ⟨V, rfl, H.out.below b9, b9⟩
  subst hk
  have hX1 : X = ({ D' with S := sStore D'.S p j to }, 0) := by rw [hX3.out, if_neg (by simp)]
  subst hX1
  clear hX3
  go_wp2_with (first
    | (refine wpList_load_blk rfl 42 (.tmp 17) rfl gS rfl 42 (c18 V4 D'.ph D'.cyc) hR8 _ Tryz.underlying42 rfl SZ.out ?_)
    | (refine wpList_store_blk rfl 42 (.tmp 5) (.tmp 62) rfl gX rfl (c18 V4 D'.ph D'.cyc) rfl 42 (c18 V D.ph D.cyc) HB8 SZ.out rfl ONE4.out ?_; intro w10 hR10 hg10 hs10; refine stop_here ?_))
  have b10w := b8w.grown hg10 b8w.size (fun k hk => by cases hk; have := hgX.out; omega)
  have HR10 := HR8x.grown hg10 (fun e => by injection e with e; exact hXR e.symm)
  have H10 : XV (fun b => Q b ∧ b ≠ gX ∧ b ≠ gR) w10 D' V4 := H8.out.keepQ hg10.size (fun b h hlt => hg10.block b hlt fun e => h.2.1 (by injection e)) fun b h _ => h
  have hgX10 := hR10.lt
  have hgR10 := HR10.lt
  have HST := Lib.hid (rstore_ok (Q := fun b => Q b ∧ b ≠ gX ∧ b ≠ gR) D'.S _ _ _ _ w10 H10.rin (fun b hb => ⟨hQ.out b (Nat.le_trans b10w.size hb), by omega, by omega⟩) (by rw [hSS.out]; exact I.out) p j to)
  replace H10 := Lib.hid H10
  clear HB8 HR8x H8 hg10 hs10 hR8 b8w
  refine go_on ?_
  go_wp2_with (refine wpList_load_mid rfl 40 (.tmp 64) rfl gX 0 rfl [V4.vw, V4.vc, V4.f 0, V4.f 1, V4.f 2, V4.f 3, V4.vo] _ (World.rangeAt_of_block hR10 0 7) Tryz.underlying40 rfl SZh.out ?_)
  refine HST.out.mono ?_
  rintro e w11 ⟨vw, vc, fv, vo, rfl, H11, b11⟩
  have HB11 := hR10.below b11 hR10.lt
  have HR11 := HR10.below b11 HR10.lt
  have b11w := b10w.trans (b11.mono b10w.size)
  have X11 := Lib.hid (H10.out.below b11)
  have O11 := Lib.hid (slices_one H11.slices)
  replace H11 := Lib.hid H11
  clear HST hR10 HR10 H10
  go_wp2_with (first
    | (refine wpList_new rfl (.alloc 40) rfl w11.heap.size rfl 40 rnil (by kernel_rfl) ?_; intro w12 hs12 hb12 hB12; have HB12 := Lib.hid hB12; clear hB12)
    | (refine wpList_store_blk rfl 40 (.tmp 19) (.tmp 70) rfl w11.heap.size rfl (rcells vw vc fv vo) rfl 40 rnil HB12.out SZh.out rfl O11.out ?_; intro w13 hR13 hg13 hs13; refine stop_here ?_))
  have hb13 : Below w11.heap.size w11 w13 := hb12.grown hg13 hb12.size (fun k hk => by cases hk; exact Nat.le_refl _)
  have HB13 := HB11.below hb13 HB11.lt
  have HR13 := HR11.below hb13 HR11.lt
  have b13w := b11w.trans (hb13.mono b11w.size)
  have H13 := Lib.hid (H11.out.keepQ (Q' := fun b => Q b ∧ b ≠ gX ∧ b ≠ gR) hb13.size (fun b _ hlt => hb13.block b hlt) (fun _ h _ => h))
  have X13 := Lib.hid (X11.out.below hb13)
  obtain ⟨gH, hgH⟩ : ∃ gH, gH = w11.heap.size := ⟨_, rfl⟩
  rw [← hgH] at hR13 ⊢
  replace hgH := Lib.hid hgH
  clear HB11 HR11 hb13 hg13 hs13 hb12 hs12 HB12 H11 X11
  refine go_on ?_
  obtain ⟨t14, B14, hg14, hs14⟩ := blk_heap HB13 vw vc fv vo
  have R14 := HR13.grown hg14 (fun e => by injection e with e; exact hXR e.symm)
  have b14 : Below w.heap.size w _ := b13w.grown hg14 b13w.size (fun k hk => by cases hk; have := hgX.out; omega)
  have X14 : Hid (XV (fun b => Q b ∧ b ≠ gX ∧ b ≠ gR) _ { D' with S := sStore D'.S p j to } (V4.heap vw vc fv vo)) := Lib.hid
    (have X := X13.out.keepQ (Q' := fun b => Q b ∧ b ≠ gX ∧ b ≠ gR) (Nat.le_of_eq hs14.symm) (fun b h hlt => hg14.block b hlt fun e => h.2.1 (by injection e)) (fun _ h _ => h)
     ⟨H13.out.keepQ (Q' := fun b => Q b ∧ b ≠ gX ∧ b ≠ gR) (Nat.le_of_eq hs14.symm) (fun b h hlt => hg14.block b hlt fun e => h.2.1 (by injection e)) (fun _ h _ => h), X.gr, X.bl, X.lf⟩)
  have ONE14 := Lib.hid (X14.out.one D'.ph D'.cyc)
  replace t14 := Lib.hid t14
  replace b14 := Lib.hid b14
  replace B14 := Lib.hid B14
  replace R14 := Lib.hid R14
  clear hg14 hs14 H13 X13
  go_wp2_with (first
    | (refine wpList_load_blk rfl 40 (.tmp 19) rfl gH rfl 40 (rcells vw vc fv vo) hR13 _ Tryz.underlying40 rfl SZh.out ?_)
    | (refine wpList_store_mid rfl 40 (.tmp 73) (.tmp 72) rfl gX 0 (rcells vw vc fv vo) rfl rfl t14.out SZh.out O11.out ?_; refine stop_here ?_))
  dsimp only [rcells]
  obtain ⟨w14, hw14⟩ : ∃ w14, w14 = w13.setCells gX 0 [vw, vc, fv 0, fv 1, fv 2, fv 3, vo] := ⟨_, rfl⟩
  rw [← hw14] at X14 B14 R14 b14 ⊢
  replace hw14 := Lib.hid hw14
  clear t14 HB13 HR13 b13w hR13
  refine go_on ?_
  go_wp2_with (first
    | (refine wpList_load_blk rfl 42 (.tmp 5) rfl gX rfl 42 (c18 (V4.heap vw vc fv vo) D'.ph D'.cyc) B14.out _ Tryz.underlying42 rfl SZ.out ?_)
    | (refine wpList_store_blk rfl 42 (.tmp 10) (.tmp 74) rfl gR rfl (c18 (V4.heap vw vc fv vo) D'.ph D'.cyc) rfl 42 n18 R14.out SZ.out rfl ONE14.out ?_; intro w9 hR9 hg9 hs9))
  have b9 := b14.out.grown hg9 b14.out.size (fun k hk => by cases hk; have := hgR.out; omega)
  refine bodyPost_ret (res_cell_tmp rfl rfl hR9 Tryz.underlying42 rfl SZ.out) rfl ⟨V4.heap vw vc fv vo, rfl, X14.out.stored hg9 fun b h => ⟨h.1, h.2.2⟩, b9⟩
end
def u0 (N : Nat) : DS := ⟨sNew N, [], [], 0, [], 0⟩
set_option maxHeartbeats 3200000 in
set_option maxRecDepth 100000 in
theorem rNew18 {Q : Nat → Prop} (N : Nat) (w : World) (h2 : N ≤ 512) (hQ : New Q w) :
    Calls Tryz.prog 31 #[.int .i64 (N : Int)] w (R18 Q w (u0 N) Ending.returned) := by
  have SZ := Lib.hid r18_size
  replace hQ := Lib.hid hQ
  go_enter Tryz.func31, Tryz.ntmps31
  go_wp2_with (refine wpList_new rfl (.alloc 42) rfl w.heap.size rfl 42 n18 (by kernel_rfl) ?_; intro w1 hs1 hb1 hB1; refine stop_here ?_)
  refine go_on ?_
  obtain ⟨gR, hgR⟩ : ∃ gR, gR = w.heap.size := ⟨_, rfl⟩
  rw [← hgR] at hB1 ⊢
  have hgl := hB1.lt
  replace hgR := Lib.hid hgR
  go_wp2_with fail
  refine (rnew_ok (Q := fun b => Q b ∧ b ≠ gR) N w1 h2 (fun b hb => ⟨hQ.out b (Nat.le_trans hb1.size hb), by omega⟩)).mono ?_
  rintro e w2 ⟨vw, vc, f, vo, rfl, H2, b2⟩
  have HR2 := hB1.below b2 hB1.lt
  have b2w := hb1.trans (b2.mono hb1.size)
  have X2 : XV (fun b => Q b ∧ b ≠ gR) w2 (u0 N) ⟨vw, vc, f, vo, .slice none 0 0, .slice none 0 0, .slice none 0 0⟩ := ⟨H2, ⟨Rd.none_ _ _, fun hp => absurd hp (by simp [u0])⟩, ⟨Rd.none_ _ _, fun hp => absurd hp (by simp [u0])⟩, ⟨Rd.none_ _ _, fun hp => absurd hp (by simp [u0])⟩⟩
  have ONE := Lib.hid (X2.one 0 0)
  replace X2 := Lib.hid X2
  replace H2 := Lib.hid H2
  clear hB1 hs1
  dsimp only [rcells]
  go_wp2_with (refine wpList_store_blk rfl 42 (.tmp 2) (.tmp 5) rfl gR rfl (c18 ⟨vw, vc, f, vo, .slice none 0 0, .slice none 0 0, .slice none 0 0⟩ 0 0) rfl 42 n18 HR2 SZ.out rfl ONE.out ?_; intro w9 hR9 hg9 hs9)
  have b9 := b2w.grown hg9 b2w.size (fun k hk => by cases hk; have := hgR.out; omega)
  refine bodyPost_ret (res_cell rfl rfl hR9 Tryz.underlying42 rfl SZ.out) rfl ⟨_, rfl, X2.out.stored hg9 fun b h => ⟨h.1, h.2⟩, b9⟩
section
variable {Q : Nat → Prop} {w : World} {D : DS} {V : V18}
set_option maxHeartbeats 3200000 in
set_option maxRecDepth 100000 in
theorem rStep18_off (H : XV Q w D V) (h0 : D.ph = 0) (junk : Int) :
    Calls Tryz.prog 34 #[.agg (c18 V D.ph D.cyc), .int .i64 junk] w (R18 Q w D fun v => .returned (.tuple #[v, .int .i64 0, .int .i64 0])) := by
  have ONE := Lib.hid (H.one D.ph D.cyc)
  have SZ := Lib.hid r18_size
  replace H := Lib.hid H
  replace h0 := Lib.hid h0
  go_enter Tryz.func34, Tryz.ntmps34
  go_wp2_with (first
    | (refine wpList_new rfl (.box 42 (.tmp 0)) rfl w.heap.size rfl 42 (c18 V D.ph D.cyc) (by kernel_rfl) ?_; intro w1 hs1 hb1 hB1)
    | (refine wpList_new rfl (.alloc 42) rfl (w.heap.size + 1) hs1 42 n18 (by kernel_rfl) ?_; intro w2 hs2 hb2 hB2; refine stop_here ?_))
  have HB := hB1.below hb2 (by omega)
  have HR := hB2
  have b2 : Below w.heap.size w w2 := hb1.trans (hb2.mono (by omega))
  have hz2 : w2.heap.size = w.heap.size + 2 := by omega
  obtain ⟨gX, hgX⟩ : ∃ gX, gX = w.heap.size := ⟨_, rfl⟩
  obtain ⟨gR, hgR⟩ : ∃ gR, gR = w.heap.size + 1 := ⟨_, rfl⟩
  rw [← hgR] at HR ⊢
  rw [← hgX] at HB ⊢
  have hXR : gX ≠ gR := by omega
  replace hgX := Lib.hid hgX
  replace hgR := Lib.hid hgR
  replace hz2 := Lib.hid hz2
  clear hs1 hB1 hb1 hB2 hs2 hb2
  have q9 : w2.cell? ⟨gX, 9, none⟩ = some (.int .i64 D.ph) := HB.cell 9
  rw [h0.out] at q9
  refine go_on ?_
  go_wp2_with (first
    | (refine wpList_load_blk rfl 42 (.tmp 2) rfl gX rfl 42 (c18 V D.ph D.cyc) HB _ Tryz.underlying42 rfl SZ.out ?_)
    | (refine wpList_store_blk rfl 42 (.tmp 4) (.tmp 69) rfl gR rfl (c18 V D.ph D.cyc) rfl 42 n18 HR SZ.out rfl ONE.out ?_; intro w9 hR9 hg9 hs9))
  have b9 := b2.grown hg9 b2.size (fun k hk => by cases hk; have := hgR.out; omega)
  refine bodyPost_ret (res_cell_2 rfl rfl hR9 Tryz.underlying42 rfl SZ.out) rfl ⟨V, rfl, H.out.below b9, b9⟩
end
end Go.Proofs.YtcaboknbdamlhaaGreatDoor
namespace Go.Proofs.YtcaboknbdamlhaaGreatDoor
open Go.RowKit Go.Shelf
theorem heap_lt {w w' : World} {b : Nat} (hlt : b < w.heap.size) (h : w'.heap[b]? = w.heap[b]?) : b < w'.heap.size := by
  rw [Array.getElem?_eq_getElem hlt] at h
  exact (Array.getElem?_eq_some_iff.1 h).1
theorem Rd.same {α : Type} {enc : α → Value} {w w' : World} {v : Value} {xs : List α} (h : Rd enc w v xs) (hk : 0 < xs.length → ∀ b, v.ownBlock = some b → b < w.heap.size → w'.heap[b]? = w.heap[b]?) : Rd enc w' v xs := by
  obtain ⟨A, c, rfl, h1, h3⟩ := h
  refine ⟨A, c, rfl, h1, fun hp => ?_⟩
  obtain ⟨b, o, rfl, hlt, hc⟩ := h3 hp
  have he := hk hp b rfl hlt
  exact ⟨b, o, rfl, heap_lt hlt he, fun i hi => (World.cell?_of_block he).trans (hc i hi)⟩
theorem RdC.same {α : Type} {k : Nat} {enc : α → List Value} {w w' : World} {v : Value} {xs : List α} (h : RdC k enc w v xs) (hb : 0 < xs.length → ∀ b, v.ownBlock = some b → b < w.heap.size → w'.heap[b]? = w.heap[b]?) : RdC k enc w' v xs := by
  obtain ⟨A, c, rfl, h1, h3⟩ := h
  refine ⟨A, c, rfl, h1, fun hp => ?_⟩
  obtain ⟨b, o, rfl, hlt, hc⟩ := h3 hp
  have he := hb hp b rfl hlt
  refine ⟨b, o, rfl, heap_lt hlt he, fun i hi j u hu => (World.cell?_of_block he).trans (hc i hi j u hu)⟩
theorem XV.same {Q Q' : Nat → Prop} {w w' : World} {D : DS} {V : V18} (H : XV Q w D V) (hk : ∀ b, Q b → b < w.heap.size → w'.heap[b]? = w.heap[b]?) (hQ : ∀ b, Q b → b < w.heap.size → Q' b) : XV Q' w' D V := by
  have hg : ∀ {v : Value} {xs : List Int}, RdG Q i64e w v xs → RdG Q' i64e w' v xs := fun h => ⟨h.rd.same fun hp b e hlt => hk b (h.inP hp b e) hlt, fun hp b e => hQ b (h.inP hp b e) (rd_own_lt h.rd hp e)⟩
  refine ⟨?_, hg H.gr, hg H.bl, hg H.lf⟩
  have R := H.rin
  exact ⟨R.words.same fun hp b e hlt => hk b (R.qw hp b e) hlt, R.cls.same fun hp b e hlt => hk b (R.qc hp b e) hlt,
    fun j hj => (R.fr j hj).same fun hp b e hlt => hk b (R.qf j hj hp b e) hlt, R.objs.same fun hp b e hlt => hk b (R.qo hp b e) hlt,
    fun hp b e => hQ b (R.qw hp b e) (rd_own_lt R.words hp e), fun hp b e => hQ b (R.qc hp b e) (rd_own_lt R.cls hp e),
    fun j hj hp b e => hQ b (R.qf j hj hp b e) (rd_own_lt (R.fr j hj) hp e), fun hp b e => hQ b (R.qo hp b e) (rdc_own_lt R.objs hp e)⟩
/-- More blocks are kept. -/
def W0.add (w0 : W0) (X : Nat → Prop) (w : World) : W0 := ⟨w0.base, fun k => w0.Q k ∨ X k, w⟩
section
variable {w0 v0 v1 : W0} {w w' w1 : World} {q s h m : Nat} {T T' : SS} {D D' : DS}
theorem LS.fen (H : LS w0 w s h m T) : Fen w0 w := by obtain ⟨_, _, _, _, _, b⟩ := H; exact b
theorem LS.rebase (H : LS v0 w s h m T) (hf : ∀ k, k < w.heap.size → v0.free k → v1.free k) (fe : Fen v1 w) : LS v1 w s h m T := by
  obtain ⟨F, D, G, W, hF, b⟩ := H
  refine ⟨F, D, G, W, fun k hk => hf k ?_ (hF k hk), fe⟩
  rcases hk with h | h | h
  · exact W.mm.hp.lt k h
  · exact W.mm.dlt k h
  · exact W.glt k h
/-- Blocks that are kept are written: the store stays as it is. -/
theorem LS.wrote (H : LS v0 w s h m T) (hs : w.heap.size ≤ w'.heap.size) (hk : ∀ k, k < w.heap.size → (v0.free k ∨ k = 0) → w'.heap[k]? = w.heap[k]?) (hf : ∀ k, k < w.heap.size → v0.free k → v1.free k) (fe : Fen v1 w') : LS v1 w' s h m T := by
  obtain ⟨F, D, G, W, hF, b⟩ := H
  obtain ⟨vl, I⟩ := W.si
  have hlt : ∀ k, F k ∨ D k ∨ G k → k < w.heap.size := fun k hk => hk.elim (W.mm.hp.lt k) fun h => h.elim (W.mm.dlt k) (W.glt k)
  exact ⟨F, D, G, ⟨W.mm.keep hs fun k hlt' h => hk k hlt' (h.elim (fun h => .inl (hF k (.inl h))) fun h => h.elim (fun h => .inl (hF k (.inr (.inl h)))) .inr), ⟨vl, I.keep hs fun k hG => hk k (I.lt k hG) (.inl (hF k (.inr (.inr hG))))⟩, W.df, W.dd, W.tb⟩,
    fun k h => hf k (hlt k h) (hF k h), fe⟩
def x13 (s : Nat) (V : V18) (ph cyc : Int) : Array Value := #[.pointer (some ⟨s, 0, none⟩), V.vw, V.vc, V.f 0, V.f 1, V.f 2, V.f 3, V.vo, V.vg, V.vb, .int .i64 ph, V.vl, .int .i64 cyc]
/-- The law's world: a store behind a fence, the document's own blocks X. -/
def LX (w0 : W0) (w : World) (q s h m : Nat) (T : SS) (D : DS) : Prop :=
  ∃ (X : Nat → Prop) (V : V18), LS (w0.add X w) w s h m T ∧ Fen w0 w ∧ (∀ k, X k → w0.free k) ∧ X q ∧ q ≠ 0 ∧ XV (fun b => X b ∧ b ≠ q) w D V ∧ Blk w q 44 (x13 s V D.ph D.cyc)
theorem LX.b (H : LX w0 w q s h m T D) : Below w0.base.heap.size w0.base w := by obtain ⟨_, _, _, fe, _⟩ := H; exact fe.b
theorem LX.ls (H : LX w0 w q s h m T D) : ∃ v0, LS v0 w s h m T := by obtain ⟨X, _, L, _⟩ := H; exact ⟨_, L⟩
theorem LX.inv (H : LX w0 w q s h m T D) : Inv T.S := by obtain ⟨v0, L⟩ := H.ls; exact L.inv
theorem LX.cells (H : LX w0 w q s h m T D) : w.cell? ⟨q, 0, none⟩ = some (.pointer (some ⟨s, 0, none⟩)) ∧ q < w.heap.size ∧ w0.base.heap.size ≤ q := by
  obtain ⟨X, V, L, fe, hX, hq, _, xv, B⟩ := H
  exact ⟨B.cell 0, B.lt, (hX q hq).1⟩
/-- A call of the store's. -/
theorem LX.call {f : FuncId} {args : Array Value} {P : Ending → World → Prop} (H : LX w0 w q s h m T D) (hc : ∀ v0, LS v0 w s h m T → Calls Tryz.prog f args w fun e w' => P e w' ∧ LS v0 w' s h m T') : Calls Tryz.prog f args w fun e w' => P e w' ∧ LX w0 w' q s h m T' D := by
  obtain ⟨X, V, L, fe, hX, hq, hqt, xv, B⟩ := H
  refine (hc _ L).mono ?_
  rintro e w' ⟨hp, L'⟩
  have k' : ∀ k, w0.Q k ∨ X k → k < w'.heap.size ∧ w'.heap[k]? = w.heap[k]? := L'.fen.kept
  refine ⟨hp, X, V, L'.rebase (fun k _ hf => hf) ⟨L'.fen.b, fun k hk => ⟨(k' k hk).1, rfl⟩⟩, ⟨L'.fen.b, fun k hk => ⟨(k' k (.inl hk)).1, (k' k (.inl hk)).2.trans (fe.kept k hk).2⟩⟩, hX, hq, hqt,
    xv.same (fun b hb _ => (k' b (.inr hb.1)).2) (fun b hb _ => hb), (k' q (.inr hq)).2.trans B⟩
theorem LX.below (H : LX w0 w q s h m T D) (hb : Below w.heap.size w w') : LX w0 w' q s h m T D := by
  obtain ⟨X, V, L, fe, hX, hq, hqt, xv, B⟩ := H
  have L' := L.below hb
  have k' : ∀ k, w0.Q k ∨ X k → k < w'.heap.size ∧ w'.heap[k]? = w.heap[k]? := L'.fen.kept
  exact ⟨X, V, L'.rebase (fun k _ hf => hf) ⟨L'.fen.b, fun k hk => ⟨(k' k hk).1, rfl⟩⟩, fe.below hb, hX, hq, hqt, xv.same (fun b hb _ => (k' b (.inr hb.1)).2) (fun b hb _ => hb), (k' q (.inr hq)).2.trans B⟩
theorem setCells12 (w : World) (g o : Nat) (a b c d e f h i j k l n : Value) : w.setCells g o [a, b, c, d, e, f, h, i, j, k, l, n] = (((((((((((w.setCell ⟨g, o, none⟩ a).setCell ⟨g, o + 1, none⟩ b).setCell ⟨g, o + 1 + 1, none⟩ c).setCell ⟨g, o + 1 + 1 + 1, none⟩ d).setCell ⟨g, o + 1 + 1 + 1 + 1, none⟩ e).setCell ⟨g, o + 1 + 1 + 1 + 1 + 1, none⟩ f).setCell ⟨g, o + 1 + 1 + 1 + 1 + 1 + 1, none⟩ h).setCell ⟨g, o + 1 + 1 + 1 + 1 + 1 + 1 + 1, none⟩ i).setCell ⟨g, o + 1 + 1 + 1 + 1 + 1 + 1 + 1 + 1, none⟩ j).setCell ⟨g, o + 1 + 1 + 1 + 1 + 1 + 1 + 1 + 1 + 1, none⟩ k).setCell ⟨g, o + 1 + 1 + 1 + 1 + 1 + 1 + 1 + 1 + 1 + 1, none⟩ l).setCell ⟨g, o + 1 + 1 + 1 + 1 + 1 + 1 + 1 + 1 + 1 + 1 + 1, none⟩ n := by
  unfold World.setCells World.setCells World.setCells World.setCells World.setCells World.setCells World.setCells World.setCells World.setCells World.setCells World.setCells World.setCells World.setCells
  rfl
theorem blk_doc {V : V18} {ph cyc : Int} (hB : Blk w q 44 (x13 s V ph cyc)) (V' : V18) (ph' cyc' : Int) :
    w.there q 1 12 ∧ Blk (w.setCells q 1 [V'.vw, V'.vc, V'.f 0, V'.f 1, V'.f 2, V'.f 3, V'.vo, V'.vg, V'.vb, .int .i64 ph', V'.vl, .int .i64 cyc']) q 44 (x13 s V' ph' cyc') ∧ w.grownBy (w.setCells q 1 [V'.vw, V'.vc, V'.f 0, V'.f 1, V'.f 2, V'.f 3, V'.vo, V'.vg, V'.vb, .int .i64 ph', V'.vl, .int .i64 cyc']) (some q) ∧ (w.setCells q 1 [V'.vw, V'.vc, V'.f 0, V'.f 1, V'.f 2, V'.f 3, V'.vo, V'.vg, V'.vb, .int .i64 ph', V'.vl, .int .i64 cyc']).heap.size = w.heap.size := by
  have hz : (w.setCells q 1 [V'.vw, V'.vc, V'.f 0, V'.f 1, V'.f 2, V'.f 3, V'.vo, V'.vg, V'.vb, .int .i64 ph', V'.vl, .int .i64 cyc']).heap.size = w.heap.size := by rw [setCells12]; simp only [setCell_size]
  refine ⟨fun j hj => ⟨?_, hB.frozen _⟩, ?_, ⟨by rw [setCells12]; simp only [sc_os], by rw [setCells12]; simp only [sc_tape], by rw [setCells12]; simp only [sc_out], by rw [hz]; exact Nat.le_refl _, fun k hk hne => ?_⟩, hz⟩
  · rw [hB.cell]
    rcases (show j = 0 ∨ j = 1 ∨ j = 2 ∨ j = 3 ∨ j = 4 ∨ j = 5 ∨ j = 6 ∨ j = 7 ∨ j = 8 ∨ j = 9 ∨ j = 10 ∨ j = 11 by omega) with rfl | rfl | rfl | rfl | rfl | rfl | rfl | rfl | rfl | rfl | rfl | rfl <;> rfl
  · rw [setCells12]
    have B1 : Blk _ q 44 #[.pointer (some ⟨s, 0, none⟩), V'.vw, V.vc, V.f 0, V.f 1, V.f 2, V.f 3, V.vo, V.vg, V.vb, .int .i64 ph, V.vl, .int .i64 cyc] := hB.set_ 1 (V'.vw)
    have B2 : Blk _ q 44 #[.pointer (some ⟨s, 0, none⟩), V'.vw, V'.vc, V.f 0, V.f 1, V.f 2, V.f 3, V.vo, V.vg, V.vb, .int .i64 ph, V.vl, .int .i64 cyc] := B1.set_ 2 (V'.vc)
    have B3 : Blk _ q 44 #[.pointer (some ⟨s, 0, none⟩), V'.vw, V'.vc, V'.f 0, V.f 1, V.f 2, V.f 3, V.vo, V.vg, V.vb, .int .i64 ph, V.vl, .int .i64 cyc] := B2.set_ 3 (V'.f 0)
    have B4 : Blk _ q 44 #[.pointer (some ⟨s, 0, none⟩), V'.vw, V'.vc, V'.f 0, V'.f 1, V.f 2, V.f 3, V.vo, V.vg, V.vb, .int .i64 ph, V.vl, .int .i64 cyc] := B3.set_ 4 (V'.f 1)
    have B5 : Blk _ q 44 #[.pointer (some ⟨s, 0, none⟩), V'.vw, V'.vc, V'.f 0, V'.f 1, V'.f 2, V.f 3, V.vo, V.vg, V.vb, .int .i64 ph, V.vl, .int .i64 cyc] := B4.set_ 5 (V'.f 2)
    have B6 : Blk _ q 44 #[.pointer (some ⟨s, 0, none⟩), V'.vw, V'.vc, V'.f 0, V'.f 1, V'.f 2, V'.f 3, V.vo, V.vg, V.vb, .int .i64 ph, V.vl, .int .i64 cyc] := B5.set_ 6 (V'.f 3)
    have B7 : Blk _ q 44 #[.pointer (some ⟨s, 0, none⟩), V'.vw, V'.vc, V'.f 0, V'.f 1, V'.f 2, V'.f 3, V'.vo, V.vg, V.vb, .int .i64 ph, V.vl, .int .i64 cyc] := B6.set_ 7 (V'.vo)
    have B8 : Blk _ q 44 #[.pointer (some ⟨s, 0, none⟩), V'.vw, V'.vc, V'.f 0, V'.f 1, V'.f 2, V'.f 3, V'.vo, V'.vg, V.vb, .int .i64 ph, V.vl, .int .i64 cyc] := B7.set_ 8 (V'.vg)
    have B9 : Blk _ q 44 #[.pointer (some ⟨s, 0, none⟩), V'.vw, V'.vc, V'.f 0, V'.f 1, V'.f 2, V'.f 3, V'.vo, V'.vg, V'.vb, .int .i64 ph, V.vl, .int .i64 cyc] := B8.set_ 9 (V'.vb)
    have B10 : Blk _ q 44 #[.pointer (some ⟨s, 0, none⟩), V'.vw, V'.vc, V'.f 0, V'.f 1, V'.f 2, V'.f 3, V'.vo, V'.vg, V'.vb, .int .i64 ph', V.vl, .int .i64 cyc] := B9.set_ 10 (.int .i64 ph')
    have B11 : Blk _ q 44 #[.pointer (some ⟨s, 0, none⟩), V'.vw, V'.vc, V'.f 0, V'.f 1, V'.f 2, V'.f 3, V'.vo, V'.vg, V'.vb, .int .i64 ph', V'.vl, .int .i64 cyc] := B10.set_ 11 (V'.vl)
    have B12 : Blk _ q 44 #[.pointer (some ⟨s, 0, none⟩), V'.vw, V'.vc, V'.f 0, V'.f 1, V'.f 2, V'.f 3, V'.vo, V'.vg, V'.vb, .int .i64 ph', V'.vl, .int .i64 cyc'] := B11.set_ 12 (.int .i64 cyc')
    exact B12
  · have hk' : k ≠ q := fun e => hne (by rw [e])
    rw [setCells12]
    simp only [setCell_other _ q _ _ hk']
/-- The document's store is read, and laid anew. -/
theorem lx_open (H : LX w0 w q s h m T D) : ∃ (Q : Nat → Prop) (V : V18), New Q w ∧ XV Q w D V ∧ (∀ wx, Below w.heap.size w wx → wx.rangeAt q 1 [V.vw, V.vc, V.f 0, V.f 1, V.f 2, V.f 3, V.vo, V.vg, V.vb, .int .i64 D.ph, V.vl, .int .i64 D.cyc]) ∧
    ∀ w1 D' V', Below w.heap.size w w1 → XV Q w1 D' V' → w1.there q 1 12 ∧ (w1.setCells q 1 (c18 V' D'.ph D'.cyc).toList).heap.size = w1.heap.size ∧ (∀ k, k ≠ q → (w1.setCells q 1 (c18 V' D'.ph D'.cyc).toList).heap[k]? = w1.heap[k]?) ∧ LX w0 (w1.setCells q 1 (c18 V' D'.ph D'.cyc).toList) q s h m T D' := by
  obtain ⟨X, V, L, fe, hX, hq, hqt, xv, B⟩ := H
  refine ⟨fun b => (X b ∧ b ≠ q) ∨ w.heap.size ≤ b, V, fun b hb => .inr hb, xv.mono fun b hb => .inl hb, fun wx hb => World.rangeAt_of_block (B.below hb B.lt) 1 12, fun w1 D' V' hb xv' => ?_⟩
  have B1 := B.below hb B.lt
  obtain ⟨t1, B2, hg, hs⟩ := blk_doc B1 V' D'.ph D'.cyc
  show _ ∧ (w1.setCells q 1 [V'.vw, V'.vc, V'.f 0, V'.f 1, V'.f 2, V'.f 3, V'.vo, V'.vg, V'.vb, .int .i64 D'.ph, V'.vl, .int .i64 D'.cyc]).heap.size = _ ∧ (∀ k, k ≠ q → (w1.setCells q 1 [V'.vw, V'.vc, V'.f 0, V'.f 1, V'.f 2, V'.f 3, V'.vo, V'.vg, V'.vb, .int .i64 D'.ph, V'.vl, .int .i64 D'.cyc]).heap[k]? = _) ∧ LX w0 (w1.setCells q 1 [V'.vw, V'.vc, V'.f 0, V'.f 1, V'.f 2, V'.f 3, V'.vo, V'.vg, V'.vb, .int .i64 D'.ph, V'.vl, .int .i64 D'.cyc]) q s h m T D'
  generalize w1.setCells q 1 [V'.vw, V'.vc, V'.f 0, V'.f 1, V'.f 2, V'.f 3, V'.vo, V'.vg, V'.vb, .int .i64 D'.ph, V'.vl, .int .i64 D'.cyc] = w2 at B2 hg hs
  have hoth : ∀ k, k ≠ q → w2.heap[k]? = w1.heap[k]? := fun k hk => by
    by_cases hlt : k < w1.heap.size
    · exact hg.block k hlt fun e => hk (by injection e)
    · rw [Array.getElem?_eq_none (by omega), Array.getElem?_eq_none (by omega)]
  have hsz := hb.size
  have hkq : ∀ k, k < w.heap.size → k ≠ q → w2.heap[k]? = w.heap[k]? := fun k hk hne => (hoth k hne).trans (hb.block k hk)
  have hqQ : ¬ w0.Q q := (hX q hq).2
  have bw : Below w0.base.heap.size w0.base w2 := (fe.below hb).b.grown hg (fe.below hb).b.size fun k hk => by cases hk; exact (hX q hq).1
  refine ⟨t1, hs, hoth, fun k => X k ∨ (w.heap.size ≤ k ∧ k < w1.heap.size), V', ?_, ⟨bw, fun k hk => ?_⟩, fun k hk => ?_, .inl hq, hqt, ?_, B2⟩
  · refine L.wrote (by omega) (fun k hk h => hkq k hk fun e => ?_) (fun k hk hf => ⟨hf.1, fun h => hf.2 (h.elim .inl fun h => h.elim .inr fun h => absurd h.1 (by omega))⟩) ⟨bw, fun k hk => ⟨?_, rfl⟩⟩
    · rcases h with h | h
      · exact h.2 (.inr (e ▸ hq))
      · exact hqt (e.symm.trans h)
    · rcases hk with h | h | h
      · have := (fe.kept k h).1; omega
      · have : k < w.heap.size := (L.fen.kept k (.inr h)).1
        omega
      · omega
  · have hk' := fe.kept k hk
    exact ⟨by omega, (hkq k hk'.1 fun e => hqQ (e ▸ hk)).trans hk'.2⟩
  · rcases hk with h | h
    · exact hX k h
    · exact ⟨Nat.le_trans fe.b.size h.1, fun hqk => by have := (fe.kept k hqk).1; omega⟩
  · have x2 := xv'.lt
    exact x2.same (fun b hb' _ => hoth b fun e => by
      rcases hb'.1 with h | h
      · exact h.2 e
      · have := B.lt; omega) (fun b hb' _ => ⟨hb'.1.imp (·.1) fun h => ⟨h, hb'.2⟩, fun e => by
      rcases hb'.1 with h | h
      · exact h.2 e
      · have := B.lt; omega⟩)
/-- A world is made. -/
theorem lx_new {V : V18} (H : LS w0 w s h m T) (hb : Below w.heap.size w w1) (hq : w.heap.size ≤ q) (xv : XV (fun b => w.heap.size ≤ b ∧ b ≠ q) w1 D V) (B : Blk w1 q 44 (x13 s V D.ph D.cyc)) (hT : 0 < w.heap.size) : LX w0 w1 q s h m T D :=
  ⟨fun k => w.heap.size ≤ k ∧ k < w1.heap.size, V, H.guard hb, H.fen.below hb, fun k hk => H.fen.new hk.1, ⟨hq, B.lt⟩, by omega, xv.lt.mono fun b hb => ⟨⟨hb.1.1, hb.2⟩, hb.1.2⟩, B⟩
theorem LX.guard (H : LX w0 w q s h m T D) (hb : Below w.heap.size w w') : LX (w0.guard w w') w' q s h m T D := by
  obtain ⟨X, V, L, fe, hX, hq, hqt, xv, B⟩ := H.below hb
  have hXl : ∀ k, X k → k < w'.heap.size := fun k hk => (L.fen.kept k (.inr hk)).1
  obtain ⟨X0, V0, L0, fe0, hX0, hq0, hqt0, xv0, B0⟩ := H
  have hXl0 : ∀ k, X0 k → k < w.heap.size := fun k hk => (L0.fen.kept k (.inr hk)).1
  have L1 := L0.guard hb
  have fg : Fen (w0.guard w w') w' := fe0.guard hb
  refine ⟨X0, V0, L1.rebase (fun k _ hf => ⟨hf.1, fun h => hf.2 (h.elim (fun h => h.elim (fun h => .inl (.inl h)) .inr) fun h => .inl (.inr h))⟩) ⟨L1.fen.b, fun k hk => ⟨?_, rfl⟩⟩, fg, fun k hk => ⟨(hX0 k hk).1, fun h => h.elim (hX0 k hk).2 fun h => by have := hXl0 k hk; omega⟩, hq0, hqt0, xv0.below hb, B0.below hb B0.lt⟩
  rcases hk with h | h
  · exact (fg.kept k h).1
  · have := hXl0 k h
    have := hb.size
    omega
theorem LX.unguard {q' s' h' m' : Nat} (H0 : LX w0 w q s h m T D) (hb : Below w.heap.size w w1) (H : LX (w0.guard w w1) w' q' s' h' m' T' D') : LX w0 w' q' s' h' m' T' D' := by
  obtain ⟨X0, V0, L0, fe0, hX0, hq0, hqt0, xv0, B0⟩ := H0
  obtain ⟨X, V, L, fe, hX, hq, hqt, xv, B⟩ := H
  have fu : Fen w0 w' := fe0.unguard hb fe
  exact ⟨X, V, L.rebase (fun k _ hf => ⟨hf.1, fun h => hf.2 (h.elim (fun h => .inl (.inl h)) .inr)⟩) ⟨L.fen.b, fun k hk => hk.elim (fun h => ⟨(L.fen.kept k (.inl (.inl h))).1, rfl⟩) fun h => ⟨(L.fen.kept k (.inr h)).1, rfl⟩⟩, fu, fun k hk => ⟨(hX k hk).1, fun h => (hX k hk).2 (.inl h)⟩, hq, hqt, xv, B⟩
theorem LX.fen (H : LX w0 w q s h m T D) : Fen w0 w := by obtain ⟨_, _, _, fe, _⟩ := H; exact fe
theorem LX.keeps (H : LX (w0.guard w w1) w' q s h m T D) {k : Nat} (h0 : w.heap.size ≤ k) (h1 : k < w1.heap.size) : k < w'.heap.size ∧ w'.heap[k]? = w1.heap[k]? := H.fen.kept k (.inr ⟨h0, h1⟩)
/-- A list that is kept reads still. -/
theorem LX.rd (H : LX (w0.guard w w1) w' q s h m T D) {α : Type} {enc : α → Value} {xs : List α} {v : Value} (hr : Rd enc w1 v xs) (hf : ∀ b, v.ownBlock = some b → w.heap.size ≤ b) : Rd enc w' v xs :=
  hr.same fun hp b e hlt => (H.keeps (hf b e) hlt).2
end
/-- The object of a number. -/
def objN (S : HS) (n : Int) : Int := if n % (((sAll S).length : Int) + 1) = 0 then 0 else (sAll S).getD (n % (((sAll S).length : Int) + 1) - 1).toNat 0
section
variable {w0 : W0} {w w' w1 : World} {q s h m : Nat} {T T' : SS} {D D' : DS}
set_option maxHeartbeats 3200000 in
set_option maxRecDepth 100000 in
theorem lx_object (H : LX w0 w q s h m T D) (n : Int) (hn : 0 ≤ n ∧ n ≤ 255) : Calls Tryz.prog 27 #[.pointer (some ⟨q, 0, none⟩), .int .u8 n] w fun e w' => e = .returned (.int .i64 (objN T.S n)) ∧ Below w.heap.size w w' := by
  obtain ⟨v0, L⟩ := H.ls
  have c0 := H.cells.1
  have hol : (sAll T.S).length ≤ 4096 := by
    have := L.inv.toInv0.objs_len
    unfold sAll
    rw [List.length_map]
    exact this
  obtain ⟨l, hl⟩ : ∃ l, sAll T.S = l := ⟨_, rfl⟩
  obtain ⟨r, hr⟩ : ∃ r, objN T.S n = r := ⟨_, rfl⟩
  rw [hr]
  unfold objN at hr
  rw [hl] at hr hol
  obtain ⟨hn0, hn1⟩ := hn
  obtain ⟨k, hk⟩ : ∃ k : Nat, n % ((l.length : Int) + 1) = (k : Int) := ⟨(n % ((l.length : Int) + 1)).toNat, by have := Int.emod_nonneg n (show (l.length : Int) + 1 ≠ 0 by omega); omega⟩
  have hkl : k ≤ l.length := by have := Int.emod_lt_of_pos n (show 0 < (l.length : Int) + 1 by omega); omega
  rw [hk] at hr
  have wn : IntKind.i64.wrap ((l.length : Int) + 1) = (l.length : Int) + 1 := by rw [IntKind.wrap_i64]; omega
  have wx : IntKind.i64.wrap n = n := by rw [IntKind.wrap_i64]; omega
  have nz : ((l.length : Int) + 1 = 0) = False := by rw [eq_iff_iff, iff_false]; omega
  have tk : n.tmod ((l.length : Int) + 1) = (k : Int) := (Int.tmod_eq_emod_of_nonneg hn0).trans hk
  replace hk := Lib.hid hk
  replace hr := Lib.hid hr
  replace H := Lib.hid H
  go_enter Tryz.func27, Tryz.ntmps27
  go_wp2_with fail
  refine (ls_heap L).mono ?_
  rintro e _ ⟨rfl, rfl⟩
  go_wp2_with fail
  refine (ls_allH L hl).mono ?_
  rintro e w2 ⟨A, c, rfl, hrd, _, b2, _⟩
  replace hl := Lib.hid hl
  clear L c0
  rcases Nat.eq_zero_or_pos k with h0 | hpos
  · subst h0
    have hr0 : r = 0 := by have := hr.out; simpa using this.symm
    subst hr0
    replace hrd := Lib.hid hrd
    go_wp2_with fail
    go_ret
    exact ⟨rfl, b2⟩
  · obtain ⟨j, rfl⟩ : ∃ j, k = j + 1 := ⟨k - 1, by omega⟩
    have hjl : j < l.length := by omega
    obtain ⟨b, o, rfl, _, hc⟩ := hrd.at_ hjl
    have hrj : r = l[j] := by
      rw [← hr.out, if_neg (by omega), show (((j + 1 : Nat) : Int) - 1).toNat = j by omega]
      simp [List.getD, List.getElem?_eq_getElem hjl]
    rw [← hrj] at hc
    replace hc : _ = some (Value.int IntKind.i64 r) := hc
    have z0 : (((j + 1 : Nat) : Int) == 0) = false := by rw [beq_eq_false_iff_ne]; omega
    have zj : (j : Int) < (l.length : Int) := by omega
    have wj : IntKind.i64.wrap (((j + 1 : Nat) : Int) - 1) = (j : Int) := by rw [IntKind.wrap_i64]; omega
    replace hrd := Lib.hid hrd
    replace hrj := Lib.hid hrj
    go_wp2_with fail
    go_ret
    exact ⟨rfl, b2⟩
set_option maxHeartbeats 3200000 in
set_option maxRecDepth 100000 in
theorem lx_begin (N : Nat) (w : World) (h1 : 1 ≤ N) (h2 : N ≤ 512) (hT : TabW w) :
    Calls Tryz.prog 10 #[.int .i64 (N : Int)] w fun e w' => ∃ q s h m, e = .returned (.tuple #[.pointer (some ⟨q, 0, none⟩), .bool true]) ∧ LX (ofW w) w' q s h m (q0 N) (u0 N) := by
  have HN := Lib.hid (snew_ok N w h1 h2 hT)
  have T0 := Lib.hid hT.lt
  clear hT
  go_enter Tryz.func10, Tryz.ntmps10
  go_wp2_with fail
  refine HN.out.mono ?_
  rintro e w1 ⟨s, h, m, rfl, _, L⟩
  replace L := Lib.hid L
  go_wp2_with fail
  refine (rNew18 (Q := fun b => w1.heap.size ≤ b) N w1 h2 (fun b hb => hb)).mono ?_
  rintro e w2 ⟨V, rfl, xv, b2⟩
  have hs2 := b2.size
  replace xv := Lib.hid xv
  replace b2 := Lib.hid b2
  dsimp only [c18]
  go_wp2_with (refine wpList_new rfl (.box 44 (.tmp 9)) rfl w2.heap.size rfl 44 (x13 s V (u0 N).ph (u0 N).cyc) (by kernel_rfl) ?_; intro w3 hs3 hb3 hB3; refine stop_here ?_)
  have b13 : Below w1.heap.size w1 w3 := b2.out.trans (hb3.mono hs2)
  have HX : LX (ofW w) w3 w2.heap.size s h m (q0 N) (u0 N) := lx_new L.out b13 hs2 ((xv.out.lt).keepQ (Q' := fun b => w1.heap.size ≤ b ∧ b ≠ w2.heap.size) hb3.size (fun b _ hlt => hb3.block b hlt) fun b hb _ => ⟨hb.1, by have := hb.2; omega⟩) hB3 (Nat.lt_of_lt_of_le T0.out L.out.b.size)
  obtain ⟨q, hq⟩ : ∃ q, q = w2.heap.size := ⟨_, rfl⟩
  rw [← hq] at HX ⊢
  replace hq := Lib.hid hq
  have c0 := HX.cells.1
  obtain ⟨v0, L3⟩ := HX.ls
  replace HX := Lib.hid HX
  clear hB3 hs3 hb3 b13 xv b2
  refine go_on ?_
  go_wp2_with fail
  refine (ls_heap L3).mono ?_
  rintro e _ ⟨rfl, rfl⟩
  go_wp2_with fail
  go_ret2
  exact ⟨_, _, _, _, rfl, HX.out⟩
end
end Go.Proofs.YtcaboknbdamlhaaGreatDoor
namespace Go.Proofs.YtcaboknbdamlhaaGreatDoor
open Go.RowKit Go.Shelf
theorem sact_size : (Tryz.prog.info? 30).map (·.size) = some 6 := by kernel_rfl
/-- What an act leaves: the answers alike make it true. -/
def DidX (w0 : W0) (q s h m : Nat) (T : SS) (D : DS) (ans : Prop) : Ending → World → Prop := fun e w' => ∃ b, e = .returned (.bool b) ∧ (ans → b = true) ∧ LX w0 w' q s h m T D
structure ABd (kind xa xb xk x : Int) : Prop where
  kind : 0 ≤ kind ∧ kind ≤ 255
  a : 0 ≤ xa ∧ xa ≤ 255
  b : 0 ≤ xb ∧ xb ≤ 255
  k : 0 ≤ xk ∧ xk ≤ 255
  x : -9223372036854775808 ≤ x ∧ x ≤ 9223372036854775807
/-- The document's lists are no longer than may be. -/
structure DLen (D : DS) : Prop where
  g : D.greys.length ≤ 4000
  b : D.black.length ≤ 4000
theorem alloc2 {S : HS} (I : Inv S) : (∃ S' p, sAlloc S 2 3 0 = (S', p, 0) ∧ Alloced S S' 2 3 0 p ∧ sFits S 2 = true) ∨ (sAlloc S 2 3 0 = (S, 0, 6) ∧ sFits S 2 = false) := by
  rcases hf : sFits S 2 with _ | _
  · exact .inr ⟨alloc_none (by omega) (by omega) (by decide) hf, rfl⟩
  · obtain ⟨S', p, e, A⟩ := alloc_some I (n := 2) (mask := 3) (junk := 0) (by omega) (by omega) (by omega) (by omega) (by decide) (by omega) hf
    exact .inl ⟨S', p, e, A, rfl⟩
theorem alloc_bd {S : HS} (I : Inv S) : -9223372036854775808 ≤ (sAlloc S 2 3 0).2.1 ∧ (sAlloc S 2 3 0).2.1 ≤ 9223372036854775807 := by
  rcases alloc2 I with ⟨S', p, e, A, _⟩ | ⟨e, _⟩
  · rw [e]
    obtain ⟨h1, h2, _⟩ := A.sits
    have := A.inv.n2
    show -9223372036854775808 ≤ p ∧ p ≤ 9223372036854775807
    omega
  · rw [e]
    show -9223372036854775808 ≤ (0 : Int) ∧ (0 : Int) ≤ 9223372036854775807
    omega
section
variable {w0 : W0} {w w' w1 : World} {q s h m : Nat} {T : SS} {D : DS}
theorem objN_bd {S : HS} (I : Inv0 S) (n : Int) : 0 ≤ objN S n ∧ objN S n ≤ 4096 := by
  unfold objN
  split
  · omega
  · rw [List.getD_eq_getElem?_getD]
    cases hg : (sAll S)[(n % (((sAll S).length : Int) + 1) - 1).toNat]? with
    | none => simp
    | some x =>
      have hm := List.mem_of_getElem? hg
      obtain ⟨o, ho, rfl⟩ := List.mem_map.1 hm
      obtain ⟨h1, h2, h3, h4, hs⟩ := I.ob o ho
      have h5 := hs.ends.2
      have hs1 := hs.1
      have := I.n2
      have := (wordsOf_mod hs.2.2.1 hs.2.2.2.1).1
      simp only [Option.getD_some]
      omega
theorem cell_keep {X : World} {g i : Nat} {v : Value} (H : LX (w0.guard w w1) X q s h m T D) (h0 : w.heap.size ≤ g) (h1 : g < w1.heap.size) (hc : w1.cell? ⟨g, i, none⟩ = some v) : X.cell? ⟨g, i, none⟩ = some v :=
  (World.cell?_of_block (H.keeps h0 h1).2).trans hc
end
end Go.Proofs.YtcaboknbdamlhaaGreatDoor
