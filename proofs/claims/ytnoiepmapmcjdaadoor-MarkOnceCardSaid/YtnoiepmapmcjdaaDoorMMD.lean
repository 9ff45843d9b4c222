/- Joined: MarkPath, MarkCount, MarkOnce. -/
import Derived.Test.YtnoiepmapmcjdaaDoorMMB
import Derived.Test.YtnoiepmapmcjdaaDoorMMR
set_option linter.unusedVariables false
set_option linter.unusedSimpArgs false
namespace Go.Proofs.YtnoiepmapmcjdaaDoor
open Go.RowKit Go.Shelf
section
variable {w0 : W0} {w w' : World} {q h m n : Nat} {S : HS} {K : MK} {R : RM} {objs : List (List Int)}
theorem lostep (H : LO w0 w q h m n K objs) (X : RD) (HX : CK n K X) :
    Calls Tryd.prog 18 #[.pointer (some ⟨m, 0, none⟩)] w fun e w' => e = .returned (.tuple #[.bool (dStep objs X).2, .int .i64 0]) ∧ ∃ K', LO w0 w' q h m n K' objs ∧ CK n K' (dStep objs X).1 ∧ K'.on = K.on := by
  obtain ⟨S, H⟩ := H
  obtain ⟨e1, e2, e3⟩ := H.c.step HX
  have := lstep H
  rw [e1] at this
  refine this.mono ?_
  rintro e w' ⟨rfl, H'⟩
  exact ⟨rfl, _, ⟨S, H'⟩, e2, e3⟩
theorem loptr (H : LO w0 w q h m n K objs) (b : Int) (hb : 0 ≤ b ∧ b ≤ n) : Calls Tryd.prog 20 #[.pointer (some ⟨q, 0, none⟩), .int .i64 b] w fun e w' => e = .returned (.int .i64 (ptrI b)) ∧ w = w' := by
  obtain ⟨S, H⟩ := H
  exact lptr H b hb
theorem locol (H : LO w0 w q h m n K objs) (X : RD) (HX : CK n K X) (i : Nat) (hi : i < n) : Calls Tryd.prog 21 #[.pointer (some ⟨m, 0, none⟩), .int .i64 (4 * (i : Int) + 1)] w fun e w' => e = .returned (.int .i64 (dColor X ((i : Int) + 1))) ∧ w = w' := by
  have := locolor H X HX ((i : Int) + 1) (by omega) (by omega)
  rw [ptrI_pos (by omega), show 4 * ((i : Int) + 1) - 3 = 4 * (i : Int) + 1 by omega] at this
  exact this
theorem lo_path (H : LO w0 w q h m n K objs) {a k : Nat} (ha : a < n) (hk : k < 4) :
    ∃ (Gp : Nat → Prop) (bo oo co bl ol cl : Nat), (∀ j, Gp j → j < w.heap.size) ∧
      (∀ X : World, (∀ j, Gp j → X.heap[j]? = w.heap[j]?) → X.cell? ⟨q, 1, none⟩ = some (.pointer (some ⟨m, 0, none⟩)) ∧ X.cell? ⟨q, 3, none⟩ = some (.slice (some ⟨bo, oo, none⟩) n co) ∧ X.cell? ⟨bo, oo + a, none⟩ = some (.slice (some ⟨bl, ol, none⟩) 4 cl) ∧ X.cell? ⟨bl, ol + k, none⟩ = some (.int .i64 (objAt objs a k))) ∧
      (∀ (w1 : World) (b : Int) (X : RD), Below w.heap.size w w1 → CK n K X → K.on = true → 0 ≤ b ∧ b ≤ n → Calls Tryd.prog 19 #[.pointer (some ⟨m, 0, none⟩), .int .i64 (ptrI b)] w1 fun e w' => e = .returned (.int .i64 0) ∧ (∃ K', LO (w0.guard w w1) w' q h m n K' objs ∧ CK n K' (dShade X b) ∧ K'.on = true) ∧ ∀ j, Gp j → w'.heap[j]? = w1.heap[j]?) := by
  obtain ⟨S, F, D, G, W, hF, fe, C⟩ := H
  have hn := C.n11
  obtain ⟨vp, vo, vg, vb, I⟩ := W.wi
  obtain ⟨us, u1, u2, u3⟩ := I.ob
  have hol : objs.length = n := C.ol
  have hul : us.length = n := by rw [u1]; exact hol
  have u2r := u2.rd
  obtain ⟨Ao, co, rfl, -⟩ := u2r.len
  obtain ⟨bo, oo, rfl, hbo, hco⟩ := u2r.at_ (show a < us.length by omega)
  have hGo : G bo := (u2.inP (by omega) bo rfl).1
  have ho : a < objs.length := by omega
  have u3a := u3 a (by omega) ho
  have h4 : (objs[a]).length = 4 := by
    have := C.four a ha
    rwa [show objs.getD a [] = objs[a] by simp [List.getD, ho]] at this
  have u3r := u3a.rd
  obtain ⟨Al, cl, hus, -⟩ := u3r.len
  rw [hus] at hco u3r
  obtain ⟨bl, ol, rfl, hbl, hcl⟩ := u3r.at_ (show k < (objs[a]).length by omega)
  have hGl : G bl := (u3a.inP (by show 0 < (objs[a]).length; omega) bl (by rw [hus]; rfl)).1
  have hob : objAt objs a k = (objs[a])[k]'(by omega) := by
    unfold objAt
    simp [List.getD, ho, h4, hk]
  refine ⟨G, bo, oo, co, bl, ol, cl, W.glt, fun X hX => ⟨?_, ?_, ?_, ?_⟩, fun w1 b X hb HX hon hbd => ?_⟩
  · rw [World.cell?_of_block (hX q I.gq)]; exact I.blk.cell 1
  · rw [World.cell?_of_block (hX q I.gq), ← hul]; exact I.blk.cell 3
  · rw [World.cell?_of_block (hX bo hGo), hco, h4]
  · rw [World.cell?_of_block (hX bl hGl), hcl, hob]
  · have hk0 := C.known (K := K) hon hbd
    have hsh := C.shade HX hon hbd
    have hp := ptrI_bd hn hbd
    refine (shade_m m h S F K D w1 (W.mm.below hb) (ptrI b) (by omega) (by omega)).mono ?_
    rintro e w' ⟨rfl, D', M, s⟩
    rw [hk0]
    exact ⟨rfl, ⟨_, ⟨S, LW.marks (W.below hb) (guard_free W hF) (fe.guard hb) C M s⟩, hsh.1, hsh.2⟩, fun j hj => s.frame.block j (Nat.lt_of_lt_of_le (W.glt j hj) hb.size) (W.dd j hj)⟩
end
end Go.Proofs.YtnoiepmapmcjdaaDoor
namespace Go.Proofs.YtnoiepmapmcjdaaDoor
open Go.RowKit Go.Shelf
section
variable {n : Nat} {S : HS} {objs : List (List Int)} {K : MK} {R : RD}
theorem made_ok (H : DOk n R) {b : Int} (h1 : 1 ≤ b) (hn : b ≤ n) : DOk n (dMade R b) := by
  have hnd := List.nodup_append.1 H.nd
  have hb : ∀ y, y ∈ (dMade R b).black → y ∈ R.black ∨ y = b := fun y hy => by
    have hy' : y ∈ (if b ∈ R.black then R.black else R.black ++ [b]) := hy
    split at hy'
    · exact .inl hy'
    · exact (List.mem_append.1 hy').imp id List.mem_singleton.1
  have hg : ∀ x, x ∈ (dMade R b).greys → x ∈ R.greys ∧ x ≠ b := fun x hx => by
    have := List.mem_filter.1 (show x ∈ R.greys.filter (fun x => x != b) from hx)
    exact ⟨this.1, by simpa using this.2⟩
  refine ⟨List.nodup_append.2 ⟨hnd.1.filter _, ?_, fun x hx y hy e => ?_⟩, fun x hx => ?_⟩
  · show (if b ∈ R.black then R.black else R.black ++ [b]).Nodup
    split
    · exact hnd.2.1
    · next h =>
      rw [List.nodup_append]
      exact ⟨hnd.2.1, by simp, fun x hx y hy e => by obtain rfl := List.mem_singleton.1 hy; exact h (e ▸ hx)⟩
  · have hx' := hg x hx
    rcases hb y hy with h | h
    · exact hnd.2.2 x hx'.1 y h e
    · exact hx'.2 (e.trans h)
  · rcases hx with h | h
    · exact H.bd x (.inl (hg x h).1)
    · rcases hb x h with h | h
      · exact H.bd x (.inr h)
      · omega
theorem made_mem (R : RD) (b x : Int) : (x ∈ (dMade R b).greys ∨ x ∈ (dMade R b).black) ↔ x = b ∨ (x ∈ R.greys ∨ x ∈ R.black) := by
  have h1 : x ∈ (dMade R b).greys ↔ x ∈ R.greys ∧ x ≠ b := by
    show x ∈ R.greys.filter (fun x => x != b) ↔ _
    rw [List.mem_filter]
    simp
  have h2 : x ∈ (dMade R b).black ↔ x ∈ R.black ∨ x = b := by
    show x ∈ (if b ∈ R.black then R.black else R.black ++ [b]) ↔ _
    split
    · next h => exact ⟨.inl, fun h' => h'.elim id (fun e => e ▸ h)⟩
    · rw [List.mem_append, List.mem_singleton]
  rw [h1, h2]
  by_cases e : x = b
  · subst e; simp
  · simp [e]
theorem Cw.made (C : Cw n S objs) (H : CK n K R) (ho : K.on = true) {b : Int} (h1 : 1 ≤ b) (hn : b ≤ n) : mKnown S K (ptrI b) = (true, 0) ∧ CK n (mMade S K (ptrI b)) (dMade R b) ∧ (mMade S K (ptrI b)).on = true := by
  have hk := C.known (K := K) ho (b := b) (by omega)
  rw [show decide (b ≠ 0) = true by simp; omega] at hk
  refine ⟨hk, ?_⟩
  unfold mMade
  rw [hk, if_pos rfl]
  refine ⟨⟨H.on, ?_, fun x hx1 hxn => ?_, made_ok H.ok h1 hn⟩, ho⟩
  · show keepP (fun x => x == ptrI b) K.greys = (R.greys.filter (fun x => x != b)).map ptrI
    rw [H.greys]
    unfold keepP
    rw [List.filter_map]
    congr 1
    refine List.filter_congr fun x hx => ?_
    have hxb := H.ok.bd x (.inl hx)
    show (!(ptrI x == ptrI b)) = (x != b)
    by_cases e : x = b
    · subst e; simp
    · have : ptrI x ≠ ptrI b := fun e2 => e (ptrI_inj (by omega) (by omega) e2)
      rw [show (ptrI x == ptrI b) = false from beq_eq_false_iff_ne.2 this, show (x != b) = true from bne_iff_ne.2 e]
      rfl
  · rw [made_mem]
    show (ptrI x == ptrI b || K.seen (ptrI x)) = true ↔ _
    rw [Bool.or_eq_true, H.seen x hx1 hxn, beq_iff_eq]
    constructor
    · rintro (h | h)
      · exact .inl (ptrI_inj (by omega) (by omega) h)
      · exact .inr h
    · rintro (h | h)
      · exact .inl (by rw [h])
      · exact .inr h
end
/-! How many are black. -/
def cntB (X : RD) (j : Nat) : Nat := ((List.range j).filter fun (i : Nat) => dColor X ((i : Int) + 1) == 2).length
theorem cntB_succ (X : RD) (j : Nat) : cntB X (j + 1) = if dColor X ((j : Int) + 1) = 2 then cntB X j + 1 else cntB X j := by
  unfold cntB
  rw [List.range_succ, List.filter_append, List.length_append]
  by_cases h : dColor X ((j : Int) + 1) = 2
  · rw [if_pos h]
    simp [h]
  · rw [if_neg h]
    simp [h]
theorem cntB_le (X : RD) (j : Nat) : cntB X j ≤ j := by
  unfold cntB
  have := List.length_filter_le (fun (i : Nat) => dColor X ((i : Int) + 1) == 2) (List.range j)
  rwa [List.length_range] at this
theorem color_two {n : Nat} {X : RD} (hok : DOk n X) (ho : X.on = true) (hg : X.greys = []) (b : Int) : dColor X b = 2 ↔ b ∈ X.black := by
  unfold dColor
  rw [if_neg (by rw [ho]; simp), if_neg (by rw [hg]; simp)]
  split
  · next h => simp [h]
  · next h => simp [h]
theorem cntB_all {n : Nat} {X : RD} (hok : DOk n X) (ho : X.on = true) (hg : X.greys = []) : cntB X n = X.black.length := by
  have hnd : X.black.Nodup := (List.nodup_append.1 hok.nd).2.1
  have e : cntB X n = (((List.range n).filter fun (i : Nat) => dColor X ((i : Int) + 1) == 2).map fun (i : Nat) => (i : Int) + 1).length := by
    rw [List.length_map]; rfl
  rw [e]
  refine List.Perm.length_eq ((List.perm_ext_iff_of_nodup ?_ hnd).2 fun b => ?_)
  · refine List.Pairwise.map _ (fun a b h => ?_) ((List.nodup_range).filter _)
    show (a : Int) + 1 ≠ (b : Int) + 1
    have h' : a ≠ b := h
    omega
  · rw [List.mem_map]
    constructor
    · rintro ⟨i, hi, rfl⟩
      have := (List.mem_filter.1 hi).2
      exact (color_two hok ho hg _).1 (by simpa using this)
    · intro hb
      have hbd := hok.bd b (.inr hb)
      refine ⟨(b - 1).toNat, List.mem_filter.2 ⟨List.mem_range.2 (by omega), ?_⟩, by omega⟩
      rw [show (((b - 1).toNat : Nat) : Int) + 1 = b by omega]
      simpa using (color_two hok ho hg b).2 hb
section
variable {w0 : W0} {w w' : World} {q h m n : Nat} {S : HS} {K : MK} {R : RM} {objs : List (List Int)}
theorem lomade (H : LO w0 w q h m n K objs) (X : RD) (HX : CK n K X) (ho : K.on = true) (i : Nat) (hi : i < n) :
    Calls Tryd.prog 22 #[.pointer (some ⟨m, 0, none⟩), .int .i64 (4 * (i : Int) + 1)] w fun e w' => e = .returned (.int .i64 0) ∧ ∃ K', LO w0 w' q h m n K' objs ∧ CK n K' (dMade X ((i : Int) + 1)) ∧ K'.on = true := by
  have hn := H.n11
  obtain ⟨S, H⟩ := H
  obtain ⟨e1, e2, e3⟩ := H.c.made HX ho (b := (i : Int) + 1) (by omega) (by omega)
  have hp : ptrI ((i : Int) + 1) = 4 * (i : Int) + 1 := by rw [ptrI_pos (by omega)]; omega
  rw [hp] at e1 e2 e3
  have := lmade H (4 * (i : Int) + 1) (by omega) (by omega)
  rw [e1] at this
  refine this.mono ?_
  rintro e w' ⟨rfl, H'⟩
  exact ⟨rfl, _, ⟨S, H'⟩, e2, e3⟩
end
end Go.Proofs.YtnoiepmapmcjdaaDoor
namespace Go.Proofs.YtnoiepmapmcjdaaDoor
open Go.RowKit Go.Shelf
set_option maxHeartbeats 16000000 in
set_option maxRecDepth 100000 in
theorem monce_ok (v0 v1 : Value) (md : Int) (l0 : List MAct) (rs : List Int) (w : World) (hv0 : RdC 5 mactC w v0 l0) (hok0 : ∀ x ∈ l0, MActOk w x) (hr : Rd u8e w v1 rs) (hrb : ∀ x ∈ rs, 0 ≤ x ∧ x ≤ 255) (hmd : 0 ≤ md ∧ md ≤ 255) (hT : TabW w) :
    Calls Tryd.prog 6 #[v0, v1, .int .u8 md] w fun e w' => e = .returned (.bool true) ∧ Below w.heap.size w w' := by
  obtain ⟨A0, c0, rfl, hlc0, hcm0, -⟩ := hv0.len
  obtain ⟨Ar, cr, rfl, -, hrc, -⟩ := hr.len
  have hl90 : (l0.length : Int) ≤ 9223372036854775807 := by unfold maxLen at hcm0; omega
  have HV0 := Lib.hid (fun wx (bx : Below w.heap.size w wx) => hv0.below bx)
  have HO0 := Lib.hid hok0
  have HR := Lib.hid (fun wx (bx : Below w.heap.size w wx) => hr.below bx)
  have HA := Lib.hid (malive_ok w hT)
  replace hrb := Lib.hid hrb
  replace hT := Lib.hid hT
  clear hr hv0 hok0
  go_enter Tryd.func6, Tryd.ntmps6
  go_wp2_with fail
  refine HA.out.mono ?_
  rintro e w1 ⟨rfl, b1⟩
  have HB := Lib.hid (lobegin (n := 11) (by omega) (hT.out.below b1))
  clear HA hT
  go_wp2_with fail
  refine HB.out.mono ?_
  rintro e w2 ⟨q, h, m, rfl, H2⟩
  clear HB
  have b2 := b1.trans (H2.b.mono b1.size)
  have HH := Lib.hid (heavy_w _ l0 w2 (HV0.out w2 b2) (fun x hx => (HO0.out x hx).below b2))
  replace H2 := Lib.hid H2
  go_wp2_with fail
  refine HH.out.mono ?_
  rintro e w3 ⟨rfl, d3⟩
  have b3 := b2.trans (d3.mono b2.size)
  have H4 := Lib.hid (H2.out.below d3)
  clear HH d3 H2
  by_cases hhv0 : mHeavy l0 = true
  · rw [hhv0]
    go_wp2_with fail
    go_ret
    exact ⟨rfl, b3⟩
  rw [show mHeavy l0 = false by simpa using hhv0]
  replace hhv0 := Lib.hid hhv0
  by_cases h20 : 20 < rs.length
  · have t1 : (20 : Int) < (rs.length : Int) := by omega
    go_wp2_with fail
    go_ret
    exact ⟨rfl, b3⟩
  have t1 : decide ((20 : Int) < (rs.length : Int)) = false := by rw [decide_eq_false_iff_not]; omega
  go_wp2_with fail
  clear b2 b3 t1
  go_loopw [37] (fun i wr => ∃ j : Nat, j ≤ l0.length ∧ i = .int .i64 j ∧ Hid (LO (ofW w1) wr q h m 11 mNew ((l0.take j).foldl (actO 11) (List.replicate 11 zero4)))) (fun i _ => l0.length - (intOf i).toNat)
  case atStart => exact ⟨0, by omega, rfl, H4⟩
  case round =>
    clear H4
    obtain ⟨j, hj, rfl, H⟩ := hrel
    have bw : Below w.heap.size w wr := b1.trans (H.out.b.mono b1.size)
    by_cases hlt : j < l0.length
    · have t0 : (j : Int) < (l0.length : Int) := by omega
      obtain ⟨b, o, rfl, _, hc⟩ := (HV0.out wr bw).at_ hlt
      obtain ⟨x, hx⟩ : ∃ x, l0[j] = x := ⟨_, rfl⟩
      have hxo := HO0.out _ (List.getElem_mem hlt)
      have htk : (l0.take (j + 1)).foldl (actO 11) (List.replicate 11 zero4) = actO 11 ((l0.take j).foldl (actO 11) (List.replicate 11 zero4)) x := by
        rw [List.take_add_one, List.getElem?_eq_getElem hlt, List.foldl_append, hx]
        rfl
      rw [hx] at hc hxo
      obtain ⟨kind, xa, xb, xk, rv, rl⟩ := x
      have c0 : wr.cell? ⟨b, o + j * 5, none⟩ = some (.int .u8 kind) := hc 0 _ rfl
      have c1 : wr.cell? ⟨b, o + j * 5 + 1, none⟩ = some (.int .u8 xa) := hc 1 _ rfl
      have c2 : wr.cell? ⟨b, o + j * 5 + 2, none⟩ = some (.int .u8 xb) := hc 2 _ rfl
      have c3 : wr.cell? ⟨b, o + j * 5 + 3, none⟩ = some (.int .u8 xk) := hc 3 _ rfl
      have c4 := hc 4 _ rfl
      obtain ⟨Av, cv, hrv, -⟩ := hxo.rd.len
      dsimp only at hrv c4
      rw [hrv] at c4
      replace c4 : wr.cell? ⟨b, o + j * 5 + 4, none⟩ = some (.slice Av rl.length cv) := c4
      have hd := hxo.kind
      have ha := hxo.a
      have hb := hxo.b
      have hk := hxo.k
      dsimp only at hd ha hb hk
      replace hrv := Lib.hid hrv
      clear hc hx hxo
      replace htk : _ = setO _ (xa % 12) (xk % 4) (xb % 12) := htk
      replace htk := Lib.hid htk
      go_wp2_with (first
        | (refine wpList_new rfl (.alloc 30) rfl wr.heap.size rfl 30 #[.int .u8 0, .int .u8 0, .int .u8 0, .int .u8 0, .slice none 0 0] (by kernel_rfl) ?_; intro w1 hs1 hb1 hB1; have HB1 := Lib.hid hB1; clear hB1)
        | (refine wpList_store_blk rfl 30 (.tmp 10) (.tmp 40) rfl wr.heap.size rfl #[.int .u8 kind, .int .u8 xa, .int .u8 xb, .int .u8 xk, .slice Av rl.length cv] rfl 30 #[.int .u8 0, .int .u8 0, .int .u8 0, .int .u8 0, .slice none 0 0] HB1.out mact_size rfl (by simp [Value.oneCell']) ?_; intro w2 hB2 hg2 hs2; refine stop_here ?_))
      have hb2 : Below wr.heap.size wr w2 := hb1.grown hg2 hb1.size (fun k hk => by cases hk; exact Nat.le_refl _)
      have e0 : w2.cell? ⟨wr.heap.size, 0, none⟩ = some (.int .u8 kind) := hB2.cell 0
      have e1 : w2.cell? ⟨wr.heap.size, 1, none⟩ = some (.int .u8 xa) := hB2.cell 1
      have e2 : w2.cell? ⟨wr.heap.size, 2, none⟩ = some (.int .u8 xb) := hB2.cell 2
      have e3 : w2.cell? ⟨wr.heap.size, 3, none⟩ = some (.int .u8 xk) := hB2.cell 3
      have hgl : wr.heap.size < w2.heap.size := hB2.lt
      clear HB1 hB2 hg2 hs2 hs1 hb1 c0 c1 c2 c3 c4
      have HS := Lib.hid (lset (H.out.below hb2) (xa % 12) (xk % 4) (xb % 12) (by omega) (by omega) (by omega))
      rw [← htk.out] at HS
      clear hb2 H hgl e0
      refine go_on ?_
      go_wp2_with fail
      refine HS.out.mono ?_
      rintro e w4 ⟨rfl, H4⟩
      replace H4 := Lib.hid H4
      clear HS e1 e2 e3 htk
      go_wp2_with fail
      go_roundw
      case rel => exact ⟨j + 1, by omega, by go_num, H4⟩
      case measure => simp [intOf]; omega
    · obtain rfl : j = l0.length := by omega
      rw [List.take_length] at H
      obtain ⟨ob0, hobjs⟩ : ∃ ob0, ob0 = l0.foldl (actO 11) (List.replicate 11 zero4) := ⟨_, rfl⟩
      rw [← hobjs] at H
      have HRo := Lib.hid (loroots H.out _ rs (HR.out wr bw) (by omega) hrb.out)
      clear hobjs HV0 HO0
      go_wp2_with fail
      refine HRo.out.mono ?_
      rintro e w5 ⟨va, vb, rfl, ra, rb, fa, fb, b5⟩
      have rbd : ∀ b ∈ nums 11 rs, 0 ≤ b ∧ b ≤ ((11 : Nat) : Int) := nums_bd
      have rl : (nums 11 rs).length ≤ 20 := by simp [nums]; omega
      obtain ⟨Aa, ca, rfl, -⟩ := ra.len
      obtain ⟨Ab, cb, rfl, -⟩ := rb.len
      obtain ⟨ks, hks⟩ : ∃ ks, ks = nums 11 rs := ⟨_, rfl⟩
      rw [← hks] at ra rb rbd rl fa ⊢
      rw [List.length_map] at ra fa ⊢
      have HBe := Lib.hid (lobeg H.out rfl b5 _ ks rl rbd ra fa)
      have p1 := (H.out.below b5).cells.2.1
      clear HRo fb hks rb ra fa rbd
      go_wp2_with fail
      refine HBe.out.mono ?_
      rintro e w7 ⟨rfl, K1, H7, ck1, on1⟩
      obtain ⟨wg, hwg⟩ : ∃ wg, wg = (ofW w1).guard wr w5 := ⟨_, rfl⟩
      have hgb : wg.base = w1 := by rw [hwg]; rfl
      rw [← hwg] at H7
      replace hgb := Lib.hid hgb
      clear HBe p1 hwg H b5 bw
      -- the object that was just made
      obtain ⟨mi, hmi⟩ : ∃ mi : Nat, md % 11 = (mi : Int) := ⟨(md % 11).toNat, by omega⟩
      have hmi11 : mi < 11 := by omega
      have hpt : (ptrsN 11).length = 11 := ptrs_len 11
      have hjp : mi < (ptrsN 11).length := by omega
      have hpj : (ptrsN 11)[mi] = 4 * (mi : Int) + 1 := ptrs_at hjp
      have ck1x := Lib.hid ck1
      replace on1 := Lib.hid on1
      obtain ⟨Ap, cp, hpf⟩ := H7.ptrs_far
      obtain ⟨p2, rp⟩ := hpf w7 (Below.refl _ _)
      obtain ⟨bp, op, rfl, _, cpj⟩ := rp.at_ hjp
      rw [hpj] at cpj
      replace cpj : w7.cell? ⟨bp, op + mi, none⟩ = some (.int .i64 (4 * (mi : Int) + 1)) := cpj
      have hm11 : (mi : Int) < 11 := by omega
      replace H7 := Lib.hid H7
      clear hpf rp hjp hpj hpt ck1
      go_wp2_with fail
      go_quiet (fail)
      have H8 := Lib.hid (H7.out.below (below_drewN (Below.refl w7.heap.size w7) nq))
      generalize w7.drewN nq = w8 at H8 ⊢
      clear H7 p2 cpj
      have HM := Lib.hid (lomade H8.out _ ck1x.out on1.out mi hmi11)
      have p1 := H8.out.cells.2.1
      go_wp2_with fail
      refine HM.out.mono ?_
      rintro e w9 ⟨rfl, K2, H9, ck2, on2⟩
      clear HM p1 ck1x on1 H8
      obtain ⟨X1, hX1⟩ : ∃ X1, X1 = dMade (ks.foldl dShade dStart) ((mi : Int) + 1) := ⟨_, rfl⟩
      have hbk : X1.black = [(mi : Int) + 1] := by
        have e : (ks.foldl dShade dStart).black = [] := (shades_black ks dStart).1
        have e2 : X1.black = (if (mi : Int) + 1 ∈ (ks.foldl dShade dStart).black then (ks.foldl dShade dStart).black else (ks.foldl dShade dStart).black ++ [(mi : Int) + 1]) := by rw [hX1]; rfl
        rw [e2, e]
        rfl
      have hgx : (mi : Int) + 1 ∉ X1.greys := by
        have e2 : X1.greys = (ks.foldl dShade dStart).greys.filter (fun x => x != (mi : Int) + 1) := by rw [hX1]; rfl
        rw [e2, List.mem_filter]
        simp
      rw [← hX1] at ck2
      have hcol1 : dColor X1 ((mi : Int) + 1) = 2 := by
        unfold dColor
        rw [if_neg (by rw [← ck2.on, on2]; simp), if_neg hgx, if_pos (by rw [hbk]; simp)]
      have HC := Lib.hid (locol H9 X1 ck2 mi hmi11)
      rw [hcol1] at HC
      have p1 := H9.cells.2.1
      have hs1 : Hid (CK 11 K2 X1 ∧ K2.on = true ∧ X1.black.length = 0 + 1 ∧ (mi : Int) + 1 ∈ X1.black) := Lib.hid ⟨ck2, on2, by rw [hbk]; rfl, by rw [hbk]; simp⟩
      replace H9 := Lib.hid H9
      clear hX1 hbk hgx hcol1 ck2 on2
      go_wp2_with fail
      refine HC.out.mono ?_
      rintro e _ ⟨rfl, rfl⟩
      clear HC p1
      go_wp2_with fail
      go_loopw [14] (fun i wr => ∃ (t : Nat) (K : MK) (X : RD), i = .int .i64 t ∧ Hid (LO wg wr q h m 11 K ob0) ∧ Hid (CK 11 K X ∧ K.on = true ∧ X.black.length = t + 1 ∧ (mi : Int) + 1 ∈ X.black)) (fun i _ => 13 - (intOf i).toNat)
      case atStart => exact ⟨0, _, _, rfl, H9, hs1⟩
      case round =>
        clear H9 hs1
        obtain ⟨t, K, X, rfl, H, hs⟩ := hrel
        obtain ⟨hck, hon, hbl, hin⟩ := hs.out
        have hbl2 := black_len hck.ok
        have t0 : decide ((12 : Int) < (t : Int)) = false := by rw [decide_eq_false_iff_not]; omega
        have t2 : (t : Int) ≤ 11 := by omega
        have p1 := H.out.cells.2.1
        have HSt := Lib.hid (lostep H.out X hck)
        have hxon : X.on = true := hck.on ▸ hon
        rcases step_cases ob0 hxon with ⟨hg, hd⟩ | ⟨p, g, hg, hd, hd1, hdb, hdo⟩
        · rw [hd] at HSt
          have hbl' := Lib.hid hbl
          have hin' := Lib.hid hin
          have hon' := Lib.hid hon
          have hg' := Lib.hid hg
          have hxon' := Lib.hid hxon
          clear hs hck hd hbl hbl2 hg H hin hon hxon
          go_wp2_with fail
          refine HSt.out.mono ?_
          rintro e w10 ⟨rfl, K9, H10, ck9, on9⟩
          have hcnt := cntB_all ck9.ok hxon'.out hg'.out
          have hcolm : dColor X ((mi : Int) + 1) = 2 := (color_two ck9.ok hxon'.out hg'.out _).2 hin'.out
          have HCm : Hid (∀ wx, Below w10.heap.size w10 wx → Calls Tryd.prog 21 #[.pointer (some ⟨m, 0, none⟩), .int .i64 (4 * (mi : Int) + 1)] wx fun e w' => e = .returned (.int .i64 2) ∧ wx = w') := Lib.hid fun wx bx => by
            have := locol (H10.below bx) X ck9 mi hmi11
            rwa [hcolm] at this
          have hHC : Hid (∀ (i : Nat), i < 11 → ∀ wx, Below w10.heap.size w10 wx → Calls Tryd.prog 21 #[.pointer (some ⟨m, 0, none⟩), .int .i64 (4 * (i : Int) + 1)] wx fun e w' => e = .returned (.int .i64 (dColor X ((i : Int) + 1))) ∧ wx = w') := Lib.hid fun i hi wx bx => locol (H10.below bx) X ck9 i hi
          have hb10 := b1.trans ((hgb.out ▸ H10.b).mono b1.size)
          obtain ⟨Ap, cp, hpf⟩ := H10.ptrs_far
          have p2 := (hpf w10 (Below.refl _ _)).1
          have p3 := H10.cells.2.1
          have hq8 := H10.cells.2.2.1
          have hpt : (ptrsN 11).length = 11 := ptrs_len 11
          have hct : cntB X 11 = t + 1 := hcnt.trans hbl'.out
          replace hct := Lib.hid hct
          replace hpf := Lib.hid hpf
          replace hb10 := Lib.hid hb10
          replace hpt := Lib.hid hpt
          have p3' := Lib.hid p3
          clear HSt hcnt hcolm H10 ck9 on9 hbl' hin' hon' hg' hxon' p1 p3
          go_wp2_with fail
          go_loopw [17, 123] (fun bv i wr => ∃ j : Nat, j ≤ 11 ∧ i = .int .i64 j ∧ bv = .int .i64 (cntB X j : Nat) ∧ Below w10.heap.size w10 wr) (fun _ i _ => 11 - (intOf i).toNat)
          case atStart => exact ⟨0, by omega, rfl, rfl, Below.refl _ _⟩
          case round =>
            clear p2
            obtain ⟨j, hj, rfl, rfl, hbw⟩ := hrel
            have p3 := (hbw.cell (p := ⟨q, 1, none⟩) hq8).trans p3'.out
            by_cases hlt : j < 11
            · have t5 : (j : Int) < 11 := by omega
              have hjp : j < (ptrsN 11).length := by rw [hpt.out]; exact hlt
              have hpj : (ptrsN 11)[j] = 4 * (j : Int) + 1 := ptrs_at hjp
              obtain ⟨p2, rp⟩ := hpf.out wr hbw
              obtain ⟨bp, op, rfl, _, cpj⟩ := rp.at_ hjp
              rw [hpj] at cpj
              replace cpj : wr.cell? ⟨bp, op + j, none⟩ = some (.int .i64 (4 * (j : Int) + 1)) := cpj
              have HCj := Lib.hid (hHC.out j hlt wr hbw)
              have hsu := cntB_succ X j
              have hle := cntB_le X j
              obtain ⟨ct, hct1⟩ : ∃ ct, ct = cntB X j := ⟨_, rfl⟩
              obtain ⟨ct2, hct2⟩ : ∃ ct2, ct2 = cntB X (j + 1) := ⟨_, rfl⟩
              rw [← hct1, ← hct2] at hsu
              rw [← hct1] at hle ⊢
              replace hct2 := Lib.hid hct2
              replace hct1 := Lib.hid hct1
              clear hpj rp hjp
              by_cases hc : dColor X ((j : Int) + 1) = 2
              · rw [if_pos hc] at hsu
                rw [hc] at HCj
                replace hsu := Lib.hid hsu
                clear hc
                go_wp2_with fail
                refine HCj.out.mono ?_
                rintro e _ ⟨rfl, rfl⟩
                clear HCj p2 cpj p3
                go_wp2_with fail
                go_roundw
                case rel => exact ⟨j + 1, by omega, by go_num, by rw [← hct2.out, hsu.out]; go_num, hbw⟩
                case measure => simp [intOf]; omega
              · rw [if_neg hc] at hsu
                have hc' : (dColor X ((j : Int) + 1) == 2) = false := by rw [beq_eq_false_iff_ne]; exact hc
                obtain ⟨dc, hdc⟩ : ∃ dc, dc = dColor X ((j : Int) + 1) := ⟨_, rfl⟩
                rw [← hdc] at hc' HCj
                replace hsu := Lib.hid hsu
                replace hdc := Lib.hid hdc
                clear hc
                go_wp2_with fail
                refine HCj.out.mono ?_
                rintro e _ ⟨rfl, rfl⟩
                clear HCj p2 cpj p3
                go_wp2_with fail
                go_roundw
                case rel => exact ⟨j + 1, by omega, by go_num, by rw [← hct2.out, hsu.out], hbw⟩
                case measure => simp [intOf]; omega
            · obtain rfl : j = 11 := by omega
              rw [hct.out]
              have HCm' := Lib.hid (HCm.out wr hbw)
              have hb11 := Lib.hid (hb10.out.trans (hbw.mono hb10.out.size))
              have t6 : ((t + 1 : Nat) : Int) - 1 = (t : Int) := by omega
              clear hbw
              go_wp2_with fail
              refine HCm'.out.mono ?_
              rintro e _ ⟨rfl, rfl⟩
              clear HCm' p3
              go_wp2_with fail
              go_ret
              exact ⟨rfl, hb11.out⟩
        · rw [hd] at HSt
          have hs2 := Lib.hid (show (dStep ob0 X).1.black.length = (t + 1) + 1 ∧ (mi : Int) + 1 ∈ (dStep ob0 X).1.black from by rw [hdb]; exact ⟨by rw [List.length_append, hbl]; rfl, List.mem_append_left _ hin⟩)
          have hon' := Lib.hid hon
          clear hs hck hd hbl hbl2 hg H hin hd1 hdb hdo hxon hon
          go_wp2_with fail
          refine HSt.out.mono ?_
          rintro e w10 ⟨rfl, K9, H10, ck9, on9⟩
          have hs3 := Lib.hid (show CK 11 K9 (dStep ob0 X).1 ∧ K9.on = true ∧ (dStep ob0 X).1.black.length = (t + 1) + 1 ∧ (mi : Int) + 1 ∈ (dStep ob0 X).1.black from ⟨ck9, on9.trans hon'.out, hs2.out⟩)
          replace H10 := Lib.hid H10
          clear HSt p1 ck9 on9 hs2 hon'
          go_wp2_with fail
          go_roundw
          case rel => exact ⟨t + 1, _, _, by go_num, H10, hs3⟩
          case measure => simp [intOf]; omega
end Go.Proofs.YtnoiepmapmcjdaaDoor
