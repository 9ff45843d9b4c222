/- Joined: MarkDoes, MarkDoesA, MarkDoesB, MarkActs. -/
import Derived.Test.YtnoiepmapmcjdaaDoorMMF
import Derived.Deep.MidRow
set_option linter.unusedVariables false
set_option linter.unusedSimpArgs false
namespace Go.Proofs.YtnoiepmapmcjdaaDoor
open Go.RowKit Go.Shelf
def LA (w0 : W0) (w : World) (q h m n : Nat) (K : MK) (R : RM) : Prop := ∃ S, LW w0 w q h m n S K R
def RM.rd (R : RM) : RD := ⟨R.on, R.greys, R.black⟩
section
variable {w0 : W0} {w w' : World} {q h m n : Nat} {K : MK} {R : RM}
theorem LA.below (H : LA w0 w q h m n K R) (hb : Below w.heap.size w w') : LA w0 w' q h m n K R := by
  obtain ⟨S, H⟩ := H
  exact ⟨S, H.below hb⟩
theorem LA.n11 (H : LA w0 w q h m n K R) : n ≤ 11 := by obtain ⟨S, H⟩ := H; exact H.c.n11
theorem LA.cells (H : LA w0 w q h m n K R) : w.cell? ⟨q, 0, none⟩ = some (.pointer (some ⟨h, 0, none⟩)) ∧ w.cell? ⟨q, 1, none⟩ = some (.pointer (some ⟨m, 0, none⟩)) ∧ q < w.heap.size ∧ w0.base.heap.size ≤ q := by
  obtain ⟨S, H⟩ := H
  exact H.cells
theorem LA.b (H : LA w0 w q h m n K R) : Below w0.base.heap.size w0.base w := by obtain ⟨S, H⟩ := H; exact H.b
theorem LA.ptrs (H : LA w0 w q h m n K R) : ∃ A c, w.cell? ⟨q, 2, none⟩ = some (.slice A n c) ∧ Rd i64e w (.slice A n c) (ptrsN n) := by
  obtain ⟨S, H⟩ := H
  exact H.ptrs
theorem setCells4 (w : World) (g o : Nat) (a b c d : Value) : w.setCells g o [a, b, c, d] = (((w.setCell ⟨g, o, none⟩ a).setCell ⟨g, o + 1, none⟩ b).setCell ⟨g, o + 1 + 1, none⟩ c).setCell ⟨g, o + 1 + 1 + 1, none⟩ d := rfl
theorem la_open0 (H : LA w0 w q h m n K R) (hok : DOk n R.rd) : ∃ (Ao : Option Addr) (co : Nat) (vg vb : Value), (∀ wx, Below w.heap.size w wx → wx.rangeAt q 3 [.slice Ao n co, .bool R.on, vg, vb]) ∧ RV w R.objs R.greys R.black (.slice Ao n co) vg vb ∧
    (∀ (w2 : World) (X : RD) (vg' vb' : Value), Below w.heap.size w w2 → RV w2 R.objs X.greys X.black (.slice Ao n co) vg' vb' → Nw w.heap.size vg R.greys vg' X.greys → Nw w.heap.size vb R.black vb' X.black →
      w2.there q 3 4 ∧ LA w0 (w2.setCells q 3 [.slice Ao n co, .bool X.on, vg', vb']) q h m n K ⟨R.objs, X.on, X.greys, X.black⟩) ∧
    (∀ (w2 : World) (on' : Bool), Below w.heap.size w w2 → w2.there q 3 4 ∧ LA (w0.guard w w2) (w2.setCells q 3 [.slice Ao n co, .bool on', vg, vb]) q h m n K ⟨R.objs, on', R.greys, R.black⟩) := by
  obtain ⟨S, F, D, G, W, hF, fe, C⟩ := H
  have hn := C.n11
  have hl := ok_len hok
  obtain ⟨vp, vo, vg, vb, I⟩ := W.wi
  obtain ⟨us, u1, u2, u3⟩ := I.ob
  obtain ⟨Ao, co, rfl, -⟩ := u2.rd.len
  have hul : us.length = n := by rw [u1]; exact C.ol
  rw [hul] at u2 I
  refine ⟨Ao, co, vg, vb, fun wx bx => World.rangeAt_of_block (I.blk.below bx I.blk.lt) 3 4, ⟨⟨us, u1, u2.mono fun _ _ => trivial, fun i h1 h2 => (u3 i h1 h2).mono fun _ _ => trivial⟩, I.gr.rd, I.bl.rd, by have := hl.1; show R.greys.length ≤ 4096; have h2 : R.greys.length ≤ n := this; omega, by have := hl.2; have h2 : R.black.length ≤ n := this; omega⟩, fun w2 X vg' vb' b2 H2 n1 n2 => ?_, fun w2 on' b2 => ?_⟩
  · have hB2 := I.blk.below b2 I.blk.lt
    refine ⟨fun j hj => ⟨?_, hB2.frozen _⟩, ?_⟩
    · rw [hB2.cell]
      rcases (show j = 0 ∨ j = 1 ∨ j = 2 ∨ j = 3 by omega) with rfl | rfl | rfl | rfl <;> rfl
    have hsz : (w2.setCells q 3 [.slice Ao n co, .bool X.on, vg', vb']).heap.size = w2.heap.size := by rw [setCells4, setCell_size, setCell_size, setCell_size, setCell_size]
    have hoth : ∀ k, k ≠ q → (w2.setCells q 3 [.slice Ao n co, .bool X.on, vg', vb']).heap[k]? = w2.heap[k]? := fun k hk => by
      rw [setCells4, setCell_other _ q _ _ hk, setCell_other _ q _ _ hk, setCell_other _ q _ _ hk, setCell_other _ q _ _ hk]
    have hblk : Blk (w2.setCells q 3 [.slice Ao n co, .bool X.on, vg', vb']) q 39 (wcells h m vp (.slice Ao n co) X.on vg' vb') := (((hB2.set_ 3 _).set_ 4 _).set_ 5 _).set_ 6 _
    have hos : (w2.setCells q 3 [.slice Ao n co, .bool X.on, vg', vb']).os = w2.os ∧ (w2.setCells q 3 [.slice Ao n co, .bool X.on, vg', vb']).tape = w2.tape ∧ (w2.setCells q 3 [.slice Ao n co, .bool X.on, vg', vb']).output = w2.output := ⟨rfl, rfl, rfl⟩
    generalize w2.setCells q 3 [.slice Ao n co, .bool X.on, vg', vb'] = w3 at hsz hoth hblk hos
    have key : ∀ k, k < w.heap.size → k ≠ q → w3.heap[k]? = w.heap[k]? := fun k hk hne => (hoth k hne).trans (b2.block k hk)
    have hs2 := b2.size
    have hle : w.heap.size ≤ w3.heap.size := by omega
    have kp : ∀ b, (G b ∧ b ≠ q) → b < w.heap.size → w3.heap[b]? = w.heap[b]? := fun b hb hlt => key b hlt hb.2
    have inc : ∀ b, (G b ∧ b ≠ q) → (G b ∨ (w.heap.size ≤ b ∧ b < w3.heap.size)) ∧ b ≠ q := fun b hb => ⟨.inl hb.1, hb.2⟩
    have hqw := I.blk.lt
    have nu : ∀ (v v' : Value) (xs xs' : List Int), RdG (fun b => G b ∧ b ≠ q) i64e w v xs → Rd i64e w2 v' xs' → Nw w.heap.size v xs v' xs' → RdG (fun b => (G b ∨ (w.heap.size ≤ b ∧ b < w3.heap.size)) ∧ b ≠ q) i64e w3 v' xs' := fun v v' xs xs' hv hv' hn' => by
      have hA : 0 < xs'.length → ∀ b, v'.ownBlock = some b → (G b ∨ (w.heap.size ≤ b ∧ b < w3.heap.size)) ∧ b ≠ q := fun hp b e => (hn' hp b e).elim (fun h => inc b (hv.inP h.1 b h.2)) fun h => ⟨.inr ⟨h, by have := rdl_lt hv' hp e; omega⟩, by omega⟩
      exact ⟨hv'.keep (by omega) fun hp b e hlt => hoth b (hA hp b e).2, hA⟩
    have W3 : WIn w3 q h m (ptrsN n) ⟨R.objs, X.on, X.greys, X.black⟩ (fun b => G b ∨ (w.heap.size ≤ b ∧ b < w3.heap.size)) vp (.slice Ao n co) vg' vb' :=
      ⟨hblk, (I.pr.keep hle kp).mono inc, ⟨us, u1, (u2.keep hle kp).mono inc, fun i h1 h2 => ((u3 i h1 h2).keep hle kp).mono inc⟩, nu _ _ _ _ I.gr H2.gr n1, nu _ _ _ _ I.bl H2.bl n2, .inl I.gq, fun j hj => hj.elim (fun h => Nat.lt_of_lt_of_le (I.lt j h) hle) fun h => h.2⟩
    have s3 : Step G w w3 (fun b => G b ∨ (w.heap.size ≤ b ∧ b < w3.heap.size)) := ⟨⟨hos.1.trans b2.os, hos.2.1.trans b2.tape, hos.2.2.trans b2.output, hle, fun j hj hn => key j hj fun e => hn (by rw [e]; exact I.gq)⟩, fun j hj => hj.elim .inl fun h => .inr h.1⟩
    exact ⟨S, F, D, _, W.own W3 s3, fun k hk => by
      rcases hk with h | h | h | h
      · exact hF k (.inl h)
      · exact hF k (.inr (.inl h))
      · exact hF k (.inr (.inr h))
      · exact fe.new h.1, fe.step s3 (fun k hk => hF k (.inr (.inr hk))), C⟩
  · have hB2 := I.blk.below b2 I.blk.lt
    refine ⟨fun j hj => ⟨?_, hB2.frozen _⟩, ?_⟩
    · rw [hB2.cell]
      rcases (show j = 0 ∨ j = 1 ∨ j = 2 ∨ j = 3 by omega) with rfl | rfl | rfl | rfl <;> rfl
    have hsz : (w2.setCells q 3 [.slice Ao n co, .bool on', vg, vb]).heap.size = w2.heap.size := by rw [setCells4, setCell_size, setCell_size, setCell_size, setCell_size]
    have hoth : ∀ k, k ≠ q → (w2.setCells q 3 [.slice Ao n co, .bool on', vg, vb]).heap[k]? = w2.heap[k]? := fun k hk => by
      rw [setCells4, setCell_other _ q _ _ hk, setCell_other _ q _ _ hk, setCell_other _ q _ _ hk, setCell_other _ q _ _ hk]
    have hblk : Blk (w2.setCells q 3 [.slice Ao n co, .bool on', vg, vb]) q 39 (wcells h m vp (.slice Ao n co) on' vg vb) := (((hB2.set_ 3 _).set_ 4 _).set_ 5 _).set_ 6 _
    have hos : (w2.setCells q 3 [.slice Ao n co, .bool on', vg, vb]).os = w2.os ∧ (w2.setCells q 3 [.slice Ao n co, .bool on', vg, vb]).tape = w2.tape ∧ (w2.setCells q 3 [.slice Ao n co, .bool on', vg, vb]).output = w2.output := ⟨rfl, rfl, rfl⟩
    generalize w2.setCells q 3 [.slice Ao n co, .bool on', vg, vb] = w3 at hsz hoth hblk hos
    have key : ∀ k, k < w.heap.size → k ≠ q → w3.heap[k]? = w.heap[k]? := fun k hk hne => (hoth k hne).trans (b2.block k hk)
    have hs2 := b2.size
    have hle : w.heap.size ≤ w3.heap.size := by omega
    have kp : ∀ b, (G b ∧ b ≠ q) → b < w.heap.size → w3.heap[b]? = w.heap[b]? := fun b hb hlt => key b hlt hb.2
    have W3 : WIn w3 q h m (ptrsN n) ⟨R.objs, on', R.greys, R.black⟩ G vp (.slice Ao n co) vg vb :=
      ⟨hblk, I.pr.keep hle kp, ⟨us, u1, u2.keep hle kp, fun i h1 h2 => (u3 i h1 h2).keep hle kp⟩, I.gr.keep hle kp, I.bl.keep hle kp, I.gq, fun j hj => Nat.lt_of_lt_of_le (I.lt j hj) hle⟩
    have s3 : Step G w w3 G := ⟨⟨hos.1.trans b2.os, hos.2.1.trans b2.tape, hos.2.2.trans b2.output, hle, fun j hj hn => key j hj fun e => hn (by rw [e]; exact I.gq)⟩, fun j hj => .inl hj⟩
    have s23 : Step (fun k => k = q) w2 w3 (fun k => k = q) := ⟨⟨hos.1, hos.2.1, hos.2.2, by omega, fun j hj hn => hoth j hn⟩, fun j hj => .inl hj⟩
    have hfr := guard_free (w1 := w2) W hF
    exact ⟨S, F, D, G, W.own W3 s3, hfr, (fe.guard b2).step s23 (fun k hk => by subst hk; exact hfr _ (.inr (.inr I.gq))), C⟩
theorem la_open (H : LA w0 w q h m n K R) (hok : DOk n R.rd) : ∃ (Ao : Option Addr) (co : Nat) (vg vb : Value), (∀ wx, Below w.heap.size w wx → wx.rangeAt q 3 [.slice Ao n co, .bool R.on, vg, vb]) ∧ RV w R.objs R.greys R.black (.slice Ao n co) vg vb ∧
    ∀ (w2 : World) (X : RD) (vg' vb' : Value), Below w.heap.size w w2 → RV w2 R.objs X.greys X.black (.slice Ao n co) vg' vb' → Nw w.heap.size vg R.greys vg' X.greys → Nw w.heap.size vb R.black vb' X.black →
      w2.there q 3 4 ∧ LA w0 (w2.setCells q 3 [.slice Ao n co, .bool X.on, vg', vb']) q h m n K ⟨R.objs, X.on, X.greys, X.black⟩ := by
  obtain ⟨Ao, co, vg, vb, h1, h2, h3, _⟩ := la_open0 H hok
  exact ⟨Ao, co, vg, vb, h1, h2, h3⟩
/-! The marks' calls, the document's numbers beside. -/
def offX (R : RM) (X : RD) : RD := if R.on = false then R.rd else X
theorem la_shade (H : LA w0 w q h m n K R) (HX : CK n K R.rd) (b : Int) (hb : 0 ≤ b ∧ b ≤ n) :
    Calls Tryd.prog 19 #[.pointer (some ⟨m, 0, none⟩), .int .i64 (ptrI b)] w fun e w' => e = .returned (.int .i64 0) ∧ ∃ K', LA w0 w' q h m n K' R ∧ CK n K' (if R.on = false then R.rd else dShade R.rd b) := by
  obtain ⟨S, H⟩ := H
  have hp := ptrI_bd H.c.n11 hb
  refine (lshade H (ptrI b) (by omega) (by omega)).mono ?_
  rintro e w' ⟨rfl, H'⟩
  by_cases ho : R.on = false
  · have hk : mKnown S K (ptrI b) = (false, 0) := by unfold mKnown; rw [if_pos (.inl (HX.on.trans ho))]
    have hs : mShade S K (ptrI b) = K := by unfold mShade; rw [hk, if_neg (by simp)]
    rw [hk, if_pos ho]
    rw [hs] at H'
    exact ⟨rfl, K, ⟨S, H'⟩, HX⟩
  · have hon : K.on = true := HX.on.trans (show R.on = true by simpa using ho)
    rw [H.c.known hon hb, if_neg ho]
    exact ⟨rfl, _, ⟨S, H'⟩, (H.c.shade HX hon hb).1⟩
theorem la_made (H : LA w0 w q h m n K R) (HX : CK n K R.rd) (b : Int) (hb : 0 ≤ b ∧ b ≤ n) :
    Calls Tryd.prog 22 #[.pointer (some ⟨m, 0, none⟩), .int .i64 (ptrI b)] w fun e w' => e = .returned (.int .i64 0) ∧ ∃ K', LA w0 w' q h m n K' R ∧ CK n K' (if R.on = false ∨ b = 0 then R.rd else dMade R.rd b) := by
  obtain ⟨S, H⟩ := H
  have hp := ptrI_bd H.c.n11 hb
  refine (lmade H (ptrI b) (by omega) (by omega)).mono ?_
  rintro e w' ⟨rfl, H'⟩
  by_cases ho : R.on = false ∨ b = 0
  · have hk : mKnown S K (ptrI b) = (false, 0) := by
      unfold mKnown
      rw [if_pos (ho.imp (fun h => HX.on.trans h) fun h => by subst h; rfl)]
    have hs : mMade S K (ptrI b) = K := by unfold mMade; rw [hk, if_neg (by simp)]
    rw [hk, if_pos ho]
    rw [hs] at H'
    exact ⟨rfl, K, ⟨S, H'⟩, HX⟩
  · have hon : K.on = true := by
      rw [HX.on]
      cases h : R.on with
      | false => exact absurd (.inl h) ho
      | true => exact h
    have hb1 : 1 ≤ b := by
      have : b ≠ 0 := fun e => ho (.inr e)
      omega
    have hm := H.c.made HX hon hb1 hb.2
    rw [hm.1, if_neg ho]
    exact ⟨rfl, _, ⟨S, H'⟩, hm.2.1⟩
theorem la_step (H : LA w0 w q h m n K R) (HX : CK n K R.rd) :
    Calls Tryd.prog 18 #[.pointer (some ⟨m, 0, none⟩)] w fun e w' => e = .returned (.tuple #[.bool (dStep R.objs R.rd).2, .int .i64 0]) ∧ ∃ K', LA w0 w' q h m n K' R ∧ CK n K' (dStep R.objs R.rd).1 := by
  obtain ⟨S, H⟩ := H
  obtain ⟨e1, e2, e3⟩ := H.c.step HX
  have := lstep H
  rw [e1] at this
  refine this.mono ?_
  rintro e w' ⟨rfl, H'⟩
  exact ⟨rfl, _, ⟨S, H'⟩, e2⟩
theorem la_begin {w1 : World} (H : LA w0 w q h m n K R) (HX : CK n K R.rd) (hb : Below w.heap.size w w1) (vr : Value) (l : List Int) (hl : l.length ≤ 20) (hl2 : ∀ b ∈ l, 0 ≤ b ∧ b ≤ n) (hv : Rd i64e w1 vr (l.map ptrI)) (hf : ∀ b, vr.ownBlock = some b → w.heap.size ≤ b) :
    Calls Tryd.prog 14 #[.pointer (some ⟨m, 0, none⟩), vr] w1 fun e w' => e = .returned (.int .i64 (if R.on = true then 8 else 0)) ∧ ∃ K', LA w0 w' q h m n K' R ∧ CK n K' (if R.on = true then R.rd else l.foldl dShade dStart) := by
  obtain ⟨S, H⟩ := H
  have hn := H.c.n11
  have hbd : ∀ x ∈ l.map ptrI, -9223372036854775808 ≤ x ∧ x ≤ 9223372036854775807 := by
    intro x hx
    obtain ⟨b, hb, rfl⟩ := List.mem_map.1 hx
    have := ptrI_bd hn (hl2 b hb)
    omega
  refine (lbegin2 H hb vr (l.map ptrI) hv (by rw [List.length_map]; omega) hbd hf).mono ?_
  rintro e w' ⟨rfl, H'⟩
  by_cases ho : R.on = true
  · have hk : mBegin S K (l.map ptrI) = (K, 8) := by unfold mBegin; rw [if_pos (HX.on.trans ho)]
    rw [hk, if_pos ho, if_pos ho]
    rw [hk] at H'
    exact ⟨rfl, K, ⟨S, H'⟩, HX⟩
  · have hoff : K.on = false := HX.on.trans (show R.on = false by simpa using ho)
    obtain ⟨e1, e2, e3⟩ := H.c.begin (K := K) l hl2 hoff
    rw [e1, if_neg ho, if_neg ho]
    exact ⟨rfl, _, ⟨S, H'⟩, e2⟩
theorem white_map (HX : CK n K R.rd) (ho : R.on = true) : keepP K.seen (ptrsN n) = (whN n R.rd).map ptrI := by
  have e : ptrsN n = (nsN n).map ptrI := by
    unfold ptrsN nsN
    rw [List.map_map]
    refine List.map_congr_left fun i _ => ?_
    show 4 * (i : Int) + 1 = ptrI ((i : Int) + 1)
    rw [ptrI_pos (by omega)]
    omega
  rw [e]
  unfold keepP whN
  rw [List.filter_map]
  congr 1
  refine List.filter_congr fun b hb => ?_
  obtain ⟨i, hi, rfl⟩ := List.mem_map.1 hb
  have hi' := List.mem_range.1 hi
  have hs := HX.seen ((i : Int) + 1) (by omega) (by omega)
  show (!K.seen (ptrI ((i : Int) + 1))) = (dColor R.rd ((i : Int) + 1) == 0)
  have hc : dColor R.rd ((i : Int) + 1) = 0 ↔ ¬ ((i : Int) + 1 ∈ R.rd.greys ∨ (i : Int) + 1 ∈ R.rd.black) := by
    unfold dColor
    rw [if_neg (show ¬ R.rd.on = false by show ¬ R.on = false; rw [ho]; simp)]
    by_cases h1 : (i : Int) + 1 ∈ R.rd.greys
    · rw [if_pos h1]; simp [h1]
    · rw [if_neg h1]
      by_cases h2 : (i : Int) + 1 ∈ R.rd.black
      · rw [if_pos h2]; simp [h2]
      · rw [if_neg h2]; simp [h1, h2]
  rw [Bool.eq_iff_iff, Bool.not_eq_true', beq_iff_eq, hc, ← hs]
  simp
theorem la_end_on (H : LA w0 w q h m n K R) (HX : CK n K R.rd) (ho : R.on = true) : Calls Tryd.prog 16 #[.pointer (some ⟨m, 0, none⟩)] w fun e w' => ∃ v, e = .returned (.tuple #[v, .int .i64 0]) ∧ Rd i64e w' v ((whN n R.rd).map ptrI) ∧ LA w0 w' q h m n (mOff K) R ∧ CK n (mOff K) ⟨false, R.greys, R.black⟩ := by
  obtain ⟨S, H⟩ := H
  have e : sAll S = ptrsN n := by
    unfold sAll ptrsN
    rw [H.c.obj, List.map_map]
    rfl
  have := lend_on H (HX.on.trans ho)
  rw [e] at this
  refine this.mono ?_
  rintro e w' ⟨v, rfl, hown, H'⟩
  have hr : Rd i64e w' v (keepP K.seen (ptrsN n)) := Rd.of_own hown
  rw [white_map HX ho] at hr
  exact ⟨v, rfl, hr, ⟨S, H'⟩, rfl, HX.greys, HX.seen, ⟨HX.ok.nd, HX.ok.bd⟩⟩
theorem la_end_off (H : LA w0 w q h m n K R) (HX : CK n K R.rd) (ho : R.on = false) : Calls Tryd.prog 16 #[.pointer (some ⟨m, 0, none⟩)] w fun e w' => e = .returned (.tuple #[.slice none 0 0, .int .i64 7]) ∧ LA w0 w' q h m n K R := by
  obtain ⟨S, F, D, G, W, hF, fe, C⟩ := H
  refine (end_off m h S F K D w W.mm (HX.on.trans ho)).mono ?_
  rintro e w' ⟨rfl, hb⟩
  exact ⟨rfl, S, LW.below ⟨F, D, G, W, hF, fe, C⟩ hb⟩
theorem la_ptr (H : LA w0 w q h m n K R) (b : Int) (hb : 0 ≤ b ∧ b ≤ n) : Calls Tryd.prog 20 #[.pointer (some ⟨q, 0, none⟩), .int .i64 b] w fun e w' => e = .returned (.int .i64 (ptrI b)) ∧ w = w' := by
  obtain ⟨S, H⟩ := H
  exact lptr H b hb
theorem la_set (H : LA w0 w q h m n K R) (a k b : Int) (ha : 0 ≤ a ∧ a ≤ n) (hk : 0 ≤ k ∧ k < 4) (hb : 0 ≤ b ∧ b ≤ n) :
    Calls Tryd.prog 12 #[.pointer (some ⟨q, 0, none⟩), .int .i64 a, .int .i64 k, .int .i64 b] w fun e w' => e = .returned (.bool true) ∧ LA w0 w' q h m n K ⟨setO R.objs a k b, R.on, R.greys, R.black⟩ := by
  unfold setO
  by_cases h0 : a = 0
  · subst h0
    rw [if_pos rfl]
    have := set_w0 (q : Int) k b w
    rw [Int.toNat_natCast] at this
    refine this.mono ?_
    rintro e _ ⟨rfl, rfl⟩
    exact ⟨rfl, H⟩
  · rw [if_neg h0]
    obtain ⟨S, H⟩ := H
    have := set_w w0 q h m n S K _ w H (a - 1).toNat k.toNat b (by omega) (by omega) hb
    rw [show (((a - 1).toNat : Nat) : Int) + 1 = a by omega, show ((k.toNat : Nat) : Int) = k by omega] at this
    refine this.mono ?_
    rintro e w' ⟨rfl, H'⟩
    exact ⟨rfl, _, H'⟩
theorem la_roots (H : LA w0 w q h m n K R) (v : Value) (l : List Int) (hv : Rd u8e w v l) (hl : l.length ≤ 20) (hbd : ∀ x ∈ l, 0 ≤ x ∧ x ≤ 255) :
    Calls Tryd.prog 13 #[.pointer (some ⟨q, 0, none⟩), v] w fun e w' => ∃ va vb, e = .returned (.tuple #[va, vb]) ∧ Rd i64e w' va ((nums n l).map ptrI) ∧ Rd i64e w' vb (nums n l) ∧ (∀ b, va.ownBlock = some b → w.heap.size ≤ b) ∧ (∀ b, vb.ownBlock = some b → w.heap.size ≤ b) ∧ Below w.heap.size w w' := by
  obtain ⟨S, H⟩ := H
  exact roots_w w0 w q h m n S K _ H v l hv hl hbd
theorem LA.guard (H : LA w0 w q h m n K R) (hb : Below w.heap.size w w') : LA (w0.guard w w') w' q h m n K R := by
  obtain ⟨S, H⟩ := H
  exact ⟨S, H.guard hb⟩
theorem LA.unguard {w1 : World} {q' h' m' n' : Nat} {K' : MK} {R' : RM} (H0 : LA w0 w q h m n K R) (hb : Below w.heap.size w w1) (H : LA (w0.guard w w1) w' q' h' m' n' K' R') : LA w0 w' q' h' m' n' K' R' := by
  obtain ⟨S0, H0⟩ := H0
  obtain ⟨S, H⟩ := H
  exact ⟨S, H0.unguard hb H⟩
theorem LA.keeps {w1 : World} (H : LA (w0.guard w w1) w' q h m n K R) {k : Nat} (h0 : w.heap.size ≤ k) (h1 : k < w1.heap.size) : w'.heap[k]? = w1.heap[k]? := by
  obtain ⟨S, H⟩ := H
  exact H.keeps h0 h1
theorem LA.sizeQ {w1 : World} (H : LA (w0.guard w w1) w' q h m n K R) (hb : Below w.heap.size w w1) : ∀ k, w.heap.size ≤ k → k < w1.heap.size → k < w'.heap.size := fun k h0 h1 => by
  obtain ⟨S, F, D, G, W, hF, fe, C⟩ := H
  exact (fe.kept k (.inr ⟨h0, h1⟩)).1
/-- A list that is kept reads still. -/
theorem LA.rd {w1 : World} (H : LA (w0.guard w w1) w' q h m n K R) {α : Type} {enc : α → Value} {xs : List α} {v : Value} (hr : Rd enc w1 v xs) (hf : ∀ b, v.ownBlock = some b → w.heap.size ≤ b) : Rd enc w' v xs := by
  obtain ⟨A, c, rfl, h1, h3⟩ := hr
  refine ⟨A, c, rfl, h1, fun hp => ?_⟩
  obtain ⟨b, o, rfl, hlt, hc⟩ := h3 hp
  have hk := H.keeps (hf b rfl) hlt
  obtain ⟨S, F, D, G, W, hF, fe, C⟩ := H
  exact ⟨b, o, rfl, (fe.kept b (.inr ⟨hf b rfl, hlt⟩)).1, fun i hi => (World.cell?_of_block hk).trans (hc i hi)⟩
theorem LA.c (H : LA w0 w q h m n K R) : ∃ S, Cw n S R.objs := by obtain ⟨S, H⟩ := H; exact ⟨S, H.c⟩
end
end Go.Proofs.YtnoiepmapmcjdaaDoor
namespace Go.Proofs.YtnoiepmapmcjdaaDoor
open Go.RowKit Go.Shelf
section
variable {w0 : W0} {w w' : World} {q h m n : Nat} {K : MK} {R : RM}
/-- Behind an act: the program's and the document's are one again. -/
def DidA (w0 : W0) (q h m n : Nat) : Ending → World → Prop := fun e w' => e = .returned (.bool true) ∧ ∃ K' R', LA w0 w' q h m n K' R' ∧ CK n K' R'.rd
set_option maxHeartbeats 6400000 in
set_option maxRecDepth 100000 in
theorem mdoes_set (H : LA w0 w q h m n K R) (HX : CK n K R.rd) (kind xa xb xk : Int) (rv : Option Addr × Nat × Nat) (rl : List Int) (hx : MActOk w ⟨kind, xa, xb, xk, rv, rl⟩) (hl : rl.length ≤ 20) (hk : kind % 8 = 6 ∨ kind % 8 = 7) :
    Calls Tryd.prog 23 #[.pointer (some ⟨q, 0, none⟩), .agg #[.int .u8 kind, .int .u8 xa, .int .u8 xb, .int .u8 xk, slE rv]] w (DidA w0 q h m n) := by
  have hn := H.n11
  have hd := hx.kind
  have ha := hx.a
  have hb := hx.b
  have hkk := hx.k
  dsimp only at hd ha hb hkk
  obtain ⟨Av, cv, hrv, -⟩ := hx.rd.len
  dsimp only at hrv
  have HRd := hx.rd
  have HRb := Lib.hid hx.rb
  dsimp only at HRd HRb
  rw [hrv] at HRd ⊢
  replace HRd := Lib.hid HRd
  replace hrv := Lib.hid hrv
  clear hx
  obtain ⟨a, hxa⟩ : ∃ a : Nat, xa % ((n : Int) + 1) = (a : Int) := ⟨(xa % ((n : Int) + 1)).toNat, by have := num_mod (n := n) xa; omega⟩
  obtain ⟨b, hxb⟩ : ∃ b : Nat, xb % ((n : Int) + 1) = (b : Int) := ⟨(xb % ((n : Int) + 1)).toNat, by have := num_mod (n := n) xb; omega⟩
  have han : a ≤ n := by have := num_mod (n := n) xa; omega
  have hbn : b ≤ n := by have := num_mod (n := n) xb; omega
  have hgx : GInv K ∨ True := .inr trivial
  clear hgx
  replace H := Lib.hid H
  replace HX := Lib.hid HX
  go_enter Tryd.func23, Tryd.ntmps23
  go_wp2_with (refine wpList_new rfl (.box 30 (.tmp 1)) rfl w.heap.size rfl 30 #[.int .u8 kind, .int .u8 xa, .int .u8 xb, .int .u8 xk, .slice Av rl.length cv] (by kernel_rfl) ?_; intro w1 hs1 hb1 hB1; refine stop_here ?_)
  have e0 : w1.cell? ⟨w.heap.size, 0, none⟩ = some (.int .u8 kind) := hB1.cell 0
  have e1 : w1.cell? ⟨w.heap.size, 1, none⟩ = some (.int .u8 xa) := hB1.cell 1
  have e2 : w1.cell? ⟨w.heap.size, 2, none⟩ = some (.int .u8 xb) := hB1.cell 2
  have e3 : w1.cell? ⟨w.heap.size, 3, none⟩ = some (.int .u8 xk) := hB1.cell 3
  have e4 : w1.cell? ⟨w.heap.size, 4, none⟩ = some (.slice Av rl.length cv) := hB1.cell 4
  have H1 := H.out.below hb1
  obtain ⟨Ap, cp, q2, -⟩ := H1.ptrs
  have hgl := hB1.lt
  have wa : IntKind.i64.wrap xa = xa := by rw [IntKind.wrap_i64]; omega
  have wb : IntKind.i64.wrap xb = xb := by rw [IntKind.wrap_i64]; omega
  have wn : IntKind.i64.wrap ((n : Int) + 1) = (n : Int) + 1 := by rw [IntKind.wrap_i64]; omega
  have nz : ((n : Int) + 1 = 0) = False := by rw [eq_iff_iff, iff_false]; omega
  have ta : xa.tmod ((n : Int) + 1) = (a : Int) := (Int.tmod_eq_emod_of_nonneg ha.1).trans hxa
  have tb : xb.tmod ((n : Int) + 1) = (b : Int) := (Int.tmod_eq_emod_of_nonneg hb.1).trans hxb
  replace H1 := Lib.hid H1
  clear H hB1 hs1
  refine go_on ?_
  go_wp2_with fail
  go_quiet (fail)
  have H2 := Lib.hid (H1.out.below (below_drewN (Below.refl w1.heap.size w1) nq))
  have b2 : Below w.heap.size w (w1.drewN nq) := below_drewN hb1 nq
  replace e0 : (w1.drewN nq).cell? ⟨w.heap.size, 0, none⟩ = some (.int .u8 kind) := e0
  replace e3 : (w1.drewN nq).cell? ⟨w.heap.size, 3, none⟩ = some (.int .u8 xk) := e3
  replace e4 : (w1.drewN nq).cell? ⟨w.heap.size, 4, none⟩ = some (.slice Av rl.length cv) := e4
  replace hgl : w.heap.size < (w1.drewN nq).heap.size := hgl
  generalize w1.drewN nq = w2 at H2 b2 e0 e3 e4 hgl ⊢
  clear H1 hb1 e1 e2 q2 wa wb wn nz ta tb
  replace hxa := Lib.hid hxa
  replace hxb := Lib.hid hxb
  have wk : IntKind.i64.wrap xk = xk := by rw [IntKind.wrap_i64]; omega
  have HS := Lib.hid (la_set H2.out (a : Int) (xk % 4) (b : Int) (by omega) (by omega) (by omega))
  rcases hk with hk | hk
  · go_wp2_with fail
    refine HS.out.mono ?_
    rintro e w4 ⟨rfl, H4⟩
    replace H4 := Lib.hid H4
    go_wp2_with fail
    go_ret
    exact ⟨rfl, _, _, H4.out, HX.out⟩
  · go_wp2_with fail
    refine HS.out.mono ?_
    rintro e w4 ⟨rfl, H4⟩
    replace H4 := Lib.hid H4
    go_wp2_with fail
    go_ret
    exact ⟨rfl, _, _, H4.out, HX.out⟩
/-- A call of the marks where the document's new marks are laid: the coupling is with the old ones. -/
theorem la_marks {R2 : RM} (H : LA w0 w q h m n K R2) (ho : R2.objs = R.objs) (HX : CK n K R.rd) : ∃ S, Cw n S R.objs ∧ LW w0 w q h m n S K R2 := by
  obtain ⟨S, H⟩ := H
  exact ⟨S, ho ▸ H.c, H⟩
theorem la_shade2 {R2 : RM} (H : LA w0 w q h m n K R2) (HX : CK n K R.rd) (b : Int) (hb : 0 ≤ b ∧ b ≤ n) :
    Calls Tryd.prog 19 #[.pointer (some ⟨m, 0, none⟩), .int .i64 (ptrI b)] w fun e w' => e = .returned (.int .i64 0) ∧ ∃ K', LA w0 w' q h m n K' R2 ∧ CK n K' (if R.on = false then R.rd else dShade R.rd b) := by
  obtain ⟨S, H⟩ := H
  have hp := ptrI_bd H.c.n11 hb
  refine (lshade H (ptrI b) (by omega) (by omega)).mono ?_
  rintro e w' ⟨rfl, H'⟩
  by_cases ho : R.on = false
  · have hk : mKnown S K (ptrI b) = (false, 0) := by unfold mKnown; rw [if_pos (.inl (HX.on.trans ho))]
    have hs : mShade S K (ptrI b) = K := by unfold mShade; rw [hk, if_neg (by simp)]
    rw [hk, if_pos ho]
    rw [hs] at H'
    exact ⟨rfl, K, ⟨S, H'⟩, HX⟩
  · have hon : K.on = true := HX.on.trans (show R.on = true by simpa using ho)
    rw [H.c.known hon hb, if_neg ho]
    exact ⟨rfl, _, ⟨S, H'⟩, (H.c.shade HX hon hb).1⟩
theorem la_made2 {R2 : RM} (H : LA w0 w q h m n K R2) (HX : CK n K R.rd) (b : Int) (hb : 0 ≤ b ∧ b ≤ n) :
    Calls Tryd.prog 22 #[.pointer (some ⟨m, 0, none⟩), .int .i64 (ptrI b)] w fun e w' => e = .returned (.int .i64 0) ∧ ∃ K', LA w0 w' q h m n K' R2 ∧ CK n K' (if R.on = false ∨ b = 0 then R.rd else dMade R.rd b) := by
  obtain ⟨S, H⟩ := H
  have hp := ptrI_bd H.c.n11 hb
  refine (lmade H (ptrI b) (by omega) (by omega)).mono ?_
  rintro e w' ⟨rfl, H'⟩
  by_cases ho : R.on = false ∨ b = 0
  · have hk : mKnown S K (ptrI b) = (false, 0) := by
      unfold mKnown
      rw [if_pos (ho.imp (fun h => HX.on.trans h) fun h => by subst h; rfl)]
    have hs : mMade S K (ptrI b) = K := by unfold mMade; rw [hk, if_neg (by simp)]
    rw [hk, if_pos ho]
    rw [hs] at H'
    exact ⟨rfl, K, ⟨S, H'⟩, HX⟩
  · have hon : K.on = true := by
      have h2 : K.on = R.on := HX.on
      rw [h2]
      cases h : R.on with
      | false => exact absurd (.inl h) ho
      | true => rfl
    have hb1 : 1 ≤ b := by
      have : b ≠ 0 := fun e => ho (.inr e)
      omega
    have hm := H.c.made HX hon hb1 hb.2
    rw [hm.1, if_neg ho]
    exact ⟨rfl, _, ⟨S, H'⟩, hm.2.1⟩
set_option maxHeartbeats 6400000 in
set_option maxRecDepth 100000 in
theorem mdoes_shade (H : LA w0 w q h m n K R) (HX : CK n K R.rd) (kind xa xb xk : Int) (rv : Option Addr × Nat × Nat) (rl : List Int) (hx : MActOk w ⟨kind, xa, xb, xk, rv, rl⟩) (hl : rl.length ≤ 20) (hk : kind % 8 = 1) :
    Calls Tryd.prog 23 #[.pointer (some ⟨q, 0, none⟩), .agg #[.int .u8 kind, .int .u8 xa, .int .u8 xb, .int .u8 xk, slE rv]] w (DidA w0 q h m n) := by
  have hn := H.n11
  have hd := hx.kind
  have ha := hx.a
  have hb := hx.b
  have hkk := hx.k
  dsimp only at hd ha hb hkk
  obtain ⟨Av, cv, hrv, -⟩ := hx.rd.len
  dsimp only at hrv
  have HRd := hx.rd
  have HRb := Lib.hid hx.rb
  dsimp only at HRd HRb
  rw [hrv] at HRd ⊢
  replace HRd := Lib.hid HRd
  replace hrv := Lib.hid hrv
  clear hx
  obtain ⟨a, hxa⟩ : ∃ a : Nat, xa % ((n : Int) + 1) = (a : Int) := ⟨(xa % ((n : Int) + 1)).toNat, by have := num_mod (n := n) xa; omega⟩
  obtain ⟨b, hxb⟩ : ∃ b : Nat, xb % ((n : Int) + 1) = (b : Int) := ⟨(xb % ((n : Int) + 1)).toNat, by have := num_mod (n := n) xb; omega⟩
  have han : a ≤ n := by have := num_mod (n := n) xa; omega
  have hbn : b ≤ n := by have := num_mod (n := n) xb; omega
  have hgx : GInv K ∨ True := .inr trivial
  clear hgx
  replace H := Lib.hid H
  replace HX := Lib.hid HX
  go_enter Tryd.func23, Tryd.ntmps23
  go_wp2_with (refine wpList_new rfl (.box 30 (.tmp 1)) rfl w.heap.size rfl 30 #[.int .u8 kind, .int .u8 xa, .int .u8 xb, .int .u8 xk, .slice Av rl.length cv] (by kernel_rfl) ?_; intro w1 hs1 hb1 hB1; refine stop_here ?_)
  have e0 : w1.cell? ⟨w.heap.size, 0, none⟩ = some (.int .u8 kind) := hB1.cell 0
  have e1 : w1.cell? ⟨w.heap.size, 1, none⟩ = some (.int .u8 xa) := hB1.cell 1
  have e2 : w1.cell? ⟨w.heap.size, 2, none⟩ = some (.int .u8 xb) := hB1.cell 2
  have e3 : w1.cell? ⟨w.heap.size, 3, none⟩ = some (.int .u8 xk) := hB1.cell 3
  have e4 : w1.cell? ⟨w.heap.size, 4, none⟩ = some (.slice Av rl.length cv) := hB1.cell 4
  have H1 := H.out.below hb1
  obtain ⟨Ap, cp, q2, -⟩ := H1.ptrs
  have hgl := hB1.lt
  have wa : IntKind.i64.wrap xa = xa := by rw [IntKind.wrap_i64]; omega
  have wb : IntKind.i64.wrap xb = xb := by rw [IntKind.wrap_i64]; omega
  have wn : IntKind.i64.wrap ((n : Int) + 1) = (n : Int) + 1 := by rw [IntKind.wrap_i64]; omega
  have nz : ((n : Int) + 1 = 0) = False := by rw [eq_iff_iff, iff_false]; omega
  have ta : xa.tmod ((n : Int) + 1) = (a : Int) := (Int.tmod_eq_emod_of_nonneg ha.1).trans hxa
  have tb : xb.tmod ((n : Int) + 1) = (b : Int) := (Int.tmod_eq_emod_of_nonneg hb.1).trans hxb
  replace H1 := Lib.hid H1
  clear H hB1 hs1
  refine go_on ?_
  go_wp2_with fail
  go_quiet (fail)
  have H2 := Lib.hid (H1.out.below (below_drewN (Below.refl w1.heap.size w1) nq))
  have b2 : Below w.heap.size w (w1.drewN nq) := below_drewN hb1 nq
  replace e0 : (w1.drewN nq).cell? ⟨w.heap.size, 0, none⟩ = some (.int .u8 kind) := e0
  replace e3 : (w1.drewN nq).cell? ⟨w.heap.size, 3, none⟩ = some (.int .u8 xk) := e3
  replace e4 : (w1.drewN nq).cell? ⟨w.heap.size, 4, none⟩ = some (.slice Av rl.length cv) := e4
  replace hgl : w.heap.size < (w1.drewN nq).heap.size := hgl
  generalize w1.drewN nq = w2 at H2 b2 e0 e3 e4 hgl ⊢
  clear H1 hb1 e1 e2 q2 wa wb wn nz ta tb
  replace hxa := Lib.hid hxa
  replace hxb := Lib.hid hxb
  obtain ⟨Ao, co, vg, vb, hat, hRV, hput⟩ := la_open H2.out HX.out.ok
  have SZ := Lib.hid rm_size
  have H2c := H2.out.cells
  have hq2 := H2c.2.2.1
  replace H2c := Lib.hid H2c
  have HC := Lib.hid (mShade17 (on := R.on) hRV (a : Int) (by have := (ok_len HX.out.ok).1; have h2 : R.greys.length ≤ n := this; omega) (by obtain ⟨S9, C9⟩ := H2.out.c; rw [C9.ol]; omega) (by obtain ⟨S9, C9⟩ := H2.out.c; rw [C9.ol]; omega))
  replace hat := Lib.hid hat
  replace hput := Lib.hid hput
  replace hRV := Lib.hid hRV
  go_wp2_with (refine wpList_load_mid rfl 37 (.tmp 83) rfl q 3 rfl [.slice Ao n co, .bool R.on, vg, vb] _ (hat.out w2 (Below.refl _ _)) Tryd.underlying37 rfl SZ.out ?_)
  refine HC.out.mono ?_
  rintro e w3 ⟨vg', vb', rfl, H3, n1, n2, b3⟩
  obtain ⟨X, hX⟩ : ∃ X, X = (if R.on = false then (⟨R.on, R.greys, R.black⟩ : RD) else dShade ⟨R.on, R.greys, R.black⟩ (a : Int)) := ⟨_, rfl⟩
  rw [← hX] at H3 n1 n2 ⊢
  replace hX := Lib.hid hX
  have ON3 := Lib.hid (H3.one X.on)
  have hs3 := b3.size
  clear HC
  go_wp2_with (first
    | (refine wpList_new rfl (.alloc 37) rfl w3.heap.size rfl 37 rm0 (by kernel_rfl) ?_; intro w4 hs4 hb4 hB4; have HB4 := Lib.hid hB4; clear hB4)
    | (refine wpList_store_blk rfl 37 (.tmp 11) (.tmp 87) rfl w3.heap.size rfl (rm4 (.slice Ao n co) X.on vg' vb') rfl 37 rm0 HB4.out SZ.out rfl ON3.out ?_; intro w5 hB5 hg5 hs5; refine stop_here ?_))
  have b5 : Below w2.heap.size w2 w5 := (b3.trans (hb4.mono hs3)).grown hg5 (by have := hb4.size; omega) (fun k hk => by cases hk; exact hs3)
  have b35 : Below w3.heap.size w3 w5 := hb4.grown hg5 hb4.size (fun k hk => by cases hk; exact Nat.le_refl _)
  obtain ⟨ht, H6⟩ := hput.out w5 X vg' vb' b5 (H3.below b35) n1 n2
  have ht4 : w5.there q 3 (rm4 (.slice Ao n co) X.on vg' vb').size := ht
  replace hB5 := Lib.hid hB5
  replace ht4 := Lib.hid ht4
  replace H6 := Lib.hid H6
  have b6 : Below w.heap.size w (w5.setCells q 3 [.slice Ao n co, .bool X.on, vg', vb']) ∨ True := .inr trivial
  clear b6 HB4 hs4 hb4 hg5 hs5 b35 H3 n1 n2 ht
  refine go_on ?_
  go_wp2_with (first
    | (refine wpList_load_blk rfl 37 (.tmp 11) rfl w3.heap.size rfl 37 (rm4 (.slice Ao n co) X.on vg' vb') hB5.out _ Tryd.underlying37 rfl SZ.out ?_)
    | (refine wpList_store_mid rfl 37 (.tmp 92) (.tmp 90) rfl q 3 (rm4 (.slice Ao n co) X.on vg' vb') rfl rfl ht4.out SZ.out ON3.out ?_; refine stop_here ?_))
  have H6' : LA w0 (w5.setCells q 3 (rm4 (.slice Ao n co) X.on vg' vb').toList) q h m n K ⟨R.objs, X.on, X.greys, X.black⟩ := H6.out
  have hb56 : w5.heap.size = (w5.setCells q 3 (rm4 (.slice Ao n co) X.on vg' vb').toList).heap.size := by
    show w5.heap.size = (w5.setCells q 3 [.slice Ao n co, .bool X.on, vg', vb']).heap.size
    rw [setCells4, setCell_size, setCell_size, setCell_size, setCell_size]
  have ho56 : ∀ k, k ≠ q → (w5.setCells q 3 (rm4 (.slice Ao n co) X.on vg' vb').toList).heap[k]? = w5.heap[k]? := fun k hk => by
    show (w5.setCells q 3 [.slice Ao n co, .bool X.on, vg', vb']).heap[k]? = _
    rw [setCells4, setCell_other _ q _ _ hk, setCell_other _ q _ _ hk, setCell_other _ q _ _ hk, setCell_other _ q _ _ hk]
  generalize w5.setCells q 3 (rm4 (.slice Ao n co) X.on vg' vb').toList = w6 at H6' hb56 ho56 ⊢
  clear H6 ht4 hB5 ON3
  replace H6' := Lib.hid H6'
  refine go_on ?_
  have hXe : X = (if R.on = false then R.rd else dShade R.rd (a : Int)) := hX.out
  replace hXe := Lib.hid hXe
  go_wp2_with fail
  have p6 := H6'.out.cells.2.1
  have hq6 := H6'.out.cells.2.2.1
  have H6d := H6'.out.below (show Below w6.heap.size w6 w6.drew from (Below.refl _ _).drew)
  have HP := Lib.hid (la_ptr H6d (a : Int) (by omega))
  have HM := Lib.hid (la_shade2 H6d HX.out (a : Int) (by omega))
  have hS0 : (fun X : World => Below w6.heap.size w6 X) w6.drew := (Below.refl _ _).drew
  refine wp_T (by kernel_rfl) 7 (fun X : World => Below w6.heap.size w6 X) ?_
  refine wpAnyT_takeW (i := 0) (v := .pointer (some ⟨q, 0, none⟩)) rfl (by kernel_rfl) (fun _ _ _ hp => hp) (Or.inl ⟨by kernel_rfl, fun X _ => by go_simp⟩) hS0 ?_
  simp only [Act.put, List.setIfInBounds_toArray, List.set_cons_zero, List.set_cons_succ]
  refine wpAnyT_takeW (i := 1) (v := .pointer (some ⟨q, 0, none⟩)) rfl (by kernel_rfl) (fun _ _ _ hp => hp) (Or.inl ⟨by kernel_rfl, fun X _ => by go_simp⟩) hS0 ?_
  simp only [Act.put, List.setIfInBounds_toArray, List.set_cons_zero, List.set_cons_succ]
  refine wpAnyT_takeW (i := 2) (v := .pointer (some ⟨q, 1, none⟩)) rfl (by kernel_rfl) (fun _ _ _ hp => hp) (Or.inl ⟨by kernel_rfl, fun X _ => by go_simp⟩) hS0 ?_
  simp only [Act.put, List.setIfInBounds_toArray, List.set_cons_zero, List.set_cons_succ]
  refine wpAnyT_takeW (i := 4) (v := .pointer (some ⟨q, 0, none⟩)) rfl (by kernel_rfl) (fun _ _ _ hp => hp) (Or.inl ⟨by kernel_rfl, fun X _ => by go_simp⟩) hS0 ?_
  simp only [Act.put, List.setIfInBounds_toArray, List.set_cons_zero, List.set_cons_succ]
  refine wpAnyT_takeW (i := 5) (v := .int .i64 (a : Int)) rfl (by kernel_rfl) (fun _ _ _ hp => hp) (Or.inl ⟨by kernel_rfl, fun X _ => by go_simp⟩) hS0 ?_
  simp only [Act.put, List.setIfInBounds_toArray, List.set_cons_zero, List.set_cons_succ]
  refine wpAnyT_takeW (i := 8) (v := .int .i64 0) rfl (by kernel_rfl) (fun _ _ _ hp => hp) (Or.inl ⟨by kernel_rfl, fun X _ => by go_simp⟩) hS0 ?_
  simp only [Act.put, List.setIfInBounds_toArray, List.set_cons_zero, List.set_cons_succ]
  refine wpAnyT_takeC (i := 3) (v := .pointer (some ⟨m, 0, none⟩)) [] rfl (by kernel_rfl) (fun _ _ _ hp => hp) (Or.inl ⟨by kernel_rfl, fun X hX => by have y1 := (hX.cell (p := ⟨q, 1, none⟩) hq6).trans p6; go_simp⟩) hS0 ?_
  simp only [Act.put, List.setIfInBounds_toArray, List.set_cons_zero, List.set_cons_succ]
  refine wpAnyT_one (i := 6) rfl (by kernel_rfl) (by kernel_rfl) ?_
  intro K1 hK1
  go_simp
  refine (HP.out).mono ?_
  rintro e _ ⟨rfl, rfl⟩
  dsimp only
  refine hK1.out _ _ (fun _ => hS0) ?_
  (try simp only [Act.put, List.setIfInBounds_toArray, List.set_cons_zero, List.set_cons_succ])
  refine wpAnyT_one (i := 7) rfl (by kernel_rfl) (by kernel_rfl) ?_
  intro K2 hK2
  go_simp
  refine (HM.out).mono ?_
  rintro e w7 ⟨rfl, K7, H7, ck7⟩
  dsimp only
  refine hK2.out _ _ (fun hh => absurd rfl hh) ?_
  (try simp only [Act.put, List.setIfInBounds_toArray, List.set_cons_zero, List.set_cons_succ])
  refine wpAnyT_lat2 (i := 9) rfl (by kernel_rfl) (by kernel_rfl) (by kernel_rfl) ?_
  intro K3 hK3
  go_simp
  refine hK3.out _ _ ?_
  (try simp only [Act.put, List.setIfInBounds_toArray, List.set_cons_zero, List.set_cons_succ])
  refine wpAnyT_lat2 (i := 10) rfl (by kernel_rfl) (by kernel_rfl) (by kernel_rfl) ?_
  intro K4 hK4
  go_simp
  refine hK4.out _ _ ?_
  (try simp only [Act.put, List.setIfInBounds_toArray, List.set_cons_zero, List.set_cons_succ])
  refine wpAnyT_done (by kernel_rfl) ?_ _
  (try simp only [Act.put, List.setIfInBounds_toArray, List.set_cons_zero, List.set_cons_succ])
  clear hK1 K1 hK2 K2 hK3 K3 hK4 K4
  replace H7 := Lib.hid H7
  replace ck7 := Lib.hid ck7
  clear HP HM hS0 p6 hq6 H6d
  go_wp2_with fail
  go_ret
  exact ⟨rfl, K7, _, H7.out, by rw [← hXe.out] at ck7; exact ck7.out⟩
set_option maxHeartbeats 6400000 in
set_option maxRecDepth 100000 in
theorem mdoes_made (H : LA w0 w q h m n K R) (HX : CK n K R.rd) (kind xa xb xk : Int) (rv : Option Addr × Nat × Nat) (rl : List Int) (hx : MActOk w ⟨kind, xa, xb, xk, rv, rl⟩) (hl : rl.length ≤ 20) (hk : kind % 8 = 2) :
    Calls Tryd.prog 23 #[.pointer (some ⟨q, 0, none⟩), .agg #[.int .u8 kind, .int .u8 xa, .int .u8 xb, .int .u8 xk, slE rv]] w (DidA w0 q h m n) := by
  have hn := H.n11
  have hd := hx.kind
  have ha := hx.a
  have hb := hx.b
  have hkk := hx.k
  dsimp only at hd ha hb hkk
  obtain ⟨Av, cv, hrv, -⟩ := hx.rd.len
  dsimp only at hrv
  have HRd := hx.rd
  have HRb := Lib.hid hx.rb
  dsimp only at HRd HRb
  rw [hrv] at HRd ⊢
  replace HRd := Lib.hid HRd
  replace hrv := Lib.hid hrv
  clear hx
  obtain ⟨a, hxa⟩ : ∃ a : Nat, xa % ((n : Int) + 1) = (a : Int) := ⟨(xa % ((n : Int) + 1)).toNat, by have := num_mod (n := n) xa; omega⟩
  obtain ⟨b, hxb⟩ : ∃ b : Nat, xb % ((n : Int) + 1) = (b : Int) := ⟨(xb % ((n : Int) + 1)).toNat, by have := num_mod (n := n) xb; omega⟩
  have han : a ≤ n := by have := num_mod (n := n) xa; omega
  have hbn : b ≤ n := by have := num_mod (n := n) xb; omega
  have hgx : GInv K ∨ True := .inr trivial
  clear hgx
  replace H := Lib.hid H
  replace HX := Lib.hid HX
  go_enter Tryd.func23, Tryd.ntmps23
  go_wp2_with (refine wpList_new rfl (.box 30 (.tmp 1)) rfl w.heap.size rfl 30 #[.int .u8 kind, .int .u8 xa, .int .u8 xb, .int .u8 xk, .slice Av rl.length cv] (by kernel_rfl) ?_; intro w1 hs1 hb1 hB1; refine stop_here ?_)
  have e0 : w1.cell? ⟨w.heap.size, 0, none⟩ = some (.int .u8 kind) := hB1.cell 0
  have e1 : w1.cell? ⟨w.heap.size, 1, none⟩ = some (.int .u8 xa) := hB1.cell 1
  have e2 : w1.cell? ⟨w.heap.size, 2, none⟩ = some (.int .u8 xb) := hB1.cell 2
  have e3 : w1.cell? ⟨w.heap.size, 3, none⟩ = some (.int .u8 xk) := hB1.cell 3
  have e4 : w1.cell? ⟨w.heap.size, 4, none⟩ = some (.slice Av rl.length cv) := hB1.cell 4
  have H1 := H.out.below hb1
  obtain ⟨Ap, cp, q2, -⟩ := H1.ptrs
  have hgl := hB1.lt
  have wa : IntKind.i64.wrap xa = xa := by rw [IntKind.wrap_i64]; omega
  have wb : IntKind.i64.wrap xb = xb := by rw [IntKind.wrap_i64]; omega
  have wn : IntKind.i64.wrap ((n : Int) + 1) = (n : Int) + 1 := by rw [IntKind.wrap_i64]; omega
  have nz : ((n : Int) + 1 = 0) = False := by rw [eq_iff_iff, iff_false]; omega
  have ta : xa.tmod ((n : Int) + 1) = (a : Int) := (Int.tmod_eq_emod_of_nonneg ha.1).trans hxa
  have tb : xb.tmod ((n : Int) + 1) = (b : Int) := (Int.tmod_eq_emod_of_nonneg hb.1).trans hxb
  replace H1 := Lib.hid H1
  clear H hB1 hs1
  refine go_on ?_
  go_wp2_with fail
  go_quiet (fail)
  have H2 := Lib.hid (H1.out.below (below_drewN (Below.refl w1.heap.size w1) nq))
  have b2 : Below w.heap.size w (w1.drewN nq) := below_drewN hb1 nq
  replace e0 : (w1.drewN nq).cell? ⟨w.heap.size, 0, none⟩ = some (.int .u8 kind) := e0
  replace e3 : (w1.drewN nq).cell? ⟨w.heap.size, 3, none⟩ = some (.int .u8 xk) := e3
  replace e4 : (w1.drewN nq).cell? ⟨w.heap.size, 4, none⟩ = some (.slice Av rl.length cv) := e4
  replace hgl : w.heap.size < (w1.drewN nq).heap.size := hgl
  generalize w1.drewN nq = w2 at H2 b2 e0 e3 e4 hgl ⊢
  clear H1 hb1 e1 e2 q2 wa wb wn nz ta tb
  replace hxa := Lib.hid hxa
  replace hxb := Lib.hid hxb
  obtain ⟨Ao, co, vg, vb, hat, hRV, hput⟩ := la_open H2.out HX.out.ok
  have SZ := Lib.hid rm_size
  have H2c := H2.out.cells
  have hq2 := H2c.2.2.1
  replace H2c := Lib.hid H2c
  have HC := Lib.hid (mMade17 (on := R.on) hRV (a : Int) (by have := (ok_len HX.out.ok).1; have h2 : R.greys.length ≤ n := this; omega) (by have := (ok_len HX.out.ok).2; have h2 : R.black.length ≤ n := this; omega) (by obtain ⟨S9, C9⟩ := H2.out.c; rw [C9.ol]; omega) (by obtain ⟨S9, C9⟩ := H2.out.c; rw [C9.ol]; omega))
  replace hat := Lib.hid hat
  replace hput := Lib.hid hput
  replace hRV := Lib.hid hRV
  go_wp2_with (refine wpList_load_mid rfl 37 (.tmp 108) rfl q 3 rfl [.slice Ao n co, .bool R.on, vg, vb] _ (hat.out w2 (Below.refl _ _)) Tryd.underlying37 rfl SZ.out ?_)
  refine HC.out.mono ?_
  rintro e w3 ⟨vg', vb', rfl, H3, n1, n2, b3⟩
  obtain ⟨X, hX⟩ : ∃ X, X = (if R.on = false ∨ (a : Int) = 0 then (⟨R.on, R.greys, R.black⟩ : RD) else dMade ⟨R.on, R.greys, R.black⟩ (a : Int)) := ⟨_, rfl⟩
  rw [← hX] at H3 n1 n2 ⊢
  replace hX := Lib.hid hX
  have ON3 := Lib.hid (H3.one X.on)
  have hs3 := b3.size
  clear HC
  go_wp2_with (first
    | (refine wpList_new rfl (.alloc 37) rfl w3.heap.size rfl 37 rm0 (by kernel_rfl) ?_; intro w4 hs4 hb4 hB4; have HB4 := Lib.hid hB4; clear hB4)
    | (refine wpList_store_blk rfl 37 (.tmp 13) (.tmp 112) rfl w3.heap.size rfl (rm4 (.slice Ao n co) X.on vg' vb') rfl 37 rm0 HB4.out SZ.out rfl ON3.out ?_; intro w5 hB5 hg5 hs5; refine stop_here ?_))
  have b5 : Below w2.heap.size w2 w5 := (b3.trans (hb4.mono hs3)).grown hg5 (by have := hb4.size; omega) (fun k hk => by cases hk; exact hs3)
  have b35 : Below w3.heap.size w3 w5 := hb4.grown hg5 hb4.size (fun k hk => by cases hk; exact Nat.le_refl _)
  obtain ⟨ht, H6⟩ := hput.out w5 X vg' vb' b5 (H3.below b35) n1 n2
  have ht4 : w5.there q 3 (rm4 (.slice Ao n co) X.on vg' vb').size := ht
  replace hB5 := Lib.hid hB5
  replace ht4 := Lib.hid ht4
  replace H6 := Lib.hid H6
  have b6 : Below w.heap.size w (w5.setCells q 3 [.slice Ao n co, .bool X.on, vg', vb']) ∨ True := .inr trivial
  clear b6 HB4 hs4 hb4 hg5 hs5 b35 H3 n1 n2 ht
  refine go_on ?_
  go_wp2_with (first
    | (refine wpList_load_blk rfl 37 (.tmp 13) rfl w3.heap.size rfl 37 (rm4 (.slice Ao n co) X.on vg' vb') hB5.out _ Tryd.underlying37 rfl SZ.out ?_)
    | (refine wpList_store_mid rfl 37 (.tmp 117) (.tmp 115) rfl q 3 (rm4 (.slice Ao n co) X.on vg' vb') rfl rfl ht4.out SZ.out ON3.out ?_; refine stop_here ?_))
  have H6' : LA w0 (w5.setCells q 3 (rm4 (.slice Ao n co) X.on vg' vb').toList) q h m n K ⟨R.objs, X.on, X.greys, X.black⟩ := H6.out
  have hb56 : w5.heap.size = (w5.setCells q 3 (rm4 (.slice Ao n co) X.on vg' vb').toList).heap.size := by
    show w5.heap.size = (w5.setCells q 3 [.slice Ao n co, .bool X.on, vg', vb']).heap.size
    rw [setCells4, setCell_size, setCell_size, setCell_size, setCell_size]
  have ho56 : ∀ k, k ≠ q → (w5.setCells q 3 (rm4 (.slice Ao n co) X.on vg' vb').toList).heap[k]? = w5.heap[k]? := fun k hk => by
    show (w5.setCells q 3 [.slice Ao n co, .bool X.on, vg', vb']).heap[k]? = _
    rw [setCells4, setCell_other _ q _ _ hk, setCell_other _ q _ _ hk, setCell_other _ q _ _ hk, setCell_other _ q _ _ hk]
  generalize w5.setCells q 3 (rm4 (.slice Ao n co) X.on vg' vb').toList = w6 at H6' hb56 ho56 ⊢
  clear H6 ht4 hB5 ON3
  replace H6' := Lib.hid H6'
  refine go_on ?_
  have hXe : X = (if R.on = false ∨ (a : Int) = 0 then R.rd else dMade R.rd (a : Int)) := hX.out
  replace hXe := Lib.hid hXe
  go_wp2_with fail
  have p6 := H6'.out.cells.2.1
  have hq6 := H6'.out.cells.2.2.1
  have H6d := H6'.out.below (show Below w6.heap.size w6 w6.drew from (Below.refl _ _).drew)
  have HP := Lib.hid (la_ptr H6d (a : Int) (by omega))
  have HM := Lib.hid (la_made2 H6d HX.out (a : Int) (by omega))
  have hS0 : (fun X : World => Below w6.heap.size w6 X) w6.drew := (Below.refl _ _).drew
  refine wp_T (by kernel_rfl) 7 (fun X : World => Below w6.heap.size w6 X) ?_
  refine wpAnyT_takeW (i := 0) (v := .pointer (some ⟨q, 0, none⟩)) rfl (by kernel_rfl) (fun _ _ _ hp => hp) (Or.inl ⟨by kernel_rfl, fun X _ => by go_simp⟩) hS0 ?_
  simp only [Act.put, List.setIfInBounds_toArray, List.set_cons_zero, List.set_cons_succ]
  refine wpAnyT_takeW (i := 1) (v := .pointer (some ⟨q, 0, none⟩)) rfl (by kernel_rfl) (fun _ _ _ hp => hp) (Or.inl ⟨by kernel_rfl, fun X _ => by go_simp⟩) hS0 ?_
  simp only [Act.put, List.setIfInBounds_toArray, List.set_cons_zero, List.set_cons_succ]
  refine wpAnyT_takeW (i := 2) (v := .pointer (some ⟨q, 1, none⟩)) rfl (by kernel_rfl) (fun _ _ _ hp => hp) (Or.inl ⟨by kernel_rfl, fun X _ => by go_simp⟩) hS0 ?_
  simp only [Act.put, List.setIfInBounds_toArray, List.set_cons_zero, List.set_cons_succ]
  refine wpAnyT_takeW (i := 4) (v := .pointer (some ⟨q, 0, none⟩)) rfl (by kernel_rfl) (fun _ _ _ hp => hp) (Or.inl ⟨by kernel_rfl, fun X _ => by go_simp⟩) hS0 ?_
  simp only [Act.put, List.setIfInBounds_toArray, List.set_cons_zero, List.set_cons_succ]
  refine wpAnyT_takeW (i := 5) (v := .int .i64 (a : Int)) rfl (by kernel_rfl) (fun _ _ _ hp => hp) (Or.inl ⟨by kernel_rfl, fun X _ => by go_simp⟩) hS0 ?_
  simp only [Act.put, List.setIfInBounds_toArray, List.set_cons_zero, List.set_cons_succ]
  refine wpAnyT_takeW (i := 8) (v := .int .i64 0) rfl (by kernel_rfl) (fun _ _ _ hp => hp) (Or.inl ⟨by kernel_rfl, fun X _ => by go_simp⟩) hS0 ?_
  simp only [Act.put, List.setIfInBounds_toArray, List.set_cons_zero, List.set_cons_succ]
  refine wpAnyT_takeC (i := 3) (v := .pointer (some ⟨m, 0, none⟩)) [] rfl (by kernel_rfl) (fun _ _ _ hp => hp) (Or.inl ⟨by kernel_rfl, fun X hX => by have y1 := (hX.cell (p := ⟨q, 1, none⟩) hq6).trans p6; go_simp⟩) hS0 ?_
  simp only [Act.put, List.setIfInBounds_toArray, List.set_cons_zero, List.set_cons_succ]
  refine wpAnyT_one (i := 6) rfl (by kernel_rfl) (by kernel_rfl) ?_
  intro K1 hK1
  go_simp
  refine (HP.out).mono ?_
  rintro e _ ⟨rfl, rfl⟩
  dsimp only
  refine hK1.out _ _ (fun _ => hS0) ?_
  (try simp only [Act.put, List.setIfInBounds_toArray, List.set_cons_zero, List.set_cons_succ])
  refine wpAnyT_one (i := 7) rfl (by kernel_rfl) (by kernel_rfl) ?_
  intro K2 hK2
  go_simp
  refine (HM.out).mono ?_
  rintro e w7 ⟨rfl, K7, H7, ck7⟩
  dsimp only
  refine hK2.out _ _ (fun hh => absurd rfl hh) ?_
  (try simp only [Act.put, List.setIfInBounds_toArray, List.set_cons_zero, List.set_cons_succ])
  refine wpAnyT_lat2 (i := 9) rfl (by kernel_rfl) (by kernel_rfl) (by kernel_rfl) ?_
  intro K3 hK3
  go_simp
  refine hK3.out _ _ ?_
  (try simp only [Act.put, List.setIfInBounds_toArray, List.set_cons_zero, List.set_cons_succ])
  refine wpAnyT_lat2 (i := 10) rfl (by kernel_rfl) (by kernel_rfl) (by kernel_rfl) ?_
  intro K4 hK4
  go_simp
  refine hK4.out _ _ ?_
  (try simp only [Act.put, List.setIfInBounds_toArray, List.set_cons_zero, List.set_cons_succ])
  refine wpAnyT_done (by kernel_rfl) ?_ _
  (try simp only [Act.put, List.setIfInBounds_toArray, List.set_cons_zero, List.set_cons_succ])
  clear hK1 K1 hK2 K2 hK3 K3 hK4 K4
  replace H7 := Lib.hid H7
  replace ck7 := Lib.hid ck7
  clear HP HM hS0 p6 hq6 H6d
  go_wp2_with fail
  go_ret
  exact ⟨rfl, K7, _, H7.out, by rw [← hXe.out] at ck7; exact ck7.out⟩
end
end Go.Proofs.YtnoiepmapmcjdaaDoor
namespace Go.Proofs.YtnoiepmapmcjdaaDoor
open Go.RowKit Go.Shelf
section
variable {w0 : W0} {w w' : World} {q h m n : Nat} {K : MK} {R : RM}
theorem la_begin2 {R2 : RM} {wA w2 : World} (H : LA (w0.guard w2 wA) w q h m n K R2) (HX : CK n K R.rd) (vr : Value) (l : List Int) (hl : l.length ≤ 20) (hl2 : ∀ b ∈ l, 0 ≤ b ∧ b ≤ n) (hv : Rd i64e w vr (l.map ptrI)) (hf : ∀ b, vr.ownBlock = some b → w2.heap.size ≤ b) (hp : 0 < l.length → ∀ b, vr.ownBlock = some b → b < wA.heap.size) :
    Calls Tryd.prog 14 #[.pointer (some ⟨m, 0, none⟩), vr] w fun e w' => e = .returned (.int .i64 (if R.on = true then 8 else 0)) ∧ ∃ K', LA (w0.guard w2 wA) w' q h m n K' R2 ∧ CK n K' (if R.on = true then R.rd else l.foldl dShade dStart) := by
  obtain ⟨S, F, D, G, W, hF, fe, C⟩ := H
  have hn := C.n11
  have hbd : ∀ x ∈ l.map ptrI, -9223372036854775808 ≤ x ∧ x ≤ 9223372036854775807 := by
    intro x hx
    obtain ⟨b, hb, rfl⟩ := List.mem_map.1 hx
    have := ptrI_bd hn (hl2 b hb)
    omega
  refine (begin_m m h S F K D w W.mm vr (l.map ptrI) hv (by rw [List.length_map]; omega) hbd (fun hp' k e hD => (hF k (.inr (.inl hD))).2 (.inr ⟨hf k e, hp (by rwa [List.length_map] at hp') k e⟩))).mono ?_
  rintro e w' ⟨rfl, D', M, s⟩
  have H' := LW.marks W hF fe C M s
  by_cases ho : R.on = true
  · have hk : mBegin S K (l.map ptrI) = (K, 8) := by unfold mBegin; rw [if_pos (HX.on.trans ho)]
    rw [hk, if_pos ho, if_pos ho]
    rw [hk] at H'
    exact ⟨rfl, K, ⟨S, H'⟩, HX⟩
  · have hoff : K.on = false := HX.on.trans (show R.on = false by simpa using ho)
    obtain ⟨e1, e2, e3⟩ := C.begin (K := K) l hl2 hoff
    rw [e1, if_neg ho, if_neg ho]
    exact ⟨rfl, _, ⟨S, H'⟩, e2⟩
theorem la_step2 {R2 : RM} (H : LA w0 w q h m n K R2) (he : R2.objs = R.objs) (HX : CK n K R.rd) :
    Calls Tryd.prog 18 #[.pointer (some ⟨m, 0, none⟩)] w fun e w' => e = .returned (.tuple #[.bool (dStep R.objs R.rd).2, .int .i64 0]) ∧ ∃ K', LA w0 w' q h m n K' R2 ∧ CK n K' (dStep R.objs R.rd).1 := by
  obtain ⟨S, H⟩ := H
  obtain ⟨e1, e2, e3⟩ := H.c.step HX
  rw [he] at e1 e2
  have := lstep H
  rw [e1] at this
  refine this.mono ?_
  rintro e w' ⟨rfl, H'⟩
  exact ⟨rfl, _, ⟨S, H'⟩, e2⟩
theorem la_end_on2 {R2 : RM} (H : LA w0 w q h m n K R2) (HX : CK n K R.rd) (ho : R.on = true) : Calls Tryd.prog 16 #[.pointer (some ⟨m, 0, none⟩)] w fun e w' => ∃ v, e = .returned (.tuple #[v, .int .i64 0]) ∧ Rd i64e w' v ((whN n R.rd).map ptrI) ∧ LA w0 w' q h m n (mOff K) R2 ∧ CK n (mOff K) ⟨false, R.greys, R.black⟩ := by
  obtain ⟨S, H⟩ := H
  have e : sAll S = ptrsN n := by
    unfold sAll ptrsN
    rw [H.c.obj, List.map_map]
    rfl
  have := lend_on H (HX.on.trans ho)
  rw [e] at this
  refine this.mono ?_
  rintro e w' ⟨v, rfl, hown, H'⟩
  have hr : Rd i64e w' v (keepP K.seen (ptrsN n)) := Rd.of_own hown
  rw [white_map HX ho] at hr
  exact ⟨v, rfl, hr, ⟨S, H'⟩, rfl, HX.greys, HX.seen, ⟨HX.ok.nd, HX.ok.bd⟩⟩
theorem la_end_off2 {R2 : RM} (H : LA w0 w q h m n K R2) (HX : CK n K R.rd) (ho : R.on = false) : Calls Tryd.prog 16 #[.pointer (some ⟨m, 0, none⟩)] w fun e w' => e = .returned (.tuple #[.slice none 0 0, .int .i64 7]) ∧ LA w0 w' q h m n K R2 := by
  obtain ⟨S, F, D, G, W, hF, fe, C⟩ := H
  refine (end_off m h S F K D w W.mm (HX.on.trans ho)).mono ?_
  rintro e w' ⟨rfl, hb⟩
  exact ⟨rfl, S, LW.below ⟨F, D, G, W, hF, fe, C⟩ hb⟩
theorem whN_bd {n : Nat} {X : RD} : ∀ b ∈ whN n X, 0 ≤ b ∧ b ≤ n := by
  intro b hb
  obtain ⟨i, hi, rfl⟩ := List.mem_map.1 (List.mem_filter.1 hb).1
  have := List.mem_range.1 hi
  omega
set_option maxHeartbeats 6400000 in
set_option maxRecDepth 100000 in
theorem mdoes_begin (H : LA w0 w q h m n K R) (HX : CK n K R.rd) (kind xa xb xk : Int) (rv : Option Addr × Nat × Nat) (rl : List Int) (hx : MActOk w ⟨kind, xa, xb, xk, rv, rl⟩) (hl : rl.length ≤ 20) (hk : kind % 8 = 0) :
    Calls Tryd.prog 23 #[.pointer (some ⟨q, 0, none⟩), .agg #[.int .u8 kind, .int .u8 xa, .int .u8 xb, .int .u8 xk, slE rv]] w (DidA w0 q h m n) := by
  have hn := H.n11
  have hd := hx.kind
  have ha := hx.a
  have hb := hx.b
  have hkk := hx.k
  dsimp only at hd ha hb hkk
  obtain ⟨Av, cv, hrv, -⟩ := hx.rd.len
  dsimp only at hrv
  have HRd := hx.rd
  have HRb := Lib.hid hx.rb
  dsimp only at HRd HRb
  rw [hrv] at HRd ⊢
  replace HRd := Lib.hid HRd
  replace hrv := Lib.hid hrv
  clear hx
  obtain ⟨a, hxa⟩ : ∃ a : Nat, xa % ((n : Int) + 1) = (a : Int) := ⟨(xa % ((n : Int) + 1)).toNat, by have := num_mod (n := n) xa; omega⟩
  obtain ⟨b, hxb⟩ : ∃ b : Nat, xb % ((n : Int) + 1) = (b : Int) := ⟨(xb % ((n : Int) + 1)).toNat, by have := num_mod (n := n) xb; omega⟩
  have han : a ≤ n := by have := num_mod (n := n) xa; omega
  have hbn : b ≤ n := by have := num_mod (n := n) xb; omega
  have hgx : GInv K ∨ True := .inr trivial
  clear hgx
  replace H := Lib.hid H
  replace HX := Lib.hid HX
  go_enter Tryd.func23, Tryd.ntmps23
  go_wp2_with (refine wpList_new rfl (.box 30 (.tmp 1)) rfl w.heap.size rfl 30 #[.int .u8 kind, .int .u8 xa, .int .u8 xb, .int .u8 xk, .slice Av rl.length cv] (by kernel_rfl) ?_; intro w1 hs1 hb1 hB1; refine stop_here ?_)
  have e0 : w1.cell? ⟨w.heap.size, 0, none⟩ = some (.int .u8 kind) := hB1.cell 0
  have e1 : w1.cell? ⟨w.heap.size, 1, none⟩ = some (.int .u8 xa) := hB1.cell 1
  have e2 : w1.cell? ⟨w.heap.size, 2, none⟩ = some (.int .u8 xb) := hB1.cell 2
  have e3 : w1.cell? ⟨w.heap.size, 3, none⟩ = some (.int .u8 xk) := hB1.cell 3
  have e4 : w1.cell? ⟨w.heap.size, 4, none⟩ = some (.slice Av rl.length cv) := hB1.cell 4
  have H1 := H.out.below hb1
  obtain ⟨Ap, cp, q2, -⟩ := H1.ptrs
  have hgl := hB1.lt
  have wa : IntKind.i64.wrap xa = xa := by rw [IntKind.wrap_i64]; omega
  have wb : IntKind.i64.wrap xb = xb := by rw [IntKind.wrap_i64]; omega
  have wn : IntKind.i64.wrap ((n : Int) + 1) = (n : Int) + 1 := by rw [IntKind.wrap_i64]; omega
  have nz : ((n : Int) + 1 = 0) = False := by rw [eq_iff_iff, iff_false]; omega
  have ta : xa.tmod ((n : Int) + 1) = (a : Int) := (Int.tmod_eq_emod_of_nonneg ha.1).trans hxa
  have tb : xb.tmod ((n : Int) + 1) = (b : Int) := (Int.tmod_eq_emod_of_nonneg hb.1).trans hxb
  replace H1 := Lib.hid H1
  clear H hB1 hs1
  refine go_on ?_
  go_wp2_with fail
  go_quiet (fail)
  have H2 := Lib.hid (H1.out.below (below_drewN (Below.refl w1.heap.size w1) nq))
  have b2 : Below w.heap.size w (w1.drewN nq) := below_drewN hb1 nq
  replace e0 : (w1.drewN nq).cell? ⟨w.heap.size, 0, none⟩ = some (.int .u8 kind) := e0
  replace e3 : (w1.drewN nq).cell? ⟨w.heap.size, 3, none⟩ = some (.int .u8 xk) := e3
  replace e4 : (w1.drewN nq).cell? ⟨w.heap.size, 4, none⟩ = some (.slice Av rl.length cv) := e4
  replace hgl : w.heap.size < (w1.drewN nq).heap.size := hgl
  generalize w1.drewN nq = w2 at H2 b2 e0 e3 e4 hgl ⊢
  clear H1 hb1 e1 e2 q2 wa wb wn nz ta tb
  replace hxa := Lib.hid hxa
  replace hxb := Lib.hid hxb
  have HRo := Lib.hid (la_roots H2.out _ rl (HRd.out.below b2) hl HRb.out)
  go_wp2_with fail
  refine HRo.out.mono ?_
  rintro e wA ⟨va, vb0, rfl, ra, rb, fa, fb, bA⟩
  have rbd : ∀ b ∈ nums n rl, 0 ≤ b ∧ b ≤ n := nums_bd
  have rkl : (nums n rl).length ≤ 20 := by simp [nums]; omega
  obtain ⟨Aa, ca, rfl, -⟩ := ra.len
  obtain ⟨Ab, cb, rfl, -⟩ := rb.len
  obtain ⟨ks, hks⟩ : ∃ ks, ks = nums n rl := ⟨_, rfl⟩
  rw [← hks] at ra rb rbd rkl fa ⊢
  rw [List.length_map] at ra fa ⊢
  have HA := Lib.hid (H2.out.guard bA)
  obtain ⟨cd, hcd⟩ : ∃ cd : Int, cd = (if R.on = true then 8 else 0) := ⟨_, rfl⟩
  have hsA := bA.size
  replace rbd := Lib.hid rbd
  replace hks := Lib.hid hks
  replace bA := Lib.hid bA
  clear HRo fb
  obtain ⟨Ao, co, vg, vb, hat, hRV, hput⟩ := la_open HA.out HX.out.ok
  have SZ := Lib.hid rm_size
  have HAc := HA.out.cells
  have hq2 := HAc.2.2.1
  replace HAc := Lib.hid HAc
  have HC := (mBegin17 (on := R.on) hRV _ ks rb rkl n (by obtain ⟨S9, C9⟩ := HA.out.c; exact C9.ol) hn rbd.out)
  rw [← hcd] at HC
  replace HC := Lib.hid HC
  replace hat := Lib.hid hat
  replace hput := Lib.hid hput
  replace hRV := Lib.hid hRV
  go_wp2_with (refine wpList_load_mid rfl 37 (.tmp 60) rfl q 3 rfl [.slice Ao n co, .bool R.on, vg, vb] _ (hat.out wA (Below.refl _ _)) Tryd.underlying37 rfl SZ.out ?_)
  refine HC.out.mono ?_
  rintro e w3 ⟨vg', vb', rfl, H3, n1, n2, b3⟩
  obtain ⟨X, hX⟩ : ∃ X, X = (if R.on = true then (⟨R.on, R.greys, R.black⟩ : RD) else ks.foldl dShade dStart) := ⟨_, rfl⟩
  rw [← hX] at H3 n1 n2 ⊢
  replace hX := Lib.hid hX
  have ON3 := Lib.hid (H3.one X.on)
  have hs3 := b3.size
  clear HC
  replace hcd := Lib.hid hcd
  go_wp2_with (first
    | (refine wpList_new rfl (.alloc 37) rfl w3.heap.size rfl 37 rm0 (by kernel_rfl) ?_; intro w4 hs4 hb4 hB4; have HB4 := Lib.hid hB4; clear hB4)
    | (refine wpList_store_blk rfl 37 (.tmp 9) (.tmp 64) rfl w3.heap.size rfl (rm4 (.slice Ao n co) X.on vg' vb') rfl 37 rm0 HB4.out SZ.out rfl ON3.out ?_; intro w5 hB5 hg5 hs5; refine stop_here ?_))
  have b5 : Below wA.heap.size wA w5 := (b3.trans (hb4.mono hs3)).grown hg5 (by have := hb4.size; omega) (fun k hk => by cases hk; exact hs3)
  have b35 : Below w3.heap.size w3 w5 := hb4.grown hg5 hb4.size (fun k hk => by cases hk; exact Nat.le_refl _)
  obtain ⟨ht, H6⟩ := hput.out w5 X vg' vb' b5 (H3.below b35) n1 n2
  have ht4 : w5.there q 3 (rm4 (.slice Ao n co) X.on vg' vb').size := ht
  replace hB5 := Lib.hid hB5
  replace ht4 := Lib.hid ht4
  replace H6 := Lib.hid H6
  have b6 : Below w.heap.size w (w5.setCells q 3 [.slice Ao n co, .bool X.on, vg', vb']) ∨ True := .inr trivial
  clear b6 HB4 hs4 hb4 hg5 hs5 b35 H3 n1 n2 ht
  refine go_on ?_
  go_wp2_with (first
    | (refine wpList_load_blk rfl 37 (.tmp 9) rfl w3.heap.size rfl 37 (rm4 (.slice Ao n co) X.on vg' vb') hB5.out _ Tryd.underlying37 rfl SZ.out ?_)
    | (refine wpList_store_mid rfl 37 (.tmp 69) (.tmp 67) rfl q 3 (rm4 (.slice Ao n co) X.on vg' vb') rfl rfl ht4.out SZ.out ON3.out ?_; refine stop_here ?_))
  have H6' : LA (w0.guard w2 wA) (w5.setCells q 3 (rm4 (.slice Ao n co) X.on vg' vb').toList) q h m n K ⟨R.objs, X.on, X.greys, X.black⟩ := H6.out
  have hb56 : w5.heap.size = (w5.setCells q 3 (rm4 (.slice Ao n co) X.on vg' vb').toList).heap.size := by
    show w5.heap.size = (w5.setCells q 3 [.slice Ao n co, .bool X.on, vg', vb']).heap.size
    rw [setCells4, setCell_size, setCell_size, setCell_size, setCell_size]
  have ho56 : ∀ k, k ≠ q → (w5.setCells q 3 (rm4 (.slice Ao n co) X.on vg' vb').toList).heap[k]? = w5.heap[k]? := fun k hk => by
    show (w5.setCells q 3 [.slice Ao n co, .bool X.on, vg', vb']).heap[k]? = _
    rw [setCells4, setCell_other _ q _ _ hk, setCell_other _ q _ _ hk, setCell_other _ q _ _ hk, setCell_other _ q _ _ hk]
  generalize w5.setCells q 3 (rm4 (.slice Ao n co) X.on vg' vb').toList = w6 at H6' hb56 ho56 ⊢
  clear H6 ht4 hB5 ON3
  replace H6' := Lib.hid H6'
  refine go_on ?_
  have hqA := HAc.out.2.2.1
  have hq2 := H2.out.cells.2.2.1
  have ra6 : Rd i64e w6 (.slice Aa ks.length ca) (ks.map ptrI) := by
    have r5 := ra.below b5
    refine r5.keep (by omega) fun hp b e hlt => ho56 b (fun e2 => ?_)
    have := fa b e
    omega
  have hpA : 0 < ks.length → ∀ b, (Value.slice Aa ks.length ca).ownBlock = some b → b < wA.heap.size := fun hp b e => rdl_lt ra (by rw [List.length_map]; exact hp) e
  have HM := (la_begin2 H6'.out HX.out _ ks rkl rbd.out ra6 fa hpA)
  rw [← hcd.out] at HM
  replace HM := Lib.hid HM
  have p6 := H6'.out.cells.2.1
  have hXe : X = (if R.on = true then R.rd else ks.foldl dShade dStart) := hX.out
  replace hXe := Lib.hid hXe
  clear ra6 hpA ra fa rb ho56 hb56
  go_wp2_with fail
  refine HM.out.mono ?_
  rintro e w7 ⟨rfl, K7, H7, ck7⟩
  rw [← hXe.out] at ck7
  replace H7 := Lib.hid (H2.out.unguard bA.out H7)
  replace ck7 := Lib.hid ck7
  clear HM p6
  go_wp2_with fail
  go_ret
  exact ⟨rfl, K7, _, H7.out, ck7.out⟩
set_option maxHeartbeats 6400000 in
set_option maxRecDepth 100000 in
theorem mdoes_step3 (H : LA w0 w q h m n K R) (HX : CK n K R.rd) (kind xa xb xk : Int) (rv : Option Addr × Nat × Nat) (rl : List Int) (hx : MActOk w ⟨kind, xa, xb, xk, rv, rl⟩) (hl : rl.length ≤ 20) (hk : kind % 8 = 3) :
    Calls Tryd.prog 23 #[.pointer (some ⟨q, 0, none⟩), .agg #[.int .u8 kind, .int .u8 xa, .int .u8 xb, .int .u8 xk, slE rv]] w (DidA w0 q h m n) := by
  have hn := H.n11
  have hd := hx.kind
  have ha := hx.a
  have hb := hx.b
  have hkk := hx.k
  dsimp only at hd ha hb hkk
  obtain ⟨Av, cv, hrv, -⟩ := hx.rd.len
  dsimp only at hrv
  have HRd := hx.rd
  have HRb := Lib.hid hx.rb
  dsimp only at HRd HRb
  rw [hrv] at HRd ⊢
  replace HRd := Lib.hid HRd
  replace hrv := Lib.hid hrv
  clear hx
  obtain ⟨a, hxa⟩ : ∃ a : Nat, xa % ((n : Int) + 1) = (a : Int) := ⟨(xa % ((n : Int) + 1)).toNat, by have := num_mod (n := n) xa; omega⟩
  obtain ⟨b, hxb⟩ : ∃ b : Nat, xb % ((n : Int) + 1) = (b : Int) := ⟨(xb % ((n : Int) + 1)).toNat, by have := num_mod (n := n) xb; omega⟩
  have han : a ≤ n := by have := num_mod (n := n) xa; omega
  have hbn : b ≤ n := by have := num_mod (n := n) xb; omega
  have hgx : GInv K ∨ True := .inr trivial
  clear hgx
  replace H := Lib.hid H
  replace HX := Lib.hid HX
  go_enter Tryd.func23, Tryd.ntmps23
  go_wp2_with (refine wpList_new rfl (.box 30 (.tmp 1)) rfl w.heap.size rfl 30 #[.int .u8 kind, .int .u8 xa, .int .u8 xb, .int .u8 xk, .slice Av rl.length cv] (by kernel_rfl) ?_; intro w1 hs1 hb1 hB1; refine stop_here ?_)
  have e0 : w1.cell? ⟨w.heap.size, 0, none⟩ = some (.int .u8 kind) := hB1.cell 0
  have e1 : w1.cell? ⟨w.heap.size, 1, none⟩ = some (.int .u8 xa) := hB1.cell 1
  have e2 : w1.cell? ⟨w.heap.size, 2, none⟩ = some (.int .u8 xb) := hB1.cell 2
  have e3 : w1.cell? ⟨w.heap.size, 3, none⟩ = some (.int .u8 xk) := hB1.cell 3
  have e4 : w1.cell? ⟨w.heap.size, 4, none⟩ = some (.slice Av rl.length cv) := hB1.cell 4
  have H1 := H.out.below hb1
  obtain ⟨Ap, cp, q2, -⟩ := H1.ptrs
  have hgl := hB1.lt
  have wa : IntKind.i64.wrap xa = xa := by rw [IntKind.wrap_i64]; omega
  have wb : IntKind.i64.wrap xb = xb := by rw [IntKind.wrap_i64]; omega
  have wn : IntKind.i64.wrap ((n : Int) + 1) = (n : Int) + 1 := by rw [IntKind.wrap_i64]; omega
  have nz : ((n : Int) + 1 = 0) = False := by rw [eq_iff_iff, iff_false]; omega
  have ta : xa.tmod ((n : Int) + 1) = (a : Int) := (Int.tmod_eq_emod_of_nonneg ha.1).trans hxa
  have tb : xb.tmod ((n : Int) + 1) = (b : Int) := (Int.tmod_eq_emod_of_nonneg hb.1).trans hxb
  replace H1 := Lib.hid H1
  clear H hB1 hs1
  refine go_on ?_
  go_wp2_with fail
  go_quiet (fail)
  have H2 := Lib.hid (H1.out.below (below_drewN (Below.refl w1.heap.size w1) nq))
  have b2 : Below w.heap.size w (w1.drewN nq) := below_drewN hb1 nq
  replace e0 : (w1.drewN nq).cell? ⟨w.heap.size, 0, none⟩ = some (.int .u8 kind) := e0
  replace e3 : (w1.drewN nq).cell? ⟨w.heap.size, 3, none⟩ = some (.int .u8 xk) := e3
  replace e4 : (w1.drewN nq).cell? ⟨w.heap.size, 4, none⟩ = some (.slice Av rl.length cv) := e4
  replace hgl : w.heap.size < (w1.drewN nq).heap.size := hgl
  generalize w1.drewN nq = w2 at H2 b2 e0 e3 e4 hgl ⊢
  clear H1 hb1 e1 e2 q2 wa wb wn nz ta tb
  replace hxa := Lib.hid hxa
  replace hxb := Lib.hid hxb
  obtain ⟨did, hdid⟩ : ∃ did, did = (dStep R.objs ⟨R.on, R.greys, R.black⟩).2 := ⟨_, rfl⟩
  obtain ⟨Ao, co, vg, vb, hat, hRV, hput⟩ := la_open H2.out HX.out.ok
  have SZ := Lib.hid rm_size
  have H2c := H2.out.cells
  have hq2 := H2c.2.2.1
  replace H2c := Lib.hid H2c
  have HC := (mStep17 (on := R.on) hRV n HX.out.ok (by obtain ⟨S9, C9⟩ := H2.out.c; exact C9.ol) hn (by obtain ⟨S9, C9⟩ := H2.out.c; exact C9.four) (by obtain ⟨S9, C9⟩ := H2.out.c; exact C9.bds))
  rw [← hdid] at HC
  replace HC := Lib.hid HC
  replace hat := Lib.hid hat
  replace hput := Lib.hid hput
  replace hRV := Lib.hid hRV
  go_wp2_with (refine wpList_load_mid rfl 37 (.tmp 134) rfl q 3 rfl [.slice Ao n co, .bool R.on, vg, vb] _ (hat.out w2 (Below.refl _ _)) Tryd.underlying37 rfl SZ.out ?_)
  refine HC.out.mono ?_
  rintro e w3 ⟨vg', vb', rfl, H3, n1, n2, b3⟩
  obtain ⟨X, hX⟩ : ∃ X, X = (dStep R.objs ⟨R.on, R.greys, R.black⟩).1 := ⟨_, rfl⟩
  rw [← hX] at H3 n1 n2 ⊢
  replace hX := Lib.hid hX
  have ON3 := Lib.hid (H3.one X.on)
  have hs3 := b3.size
  clear HC
  replace hdid := Lib.hid hdid
  go_wp2_with (first
    | (refine wpList_new rfl (.alloc 37) rfl w3.heap.size rfl 37 rm0 (by kernel_rfl) ?_; intro w4 hs4 hb4 hB4; have HB4 := Lib.hid hB4; clear hB4)
    | (refine wpList_store_blk rfl 37 (.tmp 15) (.tmp 137) rfl w3.heap.size rfl (rm4 (.slice Ao n co) X.on vg' vb') rfl 37 rm0 HB4.out SZ.out rfl ON3.out ?_; intro w5 hB5 hg5 hs5; refine stop_here ?_))
  have b5 : Below w2.heap.size w2 w5 := (b3.trans (hb4.mono hs3)).grown hg5 (by have := hb4.size; omega) (fun k hk => by cases hk; exact hs3)
  have b35 : Below w3.heap.size w3 w5 := hb4.grown hg5 hb4.size (fun k hk => by cases hk; exact Nat.le_refl _)
  obtain ⟨ht, H6⟩ := hput.out w5 X vg' vb' b5 (H3.below b35) n1 n2
  have ht4 : w5.there q 3 (rm4 (.slice Ao n co) X.on vg' vb').size := ht
  replace hB5 := Lib.hid hB5
  replace ht4 := Lib.hid ht4
  replace H6 := Lib.hid H6
  have b6 : Below w.heap.size w (w5.setCells q 3 [.slice Ao n co, .bool X.on, vg', vb']) ∨ True := .inr trivial
  clear b6 HB4 hs4 hb4 hg5 hs5 b35 H3 n1 n2 ht
  refine go_on ?_
  go_wp2_with (first
    | (refine wpList_load_blk rfl 37 (.tmp 15) rfl w3.heap.size rfl 37 (rm4 (.slice Ao n co) X.on vg' vb') hB5.out _ Tryd.underlying37 rfl SZ.out ?_)
    | (refine wpList_store_mid rfl 37 (.tmp 142) (.tmp 140) rfl q 3 (rm4 (.slice Ao n co) X.on vg' vb') rfl rfl ht4.out SZ.out ON3.out ?_; refine stop_here ?_))
  have H6' : LA w0 (w5.setCells q 3 (rm4 (.slice Ao n co) X.on vg' vb').toList) q h m n K ⟨R.objs, X.on, X.greys, X.black⟩ := H6.out
  have hb56 : w5.heap.size = (w5.setCells q 3 (rm4 (.slice Ao n co) X.on vg' vb').toList).heap.size := by
    show w5.heap.size = (w5.setCells q 3 [.slice Ao n co, .bool X.on, vg', vb']).heap.size
    rw [setCells4, setCell_size, setCell_size, setCell_size, setCell_size]
  have ho56 : ∀ k, k ≠ q → (w5.setCells q 3 (rm4 (.slice Ao n co) X.on vg' vb').toList).heap[k]? = w5.heap[k]? := fun k hk => by
    show (w5.setCells q 3 [.slice Ao n co, .bool X.on, vg', vb']).heap[k]? = _
    rw [setCells4, setCell_other _ q _ _ hk, setCell_other _ q _ _ hk, setCell_other _ q _ _ hk, setCell_other _ q _ _ hk]
  generalize w5.setCells q 3 (rm4 (.slice Ao n co) X.on vg' vb').toList = w6 at H6' hb56 ho56 ⊢
  clear H6 ht4 hB5 ON3
  replace H6' := Lib.hid H6'
  refine go_on ?_
  have HM := la_step2 (R := R) H6'.out rfl HX.out
  have hd2 : (dStep R.objs R.rd).2 = did := hdid.out.symm
  have hx2 : (dStep R.objs R.rd).1 = X := hX.out.symm
  rw [hd2, hx2] at HM
  replace HM := Lib.hid HM
  have p6 := H6'.out.cells.2.1
  clear ho56 hb56 hd2 hx2
  go_wp2_with fail
  refine HM.out.mono ?_
  rintro e w7 ⟨rfl, K7, H7, ck7⟩
  replace H7 := Lib.hid H7
  replace ck7 := Lib.hid ck7
  clear HM p6
  cases did with
  | false =>
    go_wp2_with fail
    go_ret
    exact ⟨rfl, K7, _, H7.out, ck7.out⟩
  | true =>
    go_wp2_with fail
    go_ret
    exact ⟨rfl, K7, _, H7.out, ck7.out⟩
set_option maxHeartbeats 6400000 in
set_option maxRecDepth 100000 in
theorem mdoes_step4 (H : LA w0 w q h m n K R) (HX : CK n K R.rd) (kind xa xb xk : Int) (rv : Option Addr × Nat × Nat) (rl : List Int) (hx : MActOk w ⟨kind, xa, xb, xk, rv, rl⟩) (hl : rl.length ≤ 20) (hk : kind % 8 = 4) :
    Calls Tryd.prog 23 #[.pointer (some ⟨q, 0, none⟩), .agg #[.int .u8 kind, .int .u8 xa, .int .u8 xb, .int .u8 xk, slE rv]] w (DidA w0 q h m n) := by
  have hn := H.n11
  have hd := hx.kind
  have ha := hx.a
  have hb := hx.b
  have hkk := hx.k
  dsimp only at hd ha hb hkk
  obtain ⟨Av, cv, hrv, -⟩ := hx.rd.len
  dsimp only at hrv
  have HRd := hx.rd
  have HRb := Lib.hid hx.rb
  dsimp only at HRd HRb
  rw [hrv] at HRd ⊢
  replace HRd := Lib.hid HRd
  replace hrv := Lib.hid hrv
  clear hx
  obtain ⟨a, hxa⟩ : ∃ a : Nat, xa % ((n : Int) + 1) = (a : Int) := ⟨(xa % ((n : Int) + 1)).toNat, by have := num_mod (n := n) xa; omega⟩
  obtain ⟨b, hxb⟩ : ∃ b : Nat, xb % ((n : Int) + 1) = (b : Int) := ⟨(xb % ((n : Int) + 1)).toNat, by have := num_mod (n := n) xb; omega⟩
  have han : a ≤ n := by have := num_mod (n := n) xa; omega
  have hbn : b ≤ n := by have := num_mod (n := n) xb; omega
  have hgx : GInv K ∨ True := .inr trivial
  clear hgx
  replace H := Lib.hid H
  replace HX := Lib.hid HX
  go_enter Tryd.func23, Tryd.ntmps23
  go_wp2_with (refine wpList_new rfl (.box 30 (.tmp 1)) rfl w.heap.size rfl 30 #[.int .u8 kind, .int .u8 xa, .int .u8 xb, .int .u8 xk, .slice Av rl.length cv] (by kernel_rfl) ?_; intro w1 hs1 hb1 hB1; refine stop_here ?_)
  have e0 : w1.cell? ⟨w.heap.size, 0, none⟩ = some (.int .u8 kind) := hB1.cell 0
  have e1 : w1.cell? ⟨w.heap.size, 1, none⟩ = some (.int .u8 xa) := hB1.cell 1
  have e2 : w1.cell? ⟨w.heap.size, 2, none⟩ = some (.int .u8 xb) := hB1.cell 2
  have e3 : w1.cell? ⟨w.heap.size, 3, none⟩ = some (.int .u8 xk) := hB1.cell 3
  have e4 : w1.cell? ⟨w.heap.size, 4, none⟩ = some (.slice Av rl.length cv) := hB1.cell 4
  have H1 := H.out.below hb1
  obtain ⟨Ap, cp, q2, -⟩ := H1.ptrs
  have hgl := hB1.lt
  have wa : IntKind.i64.wrap xa = xa := by rw [IntKind.wrap_i64]; omega
  have wb : IntKind.i64.wrap xb = xb := by rw [IntKind.wrap_i64]; omega
  have wn : IntKind.i64.wrap ((n : Int) + 1) = (n : Int) + 1 := by rw [IntKind.wrap_i64]; omega
  have nz : ((n : Int) + 1 = 0) = False := by rw [eq_iff_iff, iff_false]; omega
  have ta : xa.tmod ((n : Int) + 1) = (a : Int) := (Int.tmod_eq_emod_of_nonneg ha.1).trans hxa
  have tb : xb.tmod ((n : Int) + 1) = (b : Int) := (Int.tmod_eq_emod_of_nonneg hb.1).trans hxb
  replace H1 := Lib.hid H1
  clear H hB1 hs1
  refine go_on ?_
  go_wp2_with fail
  go_quiet (fail)
  have H2 := Lib.hid (H1.out.below (below_drewN (Below.refl w1.heap.size w1) nq))
  have b2 : Below w.heap.size w (w1.drewN nq) := below_drewN hb1 nq
  replace e0 : (w1.drewN nq).cell? ⟨w.heap.size, 0, none⟩ = some (.int .u8 kind) := e0
  replace e3 : (w1.drewN nq).cell? ⟨w.heap.size, 3, none⟩ = some (.int .u8 xk) := e3
  replace e4 : (w1.drewN nq).cell? ⟨w.heap.size, 4, none⟩ = some (.slice Av rl.length cv) := e4
  replace hgl : w.heap.size < (w1.drewN nq).heap.size := hgl
  generalize w1.drewN nq = w2 at H2 b2 e0 e3 e4 hgl ⊢
  clear H1 hb1 e1 e2 q2 wa wb wn nz ta tb
  replace hxa := Lib.hid hxa
  replace hxb := Lib.hid hxb
  obtain ⟨did, hdid⟩ : ∃ did, did = (dStep R.objs ⟨R.on, R.greys, R.black⟩).2 := ⟨_, rfl⟩
  obtain ⟨Ao, co, vg, vb, hat, hRV, hput⟩ := la_open H2.out HX.out.ok
  have SZ := Lib.hid rm_size
  have H2c := H2.out.cells
  have hq2 := H2c.2.2.1
  replace H2c := Lib.hid H2c
  have HC := (mStep17 (on := R.on) hRV n HX.out.ok (by obtain ⟨S9, C9⟩ := H2.out.c; exact C9.ol) hn (by obtain ⟨S9, C9⟩ := H2.out.c; exact C9.four) (by obtain ⟨S9, C9⟩ := H2.out.c; exact C9.bds))
  rw [← hdid] at HC
  replace HC := Lib.hid HC
  replace hat := Lib.hid hat
  replace hput := Lib.hid hput
  replace hRV := Lib.hid hRV
  go_wp2_with (refine wpList_load_mid rfl 37 (.tmp 134) rfl q 3 rfl [.slice Ao n co, .bool R.on, vg, vb] _ (hat.out w2 (Below.refl _ _)) Tryd.underlying37 rfl SZ.out ?_)
  refine HC.out.mono ?_
  rintro e w3 ⟨vg', vb', rfl, H3, n1, n2, b3⟩
  obtain ⟨X, hX⟩ : ∃ X, X = (dStep R.objs ⟨R.on, R.greys, R.black⟩).1 := ⟨_, rfl⟩
  rw [← hX] at H3 n1 n2 ⊢
  replace hX := Lib.hid hX
  have ON3 := Lib.hid (H3.one X.on)
  have hs3 := b3.size
  clear HC
  replace hdid := Lib.hid hdid
  go_wp2_with (first
    | (refine wpList_new rfl (.alloc 37) rfl w3.heap.size rfl 37 rm0 (by kernel_rfl) ?_; intro w4 hs4 hb4 hB4; have HB4 := Lib.hid hB4; clear hB4)
    | (refine wpList_store_blk rfl 37 (.tmp 15) (.tmp 137) rfl w3.heap.size rfl (rm4 (.slice Ao n co) X.on vg' vb') rfl 37 rm0 HB4.out SZ.out rfl ON3.out ?_; intro w5 hB5 hg5 hs5; refine stop_here ?_))
  have b5 : Below w2.heap.size w2 w5 := (b3.trans (hb4.mono hs3)).grown hg5 (by have := hb4.size; omega) (fun k hk => by cases hk; exact hs3)
  have b35 : Below w3.heap.size w3 w5 := hb4.grown hg5 hb4.size (fun k hk => by cases hk; exact Nat.le_refl _)
  obtain ⟨ht, H6⟩ := hput.out w5 X vg' vb' b5 (H3.below b35) n1 n2
  have ht4 : w5.there q 3 (rm4 (.slice Ao n co) X.on vg' vb').size := ht
  replace hB5 := Lib.hid hB5
  replace ht4 := Lib.hid ht4
  replace H6 := Lib.hid H6
  have b6 : Below w.heap.size w (w5.setCells q 3 [.slice Ao n co, .bool X.on, vg', vb']) ∨ True := .inr trivial
  clear b6 HB4 hs4 hb4 hg5 hs5 b35 H3 n1 n2 ht
  refine go_on ?_
  go_wp2_with (first
    | (refine wpList_load_blk rfl 37 (.tmp 15) rfl w3.heap.size rfl 37 (rm4 (.slice Ao n co) X.on vg' vb') hB5.out _ Tryd.underlying37 rfl SZ.out ?_)
    | (refine wpList_store_mid rfl 37 (.tmp 142) (.tmp 140) rfl q 3 (rm4 (.slice Ao n co) X.on vg' vb') rfl rfl ht4.out SZ.out ON3.out ?_; refine stop_here ?_))
  have H6' : LA w0 (w5.setCells q 3 (rm4 (.slice Ao n co) X.on vg' vb').toList) q h m n K ⟨R.objs, X.on, X.greys, X.black⟩ := H6.out
  have hb56 : w5.heap.size = (w5.setCells q 3 (rm4 (.slice Ao n co) X.on vg' vb').toList).heap.size := by
    show w5.heap.size = (w5.setCells q 3 [.slice Ao n co, .bool X.on, vg', vb']).heap.size
    rw [setCells4, setCell_size, setCell_size, setCell_size, setCell_size]
  have ho56 : ∀ k, k ≠ q → (w5.setCells q 3 (rm4 (.slice Ao n co) X.on vg' vb').toList).heap[k]? = w5.heap[k]? := fun k hk => by
    show (w5.setCells q 3 [.slice Ao n co, .bool X.on, vg', vb']).heap[k]? = _
    rw [setCells4, setCell_other _ q _ _ hk, setCell_other _ q _ _ hk, setCell_other _ q _ _ hk, setCell_other _ q _ _ hk]
  generalize w5.setCells q 3 (rm4 (.slice Ao n co) X.on vg' vb').toList = w6 at H6' hb56 ho56 ⊢
  clear H6 ht4 hB5 ON3
  replace H6' := Lib.hid H6'
  refine go_on ?_
  have HM := la_step2 (R := R) H6'.out rfl HX.out
  have hd2 : (dStep R.objs R.rd).2 = did := hdid.out.symm
  have hx2 : (dStep R.objs R.rd).1 = X := hX.out.symm
  rw [hd2, hx2] at HM
  replace HM := Lib.hid HM
  have p6 := H6'.out.cells.2.1
  clear ho56 hb56 hd2 hx2
  go_wp2_with fail
  refine HM.out.mono ?_
  rintro e w7 ⟨rfl, K7, H7, ck7⟩
  replace H7 := Lib.hid H7
  replace ck7 := Lib.hid ck7
  clear HM p6
  cases did with
  | false =>
    go_wp2_with fail
    go_ret
    exact ⟨rfl, K7, _, H7.out, ck7.out⟩
  | true =>
    go_wp2_with fail
    go_ret
    exact ⟨rfl, K7, _, H7.out, ck7.out⟩
set_option maxHeartbeats 6400000 in
set_option maxRecDepth 100000 in
theorem mdoes_end_off (H : LA w0 w q h m n K R) (HX : CK n K R.rd) (kind xa xb xk : Int) (rv : Option Addr × Nat × Nat) (rl : List Int) (hx : MActOk w ⟨kind, xa, xb, xk, rv, rl⟩) (hl : rl.length ≤ 20) (hk : kind % 8 = 5)  (ho : R.on = false) :
    Calls Tryd.prog 23 #[.pointer (some ⟨q, 0, none⟩), .agg #[.int .u8 kind, .int .u8 xa, .int .u8 xb, .int .u8 xk, slE rv]] w (DidA w0 q h m n) := by
  have hn := H.n11
  have hd := hx.kind
  have ha := hx.a
  have hb := hx.b
  have hkk := hx.k
  dsimp only at hd ha hb hkk
  obtain ⟨Av, cv, hrv, -⟩ := hx.rd.len
  dsimp only at hrv
  have HRd := hx.rd
  have HRb := Lib.hid hx.rb
  dsimp only at HRd HRb
  rw [hrv] at HRd ⊢
  replace HRd := Lib.hid HRd
  replace hrv := Lib.hid hrv
  clear hx
  obtain ⟨a, hxa⟩ : ∃ a : Nat, xa % ((n : Int) + 1) = (a : Int) := ⟨(xa % ((n : Int) + 1)).toNat, by have := num_mod (n := n) xa; omega⟩
  obtain ⟨b, hxb⟩ : ∃ b : Nat, xb % ((n : Int) + 1) = (b : Int) := ⟨(xb % ((n : Int) + 1)).toNat, by have := num_mod (n := n) xb; omega⟩
  have han : a ≤ n := by have := num_mod (n := n) xa; omega
  have hbn : b ≤ n := by have := num_mod (n := n) xb; omega
  have hgx : GInv K ∨ True := .inr trivial
  clear hgx
  replace H := Lib.hid H
  replace HX := Lib.hid HX
  go_enter Tryd.func23, Tryd.ntmps23
  go_wp2_with (refine wpList_new rfl (.box 30 (.tmp 1)) rfl w.heap.size rfl 30 #[.int .u8 kind, .int .u8 xa, .int .u8 xb, .int .u8 xk, .slice Av rl.length cv] (by kernel_rfl) ?_; intro w1 hs1 hb1 hB1; refine stop_here ?_)
  have e0 : w1.cell? ⟨w.heap.size, 0, none⟩ = some (.int .u8 kind) := hB1.cell 0
  have e1 : w1.cell? ⟨w.heap.size, 1, none⟩ = some (.int .u8 xa) := hB1.cell 1
  have e2 : w1.cell? ⟨w.heap.size, 2, none⟩ = some (.int .u8 xb) := hB1.cell 2
  have e3 : w1.cell? ⟨w.heap.size, 3, none⟩ = some (.int .u8 xk) := hB1.cell 3
  have e4 : w1.cell? ⟨w.heap.size, 4, none⟩ = some (.slice Av rl.length cv) := hB1.cell 4
  have H1 := H.out.below hb1
  obtain ⟨Ap, cp, q2, -⟩ := H1.ptrs
  have hgl := hB1.lt
  have wa : IntKind.i64.wrap xa = xa := by rw [IntKind.wrap_i64]; omega
  have wb : IntKind.i64.wrap xb = xb := by rw [IntKind.wrap_i64]; omega
  have wn : IntKind.i64.wrap ((n : Int) + 1) = (n : Int) + 1 := by rw [IntKind.wrap_i64]; omega
  have nz : ((n : Int) + 1 = 0) = False := by rw [eq_iff_iff, iff_false]; omega
  have ta : xa.tmod ((n : Int) + 1) = (a : Int) := (Int.tmod_eq_emod_of_nonneg ha.1).trans hxa
  have tb : xb.tmod ((n : Int) + 1) = (b : Int) := (Int.tmod_eq_emod_of_nonneg hb.1).trans hxb
  replace H1 := Lib.hid H1
  clear H hB1 hs1
  refine go_on ?_
  go_wp2_with fail
  go_quiet (fail)
  have H2 := Lib.hid (H1.out.below (below_drewN (Below.refl w1.heap.size w1) nq))
  have b2 : Below w.heap.size w (w1.drewN nq) := below_drewN hb1 nq
  replace e0 : (w1.drewN nq).cell? ⟨w.heap.size, 0, none⟩ = some (.int .u8 kind) := e0
  replace e3 : (w1.drewN nq).cell? ⟨w.heap.size, 3, none⟩ = some (.int .u8 xk) := e3
  replace e4 : (w1.drewN nq).cell? ⟨w.heap.size, 4, none⟩ = some (.slice Av rl.length cv) := e4
  replace hgl : w.heap.size < (w1.drewN nq).heap.size := hgl
  generalize w1.drewN nq = w2 at H2 b2 e0 e3 e4 hgl ⊢
  clear H1 hb1 e1 e2 q2 wa wb wn nz ta tb
  replace hxa := Lib.hid hxa
  replace hxb := Lib.hid hxb
  obtain ⟨Ao, co, vg, vb, hat, hRV, hput, _⟩ := la_open0 H2.out HX.out.ok
  have SZ := Lib.hid rm_size
  have HC := Lib.hid (mEnd17_off hRV)
  have ho1 := Lib.hid ho
  rw [ho] at hat
  clear ho
  replace hat := Lib.hid hat
  replace hput := Lib.hid hput
  replace hRV := Lib.hid hRV
  go_wp2_with (refine wpList_load_mid rfl 37 (.tmp 163) rfl q 3 rfl [.slice Ao n co, .bool false, vg, vb] _ (hat.out w2 (Below.refl _ _)) Tryd.underlying37 rfl SZ.out ?_)
  refine HC.out.mono ?_
  rintro e w3 ⟨vg', vb', rfl, H3, n1, n2, b3⟩
  have ON3 := Lib.hid (H3.one false)
  have hs3 := b3.size
  clear HC
  go_wp2_with (first
    | (refine wpList_new rfl (.alloc 37) rfl w3.heap.size rfl 37 rm0 (by kernel_rfl) ?_; intro w4 hs4 hb4 hB4; have HB4 := Lib.hid hB4; clear hB4)
    | (refine wpList_store_blk rfl 37 (.tmp 19) (.tmp 166) rfl w3.heap.size rfl (rm4 (.slice Ao n co) false vg' vb') rfl 37 rm0 HB4.out SZ.out rfl ON3.out ?_; intro w5 hB5 hg5 hs5; refine stop_here ?_))
  have b5 : Below w2.heap.size w2 w5 := (b3.trans (hb4.mono hs3)).grown hg5 (by have := hb4.size; omega) (fun k hk => by cases hk; exact hs3)
  have b35 : Below w3.heap.size w3 w5 := hb4.grown hg5 hb4.size (fun k hk => by cases hk; exact Nat.le_refl _)
  obtain ⟨ht, H6⟩ := hput.out w5 ⟨false, R.greys, R.black⟩ vg' vb' b5 (H3.below b35) n1 n2
  have ht4 : w5.there q 3 (rm4 (.slice Ao n co) false vg' vb').size := ht
  replace hB5 := Lib.hid hB5
  replace ht4 := Lib.hid ht4
  replace H6 := Lib.hid H6
  clear HB4 hs4 hb4 hg5 hs5 b35 H3 n1 n2 ht
  refine go_on ?_
  go_wp2_with (first
    | (refine wpList_load_blk rfl 37 (.tmp 19) rfl w3.heap.size rfl 37 (rm4 (.slice Ao n co) false vg' vb') hB5.out _ Tryd.underlying37 rfl SZ.out ?_)
    | (refine wpList_store_mid rfl 37 (.tmp 172) (.tmp 170) rfl q 3 (rm4 (.slice Ao n co) false vg' vb') rfl rfl ht4.out SZ.out ON3.out ?_; refine stop_here ?_))
  have H6' : LA w0 (w5.setCells q 3 (rm4 (.slice Ao n co) false vg' vb').toList) q h m n K ⟨R.objs, false, R.greys, R.black⟩ := H6.out
  generalize w5.setCells q 3 (rm4 (.slice Ao n co) false vg' vb').toList = w6 at H6' ⊢
  clear H6 ht4 hB5 ON3
  have HM := Lib.hid (la_end_off2 H6' HX.out ho1.out)
  have p6 := H6'.cells.2.1
  replace H6' := Lib.hid H6'
  refine go_on ?_
  go_wp2_with fail
  refine HM.out.mono ?_
  rintro e w7 ⟨rfl, H7⟩
  replace H7 := Lib.hid H7
  clear HM p6
  have hXf : CK n K ⟨false, R.greys, R.black⟩ := by
    have := HX.out
    have e : R.rd = ⟨false, R.greys, R.black⟩ := by
      show (⟨R.on, R.greys, R.black⟩ : RD) = _
      rw [ho1.out]
    rw [e] at this
    exact this
  replace hXf := Lib.hid hXf
  go_wp2_with fail
  go_loopw [193] (fun i wr => i = .int .i64 0 ∧ Hid (LA w0 wr q h m n K ⟨R.objs, false, R.greys, R.black⟩)) (fun i _ => 0)
  case atStart => exact ⟨rfl, H7⟩
  case round =>
    clear H7
    obtain ⟨rfl, H7⟩ := hrel
    go_wp2_with fail
    go_ret
    exact ⟨rfl, K, _, H7.out, hXf.out⟩
set_option maxHeartbeats 6400000 in
set_option maxRecDepth 100000 in
theorem mdoes_end_on (H : LA w0 w q h m n K R) (HX : CK n K R.rd) (kind xa xb xk : Int) (rv : Option Addr × Nat × Nat) (rl : List Int) (hx : MActOk w ⟨kind, xa, xb, xk, rv, rl⟩) (hl : rl.length ≤ 20) (hk : kind % 8 = 5)  (ho : R.on = true) :
    Calls Tryd.prog 23 #[.pointer (some ⟨q, 0, none⟩), .agg #[.int .u8 kind, .int .u8 xa, .int .u8 xb, .int .u8 xk, slE rv]] w (DidA w0 q h m n) := by
  have hn := H.n11
  have hd := hx.kind
  have ha := hx.a
  have hb := hx.b
  have hkk := hx.k
  dsimp only at hd ha hb hkk
  obtain ⟨Av, cv, hrv, -⟩ := hx.rd.len
  dsimp only at hrv
  have HRd := hx.rd
  have HRb := Lib.hid hx.rb
  dsimp only at HRd HRb
  rw [hrv] at HRd ⊢
  replace HRd := Lib.hid HRd
  replace hrv := Lib.hid hrv
  clear hx
  obtain ⟨a, hxa⟩ : ∃ a : Nat, xa % ((n : Int) + 1) = (a : Int) := ⟨(xa % ((n : Int) + 1)).toNat, by have := num_mod (n := n) xa; omega⟩
  obtain ⟨b, hxb⟩ : ∃ b : Nat, xb % ((n : Int) + 1) = (b : Int) := ⟨(xb % ((n : Int) + 1)).toNat, by have := num_mod (n := n) xb; omega⟩
  have han : a ≤ n := by have := num_mod (n := n) xa; omega
  have hbn : b ≤ n := by have := num_mod (n := n) xb; omega
  have hgx : GInv K ∨ True := .inr trivial
  clear hgx
  replace H := Lib.hid H
  replace HX := Lib.hid HX
  go_enter Tryd.func23, Tryd.ntmps23
  go_wp2_with (refine wpList_new rfl (.box 30 (.tmp 1)) rfl w.heap.size rfl 30 #[.int .u8 kind, .int .u8 xa, .int .u8 xb, .int .u8 xk, .slice Av rl.length cv] (by kernel_rfl) ?_; intro w1 hs1 hb1 hB1; refine stop_here ?_)
  have e0 : w1.cell? ⟨w.heap.size, 0, none⟩ = some (.int .u8 kind) := hB1.cell 0
  have e1 : w1.cell? ⟨w.heap.size, 1, none⟩ = some (.int .u8 xa) := hB1.cell 1
  have e2 : w1.cell? ⟨w.heap.size, 2, none⟩ = some (.int .u8 xb) := hB1.cell 2
  have e3 : w1.cell? ⟨w.heap.size, 3, none⟩ = some (.int .u8 xk) := hB1.cell 3
  have e4 : w1.cell? ⟨w.heap.size, 4, none⟩ = some (.slice Av rl.length cv) := hB1.cell 4
  have H1 := H.out.below hb1
  obtain ⟨Ap, cp, q2, -⟩ := H1.ptrs
  have hgl := hB1.lt
  have wa : IntKind.i64.wrap xa = xa := by rw [IntKind.wrap_i64]; omega
  have wb : IntKind.i64.wrap xb = xb := by rw [IntKind.wrap_i64]; omega
  have wn : IntKind.i64.wrap ((n : Int) + 1) = (n : Int) + 1 := by rw [IntKind.wrap_i64]; omega
  have nz : ((n : Int) + 1 = 0) = False := by rw [eq_iff_iff, iff_false]; omega
  have ta : xa.tmod ((n : Int) + 1) = (a : Int) := (Int.tmod_eq_emod_of_nonneg ha.1).trans hxa
  have tb : xb.tmod ((n : Int) + 1) = (b : Int) := (Int.tmod_eq_emod_of_nonneg hb.1).trans hxb
  replace H1 := Lib.hid H1
  clear H hB1 hs1
  refine go_on ?_
  go_wp2_with fail
  go_quiet (fail)
  have H2 := Lib.hid (H1.out.below (below_drewN (Below.refl w1.heap.size w1) nq))
  have b2 : Below w.heap.size w (w1.drewN nq) := below_drewN hb1 nq
  replace e0 : (w1.drewN nq).cell? ⟨w.heap.size, 0, none⟩ = some (.int .u8 kind) := e0
  replace e3 : (w1.drewN nq).cell? ⟨w.heap.size, 3, none⟩ = some (.int .u8 xk) := e3
  replace e4 : (w1.drewN nq).cell? ⟨w.heap.size, 4, none⟩ = some (.slice Av rl.length cv) := e4
  replace hgl : w.heap.size < (w1.drewN nq).heap.size := hgl
  generalize w1.drewN nq = w2 at H2 b2 e0 e3 e4 hgl ⊢
  clear H1 hb1 e1 e2 q2 wa wb wn nz ta tb
  replace hxa := Lib.hid hxa
  replace hxb := Lib.hid hxb
  obtain ⟨Ao, co, vg, vb, hat, hRV, _, hput⟩ := la_open0 H2.out HX.out.ok
  have SZ := Lib.hid rm_size
  have HC := mEnd17_on hRV n (by obtain ⟨S9, C9⟩ := H2.out.c; exact C9.ol) hn
  have ho1 := Lib.hid ho
  rw [ho] at hat
  have hrd : (⟨true, R.greys, R.black⟩ : RD) = R.rd := by show _ = (⟨R.on, R.greys, R.black⟩ : RD); rw [ho]
  rw [hrd] at HC
  clear ho
  obtain ⟨Wh, hWh⟩ : ∃ Wh, Wh = whN n R.rd := ⟨_, rfl⟩
  have hwb : ∀ b ∈ Wh, 0 ≤ b ∧ b ≤ n := by rw [hWh]; exact whN_bd
  have hwl : Wh.length ≤ n := by rw [hWh]; exact Nat.le_trans (List.length_filter_le _ _) (Nat.le_of_eq (nsN_len n))
  rw [← hWh] at HC
  have ONf := Lib.hid (hRV.one false)
  replace HC := Lib.hid HC
  replace hWh := Lib.hid hWh
  replace hwb := Lib.hid hwb
  replace hat := Lib.hid hat
  replace hput := Lib.hid hput
  replace hRV := Lib.hid hRV
  replace hrd := Lib.hid hrd
  go_wp2_with (refine wpList_load_mid rfl 37 (.tmp 163) rfl q 3 rfl [.slice Ao n co, .bool true, vg, vb] _ (hat.out w2 (Below.refl _ _)) Tryd.underlying37 rfl SZ.out ?_)
  refine HC.out.mono ?_
  rintro e w3 ⟨vl, rfl, hown, b3⟩
  obtain ⟨Al, cl, rfl, -⟩ := own_form hown
  have hs3 := b3.size
  have rvl := Rd.of_own hown
  have fvl := own_from hown
  replace rvl := Lib.hid rvl
  replace fvl := Lib.hid fvl
  clear HC hown
  go_wp2_with (first
    | (refine wpList_new rfl (.alloc 37) rfl w3.heap.size rfl 37 rm0 (by kernel_rfl) ?_; intro w4 hs4 hb4 hB4; have HB4 := Lib.hid hB4; clear hB4)
    | (refine wpList_store_blk rfl 37 (.tmp 19) (.tmp 166) rfl w3.heap.size rfl (rm4 (.slice Ao n co) false vg vb) rfl 37 rm0 HB4.out SZ.out rfl ONf.out ?_; intro w5 hB5 hg5 hs5; refine stop_here ?_))
  have b5 : Below w2.heap.size w2 w5 := (b3.trans (hb4.mono hs3)).grown hg5 (by have := hb4.size; omega) (fun k hk => by cases hk; exact hs3)
  have b35 : Below w3.heap.size w3 w5 := hb4.grown hg5 hb4.size (fun k hk => by cases hk; exact Nat.le_refl _)
  obtain ⟨ht, H6⟩ := hput.out w5 false b5
  have rvl5 := Lib.hid (rvl.out.below b35)
  have ht4 : w5.there q 3 (rm4 (.slice Ao n co) false vg vb).size := ht
  replace hB5 := Lib.hid hB5
  replace ht4 := Lib.hid ht4
  replace H6 := Lib.hid H6
  replace b5 := Lib.hid b5
  clear HB4 hs4 hb4 hg5 hs5 b35 ht
  refine go_on ?_
  go_wp2_with (first
    | (refine wpList_load_blk rfl 37 (.tmp 19) rfl w3.heap.size rfl 37 (rm4 (.slice Ao n co) false vg vb) hB5.out _ Tryd.underlying37 rfl SZ.out ?_)
    | (refine wpList_store_mid rfl 37 (.tmp 172) (.tmp 170) rfl q 3 (rm4 (.slice Ao n co) false vg vb) rfl rfl ht4.out SZ.out ONf.out ?_; refine stop_here ?_))
  have H6' : LA (w0.guard w2 w5) (w5.setCells q 3 (rm4 (.slice Ao n co) false vg vb).toList) q h m n K ⟨R.objs, false, R.greys, R.black⟩ := H6.out
  generalize w5.setCells q 3 (rm4 (.slice Ao n co) false vg vb).toList = w6 at H6' ⊢
  clear H6 ht4 hB5 ONf
  have HM := la_end_on2 H6' HX.out ho1.out
  rw [← hWh.out] at HM
  replace HM := Lib.hid HM
  have p6 := H6'.cells.2.1
  replace H6' := Lib.hid H6'
  refine go_on ?_
  go_wp2_with fail
  refine HM.out.mono ?_
  rintro e w7 ⟨v7, rfl, r7, H7, ck7⟩
  obtain ⟨A7, c7, rfl, -⟩ := r7.len
  rw [List.length_map] at r7 ⊢
  have rl7 := H7.rd rvl5.out fvl.out
  have H7u := Lib.hid (H2.out.unguard b5.out H7)
  have HP := Lib.hid (fun wx (bx : Below w7.heap.size w7 wx) (y : Int) (hb : 0 ≤ y ∧ y ≤ n) => la_ptr (H7.below bx) y hb)
  replace r7 := Lib.hid r7
  replace rl7 := Lib.hid rl7
  replace ck7 := Lib.hid ck7
  clear HM p6 H7
  go_wp2_with fail
  go_loopw [193] (fun i wr => ∃ j : Nat, j ≤ Wh.length ∧ i = .int .i64 j ∧ Hid (Below w7.heap.size w7 wr)) (fun i _ => Wh.length - (intOf i).toNat)
  case atStart => exact ⟨0, by omega, rfl, Lib.hid (Below.refl _ _)⟩
  case round =>
    obtain ⟨j, hj, rfl, hbw⟩ := hrel
    by_cases hlt : j < Wh.length
    · have t0 : (j : Int) < (Wh.length : Int) := by omega
      have hmp : j < (Wh.map ptrI).length := by rw [List.length_map]; exact hlt
      have r7w := r7.out.below hbw.out
      have hr7' : Rd i64e wr (.slice A7 (Wh.map ptrI).length c7) (Wh.map ptrI) := by rw [List.length_map]; exact r7w
      obtain ⟨b7, o7, rfl, _, hc7⟩ := hr7'.at_ hmp
      obtain ⟨bl, ol, rfl, _, hcl⟩ := (rl7.out.below hbw.out).at_ hlt
      obtain ⟨y, hy⟩ : ∃ y, y = Wh[j] := ⟨_, rfl⟩
      have hyb := hwb.out Wh[j] (List.getElem_mem hlt)
      rw [List.getElem_map] at hc7
      rw [← hy] at hc7 hcl hyb
      replace hc7 : wr.cell? ⟨b7, o7 + j, none⟩ = some (.int .i64 (ptrI y)) := hc7
      replace hcl : wr.cell? ⟨bl, ol + j, none⟩ = some (.int .i64 y) := hcl
      have HPj := Lib.hid (fun wx (bx : Below wr.heap.size wr wx) => HP.out wx (hbw.out.trans (bx.mono hbw.out.size)) y hyb)
      replace hy := Lib.hid hy
      clear hr7' r7w hmp
      go_wp2_with fail
      go_quiet ((go_at_call 20; exact Calls.quiet_of_same ((HPj.out _ (below_drewN (Below.refl _ _) _)).mono fun _ _ h => ⟨h.1, h.2.symm⟩)))
      have hb8 := Lib.hid (hbw.out.trans ((below_drewN (Below.refl wr.heap.size wr) nq).mono hbw.out.size))
      generalize wr.drewN nq = w8 at hb8 ⊢
      clear hc7 hcl HPj hbw
      go_wp2_with fail
      go_roundw
      case rel => exact ⟨j + 1, by omega, by go_num, hb8⟩
      case measure => simp [intOf]; omega
    · obtain rfl : j = Wh.length := by omega
      have H9 := Lib.hid (H7u.out.below hbw.out)
      go_wp2_with fail
      go_ret
      exact ⟨rfl, _, _, H9.out, ck7.out⟩
end
end Go.Proofs.YtnoiepmapmcjdaaDoor
namespace Go.Proofs.YtnoiepmapmcjdaaDoor
open Go.RowKit Go.Shelf
section
variable {w0 : W0} {w w' : World} {q h m n : Nat} {K : MK} {R : RM}
theorem la_on (H : LA w0 w q h m n K R) (HX : CK n K R.rd) : Calls Tryd.prog 25 #[.pointer (some ⟨m, 0, none⟩)] w fun e w' => e = .returned (.tuple #[.int .i64 (if R.on = true then R.greys.length else 0), .bool R.on]) ∧ w = w' := by
  obtain ⟨S, F, D, G, W, hF, fe, C⟩ := H
  have := on_m m h S F K D w W.mm
  have e1 : K.on = R.on := HX.on
  have e2 : K.greys.length = R.greys.length := by rw [HX.greys, List.length_map]; rfl
  rw [e1, e2] at this
  exact this
theorem la_color (H : LA w0 w q h m n K R) (HX : CK n K R.rd) (i : Nat) (hi : i < n) : Calls Tryd.prog 21 #[.pointer (some ⟨m, 0, none⟩), .int .i64 (4 * (i : Int) + 1)] w fun e w' => e = .returned (.int .i64 (dColor R.rd ((i : Int) + 1))) ∧ w = w' := by
  have hn := H.n11
  obtain ⟨S, H⟩ := H
  have := lcolor H (4 * (i : Int) + 1) (by omega) (by omega)
  have hc := HX.color (b := (i : Int) + 1) (by omega) (by omega)
  rw [ptrI_pos (by omega), show 4 * ((i : Int) + 1) - 3 = 4 * (i : Int) + 1 by omega] at hc
  rw [hc] at this
  exact this
set_option maxHeartbeats 6400000 in
set_option maxRecDepth 100000 in
theorem msame_ok (H : LA w0 w q h m n K R) (HX : CK n K R.rd) : Calls Tryd.prog 24 #[.pointer (some ⟨q, 0, none⟩)] w fun e w' => e = .returned (.bool true) ∧ Below w.heap.size w w' := by
  have hn := H.n11
  obtain ⟨Ao, co, vg, vb, hat, hRV, _⟩ := la_open H HX.ok
  obtain ⟨Ag, cg, hvg, -⟩ := hRV.gr.len
  have hat0 := hat w (Below.refl _ _)
  have c4 : w.cell? ⟨q, 4, none⟩ = some (.bool R.on) := hat0 1 _ rfl
  have c5 : w.cell? ⟨q, 5, none⟩ = some (.slice Ag R.greys.length cg) := by rw [← hvg]; exact hat0 2 _ rfl
  have HO := Lib.hid (la_on H HX)
  have p1 := H.cells.2.1
  have hq := H.cells.2.2.1
  obtain ⟨Ap, cp, p2, rp⟩ := H.ptrs
  have hpt : (ptrsN n).length = n := ptrs_len n
  have SZ := Lib.hid rm_size
  obtain ⟨on, hon⟩ : ∃ on, on = R.on := ⟨_, rfl⟩
  obtain ⟨gl, hgl⟩ : ∃ gl, gl = R.greys.length := ⟨_, rfl⟩
  rw [← hon, ← hgl] at HO
  rw [← hon] at c4
  rw [← hgl] at c5
  replace hon := Lib.hid hon
  replace hgl := Lib.hid hgl
  replace hat := Lib.hid hat
  replace hRV := Lib.hid hRV
  replace hvg := Lib.hid hvg
  replace hpt := Lib.hid hpt
  replace rp := Lib.hid rp
  have HH := Lib.hid H
  have HHX := Lib.hid HX
  have p1h := Lib.hid p1
  have p2h := Lib.hid p2
  clear hat0 H HX
  go_enter Tryd.func24, Tryd.ntmps24
  go_wp2_with fail
  refine HO.out.mono ?_
  rintro e _ ⟨rfl, rfl⟩
  have main : True := trivial
  clear HO main
  cases on with
  | false =>
    go_wp2_with fail
    go_loopw [39] (fun i wr => ∃ j : Nat, j ≤ n ∧ i = .int .i64 j ∧ Hid (Below w.heap.size w wr)) (fun i _ => n - (intOf i).toNat)
    case atStart => exact ⟨0, by omega, rfl, Lib.hid (Below.refl _ _)⟩
    case round =>
      clear c4 c5 p1 p2
      obtain ⟨j, hj, rfl, hbw⟩ := hrel
      by_cases hlt : j < n
      · have t0 : (j : Int) < (n : Int) := by omega
        have hjp : j < (ptrsN n).length := by rw [hpt.out]; exact hlt
        have hpj : (ptrsN n)[j] = 4 * (j : Int) + 1 := ptrs_at hjp
        obtain ⟨bp, op, rfl, hbpl, cpj⟩ := (rp.out.below hbw.out).at_ hjp
        rw [hpj] at cpj
        replace cpj : wr.cell? ⟨bp, op + j, none⟩ = some (.int .i64 (4 * (j : Int) + 1)) := cpj
        have q1 := (hbw.out.cell (p := ⟨q, 1, none⟩) hq).trans p1h.out
        have q2 := (hbw.out.cell (p := ⟨q, 2, none⟩) hq).trans p2h.out
        have hqw : q < wr.heap.size := Nat.lt_of_lt_of_le hq hbw.out.size
        have hHw := Lib.hid (HH.out.below hbw.out)
        have hRw := Lib.hid (hRV.out.below hbw.out)
        obtain ⟨dc, hdc⟩ : ∃ dc, dc = dColor R.rd ((j : Int) + 1) := ⟨_, rfl⟩
        have hC1 : Hid (∀ wx, Below wr.heap.size wr wx → Calls Tryd.prog 21 #[.pointer (some ⟨m, 0, none⟩), .int .i64 (4 * (j : Int) + 1)] wx fun e w' => e = .returned (.int .i64 dc) ∧ wx = w') := Lib.hid fun wx bx => by rw [hdc]; exact la_color (hHw.out.below bx) HHX.out j hlt
        have hC2 : Hid (∀ wx, Below wr.heap.size wr wx → Calls Tryd.prog 50 #[.agg (rm4 (.slice Ao n co) R.on vg vb), .int .i64 ((j : Int) + 1)] wx fun e w' => e = .returned (.int .i64 dc) ∧ Below wx.heap.size wx w') := Lib.hid fun wx bx => by rw [hdc]; exact mcol17 (hRw.out.below bx) ((j : Int) + 1)
        have hatw := Lib.hid (fun wx (bx : Below wr.heap.size wr wx) => hat.out wx (hbw.out.trans (bx.mono hbw.out.size)))
        have wj1 : Hid (IntKind.i64.wrap ((j : Int) + 1) = (j : Int) + 1) := Lib.hid (by rw [IntKind.wrap_i64]; omega)
        have ij : Hid ((j : Int) < (n : Int)) := Lib.hid (by omega)
        replace hdc := Lib.hid hdc
        clear hpj hjp
        go_wp2_with fail
        have hS0 : (fun X : World => Below wr.heap.size wr X) wr.drew := (Below.refl _ _).drew
        refine wp_T (by kernel_rfl) 19 (fun X : World => Below wr.heap.size wr X) ?_
        refine wpAnyT_takeW (i := 0) (v := .pointer (some ⟨q, 0, none⟩)) rfl (by kernel_rfl) (fun _ _ _ hp => hp) (Or.inl ⟨by kernel_rfl, fun X _ => by go_simp⟩) hS0 ?_
        simp only [Act.put, List.setIfInBounds_toArray, List.set_cons_zero, List.set_cons_succ]
        refine wpAnyT_takeW (i := 1) (v := .pointer (some ⟨q, 0, none⟩)) rfl (by kernel_rfl) (fun _ _ _ hp => hp) (Or.inl ⟨by kernel_rfl, fun X _ => by go_simp⟩) hS0 ?_
        simp only [Act.put, List.setIfInBounds_toArray, List.set_cons_zero, List.set_cons_succ]
        refine wpAnyT_takeW (i := 4) (v := .pointer (some ⟨q, 0, none⟩)) rfl (by kernel_rfl) (fun _ _ _ hp => hp) (Or.inl ⟨by kernel_rfl, fun X _ => by go_simp⟩) hS0 ?_
        simp only [Act.put, List.setIfInBounds_toArray, List.set_cons_zero, List.set_cons_succ]
        refine wpAnyT_takeW (i := 5) (v := .pointer (some ⟨q, 0, none⟩)) rfl (by kernel_rfl) (fun _ _ _ hp => hp) (Or.inl ⟨by kernel_rfl, fun X _ => by go_simp⟩) hS0 ?_
        simp only [Act.put, List.setIfInBounds_toArray, List.set_cons_zero, List.set_cons_succ]
        refine wpAnyT_takeW (i := 12) (v := .pointer (some ⟨q, 0, none⟩)) rfl (by kernel_rfl) (fun _ _ _ hp => hp) (Or.inl ⟨by kernel_rfl, fun X _ => by go_simp⟩) hS0 ?_
        simp only [Act.put, List.setIfInBounds_toArray, List.set_cons_zero, List.set_cons_succ]
        refine wpAnyT_takeW (i := 13) (v := .pointer (some ⟨q, 0, none⟩)) rfl (by kernel_rfl) (fun _ _ _ hp => hp) (Or.inl ⟨by kernel_rfl, fun X _ => by go_simp⟩) hS0 ?_
        simp only [Act.put, List.setIfInBounds_toArray, List.set_cons_zero, List.set_cons_succ]
        refine wpAnyT_takeW (i := 2) (v := .pointer (some ⟨q, 1, none⟩)) rfl (by kernel_rfl) (fun _ _ _ hp => hp) (Or.inl ⟨by kernel_rfl, fun X _ => by go_simp⟩) hS0 ?_
        simp only [Act.put, List.setIfInBounds_toArray, List.set_cons_zero, List.set_cons_succ]
        refine wpAnyT_takeW (i := 6) (v := .pointer (some ⟨q, 2, none⟩)) rfl (by kernel_rfl) (fun _ _ _ hp => hp) (Or.inl ⟨by kernel_rfl, fun X _ => by go_simp⟩) hS0 ?_
        simp only [Act.put, List.setIfInBounds_toArray, List.set_cons_zero, List.set_cons_succ]
        refine wpAnyT_takeW (i := 14) (v := .pointer (some ⟨q, 3, none⟩)) rfl (by kernel_rfl) (fun _ _ _ hp => hp) (Or.inl ⟨by kernel_rfl, fun X _ => by go_simp⟩) hS0 ?_
        simp only [Act.put, List.setIfInBounds_toArray, List.set_cons_zero, List.set_cons_succ]
        refine wpAnyT_takeW (i := 8) (v := .int .i64 (j : Int)) rfl (by kernel_rfl) (fun _ _ _ hp => hp) (Or.inl ⟨by kernel_rfl, fun X _ => by go_simp⟩) hS0 ?_
        simp only [Act.put, List.setIfInBounds_toArray, List.set_cons_zero, List.set_cons_succ]
        refine wpAnyT_takeW (i := 16) (v := .int .i64 (j : Int)) rfl (by kernel_rfl) (fun _ _ _ hp => hp) (Or.inl ⟨by kernel_rfl, fun X _ => by go_simp⟩) hS0 ?_
        simp only [Act.put, List.setIfInBounds_toArray, List.set_cons_zero, List.set_cons_succ]
        refine wpAnyT_takeW (i := 17) (v := .int .i64 ((j : Int) + 1)) rfl (by kernel_rfl) (fun _ _ _ hp => hp) (Or.inl ⟨by kernel_rfl, fun X _ => by have wj1z := wj1.out; go_simp⟩) hS0 ?_
        simp only [Act.put, List.setIfInBounds_toArray, List.set_cons_zero, List.set_cons_succ]
        refine wpAnyT_takeC (i := 3) (v := .pointer (some ⟨m, 0, none⟩)) [11] rfl (by kernel_rfl) (fun _ _ _ hp => hp) (Or.inl ⟨by kernel_rfl, fun X hX => by have y1 := (hX.cell (p := ⟨q, 1, none⟩) hqw).trans q1; go_simp⟩) hS0 ?_
        simp only [Act.put, List.setIfInBounds_toArray, List.set_cons_zero, List.set_cons_succ]
        refine wpAnyT_takeC (i := 7) (v := .slice (some ⟨bp, op, none⟩) n cp) [9, 10, 11] rfl (by kernel_rfl) (fun _ _ _ hp => hp) (Or.inl ⟨by kernel_rfl, fun X hX => by have y1 := (hX.cell (p := ⟨q, 2, none⟩) hqw).trans q2; go_simp⟩) hS0 ?_
        simp only [Act.put, List.setIfInBounds_toArray, List.set_cons_zero, List.set_cons_succ]
        refine wpAnyT_takeW (i := 9) (v := .pointer (some ⟨bp, op + j, none⟩)) rfl (by kernel_rfl) (fun _ _ _ hp => hp) (Or.inl ⟨by kernel_rfl, fun X _ => by have ijz := ij.out; go_simp⟩) hS0 ?_
        simp only [Act.put, List.setIfInBounds_toArray, List.set_cons_zero, List.set_cons_succ]
        refine wpAnyT_takeC (i := 10) (v := .int .i64 (4 * (j : Int) + 1)) [11] rfl (by kernel_rfl) (fun _ _ _ hp => hp) (Or.inl ⟨by kernel_rfl, fun X hX => by have y1 := (hX.cell (p := ⟨bp, op + j, none⟩) hbpl).trans cpj; go_simp⟩) hS0 ?_
        simp only [Act.put, List.setIfInBounds_toArray, List.set_cons_zero, List.set_cons_succ]
        refine wpAnyT_takeC (i := 15) (v := .agg (rm4 (.slice Ao n co) R.on vg vb)) [18] rfl (by kernel_rfl) (fun _ _ _ hp => hp) (yieldsIf_load_mid (by kernel_rfl) _ _ rfl q 3 (by kernel_rfl) [.slice Ao n co, .bool R.on, vg, vb] _ (fun X hX => hatw.out X hX) Tryd.underlying37 rfl rm_size) hS0 ?_
        simp only [Act.put, List.setIfInBounds_toArray, List.set_cons_zero, List.set_cons_succ]
        refine wpAnyT_one (i := 11) rfl (by kernel_rfl) (by kernel_rfl) ?_
        intro K1 hK1
        go_simp
        refine (hC1.out _ hS0).mono ?_
        rintro e _ ⟨rfl, rfl⟩
        dsimp only
        refine hK1.out _ _ (fun _ => hS0) ?_
        (try simp only [Act.put, List.setIfInBounds_toArray, List.set_cons_zero, List.set_cons_succ])
        refine wpAnyT_one (i := 18) rfl (by kernel_rfl) (by kernel_rfl) ?_
        intro K2 hK2
        go_simp
        refine (hC2.out _ hS0).mono ?_
        rintro e w4 ⟨rfl, b4⟩
        dsimp only
        have hS4 : (fun X : World => Below wr.heap.size wr X) w4 := Below.trans hS0 (Below.mono b4 (Below.size hS0))
        refine hK2.out _ _ (fun _ => hS4) ?_
        (try simp only [Act.put, List.setIfInBounds_toArray, List.set_cons_zero, List.set_cons_succ])
        refine wpAnyT_one (i := 19) rfl (by kernel_rfl) (by kernel_rfl) ?_
        intro K3 hK3
        go_simp
        refine hK3.out _ _ (fun hh => absurd rfl hh) ?_
        (try simp only [Act.put, List.setIfInBounds_toArray, List.set_cons_zero, List.set_cons_succ])
        refine wpAnyT_done (by kernel_rfl) ?_ _
        (try simp only [Act.put, List.setIfInBounds_toArray, List.set_cons_zero, List.set_cons_succ])
        clear hK1 K1 hK2 K2 hK3 K3
        have hb4 := Lib.hid (hbw.out.trans (Below.mono hS4 hbw.out.size))
        clear hS4 hS0 hbw hC1 hC2 hatw hRw hHw cpj q1 q2 b4
        go_wp2_with fail
        go_roundw
        case rel => exact ⟨j + 1, by omega, by go_num, hb4⟩
        case measure => simp [intOf]; omega
      · obtain rfl : j = n := by omega
        go_wp2_with fail
        go_ret
        exact ⟨rfl, hbw.out⟩
  | true =>
    go_wp2_with fail
    go_loopw [39] (fun i wr => ∃ j : Nat, j ≤ n ∧ i = .int .i64 j ∧ Hid (Below w.heap.size w wr)) (fun i _ => n - (intOf i).toNat)
    case atStart => exact ⟨0, by omega, rfl, Lib.hid (Below.refl _ _)⟩
    case round =>
      clear c4 c5 p1 p2
      obtain ⟨j, hj, rfl, hbw⟩ := hrel
      by_cases hlt : j < n
      · have t0 : (j : Int) < (n : Int) := by omega
        have hjp : j < (ptrsN n).length := by rw [hpt.out]; exact hlt
        have hpj : (ptrsN n)[j] = 4 * (j : Int) + 1 := ptrs_at hjp
        obtain ⟨bp, op, rfl, hbpl, cpj⟩ := (rp.out.below hbw.out).at_ hjp
        rw [hpj] at cpj
        replace cpj : wr.cell? ⟨bp, op + j, none⟩ = some (.int .i64 (4 * (j : Int) + 1)) := cpj
        have q1 := (hbw.out.cell (p := ⟨q, 1, none⟩) hq).trans p1h.out
        have q2 := (hbw.out.cell (p := ⟨q, 2, none⟩) hq).trans p2h.out
        have hqw : q < wr.heap.size := Nat.lt_of_lt_of_le hq hbw.out.size
        have hHw := Lib.hid (HH.out.below hbw.out)
        have hRw := Lib.hid (hRV.out.below hbw.out)
        obtain ⟨dc, hdc⟩ : ∃ dc, dc = dColor R.rd ((j : Int) + 1) := ⟨_, rfl⟩
        have hC1 : Hid (∀ wx, Below wr.heap.size wr wx → Calls Tryd.prog 21 #[.pointer (some ⟨m, 0, none⟩), .int .i64 (4 * (j : Int) + 1)] wx fun e w' => e = .returned (.int .i64 dc) ∧ wx = w') := Lib.hid fun wx bx => by rw [hdc]; exact la_color (hHw.out.below bx) HHX.out j hlt
        have hC2 : Hid (∀ wx, Below wr.heap.size wr wx → Calls Tryd.prog 50 #[.agg (rm4 (.slice Ao n co) R.on vg vb), .int .i64 ((j : Int) + 1)] wx fun e w' => e = .returned (.int .i64 dc) ∧ Below wx.heap.size wx w') := Lib.hid fun wx bx => by rw [hdc]; exact mcol17 (hRw.out.below bx) ((j : Int) + 1)
        have hatw := Lib.hid (fun wx (bx : Below wr.heap.size wr wx) => hat.out wx (hbw.out.trans (bx.mono hbw.out.size)))
        have wj1 : Hid (IntKind.i64.wrap ((j : Int) + 1) = (j : Int) + 1) := Lib.hid (by rw [IntKind.wrap_i64]; omega)
        have ij : Hid ((j : Int) < (n : Int)) := Lib.hid (by omega)
        replace hdc := Lib.hid hdc
        clear hpj hjp
        go_wp2_with fail
        have hS0 : (fun X : World => Below wr.heap.size wr X) wr.drew := (Below.refl _ _).drew
        refine wp_T (by kernel_rfl) 19 (fun X : World => Below wr.heap.size wr X) ?_
        refine wpAnyT_takeW (i := 0) (v := .pointer (some ⟨q, 0, none⟩)) rfl (by kernel_rfl) (fun _ _ _ hp => hp) (Or.inl ⟨by kernel_rfl, fun X _ => by go_simp⟩) hS0 ?_
        simp only [Act.put, List.setIfInBounds_toArray, List.set_cons_zero, List.set_cons_succ]
        refine wpAnyT_takeW (i := 1) (v := .pointer (some ⟨q, 0, none⟩)) rfl (by kernel_rfl) (fun _ _ _ hp => hp) (Or.inl ⟨by kernel_rfl, fun X _ => by go_simp⟩) hS0 ?_
        simp only [Act.put, List.setIfInBounds_toArray, List.set_cons_zero, List.set_cons_succ]
        refine wpAnyT_takeW (i := 4) (v := .pointer (some ⟨q, 0, none⟩)) rfl (by kernel_rfl) (fun _ _ _ hp => hp) (Or.inl ⟨by kernel_rfl, fun X _ => by go_simp⟩) hS0 ?_
        simp only [Act.put, List.setIfInBounds_toArray, List.set_cons_zero, List.set_cons_succ]
        refine wpAnyT_takeW (i := 5) (v := .pointer (some ⟨q, 0, none⟩)) rfl (by kernel_rfl) (fun _ _ _ hp => hp) (Or.inl ⟨by kernel_rfl, fun X _ => by go_simp⟩) hS0 ?_
        simp only [Act.put, List.setIfInBounds_toArray, List.set_cons_zero, List.set_cons_succ]
        refine wpAnyT_takeW (i := 12) (v := .pointer (some ⟨q, 0, none⟩)) rfl (by kernel_rfl) (fun _ _ _ hp => hp) (Or.inl ⟨by kernel_rfl, fun X _ => by go_simp⟩) hS0 ?_
        simp only [Act.put, List.setIfInBounds_toArray, List.set_cons_zero, List.set_cons_succ]
        refine wpAnyT_takeW (i := 13) (v := .pointer (some ⟨q, 0, none⟩)) rfl (by kernel_rfl) (fun _ _ _ hp => hp) (Or.inl ⟨by kernel_rfl, fun X _ => by go_simp⟩) hS0 ?_
        simp only [Act.put, List.setIfInBounds_toArray, List.set_cons_zero, List.set_cons_succ]
        refine wpAnyT_takeW (i := 2) (v := .pointer (some ⟨q, 1, none⟩)) rfl (by kernel_rfl) (fun _ _ _ hp => hp) (Or.inl ⟨by kernel_rfl, fun X _ => by go_simp⟩) hS0 ?_
        simp only [Act.put, List.setIfInBounds_toArray, List.set_cons_zero, List.set_cons_succ]
        refine wpAnyT_takeW (i := 6) (v := .pointer (some ⟨q, 2, none⟩)) rfl (by kernel_rfl) (fun _ _ _ hp => hp) (Or.inl ⟨by kernel_rfl, fun X _ => by go_simp⟩) hS0 ?_
        simp only [Act.put, List.setIfInBounds_toArray, List.set_cons_zero, List.set_cons_succ]
        refine wpAnyT_takeW (i := 14) (v := .pointer (some ⟨q, 3, none⟩)) rfl (by kernel_rfl) (fun _ _ _ hp => hp) (Or.inl ⟨by kernel_rfl, fun X _ => by go_simp⟩) hS0 ?_
        simp only [Act.put, List.setIfInBounds_toArray, List.set_cons_zero, List.set_cons_succ]
        refine wpAnyT_takeW (i := 8) (v := .int .i64 (j : Int)) rfl (by kernel_rfl) (fun _ _ _ hp => hp) (Or.inl ⟨by kernel_rfl, fun X _ => by go_simp⟩) hS0 ?_
        simp only [Act.put, List.setIfInBounds_toArray, List.set_cons_zero, List.set_cons_succ]
        refine wpAnyT_takeW (i := 16) (v := .int .i64 (j : Int)) rfl (by kernel_rfl) (fun _ _ _ hp => hp) (Or.inl ⟨by kernel_rfl, fun X _ => by go_simp⟩) hS0 ?_
        simp only [Act.put, List.setIfInBounds_toArray, List.set_cons_zero, List.set_cons_succ]
        refine wpAnyT_takeW (i := 17) (v := .int .i64 ((j : Int) + 1)) rfl (by kernel_rfl) (fun _ _ _ hp => hp) (Or.inl ⟨by kernel_rfl, fun X _ => by have wj1z := wj1.out; go_simp⟩) hS0 ?_
        simp only [Act.put, List.setIfInBounds_toArray, List.set_cons_zero, List.set_cons_succ]
        refine wpAnyT_takeC (i := 3) (v := .pointer (some ⟨m, 0, none⟩)) [11] rfl (by kernel_rfl) (fun _ _ _ hp => hp) (Or.inl ⟨by kernel_rfl, fun X hX => by have y1 := (hX.cell (p := ⟨q, 1, none⟩) hqw).trans q1; go_simp⟩) hS0 ?_
        simp only [Act.put, List.setIfInBounds_toArray, List.set_cons_zero, List.set_cons_succ]
        refine wpAnyT_takeC (i := 7) (v := .slice (some ⟨bp, op, none⟩) n cp) [9, 10, 11] rfl (by kernel_rfl) (fun _ _ _ hp => hp) (Or.inl ⟨by kernel_rfl, fun X hX => by have y1 := (hX.cell (p := ⟨q, 2, none⟩) hqw).trans q2; go_simp⟩) hS0 ?_
        simp only [Act.put, List.setIfInBounds_toArray, List.set_cons_zero, List.set_cons_succ]
        refine wpAnyT_takeW (i := 9) (v := .pointer (some ⟨bp, op + j, none⟩)) rfl (by kernel_rfl) (fun _ _ _ hp => hp) (Or.inl ⟨by kernel_rfl, fun X _ => by have ijz := ij.out; go_simp⟩) hS0 ?_
        simp only [Act.put, List.setIfInBounds_toArray, List.set_cons_zero, List.set_cons_succ]
        refine wpAnyT_takeC (i := 10) (v := .int .i64 (4 * (j : Int) + 1)) [11] rfl (by kernel_rfl) (fun _ _ _ hp => hp) (Or.inl ⟨by kernel_rfl, fun X hX => by have y1 := (hX.cell (p := ⟨bp, op + j, none⟩) hbpl).trans cpj; go_simp⟩) hS0 ?_
        simp only [Act.put, List.setIfInBounds_toArray, List.set_cons_zero, List.set_cons_succ]
        refine wpAnyT_takeC (i := 15) (v := .agg (rm4 (.slice Ao n co) R.on vg vb)) [18] rfl (by kernel_rfl) (fun _ _ _ hp => hp) (yieldsIf_load_mid (by kernel_rfl) _ _ rfl q 3 (by kernel_rfl) [.slice Ao n co, .bool R.on, vg, vb] _ (fun X hX => hatw.out X hX) Tryd.underlying37 rfl rm_size) hS0 ?_
        simp only [Act.put, List.setIfInBounds_toArray, List.set_cons_zero, List.set_cons_succ]
        refine wpAnyT_one (i := 11) rfl (by kernel_rfl) (by kernel_rfl) ?_
        intro K1 hK1
        go_simp
        refine (hC1.out _ hS0).mono ?_
        rintro e _ ⟨rfl, rfl⟩
        dsimp only
        refine hK1.out _ _ (fun _ => hS0) ?_
        (try simp only [Act.put, List.setIfInBounds_toArray, List.set_cons_zero, List.set_cons_succ])
        refine wpAnyT_one (i := 18) rfl (by kernel_rfl) (by kernel_rfl) ?_
        intro K2 hK2
        go_simp
        refine (hC2.out _ hS0).mono ?_
        rintro e w4 ⟨rfl, b4⟩
        dsimp only
        have hS4 : (fun X : World => Below wr.heap.size wr X) w4 := Below.trans hS0 (Below.mono b4 (Below.size hS0))
        refine hK2.out _ _ (fun _ => hS4) ?_
        (try simp only [Act.put, List.setIfInBounds_toArray, List.set_cons_zero, List.set_cons_succ])
        refine wpAnyT_one (i := 19) rfl (by kernel_rfl) (by kernel_rfl) ?_
        intro K3 hK3
        go_simp
        refine hK3.out _ _ (fun hh => absurd rfl hh) ?_
        (try simp only [Act.put, List.setIfInBounds_toArray, List.set_cons_zero, List.set_cons_succ])
        refine wpAnyT_done (by kernel_rfl) ?_ _
        (try simp only [Act.put, List.setIfInBounds_toArray, List.set_cons_zero, List.set_cons_succ])
        clear hK1 K1 hK2 K2 hK3 K3
        have hb4 := Lib.hid (hbw.out.trans (Below.mono hS4 hbw.out.size))
        clear hS4 hS0 hbw hC1 hC2 hatw hRw hHw cpj q1 q2 b4
        go_wp2_with fail
        go_roundw
        case rel => exact ⟨j + 1, by omega, by go_num, hb4⟩
        case measure => simp [intOf]; omega
      · obtain rfl : j = n := by omega
        go_wp2_with fail
        go_ret
        exact ⟨rfl, hbw.out⟩
theorem mdoes_all (H : LA w0 w q h m n K R) (HX : CK n K R.rd) (kind xa xb xk : Int) (rv : Option Addr × Nat × Nat) (rl : List Int) (hx : MActOk w ⟨kind, xa, xb, xk, rv, rl⟩) (hl : rl.length ≤ 20) :
    Calls Tryd.prog 23 #[.pointer (some ⟨q, 0, none⟩), .agg #[.int .u8 kind, .int .u8 xa, .int .u8 xb, .int .u8 xk, slE rv]] w (DidA w0 q h m n) := by
  rcases (show kind % 8 = 0 ∨ kind % 8 = 1 ∨ kind % 8 = 2 ∨ kind % 8 = 3 ∨ kind % 8 = 4 ∨ kind % 8 = 5 ∨ (kind % 8 = 6 ∨ kind % 8 = 7) by omega) with hk | hk | hk | hk | hk | hk | hk
  · exact mdoes_begin H HX kind xa xb xk rv rl hx hl hk
  · exact mdoes_shade H HX kind xa xb xk rv rl hx hl hk
  · exact mdoes_made H HX kind xa xb xk rv rl hx hl hk
  · exact mdoes_step3 H HX kind xa xb xk rv rl hx hl hk
  · exact mdoes_step4 H HX kind xa xb xk rv rl hx hl hk
  · cases ho : R.on with
    | false => exact mdoes_end_off H HX kind xa xb xk rv rl hx hl hk ho
    | true => exact mdoes_end_on H HX kind xa xb xk rv rl hx hl hk ho
  · exact mdoes_set H HX kind xa xb xk rv rl hx hl hk
end
theorem ck_new (n : Nat) (objs : List (List Int)) : CK n mNew (RM.rd ⟨objs, false, [], []⟩) := ⟨rfl, rfl, fun b _ _ => by simp [mNew, RM.rd], ⟨by simp [RM.rd], fun b hb => by simp [RM.rd] at hb⟩⟩
set_option maxHeartbeats 6400000 in
set_option maxRecDepth 100000 in
theorem macts_ok (n0 : Int) (v1 : Value) (l : List MAct) (w : World) (h0 : 0 ≤ n0 ∧ n0 ≤ 255) (hv : RdC 5 mactC w v1 l) (hok : ∀ x ∈ l, MActOk w x) (hT : TabW w) :
    Calls Tryd.prog 7 #[.int .u8 n0, v1] w fun e w' => e = .returned (.bool true) ∧ Below w.heap.size w w' := by
  obtain ⟨A, c, rfl, hlc, hcm, -⟩ := hv.len
  have hl9 : (l.length : Int) ≤ 9223372036854775807 := by unfold maxLen at hcm; omega
  have HV := Lib.hid (fun wx (bx : Below w.heap.size w wx) => hv.below bx)
  have HO := Lib.hid hok
  have HA := Lib.hid (malive_ok w hT)
  replace hT := Lib.hid hT
  obtain ⟨n, hn⟩ : ∃ n : Nat, n0 % 12 = (n : Int) := ⟨(n0 % 12).toNat, by omega⟩
  have hn11 : n ≤ 11 := by omega
  clear hv hok
  go_enter Tryd.func7, Tryd.ntmps7
  go_wp2_with fail
  refine HA.out.mono ?_
  rintro e w1 ⟨rfl, b1⟩
  have HB := Lib.hid (begin_w n w1 hn11 (hT.out.below b1))
  clear HA hT
  go_wp2_with fail
  rw [hn]
  replace hn := Lib.hid hn
  refine HB.out.mono ?_
  rintro e w2 ⟨q, h, m, rfl, H2⟩
  clear HB
  have H2' : LA (ofW w1) w2 q h m n mNew ⟨List.replicate n zero4, false, [], []⟩ := ⟨_, H2⟩
  have b2 := b1.trans (H2.b.mono b1.size)
  have HH := Lib.hid (heavy_w _ l w2 (HV.out w2 b2) (fun x hx => (HO.out x hx).below b2))
  replace H2' := Lib.hid H2'
  clear H2
  go_wp2_with fail
  refine HH.out.mono ?_
  rintro e w3 ⟨rfl, c3⟩
  have b3 := b2.trans (c3.mono b2.size)
  have H3 := Lib.hid (H2'.out.below c3)
  clear HH c3 H2'
  by_cases hhv : mHeavy l = true
  · rw [hhv]
    go_wp2_with fail
    go_ret
    exact ⟨rfl, b3⟩
  have hhf : mHeavy l = false := by simpa using hhv
  have hr20 : Hid (∀ x ∈ l, x.rl.length ≤ 20) := Lib.hid fun x hx => by
    unfold mHeavy at hhf
    have h1 := (Bool.or_eq_false_iff.1 hhf).1
    have h2 := List.any_eq_false.1 h1 x hx
    have : ¬ 20 < x.rl.length := by simpa using h2
    omega
  rw [hhf]
  replace hhv := Lib.hid hhv
  clear hhf
  have ck3 := Lib.hid (ck_new n (List.replicate n zero4))
  go_wp2_with fail
  go_loopw [24] (fun i wr => ∃ (j : Nat) (K : MK) (R : RM), j ≤ l.length ∧ i = .int .i64 j ∧ Hid (LA (ofW w1) wr q h m n K R) ∧ Hid (CK n K R.rd)) (fun i _ => l.length - (intOf i).toNat)
  case atStart => exact ⟨0, _, _, by omega, rfl, H3, ck3⟩
  case round =>
    clear H3 ck3 b3 b2
    obtain ⟨j, K, R, hj, rfl, H, hck⟩ := hrel
    have bw : Below w.heap.size w wr := b1.trans (H.out.b.mono b1.size)
    by_cases hlt : j < l.length
    · have hxm := hr20.out _ (List.getElem_mem hlt)
      have t0 : (j : Int) < (l.length : Int) := by omega
      obtain ⟨b, o, rfl, _, hc⟩ := (HV.out wr bw).at_ hlt
      obtain ⟨x, hx⟩ : ∃ x, l[j] = x := ⟨_, rfl⟩
      have hxo := HO.out _ (List.getElem_mem hlt)
      have hxow := hxo
      rw [hx] at hc hxo hxm hxow
      obtain ⟨kind, xa, xb, xk, rv, rl⟩ := x
      have c0 : wr.cell? ⟨b, o + j * 5, none⟩ = some (.int .u8 kind) := hc 0 _ rfl
      have c1 : wr.cell? ⟨b, o + j * 5 + 1, none⟩ = some (.int .u8 xa) := hc 1 _ rfl
      have c2 : wr.cell? ⟨b, o + j * 5 + 2, none⟩ = some (.int .u8 xb) := hc 2 _ rfl
      have c3 : wr.cell? ⟨b, o + j * 5 + 3, none⟩ = some (.int .u8 xk) := hc 3 _ rfl
      have c4 := hc 4 _ rfl
      obtain ⟨Av, cv, hrv, -⟩ := hxo.rd.len
      dsimp only at hrv c4
      rw [hrv] at c4
      replace c4 : wr.cell? ⟨b, o + j * 5 + 4, none⟩ = some (.slice Av rl.length cv) := c4
      have hd := hxo.kind
      have ha := hxo.a
      have hb := hxo.b
      have hk := hxo.k
      dsimp only at hd ha hb hk
      replace hrv := Lib.hid hrv
      dsimp only at hxm
      have hxw := hxow
      clear hc hx hxo hxow
      go_wp2_with (first
        | (refine wpList_new rfl (.alloc 30) rfl wr.heap.size rfl 30 #[.int .u8 0, .int .u8 0, .int .u8 0, .int .u8 0, .slice none 0 0] (by kernel_rfl) ?_; intro w1 hs1 hb1 hB1; have HB1 := Lib.hid hB1; clear hB1)
        | (refine wpList_store_blk rfl 30 (.tmp 8) (.tmp 27) rfl wr.heap.size rfl #[.int .u8 kind, .int .u8 xa, .int .u8 xb, .int .u8 xk, .slice Av rl.length cv] rfl 30 #[.int .u8 0, .int .u8 0, .int .u8 0, .int .u8 0, .slice none 0 0] HB1.out mact_size rfl (by simp [Value.oneCell']) ?_; intro w2 hB2 hg2 hs2; refine stop_here ?_))
      have hb2 : Below wr.heap.size wr w2 := hb1.grown hg2 hb1.size (fun k hk => by cases hk; exact Nat.le_refl _)
      have HD := mdoes_all (H.out.below hb2) hck.out kind xa xb xk rv rl (hxw.below (bw.trans (hb2.mono bw.size))) hxm
      rw [hrv.out] at HD
      replace HD := Lib.hid HD
      replace hB2 := Lib.hid hB2
      have SZ5 := Lib.hid mact_size
      clear HB1 hg2 hs2 hs1 hb1 c0 c1 c2 c3 c4 hxw H hck hb2
      refine go_on ?_
      go_wp2_with (refine wpList_load_blk rfl 30 (.tmp 8) rfl wr.heap.size rfl 30 #[.int .u8 kind, .int .u8 xa, .int .u8 xb, .int .u8 xk, .slice Av rl.length cv] hB2.out _ Tryd.underlying30 rfl SZ5.out ?_)
      refine HD.out.mono ?_
      rintro e w4 ⟨rfl, K4, R4, H4, ck4⟩
      have HS := Lib.hid (msame_ok H4 ck4)
      replace H4 := Lib.hid H4
      replace ck4 := Lib.hid ck4
      clear HD hB2
      go_wp2_with fail
      refine HS.out.mono ?_
      rintro e w5 ⟨rfl, b5⟩
      have H5 := Lib.hid (H4.out.below b5)
      clear HS b5 H4
      go_wp2_with fail
      go_roundw
      case rel => exact ⟨j + 1, _, _, by omega, by go_num, H5, ck4⟩
      case measure => simp [intOf]; omega
    · obtain rfl : j = l.length := by omega
      go_wp2_with fail
      go_ret
      exact ⟨rfl, bw⟩
end Go.Proofs.YtnoiepmapmcjdaaDoor
