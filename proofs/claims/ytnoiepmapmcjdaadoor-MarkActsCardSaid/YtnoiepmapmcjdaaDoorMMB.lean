/- Joined: RoundKit2, RoundKit3, MarkWorld, MarkSet, MarkBegL, MarkPlain, MarkFin, MarkAlive, MarkRoots, MarkReach, MarkReachP, MarkTri, MarkHeavy, MarkSets, MarkSnap. -/
import Derived.Test.YtnoiepmapmcjdaaDoorRoundKit
import Derived.Test.YtnoiepmapmcjdaaDoorMMA
import Derived.Test.YtnoiepmapmcjdaaDoorAppendAll
import Derived.Test.YtnoiepmapmcjdaaDoorHeapAlive
import Derived.Deep.QuietTactic
import Derived.BigQuiet
set_option linter.unusedVariables false
set_option linter.unusedSimpArgs false
namespace Go.Proofs.YtnoiepmapmcjdaaDoor
open Go.RowKit Go.Shelf
section
variable {P : Program} {ops : Array Oper} {Q : Exit → Act → World → Prop} {md : Region.Mode} {S : World → Prop}
theorem wpAnyT_firstA {T i : Nat} {oi : Oper} {v : Value} (hi : ops[i]? = some oi) (hsel : ∀ (j : Nat) (o : Oper) cs b, ops[j]? = some o → o.op ≠ .select cs b)
    (hQ : ∀ c a w, Q (.panic c) (a.put oi.dst v) w → Q (.panic c) a w) (hT : ops[T]? = none) :
    ∀ (fuel : Nat) (listed : Array Bool) (a : Act) (w : World), listed.getD T false = false →
      (∀ j oj, ops[j]? = some oj → j ≠ i → listed.getD j true = false → (∀ e ∈ oj.after, Region.binds md e = true → e.on ≠ i) → oi.apart ops oj = true) →
      i ∈ Region.ready md ops listed → YieldsIf P ops S oi v a → S w →
      wpAnyT P md ops Q T S fuel (listed.setIfInBounds i true) (a.put oi.dst v) w → wpAnyT P md ops Q T S (fuel + 1) listed a w := by
  have hiT : i ≠ T := fun e => by subst e; rw [hT] at hi; cases hi
  intro fuel
  induction fuel with
  | zero =>
    intro listed a w _ _ hr hy hS H
    refine ⟨fun h => (by rw [h] at hr; cases hr), fun j hj => ?_⟩
    by_cases hji : j = i
    · subst hji; exact hy.wpOp hi hS ⟨fun _ _ => hS, H⟩
    · have := ready_mono hj hji
      rw [H.1] at this
      cases this
  | succ fuel ih =>
    intro listed a w hTl hfree hr hy hS H
    refine ⟨fun h => (by rw [h] at hr; cases hr), fun j hj => ?_⟩
    by_cases hji : j = i
    · subst hji; exact hy.wpOp hi hS ⟨fun _ _ => hS, H⟩
    · have h1 := H.2 j (ready_mono hj hji)
      obtain ⟨hjun, oj, hoj, hall⟩ := mem_ready.1 hj
      have hnot : ∀ e ∈ oj.after, Region.binds md e = true → e.on ≠ i := fun e he hb heq => by
        have h1 := hall e he hb
        have h0 := (mem_ready.1 hr).1
        rw [heq] at h1
        rcases Nat.lt_or_ge i listed.size with h' | h'
        · simp [h'] at h0 h1; rw [h0] at h1; cases h1
        · simp [Array.getElem?_eq_none h'] at h1
      have hjT : j ≠ T := fun e => by
        subst e
        rw [hT] at hoj
        cases hoj
      have h2 := wpOp_putIf hoj (hfree j oj hoj hji hjun hnot) (fun cs b => hsel i oi cs b hi) (fun cs b => hsel j oj cs b hoj) hQ hy h1
      have hfree' : ∀ k ok, ops[k]? = some ok → k ≠ i → (listed.setIfInBounds j true).getD k true = false →
          (∀ e ∈ ok.after, Region.binds md e = true → e.on ≠ i) → oi.apart ops ok = true := fun k ok hk hki hun hno => by
        refine hfree k ok hk hki ?_ hno
        by_cases hjk : j = k
        · subst hjk; exact hjun
        · rw [getD_set_ne true hjk] at hun; exact hun
      refine wpOp_mono (fun a' w' h3 => ?_) h2
      have hS' : S w' := h3.2.1 hjT (by rw [getD_set_ne false hiT]; exact hTl)
      refine ⟨fun _ _ => hS', ih (listed.setIfInBounds j true) a' w' (by rw [getD_set_ne false hjT]; exact hTl) hfree' (ready_mono hr (Ne.symm hji)) h3.1 hS' ?_⟩
      rw [Array.setIfInBounds_comm _ _ hji]
      exact h3.2.2
/-- Take number i first, that loads. -/
theorem wpAnyT_takeA {T i : Nat} {oi : Oper} {v : Value} {fuel : Nat} {listed : Array Bool} {a : Act} {w : World} (hi : ops[i]? = some oi)
    (hs : (Region.noSelect ops && Region.free md ops listed i && (Region.ready md ops listed).contains i && !(listed.getD T false)) = true) (hT : ops[T]? = none)
    (hQ : ∀ c a w, Q (.panic c) (a.put oi.dst v) w → Q (.panic c) a w) (hy : YieldsIf P ops S oi v a) (hS : S w)
    (h : wpAnyT P md ops Q T S fuel (listed.setIfInBounds i true) (a.put oi.dst v) w) : wpAnyT P md ops Q T S (fuel + 1) listed a w := by
  simp only [Bool.and_eq_true, Bool.not_eq_true'] at hs
  obtain ⟨⟨⟨h1, h2⟩, h3⟩, h6⟩ := hs
  exact wpAnyT_firstA hi (Region.noSelect_spec h1) hQ hT fuel listed a w h6 (Region.free_spec hi h2) (by simpa using h3) hy hS h
end
theorem wpAnyT_lat2 {P : Program} {md : Region.Mode} {ops : Array Oper} {Q : Exit → Act → World → Prop} {S : World → Prop} {T i : Nat} {o : Oper} {fuel : Nat} {listed : Array Bool} {a : Act} {w : World} (hi : ops[i]? = some o) (hr : Region.ready md ops listed = [i]) (hw : Region.wanted o (yielded ops a.tmps) = true)
    (hT : listed.getD T false = true) (h : ∀ K' : Act → World → Prop, Shut (∀ a' w', wpAnyT P md ops Q T S fuel (listed.setIfInBounds i true) a' w' → K' a' w') → Oper.wp P o a w K' Q) : wpAnyT P md ops Q T S (fuel + 1) listed a w := by
  refine ⟨fun h0 => (by rw [hr] at h0; cases h0), fun j hj => ?_⟩
  rw [hr] at hj
  obtain rfl : j = i := by simpa using hj
  unfold wpOp
  rw [hi]
  simp only
  rw [if_pos hw]
  exact .inl (h _ fun a' w' h1 => ⟨fun _ h4 => absurd (hT.symm.trans h4) (by decide), h1⟩)
end Go.Proofs.YtnoiepmapmcjdaaDoor
namespace Go.Proofs.YtnoiepmapmcjdaaDoor
open Go.RowKit Go.Shelf
section
variable {P : Program} {ops : Array Oper} {Q : Exit → Act → World → Prop} {md : Region.Mode} {S : World → Prop}
/-- None of i :: ch is listed: then one that waits for one of them is not ready. -/
theorem ready_not {listed : Array Bool} {i : Nat} {ch : List Nat} (hl : ∀ y ∈ i :: ch, listed.getD y true = false) {x : Nat} (hw : ∃ y ∈ i :: ch, Region.waitsFor md ops x y = true) : x ∉ Region.ready md ops listed := by
  intro hr
  obtain ⟨y, hy, hwy⟩ := hw
  obtain ⟨oT, hoT, e, he, hb, hon⟩ := Region.waitsFor_spec hwy
  obtain ⟨hun, ox, hox, hall⟩ := mem_ready.1 hr
  obtain rfl : oT = ox := Option.some.inj (hoT.symm.trans hox)
  have h1 := hall e he hb
  have h0 := hl y hy
  rw [hon] at h1
  rcases Nat.lt_or_ge y listed.size with h' | h'
  · simp [h'] at h0 h1; rw [h0] at h1; cases h1
  · simp [Array.getElem?_eq_none h'] at h1
theorem wpAnyT_firstC {T i : Nat} {oi : Oper} {v : Value} (ch : List Nat) (hi : ops[i]? = some oi) (hsel : ∀ (j : Nat) (o : Oper) cs b, ops[j]? = some o → o.op ≠ .select cs b)
    (hQ : ∀ c a w, Q (.panic c) (a.put oi.dst v) w → Q (.panic c) a w) (hiT : i ≠ T)
    (hc : ∀ x ∈ ch, ∃ y ∈ i :: ch, Region.waitsFor md ops x y = true) (hT : ∃ y ∈ i :: ch, Region.waitsFor md ops T y = true) :
    ∀ (fuel : Nat) (listed : Array Bool) (a : Act) (w : World), listed.getD T false = false → (∀ x ∈ ch, listed.getD x true = false) →
      (∀ j oj, ops[j]? = some oj → j ≠ i → listed.getD j true = false → (∀ e ∈ oj.after, Region.binds md e = true → e.on ≠ i) → oi.apart ops oj = true) →
      i ∈ Region.ready md ops listed → YieldsIf P ops S oi v a → S w →
      wpAnyT P md ops Q T S fuel (listed.setIfInBounds i true) (a.put oi.dst v) w → wpAnyT P md ops Q T S (fuel + 1) listed a w := by
  intro fuel
  induction fuel with
  | zero =>
    intro listed a w _ _ _ hr hy hS H
    refine ⟨fun h => (by rw [h] at hr; cases hr), fun j hj => ?_⟩
    by_cases hji : j = i
    · subst hji; exact hy.wpOp hi hS ⟨fun _ _ => hS, H⟩
    · have := ready_mono hj hji
      rw [H.1] at this
      cases this
  | succ fuel ih =>
    intro listed a w hTl hcl hfree hr hy hS H
    have hall0 : ∀ y ∈ i :: ch, listed.getD y true = false := fun y hy => by
      rcases List.mem_cons.1 hy with rfl | hy
      · exact (mem_ready.1 hr).1
      · exact hcl y hy
    refine ⟨fun h => (by rw [h] at hr; cases hr), fun j hj => ?_⟩
    by_cases hji : j = i
    · subst hji; exact hy.wpOp hi hS ⟨fun _ _ => hS, H⟩
    · have h1 := H.2 j (ready_mono hj hji)
      obtain ⟨hjun, oj, hoj, hall⟩ := mem_ready.1 hj
      have hnot : ∀ e ∈ oj.after, Region.binds md e = true → e.on ≠ i := fun e he hb heq => by
        have h1 := hall e he hb
        have h0 := (mem_ready.1 hr).1
        rw [heq] at h1
        rcases Nat.lt_or_ge i listed.size with h' | h'
        · simp [h'] at h0 h1; rw [h0] at h1; cases h1
        · simp [Array.getElem?_eq_none h'] at h1
      have hjT : j ≠ T := fun e => by subst e; exact ready_not hall0 hT hj
      have hjc : j ∉ ch := fun e => ready_not hall0 (hc j e) hj
      have h2 := wpOp_putIf hoj (hfree j oj hoj hji hjun hnot) (fun cs b => hsel i oi cs b hi) (fun cs b => hsel j oj cs b hoj) hQ hy h1
      have hfree' : ∀ k ok, ops[k]? = some ok → k ≠ i → (listed.setIfInBounds j true).getD k true = false →
          (∀ e ∈ ok.after, Region.binds md e = true → e.on ≠ i) → oi.apart ops ok = true := fun k ok hk hki hun hno => by
        refine hfree k ok hk hki ?_ hno
        by_cases hjk : j = k
        · subst hjk; exact hjun
        · rw [getD_set_ne true hjk] at hun; exact hun
      refine wpOp_mono (fun a' w' h3 => ?_) h2
      have hS' : S w' := h3.2.1 hjT (by rw [getD_set_ne false hiT]; exact hTl)
      refine ⟨fun _ _ => hS', ih (listed.setIfInBounds j true) a' w' (by rw [getD_set_ne false hjT]; exact hTl) (fun x hx => by
        have hjx : j ≠ x := fun e => hjc (by rw [e]; exact hx)
        rw [getD_set_ne true hjx]
        exact hcl x hx) hfree' (ready_mono hr (Ne.symm hji)) h3.1 hS' ?_⟩
      rw [Array.setIfInBounds_comm _ _ hji]
      exact h3.2.2
/-- Take number i first, that loads; T waits for it by way of ch. -/
theorem wpAnyT_takeC {T i : Nat} {oi : Oper} {v : Value} {fuel : Nat} {listed : Array Bool} {a : Act} {w : World} (ch : List Nat) (hi : ops[i]? = some oi)
    (hs : (Region.noSelect ops && Region.free md ops listed i && (Region.ready md ops listed).contains i && (i != T) && !(listed.getD T false) && ch.all (fun x => (i :: ch).any (fun y => Region.waitsFor md ops x y) && !(listed.getD x true)) && (i :: ch).any (fun y => Region.waitsFor md ops T y)) = true)
    (hQ : ∀ c a w, Q (.panic c) (a.put oi.dst v) w → Q (.panic c) a w) (hy : YieldsIf P ops S oi v a) (hS : S w)
    (h : wpAnyT P md ops Q T S fuel (listed.setIfInBounds i true) (a.put oi.dst v) w) : wpAnyT P md ops Q T S (fuel + 1) listed a w := by
  simp only [Bool.and_eq_true, Bool.not_eq_true', bne_iff_ne, ne_eq, List.all_eq_true] at hs
  obtain ⟨⟨⟨⟨⟨⟨h1, h2⟩, h3⟩, h4⟩, h6⟩, h7⟩, h8⟩ := hs
  exact wpAnyT_firstC ch hi (Region.noSelect_spec h1) hQ h4 (fun x hx => List.any_eq_true.1 (h7 x hx).1) (List.any_eq_true.1 h8) fuel listed a w h6 (fun x hx => (h7 x hx).2) (Region.free_spec hi h2) (by simpa using h3) hy hS h
end
end Go.Proofs.YtnoiepmapmcjdaaDoor
namespace Go.Proofs.YtnoiepmapmcjdaaDoor
open Go.RowKit Go.Shelf
abbrev slE (s : Option Addr × Nat × Nat) : Value := .slice s.1 s.2.1 s.2.2
/-- A slice that reads as a list, its block one of P's. -/
structure RdG {α : Type} (P : Nat → Prop) (enc : α → Value) (w : World) (v : Value) (xs : List α) : Prop where
  rd : Rd enc w v xs
  inP : 0 < xs.length → ∀ b, v.ownBlock = some b → P b
section
variable {α : Type} {P P' : Nat → Prop} {enc : α → Value} {w w' : World} {v : Value} {xs : List α}
theorem rdl_lt (h : Rd enc w v xs) (hp : 0 < xs.length) {b : Nat} (e : v.ownBlock = some b) : b < w.heap.size := by
  obtain ⟨A, c, rfl, -⟩ := h.len
  obtain ⟨b', o, rfl, hlt, _⟩ := h.at_ hp
  have : b' = b := by simpa [Value.ownBlock] using e
  omega
theorem RdG.keep (h : RdG P enc w v xs) (hs : w.heap.size ≤ w'.heap.size) (hk : ∀ b, P b → b < w.heap.size → w'.heap[b]? = w.heap[b]?) : RdG P enc w' v xs :=
  ⟨h.rd.keep hs fun hp b e hlt => hk b (h.inP hp b e) hlt, h.inP⟩
theorem RdG.mono (h : RdG P enc w v xs) (hP : ∀ b, P b → P' b) : RdG P' enc w v xs := ⟨h.rd, fun hp b e => hP b (h.inP hp b e)⟩
end
def RdLL (P : Nat → Prop) (w : World) (vo : Value) (objs : List (List Int)) : Prop :=
  ∃ us : List (Option Addr × Nat × Nat), us.length = objs.length ∧ RdG P slE w vo us ∧ ∀ i (h1 : i < us.length) (h2 : i < objs.length), RdG P i64e w (slE us[i]) objs[i]
theorem RdLL.keep {P : Nat → Prop} {w w' : World} {vo : Value} {objs : List (List Int)} (h : RdLL P w vo objs) (hs : w.heap.size ≤ w'.heap.size) (hk : ∀ b, P b → b < w.heap.size → w'.heap[b]? = w.heap[b]?) : RdLL P w' vo objs := by
  obtain ⟨us, h1, h2, h3⟩ := h
  exact ⟨us, h1, h2.keep hs hk, fun i i1 i2 => (h3 i i1 i2).keep hs hk⟩
theorem RdLL.mono {P P' : Nat → Prop} {w : World} {vo : Value} {objs : List (List Int)} (h : RdLL P w vo objs) (hP : ∀ b, P b → P' b) : RdLL P' w vo objs := by
  obtain ⟨us, h1, h2, h3⟩ := h
  exact ⟨us, h1, h2.mono hP, fun i i1 i2 => (h3 i i1 i2).mono hP⟩
structure RM where
  objs : List (List Int)
  on : Bool
  greys : List Int
  black : List Int
def wcells (h m : Nat) (vp vo : Value) (on : Bool) (vg vb : Value) : Array Value := #[.pointer (some ⟨h, 0, none⟩), .pointer (some ⟨m, 0, none⟩), vp, vo, .bool on, vg, vb]
structure WIn (w : World) (q h m : Nat) (ptrs : List Int) (R : RM) (G : Nat → Prop) (vp vo vg vb : Value) : Prop where
  blk : Blk w q 39 (wcells h m vp vo R.on vg vb)
  pr : RdG (fun b => G b ∧ b ≠ q) i64e w vp ptrs
  ob : RdLL (fun b => G b ∧ b ≠ q) w vo R.objs
  gr : RdG (fun b => G b ∧ b ≠ q) i64e w vg R.greys
  bl : RdG (fun b => G b ∧ b ≠ q) i64e w vb R.black
  gq : G q
  lt : ∀ k, G k → k < w.heap.size
structure WAt (w : World) (q h m : Nat) (S : HS) (F : Nat → Prop) (K : MK) (D : Nat → Prop) (ptrs : List Int) (R : RM) (G : Nat → Prop) : Prop where
  mm : MAt w m h S F K D
  wi : ∃ vp vo vg vb, WIn w q h m ptrs R G vp vo vg vb
  df : ∀ k, G k → ¬ F k
  dd : ∀ k, G k → ¬ D k
  tb : ¬ G 0
section
variable {w w' : World} {q h m : Nat} {S S' : HS} {F F' : Nat → Prop} {K K' : MK} {D D' : Nat → Prop} {ptrs : List Int} {R R' : RM} {G G' : Nat → Prop} {vp vo vg vb : Value}
theorem WIn.keep (H : WIn w q h m ptrs R G vp vo vg vb) (hs : w.heap.size ≤ w'.heap.size) (hk : ∀ k, G k → w'.heap[k]? = w.heap[k]?) : WIn w' q h m ptrs R G vp vo vg vb :=
  ⟨(hk q H.gq).trans H.blk, H.pr.keep hs fun b hb _ => hk b hb.1, H.ob.keep hs fun b hb _ => hk b hb.1, H.gr.keep hs fun b hb _ => hk b hb.1, H.bl.keep hs fun b hb _ => hk b hb.1, H.gq, fun k hk' => Nat.lt_of_lt_of_le (H.lt k hk') hs⟩
theorem MAt.keep (H : MAt w m h S F K D) (hs : w.heap.size ≤ w'.heap.size) (hk : ∀ k, k < w.heap.size → (F k ∨ D k ∨ k = 0) → w'.heap[k]? = w.heap[k]?) : MAt w' m h S F K D := by
  obtain ⟨vs, vg, M⟩ := H.mrk
  exact ⟨H.hp.keep hs fun k hlt hF => hk k hlt (hF.elim .inl fun e => .inr (.inr e)), ⟨vs, vg, M.keep hs fun k hD => hk k (M.lt k hD) (.inr (.inl hD))⟩, H.dis, H.tab⟩
theorem WAt.below (H : WAt w q h m S F K D ptrs R G) (hb : Below w.heap.size w w') : WAt w' q h m S F K D ptrs R G := by
  obtain ⟨vp, vo, vg, vb, W⟩ := H.wi
  exact ⟨H.mm.below hb, ⟨vp, vo, vg, vb, W.keep hb.size fun k hk => hb.block k (W.lt k hk)⟩, H.df, H.dd, H.tb⟩
theorem WAt.glt (H : WAt w q h m S F K D ptrs R G) : ∀ k, G k → k < w.heap.size := by obtain ⟨_, _, _, _, W⟩ := H.wi; exact W.lt
theorem WAt.marks (H : WAt w q h m S F K D ptrs R G) (M : MAt w' m h S F K' D') (s : Step D w w' D') : WAt w' q h m S F K' D' ptrs R G := by
  obtain ⟨vp, vo, vg, vb, W⟩ := H.wi
  exact ⟨M, ⟨vp, vo, vg, vb, W.keep s.frame.size fun k hk => s.frame.block k (W.lt k hk) (H.dd k hk)⟩, H.df, fun k hk hD => (s.sub k hD).elim (H.dd k hk) fun e => by have := W.lt k hk; omega, H.tb⟩
theorem WAt.heap (H : WAt w q h m S F K D ptrs R G) (P : HpAt w' h S' F') (s : Step F w w' F') : WAt w' q h m S' F' K D ptrs R G := by
  obtain ⟨vp, vo, vg, vb, W⟩ := H.wi
  exact ⟨H.mm.heap P s, ⟨vp, vo, vg, vb, W.keep s.frame.size fun k hk => s.frame.block k (W.lt k hk) (H.df k hk)⟩, fun k hk hF => (s.sub k hF).elim (H.df k hk) fun e => by have := W.lt k hk; omega, H.dd, H.tb⟩
/-- The world's own blocks alone have changed, and new ones came. -/
theorem WAt.own (H : WAt w q h m S F K D ptrs R G) (W : WIn w' q h m ptrs R' G' vp vo vg vb) (s : Step G w w' G') : WAt w' q h m S F K D ptrs R' G' :=
  ⟨H.mm.keep s.frame.size fun k hlt hk => s.frame.block k hlt fun hG => hk.elim (H.df k hG) fun h => h.elim (H.dd k hG) fun e => H.tb (e ▸ hG), ⟨vp, vo, vg, vb, W⟩,
    fun k hk hF => (s.sub k hk).elim (fun h => H.df k h hF) fun e => by have := H.mm.hp.lt k hF; omega, fun k hk hD => (s.sub k hk).elim (fun h => H.dd k h hD) fun e => by have := H.mm.dlt k hD; omega,
    fun ht => (s.sub _ ht).elim H.tb fun e => by have := H.mm.hp.tab.lt; omega⟩
end
/-! The plain world: n objects of four pointers. -/
def ptrI (b : Int) : Int := if b = 0 then 0 else 4 * b - 3
def ptrsN (n : Nat) : List Int := (List.range n).map fun (i : Nat) => 4 * (i : Int) + 1
def objAt (objs : List (List Int)) (i k : Nat) : Int := (objs.getD i []).getD k 0
def setObj (objs : List (List Int)) (i k : Nat) (b : Int) : List (List Int) := objs.set i ((objs.getD i []).set k b)
structure Cw (n : Nat) (S : HS) (objs : List (List Int)) : Prop where
  n11 : n ≤ 11
  inv : Inv S
  obj : S.objs = (List.range n).map fun (i : Nat) => (4 * (i : Int) + 1, 4, 15)
  ol : objs.length = n
  four : ∀ i, i < n → (objs.getD i []).length = 4
  bd : ∀ i k, i < n → k < 4 → 0 ≤ objAt objs i k ∧ objAt objs i k ≤ n
  wd : ∀ i k : Nat, i < n → k < 4 → S.words.getD (4 * i + 1 + k) 0 = ptrI (objAt objs i k)
section
variable {n : Nat} {S : HS} {objs : List (List Int)}
theorem ptrs_len (n : Nat) : (ptrsN n).length = n := by simp [ptrsN]
theorem ptrs_at {n i : Nat} (h : i < (ptrsN n).length) : (ptrsN n)[i] = 4 * (i : Int) + 1 := by simp [ptrsN]
theorem Cw.mem (C : Cw n S objs) {i : Nat} (hi : i < n) : (4 * (i : Int) + 1, 4, 15) ∈ S.objs := by
  rw [C.obj]
  exact List.mem_map.2 ⟨i, List.mem_range.2 hi, rfl⟩
theorem objAt_set (objs : List (List Int)) {a k : Nat} (b : Int) (ha : a < objs.length) (hk : k < (objs.getD a []).length) (i j : Nat) : objAt (setObj objs a k b) i j = if i = a ∧ j = k then b else objAt objs i j := by
  unfold objAt setObj
  by_cases hi : i = a
  · subst hi
    simp only [List.getD, List.getElem?_set_self ha, Option.getD_some]
    by_cases hj : j = k
    · subst hj
      rw [List.getElem?_set_self (by simpa [List.getD] using hk)]
      simp
    · rw [List.getElem?_set_ne (Ne.symm hj)]
      simp [hj]
  · simp only [List.getD, List.getElem?_set_ne (Ne.symm hi)]
    simp [hi]
theorem Cw.store (C : Cw n S objs) {a k : Nat} (ha : a < n) (hk : k < 4) {b : Int} (hb : 0 ≤ b ∧ b ≤ n) : sThere S (4 * (a : Int) + 1) k = 0 ∧ Cw n (sStore S (4 * (a : Int) + 1) k (ptrI b)) (setObj objs a k b) := by
  have h0 : sThere S (4 * (a : Int) + 1) k = 0 := C.inv.there_in (C.mem ha) (by omega) (by show (k : Int) < 4; omega)
  have hpb : -9223372036854775808 ≤ ptrI b ∧ ptrI b ≤ 9223372036854775807 := by
    have := C.n11
    unfold ptrI
    split <;> omega
  refine ⟨h0, C.n11, store_inv C.inv _ _ hpb, ?_, ?_, fun i hi => ?_, fun i j hi hj => ?_, fun i j hi hj => ?_⟩
  · unfold sStore
    rw [if_pos h0]
    exact C.obj
  · unfold setObj
    rw [List.length_set]
    exact C.ol
  · unfold setObj
    by_cases e : i = a
    · subst e
      simp only [List.getD, List.getElem?_set_self (show i < objs.length by rw [C.ol]; exact hi), Option.getD_some, List.length_set]
      exact C.four i hi
    · simp only [List.getD, List.getElem?_set_ne (Ne.symm e)]
      exact C.four i hi
  · rw [objAt_set objs b (by rw [C.ol]; exact ha) (by rw [C.four a ha]; exact hk)]
    split
    · exact hb
    · exact C.bd i j hi hj
  · rw [objAt_set objs b (by rw [C.ol]; exact ha) (by rw [C.four a ha]; exact hk)]
    have hwl : 4 * a + 1 + k < S.words.length := by
      have h := C.inv.word_in (C.mem ha) (f := (k : Int)) (by omega) (by show (k : Int) < 4; omega)
      have h2 := h.2.1
      dsimp only at h2
      omega
    unfold sStore
    rw [if_pos h0]
    show (S.words.set (4 * (a : Int) + 1 + (k : Int)).toNat (ptrI b)).getD (4 * i + 1 + j) 0 = _
    have e1 : (4 * (a : Int) + 1 + (k : Int)).toNat = 4 * a + 1 + k := by omega
    rw [e1]
    by_cases e : i = a ∧ j = k
    · obtain ⟨rfl, rfl⟩ := e
      rw [if_pos ⟨rfl, rfl⟩]
      simp only [List.getD, List.getElem?_set_self hwl, Option.getD_some]
    · rw [if_neg e]
      simp only [List.getD, List.getElem?_set_ne (show 4 * a + 1 + k ≠ 4 * i + 1 + j by omega)]
      exact C.wd i j hi hj
end
/-- What must stay: the blocks of a base, and others that lie as in wq. -/
structure W0 where
  base : World
  Q : Nat → Prop
  wq : World
def W0.free (w0 : W0) (k : Nat) : Prop := w0.base.heap.size ≤ k ∧ ¬ w0.Q k
abbrev ofW (w : World) : W0 := ⟨w, fun _ => False, w⟩
structure Fen (w0 : W0) (w : World) : Prop where
  b : Below w0.base.heap.size w0.base w
  kept : ∀ k, w0.Q k → k < w.heap.size ∧ w.heap[k]? = w0.wq.heap[k]?
theorem Fen.new {w0 : W0} {w : World} (H : Fen w0 w) {k : Nat} (h : w.heap.size ≤ k) : w0.free k := ⟨Nat.le_trans H.b.size h, fun hq => by have := (H.kept k hq).1; omega⟩
theorem Fen.below {w0 : W0} {w w' : World} (H : Fen w0 w) (hb : Below w.heap.size w w') : Fen w0 w' :=
  ⟨H.b.trans (hb.mono H.b.size), fun k hk => ⟨Nat.lt_of_lt_of_le (H.kept k hk).1 hb.size, (hb.block k (H.kept k hk).1).trans (H.kept k hk).2⟩⟩
theorem Fen.step {w0 : W0} {w w' : World} {D D' : Nat → Prop} (H : Fen w0 w) (s : Step D w w' D') (hD : ∀ k, D k → w0.free k) : Fen w0 w' :=
  ⟨H.b.trans (s.below (fun k hk => (hD k hk).1) H.b.size), fun k hk => ⟨Nat.lt_of_lt_of_le (H.kept k hk).1 s.frame.size, (s.frame.block k (H.kept k hk).1 fun h => (hD k h).2 hk).trans (H.kept k hk).2⟩⟩
/-- The blocks that came since w, as they lie in w1, are kept too. -/
def W0.guard (w0 : W0) (w w1 : World) : W0 := ⟨w0.base, fun k => w0.Q k ∨ (w.heap.size ≤ k ∧ k < w1.heap.size), w1⟩
theorem Fen.guard {w0 : W0} {w w1 : World} (H : Fen w0 w) (hb : Below w.heap.size w w1) : Fen (w0.guard w w1) w1 :=
  ⟨(H.below hb).b, fun k hk => ⟨hk.elim (fun h => ((H.below hb).kept k h).1) (·.2), rfl⟩⟩
theorem Fen.unguard {w0 : W0} {w w1 w2 : World} (H : Fen w0 w) (hb : Below w.heap.size w w1) (H2 : Fen (w0.guard w w1) w2) : Fen w0 w2 :=
  ⟨H2.b, fun k hk => ⟨(H2.kept k (.inl hk)).1, (H2.kept k (.inl hk)).2.trans ((H.below hb).kept k hk).2⟩⟩
/-- The law's world, its footprints behind a fence. -/
def LW (w0 : W0) (w : World) (q h m n : Nat) (S : HS) (K : MK) (R : RM) : Prop :=
  ∃ F D G, WAt w q h m S F K D (ptrsN n) R G ∧ (∀ k, F k ∨ D k ∨ G k → w0.free k) ∧ Fen w0 w ∧ Cw n S R.objs
theorem LW.c {w0 : W0} {w : World} {q h m n : Nat} {S : HS} {K : MK} {R : RM} (H : LW w0 w q h m n S K R) : Cw n S R.objs := by obtain ⟨_, _, _, _, _, _, C⟩ := H; exact C
theorem LW.b {w0 : W0} {w : World} {q h m n : Nat} {S : HS} {K : MK} {R : RM} (H : LW w0 w q h m n S K R) : Below w0.base.heap.size w0.base w := by obtain ⟨_, _, _, _, _, b, _⟩ := H; exact b.b
theorem LW.gi {w0 : W0} {w : World} {q h m n : Nat} {S : HS} {K : MK} {R : RM} (H : LW w0 w q h m n S K R) : GInv K := by obtain ⟨_, _, _, W, _⟩ := H; exact W.mm.gi
theorem LW.below {w0 : W0} {w w' : World} {q h m n : Nat} {S : HS} {K : MK} {R : RM} (H : LW w0 w q h m n S K R) (hb : Below w.heap.size w w') : LW w0 w' q h m n S K R := by
  obtain ⟨F, D, G, W, hF, b, C⟩ := H
  exact ⟨F, D, G, W.below hb, hF, b.below hb, C⟩
theorem LW.cells {w0 : W0} {w : World} {q h m n : Nat} {S : HS} {K : MK} {R : RM} (H : LW w0 w q h m n S K R) : w.cell? ⟨q, 0, none⟩ = some (.pointer (some ⟨h, 0, none⟩)) ∧ w.cell? ⟨q, 1, none⟩ = some (.pointer (some ⟨m, 0, none⟩)) ∧ q < w.heap.size ∧ w0.base.heap.size ≤ q := by
  obtain ⟨F, D, G, W, hF, b, C⟩ := H
  obtain ⟨vp, vo, vg, vb, I⟩ := W.wi
  exact ⟨I.blk.cell 0, I.blk.cell 1, I.blk.lt, (hF q (.inr (.inr I.gq))).1⟩
/-- What came since w is kept from now on. -/
theorem LW.guard {w0 : W0} {w w' : World} {q h m n : Nat} {S : HS} {K : MK} {R : RM} (H : LW w0 w q h m n S K R) (hb : Below w.heap.size w w') : LW (w0.guard w w') w' q h m n S K R := by
  obtain ⟨F, D, G, W, hF, b, C⟩ := H
  refine ⟨F, D, G, W.below hb, fun k hk => ⟨(hF k hk).1, fun hq => hq.elim (hF k hk).2 fun h => ?_⟩, b.guard hb, C⟩
  have := h.1
  rcases hk with h | h | h
  · have := W.mm.hp.lt k h; omega
  · have := W.mm.dlt k h; omega
  · have := W.glt k h; omega
theorem LW.unguard {w0 : W0} {w w1 w' : World} {q h m n q' h' m' n' : Nat} {S S' : HS} {K K' : MK} {R R' : RM} (H0 : LW w0 w q h m n S K R) (hb : Below w.heap.size w w1) (H : LW (w0.guard w w1) w' q' h' m' n' S' K' R') : LW w0 w' q' h' m' n' S' K' R' := by
  obtain ⟨F0, D0, G0, W0', hF0, b0, C0⟩ := H0
  obtain ⟨F, D, G, W, hF, b, C⟩ := H
  exact ⟨F, D, G, W, fun k hk => ⟨(hF k hk).1, fun hq => (hF k hk).2 (.inl hq)⟩, b0.unguard hb b, C⟩
/-- What is kept lies as it lay. -/
theorem LW.keeps {w0 : W0} {w w1 w' : World} {q h m n : Nat} {S : HS} {K : MK} {R : RM} (H : LW (w0.guard w w1) w' q h m n S K R) {k : Nat} (h0 : w.heap.size ≤ k) (h1 : k < w1.heap.size) : w'.heap[k]? = w1.heap[k]? := by
  obtain ⟨F, D, G, W, hF, b, C⟩ := H
  exact (b.kept k (.inr ⟨h0, h1⟩)).2
theorem LW.keepsQ {w0 : W0} {w : World} {q h m n : Nat} {S : HS} {K : MK} {R : RM} (H : LW w0 w q h m n S K R) {k : Nat} (h0 : w0.Q k) : w.heap[k]? = w0.wq.heap[k]? := by
  obtain ⟨F, D, G, W, hF, b, C⟩ := H
  exact (b.kept k h0).2
/-- Behind a step of the marks. -/
theorem LW.marks {w0 : W0} {w w' : World} {q h m n : Nat} {S : HS} {K K' : MK} {R : RM} {F D D' G : Nat → Prop} (W : WAt w q h m S F K D (ptrsN n) R G) (hF : ∀ k, F k ∨ D k ∨ G k → w0.free k) (b : Fen w0 w) (C : Cw n S R.objs) (M : MAt w' m h S F K' D') (s : Step D w w' D') : LW w0 w' q h m n S K' R :=
  ⟨F, D', G, W.marks M s, fun k hk => by
    rcases hk with h | h | h
    · exact hF k (.inl h)
    · rcases s.sub k h with h | h
      · exact hF k (.inr (.inl h))
      · exact b.new h
    · exact hF k (.inr (.inr h)), b.step s (fun k hk => hF k (.inr (.inl hk))), C⟩
section
variable {w0 : W0} {w : World} {q h m n : Nat} {S : HS} {K : MK} {R : RM} (H : LW w0 w q h m n S K R)
include H
theorem lstep : Calls Tryd.prog 18 #[.pointer (some ⟨m, 0, none⟩)] w fun e w' => e = .returned (.tuple #[.bool (mStep S K).1.1, .int .i64 (mStep S K).1.2]) ∧ LW w0 w' q h m n S (mStep S K).2 R := by
  obtain ⟨F, D, G, W, hF, b, C⟩ := H
  refine (step_m m h S F K D w W.mm).mono ?_
  rintro e w' ⟨rfl, D', M, s⟩
  exact ⟨rfl, LW.marks W hF b C M s⟩
theorem lshade (p : Int) (hp0 : -9223372036854775808 ≤ p) (hp : p ≤ 9223372036854775807) : Calls Tryd.prog 19 #[.pointer (some ⟨m, 0, none⟩), .int .i64 p] w fun e w' => e = .returned (.int .i64 (mKnown S K p).2) ∧ LW w0 w' q h m n S (mShade S K p) R := by
  obtain ⟨F, D, G, W, hF, b, C⟩ := H
  refine (shade_m m h S F K D w W.mm p hp0 hp).mono ?_
  rintro e w' ⟨rfl, D', M, s⟩
  exact ⟨rfl, LW.marks W hF b C M s⟩
theorem lmade (p : Int) (hp0 : -9223372036854775808 ≤ p) (hp : p ≤ 9223372036854775807) : Calls Tryd.prog 22 #[.pointer (some ⟨m, 0, none⟩), .int .i64 p] w fun e w' => e = .returned (.int .i64 (mKnown S K p).2) ∧ LW w0 w' q h m n S (mMade S K p) R := by
  obtain ⟨F, D, G, W, hF, b, C⟩ := H
  refine (made_m m h S F K D w W.mm p hp0 hp).mono ?_
  rintro e w' ⟨rfl, D', M, s⟩
  exact ⟨rfl, LW.marks W hF b C M s⟩
theorem lcolor (p : Int) (hp0 : -9223372036854775808 ≤ p) (hp : p ≤ 9223372036854775807) : Calls Tryd.prog 21 #[.pointer (some ⟨m, 0, none⟩), .int .i64 p] w fun e w' => e = .returned (.int .i64 (mColor K p)) ∧ w = w' := by
  obtain ⟨F, D, G, W, hF, b, C⟩ := H
  exact color_m m h S F K D w W.mm p hp0 hp
theorem lend_on (ho : K.on = true) : Calls Tryd.prog 16 #[.pointer (some ⟨m, 0, none⟩)] w fun e w' => ∃ v, e = .returned (.tuple #[v, .int .i64 0]) ∧ w'.ownsRow w.heap.size 3 1 v (keepP K.seen (sAll S)).length ((keepP K.seen (sAll S)).map i64e) ∧ LW w0 w' q h m n S (mOff K) R := by
  obtain ⟨F, D, G, W, hF, b, C⟩ := H
  refine (end_on m h S F K D w W.mm ho).mono ?_
  rintro e w' ⟨v, rfl, hown, M, s⟩
  exact ⟨v, rfl, hown, LW.marks W hF b C M s⟩
end
section
variable (q h m n : Nat) (S : HS) (F : Nat → Prop) (K : MK) (D : Nat → Prop) (R : RM) (G : Nat → Prop) (w : World) (H : WAt w q h m S F K D (ptrsN n) R G)
include H
theorem ptr_w (b : Int) (hb : 0 ≤ b ∧ b ≤ n) (hn : n ≤ 1000) : Calls Tryd.prog 20 #[.pointer (some ⟨q, 0, none⟩), .int .i64 b] w fun e w' => e = .returned (.int .i64 (ptrI b)) ∧ w = w' := by
  obtain ⟨vp, vo, vg, vb, W⟩ := H.wi
  unfold ptrI
  by_cases h0 : b = 0
  · subst h0
    simp only [if_true]
    go_enter Tryd.func20, Tryd.ntmps20
    go_wp2_with fail
    go_ret
    exact ⟨rfl, rfl⟩
  · obtain ⟨k, rfl⟩ : ∃ k : Nat, b = (k : Int) + 1 := ⟨(b - 1).toNat, by omega⟩
    rw [if_neg h0]
    have hpr := W.pr.rd
    obtain ⟨A, c, rfl, -⟩ := hpr.len
    have hk : k < (ptrsN n).length := by rw [ptrs_len]; omega
    obtain ⟨b, o, rfl, _, hc⟩ := hpr.at_ hk
    rw [ptrs_at hk] at hc
    have c2 : w.cell? ⟨q, 2, none⟩ = some (.slice (some ⟨b, o, none⟩) n c) := by rw [← ptrs_len n]; exact W.blk.cell 2
    have hkn : (k : Int) < (n : Int) := by omega
    have hz : ((k : Int) + 1 == 0) = false := by rw [beq_eq_false_iff_ne]; omega
    have hi : -9223372036854775808 ≤ (k : Int) ∧ (k : Int) + 1 ≤ 1001 := by omega
    have hr : (4 * ((k : Int) + 1) - 3) = 4 * (k : Int) + 1 := by omega
    rw [hr]
    clear W H hpr hk hr
    go_enter Tryd.func20, Tryd.ntmps20
    go_wp2_with fail
    go_ret
    exact ⟨rfl, rfl⟩
end
theorem lptr {w0 : W0} {w : World} {q h m n : Nat} {S : HS} {K : MK} {R : RM} (H : LW w0 w q h m n S K R) (b : Int) (hb : 0 ≤ b ∧ b ≤ n) : Calls Tryd.prog 20 #[.pointer (some ⟨q, 0, none⟩), .int .i64 b] w fun e w' => e = .returned (.int .i64 (ptrI b)) ∧ w = w' := by
  obtain ⟨F, D, G, W, hF, b', C⟩ := H
  exact ptr_w q h m n S F K D R G w W b hb (by have := C.n11; omega)
end Go.Proofs.YtnoiepmapmcjdaaDoor
namespace Go.Proofs.YtnoiepmapmcjdaaDoor
open Go.RowKit Go.Shelf
theorem slice_info : (Tryd.prog.info? 34).map (fun i => (i.zero, i.size, i.bytes)) = some (some (.slice none 0 0), 1, 24) := by kernel_rfl
theorem ptrI_bd {n : Nat} (hn : n ≤ 11) {b : Int} (hb : 0 ≤ b ∧ b ≤ n) : 0 ≤ ptrI b ∧ ptrI b ≤ 41 := by
  unfold ptrI
  split <;> omega
set_option maxHeartbeats 3200000 in
set_option maxRecDepth 100000 in
theorem set_w0 (q k b : Int) (w : World) : Calls Tryd.prog 12 #[.pointer (some ⟨q.toNat, 0, none⟩), .int .i64 0, .int .i64 k, .int .i64 b] w fun e w' => e = .returned (.bool true) ∧ w = w' := by
  go_enter Tryd.func12, Tryd.ntmps12
  go_wp2_with fail
  go_ret
  exact ⟨rfl, rfl⟩
set_option maxHeartbeats 3200000 in
set_option maxRecDepth 100000 in
theorem set_w (w0 : W0) (q h m n : Nat) (S : HS) (K : MK) (R : RM) (w : World) (H : LW w0 w q h m n S K R) (a k : Nat) (b : Int) (ha : a < n) (hk : k < 4) (hb : 0 ≤ b ∧ b ≤ n) :
    Calls Tryd.prog 12 #[.pointer (some ⟨q, 0, none⟩), .int .i64 ((a : Int) + 1), .int .i64 (k : Int), .int .i64 b] w fun e w' => e = .returned (.bool true) ∧ LW w0 w' q h m n (sStore S (4 * (a : Int) + 1) k (ptrI b)) K { R with objs := setObj R.objs a k b } := by
  obtain ⟨F, D, G, H, hF, b0, C⟩ := H
  have hn := C.n11
  have hpb := ptrI_bd hn hb
  obtain ⟨hth, C'⟩ := C.store ha hk hb
  obtain ⟨vp, vo, vg, vb, W⟩ := H.wi
  have hql := W.blk.lt
  obtain ⟨us, u1, u2, u3⟩ := W.ob
  have hol := C.ol
  have hul : us.length = n := by rw [u1, hol]
  have u2' := u2.rd
  obtain ⟨Ao, co, rfl, -⟩ := u2'.len
  have hau : a < us.length := by omega
  have hao : a < R.objs.length := by omega
  obtain ⟨bo, oo, rfl, _, hco⟩ := u2'.at_ hau
  have u3a := (u3 a hau hao).rd
  have e4 : (R.objs[a]).length = 4 := by have := C.four a ha; rwa [show R.objs.getD a [] = R.objs[a] by simp [List.getD, hao]] at this
  obtain ⟨Al, cl, hus, -⟩ := u3a.len
  rw [hus] at hco u3a
  have c3 : w.cell? ⟨q, 3, none⟩ = some (.slice (some ⟨bo, oo, none⟩) n co) := by rw [← hul]; exact W.blk.cell 3
  have han : (a : Int) < (n : Int) := by omega
  have hz : ((a : Int) + 1 == 0) = false := by rw [beq_eq_false_iff_ne]; omega
  have hi : (0 : Int) ≤ (a : Int) ∧ (a : Int) + 1 ≤ 11 := by omega
  have hk4 : (k : Int) < 4 := by omega
  obtain ⟨xs, hxs⟩ : ∃ xs, xs = R.objs[a] := ⟨_, rfl⟩
  rw [← hxs] at u3a e4 hco hus
  have hkl : (k : Int) < (xs.length : Int) := by omega
  have hxl : xs.length ≤ 100 := by omega
  replace e4 := Lib.hid e4
  replace hco : w.cell? ⟨bo, oo + a, none⟩ = some (.slice Al xs.length cl) := hco
  replace hus := Lib.hid hus
  replace u1 := Lib.hid u1
  replace hul := Lib.hid hul
  replace u3 := Lib.hid u3
  replace u2 := Lib.hid u2
  replace H := Lib.hid H
  replace hF := Lib.hid hF
  replace b0 := Lib.hid b0
  replace W := Lib.hid W
  replace C := Lib.hid C
  replace C' := Lib.hid C'
  replace hxs := Lib.hid hxs
  replace hth := Lib.hid hth
  go_enter Tryd.func12, Tryd.ntmps12
  go_wp2_with (at_builtin; refine wpList_append_all rfl (.const (.slice none 0 0)) (.tmp 21) _ rfl w.heap.size 3 _ 8 Tryd.underlying34 int_info rfl _ 0 [] rfl (World.ownsRow_nil _ _ _ _) i64e _ xs (fun _ => rfl) rfl u3a (by unfold maxLen; omega) (by omega) (Nat.le_refl _) ?_; intro v1 w1 hown hg hat; refine stop_here ?_)
  rw [Nat.zero_add, List.nil_append] at hown
  have hb1 : Below w.heap.size w w1 := (Below.refl _ w).grown hg (Nat.le_refl _) (fun k e => by cases e)
  obtain ⟨A1, c1, rfl, -⟩ := own_form hown
  obtain ⟨g1, rfl, hg1, hg1l⟩ := own_addr hown (by omega)
  have hc1 := hown.cellAt k (by omega)
  replace hc1 : w1.cell? ⟨g1, k, none⟩ = some (.int .i64 (xs[k]'(by omega))) := by rw [hc1]; simp [List.getElem?_eq_getElem (show k < xs.length by omega)]
  have hf1 := hown.frozenAt k
  obtain ⟨hown2, hg2⟩ := hown.stored k (.int .i64 b)
  rw [show (xs.map i64e).set k (.int .i64 b) = (xs.set k b).map i64e by rw [List.map_set]] at hown2
  have hb2 : Below w.heap.size w (w1.setCell ⟨g1, k, none⟩ (.int .i64 b)) := hb1.grown hg2 hb1.size (fun k e => by cases e; exact hg1)
  obtain ⟨w2, hw2⟩ : ∃ w2, w2 = w1.setCell ⟨g1, k, none⟩ (.int .i64 b) := ⟨_, rfl⟩
  have c3' : (w1.setCell ⟨g1, k, none⟩ (.int .i64 b)).cell? ⟨q, 3, none⟩ = some (.slice (some ⟨bo, oo, none⟩) n co) := (World.cell?_of_block (hb2.block q hql)).trans c3
  have c31 : w1.cell? ⟨q, 3, none⟩ = some (.slice (some ⟨bo, oo, none⟩) n co) := (World.cell?_of_block (hb1.block q hql)).trans c3
  have u2n := u2.out.rd.below hb2
  rw [hul.out] at u2n
  rw [← hw2] at c3' hown2 hb2 u2n
  replace hw2 := Lib.hid hw2
  replace hown2 := Lib.hid hown2
  replace hb2 := Lib.hid hb2
  replace u2n := Lib.hid u2n
  clear hown hg hat hg2 hb1
  refine go_on ?_
  go_wp2_with (first
    | (at_builtin; rw [← hw2.out]; refine wpList_append_all rfl (.const (.slice none 0 0)) (.tmp 31) _ rfl w2.heap.size 34 _ 24 Tryd.underlying35 slice_info rfl _ 0 [] rfl (World.ownsRow_nil _ _ _ _) slE _ us (fun _ => rfl) (by simp only [Act.eval, Act.put]; rfl) (by exact u2n.out) (by unfold maxLen; rw [hul.out]; omega) (by rw [hul.out]; omega) (Nat.le_refl _) ?_; intro v3 w3 hown hg hat; refine stop_here ?_))
  rw [Nat.zero_add, List.nil_append, hul.out] at hown
  have hb3 : Below w2.heap.size w2 w3 := (Below.refl _ w2).grown hg (Nat.le_refl _) (fun k e => by cases e)
  obtain ⟨A3, cc3, rfl, -⟩ := own_form hown
  obtain ⟨g3, rfl, hg3, hg3l⟩ := own_addr hown (by omega)
  have hca := hown.cellAt a (by omega)
  obtain ⟨ua, hua⟩ : ∃ ua, (us.map slE)[a]? = some ua := ⟨slE us[a], by simp [hau]⟩
  rw [hua] at hca
  have hfa := hown.frozenAt a
  obtain ⟨hown4, hg4⟩ := hown.stored a (.slice (some ⟨g1, 0, none⟩) xs.length c1)
  rw [show (us.map slE).set a (.slice (some ⟨g1, 0, none⟩) xs.length c1) = (us.set a (some ⟨g1, 0, none⟩, xs.length, c1)).map slE by rw [List.map_set]] at hown4
  have hb4 : Below w2.heap.size w2 (w3.setCell ⟨g3, a, none⟩ (.slice (some ⟨g1, 0, none⟩) xs.length c1)) := hb3.grown hg4 hb3.size (fun k e => by cases e; exact hg3)
  have hq2 : q < w2.heap.size := by have := hb2.out.size; omega
  have c33 : w3.cell? ⟨q, 3, none⟩ = some (.slice (some ⟨bo, oo, none⟩) n co) := (World.cell?_of_block (hb3.block q hq2)).trans c3'
  have f33 : w3.frozen? ⟨q, 3, none⟩ = false := (((W.out.blk.below hb2.out hql).below hb3 hq2)).frozen 3
  have hB4 : Blk (w3.setCell ⟨g3, a, none⟩ (.slice (some ⟨g1, 0, none⟩) xs.length c1)) q 39 (wcells h m vp (.slice (some ⟨bo, oo, none⟩) us.length co) R.on vg vb) := (W.out.blk.below hb2.out hql).below hb4 hq2
  obtain ⟨w4, hw4⟩ : ∃ w4, w4 = w3.setCell ⟨g3, a, none⟩ (.slice (some ⟨g1, 0, none⟩) xs.length c1) := ⟨_, rfl⟩
  rw [← hw4] at hown4 hb4 hB4
  obtain ⟨w5, hw5⟩ : ∃ w5, w5 = w4.setCell ⟨q, 3, none⟩ (.slice (some ⟨g3, 0, none⟩) n cc3) := ⟨_, rfl⟩
  have hb24 : Below w.heap.size w w4 := hb2.out.trans (hb4.mono hb2.out.size)
  have ho5 : ∀ j, j ≠ q → w5.heap[j]? = w4.heap[j]? := fun j hj => by rw [hw5]; exact setCell_other w4 q 3 _ hj
  have hz5 : w5.heap.size = w4.heap.size := by rw [hw5, setCell_size]
  have hg1q : g1 ≠ q := by omega
  have hg3q : g3 ≠ q := by omega
  have hs2 := hb2.out.size
  have hs4 := hb4.size
  have h14 : g1 < w2.heap.size := (hown2.out.lt g1 rfl).2
  have h34 : g3 < w4.heap.size := (hown4.lt g3 rfl).2
  have key : ∀ j, j < w.heap.size → j ≠ q → w5.heap[j]? = w.heap[j]? := fun j hj hne => (ho5 j hne).trans (hb24.block j hj)
  have W5 : WIn w5 q h m (ptrsN n) { R with objs := setObj R.objs a k b } (fun j => G j ∨ (w.heap.size ≤ j ∧ j < w4.heap.size)) vp (.slice (some ⟨g3, 0, none⟩) n cc3) vg vb := by
    have Wi := W.out
    have kp : ∀ (j : Nat), (G j ∧ j ≠ q) → j < w.heap.size → w5.heap[j]? = w.heap[j]? := fun j hj hlt => key j hlt hj.2
    have hle : w.heap.size ≤ w5.heap.size := by omega
    have inc : ∀ j, (G j ∧ j ≠ q) → (G j ∨ (w.heap.size ≤ j ∧ j < w4.heap.size)) ∧ j ≠ q := fun j hj => ⟨.inl hj.1, hj.2⟩
    refine ⟨?_, (Wi.pr.keep hle kp).mono inc, ?_, (Wi.gr.keep hle kp).mono inc, (Wi.bl.keep hle kp).mono inc, .inl Wi.gq, fun j hj => ?_⟩
    · rw [hw5]; exact hB4.set_ 3 _
    · refine ⟨us.set a (some ⟨g1, 0, none⟩, xs.length, c1), by simp [setObj, u1.out], ⟨?_, fun _ j e => ?_⟩, fun i i1 i2 => ?_⟩
      · have hr := Rd.of_own (enc := slE) (xs := us.set a (some ⟨g1, 0, none⟩, xs.length, c1)) (w := w4) (v := .slice (some ⟨g3, 0, none⟩) n cc3) (by rw [List.length_set, hul.out]; exact hown4)
        exact hr.keep (by omega) fun _ j e _ => ho5 j (fun e2 => hg3q (by cases e; exact e2))
      · obtain rfl : g3 = j := by simpa [Value.ownBlock] using e
        exact ⟨.inr ⟨by omega, h34⟩, hg3q⟩
      · have i1' : i < us.length := by simpa using i1
        have i3 : i < R.objs.length := by simpa [setObj] using i2
        by_cases ei : i = a
        · subst ei
          have e1 : (us.set i (some ⟨g1, 0, none⟩, xs.length, c1))[i]'i1 = (some ⟨g1, 0, none⟩, xs.length, c1) := List.getElem_set_self _
          have e2 : (setObj R.objs i k b)[i]'i2 = xs.set k b := by
            have := hxs.out
            unfold setObj
            simp [this, List.getD, i3]
          rw [e1, e2]
          refine ⟨?_, fun _ j e => ?_⟩
          · have hr := Rd.of_own (enc := i64e) (xs := xs.set k b) (w := w2) (v := .slice (some ⟨g1, 0, none⟩) xs.length c1) (by rw [List.length_set]; exact hown2.out)
            exact (hr.below hb4).keep (by omega) fun _ j e _ => ho5 j (fun e2 => hg1q (by cases e; exact e2))
          · obtain rfl : g1 = j := by simpa [Value.ownBlock] using e
            exact ⟨.inr ⟨by omega, by omega⟩, hg1q⟩
        · have e1 : (us.set a (some ⟨g1, 0, none⟩, xs.length, c1))[i]'i1 = us[i] := List.getElem_set_ne (Ne.symm ei) _
          have e2 : (setObj R.objs a k b)[i]'i2 = R.objs[i] := by
            show (R.objs.set a _)[i]'_ = _
            exact List.getElem_set_ne (Ne.symm ei) _
          rw [e1, e2]
          exact ((u3.out i i1' i3).keep hle kp).mono inc
    · rcases hj with hj | hj
      · have := Wi.lt j hj; omega
      · omega
  have s5 : Step G w w5 (fun j => G j ∨ (w.heap.size ≤ j ∧ j < w4.heap.size)) := by
    have e5 : w5.os = w4.os ∧ w5.tape = w4.tape ∧ w5.output = w4.output := by rw [hw5]; exact ⟨rfl, rfl, rfl⟩
    refine ⟨⟨e5.1.trans hb24.os, e5.2.1.trans hb24.tape, e5.2.2.trans hb24.output, by omega, fun j hj hn => key j hj (fun e => hn (by rw [e]; exact W.out.gq))⟩, fun j hj => hj.elim .inl fun e => .inr e.1⟩
  have H5 := H.out.own W5 s5
  have c05 : w5.cell? ⟨q, 0, none⟩ = some (.pointer (some ⟨h, 0, none⟩)) := W5.blk.cell 0
  have b5 : Fen w0 w5 := b0.out.step s5 (fun j hj => hF.out j (.inr (.inr hj)))
  have hF5 : Hid (∀ j, F j ∨ D j ∨ (G j ∨ (w.heap.size ≤ j ∧ j < w4.heap.size)) → w0.free j) := Lib.hid fun j hj => by
    rcases hj with h | h | h | h
    · exact hF.out j (.inl h)
    · exact hF.out j (.inr (.inl h))
    · exact hF.out j (.inr (.inr h))
    · exact b0.out.new h.1
  have hq5 := W5.blk.lt
  replace H5 := Lib.hid H5
  replace b5 := Lib.hid b5
  replace hw4 := Lib.hid hw4
  replace hw5 := Lib.hid hw5
  clear W5 s5 key hown hg hat hg4 hown4 hb4 hb3 hB4 hb24 ho5 hua hs2 hs4 h14 h34
  refine go_on ?_
  go_wp2_with fail
  rw [← hw4.out, ← hw5.out]
  have hdb : Below w5.heap.size w5 w5.drew := (Below.refl _ _).drew
  have hpa : ptrI ((a : Int) + 1) = 4 * (a : Int) + 1 := by unfold ptrI; rw [if_neg (by omega)]; omega
  have HP1 := ptr_w q h m n S F K D _ _ w5.drew (H5.out.below hdb) ((a : Int) + 1) (by omega) (by omega)
  rw [hpa] at HP1
  replace HP1 := Lib.hid HP1
  have HP2 := Lib.hid (ptr_w q h m n S F K D _ _ w5.drew (H5.out.below hdb) b hb (by omega))
  have HS := Lib.hid (store_r hth.out (H5.out.below hdb).mm.hp (show -9223372036854775808 ≤ 4 * (a : Int) + 1 by omega) (by omega) (show -9223372036854775808 ≤ ptrI b ∧ ptrI b ≤ 9223372036854775807 by omega))
  clear hpa
  have hS0 : (fun X : World => Below w5.heap.size w5 X) w5.drew := (Below.refl _ _).drew
  refine wp_T (by kernel_rfl) 11 (fun X : World => Below w5.heap.size w5 X) ?_
  refine wpAnyT_takeW (i := 0) (v := .pointer (some ⟨q, 0, none⟩)) rfl (by kernel_rfl) (fun _ _ _ hp => hp) (Or.inl ⟨by rfl, fun X _ => by go_simp⟩) hS0 ?_
  simp only [Act.put, List.setIfInBounds_toArray, List.set_cons_zero, List.set_cons_succ]
  refine wpAnyT_takeW (i := 1) (v := .pointer (some ⟨q, 0, none⟩)) rfl (by kernel_rfl) (fun _ _ _ hp => hp) (Or.inl ⟨by rfl, fun X _ => by go_simp⟩) hS0 ?_
  simp only [Act.put, List.setIfInBounds_toArray, List.set_cons_zero, List.set_cons_succ]
  refine wpAnyT_takeW (i := 2) (v := .pointer (some ⟨q, 0, none⟩)) rfl (by kernel_rfl) (fun _ _ _ hp => hp) (Or.inl ⟨by rfl, fun X _ => by go_simp⟩) hS0 ?_
  simp only [Act.put, List.setIfInBounds_toArray, List.set_cons_zero, List.set_cons_succ]
  refine wpAnyT_take (i := 3) (v := .pointer (some ⟨h, 0, none⟩)) rfl (by kernel_rfl) (fun _ _ _ hp => hp) (Or.inl ⟨by rfl, fun X hX => by have y1 := (hX.cell (p := ⟨q, 0, none⟩) hq5).trans c05; go_simp⟩) hS0 ?_
  simp only [Act.put, List.setIfInBounds_toArray, List.set_cons_zero, List.set_cons_succ]
  refine wpAnyT_takeW (i := 4) (v := .pointer (some ⟨q, 0, none⟩)) rfl (by kernel_rfl) (fun _ _ _ hp => hp) (Or.inl ⟨by rfl, fun X _ => by go_simp⟩) hS0 ?_
  simp only [Act.put, List.setIfInBounds_toArray, List.set_cons_zero, List.set_cons_succ]
  refine wpAnyT_takeW (i := 5) (v := .int .i64 ((a : Int) + 1)) rfl (by kernel_rfl) (fun _ _ _ hp => hp) (Or.inl ⟨by rfl, fun X _ => by go_simp⟩) hS0 ?_
  simp only [Act.put, List.setIfInBounds_toArray, List.set_cons_zero, List.set_cons_succ]
  refine wpAnyT_takeW (i := 7) (v := .int .i64 (k : Int)) rfl (by kernel_rfl) (fun _ _ _ hp => hp) (Or.inl ⟨by rfl, fun X _ => by go_simp⟩) hS0 ?_
  simp only [Act.put, List.setIfInBounds_toArray, List.set_cons_zero, List.set_cons_succ]
  refine wpAnyT_takeW (i := 8) (v := .pointer (some ⟨q, 0, none⟩)) rfl (by kernel_rfl) (fun _ _ _ hp => hp) (Or.inl ⟨by rfl, fun X _ => by go_simp⟩) hS0 ?_
  simp only [Act.put, List.setIfInBounds_toArray, List.set_cons_zero, List.set_cons_succ]
  refine wpAnyT_takeW (i := 9) (v := .int .i64 b) rfl (by kernel_rfl) (fun _ _ _ hp => hp) (Or.inl ⟨by rfl, fun X _ => by go_simp⟩) hS0 ?_
  simp only [Act.put, List.setIfInBounds_toArray, List.set_cons_zero, List.set_cons_succ]
  refine wpAnyT_one (i := 6) rfl (by kernel_rfl) (by rfl) ?_
  intro K1 hK1
  go_simp
  refine (HP1.out).mono ?_
  rintro e _ ⟨rfl, rfl⟩
  dsimp only
  refine hK1.out _ _ (fun _ => hS0) ?_
  (try simp only [Act.put, List.setIfInBounds_toArray, List.set_cons_zero, List.set_cons_succ])
  refine wpAnyT_one (i := 10) rfl (by kernel_rfl) (by rfl) ?_
  intro K2 hK2
  go_simp
  refine (HP2.out).mono ?_
  rintro e _ ⟨rfl, rfl⟩
  dsimp only
  refine hK2.out _ _ (fun _ => hS0) ?_
  (try simp only [Act.put, List.setIfInBounds_toArray, List.set_cons_zero, List.set_cons_succ])
  refine wpAnyT_one (i := 11) rfl (by kernel_rfl) (by rfl) ?_
  intro K3 hK3
  go_simp
  refine HS.out.mono ?_
  rintro e w6 ⟨rfl, H6, s6⟩
  dsimp only
  refine hK3.out _ _ (fun hh => absurd rfl hh) ?_
  (try simp only [Act.put, List.setIfInBounds_toArray, List.set_cons_zero, List.set_cons_succ])
  refine wpAnyT_lat2 (i := 12) rfl (by kernel_rfl) (by rfl) (by kernel_rfl) ?_
  intro K4 hK4
  go_simp
  refine hK4.out _ _ ?_
  (try simp only [Act.put, List.setIfInBounds_toArray, List.set_cons_zero, List.set_cons_succ])
  refine wpAnyT_lat2 (i := 13) rfl (by kernel_rfl) (by rfl) (by kernel_rfl) ?_
  intro K5 hK5
  go_simp
  refine hK5.out _ _ ?_
  (try simp only [Act.put, List.setIfInBounds_toArray, List.set_cons_zero, List.set_cons_succ])
  refine wpAnyT_done (by kernel_rfl) ?_ _
  (try simp only [Act.put, List.setIfInBounds_toArray, List.set_cons_zero, List.set_cons_succ])
  clear hK1 K1 hK2 K2 hK3 K3 hK4 K4 hK5 K5
  have H7 := (H5.out.below hdb).heap H6 s6
  have b7 : Fen w0 w6 := (b5.out.below hdb).step s6 (fun j hj => hF.out j (.inl hj))
  go_wp2_with fail
  go_ret
  exact ⟨rfl, F, D, _, H7, hF5.out, b7, C'.out⟩
end Go.Proofs.YtnoiepmapmcjdaaDoor
namespace Go.Proofs.YtnoiepmapmcjdaaDoor
open Go.RowKit Go.Shelf
def Sn : Nat → HS
  | 0 => sNew 20
  | k + 1 => (sAlloc (Sn k) 4 15 0).1
theorem sn_alloc : ∀ k, k < 11 → (sAlloc (Sn k) 4 15 0).2 = (4 * (k : Int) + 1, 0) := by decide +kernel
theorem sn_objs : ∀ k, k < 12 → (Sn k).objs = (List.range k).map fun (i : Nat) => (4 * (i : Int) + 1, 4, 15) := by decide +kernel
theorem sn_words : ∀ k, k < 12 → (Sn k).words = List.replicate 161 0 := by decide +kernel
theorem sn_inv : ∀ k, Inv (Sn k)
  | 0 => new_inv (by decide) (by decide)
  | k + 1 => alloc_inv (sn_inv k) (by decide) (by decide) (by decide)
theorem sn_eq {k : Nat} (h : k < 11) : sAlloc (Sn k) 4 15 0 = (Sn (k + 1), 4 * (k : Int) + 1, 0) := Prod.ext rfl (sn_alloc k h)
theorem getD_zeros (n j : Nat) : (List.replicate n (0 : Int)).getD j 0 = 0 := by
  simp only [List.getD, List.getElem?_replicate]
  split <;> rfl
def zero4 : List Int := [0, 0, 0, 0]
theorem cw_new {n : Nat} (hn : n ≤ 11) : Cw n (Sn n) (List.replicate n zero4) := by
  have hg : ∀ i, i < n → (List.replicate n zero4).getD i [] = zero4 := fun i hi => by simp [List.getD, hi]
  have ho : ∀ i k, i < n → objAt (List.replicate n zero4) i k = 0 := fun i k hi => by
    unfold objAt
    rw [hg i hi]
    rcases (by omega : k = 0 ∨ k = 1 ∨ k = 2 ∨ k = 3 ∨ 4 ≤ k) with rfl | rfl | rfl | rfl | h
    · rfl
    · rfl
    · rfl
    · rfl
    · exact getD_ge (xs := zero4) h
  refine ⟨hn, sn_inv n, sn_objs n (by omega), by simp, fun i hi => by rw [hg i hi]; rfl, fun i k hi _ => by rw [ho i k hi]; omega, fun i k hi _ => ?_⟩
  rw [ho i k hi, sn_words n (by omega)]
  rw [getD_zeros]
  rfl
theorem wp_push {P : Program} {w0 : World} {o : Oper} {a : Act} {Q : Exit → Act → World → Prop} {K : Act → World → Prop} (s x : Operand) (t : TypeId)
    (ho : o.op = .call { callee := .builtin .append, args := #[s, x], argTypes := #[t, t] })
    (base : Nat) (e : TypeId) (z : Value) (bytes : Nat) (ht : P.underlying t = some (.slice e)) (hi : (P.info? e).map (fun i => (i.zero, i.size, i.bytes)) = some (some z, 1, bytes)) (hz1 : z.cells.size = 1)
    (v : Value) (n : Nat) (xs : List Value) (hs : a.eval s = v) (hown : w0.ownsRow base e 1 v n xs) (u : Value) (hu : u.oneCell' = true)
    (hx : a.eval x = .slice (some ⟨w0.heap.size, 0, none⟩) 1 1)
    (h63 : n < maxLen) (hbytes : (n + 1) * bytes ≤ 140737488355328) (hbase : base ≤ w0.heap.size)
    (h : ∀ v' w', w'.ownsRow base e 1 v' (n + 1) (xs ++ [u]) → w0.grownBy w' v.ownBlock → (v'.ownBlock = v.ownBlock ∨ v'.ownBlock = some (w0.heap.size + 1)) → K (a.put o.dst v') w') :
    Oper.wp P o a (w0.alloc (.cells #[u] e)) K Q := by
  obtain ⟨i, hi1, hz, hsize, hby⟩ := info_parts hi
  obtain ⟨v', w', hr, h2, h3, h4, h5⟩ := run_append_own_at (P := P) (w0.alloc (.cells #[u] e)) base t o.type e i z 1 bytes ht hi1 hz hsize hby hz1 (by omega) v n xs (hown.alloc _) ⟨w0.heap.size, 0, none⟩ 1 1 [u] rfl (cell_one_new _ _ _)
    (fun y hy => by rw [List.mem_singleton.1 hy]; exact hu) (by omega) hbytes (by simp; omega)
  unfold Oper.wp execOp
  simp only [ho, resolve, invoke, builtin, Sem.run_bind, Sem.run_pure, Result.andThen_ok, List.map_toArray, List.map_cons, List.map_nil, hs, hx, hr]
  refine h v' w' h2 ?_ ?_
  · exact ⟨h3.os, h3.tape, h3.output, Nat.le_trans (by simp) h3.size, fun k hk hne => (h3.block k (by simp; omega) hne).trans (Below.heap_alloc w0 _ k hk)⟩
  · simpa using h5
/-- While begin makes its world. -/
structure BIn (w0 w : World) (q h : Nat) (S : HS) (kp ko : Nat) (F : Nat → Prop) (vp vo : Value) (us : List (Option Addr × Nat × Nat)) : Prop where
  hp : HpAt w h S F
  blk : Blk w q 39 #[.pointer (some ⟨h, 0, none⟩), .pointer none, vp, vo, .bool false, .slice none 0 0, .slice none 0 0]
  op : w.ownsRow w0.heap.size 3 1 vp kp ((ptrsN kp).map i64e)
  oo : w.ownsRow w0.heap.size 34 1 vo ko (us.map slE)
  ul : us.length = ko
  ur : ∀ j (hj : j < us.length), Rd i64e w (slE us[j]) zero4
  ub : ∀ j (hj : j < us.length) b, (slE us[j]).ownBlock = some b → w0.heap.size ≤ b ∧ b ≠ q ∧ ¬ F b ∧ vp.ownBlock ≠ some b ∧ vo.ownBlock ≠ some b
  pb : ∀ b, vp.ownBlock = some b → b ≠ q ∧ ¬ F b ∧ vo.ownBlock ≠ some b
  ob : ∀ b, vo.ownBlock = some b → b ≠ q ∧ ¬ F b
  qf : ¬ F q
  q0 : w0.heap.size ≤ q
  hF : ∀ j, F j → w0.heap.size ≤ j
  tq : 0 < w0.heap.size
  b : Below w0.heap.size w0 w
section
variable {w0 w w' : World} {q h kp ko : Nat} {S S' : HS} {F F' : Nat → Prop} {vp vo v : Value} {us : List (Option Addr × Nat × Nat)}
theorem BIn.keep (B : BIn w0 w q h S kp ko F vp vo us) (hb : Below w.heap.size w w') : BIn w0 w' q h S kp ko F vp vo us :=
  { B with hp := B.hp.below hb, blk := B.blk.below hb B.blk.lt, op := own_below B.op hb, oo := own_below B.oo hb, ur := fun j hj => (B.ur j hj).below hb, b := B.b.trans (hb.mono B.b.size) }
theorem BIn.heap (B : BIn w0 w q h S kp ko F vp vo us) (H : HpAt w' h S' F') (s : Step F w w' F') : BIn w0 w' q h S' kp ko F' vp vo us := by
  have kb : ∀ b, b < w.heap.size → ¬ F b → w'.heap[b]? = w.heap[b]? := fun b hlt hn => s.frame.block b hlt hn
  have nf : ∀ b, b < w.heap.size → ¬ F b → ¬ F' b := fun b hlt hn hf => (s.sub b hf).elim hn fun e => by omega
  have hpl := fun b e => (B.op.lt b e).2
  have hol := fun b e => (B.oo.lt b e).2
  have hul : ∀ j (hj : j < us.length) b, (slE us[j]).ownBlock = some b → b < w.heap.size := fun j hj b e => rdl_lt (B.ur j hj) (by decide) e
  exact ⟨H, (kb q B.blk.lt B.qf).trans B.blk, own_keep B.op fun g e => kb g (hpl g e) (B.pb g e).2.1, own_keep B.oo fun g e => kb g (hol g e) (B.ob g e).2, B.ul,
    fun j hj => (B.ur j hj).keep s.frame.size fun _ b e hlt => kb b hlt (B.ub j hj b e).2.2.1,
    fun j hj b e => by obtain ⟨h1, h2, h3, h4, h5⟩ := B.ub j hj b e; exact ⟨h1, h2, nf b (hul j hj b e) h3, h4, h5⟩,
    fun b e => by obtain ⟨h1, h2, h3⟩ := B.pb b e; exact ⟨h1, nf b (hpl b e) h2, h3⟩, fun b e => ⟨(B.ob b e).1, nf b (hol b e) (B.ob b e).2⟩, nf q B.blk.lt B.qf, B.q0,
    fun j hj => (s.sub j hj).elim (B.hF j) fun e => Nat.le_trans B.b.size e, B.tq, B.b.trans (s.below B.hF B.b.size)⟩
/-- A pointer more. -/
theorem BIn.ptr {w1 : World} (B : BIn w0 w q h S kp ko F vp vo us) (hn : w1.ownsRow w0.heap.size 3 1 v (kp + 1) ((ptrsN (kp + 1)).map i64e)) (hg : w.grownBy w1 vp.ownBlock) (hv : ∀ b, v.ownBlock = some b → vp.ownBlock = some b ∨ w.heap.size ≤ b) :
    BIn w0 (w1.setCell ⟨q, 2, none⟩ v) q h S (kp + 1) ko F v vo us := by
  have hql := B.blk.lt
  have vq : ∀ b, v.ownBlock = some b → b ≠ q := fun b e e2 => (hv b e).elim (fun h => (B.pb b h).1 e2) fun h => by omega
  have vf : ∀ b, v.ownBlock = some b → ¬ F b := fun b e hf => (hv b e).elim (fun h => (B.pb b h).2.1 hf) fun h => by have := B.hp.lt b hf; omega
  have vo' : ∀ b, v.ownBlock = some b → vo.ownBlock ≠ some b := fun b e h2 => (hv b e).elim (fun h => (B.pb b h).2.2 h2) fun h => by have := (B.oo.lt b h2).2; omega
  have k1 : ∀ b, b < w.heap.size → vp.ownBlock ≠ some b → w1.heap[b]? = w.heap[b]? := fun b hlt hne => hg.block b hlt fun e => hne e.symm
  have k2 : ∀ b, b ≠ q → (w1.setCell ⟨q, 2, none⟩ v).heap[b]? = w1.heap[b]? := fun b hb => setCell_other w1 q 2 _ hb
  have hz : (w1.setCell ⟨q, 2, none⟩ v).heap.size = w1.heap.size := setCell_size _ _ _
  have hul : ∀ j (hj : j < us.length) b, (slE us[j]).ownBlock = some b → b < w.heap.size := fun j hj b e => rdl_lt (B.ur j hj) (by decide) e
  have hpq : vp.ownBlock ≠ some q := fun e => (B.pb q e).1 rfl
  refine ⟨B.hp.keep (by rw [hz]; exact hg.size) fun k hk hF => ?_, ?_, own_keep hn fun g e => k2 g (vq g e), own_keep B.oo fun g e => (k2 g (B.ob g e).1).trans (k1 g (B.oo.lt g e).2 fun e2 => (B.pb g e2).2.2 e), B.ul,
    fun j hj => (B.ur j hj).keep (by rw [hz]; exact hg.size) fun _ b e hlt => (k2 b (B.ub j hj b e).2.1).trans (k1 b hlt (B.ub j hj b e).2.2.2.1),
    fun j hj b e => ?_, fun b e => ⟨vq b e, vf b e, vo' b e⟩, B.ob, B.qf, B.q0, B.hF, B.tq, ?_⟩
  · have hkq : k ≠ q := fun e => hF.elim (fun h => B.qf (e ▸ h)) fun h => by have := B.tq; have := B.q0; omega
    refine (k2 k hkq).trans (k1 k hk fun e => hF.elim (B.pb k e).2.1 fun h => ?_)
    have := B.tq
    have := (B.op.lt k e).1
    omega
  · exact (B.blk.grown hg fun e => hpq e.symm).set_ 2 v
  · obtain ⟨h1, h2, h3, h4, h5⟩ := B.ub j hj b e
    exact ⟨h1, h2, h3, fun e2 => (hv b e2).elim h4 fun h => by have := hul j hj b e; omega, h5⟩
  · have hb1 : Below w0.heap.size w0 w1 := B.b.grown hg B.b.size fun g e => (B.op.lt g e).1
    exact hb1.setCell (p := ⟨q, 2, none⟩) B.q0 v
/-- An object more. -/
theorem BIn.obj {w1 : World} {s : Option Addr × Nat × Nat} (B : BIn w0 w q h S kp ko F vp vo us) (hb : Below w.heap.size w w') (hn : w1.ownsRow w0.heap.size 34 1 v (ko + 1) ((us ++ [s]).map slE)) (hg : w'.grownBy w1 vo.ownBlock) (hv : ∀ b, v.ownBlock = some b → vo.ownBlock = some b ∨ w'.heap.size ≤ b)
    (hr : Rd i64e w' (slE s) zero4) (hs : ∀ b, (slE s).ownBlock = some b → w.heap.size ≤ b ∧ b < w'.heap.size) :
    BIn w0 (w1.setCell ⟨q, 3, none⟩ v) q h S kp (ko + 1) F vp v (us ++ [s]) := by
  have B' := B.keep hb
  have hql := B'.blk.lt
  have vq : ∀ b, v.ownBlock = some b → b ≠ q := fun b e e2 => (hv b e).elim (fun h => (B.ob b h).1 e2) fun h => by omega
  have vf : ∀ b, v.ownBlock = some b → ¬ F b := fun b e hf => (hv b e).elim (fun h => (B.ob b h).2 hf) fun h => by have := B'.hp.lt b hf; omega
  have k1 : ∀ b, b < w'.heap.size → vo.ownBlock ≠ some b → w1.heap[b]? = w'.heap[b]? := fun b hlt hne => hg.block b hlt fun e => hne e.symm
  have k2 : ∀ b, b ≠ q → (w1.setCell ⟨q, 3, none⟩ v).heap[b]? = w1.heap[b]? := fun b hb => setCell_other w1 q 3 _ hb
  have hz : (w1.setCell ⟨q, 3, none⟩ v).heap.size = w1.heap.size := setCell_size _ _ _
  have hul : ∀ j (hj : j < us.length) b, (slE us[j]).ownBlock = some b → b < w.heap.size := fun j hj b e => rdl_lt (B.ur j hj) (by decide) e
  have hoq : vo.ownBlock ≠ some q := fun e => (B.ob q e).1 rfl
  have hqw := B.blk.lt
  have hsz := hb.size
  have get : ∀ j (hj : j < (us ++ [s]).length), (∃ hj' : j < us.length, (us ++ [s])[j] = us[j]) ∨ (us ++ [s])[j] = s := fun j hj => by
    by_cases h : j < us.length
    · exact .inl ⟨h, List.getElem_append_left h⟩
    · refine .inr ?_
      rw [List.getElem_append_right (by omega)]
      simp
  refine ⟨B'.hp.keep (by rw [hz]; exact hg.size) fun k hk hF => ?_, ?_, own_keep B'.op fun g e => (k2 g (B.pb g e).1).trans (k1 g (B'.op.lt g e).2 (B.pb g e).2.2), own_keep hn fun g e => k2 g (vq g e), by rw [List.length_append, B.ul]; rfl,
    fun j hj => ?_, fun j hj b e => ?_, fun b e => ⟨(B.pb b e).1, (B.pb b e).2.1, fun e2 => (hv b e2).elim (B.pb b e).2.2 fun h => by have := (B'.op.lt b e).2; omega⟩, fun b e => ⟨vq b e, vf b e⟩, B.qf, B.q0, B.hF, B.tq, ?_⟩
  · have hkq : k ≠ q := fun e => hF.elim (fun h => B.qf (e ▸ h)) fun h => by have := B.tq; have := B.q0; omega
    refine (k2 k hkq).trans (k1 k hk fun e => hF.elim (B.ob k e).2 fun h => ?_)
    have := B.tq
    have := (B.oo.lt k e).1
    omega
  · exact (B'.blk.grown hg fun e => hoq e.symm).set_ 3 v
  · rcases get j hj with ⟨hj', e⟩ | e
    · rw [e]
      exact (B'.ur j hj').keep (by rw [hz]; exact hg.size) fun _ b e hlt => (k2 b (B.ub j hj' b e).2.1).trans (k1 b hlt (B.ub j hj' b e).2.2.2.2)
    · rw [e]
      refine hr.keep (by rw [hz]; exact hg.size) fun _ b e hlt => (k2 b fun e2 => ?_).trans (k1 b hlt fun e2 => ?_)
      · have := (hs b e).1; omega
      · have := (hs b e).1; have := (B.oo.lt b e2).2; omega
  · rcases get j hj with ⟨hj', e0⟩ | e0
    · rw [e0] at e
      obtain ⟨h1, h2, h3, h4, h5⟩ := B.ub j hj' b e
      exact ⟨h1, h2, h3, h4, fun e2 => (hv b e2).elim h5 fun h => by have := hul j hj' b e; omega⟩
    · rw [e0] at e
      have hs1 := hs b e
      have h0 := B.b.size
      exact ⟨by omega, by omega, fun hf => by have := B.hp.lt b hf; omega, fun e2 => by have := (B.op.lt b e2).2; omega, fun e2 => (hv b e2).elim (fun h => by have := (B.oo.lt b h).2; omega) fun h => by omega⟩
  · have hb1 : Below w0.heap.size w0 w1 := B'.b.grown hg B'.b.size fun g e => (B.oo.lt g e).1
    exact hb1.setCell (p := ⟨q, 3, none⟩) B.q0 v
end
set_option maxHeartbeats 3200000 in
set_option maxRecDepth 100000 in
theorem begin_w (n : Nat) (w : World) (hn : n ≤ 11) (hT : TabW w) :
    Calls Tryd.prog 10 #[.int .i64 (n : Int)] w fun e w' => ∃ q h m, e = .returned (.tuple #[.pointer (some ⟨q, 0, none⟩), .bool true]) ∧ LW (ofW w) w' q h m n (Sn n) mNew ⟨List.replicate n zero4, false, [], []⟩ := by
  have hmk : ∀ W, (Instr.makeSlice 34 (.int .i64 4) (.int .i64 4)).run Tryd.prog W = .ok (.slice (some ⟨W.heap.size, 0, none⟩) 4 4) (W.alloc (.cells #[.int .i64 0, .int .i64 0, .int .i64 0, .int .i64 0] 3)) :=
    fun W => by
      have := run_make_row' (P := Tryd.prog) 34 3 (.int .i64 0) 8 Tryd.underlying34 int_info rfl .i64 .i64 4 (by omega) (by omega) W
      rw [made_one] at this
      exact this
  replace hT := Lib.hid hT
  go_enter Tryd.func10, Tryd.ntmps10
  go_wp2_with fail
  refine (new_s 20 w (by omega) (by omega) hT.out).mono ?_
  rintro e w1 ⟨h, F1, rfl, H1, hF1, b1⟩
  have T0 := hT.out.lt
  have HB0 : BIn w (w1.alloc (.cells #[.pointer (some ⟨h, 0, none⟩), .pointer none, .slice none 0 0, .slice none 0 0, .bool false, .slice none 0 0, .slice none 0 0] 39)) w1.heap.size h (Sn 0) 0 0 F1 (.slice none 0 0) (.slice none 0 0) [] := by
    have ba := below_alloc w1 (.cells #[.pointer (some ⟨h, 0, none⟩), .pointer none, .slice none 0 0, .slice none 0 0, .bool false, .slice none 0 0, .slice none 0 0] 39)
    exact { hp := H1.below ba, blk := Blk.new _ _ _, op := World.ownsRow_nil _ _ _ _, oo := World.ownsRow_nil _ _ _ _, ul := rfl, ur := fun j hj => absurd hj (by simp), ub := fun j hj => absurd hj (by simp), pb := fun b e => (by cases e), ob := fun b e => (by cases e),
            qf := fun hf => (by have := H1.lt _ hf; omega), q0 := b1.size, hF := hF1, tq := T0, b := b1.trans (ba.mono b1.size) }
  replace HB0 := Lib.hid HB0
  obtain ⟨q, hq⟩ : ∃ q, q = w1.heap.size := ⟨_, rfl⟩
  replace H1 := Lib.hid H1
  replace hF1 := Lib.hid hF1
  go_wp2_with fail
  rw [← hq] at HB0 ⊢
  clear hq H1 hF1 b1
  go_loopw [16] (fun i wr => ∃ (k : Nat) (F : Nat → Prop) (vp vo : Value) (us : List (Option Addr × Nat × Nat)), k ≤ n ∧ i = .int .i64 k ∧ Hid (BIn w wr q h (Sn k) k k F vp vo us)) (fun i _ => n - (intOf i).toNat)
  case atStart => exact ⟨0, F1, _, _, _, by omega, rfl, HB0⟩
  case round =>
    clear HB0
    obtain ⟨k, F, vp, vo, us, hk, rfl, B⟩ := hrel
    have c0 : wr.cell? ⟨q, 0, none⟩ = some (.pointer (some ⟨h, 0, none⟩)) := B.out.blk.cell 0
    by_cases hlt : k < n
    · have t0 : (k : Int) < (n : Int) := by omega
      have hae := Lib.hid (sn_eq (k := k) (by omega))
      go_wp2_with fail
      refine (alloc_r hae.out B.out.hp (by omega) (by omega) (by omega)).mono ?_
      rintro e w2 ⟨rfl, F2, H2, s2⟩
      have B2 := Lib.hid (B.out.heap H2 s2)
      obtain ⟨Ap, cp, rfl, -⟩ := own_form B2.out.op
      obtain ⟨Ao, co, rfl, -⟩ := own_form B2.out.oo
      have c2 : w2.cell? ⟨q, 2, none⟩ = some (.slice Ap k cp) := B2.out.blk.cell 2
      have hz := B2.out.b.size
      clear H2 s2 B c0
      go_wp2_with (at_builtin; refine wpList_push rfl (.tmp 32) (.tmp 34) _ rfl w.heap.size 3 _ 8 Tryd.underlying34 int_info rfl _ _ _ rfl B2.out.op _ rfl rfl (by unfold maxLen; omega) (by omega) hz ?_; intro v4 w4 hown hg hat; refine stop_here ?_)
      rw [show (ptrsN k).map i64e ++ [.int .i64 (4 * (k : Int) + 1)] = (ptrsN (k + 1)).map i64e by simp [ptrsN, List.range_succ]] at hown
      replace hg : w2.grownBy w4 (Value.slice Ap k cp).ownBlock := hg
      replace hat : v4.ownBlock = (Value.slice Ap k cp).ownBlock ∨ v4.ownBlock = some (w2.heap.size + 1) := hat
      obtain ⟨A4, c4, rfl, -⟩ := own_form hown
      have B4 := Lib.hid (B2.out.ptr hown hg (fun b e => hat.elim (fun h => .inl (h.symm.trans e)) fun h => .inr (by rw [h] at e; cases e; omega)))
      have hblk4 := B2.out.blk.grown hg (fun e => (B2.out.pb q e.symm).1 rfl)
      have f2 := hblk4.frozen 2
      have c2' : w4.cell? ⟨q, 2, none⟩ = some (.slice Ap k cp) := hblk4.cell 2
      have hq5 := B4.out.blk.lt
      obtain ⟨w5, hw5⟩ : ∃ w5, w5 = w4.setCell ⟨q, 2, none⟩ (.slice A4 (k + 1) c4) := ⟨_, rfl⟩
      rw [← hw5] at B4 hq5
      have c3 : w5.cell? ⟨q, 3, none⟩ = some (.slice Ao k co) := B4.out.blk.cell 3
      replace hw5 := Lib.hid hw5
      clear hown hg hat hblk4 c2 hz B2
      refine go_on ?_
      go_wp2_with fail
      rw [← hw5.out]
      clear c2' f2
      have hS0 : (fun X : World => X.cell? ⟨q, 3, none⟩ = some (.slice Ao k co)) w5.drew := c3
      refine wp_T (by kernel_rfl) 12 (fun X : World => X.cell? ⟨q, 3, none⟩ = some (.slice Ao k co)) ?_
      refine wpAnyT_takeW (i := 0) (v := .pointer (some ⟨q, 0, none⟩)) rfl (by kernel_rfl) (fun _ _ _ hp => hp) (Or.inl ⟨by rfl, fun X _ => by go_simp⟩) hS0 ?_
      simp only [Act.put, List.setIfInBounds_toArray, List.set_cons_zero, List.set_cons_succ]
      refine wpAnyT_takeW (i := 1) (v := .pointer (some ⟨q, 0, none⟩)) rfl (by kernel_rfl) (fun _ _ _ hp => hp) (Or.inl ⟨by rfl, fun X _ => by go_simp⟩) hS0 ?_
      simp only [Act.put, List.setIfInBounds_toArray, List.set_cons_zero, List.set_cons_succ]
      refine wpAnyT_takeW (i := 2) (v := .pointer (some ⟨q, 0, none⟩)) rfl (by kernel_rfl) (fun _ _ _ hp => hp) (Or.inl ⟨by rfl, fun X _ => by go_simp⟩) hS0 ?_
      simp only [Act.put, List.setIfInBounds_toArray, List.set_cons_zero, List.set_cons_succ]
      refine wpAnyT_takeW (i := 3) (v := .pointer (some ⟨q, 3, none⟩)) rfl (by kernel_rfl) (fun _ _ _ hp => hp) (Or.inl ⟨by rfl, fun X _ => by go_simp⟩) hS0 ?_
      simp only [Act.put, List.setIfInBounds_toArray, List.set_cons_zero, List.set_cons_succ]
      refine wpAnyT_takeW (i := 4) (v := .pointer (some ⟨q, 3, none⟩)) rfl (by kernel_rfl) (fun _ _ _ hp => hp) (Or.inl ⟨by rfl, fun X _ => by go_simp⟩) hS0 ?_
      simp only [Act.put, List.setIfInBounds_toArray, List.set_cons_zero, List.set_cons_succ]
      refine wpAnyT_take (i := 5) (v := .slice Ao k co) rfl (by kernel_rfl) (fun _ _ _ hp => hp) (Or.inl ⟨by rfl, fun X hX => by have y1 : X.cell? ⟨q, 3, none⟩ = some (.slice Ao k co) := hX; go_simp⟩) hS0 ?_
      simp only [Act.put, List.setIfInBounds_toArray, List.set_cons_zero, List.set_cons_succ]
      refine wpAnyT_one (i := 6) rfl (by kernel_rfl) (by rfl) ?_
      intro K1 hK1
      go_simp
      have b6 : Below w5.heap.size w5 (w5.alloc (.cells #[.int .i64 0, .int .i64 0, .int .i64 0, .int .i64 0] 3)).drew := Below.drew (below_alloc w5 (.cells #[.int .i64 0, .int .i64 0, .int .i64 0, .int .i64 0] 3))
      have N6 : Blk (w5.alloc (.cells #[.int .i64 0, .int .i64 0, .int .i64 0, .int .i64 0] 3)).drew w5.heap.size 3 #[.int .i64 0, .int .i64 0, .int .i64 0, .int .i64 0] := Blk.new w5 _ _
      generalize (w5.alloc (.cells #[.int .i64 0, .int .i64 0, .int .i64 0, .int .i64 0] 3)).drew = w6 at b6 N6 ⊢
      have c36 : w6.cell? ⟨q, 3, none⟩ = some (.slice Ao k co) := (World.cell?_of_block (b6.block q hq5)).trans c3
      refine hK1.out _ _ (fun _ => c36) ?_
      (try simp only [Act.put, List.setIfInBounds_toArray, List.set_cons_zero, List.set_cons_succ])
      refine wpAnyT_one (i := 7) rfl (by kernel_rfl) (by rfl) ?_
      intro K2 hK2
      go_simp
      have c37 : (w6.alloc (.cells #[.slice (some ⟨w5.heap.size, 0, none⟩) 4 4] 34)).cell? ⟨q, 3, none⟩ = some (.slice Ao k co) := (World.cell?_of_block (Below.heap_alloc w6 _ q (Nat.lt_of_lt_of_le hq5 b6.size))).trans c36
      refine hK2.out _ _ (fun _ => c37) ?_
      (try simp only [Act.put, List.setIfInBounds_toArray, List.set_cons_zero, List.set_cons_succ])
      refine wpAnyT_one (i := 8) rfl (by kernel_rfl) (by rfl) ?_
      intro K3 hK3
      have B6 := B4.out.keep b6
      have hz := B6.b.size
      refine wp_push (.tmp 43) (.tmp 45) _ rfl w.heap.size 34 _ 24 Tryd.underlying35 slice_info rfl (.slice Ao k co) _ _ rfl B6.oo (.slice (some ⟨w5.heap.size, 0, none⟩) 4 4) rfl rfl (by unfold maxLen; omega) (by omega) hz ?_
      intro v8 w8 hown hg hat
      rw [show us.map slE ++ [.slice (some ⟨w5.heap.size, 0, none⟩) 4 4] = (us ++ [((some (⟨w5.heap.size, 0, none⟩ : Addr), 4, 4) : Option Addr × Nat × Nat)]).map slE by simp] at hown
      obtain ⟨A8, c8, rfl, -⟩ := own_form hown
      have N8 := B6.blk.grown hg (fun e => (B6.ob q e.symm).1 rfl)
      have c38 : w8.cell? ⟨q, 3, none⟩ = some (.slice Ao k co) := N8.cell 3
      have f38 := N8.frozen 3
      have hr6 : Rd i64e w6 (.slice (some ⟨w5.heap.size, 0, none⟩) 4 4) zero4 := ⟨_, 4, rfl, ⟨by decide, by unfold maxLen; omega, fun h => by cases h⟩, fun _ => ⟨w5.heap.size, 0, rfl, N6.lt, fun i hi => by rw [N6.cell (0 + i)]; rcases (show i = 0 ∨ i = 1 ∨ i = 2 ∨ i = 3 from by have : i < 4 := hi; omega) with rfl | rfl | rfl | rfl <;> rfl⟩⟩
      have B9 := Lib.hid (B4.out.obj b6 hown hg (fun b e => hat.elim (fun h => .inl (h.symm.trans e)) fun h => .inr (by rw [h] at e; cases e; omega)) hr6 (fun b e => by obtain rfl : w5.heap.size = b := (by simpa [Value.ownBlock] using e); exact ⟨Nat.le_refl _, N6.lt⟩))
      clear hown hg hat N8 hr6 B6
      refine hK3.out _ _ (fun _ => c38) ?_
      (try simp only [Act.put, List.setIfInBounds_toArray, List.set_cons_zero, List.set_cons_succ])
      refine wpAnyT_takeW (i := 9) (v := .pointer (some ⟨q, 0, none⟩)) rfl (by kernel_rfl) (fun _ _ _ hp => hp) (Or.inl ⟨by rfl, fun X _ => by go_simp⟩) c38 ?_
      simp only [Act.put, List.setIfInBounds_toArray, List.set_cons_zero, List.set_cons_succ]
      refine wpAnyT_takeW (i := 10) (v := .pointer (some ⟨q, 3, none⟩)) rfl (by kernel_rfl) (fun _ _ _ hp => hp) (Or.inl ⟨by rfl, fun X _ => by go_simp⟩) c38 ?_
      simp only [Act.put, List.setIfInBounds_toArray, List.set_cons_zero, List.set_cons_succ]
      refine wpAnyT_takeW (i := 11) (v := .pointer (some ⟨q, 3, none⟩)) rfl (by kernel_rfl) (fun _ _ _ hp => hp) (Or.inl ⟨by rfl, fun X _ => by go_simp⟩) c38 ?_
      simp only [Act.put, List.setIfInBounds_toArray, List.set_cons_zero, List.set_cons_succ]
      refine wpAnyT_one (i := 12) rfl (by kernel_rfl) (by rfl) ?_
      intro K4 hK4
      go_simp
      refine hK4.out _ _ (fun hh => absurd rfl hh) ?_
      (try simp only [Act.put, List.setIfInBounds_toArray, List.set_cons_zero, List.set_cons_succ])
      refine wpAnyT_done (by kernel_rfl) ?_ _
      (try simp only [Act.put, List.setIfInBounds_toArray, List.set_cons_zero, List.set_cons_succ])
      clear hK1 K1 hK2 K2 hK3 K3 hK4 K4
      go_wp2_with fail
      go_roundw
      case rel => exact ⟨k + 1, F2, _, _, _, by omega, by go_num, B9⟩
      case measure => simp [intOf]; omega
    · obtain rfl : k = n := by omega
      obtain ⟨Ap, cp, rfl, -⟩ := own_form B.out.op
      obtain ⟨Ao, co, rfl, -⟩ := own_form B.out.oo
      have hBb := B.out.b
      have c1 : wr.cell? ⟨q, 1, none⟩ = some (.pointer none) := B.out.blk.cell 1
      have hql := B.out.blk.lt
      clear T0
      go_wp2_with fail
      refine (new_m h (Sn k) F wr B.out.hp).mono ?_
      rintro e w3 ⟨m, D, rfl, M, hD, b3⟩
      have B3 := B.out.keep b3
      have f1 := B3.blk.frozen 1
      have c1' : w3.cell? ⟨q, 1, none⟩ = some (.pointer none) := B3.blk.cell 1
      have hfin : LW (ofW w) (w3.setCell ⟨q, 1, none⟩ (.pointer (some ⟨m, 0, none⟩))) q h m k (Sn k) mNew ⟨List.replicate k zero4, false, [], []⟩ := by
        have hz : (w3.setCell ⟨q, 1, none⟩ (.pointer (some ⟨m, 0, none⟩))).heap.size = w3.heap.size := setCell_size _ _ _
        have ho : ∀ j, j ≠ q → (w3.setCell ⟨q, 1, none⟩ (.pointer (some ⟨m, 0, none⟩))).heap[j]? = w3.heap[j]? := fun j hj => setCell_other w3 q 1 _ hj
        have hqD : ¬ D q := fun h => by have := hD q h; omega
        have hs3 := b3.size
        have hw0 := B3.b.size
        obtain ⟨G, hG⟩ : ∃ G : Nat → Prop, G = fun j => j = q ∨ (Value.slice Ap k cp).ownBlock = some j ∨ (Value.slice Ao k co).ownBlock = some j ∨ ∃ (i : Nat) (hi : i < us.length), (slE us[i]).ownBlock = some j := ⟨_, rfl⟩
        have g1 : G q := by rw [hG]; exact .inl rfl
        have gf : ∀ j, G j → j < wr.heap.size ∧ ¬ F j ∧ w.heap.size ≤ j := fun j hj => by
          rw [hG] at hj
          rcases hj with rfl | hj | hj | ⟨i, hi, hj⟩
          · exact ⟨hql, B.out.qf, B.out.q0⟩
          · exact ⟨(B.out.op.lt j hj).2, (B.out.pb j hj).2.1, (B.out.op.lt j hj).1⟩
          · exact ⟨(B.out.oo.lt j hj).2, (B.out.ob j hj).2, (B.out.oo.lt j hj).1⟩
          · exact ⟨rdl_lt (B.out.ur i hi) (by decide) hj, (B.out.ub i hi j hj).2.2.1, (B.out.ub i hi j hj).1⟩
        have hop : (w3.setCell ⟨q, 1, none⟩ (.pointer (some ⟨m, 0, none⟩))).ownsRow w.heap.size 3 1 (.slice Ap k cp) k ((ptrsN k).map i64e) := own_keep B3.op fun g e => ho g (B3.pb g e).1
        have hoo : (w3.setCell ⟨q, 1, none⟩ (.pointer (some ⟨m, 0, none⟩))).ownsRow w.heap.size 34 1 (.slice Ao k co) k (us.map slE) := own_keep B3.oo fun g e => ho g (B3.ob g e).1
        refine ⟨F, D, G, ⟨M.keep (by rw [hz]; exact Nat.le_refl _) fun j _ hj => ho j fun e => ?_, ⟨.slice Ap k cp, .slice Ao k co, .slice none 0 0, .slice none 0 0, B3.blk.set_ 1 _, ⟨Rd.of_own (by rw [ptrs_len]; exact hop), fun _ b e => ⟨by rw [hG]; exact .inr (.inl e), (B3.pb b e).1⟩⟩, ⟨us, by rw [B3.ul]; simp, ⟨Rd.of_own (by rw [B3.ul]; exact hoo), fun _ b e => ⟨by rw [hG]; exact .inr (.inr (.inl e)), (B3.ob b e).1⟩⟩, fun i i1 i2 => ?_⟩, ⟨Rd.none_ _ _, fun h => absurd h (by simp)⟩, ⟨Rd.none_ _ _, fun h => absurd h (by simp)⟩, g1, fun j hj => by have := (gf j hj).1; omega⟩, fun j hj => (gf j hj).2.1, fun j hj hd => by have := (gf j hj).1; have := hD j hd; omega, fun ht => by have := (gf _ ht).2.2; have := B3.tq; omega⟩, fun j hj => ⟨?_, fun h => h⟩, ⟨B3.b.setCell (p := ⟨q, 1, none⟩) B3.q0 _, fun _ h => h.elim⟩, cw_new (by omega)⟩
        · rw [e] at hj
          rcases hj with h | h | h
          · exact B3.qf h
          · exact hqD h
          · have := B3.tq; have := B3.q0; omega
        · have e1 : (List.replicate k zero4)[i]'i2 = zero4 := by simp
          show RdG _ i64e _ _ ((List.replicate k zero4)[i]'i2)
          rw [e1]
          exact ⟨(B3.ur i i1).keep (by rw [hz]; exact Nat.le_refl _) fun _ b e _ => ho b (B3.ub i i1 b e).2.1, fun _ b e => ⟨by rw [hG]; exact .inr (.inr (.inr ⟨i, i1, e⟩)), (B3.ub i i1 b e).2.1⟩⟩
        · show w.heap.size ≤ j
          have := hBb.size
          rcases hj with h | h | h
          · exact B3.hF j h
          · have := hD j h; omega
          · exact (gf j h).2.2
      have hfin := Lib.hid hfin
      clear B B3 M hD
      go_wp2_with fail
      go_quiet (fail)
      have hbq : Below (w3.setCell ⟨q, 1, none⟩ (.pointer (some ⟨m, 0, none⟩))).heap.size (w3.setCell ⟨q, 1, none⟩ (.pointer (some ⟨m, 0, none⟩))) ((w3.setCell ⟨q, 1, none⟩ (.pointer (some ⟨m, 0, none⟩))).drewN nq) := below_drewN (Below.refl _ _) nq
      have hfin := Lib.hid (hfin.out.below hbq)
      go_wp2_with fail
      go_ret2
      exact ⟨q, h, m, rfl, hfin.out⟩
end Go.Proofs.YtnoiepmapmcjdaaDoor
namespace Go.Proofs.YtnoiepmapmcjdaaDoor
structure RD where
  on : Bool
  greys : List Int
  black : List Int
def dShade (R : RD) (b : Int) : RD := if b = 0 ∨ b ∈ R.greys ∨ b ∈ R.black then R else { R with greys := R.greys ++ [b] }
def dMade (R : RD) (b : Int) : RD := { R with greys := R.greys.filter (fun x => x != b), black := if b ∈ R.black then R.black else R.black ++ [b] }
def dStep (objs : List (List Int)) (R : RD) : RD × Bool :=
  if R.on = false then (R, false) else match R.greys with
    | [] => (R, false)
    | p :: g => ((objs.getD (p - 1).toNat []).foldl dShade { R with greys := g, black := R.black ++ [p] }, true)
def dStart : RD := ⟨true, [], []⟩
def dColor (R : RD) (b : Int) : Int := if R.on = false then 0 else if b ∈ R.greys then 1 else if b ∈ R.black then 2 else 0
structure DOk (n : Nat) (R : RD) : Prop where
  nd : (R.greys ++ R.black).Nodup
  bd : ∀ b, b ∈ R.greys ∨ b ∈ R.black → 1 ≤ b ∧ b ≤ n
structure CK (n : Nat) (K : MK) (R : RD) : Prop where
  on : K.on = R.on
  greys : K.greys = R.greys.map ptrI
  seen : ∀ b : Int, 1 ≤ b → b ≤ n → (K.seen (ptrI b) = true ↔ b ∈ R.greys ∨ b ∈ R.black)
  ok : DOk n R
theorem ptrI_pos {b : Int} (h : 1 ≤ b) : ptrI b = 4 * b - 3 := by unfold ptrI; rw [if_neg (by omega)]
theorem ptrI_inj {a b : Int} (ha : 0 ≤ a) (hb : 0 ≤ b) (h : ptrI a = ptrI b) : a = b := by
  unfold ptrI at h
  split at h <;> split at h <;> omega
theorem shade_fold_ok {n : Nat} {R : RD} (H : DOk n R) {b : Int} (hb : 0 ≤ b ∧ b ≤ n) : DOk n (dShade R b) := by
  unfold dShade
  split
  · exact H
  · next h =>
    have h1 : b ∉ R.greys := fun e => h (.inr (.inl e))
    have h2 : b ∉ R.black := fun e => h (.inr (.inr e))
    have h0 : b ≠ 0 := fun e => h (.inl e)
    refine ⟨?_, fun x hx => ?_⟩
    · show ((R.greys ++ [b]) ++ R.black).Nodup
      have hn := H.nd
      rw [List.nodup_append] at hn ⊢
      refine ⟨?_, hn.2.1, fun x hx y hy => ?_⟩
      · rw [List.nodup_append]
        exact ⟨hn.1, by simp, fun x hx y hy => by obtain rfl := List.mem_singleton.1 hy; exact fun e => h1 (e ▸ hx)⟩
      · rcases List.mem_append.1 hx with hx | hx
        · exact hn.2.2 x hx y hy
        · obtain rfl := List.mem_singleton.1 hx
          exact fun e => h2 (e ▸ hy)
    · rcases hx with hx | hx
      · rcases List.mem_append.1 hx with hx | hx
        · exact H.bd x (.inl hx)
        · obtain rfl := List.mem_singleton.1 hx
          omega
      · exact H.bd x (.inr hx)
section
variable {n : Nat} {S : HS} {objs : List (List Int)} {K : MK} {R : RD}
theorem Cw.size (C : Cw n S objs) {b : Int} (h1 : 1 ≤ b) (hn : b ≤ n) : sSize S (ptrI b) = (4, 15, true) := by
  have hm := C.mem (i := (b - 1).toNat) (by omega)
  have := C.inv.size hm
  rw [ptrI_pos h1]
  rw [show 4 * b - 3 = 4 * (((b - 1).toNat : Nat) : Int) + 1 by omega]
  exact this
theorem Cw.is (C : Cw n S objs) {b : Int} (h1 : 1 ≤ b) (hn : b ≤ n) : mIs S (ptrI b) = true := by unfold mIs; rw [C.size h1 hn]
theorem Cw.is_ex (C : Cw n S objs) {p : Int} (h : mIs S p = true) : ∃ b : Int, 1 ≤ b ∧ b ≤ n ∧ p = ptrI b := by
  unfold mIs at h
  rcases C.inv.size_cases p with ⟨e, _⟩ | ⟨o, ho, rfl, e⟩
  · rw [e] at h; cases h
  · rw [C.obj] at ho
    obtain ⟨i, hi, rfl⟩ := List.mem_map.1 ho
    have := List.mem_range.1 hi
    refine ⟨(i : Int) + 1, by omega, by omega, ?_⟩
    rw [ptrI_pos (by omega)]
    show 4 * (i : Int) + 1 = _
    omega
theorem Cw.known (C : Cw n S objs) (ho : K.on = true) {b : Int} (hb : 0 ≤ b ∧ b ≤ n) : mKnown S K (ptrI b) = (decide (b ≠ 0), 0) := by
  unfold mKnown
  by_cases h0 : b = 0
  · subst h0
    rw [if_pos (.inr rfl)]
    rfl
  · have hp : ptrI b ≠ 0 := by rw [ptrI_pos (by omega)]; omega
    rw [if_neg (by rw [ho]; simp [hp]), if_pos (C.is (by omega) hb.2)]
    simp [h0]
theorem Cw.shade (C : Cw n S objs) (H : CK n K R) (ho : K.on = true) {b : Int} (hb : 0 ≤ b ∧ b ≤ n) : CK n (mShade S K (ptrI b)) (dShade R b) ∧ (mShade S K (ptrI b)).on = true := by
  have hk := C.known (K := K) ho hb
  unfold mShade
  rw [hk]
  by_cases h0 : b = 0
  · have e : dShade R b = R := by unfold dShade; rw [if_pos (.inl h0)]
    rw [e, if_neg (by simp [h0])]
    exact ⟨H, ho⟩
  · by_cases hs : K.seen (ptrI b) = true
    · have e : dShade R b = R := by unfold dShade; rw [if_pos (.inr ((H.seen b (by omega) hb.2).1 hs))]
      rw [e, if_neg (by simp [hs])]
      exact ⟨H, ho⟩
    · have hns : ¬ (b ∈ R.greys ∨ b ∈ R.black) := fun h => hs ((H.seen b (by omega) hb.2).2 h)
      have e : dShade R b = { R with greys := R.greys ++ [b] } := by unfold dShade; rw [if_neg (fun h => h.elim h0 hns)]
      have hok := shade_fold_ok H.ok hb
      rw [e] at hok
      rw [e, if_pos ⟨by simp [h0], by simpa using hs⟩]
      refine ⟨⟨H.on, ?_, fun x h1 hn => ?_, hok⟩, ho⟩
      · show K.greys ++ [ptrI b] = (R.greys ++ [b]).map ptrI
        rw [List.map_append, H.greys]
        rfl
      · show (ptrI x == ptrI b || K.seen (ptrI x)) = true ↔ _
        rw [Bool.or_eq_true, H.seen x h1 hn, beq_iff_eq, List.mem_append, List.mem_singleton]
        constructor
        · rintro (h | h | h)
          · exact .inl (.inr (ptrI_inj (by omega) hb.1 h))
          · exact .inl (.inl h)
          · exact .inr h
        · rintro ((h | h) | h)
          · exact .inr (.inl h)
          · exact .inl (by rw [h])
          · exact .inr (.inr h)
theorem Cw.shades (C : Cw n S objs) : ∀ (l : List Int) {K : MK} {R : RD}, CK n K R → K.on = true → (∀ b ∈ l, 0 ≤ b ∧ b ≤ n) → CK n ((l.map ptrI).foldl (mShade S) K) (l.foldl dShade R) ∧ ((l.map ptrI).foldl (mShade S) K).on = true
  | [], K, R, H, ho, _ => ⟨H, ho⟩
  | b :: l, K, R, H, ho, hl => by
    obtain ⟨H1, ho1⟩ := C.shade H ho (hl b (by simp))
    exact C.shades l H1 ho1 (fun x hx => hl x (by simp [hx]))
theorem bit15 : ∀ j, j < 4 → mBit 15 j = true := by decide
theorem Cw.load (C : Cw n S objs) {i k : Nat} (hi : i < n) (hk : k < 4) : sLoad S (4 * (i : Int) + 1) k = (ptrI (objAt objs i k), 0) := by
  rw [C.inv.load_in (C.mem hi) (by omega) (by show (k : Int) < 4; omega), ← C.wd i k hi hk]
  show (S.words.getD (4 * (i : Int) + 1 + (k : Int)).toNat 0, (0 : Int)) = _
  rw [show (4 * (i : Int) + 1 + (k : Int)).toNat = 4 * i + 1 + k by omega]
theorem Cw.row (C : Cw n S objs) {i : Nat} (hi : i < n) : objs.getD i [] = [objAt objs i 0, objAt objs i 1, objAt objs i 2, objAt objs i 3] := by
  have h4 := C.four i hi
  unfold objAt
  generalize objs.getD i [] = l at h4 ⊢
  match l, h4 with
  | [a, b, c, d], _ => rfl
theorem Cw.scan (C : Cw n S objs) {i : Nat} (hi : i < n) (H : CK n K R) (ho : K.on = true) : ∀ j, j ≤ 4 →
    mScan S (4 * (i : Int) + 1) 15 K j = ((((objs.getD i []).take j).map ptrI).foldl (mShade S) K, 0) ∧ ∀ b ∈ (objs.getD i []).take j, 0 ≤ b ∧ b ≤ n
  | 0, _ => ⟨rfl, fun b hb => by simp at hb⟩
  | j + 1, hj => by
    obtain ⟨h1, h2⟩ := C.scan hi H ho j (by omega)
    have hlt : j < (objs.getD i []).length := by rw [C.four i hi]; omega
    have ht : (objs.getD i []).take (j + 1) = (objs.getD i []).take j ++ [objAt objs i j] := by
      unfold objAt
      generalize objs.getD i [] = l at hlt ⊢
      rw [List.take_add_one]
      simp [List.getD, hlt]
    have hb := C.bd i j hi (by omega)
    have hS := C.shades _ H ho h2
    refine ⟨?_, fun b hb' => ?_⟩
    · show (if (mScan S (4 * (i : Int) + 1) 15 K j).2 ≠ 0 ∨ mBit 15 j = false then mScan S (4 * (i : Int) + 1) 15 K j else _) = _
      rw [if_neg (by rw [h1, bit15 j (by omega)]; simp), h1, C.load hi (by omega), C.known hS.2 hb, ht, List.map_append, List.foldl_append]
      rfl
    · rw [ht] at hb'
      rcases List.mem_append.1 hb' with h | h
      · exact h2 b h
      · obtain rfl := List.mem_singleton.1 h
        exact hb
theorem Cw.step (C : Cw n S objs) (H : CK n K R) : (mStep S K).1 = ((dStep objs R).2, 0) ∧ CK n (mStep S K).2 (dStep objs R).1 ∧ (mStep S K).2.on = K.on := by
  unfold mStep dStep
  by_cases ho : K.on = false
  · rw [if_pos ho, if_pos (H.on ▸ ho)]
    exact ⟨rfl, H, rfl⟩
  · have ho' : K.on = true := by simpa using ho
    rw [if_neg ho, if_neg (by rw [← H.on]; exact ho)]
    have hg := H.greys
    rcases hR : R.greys with _ | ⟨p, g⟩
    · rw [hR] at hg
      rw [hg]
      exact ⟨rfl, H, rfl⟩
    · rw [hR] at hg
      rw [hg]
      have hpb := H.ok.bd p (.inl (by rw [hR]; simp))
      have hi : (p - 1).toNat < n := by omega
      have hpp : ptrI p = 4 * (((p - 1).toNat : Nat) : Int) + 1 := by rw [ptrI_pos hpb.1]; omega
      have hnd := H.ok.nd
      rw [hR] at hnd
      have H1 : CK n { K with greys := g.map ptrI } { R with greys := g, black := R.black ++ [p] } := by
        refine ⟨H.on, rfl, fun b h1 hn => ?_, ?_, fun b hb => ?_⟩
        · show K.seen (ptrI b) = true ↔ _
          rw [H.seen b h1 hn, hR, List.mem_cons, List.mem_append, List.mem_singleton]
          constructor
          · rintro ((h | h) | h)
            · exact .inr (.inr h)
            · exact .inl h
            · exact .inr (.inl h)
          · rintro (h | h | h)
            · exact .inl (.inr h)
            · exact .inr h
            · exact .inl (.inl h)
        · show (g ++ (R.black ++ [p])).Nodup
          rw [← List.append_assoc]
          have h2 : (p :: (g ++ R.black)).Nodup := hnd
          rw [List.nodup_cons] at h2
          rw [List.nodup_append]
          exact ⟨h2.2, by simp, fun x hx y hy => by obtain rfl := List.mem_singleton.1 hy; exact fun e => h2.1 (e ▸ hx)⟩
        · refine H.ok.bd b ?_
          rw [hR]
          rcases hb with h | h
          · exact .inl (List.mem_cons_of_mem _ h)
          · rcases List.mem_append.1 h with h | h
            · exact .inr h
            · obtain rfl := List.mem_singleton.1 h; exact .inl (by simp)
      obtain ⟨e1, e2⟩ := C.scan hi H1 ho' 4 (Nat.le_refl _)
      have hsz := C.size hpb.1 hpb.2
      have hf : (objs.getD (p - 1).toNat []).take 4 = objs.getD (p - 1).toNat [] := List.take_of_length_le (by rw [C.four _ hi]; omega)
      rw [hf] at e1 e2
      obtain ⟨h3, h4⟩ := C.shades _ H1 ho' e2
      rw [List.map_cons]
      dsimp only
      rw [hsz]
      dsimp only
      rw [show ((4 : Int)).toNat = 4 from rfl, hpp, e1]
      exact ⟨rfl, h3, h4.trans ho'.symm⟩
theorem Cw.begin (C : Cw n S objs) (l : List Int) (hl : ∀ b ∈ l, 0 ≤ b ∧ b ≤ n) (ho : K.on = false) : (mBegin S K (l.map ptrI)).2 = 0 ∧ CK n (mBegin S K (l.map ptrI)).1 (l.foldl dShade dStart) ∧ (mBegin S K (l.map ptrI)).1.on = true := by
  have hb : (l.map ptrI).any (mBad S) = false := by
    rw [List.any_eq_false]
    intro x hx
    obtain ⟨b, hb, rfl⟩ := List.mem_map.1 hx
    have h := hl b hb
    unfold mBad
    by_cases h0 : b = 0
    · subst h0; simp [ptrI]
    · rw [C.is (by omega) h.2]; simp
  unfold mBegin
  rw [if_neg (by rw [ho]; simp), if_neg (by rw [hb]; simp)]
  have H0 : CK n mStart dStart := ⟨rfl, rfl, fun b _ _ => by simp [mStart, dStart], ⟨by simp [dStart], fun b hb => by simp [dStart] at hb⟩⟩
  exact ⟨rfl, C.shades l H0 rfl hl⟩
theorem CK.color (H : CK n K R) {b : Int} (h1 : 1 ≤ b) (hn : b ≤ n) : mColor K (ptrI b) = dColor R b := by
  unfold mColor dColor
  rw [H.on]
  by_cases ho : R.on = false
  · rw [if_pos (.inl ho), if_pos ho]
  · rw [if_neg ho]
    have hg : (ptrI b ∈ K.greys) ↔ b ∈ R.greys := by
      rw [H.greys, List.mem_map]
      constructor
      · rintro ⟨x, hx, e⟩
        have := H.ok.bd x (.inl hx)
        rw [← ptrI_inj (by omega) (by omega) e]
        exact hx
      · exact fun h => ⟨b, h, rfl⟩
    by_cases hs : K.seen (ptrI b) = true
    · rw [if_neg (by simp [ho, hs])]
      by_cases h : b ∈ R.greys
      · rw [if_pos (hg.2 h), if_pos h]
      · rw [if_neg (fun h' => h (hg.1 h')), if_neg h, if_pos (((H.seen b h1 hn).1 hs).resolve_left h)]
    · have h2 : ¬ (b ∈ R.greys ∨ b ∈ R.black) := fun h => hs ((H.seen b h1 hn).2 h)
      rw [if_pos (.inr (by simpa using hs)), if_neg (fun h => h2 (.inl h)), if_neg (fun h => h2 (.inr h))]
end
end Go.Proofs.YtnoiepmapmcjdaaDoor
namespace Go.Proofs.YtnoiepmapmcjdaaDoor
open Go.RowKit Go.Shelf
theorem shade_black (R : RD) (b : Int) : (dShade R b).black = R.black ∧ (dShade R b).on = R.on := by
  unfold dShade
  split <;> exact ⟨rfl, rfl⟩
theorem shades_black : ∀ (l : List Int) (R : RD), (l.foldl dShade R).black = R.black ∧ (l.foldl dShade R).on = R.on
  | [], _ => ⟨rfl, rfl⟩
  | b :: l, R => by
    have h1 := shades_black l (dShade R b)
    have h2 := shade_black R b
    exact ⟨h1.1.trans h2.1, h1.2.trans h2.2⟩
theorem black_len {n : Nat} {R : RD} (H : DOk n R) : R.black.length ≤ n := by
  have hn := (List.nodup_append.1 H.nd).2.1
  exact nodup_lenI n _ hn fun x hx => H.bd x (.inr hx)
theorem step_cases (objs : List (List Int)) {R : RD} (ho : R.on = true) : (R.greys = [] ∧ dStep objs R = (R, false)) ∨ ∃ p g, R.greys = p :: g ∧ (dStep objs R).2 = true ∧ (dStep objs R).1 = (objs.getD (p - 1).toNat []).foldl dShade { R with greys := g, black := R.black ++ [p] } ∧ (dStep objs R).1.black = R.black ++ [p] ∧ (dStep objs R).1.on = true := by
  unfold dStep
  rw [if_neg (by rw [ho]; simp)]
  rcases hg : R.greys with _ | ⟨p, g⟩
  · exact .inl ⟨rfl, rfl⟩
  · exact .inr ⟨p, g, rfl, rfl, rfl, (shades_black _ _).1, (shades_black _ _).2.trans ho⟩
set_option maxHeartbeats 1600000 in
set_option maxRecDepth 100000 in
theorem finish_w (w0 : W0) (w : World) (q h m n : Nat) (S : HS) (K : MK) (R : RM) (H : LW w0 w q h m n S K R) (X : RD) (HX : CK n K X) (ho : K.on = true) :
    Calls Tryd.prog 15 #[.pointer (some ⟨q, 0, none⟩)] w fun e w' => e = .returned (.bool true) ∧ ∃ K9 X9, LW w0 w' q h m n S K9 R ∧ CK n K9 X9 ∧ X9.greys = [] ∧ K9.on = true ∧ ∀ P : RD → Prop, (∀ Y, DOk n Y → Y.on = true → P Y → P (dStep R.objs Y).1) → P X → P X9 := by
  have hn := H.c.n11
  replace H := Lib.hid H
  replace HX := Lib.hid HX
  go_enter Tryd.func15, Tryd.ntmps15
  go_wp2_with fail
  go_loopw [5] (fun i wr => ∃ (t : Nat) (K1 : MK) (X1 : RD), i = .int .i64 t ∧ Hid (LW w0 wr q h m n S K1 R) ∧ Hid (CK n K1 X1 ∧ K1.on = true ∧ t ≤ X1.black.length ∧ ∀ P : RD → Prop, (∀ Y, DOk n Y → Y.on = true → P Y → P (dStep R.objs Y).1) → P X → P X1)) (fun i _ => 13 - (intOf i).toNat)
  case atStart => exact ⟨0, K, X, rfl, H, Lib.hid ⟨HX.out, ho, Nat.zero_le _, fun P _ hP => hP⟩⟩
  case round =>
    clear H HX
    obtain ⟨t, K1, X1, rfl, H, hx⟩ := hrel
    obtain ⟨hck, ho1, ht, hP⟩ := hx.out
    have hbl := black_len hck.ok
    have t0 : (t : Int) < 13 := by omega
    have c1 := H.out.cells.2.1
    obtain ⟨e1, e2, e3⟩ := H.out.c.step hck
    have hS := Lib.hid (lstep H.out)
    rw [e1] at hS
    have hon : X1.on = true := hck.on ▸ ho1
    rcases step_cases R.objs hon with ⟨hg, hd⟩ | ⟨p, g, hg, hd, hd1, hdb, hdo⟩
    · rw [hd] at hS e2
      dsimp only at hS e2
      have e2 := Lib.hid e2
      have hfin := Lib.hid (show (mStep S K1).2.on = true from e3.trans ho1)
      replace hP := Lib.hid hP
      replace hg := Lib.hid hg
      clear hx hck ht e1 hd hbl
      go_wp2_with fail
      refine hS.out.mono ?_
      rintro e w2 ⟨rfl, H2⟩
      go_wp2_with fail
      go_ret
      exact ⟨rfl, _, X1, H2, e2.out, hg.out, hfin.out, hP.out⟩
    · rw [hd] at hS
      have hx2 := Lib.hid (show CK n (mStep S K1).2 (dStep R.objs X1).1 ∧ (mStep S K1).2.on = true ∧ t + 1 ≤ (dStep R.objs X1).1.black.length ∧ ∀ P : RD → Prop, (∀ Y, DOk n Y → Y.on = true → P Y → P (dStep R.objs Y).1) → P X → P (dStep R.objs X1).1 from
        ⟨e2, e3.trans ho1, by rw [hdb, List.length_append]; show t + 1 ≤ X1.black.length + 1; omega, fun P h1 h2 => h1 _ hck.ok hon (hP P h1 h2)⟩)
      clear hx hck ht e1 hd hbl e2 e3 hP hg hd1 hdb hdo
      go_wp2_with fail
      refine hS.out.mono ?_
      rintro e w2 ⟨rfl, H2⟩
      replace H2 := Lib.hid H2
      go_wp2_with fail
      go_roundw
      case rel => exact ⟨t + 1, _, _, by go_num, H2, hx2⟩
      case measure => simp [intOf]; omega
end Go.Proofs.YtnoiepmapmcjdaaDoor
namespace Go.Proofs.YtnoiepmapmcjdaaDoor
open Go.RowKit Go.Shelf
def aS : HS := sStore (Sn 3) (4 * ((0 : Nat) : Int) + 1) ((0 : Nat) : Int) (ptrI 2)
def aK1 : MK := (mBegin aS mNew [1]).1
def aK2 : MK := (mStep aS aK1).2
def aK3 : MK := (mStep aS aK2).2
def aK4 : MK := (mStep aS aK3).2
theorem a_begin : (mBegin aS mNew [1]).2 = 0 := by decide +kernel
theorem a_color : mColor aK1 1 = 1 := by decide +kernel
theorem a_s1 : (mStep aS aK1).1 = (true, 0) := by decide +kernel
theorem a_s2 : (mStep aS aK2).1 = (true, 0) := by decide +kernel
theorem a_s3 : (mStep aS aK3).1 = (false, 0) := by decide +kernel
theorem a_end : keepP aK4.seen (sAll aS) = [9] := by decide +kernel
theorem a_on : aK4.on = true := by decide +kernel
theorem aS_eq : sStore (Sn 3) (4 * ((0 : Nat) : Int) + 1) ((0 : Nat) : Int) (ptrI 2) = aS := rfl
theorem aK1_eq : (mBegin aS mNew [1]).1 = aK1 := rfl
theorem aK2_eq : (mStep aS aK1).2 = aK2 := rfl
theorem aK3_eq : (mStep aS aK2).2 = aK3 := rfl
theorem aK4_eq : (mStep aS aK3).2 = aK4 := rfl
attribute [irreducible] aS aK1 aK2 aK3 aK4
theorem lbegin2 {w0 : W0} {w w1 : World} {q h m n : Nat} {S : HS} {K : MK} {R : RM} (H : LW w0 w q h m n S K R) (hb : Below w.heap.size w w1) (vr : Value) (l : List Int) (hv : Rd i64e w1 vr l) (hl : l.length ≤ 4096) (hbd : ∀ x ∈ l, -9223372036854775808 ≤ x ∧ x ≤ 9223372036854775807) (hf : ∀ b, vr.ownBlock = some b → w.heap.size ≤ b) :
    Calls Tryd.prog 14 #[.pointer (some ⟨m, 0, none⟩), vr] w1 fun e w' => e = .returned (.int .i64 (mBegin S K l).2) ∧ LW w0 w' q h m n S (mBegin S K l).1 R := by
  obtain ⟨F, D, G, W, hF, b, C⟩ := H
  have b1 := b.below hb
  refine (begin_m m h S F K D w1 (W.mm.below hb) vr l hv hl hbd (fun _ k e hD => by have := W.mm.dlt k hD; have := hf k e; omega)).mono ?_
  rintro e w' ⟨rfl, D', M, s⟩
  exact ⟨rfl, LW.marks (W.below hb) hF b1 C M s⟩
set_option maxHeartbeats 3200000 in
set_option maxRecDepth 100000 in
theorem malive_ok (w : World) (hT : TabW w) : Calls Tryd.prog 9 #[] w fun e w' => e = .returned (.bool true) ∧ Below w.heap.size w w' := by
  have HB := Lib.hid (begin_w 3 w (by omega) hT)
  clear hT
  go_enter Tryd.func9, Tryd.ntmps9
  go_wp2_with fail
  refine HB.out.mono ?_
  rintro e w1 ⟨q, h, m, rfl, H1⟩
  replace H1 := Lib.hid H1
  clear HB
  go_wp2_with fail
  have hS0 : (fun X : World => X.cell? ⟨q, 1, none⟩ = some (.pointer (some ⟨m, 0, none⟩))) w1.drew := H1.out.cells.2.1
  refine wp_T (by kernel_rfl) 28 (fun X : World => X.cell? ⟨q, 1, none⟩ = some (.pointer (some ⟨m, 0, none⟩))) ?_
  refine wpAnyT_takeA (i := 0) (v := .bool true) rfl (by kernel_rfl) rfl (fun _ _ _ hp => hp) (Or.inl ⟨by kernel_rfl, fun X _ => by go_simp⟩) hS0 ?_
  simp only [Act.put, List.setIfInBounds_toArray, List.set_cons_zero, List.set_cons_succ]
  refine wpAnyT_takeA (i := 1) (v := .bool false) rfl (by kernel_rfl) rfl (fun _ _ _ hp => hp) (Or.inl ⟨by kernel_rfl, fun X _ => by go_simp⟩) hS0 ?_
  simp only [Act.put, List.setIfInBounds_toArray, List.set_cons_zero, List.set_cons_succ]
  refine wpAnyT_takeA (i := 2) (v := .bool false) rfl (by kernel_rfl) rfl (fun _ _ _ hp => hp) (Or.inl ⟨by kernel_rfl, fun X _ => by go_simp⟩) hS0 ?_
  simp only [Act.put, List.setIfInBounds_toArray, List.set_cons_zero, List.set_cons_succ]
  refine wpAnyT_takeA (i := 3) (v := .pointer (some ⟨q, 0, none⟩)) rfl (by kernel_rfl) rfl (fun _ _ _ hp => hp) (Or.inl ⟨by kernel_rfl, fun X _ => by go_simp⟩) hS0 ?_
  simp only [Act.put, List.setIfInBounds_toArray, List.set_cons_zero, List.set_cons_succ]
  refine wpAnyT_one (i := 4) rfl (by kernel_rfl) (by kernel_rfl) ?_
  intro K1 hK1
  have H1d := H1.out.below (show Below w1.heap.size w1 w1.drew from (Below.refl _ _).drew)
  go_simp
  refine (set_w _ q h m 3 _ _ _ _ H1d 0 0 2 (by omega) (by omega) (by omega)).mono ?_
  rintro e w2 ⟨rfl, H2⟩
  rw [aS_eq] at H2
  dsimp only
  have hS1 := H2.cells.2.1
  replace H2 := Lib.hid H2
  refine hK1.out _ _ (fun _ => hS1) ?_
  (try simp only [Act.put, List.setIfInBounds_toArray, List.set_cons_zero, List.set_cons_succ])
  refine wpAnyT_takeA (i := 5) (v := .bool false) rfl (by kernel_rfl) rfl (fun _ _ _ hp => hp) (Or.inl ⟨by kernel_rfl, fun X _ => by go_simp⟩) hS1 ?_
  simp only [Act.put, List.setIfInBounds_toArray, List.set_cons_zero, List.set_cons_succ]
  refine wpAnyT_takeA (i := 6) (v := .bool false) rfl (by kernel_rfl) rfl (fun _ _ _ hp => hp) (Or.inl ⟨by kernel_rfl, fun X _ => by go_simp⟩) hS1 ?_
  simp only [Act.put, List.setIfInBounds_toArray, List.set_cons_zero, List.set_cons_succ]
  refine wpAnyT_takeA (i := 7) (v := .bool false) rfl (by kernel_rfl) rfl (fun _ _ _ hp => hp) (Or.inl ⟨by kernel_rfl, fun X _ => by go_simp⟩) hS1 ?_
  simp only [Act.put, List.setIfInBounds_toArray, List.set_cons_zero, List.set_cons_succ]
  refine wpAnyT_takeA (i := 8) (v := .pointer (some ⟨q, 0, none⟩)) rfl (by kernel_rfl) rfl (fun _ _ _ hp => hp) (Or.inl ⟨by kernel_rfl, fun X _ => by go_simp⟩) hS1 ?_
  simp only [Act.put, List.setIfInBounds_toArray, List.set_cons_zero, List.set_cons_succ]
  refine wpAnyT_takeA (i := 9) (v := .pointer (some ⟨q, 0, none⟩)) rfl (by kernel_rfl) rfl (fun _ _ _ hp => hp) (Or.inl ⟨by kernel_rfl, fun X _ => by go_simp⟩) hS1 ?_
  simp only [Act.put, List.setIfInBounds_toArray, List.set_cons_zero, List.set_cons_succ]
  refine wpAnyT_takeA (i := 10) (v := .pointer (some ⟨q, 1, none⟩)) rfl (by kernel_rfl) rfl (fun _ _ _ hp => hp) (Or.inl ⟨by kernel_rfl, fun X _ => by go_simp⟩) hS1 ?_
  simp only [Act.put, List.setIfInBounds_toArray, List.set_cons_zero, List.set_cons_succ]
  refine wpAnyT_takeA (i := 12) (v := .pointer (some ⟨q, 0, none⟩)) rfl (by kernel_rfl) rfl (fun _ _ _ hp => hp) (Or.inl ⟨by kernel_rfl, fun X _ => by go_simp⟩) hS1 ?_
  simp only [Act.put, List.setIfInBounds_toArray, List.set_cons_zero, List.set_cons_succ]
  refine wpAnyT_takeA (i := 11) (v := .pointer (some ⟨m, 0, none⟩)) rfl (by kernel_rfl) rfl (fun _ _ _ hp => hp) (Or.inl ⟨by kernel_rfl, fun X hX => by have y1 : X.cell? ⟨q, 1, none⟩ = some (.pointer (some ⟨m, 0, none⟩)) := hX; go_simp⟩) hS1 ?_
  simp only [Act.put, List.setIfInBounds_toArray, List.set_cons_zero, List.set_cons_succ]
  refine wpAnyT_one (i := 13) rfl (by kernel_rfl) (by kernel_rfl) ?_
  intro K2 hK2
  have HP := lptr H2.out 1 (by omega)
  rw [show ptrI 1 = 1 from by decide] at HP
  go_simp
  refine HP.mono ?_
  rintro e _ ⟨rfl, rfl⟩
  dsimp only
  refine hK2.out _ _ (fun _ => hS1) ?_
  (try simp only [Act.put, List.setIfInBounds_toArray, List.set_cons_zero, List.set_cons_succ])
  refine wpAnyT_one (i := 14) rfl (by kernel_rfl) (by kernel_rfl) ?_
  intro K3 hK3
  have b3 := below_alloc w2 (.cells #[.int .i64 1] 3)
  have r3 : Rd i64e (w2.alloc (.cells #[.int .i64 1] 3)) (.slice (some ⟨w2.heap.size, 0, none⟩) 1 1) [1] := Rd.lit w2 3 [1] (by decide)
  have hS2 := (H2.out.below b3).cells.2.1
  go_simp
  refine hK3.out _ _ (fun _ => hS2) ?_
  (try simp only [Act.put, List.setIfInBounds_toArray, List.set_cons_zero, List.set_cons_succ])
  refine wpAnyT_one (i := 15) rfl (by kernel_rfl) (by kernel_rfl) ?_
  intro K4 hK4
  have HC := lbegin2 H2.out b3 _ [1] r3 (by decide) (by intro x hx; simp at hx; omega) (fun b e => by obtain rfl : w2.heap.size = b := (by simpa [Value.ownBlock] using e); exact Nat.le_refl _)
  rw [a_begin, aK1_eq] at HC
  go_simp
  refine HC.mono ?_
  rintro e w3 ⟨rfl, H3⟩
  dsimp only
  have hS3 := H3.cells.2.1
  replace H3 := Lib.hid H3
  refine hK4.out _ _ (fun _ => hS3) ?_
  (try simp only [Act.put, List.setIfInBounds_toArray, List.set_cons_zero, List.set_cons_succ])
  refine wpAnyT_takeA (i := 16) (v := .bool false) rfl (by kernel_rfl) rfl (fun _ _ _ hp => hp) (Or.inl ⟨by kernel_rfl, fun X _ => by go_simp⟩) hS3 ?_
  simp only [Act.put, List.setIfInBounds_toArray, List.set_cons_zero, List.set_cons_succ]
  refine wpAnyT_takeA (i := 17) (v := .bool false) rfl (by kernel_rfl) rfl (fun _ _ _ hp => hp) (Or.inl ⟨by kernel_rfl, fun X _ => by go_simp⟩) hS3 ?_
  simp only [Act.put, List.setIfInBounds_toArray, List.set_cons_zero, List.set_cons_succ]
  refine wpAnyT_takeA (i := 18) (v := .bool false) rfl (by kernel_rfl) rfl (fun _ _ _ hp => hp) (Or.inl ⟨by kernel_rfl, fun X _ => by go_simp⟩) hS3 ?_
  simp only [Act.put, List.setIfInBounds_toArray, List.set_cons_zero, List.set_cons_succ]
  refine wpAnyT_takeA (i := 19) (v := .pointer (some ⟨q, 0, none⟩)) rfl (by kernel_rfl) rfl (fun _ _ _ hp => hp) (Or.inl ⟨by kernel_rfl, fun X _ => by go_simp⟩) hS3 ?_
  simp only [Act.put, List.setIfInBounds_toArray, List.set_cons_zero, List.set_cons_succ]
  refine wpAnyT_takeA (i := 20) (v := .pointer (some ⟨q, 0, none⟩)) rfl (by kernel_rfl) rfl (fun _ _ _ hp => hp) (Or.inl ⟨by kernel_rfl, fun X _ => by go_simp⟩) hS3 ?_
  simp only [Act.put, List.setIfInBounds_toArray, List.set_cons_zero, List.set_cons_succ]
  refine wpAnyT_takeA (i := 21) (v := .pointer (some ⟨q, 1, none⟩)) rfl (by kernel_rfl) rfl (fun _ _ _ hp => hp) (Or.inl ⟨by kernel_rfl, fun X _ => by go_simp⟩) hS3 ?_
  simp only [Act.put, List.setIfInBounds_toArray, List.set_cons_zero, List.set_cons_succ]
  refine wpAnyT_takeA (i := 23) (v := .pointer (some ⟨q, 0, none⟩)) rfl (by kernel_rfl) rfl (fun _ _ _ hp => hp) (Or.inl ⟨by kernel_rfl, fun X _ => by go_simp⟩) hS3 ?_
  simp only [Act.put, List.setIfInBounds_toArray, List.set_cons_zero, List.set_cons_succ]
  refine wpAnyT_takeA (i := 22) (v := .pointer (some ⟨m, 0, none⟩)) rfl (by kernel_rfl) rfl (fun _ _ _ hp => hp) (Or.inl ⟨by kernel_rfl, fun X hX => by have y1 : X.cell? ⟨q, 1, none⟩ = some (.pointer (some ⟨m, 0, none⟩)) := hX; go_simp⟩) hS3 ?_
  simp only [Act.put, List.setIfInBounds_toArray, List.set_cons_zero, List.set_cons_succ]
  refine wpAnyT_one (i := 24) rfl (by kernel_rfl) (by kernel_rfl) ?_
  intro K5 hK5
  have HP := lptr H3.out 1 (by omega)
  rw [show ptrI 1 = 1 from by decide] at HP
  go_simp
  refine HP.mono ?_
  rintro e _ ⟨rfl, rfl⟩
  dsimp only
  refine hK5.out _ _ (fun _ => hS3) ?_
  (try simp only [Act.put, List.setIfInBounds_toArray, List.set_cons_zero, List.set_cons_succ])
  refine wpAnyT_one (i := 25) rfl (by kernel_rfl) (by kernel_rfl) ?_
  intro K6 hK6
  have HC := lcolor H3.out 1 (by omega) (by omega)
  rw [a_color] at HC
  go_simp
  refine HC.mono ?_
  rintro e _ ⟨rfl, rfl⟩
  dsimp only
  refine hK6.out _ _ (fun _ => hS3) ?_
  (try simp only [Act.put, List.setIfInBounds_toArray, List.set_cons_zero, List.set_cons_succ])
  refine wpAnyT_takeA (i := 26) (v := .bool false) rfl (by kernel_rfl) rfl (fun _ _ _ hp => hp) (Or.inl ⟨by kernel_rfl, fun X _ => by go_simp⟩) hS3 ?_
  simp only [Act.put, List.setIfInBounds_toArray, List.set_cons_zero, List.set_cons_succ]
  refine wpAnyT_takeA (i := 27) (v := .bool false) rfl (by kernel_rfl) rfl (fun _ _ _ hp => hp) (Or.inl ⟨by kernel_rfl, fun X _ => by go_simp⟩) hS3 ?_
  simp only [Act.put, List.setIfInBounds_toArray, List.set_cons_zero, List.set_cons_succ]
  refine wpAnyT_done (by kernel_rfl) ?_ _
  (try simp only [Act.put, List.setIfInBounds_toArray, List.set_cons_zero, List.set_cons_succ])
  clear hK1 K1 hK2 K2 hK3 K3 hK4 K4 hK5 K5 hK6 K6
  clear hS0 hS1 hS2 hS3 b3 r3 H1 H2
  have HS := Lib.hid (lstep H3.out)
  rw [a_s1, aK2_eq] at HS
  have c1 := H3.out.cells.2.1
  go_wp2_with fail
  refine HS.out.mono ?_
  rintro e w4 ⟨rfl, H4⟩
  replace H4 := Lib.hid H4
  clear HS c1 H3
  have HS := Lib.hid (lstep H4.out)
  rw [a_s2, aK3_eq] at HS
  have c1 := H4.out.cells.2.1
  go_wp2_with fail
  refine HS.out.mono ?_
  rintro e w5 ⟨rfl, H5⟩
  replace H5 := Lib.hid H5
  clear HS c1 H4
  have HS := Lib.hid (lstep H5.out)
  rw [a_s3, aK4_eq] at HS
  have c1 := H5.out.cells.2.1
  go_wp2_with fail
  refine HS.out.mono ?_
  rintro e w6 ⟨rfl, H6⟩
  replace H6 := Lib.hid H6
  clear HS c1 H5
  have HS := Lib.hid (lend_on H6.out a_on)
  rw [a_end] at HS
  have c1 := H6.out.cells.2.1
  go_wp2_with fail
  refine HS.out.mono ?_
  rintro e w7 ⟨v, rfl, hown, H7⟩
  obtain ⟨A7, c7, rfl, -⟩ := own_form hown
  have hrd := Rd.of_own (enc := i64e) (xs := [9]) hown
  obtain ⟨b, o, rfl, _, hc⟩ := hrd.at_ (i := 0) (by decide)
  replace hc : w7.cell? ⟨b, o, none⟩ = some (.int .i64 9) := hc
  replace H7 := Lib.hid H7
  clear HS c1 H6 hown hrd
  go_wp2_with fail
  go_quiet (first
    | (go_at_call 20; exact Calls.quiet_of_same (((lptr (H7.out.below (below_drewN (Below.refl _ _) _)) 3 (by omega))).mono fun _ _ h => ⟨h.1, h.2.symm⟩))
    | (go_at_call 26; exact Calls.quiet_of_same ((new_nil _).mono fun _ _ h => ⟨h.1, h.2.symm⟩)))
  have hb9 := Lib.hid (H7.out.b.trans ((below_drewN (Below.refl w7.heap.size w7) nq).mono H7.out.b.size))
  go_wp2_with fail
  go_ret
  exact ⟨ret_bool (show ((9 : Int) == ptrI 3) = true by decide), hb9.out⟩
end Go.Proofs.YtnoiepmapmcjdaaDoor
namespace Go.Proofs.YtnoiepmapmcjdaaDoor
open Go.RowKit Go.Shelf
abbrev u8e (n : Int) : Value := .int .u8 n
def nums (n : Nat) (l : List Int) : List Int := l.map fun x => x % ((n : Int) + 1)
theorem nums_bd {n : Nat} {l : List Int} : ∀ b ∈ nums n l, 0 ≤ b ∧ b ≤ n := by
  intro b hb
  obtain ⟨x, _, rfl⟩ := List.mem_map.1 hb
  have := Int.emod_nonneg x (show (n : Int) + 1 ≠ 0 by omega)
  have := Int.emod_lt_of_pos x (show (0 : Int) < (n : Int) + 1 by omega)
  omega
theorem map_take_snoc {α β : Type} (f : α → β) (l : List α) {j : Nat} (h : j < l.length) : (l.take (j + 1)).map f = (l.take j).map f ++ [f l[j]] := by
  rw [List.take_add_one, List.getElem?_eq_getElem h, List.map_append]
  rfl
set_option maxHeartbeats 3200000 in
set_option maxRecDepth 100000 in
theorem roots_w (w0 : W0) (w : World) (q h m n : Nat) (S : HS) (K : MK) (R : RM) (H : LW w0 w q h m n S K R) (v : Value) (l : List Int) (hv : Rd u8e w v l) (hl : l.length ≤ 20) (hbd : ∀ x ∈ l, 0 ≤ x ∧ x ≤ 255) :
    Calls Tryd.prog 13 #[.pointer (some ⟨q, 0, none⟩), v] w fun e w' => ∃ va vb, e = .returned (.tuple #[va, vb]) ∧ Rd i64e w' va ((nums n l).map ptrI) ∧ Rd i64e w' vb (nums n l) ∧ (∀ b, va.ownBlock = some b → w.heap.size ≤ b) ∧ (∀ b, vb.ownBlock = some b → w.heap.size ≤ b) ∧ Below w.heap.size w w' := by
  have hn := H.c.n11
  obtain ⟨A, c, rfl, -⟩ := hv.len
  have HBd := Lib.hid hbd
  have HV := Lib.hid hv
  obtain ⟨Ap, cp, hcp⟩ : ∃ Ap cp, ∀ wx, Below w.heap.size w wx → wx.cell? ⟨q, 2, none⟩ = some (.slice Ap n cp) := by
    obtain ⟨F, D, G, W, _⟩ := H
    obtain ⟨vp, vo, vg, vb, I⟩ := W.wi
    obtain ⟨Ap, cp, rfl, -⟩ := I.pr.rd.len
    refine ⟨Ap, cp, fun wx bx => ?_⟩
    rw [World.cell?_of_block (bx.block q I.blk.lt), ← ptrs_len n]
    exact I.blk.cell 2
  replace hcp := Lib.hid hcp
  replace H := Lib.hid H
  clear hbd hv
  obtain ⟨ks, hks⟩ : ∃ ks, ks = nums n l := ⟨_, rfl⟩
  have hkl : ks.length = l.length := by rw [hks]; simp [nums]
  have hkb : ∀ b ∈ ks, 0 ≤ b ∧ b ≤ n := by rw [hks]; exact nums_bd
  rw [← hks]
  have hke : ∀ j (h1 : j < l.length) (h2 : j < ks.length), ks[j] = l[j] % ((n : Int) + 1) := fun j h1 h2 => by subst hks; simp [nums]
  replace hkb := Lib.hid hkb
  replace hke := Lib.hid hke
  clear hks
  go_enter Tryd.func13, Tryd.ntmps13
  go_wp2_with fail
  go_loopw [6, 7, 13] (fun va vb i wr => ∃ j : Nat, j ≤ l.length ∧ i = .int .i64 j ∧ Hid (wr.ownsRow w.heap.size 3 1 va j (((ks.take j).map ptrI).map i64e)) ∧ Hid (wr.ownsRow w.heap.size 3 1 vb j ((ks.take j).map i64e)) ∧ Hid (∀ g, va.ownBlock = some g → vb.ownBlock ≠ some g) ∧ Below w.heap.size w wr) (fun _ _ i _ => l.length - (intOf i).toNat)
  case atStart => exact ⟨0, by omega, rfl, Lib.hid (World.ownsRow_nil _ _ _ _), Lib.hid (World.ownsRow_nil _ _ _ _), Lib.hid fun g e => (by cases e), Below.refl _ _⟩
  case round =>
    obtain ⟨j, hj, rfl, ha, hb, hab, hbw⟩ := hrel
    obtain ⟨Aa, ca, rfl, -⟩ := own_form ha.out
    obtain ⟨Ab, cb, rfl, -⟩ := own_form hb.out
    by_cases hlt : j < l.length
    · have t0 : (j : Int) < (l.length : Int) := by omega
      obtain ⟨b, o, rfl, _, hc⟩ := (HV.out.below hbw).at_ hlt
      have hxb := HBd.out _ (List.getElem_mem hlt)
      have hjk : j < ks.length := by omega
      have hkj := hke.out j hlt hjk
      have hkjb := hkb.out _ (List.getElem_mem hjk)
      obtain ⟨x, hx⟩ : ∃ x, l[j] = x := ⟨_, rfl⟩
      obtain ⟨y, hy⟩ : ∃ y, ks[j] = y := ⟨_, rfl⟩
      rw [hx] at hc hxb hkj
      rw [hy] at hkj hkjb
      replace hc : wr.cell? ⟨b, o + j, none⟩ = some (.int .u8 x) := hc
      have c2 := hcp.out wr hbw
      have hP := Lib.hid (lptr (H.out.below hbw) y hkjb)
      have hz := hbw.size
      have hym : x % ((n : Int) + 1) = y := hkj.symm
      have sa : ((ks.take j).map ptrI).map i64e ++ [.int .i64 (ptrI y)] = ((ks.take (j + 1)).map ptrI).map i64e := by
        rw [map_take_snoc ptrI ks hjk, List.map_append, hy]; rfl
      have sb : (ks.take j).map i64e ++ [.int .i64 y] = (ks.take (j + 1)).map i64e := by
        rw [map_take_snoc i64e ks hjk, hy]
      replace sa := Lib.hid sa
      replace sb := Lib.hid sb
      clear hx hy hkj
      go_wp2_with fail
      rw [hym]
      refine hP.out.mono ?_
      rintro e _ ⟨rfl, rfl⟩
      clear hP c2 hc
      go_wp2_with (at_builtin; refine wpList_push rfl (.tmp 26) (.tmp 30) _ rfl w.heap.size 3 _ 8 Tryd.underlying34 int_info rfl (.slice Aa j ca) _ _ rfl ha.out _ rfl rfl (by unfold maxLen; omega) (by omega) hz ?_; intro v1 w1 ho1 hg1 hat1; refine stop_here ?_)
      rw [sa.out] at ho1
      obtain ⟨A1, c1, rfl, -⟩ := own_form ho1
      have hb1 := hb.out.kept hg1 (by
        rcases hbo : (Value.slice Ab j cb).ownBlock with _ | g
        · exact .inl rfl
        · exact .inr fun e => hab.out g e.symm hbo)
      have hbw1 := hbw.grown hg1 hz (fun g e => (ha.out.lt g e).1)
      have hn1 : ∀ g, (Value.slice A1 (j + 1) c1).ownBlock = some g → (Value.slice Ab j cb).ownBlock ≠ some g := fun g e e2 => by
        rcases hat1 with h | h
        · exact hab.out g (h.symm.trans e) e2
        · have := (hb.out.lt g e2).2
          rw [h] at e; cases e; omega
      have hz1 := hbw1.size
      replace ho1 := Lib.hid ho1
      replace hb1 := Lib.hid hb1
      replace hn1 := Lib.hid hn1
      clear hg1 hat1 hb ha
      refine go_on ?_
      go_wp2_with (at_builtin; refine wpList_push rfl (.tmp 32) (.tmp 34) _ rfl w.heap.size 3 _ 8 Tryd.underlying34 int_info rfl (.slice Ab j cb) _ _ rfl hb1.out _ rfl rfl (by unfold maxLen; omega) (by omega) hz1 ?_; intro v2 w2 ho2 hg2 hat2; refine stop_here ?_)
      rw [sb.out] at ho2
      obtain ⟨A2, cc2, rfl, -⟩ := own_form ho2
      have ha2 := Lib.hid (ho1.out.kept hg2 (by
        rcases hbo : (Value.slice A1 (j + 1) c1).ownBlock with _ | g
        · exact .inl rfl
        · exact .inr fun e => hn1.out g hbo e.symm))
      have hbw2 := hbw1.grown hg2 hz1 (fun g e => (hb1.out.lt g e).1)
      have hn2 : Hid (∀ g, (Value.slice A1 (j + 1) c1).ownBlock = some g → (Value.slice A2 (j + 1) cc2).ownBlock ≠ some g) := Lib.hid fun g e e2 => by
        rcases hat2 with h | h
        · exact hn1.out g e (h.symm.trans e2)
        · have := (ho1.out.lt g e).2
          rw [h] at e2; cases e2; omega
      replace ho2 := Lib.hid ho2
      clear hg2 hat2 ho1 hb1
      refine go_on ?_
      go_wp2_with fail
      go_roundw
      case rel => exact ⟨j + 1, by omega, by go_num, ha2, ho2, hn2, hbw2⟩
      case measure => simp [intOf]; omega
    · obtain rfl : j = l.length := by omega
      have ha2 := ha.out
      have hb2 := hb.out
      rw [List.take_of_length_le (by omega)] at ha2 hb2
      have ra : Rd i64e wr (.slice Aa l.length ca) (ks.map ptrI) := Rd.of_own (by rw [List.length_map, hkl]; exact ha2)
      have rb : Rd i64e wr (.slice Ab l.length cb) ks := Rd.of_own (by rw [hkl]; exact hb2)
      have fa := own_from ha2
      have fb := own_from hb2
      replace ra := Lib.hid ra
      replace rb := Lib.hid rb
      clear ha2 hb2
      go_wp2_with fail
      go_ret2
      exact ⟨_, _, rfl, ra.out, rb.out, fa, fb, hbw⟩
end Go.Proofs.YtnoiepmapmcjdaaDoor
namespace Go.Proofs.YtnoiepmapmcjdaaDoor
open Go.RowKit Go.Shelf
abbrev boe (b : Bool) : Value := .bool b
theorem bool_row : (Tryd.prog.info? 4).map (fun i => (i.zero, i.size, i.bytes)) = some (some (.bool false), 1, 1) := by kernel_rfl
def setB (had : List Bool) (b : Int) : List Bool := had.set b.toNat true
def rRow (objs : List (List Int)) (had : List Bool) (i : Nat) : List Bool := if had.getD (i + 1) false = true then (objs.getD i []).foldl setB had else had
def rRound (objs : List (List Int)) (n : Nat) (had : List Bool) : List Bool := (List.range n).foldl (rRow objs) had
def rRounds (objs : List (List Int)) (n : Nat) : Nat → List Bool → List Bool
  | 0, had => had
  | t + 1, had => rRound objs n (rRounds objs n t had)
def rReach (objs : List (List Int)) (n : Nat) (roots : List Int) : List Bool := (rRounds objs n n (roots.foldl setB (List.replicate (n + 1) false))).set 0 false
theorem setB_len (had : List Bool) (b : Int) : (setB had b).length = had.length := by simp [setB]
theorem setBs_len : ∀ (l : List Int) (had : List Bool), (l.foldl setB had).length = had.length
  | [], _ => rfl
  | b :: l, had => (setBs_len l (setB had b)).trans (setB_len had b)
theorem rRow_len (objs : List (List Int)) (had : List Bool) (i : Nat) : (rRow objs had i).length = had.length := by
  unfold rRow
  split
  · exact setBs_len _ _
  · rfl
theorem fold_len {α : Type} (f : List Bool → α → List Bool) (hf : ∀ h a, (f h a).length = h.length) : ∀ (l : List α) (had : List Bool), (l.foldl f had).length = had.length
  | [], _ => rfl
  | b :: l, had => (fold_len f hf l (f had b)).trans (hf had b)
theorem rRounds_len (objs : List (List Int)) (n : Nat) (had : List Bool) : ∀ t, (rRounds objs n t had).length = had.length
  | 0 => rfl
  | t + 1 => (fold_len _ (rRow_len objs) _ _).trans (rRounds_len objs n had t)
theorem getD_set_b (had : List Bool) (i j : Nat) (hi : i < had.length) : (had.set i true).getD j false = if j = i then true else had.getD j false := by
  by_cases e : j = i
  · subst e; rw [if_pos rfl]; simp [List.getD, hi]
  · rw [if_neg e]; simp [List.getD, List.getElem?_set_ne (Ne.symm e)]
theorem setB_keep {had : List Bool} {j : Nat} (h : had.getD j false = true) (b : Int) : (setB had b).getD j false = true := by
  unfold setB
  by_cases hb : b.toNat < had.length
  · rw [getD_set_b had _ _ hb]
    split
    · rfl
    · exact h
  · rw [List.set_eq_of_length_le (by omega)]; exact h
theorem setBs_keep : ∀ (l : List Int) {had : List Bool} {j : Nat}, had.getD j false = true → (l.foldl setB had).getD j false = true
  | [], _, _, h => h
  | b :: l, had, j, h => setBs_keep l (setB_keep h b)
/-- A row of truths, one of them set. -/
theorem own_setB {w : World} {B g n : Nat} {had : List Bool} (h : w.ownsRow B 4 1 (.slice (some ⟨g, 0, none⟩) (n + 1) (n + 1)) (n + 1) (had.map boe)) (x : Nat) :
    (w.setCell ⟨g, x, none⟩ (.bool true)).ownsRow B 4 1 (.slice (some ⟨g, 0, none⟩) (n + 1) (n + 1)) (n + 1) ((setB had (x : Int)).map boe) ∧ w.grownBy (w.setCell ⟨g, x, none⟩ (.bool true)) (some g) := by
  obtain ⟨h1, h2⟩ := h.stored x (.bool true)
  refine ⟨?_, h2⟩
  unfold setB
  rw [Int.toNat_natCast, List.map_set]
  exact h1
set_option maxHeartbeats 3200000 in
set_option maxRecDepth 100000 in
theorem reach_w {P : Nat → Prop} (n : Nat) (vo vr : Value) (objs : List (List Int)) (roots : List Int) (w : World) (hO : RdLL P w vo objs) (hol : objs.length = n) (hn : n ≤ 11) (hrow : ∀ i, i < n → (objs.getD i []).length = 4) (hbd : ∀ i, i < n → ∀ b ∈ objs.getD i [], 0 ≤ b ∧ b ≤ n)
    (hr : Rd i64e w vr roots) (hrl : roots.length ≤ 20) (hrb : ∀ b ∈ roots, 0 ≤ b ∧ b ≤ n) :
    Calls Tryd.prog 17 #[vo, vr] w fun e w' => ∃ v, e = .returned v ∧ w'.ownsRow w.heap.size 4 1 v (n + 1) ((rReach objs n roots).map boe) ∧ Below w.heap.size w w' := by
  have hmk : ∀ W, (Instr.makeSlice 46 (.int .i64 ((n : Int) + 1)) (.int .i64 ((n : Int) + 1))).run Tryd.prog W = .ok (.slice (some ⟨W.heap.size, 0, none⟩) (n + 1) (n + 1)) (W.alloc (.cells (List.replicate (n + 1) (Value.bool false)).toArray 4)) :=
    fun W => by
      have := run_make_row' (P := Tryd.prog) 46 4 (.bool false) 1 Tryd.underlying46 bool_row rfl .i64 .i64 (n + 1) (by omega) (by omega) W
      rw [made_one] at this
      exact this
  obtain ⟨RR, hRR⟩ : ∃ RR, rReach objs n roots = RR := ⟨_, rfl⟩
  rw [hRR]
  replace hRR := Lib.hid hRR
  obtain ⟨us, u1, u2, u3⟩ := hO
  obtain ⟨Ao, co, rfl, -⟩ := u2.rd.len
  obtain ⟨Ar, cr, rfl, -⟩ := hr.len
  have hul : us.length = n := by omega
  have HO := Lib.hid (fun wx (bx : Below w.heap.size w wx) => u2.rd.below bx)
  have HU := Lib.hid (fun wx (bx : Below w.heap.size w wx) i (h1 : i < us.length) (h2 : i < objs.length) => (u3 i h1 h2).rd.below bx)
  have HR := Lib.hid (fun wx (bx : Below w.heap.size w wx) => hr.below bx)
  replace hrow := Lib.hid hrow
  replace hbd := Lib.hid hbd
  replace hrb := Lib.hid hrb
  rw [hul]
  replace u1 := Lib.hid u1
  replace hol := Lib.hid hol
  replace hul := Lib.hid hul
  clear u2 u3 hr
  have hb0 := below_alloc w (.cells (List.replicate (n + 1) (Value.bool false)).toArray 4)
  have ho0 : (w.alloc (.cells (List.replicate (n + 1) (Value.bool false)).toArray 4)).ownsRow w.heap.size 4 1 (.slice (some ⟨w.heap.size, 0, none⟩) (n + 1) (n + 1)) (n + 1) ((List.replicate (n + 1) false).map boe) := by
    rw [List.map_replicate]
    exact ⟨by simp, .inr ⟨w.heap.size, n + 1, _, rfl, Nat.le_refl _, heap_alloc_new w _, Nat.le_refl _, by unfold maxLen; omega, by simp, by simp⟩⟩
  obtain ⟨g, hg⟩ : ∃ g, g = w.heap.size := ⟨_, rfl⟩
  replace hb0 := Lib.hid hb0
  replace ho0 := Lib.hid ho0
  go_enter Tryd.func17, Tryd.ntmps17
  go_wp2_with fail
  rw [← hg] at ho0 ⊢
  replace hg := Lib.hid hg
  -- the roots
  go_loopw [6] (fun i wr => ∃ j : Nat, j ≤ roots.length ∧ i = .int .i64 j ∧ Hid (wr.ownsRow g 4 1 (.slice (some ⟨g, 0, none⟩) (n + 1) (n + 1)) (n + 1) (((roots.take j).foldl setB (List.replicate (n + 1) false)).map boe)) ∧ Hid (Below w.heap.size w wr)) (fun i _ => roots.length - (intOf i).toNat)
  case atStart => exact ⟨0, by omega, rfl, ho0, hb0⟩
  case round =>
    clear ho0 hb0
    obtain ⟨j, hj, rfl, ho, hb⟩ := hrel
    by_cases hlt : j < roots.length
    · have t0 : (j : Int) < (roots.length : Int) := by omega
      obtain ⟨b, o, rfl, _, hc⟩ := (HR.out wr hb.out).at_ hlt
      have hxb := hrb.out _ (List.getElem_mem hlt)
      have hfold : (roots.take (j + 1)).foldl setB (List.replicate (n + 1) false) = setB ((roots.take j).foldl setB (List.replicate (n + 1) false)) roots[j] := by
        rw [List.take_add_one, List.getElem?_eq_getElem hlt, List.foldl_append]
        rfl
      obtain ⟨x, hx⟩ : ∃ x : Nat, roots[j] = (x : Int) := ⟨(roots[j]).toNat, by omega⟩
      rw [hx] at hc hxb hfold
      obtain ⟨had, hhad⟩ : ∃ had, had = (roots.take j).foldl setB (List.replicate (n + 1) false) := ⟨_, rfl⟩
      have hal : had.length = n + 1 := by rw [hhad, setBs_len]; simp
      rw [← hhad] at ho hfold
      replace hc : wr.cell? ⟨b, o + j, none⟩ = some (.int .i64 (x : Int)) := hc
      have hxn : (x : Int) < (n : Int) + 1 := by omega
      obtain ⟨ub, hcx⟩ : ∃ ub, wr.cell? ⟨g, x, none⟩ = some (.bool ub) := ⟨had[x]'(by omega), by
        rw [ho.out.cellAt x (by omega), List.getElem?_map, List.getElem?_eq_getElem (by omega)]
        rfl⟩
      have hfx := ho.out.frozenAt x
      obtain ⟨ho2, hg2⟩ := own_setB ho.out x
      rw [← hfold] at ho2
      have hb2 := Lib.hid (hb.out.grown hg2 hb.out.size (fun k e => by cases e; exact Nat.le_of_eq hg.out.symm))
      replace ho2 := Lib.hid ho2
      clear hx hhad hfold hg2 ho hb
      go_wp2_with fail
      go_roundw
      case rel => exact ⟨j + 1, by omega, by go_num, ho2, hb2⟩
      case measure => simp [intOf]; omega
    · obtain rfl : j = roots.length := by omega
      rw [List.take_length] at ho
      obtain ⟨H0, hH0⟩ : ∃ H0, H0 = roots.foldl setB (List.replicate (n + 1) false) := ⟨_, rfl⟩
      have h0l : H0.length = n + 1 := by rw [hH0, setBs_len]; simp
      have hfin : rReach objs n roots = (rRounds objs n n H0).set 0 false := by rw [hH0]; rfl
      rw [← hH0] at ho
      replace hfin := Lib.hid (hRR.out.symm.trans hfin)
      replace h0l := Lib.hid h0l
      clear hH0
      go_wp2_with fail
      go_loopw [8] (fun i wr => ∃ j : Nat, j ≤ n ∧ i = .int .i64 j ∧ Hid (wr.ownsRow g 4 1 (.slice (some ⟨g, 0, none⟩) (n + 1) (n + 1)) (n + 1) ((rRounds objs n j H0).map boe)) ∧ Hid (Below w.heap.size w wr)) (fun i _ => n - (intOf i).toNat)
      case atStart => exact ⟨0, by omega, rfl, ho, hb⟩
      case round =>
        clear ho hb
        obtain ⟨t, ht, rfl, ho, hb⟩ := hrel
        have hHl : (rRounds objs n t H0).length = n + 1 := (rRounds_len objs n H0 t).trans h0l.out
        by_cases hlt2 : t < n
        · have t2 : (t : Int) < (n : Int) := by omega
          have hnx : rRounds objs n (t + 1) H0 = rRound objs n (rRounds objs n t H0) := rfl
          obtain ⟨Ht, hHt⟩ : ∃ Ht, Ht = rRounds objs n t H0 := ⟨_, rfl⟩
          rw [← hHt] at ho hHl hnx
          replace hnx := Lib.hid hnx
          replace hHl := Lib.hid hHl
          clear hHt
          go_wp2_with fail
          go_loopw [9] (fun i wr => ∃ j : Nat, j ≤ n ∧ i = .int .i64 ((j : Int) + 1) ∧ Hid (wr.ownsRow g 4 1 (.slice (some ⟨g, 0, none⟩) (n + 1) (n + 1)) (n + 1) (((List.range j).foldl (rRow objs) Ht).map boe)) ∧ Hid (Below w.heap.size w wr)) (fun i _ => n + 1 - (intOf i).toNat)
          case atStart => exact ⟨0, by omega, rfl, ho, hb⟩
          case round =>
            clear ho hb
            obtain ⟨k, hk, rfl, ho, hb⟩ := hrel
            have hkl : ((List.range k).foldl (rRow objs) Ht).length = n + 1 := (fold_len _ (rRow_len objs) _ _).trans hHl.out
            by_cases hlt3 : k < n
            · have t3 : (k : Int) + 1 ≤ (n : Int) := by omega
              have hnk : (List.range (k + 1)).foldl (rRow objs) Ht = rRow objs ((List.range k).foldl (rRow objs) Ht) k := by
                rw [List.range_succ, List.foldl_append]
                rfl
              obtain ⟨Hk, hHk⟩ : ∃ Hk, Hk = (List.range k).foldl (rRow objs) Ht := ⟨_, rfl⟩
              rw [← hHk] at ho hkl hnk
              clear hHk
              have hki : (k : Int) + 1 < (n : Int) + 1 := by omega
              have hks : ((k : Int) + 1) = (((k + 1 : Nat)) : Int) := by omega
              rcases hbk : Hk.getD (k + 1) false with _ | _
              · have hnk2 : Hid ((List.range (k + 1)).foldl (rRow objs) Ht = Hk) := Lib.hid (by rw [hnk]; unfold rRow; rw [if_neg (by rw [hbk]; simp)])
                replace hbk := Lib.hid hbk
                replace hkl := Lib.hid hkl
                replace hks := Lib.hid hks
                clear hnk
                go_wp2_with fail
                go_loopw [10] (fun i wx => i = .int .i64 0 ∧ Hid (wx.ownsRow g 4 1 (.slice (some ⟨g, 0, none⟩) (n + 1) (n + 1)) (n + 1) (Hk.map boe)) ∧ Hid (Below w.heap.size w wx)) (fun i _ => 0)
                case atStart => exact ⟨rfl, ho, hb⟩
                case round =>
                  clear ho hb
                  obtain ⟨rfl, ho, hb⟩ := hrel
                  have ck : wr.cell? ⟨g, k + 1, none⟩ = some (.bool false) := by
                    rw [ho.out.cellAt (k + 1) (by omega), List.getElem?_map]
                    have := hbk.out
                    simp only [List.getD] at this
                    rw [List.getElem?_eq_getElem (by rw [hkl.out]; omega)] at this ⊢
                    show some (Value.bool _) = _
                    rw [show Hk[k + 1]'_ = false from this]
                  go_wp2_with fail
                  go_roundw
                  case rel => exact ⟨k + 1, by omega, by go_num, Lib.hid (by rw [hnk2.out]; exact ho.out), hb⟩
                  case measure => simp [intOf]; omega
              · have hnk2 : Hid ((List.range (k + 1)).foldl (rRow objs) Ht = (objs.getD k []).foldl setB Hk) := Lib.hid (by rw [hnk]; unfold rRow; rw [if_pos hbk])
                obtain ⟨row, hrw⟩ : ∃ row, row = objs.getD k [] := ⟨_, rfl⟩
                have hr4 : row.length = 4 := by rw [hrw]; exact hrow.out k hlt3
                have hrb4 : ∀ b ∈ row, 0 ≤ b ∧ b ≤ n := by rw [hrw]; exact hbd.out k hlt3
                have hob : objs[k]'(by rw [hol.out]; exact hlt3) = row := by
                  rw [hrw]
                  simp [List.getD, show k < objs.length by rw [hol.out]; exact hlt3]
                rw [← hrw] at hnk2
                replace hrb4 := Lib.hid hrb4
                replace hob := Lib.hid hob
                replace hbk := Lib.hid hbk
                replace hkl := Lib.hid hkl
                replace hks := Lib.hid hks
                clear hnk hrw
                go_wp2_with fail
                go_loopw [10] (fun i wx => ∃ j : Nat, j ≤ row.length ∧ i = .int .i64 j ∧ Hid (wx.ownsRow g 4 1 (.slice (some ⟨g, 0, none⟩) (n + 1) (n + 1)) (n + 1) (((row.take j).foldl setB Hk).map boe)) ∧ Hid (Below w.heap.size w wx)) (fun i _ => row.length - (intOf i).toNat)
                case atStart => exact ⟨0, by omega, rfl, ho, hb⟩
                case round =>
                  clear ho hb
                  obtain ⟨j, hj, rfl, ho, hb⟩ := hrel
                  obtain ⟨Hj, hHj⟩ : ∃ Hj, Hj = (row.take j).foldl setB Hk := ⟨_, rfl⟩
                  have hjl : Hj.length = n + 1 := by rw [hHj, setBs_len, hkl.out]
                  have hjk : Hj.getD (k + 1) false = true := by rw [hHj]; exact setBs_keep _ hbk.out
                  have hHx := Lib.hid hHj
                  rw [← hHj] at ho
                  have ck : wr.cell? ⟨g, k + 1, none⟩ = some (.bool true) := by
                    rw [ho.out.cellAt (k + 1) (by omega), List.getElem?_map]
                    simp only [List.getD] at hjk
                    rw [List.getElem?_eq_getElem (by omega)] at hjk ⊢
                    show some (Value.bool _) = _
                    rw [show Hj[k + 1]'_ = true from hjk]
                  obtain ⟨bo, oo, rfl, _, hco⟩ := (HO.out wr hb.out).at_ (i := k) (by rw [hul.out]; exact hlt3)
                  have hrd := HU.out wr hb.out k (by rw [hul.out]; exact hlt3) (by rw [hol.out]; exact hlt3)
                  rw [hob.out] at hrd
                  obtain ⟨Al, cl, hus, -⟩ := hrd.len
                  rw [hus] at hco hrd
                  have hkn : (k : Int) < (n : Int) := by omega
                  replace hHj := Lib.hid hHj
                  replace hjk := Lib.hid hjk
                  replace hus := Lib.hid hus
                  by_cases hlt4 : j < row.length
                  · have t4 : (j : Int) < (row.length : Int) := by omega
                    obtain ⟨bl, ol, rfl, _, hcl⟩ := hrd.at_ hlt4
                    have hxb := hrb4.out _ (List.getElem_mem hlt4)
                    obtain ⟨x, hx⟩ : ∃ x : Nat, row[j] = (x : Int) := ⟨(row[j]).toNat, by omega⟩
                    have hfold : (row.take (j + 1)).foldl setB Hk = setB Hj (x : Int) := by
                      rw [List.take_add_one, List.getElem?_eq_getElem hlt4, List.foldl_append, ← hHj.out, hx]
                      rfl
                    rw [hx] at hcl hxb
                    replace hcl : wr.cell? ⟨bl, ol + j, none⟩ = some (.int .i64 (x : Int)) := hcl
                    have hxn : (x : Int) < (n : Int) + 1 := by omega
                    obtain ⟨ub, hcx⟩ : ∃ ub, wr.cell? ⟨g, x, none⟩ = some (.bool ub) := ⟨Hj[x]'(by omega), by
                      rw [ho.out.cellAt x (by omega), List.getElem?_map, List.getElem?_eq_getElem (by omega)]
                      rfl⟩
                    have hfx := ho.out.frozenAt x
                    obtain ⟨ho2, hg2⟩ := own_setB ho.out x
                    rw [← hfold] at ho2
                    have hb2 := Lib.hid (hb.out.grown hg2 hb.out.size (fun k e => by cases e; exact Nat.le_of_eq hg.out.symm))
                    replace ho2 := Lib.hid ho2
                    replace hx := Lib.hid hx
                    replace hrd := Lib.hid hrd
                    clear hfold hg2 ho hb
                    go_wp2_with fail
                    go_roundw
                    case rel => exact ⟨j + 1, by omega, by go_num, ho2, hb2⟩
                    case measure => simp [intOf]; omega
                  · obtain rfl : j = row.length := by omega
                    have t4 : decide ((row.length : Int) < (row.length : Int)) = false := by rw [decide_eq_false_iff_not]; omega
                    have he : Hid ((List.range (k + 1)).foldl (rRow objs) Ht = Hj) := Lib.hid (by rw [hnk2.out, hHj.out, List.take_length])
                    replace hrd := Lib.hid hrd
                    go_wp2_with fail
                    go_roundw
                    case rel => exact ⟨k + 1, by omega, by go_num, Lib.hid (by rw [he.out]; exact ho.out), hb⟩
                    case measure => simp [intOf]; omega
            · obtain rfl : k = n := by omega
              have hnx2 : Hid (rRounds objs k (t + 1) H0 = (List.range k).foldl (rRow objs) Ht) := hnx
              have t3 : decide ((k : Int) + 1 ≤ (k : Int)) = false := by rw [decide_eq_false_iff_not]; omega
              go_wp2_with fail
              go_roundw
              case rel => exact ⟨t + 1, by omega, by go_num, Lib.hid (by rw [hnx2.out]; exact ho.out), hb⟩
              case measure => simp [intOf]; omega
        · obtain rfl : t = n := by omega
          obtain ⟨Ht, hHt⟩ : ∃ Ht, Ht = rRounds objs t t H0 := ⟨_, rfl⟩
          rw [← hHt] at ho hHl
          obtain ⟨ub, hcx⟩ : ∃ ub, wr.cell? ⟨g, 0, none⟩ = some (.bool ub) := ⟨Ht[0]'(by omega), by
            rw [ho.out.cellAt 0 (by omega), List.getElem?_map, List.getElem?_eq_getElem (by omega)]
            rfl⟩
          have hfx := ho.out.frozenAt 0
          obtain ⟨ho2, hg2⟩ := ho.out.stored 0 (.bool false)
          rw [show (Ht.map boe).set 0 (.bool false) = (Ht.set 0 false).map boe by rw [List.map_set]] at ho2
          have hb2 := Lib.hid (hb.out.grown hg2 hb.out.size (fun k e => by cases e; exact Nat.le_of_eq hg.out.symm))
          have he : RR = Ht.set 0 false := by rw [hfin.out, hHt]
          replace he := Lib.hid he
          replace ho2 := Lib.hid ho2
          replace hHt := Lib.hid hHt
          clear hg2
          go_wp2_with fail
          go_ret
          exact ⟨_, rfl, by rw [he.out, ← hg.out]; exact ho2.out, hb2.out⟩
end Go.Proofs.YtnoiepmapmcjdaaDoor
namespace Go.Proofs.YtnoiepmapmcjdaaDoor
inductive Rch (objs : List (List Int)) (n : Nat) (roots : List Int) : Int → Prop
  | root {b : Int} : b ∈ roots → 1 ≤ b → b ≤ n → Rch objs n roots b
  | step {a b : Int} : Rch objs n roots a → b ∈ objs.getD (a - 1).toNat [] → 1 ≤ b → b ≤ n → Rch objs n roots b
theorem Rch.bd {objs : List (List Int)} {n : Nat} {roots : List Int} {b : Int} (h : Rch objs n roots b) : 1 ≤ b ∧ b ≤ n := by
  cases h <;> exact ⟨by assumption, by assumption⟩
theorem setB_get {had : List Bool} {j : Nat} (h : j < had.length) (b : Int) : (setB had b).getD j false = true ↔ had.getD j false = true ∨ b.toNat = j := by
  unfold setB
  by_cases hb : b.toNat < had.length
  · rw [getD_set_b had _ _ hb]
    by_cases e : j = b.toNat
    · rw [if_pos e]; exact ⟨fun _ => .inr e.symm, fun _ => rfl⟩
    · rw [if_neg e]; exact ⟨.inl, fun h => h.elim id fun h => absurd h.symm e⟩
  · rw [List.set_eq_of_length_le (by omega)]
    exact ⟨.inl, fun h => h.elim id fun h => by omega⟩
theorem setBs_get : ∀ (l : List Int) {had : List Bool} {j : Nat}, j < had.length → ((l.foldl setB had).getD j false = true ↔ had.getD j false = true ∨ ∃ b ∈ l, b.toNat = j)
  | [], had, j, _ => by simp
  | b :: l, had, j, h => by
    show ((l.foldl setB (setB had b)).getD j false = true ↔ _)
    rw [setBs_get l (by rw [setB_len]; exact h), setB_get h]
    simp only [List.mem_cons, exists_eq_or_imp, or_assoc]
theorem rRow_keep {objs : List (List Int)} {had : List Bool} {j : Nat} (h : had.getD j false = true) (i : Nat) : (rRow objs had i).getD j false = true := by
  unfold rRow
  split
  · exact setBs_keep _ h
  · exact h
theorem rows_keep {objs : List (List Int)} : ∀ (l : List Nat) {had : List Bool} {j : Nat}, had.getD j false = true → (l.foldl (rRow objs) had).getD j false = true
  | [], _, _, h => h
  | i :: l, had, j, h => rows_keep l (rRow_keep h i)
theorem rows_len {objs : List (List Int)} (l : List Nat) (had : List Bool) : (l.foldl (rRow objs) had).length = had.length := fold_len _ (rRow_len objs) l had
theorem rRow_yes {objs : List (List Int)} {had : List Bool} {i : Nat} (h : had.getD (i + 1) false = true) : rRow objs had i = (objs.getD i []).foldl setB had := by unfold rRow; rw [if_pos h]
section
variable {objs : List (List Int)} {n : Nat} {roots : List Int}
/-- Had is sound. -/
def Snd (objs : List (List Int)) (n : Nat) (roots : List Int) (had : List Bool) : Prop := had.length = n + 1 ∧ ∀ b : Int, 1 ≤ b → b ≤ n → had.getD b.toNat false = true → Rch objs n roots b
theorem rRow_snd (hbd : ∀ i, i < n → ∀ b ∈ objs.getD i [], 0 ≤ b ∧ b ≤ n) {had : List Bool} (h : Snd objs n roots had) {i : Nat} (hi : i < n) : Snd objs n roots (rRow objs had i) := by
  refine ⟨(rRow_len objs had i).trans h.1, fun b h1 hn hb => ?_⟩
  unfold rRow at hb
  split at hb
  · next hk =>
    rcases (setBs_get _ (by rw [h.1]; omega)).1 hb with hb | ⟨x, hx, e⟩
    · exact h.2 b h1 hn hb
    · have hx0 := hbd i hi x hx
      obtain rfl : x = b := by omega
      have ha : Rch objs n roots ((i : Int) + 1) := h.2 _ (by omega) (by omega) (by rw [show ((i : Int) + 1).toNat = i + 1 by omega]; exact hk)
      exact .step ha (by rw [show ((i : Int) + 1 - 1).toNat = i by omega]; exact hx) h1 hn
  · exact h.2 b h1 hn hb
theorem rows_snd (hbd : ∀ i, i < n → ∀ b ∈ objs.getD i [], 0 ≤ b ∧ b ≤ n) : ∀ (l : List Nat) {had : List Bool}, (∀ i ∈ l, i < n) → Snd objs n roots had → Snd objs n roots (l.foldl (rRow objs) had)
  | [], _, _, h => h
  | i :: l, had, hl, h => rows_snd hbd l (fun x hx => hl x (by simp [hx])) (rRow_snd hbd h (hl i (by simp)))
theorem rounds_snd (hbd : ∀ i, i < n → ∀ b ∈ objs.getD i [], 0 ≤ b ∧ b ≤ n) {had : List Bool} (h : Snd objs n roots had) : ∀ t, Snd objs n roots (rRounds objs n t had)
  | 0 => h
  | t + 1 => rows_snd hbd _ (fun i hi => List.mem_range.1 hi) (rounds_snd hbd h t)
/-- One round does each row that is had. -/
theorem round_does {had : List Bool} (hl : had.length = n + 1) {i : Nat} (hi : i < n) (hk : had.getD (i + 1) false = true) {b : Int} (hb : b ∈ objs.getD i []) (hbn : b.toNat < n + 1) : (rRound objs n had).getD b.toNat false = true := by
  unfold rRound
  have hs : List.range n = List.range i ++ i :: (List.range (n - i - 1)).map (fun x => x + i + 1) := by
    rw [show n = i + (n - i) by omega, List.range_add]
    congr 1
    rw [show n - i = (n - i - 1) + 1 by omega, List.range_succ_eq_map]
    simp [Nat.add_comm, Nat.add_left_comm]
    intro a _
    omega
  rw [hs, List.foldl_append, List.foldl_cons]
  refine rows_keep _ ?_
  have hk2 := rows_keep (objs := objs) (List.range i) hk
  rw [rRow_yes hk2]
  refine (setBs_get _ ?_).2 (.inr ⟨b, hb, rfl⟩)
  rw [rows_len, hl]
  exact hbn
def Clo (objs : List (List Int)) (n : Nat) (had : List Bool) : Prop := ∀ i, i < n → had.getD (i + 1) false = true → ∀ b ∈ objs.getD i [], 1 ≤ b → had.getD b.toNat false = true
def cnt (n : Nat) (had : List Bool) : Nat := (List.range n).countP fun i => had.getD (i + 1) false
theorem count_lt {α : Type} : ∀ (l : List α) (p q : α → Bool), (∀ x ∈ l, p x = true → q x = true) → (∃ x ∈ l, q x = true ∧ p x = false) → l.countP p < l.countP q
  | [], p, q, _, h => by obtain ⟨x, hx, _⟩ := h; cases hx
  | y :: l, p, q, hm, h => by
    have hle : l.countP p ≤ l.countP q := List.countP_mono_left fun x hx => hm x (by simp [hx])
    obtain ⟨x, hx, h1, h2⟩ := h
    rw [List.countP_cons, List.countP_cons]
    rcases List.mem_cons.1 hx with rfl | hx
    · rw [h1, h2]; simp; omega
    · have := count_lt l p q (fun x hx => hm x (by simp [hx])) ⟨x, hx, h1, h2⟩
      have hy := hm y (by simp)
      cases hp : p y
      · cases hq : q y <;> simp <;> omega
      · rw [hy hp]; simp; omega
theorem round_grows (hbd : ∀ i, i < n → ∀ b ∈ objs.getD i [], 0 ≤ b ∧ b ≤ n) {had : List Bool} (hl : had.length = n + 1) : Clo objs n had ∨ cnt n had < cnt n (rRound objs n had) := by
  by_cases hc : Clo objs n had
  · exact .inl hc
  · refine .inr (count_lt _ _ _ (fun x _ h => rows_keep _ h) ?_)
    simp only [Clo, Classical.not_forall] at hc
    obtain ⟨i, hi, hk, b, hb, h1, hn⟩ := hc
    have hbb := hbd i hi b hb
    refine ⟨b.toNat - 1, List.mem_range.2 (by omega), ?_, ?_⟩
    · have := round_does (objs := objs) hl hi hk hb (by omega)
      rw [show b.toNat - 1 + 1 = b.toNat by omega]
      exact this
    · rw [show b.toNat - 1 + 1 = b.toNat by omega]
      simpa using hn
theorem clo_rows (hbd : ∀ i, i < n → ∀ b ∈ objs.getD i [], 0 ≤ b ∧ b ≤ n) : ∀ (l : List Nat) {had : List Bool}, (∀ i ∈ l, i < n) → had.length = n + 1 → Clo objs n had → (∀ j, 1 ≤ j → j < n + 1 → ((l.foldl (rRow objs) had).getD j false = true ↔ had.getD j false = true))
  | [], _, _, _, _ => fun _ _ _ => Iff.rfl
  | i :: l, had, hil, hl, hc => fun j h1 hj => by
    have hi := hil i (by simp)
    have hrow : ∀ j, 1 ≤ j → j < n + 1 → ((rRow objs had i).getD j false = true ↔ had.getD j false = true) := fun j h1 hj => by
      unfold rRow
      split
      · next hk =>
        rw [setBs_get _ (by omega)]
        refine ⟨fun h => h.elim id fun ⟨b, hb, e⟩ => ?_, .inl⟩
        have := hbd i hi b hb
        rw [← e]
        exact hc i hi hk b hb (by omega)
      · exact Iff.rfl
    have hc2 : Clo objs n (rRow objs had i) := fun i2 h2 hk b hb h1 => by
      have hbb := hbd i2 h2 b hb
      rw [hrow _ (by omega) (by omega)] at hk ⊢
      exact hc i2 h2 hk b hb h1
    show (l.foldl (rRow objs) (rRow objs had i)).getD j false = true ↔ _
    rw [clo_rows hbd l (fun x hx => hil x (by simp [hx])) ((rRow_len objs had i).trans hl) hc2 j h1 hj]
    exact hrow j h1 hj
theorem rounds_clo (hbd : ∀ i, i < n → ∀ b ∈ objs.getD i [], 0 ≤ b ∧ b ≤ n) {had : List Bool} (hl : had.length = n + 1) : ∀ t, Clo objs n (rRounds objs n t had) ∨ t ≤ cnt n (rRounds objs n t had)
  | 0 => .inr (Nat.zero_le _)
  | t + 1 => by
    have hlt := (rRounds_len objs n had t).trans hl
    rcases round_grows hbd hlt with hc | hg
    · refine .inl fun i hi hk b hb h1 => ?_
      have hbb := hbd i hi b hb
      have key := clo_rows hbd (List.range n) (fun i hi => List.mem_range.1 hi) hlt hc
      have k1 := (key (i + 1) (by omega) (by omega)).1 hk
      exact (key b.toNat (by omega) (by omega)).2 (hc i hi k1 b hb h1)
    · rcases rounds_clo hbd hl t with hc | hc
      · exfalso
        have key := clo_rows hbd (List.range n) (fun i hi => List.mem_range.1 hi) hlt hc
        have : cnt n (rRound objs n (rRounds objs n t had)) = cnt n (rRounds objs n t had) := by
          unfold cnt
          refine List.countP_congr fun i hi => ?_
          have := List.mem_range.1 hi
          exact key (i + 1) (by omega) (by omega)
        omega
      · exact .inr (by show t + 1 ≤ cnt n (rRound objs n (rRounds objs n t had)); omega)
theorem reach_iff (hbd : ∀ i, i < n → ∀ b ∈ objs.getD i [], 0 ≤ b ∧ b ≤ n) (hr : ∀ b ∈ roots, 0 ≤ b ∧ b ≤ n) {b : Int} (h1 : 1 ≤ b) (hn : b ≤ n) : (rReach objs n roots).getD b.toNat false = true ↔ Rch objs n roots b := by
  have hl0 : (roots.foldl setB (List.replicate (n + 1) false)).length = n + 1 := by rw [setBs_len]; simp
  have hfalse : ∀ j, (List.replicate (n + 1) false).getD j false = false := fun j => by
    simp only [List.getD, List.getElem?_replicate]
    split <;> rfl
  have hs0 : Snd objs n roots (roots.foldl setB (List.replicate (n + 1) false)) := ⟨hl0, fun x x1 xn hx => by
    rcases (setBs_get _ (by simp; omega)).1 hx with h | ⟨y, hy, e⟩
    · rw [hfalse] at h; cases h
    · have := hr y hy
      obtain rfl : y = x := by omega
      exact .root hy x1 xn⟩
  have hs := rounds_snd hbd hs0 n
  have hset : (rReach objs n roots).getD b.toNat false = (rRounds objs n n (roots.foldl setB (List.replicate (n + 1) false))).getD b.toNat false := by
    unfold rReach
    simp only [List.getD, List.getElem?_set_ne (show 0 ≠ b.toNat by omega)]
  rw [hset]
  refine ⟨hs.2 b h1 hn, fun h => ?_⟩
  have hclo : Clo objs n (rRounds objs n n (roots.foldl setB (List.replicate (n + 1) false))) := by
    rcases rounds_clo hbd hl0 n with h | h
    · exact h
    · intro i hi _ x hx x1
      have hall : ∀ j ∈ List.range n, ((rRounds objs n n (roots.foldl setB (List.replicate (n + 1) false))).getD (j + 1) false) = true := by
        have hle : (List.range n).countP (fun i => (rRounds objs n n (roots.foldl setB (List.replicate (n + 1) false))).getD (i + 1) false) = (List.range n).length := by
          have h2 : (List.range n).countP (fun i => (rRounds objs n n (roots.foldl setB (List.replicate (n + 1) false))).getD (i + 1) false) ≤ (List.range n).length := List.countP_le_length
          have h3 : (List.range n).length = n := List.length_range
          unfold cnt at h
          omega
        exact List.countP_eq_length.1 hle
      have hb := hbd i hi x hx
      have := hall (x.toNat - 1) (List.mem_range.2 (by omega))
      rwa [show x.toNat - 1 + 1 = x.toNat by omega] at this
  have base : ∀ x ∈ roots, 1 ≤ x → x ≤ n → (rRounds objs n n (roots.foldl setB (List.replicate (n + 1) false))).getD x.toNat false = true := fun x hx x1 xn => by
    have h0 : (roots.foldl setB (List.replicate (n + 1) false)).getD x.toNat false = true := (setBs_get _ (by simp; omega)).2 (.inr ⟨x, hx, rfl⟩)
    have : ∀ t, (rRounds objs n t (roots.foldl setB (List.replicate (n + 1) false))).getD x.toNat false = true := fun t => by
      induction t with
      | zero => exact h0
      | succ t ih => exact rows_keep _ ih
    exact this n
  clear hset hs
  induction h with
  | root hb b1 bn => exact base _ hb b1 bn
  | step ha hb b1 bn ih =>
    have hab := ha.bd
    have := ih hab.1 hab.2
    refine hclo _ (by omega) ?_ _ hb b1
    rw [show (_ - 1 : Int).toNat + 1 = _ from ?_]
    · exact this
    · omega
end
end Go.Proofs.YtnoiepmapmcjdaaDoor
namespace Go.Proofs.YtnoiepmapmcjdaaDoor
theorem shade_mem (R : RD) (b x : Int) : (x ∈ (dShade R b).greys ∨ x ∈ (dShade R b).black) ↔ (x ∈ R.greys ∨ x ∈ R.black) ∨ (x = b ∧ b ≠ 0) := by
  unfold dShade
  by_cases h : b = 0 ∨ b ∈ R.greys ∨ b ∈ R.black
  · rw [if_pos h]
    refine ⟨.inl, fun hx => hx.elim id ?_⟩
    rintro ⟨rfl, h0⟩
    exact h.resolve_left h0
  · rw [if_neg h]
    have h0 : b ≠ 0 := fun e => h (.inl e)
    show (x ∈ R.greys ++ [b] ∨ x ∈ R.black) ↔ _
    rw [List.mem_append, List.mem_singleton]
    constructor
    · rintro ((h | h) | h)
      · exact .inl (.inl h)
      · exact .inr ⟨h, h0⟩
      · exact .inl (.inr h)
    · rintro ((h | h) | ⟨h, _⟩)
      · exact .inl (.inl h)
      · exact .inr h
      · exact .inl (.inr h)
theorem shades_mem : ∀ (l : List Int) (R : RD) (x : Int), (x ∈ (l.foldl dShade R).greys ∨ x ∈ (l.foldl dShade R).black) ↔ (x ∈ R.greys ∨ x ∈ R.black) ∨ (x ∈ l ∧ x ≠ 0)
  | [], R, x => by simp
  | b :: l, R, x => by
    show (x ∈ (l.foldl dShade (dShade R b)).greys ∨ x ∈ (l.foldl dShade (dShade R b)).black) ↔ _
    rw [shades_mem l, shade_mem, List.mem_cons]
    constructor
    · rintro ((h | ⟨rfl, h⟩) | ⟨h1, h2⟩)
      · exact .inl h
      · exact .inr ⟨.inl rfl, h⟩
      · exact .inr ⟨.inr h1, h2⟩
    · rintro (h | ⟨h1 | h1, h2⟩)
      · exact .inl (.inl h)
      · exact .inl (.inr ⟨h1, h1 ▸ h2⟩)
      · exact .inr ⟨h1, h2⟩
/-- The marking's invariant. -/
structure Tri (objs : List (List Int)) (n : Nat) (roots : List Int) (R : RD) : Prop where
  snd : ∀ b, b ∈ R.greys ∨ b ∈ R.black → Rch objs n roots b
  rt : ∀ b ∈ roots, b ≠ 0 → b ∈ R.greys ∨ b ∈ R.black
  clo : ∀ a ∈ R.black, ∀ b ∈ objs.getD (a - 1).toNat [], b ≠ 0 → b ∈ R.greys ∨ b ∈ R.black
section
variable {objs : List (List Int)} {n : Nat} {roots : List Int}
theorem tri_start (hr : ∀ b ∈ roots, 0 ≤ b ∧ b ≤ n) : Tri objs n roots (roots.foldl dShade dStart) := by
  have hm := shades_mem roots dStart
  refine ⟨fun b hb => ?_, fun b hb h0 => (hm b).2 (.inr ⟨hb, h0⟩), fun a ha => ?_⟩
  · rcases (hm b).1 hb with h | ⟨h1, h2⟩
    · simp [dStart] at h
    · have := hr b h1
      exact .root h1 (by omega) this.2
  · rw [(shades_black roots dStart).1] at ha
    simp [dStart] at ha
theorem tri_step (hbd : ∀ i, i < n → ∀ b ∈ objs.getD i [], 0 ≤ b ∧ b ≤ n) {R : RD} (hok : DOk n R) (ho : R.on = true) (T : Tri objs n roots R) : Tri objs n roots (dStep objs R).1 := by
  rcases step_cases objs ho with ⟨_, e⟩ | ⟨p, g, hg, _, e, hb, _⟩
  · rw [e]; exact T
  · have hm := shades_mem (objs.getD (p - 1).toNat []) { R with greys := g, black := R.black ++ [p] }
    have hp := hok.bd p (.inl (by rw [hg]; simp))
    have old : ∀ x, (x ∈ g ∨ x ∈ R.black ++ [p]) ↔ (x ∈ R.greys ∨ x ∈ R.black) := fun x => by
      rw [hg, List.mem_cons, List.mem_append, List.mem_singleton]
      constructor
      · rintro (h | h | h)
        · exact .inl (.inr h)
        · exact .inr h
        · exact .inl (.inl h)
      · rintro ((h | h) | h)
        · exact .inr (.inr h)
        · exact .inl h
        · exact .inr (.inl h)
    have hpr : Rch objs n roots p := T.snd p (.inl (by rw [hg]; simp))
    rw [e] at hb ⊢
    refine ⟨fun b hx => ?_, fun b hx h0 => ?_, fun a ha b hx h0 => ?_⟩
    · rcases (hm b).1 hx with h | ⟨h1, h2⟩
      · exact T.snd b ((old b).1 h)
      · have := hbd (p - 1).toNat (by omega) b h1
        exact .step hpr h1 (by omega) this.2
    · exact (hm b).2 (.inl ((old b).2 (T.rt b hx h0)))
    · rw [hb] at ha
      rcases List.mem_append.1 ha with ha | ha
      · exact (hm b).2 (.inl ((old b).2 (T.clo a ha b hx h0)))
      · obtain rfl := List.mem_singleton.1 ha
        exact (hm b).2 (.inr ⟨hx, h0⟩)
theorem tri_end (hbd : ∀ i, i < n → ∀ b ∈ objs.getD i [], 0 ≤ b ∧ b ≤ n) {R : RD} (hg : R.greys = []) (T : Tri objs n roots R) (b : Int) : b ∈ R.black ↔ Rch objs n roots b := by
  refine ⟨fun h => T.snd b (.inr h), fun h => ?_⟩
  have nog : ∀ x, x ∈ R.greys ∨ x ∈ R.black → x ∈ R.black := fun x hx => hx.elim (fun h => by rw [hg] at h; cases h) id
  induction h with
  | root hb b1 _ => exact nog _ (T.rt _ hb (by omega))
  | step ha hb b1 _ ih => exact nog _ (T.clo _ ih _ hb (by omega))
end
end Go.Proofs.YtnoiepmapmcjdaaDoor
namespace Go.Proofs.YtnoiepmapmcjdaaDoor
open Go.RowKit Go.Shelf
structure MAct where
  kind : Int
  a : Int
  b : Int
  k : Int
  rv : Option Addr × Nat × Nat
  rl : List Int
def mactC (x : MAct) : List Value := [.int .u8 x.kind, .int .u8 x.a, .int .u8 x.b, .int .u8 x.k, slE x.rv]
structure MActOk (w : World) (x : MAct) : Prop where
  kind : 0 ≤ x.kind ∧ x.kind ≤ 255
  a : 0 ≤ x.a ∧ x.a ≤ 255
  b : 0 ≤ x.b ∧ x.b ≤ 255
  k : 0 ≤ x.k ∧ x.k ≤ 255
  rd : Rd u8e w (slE x.rv) x.rl
  rb : ∀ n ∈ x.rl, 0 ≤ n ∧ n ≤ 255
theorem MActOk.below {w w' : World} {x : MAct} (h : MActOk w x) (hb : Below w.heap.size w w') : MActOk w' x := ⟨h.kind, h.a, h.b, h.k, h.rd.below hb, h.rb⟩
theorem mact_size : (Tryd.prog.info? 30).map (·.size) = some 5 := by kernel_rfl
def mHeavy (l : List MAct) : Bool := l.any (fun x => decide (20 < x.rl.length)) || decide (80 < l.length)
set_option maxHeartbeats 3200000 in
set_option maxRecDepth 100000 in
theorem heavy_w (v : Value) (l : List MAct) (w : World) (hv : RdC 5 mactC w v l) (hok : ∀ x ∈ l, MActOk w x) :
    Calls Tryd.prog 11 #[v] w fun e w' => e = .returned (.bool (mHeavy l)) ∧ Below w.heap.size w w' := by
  obtain ⟨A, c, rfl, hlc, hcm, -⟩ := hv.len
  have hl9 : (l.length : Int) ≤ 9223372036854775807 := by unfold maxLen at hcm; omega
  have HV := Lib.hid hv
  have HO := Lib.hid hok
  clear hv hok
  obtain ⟨r, hr⟩ : ∃ r, mHeavy l = r := ⟨_, rfl⟩
  rw [hr]
  replace hr := Lib.hid hr
  go_enter Tryd.func11, Tryd.ntmps11
  go_wp2_with fail
  go_loopw [7] (fun i wr => ∃ j : Nat, j ≤ l.length ∧ i = .int .i64 j ∧ Hid ((l.take j).any (fun x => decide (20 < x.rl.length)) = false) ∧ Below w.heap.size w wr) (fun i _ => l.length - (intOf i).toNat)
  case atStart => exact ⟨0, by omega, rfl, Lib.hid rfl, Below.refl _ _⟩
  case round =>
    obtain ⟨j, hj, rfl, hno, hb⟩ := hrel
    by_cases hlt : j < l.length
    · have t0 : (j : Int) < (l.length : Int) := by omega
      obtain ⟨b, o, rfl, _, hc⟩ := (HV.out.below hb).at_ hlt
      obtain ⟨x, hx⟩ : ∃ x, l[j] = x := ⟨_, rfl⟩
      have hxo := HO.out _ (List.getElem_mem hlt)
      have htk : (l.take (j + 1)).any (fun x => decide (20 < x.rl.length)) = ((l.take j).any (fun x => decide (20 < x.rl.length)) || decide (20 < x.rl.length)) := by
        rw [List.take_add_one, List.getElem?_eq_getElem hlt, List.any_append, hx]
        simp
      have hin : decide (20 < x.rl.length) = true → mHeavy l = true := fun h => by
        unfold mHeavy
        rw [Bool.or_eq_true]
        exact .inl (List.any_eq_true.2 ⟨x, hx ▸ List.getElem_mem hlt, h⟩)
      rw [hx] at hc hxo
      obtain ⟨kind, xa, xb, xk, rv, rl⟩ := x
      have c0 : wr.cell? ⟨b, o + j * 5, none⟩ = some (.int .u8 kind) := hc 0 _ rfl
      have c1 : wr.cell? ⟨b, o + j * 5 + 1, none⟩ = some (.int .u8 xa) := hc 1 _ rfl
      have c2 : wr.cell? ⟨b, o + j * 5 + 2, none⟩ = some (.int .u8 xb) := hc 2 _ rfl
      have c3 : wr.cell? ⟨b, o + j * 5 + 3, none⟩ = some (.int .u8 xk) := hc 3 _ rfl
      have c4 := hc 4 _ rfl
      obtain ⟨Ar, cr, hrv, -⟩ := hxo.rd.len
      dsimp only at hrv c4
      rw [hrv] at c4
      replace c4 : wr.cell? ⟨b, o + j * 5 + 4, none⟩ = some (.slice Ar rl.length cr) := c4
      dsimp only at htk hin
      replace htk := Lib.hid htk
      replace hin := Lib.hid hin
      replace hxo := Lib.hid hxo
      replace hrv := Lib.hid hrv
      clear hc hx
      go_wp2_with (first
        | (refine wpList_new rfl (.alloc 30) rfl wr.heap.size rfl 30 #[.int .u8 0, .int .u8 0, .int .u8 0, .int .u8 0, .slice none 0 0] (by kernel_rfl) ?_; intro w1 hs1 hb1 hB1; have HB1 := Lib.hid hB1; clear hB1)
        | (refine wpList_store_blk rfl 30 (.tmp 4) (.tmp 10) rfl wr.heap.size rfl #[.int .u8 kind, .int .u8 xa, .int .u8 xb, .int .u8 xk, .slice Ar rl.length cr] rfl 30 #[.int .u8 0, .int .u8 0, .int .u8 0, .int .u8 0, .slice none 0 0] HB1.out mact_size rfl (by simp [Value.oneCell']) ?_; intro w2 hB2 hg2 hs2; refine stop_here ?_))
      have hb2 : Below wr.heap.size wr w2 := hb1.grown hg2 hb1.size (fun k hk => by cases hk; exact Nat.le_refl _)
      have v4 : w2.cell? ⟨wr.heap.size, 4, none⟩ = some (.slice Ar rl.length cr) := hB2.cell 4
      have b2 := hb.trans (hb2.mono hb.size)
      clear HB1 hB2 hg2 hs2 hs1 hb1 hb2 hb c0 c1 c2 c3 c4
      refine go_on ?_
      by_cases h20 : 20 < rl.length
      · have t1 : (20 : Int) < (rl.length : Int) := by omega
        have hrt := hr.out.symm.trans (hin.out (by simpa using h20))
        subst hrt
        go_wp2_with fail
        go_ret
        exact ⟨rfl, b2⟩
      · have t1 : decide ((20 : Int) < (rl.length : Int)) = false := by rw [decide_eq_false_iff_not]; omega
        have hno' : Hid ((l.take (j + 1)).any (fun x => decide (20 < x.rl.length)) = false) := Lib.hid (by rw [htk.out, hno.out, Bool.false_or, decide_eq_false_iff_not]; exact h20)
        clear hno
        go_wp2_with fail
        go_roundw
        case rel => exact ⟨j + 1, by omega, by go_num, hno', b2⟩
        case measure => simp [intOf]; omega
    · obtain rfl : j = l.length := by omega
      have hfin : r = decide (80 < l.length) := by
        rw [← hr.out]
        have := hno.out
        rw [List.take_length] at this
        unfold mHeavy
        rw [this, Bool.false_or]
      have e : decide ((80 : Int) < (l.length : Int)) = decide (80 < l.length) := by rw [decide_eq_decide]; omega
      rw [← e] at hfin
      replace hfin := Lib.hid hfin
      clear hno e
      go_wp2_with fail
      go_ret
      exact ⟨ret_bool hfin.out.symm, hb⟩
end Go.Proofs.YtnoiepmapmcjdaaDoor
namespace Go.Proofs.YtnoiepmapmcjdaaDoor
open Go.RowKit Go.Shelf
def setO (objs : List (List Int)) (a k b : Int) : List (List Int) := if a = 0 then objs else setObj objs (a - 1).toNat k.toNat b
def actO (n : Nat) (objs : List (List Int)) (x : MAct) : List (List Int) := setO objs (x.a % ((n : Int) + 1)) (x.k % 4) (x.b % ((n : Int) + 1))
/-- The law's world with these pointers. -/
def LO (w0 : W0) (w : World) (q h m n : Nat) (K : MK) (objs : List (List Int)) : Prop := ∃ S, LW w0 w q h m n S K ⟨objs, false, [], []⟩
section
variable {w0 : W0} {w w' : World} {q h m n : Nat} {S : HS} {K : MK} {R : RM} {objs : List (List Int)}
theorem LO.below (H : LO w0 w q h m n K objs) (hb : Below w.heap.size w w') : LO w0 w' q h m n K objs := by
  obtain ⟨S, H⟩ := H
  exact ⟨S, H.below hb⟩
theorem LO.b (H : LO w0 w q h m n K objs) : Below w0.base.heap.size w0.base w := by obtain ⟨S, H⟩ := H; exact H.b
theorem LO.c (H : LO w0 w q h m n K objs) : ∃ S, Cw n S objs := by obtain ⟨S, H⟩ := H; exact ⟨S, H.c⟩
theorem LO.n11 (H : LO w0 w q h m n K objs) : n ≤ 11 := by obtain ⟨S, C⟩ := H.c; exact C.n11
theorem LO.guard (H : LO w0 w q h m n K objs) (hb : Below w.heap.size w w') : LO (w0.guard w w') w' q h m n K objs := by
  obtain ⟨S, H⟩ := H
  exact ⟨S, H.guard hb⟩
theorem LO.unguard {w1 : World} {q' h' m' n' : Nat} {K' : MK} {objs' : List (List Int)} (H0 : LO w0 w q h m n K objs) (hb : Below w.heap.size w w1) (H : LO (w0.guard w w1) w' q' h' m' n' K' objs') : LO w0 w' q' h' m' n' K' objs' := by
  obtain ⟨S0, H0⟩ := H0
  obtain ⟨S, H⟩ := H
  exact ⟨S, H0.unguard hb H⟩
theorem LO.keeps {w1 : World} (H : LO (w0.guard w w1) w' q h m n K objs) {k : Nat} (h0 : w.heap.size ≤ k) (h1 : k < w1.heap.size) : w'.heap[k]? = w1.heap[k]? := by
  obtain ⟨S, H⟩ := H
  exact H.keeps h0 h1
theorem LO.size (H : LO w0 w q h m n K objs) : w0.base.heap.size ≤ w.heap.size := H.b.size
/-- A slice that came since w, read still. -/
theorem LO.rd {α : Type} {enc : α → Value} {xs : List α} {v : Value} {w1 : World} (H : LO (w0.guard w w1) w' q h m n K objs) (hr : Rd enc w1 v xs) (hf : ∀ b, v.ownBlock = some b → w.heap.size ≤ b) : Rd enc w' v xs := by
  obtain ⟨A, c, rfl, h1, h3⟩ := hr
  refine ⟨A, c, rfl, h1, fun hp => ?_⟩
  obtain ⟨b, o, rfl, hlt, hc⟩ := h3 hp
  have hk := H.keeps (hf b rfl) hlt
  have hlt' : b < w'.heap.size := by
    by_cases h : b < w'.heap.size
    · exact h
    · exfalso
      rw [Array.getElem?_eq_none (by omega), Array.getElem?_eq_getElem hlt] at hk
      cases hk
  exact ⟨b, o, rfl, hlt', fun i hi => (World.cell?_of_block hk).trans (hc i hi)⟩
theorem Cw.four_ (C : Cw n S objs) : ∀ i, i < n → (objs.getD i []).length = 4 := C.four
theorem Cw.bds (C : Cw n S objs) : ∀ i, i < n → ∀ b ∈ objs.getD i [], 0 ≤ b ∧ b ≤ n := by
  intro i hi b hb
  rw [C.row hi] at hb
  simp only [List.mem_cons, List.not_mem_nil, or_false] at hb
  rcases hb with rfl | rfl | rfl | rfl
  · exact C.bd i 0 hi (by omega)
  · exact C.bd i 1 hi (by omega)
  · exact C.bd i 2 hi (by omega)
  · exact C.bd i 3 hi (by omega)
theorem LO.cells (H : LO w0 w q h m n K objs) : w.cell? ⟨q, 0, none⟩ = some (.pointer (some ⟨h, 0, none⟩)) ∧ w.cell? ⟨q, 1, none⟩ = some (.pointer (some ⟨m, 0, none⟩)) ∧ q < w.heap.size ∧ w0.base.heap.size ≤ q := by
  obtain ⟨S, H⟩ := H
  exact H.cells
theorem LW.ptrs (H : LW w0 w q h m n S K R) : ∃ A c, w.cell? ⟨q, 2, none⟩ = some (.slice A n c) ∧ Rd i64e w (.slice A n c) (ptrsN n) := by
  obtain ⟨F, D, G, W, hF, b, C⟩ := H
  obtain ⟨vp, vo, vg, vb, I⟩ := W.wi
  obtain ⟨A, c, rfl, -⟩ := I.pr.rd.len
  have := I.pr.rd
  rw [ptrs_len] at this
  refine ⟨A, c, ?_, this⟩
  have := I.blk.cell 2
  rw [this]
  show some (Value.slice A (ptrsN n).length c) = _
  rw [ptrs_len]
theorem LW.obs (H : LW w0 w q h m n S K R) : ∃ (P : Nat → Prop) (A : Option Addr) (c : Nat), w.cell? ⟨q, 3, none⟩ = some (.slice A n c) ∧ RdLL P w (.slice A n c) R.objs := by
  obtain ⟨F, D, G, W, hF, b, C⟩ := H
  obtain ⟨vp, vo, vg, vb, I⟩ := W.wi
  obtain ⟨us, u1, u2, u3⟩ := I.ob
  obtain ⟨A, c, rfl, -⟩ := u2.rd.len
  have hl : us.length = n := by rw [u1, C.ol]
  have h3 := I.blk.cell 3
  refine ⟨_, A, c, ?_, us, u1, by rw [← hl]; exact u2, u3⟩
  rw [h3, ← hl]
  rfl
theorem LO.ptrs (H : LO w0 w q h m n K objs) : ∃ A c, w.cell? ⟨q, 2, none⟩ = some (.slice A n c) ∧ Rd i64e w (.slice A n c) (ptrsN n) := by
  obtain ⟨S, H⟩ := H
  exact H.ptrs
/-- The pointers' slice, in every later world. -/
theorem LO.ptrs_far (H : LO w0 w q h m n K objs) : ∃ A c, ∀ wx, Below w.heap.size w wx → wx.cell? ⟨q, 2, none⟩ = some (.slice A n c) ∧ Rd i64e wx (.slice A n c) (ptrsN n) := by
  obtain ⟨A, c, h1, h2⟩ := H.ptrs
  exact ⟨A, c, fun wx b => ⟨(World.cell?_of_block (b.block q H.cells.2.2.1)).trans h1, h2.below b⟩⟩
theorem LO.obs (H : LO w0 w q h m n K objs) : ∃ (P : Nat → Prop) (A : Option Addr) (c : Nat), w.cell? ⟨q, 3, none⟩ = some (.slice A n c) ∧ RdLL P w (.slice A n c) objs := by
  obtain ⟨S, H⟩ := H
  exact H.obs
theorem num_mod {n : Nat} (x : Int) : 0 ≤ x % ((n : Int) + 1) ∧ x % ((n : Int) + 1) ≤ n := by
  have := Int.emod_nonneg x (show (n : Int) + 1 ≠ 0 by omega)
  have := Int.emod_lt_of_pos x (show (0 : Int) < (n : Int) + 1 by omega)
  omega
theorem lset (H : LO w0 w q h m n K objs) (a k b : Int) (ha : 0 ≤ a ∧ a ≤ n) (hk : 0 ≤ k ∧ k < 4) (hb : 0 ≤ b ∧ b ≤ n) :
    Calls Tryd.prog 12 #[.pointer (some ⟨q, 0, none⟩), .int .i64 a, .int .i64 k, .int .i64 b] w fun e w' => e = .returned (.bool true) ∧ LO w0 w' q h m n K (setO objs a k b) := by
  unfold setO
  by_cases h0 : a = 0
  · subst h0
    rw [if_pos rfl]
    have := set_w0 (q : Int) k b w
    rw [Int.toNat_natCast] at this
    refine this.mono ?_
    rintro e _ ⟨rfl, rfl⟩
    exact ⟨rfl, H⟩
  · rw [if_neg h0]
    obtain ⟨S, H⟩ := H
    have := set_w w0 q h m n S K _ w H (a - 1).toNat k.toNat b (by omega) (by omega) hb
    rw [show (((a - 1).toNat : Nat) : Int) + 1 = a by omega, show ((k.toNat : Nat) : Int) = k by omega] at this
    refine this.mono ?_
    rintro e w' ⟨rfl, H'⟩
    exact ⟨rfl, _, H'⟩
theorem lobegin {n : Nat} {w : World} (hn : n ≤ 11) (hT : TabW w) : Calls Tryd.prog 10 #[.int .i64 (n : Int)] w fun e w' => ∃ q h m, e = .returned (.tuple #[.pointer (some ⟨q, 0, none⟩), .bool true]) ∧ LO (ofW w) w' q h m n mNew (List.replicate n zero4) := by
  refine (begin_w n w hn hT).mono ?_
  rintro e w' ⟨q, h, m, rfl, H⟩
  exact ⟨q, h, m, rfl, _, H⟩
theorem guard_free {w1 : World} {F D G : Nat → Prop} (W : WAt w q h m S F K D (ptrsN n) R G) (hF : ∀ k, F k ∨ D k ∨ G k → w0.free k) : ∀ k, F k ∨ D k ∨ G k → (w0.guard w w1).free k := fun k hk => ⟨(hF k hk).1, fun hq => hq.elim (hF k hk).2 fun h => by
  have := h.1
  rcases hk with h | h | h
  · have := W.mm.hp.lt k h; omega
  · have := W.mm.dlt k h; omega
  · have := W.glt k h; omega⟩
theorem lbegin3 {w1 : World} (H : LW w0 w q h m n S K R) (hb : Below w.heap.size w w1) (vr : Value) (l : List Int) (hv : Rd i64e w1 vr l) (hl : l.length ≤ 4096) (hbd : ∀ x ∈ l, -9223372036854775808 ≤ x ∧ x ≤ 9223372036854775807) (hf : ∀ b, vr.ownBlock = some b → w.heap.size ≤ b) :
    Calls Tryd.prog 14 #[.pointer (some ⟨m, 0, none⟩), vr] w1 fun e w' => e = .returned (.int .i64 (mBegin S K l).2) ∧ LW (w0.guard w w1) w' q h m n S (mBegin S K l).1 R := by
  obtain ⟨F, D, G, W, hF, b, C⟩ := H
  refine (begin_m m h S F K D w1 (W.mm.below hb) vr l hv hl hbd (fun _ k e hD => by have := W.mm.dlt k hD; have := hf k e; omega)).mono ?_
  rintro e w' ⟨rfl, D', M, s⟩
  exact ⟨rfl, LW.marks (W.below hb) (guard_free W hF) (b.guard hb) C M s⟩
/-- Begin at the roots that were made behind this world; what was made is kept. -/
theorem lobeg {w1 : World} (H : LO w0 w q h m n K objs) (ho : K.on = false) (hb : Below w.heap.size w w1) (vr : Value) (l : List Int) (hl : l.length ≤ 20) (hl2 : ∀ b ∈ l, 0 ≤ b ∧ b ≤ n) (hv : Rd i64e w1 vr (l.map ptrI)) (hf : ∀ b, vr.ownBlock = some b → w.heap.size ≤ b) :
    Calls Tryd.prog 14 #[.pointer (some ⟨m, 0, none⟩), vr] w1 fun e w' => e = .returned (.int .i64 0) ∧ ∃ K1, LO (w0.guard w w1) w' q h m n K1 objs ∧ CK n K1 (l.foldl dShade dStart) ∧ K1.on = true := by
  have hn := H.n11
  obtain ⟨S, H⟩ := H
  obtain ⟨e1, e2, e3⟩ := H.c.begin (K := K) l hl2 ho
  have hbd : ∀ x ∈ l.map ptrI, -9223372036854775808 ≤ x ∧ x ≤ 9223372036854775807 := by
    intro x hx
    obtain ⟨b, hb, rfl⟩ := List.mem_map.1 hx
    have := ptrI_bd hn (hl2 b hb)
    omega
  refine (lbegin3 H hb vr (l.map ptrI) hv (by rw [List.length_map]; omega) hbd hf).mono ?_
  rintro e w' ⟨rfl, H'⟩
  rw [e1]
  exact ⟨rfl, _, ⟨S, H'⟩, e2, e3⟩
theorem lofin (H : LO w0 w q h m n K objs) (X : RD) (HX : CK n K X) (ho : K.on = true) :
    Calls Tryd.prog 15 #[.pointer (some ⟨q, 0, none⟩)] w fun e w' => e = .returned (.bool true) ∧ ∃ K9 X9, LO w0 w' q h m n K9 objs ∧ CK n K9 X9 ∧ X9.greys = [] ∧ K9.on = true ∧ ∀ P : RD → Prop, (∀ Y, DOk n Y → Y.on = true → P Y → P (dStep objs Y).1) → P X → P X9 := by
  obtain ⟨S, H⟩ := H
  refine (finish_w w0 w q h m n S K _ H X HX ho).mono ?_
  rintro e w' ⟨rfl, K9, X9, H', hx⟩
  exact ⟨rfl, K9, X9, ⟨S, H'⟩, hx⟩
theorem loend (H : LO w0 w q h m n K objs) (ho : K.on = true) : Calls Tryd.prog 16 #[.pointer (some ⟨m, 0, none⟩)] w fun e w' => ∃ v, e = .returned (.tuple #[v, .int .i64 0]) ∧ Rd i64e w' v (keepP K.seen (ptrsN n)) ∧ LO w0 w' q h m n (mOff K) objs := by
  obtain ⟨S, H⟩ := H
  have e : sAll S = ptrsN n := by
    unfold sAll ptrsN
    rw [H.c.obj, List.map_map]
    rfl
  have := lend_on H ho
  rw [e] at this
  refine this.mono ?_
  rintro e w' ⟨v, rfl, hown, H'⟩
  exact ⟨v, rfl, Rd.of_own hown, S, H'⟩
theorem locolor (H : LO w0 w q h m n K objs) (X : RD) (HX : CK n K X) (b : Int) (h1 : 1 ≤ b) (hn : b ≤ n) : Calls Tryd.prog 21 #[.pointer (some ⟨m, 0, none⟩), .int .i64 (ptrI b)] w fun e w' => e = .returned (.int .i64 (dColor X b)) ∧ w = w' := by
  have hn1 := H.n11
  obtain ⟨S, H⟩ := H
  have hp := ptrI_bd hn1 (b := b) (by omega)
  have := lcolor H (ptrI b) (by omega) (by omega)
  rw [HX.color h1 hn] at this
  exact this
end
end Go.Proofs.YtnoiepmapmcjdaaDoor
namespace Go.Proofs.YtnoiepmapmcjdaaDoor
/-! keepP, one number further. -/
theorem keepP_at (pr : Int → Bool) (xs : List Int) {i : Nat} (hi : i < xs.length) (hp : pr xs[i] = false) : (keepP pr (xs.take i)).length < (keepP pr xs).length ∧ (keepP pr xs)[(keepP pr (xs.take i)).length]? = some xs[i] := by
  have e : keepP pr xs = keepP pr (xs.take i) ++ xs[i] :: keepP pr (xs.drop (i + 1)) := by
    have h : xs = xs.take i ++ xs[i] :: xs.drop (i + 1) := by
      rw [List.getElem_cons_drop hi, List.take_append_drop]
    calc keepP pr xs = keepP pr (xs.take i ++ xs[i] :: xs.drop (i + 1)) := by rw [← h]
      _ = _ := by
        unfold keepP
        rw [List.filter_append, List.filter_cons, if_pos (by rw [hp]; rfl)]
  rw [e]
  refine ⟨by simp, ?_⟩
  simp
theorem keepP_take (pr : Int → Bool) (xs : List Int) {i : Nat} (hi : i < xs.length) : (keepP pr (xs.take (i + 1))).length = (keepP pr (xs.take i)).length + (if pr xs[i] = true then 0 else 1) := by
  rw [show xs.take (i + 1) = xs.take i ++ [xs[i]] from take_snoc xs hi, keepP_snoc]
  split <;> simp
section
variable {n : Nat} {objs : List (List Int)} {roots : List Int} {K : MK} {X : RD}
theorem white_reach (hbd : ∀ i, i < n → ∀ b ∈ objs.getD i [], 0 ≤ b ∧ b ≤ n) (hr : ∀ b ∈ roots, 0 ≤ b ∧ b ≤ n) (HX : CK n K X) (hg : X.greys = []) (hT : Tri objs n roots X) {i : Nat} (hi : i < n) :
    (rReach objs n roots).getD (i + 1) false = K.seen (4 * (i : Int) + 1) := by
  have h1 := reach_iff hbd hr (b := (i : Int) + 1) (by omega) (by omega)
  have h2 := HX.seen ((i : Int) + 1) (by omega) (by omega)
  rw [ptrI_pos (by omega), show 4 * ((i : Int) + 1) - 3 = 4 * (i : Int) + 1 by omega] at h2
  rw [show ((i : Int) + 1).toNat = i + 1 by omega] at h1
  have h3 := tri_end hbd hg hT ((i : Int) + 1)
  rw [Bool.eq_iff_iff, h1, h2, hg, ← h3]
  simp
end
/-! The snapshot. -/
def Sh (R : RD) (b : Int) : Prop := b ∈ R.greys ∨ b ∈ R.black
def Row4 (n : Nat) (objs : List (List Int)) : Prop := ∀ i, i < n → objs.getD i [] = [objAt objs i 0, objAt objs i 1, objAt objs i 2, objAt objs i 3]
structure Snp (objs0 : List (List Int)) (n : Nat) (roots : List Int) (objs : List (List Int)) (R : RD) : Prop where
  ptr : ∀ i k, i < n → k < 4 → objAt objs i k = objAt objs0 i k ∨ objAt objs0 i k = 0 ∨ Sh R (objAt objs0 i k)
  rt : ∀ b ∈ roots, b ≠ 0 → Sh R b
  clo : ∀ a ∈ R.black, ∀ b ∈ objs0.getD (a - 1).toNat [], b ≠ 0 → Sh R b
section
variable {objs0 objs : List (List Int)} {n : Nat} {roots : List Int} {R R' : RD}
theorem row4_mem (h : Row4 n objs) {i : Nat} (hi : i < n) (b : Int) : b ∈ objs.getD i [] ↔ ∃ k, k < 4 ∧ b = objAt objs i k := by
  rw [h i hi]
  simp only [List.mem_cons, List.not_mem_nil, or_false]
  constructor
  · rintro (h | h | h | h)
    · exact ⟨0, by omega, h⟩
    · exact ⟨1, by omega, h⟩
    · exact ⟨2, by omega, h⟩
    · exact ⟨3, by omega, h⟩
  · rintro ⟨k, hk, h⟩
    match k, hk with
    | 0, _ => exact .inl h
    | 1, _ => exact .inr (.inl h)
    | 2, _ => exact .inr (.inr (.inl h))
    | 3, _ => exact .inr (.inr (.inr h))
theorem snp_start : Snp objs0 n roots objs0 (roots.foldl dShade dStart) :=
  ⟨fun i k _ _ => .inl rfl, fun b hb h0 => (shades_mem roots dStart b).2 (.inr ⟨hb, h0⟩), fun a ha => by
    rw [(shades_black roots dStart).1] at ha
    simp [dStart] at ha⟩
theorem Snp.up (H : Snp objs0 n roots objs R) (hb : R'.black = R.black) (hs : ∀ b, Sh R b → Sh R' b) : Snp objs0 n roots objs R' :=
  ⟨fun i k hi hk => (H.ptr i k hi hk).imp id fun h => h.imp id (hs _), fun b hb h0 => hs b (H.rt b hb h0), fun a ha b hb' h0 => hs b (H.clo a (hb ▸ ha) b hb' h0)⟩
theorem snp_shade (H : Snp objs0 n roots objs R) (b : Int) : Snp objs0 n roots objs (dShade R b) :=
  H.up (shade_black R b).1 fun x hx => (shade_mem R b x).2 (.inl hx)
theorem snp_step (h0 : Row4 n objs0) (h1 : Row4 n objs) (hok : DOk n R) (ho : R.on = true) (H : Snp objs0 n roots objs R) : Snp objs0 n roots objs (dStep objs R).1 := by
  rcases step_cases objs ho with ⟨_, e⟩ | ⟨p, g, hg, _, e, hb, _⟩
  · rw [e]; exact H
  · have hm := shades_mem (objs.getD (p - 1).toNat []) { R with greys := g, black := R.black ++ [p] }
    have hp := hok.bd p (.inl (by rw [hg]; simp))
    rw [← e] at hm
    have up : ∀ x, Sh R x → Sh (dStep objs R).1 x := fun x hx => (hm x).2 (.inl (by
      show x ∈ g ∨ x ∈ R.black ++ [p]
      unfold Sh at hx
      rw [hg, List.mem_cons] at hx
      rw [List.mem_append, List.mem_singleton]
      rcases hx with (h | h) | h
      · exact .inr (.inr h)
      · exact .inl h
      · exact .inr (.inl h)))
    refine ⟨fun i k hi hk => (H.ptr i k hi hk).imp id fun h => h.imp id (up _), fun b hb h0 => up b (H.rt b hb h0), fun a ha b hx hz => ?_⟩
    rw [hb] at ha
    rcases List.mem_append.1 ha with ha | ha
    · exact up b (H.clo a ha b hx hz)
    · obtain rfl := List.mem_singleton.1 ha
      obtain ⟨k, hk, rfl⟩ := (row4_mem h0 (by omega) b).1 hx
      rcases H.ptr (a - 1).toNat k (by omega) hk with h | h | h
      · exact (hm _).2 (.inr ⟨(row4_mem h1 (by omega) _).2 ⟨k, hk, h.symm⟩, hz⟩)
      · exact absurd h hz
      · exact up _ h
theorem snp_set (hl : objs.length = n) (h4 : ∀ i, i < n → (objs.getD i []).length = 4) (H : Snp objs0 n roots objs R) (a k b : Int) (ha : 0 ≤ a ∧ a ≤ n) (hk : 0 ≤ k ∧ k < 4) (hold : a ≠ 0 → objAt objs (a - 1).toNat k.toNat = 0 ∨ Sh R (objAt objs (a - 1).toNat k.toNat)) : Snp objs0 n roots (setO objs a k b) R := by
  unfold setO
  by_cases h0 : a = 0
  · rw [if_pos h0]; exact H
  · rw [if_neg h0]
    refine ⟨fun i j hi hj => ?_, H.rt, H.clo⟩
    rw [objAt_set objs b (by omega) (by rw [h4 _ (by omega)]; omega)]
    by_cases e : i = (a - 1).toNat ∧ j = k.toNat
    · rw [if_pos e]
      obtain ⟨rfl, rfl⟩ := e
      rcases H.ptr _ _ hi hj with h | h
      · rw [← h]; exact .inr (hold h0)
      · exact .inr h
    · rw [if_neg e]
      exact H.ptr i j hi hj
theorem snp_end (H : Snp objs0 n roots objs R) (hg : R.greys = []) {b : Int} (h : Rch objs0 n roots b) : b ∈ R.black := by
  have nog : ∀ x, Sh R x → x ∈ R.black := fun x hx => hx.elim (fun h => by rw [hg] at h; cases h) id
  induction h with
  | root hb b1 _ => exact nog _ (H.rt _ hb (by omega))
  | step ha hb b1 _ ih => exact nog _ (H.clo _ ih _ hb (by omega))
end
end Go.Proofs.YtnoiepmapmcjdaaDoor
