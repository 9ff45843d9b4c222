/- Joined: RoundKit2, RoundKit3, MarkFence, MarkRoots0, SweepAt, SweepSt. -/
import Derived.Test.YtcaboknbdamlhaaGreatDoorRoundKit
import Derived.Test.YtcaboknbdamlhaaGreatDoorMMA
import Derived.Test.YtcaboknbdamlhaaGreatDoorHeapAlive
import Derived.Deep.QuietTactic
import Derived.BigQuiet
set_option linter.unusedVariables false
set_option linter.unusedSimpArgs false
namespace Go.Proofs.YtcaboknbdamlhaaGreatDoor
open Go.RowKit Go.Shelf
section
variable {P : Program} {ops : Array Oper} {Q : Exit → Act → World → Prop} {md : Region.Mode} {S : World → Prop}
theorem wpAnyT_firstA {T i : Nat} {oi : Oper} {v : Value} (hi : ops[i]? = some oi) (hsel : ∀ (j : Nat) (o : Oper) cs b, ops[j]? = some o → o.op ≠ .select cs b)
    (hQ : ∀ c a w, Q (.panic c) (a.put oi.dst v) w → Q (.panic c) a w) (hT : ops[T]? = none) :
    ∀ (fuel : Nat) (listed : Array Bool) (a : Act) (w : World), listed.getD T false = false →
      (∀ j oj, ops[j]? = some oj → j ≠ i → listed.getD j true = false → (∀ e ∈ oj.after, Region.binds md e = true → e.on ≠ i) → oi.apart ops oj = true) →
      i ∈ Region.ready md ops listed → YieldsIf P ops S oi v a → S w →
      wpAnyT P md ops Q T S fuel (listed.setIfInBounds i true) (a.put oi.dst v) w → wpAnyT P md ops Q T S (fuel + 1) listed a w := by
  have hiT : i ≠ T := fun e => by subst e; rw [hT] at hi; cases hi
  intro fuel
  induction fuel with
  | zero =>
    intro listed a w _ _ hr hy hS H
    refine ⟨fun h => (by rw [h] at hr; cases hr), fun j hj => ?_⟩
    by_cases hji : j = i
    · subst hji; exact hy.wpOp hi hS ⟨fun _ _ => hS, H⟩
    · have := ready_mono hj hji
      rw [H.1] at this
      cases this
  | succ fuel ih =>
    intro listed a w hTl hfree hr hy hS H
    refine ⟨fun h => (by rw [h] at hr; cases hr), fun j hj => ?_⟩
    by_cases hji : j = i
    · subst hji; exact hy.wpOp hi hS ⟨fun _ _ => hS, H⟩
    · have h1 := H.2 j (ready_mono hj hji)
      obtain ⟨hjun, oj, hoj, hall⟩ := mem_ready.1 hj
      have hnot : ∀ e ∈ oj.after, Region.binds md e = true → e.on ≠ i := fun e he hb heq => by
        have h1 := hall e he hb
        have h0 := (mem_ready.1 hr).1
        rw [heq] at h1
        rcases Nat.lt_or_ge i listed.size with h' | h'
        · simp [h'] at h0 h1; rw [h0] at h1; cases h1
        · simp [Array.getElem?_eq_none h'] at h1
      have hjT : j ≠ T := fun e => by
        subst e
        rw [hT] at hoj
        cases hoj
      have h2 := wpOp_putIf hoj (hfree j oj hoj hji hjun hnot) (fun cs b => hsel i oi cs b hi) (fun cs b => hsel j oj cs b hoj) hQ hy h1
      have hfree' : ∀ k ok, ops[k]? = some ok → k ≠ i → (listed.setIfInBounds j true).getD k true = false →
          (∀ e ∈ ok.after, Region.binds md e = true → e.on ≠ i) → oi.apart ops ok = true := fun k ok hk hki hun hno => by
        refine hfree k ok hk hki ?_ hno
        by_cases hjk : j = k
        · subst hjk; exact hjun
        · rw [getD_set_ne true hjk] at hun; exact hun
      refine wpOp_mono (fun a' w' h3 => ?_) h2
      have hS' : S w' := h3.2.1 hjT (by rw [getD_set_ne false hiT]; exact hTl)
      refine ⟨fun _ _ => hS', ih (listed.setIfInBounds j true) a' w' (by rw [getD_set_ne false hjT]; exact hTl) hfree' (ready_mono hr (Ne.symm hji)) h3.1 hS' ?_⟩
      rw [Array.setIfInBounds_comm _ _ hji]
      exact h3.2.2
/-- Take number i first, that loads. -/
theorem wpAnyT_takeA {T i : Nat} {oi : Oper} {v : Value} {fuel : Nat} {listed : Array Bool} {a : Act} {w : World} (hi : ops[i]? = some oi)
    (hs : (Region.noSelect ops && Region.free md ops listed i && (Region.ready md ops listed).contains i && !(listed.getD T false)) = true) (hT : ops[T]? = none)
    (hQ : ∀ c a w, Q (.panic c) (a.put oi.dst v) w → Q (.panic c) a w) (hy : YieldsIf P ops S oi v a) (hS : S w)
    (h : wpAnyT P md ops Q T S fuel (listed.setIfInBounds i true) (a.put oi.dst v) w) : wpAnyT P md ops Q T S (fuel + 1) listed a w := by
  simp only [Bool.and_eq_true, Bool.not_eq_true'] at hs
  obtain ⟨⟨⟨h1, h2⟩, h3⟩, h6⟩ := hs
  exact wpAnyT_firstA hi (Region.noSelect_spec h1) hQ hT fuel listed a w h6 (Region.free_spec hi h2) (by simpa using h3) hy hS h
end
theorem wpAnyT_lat2 {P : Program} {md : Region.Mode} {ops : Array Oper} {Q : Exit → Act → World → Prop} {S : World → Prop} {T i : Nat} {o : Oper} {fuel : Nat} {listed : Array Bool} {a : Act} {w : World} (hi : ops[i]? = some o) (hr : Region.ready md ops listed = [i]) (hw : Region.wanted o (yielded ops a.tmps) = true)
    (hT : listed.getD T false = true) (h : ∀ K' : Act → World → Prop, Shut (∀ a' w', wpAnyT P md ops Q T S fuel (listed.setIfInBounds i true) a' w' → K' a' w') → Oper.wp P o a w K' Q) : wpAnyT P md ops Q T S (fuel + 1) listed a w := by
  refine ⟨fun h0 => (by rw [hr] at h0; cases h0), fun j hj => ?_⟩
  rw [hr] at hj
  obtain rfl : j = i := by simpa using hj
  unfold wpOp
  rw [hi]
  simp only
  rw [if_pos hw]
  exact .inl (h _ fun a' w' h1 => ⟨fun _ h4 => absurd (hT.symm.trans h4) (by decide), h1⟩)
end Go.Proofs.YtcaboknbdamlhaaGreatDoor
namespace Go.Proofs.YtcaboknbdamlhaaGreatDoor
open Go.RowKit Go.Shelf
section
variable {P : Program} {ops : Array Oper} {Q : Exit → Act → World → Prop} {md : Region.Mode} {S : World → Prop}
/-- None of i :: ch is listed: then one that waits for one of them is not ready. -/
theorem ready_not {listed : Array Bool} {i : Nat} {ch : List Nat} (hl : ∀ y ∈ i :: ch, listed.getD y true = false) {x : Nat} (hw : ∃ y ∈ i :: ch, Region.waitsFor md ops x y = true) : x ∉ Region.ready md ops listed := by
  intro hr
  obtain ⟨y, hy, hwy⟩ := hw
  obtain ⟨oT, hoT, e, he, hb, hon⟩ := Region.waitsFor_spec hwy
  obtain ⟨hun, ox, hox, hall⟩ := mem_ready.1 hr
  obtain rfl : oT = ox := Option.some.inj (hoT.symm.trans hox)
  have h1 := hall e he hb
  have h0 := hl y hy
  rw [hon] at h1
  rcases Nat.lt_or_ge y listed.size with h' | h'
  · simp [h'] at h0 h1; rw [h0] at h1; cases h1
  · simp [Array.getElem?_eq_none h'] at h1
theorem wpAnyT_firstC {T i : Nat} {oi : Oper} {v : Value} (ch : List Nat) (hi : ops[i]? = some oi) (hsel : ∀ (j : Nat) (o : Oper) cs b, ops[j]? = some o → o.op ≠ .select cs b)
    (hQ : ∀ c a w, Q (.panic c) (a.put oi.dst v) w → Q (.panic c) a w) (hiT : i ≠ T)
    (hc : ∀ x ∈ ch, ∃ y ∈ i :: ch, Region.waitsFor md ops x y = true) (hT : ∃ y ∈ i :: ch, Region.waitsFor md ops T y = true) :
    ∀ (fuel : Nat) (listed : Array Bool) (a : Act) (w : World), listed.getD T false = false → (∀ x ∈ ch, listed.getD x true = false) →
      (∀ j oj, ops[j]? = some oj → j ≠ i → listed.getD j true = false → (∀ e ∈ oj.after, Region.binds md e = true → e.on ≠ i) → oi.apart ops oj = true) →
      i ∈ Region.ready md ops listed → YieldsIf P ops S oi v a → S w →
      wpAnyT P md ops Q T S fuel (listed.setIfInBounds i true) (a.put oi.dst v) w → wpAnyT P md ops Q T S (fuel + 1) listed a w := by
  intro fuel
  induction fuel with
  | zero =>
    intro listed a w _ _ _ hr hy hS H
    refine ⟨fun h => (by rw [h] at hr; cases hr), fun j hj => ?_⟩
    by_cases hji : j = i
    · subst hji; exact hy.wpOp hi hS ⟨fun _ _ => hS, H⟩
    · have := ready_mono hj hji
      rw [H.1] at this
      cases this
  | succ fuel ih =>
    intro listed a w hTl hcl hfree hr hy hS H
    have hall0 : ∀ y ∈ i :: ch, listed.getD y true = false := fun y hy => by
      rcases List.mem_cons.1 hy with rfl | hy
      · exact (mem_ready.1 hr).1
      · exact hcl y hy
    refine ⟨fun h => (by rw [h] at hr; cases hr), fun j hj => ?_⟩
    by_cases hji : j = i
    · subst hji; exact hy.wpOp hi hS ⟨fun _ _ => hS, H⟩
    · have h1 := H.2 j (ready_mono hj hji)
      obtain ⟨hjun, oj, hoj, hall⟩ := mem_ready.1 hj
      have hnot : ∀ e ∈ oj.after, Region.binds md e = true → e.on ≠ i := fun e he hb heq => by
        have h1 := hall e he hb
        have h0 := (mem_ready.1 hr).1
        rw [heq] at h1
        rcases Nat.lt_or_ge i listed.size with h' | h'
        · simp [h'] at h0 h1; rw [h0] at h1; cases h1
        · simp [Array.getElem?_eq_none h'] at h1
      have hjT : j ≠ T := fun e => by subst e; exact ready_not hall0 hT hj
      have hjc : j ∉ ch := fun e => ready_not hall0 (hc j e) hj
      have h2 := wpOp_putIf hoj (hfree j oj hoj hji hjun hnot) (fun cs b => hsel i oi cs b hi) (fun cs b => hsel j oj cs b hoj) hQ hy h1
      have hfree' : ∀ k ok, ops[k]? = some ok → k ≠ i → (listed.setIfInBounds j true).getD k true = false →
          (∀ e ∈ ok.after, Region.binds md e = true → e.on ≠ i) → oi.apart ops ok = true := fun k ok hk hki hun hno => by
        refine hfree k ok hk hki ?_ hno
        by_cases hjk : j = k
        · subst hjk; exact hjun
        · rw [getD_set_ne true hjk] at hun; exact hun
      refine wpOp_mono (fun a' w' h3 => ?_) h2
      have hS' : S w' := h3.2.1 hjT (by rw [getD_set_ne false hiT]; exact hTl)
      refine ⟨fun _ _ => hS', ih (listed.setIfInBounds j true) a' w' (by rw [getD_set_ne false hjT]; exact hTl) (fun x hx => by
        have hjx : j ≠ x := fun e => hjc (by rw [e]; exact hx)
        rw [getD_set_ne true hjx]
        exact hcl x hx) hfree' (ready_mono hr (Ne.symm hji)) h3.1 hS' ?_⟩
      rw [Array.setIfInBounds_comm _ _ hji]
      exact h3.2.2
/-- Take number i first, that loads; T waits for it by way of ch. -/
theorem wpAnyT_takeC {T i : Nat} {oi : Oper} {v : Value} {fuel : Nat} {listed : Array Bool} {a : Act} {w : World} (ch : List Nat) (hi : ops[i]? = some oi)
    (hs : (Region.noSelect ops && Region.free md ops listed i && (Region.ready md ops listed).contains i && (i != T) && !(listed.getD T false) && ch.all (fun x => (i :: ch).any (fun y => Region.waitsFor md ops x y) && !(listed.getD x true)) && (i :: ch).any (fun y => Region.waitsFor md ops T y)) = true)
    (hQ : ∀ c a w, Q (.panic c) (a.put oi.dst v) w → Q (.panic c) a w) (hy : YieldsIf P ops S oi v a) (hS : S w)
    (h : wpAnyT P md ops Q T S fuel (listed.setIfInBounds i true) (a.put oi.dst v) w) : wpAnyT P md ops Q T S (fuel + 1) listed a w := by
  simp only [Bool.and_eq_true, Bool.not_eq_true', bne_iff_ne, ne_eq, List.all_eq_true] at hs
  obtain ⟨⟨⟨⟨⟨⟨h1, h2⟩, h3⟩, h4⟩, h6⟩, h7⟩, h8⟩ := hs
  exact wpAnyT_firstC ch hi (Region.noSelect_spec h1) hQ h4 (fun x hx => List.any_eq_true.1 (h7 x hx).1) (List.any_eq_true.1 h8) fuel listed a w h6 (fun x hx => (h7 x hx).2) (Region.free_spec hi h2) (by simpa using h3) hy hS h
end
end Go.Proofs.YtcaboknbdamlhaaGreatDoor
namespace Go.Proofs.YtcaboknbdamlhaaGreatDoor
open Go.RowKit Go.Shelf
abbrev slE (s : Option Addr × Nat × Nat) : Value := .slice s.1 s.2.1 s.2.2
/-- A slice that reads as a list, its block one of P's. -/
structure RdG {α : Type} (P : Nat → Prop) (enc : α → Value) (w : World) (v : Value) (xs : List α) : Prop where
  rd : Rd enc w v xs
  inP : 0 < xs.length → ∀ b, v.ownBlock = some b → P b
section
variable {α : Type} {P P' : Nat → Prop} {enc : α → Value} {w w' : World} {v : Value} {xs : List α}
theorem rdl_lt (h : Rd enc w v xs) (hp : 0 < xs.length) {b : Nat} (e : v.ownBlock = some b) : b < w.heap.size := by
  obtain ⟨A, c, rfl, -⟩ := h.len
  obtain ⟨b', o, rfl, hlt, _⟩ := h.at_ hp
  have : b' = b := by simpa [Value.ownBlock] using e
  omega
theorem RdG.keep (h : RdG P enc w v xs) (hs : w.heap.size ≤ w'.heap.size) (hk : ∀ b, P b → b < w.heap.size → w'.heap[b]? = w.heap[b]?) : RdG P enc w' v xs :=
  ⟨h.rd.keep hs fun hp b e hlt => hk b (h.inP hp b e) hlt, h.inP⟩
theorem RdG.mono (h : RdG P enc w v xs) (hP : ∀ b, P b → P' b) : RdG P' enc w v xs := ⟨h.rd, fun hp b e => hP b (h.inP hp b e)⟩
end
def RdLL (P : Nat → Prop) (w : World) (vo : Value) (objs : List (List Int)) : Prop :=
  ∃ us : List (Option Addr × Nat × Nat), us.length = objs.length ∧ RdG P slE w vo us ∧ ∀ i (h1 : i < us.length) (h2 : i < objs.length), RdG P i64e w (slE us[i]) objs[i]
theorem RdLL.keep {P : Nat → Prop} {w w' : World} {vo : Value} {objs : List (List Int)} (h : RdLL P w vo objs) (hs : w.heap.size ≤ w'.heap.size) (hk : ∀ b, P b → b < w.heap.size → w'.heap[b]? = w.heap[b]?) : RdLL P w' vo objs := by
  obtain ⟨us, h1, h2, h3⟩ := h
  exact ⟨us, h1, h2.keep hs hk, fun i i1 i2 => (h3 i i1 i2).keep hs hk⟩
theorem RdLL.mono {P P' : Nat → Prop} {w : World} {vo : Value} {objs : List (List Int)} (h : RdLL P w vo objs) (hP : ∀ b, P b → P' b) : RdLL P' w vo objs := by
  obtain ⟨us, h1, h2, h3⟩ := h
  exact ⟨us, h1, h2.mono hP, fun i i1 i2 => (h3 i i1 i2).mono hP⟩
section
variable {w w' : World} {h m : Nat} {S : HS} {F D : Nat → Prop} {K : MK}
theorem MAt.keep (H : MAt w m h S F K D) (hs : w.heap.size ≤ w'.heap.size) (hk : ∀ k, k < w.heap.size → (F k ∨ D k ∨ k = 0) → w'.heap[k]? = w.heap[k]?) : MAt w' m h S F K D := by
  obtain ⟨vs, vg, M⟩ := H.mrk
  exact ⟨H.hp.keep hs fun k hlt hF => hk k hlt (hF.elim .inl fun e => .inr (.inr e)), ⟨vs, vg, M.keep hs fun k hD => hk k (M.lt k hD) (.inr (.inl hD))⟩, H.dis, H.tab⟩
end
/-- What must stay: the blocks of a base, and others that lie as in wq. -/
structure W0 where
  base : World
  Q : Nat → Prop
  wq : World
def W0.free (w0 : W0) (k : Nat) : Prop := w0.base.heap.size ≤ k ∧ ¬ w0.Q k
abbrev ofW (w : World) : W0 := ⟨w, fun _ => False, w⟩
structure Fen (w0 : W0) (w : World) : Prop where
  b : Below w0.base.heap.size w0.base w
  kept : ∀ k, w0.Q k → k < w.heap.size ∧ w.heap[k]? = w0.wq.heap[k]?
theorem Fen.new {w0 : W0} {w : World} (H : Fen w0 w) {k : Nat} (h : w.heap.size ≤ k) : w0.free k := ⟨Nat.le_trans H.b.size h, fun hq => by have := (H.kept k hq).1; omega⟩
theorem Fen.below {w0 : W0} {w w' : World} (H : Fen w0 w) (hb : Below w.heap.size w w') : Fen w0 w' :=
  ⟨H.b.trans (hb.mono H.b.size), fun k hk => ⟨Nat.lt_of_lt_of_le (H.kept k hk).1 hb.size, (hb.block k (H.kept k hk).1).trans (H.kept k hk).2⟩⟩
theorem Fen.step {w0 : W0} {w w' : World} {D D' : Nat → Prop} (H : Fen w0 w) (s : Step D w w' D') (hD : ∀ k, D k → w0.free k) : Fen w0 w' :=
  ⟨H.b.trans (s.below (fun k hk => (hD k hk).1) H.b.size), fun k hk => ⟨Nat.lt_of_lt_of_le (H.kept k hk).1 s.frame.size, (s.frame.block k (H.kept k hk).1 fun h => (hD k h).2 hk).trans (H.kept k hk).2⟩⟩
/-- The blocks that came since w, as they lie in w1, are kept too. -/
def W0.guard (w0 : W0) (w w1 : World) : W0 := ⟨w0.base, fun k => w0.Q k ∨ (w.heap.size ≤ k ∧ k < w1.heap.size), w1⟩
theorem Fen.guard {w0 : W0} {w w1 : World} (H : Fen w0 w) (hb : Below w.heap.size w w1) : Fen (w0.guard w w1) w1 :=
  ⟨(H.below hb).b, fun k hk => ⟨hk.elim (fun h => ((H.below hb).kept k h).1) (·.2), rfl⟩⟩
theorem Fen.unguard {w0 : W0} {w w1 w2 : World} (H : Fen w0 w) (hb : Below w.heap.size w w1) (H2 : Fen (w0.guard w w1) w2) : Fen w0 w2 :=
  ⟨H2.b, fun k hk => ⟨(H2.kept k (.inl hk)).1, (H2.kept k (.inl hk)).2.trans ((H.below hb).kept k hk).2⟩⟩
end Go.Proofs.YtcaboknbdamlhaaGreatDoor
namespace Go.Proofs.YtcaboknbdamlhaaGreatDoor
abbrev u8e (n : Int) : Value := .int .u8 n
theorem map_take_snoc {α β : Type} (f : α → β) (l : List α) {j : Nat} (h : j < l.length) : (l.take (j + 1)).map f = (l.take j).map f ++ [f l[j]] := by
  rw [List.take_add_one, List.getElem?_eq_getElem h, List.map_append]
  rfl
end Go.Proofs.YtcaboknbdamlhaaGreatDoor
namespace Go.Proofs.YtcaboknbdamlhaaGreatDoor
open Go.RowKit Go.Shelf
structure SS where
  S : HS
  K : MK
  ph : Int
  left : List Int
  cyc : Int
def scells (h m : Nat) (ph : Int) (vl : Value) (cyc : Int) : Array Value := #[.pointer (some ⟨h, 0, none⟩), .pointer (some ⟨m, 0, none⟩), .int .i64 ph, vl, .int .i64 cyc]
structure SIn (w : World) (s h m : Nat) (ph : Int) (left : List Int) (cyc : Int) (G : Nat → Prop) (vl : Value) : Prop where
  blk : Blk w s 87 (scells h m ph vl cyc)
  lf : RdG (fun b => G b ∧ b ≠ s) i64e w vl left
  gs : G s
  lt : ∀ k, G k → k < w.heap.size
structure SAt (w : World) (s h m : Nat) (T : SS) (F D G : Nat → Prop) : Prop where
  mm : MAt w m h T.S F T.K D
  si : ∃ vl, SIn w s h m T.ph T.left T.cyc G vl
  df : ∀ k, G k → ¬ F k
  dd : ∀ k, G k → ¬ D k
  tb : ¬ G 0
section
variable {w w' : World} {s h m : Nat} {T : SS} {S S' : HS} {K K' : MK} {ph ph' cyc cyc' : Int} {left left' : List Int} {F F' D D' G G' : Nat → Prop} {vl : Value}
theorem SIn.keep (H : SIn w s h m ph left cyc G vl) (hs : w.heap.size ≤ w'.heap.size) (hk : ∀ k, G k → w'.heap[k]? = w.heap[k]?) : SIn w' s h m ph left cyc G vl :=
  ⟨(hk s H.gs).trans H.blk, H.lf.keep hs fun b hb _ => hk b hb.1, H.gs, fun k hk' => Nat.lt_of_lt_of_le (H.lt k hk') hs⟩
theorem SAt.glt (H : SAt w s h m T F D G) : ∀ k, G k → k < w.heap.size := by obtain ⟨_, I⟩ := H.si; exact I.lt
theorem SAt.below (H : SAt w s h m T F D G) (hb : Below w.heap.size w w') : SAt w' s h m T F D G := by
  obtain ⟨vl, I⟩ := H.si
  exact ⟨H.mm.below hb, ⟨vl, I.keep hb.size fun k hk => hb.block k (I.lt k hk)⟩, H.df, H.dd, H.tb⟩
theorem SAt.marks (H : SAt w s h m ⟨S, K, ph, left, cyc⟩ F D G) (M : MAt w' m h S F K' D') (st : Step D w w' D') : SAt w' s h m ⟨S, K', ph, left, cyc⟩ F D' G := by
  obtain ⟨vl, I⟩ := H.si
  exact ⟨M, ⟨vl, I.keep st.frame.size fun k hk => st.frame.block k (I.lt k hk) (H.dd k hk)⟩, H.df, fun k hk hD => (st.sub k hD).elim (H.dd k hk) fun e => by have := I.lt k hk; omega, H.tb⟩
theorem SAt.heap (H : SAt w s h m ⟨S, K, ph, left, cyc⟩ F D G) (P : HpAt w' h S' F') (st : Step F w w' F') : SAt w' s h m ⟨S', K, ph, left, cyc⟩ F' D G := by
  obtain ⟨vl, I⟩ := H.si
  exact ⟨H.mm.heap P st, ⟨vl, I.keep st.frame.size fun k hk => st.frame.block k (I.lt k hk) (H.df k hk)⟩, fun k hk hF => (st.sub k hF).elim (H.df k hk) fun e => by have := I.lt k hk; omega, H.dd, H.tb⟩
theorem SAt.own (H : SAt w s h m ⟨S, K, ph, left, cyc⟩ F D G) (I : SIn w' s h m ph' left' cyc' G' vl) (st : Step G w w' G') : SAt w' s h m ⟨S, K, ph', left', cyc'⟩ F D G' :=
  ⟨H.mm.keep st.frame.size fun k hlt hk => st.frame.block k hlt fun hG => hk.elim (H.df k hG) fun h => h.elim (H.dd k hG) fun e => H.tb (e ▸ hG), ⟨vl, I⟩,
    fun k hk hF => (st.sub k hk).elim (fun h => H.df k h hF) fun e => by have := H.mm.hp.lt k hF; omega, fun k hk hD => (st.sub k hk).elim (fun h => H.dd k h hD) fun e => by have := H.mm.dlt k hD; omega,
    fun ht => (st.sub _ ht).elim H.tb fun e => by have := H.mm.hp.tab.lt; omega⟩
end
/-- The store, its footprints behind a fence. -/
def LS (w0 : W0) (w : World) (s h m : Nat) (T : SS) : Prop := ∃ F D G, SAt w s h m T F D G ∧ (∀ k, F k ∨ D k ∨ G k → w0.free k) ∧ Fen w0 w
section
variable {w0 : W0} {w w' : World} {s h m : Nat} {T : SS} {S S' : HS} {K K' : MK} {ph ph' cyc cyc' : Int} {left left' : List Int} {F F' D D' G G' : Nat → Prop} {vl : Value}
theorem LS.b (H : LS w0 w s h m T) : Below w0.base.heap.size w0.base w := by obtain ⟨_, _, _, _, _, b⟩ := H; exact b.b
theorem LS.inv (H : LS w0 w s h m T) : Inv T.S := by obtain ⟨_, _, _, W, _⟩ := H; exact W.mm.hp.inv
theorem LS.gi (H : LS w0 w s h m T) : GInv T.K := by obtain ⟨_, _, _, W, _⟩ := H; exact W.mm.gi
theorem LS.below (H : LS w0 w s h m T) (hb : Below w.heap.size w w') : LS w0 w' s h m T := by
  obtain ⟨F, D, G, W, hF, b⟩ := H
  exact ⟨F, D, G, W.below hb, hF, b.below hb⟩
theorem LS.cells (H : LS w0 w s h m T) : w.cell? ⟨s, 0, none⟩ = some (.pointer (some ⟨h, 0, none⟩)) ∧ w.cell? ⟨s, 1, none⟩ = some (.pointer (some ⟨m, 0, none⟩)) ∧ w.cell? ⟨s, 2, none⟩ = some (.int .i64 T.ph) ∧ w.cell? ⟨s, 4, none⟩ = some (.int .i64 T.cyc) ∧ s < w.heap.size := by
  obtain ⟨F, D, G, W, hF, b⟩ := H
  obtain ⟨vl, I⟩ := W.si
  exact ⟨I.blk.cell 0, I.blk.cell 1, I.blk.cell 2, I.blk.cell 4, I.blk.lt⟩
theorem sfree_marks (hF : ∀ k, F k ∨ D k ∨ G k → w0.free k) (b : Fen w0 w) (st : Step D w w' D') : ∀ k, F k ∨ D' k ∨ G k → w0.free k := fun k hk => by
  rcases hk with h | h | h
  · exact hF k (.inl h)
  · exact (st.sub k h).elim (fun h => hF k (.inr (.inl h))) fun h => b.new h
  · exact hF k (.inr (.inr h))
theorem sfree_heap (hF : ∀ k, F k ∨ D k ∨ G k → w0.free k) (b : Fen w0 w) (st : Step F w w' F') : ∀ k, F' k ∨ D k ∨ G k → w0.free k := fun k hk => by
  rcases hk with h | h | h
  · exact (st.sub k h).elim (fun h => hF k (.inl h)) fun h => b.new h
  · exact hF k (.inr (.inl h))
  · exact hF k (.inr (.inr h))
theorem sfree_own (hF : ∀ k, F k ∨ D k ∨ G k → w0.free k) (b : Fen w0 w) (st : Step G w w' G') : ∀ k, F k ∨ D k ∨ G' k → w0.free k := fun k hk => by
  rcases hk with h | h | h
  · exact hF k (.inl h)
  · exact hF k (.inr (.inl h))
  · exact (st.sub k h).elim (fun h => hF k (.inr (.inr h))) fun h => b.new h
/-- A cell of the store's own block is written (its phase, how many cycles ended). -/
theorem LS.phase (H : LS w0 w s h m ⟨S, K, ph, left, cyc⟩) (ph' : Int) : w.frozen? ⟨s, 2, none⟩ = false ∧ LS w0 (w.setCell ⟨s, 2, none⟩ (.int .i64 ph')) s h m ⟨S, K, ph', left, cyc⟩ := by
  obtain ⟨F, D, G, W, hF, b⟩ := H
  obtain ⟨vl, I⟩ := W.si
  have hz := setCell_size w ⟨s, 2, none⟩ (.int .i64 ph')
  have ho : ∀ k, k ≠ s → (w.setCell ⟨s, 2, none⟩ (.int .i64 ph')).heap[k]? = w.heap[k]? := fun k hk => setCell_other w s 2 _ hk
  have I' : SIn (w.setCell ⟨s, 2, none⟩ (.int .i64 ph')) s h m ph' left cyc G vl := ⟨I.blk.set_ 2 _, I.lf.keep (by rw [hz]; exact Nat.le_refl _) fun b hb _ => ho b hb.2, I.gs, fun k hk => by rw [hz]; exact I.lt k hk⟩
  have st : Step G w (w.setCell ⟨s, 2, none⟩ (.int .i64 ph')) G := ⟨⟨rfl, rfl, rfl, by rw [hz]; exact Nat.le_refl _, fun k hk hn => ho k fun e => hn (by rw [e]; exact I.gs)⟩, fun k hk => .inl hk⟩
  exact ⟨I.blk.frozen 2, F, D, G, W.own I' st, sfree_own hF b st, b.step st fun k hk => hF k (.inr (.inr hk))⟩
theorem LS.cycle (H : LS w0 w s h m ⟨S, K, ph, left, cyc⟩) (cyc' : Int) : w.frozen? ⟨s, 4, none⟩ = false ∧ LS w0 (w.setCell ⟨s, 4, none⟩ (.int .i64 cyc')) s h m ⟨S, K, ph, left, cyc'⟩ := by
  obtain ⟨F, D, G, W, hF, b⟩ := H
  obtain ⟨vl, I⟩ := W.si
  have hz := setCell_size w ⟨s, 4, none⟩ (.int .i64 cyc')
  have ho : ∀ k, k ≠ s → (w.setCell ⟨s, 4, none⟩ (.int .i64 cyc')).heap[k]? = w.heap[k]? := fun k hk => setCell_other w s 4 _ hk
  have I' : SIn (w.setCell ⟨s, 4, none⟩ (.int .i64 cyc')) s h m ph left cyc' G vl := ⟨I.blk.set_ 4 _, I.lf.keep (by rw [hz]; exact Nat.le_refl _) fun b hb _ => ho b hb.2, I.gs, fun k hk => by rw [hz]; exact I.lt k hk⟩
  have st : Step G w (w.setCell ⟨s, 4, none⟩ (.int .i64 cyc')) G := ⟨⟨rfl, rfl, rfl, by rw [hz]; exact Nat.le_refl _, fun k hk hn => ho k fun e => hn (by rw [e]; exact I.gs)⟩, fun k hk => .inl hk⟩
  exact ⟨I.blk.frozen 4, F, D, G, W.own I' st, sfree_own hF b st, b.step st fun k hk => hF k (.inr (.inr hk))⟩
end
end Go.Proofs.YtcaboknbdamlhaaGreatDoor
namespace Go.Proofs.YtcaboknbdamlhaaGreatDoor
open Go.RowKit Go.Shelf
def qShade (T : SS) (p : Int) : SS := { T with K := mShade T.S T.K p }
def qAlloc (T : SS) (n mask junk : Int) : SS × Int × Int :=
  if (sAlloc T.S n mask junk).2.2 = 0 then ({ T with S := (sAlloc T.S n mask junk).1, K := mMade (sAlloc T.S n mask junk).1 T.K (sAlloc T.S n mask junk).2.1 }, (sAlloc T.S n mask junk).2.1, (mKnown (sAlloc T.S n mask junk).1 T.K (sAlloc T.S n mask junk).2.1).2)
  else ({ T with S := (sAlloc T.S n mask junk).1 }, (sAlloc T.S n mask junk).2)
def qBegin (T : SS) (l : List Int) : SS × Int :=
  if T.ph ≠ 0 then (T, 8) else ({ T with K := (mBegin T.S T.K l).1, ph := if (mBegin T.S T.K l).2 = 0 then 1 else T.ph }, (mBegin T.S T.K l).2)
def qMark (T : SS) : SS × Int :=
  if (mStep T.S T.K).1.1 = true ∨ (mStep T.S T.K).1.2 ≠ 0 then ({ T with K := (mStep T.S T.K).2 }, (mStep T.S T.K).1.2)
  else ({ T with K := mOff (mStep T.S T.K).2, ph := 2, left := keepP (mStep T.S T.K).2.seen (sAll T.S) }, 0)
def qSweep (T : SS) (junk : Int) : SS × Int :=
  match T.left with
  | [] => ({ T with ph := 0, cyc := T.cyc + 1 }, 0)
  | x :: l => ({ T with S := (sFree T.S x junk).1, left := l }, (sFree T.S x junk).2)
def qStep (T : SS) (junk : Int) : SS × Int := if T.ph = 1 then qMark T else if T.ph = 2 then qSweep T junk else (T, 0)
section
variable {w0 : W0} {w w' : World} {s h m : Nat} {T : SS}
theorem ls_good (H : LS w0 w s h m T) : Calls Tryz.prog 38 #[.pointer (some ⟨s, 0, none⟩)] w fun e w' => e = .returned (.bool true) ∧ w = w' := by
  have c0 := H.cells.1
  clear H
  go_enter Tryz.func38, Tryz.ntmps38
  go_wp2_with fail
  go_ret
  exact ⟨rfl, rfl⟩
theorem ls_heap (H : LS w0 w s h m T) : Calls Tryz.prog 14 #[.pointer (some ⟨s, 0, none⟩)] w fun e w' => e = .returned (.pointer (some ⟨h, 0, none⟩)) ∧ w = w' := by
  have c0 := H.cells.1
  have HG := Lib.hid (ls_good H)
  clear H
  go_enter Tryz.func14, Tryz.ntmps14
  go_wp2_with fail
  refine HG.out.mono ?_
  rintro e _ ⟨rfl, rfl⟩
  go_wp2_with fail
  go_ret
  exact ⟨rfl, rfl⟩
theorem ls_phase (H : LS w0 w s h m T) : Calls Tryz.prog 20 #[.pointer (some ⟨s, 0, none⟩)] w fun e w' => e = .returned (.tuple #[.int .i64 T.ph, .int .i64 T.cyc]) ∧ Below w.heap.size w w' := by
  have c2 := H.cells.2.2.1
  have c4 := H.cells.2.2.2.1
  have HG := Lib.hid (ls_good H)
  clear H
  go_enter Tryz.func20, Tryz.ntmps20
  go_wp2_with fail
  refine HG.out.mono ?_
  rintro e _ ⟨rfl, rfl⟩
  go_wp2_with fail
  go_quiet (fail)
  go_wp2_with fail
  go_ret2
  exact ⟨rfl, below_drewN (Below.refl _ _) _⟩
theorem ls_shade (H : LS w0 w s h m T) (p : Int) (hp : -9223372036854775808 ≤ p ∧ p ≤ 9223372036854775807) : Calls Tryz.prog 36 #[.pointer (some ⟨s, 0, none⟩), .int .i64 p] w fun e w' => e = .returned (.int .i64 (mKnown T.S T.K p).2) ∧ LS w0 w' s h m (qShade T p) := by
  have c1 := H.cells.2.1
  have HG := Lib.hid (ls_good H)
  obtain ⟨F, D, G, W, hF, b⟩ := H
  have HM := Lib.hid (shade_m m h T.S F T.K D w W.mm p hp.1 hp.2)
  replace W := Lib.hid W
  replace hF := Lib.hid hF
  replace b := Lib.hid b
  go_enter Tryz.func36, Tryz.ntmps36
  go_wp2_with fail
  refine HG.out.mono ?_
  rintro e _ ⟨rfl, rfl⟩
  go_wp2_with fail
  refine HM.out.mono ?_
  rintro e w' ⟨rfl, D', M, st⟩
  have H' : LS w0 w' s h m (qShade T p) := ⟨F, D', G, W.out.marks M st, sfree_marks hF.out b.out st, b.out.step st fun k hk => hF.out k (.inr (.inl hk))⟩
  replace H' := Lib.hid H'
  clear HM HG
  go_wp2_with fail
  go_ret
  exact ⟨rfl, H'.out⟩
theorem ls_alloc (H : LS w0 w s h m T) (n mask junk : Int) (hm : 0 ≤ mask ∧ mask ≤ 255) (hx : -9223372036854775808 ≤ junk ∧ junk ≤ 9223372036854775807) (hpb : -9223372036854775808 ≤ (sAlloc T.S n mask junk).2.1 ∧ (sAlloc T.S n mask junk).2.1 ≤ 9223372036854775807) :
    Calls Tryz.prog 22 #[.pointer (some ⟨s, 0, none⟩), .int .i64 n, .int .u8 mask, .int .i64 junk] w fun e w' => e = .returned (.tuple #[.int .i64 (qAlloc T n mask junk).2.1, .int .i64 (qAlloc T n mask junk).2.2]) ∧ LS w0 w' s h m (qAlloc T n mask junk).1 := by
  have c0 := H.cells.1
  have HG := Lib.hid (ls_good H)
  obtain ⟨F, D, G, W, hF, b⟩ := H
  have HA := alloc_s h T.S F w n mask junk W.mm.hp hm.1 hm.2 hx
  obtain ⟨S1, p, er, hr⟩ : ∃ S1 p er, sAlloc T.S n mask junk = (S1, p, er) := ⟨_, _, _, rfl⟩
  unfold qAlloc
  rw [hr] at HA hpb ⊢
  dsimp only at HA hpb ⊢
  replace hr := Lib.hid hr
  replace HA := Lib.hid HA
  replace W := Lib.hid W
  replace hF := Lib.hid hF
  replace b := Lib.hid b
  by_cases h0 : er = 0
  · subst h0
    rw [if_pos rfl]
    dsimp only
    go_enter Tryz.func22, Tryz.ntmps22
    go_wp2_with fail
    refine HG.out.mono ?_
    rintro e _ ⟨rfl, rfl⟩
    clear HG
    go_wp2_with fail
    refine HA.out.mono ?_
    rintro e w1 ⟨rfl, F', P, st⟩
    have W1 := W.out.heap (K := T.K) (ph := T.ph) (left := T.left) (cyc := T.cyc) P st
    have hF1 := sfree_heap hF.out b.out st
    have b1 := b.out.step st fun k hk => hF.out k (.inl hk)
    have H1 : LS w0 w1 s h m ⟨S1, T.K, T.ph, T.left, T.cyc⟩ := ⟨F', D, G, W1, hF1, b1⟩
    have c1 := H1.cells.2.1
    have HM := Lib.hid (made_m m h S1 F' T.K D w1 W1.mm p hpb.1 hpb.2)
    replace W1 := Lib.hid W1
    replace hF1 := Lib.hid hF1
    replace b1 := Lib.hid b1
    clear HA st P H1 W hF b c0
    go_wp2_with fail
    refine HM.out.mono ?_
    rintro e w2 ⟨rfl, D', M, st2⟩
    have H2 : LS w0 w2 s h m ⟨S1, mMade S1 T.K p, T.ph, T.left, T.cyc⟩ := ⟨F', D', G, W1.out.marks M st2, sfree_marks hF1.out b1.out st2, b1.out.step st2 fun k hk => hF1.out k (.inr (.inl hk))⟩
    replace H2 := Lib.hid H2
    clear HM M st2 W1 hF1 b1 c1
    go_wp2_with fail
    go_ret2
    exact ⟨rfl, H2.out⟩
  · rw [if_neg h0]
    dsimp only
    have h02 : (er == 0) = false := beq_eq_false_iff_ne.2 h0
    go_enter Tryz.func22, Tryz.ntmps22
    go_wp2_with fail
    refine HG.out.mono ?_
    rintro e _ ⟨rfl, rfl⟩
    clear HG
    go_wp2_with fail
    refine HA.out.mono ?_
    rintro e w1 ⟨rfl, F', P, st⟩
    have H1 : LS w0 w1 s h m ⟨S1, T.K, T.ph, T.left, T.cyc⟩ := ⟨F', D, G, W.out.heap P st, sfree_heap hF.out b.out st, b.out.step st fun k hk => hF.out k (.inl hk)⟩
    replace H1 := Lib.hid H1
    clear HA st P W hF b c0
    go_wp2_with fail
    go_ret2
    exact ⟨rfl, H1.out⟩
theorem ls_begin (H : LS w0 w s h m T) {w1 : World} (hb : Below w.heap.size w w1) (vr : Value) (l : List Int) (hv : Rd i64e w1 vr l) (hl : l.length ≤ 4096) (hbd : ∀ x ∈ l, -9223372036854775808 ≤ x ∧ x ≤ 9223372036854775807) (hf : ∀ b, vr.ownBlock = some b → w.heap.size ≤ b) :
    Calls Tryz.prog 18 #[.pointer (some ⟨s, 0, none⟩), vr] w1 fun e w' => e = .returned (.int .i64 (qBegin T l).2) ∧ LS w0 w' s h m (qBegin T l).1 := by
  have H1 := H.below hb
  have c1 := H1.cells.2.1
  have c2 := H1.cells.2.2.1
  have HG := Lib.hid (ls_good H1)
  unfold qBegin
  by_cases hp : T.ph = 0
  · rw [if_neg (by simpa using hp)]
    obtain ⟨F, D, G, W, hF, b⟩ := H
    have HM := begin_m m h T.S F T.K D w1 (W.mm.below hb) vr l hv hl hbd (fun _ k e hD => by have := W.mm.dlt k hD; have := hf k e; omega)
    obtain ⟨K1, er, hr⟩ : ∃ K1 er, mBegin T.S T.K l = (K1, er) := ⟨_, _, rfl⟩
    rw [hr] at HM ⊢
    dsimp only at HM ⊢
    have W1 := Lib.hid (W.below hb)
    have b1 := Lib.hid (b.below hb)
    replace hF := Lib.hid hF
    replace HM := Lib.hid HM
    replace hr := Lib.hid hr
    rw [hp] at c2
    obtain ⟨ph', hph⟩ : ∃ ph', ph' = (if er = 0 then 1 else T.ph) := ⟨_, rfl⟩
    rw [← hph]
    replace hph := Lib.hid hph
    replace hp := Lib.hid hp
    clear W b H1
    obtain ⟨A, c, rfl, -⟩ := hv.len
    clear hv
    go_enter Tryz.func18, Tryz.ntmps18
    go_wp2_with fail
    refine HG.out.mono ?_
    rintro e _ ⟨rfl, rfl⟩
    clear HG
    go_wp2_with fail
    refine HM.out.mono ?_
    rintro e w2 ⟨rfl, D', M, st⟩
    have H2 : LS w0 w2 s h m ⟨T.S, K1, T.ph, T.left, T.cyc⟩ := ⟨F, D', G, W1.out.marks M st, sfree_marks hF.out b1.out st, b1.out.step st fun k hk => hF.out k (.inr (.inl hk))⟩
    have c22 : w2.cell? ⟨s, 2, none⟩ = some (.int .i64 T.ph) := H2.cells.2.2.1
    obtain ⟨f2, H3⟩ := H2.phase 1
    replace H2 := Lib.hid H2
    replace H3 := Lib.hid H3
    clear HM M st W1 b1 hF c1 c2
    by_cases h0 : er = 0
    · subst h0
      have hp1 : ph' = 1 := by rw [hph.out, if_pos rfl]
      subst hp1
      go_wp2_with fail
      go_ret
      exact ⟨rfl, H3.out⟩
    · have hp1 : ph' = T.ph := by rw [hph.out, if_neg h0]
      subst hp1
      have h02 : (er == 0) = false := beq_eq_false_iff_ne.2 h0
      go_wp2_with fail
      go_ret
      exact ⟨rfl, H2.out⟩
  · rw [if_pos (by simpa using hp)]
    have hp2 : (T.ph == 0) = false := beq_eq_false_iff_ne.2 hp
    replace H1 := Lib.hid H1
    obtain ⟨A, c, rfl, -⟩ := hv.len
    clear hv
    go_enter Tryz.func18, Tryz.ntmps18
    go_wp2_with fail
    refine HG.out.mono ?_
    rintro e _ ⟨rfl, rfl⟩
    go_wp2_with fail
    go_ret
    exact ⟨rfl, H1.out⟩
/-- What is left is set: a list of the call's own. -/
theorem ls_left {S : HS} {K : MK} {ph cyc : Int} {left : List Int} {F D G : Nat → Prop} (W : SAt w s h m ⟨S, K, ph, left, cyc⟩ F D G) (hF : ∀ k, F k ∨ D k ∨ G k → w0.free k) (b : Fen w0 w) (v : Value) (xs : List Int) (hv : w.ownsRow 0 3 1 v xs.length (xs.map i64e))
    (hB : ∀ k, v.ownBlock = some k → ¬ F k ∧ ¬ D k ∧ k ≠ s ∧ k ≠ 0 ∧ w0.free k) : w.frozen? ⟨s, 3, none⟩ = false ∧ LS w0 (w.setCell ⟨s, 3, none⟩ v) s h m ⟨S, K, ph, xs, cyc⟩ := by
  obtain ⟨vl, I⟩ := W.si
  have hz := setCell_size w ⟨s, 3, none⟩ v
  have ho : ∀ k, k ≠ s → (w.setCell ⟨s, 3, none⟩ v).heap[k]? = w.heap[k]? := fun k hk => setCell_other w s 3 _ hk
  have hsF : ∀ k, F k → k ≠ s := fun k hk e => W.df s I.gs (e ▸ hk)
  have hsD : ∀ k, D k → k ≠ s := fun k hk e => W.dd s I.gs (e ▸ hk)
  refine ⟨I.blk.frozen 3, F, D, fun k => G k ∨ v.ownBlock = some k, ⟨W.mm.keep (by rw [hz]; exact Nat.le_refl _) fun k hlt hk => ho k ?_, ⟨v, I.blk.set_ 3 v, ⟨?_, fun _ k e => ⟨.inr e, (hB k e).2.2.1⟩⟩, .inl I.gs, fun k hk => ?_⟩, fun k hk hf => hk.elim (fun h => W.df k h hf) fun h => (hB k h).1 hf, fun k hk hd => hk.elim (fun h => W.dd k h hd) fun h => (hB k h).2.1 hd, fun ht => ht.elim W.tb fun h => (hB _ h).2.2.2.1 rfl⟩, fun k hk => ?_, ?_⟩
  · rcases hk with h | h | h
    · exact hsF k h
    · exact hsD k h
    · exact fun e => W.tb (by rw [← h, e]; exact I.gs)
  · exact (Rd.of_own hv).keep (by rw [hz]; exact Nat.le_refl _) fun _ k e _ => ho k (hB k e).2.2.1
  · rw [hz]
    exact hk.elim (I.lt k) fun h => (hv.lt k h).2
  · rcases hk with h | h | h | h
    · exact hF k (.inl h)
    · exact hF k (.inr (.inl h))
    · exact hF k (.inr (.inr h))
    · exact (hB k h).2.2.2.2
  · have hgs := hF s (.inr (.inr I.gs))
    exact ⟨b.b.setCell (p := ⟨s, 3, none⟩) hgs.1 _, fun k hk => ⟨by rw [hz]; exact (b.kept k hk).1, (ho k fun e => hgs.2 (e ▸ hk)).trans (b.kept k hk).2⟩⟩
theorem shade_on (S : HS) (K : MK) (p : Int) : (mShade S K p).on = K.on := by
  unfold mShade
  split <;> rfl
theorem scan_on (S : HS) (p mask : Int) (K : MK) : ∀ j, (mScan S p mask K j).1.on = K.on
  | 0 => rfl
  | j + 1 => by
    show (if (mScan S p mask K j).2 ≠ 0 ∨ mBit mask j = false then mScan S p mask K j else _).1.on = _
    split
    · exact scan_on S p mask K j
    · exact (shade_on S _ _).trans (scan_on S p mask K j)
theorem step_on (S : HS) (K : MK) : (mStep S K).2.on = K.on := by
  unfold mStep
  split
  · rfl
  · split
    · rfl
    · split
      · exact scan_on S _ _ _ _
      · exact scan_on S _ _ _ _
set_option maxHeartbeats 3200000 in
set_option maxRecDepth 100000 in
theorem ls_mark (H : LS w0 w s h m T) (hon : T.K.on = true) : Calls Tryz.prog 46 #[.pointer (some ⟨s, 0, none⟩)] w fun e w' => e = .returned (.int .i64 (qMark T).2) ∧ LS w0 w' s h m (qMark T).1 := by
  have c1 := H.cells.2.1
  have hon1 := (step_on T.S T.K).trans hon
  obtain ⟨F, D, G, W, hF, b⟩ := H
  have HM := step_m m h T.S F T.K D w W.mm
  obtain ⟨did, er, K1, hr⟩ : ∃ did er K1, mStep T.S T.K = ((did, er), K1) := ⟨_, _, _, rfl⟩
  unfold qMark
  rw [hr] at HM hon1 ⊢
  dsimp only at HM hon1 ⊢
  replace hr := Lib.hid hr
  replace HM := Lib.hid HM
  replace W := Lib.hid W
  replace hF := Lib.hid hF
  replace b := Lib.hid b
  replace hon := Lib.hid hon
  replace hon1 := Lib.hid hon1
  obtain ⟨Q, hQ⟩ : ∃ Q : SS × Int, Q = (if did = true ∨ er ≠ 0 then (⟨T.S, K1, T.ph, T.left, T.cyc⟩, er) else (⟨T.S, mOff K1, 2, keepP K1.seen (sAll T.S), T.cyc⟩, 0)) := ⟨_, rfl⟩
  rw [show (if did = true ∨ er ≠ 0 then (({ T with K := K1 } : SS), er) else ({ T with K := mOff K1, ph := 2, left := keepP K1.seen (sAll T.S) }, 0)) = Q from hQ.symm]
  replace hQ := Lib.hid hQ
  go_enter Tryz.func46, Tryz.ntmps46
  go_wp2_with fail
  refine HM.out.mono ?_
  rintro e w1 ⟨rfl, D', M, st⟩
  have W1 := W.out.marks (ph := T.ph) (left := T.left) (cyc := T.cyc) M st
  have hF1 := sfree_marks hF.out b.out st
  have b1 := b.out.step st fun k hk => hF.out k (.inr (.inl hk))
  have H1 : LS w0 w1 s h m ⟨T.S, K1, T.ph, T.left, T.cyc⟩ := ⟨F, D', G, W1, hF1, b1⟩
  have c11 := H1.cells.2.1
  replace H1 := Lib.hid H1
  clear HM st M W hF b c1
  cases did with
  | true =>
    have hQ1 : Q = (⟨T.S, K1, T.ph, T.left, T.cyc⟩, er) := by rw [hQ.out, if_pos (.inl rfl)]
    subst hQ1
    go_wp2_with fail
    go_ret
    exact ⟨rfl, H1.out⟩
  | false =>
    by_cases h0 : er = 0
    · subst h0
      have hQ1 : Q = (⟨T.S, mOff K1, 2, keepP K1.seen (sAll T.S), T.cyc⟩, 0) := by rw [hQ.out, if_neg (by simp)]
      subst hQ1
      have HE := Lib.hid (end_on m h T.S F K1 D' w1 W1.mm hon1.out)
      have hbl : Hid (∀ k, F k ∨ D' k ∨ G k → k < w1.heap.size) := Lib.hid fun k hk => hk.elim (W1.mm.hp.lt k) fun hk => hk.elim (W1.mm.dlt k) (W1.glt k)
      replace W1 := Lib.hid W1
      replace hF1 := Lib.hid hF1
      replace b1 := Lib.hid b1
      go_wp2_with fail
      refine HE.out.mono ?_
      rintro e w2 ⟨v, rfl, hown, M, st⟩
      have W2 := W1.out.marks M st
      have hF2 := sfree_marks hF1.out b1.out st
      have b2 := b1.out.step st fun k hk => hF1.out k (.inr (.inl hk))
      have htl := W1.out.mm.hp.tab.lt
      have hgs : s < w1.heap.size := by
        obtain ⟨vl, I⟩ := W1.out.si
        exact I.blk.lt
      obtain ⟨f3, H3⟩ := ls_left W2 hF2 b2 v (keepP K1.seen (sAll T.S)) (own_base hown (Nat.zero_le _)) (fun k hk => by
        have h1 := (hown.lt k hk).1
        exact ⟨fun hf => by have := hbl.out k (.inl hf); omega, fun hd => by have := hbl.out k (.inr (.inl hd)); omega, by omega, by omega, b1.out.new h1⟩)
      obtain ⟨f2, H4⟩ := H3.phase 2
      have d3 : ∃ u, w2.cell? ⟨s, 3, none⟩ = some u := by
        obtain ⟨vl, I⟩ := W2.si
        exact ⟨vl, I.blk.cell 3⟩
      obtain ⟨u3, d3⟩ := d3
      have d2 := H3.cells.2.2.1
      obtain ⟨Av, cv, rfl, -⟩ := own_form hown
      replace H4 := Lib.hid H4
      replace d2 : (w2.setCell ⟨s, 3, none⟩ (.slice Av (keepP K1.seen (sAll T.S)).length cv)).cell? ⟨s, 2, none⟩ = some (.int .i64 T.ph) := d2
      clear HE hown M st W2 hF2 b2 H3 W1 hF1 b1 H1 c11 hgs htl hbl
      go_wp2_with fail
      go_ret
      exact ⟨rfl, H4.out⟩
    · have hQ1 : Q = (⟨T.S, K1, T.ph, T.left, T.cyc⟩, er) := by rw [hQ.out, if_pos (.inr h0)]
      subst hQ1
      have h02 : (er == 0) = false := beq_eq_false_iff_ne.2 h0
      go_wp2_with fail
      go_ret
      exact ⟨rfl, H1.out⟩
theorem ls_leftcell {S : HS} {K : MK} {ph cyc : Int} {left : List Int} (H : LS w0 w s h m ⟨S, K, ph, left, cyc⟩) : ∃ vl, w.cell? ⟨s, 3, none⟩ = some vl ∧ Rd i64e w vl left ∧ w.frozen? ⟨s, 3, none⟩ = false ∧
    ∀ (v' : Value) (left' : List Int), Rd i64e w v' left' → (0 < left'.length → ∀ b, v'.ownBlock = some b → 0 < left.length ∧ vl.ownBlock = some b) → LS w0 (w.setCell ⟨s, 3, none⟩ v') s h m ⟨S, K, ph, left', cyc⟩ := by
  obtain ⟨F, D, G, W, hF, b⟩ := H
  obtain ⟨vl, I⟩ := W.si
  refine ⟨vl, I.blk.cell 3, I.lf.rd, I.blk.frozen 3, fun v' left' hv' hb' => ?_⟩
  have hz := setCell_size w ⟨s, 3, none⟩ v'
  have ho : ∀ k, k ≠ s → (w.setCell ⟨s, 3, none⟩ v').heap[k]? = w.heap[k]? := fun k hk => setCell_other w s 3 _ hk
  have hP : 0 < left'.length → ∀ k, v'.ownBlock = some k → G k ∧ k ≠ s := fun hp k e => I.lf.inP (hb' hp k e).1 k (hb' hp k e).2
  have I' : SIn (w.setCell ⟨s, 3, none⟩ v') s h m ph left' cyc G v' := ⟨I.blk.set_ 3 _, ⟨hv'.keep (by rw [hz]; exact Nat.le_refl _) fun hp k e _ => ho k (hP hp k e).2, hP⟩, I.gs, fun k hk => by rw [hz]; exact I.lt k hk⟩
  have st : Step G w (w.setCell ⟨s, 3, none⟩ v') G := ⟨⟨rfl, rfl, rfl, by rw [hz]; exact Nat.le_refl _, fun k hk hn => ho k fun e => hn (by rw [e]; exact I.gs)⟩, fun k hk => .inl hk⟩
  exact ⟨F, D, G, W.own I' st, sfree_own hF b st, b.step st fun k hk => hF k (.inr (.inr hk))⟩
theorem ls_free {S : HS} {K : MK} {ph cyc : Int} {left : List Int} (H : LS w0 w s h m ⟨S, K, ph, left, cyc⟩) (p junk : Int) (hp : -9223372036854775808 ≤ p ∧ p ≤ 9223372036854775807) (hx : -9223372036854775808 ≤ junk ∧ junk ≤ 9223372036854775807) :
    Calls Tryz.prog 81 #[.pointer (some ⟨h, 0, none⟩), .int .i64 p, .int .i64 junk] w fun e w' => e = .returned (.int .i64 (sFree S p junk).2) ∧ LS w0 w' s h m ⟨(sFree S p junk).1, K, ph, left, cyc⟩ := by
  obtain ⟨F, D, G, W, hF, b⟩ := H
  refine (free_s h S F w p junk W.mm.hp hp.1 hp.2 hx).mono ?_
  rintro e w' ⟨rfl, F', P, st⟩
  exact ⟨rfl, F', D, G, W.heap P st, sfree_heap hF b st, b.step st fun k hk => hF k (.inl hk)⟩
set_option maxHeartbeats 3200000 in
set_option maxRecDepth 100000 in
theorem ls_sweep (H : LS w0 w s h m T) (hc : 0 ≤ T.cyc ∧ T.cyc < 1000000) (hlb : ∀ x ∈ T.left, 0 ≤ x ∧ x ≤ 4096) (hll : T.left.length ≤ 4096) (junk : Int) (hx : -9223372036854775808 ≤ junk ∧ junk ≤ 9223372036854775807) :
    Calls Tryz.prog 47 #[.pointer (some ⟨s, 0, none⟩), .int .i64 junk] w fun e w' => e = .returned (.int .i64 (qSweep T junk).2) ∧ LS w0 w' s h m (qSweep T junk).1 := by
  obtain ⟨S, K, ph, left, cyc⟩ := T
  dsimp only at hc hlb hll
  obtain ⟨vl, c3, hrd, f3, hset⟩ := ls_leftcell H
  have c0 := H.cells.1
  have c2 := H.cells.2.2.1
  dsimp only at c2
  rcases left with _ | ⟨x, l⟩
  · rw [show qSweep ⟨S, K, ph, [], cyc⟩ junk = (⟨S, K, 0, [], cyc + 1⟩, 0) from rfl]
    dsimp only
    obtain ⟨A, c, rfl, -⟩ := hrd.len
    obtain ⟨f2, H2⟩ := H.phase 0
    have c4 := H2.cells.2.2.2.1
    obtain ⟨f4, H3⟩ := H2.cycle (cyc + 1)
    have hw : IntKind.i64.wrap (cyc + 1) = cyc + 1 := by rw [IntKind.wrap_i64]; omega
    replace H3 := Lib.hid H3
    have hz : ([] : List Int).length = 0 := rfl
    rw [hz] at c3
    dsimp only at c4
    clear H H2 hrd hset f3
    go_enter Tryz.func47, Tryz.ntmps47
    go_wp2_with fail
    go_ret
    exact ⟨rfl, H3.out⟩
  · rw [show qSweep ⟨S, K, ph, x :: l, cyc⟩ junk = (⟨(sFree S x junk).1, K, ph, l, cyc⟩, (sFree S x junk).2) from rfl]
    dsimp only
    have hxb := hlb x (by simp)
    obtain ⟨A, cg, rfl, hcg, -⟩ := hrd.len
    have hgl : (x :: l).length = l.length + 1 := rfl
    obtain ⟨bg, og, rfl, hbl, hcx⟩ := hrd.at_ (i := 0) (by rw [hgl]; omega)
    replace hcx : w.cell? ⟨bg, og, none⟩ = some (.int .i64 x) := hcx
    rw [hgl] at c3 hcg hrd
    have hll2 : l.length ≤ 4096 := by rw [hgl] at hll; omega
    have z1 : ((l.length : Int) + 1 == 0) = false := by rw [beq_eq_false_iff_ne]; omega
    have z2 : (1 : Int) ≤ (l.length : Int) + 1 := by omega
    have z3 : (l.length : Int) + 1 ≤ (cg : Int) := by omega
    obtain ⟨S1, er, hr⟩ : ∃ S1 er, sFree S x junk = (S1, er) := ⟨_, _, rfl⟩
    by_cases hc1 : cg = 1
    · subst hc1
      have hl0 : l = [] := by
        cases l with
        | nil => rfl
        | cons y l => simp at hcg
      subst hl0
      have H2 := hset (.slice (some ⟨bg, og, none⟩) 0 0) [] ⟨_, _, rfl, ⟨Nat.le_refl _, Nat.zero_le _, fun e => by cases e⟩, fun hp => absurd hp (by simp)⟩ (fun hp => absurd hp (by simp))
      have c00 := H2.cells.1
      have HF := ls_free H2 x junk (by omega) hx
      rw [hr] at HF ⊢
      dsimp only at HF ⊢
      have hz : ([] : List Int).length = 0 := rfl
      rw [hz] at c3 z1 z2 z3
      replace HF := Lib.hid HF
      replace hr := Lib.hid hr
      clear H H2 hrd hset
      go_enter Tryz.func47, Tryz.ntmps47
      go_wp2_with fail
      refine HF.out.mono ?_
      rintro e w2 ⟨rfl, H3⟩
      replace H3 := Lib.hid H3
      go_wp2_with fail
      go_ret
      exact ⟨rfl, H3.out⟩
    · have H2 := hset (.slice (some ⟨bg, og + 1, none⟩) l.length (cg - 1)) l (by
        obtain ⟨A', c', he, h1, h3⟩ := hrd
        injection he with e1 e2 e3
        subst e1 e3
        refine ⟨_, _, rfl, ⟨by omega, by omega, fun e => by cases e⟩, fun hp => ?_⟩
        obtain ⟨b', o', e, hlt, hc'⟩ := h3 (by rw [hgl]; omega)
        cases e
        refine ⟨_, _, rfl, hlt, fun i hi => ?_⟩
        have := hc' (i + 1) (by rw [hgl]; omega)
        rw [show og + 1 + i = og + (i + 1) by omega, this]
        rfl) (fun hp b e => ⟨by simp, e⟩)
      have c00 := H2.cells.1
      have HF := ls_free H2 x junk (by omega) hx
      rw [hr] at HF ⊢
      dsimp only at HF ⊢
      replace HF := Lib.hid HF
      replace hr := Lib.hid hr
      clear H H2 hrd hset
      go_enter Tryz.func47, Tryz.ntmps47
      go_wp2_with fail
      refine HF.out.mono ?_
      rintro e w2 ⟨rfl, H3⟩
      replace H3 := Lib.hid H3
      go_wp2_with fail
      go_ret
      exact ⟨rfl, H3.out⟩
/-- What holds of a store between two calls. -/
structure SOk (T : SS) : Prop where
  ph : T.ph = 0 ∨ (T.ph = 1 ∧ T.K.on = true) ∨ T.ph = 2
  cyc : 0 ≤ T.cyc ∧ T.cyc < 1000000
  lb : ∀ x ∈ T.left, 0 ≤ x ∧ x ≤ 4096
  ll : T.left.length ≤ 4096
theorem ls_step (H : LS w0 w s h m T) (ok : SOk T) (junk : Int) (hx : -9223372036854775808 ≤ junk ∧ junk ≤ 9223372036854775807) :
    Calls Tryz.prog 24 #[.pointer (some ⟨s, 0, none⟩), .int .i64 junk] w fun e w' => e = .returned (.tuple #[.int .i64 (if (qStep T junk).2 = 0 then (qStep T junk).1.ph else 0), .int .i64 (qStep T junk).2]) ∧ LS w0 w' s h m (qStep T junk).1 := by
  have c2 := H.cells.2.2.1
  have HG := Lib.hid (ls_good H)
  have fin : ∀ (Q : SS × Int) (f : FuncId) (args : Array Value), Calls Tryz.prog f args w (fun e w' => e = .returned (.int .i64 Q.2) ∧ LS w0 w' s h m Q.1) → True := fun _ _ _ _ => trivial
  clear fin
  rcases ok.ph with hp | ⟨hp, hon⟩ | hp
  · have hq : qStep T junk = (T, 0) := by unfold qStep; rw [if_neg (by omega), if_neg (by omega)]
    rw [hq, if_pos rfl]
    dsimp only
    rw [hp] at c2 ⊢
    replace H := Lib.hid H
    go_enter Tryz.func24, Tryz.ntmps24
    go_wp2_with fail
    refine HG.out.mono ?_
    rintro e _ ⟨rfl, rfl⟩
    go_wp2_with fail
    go_ret2
    exact ⟨rfl, H.out⟩
  · have hq : qStep T junk = qMark T := by unfold qStep; rw [if_pos hp]
    rw [hq]
    have HM := ls_mark H hon
    rw [hp] at c2
    obtain ⟨T1, er, hr⟩ : ∃ T1 er, qMark T = (T1, er) := ⟨_, _, rfl⟩
    rw [hr] at HM ⊢
    dsimp only at HM ⊢
    replace HM := Lib.hid HM
    replace hr := Lib.hid hr
    clear H hq
    by_cases h0 : er = 0
    · subst h0
      rw [if_pos rfl]
      go_enter Tryz.func24, Tryz.ntmps24
      go_wp2_with fail
      refine HG.out.mono ?_
      rintro e _ ⟨rfl, rfl⟩
      go_wp2_with fail
      refine HM.out.mono ?_
      rintro e w1 ⟨rfl, H1⟩
      have c21 := H1.cells.2.2.1
      replace H1 := Lib.hid H1
      clear HM c2
      go_wp2_with fail
      go_ret2
      exact ⟨rfl, H1.out⟩
    · rw [if_neg h0]
      have h02 : (er == 0) = false := beq_eq_false_iff_ne.2 h0
      go_enter Tryz.func24, Tryz.ntmps24
      go_wp2_with fail
      refine HG.out.mono ?_
      rintro e _ ⟨rfl, rfl⟩
      go_wp2_with fail
      refine HM.out.mono ?_
      rintro e w1 ⟨rfl, H1⟩
      replace H1 := Lib.hid H1
      clear HM c2
      go_wp2_with fail
      go_ret2
      exact ⟨rfl, H1.out⟩
  · have hq : qStep T junk = qSweep T junk := by unfold qStep; rw [if_neg (by omega), if_pos hp]
    rw [hq]
    have HM := ls_sweep H ok.cyc ok.lb ok.ll junk hx
    rw [hp] at c2
    obtain ⟨T1, er, hr⟩ : ∃ T1 er, qSweep T junk = (T1, er) := ⟨_, _, rfl⟩
    rw [hr] at HM ⊢
    dsimp only at HM ⊢
    replace HM := Lib.hid HM
    replace hr := Lib.hid hr
    clear H hq
    by_cases h0 : er = 0
    · subst h0
      rw [if_pos rfl]
      go_enter Tryz.func24, Tryz.ntmps24
      go_wp2_with fail
      refine HG.out.mono ?_
      rintro e _ ⟨rfl, rfl⟩
      go_wp2_with fail
      refine HM.out.mono ?_
      rintro e w1 ⟨rfl, H1⟩
      have c21 := H1.cells.2.2.1
      replace H1 := Lib.hid H1
      clear HM c2
      go_wp2_with fail
      go_ret2
      exact ⟨rfl, H1.out⟩
    · rw [if_neg h0]
      have h02 : (er == 0) = false := beq_eq_false_iff_ne.2 h0
      go_enter Tryz.func24, Tryz.ntmps24
      go_wp2_with fail
      refine HG.out.mono ?_
      rintro e _ ⟨rfl, rfl⟩
      go_wp2_with fail
      refine HM.out.mono ?_
      rintro e w1 ⟨rfl, H1⟩
      replace H1 := Lib.hid H1
      clear HM c2
      go_wp2_with fail
      go_ret2
      exact ⟨rfl, H1.out⟩
end
end Go.Proofs.YtcaboknbdamlhaaGreatDoor
