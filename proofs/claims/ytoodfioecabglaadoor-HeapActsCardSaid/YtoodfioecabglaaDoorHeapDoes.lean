/- A call on a heap alone: the walk of does. -/
import Derived.Test.YtoodfioecabglaaDoorHeapAlive
set_option linter.unusedVariables false
set_option linter.unusedSimpArgs false
namespace Go.Proofs.YtoodfioecabglaaDoor
open Go.RowKit Go.Shelf

/-- A slice whose elements have k cells each reads as a list. -/
def RdC {α : Type} (k : Nat) (enc : α → List Value) (w : World) (v : Value) (xs : List α) : Prop :=
  ∃ A c, v = .slice A xs.length c ∧ (xs.length ≤ c ∧ c ≤ maxLen ∧ (A = none → c = 0)) ∧
    (0 < xs.length → ∃ b o, A = some ⟨b, o, none⟩ ∧ b < w.heap.size ∧ ∀ i (h : i < xs.length) j u, (enc xs[i])[j]? = some u → w.cell? ⟨b, o + i * k + j, none⟩ = some u)
section
variable {α : Type} {k : Nat} {enc : α → List Value} {w w' : World} {v : Value} {xs : List α}
theorem RdC.keep (h : RdC k enc w v xs) (hs : w.heap.size ≤ w'.heap.size) (hb : ∀ b, v.ownBlock = some b → b < w.heap.size → w'.heap[b]? = w.heap[b]?) : RdC k enc w' v xs := by
  obtain ⟨A, c, rfl, h1, h3⟩ := h
  refine ⟨A, c, rfl, h1, fun hp => ?_⟩
  obtain ⟨b, o, rfl, hlt, hc⟩ := h3 hp
  refine ⟨b, o, rfl, by omega, fun i hi j u hu => ?_⟩
  rw [← hc i hi j u hu]
  exact World.cell?_of_block (hb b rfl hlt)
theorem RdC.below (h : RdC k enc w v xs) (hb : Below w.heap.size w w') : RdC k enc w' v xs := h.keep hb.size fun b _ hlt => hb.block b hlt
theorem RdC.len (h : RdC k enc w v xs) : ∃ A c, v = .slice A xs.length c ∧ xs.length ≤ c ∧ c ≤ maxLen ∧ (A = none → c = 0) := by
  obtain ⟨A, c, h0, h1, _⟩ := h
  exact ⟨A, c, h0, h1⟩
theorem RdC.at_ {A : Option Addr} {n c : Nat} (h : RdC k enc w (.slice A n c) xs) {i : Nat} (hi : i < xs.length) : ∃ b o, A = some ⟨b, o, none⟩ ∧ b < w.heap.size ∧ ∀ j u, (enc xs[i])[j]? = some u → w.cell? ⟨b, o + i * k + j, none⟩ = some u := by
  obtain ⟨A', c', he, _, h3⟩ := h
  injection he with e1 e2 e3
  subst e1
  obtain ⟨b, o, rfl, hlt, hc⟩ := h3 (by omega)
  exact ⟨b, o, rfl, hlt, fun j u => hc i hi j u⟩
end
structure HAct where
  kind : Int
  n : Int
  mask : Int
  obj : Bool
  p : Int
  f : Int
  x : Int
def hactC (a : HAct) : List Value := [.int .u8 a.kind, .int .i64 a.n, .int .u8 a.mask, .bool a.obj, .int .i64 a.p, .int .i64 a.f, .int .i64 a.x]
structure HActOk (a : HAct) : Prop where
  kind : 0 ≤ a.kind ∧ a.kind ≤ 255
  n : -9223372036854775808 ≤ a.n ∧ a.n ≤ 9223372036854775807
  mask : 0 ≤ a.mask ∧ a.mask ≤ 255
  p : -9223372036854775808 ≤ a.p ∧ a.p ≤ 9223372036854775807
  f : -9223372036854775808 ≤ a.f ∧ a.f ≤ 9223372036854775807
  x : -9223372036854775808 ≤ a.x ∧ a.x ≤ 9223372036854775807
def sSpot (S : HS) (a : HAct) : Int := if a.obj = true ∧ 0 < S.objs.length then (sAll S).getD ((if a.p < 0 then 0 else a.p.toNat) % S.objs.length) 0 else a.p
def sDoes (S : HS) (a : HAct) : HS :=
  if a.kind % 8 = 3 then (sFree S (sSpot S a) a.x).1 else if a.kind % 8 = 4 then sClear S (sSpot S a) else if a.kind % 8 = 5 then S
  else if a.kind % 8 = 6 then sStore S (sSpot S a) a.f a.x else if a.kind % 8 = 7 then sStore S (sSpot S a) a.f a.x else (sAlloc S a.n a.mask a.x).1
theorem does_inv {S : HS} (I : Inv S) {a : HAct} (ha : HActOk a) : Inv (sDoes S a) := by
  unfold sDoes
  split
  · exact free_inv I _ ha.x
  split
  · exact clear_inv I _
  split
  · exact I
  split
  · exact store_inv I _ _ ha.x
  split
  · exact store_inv I _ _ ha.x
  · exact alloc_inv I ha.mask.1 ha.mask.2 ha.x
theorem all_bd {S : HS} (I : Inv0 S) {i : Nat} (hi : i < S.objs.length) : 1 ≤ (sAll S).getD i 0 ∧ (sAll S).getD i 0 ≤ 4096 := by
  have hl : i < (sAll S).length := by simpa [sAll] using hi
  rw [show (sAll S).getD i 0 = (sAll S)[i] by simp [List.getD, List.getElem?_eq_getElem hl]]
  obtain ⟨o, ho, e⟩ := List.mem_map.1 (List.getElem_mem hl)
  obtain ⟨_, _, _, _, h1, h2, _⟩ := I.ob o ho
  have := I.n2
  show 1 ≤ (sAll S)[i] ∧ (sAll S)[i] ≤ 4096
  have e' : (sAll S)[i] = o.1 := e.symm
  omega
theorem spot_bd {S : HS} (I : Inv0 S) {a : HAct} (ha : HActOk a) : -9223372036854775808 ≤ sSpot S a ∧ sSpot S a ≤ 9223372036854775807 := by
  unfold sSpot
  split
  · next h =>
    have := all_bd I (Nat.mod_lt (if a.p < 0 then 0 else a.p.toNat) h.2)
    omega
  · exact ha.p
/-- What does comes to, whichever word it is. -/
def Did (h : Nat) (S : HS) (F : Nat → Prop) (w : World) (e : Ending) (w' : World) : Prop := e = .returned (.tuple #[]) ∧ ∃ F', HpAt w' h S F' ∧ Step F w w' F'
set_option maxHeartbeats 8000000 in
set_option maxRecDepth 100000 in
theorem does_ok (h : Nat) (S : HS) (F : Nat → Prop) (kind n mask : Int) (obj : Bool) (p f x : Int) (w : World) (H : HpAt w h S F) (ha : HActOk ⟨kind, n, mask, obj, p, f, x⟩) :
    Calls Tryd.prog 25 #[.pointer (some ⟨h, 0, none⟩), .agg #[.int .u8 kind, .int .i64 n, .int .u8 mask, .bool obj, .int .i64 p, .int .i64 f, .int .i64 x]] w (Did h (sDoes S ⟨kind, n, mask, obj, p, f, x⟩) F w) := by
  obtain ⟨k0, k1⟩ := ha.kind
  have hn := Lib.hid ha.n
  have hm := Lib.hid ha.mask
  have hp := Lib.hid ha.p
  have hx := Lib.hid ha.x
  have hsb := Lib.hid (spot_bd H.inv.toInv0 ha)
  have hol : S.objs.length ≤ 4096 := H.inv.objs_len
  have hB0 : Hid (∀ o, HpAt (w.alloc o) h S F ∧ Step F w (w.alloc o) F) := Lib.hid fun o => ⟨H.below (below_alloc w o), Step.of_below (below_alloc w o)⟩
  have hab : Hid (∀ i, i < S.objs.length → 1 ≤ (sAll S).getD i 0 ∧ (sAll S).getD i 0 ≤ 4096) := Lib.hid fun i hi => all_bd H.inv.toInv0 hi
  have hk : kind % 8 = 0 ∨ kind % 8 = 1 ∨ kind % 8 = 2 ∨ kind % 8 = 3 ∨ kind % 8 = 4 ∨ kind % 8 = 5 ∨ kind % 8 = 6 ∨ kind % 8 = 7 := by omega
  have hways : obj = false ∨ (obj = true ∧ S.objs.length = 0) ∨ (obj = true ∧ 0 < S.objs.length ∧ p < 0) ∨ (obj = true ∧ 0 < S.objs.length ∧ 0 ≤ p) := by
    cases obj with
    | false => exact .inl rfl
    | true =>
      by_cases hz : S.objs.length = 0
      · exact .inr (.inl ⟨rfl, hz⟩)
      · by_cases hn : p < 0
        · exact .inr (.inr (.inl ⟨rfl, by omega, hn⟩))
        · exact .inr (.inr (.inr ⟨rfl, by omega, by omega⟩))
  replace H := Lib.hid H
  clear ha
  obtain ⟨sp, hsp⟩ : ∃ sp, sp = sSpot S ⟨kind, n, mask, obj, p, f, x⟩ := ⟨_, rfl⟩
  have hD : sDoes S ⟨kind, n, mask, obj, p, f, x⟩ = if kind % 8 = 3 then (sFree S sp x).1 else if kind % 8 = 4 then sClear S sp else if kind % 8 = 5 then S else if kind % 8 = 6 then sStore S sp f x else if kind % 8 = 7 then sStore S sp f x else (sAlloc S n mask x).1 := by rw [hsp]; rfl
  rw [← hsp] at hsb
  unfold sSpot at hsp
  dsimp only at hsp
  rw [hD]
  clear hD
  obtain ⟨L, hL⟩ : ∃ L, L = S.objs.length := ⟨_, rfl⟩
  have hLA : (sAll S).length = L := by rw [hL]; simp [sAll]
  rw [← hL] at hways hol hsp hab
  replace hL := Lib.hid hL
  have hAll : Hid (∀ wx, HpAt wx h S F → Calls Tryd.prog 26 #[.pointer (some ⟨h, 0, none⟩)] wx fun e w' => ∃ A c, e = .returned (.slice A L c) ∧ Rd i64e w' (.slice A L c) (sAll S) ∧ Below wx.heap.size wx w') := Lib.hid fun wx Hx => (all_r rfl Hx).mono fun e w' ⟨A, c, h1, h2, _, h3⟩ => by rw [hLA] at h1 h2; exact ⟨A, c, h1, h2, h3⟩
  replace hLA := Lib.hid hLA
  rcases hways with rfl | ⟨rfl, hz⟩ | ⟨rfl, hpos, hneg⟩ | ⟨rfl, hpos, hge⟩
  · rw [if_neg (by simp)] at hsp
    subst hsp
    replace hab := Lib.hid hab
    rcases hk with hk | hk | hk | hk | hk | hk | hk | hk
    all_goals
      rw [hk]
      simp only [Int.reduceEq, if_true, if_false]
      go_enter Tryd.func25, Tryd.ntmps25
      go_wp2_with fail
      refine (hAll.out _ (hB0.out _).1).mono ?_
      rintro e w1 ⟨A, c, rfl, hr, b1⟩
      have H1 := Lib.hid ((hB0.out _).1.below b1)
      have s1 := Lib.hid ((hB0.out _).2.trans (Step.of_below b1))
      have B1 : Blk w1 w.heap.size 34 #[.int .u8 kind, .int .i64 n, .int .u8 mask, .bool false, .int .i64 sp, .int .i64 f, .int .i64 x] := (Blk.new w _ _).below b1 (by simp)
      have a0 := B1.cell 0
      have a1 := B1.cell 1
      have a2 := B1.cell 2
      have a3 := B1.cell 3
      have a4 := B1.cell 4
      have a5 := B1.cell 5
      have a6 := B1.cell 6
      clear B1 b1
      clear hr
      go_wp2_with (first
        | (go_at_call 15; refine (free_s h S F w1 _ x H1.out hsb.out.1 hsb.out.2 hx.out).mono ?_; rintro e w2 ⟨rfl, F2, H2, s2⟩)
        | (go_at_call 17; refine (clear_s h S F w1 _ H1.out hsb.out.1 hsb.out.2).mono ?_; rintro e w2 ⟨rfl, H2, s2⟩)
        | (go_at_call 18; refine (load_s h S F w1 _ f H1.out hsb.out.1 hsb.out.2).mono ?_; rintro e w2 ⟨rfl, b2⟩; have H2 := H1.out.below b2; have s2 : Step F w1 w2 F := Step.of_below b2)
        | (go_at_call 21; refine (store_s h S F w1 _ f x H1.out hsb.out.1 hsb.out.2 hx.out).mono ?_; rintro e w2 ⟨rfl, H2, s2⟩)
        | (go_at_call 23; refine (alloc_s h S F w1 n mask x H1.out hm.out.1 hm.out.2 hx.out).mono ?_; rintro e w2 ⟨rfl, F2, H2, s2⟩))
      go_end0
      exact ⟨rfl, _, H2, s1.out.trans s2⟩
  · rw [if_neg (by omega)] at hsp
    subst hsp
    subst hz
    replace hab := Lib.hid hab
    rcases hk with hk | hk | hk | hk | hk | hk | hk | hk
    all_goals
      rw [hk]
      simp only [Int.reduceEq, if_true, if_false]
      go_enter Tryd.func25, Tryd.ntmps25
      go_wp2_with fail
      refine (hAll.out _ (hB0.out _).1).mono ?_
      rintro e w1 ⟨A, c, rfl, hr, b1⟩
      have H1 := Lib.hid ((hB0.out _).1.below b1)
      have s1 := Lib.hid ((hB0.out _).2.trans (Step.of_below b1))
      have B1 : Blk w1 w.heap.size 34 #[.int .u8 kind, .int .i64 n, .int .u8 mask, .bool true, .int .i64 sp, .int .i64 f, .int .i64 x] := (Blk.new w _ _).below b1 (by simp)
      have a0 := B1.cell 0
      have a1 := B1.cell 1
      have a2 := B1.cell 2
      have a3 := B1.cell 3
      have a4 := B1.cell 4
      have a5 := B1.cell 5
      have a6 := B1.cell 6
      clear B1 b1
      clear hr
      go_wp2_with (first
        | (go_at_call 15; refine (free_s h S F w1 _ x H1.out hsb.out.1 hsb.out.2 hx.out).mono ?_; rintro e w2 ⟨rfl, F2, H2, s2⟩)
        | (go_at_call 17; refine (clear_s h S F w1 _ H1.out hsb.out.1 hsb.out.2).mono ?_; rintro e w2 ⟨rfl, H2, s2⟩)
        | (go_at_call 18; refine (load_s h S F w1 _ f H1.out hsb.out.1 hsb.out.2).mono ?_; rintro e w2 ⟨rfl, b2⟩; have H2 := H1.out.below b2; have s2 : Step F w1 w2 F := Step.of_below b2)
        | (go_at_call 21; refine (store_s h S F w1 _ f x H1.out hsb.out.1 hsb.out.2 hx.out).mono ?_; rintro e w2 ⟨rfl, H2, s2⟩)
        | (go_at_call 23; refine (alloc_s h S F w1 n mask x H1.out hm.out.1 hm.out.2 hx.out).mono ?_; rintro e w2 ⟨rfl, F2, H2, s2⟩))
      go_end0
      exact ⟨rfl, _, H2, s1.out.trans s2⟩
  · rw [if_pos ⟨rfl, hpos⟩, if_pos hneg, Nat.zero_mod] at hsp
    have hsb2 := hab.out 0 hpos
    rw [← hsp] at hsb2
    have hq : (sAll S)[0]'(by rw [hLA.out]; exact hpos) = sp := by rw [hsp]; simp [List.getD, hLA.out, hpos]
    obtain ⟨q, rfl⟩ : ∃ q, q = sp := ⟨_, rfl⟩
    have hlp : (0 : Int) < (L : Int) := by omega
    replace hq := Lib.hid hq
    replace hsp := Lib.hid hsp
    clear hsb2
    rcases hk with hk | hk | hk | hk | hk | hk | hk | hk
    all_goals
      rw [hk]
      simp only [Int.reduceEq, if_true, if_false]
      go_enter Tryd.func25, Tryd.ntmps25
      go_wp2_with fail
      refine (hAll.out _ (hB0.out _).1).mono ?_
      rintro e w1 ⟨A, c, rfl, hr, b1⟩
      have H1 := Lib.hid ((hB0.out _).1.below b1)
      have s1 := Lib.hid ((hB0.out _).2.trans (Step.of_below b1))
      have B1 : Blk w1 w.heap.size 34 #[.int .u8 kind, .int .i64 n, .int .u8 mask, .bool true, .int .i64 p, .int .i64 f, .int .i64 x] := (Blk.new w _ _).below b1 (by simp)
      have a0 := B1.cell 0
      have a1 := B1.cell 1
      have a2 := B1.cell 2
      have a3 := B1.cell 3
      have a4 := B1.cell 4
      have a5 := B1.cell 5
      have a6 := B1.cell 6
      clear B1 b1
      obtain ⟨bo, oo, rfl, _, hc⟩ := hr.at_ (i := 0) (by rw [hLA.out]; exact hpos)
      rw [hq.out] at hc
      replace hc : w1.cell? ⟨bo, oo, none⟩ = some (.int .i64 q) := hc
      clear hr
      go_wp2_with (first
        | (go_at_call 15; refine (free_s h S F w1 _ x H1.out hsb.out.1 hsb.out.2 hx.out).mono ?_; rintro e w2 ⟨rfl, F2, H2, s2⟩)
        | (go_at_call 17; refine (clear_s h S F w1 _ H1.out hsb.out.1 hsb.out.2).mono ?_; rintro e w2 ⟨rfl, H2, s2⟩)
        | (go_at_call 18; refine (load_s h S F w1 _ f H1.out hsb.out.1 hsb.out.2).mono ?_; rintro e w2 ⟨rfl, b2⟩; have H2 := H1.out.below b2; have s2 : Step F w1 w2 F := Step.of_below b2)
        | (go_at_call 21; refine (store_s h S F w1 _ f x H1.out hsb.out.1 hsb.out.2 hx.out).mono ?_; rintro e w2 ⟨rfl, H2, s2⟩)
        | (go_at_call 23; refine (alloc_s h S F w1 n mask x H1.out hm.out.1 hm.out.2 hx.out).mono ?_; rintro e w2 ⟨rfl, F2, H2, s2⟩))
      go_end0
      exact ⟨rfl, _, H2, s1.out.trans s2⟩
  · have hrL : p.toNat % L < L := Nat.mod_lt _ hpos
    rw [if_pos ⟨rfl, hpos⟩, if_neg (by omega)] at hsp
    obtain ⟨r, hr0⟩ : ∃ r, r = p.toNat % L := ⟨_, rfl⟩
    rw [← hr0] at hrL hsp
    have e0 : p % (L : Int) = (r : Int) := by
      rw [hr0, Int.natCast_emod, Int.toNat_of_nonneg hge]
    have hq : (sAll S)[r]'(by rw [hLA.out]; exact hrL) = sp := by rw [hsp]; simp [List.getD, hLA.out, hrL]
    obtain ⟨q, rfl⟩ : ∃ q, q = sp := ⟨_, rfl⟩
    have hlp : (0 : Int) < (L : Int) := by omega
    have rL : (r : Int) < (L : Int) := by omega
    replace hq := Lib.hid hq
    replace hsp := Lib.hid hsp
    clear hr0
    rcases hk with hk | hk | hk | hk | hk | hk | hk | hk
    all_goals
      rw [hk]
      simp only [Int.reduceEq, if_true, if_false]
      go_enter Tryd.func25, Tryd.ntmps25
      go_wp2_with fail
      refine (hAll.out _ (hB0.out _).1).mono ?_
      rintro e w1 ⟨A, c, rfl, hr, b1⟩
      have H1 := Lib.hid ((hB0.out _).1.below b1)
      have s1 := Lib.hid ((hB0.out _).2.trans (Step.of_below b1))
      have B1 : Blk w1 w.heap.size 34 #[.int .u8 kind, .int .i64 n, .int .u8 mask, .bool true, .int .i64 p, .int .i64 f, .int .i64 x] := (Blk.new w _ _).below b1 (by simp)
      have a0 := B1.cell 0
      have a1 := B1.cell 1
      have a2 := B1.cell 2
      have a3 := B1.cell 3
      have a4 := B1.cell 4
      have a5 := B1.cell 5
      have a6 := B1.cell 6
      clear B1 b1
      obtain ⟨bo, oo, rfl, _, hc⟩ := hr.at_ (i := r) (by rw [hLA.out]; exact hrL)
      rw [hq.out] at hc
      replace hc : w1.cell? ⟨bo, oo + r, none⟩ = some (.int .i64 q) := hc
      clear hr
      go_wp2_with (first
        | (go_at_call 15; refine (free_s h S F w1 _ x H1.out hsb.out.1 hsb.out.2 hx.out).mono ?_; rintro e w2 ⟨rfl, F2, H2, s2⟩)
        | (go_at_call 17; refine (clear_s h S F w1 _ H1.out hsb.out.1 hsb.out.2).mono ?_; rintro e w2 ⟨rfl, H2, s2⟩)
        | (go_at_call 18; refine (load_s h S F w1 _ f H1.out hsb.out.1 hsb.out.2).mono ?_; rintro e w2 ⟨rfl, b2⟩; have H2 := H1.out.below b2; have s2 : Step F w1 w2 F := Step.of_below b2)
        | (go_at_call 21; refine (store_s h S F w1 _ f x H1.out hsb.out.1 hsb.out.2 hx.out).mono ?_; rintro e w2 ⟨rfl, H2, s2⟩)
        | (go_at_call 23; refine (alloc_s h S F w1 n mask x H1.out hm.out.1 hm.out.2 hx.out).mono ?_; rintro e w2 ⟨rfl, F2, H2, s2⟩))
      go_end0
      exact ⟨rfl, _, H2, s1.out.trans s2⟩
end Go.Proofs.YtoodfioecabglaaDoor
