/- The heap's methods, as the document has them: a heap of the program that is a heap of the document. -/
import Derived.Test.YtcaboknbdamlhaaGreatDoorHeapSpec2
set_option linter.unusedVariables false
set_option linter.unusedSimpArgs false
namespace Go.Proofs.YtcaboknbdamlhaaGreatDoor
open Go.RowKit Go.Shelf

theorem there_le (M : HM) (p f : Int) : mThere M p f = 0 ∨ mThere M p f = 11 := by
  unfold mThere
  split
  · exact .inr rfl
  · exact .inl rfl
set_option maxHeartbeats 800000 in
theorem free_none (h : Nat) (M : HM) (F : Nat → Prop) (p junk : Int) (w : World) (H : HAt w h M F) (hok : MOk M) (hp : p ≤ 9223372036854775807) (hp0 : -9223372036854775808 ≤ p) (h0 : mThere M p 0 = 11) :
    Calls Tryz.prog 81 #[.pointer (some ⟨h, 0, none⟩), .int .i64 p, .int .i64 junk] w fun e w' => e = .returned (.int .i64 11) ∧ Below w.heap.size w w' := by
  have HT := there_ok h M F p 0 w H hok hp hp0
  rw [h0] at HT
  replace HT := Lib.hid HT
  clear H hok h0
  go_enter Tryz.func81, Tryz.ntmps81
  go_wp2_with fail
  refine HT.out.mono ?_
  rintro e w1 ⟨rfl, hb⟩
  go_wp2_with fail
  go_ret
  exact ⟨rfl, hb⟩

/-- A heap of the program that is the document's S; F: its blocks. -/
structure HpAt (w : World) (h : Nat) (S : HS) (F : Nat → Prop) : Prop where
  inv : Inv S
  mem : ∃ zs sh, Cpl zs sh S.objs ∧ HAt w h (toM S zs sh) F
  tab : TabW w
  off : ¬ F 0
section
variable {w w' : World} {h : Nat} {S : HS} {F F' D D' : Nat → Prop}
theorem HpAt.below (H : HpAt w h S F) (hb : Below w.heap.size w w') : HpAt w' h S F := by
  obtain ⟨zs, sh, C, H1⟩ := H.mem
  exact ⟨H.inv, ⟨zs, sh, C, H1.below hb⟩, H.tab.below hb, H.off⟩
theorem HpAt.lt (H : HpAt w h S F) : ∀ k, F k → k < w.heap.size := by
  obtain ⟨zs, sh, C, H1⟩ := H.mem
  exact H1.lt
theorem HpAt.self (H : HpAt w h S F) : F h := by
  obtain ⟨zs, sh, C, bw, bc, bs, cc, f, vu, H1⟩ := H.mem
  exact H1.inF.1
/-- A step elsewhere. -/
theorem HpAt.step (H : HpAt w h S F) (hs : Step D w w' D') (hd : ∀ k, F k → ¬ D k) (ht : ¬ D 0) : HpAt w' h S F := by
  obtain ⟨zs, sh, C, H1⟩ := H.mem
  exact ⟨H.inv, ⟨zs, sh, C, H1.step hs hd⟩, H.tab.of_block (hs.frame.block _ H.tab.lt ht), H.off⟩
theorem HpAt.keep (H : HpAt w h S F) (hs : w.heap.size ≤ w'.heap.size) (hk : ∀ k, k < w.heap.size → (F k ∨ k = 0) → w'.heap[k]? = w.heap[k]?) : HpAt w' h S F := by
  obtain ⟨zs, sh, C, bw, bc, bs, cc, f, vu, H1⟩ := H.mem
  exact ⟨H.inv, ⟨zs, sh, C, bw, bc, bs, cc, f, vu, H1.keep hs fun k hF => hk k (H1.lt k hF) (.inl hF)⟩, H.tab.of_block (hk _ H.tab.lt (.inr rfl)), H.off⟩
theorem HpAt.of (I : Inv S) {S0 : HS} (H0 : HpAt w h S0 F) (hs : Step F w w' F') {zs : List Int} {sh : List (Int × Int)} (C : Cpl zs sh S.objs) (H : HAt w' h (toM S zs sh) F') : HpAt w' h S F' :=
  ⟨I, ⟨zs, sh, C, H⟩, H0.tab.of_block (hs.frame.block _ H0.tab.lt H0.off), fun hF => (hs.sub _ hF).elim H0.off fun h => absurd H0.tab.lt (by omega)⟩
theorem sh_len {zs : List Int} {sh : List (Int × Int)} (H : HAt w h (toM S zs sh) F) : sh.length = 8 * S.n + 1 := by
  obtain ⟨bw, bc, bs, cc, f, vu, H1⟩ := H
  exact H1.slen
end
section
variable (h : Nat) (S : HS) (F : Nat → Prop) (w : World)
theorem good_s (H : HpAt w h S F) : Calls Tryz.prog 39 #[.pointer (some ⟨h, 0, none⟩)] w fun e w' => e = .returned (.bool true) ∧ w = w' := by
  obtain ⟨zs, sh, C, H1⟩ := H.mem
  exact good_ok h _ F w H1
theorem size_s (p : Int) (H : HpAt w h S F) (hp0 : -9223372036854775808 ≤ p) (hp : p ≤ 9223372036854775807) :
    Calls Tryz.prog 25 #[.pointer (some ⟨h, 0, none⟩), .int .i64 p] w fun e w' => e = .returned (.tuple #[.int .i64 (sSize S p).1, .int .u8 (sSize S p).2.1, .bool (sSize S p).2.2]) ∧ Below w.heap.size w w' := by
  obtain ⟨zs, sh, C, H1⟩ := H.mem
  rw [← cpl_size H.inv.toInv0 C]
  exact size_ok h _ F p w H1 (cpl_ok H.inv.toInv0 C) hp hp0
theorem load_s (p f : Int) (H : HpAt w h S F) (hp0 : -9223372036854775808 ≤ p) (hp : p ≤ 9223372036854775807) :
    Calls Tryz.prog 28 #[.pointer (some ⟨h, 0, none⟩), .int .i64 p, .int .i64 f] w fun e w' => e = .returned (.tuple #[.int .i64 (sLoad S p f).1, .int .i64 (sLoad S p f).2]) ∧ Below w.heap.size w w' := by
  obtain ⟨zs, sh, C, H1⟩ := H.mem
  rw [← cpl_load H.inv.toInv0 C]
  exact load_ok h _ F p f w H1 (cpl_ok H.inv.toInv0 C) hp hp0
theorem store_s (p f x : Int) (H : HpAt w h S F) (hp0 : -9223372036854775808 ≤ p) (hp : p ≤ 9223372036854775807) (hx : -9223372036854775808 ≤ x ∧ x ≤ 9223372036854775807) :
    Calls Tryz.prog 45 #[.pointer (some ⟨h, 0, none⟩), .int .i64 p, .int .i64 f, .int .i64 x] w fun e w' => e = .returned (.int .i64 (sThere S p f)) ∧ HpAt w' h (sStore S p f x) F ∧ Step F w w' F := by
  obtain ⟨zs, sh, C, H1⟩ := H.mem
  refine (store_ok h _ F p f x w H1 (cpl_ok H.inv.toInv0 C) hp hp0 hx).mono ?_
  rintro e w' ⟨rfl, H2, hs⟩
  rw [cpl_there H.inv.toInv0 C]
  rw [cpl_store H.inv.toInv0 C] at H2
  refine ⟨rfl, HpAt.of (store_inv H.inv p f hx) H hs ?_ H2, hs⟩
  unfold sStore
  split <;> exact C
theorem fits_s (n : Int) (H : HpAt w h S F) :
    Calls Tryz.prog 29 #[.pointer (some ⟨h, 0, none⟩), .int .i64 n] w fun e w' => e = .returned (.bool (sFits S n)) ∧ Below w.heap.size w w' := by
  obtain ⟨zs, sh, C, H1⟩ := H.mem
  exact fits_ok h _ F n w H1 (fun j hj => by have := H.inv.free_len hj; show (S.free j).length ≤ _; omega)
theorem all_s (H : HpAt w h S F) :
    Calls Tryz.prog 17 #[.pointer (some ⟨h, 0, none⟩)] w fun e w' => ∃ v, e = .returned v ∧ w'.ownsRow w.heap.size 3 1 v (sAll S).length ((sAll S).map i64e) ∧ Below w.heap.size w w' := by
  obtain ⟨zs, sh, C, H1⟩ := H.mem
  rw [← cpl_all H.inv.toInv0 C]
  exact all_ok h _ F w H1 H.tab
theorem free_s (p junk : Int) (H : HpAt w h S F) (hp0 : -9223372036854775808 ≤ p) (hp : p ≤ 9223372036854775807) (hx : -9223372036854775808 ≤ junk ∧ junk ≤ 9223372036854775807) :
    Calls Tryz.prog 81 #[.pointer (some ⟨h, 0, none⟩), .int .i64 p, .int .i64 junk] w fun e w' => e = .returned (.int .i64 (sFree S p junk).2) ∧ ∃ F', HpAt w' h (sFree S p junk).1 F' ∧ Step F w w' F' := by
  obtain ⟨zs, sh, C, H1⟩ := H.mem
  have I := H.inv
  rcases I.there_cases p 0 with ⟨h0, _⟩ | ⟨h0, o, ho, rfl, _⟩
  · have e : sFree S p junk = (S, 11) := by unfold sFree; rw [if_pos (by rw [h0]; decide)]
    rw [e]
    refine (free_none h _ F p junk w H1 (cpl_ok I.toInv0 C) hp hp0 (by rw [cpl_there I.toInv0 C]; exact h0)).mono ?_
    rintro e w' ⟨rfl, hb⟩
    exact ⟨rfl, F, H.below hb, Step.of_below hb⟩
  · obtain ⟨_, _, _, _, hsit⟩ := I.ob o ho
    have hn2 := I.n2
    have hp1 := hsit.1
    have hp2 := hsit.2.1
    obtain ⟨k, hk⟩ : ∃ k : Nat, o.1 = (k : Int) := ⟨o.1.toNat, by omega⟩
    refine (free_some h (toM S zs sh) F o.1 junk w H1 (cpl_ok I.toInv0 C) (I.lenF _ (by omega)) H.tab k hk (by rw [cpl_there I.toInv0 C]; exact h0) H.off I.bdL hx (by omega)).mono ?_
    rintro e w' ⟨rfl, ys, r, F', hy, hr, H2, hs⟩
    rw [hk] at h0
    obtain ⟨e1, e2, e3⟩ := cpl_free I C junk h0 hy hr
    rw [e1] at H2
    rw [hk, e3]
    exact ⟨rfl, F', HpAt.of (free_inv I k hx) H hs e2 H2, hs⟩
theorem alloc_s (n mask junk : Int) (H : HpAt w h S F) (hm0 : 0 ≤ mask) (hm : mask ≤ 255) (hx : -9223372036854775808 ≤ junk ∧ junk ≤ 9223372036854775807) :
    Calls Tryz.prog 42 #[.pointer (some ⟨h, 0, none⟩), .int .i64 n, .int .u8 mask, .int .i64 junk] w fun e w' => e = .returned (.tuple #[.int .i64 (sAlloc S n mask junk).2.1, .int .i64 (sAlloc S n mask junk).2.2]) ∧ ∃ F', HpAt w' h (sAlloc S n mask junk).1 F' ∧ Step F w w' F' := by
  obtain ⟨zs, sh, C, H1⟩ := H.mem
  have I := H.inv
  have IA := alloc_inv I (n := n) hm0 hm hx
  by_cases hbad : n < 1 ∨ 6 < n ∨ mask / 2 ^ n.toNat ≠ 0
  · have e : sAlloc S n mask junk = (S, 0, 2) := by unfold sAlloc; rw [if_pos hbad]
    rw [e]
    refine (alloc_arg h _ F n mask junk w H1 hbad).mono ?_
    rintro e w' ⟨rfl, rfl⟩
    exact ⟨rfl, F, H, Step.refl _ _⟩
  · have h1 : 1 ≤ n := by omega
    have h6 : n ≤ 6 := by omega
    have hmk : mask / 2 ^ n.toNat = 0 := by
      rcases Decidable.em (mask / 2 ^ n.toNat = 0) with e | e
      · exact e
      · exact absurd (.inr (.inr e)) hbad
    obtain ⟨e1, hc⟩ := classNat_eq h1 h6
    have hcx : ∀ x ∈ S.cls, x = -1 → (-1 : Int) ∈ S.cls := fun x hx e => e ▸ hx
    by_cases hf : sFits S n = true
    · have e : sAlloc S n mask junk = (sTake (sRoom S (classNat n)) (classNat n) n mask junk, lastOf ((sRoom S (classNat n)).free (classNat n)), 0) := by
        unfold sAlloc
        rw [if_neg hbad, if_neg (by rw [hf]; simp)]
      rw [e] at IA ⊢
      obtain ⟨r1, r2, r3, r4, r5, r6⟩ := room_inv I hf
      obtain ⟨t1, t2, t3⟩ := take_inv (mask := mask) (junk := junk) r1 hc r2 h1 h6 e1 hm0 hm hx
      have hn2 := r1.n2
      obtain ⟨pk, hpk⟩ : ∃ pk : Nat, lastOf ((sRoom S (classNat n)).free (classNat n)) = (pk : Int) := ⟨(lastOf ((sRoom S (classNat n)).free (classNat n))).toNat, by have := t2.1; omega⟩
      have t2' := t2
      rw [hpk] at t2
      have hend := t2.ends.2
      have hp1 := t2.1
      have hp2 := t2.2.1
      rw [hpk]
      have fin : ∀ ys F' w', PutB zs pk true ys → HAt w' h { toM (sRoom S (classNat n)) zs sh with free := popL (sRoom S (classNat n)).free (classNat n), zs := ys, sh := sh.set pk (n, mask), words := fillW (sRoom S (classNat n)).words pk junk (wordsOf (classNat n)).toNat } F' → Step F w w' F' → HpAt w' h (sTake (sRoom S (classNat n)) (classNat n) n mask junk) F' := by
        intro ys F' w' hy HM hs
        refine HpAt.of IA H hs (zs := ys) (sh := sh.set pk (n, mask)) ?_ ?_
        · have h9 := cpl_put (S := S) C (p := pk) (n := n) (mask := mask) (by omega) (by rw [r4] at hp2; have := I.n2; omega) (by rw [sh_len H1]; rw [r4] at hp2; omega) (by rw [← r3, ← hpk]; exact t3) (fun o ho => (I.ob o ho).2.2.2.2.1) hy
          show Cpl ys _ (insO (lastOf ((sRoom S (classNat n)).free (classNat n)), n, mask) (sRoom S (classNat n)).objs)
          rw [hpk, r3]
          exact h9
        · have : toM (sTake (sRoom S (classNat n)) (classNat n) n mask junk) ys (sh.set pk (n, mask)) = { toM (sRoom S (classNat n)) zs sh with free := popL (sRoom S (classNat n)).free (classNat n), zs := ys, sh := sh.set pk (n, mask), words := fillW (sRoom S (classNat n)).words pk junk (wordsOf (classNat n)).toNat } := by
            unfold toM sTake
            rw [hpk]
            rfl
          rw [this]
          exact HM
      by_cases hz : (S.free (classNat n)).length = 0
      · have hx' : (-1 : Int) ∈ S.cls := (fits_room hf).2.2.resolve_left (by omega)
        have er : sRoom S (classNat n) = sCut S (classNat n) := by unfold sRoom; rw [if_pos hz]
        rw [er] at fin r1 r2 hpk hend ⊢
        refine (alloc_cut h (toM S zs sh) (toM (sCut S (classNat n)) zs sh) F n mask junk w H1 (I.lenF _ (by omega)) (r1.lenF _ (by omega)) (classNat n) e1 h1 h6 hmk hz (cpl_cut I.toInv0 hc zs sh hx') r2 pk hpk (by omega) hend hx).mono ?_
        rintro e w' ⟨rfl, ys, F', hy, HM, hs⟩
        exact ⟨rfl, F', fin ys F' w' hy HM hs, hs⟩
      · have er : sRoom S (classNat n) = S := by unfold sRoom; rw [if_neg hz]
        rw [er] at fin r1 r2 hpk hend ⊢
        refine (alloc_have h (toM S zs sh) F n mask junk w H1 (I.lenF _ (by omega)) (classNat n) e1 h1 h6 hmk r2 pk hpk (by omega) hend hx).mono ?_
        rintro e w' ⟨rfl, ys, F', hy, HM, hs⟩
        exact ⟨rfl, F', fin ys F' w' hy HM hs, hs⟩
    · have hf' : sFits S n = false := by simpa using hf
      have e : sAlloc S n mask junk = (S, 0, 6) := by unfold sAlloc; rw [if_neg hbad, if_pos hf']
      rw [e]
      have hno : (S.free (classNat n)).length = 0 ∧ (-1 : Int) ∉ S.cls := by
        unfold sFits at hf'
        rw [decide_eq_true h1, decide_eq_true h6] at hf'
        simp only [Bool.true_and, Bool.or_eq_false_iff, decide_eq_false_iff_not] at hf'
        exact ⟨by omega, hf'.2⟩
      refine (alloc_full h (toM S zs sh) F n mask junk w H1 (I.lenF _ (by omega)) (classNat n) e1 h1 h6 hmk hno.1 (by unfold mCut; rw [if_neg (show (-1 : Int) ∉ (toM S zs sh).cls from hno.2)])).mono ?_
      rintro e w' ⟨rfl, F', H2, hs⟩
      exact ⟨rfl, F', HpAt.of I H hs C H2, hs⟩
end
end Go.Proofs.YtcaboknbdamlhaaGreatDoor
