/- The document's heap in plain words: what each call keeps. -/
import Derived.Test.YtcaboknbdamlhaaGreatDoorHeapSpec
set_option linter.unusedVariables false
set_option linter.unusedSimpArgs false
namespace Go.Proofs.YtcaboknbdamlhaaGreatDoor

theorem nodup_rev {l : List Int} (h : l.Nodup) : l.reverse.Nodup := by
  unfold List.Nodup at *
  rw [List.pairwise_reverse]
  exact h.imp fun h e => h e.symm
theorem mem_blocks {s : Nat} {c : Nat} (hs : s ≤ 1048576) (hc : c < 4) (x : Int) : x ∈ blocksOf s c ↔ 8 * (s : Int) + 1 ≤ x ∧ x ≤ 8 * (s : Int) + 8 ∧ (x - 1) % wordsOf c = 0 := by
  unfold blocksOf
  rw [if_neg (by omega)]
  simp only [List.mem_map, List.mem_range]
  rcases (by omega : c = 0 ∨ c = 1 ∨ c = 2 ∨ c = 3) with rfl | rfl | rfl | rfl
  · rw [show wordsOf ((0 : Nat) : Int) = 1 from rfl, show blockCount ((0 : Nat) : Int) = 8 from rfl]
    constructor
    · rintro ⟨j, hj, rfl⟩; omega
    · rintro ⟨h1, h2, h3⟩; exact ⟨((x - 1) - 8 * s).toNat, by omega, by omega⟩
  · rw [show wordsOf ((1 : Nat) : Int) = 2 from rfl, show blockCount ((1 : Nat) : Int) = 4 from rfl]
    constructor
    · rintro ⟨j, hj, rfl⟩; omega
    · rintro ⟨h1, h2, h3⟩; exact ⟨(((x - 1) - 8 * s) / 2).toNat, by omega, by omega⟩
  · rw [show wordsOf ((2 : Nat) : Int) = 4 from rfl, show blockCount ((2 : Nat) : Int) = 2 from rfl]
    constructor
    · rintro ⟨j, hj, rfl⟩; omega
    · rintro ⟨h1, h2, h3⟩; exact ⟨(((x - 1) - 8 * s) / 4).toNat, by omega, by omega⟩
  · rw [show wordsOf ((3 : Nat) : Int) = 8 from rfl, show blockCount ((3 : Nat) : Int) = 1 from rfl]
    constructor
    · rintro ⟨j, hj, rfl⟩; omega
    · rintro ⟨h1, h2, h3⟩; exact ⟨(((x - 1) - 8 * s) / 8).toNat, by omega, by omega⟩
theorem nodup_blocks {s : Nat} {c : Nat} (hs : s ≤ 1048576) (hc : c < 4) : (blocksOf s c).Nodup := by
  unfold blocksOf
  rw [if_neg (by omega)]
  unfold List.Nodup
  rw [List.pairwise_map]
  refine List.Pairwise.imp ?_ (List.nodup_range (n := blockCount c))
  intro a b hab e
  apply hab
  rcases (by omega : c = 0 ∨ c = 1 ∨ c = 2 ∨ c = 3) with rfl | rfl | rfl | rfl
  · rw [show wordsOf ((0 : Nat) : Int) = 1 from rfl] at e; omega
  · rw [show wordsOf ((1 : Nat) : Int) = 2 from rfl] at e; omega
  · rw [show wordsOf ((2 : Nat) : Int) = 4 from rfl] at e; omega
  · rw [show wordsOf ((3 : Nat) : Int) = 8 from rfl] at e; omega
theorem blocks_ne {s : Nat} {c : Nat} (hs : s ≤ 1048576) (hc : c < 4) : blocksOf s c ≠ [] := fun e => by
  have : (8 * (s : Int) + 1) ∈ blocksOf s c := (mem_blocks hs hc _).2 ⟨by omega, by omega, by
    rcases (by omega : c = 0 ∨ c = 1 ∨ c = 2 ∨ c = 3) with rfl | rfl | rfl | rfl
    · rw [show wordsOf ((0 : Nat) : Int) = 1 from rfl]; omega
    · rw [show wordsOf ((1 : Nat) : Int) = 2 from rfl]; omega
    · rw [show wordsOf ((2 : Nat) : Int) = 4 from rfl]; omega
    · rw [show wordsOf ((3 : Nat) : Int) = 8 from rfl]; omega⟩
  rw [e] at this
  cases this
theorem has_no {L : Nat → List Int} {x : Int} (h : ∀ j, j < 4 → x ∉ L j) : hasIn L x = -1 := by
  unfold hasIn
  rw [if_neg (h 0 (by omega)), if_neg (h 1 (by omega)), if_neg (h 2 (by omega)), if_neg (h 3 (by omega))]
theorem put_add {L : Nat → List Int} {c x : Int} (hb : beginsAt x c = true) (h : ∀ j, j < 4 → x ∉ L j) : putL L c x = (addL L c x, 0) := by
  unfold putL
  rw [if_neg (by rw [hb]; simp), if_neg (by rw [has_no h]; omega)]
theorem puts_add {c : Nat} : ∀ (ps : List Int) (L : Nat → List Int), ps.Nodup → (∀ p ∈ ps, beginsAt p c = true) → (∀ p ∈ ps, ∀ j, j < 4 → p ∉ L j) → mPuts c L ps = fun j => if j = c then L j ++ ps else L j
  | [], L, _, _, _ => by funext j; simp [mPuts]
  | p :: ps, L, hn, hb, ho => by
    rw [List.nodup_cons] at hn
    show mPuts c (putL L c p).1 ps = _
    rw [put_add (hb p (by simp)) (ho p (by simp)), puts_add ps _ hn.2 (fun q hq => hb q (by simp [hq])) fun q hq j hj hm => ?_]
    · funext j
      unfold addL
      by_cases e : j = c
      · simp [e]
      · simp [e]; intro e2; omega
    · replace hm : q ∈ (if (j : Int) = c then L j ++ [p] else L j) := hm
      split at hm
      · rcases List.mem_append.1 hm with hm | hm
        · exact ho q (by simp [hq]) j hj hm
        · rw [List.mem_singleton] at hm; subst hm; exact hn.1 hq
      · exact ho q (by simp [hq]) j hj hm
theorem getD_set (l : List Int) (s : Nat) (v : Int) (hs : s < l.length) (j : Nat) : (l.set s v).getD j (-1) = if j = s then v else l.getD j (-1) := by
  simp only [List.getD, List.getElem?_set]
  by_cases e : s = j
  · subst e; simp [hs]
  · rw [if_neg e, if_neg (fun h => e h.symm)]
theorem sits_set {n : Nat} {cls : List Int} {s : Nat} {c x d : Int} (hl : cls.length = n) (hs : s < n) : Sits n (cls.set s c) x d ↔ ((x - 1) / 8 = s ∧ 1 ≤ x ∧ d = c ∧ 0 ≤ c ∧ c ≤ 3 ∧ (x - 1) % wordsOf c = 0) ∨ ((x - 1) / 8 ≠ s ∧ Sits n cls x d) := by
  unfold Sits
  rw [getD_set _ _ _ (by omega)]
  by_cases e : (x - 1) / 8 = s
  · rw [if_pos (by omega)]
    constructor
    · rintro ⟨h1, h2, h3, h4, rfl, h6⟩; exact .inl ⟨e, h1, rfl, h3, h4, h6⟩
    · rintro (⟨_, h1, rfl, h3, h4, h6⟩ | h)
      · exact ⟨h1, by omega, h3, h4, rfl, h6⟩
      · exact absurd e h.1
  · constructor
    · rintro ⟨h1, h2, h3, h4, h5, h6⟩
      rw [if_neg (by omega)] at h5
      exact .inr ⟨e, h1, h2, h3, h4, h5, h6⟩
    · rintro (h | ⟨_, h1, h2, h3, h4, h5, h6⟩)
      · exact absurd h.1 e
      · exact ⟨h1, h2, h3, h4, by rw [if_neg (by omega)]; exact h5, h6⟩
theorem idx_free {S : HS} (H : Inv0 S) (hx : (-1 : Int) ∈ S.cls) : S.cls.idxOf (-1) < S.n ∧ S.cls.getD (S.cls.idxOf (-1)) (-1) = -1 := by
  have h1 := List.idxOf_lt_length_of_mem hx
  refine ⟨by rw [← H.cl]; exact h1, ?_⟩
  simp only [List.getD, List.getElem?_eq_getElem h1, Option.getD_some]
  exact List.getElem_idxOf h1
theorem sits_other {n : Nat} {cls : List Int} {s : Nat} {x d : Int} (hs : cls.getD s (-1) = -1) (h : Sits n cls x d) : (x - 1) / 8 ≠ s := fun e => by
  obtain ⟨h1, h2, h3, h4, h5, h6⟩ := h
  rw [e, Int.toNat_natCast, hs] at h5
  omega
theorem cut_inv {S : HS} (H : Inv0 S) {c : Nat} (hc : c < 4) (hx : (-1 : Int) ∈ S.cls) : Inv0 (sCut S c) ∧ ∀ x ∈ (sCut S c).free c, x ∈ S.free c ∨ (x - 1) / 8 = S.cls.idxOf (-1) := by
  obtain ⟨hs, hm⟩ := idx_free H hx
  obtain ⟨s, e⟩ : ∃ s, s = S.cls.idxOf (-1) := ⟨_, rfl⟩
  rw [← e] at hs hm
  have hn2 := H.n2
  have hcl := H.cl
  have keep : ∀ {x d}, Sits S.n S.cls x d → Sits S.n (S.cls.set s c) x d := fun h => (sits_set hcl hs).2 (.inr ⟨sits_other hm h, h⟩)
  have hmem : ∀ j x, x ∈ (sCut S c).free j ↔ x ∈ S.free j ∨ (j = c ∧ x ∈ blocksOf s c) := fun j x => by
    show x ∈ (if j = c then S.free j ++ (blocksOf (S.cls.idxOf (-1) : Nat) c).reverse else S.free j) ↔ _
    rw [← e]
    split <;> simp_all
  have hsit : ∀ {x : Int}, x ∈ blocksOf s c → Sits S.n (S.cls.set s c) x c ∧ (x - 1) / 8 = s := fun hx => by
    obtain ⟨h1, h2, h3⟩ := (mem_blocks (by omega) hc _).1 hx
    exact ⟨(sits_set hcl hs).2 (.inl ⟨by omega, by omega, rfl, by omega, by omega, h3⟩), by omega⟩
  have hc2 : (sCut S c).cls = S.cls.set s c := by rw [e]; rfl
  refine ⟨⟨H.n1, H.n2, H.wl, H.wb, ?_, ?_, ?_, H.os, ?_, ?_, ?_, ?_⟩, ?_⟩
  · rw [hc2, List.length_set]; exact hcl
  · intro x hx
    rw [hc2] at hx
    rcases List.mem_or_eq_of_mem_set hx with h | rfl
    · exact H.cb x h
    · omega
  · intro o ho
    obtain ⟨h1, h2, h3, h4, h5⟩ := H.ob o ho
    rw [hc2]
    exact ⟨h1, h2, h3, h4, keep h5⟩
  · intro j hj x hx
    rw [hc2]
    rcases (hmem j x).1 hx with h | ⟨rfl, h⟩
    · exact keep (H.fb j hj x h)
    · exact (hsit h).1
  · intro j hj
    show (if j = c then S.free j ++ (blocksOf (S.cls.idxOf (-1) : Nat) c).reverse else S.free j).Nodup
    rw [← e]
    split
    · rw [List.nodup_append]
      refine ⟨H.fn j hj, ?_, fun a ha b hb e => ?_⟩
      · exact nodup_rev (nodup_blocks (by omega) hc)
      · subst e
        rw [List.mem_reverse] at hb
        exact sits_other hm (H.fb j hj a ha) (hsit hb).2
    · exact H.fn j hj
  · intro j hj x hx o ho he
    rcases (hmem j x).1 hx with h | ⟨rfl, h⟩
    · exact H.fo j hj x h o ho he
    · obtain ⟨_, _, _, _, h5⟩ := H.ob o ho
      rw [he] at h5
      exact sits_other hm h5 (hsit h).2
  · intro x d hd
    rw [hc2] at hd
    rcases (sits_set hcl hs).1 hd with ⟨h1, h2, h3, _, _, h4⟩ | ⟨h1, h2⟩
    · exact .inl ⟨c, hc, (hmem c x).2 (.inr ⟨rfl, (mem_blocks (by omega) hc _).2 ⟨by omega, by omega, h4⟩⟩)⟩
    · rcases H.cov x d h2 with ⟨j, hj, h⟩ | h
      · exact .inl ⟨j, hj, (hmem j x).2 (.inl h)⟩
      · exact .inr h
  · intro x hx
    rcases (hmem c x).1 hx with h | ⟨_, h⟩
    · exact .inl h
    · exact .inr (by rw [← e]; exact (hsit h).2)
theorem cpl_cut {S : HS} (H : Inv0 S) {c : Nat} (hc : c < 4) (zs : List Int) (sh : List (Int × Int)) (hx : (-1 : Int) ∈ S.cls) : mCut (toM S zs sh) c = (toM (sCut S c) zs sh, 0) := by
  obtain ⟨hs, hm⟩ := idx_free H hx
  have hn2 := H.n2
  have h := puts_add (c := c) (blocksOf (S.cls.idxOf (-1) : Nat) c).reverse S.free (by exact nodup_rev (nodup_blocks (by omega) hc)) (fun p hp => by
      rw [List.mem_reverse, mem_blocks (by omega) hc] at hp
      obtain ⟨h1, h2, h3⟩ := hp
      unfold beginsAt
      rw [decide_eq_true_iff]
      have := wordsOf_mod (c := c) (by omega) (by omega)
      exact ⟨by omega, by omega, h3⟩) (fun p hp j hj hf => by
      rw [List.mem_reverse, mem_blocks (by omega) hc] at hp
      exact sits_other hm (H.fb j hj p hf) (by omega))
  unfold mCut
  rw [if_pos (show (-1 : Int) ∈ (toM S zs sh).cls from hx)]
  show (HM.mk _ _ _ (mPuts c S.free (blocksOf (S.cls.idxOf (-1) : Nat) c).reverse) _ _, (0 : Int)) = _
  rw [h]
  rfl

theorem ins_mem (o x : Int × Int × Int) : ∀ l, x ∈ insO o l ↔ x = o ∨ x ∈ l
  | [] => by simp [insO]
  | y :: l => by
    unfold insO
    split
    · simp
    · rw [List.mem_cons, ins_mem o x l, List.mem_cons]
      constructor
      · rintro (h | h | h) <;> simp [h]
      · rintro (h | h | h) <;> simp [h]
theorem ins_len (o : Int × Int × Int) : ∀ l, (insO o l).length = l.length + 1
  | [] => rfl
  | y :: l => by
    unfold insO
    split
    · rfl
    · simp [ins_len o l]
theorem ins_sorted {o : Int × Int × Int} : ∀ {l : List (Int × Int × Int)}, l.Pairwise (fun a b => a.1 < b.1) → (∀ x ∈ l, x.1 ≠ o.1) → (insO o l).Pairwise fun a b => a.1 < b.1
  | [], _, _ => by simp [insO]
  | y :: l, h, hne => by
    unfold insO
    have h' := List.pairwise_cons.1 h
    split
    · next hlt =>
      rw [List.pairwise_cons]
      refine ⟨fun x hx => ?_, h⟩
      rcases List.mem_cons.1 hx with rfl | hx
      · exact hlt
      · have := h'.1 x hx; omega
    · next hlt =>
      rw [List.pairwise_cons]
      refine ⟨fun x hx => ?_, ins_sorted h'.2 fun x hx => hne x (by simp [hx])⟩
      rcases (ins_mem o x l).1 hx with rfl | hx
      · have := hne y (by simp); omega
      · exact h'.1 x hx
theorem fillW_bd {xs : List Int} {p : Nat} {x : Int} (h : I64 xs) (hx : -9223372036854775808 ≤ x ∧ x ≤ 9223372036854775807) : ∀ k, I64 (fillW xs p x k)
  | 0 => h
  | k + 1 => fun y hy => by
    rcases List.mem_or_eq_of_mem_set hy with hy | rfl
    · exact fillW_bd h hx k y hy
    · exact hx
theorem last_split {l : List Int} (h : 0 < l.length) : ∃ k, l = k ++ [lastOf l] ∧ l.take (l.length - 1) = k := by
  refine ⟨l.take (l.length - 1), ?_, rfl⟩
  unfold lastOf
  have h1 : l.length - 1 < l.length := by omega
  simp only [List.getD, List.getElem?_eq_getElem h1, Option.getD_some]
  rw [← List.take_succ_eq_append_getElem h1, List.take_of_length_le (by omega)]
theorem take_inv {S : HS} (H : Inv0 S) {c : Nat} (hc : c < 4) (hne : 0 < (S.free c).length) {n mask junk : Int} (hn1 : 1 ≤ n) (hn6 : n ≤ 6) (hcn : classOf n = c) (hm0 : 0 ≤ mask) (hm : mask ≤ 255) (hj : -9223372036854775808 ≤ junk ∧ junk ≤ 9223372036854775807) :
    Inv0 (sTake S c n mask junk) ∧ Sits S.n S.cls (lastOf (S.free c)) c ∧ (∀ o ∈ S.objs, o.1 ≠ lastOf (S.free c)) := by
  obtain ⟨l, hl, hl2⟩ := last_split hne
  obtain ⟨p, hp⟩ : ∃ p, p = lastOf (S.free c) := ⟨_, rfl⟩
  rw [← hp] at hl
  have hpm : p ∈ S.free c := by rw [hl]; simp
  have hsit := H.fb c hc p hpm
  have hno := H.fo c hc p hpm
  have hnd := H.fn c hc
  rw [hl, List.nodup_append] at hnd
  have hpl : ∀ x ∈ l, x ≠ p := fun x hx => hnd.2.2 x hx p (by simp)
  have hpop : ∀ j, popL S.free c j = if j = c then l else S.free j := fun j => by
    unfold popL
    by_cases e : j = c
    · subst e; rw [if_pos rfl, if_pos rfl, hl2]
    · rw [if_neg (by omega), if_neg e]
  have hfree : (sTake S c n mask junk).free = popL S.free c := rfl
  have hobj : (sTake S c n mask junk).objs = insO (p, n, mask) S.objs := by rw [hp]; rfl
  have hsub : ∀ j, j < 4 → ∀ x ∈ popL S.free c j, x ∈ S.free j ∧ x ≠ p := fun j hj x hx => by
    rw [hpop] at hx
    split at hx
    · next e => subst e; exact ⟨by rw [hl]; simp [hx], hpl x hx⟩
    · next e =>
      refine ⟨hx, fun e2 => e ?_⟩
      subst e2
      have := (H.fb j hj x hx).uniq hsit
      omega
  rw [← hp]
  refine ⟨⟨H.n1, H.n2, ?_, fillW_bd H.wb hj _, H.cl, H.cb, ?_, ?_, ?_, ?_, ?_, ?_⟩, hsit, hno⟩
  · show (fillW _ _ _ _).length = _
    rw [fillW_len]; exact H.wl
  · intro o ho
    rw [hobj, ins_mem] at ho
    rcases ho with rfl | ho
    · exact ⟨hn1, hn6, hm0, hm, by show Sits S.n S.cls p (classOf n); rw [hcn]; exact hsit⟩
    · exact H.ob o ho
  · rw [hobj]
    exact ins_sorted H.os hno
  · intro j hj x hx
    rw [hfree] at hx
    exact H.fb j hj x (hsub j hj x hx).1
  · intro j hj
    rw [hfree, hpop]
    split
    · exact hnd.1
    · exact H.fn j hj
  · intro j hj x hx o ho
    rw [hfree] at hx
    rw [hobj, ins_mem] at ho
    rcases ho with rfl | ho
    · exact fun e => (hsub j hj x hx).2 e.symm
    · exact H.fo j hj x (hsub j hj x hx).1 o ho
  · intro x d hd
    by_cases e : x = p
    · exact .inr ⟨(p, n, mask), by rw [hobj, ins_mem]; exact .inl rfl, e.symm⟩
    · rcases H.cov x d hd with ⟨j, hj, h⟩ | ⟨o, ho, h⟩
      · refine .inl ⟨j, hj, ?_⟩
        rw [hfree, hpop]
        split
        · next e2 =>
          subst e2
          rw [hl, List.mem_append, List.mem_singleton] at h
          exact h.resolve_right e
        · exact h
      · exact .inr ⟨o, by rw [hobj, ins_mem]; exact .inr ho, h⟩
theorem cpl_put {S : HS} {zs ys : List Int} {sh : List (Int × Int)} (C : Cpl zs sh S.objs) {p n mask : Int} (hp1 : 1 ≤ p) (hp2 : p ≤ 5000) (hps : p.toNat < sh.length) (hno : ∀ o ∈ S.objs, o.1 ≠ p) (hob : ∀ o ∈ S.objs, 1 ≤ o.1) (hy : PutB zs p true ys) :
    Cpl ys (sh.set p.toNat (n, mask)) (insO (p, n, mask) S.objs) := by
  refine ⟨fun j => ?_, fun o ho => ?_⟩
  · rw [hy.2.2.2 j]
    split
    · next h => exact ⟨fun _ => ⟨(p, n, mask), (ins_mem _ _ _).2 (.inl rfl), h.1.symm⟩, fun _ => rfl⟩
    · next h =>
      rw [C.1 j]
      constructor
      · rintro ⟨o, ho, e⟩; exact ⟨o, (ins_mem _ _ _).2 (.inr ho), e⟩
      · rintro ⟨o, ho, e⟩
        rcases (ins_mem _ _ _).1 ho with rfl | ho
        · exact absurd ⟨e.symm, by omega⟩ h
        · exact ⟨o, ho, e⟩
  · rcases (ins_mem _ _ _).1 ho with rfl | ho
    · simp [List.getD, hps]
    · rw [← C.2 o ho]
      have h1 := hob o ho
      have h2 := hno o ho
      simp only [List.getD, List.getElem?_set]
      rw [if_neg (by omega)]

theorem fits_room {S : HS} {n : Int} (h : sFits S n = true) : 1 ≤ n ∧ n ≤ 6 ∧ (0 < (S.free (classNat n)).length ∨ (-1 : Int) ∈ S.cls) := by
  unfold sFits at h
  simp only [Bool.and_eq_true, Bool.or_eq_true, decide_eq_true_eq] at h
  exact h
/-- What Alloc needs behind the room that is made. -/
theorem room_inv {S : HS} (H : Inv S) {n : Int} (h : sFits S n = true) : Inv0 (sRoom S (classNat n)) ∧ 0 < ((sRoom S (classNat n)).free (classNat n)).length ∧ (sRoom S (classNat n)).objs = S.objs ∧ (sRoom S (classNat n)).n = S.n ∧ (sRoom S (classNat n)).words = S.words ∧
    ∀ s : Nat, s < S.n → (sRoom S (classNat n)).cls.getD s (-1) ≠ -1 → (∃ o ∈ S.objs, spanOf o.1 = s) ∨ spanOf (lastOf ((sRoom S (classNat n)).free (classNat n))) = s := by
  obtain ⟨h1, h6, hr⟩ := fits_room h
  obtain ⟨e1, hc⟩ := classNat_eq h1 h6
  obtain ⟨c, ec⟩ : ∃ c, c = classNat n := ⟨_, rfl⟩
  rw [← ec] at hc hr ⊢
  unfold sRoom
  by_cases hz : (S.free c).length = 0
  · rw [if_pos hz]
    have hx := hr.resolve_left (by omega)
    obtain ⟨hi, hsp⟩ := cut_inv H.toInv0 hc hx
    obtain ⟨hs, hm⟩ := idx_free H.toInv0 hx
    have hn2 := H.n2
    have hfc : (sCut S c).free c = S.free c ++ (blocksOf (S.cls.idxOf (-1) : Nat) c).reverse := if_pos rfl
    have hlen : 0 < ((sCut S c).free c).length := by
      rw [hfc, List.length_append, List.length_reverse]
      have := List.length_pos_iff.2 (blocks_ne (s := S.cls.idxOf (-1)) (by omega) hc)
      omega
    refine ⟨hi, hlen, rfl, rfl, rfl, fun s hs2 hcl => ?_⟩
    have hc2 : (sCut S c).cls = S.cls.set (S.cls.idxOf (-1)) c := rfl
    rw [hc2, getD_set _ _ _ (by rw [H.cl]; exact hs)] at hcl
    split at hcl
    · next e =>
      right
      obtain ⟨l, hl, _⟩ := last_split hlen
      have hmem : lastOf ((sCut S c).free c) ∈ (sCut S c).free c := by
        have hh : lastOf ((sCut S c).free c) ∈ l ++ [lastOf ((sCut S c).free c)] := by simp
        rw [← hl] at hh
        exact hh
      have hsits := hi.fb c hc _ hmem
      rcases hsp _ hmem with h3 | h3
      · rw [List.length_eq_zero_iff.1 hz] at h3; cases h3
      · rw [hsits.span.1, h3, e]
    · exact .inl (H.live s hs2 hcl)
  · rw [if_neg hz]
    exact ⟨H.toInv0, by omega, rfl, rfl, rfl, fun s hs hc => .inl (H.live s hs hc)⟩
theorem alloc_inv {S : HS} (H : Inv S) {n mask junk : Int} (hm0 : 0 ≤ mask) (hm : mask ≤ 255) (hj : -9223372036854775808 ≤ junk ∧ junk ≤ 9223372036854775807) : Inv (sAlloc S n mask junk).1 := by
  unfold sAlloc
  split
  · exact H
  · split
    · exact H
    · next h1 h2 =>
      have hf : sFits S n = true := by simpa using h2
      obtain ⟨r1, r2, r3, r4, r5, r6⟩ := room_inv H hf
      obtain ⟨f1, f6, _⟩ := fits_room hf
      obtain ⟨e1, hc⟩ := classNat_eq f1 f6
      obtain ⟨t1, t2, t3⟩ := take_inv r1 hc r2 f1 f6 e1 hm0 hm hj
      refine ⟨t1, fun s hs hcl => ?_⟩
      rcases r6 s (by rw [← r4]; exact hs) hcl with ⟨o, ho, e⟩ | e
      · exact ⟨o, (ins_mem _ _ _).2 (.inr (by rw [r3]; exact ho)), e⟩
      · exact ⟨_, (ins_mem _ _ _).2 (.inl rfl), e⟩

section free
variable {S : HS}
theorem less_inv (H : Inv0 S) {o : Int × Int × Int} (ho : o ∈ S.objs) {junk : Int} (hj : -9223372036854775808 ≤ junk ∧ junk ≤ 9223372036854775807) : Inv0 (sLess S o.1 junk) := by
  obtain ⟨h1, h2, h3, h4, h5⟩ := H.ob o ho
  have hsz := H.size ho
  obtain ⟨c, hc⟩ : ∃ c : Nat, classOf o.2.1 = c := ⟨(classOf o.2.1).toNat, by obtain ⟨_, _, h, _⟩ := h5; omega⟩
  have hfree : ∀ j, (sLess S o.1 junk).free j = if j = c then S.free j ++ [o.1] else S.free j := fun j => by
    show addL S.free (classOf (sSize S o.1).1) o.1 j = _
    rw [hsz, hc]
    unfold addL
    by_cases e : j = c
    · rw [if_pos (by omega), if_pos e]
    · rw [if_neg (by omega), if_neg e]
  rw [hc] at h5
  have hobj : ∀ x, x ∈ (sLess S o.1 junk).objs ↔ x ∈ S.objs ∧ x.1 ≠ o.1 := fun x => by
    show x ∈ S.objs.filter (fun x => !(x.1 == o.1)) ↔ _
    simp
  have hmem : ∀ j x, x ∈ (sLess S o.1 junk).free j → x ∈ S.free j ∨ (j = c ∧ x = o.1) := fun j x hx => by
    rw [hfree] at hx
    split at hx
    · next e =>
      rcases List.mem_append.1 hx with h | h
      · exact .inl h
      · exact .inr ⟨e, by simpa using h⟩
    · exact .inl hx
  refine ⟨H.n1, H.n2, ?_, fillW_bd H.wb hj _, H.cl, H.cb, fun x hx => H.ob x ((hobj x).1 hx).1, H.os.filter _, ?_, ?_, ?_, ?_⟩
  · show (fillW _ _ _ _).length = _
    rw [fillW_len]; exact H.wl
  · intro j hj x hx
    rcases hmem j x hx with h | ⟨rfl, rfl⟩
    · exact H.fb j hj x h
    · exact h5
  · intro j hj
    rw [hfree]
    split
    · rw [List.nodup_append]
      refine ⟨H.fn j hj, by simp, fun a ha b hb e => ?_⟩
      rw [List.mem_singleton] at hb
      subst hb
      exact H.fo j hj a ha o ho e.symm
    · exact H.fn j hj
  · intro j hj x hx y hy
    obtain ⟨hy1, hy2⟩ := (hobj y).1 hy
    rcases hmem j x hx with h | ⟨rfl, rfl⟩
    · exact H.fo j hj x h y hy1
    · exact hy2
  · intro x d hd
    by_cases e : x = o.1
    · refine .inl ⟨c, by obtain ⟨_, _, _, h, _⟩ := h5; omega, ?_⟩
      rw [hfree, if_pos rfl, e]
      simp
    · rcases H.cov x d hd with ⟨j, hj, h⟩ | ⟨y, hy, h⟩
      · refine .inl ⟨j, hj, ?_⟩
        rw [hfree]
        split
        · simp [h]
        · exact h
      · exact .inr ⟨y, (hobj y).2 ⟨hy, by rw [h]; exact e⟩, h⟩
theorem keep_mem (s x : Int) (l : List Int) : x ∈ keepS s l ↔ x ∈ l ∧ spanOf x ≠ s := by
  unfold keepS
  simp
theorem free_inv (H : Inv S) (p : Int) {junk : Int} (hj : -9223372036854775808 ≤ junk ∧ junk ≤ 9223372036854775807) : Inv (sFree S p junk).1 := by
  unfold sFree
  split
  · exact H
  · next h0 =>
    rcases H.there_cases p 0 with ⟨h, _⟩ | ⟨_, o, ho, rfl, hsz, _, _⟩
    · rw [h] at h0; simp at h0
    · have L := less_inv H.toInv0 ho hj
      have hob := H.ob o ho
      have hsp := hob.2.2.2.2.span
      obtain ⟨s, hs⟩ : ∃ s : Nat, spanOf o.1 = s := ⟨(spanOf o.1).toNat, by omega⟩
      have hobj : ∀ x, x ∈ (sLess S o.1 junk).objs ↔ x ∈ S.objs ∧ x.1 ≠ o.1 := fun x => by
        show x ∈ S.objs.filter (fun x => !(x.1 == o.1)) ↔ _
        simp
      split
      · next ha =>
        rw [List.any_eq_true] at ha
        obtain ⟨y, hy, he⟩ := ha
        refine ⟨L, fun t ht hcl => ?_⟩
        by_cases e : t = s
        · exact ⟨y, hy, by rw [e, ← hs]; simpa using he⟩
        · obtain ⟨x, hx, h⟩ := H.live t ht hcl
          refine ⟨x, (hobj x).2 ⟨hx, fun e2 => e ?_⟩, h⟩
          rw [e2, hs] at h
          omega
      · next ha =>
        rw [Bool.not_eq_true, List.any_eq_false] at ha
        have hno : ∀ x ∈ (sLess S o.1 junk).objs, spanOf x.1 ≠ s := fun x hx => by
          have := ha x hx
          rw [hs] at this
          simpa using this
        have hlt : s < S.n := by omega
        have hcl := H.cl
        have keep : ∀ {x d}, Sits S.n S.cls x d → spanOf x ≠ s → Sits S.n (S.cls.set s (-1)) x d := fun h hne => (sits_set hcl hlt).2 (.inr ⟨by have := h.span; omega, h⟩)
        rw [hs, Int.toNat_natCast]
        refine ⟨⟨L.n1, L.n2, L.wl, L.wb, ?_, ?_, ?_, L.os, ?_, ?_, ?_, ?_⟩, ?_⟩
        · show (S.cls.set s (-1)).length = _
          rw [List.length_set]; exact hcl
        · intro x hx
          rcases List.mem_or_eq_of_mem_set hx with h | rfl
          · exact H.cb x h
          · omega
        · intro x hx
          obtain ⟨a1, a2, a3, a4, a5⟩ := L.ob x hx
          exact ⟨a1, a2, a3, a4, keep a5 (hno x hx)⟩
        · intro j hj x hx
          obtain ⟨b1, b2⟩ := (keep_mem s x _).1 hx
          exact keep (L.fb j hj x b1) b2
        · intro j hj
          exact (L.fn j hj).filter _
        · intro j hj x hx
          exact L.fo j hj x ((keep_mem s x _).1 hx).1
        · intro x d hd
          rcases (sits_set hcl hlt).1 hd with ⟨_, _, h3, h4, _⟩ | ⟨hne, hd'⟩
          · omega
          · rcases L.cov x d hd' with ⟨j, hj, h⟩ | h
            · refine .inl ⟨j, hj, (keep_mem s x _).2 ⟨h, ?_⟩⟩
              have := hd'.span
              omega
            · exact .inr h
        · intro t ht hne
          rw [show ((S.cls.set s (-1)).getD t (-1)) = _ from getD_set _ _ _ (by omega) t] at hne
          split at hne
          · exact absurd rfl hne
          · next e =>
            obtain ⟨x, hx, h⟩ := H.live t ht hne
            refine ⟨x, (hobj x).2 ⟨hx, fun e2 => e ?_⟩, h⟩
            rw [e2, hs] at h
            omega
theorem cpl_less {zs ys : List Int} {sh : List (Int × Int)} (C : Cpl zs sh S.objs) {p : Int} (hp2 : p ≤ 5000) (hy : PutB zs p false ys) : Cpl ys sh (S.objs.filter fun o => !(o.1 == p)) := by
  refine ⟨fun j => ?_, fun o ho => C.2 o (List.mem_filter.1 ho).1⟩
  rw [hy.2.2.2 j]
  split
  · next h =>
    constructor
    · intro e; cases e
    · rintro ⟨o, ho, e⟩
      have := (List.mem_filter.1 ho).2
      simp at this
      omega
  · next h =>
    rw [C.1 j]
    constructor
    · rintro ⟨o, ho, e⟩
      exact ⟨o, by rw [List.mem_filter]; exact ⟨ho, by simp; omega⟩, e⟩
    · rintro ⟨o, ho, e⟩
      exact ⟨o, (List.mem_filter.1 ho).1, e⟩
theorem cpl_free (H : Inv S) {zs ys : List Int} {sh : List (Int × Int)} (C : Cpl zs sh S.objs) {k : Nat} (junk : Int) {r : Int} (h0 : sThere S k 0 = 0) (hy : PutB zs k false ys) (hr : IsNext (bitAt ys) (8 * spanOf k + 1) r) :
    mFree (toM S zs sh) k junk ys r = toM (sFree S k junk).1 ys sh ∧ Cpl ys sh (sFree S k junk).1.objs ∧ (sFree S k junk).2 = 0 := by
  rcases H.there_cases k 0 with ⟨h, _⟩ | ⟨_, o, ho, ek, hsz, _, _⟩
  · rw [h] at h0; cases h0
  obtain ⟨a1, a2, a3, a4, a5⟩ := H.ob o ho
  rw [ek] at a5
  have hsp := a5.span
  have hn2 := H.n2
  have hk1 := a5.1
  have hk2 := a5.2.1
  obtain ⟨s, hs⟩ : ∃ s : Nat, spanOf (k : Int) = s := ⟨(spanOf k).toNat, by omega⟩
  have hC := cpl_less C (p := k) (by omega) hy
  have hcls : S.cls.getD s 0 = classOf o.2.1 := by
    obtain ⟨_, _, _, _, h5, _⟩ := a5
    rw [show ((k : Int) - 1) / 8 = s by omega, Int.toNat_natCast] at h5
    have hl : s < S.cls.length := by rw [H.cl]; omega
    simp only [List.getD, List.getElem?_eq_getElem hl, Option.getD_some] at h5 ⊢
    exact h5
  have hput : putL S.free (classOf o.2.1) k = (addL S.free (classOf o.2.1) k, 0) := put_add a5.begins fun j hj hm => H.fo j hj k hm o ho ek
  have hbl : blockLen (toM S zs sh) k = (wordsOf (classOf (sSize S k).1)).toNat := by
    have := C.2 o ho
    rw [ek, Int.toNat_natCast] at this
    unfold blockLen
    show (wordsOf (classOf (sh.getD k (0, 0)).1)).toNat = _
    rw [this, hsz]
  have hany : (r < 0 ∨ spanOf r ≠ spanOf k) ↔ (sLess S k junk).objs.any (fun x => spanOf x.1 == spanOf k) = false := by
    rw [List.any_eq_false]
    constructor
    · intro h x hx he
      have he' : spanOf x.1 = s := by rw [← hs]; simpa using he
      obtain ⟨b1, b2, b3, b4, b5⟩ := H.ob x (List.mem_filter.1 hx).1
      have hx1 := b5.1
      have hxs := b5.span
      have hbit : bitAt ys x.1.toNat = true := (hC.1 _).2 ⟨x, hx, by omega⟩
      rcases hr with ⟨rfl, hn⟩ | ⟨q, rfl, h1, h2, h3⟩
      · have := hn x.1.toNat (by omega)
        rw [hbit] at this; cases this
      · have hq : (q : Int) ≤ x.1 := by
          rcases Nat.lt_or_ge x.1.toNat q with hlt | hge
          · have := h3 x.1.toNat (by omega) hlt
            rw [hbit] at this; cases this
          · omega
        have h4 := (span_bd (q : Int)).2.2 (by omega)
        omega
    · intro h
      rcases hr with ⟨rfl, hn⟩ | ⟨q, rfl, h1, h2, h3⟩
      · exact .inl (by omega)
      · right
        intro e
        obtain ⟨x, hx, ex⟩ := (hC.1 q).1 h2
        exact h x hx (by rw [ex, e]; simp)
  unfold mFree sFree
  rw [if_neg (show ¬ sThere S k 0 ≠ 0 by rw [h0]; simp)]
  by_cases hc : r < 0 ∨ spanOf r ≠ spanOf k
  · rw [if_pos hc, if_neg (by rw [hany.1 hc]; simp)]
    refine ⟨?_, hC, rfl⟩
    rw [hbl, hs, Int.toNat_natCast]
    show HM.mk S.n (fillW S.words k junk _) (S.cls.set s (-1)) (cutL (putL S.free (S.cls.getD s 0) k).1 s) ys sh = _
    rw [hcls, hput]
    unfold toM sLess
    rw [hsz]
    rfl
  · rw [if_neg hc, if_pos (by
      cases hb : (sLess S k junk).objs.any (fun x => spanOf x.1 == spanOf k) with
      | true => rfl
      | false => exact absurd (hany.2 hb) hc)]
    refine ⟨?_, hC, rfl⟩
    rw [hbl, hs, Int.toNat_natCast]
    show HM.mk S.n (fillW S.words k junk _) S.cls (putL S.free (S.cls.getD s 0) k).1 ys sh = _
    rw [hcls, hput]
    unfold toM sLess
    rw [hsz]
    rfl
end free
theorem store_inv {S : HS} (H : Inv S) (p f : Int) {x : Int} (hx : -9223372036854775808 ≤ x ∧ x ≤ 9223372036854775807) : Inv (sStore S p f x) := by
  unfold sStore
  split
  · exact ⟨⟨H.n1, H.n2, by show (S.words.set _ _).length = _; rw [List.length_set]; exact H.wl, fun y hy => by
      rcases List.mem_or_eq_of_mem_set hy with h | rfl
      · exact H.wb y h
      · exact hx, H.cl, H.cb, H.ob, H.os, H.fb, H.fn, H.fo, H.cov⟩, H.live⟩
  · exact H
theorem clear_inv {S : HS} (H : Inv S) (p : Int) : Inv (sClear S p) := by
  unfold sClear
  split
  · exact ⟨⟨H.n1, H.n2, by show (fillW _ _ _ _).length = _; rw [fillW_len]; exact H.wl, fillW_bd H.wb (by omega) _, H.cl, H.cb, H.ob, H.os, H.fb, H.fn, H.fo, H.cov⟩, H.live⟩
  · exact H
theorem new_inv {n : Nat} (h1 : 1 ≤ n) (h2 : n ≤ 512) : Inv (sNew n) := by
  have hg : ∀ s, (sNew n).cls.getD s (-1) = -1 := fun s => by
    show (List.replicate n (-1)).getD s (-1) = -1
    simp only [List.getD, List.getElem?_replicate]
    split <;> rfl
  refine ⟨⟨h1, h2, by simp [sNew], fun x hx => ?_, by simp [sNew], fun x hx => ?_, fun o ho => (by cases ho), List.Pairwise.nil, fun j _ x hx => (by cases hx), fun j _ => List.nodup_nil, fun j _ x hx => (by cases hx), fun x c h => ?_⟩, fun s _ h => absurd (hg s) h⟩
  · have := List.eq_of_mem_replicate hx
    omega
  · have := List.eq_of_mem_replicate hx
    omega
  · obtain ⟨_, _, h3, _, h5, _⟩ := h
    rw [hg] at h5
    omega
end Go.Proofs.YtcaboknbdamlhaaGreatDoor
