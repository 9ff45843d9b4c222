/- Joined: SweepMadeP, SweepMade. -/
import Derived.Test.YtcaboknbdamlhaaGreatDoorSSO
set_option linter.unusedVariables false
set_option linter.unusedSimpArgs false
namespace Go.Proofs.YtcaboknbdamlhaaGreatDoor
open Go.RowKit Go.Shelf
theorem qIt_shift (T : SS) (junk : Int) : ∀ n, qIt (qStep T junk).1 junk n = qIt T junk (n + 1)
  | 0 => rfl
  | n + 1 => by
    show (qStep (qIt (qStep T junk).1 junk n) junk).1 = (qStep (qIt T junk (n + 1)) junk).1
    rw [qIt_shift T junk n]
/-- A store runs to its end. -/
theorem ends_run (P : SS → Nat → Prop) (junk : Int) (h : ∀ T r, P T r → SOk T ∧ (T.ph = 0 ∨ (T.ph ≠ 0 ∧ (qStep T junk).2 = 0 ∧ ∃ r', r' < r ∧ P (qStep T junk).1 r'))) :
    ∀ r T, P T r → ∃ n, Ends T junk n ∧ ∃ r', P (qIt T junk n) r' := by
  intro r
  induction r using Nat.strongRecOn with
  | ind r ih =>
    intro T hP
    obtain ⟨ok, h1⟩ := h T r hP
    rcases h1 with h0 | ⟨h0, he, r', hr', hP'⟩
    · exact ⟨0, ⟨fun i hi => absurd hi (Nat.not_lt_zero _), h0, fun i hi => by
        have hi0 : i = 0 := by omega
        subst hi0
        exact ok⟩, r, hP⟩
    · obtain ⟨n, E, hn⟩ := ih r' hr' _ hP'
      refine ⟨n + 1, ⟨fun i hi => ?_, by rw [← qIt_shift]; exact E.off, fun i hi => ?_⟩, by rw [← qIt_shift]; exact hn⟩
      · cases i with
        | zero => exact ⟨h0, he⟩
        | succ i => rw [← qIt_shift]; exact E.go i (by omega)
      · cases i with
        | zero => exact ok
        | succ i => rw [← qIt_shift]; exact E.ok i (by omega)
theorem fold_seen {S : HS} (I : Inv0 S) : ∀ (l : List Int) (K : MK), MI S K → (∀ x ∈ l, Good S x) → ∀ x, (l.foldl (mShade S) K).seen x = true ↔ (K.seen x = true ∨ (x ∈ l ∧ x ≠ 0))
  | [], K, M, _, x => by simp
  | y :: l, K, M, h, x => by
    obtain ⟨M1, u1, s1, s2, s3, _⟩ := mi_shade I M (h y (by simp))
    show ((l.foldl (mShade S) (mShade S K y)).seen x = true) ↔ _
    rw [fold_seen I l _ M1 (fun z hz => h z (List.mem_cons_of_mem _ hz)) x]
    constructor
    · rintro (hx | hx)
      · rcases s3 x hx with h1 | rfl
        · exact .inl h1
        · exact .inr ⟨by simp, fun e => by have := mis_pos I (M1.obj x hx); omega⟩
      · exact .inr ⟨List.mem_cons_of_mem _ hx.1, hx.2⟩
    · rintro (hx | ⟨hx, h0⟩)
      · exact .inl (s2 x hx)
      · rcases List.mem_cons.1 hx with rfl | hx
        · exact .inl (s1 h0)
        · exact .inr ⟨hx, h0⟩
theorem keep_none (sn : Int → Bool) (l : List Int) (h : ∀ x ∈ l, sn x = true) : keepP sn l = [] := by
  unfold keepP
  rw [List.filter_eq_nil_iff]
  intro x hx
  simp [h x hx]
theorem step_off {T : SS} (hp : T.ph = 0) (junk : Int) : qStep T junk = (T, 0) := by unfold qStep; rw [if_neg (by omega), if_neg (by omega)]
theorem step_end {T : SS} (hp : T.ph = 1) (M : MI T.S T.K) (hg : T.K.greys = []) (junk : Int) : qStep T junk = ({ T with K := mOff T.K, ph := 2, left := keepP T.K.seen (sAll T.S) }, 0) := by
  unfold qStep
  rw [if_pos hp]
  unfold qMark
  rw [mi_end M hg, if_neg (by simp)]
theorem step_mark {T : SS} (I : Inv0 T.S) (C : Clo T.S) (hp : T.ph = 1) (M : MI T.S T.K) {p : Int} {gs : List Int} (hg : T.K.greys = p :: gs) (junk : Int) : qStep T junk = ({ T with K := nextK T.S T.K p gs }, 0) := by
  unfold qStep
  rw [if_pos hp]
  unfold qMark
  rw [(mi_step I C M hg).1, if_pos (.inl rfl)]
theorem step_sweep0 {T : SS} (hp : T.ph = 2) (hl : T.left = []) (junk : Int) : qStep T junk = ({ T with ph := 0, cyc := T.cyc + 1 }, 0) := by
  unfold qStep
  rw [if_neg (by omega), if_pos hp]
  unfold qSweep
  rw [hl]
theorem step_sweep1 {T : SS} (hp : T.ph = 2) {x : Int} {l : List Int} (hl : T.left = x :: l) (junk : Int) : qStep T junk = ({ T with S := (sFree T.S x junk).1, left := l }, (sFree T.S x junk).2) := by
  unfold qStep
  rw [if_neg (by omega), if_pos hp]
  unfold qSweep
  rw [hl]
/-- What a look-through sees besides. -/
theorem next_seen {S : HS} {K : MK} (I : Inv0 S) (C : Clo S) (M : MI S K) {p : Int} {gs : List Int} (hg : K.greys = p :: gs) : (∀ x, K.seen x = true → (nextK S K p gs).seen x = true) ∧ (∀ x, (nextK S K p gs).seen x = true → K.seen x = true ∨ x = fldA S p 0 ∨ x = fldA S p 1) := by
  have hp : mIs S p = true := M.obj p (M.sn p (by rw [hg]; simp))
  have M0 : MI S { K with greys := gs } := ⟨M.on, M.obj, fun x hx => M.sn x (by rw [hg]; exact List.mem_cons_of_mem _ hx)⟩
  have g0 := C.good I hp (f := 0) (by omega)
  have g1 := C.good I hp (f := 1) (by omega)
  obtain ⟨M1, _, _, a2, a3, _⟩ := mi_shade I M0 g0
  obtain ⟨M2, _, _, b2, b3, _⟩ := mi_shade I M1 g1
  refine ⟨fun x hx => b2 x (a2 x hx), fun x hx => ?_⟩
  rcases b3 x hx with h | h
  · exact (a3 x h).imp id .inl
  · exact .inr (.inr h)
/-! All objects are seen: nothing is freed. -/
inductive All1 (S : HS) (T : SS) : Nat → Prop
  | mark (ph : T.ph = 1) (hS : T.S = S) (M : MI S T.K) (al : ∀ p, mIs S p = true → T.K.seen p = true) (lf : T.left = []) : All1 S T (uns S T.K + T.K.greys.length + 3)
  | sweep (ph : T.ph = 2) (hS : T.S = S) (on : T.K.on = false) (lf : T.left = []) : All1 S T 1
  | off (ph : T.ph = 0) (hS : T.S = S) (on : T.K.on = false) (lf : T.left = []) : All1 S T 0
section
variable {S S' : HS} {T : SS} {r : Nat}
theorem All1.s (A : All1 S T r) : T.S = S := by cases A <;> assumption
theorem All1.sok (A : All1 S T r) (hc : 0 ≤ T.cyc ∧ T.cyc + r ≤ 10000) : SOk T := by
  cases A with
  | mark ph hS M al lf => exact ⟨.inr (.inl ⟨ph, M.on⟩), by omega, by rw [lf]; simp, by rw [lf]; simp⟩
  | sweep ph hS on lf => exact ⟨.inr (.inr ph), by omega, by rw [lf]; simp, by rw [lf]; simp⟩
  | off ph hS on lf => exact ⟨.inl ph, by omega, by rw [lf]; simp, by rw [lf]; simp⟩
theorem All1.step (I : Inv0 S) (C : Clo S) (A : All1 S T r) (junk : Int) : (qStep T junk).2 = 0 ∧ ∃ r', All1 S (qStep T junk).1 r' ∧ r' ≤ r ∧ (T.ph ≠ 0 → r' < r) ∧ (qStep T junk).1.cyc + r' ≤ T.cyc + r ∧ T.cyc ≤ (qStep T junk).1.cyc := by
  cases A with
  | mark ph hS M al lf =>
    subst hS
    rcases hg : T.K.greys with _ | ⟨p, gs⟩
    · rw [step_end ph M hg]
      have hk : keepP T.K.seen (sAll T.S) = [] := keep_none _ _ fun x hx => al x ((mis_all I x).2 hx)
      exact ⟨rfl, 1, All1.sweep rfl rfl rfl hk, by omega, fun _ => by omega, by simp only; omega, by simp⟩
    · rw [step_mark I C ph M hg]
      obtain ⟨_, M', u⟩ := mi_step I C M hg
      have u' := u
      rw [hg] at u'
      have ns := next_seen I C M hg
      exact ⟨rfl, _, All1.mark (T := { T with K := nextK T.S T.K p gs }) ph rfl M' (fun x hx => ns.1 x (al x hx)) lf, by simp only; omega, fun _ => by simp only; omega, by simp only; omega, by simp⟩
  | sweep ph hS on lf =>
    subst hS
    rw [step_sweep0 ph lf]
    exact ⟨rfl, 0, All1.off rfl rfl on lf, by omega, fun _ => by omega, by simp only; omega, by simp only; omega⟩
  | off ph hS on lf =>
    subst hS
    rw [step_off ph]
    exact ⟨rfl, 0, All1.off ph rfl on lf, by omega, fun h => absurd ph h, by simp, by simp⟩
theorem All1.alloc (I : Inv S) {p : Int} (hr : sAlloc S 2 3 0 = (S', p, 0)) (A : Alloced S S' 2 3 0 p) (H : All1 S T r) : (qAlloc T 2 3 0).2 = (p, 0) ∧ (∃ r', All1 S' (qAlloc T 2 3 0).1 r' ∧ r' ≤ r) ∧ (qAlloc T 2 3 0).1.cyc = T.cyc := by
  have hm : ∀ o, o ∈ S'.objs ↔ o = (p, 2, 3) ∨ o ∈ S.objs := fun o => by rw [A.objs, ins_mem]
  have hpo : mIs S' p = true := (mis_mem A.inv.toInv0 p).2 ⟨_, (hm _).2 (.inl rfl), rfl⟩
  have hp0 := mis_pos A.inv.toInv0 hpo
  have mono : ∀ x, mIs S x = true → mIs S' x = true := fun x hx => by
    obtain ⟨o, ho, e⟩ := (mis_mem I.toInv0 x).1 hx
    exact (mis_mem A.inv.toInv0 x).2 ⟨o, (hm o).2 (.inr ho), e⟩
  have inv' : ∀ x, mIs S' x = true → x = p ∨ mIs S x = true := fun x hx => by
    obtain ⟨o, ho, e⟩ := (mis_mem A.inv.toInv0 x).1 hx
    rcases (hm o).1 ho with rfl | h
    · exact .inl e.symm
    · exact .inr ((mis_mem I.toInv0 x).2 ⟨o, h, e⟩)
  have offc : T.K.on = false → mKnown S' T.K p = (false, 0) ∧ mMade S' T.K p = T.K := fun ho => by
    have hk : mKnown S' T.K p = (false, 0) := by unfold mKnown; rw [if_pos (.inl ho)]
    exact ⟨hk, by unfold mMade; rw [hk, if_neg (by simp)]⟩
  have hq : T.S = S → qAlloc T 2 3 0 = ({ T with S := S', K := mMade S' T.K p }, p, (mKnown S' T.K p).2) := fun e => by
    unfold qAlloc
    rw [e, hr, if_pos rfl]
  cases H with
  | mark ph hS M al lf =>
    have hk : mKnown S' T.K p = (true, 0) := by
      unfold mKnown
      rw [if_neg (fun h => h.elim (fun h => by rw [M.on] at h; cases h) fun h => by omega), if_pos hpo]
    have hmd : mMade S' T.K p = { mSee T.K p with greys := keepP (fun x => x == p) T.K.greys } := by unfold mMade; rw [hk, if_pos rfl]
    rw [hq hS, hk]
    have al' : ∀ x, mIs S' x = true → (mMade S' T.K p).seen x = true := fun x hx => by
      rw [hmd]
      show (x == p || T.K.seen x) = true
      rw [Bool.or_eq_true, beq_iff_eq]
      exact (inv' x hx).imp id (al x)
    have hun : uns S' (mMade S' T.K p) = 0 := by
      unfold uns
      rw [keep_none _ _ fun x hx => al' x ((mis_all A.inv.toInv0 x).2 hx)]
      rfl
    have hgl : (mMade S' T.K p).greys.length ≤ T.K.greys.length := by
      rw [hmd]
      exact List.length_filter_le _ _
    refine ⟨rfl, ⟨_, All1.mark (T := { T with S := S', K := mMade S' T.K p }) ph rfl ?_ al' lf, ?_⟩, rfl⟩
    · rw [hmd]
      refine ⟨M.on, fun x hx => ?_, fun x hx => ?_⟩
      · have hx : (x == p || T.K.seen x) = true := hx
        rw [Bool.or_eq_true, beq_iff_eq] at hx
        exact hx.elim (fun e => e ▸ hpo) fun h => mono x (M.obj x h)
      · show (x == p || T.K.seen x) = true
        rw [M.sn x (List.mem_filter.1 hx).1]
        simp
    · show uns S' (mMade S' T.K p) + (mMade S' T.K p).greys.length + 3 ≤ _
      omega
  | sweep ph hS on lf =>
    obtain ⟨e1, e2⟩ := offc on
    rw [hq hS, e1, e2]
    exact ⟨rfl, ⟨1, All1.sweep ph rfl on lf, Nat.le_refl _⟩, rfl⟩
  | off ph hS on lf =>
    obtain ⟨e1, e2⟩ := offc on
    rw [hq hS, e1, e2]
    exact ⟨rfl, ⟨0, All1.off ph rfl on lf, Nat.le_refl _⟩, rfl⟩
theorem all1_begin (I : Inv S) (C : Clo S) (hS : T.S = S) (hp : T.ph = 0) (ho : T.K.on = false) (hl : T.left = []) : (qBegin T (sAll S)).2 = 0 ∧ (∃ r, r ≤ (sAll S).length + 3 ∧ All1 S (qBegin T (sAll S)).1 r) ∧ (qBegin T (sAll S)).1.cyc = T.cyc := by
  subst hS
  have hgd : ∀ x ∈ sAll T.S, Good T.S x := fun x hx => .inr ((mis_all I.toInv0 x).2 hx)
  obtain ⟨e0, e1, _⟩ := cyc_begin I.toInv0 C hp ho (sAll T.S) hgd
  obtain ⟨M, u⟩ := fold_shade I.toInv0 (sAll T.S) mStart mi_start hgd
  refine ⟨e0, ?_, by rw [e1]⟩
  rw [e1]
  have hu := uns_start I.toInv0
  refine ⟨_, ?_, All1.mark (T := { T with K := (sAll T.S).foldl (mShade T.S) mStart, ph := 1 }) rfl rfl M (fun p hx => ?_) hl⟩
  · show uns T.S ((sAll T.S).foldl (mShade T.S) mStart) + ((sAll T.S).foldl (mShade T.S) mStart).greys.length + 3 ≤ _
    rw [u, hu]
    show (sAll T.S).length + ([] : List Int).length + 3 ≤ _
    simp
  · exact (fold_seen I.toInv0 _ mStart mi_start hgd p).2 (.inr ⟨(mis_all I.toInv0 p).1 hx, by have := mis_pos I.toInv0 hx; omega⟩)
end
theorem all1_run {S : HS} {T : SS} {r : Nat} (I : Inv S) (C : Clo S) (A : All1 S T r) (B : Int) (hB : B ≤ 9000) (hc : 0 ≤ T.cyc ∧ T.cyc + r ≤ B) (junk : Int) :
    ∃ n, Ends T junk n ∧ (qIt T junk n).S = S ∧ (qIt T junk n).ph = 0 ∧ (qIt T junk n).K.on = false ∧ (qIt T junk n).left = [] ∧ 0 ≤ (qIt T junk n).cyc ∧ (qIt T junk n).cyc ≤ B := by
  obtain ⟨n, E, r', A', hc'⟩ := ends_run (fun T r => All1 S T r ∧ 0 ≤ T.cyc ∧ T.cyc + r ≤ B) junk (fun T r ⟨A, c0, c1⟩ => by
    refine ⟨A.sok ⟨c0, by omega⟩, ?_⟩
    by_cases h0 : T.ph = 0
    · exact .inl h0
    · obtain ⟨e, r', A', _, h2, h3, h4⟩ := A.step I.toInv0 C junk
      exact .inr ⟨h0, e, r', h2 h0, A', by omega, by omega⟩) r T ⟨A, hc⟩
  refine ⟨n, E, A'.s, E.off, ?_, ?_, hc'.1, by omega⟩
  · cases A' with
    | mark ph hS M al lf => exact absurd E.off (by rw [ph]; omega)
    | sweep ph hS on lf => exact on
    | off ph hS on lf => exact on
  · cases A' <;> assumption
/-! All but one are seen: that one is freed. -/
inductive All2 (S S' Sf : HS) (p : Int) (T : SS) : Nat → Prop
  | mark (ph : T.ph = 1) (hS : T.S = S') (M : MI S' T.K) (sn : ∀ x, T.K.seen x = true ↔ x ∈ sAll S) (lf : T.left = []) : All2 S S' Sf p T (uns S' T.K + T.K.greys.length + 4)
  | sweep1 (ph : T.ph = 2) (hS : T.S = S') (on : T.K.on = false) (lf : T.left = [p]) : All2 S S' Sf p T 2
  | sweep (ph : T.ph = 2) (hS : T.S = Sf) (on : T.K.on = false) (lf : T.left = []) : All2 S S' Sf p T 1
  | off (ph : T.ph = 0) (hS : T.S = Sf) (on : T.K.on = false) (lf : T.left = []) : All2 S S' Sf p T 0
section
variable {S S' Sf : HS} {T : SS} {r : Nat} {p : Int}
theorem ins_filter (o : Int × Int × Int) : ∀ l : List (Int × Int × Int), (∀ x ∈ l, x.1 ≠ o.1) → (insO o l).filter (fun x => !(x.1 == o.1)) = l
  | [], _ => by simp [insO]
  | y :: l, h => by
    have hy : (!(y.1 == o.1)) = true := by simp [h y (by simp)]
    have hl := fun x hx => h x (List.mem_cons_of_mem _ hx)
    have hfl : l.filter (fun x => !(x.1 == o.1)) = l := List.filter_eq_self.2 fun x hx => by simp [hl x hx]
    unfold insO
    split
    · rw [List.filter_cons_of_neg (by simp), List.filter_cons_of_pos (p := fun x : Int × Int × Int => !(x.1 == o.1)) hy, hfl]
    · rw [List.filter_cons_of_pos (p := fun x : Int × Int × Int => !(x.1 == o.1)) hy, ins_filter o l hl]
theorem free_made (I : Inv S) (A : Alloced S S' 2 3 0 p) (junk : Int) : (sFree S' p junk).2 = 0 ∧ sAll (sFree S' p junk).1 = sAll S ∧ (sSize (sFree S' p junk).1 p).2.2 = false := by
  have ho : ((p, 2, 3) : Int × Int × Int) ∈ S'.objs := by rw [A.objs, ins_mem]; exact .inl rfl
  obtain ⟨e1, _, e3⟩ := free_ok A.inv.toInv0 ho junk
  have e4 : (sFree S' p junk).1.objs = S.objs := by
    rw [show (sFree S' p junk).1.objs = S'.objs.filter (fun x => !(x.1 == p)) from e3, A.objs]
    exact ins_filter (p, 2, 3) S.objs A.no
  refine ⟨e1, by unfold sAll; rw [e4], ?_⟩
  rw [size_none (fun o ho => A.no o (by rw [← e4]; exact ho))]
theorem made_fld (I : Inv S) (C : Clo S) (A : Alloced S S' 2 3 0 p) {x : Int} (hx : x ∈ sAll S) {f : Nat} (hf : f < 2) : fldA S' x f = 0 ∨ fldA S' x f ∈ sAll S := by
  have hg := C.good I.toInv0 ((mis_all I.toInv0 x).2 hx) hf
  unfold fldA at *
  rw [A.words, fillW_get]
  split
  · exact .inl rfl
  · exact hg.imp id fun h => (mis_all I.toInv0 _).1 h
theorem all_made (A : Alloced S S' 2 3 0 p) (x : Int) : x ∈ sAll S' ↔ x = p ∨ x ∈ sAll S := by
  unfold sAll
  rw [List.mem_map, List.mem_map]
  constructor
  · rintro ⟨o, ho, rfl⟩
    rw [A.objs, ins_mem] at ho
    rcases ho with rfl | h
    · exact .inl rfl
    · exact .inr ⟨o, h, rfl⟩
  · rintro (rfl | ⟨o, ho, rfl⟩)
    · exact ⟨_, by rw [A.objs, ins_mem]; exact .inl rfl, rfl⟩
    · exact ⟨o, by rw [A.objs, ins_mem]; exact .inr ho, rfl⟩
theorem keep_one (A : Alloced S S' 2 3 0 p) (sn : Int → Bool) (h : ∀ x, sn x = true ↔ x ∈ sAll S) : keepP sn (sAll S') = [p] := by
  have hn : (sAll S').Nodup := all_nodup A.inv.toInv0
  have hpn : sn p = false := by
    cases e : sn p with
    | false => rfl
    | true =>
      obtain ⟨o, ho, e2⟩ := List.mem_map.1 ((h p).1 e)
      exact absurd e2 (A.no o ho)
  have hm : ∀ x ∈ keepP sn (sAll S'), x = p := fun x hx => by
    obtain ⟨h1, h2⟩ := List.mem_filter.1 hx
    rcases (all_made A x).1 h1 with e | h3
    · exact e
    · rw [(h x).2 h3] at h2
      cases h2
  have hp : p ∈ keepP sn (sAll S') := List.mem_filter.2 ⟨(all_made A p).2 (.inl rfl), by simp [hpn]⟩
  have hnk : (keepP sn (sAll S')).Nodup := List.Nodup.sublist List.filter_sublist hn
  generalize keepP sn (sAll S') = l at hm hp hnk
  match l, hm, hp, hnk with
  | [x], hm, _, _ => rw [hm x (by simp)]
  | x :: y :: l, hm, _, hnk =>
    rw [List.nodup_cons] at hnk
    exact absurd (by rw [hm x (by simp), hm y (by simp)]; simp) hnk.1
theorem All2.sok (I : Inv S') (hp : 0 ≤ p ∧ p ≤ 4096) (A : All2 S S' Sf p T r) (hc : 0 ≤ T.cyc ∧ T.cyc + r ≤ 10000) : SOk T := by
  cases A with
  | mark ph hS M sn lf => exact ⟨.inr (.inl ⟨ph, M.on⟩), by omega, by rw [lf]; simp, by rw [lf]; simp⟩
  | sweep1 ph hS on lf => exact ⟨.inr (.inr ph), by omega, by rw [lf]; intro x hx; simp at hx; omega, by rw [lf]; simp⟩
  | sweep ph hS on lf => exact ⟨.inr (.inr ph), by omega, by rw [lf]; simp, by rw [lf]; simp⟩
  | off ph hS on lf => exact ⟨.inl ph, by omega, by rw [lf]; simp, by rw [lf]; simp⟩
theorem all2_run (I : Inv S) (C : Clo S) (A : Alloced S S' 2 3 0 p) (hS : T.S = S') (hp : T.ph = 0) (ho : T.K.on = false) (hl : T.left = []) (hc : 0 ≤ T.cyc ∧ T.cyc ≤ 5000) (hn : (sAll S).length ≤ 4096) (junk : Int) :
    (qBegin T (sAll S)).2 = 0 ∧ ∃ n, Ends (qBegin T (sAll S)).1 junk n ∧ (qIt (qBegin T (sAll S)).1 junk n).S = (sFree S' p junk).1 := by
  have C' := alloc_clo I C A
  have I' := A.inv
  have hpo : mIs S' p = true := (mis_all I'.toInv0 p).2 ((all_made A p).2 (.inl rfl))
  have hpb := mis_pos I'.toInv0 hpo
  have hgd : ∀ x ∈ sAll S, Good S' x := fun x hx => .inr ((mis_all I'.toInv0 x).2 ((all_made A x).2 (.inr hx)))
  subst hS
  obtain ⟨e0, e1, _⟩ := cyc_begin I'.toInv0 C' hp ho (sAll S) hgd
  obtain ⟨M, u⟩ := fold_shade I'.toInv0 (sAll S) mStart mi_start hgd
  have hu := uns_start I'.toInv0
  have hl2 := A.all_len
  refine ⟨e0, ?_⟩
  rw [e1]
  have hsn : ∀ x, ((sAll S).foldl (mShade T.S) mStart).seen x = true ↔ x ∈ sAll S := fun x => by
    rw [fold_seen I'.toInv0 _ mStart mi_start hgd x]
    constructor
    · rintro (h | h)
      · cases h
      · exact h.1
    · intro h
      have := mis_pos I'.toInv0 ((mis_all I'.toInv0 x).2 ((all_made A x).2 (.inr h)))
      exact .inr ⟨h, by omega⟩
  have hcy : T.cyc + ((uns T.S ((sAll S).foldl (mShade T.S) mStart) + ((sAll S).foldl (mShade T.S) mStart).greys.length + 4 : Nat) : Int) ≤ 10000 := by
    have u2 : uns T.S ((sAll S).foldl (mShade T.S) mStart) + ((sAll S).foldl (mShade T.S) mStart).greys.length = (sAll T.S).length := by rw [u, hu]; rfl
    omega
  obtain ⟨n, E, r', A', hc'⟩ := ends_run (fun T1 r => All2 S T.S (sFree T.S p junk).1 p T1 r ∧ 0 ≤ T1.cyc ∧ T1.cyc + r ≤ 10000) junk (fun T1 r ⟨A1, c0, c1⟩ => by
    refine ⟨A1.sok I' ⟨by omega, hpb.2⟩ ⟨c0, c1⟩, ?_⟩
    cases A1 with
    | mark ph hS M1 sn lf =>
      refine .inr ⟨by omega, ?_⟩
      rw [← hS] at M1 c1
      rcases hg : T1.K.greys with _ | ⟨y, gs⟩
      · rw [step_end ph M1 hg]
        have hk : keepP T1.K.seen (sAll T1.S) = [p] := by rw [hS]; exact keep_one A _ sn
        exact ⟨rfl, 2, by omega, All2.sweep1 rfl hS rfl hk, c0, by simp only; omega⟩
      · rw [step_mark (by rw [hS]; exact I'.toInv0) (by rw [hS]; exact C') ph M1 hg]
        obtain ⟨_, M', u'⟩ := mi_step (by rw [hS]; exact I'.toInv0) (by rw [hS]; exact C') M1 hg
        have ns := next_seen (by rw [hS]; exact I'.toInv0) (by rw [hS]; exact C') M1 hg
        have hy : y ∈ sAll S := (sn y).1 (M1.sn y (by rw [hg]; simp))
        have M2 : MI T.S (nextK T1.S T1.K y gs) := by rw [← hS]; exact M'
        have sn2 : ∀ x, (nextK T1.S T1.K y gs).seen x = true ↔ x ∈ sAll S := fun x => ⟨fun hx => by
          have hx0 := mis_pos (by rw [hS]; exact I'.toInv0) (M'.obj x hx)
          rcases ns.2 x hx with h | h | h
          · exact (sn x).1 h
          · rw [hS] at h
            exact (made_fld I C A hy (f := 0) (by omega)).elim (fun e => by omega) fun h2 => by rw [h]; exact h2
          · rw [hS] at h
            exact (made_fld I C A hy (f := 1) (by omega)).elim (fun e => by omega) fun h2 => by rw [h]; exact h2, fun hx => ns.1 x ((sn x).2 hx)⟩
        rw [hS] at u' c1
        rw [hg] at u' c1
        refine ⟨rfl, _, ?_, All2.mark (T := { T1 with K := nextK T1.S T1.K y gs }) ph hS M2 sn2 lf, c0, ?_⟩
        · rw [hS]
          simp only
          omega
        · rw [hS]
          simp only
          omega
    | sweep1 ph hS on lf =>
      refine .inr ⟨by omega, ?_⟩
      rw [step_sweep1 ph lf, hS]
      exact ⟨(free_made I A junk).1, 1, by omega, All2.sweep ph rfl on rfl, c0, by simp only; omega⟩
    | sweep ph hS on lf =>
      refine .inr ⟨by omega, ?_⟩
      rw [step_sweep0 ph lf]
      exact ⟨rfl, 0, by omega, All2.off rfl hS on lf, by simp only; omega, by simp only; omega⟩
    | off ph hS on lf => exact .inl ph) _ { T with K := (sAll S).foldl (mShade T.S) mStart, ph := 1 } ⟨All2.mark rfl rfl M hsn hl, hc.1, hcy⟩
  · refine ⟨n, E, ?_⟩
    cases A' with
    | mark ph hS M al lf => exact absurd E.off (by rw [ph]; omega)
    | sweep1 ph hS on lf => exact absurd E.off (by rw [ph]; omega)
    | sweep ph hS on lf => exact hS
    | off ph hS on lf => exact hS
end
section
variable {w0 : W0} {w w' w1 : World} {q s h m : Nat} {T T' : SS} {D D' : DS}
set_option maxHeartbeats 6400000 in
set_option maxRecDepth 100000 in
/-- Full at a list that is kept. -/
theorem ls_fullQ (H : LS w0 w s h m T) (vr : Value) (l : List Int) (hv : Rd i64e w vr l) (hl : l.length ≤ 4096) (hbd : ∀ x ∈ l, -9223372036854775808 ≤ x ∧ x ≤ 9223372036854775807) (hQ : ∀ b, vr.ownBlock = some b → w0.Q b)
    (junk : Int) (hx : -9223372036854775808 ≤ junk ∧ junk ≤ 9223372036854775807) (n1 n2 : Nat) {T1 T2 T3 : SS} {a1 a3 : List Int} (E1 : Ends T junk n1) (h1 : qIt T junk n1 = T1) (h2 : qBegin T1 l = (T2, 0)) (E2 : Ends T2 junk n2) (h3 : qIt T2 junk n2 = T3) (ha1 : sAll T1.S = a1) (ha3 : sAll T3.S = a3) (hn1 : a1.length ≤ 4096) (hn3 : a3.length ≤ 4096) :
    Calls Tryz.prog 26 #[.pointer (some ⟨s, 0, none⟩), vr, .int .i64 junk] w fun e w' => e = .returned (.tuple #[.int .i64 ((a1.length : Int) - a3.length), .int .i64 0]) ∧ LS w0 w' s h m T3 := by
  have c0 := H.cells.1
  have HG := Lib.hid (ls_good H)
  have HF := Lib.hid (ls_finish H junk n1 E1 hx)
  rw [h1] at HF
  have hrd : Hid (∀ {w' : World} {T' : SS}, LS w0 w' s h m T' → Rd i64e w' vr l) := Lib.hid fun h' => hv.same fun hp b e hlt => (h'.keepsQ (hQ b e)).2.trans (H.keepsQ (hQ b e)).2.symm
  have hnf : Hid (∀ b, vr.ownBlock = some b → ¬ w0.free b) := Lib.hid fun b e hfr => hfr.2 (hQ b e)
  obtain ⟨A, c, rfl, -⟩ := hv.len
  replace hbd := Lib.hid hbd
  replace hx := Lib.hid hx
  replace h2 := Lib.hid h2
  replace h3 := Lib.hid h3
  replace E1 := Lib.hid E1
  replace E2 := Lib.hid E2
  replace ha1 := Lib.hid ha1
  replace ha3 := Lib.hid ha3
  clear H hv hQ h1
  go_enter Tryz.func26, Tryz.ntmps26
  go_wp2_with fail
  refine HG.out.mono ?_
  rintro e _ ⟨rfl, rfl⟩
  clear HG
  go_wp2_with fail
  refine HF.out.mono ?_
  rintro e w2 ⟨rfl, H2⟩
  have c0 := H2.cells.1
  replace H2 := Lib.hid H2
  clear HF
  go_wp2_with fail
  refine (ls_allH H2.out ha1.out).mono ?_
  rintro e w3 ⟨A3, c3, rfl, _, _, _, H3⟩
  replace H3 := Lib.hid H3
  clear H2
  go_wp2_with fail
  refine (ls_beginQ H3.out _ l (hrd.out H3.out) hl hbd.out hnf.out).mono ?_
  rw [h2.out]
  rintro e w4 ⟨rfl, H4⟩
  replace H4 := Lib.hid H4
  clear H3
  go_wp2_with fail
  have HF := ls_finish H4.out junk n2 E2.out hx.out
  rw [h3.out] at HF
  refine HF.mono ?_
  rintro e w5 ⟨rfl, H5⟩
  have c0 := H5.cells.1
  replace H5 := Lib.hid H5
  clear H4 HF
  go_wp2_with fail
  refine (ls_allH H5.out ha3.out).mono ?_
  rintro e w6 ⟨A6, c6, rfl, _, _, _, H6⟩
  replace H6 := Lib.hid H6
  have hw : IntKind.i64.wrap ((a1.length : Int) - a3.length) = (a1.length : Int) - a3.length := by rw [IntKind.wrap_i64]; omega
  clear H5
  go_wp2_with fail
  go_ret2
  exact ⟨rfl, H6.out⟩
theorem lx_beginQ (H : LX w0 w q s h m T D) (vr : Value) (l : List Int) (hv : Rd i64e w vr l) (hl : l.length ≤ 4096) (hbd : ∀ x ∈ l, -9223372036854775808 ≤ x ∧ x ≤ 9223372036854775807) (hQ : ∀ b, vr.ownBlock = some b → w0.Q b) :
    Calls Tryz.prog 18 #[.pointer (some ⟨s, 0, none⟩), vr] w fun e w' => e = .returned (.int .i64 (qBegin T l).2) ∧ LX w0 w' q s h m (qBegin T l).1 D :=
  H.callQ (P := fun e _ => e = .returned (.int .i64 (qBegin T l).2)) (T' := (qBegin T l).1) fun v0 hv0 L => ls_beginQ L vr l hv hl hbd fun b e hfr => hfr.2 (hv0 b (hQ b e))
theorem lx_fullQ (H : LX w0 w q s h m T D) (vr : Value) (l : List Int) (hv : Rd i64e w vr l) (hl : l.length ≤ 4096) (hbd : ∀ x ∈ l, -9223372036854775808 ≤ x ∧ x ≤ 9223372036854775807) (hQ : ∀ b, vr.ownBlock = some b → w0.Q b)
    (junk : Int) (hx : -9223372036854775808 ≤ junk ∧ junk ≤ 9223372036854775807) (n1 n2 : Nat) {T1 T2 T3 : SS} {a1 a3 : List Int} (E1 : Ends T junk n1) (h1 : qIt T junk n1 = T1) (h2 : qBegin T1 l = (T2, 0)) (E2 : Ends T2 junk n2) (h3 : qIt T2 junk n2 = T3) (ha1 : sAll T1.S = a1) (ha3 : sAll T3.S = a3) (hn1 : a1.length ≤ 4096) (hn3 : a3.length ≤ 4096) :
    Calls Tryz.prog 26 #[.pointer (some ⟨s, 0, none⟩), vr, .int .i64 junk] w fun e w' => e = .returned (.tuple #[.int .i64 ((a1.length : Int) - a3.length), .int .i64 0]) ∧ LX w0 w' q s h m T3 D :=
  H.callQ (P := fun e _ => e = .returned (.tuple #[.int .i64 ((a1.length : Int) - a3.length), .int .i64 0])) fun v0 hv0 L => ls_fullQ L vr l hv hl hbd (fun b e => hv0 b (hQ b e)) junk hx n1 n2 E1 h1 h2 E2 h3 ha1 ha3 hn1 hn3
theorem lx_all2 (H : LX w0 w q s h m T D) : Calls Tryz.prog 17 #[.pointer (some ⟨h, 0, none⟩)] w fun e w' => ∃ A c, e = .returned (.slice A (sAll T.S).length c) ∧ Rd i64e w' (.slice A (sAll T.S).length c) (sAll T.S) ∧ (∀ b, (Value.slice A (sAll T.S).length c).ownBlock = some b → w.heap.size ≤ b ∧ b < w'.heap.size) ∧ Below w.heap.size w w' := by
  obtain ⟨v0, F, Dm, G, W, hF, b⟩ := H.ls
  refine (all_s h T.S F w W.mm.hp).mono ?_
  rintro e w' ⟨v, rfl, ho, hb⟩
  obtain ⟨A, c, rfl, _⟩ := own_form ho
  exact ⟨A, c, rfl, Rd.of_own ho, fun b e => ho.lt b e, hb⟩
theorem lx_size (H : LX w0 w q s h m T D) (p : Int) (hp : -9223372036854775808 ≤ p ∧ p ≤ 9223372036854775807) :
    Calls Tryz.prog 25 #[.pointer (some ⟨h, 0, none⟩), .int .i64 p] w fun e w' => e = .returned (.tuple #[.int .i64 (sSize T.S p).1, .int .u8 (sSize T.S p).2.1, .bool (sSize T.S p).2.2]) ∧ LX w0 w' q s h m T D :=
  H.call (P := fun e _ => e = .returned (.tuple #[.int .i64 (sSize T.S p).1, .int .u8 (sSize T.S p).2.1, .bool (sSize T.S p).2.2])) fun v0 L => ls_sizeH L rfl hp
theorem lx_fits (H : LX w0 w q s h m T D) (n : Int) : Calls Tryz.prog 29 #[.pointer (some ⟨h, 0, none⟩), .int .i64 n] w fun e w' => e = .returned (.bool (sFits T.S n)) ∧ LX w0 w' q s h m T D :=
  H.call (P := fun e _ => e = .returned (.bool (sFits T.S n))) fun v0 L => ls_fitsH L rfl
theorem lx_alloc (H : LX w0 w q s h m T D) : Calls Tryz.prog 22 #[.pointer (some ⟨s, 0, none⟩), .int .i64 2, .int .u8 3, .int .i64 0] w fun e w' => e = .returned (.tuple #[.int .i64 (qAlloc T 2 3 0).2.1, .int .i64 (qAlloc T 2 3 0).2.2]) ∧ LX w0 w' q s h m (qAlloc T 2 3 0).1 D := by
  have hpb := alloc_bd H.inv
  exact H.call (P := fun e _ => e = .returned (.tuple #[.int .i64 (qAlloc T 2 3 0).2.1, .int .i64 (qAlloc T 2 3 0).2.2])) fun v0 L => ls_alloc L 2 3 0 (by omega) (by omega) hpb
end
end Go.Proofs.YtcaboknbdamlhaaGreatDoor
namespace Go.Proofs.YtcaboknbdamlhaaGreatDoor
open Go.RowKit Go.Shelf
set_option maxHeartbeats 12800000 in
set_option maxRecDepth 100000 in
theorem smade_ok (v0 : Value) (sp : Int) (acts : List SAct) (w : World) (hra : RdC 6 sactC w v0 acts) (hba : ∀ a ∈ acts, SActOk w a) (hsp : 0 ≤ sp ∧ sp ≤ 255) (hT : TabW w) :
    Calls Tryz.prog 8 #[v0, .int .u8 sp] w fun e w' => e = .returned (.bool true) ∧ Below w.heap.size w w' := by
  obtain ⟨hsp0, hsp1⟩ := hsp
  obtain ⟨m12, hm12⟩ : ∃ m : Nat, sp % 12 = (m : Int) := ⟨(sp % 12).toNat, by omega⟩
  have wsp : IntKind.i64.wrap sp = sp := by rw [IntKind.wrap_i64]; omega
  have tsp : sp.tmod 12 = (m12 : Int) := (Int.tmod_eq_emod_of_nonneg hsp0).trans hm12
  have hm11 : m12 ≤ 11 := by omega
  replace wsp := Lib.hid wsp
  replace tsp := Lib.hid tsp
  replace hm12 := Lib.hid hm12
  have HA := Lib.hid (salive_ok w hT)
  replace hT := Lib.hid hT
  have RA := Lib.hid hra
  have HB := Lib.hid hba
  obtain ⟨Aa, ca, rfl, hlc, hcm, -⟩ := hra.len
  clear hra hba
  go_enter Tryz.func8, Tryz.ntmps8
  go_wp2_with fail
  refine HA.out.mono ?_
  rintro e w1 ⟨rfl, b1⟩
  clear HA
  go_wp2_with fail
  refine (lx_begin 8 w1 (by omega) (by omega) (hT.out.below b1)).mono ?_
  rintro e w2 ⟨q, s, h, m, rfl, H2⟩
  have b2 := b1.trans (Below.mono H2.b b1.size)
  have b12 := Lib.hid H2.b
  replace H2 := Lib.hid H2
  clear hT
  go_wp2_with fail
  refine (sheavy_w _ acts w2 (RA.out.below b2) (fun a ha => (HB.out a ha).below b2)).mono ?_
  rintro e w3 ⟨rfl, b3⟩
  have b3w := b2.trans (Below.mono b3 b2.size)
  have H3 := Lib.hid (H2.out.below b3)
  clear H2
  cases hh : sHeavy acts with
  | true =>
    go_wp2_with fail
    go_ret
    exact ⟨rfl, b3w⟩
  | false =>
  have O3 := Lib.hid (off_new 8)
  replace RA : Hid (RdC 6 sactC w1 (.slice Aa acts.length ca) acts) := Lib.hid (RA.out.below b1)
  replace HB : Hid (∀ a ∈ acts, SActOk w1 a) := Lib.hid fun a ha => (HB.out a ha).below b1
  replace b1 := Lib.hid b1
  have hal : acts.length ≤ 120 := by
    unfold sHeavy at hh
    rw [Bool.or_eq_false_iff, decide_eq_false_iff_not] at hh
    omega
  replace hh := Lib.hid hh
  clear b2 b3 b3w b12
  go_wp2_with fail
  go_loopw [33] (fun i wr => ∃ (k : Nat) (T : SS) (D : DS), k ≤ acts.length ∧ i = .int .i64 k ∧ Hid (LX (ofW w1) wr q s h m T D) ∧ Hid (OffX T D)) (fun i _ => acts.length - (intOf i).toNat)
  case atStart => exact ⟨0, _, _, by omega, rfl, H3, O3⟩
  case round =>
    clear H3 O3
    obtain ⟨k, T, D, hk, rfl, H1, O1⟩ := hrel
    by_cases hlt : k < acts.length
    · have t0 : (k : Int) < (acts.length : Int) := by omega
      obtain ⟨b, o, rfl, _, hc⟩ := (RA.out.below H1.out.b).at_ hlt
      obtain ⟨x, hx⟩ : ∃ x, acts[k] = x := ⟨_, rfl⟩
      have hok := (HB.out _ (List.getElem_mem hlt))
      rw [hx] at hc hok
      have hbd := hok.bd
      obtain ⟨kind, xa, xb, xk, rv, rl, xx⟩ := x
      have c0 : wr.cell? ⟨b, o + k * 6, none⟩ = some (.int .u8 kind) := hc 0 _ rfl
      have c1 : wr.cell? ⟨b, o + k * 6 + 1, none⟩ = some (.int .u8 xa) := hc 1 _ rfl
      have c2 : wr.cell? ⟨b, o + k * 6 + 2, none⟩ = some (.int .u8 xb) := hc 2 _ rfl
      have c3 : wr.cell? ⟨b, o + k * 6 + 3, none⟩ = some (.int .u8 xk) := hc 3 _ rfl
      have c4 : wr.cell? ⟨b, o + k * 6 + 4, none⟩ = some (slE rv) := hc 4 _ rfl
      have c5 : wr.cell? ⟨b, o + k * 6 + 5, none⟩ = some (.int .i64 xx) := hc 5 _ rfl
      have kd := hbd.kind
      dsimp only at kd
      replace hbd := Lib.hid hbd
      replace hok := Lib.hid hok
      clear hc hx
      go_wp2_with (first
        | (refine wpList_new rfl (.alloc 30) rfl wr.heap.size rfl 30 #[.int .u8 0, .int .u8 0, .int .u8 0, .int .u8 0, .slice none 0 0, .int .i64 0] (by kernel_rfl) ?_; intro w1 hs1 hb1 hB1; have HB1 := Lib.hid hB1; clear hB1)
        | (refine wpList_store_blk rfl 30 (.tmp 8) (.tmp 36) rfl wr.heap.size rfl #[.int .u8 kind, .int .u8 xa, .int .u8 xb, .int .u8 xk, slE rv, .int .i64 xx] rfl 30 #[.int .u8 0, .int .u8 0, .int .u8 0, .int .u8 0, .slice none 0 0, .int .i64 0] HB1.out sact_size rfl (by simp [Value.oneCell']) ?_; intro w2 hB2 hg2 hs2; refine stop_here ?_))
      have hb2 : Below wr.heap.size wr w2 := hb1.grown hg2 hb1.size (fun k hk => by cases hk; exact Nat.le_refl _)
      have H2 := Lib.hid (H1.out.below hb2)
      have v0 : w2.cell? ⟨wr.heap.size, 0, none⟩ = some (.int .u8 kind) := hB2.cell 0
      obtain ⟨gA, hgA⟩ : ∃ gA, gA = wr.heap.size := ⟨_, rfl⟩
      rw [← hgA] at hB2 v0 ⊢
      replace hgA := Lib.hid hgA
      replace hB2 := Lib.hid hB2
      clear HB1 hg2 hs2 hs1 hb1 hb2 H1 c0 c1 c2 c3 c4 c5
      refine go_on ?_
      by_cases h8 : kind % 8 = 0
      · go_wp2_with fail
        go_roundw
        case rel => exact ⟨k + 1, T, D, by omega, by go_num, H2, O1⟩
        case measure => simp [intOf]; omega
      · have HD := Lib.hid (sdoes_off H2.out O1.out kind xa xb xk rv xx hbd.out h8)
        go_wp2_with (refine wpList_load_blk rfl 30 (.tmp 8) rfl gA rfl 30 #[.int .u8 kind, .int .u8 xa, .int .u8 xb, .int .u8 xk, slE rv, .int .i64 xx] hB2.out _ Tryz.underlying30 rfl sact_size ?_)
        refine HD.out.mono ?_
        rintro e w3 ⟨bb, T3, D3, rfl, H3, O3⟩
        replace H3 := Lib.hid H3
        replace O3 := Lib.hid O3
        clear HD H2 O1 hB2 v0
        go_wp2_with fail
        go_roundw
        case rel => exact ⟨k + 1, T3, D3, by omega, by go_num, H3, O3⟩
        case measure => simp [intOf]; omega
    · obtain rfl : k = acts.length := by omega
      have c0 := H1.out.cells.1
      have I := H1.out.inv
      have C := Lib.hid O1.out.clo
      have hn4 : (sAll T.S).length ≤ 4096 := by
        have := I.toInv0.objs_len
        rw [all_len]
        exact this
      have HAl := Lib.hid (lx_all2 H1.out)
      obtain ⟨eb0, ⟨r0, hr0, A0⟩, eb2⟩ := all1_begin I C.out (T := T) rfl O1.out.ph O1.out.on O1.out.lf
      have hcy0 := O1.out.cy
      replace I := Lib.hid I
      replace A0 := Lib.hid A0
      replace eb0 := Lib.hid eb0
      obtain ⟨S, hS⟩ : ∃ S, S = T.S := ⟨_, rfl⟩
      rw [← hS] at HAl I C A0 eb0 hn4 hr0 eb2
      replace hS := Lib.hid hS
      rename World => w4
      go_wp2_with fail
      refine (lx_heap H1.out).mono ?_
      rintro e _ ⟨rfl, rfl⟩
      go_wp2_with fail
      refine HAl.out.mono ?_
      rintro e w5 ⟨A5, c5, rfl, hrd5, hown5, b5⟩
      have hfr5 := fun b e => (hown5 b e).1
      have hlt5 := Lib.hid fun b e => (hown5 b e).2
      have HG := Lib.hid (H1.out.guard b5)
      have c0 := HG.out.cells.1
      have HB2 := lx_beginQ HG.out (.slice A5 (sAll S).length c5) (sAll S) hrd5 hn4 (fun x hx => by
        have := mis_pos I.out.toInv0 ((mis_all I.out.toInv0 x).2 hx)
        omega) (fun b e => .inr ⟨hfr5 b e, hlt5.out b e⟩)
      rw [eb0.out] at HB2
      replace HB2 := Lib.hid HB2
      replace hrd5 := Lib.hid hrd5
      replace hfr5 := Lib.hid hfr5
      obtain ⟨T1, hT1⟩ : ∃ T1, T1 = (qBegin T (sAll S)).1 := ⟨_, rfl⟩
      rw [← hT1] at HB2 A0 eb2
      replace b5 := Lib.hid b5
      clear HAl hT1 eb0 hown5
      go_wp2_with fail
      refine HB2.out.mono ?_
      rintro e w6 ⟨rfl, H6⟩
      have tsp2 := tsp.out
      have wsp2 := wsp.out
      have INV6 : Hid (∃ (T2 : SS) (r : Nat), LX ((ofW w1).guard w4 w5) w6 q s h m T2 D ∧ All1 S T2 r ∧ 0 ≤ T2.cyc ∧ T2.cyc + r ≤ 4200) := Lib.hid ⟨T1, r0, H6, A0.out, by omega, by omega⟩
      clear HB2 H6 A0 HG
      go_wp2_with fail
      go_loopw [62] (fun i wz => ∃ k : Nat, k ≤ m12 ∧ i = .int .i64 k ∧ Hid (∃ (T2 : SS) (r : Nat), LX ((ofW w1).guard w4 w5) wz q s h m T2 D ∧ All1 S T2 r ∧ 0 ≤ T2.cyc ∧ T2.cyc + r ≤ 4200)) (fun i _ => m12 - (intOf i).toNat)
      case atStart => exact ⟨0, by omega, rfl, INV6⟩
      case round =>
        clear INV6
        obtain ⟨k2, hk2, rfl, hr⟩ := hrel
        by_cases hlt2 : k2 < m12
        · have tk2 : (k2 : Int) < (m12 : Int) := by omega
          obtain ⟨T2, r, H2, A2, c2, d2⟩ := hr.out
          have hst := lx_step H2 (A2.sok ⟨c2, by omega⟩) 1 (by omega)
          obtain ⟨e0, r3, A3, _, _, h3, h4⟩ := A2.step I.out.toInv0 C.out 1
          rw [e0, if_pos rfl] at hst
          have c0 := H2.cells.1
          obtain ⟨T3, hT3⟩ : ∃ T3, T3 = (qStep T2 1).1 := ⟨_, rfl⟩
          rw [← hT3] at hst A3 h3 h4
          replace hst := Lib.hid hst
          replace A3 := Lib.hid A3
          clear hr H2 A2 e0 hT3
          go_wp2_with fail
          refine hst.out.mono ?_
          rintro e w8 ⟨rfl, H8⟩
          have INV3 : Hid (∃ (T2 : SS) (r : Nat), LX ((ofW w1).guard w4 w5) w8 q s h m T2 D ∧ All1 S T2 r ∧ 0 ≤ T2.cyc ∧ T2.cyc + r ≤ 4200) := Lib.hid ⟨T3, r3, H8, A3.out, by omega, by omega⟩
          clear hst H8 A3
          go_wp2_with fail
          go_roundw
          case rel => exact ⟨k2 + 1, by omega, by go_num, INV3⟩
          case measure => simp [intOf]; omega
        · obtain rfl : k2 = m12 := by omega
          obtain ⟨T2, r, H2, A2, c2, d2⟩ := hr.out
          have HA2 := lx_alloc H2
          have hS2 := A2.s
          have c0 := H2.cells.1
          rcases alloc2 I.out with ⟨S', p, hr2, AL, _⟩ | ⟨hr2, hfit⟩
          · obtain ⟨q2, ⟨r3, A3, hr3⟩, q3⟩ := A2.alloc I.out hr2 AL
            rw [q2] at HA2
            dsimp only at HA2
            have C' := Lib.hid (alloc_clo I.out C.out AL)
            have I' := Lib.hid AL.inv
            obtain ⟨T3, hT3⟩ : ∃ T3, T3 = (qAlloc T2 2 3 0).1 := ⟨_, rfl⟩
            rw [← hT3] at HA2 A3 q3
            replace HA2 := Lib.hid HA2
            replace A3 := Lib.hid A3
            replace AL := Lib.hid AL
            replace hr2 := Lib.hid hr2
            clear hr H2 A2 q2 hT3 hS2
            go_wp2_with fail
            refine HA2.out.mono ?_
            rintro e w9 ⟨rfl, H9⟩
            have INV9 : Hid (∃ (T2 : SS) (r : Nat), LX ((ofW w1).guard w4 w5) w9 q s h m T2 D ∧ All1 S' T2 r ∧ 0 ≤ T2.cyc ∧ T2.cyc + r ≤ 4200) := Lib.hid ⟨T3, r3, H9, A3.out, by omega, by omega⟩
            clear HA2 H9 A3
            go_wp2_with fail
            go_loopw [87] (fun i wz => ∃ k : Nat, k ≤ 200 ∧ i = .int .i64 k ∧ Hid (∃ (T2 : SS) (r : Nat), LX ((ofW w1).guard w4 w5) wz q s h m T2 D ∧ All1 S' T2 r ∧ 0 ≤ T2.cyc ∧ T2.cyc + r ≤ 4200)) (fun i _ => 200 - (intOf i).toNat)
            case atStart => exact ⟨0, by omega, rfl, INV9⟩
            case round =>
              clear INV9
              obtain ⟨k2, hk2, rfl, hr⟩ := hrel
              by_cases hlt2 : k2 < 200
              · have tk2 : (k2 : Int) < 200 := by omega
                obtain ⟨T2, r, H2, A2, c2, d2⟩ := hr.out
                have hst := lx_step H2 (A2.sok ⟨c2, by omega⟩) 1 (by omega)
                obtain ⟨e0, r3, A3, _, _, h3, h4⟩ := A2.step I'.out.toInv0 C'.out 1
                rw [e0, if_pos rfl] at hst
                have c0 := H2.cells.1
                obtain ⟨T3, hT3⟩ : ∃ T3, T3 = (qStep T2 1).1 := ⟨_, rfl⟩
                rw [← hT3] at hst A3 h3 h4
                replace hst := Lib.hid hst
                replace A3 := Lib.hid A3
                clear hr H2 A2 e0 hT3
                go_wp2_with fail
                refine hst.out.mono ?_
                rintro e w8 ⟨rfl, H8⟩
                have INV3 : Hid (∃ (T2 : SS) (r : Nat), LX ((ofW w1).guard w4 w5) w8 q s h m T2 D ∧ All1 S' T2 r ∧ 0 ≤ T2.cyc ∧ T2.cyc + r ≤ 4200) := Lib.hid ⟨T3, r3, H8, A3.out, by omega, by omega⟩
                clear hst H8 A3
                go_wp2_with fail
                go_roundw
                case rel => exact ⟨k2 + 1, by omega, by go_num, INV3⟩
                case measure => simp [intOf]; omega
              · obtain rfl : k2 = 200 := by omega
                obtain ⟨T4, r4, H4, A4, c4, d4⟩ := hr.out
                have hpo : mIs S' p = true := (mis_all I'.out.toInv0 p).2 ((all_made AL.out p).2 (.inl rfl))
                have hpb := mis_pos I'.out.toInv0 hpo
                obtain ⟨n1, E1, eS, ep, eo, el, ec, ed⟩ := all1_run I'.out C'.out A4 4200 (by omega) ⟨c4, d4⟩ 1
                have hS4 := A4.s
                obtain ⟨T5, hT5⟩ : ∃ T5, qIt T4 1 n1 = T5 := ⟨_, rfl⟩
                rw [hT5] at eS ep eo el ec ed
                obtain ⟨hb0, n2, E2, eS2⟩ := all2_run I.out C.out AL.out eS ep eo el ⟨ec, by omega⟩ hn4 1
                obtain ⟨f1, f2, f3⟩ := free_made I.out AL.out 1
                have hB2 : qBegin T5 (sAll S) = ((qBegin T5 (sAll S)).1, 0) := Prod.ext rfl hb0
                obtain ⟨T7, hT7⟩ : ∃ T7, qIt (qBegin T5 (sAll S)).1 1 n2 = T7 := ⟨_, rfl⟩
                have hSz := C'.out.size I'.out.toInv0 hpo
                have hln := AL.out.all_len
                have HSz := lx_size H4 p (by omega)
                rw [hS4, hSz] at HSz
                dsimp only at HSz
                rw [hT7] at eS2
                have ha3 : sAll T7.S = sAll S := by rw [eS2]; exact f2
                have ha1 : sAll T5.S = sAll S' := by rw [eS]
                have hnk : (sAll S').length ≤ 4096 := by
                  have := I'.out.toInv0.objs_len
                  rw [all_len]
                  exact this
                have HFu : Hid (∀ (wx : World), LX ((ofW w1).guard w4 w5) wx q s h m T4 D → Calls Tryz.prog 26 #[.pointer (some ⟨s, 0, none⟩), .slice A5 (sAll S).length c5, .int .i64 1] wx fun e w' => e = .returned (.tuple #[.int .i64 1, .int .i64 0]) ∧ LX ((ofW w1).guard w4 w5) w' q s h m T7 D) := Lib.hid fun wx hx => by
                  have hrd : Rd i64e wx (.slice A5 (sAll S).length c5) (sAll S) := hx.rd hrd5.out (fun b e => hfr5.out b e)
                  have := lx_fullQ hx _ (sAll S) hrd hn4 (fun x hx => by
                    have := mis_pos I.out.toInv0 ((mis_all I.out.toInv0 x).2 hx)
                    omega) (fun b e => .inr ⟨hfr5.out b e, hlt5.out b e⟩) 1 (by omega) n1 n2 E1 hT5 hB2 E2 hT7 ha1 ha3 hnk hn4
                  rw [hln, show (((sAll S).length + 1 : Nat) : Int) - ((sAll S).length : Int) = 1 by omega] at this
                  exact this
                have hf7 : (sSize T7.S p).2.2 = false := by rw [eS2]; exact f3
                replace HSz := Lib.hid HSz
                replace hf7 := Lib.hid hf7
                replace ha3 := Lib.hid ha3
                have hA4 : Hid (sAll T4.S = sAll S') := Lib.hid (by rw [hS4])
                have wln : IntKind.i64.wrap (((sAll S).length : Int) + 1) = ((sAll S).length : Int) + 1 := by rw [IntKind.wrap_i64]; omega
                have hlnI : ((sAll S').length : Int) = ((sAll S).length : Int) + 1 := by omega
                obtain ⟨N, hN⟩ : ∃ N, N = (sAll S).length := ⟨_, rfl⟩
                rw [← hN] at HFu wln hlnI
                replace hlnI := Lib.hid hlnI
                replace hN := Lib.hid hN
                clear hr H4 A4 E1 E2 eS ep eo el hb0 eS2 hB2 hT5 hT7 f1 f2 f3 hpo hSz hln ha1 hS4
                go_wp2_with fail
                refine HSz.out.mono ?_
                rintro e w10 ⟨rfl, H10⟩
                have HAl := lx_all H10
                rw [hA4.out] at HAl
                replace HAl := Lib.hid HAl
                replace H10 := Lib.hid H10
                clear HSz
                go_wp2_with fail
                refine HAl.out.mono ?_
                rintro e w11 ⟨A11, c11, rfl, _, _, b11⟩
                have H11 := Lib.hid (H10.out.below b11)
                have c0 := H11.out.cells.1
                clear HAl H10 b11
                rw [← hN.out]
                have hlnI2 := hlnI.out
                go_wp2_with fail
                refine (HFu.out _ H11.out).mono ?_
                rintro e w12 ⟨rfl, H12⟩
                have HSz := lx_size H12 p (by omega)
                rw [hf7.out] at HSz
                replace HSz := Lib.hid HSz
                clear H11 HFu
                go_wp2_with fail
                refine HSz.out.mono ?_
                rintro e w13 ⟨rfl, H13⟩
                have HAl := lx_all H13
                rw [ha3.out, ← hN.out] at HAl
                replace HAl := Lib.hid HAl
                have b13 := Lib.hid (b1.out.trans (Below.mono H13.b b1.out.size))
                clear HSz
                go_wp2_with fail
                refine HAl.out.mono ?_
                rintro e w14 ⟨A14, c14, rfl, _, _, b14⟩
                have b15 := Lib.hid (below_all b13.out b14)
                go_wp2_with fail
                go_ret
                exact ⟨rfl, b15.out⟩
          · have q2 : (qAlloc T2 2 3 0).2 = (0, 6) := by
              unfold qAlloc
              rw [hS2, hr2, if_neg (by simp)]
            have q1 : (qAlloc T2 2 3 0).1.S = S := by
              unfold qAlloc
              rw [hS2, hr2, if_neg (by simp)]
            rw [q2] at HA2
            dsimp only at HA2
            obtain ⟨T3, hT3⟩ : ∃ T3, T3 = (qAlloc T2 2 3 0).1 := ⟨_, rfl⟩
            rw [← hT3] at HA2 q1
            replace HA2 := Lib.hid HA2
            replace hr2 := Lib.hid hr2
            replace q1 := Lib.hid q1
            replace hfit := Lib.hid hfit
            clear hr H2 A2 q2 hT3 hS2
            go_wp2_with fail
            refine HA2.out.mono ?_
            rintro e w9 ⟨rfl, H9⟩
            have HF := lx_fits H9 2
            rw [q1.out, hfit.out] at HF
            replace HF := Lib.hid HF
            clear HA2 H9
            go_wp2_with fail
            refine HF.out.mono ?_
            rintro e w10 ⟨rfl, H10⟩
            have b10 := Lib.hid (b1.out.trans (Below.mono H10.b b1.out.size))
            clear HF H10
            go_wp2_with fail
            go_ret
            exact ⟨rfl, b10.out⟩
end Go.Proofs.YtcaboknbdamlhaaGreatDoor
