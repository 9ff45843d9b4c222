/- Joined: SweepMadeP, SetMap, SetRange, TailRow, SweepReach, SweepActU, SweepRefE, SweepRefF, SweepRefG, HeapRefH, SweepRefH, SweepActP, SweepDoesE, SweepSame, SweepActsLaw. -/
import Derived.Test.YtcaboknbdamlhaaGreatDoorSSO
import Derived.Test.YtcaboknbdamlhaaGreatDoorBase
import Derived.Test.YtcaboknbdamlhaaGreatDoorInfo
import Derived.Maps.Own
import Derived.Maps.Views
import Derived.Maps.Keyed
import Derived.Maps.OwnSet
import Derived.Maps.RangeWalk
import Derived.Test.YtcaboknbdamlhaaGreatDoorSSR
import Derived.Test.YtcaboknbdamlhaaGreatDoorMMA
import Derived.Test.YtcaboknbdamlhaaGreatDoorSSA
import Derived.Test.YtcaboknbdamlhaaGreatDoorHRR
set_option linter.unusedVariables false
set_option linter.unusedSimpArgs false
namespace Go.Proofs.YtcaboknbdamlhaaGreatDoor
open Go.RowKit Go.Shelf
theorem qIt_shift (T : SS) (junk : Int) : ∀ n, qIt (qStep T junk).1 junk n = qIt T junk (n + 1)
  | 0 => rfl
  | n + 1 => by
    show (qStep (qIt (qStep T junk).1 junk n) junk).1 = (qStep (qIt T junk (n + 1)) junk).1
    rw [qIt_shift T junk n]
/-- A store runs to its end. -/
theorem ends_run (P : SS → Nat → Prop) (junk : Int) (h : ∀ T r, P T r → SOk T ∧ (T.ph = 0 ∨ (T.ph ≠ 0 ∧ (qStep T junk).2 = 0 ∧ ∃ r', r' < r ∧ P (qStep T junk).1 r'))) :
    ∀ r T, P T r → ∃ n, Ends T junk n ∧ ∃ r', P (qIt T junk n) r' := by
  intro r
  induction r using Nat.strongRecOn with
  | ind r ih =>
    intro T hP
    obtain ⟨ok, h1⟩ := h T r hP
    rcases h1 with h0 | ⟨h0, he, r', hr', hP'⟩
    · exact ⟨0, ⟨fun i hi => absurd hi (Nat.not_lt_zero _), h0, fun i hi => by
        have hi0 : i = 0 := by omega
        subst hi0
        exact ok⟩, r, hP⟩
    · obtain ⟨n, E, hn⟩ := ih r' hr' _ hP'
      refine ⟨n + 1, ⟨fun i hi => ?_, by rw [← qIt_shift]; exact E.off, fun i hi => ?_⟩, by rw [← qIt_shift]; exact hn⟩
      · cases i with
        | zero => exact ⟨h0, he⟩
        | succ i => rw [← qIt_shift]; exact E.go i (by omega)
      · cases i with
        | zero => exact ok
        | succ i => rw [← qIt_shift]; exact E.ok i (by omega)
theorem fold_seen {S : HS} (I : Inv0 S) : ∀ (l : List Int) (K : MK), MI S K → (∀ x ∈ l, Good S x) → ∀ x, (l.foldl (mShade S) K).seen x = true ↔ (K.seen x = true ∨ (x ∈ l ∧ x ≠ 0))
  | [], K, M, _, x => by simp
  | y :: l, K, M, h, x => by
    obtain ⟨M1, u1, s1, s2, s3, _⟩ := mi_shade I M (h y (by simp))
    show ((l.foldl (mShade S) (mShade S K y)).seen x = true) ↔ _
    rw [fold_seen I l _ M1 (fun z hz => h z (List.mem_cons_of_mem _ hz)) x]
    constructor
    · rintro (hx | hx)
      · rcases s3 x hx with h1 | rfl
        · exact .inl h1
        · exact .inr ⟨by simp, fun e => by have := mis_pos I (M1.obj x hx); omega⟩
      · exact .inr ⟨List.mem_cons_of_mem _ hx.1, hx.2⟩
    · rintro (hx | ⟨hx, h0⟩)
      · exact .inl (s2 x hx)
      · rcases List.mem_cons.1 hx with rfl | hx
        · exact .inl (s1 h0)
        · exact .inr ⟨hx, h0⟩
theorem keep_none (sn : Int → Bool) (l : List Int) (h : ∀ x ∈ l, sn x = true) : keepP sn l = [] := by
  unfold keepP
  rw [List.filter_eq_nil_iff]
  intro x hx
  simp [h x hx]
theorem step_off {T : SS} (hp : T.ph = 0) (junk : Int) : qStep T junk = (T, 0) := by unfold qStep; rw [if_neg (by omega), if_neg (by omega)]
theorem step_end {T : SS} (hp : T.ph = 1) (M : MI T.S T.K) (hg : T.K.greys = []) (junk : Int) : qStep T junk = ({ T with K := mOff T.K, ph := 2, left := keepP T.K.seen (sAll T.S) }, 0) := by
  unfold qStep
  rw [if_pos hp]
  unfold qMark
  rw [mi_end M hg, if_neg (by simp)]
theorem step_mark {T : SS} (I : Inv0 T.S) (C : Clo T.S) (hp : T.ph = 1) (M : MI T.S T.K) {p : Int} {gs : List Int} (hg : T.K.greys = p :: gs) (junk : Int) : qStep T junk = ({ T with K := nextK T.S T.K p gs }, 0) := by
  unfold qStep
  rw [if_pos hp]
  unfold qMark
  rw [(mi_step I C M hg).1, if_pos (.inl rfl)]
theorem step_sweep0 {T : SS} (hp : T.ph = 2) (hl : T.left = []) (junk : Int) : qStep T junk = ({ T with ph := 0, cyc := T.cyc + 1 }, 0) := by
  unfold qStep
  rw [if_neg (by omega), if_pos hp]
  unfold qSweep
  rw [hl]
theorem step_sweep1 {T : SS} (hp : T.ph = 2) {x : Int} {l : List Int} (hl : T.left = x :: l) (junk : Int) : qStep T junk = ({ T with S := (sFree T.S x junk).1, left := l }, (sFree T.S x junk).2) := by
  unfold qStep
  rw [if_neg (by omega), if_pos hp]
  unfold qSweep
  rw [hl]
/-- What a look-through sees besides. -/
theorem next_seen {S : HS} {K : MK} (I : Inv0 S) (C : Clo S) (M : MI S K) {p : Int} {gs : List Int} (hg : K.greys = p :: gs) : (∀ x, K.seen x = true → (nextK S K p gs).seen x = true) ∧ (∀ x, (nextK S K p gs).seen x = true → K.seen x = true ∨ x = fldA S p 0 ∨ x = fldA S p 1) := by
  have hp : mIs S p = true := M.obj p (M.sn p (by rw [hg]; simp))
  have M0 : MI S { K with greys := gs } := ⟨M.on, M.obj, fun x hx => M.sn x (by rw [hg]; exact List.mem_cons_of_mem _ hx)⟩
  have g0 := C.good I hp (f := 0) (by omega)
  have g1 := C.good I hp (f := 1) (by omega)
  obtain ⟨M1, _, _, a2, a3, _⟩ := mi_shade I M0 g0
  obtain ⟨M2, _, _, b2, b3, _⟩ := mi_shade I M1 g1
  refine ⟨fun x hx => b2 x (a2 x hx), fun x hx => ?_⟩
  rcases b3 x hx with h | h
  · exact (a3 x h).imp id .inl
  · exact .inr (.inr h)
/-! All objects are seen: nothing is freed. -/
inductive All1 (S : HS) (T : SS) : Nat → Prop
  | mark (ph : T.ph = 1) (hS : T.S = S) (M : MI S T.K) (al : ∀ p, mIs S p = true → T.K.seen p = true) (lf : T.left = []) : All1 S T (uns S T.K + T.K.greys.length + 3)
  | sweep (ph : T.ph = 2) (hS : T.S = S) (on : T.K.on = false) (lf : T.left = []) : All1 S T 1
  | off (ph : T.ph = 0) (hS : T.S = S) (on : T.K.on = false) (lf : T.left = []) : All1 S T 0
section
variable {S S' : HS} {T : SS} {r : Nat}
theorem All1.s (A : All1 S T r) : T.S = S := by cases A <;> assumption
theorem All1.sok (A : All1 S T r) (hc : 0 ≤ T.cyc ∧ T.cyc + r ≤ 10000) : SOk T := by
  cases A with
  | mark ph hS M al lf => exact ⟨.inr (.inl ⟨ph, M.on⟩), by omega, by rw [lf]; simp, by rw [lf]; simp⟩
  | sweep ph hS on lf => exact ⟨.inr (.inr ph), by omega, by rw [lf]; simp, by rw [lf]; simp⟩
  | off ph hS on lf => exact ⟨.inl ph, by omega, by rw [lf]; simp, by rw [lf]; simp⟩
theorem All1.step (I : Inv0 S) (C : Clo S) (A : All1 S T r) (junk : Int) : (qStep T junk).2 = 0 ∧ ∃ r', All1 S (qStep T junk).1 r' ∧ r' ≤ r ∧ (T.ph ≠ 0 → r' < r) ∧ (qStep T junk).1.cyc + r' ≤ T.cyc + r ∧ T.cyc ≤ (qStep T junk).1.cyc := by
  cases A with
  | mark ph hS M al lf =>
    subst hS
    rcases hg : T.K.greys with _ | ⟨p, gs⟩
    · rw [step_end ph M hg]
      have hk : keepP T.K.seen (sAll T.S) = [] := keep_none _ _ fun x hx => al x ((mis_all I x).2 hx)
      exact ⟨rfl, 1, All1.sweep rfl rfl rfl hk, by omega, fun _ => by omega, by simp only; omega, by simp⟩
    · rw [step_mark I C ph M hg]
      obtain ⟨_, M', u⟩ := mi_step I C M hg
      have u' := u
      rw [hg] at u'
      have ns := next_seen I C M hg
      exact ⟨rfl, _, All1.mark (T := { T with K := nextK T.S T.K p gs }) ph rfl M' (fun x hx => ns.1 x (al x hx)) lf, by simp only; omega, fun _ => by simp only; omega, by simp only; omega, by simp⟩
  | sweep ph hS on lf =>
    subst hS
    rw [step_sweep0 ph lf]
    exact ⟨rfl, 0, All1.off rfl rfl on lf, by omega, fun _ => by omega, by simp only; omega, by simp only; omega⟩
  | off ph hS on lf =>
    subst hS
    rw [step_off ph]
    exact ⟨rfl, 0, All1.off ph rfl on lf, by omega, fun h => absurd ph h, by simp, by simp⟩
theorem All1.alloc (I : Inv S) {p : Int} (hr : sAlloc S 2 3 0 = (S', p, 0)) (A : Alloced S S' 2 3 0 p) (H : All1 S T r) : (qAlloc T 2 3 0).2 = (p, 0) ∧ (∃ r', All1 S' (qAlloc T 2 3 0).1 r' ∧ r' ≤ r) ∧ (qAlloc T 2 3 0).1.cyc = T.cyc := by
  have hm : ∀ o, o ∈ S'.objs ↔ o = (p, 2, 3) ∨ o ∈ S.objs := fun o => by rw [A.objs, ins_mem]
  have hpo : mIs S' p = true := (mis_mem A.inv.toInv0 p).2 ⟨_, (hm _).2 (.inl rfl), rfl⟩
  have hp0 := mis_pos A.inv.toInv0 hpo
  have mono : ∀ x, mIs S x = true → mIs S' x = true := fun x hx => by
    obtain ⟨o, ho, e⟩ := (mis_mem I.toInv0 x).1 hx
    exact (mis_mem A.inv.toInv0 x).2 ⟨o, (hm o).2 (.inr ho), e⟩
  have inv' : ∀ x, mIs S' x = true → x = p ∨ mIs S x = true := fun x hx => by
    obtain ⟨o, ho, e⟩ := (mis_mem A.inv.toInv0 x).1 hx
    rcases (hm o).1 ho with rfl | h
    · exact .inl e.symm
    · exact .inr ((mis_mem I.toInv0 x).2 ⟨o, h, e⟩)
  have offc : T.K.on = false → mKnown S' T.K p = (false, 0) ∧ mMade S' T.K p = T.K := fun ho => by
    have hk : mKnown S' T.K p = (false, 0) := by unfold mKnown; rw [if_pos (.inl ho)]
    exact ⟨hk, by unfold mMade; rw [hk, if_neg (by simp)]⟩
  have hq : T.S = S → qAlloc T 2 3 0 = ({ T with S := S', K := mMade S' T.K p }, p, (mKnown S' T.K p).2) := fun e => by
    unfold qAlloc
    rw [e, hr, if_pos rfl]
  cases H with
  | mark ph hS M al lf =>
    have hk : mKnown S' T.K p = (true, 0) := by
      unfold mKnown
      rw [if_neg (fun h => h.elim (fun h => by rw [M.on] at h; cases h) fun h => by omega), if_pos hpo]
    have hmd : mMade S' T.K p = { mSee T.K p with greys := keepP (fun x => x == p) T.K.greys } := by unfold mMade; rw [hk, if_pos rfl]
    rw [hq hS, hk]
    have al' : ∀ x, mIs S' x = true → (mMade S' T.K p).seen x = true := fun x hx => by
      rw [hmd]
      show (x == p || T.K.seen x) = true
      rw [Bool.or_eq_true, beq_iff_eq]
      exact (inv' x hx).imp id (al x)
    have hun : uns S' (mMade S' T.K p) = 0 := by
      unfold uns
      rw [keep_none _ _ fun x hx => al' x ((mis_all A.inv.toInv0 x).2 hx)]
      rfl
    have hgl : (mMade S' T.K p).greys.length ≤ T.K.greys.length := by
      rw [hmd]
      exact List.length_filter_le _ _
    refine ⟨rfl, ⟨_, All1.mark (T := { T with S := S', K := mMade S' T.K p }) ph rfl ?_ al' lf, ?_⟩, rfl⟩
    · rw [hmd]
      refine ⟨M.on, fun x hx => ?_, fun x hx => ?_⟩
      · have hx : (x == p || T.K.seen x) = true := hx
        rw [Bool.or_eq_true, beq_iff_eq] at hx
        exact hx.elim (fun e => e ▸ hpo) fun h => mono x (M.obj x h)
      · show (x == p || T.K.seen x) = true
        rw [M.sn x (List.mem_filter.1 hx).1]
        simp
    · show uns S' (mMade S' T.K p) + (mMade S' T.K p).greys.length + 3 ≤ _
      omega
  | sweep ph hS on lf =>
    obtain ⟨e1, e2⟩ := offc on
    rw [hq hS, e1, e2]
    exact ⟨rfl, ⟨1, All1.sweep ph rfl on lf, Nat.le_refl _⟩, rfl⟩
  | off ph hS on lf =>
    obtain ⟨e1, e2⟩ := offc on
    rw [hq hS, e1, e2]
    exact ⟨rfl, ⟨0, All1.off ph rfl on lf, Nat.le_refl _⟩, rfl⟩
theorem all1_begin (I : Inv S) (C : Clo S) (hS : T.S = S) (hp : T.ph = 0) (ho : T.K.on = false) (hl : T.left = []) : (qBegin T (sAll S)).2 = 0 ∧ (∃ r, r ≤ (sAll S).length + 3 ∧ All1 S (qBegin T (sAll S)).1 r) ∧ (qBegin T (sAll S)).1.cyc = T.cyc := by
  subst hS
  have hgd : ∀ x ∈ sAll T.S, Good T.S x := fun x hx => .inr ((mis_all I.toInv0 x).2 hx)
  obtain ⟨e0, e1, _⟩ := cyc_begin I.toInv0 C hp ho (sAll T.S) hgd
  obtain ⟨M, u⟩ := fold_shade I.toInv0 (sAll T.S) mStart mi_start hgd
  refine ⟨e0, ?_, by rw [e1]⟩
  rw [e1]
  have hu := uns_start I.toInv0
  refine ⟨_, ?_, All1.mark (T := { T with K := (sAll T.S).foldl (mShade T.S) mStart, ph := 1 }) rfl rfl M (fun p hx => ?_) hl⟩
  · show uns T.S ((sAll T.S).foldl (mShade T.S) mStart) + ((sAll T.S).foldl (mShade T.S) mStart).greys.length + 3 ≤ _
    rw [u, hu]
    show (sAll T.S).length + ([] : List Int).length + 3 ≤ _
    simp
  · exact (fold_seen I.toInv0 _ mStart mi_start hgd p).2 (.inr ⟨(mis_all I.toInv0 p).1 hx, by have := mis_pos I.toInv0 hx; omega⟩)
end
theorem all1_run {S : HS} {T : SS} {r : Nat} (I : Inv S) (C : Clo S) (A : All1 S T r) (B : Int) (hB : B ≤ 9000) (hc : 0 ≤ T.cyc ∧ T.cyc + r ≤ B) (junk : Int) :
    ∃ n, Ends T junk n ∧ (qIt T junk n).S = S ∧ (qIt T junk n).ph = 0 ∧ (qIt T junk n).K.on = false ∧ (qIt T junk n).left = [] ∧ 0 ≤ (qIt T junk n).cyc ∧ (qIt T junk n).cyc ≤ B := by
  obtain ⟨n, E, r', A', hc'⟩ := ends_run (fun T r => All1 S T r ∧ 0 ≤ T.cyc ∧ T.cyc + r ≤ B) junk (fun T r ⟨A, c0, c1⟩ => by
    refine ⟨A.sok ⟨c0, by omega⟩, ?_⟩
    by_cases h0 : T.ph = 0
    · exact .inl h0
    · obtain ⟨e, r', A', _, h2, h3, h4⟩ := A.step I.toInv0 C junk
      exact .inr ⟨h0, e, r', h2 h0, A', by omega, by omega⟩) r T ⟨A, hc⟩
  refine ⟨n, E, A'.s, E.off, ?_, ?_, hc'.1, by omega⟩
  · cases A' with
    | mark ph hS M al lf => exact absurd E.off (by rw [ph]; omega)
    | sweep ph hS on lf => exact on
    | off ph hS on lf => exact on
  · cases A' <;> assumption
/-! All but one are seen: that one is freed. -/
inductive All2 (S S' Sf : HS) (p : Int) (T : SS) : Nat → Prop
  | mark (ph : T.ph = 1) (hS : T.S = S') (M : MI S' T.K) (sn : ∀ x, T.K.seen x = true ↔ x ∈ sAll S) (lf : T.left = []) : All2 S S' Sf p T (uns S' T.K + T.K.greys.length + 4)
  | sweep1 (ph : T.ph = 2) (hS : T.S = S') (on : T.K.on = false) (lf : T.left = [p]) : All2 S S' Sf p T 2
  | sweep (ph : T.ph = 2) (hS : T.S = Sf) (on : T.K.on = false) (lf : T.left = []) : All2 S S' Sf p T 1
  | off (ph : T.ph = 0) (hS : T.S = Sf) (on : T.K.on = false) (lf : T.left = []) : All2 S S' Sf p T 0
section
variable {S S' Sf : HS} {T : SS} {r : Nat} {p : Int}
theorem ins_filter (o : Int × Int × Int) : ∀ l : List (Int × Int × Int), (∀ x ∈ l, x.1 ≠ o.1) → (insO o l).filter (fun x => !(x.1 == o.1)) = l
  | [], _ => by simp [insO]
  | y :: l, h => by
    have hy : (!(y.1 == o.1)) = true := by simp [h y (by simp)]
    have hl := fun x hx => h x (List.mem_cons_of_mem _ hx)
    have hfl : l.filter (fun x => !(x.1 == o.1)) = l := List.filter_eq_self.2 fun x hx => by simp [hl x hx]
    unfold insO
    split
    · rw [List.filter_cons_of_neg (by simp), List.filter_cons_of_pos (p := fun x : Int × Int × Int => !(x.1 == o.1)) hy, hfl]
    · rw [List.filter_cons_of_pos (p := fun x : Int × Int × Int => !(x.1 == o.1)) hy, ins_filter o l hl]
theorem free_made (I : Inv S) (A : Alloced S S' 2 3 0 p) (junk : Int) : (sFree S' p junk).2 = 0 ∧ sAll (sFree S' p junk).1 = sAll S ∧ (sSize (sFree S' p junk).1 p).2.2 = false := by
  have ho : ((p, 2, 3) : Int × Int × Int) ∈ S'.objs := by rw [A.objs, ins_mem]; exact .inl rfl
  obtain ⟨e1, _, e3⟩ := free_ok A.inv.toInv0 ho junk
  have e4 : (sFree S' p junk).1.objs = S.objs := by
    rw [show (sFree S' p junk).1.objs = S'.objs.filter (fun x => !(x.1 == p)) from e3, A.objs]
    exact ins_filter (p, 2, 3) S.objs A.no
  refine ⟨e1, by unfold sAll; rw [e4], ?_⟩
  rw [size_none (fun o ho => A.no o (by rw [← e4]; exact ho))]
theorem made_fld (I : Inv S) (C : Clo S) (A : Alloced S S' 2 3 0 p) {x : Int} (hx : x ∈ sAll S) {f : Nat} (hf : f < 2) : fldA S' x f = 0 ∨ fldA S' x f ∈ sAll S := by
  have hg := C.good I.toInv0 ((mis_all I.toInv0 x).2 hx) hf
  unfold fldA at *
  rw [A.words, fillW_get]
  split
  · exact .inl rfl
  · exact hg.imp id fun h => (mis_all I.toInv0 _).1 h
theorem all_made (A : Alloced S S' 2 3 0 p) (x : Int) : x ∈ sAll S' ↔ x = p ∨ x ∈ sAll S := by
  unfold sAll
  rw [List.mem_map, List.mem_map]
  constructor
  · rintro ⟨o, ho, rfl⟩
    rw [A.objs, ins_mem] at ho
    rcases ho with rfl | h
    · exact .inl rfl
    · exact .inr ⟨o, h, rfl⟩
  · rintro (rfl | ⟨o, ho, rfl⟩)
    · exact ⟨_, by rw [A.objs, ins_mem]; exact .inl rfl, rfl⟩
    · exact ⟨o, by rw [A.objs, ins_mem]; exact .inr ho, rfl⟩
theorem keep_one (A : Alloced S S' 2 3 0 p) (sn : Int → Bool) (h : ∀ x, sn x = true ↔ x ∈ sAll S) : keepP sn (sAll S') = [p] := by
  have hn : (sAll S').Nodup := all_nodup A.inv.toInv0
  have hpn : sn p = false := by
    cases e : sn p with
    | false => rfl
    | true =>
      obtain ⟨o, ho, e2⟩ := List.mem_map.1 ((h p).1 e)
      exact absurd e2 (A.no o ho)
  have hm : ∀ x ∈ keepP sn (sAll S'), x = p := fun x hx => by
    obtain ⟨h1, h2⟩ := List.mem_filter.1 hx
    rcases (all_made A x).1 h1 with e | h3
    · exact e
    · rw [(h x).2 h3] at h2
      cases h2
  have hp : p ∈ keepP sn (sAll S') := List.mem_filter.2 ⟨(all_made A p).2 (.inl rfl), by simp [hpn]⟩
  have hnk : (keepP sn (sAll S')).Nodup := List.Nodup.sublist List.filter_sublist hn
  generalize keepP sn (sAll S') = l at hm hp hnk
  match l, hm, hp, hnk with
  | [x], hm, _, _ => rw [hm x (by simp)]
  | x :: y :: l, hm, _, hnk =>
    rw [List.nodup_cons] at hnk
    exact absurd (by rw [hm x (by simp), hm y (by simp)]; simp) hnk.1
theorem All2.sok (I : Inv S') (hp : 0 ≤ p ∧ p ≤ 4096) (A : All2 S S' Sf p T r) (hc : 0 ≤ T.cyc ∧ T.cyc + r ≤ 10000) : SOk T := by
  cases A with
  | mark ph hS M sn lf => exact ⟨.inr (.inl ⟨ph, M.on⟩), by omega, by rw [lf]; simp, by rw [lf]; simp⟩
  | sweep1 ph hS on lf => exact ⟨.inr (.inr ph), by omega, by rw [lf]; intro x hx; simp at hx; omega, by rw [lf]; simp⟩
  | sweep ph hS on lf => exact ⟨.inr (.inr ph), by omega, by rw [lf]; simp, by rw [lf]; simp⟩
  | off ph hS on lf => exact ⟨.inl ph, by omega, by rw [lf]; simp, by rw [lf]; simp⟩
theorem all2_run (I : Inv S) (C : Clo S) (A : Alloced S S' 2 3 0 p) (hS : T.S = S') (hp : T.ph = 0) (ho : T.K.on = false) (hl : T.left = []) (hc : 0 ≤ T.cyc ∧ T.cyc ≤ 5000) (hn : (sAll S).length ≤ 4096) (junk : Int) :
    (qBegin T (sAll S)).2 = 0 ∧ ∃ n, Ends (qBegin T (sAll S)).1 junk n ∧ (qIt (qBegin T (sAll S)).1 junk n).S = (sFree S' p junk).1 := by
  have C' := alloc_clo I C A
  have I' := A.inv
  have hpo : mIs S' p = true := (mis_all I'.toInv0 p).2 ((all_made A p).2 (.inl rfl))
  have hpb := mis_pos I'.toInv0 hpo
  have hgd : ∀ x ∈ sAll S, Good S' x := fun x hx => .inr ((mis_all I'.toInv0 x).2 ((all_made A x).2 (.inr hx)))
  subst hS
  obtain ⟨e0, e1, _⟩ := cyc_begin I'.toInv0 C' hp ho (sAll S) hgd
  obtain ⟨M, u⟩ := fold_shade I'.toInv0 (sAll S) mStart mi_start hgd
  have hu := uns_start I'.toInv0
  have hl2 := A.all_len
  refine ⟨e0, ?_⟩
  rw [e1]
  have hsn : ∀ x, ((sAll S).foldl (mShade T.S) mStart).seen x = true ↔ x ∈ sAll S := fun x => by
    rw [fold_seen I'.toInv0 _ mStart mi_start hgd x]
    constructor
    · rintro (h | h)
      · cases h
      · exact h.1
    · intro h
      have := mis_pos I'.toInv0 ((mis_all I'.toInv0 x).2 ((all_made A x).2 (.inr h)))
      exact .inr ⟨h, by omega⟩
  have hcy : T.cyc + ((uns T.S ((sAll S).foldl (mShade T.S) mStart) + ((sAll S).foldl (mShade T.S) mStart).greys.length + 4 : Nat) : Int) ≤ 10000 := by
    have u2 : uns T.S ((sAll S).foldl (mShade T.S) mStart) + ((sAll S).foldl (mShade T.S) mStart).greys.length = (sAll T.S).length := by rw [u, hu]; rfl
    omega
  obtain ⟨n, E, r', A', hc'⟩ := ends_run (fun T1 r => All2 S T.S (sFree T.S p junk).1 p T1 r ∧ 0 ≤ T1.cyc ∧ T1.cyc + r ≤ 10000) junk (fun T1 r ⟨A1, c0, c1⟩ => by
    refine ⟨A1.sok I' ⟨by omega, hpb.2⟩ ⟨c0, c1⟩, ?_⟩
    cases A1 with
    | mark ph hS M1 sn lf =>
      refine .inr ⟨by omega, ?_⟩
      rw [← hS] at M1 c1
      rcases hg : T1.K.greys with _ | ⟨y, gs⟩
      · rw [step_end ph M1 hg]
        have hk : keepP T1.K.seen (sAll T1.S) = [p] := by rw [hS]; exact keep_one A _ sn
        exact ⟨rfl, 2, by omega, All2.sweep1 rfl hS rfl hk, c0, by simp only; omega⟩
      · rw [step_mark (by rw [hS]; exact I'.toInv0) (by rw [hS]; exact C') ph M1 hg]
        obtain ⟨_, M', u'⟩ := mi_step (by rw [hS]; exact I'.toInv0) (by rw [hS]; exact C') M1 hg
        have ns := next_seen (by rw [hS]; exact I'.toInv0) (by rw [hS]; exact C') M1 hg
        have hy : y ∈ sAll S := (sn y).1 (M1.sn y (by rw [hg]; simp))
        have M2 : MI T.S (nextK T1.S T1.K y gs) := by rw [← hS]; exact M'
        have sn2 : ∀ x, (nextK T1.S T1.K y gs).seen x = true ↔ x ∈ sAll S := fun x => ⟨fun hx => by
          have hx0 := mis_pos (by rw [hS]; exact I'.toInv0) (M'.obj x hx)
          rcases ns.2 x hx with h | h | h
          · exact (sn x).1 h
          · rw [hS] at h
            exact (made_fld I C A hy (f := 0) (by omega)).elim (fun e => by omega) fun h2 => by rw [h]; exact h2
          · rw [hS] at h
            exact (made_fld I C A hy (f := 1) (by omega)).elim (fun e => by omega) fun h2 => by rw [h]; exact h2, fun hx => ns.1 x ((sn x).2 hx)⟩
        rw [hS] at u' c1
        rw [hg] at u' c1
        refine ⟨rfl, _, ?_, All2.mark (T := { T1 with K := nextK T1.S T1.K y gs }) ph hS M2 sn2 lf, c0, ?_⟩
        · rw [hS]
          simp only
          omega
        · rw [hS]
          simp only
          omega
    | sweep1 ph hS on lf =>
      refine .inr ⟨by omega, ?_⟩
      rw [step_sweep1 ph lf, hS]
      exact ⟨(free_made I A junk).1, 1, by omega, All2.sweep ph rfl on rfl, c0, by simp only; omega⟩
    | sweep ph hS on lf =>
      refine .inr ⟨by omega, ?_⟩
      rw [step_sweep0 ph lf]
      exact ⟨rfl, 0, by omega, All2.off rfl hS on lf, by simp only; omega, by simp only; omega⟩
    | off ph hS on lf => exact .inl ph) _ { T with K := (sAll S).foldl (mShade T.S) mStart, ph := 1 } ⟨All2.mark rfl rfl M hsn hl, hc.1, hcy⟩
  · refine ⟨n, E, ?_⟩
    cases A' with
    | mark ph hS M al lf => exact absurd E.off (by rw [ph]; omega)
    | sweep1 ph hS on lf => exact absurd E.off (by rw [ph]; omega)
    | sweep ph hS on lf => exact hS
    | off ph hS on lf => exact hS
end
section
variable {w0 : W0} {w w' w1 : World} {q s h m : Nat} {T T' : SS} {D D' : DS}
set_option maxHeartbeats 6400000 in
set_option maxRecDepth 100000 in
/-- Full at a list that is kept. -/
theorem ls_fullQ (H : LS w0 w s h m T) (vr : Value) (l : List Int) (hv : Rd i64e w vr l) (hl : l.length ≤ 4096) (hbd : ∀ x ∈ l, -9223372036854775808 ≤ x ∧ x ≤ 9223372036854775807) (hQ : ∀ b, vr.ownBlock = some b → w0.Q b)
    (junk : Int) (hx : -9223372036854775808 ≤ junk ∧ junk ≤ 9223372036854775807) (n1 n2 : Nat) {T1 T2 T3 : SS} {a1 a3 : List Int} (E1 : Ends T junk n1) (h1 : qIt T junk n1 = T1) (h2 : qBegin T1 l = (T2, 0)) (E2 : Ends T2 junk n2) (h3 : qIt T2 junk n2 = T3) (ha1 : sAll T1.S = a1) (ha3 : sAll T3.S = a3) (hn1 : a1.length ≤ 4096) (hn3 : a3.length ≤ 4096) :
    Calls Tryz.prog 26 #[.pointer (some ⟨s, 0, none⟩), vr, .int .i64 junk] w fun e w' => e = .returned (.tuple #[.int .i64 ((a1.length : Int) - a3.length), .int .i64 0]) ∧ LS w0 w' s h m T3 := by
  have c0 := H.cells.1
  have HG := Lib.hid (ls_good H)
  have HF := Lib.hid (ls_finish H junk n1 E1 hx)
  rw [h1] at HF
  have hrd : Hid (∀ {w' : World} {T' : SS}, LS w0 w' s h m T' → Rd i64e w' vr l) := Lib.hid fun h' => hv.same fun hp b e hlt => (h'.keepsQ (hQ b e)).2.trans (H.keepsQ (hQ b e)).2.symm
  have hnf : Hid (∀ b, vr.ownBlock = some b → ¬ w0.free b) := Lib.hid fun b e hfr => hfr.2 (hQ b e)
  obtain ⟨A, c, rfl, -⟩ := hv.len
  replace hbd := Lib.hid hbd
  replace hx := Lib.hid hx
  replace h2 := Lib.hid h2
  replace h3 := Lib.hid h3
  replace E1 := Lib.hid E1
  replace E2 := Lib.hid E2
  replace ha1 := Lib.hid ha1
  replace ha3 := Lib.hid ha3
  clear H hv hQ h1
  go_enter Tryz.func26, Tryz.ntmps26
  go_wp2_with fail
  refine HG.out.mono ?_
  rintro e _ ⟨rfl, rfl⟩
  clear HG
  go_wp2_with fail
  refine HF.out.mono ?_
  rintro e w2 ⟨rfl, H2⟩
  have c0 := H2.cells.1
  replace H2 := Lib.hid H2
  clear HF
  go_wp2_with fail
  refine (ls_allH H2.out ha1.out).mono ?_
  rintro e w3 ⟨A3, c3, rfl, _, _, _, H3⟩
  replace H3 := Lib.hid H3
  clear H2
  go_wp2_with fail
  refine (ls_beginQ H3.out _ l (hrd.out H3.out) hl hbd.out hnf.out).mono ?_
  rw [h2.out]
  rintro e w4 ⟨rfl, H4⟩
  replace H4 := Lib.hid H4
  clear H3
  go_wp2_with fail
  have HF := ls_finish H4.out junk n2 E2.out hx.out
  rw [h3.out] at HF
  refine HF.mono ?_
  rintro e w5 ⟨rfl, H5⟩
  have c0 := H5.cells.1
  replace H5 := Lib.hid H5
  clear H4 HF
  go_wp2_with fail
  refine (ls_allH H5.out ha3.out).mono ?_
  rintro e w6 ⟨A6, c6, rfl, _, _, _, H6⟩
  replace H6 := Lib.hid H6
  have hw : IntKind.i64.wrap ((a1.length : Int) - a3.length) = (a1.length : Int) - a3.length := by rw [IntKind.wrap_i64]; omega
  clear H5
  go_wp2_with fail
  go_ret2
  exact ⟨rfl, H6.out⟩
theorem lx_beginQ (H : LX w0 w q s h m T D) (vr : Value) (l : List Int) (hv : Rd i64e w vr l) (hl : l.length ≤ 4096) (hbd : ∀ x ∈ l, -9223372036854775808 ≤ x ∧ x ≤ 9223372036854775807) (hQ : ∀ b, vr.ownBlock = some b → w0.Q b) :
    Calls Tryz.prog 18 #[.pointer (some ⟨s, 0, none⟩), vr] w fun e w' => e = .returned (.int .i64 (qBegin T l).2) ∧ LX w0 w' q s h m (qBegin T l).1 D :=
  H.callQ (P := fun e _ => e = .returned (.int .i64 (qBegin T l).2)) (T' := (qBegin T l).1) fun v0 hv0 L => ls_beginQ L vr l hv hl hbd fun b e hfr => hfr.2 (hv0 b (hQ b e))
theorem lx_fullQ (H : LX w0 w q s h m T D) (vr : Value) (l : List Int) (hv : Rd i64e w vr l) (hl : l.length ≤ 4096) (hbd : ∀ x ∈ l, -9223372036854775808 ≤ x ∧ x ≤ 9223372036854775807) (hQ : ∀ b, vr.ownBlock = some b → w0.Q b)
    (junk : Int) (hx : -9223372036854775808 ≤ junk ∧ junk ≤ 9223372036854775807) (n1 n2 : Nat) {T1 T2 T3 : SS} {a1 a3 : List Int} (E1 : Ends T junk n1) (h1 : qIt T junk n1 = T1) (h2 : qBegin T1 l = (T2, 0)) (E2 : Ends T2 junk n2) (h3 : qIt T2 junk n2 = T3) (ha1 : sAll T1.S = a1) (ha3 : sAll T3.S = a3) (hn1 : a1.length ≤ 4096) (hn3 : a3.length ≤ 4096) :
    Calls Tryz.prog 26 #[.pointer (some ⟨s, 0, none⟩), vr, .int .i64 junk] w fun e w' => e = .returned (.tuple #[.int .i64 ((a1.length : Int) - a3.length), .int .i64 0]) ∧ LX w0 w' q s h m T3 D :=
  H.callQ (P := fun e _ => e = .returned (.tuple #[.int .i64 ((a1.length : Int) - a3.length), .int .i64 0])) fun v0 hv0 L => ls_fullQ L vr l hv hl hbd (fun b e => hv0 b (hQ b e)) junk hx n1 n2 E1 h1 h2 E2 h3 ha1 ha3 hn1 hn3
theorem lx_all2 (H : LX w0 w q s h m T D) : Calls Tryz.prog 17 #[.pointer (some ⟨h, 0, none⟩)] w fun e w' => ∃ A c, e = .returned (.slice A (sAll T.S).length c) ∧ Rd i64e w' (.slice A (sAll T.S).length c) (sAll T.S) ∧ (∀ b, (Value.slice A (sAll T.S).length c).ownBlock = some b → w.heap.size ≤ b ∧ b < w'.heap.size) ∧ Below w.heap.size w w' := by
  obtain ⟨v0, F, Dm, G, W, hF, b⟩ := H.ls
  refine (all_s h T.S F w W.mm.hp).mono ?_
  rintro e w' ⟨v, rfl, ho, hb⟩
  obtain ⟨A, c, rfl, _⟩ := own_form ho
  exact ⟨A, c, rfl, Rd.of_own ho, fun b e => ho.lt b e, hb⟩
theorem lx_size (H : LX w0 w q s h m T D) (p : Int) (hp : -9223372036854775808 ≤ p ∧ p ≤ 9223372036854775807) :
    Calls Tryz.prog 25 #[.pointer (some ⟨h, 0, none⟩), .int .i64 p] w fun e w' => e = .returned (.tuple #[.int .i64 (sSize T.S p).1, .int .u8 (sSize T.S p).2.1, .bool (sSize T.S p).2.2]) ∧ LX w0 w' q s h m T D :=
  H.call (P := fun e _ => e = .returned (.tuple #[.int .i64 (sSize T.S p).1, .int .u8 (sSize T.S p).2.1, .bool (sSize T.S p).2.2])) fun v0 L => ls_sizeH L rfl hp
theorem lx_fits (H : LX w0 w q s h m T D) (n : Int) : Calls Tryz.prog 29 #[.pointer (some ⟨h, 0, none⟩), .int .i64 n] w fun e w' => e = .returned (.bool (sFits T.S n)) ∧ LX w0 w' q s h m T D :=
  H.call (P := fun e _ => e = .returned (.bool (sFits T.S n))) fun v0 L => ls_fitsH L rfl
theorem lx_alloc (H : LX w0 w q s h m T D) : Calls Tryz.prog 22 #[.pointer (some ⟨s, 0, none⟩), .int .i64 2, .int .u8 3, .int .i64 0] w fun e w' => e = .returned (.tuple #[.int .i64 (qAlloc T 2 3 0).2.1, .int .i64 (qAlloc T 2 3 0).2.2]) ∧ LX w0 w' q s h m (qAlloc T 2 3 0).1 D := by
  have hpb := alloc_bd H.inv
  exact H.call (P := fun e _ => e = .returned (.tuple #[.int .i64 (qAlloc T 2 3 0).2.1, .int .i64 (qAlloc T 2 3 0).2.2])) fun v0 L => ls_alloc L 2 3 0 (by omega) (by omega) hpb
end
end Go.Proofs.YtcaboknbdamlhaaGreatDoor
namespace Go.Proofs.YtcaboknbdamlhaaGreatDoor
open Go.RowKit Go.Maps

theorem mapi_law : Keyed Tryz.prog 3 := int_keyed Tryz.underlying3
theorem mapb_zero (w : World) : (zeroValue 4).run Tryz.prog w = .ok (.bool false) w := by kernel_rfl
/-- Block b is a map that has true just at the numbers ks, each listed once; at most n entries. -/
def SetM (w : World) (b n : Nat) (ks : List Int) : Prop :=
  ∃ D : DataW Unit, w.ownsMap Tryz.prog 3 (plainElem Tryz.prog 4) b n D ∧ (∀ x, D.atKey (.int .i64 x) (.lit (.bool false)) = .lit (.bool (decide (x ∈ ks)))) ∧ (∀ x, Maps.has D (.int .i64 x) = decide (x ∈ ks)) ∧ ks.Nodup ∧ Maps.size D = ks.length
theorem SetM.new (w : World) : SetM (w.alloc (.map #[] 0)) w.heap.size 0 [] := ⟨.map [], World.ownsMap_made _ _ _ _, fun _ => rfl, fun _ => rfl, by simp, rfl⟩
theorem SetM.kept {w w' : World} {b n : Nat} {ks : List Int} (h : SetM w b n ks) (hb : Below w.heap.size w w') : SetM w' b n ks := by
  obtain ⟨D, h1, h2⟩ := h
  exact ⟨D, h1.kept (row := none) ⟨hb.os, hb.tape, hb.output, hb.size, fun k hk _ => hb.block k hk⟩ (by simp), h2⟩
theorem SetM.lt {w : World} {b n : Nat} {ks : List Int} (h : SetM w b n ks) : b < w.heap.size := by
  obtain ⟨D, h1, _⟩ := h
  exact h1.lt
theorem SetM.look {w : World} {b n : Nat} {ks : List Int} (h : SetM w b n ks) (x : Int) (hw : (Lit.int .i64 x).wf = true) :
    (Instr.lookup 47 (.map (some b)) (.int .i64 x) false).run Tryz.prog w = .ok (.bool (decide (x ∈ ks))) w := by
  obtain ⟨D, h1, h2, _⟩ := h
  obtain ⟨v, ps, hrun, hv⟩ := h1.lookup mapi_law Tryz.underlying47 (mapb_zero w) (plainElem_bool Tryz.underlying4 false) (keyOf_int_mk Tryz.underlying3 hw)
  rw [h2 x] at hv
  rw [hrun]
  cases v <;> simp [plainElem, Tryz.underlying4] at hv
  rw [hv.1]
def addK (ks : List Int) (x : Int) : List Int := if x ∈ ks then ks else ks ++ [x]
theorem mem_addK {ks : List Int} {x y : Int} : y ∈ addK ks x ↔ y ∈ ks ∨ y = x := by
  unfold addK
  split
  · rename_i h
    exact ⟨.inl, fun e => e.elim id fun e => e ▸ h⟩
  · simp
theorem addK_nodup {ks : List Int} {x : Int} (h : ks.Nodup) : (addK ks x).Nodup := by
  unfold addK
  split
  · exact h
  · rename_i hx
    rw [List.nodup_append]
    exact ⟨h, by simp, fun a ha b hb e => by rw [List.mem_singleton] at hb; subst hb e; exact hx ha⟩
theorem addK_len (ks : List Int) (x : Int) : (addK ks x).length ≤ ks.length + 1 := by
  unfold addK
  split <;> simp
theorem SetM.put {w' : World} {b n : Nat} {ks : List Int} {x : Int} {D : DataW Unit} (ht : Tidy D) (hkey : WideAt.IsKeyLit (.int .i64 x)) (h2 : ∀ x, D.atKey (.int .i64 x) (.lit (.bool false)) = .lit (.bool (decide (x ∈ ks)))) (h3 : ∀ x, Maps.has D (.int .i64 x) = decide (x ∈ ks)) (h4 : ks.Nodup) (h5 : Maps.size D = ks.length)
    (h1 : w'.ownsMap Tryz.prog 3 (plainElem Tryz.prog 4) b (n + 1) (D.put (.int .i64 x) (.lit (.bool true)))) : SetM w' b (n + 1) (addK ks x) := by
  have ne : ∀ {y : Int}, y ≠ x → (Lit.int .i64 y) ≠ .int .i64 x := by
    intro y h e
    injection e with _ e
    exact h e
  refine ⟨_, h1, fun y => ?_, fun y => ?_, addK_nodup h4, ?_⟩
  · by_cases e : y = x
    · subst e
      rw [atKey_put_same ht.isMap hkey, decide_eq_true (mem_addK.2 (.inr rfl))]
    · rw [atKey_put_other (ne e), h2 y]
      congr 3
      exact propext ⟨fun h => mem_addK.2 (.inl h), fun h => (mem_addK.1 h).elim id fun h => absurd h e⟩
  · by_cases e : y = x
    · subst e
      rw [has_put_same ht.isMap hkey, decide_eq_true (mem_addK.2 (.inr rfl))]
    · rw [has_put_other (ne e), h3 y, decide_eq_decide, mem_addK]
      exact ⟨.inl, fun h => h.elim id fun h => absurd h e⟩
  · rw [size_put ht, h3 x, h5]
    unfold addK
    by_cases e : x ∈ ks
    · rw [if_pos e, if_pos (decide_eq_true e)]
    · rw [if_neg e, if_neg (by simp [e])]
      simp
section
variable {w : World} {ops : Array Oper} {rest : List Oper} {o : Oper} {a : Act} {Q : Exit → Act → World → Prop}
theorem wpList_setm_new (hgd : o.guard = none) (ho : o.op = .makeMap 47 none)
    (hrun : (execOp a.eval o).run Tryz.prog w = .ok (.value (.map (some w.heap.size))) (w.alloc (.map #[] 0)))
    (h : ∀ w', w'.heap.size = w.heap.size + 1 → Below w.heap.size w w' → SetM w' w.heap.size 0 [] → wpList Tryz.prog ops Q rest (a.put o.dst (.map (some w.heap.size))) w') : wpList Tryz.prog ops Q (o :: rest) a w := by
  refine wpList_plain hgd fun K hK => ?_
  unfold Oper.wp
  rw [hrun]
  exact hK _ _ (h _ (by simp) (below_alloc w _) (SetM.new w))
theorem wpList_setm_put (hgd : o.guard = none) (m x v : Operand) (ho : o.op = .mapUpdate 47 m x v) {b n : Nat} {ks : List Int} (hS : SetM w b n ks) (hm : a.eval m = .map (some b)) (hn : n < maxLen)
    (y : Int) (hx : a.eval x = .int .i64 y) (hv : a.eval v = .bool true) (hw : (Lit.int .i64 y).wf = true)
    (h : ∀ w', SetM w' b (n + 1) (addK ks y) → w.grownBy w' (some b) → wpList Tryz.prog ops Q rest (a.put o.dst undef) w') : wpList Tryz.prog ops Q (o :: rest) a w := by
  obtain ⟨D, h1, h2, h3, h4, h5⟩ := hS
  exact wpList_mapUpdate_own _ hgd m x v _ ho _ _ mapi_law Tryz.underlying47 _ b n D hm h1 hn _ _ (.int .i64 y) hx hv (keyOf_int_mk Tryz.underlying3 hw) (.lit (.bool true)) [] (plainElem_bool Tryz.underlying4 true)
    fun w' h6 h7 => h w' (SetM.put (h1.tidy mapi_law) trivial h2 h3 h4 h5 h6) h7
theorem wpList_setm_len (hgd : o.guard = none) (m : Operand) (ho : o.op = Op.call { callee := Callee.builtin Builtin.len, args := #[m], argTypes := #[47] }) {b n : Nat} {ks : List Int} (hS : SetM w b n ks) (hm : a.eval m = .map (some b))
    (h : wpList Tryz.prog ops Q rest (a.put o.dst (.int .i64 (ks.length : Nat))) w) : wpList Tryz.prog ops Q (o :: rest) a w := by
  obtain ⟨D, h1, h2, h3, h4, h5⟩ := hS
  refine wpList_len_own _ hgd m _ ho _ _ Tryz.underlying47 _ b n D hm h1 ?_
  rw [h5]
  exact h
end
end Go.Proofs.YtcaboknbdamlhaaGreatDoor
namespace Go.Proofs.YtcaboknbdamlhaaGreatDoor
open Go.RowKit Go.Maps
theorem SetM.of_block {w w' : World} {b n : Nat} {ks : List Int} (h : SetM w b n ks) (hb : w'.heap[b]? = w.heap[b]?) : SetM w' b n ks := by
  obtain ⟨D, ⟨es, clock, h1, h2⟩, h3⟩ := h
  exact ⟨D, ⟨es, clock, hb.trans h1, h2⟩, h3⟩
theorem SetM.not_cells {w : World} {b n : Nat} {ks : List Int} (h : SetM w b n ks) {o : Nat} {v : Value} (hc : w.cell? ⟨b, o, none⟩ = some v) : False := by
  obtain ⟨D, ⟨es, clock, h1, h2⟩, h3⟩ := h
  simp [World.cell?, h1] at hc
/-- 'for x := range m' under way: block r the iterator, cnt still to come. -/
def SetR (w : World) (b r n : Nat) (ks : List Int) (cnt : Nat) : Prop :=
  ∃ (D : DataW Unit) (left : Lit → Bool), w.ranges Tryz.prog 3 (plainElem Tryz.prog 4) b r n D left cnt ∧ (∀ x, left (.int .i64 x) = true → x ∈ ks)
theorem SetR.left {w : World} {b r n : Nat} {ks : List Int} {cnt : Nat} (h : SetR w b r n ks cnt) : w.rangeLeft b r = cnt := by
  obtain ⟨D, left, h1, _⟩ := h
  exact h1.left_eq
section
variable {w : World} {ops : Array Oper} {rest : List Oper} {o : Oper} {a : Act} {Q : Exit → Act → World → Prop}
theorem wpList_setm_range (hg : o.guard = none) (m : Operand) (hop : o.op = Op.range 47 m) {b n : Nat} {ks : List Int} (hS : SetM w b n ks) (hm : a.eval m = .map (some b))
    (hK : ∀ w' cnt, SetR w' b w.heap.size n ks cnt → Below w.heap.size w w' → w'.heap.size = w.heap.size + 1 → wpList Tryz.prog ops Q rest (a.put o.dst (.pointer (some ⟨w.heap.size, 0, none⟩))) w') :
    wpList Tryz.prog ops Q (o :: rest) a w := by
  obtain ⟨D, h1, h2, h3, h4, h5⟩ := hS
  refine wpList_range_own _ hg m _ hop 3 4 mapi_law Tryz.underlying47 _ b n D hm h1 ?_
  intro w' hr hg' hs
  refine hK w' _ ⟨D, _, hr, fun x hx => ?_⟩ ⟨hg'.os, hg'.tape, hg'.output, hg'.size, fun k hk => hg'.block k hk (by simp)⟩ hs
  rw [h3 x] at hx
  exact of_decide_eq_true hx
theorem wpList_setm_next (hg : o.guard = none) (it : Operand) (hop : o.op = Op.next it false) {b r n cnt : Nat} {ks : List Int} (h : SetR w b r n ks cnt) (hit : a.eval it = .pointer (some ⟨r, 0, none⟩))
    (hDone : wpList Tryz.prog ops Q rest (a.put o.dst (.tuple #[.bool false])) w)
    (hMore : ∀ (x : Int) (c : Value) (w' : World) (cnt' : Nat), x ∈ ks → (Lit.int .i64 x).wf = true → SetR w' b r n ks cnt' → cnt' < cnt → w.grownBy w' (some r) → w'.heap.size = w.heap.size → (Instr.entry (.pointer (some ⟨r, 0, none⟩))).run Tryz.prog w' = .ok (.tuple #[.int .i64 x, c]) w' → wpList Tryz.prog ops Q rest (a.put o.dst (.tuple #[.bool true, .int .i64 x, c])) w') :
    wpList Tryz.prog ops Q (o :: rest) a w := by
  obtain ⟨D, left, hr, hl⟩ := h
  refine wpList_next_ranges w hg it hop 3 mapi_law (plainElem Tryz.prog 4) (Value.int .i64) Value.bool
    (fun key kl hkey => by obtain ⟨x, rfl, _⟩ := Maps.keyOf_int_inv Tryz.underlying3 hkey; exact ⟨x, rfl⟩)
    (fun v y hv => by
      cases v <;> simp [plainElem, Tryz.underlying4] at hv
      exact ⟨_, rfl⟩) b r n D left cnt hit hr (fun _ _ => hDone) fun x c kl y w' cnt' hkey hlk hv hat hrg hlt hgr hsz hen => ?_
  obtain ⟨x', ex, rfl, hwx⟩ := Maps.keyOf_int_inv Tryz.underlying3 hkey
  cases ex
  exact hMore x (.bool c) w' cnt' (hl x hlk) hwx ⟨D, _, hrg, fun z hz => hl z (by
    have := hz
    simp only [Bool.and_eq_true] at this
    exact this.1)⟩ hlt hgr hsz hen
end
end Go.Proofs.YtcaboknbdamlhaaGreatDoor
namespace Go.Proofs.YtcaboknbdamlhaaGreatDoor
open Go.RowKit Go.Shelf
def TailR (w : World) (B : Nat) (v : Value) (xs : List Int) : Prop :=
  (v = .slice none 0 0 ∧ xs = []) ∨ ∃ g o cap cur, v = .slice (some ⟨g, o, none⟩) xs.length cap ∧ B ≤ g ∧ w.heap[g]? = some (.cells cur 3 (0, 0)) ∧ xs.length ≤ cap ∧ cap ≤ maxLen ∧ o + cap ≤ cur.size ∧ ∀ i (h : i < xs.length), cur[o + i]? = some (.int .i64 xs[i])
section
variable {w w' : World} {B : Nat} {v : Value} {xs : List Int}
theorem TailR.form (h : TailR w B v xs) : ∃ A c, v = .slice A xs.length c := by
  rcases h with ⟨rfl, rfl⟩ | ⟨g, o, cap, cur, rfl, _⟩
  · exact ⟨none, 0, rfl⟩
  · exact ⟨_, _, rfl⟩
theorem TailR.lt (h : TailR w B v xs) : ∀ k, v.ownBlock = some k → B ≤ k ∧ k < w.heap.size := by
  intro k hk
  rcases h with ⟨rfl, _⟩ | ⟨g, o, cap, cur, rfl, hb, hg, _⟩
  · cases hk
  · have e : g = k := by simpa [Value.ownBlock] using hk
    subst e
    exact ⟨hb, (Array.getElem?_eq_some_iff.1 hg).1⟩
theorem TailR.own {n : Nat} (h : w.ownsRow B 3 1 v n (xs.map i64e)) : TailR w B v xs := by
  have hn : n = xs.length := by have := h.1; rw [List.length_map] at this; omega
  subst hn
  rcases h.2 with ⟨rfl, h0⟩ | ⟨g, cap, cur, rfl, hb, hg, hnc, hcm, hcs, ht⟩
  · exact .inl ⟨rfl, List.eq_nil_of_length_eq_zero h0⟩
  · refine .inr ⟨g, 0, cap, cur, rfl, hb, hg, hnc, hcm, by omega, fun i hi => ?_⟩
    have h1 : (cur.toList.take (xs.length * 1))[i]? = some (.int .i64 xs[i]) := by
      rw [ht, List.getElem?_map, List.getElem?_eq_getElem hi]
      rfl
    rw [List.getElem?_take, if_pos (by omega)] at h1
    rw [Nat.zero_add]
    simpa using h1
theorem TailR.kept (h : TailR w B v xs) (hk : ∀ k, v.ownBlock = some k → k < w.heap.size → w'.heap[k]? = w.heap[k]?) : TailR w' B v xs := by
  rcases h with h | ⟨g, o, cap, cur, rfl, hb, hg, rest⟩
  · exact .inl h
  · exact .inr ⟨g, o, cap, cur, rfl, hb, (hk g rfl (Array.getElem?_eq_some_iff.1 hg).1).trans hg, rest⟩
theorem TailR.below (h : TailR w B v xs) (hb : Below w.heap.size w w') : TailR w' B v xs := h.kept fun k _ hlt => hb.block k hlt
/-- Its first number. -/
theorem TailR.head {x : Int} (h : TailR w B v (x :: xs)) : ∃ g o cap, v = .slice (some ⟨g, o, none⟩) (xs.length + 1) cap ∧ 1 ≤ cap ∧ w.cell? ⟨g, o, none⟩ = some (.int .i64 x) ∧ (cap = 1 → TailR w B (.slice (some ⟨g, o, none⟩) 0 0) xs) ∧ (cap ≠ 1 → TailR w B (.slice (some ⟨g, o + 1, none⟩) xs.length (cap - 1)) xs) ∧ xs.length + 1 ≤ cap ∧ cap ≤ maxLen := by
  rcases h with ⟨_, h⟩ | ⟨g, o, cap, cur, rfl, hb, hg, hnc, hcm, hcs, hx⟩
  · cases h
  · have hl : (x :: xs).length = xs.length + 1 := rfl
    rw [hl] at hnc
    refine ⟨g, o, cap, rfl, by omega, ?_, fun hc => ?_, fun hc => ?_, hnc, hcm⟩
    · have h0 := hx 0 (by rw [hl]; omega)
      rw [cell_of_row w g o cur _ (0, 0) hg]
      simpa using h0
    · have : xs = [] := List.eq_nil_of_length_eq_zero (by omega)
      subst this
      exact .inr ⟨g, o, 0, cur, rfl, hb, hg, Nat.le_refl _, Nat.zero_le _, by omega, fun i hi => absurd hi (Nat.not_lt_zero _)⟩
    · refine .inr ⟨g, o + 1, cap - 1, cur, rfl, hb, hg, by omega, by omega, by omega, fun i hi => ?_⟩
      have h0 := hx (i + 1) (by rw [hl]; omega)
      rw [show o + 1 + i = o + (i + 1) by omega, h0]
      rfl
end
theorem run_append_off {P : Program} (w : World) (t ty e : TypeId) (i : TypeInfo) (ht : P.underlying t = some (.slice e)) (hi : P.info? e = some i) (h1 : i.size = 1)
    (g o sLen sCap : Nat) (cur : Array Value) (hg : w.heap[g]? = some (.cells cur e (0, 0)))
    (a : Addr) (c : Nat) (u : Value) (hnews : w.cell? a = some u) (hu : u.oneCell' = true)
    (hroom : sLen + 1 ≤ sCap) (hfit : o + sLen + 1 ≤ cur.size) :
    (Builtin.append_ #[t, t] ty #[.slice (some ⟨g, o, none⟩) sLen sCap, .slice (some a) 1 c]).run P w =
      .ok (.slice (some ⟨g, o, none⟩) (sLen + 1) sCap) (w.setRow g (cur.toList.take (o + sLen) ++ [u] ++ cur.toList.drop (o + sLen + 1)).toArray) := by
  have ha0 : a.add 0 = a := by
    unfold Addr.add
    split <;> simp_all
  have hf := run_firstCells_some (P := P) w i.size 1 a 1 c [u] (by rw [h1]; rfl) (fun j v hv => by
    have hj : j = 0 := by
      have := (List.getElem?_eq_some_iff.1 hv).1
      simp at this
      exact this
    subst hj
    simp at hv
    subst hv
    rw [ha0]
    exact hnews)
  have hst := run_storeCells_at P g (o + sLen) e [u] 0 cur w hg (by simpa using hfit) (by intro y hy; rw [List.mem_singleton.1 hy]; exact hu)
  have hadd : (⟨g, o, none⟩ : Addr).add sLen = ⟨g, o + sLen, none⟩ := Addr.add_mid g o sLen
  simp only [Nat.add_zero, List.length_singleton] at hst
  rw [h1] at hf
  simp [Builtin.append_, run_underlying ht, sizeOf, typeInfo, hi, Builtin.lenOf, hroom, hf, h1, hadd, hst]
/-- One number more. -/
theorem wpList_push_tail {w0 : World} {ops : Array Oper} {rest : List Oper} {o : Oper} {a : Act} {Q : Exit → Act → World → Prop} (hgd : o.guard = none) (s x : Operand)
    (ho : o.op = .call { callee := .builtin .append, args := #[s, x], argTypes := #[36, 36] })
    (B : Nat) (v : Value) (xs : List Int) (hs : a.eval s = v) (hT : TailR w0 B v xs) (y : Int)
    (hx : a.eval x = .slice (some ⟨w0.heap.size, 0, none⟩) 1 1) (hn : xs.length ≤ 100000) (hbase : B ≤ w0.heap.size)
    (h : ∀ v' w', TailR w' B v' (xs ++ [y]) → Below B w0 w' → w0.heap.size ≤ w'.heap.size → (∀ k, k < w0.heap.size → v.ownBlock ≠ some k → w'.heap[k]? = w0.heap[k]?) → (∀ k, v'.ownBlock = some k → v.ownBlock = some k ∨ w0.heap.size ≤ k) → wpList Tryz.prog ops Q rest (a.put o.dst v') w') :
    wpList Tryz.prog ops Q (o :: rest) a (w0.alloc (.cells #[.int .i64 y] 3)) := by
  obtain ⟨i, hi1, hz, hsize, hby⟩ := info_parts (P := Tryz.prog) (e := 3) int_info
  have hcell : (w0.alloc (.cells #[.int .i64 y] 3)).cell? ⟨w0.heap.size, 0, none⟩ = some (.int .i64 y) := (Blk.new w0 3 #[.int .i64 y]).cell 0
  rcases hT with ⟨rfl, rfl⟩ | ⟨g, off, cap, cur, rfl, hb, hg, hnc, hcm, hcs, hxs⟩
  · refine wpList_push hgd s x _ ho B 3 _ 8 Tryz.underlying36 int_info rfl (.slice none 0 0) 0 [] hs (World.ownsRow_nil _ _ _ _) (.int .i64 y) rfl hx (by unfold maxLen; omega) (by omega) hbase fun v' w' h1 h2 h3 => ?_
    have h1' : w'.ownsRow B 3 1 v' 1 (([y] : List Int).map i64e) := h1
    refine h v' w' (TailR.own h1') ⟨h2.os, h2.tape, h2.output, h2.size, fun k hk => h2.block k (by omega) (by simp [Value.ownBlock])⟩ h2.size (fun k hk _ => h2.block k hk (by simp [Value.ownBlock])) fun k hk => ?_
    rcases h3 with e | e
    · rw [hk] at e; cases e
    · rw [hk] at e
      injection e with e
      exact .inr (by omega)
  · have hgl : g < w0.heap.size := (Array.getElem?_eq_some_iff.1 hg).1
    have hg1 : (w0.alloc (.cells #[.int .i64 y] 3)).heap[g]? = some (.cells cur 3 (0, 0)) := (Below.heap_alloc w0 _ g hgl).trans hg
    have hsz : (w0.alloc (.cells #[.int .i64 y] 3)).heap.size = w0.heap.size + 1 := by simp
    refine wpList_plain hgd fun K hK => ?_
    by_cases hroom : xs.length + 1 ≤ cap
    · have hr := run_append_off (P := Tryz.prog) (w0.alloc (.cells #[.int .i64 y] 3)) 36 o.type 3 i Tryz.underlying36 hi1 hsize g off xs.length cap cur hg1 ⟨w0.heap.size, 0, none⟩ 1 (.int .i64 y) hcell rfl hroom (by omega)
      unfold Oper.wp execOp
      simp only [ho, resolve, invoke, builtin, Sem.run_bind, Sem.run_pure, Result.andThen_ok, List.map_toArray, List.map_cons, List.map_nil, hs, hx, hr]
      have hrow := setRow_heap (w0.alloc (.cells #[.int .i64 y] 3)) g cur (cur.toList.take (off + xs.length) ++ [Value.int .i64 y] ++ cur.toList.drop (off + xs.length + 1)).toArray 3 (0, 0) hg1
      have hoth : ∀ k, k ≠ g → ((w0.alloc (.cells #[.int .i64 y] 3)).setRow g (cur.toList.take (off + xs.length) ++ [Value.int .i64 y] ++ cur.toList.drop (off + xs.length + 1)).toArray).heap[k]? = (w0.alloc (.cells #[.int .i64 y] 3)).heap[k]? := fun k hk => setRow_other _ g k _ hk
      have hsr : ((w0.alloc (.cells #[.int .i64 y] 3)).setRow g (cur.toList.take (off + xs.length) ++ [Value.int .i64 y] ++ cur.toList.drop (off + xs.length + 1)).toArray).heap.size = w0.heap.size + 1 := by rw [size_setRow, hsz]
      refine hK _ _ (h _ _ (.inr ⟨g, off, cap, _, by rw [List.length_append]; rfl, hb, hrow, by rw [List.length_append]; exact hroom, hcm, ?_, fun j hj => ?_⟩) ⟨rfl, rfl, rfl, by rw [hsr]; omega, fun k hk => (hoth k (by omega)).trans (Below.heap_alloc w0 _ k (by omega))⟩ (by rw [hsr]; omega) (fun k hk hne => (hoth k fun e => hne (by rw [e]; rfl)).trans (Below.heap_alloc w0 _ k hk)) fun k hk => .inl hk)
      · simp only [List.size_toArray, List.length_append, List.length_take, List.length_drop, Array.length_toList, List.length_singleton]
        omega
      · have hcl : cur.toList.length = cur.size := Array.length_toList
        rw [List.getElem?_toArray]
        rw [List.length_append] at hj
        simp only [List.length_singleton] at hj
        by_cases hj2 : j < xs.length
        · rw [List.append_assoc, List.getElem?_append_left (by rw [List.length_take]; omega), List.getElem?_take, if_pos (by omega)]
          rw [List.getElem_append_left hj2]
          have := hxs j hj2
          simpa using this
        · obtain rfl : j = xs.length := by omega
          rw [List.append_assoc, List.getElem?_append_right (by rw [List.length_take]; omega), List.length_take, Nat.min_eq_left (by omega)]
          simp
    · have hcap : cap = xs.length := by omega
      subst hcap
      have hr := run_append_grow (P := Tryz.prog) (w0.alloc (.cells #[.int .i64 y] 3)) 36 o.type 3 i _ Tryz.underlying36 hi1 hz ⟨g, off, none⟩ xs.length xs.length (xs.map i64e) (by rw [List.length_map, hsize]; omega) (fun j u hu => by
        have hj : j < xs.length := by have := (List.getElem?_eq_some_iff.1 hu).1; simpa using this
        rw [List.getElem?_map, List.getElem?_eq_getElem hj] at hu
        have hu2 : i64e xs[j] = u := by simpa using hu
        rw [Addr.add_mid, cell_of_row _ g (off + j) cur _ (0, 0) hg1, hxs j hj, ← hu2]) ⟨w0.heap.size, 0, none⟩ 1 1 [.int .i64 y] (by rw [hsize]; rfl) (cell_one_new w0 _ _) (by omega) (by omega) (growslice_fits (by omega) (by rw [hby]; omega))
      unfold Oper.wp execOp
      simp only [ho, resolve, invoke, builtin, Sem.run_bind, Sem.run_pure, Result.andThen_ok, List.map_toArray, List.map_cons, List.map_nil, hs, hx, hr]
      have hge := grownCap_ge (w0.alloc (.cells #[.int .i64 y] 3)) (xs.length + 1) xs.length 3
      have hgm := grownCap_le_maxLen (w0.alloc (.cells #[.int .i64 y] 3)) (xs.length + 1) xs.length 3 (by unfold maxLen; omega)
      generalize grownCap (w0.alloc (.cells #[.int .i64 y] 3)) (xs.length + 1) xs.length 3 = gc at hge hgm ⊢
      have hd : (w0.alloc (.cells #[.int .i64 y] 3)).drew.heap = (w0.alloc (.cells #[.int .i64 y] 3)).heap := rfl
      refine hK _ _ (h _ _ (.inr ⟨_, 0, gc, _, by rw [List.length_append]; rfl, (by show B ≤ (w0.alloc (.cells #[.int .i64 y] 3)).heap.size; rw [hsz]; omega), heap_alloc_new (w0.alloc (.cells #[.int .i64 y] 3)).drew _, by rw [List.length_append]; exact hge, hgm, ?_, fun j hj => ?_⟩) ⟨rfl, rfl, rfl, by simp; omega, fun k hk => (heap_alloc_old (w0.alloc (.cells #[.int .i64 y] 3)).drew _ k (by show k < (w0.alloc (.cells #[.int .i64 y] 3)).heap.size; omega)).trans (Below.heap_alloc w0 _ k (by omega))⟩ (by simp; omega) (fun k hk _ => (heap_alloc_old (w0.alloc (.cells #[.int .i64 y] 3)).drew _ k (by show k < (w0.alloc (.cells #[.int .i64 y] 3)).heap.size; omega)).trans (Below.heap_alloc w0 _ k hk)) fun k hk => .inr ?_)
      · simp only [Array.size_append, List.size_toArray, size_zeroCells, List.length_map, List.length_singleton]
        have : (Value.cells (.int .i64 0)).size = 1 := rfl
        rw [this]
        omega
      · rw [Nat.zero_add]
        rw [List.length_append] at hj
        simp only [List.length_singleton] at hj
        rw [Array.getElem?_append_left (by simp; omega)]
        by_cases hj2 : j < xs.length
        · rw [Array.getElem?_append_left (by simp; omega), List.getElem_append_left hj2]
          simp [hj2]
        · obtain rfl : j = xs.length := by omega
          rw [Array.getElem?_append_right (by simp)]
          simp
      · have e : (w0.alloc (.cells #[.int .i64 y] 3)).heap.size = k := by simpa [Value.ownBlock] using hk
        omega
end Go.Proofs.YtcaboknbdamlhaaGreatDoor
namespace Go.Proofs.YtcaboknbdamlhaaGreatDoor
open Go.RowKit Go.Shelf
/-- What can be reached from some numbers. -/
inductive RcS (S : HS) (l : List Int) : Int → Prop
  | root {x : Int} (h : x ∈ l) (h0 : x ≠ 0) : RcS S l x
  | fld {y : Int} (h : RcS S l y) (f : Nat) (hf : f < 2) (h0 : fldA S y f ≠ 0) : RcS S l (fldA S y f)
theorem RcS.good {S : HS} {l : List Int} (I : Inv0 S) (C : Clo S) (hl : ∀ x ∈ l, Good S x) {x : Int} (h : RcS S l x) : mIs S x = true := by
  induction h with
  | root h h0 => exact (hl _ h).resolve_left h0
  | fld h f hf h0 ih => exact (C.good I ih hf).resolve_left h0
structure RI (S : HS) (l td ks : List Int) (n : Nat) : Prop where
  tdR : ∀ x ∈ td, x = 0 ∨ RcS S l x
  ksR : ∀ x ∈ ks, RcS S l x
  nd : ks.Nodup
  n : n ≤ ks.length
  root : ∀ x ∈ l, x ≠ 0 → x ∈ ks ∨ x ∈ td
  clo : ∀ y ∈ ks, ∀ f : Nat, f < 2 → fldA S y f ≠ 0 → fldA S y f ∈ ks ∨ fldA S y f ∈ td
  tl : td.length ≤ 4096 + 2 * ks.length
section
variable {S : HS} {l td ks : List Int} {n : Nat} {x : Int}
theorem RI.start (hl : l.length ≤ 4096) : RI S l l [] 0 :=
  ⟨fun x hx => if h : x = 0 then .inl h else .inr (.root hx h), fun x hx => (by cases hx), by simp, Nat.le_refl _, fun x hx _ => .inr hx, fun y hy => (by cases hy), by simp; omega⟩
theorem RI.skip (R : RI S l (x :: td) ks n) (h : x = 0 ∨ x ∈ ks) : RI S l td ks n :=
  ⟨fun y hy => R.tdR y (List.mem_cons_of_mem _ hy), R.ksR, R.nd, R.n, fun y hy h0 => (R.root y hy h0).elim .inl fun h1 => (List.mem_cons.1 h1).elim (fun e => h.elim (fun e0 => absurd (e.trans e0) h0) fun h2 => .inl (e ▸ h2)) .inr,
    fun y hy f hf h0 => (R.clo y hy f hf h0).elim .inl fun h1 => (List.mem_cons.1 h1).elim (fun e => h.elim (fun e0 => absurd (e.trans e0) h0) fun h2 => .inl (e ▸ h2)) .inr, by have := R.tl; simp only [List.length_cons] at this; omega⟩
theorem RI.take (R : RI S l (x :: td) ks n) (h0 : x ≠ 0) (hk : x ∉ ks) : RI S l (td ++ [fldA S x 0, fldA S x 1]) (ks ++ [x]) (n + 1) := by
  have hx : RcS S l x := (R.tdR x (by simp)).resolve_left h0
  refine ⟨fun y hy => ?_, fun y hy => ?_, ?_, ?_, fun y hy hy0 => ?_, fun y hy f hf hf0 => ?_, ?_⟩
  · rcases List.mem_append.1 hy with h | h
    · exact R.tdR y (List.mem_cons_of_mem _ h)
    · by_cases e : y = 0
      · exact .inl e
      · simp only [List.mem_cons, List.not_mem_nil, or_false] at h
        rcases h with rfl | rfl
        · exact .inr (.fld hx 0 (by omega) e)
        · exact .inr (.fld hx 1 (by omega) e)
  · rcases List.mem_append.1 hy with h | h
    · exact R.ksR y h
    · rw [List.mem_singleton.1 h]; exact hx
  · rw [List.nodup_append]
    exact ⟨R.nd, by simp, fun a ha b hb e => by rw [List.mem_singleton] at hb; subst hb e; exact hk ha⟩
  · have := R.n
    simp
    omega
  · rcases R.root y hy hy0 with h | h
    · exact .inl (List.mem_append_left _ h)
    · rcases List.mem_cons.1 h with rfl | h
      · exact .inl (List.mem_append_right _ (by simp))
      · exact .inr (List.mem_append_left _ h)
  · rcases List.mem_append.1 hy with h | h
    · rcases R.clo y h f hf hf0 with h | h
      · exact .inl (List.mem_append_left _ h)
      · rcases List.mem_cons.1 h with e | h
        · exact .inl (List.mem_append_right _ (by simp [e]))
        · exact .inr (List.mem_append_left _ h)
    · rw [List.mem_singleton.1 h]
      rcases (by omega : f = 0 ∨ f = 1) with rfl | rfl
      · exact .inr (List.mem_append_right _ (by simp))
      · exact .inr (List.mem_append_right _ (by simp))
  · have := R.tl
    simp only [List.length_cons, List.length_append, List.length_nil] at this ⊢
    omega
theorem RI.done (R : RI S l [] ks n) (x : Int) : x ∈ ks ↔ RcS S l x := by
  refine ⟨R.ksR x, fun h => ?_⟩
  induction h with
  | root h h0 => exact (R.root _ h h0).resolve_right (by simp)
  | fld h f hf h0 ih => exact (R.clo _ ih f hf h0).resolve_right (by simp)
theorem RI.len (R : RI S l td ks n) (I : Inv0 S) (C : Clo S) (hl : ∀ x ∈ l, Good S x) : ks.length ≤ 4096 :=
  nodup_lenI 4096 _ R.nd fun x hx => by have := mis_pos I ((R.ksR x hx).good I C hl); omega
end
/-- The walk is on its way: so many rounds are left at most. -/
def RP (w : World) (bm : Nat) (S : HS) (l : List Int) (v : Value) (wr : World) (d : Nat) : Prop :=
  ∃ td ks n, TailR wr (bm + 1) v td ∧ SetM wr bm n ks ∧ Below w.heap.size w wr ∧ RI S l td ks n ∧ d = 2 * (4096 - ks.length) + td.length
section
variable {w0 : W0} {w w' w1 : World} {q s h m : Nat} {T T' : SS} {D D' : DS}
theorem lx_load (H : LX w0 w q s h m T D) (p f : Int) (hp : -9223372036854775808 ≤ p ∧ p ≤ 9223372036854775807) :
    Calls Tryz.prog 28 #[.pointer (some ⟨h, 0, none⟩), .int .i64 p, .int .i64 f] w fun e w' => e = .returned (.tuple #[.int .i64 (sLoad T.S p f).1, .int .i64 (sLoad T.S p f).2]) ∧ Below w.heap.size w w' := by
  obtain ⟨v0, F, Dm, G, W, hF, b⟩ := H.ls
  exact load_s h T.S F w p f W.mm.hp hp.1 hp.2
theorem wf_i64 {x : Int} (h : 0 ≤ x ∧ x ≤ 4096) : (Lit.int .i64 x).wf = true := by
  simp [Lit.wf, IntKind.min, IntKind.max, IntKind.signed, IntKind.bits]; omega
set_option maxHeartbeats 12800000 in
set_option maxRecDepth 100000 in
theorem lx_reach (H : LX w0 w q s h m T D) (C : Clo T.S) (vr : Value) (l : List Int) (hv : Rd i64e w vr l) (hl : l.length ≤ 4096) (hg : ∀ x ∈ l, Good T.S x) :
    Calls Tryz.prog 16 #[.pointer (some ⟨h, 0, none⟩), vr] w fun e w' => ∃ bm n ks, e = .returned (.map (some bm)) ∧ SetM w' bm n ks ∧ n ≤ 4096 ∧ w.heap.size ≤ bm ∧ (∀ x, x ∈ ks ↔ RcS T.S l x) ∧ Below w.heap.size w w' := by
  obtain ⟨A, c, rfl, hlc, -⟩ := hv.len
  have I := Lib.hid H.inv.toInv0
  replace C := Lib.hid C
  replace hg := Lib.hid hg
  obtain ⟨S, hS⟩ : ∃ S, S = T.S := ⟨_, rfl⟩
  rw [← hS] at I C hg ⊢
  have HLd : Hid (∀ (wx : World) (x : Int) (f : Nat), Below w.heap.size w wx → mIs S x = true → f < 2 → Calls Tryz.prog 28 #[.pointer (some ⟨h, 0, none⟩), .int .i64 x, .int .i64 f] wx fun e w' => e = .returned (.tuple #[.int .i64 (fldA S x f), .int .i64 0]) ∧ Below wx.heap.size wx w') := Lib.hid fun wx x f hb hx hf => by
    have hxb := mis_pos I.out hx
    have := lx_load (H.below hb) x f (by omega)
    rw [← hS, C.out.load I.out hx hf] at this
    exact this
  replace hS := Lib.hid hS
  replace hv := Lib.hid hv
  clear H
  go_enter Tryz.func16, Tryz.ntmps16
  go_wp2_with (refine wpList_setm_new rfl rfl (by kernel_rfl) ?_; intro w1 hs1 hb1 hS1; refine stop_here ?_)
  obtain ⟨bm, hbm⟩ : ∃ bm, bm = w.heap.size := ⟨_, rfl⟩
  rw [← hbm] at hS1 ⊢
  have hz1 : bm + 1 ≤ w1.heap.size := by omega
  have hv1 := Lib.hid (hv.out.below hb1)
  replace hS1 := Lib.hid hS1
  replace hbm := Lib.hid hbm
  refine go_on ?_
  go_wp2_with (at_builtin; refine wpList_append_all rfl (.const (.slice none 0 0)) (.tmp 12) _ rfl (bm + 1) 3 _ 8 Tryz.underlying36 int_info rfl (.slice none 0 0) 0 [] rfl (World.ownsRow_nil _ _ _ _) i64e _ l (fun _ => rfl) rfl hv1.out (by unfold maxLen; omega) (by omega) hz1 ?_; intro v2 w2 hown2 hg2 hat2; refine stop_here ?_)
  have hown2 : w2.ownsRow (bm + 1) 3 1 v2 l.length (l.map i64e) := by simpa using hown2
  have hb12 : Below w1.heap.size w1 w2 := ⟨hg2.os, hg2.tape, hg2.output, hg2.size, fun k hk => hg2.block k hk (by simp [Value.ownBlock])⟩
  have hb2 := hb1.trans (hb12.mono hb1.size)
  have hS2 := hS1.out.kept hb12
  have R0 : Hid (∃ d, RP w bm S l v2 w2 d) := Lib.hid ⟨_, l, [], 0, TailR.own hown2, hS2, hb2, RI.start hl, rfl⟩
  obtain ⟨A2, c2, rfl, -⟩ := own_form hown2
  clear hown2 hg2 hat2 hb12 hS2 hb2 hS1 hs1 hb1 hz1 hv1
  refine go_on ?_
  go_wp2_with fail
  go_loopw [6] (fun vt wr => Hid (∃ d, RP w bm S l vt wr d)) (fun vt wr => mea (RP w bm S l vt wr))
  case atStart => exact R0
  case round =>
    clear R0
    have hsp := mea_spec hrel.out
    obtain ⟨d, hd⟩ : ∃ d, d = mea (RP w bm S l u6 wr) := ⟨_, rfl⟩
    rw [← hd] at hsp
    obtain ⟨td, ks, n, TR, SM, hbw, R, hdd⟩ := hsp
    replace hd := Lib.hid hd
    have hkl := R.len I.out C.out hg.out
    rcases td with _ | ⟨x, td⟩
    · obtain ⟨At, ct, rfl⟩ := TR.form
      have hfin := Lib.hid (show ∃ bm' n' ks', Value.map (some bm) = .map (some bm') ∧ SetM wr bm' n' ks' ∧ n' ≤ 4096 ∧ w.heap.size ≤ bm' ∧ (∀ x, x ∈ ks' ↔ RcS S l x) ∧ Below w.heap.size w wr from ⟨bm, n, ks, rfl, SM, by have := R.n; omega, by have := hbm.out; omega, R.done, hbw⟩)
      have hz : ([] : List Int).length = 0 := rfl
      rw [hz]
      clear hrel hd TR SM R hdd hkl
      go_wp2_with fail
      go_ret
      obtain ⟨bm', n', ks', e, h1⟩ := hfin.out
      cases e
      exact ⟨bm, n', ks', rfl, h1⟩
    · have hxr := R.tdR x (by simp)
      have hxb : 0 ≤ x ∧ x ≤ 4096 := by
        rcases hxr with rfl | h
        · omega
        · have := mis_pos I.out (h.good I.out C.out hg.out); omega
      obtain ⟨gq, oq, cq, rfl, hc1, hcell, ht1, ht2, hcl, hcm⟩ := TR.head
      have hlk := SM.look x (wf_i64 hxb)
      have htl := R.tl
      simp only [List.length_cons] at htl hdd
      have hgl := TR.lt gq rfl
      have z1 : (0 : Int) < (td.length : Int) + 1 := by omega
      have z2 : (1 : Int) ≤ (td.length : Int) + 1 := by omega
      have z3 : (td.length : Int) + 1 ≤ (cq : Int) := by omega
      have z4 : decide ((0 : Int) < (td.length : Int) + 1) = true := decide_eq_true z1
      by_cases hc0 : cq = 1
      · subst hc0
        have TR2 := ht1 rfl
        have htd : td = [] := List.eq_nil_of_length_eq_zero (by omega)
        subst htd
        clear ht1 ht2
        have hz : ([] : List Int).length = 0 := rfl
        rw [hz] at z1 z2 z3 z4 ⊢
        replace hd : Hid (d = mea (RP w bm S l (.slice (some ⟨gq, oq, none⟩) (0 + 1) 1) wr)) := hd
        replace TR2 := Lib.hid TR2
        replace hrel := Lib.hid hrel
        replace hcl := Lib.hid hcl
        replace TR := Lib.hid TR
        by_cases hskip : x = 0 ∨ x ∈ ks
        · have hnext : Hid (RP w bm S l (.slice (some ⟨gq, oq, none⟩) 0 0) wr (2 * (4096 - ks.length) + ([] : List Int).length)) := Lib.hid ⟨[], ks, n, TR2.out, SM, hbw, R.skip hskip, rfl⟩
          have hdec : Hid (2 * (4096 - ks.length) + ([] : List Int).length < d) := Lib.hid (by omega)
          replace SM := Lib.hid SM
          replace R := Lib.hid R
          replace hdd := Lib.hid hdd
          by_cases h0 : x = 0
          · subst h0
            clear hxr hxb hskip hlk
            go_wp2_with fail
            go_roundw
            case rel => exact Lib.hid ⟨_, hnext.out⟩
            case measure =>
              have h1 := mea_le hnext.out
              have h2 := hd.out
              have h3 := hdec.out
              omega
          · have hk : x ∈ ks := hskip.resolve_left h0
            rw [decide_eq_true hk] at hlk
            have y1 : (x == 0) = false := beq_eq_false_iff_ne.2 h0
            replace hxr := Lib.hid hxr
            replace hskip := Lib.hid hskip
            replace hk := Lib.hid hk
            go_wp2_with fail
            go_roundw
            case rel => exact Lib.hid ⟨_, hnext.out⟩
            case measure =>
              have h1 := mea_le hnext.out
              have h2 := hd.out
              have h3 := hdec.out
              omega
        · have h0 : x ≠ 0 := fun e => hskip (.inl e)
          have hk : x ∉ ks := fun e => hskip (.inr e)
          have hxo : mIs S x = true := (hxr.resolve_left h0).good I.out C.out hg.out
          have R2 := R.take h0 hk
          have hkl2 := R2.len I.out C.out hg.out
          have hdec : Hid (2 * (4096 - (ks ++ [x]).length) + (([] : List Int) ++ [fldA S x 0, fldA S x 1]).length < d) := Lib.hid (by
            simp only [List.length_append, List.length_cons, List.length_nil] at hkl2 ⊢
            omega)
          have hadd : addK ks x = ks ++ [x] := by unfold addK; rw [if_neg hk]
          have hn9 : n < maxLen := by have := R.n; unfold maxLen; omega
          have hwf := Lib.hid (wf_i64 hxb)
          have htn : ([] : List Int).length ≤ 20000 := by omega
          rw [decide_eq_false hk] at hlk
          have y1 : (x == 0) = false := beq_eq_false_iff_ne.2 h0
          replace SM := Lib.hid SM
          replace R := Lib.hid R
          replace R2 := Lib.hid R2
          replace hdd := Lib.hid hdd
          replace hxr := Lib.hid hxr
          replace hskip := Lib.hid hskip
          replace hk := Lib.hid hk
          replace hxo := Lib.hid hxo
          replace hadd := Lib.hid hadd
          replace hkl2 := Lib.hid hkl2
          go_wp2_with (refine wpList_setm_put rfl (.tmp 29) (.tmp 30) (.const (.bool true)) rfl SM.out rfl hn9 x rfl rfl hwf.out ?_; intro w4 hS4 hg4; replace hS4 := Lib.hid hS4)
          have TR4 : Hid (TailR w4 (bm + 1) (.slice (some ⟨gq, oq, none⟩) 0 0) ([] : List Int)) := Lib.hid (TR2.out.kept fun k hk hlt => hg4.block k hlt (by intro e; cases e; have := (TR2.out.lt _ hk).1; omega))
          have hb4 : Hid (Below w.heap.size w w4) := Lib.hid (hbw.grown hg4 hbw.size (fun k hk => by cases hk; have := hbm.out; omega))
          replace hS4 : Hid (SetM w4 bm (n + 1) (ks ++ [x])) := Lib.hid (by have := hS4.out; rw [hadd.out] at this; exact this)
          have hbl4 : Hid (bm + 1 ≤ w4.heap.size) := Lib.hid (by have := hS4.out.lt; omega)
          clear hlk hg4 hcell hgl z1 z2 z3 z4 hbw
          go_loopw [6, 31] (fun vq fi wq => ∃ f : Nat, f ≤ 2 ∧ fi = .int .i64 f ∧ Hid (TailR wq (bm + 1) vq (([] : List Int) ++ (List.range f).map (fldA S x))) ∧ Hid (SetM wq bm (n + 1) (ks ++ [x])) ∧ Hid (Below w.heap.size w wq)) (fun _ fi _ => 2 - (intOf fi).toNat)
          case atStart => exact ⟨0, by omega, rfl, Lib.hid (by simpa using TR4.out), hS4, hb4⟩
          case round =>
            clear hS4 TR4 hb4 hbl4
            obtain ⟨f, hf, rfl, TRq, SMq, hbq⟩ := hrel
            by_cases hlt : f < 2
            · have tf : (f : Int) < 2 := by omega
              obtain ⟨Aq, cq2, rfl⟩ := TRq.out.form
              have hle : (([] : List Int) ++ (List.range f).map (fldA S x)).length ≤ 100000 := by
                simp only [List.length_append, List.length_map, List.length_range]
                omega
              have sa : (([] : List Int) ++ (List.range f).map (fldA S x)) ++ [fldA S x f] = [] ++ (List.range (f + 1)).map (fldA S x) := by
                rw [List.range_succ, List.map_append, List.append_assoc]
                rfl
              obtain ⟨L, hL⟩ : ∃ L, L = [] ++ (List.range f).map (fldA S x) := ⟨_, rfl⟩
              rw [← hL] at TRq sa hle ⊢
              have HL := Lib.hid (HLd.out _ x f hbq.out hxo.out hlt)
              obtain ⟨y, hy⟩ : ∃ y, y = fldA S x f := ⟨_, rfl⟩
              rw [← hy] at HL sa
              replace hL := Lib.hid hL
              replace hy := Lib.hid hy
              replace sa := Lib.hid sa
              go_wp2_with fail
              refine HL.out.mono ?_
              rintro e w6 ⟨rfl, b6⟩
              have TR6 := TRq.out.below b6
              have SM6 := Lib.hid (SMq.out.kept b6)
              have hb6 := Lib.hid (hbq.out.trans (b6.mono hbq.out.size))
              have hbs6 : bm + 1 ≤ w6.heap.size := by have := SM6.out.lt; omega
              clear HL TRq SMq hbq b6
              go_wp2_with (at_builtin; refine wpList_push_tail rfl (.tmp 41) (.tmp 43) rfl (bm + 1) _ L rfl TR6 y rfl hle hbs6 ?_; intro v7 w7 hT7 hb7 hz7 ho7 hw7; refine stop_here ?_)
              rw [sa.out] at hT7
              have SM7 : Hid (SetM w7 bm (n + 1) (ks ++ [x])) := Lib.hid (SM6.out.of_block (ho7 bm (by omega) (fun e => by have := (TR6.lt _ e).1; omega)))
              have hb7w : Hid (Below w.heap.size w w7) := Lib.hid (hb6.out.trans (hb7.mono (by have := hbm.out; omega)))
              replace hT7 := Lib.hid hT7
              clear TR6 SM6 hb6 hb7 hz7 ho7 hw7
              refine go_on ?_
              go_wp2_with fail
              go_roundw
              case rel => exact ⟨f + 1, by omega, by go_num, hT7, SM7, hb7w⟩
              case measure => simp [intOf]; omega
            · obtain rfl : f = 2 := by omega
              have hnext : Hid (RP w bm S l _ _ (2 * (4096 - (ks ++ [x]).length) + (([] : List Int) ++ [fldA S x 0, fldA S x 1]).length)) := Lib.hid ⟨[] ++ [fldA S x 0, fldA S x 1], ks ++ [x], n + 1, TRq.out, SMq.out, hbq.out, R2.out, rfl⟩
              obtain ⟨Aq, cq2, rfl⟩ := TRq.out.form
              clear TRq SMq
              go_wp2_with fail
              go_roundw
              case rel => exact Lib.hid ⟨_, hnext.out⟩
              case measure =>
                have h1 := mea_le hnext.out
                have h2 := hd.out
                have h3 := hdec.out
                omega
      · have TR2 := ht2 hc0
        clear ht1 ht2
        replace TR2 := Lib.hid TR2
        replace hrel := Lib.hid hrel
        replace hcl := Lib.hid hcl
        replace TR := Lib.hid TR
        by_cases hskip : x = 0 ∨ x ∈ ks
        · have hnext : Hid (RP w bm S l (.slice (some ⟨gq, oq + 1, none⟩) td.length (cq - 1)) wr (2 * (4096 - ks.length) + td.length)) := Lib.hid ⟨td, ks, n, TR2.out, SM, hbw, R.skip hskip, rfl⟩
          have hdec : Hid (2 * (4096 - ks.length) + td.length < d) := Lib.hid (by omega)
          replace SM := Lib.hid SM
          replace R := Lib.hid R
          replace hdd := Lib.hid hdd
          by_cases h0 : x = 0
          · subst h0
            clear hxr hxb hskip hlk
            go_wp2_with fail
            go_roundw
            case rel => exact Lib.hid ⟨_, hnext.out⟩
            case measure =>
              have h1 := mea_le hnext.out
              have h2 := hd.out
              have h3 := hdec.out
              omega
          · have hk : x ∈ ks := hskip.resolve_left h0
            rw [decide_eq_true hk] at hlk
            have y1 : (x == 0) = false := beq_eq_false_iff_ne.2 h0
            replace hxr := Lib.hid hxr
            replace hskip := Lib.hid hskip
            replace hk := Lib.hid hk
            go_wp2_with fail
            go_roundw
            case rel => exact Lib.hid ⟨_, hnext.out⟩
            case measure =>
              have h1 := mea_le hnext.out
              have h2 := hd.out
              have h3 := hdec.out
              omega
        · have h0 : x ≠ 0 := fun e => hskip (.inl e)
          have hk : x ∉ ks := fun e => hskip (.inr e)
          have hxo : mIs S x = true := (hxr.resolve_left h0).good I.out C.out hg.out
          have R2 := R.take h0 hk
          have hkl2 := R2.len I.out C.out hg.out
          have hdec : Hid (2 * (4096 - (ks ++ [x]).length) + (td ++ [fldA S x 0, fldA S x 1]).length < d) := Lib.hid (by
            simp only [List.length_append, List.length_cons, List.length_nil] at hkl2 ⊢
            omega)
          have hadd : addK ks x = ks ++ [x] := by unfold addK; rw [if_neg hk]
          have hn9 : n < maxLen := by have := R.n; unfold maxLen; omega
          have hwf := Lib.hid (wf_i64 hxb)
          have htn : td.length ≤ 20000 := by omega
          rw [decide_eq_false hk] at hlk
          have y1 : (x == 0) = false := beq_eq_false_iff_ne.2 h0
          replace SM := Lib.hid SM
          replace R := Lib.hid R
          replace R2 := Lib.hid R2
          replace hdd := Lib.hid hdd
          replace hxr := Lib.hid hxr
          replace hskip := Lib.hid hskip
          replace hk := Lib.hid hk
          replace hxo := Lib.hid hxo
          replace hadd := Lib.hid hadd
          replace hkl2 := Lib.hid hkl2
          go_wp2_with (refine wpList_setm_put rfl (.tmp 29) (.tmp 30) (.const (.bool true)) rfl SM.out rfl hn9 x rfl rfl hwf.out ?_; intro w4 hS4 hg4; replace hS4 := Lib.hid hS4)
          have TR4 : Hid (TailR w4 (bm + 1) (.slice (some ⟨gq, oq + 1, none⟩) td.length (cq - 1)) td) := Lib.hid (TR2.out.kept fun k hk hlt => hg4.block k hlt (by intro e; cases e; have := (TR2.out.lt _ hk).1; omega))
          have hb4 : Hid (Below w.heap.size w w4) := Lib.hid (hbw.grown hg4 hbw.size (fun k hk => by cases hk; have := hbm.out; omega))
          replace hS4 : Hid (SetM w4 bm (n + 1) (ks ++ [x])) := Lib.hid (by have := hS4.out; rw [hadd.out] at this; exact this)
          have hbl4 : Hid (bm + 1 ≤ w4.heap.size) := Lib.hid (by have := hS4.out.lt; omega)
          clear hlk hg4 hcell hgl z1 z2 z3 z4 hbw
          go_loopw [6, 31] (fun vq fi wq => ∃ f : Nat, f ≤ 2 ∧ fi = .int .i64 f ∧ Hid (TailR wq (bm + 1) vq (td ++ (List.range f).map (fldA S x))) ∧ Hid (SetM wq bm (n + 1) (ks ++ [x])) ∧ Hid (Below w.heap.size w wq)) (fun _ fi _ => 2 - (intOf fi).toNat)
          case atStart => exact ⟨0, by omega, rfl, Lib.hid (by simpa using TR4.out), hS4, hb4⟩
          case round =>
            clear hS4 TR4 hb4 hbl4
            obtain ⟨f, hf, rfl, TRq, SMq, hbq⟩ := hrel
            by_cases hlt : f < 2
            · have tf : (f : Int) < 2 := by omega
              obtain ⟨Aq, cq2, rfl⟩ := TRq.out.form
              have hle : (td ++ (List.range f).map (fldA S x)).length ≤ 100000 := by
                simp only [List.length_append, List.length_map, List.length_range]
                omega
              have sa : (td ++ (List.range f).map (fldA S x)) ++ [fldA S x f] = td ++ (List.range (f + 1)).map (fldA S x) := by
                rw [List.range_succ, List.map_append, List.append_assoc]
                rfl
              obtain ⟨L, hL⟩ : ∃ L, L = td ++ (List.range f).map (fldA S x) := ⟨_, rfl⟩
              rw [← hL] at TRq sa hle ⊢
              have HL := Lib.hid (HLd.out _ x f hbq.out hxo.out hlt)
              obtain ⟨y, hy⟩ : ∃ y, y = fldA S x f := ⟨_, rfl⟩
              rw [← hy] at HL sa
              replace hL := Lib.hid hL
              replace hy := Lib.hid hy
              replace sa := Lib.hid sa
              go_wp2_with fail
              refine HL.out.mono ?_
              rintro e w6 ⟨rfl, b6⟩
              have TR6 := TRq.out.below b6
              have SM6 := Lib.hid (SMq.out.kept b6)
              have hb6 := Lib.hid (hbq.out.trans (b6.mono hbq.out.size))
              have hbs6 : bm + 1 ≤ w6.heap.size := by have := SM6.out.lt; omega
              clear HL TRq SMq hbq b6
              go_wp2_with (at_builtin; refine wpList_push_tail rfl (.tmp 41) (.tmp 43) rfl (bm + 1) _ L rfl TR6 y rfl hle hbs6 ?_; intro v7 w7 hT7 hb7 hz7 ho7 hw7; refine stop_here ?_)
              rw [sa.out] at hT7
              have SM7 : Hid (SetM w7 bm (n + 1) (ks ++ [x])) := Lib.hid (SM6.out.of_block (ho7 bm (by omega) (fun e => by have := (TR6.lt _ e).1; omega)))
              have hb7w : Hid (Below w.heap.size w w7) := Lib.hid (hb6.out.trans (hb7.mono (by have := hbm.out; omega)))
              replace hT7 := Lib.hid hT7
              clear TR6 SM6 hb6 hb7 hz7 ho7 hw7
              refine go_on ?_
              go_wp2_with fail
              go_roundw
              case rel => exact ⟨f + 1, by omega, by go_num, hT7, SM7, hb7w⟩
              case measure => simp [intOf]; omega
            · obtain rfl : f = 2 := by omega
              have hnext : Hid (RP w bm S l _ _ (2 * (4096 - (ks ++ [x]).length) + (td ++ [fldA S x 0, fldA S x 1]).length)) := Lib.hid ⟨td ++ [fldA S x 0, fldA S x 1], ks ++ [x], n + 1, TRq.out, SMq.out, hbq.out, R2.out, rfl⟩
              obtain ⟨Aq, cq2, rfl⟩ := TRq.out.form
              clear TRq SMq
              go_wp2_with fail
              go_roundw
              case rel => exact Lib.hid ⟨_, hnext.out⟩
              case measure =>
                have h1 := mea_le hnext.out
                have h2 := hd.out
                have h3 := hdec.out
                omega
end
end Go.Proofs.YtcaboknbdamlhaaGreatDoor
namespace Go.Proofs.YtcaboknbdamlhaaGreatDoor
def uStart (D : DS) : DS := { D with ph := 1, greys := [], black := [] }
def uBegin (D : DS) (l : List Int) : DS × Int :=
  if D.ph ≠ 0 then (D, 8) else if l.any (mBad D.S) = true then (D, 11) else (l.foldl uShade (uStart D), 0)
/-- The first j words of an object are looked through. -/
def uScan (D : DS) (p mask : Int) : Nat → DS × Int
  | 0 => (D, 0)
  | j + 1 => if (uScan D p mask j).2 ≠ 0 ∨ mBit mask j = false then uScan D p mask j
    else if mBad D.S (sLoad D.S p j).1 = true then ((uScan D p mask j).1, 11)
    else (uShade (uScan D p mask j).1 (sLoad D.S p j).1, 0)
def uTake (D : DS) (p : Int) (gs : List Int) : DS := { D with greys := gs, black := D.black ++ [p] }
def uLook (D : DS) : DS × Bool × Int :=
  match D.greys with
  | [] => (D, false, 0)
  | p :: gs => if (uScan (uTake D p gs) p (sSize D.S p).2.1 (sSize D.S p).1.toNat).2 = 0 then ((uScan (uTake D p gs) p (sSize D.S p).2.1 (sSize D.S p).1.toNat).1, true, 0)
    else ((uScan (uTake D p gs) p (sSize D.S p).2.1 (sSize D.S p).1.toNat).1, false, (uScan (uTake D p gs) p (sSize D.S p).2.1 (sSize D.S p).1.toNat).2)
def uWhite (D : DS) : List Int := (sAll D.S).filter fun x => decide (x ∉ D.black)
def uStep (D : DS) (junk : Int) : DS × Int × Int :=
  if D.ph = 1 then
    if (uLook D).2.2 ≠ 0 then ((uLook D).1, 0, (uLook D).2.2)
    else if (uLook D).2.1 = true then ((uLook D).1, 1, 0)
    else ({ D with left := uWhite D, ph := 2 }, 2, 0)
  else if D.ph = 0 then (D, 0, 0)
  else match D.left with
    | [] => ({ D with ph := 0, cyc := D.cyc + 1 }, 0, 0)
    | x :: l => if (sFree D.S x junk).2 ≠ 0 then (D, 0, (sFree D.S x junk).2) else ({ D with S := (sFree D.S x junk).1, left := l }, 2, 0)
theorem ushade_same (D : DS) (p : Int) : (uShade D p).S = D.S ∧ (uShade D p).ph = D.ph ∧ (uShade D p).left = D.left ∧ (uShade D p).cyc = D.cyc ∧ (uShade D p).black = D.black := by
  unfold uShade
  split <;> exact ⟨rfl, rfl, rfl, rfl, rfl⟩
theorem ufold_same : ∀ (l : List Int) (D : DS), (l.foldl uShade D).S = D.S ∧ (l.foldl uShade D).ph = D.ph ∧ (l.foldl uShade D).left = D.left ∧ (l.foldl uShade D).cyc = D.cyc ∧ (l.foldl uShade D).black = D.black
  | [], D => ⟨rfl, rfl, rfl, rfl, rfl⟩
  | x :: l, D => by
    obtain ⟨a, b, c, d, e⟩ := ufold_same l (uShade D x)
    obtain ⟨a', b', c', d', e'⟩ := ushade_same D x
    exact ⟨a.trans a', b.trans b', c.trans c', d.trans d', e.trans e'⟩
theorem uscan_same (D : DS) (p mask : Int) : ∀ j, (uScan D p mask j).1.S = D.S ∧ (uScan D p mask j).1.ph = D.ph ∧ (uScan D p mask j).1.left = D.left ∧ (uScan D p mask j).1.cyc = D.cyc ∧ (uScan D p mask j).1.black = D.black
  | 0 => ⟨rfl, rfl, rfl, rfl, rfl⟩
  | j + 1 => by
    have ih := uscan_same D p mask j
    unfold uScan
    split
    · exact ih
    · split
      · exact ih
      · obtain ⟨a, b, c, d, e⟩ := ih
        obtain ⟨a', b', c', d', e'⟩ := ushade_same (uScan D p mask j).1 (sLoad D.S p j).1
        exact ⟨a'.trans a, b'.trans b, c'.trans c, d'.trans d, e'.trans e⟩
theorem uscan_stop {D : DS} {p mask : Int} {j : Nat} (h : (uScan D p mask j).2 ≠ 0) : ∀ k, uScan D p mask (j + k) = uScan D p mask j
  | 0 => rfl
  | k + 1 => by
    have ih := uscan_stop h k
    show (if (uScan D p mask (j + k)).2 ≠ 0 ∨ mBit mask (j + k) = false then uScan D p mask (j + k) else _) = _
    rw [if_pos (.inl (by rw [ih]; exact h)), ih]
/-- How long the greys may grow. -/
theorem ushade_len (D : DS) (p : Int) : (uShade D p).greys.length ≤ D.greys.length + 1 := by
  unfold uShade
  split
  · exact Nat.le_succ _
  · simp
theorem ufold_len : ∀ (l : List Int) (D : DS), (l.foldl uShade D).greys.length ≤ D.greys.length + l.length
  | [], D => Nat.le_refl _
  | x :: l, D => by
    have h1 := ufold_len l (uShade D x)
    have h2 := ushade_len D x
    simp only [List.foldl_cons, List.length_cons]
    omega
theorem uscan_len (D : DS) (p mask : Int) : ∀ j, (uScan D p mask j).1.greys.length ≤ D.greys.length + j
  | 0 => Nat.le_refl _
  | j + 1 => by
    have ih := uscan_len D p mask j
    unfold uScan
    split
    · omega
    · split
      · show (uScan D p mask j).1.greys.length ≤ _
        omega
      · have := ushade_len (uScan D p mask j).1 (sLoad D.S p j).1
        show (uShade (uScan D p mask j).1 (sLoad D.S p j).1).greys.length ≤ _
        omega
end Go.Proofs.YtcaboknbdamlhaaGreatDoor
namespace Go.Proofs.YtcaboknbdamlhaaGreatDoor
open Go.RowKit Go.Shelf
section
variable {Q : Nat → Prop} {w : World} {D : DS} {V : V18}
set_option maxHeartbeats 6400000 in
set_option maxRecDepth 100000 in
theorem rBegin18 (H : XV Q w D V) (hQ : New Q w) (I : Inv0 D.S) (vr : Value) (roots : List Int) (hr : Rd i64e w vr roots) (hrl : roots.length ≤ 3000) (hrb : ∀ x ∈ roots, mBad D.S x = false) :
    Calls Tryz.prog 32 #[.agg (c18 V D.ph D.cyc), vr] w (R18 Q w (uBegin D roots).1 fun v => .returned (.tuple #[v, .int .i64 (uBegin D roots).2])) := by
  have ONE := Lib.hid (H.one D.ph D.cyc)
  have SZ := Lib.hid r18_size
  obtain ⟨Ar, cr, rfl, -⟩ := hr.len
  have HR0 := Lib.hid (fun wx (bx : Below w.heap.size w wx) => hr.below bx)
  replace H := Lib.hid H
  replace hQ := Lib.hid hQ
  replace I := Lib.hid I
  clear hr
  obtain ⟨X, hX⟩ : ∃ X, X = uBegin D roots := ⟨_, rfl⟩
  rw [← hX]
  have hX1 : X = if D.ph ≠ 0 then (D, 8) else (roots.foldl uShade (uStart D), 0) := by
    rw [hX]
    unfold uBegin
    rw [if_neg (c := roots.any (mBad D.S) = true)]
    rw [List.any_eq_true]
    rintro ⟨x, hx, hb⟩
    rw [hrb x hx] at hb
    cases hb
  have hgd : ∀ x ∈ roots, decide (x = 0 ∨ (sSize D.S x).2.2 = true) = true := fun x hx => by
    have h := hrb x hx
    unfold mBad mIs at h
    by_cases h0 : x = 0
    · simp [h0]
    · have h2 : (x != 0) = true := by simpa using h0
      rw [h2, Bool.true_and, Bool.not_eq_false'] at h
      simp [h]
  clear hX
  replace hX1 := Lib.hid hX1
  replace hgd := Lib.hid hgd
  replace hrb := Lib.hid hrb
  go_enter Tryz.func32, Tryz.ntmps32
  go_wp2_with (first
    | (refine wpList_new rfl (.box 42 (.tmp 0)) rfl w.heap.size rfl 42 (c18 V D.ph D.cyc) (by kernel_rfl) ?_; intro w1 hs1 hb1 hB1)
    | (refine wpList_new rfl (.alloc 42) rfl (w.heap.size + 1) hs1 42 n18 (by kernel_rfl) ?_; intro w2 hs2 hb2 hB2; refine stop_here ?_))
  have HB := hB1.below hb2 (by omega)
  have HR := hB2
  have b2 : Below w.heap.size w w2 := hb1.trans (hb2.mono (by omega))
  have hz2 : w2.heap.size = w.heap.size + 2 := by omega
  obtain ⟨gX, hgX⟩ : ∃ gX, gX = w.heap.size := ⟨_, rfl⟩
  obtain ⟨gR, hgR⟩ : ∃ gR, gR = w.heap.size + 1 := ⟨_, rfl⟩
  rw [← hgR] at HR ⊢
  rw [← hgX] at HB ⊢
  have hXR : gX ≠ gR := by omega
  replace hgX := Lib.hid hgX
  replace hgR := Lib.hid hgR
  replace hz2 := Lib.hid hz2
  clear hs1 hB1 hb1 hB2 hs2 hb2
  have q9 : w2.cell? ⟨gX, 9, none⟩ = some (.int .i64 D.ph) := HB.cell 9
  refine go_on ?_
  by_cases hp : D.ph = 0
  case neg =>
    have z0 : (D.ph == 0) = false := beq_eq_false_iff_ne.2 hp
    have z2 : (D.ph != 0) = true := by simpa using hp
    have hX2 : X = (D, 8) := by rw [hX1.out, if_pos hp]
    subst hX2
    go_wp2_with (first
      | (refine wpList_load_blk rfl 42 (.tmp 2) rfl gX rfl 42 (c18 V D.ph D.cyc) HB _ Tryz.underlying42 rfl SZ.out ?_)
      | (refine wpList_store_blk rfl 42 (.tmp 4) (.tmp 11) rfl gR rfl (c18 V D.ph D.cyc) rfl 42 n18 HR SZ.out rfl ONE.out ?_; intro w9 hR9 hg9 hs9))
    have b9 := b2.grown hg9 b2.size (fun k hk => by cases hk; have := hgR.out; omega)
    refine bodyPost_ret (res_cell_tmp rfl rfl hR9 Tryz.underlying42 rfl SZ.out) rfl ⟨V, rfl, H.out.below b9, b9⟩
  have hX2 : X = (roots.foldl uShade (uStart D), 0) := by rw [hX1.out, if_neg (fun h => h hp)]
  obtain ⟨X0, cd⟩ := X
  have hX3 : X0 = roots.foldl uShade (uStart D) := congrArg Prod.fst hX2
  obtain rfl : cd = 0 := congrArg Prod.snd hX2
  clear hX2 hX1
  replace hX3 := Lib.hid hX3
  have X2 := Lib.hid (H.out.apart b2 hgX.out hgR.out)
  obtain ⟨dp, hdp⟩ : ∃ dp, dp = D.ph := ⟨_, rfl⟩
  have hdp0 : dp = 0 := hdp.trans hp
  rw [← hdp] at q9 HB
  subst hdp0
  replace hdp := Lib.hid hdp.symm
  replace hp := Lib.hid hp
  replace HB := Lib.hid HB
  replace HR := Lib.hid HR
  replace b2 := Lib.hid b2
  go_wp2_with fail
  go_loopw [6] (fun i wr => ∃ j : Nat, j ≤ roots.length ∧ i = .int .i64 j ∧ Hid (Below w2.heap.size w2 wr)) (fun i _ => roots.length - (intOf i).toNat)
  case atStart => exact ⟨0, by omega, rfl, Lib.hid (Below.refl _ _)⟩
  case round =>
    clear q9
    obtain ⟨j, hj, rfl, hbw⟩ := hrel
    have hz := hbw.out.size
    have HBw := HB.out.below hbw.out HB.out.lt
    have hbww := b2.out.trans (hbw.out.mono b2.out.size)
    by_cases hlt : j < roots.length
    · have t0 : (j : Int) < (roots.length : Int) := by omega
      obtain ⟨b, ob, rfl, hbl, hc⟩ := (HR0.out wr hbww).at_ hlt
      obtain ⟨y, hy⟩ : ∃ y, y = roots[j] := ⟨_, rfl⟩
      have hyg := hgd.out y (by rw [hy]; exact List.getElem_mem hlt)
      rw [← hy] at hc
      replace hc : wr.cell? ⟨b, ob + j, none⟩ = some (.int .i64 y) := hc
      have HT := fun wx (bx : Below wr.heap.size wr wx) => robj18 ((H.out.below hbww).below bx) I.out y
      rw [hyg, hdp.out] at HT
      replace HT := Lib.hid HT
      have hgl9 : gX < wr.heap.size := HBw.lt
      replace hy := Lib.hid hy
      replace hyg := Lib.hid hyg
      replace hbww := Lib.hid hbww
      replace HBw := Lib.hid HBw
      go_wp2_with fail
      have hS0 : (fun X : World => Below wr.heap.size wr X) wr.drew := (Below.refl _ _).drew
      refine wp_T (by kernel_rfl) 5 (fun X : World => Below wr.heap.size wr X) ?_
      refine wpAnyT_takeC (i := 0) (v := .agg (c18 V 0 D.cyc)) [] rfl (by kernel_rfl) (fun _ _ _ hp => hp) (yieldsIf_load_mid (by kernel_rfl) _ _ rfl gX 0 rfl [V.vw, V.vc, V.f 0, V.f 1, V.f 2, V.f 3, V.vo, V.vg, V.vb, .int .i64 0, V.vl, .int .i64 D.cyc] _ (fun X hX => World.rangeAt_of_block (HBw.out.below hX hgl9) 0 12) Tryz.underlying42 rfl r18_size) hS0 ?_
      simp only [Act.put, List.getElem_toArray, List.getElem_cons_succ, List.getElem_cons_zero, List.setIfInBounds_toArray, List.set_cons_zero, List.set_cons_succ]
      refine wpAnyT_takeW (i := 1) (v := .slice (some ⟨b, ob, none⟩) roots.length cr) rfl (by kernel_rfl) (fun _ _ _ hp => hp) (Or.inl ⟨by kernel_rfl, fun X _ => by go_simp⟩) hS0 ?_
      simp only [Act.put, List.getElem_toArray, List.getElem_cons_succ, List.getElem_cons_zero, List.setIfInBounds_toArray, List.set_cons_zero, List.set_cons_succ]
      refine wpAnyT_takeW (i := 2) (v := .int .i64 (j : Int)) rfl (by kernel_rfl) (fun _ _ _ hp => hp) (Or.inl ⟨by kernel_rfl, fun X _ => by go_simp⟩) hS0 ?_
      simp only [Act.put, List.getElem_toArray, List.getElem_cons_succ, List.getElem_cons_zero, List.setIfInBounds_toArray, List.set_cons_zero, List.set_cons_succ]
      refine wpAnyT_takeW (i := 3) (v := .pointer (some ⟨b, ob + j, none⟩)) rfl (by kernel_rfl) (fun _ _ _ hp => hp) (Or.inl ⟨by kernel_rfl, fun X _ => by go_simp⟩) hS0 ?_
      simp only [Act.put, List.getElem_toArray, List.getElem_cons_succ, List.getElem_cons_zero, List.setIfInBounds_toArray, List.set_cons_zero, List.set_cons_succ]
      refine wpAnyT_takeC (i := 4) (v := .int .i64 y) [] rfl (by kernel_rfl) (fun _ _ _ hp => hp) (Or.inl ⟨by kernel_rfl, fun X hX => by have y1 := (hX.cell (p := ⟨b, ob + j, none⟩) hbl).trans hc; go_simp⟩) hS0 ?_
      simp only [Act.put, List.getElem_toArray, List.getElem_cons_succ, List.getElem_cons_zero, List.setIfInBounds_toArray, List.set_cons_zero, List.set_cons_succ]
      refine wpAnyT_one (i := 5) rfl (by kernel_rfl) (by kernel_rfl) ?_
      intro K1 hK1
      go_simp
      refine (HT.out _ (Below.refl _ _).drew).mono ?_
      rintro e w4 ⟨rfl, b4⟩
      dsimp only
      refine hK1.out _ _ (fun hh => absurd rfl hh) ?_
      (try simp only [Act.put, List.getElem_toArray, List.getElem_cons_succ, List.getElem_cons_zero, List.setIfInBounds_toArray, List.set_cons_zero, List.set_cons_succ])
      refine wpAnyT_lat2 (i := 6) rfl (by kernel_rfl) (by kernel_rfl) (by kernel_rfl) ?_
      intro K2 hK2
      go_simp
      refine hK2.out _ _ ?_
      (try simp only [Act.put, List.getElem_toArray, List.getElem_cons_succ, List.getElem_cons_zero, List.setIfInBounds_toArray, List.set_cons_zero, List.set_cons_succ])
      refine wpAnyT_done (by kernel_rfl) ?_ _
      (try simp only [Act.put, List.getElem_toArray, List.getElem_cons_succ, List.getElem_cons_zero, List.setIfInBounds_toArray, List.set_cons_zero, List.set_cons_succ])
      clear hK1 K1 hK2 K2
      have hb4 := Lib.hid (hbw.out.trans (Below.mono (Below.trans hS0 (Below.mono b4 (Below.size hS0))) hz))
      clear hS0 b4 HT hbw hc
      go_wp2_with fail
      go_roundw
      case rel => exact ⟨j + 1, by omega, by go_num, hb4⟩
      case measure => simp [intOf]; omega
    · obtain rfl : j = roots.length := by omega
      have k1 : wr.cell? ⟨gX, 9, none⟩ = some (.int .i64 0) := HBw.cell 9
      have f1 := HBw.frozen 9
      have B1 : Blk (wr.setCell ⟨gX, 9, none⟩ (.int .i64 1)) gX 42 (c18 V 1 D.cyc) := HBw.set_ 9 (.int .i64 1)
      have k2 : (wr.setCell ⟨gX, 9, none⟩ (.int .i64 1)).cell? ⟨gX, 7, none⟩ = some V.vg := B1.cell 7
      have f2 := B1.frozen 7
      have B2 : Blk ((wr.setCell ⟨gX, 9, none⟩ (.int .i64 1)).setCell ⟨gX, 7, none⟩ (.slice none 0 0)) gX 42 (c18 { V with vg := .slice none 0 0 } 1 D.cyc) := B1.set_ 7 (.slice none 0 0)
      have k3 : ((wr.setCell ⟨gX, 9, none⟩ (.int .i64 1)).setCell ⟨gX, 7, none⟩ (.slice none 0 0)).cell? ⟨gX, 8, none⟩ = some V.vb := B2.cell 8
      have f3 := B2.frozen 8
      have B3 : Blk (((wr.setCell ⟨gX, 9, none⟩ (.int .i64 1)).setCell ⟨gX, 7, none⟩ (.slice none 0 0)).setCell ⟨gX, 8, none⟩ (.slice none 0 0)) gX 42 (c18 { V with vg := .slice none 0 0, vb := .slice none 0 0 } (uStart D).ph (uStart D).cyc) := B2.set_ 8 (.slice none 0 0)
      have hne : gR ≠ gX := fun e => hXR e.symm
      have R3 : Blk (((wr.setCell ⟨gX, 9, none⟩ (.int .i64 1)).setCell ⟨gX, 7, none⟩ (.slice none 0 0)).setCell ⟨gX, 8, none⟩ (.slice none 0 0)) gR 42 n18 := (((HR.out.below hbw.out HR.out.lt).far (p := ⟨gX, 9, none⟩) hne _).far (p := ⟨gX, 7, none⟩) hne _).far (p := ⟨gX, 8, none⟩) hne _
      have hgx0 := Nat.le_of_eq hgX.out.symm
      have b3 : Below w.heap.size w (((wr.setCell ⟨gX, 9, none⟩ (.int .i64 1)).setCell ⟨gX, 7, none⟩ (.slice none 0 0)).setCell ⟨gX, 8, none⟩ (.slice none 0 0)) := ((hbww.setCell (p := ⟨gX, 9, none⟩) hgx0 _).setCell (p := ⟨gX, 7, none⟩) hgx0 _).setCell (p := ⟨gX, 8, none⟩) hgx0 _
      have X3 : XV (fun b => Q b ∧ b ≠ gX ∧ b ≠ gR) (((wr.setCell ⟨gX, 9, none⟩ (.int .i64 1)).setCell ⟨gX, 7, none⟩ (.slice none 0 0)).setCell ⟨gX, 8, none⟩ (.slice none 0 0)) (uStart D) { V with vg := .slice none 0 0, vb := .slice none 0 0 } :=
        have Y := H.out.apart b3 hgX.out hgR.out
        ⟨Y.rin, ⟨Rd.none_ _ _, fun hp => absurd hp (by simp [uStart])⟩, ⟨Rd.none_ _ _, fun hp => absurd hp (by simp [uStart])⟩, Y.lf⟩
      replace B3 := Lib.hid B3
      replace R3 := Lib.hid R3
      replace b3 := Lib.hid b3
      replace X3 := Lib.hid X3
      clear B1 B2 HBw hbww hbw
      go_wp2_with fail
      go_loopw [7] (fun i wr => ∃ (j : Nat) (Vj : V18), j ≤ roots.length ∧ i = .int .i64 j ∧ Hid (Blk wr gX 42 (c18 Vj ((roots.take j).foldl uShade (uStart D)).ph ((roots.take j).foldl uShade (uStart D)).cyc)) ∧ Hid (Blk wr gR 42 n18) ∧ Hid (XV (fun b => Q b ∧ b ≠ gX ∧ b ≠ gR) wr ((roots.take j).foldl uShade (uStart D)) Vj) ∧ Hid (Below w.heap.size w wr)) (fun i _ => roots.length - (intOf i).toNat)
      case atStart => exact ⟨0, _, by omega, rfl, B3, R3, X3, b3⟩
      case round =>
        clear B3 R3 X3 b3 k1 k2 k3 f1 f2 f3 hj
        obtain ⟨j, Vj, hj, rfl, HBj, HRj, Hj, bj⟩ := hrel
        obtain ⟨Xj, hXj⟩ : ∃ Xj, Xj = (roots.take j).foldl uShade (uStart D) := ⟨_, rfl⟩
        have hlj : Xj.greys.length ≤ 3000 := by
          have := ufold_len (roots.take j) (uStart D)
          rw [← hXj] at this
          have h2 : (roots.take j).length ≤ j := by rw [List.length_take]; omega
          have h3 : (uStart D).greys.length = 0 := rfl
          omega
        have hbj : Xj.black.length ≤ 4096 := by rw [hXj, (ufold_same (roots.take j) (uStart D)).2.2.2.2]; exact Nat.zero_le _
        rw [← hXj] at Hj HBj
        have hgl9 := HBj.out.lt
        have hgr9 := HRj.out.lt
        by_cases hlt : j < roots.length
        · have t0 : (j : Int) < (roots.length : Int) := by omega
          obtain ⟨b, ob, rfl, hbl, hc⟩ := (HR0.out wr bj.out).at_ hlt
          obtain ⟨y, hy⟩ : ∃ y, y = roots[j] := ⟨_, rfl⟩
          rw [← hy] at hc
          replace hc : wr.cell? ⟨b, ob + j, none⟩ = some (.int .i64 y) := hc
          have htk : (roots.take (j + 1)).foldl uShade (uStart D) = uShade Xj y := by
            rw [take_snoc roots hlt, List.foldl_append, ← hXj, hy]
            rfl
          have HS := Lib.hid (fun wx (bx : Below wr.heap.size wr wx) => rshade18 (Hj.out.below bx) (fun b hb => ⟨hQ.out b (Nat.le_trans bj.out.size (Nat.le_trans bx.size hb)), by have := bx.size; omega, by have := bx.size; omega⟩) y (by omega) hbj)
          replace htk := Lib.hid htk
          replace hXj := Lib.hid hXj
          replace hy := Lib.hid hy
          replace hlj := Lib.hid hlj
          replace hbj := Lib.hid hbj
          go_wp2_with fail
          have hS0 : (fun X : World => Below wr.heap.size wr X) wr.drew := (Below.refl _ _).drew
          refine wp_T (by kernel_rfl) 6 (fun X : World => Below wr.heap.size wr X) ?_
          refine wpAnyT_takeC (i := 0) (v := .agg (c18 Vj Xj.ph Xj.cyc)) [5] rfl (by kernel_rfl) (fun _ _ _ hp => hp) (yieldsIf_load_mid (by kernel_rfl) _ _ rfl gX 0 rfl [Vj.vw, Vj.vc, Vj.f 0, Vj.f 1, Vj.f 2, Vj.f 3, Vj.vo, Vj.vg, Vj.vb, .int .i64 Xj.ph, Vj.vl, .int .i64 Xj.cyc] _ (fun X hX => World.rangeAt_of_block (HBj.out.below hX hgl9) 0 12) Tryz.underlying42 rfl r18_size) hS0 ?_
          simp only [Act.put, List.getElem_toArray, List.getElem_cons_succ, List.getElem_cons_zero, List.setIfInBounds_toArray, List.set_cons_zero, List.set_cons_succ]
          refine wpAnyT_takeW (i := 1) (v := .slice (some ⟨b, ob, none⟩) roots.length cr) rfl (by kernel_rfl) (fun _ _ _ hp => hp) (Or.inl ⟨by kernel_rfl, fun X _ => by go_simp⟩) hS0 ?_
          simp only [Act.put, List.getElem_toArray, List.getElem_cons_succ, List.getElem_cons_zero, List.setIfInBounds_toArray, List.set_cons_zero, List.set_cons_succ]
          refine wpAnyT_takeW (i := 2) (v := .int .i64 (j : Int)) rfl (by kernel_rfl) (fun _ _ _ hp => hp) (Or.inl ⟨by kernel_rfl, fun X _ => by go_simp⟩) hS0 ?_
          simp only [Act.put, List.getElem_toArray, List.getElem_cons_succ, List.getElem_cons_zero, List.setIfInBounds_toArray, List.set_cons_zero, List.set_cons_succ]
          refine wpAnyT_takeW (i := 3) (v := .pointer (some ⟨b, ob + j, none⟩)) rfl (by kernel_rfl) (fun _ _ _ hp => hp) (Or.inl ⟨by kernel_rfl, fun X _ => by go_simp⟩) hS0 ?_
          simp only [Act.put, List.getElem_toArray, List.getElem_cons_succ, List.getElem_cons_zero, List.setIfInBounds_toArray, List.set_cons_zero, List.set_cons_succ]
          refine wpAnyT_takeC (i := 4) (v := .int .i64 y) [5] rfl (by kernel_rfl) (fun _ _ _ hp => hp) (Or.inl ⟨by kernel_rfl, fun X hX => by have y1 := (hX.cell (p := ⟨b, ob + j, none⟩) hbl).trans hc; go_simp⟩) hS0 ?_
          simp only [Act.put, List.getElem_toArray, List.getElem_cons_succ, List.getElem_cons_zero, List.setIfInBounds_toArray, List.set_cons_zero, List.set_cons_succ]
          refine wpAnyT_one (i := 5) rfl (by kernel_rfl) (by kernel_rfl) ?_
          intro K1 hK1
          go_simp
          refine (HS.out _ (Below.refl _ _).drew).mono ?_
          rintro e w8 ⟨V2, rfl, H8, b8⟩
          dsimp only
          have hS1 : (fun X : World => Below wr.heap.size wr X) w8 := Below.trans hS0 (Below.mono b8 (Below.size hS0))
          refine hK1.out _ _ (fun _ => hS1) ?_
          (try simp only [Act.put, List.getElem_toArray, List.getElem_cons_succ, List.getElem_cons_zero, List.setIfInBounds_toArray, List.set_cons_zero, List.set_cons_succ])
          have HB8 := HBj.out.below hS1 hgl9
          have ON8 := Lib.hid (H8.one (uShade Xj y).ph (uShade Xj y).cyc)
          refine wpAnyT_one (i := 6) rfl (by kernel_rfl) (by kernel_rfl) ?_
          intro K2 hK2
          refine wp_store_blk 42 _ _ rfl gX rfl (c18 V2 (uShade Xj y).ph (uShade Xj y).cyc) rfl 42 (c18 Vj Xj.ph Xj.cyc) HB8 SZ.out rfl ON8.out ?_
          intro w9 hB9 hg9 hs9
          refine hK2.out _ _ (fun hh => absurd rfl hh) ?_
          (try simp only [Act.put, List.getElem_toArray, List.getElem_cons_succ, List.getElem_cons_zero, List.setIfInBounds_toArray, List.set_cons_zero, List.set_cons_succ])
          refine wpAnyT_done (by kernel_rfl) ?_ _
          (try simp only [Act.put, List.getElem_toArray, List.getElem_cons_succ, List.getElem_cons_zero, List.setIfInBounds_toArray, List.set_cons_zero, List.set_cons_succ])
          clear hK1 K1 hK2 K2
          have bj8 : Below w.heap.size w w8 := bj.out.trans (Below.mono hS1 bj.out.size)
          have b9 := bj8.grown hg9 bj8.size (fun k hk => by cases hk; have := hgX.out; omega)
          have HR9 := Lib.hid ((HRj.out.below hS1 HRj.out.lt).grown hg9 (fun e => by injection e with e; exact hXR e.symm))
          have H9 : XV (fun b => Q b ∧ b ≠ gX ∧ b ≠ gR) w9 (uShade Xj y) V2 := H8.stored hg9 fun b h => ⟨h, h.2.1⟩
          rw [← htk.out] at H9 hB9
          replace hB9 := Lib.hid hB9
          replace H9 := Lib.hid H9
          replace b9 := Lib.hid b9
          clear HBj HRj Hj bj HS H8 b8 hS1 hS0 HB8 ON8 hg9 bj8 hc
          go_wp2_with fail
          go_roundw
          case rel => exact ⟨j + 1, V2, by omega, by go_num, hB9, HR9, H9, b9⟩
          case measure => simp [intOf]; omega
        · obtain rfl : j = roots.length := by omega
          rw [List.take_length] at hXj
          have hX4 : X0 = Xj := by rw [hX3.out, hXj]
          subst hX4
          have ONEj := Lib.hid (Hj.out.one X0.ph X0.cyc)
          replace hXj := Lib.hid hXj
          go_wp2_with (first
            | (refine wpList_load_blk rfl 42 (.tmp 2) rfl gX rfl 42 (c18 Vj X0.ph X0.cyc) HBj.out _ Tryz.underlying42 rfl SZ.out ?_)
            | (refine wpList_store_blk rfl 42 (.tmp 4) (.tmp 41) rfl gR rfl (c18 Vj X0.ph X0.cyc) rfl 42 n18 HRj.out SZ.out rfl ONEj.out ?_; intro w9 hR9 hg9 hs9))
          have b9 := bj.out.grown hg9 bj.out.size (fun k hk => by cases hk; have := hgR.out; omega)
          refine bodyPost_ret (res_cell_tmp rfl rfl hR9 Tryz.underlying42 rfl SZ.out) rfl ⟨Vj, rfl, Hj.out.stored hg9 fun b h => ⟨h.1, h.2.2⟩, b9⟩
end
end Go.Proofs.YtcaboknbdamlhaaGreatDoor
namespace Go.Proofs.YtcaboknbdamlhaaGreatDoor
open Go.RowKit Go.Shelf
theorem rd_nil18 {w : World} {b o : Nat} {g : List Int} (h : g.length = 0) : Rd i64e w (.slice (some ⟨b, o, none⟩) g.length 0) g := ⟨_, _, rfl, ⟨by omega, by omega, fun e => by cases e⟩, fun hp => absurd hp (by omega)⟩
theorem Rd.tail18 {α : Type} {enc : α → Value} {w : World} {b o c : Nat} {x : α} {xs : List α} (h : Rd enc w (.slice (some ⟨b, o, none⟩) (xs.length + 1) c) (x :: xs)) : Rd enc w (.slice (some ⟨b, o + 1, none⟩) xs.length (c - 1)) xs := by
  obtain ⟨A, c', he, h1, h3⟩ := h
  injection he with e1 e2 e3
  subst e1 e3
  have hl : (x :: xs).length = xs.length + 1 := rfl
  refine ⟨_, _, rfl, ⟨by omega, by omega, fun e => by cases e⟩, fun hp => ?_⟩
  obtain ⟨b', o', e, hlt, hc⟩ := h3 (by omega)
  cases e
  refine ⟨_, _, rfl, hlt, fun i hi => ?_⟩
  have := hc (i + 1) (by omega)
  rw [show o + 1 + i = o + (i + 1) by omega, this]
  rfl
section
variable {Q : Nat → Prop} {w : World} {D : DS} {V : V18}
set_option maxHeartbeats 6400000 in
set_option maxRecDepth 100000 in
theorem rlook18 (H : XV Q w D V) (hQ : New Q w) (I : Inv0 D.S) (hgs : D.greys.length ≤ 3900) (hbs : D.black.length ≤ 3900) :
    Calls Tryz.prog 59 #[.agg (c18 V D.ph D.cyc)] w (R18 Q w (uLook D).1 fun v => .returned (.tuple #[v, .bool (uLook D).2.1, .int .i64 (uLook D).2.2])) := by
  have ONE := Lib.hid (H.one D.ph D.cyc)
  have SZ := Lib.hid r18_size
  have SZh := Lib.hid rh_size
  obtain ⟨Ag, cg, hvg, hcg, -⟩ := H.gr.rd.len
  have HG := H.gr.rd
  have hQg := Lib.hid H.gr.inP
  rw [hvg] at HG
  replace HG := Lib.hid HG
  replace hvg := Lib.hid hvg
  replace H := Lib.hid H
  replace hQ := Lib.hid hQ
  obtain ⟨X, hX⟩ : ∃ X, X = uLook D := ⟨_, rfl⟩
  rw [← hX]
  unfold uLook at hX
  go_enter Tryz.func59, Tryz.ntmps59
  go_wp2_with (first
    | (refine wpList_new rfl (.box 42 (.tmp 0)) rfl w.heap.size rfl 42 (c18 V D.ph D.cyc) (by kernel_rfl) ?_; intro w1 hs1 hb1 hB1)
    | (refine wpList_new rfl (.alloc 42) rfl (w.heap.size + 1) hs1 42 n18 (by kernel_rfl) ?_; intro w2 hs2 hb2 hB2; refine stop_here ?_))
  have HB := hB1.below hb2 (by omega)
  have HR := hB2
  have b2 : Below w.heap.size w w2 := hb1.trans (hb2.mono (by omega))
  have hz2 : w2.heap.size = w.heap.size + 2 := by omega
  obtain ⟨gX, hgX⟩ : ∃ gX, gX = w.heap.size := ⟨_, rfl⟩
  obtain ⟨gR, hgR⟩ : ∃ gR, gR = w.heap.size + 1 := ⟨_, rfl⟩
  rw [← hgR] at HR ⊢
  rw [← hgX] at HB ⊢
  have hXR : gX ≠ gR := by omega
  replace hgX := Lib.hid hgX
  replace hgR := Lib.hid hgR
  replace hz2 := Lib.hid hz2
  clear hs1 hB1 hb1 hB2 hs2 hb2
  have c7 : w2.cell? ⟨gX, 7, none⟩ = some (.slice Ag D.greys.length cg) := by rw [← hvg.out]; exact HB.cell 7
  refine go_on ?_
  rcases hgr : D.greys with _ | ⟨p, gs⟩
  · rw [hgr] at c7 hX
    have hX1 : X = (D, false, 0) := hX
    subst hX1
    have z0 : (([] : List Int).length) = 0 := rfl
    clear hX
    replace hgr := Lib.hid hgr
    replace I := Lib.hid I
    go_wp2_with (first
      | (refine wpList_load_blk rfl 42 (.tmp 1) rfl gX rfl 42 (c18 V D.ph D.cyc) HB _ Tryz.underlying42 rfl SZ.out ?_)
      | (refine wpList_store_blk rfl 42 (.tmp 2) (.tmp 17) rfl gR rfl (c18 V D.ph D.cyc) rfl 42 n18 HR SZ.out rfl ONE.out ?_; intro w9 hR9 hg9 hs9))
    have b9 := b2.grown hg9 b2.size (fun k hk => by cases hk; have := hgR.out; omega)
    refine bodyPost_ret (res_cell_2 rfl rfl hR9 Tryz.underlying42 rfl SZ.out) rfl ⟨V, rfl, H.out.below b9, b9⟩
  rw [hgr] at hX
  dsimp only at hX
  have hgl : D.greys.length = gs.length + 1 := by rw [hgr]; rfl
  have hsb := size_bd I p
  have HSz := fun (wx : World) (Vx : V18) (h : XV (fun b => Q b ∧ b ≠ gX ∧ b ≠ gR) wx (uTake D p gs) Vx) => rsize_ok D.S _ _ _ _ wx h.rin I p
  obtain ⟨⟨n2, mask, is2⟩, hs⟩ : ∃ r, sSize D.S p = r := ⟨_, rfl⟩
  rw [hs] at hX hsb HSz
  dsimp only at hX hsb HSz
  obtain ⟨N, rfl⟩ : ∃ N : Nat, n2 = (N : Int) := ⟨n2.toNat, by omega⟩
  rw [Int.toNat_natCast] at hX
  have hN6 : N ≤ 6 := by omega
  have hmk : 0 ≤ mask ∧ mask ≤ 255 := by omega
  obtain ⟨D0, hD0⟩ : ∃ D0, D0 = uTake D p gs := ⟨_, rfl⟩
  rw [← hD0] at hX
  have hD0S : D0.S = D.S := by rw [hD0]; rfl
  have hD0g : D0.greys.length ≤ 3900 := by rw [hD0]; show gs.length ≤ 3900; omega
  have hD0b : D0.black.length ≤ 3901 := by rw [hD0]; show (D.black ++ [p]).length ≤ 3901; rw [List.length_append]; simp; omega
  obtain ⟨bg, og, hAg, hbgl, hcp⟩ := HG.out.at_ (i := 0) (by rw [hgl]; omega)
  have hcp' : w.cell? ⟨bg, og, none⟩ = some (.int .i64 p) := by
    have : D.greys[0]'(by rw [hgl]; omega) = p := by simp [hgr]
    rw [this] at hcp
    exact hcp
  have hQbg : Q bg := hQg.out (by rw [hgl]; omega) bg (by rw [hvg.out, hAg]; rfl)
  have HGr := HG.out
  rw [hgr, hAg] at HGr
  rw [hgl] at c7 hcg
  rw [hAg] at c7
  have d2 := (b2.cell (p := ⟨bg, og, none⟩) hbgl).trans hcp'
  have z1 : ((gs.length : Int) + 1 == 0) = false := by rw [beq_eq_false_iff_ne]; omega
  have z2 : (1 : Int) ≤ (gs.length : Int) + 1 := by omega
  have z3 : (gs.length : Int) + 1 ≤ (cg : Int) := by omega
  have f7 := HB.frozen 7
  have hgX3 : gX < w2.heap.size := HB.lt
  have hgR3 : gR < w2.heap.size := HR.lt
  have hbgX : bg ≠ gX ∧ bg ≠ gR := by have := hgX.out; have := hgR.out; omega
  replace hs := Lib.hid hs
  replace hX := Lib.hid hX
  replace HSz := Lib.hid HSz
  replace hsb := Lib.hid hsb
  replace hgr := Lib.hid hgr
  replace hgl := Lib.hid hgl
  replace hD0 := Lib.hid hD0
  replace hD0S := Lib.hid hD0S
  replace HGr := Lib.hid HGr
  replace I := Lib.hid I
  replace hAg := Lib.hid hAg
  replace hcg := Lib.hid hcg
  clear hcp hcp' HG hvg hQg
  by_cases hc1 : cg = 1
  · subst hc1
    have hrd2 : RdG (fun b => Q b ∧ b ≠ gX ∧ b ≠ gR) i64e w (Value.slice (some ⟨bg, og, none⟩) gs.length 0) gs := ⟨rd_nil18 (by omega), fun hp => absurd hp (by omega)⟩
    have zz := setCell_size w2 ⟨gX, 7, none⟩ (Value.slice (some ⟨bg, og, none⟩) gs.length 0)
    have HB3 : Blk (w2.setCell ⟨gX, 7, none⟩ (Value.slice (some ⟨bg, og, none⟩) gs.length 0)) gX 42 (c18 { V with vg := Value.slice (some ⟨bg, og, none⟩) gs.length 0 } D.ph D.cyc) := HB.set_ 7 _
    have HR3 : Blk (w2.setCell ⟨gX, 7, none⟩ (Value.slice (some ⟨bg, og, none⟩) gs.length 0)) gR 42 n18 := HR.far (p := ⟨gX, 7, none⟩) (by show gR ≠ gX; exact hXR.symm) _
    have b3w : Below w.heap.size w (w2.setCell ⟨gX, 7, none⟩ (Value.slice (some ⟨bg, og, none⟩) gs.length 0)) := b2.setCell (p := ⟨gX, 7, none⟩) (Nat.le_of_eq hgX.out.symm) _
    have q3 : (w2.setCell ⟨gX, 7, none⟩ (Value.slice (some ⟨bg, og, none⟩) gs.length 0)).cell? ⟨gX, 8, none⟩ = some V.vb := HB3.cell 8
    have hown0 := World.ownsRow_made (e := 3) (size := 1) (w2.setCell ⟨gX, 7, none⟩ (Value.slice (some ⟨bg, og, none⟩) gs.length 0)) (base := w2.heap.size) #[] 0 (by rw [setCell_size]; exact Nat.le_refl _) (Nat.zero_le _) rfl
    rw [setCell_size] at hown0
    have hrb := Lib.hid ((H.out.below b3w).bl.rd)
    replace hown0 := Lib.hid hown0
    replace zz := Lib.hid zz
    replace HB3 := Lib.hid HB3
    replace HR3 := Lib.hid HR3
    replace b3w := Lib.hid b3w
    replace hrd2 := Lib.hid hrd2
    go_wp2_with (at_builtin; refine wpList_append_all rfl (.tmp 26) (.tmp 28) _ rfl w2.heap.size 3 _ 8 Tryz.underlying36 int_info rfl _ 0 [] rfl hown0.out i64e _ D.black (fun _ => rfl) rfl (hrb.out.below (below_alloc _ _)) (by unfold maxLen; omega) (by omega) (by simp [setCell_size]) ?_; intro v4 w4 hown4 hg4 hat4; refine stop_here ?_)
    have b34 : Below w2.heap.size (w2.setCell ⟨gX, 7, none⟩ (Value.slice (some ⟨bg, og, none⟩) gs.length 0)) w4 := by
      have := below_alloc (w2.setCell ⟨gX, 7, none⟩ (Value.slice (some ⟨bg, og, none⟩) gs.length 0)) (.cells #[] 3)
      rw [zz.out] at this
      exact this.grown hg4 (by simp [setCell_size]) (fun k hk => by cases hk; exact Nat.le_refl _)
    have hown4 : w4.ownsRow w2.heap.size 3 1 v4 D.black.length (D.black.map i64e) := by simpa using hown4
    obtain ⟨A4, c4, rfl, -⟩ := own_form hown4
    have hz4 : w2.heap.size ≤ w4.heap.size := by have := b34.size; rw [zz.out] at this; exact this
    clear hown0 hrb hg4 hat4 q3
    refine go_on ?_
    go_wp2_with (at_builtin; refine wpList_push rfl (.tmp 30) (.tmp 32) _ rfl w2.heap.size 3 _ 8 Tryz.underlying36 int_info rfl (.slice A4 D.black.length c4) _ _ rfl hown4 _ rfl rfl (by unfold maxLen; omega) (by omega) hz4 ?_; intro v5 w5 hown5 hg5 hat5; refine stop_here ?_)
    have b35 := b34.grown hg5 hz4 (fun k hk => (hown4.lt k hk).1)
    obtain ⟨A5, c5, rfl, -⟩ := own_form hown5
    have HB5 := HB3.out.below b35 hgX3
    have HR5 := HR3.out.below b35 hgR3
    have c53 : w5.cell? ⟨gX, 8, none⟩ = some V.vb := HB5.cell 8
    have f53 := HB5.frozen 8
    have HB6 : Blk (w5.setCell ⟨gX, 8, none⟩ (.slice A5 (D.black.length + 1) c5)) gX 42 (c18 { V with vg := Value.slice (some ⟨bg, og, none⟩) gs.length 0, vb := .slice A5 (D.black.length + 1) c5 } D0.ph D0.cyc) := by rw [hD0.out]; exact HB5.set_ 8 _
    have HR6 : Blk (w5.setCell ⟨gX, 8, none⟩ (.slice A5 (D.black.length + 1) c5)) gR 42 n18 := HR5.far (p := ⟨gX, 8, none⟩) (by show gR ≠ gX; exact hXR.symm) _
    have b5w : Below w.heap.size w w5 := b3w.out.trans (b35.mono b2.size)
    have b6 : Below w.heap.size w (w5.setCell ⟨gX, 8, none⟩ (.slice A5 (D.black.length + 1) c5)) := b5w.setCell (p := ⟨gX, 8, none⟩) (Nat.le_of_eq hgX.out.symm) _
    have o6 : (w5.setCell ⟨gX, 8, none⟩ (.slice A5 (D.black.length + 1) c5)).ownsRow w2.heap.size 3 1 (.slice A5 (D.black.length + 1) c5) (D.black.length + 1) (D.black.map i64e ++ [i64e p]) := own_keep hown5 fun g e => setCell_other w5 gX 8 _ (by have := (hown5.lt g e).1; omega)
    have hlb : (D.black ++ [p]).length = D.black.length + 1 := by simp
    have r6 : Rd i64e (w5.setCell ⟨gX, 8, none⟩ (.slice A5 (D.black.length + 1) c5)) (.slice A5 (D.black.length + 1) c5) (D.black ++ [p]) := by
      have o7 := o6
      rw [← hlb] at o7 ⊢
      exact Rd.of_own (by rw [List.map_append]; exact o7)
    have X6 : XV (fun b => Q b ∧ b ≠ gX ∧ b ≠ gR) (w5.setCell ⟨gX, 8, none⟩ (.slice A5 (D.black.length + 1) c5)) D0 { V with vg := Value.slice (some ⟨bg, og, none⟩) gs.length 0, vb := .slice A5 (D.black.length + 1) c5 } := by
      have Y := H.out.apart b6 hgX.out hgR.out
      rw [hD0.out]
      exact ⟨Y.rin, hrd2.out.keepQ (Q' := (fun b => Q b ∧ b ≠ gX ∧ b ≠ gR)) b6.size (fun b _ hlt => b6.block b hlt) (fun _ h _ => h), ⟨r6, fun _ k hk => by
        have h1 := (o6.lt k hk).1
        have h2 := b2.size
        exact ⟨hQ.out k (by omega), by omega, by omega⟩⟩, Y.lf⟩
    obtain ⟨V6, hV6⟩ : ∃ V6 : V18, V6 = { V with vg := Value.slice (some ⟨bg, og, none⟩) gs.length 0, vb := .slice A5 (D.black.length + 1) c5 } := ⟨_, rfl⟩
    rw [← hV6] at HB6 X6
    replace hV6 := Lib.hid hV6
    replace HB6 := Lib.hid HB6
    replace HR6 := Lib.hid HR6
    replace X6 := Lib.hid X6
    replace b6 := Lib.hid b6
    clear hown4 hown5 hg5 hat5 b34 b35 HB5 HR5 b5w o6 r6 HB3 HR3 b3w HB HR c7 zz hz4 hlb d2
    refine go_on ?_
    go_wp2_with (refine wpList_load_mid rfl 40 (.tmp 36) rfl gX 0 rfl [V6.vw, V6.vc, V6.f 0, V6.f 1, V6.f 2, V6.f 3, V6.vo] _ (World.rangeAt_of_block HB6.out 0 7) Tryz.underlying40 rfl SZh.out ?_)
    refine (HSz.out _ _ (hD0.out ▸ X6.out)).mono ?_
    rintro e w7 ⟨rfl, b7⟩
    have HB7 := Lib.hid (HB6.out.below b7 HB6.out.lt)
    have HR7 := Lib.hid (HR6.out.below b7 HR6.out.lt)
    have X7 := Lib.hid (X6.out.below b7)
    have b7w := Lib.hid (b6.out.trans (b7.mono b6.out.size))
    clear HB6 HR6 X6 b6 b7 c53 f53
    go_wp2_with fail
    go_loopw [10] (fun i wr => ∃ (k : Nat) (Vk : V18), k ≤ N ∧ i = .int .i64 k ∧ Hid ((uScan D0 p mask k).2 = 0) ∧ Hid (Blk wr gX 42 (c18 Vk (uScan D0 p mask k).1.ph (uScan D0 p mask k).1.cyc)) ∧ Hid (Blk wr gR 42 n18) ∧ Hid (XV (fun b => Q b ∧ b ≠ gX ∧ b ≠ gR) wr (uScan D0 p mask k).1 Vk) ∧ Hid (Below w.heap.size w wr)) (fun i _ => N - (intOf i).toNat)
    case atStart => exact ⟨0, V6, by omega, rfl, Lib.hid rfl, HB7, HR7, X7, b7w⟩
    case round =>
      clear HB7 HR7 X7 b7w f7
      obtain ⟨k, Vk, hk, rfl, h0, HBk, HRk, Hk, bk⟩ := hrel
      obtain ⟨Xk, hXk⟩ : ∃ Xk, Xk = (uScan D0 p mask k).1 := ⟨_, rfl⟩
      have hsm := uscan_same D0 p mask k
      rw [← hXk] at hsm Hk HBk
      obtain ⟨hSk, -, -, -, hbk⟩ := hsm
      have hSk' : Xk.S = D.S := hSk.trans hD0S.out
      have Ik : Inv0 Xk.S := by rw [hSk']; exact I.out
      have hgk : Xk.greys.length ≤ 4000 := by
        have := uscan_len D0 p mask k
        rw [← hXk] at this
        omega
      have hbk2 : Xk.black.length ≤ 4096 := by rw [hbk]; omega
      have hgl9 := HBk.out.lt
      have hgr9 := HRk.out.lt
      by_cases hlt : k < N
      · have t0 : (k : Int) < (N : Int) := by omega
        have HLd := rload_ok Xk.S _ _ _ _ wr Hk.out.rin Ik p (k : Int)
        have HBt := fun wx : World => rbit18 mask k hmk (by omega) wx
        obtain ⟨⟨x, er⟩, hx⟩ : ∃ r, sLoad Xk.S p (k : Int) = r := ⟨_, rfl⟩
        rw [hx] at HLd
        obtain ⟨bt, hbt⟩ : ∃ b, mBit mask k = b := ⟨_, rfl⟩
        rw [hbt] at HBt
        replace HLd := Lib.hid HLd
        replace HBt := Lib.hid HBt
        have hxd : (sLoad D0.S p (k : Int)).1 = x := by rw [← hSk, hx]
        replace hx := Lib.hid hx
        replace hxd := Lib.hid hxd
        replace hbt := Lib.hid hbt
        replace hbk := Lib.hid hbk
        replace hSk := Lib.hid hSk
        replace hSk' := Lib.hid hSk'
        replace Ik := Lib.hid Ik
        replace hXk := Lib.hid hXk
        dsimp only at HLd
        go_wp2_with (refine wpList_load_mid rfl 40 (.tmp 49) rfl gX 0 rfl [Vk.vw, Vk.vc, Vk.f 0, Vk.f 1, Vk.f 2, Vk.f 3, Vk.vo] _ (World.rangeAt_of_block HBk.out 0 7) Tryz.underlying40 rfl SZh.out ?_)
        refine HLd.out.mono ?_
        rintro e w8 ⟨rfl, b8⟩
        have HB8 := Lib.hid (HBk.out.below b8 hgl9)
        have HR8 := Lib.hid (HRk.out.below b8 hgr9)
        have H8 := Lib.hid (Hk.out.below b8)
        have b8w := Lib.hid (bk.out.trans (b8.mono bk.out.size))
        clear HLd HBk HRk Hk bk b8
        go_wp2_with fail
        refine (HBt.out w8).mono ?_
        rintro e _ ⟨rfl, rfl⟩
        rcases bt with _ | _
        · have hn : uScan D0 p mask (k + 1) = uScan D0 p mask k := by
            show (if _ then _ else _) = _
            rw [if_pos (.inr hbt.out)]
          have h0' : Hid ((uScan D0 p mask (k + 1)).2 = 0) := Lib.hid (by rw [hn]; exact h0.out)
          have HB9 : Hid (Blk w8 gX 42 (c18 Vk (uScan D0 p mask (k + 1)).1.ph (uScan D0 p mask (k + 1)).1.cyc)) := Lib.hid (by rw [hn, ← hXk.out]; exact HB8.out)
          have H9 : Hid (XV (fun b => Q b ∧ b ≠ gX ∧ b ≠ gR) w8 (uScan D0 p mask (k + 1)).1 Vk) := Lib.hid (by rw [hn, ← hXk.out]; exact H8.out)
          clear hn HB8 H8 HBt
          go_wp2_with fail
          go_roundw
          case rel => exact ⟨k + 1, Vk, by omega, by go_num, h0', HB9, HR8, H9, b8w⟩
          case measure => simp [intOf]; omega
        have hn : uScan D0 p mask (k + 1) = if mBad D0.S x = true then (Xk, 11) else (uShade Xk x, 0) := by
          show (if _ then _ else _) = _
          rw [if_neg (fun h => h.elim (fun h => h h0.out) fun h => by rw [hbt.out] at h; cases h), hxd.out, hXk.out]
        have HOb := robj18 H8.out Ik.out x
        obtain ⟨ok, hok⟩ : ∃ b, decide (x = 0 ∨ (sSize Xk.S x).2.2 = true) = b := ⟨_, rfl⟩
        rw [hok] at HOb
        rw [hSk.out] at hok
        have hbad : mBad D0.S x = !ok := by
          rw [← hok]
          unfold mBad mIs
          by_cases h0 : x = 0
          · simp [h0]
          · cases h : (sSize D0.S x).2.2 <;> simp [h0]
        rw [hbad] at hn
        replace HOb := Lib.hid HOb
        replace hn := Lib.hid hn
        replace hok := Lib.hid hok
        replace hbad := Lib.hid hbad
        go_wp2_with (refine wpList_load_blk rfl 42 (.tmp 1) rfl gX rfl 42 (c18 Vk Xk.ph Xk.cyc) HB8.out _ Tryz.underlying42 rfl SZ.out ?_)
        refine HOb.out.mono ?_
        rintro e w9 ⟨rfl, b9⟩
        have HB9 := Lib.hid (HB8.out.below b9 HB8.out.lt)
        have HR9 := Lib.hid (HR8.out.below b9 HR8.out.lt)
        have H9 := Lib.hid (H8.out.below b9)
        have b9w := Lib.hid (b8w.out.trans (b9.mono b8w.out.size))
        clear HB8 HR8 H8 b8w HOb b9 HBt
        rcases ok with _ | _
        · have hX2 : X = (Xk, false, 11) := by
            have e1 : uScan D0 p mask (k + 1) = (Xk, 11) := by rw [hn.out]; rfl
            have e2 : uScan D0 p mask N = (Xk, 11) := by
              have := uscan_stop (D := D0) (p := p) (mask := mask) (j := k + 1) (by rw [e1]; simp) (N - (k + 1))
              rw [show k + 1 + (N - (k + 1)) = N by omega] at this
              rw [this, e1]
            rw [hX.out, e2, if_neg (by simp)]
          subst hX2
          have ONEk := Lib.hid (H9.out.one Xk.ph Xk.cyc)
          go_wp2_with (first
            | (refine wpList_load_blk rfl 42 (.tmp 1) rfl gX rfl 42 (c18 Vk Xk.ph Xk.cyc) HB9.out _ Tryz.underlying42 rfl SZ.out ?_)
            | (refine wpList_store_blk rfl 42 (.tmp 2) (.tmp 64) rfl gR rfl (c18 Vk Xk.ph Xk.cyc) rfl 42 n18 HR9.out SZ.out rfl ONEk.out ?_; intro w10 hR10 hg10 hs10))
          have b10 := b9w.out.grown hg10 b9w.out.size (fun k hk => by cases hk; have := hgR.out; omega)
          refine bodyPost_ret (res_cell_2 rfl rfl hR10 Tryz.underlying42 rfl SZ.out) rfl ⟨Vk, rfl, H9.out.stored hg10 fun b h => ⟨h.1, h.2.2⟩, b10⟩
        have hz9 := b9w.out.size
        have hgl10 := HB9.out.lt
        have hgr10 := HR9.out.lt
        have HS := Lib.hid (rshade18 (w := w9) H9.out (fun b hb => ⟨hQ.out b (Nat.le_trans hz9 hb), by omega, by omega⟩) x hgk hbk2)
        have hn1 : uScan D0 p mask (k + 1) = (uShade Xk x, 0) := by rw [hn.out]; rfl
        replace hn1 := Lib.hid hn1
        go_wp2_with (refine wpList_load_blk rfl 42 (.tmp 1) rfl gX rfl 42 (c18 Vk Xk.ph Xk.cyc) HB9.out _ Tryz.underlying42 rfl SZ.out ?_)
        refine HS.out.mono ?_
        rintro e w10 ⟨V10, rfl, H10, b10⟩
        have HB10 := Lib.hid (HB9.out.below b10 HB9.out.lt)
        have HR10 := Lib.hid (HR9.out.below b10 HR9.out.lt)
        have b10w := b9w.out.trans (b10.mono hz9)
        have ONEk := Lib.hid (H10.one (uShade Xk x).ph (uShade Xk x).cyc)
        replace H10 := Lib.hid H10
        clear HB9 HR9 H9 b9w HS b10
        go_wp2_with (refine wpList_store_blk rfl 42 (.tmp 1) (.tmp 67) rfl gX rfl (c18 V10 (uShade Xk x).ph (uShade Xk x).cyc) rfl 42 (c18 Vk Xk.ph Xk.cyc) HB10.out SZ.out rfl ONEk.out ?_; intro w11 hR11 hg11 hs11; refine stop_here ?_)
        have b11 := Lib.hid (b10w.grown hg11 b10w.size (fun k hk => by cases hk; have := hgX.out; omega))
        have HR11 := Lib.hid (HR10.out.grown hg11 (fun e => by injection e with e; exact hXR e.symm))
        have H11 : Hid (XV (fun b => Q b ∧ b ≠ gX ∧ b ≠ gR) w11 (uScan D0 p mask (k + 1)).1 V10) := Lib.hid (by rw [hn1.out]; exact H10.out.stored hg11 fun b h => ⟨h, h.2.1⟩)
        have h0' : Hid ((uScan D0 p mask (k + 1)).2 = 0) := Lib.hid (by rw [hn1.out])
        have HB11 : Hid (Blk w11 gX 42 (c18 V10 (uScan D0 p mask (k + 1)).1.ph (uScan D0 p mask (k + 1)).1.cyc)) := Lib.hid (by rw [hn1.out]; exact hR11)
        clear hR11 hg11 hs11 HB10 HR10 H10 b10w
        refine go_on ?_
        go_wp2_with fail
        go_roundw
        case rel => exact ⟨k + 1, V10, by omega, by go_num, h0', HB11, HR11, H11, b11⟩
        case measure => simp [intOf]; omega
      · obtain rfl : k = N := by omega
        have hX2 : X = (Xk, true, 0) := by rw [hX.out, if_pos h0.out, hXk]
        subst hX2
        have ONEk := Lib.hid (Hk.out.one Xk.ph Xk.cyc)
        replace hXk := Lib.hid hXk
        replace hSk := Lib.hid hSk
        replace hSk' := Lib.hid hSk'
        replace hbk := Lib.hid hbk
        go_wp2_with (first
          | (refine wpList_load_blk rfl 42 (.tmp 1) rfl gX rfl 42 (c18 Vk Xk.ph Xk.cyc) HBk.out _ Tryz.underlying42 rfl SZ.out ?_)
          | (refine wpList_store_blk rfl 42 (.tmp 2) (.tmp 68) rfl gR rfl (c18 Vk Xk.ph Xk.cyc) rfl 42 n18 HRk.out SZ.out rfl ONEk.out ?_; intro w10 hR10 hg10 hs10))
        have b10 := bk.out.grown hg10 bk.out.size (fun k hk => by cases hk; have := hgR.out; omega)
        refine bodyPost_ret (res_cell_2 rfl rfl hR10 Tryz.underlying42 rfl SZ.out) rfl ⟨Vk, rfl, Hk.out.stored hg10 fun b h => ⟨h.1, h.2.2⟩, b10⟩
  · have hc2 : Hid (cg ≠ 1) := Lib.hid hc1
    have hrd2 : RdG (fun b => Q b ∧ b ≠ gX ∧ b ≠ gR) i64e w (Value.slice (some ⟨bg, og + 1, none⟩) gs.length (cg - 1)) gs := ⟨Rd.tail18 HGr.out, fun _ b e => (show bg = b by simpa [Value.ownBlock] using e) ▸ ⟨hQbg, hbgX⟩⟩
    have zz := setCell_size w2 ⟨gX, 7, none⟩ (Value.slice (some ⟨bg, og + 1, none⟩) gs.length (cg - 1))
    have HB3 : Blk (w2.setCell ⟨gX, 7, none⟩ (Value.slice (some ⟨bg, og + 1, none⟩) gs.length (cg - 1))) gX 42 (c18 { V with vg := Value.slice (some ⟨bg, og + 1, none⟩) gs.length (cg - 1) } D.ph D.cyc) := HB.set_ 7 _
    have HR3 : Blk (w2.setCell ⟨gX, 7, none⟩ (Value.slice (some ⟨bg, og + 1, none⟩) gs.length (cg - 1))) gR 42 n18 := HR.far (p := ⟨gX, 7, none⟩) (by show gR ≠ gX; exact hXR.symm) _
    have b3w : Below w.heap.size w (w2.setCell ⟨gX, 7, none⟩ (Value.slice (some ⟨bg, og + 1, none⟩) gs.length (cg - 1))) := b2.setCell (p := ⟨gX, 7, none⟩) (Nat.le_of_eq hgX.out.symm) _
    have q3 : (w2.setCell ⟨gX, 7, none⟩ (Value.slice (some ⟨bg, og + 1, none⟩) gs.length (cg - 1))).cell? ⟨gX, 8, none⟩ = some V.vb := HB3.cell 8
    have hown0 := World.ownsRow_made (e := 3) (size := 1) (w2.setCell ⟨gX, 7, none⟩ (Value.slice (some ⟨bg, og + 1, none⟩) gs.length (cg - 1))) (base := w2.heap.size) #[] 0 (by rw [setCell_size]; exact Nat.le_refl _) (Nat.zero_le _) rfl
    rw [setCell_size] at hown0
    have hrb := Lib.hid ((H.out.below b3w).bl.rd)
    replace hown0 := Lib.hid hown0
    replace zz := Lib.hid zz
    replace HB3 := Lib.hid HB3
    replace HR3 := Lib.hid HR3
    replace b3w := Lib.hid b3w
    replace hrd2 := Lib.hid hrd2
    go_wp2_with (at_builtin; refine wpList_append_all rfl (.tmp 26) (.tmp 28) _ rfl w2.heap.size 3 _ 8 Tryz.underlying36 int_info rfl _ 0 [] rfl hown0.out i64e _ D.black (fun _ => rfl) rfl (hrb.out.below (below_alloc _ _)) (by unfold maxLen; omega) (by omega) (by simp [setCell_size]) ?_; intro v4 w4 hown4 hg4 hat4; refine stop_here ?_)
    have b34 : Below w2.heap.size (w2.setCell ⟨gX, 7, none⟩ (Value.slice (some ⟨bg, og + 1, none⟩) gs.length (cg - 1))) w4 := by
      have := below_alloc (w2.setCell ⟨gX, 7, none⟩ (Value.slice (some ⟨bg, og + 1, none⟩) gs.length (cg - 1))) (.cells #[] 3)
      rw [zz.out] at this
      exact this.grown hg4 (by simp [setCell_size]) (fun k hk => by cases hk; exact Nat.le_refl _)
    have hown4 : w4.ownsRow w2.heap.size 3 1 v4 D.black.length (D.black.map i64e) := by simpa using hown4
    obtain ⟨A4, c4, rfl, -⟩ := own_form hown4
    have hz4 : w2.heap.size ≤ w4.heap.size := by have := b34.size; rw [zz.out] at this; exact this
    clear hown0 hrb hg4 hat4 q3
    refine go_on ?_
    go_wp2_with (at_builtin; refine wpList_push rfl (.tmp 30) (.tmp 32) _ rfl w2.heap.size 3 _ 8 Tryz.underlying36 int_info rfl (.slice A4 D.black.length c4) _ _ rfl hown4 _ rfl rfl (by unfold maxLen; omega) (by omega) hz4 ?_; intro v5 w5 hown5 hg5 hat5; refine stop_here ?_)
    have b35 := b34.grown hg5 hz4 (fun k hk => (hown4.lt k hk).1)
    obtain ⟨A5, c5, rfl, -⟩ := own_form hown5
    have HB5 := HB3.out.below b35 hgX3
    have HR5 := HR3.out.below b35 hgR3
    have c53 : w5.cell? ⟨gX, 8, none⟩ = some V.vb := HB5.cell 8
    have f53 := HB5.frozen 8
    have HB6 : Blk (w5.setCell ⟨gX, 8, none⟩ (.slice A5 (D.black.length + 1) c5)) gX 42 (c18 { V with vg := Value.slice (some ⟨bg, og + 1, none⟩) gs.length (cg - 1), vb := .slice A5 (D.black.length + 1) c5 } D0.ph D0.cyc) := by rw [hD0.out]; exact HB5.set_ 8 _
    have HR6 : Blk (w5.setCell ⟨gX, 8, none⟩ (.slice A5 (D.black.length + 1) c5)) gR 42 n18 := HR5.far (p := ⟨gX, 8, none⟩) (by show gR ≠ gX; exact hXR.symm) _
    have b5w : Below w.heap.size w w5 := b3w.out.trans (b35.mono b2.size)
    have b6 : Below w.heap.size w (w5.setCell ⟨gX, 8, none⟩ (.slice A5 (D.black.length + 1) c5)) := b5w.setCell (p := ⟨gX, 8, none⟩) (Nat.le_of_eq hgX.out.symm) _
    have o6 : (w5.setCell ⟨gX, 8, none⟩ (.slice A5 (D.black.length + 1) c5)).ownsRow w2.heap.size 3 1 (.slice A5 (D.black.length + 1) c5) (D.black.length + 1) (D.black.map i64e ++ [i64e p]) := own_keep hown5 fun g e => setCell_other w5 gX 8 _ (by have := (hown5.lt g e).1; omega)
    have hlb : (D.black ++ [p]).length = D.black.length + 1 := by simp
    have r6 : Rd i64e (w5.setCell ⟨gX, 8, none⟩ (.slice A5 (D.black.length + 1) c5)) (.slice A5 (D.black.length + 1) c5) (D.black ++ [p]) := by
      have o7 := o6
      rw [← hlb] at o7 ⊢
      exact Rd.of_own (by rw [List.map_append]; exact o7)
    have X6 : XV (fun b => Q b ∧ b ≠ gX ∧ b ≠ gR) (w5.setCell ⟨gX, 8, none⟩ (.slice A5 (D.black.length + 1) c5)) D0 { V with vg := Value.slice (some ⟨bg, og + 1, none⟩) gs.length (cg - 1), vb := .slice A5 (D.black.length + 1) c5 } := by
      have Y := H.out.apart b6 hgX.out hgR.out
      rw [hD0.out]
      exact ⟨Y.rin, hrd2.out.keepQ (Q' := (fun b => Q b ∧ b ≠ gX ∧ b ≠ gR)) b6.size (fun b _ hlt => b6.block b hlt) (fun _ h _ => h), ⟨r6, fun _ k hk => by
        have h1 := (o6.lt k hk).1
        have h2 := b2.size
        exact ⟨hQ.out k (by omega), by omega, by omega⟩⟩, Y.lf⟩
    obtain ⟨V6, hV6⟩ : ∃ V6 : V18, V6 = { V with vg := Value.slice (some ⟨bg, og + 1, none⟩) gs.length (cg - 1), vb := .slice A5 (D.black.length + 1) c5 } := ⟨_, rfl⟩
    rw [← hV6] at HB6 X6
    replace hV6 := Lib.hid hV6
    replace HB6 := Lib.hid HB6
    replace HR6 := Lib.hid HR6
    replace X6 := Lib.hid X6
    replace b6 := Lib.hid b6
    clear hown4 hown5 hg5 hat5 b34 b35 HB5 HR5 b5w o6 r6 HB3 HR3 b3w HB HR c7 zz hz4 hlb d2
    refine go_on ?_
    go_wp2_with (refine wpList_load_mid rfl 40 (.tmp 36) rfl gX 0 rfl [V6.vw, V6.vc, V6.f 0, V6.f 1, V6.f 2, V6.f 3, V6.vo] _ (World.rangeAt_of_block HB6.out 0 7) Tryz.underlying40 rfl SZh.out ?_)
    refine (HSz.out _ _ (hD0.out ▸ X6.out)).mono ?_
    rintro e w7 ⟨rfl, b7⟩
    have HB7 := Lib.hid (HB6.out.below b7 HB6.out.lt)
    have HR7 := Lib.hid (HR6.out.below b7 HR6.out.lt)
    have X7 := Lib.hid (X6.out.below b7)
    have b7w := Lib.hid (b6.out.trans (b7.mono b6.out.size))
    clear HB6 HR6 X6 b6 b7 c53 f53
    go_wp2_with fail
    go_loopw [10] (fun i wr => ∃ (k : Nat) (Vk : V18), k ≤ N ∧ i = .int .i64 k ∧ Hid ((uScan D0 p mask k).2 = 0) ∧ Hid (Blk wr gX 42 (c18 Vk (uScan D0 p mask k).1.ph (uScan D0 p mask k).1.cyc)) ∧ Hid (Blk wr gR 42 n18) ∧ Hid (XV (fun b => Q b ∧ b ≠ gX ∧ b ≠ gR) wr (uScan D0 p mask k).1 Vk) ∧ Hid (Below w.heap.size w wr)) (fun i _ => N - (intOf i).toNat)
    case atStart => exact ⟨0, V6, by omega, rfl, Lib.hid rfl, HB7, HR7, X7, b7w⟩
    case round =>
      clear HB7 HR7 X7 b7w f7
      obtain ⟨k, Vk, hk, rfl, h0, HBk, HRk, Hk, bk⟩ := hrel
      obtain ⟨Xk, hXk⟩ : ∃ Xk, Xk = (uScan D0 p mask k).1 := ⟨_, rfl⟩
      have hsm := uscan_same D0 p mask k
      rw [← hXk] at hsm Hk HBk
      obtain ⟨hSk, -, -, -, hbk⟩ := hsm
      have hSk' : Xk.S = D.S := hSk.trans hD0S.out
      have Ik : Inv0 Xk.S := by rw [hSk']; exact I.out
      have hgk : Xk.greys.length ≤ 4000 := by
        have := uscan_len D0 p mask k
        rw [← hXk] at this
        omega
      have hbk2 : Xk.black.length ≤ 4096 := by rw [hbk]; omega
      have hgl9 := HBk.out.lt
      have hgr9 := HRk.out.lt
      by_cases hlt : k < N
      · have t0 : (k : Int) < (N : Int) := by omega
        have HLd := rload_ok Xk.S _ _ _ _ wr Hk.out.rin Ik p (k : Int)
        have HBt := fun wx : World => rbit18 mask k hmk (by omega) wx
        obtain ⟨⟨x, er⟩, hx⟩ : ∃ r, sLoad Xk.S p (k : Int) = r := ⟨_, rfl⟩
        rw [hx] at HLd
        obtain ⟨bt, hbt⟩ : ∃ b, mBit mask k = b := ⟨_, rfl⟩
        rw [hbt] at HBt
        replace HLd := Lib.hid HLd
        replace HBt := Lib.hid HBt
        have hxd : (sLoad D0.S p (k : Int)).1 = x := by rw [← hSk, hx]
        replace hx := Lib.hid hx
        replace hxd := Lib.hid hxd
        replace hbt := Lib.hid hbt
        replace hbk := Lib.hid hbk
        replace hSk := Lib.hid hSk
        replace hSk' := Lib.hid hSk'
        replace Ik := Lib.hid Ik
        replace hXk := Lib.hid hXk
        dsimp only at HLd
        go_wp2_with (refine wpList_load_mid rfl 40 (.tmp 49) rfl gX 0 rfl [Vk.vw, Vk.vc, Vk.f 0, Vk.f 1, Vk.f 2, Vk.f 3, Vk.vo] _ (World.rangeAt_of_block HBk.out 0 7) Tryz.underlying40 rfl SZh.out ?_)
        refine HLd.out.mono ?_
        rintro e w8 ⟨rfl, b8⟩
        have HB8 := Lib.hid (HBk.out.below b8 hgl9)
        have HR8 := Lib.hid (HRk.out.below b8 hgr9)
        have H8 := Lib.hid (Hk.out.below b8)
        have b8w := Lib.hid (bk.out.trans (b8.mono bk.out.size))
        clear HLd HBk HRk Hk bk b8
        go_wp2_with fail
        refine (HBt.out w8).mono ?_
        rintro e _ ⟨rfl, rfl⟩
        rcases bt with _ | _
        · have hn : uScan D0 p mask (k + 1) = uScan D0 p mask k := by
            show (if _ then _ else _) = _
            rw [if_pos (.inr hbt.out)]
          have h0' : Hid ((uScan D0 p mask (k + 1)).2 = 0) := Lib.hid (by rw [hn]; exact h0.out)
          have HB9 : Hid (Blk w8 gX 42 (c18 Vk (uScan D0 p mask (k + 1)).1.ph (uScan D0 p mask (k + 1)).1.cyc)) := Lib.hid (by rw [hn, ← hXk.out]; exact HB8.out)
          have H9 : Hid (XV (fun b => Q b ∧ b ≠ gX ∧ b ≠ gR) w8 (uScan D0 p mask (k + 1)).1 Vk) := Lib.hid (by rw [hn, ← hXk.out]; exact H8.out)
          clear hn HB8 H8 HBt
          go_wp2_with fail
          go_roundw
          case rel => exact ⟨k + 1, Vk, by omega, by go_num, h0', HB9, HR8, H9, b8w⟩
          case measure => simp [intOf]; omega
        have hn : uScan D0 p mask (k + 1) = if mBad D0.S x = true then (Xk, 11) else (uShade Xk x, 0) := by
          show (if _ then _ else _) = _
          rw [if_neg (fun h => h.elim (fun h => h h0.out) fun h => by rw [hbt.out] at h; cases h), hxd.out, hXk.out]
        have HOb := robj18 H8.out Ik.out x
        obtain ⟨ok, hok⟩ : ∃ b, decide (x = 0 ∨ (sSize Xk.S x).2.2 = true) = b := ⟨_, rfl⟩
        rw [hok] at HOb
        rw [hSk.out] at hok
        have hbad : mBad D0.S x = !ok := by
          rw [← hok]
          unfold mBad mIs
          by_cases h0 : x = 0
          · simp [h0]
          · cases h : (sSize D0.S x).2.2 <;> simp [h0]
        rw [hbad] at hn
        replace HOb := Lib.hid HOb
        replace hn := Lib.hid hn
        replace hok := Lib.hid hok
        replace hbad := Lib.hid hbad
        go_wp2_with (refine wpList_load_blk rfl 42 (.tmp 1) rfl gX rfl 42 (c18 Vk Xk.ph Xk.cyc) HB8.out _ Tryz.underlying42 rfl SZ.out ?_)
        refine HOb.out.mono ?_
        rintro e w9 ⟨rfl, b9⟩
        have HB9 := Lib.hid (HB8.out.below b9 HB8.out.lt)
        have HR9 := Lib.hid (HR8.out.below b9 HR8.out.lt)
        have H9 := Lib.hid (H8.out.below b9)
        have b9w := Lib.hid (b8w.out.trans (b9.mono b8w.out.size))
        clear HB8 HR8 H8 b8w HOb b9 HBt
        rcases ok with _ | _
        · have hX2 : X = (Xk, false, 11) := by
            have e1 : uScan D0 p mask (k + 1) = (Xk, 11) := by rw [hn.out]; rfl
            have e2 : uScan D0 p mask N = (Xk, 11) := by
              have := uscan_stop (D := D0) (p := p) (mask := mask) (j := k + 1) (by rw [e1]; simp) (N - (k + 1))
              rw [show k + 1 + (N - (k + 1)) = N by omega] at this
              rw [this, e1]
            rw [hX.out, e2, if_neg (by simp)]
          subst hX2
          have ONEk := Lib.hid (H9.out.one Xk.ph Xk.cyc)
          go_wp2_with (first
            | (refine wpList_load_blk rfl 42 (.tmp 1) rfl gX rfl 42 (c18 Vk Xk.ph Xk.cyc) HB9.out _ Tryz.underlying42 rfl SZ.out ?_)
            | (refine wpList_store_blk rfl 42 (.tmp 2) (.tmp 64) rfl gR rfl (c18 Vk Xk.ph Xk.cyc) rfl 42 n18 HR9.out SZ.out rfl ONEk.out ?_; intro w10 hR10 hg10 hs10))
          have b10 := b9w.out.grown hg10 b9w.out.size (fun k hk => by cases hk; have := hgR.out; omega)
          refine bodyPost_ret (res_cell_2 rfl rfl hR10 Tryz.underlying42 rfl SZ.out) rfl ⟨Vk, rfl, H9.out.stored hg10 fun b h => ⟨h.1, h.2.2⟩, b10⟩
        have hz9 := b9w.out.size
        have hgl10 := HB9.out.lt
        have hgr10 := HR9.out.lt
        have HS := Lib.hid (rshade18 (w := w9) H9.out (fun b hb => ⟨hQ.out b (Nat.le_trans hz9 hb), by omega, by omega⟩) x hgk hbk2)
        have hn1 : uScan D0 p mask (k + 1) = (uShade Xk x, 0) := by rw [hn.out]; rfl
        replace hn1 := Lib.hid hn1
        go_wp2_with (refine wpList_load_blk rfl 42 (.tmp 1) rfl gX rfl 42 (c18 Vk Xk.ph Xk.cyc) HB9.out _ Tryz.underlying42 rfl SZ.out ?_)
        refine HS.out.mono ?_
        rintro e w10 ⟨V10, rfl, H10, b10⟩
        have HB10 := Lib.hid (HB9.out.below b10 HB9.out.lt)
        have HR10 := Lib.hid (HR9.out.below b10 HR9.out.lt)
        have b10w := b9w.out.trans (b10.mono hz9)
        have ONEk := Lib.hid (H10.one (uShade Xk x).ph (uShade Xk x).cyc)
        replace H10 := Lib.hid H10
        clear HB9 HR9 H9 b9w HS b10
        go_wp2_with (refine wpList_store_blk rfl 42 (.tmp 1) (.tmp 67) rfl gX rfl (c18 V10 (uShade Xk x).ph (uShade Xk x).cyc) rfl 42 (c18 Vk Xk.ph Xk.cyc) HB10.out SZ.out rfl ONEk.out ?_; intro w11 hR11 hg11 hs11; refine stop_here ?_)
        have b11 := Lib.hid (b10w.grown hg11 b10w.size (fun k hk => by cases hk; have := hgX.out; omega))
        have HR11 := Lib.hid (HR10.out.grown hg11 (fun e => by injection e with e; exact hXR e.symm))
        have H11 : Hid (XV (fun b => Q b ∧ b ≠ gX ∧ b ≠ gR) w11 (uScan D0 p mask (k + 1)).1 V10) := Lib.hid (by rw [hn1.out]; exact H10.out.stored hg11 fun b h => ⟨h, h.2.1⟩)
        have h0' : Hid ((uScan D0 p mask (k + 1)).2 = 0) := Lib.hid (by rw [hn1.out])
        have HB11 : Hid (Blk w11 gX 42 (c18 V10 (uScan D0 p mask (k + 1)).1.ph (uScan D0 p mask (k + 1)).1.cyc)) := Lib.hid (by rw [hn1.out]; exact hR11)
        clear hR11 hg11 hs11 HB10 HR10 H10 b10w
        refine go_on ?_
        go_wp2_with fail
        go_roundw
        case rel => exact ⟨k + 1, V10, by omega, by go_num, h0', HB11, HR11, H11, b11⟩
        case measure => simp [intOf]; omega
      · obtain rfl : k = N := by omega
        have hX2 : X = (Xk, true, 0) := by rw [hX.out, if_pos h0.out, hXk]
        subst hX2
        have ONEk := Lib.hid (Hk.out.one Xk.ph Xk.cyc)
        replace hXk := Lib.hid hXk
        replace hSk := Lib.hid hSk
        replace hSk' := Lib.hid hSk'
        replace hbk := Lib.hid hbk
        go_wp2_with (first
          | (refine wpList_load_blk rfl 42 (.tmp 1) rfl gX rfl 42 (c18 Vk Xk.ph Xk.cyc) HBk.out _ Tryz.underlying42 rfl SZ.out ?_)
          | (refine wpList_store_blk rfl 42 (.tmp 2) (.tmp 68) rfl gR rfl (c18 Vk Xk.ph Xk.cyc) rfl 42 n18 HRk.out SZ.out rfl ONEk.out ?_; intro w10 hR10 hg10 hs10))
        have b10 := bk.out.grown hg10 bk.out.size (fun k hk => by cases hk; have := hgR.out; omega)
        refine bodyPost_ret (res_cell_2 rfl rfl hR10 Tryz.underlying42 rfl SZ.out) rfl ⟨Vk, rfl, Hk.out.stored hg10 fun b h => ⟨h.1, h.2.2⟩, b10⟩
end
end Go.Proofs.YtcaboknbdamlhaaGreatDoor
namespace Go.Proofs.YtcaboknbdamlhaaGreatDoor
open Go.RowKit Go.Shelf
/-- Those of the first j objects that are not black. -/
def whites (D : DS) (j : Nat) : List Int := ((sAll D.S).take j).filter fun x => decide (x ∉ D.black)
theorem whites_next (D : DS) {j : Nat} {o : Int × Int × Int} (hj : j < D.S.objs.length) (ho : D.S.objs[j] = o) : whites D (j + 1) = if decide (o.1 ∈ D.black) = true then whites D j else whites D j ++ [o.1] := by
  have hl : j < (sAll D.S).length := by rw [all_len]; exact hj
  have he : (sAll D.S)[j] = o.1 := by simp [sAll, ho]
  unfold whites
  rw [take_snoc _ hl, List.filter_append, he]
  by_cases h : o.1 ∈ D.black
  · rw [if_pos (by simp [h]), List.filter_cons_of_neg (by simp [h])]
    simp
  · rw [if_neg (by simp [h]), List.filter_cons_of_pos (by simp [h])]
    simp
theorem whites_len (D : DS) (j : Nat) : (whites D j).length ≤ j := by
  have h1 := List.length_filter_le (fun x => decide (x ∉ D.black)) ((sAll D.S).take j)
  have h2 : ((sAll D.S).take j).length ≤ j := by rw [List.length_take]; omega
  unfold whites
  omega
section
variable {Q : Nat → Prop} {w : World} {D : DS} {V : V18}
set_option maxHeartbeats 6400000 in
set_option maxRecDepth 100000 in
theorem rStep18_mark (H : XV Q w D V) (hQ : New Q w) (I : Inv0 D.S) (hgs : D.greys.length ≤ 3900) (hbs : D.black.length ≤ 3900) (h1 : D.ph = 1) (junk : Int) :
    Calls Tryz.prog 34 #[.agg (c18 V D.ph D.cyc), .int .i64 junk] w (R18 Q w (uStep D junk).1 fun v => .returned (.tuple #[v, .int .i64 (uStep D junk).2.1, .int .i64 (uStep D junk).2.2])) := by
  have ONE := Lib.hid (H.one D.ph D.cyc)
  have SZ := Lib.hid r18_size
  have SZh := Lib.hid rh_size
  replace H := Lib.hid H
  replace hQ := Lib.hid hQ
  obtain ⟨X, hX⟩ : ∃ X, X = uStep D junk := ⟨_, rfl⟩
  rw [← hX]
  unfold uStep at hX
  rw [if_pos h1] at hX
  have HLk := fun (Q' : Nat → Prop) (wx : World) (h : XV Q' wx D V) (hq : New Q' wx) => rlook18 h hq I hgs hbs
  have hlks : (uLook D).2.1 = false → (uLook D).2.2 = 0 → D.greys = [] := by
    unfold uLook
    rcases D.greys with _ | ⟨p, gs⟩
    · exact fun _ _ => rfl
    · dsimp only
      split
      · exact fun h => (by cases h)
      · next h => exact fun _ h2 => absurd h2 h
  obtain ⟨⟨L, did, er⟩, hL⟩ : ∃ r, uLook D = r := ⟨_, rfl⟩
  rw [hL] at hX HLk hlks
  dsimp only at hX HLk
  replace hX := Lib.hid hX
  replace HLk := Lib.hid HLk
  replace hL := Lib.hid hL
  replace hlks := Lib.hid hlks
  replace I := Lib.hid I
  replace h1 := Lib.hid h1
  go_enter Tryz.func34, Tryz.ntmps34
  go_wp2_with (first
    | (refine wpList_new rfl (.box 42 (.tmp 0)) rfl w.heap.size rfl 42 (c18 V D.ph D.cyc) (by kernel_rfl) ?_; intro w1 hs1 hb1 hB1)
    | (refine wpList_new rfl (.alloc 42) rfl (w.heap.size + 1) hs1 42 n18 (by kernel_rfl) ?_; intro w2 hs2 hb2 hB2; refine stop_here ?_))
  have HB := hB1.below hb2 (by omega)
  have HR := hB2
  have b2 : Below w.heap.size w w2 := hb1.trans (hb2.mono (by omega))
  have hz2 : w2.heap.size = w.heap.size + 2 := by omega
  obtain ⟨gX, hgX⟩ : ∃ gX, gX = w.heap.size := ⟨_, rfl⟩
  obtain ⟨gR, hgR⟩ : ∃ gR, gR = w.heap.size + 1 := ⟨_, rfl⟩
  rw [← hgR] at HR ⊢
  rw [← hgX] at HB ⊢
  have hXR : gX ≠ gR := by omega
  replace hgX := Lib.hid hgX
  replace hgR := Lib.hid hgR
  replace hz2 := Lib.hid hz2
  clear hs1 hB1 hb1 hB2 hs2 hb2
  have q9 : w2.cell? ⟨gX, 9, none⟩ = some (.int .i64 D.ph) := HB.cell 9
  rw [h1.out] at q9
  refine go_on ?_
  go_wp2_with (refine wpList_load_blk rfl 42 (.tmp 2) rfl gX rfl 42 (c18 V D.ph D.cyc) HB _ Tryz.underlying42 rfl SZ.out ?_)
  refine (HLk.out (fun b => Q b ∧ b ≠ gX ∧ b ≠ gR) w2 (H.out.apart b2 hgX.out hgR.out) (fun b hb => ⟨hQ.out b (Nat.le_trans b2.size hb), by have := HB.lt; omega, by have := HR.lt; omega⟩)).mono ?_
  rintro e w6 ⟨V4, rfl, H6, b6⟩
  have HB6 := HB.below b6 HB.lt
  have HR6 := HR.below b6 HR.lt
  have b6w := b2.trans (b6.mono b2.size)
  have ONE4 := Lib.hid (H6.one L.ph L.cyc)
  replace H6 := Lib.hid H6
  clear HLk HB HR q9
  go_wp2_with (first
    | (refine wpList_new rfl (.alloc 42) rfl w6.heap.size rfl 42 n18 (by kernel_rfl) ?_; intro w7 hs7 hb7 hB7; have HB7 := Lib.hid hB7; clear hB7)
    | (refine wpList_store_blk rfl 42 (.tmp 7) (.tmp 20) rfl w6.heap.size rfl (c18 V4 L.ph L.cyc) rfl 42 n18 HB7.out SZ.out rfl ONE4.out ?_; intro w8 hR8 hg8 hs8; refine stop_here ?_))
  have hb8 : Below w6.heap.size w6 w8 := hb7.grown hg8 hb7.size (fun k hk => by cases hk; exact Nat.le_refl _)
  have HB8 := HB6.below hb8 HB6.lt
  have HR8x := HR6.below hb8 HR6.lt
  have b8w := b6w.trans (hb8.mono b6w.size)
  have H8 := Lib.hid (H6.out.below hb8)
  obtain ⟨gS, hgS⟩ : ∃ gS, gS = w6.heap.size := ⟨_, rfl⟩
  rw [← hgS] at hR8 ⊢
  replace hgS := Lib.hid hgS
  clear HB6 HR6 H6 HB7 hb7 hs7 hg8 hs8 hb8
  refine go_on ?_
  by_cases hk : er = 0
  case neg =>
    have z0 : (er == 0) = false := beq_eq_false_iff_ne.2 hk
    have z2 : (er != 0) = true := by simpa using hk
    have hX1 : X = (L, 0, er) := by rw [hX.out, if_pos hk]
    subst hX1
    go_wp2_with (first
      | (refine wpList_load_blk rfl 42 (.tmp 7) rfl gS rfl 42 (c18 V4 L.ph L.cyc) hR8 _ Tryz.underlying42 rfl SZ.out ?_)
      | (refine wpList_store_blk rfl 42 (.tmp 4) (.tmp 25) rfl gR rfl (c18 V4 L.ph L.cyc) rfl 42 n18 HR8x SZ.out rfl ONE4.out ?_; intro w9 hR9 hg9 hs9))
    have b9 := b8w.grown hg9 b8w.size (fun k hk => by cases hk; have := hgR.out; omega)
    refine bodyPost_ret (res_cell_2 rfl rfl hR9 Tryz.underlying42 rfl SZ.out) rfl ⟨V4, rfl, H8.out.stored hg9 fun b h => ⟨h.1, h.2.2⟩, b9⟩
  subst hk
  rcases did with _ | _
  case true =>
    have hX1 : X = (L, 1, 0) := by rw [hX.out, if_neg (by simp), if_pos rfl]
    subst hX1
    go_wp2_with (first
      | (refine wpList_load_blk rfl 42 (.tmp 7) rfl gS rfl 42 (c18 V4 L.ph L.cyc) hR8 _ Tryz.underlying42 rfl SZ.out ?_)
      | (refine wpList_store_blk rfl 42 (.tmp 4) (.tmp 28) rfl gR rfl (c18 V4 L.ph L.cyc) rfl 42 n18 HR8x SZ.out rfl ONE4.out ?_; intro w9 hR9 hg9 hs9))
    have b9 := b8w.grown hg9 b8w.size (fun k hk => by cases hk; have := hgR.out; omega)
    refine bodyPost_ret (res_cell_2 rfl rfl hR9 Tryz.underlying42 rfl SZ.out) rfl ⟨V4, rfl, H8.out.stored hg9 fun b h => ⟨h.1, h.2.2⟩, b9⟩
  have hX1 : X = ({ D with left := uWhite D, ph := 2 }, 2, 0) := by rw [hX.out, if_neg (by simp), if_neg (by simp)]
  replace hX1 := Lib.hid hX1
  have X8 := Lib.hid (H.out.apart b8w hgX.out hgR.out)
  have hol := X8.out.rin.len0 I.out
  have hon : D.S.objs.length ≤ 4096 := hol.2.2
  obtain ⟨Ao, co, hvo, -⟩ := X8.out.rin.objs.len
  obtain ⟨n, hn⟩ : ∃ n, n = D.S.objs.length := ⟨_, rfl⟩
  rw [← hn] at hvo hon
  have k10 : w8.cell? ⟨gX, 10, none⟩ = some V.vl := HB8.cell 10
  have f10 := HB8.frozen 10
  have HB9 : Blk (w8.setCell ⟨gX, 10, none⟩ (.slice none 0 0)) gX 42 (c18 { V with vl := .slice none 0 0 } D.ph D.cyc) := HB8.set_ 10 _
  have HR9 : Blk (w8.setCell ⟨gX, 10, none⟩ (.slice none 0 0)) gR 42 n18 := HR8x.far (p := ⟨gX, 10, none⟩) (by show gR ≠ gX; exact hXR.symm) _
  have b9 : Below w.heap.size w (w8.setCell ⟨gX, 10, none⟩ (.slice none 0 0)) := b8w.setCell (p := ⟨gX, 10, none⟩) (Nat.le_of_eq hgX.out.symm) _
  have X9 : XV (fun b => Q b ∧ b ≠ gX ∧ b ≠ gR) (w8.setCell ⟨gX, 10, none⟩ (.slice none 0 0)) { D with left := whites D 0 } { V with vl := .slice none 0 0 } :=
    have Y := H.out.apart b9 hgX.out hgR.out
    ⟨Y.rin, Y.gr, Y.bl, ⟨Rd.none_ _ _, fun hp => absurd hp (by simp [whites])⟩⟩
  replace HB9 := Lib.hid HB9
  replace HR9 := Lib.hid HR9
  replace b9 := Lib.hid b9
  replace X9 := Lib.hid X9
  replace hvo := Lib.hid hvo
  replace hn := Lib.hid hn
  clear HB8 HR8x H8 X8 hol hR8 b8w b6w b6 b2
  go_wp2_with fail
  go_loopw [10] (fun i wr => ∃ (j : Nat) (vl : Value), j ≤ n ∧ i = .int .i64 j ∧ Hid (Blk wr gX 42 (c18 { V with vl := vl } D.ph D.cyc)) ∧ Hid (Blk wr gR 42 n18) ∧ Hid (XV (fun b => Q b ∧ b ≠ gX ∧ b ≠ gR) wr { D with left := whites D j } { V with vl := vl }) ∧ Hid (Below w.heap.size w wr)) (fun i _ => n - (intOf i).toNat)
  case atStart => exact ⟨0, _, by omega, rfl, HB9, HR9, X9, b9⟩
  case round =>
    clear HB9 HR9 X9 b9 k10 f10
    obtain ⟨j, vl, hj, rfl, HBj, HRj, Hj, bj⟩ := hrel
    have hgl9 := HBj.out.lt
    have hgr9 := HRj.out.lt
    have k6 : wr.cell? ⟨gX, 6, none⟩ = some (.slice Ao n co) := by rw [← hvo.out]; exact HBj.out.cell 6
    have k8 : wr.cell? ⟨gX, 8, none⟩ = some V.vb := HBj.out.cell 8
    by_cases hlt : j < n
    · have t0 : (j : Int) < (n : Int) := by omega
      have hjo : j < D.S.objs.length := by rw [← hn.out]; exact hlt
      have hobj : RdC 3 objC wr (.slice Ao D.S.objs.length co) D.S.objs := by
        rw [← hn.out, ← hvo.out]
        exact Hj.out.rin.objs
      obtain ⟨b, ob, hAo, hbl, hc⟩ := hobj.at_ hjo
      subst hAo
      obtain ⟨oo, ho⟩ : ∃ oo, D.S.objs[j] = oo := ⟨_, rfl⟩
      have hwn := whites_next D hjo ho
      rw [ho] at hc
      have c0 := hc 0 _ rfl
      obtain ⟨y, mk, n3⟩ := oo
      dsimp only at c0 hwn
      have c0' : wr.cell? ⟨b, ob + j * 3, none⟩ = some (.int .i64 y) := c0
      have HH := fun wx (bx : Below wr.heap.size wr wx) => rhas18 V.vb D.black y wx (Hj.out.below bx).bl.rd (by omega)
      obtain ⟨bb, hbb⟩ : ∃ bb, decide (y ∈ D.black) = bb := ⟨_, rfl⟩
      rw [hbb] at HH hwn
      have hwl := whites_len D j
      obtain ⟨wl, hwl2⟩ : ∃ wl, wl = whites D j := ⟨_, rfl⟩
      rw [← hwl2] at hwn hwl Hj
      replace HH := Lib.hid HH
      replace hbb := Lib.hid hbb
      replace hwn := Lib.hid hwn
      replace hwl2 := Lib.hid hwl2
      replace ho := Lib.hid ho
      clear hc hobj c0
      go_wp2_with fail
      have hS0 : (fun X : World => Below wr.heap.size wr X) wr.drew := (Below.refl _ _).drew
      refine wp_T (by kernel_rfl) 9 (fun X : World => Below wr.heap.size wr X) ?_
      refine wpAnyT_takeW (i := 0) (v := .pointer (some ⟨gX, 8, none⟩)) rfl (by kernel_rfl) (fun _ _ _ hp => hp) (Or.inl ⟨by kernel_rfl, fun X _ => by go_simp⟩) hS0 ?_
      simp only [Act.put, List.getElem_toArray, List.getElem_cons_succ, List.getElem_cons_zero, List.setIfInBounds_toArray, List.set_cons_zero, List.set_cons_succ]
      refine wpAnyT_takeC (i := 1) (v := V.vb) [] rfl (by kernel_rfl) (fun _ _ _ hp => hp) (Or.inl ⟨by kernel_rfl, fun X hX => by have y1 := (hX.cell (p := ⟨gX, 8, none⟩) hgl9).trans k8; go_simp⟩) hS0 ?_
      simp only [Act.put, List.getElem_toArray, List.getElem_cons_succ, List.getElem_cons_zero, List.setIfInBounds_toArray, List.set_cons_zero, List.set_cons_succ]
      refine wpAnyT_takeW (i := 2) (v := .pointer (some ⟨gX, 0, none⟩)) rfl (by kernel_rfl) (fun _ _ _ hp => hp) (Or.inl ⟨by kernel_rfl, fun X _ => by go_simp⟩) hS0 ?_
      simp only [Act.put, List.getElem_toArray, List.getElem_cons_succ, List.getElem_cons_zero, List.setIfInBounds_toArray, List.set_cons_zero, List.set_cons_succ]
      refine wpAnyT_takeW (i := 3) (v := .pointer (some ⟨gX, 6, none⟩)) rfl (by kernel_rfl) (fun _ _ _ hp => hp) (Or.inl ⟨by kernel_rfl, fun X _ => by go_simp⟩) hS0 ?_
      simp only [Act.put, List.getElem_toArray, List.getElem_cons_succ, List.getElem_cons_zero, List.setIfInBounds_toArray, List.set_cons_zero, List.set_cons_succ]
      refine wpAnyT_takeC (i := 4) (v := .slice (some ⟨b, ob, none⟩) n co) [6, 7, 8] rfl (by kernel_rfl) (fun _ _ _ hp => hp) (Or.inl ⟨by kernel_rfl, fun X hX => by have y1 := (hX.cell (p := ⟨gX, 6, none⟩) hgl9).trans k6; go_simp⟩) hS0 ?_
      simp only [Act.put, List.getElem_toArray, List.getElem_cons_succ, List.getElem_cons_zero, List.setIfInBounds_toArray, List.set_cons_zero, List.set_cons_succ]
      refine wpAnyT_takeW (i := 5) (v := .int .i64 (j : Int)) rfl (by kernel_rfl) (fun _ _ _ hp => hp) (Or.inl ⟨by kernel_rfl, fun X _ => by go_simp⟩) hS0 ?_
      simp only [Act.put, List.getElem_toArray, List.getElem_cons_succ, List.getElem_cons_zero, List.setIfInBounds_toArray, List.set_cons_zero, List.set_cons_succ]
      refine wpAnyT_takeW (i := 6) (v := .pointer (some ⟨b, ob + j * 3, none⟩)) rfl (by kernel_rfl) (fun _ _ _ hp => hp) (Or.inl ⟨by kernel_rfl, fun X _ => by go_simp⟩) hS0 ?_
      simp only [Act.put, List.getElem_toArray, List.getElem_cons_succ, List.getElem_cons_zero, List.setIfInBounds_toArray, List.set_cons_zero, List.set_cons_succ]
      refine wpAnyT_takeW (i := 7) (v := .pointer (some ⟨b, ob + j * 3, none⟩)) rfl (by kernel_rfl) (fun _ _ _ hp => hp) (Or.inl ⟨by kernel_rfl, fun X _ => by go_simp⟩) hS0 ?_
      simp only [Act.put, List.getElem_toArray, List.getElem_cons_succ, List.getElem_cons_zero, List.setIfInBounds_toArray, List.set_cons_zero, List.set_cons_succ]
      refine wpAnyT_takeC (i := 8) (v := .int .i64 y) [] rfl (by kernel_rfl) (fun _ _ _ hp => hp) (Or.inl ⟨by kernel_rfl, fun X hX => by have y1 := (hX.cell (p := ⟨b, ob + j * 3, none⟩) hbl).trans c0'; go_simp⟩) hS0 ?_
      simp only [Act.put, List.getElem_toArray, List.getElem_cons_succ, List.getElem_cons_zero, List.setIfInBounds_toArray, List.set_cons_zero, List.set_cons_succ]
      refine wpAnyT_one (i := 9) rfl (by kernel_rfl) (by kernel_rfl) ?_
      intro K1 hK1
      go_simp
      refine (HH.out _ hS0).mono ?_
      rintro e _ ⟨rfl, rfl⟩
      dsimp only
      refine hK1.out _ _ (fun hh => absurd rfl hh) ?_
      (try simp only [Act.put, List.getElem_toArray, List.getElem_cons_succ, List.getElem_cons_zero, List.setIfInBounds_toArray, List.set_cons_zero, List.set_cons_succ])
      refine wpAnyT_lat2 (i := 10) rfl (by kernel_rfl) (by kernel_rfl) (by kernel_rfl) ?_
      intro K2 hK2
      go_simp
      refine hK2.out _ _ ?_
      (try simp only [Act.put, List.getElem_toArray, List.getElem_cons_succ, List.getElem_cons_zero, List.setIfInBounds_toArray, List.set_cons_zero, List.set_cons_succ])
      refine wpAnyT_done (by kernel_rfl) ?_ _
      (try simp only [Act.put, List.getElem_toArray, List.getElem_cons_succ, List.getElem_cons_zero, List.setIfInBounds_toArray, List.set_cons_zero, List.set_cons_succ])
      clear hK1 K1 hK2 K2
      have b34 : Below wr.heap.size wr wr.drew := hS0
      obtain ⟨wd, hwd⟩ : ∃ wd, wd = wr.drew := ⟨_, rfl⟩
      rw [← hwd] at b34 ⊢
      have HBd := HBj.out.below b34 hgl9
      have HRd := HRj.out.below b34 hgr9
      have Hd := Lib.hid (Hj.out.below b34)
      have bd := bj.out.trans (b34.mono bj.out.size)
      have d0 : wd.cell? ⟨b, ob + j * 3, none⟩ = some (.int .i64 y) := (b34.cell (p := ⟨b, ob + j * 3, none⟩) hbl).trans c0'
      have d6 := (b34.cell (p := ⟨gX, 6, none⟩) hgl9).trans k6
      have d10 : wd.cell? ⟨gX, 10, none⟩ = some vl := HBd.cell 10
      have hbld : b < wd.heap.size := Nat.lt_of_lt_of_le hbl b34.size
      replace hwd := Lib.hid hwd
      clear HBj HRj Hj bj hS0 HH b34 k6 k8 c0'
      rcases bb with _ | _
      case true =>
        have hw3 : wl = whites D (j + 1) := by rw [hwn.out, if_pos rfl]
        rw [hw3] at Hd
        replace HBd := Lib.hid HBd
        replace HRd := Lib.hid HRd
        replace bd := Lib.hid bd
        replace hw3 := Lib.hid hw3
        clear d0 d6 d10
        go_wp2_with fail
        go_roundw
        case rel => exact ⟨j + 1, vl, by omega, by go_num, HBd, HRd, Hd, bd⟩
        case measure => simp [intOf]; omega
      have hw3 : whites D (j + 1) = wl ++ [y] := by rw [hwn.out, if_neg (by simp)]
      have hown0 := Lib.hid (World.ownsRow_made (e := 3) (size := 1) wd (base := wd.heap.size) #[] 0 (Nat.le_refl _) (Nat.zero_le _) rfl)
      have hrl := Lib.hid (show Rd i64e wd vl wl from Hd.out.lf.rd)
      have hgXl : gX < wd.heap.size := HBd.lt
      replace HBd := Lib.hid HBd
      replace HRd := Lib.hid HRd
      replace bd := Lib.hid bd
      replace hw3 := Lib.hid hw3
      go_wp2_with (at_builtin; refine wpList_append_all rfl (.tmp 49) (.tmp 51) _ rfl wd.heap.size 3 _ 8 Tryz.underlying36 int_info rfl _ 0 [] rfl hown0.out i64e _ wl (fun _ => rfl) rfl (hrl.out.below (below_alloc _ _)) (by unfold maxLen; omega) (by omega) (by simp) ?_; intro v4 w4 hown4 hg4 hat4; refine stop_here ?_)
      have b24 : Below wd.heap.size wd w4 := (below_alloc wd _).grown hg4 (by simp) (fun k hk => by cases hk; exact Nat.le_refl _)
      have hown4 : w4.ownsRow wd.heap.size 3 1 v4 wl.length (wl.map i64e) := by simpa using hown4
      obtain ⟨A4, c4, rfl, -⟩ := own_form hown4
      have hz4 := b24.size
      have e0 : w4.cell? ⟨b, ob + j * 3, none⟩ = some (.int .i64 y) := (b24.cell (p := ⟨b, ob + j * 3, none⟩) hbld).trans d0
      have e6 := (b24.cell (p := ⟨gX, 6, none⟩) hgXl).trans d6
      clear hown0 hrl hg4 hat4 d0 d6 d10
      refine go_on ?_
      go_wp2_with (at_builtin; refine wpList_push rfl (.tmp 53) (.tmp 61) _ rfl wd.heap.size 3 _ 8 Tryz.underlying36 int_info rfl (.slice A4 wl.length c4) _ _ rfl hown4 _ rfl rfl (by unfold maxLen; omega) (by omega) hz4 ?_; intro v5 w5 hown5 hg5 hat5; refine stop_here ?_)
      have b25 := b24.grown hg5 hz4 (fun k hk => (hown4.lt k hk).1)
      obtain ⟨A5, c5, rfl, -⟩ := own_form hown5
      have HB5 := HBd.out.below b25 HBd.out.lt
      have HR5 := HRd.out.below b25 HRd.out.lt
      have c25 : w5.cell? ⟨gX, 10, none⟩ = some vl := HB5.cell 10
      have f25 := HB5.frozen 10
      have HB6 : Blk (w5.setCell ⟨gX, 10, none⟩ (.slice A5 (wl.length + 1) c5)) gX 42 (c18 { V with vl := .slice A5 (wl.length + 1) c5 } D.ph D.cyc) := HB5.set_ 10 _
      have HR6 : Blk (w5.setCell ⟨gX, 10, none⟩ (.slice A5 (wl.length + 1) c5)) gR 42 n18 := HR5.far (p := ⟨gX, 10, none⟩) (by show gR ≠ gX; exact hXR.symm) _
      have b5w := bd.out.trans (b25.mono bd.out.size)
      have b6 : Below w.heap.size w (w5.setCell ⟨gX, 10, none⟩ (.slice A5 (wl.length + 1) c5)) := b5w.setCell (p := ⟨gX, 10, none⟩) (Nat.le_of_eq hgX.out.symm) _
      have o6 : (w5.setCell ⟨gX, 10, none⟩ (.slice A5 (wl.length + 1) c5)).ownsRow wd.heap.size 3 1 (.slice A5 (wl.length + 1) c5) (wl.length + 1) (wl.map i64e ++ [i64e y]) := own_keep hown5 fun g e => setCell_other w5 gX 10 _ (by have := (hown5.lt g e).1; omega)
      have r6 : Rd i64e (w5.setCell ⟨gX, 10, none⟩ (.slice A5 (wl.length + 1) c5)) (.slice A5 (wl.length + 1) c5) (wl ++ [y]) := by
        have hlb : (wl ++ [y]).length = wl.length + 1 := by simp
        have o7 := o6
        rw [← hlb] at o7 ⊢
        exact Rd.of_own (by rw [List.map_append]; exact o7)
      have hwz : w.heap.size ≤ wd.heap.size := bd.out.size
      have hgRl : gR < wd.heap.size := HRd.out.lt
      have X6 : XV (fun b => Q b ∧ b ≠ gX ∧ b ≠ gR) (w5.setCell ⟨gX, 10, none⟩ (.slice A5 (wl.length + 1) c5)) { D with left := whites D (j + 1) } { V with vl := .slice A5 (wl.length + 1) c5 } := by
        have Y := H.out.apart b6 hgX.out hgR.out
        refine ⟨Y.rin, Y.gr, Y.bl, ⟨?_, fun _ k hk => ?_⟩⟩
        · show Rd i64e _ _ (whites D (j + 1))
          rw [hw3.out]
          exact r6
        · have h1 := (o6.lt k hk).1
          exact ⟨hQ.out k (by omega), by omega, by omega⟩
      replace HB6 := Lib.hid HB6
      replace HR6 := Lib.hid HR6
      replace X6 := Lib.hid X6
      replace b6 := Lib.hid b6
      clear hown4 hown5 hg5 hat5 b24 b25 HB5 HR5 b5w o6 r6 HBd HRd bd Hd e0 e6
      refine go_on ?_
      go_wp2_with fail
      go_roundw
      case rel => exact ⟨j + 1, _, by omega, by go_num, HB6, HR6, X6, b6⟩
      case measure => simp [intOf]; omega
    · obtain rfl : j = n := by omega
      have hwe : whites D j = uWhite D := by
        unfold whites uWhite
        rw [List.take_of_length_le (by rw [all_len, ← hn.out]; exact Nat.le_refl _)]
      rw [hwe] at Hj
      have k9 : wr.cell? ⟨gX, 9, none⟩ = some (.int .i64 D.ph) := HBj.out.cell 9
      have f9 := HBj.out.frozen 9
      have HB7 : Blk (wr.setCell ⟨gX, 9, none⟩ (.int .i64 2)) gX 42 (c18 { V with vl := vl } 2 D.cyc) := HBj.out.set_ 9 _
      have HR7 : Blk (wr.setCell ⟨gX, 9, none⟩ (.int .i64 2)) gR 42 n18 := HRj.out.far (p := ⟨gX, 9, none⟩) (by show gR ≠ gX; exact hXR.symm) _
      have b7 : Below w.heap.size w (wr.setCell ⟨gX, 9, none⟩ (.int .i64 2)) := bj.out.setCell (p := ⟨gX, 9, none⟩) (Nat.le_of_eq hgX.out.symm) _
      have X7 : XV (fun b => Q b ∧ b ≠ gX ∧ b ≠ gR) (wr.setCell ⟨gX, 9, none⟩ (.int .i64 2)) { D with left := uWhite D, ph := 2 } { V with vl := vl } :=
        have Y := Hj.out.keepQ (w' := wr.setCell ⟨gX, 9, none⟩ (.int .i64 2)) (Q' := (fun b => Q b ∧ b ≠ gX ∧ b ≠ gR)) (by rw [setCell_size]; exact Nat.le_refl _) (fun b h _ => setCell_other wr gX 9 _ h.2.1) (fun _ h _ => h)
        ⟨Y.rin, Y.gr, Y.bl, Y.lf⟩
      have ONE7 := Lib.hid (X7.one 2 D.cyc)
      have hX2 : X = ({ D with left := uWhite D, ph := 2 }, 2, 0) := hX1.out
      subst hX2
      replace X7 := Lib.hid X7
      replace b7 := Lib.hid b7
      replace HB7 := Lib.hid HB7
      replace HR7 := Lib.hid HR7
      replace hwe := Lib.hid hwe
      clear HBj HRj Hj bj k8
      go_wp2_with (first
        | (refine wpList_load_blk rfl 42 (.tmp 2) rfl gX rfl 42 (c18 { V with vl := vl } 2 D.cyc) HB7.out _ Tryz.underlying42 rfl SZ.out ?_)
        | (refine wpList_store_blk rfl 42 (.tmp 4) (.tmp 65) rfl gR rfl (c18 { V with vl := vl } 2 D.cyc) rfl 42 n18 HR7.out SZ.out rfl ONE7.out ?_; intro w9 hR9 hg9 hs9))
      have b9 := b7.out.grown hg9 b7.out.size (fun k hk => by cases hk; have := hgR.out; omega)
      refine bodyPost_ret (res_cell_2 rfl rfl hR9 Tryz.underlying42 rfl SZ.out) rfl ⟨{ V with vl := vl }, rfl, X7.out.stored hg9 fun b h => ⟨h.1, h.2.2⟩, b9⟩
end
end Go.Proofs.YtcaboknbdamlhaaGreatDoor
namespace Go.Proofs.YtcaboknbdamlhaaGreatDoor
open Go.RowKit Go.Shelf
theorem filter_snoc {α : Type} (p : α → Bool) (l : List α) (x : α) : (l ++ [x]).filter p = if p x = true then l.filter p ++ [x] else l.filter p := by
  rw [List.filter_append]
  by_cases h : p x = true
  · simp [h]
  · simp [h]
theorem uniq_at {objs : List (Int × Int × Int)} (hs : objs.Pairwise fun a b => a.1 < b.1) {i k : Nat} (hi : i < objs.length) (hk : k < objs.length) (h : (objs[i]).1 = (objs[k]).1) : i = k := by
  rcases Nat.lt_trichotomy i k with h1 | h1 | h1
  · have := List.pairwise_iff_getElem.1 hs i k hi hk h1; omega
  · exact h1
  · have := List.pairwise_iff_getElem.1 hs k i hk hi h1; omega
theorem any_count (l : List (Int × Int × Int)) (s : Int) : l.any (fun x => spanOf x.1 == s) = decide (0 < (l.filter fun x => spanOf x.1 == s).length) := by
  induction l with
  | nil => rfl
  | cons x l ih =>
    rw [List.any_cons, ih]
    by_cases h : (spanOf x.1 == s) = true
    · simp [List.filter_cons, h]
    · have h' : (spanOf x.1 == s) = false := by simpa using h
      simp [List.filter_cons, h']
/-- What Free comes to, of an object. -/
theorem sFree_some {S : HS} (I : Inv S) {k : Nat} (hk : k < S.objs.length) (junk : Int) : ∃ (p W c s : Nat), (S.objs[k]).1 = (p : Int) ∧ classOf (S.objs[k]).2.1 = (c : Int) ∧ c < 4 ∧ wordsOf (c : Int) = (W : Int) ∧ spanOf (p : Int) = (s : Int) ∧ s < S.cls.length ∧ p + W ≤ S.words.length ∧ p ≤ 4096 ∧
    putL S.free (c : Int) (p : Int) = (addL S.free (c : Int) (p : Int), 0) ∧
    sFree S (p : Int) junk = (if 0 < ((S.objs.filter fun x => !(x.1 == (p : Int))).filter fun x => spanOf x.1 == (s : Int)).length then ({ S with words := fillW S.words p junk W, objs := S.objs.filter (fun x => !(x.1 == (p : Int))), free := addL S.free (c : Int) (p : Int) }, 0)
      else ({ S with words := fillW S.words p junk W, objs := S.objs.filter (fun x => !(x.1 == (p : Int))), free := cutL (addL S.free (c : Int) (p : Int)) (s : Int), cls := S.cls.set s (-1) }, 0)) := by
  have hmem : S.objs[k] ∈ S.objs := List.getElem_mem hk
  obtain ⟨o, ho⟩ : ∃ o, o = S.objs[k] := ⟨_, rfl⟩
  rw [← ho] at hmem ⊢
  obtain ⟨a1, a2, a3, a4, a5⟩ := I.ob o hmem
  have h1 := a5.1
  have h2 := a5.ends.2
  have h3 := a5.span
  have h4 := I.wl
  have h5 := I.cl
  have h6 := I.n2
  have h7 := (class_ge a1 a2).1
  have h8 := (class_ge a1 a2).2.1
  obtain ⟨p, hp⟩ : ∃ p : Nat, o.1 = (p : Int) := ⟨o.1.toNat, by omega⟩
  obtain ⟨c, hc⟩ : ∃ c : Nat, classOf o.2.1 = (c : Int) := ⟨(classOf o.2.1).toNat, by omega⟩
  obtain ⟨W, hW⟩ : ∃ W : Nat, wordsOf (c : Int) = (W : Int) := ⟨(wordsOf (c : Int)).toNat, by have := words_bd (c : Int); omega⟩
  obtain ⟨s, hs⟩ : ∃ s : Nat, spanOf (p : Int) = (s : Int) := ⟨(spanOf (p : Int)).toNat, by rw [← hp]; omega⟩
  rw [hp, hc] at a5
  rw [hp, hc, hW] at h2
  rw [hp, hs] at h3
  have hput := put_add (L := S.free) a5.begins (fun j hj hm => I.fo j hj (p : Int) hm o hmem hp)
  refine ⟨p, W, c, s, hp, hc, by omega, hW, hs, by omega, by omega, by omega, hput, ?_⟩
  have h0 := I.there_in hmem (Int.le_refl 0) (by omega)
  have hsz := I.size hmem
  rw [hp] at h0 hsz
  have hl : sLess S (p : Int) junk = { S with words := fillW S.words p junk W, objs := S.objs.filter (fun x => !(x.1 == (p : Int))), free := addL S.free (c : Int) (p : Int) } := by
    unfold sLess
    rw [hsz, hc, hW, Int.toNat_natCast, Int.toNat_natCast]
  unfold sFree
  rw [h0, if_neg (by decide), hl, any_count, hs, Int.toNat_natCast]
  split
  · next h => rw [if_pos (by simpa using h)]
  · next h => rw [if_neg (by simpa using h)]
set_option maxHeartbeats 12800000 in
set_option maxRecDepth 100000 in
theorem rfree_ok {Q : Nat → Prop} (S : HS) (vw vc vo : Value) (f : Nat → Value) (w : World) (H : RIn Q w S vw vc f vo) (hQ : New Q w) (I : Inv S) (p junk : Int) :
    Calls Tryz.prog 61 #[.agg (rcells vw vc f vo), .int .i64 p, .int .i64 junk] w (RetHE Q w (sFree S p junk).1 (sFree S p junk).2) := by
  have SZ := Lib.hid rh_size
  have O0 := Lib.hid (slices_one H.slices)
  have hlen := H.len0 I.toInv0
  obtain ⟨Ao, co, eo, -⟩ := H.objs.len
  replace H := Lib.hid H
  replace hQ := Lib.hid hQ
  replace I := Lib.hid I
  replace eo := Lib.hid eo
  go_enter Tryz.func61, Tryz.ntmps61
  go_wp2_with (first
    | (refine wpList_new rfl (.box 40 (.tmp 0)) rfl w.heap.size rfl 40 (rcells vw vc f vo) (by kernel_rfl) ?_; intro w1 hs1 hb1 hB1)
    | (refine wpList_new rfl (.alloc 40) rfl (w.heap.size + 1) hs1 40 rnil (by kernel_rfl) ?_; intro w2 hs2 hb2 hB2; refine stop_here ?_))
  have HX := Lib.hid ((show RBox Q w1 w.heap.size S vw vc f vo from ⟨hB1, H.out.below hb1⟩).below (hb2.mono (by omega)))
  have HR := Lib.hid hB2
  have hb2 := hb1.trans (hb2.mono (by omega))
  have hz2 : w.heap.size + 1 < w2.heap.size := by omega
  clear hs1 hB1 hb1 hB2 hs2
  refine go_on ?_
  go_wp2_with (refine wpList_load_blk rfl 40 (.tmp 3) rfl w.heap.size rfl 40 (rcells vw vc f vo) HX.out.blk _ Tryz.underlying40 rfl SZ.out ?_)
  refine (rfind_ok S _ _ _ _ _ HX.out.rin p hlen.2.2).mono ?_
  rintro e w3 ⟨⟨r, rfl, hat⟩, hb3⟩
  have HX3 := Lib.hid (HX.out.below hb3)
  have HR3 := Lib.hid (HR.out.below hb3 HR.out.lt)
  have b3 := below_all hb2 hb3
  have hz3 : w.heap.size + 1 < w3.heap.size := Nat.lt_of_lt_of_le hz2 hb3.size
  clear HX HR hb3 hb2 hz2
  rcases hat with ⟨rfl, hno⟩ | ⟨k, hk, rfl, hp⟩
  · have e : sFree S p junk = (S, 11) := by
      have h0 : sThere S p 0 = 11 := by
        unfold sThere
        rw [size_none hno]
        simp
      unfold sFree
      rw [h0, if_pos (by decide)]
    replace e := Lib.hid e
    replace hno := Lib.hid hno
    go_wp2_with (first
      | (refine wpList_load_blk rfl 40 (.tmp 3) rfl w.heap.size rfl 40 (rcells vw vc f vo) HX3.out.blk _ Tryz.underlying40 rfl SZ.out ?_)
      | (refine wpList_store_blk rfl 40 (.tmp 6) (.tmp 24) rfl (w.heap.size + 1) rfl (rcells vw vc f vo) rfl 40 (rnil) HR3.out SZ.out rfl O0.out ?_; intro w9 hR9 hg9 hs9))
    refine bodyPost_ret (res_cell_tmp rfl rfl hR9 Tryz.underlying40 rfl SZ.out) rfl ?_
    rw [e.out]
    exact ⟨_, _, _, _, rfl, HX3.out.rin.far HR3.out rnil_slices hg9, b3.grown hg9 b3.size (fun k hk => by cases hk; omega)⟩
  · obtain ⟨pk, W, c, s, e1, e2, hc4, hW, hs, hsl, hpW, hp9, hput, hfree⟩ := sFree_some I.out hk junk
    rw [e1] at hp
    subst hp
    obtain rfl := eo.out
    clear eo
    have hsz6 := (I.out.ob _ (List.getElem_mem hk)).2.1
    have huq := Lib.hid (fun i (hi : i < S.objs.length) (h : (S.objs[i]).1 = (pk : Int)) => uniq_at I.out.os hi hk (h.trans e1.symm))
    have HO := Lib.hid (fun wx => show Calls Tryz.prog 87 #[.int .i64 (S.objs[k]).2.1] wx fun e w' => e = .returned (.int .i64 (c : Int)) ∧ wx = w' by rw [← e2]; exact rof_ok _ wx)
    have HI := Lib.hid (fun wx => show Calls Tryz.prog 94 #[.int .i64 (pk : Int)] wx fun e w' => e = .returned (.int .i64 (s : Int)) ∧ wx = w' by rw [← hs]; exact rin_ok _ wx (by omega))
    have HW := Lib.hid (fun wx => show Calls Tryz.prog 92 #[.int .i64 (c : Int)] wx fun e w' => e = .returned (.int .i64 (W : Int)) ∧ wx = w' by rw [← hW]; exact rwords_ok _ wx)
    have hob9 := Lib.hid (fun i (hi : i < S.objs.length) => show (S.objs[i]).1 ≤ 9223372036854775807 by
      obtain ⟨_, _, _, _, a5⟩ := I.out.ob _ (List.getElem_mem hi)
      have := a5.2.1
      have := I.out.n2
      omega)
    obtain ⟨b, ob, rfl, hbl, hc⟩ := HX3.out.rin.objs.at_ hk
    have c1 := hc 1 _ rfl
    obtain ⟨sz, hsz⟩ : ∃ sz, sz = (S.objs[k]).2.1 := ⟨_, rfl⟩
    rw [← hsz] at c1 HO
    have c6 := HX3.out.cells.2.2.2.2.2.2
    have k0 : (0 : Int) ≤ (k : Int) := by omega
    have k1 : (k : Int) < (S.objs.length : Int) := by omega
    have hg3 : w.heap.size < w3.heap.size := by omega
    replace hfree := Lib.hid hfree
    replace hput := Lib.hid hput
    replace e1 := Lib.hid e1
    clear hc hsz e2 hW hs hsz6
    go_wp2_with (first
      | (go_at_call 87; refine (HO.out _).mono ?_; rintro e w' ⟨rfl, rfl⟩)
      | (go_at_call 94; refine (HI.out _).mono ?_; rintro e w' ⟨rfl, rfl⟩))
    have hS0 : (fun X : World => Below w3.heap.size w3 X) w3.drew := (Below.refl _ _).drew
    refine wp_T (by kernel_rfl) 6 (fun X : World => Below w3.heap.size w3 X) ?_
    refine wpAnyT_take (i := 0) (v := .agg #[vw, vc, f 0, f 1, f 2, f 3, .slice (some ⟨b, ob, none⟩) S.objs.length co]) rfl (by kernel_rfl) (fun _ _ _ hp => hp) (yieldsIf_load_mid (by rfl) _ _ rfl w.heap.size 0 rfl [vw, vc, f 0, f 1, f 2, f 3, .slice (some ⟨b, ob, none⟩) S.objs.length co] _ (fun X hX => World.rangeAt_of_block (HX3.out.below hX).blk 0 7) Tryz.underlying40 rfl rh_size) hS0 ?_
    simp only [Act.put, List.setIfInBounds_toArray, List.set_cons_zero, List.set_cons_succ]
    refine wpAnyT_takeW (i := 1) (v := .int .i64 (pk : Int)) rfl (by kernel_rfl) (fun _ _ _ hp => hp) (Or.inl ⟨by rfl, fun X _ => by go_simp⟩) hS0 ?_
    simp only [Act.put, List.setIfInBounds_toArray, List.set_cons_zero, List.set_cons_succ]
    refine wpAnyT_takeW (i := 2) (v := .int .i64 (c : Int)) rfl (by kernel_rfl) (fun _ _ _ hp => hp) (Or.inl ⟨by rfl, fun X _ => by go_simp⟩) hS0 ?_
    simp only [Act.put, List.setIfInBounds_toArray, List.set_cons_zero, List.set_cons_succ]
    refine wpAnyT_takeW (i := 4) (v := .int .i64 junk) rfl (by kernel_rfl) (fun _ _ _ hp => hp) (Or.inl ⟨by rfl, fun X _ => by go_simp⟩) hS0 ?_
    simp only [Act.put, List.setIfInBounds_toArray, List.set_cons_zero, List.set_cons_succ]
    refine wpAnyT_one (i := 3) rfl (by kernel_rfl) (by rfl) ?_
    intro K1 hK1
    go_simp
    refine (HW.out _).mono ?_
    rintro e _ ⟨rfl, rfl⟩
    dsimp only
    refine hK1.out _ _ (fun _ => hS0) ?_
    (try simp only [Act.put, List.setIfInBounds_toArray, List.set_cons_zero, List.set_cons_succ])
    refine wpAnyT_one (i := 5) rfl (by kernel_rfl) (by rfl) ?_
    intro K2 hK2
    go_simp
    refine (rfill_ok S vw vc (.slice (some ⟨b, ob, none⟩) S.objs.length co) f _ (HX3.out.rin.below hS0) (hQ.out.le (Nat.le_trans b3.size (Below.size hS0))) pk W junk hlen.1 hpW).mono ?_
    rintro e w4 ⟨vw4, vc4, f4, vo4, rfl, hr4, hb4⟩
    dsimp only
    have hS2 : (fun X : World => Below w3.heap.size w3 X) w4 := Below.trans hS0 (Below.mono hb4 (Below.size hS0))
    refine hK2.out _ _ (fun _ => hS2) ?_
    (try simp only [Act.put, List.setIfInBounds_toArray, List.set_cons_zero, List.set_cons_succ])
    refine wpAnyT_one (i := 6) rfl (by kernel_rfl) (by rfl) ?_
    intro K3 hK3
    refine wp_store_blk 40 _ _ rfl w.heap.size rfl (rcells vw4 vc4 f4 vo4) rfl 40 (rcells vw vc f (.slice (some ⟨b, ob, none⟩) S.objs.length co)) (HX3.out.below hS2).blk rh_size rfl (slices_one hr4.slices) ?_
    intro w5 hR5 hg5 hs5
    refine hK3.out _ _ (fun hh => absurd rfl hh) ?_
    (try simp only [Act.put, List.setIfInBounds_toArray, List.set_cons_zero, List.set_cons_succ])
    refine wpAnyT_done (by kernel_rfl) ?_ _
    (try simp only [Act.put, List.setIfInBounds_toArray, List.set_cons_zero, List.set_cons_succ])
    clear hK1 K1 hK2 K2 hK3 K3
    have X5 := Lib.hid (RBox.all (HX3.out.below hS2).blk HX3.out.rin.slices hg5 hR5 hr4)
    have R5 := Lib.hid ((HR3.out.below hS2 HR3.out.lt).grown hg5 (fun e => by injection e with e; omega))
    have b5 := Lib.hid ((below_all b3 hS2).grown hg5 (below_all b3 hS2).size (fun k hk => by cases hk; exact Nat.le_refl _))
    clear hS2 hS0 hR5 hg5 hs5 hr4 hb4 HX3 HR3 b3 hz3 hg3 hbl c1 c6
    obtain ⟨Ao, co4, rfl, -⟩ := X5.out.rin.objs.len
    have hlo : ({ S with words := fillW S.words pk junk W } : HS).objs.length = S.objs.length := rfl
    rw [hlo] at X5 ⊢
    clear hlo
    have g5 : w.heap.size + 1 < w5.heap.size := R5.out.lt
    have hown0 := Lib.hid (World.ownsRow_nil w5 w5.heap.size 84 3)
    go_wp2_with fail
    go_loopw [11, 12, 13] (fun l d i wr => ∃ (j : Nat) (A : Option Addr) (cc lf : Nat) (xs : List (Int × Int × Int)), j ≤ S.objs.length ∧ lf ≤ j ∧ xs.length ≤ j ∧ i = .int .i64 j ∧ d = .int .i64 lf ∧ l = .slice A xs.length cc ∧ Hid (xs = (S.objs.take j).filter fun x => !(x.1 == (pk : Int))) ∧ Hid (lf = (xs.filter fun x => spanOf x.1 == (s : Int)).length) ∧ Hid (wr.ownsRow w5.heap.size 84 3 (.slice A xs.length cc) xs.length (xs.flatMap objC)) ∧ Hid (Below w5.heap.size w5 wr)) (fun _ _ i _ => S.objs.length - (intOf i).toNat)
    case atStart => exact ⟨0, none, 0, 0, [], by omega, by omega, by simp, rfl, rfl, rfl, Lib.hid rfl, Lib.hid rfl, hown0, Lib.hid (Below.refl _ _)⟩
    case round =>
      clear hown0
      obtain ⟨j, A, cc, lf, xs, hj, hlf, hxj, rfl, rfl, rfl, hxs, hlc, hown, hbr⟩ := hrel
      have X := Lib.hid (X5.out.below hbr.out)
      have c6 := X.out.cells.2.2.2.2.2.2
      have hxl : xs.length ≤ 5000 := by omega
      have hzr : w5.heap.size ≤ wr.heap.size := hbr.out.size
      by_cases hlt : j < S.objs.length
      · have t0 : (j : Int) < (S.objs.length : Int) := by omega
        have hts : S.objs.take (j + 1) = S.objs.take j ++ [S.objs[j]] := by rw [List.take_succ_eq_append_getElem hlt]
        by_cases hjk : j = k
        · subst hjk
          have t1 : ((j : Int) == (j : Int)) = true := by simp
          have hnew : Hid (xs = (S.objs.take (j + 1)).filter fun x => !(x.1 == (pk : Int))) := Lib.hid (by rw [hts, filter_snoc, if_neg (by rw [e1.out]; simp), hxs.out])
          clear hts
          go_wp2_with fail
          go_roundw
          case rel => exact ⟨j + 1, A, cc, lf, xs, by omega, by omega, by omega, by go_num, rfl, rfl, hnew, hlc, hown, hbr⟩
          case measure => simp [intOf]; omega
        · have t1 : ((j : Int) == (k : Int)) = false := by rw [beq_eq_false_iff_ne]; omega
          have hne : (S.objs[j]).1 ≠ (pk : Int) := fun e => hjk (huq.out j hlt e)
          have h9 := hob9.out j hlt
          obtain ⟨bo, oo, rfl, hbol, hc⟩ := X.out.rin.objs.at_ (i := j) hlt
          have hbol2 : bo < w5.heap.size := by
            obtain ⟨b9, o9, e9, h9, _⟩ := X5.out.rin.objs.at_ (i := j) hlt
            cases e9
            exact h9
          obtain ⟨x, hx⟩ : ∃ x, x = S.objs[j] := ⟨_, rfl⟩
          have hc' : ∀ j2 u, (objC x)[j2]? = some u → wr.cell? ⟨bo, oo + j * 3 + j2, none⟩ = some u := by rw [hx]; exact hc
          rw [← hx] at hts hne h9
          obtain ⟨x1, x2, x3⟩ := x
          dsimp only at hne h9
          have d0 : wr.cell? ⟨bo, oo + j * 3, none⟩ = some (.int .i64 x1) := hc' 0 _ rfl
          have d1 := hc' 1 _ rfl
          have d2 := hc' 2 _ rfl
          have hnew : Hid (xs ++ [(x1, x2, x3)] = (S.objs.take (j + 1)).filter fun x => !(x.1 == (pk : Int))) := Lib.hid (by rw [hts, filter_snoc, if_pos (by simpa using hne), hxs.out])
          obtain ⟨sx, hsx⟩ : ∃ sx, spanOf x1 = sx := ⟨_, rfl⟩
          have HIx := Lib.hid (fun wx => show Calls Tryz.prog 94 #[.int .i64 x1] wx fun e w' => e = .returned (.int .i64 sx) ∧ wx = w' by rw [← hsx]; exact rin_ok _ wx h9)
          have hcnt : Hid (((xs ++ [(x1, x2, x3)]).filter fun x => spanOf x.1 == (s : Int)).length = if (sx == (s : Int)) = true then lf + 1 else lf) := Lib.hid (by
            rw [filter_snoc, hsx, hlc.out]
            split <;> simp)
          replace hne := Lib.hid hne
          clear hc hc' hx hts hsx h9
          go_wp2_with (refine wpList_push3 rfl (.tmp 50) (.tmp 56) rfl w5.heap.size _ xs rfl hown.out (x1, x2, x3) rfl hxl hzr ?_; intro zs A3 cc3 w16 hzs hown3 hbw3; replace hzs := Lib.hid hzs; refine stop_here ?_)
          have e0 := (hbw3.cell (p := ⟨bo, oo + j * 3, none⟩) hbol2).trans d0
          have f6 := (hbw3.cell (p := ⟨w.heap.size, 6, none⟩) (show w.heap.size < w5.heap.size by omega)).trans c6
          have hbr3 := Lib.hid (hbr.out.trans hbw3)
          have hzl : zs.length ≤ j + 1 := by rw [hzs.out]; simp; omega
          rw [← hzs.out] at hnew hcnt
          replace hown3 := Lib.hid hown3
          clear hbw3 hzs d0 d1 d2 c6 hown
          refine go_on ?_
          by_cases hss : sx = (s : Int)
          · have t2 : (sx == (s : Int)) = true := by simp [hss]
            have hcn : Hid (lf + 1 = (zs.filter fun x => spanOf x.1 == (s : Int)).length) := Lib.hid (by rw [hcnt.out, if_pos t2])
            replace hss := Lib.hid hss
            go_wp2_with (go_at_call 94; refine (HIx.out _).mono ?_; rintro e w' ⟨rfl, rfl⟩)
            go_roundw
            case rel => exact ⟨j + 1, A3, cc3, lf + 1, zs, by omega, by omega, hzl, by go_num, by go_num, rfl, hnew, hcn, hown3, hbr3⟩
            case measure => simp [intOf]; omega
          · have t2 : (sx == (s : Int)) = false := beq_eq_false_iff_ne.2 hss
            have hcn : Hid (lf = (zs.filter fun x => spanOf x.1 == (s : Int)).length) := Lib.hid (by rw [hcnt.out, if_neg (by rw [t2]; simp)])
            replace hss := Lib.hid hss
            go_wp2_with (go_at_call 94; refine (HIx.out _).mono ?_; rintro e w' ⟨rfl, rfl⟩)
            go_roundw
            case rel => exact ⟨j + 1, A3, cc3, lf, zs, by omega, by omega, hzl, by go_num, rfl, rfl, hnew, hcn, hown3, hbr3⟩
            case measure => simp [intOf]; omega
      · obtain rfl : j = S.objs.length := by omega
        have t0 : decide (((S.objs.length : Nat) : Int) < ((S.objs.length : Nat) : Int)) = false := by rw [decide_eq_false_iff_not]; omega
        rw [List.take_length] at hxs
        have R := R5.out.below hbr.out R5.out.lt
        have hrd := rdc_of_own hown.out
        have X6 := X.out.set_objs hrd (fun _ b e => hQ.out b (by have := (hown.out.lt b e).1; have := b5.out.size; omega))
        have z6 := X.out.blk.frozen 6
        have R6 := Lib.hid (R.far (p := ⟨w.heap.size, 6, none⟩) (by show w.heap.size + 1 ≠ w.heap.size; omega) (.slice A xs.length cc))
        have b6 := Lib.hid ((b5.out.trans (hbr.out.mono b5.out.size)).setCell (p := ⟨w.heap.size, 6, none⟩) (Nat.le_refl _) (.slice A xs.length cc))
        replace X6 := Lib.hid X6
        have hSh : Hid (∀ j, j < 4 → (S.free j).length ≤ 1099511627776) := Lib.hid fun j hj => by have := I.out.free_len hj; omega
        clear R hrd X hown
        rw [hxs.out] at hlc
        have hcond : (0 < ((S.objs.filter fun x => !(x.1 == (pk : Int))).filter fun x => spanOf x.1 == (s : Int)).length) ↔ 0 < lf := by rw [hlc.out]
        have hfr := hfree.out
        rw [← hxs.out] at hfr
        by_cases hlf0 : 0 < lf
        · rw [if_pos (by rw [hxs.out]; exact hcond.2 hlf0)] at hfr
          replace hfr := Lib.hid hfr
          replace hcond := Lib.hid hcond
          have t3 : ((lf : Int) == 0) = false := by rw [beq_eq_false_iff_ne]; omega
          have HP := Lib.hid (fun wx (hnx : New Q wx) (hx : RBox Q wx w.heap.size { S with words := fillW S.words pk junk W, objs := xs } vw4 vc4 f4 (.slice A xs.length cc)) => show Calls Tryz.prog 95 #[.agg (arr4 f4), .int .i64 (c : Int), .int .i64 (pk : Int)] wx fun e w' => ∃ v, e = .returned (.tuple #[v, .int .i64 0]) ∧ RdQ Q w' v (addL S.free (c : Int) (pk : Int)) ∧ Below wx.heap.size wx w' by
            have h9 := rput_q Q f4 S.free (c : Int) (pk : Int) wx (fun j hj => hx.rin.fr j hj) hSh.out (by omega) hnx hx.rin.qf
            rw [hput.out] at h9
            exact h9)
          have RG6 := Lib.hid X6.out.range4
          go_wp2_with (first
            | (refine wpList_load_mid rfl 37 (.tmp 72) rfl w.heap.size 2 rfl [f4 0, f4 1, f4 2, f4 3] _ RG6.out rarr_row rfl rarr_size ?_)
            | (go_at_call 95; refine (HP.out _ (hQ.out.le b6.out.size) X6.out).mono ?_; rintro e w8 ⟨v8, rfl, ⟨f8, rfl, hr8, hq8⟩, hb8⟩; replace hq8 := Lib.hid hq8; refine stop_here ?_))
          have O8 := Lib.hid (arr4_one fun j hj => rd_one (hr8 j hj))
          have X8 := Lib.hid (X6.out.below hb8)
          have R8 := Lib.hid (R6.out.below hb8 R6.out.lt)
          have b8 := Lib.hid (below_all b6.out hb8)
          replace hr8 := Lib.hid hr8
          clear X6 R6 HP hb8 b6 RG6
          refine go_on ?_
          go_wp2_with (first
            | (refine wpList_new rfl (.alloc 37) rfl w8.heap.size rfl 37 nil4 (by kernel_rfl) ?_; intro w9 hs9 hb9 hB9; have HB9 := Lib.hid hB9; clear hB9 hs9)
            | (refine wpList_store_blk rfl 37 (.tmp 14) (.tmp 77) rfl w8.heap.size rfl (arr4 f8) rfl 37 nil4 HB9.out rarr_size rfl O8.out ?_; intro w10 hB10 hg10 hs10; refine stop_here ?_))
          have h810 : Below w8.heap.size w8 w10 := hb9.grown hg10 hb9.size (fun k hk => by cases hk; exact Nat.le_refl _)
          have X10 := Lib.hid (X8.out.below h810)
          have R10 := R8.out.below h810 R8.out.lt
          have b10 := below_all b8.out h810
          have hr10 : ∀ j, j < 4 → Rd i64e w10 (f8 j) (addL S.free (c : Int) (pk : Int) j) := fun j hj => (hr8.out j hj).below h810
          have X11 := Lib.hid (X10.out.set_free hr10 hq8.out)
          have R11 := Lib.hid (show Blk (w10.setCells w.heap.size 2 (arr4 f8).toList) (w.heap.size + 1) 40 rnil from (set4_other w10 w.heap.size f8 (by omega)).trans R10)
          have b11 : Below w.heap.size w (w10.setCells w.heap.size 2 (arr4 f8).toList) := b10.grown (grown_set4 w10 w.heap.size f8) b10.size (fun k hk => by cases hk; exact Nat.le_refl _)
          have V10 := Lib.hid hB10
          have T10 := Lib.hid (X10.out.there4 f8)
          clear h810 hB10 hr10 R10 b10 hg10 hs10 hb9 HB9 X8 R8 b8 hr8
          refine go_on ?_
          go_wp2_with (first
            | (refine wpList_load_blk rfl 37 (.tmp 14) rfl w8.heap.size rfl 37 (arr4 f8) V10.out _ rarr_row rfl rarr_size ?_)
            | (refine wpList_store_mid rfl 37 (.tmp 80) (.tmp 79) rfl w.heap.size 2 (arr4 f8) rfl rfl T10.out rarr_size O8.out ?_; refine stop_here ?_))
          generalize w10.setCells w.heap.size 2 (arr4 f8).toList = w11 at X11 R11 b11 ⊢
          clear V10 T10 X10 O8
          refine go_on ?_
          have O11 := Lib.hid (slices_one X11.out.rin.slices)
          go_wp2_with (first
            | (refine wpList_load_blk rfl 40 (.tmp 3) rfl w.heap.size rfl 40 (rcells vw4 vc4 f8 (.slice A xs.length cc)) X11.out.blk _ Tryz.underlying40 rfl SZ.out ?_)
            | (refine wpList_store_blk rfl 40 (.tmp 6) (.tmp 101) rfl (w.heap.size + 1) rfl (rcells vw4 vc4 f8 (.slice A xs.length cc)) rfl 40 (rnil) R11.out SZ.out rfl O11.out ?_; intro w19 hR19 hg19 hs19))
          refine bodyPost_ret (res_cell_tmp rfl rfl hR19 Tryz.underlying40 rfl SZ.out) rfl ?_
          rw [hfr.out]
          exact ⟨_, _, _, _, rfl, X11.out.rin.far R11.out rnil_slices hg19, b11.grown hg19 b11.size (fun k hk => by cases hk; omega)⟩
        · obtain rfl : lf = 0 := by omega
          rw [if_neg (by rw [hxs.out]; exact fun h => absurd (hcond.1 h) (by omega))] at hfr
          replace hfr := Lib.hid hfr
          replace hcond := Lib.hid hcond
          have HP := Lib.hid (fun wx (hnx : New Q wx) (hx : RBox Q wx w.heap.size { S with words := fillW S.words pk junk W, objs := xs } vw4 vc4 f4 (.slice A xs.length cc)) => show Calls Tryz.prog 95 #[.agg (arr4 f4), .int .i64 (c : Int), .int .i64 (pk : Int)] wx fun e w' => ∃ v, e = .returned (.tuple #[v, .int .i64 0]) ∧ RdQ Q w' v (addL S.free (c : Int) (pk : Int)) ∧ Below wx.heap.size wx w' by
            have h9 := rput_q Q f4 S.free (c : Int) (pk : Int) wx (fun j hj => hx.rin.fr j hj) hSh.out (by omega) hnx hx.rin.qf
            rw [hput.out] at h9
            exact h9)
          have RG6 := Lib.hid X6.out.range4
          go_wp2_with (first
            | (refine wpList_load_mid rfl 37 (.tmp 72) rfl w.heap.size 2 rfl [f4 0, f4 1, f4 2, f4 3] _ RG6.out rarr_row rfl rarr_size ?_)
            | (go_at_call 95; refine (HP.out _ (hQ.out.le b6.out.size) X6.out).mono ?_; rintro e w8 ⟨v8, rfl, ⟨f8, rfl, hr8, hq8⟩, hb8⟩; replace hq8 := Lib.hid hq8; refine stop_here ?_))
          have O8 := Lib.hid (arr4_one fun j hj => rd_one (hr8 j hj))
          have X8 := Lib.hid (X6.out.below hb8)
          have R8 := Lib.hid (R6.out.below hb8 R6.out.lt)
          have b8 := Lib.hid (below_all b6.out hb8)
          replace hr8 := Lib.hid hr8
          clear X6 R6 HP hb8 b6 RG6
          refine go_on ?_
          go_wp2_with (first
            | (refine wpList_new rfl (.alloc 37) rfl w8.heap.size rfl 37 nil4 (by kernel_rfl) ?_; intro w9 hs9 hb9 hB9; have HB9 := Lib.hid hB9; clear hB9 hs9)
            | (refine wpList_store_blk rfl 37 (.tmp 14) (.tmp 77) rfl w8.heap.size rfl (arr4 f8) rfl 37 nil4 HB9.out rarr_size rfl O8.out ?_; intro w10 hB10 hg10 hs10; refine stop_here ?_))
          have h810 : Below w8.heap.size w8 w10 := hb9.grown hg10 hb9.size (fun k hk => by cases hk; exact Nat.le_refl _)
          have X10 := Lib.hid (X8.out.below h810)
          have R10 := R8.out.below h810 R8.out.lt
          have b10 := below_all b8.out h810
          have hr10 : ∀ j, j < 4 → Rd i64e w10 (f8 j) (addL S.free (c : Int) (pk : Int) j) := fun j hj => (hr8.out j hj).below h810
          have X11 := Lib.hid (X10.out.set_free hr10 hq8.out)
          have R11 := Lib.hid (show Blk (w10.setCells w.heap.size 2 (arr4 f8).toList) (w.heap.size + 1) 40 rnil from (set4_other w10 w.heap.size f8 (by omega)).trans R10)
          have b11 : Below w.heap.size w (w10.setCells w.heap.size 2 (arr4 f8).toList) := b10.grown (grown_set4 w10 w.heap.size f8) b10.size (fun k hk => by cases hk; exact Nat.le_refl _)
          have V10 := Lib.hid hB10
          have T10 := Lib.hid (X10.out.there4 f8)
          clear h810 hB10 hr10 R10 b10 hg10 hs10 hb9 HB9 X8 R8 b8 hr8
          refine go_on ?_
          go_wp2_with (first
            | (refine wpList_load_blk rfl 37 (.tmp 14) rfl w8.heap.size rfl 37 (arr4 f8) V10.out _ rarr_row rfl rarr_size ?_)
            | (refine wpList_store_mid rfl 37 (.tmp 80) (.tmp 79) rfl w.heap.size 2 (arr4 f8) rfl rfl T10.out rarr_size O8.out ?_; refine stop_here ?_))
          generalize w10.setCells w.heap.size 2 (arr4 f8).toList = w11 at X11 R11 b11 ⊢
          clear V10 T10 X10 O8
          refine go_on ?_
          have HC := Lib.hid (fun wx (hnx : New Q wx) (hx : RBox Q wx w.heap.size { S with words := fillW S.words pk junk W, objs := xs, free := addL S.free (c : Int) (pk : Int) } vw4 vc4 f8 (.slice A xs.length cc)) => rcut_q Q f8 (addL S.free (c : Int) (pk : Int)) (s : Int) wx (fun j hj => hx.rin.fr j hj) (fun j hj => by have := I.out.free_len hj; unfold addL; split <;> simp <;> omega) (fun j hj x hx => by
            unfold addL at hx
            split at hx
            · rcases List.mem_append.1 hx with hx | hx
              · exact I.out.bdL j hj x hx
              · rw [List.mem_singleton.1 hx]; omega
            · exact I.out.bdL j hj x hx) hnx hx.rin.qf)
          have RG11 := Lib.hid X11.out.range4
          go_wp2_with (first
            | (refine wpList_load_mid rfl 37 (.tmp 84) rfl w.heap.size 2 rfl [f8 0, f8 1, f8 2, f8 3] _ RG11.out rarr_row rfl rarr_size ?_)
            | (go_at_call 96; refine (HC.out _ (hQ.out.le b11.size) X11.out).mono ?_; rintro e w12 ⟨v12, rfl, ⟨f12, rfl, hr12, hq12⟩, hb12⟩; replace hq12 := Lib.hid hq12; refine stop_here ?_))
          have O12 := Lib.hid (arr4_one fun j hj => rd_one (hr12 j hj))
          have X12 := Lib.hid (X11.out.below hb12)
          have R12 := Lib.hid (R11.out.below hb12 R11.out.lt)
          have b12 := Lib.hid (below_all b11 hb12)
          replace hr12 := Lib.hid hr12
          clear X11 R11 HC hb12 b11 RG11
          refine go_on ?_
          go_wp2_with (first
            | (refine wpList_new rfl (.alloc 37) rfl w12.heap.size rfl 37 nil4 (by kernel_rfl) ?_; intro w13 hs13 hb13 hB13; have HB13 := Lib.hid hB13; clear hB13 hs13)
            | (refine wpList_store_blk rfl 37 (.tmp 16) (.tmp 88) rfl w12.heap.size rfl (arr4 f12) rfl 37 nil4 HB13.out rarr_size rfl O12.out ?_; intro w14 hB14 hg14 hs14; refine stop_here ?_))
          have h1214 : Below w12.heap.size w12 w14 := hb13.grown hg14 hb13.size (fun k hk => by cases hk; exact Nat.le_refl _)
          have X14 := Lib.hid (X12.out.below h1214)
          have R14 := R12.out.below h1214 R12.out.lt
          have b14 := below_all b12.out h1214
          have hr14 : ∀ j, j < 4 → Rd i64e w14 (f12 j) (cutL (addL S.free (c : Int) (pk : Int)) (s : Int) j) := fun j hj => (hr12.out j hj).below h1214
          have X15 := Lib.hid (X14.out.set_free hr14 hq12.out)
          have R15 := Lib.hid (show Blk (w14.setCells w.heap.size 2 (arr4 f12).toList) (w.heap.size + 1) 40 rnil from (set4_other w14 w.heap.size f12 (by omega)).trans R14)
          have b15 : Below w.heap.size w (w14.setCells w.heap.size 2 (arr4 f12).toList) := b14.grown (grown_set4 w14 w.heap.size f12) b14.size (fun k hk => by cases hk; exact Nat.le_refl _)
          have V14 := Lib.hid hB14
          have T14 := Lib.hid (X14.out.there4 f12)
          clear h1214 hB14 hr14 R14 b14 hg14 hs14 hb13 HB13 X12 R12 b12 hr12
          refine go_on ?_
          go_wp2_with (first
            | (refine wpList_load_blk rfl 37 (.tmp 16) rfl w12.heap.size rfl 37 (arr4 f12) V14.out _ rarr_row rfl rarr_size ?_)
            | (refine wpList_store_mid rfl 37 (.tmp 91) (.tmp 90) rfl w.heap.size 2 (arr4 f12) rfl rfl T14.out rarr_size O12.out ?_; refine stop_here ?_))
          generalize w14.setCells w.heap.size 2 (arr4 f12).toList = w15 at X15 R15 b15 ⊢
          clear V14 T14 X14 O12
          refine go_on ?_
          obtain ⟨Ac, cc2, rfl, -⟩ := X15.out.rin.cls.len
          have hlc2 : ({ S with words := fillW S.words pk junk W, objs := xs, free := cutL (addL S.free (c : Int) (pk : Int)) (s : Int) } : HS).cls.length = S.cls.length := rfl
          have c15 := X15.out.cells.2.1
          have hz15 : w.heap.size < w15.heap.size := X15.out.blk.lt
          have hown15 := Lib.hid (World.ownsRow_made (e := 3) (size := 1) w15 (base := w15.heap.size) #[] 0 (Nat.le_refl _) (Nat.zero_le _) rfl)
          have hrw15 := Lib.hid X15.out.rin.cls
          have hlen2 := hlen.2.1
          go_wp2_with (at_builtin; refine wpList_append_all rfl (.tmp 92) (.tmp 94) _ rfl w15.heap.size 3 _ 8 Tryz.underlying36 int_info rfl _ 0 [] rfl hown15.out i64e _ S.cls (fun _ => rfl) rfl (hrw15.out.below (below_alloc _ _)) (by unfold maxLen; omega) (by omega) (by simp) ?_; intro v17 w17 hown17 hg17 hat17; refine stop_here ?_)
          have hb1517 : Below w15.heap.size w15 w17 := (below_alloc w15 _).grown hg17 (by simp) (fun k hk => by cases hk; exact Nat.le_refl _)
          have hown17 : w17.ownsRow w15.heap.size 3 1 v17 S.cls.length (S.cls.map i64e) := by simpa using hown17
          obtain ⟨A17, c17, rfl, -⟩ := own_form hown17
          obtain ⟨b17, rfl, hb17l, hb17h⟩ := own_addr hown17 (by omega)
          have q0 : (0 : Int) ≤ (s : Int) := by omega
          have q1 : (s : Int) < (S.cls.length : Int) := by omega
          have hcs := hown17.cellAt s (by omega)
          have hzs := hown17.frozenAt s
          have hcs : w17.cell? ⟨b17, s, none⟩ = some (.int .i64 S.cls[s]) := by rw [hcs]; simp [hsl]
          obtain ⟨y, hy⟩ : ∃ y, y = S.cls[s] := ⟨_, rfl⟩
          rw [← hy] at hcs
          have hown18 : (w17.setCell ⟨b17, s, none⟩ (.int .i64 (-1))).ownsRow w15.heap.size 3 1 (.slice (some ⟨b17, 0, none⟩) S.cls.length c17) S.cls.length ((S.cls.set s (-1)).map i64e) := by
            have := (hown17.stored s (.int .i64 (-1))).1
            rw [List.map_set]
            exact this
          have hb1518 := hb1517.setCell (p := ⟨b17, s, none⟩) hb17l (.int .i64 (-1))
          have X18 := X15.out.below hb1518
          have R18 := R15.out.below hb1518 R15.out.lt
          have hrd18 : Rd i64e (w17.setCell ⟨b17, s, none⟩ (.int .i64 (-1))) (.slice (some ⟨b17, 0, none⟩) S.cls.length c17) (S.cls.set s (-1)) := by
            have hl9 : (S.cls.set s (-1)).length = S.cls.length := by simp
            rw [← hl9] at hown18 ⊢
            exact Rd.of_own hown18
          have X19 := Lib.hid (X18.set_cls hrd18 (fun _ b e => hQ.out b (by have := (hown18.lt b e).1; have := b15.size; omega)))
          have R19 := Lib.hid (R18.far (p := ⟨w.heap.size, 1, none⟩) (by show w.heap.size + 1 ≠ w.heap.size; omega) (.slice (some ⟨b17, 0, none⟩) S.cls.length c17))
          have hc18 := X18.cells.2.1
          have hz18 := X18.blk.frozen 1
          have b19 := Lib.hid ((b15.trans (hb1518.mono b15.size)).setCell (p := ⟨w.heap.size, 1, none⟩) (Nat.le_refl _) (.slice (some ⟨b17, 0, none⟩) S.cls.length c17))
          have O19 := Lib.hid (slices_one X19.out.rin.slices)
          clear hy hown17 hown18 hb1518 X18 R18 hrd18 hg17 hat17 hb1517 hown15 hrw15 X15 R15 b15 c15 hlc2
          refine go_on ?_
          go_wp2_with (first
            | (refine wpList_load_blk rfl 40 (.tmp 3) rfl w.heap.size rfl 40 (rcells vw4 (.slice (some ⟨b17, 0, none⟩) S.cls.length c17) f12 (.slice A xs.length cc)) X19.out.blk _ Tryz.underlying40 rfl SZ.out ?_)
            | (refine wpList_store_blk rfl 40 (.tmp 6) (.tmp 101) rfl (w.heap.size + 1) rfl (rcells vw4 (.slice (some ⟨b17, 0, none⟩) S.cls.length c17) f12 (.slice A xs.length cc)) rfl 40 (rnil) R19.out SZ.out rfl O19.out ?_; intro w29 hR29 hg29 hs29))
          refine bodyPost_ret (res_cell_tmp rfl rfl hR29 Tryz.underlying40 rfl SZ.out) rfl ?_
          rw [hfr.out]
          exact ⟨_, _, _, _, rfl, X19.out.rin.far R19.out rnil_slices hg29, b19.out.grown hg29 b19.out.size (fun k hk => by cases hk; omega)⟩
end Go.Proofs.YtcaboknbdamlhaaGreatDoor
namespace Go.Proofs.YtcaboknbdamlhaaGreatDoor
open Go.RowKit Go.Shelf
section
variable {Q : Nat → Prop} {w : World} {D : DS} {V : V18}
set_option maxHeartbeats 6400000 in
set_option maxRecDepth 100000 in
theorem rStep18_sweep (H : XV Q w D V) (hQ : New Q w) (I : Inv D.S) (h2 : D.ph = 2) (hlo : ∀ x ∈ D.left, mIs D.S x = true) (hc : 0 ≤ D.cyc ∧ D.cyc < 1000000) (junk : Int) :
    Calls Tryz.prog 34 #[.agg (c18 V D.ph D.cyc), .int .i64 junk] w (R18 Q w (uStep D junk).1 fun v => .returned (.tuple #[v, .int .i64 (uStep D junk).2.1, .int .i64 (uStep D junk).2.2])) := by
  have ONE := Lib.hid (H.one D.ph D.cyc)
  have SZ := Lib.hid r18_size
  have SZh := Lib.hid rh_size
  obtain ⟨Ag, cg, hvg, hcg, -⟩ := H.lf.rd.len
  have HG := H.lf.rd
  have hQg := Lib.hid H.lf.inP
  rw [hvg] at HG
  replace HG := Lib.hid HG
  replace hvg := Lib.hid hvg
  replace H := Lib.hid H
  replace hQ := Lib.hid hQ
  obtain ⟨X, hX⟩ : ∃ X, X = uStep D junk := ⟨_, rfl⟩
  rw [← hX]
  unfold uStep at hX
  rw [if_neg (by omega), if_neg (by omega)] at hX
  replace I := Lib.hid I
  go_enter Tryz.func34, Tryz.ntmps34
  go_wp2_with (first
    | (refine wpList_new rfl (.box 42 (.tmp 0)) rfl w.heap.size rfl 42 (c18 V D.ph D.cyc) (by kernel_rfl) ?_; intro w1 hs1 hb1 hB1)
    | (refine wpList_new rfl (.alloc 42) rfl (w.heap.size + 1) hs1 42 n18 (by kernel_rfl) ?_; intro w2 hs2 hb2 hB2; refine stop_here ?_))
  have HB := hB1.below hb2 (by omega)
  have HR := hB2
  have b2 : Below w.heap.size w w2 := hb1.trans (hb2.mono (by omega))
  have hz2 : w2.heap.size = w.heap.size + 2 := by omega
  obtain ⟨gX, hgX⟩ : ∃ gX, gX = w.heap.size := ⟨_, rfl⟩
  obtain ⟨gR, hgR⟩ : ∃ gR, gR = w.heap.size + 1 := ⟨_, rfl⟩
  rw [← hgR] at HR ⊢
  rw [← hgX] at HB ⊢
  have hXR : gX ≠ gR := by omega
  replace hgX := Lib.hid hgX
  replace hgR := Lib.hid hgR
  replace hz2 := Lib.hid hz2
  clear hs1 hB1 hb1 hB2 hs2 hb2
  have q9 : w2.cell? ⟨gX, 9, none⟩ = some (.int .i64 D.ph) := HB.cell 9
  rw [h2] at q9
  replace h2 := Lib.hid h2
  have c7 : w2.cell? ⟨gX, 10, none⟩ = some (.slice Ag D.left.length cg) := by rw [← hvg.out]; exact HB.cell 10
  refine go_on ?_
  rcases hgr : D.left with _ | ⟨p, gs⟩
  · rw [hgr] at c7 hX
    have hX1 : X = ({ D with ph := 0, cyc := D.cyc + 1 }, 0, 0) := by rw [hX, hgr] <;> rfl
    subst hX1
    have z0 : (([] : List Int).length) = 0 := rfl
    have hwc : IntKind.i64.wrap (D.cyc + 1) = D.cyc + 1 := by rw [IntKind.wrap_i64]; omega
    have f9 := HB.frozen 9
    have B1 : Blk (w2.setCell ⟨gX, 9, none⟩ (.int .i64 0)) gX 42 (c18 V 0 D.cyc) := HB.set_ 9 _
    have k11 : (w2.setCell ⟨gX, 9, none⟩ (.int .i64 0)).cell? ⟨gX, 11, none⟩ = some (.int .i64 D.cyc) := B1.cell 11
    have f11 := B1.frozen 11
    have B2 : Blk ((w2.setCell ⟨gX, 9, none⟩ (.int .i64 0)).setCell ⟨gX, 11, none⟩ (.int .i64 (D.cyc + 1))) gX 42 (c18 V 0 (D.cyc + 1)) := B1.set_ 11 _
    have R2 : Blk ((w2.setCell ⟨gX, 9, none⟩ (.int .i64 0)).setCell ⟨gX, 11, none⟩ (.int .i64 (D.cyc + 1))) gR 42 n18 := (HR.far (p := ⟨gX, 9, none⟩) (fun e => hXR e.symm) _).far (p := ⟨gX, 11, none⟩) (fun e => hXR e.symm) _
    have b3 : Below w.heap.size w ((w2.setCell ⟨gX, 9, none⟩ (.int .i64 0)).setCell ⟨gX, 11, none⟩ (.int .i64 (D.cyc + 1))) := (b2.setCell (p := ⟨gX, 9, none⟩) (Nat.le_of_eq hgX.out.symm) _).setCell (p := ⟨gX, 11, none⟩) (Nat.le_of_eq hgX.out.symm) _
    have ONE2 := Lib.hid (H.out.one 0 (D.cyc + 1))
    have X3 : XV (fun b => Q b ∧ b ≠ gX ∧ b ≠ gR) ((w2.setCell ⟨gX, 9, none⟩ (.int .i64 0)).setCell ⟨gX, 11, none⟩ (.int .i64 (D.cyc + 1))) { D with ph := 0, cyc := D.cyc + 1 } V :=
      have Y := H.out.apart b3 hgX.out hgR.out
      ⟨Y.rin, Y.gr, Y.bl, Y.lf⟩
    replace B2 := Lib.hid B2
    replace R2 := Lib.hid R2
    replace b3 := Lib.hid b3
    replace X3 := Lib.hid X3
    clear hX B1
    replace hgr := Lib.hid hgr
    go_wp2_with (first
      | (refine wpList_load_blk rfl 42 (.tmp 2) rfl gX rfl 42 (c18 V 0 (D.cyc + 1)) B2.out _ Tryz.underlying42 rfl SZ.out ?_)
      | (refine wpList_store_blk rfl 42 (.tmp 4) (.tmp 79) rfl gR rfl (c18 V 0 (D.cyc + 1)) rfl 42 n18 R2.out SZ.out rfl ONE2.out ?_; intro w9 hR9 hg9 hs9))
    have b9 := b3.out.grown hg9 b3.out.size (fun k hk => by cases hk; have := hgR.out; omega)
    refine bodyPost_ret (res_cell_2 rfl rfl hR9 Tryz.underlying42 rfl SZ.out) rfl ⟨V, rfl, X3.out.stored hg9 fun b h => ⟨h.1, h.2.2⟩, b9⟩
  rw [hgr] at hX hlo
  dsimp only at hX
  have hpo := hlo p (by simp)
  obtain ⟨oo, hoo, hop⟩ := (mis_mem I.out.toInv0 p).1 hpo
  have hfr := (free_ok I.out.toInv0 hoo junk).1
  rw [hop] at hfr
  rw [hfr, if_neg (by simp)] at hX
  have HFF := fun (Q' : Nat → Prop) (wx : World) (h : XV Q' wx D V) (hq : New Q' wx) => rfree_ok D.S _ _ _ _ wx h.rin hq I.out p junk
  rw [hfr] at HFF
  obtain ⟨S1, hS1e⟩ : ∃ S1, S1 = (sFree D.S p junk).1 := ⟨_, rfl⟩
  rw [← hS1e] at hX HFF
  subst hX
  have hgl : D.left.length = gs.length + 1 := by rw [hgr]; rfl
  obtain ⟨bg, og, hAg, hbgl, hcp⟩ := HG.out.at_ (i := 0) (by rw [hgl]; omega)
  have hcp' : w.cell? ⟨bg, og, none⟩ = some (.int .i64 p) := by
    have : D.left[0]'(by rw [hgl]; omega) = p := by simp [hgr]
    rw [this] at hcp
    exact hcp
  have hQbg : Q bg := hQg.out (by rw [hgl]; omega) bg (by rw [hvg.out, hAg]; rfl)
  have HGr := HG.out
  rw [hgr, hAg] at HGr
  have hvl : V.vl = .slice (some ⟨bg, og, none⟩) (gs.length + 1) cg := by rw [hvg.out, hAg, hgl]
  rw [hgl] at c7 hcg
  rw [hAg] at c7
  have d2 := (b2.cell (p := ⟨bg, og, none⟩) hbgl).trans hcp'
  have hbg2 : bg < w2.heap.size := Nat.lt_of_lt_of_le hbgl b2.size
  have z1 : ((gs.length : Int) + 1 == 0) = false := by rw [beq_eq_false_iff_ne]; omega
  have z2 : (1 : Int) ≤ (gs.length : Int) + 1 := by omega
  have z3 : (gs.length : Int) + 1 ≤ (cg : Int) := by omega
  have z5 : Hid ((0 : Int) < (gs.length : Int) + 1) := Lib.hid (by omega)
  have hgX3 : gX < w2.heap.size := HB.lt
  have hgR3 : gR < w2.heap.size := HR.lt
  have hbgX : bg ≠ gX ∧ bg ≠ gR := by have := hgX.out; have := hgR.out; omega
  have XV2 := Lib.hid (H.out.apart b2 hgX.out hgR.out)
  have HF := Lib.hid (fun (Q' : Nat → Prop) (wx : World) (h : XV Q' wx D V) (hq : New Q' wx) => HFF Q' wx h hq)
  clear HFF
  replace hgr := Lib.hid hgr
  replace hgl := Lib.hid hgl
  replace HGr := Lib.hid HGr
  replace hAg := Lib.hid hAg
  replace hcg := Lib.hid hcg
  replace hvl := Lib.hid hvl
  replace hfr := Lib.hid hfr
  replace hop := Lib.hid hop
  replace hS1e := Lib.hid hS1e
  replace hlo := Lib.hid hlo
  replace hoo := Lib.hid hoo
  replace hpo := Lib.hid hpo
  replace HB := Lib.hid HB
  replace HR := Lib.hid HR
  clear hcp hcp' HG hvg hQg
  go_wp2_with fail

  have hS0 : (fun X : World => Below w2.heap.size w2 X) w2.drew := (Below.refl _ _).drew
  refine wp_T (by kernel_rfl) 14 (fun X : World => Below w2.heap.size w2 X) ?_
  refine wpAnyT_takeA (i := 0) (v := .pointer (some ⟨gX, 0, none⟩)) rfl (by kernel_rfl) rfl (fun _ _ _ hp => hp) (Or.inl ⟨by kernel_rfl, fun X _ => by go_simp⟩) hS0 ?_
  simp only [Act.put, List.getElem_toArray, List.getElem_cons_succ, List.getElem_cons_zero, List.setIfInBounds_toArray, List.set_cons_zero, List.set_cons_succ]
  refine wpAnyT_takeA (i := 1) (v := .agg (rcells V.vw V.vc V.f V.vo)) rfl (by kernel_rfl) rfl (fun _ _ _ hp => hp) (yieldsIf_load_mid (by kernel_rfl) _ _ rfl gX 0 rfl [V.vw, V.vc, V.f 0, V.f 1, V.f 2, V.f 3, V.vo] _ (fun X hX => World.rangeAt_of_block (HB.out.below hX hgX3) 0 7) Tryz.underlying40 rfl rh_size) hS0 ?_
  simp only [Act.put, List.getElem_toArray, List.getElem_cons_succ, List.getElem_cons_zero, List.setIfInBounds_toArray, List.set_cons_zero, List.set_cons_succ]
  refine wpAnyT_takeA (i := 2) (v := .pointer (some ⟨gX, 10, none⟩)) rfl (by kernel_rfl) rfl (fun _ _ _ hp => hp) (Or.inl ⟨by kernel_rfl, fun X _ => by go_simp⟩) hS0 ?_
  simp only [Act.put, List.getElem_toArray, List.getElem_cons_succ, List.getElem_cons_zero, List.setIfInBounds_toArray, List.set_cons_zero, List.set_cons_succ]
  refine wpAnyT_takeA (i := 3) (v := .slice (some ⟨bg, og, none⟩) (gs.length + 1) cg) rfl (by kernel_rfl) rfl (fun _ _ _ hp => hp) (Or.inl ⟨by kernel_rfl, fun X hX => by have hX1 : (fun X : World => Below w2.heap.size w2 X) X := hX; have y1 := (Below.cell (p := ⟨gX, 10, none⟩) hX1 hgX3).trans c7; go_simp⟩) hS0 ?_
  simp only [Act.put, List.getElem_toArray, List.getElem_cons_succ, List.getElem_cons_zero, List.setIfInBounds_toArray, List.set_cons_zero, List.set_cons_succ]
  refine wpAnyT_takeA (i := 4) (v := .pointer (some ⟨bg, og, none⟩)) rfl (by kernel_rfl) rfl (fun _ _ _ hp => hp) (Or.inl ⟨by kernel_rfl, fun X _ => by have z5z := z5.out; go_simp⟩) hS0 ?_
  simp only [Act.put, List.getElem_toArray, List.getElem_cons_succ, List.getElem_cons_zero, List.setIfInBounds_toArray, List.set_cons_zero, List.set_cons_succ]
  refine wpAnyT_takeA (i := 5) (v := .int .i64 p) rfl (by kernel_rfl) rfl (fun _ _ _ hp => hp) (Or.inl ⟨by kernel_rfl, fun X hX => by have hX1 : (fun X : World => Below w2.heap.size w2 X) X := hX; have y1 := (Below.cell (p := ⟨bg, og, none⟩) hX1 hbg2).trans d2; go_simp⟩) hS0 ?_
  simp only [Act.put, List.getElem_toArray, List.getElem_cons_succ, List.getElem_cons_zero, List.setIfInBounds_toArray, List.set_cons_zero, List.set_cons_succ]
  refine wpAnyT_takeA (i := 6) (v := .int .i64 junk) rfl (by kernel_rfl) rfl (fun _ _ _ hp => hp) (Or.inl ⟨by kernel_rfl, fun X _ => by go_simp⟩) hS0 ?_
  simp only [Act.put, List.getElem_toArray, List.getElem_cons_succ, List.getElem_cons_zero, List.setIfInBounds_toArray, List.set_cons_zero, List.set_cons_succ]
  refine wpAnyT_two (i := 7) (j := 11) rfl rfl (by kernel_rfl) (by kernel_rfl) (by kernel_rfl) ?_ ?_
  · intro K1 hK1
    go_simp
    refine (HF.out (fun b => Q b ∧ b ≠ gX ∧ b ≠ gR) _ (XV2.out.below hS0) (fun b hb => ⟨hQ.out b (Nat.le_trans (Nat.le_trans b2.size (Below.size hS0)) hb), by have := Below.size hS0; omega, by have := Below.size hS0; omega⟩)).mono ?_
    rintro e w4 ⟨vw, vc, f, vo, rfl, H4, b4⟩
    dsimp only
    have hS1 : (fun X : World => Below w2.heap.size w2 X) w4 := Below.trans hS0 (Below.mono b4 (Below.size hS0))
    have ON4 := Lib.hid (slices_one H4.slices)
    refine hK1.out _ _ (fun _ => hS1) ?_
    (try simp only [Act.put, List.getElem_toArray, List.getElem_cons_succ, List.getElem_cons_zero, List.setIfInBounds_toArray, List.set_cons_zero, List.set_cons_succ])
    refine wpAnyT_takeA (i := 8) (v := .tuple #[.agg (rcells vw vc f vo), .int .i64 0]) rfl (by kernel_rfl) rfl (fun _ _ _ hp => hp) (Or.inl ⟨by kernel_rfl, fun X _ => by go_simp⟩) hS1 ?_
    simp only [Act.put, List.getElem_toArray, List.getElem_cons_succ, List.getElem_cons_zero, List.setIfInBounds_toArray, List.set_cons_zero, List.set_cons_succ]
    refine wpAnyT_takeA (i := 9) (v := .agg (rcells vw vc f vo)) rfl (by kernel_rfl) rfl (fun _ _ _ hp => hp) (Or.inl ⟨by kernel_rfl, fun X _ => by go_simp⟩) hS1 ?_
    simp only [Act.put, List.getElem_toArray, List.getElem_cons_succ, List.getElem_cons_zero, List.setIfInBounds_toArray, List.set_cons_zero, List.set_cons_succ]
    refine wpAnyT_takeA (i := 10) (v := .int .i64 0) rfl (by kernel_rfl) rfl (fun _ _ _ hp => hp) (Or.inl ⟨by kernel_rfl, fun X _ => by go_simp⟩) hS1 ?_
    simp only [Act.put, List.getElem_toArray, List.getElem_cons_succ, List.getElem_cons_zero, List.setIfInBounds_toArray, List.set_cons_zero, List.set_cons_succ]
    refine wpAnyT_one (i := 11) rfl (by kernel_rfl) (by kernel_rfl) ?_
    intro K2 hK2
    simp only [List.getElem_toArray, List.getElem_cons_succ, List.getElem_cons_zero]
    refine wp_new (.alloc 40) rfl 40 rnil (by kernel_rfl) ?_
    have hS2 : (fun X : World => Below w2.heap.size w2 X) (w4.alloc (.cells rnil 40)) := Below.trans hS1 ((below_alloc w4 _).mono (Below.size hS1))
    refine hK2.out _ _ (fun _ => hS2) ?_
    (try simp only [Act.put, List.getElem_toArray, List.getElem_cons_succ, List.getElem_cons_zero, List.setIfInBounds_toArray, List.set_cons_zero, List.set_cons_succ])
    refine wpAnyT_one (i := 12) rfl (by kernel_rfl) (by kernel_rfl) ?_
    intro K3 hK3
    simp only [List.getElem_toArray, List.getElem_cons_succ, List.getElem_cons_zero]
    refine wp_store_blk 40 _ _ rfl w4.heap.size rfl (rcells vw vc f vo) rfl 40 rnil (Blk.new w4 _ _) rh_size rfl ON4.out ?_
    intro w6 hB6 hg6 hs6
    have hS3 : (fun X : World => Below w2.heap.size w2 X) w6 := Below.grown hS2 hg6 (Below.size hS2) (fun k hk => by cases hk; exact Below.size hS1)
    refine hK3.out _ _ (fun _ => hS3) ?_
    (try simp only [Act.put, List.getElem_toArray, List.getElem_cons_succ, List.getElem_cons_zero, List.setIfInBounds_toArray, List.set_cons_zero, List.set_cons_succ])
    refine wpAnyT_takeA (i := 13) (v := .int .i64 0) rfl (by kernel_rfl) rfl (fun _ _ _ hp => hp) (Or.inl ⟨by kernel_rfl, fun X _ => by go_simp⟩) hS3 ?_
    simp only [Act.put, List.getElem_toArray, List.getElem_cons_succ, List.getElem_cons_zero, List.setIfInBounds_toArray, List.set_cons_zero, List.set_cons_succ]
    refine wpAnyT_done (by kernel_rfl) ?_ _
    (try simp only [Act.put, List.getElem_toArray, List.getElem_cons_succ, List.getElem_cons_zero, List.setIfInBounds_toArray, List.set_cons_zero, List.set_cons_succ])
    clear hK1 K1 hK2 K2 hK3 K3
    have b46 : Below w4.heap.size w4 w6 := (below_alloc w4 _).grown hg6 (by simp) (fun k hk => by cases hk; exact Nat.le_refl _)
    have H6 := Lib.hid (H4.keepQ (Q' := (fun b => Q b ∧ b ≠ gX ∧ b ≠ gR)) b46.size (fun b _ hlt => b46.block b hlt) (fun _ h _ => h))
    obtain ⟨gH, hgH⟩ : ∃ gH, gH = w4.heap.size := ⟨_, rfl⟩
    rw [← hgH] at hB6 ⊢
    replace hgH : gX ≠ gH ∧ gR ≠ gH := by have := Below.size hS1; omega
    have b6 : Below w2.heap.size w2 w6 := hS3
    clear hS0 hS1 hS2 hS3 hg6 hs6 b46 H4 b4
    have HB7 := HB.out.below b6 hgX3
    have HR7 := HR.out.below b6 hgR3
    have b6w := b2.trans (b6.mono b2.size)
    obtain ⟨t6, B6, hg6, hs6⟩ := blk_heap HB7 vw vc f vo
    have HR6 := HR7.grown hg6 (fun e => by injection e with e; exact hXR e.symm)
    have b7 : Below w.heap.size w _ := b6w.grown hg6 b6w.size (fun k hk => by cases hk; have := hgX.out; omega)
    have H7 := Lib.hid (H6.out.keepQ (Q' := (fun b => Q b ∧ b ≠ gX ∧ b ≠ gR)) (Nat.le_of_eq hs6.symm) (fun b h hlt => hg6.block b hlt fun e => h.2.1 (by injection e)) (fun _ h _ => h))
    replace t6 := Lib.hid t6
    replace b7 := Lib.hid b7
    replace B6 := Lib.hid B6
    replace HR6 := Lib.hid HR6
    replace hs6 := Lib.hid hs6
    replace hgH := Lib.hid hgH
    clear hg6 H6 HR7 HB7 c7 d2 q9
    go_wp2_with (first
      | (refine wpList_load_blk rfl 40 (.tmp 12) rfl gH rfl 40 (rcells vw vc f vo) hB6 _ Tryz.underlying40 rfl SZh.out ?_)
      | (refine wpList_store_mid rfl 40 (.tmp 96) (.tmp 95) rfl gX 0 (rcells vw vc f vo) rfl rfl t6.out SZh.out ON4.out ?_; refine stop_here ?_))
    dsimp only [rcells]
    obtain ⟨w7, hw7⟩ : ∃ w7, w7 = w6.setCells gX 0 [vw, vc, f 0, f 1, f 2, f 3, vo] := ⟨_, rfl⟩
    rw [← hw7] at H7 B6 HR6 b7 hs6 ⊢
    replace hw7 := Lib.hid hw7
    clear t6 b6w hB6 b6
    refine go_on ?_
    have c7 : w7.cell? ⟨gX, 10, none⟩ = some (.slice (some ⟨bg, og, none⟩) (gs.length + 1) cg) := by rw [← hvl.out]; exact B6.out.cell 10
    have f10 := B6.out.frozen 10
    have hgX7 := B6.out.lt
    by_cases hc1 : cg = 1
    · subst hc1
      have hrd2 : RdG (fun b => Q b ∧ b ≠ gX ∧ b ≠ gR) i64e w (Value.slice (some ⟨bg, og, none⟩) gs.length 0) gs := ⟨rd_nil18 (by omega), fun hp => absurd hp (by omega)⟩
      have B8 : Blk (w7.setCell ⟨gX, 10, none⟩ (Value.slice (some ⟨bg, og, none⟩) gs.length 0)) gX 42 (c18 { V.heap vw vc f vo with vl := Value.slice (some ⟨bg, og, none⟩) gs.length 0 } D.ph D.cyc) := B6.out.set_ 10 _
      have R8 : Blk (w7.setCell ⟨gX, 10, none⟩ (Value.slice (some ⟨bg, og, none⟩) gs.length 0)) gR 42 n18 := HR6.out.far (p := ⟨gX, 10, none⟩) (by show gR ≠ gX; exact hXR.symm) _
      have b8 : Below w.heap.size w (w7.setCell ⟨gX, 10, none⟩ (Value.slice (some ⟨bg, og, none⟩) gs.length 0)) := b7.out.setCell (p := ⟨gX, 10, none⟩) (Nat.le_of_eq hgX.out.symm) _
      have X8 : XV (fun b => Q b ∧ b ≠ gX ∧ b ≠ gR) (w7.setCell ⟨gX, 10, none⟩ (Value.slice (some ⟨bg, og, none⟩) gs.length 0)) { D with S := S1, left := gs } { V.heap vw vc f vo with vl := Value.slice (some ⟨bg, og, none⟩) gs.length 0 } := by
        have Y := H.out.apart b8 hgX.out hgR.out
        exact ⟨H7.out.keepQ (by rw [setCell_size]; exact Nat.le_refl _) (fun b h _ => setCell_other w7 gX 10 _ h.2.1) (fun _ h _ => h), Y.gr, Y.bl, hrd2.keepQ (Q' := (fun b => Q b ∧ b ≠ gX ∧ b ≠ gR)) b8.size (fun b _ hlt => b8.block b hlt) (fun _ h _ => h)⟩
      have ONE8 := Lib.hid (X8.one D.ph D.cyc)
      replace hrd2 := Lib.hid hrd2
      replace B8 := Lib.hid B8
      replace R8 := Lib.hid R8
      replace b8 := Lib.hid b8
      replace X8 := Lib.hid X8
      go_wp2_with (first
        | (refine wpList_load_blk rfl 42 (.tmp 2) rfl gX rfl 42 (c18 { V.heap vw vc f vo with vl := Value.slice (some ⟨bg, og, none⟩) gs.length 0 } D.ph D.cyc) B8.out _ Tryz.underlying42 rfl SZ.out ?_)
        | (refine wpList_store_blk rfl 42 (.tmp 4) (.tmp 101) rfl gR rfl (c18 { V.heap vw vc f vo with vl := Value.slice (some ⟨bg, og, none⟩) gs.length 0 } D.ph D.cyc) rfl 42 n18 R8.out SZ.out rfl ONE8.out ?_; intro w9 hR9 hg9 hs9))
      have b9 := b8.out.grown hg9 b8.out.size (fun k hk => by cases hk; have := hgR.out; omega)
      refine bodyPost_ret (res_cell_2 rfl rfl hR9 Tryz.underlying42 rfl SZ.out) rfl ⟨_, rfl, X8.out.stored hg9 fun b h => ⟨h.1, h.2.2⟩, b9⟩
    · have hc2 : Hid (cg ≠ 1) := Lib.hid hc1
      have hrd2 : RdG (fun b => Q b ∧ b ≠ gX ∧ b ≠ gR) i64e w (Value.slice (some ⟨bg, og + 1, none⟩) gs.length (cg - 1)) gs := ⟨Rd.tail18 HGr.out, fun _ b e => (show bg = b by simpa [Value.ownBlock] using e) ▸ ⟨hQbg, hbgX⟩⟩
      have B8 : Blk (w7.setCell ⟨gX, 10, none⟩ (Value.slice (some ⟨bg, og + 1, none⟩) gs.length (cg - 1))) gX 42 (c18 { V.heap vw vc f vo with vl := Value.slice (some ⟨bg, og + 1, none⟩) gs.length (cg - 1) } D.ph D.cyc) := B6.out.set_ 10 _
      have R8 : Blk (w7.setCell ⟨gX, 10, none⟩ (Value.slice (some ⟨bg, og + 1, none⟩) gs.length (cg - 1))) gR 42 n18 := HR6.out.far (p := ⟨gX, 10, none⟩) (by show gR ≠ gX; exact hXR.symm) _
      have b8 : Below w.heap.size w (w7.setCell ⟨gX, 10, none⟩ (Value.slice (some ⟨bg, og + 1, none⟩) gs.length (cg - 1))) := b7.out.setCell (p := ⟨gX, 10, none⟩) (Nat.le_of_eq hgX.out.symm) _
      have X8 : XV (fun b => Q b ∧ b ≠ gX ∧ b ≠ gR) (w7.setCell ⟨gX, 10, none⟩ (Value.slice (some ⟨bg, og + 1, none⟩) gs.length (cg - 1))) { D with S := S1, left := gs } { V.heap vw vc f vo with vl := Value.slice (some ⟨bg, og + 1, none⟩) gs.length (cg - 1) } := by
        have Y := H.out.apart b8 hgX.out hgR.out
        exact ⟨H7.out.keepQ (by rw [setCell_size]; exact Nat.le_refl _) (fun b h _ => setCell_other w7 gX 10 _ h.2.1) (fun _ h _ => h), Y.gr, Y.bl, hrd2.keepQ (Q' := (fun b => Q b ∧ b ≠ gX ∧ b ≠ gR)) b8.size (fun b _ hlt => b8.block b hlt) (fun _ h _ => h)⟩
      have ONE8 := Lib.hid (X8.one D.ph D.cyc)
      replace hrd2 := Lib.hid hrd2
      replace B8 := Lib.hid B8
      replace R8 := Lib.hid R8
      replace b8 := Lib.hid b8
      replace X8 := Lib.hid X8
      go_wp2_with (first
        | (refine wpList_load_blk rfl 42 (.tmp 2) rfl gX rfl 42 (c18 { V.heap vw vc f vo with vl := Value.slice (some ⟨bg, og + 1, none⟩) gs.length (cg - 1) } D.ph D.cyc) B8.out _ Tryz.underlying42 rfl SZ.out ?_)
        | (refine wpList_store_blk rfl 42 (.tmp 4) (.tmp 101) rfl gR rfl (c18 { V.heap vw vc f vo with vl := Value.slice (some ⟨bg, og + 1, none⟩) gs.length (cg - 1) } D.ph D.cyc) rfl 42 n18 R8.out SZ.out rfl ONE8.out ?_; intro w9 hR9 hg9 hs9))
      have b9 := b8.out.grown hg9 b8.out.size (fun k hk => by cases hk; have := hgR.out; omega)
      refine bodyPost_ret (res_cell_2 rfl rfl hR9 Tryz.underlying42 rfl SZ.out) rfl ⟨_, rfl, X8.out.stored hg9 fun b h => ⟨h.1, h.2.2⟩, b9⟩
  · intro K1 hK1
    simp only [List.getElem_toArray, List.getElem_cons_succ, List.getElem_cons_zero]
    refine wp_new (.alloc 40) rfl 40 rnil (by kernel_rfl) ?_
    have hS1 : (fun X : World => Below w2.heap.size w2 X) (w2.drew.alloc (.cells rnil 40)) := Below.trans hS0 ((below_alloc w2.drew _).mono (Below.size hS0))
    refine hK1.out _ _ (fun _ => hS1) ?_
    (try simp only [Act.put, List.getElem_toArray, List.getElem_cons_succ, List.getElem_cons_zero, List.setIfInBounds_toArray, List.set_cons_zero, List.set_cons_succ])
    refine wpAnyT_one (i := 7) rfl (by kernel_rfl) (by kernel_rfl) ?_
    intro K2 hK2
    go_simp
    have hz0 : (w2.drew.alloc (.cells rnil 40)).heap.size = w2.heap.size + 1 := (show (w2.drew.alloc (.cells rnil 40)).heap.size = w2.drew.heap.size + 1 by simp)
    refine (HF.out (fun b => (fun b => Q b ∧ b ≠ gX ∧ b ≠ gR) b ∧ b ≠ w2.heap.size) _ (XV2.out.keepQ (Below.size hS1) (fun b _ hlt => Below.block hS1 b hlt) fun b hb hlt => ⟨hb, by omega⟩) (fun b hb => ⟨⟨hQ.out b (Nat.le_trans (Nat.le_trans b2.size (Below.size hS1)) hb), by have := Below.size hS1; omega, by have := Below.size hS1; omega⟩, by omega⟩)).mono ?_
    rintro e w4 ⟨vw, vc, f, vo, rfl, H4, b4⟩
    dsimp only
    have hS2 : (fun X : World => Below w2.heap.size w2 X) w4 := Below.trans hS1 (Below.mono b4 (Below.size hS1))
    have ON4 := Lib.hid (slices_one H4.slices)
    have hBn := (Blk.new w2.drew 40 rnil).below b4 (Blk.new w2.drew 40 rnil).lt
    refine hK2.out _ _ (fun _ => hS2) ?_
    (try simp only [Act.put, List.getElem_toArray, List.getElem_cons_succ, List.getElem_cons_zero, List.setIfInBounds_toArray, List.set_cons_zero, List.set_cons_succ])
    refine wpAnyT_takeA (i := 8) (v := .tuple #[.agg (rcells vw vc f vo), .int .i64 0]) rfl (by kernel_rfl) rfl (fun _ _ _ hp => hp) (Or.inl ⟨by kernel_rfl, fun X _ => by go_simp⟩) hS2 ?_
    simp only [Act.put, List.getElem_toArray, List.getElem_cons_succ, List.getElem_cons_zero, List.setIfInBounds_toArray, List.set_cons_zero, List.set_cons_succ]
    refine wpAnyT_takeA (i := 9) (v := .agg (rcells vw vc f vo)) rfl (by kernel_rfl) rfl (fun _ _ _ hp => hp) (Or.inl ⟨by kernel_rfl, fun X _ => by go_simp⟩) hS2 ?_
    simp only [Act.put, List.getElem_toArray, List.getElem_cons_succ, List.getElem_cons_zero, List.setIfInBounds_toArray, List.set_cons_zero, List.set_cons_succ]
    refine wpAnyT_takeA (i := 10) (v := .int .i64 0) rfl (by kernel_rfl) rfl (fun _ _ _ hp => hp) (Or.inl ⟨by kernel_rfl, fun X _ => by go_simp⟩) hS2 ?_
    simp only [Act.put, List.getElem_toArray, List.getElem_cons_succ, List.getElem_cons_zero, List.setIfInBounds_toArray, List.set_cons_zero, List.set_cons_succ]
    refine wpAnyT_one (i := 12) rfl (by kernel_rfl) (by kernel_rfl) ?_
    intro K3 hK3
    simp only [List.getElem_toArray, List.getElem_cons_succ, List.getElem_cons_zero]
    refine wp_store_blk 40 _ _ rfl w2.drew.heap.size rfl (rcells vw vc f vo) rfl 40 rnil hBn rh_size rfl ON4.out ?_
    intro w6 hB6 hg6 hs6
    have hS3 : (fun X : World => Below w2.heap.size w2 X) w6 := Below.grown hS2 hg6 (Below.size hS2) (fun k hk => by cases hk; exact Nat.le_refl _)
    refine hK3.out _ _ (fun _ => hS3) ?_
    (try simp only [Act.put, List.getElem_toArray, List.getElem_cons_succ, List.getElem_cons_zero, List.setIfInBounds_toArray, List.set_cons_zero, List.set_cons_succ])
    refine wpAnyT_takeA (i := 13) (v := .int .i64 0) rfl (by kernel_rfl) rfl (fun _ _ _ hp => hp) (Or.inl ⟨by kernel_rfl, fun X _ => by go_simp⟩) hS3 ?_
    simp only [Act.put, List.getElem_toArray, List.getElem_cons_succ, List.getElem_cons_zero, List.setIfInBounds_toArray, List.set_cons_zero, List.set_cons_succ]
    refine wpAnyT_done (by kernel_rfl) ?_ _
    (try simp only [Act.put, List.getElem_toArray, List.getElem_cons_succ, List.getElem_cons_zero, List.setIfInBounds_toArray, List.set_cons_zero, List.set_cons_succ])
    clear hK1 K1 hK2 K2 hK3 K3
    have H6 := Lib.hid (H4.keepQ (Q' := (fun b => Q b ∧ b ≠ gX ∧ b ≠ gR)) hg6.size (fun b hb hlt => hg6.block b hlt fun e => hb.2 (by injection e)) (fun _ h _ => h.1))
    replace hB6 : Blk w6 w2.heap.size 40 (rcells vw vc f vo) := hB6
    obtain ⟨gH, hgH⟩ : ∃ gH, gH = w2.heap.size := ⟨_, rfl⟩
    rw [← hgH] at hB6 ⊢
    replace hgH : gX ≠ gH ∧ gR ≠ gH := by omega
    have b6 : Below w2.heap.size w2 w6 := hS3
    clear hS0 hS1 hS2 hS3 hg6 hs6 hBn H4 b4
    have HB7 := HB.out.below b6 hgX3
    have HR7 := HR.out.below b6 hgR3
    have b6w := b2.trans (b6.mono b2.size)
    obtain ⟨t6, B6, hg6, hs6⟩ := blk_heap HB7 vw vc f vo
    have HR6 := HR7.grown hg6 (fun e => by injection e with e; exact hXR e.symm)
    have b7 : Below w.heap.size w _ := b6w.grown hg6 b6w.size (fun k hk => by cases hk; have := hgX.out; omega)
    have H7 := Lib.hid (H6.out.keepQ (Q' := (fun b => Q b ∧ b ≠ gX ∧ b ≠ gR)) (Nat.le_of_eq hs6.symm) (fun b h hlt => hg6.block b hlt fun e => h.2.1 (by injection e)) (fun _ h _ => h))
    replace t6 := Lib.hid t6
    replace b7 := Lib.hid b7
    replace B6 := Lib.hid B6
    replace HR6 := Lib.hid HR6
    replace hs6 := Lib.hid hs6
    replace hgH := Lib.hid hgH
    clear hg6 H6 HR7 HB7 c7 d2 q9
    go_wp2_with (first
      | (refine wpList_load_blk rfl 40 (.tmp 12) rfl gH rfl 40 (rcells vw vc f vo) hB6 _ Tryz.underlying40 rfl SZh.out ?_)
      | (refine wpList_store_mid rfl 40 (.tmp 96) (.tmp 95) rfl gX 0 (rcells vw vc f vo) rfl rfl t6.out SZh.out ON4.out ?_; refine stop_here ?_))
    dsimp only [rcells]
    obtain ⟨w7, hw7⟩ : ∃ w7, w7 = w6.setCells gX 0 [vw, vc, f 0, f 1, f 2, f 3, vo] := ⟨_, rfl⟩
    rw [← hw7] at H7 B6 HR6 b7 hs6 ⊢
    replace hw7 := Lib.hid hw7
    clear t6 b6w hB6 b6
    refine go_on ?_
    have c7 : w7.cell? ⟨gX, 10, none⟩ = some (.slice (some ⟨bg, og, none⟩) (gs.length + 1) cg) := by rw [← hvl.out]; exact B6.out.cell 10
    have f10 := B6.out.frozen 10
    have hgX7 := B6.out.lt
    by_cases hc1 : cg = 1
    · subst hc1
      have hrd2 : RdG (fun b => Q b ∧ b ≠ gX ∧ b ≠ gR) i64e w (Value.slice (some ⟨bg, og, none⟩) gs.length 0) gs := ⟨rd_nil18 (by omega), fun hp => absurd hp (by omega)⟩
      have B8 : Blk (w7.setCell ⟨gX, 10, none⟩ (Value.slice (some ⟨bg, og, none⟩) gs.length 0)) gX 42 (c18 { V.heap vw vc f vo with vl := Value.slice (some ⟨bg, og, none⟩) gs.length 0 } D.ph D.cyc) := B6.out.set_ 10 _
      have R8 : Blk (w7.setCell ⟨gX, 10, none⟩ (Value.slice (some ⟨bg, og, none⟩) gs.length 0)) gR 42 n18 := HR6.out.far (p := ⟨gX, 10, none⟩) (by show gR ≠ gX; exact hXR.symm) _
      have b8 : Below w.heap.size w (w7.setCell ⟨gX, 10, none⟩ (Value.slice (some ⟨bg, og, none⟩) gs.length 0)) := b7.out.setCell (p := ⟨gX, 10, none⟩) (Nat.le_of_eq hgX.out.symm) _
      have X8 : XV (fun b => Q b ∧ b ≠ gX ∧ b ≠ gR) (w7.setCell ⟨gX, 10, none⟩ (Value.slice (some ⟨bg, og, none⟩) gs.length 0)) { D with S := S1, left := gs } { V.heap vw vc f vo with vl := Value.slice (some ⟨bg, og, none⟩) gs.length 0 } := by
        have Y := H.out.apart b8 hgX.out hgR.out
        exact ⟨H7.out.keepQ (by rw [setCell_size]; exact Nat.le_refl _) (fun b h _ => setCell_other w7 gX 10 _ h.2.1) (fun _ h _ => h), Y.gr, Y.bl, hrd2.keepQ (Q' := (fun b => Q b ∧ b ≠ gX ∧ b ≠ gR)) b8.size (fun b _ hlt => b8.block b hlt) (fun _ h _ => h)⟩
      have ONE8 := Lib.hid (X8.one D.ph D.cyc)
      replace hrd2 := Lib.hid hrd2
      replace B8 := Lib.hid B8
      replace R8 := Lib.hid R8
      replace b8 := Lib.hid b8
      replace X8 := Lib.hid X8
      go_wp2_with (first
        | (refine wpList_load_blk rfl 42 (.tmp 2) rfl gX rfl 42 (c18 { V.heap vw vc f vo with vl := Value.slice (some ⟨bg, og, none⟩) gs.length 0 } D.ph D.cyc) B8.out _ Tryz.underlying42 rfl SZ.out ?_)
        | (refine wpList_store_blk rfl 42 (.tmp 4) (.tmp 101) rfl gR rfl (c18 { V.heap vw vc f vo with vl := Value.slice (some ⟨bg, og, none⟩) gs.length 0 } D.ph D.cyc) rfl 42 n18 R8.out SZ.out rfl ONE8.out ?_; intro w9 hR9 hg9 hs9))
      have b9 := b8.out.grown hg9 b8.out.size (fun k hk => by cases hk; have := hgR.out; omega)
      refine bodyPost_ret (res_cell_2 rfl rfl hR9 Tryz.underlying42 rfl SZ.out) rfl ⟨_, rfl, X8.out.stored hg9 fun b h => ⟨h.1, h.2.2⟩, b9⟩
    · have hc2 : Hid (cg ≠ 1) := Lib.hid hc1
      have hrd2 : RdG (fun b => Q b ∧ b ≠ gX ∧ b ≠ gR) i64e w (Value.slice (some ⟨bg, og + 1, none⟩) gs.length (cg - 1)) gs := ⟨Rd.tail18 HGr.out, fun _ b e => (show bg = b by simpa [Value.ownBlock] using e) ▸ ⟨hQbg, hbgX⟩⟩
      have B8 : Blk (w7.setCell ⟨gX, 10, none⟩ (Value.slice (some ⟨bg, og + 1, none⟩) gs.length (cg - 1))) gX 42 (c18 { V.heap vw vc f vo with vl := Value.slice (some ⟨bg, og + 1, none⟩) gs.length (cg - 1) } D.ph D.cyc) := B6.out.set_ 10 _
      have R8 : Blk (w7.setCell ⟨gX, 10, none⟩ (Value.slice (some ⟨bg, og + 1, none⟩) gs.length (cg - 1))) gR 42 n18 := HR6.out.far (p := ⟨gX, 10, none⟩) (by show gR ≠ gX; exact hXR.symm) _
      have b8 : Below w.heap.size w (w7.setCell ⟨gX, 10, none⟩ (Value.slice (some ⟨bg, og + 1, none⟩) gs.length (cg - 1))) := b7.out.setCell (p := ⟨gX, 10, none⟩) (Nat.le_of_eq hgX.out.symm) _
      have X8 : XV (fun b => Q b ∧ b ≠ gX ∧ b ≠ gR) (w7.setCell ⟨gX, 10, none⟩ (Value.slice (some ⟨bg, og + 1, none⟩) gs.length (cg - 1))) { D with S := S1, left := gs } { V.heap vw vc f vo with vl := Value.slice (some ⟨bg, og + 1, none⟩) gs.length (cg - 1) } := by
        have Y := H.out.apart b8 hgX.out hgR.out
        exact ⟨H7.out.keepQ (by rw [setCell_size]; exact Nat.le_refl _) (fun b h _ => setCell_other w7 gX 10 _ h.2.1) (fun _ h _ => h), Y.gr, Y.bl, hrd2.keepQ (Q' := (fun b => Q b ∧ b ≠ gX ∧ b ≠ gR)) b8.size (fun b _ hlt => b8.block b hlt) (fun _ h _ => h)⟩
      have ONE8 := Lib.hid (X8.one D.ph D.cyc)
      replace hrd2 := Lib.hid hrd2
      replace B8 := Lib.hid B8
      replace R8 := Lib.hid R8
      replace b8 := Lib.hid b8
      replace X8 := Lib.hid X8
      go_wp2_with (first
        | (refine wpList_load_blk rfl 42 (.tmp 2) rfl gX rfl 42 (c18 { V.heap vw vc f vo with vl := Value.slice (some ⟨bg, og + 1, none⟩) gs.length (cg - 1) } D.ph D.cyc) B8.out _ Tryz.underlying42 rfl SZ.out ?_)
        | (refine wpList_store_blk rfl 42 (.tmp 4) (.tmp 101) rfl gR rfl (c18 { V.heap vw vc f vo with vl := Value.slice (some ⟨bg, og + 1, none⟩) gs.length (cg - 1) } D.ph D.cyc) rfl 42 n18 R8.out SZ.out rfl ONE8.out ?_; intro w9 hR9 hg9 hs9))
      have b9 := b8.out.grown hg9 b8.out.size (fun k hk => by cases hk; have := hgR.out; omega)
      refine bodyPost_ret (res_cell_2 rfl rfl hR9 Tryz.underlying42 rfl SZ.out) rfl ⟨_, rfl, X8.out.stored hg9 fun b h => ⟨h.1, h.2.2⟩, b9⟩
end
/-- Step by value, whatever the phase. -/
theorem rStep18 {Q : Nat → Prop} {w : World} {D : DS} {V : V18} (H : XV Q w D V) (hQ : New Q w) (I : Inv D.S) (hgs : D.greys.length ≤ 3900) (hbs : D.black.length ≤ 3900) (hph : D.ph = 0 ∨ D.ph = 1 ∨ D.ph = 2) (hlo : D.ph = 2 → ∀ x ∈ D.left, mIs D.S x = true) (hc : 0 ≤ D.cyc ∧ D.cyc < 1000000) (junk : Int) :
    Calls Tryz.prog 34 #[.agg (c18 V D.ph D.cyc), .int .i64 junk] w (R18 Q w (uStep D junk).1 fun v => .returned (.tuple #[v, .int .i64 (uStep D junk).2.1, .int .i64 (uStep D junk).2.2])) := by
  rcases hph with h | h | h
  · have e : uStep D junk = (D, 0, 0) := by unfold uStep; rw [if_neg (by omega), if_pos h]
    rw [e]
    exact rStep18_off H h junk
  · exact rStep18_mark H hQ I.toInv0 hgs hbs h junk
  · exact rStep18_sweep H hQ I h (hlo h) hc junk
end Go.Proofs.YtcaboknbdamlhaaGreatDoor
namespace Go.Proofs.YtcaboknbdamlhaaGreatDoor
/-- Marking: the greys are the document's, what is seen is grey or black. -/
structure CpK (S : HS) (K : MK) (D : DS) : Prop where
  mi : MI S K
  gr : K.greys = D.greys
  sn : ∀ x, K.seen x = true ↔ x ∈ D.greys ∨ x ∈ D.black
  nd : (D.greys ++ D.black).Nodup
inductive CpP (T : SS) (D : DS) : Prop
  | off (ph : T.ph = 0) (on : T.K.on = false) (lf : T.left = [])
  | mark (ph : T.ph = 1) (lf : T.left = []) (ck : CpK T.S T.K D)
  | sweep (ph : T.ph = 2) (on : T.K.on = false) (nd : T.left.Nodup) (lo : ∀ x ∈ T.left, mIs T.S x = true)
structure Cp (T : SS) (D : DS) (c : Nat) : Prop where
  S : D.S = T.S
  ph : D.ph = T.ph
  lf : D.left = T.left
  cy : D.cyc = T.cyc
  cb : 0 ≤ T.cyc ∧ T.cyc ≤ c
  nb : T.S.objs.length ≤ c
  gb : D.greys.length ≤ c ∧ D.black.length ≤ c
  st : CpP T D
section
variable {S S' : HS} {K : MK} {T : SS} {D : DS} {c : Nat}
theorem nodup_sub {S : HS} (I : Inv0 S) {l : List Int} (nd : l.Nodup) (h : ∀ x ∈ l, mIs S x = true) : l.length ≤ S.objs.length := by
  have := cyc_len (T := ⟨S, mStart, 0, l, 0⟩) I nd h
  rw [all_len] at this
  exact this
theorem CpK.len (I : Inv0 S) (C : CpK S K D) : D.greys.length + D.black.length ≤ S.objs.length := by
  have := nodup_sub I C.nd fun x hx => C.mi.obj x ((C.sn x).2 (List.mem_append.1 hx))
  rwa [List.length_append] at this
theorem Cp.mono (H : Cp T D c) {d : Nat} (h : c ≤ d) : Cp T D d :=
  ⟨H.S, H.ph, H.lf, H.cy, ⟨H.cb.1, by have := H.cb.2; omega⟩, Nat.le_trans H.nb h, ⟨Nat.le_trans H.gb.1 h, Nat.le_trans H.gb.2 h⟩, H.st⟩
theorem Cp.dlen (H : Cp T D c) (hc : c ≤ 4000) : DLen D := ⟨Nat.le_trans H.gb.1 hc, Nat.le_trans H.gb.2 hc⟩
theorem Cp.sok (H : Cp T D c) (I : Inv0 T.S) (hc : c ≤ 4000) : SOk T := by
  have hcb := H.cb
  cases H.st with
  | off ph on lf => exact ⟨.inl ph, by omega, by rw [lf]; simp, by rw [lf]; simp⟩
  | mark ph lf ck => exact ⟨.inr (.inl ⟨ph, ck.mi.on⟩), by omega, by rw [lf]; simp, by rw [lf]; simp⟩
  | sweep ph on nd lo =>
    have := nodup_sub I nd lo
    have h2 := I.objs_len
    exact ⟨.inr (.inr ph), by omega, fun x hx => by have := mis_pos I (lo x hx); omega, by omega⟩
theorem cp_new (N : Nat) : Cp (q0 N) (u0 N) 0 := ⟨rfl, rfl, rfl, rfl, ⟨Int.le_refl 0, Int.le_refl 0⟩, Nat.le_refl 0, ⟨Nat.le_refl 0, Nat.le_refl 0⟩, .off rfl rfl rfl⟩
theorem bad_iff (S : HS) (x : Int) : mBad S x = false ↔ Good S x := by
  unfold mBad Good
  by_cases h : x = 0
  · simp [h]
  · cases mIs S x <;> simp [h]
theorem bad_iff' (S : HS) (x : Int) : mBad S x = true ↔ ¬ Good S x := by
  rw [← bad_iff S x]
  cases mBad S x <;> simp
theorem known_bad (M : MI S K) {p : Int} (hb : ¬ Good S p) : mKnown S K p = (false, 11) := by
  unfold mKnown
  rw [if_neg (fun h => h.elim (fun h => by rw [M.on] at h; cases h) fun h => hb (.inl h)), if_neg fun h => hb (.inr h)]
theorem shade_bad (M : MI S K) {p : Int} (hb : ¬ Good S p) : mShade S K p = K := by
  unfold mShade
  rw [known_bad M hb, if_neg (by simp)]
theorem cpk_shade (I : Inv0 S) (C : CpK S K D) {p : Int} (hg : Good S p) : CpK S (mShade S K p) (uShade D p) := by
  have hM := (mi_shade I C.mi hg).1
  by_cases h0 : p = 0
  · have e1 : mShade S K p = K := by unfold mShade; rw [known_good C.mi hg, if_neg (by simp [h0])]
    have e2 : uShade D p = D := by unfold uShade; rw [if_pos (.inl h0)]
    rw [e1, e2]
    exact C
  · by_cases hs : K.seen p = true
    · have e1 : mShade S K p = K := by unfold mShade; rw [if_neg (by simp [hs])]
      have e2 : uShade D p = D := by unfold uShade; rw [if_pos (.inr ((C.sn p).1 hs))]
      rw [e1, e2]
      exact C
    · have hs' : K.seen p = false := by simpa using hs
      have hno : ¬ (p ∈ D.greys ∨ p ∈ D.black) := fun h => hs ((C.sn p).2 h)
      have e1 : mShade S K p = { mSee K p with greys := K.greys ++ [p] } := by unfold mShade; rw [known_good C.mi hg, if_pos ⟨by simp [h0], hs'⟩]
      have e2 : uShade D p = { D with greys := D.greys ++ [p] } := by unfold uShade; rw [if_neg (fun h => h.elim h0 hno)]
      rw [e1] at hM
      rw [e1, e2]
      refine ⟨hM, by show K.greys ++ [p] = D.greys ++ [p]; rw [C.gr], fun x => ?_, ?_⟩
      · show (x == p || K.seen x) = true ↔ x ∈ D.greys ++ [p] ∨ x ∈ D.black
        rw [Bool.or_eq_true, beq_iff_eq, C.sn, List.mem_append, List.mem_singleton]
        constructor
        · rintro (h | h | h)
          · exact .inl (.inr h)
          · exact .inl (.inl h)
          · exact .inr h
        · rintro ((h | h) | h)
          · exact .inr (.inl h)
          · exact .inl h
          · exact .inr (.inr h)
      · show (D.greys ++ [p] ++ D.black).Nodup
        rw [List.append_assoc]
        refine (List.perm_middle (l₁ := D.greys) (a := p) (l₂ := D.black)).nodup_iff.2 (List.nodup_cons.2 ⟨?_, C.nd⟩)
        rw [List.mem_append]
        exact hno
theorem cpk_scan (I : Inv0 S) (hS : D.S = S) (C : CpK S K D) (p mask : Int) : ∀ j, CpK S (mScan S p mask K j).1 (uScan D p mask j).1 ∧ (mScan S p mask K j).2 = (uScan D p mask j).2
  | 0 => ⟨C, rfl⟩
  | j + 1 => by
    obtain ⟨ih1, ih2⟩ := cpk_scan I hS C p mask j
    unfold mScan uScan
    rw [ih2, hS]
    by_cases h : (uScan D p mask j).2 ≠ 0 ∨ mBit mask j = false
    · rw [if_pos h, if_pos h]
      exact ⟨ih1, ih2⟩
    · rw [if_neg h, if_neg h]
      by_cases hg : Good S (sLoad S p j).1
      · rw [if_neg (by rw [(bad_iff S _).2 hg]; simp), known_good ih1.mi hg]
        exact ⟨cpk_shade I ih1 hg, rfl⟩
      · rw [if_pos ((bad_iff' S _).2 hg), known_bad ih1.mi hg, shade_bad ih1.mi hg]
        exact ⟨ih1, rfl⟩
theorem cp_step (I : Inv T.S) (H : Cp T D c) (junk : Int) (hj : -9223372036854775808 ≤ junk ∧ junk ≤ 9223372036854775807) :
    Cp (qStep T junk).1 (uStep D junk).1 (c + 1) ∧ (uStep D junk).2 = ((if (qStep T junk).2 = 0 then (qStep T junk).1.ph else 0), (qStep T junk).2) := by
  have hcb := H.cb
  have hnb := H.nb
  have hgb := H.gb
  cases H.st with
  | off ph on lf =>
    have e1 : qStep T junk = (T, 0) := by unfold qStep; rw [if_neg (by omega), if_neg (by omega)]
    have e2 : uStep D junk = (D, 0, 0) := by unfold uStep; rw [if_neg (by rw [H.ph]; omega), if_pos (by rw [H.ph]; omega)]
    rw [e1, e2]
    exact ⟨H.mono (by omega), by rw [if_pos rfl, ph]⟩
  | mark ph lf ck =>
    have e1 : qStep T junk = qMark T := by unfold qStep; rw [if_pos ph]
    have hln := ck.len I.toInv0
    rw [e1]
    rcases hg : T.K.greys with _ | ⟨p, gs⟩
    · have hgd : D.greys = [] := by rw [← ck.gr, hg]
      have e := mi_end ck.mi hg
      have hm : qMark T = ({ T with K := mOff T.K, ph := 2, left := keepP T.K.seen (sAll T.S) }, 0) := by
        unfold qMark
        rw [e, if_neg (by simp)]
      have hu : uLook D = (D, false, 0) := by unfold uLook; rw [hgd]
      have e2 : uStep D junk = ({ D with left := uWhite D, ph := 2 }, 2, 0) := by
        unfold uStep
        rw [if_pos (by rw [H.ph, ph]), hu, if_neg (by simp), if_neg (by simp)]
      have hw : uWhite D = keepP T.K.seen (sAll T.S) := by
        unfold uWhite keepP
        rw [H.S]
        refine List.filter_congr fun x _ => ?_
        have hs := ck.sn x
        rw [hgd] at hs
        by_cases hb : x ∈ D.black
        · rw [hs.2 (.inr hb), decide_eq_false (fun h => h hb)]; rfl
        · have : T.K.seen x = false := by
            rw [Bool.eq_false_iff]
            intro h
            exact (hs.1 h).elim (fun h => by cases h) hb
          rw [this, decide_eq_true hb]; rfl
      rw [hm, e2]
      refine ⟨⟨H.S, rfl, hw, H.cy, by show 0 ≤ T.cyc ∧ T.cyc ≤ ((c + 1 : Nat) : Int); omega, by show T.S.objs.length ≤ c + 1; omega, by show D.greys.length ≤ c + 1 ∧ D.black.length ≤ c + 1; omega, .sweep rfl rfl ?_ fun x hx => ?_⟩, rfl⟩
      · exact List.Nodup.sublist List.filter_sublist (all_nodup I.toInv0)
      · exact (mis_all I.toInv0 x).2 (List.mem_filter.1 hx).1
    · have hgd : D.greys = p :: gs := by rw [← ck.gr, hg]
      have ck0 : CpK T.S { T.K with greys := gs } (uTake D p gs) := by
        refine ⟨⟨ck.mi.on, ck.mi.obj, fun x hx => ck.mi.sn x (by rw [hg]; exact List.mem_cons_of_mem _ hx)⟩, rfl, fun x => ?_, ?_⟩
        · show T.K.seen x = true ↔ x ∈ gs ∨ x ∈ D.black ++ [p]
          rw [ck.sn, hgd, List.mem_cons, List.mem_append, List.mem_singleton]
          constructor
          · rintro ((h | h) | h)
            · exact .inr (.inr h)
            · exact .inl h
            · exact .inr (.inl h)
          · rintro (h | h | h)
            · exact .inl (.inr h)
            · exact .inr h
            · exact .inl (.inl h)
        · show (gs ++ (D.black ++ [p])).Nodup
          have h1 := ck.nd
          rw [hgd] at h1
          rw [← List.append_assoc]
          exact (List.perm_append_singleton p (gs ++ D.black)).nodup_iff.2 h1
      obtain ⟨c1, c2⟩ := cpk_scan I.toInv0 (D := uTake D p gs) H.S ck0 p (sSize T.S p).2.1 (sSize T.S p).1.toNat
      obtain ⟨s1, s2, s3, s4, s5⟩ := uscan_same (uTake D p gs) p (sSize T.S p).2.1 (sSize T.S p).1.toNat
      have hst : mStep T.S T.K = (if (mScan T.S p (sSize T.S p).2.1 { T.K with greys := gs } (sSize T.S p).1.toNat).2 = 0 then ((true, 0), (mScan T.S p (sSize T.S p).2.1 { T.K with greys := gs } (sSize T.S p).1.toNat).1) else ((false, (mScan T.S p (sSize T.S p).2.1 { T.K with greys := gs } (sSize T.S p).1.toNat).2), (mScan T.S p (sSize T.S p).2.1 { T.K with greys := gs } (sSize T.S p).1.toNat).1)) := by
        unfold mStep
        rw [if_neg (by rw [ck.mi.on]; simp), hg]
      have hul : uLook D = (if (uScan (uTake D p gs) p (sSize T.S p).2.1 (sSize T.S p).1.toNat).2 = 0 then ((uScan (uTake D p gs) p (sSize T.S p).2.1 (sSize T.S p).1.toNat).1, true, 0) else ((uScan (uTake D p gs) p (sSize T.S p).2.1 (sSize T.S p).1.toNat).1, false, (uScan (uTake D p gs) p (sSize T.S p).2.1 (sSize T.S p).1.toNat).2)) := by
        unfold uLook
        rw [hgd, H.S]
      rw [← c2] at hul
      generalize mScan T.S p (sSize T.S p).2.1 { T.K with greys := gs } (sSize T.S p).1.toNat = X at *
      generalize uScan (uTake D p gs) p (sSize T.S p).2.1 (sSize T.S p).1.toNat = Y at *
      have hcp : Cp { T with K := X.1 } Y.1 (c + 1) := by
        have hl := c1.len I.toInv0
        exact ⟨s1.trans H.S, s2.trans H.ph, s3.trans H.lf, s4.trans H.cy, by show 0 ≤ T.cyc ∧ T.cyc ≤ ((c + 1 : Nat) : Int); omega, by show T.S.objs.length ≤ c + 1; omega, by omega, .mark ph lf c1⟩
      by_cases hx : X.2 = 0
      · rw [if_pos hx] at hst hul
        have hm : qMark T = ({ T with K := X.1 }, 0) := by
          unfold qMark
          rw [hst, if_pos (.inl rfl)]
        have e2 : uStep D junk = (Y.1, 1, 0) := by
          unfold uStep
          rw [if_pos (by rw [H.ph, ph]), hul, if_neg (by simp), if_pos rfl]
        rw [hm, e2]
        exact ⟨hcp, by rw [if_pos rfl]; show (1, 0) = (T.ph, 0); rw [ph]⟩
      · rw [if_neg hx] at hst hul
        have hm : qMark T = ({ T with K := X.1 }, X.2) := by
          unfold qMark
          rw [hst, if_pos (.inr hx)]
        have e2 : uStep D junk = (Y.1, 0, X.2) := by
          unfold uStep
          rw [if_pos (by rw [H.ph, ph]), hul, if_pos hx]
        rw [hm, e2]
        exact ⟨hcp, by rw [if_neg hx]⟩
  | sweep ph on nd lo =>
    have e1 : qStep T junk = qSweep T junk := by unfold qStep; rw [if_neg (by omega), if_pos ph]
    rw [e1]
    obtain ⟨S, K, ph', left, cyc⟩ := T
    have hD := H.S
    have hlf := H.lf
    have hcy := H.cy
    have hph := H.ph
    dsimp only at *
    rcases left with _ | ⟨x, l⟩
    · have e2 : uStep D junk = ({ D with ph := 0, cyc := D.cyc + 1 }, 0, 0) := by
        unfold uStep
        rw [if_neg (by rw [hph]; omega), if_neg (by rw [hph]; omega), hlf]
      rw [e2]
      refine ⟨⟨hD, rfl, hlf, ?_, ?_, by show S.objs.length ≤ c + 1; omega, by show D.greys.length ≤ c + 1 ∧ D.black.length ≤ c + 1; omega, .off rfl on rfl⟩, rfl⟩
      · show D.cyc + 1 = cyc + 1
        rw [hcy]
      · show 0 ≤ cyc + 1 ∧ cyc + 1 ≤ ((c + 1 : Nat) : Int)
        omega
    · rw [List.nodup_cons] at nd
      have hx := lo x (by simp)
      obtain ⟨o, ho, rfl⟩ := (mis_mem I.toInv0 x).1 hx
      have hf := free_ok I.toInv0 ho junk
      have e2 : uStep D junk = ({ D with S := (sFree S o.1 junk).1, left := l }, 2, 0) := by
        unfold uStep
        rw [if_neg (by rw [hph]; omega), if_neg (by rw [hph]; omega), hlf, hD]
        dsimp only
        rw [if_neg (by rw [hf.1]; simp)]
      rw [e2]
      refine ⟨⟨rfl, hph, rfl, hcy, by show 0 ≤ cyc ∧ cyc ≤ ((c + 1 : Nat) : Int); omega, ?_, by show D.greys.length ≤ c + 1 ∧ D.black.length ≤ c + 1; omega, .sweep ph on nd.2 (fun y hy => mis_free I hx (lo y (List.mem_cons_of_mem _ hy)) (fun e => nd.1 (e ▸ hy)) hj)⟩, ?_⟩
      · show (sFree S o.1 junk).1.objs.length ≤ c + 1
        rw [hf.2.2]
        have := List.length_filter_le (fun x => !(x.1 == o.1)) S.objs
        omega
      · show (2, 0) = ((if (sFree S o.1 junk).2 = 0 then ph' else 0), (sFree S o.1 junk).2)
        rw [hf.1, if_pos rfl, ph]
theorem cp_shade (I : Inv0 T.S) (H : Cp T D c) {p : Int} (hg : Good T.S p) : Cp (qShade T p) (uSh D p).1 (c + 1) ∧ (uSh D p).2 = (mKnown T.S T.K p).2 := by
  have hsz : (sSize D.S p).2.2 = mIs T.S p := by rw [H.S]; rfl
  have hoff : T.K.on = false → T.ph ≠ 1 → Cp (qShade T p) (uSh D p).1 (c + 1) ∧ (uSh D p).2 = (mKnown T.S T.K p).2 := fun on hp => by
    have hk : mKnown T.S T.K p = (false, 0) := by unfold mKnown; rw [if_pos (.inl on)]
    have e1 : qShade T p = T := by unfold qShade mShade; rw [hk, if_neg (by simp)]
    have e2 : uSh D p = (D, 0) := by unfold uSh; rw [if_pos (.inl (by rw [H.ph]; exact hp))]
    rw [e1, e2, hk]
    exact ⟨H.mono (by omega), rfl⟩
  cases H.st with
  | off ph on lf => exact hoff on (by omega)
  | sweep ph on nd lo => exact hoff on (by omega)
  | mark ph lf ck =>
    have hcb := H.cb
    have hnb := H.nb
    have ck' := cpk_shade I ck hg
    have hln := ck'.len I
    obtain ⟨s1, s2, s3, s4, s5⟩ := ushade_same D p
    have hk := known_good ck.mi hg
    have hcp : Cp (qShade T p) (uShade D p) (c + 1) := ⟨s1.trans H.S, s2.trans H.ph, s3.trans H.lf, s4.trans H.cy, by show 0 ≤ T.cyc ∧ T.cyc ≤ ((c + 1 : Nat) : Int); omega, by show T.S.objs.length ≤ c + 1; omega, by omega, .mark ph lf ck'⟩
    rw [hk]
    by_cases h0 : p = 0
    · have e2 : uSh D p = (D, 0) := by unfold uSh; rw [if_pos (.inr h0)]
      have e3 : uShade D p = D := by unfold uShade; rw [if_pos (.inl h0)]
      rw [e2]
      rw [e3] at hcp
      exact ⟨hcp, rfl⟩
    · have e2 : uSh D p = (uShade D p, 0) := by
        unfold uSh
        rw [if_neg (fun h => h.elim (fun h => h (by rw [H.ph, ph])) h0), if_neg (by rw [hsz, hg.resolve_left h0]; simp)]
      rw [e2]
      exact ⟨hcp, rfl⟩
theorem known_off {S : HS} (on : K.on = false) (p : Int) : mKnown S K p = (false, 0) := by unfold mKnown; rw [if_pos (.inl on)]
/-- A word is put: colours hang on no words. -/
theorem cpk_store (I : Inv0 S) (I' : Inv0 S') (ho : S'.objs = S.objs) (C : CpK S K D) {D' : DS} (hg : D'.greys = D.greys) (hb : D'.black = D.black) : CpK S' K D' := by
  have hm : ∀ x, mIs S x = true → mIs S' x = true := fun x hx => by
    obtain ⟨o, h1, h2⟩ := (mis_mem I x).1 hx
    exact (mis_mem I' x).2 ⟨o, by rw [ho]; exact h1, h2⟩
  exact ⟨⟨C.mi.on, fun x hx => hm x (C.mi.obj x hx), C.mi.sn⟩, by rw [hg]; exact C.gr, fun x => by rw [hg, hb]; exact C.sn x, by rw [hg, hb]; exact C.nd⟩
theorem cp_stored (I : Inv T.S) (H : Cp T D c) (p f : Int) {to : Int} (hg : Good T.S to) : Cp { T with S := sStore T.S p f to } { D with S := sStore T.S p f to } c := by
  have hb := good_bd I.toInv0 hg
  have I' := store_inv I p f (x := to) (by omega)
  have ho := store_objs T.S p f to
  refine ⟨rfl, H.ph, H.lf, H.cy, H.cb, by show (sStore T.S p f to).objs.length ≤ c; rw [ho]; exact H.nb, H.gb, ?_⟩
  cases H.st with
  | off ph on lf => exact .off ph on lf
  | mark ph lf ck => exact .mark ph lf (cpk_store I.toInv0 I'.toInv0 ho ck rfl rfl)
  | sweep ph on nd lo =>
    refine .sweep ph on nd fun x hx => ?_
    obtain ⟨o, h1, h2⟩ := (mis_mem I.toInv0 x).1 (lo x hx)
    exact (mis_mem I'.toInv0 x).2 ⟨o, (by show o ∈ (sStore T.S p f to).objs; rw [ho]; exact h1), h2⟩
theorem sthere_er (S : HS) (p f : Int) : sThere S p f = 0 ∨ sThere S p f = 11 := by
  unfold sThere
  split
  · exact .inr rfl
  · exact .inl rfl
theorem sload_er (S : HS) (p f : Int) : (sLoad S p f).2 = 0 ∨ (sLoad S p f).2 = 11 := by
  have h := sthere_er S p f
  unfold sLoad
  split
  · exact .inl rfl
  · exact h
theorem cp_put (I : Inv T.S) (H : Cp T D c) (p f : Int) {to : Int} (hg : Good T.S to) : Cp (qPut T p f to true).1 (uPut D p f to).1 (c + 1) ∧ (uPut D p f to).2 = (qPut T p f to true).2 := by
  have hto : to = 0 ∨ (sSize T.S to).2.2 = true := hg
  have hto' : ¬ (to ≠ 0 ∧ (sSize T.S to).2.2 = false) := fun h => hto.elim h.1 fun e => by rw [h.2] at e; cases e
  by_cases h1 : (sLoad T.S p f).2 = 0
  case neg =>
    have e1 : qPut T p f to true = (T, (sLoad T.S p f).2) := by unfold qPut; rw [if_pos h1]
    have e2 : uPut D p f to = (D, 11) := by unfold uPut; rw [H.S, if_pos (.inl h1)]
    rw [e1, e2]
    exact ⟨H.mono (by omega), ((sload_er T.S p f).resolve_left h1).symm⟩
  have h2 : ¬ ((sLoad T.S p f).2 ≠ 0 ∨ ¬ (to = 0 ∨ (sSize T.S to).2.2 = true)) := fun h => h.elim (fun h => h h1) fun h => h hto
  by_cases h3 : mBit (sSize T.S p).2.1 f.toNat = false
  · have e1 : qPut T p f to true = (T, 2) := by unfold qPut; rw [if_neg (by omega), if_neg hto', if_pos h3]
    have e2 : uPut D p f to = (D, 2) := by unfold uPut; rw [H.S, if_neg h2, if_pos h3]
    rw [e1, e2]
    exact ⟨H.mono (by omega), rfl⟩
  have e1 : qPut T p f to true = if (mKnown T.S T.K (sLoad T.S p f).1).2 ≠ 0 then (qShade T (sLoad T.S p f).1, (mKnown T.S T.K (sLoad T.S p f).1).2) else ({ qShade T (sLoad T.S p f).1 with S := sStore T.S p f to }, 0) := by
    unfold qPut
    rw [if_neg (by omega), if_neg hto', if_neg h3, if_neg (by simp)]
  have e2 : uPut D p f to = if (uSh D (sLoad T.S p f).1).2 ≠ 0 then (D, (uSh D (sLoad T.S p f).1).2) else ({ (uSh D (sLoad T.S p f).1).1 with S := sStore (uSh D (sLoad T.S p f).1).1.S p f to }, 0) := by
    unfold uPut
    rw [H.S, if_neg h2, if_neg h3]
  rw [e1, e2, uSh_S, H.S]
  generalize (sLoad T.S p f).1 = x
  by_cases hx : Good T.S x
  · obtain ⟨c1, c2⟩ := cp_shade I.toInv0 H hx
    have hk : (mKnown T.S T.K x).2 = 0 := by
      cases H.st with
      | off ph on lf => rw [known_off on]
      | sweep ph on nd lo => rw [known_off on]
      | mark ph lf ck => rw [known_good ck.mi hx]
    rw [c2, hk, if_neg (by simp), if_neg (by simp)]
    exact ⟨cp_stored (T := qShade T x) I c1 p f hg, rfl⟩
  · cases H.st with
    | off ph on lf =>
      have e3 : uSh D x = (D, 0) := by unfold uSh; rw [if_pos (.inl (by rw [H.ph]; omega))]
      have e4 : qShade T x = T := by unfold qShade mShade; rw [known_off on, if_neg (by simp)]
      rw [e3, known_off on, e4, if_neg (by simp), if_neg (by simp)]
      exact ⟨(cp_stored I H p f hg).mono (by omega), rfl⟩
    | sweep ph on nd lo =>
      have e3 : uSh D x = (D, 0) := by unfold uSh; rw [if_pos (.inl (by rw [H.ph]; omega))]
      have e4 : qShade T x = T := by unfold qShade mShade; rw [known_off on, if_neg (by simp)]
      rw [e3, known_off on, e4, if_neg (by simp), if_neg (by simp)]
      exact ⟨(cp_stored I H p f hg).mono (by omega), rfl⟩
    | mark ph lf ck =>
      have e3 : uSh D x = (D, 11) := by
        unfold uSh
        rw [if_neg (fun h => h.elim (fun h => h (by rw [H.ph, ph])) fun h => hx (.inl h)), if_pos]
        rw [H.S]
        cases hm : (sSize T.S x).2.2 with
        | false => rfl
        | true => exact absurd (.inr hm) hx
      have e4 : qShade T x = T := by unfold qShade; rw [shade_bad ck.mi hx]
      rw [e3, known_bad ck.mi hx, e4, if_pos (by simp), if_pos (by simp)]
      exact ⟨H.mono (by omega), rfl⟩
theorem cp_alloc (I : Inv T.S) (H : Cp T D c) : Cp (qAlloc T 2 3 0).1 (uAlloc D 2 3 0).1 (c + 1) ∧ (uAlloc D 2 3 0).2 = (qAlloc T 2 3 0).2 := by
  have hcb := H.cb
  have hnb := H.nb
  have hgb := H.gb
  unfold uAlloc qAlloc
  rw [H.S]
  rcases alloc2 I with ⟨S', p, e, A, _⟩ | ⟨e, _⟩
  · rw [e, if_pos rfl, if_neg (by simp)]
    have hm : ∀ o, o ∈ S'.objs ↔ o = (p, 2, 3) ∨ o ∈ T.S.objs := fun o => by rw [A.objs, ins_mem]
    have hpo : mIs S' p = true := (mis_mem A.inv.toInv0 p).2 ⟨_, (hm _).2 (.inl rfl), rfl⟩
    have hp0 := mis_pos A.inv.toInv0 hpo
    have mono : ∀ x, mIs T.S x = true → mIs S' x = true := fun x hx => by
      obtain ⟨o, ho, e⟩ := (mis_mem I.toInv0 x).1 hx
      exact (mis_mem A.inv.toInv0 x).2 ⟨o, (hm o).2 (.inr ho), e⟩
    have hnew : mIs T.S p ≠ true := fun hx => by
      obtain ⟨o, ho, e⟩ := (mis_mem I.toInv0 p).1 hx
      exact A.no o ho e
    have hlen : S'.objs.length = T.S.objs.length + 1 := by rw [A.objs, ins_len]
    have hoff : T.K.on = false → mKnown S' T.K p = (false, 0) ∧ mMade S' T.K p = T.K := fun ho => ⟨known_off ho p, by unfold mMade; rw [known_off ho, if_neg (by simp)]⟩
    dsimp only
    cases H.st with
    | off ph on lf =>
      rw [(hoff on).1, (hoff on).2, if_neg (by rw [H.ph]; omega)]
      exact ⟨⟨rfl, H.ph, H.lf, H.cy, by show 0 ≤ T.cyc ∧ T.cyc ≤ ((c + 1 : Nat) : Int); omega, by show S'.objs.length ≤ c + 1; omega, by show D.greys.length ≤ c + 1 ∧ D.black.length ≤ c + 1; omega, .off ph on lf⟩, rfl⟩
    | sweep ph on nd lo =>
      rw [(hoff on).1, (hoff on).2, if_neg (by rw [H.ph]; omega)]
      exact ⟨⟨rfl, H.ph, H.lf, H.cy, by show 0 ≤ T.cyc ∧ T.cyc ≤ ((c + 1 : Nat) : Int); omega, by show S'.objs.length ≤ c + 1; omega, by show D.greys.length ≤ c + 1 ∧ D.black.length ≤ c + 1; omega, .sweep ph on nd fun x hx => mono x (lo x hx)⟩, rfl⟩
    | mark ph lf ck =>
      have hk : mKnown S' T.K p = (true, 0) := by
        unfold mKnown
        rw [if_neg (fun h => h.elim (fun h => by rw [ck.mi.on] at h; cases h) fun h => by omega), if_pos hpo]
      have hno : p ∉ D.greys ∧ p ∉ D.black := ⟨fun h => hnew (ck.mi.obj p ((ck.sn p).2 (.inl h))), fun h => hnew (ck.mi.obj p ((ck.sn p).2 (.inr h)))⟩
      have hgk : keepP (fun x => x == p) T.K.greys = T.K.greys := keepP_all fun x hx => by
        rw [beq_eq_false_iff_ne]
        intro e
        exact hno.1 (by rw [← e, ← ck.gr]; exact hx)
      have hmd : mMade S' T.K p = mSee T.K p := by
        unfold mMade
        rw [hk, if_pos rfl, hgk]
        rfl
      have ck' : CpK S' (mSee T.K p) { D with S := S', black := D.black ++ [p] } := by
        refine ⟨⟨ck.mi.on, fun x hx => ?_, fun x hx => ?_⟩, ck.gr, fun x => ?_, ?_⟩
        · have hx : (x == p || T.K.seen x) = true := hx
          rw [Bool.or_eq_true, beq_iff_eq] at hx
          exact hx.elim (fun e => e ▸ hpo) fun h => mono x (ck.mi.obj x h)
        · show (x == p || T.K.seen x) = true
          rw [ck.mi.sn x hx]
          simp
        · show (x == p || T.K.seen x) = true ↔ x ∈ D.greys ∨ x ∈ D.black ++ [p]
          rw [Bool.or_eq_true, beq_iff_eq, ck.sn, List.mem_append, List.mem_singleton]
          constructor
          · rintro (h | h | h)
            · exact .inr (.inr h)
            · exact .inl h
            · exact .inr (.inl h)
          · rintro (h | h | h)
            · exact .inr (.inl h)
            · exact .inr (.inr h)
            · exact .inl h
        · show (D.greys ++ (D.black ++ [p])).Nodup
          rw [← List.append_assoc]
          exact (List.perm_append_singleton p (D.greys ++ D.black)).nodup_iff.2 (List.nodup_cons.2 ⟨fun h => (List.mem_append.1 h).elim hno.1 hno.2, ck.nd⟩)
      have hl := ck'.len A.inv.toInv0
      rw [hk, hmd, if_pos (by rw [H.ph, ph])]
      refine ⟨⟨rfl, H.ph, H.lf, H.cy, by show 0 ≤ T.cyc ∧ T.cyc ≤ ((c + 1 : Nat) : Int); omega, by show S'.objs.length ≤ c + 1; omega, ?_, .mark ph lf ck'⟩, rfl⟩
      show D.greys.length ≤ c + 1 ∧ (D.black ++ [p]).length ≤ c + 1
      rw [List.length_append, List.length_singleton]
      omega
  · rw [e, if_neg (by simp), if_pos (by simp)]
    refine ⟨?_, rfl⟩
    have := H.mono (d := c + 1) (by omega)
    exact this
theorem cpk_fold (I : Inv0 S) : ∀ (l : List Int) (K : MK) (D : DS), CpK S K D → (∀ x ∈ l, Good S x) → CpK S (l.foldl (mShade S) K) (l.foldl uShade D)
  | [], K, D, C, _ => C
  | x :: l, K, D, C, h => cpk_fold I l _ _ (cpk_shade I C (h x (by simp))) fun y hy => h y (List.mem_cons_of_mem _ hy)
theorem cp_begin (I : Inv T.S) (H : Cp T D c) (l : List Int) (hl : ∀ x ∈ l, Good T.S x) : Cp (qBegin T l).1 (uBegin D l).1 (c + 1) ∧ (uBegin D l).2 = (qBegin T l).2 := by
  have hcb := H.cb
  have hnb := H.nb
  have hnz : T.ph ≠ 0 → Cp (qBegin T l).1 (uBegin D l).1 (c + 1) ∧ (uBegin D l).2 = (qBegin T l).2 := fun h => by
    have e1 : qBegin T l = (T, 8) := by unfold qBegin; rw [if_pos h]
    have e2 : uBegin D l = (D, 8) := by unfold uBegin; rw [if_pos (by rw [H.ph]; exact h)]
    rw [e1, e2]
    exact ⟨H.mono (by omega), rfl⟩
  cases H.st with
  | mark ph lf ck => exact hnz (by omega)
  | sweep ph on nd lo => exact hnz (by omega)
  | off ph on lf =>
    have e1 : qBegin T l = ({ T with K := l.foldl (mShade T.S) mStart, ph := 1 }, 0) := by
      unfold qBegin
      rw [if_neg (by omega), begin_good I.toInv0 T.K on l hl, if_pos rfl]
    have e2 : uBegin D l = (l.foldl uShade (uStart D), 0) := by
      unfold uBegin
      rw [if_neg (by rw [H.ph]; omega), if_neg]
      rw [List.any_eq_true]
      rintro ⟨x, hx, hb⟩
      rw [H.S] at hb
      exact (bad_iff' T.S x).1 hb (hl x hx)
    have ck0 : CpK T.S mStart (uStart D) := ⟨mi_start, rfl, fun x => ⟨fun h => (by cases h), fun h => h.elim (fun h => by cases h) fun h => by cases h⟩, List.nodup_nil⟩
    have ck := cpk_fold I.toInv0 l _ _ ck0 hl
    have hln := ck.len I.toInv0
    obtain ⟨s1, s2, s3, s4, s5⟩ := ufold_same l (uStart D)
    rw [e1, e2]
    refine ⟨⟨s1.trans H.S, s2, s3.trans H.lf, s4.trans H.cy, by show 0 ≤ T.cyc ∧ T.cyc ≤ ((c + 1 : Nat) : Int); omega, by show T.S.objs.length ≤ c + 1; omega, ?_, .mark rfl lf ck⟩, rfl⟩
    dsimp only at hln ⊢
    omega
end
end Go.Proofs.YtcaboknbdamlhaaGreatDoor
namespace Go.Proofs.YtcaboknbdamlhaaGreatDoor
open Go.RowKit Go.Shelf
section
variable {w0 : W0} {w w' w1 : World} {q s h m : Nat} {T : SS} {D : DS}
/-- Begin, behind a list that is kept. -/
theorem lx_beginG (H : LX (w0.guard w w1) w' q s h m T D) (vr : Value) (l : List Int) (hv : Rd i64e w' vr l) (hl : l.length ≤ 4096) (hbd : ∀ x ∈ l, -9223372036854775808 ≤ x ∧ x ≤ 9223372036854775807) (hf : ∀ b, vr.ownBlock = some b → w.heap.size ≤ b ∧ b < w1.heap.size) :
    Calls Tryz.prog 18 #[.pointer (some ⟨s, 0, none⟩), vr] w' fun e w9 => e = .returned (.int .i64 (qBegin T l).2) ∧ LX (w0.guard w w1) w9 q s h m (qBegin T l).1 D :=
  H.callQ (P := fun e _ => e = .returned (.int .i64 (qBegin T l).2)) (T' := (qBegin T l).1) fun v0 hQ L => ls_beginQ L vr l hv hl hbd fun b e hfr => hfr.2 (hQ b (.inr (hf b e)))
set_option maxHeartbeats 6400000 in
set_option maxRecDepth 100000 in
theorem sdoes_begin (H : LX w0 w q s h m T D) (ID : Inv D.S) (hS : D.S = T.S) (rl : List Int) (kind xa xb xk x : Int) (Av : Option Addr) (nv cv : Nat) (hx : ABd kind xa xb xk x) (hk : kind % 8 = 0) (hrd : Rd u8e w (.slice Av nv cv) rl) (hrb : ∀ n ∈ rl, 0 ≤ n ∧ n ≤ 255) (hrl : rl.length ≤ 20) :
    Calls Tryz.prog 12 #[.pointer (some ⟨q, 0, none⟩), .agg #[.int .u8 kind, .int .u8 xa, .int .u8 xb, .int .u8 xk, .slice Av nv cv, .int .i64 x]] w (DidX w0 q s h m (qBegin T (rl.map (objN T.S))).1 (uBegin D (rl.map (objN T.S))).1 ((uBegin D (rl.map (objN T.S))).2 = (qBegin T (rl.map (objN T.S))).2)) := by
  have hd := hx.kind
  have hkk := hx.k
  have hxx := Lib.hid hx.x
  obtain ⟨a, ha⟩ : ∃ a, objN T.S xa = a := ⟨_, rfl⟩
  obtain ⟨b, hb⟩ : ∃ b, objN T.S xb = b := ⟨_, rfl⟩
  have hab := Lib.hid (objN_bd H.inv.toInv0 xa)
  have hbb := Lib.hid (objN_bd H.inv.toInv0 xb)
  rw [ha] at hab
  rw [hb] at hbb
  obtain ⟨wu, hwu⟩ : ∃ wu : W0, wu = w0 := ⟨_, rfl⟩
  rw [← hwu]
  replace H := Lib.hid H
  replace hx := Lib.hid hx
  replace ID := Lib.hid ID
  have HRD := Lib.hid hrd
  replace hrb := Lib.hid hrb
  have hI := H.out.inv
  obtain ⟨l, hl⟩ : ∃ l, l = rl.map (objN T.S) := ⟨_, rfl⟩
  have hll : l.length = rl.length := by rw [hl, List.length_map]
  have hlg : ∀ x ∈ l, Good T.S x := fun x hx => by
    rw [hl, List.mem_map] at hx
    obtain ⟨n, _, rfl⟩ := hx
    exact objN_good hI.toInv0 n
  rw [← hl]
  obtain ⟨⟨D1, r1⟩, hD1⟩ : ∃ r, uBegin D l = r := ⟨_, rfl⟩
  obtain ⟨⟨T1, r2⟩, hT1⟩ : ∃ r, qBegin T l = r := ⟨_, rfl⟩
  rw [hD1, hT1]
  dsimp only
  have hlb : Hid (∀ x ∈ l, mBad D.S x = false) := Lib.hid fun x hx => by rw [hS]; exact (bad_iff T.S x).2 (hlg x hx)
  have hlz : Hid (∀ x ∈ l, -9223372036854775808 ≤ x ∧ x ≤ 9223372036854775807) := Lib.hid fun x hx => by have := good_bd hI.toInv0 (hlg x hx); omega
  replace hl := Lib.hid hl
  replace hlg := Lib.hid hlg
  replace hD1 := Lib.hid hD1
  replace hT1 := Lib.hid hT1
  replace hS := Lib.hid hS
  replace hll := Lib.hid hll
  clear hI hrd
  go_enter Tryz.func12, Tryz.ntmps12
  go_wp2_with (refine wpList_new rfl (.box 30 (.tmp 1)) rfl w.heap.size rfl 30 #[.int .u8 kind, .int .u8 xa, .int .u8 xb, .int .u8 xk, .slice Av nv cv, .int .i64 x] (by kernel_rfl) ?_; intro w1 hs1 hb1 hB1; refine stop_here ?_)
  have e1 : w1.cell? ⟨w.heap.size, 1, none⟩ = some (.int .u8 xa) := hB1.cell 1
  have e2 : w1.cell? ⟨w.heap.size, 2, none⟩ = some (.int .u8 xb) := hB1.cell 2
  have HO1 := Lib.hid fun wx (hb : Below w.heap.size w wx) => lx_object (H.out.below hb) xa hx.out.a
  have HO2 := Lib.hid fun wx (hb : Below w.heap.size w wx) => lx_object (H.out.below hb) xb hx.out.b
  rw [ha] at HO1
  rw [hb] at HO2
  have hgl := hB1.lt
  obtain ⟨g, hg⟩ : ∃ g, g = w.heap.size := ⟨_, rfl⟩
  rw [← hg] at e1 e2 hgl hB1 ⊢
  replace hg := Lib.hid hg
  replace hB1 := Lib.hid hB1
  replace ha := Lib.hid ha
  replace hb := Lib.hid hb
  refine go_on ?_
  go_wp2_with fail
  have hS0 : (fun X : World => Below w1.heap.size w1 X) w1.drew := (Below.refl _ _).drew
  refine wp_T (by kernel_rfl) 10 (fun X : World => Below w1.heap.size w1 X) ?_
  refine wpAnyT_takeA (i := 0) (v := .pointer (some ⟨q, 0, none⟩)) rfl (by kernel_rfl) rfl (fun _ _ _ hp => hp) (Or.inl ⟨by kernel_rfl, fun X _ => by go_simp⟩) hS0 ?_
  simp only [Act.put, List.getElem_toArray, List.getElem_cons_succ, List.getElem_cons_zero, List.setIfInBounds_toArray, List.set_cons_zero, List.set_cons_succ]
  refine wpAnyT_takeA (i := 1) (v := .pointer (some ⟨g, 1, none⟩)) rfl (by kernel_rfl) rfl (fun _ _ _ hp => hp) (Or.inl ⟨by kernel_rfl, fun X _ => by go_simp⟩) hS0 ?_
  simp only [Act.put, List.getElem_toArray, List.getElem_cons_succ, List.getElem_cons_zero, List.setIfInBounds_toArray, List.set_cons_zero, List.set_cons_succ]
  refine wpAnyT_takeA (i := 4) (v := .pointer (some ⟨q, 0, none⟩)) rfl (by kernel_rfl) rfl (fun _ _ _ hp => hp) (Or.inl ⟨by kernel_rfl, fun X _ => by go_simp⟩) hS0 ?_
  simp only [Act.put, List.getElem_toArray, List.getElem_cons_succ, List.getElem_cons_zero, List.setIfInBounds_toArray, List.set_cons_zero, List.set_cons_succ]
  refine wpAnyT_takeA (i := 5) (v := .pointer (some ⟨g, 2, none⟩)) rfl (by kernel_rfl) rfl (fun _ _ _ hp => hp) (Or.inl ⟨by kernel_rfl, fun X _ => by go_simp⟩) hS0 ?_
  simp only [Act.put, List.getElem_toArray, List.getElem_cons_succ, List.getElem_cons_zero, List.setIfInBounds_toArray, List.set_cons_zero, List.set_cons_succ]
  refine wpAnyT_takeA (i := 2) (v := .int .u8 xa) rfl (by kernel_rfl) rfl (fun _ _ _ hp => hp) (Or.inl ⟨by kernel_rfl, fun X hX => by have hX1 : (fun X : World => Below w1.heap.size w1 X) X := hX; have y1 := (Below.cell (p := ⟨g, 1, none⟩) hX1 hgl).trans e1; go_simp⟩) hS0 ?_
  simp only [Act.put, List.getElem_toArray, List.getElem_cons_succ, List.getElem_cons_zero, List.setIfInBounds_toArray, List.set_cons_zero, List.set_cons_succ]
  refine wpAnyT_takeA (i := 6) (v := .int .u8 xb) rfl (by kernel_rfl) rfl (fun _ _ _ hp => hp) (Or.inl ⟨by kernel_rfl, fun X hX => by have hX1 : (fun X : World => Below w1.heap.size w1 X) X := hX; have y1 := (Below.cell (p := ⟨g, 2, none⟩) hX1 hgl).trans e2; go_simp⟩) hS0 ?_
  simp only [Act.put, List.getElem_toArray, List.getElem_cons_succ, List.getElem_cons_zero, List.setIfInBounds_toArray, List.set_cons_zero, List.set_cons_succ]
  refine wpAnyT_one (i := 3) rfl (by kernel_rfl) (by kernel_rfl) ?_
  intro K1 hK1
  go_simp
  refine (HO1.out _ (hb1.trans (Below.mono hS0 hb1.size))).mono ?_
  rintro e w2 ⟨rfl, bb0⟩
  dsimp only
  have hS1 : (fun X : World => Below w1.heap.size w1 X) w2 := Below.trans hS0 (Below.mono bb0 (Below.size hS0))
  refine hK1.out _ _ (fun _ => hS1) ?_
  (try simp only [Act.put, List.getElem_toArray, List.getElem_cons_succ, List.getElem_cons_zero, List.setIfInBounds_toArray, List.set_cons_zero, List.set_cons_succ])
  refine wpAnyT_one (i := 7) rfl (by kernel_rfl) (by kernel_rfl) ?_
  intro K2 hK2
  go_simp
  refine (HO2.out _ (hb1.trans (Below.mono hS1 hb1.size))).mono ?_
  rintro e w3 ⟨rfl, bb1⟩
  dsimp only
  have hS2 : (fun X : World => Below w1.heap.size w1 X) w3 := Below.trans hS1 (Below.mono bb1 (Below.size hS1))
  refine hK2.out _ _ (fun _ => hS2) ?_
  (try simp only [Act.put, List.getElem_toArray, List.getElem_cons_succ, List.getElem_cons_zero, List.setIfInBounds_toArray, List.set_cons_zero, List.set_cons_succ])
  refine wpAnyT_takeA (i := 8) (v := .int .i64 a) rfl (by kernel_rfl) rfl (fun _ _ _ hp => hp) (Or.inl ⟨by kernel_rfl, fun X _ => by go_simp⟩) hS2 ?_
  simp only [Act.put, List.getElem_toArray, List.getElem_cons_succ, List.getElem_cons_zero, List.setIfInBounds_toArray, List.set_cons_zero, List.set_cons_succ]
  refine wpAnyT_takeA (i := 9) (v := .int .i64 b) rfl (by kernel_rfl) rfl (fun _ _ _ hp => hp) (Or.inl ⟨by kernel_rfl, fun X _ => by go_simp⟩) hS2 ?_
  simp only [Act.put, List.getElem_toArray, List.getElem_cons_succ, List.getElem_cons_zero, List.setIfInBounds_toArray, List.set_cons_zero, List.set_cons_succ]
  refine wpAnyT_done (by kernel_rfl) ?_ _
  (try simp only [Act.put, List.getElem_toArray, List.getElem_cons_succ, List.getElem_cons_zero, List.setIfInBounds_toArray, List.set_cons_zero, List.set_cons_succ])
  clear hK1 K1 hK2 K2
  have b3 : Below w.heap.size w w3 := hb1.trans (Below.mono hS2 hb1.size)
  clear bb0 bb1
  have Hg := Lib.hid (H.out.guard b3)
  have E3 := Lib.hid (hB1.out.below (show Below w1.heap.size w1 w3 from hS2) hgl)
  have hg3 := E3.out.lt
  have hgw : w.heap.size ≤ g := Nat.le_of_eq hg.out.symm
  have hun : Hid (∀ {X : World} {T' : SS} {D' : DS}, LX (w0.guard w w3) X q s h m T' D' → LX w0 X q s h m T' D') := Lib.hid fun hX => H.out.unguard b3 hX
  have e0 : w3.cell? ⟨g, 0, none⟩ = some (.int .u8 kind) := E3.out.cell 0
  have e3 : w3.cell? ⟨g, 3, none⟩ = some (.int .u8 xk) := E3.out.cell 3
  have e5 : w3.cell? ⟨g, 5, none⟩ = some (.int .i64 x) := E3.out.cell 5
  subst hwu
  replace b3 := Lib.hid b3
  clear hS0 hS1 hS2 HO1 HO2 hB1 e1 e2 hs1 hb1 hgl H
  have e4 : w3.cell? ⟨g, 4, none⟩ = some (.slice Av nv cv) := E3.out.cell 4
  have HRt := Lib.hid (lx_roots Hg.out (.slice Av nv cv) rl (HRD.out.below b3.out) hrl hrb.out)
  go_wp2_with fail
  refine HRt.out.mono ?_
  rintro e wr ⟨va, rfl, hown, b34⟩
  have hf4 : Hid (∀ b, va.ownBlock = some b → w3.heap.size ≤ b ∧ b < wr.heap.size) := Lib.hid fun b e => hown.lt b e
  have rd4 : Hid (Rd i64e wr va l) := Lib.hid (by
    rw [hl.out]
    have := hown
    rw [← List.length_map (f := objN T.S)] at this
    exact Rd.of_own this)
  have Hg4 := Lib.hid (Hg.out.guard b34)
  have hun2 : Hid (∀ {X : World} {T' : SS} {D' : DS}, LX ((wu.guard w w3).guard w3 wr) X q s h m T' D' → LX wu X q s h m T' D') := Lib.hid fun hX => hun.out (Hg.out.unguard b34 hX)
  have E4 := Lib.hid (E3.out.below b34 hg3)
  clear HRt hown b34 e4 e5 e3 E3 Hg hun HRD
  have hrl2 : l.length ≤ 3000 := by rw [hll.out]; omega
  have hrl3 : l.length ≤ 4096 := by omega
  obtain ⟨Q, V, hQ, xv, hat, hput⟩ := lx_open Hg4.out
  have SZ := Lib.hid r18_size
  have HC := Lib.hid fun (Q' : Nat → Prop) wx (hxv : XV Q' wx D V) (hq : New Q' wx) (hr : Rd i64e wx va l) => rBegin18 hxv hq ID.out.toInv0 va l hr hrl2 hlb.out
  replace hat := Lib.hid hat
  replace hput := Lib.hid hput
  replace hQ := Lib.hid hQ
  replace xv := Lib.hid xv
  have HC2 := HC.out
  rw [hD1.out] at HC2
  dsimp only at HC2
  replace HC2 := Lib.hid HC2
  clear HC
  go_wp2_with (refine wpList_load_mid rfl 42 (.tmp 44) rfl q 1 rfl [V.vw, V.vc, V.f 0, V.f 1, V.f 2, V.f 3, V.vo, V.vg, V.vb, .int .i64 D.ph, V.vl, .int .i64 D.cyc] _ (hat.out wr (Below.refl _ _)) Tryz.underlying42 rfl SZ.out ?_)
  refine (HC2.out Q wr xv.out hQ.out rd4.out).mono ?_
  rintro e wb ⟨V4, rfl, xvb, bb4⟩
  have ON4 := Lib.hid (xvb.one (D1).ph (D1).cyc)
  have hsb := bb4.size
  clear HC2
  go_wp2_with (first
    | (refine wpList_new rfl (.alloc 42) rfl wb.heap.size rfl 42 n18 (by kernel_rfl) ?_; intro w5 hs5 hb5 hB5; have HB5 := Lib.hid hB5; clear hB5)
    | (refine wpList_store_blk rfl 42 (.tmp 8) (.tmp 48) rfl wb.heap.size rfl (c18 V4 (D1).ph (D1).cyc) rfl 42 n18 HB5.out SZ.out rfl ON4.out ?_; intro w6 hB6 hg6 hs6; refine stop_here ?_))
  have b46 : Below wb.heap.size wb w6 := hb5.grown hg6 hb5.size (fun k hk => by cases hk; exact Nat.le_refl _)
  have b6 : Below wr.heap.size wr w6 := bb4.trans (b46.mono hsb)
  have xv6 := Lib.hid (xvb.below b46)
  obtain ⟨gB, hgB⟩ : ∃ gB, gB = wb.heap.size := ⟨_, rfl⟩
  rw [← hgB] at hB6 ⊢
  replace hgB := Lib.hid hgB
  clear HB5 hs5 hb5 hg6 hs6 b46 xvb bb4
  refine go_on ?_
  obtain ⟨ht, hz7, ho7, H7⟩ := hput.out w6 _ V4 b6 xv6.out
  have ht4 : w6.there q 1 (c18 V4 (D1).ph (D1).cyc).size := ht
  replace hB6 := Lib.hid hB6
  replace ht4 := Lib.hid ht4
  replace H7 := Lib.hid H7
  replace hz7 := Lib.hid hz7
  replace ho7 := Lib.hid ho7
  clear ht
  go_wp2_with (first
    | (refine wpList_load_blk rfl 42 (.tmp 8) rfl gB rfl 42 (c18 V4 (D1).ph (D1).cyc) hB6.out _ Tryz.underlying42 rfl SZ.out ?_)
    | (refine wpList_store_mid rfl 42 (.tmp 53) (.tmp 51) rfl q 1 (c18 V4 (D1).ph (D1).cyc) rfl rfl ht4.out SZ.out ON4.out ?_; refine stop_here ?_))
  obtain ⟨w7, hw7⟩ : ∃ w7, w7 = w6.setCells q 1 (c18 V4 (D1).ph (D1).cyc).toList := ⟨_, rfl⟩
  rw [← hw7] at H7 hz7 ho7 ⊢
  replace hw7 := Lib.hid hw7
  have c0 := H7.out.cells.1
  clear hB6 ht4 hput xv6 b6 ON4
  refine go_on ?_
  have rd7 := Lib.hid (H7.out.rd rd4.out fun b e => (hf4.out b e).1)
  have HA := Lib.hid (lx_beginG H7.out va l rd7.out hrl3 hlz.out hf4.out)
  rw [hT1.out] at HA
  dsimp only at HA
  go_wp2_with fail
  refine HA.out.mono ?_
  rintro e w8 ⟨rfl, H8⟩
  have H9 := Lib.hid (hun2.out H8)
  clear HA H8 H7 hun2 hat Hg4
  by_cases hr : r1 = r2
  · subst hr
    go_wp2_with fail
    go_ret
    exact ⟨_, rfl, fun _ => by simp, H9.out⟩
  · have z1 : (r2 == r1) = false := beq_eq_false_iff_ne.2 fun e => hr e.symm
    go_wp2_with fail
    go_ret
    exact ⟨_, rfl, fun he => absurd he hr, H9.out⟩
end
end Go.Proofs.YtcaboknbdamlhaaGreatDoor
namespace Go.Proofs.YtcaboknbdamlhaaGreatDoor
open Go.RowKit Go.Shelf
set_option maxHeartbeats 12800000 in
set_option maxRecDepth 100000 in
theorem ssame_ok {w0 : W0} {w : World} {q s h m : Nat} {T : SS} {D : DS} (H : LX w0 w q s h m T D) (hS : D.S = T.S) (hph : D.ph = T.ph) (hcy : D.cyc = T.cyc) :
    Calls Tryz.prog 13 #[.pointer (some ⟨q, 0, none⟩)] w fun e w' => e = .returned (.bool true) ∧ Below w.heap.size w w' := by
  obtain ⟨Q, V, -, xv, hat, -⟩ := lx_open H
  have I := H.inv.toInv0
  have hlen := xv.rin.len0 (hS ▸ I)
  obtain ⟨Ao, co, hvo, -⟩ := xv.rin.objs.len
  obtain ⟨Aw, cw, hvw, -⟩ := xv.rin.words.len
  have hat0 := hat w (Below.refl _ _)
  have c0 := H.cells.1
  have hq := H.cells.2.1
  have HO : RdC 3 objC w (.slice Ao T.S.objs.length co) T.S.objs := by rw [← hS, ← hvo]; exact xv.rin.objs
  have HW : Rd i64e w (.slice Aw T.S.words.length cw) T.S.words := by rw [← hS, ← hvw]; exact xv.rin.words
  have k7 : w.cell? ⟨q, 7, none⟩ = some (.slice Ao T.S.objs.length co) := by rw [← hS, ← hvo]; exact hat0 6 _ rfl
  have k1 : w.cell? ⟨q, 1, none⟩ = some (.slice Aw T.S.words.length cw) := by rw [← hS, ← hvw]; exact hat0 0 _ rfl
  have k10 : w.cell? ⟨q, 10, none⟩ = some (.int .i64 T.ph) := by rw [← hph]; exact hat0 9 _ rfl
  have k12 : w.cell? ⟨q, 12, none⟩ = some (.int .i64 T.cyc) := by rw [← hcy]; exact hat0 11 _ rfl
  have hol : T.S.objs.length ≤ 4096 := by rw [hS] at hlen; exact hlen.2.2
  have hal : (sAll T.S).length = T.S.objs.length := all_len T.S
  obtain ⟨n, hn⟩ : ∃ n, n = T.S.objs.length := ⟨_, rfl⟩
  obtain ⟨wl, hwl⟩ : ∃ wl, wl = T.S.words.length := ⟨_, rfl⟩
  obtain ⟨ph, hp⟩ : ∃ ph, ph = T.ph := ⟨_, rfl⟩
  obtain ⟨cyc, hc⟩ : ∃ cyc, cyc = T.cyc := ⟨_, rfl⟩
  rw [← hn] at HO k7 hol hal
  rw [← hwl] at HW k1
  rw [← hp] at k10
  rw [← hc] at k12
  replace HO := Lib.hid HO
  replace HW := Lib.hid HW
  have HH := Lib.hid H
  have HI := Lib.hid I
  replace hal := Lib.hid hal
  replace hp := Lib.hid hp
  replace hc := Lib.hid hc
  replace hn := Lib.hid hn
  replace hwl := Lib.hid hwl
  have k1h := Lib.hid k1
  have k10h := Lib.hid k10
  have k12h := Lib.hid k12
  clear xv hat hlen hat0 hvo hvw hS hph hcy I H k1 k10 k12
  go_enter Tryz.func13, Tryz.ntmps13
  go_wp2_with fail
  refine (lx_heap HH.out).mono ?_
  rintro e _ ⟨rfl, rfl⟩
  go_wp2_with fail
  refine (lx_all HH.out).mono ?_
  rintro e w2 ⟨Al, cl, rfl, hrd, hown, b2⟩
  have c02 := (b2.cell (p := ⟨q, 0, none⟩) hq).trans c0
  have k72 := (b2.cell (p := ⟨q, 7, none⟩) hq).trans k7
  rw [hal.out] at hrd ⊢
  have c0h := Lib.hid c0
  replace hrd := Lib.hid hrd
  replace b2 := Lib.hid b2
  have hq2 : q < w2.heap.size := Nat.lt_of_lt_of_le hq b2.out.size
  clear hown c0 k7
  go_wp2_with fail
  go_loopw [34] (fun i wr => ∃ j : Nat, j ≤ n ∧ i = .int .i64 j ∧ Hid (Below w2.heap.size w2 wr)) (fun i _ => n - (intOf i).toNat)
  case atStart => exact ⟨0, by omega, rfl, Lib.hid (Below.refl _ _)⟩
  case round =>
    clear c02 k72
    obtain ⟨j, hj, rfl, hbr⟩ := hrel
    have bw := b2.out.trans (hbr.out.mono b2.out.size)
    have hqr : q < wr.heap.size := Nat.lt_of_lt_of_le hq bw.size
    have c0r : wr.cell? ⟨q, 0, none⟩ = some (.pointer (some ⟨s, 0, none⟩)) := (bw.cell (p := ⟨q, 0, none⟩) hq).trans c0h.out
    by_cases hlt : j < n
    · have t0 : (j : Int) < (n : Int) := by omega
      have hjo : j < T.S.objs.length := by rw [← hn.out]; exact hlt
      have hobj : RdC 3 objC wr (.slice Ao T.S.objs.length co) T.S.objs := by rw [← hn.out]; exact HO.out.below bw
      obtain ⟨b, ob, hAo, hbl, hcc⟩ := hobj.at_ hjo
      obtain ⟨oo, ho⟩ : ∃ oo, T.S.objs[j] = oo := ⟨_, rfl⟩
      have hmem : oo ∈ T.S.objs := ho ▸ List.getElem_mem hjo
      have hsz := HI.out.size hmem
      have hob := HI.out.ob oo hmem
      have hpb := mis_pos HI.out ((mis_mem HI.out oo.1).2 ⟨oo, hmem, rfl⟩)
      have hjl : j < (sAll T.S).length := by rw [hal.out]; exact hlt
      have hrd' : Rd i64e wr (.slice Al (sAll T.S).length cl) (sAll T.S) := by rw [hal.out]; exact hrd.out.below hbr.out
      obtain ⟨bl, ol, hAl, hbll, hcl⟩ := hrd'.at_ hjl
      have hlj : (sAll T.S)[j] = oo.1 := by simp [sAll, ho]
      rw [ho] at hcc
      rw [hlj] at hcl
      obtain ⟨p, N, mk⟩ := oo
      have hmemh := Lib.hid hmem
      dsimp only at hsz hob hpb hcl hlj
      have e0 : wr.cell? ⟨b, ob + j * 3, none⟩ = some (.int .i64 p) := hcc 0 _ rfl
      have e1 : wr.cell? ⟨b, ob + j * 3 + 1, none⟩ = some (.int .i64 N) := hcc 1 _ rfl
      have e2 : wr.cell? ⟨b, ob + j * 3 + 2, none⟩ = some (.int .u8 mk) := hcc 2 _ rfl
      have e3 : wr.cell? ⟨bl, ol + j, none⟩ = some (.int .i64 p) := hcl
      have hNb := size_bd HI.out p
      rw [hsz] at hNb
      dsimp only at hNb
      obtain ⟨P, rfl⟩ : ∃ P : Nat, p = (P : Int) := ⟨p.toNat, by omega⟩
      obtain ⟨F, rfl⟩ : ∃ F : Nat, N = (F : Int) := ⟨N.toNat, by omega⟩
      have hFb : F ≤ 6 := by omega
      have hPb : P ≤ 4096 := by omega
      replace hAl := Lib.hid hAl
      have hAl2 := hAl.out
      subst hAl2
      have hAo2 := hAo
      replace hAo := Lib.hid hAo
      subst hAo2
      replace hsz := Lib.hid hsz
      replace hob := Lib.hid hob
      replace ho := Lib.hid ho
      replace hlj := Lib.hid hlj
      clear hcc hcl hrd' hobj hpb hNb hmem
      go_wp2_with (first
        | (refine wpList_new rfl (.alloc 84) rfl wr.heap.size rfl 84 #[.int .i64 0, .int .i64 0, .int .u8 0] (by kernel_rfl) ?_; intro w3 hs3 hb3 hB3; have HB3 := Lib.hid hB3; clear hB3)
        | (refine wpList_store_blk rfl 84 (.tmp 5) (.tmp 38) rfl wr.heap.size rfl #[.int .i64 P, .int .i64 F, .int .u8 mk] rfl 84 #[.int .i64 0, .int .i64 0, .int .u8 0] HB3.out obj_size rfl (by simp [Value.oneCell']) ?_; intro w4 hB4 hg4 hs4; refine stop_here ?_))
      have b4 : Below wr.heap.size wr w4 := hb3.grown hg4 hb3.size (fun k hk => by cases hk; exact Nat.le_refl _)
      obtain ⟨gO, hgO⟩ : ∃ gO, gO = wr.heap.size := ⟨_, rfl⟩
      rw [← hgO] at hB4 ⊢
      have v0 : w4.cell? ⟨gO, 0, none⟩ = some (.int .i64 P) := hB4.cell 0
      have v1 : w4.cell? ⟨gO, 1, none⟩ = some (.int .i64 F) := hB4.cell 1
      have e34 := (b4.cell (p := ⟨bl, ol + j, none⟩) hbll).trans e3
      have c04 := (b4.cell (p := ⟨q, 0, none⟩) hqr).trans c0r
      have bw4 := Lib.hid (bw.trans (b4.mono bw.size))
      have br4 := Lib.hid (hbr.out.trans (b4.mono hbr.out.size))
      have hq4 : q < w4.heap.size := Nat.lt_of_lt_of_le hqr b4.size
      have hB4h := Lib.hid hB4
      replace hgO := Lib.hid hgO
      clear HB3 hg4 hs4 hs3 hb3 hbr b4 bw e0 e1 e2 e3 c0r hB4
      refine go_on ?_
      go_wp2_with fail
      go_quiet (fail)
      have bw5 := Lib.hid (below_drewN bw4.out nq)
      have br5 := Lib.hid (below_drewN br4.out nq)
      have hB5 := Lib.hid (hB4h.out.below (below_drewN (Below.refl _ _) nq) hB4h.out.lt)
      obtain ⟨w5, hw5⟩ : ∃ w5, w5 = w4.drewN nq := ⟨_, rfl⟩
      rw [← hw5] at bw5 br5 hB5 ⊢
      replace hw5 := Lib.hid hw5
      have v15 : w5.cell? ⟨gO, 1, none⟩ = some (.int .i64 F) := hB5.out.cell 1
      clear v0 v1 e34 c04 bw4 br4 hB4h
      go_wp2_with fail
      go_loopw [48] (fun i wq => ∃ f : Nat, f ≤ F ∧ i = .int .i64 f ∧ Hid (Below w5.heap.size w5 wq)) (fun i _ => F - (intOf i).toNat)
      case atStart => exact ⟨0, by omega, rfl, Lib.hid (Below.refl _ _)⟩
      case round =>
        clear v15
        obtain ⟨f, hf, rfl, hbq⟩ := hrel
        by_cases hlf : f < F
        · have tf : (f : Int) < (F : Int) := by omega
          have bwq := bw5.out.trans (hbq.out.mono bw5.out.size)
          have c0q : wr.cell? ⟨q, 0, none⟩ = some (.pointer (some ⟨s, 0, none⟩)) := (bwq.cell (p := ⟨q, 0, none⟩) hq).trans c0h.out
          have k1q := Lib.hid ((bwq.cell (p := ⟨q, 1, none⟩) hq).trans k1h.out)
          have hqq : q < wr.heap.size := Nat.lt_of_lt_of_le hq bwq.size
          have hBq := hB5.out.below hbq.out hB5.out.lt
          have v0q : wr.cell? ⟨gO, 0, none⟩ = some (.int .i64 P) := hBq.cell 0
          have hgq : gO < wr.heap.size := hBq.lt
          have hthere : sThere T.S (P : Int) (f : Int) = 0 := by
            unfold sThere
            rw [hsz.out, if_neg]
            simp
            omega
          obtain ⟨k, hk⟩ : ∃ k, k = P + f := ⟨_, rfl⟩
          have hkw : k < T.S.words.length := by
            have h1 := HI.out.word_in (f := (f : Int)) hmemh.out (by omega) (by show (f : Int) < (F : Int); omega)
            dsimp only at h1
            omega
          obtain ⟨y, hy⟩ : ∃ y, T.S.words[k] = y := ⟨_, rfl⟩
          have hld : sLoad T.S (P : Int) (f : Int) = (y, 0) := by
            unfold sLoad
            rw [hthere, if_pos rfl, show ((P : Int) + (f : Int)).toNat = k by omega]
            simp [List.getD, List.getElem?_eq_getElem hkw, hy]
          have HLd := fun wx (bx : Below wr.heap.size wr wx) => lx_load (HH.out.below (bwq.trans (bx.mono bwq.size))) (P : Int) (f : Int) (by omega)
          rw [hld] at HLd
          dsimp only at HLd
          have HHp := Lib.hid (fun wx (bx : Below wr.heap.size wr wx) => lx_heap (HH.out.below (bwq.trans (bx.mono bwq.size))))
          have HWq : Rd i64e wr (.slice Aw T.S.words.length cw) T.S.words := by rw [← hwl.out]; exact HW.out.below bwq
          obtain ⟨bW, oW, hAw, hbW, hcW⟩ := HWq.at_ hkw
          rw [hy] at hcW
          have hcW' : wr.cell? ⟨bW, oW + k, none⟩ = some (.int .i64 y) := hcW
          have twl : (k : Int) < (wl : Int) := by rw [hwl.out]; omega
          have hwk : IntKind.i64.wrap ((P : Int) + (f : Int)) = (k : Int) := by rw [IntKind.wrap_i64]; omega
          have k1q2 := k1q.out
          rw [hAw] at k1q2
          replace hwk := Lib.hid hwk
          replace HLd := Lib.hid HLd
          replace hk := Lib.hid hk
          replace hy := Lib.hid hy
          replace hld := Lib.hid hld
          replace hthere := Lib.hid hthere
          have hAwh := Lib.hid hAw
          replace bwq := Lib.hid bwq
          replace hBq := Lib.hid hBq
          clear hcW HWq hAw
          go_wp2_with fail
          have hS0 : (fun X : World => Below wr.heap.size wr X) wr.drew := (Below.refl _ _).drew
          refine wp_T (by kernel_rfl) 14 (fun X : World => Below wr.heap.size wr X) ?_
          refine wpAnyT_takeA (i := 0) (v := .pointer (some ⟨q, 0, none⟩)) rfl (by kernel_rfl) rfl (fun _ _ _ hp => hp) (Or.inl ⟨by kernel_rfl, fun X _ => by go_simp⟩) hS0 ?_
          simp only [Act.put, List.getElem_toArray, List.getElem_cons_succ, List.getElem_cons_zero, List.setIfInBounds_toArray, List.set_cons_zero, List.set_cons_succ]
          refine wpAnyT_takeA (i := 1) (v := .pointer (some ⟨q, 0, none⟩)) rfl (by kernel_rfl) rfl (fun _ _ _ hp => hp) (Or.inl ⟨by kernel_rfl, fun X _ => by go_simp⟩) hS0 ?_
          simp only [Act.put, List.getElem_toArray, List.getElem_cons_succ, List.getElem_cons_zero, List.setIfInBounds_toArray, List.set_cons_zero, List.set_cons_succ]
          refine wpAnyT_takeA (i := 2) (v := .pointer (some ⟨q, 0, none⟩)) rfl (by kernel_rfl) rfl (fun _ _ _ hp => hp) (Or.inl ⟨by kernel_rfl, fun X _ => by go_simp⟩) hS0 ?_
          simp only [Act.put, List.getElem_toArray, List.getElem_cons_succ, List.getElem_cons_zero, List.setIfInBounds_toArray, List.set_cons_zero, List.set_cons_succ]
          refine wpAnyT_takeA (i := 3) (v := .pointer (some ⟨s, 0, none⟩)) rfl (by kernel_rfl) rfl (fun _ _ _ hp => hp) (Or.inl ⟨by kernel_rfl, fun X hX => by have hX1 : (fun X : World => Below wr.heap.size wr X) X := hX; have y1 := (Below.cell (p := ⟨q, 0, none⟩) hX1 hqq).trans c0q; go_simp⟩) hS0 ?_
          simp only [Act.put, List.getElem_toArray, List.getElem_cons_succ, List.getElem_cons_zero, List.setIfInBounds_toArray, List.set_cons_zero, List.set_cons_succ]
          refine wpAnyT_takeA (i := 5) (v := .pointer (some ⟨gO, 0, none⟩)) rfl (by kernel_rfl) rfl (fun _ _ _ hp => hp) (Or.inl ⟨by kernel_rfl, fun X _ => by go_simp⟩) hS0 ?_
          simp only [Act.put, List.getElem_toArray, List.getElem_cons_succ, List.getElem_cons_zero, List.setIfInBounds_toArray, List.set_cons_zero, List.set_cons_succ]
          refine wpAnyT_takeA (i := 6) (v := .int .i64 (P : Int)) rfl (by kernel_rfl) rfl (fun _ _ _ hp => hp) (Or.inl ⟨by kernel_rfl, fun X hX => by have hX1 : (fun X : World => Below wr.heap.size wr X) X := hX; have y1 := (Below.cell (p := ⟨gO, 0, none⟩) hX1 hgq).trans v0q; go_simp⟩) hS0 ?_
          simp only [Act.put, List.getElem_toArray, List.getElem_cons_succ, List.getElem_cons_zero, List.setIfInBounds_toArray, List.set_cons_zero, List.set_cons_succ]
          refine wpAnyT_takeA (i := 7) (v := .int .i64 (f : Int)) rfl (by kernel_rfl) rfl (fun _ _ _ hp => hp) (Or.inl ⟨by kernel_rfl, fun X _ => by go_simp⟩) hS0 ?_
          simp only [Act.put, List.getElem_toArray, List.getElem_cons_succ, List.getElem_cons_zero, List.setIfInBounds_toArray, List.set_cons_zero, List.set_cons_succ]
          refine wpAnyT_one (i := 4) rfl (by kernel_rfl) (by kernel_rfl) ?_
          intro K1 hK1
          go_simp
          refine (HHp.out _ hS0).mono ?_
          rintro e _ ⟨rfl, rfl⟩
          dsimp only
          refine hK1.out _ _ (fun _ => hS0) ?_
          (try simp only [Act.put, List.getElem_toArray, List.getElem_cons_succ, List.getElem_cons_zero, List.setIfInBounds_toArray, List.set_cons_zero, List.set_cons_succ])
          refine wpAnyT_one (i := 8) rfl (by kernel_rfl) (by kernel_rfl) ?_
          intro K2 hK2
          go_simp
          refine (HLd.out _ hS0).mono ?_
          rintro e w6 ⟨rfl, b6⟩
          dsimp only
          have hS1 : (fun X : World => Below wr.heap.size wr X) w6 := Below.trans hS0 (Below.mono b6 (Below.size hS0))
          refine hK2.out _ _ (fun _ => hS1) ?_
          (try simp only [Act.put, List.getElem_toArray, List.getElem_cons_succ, List.getElem_cons_zero, List.setIfInBounds_toArray, List.set_cons_zero, List.set_cons_succ])
          refine wpAnyT_takeA (i := 9) (v := .tuple #[.int .i64 y, .int .i64 0]) rfl (by kernel_rfl) rfl (fun _ _ _ hp => hp) (Or.inl ⟨by kernel_rfl, fun X _ => by go_simp⟩) hS1 ?_
          simp only [Act.put, List.getElem_toArray, List.getElem_cons_succ, List.getElem_cons_zero, List.setIfInBounds_toArray, List.set_cons_zero, List.set_cons_succ]
          refine wpAnyT_takeA (i := 10) (v := .int .i64 y) rfl (by kernel_rfl) rfl (fun _ _ _ hp => hp) (Or.inl ⟨by kernel_rfl, fun X _ => by go_simp⟩) hS1 ?_
          simp only [Act.put, List.getElem_toArray, List.getElem_cons_succ, List.getElem_cons_zero, List.setIfInBounds_toArray, List.set_cons_zero, List.set_cons_succ]
          refine wpAnyT_takeA (i := 11) (v := .int .i64 0) rfl (by kernel_rfl) rfl (fun _ _ _ hp => hp) (Or.inl ⟨by kernel_rfl, fun X _ => by go_simp⟩) hS1 ?_
          simp only [Act.put, List.getElem_toArray, List.getElem_cons_succ, List.getElem_cons_zero, List.setIfInBounds_toArray, List.set_cons_zero, List.set_cons_succ]
          refine wpAnyT_takeA (i := 12) (v := .int .i64 y) rfl (by kernel_rfl) rfl (fun _ _ _ hp => hp) (Or.inl ⟨by kernel_rfl, fun X _ => by go_simp⟩) hS1 ?_
          simp only [Act.put, List.getElem_toArray, List.getElem_cons_succ, List.getElem_cons_zero, List.setIfInBounds_toArray, List.set_cons_zero, List.set_cons_succ]
          refine wpAnyT_takeA (i := 13) (v := .int .i64 0) rfl (by kernel_rfl) rfl (fun _ _ _ hp => hp) (Or.inl ⟨by kernel_rfl, fun X _ => by go_simp⟩) hS1 ?_
          simp only [Act.put, List.getElem_toArray, List.getElem_cons_succ, List.getElem_cons_zero, List.setIfInBounds_toArray, List.set_cons_zero, List.set_cons_succ]
          refine wpAnyT_done (by kernel_rfl) ?_ _
          (try simp only [Act.put, List.getElem_toArray, List.getElem_cons_succ, List.getElem_cons_zero, List.setIfInBounds_toArray, List.set_cons_zero, List.set_cons_succ])
          clear hK1 K1 hK2 K2
          have b46 : Below wr.heap.size wr w6 := hS1
          clear hS0 hS1 b6
          have hb6 := Lib.hid (hbq.out.trans (b46.mono hbq.out.size))
          have q16 := (b46.cell (p := ⟨q, 1, none⟩) hqq).trans k1q2
          have v06 := (b46.cell (p := ⟨gO, 0, none⟩) hgq).trans v0q
          have w06 := (b46.cell (p := ⟨bW, oW + k, none⟩) hbW).trans hcW'
          have hwk2 := hwk.out
          clear hcW' k1q2 v0q c0q b46 HLd HHp hbq
          go_wp2_with fail
          go_quiet (fail)
          have hb7 := Lib.hid (below_drewN hb6.out nq)
          obtain ⟨w7, hw7⟩ : ∃ w7, w7 = w6.drewN nq := ⟨_, rfl⟩
          rw [← hw7] at hb7 ⊢
          replace hw7 := Lib.hid hw7
          clear q16 v06 w06 hb6 hwk2
          go_wp2_with fail
          go_roundw
          case rel => exact ⟨f + 1, by omega, by go_num, hb7⟩
          case measure => simp [intOf]; omega
        · obtain rfl : f = F := by omega
          have br9 := Lib.hid (br5.out.trans (hbq.out.mono br5.out.size))
          clear hbq
          go_wp2_with fail
          go_roundw
          case rel => exact ⟨j + 1, by omega, by go_num, br9⟩
          case measure => simp [intOf]; omega
    · obtain rfl : j = n := by omega
      have HPh : Calls Tryz.prog 20 #[.pointer (some ⟨s, 0, none⟩)] wr fun e w' => e = .returned (.tuple #[.int .i64 ph, .int .i64 cyc]) ∧ Below wr.heap.size wr w' := by
        obtain ⟨v0, L⟩ := (HH.out.below bw).ls
        rw [hp.out, hc.out]
        exact ls_phase L
      have k10r := (bw.cell (p := ⟨q, 10, none⟩) hq).trans k10h.out
      have k12r := (bw.cell (p := ⟨q, 12, none⟩) hq).trans k12h.out
      replace HPh := Lib.hid HPh
      clear hbr
      go_wp2_with fail
      refine HPh.out.mono ?_
      rintro e w8 ⟨rfl, b8⟩
      have k108 := (b8.cell (p := ⟨q, 10, none⟩) hqr).trans k10r
      have k128 := (b8.cell (p := ⟨q, 12, none⟩) hqr).trans k12r
      have b8w := Lib.hid (bw.trans (b8.mono bw.size))
      clear k10r k12r HPh c0r
      go_wp2_with fail
      go_ret
      exact ⟨rfl, b8w.out⟩
end Go.Proofs.YtcaboknbdamlhaaGreatDoor
namespace Go.Proofs.YtcaboknbdamlhaaGreatDoor
open Go.RowKit Go.Shelf
/-- Any act, at a store whatever its phase: the answers are the document's. -/
theorem sdoes_all {w0 : W0} {w : World} {q s h m : Nat} {T : SS} {D : DS} {c : Nat} (H : LX w0 w q s h m T D) (C : Cp T D c) (hc : c ≤ 200) (kind xa xb xk : Int) (rv : Option Addr × Nat × Nat) (rl : List Int) (x : Int) (ok : SActOk w ⟨kind, xa, xb, xk, rv, rl, x⟩) (hrl : rl.length ≤ 20) :
    Calls Tryz.prog 12 #[.pointer (some ⟨q, 0, none⟩), .agg #[.int .u8 kind, .int .u8 xa, .int .u8 xb, .int .u8 xk, slE rv, .int .i64 x]] w fun e w' => e = .returned (.bool true) ∧ ∃ T' D', LX w0 w' q s h m T' D' ∧ Cp T' D' (c + 1) := by
  obtain ⟨Av, nv, cv⟩ := rv
  have I := H.inv
  have ID : Inv D.S := by rw [C.S]; exact I
  have bd := ok.bd
  have hkb := bd.kind
  dsimp only at bd hkb
  have dl := C.dlen (by omega)
  have fin : ∀ {T' : SS} {D' : DS} {ans : Prop}, Cp T' D' (c + 1) → ans → ∀ e w', DidX w0 q s h m T' D' ans e w' → e = .returned (.bool true) ∧ ∃ T' D', LX w0 w' q s h m T' D' ∧ Cp T' D' (c + 1) := fun hc ha e w' hd => by
    obtain ⟨b, he, hb, hx⟩ := hd
    rw [hb ha] at he
    exact ⟨he, _, _, hx, hc⟩
  rcases (by omega : kind % 8 = 0 ∨ kind % 8 = 1 ∨ (kind % 8 = 2 ∨ kind % 8 = 3) ∨ (kind % 8 = 4 ∨ kind % 8 = 5 ∨ kind % 8 = 6) ∨ kind % 8 = 7) with hk | hk | hk | hk | hk
  · obtain ⟨c1, c2⟩ := cp_begin I C (rl.map (objN T.S)) fun x hx => by
      obtain ⟨n, _, rfl⟩ := List.mem_map.1 hx
      exact objN_good I.toInv0 n
    exact (sdoes_begin H ID C.S rl kind xa xb xk x Av nv cv bd hk ok.rd ok.rb hrl).mono (fin c1 c2)
  · obtain ⟨c1, c2⟩ := cp_alloc I C
    exact (sdoes_alloc H ID dl kind xa xb xk x Av nv cv bd hk).mono (fin c1 c2)
  · obtain ⟨c1, c2⟩ := cp_step I C x bd.x
    have hph : D.ph = 0 ∨ D.ph = 1 ∨ D.ph = 2 := by
      rw [C.ph]
      cases C.st with
      | off ph on lf => exact .inl ph
      | mark ph lf ck => exact .inr (.inl ph)
      | sweep ph on nd lo => exact .inr (.inr ph)
    have hlo : D.ph = 2 → ∀ x ∈ D.left, mIs D.S x = true := fun h => by
      rw [C.ph] at h
      rw [C.lf, C.S]
      cases C.st with
      | off ph on lf => omega
      | mark ph lf ck => omega
      | sweep ph on nd lo => exact lo
    have hcy : 0 ≤ D.cyc ∧ D.cyc < 1000000 := by
      have := C.cb
      rw [C.cy]
      omega
    have hgb := C.gb
    exact (sdoes_step H x (D1 := (uStep D x).1) (n1 := (uStep D x).2.1) (r1 := (uStep D x).2.2) (T1 := (qStep T x).1) (n2 := if (qStep T x).2 = 0 then (qStep T x).1.ph else 0) (r2 := (qStep T x).2)
      (fun Q V wx xv hq => rStep18 xv hq ID (by omega) (by omega) hph hlo hcy x) (fun v0 wx L => ls_step L (C.sok I.toInv0 (by omega)) x bd.x) kind xa xb xk Av nv cv bd hk).mono (fin c1 c2)
  · obtain ⟨c1, c2⟩ := cp_put I C (objN T.S xa) (xk % 3) (objN_good I.toInv0 xb)
    exact (sdoes_put H ID dl kind xa xb xk x Av nv cv bd hk).mono (fin c1 c2)
  · obtain ⟨c1, c2⟩ := cp_shade I.toInv0 C (objN_good I.toInv0 xa)
    exact (sdoes_shade H ID dl kind xa xb xk x Av nv cv bd hk).mono (fin c1 c2)
set_option maxHeartbeats 12800000 in
set_option maxRecDepth 100000 in
theorem sacts_ok (sp : Int) (v1 : Value) (acts : List SAct) (w : World) (hsp : 0 ≤ sp ∧ sp ≤ 255) (hra : RdC 6 sactC w v1 acts) (hba : ∀ a ∈ acts, SActOk w a) (hT : TabW w) :
    Calls Tryz.prog 3 #[.int .u8 sp, v1] w fun e w' => e = .returned (.bool true) ∧ Below w.heap.size w w' := by
  have HA := Lib.hid (salive_ok w hT)
  replace hT := Lib.hid hT
  have RA := Lib.hid hra
  have HB := Lib.hid hba
  obtain ⟨Aa, ca, rfl, hlc, hcm, -⟩ := hra.len
  clear hra hba
  obtain ⟨M, hM⟩ : ∃ M : Nat, sp % 8 = (M : Int) := ⟨(sp % 8).toNat, by omega⟩
  obtain ⟨N, hN⟩ : ∃ N : Nat, N = M + 1 := ⟨_, rfl⟩
  have hNb : 1 ≤ N ∧ N ≤ 512 := by omega
  have tM : sp.tmod 8 = (M : Int) := (Int.tmod_eq_emod_of_nonneg hsp.1).trans hM
  have wM : IntKind.i64.wrap (M : Int) = (M : Int) := by rw [IntKind.wrap_i64]; omega
  have wN : IntKind.i64.wrap ((M : Int) + 1) = (N : Int) := by rw [IntKind.wrap_i64]; omega
  replace hM := Lib.hid hM
  have hNh := Lib.hid hN
  clear hN
  go_enter Tryz.func3, Tryz.ntmps3
  go_wp2_with fail
  refine HA.out.mono ?_
  rintro e w1 ⟨rfl, b1⟩
  clear HA
  go_wp2_with fail
  refine (lx_begin N w1 hNb.1 hNb.2 (hT.out.below b1)).mono ?_
  rintro e w2 ⟨q, s, h, m, rfl, H2⟩
  have b2 := b1.trans (Below.mono H2.b b1.size)
  replace H2 := Lib.hid H2
  clear hT tM wM wN
  go_wp2_with fail
  refine (sheavy_w _ acts w2 (RA.out.below b2) (fun a ha => (HB.out a ha).below b2)).mono ?_
  rintro e w3 ⟨rfl, b3⟩
  have b3w := b2.trans (Below.mono b3 b2.size)
  have H3 := Lib.hid (H2.out.below b3)
  clear H2
  cases hh : sHeavy acts with
  | true =>
    go_wp2_with fail
    go_ret
    exact ⟨rfl, b3w⟩
  | false =>
  have C3 := Lib.hid (cp_new N)
  replace RA : Hid (RdC 6 sactC w1 (.slice Aa acts.length ca) acts) := Lib.hid (RA.out.below b1)
  replace HB : Hid (∀ a ∈ acts, SActOk w1 a) := Lib.hid fun a ha => (HB.out a ha).below b1
  replace b1 := Lib.hid b1
  have hal : acts.length ≤ 120 ∧ ∀ a ∈ acts, a.rl.length ≤ 20 := by
    unfold sHeavy at hh
    rw [Bool.or_eq_false_iff] at hh
    refine ⟨by have := hh.2; rw [decide_eq_false_iff_not] at this; omega, fun a ha => ?_⟩
    have := List.any_eq_false.1 hh.1 a ha
    have : ¬ 20 < a.rl.length := by simpa using this
    omega
  obtain ⟨hal, hrl⟩ := hal
  replace hrl := Lib.hid hrl
  replace hh := Lib.hid hh
  clear b2 b3 b3w
  go_wp2_with fail
  go_loopw [25] (fun i wr => ∃ (k : Nat) (T : SS) (D : DS), k ≤ acts.length ∧ i = .int .i64 k ∧ Hid (LX (ofW w1) wr q s h m T D) ∧ Hid (Cp T D k)) (fun i _ => acts.length - (intOf i).toNat)
  case atStart => exact ⟨0, _, _, by omega, rfl, H3, C3⟩
  case round =>
    clear H3 C3
    obtain ⟨k, T, D, hk, rfl, H1, C1⟩ := hrel
    by_cases hlt : k < acts.length
    · have t0 : (k : Int) < (acts.length : Int) := by omega
      obtain ⟨b, o, rfl, _, hc⟩ := (RA.out.below H1.out.b).at_ hlt
      obtain ⟨x, hx⟩ : ∃ x, acts[k] = x := ⟨_, rfl⟩
      have hok := (HB.out _ (List.getElem_mem hlt)).below H1.out.b
      have hr20 := hrl.out _ (List.getElem_mem hlt)
      rw [hx] at hc hok hr20
      obtain ⟨kind, xa, xb, xk, rv, rl, xx⟩ := x
      dsimp only at hr20
      have c0 : wr.cell? ⟨b, o + k * 6, none⟩ = some (.int .u8 kind) := hc 0 _ rfl
      have c1 : wr.cell? ⟨b, o + k * 6 + 1, none⟩ = some (.int .u8 xa) := hc 1 _ rfl
      have c2 : wr.cell? ⟨b, o + k * 6 + 2, none⟩ = some (.int .u8 xb) := hc 2 _ rfl
      have c3 : wr.cell? ⟨b, o + k * 6 + 3, none⟩ = some (.int .u8 xk) := hc 3 _ rfl
      have c4 : wr.cell? ⟨b, o + k * 6 + 4, none⟩ = some (slE rv) := hc 4 _ rfl
      have c5 : wr.cell? ⟨b, o + k * 6 + 5, none⟩ = some (.int .i64 xx) := hc 5 _ rfl
      replace hok := Lib.hid hok
      replace hr20 := Lib.hid hr20
      clear hc hx
      go_wp2_with (first
        | (refine wpList_new rfl (.alloc 30) rfl wr.heap.size rfl 30 #[.int .u8 0, .int .u8 0, .int .u8 0, .int .u8 0, .slice none 0 0, .int .i64 0] (by kernel_rfl) ?_; intro w1 hs1 hb1 hB1; have HB1 := Lib.hid hB1; clear hB1)
        | (refine wpList_store_blk rfl 30 (.tmp 8) (.tmp 28) rfl wr.heap.size rfl #[.int .u8 kind, .int .u8 xa, .int .u8 xb, .int .u8 xk, slE rv, .int .i64 xx] rfl 30 #[.int .u8 0, .int .u8 0, .int .u8 0, .int .u8 0, .slice none 0 0, .int .i64 0] HB1.out sact_size rfl (by simp [Value.oneCell']) ?_; intro w2 hB2 hg2 hs2; refine stop_here ?_))
      have hb2 : Below wr.heap.size wr w2 := hb1.grown hg2 hb1.size (fun k hk => by cases hk; exact Nat.le_refl _)
      have HD := Lib.hid (sdoes_all (H1.out.below hb2) C1.out (by omega) kind xa xb xk rv rl xx (hok.out.below hb2) hr20.out)
      obtain ⟨gA, hgA⟩ : ∃ gA, gA = wr.heap.size := ⟨_, rfl⟩
      rw [← hgA] at hB2 ⊢
      replace hgA := Lib.hid hgA
      replace hB2 := Lib.hid hB2
      clear HB1 hg2 hs2 hs1 hb1 hb2 H1 C1 c0 c1 c2 c3 c4 c5
      refine go_on ?_
      go_wp2_with (refine wpList_load_blk rfl 30 (.tmp 8) rfl gA rfl 30 #[.int .u8 kind, .int .u8 xa, .int .u8 xb, .int .u8 xk, slE rv, .int .i64 xx] hB2.out _ Tryz.underlying30 rfl sact_size ?_)
      refine HD.out.mono ?_
      rintro e w3 ⟨rfl, T3, D3, H3, C3⟩
      have HS := Lib.hid (ssame_ok H3 C3.S C3.ph C3.cy)
      replace H3 := Lib.hid H3
      replace C3 := Lib.hid C3
      clear HD hB2
      go_wp2_with fail
      refine HS.out.mono ?_
      rintro e w4 ⟨rfl, b4⟩
      have H4 := Lib.hid (H3.out.below b4)
      clear HS b4 H3
      go_wp2_with fail
      go_roundw
      case rel => exact ⟨k + 1, T3, D3, by omega, by go_num, H4, C3⟩
      case measure => simp [intOf]; omega
    · obtain rfl : k = acts.length := by omega
      have bw := b1.out.trans (Below.mono H1.out.b b1.out.size)
      clear H1 C1
      go_wp2_with fail
      go_ret
      exact ⟨rfl, bw⟩
end Go.Proofs.YtcaboknbdamlhaaGreatDoor
