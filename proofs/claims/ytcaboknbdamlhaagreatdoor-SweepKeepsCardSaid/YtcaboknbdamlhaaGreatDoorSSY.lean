/- Joined: SweepMadeP, SetMap, SetRange, TailRow, SweepReach, SweepActU, SweepActP, SweepBegG. -/
import Derived.Test.YtcaboknbdamlhaaGreatDoorSSO
import Derived.Test.YtcaboknbdamlhaaGreatDoorBase
import Derived.Test.YtcaboknbdamlhaaGreatDoorInfo
import Derived.Maps.Own
import Derived.Maps.Views
import Derived.Maps.Keyed
import Derived.Maps.OwnSet
import Derived.Maps.RangeWalk
import Derived.Test.YtcaboknbdamlhaaGreatDoorSSR
import Derived.Test.YtcaboknbdamlhaaGreatDoorMMA
set_option linter.unusedVariables false
set_option linter.unusedSimpArgs false
namespace Go.Proofs.YtcaboknbdamlhaaGreatDoor
open Go.RowKit Go.Shelf
theorem qIt_shift (T : SS) (junk : Int) : ∀ n, qIt (qStep T junk).1 junk n = qIt T junk (n + 1)
  | 0 => rfl
  | n + 1 => by
    show (qStep (qIt (qStep T junk).1 junk n) junk).1 = (qStep (qIt T junk (n + 1)) junk).1
    rw [qIt_shift T junk n]
/-- A store runs to its end. -/
theorem ends_run (P : SS → Nat → Prop) (junk : Int) (h : ∀ T r, P T r → SOk T ∧ (T.ph = 0 ∨ (T.ph ≠ 0 ∧ (qStep T junk).2 = 0 ∧ ∃ r', r' < r ∧ P (qStep T junk).1 r'))) :
    ∀ r T, P T r → ∃ n, Ends T junk n ∧ ∃ r', P (qIt T junk n) r' := by
  intro r
  induction r using Nat.strongRecOn with
  | ind r ih =>
    intro T hP
    obtain ⟨ok, h1⟩ := h T r hP
    rcases h1 with h0 | ⟨h0, he, r', hr', hP'⟩
    · exact ⟨0, ⟨fun i hi => absurd hi (Nat.not_lt_zero _), h0, fun i hi => by
        have hi0 : i = 0 := by omega
        subst hi0
        exact ok⟩, r, hP⟩
    · obtain ⟨n, E, hn⟩ := ih r' hr' _ hP'
      refine ⟨n + 1, ⟨fun i hi => ?_, by rw [← qIt_shift]; exact E.off, fun i hi => ?_⟩, by rw [← qIt_shift]; exact hn⟩
      · cases i with
        | zero => exact ⟨h0, he⟩
        | succ i => rw [← qIt_shift]; exact E.go i (by omega)
      · cases i with
        | zero => exact ok
        | succ i => rw [← qIt_shift]; exact E.ok i (by omega)
theorem fold_seen {S : HS} (I : Inv0 S) : ∀ (l : List Int) (K : MK), MI S K → (∀ x ∈ l, Good S x) → ∀ x, (l.foldl (mShade S) K).seen x = true ↔ (K.seen x = true ∨ (x ∈ l ∧ x ≠ 0))
  | [], K, M, _, x => by simp
  | y :: l, K, M, h, x => by
    obtain ⟨M1, u1, s1, s2, s3, _⟩ := mi_shade I M (h y (by simp))
    show ((l.foldl (mShade S) (mShade S K y)).seen x = true) ↔ _
    rw [fold_seen I l _ M1 (fun z hz => h z (List.mem_cons_of_mem _ hz)) x]
    constructor
    · rintro (hx | hx)
      · rcases s3 x hx with h1 | rfl
        · exact .inl h1
        · exact .inr ⟨by simp, fun e => by have := mis_pos I (M1.obj x hx); omega⟩
      · exact .inr ⟨List.mem_cons_of_mem _ hx.1, hx.2⟩
    · rintro (hx | ⟨hx, h0⟩)
      · exact .inl (s2 x hx)
      · rcases List.mem_cons.1 hx with rfl | hx
        · exact .inl (s1 h0)
        · exact .inr ⟨hx, h0⟩
theorem keep_none (sn : Int → Bool) (l : List Int) (h : ∀ x ∈ l, sn x = true) : keepP sn l = [] := by
  unfold keepP
  rw [List.filter_eq_nil_iff]
  intro x hx
  simp [h x hx]
theorem step_off {T : SS} (hp : T.ph = 0) (junk : Int) : qStep T junk = (T, 0) := by unfold qStep; rw [if_neg (by omega), if_neg (by omega)]
theorem step_end {T : SS} (hp : T.ph = 1) (M : MI T.S T.K) (hg : T.K.greys = []) (junk : Int) : qStep T junk = ({ T with K := mOff T.K, ph := 2, left := keepP T.K.seen (sAll T.S) }, 0) := by
  unfold qStep
  rw [if_pos hp]
  unfold qMark
  rw [mi_end M hg, if_neg (by simp)]
theorem step_mark {T : SS} (I : Inv0 T.S) (C : Clo T.S) (hp : T.ph = 1) (M : MI T.S T.K) {p : Int} {gs : List Int} (hg : T.K.greys = p :: gs) (junk : Int) : qStep T junk = ({ T with K := nextK T.S T.K p gs }, 0) := by
  unfold qStep
  rw [if_pos hp]
  unfold qMark
  rw [(mi_step I C M hg).1, if_pos (.inl rfl)]
theorem step_sweep0 {T : SS} (hp : T.ph = 2) (hl : T.left = []) (junk : Int) : qStep T junk = ({ T with ph := 0, cyc := T.cyc + 1 }, 0) := by
  unfold qStep
  rw [if_neg (by omega), if_pos hp]
  unfold qSweep
  rw [hl]
theorem step_sweep1 {T : SS} (hp : T.ph = 2) {x : Int} {l : List Int} (hl : T.left = x :: l) (junk : Int) : qStep T junk = ({ T with S := (sFree T.S x junk).1, left := l }, (sFree T.S x junk).2) := by
  unfold qStep
  rw [if_neg (by omega), if_pos hp]
  unfold qSweep
  rw [hl]
/-- What a look-through sees besides. -/
theorem next_seen {S : HS} {K : MK} (I : Inv0 S) (C : Clo S) (M : MI S K) {p : Int} {gs : List Int} (hg : K.greys = p :: gs) : (∀ x, K.seen x = true → (nextK S K p gs).seen x = true) ∧ (∀ x, (nextK S K p gs).seen x = true → K.seen x = true ∨ x = fldA S p 0 ∨ x = fldA S p 1) := by
  have hp : mIs S p = true := M.obj p (M.sn p (by rw [hg]; simp))
  have M0 : MI S { K with greys := gs } := ⟨M.on, M.obj, fun x hx => M.sn x (by rw [hg]; exact List.mem_cons_of_mem _ hx)⟩
  have g0 := C.good I hp (f := 0) (by omega)
  have g1 := C.good I hp (f := 1) (by omega)
  obtain ⟨M1, _, _, a2, a3, _⟩ := mi_shade I M0 g0
  obtain ⟨M2, _, _, b2, b3, _⟩ := mi_shade I M1 g1
  refine ⟨fun x hx => b2 x (a2 x hx), fun x hx => ?_⟩
  rcases b3 x hx with h | h
  · exact (a3 x h).imp id .inl
  · exact .inr (.inr h)
/-! All objects are seen: nothing is freed. -/
inductive All1 (S : HS) (T : SS) : Nat → Prop
  | mark (ph : T.ph = 1) (hS : T.S = S) (M : MI S T.K) (al : ∀ p, mIs S p = true → T.K.seen p = true) (lf : T.left = []) : All1 S T (uns S T.K + T.K.greys.length + 3)
  | sweep (ph : T.ph = 2) (hS : T.S = S) (on : T.K.on = false) (lf : T.left = []) : All1 S T 1
  | off (ph : T.ph = 0) (hS : T.S = S) (on : T.K.on = false) (lf : T.left = []) : All1 S T 0
section
variable {S S' : HS} {T : SS} {r : Nat}
theorem All1.s (A : All1 S T r) : T.S = S := by cases A <;> assumption
theorem All1.sok (A : All1 S T r) (hc : 0 ≤ T.cyc ∧ T.cyc + r ≤ 10000) : SOk T := by
  cases A with
  | mark ph hS M al lf => exact ⟨.inr (.inl ⟨ph, M.on⟩), by omega, by rw [lf]; simp, by rw [lf]; simp⟩
  | sweep ph hS on lf => exact ⟨.inr (.inr ph), by omega, by rw [lf]; simp, by rw [lf]; simp⟩
  | off ph hS on lf => exact ⟨.inl ph, by omega, by rw [lf]; simp, by rw [lf]; simp⟩
theorem All1.step (I : Inv0 S) (C : Clo S) (A : All1 S T r) (junk : Int) : (qStep T junk).2 = 0 ∧ ∃ r', All1 S (qStep T junk).1 r' ∧ r' ≤ r ∧ (T.ph ≠ 0 → r' < r) ∧ (qStep T junk).1.cyc + r' ≤ T.cyc + r ∧ T.cyc ≤ (qStep T junk).1.cyc := by
  cases A with
  | mark ph hS M al lf =>
    subst hS
    rcases hg : T.K.greys with _ | ⟨p, gs⟩
    · rw [step_end ph M hg]
      have hk : keepP T.K.seen (sAll T.S) = [] := keep_none _ _ fun x hx => al x ((mis_all I x).2 hx)
      exact ⟨rfl, 1, All1.sweep rfl rfl rfl hk, by omega, fun _ => by omega, by simp only; omega, by simp⟩
    · rw [step_mark I C ph M hg]
      obtain ⟨_, M', u⟩ := mi_step I C M hg
      have u' := u
      rw [hg] at u'
      have ns := next_seen I C M hg
      exact ⟨rfl, _, All1.mark (T := { T with K := nextK T.S T.K p gs }) ph rfl M' (fun x hx => ns.1 x (al x hx)) lf, by simp only; omega, fun _ => by simp only; omega, by simp only; omega, by simp⟩
  | sweep ph hS on lf =>
    subst hS
    rw [step_sweep0 ph lf]
    exact ⟨rfl, 0, All1.off rfl rfl on lf, by omega, fun _ => by omega, by simp only; omega, by simp only; omega⟩
  | off ph hS on lf =>
    subst hS
    rw [step_off ph]
    exact ⟨rfl, 0, All1.off ph rfl on lf, by omega, fun h => absurd ph h, by simp, by simp⟩
theorem All1.alloc (I : Inv S) {p : Int} (hr : sAlloc S 2 3 0 = (S', p, 0)) (A : Alloced S S' 2 3 0 p) (H : All1 S T r) : (qAlloc T 2 3 0).2 = (p, 0) ∧ (∃ r', All1 S' (qAlloc T 2 3 0).1 r' ∧ r' ≤ r) ∧ (qAlloc T 2 3 0).1.cyc = T.cyc := by
  have hm : ∀ o, o ∈ S'.objs ↔ o = (p, 2, 3) ∨ o ∈ S.objs := fun o => by rw [A.objs, ins_mem]
  have hpo : mIs S' p = true := (mis_mem A.inv.toInv0 p).2 ⟨_, (hm _).2 (.inl rfl), rfl⟩
  have hp0 := mis_pos A.inv.toInv0 hpo
  have mono : ∀ x, mIs S x = true → mIs S' x = true := fun x hx => by
    obtain ⟨o, ho, e⟩ := (mis_mem I.toInv0 x).1 hx
    exact (mis_mem A.inv.toInv0 x).2 ⟨o, (hm o).2 (.inr ho), e⟩
  have inv' : ∀ x, mIs S' x = true → x = p ∨ mIs S x = true := fun x hx => by
    obtain ⟨o, ho, e⟩ := (mis_mem A.inv.toInv0 x).1 hx
    rcases (hm o).1 ho with rfl | h
    · exact .inl e.symm
    · exact .inr ((mis_mem I.toInv0 x).2 ⟨o, h, e⟩)
  have offc : T.K.on = false → mKnown S' T.K p = (false, 0) ∧ mMade S' T.K p = T.K := fun ho => by
    have hk : mKnown S' T.K p = (false, 0) := by unfold mKnown; rw [if_pos (.inl ho)]
    exact ⟨hk, by unfold mMade; rw [hk, if_neg (by simp)]⟩
  have hq : T.S = S → qAlloc T 2 3 0 = ({ T with S := S', K := mMade S' T.K p }, p, (mKnown S' T.K p).2) := fun e => by
    unfold qAlloc
    rw [e, hr, if_pos rfl]
  cases H with
  | mark ph hS M al lf =>
    have hk : mKnown S' T.K p = (true, 0) := by
      unfold mKnown
      rw [if_neg (fun h => h.elim (fun h => by rw [M.on] at h; cases h) fun h => by omega), if_pos hpo]
    have hmd : mMade S' T.K p = { mSee T.K p with greys := keepP (fun x => x == p) T.K.greys } := by unfold mMade; rw [hk, if_pos rfl]
    rw [hq hS, hk]
    have al' : ∀ x, mIs S' x = true → (mMade S' T.K p).seen x = true := fun x hx => by
      rw [hmd]
      show (x == p || T.K.seen x) = true
      rw [Bool.or_eq_true, beq_iff_eq]
      exact (inv' x hx).imp id (al x)
    have hun : uns S' (mMade S' T.K p) = 0 := by
      unfold uns
      rw [keep_none _ _ fun x hx => al' x ((mis_all A.inv.toInv0 x).2 hx)]
      rfl
    have hgl : (mMade S' T.K p).greys.length ≤ T.K.greys.length := by
      rw [hmd]
      exact List.length_filter_le _ _
    refine ⟨rfl, ⟨_, All1.mark (T := { T with S := S', K := mMade S' T.K p }) ph rfl ?_ al' lf, ?_⟩, rfl⟩
    · rw [hmd]
      refine ⟨M.on, fun x hx => ?_, fun x hx => ?_⟩
      · have hx : (x == p || T.K.seen x) = true := hx
        rw [Bool.or_eq_true, beq_iff_eq] at hx
        exact hx.elim (fun e => e ▸ hpo) fun h => mono x (M.obj x h)
      · show (x == p || T.K.seen x) = true
        rw [M.sn x (List.mem_filter.1 hx).1]
        simp
    · show uns S' (mMade S' T.K p) + (mMade S' T.K p).greys.length + 3 ≤ _
      omega
  | sweep ph hS on lf =>
    obtain ⟨e1, e2⟩ := offc on
    rw [hq hS, e1, e2]
    exact ⟨rfl, ⟨1, All1.sweep ph rfl on lf, Nat.le_refl _⟩, rfl⟩
  | off ph hS on lf =>
    obtain ⟨e1, e2⟩ := offc on
    rw [hq hS, e1, e2]
    exact ⟨rfl, ⟨0, All1.off ph rfl on lf, Nat.le_refl _⟩, rfl⟩
theorem all1_begin (I : Inv S) (C : Clo S) (hS : T.S = S) (hp : T.ph = 0) (ho : T.K.on = false) (hl : T.left = []) : (qBegin T (sAll S)).2 = 0 ∧ (∃ r, r ≤ (sAll S).length + 3 ∧ All1 S (qBegin T (sAll S)).1 r) ∧ (qBegin T (sAll S)).1.cyc = T.cyc := by
  subst hS
  have hgd : ∀ x ∈ sAll T.S, Good T.S x := fun x hx => .inr ((mis_all I.toInv0 x).2 hx)
  obtain ⟨e0, e1, _⟩ := cyc_begin I.toInv0 C hp ho (sAll T.S) hgd
  obtain ⟨M, u⟩ := fold_shade I.toInv0 (sAll T.S) mStart mi_start hgd
  refine ⟨e0, ?_, by rw [e1]⟩
  rw [e1]
  have hu := uns_start I.toInv0
  refine ⟨_, ?_, All1.mark (T := { T with K := (sAll T.S).foldl (mShade T.S) mStart, ph := 1 }) rfl rfl M (fun p hx => ?_) hl⟩
  · show uns T.S ((sAll T.S).foldl (mShade T.S) mStart) + ((sAll T.S).foldl (mShade T.S) mStart).greys.length + 3 ≤ _
    rw [u, hu]
    show (sAll T.S).length + ([] : List Int).length + 3 ≤ _
    simp
  · exact (fold_seen I.toInv0 _ mStart mi_start hgd p).2 (.inr ⟨(mis_all I.toInv0 p).1 hx, by have := mis_pos I.toInv0 hx; omega⟩)
end
theorem all1_run {S : HS} {T : SS} {r : Nat} (I : Inv S) (C : Clo S) (A : All1 S T r) (B : Int) (hB : B ≤ 9000) (hc : 0 ≤ T.cyc ∧ T.cyc + r ≤ B) (junk : Int) :
    ∃ n, Ends T junk n ∧ (qIt T junk n).S = S ∧ (qIt T junk n).ph = 0 ∧ (qIt T junk n).K.on = false ∧ (qIt T junk n).left = [] ∧ 0 ≤ (qIt T junk n).cyc ∧ (qIt T junk n).cyc ≤ B := by
  obtain ⟨n, E, r', A', hc'⟩ := ends_run (fun T r => All1 S T r ∧ 0 ≤ T.cyc ∧ T.cyc + r ≤ B) junk (fun T r ⟨A, c0, c1⟩ => by
    refine ⟨A.sok ⟨c0, by omega⟩, ?_⟩
    by_cases h0 : T.ph = 0
    · exact .inl h0
    · obtain ⟨e, r', A', _, h2, h3, h4⟩ := A.step I.toInv0 C junk
      exact .inr ⟨h0, e, r', h2 h0, A', by omega, by omega⟩) r T ⟨A, hc⟩
  refine ⟨n, E, A'.s, E.off, ?_, ?_, hc'.1, by omega⟩
  · cases A' with
    | mark ph hS M al lf => exact absurd E.off (by rw [ph]; omega)
    | sweep ph hS on lf => exact on
    | off ph hS on lf => exact on
  · cases A' <;> assumption
/-! All but one are seen: that one is freed. -/
inductive All2 (S S' Sf : HS) (p : Int) (T : SS) : Nat → Prop
  | mark (ph : T.ph = 1) (hS : T.S = S') (M : MI S' T.K) (sn : ∀ x, T.K.seen x = true ↔ x ∈ sAll S) (lf : T.left = []) : All2 S S' Sf p T (uns S' T.K + T.K.greys.length + 4)
  | sweep1 (ph : T.ph = 2) (hS : T.S = S') (on : T.K.on = false) (lf : T.left = [p]) : All2 S S' Sf p T 2
  | sweep (ph : T.ph = 2) (hS : T.S = Sf) (on : T.K.on = false) (lf : T.left = []) : All2 S S' Sf p T 1
  | off (ph : T.ph = 0) (hS : T.S = Sf) (on : T.K.on = false) (lf : T.left = []) : All2 S S' Sf p T 0
section
variable {S S' Sf : HS} {T : SS} {r : Nat} {p : Int}
theorem ins_filter (o : Int × Int × Int) : ∀ l : List (Int × Int × Int), (∀ x ∈ l, x.1 ≠ o.1) → (insO o l).filter (fun x => !(x.1 == o.1)) = l
  | [], _ => by simp [insO]
  | y :: l, h => by
    have hy : (!(y.1 == o.1)) = true := by simp [h y (by simp)]
    have hl := fun x hx => h x (List.mem_cons_of_mem _ hx)
    have hfl : l.filter (fun x => !(x.1 == o.1)) = l := List.filter_eq_self.2 fun x hx => by simp [hl x hx]
    unfold insO
    split
    · rw [List.filter_cons_of_neg (by simp), List.filter_cons_of_pos (p := fun x : Int × Int × Int => !(x.1 == o.1)) hy, hfl]
    · rw [List.filter_cons_of_pos (p := fun x : Int × Int × Int => !(x.1 == o.1)) hy, ins_filter o l hl]
theorem free_made (I : Inv S) (A : Alloced S S' 2 3 0 p) (junk : Int) : (sFree S' p junk).2 = 0 ∧ sAll (sFree S' p junk).1 = sAll S ∧ (sSize (sFree S' p junk).1 p).2.2 = false := by
  have ho : ((p, 2, 3) : Int × Int × Int) ∈ S'.objs := by rw [A.objs, ins_mem]; exact .inl rfl
  obtain ⟨e1, _, e3⟩ := free_ok A.inv.toInv0 ho junk
  have e4 : (sFree S' p junk).1.objs = S.objs := by
    rw [show (sFree S' p junk).1.objs = S'.objs.filter (fun x => !(x.1 == p)) from e3, A.objs]
    exact ins_filter (p, 2, 3) S.objs A.no
  refine ⟨e1, by unfold sAll; rw [e4], ?_⟩
  rw [size_none (fun o ho => A.no o (by rw [← e4]; exact ho))]
theorem made_fld (I : Inv S) (C : Clo S) (A : Alloced S S' 2 3 0 p) {x : Int} (hx : x ∈ sAll S) {f : Nat} (hf : f < 2) : fldA S' x f = 0 ∨ fldA S' x f ∈ sAll S := by
  have hg := C.good I.toInv0 ((mis_all I.toInv0 x).2 hx) hf
  unfold fldA at *
  rw [A.words, fillW_get]
  split
  · exact .inl rfl
  · exact hg.imp id fun h => (mis_all I.toInv0 _).1 h
theorem all_made (A : Alloced S S' 2 3 0 p) (x : Int) : x ∈ sAll S' ↔ x = p ∨ x ∈ sAll S := by
  unfold sAll
  rw [List.mem_map, List.mem_map]
  constructor
  · rintro ⟨o, ho, rfl⟩
    rw [A.objs, ins_mem] at ho
    rcases ho with rfl | h
    · exact .inl rfl
    · exact .inr ⟨o, h, rfl⟩
  · rintro (rfl | ⟨o, ho, rfl⟩)
    · exact ⟨_, by rw [A.objs, ins_mem]; exact .inl rfl, rfl⟩
    · exact ⟨o, by rw [A.objs, ins_mem]; exact .inr ho, rfl⟩
theorem keep_one (A : Alloced S S' 2 3 0 p) (sn : Int → Bool) (h : ∀ x, sn x = true ↔ x ∈ sAll S) : keepP sn (sAll S') = [p] := by
  have hn : (sAll S').Nodup := all_nodup A.inv.toInv0
  have hpn : sn p = false := by
    cases e : sn p with
    | false => rfl
    | true =>
      obtain ⟨o, ho, e2⟩ := List.mem_map.1 ((h p).1 e)
      exact absurd e2 (A.no o ho)
  have hm : ∀ x ∈ keepP sn (sAll S'), x = p := fun x hx => by
    obtain ⟨h1, h2⟩ := List.mem_filter.1 hx
    rcases (all_made A x).1 h1 with e | h3
    · exact e
    · rw [(h x).2 h3] at h2
      cases h2
  have hp : p ∈ keepP sn (sAll S') := List.mem_filter.2 ⟨(all_made A p).2 (.inl rfl), by simp [hpn]⟩
  have hnk : (keepP sn (sAll S')).Nodup := List.Nodup.sublist List.filter_sublist hn
  generalize keepP sn (sAll S') = l at hm hp hnk
  match l, hm, hp, hnk with
  | [x], hm, _, _ => rw [hm x (by simp)]
  | x :: y :: l, hm, _, hnk =>
    rw [List.nodup_cons] at hnk
    exact absurd (by rw [hm x (by simp), hm y (by simp)]; simp) hnk.1
theorem All2.sok (I : Inv S') (hp : 0 ≤ p ∧ p ≤ 4096) (A : All2 S S' Sf p T r) (hc : 0 ≤ T.cyc ∧ T.cyc + r ≤ 10000) : SOk T := by
  cases A with
  | mark ph hS M sn lf => exact ⟨.inr (.inl ⟨ph, M.on⟩), by omega, by rw [lf]; simp, by rw [lf]; simp⟩
  | sweep1 ph hS on lf => exact ⟨.inr (.inr ph), by omega, by rw [lf]; intro x hx; simp at hx; omega, by rw [lf]; simp⟩
  | sweep ph hS on lf => exact ⟨.inr (.inr ph), by omega, by rw [lf]; simp, by rw [lf]; simp⟩
  | off ph hS on lf => exact ⟨.inl ph, by omega, by rw [lf]; simp, by rw [lf]; simp⟩
theorem all2_run (I : Inv S) (C : Clo S) (A : Alloced S S' 2 3 0 p) (hS : T.S = S') (hp : T.ph = 0) (ho : T.K.on = false) (hl : T.left = []) (hc : 0 ≤ T.cyc ∧ T.cyc ≤ 5000) (hn : (sAll S).length ≤ 4096) (junk : Int) :
    (qBegin T (sAll S)).2 = 0 ∧ ∃ n, Ends (qBegin T (sAll S)).1 junk n ∧ (qIt (qBegin T (sAll S)).1 junk n).S = (sFree S' p junk).1 := by
  have C' := alloc_clo I C A
  have I' := A.inv
  have hpo : mIs S' p = true := (mis_all I'.toInv0 p).2 ((all_made A p).2 (.inl rfl))
  have hpb := mis_pos I'.toInv0 hpo
  have hgd : ∀ x ∈ sAll S, Good S' x := fun x hx => .inr ((mis_all I'.toInv0 x).2 ((all_made A x).2 (.inr hx)))
  subst hS
  obtain ⟨e0, e1, _⟩ := cyc_begin I'.toInv0 C' hp ho (sAll S) hgd
  obtain ⟨M, u⟩ := fold_shade I'.toInv0 (sAll S) mStart mi_start hgd
  have hu := uns_start I'.toInv0
  have hl2 := A.all_len
  refine ⟨e0, ?_⟩
  rw [e1]
  have hsn : ∀ x, ((sAll S).foldl (mShade T.S) mStart).seen x = true ↔ x ∈ sAll S := fun x => by
    rw [fold_seen I'.toInv0 _ mStart mi_start hgd x]
    constructor
    · rintro (h | h)
      · cases h
      · exact h.1
    · intro h
      have := mis_pos I'.toInv0 ((mis_all I'.toInv0 x).2 ((all_made A x).2 (.inr h)))
      exact .inr ⟨h, by omega⟩
  have hcy : T.cyc + ((uns T.S ((sAll S).foldl (mShade T.S) mStart) + ((sAll S).foldl (mShade T.S) mStart).greys.length + 4 : Nat) : Int) ≤ 10000 := by
    have u2 : uns T.S ((sAll S).foldl (mShade T.S) mStart) + ((sAll S).foldl (mShade T.S) mStart).greys.length = (sAll T.S).length := by rw [u, hu]; rfl
    omega
  obtain ⟨n, E, r', A', hc'⟩ := ends_run (fun T1 r => All2 S T.S (sFree T.S p junk).1 p T1 r ∧ 0 ≤ T1.cyc ∧ T1.cyc + r ≤ 10000) junk (fun T1 r ⟨A1, c0, c1⟩ => by
    refine ⟨A1.sok I' ⟨by omega, hpb.2⟩ ⟨c0, c1⟩, ?_⟩
    cases A1 with
    | mark ph hS M1 sn lf =>
      refine .inr ⟨by omega, ?_⟩
      rw [← hS] at M1 c1
      rcases hg : T1.K.greys with _ | ⟨y, gs⟩
      · rw [step_end ph M1 hg]
        have hk : keepP T1.K.seen (sAll T1.S) = [p] := by rw [hS]; exact keep_one A _ sn
        exact ⟨rfl, 2, by omega, All2.sweep1 rfl hS rfl hk, c0, by simp only; omega⟩
      · rw [step_mark (by rw [hS]; exact I'.toInv0) (by rw [hS]; exact C') ph M1 hg]
        obtain ⟨_, M', u'⟩ := mi_step (by rw [hS]; exact I'.toInv0) (by rw [hS]; exact C') M1 hg
        have ns := next_seen (by rw [hS]; exact I'.toInv0) (by rw [hS]; exact C') M1 hg
        have hy : y ∈ sAll S := (sn y).1 (M1.sn y (by rw [hg]; simp))
        have M2 : MI T.S (nextK T1.S T1.K y gs) := by rw [← hS]; exact M'
        have sn2 : ∀ x, (nextK T1.S T1.K y gs).seen x = true ↔ x ∈ sAll S := fun x => ⟨fun hx => by
          have hx0 := mis_pos (by rw [hS]; exact I'.toInv0) (M'.obj x hx)
          rcases ns.2 x hx with h | h | h
          · exact (sn x).1 h
          · rw [hS] at h
            exact (made_fld I C A hy (f := 0) (by omega)).elim (fun e => by omega) fun h2 => by rw [h]; exact h2
          · rw [hS] at h
            exact (made_fld I C A hy (f := 1) (by omega)).elim (fun e => by omega) fun h2 => by rw [h]; exact h2, fun hx => ns.1 x ((sn x).2 hx)⟩
        rw [hS] at u' c1
        rw [hg] at u' c1
        refine ⟨rfl, _, ?_, All2.mark (T := { T1 with K := nextK T1.S T1.K y gs }) ph hS M2 sn2 lf, c0, ?_⟩
        · rw [hS]
          simp only
          omega
        · rw [hS]
          simp only
          omega
    | sweep1 ph hS on lf =>
      refine .inr ⟨by omega, ?_⟩
      rw [step_sweep1 ph lf, hS]
      exact ⟨(free_made I A junk).1, 1, by omega, All2.sweep ph rfl on rfl, c0, by simp only; omega⟩
    | sweep ph hS on lf =>
      refine .inr ⟨by omega, ?_⟩
      rw [step_sweep0 ph lf]
      exact ⟨rfl, 0, by omega, All2.off rfl hS on lf, by simp only; omega, by simp only; omega⟩
    | off ph hS on lf => exact .inl ph) _ { T with K := (sAll S).foldl (mShade T.S) mStart, ph := 1 } ⟨All2.mark rfl rfl M hsn hl, hc.1, hcy⟩
  · refine ⟨n, E, ?_⟩
    cases A' with
    | mark ph hS M al lf => exact absurd E.off (by rw [ph]; omega)
    | sweep1 ph hS on lf => exact absurd E.off (by rw [ph]; omega)
    | sweep ph hS on lf => exact hS
    | off ph hS on lf => exact hS
end
section
variable {w0 : W0} {w w' w1 : World} {q s h m : Nat} {T T' : SS} {D D' : DS}
set_option maxHeartbeats 6400000 in
set_option maxRecDepth 100000 in
/-- Full at a list that is kept. -/
theorem ls_fullQ (H : LS w0 w s h m T) (vr : Value) (l : List Int) (hv : Rd i64e w vr l) (hl : l.length ≤ 4096) (hbd : ∀ x ∈ l, -9223372036854775808 ≤ x ∧ x ≤ 9223372036854775807) (hQ : ∀ b, vr.ownBlock = some b → w0.Q b)
    (junk : Int) (hx : -9223372036854775808 ≤ junk ∧ junk ≤ 9223372036854775807) (n1 n2 : Nat) {T1 T2 T3 : SS} {a1 a3 : List Int} (E1 : Ends T junk n1) (h1 : qIt T junk n1 = T1) (h2 : qBegin T1 l = (T2, 0)) (E2 : Ends T2 junk n2) (h3 : qIt T2 junk n2 = T3) (ha1 : sAll T1.S = a1) (ha3 : sAll T3.S = a3) (hn1 : a1.length ≤ 4096) (hn3 : a3.length ≤ 4096) :
    Calls Tryz.prog 26 #[.pointer (some ⟨s, 0, none⟩), vr, .int .i64 junk] w fun e w' => e = .returned (.tuple #[.int .i64 ((a1.length : Int) - a3.length), .int .i64 0]) ∧ LS w0 w' s h m T3 := by
  have c0 := H.cells.1
  have HG := Lib.hid (ls_good H)
  have HF := Lib.hid (ls_finish H junk n1 E1 hx)
  rw [h1] at HF
  have hrd : Hid (∀ {w' : World} {T' : SS}, LS w0 w' s h m T' → Rd i64e w' vr l) := Lib.hid fun h' => hv.same fun hp b e hlt => (h'.keepsQ (hQ b e)).2.trans (H.keepsQ (hQ b e)).2.symm
  have hnf : Hid (∀ b, vr.ownBlock = some b → ¬ w0.free b) := Lib.hid fun b e hfr => hfr.2 (hQ b e)
  obtain ⟨A, c, rfl, -⟩ := hv.len
  replace hbd := Lib.hid hbd
  replace hx := Lib.hid hx
  replace h2 := Lib.hid h2
  replace h3 := Lib.hid h3
  replace E1 := Lib.hid E1
  replace E2 := Lib.hid E2
  replace ha1 := Lib.hid ha1
  replace ha3 := Lib.hid ha3
  clear H hv hQ h1
  go_enter Tryz.func26, Tryz.ntmps26
  go_wp2_with fail
  refine HG.out.mono ?_
  rintro e _ ⟨rfl, rfl⟩
  clear HG
  go_wp2_with fail
  refine HF.out.mono ?_
  rintro e w2 ⟨rfl, H2⟩
  have c0 := H2.cells.1
  replace H2 := Lib.hid H2
  clear HF
  go_wp2_with fail
  refine (ls_allH H2.out ha1.out).mono ?_
  rintro e w3 ⟨A3, c3, rfl, _, _, _, H3⟩
  replace H3 := Lib.hid H3
  clear H2
  go_wp2_with fail
  refine (ls_beginQ H3.out _ l (hrd.out H3.out) hl hbd.out hnf.out).mono ?_
  rw [h2.out]
  rintro e w4 ⟨rfl, H4⟩
  replace H4 := Lib.hid H4
  clear H3
  go_wp2_with fail
  have HF := ls_finish H4.out junk n2 E2.out hx.out
  rw [h3.out] at HF
  refine HF.mono ?_
  rintro e w5 ⟨rfl, H5⟩
  have c0 := H5.cells.1
  replace H5 := Lib.hid H5
  clear H4 HF
  go_wp2_with fail
  refine (ls_allH H5.out ha3.out).mono ?_
  rintro e w6 ⟨A6, c6, rfl, _, _, _, H6⟩
  replace H6 := Lib.hid H6
  have hw : IntKind.i64.wrap ((a1.length : Int) - a3.length) = (a1.length : Int) - a3.length := by rw [IntKind.wrap_i64]; omega
  clear H5
  go_wp2_with fail
  go_ret2
  exact ⟨rfl, H6.out⟩
theorem lx_beginQ (H : LX w0 w q s h m T D) (vr : Value) (l : List Int) (hv : Rd i64e w vr l) (hl : l.length ≤ 4096) (hbd : ∀ x ∈ l, -9223372036854775808 ≤ x ∧ x ≤ 9223372036854775807) (hQ : ∀ b, vr.ownBlock = some b → w0.Q b) :
    Calls Tryz.prog 18 #[.pointer (some ⟨s, 0, none⟩), vr] w fun e w' => e = .returned (.int .i64 (qBegin T l).2) ∧ LX w0 w' q s h m (qBegin T l).1 D :=
  H.callQ (P := fun e _ => e = .returned (.int .i64 (qBegin T l).2)) (T' := (qBegin T l).1) fun v0 hv0 L => ls_beginQ L vr l hv hl hbd fun b e hfr => hfr.2 (hv0 b (hQ b e))
theorem lx_fullQ (H : LX w0 w q s h m T D) (vr : Value) (l : List Int) (hv : Rd i64e w vr l) (hl : l.length ≤ 4096) (hbd : ∀ x ∈ l, -9223372036854775808 ≤ x ∧ x ≤ 9223372036854775807) (hQ : ∀ b, vr.ownBlock = some b → w0.Q b)
    (junk : Int) (hx : -9223372036854775808 ≤ junk ∧ junk ≤ 9223372036854775807) (n1 n2 : Nat) {T1 T2 T3 : SS} {a1 a3 : List Int} (E1 : Ends T junk n1) (h1 : qIt T junk n1 = T1) (h2 : qBegin T1 l = (T2, 0)) (E2 : Ends T2 junk n2) (h3 : qIt T2 junk n2 = T3) (ha1 : sAll T1.S = a1) (ha3 : sAll T3.S = a3) (hn1 : a1.length ≤ 4096) (hn3 : a3.length ≤ 4096) :
    Calls Tryz.prog 26 #[.pointer (some ⟨s, 0, none⟩), vr, .int .i64 junk] w fun e w' => e = .returned (.tuple #[.int .i64 ((a1.length : Int) - a3.length), .int .i64 0]) ∧ LX w0 w' q s h m T3 D :=
  H.callQ (P := fun e _ => e = .returned (.tuple #[.int .i64 ((a1.length : Int) - a3.length), .int .i64 0])) fun v0 hv0 L => ls_fullQ L vr l hv hl hbd (fun b e => hv0 b (hQ b e)) junk hx n1 n2 E1 h1 h2 E2 h3 ha1 ha3 hn1 hn3
theorem lx_all2 (H : LX w0 w q s h m T D) : Calls Tryz.prog 17 #[.pointer (some ⟨h, 0, none⟩)] w fun e w' => ∃ A c, e = .returned (.slice A (sAll T.S).length c) ∧ Rd i64e w' (.slice A (sAll T.S).length c) (sAll T.S) ∧ (∀ b, (Value.slice A (sAll T.S).length c).ownBlock = some b → w.heap.size ≤ b ∧ b < w'.heap.size) ∧ Below w.heap.size w w' := by
  obtain ⟨v0, F, Dm, G, W, hF, b⟩ := H.ls
  refine (all_s h T.S F w W.mm.hp).mono ?_
  rintro e w' ⟨v, rfl, ho, hb⟩
  obtain ⟨A, c, rfl, _⟩ := own_form ho
  exact ⟨A, c, rfl, Rd.of_own ho, fun b e => ho.lt b e, hb⟩
theorem lx_size (H : LX w0 w q s h m T D) (p : Int) (hp : -9223372036854775808 ≤ p ∧ p ≤ 9223372036854775807) :
    Calls Tryz.prog 25 #[.pointer (some ⟨h, 0, none⟩), .int .i64 p] w fun e w' => e = .returned (.tuple #[.int .i64 (sSize T.S p).1, .int .u8 (sSize T.S p).2.1, .bool (sSize T.S p).2.2]) ∧ LX w0 w' q s h m T D :=
  H.call (P := fun e _ => e = .returned (.tuple #[.int .i64 (sSize T.S p).1, .int .u8 (sSize T.S p).2.1, .bool (sSize T.S p).2.2])) fun v0 L => ls_sizeH L rfl hp
theorem lx_fits (H : LX w0 w q s h m T D) (n : Int) : Calls Tryz.prog 29 #[.pointer (some ⟨h, 0, none⟩), .int .i64 n] w fun e w' => e = .returned (.bool (sFits T.S n)) ∧ LX w0 w' q s h m T D :=
  H.call (P := fun e _ => e = .returned (.bool (sFits T.S n))) fun v0 L => ls_fitsH L rfl
theorem lx_alloc (H : LX w0 w q s h m T D) : Calls Tryz.prog 22 #[.pointer (some ⟨s, 0, none⟩), .int .i64 2, .int .u8 3, .int .i64 0] w fun e w' => e = .returned (.tuple #[.int .i64 (qAlloc T 2 3 0).2.1, .int .i64 (qAlloc T 2 3 0).2.2]) ∧ LX w0 w' q s h m (qAlloc T 2 3 0).1 D := by
  have hpb := alloc_bd H.inv
  exact H.call (P := fun e _ => e = .returned (.tuple #[.int .i64 (qAlloc T 2 3 0).2.1, .int .i64 (qAlloc T 2 3 0).2.2])) fun v0 L => ls_alloc L 2 3 0 (by omega) (by omega) hpb
end
end Go.Proofs.YtcaboknbdamlhaaGreatDoor
namespace Go.Proofs.YtcaboknbdamlhaaGreatDoor
open Go.RowKit Go.Maps

theorem mapi_law : Keyed Tryz.prog 3 := int_keyed Tryz.underlying3
theorem mapb_zero (w : World) : (zeroValue 4).run Tryz.prog w = .ok (.bool false) w := by kernel_rfl
/-- Block b is a map that has true just at the numbers ks, each listed once; at most n entries. -/
def SetM (w : World) (b n : Nat) (ks : List Int) : Prop :=
  ∃ D : DataW Unit, w.ownsMap Tryz.prog 3 (plainElem Tryz.prog 4) b n D ∧ (∀ x, D.atKey (.int .i64 x) (.lit (.bool false)) = .lit (.bool (decide (x ∈ ks)))) ∧ (∀ x, Maps.has D (.int .i64 x) = decide (x ∈ ks)) ∧ ks.Nodup ∧ Maps.size D = ks.length
theorem SetM.new (w : World) : SetM (w.alloc (.map #[] 0)) w.heap.size 0 [] := ⟨.map [], World.ownsMap_made _ _ _ _, fun _ => rfl, fun _ => rfl, by simp, rfl⟩
theorem SetM.kept {w w' : World} {b n : Nat} {ks : List Int} (h : SetM w b n ks) (hb : Below w.heap.size w w') : SetM w' b n ks := by
  obtain ⟨D, h1, h2⟩ := h
  exact ⟨D, h1.kept (row := none) ⟨hb.os, hb.tape, hb.output, hb.size, fun k hk _ => hb.block k hk⟩ (by simp), h2⟩
theorem SetM.lt {w : World} {b n : Nat} {ks : List Int} (h : SetM w b n ks) : b < w.heap.size := by
  obtain ⟨D, h1, _⟩ := h
  exact h1.lt
theorem SetM.look {w : World} {b n : Nat} {ks : List Int} (h : SetM w b n ks) (x : Int) (hw : (Lit.int .i64 x).wf = true) :
    (Instr.lookup 47 (.map (some b)) (.int .i64 x) false).run Tryz.prog w = .ok (.bool (decide (x ∈ ks))) w := by
  obtain ⟨D, h1, h2, _⟩ := h
  obtain ⟨v, ps, hrun, hv⟩ := h1.lookup mapi_law Tryz.underlying47 (mapb_zero w) (plainElem_bool Tryz.underlying4 false) (keyOf_int_mk Tryz.underlying3 hw)
  rw [h2 x] at hv
  rw [hrun]
  cases v <;> simp [plainElem, Tryz.underlying4] at hv
  rw [hv.1]
def addK (ks : List Int) (x : Int) : List Int := if x ∈ ks then ks else ks ++ [x]
theorem mem_addK {ks : List Int} {x y : Int} : y ∈ addK ks x ↔ y ∈ ks ∨ y = x := by
  unfold addK
  split
  · rename_i h
    exact ⟨.inl, fun e => e.elim id fun e => e ▸ h⟩
  · simp
theorem addK_nodup {ks : List Int} {x : Int} (h : ks.Nodup) : (addK ks x).Nodup := by
  unfold addK
  split
  · exact h
  · rename_i hx
    rw [List.nodup_append]
    exact ⟨h, by simp, fun a ha b hb e => by rw [List.mem_singleton] at hb; subst hb e; exact hx ha⟩
theorem addK_len (ks : List Int) (x : Int) : (addK ks x).length ≤ ks.length + 1 := by
  unfold addK
  split <;> simp
theorem SetM.put {w' : World} {b n : Nat} {ks : List Int} {x : Int} {D : DataW Unit} (ht : Tidy D) (hkey : WideAt.IsKeyLit (.int .i64 x)) (h2 : ∀ x, D.atKey (.int .i64 x) (.lit (.bool false)) = .lit (.bool (decide (x ∈ ks)))) (h3 : ∀ x, Maps.has D (.int .i64 x) = decide (x ∈ ks)) (h4 : ks.Nodup) (h5 : Maps.size D = ks.length)
    (h1 : w'.ownsMap Tryz.prog 3 (plainElem Tryz.prog 4) b (n + 1) (D.put (.int .i64 x) (.lit (.bool true)))) : SetM w' b (n + 1) (addK ks x) := by
  have ne : ∀ {y : Int}, y ≠ x → (Lit.int .i64 y) ≠ .int .i64 x := by
    intro y h e
    injection e with _ e
    exact h e
  refine ⟨_, h1, fun y => ?_, fun y => ?_, addK_nodup h4, ?_⟩
  · by_cases e : y = x
    · subst e
      rw [atKey_put_same ht.isMap hkey, decide_eq_true (mem_addK.2 (.inr rfl))]
    · rw [atKey_put_other (ne e), h2 y]
      congr 3
      exact propext ⟨fun h => mem_addK.2 (.inl h), fun h => (mem_addK.1 h).elim id fun h => absurd h e⟩
  · by_cases e : y = x
    · subst e
      rw [has_put_same ht.isMap hkey, decide_eq_true (mem_addK.2 (.inr rfl))]
    · rw [has_put_other (ne e), h3 y, decide_eq_decide, mem_addK]
      exact ⟨.inl, fun h => h.elim id fun h => absurd h e⟩
  · rw [size_put ht, h3 x, h5]
    unfold addK
    by_cases e : x ∈ ks
    · rw [if_pos e, if_pos (decide_eq_true e)]
    · rw [if_neg e, if_neg (by simp [e])]
      simp
section
variable {w : World} {ops : Array Oper} {rest : List Oper} {o : Oper} {a : Act} {Q : Exit → Act → World → Prop}
theorem wpList_setm_new (hgd : o.guard = none) (ho : o.op = .makeMap 47 none)
    (hrun : (execOp a.eval o).run Tryz.prog w = .ok (.value (.map (some w.heap.size))) (w.alloc (.map #[] 0)))
    (h : ∀ w', w'.heap.size = w.heap.size + 1 → Below w.heap.size w w' → SetM w' w.heap.size 0 [] → wpList Tryz.prog ops Q rest (a.put o.dst (.map (some w.heap.size))) w') : wpList Tryz.prog ops Q (o :: rest) a w := by
  refine wpList_plain hgd fun K hK => ?_
  unfold Oper.wp
  rw [hrun]
  exact hK _ _ (h _ (by simp) (below_alloc w _) (SetM.new w))
theorem wpList_setm_put (hgd : o.guard = none) (m x v : Operand) (ho : o.op = .mapUpdate 47 m x v) {b n : Nat} {ks : List Int} (hS : SetM w b n ks) (hm : a.eval m = .map (some b)) (hn : n < maxLen)
    (y : Int) (hx : a.eval x = .int .i64 y) (hv : a.eval v = .bool true) (hw : (Lit.int .i64 y).wf = true)
    (h : ∀ w', SetM w' b (n + 1) (addK ks y) → w.grownBy w' (some b) → wpList Tryz.prog ops Q rest (a.put o.dst undef) w') : wpList Tryz.prog ops Q (o :: rest) a w := by
  obtain ⟨D, h1, h2, h3, h4, h5⟩ := hS
  exact wpList_mapUpdate_own _ hgd m x v _ ho _ _ mapi_law Tryz.underlying47 _ b n D hm h1 hn _ _ (.int .i64 y) hx hv (keyOf_int_mk Tryz.underlying3 hw) (.lit (.bool true)) [] (plainElem_bool Tryz.underlying4 true)
    fun w' h6 h7 => h w' (SetM.put (h1.tidy mapi_law) trivial h2 h3 h4 h5 h6) h7
theorem wpList_setm_len (hgd : o.guard = none) (m : Operand) (ho : o.op = Op.call { callee := Callee.builtin Builtin.len, args := #[m], argTypes := #[47] }) {b n : Nat} {ks : List Int} (hS : SetM w b n ks) (hm : a.eval m = .map (some b))
    (h : wpList Tryz.prog ops Q rest (a.put o.dst (.int .i64 (ks.length : Nat))) w) : wpList Tryz.prog ops Q (o :: rest) a w := by
  obtain ⟨D, h1, h2, h3, h4, h5⟩ := hS
  refine wpList_len_own _ hgd m _ ho _ _ Tryz.underlying47 _ b n D hm h1 ?_
  rw [h5]
  exact h
end
end Go.Proofs.YtcaboknbdamlhaaGreatDoor
namespace Go.Proofs.YtcaboknbdamlhaaGreatDoor
open Go.RowKit Go.Maps
theorem SetM.of_block {w w' : World} {b n : Nat} {ks : List Int} (h : SetM w b n ks) (hb : w'.heap[b]? = w.heap[b]?) : SetM w' b n ks := by
  obtain ⟨D, ⟨es, clock, h1, h2⟩, h3⟩ := h
  exact ⟨D, ⟨es, clock, hb.trans h1, h2⟩, h3⟩
theorem SetM.not_cells {w : World} {b n : Nat} {ks : List Int} (h : SetM w b n ks) {o : Nat} {v : Value} (hc : w.cell? ⟨b, o, none⟩ = some v) : False := by
  obtain ⟨D, ⟨es, clock, h1, h2⟩, h3⟩ := h
  simp [World.cell?, h1] at hc
/-- 'for x := range m' under way: block r the iterator, cnt still to come. -/
def SetR (w : World) (b r n : Nat) (ks : List Int) (cnt : Nat) : Prop :=
  ∃ (D : DataW Unit) (left : Lit → Bool), w.ranges Tryz.prog 3 (plainElem Tryz.prog 4) b r n D left cnt ∧ (∀ x, left (.int .i64 x) = true → x ∈ ks)
theorem SetR.left {w : World} {b r n : Nat} {ks : List Int} {cnt : Nat} (h : SetR w b r n ks cnt) : w.rangeLeft b r = cnt := by
  obtain ⟨D, left, h1, _⟩ := h
  exact h1.left_eq
section
variable {w : World} {ops : Array Oper} {rest : List Oper} {o : Oper} {a : Act} {Q : Exit → Act → World → Prop}
theorem wpList_setm_range (hg : o.guard = none) (m : Operand) (hop : o.op = Op.range 47 m) {b n : Nat} {ks : List Int} (hS : SetM w b n ks) (hm : a.eval m = .map (some b))
    (hK : ∀ w' cnt, SetR w' b w.heap.size n ks cnt → Below w.heap.size w w' → w'.heap.size = w.heap.size + 1 → wpList Tryz.prog ops Q rest (a.put o.dst (.pointer (some ⟨w.heap.size, 0, none⟩))) w') :
    wpList Tryz.prog ops Q (o :: rest) a w := by
  obtain ⟨D, h1, h2, h3, h4, h5⟩ := hS
  refine wpList_range_own _ hg m _ hop 3 4 mapi_law Tryz.underlying47 _ b n D hm h1 ?_
  intro w' hr hg' hs
  refine hK w' _ ⟨D, _, hr, fun x hx => ?_⟩ ⟨hg'.os, hg'.tape, hg'.output, hg'.size, fun k hk => hg'.block k hk (by simp)⟩ hs
  rw [h3 x] at hx
  exact of_decide_eq_true hx
theorem wpList_setm_next (hg : o.guard = none) (it : Operand) (hop : o.op = Op.next it false) {b r n cnt : Nat} {ks : List Int} (h : SetR w b r n ks cnt) (hit : a.eval it = .pointer (some ⟨r, 0, none⟩))
    (hDone : wpList Tryz.prog ops Q rest (a.put o.dst (.tuple #[.bool false])) w)
    (hMore : ∀ (x : Int) (c : Value) (w' : World) (cnt' : Nat), x ∈ ks → (Lit.int .i64 x).wf = true → SetR w' b r n ks cnt' → cnt' < cnt → w.grownBy w' (some r) → w'.heap.size = w.heap.size → (Instr.entry (.pointer (some ⟨r, 0, none⟩))).run Tryz.prog w' = .ok (.tuple #[.int .i64 x, c]) w' → wpList Tryz.prog ops Q rest (a.put o.dst (.tuple #[.bool true, .int .i64 x, c])) w') :
    wpList Tryz.prog ops Q (o :: rest) a w := by
  obtain ⟨D, left, hr, hl⟩ := h
  refine wpList_next_ranges w hg it hop 3 mapi_law (plainElem Tryz.prog 4) (Value.int .i64) Value.bool
    (fun key kl hkey => by obtain ⟨x, rfl, _⟩ := Maps.keyOf_int_inv Tryz.underlying3 hkey; exact ⟨x, rfl⟩)
    (fun v y hv => by
      cases v <;> simp [plainElem, Tryz.underlying4] at hv
      exact ⟨_, rfl⟩) b r n D left cnt hit hr (fun _ _ => hDone) fun x c kl y w' cnt' hkey hlk hv hat hrg hlt hgr hsz hen => ?_
  obtain ⟨x', ex, rfl, hwx⟩ := Maps.keyOf_int_inv Tryz.underlying3 hkey
  cases ex
  exact hMore x (.bool c) w' cnt' (hl x hlk) hwx ⟨D, _, hrg, fun z hz => hl z (by
    have := hz
    simp only [Bool.and_eq_true] at this
    exact this.1)⟩ hlt hgr hsz hen
end
end Go.Proofs.YtcaboknbdamlhaaGreatDoor
namespace Go.Proofs.YtcaboknbdamlhaaGreatDoor
open Go.RowKit Go.Shelf
def TailR (w : World) (B : Nat) (v : Value) (xs : List Int) : Prop :=
  (v = .slice none 0 0 ∧ xs = []) ∨ ∃ g o cap cur, v = .slice (some ⟨g, o, none⟩) xs.length cap ∧ B ≤ g ∧ w.heap[g]? = some (.cells cur 3 (0, 0)) ∧ xs.length ≤ cap ∧ cap ≤ maxLen ∧ o + cap ≤ cur.size ∧ ∀ i (h : i < xs.length), cur[o + i]? = some (.int .i64 xs[i])
section
variable {w w' : World} {B : Nat} {v : Value} {xs : List Int}
theorem TailR.form (h : TailR w B v xs) : ∃ A c, v = .slice A xs.length c := by
  rcases h with ⟨rfl, rfl⟩ | ⟨g, o, cap, cur, rfl, _⟩
  · exact ⟨none, 0, rfl⟩
  · exact ⟨_, _, rfl⟩
theorem TailR.lt (h : TailR w B v xs) : ∀ k, v.ownBlock = some k → B ≤ k ∧ k < w.heap.size := by
  intro k hk
  rcases h with ⟨rfl, _⟩ | ⟨g, o, cap, cur, rfl, hb, hg, _⟩
  · cases hk
  · have e : g = k := by simpa [Value.ownBlock] using hk
    subst e
    exact ⟨hb, (Array.getElem?_eq_some_iff.1 hg).1⟩
theorem TailR.own {n : Nat} (h : w.ownsRow B 3 1 v n (xs.map i64e)) : TailR w B v xs := by
  have hn : n = xs.length := by have := h.1; rw [List.length_map] at this; omega
  subst hn
  rcases h.2 with ⟨rfl, h0⟩ | ⟨g, cap, cur, rfl, hb, hg, hnc, hcm, hcs, ht⟩
  · exact .inl ⟨rfl, List.eq_nil_of_length_eq_zero h0⟩
  · refine .inr ⟨g, 0, cap, cur, rfl, hb, hg, hnc, hcm, by omega, fun i hi => ?_⟩
    have h1 : (cur.toList.take (xs.length * 1))[i]? = some (.int .i64 xs[i]) := by
      rw [ht, List.getElem?_map, List.getElem?_eq_getElem hi]
      rfl
    rw [List.getElem?_take, if_pos (by omega)] at h1
    rw [Nat.zero_add]
    simpa using h1
theorem TailR.kept (h : TailR w B v xs) (hk : ∀ k, v.ownBlock = some k → k < w.heap.size → w'.heap[k]? = w.heap[k]?) : TailR w' B v xs := by
  rcases h with h | ⟨g, o, cap, cur, rfl, hb, hg, rest⟩
  · exact .inl h
  · exact .inr ⟨g, o, cap, cur, rfl, hb, (hk g rfl (Array.getElem?_eq_some_iff.1 hg).1).trans hg, rest⟩
theorem TailR.below (h : TailR w B v xs) (hb : Below w.heap.size w w') : TailR w' B v xs := h.kept fun k _ hlt => hb.block k hlt
/-- Its first number. -/
theorem TailR.head {x : Int} (h : TailR w B v (x :: xs)) : ∃ g o cap, v = .slice (some ⟨g, o, none⟩) (xs.length + 1) cap ∧ 1 ≤ cap ∧ w.cell? ⟨g, o, none⟩ = some (.int .i64 x) ∧ (cap = 1 → TailR w B (.slice (some ⟨g, o, none⟩) 0 0) xs) ∧ (cap ≠ 1 → TailR w B (.slice (some ⟨g, o + 1, none⟩) xs.length (cap - 1)) xs) ∧ xs.length + 1 ≤ cap ∧ cap ≤ maxLen := by
  rcases h with ⟨_, h⟩ | ⟨g, o, cap, cur, rfl, hb, hg, hnc, hcm, hcs, hx⟩
  · cases h
  · have hl : (x :: xs).length = xs.length + 1 := rfl
    rw [hl] at hnc
    refine ⟨g, o, cap, rfl, by omega, ?_, fun hc => ?_, fun hc => ?_, hnc, hcm⟩
    · have h0 := hx 0 (by rw [hl]; omega)
      rw [cell_of_row w g o cur _ (0, 0) hg]
      simpa using h0
    · have : xs = [] := List.eq_nil_of_length_eq_zero (by omega)
      subst this
      exact .inr ⟨g, o, 0, cur, rfl, hb, hg, Nat.le_refl _, Nat.zero_le _, by omega, fun i hi => absurd hi (Nat.not_lt_zero _)⟩
    · refine .inr ⟨g, o + 1, cap - 1, cur, rfl, hb, hg, by omega, by omega, by omega, fun i hi => ?_⟩
      have h0 := hx (i + 1) (by rw [hl]; omega)
      rw [show o + 1 + i = o + (i + 1) by omega, h0]
      rfl
end
theorem run_append_off {P : Program} (w : World) (t ty e : TypeId) (i : TypeInfo) (ht : P.underlying t = some (.slice e)) (hi : P.info? e = some i) (h1 : i.size = 1)
    (g o sLen sCap : Nat) (cur : Array Value) (hg : w.heap[g]? = some (.cells cur e (0, 0)))
    (a : Addr) (c : Nat) (u : Value) (hnews : w.cell? a = some u) (hu : u.oneCell' = true)
    (hroom : sLen + 1 ≤ sCap) (hfit : o + sLen + 1 ≤ cur.size) :
    (Builtin.append_ #[t, t] ty #[.slice (some ⟨g, o, none⟩) sLen sCap, .slice (some a) 1 c]).run P w =
      .ok (.slice (some ⟨g, o, none⟩) (sLen + 1) sCap) (w.setRow g (cur.toList.take (o + sLen) ++ [u] ++ cur.toList.drop (o + sLen + 1)).toArray) := by
  have ha0 : a.add 0 = a := by
    unfold Addr.add
    split <;> simp_all
  have hf := run_firstCells_some (P := P) w i.size 1 a 1 c [u] (by rw [h1]; rfl) (fun j v hv => by
    have hj : j = 0 := by
      have := (List.getElem?_eq_some_iff.1 hv).1
      simp at this
      exact this
    subst hj
    simp at hv
    subst hv
    rw [ha0]
    exact hnews)
  have hst := run_storeCells_at P g (o + sLen) e [u] 0 cur w hg (by simpa using hfit) (by intro y hy; rw [List.mem_singleton.1 hy]; exact hu)
  have hadd : (⟨g, o, none⟩ : Addr).add sLen = ⟨g, o + sLen, none⟩ := Addr.add_mid g o sLen
  simp only [Nat.add_zero, List.length_singleton] at hst
  rw [h1] at hf
  simp [Builtin.append_, run_underlying ht, sizeOf, typeInfo, hi, Builtin.lenOf, hroom, hf, h1, hadd, hst]
/-- One number more. -/
theorem wpList_push_tail {w0 : World} {ops : Array Oper} {rest : List Oper} {o : Oper} {a : Act} {Q : Exit → Act → World → Prop} (hgd : o.guard = none) (s x : Operand)
    (ho : o.op = .call { callee := .builtin .append, args := #[s, x], argTypes := #[36, 36] })
    (B : Nat) (v : Value) (xs : List Int) (hs : a.eval s = v) (hT : TailR w0 B v xs) (y : Int)
    (hx : a.eval x = .slice (some ⟨w0.heap.size, 0, none⟩) 1 1) (hn : xs.length ≤ 100000) (hbase : B ≤ w0.heap.size)
    (h : ∀ v' w', TailR w' B v' (xs ++ [y]) → Below B w0 w' → w0.heap.size ≤ w'.heap.size → (∀ k, k < w0.heap.size → v.ownBlock ≠ some k → w'.heap[k]? = w0.heap[k]?) → (∀ k, v'.ownBlock = some k → v.ownBlock = some k ∨ w0.heap.size ≤ k) → wpList Tryz.prog ops Q rest (a.put o.dst v') w') :
    wpList Tryz.prog ops Q (o :: rest) a (w0.alloc (.cells #[.int .i64 y] 3)) := by
  obtain ⟨i, hi1, hz, hsize, hby⟩ := info_parts (P := Tryz.prog) (e := 3) int_info
  have hcell : (w0.alloc (.cells #[.int .i64 y] 3)).cell? ⟨w0.heap.size, 0, none⟩ = some (.int .i64 y) := (Blk.new w0 3 #[.int .i64 y]).cell 0
  rcases hT with ⟨rfl, rfl⟩ | ⟨g, off, cap, cur, rfl, hb, hg, hnc, hcm, hcs, hxs⟩
  · refine wpList_push hgd s x _ ho B 3 _ 8 Tryz.underlying36 int_info rfl (.slice none 0 0) 0 [] hs (World.ownsRow_nil _ _ _ _) (.int .i64 y) rfl hx (by unfold maxLen; omega) (by omega) hbase fun v' w' h1 h2 h3 => ?_
    have h1' : w'.ownsRow B 3 1 v' 1 (([y] : List Int).map i64e) := h1
    refine h v' w' (TailR.own h1') ⟨h2.os, h2.tape, h2.output, h2.size, fun k hk => h2.block k (by omega) (by simp [Value.ownBlock])⟩ h2.size (fun k hk _ => h2.block k hk (by simp [Value.ownBlock])) fun k hk => ?_
    rcases h3 with e | e
    · rw [hk] at e; cases e
    · rw [hk] at e
      injection e with e
      exact .inr (by omega)
  · have hgl : g < w0.heap.size := (Array.getElem?_eq_some_iff.1 hg).1
    have hg1 : (w0.alloc (.cells #[.int .i64 y] 3)).heap[g]? = some (.cells cur 3 (0, 0)) := (Below.heap_alloc w0 _ g hgl).trans hg
    have hsz : (w0.alloc (.cells #[.int .i64 y] 3)).heap.size = w0.heap.size + 1 := by simp
    refine wpList_plain hgd fun K hK => ?_
    by_cases hroom : xs.length + 1 ≤ cap
    · have hr := run_append_off (P := Tryz.prog) (w0.alloc (.cells #[.int .i64 y] 3)) 36 o.type 3 i Tryz.underlying36 hi1 hsize g off xs.length cap cur hg1 ⟨w0.heap.size, 0, none⟩ 1 (.int .i64 y) hcell rfl hroom (by omega)
      unfold Oper.wp execOp
      simp only [ho, resolve, invoke, builtin, Sem.run_bind, Sem.run_pure, Result.andThen_ok, List.map_toArray, List.map_cons, List.map_nil, hs, hx, hr]
      have hrow := setRow_heap (w0.alloc (.cells #[.int .i64 y] 3)) g cur (cur.toList.take (off + xs.length) ++ [Value.int .i64 y] ++ cur.toList.drop (off + xs.length + 1)).toArray 3 (0, 0) hg1
      have hoth : ∀ k, k ≠ g → ((w0.alloc (.cells #[.int .i64 y] 3)).setRow g (cur.toList.take (off + xs.length) ++ [Value.int .i64 y] ++ cur.toList.drop (off + xs.length + 1)).toArray).heap[k]? = (w0.alloc (.cells #[.int .i64 y] 3)).heap[k]? := fun k hk => setRow_other _ g k _ hk
      have hsr : ((w0.alloc (.cells #[.int .i64 y] 3)).setRow g (cur.toList.take (off + xs.length) ++ [Value.int .i64 y] ++ cur.toList.drop (off + xs.length + 1)).toArray).heap.size = w0.heap.size + 1 := by rw [size_setRow, hsz]
      refine hK _ _ (h _ _ (.inr ⟨g, off, cap, _, by rw [List.length_append]; rfl, hb, hrow, by rw [List.length_append]; exact hroom, hcm, ?_, fun j hj => ?_⟩) ⟨rfl, rfl, rfl, by rw [hsr]; omega, fun k hk => (hoth k (by omega)).trans (Below.heap_alloc w0 _ k (by omega))⟩ (by rw [hsr]; omega) (fun k hk hne => (hoth k fun e => hne (by rw [e]; rfl)).trans (Below.heap_alloc w0 _ k hk)) fun k hk => .inl hk)
      · simp only [List.size_toArray, List.length_append, List.length_take, List.length_drop, Array.length_toList, List.length_singleton]
        omega
      · have hcl : cur.toList.length = cur.size := Array.length_toList
        rw [List.getElem?_toArray]
        rw [List.length_append] at hj
        simp only [List.length_singleton] at hj
        by_cases hj2 : j < xs.length
        · rw [List.append_assoc, List.getElem?_append_left (by rw [List.length_take]; omega), List.getElem?_take, if_pos (by omega)]
          rw [List.getElem_append_left hj2]
          have := hxs j hj2
          simpa using this
        · obtain rfl : j = xs.length := by omega
          rw [List.append_assoc, List.getElem?_append_right (by rw [List.length_take]; omega), List.length_take, Nat.min_eq_left (by omega)]
          simp
    · have hcap : cap = xs.length := by omega
      subst hcap
      have hr := run_append_grow (P := Tryz.prog) (w0.alloc (.cells #[.int .i64 y] 3)) 36 o.type 3 i _ Tryz.underlying36 hi1 hz ⟨g, off, none⟩ xs.length xs.length (xs.map i64e) (by rw [List.length_map, hsize]; omega) (fun j u hu => by
        have hj : j < xs.length := by have := (List.getElem?_eq_some_iff.1 hu).1; simpa using this
        rw [List.getElem?_map, List.getElem?_eq_getElem hj] at hu
        have hu2 : i64e xs[j] = u := by simpa using hu
        rw [Addr.add_mid, cell_of_row _ g (off + j) cur _ (0, 0) hg1, hxs j hj, ← hu2]) ⟨w0.heap.size, 0, none⟩ 1 1 [.int .i64 y] (by rw [hsize]; rfl) (cell_one_new w0 _ _) (by omega) (by omega) (growslice_fits (by omega) (by rw [hby]; omega))
      unfold Oper.wp execOp
      simp only [ho, resolve, invoke, builtin, Sem.run_bind, Sem.run_pure, Result.andThen_ok, List.map_toArray, List.map_cons, List.map_nil, hs, hx, hr]
      have hge := grownCap_ge (w0.alloc (.cells #[.int .i64 y] 3)) (xs.length + 1) xs.length 3
      have hgm := grownCap_le_maxLen (w0.alloc (.cells #[.int .i64 y] 3)) (xs.length + 1) xs.length 3 (by unfold maxLen; omega)
      generalize grownCap (w0.alloc (.cells #[.int .i64 y] 3)) (xs.length + 1) xs.length 3 = gc at hge hgm ⊢
      have hd : (w0.alloc (.cells #[.int .i64 y] 3)).drew.heap = (w0.alloc (.cells #[.int .i64 y] 3)).heap := rfl
      refine hK _ _ (h _ _ (.inr ⟨_, 0, gc, _, by rw [List.length_append]; rfl, (by show B ≤ (w0.alloc (.cells #[.int .i64 y] 3)).heap.size; rw [hsz]; omega), heap_alloc_new (w0.alloc (.cells #[.int .i64 y] 3)).drew _, by rw [List.length_append]; exact hge, hgm, ?_, fun j hj => ?_⟩) ⟨rfl, rfl, rfl, by simp; omega, fun k hk => (heap_alloc_old (w0.alloc (.cells #[.int .i64 y] 3)).drew _ k (by show k < (w0.alloc (.cells #[.int .i64 y] 3)).heap.size; omega)).trans (Below.heap_alloc w0 _ k (by omega))⟩ (by simp; omega) (fun k hk _ => (heap_alloc_old (w0.alloc (.cells #[.int .i64 y] 3)).drew _ k (by show k < (w0.alloc (.cells #[.int .i64 y] 3)).heap.size; omega)).trans (Below.heap_alloc w0 _ k hk)) fun k hk => .inr ?_)
      · simp only [Array.size_append, List.size_toArray, size_zeroCells, List.length_map, List.length_singleton]
        have : (Value.cells (.int .i64 0)).size = 1 := rfl
        rw [this]
        omega
      · rw [Nat.zero_add]
        rw [List.length_append] at hj
        simp only [List.length_singleton] at hj
        rw [Array.getElem?_append_left (by simp; omega)]
        by_cases hj2 : j < xs.length
        · rw [Array.getElem?_append_left (by simp; omega), List.getElem_append_left hj2]
          simp [hj2]
        · obtain rfl : j = xs.length := by omega
          rw [Array.getElem?_append_right (by simp)]
          simp
      · have e : (w0.alloc (.cells #[.int .i64 y] 3)).heap.size = k := by simpa [Value.ownBlock] using hk
        omega
end Go.Proofs.YtcaboknbdamlhaaGreatDoor
namespace Go.Proofs.YtcaboknbdamlhaaGreatDoor
open Go.RowKit Go.Shelf
/-- What can be reached from some numbers. -/
inductive RcS (S : HS) (l : List Int) : Int → Prop
  | root {x : Int} (h : x ∈ l) (h0 : x ≠ 0) : RcS S l x
  | fld {y : Int} (h : RcS S l y) (f : Nat) (hf : f < 2) (h0 : fldA S y f ≠ 0) : RcS S l (fldA S y f)
theorem RcS.good {S : HS} {l : List Int} (I : Inv0 S) (C : Clo S) (hl : ∀ x ∈ l, Good S x) {x : Int} (h : RcS S l x) : mIs S x = true := by
  induction h with
  | root h h0 => exact (hl _ h).resolve_left h0
  | fld h f hf h0 ih => exact (C.good I ih hf).resolve_left h0
structure RI (S : HS) (l td ks : List Int) (n : Nat) : Prop where
  tdR : ∀ x ∈ td, x = 0 ∨ RcS S l x
  ksR : ∀ x ∈ ks, RcS S l x
  nd : ks.Nodup
  n : n ≤ ks.length
  root : ∀ x ∈ l, x ≠ 0 → x ∈ ks ∨ x ∈ td
  clo : ∀ y ∈ ks, ∀ f : Nat, f < 2 → fldA S y f ≠ 0 → fldA S y f ∈ ks ∨ fldA S y f ∈ td
  tl : td.length ≤ 4096 + 2 * ks.length
section
variable {S : HS} {l td ks : List Int} {n : Nat} {x : Int}
theorem RI.start (hl : l.length ≤ 4096) : RI S l l [] 0 :=
  ⟨fun x hx => if h : x = 0 then .inl h else .inr (.root hx h), fun x hx => (by cases hx), by simp, Nat.le_refl _, fun x hx _ => .inr hx, fun y hy => (by cases hy), by simp; omega⟩
theorem RI.skip (R : RI S l (x :: td) ks n) (h : x = 0 ∨ x ∈ ks) : RI S l td ks n :=
  ⟨fun y hy => R.tdR y (List.mem_cons_of_mem _ hy), R.ksR, R.nd, R.n, fun y hy h0 => (R.root y hy h0).elim .inl fun h1 => (List.mem_cons.1 h1).elim (fun e => h.elim (fun e0 => absurd (e.trans e0) h0) fun h2 => .inl (e ▸ h2)) .inr,
    fun y hy f hf h0 => (R.clo y hy f hf h0).elim .inl fun h1 => (List.mem_cons.1 h1).elim (fun e => h.elim (fun e0 => absurd (e.trans e0) h0) fun h2 => .inl (e ▸ h2)) .inr, by have := R.tl; simp only [List.length_cons] at this; omega⟩
theorem RI.take (R : RI S l (x :: td) ks n) (h0 : x ≠ 0) (hk : x ∉ ks) : RI S l (td ++ [fldA S x 0, fldA S x 1]) (ks ++ [x]) (n + 1) := by
  have hx : RcS S l x := (R.tdR x (by simp)).resolve_left h0
  refine ⟨fun y hy => ?_, fun y hy => ?_, ?_, ?_, fun y hy hy0 => ?_, fun y hy f hf hf0 => ?_, ?_⟩
  · rcases List.mem_append.1 hy with h | h
    · exact R.tdR y (List.mem_cons_of_mem _ h)
    · by_cases e : y = 0
      · exact .inl e
      · simp only [List.mem_cons, List.not_mem_nil, or_false] at h
        rcases h with rfl | rfl
        · exact .inr (.fld hx 0 (by omega) e)
        · exact .inr (.fld hx 1 (by omega) e)
  · rcases List.mem_append.1 hy with h | h
    · exact R.ksR y h
    · rw [List.mem_singleton.1 h]; exact hx
  · rw [List.nodup_append]
    exact ⟨R.nd, by simp, fun a ha b hb e => by rw [List.mem_singleton] at hb; subst hb e; exact hk ha⟩
  · have := R.n
    simp
    omega
  · rcases R.root y hy hy0 with h | h
    · exact .inl (List.mem_append_left _ h)
    · rcases List.mem_cons.1 h with rfl | h
      · exact .inl (List.mem_append_right _ (by simp))
      · exact .inr (List.mem_append_left _ h)
  · rcases List.mem_append.1 hy with h | h
    · rcases R.clo y h f hf hf0 with h | h
      · exact .inl (List.mem_append_left _ h)
      · rcases List.mem_cons.1 h with e | h
        · exact .inl (List.mem_append_right _ (by simp [e]))
        · exact .inr (List.mem_append_left _ h)
    · rw [List.mem_singleton.1 h]
      rcases (by omega : f = 0 ∨ f = 1) with rfl | rfl
      · exact .inr (List.mem_append_right _ (by simp))
      · exact .inr (List.mem_append_right _ (by simp))
  · have := R.tl
    simp only [List.length_cons, List.length_append, List.length_nil] at this ⊢
    omega
theorem RI.done (R : RI S l [] ks n) (x : Int) : x ∈ ks ↔ RcS S l x := by
  refine ⟨R.ksR x, fun h => ?_⟩
  induction h with
  | root h h0 => exact (R.root _ h h0).resolve_right (by simp)
  | fld h f hf h0 ih => exact (R.clo _ ih f hf h0).resolve_right (by simp)
theorem RI.len (R : RI S l td ks n) (I : Inv0 S) (C : Clo S) (hl : ∀ x ∈ l, Good S x) : ks.length ≤ 4096 :=
  nodup_lenI 4096 _ R.nd fun x hx => by have := mis_pos I ((R.ksR x hx).good I C hl); omega
end
/-- The walk is on its way: so many rounds are left at most. -/
def RP (w : World) (bm : Nat) (S : HS) (l : List Int) (v : Value) (wr : World) (d : Nat) : Prop :=
  ∃ td ks n, TailR wr (bm + 1) v td ∧ SetM wr bm n ks ∧ Below w.heap.size w wr ∧ RI S l td ks n ∧ d = 2 * (4096 - ks.length) + td.length
section
variable {w0 : W0} {w w' w1 : World} {q s h m : Nat} {T T' : SS} {D D' : DS}
theorem lx_load (H : LX w0 w q s h m T D) (p f : Int) (hp : -9223372036854775808 ≤ p ∧ p ≤ 9223372036854775807) :
    Calls Tryz.prog 28 #[.pointer (some ⟨h, 0, none⟩), .int .i64 p, .int .i64 f] w fun e w' => e = .returned (.tuple #[.int .i64 (sLoad T.S p f).1, .int .i64 (sLoad T.S p f).2]) ∧ Below w.heap.size w w' := by
  obtain ⟨v0, F, Dm, G, W, hF, b⟩ := H.ls
  exact load_s h T.S F w p f W.mm.hp hp.1 hp.2
theorem wf_i64 {x : Int} (h : 0 ≤ x ∧ x ≤ 4096) : (Lit.int .i64 x).wf = true := by
  simp [Lit.wf, IntKind.min, IntKind.max, IntKind.signed, IntKind.bits]; omega
set_option maxHeartbeats 12800000 in
set_option maxRecDepth 100000 in
theorem lx_reach (H : LX w0 w q s h m T D) (C : Clo T.S) (vr : Value) (l : List Int) (hv : Rd i64e w vr l) (hl : l.length ≤ 4096) (hg : ∀ x ∈ l, Good T.S x) :
    Calls Tryz.prog 16 #[.pointer (some ⟨h, 0, none⟩), vr] w fun e w' => ∃ bm n ks, e = .returned (.map (some bm)) ∧ SetM w' bm n ks ∧ n ≤ 4096 ∧ w.heap.size ≤ bm ∧ (∀ x, x ∈ ks ↔ RcS T.S l x) ∧ Below w.heap.size w w' := by
  obtain ⟨A, c, rfl, hlc, -⟩ := hv.len
  have I := Lib.hid H.inv.toInv0
  replace C := Lib.hid C
  replace hg := Lib.hid hg
  obtain ⟨S, hS⟩ : ∃ S, S = T.S := ⟨_, rfl⟩
  rw [← hS] at I C hg ⊢
  have HLd : Hid (∀ (wx : World) (x : Int) (f : Nat), Below w.heap.size w wx → mIs S x = true → f < 2 → Calls Tryz.prog 28 #[.pointer (some ⟨h, 0, none⟩), .int .i64 x, .int .i64 f] wx fun e w' => e = .returned (.tuple #[.int .i64 (fldA S x f), .int .i64 0]) ∧ Below wx.heap.size wx w') := Lib.hid fun wx x f hb hx hf => by
    have hxb := mis_pos I.out hx
    have := lx_load (H.below hb) x f (by omega)
    rw [← hS, C.out.load I.out hx hf] at this
    exact this
  replace hS := Lib.hid hS
  replace hv := Lib.hid hv
  clear H
  go_enter Tryz.func16, Tryz.ntmps16
  go_wp2_with (refine wpList_setm_new rfl rfl (by kernel_rfl) ?_; intro w1 hs1 hb1 hS1; refine stop_here ?_)
  obtain ⟨bm, hbm⟩ : ∃ bm, bm = w.heap.size := ⟨_, rfl⟩
  rw [← hbm] at hS1 ⊢
  have hz1 : bm + 1 ≤ w1.heap.size := by omega
  have hv1 := Lib.hid (hv.out.below hb1)
  replace hS1 := Lib.hid hS1
  replace hbm := Lib.hid hbm
  refine go_on ?_
  go_wp2_with (at_builtin; refine wpList_append_all rfl (.const (.slice none 0 0)) (.tmp 12) _ rfl (bm + 1) 3 _ 8 Tryz.underlying36 int_info rfl (.slice none 0 0) 0 [] rfl (World.ownsRow_nil _ _ _ _) i64e _ l (fun _ => rfl) rfl hv1.out (by unfold maxLen; omega) (by omega) hz1 ?_; intro v2 w2 hown2 hg2 hat2; refine stop_here ?_)
  have hown2 : w2.ownsRow (bm + 1) 3 1 v2 l.length (l.map i64e) := by simpa using hown2
  have hb12 : Below w1.heap.size w1 w2 := ⟨hg2.os, hg2.tape, hg2.output, hg2.size, fun k hk => hg2.block k hk (by simp [Value.ownBlock])⟩
  have hb2 := hb1.trans (hb12.mono hb1.size)
  have hS2 := hS1.out.kept hb12
  have R0 : Hid (∃ d, RP w bm S l v2 w2 d) := Lib.hid ⟨_, l, [], 0, TailR.own hown2, hS2, hb2, RI.start hl, rfl⟩
  obtain ⟨A2, c2, rfl, -⟩ := own_form hown2
  clear hown2 hg2 hat2 hb12 hS2 hb2 hS1 hs1 hb1 hz1 hv1
  refine go_on ?_
  go_wp2_with fail
  go_loopw [6] (fun vt wr => Hid (∃ d, RP w bm S l vt wr d)) (fun vt wr => mea (RP w bm S l vt wr))
  case atStart => exact R0
  case round =>
    clear R0
    have hsp := mea_spec hrel.out
    obtain ⟨d, hd⟩ : ∃ d, d = mea (RP w bm S l u6 wr) := ⟨_, rfl⟩
    rw [← hd] at hsp
    obtain ⟨td, ks, n, TR, SM, hbw, R, hdd⟩ := hsp
    replace hd := Lib.hid hd
    have hkl := R.len I.out C.out hg.out
    rcases td with _ | ⟨x, td⟩
    · obtain ⟨At, ct, rfl⟩ := TR.form
      have hfin := Lib.hid (show ∃ bm' n' ks', Value.map (some bm) = .map (some bm') ∧ SetM wr bm' n' ks' ∧ n' ≤ 4096 ∧ w.heap.size ≤ bm' ∧ (∀ x, x ∈ ks' ↔ RcS S l x) ∧ Below w.heap.size w wr from ⟨bm, n, ks, rfl, SM, by have := R.n; omega, by have := hbm.out; omega, R.done, hbw⟩)
      have hz : ([] : List Int).length = 0 := rfl
      rw [hz]
      clear hrel hd TR SM R hdd hkl
      go_wp2_with fail
      go_ret
      obtain ⟨bm', n', ks', e, h1⟩ := hfin.out
      cases e
      exact ⟨bm, n', ks', rfl, h1⟩
    · have hxr := R.tdR x (by simp)
      have hxb : 0 ≤ x ∧ x ≤ 4096 := by
        rcases hxr with rfl | h
        · omega
        · have := mis_pos I.out (h.good I.out C.out hg.out); omega
      obtain ⟨gq, oq, cq, rfl, hc1, hcell, ht1, ht2, hcl, hcm⟩ := TR.head
      have hlk := SM.look x (wf_i64 hxb)
      have htl := R.tl
      simp only [List.length_cons] at htl hdd
      have hgl := TR.lt gq rfl
      have z1 : (0 : Int) < (td.length : Int) + 1 := by omega
      have z2 : (1 : Int) ≤ (td.length : Int) + 1 := by omega
      have z3 : (td.length : Int) + 1 ≤ (cq : Int) := by omega
      have z4 : decide ((0 : Int) < (td.length : Int) + 1) = true := decide_eq_true z1
      by_cases hc0 : cq = 1
      · subst hc0
        have TR2 := ht1 rfl
        have htd : td = [] := List.eq_nil_of_length_eq_zero (by omega)
        subst htd
        clear ht1 ht2
        have hz : ([] : List Int).length = 0 := rfl
        rw [hz] at z1 z2 z3 z4 ⊢
        replace hd : Hid (d = mea (RP w bm S l (.slice (some ⟨gq, oq, none⟩) (0 + 1) 1) wr)) := hd
        replace TR2 := Lib.hid TR2
        replace hrel := Lib.hid hrel
        replace hcl := Lib.hid hcl
        replace TR := Lib.hid TR
        by_cases hskip : x = 0 ∨ x ∈ ks
        · have hnext : Hid (RP w bm S l (.slice (some ⟨gq, oq, none⟩) 0 0) wr (2 * (4096 - ks.length) + ([] : List Int).length)) := Lib.hid ⟨[], ks, n, TR2.out, SM, hbw, R.skip hskip, rfl⟩
          have hdec : Hid (2 * (4096 - ks.length) + ([] : List Int).length < d) := Lib.hid (by omega)
          replace SM := Lib.hid SM
          replace R := Lib.hid R
          replace hdd := Lib.hid hdd
          by_cases h0 : x = 0
          · subst h0
            clear hxr hxb hskip hlk
            go_wp2_with fail
            go_roundw
            case rel => exact Lib.hid ⟨_, hnext.out⟩
            case measure =>
              have h1 := mea_le hnext.out
              have h2 := hd.out
              have h3 := hdec.out
              omega
          · have hk : x ∈ ks := hskip.resolve_left h0
            rw [decide_eq_true hk] at hlk
            have y1 : (x == 0) = false := beq_eq_false_iff_ne.2 h0
            replace hxr := Lib.hid hxr
            replace hskip := Lib.hid hskip
            replace hk := Lib.hid hk
            go_wp2_with fail
            go_roundw
            case rel => exact Lib.hid ⟨_, hnext.out⟩
            case measure =>
              have h1 := mea_le hnext.out
              have h2 := hd.out
              have h3 := hdec.out
              omega
        · have h0 : x ≠ 0 := fun e => hskip (.inl e)
          have hk : x ∉ ks := fun e => hskip (.inr e)
          have hxo : mIs S x = true := (hxr.resolve_left h0).good I.out C.out hg.out
          have R2 := R.take h0 hk
          have hkl2 := R2.len I.out C.out hg.out
          have hdec : Hid (2 * (4096 - (ks ++ [x]).length) + (([] : List Int) ++ [fldA S x 0, fldA S x 1]).length < d) := Lib.hid (by
            simp only [List.length_append, List.length_cons, List.length_nil] at hkl2 ⊢
            omega)
          have hadd : addK ks x = ks ++ [x] := by unfold addK; rw [if_neg hk]
          have hn9 : n < maxLen := by have := R.n; unfold maxLen; omega
          have hwf := Lib.hid (wf_i64 hxb)
          have htn : ([] : List Int).length ≤ 20000 := by omega
          rw [decide_eq_false hk] at hlk
          have y1 : (x == 0) = false := beq_eq_false_iff_ne.2 h0
          replace SM := Lib.hid SM
          replace R := Lib.hid R
          replace R2 := Lib.hid R2
          replace hdd := Lib.hid hdd
          replace hxr := Lib.hid hxr
          replace hskip := Lib.hid hskip
          replace hk := Lib.hid hk
          replace hxo := Lib.hid hxo
          replace hadd := Lib.hid hadd
          replace hkl2 := Lib.hid hkl2
          go_wp2_with (refine wpList_setm_put rfl (.tmp 29) (.tmp 30) (.const (.bool true)) rfl SM.out rfl hn9 x rfl rfl hwf.out ?_; intro w4 hS4 hg4; replace hS4 := Lib.hid hS4)
          have TR4 : Hid (TailR w4 (bm + 1) (.slice (some ⟨gq, oq, none⟩) 0 0) ([] : List Int)) := Lib.hid (TR2.out.kept fun k hk hlt => hg4.block k hlt (by intro e; cases e; have := (TR2.out.lt _ hk).1; omega))
          have hb4 : Hid (Below w.heap.size w w4) := Lib.hid (hbw.grown hg4 hbw.size (fun k hk => by cases hk; have := hbm.out; omega))
          replace hS4 : Hid (SetM w4 bm (n + 1) (ks ++ [x])) := Lib.hid (by have := hS4.out; rw [hadd.out] at this; exact this)
          have hbl4 : Hid (bm + 1 ≤ w4.heap.size) := Lib.hid (by have := hS4.out.lt; omega)
          clear hlk hg4 hcell hgl z1 z2 z3 z4 hbw
          go_loopw [6, 31] (fun vq fi wq => ∃ f : Nat, f ≤ 2 ∧ fi = .int .i64 f ∧ Hid (TailR wq (bm + 1) vq (([] : List Int) ++ (List.range f).map (fldA S x))) ∧ Hid (SetM wq bm (n + 1) (ks ++ [x])) ∧ Hid (Below w.heap.size w wq)) (fun _ fi _ => 2 - (intOf fi).toNat)
          case atStart => exact ⟨0, by omega, rfl, Lib.hid (by simpa using TR4.out), hS4, hb4⟩
          case round =>
            clear hS4 TR4 hb4 hbl4
            obtain ⟨f, hf, rfl, TRq, SMq, hbq⟩ := hrel
            by_cases hlt : f < 2
            · have tf : (f : Int) < 2 := by omega
              obtain ⟨Aq, cq2, rfl⟩ := TRq.out.form
              have hle : (([] : List Int) ++ (List.range f).map (fldA S x)).length ≤ 100000 := by
                simp only [List.length_append, List.length_map, List.length_range]
                omega
              have sa : (([] : List Int) ++ (List.range f).map (fldA S x)) ++ [fldA S x f] = [] ++ (List.range (f + 1)).map (fldA S x) := by
                rw [List.range_succ, List.map_append, List.append_assoc]
                rfl
              obtain ⟨L, hL⟩ : ∃ L, L = [] ++ (List.range f).map (fldA S x) := ⟨_, rfl⟩
              rw [← hL] at TRq sa hle ⊢
              have HL := Lib.hid (HLd.out _ x f hbq.out hxo.out hlt)
              obtain ⟨y, hy⟩ : ∃ y, y = fldA S x f := ⟨_, rfl⟩
              rw [← hy] at HL sa
              replace hL := Lib.hid hL
              replace hy := Lib.hid hy
              replace sa := Lib.hid sa
              go_wp2_with fail
              refine HL.out.mono ?_
              rintro e w6 ⟨rfl, b6⟩
              have TR6 := TRq.out.below b6
              have SM6 := Lib.hid (SMq.out.kept b6)
              have hb6 := Lib.hid (hbq.out.trans (b6.mono hbq.out.size))
              have hbs6 : bm + 1 ≤ w6.heap.size := by have := SM6.out.lt; omega
              clear HL TRq SMq hbq b6
              go_wp2_with (at_builtin; refine wpList_push_tail rfl (.tmp 41) (.tmp 43) rfl (bm + 1) _ L rfl TR6 y rfl hle hbs6 ?_; intro v7 w7 hT7 hb7 hz7 ho7 hw7; refine stop_here ?_)
              rw [sa.out] at hT7
              have SM7 : Hid (SetM w7 bm (n + 1) (ks ++ [x])) := Lib.hid (SM6.out.of_block (ho7 bm (by omega) (fun e => by have := (TR6.lt _ e).1; omega)))
              have hb7w : Hid (Below w.heap.size w w7) := Lib.hid (hb6.out.trans (hb7.mono (by have := hbm.out; omega)))
              replace hT7 := Lib.hid hT7
              clear TR6 SM6 hb6 hb7 hz7 ho7 hw7
              refine go_on ?_
              go_wp2_with fail
              go_roundw
              case rel => exact ⟨f + 1, by omega, by go_num, hT7, SM7, hb7w⟩
              case measure => simp [intOf]; omega
            · obtain rfl : f = 2 := by omega
              have hnext : Hid (RP w bm S l _ _ (2 * (4096 - (ks ++ [x]).length) + (([] : List Int) ++ [fldA S x 0, fldA S x 1]).length)) := Lib.hid ⟨[] ++ [fldA S x 0, fldA S x 1], ks ++ [x], n + 1, TRq.out, SMq.out, hbq.out, R2.out, rfl⟩
              obtain ⟨Aq, cq2, rfl⟩ := TRq.out.form
              clear TRq SMq
              go_wp2_with fail
              go_roundw
              case rel => exact Lib.hid ⟨_, hnext.out⟩
              case measure =>
                have h1 := mea_le hnext.out
                have h2 := hd.out
                have h3 := hdec.out
                omega
      · have TR2 := ht2 hc0
        clear ht1 ht2
        replace TR2 := Lib.hid TR2
        replace hrel := Lib.hid hrel
        replace hcl := Lib.hid hcl
        replace TR := Lib.hid TR
        by_cases hskip : x = 0 ∨ x ∈ ks
        · have hnext : Hid (RP w bm S l (.slice (some ⟨gq, oq + 1, none⟩) td.length (cq - 1)) wr (2 * (4096 - ks.length) + td.length)) := Lib.hid ⟨td, ks, n, TR2.out, SM, hbw, R.skip hskip, rfl⟩
          have hdec : Hid (2 * (4096 - ks.length) + td.length < d) := Lib.hid (by omega)
          replace SM := Lib.hid SM
          replace R := Lib.hid R
          replace hdd := Lib.hid hdd
          by_cases h0 : x = 0
          · subst h0
            clear hxr hxb hskip hlk
            go_wp2_with fail
            go_roundw
            case rel => exact Lib.hid ⟨_, hnext.out⟩
            case measure =>
              have h1 := mea_le hnext.out
              have h2 := hd.out
              have h3 := hdec.out
              omega
          · have hk : x ∈ ks := hskip.resolve_left h0
            rw [decide_eq_true hk] at hlk
            have y1 : (x == 0) = false := beq_eq_false_iff_ne.2 h0
            replace hxr := Lib.hid hxr
            replace hskip := Lib.hid hskip
            replace hk := Lib.hid hk
            go_wp2_with fail
            go_roundw
            case rel => exact Lib.hid ⟨_, hnext.out⟩
            case measure =>
              have h1 := mea_le hnext.out
              have h2 := hd.out
              have h3 := hdec.out
              omega
        · have h0 : x ≠ 0 := fun e => hskip (.inl e)
          have hk : x ∉ ks := fun e => hskip (.inr e)
          have hxo : mIs S x = true := (hxr.resolve_left h0).good I.out C.out hg.out
          have R2 := R.take h0 hk
          have hkl2 := R2.len I.out C.out hg.out
          have hdec : Hid (2 * (4096 - (ks ++ [x]).length) + (td ++ [fldA S x 0, fldA S x 1]).length < d) := Lib.hid (by
            simp only [List.length_append, List.length_cons, List.length_nil] at hkl2 ⊢
            omega)
          have hadd : addK ks x = ks ++ [x] := by unfold addK; rw [if_neg hk]
          have hn9 : n < maxLen := by have := R.n; unfold maxLen; omega
          have hwf := Lib.hid (wf_i64 hxb)
          have htn : td.length ≤ 20000 := by omega
          rw [decide_eq_false hk] at hlk
          have y1 : (x == 0) = false := beq_eq_false_iff_ne.2 h0
          replace SM := Lib.hid SM
          replace R := Lib.hid R
          replace R2 := Lib.hid R2
          replace hdd := Lib.hid hdd
          replace hxr := Lib.hid hxr
          replace hskip := Lib.hid hskip
          replace hk := Lib.hid hk
          replace hxo := Lib.hid hxo
          replace hadd := Lib.hid hadd
          replace hkl2 := Lib.hid hkl2
          go_wp2_with (refine wpList_setm_put rfl (.tmp 29) (.tmp 30) (.const (.bool true)) rfl SM.out rfl hn9 x rfl rfl hwf.out ?_; intro w4 hS4 hg4; replace hS4 := Lib.hid hS4)
          have TR4 : Hid (TailR w4 (bm + 1) (.slice (some ⟨gq, oq + 1, none⟩) td.length (cq - 1)) td) := Lib.hid (TR2.out.kept fun k hk hlt => hg4.block k hlt (by intro e; cases e; have := (TR2.out.lt _ hk).1; omega))
          have hb4 : Hid (Below w.heap.size w w4) := Lib.hid (hbw.grown hg4 hbw.size (fun k hk => by cases hk; have := hbm.out; omega))
          replace hS4 : Hid (SetM w4 bm (n + 1) (ks ++ [x])) := Lib.hid (by have := hS4.out; rw [hadd.out] at this; exact this)
          have hbl4 : Hid (bm + 1 ≤ w4.heap.size) := Lib.hid (by have := hS4.out.lt; omega)
          clear hlk hg4 hcell hgl z1 z2 z3 z4 hbw
          go_loopw [6, 31] (fun vq fi wq => ∃ f : Nat, f ≤ 2 ∧ fi = .int .i64 f ∧ Hid (TailR wq (bm + 1) vq (td ++ (List.range f).map (fldA S x))) ∧ Hid (SetM wq bm (n + 1) (ks ++ [x])) ∧ Hid (Below w.heap.size w wq)) (fun _ fi _ => 2 - (intOf fi).toNat)
          case atStart => exact ⟨0, by omega, rfl, Lib.hid (by simpa using TR4.out), hS4, hb4⟩
          case round =>
            clear hS4 TR4 hb4 hbl4
            obtain ⟨f, hf, rfl, TRq, SMq, hbq⟩ := hrel
            by_cases hlt : f < 2
            · have tf : (f : Int) < 2 := by omega
              obtain ⟨Aq, cq2, rfl⟩ := TRq.out.form
              have hle : (td ++ (List.range f).map (fldA S x)).length ≤ 100000 := by
                simp only [List.length_append, List.length_map, List.length_range]
                omega
              have sa : (td ++ (List.range f).map (fldA S x)) ++ [fldA S x f] = td ++ (List.range (f + 1)).map (fldA S x) := by
                rw [List.range_succ, List.map_append, List.append_assoc]
                rfl
              obtain ⟨L, hL⟩ : ∃ L, L = td ++ (List.range f).map (fldA S x) := ⟨_, rfl⟩
              rw [← hL] at TRq sa hle ⊢
              have HL := Lib.hid (HLd.out _ x f hbq.out hxo.out hlt)
              obtain ⟨y, hy⟩ : ∃ y, y = fldA S x f := ⟨_, rfl⟩
              rw [← hy] at HL sa
              replace hL := Lib.hid hL
              replace hy := Lib.hid hy
              replace sa := Lib.hid sa
              go_wp2_with fail
              refine HL.out.mono ?_
              rintro e w6 ⟨rfl, b6⟩
              have TR6 := TRq.out.below b6
              have SM6 := Lib.hid (SMq.out.kept b6)
              have hb6 := Lib.hid (hbq.out.trans (b6.mono hbq.out.size))
              have hbs6 : bm + 1 ≤ w6.heap.size := by have := SM6.out.lt; omega
              clear HL TRq SMq hbq b6
              go_wp2_with (at_builtin; refine wpList_push_tail rfl (.tmp 41) (.tmp 43) rfl (bm + 1) _ L rfl TR6 y rfl hle hbs6 ?_; intro v7 w7 hT7 hb7 hz7 ho7 hw7; refine stop_here ?_)
              rw [sa.out] at hT7
              have SM7 : Hid (SetM w7 bm (n + 1) (ks ++ [x])) := Lib.hid (SM6.out.of_block (ho7 bm (by omega) (fun e => by have := (TR6.lt _ e).1; omega)))
              have hb7w : Hid (Below w.heap.size w w7) := Lib.hid (hb6.out.trans (hb7.mono (by have := hbm.out; omega)))
              replace hT7 := Lib.hid hT7
              clear TR6 SM6 hb6 hb7 hz7 ho7 hw7
              refine go_on ?_
              go_wp2_with fail
              go_roundw
              case rel => exact ⟨f + 1, by omega, by go_num, hT7, SM7, hb7w⟩
              case measure => simp [intOf]; omega
            · obtain rfl : f = 2 := by omega
              have hnext : Hid (RP w bm S l _ _ (2 * (4096 - (ks ++ [x]).length) + (td ++ [fldA S x 0, fldA S x 1]).length)) := Lib.hid ⟨td ++ [fldA S x 0, fldA S x 1], ks ++ [x], n + 1, TRq.out, SMq.out, hbq.out, R2.out, rfl⟩
              obtain ⟨Aq, cq2, rfl⟩ := TRq.out.form
              clear TRq SMq
              go_wp2_with fail
              go_roundw
              case rel => exact Lib.hid ⟨_, hnext.out⟩
              case measure =>
                have h1 := mea_le hnext.out
                have h2 := hd.out
                have h3 := hdec.out
                omega
end
end Go.Proofs.YtcaboknbdamlhaaGreatDoor
namespace Go.Proofs.YtcaboknbdamlhaaGreatDoor
def uStart (D : DS) : DS := { D with ph := 1, greys := [], black := [] }
def uBegin (D : DS) (l : List Int) : DS × Int :=
  if D.ph ≠ 0 then (D, 8) else if l.any (mBad D.S) = true then (D, 11) else (l.foldl uShade (uStart D), 0)
/-- The first j words of an object are looked through. -/
def uScan (D : DS) (p mask : Int) : Nat → DS × Int
  | 0 => (D, 0)
  | j + 1 => if (uScan D p mask j).2 ≠ 0 ∨ mBit mask j = false then uScan D p mask j
    else if mBad D.S (sLoad D.S p j).1 = true then ((uScan D p mask j).1, 11)
    else (uShade (uScan D p mask j).1 (sLoad D.S p j).1, 0)
def uTake (D : DS) (p : Int) (gs : List Int) : DS := { D with greys := gs, black := D.black ++ [p] }
def uLook (D : DS) : DS × Bool × Int :=
  match D.greys with
  | [] => (D, false, 0)
  | p :: gs => if (uScan (uTake D p gs) p (sSize D.S p).2.1 (sSize D.S p).1.toNat).2 = 0 then ((uScan (uTake D p gs) p (sSize D.S p).2.1 (sSize D.S p).1.toNat).1, true, 0)
    else ((uScan (uTake D p gs) p (sSize D.S p).2.1 (sSize D.S p).1.toNat).1, false, (uScan (uTake D p gs) p (sSize D.S p).2.1 (sSize D.S p).1.toNat).2)
def uWhite (D : DS) : List Int := (sAll D.S).filter fun x => decide (x ∉ D.black)
def uStep (D : DS) (junk : Int) : DS × Int × Int :=
  if D.ph = 1 then
    if (uLook D).2.2 ≠ 0 then ((uLook D).1, 0, (uLook D).2.2)
    else if (uLook D).2.1 = true then ((uLook D).1, 1, 0)
    else ({ D with left := uWhite D, ph := 2 }, 2, 0)
  else if D.ph = 0 then (D, 0, 0)
  else match D.left with
    | [] => ({ D with ph := 0, cyc := D.cyc + 1 }, 0, 0)
    | x :: l => if (sFree D.S x junk).2 ≠ 0 then (D, 0, (sFree D.S x junk).2) else ({ D with S := (sFree D.S x junk).1, left := l }, 2, 0)
theorem ushade_same (D : DS) (p : Int) : (uShade D p).S = D.S ∧ (uShade D p).ph = D.ph ∧ (uShade D p).left = D.left ∧ (uShade D p).cyc = D.cyc ∧ (uShade D p).black = D.black := by
  unfold uShade
  split <;> exact ⟨rfl, rfl, rfl, rfl, rfl⟩
theorem ufold_same : ∀ (l : List Int) (D : DS), (l.foldl uShade D).S = D.S ∧ (l.foldl uShade D).ph = D.ph ∧ (l.foldl uShade D).left = D.left ∧ (l.foldl uShade D).cyc = D.cyc ∧ (l.foldl uShade D).black = D.black
  | [], D => ⟨rfl, rfl, rfl, rfl, rfl⟩
  | x :: l, D => by
    obtain ⟨a, b, c, d, e⟩ := ufold_same l (uShade D x)
    obtain ⟨a', b', c', d', e'⟩ := ushade_same D x
    exact ⟨a.trans a', b.trans b', c.trans c', d.trans d', e.trans e'⟩
theorem uscan_same (D : DS) (p mask : Int) : ∀ j, (uScan D p mask j).1.S = D.S ∧ (uScan D p mask j).1.ph = D.ph ∧ (uScan D p mask j).1.left = D.left ∧ (uScan D p mask j).1.cyc = D.cyc ∧ (uScan D p mask j).1.black = D.black
  | 0 => ⟨rfl, rfl, rfl, rfl, rfl⟩
  | j + 1 => by
    have ih := uscan_same D p mask j
    unfold uScan
    split
    · exact ih
    · split
      · exact ih
      · obtain ⟨a, b, c, d, e⟩ := ih
        obtain ⟨a', b', c', d', e'⟩ := ushade_same (uScan D p mask j).1 (sLoad D.S p j).1
        exact ⟨a'.trans a, b'.trans b, c'.trans c, d'.trans d, e'.trans e⟩
theorem uscan_stop {D : DS} {p mask : Int} {j : Nat} (h : (uScan D p mask j).2 ≠ 0) : ∀ k, uScan D p mask (j + k) = uScan D p mask j
  | 0 => rfl
  | k + 1 => by
    have ih := uscan_stop h k
    show (if (uScan D p mask (j + k)).2 ≠ 0 ∨ mBit mask (j + k) = false then uScan D p mask (j + k) else _) = _
    rw [if_pos (.inl (by rw [ih]; exact h)), ih]
/-- How long the greys may grow. -/
theorem ushade_len (D : DS) (p : Int) : (uShade D p).greys.length ≤ D.greys.length + 1 := by
  unfold uShade
  split
  · exact Nat.le_succ _
  · simp
theorem ufold_len : ∀ (l : List Int) (D : DS), (l.foldl uShade D).greys.length ≤ D.greys.length + l.length
  | [], D => Nat.le_refl _
  | x :: l, D => by
    have h1 := ufold_len l (uShade D x)
    have h2 := ushade_len D x
    simp only [List.foldl_cons, List.length_cons]
    omega
theorem uscan_len (D : DS) (p mask : Int) : ∀ j, (uScan D p mask j).1.greys.length ≤ D.greys.length + j
  | 0 => Nat.le_refl _
  | j + 1 => by
    have ih := uscan_len D p mask j
    unfold uScan
    split
    · omega
    · split
      · show (uScan D p mask j).1.greys.length ≤ _
        omega
      · have := ushade_len (uScan D p mask j).1 (sLoad D.S p j).1
        show (uShade (uScan D p mask j).1 (sLoad D.S p j).1).greys.length ≤ _
        omega
end Go.Proofs.YtcaboknbdamlhaaGreatDoor
namespace Go.Proofs.YtcaboknbdamlhaaGreatDoor
/-- Marking: the greys are the document's, what is seen is grey or black. -/
structure CpK (S : HS) (K : MK) (D : DS) : Prop where
  mi : MI S K
  gr : K.greys = D.greys
  sn : ∀ x, K.seen x = true ↔ x ∈ D.greys ∨ x ∈ D.black
  nd : (D.greys ++ D.black).Nodup
inductive CpP (T : SS) (D : DS) : Prop
  | off (ph : T.ph = 0) (on : T.K.on = false) (lf : T.left = [])
  | mark (ph : T.ph = 1) (lf : T.left = []) (ck : CpK T.S T.K D)
  | sweep (ph : T.ph = 2) (on : T.K.on = false) (nd : T.left.Nodup) (lo : ∀ x ∈ T.left, mIs T.S x = true)
structure Cp (T : SS) (D : DS) (c : Nat) : Prop where
  S : D.S = T.S
  ph : D.ph = T.ph
  lf : D.left = T.left
  cy : D.cyc = T.cyc
  cb : 0 ≤ T.cyc ∧ T.cyc ≤ c
  nb : T.S.objs.length ≤ c
  gb : D.greys.length ≤ c ∧ D.black.length ≤ c
  st : CpP T D
section
variable {S S' : HS} {K : MK} {T : SS} {D : DS} {c : Nat}
theorem nodup_sub {S : HS} (I : Inv0 S) {l : List Int} (nd : l.Nodup) (h : ∀ x ∈ l, mIs S x = true) : l.length ≤ S.objs.length := by
  have := cyc_len (T := ⟨S, mStart, 0, l, 0⟩) I nd h
  rw [all_len] at this
  exact this
theorem CpK.len (I : Inv0 S) (C : CpK S K D) : D.greys.length + D.black.length ≤ S.objs.length := by
  have := nodup_sub I C.nd fun x hx => C.mi.obj x ((C.sn x).2 (List.mem_append.1 hx))
  rwa [List.length_append] at this
theorem Cp.mono (H : Cp T D c) {d : Nat} (h : c ≤ d) : Cp T D d :=
  ⟨H.S, H.ph, H.lf, H.cy, ⟨H.cb.1, by have := H.cb.2; omega⟩, Nat.le_trans H.nb h, ⟨Nat.le_trans H.gb.1 h, Nat.le_trans H.gb.2 h⟩, H.st⟩
theorem Cp.dlen (H : Cp T D c) (hc : c ≤ 4000) : DLen D := ⟨Nat.le_trans H.gb.1 hc, Nat.le_trans H.gb.2 hc⟩
theorem Cp.sok (H : Cp T D c) (I : Inv0 T.S) (hc : c ≤ 4000) : SOk T := by
  have hcb := H.cb
  cases H.st with
  | off ph on lf => exact ⟨.inl ph, by omega, by rw [lf]; simp, by rw [lf]; simp⟩
  | mark ph lf ck => exact ⟨.inr (.inl ⟨ph, ck.mi.on⟩), by omega, by rw [lf]; simp, by rw [lf]; simp⟩
  | sweep ph on nd lo =>
    have := nodup_sub I nd lo
    have h2 := I.objs_len
    exact ⟨.inr (.inr ph), by omega, fun x hx => by have := mis_pos I (lo x hx); omega, by omega⟩
theorem cp_new (N : Nat) : Cp (q0 N) (u0 N) 0 := ⟨rfl, rfl, rfl, rfl, ⟨Int.le_refl 0, Int.le_refl 0⟩, Nat.le_refl 0, ⟨Nat.le_refl 0, Nat.le_refl 0⟩, .off rfl rfl rfl⟩
theorem bad_iff (S : HS) (x : Int) : mBad S x = false ↔ Good S x := by
  unfold mBad Good
  by_cases h : x = 0
  · simp [h]
  · cases mIs S x <;> simp [h]
theorem bad_iff' (S : HS) (x : Int) : mBad S x = true ↔ ¬ Good S x := by
  rw [← bad_iff S x]
  cases mBad S x <;> simp
theorem known_bad (M : MI S K) {p : Int} (hb : ¬ Good S p) : mKnown S K p = (false, 11) := by
  unfold mKnown
  rw [if_neg (fun h => h.elim (fun h => by rw [M.on] at h; cases h) fun h => hb (.inl h)), if_neg fun h => hb (.inr h)]
theorem shade_bad (M : MI S K) {p : Int} (hb : ¬ Good S p) : mShade S K p = K := by
  unfold mShade
  rw [known_bad M hb, if_neg (by simp)]
theorem cpk_shade (I : Inv0 S) (C : CpK S K D) {p : Int} (hg : Good S p) : CpK S (mShade S K p) (uShade D p) := by
  have hM := (mi_shade I C.mi hg).1
  by_cases h0 : p = 0
  · have e1 : mShade S K p = K := by unfold mShade; rw [known_good C.mi hg, if_neg (by simp [h0])]
    have e2 : uShade D p = D := by unfold uShade; rw [if_pos (.inl h0)]
    rw [e1, e2]
    exact C
  · by_cases hs : K.seen p = true
    · have e1 : mShade S K p = K := by unfold mShade; rw [if_neg (by simp [hs])]
      have e2 : uShade D p = D := by unfold uShade; rw [if_pos (.inr ((C.sn p).1 hs))]
      rw [e1, e2]
      exact C
    · have hs' : K.seen p = false := by simpa using hs
      have hno : ¬ (p ∈ D.greys ∨ p ∈ D.black) := fun h => hs ((C.sn p).2 h)
      have e1 : mShade S K p = { mSee K p with greys := K.greys ++ [p] } := by unfold mShade; rw [known_good C.mi hg, if_pos ⟨by simp [h0], hs'⟩]
      have e2 : uShade D p = { D with greys := D.greys ++ [p] } := by unfold uShade; rw [if_neg (fun h => h.elim h0 hno)]
      rw [e1] at hM
      rw [e1, e2]
      refine ⟨hM, by show K.greys ++ [p] = D.greys ++ [p]; rw [C.gr], fun x => ?_, ?_⟩
      · show (x == p || K.seen x) = true ↔ x ∈ D.greys ++ [p] ∨ x ∈ D.black
        rw [Bool.or_eq_true, beq_iff_eq, C.sn, List.mem_append, List.mem_singleton]
        constructor
        · rintro (h | h | h)
          · exact .inl (.inr h)
          · exact .inl (.inl h)
          · exact .inr h
        · rintro ((h | h) | h)
          · exact .inr (.inl h)
          · exact .inl h
          · exact .inr (.inr h)
      · show (D.greys ++ [p] ++ D.black).Nodup
        rw [List.append_assoc]
        refine (List.perm_middle (l₁ := D.greys) (a := p) (l₂ := D.black)).nodup_iff.2 (List.nodup_cons.2 ⟨?_, C.nd⟩)
        rw [List.mem_append]
        exact hno
theorem cpk_scan (I : Inv0 S) (hS : D.S = S) (C : CpK S K D) (p mask : Int) : ∀ j, CpK S (mScan S p mask K j).1 (uScan D p mask j).1 ∧ (mScan S p mask K j).2 = (uScan D p mask j).2
  | 0 => ⟨C, rfl⟩
  | j + 1 => by
    obtain ⟨ih1, ih2⟩ := cpk_scan I hS C p mask j
    unfold mScan uScan
    rw [ih2, hS]
    by_cases h : (uScan D p mask j).2 ≠ 0 ∨ mBit mask j = false
    · rw [if_pos h, if_pos h]
      exact ⟨ih1, ih2⟩
    · rw [if_neg h, if_neg h]
      by_cases hg : Good S (sLoad S p j).1
      · rw [if_neg (by rw [(bad_iff S _).2 hg]; simp), known_good ih1.mi hg]
        exact ⟨cpk_shade I ih1 hg, rfl⟩
      · rw [if_pos ((bad_iff' S _).2 hg), known_bad ih1.mi hg, shade_bad ih1.mi hg]
        exact ⟨ih1, rfl⟩
theorem cp_step (I : Inv T.S) (H : Cp T D c) (junk : Int) (hj : -9223372036854775808 ≤ junk ∧ junk ≤ 9223372036854775807) :
    Cp (qStep T junk).1 (uStep D junk).1 (c + 1) ∧ (uStep D junk).2 = ((if (qStep T junk).2 = 0 then (qStep T junk).1.ph else 0), (qStep T junk).2) := by
  have hcb := H.cb
  have hnb := H.nb
  have hgb := H.gb
  cases H.st with
  | off ph on lf =>
    have e1 : qStep T junk = (T, 0) := by unfold qStep; rw [if_neg (by omega), if_neg (by omega)]
    have e2 : uStep D junk = (D, 0, 0) := by unfold uStep; rw [if_neg (by rw [H.ph]; omega), if_pos (by rw [H.ph]; omega)]
    rw [e1, e2]
    exact ⟨H.mono (by omega), by rw [if_pos rfl, ph]⟩
  | mark ph lf ck =>
    have e1 : qStep T junk = qMark T := by unfold qStep; rw [if_pos ph]
    have hln := ck.len I.toInv0
    rw [e1]
    rcases hg : T.K.greys with _ | ⟨p, gs⟩
    · have hgd : D.greys = [] := by rw [← ck.gr, hg]
      have e := mi_end ck.mi hg
      have hm : qMark T = ({ T with K := mOff T.K, ph := 2, left := keepP T.K.seen (sAll T.S) }, 0) := by
        unfold qMark
        rw [e, if_neg (by simp)]
      have hu : uLook D = (D, false, 0) := by unfold uLook; rw [hgd]
      have e2 : uStep D junk = ({ D with left := uWhite D, ph := 2 }, 2, 0) := by
        unfold uStep
        rw [if_pos (by rw [H.ph, ph]), hu, if_neg (by simp), if_neg (by simp)]
      have hw : uWhite D = keepP T.K.seen (sAll T.S) := by
        unfold uWhite keepP
        rw [H.S]
        refine List.filter_congr fun x _ => ?_
        have hs := ck.sn x
        rw [hgd] at hs
        by_cases hb : x ∈ D.black
        · rw [hs.2 (.inr hb), decide_eq_false (fun h => h hb)]; rfl
        · have : T.K.seen x = false := by
            rw [Bool.eq_false_iff]
            intro h
            exact (hs.1 h).elim (fun h => by cases h) hb
          rw [this, decide_eq_true hb]; rfl
      rw [hm, e2]
      refine ⟨⟨H.S, rfl, hw, H.cy, by show 0 ≤ T.cyc ∧ T.cyc ≤ ((c + 1 : Nat) : Int); omega, by show T.S.objs.length ≤ c + 1; omega, by show D.greys.length ≤ c + 1 ∧ D.black.length ≤ c + 1; omega, .sweep rfl rfl ?_ fun x hx => ?_⟩, rfl⟩
      · exact List.Nodup.sublist List.filter_sublist (all_nodup I.toInv0)
      · exact (mis_all I.toInv0 x).2 (List.mem_filter.1 hx).1
    · have hgd : D.greys = p :: gs := by rw [← ck.gr, hg]
      have ck0 : CpK T.S { T.K with greys := gs } (uTake D p gs) := by
        refine ⟨⟨ck.mi.on, ck.mi.obj, fun x hx => ck.mi.sn x (by rw [hg]; exact List.mem_cons_of_mem _ hx)⟩, rfl, fun x => ?_, ?_⟩
        · show T.K.seen x = true ↔ x ∈ gs ∨ x ∈ D.black ++ [p]
          rw [ck.sn, hgd, List.mem_cons, List.mem_append, List.mem_singleton]
          constructor
          · rintro ((h | h) | h)
            · exact .inr (.inr h)
            · exact .inl h
            · exact .inr (.inl h)
          · rintro (h | h | h)
            · exact .inl (.inr h)
            · exact .inr h
            · exact .inl (.inl h)
        · show (gs ++ (D.black ++ [p])).Nodup
          have h1 := ck.nd
          rw [hgd] at h1
          rw [← List.append_assoc]
          exact (List.perm_append_singleton p (gs ++ D.black)).nodup_iff.2 h1
      obtain ⟨c1, c2⟩ := cpk_scan I.toInv0 (D := uTake D p gs) H.S ck0 p (sSize T.S p).2.1 (sSize T.S p).1.toNat
      obtain ⟨s1, s2, s3, s4, s5⟩ := uscan_same (uTake D p gs) p (sSize T.S p).2.1 (sSize T.S p).1.toNat
      have hst : mStep T.S T.K = (if (mScan T.S p (sSize T.S p).2.1 { T.K with greys := gs } (sSize T.S p).1.toNat).2 = 0 then ((true, 0), (mScan T.S p (sSize T.S p).2.1 { T.K with greys := gs } (sSize T.S p).1.toNat).1) else ((false, (mScan T.S p (sSize T.S p).2.1 { T.K with greys := gs } (sSize T.S p).1.toNat).2), (mScan T.S p (sSize T.S p).2.1 { T.K with greys := gs } (sSize T.S p).1.toNat).1)) := by
        unfold mStep
        rw [if_neg (by rw [ck.mi.on]; simp), hg]
      have hul : uLook D = (if (uScan (uTake D p gs) p (sSize T.S p).2.1 (sSize T.S p).1.toNat).2 = 0 then ((uScan (uTake D p gs) p (sSize T.S p).2.1 (sSize T.S p).1.toNat).1, true, 0) else ((uScan (uTake D p gs) p (sSize T.S p).2.1 (sSize T.S p).1.toNat).1, false, (uScan (uTake D p gs) p (sSize T.S p).2.1 (sSize T.S p).1.toNat).2)) := by
        unfold uLook
        rw [hgd, H.S]
      rw [← c2] at hul
      generalize mScan T.S p (sSize T.S p).2.1 { T.K with greys := gs } (sSize T.S p).1.toNat = X at *
      generalize uScan (uTake D p gs) p (sSize T.S p).2.1 (sSize T.S p).1.toNat = Y at *
      have hcp : Cp { T with K := X.1 } Y.1 (c + 1) := by
        have hl := c1.len I.toInv0
        exact ⟨s1.trans H.S, s2.trans H.ph, s3.trans H.lf, s4.trans H.cy, by show 0 ≤ T.cyc ∧ T.cyc ≤ ((c + 1 : Nat) : Int); omega, by show T.S.objs.length ≤ c + 1; omega, by omega, .mark ph lf c1⟩
      by_cases hx : X.2 = 0
      · rw [if_pos hx] at hst hul
        have hm : qMark T = ({ T with K := X.1 }, 0) := by
          unfold qMark
          rw [hst, if_pos (.inl rfl)]
        have e2 : uStep D junk = (Y.1, 1, 0) := by
          unfold uStep
          rw [if_pos (by rw [H.ph, ph]), hul, if_neg (by simp), if_pos rfl]
        rw [hm, e2]
        exact ⟨hcp, by rw [if_pos rfl]; show (1, 0) = (T.ph, 0); rw [ph]⟩
      · rw [if_neg hx] at hst hul
        have hm : qMark T = ({ T with K := X.1 }, X.2) := by
          unfold qMark
          rw [hst, if_pos (.inr hx)]
        have e2 : uStep D junk = (Y.1, 0, X.2) := by
          unfold uStep
          rw [if_pos (by rw [H.ph, ph]), hul, if_pos hx]
        rw [hm, e2]
        exact ⟨hcp, by rw [if_neg hx]⟩
  | sweep ph on nd lo =>
    have e1 : qStep T junk = qSweep T junk := by unfold qStep; rw [if_neg (by omega), if_pos ph]
    rw [e1]
    obtain ⟨S, K, ph', left, cyc⟩ := T
    have hD := H.S
    have hlf := H.lf
    have hcy := H.cy
    have hph := H.ph
    dsimp only at *
    rcases left with _ | ⟨x, l⟩
    · have e2 : uStep D junk = ({ D with ph := 0, cyc := D.cyc + 1 }, 0, 0) := by
        unfold uStep
        rw [if_neg (by rw [hph]; omega), if_neg (by rw [hph]; omega), hlf]
      rw [e2]
      refine ⟨⟨hD, rfl, hlf, ?_, ?_, by show S.objs.length ≤ c + 1; omega, by show D.greys.length ≤ c + 1 ∧ D.black.length ≤ c + 1; omega, .off rfl on rfl⟩, rfl⟩
      · show D.cyc + 1 = cyc + 1
        rw [hcy]
      · show 0 ≤ cyc + 1 ∧ cyc + 1 ≤ ((c + 1 : Nat) : Int)
        omega
    · rw [List.nodup_cons] at nd
      have hx := lo x (by simp)
      obtain ⟨o, ho, rfl⟩ := (mis_mem I.toInv0 x).1 hx
      have hf := free_ok I.toInv0 ho junk
      have e2 : uStep D junk = ({ D with S := (sFree S o.1 junk).1, left := l }, 2, 0) := by
        unfold uStep
        rw [if_neg (by rw [hph]; omega), if_neg (by rw [hph]; omega), hlf, hD]
        dsimp only
        rw [if_neg (by rw [hf.1]; simp)]
      rw [e2]
      refine ⟨⟨rfl, hph, rfl, hcy, by show 0 ≤ cyc ∧ cyc ≤ ((c + 1 : Nat) : Int); omega, ?_, by show D.greys.length ≤ c + 1 ∧ D.black.length ≤ c + 1; omega, .sweep ph on nd.2 (fun y hy => mis_free I hx (lo y (List.mem_cons_of_mem _ hy)) (fun e => nd.1 (e ▸ hy)) hj)⟩, ?_⟩
      · show (sFree S o.1 junk).1.objs.length ≤ c + 1
        rw [hf.2.2]
        have := List.length_filter_le (fun x => !(x.1 == o.1)) S.objs
        omega
      · show (2, 0) = ((if (sFree S o.1 junk).2 = 0 then ph' else 0), (sFree S o.1 junk).2)
        rw [hf.1, if_pos rfl, ph]
theorem cp_shade (I : Inv0 T.S) (H : Cp T D c) {p : Int} (hg : Good T.S p) : Cp (qShade T p) (uSh D p).1 (c + 1) ∧ (uSh D p).2 = (mKnown T.S T.K p).2 := by
  have hsz : (sSize D.S p).2.2 = mIs T.S p := by rw [H.S]; rfl
  have hoff : T.K.on = false → T.ph ≠ 1 → Cp (qShade T p) (uSh D p).1 (c + 1) ∧ (uSh D p).2 = (mKnown T.S T.K p).2 := fun on hp => by
    have hk : mKnown T.S T.K p = (false, 0) := by unfold mKnown; rw [if_pos (.inl on)]
    have e1 : qShade T p = T := by unfold qShade mShade; rw [hk, if_neg (by simp)]
    have e2 : uSh D p = (D, 0) := by unfold uSh; rw [if_pos (.inl (by rw [H.ph]; exact hp))]
    rw [e1, e2, hk]
    exact ⟨H.mono (by omega), rfl⟩
  cases H.st with
  | off ph on lf => exact hoff on (by omega)
  | sweep ph on nd lo => exact hoff on (by omega)
  | mark ph lf ck =>
    have hcb := H.cb
    have hnb := H.nb
    have ck' := cpk_shade I ck hg
    have hln := ck'.len I
    obtain ⟨s1, s2, s3, s4, s5⟩ := ushade_same D p
    have hk := known_good ck.mi hg
    have hcp : Cp (qShade T p) (uShade D p) (c + 1) := ⟨s1.trans H.S, s2.trans H.ph, s3.trans H.lf, s4.trans H.cy, by show 0 ≤ T.cyc ∧ T.cyc ≤ ((c + 1 : Nat) : Int); omega, by show T.S.objs.length ≤ c + 1; omega, by omega, .mark ph lf ck'⟩
    rw [hk]
    by_cases h0 : p = 0
    · have e2 : uSh D p = (D, 0) := by unfold uSh; rw [if_pos (.inr h0)]
      have e3 : uShade D p = D := by unfold uShade; rw [if_pos (.inl h0)]
      rw [e2]
      rw [e3] at hcp
      exact ⟨hcp, rfl⟩
    · have e2 : uSh D p = (uShade D p, 0) := by
        unfold uSh
        rw [if_neg (fun h => h.elim (fun h => h (by rw [H.ph, ph])) h0), if_neg (by rw [hsz, hg.resolve_left h0]; simp)]
      rw [e2]
      exact ⟨hcp, rfl⟩
theorem known_off {S : HS} (on : K.on = false) (p : Int) : mKnown S K p = (false, 0) := by unfold mKnown; rw [if_pos (.inl on)]
/-- A word is put: colours hang on no words. -/
theorem cpk_store (I : Inv0 S) (I' : Inv0 S') (ho : S'.objs = S.objs) (C : CpK S K D) {D' : DS} (hg : D'.greys = D.greys) (hb : D'.black = D.black) : CpK S' K D' := by
  have hm : ∀ x, mIs S x = true → mIs S' x = true := fun x hx => by
    obtain ⟨o, h1, h2⟩ := (mis_mem I x).1 hx
    exact (mis_mem I' x).2 ⟨o, by rw [ho]; exact h1, h2⟩
  exact ⟨⟨C.mi.on, fun x hx => hm x (C.mi.obj x hx), C.mi.sn⟩, by rw [hg]; exact C.gr, fun x => by rw [hg, hb]; exact C.sn x, by rw [hg, hb]; exact C.nd⟩
theorem cp_stored (I : Inv T.S) (H : Cp T D c) (p f : Int) {to : Int} (hg : Good T.S to) : Cp { T with S := sStore T.S p f to } { D with S := sStore T.S p f to } c := by
  have hb := good_bd I.toInv0 hg
  have I' := store_inv I p f (x := to) (by omega)
  have ho := store_objs T.S p f to
  refine ⟨rfl, H.ph, H.lf, H.cy, H.cb, by show (sStore T.S p f to).objs.length ≤ c; rw [ho]; exact H.nb, H.gb, ?_⟩
  cases H.st with
  | off ph on lf => exact .off ph on lf
  | mark ph lf ck => exact .mark ph lf (cpk_store I.toInv0 I'.toInv0 ho ck rfl rfl)
  | sweep ph on nd lo =>
    refine .sweep ph on nd fun x hx => ?_
    obtain ⟨o, h1, h2⟩ := (mis_mem I.toInv0 x).1 (lo x hx)
    exact (mis_mem I'.toInv0 x).2 ⟨o, (by show o ∈ (sStore T.S p f to).objs; rw [ho]; exact h1), h2⟩
theorem sthere_er (S : HS) (p f : Int) : sThere S p f = 0 ∨ sThere S p f = 11 := by
  unfold sThere
  split
  · exact .inr rfl
  · exact .inl rfl
theorem sload_er (S : HS) (p f : Int) : (sLoad S p f).2 = 0 ∨ (sLoad S p f).2 = 11 := by
  have h := sthere_er S p f
  unfold sLoad
  split
  · exact .inl rfl
  · exact h
theorem cp_put (I : Inv T.S) (H : Cp T D c) (p f : Int) {to : Int} (hg : Good T.S to) : Cp (qPut T p f to true).1 (uPut D p f to).1 (c + 1) ∧ (uPut D p f to).2 = (qPut T p f to true).2 := by
  have hto : to = 0 ∨ (sSize T.S to).2.2 = true := hg
  have hto' : ¬ (to ≠ 0 ∧ (sSize T.S to).2.2 = false) := fun h => hto.elim h.1 fun e => by rw [h.2] at e; cases e
  by_cases h1 : (sLoad T.S p f).2 = 0
  case neg =>
    have e1 : qPut T p f to true = (T, (sLoad T.S p f).2) := by unfold qPut; rw [if_pos h1]
    have e2 : uPut D p f to = (D, 11) := by unfold uPut; rw [H.S, if_pos (.inl h1)]
    rw [e1, e2]
    exact ⟨H.mono (by omega), ((sload_er T.S p f).resolve_left h1).symm⟩
  have h2 : ¬ ((sLoad T.S p f).2 ≠ 0 ∨ ¬ (to = 0 ∨ (sSize T.S to).2.2 = true)) := fun h => h.elim (fun h => h h1) fun h => h hto
  by_cases h3 : mBit (sSize T.S p).2.1 f.toNat = false
  · have e1 : qPut T p f to true = (T, 2) := by unfold qPut; rw [if_neg (by omega), if_neg hto', if_pos h3]
    have e2 : uPut D p f to = (D, 2) := by unfold uPut; rw [H.S, if_neg h2, if_pos h3]
    rw [e1, e2]
    exact ⟨H.mono (by omega), rfl⟩
  have e1 : qPut T p f to true = if (mKnown T.S T.K (sLoad T.S p f).1).2 ≠ 0 then (qShade T (sLoad T.S p f).1, (mKnown T.S T.K (sLoad T.S p f).1).2) else ({ qShade T (sLoad T.S p f).1 with S := sStore T.S p f to }, 0) := by
    unfold qPut
    rw [if_neg (by omega), if_neg hto', if_neg h3, if_neg (by simp)]
  have e2 : uPut D p f to = if (uSh D (sLoad T.S p f).1).2 ≠ 0 then (D, (uSh D (sLoad T.S p f).1).2) else ({ (uSh D (sLoad T.S p f).1).1 with S := sStore (uSh D (sLoad T.S p f).1).1.S p f to }, 0) := by
    unfold uPut
    rw [H.S, if_neg h2, if_neg h3]
  rw [e1, e2, uSh_S, H.S]
  generalize (sLoad T.S p f).1 = x
  by_cases hx : Good T.S x
  · obtain ⟨c1, c2⟩ := cp_shade I.toInv0 H hx
    have hk : (mKnown T.S T.K x).2 = 0 := by
      cases H.st with
      | off ph on lf => rw [known_off on]
      | sweep ph on nd lo => rw [known_off on]
      | mark ph lf ck => rw [known_good ck.mi hx]
    rw [c2, hk, if_neg (by simp), if_neg (by simp)]
    exact ⟨cp_stored (T := qShade T x) I c1 p f hg, rfl⟩
  · cases H.st with
    | off ph on lf =>
      have e3 : uSh D x = (D, 0) := by unfold uSh; rw [if_pos (.inl (by rw [H.ph]; omega))]
      have e4 : qShade T x = T := by unfold qShade mShade; rw [known_off on, if_neg (by simp)]
      rw [e3, known_off on, e4, if_neg (by simp), if_neg (by simp)]
      exact ⟨(cp_stored I H p f hg).mono (by omega), rfl⟩
    | sweep ph on nd lo =>
      have e3 : uSh D x = (D, 0) := by unfold uSh; rw [if_pos (.inl (by rw [H.ph]; omega))]
      have e4 : qShade T x = T := by unfold qShade mShade; rw [known_off on, if_neg (by simp)]
      rw [e3, known_off on, e4, if_neg (by simp), if_neg (by simp)]
      exact ⟨(cp_stored I H p f hg).mono (by omega), rfl⟩
    | mark ph lf ck =>
      have e3 : uSh D x = (D, 11) := by
        unfold uSh
        rw [if_neg (fun h => h.elim (fun h => h (by rw [H.ph, ph])) fun h => hx (.inl h)), if_pos]
        rw [H.S]
        cases hm : (sSize T.S x).2.2 with
        | false => rfl
        | true => exact absurd (.inr hm) hx
      have e4 : qShade T x = T := by unfold qShade; rw [shade_bad ck.mi hx]
      rw [e3, known_bad ck.mi hx, e4, if_pos (by simp), if_pos (by simp)]
      exact ⟨H.mono (by omega), rfl⟩
theorem cp_alloc (I : Inv T.S) (H : Cp T D c) : Cp (qAlloc T 2 3 0).1 (uAlloc D 2 3 0).1 (c + 1) ∧ (uAlloc D 2 3 0).2 = (qAlloc T 2 3 0).2 := by
  have hcb := H.cb
  have hnb := H.nb
  have hgb := H.gb
  unfold uAlloc qAlloc
  rw [H.S]
  rcases alloc2 I with ⟨S', p, e, A, _⟩ | ⟨e, _⟩
  · rw [e, if_pos rfl, if_neg (by simp)]
    have hm : ∀ o, o ∈ S'.objs ↔ o = (p, 2, 3) ∨ o ∈ T.S.objs := fun o => by rw [A.objs, ins_mem]
    have hpo : mIs S' p = true := (mis_mem A.inv.toInv0 p).2 ⟨_, (hm _).2 (.inl rfl), rfl⟩
    have hp0 := mis_pos A.inv.toInv0 hpo
    have mono : ∀ x, mIs T.S x = true → mIs S' x = true := fun x hx => by
      obtain ⟨o, ho, e⟩ := (mis_mem I.toInv0 x).1 hx
      exact (mis_mem A.inv.toInv0 x).2 ⟨o, (hm o).2 (.inr ho), e⟩
    have hnew : mIs T.S p ≠ true := fun hx => by
      obtain ⟨o, ho, e⟩ := (mis_mem I.toInv0 p).1 hx
      exact A.no o ho e
    have hlen : S'.objs.length = T.S.objs.length + 1 := by rw [A.objs, ins_len]
    have hoff : T.K.on = false → mKnown S' T.K p = (false, 0) ∧ mMade S' T.K p = T.K := fun ho => ⟨known_off ho p, by unfold mMade; rw [known_off ho, if_neg (by simp)]⟩
    dsimp only
    cases H.st with
    | off ph on lf =>
      rw [(hoff on).1, (hoff on).2, if_neg (by rw [H.ph]; omega)]
      exact ⟨⟨rfl, H.ph, H.lf, H.cy, by show 0 ≤ T.cyc ∧ T.cyc ≤ ((c + 1 : Nat) : Int); omega, by show S'.objs.length ≤ c + 1; omega, by show D.greys.length ≤ c + 1 ∧ D.black.length ≤ c + 1; omega, .off ph on lf⟩, rfl⟩
    | sweep ph on nd lo =>
      rw [(hoff on).1, (hoff on).2, if_neg (by rw [H.ph]; omega)]
      exact ⟨⟨rfl, H.ph, H.lf, H.cy, by show 0 ≤ T.cyc ∧ T.cyc ≤ ((c + 1 : Nat) : Int); omega, by show S'.objs.length ≤ c + 1; omega, by show D.greys.length ≤ c + 1 ∧ D.black.length ≤ c + 1; omega, .sweep ph on nd fun x hx => mono x (lo x hx)⟩, rfl⟩
    | mark ph lf ck =>
      have hk : mKnown S' T.K p = (true, 0) := by
        unfold mKnown
        rw [if_neg (fun h => h.elim (fun h => by rw [ck.mi.on] at h; cases h) fun h => by omega), if_pos hpo]
      have hno : p ∉ D.greys ∧ p ∉ D.black := ⟨fun h => hnew (ck.mi.obj p ((ck.sn p).2 (.inl h))), fun h => hnew (ck.mi.obj p ((ck.sn p).2 (.inr h)))⟩
      have hgk : keepP (fun x => x == p) T.K.greys = T.K.greys := keepP_all fun x hx => by
        rw [beq_eq_false_iff_ne]
        intro e
        exact hno.1 (by rw [← e, ← ck.gr]; exact hx)
      have hmd : mMade S' T.K p = mSee T.K p := by
        unfold mMade
        rw [hk, if_pos rfl, hgk]
        rfl
      have ck' : CpK S' (mSee T.K p) { D with S := S', black := D.black ++ [p] } := by
        refine ⟨⟨ck.mi.on, fun x hx => ?_, fun x hx => ?_⟩, ck.gr, fun x => ?_, ?_⟩
        · have hx : (x == p || T.K.seen x) = true := hx
          rw [Bool.or_eq_true, beq_iff_eq] at hx
          exact hx.elim (fun e => e ▸ hpo) fun h => mono x (ck.mi.obj x h)
        · show (x == p || T.K.seen x) = true
          rw [ck.mi.sn x hx]
          simp
        · show (x == p || T.K.seen x) = true ↔ x ∈ D.greys ∨ x ∈ D.black ++ [p]
          rw [Bool.or_eq_true, beq_iff_eq, ck.sn, List.mem_append, List.mem_singleton]
          constructor
          · rintro (h | h | h)
            · exact .inr (.inr h)
            · exact .inl h
            · exact .inr (.inl h)
          · rintro (h | h | h)
            · exact .inr (.inl h)
            · exact .inr (.inr h)
            · exact .inl h
        · show (D.greys ++ (D.black ++ [p])).Nodup
          rw [← List.append_assoc]
          exact (List.perm_append_singleton p (D.greys ++ D.black)).nodup_iff.2 (List.nodup_cons.2 ⟨fun h => (List.mem_append.1 h).elim hno.1 hno.2, ck.nd⟩)
      have hl := ck'.len A.inv.toInv0
      rw [hk, hmd, if_pos (by rw [H.ph, ph])]
      refine ⟨⟨rfl, H.ph, H.lf, H.cy, by show 0 ≤ T.cyc ∧ T.cyc ≤ ((c + 1 : Nat) : Int); omega, by show S'.objs.length ≤ c + 1; omega, ?_, .mark ph lf ck'⟩, rfl⟩
      show D.greys.length ≤ c + 1 ∧ (D.black ++ [p]).length ≤ c + 1
      rw [List.length_append, List.length_singleton]
      omega
  · rw [e, if_neg (by simp), if_pos (by simp)]
    refine ⟨?_, rfl⟩
    have := H.mono (d := c + 1) (by omega)
    exact this
theorem cpk_fold (I : Inv0 S) : ∀ (l : List Int) (K : MK) (D : DS), CpK S K D → (∀ x ∈ l, Good S x) → CpK S (l.foldl (mShade S) K) (l.foldl uShade D)
  | [], K, D, C, _ => C
  | x :: l, K, D, C, h => cpk_fold I l _ _ (cpk_shade I C (h x (by simp))) fun y hy => h y (List.mem_cons_of_mem _ hy)
theorem cp_begin (I : Inv T.S) (H : Cp T D c) (l : List Int) (hl : ∀ x ∈ l, Good T.S x) : Cp (qBegin T l).1 (uBegin D l).1 (c + 1) ∧ (uBegin D l).2 = (qBegin T l).2 := by
  have hcb := H.cb
  have hnb := H.nb
  have hnz : T.ph ≠ 0 → Cp (qBegin T l).1 (uBegin D l).1 (c + 1) ∧ (uBegin D l).2 = (qBegin T l).2 := fun h => by
    have e1 : qBegin T l = (T, 8) := by unfold qBegin; rw [if_pos h]
    have e2 : uBegin D l = (D, 8) := by unfold uBegin; rw [if_pos (by rw [H.ph]; exact h)]
    rw [e1, e2]
    exact ⟨H.mono (by omega), rfl⟩
  cases H.st with
  | mark ph lf ck => exact hnz (by omega)
  | sweep ph on nd lo => exact hnz (by omega)
  | off ph on lf =>
    have e1 : qBegin T l = ({ T with K := l.foldl (mShade T.S) mStart, ph := 1 }, 0) := by
      unfold qBegin
      rw [if_neg (by omega), begin_good I.toInv0 T.K on l hl, if_pos rfl]
    have e2 : uBegin D l = (l.foldl uShade (uStart D), 0) := by
      unfold uBegin
      rw [if_neg (by rw [H.ph]; omega), if_neg]
      rw [List.any_eq_true]
      rintro ⟨x, hx, hb⟩
      rw [H.S] at hb
      exact (bad_iff' T.S x).1 hb (hl x hx)
    have ck0 : CpK T.S mStart (uStart D) := ⟨mi_start, rfl, fun x => ⟨fun h => (by cases h), fun h => h.elim (fun h => by cases h) fun h => by cases h⟩, List.nodup_nil⟩
    have ck := cpk_fold I.toInv0 l _ _ ck0 hl
    have hln := ck.len I.toInv0
    obtain ⟨s1, s2, s3, s4, s5⟩ := ufold_same l (uStart D)
    rw [e1, e2]
    refine ⟨⟨s1.trans H.S, s2, s3.trans H.lf, s4.trans H.cy, by show 0 ≤ T.cyc ∧ T.cyc ≤ ((c + 1 : Nat) : Int); omega, by show T.S.objs.length ≤ c + 1; omega, ?_, .mark rfl lf ck⟩, rfl⟩
    dsimp only at hln ⊢
    omega
end
end Go.Proofs.YtcaboknbdamlhaaGreatDoor
namespace Go.Proofs.YtcaboknbdamlhaaGreatDoor
open Go.RowKit Go.Shelf
section
variable {w0 : W0} {w w' w1 : World} {q s h m : Nat} {T : SS} {D : DS}
/-- Begin, behind a list that is kept. -/
theorem lx_beginG (H : LX (w0.guard w w1) w' q s h m T D) (vr : Value) (l : List Int) (hv : Rd i64e w' vr l) (hl : l.length ≤ 4096) (hbd : ∀ x ∈ l, -9223372036854775808 ≤ x ∧ x ≤ 9223372036854775807) (hf : ∀ b, vr.ownBlock = some b → w.heap.size ≤ b ∧ b < w1.heap.size) :
    Calls Tryz.prog 18 #[.pointer (some ⟨s, 0, none⟩), vr] w' fun e w9 => e = .returned (.int .i64 (qBegin T l).2) ∧ LX (w0.guard w w1) w9 q s h m (qBegin T l).1 D :=
  H.callQ (P := fun e _ => e = .returned (.int .i64 (qBegin T l).2)) (T' := (qBegin T l).1) fun v0 hQ L => ls_beginQ L vr l hv hl hbd fun b e hfr => hfr.2 (hQ b (.inr (hf b e)))
end
end Go.Proofs.YtcaboknbdamlhaaGreatDoor
