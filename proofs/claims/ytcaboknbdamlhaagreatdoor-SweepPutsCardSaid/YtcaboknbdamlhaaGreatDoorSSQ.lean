/- Joined: SweepMadeP, SetMap, SetRange, TailRow, SweepReach, PairMap, SweepPutsP, SweepPuts, SweepOpen3. -/
import Derived.Test.YtcaboknbdamlhaaGreatDoorSSO
import Derived.Test.YtcaboknbdamlhaaGreatDoorBase
import Derived.Test.YtcaboknbdamlhaaGreatDoorInfo
import Derived.Maps.Own
import Derived.Maps.Views
import Derived.Maps.Keyed
import Derived.Maps.OwnSet
import Derived.Maps.RangeWalk
import Derived.WideKeyPair
set_option linter.unusedVariables false
set_option linter.unusedSimpArgs false
namespace Go.Proofs.YtcaboknbdamlhaaGreatDoor
open Go.RowKit Go.Shelf
theorem qIt_shift (T : SS) (junk : Int) : ∀ n, qIt (qStep T junk).1 junk n = qIt T junk (n + 1)
  | 0 => rfl
  | n + 1 => by
    show (qStep (qIt (qStep T junk).1 junk n) junk).1 = (qStep (qIt T junk (n + 1)) junk).1
    rw [qIt_shift T junk n]
/-- A store runs to its end. -/
theorem ends_run (P : SS → Nat → Prop) (junk : Int) (h : ∀ T r, P T r → SOk T ∧ (T.ph = 0 ∨ (T.ph ≠ 0 ∧ (qStep T junk).2 = 0 ∧ ∃ r', r' < r ∧ P (qStep T junk).1 r'))) :
    ∀ r T, P T r → ∃ n, Ends T junk n ∧ ∃ r', P (qIt T junk n) r' := by
  intro r
  induction r using Nat.strongRecOn with
  | ind r ih =>
    intro T hP
    obtain ⟨ok, h1⟩ := h T r hP
    rcases h1 with h0 | ⟨h0, he, r', hr', hP'⟩
    · exact ⟨0, ⟨fun i hi => absurd hi (Nat.not_lt_zero _), h0, fun i hi => by
        have hi0 : i = 0 := by omega
        subst hi0
        exact ok⟩, r, hP⟩
    · obtain ⟨n, E, hn⟩ := ih r' hr' _ hP'
      refine ⟨n + 1, ⟨fun i hi => ?_, by rw [← qIt_shift]; exact E.off, fun i hi => ?_⟩, by rw [← qIt_shift]; exact hn⟩
      · cases i with
        | zero => exact ⟨h0, he⟩
        | succ i => rw [← qIt_shift]; exact E.go i (by omega)
      · cases i with
        | zero => exact ok
        | succ i => rw [← qIt_shift]; exact E.ok i (by omega)
theorem fold_seen {S : HS} (I : Inv0 S) : ∀ (l : List Int) (K : MK), MI S K → (∀ x ∈ l, Good S x) → ∀ x, (l.foldl (mShade S) K).seen x = true ↔ (K.seen x = true ∨ (x ∈ l ∧ x ≠ 0))
  | [], K, M, _, x => by simp
  | y :: l, K, M, h, x => by
    obtain ⟨M1, u1, s1, s2, s3, _⟩ := mi_shade I M (h y (by simp))
    show ((l.foldl (mShade S) (mShade S K y)).seen x = true) ↔ _
    rw [fold_seen I l _ M1 (fun z hz => h z (List.mem_cons_of_mem _ hz)) x]
    constructor
    · rintro (hx | hx)
      · rcases s3 x hx with h1 | rfl
        · exact .inl h1
        · exact .inr ⟨by simp, fun e => by have := mis_pos I (M1.obj x hx); omega⟩
      · exact .inr ⟨List.mem_cons_of_mem _ hx.1, hx.2⟩
    · rintro (hx | ⟨hx, h0⟩)
      · exact .inl (s2 x hx)
      · rcases List.mem_cons.1 hx with rfl | hx
        · exact .inl (s1 h0)
        · exact .inr ⟨hx, h0⟩
theorem keep_none (sn : Int → Bool) (l : List Int) (h : ∀ x ∈ l, sn x = true) : keepP sn l = [] := by
  unfold keepP
  rw [List.filter_eq_nil_iff]
  intro x hx
  simp [h x hx]
theorem step_off {T : SS} (hp : T.ph = 0) (junk : Int) : qStep T junk = (T, 0) := by unfold qStep; rw [if_neg (by omega), if_neg (by omega)]
theorem step_end {T : SS} (hp : T.ph = 1) (M : MI T.S T.K) (hg : T.K.greys = []) (junk : Int) : qStep T junk = ({ T with K := mOff T.K, ph := 2, left := keepP T.K.seen (sAll T.S) }, 0) := by
  unfold qStep
  rw [if_pos hp]
  unfold qMark
  rw [mi_end M hg, if_neg (by simp)]
theorem step_mark {T : SS} (I : Inv0 T.S) (C : Clo T.S) (hp : T.ph = 1) (M : MI T.S T.K) {p : Int} {gs : List Int} (hg : T.K.greys = p :: gs) (junk : Int) : qStep T junk = ({ T with K := nextK T.S T.K p gs }, 0) := by
  unfold qStep
  rw [if_pos hp]
  unfold qMark
  rw [(mi_step I C M hg).1, if_pos (.inl rfl)]
theorem step_sweep0 {T : SS} (hp : T.ph = 2) (hl : T.left = []) (junk : Int) : qStep T junk = ({ T with ph := 0, cyc := T.cyc + 1 }, 0) := by
  unfold qStep
  rw [if_neg (by omega), if_pos hp]
  unfold qSweep
  rw [hl]
theorem step_sweep1 {T : SS} (hp : T.ph = 2) {x : Int} {l : List Int} (hl : T.left = x :: l) (junk : Int) : qStep T junk = ({ T with S := (sFree T.S x junk).1, left := l }, (sFree T.S x junk).2) := by
  unfold qStep
  rw [if_neg (by omega), if_pos hp]
  unfold qSweep
  rw [hl]
/-- What a look-through sees besides. -/
theorem next_seen {S : HS} {K : MK} (I : Inv0 S) (C : Clo S) (M : MI S K) {p : Int} {gs : List Int} (hg : K.greys = p :: gs) : (∀ x, K.seen x = true → (nextK S K p gs).seen x = true) ∧ (∀ x, (nextK S K p gs).seen x = true → K.seen x = true ∨ x = fldA S p 0 ∨ x = fldA S p 1) := by
  have hp : mIs S p = true := M.obj p (M.sn p (by rw [hg]; simp))
  have M0 : MI S { K with greys := gs } := ⟨M.on, M.obj, fun x hx => M.sn x (by rw [hg]; exact List.mem_cons_of_mem _ hx)⟩
  have g0 := C.good I hp (f := 0) (by omega)
  have g1 := C.good I hp (f := 1) (by omega)
  obtain ⟨M1, _, _, a2, a3, _⟩ := mi_shade I M0 g0
  obtain ⟨M2, _, _, b2, b3, _⟩ := mi_shade I M1 g1
  refine ⟨fun x hx => b2 x (a2 x hx), fun x hx => ?_⟩
  rcases b3 x hx with h | h
  · exact (a3 x h).imp id .inl
  · exact .inr (.inr h)
/-! All objects are seen: nothing is freed. -/
inductive All1 (S : HS) (T : SS) : Nat → Prop
  | mark (ph : T.ph = 1) (hS : T.S = S) (M : MI S T.K) (al : ∀ p, mIs S p = true → T.K.seen p = true) (lf : T.left = []) : All1 S T (uns S T.K + T.K.greys.length + 3)
  | sweep (ph : T.ph = 2) (hS : T.S = S) (on : T.K.on = false) (lf : T.left = []) : All1 S T 1
  | off (ph : T.ph = 0) (hS : T.S = S) (on : T.K.on = false) (lf : T.left = []) : All1 S T 0
section
variable {S S' : HS} {T : SS} {r : Nat}
theorem All1.s (A : All1 S T r) : T.S = S := by cases A <;> assumption
theorem All1.sok (A : All1 S T r) (hc : 0 ≤ T.cyc ∧ T.cyc + r ≤ 10000) : SOk T := by
  cases A with
  | mark ph hS M al lf => exact ⟨.inr (.inl ⟨ph, M.on⟩), by omega, by rw [lf]; simp, by rw [lf]; simp⟩
  | sweep ph hS on lf => exact ⟨.inr (.inr ph), by omega, by rw [lf]; simp, by rw [lf]; simp⟩
  | off ph hS on lf => exact ⟨.inl ph, by omega, by rw [lf]; simp, by rw [lf]; simp⟩
theorem All1.step (I : Inv0 S) (C : Clo S) (A : All1 S T r) (junk : Int) : (qStep T junk).2 = 0 ∧ ∃ r', All1 S (qStep T junk).1 r' ∧ r' ≤ r ∧ (T.ph ≠ 0 → r' < r) ∧ (qStep T junk).1.cyc + r' ≤ T.cyc + r ∧ T.cyc ≤ (qStep T junk).1.cyc := by
  cases A with
  | mark ph hS M al lf =>
    subst hS
    rcases hg : T.K.greys with _ | ⟨p, gs⟩
    · rw [step_end ph M hg]
      have hk : keepP T.K.seen (sAll T.S) = [] := keep_none _ _ fun x hx => al x ((mis_all I x).2 hx)
      exact ⟨rfl, 1, All1.sweep rfl rfl rfl hk, by omega, fun _ => by omega, by simp only; omega, by simp⟩
    · rw [step_mark I C ph M hg]
      obtain ⟨_, M', u⟩ := mi_step I C M hg
      have u' := u
      rw [hg] at u'
      have ns := next_seen I C M hg
      exact ⟨rfl, _, All1.mark (T := { T with K := nextK T.S T.K p gs }) ph rfl M' (fun x hx => ns.1 x (al x hx)) lf, by simp only; omega, fun _ => by simp only; omega, by simp only; omega, by simp⟩
  | sweep ph hS on lf =>
    subst hS
    rw [step_sweep0 ph lf]
    exact ⟨rfl, 0, All1.off rfl rfl on lf, by omega, fun _ => by omega, by simp only; omega, by simp only; omega⟩
  | off ph hS on lf =>
    subst hS
    rw [step_off ph]
    exact ⟨rfl, 0, All1.off ph rfl on lf, by omega, fun h => absurd ph h, by simp, by simp⟩
theorem All1.alloc (I : Inv S) {p : Int} (hr : sAlloc S 2 3 0 = (S', p, 0)) (A : Alloced S S' 2 3 0 p) (H : All1 S T r) : (qAlloc T 2 3 0).2 = (p, 0) ∧ (∃ r', All1 S' (qAlloc T 2 3 0).1 r' ∧ r' ≤ r) ∧ (qAlloc T 2 3 0).1.cyc = T.cyc := by
  have hm : ∀ o, o ∈ S'.objs ↔ o = (p, 2, 3) ∨ o ∈ S.objs := fun o => by rw [A.objs, ins_mem]
  have hpo : mIs S' p = true := (mis_mem A.inv.toInv0 p).2 ⟨_, (hm _).2 (.inl rfl), rfl⟩
  have hp0 := mis_pos A.inv.toInv0 hpo
  have mono : ∀ x, mIs S x = true → mIs S' x = true := fun x hx => by
    obtain ⟨o, ho, e⟩ := (mis_mem I.toInv0 x).1 hx
    exact (mis_mem A.inv.toInv0 x).2 ⟨o, (hm o).2 (.inr ho), e⟩
  have inv' : ∀ x, mIs S' x = true → x = p ∨ mIs S x = true := fun x hx => by
    obtain ⟨o, ho, e⟩ := (mis_mem A.inv.toInv0 x).1 hx
    rcases (hm o).1 ho with rfl | h
    · exact .inl e.symm
    · exact .inr ((mis_mem I.toInv0 x).2 ⟨o, h, e⟩)
  have offc : T.K.on = false → mKnown S' T.K p = (false, 0) ∧ mMade S' T.K p = T.K := fun ho => by
    have hk : mKnown S' T.K p = (false, 0) := by unfold mKnown; rw [if_pos (.inl ho)]
    exact ⟨hk, by unfold mMade; rw [hk, if_neg (by simp)]⟩
  have hq : T.S = S → qAlloc T 2 3 0 = ({ T with S := S', K := mMade S' T.K p }, p, (mKnown S' T.K p).2) := fun e => by
    unfold qAlloc
    rw [e, hr, if_pos rfl]
  cases H with
  | mark ph hS M al lf =>
    have hk : mKnown S' T.K p = (true, 0) := by
      unfold mKnown
      rw [if_neg (fun h => h.elim (fun h => by rw [M.on] at h; cases h) fun h => by omega), if_pos hpo]
    have hmd : mMade S' T.K p = { mSee T.K p with greys := keepP (fun x => x == p) T.K.greys } := by unfold mMade; rw [hk, if_pos rfl]
    rw [hq hS, hk]
    have al' : ∀ x, mIs S' x = true → (mMade S' T.K p).seen x = true := fun x hx => by
      rw [hmd]
      show (x == p || T.K.seen x) = true
      rw [Bool.or_eq_true, beq_iff_eq]
      exact (inv' x hx).imp id (al x)
    have hun : uns S' (mMade S' T.K p) = 0 := by
      unfold uns
      rw [keep_none _ _ fun x hx => al' x ((mis_all A.inv.toInv0 x).2 hx)]
      rfl
    have hgl : (mMade S' T.K p).greys.length ≤ T.K.greys.length := by
      rw [hmd]
      exact List.length_filter_le _ _
    refine ⟨rfl, ⟨_, All1.mark (T := { T with S := S', K := mMade S' T.K p }) ph rfl ?_ al' lf, ?_⟩, rfl⟩
    · rw [hmd]
      refine ⟨M.on, fun x hx => ?_, fun x hx => ?_⟩
      · have hx : (x == p || T.K.seen x) = true := hx
        rw [Bool.or_eq_true, beq_iff_eq] at hx
        exact hx.elim (fun e => e ▸ hpo) fun h => mono x (M.obj x h)
      · show (x == p || T.K.seen x) = true
        rw [M.sn x (List.mem_filter.1 hx).1]
        simp
    · show uns S' (mMade S' T.K p) + (mMade S' T.K p).greys.length + 3 ≤ _
      omega
  | sweep ph hS on lf =>
    obtain ⟨e1, e2⟩ := offc on
    rw [hq hS, e1, e2]
    exact ⟨rfl, ⟨1, All1.sweep ph rfl on lf, Nat.le_refl _⟩, rfl⟩
  | off ph hS on lf =>
    obtain ⟨e1, e2⟩ := offc on
    rw [hq hS, e1, e2]
    exact ⟨rfl, ⟨0, All1.off ph rfl on lf, Nat.le_refl _⟩, rfl⟩
theorem all1_begin (I : Inv S) (C : Clo S) (hS : T.S = S) (hp : T.ph = 0) (ho : T.K.on = false) (hl : T.left = []) : (qBegin T (sAll S)).2 = 0 ∧ (∃ r, r ≤ (sAll S).length + 3 ∧ All1 S (qBegin T (sAll S)).1 r) ∧ (qBegin T (sAll S)).1.cyc = T.cyc := by
  subst hS
  have hgd : ∀ x ∈ sAll T.S, Good T.S x := fun x hx => .inr ((mis_all I.toInv0 x).2 hx)
  obtain ⟨e0, e1, _⟩ := cyc_begin I.toInv0 C hp ho (sAll T.S) hgd
  obtain ⟨M, u⟩ := fold_shade I.toInv0 (sAll T.S) mStart mi_start hgd
  refine ⟨e0, ?_, by rw [e1]⟩
  rw [e1]
  have hu := uns_start I.toInv0
  refine ⟨_, ?_, All1.mark (T := { T with K := (sAll T.S).foldl (mShade T.S) mStart, ph := 1 }) rfl rfl M (fun p hx => ?_) hl⟩
  · show uns T.S ((sAll T.S).foldl (mShade T.S) mStart) + ((sAll T.S).foldl (mShade T.S) mStart).greys.length + 3 ≤ _
    rw [u, hu]
    show (sAll T.S).length + ([] : List Int).length + 3 ≤ _
    simp
  · exact (fold_seen I.toInv0 _ mStart mi_start hgd p).2 (.inr ⟨(mis_all I.toInv0 p).1 hx, by have := mis_pos I.toInv0 hx; omega⟩)
end
theorem all1_run {S : HS} {T : SS} {r : Nat} (I : Inv S) (C : Clo S) (A : All1 S T r) (B : Int) (hB : B ≤ 9000) (hc : 0 ≤ T.cyc ∧ T.cyc + r ≤ B) (junk : Int) :
    ∃ n, Ends T junk n ∧ (qIt T junk n).S = S ∧ (qIt T junk n).ph = 0 ∧ (qIt T junk n).K.on = false ∧ (qIt T junk n).left = [] ∧ 0 ≤ (qIt T junk n).cyc ∧ (qIt T junk n).cyc ≤ B := by
  obtain ⟨n, E, r', A', hc'⟩ := ends_run (fun T r => All1 S T r ∧ 0 ≤ T.cyc ∧ T.cyc + r ≤ B) junk (fun T r ⟨A, c0, c1⟩ => by
    refine ⟨A.sok ⟨c0, by omega⟩, ?_⟩
    by_cases h0 : T.ph = 0
    · exact .inl h0
    · obtain ⟨e, r', A', _, h2, h3, h4⟩ := A.step I.toInv0 C junk
      exact .inr ⟨h0, e, r', h2 h0, A', by omega, by omega⟩) r T ⟨A, hc⟩
  refine ⟨n, E, A'.s, E.off, ?_, ?_, hc'.1, by omega⟩
  · cases A' with
    | mark ph hS M al lf => exact absurd E.off (by rw [ph]; omega)
    | sweep ph hS on lf => exact on
    | off ph hS on lf => exact on
  · cases A' <;> assumption
/-! All but one are seen: that one is freed. -/
inductive All2 (S S' Sf : HS) (p : Int) (T : SS) : Nat → Prop
  | mark (ph : T.ph = 1) (hS : T.S = S') (M : MI S' T.K) (sn : ∀ x, T.K.seen x = true ↔ x ∈ sAll S) (lf : T.left = []) : All2 S S' Sf p T (uns S' T.K + T.K.greys.length + 4)
  | sweep1 (ph : T.ph = 2) (hS : T.S = S') (on : T.K.on = false) (lf : T.left = [p]) : All2 S S' Sf p T 2
  | sweep (ph : T.ph = 2) (hS : T.S = Sf) (on : T.K.on = false) (lf : T.left = []) : All2 S S' Sf p T 1
  | off (ph : T.ph = 0) (hS : T.S = Sf) (on : T.K.on = false) (lf : T.left = []) : All2 S S' Sf p T 0
section
variable {S S' Sf : HS} {T : SS} {r : Nat} {p : Int}
theorem ins_filter (o : Int × Int × Int) : ∀ l : List (Int × Int × Int), (∀ x ∈ l, x.1 ≠ o.1) → (insO o l).filter (fun x => !(x.1 == o.1)) = l
  | [], _ => by simp [insO]
  | y :: l, h => by
    have hy : (!(y.1 == o.1)) = true := by simp [h y (by simp)]
    have hl := fun x hx => h x (List.mem_cons_of_mem _ hx)
    have hfl : l.filter (fun x => !(x.1 == o.1)) = l := List.filter_eq_self.2 fun x hx => by simp [hl x hx]
    unfold insO
    split
    · rw [List.filter_cons_of_neg (by simp), List.filter_cons_of_pos (p := fun x : Int × Int × Int => !(x.1 == o.1)) hy, hfl]
    · rw [List.filter_cons_of_pos (p := fun x : Int × Int × Int => !(x.1 == o.1)) hy, ins_filter o l hl]
theorem free_made (I : Inv S) (A : Alloced S S' 2 3 0 p) (junk : Int) : (sFree S' p junk).2 = 0 ∧ sAll (sFree S' p junk).1 = sAll S ∧ (sSize (sFree S' p junk).1 p).2.2 = false := by
  have ho : ((p, 2, 3) : Int × Int × Int) ∈ S'.objs := by rw [A.objs, ins_mem]; exact .inl rfl
  obtain ⟨e1, _, e3⟩ := free_ok A.inv.toInv0 ho junk
  have e4 : (sFree S' p junk).1.objs = S.objs := by
    rw [show (sFree S' p junk).1.objs = S'.objs.filter (fun x => !(x.1 == p)) from e3, A.objs]
    exact ins_filter (p, 2, 3) S.objs A.no
  refine ⟨e1, by unfold sAll; rw [e4], ?_⟩
  rw [size_none (fun o ho => A.no o (by rw [← e4]; exact ho))]
theorem made_fld (I : Inv S) (C : Clo S) (A : Alloced S S' 2 3 0 p) {x : Int} (hx : x ∈ sAll S) {f : Nat} (hf : f < 2) : fldA S' x f = 0 ∨ fldA S' x f ∈ sAll S := by
  have hg := C.good I.toInv0 ((mis_all I.toInv0 x).2 hx) hf
  unfold fldA at *
  rw [A.words, fillW_get]
  split
  · exact .inl rfl
  · exact hg.imp id fun h => (mis_all I.toInv0 _).1 h
theorem all_made (A : Alloced S S' 2 3 0 p) (x : Int) : x ∈ sAll S' ↔ x = p ∨ x ∈ sAll S := by
  unfold sAll
  rw [List.mem_map, List.mem_map]
  constructor
  · rintro ⟨o, ho, rfl⟩
    rw [A.objs, ins_mem] at ho
    rcases ho with rfl | h
    · exact .inl rfl
    · exact .inr ⟨o, h, rfl⟩
  · rintro (rfl | ⟨o, ho, rfl⟩)
    · exact ⟨_, by rw [A.objs, ins_mem]; exact .inl rfl, rfl⟩
    · exact ⟨o, by rw [A.objs, ins_mem]; exact .inr ho, rfl⟩
theorem keep_one (A : Alloced S S' 2 3 0 p) (sn : Int → Bool) (h : ∀ x, sn x = true ↔ x ∈ sAll S) : keepP sn (sAll S') = [p] := by
  have hn : (sAll S').Nodup := all_nodup A.inv.toInv0
  have hpn : sn p = false := by
    cases e : sn p with
    | false => rfl
    | true =>
      obtain ⟨o, ho, e2⟩ := List.mem_map.1 ((h p).1 e)
      exact absurd e2 (A.no o ho)
  have hm : ∀ x ∈ keepP sn (sAll S'), x = p := fun x hx => by
    obtain ⟨h1, h2⟩ := List.mem_filter.1 hx
    rcases (all_made A x).1 h1 with e | h3
    · exact e
    · rw [(h x).2 h3] at h2
      cases h2
  have hp : p ∈ keepP sn (sAll S') := List.mem_filter.2 ⟨(all_made A p).2 (.inl rfl), by simp [hpn]⟩
  have hnk : (keepP sn (sAll S')).Nodup := List.Nodup.sublist List.filter_sublist hn
  generalize keepP sn (sAll S') = l at hm hp hnk
  match l, hm, hp, hnk with
  | [x], hm, _, _ => rw [hm x (by simp)]
  | x :: y :: l, hm, _, hnk =>
    rw [List.nodup_cons] at hnk
    exact absurd (by rw [hm x (by simp), hm y (by simp)]; simp) hnk.1
theorem All2.sok (I : Inv S') (hp : 0 ≤ p ∧ p ≤ 4096) (A : All2 S S' Sf p T r) (hc : 0 ≤ T.cyc ∧ T.cyc + r ≤ 10000) : SOk T := by
  cases A with
  | mark ph hS M sn lf => exact ⟨.inr (.inl ⟨ph, M.on⟩), by omega, by rw [lf]; simp, by rw [lf]; simp⟩
  | sweep1 ph hS on lf => exact ⟨.inr (.inr ph), by omega, by rw [lf]; intro x hx; simp at hx; omega, by rw [lf]; simp⟩
  | sweep ph hS on lf => exact ⟨.inr (.inr ph), by omega, by rw [lf]; simp, by rw [lf]; simp⟩
  | off ph hS on lf => exact ⟨.inl ph, by omega, by rw [lf]; simp, by rw [lf]; simp⟩
theorem all2_run (I : Inv S) (C : Clo S) (A : Alloced S S' 2 3 0 p) (hS : T.S = S') (hp : T.ph = 0) (ho : T.K.on = false) (hl : T.left = []) (hc : 0 ≤ T.cyc ∧ T.cyc ≤ 5000) (hn : (sAll S).length ≤ 4096) (junk : Int) :
    (qBegin T (sAll S)).2 = 0 ∧ ∃ n, Ends (qBegin T (sAll S)).1 junk n ∧ (qIt (qBegin T (sAll S)).1 junk n).S = (sFree S' p junk).1 := by
  have C' := alloc_clo I C A
  have I' := A.inv
  have hpo : mIs S' p = true := (mis_all I'.toInv0 p).2 ((all_made A p).2 (.inl rfl))
  have hpb := mis_pos I'.toInv0 hpo
  have hgd : ∀ x ∈ sAll S, Good S' x := fun x hx => .inr ((mis_all I'.toInv0 x).2 ((all_made A x).2 (.inr hx)))
  subst hS
  obtain ⟨e0, e1, _⟩ := cyc_begin I'.toInv0 C' hp ho (sAll S) hgd
  obtain ⟨M, u⟩ := fold_shade I'.toInv0 (sAll S) mStart mi_start hgd
  have hu := uns_start I'.toInv0
  have hl2 := A.all_len
  refine ⟨e0, ?_⟩
  rw [e1]
  have hsn : ∀ x, ((sAll S).foldl (mShade T.S) mStart).seen x = true ↔ x ∈ sAll S := fun x => by
    rw [fold_seen I'.toInv0 _ mStart mi_start hgd x]
    constructor
    · rintro (h | h)
      · cases h
      · exact h.1
    · intro h
      have := mis_pos I'.toInv0 ((mis_all I'.toInv0 x).2 ((all_made A x).2 (.inr h)))
      exact .inr ⟨h, by omega⟩
  have hcy : T.cyc + ((uns T.S ((sAll S).foldl (mShade T.S) mStart) + ((sAll S).foldl (mShade T.S) mStart).greys.length + 4 : Nat) : Int) ≤ 10000 := by
    have u2 : uns T.S ((sAll S).foldl (mShade T.S) mStart) + ((sAll S).foldl (mShade T.S) mStart).greys.length = (sAll T.S).length := by rw [u, hu]; rfl
    omega
  obtain ⟨n, E, r', A', hc'⟩ := ends_run (fun T1 r => All2 S T.S (sFree T.S p junk).1 p T1 r ∧ 0 ≤ T1.cyc ∧ T1.cyc + r ≤ 10000) junk (fun T1 r ⟨A1, c0, c1⟩ => by
    refine ⟨A1.sok I' ⟨by omega, hpb.2⟩ ⟨c0, c1⟩, ?_⟩
    cases A1 with
    | mark ph hS M1 sn lf =>
      refine .inr ⟨by omega, ?_⟩
      rw [← hS] at M1 c1
      rcases hg : T1.K.greys with _ | ⟨y, gs⟩
      · rw [step_end ph M1 hg]
        have hk : keepP T1.K.seen (sAll T1.S) = [p] := by rw [hS]; exact keep_one A _ sn
        exact ⟨rfl, 2, by omega, All2.sweep1 rfl hS rfl hk, c0, by simp only; omega⟩
      · rw [step_mark (by rw [hS]; exact I'.toInv0) (by rw [hS]; exact C') ph M1 hg]
        obtain ⟨_, M', u'⟩ := mi_step (by rw [hS]; exact I'.toInv0) (by rw [hS]; exact C') M1 hg
        have ns := next_seen (by rw [hS]; exact I'.toInv0) (by rw [hS]; exact C') M1 hg
        have hy : y ∈ sAll S := (sn y).1 (M1.sn y (by rw [hg]; simp))
        have M2 : MI T.S (nextK T1.S T1.K y gs) := by rw [← hS]; exact M'
        have sn2 : ∀ x, (nextK T1.S T1.K y gs).seen x = true ↔ x ∈ sAll S := fun x => ⟨fun hx => by
          have hx0 := mis_pos (by rw [hS]; exact I'.toInv0) (M'.obj x hx)
          rcases ns.2 x hx with h | h | h
          · exact (sn x).1 h
          · rw [hS] at h
            exact (made_fld I C A hy (f := 0) (by omega)).elim (fun e => by omega) fun h2 => by rw [h]; exact h2
          · rw [hS] at h
            exact (made_fld I C A hy (f := 1) (by omega)).elim (fun e => by omega) fun h2 => by rw [h]; exact h2, fun hx => ns.1 x ((sn x).2 hx)⟩
        rw [hS] at u' c1
        rw [hg] at u' c1
        refine ⟨rfl, _, ?_, All2.mark (T := { T1 with K := nextK T1.S T1.K y gs }) ph hS M2 sn2 lf, c0, ?_⟩
        · rw [hS]
          simp only
          omega
        · rw [hS]
          simp only
          omega
    | sweep1 ph hS on lf =>
      refine .inr ⟨by omega, ?_⟩
      rw [step_sweep1 ph lf, hS]
      exact ⟨(free_made I A junk).1, 1, by omega, All2.sweep ph rfl on rfl, c0, by simp only; omega⟩
    | sweep ph hS on lf =>
      refine .inr ⟨by omega, ?_⟩
      rw [step_sweep0 ph lf]
      exact ⟨rfl, 0, by omega, All2.off rfl hS on lf, by simp only; omega, by simp only; omega⟩
    | off ph hS on lf => exact .inl ph) _ { T with K := (sAll S).foldl (mShade T.S) mStart, ph := 1 } ⟨All2.mark rfl rfl M hsn hl, hc.1, hcy⟩
  · refine ⟨n, E, ?_⟩
    cases A' with
    | mark ph hS M al lf => exact absurd E.off (by rw [ph]; omega)
    | sweep1 ph hS on lf => exact absurd E.off (by rw [ph]; omega)
    | sweep ph hS on lf => exact hS
    | off ph hS on lf => exact hS
end
section
variable {w0 : W0} {w w' w1 : World} {q s h m : Nat} {T T' : SS} {D D' : DS}
set_option maxHeartbeats 6400000 in
set_option maxRecDepth 100000 in
/-- Full at a list that is kept. -/
theorem ls_fullQ (H : LS w0 w s h m T) (vr : Value) (l : List Int) (hv : Rd i64e w vr l) (hl : l.length ≤ 4096) (hbd : ∀ x ∈ l, -9223372036854775808 ≤ x ∧ x ≤ 9223372036854775807) (hQ : ∀ b, vr.ownBlock = some b → w0.Q b)
    (junk : Int) (hx : -9223372036854775808 ≤ junk ∧ junk ≤ 9223372036854775807) (n1 n2 : Nat) {T1 T2 T3 : SS} {a1 a3 : List Int} (E1 : Ends T junk n1) (h1 : qIt T junk n1 = T1) (h2 : qBegin T1 l = (T2, 0)) (E2 : Ends T2 junk n2) (h3 : qIt T2 junk n2 = T3) (ha1 : sAll T1.S = a1) (ha3 : sAll T3.S = a3) (hn1 : a1.length ≤ 4096) (hn3 : a3.length ≤ 4096) :
    Calls Tryz.prog 26 #[.pointer (some ⟨s, 0, none⟩), vr, .int .i64 junk] w fun e w' => e = .returned (.tuple #[.int .i64 ((a1.length : Int) - a3.length), .int .i64 0]) ∧ LS w0 w' s h m T3 := by
  have c0 := H.cells.1
  have HG := Lib.hid (ls_good H)
  have HF := Lib.hid (ls_finish H junk n1 E1 hx)
  rw [h1] at HF
  have hrd : Hid (∀ {w' : World} {T' : SS}, LS w0 w' s h m T' → Rd i64e w' vr l) := Lib.hid fun h' => hv.same fun hp b e hlt => (h'.keepsQ (hQ b e)).2.trans (H.keepsQ (hQ b e)).2.symm
  have hnf : Hid (∀ b, vr.ownBlock = some b → ¬ w0.free b) := Lib.hid fun b e hfr => hfr.2 (hQ b e)
  obtain ⟨A, c, rfl, -⟩ := hv.len
  replace hbd := Lib.hid hbd
  replace hx := Lib.hid hx
  replace h2 := Lib.hid h2
  replace h3 := Lib.hid h3
  replace E1 := Lib.hid E1
  replace E2 := Lib.hid E2
  replace ha1 := Lib.hid ha1
  replace ha3 := Lib.hid ha3
  clear H hv hQ h1
  go_enter Tryz.func26, Tryz.ntmps26
  go_wp2_with fail
  refine HG.out.mono ?_
  rintro e _ ⟨rfl, rfl⟩
  clear HG
  go_wp2_with fail
  refine HF.out.mono ?_
  rintro e w2 ⟨rfl, H2⟩
  have c0 := H2.cells.1
  replace H2 := Lib.hid H2
  clear HF
  go_wp2_with fail
  refine (ls_allH H2.out ha1.out).mono ?_
  rintro e w3 ⟨A3, c3, rfl, _, _, _, H3⟩
  replace H3 := Lib.hid H3
  clear H2
  go_wp2_with fail
  refine (ls_beginQ H3.out _ l (hrd.out H3.out) hl hbd.out hnf.out).mono ?_
  rw [h2.out]
  rintro e w4 ⟨rfl, H4⟩
  replace H4 := Lib.hid H4
  clear H3
  go_wp2_with fail
  have HF := ls_finish H4.out junk n2 E2.out hx.out
  rw [h3.out] at HF
  refine HF.mono ?_
  rintro e w5 ⟨rfl, H5⟩
  have c0 := H5.cells.1
  replace H5 := Lib.hid H5
  clear H4 HF
  go_wp2_with fail
  refine (ls_allH H5.out ha3.out).mono ?_
  rintro e w6 ⟨A6, c6, rfl, _, _, _, H6⟩
  replace H6 := Lib.hid H6
  have hw : IntKind.i64.wrap ((a1.length : Int) - a3.length) = (a1.length : Int) - a3.length := by rw [IntKind.wrap_i64]; omega
  clear H5
  go_wp2_with fail
  go_ret2
  exact ⟨rfl, H6.out⟩
theorem lx_beginQ (H : LX w0 w q s h m T D) (vr : Value) (l : List Int) (hv : Rd i64e w vr l) (hl : l.length ≤ 4096) (hbd : ∀ x ∈ l, -9223372036854775808 ≤ x ∧ x ≤ 9223372036854775807) (hQ : ∀ b, vr.ownBlock = some b → w0.Q b) :
    Calls Tryz.prog 18 #[.pointer (some ⟨s, 0, none⟩), vr] w fun e w' => e = .returned (.int .i64 (qBegin T l).2) ∧ LX w0 w' q s h m (qBegin T l).1 D :=
  H.callQ (P := fun e _ => e = .returned (.int .i64 (qBegin T l).2)) (T' := (qBegin T l).1) fun v0 hv0 L => ls_beginQ L vr l hv hl hbd fun b e hfr => hfr.2 (hv0 b (hQ b e))
theorem lx_fullQ (H : LX w0 w q s h m T D) (vr : Value) (l : List Int) (hv : Rd i64e w vr l) (hl : l.length ≤ 4096) (hbd : ∀ x ∈ l, -9223372036854775808 ≤ x ∧ x ≤ 9223372036854775807) (hQ : ∀ b, vr.ownBlock = some b → w0.Q b)
    (junk : Int) (hx : -9223372036854775808 ≤ junk ∧ junk ≤ 9223372036854775807) (n1 n2 : Nat) {T1 T2 T3 : SS} {a1 a3 : List Int} (E1 : Ends T junk n1) (h1 : qIt T junk n1 = T1) (h2 : qBegin T1 l = (T2, 0)) (E2 : Ends T2 junk n2) (h3 : qIt T2 junk n2 = T3) (ha1 : sAll T1.S = a1) (ha3 : sAll T3.S = a3) (hn1 : a1.length ≤ 4096) (hn3 : a3.length ≤ 4096) :
    Calls Tryz.prog 26 #[.pointer (some ⟨s, 0, none⟩), vr, .int .i64 junk] w fun e w' => e = .returned (.tuple #[.int .i64 ((a1.length : Int) - a3.length), .int .i64 0]) ∧ LX w0 w' q s h m T3 D :=
  H.callQ (P := fun e _ => e = .returned (.tuple #[.int .i64 ((a1.length : Int) - a3.length), .int .i64 0])) fun v0 hv0 L => ls_fullQ L vr l hv hl hbd (fun b e => hv0 b (hQ b e)) junk hx n1 n2 E1 h1 h2 E2 h3 ha1 ha3 hn1 hn3
theorem lx_all2 (H : LX w0 w q s h m T D) : Calls Tryz.prog 17 #[.pointer (some ⟨h, 0, none⟩)] w fun e w' => ∃ A c, e = .returned (.slice A (sAll T.S).length c) ∧ Rd i64e w' (.slice A (sAll T.S).length c) (sAll T.S) ∧ (∀ b, (Value.slice A (sAll T.S).length c).ownBlock = some b → w.heap.size ≤ b ∧ b < w'.heap.size) ∧ Below w.heap.size w w' := by
  obtain ⟨v0, F, Dm, G, W, hF, b⟩ := H.ls
  refine (all_s h T.S F w W.mm.hp).mono ?_
  rintro e w' ⟨v, rfl, ho, hb⟩
  obtain ⟨A, c, rfl, _⟩ := own_form ho
  exact ⟨A, c, rfl, Rd.of_own ho, fun b e => ho.lt b e, hb⟩
theorem lx_size (H : LX w0 w q s h m T D) (p : Int) (hp : -9223372036854775808 ≤ p ∧ p ≤ 9223372036854775807) :
    Calls Tryz.prog 25 #[.pointer (some ⟨h, 0, none⟩), .int .i64 p] w fun e w' => e = .returned (.tuple #[.int .i64 (sSize T.S p).1, .int .u8 (sSize T.S p).2.1, .bool (sSize T.S p).2.2]) ∧ LX w0 w' q s h m T D :=
  H.call (P := fun e _ => e = .returned (.tuple #[.int .i64 (sSize T.S p).1, .int .u8 (sSize T.S p).2.1, .bool (sSize T.S p).2.2])) fun v0 L => ls_sizeH L rfl hp
theorem lx_fits (H : LX w0 w q s h m T D) (n : Int) : Calls Tryz.prog 29 #[.pointer (some ⟨h, 0, none⟩), .int .i64 n] w fun e w' => e = .returned (.bool (sFits T.S n)) ∧ LX w0 w' q s h m T D :=
  H.call (P := fun e _ => e = .returned (.bool (sFits T.S n))) fun v0 L => ls_fitsH L rfl
theorem lx_alloc (H : LX w0 w q s h m T D) : Calls Tryz.prog 22 #[.pointer (some ⟨s, 0, none⟩), .int .i64 2, .int .u8 3, .int .i64 0] w fun e w' => e = .returned (.tuple #[.int .i64 (qAlloc T 2 3 0).2.1, .int .i64 (qAlloc T 2 3 0).2.2]) ∧ LX w0 w' q s h m (qAlloc T 2 3 0).1 D := by
  have hpb := alloc_bd H.inv
  exact H.call (P := fun e _ => e = .returned (.tuple #[.int .i64 (qAlloc T 2 3 0).2.1, .int .i64 (qAlloc T 2 3 0).2.2])) fun v0 L => ls_alloc L 2 3 0 (by omega) (by omega) hpb
end
end Go.Proofs.YtcaboknbdamlhaaGreatDoor
namespace Go.Proofs.YtcaboknbdamlhaaGreatDoor
open Go.RowKit Go.Maps

theorem mapi_law : Keyed Tryz.prog 3 := int_keyed Tryz.underlying3
theorem mapb_zero (w : World) : (zeroValue 4).run Tryz.prog w = .ok (.bool false) w := by kernel_rfl
/-- Block b is a map that has true just at the numbers ks, each listed once; at most n entries. -/
def SetM (w : World) (b n : Nat) (ks : List Int) : Prop :=
  ∃ D : DataW Unit, w.ownsMap Tryz.prog 3 (plainElem Tryz.prog 4) b n D ∧ (∀ x, D.atKey (.int .i64 x) (.lit (.bool false)) = .lit (.bool (decide (x ∈ ks)))) ∧ (∀ x, Maps.has D (.int .i64 x) = decide (x ∈ ks)) ∧ ks.Nodup ∧ Maps.size D = ks.length
theorem SetM.new (w : World) : SetM (w.alloc (.map #[] 0)) w.heap.size 0 [] := ⟨.map [], World.ownsMap_made _ _ _ _, fun _ => rfl, fun _ => rfl, by simp, rfl⟩
theorem SetM.kept {w w' : World} {b n : Nat} {ks : List Int} (h : SetM w b n ks) (hb : Below w.heap.size w w') : SetM w' b n ks := by
  obtain ⟨D, h1, h2⟩ := h
  exact ⟨D, h1.kept (row := none) ⟨hb.os, hb.tape, hb.output, hb.size, fun k hk _ => hb.block k hk⟩ (by simp), h2⟩
theorem SetM.lt {w : World} {b n : Nat} {ks : List Int} (h : SetM w b n ks) : b < w.heap.size := by
  obtain ⟨D, h1, _⟩ := h
  exact h1.lt
theorem SetM.look {w : World} {b n : Nat} {ks : List Int} (h : SetM w b n ks) (x : Int) (hw : (Lit.int .i64 x).wf = true) :
    (Instr.lookup 47 (.map (some b)) (.int .i64 x) false).run Tryz.prog w = .ok (.bool (decide (x ∈ ks))) w := by
  obtain ⟨D, h1, h2, _⟩ := h
  obtain ⟨v, ps, hrun, hv⟩ := h1.lookup mapi_law Tryz.underlying47 (mapb_zero w) (plainElem_bool Tryz.underlying4 false) (keyOf_int_mk Tryz.underlying3 hw)
  rw [h2 x] at hv
  rw [hrun]
  cases v <;> simp [plainElem, Tryz.underlying4] at hv
  rw [hv.1]
def addK (ks : List Int) (x : Int) : List Int := if x ∈ ks then ks else ks ++ [x]
theorem mem_addK {ks : List Int} {x y : Int} : y ∈ addK ks x ↔ y ∈ ks ∨ y = x := by
  unfold addK
  split
  · rename_i h
    exact ⟨.inl, fun e => e.elim id fun e => e ▸ h⟩
  · simp
theorem addK_nodup {ks : List Int} {x : Int} (h : ks.Nodup) : (addK ks x).Nodup := by
  unfold addK
  split
  · exact h
  · rename_i hx
    rw [List.nodup_append]
    exact ⟨h, by simp, fun a ha b hb e => by rw [List.mem_singleton] at hb; subst hb e; exact hx ha⟩
theorem addK_len (ks : List Int) (x : Int) : (addK ks x).length ≤ ks.length + 1 := by
  unfold addK
  split <;> simp
theorem SetM.put {w' : World} {b n : Nat} {ks : List Int} {x : Int} {D : DataW Unit} (ht : Tidy D) (hkey : WideAt.IsKeyLit (.int .i64 x)) (h2 : ∀ x, D.atKey (.int .i64 x) (.lit (.bool false)) = .lit (.bool (decide (x ∈ ks)))) (h3 : ∀ x, Maps.has D (.int .i64 x) = decide (x ∈ ks)) (h4 : ks.Nodup) (h5 : Maps.size D = ks.length)
    (h1 : w'.ownsMap Tryz.prog 3 (plainElem Tryz.prog 4) b (n + 1) (D.put (.int .i64 x) (.lit (.bool true)))) : SetM w' b (n + 1) (addK ks x) := by
  have ne : ∀ {y : Int}, y ≠ x → (Lit.int .i64 y) ≠ .int .i64 x := by
    intro y h e
    injection e with _ e
    exact h e
  refine ⟨_, h1, fun y => ?_, fun y => ?_, addK_nodup h4, ?_⟩
  · by_cases e : y = x
    · subst e
      rw [atKey_put_same ht.isMap hkey, decide_eq_true (mem_addK.2 (.inr rfl))]
    · rw [atKey_put_other (ne e), h2 y]
      congr 3
      exact propext ⟨fun h => mem_addK.2 (.inl h), fun h => (mem_addK.1 h).elim id fun h => absurd h e⟩
  · by_cases e : y = x
    · subst e
      rw [has_put_same ht.isMap hkey, decide_eq_true (mem_addK.2 (.inr rfl))]
    · rw [has_put_other (ne e), h3 y, decide_eq_decide, mem_addK]
      exact ⟨.inl, fun h => h.elim id fun h => absurd h e⟩
  · rw [size_put ht, h3 x, h5]
    unfold addK
    by_cases e : x ∈ ks
    · rw [if_pos e, if_pos (decide_eq_true e)]
    · rw [if_neg e, if_neg (by simp [e])]
      simp
section
variable {w : World} {ops : Array Oper} {rest : List Oper} {o : Oper} {a : Act} {Q : Exit → Act → World → Prop}
theorem wpList_setm_new (hgd : o.guard = none) (ho : o.op = .makeMap 47 none)
    (hrun : (execOp a.eval o).run Tryz.prog w = .ok (.value (.map (some w.heap.size))) (w.alloc (.map #[] 0)))
    (h : ∀ w', w'.heap.size = w.heap.size + 1 → Below w.heap.size w w' → SetM w' w.heap.size 0 [] → wpList Tryz.prog ops Q rest (a.put o.dst (.map (some w.heap.size))) w') : wpList Tryz.prog ops Q (o :: rest) a w := by
  refine wpList_plain hgd fun K hK => ?_
  unfold Oper.wp
  rw [hrun]
  exact hK _ _ (h _ (by simp) (below_alloc w _) (SetM.new w))
theorem wpList_setm_put (hgd : o.guard = none) (m x v : Operand) (ho : o.op = .mapUpdate 47 m x v) {b n : Nat} {ks : List Int} (hS : SetM w b n ks) (hm : a.eval m = .map (some b)) (hn : n < maxLen)
    (y : Int) (hx : a.eval x = .int .i64 y) (hv : a.eval v = .bool true) (hw : (Lit.int .i64 y).wf = true)
    (h : ∀ w', SetM w' b (n + 1) (addK ks y) → w.grownBy w' (some b) → wpList Tryz.prog ops Q rest (a.put o.dst undef) w') : wpList Tryz.prog ops Q (o :: rest) a w := by
  obtain ⟨D, h1, h2, h3, h4, h5⟩ := hS
  exact wpList_mapUpdate_own _ hgd m x v _ ho _ _ mapi_law Tryz.underlying47 _ b n D hm h1 hn _ _ (.int .i64 y) hx hv (keyOf_int_mk Tryz.underlying3 hw) (.lit (.bool true)) [] (plainElem_bool Tryz.underlying4 true)
    fun w' h6 h7 => h w' (SetM.put (h1.tidy mapi_law) trivial h2 h3 h4 h5 h6) h7
theorem wpList_setm_len (hgd : o.guard = none) (m : Operand) (ho : o.op = Op.call { callee := Callee.builtin Builtin.len, args := #[m], argTypes := #[47] }) {b n : Nat} {ks : List Int} (hS : SetM w b n ks) (hm : a.eval m = .map (some b))
    (h : wpList Tryz.prog ops Q rest (a.put o.dst (.int .i64 (ks.length : Nat))) w) : wpList Tryz.prog ops Q (o :: rest) a w := by
  obtain ⟨D, h1, h2, h3, h4, h5⟩ := hS
  refine wpList_len_own _ hgd m _ ho _ _ Tryz.underlying47 _ b n D hm h1 ?_
  rw [h5]
  exact h
end
end Go.Proofs.YtcaboknbdamlhaaGreatDoor
namespace Go.Proofs.YtcaboknbdamlhaaGreatDoor
open Go.RowKit Go.Maps
theorem SetM.of_block {w w' : World} {b n : Nat} {ks : List Int} (h : SetM w b n ks) (hb : w'.heap[b]? = w.heap[b]?) : SetM w' b n ks := by
  obtain ⟨D, ⟨es, clock, h1, h2⟩, h3⟩ := h
  exact ⟨D, ⟨es, clock, hb.trans h1, h2⟩, h3⟩
theorem SetM.not_cells {w : World} {b n : Nat} {ks : List Int} (h : SetM w b n ks) {o : Nat} {v : Value} (hc : w.cell? ⟨b, o, none⟩ = some v) : False := by
  obtain ⟨D, ⟨es, clock, h1, h2⟩, h3⟩ := h
  simp [World.cell?, h1] at hc
/-- 'for x := range m' under way: block r the iterator, cnt still to come. -/
def SetR (w : World) (b r n : Nat) (ks : List Int) (cnt : Nat) : Prop :=
  ∃ (D : DataW Unit) (left : Lit → Bool), w.ranges Tryz.prog 3 (plainElem Tryz.prog 4) b r n D left cnt ∧ (∀ x, left (.int .i64 x) = true → x ∈ ks)
theorem SetR.left {w : World} {b r n : Nat} {ks : List Int} {cnt : Nat} (h : SetR w b r n ks cnt) : w.rangeLeft b r = cnt := by
  obtain ⟨D, left, h1, _⟩ := h
  exact h1.left_eq
section
variable {w : World} {ops : Array Oper} {rest : List Oper} {o : Oper} {a : Act} {Q : Exit → Act → World → Prop}
theorem wpList_setm_range (hg : o.guard = none) (m : Operand) (hop : o.op = Op.range 47 m) {b n : Nat} {ks : List Int} (hS : SetM w b n ks) (hm : a.eval m = .map (some b))
    (hK : ∀ w' cnt, SetR w' b w.heap.size n ks cnt → Below w.heap.size w w' → w'.heap.size = w.heap.size + 1 → wpList Tryz.prog ops Q rest (a.put o.dst (.pointer (some ⟨w.heap.size, 0, none⟩))) w') :
    wpList Tryz.prog ops Q (o :: rest) a w := by
  obtain ⟨D, h1, h2, h3, h4, h5⟩ := hS
  refine wpList_range_own _ hg m _ hop 3 4 mapi_law Tryz.underlying47 _ b n D hm h1 ?_
  intro w' hr hg' hs
  refine hK w' _ ⟨D, _, hr, fun x hx => ?_⟩ ⟨hg'.os, hg'.tape, hg'.output, hg'.size, fun k hk => hg'.block k hk (by simp)⟩ hs
  rw [h3 x] at hx
  exact of_decide_eq_true hx
theorem wpList_setm_next (hg : o.guard = none) (it : Operand) (hop : o.op = Op.next it false) {b r n cnt : Nat} {ks : List Int} (h : SetR w b r n ks cnt) (hit : a.eval it = .pointer (some ⟨r, 0, none⟩))
    (hDone : wpList Tryz.prog ops Q rest (a.put o.dst (.tuple #[.bool false])) w)
    (hMore : ∀ (x : Int) (c : Value) (w' : World) (cnt' : Nat), x ∈ ks → (Lit.int .i64 x).wf = true → SetR w' b r n ks cnt' → cnt' < cnt → w.grownBy w' (some r) → w'.heap.size = w.heap.size → (Instr.entry (.pointer (some ⟨r, 0, none⟩))).run Tryz.prog w' = .ok (.tuple #[.int .i64 x, c]) w' → wpList Tryz.prog ops Q rest (a.put o.dst (.tuple #[.bool true, .int .i64 x, c])) w') :
    wpList Tryz.prog ops Q (o :: rest) a w := by
  obtain ⟨D, left, hr, hl⟩ := h
  refine wpList_next_ranges w hg it hop 3 mapi_law (plainElem Tryz.prog 4) (Value.int .i64) Value.bool
    (fun key kl hkey => by obtain ⟨x, rfl, _⟩ := Maps.keyOf_int_inv Tryz.underlying3 hkey; exact ⟨x, rfl⟩)
    (fun v y hv => by
      cases v <;> simp [plainElem, Tryz.underlying4] at hv
      exact ⟨_, rfl⟩) b r n D left cnt hit hr (fun _ _ => hDone) fun x c kl y w' cnt' hkey hlk hv hat hrg hlt hgr hsz hen => ?_
  obtain ⟨x', ex, rfl, hwx⟩ := Maps.keyOf_int_inv Tryz.underlying3 hkey
  cases ex
  exact hMore x (.bool c) w' cnt' (hl x hlk) hwx ⟨D, _, hrg, fun z hz => hl z (by
    have := hz
    simp only [Bool.and_eq_true] at this
    exact this.1)⟩ hlt hgr hsz hen
end
end Go.Proofs.YtcaboknbdamlhaaGreatDoor
namespace Go.Proofs.YtcaboknbdamlhaaGreatDoor
open Go.RowKit Go.Shelf
def TailR (w : World) (B : Nat) (v : Value) (xs : List Int) : Prop :=
  (v = .slice none 0 0 ∧ xs = []) ∨ ∃ g o cap cur, v = .slice (some ⟨g, o, none⟩) xs.length cap ∧ B ≤ g ∧ w.heap[g]? = some (.cells cur 3 (0, 0)) ∧ xs.length ≤ cap ∧ cap ≤ maxLen ∧ o + cap ≤ cur.size ∧ ∀ i (h : i < xs.length), cur[o + i]? = some (.int .i64 xs[i])
section
variable {w w' : World} {B : Nat} {v : Value} {xs : List Int}
theorem TailR.form (h : TailR w B v xs) : ∃ A c, v = .slice A xs.length c := by
  rcases h with ⟨rfl, rfl⟩ | ⟨g, o, cap, cur, rfl, _⟩
  · exact ⟨none, 0, rfl⟩
  · exact ⟨_, _, rfl⟩
theorem TailR.lt (h : TailR w B v xs) : ∀ k, v.ownBlock = some k → B ≤ k ∧ k < w.heap.size := by
  intro k hk
  rcases h with ⟨rfl, _⟩ | ⟨g, o, cap, cur, rfl, hb, hg, _⟩
  · cases hk
  · have e : g = k := by simpa [Value.ownBlock] using hk
    subst e
    exact ⟨hb, (Array.getElem?_eq_some_iff.1 hg).1⟩
theorem TailR.own {n : Nat} (h : w.ownsRow B 3 1 v n (xs.map i64e)) : TailR w B v xs := by
  have hn : n = xs.length := by have := h.1; rw [List.length_map] at this; omega
  subst hn
  rcases h.2 with ⟨rfl, h0⟩ | ⟨g, cap, cur, rfl, hb, hg, hnc, hcm, hcs, ht⟩
  · exact .inl ⟨rfl, List.eq_nil_of_length_eq_zero h0⟩
  · refine .inr ⟨g, 0, cap, cur, rfl, hb, hg, hnc, hcm, by omega, fun i hi => ?_⟩
    have h1 : (cur.toList.take (xs.length * 1))[i]? = some (.int .i64 xs[i]) := by
      rw [ht, List.getElem?_map, List.getElem?_eq_getElem hi]
      rfl
    rw [List.getElem?_take, if_pos (by omega)] at h1
    rw [Nat.zero_add]
    simpa using h1
theorem TailR.kept (h : TailR w B v xs) (hk : ∀ k, v.ownBlock = some k → k < w.heap.size → w'.heap[k]? = w.heap[k]?) : TailR w' B v xs := by
  rcases h with h | ⟨g, o, cap, cur, rfl, hb, hg, rest⟩
  · exact .inl h
  · exact .inr ⟨g, o, cap, cur, rfl, hb, (hk g rfl (Array.getElem?_eq_some_iff.1 hg).1).trans hg, rest⟩
theorem TailR.below (h : TailR w B v xs) (hb : Below w.heap.size w w') : TailR w' B v xs := h.kept fun k _ hlt => hb.block k hlt
/-- Its first number. -/
theorem TailR.head {x : Int} (h : TailR w B v (x :: xs)) : ∃ g o cap, v = .slice (some ⟨g, o, none⟩) (xs.length + 1) cap ∧ 1 ≤ cap ∧ w.cell? ⟨g, o, none⟩ = some (.int .i64 x) ∧ (cap = 1 → TailR w B (.slice (some ⟨g, o, none⟩) 0 0) xs) ∧ (cap ≠ 1 → TailR w B (.slice (some ⟨g, o + 1, none⟩) xs.length (cap - 1)) xs) ∧ xs.length + 1 ≤ cap ∧ cap ≤ maxLen := by
  rcases h with ⟨_, h⟩ | ⟨g, o, cap, cur, rfl, hb, hg, hnc, hcm, hcs, hx⟩
  · cases h
  · have hl : (x :: xs).length = xs.length + 1 := rfl
    rw [hl] at hnc
    refine ⟨g, o, cap, rfl, by omega, ?_, fun hc => ?_, fun hc => ?_, hnc, hcm⟩
    · have h0 := hx 0 (by rw [hl]; omega)
      rw [cell_of_row w g o cur _ (0, 0) hg]
      simpa using h0
    · have : xs = [] := List.eq_nil_of_length_eq_zero (by omega)
      subst this
      exact .inr ⟨g, o, 0, cur, rfl, hb, hg, Nat.le_refl _, Nat.zero_le _, by omega, fun i hi => absurd hi (Nat.not_lt_zero _)⟩
    · refine .inr ⟨g, o + 1, cap - 1, cur, rfl, hb, hg, by omega, by omega, by omega, fun i hi => ?_⟩
      have h0 := hx (i + 1) (by rw [hl]; omega)
      rw [show o + 1 + i = o + (i + 1) by omega, h0]
      rfl
end
theorem run_append_off {P : Program} (w : World) (t ty e : TypeId) (i : TypeInfo) (ht : P.underlying t = some (.slice e)) (hi : P.info? e = some i) (h1 : i.size = 1)
    (g o sLen sCap : Nat) (cur : Array Value) (hg : w.heap[g]? = some (.cells cur e (0, 0)))
    (a : Addr) (c : Nat) (u : Value) (hnews : w.cell? a = some u) (hu : u.oneCell' = true)
    (hroom : sLen + 1 ≤ sCap) (hfit : o + sLen + 1 ≤ cur.size) :
    (Builtin.append_ #[t, t] ty #[.slice (some ⟨g, o, none⟩) sLen sCap, .slice (some a) 1 c]).run P w =
      .ok (.slice (some ⟨g, o, none⟩) (sLen + 1) sCap) (w.setRow g (cur.toList.take (o + sLen) ++ [u] ++ cur.toList.drop (o + sLen + 1)).toArray) := by
  have ha0 : a.add 0 = a := by
    unfold Addr.add
    split <;> simp_all
  have hf := run_firstCells_some (P := P) w i.size 1 a 1 c [u] (by rw [h1]; rfl) (fun j v hv => by
    have hj : j = 0 := by
      have := (List.getElem?_eq_some_iff.1 hv).1
      simp at this
      exact this
    subst hj
    simp at hv
    subst hv
    rw [ha0]
    exact hnews)
  have hst := run_storeCells_at P g (o + sLen) e [u] 0 cur w hg (by simpa using hfit) (by intro y hy; rw [List.mem_singleton.1 hy]; exact hu)
  have hadd : (⟨g, o, none⟩ : Addr).add sLen = ⟨g, o + sLen, none⟩ := Addr.add_mid g o sLen
  simp only [Nat.add_zero, List.length_singleton] at hst
  rw [h1] at hf
  simp [Builtin.append_, run_underlying ht, sizeOf, typeInfo, hi, Builtin.lenOf, hroom, hf, h1, hadd, hst]
/-- One number more. -/
theorem wpList_push_tail {w0 : World} {ops : Array Oper} {rest : List Oper} {o : Oper} {a : Act} {Q : Exit → Act → World → Prop} (hgd : o.guard = none) (s x : Operand)
    (ho : o.op = .call { callee := .builtin .append, args := #[s, x], argTypes := #[36, 36] })
    (B : Nat) (v : Value) (xs : List Int) (hs : a.eval s = v) (hT : TailR w0 B v xs) (y : Int)
    (hx : a.eval x = .slice (some ⟨w0.heap.size, 0, none⟩) 1 1) (hn : xs.length ≤ 100000) (hbase : B ≤ w0.heap.size)
    (h : ∀ v' w', TailR w' B v' (xs ++ [y]) → Below B w0 w' → w0.heap.size ≤ w'.heap.size → (∀ k, k < w0.heap.size → v.ownBlock ≠ some k → w'.heap[k]? = w0.heap[k]?) → (∀ k, v'.ownBlock = some k → v.ownBlock = some k ∨ w0.heap.size ≤ k) → wpList Tryz.prog ops Q rest (a.put o.dst v') w') :
    wpList Tryz.prog ops Q (o :: rest) a (w0.alloc (.cells #[.int .i64 y] 3)) := by
  obtain ⟨i, hi1, hz, hsize, hby⟩ := info_parts (P := Tryz.prog) (e := 3) int_info
  have hcell : (w0.alloc (.cells #[.int .i64 y] 3)).cell? ⟨w0.heap.size, 0, none⟩ = some (.int .i64 y) := (Blk.new w0 3 #[.int .i64 y]).cell 0
  rcases hT with ⟨rfl, rfl⟩ | ⟨g, off, cap, cur, rfl, hb, hg, hnc, hcm, hcs, hxs⟩
  · refine wpList_push hgd s x _ ho B 3 _ 8 Tryz.underlying36 int_info rfl (.slice none 0 0) 0 [] hs (World.ownsRow_nil _ _ _ _) (.int .i64 y) rfl hx (by unfold maxLen; omega) (by omega) hbase fun v' w' h1 h2 h3 => ?_
    have h1' : w'.ownsRow B 3 1 v' 1 (([y] : List Int).map i64e) := h1
    refine h v' w' (TailR.own h1') ⟨h2.os, h2.tape, h2.output, h2.size, fun k hk => h2.block k (by omega) (by simp [Value.ownBlock])⟩ h2.size (fun k hk _ => h2.block k hk (by simp [Value.ownBlock])) fun k hk => ?_
    rcases h3 with e | e
    · rw [hk] at e; cases e
    · rw [hk] at e
      injection e with e
      exact .inr (by omega)
  · have hgl : g < w0.heap.size := (Array.getElem?_eq_some_iff.1 hg).1
    have hg1 : (w0.alloc (.cells #[.int .i64 y] 3)).heap[g]? = some (.cells cur 3 (0, 0)) := (Below.heap_alloc w0 _ g hgl).trans hg
    have hsz : (w0.alloc (.cells #[.int .i64 y] 3)).heap.size = w0.heap.size + 1 := by simp
    refine wpList_plain hgd fun K hK => ?_
    by_cases hroom : xs.length + 1 ≤ cap
    · have hr := run_append_off (P := Tryz.prog) (w0.alloc (.cells #[.int .i64 y] 3)) 36 o.type 3 i Tryz.underlying36 hi1 hsize g off xs.length cap cur hg1 ⟨w0.heap.size, 0, none⟩ 1 (.int .i64 y) hcell rfl hroom (by omega)
      unfold Oper.wp execOp
      simp only [ho, resolve, invoke, builtin, Sem.run_bind, Sem.run_pure, Result.andThen_ok, List.map_toArray, List.map_cons, List.map_nil, hs, hx, hr]
      have hrow := setRow_heap (w0.alloc (.cells #[.int .i64 y] 3)) g cur (cur.toList.take (off + xs.length) ++ [Value.int .i64 y] ++ cur.toList.drop (off + xs.length + 1)).toArray 3 (0, 0) hg1
      have hoth : ∀ k, k ≠ g → ((w0.alloc (.cells #[.int .i64 y] 3)).setRow g (cur.toList.take (off + xs.length) ++ [Value.int .i64 y] ++ cur.toList.drop (off + xs.length + 1)).toArray).heap[k]? = (w0.alloc (.cells #[.int .i64 y] 3)).heap[k]? := fun k hk => setRow_other _ g k _ hk
      have hsr : ((w0.alloc (.cells #[.int .i64 y] 3)).setRow g (cur.toList.take (off + xs.length) ++ [Value.int .i64 y] ++ cur.toList.drop (off + xs.length + 1)).toArray).heap.size = w0.heap.size + 1 := by rw [size_setRow, hsz]
      refine hK _ _ (h _ _ (.inr ⟨g, off, cap, _, by rw [List.length_append]; rfl, hb, hrow, by rw [List.length_append]; exact hroom, hcm, ?_, fun j hj => ?_⟩) ⟨rfl, rfl, rfl, by rw [hsr]; omega, fun k hk => (hoth k (by omega)).trans (Below.heap_alloc w0 _ k (by omega))⟩ (by rw [hsr]; omega) (fun k hk hne => (hoth k fun e => hne (by rw [e]; rfl)).trans (Below.heap_alloc w0 _ k hk)) fun k hk => .inl hk)
      · simp only [List.size_toArray, List.length_append, List.length_take, List.length_drop, Array.length_toList, List.length_singleton]
        omega
      · have hcl : cur.toList.length = cur.size := Array.length_toList
        rw [List.getElem?_toArray]
        rw [List.length_append] at hj
        simp only [List.length_singleton] at hj
        by_cases hj2 : j < xs.length
        · rw [List.append_assoc, List.getElem?_append_left (by rw [List.length_take]; omega), List.getElem?_take, if_pos (by omega)]
          rw [List.getElem_append_left hj2]
          have := hxs j hj2
          simpa using this
        · obtain rfl : j = xs.length := by omega
          rw [List.append_assoc, List.getElem?_append_right (by rw [List.length_take]; omega), List.length_take, Nat.min_eq_left (by omega)]
          simp
    · have hcap : cap = xs.length := by omega
      subst hcap
      have hr := run_append_grow (P := Tryz.prog) (w0.alloc (.cells #[.int .i64 y] 3)) 36 o.type 3 i _ Tryz.underlying36 hi1 hz ⟨g, off, none⟩ xs.length xs.length (xs.map i64e) (by rw [List.length_map, hsize]; omega) (fun j u hu => by
        have hj : j < xs.length := by have := (List.getElem?_eq_some_iff.1 hu).1; simpa using this
        rw [List.getElem?_map, List.getElem?_eq_getElem hj] at hu
        have hu2 : i64e xs[j] = u := by simpa using hu
        rw [Addr.add_mid, cell_of_row _ g (off + j) cur _ (0, 0) hg1, hxs j hj, ← hu2]) ⟨w0.heap.size, 0, none⟩ 1 1 [.int .i64 y] (by rw [hsize]; rfl) (cell_one_new w0 _ _) (by omega) (by omega) (growslice_fits (by omega) (by rw [hby]; omega))
      unfold Oper.wp execOp
      simp only [ho, resolve, invoke, builtin, Sem.run_bind, Sem.run_pure, Result.andThen_ok, List.map_toArray, List.map_cons, List.map_nil, hs, hx, hr]
      have hge := grownCap_ge (w0.alloc (.cells #[.int .i64 y] 3)) (xs.length + 1) xs.length 3
      have hgm := grownCap_le_maxLen (w0.alloc (.cells #[.int .i64 y] 3)) (xs.length + 1) xs.length 3 (by unfold maxLen; omega)
      generalize grownCap (w0.alloc (.cells #[.int .i64 y] 3)) (xs.length + 1) xs.length 3 = gc at hge hgm ⊢
      have hd : (w0.alloc (.cells #[.int .i64 y] 3)).drew.heap = (w0.alloc (.cells #[.int .i64 y] 3)).heap := rfl
      refine hK _ _ (h _ _ (.inr ⟨_, 0, gc, _, by rw [List.length_append]; rfl, (by show B ≤ (w0.alloc (.cells #[.int .i64 y] 3)).heap.size; rw [hsz]; omega), heap_alloc_new (w0.alloc (.cells #[.int .i64 y] 3)).drew _, by rw [List.length_append]; exact hge, hgm, ?_, fun j hj => ?_⟩) ⟨rfl, rfl, rfl, by simp; omega, fun k hk => (heap_alloc_old (w0.alloc (.cells #[.int .i64 y] 3)).drew _ k (by show k < (w0.alloc (.cells #[.int .i64 y] 3)).heap.size; omega)).trans (Below.heap_alloc w0 _ k (by omega))⟩ (by simp; omega) (fun k hk _ => (heap_alloc_old (w0.alloc (.cells #[.int .i64 y] 3)).drew _ k (by show k < (w0.alloc (.cells #[.int .i64 y] 3)).heap.size; omega)).trans (Below.heap_alloc w0 _ k hk)) fun k hk => .inr ?_)
      · simp only [Array.size_append, List.size_toArray, size_zeroCells, List.length_map, List.length_singleton]
        have : (Value.cells (.int .i64 0)).size = 1 := rfl
        rw [this]
        omega
      · rw [Nat.zero_add]
        rw [List.length_append] at hj
        simp only [List.length_singleton] at hj
        rw [Array.getElem?_append_left (by simp; omega)]
        by_cases hj2 : j < xs.length
        · rw [Array.getElem?_append_left (by simp; omega), List.getElem_append_left hj2]
          simp [hj2]
        · obtain rfl : j = xs.length := by omega
          rw [Array.getElem?_append_right (by simp)]
          simp
      · have e : (w0.alloc (.cells #[.int .i64 y] 3)).heap.size = k := by simpa [Value.ownBlock] using hk
        omega
end Go.Proofs.YtcaboknbdamlhaaGreatDoor
namespace Go.Proofs.YtcaboknbdamlhaaGreatDoor
open Go.RowKit Go.Shelf
/-- What can be reached from some numbers. -/
inductive RcS (S : HS) (l : List Int) : Int → Prop
  | root {x : Int} (h : x ∈ l) (h0 : x ≠ 0) : RcS S l x
  | fld {y : Int} (h : RcS S l y) (f : Nat) (hf : f < 2) (h0 : fldA S y f ≠ 0) : RcS S l (fldA S y f)
theorem RcS.good {S : HS} {l : List Int} (I : Inv0 S) (C : Clo S) (hl : ∀ x ∈ l, Good S x) {x : Int} (h : RcS S l x) : mIs S x = true := by
  induction h with
  | root h h0 => exact (hl _ h).resolve_left h0
  | fld h f hf h0 ih => exact (C.good I ih hf).resolve_left h0
structure RI (S : HS) (l td ks : List Int) (n : Nat) : Prop where
  tdR : ∀ x ∈ td, x = 0 ∨ RcS S l x
  ksR : ∀ x ∈ ks, RcS S l x
  nd : ks.Nodup
  n : n ≤ ks.length
  root : ∀ x ∈ l, x ≠ 0 → x ∈ ks ∨ x ∈ td
  clo : ∀ y ∈ ks, ∀ f : Nat, f < 2 → fldA S y f ≠ 0 → fldA S y f ∈ ks ∨ fldA S y f ∈ td
  tl : td.length ≤ 4096 + 2 * ks.length
section
variable {S : HS} {l td ks : List Int} {n : Nat} {x : Int}
theorem RI.start (hl : l.length ≤ 4096) : RI S l l [] 0 :=
  ⟨fun x hx => if h : x = 0 then .inl h else .inr (.root hx h), fun x hx => (by cases hx), by simp, Nat.le_refl _, fun x hx _ => .inr hx, fun y hy => (by cases hy), by simp; omega⟩
theorem RI.skip (R : RI S l (x :: td) ks n) (h : x = 0 ∨ x ∈ ks) : RI S l td ks n :=
  ⟨fun y hy => R.tdR y (List.mem_cons_of_mem _ hy), R.ksR, R.nd, R.n, fun y hy h0 => (R.root y hy h0).elim .inl fun h1 => (List.mem_cons.1 h1).elim (fun e => h.elim (fun e0 => absurd (e.trans e0) h0) fun h2 => .inl (e ▸ h2)) .inr,
    fun y hy f hf h0 => (R.clo y hy f hf h0).elim .inl fun h1 => (List.mem_cons.1 h1).elim (fun e => h.elim (fun e0 => absurd (e.trans e0) h0) fun h2 => .inl (e ▸ h2)) .inr, by have := R.tl; simp only [List.length_cons] at this; omega⟩
theorem RI.take (R : RI S l (x :: td) ks n) (h0 : x ≠ 0) (hk : x ∉ ks) : RI S l (td ++ [fldA S x 0, fldA S x 1]) (ks ++ [x]) (n + 1) := by
  have hx : RcS S l x := (R.tdR x (by simp)).resolve_left h0
  refine ⟨fun y hy => ?_, fun y hy => ?_, ?_, ?_, fun y hy hy0 => ?_, fun y hy f hf hf0 => ?_, ?_⟩
  · rcases List.mem_append.1 hy with h | h
    · exact R.tdR y (List.mem_cons_of_mem _ h)
    · by_cases e : y = 0
      · exact .inl e
      · simp only [List.mem_cons, List.not_mem_nil, or_false] at h
        rcases h with rfl | rfl
        · exact .inr (.fld hx 0 (by omega) e)
        · exact .inr (.fld hx 1 (by omega) e)
  · rcases List.mem_append.1 hy with h | h
    · exact R.ksR y h
    · rw [List.mem_singleton.1 h]; exact hx
  · rw [List.nodup_append]
    exact ⟨R.nd, by simp, fun a ha b hb e => by rw [List.mem_singleton] at hb; subst hb e; exact hk ha⟩
  · have := R.n
    simp
    omega
  · rcases R.root y hy hy0 with h | h
    · exact .inl (List.mem_append_left _ h)
    · rcases List.mem_cons.1 h with rfl | h
      · exact .inl (List.mem_append_right _ (by simp))
      · exact .inr (List.mem_append_left _ h)
  · rcases List.mem_append.1 hy with h | h
    · rcases R.clo y h f hf hf0 with h | h
      · exact .inl (List.mem_append_left _ h)
      · rcases List.mem_cons.1 h with e | h
        · exact .inl (List.mem_append_right _ (by simp [e]))
        · exact .inr (List.mem_append_left _ h)
    · rw [List.mem_singleton.1 h]
      rcases (by omega : f = 0 ∨ f = 1) with rfl | rfl
      · exact .inr (List.mem_append_right _ (by simp))
      · exact .inr (List.mem_append_right _ (by simp))
  · have := R.tl
    simp only [List.length_cons, List.length_append, List.length_nil] at this ⊢
    omega
theorem RI.done (R : RI S l [] ks n) (x : Int) : x ∈ ks ↔ RcS S l x := by
  refine ⟨R.ksR x, fun h => ?_⟩
  induction h with
  | root h h0 => exact (R.root _ h h0).resolve_right (by simp)
  | fld h f hf h0 ih => exact (R.clo _ ih f hf h0).resolve_right (by simp)
theorem RI.len (R : RI S l td ks n) (I : Inv0 S) (C : Clo S) (hl : ∀ x ∈ l, Good S x) : ks.length ≤ 4096 :=
  nodup_lenI 4096 _ R.nd fun x hx => by have := mis_pos I ((R.ksR x hx).good I C hl); omega
end
/-- The walk is on its way: so many rounds are left at most. -/
def RP (w : World) (bm : Nat) (S : HS) (l : List Int) (v : Value) (wr : World) (d : Nat) : Prop :=
  ∃ td ks n, TailR wr (bm + 1) v td ∧ SetM wr bm n ks ∧ Below w.heap.size w wr ∧ RI S l td ks n ∧ d = 2 * (4096 - ks.length) + td.length
section
variable {w0 : W0} {w w' w1 : World} {q s h m : Nat} {T T' : SS} {D D' : DS}
theorem lx_load (H : LX w0 w q s h m T D) (p f : Int) (hp : -9223372036854775808 ≤ p ∧ p ≤ 9223372036854775807) :
    Calls Tryz.prog 28 #[.pointer (some ⟨h, 0, none⟩), .int .i64 p, .int .i64 f] w fun e w' => e = .returned (.tuple #[.int .i64 (sLoad T.S p f).1, .int .i64 (sLoad T.S p f).2]) ∧ Below w.heap.size w w' := by
  obtain ⟨v0, F, Dm, G, W, hF, b⟩ := H.ls
  exact load_s h T.S F w p f W.mm.hp hp.1 hp.2
theorem wf_i64 {x : Int} (h : 0 ≤ x ∧ x ≤ 4096) : (Lit.int .i64 x).wf = true := by
  simp [Lit.wf, IntKind.min, IntKind.max, IntKind.signed, IntKind.bits]; omega
set_option maxHeartbeats 12800000 in
set_option maxRecDepth 100000 in
theorem lx_reach (H : LX w0 w q s h m T D) (C : Clo T.S) (vr : Value) (l : List Int) (hv : Rd i64e w vr l) (hl : l.length ≤ 4096) (hg : ∀ x ∈ l, Good T.S x) :
    Calls Tryz.prog 16 #[.pointer (some ⟨h, 0, none⟩), vr] w fun e w' => ∃ bm n ks, e = .returned (.map (some bm)) ∧ SetM w' bm n ks ∧ n ≤ 4096 ∧ w.heap.size ≤ bm ∧ (∀ x, x ∈ ks ↔ RcS T.S l x) ∧ Below w.heap.size w w' := by
  obtain ⟨A, c, rfl, hlc, -⟩ := hv.len
  have I := Lib.hid H.inv.toInv0
  replace C := Lib.hid C
  replace hg := Lib.hid hg
  obtain ⟨S, hS⟩ : ∃ S, S = T.S := ⟨_, rfl⟩
  rw [← hS] at I C hg ⊢
  have HLd : Hid (∀ (wx : World) (x : Int) (f : Nat), Below w.heap.size w wx → mIs S x = true → f < 2 → Calls Tryz.prog 28 #[.pointer (some ⟨h, 0, none⟩), .int .i64 x, .int .i64 f] wx fun e w' => e = .returned (.tuple #[.int .i64 (fldA S x f), .int .i64 0]) ∧ Below wx.heap.size wx w') := Lib.hid fun wx x f hb hx hf => by
    have hxb := mis_pos I.out hx
    have := lx_load (H.below hb) x f (by omega)
    rw [← hS, C.out.load I.out hx hf] at this
    exact this
  replace hS := Lib.hid hS
  replace hv := Lib.hid hv
  clear H
  go_enter Tryz.func16, Tryz.ntmps16
  go_wp2_with (refine wpList_setm_new rfl rfl (by kernel_rfl) ?_; intro w1 hs1 hb1 hS1; refine stop_here ?_)
  obtain ⟨bm, hbm⟩ : ∃ bm, bm = w.heap.size := ⟨_, rfl⟩
  rw [← hbm] at hS1 ⊢
  have hz1 : bm + 1 ≤ w1.heap.size := by omega
  have hv1 := Lib.hid (hv.out.below hb1)
  replace hS1 := Lib.hid hS1
  replace hbm := Lib.hid hbm
  refine go_on ?_
  go_wp2_with (at_builtin; refine wpList_append_all rfl (.const (.slice none 0 0)) (.tmp 12) _ rfl (bm + 1) 3 _ 8 Tryz.underlying36 int_info rfl (.slice none 0 0) 0 [] rfl (World.ownsRow_nil _ _ _ _) i64e _ l (fun _ => rfl) rfl hv1.out (by unfold maxLen; omega) (by omega) hz1 ?_; intro v2 w2 hown2 hg2 hat2; refine stop_here ?_)
  have hown2 : w2.ownsRow (bm + 1) 3 1 v2 l.length (l.map i64e) := by simpa using hown2
  have hb12 : Below w1.heap.size w1 w2 := ⟨hg2.os, hg2.tape, hg2.output, hg2.size, fun k hk => hg2.block k hk (by simp [Value.ownBlock])⟩
  have hb2 := hb1.trans (hb12.mono hb1.size)
  have hS2 := hS1.out.kept hb12
  have R0 : Hid (∃ d, RP w bm S l v2 w2 d) := Lib.hid ⟨_, l, [], 0, TailR.own hown2, hS2, hb2, RI.start hl, rfl⟩
  obtain ⟨A2, c2, rfl, -⟩ := own_form hown2
  clear hown2 hg2 hat2 hb12 hS2 hb2 hS1 hs1 hb1 hz1 hv1
  refine go_on ?_
  go_wp2_with fail
  go_loopw [6] (fun vt wr => Hid (∃ d, RP w bm S l vt wr d)) (fun vt wr => mea (RP w bm S l vt wr))
  case atStart => exact R0
  case round =>
    clear R0
    have hsp := mea_spec hrel.out
    obtain ⟨d, hd⟩ : ∃ d, d = mea (RP w bm S l u6 wr) := ⟨_, rfl⟩
    rw [← hd] at hsp
    obtain ⟨td, ks, n, TR, SM, hbw, R, hdd⟩ := hsp
    replace hd := Lib.hid hd
    have hkl := R.len I.out C.out hg.out
    rcases td with _ | ⟨x, td⟩
    · obtain ⟨At, ct, rfl⟩ := TR.form
      have hfin := Lib.hid (show ∃ bm' n' ks', Value.map (some bm) = .map (some bm') ∧ SetM wr bm' n' ks' ∧ n' ≤ 4096 ∧ w.heap.size ≤ bm' ∧ (∀ x, x ∈ ks' ↔ RcS S l x) ∧ Below w.heap.size w wr from ⟨bm, n, ks, rfl, SM, by have := R.n; omega, by have := hbm.out; omega, R.done, hbw⟩)
      have hz : ([] : List Int).length = 0 := rfl
      rw [hz]
      clear hrel hd TR SM R hdd hkl
      go_wp2_with fail
      go_ret
      obtain ⟨bm', n', ks', e, h1⟩ := hfin.out
      cases e
      exact ⟨bm, n', ks', rfl, h1⟩
    · have hxr := R.tdR x (by simp)
      have hxb : 0 ≤ x ∧ x ≤ 4096 := by
        rcases hxr with rfl | h
        · omega
        · have := mis_pos I.out (h.good I.out C.out hg.out); omega
      obtain ⟨gq, oq, cq, rfl, hc1, hcell, ht1, ht2, hcl, hcm⟩ := TR.head
      have hlk := SM.look x (wf_i64 hxb)
      have htl := R.tl
      simp only [List.length_cons] at htl hdd
      have hgl := TR.lt gq rfl
      have z1 : (0 : Int) < (td.length : Int) + 1 := by omega
      have z2 : (1 : Int) ≤ (td.length : Int) + 1 := by omega
      have z3 : (td.length : Int) + 1 ≤ (cq : Int) := by omega
      have z4 : decide ((0 : Int) < (td.length : Int) + 1) = true := decide_eq_true z1
      by_cases hc0 : cq = 1
      · subst hc0
        have TR2 := ht1 rfl
        have htd : td = [] := List.eq_nil_of_length_eq_zero (by omega)
        subst htd
        clear ht1 ht2
        have hz : ([] : List Int).length = 0 := rfl
        rw [hz] at z1 z2 z3 z4 ⊢
        replace hd : Hid (d = mea (RP w bm S l (.slice (some ⟨gq, oq, none⟩) (0 + 1) 1) wr)) := hd
        replace TR2 := Lib.hid TR2
        replace hrel := Lib.hid hrel
        replace hcl := Lib.hid hcl
        replace TR := Lib.hid TR
        by_cases hskip : x = 0 ∨ x ∈ ks
        · have hnext : Hid (RP w bm S l (.slice (some ⟨gq, oq, none⟩) 0 0) wr (2 * (4096 - ks.length) + ([] : List Int).length)) := Lib.hid ⟨[], ks, n, TR2.out, SM, hbw, R.skip hskip, rfl⟩
          have hdec : Hid (2 * (4096 - ks.length) + ([] : List Int).length < d) := Lib.hid (by omega)
          replace SM := Lib.hid SM
          replace R := Lib.hid R
          replace hdd := Lib.hid hdd
          by_cases h0 : x = 0
          · subst h0
            clear hxr hxb hskip hlk
            go_wp2_with fail
            go_roundw
            case rel => exact Lib.hid ⟨_, hnext.out⟩
            case measure =>
              have h1 := mea_le hnext.out
              have h2 := hd.out
              have h3 := hdec.out
              omega
          · have hk : x ∈ ks := hskip.resolve_left h0
            rw [decide_eq_true hk] at hlk
            have y1 : (x == 0) = false := beq_eq_false_iff_ne.2 h0
            replace hxr := Lib.hid hxr
            replace hskip := Lib.hid hskip
            replace hk := Lib.hid hk
            go_wp2_with fail
            go_roundw
            case rel => exact Lib.hid ⟨_, hnext.out⟩
            case measure =>
              have h1 := mea_le hnext.out
              have h2 := hd.out
              have h3 := hdec.out
              omega
        · have h0 : x ≠ 0 := fun e => hskip (.inl e)
          have hk : x ∉ ks := fun e => hskip (.inr e)
          have hxo : mIs S x = true := (hxr.resolve_left h0).good I.out C.out hg.out
          have R2 := R.take h0 hk
          have hkl2 := R2.len I.out C.out hg.out
          have hdec : Hid (2 * (4096 - (ks ++ [x]).length) + (([] : List Int) ++ [fldA S x 0, fldA S x 1]).length < d) := Lib.hid (by
            simp only [List.length_append, List.length_cons, List.length_nil] at hkl2 ⊢
            omega)
          have hadd : addK ks x = ks ++ [x] := by unfold addK; rw [if_neg hk]
          have hn9 : n < maxLen := by have := R.n; unfold maxLen; omega
          have hwf := Lib.hid (wf_i64 hxb)
          have htn : ([] : List Int).length ≤ 20000 := by omega
          rw [decide_eq_false hk] at hlk
          have y1 : (x == 0) = false := beq_eq_false_iff_ne.2 h0
          replace SM := Lib.hid SM
          replace R := Lib.hid R
          replace R2 := Lib.hid R2
          replace hdd := Lib.hid hdd
          replace hxr := Lib.hid hxr
          replace hskip := Lib.hid hskip
          replace hk := Lib.hid hk
          replace hxo := Lib.hid hxo
          replace hadd := Lib.hid hadd
          replace hkl2 := Lib.hid hkl2
          go_wp2_with (refine wpList_setm_put rfl (.tmp 29) (.tmp 30) (.const (.bool true)) rfl SM.out rfl hn9 x rfl rfl hwf.out ?_; intro w4 hS4 hg4; replace hS4 := Lib.hid hS4)
          have TR4 : Hid (TailR w4 (bm + 1) (.slice (some ⟨gq, oq, none⟩) 0 0) ([] : List Int)) := Lib.hid (TR2.out.kept fun k hk hlt => hg4.block k hlt (by intro e; cases e; have := (TR2.out.lt _ hk).1; omega))
          have hb4 : Hid (Below w.heap.size w w4) := Lib.hid (hbw.grown hg4 hbw.size (fun k hk => by cases hk; have := hbm.out; omega))
          replace hS4 : Hid (SetM w4 bm (n + 1) (ks ++ [x])) := Lib.hid (by have := hS4.out; rw [hadd.out] at this; exact this)
          have hbl4 : Hid (bm + 1 ≤ w4.heap.size) := Lib.hid (by have := hS4.out.lt; omega)
          clear hlk hg4 hcell hgl z1 z2 z3 z4 hbw
          go_loopw [6, 31] (fun vq fi wq => ∃ f : Nat, f ≤ 2 ∧ fi = .int .i64 f ∧ Hid (TailR wq (bm + 1) vq (([] : List Int) ++ (List.range f).map (fldA S x))) ∧ Hid (SetM wq bm (n + 1) (ks ++ [x])) ∧ Hid (Below w.heap.size w wq)) (fun _ fi _ => 2 - (intOf fi).toNat)
          case atStart => exact ⟨0, by omega, rfl, Lib.hid (by simpa using TR4.out), hS4, hb4⟩
          case round =>
            clear hS4 TR4 hb4 hbl4
            obtain ⟨f, hf, rfl, TRq, SMq, hbq⟩ := hrel
            by_cases hlt : f < 2
            · have tf : (f : Int) < 2 := by omega
              obtain ⟨Aq, cq2, rfl⟩ := TRq.out.form
              have hle : (([] : List Int) ++ (List.range f).map (fldA S x)).length ≤ 100000 := by
                simp only [List.length_append, List.length_map, List.length_range]
                omega
              have sa : (([] : List Int) ++ (List.range f).map (fldA S x)) ++ [fldA S x f] = [] ++ (List.range (f + 1)).map (fldA S x) := by
                rw [List.range_succ, List.map_append, List.append_assoc]
                rfl
              obtain ⟨L, hL⟩ : ∃ L, L = [] ++ (List.range f).map (fldA S x) := ⟨_, rfl⟩
              rw [← hL] at TRq sa hle ⊢
              have HL := Lib.hid (HLd.out _ x f hbq.out hxo.out hlt)
              obtain ⟨y, hy⟩ : ∃ y, y = fldA S x f := ⟨_, rfl⟩
              rw [← hy] at HL sa
              replace hL := Lib.hid hL
              replace hy := Lib.hid hy
              replace sa := Lib.hid sa
              go_wp2_with fail
              refine HL.out.mono ?_
              rintro e w6 ⟨rfl, b6⟩
              have TR6 := TRq.out.below b6
              have SM6 := Lib.hid (SMq.out.kept b6)
              have hb6 := Lib.hid (hbq.out.trans (b6.mono hbq.out.size))
              have hbs6 : bm + 1 ≤ w6.heap.size := by have := SM6.out.lt; omega
              clear HL TRq SMq hbq b6
              go_wp2_with (at_builtin; refine wpList_push_tail rfl (.tmp 41) (.tmp 43) rfl (bm + 1) _ L rfl TR6 y rfl hle hbs6 ?_; intro v7 w7 hT7 hb7 hz7 ho7 hw7; refine stop_here ?_)
              rw [sa.out] at hT7
              have SM7 : Hid (SetM w7 bm (n + 1) (ks ++ [x])) := Lib.hid (SM6.out.of_block (ho7 bm (by omega) (fun e => by have := (TR6.lt _ e).1; omega)))
              have hb7w : Hid (Below w.heap.size w w7) := Lib.hid (hb6.out.trans (hb7.mono (by have := hbm.out; omega)))
              replace hT7 := Lib.hid hT7
              clear TR6 SM6 hb6 hb7 hz7 ho7 hw7
              refine go_on ?_
              go_wp2_with fail
              go_roundw
              case rel => exact ⟨f + 1, by omega, by go_num, hT7, SM7, hb7w⟩
              case measure => simp [intOf]; omega
            · obtain rfl : f = 2 := by omega
              have hnext : Hid (RP w bm S l _ _ (2 * (4096 - (ks ++ [x]).length) + (([] : List Int) ++ [fldA S x 0, fldA S x 1]).length)) := Lib.hid ⟨[] ++ [fldA S x 0, fldA S x 1], ks ++ [x], n + 1, TRq.out, SMq.out, hbq.out, R2.out, rfl⟩
              obtain ⟨Aq, cq2, rfl⟩ := TRq.out.form
              clear TRq SMq
              go_wp2_with fail
              go_roundw
              case rel => exact Lib.hid ⟨_, hnext.out⟩
              case measure =>
                have h1 := mea_le hnext.out
                have h2 := hd.out
                have h3 := hdec.out
                omega
      · have TR2 := ht2 hc0
        clear ht1 ht2
        replace TR2 := Lib.hid TR2
        replace hrel := Lib.hid hrel
        replace hcl := Lib.hid hcl
        replace TR := Lib.hid TR
        by_cases hskip : x = 0 ∨ x ∈ ks
        · have hnext : Hid (RP w bm S l (.slice (some ⟨gq, oq + 1, none⟩) td.length (cq - 1)) wr (2 * (4096 - ks.length) + td.length)) := Lib.hid ⟨td, ks, n, TR2.out, SM, hbw, R.skip hskip, rfl⟩
          have hdec : Hid (2 * (4096 - ks.length) + td.length < d) := Lib.hid (by omega)
          replace SM := Lib.hid SM
          replace R := Lib.hid R
          replace hdd := Lib.hid hdd
          by_cases h0 : x = 0
          · subst h0
            clear hxr hxb hskip hlk
            go_wp2_with fail
            go_roundw
            case rel => exact Lib.hid ⟨_, hnext.out⟩
            case measure =>
              have h1 := mea_le hnext.out
              have h2 := hd.out
              have h3 := hdec.out
              omega
          · have hk : x ∈ ks := hskip.resolve_left h0
            rw [decide_eq_true hk] at hlk
            have y1 : (x == 0) = false := beq_eq_false_iff_ne.2 h0
            replace hxr := Lib.hid hxr
            replace hskip := Lib.hid hskip
            replace hk := Lib.hid hk
            go_wp2_with fail
            go_roundw
            case rel => exact Lib.hid ⟨_, hnext.out⟩
            case measure =>
              have h1 := mea_le hnext.out
              have h2 := hd.out
              have h3 := hdec.out
              omega
        · have h0 : x ≠ 0 := fun e => hskip (.inl e)
          have hk : x ∉ ks := fun e => hskip (.inr e)
          have hxo : mIs S x = true := (hxr.resolve_left h0).good I.out C.out hg.out
          have R2 := R.take h0 hk
          have hkl2 := R2.len I.out C.out hg.out
          have hdec : Hid (2 * (4096 - (ks ++ [x]).length) + (td ++ [fldA S x 0, fldA S x 1]).length < d) := Lib.hid (by
            simp only [List.length_append, List.length_cons, List.length_nil] at hkl2 ⊢
            omega)
          have hadd : addK ks x = ks ++ [x] := by unfold addK; rw [if_neg hk]
          have hn9 : n < maxLen := by have := R.n; unfold maxLen; omega
          have hwf := Lib.hid (wf_i64 hxb)
          have htn : td.length ≤ 20000 := by omega
          rw [decide_eq_false hk] at hlk
          have y1 : (x == 0) = false := beq_eq_false_iff_ne.2 h0
          replace SM := Lib.hid SM
          replace R := Lib.hid R
          replace R2 := Lib.hid R2
          replace hdd := Lib.hid hdd
          replace hxr := Lib.hid hxr
          replace hskip := Lib.hid hskip
          replace hk := Lib.hid hk
          replace hxo := Lib.hid hxo
          replace hadd := Lib.hid hadd
          replace hkl2 := Lib.hid hkl2
          go_wp2_with (refine wpList_setm_put rfl (.tmp 29) (.tmp 30) (.const (.bool true)) rfl SM.out rfl hn9 x rfl rfl hwf.out ?_; intro w4 hS4 hg4; replace hS4 := Lib.hid hS4)
          have TR4 : Hid (TailR w4 (bm + 1) (.slice (some ⟨gq, oq + 1, none⟩) td.length (cq - 1)) td) := Lib.hid (TR2.out.kept fun k hk hlt => hg4.block k hlt (by intro e; cases e; have := (TR2.out.lt _ hk).1; omega))
          have hb4 : Hid (Below w.heap.size w w4) := Lib.hid (hbw.grown hg4 hbw.size (fun k hk => by cases hk; have := hbm.out; omega))
          replace hS4 : Hid (SetM w4 bm (n + 1) (ks ++ [x])) := Lib.hid (by have := hS4.out; rw [hadd.out] at this; exact this)
          have hbl4 : Hid (bm + 1 ≤ w4.heap.size) := Lib.hid (by have := hS4.out.lt; omega)
          clear hlk hg4 hcell hgl z1 z2 z3 z4 hbw
          go_loopw [6, 31] (fun vq fi wq => ∃ f : Nat, f ≤ 2 ∧ fi = .int .i64 f ∧ Hid (TailR wq (bm + 1) vq (td ++ (List.range f).map (fldA S x))) ∧ Hid (SetM wq bm (n + 1) (ks ++ [x])) ∧ Hid (Below w.heap.size w wq)) (fun _ fi _ => 2 - (intOf fi).toNat)
          case atStart => exact ⟨0, by omega, rfl, Lib.hid (by simpa using TR4.out), hS4, hb4⟩
          case round =>
            clear hS4 TR4 hb4 hbl4
            obtain ⟨f, hf, rfl, TRq, SMq, hbq⟩ := hrel
            by_cases hlt : f < 2
            · have tf : (f : Int) < 2 := by omega
              obtain ⟨Aq, cq2, rfl⟩ := TRq.out.form
              have hle : (td ++ (List.range f).map (fldA S x)).length ≤ 100000 := by
                simp only [List.length_append, List.length_map, List.length_range]
                omega
              have sa : (td ++ (List.range f).map (fldA S x)) ++ [fldA S x f] = td ++ (List.range (f + 1)).map (fldA S x) := by
                rw [List.range_succ, List.map_append, List.append_assoc]
                rfl
              obtain ⟨L, hL⟩ : ∃ L, L = td ++ (List.range f).map (fldA S x) := ⟨_, rfl⟩
              rw [← hL] at TRq sa hle ⊢
              have HL := Lib.hid (HLd.out _ x f hbq.out hxo.out hlt)
              obtain ⟨y, hy⟩ : ∃ y, y = fldA S x f := ⟨_, rfl⟩
              rw [← hy] at HL sa
              replace hL := Lib.hid hL
              replace hy := Lib.hid hy
              replace sa := Lib.hid sa
              go_wp2_with fail
              refine HL.out.mono ?_
              rintro e w6 ⟨rfl, b6⟩
              have TR6 := TRq.out.below b6
              have SM6 := Lib.hid (SMq.out.kept b6)
              have hb6 := Lib.hid (hbq.out.trans (b6.mono hbq.out.size))
              have hbs6 : bm + 1 ≤ w6.heap.size := by have := SM6.out.lt; omega
              clear HL TRq SMq hbq b6
              go_wp2_with (at_builtin; refine wpList_push_tail rfl (.tmp 41) (.tmp 43) rfl (bm + 1) _ L rfl TR6 y rfl hle hbs6 ?_; intro v7 w7 hT7 hb7 hz7 ho7 hw7; refine stop_here ?_)
              rw [sa.out] at hT7
              have SM7 : Hid (SetM w7 bm (n + 1) (ks ++ [x])) := Lib.hid (SM6.out.of_block (ho7 bm (by omega) (fun e => by have := (TR6.lt _ e).1; omega)))
              have hb7w : Hid (Below w.heap.size w w7) := Lib.hid (hb6.out.trans (hb7.mono (by have := hbm.out; omega)))
              replace hT7 := Lib.hid hT7
              clear TR6 SM6 hb6 hb7 hz7 ho7 hw7
              refine go_on ?_
              go_wp2_with fail
              go_roundw
              case rel => exact ⟨f + 1, by omega, by go_num, hT7, SM7, hb7w⟩
              case measure => simp [intOf]; omega
            · obtain rfl : f = 2 := by omega
              have hnext : Hid (RP w bm S l _ _ (2 * (4096 - (ks ++ [x]).length) + (td ++ [fldA S x 0, fldA S x 1]).length)) := Lib.hid ⟨td ++ [fldA S x 0, fldA S x 1], ks ++ [x], n + 1, TRq.out, SMq.out, hbq.out, R2.out, rfl⟩
              obtain ⟨Aq, cq2, rfl⟩ := TRq.out.form
              clear TRq SMq
              go_wp2_with fail
              go_roundw
              case rel => exact Lib.hid ⟨_, hnext.out⟩
              case measure =>
                have h1 := mea_le hnext.out
                have h2 := hd.out
                have h3 := hdec.out
                omega
end
end Go.Proofs.YtcaboknbdamlhaaGreatDoor
namespace Go.Proofs.YtcaboknbdamlhaaGreatDoor
open Go.RowKit Go.Maps Go.WideMaps
theorem pair_arr : ArrKey Tryz.prog 69 3 2 := ⟨by kernel_rfl, by kernel_rfl, by kernel_rfl, by kernel_rfl⟩
theorem mapp_law : Keyed Tryz.prog 69 := Keyed.of_law pair_arr.law
theorem mapp_zero (w : World) : (zeroValue 2).run Tryz.prog w = .ok (.int .i64 0) w := by kernel_rfl
def pv (x : Int × Int) : Value := .agg #[.int .i64 x.1, .int .i64 x.2]
def pkL (x : Int × Int) : Lit := .string (keyBytes [.int .i64 x.1, .int .i64 x.2])
theorem pv_inj {x y : Int × Int} (h : pv x = pv y) : x = y := by
  have h1 : (#[Value.int .i64 x.1, .int .i64 x.2] : Array Value) = #[.int .i64 y.1, .int .i64 y.2] := Value.agg.inj h
  have h2 : [Value.int .i64 x.1, .int .i64 x.2] = [.int .i64 y.1, .int .i64 y.2] := congrArg Array.toList h1
  have h3 := List.cons.inj h2
  have h4 := List.cons.inj h3.2
  exact Prod.ext (Value.int.inj h3.1).2 (Value.int.inj h4.1).2
def wfP (x : Int × Int) : Prop := (Lit.int .i64 x.1).wf = true ∧ (Lit.int .i64 x.2).wf = true
theorem types_pos : ∃ m, (Tryz.prog).types.size = m + 1 := ⟨(Tryz.prog).types.size - 1, by kernel_rfl⟩
theorem key_mk {x : Int × Int} (h : wfP x) : keyOf Tryz.prog 69 (pv x) = some (pkL x) := keyOf_pair pair_arr Tryz.underlying3 types_pos h.1 h.2
theorem pk_inj {x y : Int × Int} (hx : wfP x) (hy : wfP y) (h : pkL x = pkL y) : x = y := by
  have h1 := key_mk hx
  have h2 := key_mk hy
  rw [h] at h1
  exact pv_inj (mapp_law.inj h1 h2)
set_option maxRecDepth 100000 in
theorem pair_inv {v : Value} {l : Lit} (h : keyOf Tryz.prog 69 v = some l) : ∃ x : Int × Int, v = pv x ∧ wfP x ∧ l = pkL x := by
  have hh := h
  have A := pair_arr
  unfold keyOf at h
  simp only [A.hu] at h
  split at h
  · next hf =>
    rw [Bool.and_eq_true] at hf
    obtain ⟨m, hm⟩ := types_pos
    cases v with
    | agg cs =>
      have hsz : cs.size = 2 := by
        have := hf.2
        simp only [Value.formed, A.hu, A.size] at this
        simpa using this
      obtain ⟨cl⟩ := cs
      match cl, hsz with
      | [c0, c1], _ =>
        rw [hm] at h
        unfold Program.keyLits at h
        simp only [A.hu, Value.cells] at h
        rw [if_pos (by rw [A.size]; rfl), show List.range 2 = [0, 1] from rfl, List.mapM_cons, List.mapM_cons, List.mapM_nil] at h
        simp only [bind, Option.bind_eq_some_iff, pure, Option.some.injEq, A.one, Option.map_eq_some_iff] at h
        obtain ⟨ls, ⟨zs, ⟨y0, h0, ys, ⟨y1, h1, _, rfl, rfl⟩, rfl⟩, rfl⟩, rfl⟩ := h
        have key : ∀ {c : Value} {y : List Lit}, Program.keyLits Tryz.prog (m + 1) 3 [c] = some y → ∃ a, c = .int .i64 a ∧ (Lit.int .i64 a).wf = true ∧ y = [.int .i64 a] := by
          intro c y hc
          unfold Program.keyLits at hc
          rw [Tryz.underlying3] at hc
          cases c <;> simp at hc
          obtain ⟨⟨e1, e2⟩, e3⟩ := hc
          subst e1
          exact ⟨_, rfl, e2, e3.symm⟩
        obtain ⟨a, rfl, wa, rfl⟩ := key h0
        obtain ⟨b, rfl, wb, rfl⟩ := key h1
        exact ⟨(a, b), rfl, ⟨wa, wb⟩, rfl⟩
    | _ => exact absurd hf.2 (by simp [Value.formed, A.hu])
  · cases h
/-- Block b is a map that has g at each of the pairs ps, each listed once. -/
def PM (w : World) (b n : Nat) (ps : List (Int × Int)) (g : Int × Int → Int) : Prop :=
  ∃ D : DataW Unit, w.ownsMap Tryz.prog 69 (plainElem Tryz.prog 2) b n D ∧ (∀ x ∈ ps, ∀ z, D.atKey (pkL x) z = .lit (.int .i64 (g x))) ∧ (∀ x, wfP x → Maps.has D (pkL x) = decide (x ∈ ps)) ∧ ps.Nodup ∧ Maps.size D = ps.length ∧ ∀ x ∈ ps, wfP x
theorem PM.new (w : World) (g : Int × Int → Int) : PM (w.alloc (.map #[] 0)) w.heap.size 0 [] g := ⟨.map [], World.ownsMap_made _ _ _ _, fun x hx => (by cases hx), fun x _ => rfl, by simp, rfl, fun x hx => (by cases hx)⟩
theorem PM.kept {w w' : World} {b n : Nat} {ps : List (Int × Int)} {g : Int × Int → Int} (h : PM w b n ps g) (hb : Below w.heap.size w w') : PM w' b n ps g := by
  obtain ⟨D, h1, h2⟩ := h
  exact ⟨D, h1.kept (row := none) ⟨hb.os, hb.tape, hb.output, hb.size, fun k hk _ => hb.block k hk⟩ (by simp), h2⟩
theorem PM.lt {w : World} {b n : Nat} {ps : List (Int × Int)} {g : Int × Int → Int} (h : PM w b n ps g) : b < w.heap.size := by
  obtain ⟨D, h1, _⟩ := h
  exact h1.lt
theorem PM.of_block {w w' : World} {b n : Nat} {ps : List (Int × Int)} {g : Int × Int → Int} (h : PM w b n ps g) (hb : w'.heap[b]? = w.heap[b]?) : PM w' b n ps g := by
  obtain ⟨D, ⟨es, clock, h1, h2⟩, h3⟩ := h
  exact ⟨D, ⟨es, clock, hb.trans h1, h2⟩, h3⟩
def addP (ps : List (Int × Int)) (x : Int × Int) : List (Int × Int) := if x ∈ ps then ps else ps ++ [x]
def setG (g : Int × Int → Int) (x : Int × Int) (v : Int) : Int × Int → Int := fun y => if y = x then v else g y
theorem mem_addP {ps : List (Int × Int)} {x y : Int × Int} : y ∈ addP ps x ↔ y ∈ ps ∨ y = x := by
  unfold addP
  split
  · rename_i h
    exact ⟨.inl, fun e => e.elim id fun e => e ▸ h⟩
  · simp
theorem PM.put {w' : World} {b n : Nat} {ps : List (Int × Int)} {g : Int × Int → Int} {x : Int × Int} {v : Int} {D : DataW Unit} (ht : Tidy D) (hx : wfP x) (h2 : ∀ x ∈ ps, ∀ z, D.atKey (pkL x) z = .lit (.int .i64 (g x))) (h3 : ∀ x, wfP x → Maps.has D (pkL x) = decide (x ∈ ps)) (h4 : ps.Nodup) (h5 : Maps.size D = ps.length) (h6 : ∀ x ∈ ps, wfP x)
    (h1 : w'.ownsMap Tryz.prog 69 (plainElem Tryz.prog 2) b (n + 1) (D.put (pkL x) (.lit (.int .i64 v)))) : PM w' b (n + 1) (addP ps x) (setG g x v) := by
  have hkey := mapp_law.key (key_mk hx)
  have ne : ∀ {y : Int × Int}, wfP y → y ≠ x → pkL y ≠ pkL x := fun hy h e => h (pk_inj hy hx e)
  have hw : ∀ y ∈ addP ps x, wfP y := fun y hy => (mem_addP.1 hy).elim (h6 y) fun e => e ▸ hx
  refine ⟨_, h1, fun y hy z => ?_, fun y hy => ?_, ?_, ?_, hw⟩
  · unfold setG
    by_cases e : y = x
    · subst e
      rw [atKey_put_same ht.isMap hkey, if_pos rfl]
    · rw [atKey_put_other (ne (hw y hy) e), h2 y ((mem_addP.1 hy).resolve_right e), if_neg e]
  · by_cases e : y = x
    · subst e
      rw [has_put_same ht.isMap hkey, decide_eq_true (mem_addP.2 (.inr rfl))]
    · rw [has_put_other (ne hy e), h3 y hy, decide_eq_decide, mem_addP]
      exact ⟨.inl, fun h => h.elim id fun h => absurd h e⟩
  · unfold addP
    split
    · exact h4
    · rename_i hx
      rw [List.nodup_append]
      exact ⟨h4, by simp, fun a ha b hb e => by rw [List.mem_singleton] at hb; subst hb e; exact hx ha⟩
  · rw [size_put ht, h3 x hx, h5]
    unfold addP
    by_cases e : x ∈ ps
    · rw [if_pos e, if_pos (decide_eq_true e)]
    · rw [if_neg e, if_neg (by simp [e])]
      simp
/-- 'for x, n := range m' under way. -/
def PR (w : World) (b r n : Nat) (ps : List (Int × Int)) (g : Int × Int → Int) (cnt : Nat) : Prop :=
  ∃ (D : DataW Unit) (left : Lit → Bool), w.ranges Tryz.prog 69 (plainElem Tryz.prog 2) b r n D left cnt ∧ (∀ x, wfP x → left (pkL x) = true → x ∈ ps) ∧ (∀ x ∈ ps, ∀ z, D.atKey (pkL x) z = .lit (.int .i64 (g x)))
theorem PR.left {w : World} {b r n : Nat} {ps : List (Int × Int)} {g : Int × Int → Int} {cnt : Nat} (h : PR w b r n ps g cnt) : w.rangeLeft b r = cnt := by
  obtain ⟨D, left, h1, _⟩ := h
  exact h1.left_eq
theorem PR.kept {w w' : World} {b r n : Nat} {ps : List (Int × Int)} {g : Int × Int → Int} {cnt : Nat} (h : PR w b r n ps g cnt) (hb : Below w.heap.size w w') : PR w' b r n ps g cnt := by
  obtain ⟨D, left, h1, h2⟩ := h
  exact ⟨D, left, h1.kept (row := none) ⟨hb.os, hb.tape, hb.output, hb.size, fun k hk _ => hb.block k hk⟩ (by simp) (by simp), h2⟩
section
variable {w : World} {ops : Array Oper} {rest : List Oper} {o : Oper} {a : Act} {Q : Exit → Act → World → Prop}
theorem wpList_pm_new (hgd : o.guard = none) (ho : o.op = .makeMap 66 none) (g : Int × Int → Int)
    (hrun : (execOp a.eval o).run Tryz.prog w = .ok (.value (.map (some w.heap.size))) (w.alloc (.map #[] 0)))
    (h : ∀ w', w'.heap.size = w.heap.size + 1 → Below w.heap.size w w' → PM w' w.heap.size 0 [] g → wpList Tryz.prog ops Q rest (a.put o.dst (.map (some w.heap.size))) w') : wpList Tryz.prog ops Q (o :: rest) a w := by
  refine wpList_plain hgd fun K hK => ?_
  unfold Oper.wp
  rw [hrun]
  exact hK _ _ (h _ (by simp) (below_alloc w _) (PM.new w g))
theorem wpList_pm_put (hgd : o.guard = none) (m x v : Operand) (ho : o.op = .mapUpdate 66 m x v) {b n : Nat} {ps : List (Int × Int)} {g : Int × Int → Int} (hS : PM w b n ps g) (hm : a.eval m = .map (some b)) (hn : n < maxLen)
    (y : Int × Int) (c : Int) (hx : a.eval x = pv y) (hv : a.eval v = .int .i64 c) (hw : wfP y) (hc : (Lit.int .i64 c).wf = true)
    (h : ∀ w', PM w' b (n + 1) (addP ps y) (setG g y c) → w.grownBy w' (some b) → wpList Tryz.prog ops Q rest (a.put o.dst undef) w') : wpList Tryz.prog ops Q (o :: rest) a w := by
  obtain ⟨D, h1, h2, h3, h4, h5, h6⟩ := hS
  exact wpList_mapUpdate_own _ hgd m x v _ ho _ _ mapp_law Tryz.underlying66 _ b n D hm h1 hn _ _ (pkL y) hx hv (key_mk hw) (.lit (.int .i64 c)) [] (plainElem_int Tryz.underlying2 hc)
    fun w' h7 h8 => h w' (PM.put (h1.tidy mapp_law) hw h2 h3 h4 h5 h6 h7) h8
theorem wp_pm_len {K : Act → World → Prop} (m : Operand) (ho : o.op = Op.call { callee := Callee.builtin Builtin.len, args := #[m], argTypes := #[66] }) {b n : Nat} {ps : List (Int × Int)} {g : Int × Int → Int} (hS : PM w b n ps g) (hm : a.eval m = .map (some b))
    (h : K (a.put o.dst (.int .i64 (ps.length : Nat))) w) : Oper.wp Tryz.prog o a w K Q := by
  obtain ⟨D, h1, h2, h3, h4, h5, _⟩ := hS
  unfold Oper.wp
  simp [execOp, ho, resolve, invoke, builtin, hm, h1.len Tryz.underlying66 o.type, Result.andThen]
  rw [h5]
  exact h
theorem wpList_pm_range (hg : o.guard = none) (m : Operand) (hop : o.op = Op.range 66 m) {b n : Nat} {ps : List (Int × Int)} {g : Int × Int → Int} (hS : PM w b n ps g) (hm : a.eval m = .map (some b))
    (hK : ∀ w' cnt, PR w' b w.heap.size n ps g cnt → Below w.heap.size w w' → w'.heap.size = w.heap.size + 1 → wpList Tryz.prog ops Q rest (a.put o.dst (.pointer (some ⟨w.heap.size, 0, none⟩))) w') :
    wpList Tryz.prog ops Q (o :: rest) a w := by
  obtain ⟨D, h1, h2, h3, h4, h5, h6⟩ := hS
  refine wpList_range_own _ hg m _ hop 69 2 mapp_law Tryz.underlying66 _ b n D hm h1 ?_
  intro w' hr hg' hs
  refine hK w' _ ⟨D, _, hr, fun x hx hl => ?_, h2⟩ ⟨hg'.os, hg'.tape, hg'.output, hg'.size, fun k hk => hg'.block k hk (by simp)⟩ hs
  rw [h3 x hx] at hl
  exact of_decide_eq_true hl
theorem wpList_pm_next (hg : o.guard = none) (it : Operand) (hop : o.op = Op.next it false) {b r n cnt : Nat} {ps : List (Int × Int)} {g : Int × Int → Int} (h : PR w b r n ps g cnt) (hit : a.eval it = .pointer (some ⟨r, 0, none⟩))
    (hDone : wpList Tryz.prog ops Q rest (a.put o.dst (.tuple #[.bool false])) w)
    (hMore : ∀ (p f : Int) (w' : World) (cnt' : Nat), (p, f) ∈ ps → wfP (p, f) → PR w' b r n ps g cnt' → cnt' < cnt → w.grownBy w' (some r) → w'.heap.size = w.heap.size → (Instr.entry (.pointer (some ⟨r, 0, none⟩))).run Tryz.prog w' = .ok (.tuple #[.agg #[.int .i64 p, .int .i64 f], .int .i64 (g (p, f))]) w' → wpList Tryz.prog ops Q rest (a.put o.dst (.tuple #[.bool true, .agg #[.int .i64 p, .int .i64 f], .int .i64 (g (p, f))])) w') :
    wpList Tryz.prog ops Q (o :: rest) a w := by
  obtain ⟨D, left, hr, hl, hat0⟩ := h
  refine wpList_next_ranges w hg it hop 69 mapp_law (plainElem Tryz.prog 2) pv (Value.int .i64)
    (fun key kl hkey => by obtain ⟨x, rfl, _⟩ := pair_inv hkey; exact ⟨x, rfl⟩)
    (fun v y hv => by obtain ⟨c, rfl, _⟩ := plainElem_int_inv Tryz.underlying2 hv; exact ⟨c, rfl⟩) b r n D left cnt hit hr (fun _ _ => hDone) fun x c kl y w' cnt' hkey hlk hv hat hrg hlt hgr hsz hen => ?_
  obtain ⟨x', ex, hwx, rfl⟩ := pair_inv hkey
  have hxx : x = x' := pv_inj ex
  subst hxx
  have hmem := hl x hwx hlk
  obtain ⟨c', ec, rfl, hwc⟩ := plainElem_int_inv Tryz.underlying2 hv
  cases ec
  have hc : g x = c := by
    have h1 := hat (.lit (.int .i64 0))
    rw [hat0 x hmem] at h1
    have h1 : (DataW.lit (Lit.int IntKind.i64 (g x)) : DataW Unit) = .lit (.int .i64 c) := h1
    exact (Lit.int.inj (DataW.lit.inj h1)).2
  subst hc
  exact hMore x.1 x.2 w' cnt' hmem hwx ⟨D, _, hrg, fun z hz hlz => hl z hz (by
    have := hlz
    simp only [Bool.and_eq_true] at this
    exact this.1), hat0⟩ hlt hgr hsz hen
end
end Go.Proofs.YtcaboknbdamlhaaGreatDoor
namespace Go.Proofs.YtcaboknbdamlhaaGreatDoor
open Go.RowKit Go.Shelf
section
variable {S : HS} {T : SS} {r : Nat}
theorem obj_apart (I : Inv0 S) (C : Clo S) {p q : Int} (hp : mIs S p = true) (hq : mIs S q = true) (h : p < q) : p + 2 ≤ q := by
  obtain ⟨o, ho, rfl⟩ := (mis_mem I p).1 hp
  obtain ⟨o2, ho2, rfl⟩ := (mis_mem I q).1 hq
  have s1 := (I.ob o ho).2.2.2.2
  have s2 := (I.ob o2 ho2).2.2.2.2
  rw [C.obj o ho] at s1
  rw [C.obj o2 ho2] at s2
  have := s1.apart s2 h
  have hk : wordsOf (classOf 2) = 2 := by decide
  dsimp only at this
  omega
theorem fld_store (I : Inv0 S) (C : Clo S) {a p b : Int} (ha : mIs S a = true) (hp : mIs S p = true) {k f : Nat} (hk : k < 2) (hf : f < 2) : fldA (sStore S a k b) p f = if p = a ∧ f = k then b else fldA S p f := by
  have ha1 := mis_pos I ha
  have hp1 := mis_pos I hp
  have hth := C.there I ha (f := (k : Int)) (by omega) (by omega)
  have hw : (sStore S a k b).words = S.words.set (a + (k : Int)).toNat b := by
    unfold sStore
    rw [if_pos hth]
  unfold fldA
  rw [hw]
  by_cases e : p = a ∧ f = k
  · obtain ⟨rfl, rfl⟩ := e
    rw [if_pos ⟨rfl, rfl⟩]
    obtain ⟨o, ho, rfl⟩ := (mis_mem I p).1 hp
    have hl := (I.word_in ho (f := (f : Int)) (by omega) (by rw [C.obj o ho]; show (f : Int) < 2; omega)).2.1
    have e1 : (o.1 + (f : Int)).toNat = o.1.toNat + f := by omega
    rw [e1] at hl ⊢
    simp only [List.getD, List.getElem?_set_self hl, Option.getD_some]
  · rw [if_neg e]
    have hne : (a + (k : Int)).toNat ≠ p.toNat + f := fun h => by
      rcases Int.lt_trichotomy a p with h1 | h1 | h1
      · have := obj_apart I C ha hp h1
        omega
      · exact e ⟨h1.symm, by omega⟩
      · have := obj_apart I C hp ha h1
        omega
    simp only [List.getD, List.getElem?_set_ne hne]
theorem put_zero (I : Inv0 S) (hS : T.S = S) (k b : Int) (bar : Bool) : (qPut T 0 k b bar).2 = 11 := by
  have h0 : sThere T.S 0 k = 11 := by
    unfold sThere
    rw [hS]
    have : (sSize S 0).2.2 = false := by
      cases e : (sSize S 0).2.2 with
      | false => rfl
      | true => have := mis_pos I (p := 0) e; omega
    rw [if_pos (.inl this)]
  have hl : (sLoad T.S 0 k).2 = 11 := by
    unfold sLoad
    rw [h0, if_neg (by decide)]
  unfold qPut
  rw [hl, if_pos (by decide)]
theorem put_good (I : Inv0 S) (C : Clo S) (A : All1 S T r) {a b : Int} (ha : mIs S a = true) (hb : Good S b) {k : Nat} (hk : k < 2) (bar : Bool) : (qPut T a k b bar).2 = 0 ∧ (qPut T a k b bar).1.S = sStore S a k b := by
  have hS := A.s
  have hl := C.load I ha hk
  have hg := C.good I ha hk
  have hz := C.size I ha
  have hbit : mBit 3 k = true := by
    rcases (by omega : k = 0 ∨ k = 1) with rfl | rfl <;> decide
  have hbo : ¬ (b ≠ 0 ∧ (sSize S b).2.2 = false) := fun h => hb.elim h.1 fun h2 => by
    have : (sSize S b).2.2 = true := h2
    rw [this] at h
    cases h.2
  have hkn : (mKnown S T.K (fldA S a k)).2 = 0 := by
    cases A with
    | mark ph hS M al lf => rw [known_good M hg]
    | sweep ph hS on lf => unfold mKnown; rw [if_pos (.inl on)]
    | off ph hS on lf => unfold mKnown; rw [if_pos (.inl on)]
  unfold qPut
  rw [hS, hl, hz, if_neg (by simp), if_neg hbo]
  dsimp only
  rw [Int.toNat_natCast, if_neg (by rw [hbit]; simp)]
  by_cases hbar : bar = false
  · rw [if_pos hbar]
    exact ⟨rfl, rfl⟩
  · rw [if_neg hbar, if_neg (by rw [hkn]; simp)]
    exact ⟨rfl, rfl⟩
end
/-- The fields of the first objects, and some of one more. -/
def prs (l : List Int) (i f : Nat) : List (Int × Int) := ((l.take i).flatMap fun p => [(p, 0), (p, 1)]) ++ ((List.range f).map fun (j : Nat) => ((l.getD i 0, (j : Int))))
theorem prs_mem (l : List Int) (i : Nat) (hi : i ≤ l.length) (x : Int × Int) : x ∈ prs l i 0 ↔ x.1 ∈ l.take i ∧ (x.2 = 0 ∨ x.2 = 1) := by
  unfold prs
  simp only [List.range_zero, List.map_nil, List.append_nil, List.mem_flatMap, List.mem_cons, List.not_mem_nil, or_false]
  constructor
  · rintro ⟨p, hp, rfl | rfl⟩
    · exact ⟨hp, .inl rfl⟩
    · exact ⟨hp, .inr rfl⟩
  · rintro ⟨h1, h2⟩
    exact ⟨x.1, h1, h2.imp (fun e => Prod.ext rfl e) fun e => Prod.ext rfl e⟩
theorem prs_two (l : List Int) {i : Nat} (hi : i < l.length) : prs l i 2 = prs l (i + 1) 0 := by
  have e : l.take (i + 1) = l.take i ++ [l[i]] := take_snoc l hi
  unfold prs
  rw [e, List.flatMap_append]
  simp [List.getD, List.getElem?_eq_getElem hi, List.range_succ]
theorem prs_next (l : List Int) (i f : Nat) : prs l i (f + 1) = prs l i f ++ [(l.getD i 0, (f : Int))] := by
  unfold prs
  rw [List.range_succ, List.map_append, List.append_assoc]
  rfl
theorem prs_new (l : List Int) (hn : l.Nodup) {i f : Nat} (hi : i < l.length) (hf : f < 2) : (l.getD i 0, (f : Int)) ∉ prs l i f := by
  have hgi : l.getD i 0 = l[i] := by simp [List.getD, List.getElem?_eq_getElem hi]
  unfold prs
  rw [List.mem_append]
  rintro (h | h)
  · obtain ⟨p, hp, hx⟩ := List.mem_flatMap.1 h
    have hpe : p = l.getD i 0 := by
      simp only [List.mem_cons, List.not_mem_nil, or_false, Prod.mk.injEq] at hx
      rcases hx with h | h
      · exact h.1.symm
      · exact h.1.symm
    rw [hpe, hgi] at hp
    obtain ⟨j, hj, e⟩ := List.getElem_of_mem hp
    rw [List.length_take] at hj
    rw [List.getElem_take] at e
    have := (List.nodup_iff_pairwise_ne.1 hn)
    have hne := List.pairwise_iff_getElem.1 this j i (by omega) hi (by omega)
    exact hne e
  · obtain ⟨j, hj, e⟩ := List.mem_map.1 h
    have := (Prod.mk.inj e).2
    have hj2 := List.mem_range.1 hj
    omega
theorem prs_len (l : List Int) : ∀ i, i ≤ l.length → (prs l i 0).length = 2 * i
  | 0, _ => rfl
  | i + 1, hi => by
    rw [← prs_two l hi, prs_next, prs_next]
    have := prs_len l i (by omega)
    simp only [List.length_append, List.length_singleton]
    omega
section
variable {w0 : W0} {w w' w1 w2 : World} {q s h m : Nat} {T T' : SS} {D D' : DS}
/-- A kept block of the call's own is written, and kept no more. -/
theorem LX.wrote {bm : Nat} (H0 : LX w0 w q s h m T' D') (hb : Below w.heap.size w w1) (H : LX (w0.guard w w1) w2 q s h m T D) (hbm : w.heap.size ≤ bm ∧ bm < w1.heap.size) (hT : 0 < w.heap.size) (hg : w2.grownBy w' (some bm)) (hs : w2.heap.size ≤ w'.heap.size) : LX w0 w' q s h m T D := by
  obtain ⟨X, V, L, fe, hX, hq, hqt, xv, B⟩ := H
  have fe0 := H0.fen
  have hbQ : (w0.guard w w1).Q bm := .inr hbm
  have hXb : ∀ k, X k → k ≠ bm := fun k hk e => (hX k hk).2 (e ▸ hbQ)
  have hko : ∀ k, k < w2.heap.size → k ≠ bm → w'.heap[k]? = w2.heap[k]? := fun k hk hne => hg.block k hk fun e => hne (by injection e)
  have hb0 : w0.base.heap.size ≤ bm := Nat.le_trans fe0.b.size hbm.1
  have bw : Below w0.base.heap.size w0.base w' := fe.b.grown hg fe.b.size fun k hk => by cases hk; exact hb0
  have hqb : ¬ w0.Q bm := fun hqq => by have := (fe0.kept bm hqq).1; omega
  have fu : Fen w0 w2 := fe0.unguard hb fe
  refine ⟨X, V, L.wrote hs (fun k hk h => hko k hk fun e => ?_) (fun k hk hf => ⟨hf.1, fun h => hf.2 (h.elim (fun h => .inl (.inl h)) .inr)⟩) ⟨bw, fun k hk => ⟨?_, rfl⟩⟩, ⟨bw, fun k hk => ?_⟩, fun k hk => ⟨(hX k hk).1, fun h => (hX k hk).2 (.inl h)⟩, hq, hqt, xv.same (fun b hb' hlt => hko b hlt (hXb b hb'.1)) fun b hb' _ => hb', (hko q B.lt (hXb q hq)).trans B⟩
  · rcases h with h | h
    · exact h.2 (.inl (e ▸ hbQ))
    · omega
  · rcases hk with h | h
    · have := (fu.kept k h).1; omega
    · have := (L.fen.kept k (.inr h)).1; omega
  · have hk' := fu.kept k hk
    exact ⟨by omega, (hko k hk'.1 fun e => hqb (e ▸ hk)).trans hk'.2⟩
theorem lx_put (H : LX w0 w q s h m T D) (p f to : Int) (bar : Bool) (hp : -9223372036854775808 ≤ p ∧ p ≤ 9223372036854775807) (hto : -9223372036854775808 ≤ to ∧ to ≤ 9223372036854775807) :
    Calls Tryz.prog 23 #[.pointer (some ⟨s, 0, none⟩), .int .i64 p, .int .i64 f, .int .i64 to, .bool bar] w fun e w' => e = .returned (.int .i64 (qPut T p f to bar).2) ∧ LX w0 w' q s h m (qPut T p f to bar).1 D :=
  H.call (P := fun e _ => e = .returned (.int .i64 (qPut T p f to bar).2)) fun v0 L => ls_put L p f to bar hp hto
end
end Go.Proofs.YtcaboknbdamlhaaGreatDoor
namespace Go.Proofs.YtcaboknbdamlhaaGreatDoor
open Go.RowKit Go.Shelf
set_option maxHeartbeats 12800000 in
set_option maxRecDepth 100000 in
theorem sputs_ok (v0 : Value) (x0 x1 x2 : Int) (bar : Bool) (acts : List SAct) (wA : World) (hra0 : RdC 6 sactC wA v0 acts) (hba0 : ∀ a ∈ acts, SActOk wA a) (hx0 : 0 ≤ x0 ∧ x0 ≤ 255) (hx1 : 0 ≤ x1 ∧ x1 ≤ 255) (hx2 : 0 ≤ x2 ∧ x2 ≤ 255) (hT0 : TabW wA) :
    Calls Tryz.prog 7 #[v0, .agg #[.int .u8 x0, .int .u8 x1, .int .u8 x2], .bool bar] wA fun e w' => e = .returned (.bool true) ∧ Below wA.heap.size wA w' := by
  obtain ⟨Aa, ca, rfl, hlc, hcm, -⟩ := hra0.len
  have hra1 := Lib.hid hra0
  have hba1 := Lib.hid hba0
  replace hT0 := Lib.hid hT0
  clear hra0 hba0
  go_enter Tryz.func7, Tryz.ntmps7
  go_wp2_with (refine wpList_new rfl (.box 65 (.tmp 1)) rfl wA.heap.size rfl 65 #[.int .u8 x0, .int .u8 x1, .int .u8 x2] (by kernel_rfl) ?_; intro w hsA b0 hBA; refine stop_here ?_)
  have hT := hT0.out.below b0
  have hra := hra1.out.below b0
  have hba : ∀ a ∈ acts, SActOk w a := fun a ha => (hba1.out a ha).below b0
  have BA := Lib.hid hBA
  have gbl := hBA.lt
  obtain ⟨gB, hgB⟩ : ∃ gB, gB = wA.heap.size := ⟨_, rfl⟩
  rw [← hgB] at BA gbl ⊢
  replace hgB := Lib.hid hgB
  replace b0 := Lib.hid b0
  clear hBA hsA hra1 hba1 hT0
  refine go_on ?_
  have HA := Lib.hid (salive_ok w hT)
  replace hT := Lib.hid hT
  have RA := Lib.hid hra
  have HB := Lib.hid hba
  clear hra hba
  go_wp2_with fail
  refine HA.out.mono ?_
  rintro e w1 ⟨rfl, b1⟩
  clear HA
  go_wp2_with fail
  have htabl : Hid (0 < w1.heap.size) := Lib.hid (Nat.lt_of_lt_of_le hT.out.lt b1.size)
  refine (lx_begin 8 w1 (by omega) (by omega) (hT.out.below b1)).mono ?_
  rintro e w2 ⟨q, s, h, m, rfl, H2⟩
  have b2 := b1.trans (Below.mono H2.b b1.size)
  have b12 := Lib.hid H2.b
  replace H2 := Lib.hid H2
  clear hT
  go_wp2_with fail
  refine (sheavy_w _ acts w2 (RA.out.below b2) (fun a ha => (HB.out a ha).below b2)).mono ?_
  rintro e w3 ⟨rfl, b3⟩
  have b3w := b2.trans (Below.mono b3 b2.size)
  have H3 := Lib.hid (H2.out.below b3)
  clear H2
  cases hh : sHeavy acts with
  | true =>
    go_wp2_with fail
    go_ret
    exact ⟨rfl, b0.out.trans (b3w.mono b0.out.size)⟩
  | false =>
  have O3 := Lib.hid (off_new 8)
  replace RA : Hid (RdC 6 sactC w1 (.slice Aa acts.length ca) acts) := Lib.hid (RA.out.below b1)
  replace HB : Hid (∀ a ∈ acts, SActOk w1 a) := Lib.hid fun a ha => (HB.out a ha).below b1
  replace BA := Lib.hid (BA.out.below b1 gbl)
  replace gbl := BA.out.lt
  replace b1 := Lib.hid b1
  have hal : acts.length ≤ 120 := by
    unfold sHeavy at hh
    rw [Bool.or_eq_false_iff, decide_eq_false_iff_not] at hh
    omega
  replace hh := Lib.hid hh
  clear b2 b3 b3w b12
  go_wp2_with fail
  go_loopw [36] (fun i wr => ∃ (k : Nat) (T : SS) (D : DS), k ≤ acts.length ∧ i = .int .i64 k ∧ Hid (LX (ofW w1) wr q s h m T D) ∧ Hid (OffX T D)) (fun i _ => acts.length - (intOf i).toNat)
  case atStart => exact ⟨0, _, _, by omega, rfl, H3, O3⟩
  case round =>
    clear H3 O3
    obtain ⟨k, T, D, hk, rfl, H1, O1⟩ := hrel
    by_cases hlt : k < acts.length
    · have t0 : (k : Int) < (acts.length : Int) := by omega
      obtain ⟨b, o, rfl, _, hc⟩ := (RA.out.below H1.out.b).at_ hlt
      obtain ⟨x, hx⟩ : ∃ x, acts[k] = x := ⟨_, rfl⟩
      have hok := (HB.out _ (List.getElem_mem hlt))
      rw [hx] at hc hok
      have hbd := hok.bd
      obtain ⟨kind, xa, xb, xk, rv, rl, xx⟩ := x
      have c0 : wr.cell? ⟨b, o + k * 6, none⟩ = some (.int .u8 kind) := hc 0 _ rfl
      have c1 : wr.cell? ⟨b, o + k * 6 + 1, none⟩ = some (.int .u8 xa) := hc 1 _ rfl
      have c2 : wr.cell? ⟨b, o + k * 6 + 2, none⟩ = some (.int .u8 xb) := hc 2 _ rfl
      have c3 : wr.cell? ⟨b, o + k * 6 + 3, none⟩ = some (.int .u8 xk) := hc 3 _ rfl
      have c4 : wr.cell? ⟨b, o + k * 6 + 4, none⟩ = some (slE rv) := hc 4 _ rfl
      have c5 : wr.cell? ⟨b, o + k * 6 + 5, none⟩ = some (.int .i64 xx) := hc 5 _ rfl
      have kd := hbd.kind
      dsimp only at kd
      replace hbd := Lib.hid hbd
      replace hok := Lib.hid hok
      clear hc hx
      go_wp2_with (first
        | (refine wpList_new rfl (.alloc 30) rfl wr.heap.size rfl 30 #[.int .u8 0, .int .u8 0, .int .u8 0, .int .u8 0, .slice none 0 0, .int .i64 0] (by kernel_rfl) ?_; intro w1 hs1 hb1 hB1; have HB1 := Lib.hid hB1; clear hB1)
        | (refine wpList_store_blk rfl 30 (.tmp 10) (.tmp 39) rfl wr.heap.size rfl #[.int .u8 kind, .int .u8 xa, .int .u8 xb, .int .u8 xk, slE rv, .int .i64 xx] rfl 30 #[.int .u8 0, .int .u8 0, .int .u8 0, .int .u8 0, .slice none 0 0, .int .i64 0] HB1.out sact_size rfl (by simp [Value.oneCell']) ?_; intro w2 hB2 hg2 hs2; refine stop_here ?_))
      have hb2 : Below wr.heap.size wr w2 := hb1.grown hg2 hb1.size (fun k hk => by cases hk; exact Nat.le_refl _)
      have H2 := Lib.hid (H1.out.below hb2)
      have v0 : w2.cell? ⟨wr.heap.size, 0, none⟩ = some (.int .u8 kind) := hB2.cell 0
      obtain ⟨gA, hgA⟩ : ∃ gA, gA = wr.heap.size := ⟨_, rfl⟩
      rw [← hgA] at hB2 v0 ⊢
      replace hgA := Lib.hid hgA
      replace hB2 := Lib.hid hB2
      clear HB1 hg2 hs2 hs1 hb1 hb2 H1 c0 c1 c2 c3 c4 c5
      refine go_on ?_
      by_cases h8 : kind % 8 = 0
      · go_wp2_with fail
        go_roundw
        case rel => exact ⟨k + 1, T, D, by omega, by go_num, H2, O1⟩
        case measure => simp [intOf]; omega
      · have HD := Lib.hid (sdoes_off H2.out O1.out kind xa xb xk rv xx hbd.out h8)
        go_wp2_with (refine wpList_load_blk rfl 30 (.tmp 10) rfl gA rfl 30 #[.int .u8 kind, .int .u8 xa, .int .u8 xb, .int .u8 xk, slE rv, .int .i64 xx] hB2.out _ Tryz.underlying30 rfl sact_size ?_)
        refine HD.out.mono ?_
        rintro e w3 ⟨bb, T3, D3, rfl, H3, O3⟩
        replace H3 := Lib.hid H3
        replace O3 := Lib.hid O3
        clear HD H2 O1 hB2 v0
        go_wp2_with fail
        go_roundw
        case rel => exact ⟨k + 1, T3, D3, by omega, by go_num, H3, O3⟩
        case measure => simp [intOf]; omega
    · obtain rfl : k = acts.length := by omega
      have c0 := H1.out.cells.1
      have I := H1.out.inv
      have C := Lib.hid O1.out.clo
      have hn4 : (sAll T.S).length ≤ 4096 := by
        have := I.toInv0.objs_len
        rw [all_len]
        exact this
      obtain ⟨eb0, ⟨r0, hr0, A0⟩, eb2⟩ := all1_begin I C.out (T := T) rfl O1.out.ph O1.out.on O1.out.lf
      have AO : Hid (All1 T.S T 0) := Lib.hid (All1.off O1.out.ph rfl O1.out.on O1.out.lf)
      replace I := Lib.hid I
      replace A0 := Lib.hid A0
      replace eb0 := Lib.hid eb0
      obtain ⟨S, hS⟩ : ∃ S, S = T.S := ⟨_, rfl⟩
      rw [← hS] at I C A0 eb0 hn4 hr0 eb2 AO
      replace hS := Lib.hid hS
      clear hr0 eb2
      rename World => w4
      have B4 := BA.out.below H1.out.b gbl
      have d2 : w4.cell? ⟨gB, 2, none⟩ = some (.int .u8 x2) := B4.cell 2
      clear B4
      go_wp2_with fail
      refine (lx_heap H1.out).mono ?_
      rintro e _ ⟨rfl, rfl⟩
      by_cases hev : x2 % 2 = 0
      · have te2 := Lib.hid (show x2.tmod 2 = 0 from (Int.tmod_eq_emod_of_nonneg hx2.1).trans hev)
        replace hev := Lib.hid hev
        go_wp2_with fail
        have hS0 : (fun X : World => X.cell? ⟨q, 0, none⟩ = some (.pointer (some ⟨s, 0, none⟩)) ∧ X.cell? ⟨gB, 2, none⟩ = some (.int .u8 x2)) w4.drew := ⟨c0, d2⟩
        refine wp_T (by kernel_rfl) 14 (fun X : World => X.cell? ⟨q, 0, none⟩ = some (.pointer (some ⟨s, 0, none⟩)) ∧ X.cell? ⟨gB, 2, none⟩ = some (.int .u8 x2)) ?_
        refine wpAnyT_takeA (i := 0) (v := .pointer (some ⟨gB, 2, none⟩)) rfl (by kernel_rfl) rfl (fun _ _ _ hp => hp) (Or.inl ⟨by kernel_rfl, fun X _ => by go_simp⟩) hS0 ?_
        simp only [Act.put, List.getElem_toArray, List.getElem_cons_succ, List.getElem_cons_zero, List.setIfInBounds_toArray, List.set_cons_zero, List.set_cons_succ]
        refine wpAnyT_takeA (i := 1) (v := .int .u8 x2) rfl (by kernel_rfl) rfl (fun _ _ _ hp => hp) (Or.inl ⟨by kernel_rfl, fun X hX => by have hX1 : (fun X : World => X.cell? ⟨q, 0, none⟩ = some (.pointer (some ⟨s, 0, none⟩)) ∧ X.cell? ⟨gB, 2, none⟩ = some (.int .u8 x2)) X := hX; have y1 : X.cell? ⟨gB, 2, none⟩ = some (.int .u8 x2) := hX1.2; go_simp⟩) hS0 ?_
        simp only [Act.put, List.getElem_toArray, List.getElem_cons_succ, List.getElem_cons_zero, List.setIfInBounds_toArray, List.set_cons_zero, List.set_cons_succ]
        refine wpAnyT_takeA (i := 2) (v := .int .u8 0) rfl (by kernel_rfl) rfl (fun _ _ _ hp => hp) (Or.inl ⟨by kernel_rfl, fun X _ => by have te2z := te2.out; go_simp⟩) hS0 ?_
        simp only [Act.put, List.getElem_toArray, List.getElem_cons_succ, List.getElem_cons_zero, List.setIfInBounds_toArray, List.set_cons_zero, List.set_cons_succ]
        refine wpAnyT_takeA (i := 3) (v := .bool true) rfl (by kernel_rfl) rfl (fun _ _ _ hp => hp) (Or.inl ⟨by kernel_rfl, fun X _ => by go_simp⟩) hS0 ?_
        simp only [Act.put, List.getElem_toArray, List.getElem_cons_succ, List.getElem_cons_zero, List.setIfInBounds_toArray, List.set_cons_zero, List.set_cons_succ]
        refine wpAnyT_takeA (i := 4) (v := .bool true) rfl (by kernel_rfl) rfl (fun _ _ _ hp => hp) (Or.inl ⟨by kernel_rfl, fun X _ => by go_simp⟩) hS0 ?_
        simp only [Act.put, List.getElem_toArray, List.getElem_cons_succ, List.getElem_cons_zero, List.setIfInBounds_toArray, List.set_cons_zero, List.set_cons_succ]
        refine wpAnyT_takeA (i := 5) (v := .pointer (some ⟨q, 0, none⟩)) rfl (by kernel_rfl) rfl (fun _ _ _ hp => hp) (Or.inl ⟨by kernel_rfl, fun X _ => by go_simp⟩) hS0 ?_
        simp only [Act.put, List.getElem_toArray, List.getElem_cons_succ, List.getElem_cons_zero, List.setIfInBounds_toArray, List.set_cons_zero, List.set_cons_succ]
        refine wpAnyT_takeA (i := 6) (v := .pointer (some ⟨q, 0, none⟩)) rfl (by kernel_rfl) rfl (fun _ _ _ hp => hp) (Or.inl ⟨by kernel_rfl, fun X _ => by go_simp⟩) hS0 ?_
        simp only [Act.put, List.getElem_toArray, List.getElem_cons_succ, List.getElem_cons_zero, List.setIfInBounds_toArray, List.set_cons_zero, List.set_cons_succ]
        refine wpAnyT_takeA (i := 7) (v := .pointer (some ⟨q, 0, none⟩)) rfl (by kernel_rfl) rfl (fun _ _ _ hp => hp) (Or.inl ⟨by kernel_rfl, fun X _ => by go_simp⟩) hS0 ?_
        simp only [Act.put, List.getElem_toArray, List.getElem_cons_succ, List.getElem_cons_zero, List.setIfInBounds_toArray, List.set_cons_zero, List.set_cons_succ]
        refine wpAnyT_takeA (i := 8) (v := .pointer (some ⟨s, 0, none⟩)) rfl (by kernel_rfl) rfl (fun _ _ _ hp => hp) (Or.inl ⟨by kernel_rfl, fun X hX => by have hX1 : (fun X : World => X.cell? ⟨q, 0, none⟩ = some (.pointer (some ⟨s, 0, none⟩)) ∧ X.cell? ⟨gB, 2, none⟩ = some (.int .u8 x2)) X := hX; have y1 : X.cell? ⟨q, 0, none⟩ = some (.pointer (some ⟨s, 0, none⟩)) := hX1.1; go_simp⟩) hS0 ?_
        simp only [Act.put, List.getElem_toArray, List.getElem_cons_succ, List.getElem_cons_zero, List.setIfInBounds_toArray, List.set_cons_zero, List.set_cons_succ]
        refine wpAnyT_takeA (i := 9) (v := .pointer (some ⟨h, 0, none⟩)) rfl (by kernel_rfl) rfl (fun _ _ _ hp => hp) (Or.inl ⟨by kernel_rfl, fun X _ => by go_simp⟩) hS0 ?_
        simp only [Act.put, List.getElem_toArray, List.getElem_cons_succ, List.getElem_cons_zero, List.setIfInBounds_toArray, List.set_cons_zero, List.set_cons_succ]
        refine wpAnyT_one (i := 10) rfl (by kernel_rfl) (by kernel_rfl) ?_
        intro K1 hK1
        have H4d := H1.out.below (show Below w4.heap.size w4 w4.drew from (Below.refl _ _).drew)
        have HAl := lx_all2 H4d
        rw [← hS.out] at HAl
        go_simp
        refine HAl.mono ?_
        rintro e w5a ⟨A5, c5, rfl, hrd5, hown5, b5⟩
        dsimp only
        have hS1 : (fun X : World => X.cell? ⟨q, 0, none⟩ = some (.pointer (some ⟨s, 0, none⟩)) ∧ X.cell? ⟨gB, 2, none⟩ = some (.int .u8 x2)) w5a := ⟨(H4d.below b5).cells.1, (BA.out.below (H4d.below b5).b gbl).cell 2⟩
        refine hK1.out _ _ (fun _ => hS1) ?_
        (try simp only [Act.put, List.getElem_toArray, List.getElem_cons_succ, List.getElem_cons_zero, List.setIfInBounds_toArray, List.set_cons_zero, List.set_cons_succ])
        refine wpAnyT_one (i := 11) rfl (by kernel_rfl) (by kernel_rfl) ?_
        intro K2 hK2
        have HBg := lx_beginL H4d b5 _ (sAll S) hrd5 hn4 (fun x hx => by
          have := mis_pos I.out.toInv0 ((mis_all I.out.toInv0 x).2 hx)
          omega) hown5
        rw [eb0.out] at HBg
        go_simp
        refine HBg.mono ?_
        rintro e w5 ⟨rfl, H5b⟩
        dsimp only
        have hS2 : (fun X : World => X.cell? ⟨q, 0, none⟩ = some (.pointer (some ⟨s, 0, none⟩)) ∧ X.cell? ⟨gB, 2, none⟩ = some (.int .u8 x2)) w5 := ⟨H5b.cells.1, (BA.out.below H5b.b gbl).cell 2⟩
        replace H5b := Lib.hid H5b
        refine hK2.out _ _ (fun _ => hS2) ?_
        (try simp only [Act.put, List.getElem_toArray, List.getElem_cons_succ, List.getElem_cons_zero, List.setIfInBounds_toArray, List.set_cons_zero, List.set_cons_succ])
        refine wpAnyT_takeA (i := 12) (v := .bool false) rfl (by kernel_rfl) rfl (fun _ _ _ hp => hp) (Or.inl ⟨by kernel_rfl, fun X _ => by go_simp⟩) hS2 ?_
        simp only [Act.put, List.getElem_toArray, List.getElem_cons_succ, List.getElem_cons_zero, List.setIfInBounds_toArray, List.set_cons_zero, List.set_cons_succ]
        refine wpAnyT_takeA (i := 13) (v := .bool false) rfl (by kernel_rfl) rfl (fun _ _ _ hp => hp) (Or.inl ⟨by kernel_rfl, fun X _ => by go_simp⟩) hS2 ?_
        simp only [Act.put, List.getElem_toArray, List.getElem_cons_succ, List.getElem_cons_zero, List.setIfInBounds_toArray, List.set_cons_zero, List.set_cons_succ]
        refine wpAnyT_done (by kernel_rfl) ?_ _
        (try simp only [Act.put, List.getElem_toArray, List.getElem_cons_succ, List.getElem_cons_zero, List.setIfInBounds_toArray, List.set_cons_zero, List.set_cons_succ])
        clear hK1 K1 hK2 K2 hS0 hS1 hS2 hown5 b5
        have hT1 : Hid (∃ T1 r1, LX (ofW w1) w5 q s h m T1 D ∧ All1 S T1 r1) := Lib.hid ⟨_, r0, H5b.out, A0.out⟩
        clear H5b A0 hrd5 H4d H1 eb0 AO hS O1 c0 d2 te2
        obtain ⟨T1, r1, H5x, A1⟩ := hT1.out
        have H5 := Lib.hid H5x
        have hS1 := A1.s
        obtain ⟨kf, hkf⟩ : ∃ kf : Nat, x2 % 2 = (kf : Int) := ⟨(x2 % 2).toNat, by omega⟩
        have hk2 : kf < 2 := by omega
        have wx2 := Lib.hid (show IntKind.i64.wrap x2 = x2 by rw [IntKind.wrap_i64]; omega)
        have tx2 := Lib.hid (show x2.tmod 2 = (kf : Int) from (Int.tmod_eq_emod_of_nonneg hx2.1).trans hkf)
        have B5 := Lib.hid (BA.out.below H5x.b gbl)
        have d0 : w5.cell? ⟨gB, 0, none⟩ = some (.int .u8 x0) := B5.out.cell 0
        have d1 : w5.cell? ⟨gB, 1, none⟩ = some (.int .u8 x1) := B5.out.cell 1
        have d2 : w5.cell? ⟨gB, 2, none⟩ = some (.int .u8 x2) := B5.out.cell 2
        have gb5 := B5.out.lt
        obtain ⟨a, ha⟩ : ∃ a, objN S x0 = a := ⟨_, rfl⟩
        obtain ⟨b, hb⟩ : ∃ b, objN S x1 = b := ⟨_, rfl⟩
        have hga := objN_good I.out.toInv0 x0
        have hgb := objN_good I.out.toInv0 x1
        rw [ha] at hga
        rw [hb] at hgb
        have hab := good_bd I.out.toInv0 hga
        have hbb := good_bd I.out.toInv0 hgb
        have HO1 := Lib.hid fun wx (hbx : Below w5.heap.size w5 wx) => lx_object (H5x.below hbx) x0 hx0
        have HO2 := Lib.hid fun wx (hbx : Below w5.heap.size w5 wx) => lx_object (H5x.below hbx) x1 hx1
        rw [hS1, ha] at HO1
        rw [hS1, hb] at HO2
        replace ha := Lib.hid ha
        replace hb := Lib.hid hb
        replace hga := Lib.hid hga
        replace hgb := Lib.hid hgb
        replace A1 := Lib.hid A1
        replace hS1 := Lib.hid hS1
        replace hkf := Lib.hid hkf
        clear H5x hT1
        go_wp2_with fail
        have hS0 : (fun X : World => Below w5.heap.size w5 X) w5.drew := (Below.refl _ _).drew
        refine wp_T (by kernel_rfl) 15 (fun X : World => Below w5.heap.size w5 X) ?_
        refine wpAnyT_takeA (i := 0) (v := .pointer (some ⟨q, 0, none⟩)) rfl (by kernel_rfl) rfl (fun _ _ _ hp => hp) (Or.inl ⟨by kernel_rfl, fun X _ => by go_simp⟩) hS0 ?_
        simp only [Act.put, List.getElem_toArray, List.getElem_cons_succ, List.getElem_cons_zero, List.setIfInBounds_toArray, List.set_cons_zero, List.set_cons_succ]
        refine wpAnyT_takeA (i := 1) (v := .pointer (some ⟨gB, 0, none⟩)) rfl (by kernel_rfl) rfl (fun _ _ _ hp => hp) (Or.inl ⟨by kernel_rfl, fun X _ => by go_simp⟩) hS0 ?_
        simp only [Act.put, List.getElem_toArray, List.getElem_cons_succ, List.getElem_cons_zero, List.setIfInBounds_toArray, List.set_cons_zero, List.set_cons_succ]
        refine wpAnyT_takeA (i := 2) (v := .int .u8 x0) rfl (by kernel_rfl) rfl (fun _ _ _ hp => hp) (Or.inl ⟨by kernel_rfl, fun X hX => by have hX1 : (fun X : World => Below w5.heap.size w5 X) X := hX; have y1 := (Below.cell (p := ⟨gB, 0, none⟩) hX1 gb5).trans d0; go_simp⟩) hS0 ?_
        simp only [Act.put, List.getElem_toArray, List.getElem_cons_succ, List.getElem_cons_zero, List.setIfInBounds_toArray, List.set_cons_zero, List.set_cons_succ]
        refine wpAnyT_takeA (i := 4) (v := .pointer (some ⟨q, 0, none⟩)) rfl (by kernel_rfl) rfl (fun _ _ _ hp => hp) (Or.inl ⟨by kernel_rfl, fun X _ => by go_simp⟩) hS0 ?_
        simp only [Act.put, List.getElem_toArray, List.getElem_cons_succ, List.getElem_cons_zero, List.setIfInBounds_toArray, List.set_cons_zero, List.set_cons_succ]
        refine wpAnyT_takeA (i := 5) (v := .pointer (some ⟨gB, 1, none⟩)) rfl (by kernel_rfl) rfl (fun _ _ _ hp => hp) (Or.inl ⟨by kernel_rfl, fun X _ => by go_simp⟩) hS0 ?_
        simp only [Act.put, List.getElem_toArray, List.getElem_cons_succ, List.getElem_cons_zero, List.setIfInBounds_toArray, List.set_cons_zero, List.set_cons_succ]
        refine wpAnyT_takeA (i := 6) (v := .int .u8 x1) rfl (by kernel_rfl) rfl (fun _ _ _ hp => hp) (Or.inl ⟨by kernel_rfl, fun X hX => by have hX1 : (fun X : World => Below w5.heap.size w5 X) X := hX; have y1 := (Below.cell (p := ⟨gB, 1, none⟩) hX1 gb5).trans d1; go_simp⟩) hS0 ?_
        simp only [Act.put, List.getElem_toArray, List.getElem_cons_succ, List.getElem_cons_zero, List.setIfInBounds_toArray, List.set_cons_zero, List.set_cons_succ]
        refine wpAnyT_takeA (i := 8) (v := .pointer (some ⟨gB, 2, none⟩)) rfl (by kernel_rfl) rfl (fun _ _ _ hp => hp) (Or.inl ⟨by kernel_rfl, fun X _ => by go_simp⟩) hS0 ?_
        simp only [Act.put, List.getElem_toArray, List.getElem_cons_succ, List.getElem_cons_zero, List.setIfInBounds_toArray, List.set_cons_zero, List.set_cons_succ]
        refine wpAnyT_takeA (i := 9) (v := .int .u8 x2) rfl (by kernel_rfl) rfl (fun _ _ _ hp => hp) (Or.inl ⟨by kernel_rfl, fun X hX => by have hX1 : (fun X : World => Below w5.heap.size w5 X) X := hX; have y1 := (Below.cell (p := ⟨gB, 2, none⟩) hX1 gb5).trans d2; go_simp⟩) hS0 ?_
        simp only [Act.put, List.getElem_toArray, List.getElem_cons_succ, List.getElem_cons_zero, List.setIfInBounds_toArray, List.set_cons_zero, List.set_cons_succ]
        refine wpAnyT_takeA (i := 10) (v := .int .i64 x2) rfl (by kernel_rfl) rfl (fun _ _ _ hp => hp) (Or.inl ⟨by kernel_rfl, fun X _ => by have wx2z := wx2.out; go_simp⟩) hS0 ?_
        simp only [Act.put, List.getElem_toArray, List.getElem_cons_succ, List.getElem_cons_zero, List.setIfInBounds_toArray, List.set_cons_zero, List.set_cons_succ]
        refine wpAnyT_takeA (i := 11) (v := .int .i64 (kf : Int)) rfl (by kernel_rfl) rfl (fun _ _ _ hp => hp) (Or.inl ⟨by kernel_rfl, fun X _ => by have tx2z := tx2.out; go_simp⟩) hS0 ?_
        simp only [Act.put, List.getElem_toArray, List.getElem_cons_succ, List.getElem_cons_zero, List.setIfInBounds_toArray, List.set_cons_zero, List.set_cons_succ]
        refine wpAnyT_one (i := 3) rfl (by kernel_rfl) (by kernel_rfl) ?_
        intro K1 hK1
        go_simp
        refine (HO1.out _ hS0).mono ?_
        rintro e w6a ⟨rfl, bb0⟩
        dsimp only
        have hS1 : (fun X : World => Below w5.heap.size w5 X) w6a := Below.trans hS0 (Below.mono bb0 (Below.size hS0))
        refine hK1.out _ _ (fun _ => hS1) ?_
        (try simp only [Act.put, List.getElem_toArray, List.getElem_cons_succ, List.getElem_cons_zero, List.setIfInBounds_toArray, List.set_cons_zero, List.set_cons_succ])
        refine wpAnyT_one (i := 7) rfl (by kernel_rfl) (by kernel_rfl) ?_
        intro K2 hK2
        go_simp
        refine (HO2.out _ hS1).mono ?_
        rintro e w6 ⟨rfl, bb1⟩
        dsimp only
        have hS2 : (fun X : World => Below w5.heap.size w5 X) w6 := Below.trans hS1 (Below.mono bb1 (Below.size hS1))
        refine hK2.out _ _ (fun _ => hS2) ?_
        (try simp only [Act.put, List.getElem_toArray, List.getElem_cons_succ, List.getElem_cons_zero, List.setIfInBounds_toArray, List.set_cons_zero, List.set_cons_succ])
        refine wpAnyT_takeA (i := 12) (v := .int .i64 a) rfl (by kernel_rfl) rfl (fun _ _ _ hp => hp) (Or.inl ⟨by kernel_rfl, fun X _ => by go_simp⟩) hS2 ?_
        simp only [Act.put, List.getElem_toArray, List.getElem_cons_succ, List.getElem_cons_zero, List.setIfInBounds_toArray, List.set_cons_zero, List.set_cons_succ]
        refine wpAnyT_takeA (i := 13) (v := .int .i64 b) rfl (by kernel_rfl) rfl (fun _ _ _ hp => hp) (Or.inl ⟨by kernel_rfl, fun X _ => by go_simp⟩) hS2 ?_
        simp only [Act.put, List.getElem_toArray, List.getElem_cons_succ, List.getElem_cons_zero, List.setIfInBounds_toArray, List.set_cons_zero, List.set_cons_succ]
        refine wpAnyT_takeA (i := 14) (v := .int .i64 (kf : Int)) rfl (by kernel_rfl) rfl (fun _ _ _ hp => hp) (Or.inl ⟨by kernel_rfl, fun X _ => by go_simp⟩) hS2 ?_
        simp only [Act.put, List.getElem_toArray, List.getElem_cons_succ, List.getElem_cons_zero, List.setIfInBounds_toArray, List.set_cons_zero, List.set_cons_succ]
        refine wpAnyT_done (by kernel_rfl) ?_ _
        (try simp only [Act.put, List.getElem_toArray, List.getElem_cons_succ, List.getElem_cons_zero, List.setIfInBounds_toArray, List.set_cons_zero, List.set_cons_succ])
        clear hK1 K1 hK2 K2
        have b56 : Below w5.heap.size w5 w6 := hS2
        clear hS0 hS1 hS2 bb0 bb1
        have H6 := Lib.hid (H5.out.below b56)
        have hT6 : Hid (0 < w6.heap.size) := Lib.hid (by have := htabl.out; have := H6.out.b.size; have h9 : (ofW w1).base.heap.size = w1.heap.size := rfl; omega)
        clear HO1 HO2 d0 d1 d2 gb5 H5 b56 B5
        go_wp2_with (refine wpList_pm_new rfl rfl (fun x => fldA S x.1 x.2.toNat) (by kernel_rfl) ?_; intro w7 hs7 hb7 hP7; refine stop_here ?_)
        obtain ⟨bm, hbm⟩ : ∃ bm, bm = w6.heap.size := ⟨_, rfl⟩
        rw [← hbm] at hP7 ⊢
        replace hbm := Lib.hid hbm
        replace hP7 := Lib.hid hP7
        have HAl := lx_all2 (H6.out.below hb7)
        rw [hS1.out] at HAl
        replace HAl := Lib.hid HAl
        refine go_on ?_
        go_wp2_with fail
        refine HAl.out.mono ?_
        rintro e w8 ⟨A8, c8, rfl, hrd8, hown8, b8⟩
        have b68 := hb7.trans (b8.mono hb7.size)
        have hP8 := Lib.hid (hP7.out.kept b8)
        have hne8 : Hid (∀ k, (Value.slice A8 (sAll S).length c8).ownBlock = some k → k ≠ bm) := Lib.hid fun k e => by have := (hown8 k e).1; have := hbm.out; omega
        have hnd := Lib.hid (all_nodup I.out.toInv0)
        obtain ⟨l, hl⟩ : ∃ l, l = sAll S := ⟨_, rfl⟩
        rw [← hl] at hrd8 hne8 hnd hn4 ⊢
        have hlo : Hid (∀ x ∈ l, mIs S x = true) := Lib.hid fun x hx => (mis_all I.out.toInv0 x).2 (hl ▸ hx)
        have HLd : Hid (∀ (wx : World) (x : Int) (f : Nat), Below w6.heap.size w6 wx → mIs S x = true → f < 2 → Calls Tryz.prog 28 #[.pointer (some ⟨h, 0, none⟩), .int .i64 x, .int .i64 f] wx fun e w' => e = .returned (.tuple #[.int .i64 (fldA S x f), .int .i64 0]) ∧ Below wx.heap.size wx w') := Lib.hid fun wx x f hb hx hf => by
          have hxb := mis_pos I.out.toInv0 hx
          have := lx_load (H6.out.below hb) x f (by omega)
          rw [hS1.out, C.out.load I.out.toInv0 hx hf] at this
          exact this
        replace hl := Lib.hid hl
        replace hrd8 := Lib.hid hrd8
        replace b68 := Lib.hid b68
        clear hown8 HAl hb7 hs7 b8 hP7
        go_wp2_with fail
        go_loopw [83] (fun i wr => ∃ k : Nat, k ≤ l.length ∧ i = .int .i64 k ∧ Hid (∃ n, n ≤ 2 * k ∧ PM wr bm n (prs l k 0) (fun x => fldA S x.1 x.2.toNat)) ∧ Hid (Below w6.heap.size w6 wr) ∧ Hid (Rd i64e wr (.slice A8 l.length c8) l)) (fun i _ => l.length - (intOf i).toNat)
        case atStart => exact ⟨0, by omega, rfl, Lib.hid ⟨0, by omega, hP8.out⟩, b68, hrd8⟩
        case round =>
          clear hP8 b68 hrd8
          obtain ⟨k, hk, rfl, hP, hbr, hrd⟩ := hrel
          by_cases hlt : k < l.length
          · have tk : (k : Int) < (l.length : Int) := by omega
            obtain ⟨bq, oq, hqe, _, hcq⟩ := hrd.out.at_ hlt
            obtain ⟨x, hx⟩ : ∃ x, l[k] = x := ⟨_, rfl⟩
            have hxl : x ∈ l := by rw [← hx]; exact List.getElem_mem hlt
            have hxo := hlo.out x hxl
            have hxb := mis_pos I.out.toInv0 hxo
            have hgd : l.getD k 0 = x := by simp [List.getD, List.getElem?_eq_getElem hlt, hx]
            rw [hx] at hcq
            replace hcq : wr.cell? ⟨bq, oq + k, none⟩ = some (.int .i64 x) := hcq
            subst hqe
            replace hx := Lib.hid hx
            replace hgd := Lib.hid hgd
            replace hxo := Lib.hid hxo
            replace hxl := Lib.hid hxl
            have hP0 : Hid (∃ n, n ≤ 2 * k + 0 ∧ PM wr bm n (prs l k 0) (fun x => fldA S x.1 x.2.toNat)) := hP
            go_wp2_with fail
            go_loopw [87] (fun i wq => ∃ f : Nat, f ≤ 2 ∧ i = .int .i64 f ∧ Hid (∃ n, n ≤ 2 * k + f ∧ PM wq bm n (prs l k f) (fun x => fldA S x.1 x.2.toNat)) ∧ Hid (Below w6.heap.size w6 wq) ∧ Hid (Rd i64e wq (.slice (some ⟨bq, oq, none⟩) l.length c8) l)) (fun i _ => 2 - (intOf i).toNat)
            case atStart => exact ⟨0, by omega, rfl, hP0, hbr, hrd⟩
            case round =>
              clear hP0 hP hbr hrd hcq
              obtain ⟨f, hf, rfl, hPq, hbq, hrdq⟩ := hrel
              by_cases hlf : f < 2
              · have tf : (f : Int) < 2 := by omega
                have HL := Lib.hid (HLd.out _ x f hbq.out hxo.out hlf)
                obtain ⟨y, hy⟩ : ∃ y, y = fldA S x f := ⟨_, rfl⟩
                have hyb := good_bd I.out.toInv0 (C.out.good I.out.toInv0 hxo.out hlf)
                rw [← hy] at HL hyb
                replace hy := Lib.hid hy
                obtain ⟨n, hn, PQ⟩ := hPq.out
                have hn9 : n < maxLen := by unfold maxLen; omega
                have hwp : Hid (wfP (x, (f : Int))) := Lib.hid ⟨wf_i64 ⟨by omega, hxb.2⟩, wf_i64 (by omega)⟩
                have hwc := Lib.hid (wf_i64 hyb)
                go_wp2_with fail
                refine HL.out.mono ?_
                rintro e w10 ⟨rfl, b10⟩
                have P10 := PQ.kept b10
                have bb10 := hbq.out.trans (b10.mono hbq.out.size)
                have hrd10 := hrdq.out.below b10
                clear HL PQ hPq hbq hrdq b10
                go_wp2_with (refine wpList_pm_put rfl (.tmp 91) (.tmp 94) (.tmp 99) rfl P10 rfl hn9 (x, (f : Int)) y rfl rfl hwp.out hwc.out ?_; intro w11 hP11 hg11)
                have hps : addP (prs l k f) (x, (f : Int)) = prs l k (f + 1) := by
                  rw [prs_next, hgd.out]
                  unfold addP
                  rw [if_neg]
                  have := prs_new l hnd.out hlt hlf
                  rw [hgd.out] at this
                  exact this
                have hgg : setG (fun x => fldA S x.1 x.2.toNat) (x, (f : Int)) y = fun x => fldA S x.1 x.2.toNat := by
                  funext z
                  unfold setG
                  by_cases e : z = (x, (f : Int))
                  · rw [if_pos e, e, hy.out]
                    rfl
                  · rw [if_neg e]
                rw [hps, hgg] at hP11
                have hP12 : Hid (∃ n, n ≤ 2 * k + (f + 1) ∧ PM w11 bm n (prs l k (f + 1)) (fun x => fldA S x.1 x.2.toNat)) := Lib.hid ⟨n + 1, by omega, hP11⟩
                have hb12 : Hid (Below w6.heap.size w6 w11) := Lib.hid (bb10.grown hg11 bb10.size (fun k hk => by cases hk; have := hbm.out; omega))
                have hrd12 : Hid (Rd i64e w11 (.slice (some ⟨bq, oq, none⟩) l.length c8) l) := Lib.hid (hrd10.same fun hp k e hlt => hg11.block k hlt fun e2 => hne8.out k e (by injection e2))
                clear hP11 hg11 P10 bb10 hrd10 hps hgg
                go_wp2_with fail
                go_roundw
                case rel => exact ⟨f + 1, by omega, by go_num, hP12, hb12, hrd12⟩
                case measure => simp [intOf]; omega
              · obtain rfl : f = 2 := by omega
                have hP13 : Hid (∃ n, n ≤ 2 * (k + 1) ∧ PM wr bm n (prs l (k + 1) 0) (fun x => fldA S x.1 x.2.toNat)) := Lib.hid (by
                  obtain ⟨n, hn, PQ⟩ := hPq.out
                  rw [prs_two l hlt] at PQ
                  exact ⟨n, by omega, PQ⟩)
                clear hPq
                go_wp2_with fail
                go_roundw
                case rel => exact ⟨k + 1, by omega, by go_num, hP13, hbq, hrdq⟩
                case measure => simp [intOf]; omega
          · obtain rfl : k = l.length := by omega
            obtain ⟨n, hn, PQ⟩ := hP.out
            have HG := H6.out.guard hbr.out
            have c0 := HG.cells.1
            have hbmr := PQ.lt
            have HPt := lx_put HG a (kf : Int) b bar (by omega) (by omega)
            rcases hga.out with ha0 | hao
            · subst ha0
              have e11 := put_zero I.out.toInv0 (T := T1) hS1.out (kf : Int) b bar
              rw [e11] at HPt
              replace HPt := Lib.hid HPt
              clear HG hP PQ hbr hrd e11
              go_wp2_with fail
              refine HPt.out.mono ?_
              rintro e w20 ⟨rfl, H20⟩
              have b20 := Lib.hid (b0.out.trans (Below.mono (b1.out.trans (Below.mono H20.b b1.out.size)) b0.out.size))
              clear HPt H20
              go_wp2_with fail
              go_ret
              exact ⟨rfl, b20.out⟩
            · have hapos := mis_pos I.out.toInv0 hao
              have ya : (a == 0) = false := beq_eq_false_iff_ne.2 (by omega)
              obtain ⟨e0, eS⟩ := put_good I.out.toInv0 C.out A1.out hao hgb.out hk2 bar
              rw [e0] at HPt
              obtain ⟨T9, hT9⟩ : ∃ T9, T9 = (qPut T1 a (kf : Int) b bar).1 := ⟨_, rfl⟩
              rw [← hT9] at HPt eS
              replace HPt := Lib.hid HPt
              replace hT9 := Lib.hid hT9
              have hbmg : Hid (w6.heap.size ≤ bm ∧ bm < wr.heap.size) := Lib.hid ⟨by have := hbm.out; omega, hbmr⟩
              have hn9 : n < maxLen := by unfold maxLen; omega
              have hwp : Hid (wfP (a, (kf : Int))) := Lib.hid ⟨wf_i64 (by omega), wf_i64 (by omega)⟩
              have hwc := Lib.hid (wf_i64 hbb)
              replace PQ := Lib.hid PQ
              replace e0 := Lib.hid e0
              replace eS := Lib.hid eS
              clear HG hP hrd
              rename World => w19
              go_wp2_with fail
              refine HPt.out.mono ?_
              rintro e w20 ⟨rfl, H20⟩
              have P20 := PQ.out.of_block (H20.keeps hbmg.out.1 hbmg.out.2).2
              replace H20 := Lib.hid H20
              clear HPt PQ
              go_wp2_with (refine wpList_pm_put rfl (.tmp 116) (.tmp 119) (.tmp 120) rfl P20 rfl hn9 (a, (kf : Int)) b rfl rfl hwp.out hwc.out ?_; intro w21 hP21 hg21; refine stop_here ?_)
              have H21 := Lib.hid (H6.out.wrote hbr.out H20.out hbmg.out hT6.out hg21 hg21.size)
              have hall : ∀ x : Int × Int, x ∈ prs l l.length 0 ↔ x.1 ∈ l ∧ (x.2 = 0 ∨ x.2 = 1) := fun x => by
                rw [prs_mem l _ (Nat.le_refl _), List.take_length]
              have hps : addP (prs l l.length 0) (a, (kf : Int)) = prs l l.length 0 := by
                unfold addP
                rw [if_pos]
                refine (hall _).2 ⟨by rw [hl.out]; exact (mis_all I.out.toInv0 a).1 hao, ?_⟩
                show (kf : Int) = 0 ∨ (kf : Int) = 1
                omega
              rw [hps] at hP21
              have hval : Hid (∀ x : Int × Int, x ∈ prs l l.length 0 → ∃ f : Nat, f < 2 ∧ x = (x.1, (f : Int)) ∧ mIs S x.1 = true ∧ setG (fun x => fldA S x.1 x.2.toNat) (a, (kf : Int)) b x = fldA (sStore S a kf b) x.1 f) := Lib.hid fun x hx => by
                obtain ⟨h1, h2⟩ := (hall x).1 hx
                have hxo := hlo.out x.1 h1
                refine ⟨x.2.toNat, by omega, Prod.ext rfl (by show x.2 = _; omega), hxo, ?_⟩
                rw [fld_store I.out.toInv0 C.out hao hxo hk2 (by omega)]
                unfold setG
                by_cases e : x = (a, (kf : Int))
                · rw [if_pos e, if_pos ⟨by rw [e], by rw [e]; simp⟩]
                · rw [if_neg e, if_neg fun h => e (Prod.ext h.1 (by show x.2 = (kf : Int); omega))]
              have I' := Lib.hid (show Inv (sStore S a kf b) from store_inv I.out _ _ (by omega))
              have C' := Lib.hid (store_clo I.out C.out a kf hgb.out)
              have hso := Lib.hid (store_objs S a kf b)
              have HLd2 : Hid (∀ (wx : World) (x : Int) (f : Nat), Below w21.heap.size w21 wx → mIs S x = true → f < 2 → Calls Tryz.prog 28 #[.pointer (some ⟨h, 0, none⟩), .int .i64 x, .int .i64 f] wx fun e w' => e = .returned (.tuple #[.int .i64 (fldA (sStore S a kf b) x f), .int .i64 0]) ∧ Below wx.heap.size wx w') := Lib.hid fun wx x f hb hx hf => by
                have hxb := mis_pos I.out.toInv0 hx
                have hx' : mIs (sStore S a kf b) x = true := by
                  obtain ⟨o, ho, e⟩ := (mis_mem I.out.toInv0 x).1 hx
                  exact (mis_mem I'.out.toInv0 x).2 ⟨o, by rw [hso.out]; exact ho, e⟩
                have := lx_load (H21.out.below hb) x f (by omega)
                rw [eS.out, C'.out.load I'.out.toInv0 hx' hf] at this
                exact this
              have hlen9 : Hid ((prs l l.length 0).length = 2 * l.length) := Lib.hid (prs_len l _ (Nat.le_refl _))
              have hAl9 : Hid (sAll T9.S = l) := Lib.hid (by rw [eS.out, hl.out]; unfold sAll; rw [hso.out])
              obtain ⟨n2, hn2⟩ : ∃ n2, n2 = n + 1 := ⟨_, rfl⟩
              rw [← hn2] at hP21
              obtain ⟨PS, hPS⟩ : ∃ PS, PS = prs l l.length 0 := ⟨_, rfl⟩
              rw [← hPS] at hP21 hval hlen9
              obtain ⟨g9, hg9⟩ : ∃ g9, g9 = setG (fun x => fldA S x.1 x.2.toNat) (a, (kf : Int)) b := ⟨_, rfl⟩
              rw [← hg9] at hP21 hval
              replace hg9 := Lib.hid hg9
              replace hPS := Lib.hid hPS
              replace hn2 := Lib.hid hn2
              have P21 := Lib.hid hP21
              clear hP21 hg21 P20 H20 hps hall
              refine go_on ?_
              go_wp2_with (at_range; refine wpList_pm_range rfl (.tmp 121) rfl P21.out rfl ?_; intro w22 cnt hR hb22 hs22)
              go_frame
              obtain ⟨rI, hrI⟩ : ∃ rI, rI = w21.heap.size := ⟨_, rfl⟩
              rw [← hrI] at hR ⊢
              have hR22 := Lib.hid hR
              replace hrI := Lib.hid hrI
              replace hb22 := Lib.hid hb22
              clear hR hs22
              go_loopw [] (fun wq => ∃ cnt, Hid (PR wq bm rI n2 PS g9 cnt) ∧ Hid (Below w21.heap.size w21 wq)) (fun wq => wq.rangeLeft bm rI)
              case atStart => exact ⟨cnt, hR22, hb22⟩
              case round =>
                clear hR22 hb22
                obtain ⟨ct, hR, hbq⟩ := hrel
                go_wp2_with (at_next; refine wpList_pm_next rfl (.tmp 122) rfl hR.out rfl (stop_here ?_) ?_)
                · refine go_on ?_
                  have P23 := Lib.hid (P21.out.of_block (hbq.out.block bm P21.out.lt))
                  have HAl := lx_all (H21.out.below hbq.out)
                  rw [hAl9.out] at HAl
                  replace HAl := Lib.hid HAl
                  clear hR
                  go_wp2_with (refine wpList_wants (by kernel_rfl) fun _ hK => wp_pm_len (.tmp 147) rfl P23.out rfl (hK _ _ ?_))
                  refine HAl.out.mono ?_
                  rintro e w30 ⟨A30, c30, rfl, -, -, b30⟩
                  have hl2 : (PS.length : Int) = 2 * (l.length : Int) := by have := hlen9.out; omega
                  have hw2 : IntKind.i64.wrap (2 * (l.length : Int)) = (PS.length : Int) := by rw [IntKind.wrap_i64]; omega
                  have hbe := Lib.hid (b0.out.trans (Below.mono (b1.out.trans (Below.mono (H21.out.b.trans (Below.mono (hbq.out.trans (b30.mono hbq.out.size)) H21.out.b.size)) b1.out.size)) b0.out.size))
                  replace hl2 := Lib.hid hl2
                  clear HAl P23 hbq b30
                  go_wp2_with fail
                  go_ret
                  exact ⟨rfl, hbe.out⟩
                · intro p f w23 cnt23 hx hwx hR23 hlt23 hg23 hs23 hen
                  have hb23 : Below w21.heap.size w21 w23 := hbq.out.grown hg23 hbq.out.size (fun j e => by cases e; exact Nat.le_of_eq hrI.out.symm)
                  have hlf : Hid (cnt23 < wr.rangeLeft bm rI) := Lib.hid (by rw [hR.out.left]; exact hlt23)
                  obtain ⟨f0, hf0, hxf, hxo, hgx⟩ := hval.out _ hx
                  obtain rfl : f = (f0 : Int) := (Prod.mk.inj hxf).2
                  replace hxo : mIs S p = true := hxo
                  have hxb := mis_pos I.out.toInv0 hxo
                  obtain ⟨y, hy⟩ : ∃ y, y = g9 (p, (f0 : Int)) := ⟨_, rfl⟩
                  rw [← hy] at hen hgx ⊢
                  replace hgx : y = fldA (sStore S a kf b) p f0 := hgx
                  replace hy := Lib.hid hy
                  replace hgx := Lib.hid hgx
                  replace hR23 := Lib.hid hR23
                  replace hxo := Lib.hid hxo
                  clear hx hwx hlt23 hg23 hs23 hxf hR hbq
                  go_wp2_with (first
                    | (refine wpList_new rfl (.alloc 69) rfl w23.heap.size rfl 69 #[.int .i64 0, .int .i64 0] (by kernel_rfl) ?_; intro w24 hs24 hb24 hB24; have HB24 := Lib.hid hB24; clear hB24)
                    | (refine wpList_store_blk rfl 69 (.tmp 20) (.tmp 126) rfl w23.heap.size rfl #[.int .i64 p, .int .i64 f0] rfl 69 #[.int .i64 0, .int .i64 0] HB24.out (by kernel_rfl) rfl (by simp [Value.oneCell']) ?_; intro w25 hB25 hg25 hs25; refine stop_here ?_))
                  have hb25 : Below w23.heap.size w23 w25 := hb24.grown hg25 hb24.size (fun k hk => by cases hk; exact Nat.le_refl _)
                  have hR25 := Lib.hid (hR23.out.kept hb25)
                  have hbb25 := Lib.hid (hb23.trans (hb25.mono hb23.size))
                  obtain ⟨gA, hgA⟩ : ∃ gA, gA = w23.heap.size := ⟨_, rfl⟩
                  rw [← hgA] at hB25 ⊢
                  have v0 : w25.cell? ⟨gA, 0, none⟩ = some (.int .i64 p) := hB25.cell 0
                  have v1 : w25.cell? ⟨gA, 1, none⟩ = some (.int .i64 f0) := hB25.cell 1
                  have HL := HLd2.out w25 p f0 hbb25.out hxo.out hf0
                  rw [← hgx.out] at HL
                  replace HL := Lib.hid HL
                  replace hgA := Lib.hid hgA
                  clear HB24 hg25 hs25 hs24 hb24 hb25 hb23 hR23 hB25 hen
                  refine go_on ?_
                  go_wp2_with fail
                  refine HL.out.mono ?_
                  rintro e w26 ⟨rfl, b26⟩
                  have hR26 := Lib.hid (hR25.out.kept b26)
                  have hb26 := Lib.hid (hbb25.out.trans (b26.mono hbb25.out.size))
                  have hlf26 : Hid (w26.rangeLeft bm rI < wr.rangeLeft bm rI) := Lib.hid (by rw [hR26.out.left]; exact hlf.out)
                  clear HL b26 hR25 hbb25 v0 v1
                  go_wp2_with fail
                  go_roundw
                  case rel => exact ⟨cnt23, hR26, hb26⟩
                  case measure => exact hlf26.out
      · have to2 : x2.tmod 2 = 1 := by rw [Int.tmod_eq_emod_of_nonneg hx2.1]; omega
        replace hev := Lib.hid hev
        go_wp2_with fail
        go_quiet (fail)
        have hT1 : Hid (∃ T1 r1, LX (ofW w1) (w4.drewN nq) q s h m T1 D ∧ All1 S T1 r1) := Lib.hid ⟨T, 0, H1.out.below (below_drewN (Below.refl _ _) _), AO.out⟩
        generalize w4.drewN nq = w5 at hT1 ⊢
        clear A0 H1 eb0 AO hS O1 c0 d2 to2
        obtain ⟨T1, r1, H5x, A1⟩ := hT1.out
        have H5 := Lib.hid H5x
        have hS1 := A1.s
        obtain ⟨kf, hkf⟩ : ∃ kf : Nat, x2 % 2 = (kf : Int) := ⟨(x2 % 2).toNat, by omega⟩
        have hk2 : kf < 2 := by omega
        have wx2 := Lib.hid (show IntKind.i64.wrap x2 = x2 by rw [IntKind.wrap_i64]; omega)
        have tx2 := Lib.hid (show x2.tmod 2 = (kf : Int) from (Int.tmod_eq_emod_of_nonneg hx2.1).trans hkf)
        have B5 := Lib.hid (BA.out.below H5x.b gbl)
        have d0 : w5.cell? ⟨gB, 0, none⟩ = some (.int .u8 x0) := B5.out.cell 0
        have d1 : w5.cell? ⟨gB, 1, none⟩ = some (.int .u8 x1) := B5.out.cell 1
        have d2 : w5.cell? ⟨gB, 2, none⟩ = some (.int .u8 x2) := B5.out.cell 2
        have gb5 := B5.out.lt
        obtain ⟨a, ha⟩ : ∃ a, objN S x0 = a := ⟨_, rfl⟩
        obtain ⟨b, hb⟩ : ∃ b, objN S x1 = b := ⟨_, rfl⟩
        have hga := objN_good I.out.toInv0 x0
        have hgb := objN_good I.out.toInv0 x1
        rw [ha] at hga
        rw [hb] at hgb
        have hab := good_bd I.out.toInv0 hga
        have hbb := good_bd I.out.toInv0 hgb
        have HO1 := Lib.hid fun wx (hbx : Below w5.heap.size w5 wx) => lx_object (H5x.below hbx) x0 hx0
        have HO2 := Lib.hid fun wx (hbx : Below w5.heap.size w5 wx) => lx_object (H5x.below hbx) x1 hx1
        rw [hS1, ha] at HO1
        rw [hS1, hb] at HO2
        replace ha := Lib.hid ha
        replace hb := Lib.hid hb
        replace hga := Lib.hid hga
        replace hgb := Lib.hid hgb
        replace A1 := Lib.hid A1
        replace hS1 := Lib.hid hS1
        replace hkf := Lib.hid hkf
        clear H5x hT1
        go_wp2_with fail
        have hS0 : (fun X : World => Below w5.heap.size w5 X) w5.drew := (Below.refl _ _).drew
        refine wp_T (by kernel_rfl) 15 (fun X : World => Below w5.heap.size w5 X) ?_
        refine wpAnyT_takeA (i := 0) (v := .pointer (some ⟨q, 0, none⟩)) rfl (by kernel_rfl) rfl (fun _ _ _ hp => hp) (Or.inl ⟨by kernel_rfl, fun X _ => by go_simp⟩) hS0 ?_
        simp only [Act.put, List.getElem_toArray, List.getElem_cons_succ, List.getElem_cons_zero, List.setIfInBounds_toArray, List.set_cons_zero, List.set_cons_succ]
        refine wpAnyT_takeA (i := 1) (v := .pointer (some ⟨gB, 0, none⟩)) rfl (by kernel_rfl) rfl (fun _ _ _ hp => hp) (Or.inl ⟨by kernel_rfl, fun X _ => by go_simp⟩) hS0 ?_
        simp only [Act.put, List.getElem_toArray, List.getElem_cons_succ, List.getElem_cons_zero, List.setIfInBounds_toArray, List.set_cons_zero, List.set_cons_succ]
        refine wpAnyT_takeA (i := 2) (v := .int .u8 x0) rfl (by kernel_rfl) rfl (fun _ _ _ hp => hp) (Or.inl ⟨by kernel_rfl, fun X hX => by have hX1 : (fun X : World => Below w5.heap.size w5 X) X := hX; have y1 := (Below.cell (p := ⟨gB, 0, none⟩) hX1 gb5).trans d0; go_simp⟩) hS0 ?_
        simp only [Act.put, List.getElem_toArray, List.getElem_cons_succ, List.getElem_cons_zero, List.setIfInBounds_toArray, List.set_cons_zero, List.set_cons_succ]
        refine wpAnyT_takeA (i := 4) (v := .pointer (some ⟨q, 0, none⟩)) rfl (by kernel_rfl) rfl (fun _ _ _ hp => hp) (Or.inl ⟨by kernel_rfl, fun X _ => by go_simp⟩) hS0 ?_
        simp only [Act.put, List.getElem_toArray, List.getElem_cons_succ, List.getElem_cons_zero, List.setIfInBounds_toArray, List.set_cons_zero, List.set_cons_succ]
        refine wpAnyT_takeA (i := 5) (v := .pointer (some ⟨gB, 1, none⟩)) rfl (by kernel_rfl) rfl (fun _ _ _ hp => hp) (Or.inl ⟨by kernel_rfl, fun X _ => by go_simp⟩) hS0 ?_
        simp only [Act.put, List.getElem_toArray, List.getElem_cons_succ, List.getElem_cons_zero, List.setIfInBounds_toArray, List.set_cons_zero, List.set_cons_succ]
        refine wpAnyT_takeA (i := 6) (v := .int .u8 x1) rfl (by kernel_rfl) rfl (fun _ _ _ hp => hp) (Or.inl ⟨by kernel_rfl, fun X hX => by have hX1 : (fun X : World => Below w5.heap.size w5 X) X := hX; have y1 := (Below.cell (p := ⟨gB, 1, none⟩) hX1 gb5).trans d1; go_simp⟩) hS0 ?_
        simp only [Act.put, List.getElem_toArray, List.getElem_cons_succ, List.getElem_cons_zero, List.setIfInBounds_toArray, List.set_cons_zero, List.set_cons_succ]
        refine wpAnyT_takeA (i := 8) (v := .pointer (some ⟨gB, 2, none⟩)) rfl (by kernel_rfl) rfl (fun _ _ _ hp => hp) (Or.inl ⟨by kernel_rfl, fun X _ => by go_simp⟩) hS0 ?_
        simp only [Act.put, List.getElem_toArray, List.getElem_cons_succ, List.getElem_cons_zero, List.setIfInBounds_toArray, List.set_cons_zero, List.set_cons_succ]
        refine wpAnyT_takeA (i := 9) (v := .int .u8 x2) rfl (by kernel_rfl) rfl (fun _ _ _ hp => hp) (Or.inl ⟨by kernel_rfl, fun X hX => by have hX1 : (fun X : World => Below w5.heap.size w5 X) X := hX; have y1 := (Below.cell (p := ⟨gB, 2, none⟩) hX1 gb5).trans d2; go_simp⟩) hS0 ?_
        simp only [Act.put, List.getElem_toArray, List.getElem_cons_succ, List.getElem_cons_zero, List.setIfInBounds_toArray, List.set_cons_zero, List.set_cons_succ]
        refine wpAnyT_takeA (i := 10) (v := .int .i64 x2) rfl (by kernel_rfl) rfl (fun _ _ _ hp => hp) (Or.inl ⟨by kernel_rfl, fun X _ => by have wx2z := wx2.out; go_simp⟩) hS0 ?_
        simp only [Act.put, List.getElem_toArray, List.getElem_cons_succ, List.getElem_cons_zero, List.setIfInBounds_toArray, List.set_cons_zero, List.set_cons_succ]
        refine wpAnyT_takeA (i := 11) (v := .int .i64 (kf : Int)) rfl (by kernel_rfl) rfl (fun _ _ _ hp => hp) (Or.inl ⟨by kernel_rfl, fun X _ => by have tx2z := tx2.out; go_simp⟩) hS0 ?_
        simp only [Act.put, List.getElem_toArray, List.getElem_cons_succ, List.getElem_cons_zero, List.setIfInBounds_toArray, List.set_cons_zero, List.set_cons_succ]
        refine wpAnyT_one (i := 3) rfl (by kernel_rfl) (by kernel_rfl) ?_
        intro K1 hK1
        go_simp
        refine (HO1.out _ hS0).mono ?_
        rintro e w6a ⟨rfl, bb0⟩
        dsimp only
        have hS1 : (fun X : World => Below w5.heap.size w5 X) w6a := Below.trans hS0 (Below.mono bb0 (Below.size hS0))
        refine hK1.out _ _ (fun _ => hS1) ?_
        (try simp only [Act.put, List.getElem_toArray, List.getElem_cons_succ, List.getElem_cons_zero, List.setIfInBounds_toArray, List.set_cons_zero, List.set_cons_succ])
        refine wpAnyT_one (i := 7) rfl (by kernel_rfl) (by kernel_rfl) ?_
        intro K2 hK2
        go_simp
        refine (HO2.out _ hS1).mono ?_
        rintro e w6 ⟨rfl, bb1⟩
        dsimp only
        have hS2 : (fun X : World => Below w5.heap.size w5 X) w6 := Below.trans hS1 (Below.mono bb1 (Below.size hS1))
        refine hK2.out _ _ (fun _ => hS2) ?_
        (try simp only [Act.put, List.getElem_toArray, List.getElem_cons_succ, List.getElem_cons_zero, List.setIfInBounds_toArray, List.set_cons_zero, List.set_cons_succ])
        refine wpAnyT_takeA (i := 12) (v := .int .i64 a) rfl (by kernel_rfl) rfl (fun _ _ _ hp => hp) (Or.inl ⟨by kernel_rfl, fun X _ => by go_simp⟩) hS2 ?_
        simp only [Act.put, List.getElem_toArray, List.getElem_cons_succ, List.getElem_cons_zero, List.setIfInBounds_toArray, List.set_cons_zero, List.set_cons_succ]
        refine wpAnyT_takeA (i := 13) (v := .int .i64 b) rfl (by kernel_rfl) rfl (fun _ _ _ hp => hp) (Or.inl ⟨by kernel_rfl, fun X _ => by go_simp⟩) hS2 ?_
        simp only [Act.put, List.getElem_toArray, List.getElem_cons_succ, List.getElem_cons_zero, List.setIfInBounds_toArray, List.set_cons_zero, List.set_cons_succ]
        refine wpAnyT_takeA (i := 14) (v := .int .i64 (kf : Int)) rfl (by kernel_rfl) rfl (fun _ _ _ hp => hp) (Or.inl ⟨by kernel_rfl, fun X _ => by go_simp⟩) hS2 ?_
        simp only [Act.put, List.getElem_toArray, List.getElem_cons_succ, List.getElem_cons_zero, List.setIfInBounds_toArray, List.set_cons_zero, List.set_cons_succ]
        refine wpAnyT_done (by kernel_rfl) ?_ _
        (try simp only [Act.put, List.getElem_toArray, List.getElem_cons_succ, List.getElem_cons_zero, List.setIfInBounds_toArray, List.set_cons_zero, List.set_cons_succ])
        clear hK1 K1 hK2 K2
        have b56 : Below w5.heap.size w5 w6 := hS2
        clear hS0 hS1 hS2 bb0 bb1
        have H6 := Lib.hid (H5.out.below b56)
        have hT6 : Hid (0 < w6.heap.size) := Lib.hid (by have := htabl.out; have := H6.out.b.size; have h9 : (ofW w1).base.heap.size = w1.heap.size := rfl; omega)
        clear HO1 HO2 d0 d1 d2 gb5 H5 b56 B5
        go_wp2_with (refine wpList_pm_new rfl rfl (fun x => fldA S x.1 x.2.toNat) (by kernel_rfl) ?_; intro w7 hs7 hb7 hP7; refine stop_here ?_)
        obtain ⟨bm, hbm⟩ : ∃ bm, bm = w6.heap.size := ⟨_, rfl⟩
        rw [← hbm] at hP7 ⊢
        replace hbm := Lib.hid hbm
        replace hP7 := Lib.hid hP7
        have HAl := lx_all2 (H6.out.below hb7)
        rw [hS1.out] at HAl
        replace HAl := Lib.hid HAl
        refine go_on ?_
        go_wp2_with fail
        refine HAl.out.mono ?_
        rintro e w8 ⟨A8, c8, rfl, hrd8, hown8, b8⟩
        have b68 := hb7.trans (b8.mono hb7.size)
        have hP8 := Lib.hid (hP7.out.kept b8)
        have hne8 : Hid (∀ k, (Value.slice A8 (sAll S).length c8).ownBlock = some k → k ≠ bm) := Lib.hid fun k e => by have := (hown8 k e).1; have := hbm.out; omega
        have hnd := Lib.hid (all_nodup I.out.toInv0)
        obtain ⟨l, hl⟩ : ∃ l, l = sAll S := ⟨_, rfl⟩
        rw [← hl] at hrd8 hne8 hnd hn4 ⊢
        have hlo : Hid (∀ x ∈ l, mIs S x = true) := Lib.hid fun x hx => (mis_all I.out.toInv0 x).2 (hl ▸ hx)
        have HLd : Hid (∀ (wx : World) (x : Int) (f : Nat), Below w6.heap.size w6 wx → mIs S x = true → f < 2 → Calls Tryz.prog 28 #[.pointer (some ⟨h, 0, none⟩), .int .i64 x, .int .i64 f] wx fun e w' => e = .returned (.tuple #[.int .i64 (fldA S x f), .int .i64 0]) ∧ Below wx.heap.size wx w') := Lib.hid fun wx x f hb hx hf => by
          have hxb := mis_pos I.out.toInv0 hx
          have := lx_load (H6.out.below hb) x f (by omega)
          rw [hS1.out, C.out.load I.out.toInv0 hx hf] at this
          exact this
        replace hl := Lib.hid hl
        replace hrd8 := Lib.hid hrd8
        replace b68 := Lib.hid b68
        clear hown8 HAl hb7 hs7 b8 hP7
        go_wp2_with fail
        go_loopw [83] (fun i wr => ∃ k : Nat, k ≤ l.length ∧ i = .int .i64 k ∧ Hid (∃ n, n ≤ 2 * k ∧ PM wr bm n (prs l k 0) (fun x => fldA S x.1 x.2.toNat)) ∧ Hid (Below w6.heap.size w6 wr) ∧ Hid (Rd i64e wr (.slice A8 l.length c8) l)) (fun i _ => l.length - (intOf i).toNat)
        case atStart => exact ⟨0, by omega, rfl, Lib.hid ⟨0, by omega, hP8.out⟩, b68, hrd8⟩
        case round =>
          clear hP8 b68 hrd8
          obtain ⟨k, hk, rfl, hP, hbr, hrd⟩ := hrel
          by_cases hlt : k < l.length
          · have tk : (k : Int) < (l.length : Int) := by omega
            obtain ⟨bq, oq, hqe, _, hcq⟩ := hrd.out.at_ hlt
            obtain ⟨x, hx⟩ : ∃ x, l[k] = x := ⟨_, rfl⟩
            have hxl : x ∈ l := by rw [← hx]; exact List.getElem_mem hlt
            have hxo := hlo.out x hxl
            have hxb := mis_pos I.out.toInv0 hxo
            have hgd : l.getD k 0 = x := by simp [List.getD, List.getElem?_eq_getElem hlt, hx]
            rw [hx] at hcq
            replace hcq : wr.cell? ⟨bq, oq + k, none⟩ = some (.int .i64 x) := hcq
            subst hqe
            replace hx := Lib.hid hx
            replace hgd := Lib.hid hgd
            replace hxo := Lib.hid hxo
            replace hxl := Lib.hid hxl
            have hP0 : Hid (∃ n, n ≤ 2 * k + 0 ∧ PM wr bm n (prs l k 0) (fun x => fldA S x.1 x.2.toNat)) := hP
            go_wp2_with fail
            go_loopw [87] (fun i wq => ∃ f : Nat, f ≤ 2 ∧ i = .int .i64 f ∧ Hid (∃ n, n ≤ 2 * k + f ∧ PM wq bm n (prs l k f) (fun x => fldA S x.1 x.2.toNat)) ∧ Hid (Below w6.heap.size w6 wq) ∧ Hid (Rd i64e wq (.slice (some ⟨bq, oq, none⟩) l.length c8) l)) (fun i _ => 2 - (intOf i).toNat)
            case atStart => exact ⟨0, by omega, rfl, hP0, hbr, hrd⟩
            case round =>
              clear hP0 hP hbr hrd hcq
              obtain ⟨f, hf, rfl, hPq, hbq, hrdq⟩ := hrel
              by_cases hlf : f < 2
              · have tf : (f : Int) < 2 := by omega
                have HL := Lib.hid (HLd.out _ x f hbq.out hxo.out hlf)
                obtain ⟨y, hy⟩ : ∃ y, y = fldA S x f := ⟨_, rfl⟩
                have hyb := good_bd I.out.toInv0 (C.out.good I.out.toInv0 hxo.out hlf)
                rw [← hy] at HL hyb
                replace hy := Lib.hid hy
                obtain ⟨n, hn, PQ⟩ := hPq.out
                have hn9 : n < maxLen := by unfold maxLen; omega
                have hwp : Hid (wfP (x, (f : Int))) := Lib.hid ⟨wf_i64 ⟨by omega, hxb.2⟩, wf_i64 (by omega)⟩
                have hwc := Lib.hid (wf_i64 hyb)
                go_wp2_with fail
                refine HL.out.mono ?_
                rintro e w10 ⟨rfl, b10⟩
                have P10 := PQ.kept b10
                have bb10 := hbq.out.trans (b10.mono hbq.out.size)
                have hrd10 := hrdq.out.below b10
                clear HL PQ hPq hbq hrdq b10
                go_wp2_with (refine wpList_pm_put rfl (.tmp 91) (.tmp 94) (.tmp 99) rfl P10 rfl hn9 (x, (f : Int)) y rfl rfl hwp.out hwc.out ?_; intro w11 hP11 hg11)
                have hps : addP (prs l k f) (x, (f : Int)) = prs l k (f + 1) := by
                  rw [prs_next, hgd.out]
                  unfold addP
                  rw [if_neg]
                  have := prs_new l hnd.out hlt hlf
                  rw [hgd.out] at this
                  exact this
                have hgg : setG (fun x => fldA S x.1 x.2.toNat) (x, (f : Int)) y = fun x => fldA S x.1 x.2.toNat := by
                  funext z
                  unfold setG
                  by_cases e : z = (x, (f : Int))
                  · rw [if_pos e, e, hy.out]
                    rfl
                  · rw [if_neg e]
                rw [hps, hgg] at hP11
                have hP12 : Hid (∃ n, n ≤ 2 * k + (f + 1) ∧ PM w11 bm n (prs l k (f + 1)) (fun x => fldA S x.1 x.2.toNat)) := Lib.hid ⟨n + 1, by omega, hP11⟩
                have hb12 : Hid (Below w6.heap.size w6 w11) := Lib.hid (bb10.grown hg11 bb10.size (fun k hk => by cases hk; have := hbm.out; omega))
                have hrd12 : Hid (Rd i64e w11 (.slice (some ⟨bq, oq, none⟩) l.length c8) l) := Lib.hid (hrd10.same fun hp k e hlt => hg11.block k hlt fun e2 => hne8.out k e (by injection e2))
                clear hP11 hg11 P10 bb10 hrd10 hps hgg
                go_wp2_with fail
                go_roundw
                case rel => exact ⟨f + 1, by omega, by go_num, hP12, hb12, hrd12⟩
                case measure => simp [intOf]; omega
              · obtain rfl : f = 2 := by omega
                have hP13 : Hid (∃ n, n ≤ 2 * (k + 1) ∧ PM wr bm n (prs l (k + 1) 0) (fun x => fldA S x.1 x.2.toNat)) := Lib.hid (by
                  obtain ⟨n, hn, PQ⟩ := hPq.out
                  rw [prs_two l hlt] at PQ
                  exact ⟨n, by omega, PQ⟩)
                clear hPq
                go_wp2_with fail
                go_roundw
                case rel => exact ⟨k + 1, by omega, by go_num, hP13, hbq, hrdq⟩
                case measure => simp [intOf]; omega
          · obtain rfl : k = l.length := by omega
            obtain ⟨n, hn, PQ⟩ := hP.out
            have HG := H6.out.guard hbr.out
            have c0 := HG.cells.1
            have hbmr := PQ.lt
            have HPt := lx_put HG a (kf : Int) b bar (by omega) (by omega)
            rcases hga.out with ha0 | hao
            · subst ha0
              have e11 := put_zero I.out.toInv0 (T := T1) hS1.out (kf : Int) b bar
              rw [e11] at HPt
              replace HPt := Lib.hid HPt
              clear HG hP PQ hbr hrd e11
              go_wp2_with fail
              refine HPt.out.mono ?_
              rintro e w20 ⟨rfl, H20⟩
              have b20 := Lib.hid (b0.out.trans (Below.mono (b1.out.trans (Below.mono H20.b b1.out.size)) b0.out.size))
              clear HPt H20
              go_wp2_with fail
              go_ret
              exact ⟨rfl, b20.out⟩
            · have hapos := mis_pos I.out.toInv0 hao
              have ya : (a == 0) = false := beq_eq_false_iff_ne.2 (by omega)
              obtain ⟨e0, eS⟩ := put_good I.out.toInv0 C.out A1.out hao hgb.out hk2 bar
              rw [e0] at HPt
              obtain ⟨T9, hT9⟩ : ∃ T9, T9 = (qPut T1 a (kf : Int) b bar).1 := ⟨_, rfl⟩
              rw [← hT9] at HPt eS
              replace HPt := Lib.hid HPt
              replace hT9 := Lib.hid hT9
              have hbmg : Hid (w6.heap.size ≤ bm ∧ bm < wr.heap.size) := Lib.hid ⟨by have := hbm.out; omega, hbmr⟩
              have hn9 : n < maxLen := by unfold maxLen; omega
              have hwp : Hid (wfP (a, (kf : Int))) := Lib.hid ⟨wf_i64 (by omega), wf_i64 (by omega)⟩
              have hwc := Lib.hid (wf_i64 hbb)
              replace PQ := Lib.hid PQ
              replace e0 := Lib.hid e0
              replace eS := Lib.hid eS
              clear HG hP hrd
              rename World => w19
              go_wp2_with fail
              refine HPt.out.mono ?_
              rintro e w20 ⟨rfl, H20⟩
              have P20 := PQ.out.of_block (H20.keeps hbmg.out.1 hbmg.out.2).2
              replace H20 := Lib.hid H20
              clear HPt PQ
              go_wp2_with (refine wpList_pm_put rfl (.tmp 116) (.tmp 119) (.tmp 120) rfl P20 rfl hn9 (a, (kf : Int)) b rfl rfl hwp.out hwc.out ?_; intro w21 hP21 hg21; refine stop_here ?_)
              have H21 := Lib.hid (H6.out.wrote hbr.out H20.out hbmg.out hT6.out hg21 hg21.size)
              have hall : ∀ x : Int × Int, x ∈ prs l l.length 0 ↔ x.1 ∈ l ∧ (x.2 = 0 ∨ x.2 = 1) := fun x => by
                rw [prs_mem l _ (Nat.le_refl _), List.take_length]
              have hps : addP (prs l l.length 0) (a, (kf : Int)) = prs l l.length 0 := by
                unfold addP
                rw [if_pos]
                refine (hall _).2 ⟨by rw [hl.out]; exact (mis_all I.out.toInv0 a).1 hao, ?_⟩
                show (kf : Int) = 0 ∨ (kf : Int) = 1
                omega
              rw [hps] at hP21
              have hval : Hid (∀ x : Int × Int, x ∈ prs l l.length 0 → ∃ f : Nat, f < 2 ∧ x = (x.1, (f : Int)) ∧ mIs S x.1 = true ∧ setG (fun x => fldA S x.1 x.2.toNat) (a, (kf : Int)) b x = fldA (sStore S a kf b) x.1 f) := Lib.hid fun x hx => by
                obtain ⟨h1, h2⟩ := (hall x).1 hx
                have hxo := hlo.out x.1 h1
                refine ⟨x.2.toNat, by omega, Prod.ext rfl (by show x.2 = _; omega), hxo, ?_⟩
                rw [fld_store I.out.toInv0 C.out hao hxo hk2 (by omega)]
                unfold setG
                by_cases e : x = (a, (kf : Int))
                · rw [if_pos e, if_pos ⟨by rw [e], by rw [e]; simp⟩]
                · rw [if_neg e, if_neg fun h => e (Prod.ext h.1 (by show x.2 = (kf : Int); omega))]
              have I' := Lib.hid (show Inv (sStore S a kf b) from store_inv I.out _ _ (by omega))
              have C' := Lib.hid (store_clo I.out C.out a kf hgb.out)
              have hso := Lib.hid (store_objs S a kf b)
              have HLd2 : Hid (∀ (wx : World) (x : Int) (f : Nat), Below w21.heap.size w21 wx → mIs S x = true → f < 2 → Calls Tryz.prog 28 #[.pointer (some ⟨h, 0, none⟩), .int .i64 x, .int .i64 f] wx fun e w' => e = .returned (.tuple #[.int .i64 (fldA (sStore S a kf b) x f), .int .i64 0]) ∧ Below wx.heap.size wx w') := Lib.hid fun wx x f hb hx hf => by
                have hxb := mis_pos I.out.toInv0 hx
                have hx' : mIs (sStore S a kf b) x = true := by
                  obtain ⟨o, ho, e⟩ := (mis_mem I.out.toInv0 x).1 hx
                  exact (mis_mem I'.out.toInv0 x).2 ⟨o, by rw [hso.out]; exact ho, e⟩
                have := lx_load (H21.out.below hb) x f (by omega)
                rw [eS.out, C'.out.load I'.out.toInv0 hx' hf] at this
                exact this
              have hlen9 : Hid ((prs l l.length 0).length = 2 * l.length) := Lib.hid (prs_len l _ (Nat.le_refl _))
              have hAl9 : Hid (sAll T9.S = l) := Lib.hid (by rw [eS.out, hl.out]; unfold sAll; rw [hso.out])
              obtain ⟨n2, hn2⟩ : ∃ n2, n2 = n + 1 := ⟨_, rfl⟩
              rw [← hn2] at hP21
              obtain ⟨PS, hPS⟩ : ∃ PS, PS = prs l l.length 0 := ⟨_, rfl⟩
              rw [← hPS] at hP21 hval hlen9
              obtain ⟨g9, hg9⟩ : ∃ g9, g9 = setG (fun x => fldA S x.1 x.2.toNat) (a, (kf : Int)) b := ⟨_, rfl⟩
              rw [← hg9] at hP21 hval
              replace hg9 := Lib.hid hg9
              replace hPS := Lib.hid hPS
              replace hn2 := Lib.hid hn2
              have P21 := Lib.hid hP21
              clear hP21 hg21 P20 H20 hps hall
              refine go_on ?_
              go_wp2_with (at_range; refine wpList_pm_range rfl (.tmp 121) rfl P21.out rfl ?_; intro w22 cnt hR hb22 hs22)
              go_frame
              obtain ⟨rI, hrI⟩ : ∃ rI, rI = w21.heap.size := ⟨_, rfl⟩
              rw [← hrI] at hR ⊢
              have hR22 := Lib.hid hR
              replace hrI := Lib.hid hrI
              replace hb22 := Lib.hid hb22
              clear hR hs22
              go_loopw [] (fun wq => ∃ cnt, Hid (PR wq bm rI n2 PS g9 cnt) ∧ Hid (Below w21.heap.size w21 wq)) (fun wq => wq.rangeLeft bm rI)
              case atStart => exact ⟨cnt, hR22, hb22⟩
              case round =>
                clear hR22 hb22
                obtain ⟨ct, hR, hbq⟩ := hrel
                go_wp2_with (at_next; refine wpList_pm_next rfl (.tmp 122) rfl hR.out rfl (stop_here ?_) ?_)
                · refine go_on ?_
                  have P23 := Lib.hid (P21.out.of_block (hbq.out.block bm P21.out.lt))
                  have HAl := lx_all (H21.out.below hbq.out)
                  rw [hAl9.out] at HAl
                  replace HAl := Lib.hid HAl
                  clear hR
                  go_wp2_with (refine wpList_wants (by kernel_rfl) fun _ hK => wp_pm_len (.tmp 147) rfl P23.out rfl (hK _ _ ?_))
                  refine HAl.out.mono ?_
                  rintro e w30 ⟨A30, c30, rfl, -, -, b30⟩
                  have hl2 : (PS.length : Int) = 2 * (l.length : Int) := by have := hlen9.out; omega
                  have hw2 : IntKind.i64.wrap (2 * (l.length : Int)) = (PS.length : Int) := by rw [IntKind.wrap_i64]; omega
                  have hbe := Lib.hid (b0.out.trans (Below.mono (b1.out.trans (Below.mono (H21.out.b.trans (Below.mono (hbq.out.trans (b30.mono hbq.out.size)) H21.out.b.size)) b1.out.size)) b0.out.size))
                  replace hl2 := Lib.hid hl2
                  clear HAl P23 hbq b30
                  go_wp2_with fail
                  go_ret
                  exact ⟨rfl, hbe.out⟩
                · intro p f w23 cnt23 hx hwx hR23 hlt23 hg23 hs23 hen
                  have hb23 : Below w21.heap.size w21 w23 := hbq.out.grown hg23 hbq.out.size (fun j e => by cases e; exact Nat.le_of_eq hrI.out.symm)
                  have hlf : Hid (cnt23 < wr.rangeLeft bm rI) := Lib.hid (by rw [hR.out.left]; exact hlt23)
                  obtain ⟨f0, hf0, hxf, hxo, hgx⟩ := hval.out _ hx
                  obtain rfl : f = (f0 : Int) := (Prod.mk.inj hxf).2
                  replace hxo : mIs S p = true := hxo
                  have hxb := mis_pos I.out.toInv0 hxo
                  obtain ⟨y, hy⟩ : ∃ y, y = g9 (p, (f0 : Int)) := ⟨_, rfl⟩
                  rw [← hy] at hen hgx ⊢
                  replace hgx : y = fldA (sStore S a kf b) p f0 := hgx
                  replace hy := Lib.hid hy
                  replace hgx := Lib.hid hgx
                  replace hR23 := Lib.hid hR23
                  replace hxo := Lib.hid hxo
                  clear hx hwx hlt23 hg23 hs23 hxf hR hbq
                  go_wp2_with (first
                    | (refine wpList_new rfl (.alloc 69) rfl w23.heap.size rfl 69 #[.int .i64 0, .int .i64 0] (by kernel_rfl) ?_; intro w24 hs24 hb24 hB24; have HB24 := Lib.hid hB24; clear hB24)
                    | (refine wpList_store_blk rfl 69 (.tmp 20) (.tmp 126) rfl w23.heap.size rfl #[.int .i64 p, .int .i64 f0] rfl 69 #[.int .i64 0, .int .i64 0] HB24.out (by kernel_rfl) rfl (by simp [Value.oneCell']) ?_; intro w25 hB25 hg25 hs25; refine stop_here ?_))
                  have hb25 : Below w23.heap.size w23 w25 := hb24.grown hg25 hb24.size (fun k hk => by cases hk; exact Nat.le_refl _)
                  have hR25 := Lib.hid (hR23.out.kept hb25)
                  have hbb25 := Lib.hid (hb23.trans (hb25.mono hb23.size))
                  obtain ⟨gA, hgA⟩ : ∃ gA, gA = w23.heap.size := ⟨_, rfl⟩
                  rw [← hgA] at hB25 ⊢
                  have v0 : w25.cell? ⟨gA, 0, none⟩ = some (.int .i64 p) := hB25.cell 0
                  have v1 : w25.cell? ⟨gA, 1, none⟩ = some (.int .i64 f0) := hB25.cell 1
                  have HL := HLd2.out w25 p f0 hbb25.out hxo.out hf0
                  rw [← hgx.out] at HL
                  replace HL := Lib.hid HL
                  replace hgA := Lib.hid hgA
                  clear HB24 hg25 hs25 hs24 hb24 hb25 hb23 hR23 hB25 hen
                  refine go_on ?_
                  go_wp2_with fail
                  refine HL.out.mono ?_
                  rintro e w26 ⟨rfl, b26⟩
                  have hR26 := Lib.hid (hR25.out.kept b26)
                  have hb26 := Lib.hid (hbb25.out.trans (b26.mono hbb25.out.size))
                  have hlf26 : Hid (w26.rangeLeft bm rI < wr.rangeLeft bm rI) := Lib.hid (by rw [hR26.out.left]; exact hlf.out)
                  clear HL b26 hR25 hbb25 v0 v1
                  go_wp2_with fail
                  go_roundw
                  case rel => exact ⟨cnt23, hR26, hb26⟩
                  case measure => exact hlf26.out
end Go.Proofs.YtcaboknbdamlhaaGreatDoor
namespace Go.Proofs.YtcaboknbdamlhaaGreatDoor
open Go.ChangeShapes Go.WideShapes Go.ChangeAt Go.RowKit
section
variable {H : Type} {enc : TypeId × Value → H} {P : Program} {w : World} {base : Nat} {spare : Nat → Bool} {held : Bool}
theorem open_ints3 {r : Reach} {b0 : Nat} {t e : TypeId} {k : IntKind} {v : Value} {d : DataW H} {p : List MemPlace} (ht : P.underlying t = some (.array 3 e)) (he : P.underlying e = some (.int k)) (hce : P.cellsOf e = 1) (hct : P.cellsOf t = 3)
    (hv : Value.okWide P w r b0 t v) (h : DataW.Trod enc P w base spare held t v d p) : ∃ x y z : Int, v = .agg #[.int k x, .int k y, .int k z] ∧ (Lit.int k x).wf = true ∧ (Lit.int k y).wf = true ∧ (Lit.int k z).wf = true := by
  obtain ⟨cs, rfl, hsz, _⟩ : ∃ cs, v = .agg cs ∧ cs.size = P.cellsOf t ∧ Row.okWide P w r b0 t cs := by
    simpa [Value.okWide, ht] using hv
  rw [hct] at hsz
  obtain ⟨l⟩ := cs
  obtain ⟨c0, c1, c2, rfl⟩ := list3 l hsz
  obtain ⟨fuel, hf⟩ := h
  obtain ⟨xs, m, _, _, _, hlen, hel⟩ := DataW.trod_array ht hf
  match xs, hlen with
  | [y0, y1, y2], _ =>
    have h0 := hel 0 (by omega)
    have h1 := hel 1 (by omega)
    have h2 := hel 2 (by omega)
    rw [hce] at h0 h1 h2
    simp [Value.cells] at h0 h1 h2
    obtain ⟨x0, e0, _, w0⟩ := DataW.trod_int he h0
    obtain ⟨x1, e1, _, w1⟩ := DataW.trod_int he h1
    obtain ⟨x2, e2, _, w2⟩ := DataW.trod_int he h2
    simp at e0 e1 e2
    subst e0 e1 e2
    exact ⟨x0, x1, x2, rfl, w0, w1, w2⟩
end
end Go.Proofs.YtcaboknbdamlhaaGreatDoor
