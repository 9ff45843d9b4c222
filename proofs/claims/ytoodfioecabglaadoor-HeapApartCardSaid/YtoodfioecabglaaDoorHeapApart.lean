/- HeapApart: what the walk shows is true for any calls. -/
import Derived.Test.YtoodfioecabglaaDoorHeapRoomP
import Derived.Maps.Own
import Derived.Maps.Views
import Derived.Maps.Keyed
import Derived.Maps.OwnSet
set_option linter.unusedVariables false
set_option linter.unusedSimpArgs false
namespace Go.Proofs.YtoodfioecabglaaDoor
open Go.RowKit Go.Shelf Go.Maps

/-- Block b is a map from numbers to numbers, as a function; at most n entries. -/
def FunM (w : World) (b n : Nat) (g : Int → Int) : Prop :=
  ∃ D : DataW Unit, w.ownsMap Tryd.prog 3 (plainElem Tryd.prog 3) b n D ∧ ∀ x, D.atKey (.int .i64 x) (.lit (.int .i64 0)) = .lit (.int .i64 (g x))
theorem mapn_law : Maps.Keyed Tryd.prog 3 := Maps.int_keyed Tryd.underlying3
theorem mapn_zero (w : World) : (zeroValue 3).run Tryd.prog w = .ok (.int .i64 0) w := by kernel_rfl
theorem FunM.new (w : World) : FunM (w.alloc (.map #[] 0)) w.heap.size 0 (fun _ => 0) := ⟨.map [], World.ownsMap_made _ _ _ _, fun _ => rfl⟩
theorem FunM.kept {w w' : World} {b n : Nat} {g : Int → Int} (h : FunM w b n g) (hb : Below w.heap.size w w') : FunM w' b n g := by
  obtain ⟨D, h1, h2⟩ := h
  exact ⟨D, h1.kept (row := none) ⟨hb.os, hb.tape, hb.output, hb.size, fun k hk _ => hb.block k hk⟩ (by simp), h2⟩
theorem FunM.lt {w : World} {b n : Nat} {g : Int → Int} (h : FunM w b n g) : b < w.heap.size := by
  obtain ⟨D, h1, _⟩ := h
  exact h1.lt
set_option maxRecDepth 100000 in
theorem FunM.look {w : World} {b n : Nat} {g : Int → Int} (h : FunM w b n g) (x : Int) (hw : (Lit.int .i64 x).wf = true) :
    (Instr.lookup 55 (.map (some b)) (.int .i64 x) false).run Tryd.prog w = .ok (.int .i64 (g x)) w := by
  obtain ⟨D, h1, h2⟩ := h
  obtain ⟨c, hrun, hat, _⟩ := h1.lookup_int mapn_law Tryd.underlying55 Tryd.underlying3 (mapn_zero w) (Maps.keyOf_int_mk Tryd.underlying3 hw)
  rw [h2 x] at hat
  rw [hrun]
  injection hat with hat
  injection hat with _ hat
  rw [hat]
section
variable {w : World} {ops : Array Oper} {rest : List Oper} {o : Oper} {a : Act} {Q : Exit → Act → World → Prop}
theorem wpList_funm_new (hgd : o.guard = none) (ho : o.op = .makeMap 55 none)
    (hrun : (execOp a.eval o).run Tryd.prog w = .ok (.value (.map (some w.heap.size))) (w.alloc (.map #[] 0)))
    (h : ∀ w', w'.heap.size = w.heap.size + 1 → Below w.heap.size w w' → FunM w' w.heap.size 0 (fun _ => 0) → wpList Tryd.prog ops Q rest (a.put o.dst (.map (some w.heap.size))) w') : wpList Tryd.prog ops Q (o :: rest) a w := by
  refine wpList_plain hgd fun K hK => ?_
  unfold Oper.wp
  rw [hrun]
  exact hK _ _ (h _ (by simp) (below_alloc w _) (FunM.new w))
theorem wpList_funm_put (hgd : o.guard = none) (m x v : Operand) (ho : o.op = .mapUpdate 55 m x v) {b n : Nat} {g : Int → Int} (hS : FunM w b n g) (hm : a.eval m = .map (some b)) (hn : n < maxLen)
    (y z : Int) (hx : a.eval x = .int .i64 y) (hv : a.eval v = .int .i64 z) (hw : (Lit.int .i64 y).wf = true) (hwz : (Lit.int .i64 z).wf = true)
    (h : ∀ w', FunM w' b (n + 1) (fun i => if i = y then z else g i) → w.grownBy w' (some b) → wpList Tryd.prog ops Q rest (a.put o.dst undef) w') : wpList Tryd.prog ops Q (o :: rest) a w := by
  obtain ⟨D, h1, h2⟩ := hS
  refine wpList_mapUpdate_own _ hgd m x v _ ho _ _ mapn_law Tryd.underlying55 _ b n D hm h1 hn _ _ (.int .i64 y) hx hv (Maps.keyOf_int_mk Tryd.underlying3 hw) (.lit (.int .i64 z)) [] (plainElem_int Tryd.underlying3 hwz)
    fun w' h6 h7 => h w' ⟨_, h6, fun i => ?_⟩ h7
  show _ = DataW.lit (Lit.int IntKind.i64 (if i = y then z else g i))
  by_cases e : i = y
  · rw [if_pos e, e]
    exact Maps.atKey_put_same (h1.tidy mapn_law).isMap (show WideAt.IsKeyLit (.int .i64 y) from trivial) _ _
  · rw [if_neg e, ← h2 i]
    exact Maps.atKey_put_other (fun h9 : Lit.int .i64 i = Lit.int .i64 y => e (by injection h9)) _ _
end
theorem wf_at {x : Int} (h0 : -9223372036854775808 ≤ x) (h1 : x ≤ 9223372036854775807) : (Lit.int .i64 x).wf = true := by
  simp [Lit.wf, IntKind.min, IntKind.max, IntKind.signed, IntKind.bits]; omega
/-- Objects that come later begin behind the block of one. -/
theorem later {S : HS} (I : Inv0 S) {i j : Nat} (hij : i < j) (hj : j < S.objs.length) : (S.objs[i]'(by omega)).1 + wordsOf (classOf (S.objs[i]'(by omega)).2.1) ≤ (S.objs[j]).1 := by
  have hlt := List.pairwise_iff_getElem.1 I.os i j (by omega) hj hij
  exact (I.ob _ (List.getElem_mem (by omega))).2.2.2.2.apart (I.ob _ (List.getElem_mem hj)).2.2.2.2 hlt
theorem HpAt.grown {w w' : World} {h b : Nat} {S : HS} {F : Nat → Prop} (H : HpAt w h S F) (hg : w.grownBy w' (some b)) (hF : ¬ F b) (ht : b ≠ 0) : HpAt w' h S F :=
  H.keep hg.size fun k hk hor => hg.block k hk fun e => by
    injection e with e
    subst e
    exact hor.elim hF ht
theorem RdO.grown {α : Type} {enc : α → Value} {w w' : World} {F : Nat → Prop} {v : Value} {xs : List α} {b : Nat} (H : RdO enc w F v xs) (hg : w.grownBy w' (some b)) (hne : 0 < xs.length → v.ownBlock ≠ some b) : RdO enc w' F v xs :=
  ⟨H.rd.keep hg.size fun hp c e hlt => hg.block c hlt fun e2 => hne hp (by rw [e, e2]), H.off⟩

/-- What is stored in an object's word. -/
def valA (x : Int) (i f : Nat) : Int := wrap64 (x + (100 * (i : Int) + (f : Int)))
theorem valA_bd (x : Int) (i f : Nat) : -9223372036854775808 ≤ valA x i f ∧ valA x i f ≤ 9223372036854775807 := by
  unfold valA wrap64
  omega
theorem store_vals {S : HS} (I : Inv S) (x : Int) {i2 : Nat} (hi2 : i2 < S.objs.length) {p mk : Int} {sz f2 : Nat} (ho : S.objs[i2] = (p, (sz : Int), mk)) (hf : f2 < sz)
    (hv : ∀ i f (hi : i < S.objs.length), (i < i2 ∧ f < (S.objs[i]).2.1.toNat) ∨ (i = i2 ∧ f < f2) → S.words.getD ((S.objs[i]).1 + (f : Int)).toNat 0 = valA x i f) :
    ∀ i f (hi : i < (sStore S p f2 (valA x i2 f2)).objs.length), (i < i2 ∧ f < ((sStore S p f2 (valA x i2 f2)).objs[i]).2.1.toNat) ∨ (i = i2 ∧ f < f2 + 1) → (sStore S p f2 (valA x i2 f2)).words.getD (((sStore S p f2 (valA x i2 f2)).objs[i]).1 + (f : Int)).toNat 0 = valA x i f := by
  have hmem : (p, (sz : Int), mk) ∈ S.objs := ho ▸ List.getElem_mem hi2
  have hth := I.there_in hmem (f := (f2 : Int)) (by omega) (show (f2 : Int) < (sz : Int) by omega)
  have e : sStore S p f2 (valA x i2 f2) = { S with words := S.words.set (p + (f2 : Int)).toNat (valA x i2 f2) } := by
    unfold sStore
    rw [if_pos hth]
  rw [e]
  intro i f hi h
  have hi' : i < S.objs.length := hi
  show (S.words.set (p + (f2 : Int)).toNat (valA x i2 f2)).getD ((S.objs[i]).1 + (f : Int)).toNat 0 = _
  obtain ⟨w1, w2, w3⟩ := I.word_in hmem (f := (f2 : Int)) (by omega) (show (f2 : Int) < (sz : Int) by omega)
  dsimp only at w1 w2 w3
  simp only [List.getD, List.getElem?_set]
  by_cases e2 : i = i2 ∧ f = f2
  · obtain ⟨rfl, rfl⟩ := e2
    rw [ho, if_pos rfl, if_pos w2]
    rfl
  · have hold : (i < i2 ∧ f < (S.objs[i]).2.1.toNat) ∨ (i = i2 ∧ f < f2) := by
      rcases h with h | h
      · exact .inl h
      · exact .inr ⟨h.1, by omega⟩
    rw [if_neg ?_]
    · exact hv i f hi' hold
    · intro he
      rcases hold with ⟨hlt, hf'⟩ | ⟨rfl, hf'⟩
      · have hf'' : f < (S.objs[i]).2.1.toNat := hf'
        have h1 := later I.toInv0 hlt hi2
        rw [ho] at h1
        obtain ⟨b1, b2, b3⟩ := I.word_in (List.getElem_mem hi') (f := (f : Int)) (by omega) (by omega)
        dsimp only at h1
        omega
      · rw [ho] at he
        dsimp only at he
        omega
set_option maxHeartbeats 6400000 in
set_option maxRecDepth 100000 in
theorem hapart_ok (v : Value) (acts : List HAct) (spans x0 : Int) (hs0 : 0 ≤ spans) (hs1 : spans ≤ 255) (w : World) (hv : RdC 7 hactC w v acts) (hbd : ∀ a ∈ acts, HActOk a) (hT : TabW w) :
    Calls Tryd.prog 4 #[.int .u8 spans, v, .int .i64 x0] w fun e w' => e = .returned (.bool true) ∧ Below w.heap.size w w' := by
  replace hT := Lib.hid hT
  have RA := Lib.hid hv
  have HB := Lib.hid hbd
  obtain ⟨A0, cap0, rfl, hlen0, hcap0, -⟩ := hv.len
  clear hv hbd
  obtain ⟨sp, hsp⟩ : ∃ sp : Nat, spans % 10 = (sp : Int) := ⟨(spans % 10).toNat, by omega⟩
  have hsp9 : sp ≤ 9 := by omega
  go_enter Tryd.func4, Tryd.ntmps4
  go_wp2_with fail
  refine (halive_ok w hT.out).mono ?_
  rintro e w1 ⟨rfl, b1⟩
  replace hT := Lib.hid (hT.out.below b1)
  go_wp2_with fail
  refine (new_i _ (sp + 1) (by omega) w1 (by omega) (by omega) hT.out).mono ?_
  rintro e w2 ⟨h, F1, rfl, H1, hF1, b2⟩
  replace hF1 : Hid (∀ j, F1 j → w.heap.size ≤ j) := Lib.hid fun j hj => Nat.le_trans b1.size (hF1 j hj)
  replace H1 := Lib.hid H1
  replace b2 := below_all b1 b2
  clear hT
  go_wp2_with fail
  go_loopw [8] (fun i wr => ∃ (k : Nat) (S : HS) (F : Nat → Prop), k ≤ acts.length ∧ k ≤ 80 ∧ i = .int .i64 k ∧ Hid (S.n = sp + 1) ∧ Hid (HpAt wr h S F) ∧ Hid (∀ j, F j → w.heap.size ≤ j) ∧ Below w.heap.size w wr) (fun i _ => 81 - (intOf i).toNat)
  case atStart => exact ⟨0, _, F1, by omega, by omega, rfl, Lib.hid rfl, H1, hF1, b2⟩
  case round =>
    clear H1 hF1 b2
    obtain ⟨k, S, F, hk, hk80, rfl, hSn, HS, hF, hb⟩ := hrel
    have kz : (0 : Int) ≤ (k : Int) := by omega
    have hways : (k < acts.length ∧ k < 80) ∨ acts.length ≤ k ∨ (k < acts.length ∧ ¬ k < 80) := by omega
    rcases hways with ⟨hlt, hl8⟩ | hend
    · have t0 : decide ((k : Int) < (acts.length : Int)) = true := by rw [decide_eq_true_iff]; omega
      have t1 : decide ((k : Int) < 80) = true := by rw [decide_eq_true_iff]; omega
      have kl : (k : Int) < (acts.length : Int) := by omega
      obtain ⟨b, o, rfl, _, hc⟩ := (RA.out.below hb).at_ hlt
      obtain ⟨a, hak⟩ : ∃ a, a = acts[k] := ⟨_, rfl⟩
      have hok := HB.out a (by rw [hak]; exact List.getElem_mem hlt)
      rw [← hak] at hc
      clear hak
      obtain ⟨kind, an, mask, obj, p, f, x⟩ := a
      have c0 : wr.cell? ⟨b, o + k * 7, none⟩ = some (.int .u8 kind) := hc 0 _ rfl
      have c1 := hc 1 _ rfl
      have c2 := hc 2 _ rfl
      have c3 := hc 3 _ rfl
      have c4 := hc 4 _ rfl
      have c5 := hc 5 _ rfl
      have c6 := hc 6 _ rfl
      replace hok := Lib.hid hok
      clear hc
      go_wp2_with fail
      refine (does_ok h S F kind an mask obj p f x wr HS.out hok.out).mono ?_
      rintro e w3 ⟨rfl, F3, H3, s3⟩
      obtain ⟨b3, hF3⟩ := step_all hb hF.out s3
      replace hF3 := Lib.hid hF3
      have hn3 := Lib.hid ((does_n HS.out.inv ⟨kind, an, mask, obj, p, f, x⟩).trans hSn.out)
      replace H3 := Lib.hid H3
      clear s3 c0 c1 c2 c3 c4 c5 c6
      go_wp2_with fail
      go_roundw
      case rel => exact ⟨k + 1, _, F3, by omega, by omega, by go_num, hn3, H3, hF3, b3⟩
      case measure => simp [intOf]; omega
    rcases hend with hend | ⟨hlt, hend⟩
    · have t0 : decide ((k : Int) < (acts.length : Int)) = false := by rw [decide_eq_false_iff_not]; omega
      clear t0
      have I := HS.out.inv
      obtain ⟨L, hL⟩ : ∃ L, (sAll S).length = L := ⟨_, rfl⟩
      have hLo : S.objs.length = L := by rw [← hL, all_len]
      have hL9 : L ≤ 4096 := by have := I.objs_len; omega
      replace I := Lib.hid I
      go_wp2_with (refine wpList_funm_new rfl rfl (by kernel_rfl) ?_; intro w3 hs3 hb3 hM3; replace hM3 := Lib.hid hM3)
      have H3 := Lib.hid (HS.out.below hb3)
      have hbF : Hid (¬ F wr.heap.size) := Lib.hid fun hf => by have := HS.out.lt _ hf; omega
      have hbT : Hid (wr.heap.size ≠ 0) := Lib.hid (by have := HS.out.tab.lt; omega)
      refine (all_o rfl H3.out).mono ?_
      rintro e w4 ⟨A4, c4, rfl, R4, hfr, b4⟩
      have hfr : Hid ((Value.slice A4 (sAll S).length c4).ownBlock ≠ some wr.heap.size) := Lib.hid fun e => by have := hfr _ e; omega
      have H4 := Lib.hid (H3.out.below b4)
      have M4 := Lib.hid (hM3.out.kept b4)
      have b4 := below_all (below_all hb hb3) b4
      obtain ⟨bm, hbm⟩ : ∃ bm, bm = wr.heap.size := ⟨_, rfl⟩
      have hbB : w.heap.size ≤ bm := by rw [hbm]; exact hb.size
      rw [← hbm] at hbF hbT hfr M4 ⊢
      clear hbm hM3 H3 hs3 hb3 HS hb
      replace R4 := Lib.hid R4
      rw [hL] at R4 hfr ⊢
      replace hL := Lib.hid hL
      replace hLo := Lib.hid hLo
      go_wp2_with fail
      go_loopw [62] (fun i wr => ∃ (j n : Nat) (g : Int → Int), j ≤ L ∧ i = .int .i64 j ∧ n ≤ 8 * j ∧ Hid (FunM wr bm n g) ∧ Hid (∀ x i (hi : i < S.objs.length), j ≤ i → g x ≠ 0 → x < (S.objs[i]).1) ∧ Hid (HpAt wr h S F) ∧ Hid (RdO i64e wr F (.slice A4 L c4) (sAll S)) ∧ Below w.heap.size w wr) (fun i _ => L - (intOf i).toNat)
      case atStart => exact ⟨0, 0, _, by omega, rfl, by omega, M4, Lib.hid (fun _ _ _ _ h => absurd rfl h), H4, R4, b4⟩
      case round =>
        clear M4 H4 R4 b4
        obtain ⟨j, n, g, hj, rfl, hnj, M2, hg, H2, R2, b2⟩ := hrel
        by_cases hjl : j < L
        · have t5 : (j : Int) < (L : Int) := by omega
          have hjs : j < (sAll S).length := by rw [hL.out]; exact hjl
          have hjo : j < S.objs.length := by rw [hLo.out]; exact hjl
          obtain ⟨b, of, rfl, _, hc⟩ := R2.out.rd.at_ hjs
          have hx : (sAll S)[j] = (S.objs[j]).1 := by simp [sAll]
          rw [hx] at hc
          have hmem : S.objs[j] ∈ S.objs := List.getElem_mem hjo
          obtain ⟨a1, a2, a3, a4, a5⟩ := I.out.ob _ hmem
          have hsz := I.out.size hmem
          have hgj := fun x => hg.out x j hjo (Nat.le_refl _)
          have hlat : ∀ i (hi : i < S.objs.length), j < i → (S.objs[j]).1 + wordsOf (classOf (S.objs[j]).2.1) ≤ (S.objs[i]).1 := fun i hi hij => later I.out.toInv0 hij hi
          obtain ⟨o, ho⟩ : ∃ o, o = S.objs[j] := ⟨_, rfl⟩
          simp only [← ho] at hc a1 a2 a3 a4 a5 hsz hgj hlat
          obtain ⟨p, sz, mk⟩ := o
          dsimp only at hc a1 a2 a3 a4 a5 hsz hgj hlat
          have hp1 := a5.1
          have hn9 := I.out.n2
          have hp9 : p ≤ 4096 := by have := a5.2.1; omega
          obtain ⟨cl, hcl⟩ : ∃ cl, classOf sz = cl := ⟨_, rfl⟩
          rw [hcl] at a5 hlat
          obtain ⟨W, hW⟩ : ∃ W : Nat, wordsOf cl = W := ⟨(wordsOf cl).toNat, by have := words_bd cl; omega⟩
          have hbg := a5.begins
          have hends := a5.ends.1
          have hspn := a5.span
          have hW8 : W ≤ 8 := by have := words_bd cl; omega
          rw [hW] at hlat hends
          obtain ⟨s, hs⟩ : ∃ s, spanOf p = s := ⟨_, rfl⟩
          have hs3 : s ≤ (sp : Int) := by rw [hSn.out] at hspn; omega
          have HB' := Lib.hid (fun wx => show Calls Tryd.prog 29 #[.int .i64 p, .int .i64 cl] wx fun e w' => e = .returned (.bool true) ∧ wx = w' by rw [← hbg]; exact begins_ok _ _ wx (by omega))
          have HO := Lib.hid (fun wx => of_r hcl wx)
          have HW := Lib.hid (fun wx => words_r hW wx)
          have HI := Lib.hid (fun wx => in_r hs (by omega) wx)
          have HIk := Lib.hid (fun wx (kk : Nat) (hk : kk < W) => in_r (p := p + (kk : Int)) (s := s) (by
            have h1 := (span_bd (p + (kk : Int))).2.2 (by omega)
            have h2 := (span_bd p).2.2 (by omega)
            omega) (by omega) wx)
          have tss : (s != s) = false := bne_self_eq_false _
          have hwp := Lib.hid (wf_at (x := p) (by omega) (by omega))
          replace hc : wr.cell? ⟨b, of + j, none⟩ = some (.int .i64 p) := hc
          replace hsz := Lib.hid hsz
          replace hgj := Lib.hid hgj
          replace hlat := Lib.hid hlat
          clear ho hx hmem a1 a2 a3 a4 a5 hends hspn hs hcl hW hbg hn9 hg hjs hjo
          go_wp2_with fail
          refine (size_r hsz.out H2.out (by omega) (by omega)).mono ?_
          rintro e w5 ⟨rfl, b5⟩
          have H5 := Lib.hid (H2.out.below b5)
          have R5 := Lib.hid (R2.out.below b5)
          have M5 := Lib.hid (M2.out.kept b5)
          have b5 := below_all b2 b5
          clear H2 R2 M2 b2 hc
          go_wp2_with (first | (go_at_call 28; refine (HO.out _).mono ?_; rintro e w' ⟨rfl, rfl⟩) | (go_at_call 30; refine (HW.out _).mono ?_; rintro e w' ⟨rfl, rfl⟩) | (go_at_call 29; refine (HB'.out _).mono ?_; rintro e w' ⟨rfl, rfl⟩))
          go_loopw [81] (fun i wr => ∃ (kk n : Nat) (g : Int → Int), kk ≤ W ∧ i = .int .i64 kk ∧ n ≤ 8 * j + kk ∧ Hid (FunM wr bm n g) ∧ Hid (∀ x, g x ≠ 0 → x < p + (kk : Int)) ∧ Hid (HpAt wr h S F) ∧ Hid (RdO i64e wr F (.slice (some ⟨b, of, none⟩) L c4) (sAll S)) ∧ Below w.heap.size w wr) (fun i _ => W - (intOf i).toNat)
          case atStart => exact ⟨0, n, g, by omega, rfl, by omega, M5, Lib.hid (fun x hx => by have := hgj.out x hx; omega), H5, R5, b5⟩
          case round =>
            clear H5 R5 M5 b5 hgj hnj
            clear g n
            obtain ⟨kk, n, g, hk, rfl, hnk, M2, hg, H2, R2, b2⟩ := hrel
            by_cases hkl : kk < W
            · have t6 : (kk : Int) < (W : Int) := by omega
              have hg0 : g (p + (kk : Int)) = 0 := Decidable.byContradiction fun hne => by have := hg.out _ hne; omega
              have hwk := Lib.hid (wf_at (x := p + (kk : Int)) (by omega) (by omega))
              have hlook := M2.out.look (p + (kk : Int)) hwk.out
              rw [hg0] at hlook
              have hn9 : n < maxLen := by unfold maxLen; omega
              replace hg0 := Lib.hid hg0
              go_wp2_with (first
                | (go_at_call 31; refine (HIk.out _ kk hkl).mono ?_; rintro e w' ⟨rfl, rfl⟩)
                | (go_at_call 31; refine (HI.out _).mono ?_; rintro e w' ⟨rfl, rfl⟩)
                | (refine wpList_funm_put rfl (.tmp 107) (.tmp 110) (.tmp 111) rfl M2.out rfl hn9 (p + (kk : Int)) p rfl rfl hwk.out hwp.out ?_; intro w6 M6 hg6; replace M6 := Lib.hid M6))
              have H6 := Lib.hid (H2.out.grown hg6 hbF.out hbT.out)
              have R6 := Lib.hid (R2.out.grown hg6 fun _ => hfr.out)
              have b6 := b2.grown hg6 b2.size (fun k hk => by cases hk; exact hbB)
              go_roundw
              case rel => exact ⟨kk + 1, n + 1, _, by omega, by go_num, by omega, M6, Lib.hid (fun x hx => by
                by_cases e : x = p + (kk : Int)
                · omega
                · have := hg.out x (by simpa [e] using hx); omega), H6, R6, b6⟩
              case measure => simp [intOf]; omega
            · obtain rfl : kk = W := by omega
              have t6 : decide ((kk : Int) < (kk : Int)) = false := by rw [decide_eq_false_iff_not]; omega
              go_wp2_with fail
              go_roundw
              case rel => exact ⟨j + 1, n, g, by omega, by go_num, by omega, M2, Lib.hid (fun x i hi hij hx => by have h1 := hg.out x hx; have h2 := hlat.out i hi (by omega); omega), H2, R2, b2⟩
              case measure => simp [intOf]; omega
        · obtain rfl : j = L := by omega
          have t5 : decide ((j : Int) < (j : Int)) = false := by rw [decide_eq_false_iff_not]; omega
          clear hg M2
          go_wp2_with fail
          go_loopw [116] (fun i wr => ∃ (i2 : Nat) (S2 : HS), i2 ≤ j ∧ i = .int .i64 i2 ∧ Hid (S2.objs = S.objs) ∧ Hid (∀ i f (hi : i < S2.objs.length), i < i2 → f < (S2.objs[i]).2.1.toNat → S2.words.getD ((S2.objs[i]).1 + (f : Int)).toNat 0 = valA x0 i f) ∧ Hid (HpAt wr h S2 F) ∧ Hid (RdO i64e wr F (.slice A4 j c4) (sAll S)) ∧ Below w.heap.size w wr) (fun i _ => j - (intOf i).toNat)
          case atStart => exact ⟨0, S, by omega, rfl, Lib.hid rfl, Lib.hid (fun i f hi h0 => absurd h0 (by omega)), H2, R2, b2⟩
          case round =>
            clear H2 R2 b2
            obtain ⟨i2, S2, hi2, rfl, ho2, hv2, H2, R2, b2⟩ := hrel
            by_cases hil : i2 < j
            · have t7 : (i2 : Int) < (j : Int) := by omega
              have hjs : i2 < (sAll S).length := by rw [hL.out]; exact hil
              have hjo : i2 < S2.objs.length := by rw [ho2.out, hLo.out]; exact hil
              obtain ⟨b, of, rfl, _, hc⟩ := R2.out.rd.at_ hjs
              have hx : (sAll S)[i2] = (S2.objs[i2]).1 := by simp [sAll, ho2.out]
              rw [hx] at hc
              have I2 := H2.out.inv
              have hmem : S2.objs[i2] ∈ S2.objs := List.getElem_mem hjo
              obtain ⟨a1, a2, a3, a4, a5⟩ := I2.ob _ hmem
              have hsz := I2.size hmem
              obtain ⟨o, ho⟩ : ∃ o, o = S2.objs[i2] := ⟨_, rfl⟩
              rw [← ho] at hc a1 a2 a3 a4 a5 hsz hmem
              obtain ⟨p, sz0, mk⟩ := o
              dsimp only at hc a1 a2 a3 a4 a5 hsz
              obtain ⟨sz, rfl⟩ : ∃ sz : Nat, sz0 = (sz : Int) := ⟨sz0.toNat, by omega⟩
              have hp1 := a5.1
              have hn9 := I2.n2
              have hp9 : p ≤ 4096 := by have := a5.2.1; omega
              have hz6 : sz ≤ 6 := by omega
              replace hc : wr.cell? ⟨b, of + i2, none⟩ = some (.int .i64 p) := hc
              replace hsz := Lib.hid hsz
              replace ho := Lib.hid ho
              clear hx hmem a1 a2 a3 a4 a5 hn9 hjs I2
              go_wp2_with fail
              refine (size_r hsz.out H2.out (by omega) (by omega)).mono ?_
              rintro e w5 ⟨rfl, b5⟩
              have H5 := Lib.hid (H2.out.below b5)
              have R5 := Lib.hid (R2.out.below b5)
              have b5 := below_all b2 b5
              clear H2 R2 b2 hc
              go_wp2_with fail
              go_loopw [129] (fun i wr => ∃ (f2 : Nat) (S3 : HS), f2 ≤ sz ∧ i = .int .i64 f2 ∧ Hid (S3.objs = S2.objs) ∧ Hid (∀ i f (hi : i < S3.objs.length), (i < i2 ∧ f < (S3.objs[i]).2.1.toNat) ∨ (i = i2 ∧ f < f2) → S3.words.getD ((S3.objs[i]).1 + (f : Int)).toNat 0 = valA x0 i f) ∧ Hid (HpAt wr h S3 F) ∧ Hid (RdO i64e wr F (.slice (some ⟨b, of, none⟩) j c4) (sAll S)) ∧ Below w.heap.size w wr) (fun i _ => sz - (intOf i).toNat)
              case atStart => exact ⟨0, S2, by omega, rfl, Lib.hid rfl, Lib.hid (fun i f hi h0 => h0.elim (fun h => hv2.out i f hi h.1 h.2) (fun h => absurd h.2 (by omega))), H5, R5, b5⟩
              case round =>
                clear H5 R5 b5
                obtain ⟨f2, S3, hf2, rfl, ho3, hv3, H3, R3, b3⟩ := hrel
                by_cases hfl : f2 < sz
                · have t8 : (f2 : Int) < (sz : Int) := by omega
                  have hjo3 : i2 < S3.objs.length := by rw [ho3.out]; exact hjo
                  have hoe : S3.objs[i2] = (p, (sz : Int), mk) := by rw [ho.out]; simp [ho3.out]
                  have hmem : (p, (sz : Int), mk) ∈ S3.objs := hoe ▸ List.getElem_mem hjo3
                  have hth := H3.out.inv.there_in hmem (f := (f2 : Int)) (by omega) (show (f2 : Int) < (sz : Int) by omega)
                  dsimp only at hth
                  have hsv := Lib.hid (store_vals H3.out.inv x0 hjo3 hoe hfl hv3.out)
                  replace hth := Lib.hid hth
                  replace hoe := Lib.hid hoe
                  clear hmem
                  go_wp2_with fail
                  refine (store_r hth.out H3.out (by omega) (by omega) (valA_bd x0 i2 f2)).mono ?_
                  rintro e w6 ⟨rfl, H6, s6⟩
                  obtain ⟨b6, -⟩ := step_all b3 hF.out s6
                  have R6 := Lib.hid (R3.out.step s6)
                  replace H6 := Lib.hid H6
                  clear s6
                  go_wp2_with fail
                  go_roundw
                  case rel => exact ⟨f2 + 1, _, by omega, by go_num, Lib.hid ((store_objs _ _ _ _).trans ho3.out), hsv, H6, R6, b6⟩
                  case measure => simp [intOf]; omega
                · obtain rfl : f2 = sz := by omega
                  have t8 : decide ((f2 : Int) < (f2 : Int)) = false := by rw [decide_eq_false_iff_not]; omega
                  go_wp2_with fail
                  go_roundw
                  case rel => exact ⟨i2 + 1, S3, by omega, by go_num, Lib.hid (ho3.out.trans ho2.out), Lib.hid (fun i f hi hlt hf => by
                    by_cases e : i = i2
                    · subst e
                      refine hv3.out i f hi (.inr ⟨rfl, ?_⟩)
                      have : S3.objs[i] = (p, (f2 : Int), mk) := by rw [ho.out]; simp [ho3.out]
                      rw [this] at hf
                      simpa using hf
                    · exact hv3.out i f hi (.inl ⟨by omega, hf⟩)), H3, R3, b3⟩
                  case measure => simp [intOf]; omega
            · obtain rfl : i2 = j := by omega
              have t7 : decide ((i2 : Int) < (i2 : Int)) = false := by rw [decide_eq_false_iff_not]; omega
              go_wp2_with fail
              go_loopw [147] (fun i wr => ∃ (i3 : Nat), i3 ≤ i2 ∧ i = .int .i64 i3 ∧ Hid (HpAt wr h S2 F) ∧ Hid (RdO i64e wr F (.slice A4 i2 c4) (sAll S)) ∧ Below w.heap.size w wr) (fun i _ => i2 - (intOf i).toNat)
              case atStart => exact ⟨0, by omega, rfl, H2, R2, b2⟩
              case round =>
                clear H2 R2 b2
                obtain ⟨i3, hi3, rfl, H2, R2, b2⟩ := hrel
                by_cases hil : i3 < i2
                · have t9 : (i3 : Int) < (i2 : Int) := by omega
                  have hjs : i3 < (sAll S).length := by rw [hL.out]; exact hil
                  have hjo : i3 < S2.objs.length := by rw [ho2.out, hLo.out]; exact hil
                  obtain ⟨b, of, rfl, _, hc⟩ := R2.out.rd.at_ hjs
                  have hx : (sAll S)[i3] = (S2.objs[i3]).1 := by simp [sAll, ho2.out]
                  rw [hx] at hc
                  have I2 := H2.out.inv
                  have hmem : S2.objs[i3] ∈ S2.objs := List.getElem_mem hjo
                  obtain ⟨a1, a2, a3, a4, a5⟩ := I2.ob _ hmem
                  have hsz := I2.size hmem
                  have hvv := fun f => hv2.out i3 f hjo hil
                  obtain ⟨o, ho⟩ : ∃ o, o = S2.objs[i3] := ⟨_, rfl⟩
                  rw [← ho] at hc a1 a2 a3 a4 a5 hsz hmem hvv
                  obtain ⟨p, sz0, mk⟩ := o
                  dsimp only at hc a1 a2 a3 a4 a5 hsz hvv
                  obtain ⟨sz, rfl⟩ : ∃ sz : Nat, sz0 = (sz : Int) := ⟨sz0.toNat, by omega⟩
                  have hp1 := a5.1
                  have hn9 := I2.n2
                  have hp9 : p ≤ 4096 := by have := a5.2.1; omega
                  have hz6 : sz ≤ 6 := by omega
                  have hld := Lib.hid (fun (f : Nat) (hf : f < sz) => show sLoad S2 p (f : Int) = (valA x0 i3 f, 0) by
                    have h1 := I2.load_in hmem (f := (f : Int)) (by omega) (show (f : Int) < (sz : Int) by omega)
                    dsimp only at h1
                    rw [h1, hvv f (by rw [Int.toNat_natCast]; exact hf)])
                  replace hc : wr.cell? ⟨b, of + i3, none⟩ = some (.int .i64 p) := hc
                  replace hsz := Lib.hid hsz
                  clear ho hx hmem a1 a2 a3 a4 a5 hn9 hjs hjo I2 hvv
                  go_wp2_with fail
                  refine (size_r hsz.out H2.out (by omega) (by omega)).mono ?_
                  rintro e w5 ⟨rfl, b5⟩
                  have H5 := Lib.hid (H2.out.below b5)
                  have R5 := Lib.hid (R2.out.below b5)
                  have b5 := below_all b2 b5
                  clear H2 R2 b2 hc
                  go_wp2_with fail
                  go_loopw [160] (fun i wr => ∃ (f2 : Nat), f2 ≤ sz ∧ i = .int .i64 f2 ∧ Hid (HpAt wr h S2 F) ∧ Hid (RdO i64e wr F (.slice (some ⟨b, of, none⟩) i2 c4) (sAll S)) ∧ Below w.heap.size w wr) (fun i _ => sz - (intOf i).toNat)
                  case atStart => exact ⟨0, by omega, rfl, H5, R5, b5⟩
                  case round =>
                    clear H5 R5 b5
                    obtain ⟨f2, hf2, rfl, H3, R3, b3⟩ := hrel
                    by_cases hfl : f2 < sz
                    · have t8 : (f2 : Int) < (sz : Int) := by omega
                      have hl2 := hld.out f2 hfl
                      unfold valA at hl2
                      replace hl2 := Lib.hid hl2
                      have tv : (wrap64 (x0 + (100 * (i3 : Int) + (f2 : Int))) != wrap64 (x0 + (100 * (i3 : Int) + (f2 : Int)))) = false := bne_self_eq_false _
                      go_wp2_with fail
                      refine (load_r hl2.out H3.out (by omega) (by omega)).mono ?_
                      rintro e w6 ⟨rfl, b6⟩
                      have R6 := Lib.hid (R3.out.below b6)
                      have H6 := Lib.hid (H3.out.below b6)
                      have b6 := below_all b3 b6
                      go_wp2_with fail
                      go_roundw
                      case rel => exact ⟨f2 + 1, by omega, by go_num, H6, R6, b6⟩
                      case measure => simp [intOf]; omega
                    · obtain rfl : f2 = sz := by omega
                      have t8 : decide ((f2 : Int) < (f2 : Int)) = false := by rw [decide_eq_false_iff_not]; omega
                      go_wp2_with fail
                      go_roundw
                      case rel => exact ⟨i3 + 1, by omega, by go_num, H3, R3, b3⟩
                      case measure => simp [intOf]; omega
                · obtain rfl : i3 = i2 := by omega
                  have t9 : decide ((i3 : Int) < (i3 : Int)) = false := by rw [decide_eq_false_iff_not]; omega
                  go_wp2_with fail
                  go_ret
                  exact ⟨rfl, b2⟩
    · have t0 : decide ((k : Int) < (acts.length : Int)) = true := by rw [decide_eq_true_iff]; omega
      have t1 : decide ((k : Int) < 80) = false := by rw [decide_eq_false_iff_not]; omega
      clear t0
      have I := HS.out.inv
      obtain ⟨L, hL⟩ : ∃ L, (sAll S).length = L := ⟨_, rfl⟩
      have hLo : S.objs.length = L := by rw [← hL, all_len]
      have hL9 : L ≤ 4096 := by have := I.objs_len; omega
      replace I := Lib.hid I
      go_wp2_with (refine wpList_funm_new rfl rfl (by kernel_rfl) ?_; intro w3 hs3 hb3 hM3; replace hM3 := Lib.hid hM3)
      have H3 := Lib.hid (HS.out.below hb3)
      have hbF : Hid (¬ F wr.heap.size) := Lib.hid fun hf => by have := HS.out.lt _ hf; omega
      have hbT : Hid (wr.heap.size ≠ 0) := Lib.hid (by have := HS.out.tab.lt; omega)
      refine (all_o rfl H3.out).mono ?_
      rintro e w4 ⟨A4, c4, rfl, R4, hfr, b4⟩
      have hfr : Hid ((Value.slice A4 (sAll S).length c4).ownBlock ≠ some wr.heap.size) := Lib.hid fun e => by have := hfr _ e; omega
      have H4 := Lib.hid (H3.out.below b4)
      have M4 := Lib.hid (hM3.out.kept b4)
      have b4 := below_all (below_all hb hb3) b4
      obtain ⟨bm, hbm⟩ : ∃ bm, bm = wr.heap.size := ⟨_, rfl⟩
      have hbB : w.heap.size ≤ bm := by rw [hbm]; exact hb.size
      rw [← hbm] at hbF hbT hfr M4 ⊢
      clear hbm hM3 H3 hs3 hb3 HS hb
      replace R4 := Lib.hid R4
      rw [hL] at R4 hfr ⊢
      replace hL := Lib.hid hL
      replace hLo := Lib.hid hLo
      go_wp2_with fail
      go_loopw [62] (fun i wr => ∃ (j n : Nat) (g : Int → Int), j ≤ L ∧ i = .int .i64 j ∧ n ≤ 8 * j ∧ Hid (FunM wr bm n g) ∧ Hid (∀ x i (hi : i < S.objs.length), j ≤ i → g x ≠ 0 → x < (S.objs[i]).1) ∧ Hid (HpAt wr h S F) ∧ Hid (RdO i64e wr F (.slice A4 L c4) (sAll S)) ∧ Below w.heap.size w wr) (fun i _ => L - (intOf i).toNat)
      case atStart => exact ⟨0, 0, _, by omega, rfl, by omega, M4, Lib.hid (fun _ _ _ _ h => absurd rfl h), H4, R4, b4⟩
      case round =>
        clear M4 H4 R4 b4
        obtain ⟨j, n, g, hj, rfl, hnj, M2, hg, H2, R2, b2⟩ := hrel
        by_cases hjl : j < L
        · have t5 : (j : Int) < (L : Int) := by omega
          have hjs : j < (sAll S).length := by rw [hL.out]; exact hjl
          have hjo : j < S.objs.length := by rw [hLo.out]; exact hjl
          obtain ⟨b, of, rfl, _, hc⟩ := R2.out.rd.at_ hjs
          have hx : (sAll S)[j] = (S.objs[j]).1 := by simp [sAll]
          rw [hx] at hc
          have hmem : S.objs[j] ∈ S.objs := List.getElem_mem hjo
          obtain ⟨a1, a2, a3, a4, a5⟩ := I.out.ob _ hmem
          have hsz := I.out.size hmem
          have hgj := fun x => hg.out x j hjo (Nat.le_refl _)
          have hlat : ∀ i (hi : i < S.objs.length), j < i → (S.objs[j]).1 + wordsOf (classOf (S.objs[j]).2.1) ≤ (S.objs[i]).1 := fun i hi hij => later I.out.toInv0 hij hi
          obtain ⟨o, ho⟩ : ∃ o, o = S.objs[j] := ⟨_, rfl⟩
          simp only [← ho] at hc a1 a2 a3 a4 a5 hsz hgj hlat
          obtain ⟨p, sz, mk⟩ := o
          dsimp only at hc a1 a2 a3 a4 a5 hsz hgj hlat
          have hp1 := a5.1
          have hn9 := I.out.n2
          have hp9 : p ≤ 4096 := by have := a5.2.1; omega
          obtain ⟨cl, hcl⟩ : ∃ cl, classOf sz = cl := ⟨_, rfl⟩
          rw [hcl] at a5 hlat
          obtain ⟨W, hW⟩ : ∃ W : Nat, wordsOf cl = W := ⟨(wordsOf cl).toNat, by have := words_bd cl; omega⟩
          have hbg := a5.begins
          have hends := a5.ends.1
          have hspn := a5.span
          have hW8 : W ≤ 8 := by have := words_bd cl; omega
          rw [hW] at hlat hends
          obtain ⟨s, hs⟩ : ∃ s, spanOf p = s := ⟨_, rfl⟩
          have hs3 : s ≤ (sp : Int) := by rw [hSn.out] at hspn; omega
          have HB' := Lib.hid (fun wx => show Calls Tryd.prog 29 #[.int .i64 p, .int .i64 cl] wx fun e w' => e = .returned (.bool true) ∧ wx = w' by rw [← hbg]; exact begins_ok _ _ wx (by omega))
          have HO := Lib.hid (fun wx => of_r hcl wx)
          have HW := Lib.hid (fun wx => words_r hW wx)
          have HI := Lib.hid (fun wx => in_r hs (by omega) wx)
          have HIk := Lib.hid (fun wx (kk : Nat) (hk : kk < W) => in_r (p := p + (kk : Int)) (s := s) (by
            have h1 := (span_bd (p + (kk : Int))).2.2 (by omega)
            have h2 := (span_bd p).2.2 (by omega)
            omega) (by omega) wx)
          have tss : (s != s) = false := bne_self_eq_false _
          have hwp := Lib.hid (wf_at (x := p) (by omega) (by omega))
          replace hc : wr.cell? ⟨b, of + j, none⟩ = some (.int .i64 p) := hc
          replace hsz := Lib.hid hsz
          replace hgj := Lib.hid hgj
          replace hlat := Lib.hid hlat
          clear ho hx hmem a1 a2 a3 a4 a5 hends hspn hs hcl hW hbg hn9 hg hjs hjo
          go_wp2_with fail
          refine (size_r hsz.out H2.out (by omega) (by omega)).mono ?_
          rintro e w5 ⟨rfl, b5⟩
          have H5 := Lib.hid (H2.out.below b5)
          have R5 := Lib.hid (R2.out.below b5)
          have M5 := Lib.hid (M2.out.kept b5)
          have b5 := below_all b2 b5
          clear H2 R2 M2 b2 hc
          go_wp2_with (first | (go_at_call 28; refine (HO.out _).mono ?_; rintro e w' ⟨rfl, rfl⟩) | (go_at_call 30; refine (HW.out _).mono ?_; rintro e w' ⟨rfl, rfl⟩) | (go_at_call 29; refine (HB'.out _).mono ?_; rintro e w' ⟨rfl, rfl⟩))
          go_loopw [81] (fun i wr => ∃ (kk n : Nat) (g : Int → Int), kk ≤ W ∧ i = .int .i64 kk ∧ n ≤ 8 * j + kk ∧ Hid (FunM wr bm n g) ∧ Hid (∀ x, g x ≠ 0 → x < p + (kk : Int)) ∧ Hid (HpAt wr h S F) ∧ Hid (RdO i64e wr F (.slice (some ⟨b, of, none⟩) L c4) (sAll S)) ∧ Below w.heap.size w wr) (fun i _ => W - (intOf i).toNat)
          case atStart => exact ⟨0, n, g, by omega, rfl, by omega, M5, Lib.hid (fun x hx => by have := hgj.out x hx; omega), H5, R5, b5⟩
          case round =>
            clear H5 R5 M5 b5 hgj hnj
            clear g n
            obtain ⟨kk, n, g, hk, rfl, hnk, M2, hg, H2, R2, b2⟩ := hrel
            by_cases hkl : kk < W
            · have t6 : (kk : Int) < (W : Int) := by omega
              have hg0 : g (p + (kk : Int)) = 0 := Decidable.byContradiction fun hne => by have := hg.out _ hne; omega
              have hwk := Lib.hid (wf_at (x := p + (kk : Int)) (by omega) (by omega))
              have hlook := M2.out.look (p + (kk : Int)) hwk.out
              rw [hg0] at hlook
              have hn9 : n < maxLen := by unfold maxLen; omega
              replace hg0 := Lib.hid hg0
              go_wp2_with (first
                | (go_at_call 31; refine (HIk.out _ kk hkl).mono ?_; rintro e w' ⟨rfl, rfl⟩)
                | (go_at_call 31; refine (HI.out _).mono ?_; rintro e w' ⟨rfl, rfl⟩)
                | (refine wpList_funm_put rfl (.tmp 107) (.tmp 110) (.tmp 111) rfl M2.out rfl hn9 (p + (kk : Int)) p rfl rfl hwk.out hwp.out ?_; intro w6 M6 hg6; replace M6 := Lib.hid M6))
              have H6 := Lib.hid (H2.out.grown hg6 hbF.out hbT.out)
              have R6 := Lib.hid (R2.out.grown hg6 fun _ => hfr.out)
              have b6 := b2.grown hg6 b2.size (fun k hk => by cases hk; exact hbB)
              go_roundw
              case rel => exact ⟨kk + 1, n + 1, _, by omega, by go_num, by omega, M6, Lib.hid (fun x hx => by
                by_cases e : x = p + (kk : Int)
                · omega
                · have := hg.out x (by simpa [e] using hx); omega), H6, R6, b6⟩
              case measure => simp [intOf]; omega
            · obtain rfl : kk = W := by omega
              have t6 : decide ((kk : Int) < (kk : Int)) = false := by rw [decide_eq_false_iff_not]; omega
              go_wp2_with fail
              go_roundw
              case rel => exact ⟨j + 1, n, g, by omega, by go_num, by omega, M2, Lib.hid (fun x i hi hij hx => by have h1 := hg.out x hx; have h2 := hlat.out i hi (by omega); omega), H2, R2, b2⟩
              case measure => simp [intOf]; omega
        · obtain rfl : j = L := by omega
          have t5 : decide ((j : Int) < (j : Int)) = false := by rw [decide_eq_false_iff_not]; omega
          clear hg M2
          go_wp2_with fail
          go_loopw [116] (fun i wr => ∃ (i2 : Nat) (S2 : HS), i2 ≤ j ∧ i = .int .i64 i2 ∧ Hid (S2.objs = S.objs) ∧ Hid (∀ i f (hi : i < S2.objs.length), i < i2 → f < (S2.objs[i]).2.1.toNat → S2.words.getD ((S2.objs[i]).1 + (f : Int)).toNat 0 = valA x0 i f) ∧ Hid (HpAt wr h S2 F) ∧ Hid (RdO i64e wr F (.slice A4 j c4) (sAll S)) ∧ Below w.heap.size w wr) (fun i _ => j - (intOf i).toNat)
          case atStart => exact ⟨0, S, by omega, rfl, Lib.hid rfl, Lib.hid (fun i f hi h0 => absurd h0 (by omega)), H2, R2, b2⟩
          case round =>
            clear H2 R2 b2
            obtain ⟨i2, S2, hi2, rfl, ho2, hv2, H2, R2, b2⟩ := hrel
            by_cases hil : i2 < j
            · have t7 : (i2 : Int) < (j : Int) := by omega
              have hjs : i2 < (sAll S).length := by rw [hL.out]; exact hil
              have hjo : i2 < S2.objs.length := by rw [ho2.out, hLo.out]; exact hil
              obtain ⟨b, of, rfl, _, hc⟩ := R2.out.rd.at_ hjs
              have hx : (sAll S)[i2] = (S2.objs[i2]).1 := by simp [sAll, ho2.out]
              rw [hx] at hc
              have I2 := H2.out.inv
              have hmem : S2.objs[i2] ∈ S2.objs := List.getElem_mem hjo
              obtain ⟨a1, a2, a3, a4, a5⟩ := I2.ob _ hmem
              have hsz := I2.size hmem
              obtain ⟨o, ho⟩ : ∃ o, o = S2.objs[i2] := ⟨_, rfl⟩
              rw [← ho] at hc a1 a2 a3 a4 a5 hsz hmem
              obtain ⟨p, sz0, mk⟩ := o
              dsimp only at hc a1 a2 a3 a4 a5 hsz
              obtain ⟨sz, rfl⟩ : ∃ sz : Nat, sz0 = (sz : Int) := ⟨sz0.toNat, by omega⟩
              have hp1 := a5.1
              have hn9 := I2.n2
              have hp9 : p ≤ 4096 := by have := a5.2.1; omega
              have hz6 : sz ≤ 6 := by omega
              replace hc : wr.cell? ⟨b, of + i2, none⟩ = some (.int .i64 p) := hc
              replace hsz := Lib.hid hsz
              replace ho := Lib.hid ho
              clear hx hmem a1 a2 a3 a4 a5 hn9 hjs I2
              go_wp2_with fail
              refine (size_r hsz.out H2.out (by omega) (by omega)).mono ?_
              rintro e w5 ⟨rfl, b5⟩
              have H5 := Lib.hid (H2.out.below b5)
              have R5 := Lib.hid (R2.out.below b5)
              have b5 := below_all b2 b5
              clear H2 R2 b2 hc
              go_wp2_with fail
              go_loopw [129] (fun i wr => ∃ (f2 : Nat) (S3 : HS), f2 ≤ sz ∧ i = .int .i64 f2 ∧ Hid (S3.objs = S2.objs) ∧ Hid (∀ i f (hi : i < S3.objs.length), (i < i2 ∧ f < (S3.objs[i]).2.1.toNat) ∨ (i = i2 ∧ f < f2) → S3.words.getD ((S3.objs[i]).1 + (f : Int)).toNat 0 = valA x0 i f) ∧ Hid (HpAt wr h S3 F) ∧ Hid (RdO i64e wr F (.slice (some ⟨b, of, none⟩) j c4) (sAll S)) ∧ Below w.heap.size w wr) (fun i _ => sz - (intOf i).toNat)
              case atStart => exact ⟨0, S2, by omega, rfl, Lib.hid rfl, Lib.hid (fun i f hi h0 => h0.elim (fun h => hv2.out i f hi h.1 h.2) (fun h => absurd h.2 (by omega))), H5, R5, b5⟩
              case round =>
                clear H5 R5 b5
                obtain ⟨f2, S3, hf2, rfl, ho3, hv3, H3, R3, b3⟩ := hrel
                by_cases hfl : f2 < sz
                · have t8 : (f2 : Int) < (sz : Int) := by omega
                  have hjo3 : i2 < S3.objs.length := by rw [ho3.out]; exact hjo
                  have hoe : S3.objs[i2] = (p, (sz : Int), mk) := by rw [ho.out]; simp [ho3.out]
                  have hmem : (p, (sz : Int), mk) ∈ S3.objs := hoe ▸ List.getElem_mem hjo3
                  have hth := H3.out.inv.there_in hmem (f := (f2 : Int)) (by omega) (show (f2 : Int) < (sz : Int) by omega)
                  dsimp only at hth
                  have hsv := Lib.hid (store_vals H3.out.inv x0 hjo3 hoe hfl hv3.out)
                  replace hth := Lib.hid hth
                  replace hoe := Lib.hid hoe
                  clear hmem
                  go_wp2_with fail
                  refine (store_r hth.out H3.out (by omega) (by omega) (valA_bd x0 i2 f2)).mono ?_
                  rintro e w6 ⟨rfl, H6, s6⟩
                  obtain ⟨b6, -⟩ := step_all b3 hF.out s6
                  have R6 := Lib.hid (R3.out.step s6)
                  replace H6 := Lib.hid H6
                  clear s6
                  go_wp2_with fail
                  go_roundw
                  case rel => exact ⟨f2 + 1, _, by omega, by go_num, Lib.hid ((store_objs _ _ _ _).trans ho3.out), hsv, H6, R6, b6⟩
                  case measure => simp [intOf]; omega
                · obtain rfl : f2 = sz := by omega
                  have t8 : decide ((f2 : Int) < (f2 : Int)) = false := by rw [decide_eq_false_iff_not]; omega
                  go_wp2_with fail
                  go_roundw
                  case rel => exact ⟨i2 + 1, S3, by omega, by go_num, Lib.hid (ho3.out.trans ho2.out), Lib.hid (fun i f hi hlt hf => by
                    by_cases e : i = i2
                    · subst e
                      refine hv3.out i f hi (.inr ⟨rfl, ?_⟩)
                      have : S3.objs[i] = (p, (f2 : Int), mk) := by rw [ho.out]; simp [ho3.out]
                      rw [this] at hf
                      simpa using hf
                    · exact hv3.out i f hi (.inl ⟨by omega, hf⟩)), H3, R3, b3⟩
                  case measure => simp [intOf]; omega
            · obtain rfl : i2 = j := by omega
              have t7 : decide ((i2 : Int) < (i2 : Int)) = false := by rw [decide_eq_false_iff_not]; omega
              go_wp2_with fail
              go_loopw [147] (fun i wr => ∃ (i3 : Nat), i3 ≤ i2 ∧ i = .int .i64 i3 ∧ Hid (HpAt wr h S2 F) ∧ Hid (RdO i64e wr F (.slice A4 i2 c4) (sAll S)) ∧ Below w.heap.size w wr) (fun i _ => i2 - (intOf i).toNat)
              case atStart => exact ⟨0, by omega, rfl, H2, R2, b2⟩
              case round =>
                clear H2 R2 b2
                obtain ⟨i3, hi3, rfl, H2, R2, b2⟩ := hrel
                by_cases hil : i3 < i2
                · have t9 : (i3 : Int) < (i2 : Int) := by omega
                  have hjs : i3 < (sAll S).length := by rw [hL.out]; exact hil
                  have hjo : i3 < S2.objs.length := by rw [ho2.out, hLo.out]; exact hil
                  obtain ⟨b, of, rfl, _, hc⟩ := R2.out.rd.at_ hjs
                  have hx : (sAll S)[i3] = (S2.objs[i3]).1 := by simp [sAll, ho2.out]
                  rw [hx] at hc
                  have I2 := H2.out.inv
                  have hmem : S2.objs[i3] ∈ S2.objs := List.getElem_mem hjo
                  obtain ⟨a1, a2, a3, a4, a5⟩ := I2.ob _ hmem
                  have hsz := I2.size hmem
                  have hvv := fun f => hv2.out i3 f hjo hil
                  obtain ⟨o, ho⟩ : ∃ o, o = S2.objs[i3] := ⟨_, rfl⟩
                  rw [← ho] at hc a1 a2 a3 a4 a5 hsz hmem hvv
                  obtain ⟨p, sz0, mk⟩ := o
                  dsimp only at hc a1 a2 a3 a4 a5 hsz hvv
                  obtain ⟨sz, rfl⟩ : ∃ sz : Nat, sz0 = (sz : Int) := ⟨sz0.toNat, by omega⟩
                  have hp1 := a5.1
                  have hn9 := I2.n2
                  have hp9 : p ≤ 4096 := by have := a5.2.1; omega
                  have hz6 : sz ≤ 6 := by omega
                  have hld := Lib.hid (fun (f : Nat) (hf : f < sz) => show sLoad S2 p (f : Int) = (valA x0 i3 f, 0) by
                    have h1 := I2.load_in hmem (f := (f : Int)) (by omega) (show (f : Int) < (sz : Int) by omega)
                    dsimp only at h1
                    rw [h1, hvv f (by rw [Int.toNat_natCast]; exact hf)])
                  replace hc : wr.cell? ⟨b, of + i3, none⟩ = some (.int .i64 p) := hc
                  replace hsz := Lib.hid hsz
                  clear ho hx hmem a1 a2 a3 a4 a5 hn9 hjs hjo I2 hvv
                  go_wp2_with fail
                  refine (size_r hsz.out H2.out (by omega) (by omega)).mono ?_
                  rintro e w5 ⟨rfl, b5⟩
                  have H5 := Lib.hid (H2.out.below b5)
                  have R5 := Lib.hid (R2.out.below b5)
                  have b5 := below_all b2 b5
                  clear H2 R2 b2 hc
                  go_wp2_with fail
                  go_loopw [160] (fun i wr => ∃ (f2 : Nat), f2 ≤ sz ∧ i = .int .i64 f2 ∧ Hid (HpAt wr h S2 F) ∧ Hid (RdO i64e wr F (.slice (some ⟨b, of, none⟩) i2 c4) (sAll S)) ∧ Below w.heap.size w wr) (fun i _ => sz - (intOf i).toNat)
                  case atStart => exact ⟨0, by omega, rfl, H5, R5, b5⟩
                  case round =>
                    clear H5 R5 b5
                    obtain ⟨f2, hf2, rfl, H3, R3, b3⟩ := hrel
                    by_cases hfl : f2 < sz
                    · have t8 : (f2 : Int) < (sz : Int) := by omega
                      have hl2 := hld.out f2 hfl
                      unfold valA at hl2
                      replace hl2 := Lib.hid hl2
                      have tv : (wrap64 (x0 + (100 * (i3 : Int) + (f2 : Int))) != wrap64 (x0 + (100 * (i3 : Int) + (f2 : Int)))) = false := bne_self_eq_false _
                      go_wp2_with fail
                      refine (load_r hl2.out H3.out (by omega) (by omega)).mono ?_
                      rintro e w6 ⟨rfl, b6⟩
                      have R6 := Lib.hid (R3.out.below b6)
                      have H6 := Lib.hid (H3.out.below b6)
                      have b6 := below_all b3 b6
                      go_wp2_with fail
                      go_roundw
                      case rel => exact ⟨f2 + 1, by omega, by go_num, H6, R6, b6⟩
                      case measure => simp [intOf]; omega
                    · obtain rfl : f2 = sz := by omega
                      have t8 : decide ((f2 : Int) < (f2 : Int)) = false := by rw [decide_eq_false_iff_not]; omega
                      go_wp2_with fail
                      go_roundw
                      case rel => exact ⟨i3 + 1, by omega, by go_num, H3, R3, b3⟩
                      case measure => simp [intOf]; omega
                · obtain rfl : i3 = i2 := by omega
                  have t9 : decide ((i3 : Int) < (i3 : Int)) = false := by rw [decide_eq_false_iff_not]; omega
                  go_wp2_with fail
                  go_ret
                  exact ⟨rfl, b2⟩
end Go.Proofs.YtoodfioecabglaaDoor
