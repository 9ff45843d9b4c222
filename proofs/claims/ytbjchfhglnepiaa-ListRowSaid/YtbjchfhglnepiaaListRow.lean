/- ListRow: what the walk shows is true for any calls in a row. -/
import Derived.Test.YtbjchfhglnepiaaListSeen
set_option linter.unusedVariables false
set_option linter.unusedSimpArgs false
namespace Go.Proofs.Ytbjchfhglnepiaa
open Go.RowKit Go.Maps

/-- Each block begins where its class has one, and is in one list, once. -/
def GoodL (L : Nat → List Int) : Prop := (∀ c, c < 4 → ∀ x ∈ L c, beginsAt x c = true) ∧ (∀ c, c < 4 → (L c).Nodup) ∧ ∀ c d, c < 4 → d < 4 → c ≠ d → ∀ x ∈ L c, x ∉ L d
theorem good_sub {L L' : Nat → List Int} (h : GoodL L) (hs : ∀ c, c < 4 → List.Sublist (L' c) (L c)) : GoodL L' :=
  ⟨fun c hc x hx => h.1 c hc x ((hs c hc).subset hx), fun c hc => (h.2.1 c hc).sublist (hs c hc), fun c d hc hd hne x hx hy => h.2.2 c d hc hd hne x ((hs c hc).subset hx) ((hs d hd).subset hy)⟩
theorem good_cut {L : Nat → List Int} {s : Int} (h : GoodL L) : GoodL (cutL L s) := good_sub h fun c _ => List.filter_sublist
theorem good_take {L : Nat → List Int} {c : Int} (h : GoodL L) : GoodL (takeL L c).1 := by
  unfold takeL
  split
  · exact h
  · split
    · exact h
    · refine good_sub h fun j _ => ?_
      show List.Sublist (popL L c j) (L j)
      unfold popL
      split
      · exact List.take_sublist _ _
      · exact List.Sublist.refl _
theorem has_not {L : Nat → List Int} {p : Int} (h : ¬ 0 ≤ hasIn L p) : ∀ j, j < 4 → p ∉ L j := by
  intro j hj hm
  apply h
  unfold hasIn
  match j, hj with
  | 0, _ => rw [if_pos hm]; omega
  | 1, _ => split <;> first | omega | (rw [if_pos hm]; omega)
  | 2, _ => split <;> first | omega | (split <;> first | omega | (rw [if_pos hm]; omega))
  | 3, _ => split <;> first | omega | (split <;> first | omega | (split <;> first | omega | (rw [if_pos hm]; omega)))
theorem good_put {L : Nat → List Int} {c p : Int} (h : GoodL L) : GoodL (putL L c p).1 := by
  unfold putL
  split
  · exact h
  · next hb =>
    split
    · exact h
    · next hh =>
      have hno := has_not hh
      have hb' : beginsAt p c = true := by simpa using hb
      show GoodL (addL L c p)
      have mem : ∀ j x, x ∈ addL L c p j → x ∈ L j ∨ (x = p ∧ (j : Int) = c) := by
        intro j x hx
        unfold addL at hx
        split at hx
        · rcases List.mem_append.1 hx with hx | hx
          · exact .inl hx
          · exact .inr ⟨by simpa using hx, by assumption⟩
        · exact .inl hx
      refine ⟨fun j hj x hx => ?_, fun j hj => ?_, fun i j hi hj hne x hx hy => ?_⟩
      · rcases mem j x hx with hx | ⟨rfl, e⟩
        · exact h.1 j hj x hx
        · rw [e]; exact hb'
      · unfold addL
        split
        · rw [List.nodup_append]
          refine ⟨h.2.1 j hj, by simp, fun a ha b hb e => ?_⟩
          simp only [List.mem_singleton] at hb
          subst hb e
          exact hno j hj ha
        · exact h.2.1 j hj
      · rcases mem i x hx with hx' | ⟨ex, e⟩
        · rcases mem j x hy with hy' | ⟨ex', e⟩
          · exact h.2.2 i j hi hj hne x hx' hy'
          · exact hno i hi (ex' ▸ hx')
        · rcases mem j x hy with hy' | ⟨_, e'⟩
          · exact hno j hj (ex ▸ hy')
          · omega
theorem good_has {L : Nat → List Int} (h : GoodL L) {c : Nat} (hc : c < 4) {x : Int} (hx : x ∈ L c) : hasIn L x = (c : Int) :=
  hasIn_here hc hx fun j hj hm => h.2.2 j c (by omega) hc (by omega) x hm hx

theorem wpList_newmap {w : World} {ops : Array Oper} {rest : List Oper} {o : Oper} {a : Act} {Q : Exit → Act → World → Prop} (hgd : o.guard = none) (t : TypeId) (ho : o.op = .makeMap t none)
    (hrun : (execOp a.eval o).run Try.prog w = .ok (.value (.map (some w.heap.size))) (w.alloc (.map #[] 0)))
    (h : ∀ w', Below w.heap.size w w' → SeenL w' w.heap.size 0 [] → wpList Try.prog ops Q rest (a.put o.dst (.map (some w.heap.size))) w') : wpList Try.prog ops Q (o :: rest) a w := by
  refine wpList_plain hgd fun K hK => ?_
  unfold Oper.wp
  rw [hrun]
  exact hK _ _ (h _ (below_alloc w _) (seen_new w))
theorem index_lists (f : Nat → Value) {q : Nat} (hq : q < 4) (w : World) : (Instr.index 38 (.agg (arr4 f)) (.int .i64 q)).run Try.prog w = .ok (f q) w := by
  rcases (by omega : q = 0 ∨ q = 1 ∨ q = 2 ∨ q = 3) with rfl | rfl | rfl | rfl <;> kernel_rfl
def seenTo (L : Nat → List Int) : Nat → List Int
  | 0 => []
  | q + 1 => seenTo L q ++ L q
theorem seenTo_mem {L : Nat → List Int} {x : Int} : ∀ q, x ∈ seenTo L q → ∃ c, c < q ∧ x ∈ L c
  | 0, h => by cases h
  | q + 1, h => by
    rcases List.mem_append.1 h with h | h
    · obtain ⟨c, hc, hx⟩ := seenTo_mem q h
      exact ⟨c, by omega, hx⟩
    · exact ⟨q, by omega, h⟩
theorem seenTo_len {L : Nat → List Int} {n : Nat} (h : ∀ j, j < 4 → (L j).length ≤ n) : ∀ q, q ≤ 4 → (seenTo L q).length ≤ q * n
  | 0, _ => by simp [seenTo]
  | q + 1, hq => by
    have h1 := seenTo_len h q (by omega)
    have h2 := h q (by omega)
    rw [Nat.succ_mul]
    simp only [seenTo, List.length_append]
    omega
theorem fresh_at {L : Nat → List Int} (h : GoodL L) {q m : Nat} (hq : q < 4) (hm : m < (L q).length) : (L q)[m] ∉ seenTo L q ++ (L q).take m := by
  intro hx
  rcases List.mem_append.1 hx with hx | hx
  · obtain ⟨c, hc, hx⟩ := seenTo_mem q hx
    exact h.2.2 c q (by omega) hq (by omega) _ hx (List.getElem_mem hm)
  · obtain ⟨i, hi, e⟩ := List.getElem_of_mem hx
    have hil : i < m := by simp at hi; omega
    rw [List.getElem_take] at e
    exact absurd ((List.getElem_inj (h.2.1 q hq)).1 e) (by omega)

set_option maxHeartbeats 3200000 in
set_option maxRecDepth 100000 in
theorem row_ok (v : Value) (acts : List (Int × Int × Int)) (w : World) (hv : RdA w v acts) (hbd : ∀ x ∈ acts, (0 ≤ x.1 ∧ x.1 ≤ 255) ∧ (-9223372036854775808 ≤ x.2.1 ∧ x.2.1 ≤ 9223372036854775807) ∧ (-9223372036854775808 ≤ x.2.2 ∧ x.2.2 ≤ 9223372036854775807)) :
    Calls Try.prog 9 #[v] w fun e w' => e = .returned (.bool true) ∧ Below w.heap.size w w' := by
  have SZ := Lib.hid lists_size
  have RZ := Lib.hid rlists_size
  have AZ := Lib.hid act_size
  have HA := Lib.hid hv
  have HB := Lib.hid hbd
  obtain ⟨A, cp, rfl⟩ := hv.len
  clear hv hbd
  go_enter Try.func9, Try.ntmps9
  go_wp2_with fail
  refine (alive_ok _).mono ?_
  rintro e w1 ⟨rfl, hb1⟩
  go_wp2_with (first
    | (refine wpList_new rfl (.alloc 38) rfl w1.heap.size rfl 38 nil4 (by kernel_rfl) ?_; intro w2 hs2 hb2 hV2; have hV2 := Lib.hid (VarL.nil hV2); have hz2 : w1.heap.size < w2.heap.size := (by omega); clear hs2)
    | (refine wpList_new rfl (.alloc 34) rfl w2.heap.size rfl 34 nil4 (by kernel_rfl) ?_; intro w3 hs3 hb3 hV3; have hV3 := Lib.hid (VarL.nil hV3); have hU3 := Lib.hid (hV2.out.below hb3); clear hs3))
  have hb2' := hb1.trans (hb2.mono hb1.size)
  have hb3' := hb2'.trans (hb3.mono hb2'.size)
  go_loopw [5] (fun i wr => ∃ (k : Nat) (L : Nat → List Int), k ≤ acts.length ∧ k ≤ 100 ∧ i = .int .i64 k ∧ Hid (VarL wr w1.heap.size 38 L) ∧ Hid (VarL wr w2.heap.size 34 L) ∧ Hid (∀ j, j < 4 → (L j).length ≤ k) ∧ Hid (BdL L) ∧ Hid (GoodL L) ∧ Below w.heap.size w wr) (fun i _ => 101 - (intOf i).toNat)
  case atStart => exact ⟨0, noL, by omega, by omega, rfl, hU3, hV3, Lib.hid fun j _ => by simp [noL], Lib.hid fun j _ x hx => by simp [noL] at hx, Lib.hid ⟨fun c _ x hx => by simp [noL] at hx, fun c _ => by simp [noL], fun c d _ _ _ x hx => by simp [noL] at hx⟩, hb3'⟩
  case round =>
    obtain ⟨k, L, hk, hk100, rfl, hVL, hUL, hLk, hBL, hGL, hbr⟩ := hrel
    obtain ⟨wo, rfl⟩ : ∃ wo : World, wo = wr := ⟨_, rfl⟩
    have hkz : (0 : Int) ≤ (k : Int) := by omega
    by_cases hlt : k < acts.length
    · have hkl : (k : Int) < (acts.length : Int) := by omega
      have hlb : decide ((k : Int) < (acts.length : Int)) = true := by rw [decide_eq_true_iff]; omega
      by_cases hlt2 : k < 100
      · have hlc : decide ((k : Int) < 100) = true := by rw [decide_eq_true_iff]; omega
        obtain ⟨b, o, rfl, hbl, c0, c1, c2⟩ := (HA.out.below hbr).at_ hlt
        obtain ⟨bk, bc, bp⟩ := HB.out _ (List.getElem_mem hlt)
        obtain ⟨kk, hkk⟩ : ∃ x, x = acts[k].1 := ⟨_, rfl⟩
        obtain ⟨cc, hcc⟩ : ∃ x, x = acts[k].2.1 := ⟨_, rfl⟩
        obtain ⟨pp, hpp⟩ : ∃ x, x = acts[k].2.2 := ⟨_, rfl⟩
        rw [← hkk] at c0 bk
        rw [← hcc] at c1 bc
        rw [← hpp] at c2 bp
        clear hkk hcc hpp
        go_wp2_with (first
          | (refine wpList_new rfl (.alloc 36) rfl wo.heap.size rfl 36 #[.int .u8 0, .int .i64 0, .int .i64 0] (by kernel_rfl) ?_; intro w3 hs3 hb3 hB3; have hB3 := Lib.hid hB3; clear hs3)
          | (refine wpList_store_blk rfl 36 (.tmp 6) (.tmp 41) rfl wo.heap.size rfl #[.int .u8 kk, .int .i64 cc, .int .i64 pp] rfl 36 #[.int .u8 0, .int .i64 0, .int .i64 0] hB3.out AZ.out rfl (by simp [Value.oneCell']) ?_; intro w4 hB4 hg4 hs4; refine stop_here ?_))
        have hB4 := Lib.hid hB4
        have hb4 := grown_below hb3 hg4 hb3.size (Nat.le_refl _)
        have hV4 := Lib.hid (hVL.out.below hb4)
        have hU4 := Lib.hid (hUL.out.below hb4)
        have a0 := hB4.out.cell 0
        have a1 := hB4.out.cell 1
        have a2 := hB4.out.cell 2
        clear hB3 hg4 hs4 c0 c1 c2
        have hSL : Hid (ShortL L) := Lib.hid fun j hj => Nat.le_trans (hLk.out j hj) (by omega)
        refine go_on ?_
        rcases h3 : (kk % 5 == 3) with _ | _
        rotate_left
        · have bk := bk
          go_wp2_with (refine wpList_load_var rfl 38 (.tmp 3) rfl w1.heap.size rfl 38 L hV4.out _ Try.underlying38 rfl SZ.out ?_; intro f5 hf5)
          refine (take_any cc ⟨f5, rfl, hf5⟩ hSL.out).mono ?_
          rintro e w6 ⟨v6, rfl, hv6, hb6⟩
          have hv6 := Lib.hid hv6
          have hV6 := Lib.hid (hV4.out.below hb6)
          have hU6 := Lib.hid (hU4.out.below hb6)
          have hB6 := Lib.hid (hB4.out.below hb6 hB4.out.lt)
          have hb6' := hb4.trans (hb6.mono hb4.size)
          clear a0 a1 a2 hf5
          go_wp2_with (first
            | (refine wpList_new rfl (.alloc 38) rfl w6.heap.size rfl 38 nil4 (by kernel_rfl) ?_; intro w7 hs7 hb7 hN7; have hN7 := Lib.hid (VarL.nil hN7); have hv7 := Lib.hid (hv6.out.below hb7); clear hs7)
            | (refine wpList_store_var rfl 38 (.tmp 7) (.tmp 75) rfl w6.heap.size rfl _ rfl (takeL L cc).1 hv7.out 38 noL hN7.out SZ.out ?_; intro w8 hN8 hg8 hs8; refine stop_here ?_))
          clear hs8
          have hN8 := Lib.hid hN8
          have hb8 := grown_below hb7 hg8 hb7.size (Nat.le_refl _)
          have hV8 := Lib.hid (hV6.out.below hb8)
          have hU8 := Lib.hid (hU6.out.below hb8)
          have hB8 := Lib.hid (hB6.out.below hb8 hB6.out.lt)
          have hb8' := hb6'.trans (hb8.mono hb6'.size)
          have hn1 : w2.heap.size < w6.heap.size := hU6.out.lt
          have a1 := hB8.out.cell 1
          have a2 := hB8.out.cell 2
          clear hN7 hv7 hv6 hg8 hV6 hU6 hB6
          refine go_on ?_
          go_wp2_with (refine wpList_load_var rfl 34 (.tmp 4) rfl w2.heap.size rfl 34 L hU8.out _ Try.underlying34 rfl RZ.out ?_; intro f9 hf9)
          refine (rtake_any cc ⟨f9, rfl, hf9⟩ hSL.out).mono ?_
          rintro e w10 ⟨v10, rfl, hv10, hb10⟩
          have hv10 := Lib.hid hv10
          have hV10 := Lib.hid (hV8.out.below hb10)
          have hU10 := Lib.hid (hU8.out.below hb10)
          have hN10 := Lib.hid (hN8.out.below hb10)
          have hb10' := hb8'.trans (hb10.mono hb8'.size)
          clear a1 a2 hf9 hV8 hU8 hN8
          go_wp2_with (first
            | (refine wpList_new rfl (.alloc 34) rfl w10.heap.size rfl 34 nil4 (by kernel_rfl) ?_; intro w11 hs11 hb11 hM11; have hM11 := Lib.hid (VarL.nil hM11); have hv11 := Lib.hid (hv10.out.below hb11); clear hs11)
            | (refine wpList_store_var rfl 34 (.tmp 10) (.tmp 83) rfl w10.heap.size rfl _ rfl (takeL L cc).1 hv11.out 34 noL hM11.out RZ.out ?_; intro w12 hM12 hg12 hs12; refine stop_here ?_))
          clear hs12
          have hM12 := Lib.hid hM12
          have hb12 := grown_below hb11 hg12 hb11.size (Nat.le_refl _)
          have hV12 := Lib.hid (hV10.out.below hb12)
          have hU12 := Lib.hid (hU10.out.below hb12)
          have hN12 := Lib.hid (hN10.out.below hb12)
          have hb12' := hb10'.trans (hb12.mono hb10'.size)
          have hn2 : w6.heap.size < w10.heap.size := hN10.out.lt
          clear hM11 hv11 hv10 hg12 hV10 hU10 hN10
          refine go_on ?_
          go_wp2_with (first
            | (refine wpList_load_var rfl 38 (.tmp 7) rfl w6.heap.size rfl 38 (takeL L cc).1 hN12.out _ Try.underlying38 rfl SZ.out ?_; intro f13 hf13)
            | (refine wpList_store_var rfl 38 (.tmp 3) (.tmp 86) rfl w1.heap.size rfl _ rfl (takeL L cc).1 ⟨f13, rfl, hf13⟩ 38 L hV12.out SZ.out ?_; intro w13 hV13 hg13 hs13; refine stop_here ?_))
          clear hs13
          have hV13 := Lib.hid hV13
          have hU13 := Lib.hid (hU12.out.other hV12.out (by omega) hg13)
          have hM13 := Lib.hid (hM12.out.other hV12.out (by omega) hg13)
          have hb13 := grown_below (hbr.trans (hb12'.mono hbr.size)) hg13 (Nat.le_trans hbr.size hb12'.size) hb1.size
          clear hV12 hU12 hN12 hM12 hg13
          refine go_on ?_
          go_wp2_with (first
            | (refine wpList_load_var rfl 34 (.tmp 10) rfl w10.heap.size rfl 34 (takeL L cc).1 hM13.out _ Try.underlying34 rfl RZ.out ?_; intro f14 hf14)
            | (refine wpList_store_var rfl 34 (.tmp 4) (.tmp 87) rfl w2.heap.size rfl _ rfl (takeL L cc).1 ⟨f14, rfl, hf14⟩ 34 L hU13.out RZ.out ?_; intro w14 hU14 hg14 hs14; refine stop_here ?_))
          clear hs14
          have hU14 := Lib.hid hU14
          have hV14 := Lib.hid (hV13.out.other hU13.out (by omega) hg14)
          have hb14 := grown_below hb13 hg14 hb13.size hb2'.size
          clear hM13 hU13 hV13 hg14
          have hne0 : ((takeL L cc).2.1 != (takeL L cc).2.1) = false := bne_self_eq_false _
          have hne1 : ((takeL L cc).2.2 != (takeL L cc).2.2) = false := bne_self_eq_false _
          have hLn : Hid (∀ j, j < 4 → ((takeL L cc).1 j).length ≤ k + 1) := Lib.hid (fun j hj => Nat.le_succ_of_le (takeL_short cc hLk.out j hj))
          have hBn : Hid (BdL (takeL L cc).1) := Lib.hid (takeL_bd hBL.out)
          have hGn : Hid (GoodL (takeL L cc).1) := Lib.hid (good_take hGL.out)
          refine go_on ?_
          obtain ⟨f15, hB15, hf15⟩ := hV14.out
          have hB15 := Lib.hid hB15
          have hf15 := Lib.hid hf15
          have hSn : Hid (ShortL (takeL L cc).1) := Lib.hid fun j hj => Nat.le_trans (hLn.out j hj) (by omega)
          go_wp2_with (first
            | (refine wpList_newmap rfl 56 rfl (by kernel_rfl) ?_; intro w15 hb15 hS15; have hS15 := Lib.hid hS15)
            | (refine wpList_load_blk rfl 38 (.tmp 3) rfl w1.heap.size rfl 38 (arr4 f15) (hB15.out.below hb15 hB15.out.lt) _ Try.underlying38 rfl SZ.out ?_))
          go_loopw [119] (fun c wr => ∃ q : Nat, q ≤ 4 ∧ c = .int .i64 q ∧ Hid (SeenL wr w14.heap.size (seenTo (takeL L cc).1 q).length (seenTo (takeL L cc).1 q)) ∧ Below w14.heap.size w14 wr) (fun c _ => 4 - (intOf c).toNat)
          case atStart => exact ⟨0, by omega, rfl, hS15, hb15⟩
          case round =>
            obtain ⟨q, hq, rfl, hSq, hbq⟩ := hrel
            obtain ⟨wq, rfl⟩ : ∃ wq : World, wq = wr := ⟨_, rfl⟩
            have hqz : (0 : Int) ≤ (q : Int) := by omega
            by_cases hq4 : q < 4
            · have hql : (q : Int) < 4 := by omega
              have hqb : decide ((q : Int) < 4) = true := by rw [decide_eq_true_iff]; omega
              have hget := index_lists f15 hq4 wq
              obtain ⟨Aq, cq, eq, _⟩ := (hf15.out q hq4).len
              have hRq := hf15.out q hq4
              rw [eq] at hget hRq
              have hRq := Lib.hid hRq
              clear eq
              go_wp2_with fail
              go_loopw [125] (fun i wr => ∃ m : Nat, m ≤ ((takeL L cc).1 q).length ∧ i = .int .i64 m ∧ Hid (SeenL wr w14.heap.size (seenTo (takeL L cc).1 q ++ ((takeL L cc).1 q).take m).length (seenTo (takeL L cc).1 q ++ ((takeL L cc).1 q).take m)) ∧ Below w14.heap.size w14 wr) (fun i _ => ((takeL L cc).1 q).length - (intOf i).toNat)
              case atStart => exact ⟨0, by omega, rfl, by simpa using hSq, hbq⟩
              case round =>
                obtain ⟨m, hm, rfl, hSm, hbm⟩ := hrel
                obtain ⟨wm, rfl⟩ : ∃ wm : World, wm = wr := ⟨_, rfl⟩
                have hmz : (0 : Int) ≤ (m : Int) := by omega
                by_cases hml : m < ((takeL L cc).1 q).length
                · have hml' : (m : Int) < ((((takeL L cc).1 q).length : Nat) : Int) := by omega
                  have hmb : decide ((m : Int) < ((((takeL L cc).1 q).length : Nat) : Int)) = true := by rw [decide_eq_true_iff]; omega
                  have hx9 := hBn.out q hq4 _ (List.getElem_mem hml)
                  have hbx := hGn.out.1 q hq4 _ (List.getElem_mem hml)
                  have hx1 : 1 ≤ ((takeL L cc).1 q)[m] := (of_decide_eq_true hbx).1
                  have hlq9 := hLn.out q hq4
                  have hfr := fresh_at hGn.out hq4 hml
                  have hha := good_has hGn.out hq4 (List.getElem_mem hml)
                  have hsn := take_snoc ((takeL L cc).1 q) hml
                  have hcn := seenTo_len (n := 101) (fun j hj => Nat.le_trans (hLn.out j hj) (by omega)) q (by omega)
                  have hcl : (seenTo (takeL L cc).1 q ++ ((takeL L cc).1 q).take m).length ≤ 505 := by have := hLn.out q hq4; simp; omega
                  obtain ⟨x, hx⟩ : ∃ x, x = ((takeL L cc).1 q)[m] := ⟨_, rfl⟩
                  obtain ⟨bq, oq, rfl, _, hcx⟩ := (hRq.out.below hbm).at_ hml
                  rw [← hx] at hx9 hbx hx1 hfr hha hcx hsn
                  replace hcx : wm.cell? ⟨bq, oq + m, none⟩ = some (.int .i64 x) := hcx
                  clear hx
                  have hwf : (Lit.int .i64 x).wf = true := by simp [Lit.wf, IntKind.min, IntKind.max, IntKind.signed, IntKind.bits]; omega
                  have hlook := hSm.out.look hfr hwf
                  have hbm' := hB15.out.below hbm hB15.out.lt
                  obtain ⟨l0, l1, l2, l3⟩ := cell_arr4 hbm'
                  have hrl : Hid (RdL wm (.agg #[f15 0, f15 1, f15 2, f15 3]) (takeL L cc).1) := Lib.hid ⟨f15, rfl, fun j hj => (hf15.out j hj).below hbm⟩
                  have hsn := Lib.hid hsn
                  have hha := Lib.hid hha
                  have hwf := Lib.hid hwf
                  clear hfr hbm' hcn
                  go_wp2_with (first
                    | (go_at_call 23; refine (begins_ok _ _ _ hx9).mono ?_; rintro e w' ⟨rfl, rfl⟩)
                    | (go_at_call 34; refine (has_any x q hrl.out hSn.out hha.out).mono ?_; rintro e w17 ⟨rfl, hb17⟩; obtain ⟨D, hD1, hD2⟩ := hSm.out.kept hb17; have hD1 := Lib.hid hD1; have hD2 := Lib.hid hD2)
                    | (at_mapUpdate; refine wpList_mapUpdate_own _ rfl _ _ _ 56 rfl 3 4 seen_law Try.underlying56 _ w14.heap.size _ D rfl hD1.out (by unfold maxLen; omega) _ _ (.int .i64 x) rfl rfl (keyOf_int_mk Try.underlying3 hwf.out) (.lit (.bool true)) [] (plainElem_bool Try.underlying4 true) ?_; intro w18 hown18 hg18))
                  go_roundw
                  case rel => exact ⟨m + 1, by omega, by go_num, Lib.hid (by have h := SeenL.put (x := x) hD2.out hown18; rw [hsn.out, ← List.append_assoc, List.length_append]; exact h), grown_below (hbm.trans (hb17.mono hbm.size)) hg18 (Nat.le_trans hbm.size hb17.size) (Nat.le_refl _)⟩
                  case measure => simp [intOf]; omega
                · have hmb : decide ((m : Int) < ((((takeL L cc).1 q).length : Nat) : Int)) = false := by rw [decide_eq_false_iff_not]; omega
                  have hme : ((takeL L cc).1 q).take m = (takeL L cc).1 q := by rw [show m = ((takeL L cc).1 q).length by omega, List.take_length]
                  rw [hme] at hSm
                  clear hme
                  go_wp2_with fail
                  go_roundw
                  case rel => exact ⟨q + 1, by omega, by go_num, hSm, hbm⟩
                  case measure => simp [intOf]; omega
            · have hqb : decide ((q : Int) < 4) = false := by rw [decide_eq_false_iff_not]; omega
              have hV20 := Lib.hid (hV14.out.below hbq)
              have hU20 := Lib.hid (hU14.out.below hbq)
              go_wp2_with (first
                | (refine wpList_load_var rfl 38 (.tmp 3) rfl w1.heap.size rfl 38 (takeL L cc).1 hV20.out _ Try.underlying38 rfl SZ.out ?_; intro f21 hf21)
                | (refine wpList_load_var rfl 34 (.tmp 4) rfl w2.heap.size rfl 34 (takeL L cc).1 hU20.out _ Try.underlying34 rfl RZ.out ?_; intro f22 hf22)
                | (go_at_call 33; refine (rsame_any ⟨f21, rfl, hf21⟩ ⟨f22, rfl, hf22⟩ hSn.out).mono ?_; rintro e w23 ⟨rfl, hb23⟩))
              go_roundw
              case rel => exact ⟨k + 1, (takeL L cc).1, by omega, by omega, by go_num, Lib.hid (hV20.out.below hb23), Lib.hid (hU20.out.below hb23), hLn, hBn, hGn, (hb14.trans (hbq.mono hb14.size)).trans (hb23.mono (Nat.le_trans hb14.size hbq.size))⟩
              case measure => simp [intOf]; omega
        rcases h4 : (kk % 5 == 4) with _ | _
        rotate_left
        · have bk := bk
          go_wp2_with (refine wpList_load_var rfl 38 (.tmp 3) rfl w1.heap.size rfl 38 L hV4.out _ Try.underlying38 rfl SZ.out ?_; intro f5 hf5)
          refine (cut_any pp ⟨f5, rfl, hf5⟩ hSL.out hBL.out).mono ?_
          rintro e w6 ⟨v6, rfl, hv6, hb6⟩
          have hv6 := Lib.hid hv6
          have hV6 := Lib.hid (hV4.out.below hb6)
          have hU6 := Lib.hid (hU4.out.below hb6)
          have hB6 := Lib.hid (hB4.out.below hb6 hB4.out.lt)
          have hb6' := hb4.trans (hb6.mono hb4.size)
          clear a0 a1 a2 hf5
          go_wp2_with (first
            | (refine wpList_new rfl (.alloc 38) rfl w6.heap.size rfl 38 nil4 (by kernel_rfl) ?_; intro w7 hs7 hb7 hN7; have hN7 := Lib.hid (VarL.nil hN7); have hv7 := Lib.hid (hv6.out.below hb7); clear hs7)
            | (refine wpList_store_var rfl 38 (.tmp 13) (.tmp 103) rfl w6.heap.size rfl _ rfl (cutL L pp) hv7.out 38 noL hN7.out SZ.out ?_; intro w8 hN8 hg8 hs8; refine stop_here ?_))
          clear hs8
          have hN8 := Lib.hid hN8
          have hb8 := grown_below hb7 hg8 hb7.size (Nat.le_refl _)
          have hV8 := Lib.hid (hV6.out.below hb8)
          have hU8 := Lib.hid (hU6.out.below hb8)
          have hB8 := Lib.hid (hB6.out.below hb8 hB6.out.lt)
          have hb8' := hb6'.trans (hb8.mono hb6'.size)
          have hn1 : w2.heap.size < w6.heap.size := hU6.out.lt
          have a1 := hB8.out.cell 1
          have a2 := hB8.out.cell 2
          clear hN7 hv7 hv6 hg8 hV6 hU6 hB6
          refine go_on ?_
          go_wp2_with (refine wpList_load_var rfl 34 (.tmp 4) rfl w2.heap.size rfl 34 L hU8.out _ Try.underlying34 rfl RZ.out ?_; intro f9 hf9)
          refine (rcut_any pp ⟨f9, rfl, hf9⟩ hSL.out hBL.out).mono ?_
          rintro e w10 ⟨v10, rfl, hv10, hb10⟩
          have hv10 := Lib.hid hv10
          have hV10 := Lib.hid (hV8.out.below hb10)
          have hU10 := Lib.hid (hU8.out.below hb10)
          have hN10 := Lib.hid (hN8.out.below hb10)
          have hb10' := hb8'.trans (hb10.mono hb8'.size)
          clear a1 a2 hf9 hV8 hU8 hN8
          go_wp2_with (first
            | (refine wpList_new rfl (.alloc 34) rfl w10.heap.size rfl 34 nil4 (by kernel_rfl) ?_; intro w11 hs11 hb11 hM11; have hM11 := Lib.hid (VarL.nil hM11); have hv11 := Lib.hid (hv10.out.below hb11); clear hs11)
            | (refine wpList_store_var rfl 34 (.tmp 15) (.tmp 110) rfl w10.heap.size rfl _ rfl (cutL L pp) hv11.out 34 noL hM11.out RZ.out ?_; intro w12 hM12 hg12 hs12; refine stop_here ?_))
          clear hs12
          have hM12 := Lib.hid hM12
          have hb12 := grown_below hb11 hg12 hb11.size (Nat.le_refl _)
          have hV12 := Lib.hid (hV10.out.below hb12)
          have hU12 := Lib.hid (hU10.out.below hb12)
          have hN12 := Lib.hid (hN10.out.below hb12)
          have hb12' := hb10'.trans (hb12.mono hb10'.size)
          have hn2 : w6.heap.size < w10.heap.size := hN10.out.lt
          clear hM11 hv11 hv10 hg12 hV10 hU10 hN10
          refine go_on ?_
          go_wp2_with (first
            | (refine wpList_load_var rfl 38 (.tmp 13) rfl w6.heap.size rfl 38 (cutL L pp) hN12.out _ Try.underlying38 rfl SZ.out ?_; intro f13 hf13)
            | (refine wpList_store_var rfl 38 (.tmp 3) (.tmp 112) rfl w1.heap.size rfl _ rfl (cutL L pp) ⟨f13, rfl, hf13⟩ 38 L hV12.out SZ.out ?_; intro w13 hV13 hg13 hs13; refine stop_here ?_))
          clear hs13
          have hV13 := Lib.hid hV13
          have hU13 := Lib.hid (hU12.out.other hV12.out (by omega) hg13)
          have hM13 := Lib.hid (hM12.out.other hV12.out (by omega) hg13)
          have hb13 := grown_below (hbr.trans (hb12'.mono hbr.size)) hg13 (Nat.le_trans hbr.size hb12'.size) hb1.size
          clear hV12 hU12 hN12 hM12 hg13
          refine go_on ?_
          go_wp2_with (first
            | (refine wpList_load_var rfl 34 (.tmp 15) rfl w10.heap.size rfl 34 (cutL L pp) hM13.out _ Try.underlying34 rfl RZ.out ?_; intro f14 hf14)
            | (refine wpList_store_var rfl 34 (.tmp 4) (.tmp 113) rfl w2.heap.size rfl _ rfl (cutL L pp) ⟨f14, rfl, hf14⟩ 34 L hU13.out RZ.out ?_; intro w14 hU14 hg14 hs14; refine stop_here ?_))
          clear hs14
          have hU14 := Lib.hid hU14
          have hV14 := Lib.hid (hV13.out.other hU13.out (by omega) hg14)
          have hb14 := grown_below hb13 hg14 hb13.size hb2'.size
          clear hM13 hU13 hV13 hg14
          have hne0 : (goneTo L pp 4 != goneTo L pp 4) = false := bne_self_eq_false _
          have hLn : Hid (∀ j, j < 4 → ((cutL L pp) j).length ≤ k + 1) := Lib.hid (fun j hj => Nat.le_succ_of_le (cutL_short pp hLk.out j hj))
          have hBn : Hid (BdL (cutL L pp)) := Lib.hid (cutL_bd hBL.out)
          have hGn : Hid (GoodL (cutL L pp)) := Lib.hid (good_cut hGL.out)
          refine go_on ?_
          obtain ⟨f15, hB15, hf15⟩ := hV14.out
          have hB15 := Lib.hid hB15
          have hf15 := Lib.hid hf15
          have hSn : Hid (ShortL (cutL L pp)) := Lib.hid fun j hj => Nat.le_trans (hLn.out j hj) (by omega)
          go_wp2_with (first
            | (refine wpList_newmap rfl 56 rfl (by kernel_rfl) ?_; intro w15 hb15 hS15; have hS15 := Lib.hid hS15)
            | (refine wpList_load_blk rfl 38 (.tmp 3) rfl w1.heap.size rfl 38 (arr4 f15) (hB15.out.below hb15 hB15.out.lt) _ Try.underlying38 rfl SZ.out ?_))
          go_loopw [119] (fun c wr => ∃ q : Nat, q ≤ 4 ∧ c = .int .i64 q ∧ Hid (SeenL wr w14.heap.size (seenTo (cutL L pp) q).length (seenTo (cutL L pp) q)) ∧ Below w14.heap.size w14 wr) (fun c _ => 4 - (intOf c).toNat)
          case atStart => exact ⟨0, by omega, rfl, hS15, hb15⟩
          case round =>
            obtain ⟨q, hq, rfl, hSq, hbq⟩ := hrel
            obtain ⟨wq, rfl⟩ : ∃ wq : World, wq = wr := ⟨_, rfl⟩
            have hqz : (0 : Int) ≤ (q : Int) := by omega
            by_cases hq4 : q < 4
            · have hql : (q : Int) < 4 := by omega
              have hqb : decide ((q : Int) < 4) = true := by rw [decide_eq_true_iff]; omega
              have hget := index_lists f15 hq4 wq
              obtain ⟨Aq, cq, eq, _⟩ := (hf15.out q hq4).len
              have hRq := hf15.out q hq4
              rw [eq] at hget hRq
              have hRq := Lib.hid hRq
              clear eq
              go_wp2_with fail
              go_loopw [125] (fun i wr => ∃ m : Nat, m ≤ ((cutL L pp) q).length ∧ i = .int .i64 m ∧ Hid (SeenL wr w14.heap.size (seenTo (cutL L pp) q ++ ((cutL L pp) q).take m).length (seenTo (cutL L pp) q ++ ((cutL L pp) q).take m)) ∧ Below w14.heap.size w14 wr) (fun i _ => ((cutL L pp) q).length - (intOf i).toNat)
              case atStart => exact ⟨0, by omega, rfl, by simpa using hSq, hbq⟩
              case round =>
                obtain ⟨m, hm, rfl, hSm, hbm⟩ := hrel
                obtain ⟨wm, rfl⟩ : ∃ wm : World, wm = wr := ⟨_, rfl⟩
                have hmz : (0 : Int) ≤ (m : Int) := by omega
                by_cases hml : m < ((cutL L pp) q).length
                · have hml' : (m : Int) < ((((cutL L pp) q).length : Nat) : Int) := by omega
                  have hmb : decide ((m : Int) < ((((cutL L pp) q).length : Nat) : Int)) = true := by rw [decide_eq_true_iff]; omega
                  have hx9 := hBn.out q hq4 _ (List.getElem_mem hml)
                  have hbx := hGn.out.1 q hq4 _ (List.getElem_mem hml)
                  have hx1 : 1 ≤ ((cutL L pp) q)[m] := (of_decide_eq_true hbx).1
                  have hlq9 := hLn.out q hq4
                  have hfr := fresh_at hGn.out hq4 hml
                  have hha := good_has hGn.out hq4 (List.getElem_mem hml)
                  have hsn := take_snoc ((cutL L pp) q) hml
                  have hcn := seenTo_len (n := 101) (fun j hj => Nat.le_trans (hLn.out j hj) (by omega)) q (by omega)
                  have hcl : (seenTo (cutL L pp) q ++ ((cutL L pp) q).take m).length ≤ 505 := by have := hLn.out q hq4; simp; omega
                  obtain ⟨x, hx⟩ : ∃ x, x = ((cutL L pp) q)[m] := ⟨_, rfl⟩
                  obtain ⟨bq, oq, rfl, _, hcx⟩ := (hRq.out.below hbm).at_ hml
                  rw [← hx] at hx9 hbx hx1 hfr hha hcx hsn
                  replace hcx : wm.cell? ⟨bq, oq + m, none⟩ = some (.int .i64 x) := hcx
                  clear hx
                  have hwf : (Lit.int .i64 x).wf = true := by simp [Lit.wf, IntKind.min, IntKind.max, IntKind.signed, IntKind.bits]; omega
                  have hlook := hSm.out.look hfr hwf
                  have hbm' := hB15.out.below hbm hB15.out.lt
                  obtain ⟨l0, l1, l2, l3⟩ := cell_arr4 hbm'
                  have hrl : Hid (RdL wm (.agg #[f15 0, f15 1, f15 2, f15 3]) (cutL L pp)) := Lib.hid ⟨f15, rfl, fun j hj => (hf15.out j hj).below hbm⟩
                  have hsn := Lib.hid hsn
                  have hha := Lib.hid hha
                  have hwf := Lib.hid hwf
                  clear hfr hbm' hcn
                  go_wp2_with (first
                    | (go_at_call 23; refine (begins_ok _ _ _ hx9).mono ?_; rintro e w' ⟨rfl, rfl⟩)
                    | (go_at_call 34; refine (has_any x q hrl.out hSn.out hha.out).mono ?_; rintro e w17 ⟨rfl, hb17⟩; obtain ⟨D, hD1, hD2⟩ := hSm.out.kept hb17; have hD1 := Lib.hid hD1; have hD2 := Lib.hid hD2)
                    | (at_mapUpdate; refine wpList_mapUpdate_own _ rfl _ _ _ 56 rfl 3 4 seen_law Try.underlying56 _ w14.heap.size _ D rfl hD1.out (by unfold maxLen; omega) _ _ (.int .i64 x) rfl rfl (keyOf_int_mk Try.underlying3 hwf.out) (.lit (.bool true)) [] (plainElem_bool Try.underlying4 true) ?_; intro w18 hown18 hg18))
                  go_roundw
                  case rel => exact ⟨m + 1, by omega, by go_num, Lib.hid (by have h := SeenL.put (x := x) hD2.out hown18; rw [hsn.out, ← List.append_assoc, List.length_append]; exact h), grown_below (hbm.trans (hb17.mono hbm.size)) hg18 (Nat.le_trans hbm.size hb17.size) (Nat.le_refl _)⟩
                  case measure => simp [intOf]; omega
                · have hmb : decide ((m : Int) < ((((cutL L pp) q).length : Nat) : Int)) = false := by rw [decide_eq_false_iff_not]; omega
                  have hme : ((cutL L pp) q).take m = (cutL L pp) q := by rw [show m = ((cutL L pp) q).length by omega, List.take_length]
                  rw [hme] at hSm
                  clear hme
                  go_wp2_with fail
                  go_roundw
                  case rel => exact ⟨q + 1, by omega, by go_num, hSm, hbm⟩
                  case measure => simp [intOf]; omega
            · have hqb : decide ((q : Int) < 4) = false := by rw [decide_eq_false_iff_not]; omega
              have hV20 := Lib.hid (hV14.out.below hbq)
              have hU20 := Lib.hid (hU14.out.below hbq)
              go_wp2_with (first
                | (refine wpList_load_var rfl 38 (.tmp 3) rfl w1.heap.size rfl 38 (cutL L pp) hV20.out _ Try.underlying38 rfl SZ.out ?_; intro f21 hf21)
                | (refine wpList_load_var rfl 34 (.tmp 4) rfl w2.heap.size rfl 34 (cutL L pp) hU20.out _ Try.underlying34 rfl RZ.out ?_; intro f22 hf22)
                | (go_at_call 33; refine (rsame_any ⟨f21, rfl, hf21⟩ ⟨f22, rfl, hf22⟩ hSn.out).mono ?_; rintro e w23 ⟨rfl, hb23⟩))
              go_roundw
              case rel => exact ⟨k + 1, (cutL L pp), by omega, by omega, by go_num, Lib.hid (hV20.out.below hb23), Lib.hid (hU20.out.below hb23), hLn, hBn, hGn, (hb14.trans (hbq.mono hb14.size)).trans (hb23.mono (Nat.le_trans hb14.size hbq.size))⟩
              case measure => simp [intOf]; omega
        go_wp2_with (refine wpList_load_var rfl 38 (.tmp 3) rfl w1.heap.size rfl 38 L hV4.out _ Try.underlying38 rfl SZ.out ?_; intro f5 hf5)
        refine (put_any cc pp ⟨f5, rfl, hf5⟩ hSL.out bp.2).mono ?_
        rintro e w6 ⟨v6, rfl, hv6, hb6⟩
        have hv6 := Lib.hid hv6
        have hV6 := Lib.hid (hV4.out.below hb6)
        have hU6 := Lib.hid (hU4.out.below hb6)
        have hB6 := Lib.hid (hB4.out.below hb6 hB4.out.lt)
        have hb6' := hb4.trans (hb6.mono hb4.size)
        clear a0 a1 a2 hf5
        go_wp2_with (first
          | (refine wpList_new rfl (.alloc 38) rfl w6.heap.size rfl 38 nil4 (by kernel_rfl) ?_; intro w7 hs7 hb7 hN7; have hN7 := Lib.hid (VarL.nil hN7); have hv7 := Lib.hid (hv6.out.below hb7); clear hs7)
          | (refine wpList_store_var rfl 38 (.tmp 17) (.tmp 52) rfl w6.heap.size rfl _ rfl (putL L cc pp).1 hv7.out 38 noL hN7.out SZ.out ?_; intro w8 hN8 hg8 hs8; refine stop_here ?_))
        clear hs8
        have hN8 := Lib.hid hN8
        have hb8 := grown_below hb7 hg8 hb7.size (Nat.le_refl _)
        have hV8 := Lib.hid (hV6.out.below hb8)
        have hU8 := Lib.hid (hU6.out.below hb8)
        have hB8 := Lib.hid (hB6.out.below hb8 hB6.out.lt)
        have hb8' := hb6'.trans (hb8.mono hb6'.size)
        have hn1 : w2.heap.size < w6.heap.size := hU6.out.lt
        have a1 := hB8.out.cell 1
        have a2 := hB8.out.cell 2
        clear hN7 hv7 hv6 hg8 hV6 hU6 hB6
        refine go_on ?_
        go_wp2_with (refine wpList_load_var rfl 34 (.tmp 4) rfl w2.heap.size rfl 34 L hU8.out _ Try.underlying34 rfl RZ.out ?_; intro f9 hf9)
        refine (rput_any cc pp ⟨f9, rfl, hf9⟩ hSL.out bp.2).mono ?_
        rintro e w10 ⟨v10, rfl, hv10, hb10⟩
        have hv10 := Lib.hid hv10
        have hV10 := Lib.hid (hV8.out.below hb10)
        have hU10 := Lib.hid (hU8.out.below hb10)
        have hN10 := Lib.hid (hN8.out.below hb10)
        have hb10' := hb8'.trans (hb10.mono hb8'.size)
        clear a1 a2 hf9 hV8 hU8 hN8
        go_wp2_with (first
          | (refine wpList_new rfl (.alloc 34) rfl w10.heap.size rfl 34 nil4 (by kernel_rfl) ?_; intro w11 hs11 hb11 hM11; have hM11 := Lib.hid (VarL.nil hM11); have hv11 := Lib.hid (hv10.out.below hb11); clear hs11)
          | (refine wpList_store_var rfl 34 (.tmp 19) (.tmp 61) rfl w10.heap.size rfl _ rfl (putL L cc pp).1 hv11.out 34 noL hM11.out RZ.out ?_; intro w12 hM12 hg12 hs12; refine stop_here ?_))
        clear hs12
        have hM12 := Lib.hid hM12
        have hb12 := grown_below hb11 hg12 hb11.size (Nat.le_refl _)
        have hV12 := Lib.hid (hV10.out.below hb12)
        have hU12 := Lib.hid (hU10.out.below hb12)
        have hN12 := Lib.hid (hN10.out.below hb12)
        have hb12' := hb10'.trans (hb12.mono hb10'.size)
        have hn2 : w6.heap.size < w10.heap.size := hN10.out.lt
        clear hM11 hv11 hv10 hg12 hV10 hU10 hN10
        refine go_on ?_
        go_wp2_with (first
          | (refine wpList_load_var rfl 38 (.tmp 17) rfl w6.heap.size rfl 38 (putL L cc pp).1 hN12.out _ Try.underlying38 rfl SZ.out ?_; intro f13 hf13)
          | (refine wpList_store_var rfl 38 (.tmp 3) (.tmp 63) rfl w1.heap.size rfl _ rfl (putL L cc pp).1 ⟨f13, rfl, hf13⟩ 38 L hV12.out SZ.out ?_; intro w13 hV13 hg13 hs13; refine stop_here ?_))
        clear hs13
        have hV13 := Lib.hid hV13
        have hU13 := Lib.hid (hU12.out.other hV12.out (by omega) hg13)
        have hM13 := Lib.hid (hM12.out.other hV12.out (by omega) hg13)
        have hb13 := grown_below (hbr.trans (hb12'.mono hbr.size)) hg13 (Nat.le_trans hbr.size hb12'.size) hb1.size
        clear hV12 hU12 hN12 hM12 hg13
        refine go_on ?_
        go_wp2_with (first
          | (refine wpList_load_var rfl 34 (.tmp 19) rfl w10.heap.size rfl 34 (putL L cc pp).1 hM13.out _ Try.underlying34 rfl RZ.out ?_; intro f14 hf14)
          | (refine wpList_store_var rfl 34 (.tmp 4) (.tmp 64) rfl w2.heap.size rfl _ rfl (putL L cc pp).1 ⟨f14, rfl, hf14⟩ 34 L hU13.out RZ.out ?_; intro w14 hU14 hg14 hs14; refine stop_here ?_))
        clear hs14
        have hU14 := Lib.hid hU14
        have hV14 := Lib.hid (hV13.out.other hU13.out (by omega) hg14)
        have hb14 := grown_below hb13 hg14 hb13.size hb2'.size
        clear hM13 hU13 hV13 hg14
        have hne0 : ((putL L cc pp).2 != (putL L cc pp).2) = false := bne_self_eq_false _
        have hLn : Hid (∀ j, j < 4 → ((putL L cc pp).1 j).length ≤ k + 1) := Lib.hid (fun j hj => putL_short cc pp hLk.out j hj)
        have hBn : Hid (BdL (putL L cc pp).1) := Lib.hid (putL_bd hBL.out bp.2)
        have hGn : Hid (GoodL (putL L cc pp).1) := Lib.hid (good_put hGL.out)
        refine go_on ?_
        obtain ⟨f15, hB15, hf15⟩ := hV14.out
        have hB15 := Lib.hid hB15
        have hf15 := Lib.hid hf15
        have hSn : Hid (ShortL (putL L cc pp).1) := Lib.hid fun j hj => Nat.le_trans (hLn.out j hj) (by omega)
        go_wp2_with (first
          | (refine wpList_newmap rfl 56 rfl (by kernel_rfl) ?_; intro w15 hb15 hS15; have hS15 := Lib.hid hS15)
          | (refine wpList_load_blk rfl 38 (.tmp 3) rfl w1.heap.size rfl 38 (arr4 f15) (hB15.out.below hb15 hB15.out.lt) _ Try.underlying38 rfl SZ.out ?_))
        go_loopw [119] (fun c wr => ∃ q : Nat, q ≤ 4 ∧ c = .int .i64 q ∧ Hid (SeenL wr w14.heap.size (seenTo (putL L cc pp).1 q).length (seenTo (putL L cc pp).1 q)) ∧ Below w14.heap.size w14 wr) (fun c _ => 4 - (intOf c).toNat)
        case atStart => exact ⟨0, by omega, rfl, hS15, hb15⟩
        case round =>
          obtain ⟨q, hq, rfl, hSq, hbq⟩ := hrel
          obtain ⟨wq, rfl⟩ : ∃ wq : World, wq = wr := ⟨_, rfl⟩
          have hqz : (0 : Int) ≤ (q : Int) := by omega
          by_cases hq4 : q < 4
          · have hql : (q : Int) < 4 := by omega
            have hqb : decide ((q : Int) < 4) = true := by rw [decide_eq_true_iff]; omega
            have hget := index_lists f15 hq4 wq
            obtain ⟨Aq, cq, eq, _⟩ := (hf15.out q hq4).len
            have hRq := hf15.out q hq4
            rw [eq] at hget hRq
            have hRq := Lib.hid hRq
            clear eq
            go_wp2_with fail
            go_loopw [125] (fun i wr => ∃ m : Nat, m ≤ ((putL L cc pp).1 q).length ∧ i = .int .i64 m ∧ Hid (SeenL wr w14.heap.size (seenTo (putL L cc pp).1 q ++ ((putL L cc pp).1 q).take m).length (seenTo (putL L cc pp).1 q ++ ((putL L cc pp).1 q).take m)) ∧ Below w14.heap.size w14 wr) (fun i _ => ((putL L cc pp).1 q).length - (intOf i).toNat)
            case atStart => exact ⟨0, by omega, rfl, by simpa using hSq, hbq⟩
            case round =>
              obtain ⟨m, hm, rfl, hSm, hbm⟩ := hrel
              obtain ⟨wm, rfl⟩ : ∃ wm : World, wm = wr := ⟨_, rfl⟩
              have hmz : (0 : Int) ≤ (m : Int) := by omega
              by_cases hml : m < ((putL L cc pp).1 q).length
              · have hml' : (m : Int) < ((((putL L cc pp).1 q).length : Nat) : Int) := by omega
                have hmb : decide ((m : Int) < ((((putL L cc pp).1 q).length : Nat) : Int)) = true := by rw [decide_eq_true_iff]; omega
                have hx9 := hBn.out q hq4 _ (List.getElem_mem hml)
                have hbx := hGn.out.1 q hq4 _ (List.getElem_mem hml)
                have hx1 : 1 ≤ ((putL L cc pp).1 q)[m] := (of_decide_eq_true hbx).1
                have hlq9 := hLn.out q hq4
                have hfr := fresh_at hGn.out hq4 hml
                have hha := good_has hGn.out hq4 (List.getElem_mem hml)
                have hsn := take_snoc ((putL L cc pp).1 q) hml
                have hcn := seenTo_len (n := 101) (fun j hj => Nat.le_trans (hLn.out j hj) (by omega)) q (by omega)
                have hcl : (seenTo (putL L cc pp).1 q ++ ((putL L cc pp).1 q).take m).length ≤ 505 := by have := hLn.out q hq4; simp; omega
                obtain ⟨x, hx⟩ : ∃ x, x = ((putL L cc pp).1 q)[m] := ⟨_, rfl⟩
                obtain ⟨bq, oq, rfl, _, hcx⟩ := (hRq.out.below hbm).at_ hml
                rw [← hx] at hx9 hbx hx1 hfr hha hcx hsn
                replace hcx : wm.cell? ⟨bq, oq + m, none⟩ = some (.int .i64 x) := hcx
                clear hx
                have hwf : (Lit.int .i64 x).wf = true := by simp [Lit.wf, IntKind.min, IntKind.max, IntKind.signed, IntKind.bits]; omega
                have hlook := hSm.out.look hfr hwf
                have hbm' := hB15.out.below hbm hB15.out.lt
                obtain ⟨l0, l1, l2, l3⟩ := cell_arr4 hbm'
                have hrl : Hid (RdL wm (.agg #[f15 0, f15 1, f15 2, f15 3]) (putL L cc pp).1) := Lib.hid ⟨f15, rfl, fun j hj => (hf15.out j hj).below hbm⟩
                have hsn := Lib.hid hsn
                have hha := Lib.hid hha
                have hwf := Lib.hid hwf
                clear hfr hbm' hcn
                go_wp2_with (first
                  | (go_at_call 23; refine (begins_ok _ _ _ hx9).mono ?_; rintro e w' ⟨rfl, rfl⟩)
                  | (go_at_call 34; refine (has_any x q hrl.out hSn.out hha.out).mono ?_; rintro e w17 ⟨rfl, hb17⟩; obtain ⟨D, hD1, hD2⟩ := hSm.out.kept hb17; have hD1 := Lib.hid hD1; have hD2 := Lib.hid hD2)
                  | (at_mapUpdate; refine wpList_mapUpdate_own _ rfl _ _ _ 56 rfl 3 4 seen_law Try.underlying56 _ w14.heap.size _ D rfl hD1.out (by unfold maxLen; omega) _ _ (.int .i64 x) rfl rfl (keyOf_int_mk Try.underlying3 hwf.out) (.lit (.bool true)) [] (plainElem_bool Try.underlying4 true) ?_; intro w18 hown18 hg18))
                go_roundw
                case rel => exact ⟨m + 1, by omega, by go_num, Lib.hid (by have h := SeenL.put (x := x) hD2.out hown18; rw [hsn.out, ← List.append_assoc, List.length_append]; exact h), grown_below (hbm.trans (hb17.mono hbm.size)) hg18 (Nat.le_trans hbm.size hb17.size) (Nat.le_refl _)⟩
                case measure => simp [intOf]; omega
              · have hmb : decide ((m : Int) < ((((putL L cc pp).1 q).length : Nat) : Int)) = false := by rw [decide_eq_false_iff_not]; omega
                have hme : ((putL L cc pp).1 q).take m = (putL L cc pp).1 q := by rw [show m = ((putL L cc pp).1 q).length by omega, List.take_length]
                rw [hme] at hSm
                clear hme
                go_wp2_with fail
                go_roundw
                case rel => exact ⟨q + 1, by omega, by go_num, hSm, hbm⟩
                case measure => simp [intOf]; omega
          · have hqb : decide ((q : Int) < 4) = false := by rw [decide_eq_false_iff_not]; omega
            have hV20 := Lib.hid (hV14.out.below hbq)
            have hU20 := Lib.hid (hU14.out.below hbq)
            go_wp2_with (first
              | (refine wpList_load_var rfl 38 (.tmp 3) rfl w1.heap.size rfl 38 (putL L cc pp).1 hV20.out _ Try.underlying38 rfl SZ.out ?_; intro f21 hf21)
              | (refine wpList_load_var rfl 34 (.tmp 4) rfl w2.heap.size rfl 34 (putL L cc pp).1 hU20.out _ Try.underlying34 rfl RZ.out ?_; intro f22 hf22)
              | (go_at_call 33; refine (rsame_any ⟨f21, rfl, hf21⟩ ⟨f22, rfl, hf22⟩ hSn.out).mono ?_; rintro e w23 ⟨rfl, hb23⟩))
            go_roundw
            case rel => exact ⟨k + 1, (putL L cc pp).1, by omega, by omega, by go_num, Lib.hid (hV20.out.below hb23), Lib.hid (hU20.out.below hb23), hLn, hBn, hGn, (hb14.trans (hbq.mono hb14.size)).trans (hb23.mono (Nat.le_trans hb14.size hbq.size))⟩
            case measure => simp [intOf]; omega
      · have hlc : decide ((k : Int) < 100) = false := by rw [decide_eq_false_iff_not]; omega
        go_wp2_with fail
        go_ret
        exact ⟨rfl, hbr⟩
    · have hlb : decide ((k : Int) < (acts.length : Int)) = false := by rw [decide_eq_false_iff_not]; omega
      go_wp2_with fail
      go_ret
      exact ⟨rfl, hbr⟩
end Go.Proofs.Ytbjchfhglnepiaa
