/- ListCalls: what the walk shows is true for any lists and any call. -/
import Derived.Test.YtbjchfhglnepiaaListAlive
import Derived.Deep.RegionHeld3
set_option linter.unusedVariables false
set_option linter.unusedSimpArgs false
namespace Go.Proofs.Ytbjchfhglnepiaa
open Go.RowKit

theorem keep_call {P : Program} {f : FuncId} {args : Array Value} {W w : World} {E : Ending → Prop} (hB : Below W.heap.size W w) (h : Below W.heap.size W w → Calls P f args w fun e w' => E e ∧ Below w.heap.size w w') :
    Calls P f args w fun e w' => E e ∧ Below W.heap.size W w' := (h hB).mono fun _ _ h => ⟨h.1, below_all hB h.2⟩
theorem take_any {v : Value} {L : Nat → List Int} (c : Int) {w : World} (hv : RdL w v L) (hl : ShortL L) :
    Calls Try.prog 29 #[v, .int .i64 c] w fun e w' => ∃ v, e = .returned (.tuple #[v, .int .i64 (takeL L c).2.1, .int .i64 (takeL L c).2.2]) ∧ RdL w' v (takeL L c).1 ∧ Below w.heap.size w w' := by
  obtain ⟨f, rfl, hf⟩ := hv
  exact take_ok f L c w hf hl
theorem cut_any {v : Value} {L : Nat → List Int} (s : Int) {w : World} (hv : RdL w v L) (hl : ShortL L) (hbd : BdL L) :
    Calls Try.prog 31 #[v, .int .i64 s] w fun e w' => ∃ v, e = .returned (.tuple #[v, .int .i64 (goneTo L s 4)]) ∧ RdL w' v (cutL L s) ∧ Below w.heap.size w w' := by
  obtain ⟨f, rfl, hf⟩ := hv
  exact cut_ok f L s w hf hl hbd
theorem rput_any {v : Value} {L : Nat → List Int} (c p : Int) {w : World} (hv : RdL w v L) (hl : ShortL L) (hp : p ≤ 9223372036854775807) :
    Calls Try.prog 28 #[v, .int .i64 c, .int .i64 p] w fun e w' => ∃ v, e = .returned (.tuple #[v, .int .i64 (putL L c p).2]) ∧ RdL w' v (putL L c p).1 ∧ Below w.heap.size w w' := by
  obtain ⟨f, rfl, hf⟩ := hv
  exact rput_ok f L c p w hf hl hp
theorem rtake_any {v : Value} {L : Nat → List Int} (c : Int) {w : World} (hv : RdL w v L) (hl : ShortL L) :
    Calls Try.prog 30 #[v, .int .i64 c] w fun e w' => ∃ v, e = .returned (.tuple #[v, .int .i64 (takeL L c).2.1, .int .i64 (takeL L c).2.2]) ∧ RdL w' v (takeL L c).1 ∧ Below w.heap.size w w' := by
  obtain ⟨f, rfl, hf⟩ := hv
  exact rtake_ok f L c w hf hl
theorem rcut_any {v : Value} {L : Nat → List Int} (s : Int) {w : World} (hv : RdL w v L) (hl : ShortL L) (hbd : BdL L) :
    Calls Try.prog 32 #[v, .int .i64 s] w fun e w' => ∃ v, e = .returned (.tuple #[v, .int .i64 (goneTo L s 4)]) ∧ RdL w' v (cutL L s) ∧ Below w.heap.size w w' := by
  obtain ⟨f, rfl, hf⟩ := hv
  exact rcut_ok f L s w hf hl hbd
theorem rhas_any {v : Value} {L : Nat → List Int} (x : Int) {w : World} (hv : RdL w v L) (hl : ShortL L) :
    Calls Try.prog 35 #[v, .int .i64 x] w fun e w' => e = .returned (.int .i64 (hasIn L x)) ∧ Below w.heap.size w w' := by
  obtain ⟨f, rfl, hf⟩ := hv
  exact rhas_ok f L x w hf hl
theorem rsame_any {v u : Value} {L : Nat → List Int} {w : World} (hv : RdL w v L) (hu : RdL w u L) (hl : ShortL L) :
    Calls Try.prog 33 #[v, u] w fun e w' => e = .returned (.bool true) ∧ Below w.heap.size w w' := by
  obtain ⟨f, rfl, hf⟩ := hv
  obtain ⟨g, rfl, hg⟩ := hu
  exact rsame_ok f g L w hf hg hl
theorem few_any {v : Value} {L : Nat → List Int} {w : World} (hv : RdL w v L) (hl : ∀ j, j < 4 → (L j).length ≤ 17592186044416) :
    Calls Try.prog 26 #[v] w fun e w' => e = .returned (.bool (decide ((((L 0).length : Int) + (L 1).length + (L 2).length + (L 3).length) ≤ 100))) ∧ Below w.heap.size w w' := by
  obtain ⟨f, rfl, hf⟩ := hv
  exact few_ok f L w hf hl
theorem VarL.cells {w : World} {n : Nat} {t : TypeId} {L : Nat → List Int} (h : VarL w n t L) : ∃ a b c d, w.cell? ⟨n, 0, none⟩ = some a ∧ w.cell? ⟨n, 1, none⟩ = some b ∧ w.cell? ⟨n, 2, none⟩ = some c ∧ w.cell? ⟨n, 3, none⟩ = some d ∧ RdL w (.agg #[a, b, c, d]) L := by
  obtain ⟨f, hb, hf⟩ := h
  obtain ⟨h0, h1, h2, h3⟩ := cell_arr4 hb
  exact ⟨_, _, _, _, h0, h1, h2, h3, f, rfl, hf⟩
def fewL (L : Nat → List Int) : Bool := decide ((((L 0).length : Int) + (L 1).length + (L 2).length + (L 3).length) ≤ 100)
theorem few_short {L : Nat → List Int} (h : fewL L = true) : ∀ j, j < 4 → (L j).length ≤ 100 := by
  have := of_decide_eq_true h
  exact lt4 (by omega) (by omega) (by omega) (by omega)
theorem putL_short {L : Nat → List Int} (c p : Int) {n : Nat} (h : ∀ j, j < 4 → (L j).length ≤ n) : ∀ j, j < 4 → ((putL L c p).1 j).length ≤ n + 1 := by
  intro j hj
  have := h j hj
  unfold putL
  split
  · exact Nat.le_succ_of_le this
  · split
    · exact Nat.le_succ_of_le this
    · show (addL L c p j).length ≤ n + 1
      unfold addL
      split
      · simpa using this
      · omega
theorem takeL_short {L : Nat → List Int} (c : Int) {n : Nat} (h : ∀ j, j < 4 → (L j).length ≤ n) : ∀ j, j < 4 → ((takeL L c).1 j).length ≤ n := by
  intro j hj
  have := h j hj
  unfold takeL
  split
  · exact this
  · split
    · exact this
    · show (popL L c j).length ≤ n
      unfold popL
      split
      · simp; omega
      · exact this
theorem cutL_short {L : Nat → List Int} (s : Int) {n : Nat} (h : ∀ j, j < 4 → (L j).length ≤ n) : ∀ j, j < 4 → (cutL L s j).length ≤ n := fun j hj => Nat.le_trans (keep_le s _) (h j hj)

set_option maxHeartbeats 3200000 in
set_option maxRecDepth 100000 in
theorem calls_ok (f : Nat → Value) (L : Nat → List Int) (k c p : Int) (w : World) (hf : ∀ j, j < 4 → Rd i64e w (f j) (L j)) (hl : ∀ j, j < 4 → (L j).length ≤ 17592186044416) (hbd : BdL L) (hp : p ≤ 9223372036854775807) :
    Calls Try.prog 8 #[.agg (arr4 f), .agg #[.int .u8 k, .int .i64 c, .int .i64 p]] w fun e w' => e = .returned (.bool true) ∧ Below w.heap.size w w' := by
  have SZ := Lib.hid lists_size
  have RZ := Lib.hid rlists_size
  have HF := Lib.hid hf
  have HL0 := Lib.hid hl
  have HB := Lib.hid hbd
  clear hf hl hbd
  go_enter Try.func8, Try.ntmps8
  go_wp2_with (first
    | (refine wpList_new rfl (.box 34 (.tmp 0)) rfl w.heap.size rfl 34 (arr4 f) (by kernel_rfl) ?_; intro wa hsa hba hBa; have hz2 : w.heap.size < wa.heap.size := (by omega); clear hsa; have hVa := Lib.hid (show VarL wa w.heap.size 34 L from ⟨f, hBa, fun j hj => (HF.out j hj).below hba⟩); clear hBa)
    | (refine wpList_new rfl (.box 36 (.tmp 1)) rfl wa.heap.size rfl 36 #[.int .u8 k, .int .i64 c, .int .i64 p] (by kernel_rfl) ?_; intro wb hsb hbb hBb; have hAb := Lib.hid hBb; clear hBb; have hVb := Lib.hid (hVa.out.below hbb)))
  have hbb' := hba.trans (hbb.mono hba.size)
  clear hsb
  clear hVa
  refine (alive_ok _).mono ?_
  rintro e wc ⟨rfl, hbc⟩
  have hVc := Lib.hid (hVb.out.below hbc)
  have hAc := Lib.hid (hAb.out.below hbc hAb.out.lt)
  have hbc' := hbb'.trans (hbc.mono hbb'.size)
  have hz3 : wa.heap.size < wc.heap.size := hAc.out.lt
  clear hVb hAb
  go_wp2_with (refine wpList_load_var rfl 34 (.tmp 2) rfl w.heap.size rfl 34 L hVc.out _ Try.underlying34 rfl RZ.out ?_; intro fc hfc)
  refine (few_any ⟨fc, rfl, hfc⟩ HL0.out).mono ?_
  rintro e wd ⟨rfl, hbd⟩
  have hVd := Lib.hid (hVc.out.below hbd)
  have hAd := Lib.hid (hAc.out.below hbd hAc.out.lt)
  have hbd' := hbc'.trans (hbd.mono hbc'.size)
  have hz4 : wa.heap.size < wd.heap.size := hAd.out.lt
  clear hVc hAc hfc
  rcases hfew : decide ((((L 0).length : Int) + (L 1).length + (L 2).length + (L 3).length) ≤ 100) with _ | _
  · go_wp2_with fail
    go_ret
    exact ⟨rfl, hbd'⟩
  have h100 := few_short hfew
  have HL : Hid (ShortL L) := Lib.hid fun j hj => Nat.le_trans (h100 j hj) (by omega)
  have HLp : Hid (ShortL (putL L c p).1) := Lib.hid fun j hj => Nat.le_trans (putL_short c p h100 j hj) (by omega)
  have HLt : Hid (ShortL (takeL L c).1) := Lib.hid fun j hj => Nat.le_trans (takeL_short c h100 j hj) (by omega)
  have HLc : Hid (ShortL (cutL L p)) := Lib.hid fun j hj => Nat.le_trans (cutL_short p h100 j hj) (by omega)
  clear h100

  have hc1 : wd.cell? ⟨wa.heap.size, 1, none⟩ = some (.int .i64 c) := hAd.out.cell 1
  have hc2 : wd.cell? ⟨wa.heap.size, 2, none⟩ = some (.int .i64 p) := hAd.out.cell 2
  go_wp2_with (refine wpList_load_var rfl 34 (.tmp 2) rfl w.heap.size rfl 34 L hVd.out _ Try.underlying34 rfl RZ.out ?_; intro fd hfd)
  refine (put_any c p ⟨fd, rfl, hfd⟩ HL.out hp).mono ?_
  rintro e wx1 ⟨vx1, rfl, hvx1, hbx1⟩
  have hvx1 := Lib.hid hvx1
  have hVx1 := Lib.hid (hVd.out.below hbx1)
  have hAx1 := Lib.hid (hAd.out.below hbx1 hAd.out.lt)
  have hbx1' := hbd'.trans (hbx1.mono hbd'.size)
  clear hc1 hc2 hfd hAd hVd
  go_wp2_with (first
    | (refine wpList_new rfl (.alloc 38) rfl wx1.heap.size rfl 38 nil4 (by kernel_rfl) ?_; intro wx2 hsx2 hbx2 hNx2; have hNx2 := Lib.hid (VarL.nil hNx2); have hvx2 := Lib.hid (hvx1.out.below hbx2))
    | (refine wpList_store_var rfl 38 (.tmp 5) (.tmp 31) rfl wx1.heap.size rfl _ rfl (putL L c p).1 hvx2.out 38 noL hNx2.out SZ.out ?_; intro wx3 hNx3 hgx3 hsx3; refine stop_here ?_))
  have hKxx3 := Lib.hid hNx3
  have hVx3 := Lib.hid ((hVx1.out.below hbx2).other hNx2.out (Nat.ne_of_lt hVx1.out.lt) hgx3)
  have hAx3 := Lib.hid ((hAx1.out.below hbx2 hAx1.out.lt).grown hgx3 (fun e => Nat.ne_of_lt hAx1.out.lt (by injection e)))
  have hbx3' := grown_below (hbx1'.trans (hbx2.mono hbx1'.size)) hgx3 (by have := hbx1'.size; omega) hbx1'.size
  have hzx3 : wa.heap.size < wx3.heap.size := hAx3.out.lt
  clear hNx2 hNx3 hgx3 hsx3 hsx2 hvx1 hvx2 hAx1 hVx1
  have hc1 : wx3.cell? ⟨wa.heap.size, 1, none⟩ = some (.int .i64 c) := hAx3.out.cell 1
  have hc2 : wx3.cell? ⟨wa.heap.size, 2, none⟩ = some (.int .i64 p) := hAx3.out.cell 2
  refine go_on ?_
  go_wp2_with (refine wpList_load_var rfl 34 (.tmp 2) rfl w.heap.size rfl 34 L hVx3.out _ Try.underlying34 rfl RZ.out ?_; intro fx3 hfx3)
  refine (rput_any c p ⟨fx3, rfl, hfx3⟩ HL.out hp).mono ?_
  rintro e wy1 ⟨vy1, rfl, hvy1, hby1⟩
  have hvy1 := Lib.hid hvy1
  have hVy1 := Lib.hid (hVx3.out.below hby1)
  have hKxy1 := Lib.hid (hKxx3.out.below hby1)
  have hAy1 := Lib.hid (hAx3.out.below hby1 hAx3.out.lt)
  have hby1' := hbx3'.trans (hby1.mono hbx3'.size)
  clear hc1 hc2 hfx3 hAx3 hVx3 hKxx3
  go_wp2_with (first
    | (refine wpList_new rfl (.alloc 34) rfl wy1.heap.size rfl 34 nil4 (by kernel_rfl) ?_; intro wy2 hsy2 hby2 hNy2; have hNy2 := Lib.hid (VarL.nil hNy2); have hvy2 := Lib.hid (hvy1.out.below hby2))
    | (refine wpList_store_var rfl 34 (.tmp 7) (.tmp 40) rfl wy1.heap.size rfl _ rfl (putL L c p).1 hvy2.out 34 noL hNy2.out RZ.out ?_; intro wy3 hNy3 hgy3 hsy3; refine stop_here ?_))
  have hKyy3 := Lib.hid hNy3
  have hVy3 := Lib.hid ((hVy1.out.below hby2).other hNy2.out (Nat.ne_of_lt hVy1.out.lt) hgy3)
  have hKxy3 := Lib.hid ((hKxy1.out.below hby2).other hNy2.out (Nat.ne_of_lt hKxy1.out.lt) hgy3)
  have hAy3 := Lib.hid ((hAy1.out.below hby2 hAy1.out.lt).grown hgy3 (fun e => Nat.ne_of_lt hAy1.out.lt (by injection e)))
  have hby3' := grown_below (hby1'.trans (hby2.mono hby1'.size)) hgy3 (by have := hby1'.size; omega) hby1'.size
  have hzy3 : wa.heap.size < wy3.heap.size := hAy3.out.lt
  clear hNy2 hNy3 hgy3 hsy3 hsy2 hvy1 hvy2 hAy1 hVy1 hKxy1
  have hc1 : wy3.cell? ⟨wa.heap.size, 1, none⟩ = some (.int .i64 c) := hAy3.out.cell 1
  have hc2 : wy3.cell? ⟨wa.heap.size, 2, none⟩ = some (.int .i64 p) := hAy3.out.cell 2
  refine go_on ?_
  go_wp2_with (refine wpList_load_var rfl 34 (.tmp 2) rfl w.heap.size rfl 34 L hVy3.out _ Try.underlying34 rfl RZ.out ?_; intro fy3 hfy3)
  refine (take_any c ⟨fy3, rfl, hfy3⟩ HL.out).mono ?_
  rintro e wu1 ⟨vu1, rfl, hvu1, hbu1⟩
  have hvu1 := Lib.hid hvu1
  have hVu1 := Lib.hid (hVy3.out.below hbu1)
  have hKxu1 := Lib.hid (hKxy3.out.below hbu1)
  have hKyu1 := Lib.hid (hKyy3.out.below hbu1)
  have hAu1 := Lib.hid (hAy3.out.below hbu1 hAy3.out.lt)
  have hbu1' := hby3'.trans (hbu1.mono hby3'.size)
  clear hc1 hc2 hfy3 hAy3 hVy3 hKxy3 hKyy3
  go_wp2_with (first
    | (refine wpList_new rfl (.alloc 38) rfl wu1.heap.size rfl 38 nil4 (by kernel_rfl) ?_; intro wu2 hsu2 hbu2 hNu2; have hNu2 := Lib.hid (VarL.nil hNu2); have hvu2 := Lib.hid (hvu1.out.below hbu2))
    | (refine wpList_store_var rfl 38 (.tmp 9) (.tmp 47) rfl wu1.heap.size rfl _ rfl (takeL L c).1 hvu2.out 38 noL hNu2.out SZ.out ?_; intro wu3 hNu3 hgu3 hsu3; refine stop_here ?_))
  have hKuu3 := Lib.hid hNu3
  have hVu3 := Lib.hid ((hVu1.out.below hbu2).other hNu2.out (Nat.ne_of_lt hVu1.out.lt) hgu3)
  have hKxu3 := Lib.hid ((hKxu1.out.below hbu2).other hNu2.out (Nat.ne_of_lt hKxu1.out.lt) hgu3)
  have hKyu3 := Lib.hid ((hKyu1.out.below hbu2).other hNu2.out (Nat.ne_of_lt hKyu1.out.lt) hgu3)
  have hAu3 := Lib.hid ((hAu1.out.below hbu2 hAu1.out.lt).grown hgu3 (fun e => Nat.ne_of_lt hAu1.out.lt (by injection e)))
  have hbu3' := grown_below (hbu1'.trans (hbu2.mono hbu1'.size)) hgu3 (by have := hbu1'.size; omega) hbu1'.size
  have hzu3 : wa.heap.size < wu3.heap.size := hAu3.out.lt
  clear hNu2 hNu3 hgu3 hsu3 hsu2 hvu1 hvu2 hAu1 hVu1 hKxu1 hKyu1
  have hc1 : wu3.cell? ⟨wa.heap.size, 1, none⟩ = some (.int .i64 c) := hAu3.out.cell 1
  have hc2 : wu3.cell? ⟨wa.heap.size, 2, none⟩ = some (.int .i64 p) := hAu3.out.cell 2
  refine go_on ?_
  go_wp2_with (refine wpList_load_var rfl 34 (.tmp 2) rfl w.heap.size rfl 34 L hVu3.out _ Try.underlying34 rfl RZ.out ?_; intro fu3 hfu3)
  refine (rtake_any c ⟨fu3, rfl, hfu3⟩ HL.out).mono ?_
  rintro e wv1 ⟨vv1, rfl, hvv1, hbv1⟩
  have hvv1 := Lib.hid hvv1
  have hVv1 := Lib.hid (hVu3.out.below hbv1)
  have hKxv1 := Lib.hid (hKxu3.out.below hbv1)
  have hKyv1 := Lib.hid (hKyu3.out.below hbv1)
  have hKuv1 := Lib.hid (hKuu3.out.below hbv1)
  have hAv1 := Lib.hid (hAu3.out.below hbv1 hAu3.out.lt)
  have hbv1' := hbu3'.trans (hbv1.mono hbu3'.size)
  clear hc1 hc2 hfu3 hAu3 hVu3 hKxu3 hKyu3 hKuu3
  go_wp2_with (first
    | (refine wpList_new rfl (.alloc 34) rfl wv1.heap.size rfl 34 nil4 (by kernel_rfl) ?_; intro wv2 hsv2 hbv2 hNv2; have hNv2 := Lib.hid (VarL.nil hNv2); have hvv2 := Lib.hid (hvv1.out.below hbv2))
    | (refine wpList_store_var rfl 34 (.tmp 12) (.tmp 55) rfl wv1.heap.size rfl _ rfl (takeL L c).1 hvv2.out 34 noL hNv2.out RZ.out ?_; intro wv3 hNv3 hgv3 hsv3; refine stop_here ?_))
  have hKvv3 := Lib.hid hNv3
  have hVv3 := Lib.hid ((hVv1.out.below hbv2).other hNv2.out (Nat.ne_of_lt hVv1.out.lt) hgv3)
  have hKxv3 := Lib.hid ((hKxv1.out.below hbv2).other hNv2.out (Nat.ne_of_lt hKxv1.out.lt) hgv3)
  have hKyv3 := Lib.hid ((hKyv1.out.below hbv2).other hNv2.out (Nat.ne_of_lt hKyv1.out.lt) hgv3)
  have hKuv3 := Lib.hid ((hKuv1.out.below hbv2).other hNv2.out (Nat.ne_of_lt hKuv1.out.lt) hgv3)
  have hAv3 := Lib.hid ((hAv1.out.below hbv2 hAv1.out.lt).grown hgv3 (fun e => Nat.ne_of_lt hAv1.out.lt (by injection e)))
  have hbv3' := grown_below (hbv1'.trans (hbv2.mono hbv1'.size)) hgv3 (by have := hbv1'.size; omega) hbv1'.size
  have hzv3 : wa.heap.size < wv3.heap.size := hAv3.out.lt
  clear hNv2 hNv3 hgv3 hsv3 hsv2 hvv1 hvv2 hAv1 hVv1 hKxv1 hKyv1 hKuv1
  have hc1 : wv3.cell? ⟨wa.heap.size, 1, none⟩ = some (.int .i64 c) := hAv3.out.cell 1
  have hc2 : wv3.cell? ⟨wa.heap.size, 2, none⟩ = some (.int .i64 p) := hAv3.out.cell 2
  refine go_on ?_
  go_wp2_with (refine wpList_load_var rfl 34 (.tmp 2) rfl w.heap.size rfl 34 L hVv3.out _ Try.underlying34 rfl RZ.out ?_; intro fv3 hfv3)
  refine (cut_any p ⟨fv3, rfl, hfv3⟩ HL.out HB.out).mono ?_
  rintro e ws1 ⟨vs1, rfl, hvs1, hbs1⟩
  have hvs1 := Lib.hid hvs1
  have hVs1 := Lib.hid (hVv3.out.below hbs1)
  have hKxs1 := Lib.hid (hKxv3.out.below hbs1)
  have hKys1 := Lib.hid (hKyv3.out.below hbs1)
  have hKus1 := Lib.hid (hKuv3.out.below hbs1)
  have hKvs1 := Lib.hid (hKvv3.out.below hbs1)
  have hAs1 := Lib.hid (hAv3.out.below hbs1 hAv3.out.lt)
  have hbs1' := hbv3'.trans (hbs1.mono hbv3'.size)
  clear hc1 hc2 hfv3 hAv3 hVv3 hKxv3 hKyv3 hKuv3 hKvv3
  go_wp2_with (first
    | (refine wpList_new rfl (.alloc 38) rfl ws1.heap.size rfl 38 nil4 (by kernel_rfl) ?_; intro ws2 hss2 hbs2 hNs2; have hNs2 := Lib.hid (VarL.nil hNs2); have hvs2 := Lib.hid (hvs1.out.below hbs2))
    | (refine wpList_store_var rfl 38 (.tmp 15) (.tmp 63) rfl ws1.heap.size rfl _ rfl (cutL L p) hvs2.out 38 noL hNs2.out SZ.out ?_; intro ws3 hNs3 hgs3 hss3; refine stop_here ?_))
  have hKss3 := Lib.hid hNs3
  have hVs3 := Lib.hid ((hVs1.out.below hbs2).other hNs2.out (Nat.ne_of_lt hVs1.out.lt) hgs3)
  have hKxs3 := Lib.hid ((hKxs1.out.below hbs2).other hNs2.out (Nat.ne_of_lt hKxs1.out.lt) hgs3)
  have hKys3 := Lib.hid ((hKys1.out.below hbs2).other hNs2.out (Nat.ne_of_lt hKys1.out.lt) hgs3)
  have hKus3 := Lib.hid ((hKus1.out.below hbs2).other hNs2.out (Nat.ne_of_lt hKus1.out.lt) hgs3)
  have hKvs3 := Lib.hid ((hKvs1.out.below hbs2).other hNs2.out (Nat.ne_of_lt hKvs1.out.lt) hgs3)
  have hAs3 := Lib.hid ((hAs1.out.below hbs2 hAs1.out.lt).grown hgs3 (fun e => Nat.ne_of_lt hAs1.out.lt (by injection e)))
  have hbs3' := grown_below (hbs1'.trans (hbs2.mono hbs1'.size)) hgs3 (by have := hbs1'.size; omega) hbs1'.size
  have hzs3 : wa.heap.size < ws3.heap.size := hAs3.out.lt
  clear hNs2 hNs3 hgs3 hss3 hss2 hvs1 hvs2 hAs1 hVs1 hKxs1 hKys1 hKus1 hKvs1
  have hc1 : ws3.cell? ⟨wa.heap.size, 1, none⟩ = some (.int .i64 c) := hAs3.out.cell 1
  have hc2 : ws3.cell? ⟨wa.heap.size, 2, none⟩ = some (.int .i64 p) := hAs3.out.cell 2
  refine go_on ?_
  go_wp2_with (refine wpList_load_var rfl 34 (.tmp 2) rfl w.heap.size rfl 34 L hVs3.out _ Try.underlying34 rfl RZ.out ?_; intro fs3 hfs3)
  refine (rcut_any p ⟨fs3, rfl, hfs3⟩ HL.out HB.out).mono ?_
  rintro e wt1 ⟨vt1, rfl, hvt1, hbt1⟩
  have hvt1 := Lib.hid hvt1
  have hVt1 := Lib.hid (hVs3.out.below hbt1)
  have hKxt1 := Lib.hid (hKxs3.out.below hbt1)
  have hKyt1 := Lib.hid (hKys3.out.below hbt1)
  have hKut1 := Lib.hid (hKus3.out.below hbt1)
  have hKvt1 := Lib.hid (hKvs3.out.below hbt1)
  have hKst1 := Lib.hid (hKss3.out.below hbt1)
  have hAt1 := Lib.hid (hAs3.out.below hbt1 hAs3.out.lt)
  have hbt1' := hbs3'.trans (hbt1.mono hbs3'.size)
  clear hc1 hc2 hfs3 hAs3 hVs3 hKxs3 hKys3 hKus3 hKvs3 hKss3
  go_wp2_with (first
    | (refine wpList_new rfl (.alloc 34) rfl wt1.heap.size rfl 34 nil4 (by kernel_rfl) ?_; intro wt2 hst2 hbt2 hNt2; have hNt2 := Lib.hid (VarL.nil hNt2); have hvt2 := Lib.hid (hvt1.out.below hbt2))
    | (refine wpList_store_var rfl 34 (.tmp 17) (.tmp 70) rfl wt1.heap.size rfl _ rfl (cutL L p) hvt2.out 34 noL hNt2.out RZ.out ?_; intro wt3 hNt3 hgt3 hst3; refine stop_here ?_))
  have hKtt3 := Lib.hid hNt3
  have hVt3 := Lib.hid ((hVt1.out.below hbt2).other hNt2.out (Nat.ne_of_lt hVt1.out.lt) hgt3)
  have hKxt3 := Lib.hid ((hKxt1.out.below hbt2).other hNt2.out (Nat.ne_of_lt hKxt1.out.lt) hgt3)
  have hKyt3 := Lib.hid ((hKyt1.out.below hbt2).other hNt2.out (Nat.ne_of_lt hKyt1.out.lt) hgt3)
  have hKut3 := Lib.hid ((hKut1.out.below hbt2).other hNt2.out (Nat.ne_of_lt hKut1.out.lt) hgt3)
  have hKvt3 := Lib.hid ((hKvt1.out.below hbt2).other hNt2.out (Nat.ne_of_lt hKvt1.out.lt) hgt3)
  have hKst3 := Lib.hid ((hKst1.out.below hbt2).other hNt2.out (Nat.ne_of_lt hKst1.out.lt) hgt3)
  have hAt3 := Lib.hid ((hAt1.out.below hbt2 hAt1.out.lt).grown hgt3 (fun e => Nat.ne_of_lt hAt1.out.lt (by injection e)))
  have hbt3' := grown_below (hbt1'.trans (hbt2.mono hbt1'.size)) hgt3 (by have := hbt1'.size; omega) hbt1'.size
  have hzt3 : wa.heap.size < wt3.heap.size := hAt3.out.lt
  clear hNt2 hNt3 hgt3 hst3 hst2 hvt1 hvt2 hAt1 hVt1 hKxt1 hKyt1 hKut1 hKvt1 hKst1
  have hA9 := hAt3.out.cell 2
  have heq1 : ((putL L c p).2 == (putL L c p).2) = true := beq_self_eq_true _
  have heq2 : ((takeL L c).2.1 == (takeL L c).2.1) = true := beq_self_eq_true _
  have heq3 : ((takeL L c).2.2 == (takeL L c).2.2) = true := beq_self_eq_true _
  have heq4 : (goneTo L p 4 == goneTo L p 4) = true := beq_self_eq_true _
  have heq5 : (hasIn L p == hasIn L p) = true := beq_self_eq_true _
  have hltl := hVt3.out.lt
  obtain ⟨l0, l1, l2, l3, cl0, cl1, cl2, cl3, rl⟩ := hVt3.out.cells
  have rl := Lib.hid rl
  have hltx := hKxt3.out.lt
  obtain ⟨x0, x1, x2, x3, cx0, cx1, cx2, cx3, rx⟩ := hKxt3.out.cells
  have rx := Lib.hid rx
  have hlty := hKyt3.out.lt
  obtain ⟨y0, y1, y2, y3, cy0, cy1, cy2, cy3, ry⟩ := hKyt3.out.cells
  have ry := Lib.hid ry
  have hltu := hKut3.out.lt
  obtain ⟨u0, u1, u2, u3, cu0, cu1, cu2, cu3, ru⟩ := hKut3.out.cells
  have ru := Lib.hid ru
  have hltv := hKvt3.out.lt
  obtain ⟨v0, v1, v2, v3, cv0, cv1, cv2, cv3, rv⟩ := hKvt3.out.cells
  have rv := Lib.hid rv
  have hlts := hKst3.out.lt
  obtain ⟨s0, s1, s2, s3, cs0, cs1, cs2, cs3, rs⟩ := hKst3.out.cells
  have rs := Lib.hid rs
  have hltt := hKtt3.out.lt
  obtain ⟨t0, t1, t2, t3, ct0, ct1, ct2, ct3, rt⟩ := hKtt3.out.cells
  have rt := Lib.hid rt
  have HK : Hid (∀ w', Below wt3.heap.size wt3 w' → Below wt3.heap.size wt3 w' ∧ w'.cell? ⟨w.heap.size, 0, none⟩ = some l0 ∧ w'.cell? ⟨w.heap.size, 1, none⟩ = some l1 ∧ w'.cell? ⟨w.heap.size, 2, none⟩ = some l2 ∧ w'.cell? ⟨w.heap.size, 3, none⟩ = some l3 ∧ w'.cell? ⟨wx1.heap.size, 0, none⟩ = some x0 ∧ w'.cell? ⟨wx1.heap.size, 1, none⟩ = some x1 ∧ w'.cell? ⟨wx1.heap.size, 2, none⟩ = some x2 ∧ w'.cell? ⟨wx1.heap.size, 3, none⟩ = some x3 ∧ w'.cell? ⟨wy1.heap.size, 0, none⟩ = some y0 ∧ w'.cell? ⟨wy1.heap.size, 1, none⟩ = some y1 ∧ w'.cell? ⟨wy1.heap.size, 2, none⟩ = some y2 ∧ w'.cell? ⟨wy1.heap.size, 3, none⟩ = some y3 ∧ w'.cell? ⟨wu1.heap.size, 0, none⟩ = some u0 ∧ w'.cell? ⟨wu1.heap.size, 1, none⟩ = some u1 ∧ w'.cell? ⟨wu1.heap.size, 2, none⟩ = some u2 ∧ w'.cell? ⟨wu1.heap.size, 3, none⟩ = some u3 ∧ w'.cell? ⟨wv1.heap.size, 0, none⟩ = some v0 ∧ w'.cell? ⟨wv1.heap.size, 1, none⟩ = some v1 ∧ w'.cell? ⟨wv1.heap.size, 2, none⟩ = some v2 ∧ w'.cell? ⟨wv1.heap.size, 3, none⟩ = some v3 ∧ w'.cell? ⟨ws1.heap.size, 0, none⟩ = some s0 ∧ w'.cell? ⟨ws1.heap.size, 1, none⟩ = some s1 ∧ w'.cell? ⟨ws1.heap.size, 2, none⟩ = some s2 ∧ w'.cell? ⟨ws1.heap.size, 3, none⟩ = some s3 ∧ w'.cell? ⟨wt1.heap.size, 0, none⟩ = some t0 ∧ w'.cell? ⟨wt1.heap.size, 1, none⟩ = some t1 ∧ w'.cell? ⟨wt1.heap.size, 2, none⟩ = some t2 ∧ w'.cell? ⟨wt1.heap.size, 3, none⟩ = some t3 ∧ w'.cell? ⟨wa.heap.size, 2, none⟩ = some (.int .i64 p)) := Lib.hid fun w' hB => ⟨hB, (hB.cell hltl).trans cl0, (hB.cell hltl).trans cl1, (hB.cell hltl).trans cl2, (hB.cell hltl).trans cl3, (hB.cell hltx).trans cx0, (hB.cell hltx).trans cx1, (hB.cell hltx).trans cx2, (hB.cell hltx).trans cx3, (hB.cell hlty).trans cy0, (hB.cell hlty).trans cy1, (hB.cell hlty).trans cy2, (hB.cell hlty).trans cy3, (hB.cell hltu).trans cu0, (hB.cell hltu).trans cu1, (hB.cell hltu).trans cu2, (hB.cell hltu).trans cu3, (hB.cell hltv).trans cv0, (hB.cell hltv).trans cv1, (hB.cell hltv).trans cv2, (hB.cell hltv).trans cv3, (hB.cell hlts).trans cs0, (hB.cell hlts).trans cs1, (hB.cell hlts).trans cs2, (hB.cell hlts).trans cs3, (hB.cell hltt).trans ct0, (hB.cell hltt).trans ct1, (hB.cell hltt).trans ct2, (hB.cell hltt).trans ct3, (hB.cell hzt3).trans hA9⟩
  have hD0 : Below wt3.heap.size wt3 wt3.drew := (Below.refl _ _).drew
  clear hA9 hzt3 hAt3 hltl cl0 cl1 cl2 cl3 hVt3 hltx cx0 cx1 cx2 cx3 hKxt3 hlty cy0 cy1 cy2 cy3 hKyt3 hltu cu0 cu1 cu2 cu3 hKut3 hltv cv0 cv1 cv2 cv3 hKvt3 hlts cs0 cs1 cs2 cs3 hKst3 hltt ct0 ct1 ct2 ct3 hKtt3
  refine go_on ?_
  go_wp2_with fail
  go_region_held3 (fun w' => Below wt3.heap.size wt3 w' ∧ w'.cell? ⟨w.heap.size, 0, none⟩ = some l0 ∧ w'.cell? ⟨w.heap.size, 1, none⟩ = some l1 ∧ w'.cell? ⟨w.heap.size, 2, none⟩ = some l2 ∧ w'.cell? ⟨w.heap.size, 3, none⟩ = some l3 ∧ w'.cell? ⟨wx1.heap.size, 0, none⟩ = some x0 ∧ w'.cell? ⟨wx1.heap.size, 1, none⟩ = some x1 ∧ w'.cell? ⟨wx1.heap.size, 2, none⟩ = some x2 ∧ w'.cell? ⟨wx1.heap.size, 3, none⟩ = some x3 ∧ w'.cell? ⟨wy1.heap.size, 0, none⟩ = some y0 ∧ w'.cell? ⟨wy1.heap.size, 1, none⟩ = some y1 ∧ w'.cell? ⟨wy1.heap.size, 2, none⟩ = some y2 ∧ w'.cell? ⟨wy1.heap.size, 3, none⟩ = some y3 ∧ w'.cell? ⟨wu1.heap.size, 0, none⟩ = some u0 ∧ w'.cell? ⟨wu1.heap.size, 1, none⟩ = some u1 ∧ w'.cell? ⟨wu1.heap.size, 2, none⟩ = some u2 ∧ w'.cell? ⟨wu1.heap.size, 3, none⟩ = some u3 ∧ w'.cell? ⟨wv1.heap.size, 0, none⟩ = some v0 ∧ w'.cell? ⟨wv1.heap.size, 1, none⟩ = some v1 ∧ w'.cell? ⟨wv1.heap.size, 2, none⟩ = some v2 ∧ w'.cell? ⟨wv1.heap.size, 3, none⟩ = some v3 ∧ w'.cell? ⟨ws1.heap.size, 0, none⟩ = some s0 ∧ w'.cell? ⟨ws1.heap.size, 1, none⟩ = some s1 ∧ w'.cell? ⟨ws1.heap.size, 2, none⟩ = some s2 ∧ w'.cell? ⟨ws1.heap.size, 3, none⟩ = some s3 ∧ w'.cell? ⟨wt1.heap.size, 0, none⟩ = some t0 ∧ w'.cell? ⟨wt1.heap.size, 1, none⟩ = some t1 ∧ w'.cell? ⟨wt1.heap.size, 2, none⟩ = some t2 ∧ w'.cell? ⟨wt1.heap.size, 3, none⟩ = some t3 ∧ w'.cell? ⟨wa.heap.size, 2, none⟩ = some (.int .i64 p))
    (exact HK.out _ (by assumption))
    (first
      | (go_at_call_of 33 (Value.agg #[x0, x1, x2, x3]); refine (keep_call (W := wt3) ?_ fun hk => rsame_any (rx.out.below hk) (ry.out.below hk) HLp.out).mono ?_; (first | assumption | (simp [*]; done)); rintro e w'' ⟨rfl, hq⟩)
      | (go_at_call_of 33 (Value.agg #[u0, u1, u2, u3]); refine (keep_call (W := wt3) ?_ fun hk => rsame_any (ru.out.below hk) (rv.out.below hk) HLt.out).mono ?_; (first | assumption | (simp [*]; done)); rintro e w'' ⟨rfl, hq⟩)
      | (go_at_call_of 33 (Value.agg #[s0, s1, s2, s3]); refine (keep_call (W := wt3) ?_ fun hk => rsame_any (rs.out.below hk) (rt.out.below hk) HLc.out).mono ?_; (first | assumption | (simp [*]; done)); rintro e w'' ⟨rfl, hq⟩)
      | (go_at_call 34; refine (keep_call (W := wt3) ?_ fun hk => has_any p _ (rl.out.below hk) HL.out rfl).mono ?_; (first | assumption | (simp [*]; done)); rintro e w'' ⟨rfl, hq⟩)
      | (go_at_call 35; refine (keep_call (W := wt3) ?_ fun hk => rhas_any p (rl.out.below hk) HL.out).mono ?_; (first | assumption | (simp [*]; done)); rintro e w'' ⟨rfl, hq⟩))
  go_wp2_with fail
  go_ret
  exact ⟨rfl, hbt3'.trans (hq.mono hbt3'.size)⟩
end Go.Proofs.Ytbjchfhglnepiaa