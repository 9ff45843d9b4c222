/- A row of calls, how many blocks lists have, and what each call does to that. -/
import Derived.Test.YtbjchfhglnepiaaListCalls
set_option linter.unusedVariables false
set_option linter.unusedSimpArgs false
namespace Go.Proofs.Ytbjchfhglnepiaa
open Go.RowKit

/-- A slice of calls reads as a list. -/
def RdA (w : World) (v : Value) (acts : List (Int × Int × Int)) : Prop :=
  ∃ A c, v = .slice A acts.length c ∧ (acts.length ≤ c ∧ c ≤ maxLen) ∧
    (0 < acts.length → ∃ b o, A = some ⟨b, o, none⟩ ∧ b < w.heap.size ∧ ∀ i (h : i < acts.length), w.cell? ⟨b, o + i * 3, none⟩ = some (.int .u8 acts[i].1) ∧ w.cell? ⟨b, o + i * 3 + 1, none⟩ = some (.int .i64 acts[i].2.1) ∧ w.cell? ⟨b, o + i * 3 + 2, none⟩ = some (.int .i64 acts[i].2.2))
theorem RdA.below {w w' : World} {v : Value} {acts : List (Int × Int × Int)} (h : RdA w v acts) (hb : Below w.heap.size w w') : RdA w' v acts := by
  obtain ⟨A, c, rfl, h1, h2⟩ := h
  refine ⟨A, c, rfl, h1, fun hp => ?_⟩
  obtain ⟨b, o, rfl, hlt, hc⟩ := h2 hp
  refine ⟨b, o, rfl, Nat.lt_of_lt_of_le hlt hb.size, fun i hi => ?_⟩
  obtain ⟨c0, c1, c2⟩ := hc i hi
  exact ⟨(hb.cell hlt).trans c0, (hb.cell hlt).trans c1, (hb.cell hlt).trans c2⟩
theorem RdA.len {w : World} {v : Value} {acts : List (Int × Int × Int)} (h : RdA w v acts) : ∃ A c, v = .slice A acts.length c := by
  obtain ⟨A, c, rfl, _⟩ := h
  exact ⟨A, c, rfl⟩
theorem RdA.at_ {w : World} {A : Option Addr} {n c : Nat} {acts : List (Int × Int × Int)} (h : RdA w (.slice A n c) acts) {i : Nat} (hi : i < acts.length) : ∃ b o, A = some ⟨b, o, none⟩ ∧ b < w.heap.size ∧
    w.cell? ⟨b, o + i * 3, none⟩ = some (.int .u8 acts[i].1) ∧ w.cell? ⟨b, o + i * 3 + 1, none⟩ = some (.int .i64 acts[i].2.1) ∧ w.cell? ⟨b, o + i * 3 + 2, none⟩ = some (.int .i64 acts[i].2.2) := by
  obtain ⟨A', c', e, _, h2⟩ := h
  cases e
  obtain ⟨b, o, rfl, hlt, hc⟩ := h2 (by omega)
  exact ⟨b, o, rfl, hlt, hc i hi⟩
def sumL (L : Nat → List Int) : Int := (L 0).length + (L 1).length + (L 2).length + (L 3).length
theorem count_ok {v : Value} {L : Nat → List Int} {w : World} (hv : RdL w v L) (hl : ∀ j, j < 4 → (L j).length ≤ 1099511627776) :
    Calls Try.prog 36 #[v] w fun e w' => e = .returned (.int .i64 (sumL L)) ∧ Below w.heap.size w w' := by
  obtain ⟨f, rfl, hf⟩ := hv
  have h0 := hl 0 (by omega)
  have h1 := hl 1 (by omega)
  have h2 := hl 2 (by omega)
  have h3 := hl 3 (by omega)
  have HF := Lib.hid hf
  clear hf hl
  go_enter Try.func36, Try.ntmps36
  go_wp2_with (refine wpList_new rfl (.box 38 (.tmp 0)) rfl w.heap.size rfl 38 (arr4 f) (by kernel_rfl) ?_; intro w1 hs1 hb1 hB1; refine stop_here ?_)
  obtain ⟨A0, c0, hc0, _⟩ := rd_cell3 hB1 (by omega) ((HF.out 0 (by omega)).below hb1)
  obtain ⟨A1, c1, hc1, _⟩ := rd_cell3 hB1 (by omega) ((HF.out 1 (by omega)).below hb1)
  obtain ⟨A2, c2, hc2, _⟩ := rd_cell3 hB1 (by omega) ((HF.out 2 (by omega)).below hb1)
  obtain ⟨A3, c3, hc3, _⟩ := rd_cell3 hB1 (by omega) ((HF.out 3 (by omega)).below hb1)
  clear hB1 hs1
  refine go_on ?_
  go_wp2_with fail
  go_ret
  exact ⟨rfl, hb1⟩

/-! ### What a call does to the count -/
theorem begins_class' {p c : Int} (h : beginsAt p c = true) : ∃ k : Nat, k < 4 ∧ c = (k : Int) := by
  have := begins_class h
  exact ⟨c.toNat, by omega, by omega⟩
theorem sum_put (L : Nat → List Int) (c p : Int) : sumL (putL L c p).1 = if (putL L c p).2 = 0 then sumL L + 1 else sumL L := by
  unfold putL
  split
  · rfl
  · split
    · rfl
    · next hb _ =>
      obtain ⟨k, hk, rfl⟩ := begins_class' (p := p) (c := c) (by simpa using hb)
      simp only [if_true]
      unfold sumL addL
      match k, hk with
      | 0, _ => simp; omega
      | 1, _ => simp; omega
      | 2, _ => simp; omega
      | 3, _ => simp; omega
theorem sum_take (L : Nat → List Int) (c : Int) : sumL (takeL L c).1 = if (takeL L c).2.2 = 0 then sumL L - 1 else sumL L := by
  unfold takeL
  split
  · rfl
  · split
    · rfl
    · next hc hn =>
      obtain ⟨k, rfl⟩ : ∃ k : Nat, c = (k : Int) := ⟨c.toNat, by omega⟩
      have hk : k < 4 := by omega
      simp only [if_true]
      simp only [Int.toNat_natCast] at hn
      unfold sumL popL
      match k, hk with
      | 0, _ => simp; omega
      | 1, _ => simp; omega
      | 2, _ => simp; omega
      | 3, _ => simp; omega
theorem sum_cut (L : Nat → List Int) (s : Int) : sumL (cutL L s) = sumL L - goneTo L s 4 := by
  have h0 := keep_gone s (L 0)
  have h1 := keep_gone s (L 1)
  have h2 := keep_gone s (L 2)
  have h3 := keep_gone s (L 3)
  simp only [sumL, cutL, goneTo]
  omega
theorem has_put {L : Nat → List Int} {c p : Int} (h : (putL L c p).2 = 0) : hasIn (putL L c p).1 p = c := by
  unfold putL at h ⊢
  split at h
  · cases h
  · next hb =>
    split at h
    · cases h
    · next hh =>
      rw [if_neg hb, if_neg hh]
      obtain ⟨k, hk, rfl⟩ := begins_class' (p := p) (c := c) (by simpa using hb)
      have hno : ∀ j, j < 4 → p ∉ L j := by
        intro j hj hm
        apply hh
        unfold hasIn
        match j, hj with
        | 0, _ => rw [if_pos hm]; omega
        | 1, _ => split <;> first | omega | (rw [if_pos hm]; omega)
        | 2, _ => split <;> first | omega | (split <;> first | omega | (rw [if_pos hm]; omega))
        | 3, _ => split <;> first | omega | (split <;> first | omega | (split <;> first | omega | (rw [if_pos hm]; omega)))
      refine hasIn_here hk ?_ fun j hj hm => ?_
      · simp [addL]
      · have hne : ¬ (j : Int) = (k : Int) := by omega
        simp only [addL] at hm
        rw [if_neg hne] at hm
        exact hno j (by omega) hm
theorem putL_bd {L : Nat → List Int} {c p : Int} (h : BdL L) (hp : p ≤ 9223372036854775807) : BdL (putL L c p).1 := by
  unfold putL
  split
  · exact h
  · split
    · exact h
    · intro j hj x hx
      show x ≤ _
      simp only [addL] at hx
      split at hx
      · rcases List.mem_append.1 hx with hx | hx
        · exact h j hj x hx
        · simp only [List.mem_singleton] at hx
          omega
      · exact h j hj x hx
theorem takeL_bd {L : Nat → List Int} {c : Int} (h : BdL L) : BdL (takeL L c).1 := by
  unfold takeL
  split
  · exact h
  · split
    · exact h
    · intro j hj x hx
      simp only [popL] at hx
      split at hx
      · exact h j hj x (List.mem_of_mem_take hx)
      · exact h j hj x hx
theorem cutL_bd {L : Nat → List Int} {s : Int} (h : BdL L) : BdL (cutL L s) := fun j hj x hx => h j hj x (List.mem_filter.1 hx |>.1)
end Go.Proofs.Ytbjchfhglnepiaa
