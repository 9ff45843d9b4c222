/- The blocks of a span do not meet, and have all of its words; each of these begins just where a block does: for every span of 16 bits and every class of 8 bits; no condition. -/
import Derived.Test.YtlbjcaefemmjmaaPClassWholex2
import Derived.OpenShut
namespace Go.Proofs.Ytlbjcaefemmjmaa.Pure
open Go.RowKit Go.Proofs.Ytlbjcaefemmjmaa.PClassWhole Go.Proofs.YtlbjcaefemmjmaaW.PrintWords Go.Proofs.YtlbjcaefemmjmaaW.PrintLast Go.Proofs.YtlbjcaefemmjmaaW.PrintMore

theorem whole_alive : lockstitchlaw13_alive.f 60 = some true := by decide +kernel
theorem whole_w0 : class_Words.f 0 = some 1 := by decide +kernel
theorem whole_w1 : class_Words.f 1 = some 2 := by decide +kernel
theorem whole_w2 : class_Words.f 2 = some 4 := by decide +kernel
theorem whole_w3 : class_Words.f 3 = some 8 := by decide +kernel
theorem whole_wrap (n : Int) (h0 : -1000000000 ≤ n) (h1 : n ≤ 1000000000) : wrap64 n = n := by unfold wrap64; omega
theorem whole_in (p : Int) (h1 : 1 ≤ p) (h2 : p ≤ 1000000) : class_In.f p = some ((p - 1) / 8) := by
  unfold class_In.f
  rw [if_neg (by omega), whole_wrap (p - 1) (by omega) (by omega), Int.tdiv_eq_ediv_of_nonneg (by omega), whole_wrap _ (by omega) (by omega)]
theorem whole_begins (p c m : Int) (hm : 1 ≤ m) (hc : class_Words.f c = some m) (h1 : 1 ≤ p) (h2 : p ≤ 1000000) : class_Begins.f p c = some ((p - 1) % m == 0) := by
  unfold class_Begins.f
  rw [hc]
  simp only [Option.bind_some]
  rw [if_pos (by omega), if_pos (by omega), if_neg (by omega), whole_wrap (p - 1) (by omega) (by omega), Int.tmod_eq_emod_of_nonneg (by omega)]

/-- The blocks of a span: so many, one behind the other. -/
def cutIn (b m : Int) (n : Nat) : List Int := (List.range n).map fun (j : Nat) => b + m * (j : Int)

theorem cutIn_succ (b m : Int) (n : Nat) : cutIn b m (n + 1) = cutIn b m n ++ [b + m * (n : Int)] := by
  unfold cutIn; rw [List.range_succ, List.map_append]; rfl
theorem cutIn_len (b m : Int) (n : Nat) : (cutIn b m n).length = n := by simp [cutIn]

theorem blocks_from (s m : Int) (hs0 : 0 ≤ s) (hs1 : s ≤ 70000) (hm : 1 ≤ m) (hm8 : m ≤ 8) (d : Nat) : ∀ (j k : Nat), m * ((j + d : Nat) : Int) = 8 → (∀ i : Nat, i < d → m * ((j + i : Nat) : Int) < 8) → d < k → 
    class_Blocks.l0 k s m (cutIn (8 * s + 1) m j) (m * (j : Int)) = some (cutIn (8 * s + 1) m (j + d)) := by
  induction d with
  | zero =>
    intro j k h1 _ hk
    obtain ⟨k, rfl⟩ : ∃ q, k = q + 1 := ⟨k - 1, by omega⟩
    simp only [class_Blocks.l0, Nat.add_zero] at h1 ⊢
    rw [if_neg (by omega)]
  | succ d ih =>
    intro j k h1 h3 hk
    obtain ⟨k, rfl⟩ : ∃ q, k = q + 1 := ⟨k - 1, by omega⟩
    have hlt := h3 0 (by omega)
    simp only [Nat.add_zero] at hlt
    have hj : (j : Int) < 8 := by
      rcases Int.lt_or_le (j : Int) 8 with h | h
      · exact h
      · exfalso
        have := Int.mul_le_mul hm h (by omega) (by omega)
        omega
    have h0m : 0 ≤ m * (j : Int) := Int.mul_nonneg (by omega) (by omega)
    simp only [class_Blocks.l0]
    rw [if_pos hlt, if_pos (by rw [cutIn_len]; omega)]
    rw [whole_wrap (8 * s) (by omega) (by omega), whole_wrap (8 * s + 1) (by omega) (by omega), whole_wrap (8 * s + 1 + m * (j : Int)) (by omega) (by omega), whole_wrap (m * (j : Int) + m) (by omega) (by omega), ← cutIn_succ]
    have e : m * (j : Int) + m = m * ((j + 1 : Nat) : Int) := by push_cast; rw [Int.mul_add, Int.mul_one]
    rw [e]
    have := ih (j + 1) k (by rw [show j + 1 + d = j + (d + 1) from by omega]; exact h1) (fun i hi => by rw [show j + 1 + i = j + (i + 1) from by omega]; exact h3 (i + 1) (by omega)) (by omega)
    rw [this, show j + 1 + d = j + (d + 1) from by omega]

theorem blocks_whole (s c m : Int) (n : Nat) (hs0 : 0 ≤ s) (hs1 : s ≤ 70000) (hc : class_Words.f c = some m) (hm : 1 ≤ m) (hm8 : m ≤ 8) (h1 : m * (n : Int) = 8) (h3 : ∀ i : Nat, i < n → m * (i : Int) < 8) (hn : n ≤ 8) :
    class_Blocks.f 60 s c = some (cutIn (8 * s + 1) m n) := by
  unfold class_Blocks.f
  rw [hc]
  simp only [Option.bind_some]
  rw [if_neg (by omega), if_neg (by omega)]
  have hz : (m == 0) = false := by rw [beq_eq_false_iff_ne]; omega
  rw [hz]
  simp only [class_Blocks.j0]
  have := blocks_from s m hs0 hs1 hm hm8 n 0 59 (by rw [Nat.zero_add]; exact h1) (fun i hi => by rw [Nat.zero_add]; exact h3 i hi) (by omega)
  simpa [cutIn] using this

/-- One round of the inner loop over the blocks. -/
def hits (p m : Int) (l : List Int) : Int := ((l.filter fun b => decide (b ≤ p) && decide (p < b + m)).length : Int)
def starts (p : Int) (l : List Int) : Bool := l.any fun b => b == p

theorem inner (a5 m p a30 s0 : Int) (L : List Int) (hm : 1 ≤ m) (hm8 : m ≤ 8) (hL : ∀ b ∈ L, 0 ≤ b ∧ b ≤ 1000000) (hlen : L.length ≤ 8) (d : Nat) : ∀ (i k : Nat) (n : Int) (bg : Bool), i + d = L.length → 0 ≤ n → n ≤ (i : Int) →
    lockstitchlaw13_ClassWhole.l1 (k + d) s0 a5 m L p n bg a30 L (L.length : Int) (i : Int) = lockstitchlaw13_ClassWhole.l1 k s0 a5 m L p (n + hits p m (L.drop i)) (bg || starts p (L.drop i)) a30 L (L.length : Int) (L.length : Int) := by
  induction d with
  | zero =>
    intro i k n bg hi _ _
    have : i = L.length := by omega
    subst this
    simp [hits, starts]
  | succ d ih =>
    intro i k n bg hi hn hn2
    have hlt : i < L.length := by omega
    have hd : L.drop i = L[i] :: L.drop (i + 1) := List.drop_eq_getElem_cons hlt
    have hb := hL _ (List.getElem_mem hlt)
    have hr : rd L (i : Int) = L[i] := by unfold rd; rw [Int.toNat_natCast]; simp [List.getD, hlt]
    rw [show k + (d + 1) = (k + d) + 1 from by omega]
    rw [lockstitchlaw13_ClassWhole.l1]
    rw [if_pos (by omega), if_pos (by omega), if_pos (by omega), hr, whole_wrap (L[i] + m) (by omega) (by omega), whole_wrap ((i : Int) + 1) (by omega) (by omega), whole_wrap (n + 1) (by omega) (by omega)]
    have ei : (i : Int) + 1 = ((i + 1 : Nat) : Int) := by omega
    rw [ei, hd]
    by_cases c1 : p ≥ L[i]
    · by_cases c2 : p < L[i] + m
      · have hh : hits p m (L[i] :: L.drop (i + 1)) = 1 + hits p m (L.drop (i + 1)) := by
          unfold hits; rw [List.filter_cons_of_pos (by simp; omega)]; simp; omega
        rw [if_pos c1, if_pos c2, hh, ← Int.add_assoc]
        cases bg with
        | true => rw [if_pos rfl, ih (i + 1) k (n + 1) true (by omega) (by omega) (by omega)]; simp
        | false => rw [if_neg (by simp), ih (i + 1) k (n + 1) _ (by omega) (by omega) (by omega)]; rw [Bool.false_or]; rfl
      · have hh : hits p m (L[i] :: L.drop (i + 1)) = hits p m (L.drop (i + 1)) := by
          unfold hits; rw [List.filter_cons_of_neg (by simp; omega)]
        rw [if_pos c1, if_neg c2, hh]
        cases bg with
        | true => rw [if_pos rfl, ih (i + 1) k n true (by omega) (by omega) (by omega)]; simp
        | false => rw [if_neg (by simp), ih (i + 1) k n _ (by omega) (by omega) (by omega)]; rw [Bool.false_or]; rfl
    · have hh : hits p m (L[i] :: L.drop (i + 1)) = hits p m (L.drop (i + 1)) := by
        unfold hits; rw [List.filter_cons_of_neg (by simp; omega)]
      rw [if_neg c1, hh]
      cases bg with
      | true => rw [if_pos rfl, ih (i + 1) k n true (by omega) (by omega) (by omega)]; simp
      | false => rw [if_neg (by simp), ih (i + 1) k n _ (by omega) (by omega) (by omega)]; rw [Bool.false_or]; rfl

theorem outer (s c m : Int) (n : Nat) (hs0 : 0 ≤ s) (hs1 : s ≤ 70000) (hc : class_Words.f c = some m) (hm : 1 ≤ m) (hm8 : m ≤ 8) (hn : n ≤ 8)
    (H : ∀ i : Nat, i < 8 → hits (8 * s + 1 + (i : Int)) m (cutIn (8 * s + 1) m n) = 1 ∧ starts (8 * s + 1 + (i : Int)) (cutIn (8 * s + 1) m n) = ((8 * s + (i : Int)) % m == 0)) (hmn : m * (n : Int) ≤ 8) (d : Nat) :
    ∀ (i k : Nat), i + d = 8 → 10 * d < k → lockstitchlaw13_ClassWhole.l0 k s c m (cutIn (8 * s + 1) m n) (i : Int) = some true := by
  have hL : ∀ b ∈ cutIn (8 * s + 1) m n, 0 ≤ b ∧ b ≤ 1000000 := by
    intro b hb
    obtain ⟨j, hj, rfl⟩ := List.mem_map.1 hb
    have hj' : (j : Int) ≤ (n : Int) := by have := List.mem_range.1 hj; omega
    have h1 : 0 ≤ m * (j : Int) := Int.mul_nonneg (by omega) (by omega)
    have h2 : m * (j : Int) ≤ m * (n : Int) := Int.mul_le_mul_of_nonneg_left hj' (by omega)
    omega
  induction d with
  | zero =>
    intro i k hi hk
    obtain ⟨k, rfl⟩ : ∃ q, k = q + 1 := ⟨k - 1, by omega⟩
    simp only [lockstitchlaw13_ClassWhole.l0]
    rw [if_neg (by omega)]
  | succ d ih =>
    intro i k hi hk
    obtain ⟨k, rfl⟩ : ∃ q, k = (q + 1 + n) + 1 := ⟨k - n - 2, by omega⟩
    obtain ⟨h1, h2⟩ := H i (by omega)
    simp only [lockstitchlaw13_ClassWhole.l0]
    rw [if_pos (by omega)]
    rw [whole_wrap s (by omega) (by omega), whole_wrap (8 * s) (by omega) (by omega), whole_wrap (8 * s + 1) (by omega) (by omega), whole_wrap (8 * s + 1 + (i : Int)) (by omega) (by omega)]
    have hin := inner c m (8 * s + 1 + (i : Int)) (i : Int) s (cutIn (8 * s + 1) m n) hm hm8 hL (by rw [cutIn_len]; omega) n 0 (k + 1) 0 false (by rw [cutIn_len]; omega) (by omega) (by omega)
    simp only [List.drop_zero, Int.natCast_zero, h1, h2, Bool.false_or, Int.zero_add] at hin
    rw [hin, lockstitchlaw13_ClassWhole.l1]
    rw [if_neg (by omega), if_pos rfl, whole_begins _ c m hm hc (by omega) (by omega)]
    simp only [Option.bind_some]
    have e1 : 8 * s + 1 + (i : Int) - 1 = 8 * s + (i : Int) := by omega
    rw [e1, if_neg (by simp), whole_in _ (by omega) (by omega), e1]
    simp only [Option.bind_some]
    rw [whole_wrap s (by omega) (by omega), if_pos (by omega), whole_wrap ((i : Int) + 1) (by omega) (by omega)]
    have ei : (i : Int) + 1 = ((i + 1 : Nat) : Int) := by omega
    rw [ei]
    exact ih (i + 1) k (by omega) (by omega)

theorem whole_one (s c m : Int) (n : Nat) (a1 : Int) (hs0 : 0 ≤ s) (hs1 : s ≤ 65535) (e : Int.tmod (wrap64 a1) 4 = c) (hc : class_Words.f c = some m) (hm : 1 ≤ m) (hm8 : m ≤ 8) (h1 : m * (n : Int) = 8) (h3 : ∀ i : Nat, i < n → m * (i : Int) < 8) (hn : n ≤ 8)
    (H : ∀ i : Nat, i < 8 → hits (8 * s + 1 + (i : Int)) m (cutIn (8 * s + 1) m n) = 1 ∧ starts (8 * s + 1 + (i : Int)) (cutIn (8 * s + 1) m n) = ((8 * s + (i : Int)) % m == 0)) :
    lockstitchlaw13_ClassWhole.f 100 s a1 = some true := by
  have hal : lockstitchlaw13_alive.f 100 = some true := by decide +kernel
  have hbl : class_Blocks.f 100 s c = some (cutIn (8 * s + 1) m n) := at_rounds (g := fun k => class_Blocks.f k s c) (fun k => class_Blocks.mono _ _ k) (by omega) (blocks_whole s c m n hs0 (by omega) hc hm hm8 h1 h3 hn)
  unfold lockstitchlaw13_ClassWhole.f
  rw [hal, e, hc]
  simp only [Option.bind_some, if_true]
  rw [whole_wrap s (by omega) (by omega), hbl]
  simp only [Option.bind_some, cutIn_len]
  rw [h1, if_pos (by unfold wrap64; omega)]
  have := outer s c m n hs0 (by omega) hc hm hm8 hn H (by omega) 8 0 100 (by omega) (by omega)
  simpa using this

theorem cases8 {p : Nat → Prop} (h0 : p 0) (h1 : p 1) (h2 : p 2) (h3 : p 3) (h4 : p 4) (h5 : p 5) (h6 : p 6) (h7 : p 7) : ∀ i, i < 8 → p i
  | 0, _ => h0 | 1, _ => h1 | 2, _ => h2 | 3, _ => h3 | 4, _ => h4 | 5, _ => h5 | 6, _ => h6 | 7, _ => h7
  | n + 8, h => absurd h (by omega)

theorem hits_cons (p m b : Int) (l : List Int) : hits p m (b :: l) = (if b ≤ p ∧ p < b + m then 1 else 0) + hits p m l := by
  unfold hits
  by_cases c : b ≤ p ∧ p < b + m
  · rw [List.filter_cons_of_pos (by simpa using c), if_pos c]; simp; omega
  · rw [List.filter_cons_of_neg (by simpa using c), if_neg c]; simp
theorem hits_nil (p m : Int) : hits p m [] = 0 := rfl
theorem starts_cons (p b : Int) (l : List Int) : starts p (b :: l) = (decide (b = p) || starts p l) := by
  unfold starts
  rw [List.any_cons]
  rfl
theorem starts_nil (p : Int) : starts p [] = false := rfl
theorem cut8 (b m : Int) : cutIn b m 8 = [b + m * 0, b + m * 1, b + m * 2, b + m * 3, b + m * 4, b + m * 5, b + m * 6, b + m * 7] := rfl
theorem cut4 (b m : Int) : cutIn b m 4 = [b + m * 0, b + m * 1, b + m * 2, b + m * 3] := rfl
theorem cut2 (b m : Int) : cutIn b m 2 = [b + m * 0, b + m * 1] := rfl
theorem cut1 (b m : Int) : cutIn b m 1 = [b + m * 0] := rfl
theorem ite_one (p : Prop) [Decidable p] (h : p) : (if p then (1 : Int) else 0) = 1 := if_pos h

set_option maxHeartbeats 1600000 in
theorem ClassWhole : lockstitchlaw13_ClassWhole.Pure := by
  intro s a hs ha
  obtain ⟨hs0, hs1⟩ := bounds_u16 hs
  obtain ⟨ha0, ha1⟩ := bounds_u8 ha
  refine ⟨100, ?_⟩
  have e : Int.tmod (wrap64 a) 4 = a % 4 := by rw [whole_wrap a (by omega) (by omega), Int.tmod_eq_emod_of_nonneg ha0]
  rcases (show a % 4 = 0 ∨ a % 4 = 1 ∨ a % 4 = 2 ∨ a % 4 = 3 from by omega) with h | h | h | h
  · refine whole_one s 0 1 8 a hs0 hs1 (e.trans h) whole_w0 (by omega) (by omega) (by omega) (by omega) (by omega) ?_
    refine cases8 ?_ ?_ ?_ ?_ ?_ ?_ ?_ ?_ <;> refine ⟨?_, ?_⟩
    all_goals simp only [cut8, hits_cons, hits_nil, starts_cons, starts_nil]
    all_goals first
      | (rw [Bool.eq_iff_iff]; simp only [Bool.or_eq_true, decide_eq_true_eq, beq_iff_eq, Bool.false_eq_true, or_false]; omega)
      | (repeat rw [if_neg (by omega)]
         rw [if_pos (by omega)]
         repeat rw [if_neg (by omega)]
         omega)
  · refine whole_one s 1 2 4 a hs0 hs1 (e.trans h) whole_w1 (by omega) (by omega) (by omega) (by omega) (by omega) ?_
    refine cases8 ?_ ?_ ?_ ?_ ?_ ?_ ?_ ?_ <;> refine ⟨?_, ?_⟩
    all_goals simp only [cut4, hits_cons, hits_nil, starts_cons, starts_nil]
    all_goals first
      | (rw [Bool.eq_iff_iff]; simp only [Bool.or_eq_true, decide_eq_true_eq, beq_iff_eq, Bool.false_eq_true, or_false]; omega)
      | (repeat rw [if_neg (by omega)]
         rw [if_pos (by omega)]
         repeat rw [if_neg (by omega)]
         omega)
  · refine whole_one s 2 4 2 a hs0 hs1 (e.trans h) whole_w2 (by omega) (by omega) (by omega) (by omega) (by omega) ?_
    refine cases8 ?_ ?_ ?_ ?_ ?_ ?_ ?_ ?_ <;> refine ⟨?_, ?_⟩
    all_goals simp only [cut2, hits_cons, hits_nil, starts_cons, starts_nil]
    all_goals first
      | (rw [Bool.eq_iff_iff]; simp only [Bool.or_eq_true, decide_eq_true_eq, beq_iff_eq, Bool.false_eq_true, or_false]; omega)
      | (repeat rw [if_neg (by omega)]
         rw [if_pos (by omega)]
         repeat rw [if_neg (by omega)]
         omega)
  · refine whole_one s 3 8 1 a hs0 hs1 (e.trans h) whole_w3 (by omega) (by omega) (by omega) (by omega) (by omega) ?_
    refine cases8 ?_ ?_ ?_ ?_ ?_ ?_ ?_ ?_ <;> refine ⟨?_, ?_⟩
    all_goals simp only [cut1, hits_cons, hits_nil, starts_cons, starts_nil]
    all_goals first
      | (rw [Bool.eq_iff_iff]; simp only [Bool.or_eq_true, decide_eq_true_eq, beq_iff_eq, Bool.false_eq_true, or_false]; omega)
      | (repeat rw [if_neg (by omega)]
         rw [if_pos (by omega)]
         repeat rw [if_neg (by omega)]
         omega)

end Go.Proofs.Ytlbjcaefemmjmaa.Pure
