/- Sets of numbers as words of 64 bits: plain laws, no program in sight. -/
set_option linter.unusedVariables false
set_option linter.unusedSimpArgs false
namespace Go.Proofs.YtcaboknbdamlhaaGreatDoor

/-- Is number i in the set? -/
def bitAt (xs : List Int) (i : Nat) : Bool := (xs.getD (i / 64) 0).toNat.testBit (i % 64)
def hasB (xs : List Int) (i : Int) : Bool := decide (0 ≤ i) && bitAt xs i.toNat
def U64 (xs : List Int) : Prop := ∀ x ∈ xs, 0 ≤ x ∧ x < 18446744073709551616
/-- How many words stand ahead of the noughts at the end. -/
def shortN : List Int → Nat
  | [] => 0
  | x :: xs => if shortN xs = 0 ∧ x = 0 then 0 else shortN xs + 1
def Short (xs : List Int) : Prop := shortN xs = xs.length

theorem shortN_le : ∀ xs, shortN xs ≤ xs.length
  | [] => Nat.le_refl _
  | x :: xs => by
    have := shortN_le xs
    unfold shortN
    split <;> simp <;> omega
theorem shortN_zero : ∀ (xs : List Int) (j : Nat), shortN xs ≤ j → xs.getD j 0 = 0
  | [], j, _ => by simp
  | x :: xs, j, h => by
    unfold shortN at h
    split at h
    · rename_i hc
      cases j with
      | zero => simpa using hc.2
      | succ j => simpa using shortN_zero xs j (by omega)
    · cases j with
      | zero => omega
      | succ j => simpa using shortN_zero xs j (by omega)
theorem shortN_last : ∀ (xs : List Int), 0 < shortN xs → xs.getD (shortN xs - 1) 0 ≠ 0
  | [], h => by simp [shortN] at h
  | x :: xs, h => by
    unfold shortN at h ⊢
    split at h
    · omega
    · rename_i hc
      rw [if_neg hc]
      by_cases h0 : shortN xs = 0
      · rw [h0]
        simpa using fun e => hc ⟨h0, e⟩
      · obtain ⟨m, hm⟩ : ∃ m, shortN xs = m + 1 := ⟨shortN xs - 1, by omega⟩
        have := shortN_last xs (by omega)
        rw [hm] at this ⊢
        simpa using this
theorem shortN_of {xs : List Int} {n : Nat} (hn : n ≤ xs.length) (hz : ∀ j, n ≤ j → xs.getD j 0 = 0) (hl : n = 0 ∨ xs.getD (n - 1) 0 ≠ 0) : shortN xs = n := by
  rcases Nat.lt_trichotomy (shortN xs) n with h | h | h
  · rcases hl with rfl | hl
    · omega
    · exact absurd (shortN_zero xs (n - 1) (by omega)) hl
  · exact h
  · exact absurd (hz (shortN xs - 1) (by omega)) (shortN_last xs (by omega))
theorem getD_take {α : Type} (xs : List α) (n j : Nat) (d : α) : (xs.take n).getD j d = if j < n then xs.getD j d else d := by
  simp only [List.getD, List.getElem?_take]
  split <;> simp
theorem short_take (xs : List Int) : Short (xs.take (shortN xs)) := by
  have hle := shortN_le xs
  have hlen : (xs.take (shortN xs)).length = shortN xs := by rw [List.length_take]; omega
  unfold Short
  rw [hlen]
  refine shortN_of (by omega) (fun j hj => ?_) ?_
  · rw [getD_take, if_neg (by omega)]
  · rcases Nat.eq_zero_or_pos (shortN xs) with h | h
    · exact .inl h
    · exact .inr (by rw [getD_take, if_pos (by omega)]; exact shortN_last xs h)
theorem bitAt_take (xs : List Int) (i : Nat) : bitAt (xs.take (shortN xs)) i = bitAt xs i := by
  unfold bitAt
  rw [getD_take]
  split
  · rfl
  · rw [shortN_zero xs _ (by omega)]
theorem U64.take {xs : List Int} (h : U64 xs) (n : Nat) : U64 (xs.take n) := fun x hx => h x (List.mem_of_mem_take hx)
theorem U64.getD {xs : List Int} (h : U64 xs) (j : Nat) : 0 ≤ xs.getD j 0 ∧ xs.getD j 0 < 18446744073709551616 := by
  simp only [List.getD]
  rcases Nat.lt_or_ge j xs.length with hj | hj
  · rw [List.getElem?_eq_getElem hj]
    exact h _ (List.getElem_mem hj)
  · rw [List.getElem?_eq_none hj]
    simp
theorem U64.nil : U64 [] := by intro x hx; simp at hx
theorem U64.append {xs ys : List Int} (h : U64 xs) (k : U64 ys) : U64 (xs ++ ys) := by
  intro x hx
  rcases List.mem_append.1 hx with hx | hx
  · exact h x hx
  · exact k x hx
theorem U64.set {xs : List Int} (h : U64 xs) (i : Nat) {x : Int} (h0 : 0 ≤ x) (h1 : x < 18446744073709551616) : U64 (xs.set i x) := by
  intro y hy
  rcases List.mem_or_eq_of_mem_set hy with hy | rfl
  · exact h y hy
  · exact ⟨h0, h1⟩

theorem word_ext {x y : Int} (hx : 0 ≤ x) (hx' : x < 18446744073709551616) (hy : 0 ≤ y) (hy' : y < 18446744073709551616) (h : ∀ k, k < 64 → x.toNat.testBit k = y.toNat.testBit k) : x = y := by
  have : x.toNat = y.toNat := by
    apply Nat.eq_of_testBit_eq
    intro k
    by_cases hk : k < 64
    · exact h k hk
    · have h64 : (18446744073709551616 : Nat) ≤ 2 ^ k := Nat.pow_le_pow_right (n := 2) (by decide) (show 64 ≤ k by omega)
      rw [Nat.testBit_lt_two_pow (by omega), Nat.testBit_lt_two_pow (by omega)]
  omega
theorem bitAt_word (xs : List Int) (j k : Nat) (hk : k < 64) : bitAt xs (64 * j + k) = (xs.getD j 0).toNat.testBit k := by
  unfold bitAt
  have h1 : (64 * j + k) / 64 = j := by omega
  have h2 : (64 * j + k) % 64 = k := by omega
  rw [h1, h2]
theorem getD_of_bits {xs ys : List Int} (hx : U64 xs) (hy : U64 ys) (h : ∀ i, bitAt xs i = bitAt ys i) (j : Nat) : xs.getD j 0 = ys.getD j 0 := by
  refine word_ext (hx.getD j).1 (hx.getD j).2 (hy.getD j).1 (hy.getD j).2 fun k hk => ?_
  rw [← bitAt_word xs j k hk, ← bitAt_word ys j k hk]
  exact h _
theorem ext_getD {xs ys : List Int} (hl : xs.length = ys.length) (h : ∀ j, xs.getD j 0 = ys.getD j 0) : xs = ys := by
  apply List.ext_getElem hl
  intro j h1 h2
  have := h j
  simpa [List.getD, List.getElem?_eq_getElem h1, List.getElem?_eq_getElem h2] using this
/-- Short sets that have the same numbers are the very same words. -/
theorem canon {xs ys : List Int} (hx : U64 xs) (hy : U64 ys) (sx : Short xs) (sy : Short ys) (h : ∀ i, bitAt xs i = bitAt ys i) : xs = ys := by
  have hg := getD_of_bits hx hy h
  have hle : ∀ {a b : List Int}, Short a → (∀ j, a.getD j 0 = b.getD j 0) → Short b → a.length ≤ b.length := by
    intro a b sa hab sb
    rcases Nat.lt_or_ge b.length a.length with hlt | hge
    · exfalso
      have h1 : 0 < shortN a := by rw [sa]; omega
      have h2 := shortN_last a h1
      rw [sa, hab] at h2
      simp only [List.getD] at h2
      rw [List.getElem?_eq_none (by omega)] at h2
      exact h2 rfl
    · exact hge
  exact ext_getD (Nat.le_antisymm (hle sx hg sy) (hle sy (fun j => (hg j).symm) sx)) hg
theorem canon_iff {xs ys : List Int} (hx : U64 xs) (hy : U64 ys) : (xs.take (shortN xs) = ys.take (shortN ys)) ↔ ∀ i, bitAt xs i = bitAt ys i := by
  constructor
  · intro h i
    rw [← bitAt_take xs, ← bitAt_take ys, h]
  · intro h
    refine canon (hx.take _) (hy.take _) (short_take _) (short_take _) fun i => ?_
    rw [bitAt_take, bitAt_take]
    exact h i
theorem bitAt_top {xs : List Int} {i : Nat} (h : 64 * xs.length ≤ i) : bitAt xs i = false := by
  unfold bitAt
  rw [List.getD, List.getElem?_eq_none (by omega)]
  simp
theorem bitAt_lt {xs : List Int} {i : Nat} (h : bitAt xs i = true) : i < 64 * xs.length := by
  rcases Nat.lt_or_ge i (64 * xs.length) with h1 | h1
  · exact h1
  · rw [bitAt_top h1] at h; cases h
theorem bitAt_nil (i : Nat) : bitAt [] i = false := bitAt_top (by simp)
theorem bitAt_append_zeros (xs : List Int) (n i : Nat) : bitAt (xs ++ List.replicate n 0) i = bitAt xs i := by
  unfold bitAt
  congr 2
  simp only [List.getD]
  rcases Nat.lt_or_ge (i / 64) xs.length with h | h
  · rw [List.getElem?_append_left h]
  · rw [List.getElem?_append_right h, List.getElem?_eq_none h]
    rcases Nat.lt_or_ge (i / 64 - xs.length) n with h2 | h2
    · simp [h2]
    · simp [List.getElem?_eq_none, h2]
theorem bitAt_set (xs : List Int) (w : Nat) (hw : w < xs.length) (y : Int) (i : Nat) : bitAt (xs.set w y) i = if i / 64 = w then y.toNat.testBit (i % 64) else bitAt xs i := by
  unfold bitAt
  simp only [List.getD, List.getElem?_set]
  by_cases h : i / 64 = w
  · rw [if_pos h, if_pos h.symm, if_pos hw]
    rfl
  · rw [if_neg h, if_neg (fun e => h e.symm)]

/-- The first number of the set from i on, or -1. -/
def IsNext (p : Nat → Bool) (i r : Int) : Prop :=
  (r = -1 ∧ ∀ j : Nat, i ≤ (j : Int) → p j = false) ∨ ∃ k : Nat, r = (k : Int) ∧ i ≤ (k : Int) ∧ p k = true ∧ ∀ j : Nat, i ≤ (j : Int) → j < k → p j = false
theorem IsNext.uniq {p : Nat → Bool} {i r s : Int} (h : IsNext p i r) (k : IsNext p i s) : r = s := by
  rcases h with ⟨rfl, h⟩ | ⟨a, rfl, ha, pa, h⟩
  · rcases k with ⟨rfl, _⟩ | ⟨b, rfl, hb, pb, _⟩
    · rfl
    · rw [h b hb] at pb; cases pb
  · rcases k with ⟨rfl, k⟩ | ⟨b, rfl, hb, pb, k⟩
    · rw [k a ha] at pa; cases pa
    · rcases Nat.lt_trichotomy a b with hlt | rfl | hlt
      · rw [k a ha hlt] at pa; cases pa
      · rfl
      · rw [h b hb hlt] at pb; cases pb
theorem IsNext.congr {p q : Nat → Bool} {i r : Int} (h : IsNext p i r) (e : ∀ j, p j = q j) : IsNext q i r := by
  have : p = q := funext e
  exact this ▸ h

/-- How many of the first n numbers are in the set. -/
def countTo (p : Nat → Bool) : Nat → Nat
  | 0 => 0
  | n + 1 => countTo p n + if p n then 1 else 0
theorem countTo_congr {p q : Nat → Bool} : ∀ {n : Nat}, (∀ j, j < n → p j = q j) → countTo p n = countTo q n
  | 0, _ => rfl
  | n + 1, h => by
    unfold countTo
    rw [countTo_congr (fun j hj => h j (by omega)), h n (by omega)]
theorem countTo_le (p : Nat → Bool) : ∀ n, countTo p n ≤ n
  | 0 => Nat.le_refl _
  | n + 1 => by
    have := countTo_le p n
    unfold countTo
    split <;> omega
theorem countTo_add (p : Nat → Bool) (m : Nat) : ∀ n, countTo p (m + n) = countTo p m + countTo (fun j => p (m + j)) n
  | 0 => rfl
  | n + 1 => by
    have ih := countTo_add p m n
    show countTo p (m + n) + (if p (m + n) then 1 else 0) = countTo p m + (countTo (fun j => p (m + j)) n + if p (m + n) then 1 else 0)
    omega
theorem countTo_none {p : Nat → Bool} {m : Nat} (h : ∀ j, m ≤ j → p j = false) : ∀ n, m ≤ n → countTo p n = countTo p m := by
  intro n hn
  obtain ⟨d, rfl⟩ : ∃ d, n = m + d := ⟨n - m, by omega⟩
  rw [countTo_add]
  have : countTo (fun j => p (m + j)) d = countTo (fun _ => false) d := countTo_congr fun j _ => h _ (by omega)
  rw [this]
  have hz : ∀ d, countTo (fun _ => false) d = 0 := by
    intro d
    induction d with
    | zero => rfl
    | succ d ih => unfold countTo; rw [ih]; rfl
  rw [hz]
  rfl
/-- The count of words: word by word. -/
def pop (n : Nat) : Nat := countTo (fun k => n.testBit k) 64
def popAll (xs : List Int) : Nat := countTo (bitAt xs) (64 * xs.length)
theorem popAll_snoc (xs : List Int) (x : Int) : popAll (xs ++ [x]) = popAll xs + pop x.toNat := by
  unfold popAll pop
  have e : 64 * (xs ++ [x]).length = 64 * xs.length + 64 := by simp; omega
  rw [e, countTo_add]
  congr 1
  · apply countTo_congr
    intro j hj
    unfold bitAt
    simp only [List.getD]
    rw [List.getElem?_append_left (by omega)]
  · apply countTo_congr
    intro k hk
    rw [bitAt_word _ _ _ hk]
    simp [List.getD]
theorem popAll_upto (xs : List Int) {n : Nat} (h : 64 * xs.length ≤ n) : countTo (bitAt xs) n = popAll xs := countTo_none (fun j hj => bitAt_top hj) n h
theorem popAll_congr {xs ys : List Int} (h : ∀ i, bitAt xs i = bitAt ys i) : popAll xs = popAll ys := by
  rcases Nat.le_total xs.length ys.length with hle | hle
  · rw [← popAll_upto xs (n := 64 * ys.length) (by omega)]
    exact countTo_congr fun j _ => h j
  · rw [← popAll_upto ys (n := 64 * xs.length) (by omega)]
    exact countTo_congr fun j _ => h j
theorem popAll_le (xs : List Int) : popAll xs ≤ 64 * xs.length := countTo_le _ _
theorem popAll_nil : popAll [] = 0 := rfl

end Go.Proofs.YtcaboknbdamlhaaGreatDoor
