/- The arithmetic behind math/bits.OnesCount64: how many bits of a word are set. -/
import Derived.Test.YtibmjednieopfaaDoorBitPure
set_option linter.unusedVariables false
set_option linter.unusedSimpArgs false
namespace Go.Proofs.YtibmjednieopfaaDoor

def mk (c : Nat) : Nat → Nat
  | 0 => 0
  | n + 1 => c + 256 * mk c n
theorem split_and (a b y m : Nat) (ha : a < 256) (hb : b < 256) : (a + 256 * y) &&& (b + 256 * m) = (a &&& b) + 256 * (y &&& m) := by
  have hab : a &&& b < 256 := Nat.lt_of_le_of_lt Nat.and_le_left ha
  have h1 : ((a + 256 * y) &&& (b + 256 * m)) % 2 ^ 8 = a &&& b := by
    rw [Nat.and_mod_two_pow]
    congr 1 <;> omega
  have h2 : ((a + 256 * y) &&& (b + 256 * m)) / 2 ^ 8 = y &&& m := by
    rw [Nat.and_div_two_pow]
    congr 1 <;> omega
  omega

def h1 (a : Nat) : Nat := (a / 2 &&& 85) + (a &&& 85)
def h2 (a : Nat) : Nat := (a / 4 &&& 51) + (a &&& 51)
def h3 (a : Nat) : Nat := (a / 16 + a) &&& 15
def g1 (n x : Nat) : Nat := (x / 2 &&& mk 85 n) + (x &&& mk 85 n)
def g2 (n x : Nat) : Nat := (x / 4 &&& mk 51 n) + (x &&& mk 51 n)
def g3 (n x : Nat) : Nat := (x / 16 + x) &&& mk 15 n
theorem d1 : ∀ a : Fin 256, ∀ b : Fin 2, ((a.val / 2 + 128 * b.val) &&& 85) = (a.val / 2 &&& 85) := by decide +kernel
theorem d2 : ∀ a : Fin 256, ∀ b : Fin 4, ((a.val / 4 + 64 * b.val) &&& 51) = (a.val / 4 &&& 51) := by decide +kernel
theorem d3 : ∀ a : Fin 256, ∀ b : Fin 5, ((a.val / 16 + 16 * b.val + a.val) &&& 15) = ((a.val / 16 + a.val) &&& 15) := by decide +kernel
def cnt8 (a : Nat) : Nat := countTo (fun k => a.testBit k) 8
theorem d4 : ∀ a : Fin 256, h3 (h2 (h1 a.val)) = cnt8 a.val ∧ h1 a.val < 256 ∧ h2 (h1 a.val) < 256 ∧ h2 (h1 a.val) % 16 ≤ 4 ∧ h2 (h1 a.val) / 16 ≤ 4 ∧ cnt8 a.val ≤ 8 := by decide +kernel
theorem g1_step (n a y : Nat) (ha : a < 256) : g1 (n + 1) (a + 256 * y) = h1 a + 256 * g1 n y := by
  have e : (a + 256 * y) / 2 = (a / 2 + 128 * (y % 2)) + 256 * (y / 2) := by omega
  have d := d1 ⟨a, ha⟩ ⟨y % 2, by omega⟩
  simp only at d
  unfold g1 h1
  show ((a + 256 * y) / 2 &&& (85 + 256 * mk 85 n)) + ((a + 256 * y) &&& (85 + 256 * mk 85 n)) = _
  rw [e, split_and _ _ _ _ (by omega) (by omega), split_and _ _ _ _ (by omega) (by omega), d]
  omega
theorem g2_step (n a y : Nat) (ha : a < 256) : g2 (n + 1) (a + 256 * y) = h2 a + 256 * g2 n y := by
  have e : (a + 256 * y) / 4 = (a / 4 + 64 * (y % 4)) + 256 * (y / 4) := by omega
  have d := d2 ⟨a, ha⟩ ⟨y % 4, by omega⟩
  simp only at d
  unfold g2 h2
  show ((a + 256 * y) / 4 &&& (51 + 256 * mk 51 n)) + ((a + 256 * y) &&& (51 + 256 * mk 51 n)) = _
  rw [e, split_and _ _ _ _ (by omega) (by omega), split_and _ _ _ _ (by omega) (by omega), d]
  omega
theorem g3_step (n a y : Nat) (ha : a < 256) (h0 : a % 16 ≤ 4) (h1 : a / 16 ≤ 4) (hy : y % 16 ≤ 4) : g3 (n + 1) (a + 256 * y) = h3 a + 256 * g3 n y := by
  have e : (a + 256 * y) / 16 + (a + 256 * y) = (a / 16 + 16 * (y % 16) + a) + 256 * (y / 16 + y) := by omega
  have d := d3 ⟨a, ha⟩ ⟨y % 16, by omega⟩
  simp only at d
  unfold g3 h3
  show ((a + 256 * y) / 16 + (a + 256 * y)) &&& (15 + 256 * mk 15 n) = _
  rw [e, split_and _ _ _ _ (by omega) (by omega), d]
/-- Byte by byte. -/
def bytes (f : Nat → Nat) : Nat → Nat → Nat
  | 0, _ => 0
  | n + 1, x => f (x % 256) + 256 * bytes f n (x / 256)
theorem g12 : ∀ (n x : Nat), g2 n (g1 n x) = bytes (fun a => h2 (h1 a)) n x
  | 0, x => by simp [g2, mk, bytes]
  | n + 1, x => by
    have hx : x = x % 256 + 256 * (x / 256) := by omega
    have hlt : x % 256 < 256 := by omega
    have d := d4 ⟨x % 256, hlt⟩
    simp only at d
    show _ = h2 (h1 (x % 256)) + 256 * bytes _ n (x / 256)
    rw [← g12 n (x / 256)]
    conv => lhs; rw [hx]
    rw [g1_step _ _ _ hlt, g2_step _ _ _ d.2.1]
theorem bytes_low (n x : Nat) : bytes (fun a => h2 (h1 a)) n x % 16 ≤ 4 := by
  cases n with
  | zero => simp [bytes]
  | succ n =>
    have d := d4 ⟨x % 256, by omega⟩
    simp only at d
    show (h2 (h1 (x % 256)) + 256 * _) % 16 ≤ 4
    omega
theorem g123 : ∀ (n x : Nat), g3 n (bytes (fun a => h2 (h1 a)) n x) = bytes cnt8 n x
  | 0, x => by simp [g3, mk, bytes]
  | n + 1, x => by
    have d := d4 ⟨x % 256, by omega⟩
    simp only at d
    show g3 (n + 1) (h2 (h1 (x % 256)) + 256 * bytes _ n (x / 256)) = cnt8 (x % 256) + 256 * bytes _ n (x / 256)
    rw [g3_step _ _ _ d.2.2.1 d.2.2.2.1 d.2.2.2.2.1 (bytes_low _ _), g123 n (x / 256), d.1]
theorem cnt_step (n x : Nat) : countTo (fun k => x.testBit k) (8 + n) = cnt8 (x % 256) + countTo (fun k => (x / 256).testBit k) n := by
  rw [countTo_add]
  congr 1
  · apply countTo_congr
    intro j hj
    have : x % 256 = x % 2 ^ 8 := rfl
    rw [this, Nat.testBit_mod_two_pow]
    simp [hj]
  · apply countTo_congr
    intro j hj
    have : x / 256 = x / 2 ^ 8 := rfl
    rw [this, Nat.testBit_div_two_pow, Nat.add_comm]
theorem pop_bytes (x : Nat) : pop x = cnt8 (x % 256) + (cnt8 (x / 256 % 256) + (cnt8 (x / 256 / 256 % 256) + (cnt8 (x / 256 / 256 / 256 % 256) + (cnt8 (x / 256 / 256 / 256 / 256 % 256) + (cnt8 (x / 256 / 256 / 256 / 256 / 256 % 256) + (cnt8 (x / 256 / 256 / 256 / 256 / 256 / 256 % 256) + (cnt8 (x / 256 / 256 / 256 / 256 / 256 / 256 / 256 % 256) + 0))))))) := by
  unfold pop
  show countTo _ (8 + 56) = _
  rw [cnt_step]
  show _ + countTo _ (8 + 48) = _
  rw [cnt_step]
  show _ + (_ + countTo _ (8 + 40)) = _
  rw [cnt_step]
  show _ + (_ + (_ + countTo _ (8 + 32))) = _
  rw [cnt_step]
  show _ + (_ + (_ + (_ + countTo _ (8 + 24)))) = _
  rw [cnt_step]
  show _ + (_ + (_ + (_ + (_ + countTo _ (8 + 16))))) = _
  rw [cnt_step]
  show _ + (_ + (_ + (_ + (_ + (_ + countTo _ (8 + 8)))))) = _
  rw [cnt_step]
  show _ + (_ + (_ + (_ + (_ + (_ + (_ + countTo _ (8 + 0))))))) = _
  rw [cnt_step]
  rfl
theorem cnt8_le (a : Nat) (h : a < 256) : cnt8 a ≤ 8 := (d4 ⟨a, h⟩).2.2.2.2.2
/-- The last three lines of OnesCount64, on what the first three leave. -/
theorem fold_bytes (x y : Nat) (hy : y = bytes cnt8 8 x) : y < 651345242494996241 ∧
    ∀ y1 y2 y3 : Nat, y1 = y + y / 256 → y2 = y1 + y1 / 65536 → y3 = y2 + y2 / 4294967296 → y3 < 18446744073709551616 ∧ y3 % 128 = pop x := by
  have b0 := cnt8_le (x % 256) (by omega)
  have b1 := cnt8_le (x / 256 % 256) (by omega)
  have b2 := cnt8_le (x / 256 / 256 % 256) (by omega)
  have b3 := cnt8_le (x / 256 / 256 / 256 % 256) (by omega)
  have b4 := cnt8_le (x / 256 / 256 / 256 / 256 % 256) (by omega)
  have b5 := cnt8_le (x / 256 / 256 / 256 / 256 / 256 % 256) (by omega)
  have b6 := cnt8_le (x / 256 / 256 / 256 / 256 / 256 / 256 % 256) (by omega)
  have b7 := cnt8_le (x / 256 / 256 / 256 / 256 / 256 / 256 / 256 % 256) (by omega)
  rw [pop_bytes]
  simp only [bytes] at hy
  generalize cnt8 (x % 256) = c0 at *
  generalize cnt8 (x / 256 % 256) = c1 at *
  generalize cnt8 (x / 256 / 256 % 256) = c2 at *
  generalize cnt8 (x / 256 / 256 / 256 % 256) = c3 at *
  generalize cnt8 (x / 256 / 256 / 256 / 256 % 256) = c4 at *
  generalize cnt8 (x / 256 / 256 / 256 / 256 / 256 % 256) = c5 at *
  generalize cnt8 (x / 256 / 256 / 256 / 256 / 256 / 256 % 256) = c6 at *
  generalize cnt8 (x / 256 / 256 / 256 / 256 / 256 / 256 / 256 % 256) = c7 at *
  clear x
  refine ⟨by omega, ?_⟩
  intro y1 y2 y3 e1 e2 e3
  have hy1 : y1 = (c0 + c1) + 256 * (c1 + c2) + 65536 * (c2 + c3) + 16777216 * (c3 + c4) + 4294967296 * (c4 + c5) + 1099511627776 * (c5 + c6) + 281474976710656 * (c6 + c7) + 72057594037927936 * c7 := by
    have : y / 256 = c1 + 256 * c2 + 65536 * c3 + 16777216 * c4 + 4294967296 * c5 + 1099511627776 * c6 + 281474976710656 * c7 := by omega
    rw [e1, this, hy]
    omega
  clear e1 hy
  have hd2 : y1 / 65536 = (c2 + c3) + 256 * (c3 + c4) + 65536 * (c4 + c5) + 16777216 * (c5 + c6) + 4294967296 * (c6 + c7) + 1099511627776 * c7 := by omega
  have hy2 : y2 = (c0 + c1 + c2 + c3) + 256 * (c1 + c2 + c3 + c4) + 65536 * (c2 + c3 + c4 + c5) + 16777216 * (c3 + c4 + c5 + c6) + 4294967296 * (c4 + c5 + c6 + c7) + 1099511627776 * (c5 + c6 + c7) + 281474976710656 * (c6 + c7) + 72057594037927936 * c7 := by
    rw [e2, hd2, hy1]
    omega
  clear e2 hd2 hy1
  have hd3 : y2 / 4294967296 = (c4 + c5 + c6 + c7) + 256 * (c5 + c6 + c7) + 65536 * (c6 + c7) + 16777216 * c7 := by omega
  rw [hd3, hy2] at e3
  clear hd3 hy2
  constructor <;> omega

end Go.Proofs.YtibmjednieopfaaDoor
