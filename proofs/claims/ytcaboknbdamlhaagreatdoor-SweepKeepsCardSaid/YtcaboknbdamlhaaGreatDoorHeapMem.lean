/- A heap of the program in memory: its blocks, what stands in them, and what keeps it as it was. -/
import Derived.Test.YtcaboknbdamlhaaGreatDoorListTakeF
import Derived.Test.YtcaboknbdamlhaaGreatDoorListCutF
import Derived.Test.YtcaboknbdamlhaaGreatDoorBitPut
import Derived.Test.YtcaboknbdamlhaaGreatDoorBitNext
import Derived.Deep.MidRow
set_option linter.unusedVariables false
set_option linter.unusedSimpArgs false
namespace Go.Proofs.YtcaboknbdamlhaaGreatDoor
open Go.RowKit

/-- Only F's blocks have changed; what is in F' is in F, or new. -/
structure Step (F : Nat → Prop) (w w' : World) (F' : Nat → Prop) : Prop where
  frame : Frame F w w'
  sub : ∀ k, F' k → F k ∨ w.heap.size ≤ k
theorem Step.trans {F G H : Nat → Prop} {a b c : World} (h : Step F a b G) (k : Step G b c H) : Step F a c H := by
  refine ⟨⟨k.frame.os.trans h.frame.os, k.frame.tape.trans h.frame.tape, k.frame.output.trans h.frame.output, Nat.le_trans h.frame.size k.frame.size, fun j hj hn => ?_⟩, fun j hj => ?_⟩
  · have hs := h.frame.size
    rw [k.frame.block j (by omega) (fun hg => (h.sub j hg).elim hn (by omega)), h.frame.block j hj hn]
  · rcases k.sub j hj with h1 | h1
    · exact h.sub j h1
    · exact .inr (Nat.le_trans h.frame.size h1)
theorem Step.refl (F : Nat → Prop) (w : World) : Step F w w F := ⟨⟨rfl, rfl, rfl, Nat.le_refl _, fun _ _ _ => rfl⟩, fun _ h => .inl h⟩
theorem Step.of_below {F : Nat → Prop} {w w' : World} (h : Below w.heap.size w w') : Step F w w' F := ⟨Frame.of_below h, fun _ h => .inl h⟩
theorem Step.below {F G : Nat → Prop} {w w' : World} {B : Nat} (h : Step F w w' G) (hF : ∀ k, F k → B ≤ k) (hB : B ≤ w.heap.size) : Below B w w' :=
  ⟨h.frame.os, h.frame.tape, h.frame.output, h.frame.size, fun k hk => h.frame.block k (by omega) fun hf => by have := hF k hf; omega⟩
theorem Step.apart {F G D : Nat → Prop} {w w' : World} (h : Step F w w' G) (hD : ∀ k, D k → k < w.heap.size) (ha : ∀ k, F k → ¬ D k) : ∀ k, G k → ¬ D k :=
  fun k hk hd => (h.sub k hk).elim (fun hf => ha k hf hd) (fun hs => by have := hD k hd; omega)

structure HM where
  n : Nat
  words : List Int
  cls : List Int
  free : Nat → List Int
  zs : List Int
  sh : List (Int × Int)
def flat : List (Int × Int) → List Value
  | [] => []
  | s :: l => .int .i64 s.1 :: .int .u8 s.2 :: flat l
theorem flat_len : ∀ l, (flat l).length = 2 * l.length
  | [] => rfl
  | _ :: l => by simp [flat, flat_len l]; omega
theorem flat_at : ∀ (l : List (Int × Int)) (i : Nat) (h : i < l.length), (flat l)[2 * i]? = some (.int .i64 (l[i]).1) ∧ (flat l)[2 * i + 1]? = some (.int .u8 (l[i]).2)
  | _ :: _, 0, _ => ⟨rfl, rfl⟩
  | _ :: l, i + 1, h => by
    have := flat_at l i (by simpa using h)
    show (flat l)[2 * i]? = _ ∧ (flat l)[2 * i + 1]? = _
    exact this
theorem flat_set : ∀ (l : List (Int × Int)) (i : Nat) (s : Int × Int), i < l.length → ((flat l).set (2 * i) (.int .i64 s.1)).set (2 * i + 1) (.int .u8 s.2) = flat (l.set i s)
  | _ :: _, 0, _, _ => rfl
  | _ :: l, i + 1, s, h => by
    have := flat_set l i s (by simpa using h)
    show _ :: _ :: ((flat l).set (2 * i) _).set (2 * i + 1) _ = _
    rw [this]
    rfl
def hcells (bw bc bs wl n cc : Nat) (f : Nat → Value) (vu : Value) : Array Value :=
  #[.slice (some ⟨bw, 0, none⟩) wl wl, .slice (some ⟨bc, 0, none⟩) n cc, f 0, f 1, f 2, f 3, vu, .slice (some ⟨bs, 0, none⟩) wl wl]
def I64 (xs : List Int) : Prop := ∀ x ∈ xs, -9223372036854775808 ≤ x ∧ x ≤ 9223372036854775807
theorem own_keep {w w' : World} {B : Nat} {e : TypeId} {s : Nat} {v : Value} {n : Nat} {xs : List Value} (h : w.ownsRow B e s v n xs) (hb : ∀ g, v.ownBlock = some g → w'.heap[g]? = w.heap[g]?) : w'.ownsRow B e s v n xs := by
  obtain ⟨h1, h2⟩ := h
  refine ⟨h1, h2.elim .inl fun ⟨g, cap, cur, hv, hg, hh, r⟩ => .inr ⟨g, cap, cur, hv, hg, ?_, r⟩⟩
  rw [hb g (by rw [hv]; rfl)]
  exact hh
theorem rd_keep {α : Type} {enc : α → Value} {w w' : World} {v : Value} {xs : List α} (h : Rd enc w v xs) (hs : w.heap.size ≤ w'.heap.size) (hb : 0 < xs.length → ∀ b, v.ownBlock = some b → w'.heap[b]? = w.heap[b]?) : Rd enc w' v xs :=
  h.keep hs fun h0 b e _ => hb h0 b e

structure HIn (w : World) (h : Nat) (M : HM) (F : Nat → Prop) (bw bc bs cc : Nat) (f : Nat → Value) (vu : Value) : Prop where
  self : Blk w h 94 (hcells bw bc bs (8 * M.n + 1) M.n cc f vu)
  wblk : Blk w bw 2 (M.words.map i64e).toArray
  wlen : M.words.length = 8 * M.n + 1
  wbd : I64 M.words
  cown : w.ownsRow 0 3 1 (.slice (some ⟨bc, 0, none⟩) M.n cc) M.n (M.cls.map i64e)
  clen : M.cls.length = M.n
  sblk : Blk w bs 100 (flat M.sh).toArray
  slen : M.sh.length = 8 * M.n + 1
  ur : Rd u64e w vu M.zs
  u64 : U64 M.zs
  ulen : M.zs.length ≤ 1024
  fr : ∀ j, j < 4 → Rd i64e w (f j) (M.free j)
  n1 : 1 ≤ M.n
  n2 : M.n ≤ 512
  dist : h ≠ bw ∧ h ≠ bc ∧ h ≠ bs ∧ bw ≠ bc ∧ bw ≠ bs ∧ bc ≠ bs
  inF : F h ∧ F bw ∧ F bc ∧ F bs
  uF : 0 < M.zs.length → ∀ b, vu.ownBlock = some b → F b ∧ b ≠ h ∧ b ≠ bw ∧ b ≠ bc ∧ b ≠ bs
  fF : ∀ j, j < 4 → 0 < (M.free j).length → ∀ b, (f j).ownBlock = some b → F b ∧ b ≠ h ∧ b ≠ bw ∧ b ≠ bc ∧ b ≠ bs
  lt : ∀ k, F k → k < w.heap.size
section
variable {w w' : World} {h : Nat} {M : HM} {F : Nat → Prop} {bw bc bs cc : Nat} {f : Nat → Value} {vu : Value}
theorem HIn.keep (H : HIn w h M F bw bc bs cc f vu) (hs : w.heap.size ≤ w'.heap.size) (hk : ∀ k, F k → w'.heap[k]? = w.heap[k]?) : HIn w' h M F bw bc bs cc f vu :=
  { H with
    self := (hk h H.inF.1).trans H.self
    wblk := (hk bw H.inF.2.1).trans H.wblk
    cown := own_keep H.cown fun g e => by cases e; exact hk _ H.inF.2.2.1
    sblk := (hk bs H.inF.2.2.2).trans H.sblk
    ur := rd_keep H.ur hs fun h0 b e => hk b (H.uF h0 b e).1
    fr := fun j hj => rd_keep (H.fr j hj) hs fun h0 b e => hk b (H.fF j hj h0 b e).1
    lt := fun k hF => Nat.lt_of_lt_of_le (H.lt k hF) hs }
theorem HIn.below (H : HIn w h M F bw bc bs cc f vu) (hb : Below w.heap.size w w') : HIn w' h M F bw bc bs cc f vu :=
  H.keep hb.size fun k hF => hb.block k (H.lt k hF)
/-- A step elsewhere. -/
theorem HIn.step {D D' : Nat → Prop} (H : HIn w h M F bw bc bs cc f vu) (hs : Step D w w' D') (hd : ∀ k, F k → ¬ D k) : HIn w' h M F bw bc bs cc f vu :=
  H.keep hs.frame.size fun k hF => hs.frame.block k (H.lt k hF) (hd k hF)
theorem HIn.cells (H : HIn w h M F bw bc bs cc f vu) : w.cell? ⟨h, 0, none⟩ = some (.slice (some ⟨bw, 0, none⟩) (8 * M.n + 1) (8 * M.n + 1)) ∧ w.cell? ⟨h, 1, none⟩ = some (.slice (some ⟨bc, 0, none⟩) M.n cc) ∧
    w.cell? ⟨h, 6, none⟩ = some vu ∧ w.cell? ⟨h, 7, none⟩ = some (.slice (some ⟨bs, 0, none⟩) (8 * M.n + 1) (8 * M.n + 1)) :=
  ⟨H.self.cell 0, H.self.cell 1, H.self.cell 6, H.self.cell 7⟩
theorem HIn.free_cell (H : HIn w h M F bw bc bs cc f vu) {k : Nat} (hk : k < 4) : w.cell? ⟨h, 2 + k, none⟩ = some (f k) := by
  rw [H.self.cell (2 + k)]
  rcases (show k = 0 ∨ k = 1 ∨ k = 2 ∨ k = 3 from by omega) with rfl | rfl | rfl | rfl <;> rfl
theorem HIn.word_cell (H : HIn w h M F bw bc bs cc f vu) {i : Nat} (hi : i < 8 * M.n + 1) : w.cell? ⟨bw, i, none⟩ = some (.int .i64 (M.words.getD i 0)) := by
  rw [H.wblk.cell i]
  have : i < M.words.length := by rw [H.wlen]; exact hi
  simp [List.getD, this]
theorem HIn.sh_cell (H : HIn w h M F bw bc bs cc f vu) {i : Nat} (hi : i < 8 * M.n + 1) : w.cell? ⟨bs, 2 * i, none⟩ = some (.int .i64 (M.sh.getD i (0, 0)).1) ∧ w.cell? ⟨bs, 2 * i + 1, none⟩ = some (.int .u8 (M.sh.getD i (0, 0)).2) := by
  have hl : i < M.sh.length := by rw [H.slen]; exact hi
  have := flat_at M.sh i hl
  rw [H.sblk.cell, H.sblk.cell]
  simp only [List.getElem?_toArray, this.1, this.2, List.getD, List.getElem?_eq_getElem hl, Option.getD_some, and_self]
theorem HIn.ccell (H : HIn w h M F bw bc bs cc f vu) {i : Nat} (hi : i < M.n) : w.cell? ⟨bc, i, none⟩ = some (.int .i64 (M.cls.getD i 0)) := by
  rw [H.cown.cellAt i (by omega)]
  have : i < M.cls.length := by rw [H.clen]; exact hi
  simp [List.getD, this]
/-- One cell of a block of F is another one now: the other blocks are as they were. -/
theorem setCell_other (w : World) (b i : Nat) (u : Value) {k : Nat} (hk : k ≠ b) : (w.setCell ⟨b, i, none⟩ u).heap[k]? = w.heap[k]? := Below.heap_setCell w _ u k hk
theorem setCell_size (w : World) (p : Addr) (u : Value) : (w.setCell p u).heap.size = w.heap.size := by simp [World.setCell]
theorem step_setCell {b i : Nat} (u : Value) (hb : F b) : Step F w (w.setCell ⟨b, i, none⟩ u) F :=
  ⟨⟨rfl, rfl, rfl, Nat.le_of_eq (setCell_size w _ u).symm, fun k _ hn => setCell_other w b i u (fun e => hn (e ▸ hb))⟩, fun _ h => .inl h⟩
theorem HIn.set_word (H : HIn w h M F bw bc bs cc f vu) (i : Nat) (x : Int) (hx : -9223372036854775808 ≤ x ∧ x ≤ 9223372036854775807) : HIn (w.setCell ⟨bw, i, none⟩ (.int .i64 x)) h { M with words := M.words.set i x } F bw bc bs cc f vu := by
  have ho : ∀ k, k ≠ bw → (w.setCell ⟨bw, i, none⟩ (.int .i64 x)).heap[k]? = w.heap[k]? := fun k hk => setCell_other w bw i _ hk
  obtain ⟨d1, d2, d3, d4, d5, d6⟩ := H.dist
  exact { H with
    self := (ho h d1).trans H.self
    wblk := by
      have := H.wblk.set_ i (.int .i64 x)
      rw [show ((M.words.map i64e).toArray).setIfInBounds i (.int .i64 x) = ((M.words.set i x).map i64e).toArray by rw [List.map_set]; simp] at this
      exact this
    wlen := by simpa using H.wlen
    wbd := fun y hy => by
      rcases List.mem_or_eq_of_mem_set hy with hy | rfl
      · exact H.wbd y hy
      · exact hx
    cown := own_keep H.cown fun g e => by cases e; exact ho _ (Ne.symm d4)
    sblk := (ho bs (Ne.symm d5)).trans H.sblk
    ur := rd_keep H.ur (Nat.le_of_eq (setCell_size w _ _).symm) fun h0 b e => ho b (H.uF h0 b e).2.2.1
    fr := fun j hj => rd_keep (H.fr j hj) (Nat.le_of_eq (setCell_size w _ _).symm) fun h0 b e => ho b (H.fF j hj h0 b e).2.2.1
    lt := fun k hF => by rw [setCell_size]; exact H.lt k hF }
theorem HIn.set_cls (H : HIn w h M F bw bc bs cc f vu) (i : Nat) (x : Int) : HIn (w.setCell ⟨bc, i, none⟩ (.int .i64 x)) h { M with cls := M.cls.set i x } F bw bc bs cc f vu := by
  have ho : ∀ k, k ≠ bc → (w.setCell ⟨bc, i, none⟩ (.int .i64 x)).heap[k]? = w.heap[k]? := fun k hk => setCell_other w bc i _ hk
  obtain ⟨d1, d2, d3, d4, d5, d6⟩ := H.dist
  exact { H with
    self := (ho h d2).trans H.self
    wblk := (ho bw d4).trans H.wblk
    cown := by
      have := (H.cown.stored i (.int .i64 x)).1
      rw [show (M.cls.map i64e).set i (.int .i64 x) = (M.cls.set i x).map i64e by rw [List.map_set]] at this
      exact this
    clen := by simpa using H.clen
    sblk := (ho bs (Ne.symm d6)).trans H.sblk
    ur := rd_keep H.ur (Nat.le_of_eq (setCell_size w _ _).symm) fun h0 b e => ho b (H.uF h0 b e).2.2.2.1
    fr := fun j hj => rd_keep (H.fr j hj) (Nat.le_of_eq (setCell_size w _ _).symm) fun h0 b e => ho b (H.fF j hj h0 b e).2.2.2.1
    lt := fun k hF => by rw [setCell_size]; exact H.lt k hF }
theorem HIn.set_sh (H : HIn w h M F bw bc bs cc f vu) (i : Nat) (s : Int × Int) (hi : i < 8 * M.n + 1) : HIn ((w.setCell ⟨bs, 2 * i, none⟩ (.int .i64 s.1)).setCell ⟨bs, 2 * i + 1, none⟩ (.int .u8 s.2)) h { M with sh := M.sh.set i s } F bw bc bs cc f vu := by
  have ho : ∀ k, k ≠ bs → ((w.setCell ⟨bs, 2 * i, none⟩ (.int .i64 s.1)).setCell ⟨bs, 2 * i + 1, none⟩ (.int .u8 s.2)).heap[k]? = w.heap[k]? := fun k hk => (setCell_other _ bs _ _ hk).trans (setCell_other w bs _ _ hk)
  have hz : ((w.setCell ⟨bs, 2 * i, none⟩ (.int .i64 s.1)).setCell ⟨bs, 2 * i + 1, none⟩ (.int .u8 s.2)).heap.size = w.heap.size := by rw [setCell_size, setCell_size]
  obtain ⟨d1, d2, d3, d4, d5, d6⟩ := H.dist
  exact { H with
    self := (ho h d3).trans H.self
    wblk := (ho bw d5).trans H.wblk
    cown := own_keep H.cown fun g e => by cases e; exact ho _ d6
    sblk := by
      have := (H.sblk.set_ (2 * i) (.int .i64 s.1)).set_ (2 * i + 1) (.int .u8 s.2)
      rw [show (((flat M.sh).toArray.setIfInBounds (2 * i) (.int .i64 s.1)).setIfInBounds (2 * i + 1) (.int .u8 s.2)) = (flat (M.sh.set i s)).toArray by rw [← flat_set _ _ _ (by rw [H.slen]; exact hi)]; simp] at this
      exact this
    slen := by simpa using H.slen
    ur := rd_keep H.ur (Nat.le_of_eq hz.symm) fun h0 b e => ho b (H.uF h0 b e).2.2.2.2
    fr := fun j hj => rd_keep (H.fr j hj) (Nat.le_of_eq hz.symm) fun h0 b e => ho b (H.fF j hj h0 b e).2.2.2.2
    lt := fun k hF => by rw [hz]; exact H.lt k hF }
theorem HIn.set_used (H : HIn w h M F bw bc bs cc f vu) {vu' : Value} {zs' : List Int} (hr : Rd u64e w vu' zs') (hu : U64 zs') (hl : zs'.length ≤ 1024) {F' : Nat → Prop} (hF : ∀ k, F k → F' k) (hlt : ∀ k, F' k → k < w.heap.size)
    (hv : 0 < zs'.length → ∀ b, vu'.ownBlock = some b → F' b ∧ b ≠ h ∧ b ≠ bw ∧ b ≠ bc ∧ b ≠ bs) : HIn (w.setCell ⟨h, 6, none⟩ vu') h { M with zs := zs' } F' bw bc bs cc f vu' := by
  have ho : ∀ k, k ≠ h → (w.setCell ⟨h, 6, none⟩ vu').heap[k]? = w.heap[k]? := fun k hk => setCell_other w h 6 _ hk
  obtain ⟨d1, d2, d3, d4, d5, d6⟩ := H.dist
  have hs : w.heap.size ≤ (w.setCell ⟨h, 6, none⟩ vu').heap.size := Nat.le_of_eq (setCell_size w _ _).symm
  exact { H with
    self := H.self.set_ 6 vu'
    wblk := (ho bw (Ne.symm d1)).trans H.wblk
    cown := own_keep H.cown fun g e => by cases e; exact ho _ (Ne.symm d2)
    sblk := (ho bs (Ne.symm d3)).trans H.sblk
    ur := rd_keep hr hs fun h0 b e => ho b (hv h0 b e).2.1
    u64 := hu
    ulen := hl
    fr := fun j hj => rd_keep (H.fr j hj) hs fun h0 b e => ho b (H.fF j hj h0 b e).2.1
    inF := ⟨hF _ H.inF.1, hF _ H.inF.2.1, hF _ H.inF.2.2.1, hF _ H.inF.2.2.2⟩
    uF := hv
    fF := fun j hj h0 b e => ⟨hF _ (H.fF j hj h0 b e).1, (H.fF j hj h0 b e).2⟩
    lt := fun k hk => by rw [setCell_size]; exact hlt k hk }
theorem HIn.set_free (H : HIn w h M F bw bc bs cc f vu) {f' : Nat → Value} {L : Nat → List Int} (hr : ∀ j, j < 4 → Rd i64e w (f' j) (L j)) {F' : Nat → Prop} (hF : ∀ k, F k → F' k) (hlt : ∀ k, F' k → k < w.heap.size)
    (hv : ∀ j, j < 4 → 0 < (L j).length → ∀ b, (f' j).ownBlock = some b → F' b ∧ b ≠ h ∧ b ≠ bw ∧ b ≠ bc ∧ b ≠ bs) : HIn (w.setCells h 2 [f' 0, f' 1, f' 2, f' 3]) h { M with free := L } F' bw bc bs cc f' vu := by
  have e : w.setCells h 2 [f' 0, f' 1, f' 2, f' 3] = (((w.setCell ⟨h, 2, none⟩ (f' 0)).setCell ⟨h, 3, none⟩ (f' 1)).setCell ⟨h, 4, none⟩ (f' 2)).setCell ⟨h, 5, none⟩ (f' 3) := rfl
  rw [e]
  have ho : ∀ k, k ≠ h → ((((w.setCell ⟨h, 2, none⟩ (f' 0)).setCell ⟨h, 3, none⟩ (f' 1)).setCell ⟨h, 4, none⟩ (f' 2)).setCell ⟨h, 5, none⟩ (f' 3)).heap[k]? = w.heap[k]? := fun k hk => by
    rw [setCell_other _ h _ _ hk, setCell_other _ h _ _ hk, setCell_other _ h _ _ hk, setCell_other _ h _ _ hk]
  have hz : ((((w.setCell ⟨h, 2, none⟩ (f' 0)).setCell ⟨h, 3, none⟩ (f' 1)).setCell ⟨h, 4, none⟩ (f' 2)).setCell ⟨h, 5, none⟩ (f' 3)).heap.size = w.heap.size := by
    rw [setCell_size, setCell_size, setCell_size, setCell_size]
  have hs := Nat.le_of_eq hz.symm
  obtain ⟨d1, d2, d3, d4, d5, d6⟩ := H.dist
  exact { H with
    self := (((H.self.set_ 2 (f' 0)).set_ 3 (f' 1)).set_ 4 (f' 2)).set_ 5 (f' 3)
    wblk := (ho bw (Ne.symm d1)).trans H.wblk
    cown := own_keep H.cown fun g e => by cases e; exact ho _ (Ne.symm d2)
    sblk := (ho bs (Ne.symm d3)).trans H.sblk
    ur := rd_keep H.ur hs fun h0 b e => ho b (H.uF h0 b e).2.1
    fr := fun j hj => rd_keep (hr j hj) hs fun h0 b e => ho b (hv j hj h0 b e).2.1
    inF := ⟨hF _ H.inF.1, hF _ H.inF.2.1, hF _ H.inF.2.2.1, hF _ H.inF.2.2.2⟩
    uF := fun h0 b e => ⟨hF _ (H.uF h0 b e).1, (H.uF h0 b e).2⟩
    fF := hv
    lt := fun k hk => by rw [hz]; exact hlt k hk }
end
/-- A heap of the program. -/
def HAt (w : World) (h : Nat) (M : HM) (F : Nat → Prop) : Prop := ∃ bw bc bs cc f vu, HIn w h M F bw bc bs cc f vu
theorem HAt.below {w w' : World} {h : Nat} {M : HM} {F : Nat → Prop} (H : HAt w h M F) (hb : Below w.heap.size w w') : HAt w' h M F := by
  obtain ⟨bw, bc, bs, cc, f, vu, H⟩ := H
  exact ⟨bw, bc, bs, cc, f, vu, H.below hb⟩
theorem HAt.step {w w' : World} {h : Nat} {M : HM} {F D D' : Nat → Prop} (H : HAt w h M F) (hs : Step D w w' D') (hd : ∀ k, F k → ¬ D k) : HAt w' h M F := by
  obtain ⟨bw, bc, bs, cc, f, vu, H⟩ := H
  exact ⟨bw, bc, bs, cc, f, vu, H.step hs hd⟩
theorem HAt.lt {w : World} {h : Nat} {M : HM} {F : Nat → Prop} (H : HAt w h M F) : ∀ k, F k → k < w.heap.size := by
  obtain ⟨bw, bc, bs, cc, f, vu, H⟩ := H
  exact H.lt
end Go.Proofs.YtcaboknbdamlhaaGreatDoor
