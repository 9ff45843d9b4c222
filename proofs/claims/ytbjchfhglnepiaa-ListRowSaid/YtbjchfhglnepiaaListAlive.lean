/- The answers that the document fixes for the lists: alive is true. -/
import Derived.Test.YtbjchfhglnepiaaListVar
set_option linter.unusedVariables false
set_option linter.unusedSimpArgs false
namespace Go.Proofs.Ytbjchfhglnepiaa
open Go.RowKit

def lst (xs : List Int) : Nat → List Int := fun j => if j = 1 then xs else []
theorem put_at {v : Value} {L : Nat → List Int} (L' : Nat → List Int) (c p e' : Int) {w : World} (hv : RdL w v L) (hl : ShortL L) (hp : p ≤ 9223372036854775807) (he : (putL L c p).2 = e') (hL : ∀ j, j < 4 → (putL L c p).1 j = L' j) :
    Calls Try.prog 27 #[v, .int .i64 c, .int .i64 p] w fun e w' => ∃ v, e = .returned (.tuple #[v, .int .i64 e']) ∧ RdL w' v L' ∧ Below w.heap.size w w' := by
  refine (put_any c p hv hl hp).mono ?_
  rintro e w' ⟨v, rfl, h1, h2⟩
  exact ⟨v, by rw [he], h1.congr hL, h2⟩
theorem take_at {v : Value} {L : Nat → List Int} (L' : Nat → List Int) (c p e' : Int) {w : World} (hv : RdL w v L) (hl : ShortL L) (hp : (takeL L c).2.1 = p) (he : (takeL L c).2.2 = e') (hL : ∀ j, j < 4 → (takeL L c).1 j = L' j) :
    Calls Try.prog 29 #[v, .int .i64 c] w fun e w' => ∃ v, e = .returned (.tuple #[v, .int .i64 p, .int .i64 e']) ∧ RdL w' v L' ∧ Below w.heap.size w w' := by
  obtain ⟨f, rfl, hf⟩ := hv
  refine (take_ok f L c w hf hl).mono ?_
  rintro e w' ⟨v, rfl, h1, h2⟩
  exact ⟨v, by rw [he, hp], h1.congr hL, h2⟩
theorem cut_at {v : Value} {L : Nat → List Int} (L' : Nat → List Int) (s n : Int) {w : World} (hv : RdL w v L) (hl : ShortL L) (hbd : BdL L) (hn : goneTo L s 4 = n) (hL : ∀ j, j < 4 → cutL L s j = L' j) :
    Calls Try.prog 31 #[v, .int .i64 s] w fun e w' => ∃ v, e = .returned (.tuple #[v, .int .i64 n]) ∧ RdL w' v L' ∧ Below w.heap.size w w' := by
  obtain ⟨f, rfl, hf⟩ := hv
  refine (cut_ok f L s w hf hl hbd).mono ?_
  rintro e w' ⟨v, rfl, h1, h2⟩
  exact ⟨v, by rw [hn], h1.congr hL, h2⟩
theorem has_any {v : Value} {L : Nat → List Int} (x n : Int) {w : World} (hv : RdL w v L) (hl : ShortL L) (hn : hasIn L x = n) :
    Calls Try.prog 34 #[v, .int .i64 x] w fun e w' => e = .returned (.int .i64 n) ∧ Below w.heap.size w w' := by
  obtain ⟨f, rfl, hf⟩ := hv
  exact hn ▸ has_ok f L x w hf hl
theorem lst_short {xs : List Int} (h : xs.length ≤ 4) : ShortL (lst xs) := fun j _ => by
  unfold lst
  by_cases e : j = 1
  · rw [if_pos e]; omega
  · rw [if_neg e]; simp
theorem begins13 : beginsAt 1 1 = true ∧ beginsAt 3 1 = true ∧ beginsAt 3 0 = true ∧ spanOf 1 = 0 ∧ spanOf 3 = 0 := by decide
theorem hasIn_lst (xs : List Int) (x : Int) : hasIn (lst xs) x = if x ∈ xs then 1 else -1 := by simp [hasIn, lst]
theorem lt4 {p : Nat → Prop} (h0 : p 0) (h1 : p 1) (h2 : p 2) (h3 : p 3) : ∀ j, j < 4 → p j := by
  intro j hj
  match j, hj with
  | 0, _ => exact h0
  | 1, _ => exact h1
  | 2, _ => exact h2
  | 3, _ => exact h3

set_option maxHeartbeats 1600000 in
theorem alive_ok (w : World) : Calls Try.prog 25 #[] w fun e w' => e = .returned (.bool true) ∧ Below w.heap.size w w' := by
  have SZ := Lib.hid lists_size
  obtain ⟨b1, b2, b3, b4, b5⟩ := begins13
  go_enter Try.func25, Try.ntmps25
  go_wp2_with fail
  refine (put_at (L := lst []) (lst [1]) 1 1 0 ⟨fun _ => .slice none 0 0, rfl, lt4 (Rd.none_ _ _) (Rd.none_ _ _) (Rd.none_ _ _) (Rd.none_ _ _)⟩ (lst_short (by simp)) (by omega) ?_ ?_).mono ?_
  · simp [putL, b1, hasIn_lst]
  · simp only [putL, b1, hasIn_lst]
    exact lt4 rfl rfl rfl rfl
  rintro e w1 ⟨v1, rfl, hv1, hb1⟩
  have hv1 := Lib.hid hv1
  go_wp2_with (first
    | (refine wpList_new rfl (.alloc 38) rfl w1.heap.size rfl 38 nil4 (by kernel_rfl) ?_; intro w2 hs2 hb2 hV2; have hV2 := Lib.hid (VarL.nil hV2); have hv2 := Lib.hid (hv1.out.below hb2))
    | (refine wpList_store_var rfl 38 (.tmp 1) (.tmp 14) rfl w1.heap.size rfl _ rfl (lst [1]) hv2.out 38 noL hV2.out SZ.out ?_; intro w3 hV3 hg3 hs3; refine stop_here ?_))
  have hV3 := Lib.hid hV3
  have hb3 := grown_below (hb1.trans (hb2.mono hb1.size)) hg3 (by have := hb1.size; omega) hb1.size
  have hz3 : w1.heap.size + 1 = w3.heap.size := by omega
  clear hV2 hv2 hv1 hg3 hs3 hs2
  refine go_on ?_
  go_wp2_with (refine wpList_load_var rfl 38 (.tmp 1) rfl w1.heap.size rfl 38 (lst [1]) hV3.out _ Try.underlying38 rfl SZ.out ?_; intro f3 hf3)
  refine (put_at (L := lst [1]) (lst [1, 3]) 1 3 0 ⟨f3, rfl, hf3⟩ (lst_short (by simp)) (by omega) ?_ ?_).mono ?_
  · simp [putL, b2, hasIn_lst]
  · simp only [putL, b2, hasIn_lst]
    exact lt4 rfl rfl rfl rfl
  rintro e w4 ⟨v4, rfl, hv4, hb4⟩
  have hv4 := Lib.hid hv4
  have hV4 := Lib.hid (hV3.out.below hb4)
  have hb4' := hb3.trans (hb4.mono hb3.size)
  have hz4 : w1.heap.size < w4.heap.size := by have := hb4.size; omega
  clear hV3 hf3
  go_wp2_with (refine wpList_store_var rfl 38 (.tmp 1) (.tmp 19) rfl w1.heap.size rfl _ rfl (lst [1, 3]) hv4.out 38 (lst [1]) hV4.out SZ.out ?_; intro w5 hV5 hg5 hs5; refine stop_here ?_)
  have hV5 := Lib.hid hV5
  have hb5 := grown_below hb4' hg5 hb4'.size hb1.size
  have hz5 : w1.heap.size < w5.heap.size := by omega
  clear hV4 hv4 hg5 hs5
  refine go_on ?_
  go_wp2_with (refine wpList_load_var rfl 38 (.tmp 1) rfl w1.heap.size rfl 38 (lst [1, 3]) hV5.out _ Try.underlying38 rfl SZ.out ?_; intro f5 hf5)
  refine (put_at (L := lst [1, 3]) (lst [1, 3]) 0 3 8 ⟨f5, rfl, hf5⟩ (lst_short (by simp)) (by omega) ?_ ?_).mono ?_
  · simp [putL, b3, hasIn_lst]
  · simp only [putL, b3, hasIn_lst]
    exact lt4 rfl rfl rfl rfl
  rintro e w6 ⟨v6, rfl, hv6, hb6⟩
  have hv6 := Lib.hid hv6
  have hV6 := Lib.hid (hV5.out.below hb6)
  have hb6' := hb5.trans (hb6.mono hb5.size)
  have hz6 : w1.heap.size < w6.heap.size := by have := hb6.size; omega
  clear hV5 hf5
  go_wp2_with (first
    | (refine wpList_new rfl (.alloc 38) rfl w6.heap.size rfl 38 nil4 (by kernel_rfl) ?_; intro w7 hs7 hb7 hN7; have hN7 := Lib.hid (VarL.nil hN7); have hv7 := Lib.hid (hv6.out.below hb7); have hV7 := Lib.hid (hV6.out.below hb7))
    | (refine wpList_store_var rfl 38 (.tmp 4) (.tmp 24) rfl w6.heap.size rfl _ rfl (lst [1, 3]) hv7.out 38 noL hN7.out SZ.out ?_; intro w8 hN8 hg8 hs8; refine stop_here ?_))
  have hV8 := Lib.hid (hV7.out.other hN7.out (by omega) hg8)
  have hb8 := grown_below (hb6'.trans (hb7.mono hb6'.size)) hg8 (by have := hb6'.size; omega) hb6'.size
  have hz8 : w1.heap.size < w8.heap.size := by omega
  clear hV7 hV6 hv6 hv7 hN7 hN8 hg8 hs8 hs7
  refine go_on ?_
  go_wp2_with (refine wpList_load_var rfl 38 (.tmp 1) rfl w1.heap.size rfl 38 (lst [1, 3]) hV8.out _ Try.underlying38 rfl SZ.out ?_; intro f8 hf8)
  refine (take_at (L := lst [1, 3]) (lst [1]) 1 3 0 ⟨f8, rfl, hf8⟩ (lst_short (by simp)) (by rfl) (by rfl) (lt4 rfl rfl rfl rfl)).mono ?_
  rintro e w9 ⟨v9, rfl, hv9, hb9⟩
  have hv9 := Lib.hid hv9
  have hV9 := Lib.hid (hV8.out.below hb9)
  have hb9' := hb8.trans (hb9.mono hb8.size)
  have hz9 : w1.heap.size < w9.heap.size := by have := hb9.size; omega
  clear hV8 hf8
  go_wp2_with (first
    | (refine wpList_new rfl (.alloc 38) rfl w9.heap.size rfl 38 nil4 (by kernel_rfl) ?_; intro w10 hs10 hb10 hN10; have hN10 := Lib.hid (VarL.nil hN10); have hv10 := Lib.hid (hv9.out.below hb10); have hV10 := Lib.hid (hV9.out.below hb10))
    | (refine wpList_store_var rfl 38 (.tmp 6) (.tmp 29) rfl w9.heap.size rfl _ rfl (lst [1]) hv10.out 38 noL hN10.out SZ.out ?_; intro w11 hN11 hg11 hs11; refine stop_here ?_))
  have hV11 := Lib.hid (hV10.out.other hN10.out (by omega) hg11)
  have hN11 := Lib.hid hN11
  have hb11 := grown_below (hb9'.trans (hb10.mono hb9'.size)) hg11 (by have := hb9'.size; omega) hb9'.size
  have hz11 : w9.heap.size < w11.heap.size := by omega
  clear hV10 hV9 hv9 hv10 hN10 hg11 hs11 hs10
  refine go_on ?_
  go_wp2_with (refine wpList_load_var rfl 38 (.tmp 1) rfl w1.heap.size rfl 38 (lst [1, 3]) hV11.out _ Try.underlying38 rfl SZ.out ?_; intro f11 hf11)
  refine (cut_at (L := lst [1, 3]) (lst []) 0 2 ⟨f11, rfl, hf11⟩ (lst_short (by simp)) ?_ ?_ ?_).mono ?_
  · exact lt4 (by simp [lst]) (by simp [lst]) (by simp [lst]) (by simp [lst])
  · simp [goneTo, goneS, lst, b4, b5]
  · exact lt4 (by simp [cutL, keepS, lst]) (by simp [cutL, keepS, lst, b4, b5]) (by simp [cutL, keepS, lst]) (by simp [cutL, keepS, lst])
  rintro e w12 ⟨v12, rfl, hv12, hb12⟩
  have hv12 := Lib.hid hv12
  have hV12 := Lib.hid (hV11.out.below hb12)
  have hM12 := Lib.hid (hN11.out.below hb12)
  have hb12' := hb11.trans (hb12.mono hb11.size)
  have hz12 : w9.heap.size < w12.heap.size := by have := hb12.size; omega
  clear hV11 hf11 hN11
  go_wp2_with (first
    | (refine wpList_new rfl (.alloc 38) rfl w12.heap.size rfl 38 nil4 (by kernel_rfl) ?_; intro w13 hs13 hb13 hN13; have hN13 := Lib.hid (VarL.nil hN13); have hv13 := Lib.hid (hv12.out.below hb13); have hV13 := Lib.hid (hV12.out.below hb13); have hM13 := Lib.hid (hM12.out.below hb13))
    | (refine wpList_store_var rfl 38 (.tmp 9) (.tmp 35) rfl w12.heap.size rfl _ rfl (lst []) hv13.out 38 noL hN13.out SZ.out ?_; intro w14 hN14 hg14 hs14; refine stop_here ?_))
  have hV14 := Lib.hid (hV13.out.other hN13.out (by omega) hg14)
  have hM14 := Lib.hid (hM13.out.other hN13.out (by omega) hg14)
  have hN14 := Lib.hid hN14
  have hb14 := grown_below (hb12'.trans (hb13.mono hb12'.size)) hg14 (by have := hb12'.size; omega) hb12'.size
  clear hV13 hV12 hv12 hv13 hM12 hM13 hN13 hg14 hs14 hs13
  obtain ⟨fl, hBl, hfl⟩ := hV14.out
  obtain ⟨fm, hBm, hfm⟩ := hM14.out
  obtain ⟨fn, hBn, hfn⟩ := hN14.out
  have hrl : Hid (RdL w14 (.agg #[fl 0, fl 1, fl 2, fl 3]) (lst [1, 3])) := Lib.hid ⟨fl, rfl, hfl⟩
  have hrm : Hid (RdL w14 (.agg #[fm 0, fm 1, fm 2, fm 3]) (lst [1])) := Lib.hid ⟨fm, rfl, hfm⟩
  obtain ⟨l0, l1, l2, l3⟩ := cell_arr4 hBl
  obtain ⟨An, cn, hcn, _⟩ := rd_cell3 hBn (k := 1) (by omega) (hfn 1 (by omega))
  have hcm1 := Lib.hid (show ∃ A c, w14.cell? ⟨w9.heap.size, 1, none⟩ = some (.slice A 1 c) from by
    obtain ⟨A, c, h, _⟩ := rd_cell3 hBm (k := 1) (by omega) (hfm 1 (by omega))
    exact ⟨A, c, h⟩)
  obtain ⟨Am, cm, hcm⟩ := hcm1.out
  have hln : (lst [] 1).length = 0 := rfl
  rw [hln] at hcn
  have hBm := Lib.hid hBm
  clear hln hBn hBl hfm hfn hfl
  refine go_on ?_
  go_wp2_with (first
    | (go_at_call 34; refine (has_any (L := lst [1, 3]) 3 1 hrl.out (lst_short (by simp)) (by rfl)).mono ?_; rintro e wa ⟨rfl, hba⟩; obtain ⟨m0, m1, m2, m3⟩ := cell_arr4 (hBm.out.below hba hBm.out.lt))
    | (go_at_call 34; refine (has_any (L := lst [1]) 3 (-1) (hrm.out.below hba) (lst_short (by simp)) (by rfl)).mono ?_; rintro e wb ⟨rfl, hbb⟩))
  go_ret
  exact ⟨rfl, (hb14.trans (hba.mono hb14.size)).trans (hbb.mono (by have := hb14.size; have := hba.size; omega))⟩
end Go.Proofs.Ytbjchfhglnepiaa
