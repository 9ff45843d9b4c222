/- The walk of New. -/
import Derived.Test.YtcaboknbdamlhaaGreatDoorHeapGet
import Derived.RegionTactic
import Derived.BigRegion
import Derived.Deep.OwnRows
set_option linter.unusedVariables false
set_option linter.unusedSimpArgs false
namespace Go.Proofs.YtcaboknbdamlhaaGreatDoor
open Go.RowKit

theorem shape_row : (Tryz.prog.info? 100).map (fun i => (i.zero, i.size, i.bytes)) = some (some (.agg #[.int .i64 0, .int .u8 0]), 2, 16) := by kernel_rfl
theorem i64_row : (Tryz.prog.info? 2).map (fun i => (i.zero, i.size, i.bytes)) = some (some (.int .i64 0), 1, 8) := by kernel_rfl
theorem make_shapes (n : Nat) (hn : n ≤ 1000000) (w : World) : (Instr.makeSlice 92 (.int .i64 (n : Int)) (.int .i64 (n : Int))).run Tryz.prog w = .ok (.slice (some ⟨w.heap.size, 0, none⟩) n n) (w.alloc (.cells (madeCells #[.int .i64 0, .int .u8 0] (n * 2)) 100)) := by
  obtain ⟨i, hi, hzz⟩ := Option.map_eq_some_iff.1 shape_row
  simp only [Prod.mk.injEq] at hzz
  obtain ⟨hz, hs, hb⟩ := hzz
  have hb' : (i.bytes : Int) * (n : Int) ≤ 281474976710656 := by rw [hb]; omega
  have hr := run_make (P := Tryz.prog) w 92 100 i _ Tryz.underlying92 hi hz .i64 .i64 n n (by omega) (Int.le_refl _) hb' (by omega)
  simp only [Int.toNat_natCast, hs] at hr
  exact hr
set_option maxHeartbeats 1600000 in
set_option maxRecDepth 100000 in
theorem new_bad (n : Int) (w : World) (h : n < 1 ∨ 512 < n) :
    Calls Tryz.prog 53 #[.int .i64 n] w fun e w' => e = .returned (.pointer none) ∧ w = w' := by
  by_cases h1 : n < 1
  · clear h
    go_enter Tryz.func53, Tryz.ntmps53
    go_wp2_with fail
    go_ret
    exact ⟨rfl, rfl⟩
  · have h5 : 512 < n := by omega
    clear h
    go_enter Tryz.func53, Tryz.ntmps53
    go_wp2_with fail
    go_ret
    exact ⟨rfl, rfl⟩
theorem made_one (z : Value) (n : Nat) : madeCells #[z] n = (List.replicate n z).toArray := by
  apply Array.ext
  · simp [madeCells]
  · intro i h1 h2
    simp [madeCells, Nat.mod_one]
theorem made_two (a b : Value) (n : Nat) (l : List Value) (hl : l.length = 2 * n) (h : ∀ i, i < n → l[2 * i]? = some a ∧ l[2 * i + 1]? = some b) : madeCells #[a, b] (n * 2) = l.toArray := by
  apply Array.ext
  · simp [madeCells]; omega
  · intro i h1 h2
    have hi : i < n * 2 := by simpa [madeCells] using h1
    simp only [madeCells, Array.getElem_map, Array.getElem_range, List.getElem_toArray]
    obtain ⟨k, e | e⟩ : ∃ k, i = 2 * k ∨ i = 2 * k + 1 := ⟨i / 2, by omega⟩
    · have h3 := (h k (by omega)).1
      rw [← e] at h3
      rw [show i % (#[a, b] : Array Value).size = 0 by show i % 2 = 0; omega]
      have h4 := List.getElem?_eq_getElem (l := l) (i := i) (by simpa using h2)
      rw [h3] at h4
      injection h4
    · have h3 := (h k (by omega)).2
      rw [← e] at h3
      rw [show i % (#[a, b] : Array Value).size = 1 by show i % 2 = 1; omega]
      have h4 := List.getElem?_eq_getElem (l := l) (i := i) (by simpa using h2)
      rw [h3] at h4
      injection h4
theorem made_shapes (n : Nat) : madeCells #[.int .i64 0, .int .u8 0] (n * 2) = (flat (List.replicate n ((0 : Int), (0 : Int)))).toArray :=
  made_two _ _ n _ (by rw [flat_len]; simp) fun i hi => by
    have := flat_at (List.replicate n ((0 : Int), (0 : Int))) i (by simpa using hi)
    simpa using this
/-- A heap that is being made: k spans have a class yet, which is none. -/
structure NewIn (w : World) (B h bw bs N k : Nat) (vc : Value) : Prop where
  self : Blk w h 94 #[.slice (some ⟨bw, 0, none⟩) (8 * N + 1) (8 * N + 1), vc, .slice none 0 0, .slice none 0 0, .slice none 0 0, .slice none 0 0, .slice none 0 0, .slice (some ⟨bs, 0, none⟩) (8 * N + 1) (8 * N + 1)]
  wblk : Blk w bw 2 ((List.replicate (8 * N + 1) (0 : Int)).map i64e).toArray
  sblk : Blk w bs 100 (flat (List.replicate (8 * N + 1) ((0 : Int), (0 : Int)))).toArray
  cown : w.ownsRow (B + 3) 3 1 vc k ((List.replicate k (-1 : Int)).map i64e)
  at_ : h = B + 2 ∧ ((bw = B ∧ bs = B + 1) ∨ (bw = B + 1 ∧ bs = B))
theorem NewIn.grown {w w' : World} {B h bw bs N k : Nat} {vc v' : Value} (H : NewIn w B h bw bs N k vc) (hg : w.grownBy w' vc.ownBlock) (ho : w'.ownsRow (B + 3) 3 1 v' (k + 1) ((List.replicate k (-1 : Int)).map i64e ++ [i64e (-1)])) : NewIn (w'.setCell ⟨h, 1, none⟩ v') B h bw bs N (k + 1) v' ∧ w'.cell? ⟨h, 1, none⟩ = some vc ∧ w'.frozen? ⟨h, 1, none⟩ = false ∧ Below B w (w'.setCell ⟨h, 1, none⟩ v') := by
  obtain ⟨h1, h2⟩ := H.at_
  have hne : ∀ g, g < B + 3 → some g ≠ vc.ownBlock := fun g hg e => by
    have := (H.cown.lt g e.symm).1
    omega
  have S := H.self.grown hg (hne h (by omega))
  have hs := H.self.lt
  refine ⟨⟨S.set_ 1 v', ?_, ?_, ?_, H.at_⟩, S.cell 1, S.frozen 1, ?_⟩
  · exact (H.wblk.grown hg (hne bw (by omega))).far (p := ⟨h, 1, none⟩) (by show bw ≠ h; omega) v'
  · exact (H.sblk.grown hg (hne bs (by omega))).far (p := ⟨h, 1, none⟩) (by show bs ≠ h; omega) v'
  · have h9 := ownsRow_setCell_below ho (a := ⟨h, 1, none⟩) (by show h < B + 3; omega) v'
    rw [show (List.replicate (k + 1) (-1 : Int)).map i64e = (List.replicate k (-1 : Int)).map i64e ++ [i64e (-1)] by rw [List.replicate_succ']; simp]
    exact h9
  · exact ((Below.refl B w).grown hg (by omega) (fun g e => by have := (H.cown.lt g e).1; omega)).setCell (p := ⟨h, 1, none⟩) (by show B ≤ h; omega) v'
theorem NewIn.at {w : World} {B h bw bs N : Nat} {A : Option Addr} {c : Nat} (H : NewIn w B h bw bs N N (.slice A N c)) (h1 : 1 ≤ N) (h2 : N ≤ 512) :
    HAt w h ⟨N, List.replicate (8 * N + 1) 0, List.replicate N (-1), fun _ => [], [], List.replicate (8 * N + 1) (0, 0)⟩ (fun k => B ≤ k ∧ k < w.heap.size) := by
  obtain ⟨g, rfl, hg, hgl⟩ := own_addr H.cown (by omega)
  obtain ⟨e1, e2⟩ := H.at_
  have l1 := H.self.lt
  have l2 := H.wblk.lt
  have l3 := H.sblk.lt
  refine ⟨bw, g, bs, c, fun _ => .slice none 0 0, .slice none 0 0, H.self, H.wblk, by simp, fun x hx => ?_, own_base H.cown (Nat.zero_le _), by simp, H.sblk, by simp, Rd.none_ _ _, U64.nil, by simp, fun j _ => Rd.none_ _ _, h1, h2, ?_, ?_, fun h0 => absurd h0 (by simp), fun j _ h0 => absurd h0 (by simp), fun k hk => hk.2⟩
  · have := List.eq_of_mem_replicate hx; omega
  · show h ≠ bw ∧ h ≠ g ∧ h ≠ bs ∧ bw ≠ g ∧ bw ≠ bs ∧ g ≠ bs
    omega
  · show (B ≤ h ∧ h < w.heap.size) ∧ (B ≤ bw ∧ bw < w.heap.size) ∧ (B ≤ g ∧ g < w.heap.size) ∧ (B ≤ bs ∧ bs < w.heap.size)
    omega
theorem new_start (w : World) (N : Nat) : NewIn (((w.alloc (.cells (madeCells #[.int .i64 0] (8 * N + 1)) 2)).alloc (.cells (madeCells #[.int .i64 0, .int .u8 0] ((8 * N + 1) * 2)) 100)).alloc (.cells #[.slice (some ⟨w.heap.size, 0, none⟩) (8 * N + 1) (8 * N + 1), .slice none 0 0, .slice none 0 0, .slice none 0 0, .slice none 0 0, .slice none 0 0, .slice none 0 0, .slice (some ⟨w.heap.size + 1, 0, none⟩) (8 * N + 1) (8 * N + 1)] 94)) w.heap.size (w.heap.size + 2) w.heap.size (w.heap.size + 1) N 0 (.slice none 0 0) := by
  rw [made_one, made_shapes]
  refine ⟨?_, ?_, ?_, World.ownsRow_nil _ _ _ _, rfl, .inl ⟨rfl, rfl⟩⟩
  · have := Blk.new ((w.alloc (.cells (List.replicate (8 * N + 1) (.int .i64 0)).toArray 2)).alloc (.cells (flat (List.replicate (8 * N + 1) ((0 : Int), (0 : Int)))).toArray 100)) 94 #[.slice (some ⟨w.heap.size, 0, none⟩) (8 * N + 1) (8 * N + 1), .slice none 0 0, .slice none 0 0, .slice none 0 0, .slice none 0 0, .slice none 0 0, .slice none 0 0, .slice (some ⟨w.heap.size + 1, 0, none⟩) (8 * N + 1) (8 * N + 1)]
    simp only [World.size_alloc] at this
    exact this
  · rw [List.map_replicate]
    exact ((Blk.new w _ _).alloc _).alloc _
  · have := (Blk.new (w.alloc (.cells (List.replicate (8 * N + 1) (.int .i64 0)).toArray 2)) 100 (flat (List.replicate (8 * N + 1) ((0 : Int), (0 : Int)))).toArray).alloc (.cells #[.slice (some ⟨w.heap.size, 0, none⟩) (8 * N + 1) (8 * N + 1), .slice none 0 0, .slice none 0 0, .slice none 0 0, .slice none 0 0, .slice none 0 0, .slice none 0 0, .slice (some ⟨w.heap.size + 1, 0, none⟩) (8 * N + 1) (8 * N + 1)] 94)
    simp only [World.size_alloc] at this
    exact this
theorem new_start2 (w : World) (N : Nat) : NewIn (((w.alloc (.cells (madeCells #[.int .i64 0, .int .u8 0] ((8 * N + 1) * 2)) 100)).alloc (.cells (madeCells #[.int .i64 0] (8 * N + 1)) 2)).alloc (.cells #[.slice (some ⟨w.heap.size + 1, 0, none⟩) (8 * N + 1) (8 * N + 1), .slice none 0 0, .slice none 0 0, .slice none 0 0, .slice none 0 0, .slice none 0 0, .slice none 0 0, .slice (some ⟨w.heap.size, 0, none⟩) (8 * N + 1) (8 * N + 1)] 94)) w.heap.size (w.heap.size + 2) (w.heap.size + 1) w.heap.size N 0 (.slice none 0 0) := by
  rw [made_one, made_shapes]
  refine ⟨?_, ?_, ?_, World.ownsRow_nil _ _ _ _, rfl, .inr ⟨rfl, rfl⟩⟩
  · have := Blk.new ((w.alloc (.cells (flat (List.replicate (8 * N + 1) ((0 : Int), (0 : Int)))).toArray 100)).alloc (.cells (List.replicate (8 * N + 1) (.int .i64 0)).toArray 2)) 94 #[.slice (some ⟨w.heap.size + 1, 0, none⟩) (8 * N + 1) (8 * N + 1), .slice none 0 0, .slice none 0 0, .slice none 0 0, .slice none 0 0, .slice none 0 0, .slice none 0 0, .slice (some ⟨w.heap.size, 0, none⟩) (8 * N + 1) (8 * N + 1)]
    simp only [World.size_alloc] at this
    exact this
  · rw [List.map_replicate]
    have := (Blk.new (w.alloc (.cells (flat (List.replicate (8 * N + 1) ((0 : Int), (0 : Int)))).toArray 100)) 2 (List.replicate (8 * N + 1) (i64e 0)).toArray).alloc (.cells #[.slice (some ⟨w.heap.size + 1, 0, none⟩) (8 * N + 1) (8 * N + 1), .slice none 0 0, .slice none 0 0, .slice none 0 0, .slice none 0 0, .slice none 0 0, .slice none 0 0, .slice (some ⟨w.heap.size, 0, none⟩) (8 * N + 1) (8 * N + 1)] 94)
    simp only [World.size_alloc] at this
    exact this
  · exact ((Blk.new w _ _).alloc _).alloc _
theorem NewIn.drew {w : World} {B h bw bs N k : Nat} {vc : Value} (H : NewIn w B h bw bs N k vc) : NewIn w.drew B h bw bs N k vc := ⟨H.self, H.wblk, H.sblk, H.cown, H.at_⟩
theorem new_below (w : World) (a b c : Obj) : Below w.heap.size w (((w.alloc a).alloc b).alloc c).drew :=
  ((((below_alloc w a).alloc (by rw [World.size_alloc]; omega) b).alloc (by rw [World.size_alloc, World.size_alloc]; omega) c)).drew
def NewR (w : World) (N : Nat) (e : Ending) (w' : World) : Prop := ∃ h : Nat, e = .returned (.pointer (some ⟨h, 0, none⟩)) ∧ w.heap.size ≤ h ∧ HAt w' h ⟨N, List.replicate (8 * N + 1) 0, List.replicate N (-1), fun _ => [], [], List.replicate (8 * N + 1) (0, 0)⟩ (fun k => w.heap.size ≤ k ∧ k < w'.heap.size) ∧ Below w.heap.size w w'
set_option maxHeartbeats 3200000 in
set_option maxRecDepth 100000 in
theorem new_ok (N : Nat) (w : World) (h1 : 1 ≤ N) (h2 : N ≤ 512) :
    Calls Tryz.prog 53 #[.int .i64 (N : Int)] w (NewR w N) := by
  have hm1 := fun W => run_make_row' (P := Tryz.prog) 35 2 (.int .i64 0) 8 Tryz.underlying35 i64_row rfl .i64 .i64 (8 * N + 1) (by omega) (by omega) W
  have hm2 := fun W => make_shapes (8 * N + 1) (by omega) W
  rw [show (((8 * N + 1 : Nat) : Int)) = 8 * (N : Int) + 1 by omega] at hm1 hm2
  have k1 : ¬ ((N : Int) < 1) := by omega
  have k2 : ¬ ((512 : Int) < (N : Int)) := by omega
  have hs1 := Lib.hid (new_start w N).drew
  have hs2 := Lib.hid (new_start2 w N).drew
  go_enter Tryz.func53, Tryz.ntmps53
  go_wp2_with fail
  go_region
  all_goals
    clear hm1 hm2
    go_wp2_with fail
    go_loopw [21] (fun i wr => ∃ (k bw bs : Nat) (A : Option Addr) (c : Nat), k ≤ N ∧ i = .int .i64 k ∧ Hid (NewIn wr w.heap.size (w.heap.size + 1 + 1) bw bs N k (.slice A k c)) ∧ Below w.heap.size w wr) (fun i _ => N - (intOf i).toNat)
    case atStart => first | exact ⟨0, _, _, none, 0, by omega, rfl, hs1, new_below w _ _ _⟩ | exact ⟨0, _, _, none, 0, by omega, rfl, hs2, new_below w _ _ _⟩
    case round =>
      obtain ⟨k, bw, bs, A, c, hk, rfl, HN, hb⟩ := hrel
      have hc := HN.out.self.cell 1
      by_cases hlt : k < N
      · have hlt' : (k : Int) < (N : Int) := by omega
        have hown := HN.out.cown
        have hz := HN.out.self.lt
        go_wp2_with (at_builtin; refine wpList_push rfl (.tmp 27) (.tmp 28) _ rfl (w.heap.size + 3) 3 _ 8 Tryz.underlying36 int_info rfl _ _ _ rfl hown _ rfl rfl (by unfold maxLen; omega) (by omega) (by omega) ?_; intro v' w2 hown' hg hat; refine stop_here ?_)
        obtain ⟨A3, c3, rfl, -⟩ := own_form hown'
        obtain ⟨H2, hc2, hf2, hb2⟩ := HN.out.grown hg hown'
        replace H2 := Lib.hid H2
        have hb2 := hb.trans hb2
        clear hc HN hown hown' hg hat
        refine go_on ?_
        go_wp2_with fail
        go_roundw
        case rel => exact ⟨k + 1, bw, bs, A3, c3, by omega, by go_num, H2, hb2⟩
        case measure => simp [intOf]; omega
      · obtain rfl : k = N := by omega
        have t0 : decide ((k : Int) < (k : Int)) = false := by rw [decide_eq_false_iff_not]; omega
        clear hc
        go_wp2_with fail
        go_ret
        exact ⟨_, rfl, by omega, HN.out.at h1 h2, hb⟩
end Go.Proofs.YtcaboknbdamlhaaGreatDoor
