/- Which list has a block: Has of the reference. -/
import Derived.Test.YtcaboknbdamlhaaGreatDoorListHas
set_option linter.unusedVariables false
set_option linter.unusedSimpArgs false
namespace Go.Proofs.YtcaboknbdamlhaaGreatDoor
open Go.RowKit

theorem hasIn_here {L : Nat → List Int} {x : Int} {k : Nat} (hk : k < 4) (h : x ∈ L k) (hno : ∀ j, j < k → x ∉ L j) : hasIn L x = (k : Int) := by
  unfold hasIn
  rcases (show k = 0 ∨ k = 1 ∨ k = 2 ∨ k = 3 from by omega) with rfl | rfl | rfl | rfl
  · rw [if_pos h]; rfl
  · rw [if_neg (hno 0 (by omega)), if_pos h]; rfl
  · rw [if_neg (hno 0 (by omega)), if_neg (hno 1 (by omega)), if_pos h]; rfl
  · rw [if_neg (hno 0 (by omega)), if_neg (hno 1 (by omega)), if_neg (hno 2 (by omega)), if_pos h]; rfl
theorem hasIn_none {L : Nat → List Int} {x : Int} (hno : ∀ j, j < 4 → x ∉ L j) : hasIn L x = -1 := by
  unfold hasIn
  rw [if_neg (hno 0 (by omega)), if_neg (hno 1 (by omega)), if_neg (hno 2 (by omega)), if_neg (hno 3 (by omega))]

theorem rd_cell {w : World} {g : Nat} {t : TypeId} {f : Nat → Value} {L : Nat → List Int} {k : Nat} (h : Blk w g t (arr4 f)) (hk : k < 4) (hf : Rd i64e w (f k) (L k)) :
    ∃ A c, w.cell? ⟨g, k, none⟩ = some (.slice A (L k).length c) ∧ Rd i64e w (.slice A (L k).length c) (L k) ∧ f k = .slice A (L k).length c := by
  have hf0 := hf
  obtain ⟨A, c, e, _⟩ := hf.len
  refine ⟨A, c, ?_, e ▸ hf0, e⟩
  rw [h.cell k, arr4_get f hk, e]

theorem rhas_ok (f : Nat → Value) (L : Nat → List Int) (x : Int) (w : World) (hf : ∀ j, j < 4 → Rd i64e w (f j) (L j)) (hl : ShortL L) :
    Calls Tryz.prog 110 #[.agg (arr4 f), .int .i64 x] w fun e w' => e = .returned (.int .i64 (hasIn L x)) ∧ Below w.heap.size w w' := by
  have hb := below_alloc w (.cells (arr4 f) 37)
  have HF : Hid (∀ j, j < 4 → Rd i64e (w.alloc (.cells (arr4 f) 37)) (f j) (L j)) := Lib.hid fun j hj => (hf j hj).below hb
  have HG := Lib.hid (Blk.new w 37 (arr4 f))
  have HL := Lib.hid hl
  clear hf hl
  go_enter Tryz.func110, Tryz.ntmps110
  go_wp2_with fail
  go_loop [5] (fun c => ∃ k : Nat, k ≤ 4 ∧ c = .int .i64 k ∧ Hid (∀ j, j < k → x ∉ L j)) (fun c => 4 - (intOf c).toNat)
  case atStart => exact ⟨0, by omega, rfl, Lib.hid fun j hj => by omega⟩
  case round =>
    obtain ⟨k, hk, rfl, hno⟩ := hrel
    by_cases hlt : k < 4
    · obtain ⟨A, c, hc, hr, _⟩ := rd_cell HG.out hlt (HF.out k hlt)
      have hlk := HL.out k hlt
      go_wp2_with fail
      go_loop [6] (fun i => ∃ m : Nat, m ≤ (L k).length ∧ i = .int .i64 m ∧ Hid (∀ j (hj : j < (L k).length), j < m → (L k)[j] ≠ x)) (fun i => (L k).length - (intOf i).toNat)
      case atStart => exact ⟨0, by omega, rfl, Lib.hid fun j _ hj => by omega⟩
      case round =>
        obtain ⟨m, hm, rfl, hin⟩ := hrel
        by_cases hlm : m < (L k).length
        · obtain ⟨b, o, rfl, _, hcc⟩ := hr.at_ hlm
          by_cases hx : (L k)[m] = x
          · have hi := Lib.hid (hasIn_here hlt (hx ▸ List.getElem_mem hlm) hno.out)
            have hbx : ((L k)[m] == x) = true := by rw [beq_iff_eq]; exact hx
            clear hx hin
            go_wp2_with fail
            go_ret
            exact ⟨ret_int hi.out.symm, hb⟩
          · have hbx : ((L k)[m] == x) = false := by rw [beq_eq_false_iff_ne]; exact hx
            have hin' : Hid (∀ j (hj : j < (L k).length), j < m + 1 → (L k)[j] ≠ x) := Lib.hid fun j hj h => by
              rcases Nat.lt_or_ge j m with h1 | h1
              · exact hin.out j hj h1
              · have : j = m := by omega
                subst this; exact hx
            clear hx hin
            go_wp2_with fail
            go_round
            case rel => exact ⟨m + 1, by omega, by go_num, hin'⟩
            case measure => simp [intOf]; omega
        · have hno' : Hid (∀ j, j < k + 1 → x ∉ L j) := Lib.hid fun j hj => by
            rcases Nat.lt_or_ge j k with h1 | h1
            · exact hno.out j h1
            · have : j = k := by omega
              subst this
              intro hmem
              obtain ⟨t, ht, he⟩ := List.getElem_of_mem hmem
              exact hin.out t ht (by omega) he
          clear hno hin
          go_wp2_with fail
          go_round
          case rel => exact ⟨k + 1, by omega, by go_num, hno'⟩
          case measure => simp [intOf]; omega
    · have hi := Lib.hid (hasIn_none (L := L) (x := x) fun j hj => hno.out j (by omega))
      clear hno
      go_wp2_with fail
      go_ret
      exact ⟨ret_int hi.out.symm, hb⟩

end Go.Proofs.YtcaboknbdamlhaaGreatDoor
