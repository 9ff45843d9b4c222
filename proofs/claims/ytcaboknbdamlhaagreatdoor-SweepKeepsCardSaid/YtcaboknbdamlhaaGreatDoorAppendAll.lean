/- A whole slice appended to a row of the call's own. -/
import Derived.Test.YtcaboknbdamlhaaGreatDoorBase
import Derived.Laws.AppendOwnNone
set_option linter.unusedVariables false
set_option linter.unusedSimpArgs false
namespace Go.Proofs.YtcaboknbdamlhaaGreatDoor
open Go.RowKit

/-- A whole slice appended to nothing. -/
theorem wpList_append_all {P : Program} {w0 : World} {ops : Array Oper} {rest : List Oper} {o : Oper} {a : Act} {Q : Exit → Act → World → Prop} (hgd : o.guard = none) (s x : Operand) (t : TypeId)
    (ho : o.op = .call { callee := .builtin .append, args := #[s, x], argTypes := #[t, t] })
    (base : Nat) (e : TypeId) (z : Value) (bytes : Nat) (ht : P.underlying t = some (.slice e)) (hi : (P.info? e).map (fun i => (i.zero, i.size, i.bytes)) = some (some z, 1, bytes)) (hz1 : z.cells.size = 1)
    (v : Value) (n : Nat) (xs : List Value) (hs : a.eval s = v) (hown : w0.ownsRow base e 1 v n xs)
    {α : Type} (enc : α → Value) (u : Value) (ys : List α) (hone : ∀ y, (enc y).oneCell' = true) (hx : a.eval x = u) (hu : Rd enc w0 u ys)
    (h63 : n + ys.length ≤ maxLen) (hbytes : (n + ys.length) * bytes ≤ 140737488355328) (hbase : base ≤ w0.heap.size)
    (h : ∀ v' w', w'.ownsRow base e 1 v' (n + ys.length) (xs ++ ys.map enc) → w0.grownBy w' v.ownBlock → (v'.ownBlock = v.ownBlock ∨ v'.ownBlock = some w0.heap.size) → wpList P ops Q rest (a.put o.dst v') w') :
    wpList P ops Q (o :: rest) a w0 := by
  obtain ⟨i, hi1, hz, hsize, hby⟩ := info_parts hi
  obtain ⟨A, c, rfl, _, _, hAc⟩ := hu.len
  rcases A with _ | ad
  · obtain rfl : c = 0 := hAc rfl
    have hn : ys = [] := by
      rcases ys with _ | ⟨y, ys⟩
      · rfl
      · obtain ⟨b, o, h0, _⟩ := hu.at_ (i := 0) (by simp)
        cases h0
    subst hn
    refine wpList_append_own_none hgd s x t ho base e i 1 ht hi1 v n xs hs hown hx ?_
    exact h v w0 (by simpa using hown) (World.grownBy.refl _ _) (.inl rfl)
  · refine wpList_append_own_at _ hgd s x t ho base e i z 1 bytes ht hi1 hz hsize hby hz1 (by omega) v n xs hs hown ad ys.length c (ys.map enc) hx (by simp) ?_ ?_ h63 hbytes hbase fun v' w' h1 h2 _ h3 => h v' w' h1 h2 h3
    · intro j y hj
      have hlt : j < ys.length := by
        have := (List.getElem?_eq_some_iff.1 hj).1
        simpa using this
      obtain ⟨b, o, h0, _, hc⟩ := hu.at_ hlt
      injection h0 with h0
      subst h0
      rw [Addr.add_lit, hc]
      simpa [hlt] using hj
    · intro y hy
      obtain ⟨z, _, rfl⟩ := List.mem_map.1 hy
      exact hone z

end Go.Proofs.YtcaboknbdamlhaaGreatDoor
