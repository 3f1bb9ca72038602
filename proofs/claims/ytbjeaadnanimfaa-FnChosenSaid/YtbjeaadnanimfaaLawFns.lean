/- The contracts of the laws' own helpers over slices: copy, compare, mark, look at the marks. -/
import Derived.Test.YtbjeaadnanimfaaApp
namespace Go.Proofs.Ytbjeaadnanimfaa
open Go.RowKit
set_option linter.unusedVariables false
set_option linter.unusedSimpArgs false

theorem OwnI.ints {w : World} {B n c : Nat} {a : Option Addr} {xs : List Int} (h : OwnI w B (.slice a n c) xs) : IntsAt w a xs := by
  obtain ⟨a', c', e, hi, -⟩ := h.intsAt
  simp only [Value.slice.injEq] at e
  rw [e.1]; exact hi
/-- What lies in another block is kept. -/
theorem OwnI.apart {w w' : World} {B lx ux ly uy : Nat} {vx v : Value} {xs : List Int} (h : OwnI w B v xs) (u : Upd vx.ownBlock.toList w w') (hx : ∀ k, vx.ownBlock = some k → lx ≤ k ∧ k < ux)
    (hy : ∀ k, v.ownBlock = some k → ly ≤ k ∧ k < uy) (d : uy ≤ lx ∨ ux ≤ ly) : OwnI w' B v xs :=
  h.keptNe u fun k hk hm => by
    have h1 := hy k hk
    have h2 := hx k (by simpa using hm)
    omega
theorem Upd.afterOwn {a b c : World} {v : Value} (h : Upd [] a b) (k : Upd v.ownBlock.toList b c) (hh : ∀ x, v.ownBlock = some x → a.heap.size ≤ x) : Upd [] a c :=
  h.after0 k fun x hx => hh x (by simpa using hx)
/-- A slice as the rows give it reads as a list. -/
theorem row_ints {w : World} {a : Option Addr} {len cap : Nat} {z : List Int}
    (h : (a = none ∧ len = 0 ∧ cap = 0 ∧ z = []) ∨ ∃ x, a = some x ∧ len ≤ cap ∧ cap ≤ maxLen ∧ z.length = cap ∧ (∀ i, i < z.length → w.cell? (x.add i) = some (.int .i64 (z.getD i 0))) ∧ ∀ n ∈ z, (Lit.int .i64 n).wf = true) :
    IntsAt w a (z.take len) ∧ (z.take len).length = len := by
  rcases h with ⟨rfl, rfl, rfl, rfl⟩ | ⟨x, rfl, h1, h2, h3, h4, -⟩
  · exact ⟨.inl rfl, rfl⟩
  · have hl : (z.take len).length = len := by rw [List.length_take]; omega
    refine ⟨?_, hl⟩
    by_cases h0 : len = 0
    · subst h0; exact .inl (by simp)
    · obtain ⟨b, off, spot⟩ := x
      have hs : spot = none := by
        cases spot with
        | none => rfl
        | some s =>
          have := h4 0 (by omega)
          simp only [World.cell?, Addr.add] at this
          revert this
          split <;> simp
      subst hs
      refine .inr ⟨b, off, rfl, fun k y hy => ?_⟩
      have hk := get_lt hy
      have h5 := h4 k (by omega)
      rw [Addr.add_lit] at h5
      rw [h5]
      rw [List.getElem?_take] at hy
      split at hy
      · rw [List.getD_eq_getElem?_getD, hy]; rfl
      · simp at hy
/-- True is returned; nothing has turned. -/
def RetT (w : World) (e : Ending) (w' : World) : Prop := e = .returned (.bool true) ∧ Upd [] w w'
/-- The marks have been written into the slice; nothing else has turned. -/
def Marked (w : World) (B : Nat) (v : Value) (k : Int) (n : Nat) (e : Ending) (w' : World) : Prop :=
  e = .returned (.int .i64 (k + n)) ∧ OwnI w' B v (marks k n) ∧ Upd v.ownBlock.toList w w'
end Go.Proofs.Ytbjeaadnanimfaa
