/- A block of three cells. -/
import Derived.Test.YtbjeaadnanimfaaApp
import Derived.Lib.SmallJoins
namespace Go.Proofs.Ytbjeaadnanimfaa
open Go.RowKit
set_option linter.unusedVariables false
set_option linter.unusedSimpArgs false

/-- A block of three cells. -/
def Box (w : World) (g : Nat) (c0 c1 c2 : Value) (t : TypeId) : Prop := w.heap[g]? = some (.cells #[c0, c1, c2] t)
theorem Box.kept {gs : List Nat} {w w' : World} {g : Nat} {c0 c1 c2 : Value} {t : TypeId} (h : Box w g c0 c1 c2 t) (u : Upd gs w w') (hg : g ∉ gs) : Box w' g c0 c1 c2 t := by
  unfold Box at *
  have := (Array.getElem?_eq_some_iff.1 h).1
  rw [u.block g this hg]; exact h
theorem Box.cells {w : World} {g : Nat} {c0 c1 c2 : Value} {t : TypeId} (h : Box w g c0 c1 c2 t) : w.cell? ⟨g, 0, none⟩ = some c0 ∧ w.cell? ⟨g, 1, none⟩ = some c1 ∧ w.cell? ⟨g, 2, none⟩ = some c2 :=
  ⟨Joins.cell_of_block h 0, Joins.cell_of_block h 1, Joins.cell_of_block h 2⟩
theorem Box.free {w : World} {g : Nat} {c0 c1 c2 : Value} {t : TypeId} (h : Box w g c0 c1 c2 t) (i : Nat) : w.frozen? ⟨g, i, none⟩ = false := Joins.unfrozen_of_block h i
theorem Box.new (w : World) (c0 c1 c2 : Value) (t : TypeId) : Box (w.alloc (.cells #[c0, c1, c2] t)) w.heap.size c0 c1 c2 t := by show (w.heap.push _)[w.heap.size]? = _; exact Array.getElem?_push_size
theorem Box.lt {w : World} {g : Nat} {c0 c1 c2 : Value} {t : TypeId} (h : Box w g c0 c1 c2 t) : g < w.heap.size := (Array.getElem?_eq_some_iff.1 h).1
theorem Box.set0 {w : World} {g : Nat} {c0 c1 c2 v : Value} {t : TypeId} (h : Box w g c0 c1 c2 t) : Box (w.setCell ⟨g, 0, none⟩ v) g v c1 c2 t := by
  have := Joins.block_setCell (i := 0) h v; simpa [Box] using this
theorem Box.set1 {w : World} {g : Nat} {c0 c1 c2 v : Value} {t : TypeId} (h : Box w g c0 c1 c2 t) : Box (w.setCell ⟨g, 1, none⟩ v) g c0 v c2 t := by
  have := Joins.block_setCell (i := 1) h v; simpa [Box] using this
theorem Box.set2 {w : World} {g : Nat} {c0 c1 c2 v : Value} {t : TypeId} (h : Box w g c0 c1 c2 t) : Box (w.setCell ⟨g, 2, none⟩ v) g c0 c1 v t := by
  have := Joins.block_setCell (i := 2) h v; simpa [Box] using this
end Go.Proofs.Ytbjeaadnanimfaa
