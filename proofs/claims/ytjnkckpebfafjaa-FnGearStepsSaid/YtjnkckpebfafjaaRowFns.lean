/- The laws' own helpers over slices of slices; the marks of a train. -/
import Derived.Test.YtjnkckpebfafjaaSlices
import Derived.Test.YtjnkckpebfafjaaTrain
namespace Go.Proofs.Ytjnkckpebfafjaa
open Go.RowKit
set_option linter.unusedVariables false
set_option linter.unusedSimpArgs false

theorem markE_append (k : Int) (a b : List (Nat × Nat × List Int)) : markE k (a ++ b) = markE k a ++ markE (k + cells2 (a.map (·.2.2))) b := by
  induction a generalizing k with
  | nil => simp [markE, cells2]
  | cons e t ih => simp only [List.cons_append, markE, List.map_cons, cells2, ih, Int.natCast_add, Int.add_assoc]
theorem markE_rows (k : Int) (a : List (Nat × Nat × List Int)) : (markE k a).map (·.2.2) = mrows k (a.map (·.2.2)) := by
  induction a generalizing k with
  | nil => rfl
  | cons e t ih => simp only [markE, List.map_cons, mrows, ih]
theorem markE_fst (k : Int) (a : List (Nat × Nat × List Int)) : (markE k a).map (·.1) = a.map (·.1) := by
  induction a generalizing k with
  | nil => rfl
  | cons e t ih => simp only [markE, List.map_cons, ih]
theorem markE_val (k : Int) (a : List (Nat × Nat × List Int)) : (markE k a).map valR = a.map valR := by
  induction a generalizing k with
  | nil => rfl
  | cons e t ih => simp only [markE, List.map_cons, ih, valR, marks_length]
theorem Inn.setAt {w w' : World} {B : Nat} {A D : List (Nat × Nat × List Int)} {x : Nat × Nat × List Int} {ys : List Int} (h : Inn w B (A ++ x :: D)) (u : Upd [x.1] w w') (ho : OwnI w' B (valR x) ys) (hl : ys.length = x.2.2.length) :
    Inn w' B (A ++ (x.1, x.2.1, ys) :: D) := by
  have hn : ∀ y, y ∈ A ∨ y ∈ D → y.1 ≠ x.1 := by
    have := h.nodup
    rw [List.map_append, List.map_cons, List.nodup_append] at this
    obtain ⟨n1, n2, n3⟩ := this
    intro y hy
    rcases hy with hy | hy
    · exact n3 y.1 (List.mem_map_of_mem hy) x.1 (by simp)
    · intro e
      exact (List.nodup_cons.1 n2).1 (by rw [← e]; exact List.mem_map_of_mem hy)
  refine ⟨fun y hy => ?_, ?_⟩
  · rcases List.mem_append.1 hy with hy | hy
    · exact (h.rows y (List.mem_append.2 (.inl hy))).keptNe u fun k hk => by
        simp only [valR, Value.ownBlock, Option.some.injEq] at hk
        rw [← hk]; simpa using hn y (.inl hy)
    · rcases List.mem_cons.1 hy with rfl | hy
      · show OwnI w' B (valR (x.1, x.2.1, ys)) ys
        have : valR (x.1, x.2.1, ys) = valR x := by simp only [valR, hl]
        rw [this]; exact ho
      · exact (h.rows y (List.mem_append.2 (.inr (List.mem_cons.2 (.inr hy))))).keptNe u fun k hk => by
          simp only [valR, Value.ownBlock, Option.some.injEq] at hk
          rw [← hk]; simpa using hn y (.inr hy)
  · have := h.nodup
    rw [List.map_append, List.map_cons] at this ⊢
    exact this
/-- Rows have been marked; nothing else has turned. -/
def MarkedR (w : World) (B : Nat) (v : Value) (k : Int) (L : List (Nat × Nat × List Int)) (e : Ending) (w' : World) : Prop :=
  e = .returned (.int .i64 (k + cells2 (L.map (·.2.2)))) ∧ OwnR w' B v (markE k L) ∧ Upd (L.map (·.1)) w w'
end Go.Proofs.Ytjnkckpebfafjaa
