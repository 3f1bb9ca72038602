/- The walk's laws for append and make on slices of int64, in the words of the memory text. -/
import Derived.Test.YtbjeaadnanimfaaList
import Derived.OwnWalk
import Derived.Deep.QuietTactic
import Derived.BigQuiet
namespace Go.Proofs.Ytbjeaadnanimfaa
open Go.RowKit
set_option linter.unusedVariables false
set_option linter.unusedSimpArgs false

theorem infoI : (Try.prog.info? 2).map (fun i => (i.zero, i.size, i.bytes)) = some (some (.int .i64 0), 1, 8) := by kernel_rfl

section
variable {ops : Array Oper} {rest : List Oper} {o : Oper} {a : Act} {Q : Exit → Act → World → Prop}
/-- 'append(out, y)', out the call's own. -/
theorem wpList_appI {w0 w : World} (hg : o.guard = none) (s x : Operand)
    (hop : o.op = .call { callee := .builtin .append, args := #[s, x], argTypes := #[24, 24] })
    (v : Value) (xs : List Int) (y : Int) (hs : a.eval s = v) (hx : a.eval x = .slice (some ⟨w.heap.size, 0, none⟩) 1 1)
    (hown : OwnI w w0.heap.size v xs) (hu : Upd [] w0 w) (hl : xs.length ≤ 2097152)
    (h : ∀ v' w', OwnI w' w0.heap.size v' (xs ++ [y]) → Upd [] w0 w' → wpList Try.prog ops Q rest (a.put o.dst v') w') :
    wpList Try.prog ops Q (o :: rest) a (w.alloc (.cells #[.int .i64 y] 2)) := by
  obtain ⟨i0, hi, hz0, hz1, hz2⟩ := info_parts infoI
  have hsz := hu.size
  refine wpList_append_own _ hg s x 24 hop w0.heap.size 2 i0 (.int .i64 0) 1 8 Try.underlying24 hi hz0 hz1 hz2 rfl (by decide) v xs.length (xs.map (.int .i64)) hs (World.ownsRow.alloc (w := w) hown _)
    ⟨w.heap.size, 0, none⟩ 1 1 [.int .i64 y] hx rfl (cell_one_new _ _ _) (by simp [Value.oneCell']) (by unfold maxLen; omega) (by omega) (by simp; omega) fun v' w' h1 h2 _ => h v' w' ?_ ?_
  · unfold OwnI; simpa using h1
  · refine (hu.alloc (.cells #[.int .i64 y] 2)).grown h2 fun k hk => .inr ?_
    exact ((World.ownsRow.lt (w := w) hown) k hk).1
/-- 'append(out, ys...)', out the call's own, ys not nil. -/
theorem wpList_appIs {w0 w : World} (hg : o.guard = none) (s x : Operand)
    (hop : o.op = .call { callee := .builtin .append, args := #[s, x], argTypes := #[24, 24] })
    (v : Value) (xs ys : List Int) (ad : Addr) (c : Nat) (hs : a.eval s = v) (hx : a.eval x = .slice (some ad) ys.length c) (hy : IntsAt w (some ad) ys)
    (hown : OwnI w w0.heap.size v xs) (hu : Upd [] w0 w) (hl : xs.length ≤ 2097152) (hl2 : ys.length ≤ 2097152)
    (h : ∀ v' w', OwnI w' w0.heap.size v' (xs ++ ys) → Upd [] w0 w' → wpList Try.prog ops Q rest (a.put o.dst v') w') :
    wpList Try.prog ops Q (o :: rest) a w := by
  obtain ⟨i0, hi, hz0, hz1, hz2⟩ := info_parts infoI
  have hsz := hu.size
  refine wpList_append_own _ hg s x 24 hop w0.heap.size 2 i0 (.int .i64 0) 1 8 Try.underlying24 hi hz0 hz1 hz2 rfl (by decide) v xs.length (xs.map (.int .i64)) hs hown
    ad ys.length c (ys.map (.int .i64)) hx (by simp) ?_ (ints_oneCell .i64 ys) (by unfold maxLen; omega) (by omega) hsz fun v' w' h1 h2 _ => h v' w' ?_ ?_
  · intro j u hu
    rcases hy with rfl | ⟨b, off, e, hc⟩
    · simp at hu
    · cases e
      rw [Addr.add_lit]
      rw [List.getElem?_map] at hu
      cases hj : ys[j]? with
      | none => rw [hj] at hu; simp at hu
      | some z => rw [hj] at hu; simp at hu; subst hu; exact hc j z hj
  · unfold OwnI; simpa using h1
  · exact hu.grown h2 fun k hk => .inr ((World.ownsRow.lt (w := w) hown) k hk).1
/-- 'make([]int64, n)'. -/
theorem wpList_mkI {w0 w : World} (hg : o.guard = none) (l c : Operand) (hop : o.op = Op.makeSlice 24 l c) (kl kc : IntKind) (n : Nat)
    (hl : a.eval l = .int kl n) (hc : a.eval c = .int kc n) (hn : n ≤ 2097152) (hu : Upd [] w0 w)
    (h : ∀ w', OwnI w' w0.heap.size (.slice (some ⟨w.heap.size, 0, none⟩) n n) (List.replicate n 0) → Upd [] w0 w' → w.heap.size < w'.heap.size → wpList Try.prog ops Q rest (a.put o.dst (.slice (some ⟨w.heap.size, 0, none⟩) n n)) w') :
    wpList Try.prog ops Q (o :: rest) a w := by
  obtain ⟨i0, hi, hz0, hz1, hz2⟩ := info_parts infoI
  refine wpList_make_full _ hg l c 24 hop w0.heap.size 2 i0 (.int .i64 0) 1 Try.underlying24 hi hz0 hz1 kl kc _ _ n hl hc rfl rfl (by rw [hz2]; omega) (by unfold maxLen; omega) hu.size fun w' h1 h2 => ?_
  have h3 : OwnI w' w0.heap.size (.slice (some ⟨w.heap.size, 0, none⟩) n n) (List.replicate n 0) := OwnI.made h1
  refine h w' h3 (hu.grown h2 (by simp)) ?_
  rcases h1.2 with ⟨e, _⟩ | ⟨g, cap, cur, e, _, hg, _⟩
  · simp at e
  · simp at e; rw [← e.1] at hg; exact (Array.getElem?_eq_some_iff.1 hg).1
end
/-- An empty literal '[]int64{}'. -/
theorem OwnI.lit {w0 w : World} (hu : Upd [] w0 w) : OwnI (w.alloc (.cells #[] 2)) w0.heap.size (.slice (some ⟨w.heap.size, 0, none⟩) 0 0) [] :=
  World.ownsRow_lit w #[] 0 hu.size (by unfold maxLen; omega) rfl
/-- A new slice that reads as xs is returned; else nothing has turned. -/
def NewI (w : World) (xs : List Int) (e : Ending) (w' : World) : Prop := ∃ v, e = .returned v ∧ OwnI w' w.heap.size v xs ∧ Upd [] w w'
/-- The same beside a code. -/
def NewIC (w : World) (xs : List Int) (code : Int) (e : Ending) (w' : World) : Prop := ∃ v, e = .returned (.tuple #[v, .int .i64 code]) ∧ OwnI w' w.heap.size v xs ∧ Upd [] w w'
end Go.Proofs.Ytbjeaadnanimfaa
