/- The draws: lists in the making. -/
import Derived.Test.YtbjeaadnanimfaaDraw2
import Derived.Test.YtbjeaadnanimfaaLawFns
namespace Go.Proofs.Ytbjeaadnanimfaa
open Go.RowKit
set_option linter.unusedVariables false
set_option linter.unusedSimpArgs false

theorem Upd.then1 {gs : List Nat} {a b c : World} (h : Upd gs a b) (k : Upd gs b c) : Upd gs a c := h.trans k fun x hx => .inl hx
/-- Behind a step that writes blocks of one's own. -/
theorem Upd.afterB {gs hs : List Nat} {a b c : World} (h : Upd gs a b) (k : Upd hs b c) (hh : ∀ x, x ∈ hs → a.heap.size ≤ x) : Upd gs a c := h.trans k fun x hx => .inr (hh x hx)
theorem lit_ints (w : World) (xs : List Int) : IntsAt (w.alloc (.cells (xs.map (Value.int .i64)).toArray 2)) (some ⟨w.heap.size, 0, none⟩) xs := by
  refine .inr ⟨_, 0, rfl, fun k x hx => ?_⟩
  rw [Nat.zero_add]
  have := Joins.cell_of_block (heap_alloc_new w (.cells (xs.map (Value.int .i64)).toArray 2)) k
  rw [this]; simp [hx]
theorem lit_own {w : World} {B : Nat} (hB : B ≤ w.heap.size) (xs : List Int) (hl : xs.length ≤ 1000) : OwnI (w.alloc (.cells (xs.map (Value.int .i64)).toArray 2)) B (.slice (some ⟨w.heap.size, 0, none⟩) xs.length xs.length) xs := by
  have := World.ownsRow_lit (base := B) (e := 2) (size := 1) w (xs.map (Value.int .i64)).toArray xs.length hB (by unfold maxLen; omega) (by simp)
  unfold OwnI
  simpa using this
theorem OwnI.cut {w : World} {B g n c k : Nat} {xs : List Int} (h : OwnI w B (.slice (some ⟨g, 0, none⟩) n c) xs) (hk : k ≤ n) : OwnI w B (.slice (some ⟨g, 0, none⟩) k c) (xs.take k) := by
  have hn := h.len
  have hl : (xs.take k).length = k := by simp; omega
  rcases h.2 with ⟨e, _⟩ | ⟨g', cap, cur, e, hb, hg, hc, hm, hs, ht⟩
  · simp at e
  · cases e
    refine ⟨by simp, .inr ⟨g, c, cur, by rw [hl], hb, hg, by rw [hl]; omega, hm, hs, ?_⟩⟩
    rw [hl]
    rw [Nat.mul_one] at ht ⊢
    rw [List.map_take, ← ht, List.take_take, Nat.min_eq_left (by omega)]
section
variable {ops : Array Oper} {rest : List Oper} {o : Oper} {a : Act} {Q : Exit → Act → World → Prop}
/-- 'append(out, y)', out of one's own from block B on. -/
theorem wpList_appB {w : World} {B : Nat} (hg : o.guard = none) (s x : Operand)
    (hop : o.op = .call { callee := .builtin .append, args := #[s, x], argTypes := #[24, 24] })
    (v : Value) (xs : List Int) (y : Int) (hs : a.eval s = v) (hx : a.eval x = .slice (some ⟨w.heap.size, 0, none⟩) 1 1)
    (hown : OwnI w B v xs) (hB : B ≤ w.heap.size) (hl : xs.length ≤ 2097152)
    (h : ∀ v' w', OwnI w' B v' (xs ++ [y]) → Upd v.ownBlock.toList w w' → wpList Try.prog ops Q rest (a.put o.dst v') w') :
    wpList Try.prog ops Q (o :: rest) a (w.alloc (.cells #[.int .i64 y] 2)) := by
  obtain ⟨i0, hi, hz0, hz1, hz2⟩ := info_parts infoI
  refine wpList_append_own _ hg s x 24 hop B 2 i0 (.int .i64 0) 1 8 Try.underlying24 hi hz0 hz1 hz2 rfl (by decide) v xs.length (xs.map (.int .i64)) hs (World.ownsRow.alloc (w := w) hown _)
    ⟨w.heap.size, 0, none⟩ 1 1 [.int .i64 y] hx rfl (cell_one_new _ _ _) (by simp [Value.oneCell']) (by unfold maxLen; omega) (by omega) (by simp; omega) fun v' w' h1 h2 _ => h v' w' ?_ ?_
  · unfold OwnI; simpa using h1
  · exact (((Upd.refl w).alloc (.cells #[.int .i64 y] 2)).mono (by simp)).grown h2 fun k hk => .inl (by simp [hk])
end
def lenOf : Value → Nat
  | .slice _ n _ => n
  | _ => 0
theorem OwnI.low {w : World} {B : Nat} {v : Value} {xs : List Int} (h : OwnI w B v xs) : ∀ k, v.ownBlock = some k → B ≤ k := fun k hk => ((World.ownsRow.lt (w := w) h) k hk).1
theorem OwnI.form {w : World} {B : Nat} {v : Value} {xs : List Int} (h : OwnI w B v xs) : ∃ p c, v = .slice p xs.length c := by
  obtain ⟨p, c, e, -, -⟩ := h.intsAt; exact ⟨p, c, e⟩
/-- A list has been drawn. -/
def DrawL (lo hi : Nat) (w : World) (g : Nat) (a : Option Addr) (c : Nat) (bs : List Int) (e : Ending) (w' : World) : Prop :=
  ∃ v xs, e = .returned v ∧ OwnI w' w.heap.size v xs ∧ (lo ≤ xs.length ∧ xs.length ≤ hi) ∧ DC w' g a c bs ∧ Upd [g] w w'
end Go.Proofs.Ytbjeaadnanimfaa
