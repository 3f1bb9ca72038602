/- 'append(out, y)': the row stays in its block or moves to a new one. -/
import Derived.Test.YtbjeaadnanimfaaDraw3
import Derived.Lib.AppendZeros
namespace Go.Proofs.Ytbjeaadnanimfaa
open Go.RowKit
set_option linter.unusedVariables false
set_option linter.unusedSimpArgs false

theorem run_appF {w : World} {B g n c : Nat} {xs : List Int} {y : Int} (hown : OwnI w B (.slice (some ⟨g, 0, none⟩) n c) xs) (hB : B ≤ w.heap.size) (hl : xs.length ≤ 1048576) (ad : Addr) (hy : w.cell? ad = some (.int .i64 y)) (hsp : ad.spot = none) (m : Nat) (ty : TypeId) :
    ∃ g' c' w', (Builtin.append_ #[24, 24] ty #[.slice (some ⟨g, 0, none⟩) n c, .slice (some ad) 1 m]).run Try.prog w = .ok (.slice (some ⟨g', 0, none⟩) (n + 1) c') w' ∧
      OwnI w' B (.slice (some ⟨g', 0, none⟩) (n + 1) c') (xs ++ [y]) ∧ Upd [g] w w' ∧ (g' = g ∨ w.heap.size ≤ g') := by
  obtain ⟨i0, hi, hz0, hz1, hz2⟩ := info_parts infoI
  have hn := hown.len
  subst hn
  have hnews : ∀ j u, [Value.int .i64 y][j]? = some u → w.cell? (ad.add j) = some u := by
    obtain ⟨b, off, spot⟩ := ad
    simp only at hsp; subst hsp
    intro j u hu
    cases j with
    | zero => simp at hu; subst hu; rw [Addr.add_lit]; exact hy
    | succ j => simp at hu
  have h1 : ∀ u ∈ [Value.int .i64 y], u.oneCell' = true := by simp [Value.oneCell']
  obtain ⟨v', w', hr, h2, h3, h4⟩ := run_append_own (P := Try.prog) w B 24 ty 2 i0 (.int .i64 0) 1 8 Try.underlying24 hi hz0 hz1 hz2 rfl (by decide) _ xs.length (xs.map (.int .i64)) hown
    ad 1 m [.int .i64 y] (by simp) hnews h1 (by unfold maxLen; omega) (by omega) hB
  have hO : OwnI w' B v' (xs ++ [y]) := by unfold OwnI; simpa using h2
  obtain ⟨g', c', ev, -, -⟩ := hO.row (by simp)
  subst ev
  have hlen : (xs ++ [y]).length = xs.length + 1 := by simp
  rw [hlen] at hr hO
  refine ⟨g', c', w', hr, hO, ((Upd.refl w).mono (by simp)).grown h3 fun k hk => .inl (by simpa [Value.ownBlock] using hk.symm), ?_⟩
  have holds : ∀ j u, (xs.map (Value.int .i64))[j]? = some u → w.cell? ((⟨g, 0, none⟩ : Addr).add j) = some u := World.ownsRow.cells (w := w) hown (g := g) rfl
  rcases hown.2 with ⟨e, _⟩ | ⟨g0, cap, cur, e, hb, hg, hc, hm, hs, ht⟩
  · simp at e
  · cases e
    by_cases hroom : xs.length + 1 ≤ c
    · have hr2 := run_append_room (P := Try.prog) w 24 ty 2 i0 Try.underlying24 hi g xs.length c cur hg ad 1 m [.int .i64 y] (by simp [hz1]) hnews h1 hroom (by rw [hz1]; simp; omega)
      rw [hr] at hr2
      simp at hr2
      exact .inl hr2.1.1
    · have hr2 := run_append_grow (P := Try.prog) w 24 ty 2 i0 (.int .i64 0) Try.underlying24 hi hz0 ⟨g, 0, none⟩ xs.length c (xs.map (.int .i64)) (by simp [hz1]) holds ad 1 m [.int .i64 y] (by simp [hz1]) hnews (by omega) (by omega) (growslice_fits (by omega) (by rw [hz2]; omega))
      rw [hr] at hr2
      simp at hr2
      exact .inr (by omega)
section
variable {ops : Array Oper} {rest : List Oper} {o : Oper} {a : Act} {Q : Exit → Act → World → Prop}
theorem wpList_appF {w : World} {B g n c : Nat} (hg : o.guard = none) (s x : Operand)
    (hop : o.op = .call { callee := .builtin .append, args := #[s, x], argTypes := #[24, 24] })
    (xs : List Int) (y : Int) (hs : a.eval s = .slice (some ⟨g, 0, none⟩) n c) (hx : a.eval x = .slice (some ⟨w.heap.size, 0, none⟩) 1 1)
    (hown : OwnI w B (.slice (some ⟨g, 0, none⟩) n c) xs) (hB : B ≤ w.heap.size) (hl : xs.length ≤ 1048576)
    (h : ∀ g' c' w', OwnI w' B (.slice (some ⟨g', 0, none⟩) (n + 1) c') (xs ++ [y]) → Upd [g] w w' → (g' = g ∨ w.heap.size ≤ g') → wpList Try.prog ops Q rest (a.put o.dst (.slice (some ⟨g', 0, none⟩) (n + 1) c')) w') :
    wpList Try.prog ops Q (o :: rest) a (w.alloc (.cells #[.int .i64 y] 2)) := by
  have hsz : (w.alloc (.cells #[.int .i64 y] 2)).heap.size = w.heap.size + 1 := by simp
  have hlast : (w.alloc (.cells #[.int .i64 y] 2)).cell? ⟨w.heap.size, 0, none⟩ = some (.int .i64 y) := by have := cell_one_new w (.int .i64 y) 2 0 (.int .i64 y) rfl; rwa [Addr.add_lit] at this
  obtain ⟨g', c', w', hr, h2, h3, h4⟩ := run_appF (hown.kept0 ((Upd.refl w).alloc (.cells #[.int .i64 y] 2))) (by omega) hl ⟨w.heap.size, 0, none⟩ hlast rfl 1 o.type
  refine Lib.wpList_append_run _ hg s x _ _ hop _ _ hs hx _ w' hr (h g' c' w' h2 ((((Upd.refl w).alloc (.cells #[.int .i64 y] 2)).mono (by simp)).then1 h3) (h4.imp id fun h => by omega))
end
theorem step_appF {ops : Array Oper} {o : Oper} {a : Act} {w : World} {K : Act → World → Prop} {Q : Exit → Act → World → Prop} {E : Prop} {B g n c : Nat} (hgd : o.guard = none) (s x : Operand)
    (hop : o.op = .call { callee := .builtin .append, args := #[s, x], argTypes := #[24, 24] })
    (xs : List Int) (y : Int) (ad : Addr) (m : Nat) (hs : a.eval s = .slice (some ⟨g, 0, none⟩) n c) (hx : a.eval x = .slice (some ad) 1 m)
    (hown : OwnI w B (.slice (some ⟨g, 0, none⟩) n c) xs) (hB : B ≤ w.heap.size) (hl : xs.length ≤ 1048576) (hy : w.cell? ad = some (.int .i64 y)) (hsp : ad.spot = none)
    (h : ∀ g' c' w', OwnI w' B (.slice (some ⟨g', 0, none⟩) (n + 1) c') (xs ++ [y]) → Upd [g] w w' → (g' = g ∨ w.heap.size ≤ g') → K (a.put o.dst (.slice (some ⟨g', 0, none⟩) (n + 1) c')) w') :
    if Region.wanted o (yielded ops a.tmps) = true then Oper.wp Try.prog o a w K Q else E := by
  have hw : Region.wanted o (yielded ops a.tmps) = true := by simp [Region.wanted, hgd]
  rw [if_pos hw]
  obtain ⟨g', c', w', hr, h2, h3, h4⟩ := run_appF hown hB hl ad hy hsp m o.type
  exact Lib.wp_append_run w s x _ _ hop _ _ hs hx _ w' hr (h g' c' w' h2 h3 h4)
end Go.Proofs.Ytbjeaadnanimfaa
