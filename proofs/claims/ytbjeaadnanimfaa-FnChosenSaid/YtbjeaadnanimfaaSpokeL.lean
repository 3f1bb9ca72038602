/- Chapter 5: the plain laws of spokes' lengths: mirrored wheels, the root's half, the rows of counts. -/
import Derived.Test.YtbjeaadnanimfaaMirror
import Derived.Test.YtbjeaadnanimfaaCounts
namespace Go.Proofs.Ytbjeaadnanimfaa
open Go.RowKit
set_option linter.unusedVariables false
set_option linter.unusedSimpArgs false

theorem whB_mirror {h l r lo ro rh d o k : Int} (e : whB h l r lo ro rh d o k = true) : whB h r l ro lo rh d (-o) k = true := by
  unfold whB hubB rimB at *
  simp only [Bool.and_eq_true] at e ⊢
  obtain ⟨⟨e1, e2, e3, e4, e5⟩, ⟨e6, e7, e8⟩, e9, e10⟩ := e
  have h8 := inB_t e8
  exact ⟨⟨e1, e3, e2, e5, e4⟩, ⟨e6, e7, inB_mk (by omega)⟩, e9, e10⟩
theorem lenV_mirror (h l r lo ro rh d o k : Int) (b : Bool) : lenV h r l ro lo rh d (-o) k (!b) = lenV h l r lo ro rh d o k b := by
  have e1 : flV r l (!b) = flV l r b := by cases b <;> rfl
  have e2 : offV ro lo (-o) (!b) = offV lo ro o b := by
    cases b
    · show lo - -o = lo + o; omega
    · show ro + -o = ro - o; omega
  unfold lenV sqV
  rw [e1, e2]
theorem whE_0 {h l r lo ro rh d o k : Int} (e : whE h l r lo ro rh d o k = 0) : whB h l r lo ro rh d o k = true := by
  unfold whE at e
  cases q : whB h l r lo ro rh d o k
  · rw [q] at e; simp at e
  · rfl
theorem whE_mk {h l r lo ro rh d o k : Int} (e : whB h l r lo ro rh d o k = true) : whE h l r lo ro rh d o k = 0 := by
  unfold whE; rw [e]; rfl
theorem lenR_mk {h l r lo ro rh d o k : Int} (b : Bool) (e : whB h l r lo ro rh d o k = true) : lenR h l r lo ro rh d o k b = lenV h l r lo ro rh d o k b := by
  unfold lenR; rw [e]; rfl
theorem sqR_mk {h l r lo ro rh d o k : Int} (b : Bool) (e : whB h l r lo ro rh d o k = true) : sqR h l r lo ro rh d o k b = sqV h l r lo ro rh d o k b := by
  unfold sqR; rw [e]; rfl
/-- The double of a length and the square. -/
theorem dbl_law {s r : Int} (hr : 0 ≤ r) (h1 : r * r ≤ s) (h2 : s < (r + 1) * (r + 1)) (hr1 : 1 ≤ r) :
    (2 * ((r + 1) / 2 - 12 + 12) - 1) * (2 * ((r + 1) / 2 - 12 + 12) - 1) ≤ s ∧ s < (2 * ((r + 1) / 2 - 12 + 12) + 1) * (2 * ((r + 1) / 2 - 12 + 12) + 1) := by
  obtain ⟨D, hD⟩ : ∃ D, D = 2 * ((r + 1) / 2 - 12 + 12) := ⟨_, rfl⟩
  rw [← hD]
  have hq : D = r ∨ D = r + 1 := by omega
  clear hD
  rcases hq with rfl | rfl
  · refine ⟨?_, h2⟩
    have := sq_le (a := D - 1) (b := D) (by omega) (by omega)
    omega
  · refine ⟨?_, ?_⟩
    · rw [show r + 1 - 1 = r by omega]; exact h1
    · have := sq_le (a := r + 1) (b := r + 1 + 1) (by omega) (by omega)
      omega
/-- What the rows of counts hold. -/
def CntP (R : List (List Int)) (l h : Int) (T : Nat → Int) (F : Nat → Bool) : Prop :=
  T 0 = 0 ∧ F 0 = false ∧ T R.length = h ∧ F R.length = true ∧
    ∀ k r, R[k]? = some r → ∃ x y, r = [x, y] ∧ (-1000 ≤ T k + y ∧ T k + y ≤ 1000) ∧ T (k + 1) = T k + y ∧ F (k + 1) = (F k || decide (x = l))
theorem cntL_small (h l r lo ro rh d o k : Int) : (cntL h l r lo ro rh d o k).length ≤ 2 ∧ ∀ x, x ∈ cntL h l r lo ro rh d o k → x.length ≤ 1000 := by
  unfold cntL
  split
  · split <;> simp
  · simp
theorem cnt_law {h l r lo ro rh d o k : Int} (b : Bool) (e : whB h l r lo ro rh d o k = true) :
    ∃ T F, CntP (cntL h l r lo ro rh d o k) (lenV h l r lo ro rh d o k b) h T F := by
  obtain ⟨⟨h1, h2, h3⟩, -⟩ := whB_t e
  unfold cntL
  rw [if_pos e]
  generalize e1 : lenV h l r lo ro rh d o k false = a1
  generalize e2 : lenV h l r lo ro rh d o k true = a2
  have hb : lenV h l r lo ro rh d o k b = a1 ∨ lenV h l r lo ro rh d o k b = a2 := by cases b <;> simp [e1, e2]
  generalize lenV h l r lo ro rh d o k b = L at hb
  by_cases q : a1 = a2
  · subst q
    rw [if_pos rfl]
    obtain rfl : L = a1 := by omega
    refine ⟨fun n => if n = 0 then 0 else h, fun n => if n = 0 then false else true, rfl, rfl, rfl, rfl, fun n r hr => ?_⟩
    match n, hr with
    | 0, hr =>
      simp only [List.length_cons, List.length_nil, List.getElem?_cons_zero, Option.some.injEq] at hr
      subst hr
      exact ⟨L, h, rfl, by simp; omega, by simp, by simp⟩
    | n + 1, hr => simp at hr
  · rw [if_neg q]
    refine ⟨fun n => if n = 0 then 0 else if n = 1 then h / 2 else h, fun n => if n = 0 then false else if n = 1 then decide (min a1 a2 = L) else true, rfl, rfl, rfl, rfl, fun n r hr => ?_⟩
    match n, hr with
    | 0, hr =>
      simp only [List.getElem?_cons_zero, Option.some.injEq] at hr
      subst hr
      exact ⟨_, _, rfl, by simp; omega, by simp, by simp⟩
    | 1, hr =>
      simp only [List.getElem?_cons_succ, List.getElem?_cons_zero, Option.some.injEq] at hr
      subst hr
      refine ⟨_, _, rfl, by simp; omega, by simp; omega, ?_⟩
      have : min a1 a2 = L ∨ max a1 a2 = L := by omega
      rcases this with h | h
      · simp [h]
      · simp [h]
    | n + 2, hr => simp at hr
def ReadP (w : World) (rows : List (List Int)) (code : Int) (e : Ending) (w' : World) : Prop :=
  ∃ a c, e = .returned (.tuple #[.slice a rows.length c, .int .i64 code]) ∧ RowsAt w' a rows ∧ Upd [] w w'
theorem RowsP.read {w w' : World} {rows : List (List Int)} {code : Int} {e : Ending} (h : RowsP w rows code e w') : ReadP w rows code e w' := by
  obtain ⟨v, L, rfl, h1, h2, h3⟩ := h
  obtain ⟨a, c, rfl, -, -⟩ := h1.1.form
  refine ⟨a, c, ?_, ?_, h3⟩
  · rw [← h2]; simp
  · rw [← h2]; exact h1.rowsAt
/-- All that the law of spokes needs of a wheel. -/
structure SpkP (h l r lo ro rh d o k : Int) (b : Bool) (L S : Int) (R : List (List Int)) : Prop where
  wh : whB h l r lo ro rh d o k = true
  mE : whE h r l ro lo rh d (-o) k = 0
  mL : lenR h r l ro lo rh d (-o) k (!b) = L
  sb : 640000 ≤ S ∧ S ≤ 68680000
  lb : 388 ≤ L ∧ L ≤ 4132
  lo : (2 * (L + 12) - 1) * (2 * (L + 12) - 1) ≤ S
  hi : S < (2 * (L + 12) + 1) * (2 * (L + 12) + 1)
  cn : ∃ T F, CntP R L h T F
theorem spk_law {h l r lo ro rh d o k : Int} (b : Bool) (e : whE h l r lo ro rh d o k = 0) :
    SpkP h l r lo ro rh d o k b (lenR h l r lo ro rh d o k b) (sqR h l r lo ro rh d o k b) (cntL h l r lo ro rh d o k) := by
  have q := whE_0 e
  have q2 := whB_mirror q
  obtain ⟨⟨r1, r2⟩, l1, l2⟩ := lenV_in b q
  obtain ⟨s1, s2⟩ := sqV_in b q
  obtain ⟨-, a1, a2⟩ := rootF_ok (n := sqV h l r lo ro rh d o k b) (by omega)
  have hd := dbl_law (by omega) a1 a2 (by omega)
  rw [lenR_mk b q, sqR_mk b q]
  exact ⟨q, whE_mk q2, by rw [lenR_mk _ q2, lenV_mirror], ⟨s1, s2⟩, ⟨l1, l2⟩, hd.1, hd.2, cnt_law b q⟩
end Go.Proofs.Ytbjeaadnanimfaa
