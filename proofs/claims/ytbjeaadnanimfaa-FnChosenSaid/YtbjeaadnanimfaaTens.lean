/- The contracts of chapter 7 (tensions). -/
import Derived.Test.YtbjeaadnanimfaaLawFns
import Derived.Test.YtbjeaadnanimfaaSpread
namespace Go.Proofs.Ytbjeaadnanimfaa
open Go.RowKit
set_option linter.unusedVariables false
set_option linter.unusedSimpArgs false

/-- All numbers in a range, and the length too. -/
def areB (xs : List Int) (lo hi a b : Int) : Bool := allB xs lo hi && inB xs.length a b
theorem areB_t {xs : List Int} {lo hi a b : Int} (h : areB xs lo hi a b = true) : (∀ x, x ∈ xs → lo ≤ x ∧ x ≤ hi) ∧ a ≤ xs.length ∧ (xs.length : Int) ≤ b := by
  simp only [areB, Bool.and_eq_true] at h
  exact ⟨allB_t h.1, inB_t h.2⟩

/-! ### SlackSpokes -/
def ltB (m t : Int) : Bool := decide (t < m)
def slackL (xs : List Int) (m : Int) : List Int := if areB xs 0 3000 4 48 && inB m 0 3000 then idxs (ltB m) xs 0 else []
def slackE (xs : List Int) (m : Int) : Int := if areB xs 0 3000 4 48 then (if inB m 0 3000 then 0 else 2) else 1

/-! ### Sums and means -/
def sumV (xs : List Int) : Int := if areB xs 0 3000 4 48 then isum xs else 0
def sumE (xs : List Int) : Int := if areB xs 0 3000 4 48 then 0 else 1
def meanF (xs : List Int) : Int := nearF (isum xs) xs.length
def meanV (xs : List Int) : Int := if areB xs 0 3000 4 48 then meanF xs else 0
theorem tens_bd {xs : List Int} (h : areB xs 0 3000 4 48 = true) : (∀ x, x ∈ xs → -1000000 ≤ x ∧ x ≤ 1000000) ∧ (0 ≤ isum xs ∧ isum xs ≤ 144000) ∧ 4 ≤ (xs.length : Int) ∧ (xs.length : Int) ≤ 48 ∧ (0 ≤ meanF xs ∧ meanF xs ≤ 3000) := by
  obtain ⟨h1, h2, h3⟩ := areB_t h
  have h4 := isum_bd 3000 xs fun x hx => by have := h1 x hx; omega
  have h5 : ∀ ys : List Int, (∀ x, x ∈ ys → 0 ≤ x) → 0 ≤ isum ys := by
    intro ys hy
    induction ys with
    | nil => simp [isum]
    | cons y t ih => have := hy y (by simp); have := ih fun z hz => hy z (by simp [hz]); simp only [isum]; omega
  have h6 := h5 xs fun x hx => (h1 x hx).1
  refine ⟨fun x hx => by have := h1 x hx; omega, by omega, h2, h3, ?_⟩
  unfold meanF nearF
  have h7 : 0 < 2 * (xs.length : Int) := by omega
  constructor
  · exact Int.ediv_nonneg (by omega) (by omega)
  · have : (2 * isum xs + xs.length) / (2 * (xs.length : Int)) < 3001 := by
      apply Int.ediv_lt_of_lt_mul h7
      omega
    omega

/-! ### Stiffness -/
def stiffB (s : List Int) : Bool := areB s (-200) 200 1 4 && decide (0 < s.getD 0 0) && decide (0 < gainF s)
theorem stiffB_t {s : List Int} (h : stiffB s = true) : (∀ x, x ∈ s → -200 ≤ x ∧ x ≤ 200) ∧ 1 ≤ (s.length : Int) ∧ (s.length : Int) ≤ 4 ∧ 0 < s.getD 0 0 ∧ 0 < gainF s := by
  simp only [stiffB, Bool.and_eq_true, decide_eq_true_eq] at h
  obtain ⟨h1, h2, h3⟩ := areB_t h.1.1
  exact ⟨h1, h2, h3, h.1.2, h.2⟩
theorem gain_bd {s : List Int} (h1 : ∀ x, x ∈ s → -200 ≤ x ∧ x ≤ 200) (h3 : (s.length : Int) ≤ 4) : -800 ≤ isum s ∧ isum s ≤ 800 ∧ -1800 ≤ gainF s ∧ gainF s ≤ 1800 := by
  have h4 := isum_bd 200 s h1
  have h5 := (show AllLe 200 s from h1).get (by omega) 0
  unfold gainF; omega
end Go.Proofs.Ytbjeaadnanimfaa
