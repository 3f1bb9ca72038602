/- Chapter 9: rising numbers of teeth. -/
import Derived.Test.YtbjeaadnanimfaaTens
namespace Go.Proofs.Ytbjeaadnanimfaa
open Go.RowKit
set_option linter.unusedVariables false
set_option linter.unusedSimpArgs false

/-- The first k rise. -/
def Inc (xs : List Int) (k : Nat) : Prop := ∀ j, j + 1 < k → xs.getD j 0 < xs.getD (j + 1) 0
theorem Inc.next {xs : List Int} {k : Nat} (h : Inc xs k) (hk : 0 < k) (hx : xs.getD (k - 1) 0 < xs.getD k 0) : Inc xs (k + 1) := by
  intro j hj
  by_cases e : j + 1 = k
  · obtain rfl : j = k - 1 := by omega
    rw [show k - 1 + 1 = k by omega]; exact hx
  · exact h j (by omega)
theorem Inc.small (xs : List Int) {k : Nat} (hk : k ≤ 1) : Inc xs k := fun j hj => by omega
/-- Teeth: rising, in their range, not too many. -/
def Teeth (xs : List Int) (most : Nat) (lo hi : Int) : Prop := (1 ≤ xs.length ∧ xs.length ≤ most) ∧ allB xs lo hi = true ∧ Inc xs xs.length
noncomputable def teethB (xs : List Int) (most : Nat) (lo hi : Int) : Bool := @decide (Teeth xs most lo hi) (Classical.propDecidable _)
theorem teethB_t {xs : List Int} {most : Nat} {lo hi : Int} (h : Teeth xs most lo hi) : teethB xs most lo hi = true := by unfold teethB; exact @decide_eq_true _ (Classical.propDecidable _) h
theorem teethB_f {xs : List Int} {most : Nat} {lo hi : Int} (h : ¬ Teeth xs most lo hi) : teethB xs most lo hi = false := by unfold teethB; exact @decide_eq_false _ (Classical.propDecidable _) h
theorem teethB_is {xs : List Int} {most : Nat} {lo hi : Int} (h : teethB xs most lo hi = true) : Teeth xs most lo hi := by unfold teethB at h; exact @of_decide_eq_true _ (Classical.propDecidable _) h
theorem not_inc {xs : List Int} {k : Nat} (hk : 0 < k) (hl : k < xs.length) (hx : ¬ xs.getD (k - 1) 0 < xs.getD k 0) : ¬ Inc xs xs.length := by
  intro h
  have := h (k - 1) (by omega)
  rw [show k - 1 + 1 = k by omega] at this
  exact hx this
end Go.Proofs.Ytbjeaadnanimfaa
