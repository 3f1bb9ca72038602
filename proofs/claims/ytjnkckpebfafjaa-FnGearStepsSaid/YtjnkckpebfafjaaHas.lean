/- A list has a number; the numbers of holes. -/
import Derived.Test.YtjnkckpebfafjaaApp
namespace Go.Proofs.Ytjnkckpebfafjaa
open Go.RowKit
set_option linter.unusedVariables false
set_option linter.unusedSimpArgs false

def hasB (xs : List Int) (y : Int) : Bool := decide (y ∈ xs)
theorem hasB_t {xs : List Int} {k : Nat} {y : Int} (h : xs[k]? = some y) : hasB xs y = true := decide_eq_true (mem_of_get h)
theorem IntsAt.lit (w : World) (xs : List Int) : IntsAt (w.alloc (.cells (xs.map (Value.int .i64)).toArray 2)) (some ⟨w.heap.size, 0, none⟩) xs :=
  .inr ⟨w.heap.size, 0, rfl, fun k y hy => by simp [hy]⟩
def holesB (n : Int) : Bool := hasB [12, 16, 20, 24, 32, 36, 40, 48] n
end Go.Proofs.Ytjnkckpebfafjaa
