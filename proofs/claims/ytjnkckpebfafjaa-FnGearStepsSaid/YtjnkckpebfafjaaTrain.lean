/- Chapter 9: the laws' helpers over a drive train. -/
import Derived.Test.YtjnkckpebfafjaaLawFns
import Derived.Test.YtjnkckpebfafjaaBox
namespace Go.Proofs.Ytjnkckpebfafjaa
open Go.RowKit
set_option linter.unusedVariables false
set_option linter.unusedSimpArgs false

/-- A train in new memory. -/
def NewT (w : World) (fs rs : List Int) (n : Int) (e : Ending) (w' : World) : Prop :=
  ∃ v1 v2, e = .returned (.agg #[v1, v2, .int .i64 n]) ∧ OwnI w' w.heap.size v1 fs ∧ OwnI w' w.heap.size v2 rs ∧ Upd [] w w' ∧ ∀ k k', v1.ownBlock = some k → v2.ownBlock = some k' → k < k'
end Go.Proofs.Ytjnkckpebfafjaa
