/- The draw of the usual lacing. -/
import Derived.Test.YtiiljmaianfdeaaDraw6b
namespace Go.Proofs.Ytiiljmaianfdeaa
open Go.RowKit
set_option linter.unusedVariables false
set_option linter.unusedSimpArgs false

def DrawII (w : World) (e : Ending) (w' : World) : Prop := ∃ n k, e = .returned (.tuple #[.int .i64 n, .int .i64 k]) ∧ Upd [] w w'
end Go.Proofs.Ytiiljmaianfdeaa
