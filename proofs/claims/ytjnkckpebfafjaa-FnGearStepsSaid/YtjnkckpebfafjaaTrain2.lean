/- Chapter 9: szTrain. -/
import Derived.Test.YtjnkckpebfafjaaTrain
namespace Go.Proofs.Ytjnkckpebfafjaa
open Go.RowKit
set_option linter.unusedVariables false
set_option linter.unusedSimpArgs false
end Go.Proofs.Ytjnkckpebfafjaa
