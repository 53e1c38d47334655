/- Structs of this seat: their equality. -/
import Derived.Test.YtflangjkfaalkaaKN
set_option linter.all false
set_option linter.unusedVariables false
set_option linter.unnecessarySimpa false
set_option linter.unusedSimpArgs false
set_option maxRecDepth 100000
namespace Go.V
open Go Go.Proofs

end Go.V
