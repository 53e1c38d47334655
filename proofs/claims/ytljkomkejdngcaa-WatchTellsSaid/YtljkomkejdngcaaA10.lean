/- Plain functions, and the calls that give them. -/
import Derived.Test.YtljkomkejdngcaaA9
set_option linter.all false
set_option linter.unusedVariables false
set_option linter.unnecessarySimpa false
set_option linter.unusedSimpArgs false
namespace Go.V
open Go Go.Proofs
/-! rejoinder/canon.Run -/
end Go.V
