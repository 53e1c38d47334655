/- Plain functions, and the calls that give them. -/
import Derived.Test.YteemfefeaphfdaaA5
set_option linter.all false
set_option linter.unusedVariables false
set_option linter.unnecessarySimpa false
set_option linter.unusedSimpArgs false
namespace Go.V
open Go Go.Proofs
/-! rejoinder/lang.Missing -/
/-! rejoinder/rejoinderlaw19.None -/
/-! rejoinder/rejoinderkit.SameInts -/
/-! rejoinder/rejoinderkit.SameBools -/
/-! rejoinder/rejoinderlaw19.words -/
end Go.V
