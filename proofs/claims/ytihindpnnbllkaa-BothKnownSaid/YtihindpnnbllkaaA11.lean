/- Plain functions, and the calls that give them. -/
import Derived.Test.YtihindpnnbllkaaA10
set_option linter.all false
set_option linter.unusedVariables false
set_option linter.unnecessarySimpa false
set_option linter.unusedSimpArgs false
namespace Go.V
open Go Go.Proofs
/-! rejoinder/both.Xor$1 -/
/-! rejoinder/both.Xor -/
/-! rejoinder/letter.number -/
/-! rejoinder/letter.Fits -/
/-! rejoinder/letter.Trace -/
/-! rejoinder/canon.Run -/
/-! rejoinder/rejoinderlaw20.accepts -/
/-! rejoinder/canon.Is -/
end Go.V
