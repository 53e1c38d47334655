/- Plain functions, and the calls that give them. -/
import Derived.Test.YtclijiacfmljlaaKN
import Derived.Test.YtclijiacfmljlaaKt
set_option linter.all false
set_option linter.unusedVariables false
set_option linter.unnecessarySimpa false
set_option linter.unusedSimpArgs false
namespace Go.V
open Go Go.Proofs

end Go.V
