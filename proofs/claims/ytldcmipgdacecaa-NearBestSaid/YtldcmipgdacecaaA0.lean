/- Plain functions, and the calls that give them. -/
import Derived.Test.YtldcmipgdacecaaNM28
import Derived.Test.YtldcmipgdacecaaKN
import Derived.Test.YtldcmipgdacecaaKt
set_option linter.all false
set_option linter.unusedVariables false
set_option linter.unnecessarySimpa false
set_option linter.unusedSimpArgs false
namespace Go.V
open Go Go.Proofs

end Go.V
