/- Plain functions, and the calls that give them. -/
import Derived.Test.YtbgpakdldcfhiaaKN
import Derived.Test.YtbgpakdldcfhiaaKt
set_option linter.all false
set_option linter.unusedVariables false
set_option linter.unnecessarySimpa false
set_option linter.unusedSimpArgs false
namespace Go.V
open Go Go.Proofs
def cS69 : Cod (Int × Bool) := Cod.plain 2 (fun x => [.int .u64 x.1, .bool x.2]) (fun _ => rfl) (fun _ => rfl)
end Go.V
