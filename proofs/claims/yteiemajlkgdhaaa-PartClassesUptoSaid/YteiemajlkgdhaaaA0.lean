/- Plain functions, and the calls that give them. -/
import Derived.Test.YteiemajlkgdhaaaKN
import Derived.Test.YteiemajlkgdhaaaKt
set_option linter.all false
set_option linter.unusedVariables false
set_option linter.unnecessarySimpa false
set_option linter.unusedSimpArgs false
namespace Go.V
open Go Go.Proofs
def cS61 : Cod (Int × Int × Int × Int) := Cod.plain 4 (fun x => [.int .i64 x.1, .int .i64 x.2.1, .int .i64 x.2.2.1, .int .u8 x.2.2.2]) (fun _ => rfl) (fun _ => rfl)
end Go.V
