/- Plain functions, and the calls that give them. -/
import Derived.Test.YtldjjbgnicknkaaKN
import Derived.Test.YtldjjbgnicknkaaKt
set_option linter.all false
set_option linter.unusedVariables false
set_option linter.unnecessarySimpa false
set_option linter.unusedSimpArgs false
namespace Go.V
open Go Go.Proofs
def cS51 : Cod (Int × Int) := Cod.plain 2 (fun x => [.int .i64 x.1, .int .i64 x.2]) (fun _ => rfl) (fun _ => rfl)
end Go.V
