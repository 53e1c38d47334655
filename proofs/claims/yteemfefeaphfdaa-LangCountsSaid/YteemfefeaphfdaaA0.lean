/- Plain functions, and the calls that give them. -/
import Derived.Test.YteemfefeaphfdaaKN
import Derived.Test.YteemfefeaphfdaaKt
import Derived.Test.YteemfefeaphfdaaVZ
set_option linter.all false
set_option linter.unusedVariables false
set_option linter.unnecessarySimpa false
set_option linter.unusedSimpArgs false
namespace Go.V
open Go Go.Proofs
def cS97 : Cod (Int × (List Int)) := (cPr (cInt .i64) (cSl (cInt .u8)))
def cS74 : Cod (Int × Bool) := Cod.plain 2 (fun x => [.int .u64 x.1, .bool x.2]) (fun _ => rfl) (fun _ => rfl)
end Go.V
