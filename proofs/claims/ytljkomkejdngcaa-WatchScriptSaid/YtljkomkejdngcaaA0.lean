/- Plain functions, and the calls that give them. -/
import Derived.Test.YtljkomkejdngcaaKN
import Derived.Test.YtljkomkejdngcaaKt
import Derived.Test.YtljkomkejdngcaaVU
set_option linter.all false
set_option linter.unusedVariables false
set_option linter.unnecessarySimpa false
set_option linter.unusedSimpArgs false
namespace Go.V
open Go Go.Proofs
def cS42 : Cod (Int × (List Bool) × (List Int) × (List Nd)) := (cPr (cInt .i64) (cPr (cSl cBool) (cPr (cSl (cInt .i64)) (cSl cNode))))
def cS78 : Cod ((Int × (List Bool) × (List Int) × (List Nd)) × (List Int) × (List Int)) := (cPr cS42 (cPr (cSl (cInt .i64)) (cSl (cInt .u8))))
def cS70 : Cod (Int × Int × Int) := Cod.plain 3 (fun x => [.int .u8 x.1, .int .u8 x.2.1, .int .u8 x.2.2]) (fun _ => rfl) (fun _ => rfl)
end Go.V
