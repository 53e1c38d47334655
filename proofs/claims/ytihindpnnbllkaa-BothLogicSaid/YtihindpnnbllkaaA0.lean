/- Plain functions, and the calls that give them. -/
import Derived.Test.YtihindpnnbllkaaSQ
import Derived.Test.YtihindpnnbllkaaKN
import Derived.Test.YtihindpnnbllkaaKt
set_option linter.all false
set_option linter.unusedVariables false
set_option linter.unnecessarySimpa false
set_option linter.unusedSimpArgs false
namespace Go.V
open Go Go.Proofs
def cS83 : Cod (Int × Int) := Cod.plain 2 (fun x => [.int .i64 x.1, .int .i64 x.2]) (fun _ => rfl) (fun _ => rfl)
def cS81 : Cod ((List (Int × Int)) × (List (List Int)) × (List Int) × (List Int)) := (cPr (cSl cS83) (cPr (cSl (cSl (cInt .i64))) (cPr (cSl (cInt .i64)) (cSl (cInt .u8)))))
def cS25 : Cod (Int × (List Bool) × (List Int) × (List Nd)) := (cPr (cInt .i64) (cPr (cSl cBool) (cPr (cSl (cInt .i64)) (cSl cNode))))
end Go.V
