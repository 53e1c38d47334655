/- Plain functions, and the calls that give them. -/
import Derived.Test.YtflangjkfaalkaaKN
import Derived.Test.YtflangjkfaalkaaKt
set_option linter.all false
set_option linter.unusedVariables false
set_option linter.unnecessarySimpa false
set_option linter.unusedSimpArgs false
namespace Go.V
open Go Go.Proofs
def cS25 : Cod (Int × (List Bool) × (List Int) × (List Nd)) := (cPr (cInt .i64) (cPr (cSl cBool) (cPr (cSl (cInt .i64)) (cSl cNode))))
def cS28 : Cod (Int × Int) := Cod.plain 2 (fun x => [.int .u8 x.1, .int .u8 x.2]) (fun _ => rfl) (fun _ => rfl)
def cS87 : Cod ((Int × (List Bool) × (List Int) × (List Nd)) × (Int × Int) × (List Int) × (List Int)) := (cPr cS25 (cPr cS28 (cPr (cSl (cInt .u8)) (cSl (cInt .u8)))))
end Go.V
