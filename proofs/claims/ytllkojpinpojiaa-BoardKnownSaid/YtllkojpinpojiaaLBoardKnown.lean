/- The plain law BoardKnown, evaluated. No condition. -/
import Derived.Test.YtllkojpinpojiaaA5
import Derived.Test.YtllkojpinpojiaaV9
set_option linter.all false
set_option linter.unusedVariables false
set_option linter.unnecessarySimpa false
set_option linter.unusedSimpArgs false
set_option maxRecDepth 1000000
namespace Go.V
open Go Go.Proofs
theorem law22_BoardKnown_true : law22_BoardKnown 1000000 = some true := by kernel_rfl
theorem law22_BoardKnown_row (w0 : World) : Calls Try.prog 6 #[] w0 fun e w' => ∃ v, e = .returned v ∧ (v = .bool true ∧ Ext w0 w') :=
  (law22_BoardKnown_calls (Hp.start w0) law22_BoardKnown_true).mono fun e w' ⟨v, he, hv, H⟩ => ⟨v, he, hv, H.chgd.own⟩
end Go.V
