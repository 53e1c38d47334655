/- The plain law BothKnown, evaluated. No condition. -/
import Derived.Test.YtihindpnnbllkaaBBothKnown
import Derived.Test.YtihindpnnbllkaaV9
set_option linter.all false
set_option linter.unusedVariables false
set_option linter.unnecessarySimpa false
set_option linter.unusedSimpArgs false
set_option maxRecDepth 1000000
namespace Go.V
open Go Go.Proofs
theorem law20_BothKnown_true : law20_BothKnown 1000000 = some true := by kernel_rfl
theorem law20_BothKnown_row (w0 : World) : Calls Try.prog 5 #[] w0 fun e w' => ∃ v, e = .returned v ∧ (v = .bool true ∧ Ext w0 w') :=
  (law20_BothKnown_calls (Hp.start w0) law20_BothKnown_true).mono fun e w' ⟨v, he, hv, H⟩ => ⟨v, he, hv, H.chgd.own⟩
end Go.V
