/- The plain law OddsKnown, evaluated. No condition. -/
import Derived.Test.YtbgpakdldcfhiaaBOddsKnown
import Derived.Test.YtbgpakdldcfhiaaV9
set_option linter.all false
set_option linter.unusedVariables false
set_option linter.unnecessarySimpa false
set_option linter.unusedSimpArgs false
set_option maxRecDepth 1000000
namespace Go.V
open Go Go.Proofs
theorem law27_OddsKnown_true : law27_OddsKnown 1000000 = some true := by kernel_rfl
theorem law27_OddsKnown_row (w0 : World) : Calls Try.prog 4 #[] w0 fun e w' => ∃ v, e = .returned v ∧ (v = .bool true ∧ Ext w0 w') :=
  (law27_OddsKnown_calls (Hp.start w0) law27_OddsKnown_true).mono fun e w' ⟨v, he, hv, H⟩ => ⟨v, he, hv, H.chgd.own⟩
end Go.V
