/- The plain law NearKnown, evaluated. No condition. -/
import Derived.Test.YtldcmipgdacecaaBNearKnown
import Derived.Test.YtldcmipgdacecaaV9
set_option linter.all false
set_option linter.unusedVariables false
set_option linter.unnecessarySimpa false
set_option linter.unusedSimpArgs false
set_option maxRecDepth 1000000
namespace Go.V
open Go Go.Proofs
theorem law28_NearKnown_true : law28_NearKnown 1000000 = some true := by kernel_rfl
theorem law28_NearKnown_row (w0 : World) : Calls Try.prog 6 #[] w0 fun e w' => ∃ v, e = .returned v ∧ (v = .bool true ∧ Ext w0 w') :=
  (law28_NearKnown_calls (Hp.start w0) law28_NearKnown_true).mono fun e w' ⟨v, he, hv, H⟩ => ⟨v, he, hv, H.chgd.own⟩
end Go.V
