/- The plain law PartKnown, evaluated. No condition. -/
import Derived.Test.YteiemajlkgdhaaaA5
import Derived.Test.YteiemajlkgdhaaaV9
set_option linter.all false
set_option linter.unusedVariables false
set_option linter.unnecessarySimpa false
set_option linter.unusedSimpArgs false
set_option maxRecDepth 1000000
namespace Go.V
open Go Go.Proofs
theorem law16_PartKnown_true : law16_PartKnown 1000000 = some true := by kernel_rfl
theorem law16_PartKnown_row (w0 : World) : Calls Try.prog 5 #[] w0 fun e w' => ∃ v, e = .returned v ∧ (v = .bool true ∧ Ext w0 w') :=
  (law16_PartKnown_calls (Hp.start w0) law16_PartKnown_true).mono fun e w' ⟨v, he, hv, H⟩ => ⟨v, he, hv, H.chgd.own⟩
end Go.V
