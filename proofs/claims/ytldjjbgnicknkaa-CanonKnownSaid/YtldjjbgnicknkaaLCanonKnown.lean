/- The plain law CanonKnown, evaluated. No condition. -/
import Derived.Test.YtldjjbgnicknkaaA8
import Derived.Test.YtldjjbgnicknkaaV9
set_option linter.all false
set_option linter.unusedVariables false
set_option linter.unnecessarySimpa false
set_option linter.unusedSimpArgs false
set_option maxRecDepth 1000000
namespace Go.V
open Go Go.Proofs
theorem law17_CanonKnown_true : law17_CanonKnown 1000000 = some true := by kernel_rfl
theorem law17_CanonKnown_row (w0 : World) : Calls Try.prog 7 #[] w0 fun e w' => ∃ v, e = .returned v ∧ (v = .bool true ∧ Ext w0 w') :=
  (law17_CanonKnown_calls (Hp.start w0) law17_CanonKnown_true).mono fun e w' ⟨v, he, hv, H⟩ => ⟨v, he, hv, H.chgd.own⟩
end Go.V
