/- The plain law LangKnown, evaluated. No condition. -/
import Derived.Test.YteemfefeaphfdaaBLangKnown
import Derived.Test.YteemfefeaphfdaaV9
set_option linter.all false
set_option linter.unusedVariables false
set_option linter.unnecessarySimpa false
set_option linter.unusedSimpArgs false
set_option maxRecDepth 1000000
namespace Go.V
open Go Go.Proofs
theorem law19_LangKnown_true : law19_LangKnown 1000000 = some true := by kernel_rfl
theorem law19_LangKnown_row (w0 : World) : Calls Try.prog 6 #[] w0 fun e w' => ∃ v, e = .returned v ∧ (v = .bool true ∧ Ext w0 w') :=
  (law19_LangKnown_calls (Hp.start w0) law19_LangKnown_true).mono fun e w' ⟨v, he, hv, H⟩ => ⟨v, he, hv, H.chgd.own⟩
end Go.V
