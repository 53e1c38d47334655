/- The plain law PlayKnown, evaluated. No condition. -/
import Derived.Test.YtckpjnoajnbmdaaA12
import Derived.Test.YtckpjnoajnbmdaaV9
set_option linter.all false
set_option linter.unusedVariables false
set_option linter.unnecessarySimpa false
set_option linter.unusedSimpArgs false
set_option maxRecDepth 1000000
namespace Go.V
open Go Go.Proofs
theorem law25_PlayKnown_true : law25_PlayKnown 1000000 = some true := by kernel_rfl
theorem law25_PlayKnown_row (w0 : World) : Calls Try.prog 7 #[] w0 fun e w' => ∃ v, e = .returned v ∧ (v = .bool true ∧ Ext w0 w') :=
  (law25_PlayKnown_calls (Hp.start w0) law25_PlayKnown_true).mono fun e w' ⟨v, he, hv, H⟩ => ⟨v, he, hv, H.chgd.own⟩
end Go.V
