/- The plain law WatchKnown, evaluated. No condition. -/
import Derived.Test.YtljkomkejdngcaaA5
import Derived.Test.YtljkomkejdngcaaV9
set_option linter.all false
set_option linter.unusedVariables false
set_option linter.unnecessarySimpa false
set_option linter.unusedSimpArgs false
set_option maxRecDepth 1000000
namespace Go.V
open Go Go.Proofs
theorem law21_WatchKnown_true : law21_WatchKnown 1000000 = some true := by kernel_rfl
theorem law21_WatchKnown_row (w0 : World) : Calls Try.prog 7 #[] w0 fun e w' => ∃ v, e = .returned v ∧ (v = .bool true ∧ Ext w0 w') :=
  (law21_WatchKnown_calls (Hp.start w0) law21_WatchKnown_true).mono fun e w' ⟨v, he, hv, H⟩ => ⟨v, he, hv, H.chgd.own⟩
end Go.V
