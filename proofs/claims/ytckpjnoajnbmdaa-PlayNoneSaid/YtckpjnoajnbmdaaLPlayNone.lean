/- The plain law PlayNone. No condition. -/
import Derived.Test.YtckpjnoajnbmdaaA10
import Derived.Test.YtckpjnoajnbmdaaV9
set_option linter.all false
set_option linter.unusedVariables false
set_option maxRecDepth 1000000
namespace Go.V
open Go Go.Proofs
theorem playNone_true (raw : Int) : law25_PlayNone 1000000 raw = some true := by kernel_rfl
theorem playNone_row (w0 : World) (raw : Int) : Calls Try.prog 6 #[.int .u64 raw] w0 fun e w' => ∃ v, e = .returned v ∧ (v = .bool true ∧ Ext w0 w') :=
  (law25_PlayNone_calls raw (Hp.start w0) (playNone_true raw)).mono fun e w' ⟨v, he, hv, H⟩ => ⟨v, he, hv, H.chgd.own⟩
end Go.V
