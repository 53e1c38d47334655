/- Plain theory: what the laws draw. No program. -/
import Derived.Test.YtckpjnoajnbmdaaPR
set_option linter.all false
set_option linter.unusedVariables false
namespace Go.V
open Go
section
variable {N : Nat} {p : Int} {acc : List Bool} {gd : List Int} {nd : List Nd}
theorem Large_ok : Ok (law19_Large N p acc gd nd) fun r => r = true ∨ p ≤ 3 ∨ 8 < p := by
  unfold law19_Large
  repeat' (first | exact Ok.pure (.inl rfl) | exact Ok.pure (.inr (by omega)) | refine Ok.ite (fun _ => ?_) fun _ => ?_)
theorem Real_ok (V : Valid p acc gd nd) : law19_Real N p acc gd nd = some true := by
  have a1 := V.a1
  have gl := V.gl
  unfold law19_Real
  rw [if_pos (by omega)]
  simp [gl]
end
end Go.V
