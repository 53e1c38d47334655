/- Plain theory: what the laws draw. No program. -/
import Derived.Test.YtokfobioklmiaaaPR
set_option linter.all false
set_option linter.unusedVariables false
namespace Go.V
open Go
theorem Pick_ok {N : Nat} {x n : Int} (h1 : 1 ≤ n) (h2 : n ≤ 1000000) : Ok (kit_Pick N x n) fun r => 0 ≤ r ∧ r < n := by
  have k1 := Int.tmod_lt_of_pos x (show 0 < n by omega)
  have k2 := Int.lt_tmod_of_pos x (show 0 < n by omega)
  unfold kit_Pick
  refine Ok.ite (fun h => by omega) fun _ => Ok.ask (by omega) (Ok.ite (fun h => Ok.ask (by unfold in64; omega) (Ok.pure (by omega))) fun h => Ok.pure (by omega))
section
variable {N : Nat} {p : Int} {acc : List Bool} {gd : List Int} {nd : List Nd}
theorem Large_ok : Ok (law19_Large N p acc gd nd) fun r => r = true ∨ p ≤ 3 ∨ 8 < p := by
  unfold law19_Large
  repeat' (first | exact Ok.pure (.inl rfl) | exact Ok.pure (.inr (by omega)) | refine Ok.ite (fun _ => ?_) fun _ => ?_)
theorem Real_ok (V : Valid p acc gd nd) : law19_Real N p acc gd nd = some true := by
  have a1 := V.a1
  have gl := V.gl
  unfold law19_Real
  rw [if_pos (by omega)]
  simp [gl]
end
end Go.V
