/- Plain theory: maps. No program. -/
import Derived.Test.YtljkomkejdngcaaTB
set_option linter.all false
set_option linter.unusedVariables false
set_option maxRecDepth 100000
namespace Go.V
open Go

/-! ### maps -/
section
variable {κ ν : Type} [DecidableEq κ]
theorem mget_app {k k' : κ} {v : ν} : ∀ {m : List (κ × ν)}, mget (m ++ [(k, v)]) k' = match mget m k' with | some u => some u | none => if k = k' then some v else none
  | [] => by simp [mget]
  | (a, b) :: r => by
    show mget ((a, b) :: (r ++ [(k, v)])) k' = _
    unfold mget
    by_cases e : a = k'
    · rw [if_pos e, if_pos e]
    · rw [if_neg e, if_neg e]; exact mget_app
end

end Go.V
