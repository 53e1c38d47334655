/- Nodes as keys. -/
import Derived.Test.YtflangjkfaalkaaVY
import Derived.Test.YtflangjkfaalkaaAK
set_option linter.all false
namespace Go.V
open Go Go.Proofs
def ndOk (x : Nd) : Prop := in64 x.P ∧ in64 x.Lo ∧ in64 x.Hi
instance (x : Nd) : Decidable (ndOk x) := inferInstanceAs (Decidable (_ ∧ _))
theorem kNd : Kty Try.prog 57 ndV ndOk := ⟨keyNd, fun x y h => ndV_inj h, fun x h => keyNdOf x h⟩
end Go.V
