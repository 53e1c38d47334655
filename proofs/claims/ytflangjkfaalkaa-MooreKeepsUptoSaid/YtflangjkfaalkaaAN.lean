/- Nodes of automata. -/
import Derived.Test.YtflangjkfaalkaaVM
set_option linter.all false
set_option linter.unusedVariables false
set_option linter.unnecessarySimpa false
set_option linter.unusedSimpArgs false
namespace Go.V
open Go
structure Nd where
  P : Int
  Lo : Int
  Hi : Int
deriving DecidableEq
instance : Inhabited Nd := ⟨⟨0, 0, 0⟩⟩
def W64 (x : Int) : Prop := -9223372036854775808 ≤ x ∧ x ≤ 9223372036854775807
def Nd.wf (x : Nd) : Prop := W64 x.P ∧ W64 x.Lo ∧ W64 x.Hi
def cNode : Cod Nd := Cod.plain 3 (fun x => [.int .i64 x.P, .int .i64 x.Lo, .int .i64 x.Hi]) (fun _ => rfl) (fun _ => rfl)
def ndV (x : Nd) : Value := .agg #[.int .i64 x.P, .int .i64 x.Lo, .int .i64 x.Hi]
theorem ndV_inj {x y : Nd} (h : ndV x = ndV y) : x = y := by
  unfold ndV at h
  simp at h
  cases x; cases y; simp_all
theorem wf64 {x : Int} (h : W64 x) : (Lit.int .i64 x).wf = true := by
  unfold W64 at h
  simp [Lit.wf, IntKind.min, IntKind.max, IntKind.signed, IntKind.bits]
  omega
end Go.V
