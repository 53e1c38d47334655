/- Stores into a part of an element; calls of functions that the model stands in for. -/
import Derived.Test.YthlbijcgnekcbaaVR
import Derived.Laws.Externs
set_option linter.all false
set_option linter.unusedVariables false
set_option linter.unnecessarySimpa false
set_option linter.unusedSimpArgs false
namespace Go.V
open Go Go.Proofs
section
variable {P : Program} {T : List TRow} {w : World} {a : Act} {n : Nat} {l l' : List (Nat × Value)} {ops : Array Oper} {o : Oper} {rest : List Oper} {Q : Exit → Act → World → Prop} {t e : TypeId}
variable {S : Nat → Prop} {Fa : Nat → Prop} {w0 : World} {L : List Ent}
end
end Go.V
