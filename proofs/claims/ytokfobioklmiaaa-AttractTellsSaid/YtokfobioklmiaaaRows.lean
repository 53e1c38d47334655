/-
  No cell of these rows narrows 'for every input' (looked for: loops, veiled, ifaces, maps, wideKeys, modest, calm, conditions, laid).
  DERIVED. THE GIVEN ROWS OF THIS SEAT. 4 by the template 'for every input the law returns true; each argument reads behind the call as it read before'; 0 by the template 'total and deterministic' (their statements: YtokfobioklmiaaaTotals.lean).
  GIVEN WITH THE SEED: the statements are not yours to turn. If you find one false, say at which input.
  Laid BY PROGRAM, IN A SANDBOX (cutbox-rows.mjs): the forced cells as the released guide's own fill.sh prints them over the translation 059be47db278a3a1… (all of the seat's roots in one cut). By AI agents, Wed Nov 11 2026. No macro, syntax, notation, axiom, sorry.
-/
import Derived.Test.YtokfobioklmiaaaChecked
import GoSem.Claim
import GoSem.ClaimJoined
import GoSem.ClaimMapViews
import Derived.JoinedTies
import Derived.KernelRfl
namespace Go.Proofs.Ytokfobioklmiaaa
/- THE CELL 'sum', in the pinned program and in every row, IS THE sha256 OF THE DUMP (.gsa) THAT YtokfobioklmiaaaProg.lean LOADS. Nothing in Lean hashes anything: it is a label: what it is worth is what the hold of that sum in a sandbox is worth. -/
noncomputable def Try.pinned : Pinned := { name := "ytokfobioklmiaaa", sum := "059be47db278a3a1dc8382f3c912499bd7fdc26d672fa44b41eae47812b6a749", checked := Try.checked }
namespace Rows
def none {H : Type} : Left H := { results := [], args := [] }

/-- 'rejoinderlaw23.AttractMore': WHATEVER THE INPUT: true; the input reads as it did. -/
def attractMoreSpec : ChangeSpec := { name := "attractMore", fn := fun _ => fun
  | [d1, d2, d3] => { results := [.lit (.bool true)], args := [d1, d2, d3] }
  | _ => none }
def attractMoreRow : OpenClaim := { program := "ytokfobioklmiaaa", sum := "059be47db278a3a1dc8382f3c912499bd7fdc26d672fa44b41eae47812b6a749", func := "rejoinder/rejoinderlaw23.AttractMore", spec := "attractMore", unfollowed := true, recurses := true, plainKeys := false, apart := false }
def AttractMoreSaid : Prop := attractMoreRow.holds Try.pinned (OpenSpec.ofChange attractMoreSpec)

/-- ITS FALSE NEIGHBOUR: 'it returns false'. Refute it at one input. -/
def attractMoreWrong : ChangeSpec := { name := "attractMore", fn := fun _ => fun
  | [d1, d2, d3] => { results := [.lit (.bool false)], args := [d1, d2, d3] }
  | _ => none }
def AttractMoreWrongFalsely : Prop := attractMoreRow.holds Try.pinned (OpenSpec.ofChange attractMoreWrong)

/-- 'rejoinderlaw23.AttractVerdict': WHATEVER THE INPUT: true; the input reads as it did. -/
def attractVerdictSpec : ChangeSpec := { name := "attractVerdict", fn := fun _ => fun
  | [d1, d2] => { results := [.lit (.bool true)], args := [d1, d2] }
  | _ => none }
def attractVerdictRow : OpenClaim := { program := "ytokfobioklmiaaa", sum := "059be47db278a3a1dc8382f3c912499bd7fdc26d672fa44b41eae47812b6a749", func := "rejoinder/rejoinderlaw23.AttractVerdict", spec := "attractVerdict", unfollowed := true, recurses := true, plainKeys := false, apart := false }
def AttractVerdictSaid : Prop := attractVerdictRow.holds Try.pinned (OpenSpec.ofChange attractVerdictSpec)

/-- ITS FALSE NEIGHBOUR: 'it returns false'. Refute it at one input. -/
def attractVerdictWrong : ChangeSpec := { name := "attractVerdict", fn := fun _ => fun
  | [d1, d2] => { results := [.lit (.bool false)], args := [d1, d2] }
  | _ => none }
def AttractVerdictWrongFalsely : Prop := attractVerdictRow.holds Try.pinned (OpenSpec.ofChange attractVerdictWrong)

/-- 'rejoinderlaw23.AttractTells': WHATEVER THE INPUT: true; the input reads as it did. -/
def attractTellsSpec : ChangeSpec := { name := "attractTells", fn := fun _ => fun
  | [d1, d2, d3] => { results := [.lit (.bool true)], args := [d1, d2, d3] }
  | _ => none }
def attractTellsRow : OpenClaim := { program := "ytokfobioklmiaaa", sum := "059be47db278a3a1dc8382f3c912499bd7fdc26d672fa44b41eae47812b6a749", func := "rejoinder/rejoinderlaw23.AttractTells", spec := "attractTells", unfollowed := true, recurses := true, plainKeys := false, apart := false }
def AttractTellsSaid : Prop := attractTellsRow.holds Try.pinned (OpenSpec.ofChange attractTellsSpec)

/-- ITS FALSE NEIGHBOUR: 'it returns false'. Refute it at one input. -/
def attractTellsWrong : ChangeSpec := { name := "attractTells", fn := fun _ => fun
  | [d1, d2, d3] => { results := [.lit (.bool false)], args := [d1, d2, d3] }
  | _ => none }
def AttractTellsWrongFalsely : Prop := attractTellsRow.holds Try.pinned (OpenSpec.ofChange attractTellsWrong)

/-- 'rejoinderlaw23.AttractKnown': WHATEVER THE INPUT: true; the input reads as it did. -/
def attractKnownSpec : ChangeSpec := { name := "attractKnown", fn := fun _ => fun
  | [] => { results := [.lit (.bool true)], args := [] }
  | _ => none }
def attractKnownRow : OpenClaim := { program := "ytokfobioklmiaaa", sum := "059be47db278a3a1dc8382f3c912499bd7fdc26d672fa44b41eae47812b6a749", func := "rejoinder/rejoinderlaw23.AttractKnown", spec := "attractKnown", unfollowed := true, recurses := true, plainKeys := false, apart := false }
def AttractKnownSaid : Prop := attractKnownRow.holds Try.pinned (OpenSpec.ofChange attractKnownSpec)

/-- ITS FALSE NEIGHBOUR: 'it returns false'. Refute it at one input. -/
def attractKnownWrong : ChangeSpec := { name := "attractKnown", fn := fun _ => fun
  | [] => { results := [.lit (.bool false)], args := [] }
  | _ => none }
def AttractKnownWrongFalsely : Prop := attractKnownRow.holds Try.pinned (OpenSpec.ofChange attractKnownWrong)

/- THE SECOND FORM. 'bulk': how many values and letters a reading holds, each counted each time it is reached (what is shared counts as often as it is met; a slice's spare places count too). A statement '..UptoSaid' is the law's where the arguments, and the package variables that the reading takes, are together of bulk at most 1048576: NARROWER than '..Said'. Prove '..Said' where nothing that the law and all that it calls make is longer than what came in: it says more and counts as full. Else prove '..UptoSaid'. A law counts once. -/
mutual
def uptoBulk {H : Type} : DataW H → Nat
  | .lit (.string bytes) => bytes.length + 1
  | .lit _ => 1
  | .nil => 1
  | .ptr d => uptoBulk d + 1
  | .slice elems spare => uptoBulkAll elems + uptoBulkAll spare + 1
  | .agg parts => uptoBulkAll parts + 1
  | .iface _ d => uptoBulk d + 1
  | .map entries => uptoBulkEntries entries + 1
  | .held _ => 1
def uptoBulkAll {H : Type} : List (DataW H) → Nat
  | [] => 0
  | d :: r => uptoBulk d + uptoBulkAll r
def uptoBulkEntries {H : Type} : List (Lit × DataW H) → Nat
  | [] => 0
  | x :: r => uptoBulkEntry x + uptoBulkEntries r
def uptoBulkEntry {H : Type} : Lit × DataW H → Nat
  | (.string bytes, d) => bytes.length + uptoBulk d + 1
  | (_, d) => uptoBulk d + 1
 end
def uptoSmall : (H : Type) → List (DataW H) → Bool := fun _ ds => decide (uptoBulkAll ds ≤ 1048576)
def OpenSpec.upto (s : _root_.Go.ChangeSpec) : _root_.Go.OpenSpec := { _root_.Go.OpenSpec.ofChange s with cond := some uptoSmall }

/-- 'rejoinderlaw23.AttractMore', WHERE WHAT IT READS IS OF BULK AT MOST 1048576: true; the input reads as it did. -/
def attractMoreUptoRow : OpenClaim := { program := "ytokfobioklmiaaa", sum := "059be47db278a3a1dc8382f3c912499bd7fdc26d672fa44b41eae47812b6a749", func := "rejoinder/rejoinderlaw23.AttractMore", spec := "attractMore", unfollowed := true, recurses := true, plainKeys := false, apart := false, narrowed := true }
def AttractMoreUptoSaid : Prop := attractMoreUptoRow.holds Try.pinned (OpenSpec.upto attractMoreSpec)

/-- 'rejoinderlaw23.AttractVerdict', WHERE WHAT IT READS IS OF BULK AT MOST 1048576: true; the input reads as it did. -/
def attractVerdictUptoRow : OpenClaim := { program := "ytokfobioklmiaaa", sum := "059be47db278a3a1dc8382f3c912499bd7fdc26d672fa44b41eae47812b6a749", func := "rejoinder/rejoinderlaw23.AttractVerdict", spec := "attractVerdict", unfollowed := true, recurses := true, plainKeys := false, apart := false, narrowed := true }
def AttractVerdictUptoSaid : Prop := attractVerdictUptoRow.holds Try.pinned (OpenSpec.upto attractVerdictSpec)

/-- 'rejoinderlaw23.AttractTells', WHERE WHAT IT READS IS OF BULK AT MOST 1048576: true; the input reads as it did. -/
def attractTellsUptoRow : OpenClaim := { program := "ytokfobioklmiaaa", sum := "059be47db278a3a1dc8382f3c912499bd7fdc26d672fa44b41eae47812b6a749", func := "rejoinder/rejoinderlaw23.AttractTells", spec := "attractTells", unfollowed := true, recurses := true, plainKeys := false, apart := false, narrowed := true }
def AttractTellsUptoSaid : Prop := attractTellsUptoRow.holds Try.pinned (OpenSpec.upto attractTellsSpec)

/-- 'rejoinderlaw23.AttractKnown', WHERE WHAT IT READS IS OF BULK AT MOST 1048576: true; the input reads as it did. -/
def attractKnownUptoRow : OpenClaim := { program := "ytokfobioklmiaaa", sum := "059be47db278a3a1dc8382f3c912499bd7fdc26d672fa44b41eae47812b6a749", func := "rejoinder/rejoinderlaw23.AttractKnown", spec := "attractKnown", unfollowed := true, recurses := true, plainKeys := false, apart := false, narrowed := true }
def AttractKnownUptoSaid : Prop := attractKnownUptoRow.holds Try.pinned (OpenSpec.upto attractKnownSpec)

end Rows
end Go.Proofs.Ytokfobioklmiaaa
