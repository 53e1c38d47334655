/-
  No cell of these rows narrows 'for every input' (looked for: loops, veiled, ifaces, maps, wideKeys, modest, calm, conditions, laid).
  DERIVED. THE GIVEN ROWS OF THIS SEAT. 3 by the template 'for every input the law returns true; each argument reads behind the call as it read before'; 0 by the template 'total and deterministic' (their statements: YteiemajlkgdhaaaTotals.lean).
  GIVEN WITH THE SEED: the statements are not yours to turn. If you find one false, say at which input.
  Laid BY PROGRAM, IN A SANDBOX (cutbox-rows.mjs): the forced cells as the released guide's own fill.sh prints them over the translation 3a861e6a8058048b… (all of the seat's roots in one cut). By AI agents, Wed Nov 11 2026. No macro, syntax, notation, axiom, sorry.
-/
import Derived.Test.YteiemajlkgdhaaaChecked
import GoSem.Claim
import GoSem.ClaimJoined
import GoSem.ClaimMapViews
import Derived.JoinedTies
import Derived.KernelRfl
namespace Go.Proofs.Yteiemajlkgdhaaa
/- THE CELL 'sum', in the pinned program and in every row, IS THE sha256 OF THE DUMP (.gsa) THAT YteiemajlkgdhaaaProg.lean LOADS. Nothing in Lean hashes anything: it is a label: what it is worth is what the hold of that sum in a sandbox is worth. -/
noncomputable def Try.pinned : Pinned := { name := "yteiemajlkgdhaaa", sum := "3a861e6a8058048bde9201082331e787c9a0522dabcbc9d0730058dabf65540d", checked := Try.checked }
namespace Rows
def none {H : Type} : Left H := { results := [], args := [] }

/-- 'rejoinderlaw16.PartClasses': WHATEVER THE INPUT: true; the input reads as it did. -/
def partClassesSpec : ChangeSpec := { name := "partClasses", fn := fun _ => fun
  | [d1, d2, d3, d4] => { results := [.lit (.bool true)], args := [d1, d2, d3, d4] }
  | _ => none }
def partClassesRow : OpenClaim := { program := "yteiemajlkgdhaaa", sum := "3a861e6a8058048bde9201082331e787c9a0522dabcbc9d0730058dabf65540d", func := "rejoinder/rejoinderlaw16.PartClasses", spec := "partClasses", plainKeys := false, apart := false }
def PartClassesSaid : Prop := partClassesRow.holds Try.pinned (OpenSpec.ofChange partClassesSpec)

/-- ITS FALSE NEIGHBOUR: 'it returns false'. Refute it at one input. -/
def partClassesWrong : ChangeSpec := { name := "partClasses", fn := fun _ => fun
  | [d1, d2, d3, d4] => { results := [.lit (.bool false)], args := [d1, d2, d3, d4] }
  | _ => none }
def PartClassesWrongFalsely : Prop := partClassesRow.holds Try.pinned (OpenSpec.ofChange partClassesWrong)

/-- 'rejoinderlaw16.PartTells': WHATEVER THE INPUT: true; the input reads as it did. -/
def partTellsSpec : ChangeSpec := { name := "partTells", fn := fun _ => fun
  | [d1, d2, d3] => { results := [.lit (.bool true)], args := [d1, d2, d3] }
  | _ => none }
def partTellsRow : OpenClaim := { program := "yteiemajlkgdhaaa", sum := "3a861e6a8058048bde9201082331e787c9a0522dabcbc9d0730058dabf65540d", func := "rejoinder/rejoinderlaw16.PartTells", spec := "partTells", plainKeys := false, apart := false }
def PartTellsSaid : Prop := partTellsRow.holds Try.pinned (OpenSpec.ofChange partTellsSpec)

/-- ITS FALSE NEIGHBOUR: 'it returns false'. Refute it at one input. -/
def partTellsWrong : ChangeSpec := { name := "partTells", fn := fun _ => fun
  | [d1, d2, d3] => { results := [.lit (.bool false)], args := [d1, d2, d3] }
  | _ => none }
def PartTellsWrongFalsely : Prop := partTellsRow.holds Try.pinned (OpenSpec.ofChange partTellsWrong)

/-- 'rejoinderlaw16.PartKnown': WHATEVER THE INPUT: true; the input reads as it did. -/
def partKnownSpec : ChangeSpec := { name := "partKnown", fn := fun _ => fun
  | [] => { results := [.lit (.bool true)], args := [] }
  | _ => none }
def partKnownRow : OpenClaim := { program := "yteiemajlkgdhaaa", sum := "3a861e6a8058048bde9201082331e787c9a0522dabcbc9d0730058dabf65540d", func := "rejoinder/rejoinderlaw16.PartKnown", spec := "partKnown", plainKeys := false, apart := false }
def PartKnownSaid : Prop := partKnownRow.holds Try.pinned (OpenSpec.ofChange partKnownSpec)

/-- ITS FALSE NEIGHBOUR: 'it returns false'. Refute it at one input. -/
def partKnownWrong : ChangeSpec := { name := "partKnown", fn := fun _ => fun
  | [] => { results := [.lit (.bool false)], args := [] }
  | _ => none }
def PartKnownWrongFalsely : Prop := partKnownRow.holds Try.pinned (OpenSpec.ofChange partKnownWrong)

/- THE SECOND FORM. 'bulk': how many values and letters a reading holds, each counted each time it is reached (what is shared counts as often as it is met; a slice's spare places count too). A statement '..UptoSaid' is the law's where the arguments, and the package variables that the reading takes, are together of bulk at most 1048576: NARROWER than '..Said'. Prove '..Said' where nothing that the law and all that it calls make is longer than what came in: it says more and counts as full. Else prove '..UptoSaid'. A law counts once. -/
mutual
def uptoBulk {H : Type} : DataW H → Nat
  | .lit (.string bytes) => bytes.length + 1
  | .lit _ => 1
  | .nil => 1
  | .ptr d => uptoBulk d + 1
  | .slice elems spare => uptoBulkAll elems + uptoBulkAll spare + 1
  | .agg parts => uptoBulkAll parts + 1
  | .iface _ d => uptoBulk d + 1
  | .map entries => uptoBulkEntries entries + 1
  | .held _ => 1
def uptoBulkAll {H : Type} : List (DataW H) → Nat
  | [] => 0
  | d :: r => uptoBulk d + uptoBulkAll r
def uptoBulkEntries {H : Type} : List (Lit × DataW H) → Nat
  | [] => 0
  | x :: r => uptoBulkEntry x + uptoBulkEntries r
def uptoBulkEntry {H : Type} : Lit × DataW H → Nat
  | (.string bytes, d) => bytes.length + uptoBulk d + 1
  | (_, d) => uptoBulk d + 1
 end
def uptoSmall : (H : Type) → List (DataW H) → Bool := fun _ ds => decide (uptoBulkAll ds ≤ 1048576)
def OpenSpec.upto (s : _root_.Go.ChangeSpec) : _root_.Go.OpenSpec := { _root_.Go.OpenSpec.ofChange s with cond := some uptoSmall }

/-- 'rejoinderlaw16.PartClasses', WHERE WHAT IT READS IS OF BULK AT MOST 1048576: true; the input reads as it did. -/
def partClassesUptoRow : OpenClaim := { program := "yteiemajlkgdhaaa", sum := "3a861e6a8058048bde9201082331e787c9a0522dabcbc9d0730058dabf65540d", func := "rejoinder/rejoinderlaw16.PartClasses", spec := "partClasses", plainKeys := false, apart := false, narrowed := true }
def PartClassesUptoSaid : Prop := partClassesUptoRow.holds Try.pinned (OpenSpec.upto partClassesSpec)

/-- 'rejoinderlaw16.PartTells', WHERE WHAT IT READS IS OF BULK AT MOST 1048576: true; the input reads as it did. -/
def partTellsUptoRow : OpenClaim := { program := "yteiemajlkgdhaaa", sum := "3a861e6a8058048bde9201082331e787c9a0522dabcbc9d0730058dabf65540d", func := "rejoinder/rejoinderlaw16.PartTells", spec := "partTells", plainKeys := false, apart := false, narrowed := true }
def PartTellsUptoSaid : Prop := partTellsUptoRow.holds Try.pinned (OpenSpec.upto partTellsSpec)

/-- 'rejoinderlaw16.PartKnown', WHERE WHAT IT READS IS OF BULK AT MOST 1048576: true; the input reads as it did. -/
def partKnownUptoRow : OpenClaim := { program := "yteiemajlkgdhaaa", sum := "3a861e6a8058048bde9201082331e787c9a0522dabcbc9d0730058dabf65540d", func := "rejoinder/rejoinderlaw16.PartKnown", spec := "partKnown", plainKeys := false, apart := false, narrowed := true }
def PartKnownUptoSaid : Prop := partKnownUptoRow.holds Try.pinned (OpenSpec.upto partKnownSpec)

end Rows
end Go.Proofs.Yteiemajlkgdhaaa
