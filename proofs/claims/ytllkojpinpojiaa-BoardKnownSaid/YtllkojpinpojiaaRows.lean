/-
  No cell of these rows narrows 'for every input' (looked for: loops, veiled, ifaces, maps, wideKeys, modest, calm, conditions, laid).
  DERIVED. THE GIVEN ROWS OF THIS SEAT. 4 by the template 'for every input the law returns true; each argument reads behind the call as it read before'; 0 by the template 'total and deterministic' (their statements: YtllkojpinpojiaaTotals.lean).
  GIVEN WITH THE SEED: the statements are not yours to turn. If you find one false, say at which input.
  Laid BY PROGRAM, IN A SANDBOX (cutbox-rows.mjs): the forced cells as the released guide's own fill.sh prints them over the translation cd2bdc0cf4ee41b5… (all of the seat's roots in one cut). By AI agents, Wed Nov 11 2026. No macro, syntax, notation, axiom, sorry.
-/
import Derived.Test.YtllkojpinpojiaaChecked
import GoSem.Claim
import GoSem.ClaimJoined
import GoSem.ClaimMapViews
import Derived.JoinedTies
import Derived.KernelRfl
namespace Go.Proofs.Ytllkojpinpojiaa
/- THE CELL 'sum', in the pinned program and in every row, IS THE sha256 OF THE DUMP (.gsa) THAT YtllkojpinpojiaaProg.lean LOADS. Nothing in Lean hashes anything: it is a label: what it is worth is what the hold of that sum in a sandbox is worth. -/
noncomputable def Try.pinned : Pinned := { name := "ytllkojpinpojiaa", sum := "cd2bdc0cf4ee41b57bf95d961143479f66abe74ad09e0550f38de0b688a75ef4", checked := Try.checked }
namespace Rows
def none {H : Type} : Left H := { results := [], args := [] }

/-- 'rejoinderlaw22.BoardGoes': WHATEVER THE INPUT: true; the input reads as it did. -/
def boardGoesSpec : ChangeSpec := { name := "boardGoes", fn := fun _ => fun
  | [d1, d2, d3] => { results := [.lit (.bool true)], args := [d1, d2, d3] }
  | _ => none }
def boardGoesRow : OpenClaim := { program := "ytllkojpinpojiaa", sum := "cd2bdc0cf4ee41b57bf95d961143479f66abe74ad09e0550f38de0b688a75ef4", func := "rejoinder/rejoinderlaw22.BoardGoes", spec := "boardGoes", plainKeys := false, apart := false }
def BoardGoesSaid : Prop := boardGoesRow.holds Try.pinned (OpenSpec.ofChange boardGoesSpec)

/-- ITS FALSE NEIGHBOUR: 'it returns false'. Refute it at one input. -/
def boardGoesWrong : ChangeSpec := { name := "boardGoes", fn := fun _ => fun
  | [d1, d2, d3] => { results := [.lit (.bool false)], args := [d1, d2, d3] }
  | _ => none }
def BoardGoesWrongFalsely : Prop := boardGoesRow.holds Try.pinned (OpenSpec.ofChange boardGoesWrong)

/-- 'rejoinderlaw22.BoardMoves': WHATEVER THE INPUT: true; the input reads as it did. -/
def boardMovesSpec : ChangeSpec := { name := "boardMoves", fn := fun _ => fun
  | [d1, d2] => { results := [.lit (.bool true)], args := [d1, d2] }
  | _ => none }
def boardMovesRow : OpenClaim := { program := "ytllkojpinpojiaa", sum := "cd2bdc0cf4ee41b57bf95d961143479f66abe74ad09e0550f38de0b688a75ef4", func := "rejoinder/rejoinderlaw22.BoardMoves", spec := "boardMoves", plainKeys := false, apart := false }
def BoardMovesSaid : Prop := boardMovesRow.holds Try.pinned (OpenSpec.ofChange boardMovesSpec)

/-- ITS FALSE NEIGHBOUR: 'it returns false'. Refute it at one input. -/
def boardMovesWrong : ChangeSpec := { name := "boardMoves", fn := fun _ => fun
  | [d1, d2] => { results := [.lit (.bool false)], args := [d1, d2] }
  | _ => none }
def BoardMovesWrongFalsely : Prop := boardMovesRow.holds Try.pinned (OpenSpec.ofChange boardMovesWrong)

/-- 'rejoinderlaw22.BoardTells': WHATEVER THE INPUT: true; the input reads as it did. -/
def boardTellsSpec : ChangeSpec := { name := "boardTells", fn := fun _ => fun
  | [d1, d2, d3, d4, d5, d6, d7] => { results := [.lit (.bool true)], args := [d1, d2, d3, d4, d5, d6, d7] }
  | _ => none }
def boardTellsRow : OpenClaim := { program := "ytllkojpinpojiaa", sum := "cd2bdc0cf4ee41b57bf95d961143479f66abe74ad09e0550f38de0b688a75ef4", func := "rejoinder/rejoinderlaw22.BoardTells", spec := "boardTells", plainKeys := false, apart := false }
def BoardTellsSaid : Prop := boardTellsRow.holds Try.pinned (OpenSpec.ofChange boardTellsSpec)

/-- ITS FALSE NEIGHBOUR: 'it returns false'. Refute it at one input. -/
def boardTellsWrong : ChangeSpec := { name := "boardTells", fn := fun _ => fun
  | [d1, d2, d3, d4, d5, d6, d7] => { results := [.lit (.bool false)], args := [d1, d2, d3, d4, d5, d6, d7] }
  | _ => none }
def BoardTellsWrongFalsely : Prop := boardTellsRow.holds Try.pinned (OpenSpec.ofChange boardTellsWrong)

/-- 'rejoinderlaw22.BoardKnown': WHATEVER THE INPUT: true; the input reads as it did. -/
def boardKnownSpec : ChangeSpec := { name := "boardKnown", fn := fun _ => fun
  | [] => { results := [.lit (.bool true)], args := [] }
  | _ => none }
def boardKnownRow : OpenClaim := { program := "ytllkojpinpojiaa", sum := "cd2bdc0cf4ee41b57bf95d961143479f66abe74ad09e0550f38de0b688a75ef4", func := "rejoinder/rejoinderlaw22.BoardKnown", spec := "boardKnown", plainKeys := false, apart := false }
def BoardKnownSaid : Prop := boardKnownRow.holds Try.pinned (OpenSpec.ofChange boardKnownSpec)

/-- ITS FALSE NEIGHBOUR: 'it returns false'. Refute it at one input. -/
def boardKnownWrong : ChangeSpec := { name := "boardKnown", fn := fun _ => fun
  | [] => { results := [.lit (.bool false)], args := [] }
  | _ => none }
def BoardKnownWrongFalsely : Prop := boardKnownRow.holds Try.pinned (OpenSpec.ofChange boardKnownWrong)

/- THE SECOND FORM. 'bulk': how many values and letters a reading holds, each counted each time it is reached (what is shared counts as often as it is met; a slice's spare places count too). A statement '..UptoSaid' is the law's where the arguments, and the package variables that the reading takes, are together of bulk at most 1048576: NARROWER than '..Said'. Prove '..Said' where nothing that the law and all that it calls make is longer than what came in: it says more and counts as full. Else prove '..UptoSaid'. A law counts once. -/
mutual
def uptoBulk {H : Type} : DataW H → Nat
  | .lit (.string bytes) => bytes.length + 1
  | .lit _ => 1
  | .nil => 1
  | .ptr d => uptoBulk d + 1
  | .slice elems spare => uptoBulkAll elems + uptoBulkAll spare + 1
  | .agg parts => uptoBulkAll parts + 1
  | .iface _ d => uptoBulk d + 1
  | .map entries => uptoBulkEntries entries + 1
  | .held _ => 1
def uptoBulkAll {H : Type} : List (DataW H) → Nat
  | [] => 0
  | d :: r => uptoBulk d + uptoBulkAll r
def uptoBulkEntries {H : Type} : List (Lit × DataW H) → Nat
  | [] => 0
  | x :: r => uptoBulkEntry x + uptoBulkEntries r
def uptoBulkEntry {H : Type} : Lit × DataW H → Nat
  | (.string bytes, d) => bytes.length + uptoBulk d + 1
  | (_, d) => uptoBulk d + 1
 end
def uptoSmall : (H : Type) → List (DataW H) → Bool := fun _ ds => decide (uptoBulkAll ds ≤ 1048576)
def OpenSpec.upto (s : _root_.Go.ChangeSpec) : _root_.Go.OpenSpec := { _root_.Go.OpenSpec.ofChange s with cond := some uptoSmall }

/-- 'rejoinderlaw22.BoardGoes', WHERE WHAT IT READS IS OF BULK AT MOST 1048576: true; the input reads as it did. -/
def boardGoesUptoRow : OpenClaim := { program := "ytllkojpinpojiaa", sum := "cd2bdc0cf4ee41b57bf95d961143479f66abe74ad09e0550f38de0b688a75ef4", func := "rejoinder/rejoinderlaw22.BoardGoes", spec := "boardGoes", plainKeys := false, apart := false, narrowed := true }
def BoardGoesUptoSaid : Prop := boardGoesUptoRow.holds Try.pinned (OpenSpec.upto boardGoesSpec)

/-- 'rejoinderlaw22.BoardMoves', WHERE WHAT IT READS IS OF BULK AT MOST 1048576: true; the input reads as it did. -/
def boardMovesUptoRow : OpenClaim := { program := "ytllkojpinpojiaa", sum := "cd2bdc0cf4ee41b57bf95d961143479f66abe74ad09e0550f38de0b688a75ef4", func := "rejoinder/rejoinderlaw22.BoardMoves", spec := "boardMoves", plainKeys := false, apart := false, narrowed := true }
def BoardMovesUptoSaid : Prop := boardMovesUptoRow.holds Try.pinned (OpenSpec.upto boardMovesSpec)

/-- 'rejoinderlaw22.BoardTells', WHERE WHAT IT READS IS OF BULK AT MOST 1048576: true; the input reads as it did. -/
def boardTellsUptoRow : OpenClaim := { program := "ytllkojpinpojiaa", sum := "cd2bdc0cf4ee41b57bf95d961143479f66abe74ad09e0550f38de0b688a75ef4", func := "rejoinder/rejoinderlaw22.BoardTells", spec := "boardTells", plainKeys := false, apart := false, narrowed := true }
def BoardTellsUptoSaid : Prop := boardTellsUptoRow.holds Try.pinned (OpenSpec.upto boardTellsSpec)

/-- 'rejoinderlaw22.BoardKnown', WHERE WHAT IT READS IS OF BULK AT MOST 1048576: true; the input reads as it did. -/
def boardKnownUptoRow : OpenClaim := { program := "ytllkojpinpojiaa", sum := "cd2bdc0cf4ee41b57bf95d961143479f66abe74ad09e0550f38de0b688a75ef4", func := "rejoinder/rejoinderlaw22.BoardKnown", spec := "boardKnown", plainKeys := false, apart := false, narrowed := true }
def BoardKnownUptoSaid : Prop := boardKnownUptoRow.holds Try.pinned (OpenSpec.upto boardKnownSpec)

end Rows
end Go.Proofs.Ytllkojpinpojiaa
