/-
  No cell of these rows narrows 'for every input' (looked for: loops, veiled, ifaces, maps, wideKeys, modest, calm, conditions, laid).
  DERIVED. THE GIVEN ROWS OF THIS SEAT. 4 by the template 'for every input the law returns true; each argument reads behind the call as it read before'; 0 by the template 'total and deterministic' (their statements: YtclijiacfmljlaaTotals.lean).
  GIVEN WITH THE SEED: the statements are not yours to turn. If you find one false, say at which input.
  Laid BY PROGRAM, IN A SANDBOX (cutbox-rows.mjs): the forced cells as the released guide's own fill.sh prints them over the translation d37bb678de38f316… (all of the seat's roots in one cut). By AI agents, Wed Nov 11 2026. No macro, syntax, notation, axiom, sorry.
-/
import Derived.Test.YtclijiacfmljlaaChecked
import GoSem.Claim
import GoSem.ClaimJoined
import GoSem.ClaimMapViews
import Derived.JoinedTies
import Derived.KernelRfl
namespace Go.Proofs.Ytclijiacfmljlaa
/- THE CELL 'sum', in the pinned program and in every row, IS THE sha256 OF THE DUMP (.gsa) THAT YtclijiacfmljlaaProg.lean LOADS. Nothing in Lean hashes anything: it is a label: what it is worth is what the hold of that sum in a sandbox is worth. -/
noncomputable def Try.pinned : Pinned := { name := "ytclijiacfmljlaa", sum := "d37bb678de38f3168c911f1cc6a9f0eb94c57912a8c80606a881f9c0bcd1b5b5", checked := Try.checked }
namespace Rows
def none {H : Type} : Left H := { results := [], args := [] }

/-- 'rejoinderlaw24.StratTells': WHATEVER THE INPUT: true; the input reads as it did. -/
def stratTellsSpec : ChangeSpec := { name := "stratTells", fn := fun _ => fun
  | [d1, d2, d3, d4] => { results := [.lit (.bool true)], args := [d1, d2, d3, d4] }
  | _ => none }
def stratTellsRow : OpenClaim := { program := "ytclijiacfmljlaa", sum := "d37bb678de38f3168c911f1cc6a9f0eb94c57912a8c80606a881f9c0bcd1b5b5", func := "rejoinder/rejoinderlaw24.StratTells", spec := "stratTells", unfollowed := true, recurses := true, plainKeys := false, apart := false }
def StratTellsSaid : Prop := stratTellsRow.holds Try.pinned (OpenSpec.ofChange stratTellsSpec)

/-- ITS FALSE NEIGHBOUR: 'it returns false'. Refute it at one input. -/
def stratTellsWrong : ChangeSpec := { name := "stratTells", fn := fun _ => fun
  | [d1, d2, d3, d4] => { results := [.lit (.bool false)], args := [d1, d2, d3, d4] }
  | _ => none }
def StratTellsWrongFalsely : Prop := stratTellsRow.holds Try.pinned (OpenSpec.ofChange stratTellsWrong)

/-- 'rejoinderlaw24.StratWins': WHATEVER THE INPUT: true; the input reads as it did. -/
def stratWinsSpec : ChangeSpec := { name := "stratWins", fn := fun _ => fun
  | [d1, d2, d3] => { results := [.lit (.bool true)], args := [d1, d2, d3] }
  | _ => none }
def stratWinsRow : OpenClaim := { program := "ytclijiacfmljlaa", sum := "d37bb678de38f3168c911f1cc6a9f0eb94c57912a8c80606a881f9c0bcd1b5b5", func := "rejoinder/rejoinderlaw24.StratWins", spec := "stratWins", unfollowed := true, recurses := true, plainKeys := false, apart := false }
def StratWinsSaid : Prop := stratWinsRow.holds Try.pinned (OpenSpec.ofChange stratWinsSpec)

/-- ITS FALSE NEIGHBOUR: 'it returns false'. Refute it at one input. -/
def stratWinsWrong : ChangeSpec := { name := "stratWins", fn := fun _ => fun
  | [d1, d2, d3] => { results := [.lit (.bool false)], args := [d1, d2, d3] }
  | _ => none }
def StratWinsWrongFalsely : Prop := stratWinsRow.holds Try.pinned (OpenSpec.ofChange stratWinsWrong)

/-- 'rejoinderlaw24.StratKeeps': WHATEVER THE INPUT: true; the input reads as it did. -/
def stratKeepsSpec : ChangeSpec := { name := "stratKeeps", fn := fun _ => fun
  | [d1, d2, d3, d4] => { results := [.lit (.bool true)], args := [d1, d2, d3, d4] }
  | _ => none }
def stratKeepsRow : OpenClaim := { program := "ytclijiacfmljlaa", sum := "d37bb678de38f3168c911f1cc6a9f0eb94c57912a8c80606a881f9c0bcd1b5b5", func := "rejoinder/rejoinderlaw24.StratKeeps", spec := "stratKeeps", unfollowed := true, recurses := true, plainKeys := false, apart := false }
def StratKeepsSaid : Prop := stratKeepsRow.holds Try.pinned (OpenSpec.ofChange stratKeepsSpec)

/-- ITS FALSE NEIGHBOUR: 'it returns false'. Refute it at one input. -/
def stratKeepsWrong : ChangeSpec := { name := "stratKeeps", fn := fun _ => fun
  | [d1, d2, d3, d4] => { results := [.lit (.bool false)], args := [d1, d2, d3, d4] }
  | _ => none }
def StratKeepsWrongFalsely : Prop := stratKeepsRow.holds Try.pinned (OpenSpec.ofChange stratKeepsWrong)

/-- 'rejoinderlaw24.StratKnown': WHATEVER THE INPUT: true; the input reads as it did. -/
def stratKnownSpec : ChangeSpec := { name := "stratKnown", fn := fun _ => fun
  | [] => { results := [.lit (.bool true)], args := [] }
  | _ => none }
def stratKnownRow : OpenClaim := { program := "ytclijiacfmljlaa", sum := "d37bb678de38f3168c911f1cc6a9f0eb94c57912a8c80606a881f9c0bcd1b5b5", func := "rejoinder/rejoinderlaw24.StratKnown", spec := "stratKnown", unfollowed := true, recurses := true, plainKeys := false, apart := false }
def StratKnownSaid : Prop := stratKnownRow.holds Try.pinned (OpenSpec.ofChange stratKnownSpec)

/-- ITS FALSE NEIGHBOUR: 'it returns false'. Refute it at one input. -/
def stratKnownWrong : ChangeSpec := { name := "stratKnown", fn := fun _ => fun
  | [] => { results := [.lit (.bool false)], args := [] }
  | _ => none }
def StratKnownWrongFalsely : Prop := stratKnownRow.holds Try.pinned (OpenSpec.ofChange stratKnownWrong)

/- THE SECOND FORM. 'bulk': how many values and letters a reading holds, each counted each time it is reached (what is shared counts as often as it is met; a slice's spare places count too). A statement '..UptoSaid' is the law's where the arguments, and the package variables that the reading takes, are together of bulk at most 1048576: NARROWER than '..Said'. Prove '..Said' where nothing that the law and all that it calls make is longer than what came in: it says more and counts as full. Else prove '..UptoSaid'. A law counts once. -/
mutual
def uptoBulk {H : Type} : DataW H → Nat
  | .lit (.string bytes) => bytes.length + 1
  | .lit _ => 1
  | .nil => 1
  | .ptr d => uptoBulk d + 1
  | .slice elems spare => uptoBulkAll elems + uptoBulkAll spare + 1
  | .agg parts => uptoBulkAll parts + 1
  | .iface _ d => uptoBulk d + 1
  | .map entries => uptoBulkEntries entries + 1
  | .held _ => 1
def uptoBulkAll {H : Type} : List (DataW H) → Nat
  | [] => 0
  | d :: r => uptoBulk d + uptoBulkAll r
def uptoBulkEntries {H : Type} : List (Lit × DataW H) → Nat
  | [] => 0
  | x :: r => uptoBulkEntry x + uptoBulkEntries r
def uptoBulkEntry {H : Type} : Lit × DataW H → Nat
  | (.string bytes, d) => bytes.length + uptoBulk d + 1
  | (_, d) => uptoBulk d + 1
 end
def uptoSmall : (H : Type) → List (DataW H) → Bool := fun _ ds => decide (uptoBulkAll ds ≤ 1048576)
def OpenSpec.upto (s : _root_.Go.ChangeSpec) : _root_.Go.OpenSpec := { _root_.Go.OpenSpec.ofChange s with cond := some uptoSmall }

/-- 'rejoinderlaw24.StratTells', WHERE WHAT IT READS IS OF BULK AT MOST 1048576: true; the input reads as it did. -/
def stratTellsUptoRow : OpenClaim := { program := "ytclijiacfmljlaa", sum := "d37bb678de38f3168c911f1cc6a9f0eb94c57912a8c80606a881f9c0bcd1b5b5", func := "rejoinder/rejoinderlaw24.StratTells", spec := "stratTells", unfollowed := true, recurses := true, plainKeys := false, apart := false, narrowed := true }
def StratTellsUptoSaid : Prop := stratTellsUptoRow.holds Try.pinned (OpenSpec.upto stratTellsSpec)

/-- 'rejoinderlaw24.StratWins', WHERE WHAT IT READS IS OF BULK AT MOST 1048576: true; the input reads as it did. -/
def stratWinsUptoRow : OpenClaim := { program := "ytclijiacfmljlaa", sum := "d37bb678de38f3168c911f1cc6a9f0eb94c57912a8c80606a881f9c0bcd1b5b5", func := "rejoinder/rejoinderlaw24.StratWins", spec := "stratWins", unfollowed := true, recurses := true, plainKeys := false, apart := false, narrowed := true }
def StratWinsUptoSaid : Prop := stratWinsUptoRow.holds Try.pinned (OpenSpec.upto stratWinsSpec)

/-- 'rejoinderlaw24.StratKeeps', WHERE WHAT IT READS IS OF BULK AT MOST 1048576: true; the input reads as it did. -/
def stratKeepsUptoRow : OpenClaim := { program := "ytclijiacfmljlaa", sum := "d37bb678de38f3168c911f1cc6a9f0eb94c57912a8c80606a881f9c0bcd1b5b5", func := "rejoinder/rejoinderlaw24.StratKeeps", spec := "stratKeeps", unfollowed := true, recurses := true, plainKeys := false, apart := false, narrowed := true }
def StratKeepsUptoSaid : Prop := stratKeepsUptoRow.holds Try.pinned (OpenSpec.upto stratKeepsSpec)

/-- 'rejoinderlaw24.StratKnown', WHERE WHAT IT READS IS OF BULK AT MOST 1048576: true; the input reads as it did. -/
def stratKnownUptoRow : OpenClaim := { program := "ytclijiacfmljlaa", sum := "d37bb678de38f3168c911f1cc6a9f0eb94c57912a8c80606a881f9c0bcd1b5b5", func := "rejoinder/rejoinderlaw24.StratKnown", spec := "stratKnown", unfollowed := true, recurses := true, plainKeys := false, apart := false, narrowed := true }
def StratKnownUptoSaid : Prop := stratKnownUptoRow.holds Try.pinned (OpenSpec.upto stratKnownSpec)

end Rows
end Go.Proofs.Ytclijiacfmljlaa
