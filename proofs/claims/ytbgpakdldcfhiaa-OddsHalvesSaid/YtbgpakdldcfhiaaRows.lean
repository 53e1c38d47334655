/-
  No cell of these rows narrows 'for every input' (looked for: loops, veiled, ifaces, maps, wideKeys, modest, calm, conditions, laid).
  DERIVED. THE GIVEN ROWS OF THIS SEAT. 4 by the template 'for every input the law returns true; each argument reads behind the call as it read before'; 0 by the template 'total and deterministic' (their statements: YtbgpakdldcfhiaaTotals.lean).
  GIVEN WITH THE SEED: the statements are not yours to turn. If you find one false, say at which input.
  Laid BY PROGRAM, IN A SANDBOX (cutbox-rows.mjs): the forced cells as the released guide's own fill.sh prints them over the translation 77371de83ca7d955… (all of the seat's roots in one cut). By AI agents, Wed Nov 11 2026. No macro, syntax, notation, axiom, sorry.
-/
import Derived.Test.YtbgpakdldcfhiaaChecked
import GoSem.Claim
import GoSem.ClaimJoined
import GoSem.ClaimMapViews
import Derived.JoinedTies
import Derived.KernelRfl
namespace Go.Proofs.Ytbgpakdldcfhiaa
/- THE CELL 'sum', in the pinned program and in every row, IS THE sha256 OF THE DUMP (.gsa) THAT YtbgpakdldcfhiaaProg.lean LOADS. Nothing in Lean hashes anything: it is a label: what it is worth is what the hold of that sum in a sandbox is worth. -/
noncomputable def Try.pinned : Pinned := { name := "ytbgpakdldcfhiaa", sum := "77371de83ca7d9550744016502bd94de89ea9536ad6d52b86f1c9dd1afd66a15", checked := Try.checked }
namespace Rows
def none {H : Type} : Left H := { results := [], args := [] }

/-- 'rejoinderlaw27.OddsGrows': WHATEVER THE INPUT: true; the input reads as it did. -/
def oddsGrowsSpec : ChangeSpec := { name := "oddsGrows", fn := fun _ => fun
  | [d1, d2, d3] => { results := [.lit (.bool true)], args := [d1, d2, d3] }
  | _ => none }
def oddsGrowsRow : OpenClaim := { program := "ytbgpakdldcfhiaa", sum := "77371de83ca7d9550744016502bd94de89ea9536ad6d52b86f1c9dd1afd66a15", func := "rejoinder/rejoinderlaw27.OddsGrows", spec := "oddsGrows", inPlace := ["math.Float64frombits", "math.Float64bits"], plainKeys := false, apart := false }
def OddsGrowsSaid : Prop := oddsGrowsRow.holds Try.pinned (OpenSpec.ofChange oddsGrowsSpec)

/-- ITS FALSE NEIGHBOUR: 'it returns false'. Refute it at one input. -/
def oddsGrowsWrong : ChangeSpec := { name := "oddsGrows", fn := fun _ => fun
  | [d1, d2, d3] => { results := [.lit (.bool false)], args := [d1, d2, d3] }
  | _ => none }
def OddsGrowsWrongFalsely : Prop := oddsGrowsRow.holds Try.pinned (OpenSpec.ofChange oddsGrowsWrong)

/-- 'rejoinderlaw27.OddsKnown': WHATEVER THE INPUT: true; the input reads as it did. -/
def oddsKnownSpec : ChangeSpec := { name := "oddsKnown", fn := fun _ => fun
  | [] => { results := [.lit (.bool true)], args := [] }
  | _ => none }
def oddsKnownRow : OpenClaim := { program := "ytbgpakdldcfhiaa", sum := "77371de83ca7d9550744016502bd94de89ea9536ad6d52b86f1c9dd1afd66a15", func := "rejoinder/rejoinderlaw27.OddsKnown", spec := "oddsKnown", inPlace := ["math.Float64bits"], plainKeys := false, apart := false }
def OddsKnownSaid : Prop := oddsKnownRow.holds Try.pinned (OpenSpec.ofChange oddsKnownSpec)

/-- ITS FALSE NEIGHBOUR: 'it returns false'. Refute it at one input. -/
def oddsKnownWrong : ChangeSpec := { name := "oddsKnown", fn := fun _ => fun
  | [] => { results := [.lit (.bool false)], args := [] }
  | _ => none }
def OddsKnownWrongFalsely : Prop := oddsKnownRow.holds Try.pinned (OpenSpec.ofChange oddsKnownWrong)

/-- 'rejoinderlaw27.OddsSure': WHATEVER THE INPUT: true; the input reads as it did. -/
def oddsSureSpec : ChangeSpec := { name := "oddsSure", fn := fun _ => fun
  | [d1, d2, d3] => { results := [.lit (.bool true)], args := [d1, d2, d3] }
  | _ => none }
def oddsSureRow : OpenClaim := { program := "ytbgpakdldcfhiaa", sum := "77371de83ca7d9550744016502bd94de89ea9536ad6d52b86f1c9dd1afd66a15", func := "rejoinder/rejoinderlaw27.OddsSure", spec := "oddsSure", plainKeys := false, apart := false }
def OddsSureSaid : Prop := oddsSureRow.holds Try.pinned (OpenSpec.ofChange oddsSureSpec)

/-- ITS FALSE NEIGHBOUR: 'it returns false'. Refute it at one input. -/
def oddsSureWrong : ChangeSpec := { name := "oddsSure", fn := fun _ => fun
  | [d1, d2, d3] => { results := [.lit (.bool false)], args := [d1, d2, d3] }
  | _ => none }
def OddsSureWrongFalsely : Prop := oddsSureRow.holds Try.pinned (OpenSpec.ofChange oddsSureWrong)

/-- 'rejoinderlaw27.OddsHalves': WHATEVER THE INPUT: true; the input reads as it did. -/
def oddsHalvesSpec : ChangeSpec := { name := "oddsHalves", fn := fun _ => fun
  | [d1, d2] => { results := [.lit (.bool true)], args := [d1, d2] }
  | _ => none }
def oddsHalvesRow : OpenClaim := { program := "ytbgpakdldcfhiaa", sum := "77371de83ca7d9550744016502bd94de89ea9536ad6d52b86f1c9dd1afd66a15", func := "rejoinder/rejoinderlaw27.OddsHalves", spec := "oddsHalves", inPlace := ["math/bits.Add64", "math.Float64bits"], plainKeys := false, apart := false }
def OddsHalvesSaid : Prop := oddsHalvesRow.holds Try.pinned (OpenSpec.ofChange oddsHalvesSpec)

/-- ITS FALSE NEIGHBOUR: 'it returns false'. Refute it at one input. -/
def oddsHalvesWrong : ChangeSpec := { name := "oddsHalves", fn := fun _ => fun
  | [d1, d2] => { results := [.lit (.bool false)], args := [d1, d2] }
  | _ => none }
def OddsHalvesWrongFalsely : Prop := oddsHalvesRow.holds Try.pinned (OpenSpec.ofChange oddsHalvesWrong)

/- THE SECOND FORM. 'bulk': how many values and letters a reading holds, each counted each time it is reached (what is shared counts as often as it is met; a slice's spare places count too). A statement '..UptoSaid' is the law's where the arguments, and the package variables that the reading takes, are together of bulk at most 1048576: NARROWER than '..Said'. Prove '..Said' where nothing that the law and all that it calls make is longer than what came in: it says more and counts as full. Else prove '..UptoSaid'. A law counts once. -/
mutual
def uptoBulk {H : Type} : DataW H → Nat
  | .lit (.string bytes) => bytes.length + 1
  | .lit _ => 1
  | .nil => 1
  | .ptr d => uptoBulk d + 1
  | .slice elems spare => uptoBulkAll elems + uptoBulkAll spare + 1
  | .agg parts => uptoBulkAll parts + 1
  | .iface _ d => uptoBulk d + 1
  | .map entries => uptoBulkEntries entries + 1
  | .held _ => 1
def uptoBulkAll {H : Type} : List (DataW H) → Nat
  | [] => 0
  | d :: r => uptoBulk d + uptoBulkAll r
def uptoBulkEntries {H : Type} : List (Lit × DataW H) → Nat
  | [] => 0
  | x :: r => uptoBulkEntry x + uptoBulkEntries r
def uptoBulkEntry {H : Type} : Lit × DataW H → Nat
  | (.string bytes, d) => bytes.length + uptoBulk d + 1
  | (_, d) => uptoBulk d + 1
 end
def uptoSmall : (H : Type) → List (DataW H) → Bool := fun _ ds => decide (uptoBulkAll ds ≤ 1048576)
def OpenSpec.upto (s : _root_.Go.ChangeSpec) : _root_.Go.OpenSpec := { _root_.Go.OpenSpec.ofChange s with cond := some uptoSmall }

/-- 'rejoinderlaw27.OddsGrows', WHERE WHAT IT READS IS OF BULK AT MOST 1048576: true; the input reads as it did. -/
def oddsGrowsUptoRow : OpenClaim := { program := "ytbgpakdldcfhiaa", sum := "77371de83ca7d9550744016502bd94de89ea9536ad6d52b86f1c9dd1afd66a15", func := "rejoinder/rejoinderlaw27.OddsGrows", spec := "oddsGrows", inPlace := ["math.Float64frombits", "math.Float64bits"], plainKeys := false, apart := false, narrowed := true }
def OddsGrowsUptoSaid : Prop := oddsGrowsUptoRow.holds Try.pinned (OpenSpec.upto oddsGrowsSpec)

/-- 'rejoinderlaw27.OddsKnown', WHERE WHAT IT READS IS OF BULK AT MOST 1048576: true; the input reads as it did. -/
def oddsKnownUptoRow : OpenClaim := { program := "ytbgpakdldcfhiaa", sum := "77371de83ca7d9550744016502bd94de89ea9536ad6d52b86f1c9dd1afd66a15", func := "rejoinder/rejoinderlaw27.OddsKnown", spec := "oddsKnown", inPlace := ["math.Float64bits"], plainKeys := false, apart := false, narrowed := true }
def OddsKnownUptoSaid : Prop := oddsKnownUptoRow.holds Try.pinned (OpenSpec.upto oddsKnownSpec)

/-- 'rejoinderlaw27.OddsSure', WHERE WHAT IT READS IS OF BULK AT MOST 1048576: true; the input reads as it did. -/
def oddsSureUptoRow : OpenClaim := { program := "ytbgpakdldcfhiaa", sum := "77371de83ca7d9550744016502bd94de89ea9536ad6d52b86f1c9dd1afd66a15", func := "rejoinder/rejoinderlaw27.OddsSure", spec := "oddsSure", plainKeys := false, apart := false, narrowed := true }
def OddsSureUptoSaid : Prop := oddsSureUptoRow.holds Try.pinned (OpenSpec.upto oddsSureSpec)

/-- 'rejoinderlaw27.OddsHalves', WHERE WHAT IT READS IS OF BULK AT MOST 1048576: true; the input reads as it did. -/
def oddsHalvesUptoRow : OpenClaim := { program := "ytbgpakdldcfhiaa", sum := "77371de83ca7d9550744016502bd94de89ea9536ad6d52b86f1c9dd1afd66a15", func := "rejoinder/rejoinderlaw27.OddsHalves", spec := "oddsHalves", inPlace := ["math/bits.Add64", "math.Float64bits"], plainKeys := false, apart := false, narrowed := true }
def OddsHalvesUptoSaid : Prop := oddsHalvesUptoRow.holds Try.pinned (OpenSpec.upto oddsHalvesSpec)

end Rows
end Go.Proofs.Ytbgpakdldcfhiaa
