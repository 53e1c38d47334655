/-
  No cell of these rows narrows 'for every input' (looked for: loops, veiled, ifaces, maps, wideKeys, modest, calm, conditions, laid).
  DERIVED. THE GIVEN ROWS OF THIS SEAT. 5 by the template 'for every input the law returns true; each argument reads behind the call as it read before'; 0 by the template 'total and deterministic' (their statements: YtihindpnnbllkaaTotals.lean).
  GIVEN WITH THE SEED: the statements are not yours to turn. If you find one false, say at which input.
  Laid BY PROGRAM, IN A SANDBOX (cutbox-rows.mjs): the forced cells as the released guide's own fill.sh prints them over the translation e2974c2d8b6f0137… (all of the seat's roots in one cut). By AI agents, Wed Nov 11 2026. No macro, syntax, notation, axiom, sorry.
-/
import Derived.Test.YtihindpnnbllkaaChecked
import GoSem.Claim
import GoSem.ClaimJoined
import GoSem.ClaimMapViews
import Derived.JoinedTies
import Derived.KernelRfl
namespace Go.Proofs.Ytihindpnnbllkaa
/- THE CELL 'sum', in the pinned program and in every row, IS THE sha256 OF THE DUMP (.gsa) THAT YtihindpnnbllkaaProg.lean LOADS. Nothing in Lean hashes anything: it is a label: what it is worth is what the hold of that sum in a sandbox is worth. -/
noncomputable def Try.pinned : Pinned := { name := "ytihindpnnbllkaa", sum := "e2974c2d8b6f01377dcf78f38ea0ec46daba2ed3d5faecb24da72e1b01d12034", checked := Try.checked }
namespace Rows
def none {H : Type} : Left H := { results := [], args := [] }

/-- 'rejoinderlaw20.BothPuts': WHATEVER THE INPUT: true; the input reads as it did. -/
def bothPutsSpec : ChangeSpec := { name := "bothPuts", fn := fun _ => fun
  | [d1, d2] => { results := [.lit (.bool true)], args := [d1, d2] }
  | _ => none }
def bothPutsRow : OpenClaim := { program := "ytihindpnnbllkaa", sum := "e2974c2d8b6f01377dcf78f38ea0ec46daba2ed3d5faecb24da72e1b01d12034", func := "rejoinder/rejoinderlaw20.BothPuts", spec := "bothPuts", unfollowed := true, recurses := true, plainKeys := false, apart := false }
def BothPutsSaid : Prop := bothPutsRow.holds Try.pinned (OpenSpec.ofChange bothPutsSpec)

/-- ITS FALSE NEIGHBOUR: 'it returns false'. Refute it at one input. -/
def bothPutsWrong : ChangeSpec := { name := "bothPuts", fn := fun _ => fun
  | [d1, d2] => { results := [.lit (.bool false)], args := [d1, d2] }
  | _ => none }
def BothPutsWrongFalsely : Prop := bothPutsRow.holds Try.pinned (OpenSpec.ofChange bothPutsWrong)

/-- 'rejoinderlaw20.BothParts': WHATEVER THE INPUT: true; the input reads as it did. -/
def bothPartsSpec : ChangeSpec := { name := "bothParts", fn := fun _ => fun
  | [d1, d2] => { results := [.lit (.bool true)], args := [d1, d2] }
  | _ => none }
def bothPartsRow : OpenClaim := { program := "ytihindpnnbllkaa", sum := "e2974c2d8b6f01377dcf78f38ea0ec46daba2ed3d5faecb24da72e1b01d12034", func := "rejoinder/rejoinderlaw20.BothParts", spec := "bothParts", unfollowed := true, recurses := true, plainKeys := false, apart := false }
def BothPartsSaid : Prop := bothPartsRow.holds Try.pinned (OpenSpec.ofChange bothPartsSpec)

/-- ITS FALSE NEIGHBOUR: 'it returns false'. Refute it at one input. -/
def bothPartsWrong : ChangeSpec := { name := "bothParts", fn := fun _ => fun
  | [d1, d2] => { results := [.lit (.bool false)], args := [d1, d2] }
  | _ => none }
def BothPartsWrongFalsely : Prop := bothPartsRow.holds Try.pinned (OpenSpec.ofChange bothPartsWrong)

/-- 'rejoinderlaw20.BothKnown': WHATEVER THE INPUT: true; the input reads as it did. -/
def bothKnownSpec : ChangeSpec := { name := "bothKnown", fn := fun _ => fun
  | [] => { results := [.lit (.bool true)], args := [] }
  | _ => none }
def bothKnownRow : OpenClaim := { program := "ytihindpnnbllkaa", sum := "e2974c2d8b6f01377dcf78f38ea0ec46daba2ed3d5faecb24da72e1b01d12034", func := "rejoinder/rejoinderlaw20.BothKnown", spec := "bothKnown", unfollowed := true, recurses := true, plainKeys := false, apart := false }
def BothKnownSaid : Prop := bothKnownRow.holds Try.pinned (OpenSpec.ofChange bothKnownSpec)

/-- ITS FALSE NEIGHBOUR: 'it returns false'. Refute it at one input. -/
def bothKnownWrong : ChangeSpec := { name := "bothKnown", fn := fun _ => fun
  | [] => { results := [.lit (.bool false)], args := [] }
  | _ => none }
def BothKnownWrongFalsely : Prop := bothKnownRow.holds Try.pinned (OpenSpec.ofChange bothKnownWrong)

/-- 'rejoinderlaw20.BothLogic': WHATEVER THE INPUT: true; the input reads as it did. -/
def bothLogicSpec : ChangeSpec := { name := "bothLogic", fn := fun _ => fun
  | [d1, d2, d3] => { results := [.lit (.bool true)], args := [d1, d2, d3] }
  | _ => none }
def bothLogicRow : OpenClaim := { program := "ytihindpnnbllkaa", sum := "e2974c2d8b6f01377dcf78f38ea0ec46daba2ed3d5faecb24da72e1b01d12034", func := "rejoinder/rejoinderlaw20.BothLogic", spec := "bothLogic", unfollowed := true, recurses := true, plainKeys := false, apart := false }
def BothLogicSaid : Prop := bothLogicRow.holds Try.pinned (OpenSpec.ofChange bothLogicSpec)

/-- ITS FALSE NEIGHBOUR: 'it returns false'. Refute it at one input. -/
def bothLogicWrong : ChangeSpec := { name := "bothLogic", fn := fun _ => fun
  | [d1, d2, d3] => { results := [.lit (.bool false)], args := [d1, d2, d3] }
  | _ => none }
def BothLogicWrongFalsely : Prop := bothLogicRow.holds Try.pinned (OpenSpec.ofChange bothLogicWrong)

/-- 'rejoinderlaw20.BothShortest': WHATEVER THE INPUT: true; the input reads as it did. -/
def bothShortestSpec : ChangeSpec := { name := "bothShortest", fn := fun _ => fun
  | [d1, d2, d3] => { results := [.lit (.bool true)], args := [d1, d2, d3] }
  | _ => none }
def bothShortestRow : OpenClaim := { program := "ytihindpnnbllkaa", sum := "e2974c2d8b6f01377dcf78f38ea0ec46daba2ed3d5faecb24da72e1b01d12034", func := "rejoinder/rejoinderlaw20.BothShortest", spec := "bothShortest", unfollowed := true, recurses := true, plainKeys := false, apart := false }
def BothShortestSaid : Prop := bothShortestRow.holds Try.pinned (OpenSpec.ofChange bothShortestSpec)

/-- ITS FALSE NEIGHBOUR: 'it returns false'. Refute it at one input. -/
def bothShortestWrong : ChangeSpec := { name := "bothShortest", fn := fun _ => fun
  | [d1, d2, d3] => { results := [.lit (.bool false)], args := [d1, d2, d3] }
  | _ => none }
def BothShortestWrongFalsely : Prop := bothShortestRow.holds Try.pinned (OpenSpec.ofChange bothShortestWrong)

/- THE SECOND FORM. 'bulk': how many values and letters a reading holds, each counted each time it is reached (what is shared counts as often as it is met; a slice's spare places count too). A statement '..UptoSaid' is the law's where the arguments, and the package variables that the reading takes, are together of bulk at most 1048576: NARROWER than '..Said'. Prove '..Said' where nothing that the law and all that it calls make is longer than what came in: it says more and counts as full. Else prove '..UptoSaid'. A law counts once. -/
mutual
def uptoBulk {H : Type} : DataW H → Nat
  | .lit (.string bytes) => bytes.length + 1
  | .lit _ => 1
  | .nil => 1
  | .ptr d => uptoBulk d + 1
  | .slice elems spare => uptoBulkAll elems + uptoBulkAll spare + 1
  | .agg parts => uptoBulkAll parts + 1
  | .iface _ d => uptoBulk d + 1
  | .map entries => uptoBulkEntries entries + 1
  | .held _ => 1
def uptoBulkAll {H : Type} : List (DataW H) → Nat
  | [] => 0
  | d :: r => uptoBulk d + uptoBulkAll r
def uptoBulkEntries {H : Type} : List (Lit × DataW H) → Nat
  | [] => 0
  | x :: r => uptoBulkEntry x + uptoBulkEntries r
def uptoBulkEntry {H : Type} : Lit × DataW H → Nat
  | (.string bytes, d) => bytes.length + uptoBulk d + 1
  | (_, d) => uptoBulk d + 1
 end
def uptoSmall : (H : Type) → List (DataW H) → Bool := fun _ ds => decide (uptoBulkAll ds ≤ 1048576)
def OpenSpec.upto (s : _root_.Go.ChangeSpec) : _root_.Go.OpenSpec := { _root_.Go.OpenSpec.ofChange s with cond := some uptoSmall }

/-- 'rejoinderlaw20.BothPuts', WHERE WHAT IT READS IS OF BULK AT MOST 1048576: true; the input reads as it did. -/
def bothPutsUptoRow : OpenClaim := { program := "ytihindpnnbllkaa", sum := "e2974c2d8b6f01377dcf78f38ea0ec46daba2ed3d5faecb24da72e1b01d12034", func := "rejoinder/rejoinderlaw20.BothPuts", spec := "bothPuts", unfollowed := true, recurses := true, plainKeys := false, apart := false, narrowed := true }
def BothPutsUptoSaid : Prop := bothPutsUptoRow.holds Try.pinned (OpenSpec.upto bothPutsSpec)

/-- 'rejoinderlaw20.BothParts', WHERE WHAT IT READS IS OF BULK AT MOST 1048576: true; the input reads as it did. -/
def bothPartsUptoRow : OpenClaim := { program := "ytihindpnnbllkaa", sum := "e2974c2d8b6f01377dcf78f38ea0ec46daba2ed3d5faecb24da72e1b01d12034", func := "rejoinder/rejoinderlaw20.BothParts", spec := "bothParts", unfollowed := true, recurses := true, plainKeys := false, apart := false, narrowed := true }
def BothPartsUptoSaid : Prop := bothPartsUptoRow.holds Try.pinned (OpenSpec.upto bothPartsSpec)

/-- 'rejoinderlaw20.BothKnown', WHERE WHAT IT READS IS OF BULK AT MOST 1048576: true; the input reads as it did. -/
def bothKnownUptoRow : OpenClaim := { program := "ytihindpnnbllkaa", sum := "e2974c2d8b6f01377dcf78f38ea0ec46daba2ed3d5faecb24da72e1b01d12034", func := "rejoinder/rejoinderlaw20.BothKnown", spec := "bothKnown", unfollowed := true, recurses := true, plainKeys := false, apart := false, narrowed := true }
def BothKnownUptoSaid : Prop := bothKnownUptoRow.holds Try.pinned (OpenSpec.upto bothKnownSpec)

/-- 'rejoinderlaw20.BothLogic', WHERE WHAT IT READS IS OF BULK AT MOST 1048576: true; the input reads as it did. -/
def bothLogicUptoRow : OpenClaim := { program := "ytihindpnnbllkaa", sum := "e2974c2d8b6f01377dcf78f38ea0ec46daba2ed3d5faecb24da72e1b01d12034", func := "rejoinder/rejoinderlaw20.BothLogic", spec := "bothLogic", unfollowed := true, recurses := true, plainKeys := false, apart := false, narrowed := true }
def BothLogicUptoSaid : Prop := bothLogicUptoRow.holds Try.pinned (OpenSpec.upto bothLogicSpec)

/-- 'rejoinderlaw20.BothShortest', WHERE WHAT IT READS IS OF BULK AT MOST 1048576: true; the input reads as it did. -/
def bothShortestUptoRow : OpenClaim := { program := "ytihindpnnbllkaa", sum := "e2974c2d8b6f01377dcf78f38ea0ec46daba2ed3d5faecb24da72e1b01d12034", func := "rejoinder/rejoinderlaw20.BothShortest", spec := "bothShortest", unfollowed := true, recurses := true, plainKeys := false, apart := false, narrowed := true }
def BothShortestUptoSaid : Prop := bothShortestUptoRow.holds Try.pinned (OpenSpec.upto bothShortestSpec)

end Rows
end Go.Proofs.Ytihindpnnbllkaa
