/-
  No cell of these rows narrows 'for every input' (looked for: loops, veiled, ifaces, maps, wideKeys, modest, calm, conditions, laid).
  DERIVED. THE GIVEN ROWS OF THIS SEAT. 5 by the template 'for every input the law returns true; each argument reads behind the call as it read before'; 0 by the template 'total and deterministic' (their statements: YthlbijcgnekcbaaTotals.lean).
  GIVEN WITH THE SEED: the statements are not yours to turn. If you find one false, say at which input.
  Laid BY PROGRAM, IN A SANDBOX (cutbox-rows.mjs): the forced cells as the released guide's own fill.sh prints them over the translation 3078059d03208bb5… (all of the seat's roots in one cut). By AI agents, Wed Nov 11 2026. No macro, syntax, notation, axiom, sorry.
-/
import Derived.Test.YthlbijcgnekcbaaChecked
import GoSem.Claim
import GoSem.ClaimJoined
import GoSem.ClaimMapViews
import Derived.JoinedTies
import Derived.KernelRfl
namespace Go.Proofs.Ythlbijcgnekcbaa
/- THE CELL 'sum', in the pinned program and in every row, IS THE sha256 OF THE DUMP (.gsa) THAT YthlbijcgnekcbaaProg.lean LOADS. Nothing in Lean hashes anything: it is a label: what it is worth is what the hold of that sum in a sandbox is worth. -/
noncomputable def Try.pinned : Pinned := { name := "ythlbijcgnekcbaa", sum := "3078059d03208bb572cd99759cc77bd41e78c3aed3a4cb45f7cec7f55b03ada2", checked := Try.checked }
namespace Rows
def none {H : Type} : Left H := { results := [], args := [] }

/-- 'rejoinderlaw14.GuardGoes': WHATEVER THE INPUT: true; the input reads as it did. -/
def guardGoesSpec : ChangeSpec := { name := "guardGoes", fn := fun _ => fun
  | [d1, d2, d3, d4] => { results := [.lit (.bool true)], args := [d1, d2, d3, d4] }
  | _ => none }
def guardGoesRow : OpenClaim := { program := "ythlbijcgnekcbaa", sum := "3078059d03208bb572cd99759cc77bd41e78c3aed3a4cb45f7cec7f55b03ada2", func := "rejoinder/rejoinderlaw14.GuardGoes", spec := "guardGoes", plainKeys := false, apart := false }
def GuardGoesSaid : Prop := guardGoesRow.holds Try.pinned (OpenSpec.ofChange guardGoesSpec)

/-- ITS FALSE NEIGHBOUR: 'it returns false'. Refute it at one input. -/
def guardGoesWrong : ChangeSpec := { name := "guardGoes", fn := fun _ => fun
  | [d1, d2, d3, d4] => { results := [.lit (.bool false)], args := [d1, d2, d3, d4] }
  | _ => none }
def GuardGoesWrongFalsely : Prop := guardGoesRow.holds Try.pinned (OpenSpec.ofChange guardGoesWrong)

/-- 'rejoinderlaw14.GuardNil': WHATEVER THE INPUT: true; the input reads as it did. -/
def guardNilSpec : ChangeSpec := { name := "guardNil", fn := fun _ => fun
  | [d] => { results := [.lit (.bool true)], args := [d] }
  | _ => none }
def guardNilRow : OpenClaim := { program := "ythlbijcgnekcbaa", sum := "3078059d03208bb572cd99759cc77bd41e78c3aed3a4cb45f7cec7f55b03ada2", func := "rejoinder/rejoinderlaw14.GuardNil", spec := "guardNil", unfollowed := true, recurses := true, plainKeys := false, apart := false }
def GuardNilSaid : Prop := guardNilRow.holds Try.pinned (OpenSpec.ofChange guardNilSpec)

/-- ITS FALSE NEIGHBOUR: 'it returns false'. Refute it at one input. -/
def guardNilWrong : ChangeSpec := { name := "guardNil", fn := fun _ => fun
  | [d] => { results := [.lit (.bool false)], args := [d] }
  | _ => none }
def GuardNilWrongFalsely : Prop := guardNilRow.holds Try.pinned (OpenSpec.ofChange guardNilWrong)

/-- 'rejoinderlaw14.GuardStore': WHATEVER THE INPUT: true; the input reads as it did. -/
def guardStoreSpec : ChangeSpec := { name := "guardStore", fn := fun _ => fun
  | [d1, d2] => { results := [.lit (.bool true)], args := [d1, d2] }
  | _ => none }
def guardStoreRow : OpenClaim := { program := "ythlbijcgnekcbaa", sum := "3078059d03208bb572cd99759cc77bd41e78c3aed3a4cb45f7cec7f55b03ada2", func := "rejoinder/rejoinderlaw14.GuardStore", spec := "guardStore", unfollowed := true, recurses := true, plainKeys := false, apart := false }
def GuardStoreSaid : Prop := guardStoreRow.holds Try.pinned (OpenSpec.ofChange guardStoreSpec)

/-- ITS FALSE NEIGHBOUR: 'it returns false'. Refute it at one input. -/
def guardStoreWrong : ChangeSpec := { name := "guardStore", fn := fun _ => fun
  | [d1, d2] => { results := [.lit (.bool false)], args := [d1, d2] }
  | _ => none }
def GuardStoreWrongFalsely : Prop := guardStoreRow.holds Try.pinned (OpenSpec.ofChange guardStoreWrong)

/-- 'rejoinderlaw14.GuardBack': WHATEVER THE INPUT: true; the input reads as it did. -/
def guardBackSpec : ChangeSpec := { name := "guardBack", fn := fun _ => fun
  | [d1, d2] => { results := [.lit (.bool true)], args := [d1, d2] }
  | _ => none }
def guardBackRow : OpenClaim := { program := "ythlbijcgnekcbaa", sum := "3078059d03208bb572cd99759cc77bd41e78c3aed3a4cb45f7cec7f55b03ada2", func := "rejoinder/rejoinderlaw14.GuardBack", spec := "guardBack", unfollowed := true, recurses := true, plainKeys := false, apart := false }
def GuardBackSaid : Prop := guardBackRow.holds Try.pinned (OpenSpec.ofChange guardBackSpec)

/-- ITS FALSE NEIGHBOUR: 'it returns false'. Refute it at one input. -/
def guardBackWrong : ChangeSpec := { name := "guardBack", fn := fun _ => fun
  | [d1, d2] => { results := [.lit (.bool false)], args := [d1, d2] }
  | _ => none }
def GuardBackWrongFalsely : Prop := guardBackRow.holds Try.pinned (OpenSpec.ofChange guardBackWrong)

/-- 'rejoinderlaw14.GuardKnown': WHATEVER THE INPUT: true; the input reads as it did. -/
def guardKnownSpec : ChangeSpec := { name := "guardKnown", fn := fun _ => fun
  | [] => { results := [.lit (.bool true)], args := [] }
  | _ => none }
def guardKnownRow : OpenClaim := { program := "ythlbijcgnekcbaa", sum := "3078059d03208bb572cd99759cc77bd41e78c3aed3a4cb45f7cec7f55b03ada2", func := "rejoinder/rejoinderlaw14.GuardKnown", spec := "guardKnown", unfollowed := true, recurses := true, plainKeys := false, apart := false }
def GuardKnownSaid : Prop := guardKnownRow.holds Try.pinned (OpenSpec.ofChange guardKnownSpec)

/-- ITS FALSE NEIGHBOUR: 'it returns false'. Refute it at one input. -/
def guardKnownWrong : ChangeSpec := { name := "guardKnown", fn := fun _ => fun
  | [] => { results := [.lit (.bool false)], args := [] }
  | _ => none }
def GuardKnownWrongFalsely : Prop := guardKnownRow.holds Try.pinned (OpenSpec.ofChange guardKnownWrong)

/- THE SECOND FORM. 'bulk': how many values and letters a reading holds, each counted each time it is reached (what is shared counts as often as it is met; a slice's spare places count too). A statement '..UptoSaid' is the law's where the arguments, and the package variables that the reading takes, are together of bulk at most 1048576: NARROWER than '..Said'. Prove '..Said' where nothing that the law and all that it calls make is longer than what came in: it says more and counts as full. Else prove '..UptoSaid'. A law counts once. -/
mutual
def uptoBulk {H : Type} : DataW H → Nat
  | .lit (.string bytes) => bytes.length + 1
  | .lit _ => 1
  | .nil => 1
  | .ptr d => uptoBulk d + 1
  | .slice elems spare => uptoBulkAll elems + uptoBulkAll spare + 1
  | .agg parts => uptoBulkAll parts + 1
  | .iface _ d => uptoBulk d + 1
  | .map entries => uptoBulkEntries entries + 1
  | .held _ => 1
def uptoBulkAll {H : Type} : List (DataW H) → Nat
  | [] => 0
  | d :: r => uptoBulk d + uptoBulkAll r
def uptoBulkEntries {H : Type} : List (Lit × DataW H) → Nat
  | [] => 0
  | x :: r => uptoBulkEntry x + uptoBulkEntries r
def uptoBulkEntry {H : Type} : Lit × DataW H → Nat
  | (.string bytes, d) => bytes.length + uptoBulk d + 1
  | (_, d) => uptoBulk d + 1
 end
def uptoSmall : (H : Type) → List (DataW H) → Bool := fun _ ds => decide (uptoBulkAll ds ≤ 1048576)
def OpenSpec.upto (s : _root_.Go.ChangeSpec) : _root_.Go.OpenSpec := { _root_.Go.OpenSpec.ofChange s with cond := some uptoSmall }

/-- 'rejoinderlaw14.GuardGoes', WHERE WHAT IT READS IS OF BULK AT MOST 1048576: true; the input reads as it did. -/
def guardGoesUptoRow : OpenClaim := { program := "ythlbijcgnekcbaa", sum := "3078059d03208bb572cd99759cc77bd41e78c3aed3a4cb45f7cec7f55b03ada2", func := "rejoinder/rejoinderlaw14.GuardGoes", spec := "guardGoes", plainKeys := false, apart := false, narrowed := true }
def GuardGoesUptoSaid : Prop := guardGoesUptoRow.holds Try.pinned (OpenSpec.upto guardGoesSpec)

/-- 'rejoinderlaw14.GuardNil', WHERE WHAT IT READS IS OF BULK AT MOST 1048576: true; the input reads as it did. -/
def guardNilUptoRow : OpenClaim := { program := "ythlbijcgnekcbaa", sum := "3078059d03208bb572cd99759cc77bd41e78c3aed3a4cb45f7cec7f55b03ada2", func := "rejoinder/rejoinderlaw14.GuardNil", spec := "guardNil", unfollowed := true, recurses := true, plainKeys := false, apart := false, narrowed := true }
def GuardNilUptoSaid : Prop := guardNilUptoRow.holds Try.pinned (OpenSpec.upto guardNilSpec)

/-- 'rejoinderlaw14.GuardStore', WHERE WHAT IT READS IS OF BULK AT MOST 1048576: true; the input reads as it did. -/
def guardStoreUptoRow : OpenClaim := { program := "ythlbijcgnekcbaa", sum := "3078059d03208bb572cd99759cc77bd41e78c3aed3a4cb45f7cec7f55b03ada2", func := "rejoinder/rejoinderlaw14.GuardStore", spec := "guardStore", unfollowed := true, recurses := true, plainKeys := false, apart := false, narrowed := true }
def GuardStoreUptoSaid : Prop := guardStoreUptoRow.holds Try.pinned (OpenSpec.upto guardStoreSpec)

/-- 'rejoinderlaw14.GuardBack', WHERE WHAT IT READS IS OF BULK AT MOST 1048576: true; the input reads as it did. -/
def guardBackUptoRow : OpenClaim := { program := "ythlbijcgnekcbaa", sum := "3078059d03208bb572cd99759cc77bd41e78c3aed3a4cb45f7cec7f55b03ada2", func := "rejoinder/rejoinderlaw14.GuardBack", spec := "guardBack", unfollowed := true, recurses := true, plainKeys := false, apart := false, narrowed := true }
def GuardBackUptoSaid : Prop := guardBackUptoRow.holds Try.pinned (OpenSpec.upto guardBackSpec)

/-- 'rejoinderlaw14.GuardKnown', WHERE WHAT IT READS IS OF BULK AT MOST 1048576: true; the input reads as it did. -/
def guardKnownUptoRow : OpenClaim := { program := "ythlbijcgnekcbaa", sum := "3078059d03208bb572cd99759cc77bd41e78c3aed3a4cb45f7cec7f55b03ada2", func := "rejoinder/rejoinderlaw14.GuardKnown", spec := "guardKnown", unfollowed := true, recurses := true, plainKeys := false, apart := false, narrowed := true }
def GuardKnownUptoSaid : Prop := guardKnownUptoRow.holds Try.pinned (OpenSpec.upto guardKnownSpec)

end Rows
end Go.Proofs.Ythlbijcgnekcbaa
