/-
  No cell of these rows narrows 'for every input' (looked for: loops, veiled, ifaces, maps, wideKeys, modest, calm, conditions, laid).
  DERIVED. THE GIVEN ROWS OF THIS SEAT. 6 by the template 'for every input the law returns true; each argument reads behind the call as it read before'; 0 by the template 'total and deterministic' (their statements: YtljkomkejdngcaaTotals.lean).
  GIVEN WITH THE SEED: the statements are not yours to turn. If you find one false, say at which input.
  Laid BY PROGRAM, IN A SANDBOX (cutbox-rows.mjs): the forced cells as the released guide's own fill.sh prints them over the translation bf95eae1422ebf7f… (all of the seat's roots in one cut). By AI agents, Wed Nov 11 2026. No macro, syntax, notation, axiom, sorry.
-/
import Derived.Test.YtljkomkejdngcaaChecked
import GoSem.Claim
import GoSem.ClaimJoined
import GoSem.ClaimMapViews
import Derived.JoinedTies
import Derived.KernelRfl
namespace Go.Proofs.Ytljkomkejdngcaa
/- THE CELL 'sum', in the pinned program and in every row, IS THE sha256 OF THE DUMP (.gsa) THAT YtljkomkejdngcaaProg.lean LOADS. Nothing in Lean hashes anything: it is a label: what it is worth is what the hold of that sum in a sandbox is worth. -/
noncomputable def Try.pinned : Pinned := { name := "ytljkomkejdngcaa", sum := "bf95eae1422ebf7fb9a0683bd9095983fe69f5a95ba65f7ea91b365faca346cb", checked := Try.checked }
namespace Rows
def none {H : Type} : Left H := { results := [], args := [] }

/-- 'rejoinderlaw21.WatchNil': WHATEVER THE INPUT: true; the input reads as it did. -/
def watchNilSpec : ChangeSpec := { name := "watchNil", fn := fun _ => fun
  | [d] => { results := [.lit (.bool true)], args := [d] }
  | _ => none }
def watchNilRow : OpenClaim := { program := "ytljkomkejdngcaa", sum := "bf95eae1422ebf7fb9a0683bd9095983fe69f5a95ba65f7ea91b365faca346cb", func := "rejoinder/rejoinderlaw21.WatchNil", spec := "watchNil", plainKeys := false, apart := false }
def WatchNilSaid : Prop := watchNilRow.holds Try.pinned (OpenSpec.ofChange watchNilSpec)

/-- ITS FALSE NEIGHBOUR: 'it returns false'. Refute it at one input. -/
def watchNilWrong : ChangeSpec := { name := "watchNil", fn := fun _ => fun
  | [d] => { results := [.lit (.bool false)], args := [d] }
  | _ => none }
def WatchNilWrongFalsely : Prop := watchNilRow.holds Try.pinned (OpenSpec.ofChange watchNilWrong)

/-- 'rejoinderlaw21.WatchTells': WHATEVER THE INPUT: true; the input reads as it did. -/
def watchTellsSpec : ChangeSpec := { name := "watchTells", fn := fun _ => fun
  | [d1, d2] => { results := [.lit (.bool true)], args := [d1, d2] }
  | _ => none }
def watchTellsRow : OpenClaim := { program := "ytljkomkejdngcaa", sum := "bf95eae1422ebf7fb9a0683bd9095983fe69f5a95ba65f7ea91b365faca346cb", func := "rejoinder/rejoinderlaw21.WatchTells", spec := "watchTells", plainKeys := false, apart := false }
def WatchTellsSaid : Prop := watchTellsRow.holds Try.pinned (OpenSpec.ofChange watchTellsSpec)

/-- ITS FALSE NEIGHBOUR: 'it returns false'. Refute it at one input. -/
def watchTellsWrong : ChangeSpec := { name := "watchTells", fn := fun _ => fun
  | [d1, d2] => { results := [.lit (.bool false)], args := [d1, d2] }
  | _ => none }
def WatchTellsWrongFalsely : Prop := watchTellsRow.holds Try.pinned (OpenSpec.ofChange watchTellsWrong)

/-- 'rejoinderlaw21.WatchScript': WHATEVER THE INPUT: true; the input reads as it did. -/
def watchScriptSpec : ChangeSpec := { name := "watchScript", fn := fun _ => fun
  | [d1, d2] => { results := [.lit (.bool true)], args := [d1, d2] }
  | _ => none }
def watchScriptRow : OpenClaim := { program := "ytljkomkejdngcaa", sum := "bf95eae1422ebf7fb9a0683bd9095983fe69f5a95ba65f7ea91b365faca346cb", func := "rejoinder/rejoinderlaw21.WatchScript", spec := "watchScript", plainKeys := false, apart := false }
def WatchScriptSaid : Prop := watchScriptRow.holds Try.pinned (OpenSpec.ofChange watchScriptSpec)

/-- ITS FALSE NEIGHBOUR: 'it returns false'. Refute it at one input. -/
def watchScriptWrong : ChangeSpec := { name := "watchScript", fn := fun _ => fun
  | [d1, d2] => { results := [.lit (.bool false)], args := [d1, d2] }
  | _ => none }
def WatchScriptWrongFalsely : Prop := watchScriptRow.holds Try.pinned (OpenSpec.ofChange watchScriptWrong)

/-- 'rejoinderlaw21.WatchNear': WHATEVER THE INPUT: true; the input reads as it did. -/
def watchNearSpec : ChangeSpec := { name := "watchNear", fn := fun _ => fun
  | [d1, d2] => { results := [.lit (.bool true)], args := [d1, d2] }
  | _ => none }
def watchNearRow : OpenClaim := { program := "ytljkomkejdngcaa", sum := "bf95eae1422ebf7fb9a0683bd9095983fe69f5a95ba65f7ea91b365faca346cb", func := "rejoinder/rejoinderlaw21.WatchNear", spec := "watchNear", plainKeys := false, apart := false }
def WatchNearSaid : Prop := watchNearRow.holds Try.pinned (OpenSpec.ofChange watchNearSpec)

/-- ITS FALSE NEIGHBOUR: 'it returns false'. Refute it at one input. -/
def watchNearWrong : ChangeSpec := { name := "watchNear", fn := fun _ => fun
  | [d1, d2] => { results := [.lit (.bool false)], args := [d1, d2] }
  | _ => none }
def WatchNearWrongFalsely : Prop := watchNearRow.holds Try.pinned (OpenSpec.ofChange watchNearWrong)

/-- 'rejoinderlaw21.WatchKnown': WHATEVER THE INPUT: true; the input reads as it did. -/
def watchKnownSpec : ChangeSpec := { name := "watchKnown", fn := fun _ => fun
  | [] => { results := [.lit (.bool true)], args := [] }
  | _ => none }
def watchKnownRow : OpenClaim := { program := "ytljkomkejdngcaa", sum := "bf95eae1422ebf7fb9a0683bd9095983fe69f5a95ba65f7ea91b365faca346cb", func := "rejoinder/rejoinderlaw21.WatchKnown", spec := "watchKnown", plainKeys := false, apart := false }
def WatchKnownSaid : Prop := watchKnownRow.holds Try.pinned (OpenSpec.ofChange watchKnownSpec)

/-- ITS FALSE NEIGHBOUR: 'it returns false'. Refute it at one input. -/
def watchKnownWrong : ChangeSpec := { name := "watchKnown", fn := fun _ => fun
  | [] => { results := [.lit (.bool false)], args := [] }
  | _ => none }
def WatchKnownWrongFalsely : Prop := watchKnownRow.holds Try.pinned (OpenSpec.ofChange watchKnownWrong)

/-- 'rejoinderlaw21.WatchTrue': WHATEVER THE INPUT: true; the input reads as it did. -/
def watchTrueSpec : ChangeSpec := { name := "watchTrue", fn := fun _ => fun
  | [d1, d2] => { results := [.lit (.bool true)], args := [d1, d2] }
  | _ => none }
def watchTrueRow : OpenClaim := { program := "ytljkomkejdngcaa", sum := "bf95eae1422ebf7fb9a0683bd9095983fe69f5a95ba65f7ea91b365faca346cb", func := "rejoinder/rejoinderlaw21.WatchTrue", spec := "watchTrue", plainKeys := false, apart := false }
def WatchTrueSaid : Prop := watchTrueRow.holds Try.pinned (OpenSpec.ofChange watchTrueSpec)

/-- ITS FALSE NEIGHBOUR: 'it returns false'. Refute it at one input. -/
def watchTrueWrong : ChangeSpec := { name := "watchTrue", fn := fun _ => fun
  | [d1, d2] => { results := [.lit (.bool false)], args := [d1, d2] }
  | _ => none }
def WatchTrueWrongFalsely : Prop := watchTrueRow.holds Try.pinned (OpenSpec.ofChange watchTrueWrong)

/- THE SECOND FORM. 'bulk': how many values and letters a reading holds, each counted each time it is reached (what is shared counts as often as it is met; a slice's spare places count too). A statement '..UptoSaid' is the law's where the arguments, and the package variables that the reading takes, are together of bulk at most 1048576: NARROWER than '..Said'. Prove '..Said' where nothing that the law and all that it calls make is longer than what came in: it says more and counts as full. Else prove '..UptoSaid'. A law counts once. -/
mutual
def uptoBulk {H : Type} : DataW H → Nat
  | .lit (.string bytes) => bytes.length + 1
  | .lit _ => 1
  | .nil => 1
  | .ptr d => uptoBulk d + 1
  | .slice elems spare => uptoBulkAll elems + uptoBulkAll spare + 1
  | .agg parts => uptoBulkAll parts + 1
  | .iface _ d => uptoBulk d + 1
  | .map entries => uptoBulkEntries entries + 1
  | .held _ => 1
def uptoBulkAll {H : Type} : List (DataW H) → Nat
  | [] => 0
  | d :: r => uptoBulk d + uptoBulkAll r
def uptoBulkEntries {H : Type} : List (Lit × DataW H) → Nat
  | [] => 0
  | x :: r => uptoBulkEntry x + uptoBulkEntries r
def uptoBulkEntry {H : Type} : Lit × DataW H → Nat
  | (.string bytes, d) => bytes.length + uptoBulk d + 1
  | (_, d) => uptoBulk d + 1
 end
def uptoSmall : (H : Type) → List (DataW H) → Bool := fun _ ds => decide (uptoBulkAll ds ≤ 1048576)
def OpenSpec.upto (s : _root_.Go.ChangeSpec) : _root_.Go.OpenSpec := { _root_.Go.OpenSpec.ofChange s with cond := some uptoSmall }

/-- 'rejoinderlaw21.WatchNil', WHERE WHAT IT READS IS OF BULK AT MOST 1048576: true; the input reads as it did. -/
def watchNilUptoRow : OpenClaim := { program := "ytljkomkejdngcaa", sum := "bf95eae1422ebf7fb9a0683bd9095983fe69f5a95ba65f7ea91b365faca346cb", func := "rejoinder/rejoinderlaw21.WatchNil", spec := "watchNil", plainKeys := false, apart := false, narrowed := true }
def WatchNilUptoSaid : Prop := watchNilUptoRow.holds Try.pinned (OpenSpec.upto watchNilSpec)

/-- 'rejoinderlaw21.WatchTells', WHERE WHAT IT READS IS OF BULK AT MOST 1048576: true; the input reads as it did. -/
def watchTellsUptoRow : OpenClaim := { program := "ytljkomkejdngcaa", sum := "bf95eae1422ebf7fb9a0683bd9095983fe69f5a95ba65f7ea91b365faca346cb", func := "rejoinder/rejoinderlaw21.WatchTells", spec := "watchTells", plainKeys := false, apart := false, narrowed := true }
def WatchTellsUptoSaid : Prop := watchTellsUptoRow.holds Try.pinned (OpenSpec.upto watchTellsSpec)

/-- 'rejoinderlaw21.WatchScript', WHERE WHAT IT READS IS OF BULK AT MOST 1048576: true; the input reads as it did. -/
def watchScriptUptoRow : OpenClaim := { program := "ytljkomkejdngcaa", sum := "bf95eae1422ebf7fb9a0683bd9095983fe69f5a95ba65f7ea91b365faca346cb", func := "rejoinder/rejoinderlaw21.WatchScript", spec := "watchScript", plainKeys := false, apart := false, narrowed := true }
def WatchScriptUptoSaid : Prop := watchScriptUptoRow.holds Try.pinned (OpenSpec.upto watchScriptSpec)

/-- 'rejoinderlaw21.WatchNear', WHERE WHAT IT READS IS OF BULK AT MOST 1048576: true; the input reads as it did. -/
def watchNearUptoRow : OpenClaim := { program := "ytljkomkejdngcaa", sum := "bf95eae1422ebf7fb9a0683bd9095983fe69f5a95ba65f7ea91b365faca346cb", func := "rejoinder/rejoinderlaw21.WatchNear", spec := "watchNear", plainKeys := false, apart := false, narrowed := true }
def WatchNearUptoSaid : Prop := watchNearUptoRow.holds Try.pinned (OpenSpec.upto watchNearSpec)

/-- 'rejoinderlaw21.WatchKnown', WHERE WHAT IT READS IS OF BULK AT MOST 1048576: true; the input reads as it did. -/
def watchKnownUptoRow : OpenClaim := { program := "ytljkomkejdngcaa", sum := "bf95eae1422ebf7fb9a0683bd9095983fe69f5a95ba65f7ea91b365faca346cb", func := "rejoinder/rejoinderlaw21.WatchKnown", spec := "watchKnown", plainKeys := false, apart := false, narrowed := true }
def WatchKnownUptoSaid : Prop := watchKnownUptoRow.holds Try.pinned (OpenSpec.upto watchKnownSpec)

/-- 'rejoinderlaw21.WatchTrue', WHERE WHAT IT READS IS OF BULK AT MOST 1048576: true; the input reads as it did. -/
def watchTrueUptoRow : OpenClaim := { program := "ytljkomkejdngcaa", sum := "bf95eae1422ebf7fb9a0683bd9095983fe69f5a95ba65f7ea91b365faca346cb", func := "rejoinder/rejoinderlaw21.WatchTrue", spec := "watchTrue", plainKeys := false, apart := false, narrowed := true }
def WatchTrueUptoSaid : Prop := watchTrueUptoRow.holds Try.pinned (OpenSpec.upto watchTrueSpec)

end Rows
end Go.Proofs.Ytljkomkejdngcaa
