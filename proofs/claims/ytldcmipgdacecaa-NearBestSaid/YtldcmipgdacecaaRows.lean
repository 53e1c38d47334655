/-
  No cell of these rows narrows 'for every input' (looked for: loops, veiled, ifaces, maps, wideKeys, modest, calm, conditions, laid).
  DERIVED. THE GIVEN ROWS OF THIS SEAT. 5 by the template 'for every input the law returns true; each argument reads behind the call as it read before'; 0 by the template 'total and deterministic' (their statements: YtldcmipgdacecaaTotals.lean).
  GIVEN WITH THE SEED: the statements are not yours to turn. If you find one false, say at which input.
  Laid BY PROGRAM, IN A SANDBOX (cutbox-rows.mjs): the forced cells as the released guide's own fill.sh prints them over the translation 1fc176dad1f2ae07… (all of the seat's roots in one cut). By AI agents, Wed Nov 11 2026. No macro, syntax, notation, axiom, sorry.
-/
import Derived.Test.YtldcmipgdacecaaChecked
import GoSem.Claim
import GoSem.ClaimJoined
import GoSem.ClaimMapViews
import Derived.JoinedTies
import Derived.KernelRfl
namespace Go.Proofs.Ytldcmipgdacecaa
/- THE CELL 'sum', in the pinned program and in every row, IS THE sha256 OF THE DUMP (.gsa) THAT YtldcmipgdacecaaProg.lean LOADS. Nothing in Lean hashes anything: it is a label: what it is worth is what the hold of that sum in a sandbox is worth. -/
noncomputable def Try.pinned : Pinned := { name := "ytldcmipgdacecaa", sum := "1fc176dad1f2ae07394e2d2de753c62d578ea91832233f6f2a1a804d83822d65", checked := Try.checked }
namespace Rows
def none {H : Type} : Left H := { results := [], args := [] }

/-- 'rejoinderlaw28.NearFar': WHATEVER THE INPUT: true; the input reads as it did. -/
def nearFarSpec : ChangeSpec := { name := "nearFar", fn := fun _ => fun
  | [d1, d2] => { results := [.lit (.bool true)], args := [d1, d2] }
  | _ => none }
def nearFarRow : OpenClaim := { program := "ytldcmipgdacecaa", sum := "1fc176dad1f2ae07394e2d2de753c62d578ea91832233f6f2a1a804d83822d65", func := "rejoinder/rejoinderlaw28.NearFar", spec := "nearFar", plainKeys := false, apart := false }
def NearFarSaid : Prop := nearFarRow.holds Try.pinned (OpenSpec.ofChange nearFarSpec)

/-- ITS FALSE NEIGHBOUR: 'it returns false'. Refute it at one input. -/
def nearFarWrong : ChangeSpec := { name := "nearFar", fn := fun _ => fun
  | [d1, d2] => { results := [.lit (.bool false)], args := [d1, d2] }
  | _ => none }
def NearFarWrongFalsely : Prop := nearFarRow.holds Try.pinned (OpenSpec.ofChange nearFarWrong)

/-- 'rejoinderlaw28.NearTells': WHATEVER THE INPUT: true; the input reads as it did. -/
def nearTellsSpec : ChangeSpec := { name := "nearTells", fn := fun _ => fun
  | [d1, d2] => { results := [.lit (.bool true)], args := [d1, d2] }
  | _ => none }
def nearTellsRow : OpenClaim := { program := "ytldcmipgdacecaa", sum := "1fc176dad1f2ae07394e2d2de753c62d578ea91832233f6f2a1a804d83822d65", func := "rejoinder/rejoinderlaw28.NearTells", spec := "nearTells", plainKeys := false, apart := false }
def NearTellsSaid : Prop := nearTellsRow.holds Try.pinned (OpenSpec.ofChange nearTellsSpec)

/-- ITS FALSE NEIGHBOUR: 'it returns false'. Refute it at one input. -/
def nearTellsWrong : ChangeSpec := { name := "nearTells", fn := fun _ => fun
  | [d1, d2] => { results := [.lit (.bool false)], args := [d1, d2] }
  | _ => none }
def NearTellsWrongFalsely : Prop := nearTellsRow.holds Try.pinned (OpenSpec.ofChange nearTellsWrong)

/-- 'rejoinderlaw28.NearWays': WHATEVER THE INPUT: true; the input reads as it did. -/
def nearWaysSpec : ChangeSpec := { name := "nearWays", fn := fun _ => fun
  | [d1, d2, d3] => { results := [.lit (.bool true)], args := [d1, d2, d3] }
  | _ => none }
def nearWaysRow : OpenClaim := { program := "ytldcmipgdacecaa", sum := "1fc176dad1f2ae07394e2d2de753c62d578ea91832233f6f2a1a804d83822d65", func := "rejoinder/rejoinderlaw28.NearWays", spec := "nearWays", plainKeys := false, apart := false }
def NearWaysSaid : Prop := nearWaysRow.holds Try.pinned (OpenSpec.ofChange nearWaysSpec)

/-- ITS FALSE NEIGHBOUR: 'it returns false'. Refute it at one input. -/
def nearWaysWrong : ChangeSpec := { name := "nearWays", fn := fun _ => fun
  | [d1, d2, d3] => { results := [.lit (.bool false)], args := [d1, d2, d3] }
  | _ => none }
def NearWaysWrongFalsely : Prop := nearWaysRow.holds Try.pinned (OpenSpec.ofChange nearWaysWrong)

/-- 'rejoinderlaw28.NearKnown': WHATEVER THE INPUT: true; the input reads as it did. -/
def nearKnownSpec : ChangeSpec := { name := "nearKnown", fn := fun _ => fun
  | [] => { results := [.lit (.bool true)], args := [] }
  | _ => none }
def nearKnownRow : OpenClaim := { program := "ytldcmipgdacecaa", sum := "1fc176dad1f2ae07394e2d2de753c62d578ea91832233f6f2a1a804d83822d65", func := "rejoinder/rejoinderlaw28.NearKnown", spec := "nearKnown", plainKeys := false, apart := false }
def NearKnownSaid : Prop := nearKnownRow.holds Try.pinned (OpenSpec.ofChange nearKnownSpec)

/-- ITS FALSE NEIGHBOUR: 'it returns false'. Refute it at one input. -/
def nearKnownWrong : ChangeSpec := { name := "nearKnown", fn := fun _ => fun
  | [] => { results := [.lit (.bool false)], args := [] }
  | _ => none }
def NearKnownWrongFalsely : Prop := nearKnownRow.holds Try.pinned (OpenSpec.ofChange nearKnownWrong)

/-- 'rejoinderlaw28.NearBest': WHATEVER THE INPUT: true; the input reads as it did. -/
def nearBestSpec : ChangeSpec := { name := "nearBest", fn := fun _ => fun
  | [d1, d2, d3] => { results := [.lit (.bool true)], args := [d1, d2, d3] }
  | _ => none }
def nearBestRow : OpenClaim := { program := "ytldcmipgdacecaa", sum := "1fc176dad1f2ae07394e2d2de753c62d578ea91832233f6f2a1a804d83822d65", func := "rejoinder/rejoinderlaw28.NearBest", spec := "nearBest", plainKeys := false, apart := false }
def NearBestSaid : Prop := nearBestRow.holds Try.pinned (OpenSpec.ofChange nearBestSpec)

/-- ITS FALSE NEIGHBOUR: 'it returns false'. Refute it at one input. -/
def nearBestWrong : ChangeSpec := { name := "nearBest", fn := fun _ => fun
  | [d1, d2, d3] => { results := [.lit (.bool false)], args := [d1, d2, d3] }
  | _ => none }
def NearBestWrongFalsely : Prop := nearBestRow.holds Try.pinned (OpenSpec.ofChange nearBestWrong)

/- THE SECOND FORM. 'bulk': how many values and letters a reading holds, each counted each time it is reached (what is shared counts as often as it is met; a slice's spare places count too). A statement '..UptoSaid' is the law's where the arguments, and the package variables that the reading takes, are together of bulk at most 1048576: NARROWER than '..Said'. Prove '..Said' where nothing that the law and all that it calls make is longer than what came in: it says more and counts as full. Else prove '..UptoSaid'. A law counts once. -/
mutual
def uptoBulk {H : Type} : DataW H → Nat
  | .lit (.string bytes) => bytes.length + 1
  | .lit _ => 1
  | .nil => 1
  | .ptr d => uptoBulk d + 1
  | .slice elems spare => uptoBulkAll elems + uptoBulkAll spare + 1
  | .agg parts => uptoBulkAll parts + 1
  | .iface _ d => uptoBulk d + 1
  | .map entries => uptoBulkEntries entries + 1
  | .held _ => 1
def uptoBulkAll {H : Type} : List (DataW H) → Nat
  | [] => 0
  | d :: r => uptoBulk d + uptoBulkAll r
def uptoBulkEntries {H : Type} : List (Lit × DataW H) → Nat
  | [] => 0
  | x :: r => uptoBulkEntry x + uptoBulkEntries r
def uptoBulkEntry {H : Type} : Lit × DataW H → Nat
  | (.string bytes, d) => bytes.length + uptoBulk d + 1
  | (_, d) => uptoBulk d + 1
 end
def uptoSmall : (H : Type) → List (DataW H) → Bool := fun _ ds => decide (uptoBulkAll ds ≤ 1048576)
def OpenSpec.upto (s : _root_.Go.ChangeSpec) : _root_.Go.OpenSpec := { _root_.Go.OpenSpec.ofChange s with cond := some uptoSmall }

/-- 'rejoinderlaw28.NearFar', WHERE WHAT IT READS IS OF BULK AT MOST 1048576: true; the input reads as it did. -/
def nearFarUptoRow : OpenClaim := { program := "ytldcmipgdacecaa", sum := "1fc176dad1f2ae07394e2d2de753c62d578ea91832233f6f2a1a804d83822d65", func := "rejoinder/rejoinderlaw28.NearFar", spec := "nearFar", plainKeys := false, apart := false, narrowed := true }
def NearFarUptoSaid : Prop := nearFarUptoRow.holds Try.pinned (OpenSpec.upto nearFarSpec)

/-- 'rejoinderlaw28.NearTells', WHERE WHAT IT READS IS OF BULK AT MOST 1048576: true; the input reads as it did. -/
def nearTellsUptoRow : OpenClaim := { program := "ytldcmipgdacecaa", sum := "1fc176dad1f2ae07394e2d2de753c62d578ea91832233f6f2a1a804d83822d65", func := "rejoinder/rejoinderlaw28.NearTells", spec := "nearTells", plainKeys := false, apart := false, narrowed := true }
def NearTellsUptoSaid : Prop := nearTellsUptoRow.holds Try.pinned (OpenSpec.upto nearTellsSpec)

/-- 'rejoinderlaw28.NearWays', WHERE WHAT IT READS IS OF BULK AT MOST 1048576: true; the input reads as it did. -/
def nearWaysUptoRow : OpenClaim := { program := "ytldcmipgdacecaa", sum := "1fc176dad1f2ae07394e2d2de753c62d578ea91832233f6f2a1a804d83822d65", func := "rejoinder/rejoinderlaw28.NearWays", spec := "nearWays", plainKeys := false, apart := false, narrowed := true }
def NearWaysUptoSaid : Prop := nearWaysUptoRow.holds Try.pinned (OpenSpec.upto nearWaysSpec)

/-- 'rejoinderlaw28.NearKnown', WHERE WHAT IT READS IS OF BULK AT MOST 1048576: true; the input reads as it did. -/
def nearKnownUptoRow : OpenClaim := { program := "ytldcmipgdacecaa", sum := "1fc176dad1f2ae07394e2d2de753c62d578ea91832233f6f2a1a804d83822d65", func := "rejoinder/rejoinderlaw28.NearKnown", spec := "nearKnown", plainKeys := false, apart := false, narrowed := true }
def NearKnownUptoSaid : Prop := nearKnownUptoRow.holds Try.pinned (OpenSpec.upto nearKnownSpec)

/-- 'rejoinderlaw28.NearBest', WHERE WHAT IT READS IS OF BULK AT MOST 1048576: true; the input reads as it did. -/
def nearBestUptoRow : OpenClaim := { program := "ytldcmipgdacecaa", sum := "1fc176dad1f2ae07394e2d2de753c62d578ea91832233f6f2a1a804d83822d65", func := "rejoinder/rejoinderlaw28.NearBest", spec := "nearBest", plainKeys := false, apart := false, narrowed := true }
def NearBestUptoSaid : Prop := nearBestUptoRow.holds Try.pinned (OpenSpec.upto nearBestSpec)

end Rows
end Go.Proofs.Ytldcmipgdacecaa
