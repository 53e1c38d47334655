/-
  No cell of these rows narrows 'for every input' (looked for: loops, veiled, ifaces, maps, wideKeys, modest, calm, conditions, laid).
  DERIVED. THE GIVEN ROWS OF THIS SEAT. 5 by the template 'for every input the law returns true; each argument reads behind the call as it read before'; 0 by the template 'total and deterministic' (their statements: YtckpjnoajnbmdaaTotals.lean).
  GIVEN WITH THE SEED: the statements are not yours to turn. If you find one false, say at which input.
  Laid BY PROGRAM, IN A SANDBOX (cutbox-rows.mjs): the forced cells as the released guide's own fill.sh prints them over the translation 6b4daea0b6cea86f… (all of the seat's roots in one cut). By AI agents, Wed Nov 11 2026. No macro, syntax, notation, axiom, sorry.
-/
import Derived.Test.YtckpjnoajnbmdaaChecked
import GoSem.Claim
import GoSem.ClaimJoined
import GoSem.ClaimMapViews
import Derived.JoinedTies
import Derived.KernelRfl
namespace Go.Proofs.Ytckpjnoajnbmdaa
/- THE CELL 'sum', in the pinned program and in every row, IS THE sha256 OF THE DUMP (.gsa) THAT YtckpjnoajnbmdaaProg.lean LOADS. Nothing in Lean hashes anything: it is a label: what it is worth is what the hold of that sum in a sandbox is worth. -/
noncomputable def Try.pinned : Pinned := { name := "ytckpjnoajnbmdaa", sum := "6b4daea0b6cea86fa1c29facf2a9515f266382de32ceb6369b6c7e26dcfed438", checked := Try.checked }
namespace Rows
def none {H : Type} : Left H := { results := [], args := [] }

/-- 'rejoinderlaw25.PlayScript': WHATEVER THE INPUT: true; the input reads as it did. -/
def playScriptSpec : ChangeSpec := { name := "playScript", fn := fun _ => fun
  | [d1, d2, d3, d4, d5] => { results := [.lit (.bool true)], args := [d1, d2, d3, d4, d5] }
  | _ => none }
def playScriptRow : OpenClaim := { program := "ytckpjnoajnbmdaa", sum := "6b4daea0b6cea86fa1c29facf2a9515f266382de32ceb6369b6c7e26dcfed438", func := "rejoinder/rejoinderlaw25.PlayScript", spec := "playScript", unfollowed := true, recurses := true, plainKeys := false, apart := false }
def PlayScriptSaid : Prop := playScriptRow.holds Try.pinned (OpenSpec.ofChange playScriptSpec)

/-- ITS FALSE NEIGHBOUR: 'it returns false'. Refute it at one input. -/
def playScriptWrong : ChangeSpec := { name := "playScript", fn := fun _ => fun
  | [d1, d2, d3, d4, d5] => { results := [.lit (.bool false)], args := [d1, d2, d3, d4, d5] }
  | _ => none }
def PlayScriptWrongFalsely : Prop := playScriptRow.holds Try.pinned (OpenSpec.ofChange playScriptWrong)

/-- 'rejoinderlaw25.PlayWins': WHATEVER THE INPUT: true; the input reads as it did. -/
def playWinsSpec : ChangeSpec := { name := "playWins", fn := fun _ => fun
  | [d1, d2, d3] => { results := [.lit (.bool true)], args := [d1, d2, d3] }
  | _ => none }
def playWinsRow : OpenClaim := { program := "ytckpjnoajnbmdaa", sum := "6b4daea0b6cea86fa1c29facf2a9515f266382de32ceb6369b6c7e26dcfed438", func := "rejoinder/rejoinderlaw25.PlayWins", spec := "playWins", unfollowed := true, recurses := true, plainKeys := false, apart := false }
def PlayWinsSaid : Prop := playWinsRow.holds Try.pinned (OpenSpec.ofChange playWinsSpec)

/-- ITS FALSE NEIGHBOUR: 'it returns false'. Refute it at one input. -/
def playWinsWrong : ChangeSpec := { name := "playWins", fn := fun _ => fun
  | [d1, d2, d3] => { results := [.lit (.bool false)], args := [d1, d2, d3] }
  | _ => none }
def PlayWinsWrongFalsely : Prop := playWinsRow.holds Try.pinned (OpenSpec.ofChange playWinsWrong)

/-- 'rejoinderlaw25.PlayBack': WHATEVER THE INPUT: true; the input reads as it did. -/
def playBackSpec : ChangeSpec := { name := "playBack", fn := fun _ => fun
  | [d1, d2, d3, d4] => { results := [.lit (.bool true)], args := [d1, d2, d3, d4] }
  | _ => none }
def playBackRow : OpenClaim := { program := "ytckpjnoajnbmdaa", sum := "6b4daea0b6cea86fa1c29facf2a9515f266382de32ceb6369b6c7e26dcfed438", func := "rejoinder/rejoinderlaw25.PlayBack", spec := "playBack", unfollowed := true, recurses := true, plainKeys := false, apart := false }
def PlayBackSaid : Prop := playBackRow.holds Try.pinned (OpenSpec.ofChange playBackSpec)

/-- ITS FALSE NEIGHBOUR: 'it returns false'. Refute it at one input. -/
def playBackWrong : ChangeSpec := { name := "playBack", fn := fun _ => fun
  | [d1, d2, d3, d4] => { results := [.lit (.bool false)], args := [d1, d2, d3, d4] }
  | _ => none }
def PlayBackWrongFalsely : Prop := playBackRow.holds Try.pinned (OpenSpec.ofChange playBackWrong)

/-- 'rejoinderlaw25.PlayNone': WHATEVER THE INPUT: true; the input reads as it did. -/
def playNoneSpec : ChangeSpec := { name := "playNone", fn := fun _ => fun
  | [d] => { results := [.lit (.bool true)], args := [d] }
  | _ => none }
def playNoneRow : OpenClaim := { program := "ytckpjnoajnbmdaa", sum := "6b4daea0b6cea86fa1c29facf2a9515f266382de32ceb6369b6c7e26dcfed438", func := "rejoinder/rejoinderlaw25.PlayNone", spec := "playNone", unfollowed := true, recurses := true, plainKeys := false, apart := false }
def PlayNoneSaid : Prop := playNoneRow.holds Try.pinned (OpenSpec.ofChange playNoneSpec)

/-- ITS FALSE NEIGHBOUR: 'it returns false'. Refute it at one input. -/
def playNoneWrong : ChangeSpec := { name := "playNone", fn := fun _ => fun
  | [d] => { results := [.lit (.bool false)], args := [d] }
  | _ => none }
def PlayNoneWrongFalsely : Prop := playNoneRow.holds Try.pinned (OpenSpec.ofChange playNoneWrong)

/-- 'rejoinderlaw25.PlayKnown': WHATEVER THE INPUT: true; the input reads as it did. -/
def playKnownSpec : ChangeSpec := { name := "playKnown", fn := fun _ => fun
  | [] => { results := [.lit (.bool true)], args := [] }
  | _ => none }
def playKnownRow : OpenClaim := { program := "ytckpjnoajnbmdaa", sum := "6b4daea0b6cea86fa1c29facf2a9515f266382de32ceb6369b6c7e26dcfed438", func := "rejoinder/rejoinderlaw25.PlayKnown", spec := "playKnown", unfollowed := true, recurses := true, plainKeys := false, apart := false }
def PlayKnownSaid : Prop := playKnownRow.holds Try.pinned (OpenSpec.ofChange playKnownSpec)

/-- ITS FALSE NEIGHBOUR: 'it returns false'. Refute it at one input. -/
def playKnownWrong : ChangeSpec := { name := "playKnown", fn := fun _ => fun
  | [] => { results := [.lit (.bool false)], args := [] }
  | _ => none }
def PlayKnownWrongFalsely : Prop := playKnownRow.holds Try.pinned (OpenSpec.ofChange playKnownWrong)

/- THE SECOND FORM. 'bulk': how many values and letters a reading holds, each counted each time it is reached (what is shared counts as often as it is met; a slice's spare places count too). A statement '..UptoSaid' is the law's where the arguments, and the package variables that the reading takes, are together of bulk at most 1048576: NARROWER than '..Said'. Prove '..Said' where nothing that the law and all that it calls make is longer than what came in: it says more and counts as full. Else prove '..UptoSaid'. A law counts once. -/
mutual
def uptoBulk {H : Type} : DataW H → Nat
  | .lit (.string bytes) => bytes.length + 1
  | .lit _ => 1
  | .nil => 1
  | .ptr d => uptoBulk d + 1
  | .slice elems spare => uptoBulkAll elems + uptoBulkAll spare + 1
  | .agg parts => uptoBulkAll parts + 1
  | .iface _ d => uptoBulk d + 1
  | .map entries => uptoBulkEntries entries + 1
  | .held _ => 1
def uptoBulkAll {H : Type} : List (DataW H) → Nat
  | [] => 0
  | d :: r => uptoBulk d + uptoBulkAll r
def uptoBulkEntries {H : Type} : List (Lit × DataW H) → Nat
  | [] => 0
  | x :: r => uptoBulkEntry x + uptoBulkEntries r
def uptoBulkEntry {H : Type} : Lit × DataW H → Nat
  | (.string bytes, d) => bytes.length + uptoBulk d + 1
  | (_, d) => uptoBulk d + 1
 end
def uptoSmall : (H : Type) → List (DataW H) → Bool := fun _ ds => decide (uptoBulkAll ds ≤ 1048576)
def OpenSpec.upto (s : _root_.Go.ChangeSpec) : _root_.Go.OpenSpec := { _root_.Go.OpenSpec.ofChange s with cond := some uptoSmall }

/-- 'rejoinderlaw25.PlayScript', WHERE WHAT IT READS IS OF BULK AT MOST 1048576: true; the input reads as it did. -/
def playScriptUptoRow : OpenClaim := { program := "ytckpjnoajnbmdaa", sum := "6b4daea0b6cea86fa1c29facf2a9515f266382de32ceb6369b6c7e26dcfed438", func := "rejoinder/rejoinderlaw25.PlayScript", spec := "playScript", unfollowed := true, recurses := true, plainKeys := false, apart := false, narrowed := true }
def PlayScriptUptoSaid : Prop := playScriptUptoRow.holds Try.pinned (OpenSpec.upto playScriptSpec)

/-- 'rejoinderlaw25.PlayWins', WHERE WHAT IT READS IS OF BULK AT MOST 1048576: true; the input reads as it did. -/
def playWinsUptoRow : OpenClaim := { program := "ytckpjnoajnbmdaa", sum := "6b4daea0b6cea86fa1c29facf2a9515f266382de32ceb6369b6c7e26dcfed438", func := "rejoinder/rejoinderlaw25.PlayWins", spec := "playWins", unfollowed := true, recurses := true, plainKeys := false, apart := false, narrowed := true }
def PlayWinsUptoSaid : Prop := playWinsUptoRow.holds Try.pinned (OpenSpec.upto playWinsSpec)

/-- 'rejoinderlaw25.PlayBack', WHERE WHAT IT READS IS OF BULK AT MOST 1048576: true; the input reads as it did. -/
def playBackUptoRow : OpenClaim := { program := "ytckpjnoajnbmdaa", sum := "6b4daea0b6cea86fa1c29facf2a9515f266382de32ceb6369b6c7e26dcfed438", func := "rejoinder/rejoinderlaw25.PlayBack", spec := "playBack", unfollowed := true, recurses := true, plainKeys := false, apart := false, narrowed := true }
def PlayBackUptoSaid : Prop := playBackUptoRow.holds Try.pinned (OpenSpec.upto playBackSpec)

/-- 'rejoinderlaw25.PlayNone', WHERE WHAT IT READS IS OF BULK AT MOST 1048576: true; the input reads as it did. -/
def playNoneUptoRow : OpenClaim := { program := "ytckpjnoajnbmdaa", sum := "6b4daea0b6cea86fa1c29facf2a9515f266382de32ceb6369b6c7e26dcfed438", func := "rejoinder/rejoinderlaw25.PlayNone", spec := "playNone", unfollowed := true, recurses := true, plainKeys := false, apart := false, narrowed := true }
def PlayNoneUptoSaid : Prop := playNoneUptoRow.holds Try.pinned (OpenSpec.upto playNoneSpec)

/-- 'rejoinderlaw25.PlayKnown', WHERE WHAT IT READS IS OF BULK AT MOST 1048576: true; the input reads as it did. -/
def playKnownUptoRow : OpenClaim := { program := "ytckpjnoajnbmdaa", sum := "6b4daea0b6cea86fa1c29facf2a9515f266382de32ceb6369b6c7e26dcfed438", func := "rejoinder/rejoinderlaw25.PlayKnown", spec := "playKnown", unfollowed := true, recurses := true, plainKeys := false, apart := false, narrowed := true }
def PlayKnownUptoSaid : Prop := playKnownUptoRow.holds Try.pinned (OpenSpec.upto playKnownSpec)

end Rows
end Go.Proofs.Ytckpjnoajnbmdaa
