/-
  No cell of these rows narrows 'for every input' (looked for: loops, veiled, ifaces, maps, wideKeys, modest, calm, conditions, laid).
  DERIVED. THE GIVEN ROWS OF THIS SEAT. 5 by the template 'for every input the law returns true; each argument reads behind the call as it read before'; 0 by the template 'total and deterministic' (their statements: YtflangjkfaalkaaTotals.lean).
  GIVEN WITH THE SEED: the statements are not yours to turn. If you find one false, say at which input.
  Laid BY PROGRAM, IN A SANDBOX (cutbox-rows.mjs): the forced cells as the released guide's own fill.sh prints them over the translation 4916705019ce670c… (all of the seat's roots in one cut). By AI agents, Wed Nov 11 2026. No macro, syntax, notation, axiom, sorry.
-/
import Derived.Test.YtflangjkfaalkaaChecked
import GoSem.Claim
import GoSem.ClaimJoined
import GoSem.ClaimMapViews
import Derived.JoinedTies
import Derived.KernelRfl
namespace Go.Proofs.Ytflangjkfaalkaa
/- THE CELL 'sum', in the pinned program and in every row, IS THE sha256 OF THE DUMP (.gsa) THAT YtflangjkfaalkaaProg.lean LOADS. Nothing in Lean hashes anything: it is a label: what it is worth is what the hold of that sum in a sandbox is worth. -/
noncomputable def Try.pinned : Pinned := { name := "ytflangjkfaalkaa", sum := "4916705019ce670c76f0228e8fb8d93bea87d77436c9febd44ef333ab1e235fb", checked := Try.checked }
namespace Rows
def none {H : Type} : Left H := { results := [], args := [] }

/-- 'rejoinderlaw26.MooreTells': WHATEVER THE INPUT: true; the input reads as it did. -/
def mooreTellsSpec : ChangeSpec := { name := "mooreTells", fn := fun _ => fun
  | [d1, d2] => { results := [.lit (.bool true)], args := [d1, d2] }
  | _ => none }
def mooreTellsRow : OpenClaim := { program := "ytflangjkfaalkaa", sum := "4916705019ce670c76f0228e8fb8d93bea87d77436c9febd44ef333ab1e235fb", func := "rejoinder/rejoinderlaw26.MooreTells", spec := "mooreTells", unfollowed := true, recurses := true, plainKeys := false, apart := false }
def MooreTellsSaid : Prop := mooreTellsRow.holds Try.pinned (OpenSpec.ofChange mooreTellsSpec)

/-- ITS FALSE NEIGHBOUR: 'it returns false'. Refute it at one input. -/
def mooreTellsWrong : ChangeSpec := { name := "mooreTells", fn := fun _ => fun
  | [d1, d2] => { results := [.lit (.bool false)], args := [d1, d2] }
  | _ => none }
def MooreTellsWrongFalsely : Prop := mooreTellsRow.holds Try.pinned (OpenSpec.ofChange mooreTellsWrong)

/-- 'rejoinderlaw26.MoorePlays': WHATEVER THE INPUT: true; the input reads as it did. -/
def moorePlaysSpec : ChangeSpec := { name := "moorePlays", fn := fun _ => fun
  | [d1, d2, d3, d4] => { results := [.lit (.bool true)], args := [d1, d2, d3, d4] }
  | _ => none }
def moorePlaysRow : OpenClaim := { program := "ytflangjkfaalkaa", sum := "4916705019ce670c76f0228e8fb8d93bea87d77436c9febd44ef333ab1e235fb", func := "rejoinder/rejoinderlaw26.MoorePlays", spec := "moorePlays", plainKeys := false, apart := false }
def MoorePlaysSaid : Prop := moorePlaysRow.holds Try.pinned (OpenSpec.ofChange moorePlaysSpec)

/-- ITS FALSE NEIGHBOUR: 'it returns false'. Refute it at one input. -/
def moorePlaysWrong : ChangeSpec := { name := "moorePlays", fn := fun _ => fun
  | [d1, d2, d3, d4] => { results := [.lit (.bool false)], args := [d1, d2, d3, d4] }
  | _ => none }
def MoorePlaysWrongFalsely : Prop := moorePlaysRow.holds Try.pinned (OpenSpec.ofChange moorePlaysWrong)

/-- 'rejoinderlaw26.MooreSecond': WHATEVER THE INPUT: true; the input reads as it did. -/
def mooreSecondSpec : ChangeSpec := { name := "mooreSecond", fn := fun _ => fun
  | [d1, d2] => { results := [.lit (.bool true)], args := [d1, d2] }
  | _ => none }
def mooreSecondRow : OpenClaim := { program := "ytflangjkfaalkaa", sum := "4916705019ce670c76f0228e8fb8d93bea87d77436c9febd44ef333ab1e235fb", func := "rejoinder/rejoinderlaw26.MooreSecond", spec := "mooreSecond", unfollowed := true, recurses := true, plainKeys := false, apart := false }
def MooreSecondSaid : Prop := mooreSecondRow.holds Try.pinned (OpenSpec.ofChange mooreSecondSpec)

/-- ITS FALSE NEIGHBOUR: 'it returns false'. Refute it at one input. -/
def mooreSecondWrong : ChangeSpec := { name := "mooreSecond", fn := fun _ => fun
  | [d1, d2] => { results := [.lit (.bool false)], args := [d1, d2] }
  | _ => none }
def MooreSecondWrongFalsely : Prop := mooreSecondRow.holds Try.pinned (OpenSpec.ofChange mooreSecondWrong)

/-- 'rejoinderlaw26.MooreKnown': WHATEVER THE INPUT: true; the input reads as it did. -/
def mooreKnownSpec : ChangeSpec := { name := "mooreKnown", fn := fun _ => fun
  | [] => { results := [.lit (.bool true)], args := [] }
  | _ => none }
def mooreKnownRow : OpenClaim := { program := "ytflangjkfaalkaa", sum := "4916705019ce670c76f0228e8fb8d93bea87d77436c9febd44ef333ab1e235fb", func := "rejoinder/rejoinderlaw26.MooreKnown", spec := "mooreKnown", unfollowed := true, recurses := true, plainKeys := false, apart := false }
def MooreKnownSaid : Prop := mooreKnownRow.holds Try.pinned (OpenSpec.ofChange mooreKnownSpec)

/-- ITS FALSE NEIGHBOUR: 'it returns false'. Refute it at one input. -/
def mooreKnownWrong : ChangeSpec := { name := "mooreKnown", fn := fun _ => fun
  | [] => { results := [.lit (.bool false)], args := [] }
  | _ => none }
def MooreKnownWrongFalsely : Prop := mooreKnownRow.holds Try.pinned (OpenSpec.ofChange mooreKnownWrong)

/-- 'rejoinderlaw26.MooreKeeps': WHATEVER THE INPUT: true; the input reads as it did. -/
def mooreKeepsSpec : ChangeSpec := { name := "mooreKeeps", fn := fun _ => fun
  | [d1, d2, d3] => { results := [.lit (.bool true)], args := [d1, d2, d3] }
  | _ => none }
def mooreKeepsRow : OpenClaim := { program := "ytflangjkfaalkaa", sum := "4916705019ce670c76f0228e8fb8d93bea87d77436c9febd44ef333ab1e235fb", func := "rejoinder/rejoinderlaw26.MooreKeeps", spec := "mooreKeeps", unfollowed := true, recurses := true, plainKeys := false, apart := false }
def MooreKeepsSaid : Prop := mooreKeepsRow.holds Try.pinned (OpenSpec.ofChange mooreKeepsSpec)

/-- ITS FALSE NEIGHBOUR: 'it returns false'. Refute it at one input. -/
def mooreKeepsWrong : ChangeSpec := { name := "mooreKeeps", fn := fun _ => fun
  | [d1, d2, d3] => { results := [.lit (.bool false)], args := [d1, d2, d3] }
  | _ => none }
def MooreKeepsWrongFalsely : Prop := mooreKeepsRow.holds Try.pinned (OpenSpec.ofChange mooreKeepsWrong)

/- THE SECOND FORM. 'bulk': how many values and letters a reading holds, each counted each time it is reached (what is shared counts as often as it is met; a slice's spare places count too). A statement '..UptoSaid' is the law's where the arguments, and the package variables that the reading takes, are together of bulk at most 1048576: NARROWER than '..Said'. Prove '..Said' where nothing that the law and all that it calls make is longer than what came in: it says more and counts as full. Else prove '..UptoSaid'. A law counts once. -/
mutual
def uptoBulk {H : Type} : DataW H → Nat
  | .lit (.string bytes) => bytes.length + 1
  | .lit _ => 1
  | .nil => 1
  | .ptr d => uptoBulk d + 1
  | .slice elems spare => uptoBulkAll elems + uptoBulkAll spare + 1
  | .agg parts => uptoBulkAll parts + 1
  | .iface _ d => uptoBulk d + 1
  | .map entries => uptoBulkEntries entries + 1
  | .held _ => 1
def uptoBulkAll {H : Type} : List (DataW H) → Nat
  | [] => 0
  | d :: r => uptoBulk d + uptoBulkAll r
def uptoBulkEntries {H : Type} : List (Lit × DataW H) → Nat
  | [] => 0
  | x :: r => uptoBulkEntry x + uptoBulkEntries r
def uptoBulkEntry {H : Type} : Lit × DataW H → Nat
  | (.string bytes, d) => bytes.length + uptoBulk d + 1
  | (_, d) => uptoBulk d + 1
 end
def uptoSmall : (H : Type) → List (DataW H) → Bool := fun _ ds => decide (uptoBulkAll ds ≤ 1048576)
def OpenSpec.upto (s : _root_.Go.ChangeSpec) : _root_.Go.OpenSpec := { _root_.Go.OpenSpec.ofChange s with cond := some uptoSmall }

/-- 'rejoinderlaw26.MooreTells', WHERE WHAT IT READS IS OF BULK AT MOST 1048576: true; the input reads as it did. -/
def mooreTellsUptoRow : OpenClaim := { program := "ytflangjkfaalkaa", sum := "4916705019ce670c76f0228e8fb8d93bea87d77436c9febd44ef333ab1e235fb", func := "rejoinder/rejoinderlaw26.MooreTells", spec := "mooreTells", unfollowed := true, recurses := true, plainKeys := false, apart := false, narrowed := true }
def MooreTellsUptoSaid : Prop := mooreTellsUptoRow.holds Try.pinned (OpenSpec.upto mooreTellsSpec)

/-- 'rejoinderlaw26.MoorePlays', WHERE WHAT IT READS IS OF BULK AT MOST 1048576: true; the input reads as it did. -/
def moorePlaysUptoRow : OpenClaim := { program := "ytflangjkfaalkaa", sum := "4916705019ce670c76f0228e8fb8d93bea87d77436c9febd44ef333ab1e235fb", func := "rejoinder/rejoinderlaw26.MoorePlays", spec := "moorePlays", plainKeys := false, apart := false, narrowed := true }
def MoorePlaysUptoSaid : Prop := moorePlaysUptoRow.holds Try.pinned (OpenSpec.upto moorePlaysSpec)

/-- 'rejoinderlaw26.MooreSecond', WHERE WHAT IT READS IS OF BULK AT MOST 1048576: true; the input reads as it did. -/
def mooreSecondUptoRow : OpenClaim := { program := "ytflangjkfaalkaa", sum := "4916705019ce670c76f0228e8fb8d93bea87d77436c9febd44ef333ab1e235fb", func := "rejoinder/rejoinderlaw26.MooreSecond", spec := "mooreSecond", unfollowed := true, recurses := true, plainKeys := false, apart := false, narrowed := true }
def MooreSecondUptoSaid : Prop := mooreSecondUptoRow.holds Try.pinned (OpenSpec.upto mooreSecondSpec)

/-- 'rejoinderlaw26.MooreKnown', WHERE WHAT IT READS IS OF BULK AT MOST 1048576: true; the input reads as it did. -/
def mooreKnownUptoRow : OpenClaim := { program := "ytflangjkfaalkaa", sum := "4916705019ce670c76f0228e8fb8d93bea87d77436c9febd44ef333ab1e235fb", func := "rejoinder/rejoinderlaw26.MooreKnown", spec := "mooreKnown", unfollowed := true, recurses := true, plainKeys := false, apart := false, narrowed := true }
def MooreKnownUptoSaid : Prop := mooreKnownUptoRow.holds Try.pinned (OpenSpec.upto mooreKnownSpec)

/-- 'rejoinderlaw26.MooreKeeps', WHERE WHAT IT READS IS OF BULK AT MOST 1048576: true; the input reads as it did. -/
def mooreKeepsUptoRow : OpenClaim := { program := "ytflangjkfaalkaa", sum := "4916705019ce670c76f0228e8fb8d93bea87d77436c9febd44ef333ab1e235fb", func := "rejoinder/rejoinderlaw26.MooreKeeps", spec := "mooreKeeps", unfollowed := true, recurses := true, plainKeys := false, apart := false, narrowed := true }
def MooreKeepsUptoSaid : Prop := mooreKeepsUptoRow.holds Try.pinned (OpenSpec.upto mooreKeepsSpec)

end Rows
end Go.Proofs.Ytflangjkfaalkaa
