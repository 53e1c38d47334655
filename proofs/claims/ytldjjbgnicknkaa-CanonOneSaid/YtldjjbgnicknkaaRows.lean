/-
  No cell of these rows narrows 'for every input' (looked for: loops, veiled, ifaces, maps, wideKeys, modest, calm, conditions, laid).
  DERIVED. THE GIVEN ROWS OF THIS SEAT. 5 by the template 'for every input the law returns true; each argument reads behind the call as it read before'; 0 by the template 'total and deterministic' (their statements: YtldjjbgnicknkaaTotals.lean).
  GIVEN WITH THE SEED: the statements are not yours to turn. If you find one false, say at which input.
  Laid BY PROGRAM, IN A SANDBOX (cutbox-rows.mjs): the forced cells as the released guide's own fill.sh prints them over the translation 3fa287113ec315ee… (all of the seat's roots in one cut). By AI agents, Wed Nov 11 2026. No macro, syntax, notation, axiom, sorry.
-/
import Derived.Test.YtldjjbgnicknkaaChecked
import GoSem.Claim
import GoSem.ClaimJoined
import GoSem.ClaimMapViews
import Derived.JoinedTies
import Derived.KernelRfl
namespace Go.Proofs.Ytldjjbgnicknkaa
/- THE CELL 'sum', in the pinned program and in every row, IS THE sha256 OF THE DUMP (.gsa) THAT YtldjjbgnicknkaaProg.lean LOADS. Nothing in Lean hashes anything: it is a label: what it is worth is what the hold of that sum in a sandbox is worth. -/
noncomputable def Try.pinned : Pinned := { name := "ytldjjbgnicknkaa", sum := "3fa287113ec315eef206650db4b3c42b506d8def50105f4ebac53e78e1e9ac25", checked := Try.checked }
namespace Rows
def none {H : Type} : Left H := { results := [], args := [] }

/-- 'rejoinderlaw17.CanonGoes': WHATEVER THE INPUT: true; the input reads as it did. -/
def canonGoesSpec : ChangeSpec := { name := "canonGoes", fn := fun _ => fun
  | [d1, d2, d3, d4] => { results := [.lit (.bool true)], args := [d1, d2, d3, d4] }
  | _ => none }
def canonGoesRow : OpenClaim := { program := "ytldjjbgnicknkaa", sum := "3fa287113ec315eef206650db4b3c42b506d8def50105f4ebac53e78e1e9ac25", func := "rejoinder/rejoinderlaw17.CanonGoes", spec := "canonGoes", plainKeys := false, apart := false }
def CanonGoesSaid : Prop := canonGoesRow.holds Try.pinned (OpenSpec.ofChange canonGoesSpec)

/-- ITS FALSE NEIGHBOUR: 'it returns false'. Refute it at one input. -/
def canonGoesWrong : ChangeSpec := { name := "canonGoes", fn := fun _ => fun
  | [d1, d2, d3, d4] => { results := [.lit (.bool false)], args := [d1, d2, d3, d4] }
  | _ => none }
def CanonGoesWrongFalsely : Prop := canonGoesRow.holds Try.pinned (OpenSpec.ofChange canonGoesWrong)

/-- 'rejoinderlaw17.CanonMin': WHATEVER THE INPUT: true; the input reads as it did. -/
def canonMinSpec : ChangeSpec := { name := "canonMin", fn := fun _ => fun
  | [d1, d2] => { results := [.lit (.bool true)], args := [d1, d2] }
  | _ => none }
def canonMinRow : OpenClaim := { program := "ytldjjbgnicknkaa", sum := "3fa287113ec315eef206650db4b3c42b506d8def50105f4ebac53e78e1e9ac25", func := "rejoinder/rejoinderlaw17.CanonMin", spec := "canonMin", unfollowed := true, recurses := true, plainKeys := false, apart := false }
def CanonMinSaid : Prop := canonMinRow.holds Try.pinned (OpenSpec.ofChange canonMinSpec)

/-- ITS FALSE NEIGHBOUR: 'it returns false'. Refute it at one input. -/
def canonMinWrong : ChangeSpec := { name := "canonMin", fn := fun _ => fun
  | [d1, d2] => { results := [.lit (.bool false)], args := [d1, d2] }
  | _ => none }
def CanonMinWrongFalsely : Prop := canonMinRow.holds Try.pinned (OpenSpec.ofChange canonMinWrong)

/-- 'rejoinderlaw17.CanonOne': WHATEVER THE INPUT: true; the input reads as it did. -/
def canonOneSpec : ChangeSpec := { name := "canonOne", fn := fun _ => fun
  | [d1, d2] => { results := [.lit (.bool true)], args := [d1, d2] }
  | _ => none }
def canonOneRow : OpenClaim := { program := "ytldjjbgnicknkaa", sum := "3fa287113ec315eef206650db4b3c42b506d8def50105f4ebac53e78e1e9ac25", func := "rejoinder/rejoinderlaw17.CanonOne", spec := "canonOne", unfollowed := true, recurses := true, plainKeys := false, apart := false }
def CanonOneSaid : Prop := canonOneRow.holds Try.pinned (OpenSpec.ofChange canonOneSpec)

/-- ITS FALSE NEIGHBOUR: 'it returns false'. Refute it at one input. -/
def canonOneWrong : ChangeSpec := { name := "canonOne", fn := fun _ => fun
  | [d1, d2] => { results := [.lit (.bool false)], args := [d1, d2] }
  | _ => none }
def CanonOneWrongFalsely : Prop := canonOneRow.holds Try.pinned (OpenSpec.ofChange canonOneWrong)

/-- 'rejoinderlaw17.CanonSmall': WHATEVER THE INPUT: true; the input reads as it did. -/
def canonSmallSpec : ChangeSpec := { name := "canonSmall", fn := fun _ => fun
  | [d1, d2] => { results := [.lit (.bool true)], args := [d1, d2] }
  | _ => none }
def canonSmallRow : OpenClaim := { program := "ytldjjbgnicknkaa", sum := "3fa287113ec315eef206650db4b3c42b506d8def50105f4ebac53e78e1e9ac25", func := "rejoinder/rejoinderlaw17.CanonSmall", spec := "canonSmall", unfollowed := true, recurses := true, plainKeys := false, apart := false }
def CanonSmallSaid : Prop := canonSmallRow.holds Try.pinned (OpenSpec.ofChange canonSmallSpec)

/-- ITS FALSE NEIGHBOUR: 'it returns false'. Refute it at one input. -/
def canonSmallWrong : ChangeSpec := { name := "canonSmall", fn := fun _ => fun
  | [d1, d2] => { results := [.lit (.bool false)], args := [d1, d2] }
  | _ => none }
def CanonSmallWrongFalsely : Prop := canonSmallRow.holds Try.pinned (OpenSpec.ofChange canonSmallWrong)

/-- 'rejoinderlaw17.CanonKnown': WHATEVER THE INPUT: true; the input reads as it did. -/
def canonKnownSpec : ChangeSpec := { name := "canonKnown", fn := fun _ => fun
  | [] => { results := [.lit (.bool true)], args := [] }
  | _ => none }
def canonKnownRow : OpenClaim := { program := "ytldjjbgnicknkaa", sum := "3fa287113ec315eef206650db4b3c42b506d8def50105f4ebac53e78e1e9ac25", func := "rejoinder/rejoinderlaw17.CanonKnown", spec := "canonKnown", unfollowed := true, recurses := true, plainKeys := false, apart := false }
def CanonKnownSaid : Prop := canonKnownRow.holds Try.pinned (OpenSpec.ofChange canonKnownSpec)

/-- ITS FALSE NEIGHBOUR: 'it returns false'. Refute it at one input. -/
def canonKnownWrong : ChangeSpec := { name := "canonKnown", fn := fun _ => fun
  | [] => { results := [.lit (.bool false)], args := [] }
  | _ => none }
def CanonKnownWrongFalsely : Prop := canonKnownRow.holds Try.pinned (OpenSpec.ofChange canonKnownWrong)

/- THE SECOND FORM. 'bulk': how many values and letters a reading holds, each counted each time it is reached (what is shared counts as often as it is met; a slice's spare places count too). A statement '..UptoSaid' is the law's where the arguments, and the package variables that the reading takes, are together of bulk at most 1048576: NARROWER than '..Said'. Prove '..Said' where nothing that the law and all that it calls make is longer than what came in: it says more and counts as full. Else prove '..UptoSaid'. A law counts once. -/
mutual
def uptoBulk {H : Type} : DataW H → Nat
  | .lit (.string bytes) => bytes.length + 1
  | .lit _ => 1
  | .nil => 1
  | .ptr d => uptoBulk d + 1
  | .slice elems spare => uptoBulkAll elems + uptoBulkAll spare + 1
  | .agg parts => uptoBulkAll parts + 1
  | .iface _ d => uptoBulk d + 1
  | .map entries => uptoBulkEntries entries + 1
  | .held _ => 1
def uptoBulkAll {H : Type} : List (DataW H) → Nat
  | [] => 0
  | d :: r => uptoBulk d + uptoBulkAll r
def uptoBulkEntries {H : Type} : List (Lit × DataW H) → Nat
  | [] => 0
  | x :: r => uptoBulkEntry x + uptoBulkEntries r
def uptoBulkEntry {H : Type} : Lit × DataW H → Nat
  | (.string bytes, d) => bytes.length + uptoBulk d + 1
  | (_, d) => uptoBulk d + 1
 end
def uptoSmall : (H : Type) → List (DataW H) → Bool := fun _ ds => decide (uptoBulkAll ds ≤ 1048576)
def OpenSpec.upto (s : _root_.Go.ChangeSpec) : _root_.Go.OpenSpec := { _root_.Go.OpenSpec.ofChange s with cond := some uptoSmall }

/-- 'rejoinderlaw17.CanonGoes', WHERE WHAT IT READS IS OF BULK AT MOST 1048576: true; the input reads as it did. -/
def canonGoesUptoRow : OpenClaim := { program := "ytldjjbgnicknkaa", sum := "3fa287113ec315eef206650db4b3c42b506d8def50105f4ebac53e78e1e9ac25", func := "rejoinder/rejoinderlaw17.CanonGoes", spec := "canonGoes", plainKeys := false, apart := false, narrowed := true }
def CanonGoesUptoSaid : Prop := canonGoesUptoRow.holds Try.pinned (OpenSpec.upto canonGoesSpec)

/-- 'rejoinderlaw17.CanonMin', WHERE WHAT IT READS IS OF BULK AT MOST 1048576: true; the input reads as it did. -/
def canonMinUptoRow : OpenClaim := { program := "ytldjjbgnicknkaa", sum := "3fa287113ec315eef206650db4b3c42b506d8def50105f4ebac53e78e1e9ac25", func := "rejoinder/rejoinderlaw17.CanonMin", spec := "canonMin", unfollowed := true, recurses := true, plainKeys := false, apart := false, narrowed := true }
def CanonMinUptoSaid : Prop := canonMinUptoRow.holds Try.pinned (OpenSpec.upto canonMinSpec)

/-- 'rejoinderlaw17.CanonOne', WHERE WHAT IT READS IS OF BULK AT MOST 1048576: true; the input reads as it did. -/
def canonOneUptoRow : OpenClaim := { program := "ytldjjbgnicknkaa", sum := "3fa287113ec315eef206650db4b3c42b506d8def50105f4ebac53e78e1e9ac25", func := "rejoinder/rejoinderlaw17.CanonOne", spec := "canonOne", unfollowed := true, recurses := true, plainKeys := false, apart := false, narrowed := true }
def CanonOneUptoSaid : Prop := canonOneUptoRow.holds Try.pinned (OpenSpec.upto canonOneSpec)

/-- 'rejoinderlaw17.CanonSmall', WHERE WHAT IT READS IS OF BULK AT MOST 1048576: true; the input reads as it did. -/
def canonSmallUptoRow : OpenClaim := { program := "ytldjjbgnicknkaa", sum := "3fa287113ec315eef206650db4b3c42b506d8def50105f4ebac53e78e1e9ac25", func := "rejoinder/rejoinderlaw17.CanonSmall", spec := "canonSmall", unfollowed := true, recurses := true, plainKeys := false, apart := false, narrowed := true }
def CanonSmallUptoSaid : Prop := canonSmallUptoRow.holds Try.pinned (OpenSpec.upto canonSmallSpec)

/-- 'rejoinderlaw17.CanonKnown', WHERE WHAT IT READS IS OF BULK AT MOST 1048576: true; the input reads as it did. -/
def canonKnownUptoRow : OpenClaim := { program := "ytldjjbgnicknkaa", sum := "3fa287113ec315eef206650db4b3c42b506d8def50105f4ebac53e78e1e9ac25", func := "rejoinder/rejoinderlaw17.CanonKnown", spec := "canonKnown", unfollowed := true, recurses := true, plainKeys := false, apart := false, narrowed := true }
def CanonKnownUptoSaid : Prop := canonKnownUptoRow.holds Try.pinned (OpenSpec.upto canonKnownSpec)

end Rows
end Go.Proofs.Ytldjjbgnicknkaa
