/-
  No cell of these rows narrows 'for every input' (looked for: loops, veiled, ifaces, maps, wideKeys, modest, calm, conditions, laid).
  DERIVED. THE GIVEN ROWS OF THIS SEAT. 4 by the template 'for every input the law returns true; each argument reads behind the call as it read before'; 0 by the template 'total and deterministic' (their statements: YteemfefeaphfdaaTotals.lean).
  GIVEN WITH THE SEED: the statements are not yours to turn. If you find one false, say at which input.
  Laid BY PROGRAM, IN A SANDBOX (cutbox-rows.mjs): the forced cells as the released guide's own fill.sh prints them over the translation 113308b7c1365ce9… (all of the seat's roots in one cut). By AI agents, Wed Nov 11 2026. No macro, syntax, notation, axiom, sorry.
-/
import Derived.Test.YteemfefeaphfdaaChecked
import GoSem.Claim
import GoSem.ClaimJoined
import GoSem.ClaimMapViews
import Derived.JoinedTies
import Derived.KernelRfl
namespace Go.Proofs.Yteemfefeaphfdaa
/- THE CELL 'sum', in the pinned program and in every row, IS THE sha256 OF THE DUMP (.gsa) THAT YteemfefeaphfdaaProg.lean LOADS. Nothing in Lean hashes anything: it is a label: what it is worth is what the hold of that sum in a sandbox is worth. -/
noncomputable def Try.pinned : Pinned := { name := "yteemfefeaphfdaa", sum := "113308b7c1365ce959ee7740a1c567719a351cbbfdb01a9453726e7f5c407b54", checked := Try.checked }
namespace Rows
def none {H : Type} : Left H := { results := [], args := [] }

/-- 'rejoinderlaw19.LangShortest': WHATEVER THE INPUT: true; the input reads as it did. -/
def langShortestSpec : ChangeSpec := { name := "langShortest", fn := fun _ => fun
  | [d1, d2] => { results := [.lit (.bool true)], args := [d1, d2] }
  | _ => none }
def langShortestRow : OpenClaim := { program := "yteemfefeaphfdaa", sum := "113308b7c1365ce959ee7740a1c567719a351cbbfdb01a9453726e7f5c407b54", func := "rejoinder/rejoinderlaw19.LangShortest", spec := "langShortest", inPlace := ["math/bits.Add64"], plainKeys := false, apart := false }
def LangShortestSaid : Prop := langShortestRow.holds Try.pinned (OpenSpec.ofChange langShortestSpec)

/-- ITS FALSE NEIGHBOUR: 'it returns false'. Refute it at one input. -/
def langShortestWrong : ChangeSpec := { name := "langShortest", fn := fun _ => fun
  | [d1, d2] => { results := [.lit (.bool false)], args := [d1, d2] }
  | _ => none }
def LangShortestWrongFalsely : Prop := langShortestRow.holds Try.pinned (OpenSpec.ofChange langShortestWrong)

/-- 'rejoinderlaw19.LangCounts': WHATEVER THE INPUT: true; the input reads as it did. -/
def langCountsSpec : ChangeSpec := { name := "langCounts", fn := fun _ => fun
  | [d1, d2, d3] => { results := [.lit (.bool true)], args := [d1, d2, d3] }
  | _ => none }
def langCountsRow : OpenClaim := { program := "yteemfefeaphfdaa", sum := "113308b7c1365ce959ee7740a1c567719a351cbbfdb01a9453726e7f5c407b54", func := "rejoinder/rejoinderlaw19.LangCounts", spec := "langCounts", inPlace := ["math/bits.Add64"], unfollowed := true, recurses := true, plainKeys := false, apart := false }
def LangCountsSaid : Prop := langCountsRow.holds Try.pinned (OpenSpec.ofChange langCountsSpec)

/-- ITS FALSE NEIGHBOUR: 'it returns false'. Refute it at one input. -/
def langCountsWrong : ChangeSpec := { name := "langCounts", fn := fun _ => fun
  | [d1, d2, d3] => { results := [.lit (.bool false)], args := [d1, d2, d3] }
  | _ => none }
def LangCountsWrongFalsely : Prop := langCountsRow.holds Try.pinned (OpenSpec.ofChange langCountsWrong)

/-- 'rejoinderlaw19.LangTells': WHATEVER THE INPUT: true; the input reads as it did. -/
def langTellsSpec : ChangeSpec := { name := "langTells", fn := fun _ => fun
  | [d1, d2, d3, d4] => { results := [.lit (.bool true)], args := [d1, d2, d3, d4] }
  | _ => none }
def langTellsRow : OpenClaim := { program := "yteemfefeaphfdaa", sum := "113308b7c1365ce959ee7740a1c567719a351cbbfdb01a9453726e7f5c407b54", func := "rejoinder/rejoinderlaw19.LangTells", spec := "langTells", inPlace := ["math/bits.Add64"], unfollowed := true, recurses := true, plainKeys := false, apart := false }
def LangTellsSaid : Prop := langTellsRow.holds Try.pinned (OpenSpec.ofChange langTellsSpec)

/-- ITS FALSE NEIGHBOUR: 'it returns false'. Refute it at one input. -/
def langTellsWrong : ChangeSpec := { name := "langTells", fn := fun _ => fun
  | [d1, d2, d3, d4] => { results := [.lit (.bool false)], args := [d1, d2, d3, d4] }
  | _ => none }
def LangTellsWrongFalsely : Prop := langTellsRow.holds Try.pinned (OpenSpec.ofChange langTellsWrong)

/-- 'rejoinderlaw19.LangKnown': WHATEVER THE INPUT: true; the input reads as it did. -/
def langKnownSpec : ChangeSpec := { name := "langKnown", fn := fun _ => fun
  | [] => { results := [.lit (.bool true)], args := [] }
  | _ => none }
def langKnownRow : OpenClaim := { program := "yteemfefeaphfdaa", sum := "113308b7c1365ce959ee7740a1c567719a351cbbfdb01a9453726e7f5c407b54", func := "rejoinder/rejoinderlaw19.LangKnown", spec := "langKnown", inPlace := ["math/bits.Add64"], unfollowed := true, recurses := true, plainKeys := false, apart := false }
def LangKnownSaid : Prop := langKnownRow.holds Try.pinned (OpenSpec.ofChange langKnownSpec)

/-- ITS FALSE NEIGHBOUR: 'it returns false'. Refute it at one input. -/
def langKnownWrong : ChangeSpec := { name := "langKnown", fn := fun _ => fun
  | [] => { results := [.lit (.bool false)], args := [] }
  | _ => none }
def LangKnownWrongFalsely : Prop := langKnownRow.holds Try.pinned (OpenSpec.ofChange langKnownWrong)

/- THE SECOND FORM. 'bulk': how many values and letters a reading holds, each counted each time it is reached (what is shared counts as often as it is met; a slice's spare places count too). A statement '..UptoSaid' is the law's where the arguments, and the package variables that the reading takes, are together of bulk at most 1048576: NARROWER than '..Said'. Prove '..Said' where nothing that the law and all that it calls make is longer than what came in: it says more and counts as full. Else prove '..UptoSaid'. A law counts once. -/
mutual
def uptoBulk {H : Type} : DataW H → Nat
  | .lit (.string bytes) => bytes.length + 1
  | .lit _ => 1
  | .nil => 1
  | .ptr d => uptoBulk d + 1
  | .slice elems spare => uptoBulkAll elems + uptoBulkAll spare + 1
  | .agg parts => uptoBulkAll parts + 1
  | .iface _ d => uptoBulk d + 1
  | .map entries => uptoBulkEntries entries + 1
  | .held _ => 1
def uptoBulkAll {H : Type} : List (DataW H) → Nat
  | [] => 0
  | d :: r => uptoBulk d + uptoBulkAll r
def uptoBulkEntries {H : Type} : List (Lit × DataW H) → Nat
  | [] => 0
  | x :: r => uptoBulkEntry x + uptoBulkEntries r
def uptoBulkEntry {H : Type} : Lit × DataW H → Nat
  | (.string bytes, d) => bytes.length + uptoBulk d + 1
  | (_, d) => uptoBulk d + 1
 end
def uptoSmall : (H : Type) → List (DataW H) → Bool := fun _ ds => decide (uptoBulkAll ds ≤ 1048576)
def OpenSpec.upto (s : _root_.Go.ChangeSpec) : _root_.Go.OpenSpec := { _root_.Go.OpenSpec.ofChange s with cond := some uptoSmall }

/-- 'rejoinderlaw19.LangShortest', WHERE WHAT IT READS IS OF BULK AT MOST 1048576: true; the input reads as it did. -/
def langShortestUptoRow : OpenClaim := { program := "yteemfefeaphfdaa", sum := "113308b7c1365ce959ee7740a1c567719a351cbbfdb01a9453726e7f5c407b54", func := "rejoinder/rejoinderlaw19.LangShortest", spec := "langShortest", inPlace := ["math/bits.Add64"], plainKeys := false, apart := false, narrowed := true }
def LangShortestUptoSaid : Prop := langShortestUptoRow.holds Try.pinned (OpenSpec.upto langShortestSpec)

/-- 'rejoinderlaw19.LangCounts', WHERE WHAT IT READS IS OF BULK AT MOST 1048576: true; the input reads as it did. -/
def langCountsUptoRow : OpenClaim := { program := "yteemfefeaphfdaa", sum := "113308b7c1365ce959ee7740a1c567719a351cbbfdb01a9453726e7f5c407b54", func := "rejoinder/rejoinderlaw19.LangCounts", spec := "langCounts", inPlace := ["math/bits.Add64"], unfollowed := true, recurses := true, plainKeys := false, apart := false, narrowed := true }
def LangCountsUptoSaid : Prop := langCountsUptoRow.holds Try.pinned (OpenSpec.upto langCountsSpec)

/-- 'rejoinderlaw19.LangTells', WHERE WHAT IT READS IS OF BULK AT MOST 1048576: true; the input reads as it did. -/
def langTellsUptoRow : OpenClaim := { program := "yteemfefeaphfdaa", sum := "113308b7c1365ce959ee7740a1c567719a351cbbfdb01a9453726e7f5c407b54", func := "rejoinder/rejoinderlaw19.LangTells", spec := "langTells", inPlace := ["math/bits.Add64"], unfollowed := true, recurses := true, plainKeys := false, apart := false, narrowed := true }
def LangTellsUptoSaid : Prop := langTellsUptoRow.holds Try.pinned (OpenSpec.upto langTellsSpec)

/-- 'rejoinderlaw19.LangKnown', WHERE WHAT IT READS IS OF BULK AT MOST 1048576: true; the input reads as it did. -/
def langKnownUptoRow : OpenClaim := { program := "yteemfefeaphfdaa", sum := "113308b7c1365ce959ee7740a1c567719a351cbbfdb01a9453726e7f5c407b54", func := "rejoinder/rejoinderlaw19.LangKnown", spec := "langKnown", inPlace := ["math/bits.Add64"], unfollowed := true, recurses := true, plainKeys := false, apart := false, narrowed := true }
def LangKnownUptoSaid : Prop := langKnownUptoRow.holds Try.pinned (OpenSpec.upto langKnownSpec)

end Rows
end Go.Proofs.Yteemfefeaphfdaa
