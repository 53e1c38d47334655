/- What the bound of a statement of the second form gives. -/
import Derived.Test.YtflangjkfaalkaaV9
import Derived.Test.YtflangjkfaalkaaRows
import Derived.JoinedCond
set_option linter.all false
set_option linter.unusedVariables false
namespace Go.V
open Go Go.Proofs Go.RowKit Go.ChangeShapes Go.WideShapes Go.ChangeAt Go.Proofs.Ytflangjkfaalkaa
section
variable {H : Type} {enc : TypeId × Value → H} {W : World}
theorem bulk_one (d : DataW H) : 1 ≤ Rows.uptoBulk d := by
  cases d with
  | lit l => cases l <;> simp [Rows.uptoBulk]
  | nil => simp [Rows.uptoBulk]
  | ptr d => simp [Rows.uptoBulk]
  | slice elems spare => simp [Rows.uptoBulk]
  | agg parts => simp [Rows.uptoBulk]
  | iface t d => simp [Rows.uptoBulk]
  | map entries => simp [Rows.uptoBulk]
  | held h => simp [Rows.uptoBulk]
theorem bulk_part {d : DataW H} {l : List (DataW H)} (h : d ∈ l) : Rows.uptoBulk d ≤ Rows.uptoBulkAll l := by
  induction l with
  | nil => cases h
  | cons x r ih =>
    simp only [Rows.uptoBulkAll]
    cases List.mem_cons.1 h with
    | inl e => subst e; omega
    | inr e => have := ih e; omega
theorem bulk_len (l : List (DataW H)) : l.length ≤ Rows.uptoBulkAll l := by
  induction l with
  | nil => simp [Rows.uptoBulkAll]
  | cons x r ih => have := bulk_one x; simp only [Rows.uptoBulkAll, List.length_cons]; omega
theorem bulk_all {l : List (DataW H)} (hk : Rows.uptoSmall H l = true) : Rows.uptoBulkAll l ≤ 1048576 := of_decide_eq_true hk
/-- a slice's length -/
theorem bulk_slice {P : Program} {t e : TypeId} {A : Option Addr} {n c : Nat} {d : DataW H} {ps : List MemPlace} {l : List (DataW H)} (hk : Rows.uptoSmall H l = true) (hd : d ∈ l) (ht : P.underlying t = some (.slice e))
    (h : DataW.Trod enc P W 0 (fun _ => true) true t (.slice A n c) d ps) : n ≤ 1048576 := by
  obtain ⟨fuel, h⟩ := h
  have hb := bulk_all hk
  have hp := bulk_part hd
  rcases DataW.trod_slice ht h with ⟨e1, _⟩ | ⟨a, len, cap, elems, rest, n', _, e1, e2, _, _, _, hlen, _⟩
  · simp [Value.cells] at e1
    omega
  · simp [Value.cells] at e1
    have e3 : d = .slice (elems.map (·.1)) (rest.map (·.1)) := congrArg Prod.fst e2
    rw [e3] at hp
    simp only [Rows.uptoBulk] at hp
    have := bulk_len (elems.map (·.1))
    rw [List.length_map] at this
    omega
end
end Go.V
