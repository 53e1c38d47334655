/- The arguments that are splits, opened. -/
import Derived.Test.YtflangjkfaalkaaAO
set_option linter.all false
set_option linter.unusedVariables false
set_option maxRecDepth 100000
namespace Go.V
open Go Go.Proofs Go.RowKit Go.ChangeShapes Go.WideShapes Go.ChangeAt
section
variable {H : Type} {enc : TypeId × Value → H} {W : World}
theorem cells1_l : Try.prog.cellsOf 27 = 1 := by kernel_rfl
theorem len2 {α : Type} {l : List α} (h : l.length = 2) : ∃ a b, l = [a, b] := by
  match l, h with
  | [a, b], _ => exact ⟨a, b, rfl⟩
/-- a split -/
theorem open_split {r : Reach} {b0 : Nat} {v : Value} {d : DataW H} {ps : List MemPlace} (hval : Value.okWide Try.prog W r b0 29 v) (hd : DataW.Trod enc Try.prog W 0 (fun _ => true) true 29 v d ps) :
    ∃ (e s : Int), v = .agg #[.int .u8 e, .int .u8 s] ∧ (0 ≤ e ∧ e ≤ 255) ∧ (0 ≤ s ∧ s ≤ 255) := by
  obtain ⟨cs, rfl, _⟩ := okWide_struct Try.underlying29 hval
  obtain ⟨fuel, h⟩ := hd
  have hl := trod_len Try.underlying29 h
  rw [show Try.prog.cellsOf 29 = 2 from by kernel_rfl] at hl
  obtain ⟨u0, u1, hc⟩ := len2 hl
  rw [hc] at h
  obtain ⟨n0, y0, h0⟩ := trod_field Try.underlying29 h 0 27 0 1 rfl rfl rfl (by kernel_rfl)
  obtain ⟨n1, y1, h1⟩ := trod_field Try.underlying29 h 1 27 1 1 rfl rfl rfl (by kernel_rfl)
  obtain ⟨e, e0, _, w0⟩ := DataW.trod_int Try.underlying27 h0
  obtain ⟨s, e1, _, w1⟩ := DataW.trod_int Try.underlying27 h1
  simp at e0 e1
  subst e0 e1
  have hcs : cs = #[.int .u8 e, .int .u8 s] := by
    apply Array.ext'
    simpa [Value.cells] using hc
  exact ⟨e, s, by rw [hcs], wf_u8 w0, wf_u8 w1⟩
end
end Go.V
