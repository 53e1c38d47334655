/- The arguments that are automata, opened. -/
import Derived.Test.YtflangjkfaalkaaV9
import Derived.Test.YtflangjkfaalkaaTb
import Derived.Test.YtflangjkfaalkaaAN
set_option linter.all false
set_option linter.unusedVariables false
set_option linter.unnecessarySimpa false
set_option linter.unusedSimpArgs false
set_option maxRecDepth 100000
namespace Go.V
open Go Go.Proofs Go.RowKit Go.ChangeShapes Go.WideShapes Go.ChangeAt
section
variable {H : Type} {enc : TypeId × Value → H} {W : World}
theorem cells1_i : Try.prog.cellsOf 3 = 1 := by kernel_rfl
theorem cells1_b : Try.prog.cellsOf 4 = 1 := by kernel_rfl
theorem cells3_n : Try.prog.cellsOf 57 = 3 := by kernel_rfl

theorem rd_node : Rd enc Try.prog W cNode 57 (fun x => x.wf) := by
  intro fuel cs x h
  have hl := trod_len Try.underlying57 h
  rw [cells3_n] at hl
  obtain ⟨u0, u1, u2, rfl⟩ := len3 hl
  obtain ⟨n0, y0, h0⟩ := trod_field Try.underlying57 h 0 3 0 1 rfl rfl rfl cells1_i
  obtain ⟨n1, y1, h1⟩ := trod_field Try.underlying57 h 1 3 1 1 rfl rfl rfl cells1_i
  obtain ⟨n2, y2, h2⟩ := trod_field Try.underlying57 h 2 3 2 1 rfl rfl rfl cells1_i
  obtain ⟨p, e0, _, w0⟩ := DataW.trod_int Try.underlying3 h0
  obtain ⟨q, e1, _, w1⟩ := DataW.trod_int Try.underlying3 h1
  obtain ⟨r, e2, _, w2⟩ := DataW.trod_int Try.underlying3 h2
  simp at e0 e1 e2
  subst e0 e1 e2
  exact ⟨⟨p, q, r⟩, rfl, wf_i64 w0, wf_i64 w1, wf_i64 w2⟩

/-- an automaton -/
theorem open_auto {r : Reach} {b0 : Nat} {v : Value} {d : DataW H} {ps : List MemPlace} (hval : Value.okWide Try.prog W r b0 26 v) (hd : DataW.Trod enc Try.prog W 0 (fun _ => true) true 26 v d ps) :
    ∃ (p0 : Int) (A1 A2 A3 : Option Addr) (c1 c2 c3 : Nat) (acc : List Bool) (gd : List Int) (nodes : List Nd), v = .agg #[.int .i64 p0, .slice A1 acc.length c1, .slice A2 gd.length c2, .slice A3 nodes.length c3] ∧ W64 p0 ∧
      acc.length ≤ 9223372036854775807 ∧ gd.length ≤ 9223372036854775807 ∧ nodes.length ≤ 9223372036854775807 ∧ acc.length ≤ c1 ∧ gd.length ≤ c2 ∧ nodes.length ≤ c3 ∧ C cBool W (Lo W.heap.size) A1 acc ∧ C (cInt .i64) W (Lo W.heap.size) A2 gd ∧ C cNode W (Lo W.heap.size) A3 nodes ∧ (∀ x ∈ gd, W64 x) ∧ ∀ x ∈ nodes, x.wf := by
  obtain ⟨cs, rfl, _⟩ := okWide_struct Try.underlying26 hval
  obtain ⟨fuel, h⟩ := hd
  have hl := trod_len Try.underlying26 h
  rw [show Try.prog.cellsOf 26 = 4 from by kernel_rfl] at hl
  obtain ⟨u0, u1, u2, u3, hc⟩ := len4 hl
  rw [hc] at h
  obtain ⟨n0, y0, h0⟩ := trod_field Try.underlying26 h 0 3 0 1 rfl rfl rfl (by kernel_rfl)
  obtain ⟨n1, y1, h1⟩ := trod_field Try.underlying26 h 1 22 1 1 rfl rfl rfl (by kernel_rfl)
  obtain ⟨n2, y2, h2⟩ := trod_field Try.underlying26 h 2 23 2 1 rfl rfl rfl (by kernel_rfl)
  obtain ⟨n3, y3, h3⟩ := trod_field Try.underlying26 h 3 24 3 1 rfl rfl rfl (by kernel_rfl)
  obtain ⟨p, e0, _, w0⟩ := DataW.trod_int Try.underlying3 h0
  obtain ⟨A1, c1, acc, e1, l1, m1, C1, _⟩ := rd_row Try.underlying22 cells1_b (by decide) (rd_bool Try.underlying4) h1
  obtain ⟨A2, c2, gd, e2, l2, m2, C2, o2⟩ := rd_row Try.underlying23 cells1_i (by decide) (rd_int Try.underlying3) h2
  obtain ⟨A3, c3, nodes, e3, l3, m3, C3, o3⟩ := rd_row Try.underlying24 cells3_n (by decide) rd_node h3
  simp at e0 e1 e2 e3
  subst e0 e1 e2 e3
  have hcs : cs = #[.int .i64 p, .slice A1 acc.length c1, .slice A2 gd.length c2, .slice A3 nodes.length c3] := by
    apply Array.ext'
    simpa [Value.cells] using hc
  unfold maxLen at m1 m2 m3
  exact ⟨p, A1, A2, A3, c1, c2, c3, acc, gd, nodes, by rw [hcs], wf_i64 w0, by omega, by omega, by omega, l1, l2, l3, C1, C2, C3, fun x hx => wf_i64 (o2 x hx), o3⟩
end
theorem wf_u64 {n : Int} (h : (Lit.int .u64 n).wf = true) : 0 ≤ n ∧ n ≤ 18446744073709551615 := by
  simpa [Lit.wf, IntKind.min, IntKind.max, IntKind.signed, IntKind.bits] using h
end Go.V
