/- The arguments that are strategies, opened. -/
import Derived.Test.YtclijiacfmljlaaAS
set_option linter.all false
set_option linter.unusedVariables false
set_option maxRecDepth 100000
namespace Go.V
open Go Go.Proofs Go.RowKit Go.ChangeShapes Go.WideShapes Go.ChangeAt
section
variable {H : Type} {enc : TypeId × Value → H} {W : World}
theorem cells1_ll : Try.prog.cellsOf 31 = 1 := by kernel_rfl
/-- a strategy -/
theorem open_strat {r : Reach} {b0 : Nat} {v : Value} {d : DataW H} {ps : List MemPlace} (hval : Value.okWide Try.prog W r b0 33 v) (hd : DataW.Trod enc Try.prog W 0 (fun _ => true) true 33 v d ps) :
    ∃ (b : Bool) (A1 A2 A3 : Option Addr) (c1 c2 c3 : Nat) (rk : List Int) (rp : List (List Int)) (ch : List Int), v = .agg #[.bool b, .slice A1 rk.length c1, .slice A2 rp.length c2, .slice A3 ch.length c3] ∧
      rk.length ≤ c1 ∧ rp.length ≤ c2 ∧ ch.length ≤ c3 ∧ C (cInt .i64) W (Lo W.heap.size) A1 rk ∧ C (cSl (cInt .u8)) W (Lo W.heap.size) A2 rp ∧ C (cInt .u8) W (Lo W.heap.size) A3 ch ∧ (∀ x ∈ rk, W64 x) ∧ (∀ r ∈ rp, ∀ x ∈ r, 0 ≤ x ∧ x ≤ 255) ∧ (∀ x ∈ ch, 0 ≤ x ∧ x ≤ 255) ∧ (∀ r ∈ rp, r.length ≤ maxLen) := by
  obtain ⟨cs, rfl, _⟩ := okWide_struct Try.underlying33 hval
  obtain ⟨fuel, h⟩ := hd
  have hl := trod_len Try.underlying33 h
  rw [show Try.prog.cellsOf 33 = 4 from by kernel_rfl] at hl
  obtain ⟨u0, u1, u2, u3, hc⟩ := len4 hl
  rw [hc] at h
  obtain ⟨n0, y0, h0⟩ := trod_field Try.underlying33 h 0 4 0 1 rfl rfl rfl (by kernel_rfl)
  obtain ⟨n1, y1, h1⟩ := trod_field Try.underlying33 h 1 23 1 1 rfl rfl rfl (by kernel_rfl)
  obtain ⟨n2, y2, h2⟩ := trod_field Try.underlying33 h 2 30 2 1 rfl rfl rfl (by kernel_rfl)
  obtain ⟨n3, y3, h3⟩ := trod_field Try.underlying33 h 3 31 3 1 rfl rfl rfl (by kernel_rfl)
  obtain ⟨b, e0, _⟩ := DataW.trod_bool Try.underlying4 h0
  obtain ⟨A1, c1, rk, e1, l1, m1, C1, o1⟩ := rd_row Try.underlying23 cells1_i (by decide) (rd_int Try.underlying3) h1
  obtain ⟨A2, c2, rp, e2, l2, m2, C2, o2⟩ := rd_row Try.underlying30 cells1_ll (by decide) (rd_slice Try.underlying31 cells1_l (by decide) (rd_int Try.underlying27)) h2
  obtain ⟨A3, c3, ch, e3, l3, m3, C3, o3⟩ := rd_row Try.underlying31 cells1_l (by decide) (rd_int Try.underlying27) h3
  simp at e0 e1 e2 e3
  subst e0 e1 e2 e3
  have hcs : cs = #[.bool b, .slice A1 rk.length c1, .slice A2 rp.length c2, .slice A3 ch.length c3] := by
    apply Array.ext'
    simpa [Value.cells] using hc
  exact ⟨b, A1, A2, A3, c1, c2, c3, rk, rp, ch, by rw [hcs], l1, l2, l3, C1, C2, C3, fun x hx => wf_i64 (o1 x hx), fun r hr x hx => wf_u8 ((o2 r hr).2 x hx), fun x hx => wf_u8 (o3 x hx), fun r hr => (o2 r hr).1⟩
end
end Go.V
