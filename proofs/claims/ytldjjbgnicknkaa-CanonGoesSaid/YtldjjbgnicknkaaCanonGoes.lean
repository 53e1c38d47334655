/- The law CanonGoes: whatever the input, it returns true, and the arguments read as before. No condition. -/
import Derived.Test.YtldjjbgnicknkaaOp
import Derived.Test.YtldjjbgnicknkaaLa
import Derived.Test.YtldjjbgnicknkaaRows
namespace Go.Proofs.Ytldjjbgnicknkaa
open Go Go.V Go.ChangeShapes Go.WideShapes Go.ChangeAt Go.RowKit
set_option linter.all false
set_option linter.unusedVariables false
set_option linter.unnecessarySimpa false
set_option linter.unusedSimpArgs false

theorem ownCanonGoes : ownKnob Try.prog.godebug = none := by kernel_rfl
set_option maxRecDepth 100000 in
theorem liftedCanonGoes (os : Os) (started : os.Started) (H : Type) (enc : TypeId × Value → H) :
    ReturnsInHanded {} Try.checked os 3 .any (Rows.canonGoesSpec.pre6 enc Try.prog Try.f3 Rows.canonGoesRow.domain false) (Rows.canonGoesSpec.post enc Try.prog Try.f3 false true false false) := by
  refine returnsInHanded_of_change (C := Try.checked) ownCanonGoes started (by kernel_rfl) Try.func3
    (ChangeSpec.witness6 (enc := enc) (C := Try.checked) false ⟨#[], #[.agg #[.int .i64 0, .slice none 0 0, .slice none 0 0, .slice none 0 0], .int .i64 0, .int .u8 0, .slice none 0 0], []⟩ 8 (by kernel_rfl) (by kernel_rfl) (by kernel_rfl) (by kernel_rfl)) ?_
  intro W base args ds gs before hval0 hW hcnd _
  have hval : ∀ (j : Nat) t v, Try.f3.params[j]? = some t → args[j]? = some v → Value.okWide Try.prog W .any base t v := hval0
  have hW' := hW
  obtain ⟨p, q, hA0, hV, rfl, hfz, hnd⟩ := hW'
  have hA : DataW.TrodAll enc Try.prog W 0 (fun _ => true) true Try.f3.params.toList args.toList ds p := hA0
  rw [Try.params3] at hA hval
  obtain ⟨v0, vs0, d0, ds0, p0, q0, hargs, rfl, rfl, h0, r0⟩ := trodAll_cons hA
  obtain ⟨v1, vs1, d1, ds1, p1, q1, rfl, rfl, rfl, h1, r1⟩ := trodAll_cons r0
  obtain ⟨v2, vs2, d2, ds2, p2, q2, rfl, rfl, rfl, h2, r2⟩ := trodAll_cons r1
  obtain ⟨v3, vs3, d3, ds3, p3, q3, rfl, rfl, rfl, h3, r3⟩ := trodAll_cons r2
  obtain ⟨rfl, rfl, rfl⟩ := trodAll_nil r3
  obtain rfl : args = #[v0, v1, v2, v3] := by cases args; simp_all
  obtain ⟨rfl, rfl⟩ := trodVars_none hV
  obtain ⟨pp0, A01, A02, A03, c01, c02, c03, acc0, gd0, nodes0, rfl, pw0, la0, lg0, ln0, C01, C02, C03, og0, on0⟩ := open_auto (hval 0 26 v0 rfl rfl) h0
  obtain ⟨a1, rfl, rfl, rfl, w1⟩ := open_int Try.underlying3 (hval 1 3 v1 rfl rfl) h1
  replace w1 := wf_i64 w1
  obtain ⟨a2, rfl, rfl, rfl, w2⟩ := open_int Try.underlying27 (hval 2 27 v2 rfl rfl) h2
  replace w2 := wf_u8 w2
  obtain ⟨A3, c3, xs3, rfl, lc3, l3, C3, o3⟩ := open_sl (d := cInt .u8) Try.underlying28 (by kernel_rfl) (by decide) (rd_int Try.underlying27) (hval 3 28 v3 rfl rfl) h3
  replace o3 : ∀ x ∈ xs3, 0 ≤ x ∧ x ≤ 255 := fun x hx => wf_u8 (o3 x hx)
  refine (law_calls pp0 A01 A02 A03 c01 c02 c03 acc0 gd0 nodes0 a1 a2 A3 c3 xs3 W la0 lg0 ln0 C01 C02 C03 w2 l3 C3 on0 og0 o3).mono fun e W' ⟨v, he, hv, hx⟩ => ⟨_, he, ?_⟩
  subst hv
  exact law_post (by kernel_rfl) (by kernel_rfl) rfl Try.underlying4 rfl hW ⟨rfl, rfl, rfl⟩ hx

theorem overCanonGoes : Rows.canonGoesRow.holds Try.pinned (OpenSpec.ofChange Rows.canonGoesSpec) :=
  OpenClaim.holds_of_wide 3 Try.f3 rfl rfl rfl rfl rfl rfl rfl ⟨rfl, rfl, rfl, rfl, rfl⟩ rfl rfl rfl rfl rfl (by kernel_rfl) Try.func3 (by kernel_rfl)
    (of_decide_eq_true (by kernel_rfl)) (by unfold Func.isWrapper; first | (rw [if_pos (by decide +kernel)]; kernel_rfl) | (rw [if_neg (by decide +kernel)]; exact ⟨rfl, rfl⟩))
    (fun os started H enc _ => liftedCanonGoes os started H enc)

theorem canonGoes_holds : Rows.CanonGoesSaid := overCanonGoes
#print axioms canonGoes_holds
end Go.Proofs.Ytldjjbgnicknkaa
