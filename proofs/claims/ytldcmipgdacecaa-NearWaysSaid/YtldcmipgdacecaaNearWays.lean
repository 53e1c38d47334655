/- The law NearWays: whatever the input, it returns true, and the arguments read as before. No condition. -/
import Derived.Test.YtldcmipgdacecaaV9
import Derived.Test.YtldcmipgdacecaaLNearWays
import Derived.Test.YtldcmipgdacecaaRows
namespace Go.Proofs.Ytldcmipgdacecaa
open Go Go.V Go.ChangeShapes Go.WideShapes Go.ChangeAt Go.RowKit
set_option linter.all false
set_option linter.unusedVariables false
set_option linter.unnecessarySimpa false
set_option linter.unusedSimpArgs false

theorem ownNearWays : ownKnob Try.prog.godebug = none := by kernel_rfl
set_option maxRecDepth 100000 in
theorem liftedNearWays (os : Os) (started : os.Started) (H : Type) (enc : TypeId × Value → H) :
    ReturnsInHanded {} Try.checked os 5 .any (Rows.nearWaysSpec.pre6 enc Try.prog Try.f5 Rows.nearWaysRow.domain false) (Rows.nearWaysSpec.post enc Try.prog Try.f5 false true false false) := by
  refine returnsInHanded_of_change (C := Try.checked) ownNearWays started (by kernel_rfl) Try.func5
    (ChangeSpec.witness6 (enc := enc) (C := Try.checked) false ⟨#[], #[.slice none 0 0, .slice none 0 0, .slice none 0 0], []⟩ 8 (by kernel_rfl) (by kernel_rfl) (by kernel_rfl) (by kernel_rfl)) ?_
  intro W base args ds gs before hval0 hW hcnd _
  have hval : ∀ (j : Nat) t v, Try.f5.params[j]? = some t → args[j]? = some v → Value.okWide Try.prog W .any base t v := hval0
  have hW' := hW
  obtain ⟨p, q, hA0, hV, rfl, hfz, hnd⟩ := hW'
  have hA : DataW.TrodAll enc Try.prog W 0 (fun _ => true) true Try.f5.params.toList args.toList ds p := hA0
  rw [Try.params5] at hA hval
  obtain ⟨v0, vs0, d0, ds0, p0, q0, hargs, rfl, rfl, h0, r0⟩ := trodAll_cons hA
  obtain ⟨v1, vs1, d1, ds1, p1, q1, rfl, rfl, rfl, h1, r1⟩ := trodAll_cons r0
  obtain ⟨v2, vs2, d2, ds2, p2, q2, rfl, rfl, rfl, h2, r2⟩ := trodAll_cons r1
  obtain ⟨rfl, rfl, rfl⟩ := trodAll_nil r2
  obtain rfl : args = #[v0, v1, v2] := by cases args; simp_all
  obtain ⟨rfl, rfl⟩ := trodVars_none hV
  obtain ⟨A0, c0, xs0, rfl, lc0, l0, C0, o0⟩ := open_sl (d := cInt .u8) Try.underlying22 (by kernel_rfl) (by decide) (rd_int Try.underlying56) (hval 0 22 v0 rfl rfl) h0
  replace o0 : ∀ x ∈ xs0, 0 ≤ x ∧ x ≤ 255 := fun x hx => wf_u8 (o0 x hx)
  obtain ⟨A1, c1, xs1, rfl, lc1, l1, C1, o1⟩ := open_sl (d := cInt .u8) Try.underlying22 (by kernel_rfl) (by decide) (rd_int Try.underlying56) (hval 1 22 v1 rfl rfl) h1
  replace o1 : ∀ x ∈ xs1, 0 ≤ x ∧ x ≤ 255 := fun x hx => wf_u8 (o1 x hx)
  obtain ⟨A2, c2, xs2, rfl, lc2, l2, C2, o2⟩ := open_sl (d := cInt .u8) Try.underlying22 (by kernel_rfl) (by decide) (rd_int Try.underlying56) (hval 2 22 v2 rfl rfl) h2
  replace o2 : ∀ x ∈ xs2, 0 ≤ x ∧ x ≤ 255 := fun x hx => wf_u8 (o2 x hx)
  refine (nearWays_row W A0 c0 xs0 A1 c1 xs1 A2 c2 xs2 lc0 lc1 lc2 C0 C1 C2 o0 o1 o2).mono fun e W' ⟨v, he, hv, hx⟩ => ⟨_, he, ?_⟩
  subst hv
  exact law_post (by kernel_rfl) (by kernel_rfl) rfl Try.underlying4 rfl hW ⟨rfl, rfl, rfl⟩ hx

theorem overNearWays : Rows.nearWaysRow.holds Try.pinned (OpenSpec.ofChange Rows.nearWaysSpec) :=
  OpenClaim.holds_of_wide 5 Try.f5 rfl rfl rfl rfl rfl rfl rfl ⟨rfl, rfl, rfl, rfl, rfl⟩ rfl rfl rfl rfl rfl (by kernel_rfl) Try.func5 (by kernel_rfl)
    (of_decide_eq_true (by kernel_rfl)) (by unfold Func.isWrapper; first | (rw [if_pos (by decide +kernel)]; kernel_rfl) | (rw [if_neg (by decide +kernel)]; exact ⟨rfl, rfl⟩))
    (fun os started H enc _ => liftedNearWays os started H enc)

theorem nearWays_holds : Rows.NearWaysSaid := overNearWays
#print axioms nearWays_holds
end Go.Proofs.Ytldcmipgdacecaa
