/- The law OddsHalves: whatever the input, it returns true, and the arguments read as before. No condition. -/
import Derived.Test.YtbgpakdldcfhiaaV9
import Derived.Test.YtbgpakdldcfhiaaAO
import Derived.Test.YtbgpakdldcfhiaaLOddsHalves
import Derived.Test.YtbgpakdldcfhiaaRows
namespace Go.Proofs.Ytbgpakdldcfhiaa
open Go Go.V Go.ChangeShapes Go.WideShapes Go.ChangeAt Go.RowKit
set_option linter.all false
set_option linter.unusedVariables false
set_option linter.unnecessarySimpa false
set_option linter.unusedSimpArgs false

theorem ownOddsHalves : ownKnob Try.prog.godebug = none := by kernel_rfl
set_option maxRecDepth 100000 in
theorem liftedOddsHalves (os : Os) (started : os.Started) (H : Type) (enc : TypeId × Value → H) :
    ReturnsInHanded {} Try.checked os 6 .any (Rows.oddsHalvesSpec.pre6 enc Try.prog Try.f6 Rows.oddsHalvesRow.domain false) (Rows.oddsHalvesSpec.post enc Try.prog Try.f6 false true false false) := by
  refine returnsInHanded_of_change (C := Try.checked) ownOddsHalves started (by kernel_rfl) Try.func6
    (ChangeSpec.witness6 (enc := enc) (C := Try.checked) false ⟨#[], #[.agg #[.int .i64 0, .slice none 0 0, .slice none 0 0, .slice none 0 0], .int .i64 0], []⟩ 8 (by kernel_rfl) (by kernel_rfl) (by kernel_rfl) (by kernel_rfl)) ?_
  intro W base args ds gs before hval0 hW hcnd _
  have hval : ∀ (j : Nat) t v, Try.f6.params[j]? = some t → args[j]? = some v → Value.okWide Try.prog W .any base t v := hval0
  have hW' := hW
  obtain ⟨p, q, hA0, hV, rfl, hfz, hnd⟩ := hW'
  have hA : DataW.TrodAll enc Try.prog W 0 (fun _ => true) true Try.f6.params.toList args.toList ds p := hA0
  rw [Try.params6] at hA hval
  obtain ⟨v0, vs0, d0, ds0, p0, q0, hargs, rfl, rfl, h0, r0⟩ := trodAll_cons hA
  obtain ⟨v1, vs1, d1, ds1, p1, q1, rfl, rfl, rfl, h1, r1⟩ := trodAll_cons r0
  obtain ⟨rfl, rfl, rfl⟩ := trodAll_nil r1
  obtain rfl : args = #[v0, v1] := by cases args; simp_all
  obtain ⟨rfl, rfl⟩ := trodVars_none hV
  obtain ⟨pp0, A01, A02, A03, c01, c02, c03, acc0, gd0, nodes0, rfl, pw0, la0, lg0, ln0, ka0, kg0, kn0, C01, C02, C03, og0, on0⟩ := open_auto (hval 0 26 v0 rfl rfl) h0
  obtain ⟨a1, rfl, rfl, rfl, w1⟩ := open_int Try.underlying3 (hval 1 3 v1 rfl rfl) h1
  replace w1 := wf_i64 w1
  refine (oddsHalves_row W pp0 A01 A02 A03 c01 c02 c03 acc0 gd0 nodes0 a1 ka0 kg0 kn0 C01 C02 C03 on0).mono fun e W' ⟨v, he, hv, hx⟩ => ⟨_, he, ?_⟩
  subst hv
  exact law_post (by kernel_rfl) (by kernel_rfl) rfl Try.underlying4 rfl hW ⟨rfl, rfl, rfl⟩ hx

theorem overOddsHalves : Rows.oddsHalvesRow.holds Try.pinned (OpenSpec.ofChange Rows.oddsHalvesSpec) :=
  OpenClaim.holds_of_wide 6 Try.f6 rfl rfl rfl rfl rfl rfl rfl ⟨rfl, rfl, rfl, rfl, rfl⟩ rfl rfl rfl rfl rfl (by kernel_rfl) Try.func6 (by kernel_rfl)
    (of_decide_eq_true (by kernel_rfl)) (by unfold Func.isWrapper; first | (rw [if_pos (by decide +kernel)]; kernel_rfl) | (rw [if_neg (by decide +kernel)]; exact ⟨rfl, rfl⟩))
    (fun os started H enc _ => liftedOddsHalves os started H enc)

theorem oddsHalves_holds : Rows.OddsHalvesSaid := overOddsHalves
#print axioms oddsHalves_holds
end Go.Proofs.Ytbgpakdldcfhiaa
