/- The law LangKnown: whatever the input, it returns true, and the arguments read as before. No condition. -/
import Derived.Test.YteemfefeaphfdaaV9
import Derived.Test.YteemfefeaphfdaaLLangKnown
import Derived.Test.YteemfefeaphfdaaRows
namespace Go.Proofs.Yteemfefeaphfdaa
open Go Go.V Go.ChangeShapes Go.WideShapes Go.ChangeAt Go.RowKit
set_option linter.all false
set_option linter.unusedVariables false
set_option linter.unnecessarySimpa false
set_option linter.unusedSimpArgs false

theorem ownLangKnown : ownKnob Try.prog.godebug = none := by kernel_rfl
set_option maxRecDepth 100000 in
theorem liftedLangKnown (os : Os) (started : os.Started) (H : Type) (enc : TypeId × Value → H) :
    ReturnsInHanded {} Try.checked os 6 .any (Rows.langKnownSpec.pre6 enc Try.prog Try.f6 Rows.langKnownRow.domain false) (Rows.langKnownSpec.post enc Try.prog Try.f6 false true false false) := by
  refine returnsInHanded_of_change (C := Try.checked) ownLangKnown started (by kernel_rfl) Try.func6
    (ChangeSpec.witness6 (enc := enc) (C := Try.checked) false ⟨#[], #[], []⟩ 8 (by kernel_rfl) (by kernel_rfl) (by kernel_rfl) (by kernel_rfl)) ?_
  intro W base args ds gs before hval0 hW hcnd _
  have hval : ∀ (j : Nat) t v, Try.f6.params[j]? = some t → args[j]? = some v → Value.okWide Try.prog W .any base t v := hval0
  have hW' := hW
  obtain ⟨p, q, hA0, hV, rfl, hfz, hnd⟩ := hW'
  have hA : DataW.TrodAll enc Try.prog W 0 (fun _ => true) true Try.f6.params.toList args.toList ds p := hA0
  rw [Try.params6] at hA hval
  obtain ⟨hargs, rfl, rfl⟩ := trodAll_nil hA
  obtain rfl : args = #[] := by cases args; simp_all
  obtain ⟨rfl, rfl⟩ := trodVars_none hV
  refine (law19_LangKnown_row W).mono fun e W' ⟨v, he, hv, hx⟩ => ⟨_, he, ?_⟩
  subst hv
  exact law_post (by kernel_rfl) (by kernel_rfl) rfl Try.underlying4 rfl hW ⟨rfl, rfl, rfl⟩ hx

theorem overLangKnown : Rows.langKnownRow.holds Try.pinned (OpenSpec.ofChange Rows.langKnownSpec) :=
  OpenClaim.holds_of_wide 6 Try.f6 rfl rfl rfl rfl rfl rfl rfl ⟨rfl, rfl, rfl, rfl, rfl⟩ rfl rfl rfl rfl rfl (by kernel_rfl) Try.func6 (by kernel_rfl)
    (of_decide_eq_true (by kernel_rfl)) (by unfold Func.isWrapper; first | (rw [if_pos (by decide +kernel)]; kernel_rfl) | (rw [if_neg (by decide +kernel)]; exact ⟨rfl, rfl⟩))
    (fun os started H enc _ => liftedLangKnown os started H enc)

theorem langKnown_holds : Rows.LangKnownSaid := overLangKnown
#print axioms langKnown_holds
end Go.Proofs.Yteemfefeaphfdaa
