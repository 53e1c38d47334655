/- The law PartClasses: whatever the input, it returns true, and the arguments read as before. No condition. -/
import Derived.Test.YteiemajlkgdhaaaV9
import Derived.Test.YteiemajlkgdhaaaAO
import Derived.Test.YteiemajlkgdhaaaUB
import Derived.Test.YteiemajlkgdhaaaLPartClasses
import Derived.Test.YteiemajlkgdhaaaUB
namespace Go.Proofs.Yteiemajlkgdhaaa
open Go Go.V Go.ChangeShapes Go.WideShapes Go.ChangeAt Go.RowKit
set_option linter.all false
set_option linter.unusedVariables false
set_option linter.unnecessarySimpa false
set_option linter.unusedSimpArgs false

theorem ownPartClasses : ownKnob Try.prog.godebug = none := by kernel_rfl
theorem contractPartClasses (H : Type) (enc : TypeId × Value → H) (W : World) (base : Nat) (args : Array Value) (ds gs : List (DataW H)) (before : List MemPlace)
    (hval0 : ∀ (j : Nat) t v, Try.f3.params[j]? = some t → args[j]? = some v → Value.okWide Try.prog W .any base t v)
    (hW : DataW.Whole enc Try.prog Try.f3.params.toList Rows.partClassesSpec.vars false W args.toList ds gs before) (hk : Rows.uptoSmall H (ds ++ gs) = true) :
    Calls Try.prog 3 args W fun e W' => ∃ v, e = .returned v ∧ Rows.partClassesSpec.post enc Try.prog Try.f3 false true false false W args v W' := by
  have hval : ∀ (j : Nat) t v, Try.f3.params[j]? = some t → args[j]? = some v → Value.okWide Try.prog W .any base t v := hval0
  have hW' := hW
  obtain ⟨p, q, hA0, hV, rfl, hfz, hnd⟩ := hW'
  have hA : DataW.TrodAll enc Try.prog W 0 (fun _ => true) true Try.f3.params.toList args.toList ds p := hA0
  rw [Try.params3] at hA hval
  obtain ⟨v0, vs0, d0, ds0, p0, q0, hargs, rfl, rfl, h0, r0⟩ := trodAll_cons hA
  obtain ⟨v1, vs1, d1, ds1, p1, q1, rfl, rfl, rfl, h1, r1⟩ := trodAll_cons r0
  obtain ⟨v2, vs2, d2, ds2, p2, q2, rfl, rfl, rfl, h2, r2⟩ := trodAll_cons r1
  obtain ⟨v3, vs3, d3, ds3, p3, q3, rfl, rfl, rfl, h3, r3⟩ := trodAll_cons r2
  obtain ⟨rfl, rfl, rfl⟩ := trodAll_nil r3
  obtain rfl : args = #[v0, v1, v2, v3] := by cases args; simp_all
  obtain ⟨rfl, rfl⟩ := trodVars_none hV
  obtain ⟨pp0, A01, A02, A03, c01, c02, c03, acc0, gd0, nodes0, rfl, pw0, la0, lg0, ln0, ka0, kg0, kn0, C01, C02, C03, og0, on0⟩ := open_auto (hval 0 26 v0 rfl rfl) h0
  obtain ⟨a1, rfl, rfl, rfl, w1⟩ := open_int Try.underlying3 (hval 1 3 v1 rfl rfl) h1
  replace w1 := wf_i64 w1
  obtain ⟨a2, rfl, rfl, rfl, w2⟩ := open_int Try.underlying3 (hval 2 3 v2 rfl rfl) h2
  replace w2 := wf_i64 w2
  obtain ⟨A3, c3, xs3, rfl, lc3, l3, C3, o3⟩ := open_sl (d := cInt .u8) Try.underlying27 (by kernel_rfl) (by decide) (rd_int Try.underlying38) (hval 3 27 v3 rfl rfl) h3
  replace o3 : ∀ x ∈ xs3, 0 ≤ x ∧ x ≤ 255 := fun x hx => wf_u8 (o3 x hx)
  refine (partClasses_row W pp0 A01 A02 A03 c01 c02 c03 acc0 gd0 nodes0 a1 a2 A3 c3 xs3 ka0 kg0 kn0 lc3 C01 C02 C03 C3 on0 (bulk_slice hk (by simp) Try.underlying27 h3)).mono fun e W' ⟨v, he, hv, hx⟩ => ⟨_, he, ?_⟩
  subst hv
  exact law_post (by kernel_rfl) (by kernel_rfl) rfl Try.underlying4 rfl hW ⟨rfl, rfl, rfl⟩ hx

set_option maxRecDepth 100000 in
theorem liftedPartClasses (os : Os) (started : os.Started) (H : Type) (enc : TypeId × Value → H) (F : Stop.Interp) :
    ReturnsInHanded {} Try.checked os 3 .any ((Rows.OpenSpec.upto Rows.partClassesSpec).pre6 enc Try.prog Try.f3 Rows.partClassesUptoRow.domain false) (((Rows.OpenSpec.upto Rows.partClassesSpec).at F).post enc Try.prog Try.f3 false true false false) := by
  refine returnsInHanded_of_cond (C := Try.checked) (s := Rows.OpenSpec.upto Rows.partClassesSpec) (k := Rows.uptoSmall) rfl ownPartClasses started (by kernel_rfl) Try.func3
    (OpenSpec.witness (enc := enc) (C := Try.checked) (s := Rows.OpenSpec.upto Rows.partClassesSpec) (k := Rows.uptoSmall) rfl false ⟨#[], #[.agg #[.int .i64 0, .slice none 0 0, .slice none 0 0, .slice none 0 0], .int .i64 0, .int .i64 0, .slice none 0 0], []⟩ 8 (by kernel_rfl) (by kernel_rfl) (by kernel_rfl)
      (x := ([.agg [.lit (.int .i64 0), .nil, .nil, .nil], .lit (.int .i64 0), .lit (.int .i64 0), .nil], [], [])) (by kernel_rfl) rfl (by kernel_rfl)) ?_
  intro W base args ds gs before hval hW _ hk _
  exact contractPartClasses H enc W base args ds gs before hval hW hk

theorem overPartClasses : Rows.partClassesUptoRow.holds Try.pinned (Rows.OpenSpec.upto Rows.partClassesSpec) :=
  OpenClaim.holds_of_cond 3 Try.f3 rfl rfl rfl rfl rfl rfl rfl ⟨rfl, rfl, rfl, rfl, rfl⟩ rfl rfl rfl rfl rfl (by kernel_rfl) Try.func3 (by kernel_rfl)
    (of_decide_eq_true (by kernel_rfl)) (by unfold Func.isWrapper; first | (rw [if_pos (by decide +kernel)]; kernel_rfl) | (rw [if_neg (by decide +kernel)]; exact ⟨rfl, rfl⟩))
    (fun os started H enc _ F => liftedPartClasses os started H enc F)

theorem partClasses_holds : Rows.PartClassesUptoSaid := overPartClasses
#print axioms partClasses_holds
end Go.Proofs.Yteiemajlkgdhaaa
