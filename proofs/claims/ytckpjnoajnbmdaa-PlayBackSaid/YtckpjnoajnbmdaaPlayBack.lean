/- The law PlayBack: whatever the input, it returns true, and the arguments read as before. No condition. -/
import Derived.Test.YtckpjnoajnbmdaaV9
import Derived.Test.YtckpjnoajnbmdaaAS
import Derived.Test.YtckpjnoajnbmdaaLPlayBack
import Derived.Test.YtckpjnoajnbmdaaRows
namespace Go.Proofs.Ytckpjnoajnbmdaa
open Go Go.V Go.ChangeShapes Go.WideShapes Go.ChangeAt Go.RowKit
set_option linter.all false
set_option linter.unusedVariables false
set_option linter.unnecessarySimpa false
set_option linter.unusedSimpArgs false

theorem ownPlayBack : ownKnob Try.prog.godebug = none := by kernel_rfl
set_option maxRecDepth 100000 in
theorem liftedPlayBack (os : Os) (started : os.Started) (H : Type) (enc : TypeId × Value → H) :
    ReturnsInHanded {} Try.checked os 5 .any (Rows.playBackSpec.pre6 enc Try.prog Try.f5 Rows.playBackRow.domain false) (Rows.playBackSpec.post enc Try.prog Try.f5 false true false false) := by
  refine returnsInHanded_of_change (C := Try.checked) ownPlayBack started (by kernel_rfl) Try.func5
    (ChangeSpec.witness6 (enc := enc) (C := Try.checked) false ⟨#[], #[.agg #[.int .i64 0, .slice none 0 0, .slice none 0 0, .slice none 0 0], .agg #[.int .u8 0, .int .u8 0], .slice none 0 0, .int .u64 0], []⟩ 8 (by kernel_rfl) (by kernel_rfl) (by kernel_rfl) (by kernel_rfl)) ?_
  intro W base args ds gs before hval0 hW hcnd _
  have hval : ∀ (j : Nat) t v, Try.f5.params[j]? = some t → args[j]? = some v → Value.okWide Try.prog W .any base t v := hval0
  have hW' := hW
  obtain ⟨p, q, hA0, hV, rfl, hfz, hnd⟩ := hW'
  have hA : DataW.TrodAll enc Try.prog W 0 (fun _ => true) true Try.f5.params.toList args.toList ds p := hA0
  rw [Try.params5] at hA hval
  obtain ⟨v0, vs0, d0, ds0, p0, q0, hargs, rfl, rfl, h0, r0⟩ := trodAll_cons hA
  obtain ⟨v1, vs1, d1, ds1, p1, q1, rfl, rfl, rfl, h1, r1⟩ := trodAll_cons r0
  obtain ⟨v2, vs2, d2, ds2, p2, q2, rfl, rfl, rfl, h2, r2⟩ := trodAll_cons r1
  obtain ⟨v3, vs3, d3, ds3, p3, q3, rfl, rfl, rfl, h3, r3⟩ := trodAll_cons r2
  obtain ⟨rfl, rfl, rfl⟩ := trodAll_nil r3
  obtain rfl : args = #[v0, v1, v2, v3] := by cases args; simp_all
  obtain ⟨rfl, rfl⟩ := trodVars_none hV
  obtain ⟨pp0, A01, A02, A03, c01, c02, c03, acc0, gd0, nodes0, rfl, pw0, la0, lg0, ln0, ka0, kg0, kn0, C01, C02, C03, og0, on0⟩ := open_auto (hval 0 26 v0 rfl rfl) h0
  obtain ⟨e1, s1, rfl, we1, ws1⟩ := open_split (hval 1 29 v1 rfl rfl) h1
  obtain ⟨A2, c2, xs2, rfl, lc2, l2, C2, o2⟩ := open_sl (d := cInt .u64) Try.underlying59 (by kernel_rfl) (by decide) (rd_int Try.underlying54) (hval 2 59 v2 rfl rfl) h2
  replace o2 : ∀ x ∈ xs2, 0 ≤ x ∧ x ≤ 18446744073709551615 := fun x hx => wf_u64 (o2 x hx)
  obtain ⟨a3, rfl, rfl, rfl, w3⟩ := open_int Try.underlying54 (hval 3 54 v3 rfl rfl) h3
  replace w3 := wf_u64 w3
  refine (playBack_row W pp0 A01 A02 A03 c01 c02 c03 acc0 gd0 nodes0 e1 s1 A2 c2 xs2 a3 ka0 kg0 kn0 lc2 C01 C02 C03 C2 we1 ws1 on0 o2 w3).mono fun e W' ⟨v, he, hv, hx⟩ => ⟨_, he, ?_⟩
  subst hv
  exact law_post (by kernel_rfl) (by kernel_rfl) rfl Try.underlying4 rfl hW ⟨rfl, rfl, rfl⟩ hx

theorem overPlayBack : Rows.playBackRow.holds Try.pinned (OpenSpec.ofChange Rows.playBackSpec) :=
  OpenClaim.holds_of_wide 5 Try.f5 rfl rfl rfl rfl rfl rfl rfl ⟨rfl, rfl, rfl, rfl, rfl⟩ rfl rfl rfl rfl rfl (by kernel_rfl) Try.func5 (by kernel_rfl)
    (of_decide_eq_true (by kernel_rfl)) (by unfold Func.isWrapper; first | (rw [if_pos (by decide +kernel)]; kernel_rfl) | (rw [if_neg (by decide +kernel)]; exact ⟨rfl, rfl⟩))
    (fun os started H enc _ => liftedPlayBack os started H enc)

theorem playBack_holds : Rows.PlayBackSaid := overPlayBack
#print axioms playBack_holds
end Go.Proofs.Ytckpjnoajnbmdaa
