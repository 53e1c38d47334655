/- The law StratKeeps: whatever the input, it returns true, and the arguments read as before. No condition. -/
import Derived.Test.YtclijiacfmljlaaV9
import Derived.Test.YtclijiacfmljlaaAT
import Derived.Test.YtclijiacfmljlaaUB
import Derived.Test.YtclijiacfmljlaaLStratKeeps
import Derived.Test.YtclijiacfmljlaaUB
namespace Go.Proofs.Ytclijiacfmljlaa
open Go Go.V Go.ChangeShapes Go.WideShapes Go.ChangeAt Go.RowKit
set_option linter.all false
set_option linter.unusedVariables false
set_option linter.unnecessarySimpa false
set_option linter.unusedSimpArgs false

theorem ownStratKeeps : ownKnob Try.prog.godebug = none := by kernel_rfl
set_option maxRecDepth 100000 in
theorem contractStratKeeps (H : Type) (enc : TypeId × Value → H) (W : World) (base : Nat) (args : Array Value) (ds gs : List (DataW H)) (before : List MemPlace)
    (hval0 : ∀ (j : Nat) t v, Try.f5.params[j]? = some t → args[j]? = some v → Value.okWide Try.prog W .any base t v)
    (hW : DataW.Whole enc Try.prog Try.f5.params.toList Rows.stratKeepsSpec.vars false W args.toList ds gs before) (hk : Rows.uptoSmall H (ds ++ gs) = true) :
    Calls Try.prog 5 args W fun e W' => ∃ v, e = .returned v ∧ Rows.stratKeepsSpec.post enc Try.prog Try.f5 false true false false W args v W' := by
  have hval : ∀ (j : Nat) t v, Try.f5.params[j]? = some t → args[j]? = some v → Value.okWide Try.prog W .any base t v := hval0
  have hW' := hW
  obtain ⟨p, q, hA0, hV, rfl, hfz, hnd⟩ := hW'
  have hA : DataW.TrodAll enc Try.prog W 0 (fun _ => true) true Try.f5.params.toList args.toList ds p := hA0
  rw [Try.params5] at hA hval
  obtain ⟨v0, vs0, d0, ds0, p0, q0, hargs, rfl, rfl, h0, r0⟩ := trodAll_cons hA
  obtain ⟨v1, vs1, d1, ds1, p1, q1, rfl, rfl, rfl, h1, r1⟩ := trodAll_cons r0
  obtain ⟨v2, vs2, d2, ds2, p2, q2, rfl, rfl, rfl, h2, r2⟩ := trodAll_cons r1
  obtain ⟨v3, vs3, d3, ds3, p3, q3, rfl, rfl, rfl, h3, r3⟩ := trodAll_cons r2
  obtain ⟨rfl, rfl, rfl⟩ := trodAll_nil r3
  obtain rfl : args = #[v0, v1, v2, v3] := by cases args; simp_all
  obtain ⟨rfl, rfl⟩ := trodVars_none hV
  obtain ⟨pp0, A01, A02, A03, c01, c02, c03, acc0, gd0, nodes0, rfl, pw0, la0, lg0, ln0, ka0, kg0, kn0, C01, C02, C03, og0, on0⟩ := open_auto (hval 0 26 v0 rfl rfl) h0
  obtain ⟨e1, s1, rfl, we1, ws1⟩ := open_split (hval 1 29 v1 rfl rfl) h1
  obtain ⟨b2, A21, A22, A23, c21, c22, c23, rk2, rp2, ch2, rfl, k21, k22, k23, C21, C22, C23, o21, o22, o23, o24⟩ := open_strat (hval 2 33 v2 rfl rfl) h2
  obtain ⟨A3, c3, xs3, rfl, lc3, l3, C3, o3⟩ := open_sl (d := cInt .i64) Try.underlying23 (by kernel_rfl) (by decide) (rd_int Try.underlying3) (hval 3 23 v3 rfl rfl) h3
  replace o3 : ∀ x ∈ xs3, -9223372036854775808 ≤ x ∧ x ≤ 9223372036854775807 := fun x hx => wf_i64 (o3 x hx)
  refine (stratKeeps_row W pp0 A01 A02 A03 c01 c02 c03 acc0 gd0 nodes0 e1 s1 b2 A21 A22 A23 c21 c22 c23 rk2 rp2 ch2 A3 c3 xs3 ka0 kg0 kn0 k21 k22 k23 lc3 C01 C02 C03 C21 C22 C23 C3 we1 ws1 on0).mono fun e W' ⟨v, he, hv, hx⟩ => ⟨_, he, ?_⟩
  subst hv
  exact law_post (by kernel_rfl) (by kernel_rfl) rfl Try.underlying4 rfl hW ⟨rfl, rfl, rfl⟩ hx

set_option maxRecDepth 100000 in
theorem liftedStratKeeps (os : Os) (started : os.Started) (H : Type) (enc : TypeId × Value → H) (F : Stop.Interp) :
    ReturnsInHanded {} Try.checked os 5 .any ((Rows.OpenSpec.upto Rows.stratKeepsSpec).pre6 enc Try.prog Try.f5 Rows.stratKeepsUptoRow.domain false) (((Rows.OpenSpec.upto Rows.stratKeepsSpec).at F).post enc Try.prog Try.f5 false true false false) := by
  refine returnsInHanded_of_cond (C := Try.checked) (s := Rows.OpenSpec.upto Rows.stratKeepsSpec) (k := Rows.uptoSmall) rfl ownStratKeeps started (by kernel_rfl) Try.func5
    (OpenSpec.witness (enc := enc) (C := Try.checked) (s := Rows.OpenSpec.upto Rows.stratKeepsSpec) (k := Rows.uptoSmall) rfl false ⟨#[], #[.agg #[.int .i64 0, .slice none 0 0, .slice none 0 0, .slice none 0 0], .agg #[.int .u8 0, .int .u8 0], .agg #[.bool false, .slice none 0 0, .slice none 0 0, .slice none 0 0], .slice none 0 0], []⟩ 8 (by kernel_rfl) (by kernel_rfl) (by kernel_rfl)
      (x := ([.agg [.lit (.int .i64 0), .nil, .nil, .nil], .agg [.lit (.int .u8 0), .lit (.int .u8 0)], .agg [.lit (.bool false), .nil, .nil, .nil], .nil], [], [])) (by kernel_rfl) rfl (by kernel_rfl)) ?_
  intro W base args ds gs before hval hW _ hk _
  exact contractStratKeeps H enc W base args ds gs before hval hW hk

theorem overStratKeeps : Rows.stratKeepsUptoRow.holds Try.pinned (Rows.OpenSpec.upto Rows.stratKeepsSpec) :=
  OpenClaim.holds_of_cond 5 Try.f5 rfl rfl rfl rfl rfl rfl rfl ⟨rfl, rfl, rfl, rfl, rfl⟩ rfl rfl rfl rfl rfl (by kernel_rfl) Try.func5 (by kernel_rfl)
    (of_decide_eq_true (by kernel_rfl)) (by unfold Func.isWrapper; first | (rw [if_pos (by decide +kernel)]; kernel_rfl) | (rw [if_neg (by decide +kernel)]; exact ⟨rfl, rfl⟩))
    (fun os started H enc _ F => liftedStratKeeps os started H enc F)

theorem stratKeeps_holds : Rows.StratKeepsUptoSaid := overStratKeeps
#print axioms stratKeeps_holds
end Go.Proofs.Ytclijiacfmljlaa
