/- Structs of this seat: their equality. -/
import Derived.Test.YtllkojpinpojiaaKN
set_option linter.all false
set_option linter.unusedVariables false
set_option linter.unnecessarySimpa false
set_option linter.unusedSimpArgs false
set_option maxRecDepth 100000
namespace Go.V
open Go Go.Proofs
theorem grdS33 : Try.prog.eqGuardType Try.prog.depth 33 = false := by kernel_rfl
theorem eqS33 (x y : Int × Int) (w : World) : (Op.equal 33 (.agg #[.int .u8 x.1, .int .u8 x.2]) (.agg #[.int .u8 y.1, .int .u8 y.2])).run Try.prog w = .ok (decide (x = y)) w := by
  unfold Op.equal
  rw [show Op.maxDepth = 9998 + 1 + 1 from rfl]
  have ht : Try.prog.underlying 33 = some (.struct (Try.prog.fieldsOf 33)) := by kernel_rfl
  have hf : (Try.prog.fieldsOf 33).toList = (match Try.prog.underlying 33 with | some (.struct fs) => fs.toList | _ => []) := by kernel_rfl
  rw [run_equalIn_struct w (9998 + 1) _ _ _ ht (by kernel_rfl), hf, Try.underlying33]
  have hp0 : ∀ (cs : Array Value) (k : Nat) (n : Int), cs[k]? = some (.int .u8 n) → (part 27 cs k).run Try.prog w = .ok (.int .u8 n) w := by
    intro cs k n h
    have hag : (isAgg 27).run Try.prog w = .ok false w := by unfold isAgg; simp [run_underlying Try.underlying27, Result.andThen]
    unfold part; simp [hag, h, Result.andThen]
  have he0 : ∀ a b : Int, (Op.equalIn (9998 + 1) 27 (.int .u8 a) (.int .u8 b)).run Try.prog w = .ok (a == b) w := fun a b => run_equalIn_int w 9998 _ _ .u8 a b Try.underlying27
  have q0 := hp0 #[.int .u8 x.1, .int .u8 x.2] 0 x.1 rfl
  have r0 := hp0 #[.int .u8 y.1, .int .u8 y.2] 0 y.1 rfl
  have hp1 : ∀ (cs : Array Value) (k : Nat) (n : Int), cs[k]? = some (.int .u8 n) → (part 27 cs k).run Try.prog w = .ok (.int .u8 n) w := by
    intro cs k n h
    have hag : (isAgg 27).run Try.prog w = .ok false w := by unfold isAgg; simp [run_underlying Try.underlying27, Result.andThen]
    unfold part; simp [hag, h, Result.andThen]
  have he1 : ∀ a b : Int, (Op.equalIn (9998 + 1) 27 (.int .u8 a) (.int .u8 b)).run Try.prog w = .ok (a == b) w := fun a b => run_equalIn_int w 9998 _ _ .u8 a b Try.underlying27
  have q1 := hp1 #[.int .u8 x.1, .int .u8 x.2] 1 x.2 rfl
  have r1 := hp1 #[.int .u8 y.1, .int .u8 y.2] 1 y.2 rfl
  have hxy : (x = y) ↔ (x.1 = y.1 ∧ x.2 = y.2) := by
    obtain ⟨x0, x1⟩ := x; obtain ⟨y0, y1⟩ := y; simp
  simp [Op.eqFields, q0, r0, he0, q1, r1, he1, Result.andThen]
  by_cases e0 : x.1 = y.1 <;> by_cases e1 : x.2 = y.2 <;> simp [e0, e1, hxy]
end Go.V
