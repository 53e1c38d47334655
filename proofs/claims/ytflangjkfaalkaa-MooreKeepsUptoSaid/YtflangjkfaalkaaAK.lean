/- Keys of maps. -/
import Derived.Test.YtflangjkfaalkaaTb
import Derived.Test.YtflangjkfaalkaaAN
set_option linter.all false
set_option linter.unusedVariables false
set_option linter.unnecessarySimpa false
set_option linter.unusedSimpArgs false
namespace Go.V
open Go Go.Proofs
theorem keyNd : Maps.Keyed Try.prog 57 := Maps.Keyed.of_law (deep_law (m := 3) (by decide) (by kernel_rfl) (by kernel_rfl) (by kernel_rfl))
theorem keyNdOf (x : Nd) (h : x.wf) : ∃ l, keyOf Try.prog 57 (ndV x) = some l := by
  obtain ⟨h0, h1, h2⟩ := h
  have h0 := wf64 h0
  have h1 := wf64 h1
  have h2 := wf64 h2
  have hk : Try.prog.keyType 57 = true := by kernel_rfl
  have hf : (ndV x).formed Try.prog 57 = true := by
    unfold ndV
    simp [Value.formed, Try.underlying57]
    kernel_rfl
  have c3 : Try.prog.cellsOf 3 = 1 := by kernel_rfl
  have c64 : Try.prog.cellsOf 57 = 3 := by kernel_rfl
  have h1' : 1 ≤ Try.prog.types.size := by decide +kernel
  obtain ⟨m, ht⟩ : ∃ m, Try.prog.types.size = m + 1 := ⟨Try.prog.types.size - 1, (Nat.sub_add_cancel h1').symm⟩
  have hl : Try.prog.keyLits (m + 1 + 1) 57 (ndV x).cells.toList = some [.int .i64 x.P, .int .i64 x.Lo, .int .i64 x.Hi] := by
    have l1 : ∀ (a : Int), (Lit.int .i64 a).wf = true → Try.prog.keyLits (m + 1) 3 [.int .i64 a] = some [.int .i64 a] := by
      intro a ha
      unfold Program.keyLits
      rw [Try.underlying3]
      simp [ha]
    unfold Program.keyLits
    rw [Try.underlying57]
    simp [c3, c64, ndV, Value.cells, l1 _ h0, l1 _ h1, l1 _ h2]
  refine ⟨.string (keyBytes [.int .i64 x.P, .int .i64 x.Lo, .int .i64 x.Hi]), ?_⟩
  unfold keyOf
  simp only [Try.underlying57, hk, hf, ht, Bool.and_self, if_true]
  rw [hl]
  rfl

theorem eqNd (x y : Nd) (w : World) : (Op.equal 57 (ndV x) (ndV y)).run Try.prog w = .ok (decide (x = y)) w := by
  unfold Op.equal
  rw [show Op.maxDepth = 9998 + 1 + 1 from rfl]
  unfold ndV
  have ht : Try.prog.underlying 57 = some (.struct (Try.prog.fieldsOf 57)) := by kernel_rfl
  have hf : (Try.prog.fieldsOf 57).toList = (match Try.prog.underlying 57 with | some (.struct fs) => fs.toList | _ => []) := by kernel_rfl
  rw [run_equalIn_struct w (9998 + 1) _ _ _ ht (by kernel_rfl), hf, Try.underlying57]
  have hp : ∀ (cs : Array Value) (k : Nat) (n : Int), cs[k]? = some (.int .i64 n) → (part 3 cs k).run Try.prog w = .ok (.int .i64 n) w := by
    intro cs k n h
    have hag : (isAgg 3).run Try.prog w = .ok false w := by
      unfold isAgg
      simp [run_underlying Try.underlying3, Result.andThen]
    unfold part
    simp [hag, h, Result.andThen]
  have he : ∀ a b : Int, (Op.equalIn (9998 + 1) 3 (.int .i64 a) (.int .i64 b)).run Try.prog w = .ok (a == b) w := fun a b => run_equalIn_int w 9998 _ _ .i64 a b Try.underlying3
  have q0 := hp #[.int .i64 x.P, .int .i64 x.Lo, .int .i64 x.Hi] 0 x.P rfl
  have q1 := hp #[.int .i64 x.P, .int .i64 x.Lo, .int .i64 x.Hi] 1 x.Lo rfl
  have q2 := hp #[.int .i64 x.P, .int .i64 x.Lo, .int .i64 x.Hi] 2 x.Hi rfl
  have r0 := hp #[.int .i64 y.P, .int .i64 y.Lo, .int .i64 y.Hi] 0 y.P rfl
  have r1 := hp #[.int .i64 y.P, .int .i64 y.Lo, .int .i64 y.Hi] 1 y.Lo rfl
  have r2 := hp #[.int .i64 y.P, .int .i64 y.Lo, .int .i64 y.Hi] 2 y.Hi rfl
  have hxy : (x = y) ↔ (x.P = y.P ∧ x.Lo = y.Lo ∧ x.Hi = y.Hi) := by
    cases x; cases y; simp
  simp [Op.eqFields, q0, q1, q2, r0, r1, r2, he, Result.andThen]
  by_cases e0 : x.P = y.P <;> by_cases e1 : x.Lo = y.Lo <;> by_cases e2 : x.Hi = y.Hi <;> simp [e0, e1, e2, hxy]

theorem grdNd : Try.prog.eqGuardType Try.prog.depth 57 = false := by kernel_rfl
end Go.V
