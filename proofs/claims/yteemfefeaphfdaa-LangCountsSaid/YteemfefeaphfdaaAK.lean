/- Keys of maps. -/
import Derived.Test.YteemfefeaphfdaaTb
import Derived.Test.YteemfefeaphfdaaAN
set_option linter.all false
set_option linter.unusedVariables false
set_option linter.unnecessarySimpa false
set_option linter.unusedSimpArgs false
namespace Go.V
open Go Go.Proofs
theorem keyNd : Maps.Keyed Try.prog 65 := Maps.Keyed.of_law (deep_law (m := 3) (by decide) (by kernel_rfl) (by kernel_rfl) (by kernel_rfl))
theorem keyNdOf (x : Nd) (h : x.wf) : ∃ l, keyOf Try.prog 65 (ndV x) = some l := by
  obtain ⟨h0, h1, h2⟩ := h
  have h0 := wf64 h0
  have h1 := wf64 h1
  have h2 := wf64 h2
  have hk : Try.prog.keyType 65 = true := by kernel_rfl
  have hf : (ndV x).formed Try.prog 65 = true := by
    unfold ndV
    simp [Value.formed, Try.underlying65]
    kernel_rfl
  have c3 : Try.prog.cellsOf 3 = 1 := by kernel_rfl
  have c64 : Try.prog.cellsOf 65 = 3 := by kernel_rfl
  have h1' : 1 ≤ Try.prog.types.size := by decide +kernel
  obtain ⟨m, ht⟩ : ∃ m, Try.prog.types.size = m + 1 := ⟨Try.prog.types.size - 1, (Nat.sub_add_cancel h1').symm⟩
  have hl : Try.prog.keyLits (m + 1 + 1) 65 (ndV x).cells.toList = some [.int .i64 x.P, .int .i64 x.Lo, .int .i64 x.Hi] := by
    have l1 : ∀ (a : Int), (Lit.int .i64 a).wf = true → Try.prog.keyLits (m + 1) 3 [.int .i64 a] = some [.int .i64 a] := by
      intro a ha
      unfold Program.keyLits
      rw [Try.underlying3]
      simp [ha]
    unfold Program.keyLits
    rw [Try.underlying65]
    simp [c3, c64, ndV, Value.cells, l1 _ h0, l1 _ h1, l1 _ h2]
  refine ⟨.string (keyBytes [.int .i64 x.P, .int .i64 x.Lo, .int .i64 x.Hi]), ?_⟩
  unfold keyOf
  simp only [Try.underlying65, hk, hf, ht, Bool.and_self, if_true]
  rw [hl]
  rfl

end Go.V
