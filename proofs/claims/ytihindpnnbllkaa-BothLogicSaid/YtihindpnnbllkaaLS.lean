/- Plain theory: traces in order; two of many are alike. No program. -/
import Derived.Test.YtihindpnnbllkaaPC
set_option linter.all false
set_option linter.unusedVariables false
set_option maxRecDepth 100000
namespace Go.V
open Go

/-! ### the order of traces -/
/-! ### two of many are alike -/
theorem getD_rep' {n j : Nat} : (List.replicate n (-1 : Int)).getD j 0 = if j < n then -1 else 0 := by
  rw [List.getD_eq_getElem?_getD, List.getElem?_replicate]
  by_cases h : j < n <;> simp [h]
theorem pigeon (f : Nat → Nat) (n : Nat) (hf : ∀ i, i ≤ n → f i < n) : ∃ i j, i < j ∧ j ≤ n ∧ f i = f j := by
  refine Classical.byContradiction fun hno => ?_
  have key : ∀ k, k ≤ n + 1 → ∃ ms : List Int, ms.length = n ∧ k ≤ cnt ms ∧ ∀ v, v < n → (0 ≤ ms.getD v 0 → ∃ i, i < k ∧ f i = v) := by
    intro k
    induction k with
    | zero =>
      intro _
      refine ⟨List.replicate n (-1), by simp, by omega, fun v hv h => ?_⟩
      rw [getD_rep'] at h
      split at h <;> omega
    | succ k ih =>
      intro hk
      obtain ⟨ms, h1, h2, h3⟩ := ih (by omega)
      have hfk := hf k (by omega)
      have hneg : ms.getD (f k) 0 < 0 := by
        refine Classical.byContradiction fun c => ?_
        obtain ⟨i, hi, e⟩ := h3 (f k) hfk (by omega)
        exact hno ⟨i, k, hi, by omega, e⟩
      have hset : ∀ j, (ms.set (f k) 0).getD j 0 = if f k = j then 0 else ms.getD j 0 := fun j => getD_set (by omega)
      refine ⟨ms.set (f k) 0, by simpa using h1, ?_, fun v hv h => ?_⟩
      · have := cnt_lt ms (ms.set (f k) 0) (by simp) (fun i hi h0 => by rw [hset]; split <;> omega) (f k) (by omega) hneg (by rw [hset, if_pos rfl]; omega)
        omega
      · rw [hset] at h
        by_cases c : f k = v
        · exact ⟨k, by omega, c⟩
        · rw [if_neg c] at h
          obtain ⟨i, hi, e⟩ := h3 v hv h
          exact ⟨i, by omega, e⟩
  obtain ⟨ms, h1, h2, _⟩ := key (n + 1) (by omega)
  have := cnt_le ms
  omega
end Go.V
