/- Plain theory: a choice's number. No program. -/
import Derived.Test.YtflangjkfaalkaaPR
set_option linter.all false
set_option linter.unusedVariables false
set_option maxRecDepth 100000
namespace Go.V
open Go

/-! ### a choice's number -/
theorem index_l0_ok {N : Nat} {s : List Int} {v : Int} (hs : s.length ≤ 1000000) : ∀ (m : Nat) (x : Int), 0 ≤ x → x ≤ s.length → (s.length : Int) - x < m → (∀ i : Nat, i < s.length → (i : Int) < x → s.getD i 0 ≠ v) →
    Ok (slices_Index_api_Letter_api_Letter_l0 N s v m x) fun r => (r = .inl () ∧ ∀ i : Nat, i < s.length → s.getD i 0 ≠ v) ∨ ∃ k, r = .inr k ∧ 0 ≤ k ∧ k < s.length ∧ s.getD k.toNat 0 = v ∧ ∀ i : Nat, (i : Int) < k → s.getD i 0 ≠ v
  | 0, x, _, _, h, _ => by omega
  | m + 1, x, k0, k1, k2, k3 => by
    unfold slices_Index_api_Letter_api_Letter_l0
    refine Ok.ite (fun hx => ?_) fun hx => Ok.pure (.inl ⟨rfl, fun i h => k3 i h (by omega)⟩)
    refine Ok.ask (by unfold idx; omega) ?_
    refine Ok.ite (fun he => Ok.pure (.inr ⟨x, rfl, k0, hx, he.symm, fun i hi => k3 i (by omega) hi⟩)) fun he => ?_
    refine Ok.ask (by unfold in64; omega) ?_
    refine index_l0_ok hs m _ (by omega) (by omega) (by omega) fun i h1 h2 => ?_
    rcases Int.lt_or_eq_of_le (show (i : Int) ≤ x by omega) with h3 | h3
    · exact k3 i h1 h3
    · subst h3
      exact fun h => he (by simpa using h.symm)
theorem board_Number_ok {N : Nat} (hN : 5000 ≤ N) {m v : Int} (h : 0 ≤ m ∧ m ≤ 15) :
    Ok (board_Number N m v) fun r => (r = (0, 14) ∧ ∀ i : Nat, i < (moves m).length → (moves m).getD i 0 ≠ v) ∨ (r.2 = 0 ∧ 0 ≤ r.1 ∧ r.1 < (moves m).length ∧ (moves m).getD r.1.toNat 0 = v) := by
  have hm := moves_len h
  unfold board_Number
  rw [moves_n hN h]
  simp only [Option.bind_some]
  unfold slices_Index_api_Letter_api_Letter
  obtain ⟨r, e, hr⟩ := index_l0_ok (N := N) (s := moves m) (v := v) (by omega) N 0 (by omega) (by omega) (by omega) fun i _ h => by omega
  rw [e]
  rcases hr with ⟨rfl, hr⟩ | ⟨k, rfl, h1, h2, h3, _⟩
  · exact ⟨_, rfl, .inl ⟨rfl, hr⟩⟩
  · simp only [Option.bind_some, Sum.elim_inr]
    rw [if_neg (by omega)]
    exact ⟨_, rfl, .inr ⟨rfl, h1, h2, h3⟩⟩
theorem moves_inj (m : Fin 16) : ∀ i k : Fin 16, i.val < (moves m.val).length → k.val < (moves m.val).length → (moves m.val).getD i.val 0 = (moves m.val).getD k.val 0 → i = k := by
  revert m
  decide +kernel
theorem board_Number_at {N : Nat} (hN : 5000 ≤ N) {m : Int} (h : 0 ≤ m ∧ m ≤ 15) {i : Int} (h0 : 0 ≤ i) (h1 : i < (moves m).length) : board_Number N m ((moves m).getD i.toNat 0) = some (i, 0) := by
  have hm := moves_len h
  obtain ⟨r, e, hr⟩ := board_Number_ok hN h (v := (moves m).getD i.toNat 0)
  rw [e]
  rcases hr with ⟨_, hr⟩ | ⟨h2, h3, h4, h5⟩
  · exact absurd rfl (hr i.toNat (by omega))
  · obtain ⟨a, rfl⟩ := Int.eq_ofNat_of_zero_le h.1
    have := moves_inj ⟨a, by omega⟩ ⟨r.1.toNat, by omega⟩ ⟨i.toNat, by omega⟩ (by simp; omega) (by simp; omega) h5
    simp at this
    congr 1
    exact Prod.ext (by omega) h2
end Go.V
