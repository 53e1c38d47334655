/- Plain theory: traces in order; two of many are alike. No program. -/
import Derived.Test.YtldjjbgnicknkaaLT
set_option linter.all false
set_option linter.unusedVariables false
set_option maxRecDepth 100000
namespace Go.V
open Go

/-! ### the order of traces -/
def llt : List Nat → List Nat → Prop
  | [], _ => False
  | _ :: _, [] => False
  | a :: v, b :: w => a < b ∨ (a = b ∧ llt v w)
theorem llt_irrefl : ∀ v : List Nat, ¬ llt v v
  | [], h => h
  | a :: v, h => by
    rcases h with h | ⟨_, h⟩
    · omega
    · exact llt_irrefl v h
theorem llt_trans : ∀ {u v w : List Nat}, llt u v → llt v w → llt u w
  | [], _, _, h, _ => h.elim
  | _ :: _, [], _, h, _ => h.elim
  | _ :: _, _ :: _, [], _, h => h.elim
  | a :: u, b :: v, c :: w, h1, h2 => by
    rcases h1 with h1 | ⟨h1, h1'⟩ <;> rcases h2 with h2 | ⟨h2, h2'⟩
    · exact .inl (by omega)
    · exact .inl (by omega)
    · exact .inl (by omega)
    · exact .inr ⟨by omega, llt_trans h1' h2'⟩
theorem llt_total : ∀ {v w : List Nat}, v.length = w.length → v ≠ w → llt v w ∨ llt w v
  | [], [], _, h => absurd rfl h
  | [], _ :: _, h, _ => by simp at h
  | _ :: _, [], h, _ => by simp at h
  | a :: v, b :: w, h, hn => by
    rcases Nat.lt_trichotomy a b with c | c | c
    · exact .inl (.inl c)
    · subst c
      rcases llt_total (v := v) (w := w) (by simpa using h) (fun e => hn (by rw [e])) with d | d
      · exact .inl (.inr ⟨rfl, d⟩)
      · exact .inr (.inr ⟨rfl, d⟩)
    · exact .inr (.inl c)
theorem llt_snoc : ∀ {v w : List Nat} {a b : Nat}, v.length = w.length → (llt (v ++ [a]) (w ++ [b]) ↔ llt v w ∨ (v = w ∧ a < b))
  | [], [], a, b, _ => by
    show (a < b ∨ (a = b ∧ False)) ↔ False ∨ _
    constructor
    · rintro (h | ⟨_, h⟩)
      · exact .inr ⟨rfl, h⟩
      · exact h.elim
    · rintro (h | ⟨_, h⟩)
      · exact h.elim
      · exact .inl h
  | [], _ :: _, _, _, h => by simp at h
  | _ :: _, [], _, _, h => by simp at h
  | x :: v, y :: w, a, b, h => by
    have ih := llt_snoc (v := v) (w := w) (a := a) (b := b) (by simpa using h)
    show (x < y ∨ (x = y ∧ llt (v ++ [a]) (w ++ [b]))) ↔ (x < y ∨ (x = y ∧ llt v w)) ∨ _
    rw [ih]
    constructor
    · rintro (h | ⟨h1, h | ⟨h2, h3⟩⟩)
      · exact .inl (.inl h)
      · exact .inl (.inr ⟨h1, h⟩)
      · exact .inr ⟨by rw [h1, h2], h3⟩
    · rintro ((h | ⟨h1, h⟩) | ⟨h1, h2⟩)
      · exact .inl h
      · exact .inr ⟨h1, .inl h⟩
      · exact .inr ⟨(List.cons.inj h1).1, .inr ⟨(List.cons.inj h1).2, h2⟩⟩
/-- a trace stands ahead of another one -/
def slt (v w : List Nat) : Prop := v.length < w.length ∨ (v.length = w.length ∧ llt v w)
theorem slt_irrefl (v : List Nat) : ¬ slt v v := fun h => h.elim (fun h => by omega) fun h => llt_irrefl v h.2
theorem slt_trans {u v w : List Nat} (h1 : slt u v) (h2 : slt v w) : slt u w := by
  rcases h1 with h1 | ⟨h1, h1'⟩ <;> rcases h2 with h2 | ⟨h2, h2'⟩
  · exact .inl (by omega)
  · exact .inl (by omega)
  · exact .inl (by omega)
  · exact .inr ⟨by omega, llt_trans h1' h2'⟩
theorem slt_total {v w : List Nat} (h : v ≠ w) : slt v w ∨ slt w v := by
  rcases Nat.lt_trichotomy v.length w.length with c | c | c
  · exact .inl (.inl c)
  · exact (llt_total c h).imp (fun d => .inr ⟨c, d⟩) fun d => .inr ⟨c.symm, d⟩
  · exact .inr (.inl c)
theorem slt_snoc {v w : List Nat} {a b : Nat} : slt (v ++ [a]) (w ++ [b]) ↔ slt v w ∨ (v = w ∧ a < b) := by
  unfold slt
  rw [List.length_append, List.length_append]
  simp only [List.length_singleton]
  constructor
  · rintro (h | ⟨h1, h2⟩)
    · exact .inl (.inl (by omega))
    · rcases (llt_snoc (by omega)).1 h2 with h | h
      · exact .inl (.inr ⟨by omega, h⟩)
      · exact .inr h
  · rintro ((h | ⟨h1, h2⟩) | ⟨h1, h2⟩)
    · exact .inl (by omega)
    · exact .inr ⟨by omega, (llt_snoc h1).2 (.inl h2)⟩
    · exact .inr ⟨by rw [h1], (llt_snoc (by rw [h1])).2 (.inr ⟨h1, h2⟩)⟩
theorem slt_nil {v : List Nat} (h : v ≠ []) : slt [] v := by
  cases v with
  | nil => exact absurd rfl h
  | cons a v => exact .inl (by simp)
theorem not_slt_nil {v : List Nat} : ¬ slt v [] := by
  rintro (h | ⟨h1, h2⟩)
  · simp at h
  · cases v with
    | nil => exact h2
    | cons a v => simp at h1

/-! ### two of many are alike -/
theorem getD_rep' {n j : Nat} : (List.replicate n (-1 : Int)).getD j 0 = if j < n then -1 else 0 := by
  rw [List.getD_eq_getElem?_getD, List.getElem?_replicate]
  by_cases h : j < n <;> simp [h]
theorem pigeon (f : Nat → Nat) (n : Nat) (hf : ∀ i, i ≤ n → f i < n) : ∃ i j, i < j ∧ j ≤ n ∧ f i = f j := by
  refine Classical.byContradiction fun hno => ?_
  have key : ∀ k, k ≤ n + 1 → ∃ ms : List Int, ms.length = n ∧ k ≤ cnt ms ∧ ∀ v, v < n → (0 ≤ ms.getD v 0 → ∃ i, i < k ∧ f i = v) := by
    intro k
    induction k with
    | zero =>
      intro _
      refine ⟨List.replicate n (-1), by simp, by omega, fun v hv h => ?_⟩
      rw [getD_rep'] at h
      split at h <;> omega
    | succ k ih =>
      intro hk
      obtain ⟨ms, h1, h2, h3⟩ := ih (by omega)
      have hfk := hf k (by omega)
      have hneg : ms.getD (f k) 0 < 0 := by
        refine Classical.byContradiction fun c => ?_
        obtain ⟨i, hi, e⟩ := h3 (f k) hfk (by omega)
        exact hno ⟨i, k, hi, by omega, e⟩
      have hset : ∀ j, (ms.set (f k) 0).getD j 0 = if f k = j then 0 else ms.getD j 0 := fun j => getD_set (by omega)
      refine ⟨ms.set (f k) 0, by simpa using h1, ?_, fun v hv h => ?_⟩
      · have := cnt_lt ms (ms.set (f k) 0) (by simp) (fun i hi h0 => by rw [hset]; split <;> omega) (f k) (by omega) hneg (by rw [hset, if_pos rfl]; omega)
        omega
      · rw [hset] at h
        by_cases c : f k = v
        · exact ⟨k, by omega, c⟩
        · rw [if_neg c] at h
          obtain ⟨i, hi, e⟩ := h3 v hv h
          exact ⟨i, by omega, e⟩
  obtain ⟨ms, h1, h2, _⟩ := key (n + 1) (by omega)
  have := cnt_le ms
  omega
end Go.V
