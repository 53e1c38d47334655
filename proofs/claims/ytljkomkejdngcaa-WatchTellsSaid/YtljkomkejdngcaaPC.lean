/- Plain theory: lists and counting. No program. -/
import Derived.Test.YtljkomkejdngcaaPT
set_option linter.all false
set_option linter.unusedVariables false
set_option maxRecDepth 100000
namespace Go.V
open Go

theorem getD_set {α : Type} {xs : List α} {i j : Nat} {v d : α} (h : i < xs.length) : (xs.set i v).getD j d = if i = j then v else xs.getD j d := by
  rw [List.getD_eq_getElem?_getD, List.getElem?_set, List.getD_eq_getElem?_getD]
  by_cases e : i = j
  · subst e; simp [h]
  · simp [e]
theorem getD_rep {α : Type} {n j : Nat} {z : α} : (List.replicate n z).getD j z = z := by
  rw [List.getD_eq_getElem?_getD, List.getElem?_replicate]
  by_cases h : j < n <;> simp [h]
theorem ext_getD {α : Type} {xs ys : List α} (d : α) (hl : xs.length = ys.length) (h : ∀ i, i < xs.length → xs.getD i d = ys.getD i d) : xs = ys := by
  apply List.ext_getElem hl
  intro i h1 h2
  have := h i h1
  simpa [List.getD_eq_getElem?_getD, List.getElem?_eq_getElem h1, List.getElem?_eq_getElem h2] using this

def cnt : List Int → Nat
  | [] => 0
  | x :: xs => (if 0 ≤ x then 1 else 0) + cnt xs
theorem cnt_le : ∀ (xs : List Int), cnt xs ≤ xs.length
  | [] => Nat.le_refl _
  | x :: xs => by have := cnt_le xs; unfold cnt; simp only [List.length_cons]; split <;> omega
theorem cnt_mono : ∀ (xs ys : List Int), xs.length = ys.length → (∀ i : Nat, i < xs.length → 0 ≤ xs.getD i 0 → 0 ≤ ys.getD i 0) → cnt xs ≤ cnt ys
  | [], [], _, _ => Nat.le_refl _
  | [], y :: ys, h, _ => by simp at h
  | x :: xs, [], h, _ => by simp at h
  | x :: xs, y :: ys, h, hi => by
    have h1 := cnt_mono xs ys (by simpa using h) fun i h1 h2 => by have := hi (i + 1) (by simpa using h1); simpa using this (by simpa using h2)
    have h2 := hi 0 (by simp)
    simp at h2
    unfold cnt
    split <;> split <;> omega
theorem cnt_lt : ∀ (xs ys : List Int), xs.length = ys.length → (∀ i : Nat, i < xs.length → 0 ≤ xs.getD i 0 → 0 ≤ ys.getD i 0) → (j : Nat) → j < xs.length → xs.getD j 0 < 0 → 0 ≤ ys.getD j 0 → cnt xs + 1 ≤ cnt ys
  | [], ys, _, _, j, h, _, _ => by simp at h
  | x :: xs, [], h, _, _, _, _, _ => by simp at h
  | x :: xs, y :: ys, h, hi, 0, _, h3, h4 => by
    have h1 := cnt_mono xs ys (by simpa using h) fun i h1 h2 => by have := hi (i + 1) (by simpa using h1); simpa using this (by simpa using h2)
    simp at h3 h4
    unfold cnt
    rw [if_neg (by omega), if_pos h4]
    omega
  | x :: xs, y :: ys, h, hi, j + 1, hj, h3, h4 => by
    have h1 := cnt_lt xs ys (by simpa using h) (fun i h1 h2 => by have := hi (i + 1) (by simpa using h1); simpa using this (by simpa using h2)) j (by simpa using hj) (by simpa using h3) (by simpa using h4)
    have h2 := hi 0 (by simp)
    simp at h2
    unfold cnt
    split <;> split <;> omega

theorem getD_snoc {α : Type} {xs : List α} {v d : α} {j : Nat} : (xs ++ [v]).getD j d = if j = xs.length then v else xs.getD j d := by
  rw [List.getD_eq_getElem?_getD, List.getD_eq_getElem?_getD]
  by_cases h : j = xs.length
  · subst h; simp
  · rw [if_neg h]
    by_cases h2 : j < xs.length
    · rw [List.getElem?_append_left h2]
    · rw [List.getElem?_append_right (by omega), List.getElem?_eq_none (by simp; omega), List.getElem?_eq_none (by omega)]

end Go.V
