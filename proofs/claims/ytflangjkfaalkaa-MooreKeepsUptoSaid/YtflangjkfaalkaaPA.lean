/- Plain theory: ranks. No program. -/
import Derived.Test.YtflangjkfaalkaaPB
set_option linter.all false
set_option linter.unusedVariables false
namespace Go.V
open Go

theorem getD_set {α : Type} {xs : List α} {i j : Nat} {v d : α} (h : i < xs.length) : (xs.set i v).getD j d = if i = j then v else xs.getD j d := by
  rw [List.getD_eq_getElem?_getD, List.getElem?_set, List.getD_eq_getElem?_getD]
  by_cases e : i = j
  · subst e; simp [h]
  · simp [e]
theorem getD_rep {α : Type} {n j : Nat} {z : α} : (List.replicate n z).getD j z = z := by
  rw [List.getD_eq_getElem?_getD, List.getElem?_replicate]
  by_cases h : j < n <;> simp [h]
theorem getD_oob {α : Type} {xs : List α} {j : Nat} {d : α} (h : xs.length ≤ j) : xs.getD j d = d := by
  rw [List.getD_eq_getElem?_getD, List.getElem?_eq_none h]; rfl
theorem ext_getD {α : Type} {xs ys : List α} (d : α) (hl : xs.length = ys.length) (h : ∀ i, i < xs.length → xs.getD i d = ys.getD i d) : xs = ys := by
  apply List.ext_getElem hl
  intro i h1 h2
  have := h i h1
  simpa [List.getD_eq_getElem?_getD, List.getElem?_eq_getElem h1, List.getElem?_eq_getElem h2] using this

/-- where rounds lead: of n states, E choices ahead of S choices -/
structure Game (all : List (List (List Int))) (n E S : Nat) : Prop where
  len : all.length = n
  E1 : 1 ≤ E
  E8 : E ≤ 16
  S1 : 1 ≤ S
  S8 : S ≤ 16
  n1 : 1 ≤ n
  n2 : n ≤ 256
  rows : ∀ q, q < n → (all.getD q []).length = E
  row : ∀ q i, q < n → i < E → ((all.getD q []).getD i []).length = S
  into : ∀ q i k, q < n → i < E → k < S → 0 ≤ ((all.getD q []).getD i []).getD k 0 ∧ ((all.getD q []).getD i []).getD k 0 < n

def allS (nd : List Nd) (gd : List Int) (e s : Int) (n : Nat) : List (List (List Int)) := (List.range n).map fun q : Nat => rowsS nd gd e s (q : Int)

section
variable {N : Nat} {p : Int} {acc : List Bool} {gd : List Int} {nd : List Nd} {s : Int × Int}
theorem allS_get {e s : Int} {n q : Nat} (h : q < n) : (allS nd gd e s n).getD q [] = rowsS nd gd e s (q : Int) := by
  unfold allS
  rw [List.getD_eq_getElem?_getD, List.getElem?_map, List.getElem?_range h]
  rfl
theorem allS_game (hN : 5000 ≤ N) (V : Valid p acc gd nd) (hs : (p, s.1, s.2) ∈ splits) : Game (allS nd gd s.1 s.2 acc.length) acc.length (moves s.1).length (moves s.2).length := by
  have hl := split_le hs
  have h1 := moves_len hl.2.1
  have h2 := moves_len hl.2.2
  refine ⟨by simp [allS], h1.1, h1.2, h2.1, h2.2, V.a1, V.a2, fun q hq => ?_, fun q i hq hi => ?_, fun q i k hq hi hk => ?_⟩
  · rw [allS_get hq, rowsS_len]
  · rw [allS_get hq]; exact (rowsS_row hi).1
  · rw [allS_get hq, (rowsS_row hi).2 k hk]
    exact (guard_Go_ok (N := N) hN V _ (by omega) (by omega)).2

theorem attract_rows_l0_ok (hN : 5000 ≤ N) (V : Valid p acc gd nd) (hB : board_Check N p acc gd nd s = some 0) (hs : (p, s.1, s.2) ∈ splits) : ∀ (m : Nat) (out : List (List (List Int))) (x : Nat), x ≤ acc.length → acc.length - x < m → out.length = x →
    attract_rows_l0 N p acc gd nd s m out (x : Int) = some (.inl (out ++ (List.range' x (acc.length - x)).map fun q : Nat => rowsS nd gd s.1 s.2 (q : Int)))
  | 0, out, x, _, h, _ => by omega
  | m + 1, out, x, k0, k1, k2 => by
    have a2 := V.a2
    unfold attract_rows_l0
    by_cases hx : x < acc.length
    · rw [if_pos (by omega), show (s.1, s.2) = s from rfl, board_Goes_eq hN V hB hs (by omega) (by omega)]
      simp only [Option.bind_some]
      unfold ask
      rw [if_pos trivial, if_pos (by simp; omega), if_pos (by unfold in64; omega)]
      have := attract_rows_l0_ok hN V hB hs m (out ++ [rowsS nd gd s.1 s.2 (x : Int)]) (x + 1) (by omega) (by omega) (by simp; omega)
      rw [show ((x : Int) + 1) = ((x + 1 : Nat) : Int) by omega, this]
      rw [show acc.length - x = (acc.length - (x + 1)) + 1 by omega, List.range'_succ]
      simp
    · rw [if_neg (by omega), show acc.length - x = 0 by omega]
      simp
theorem attract_rows_eq (hN : 5000 ≤ N) (V : Valid p acc gd nd) (hB : board_Check N p acc gd nd s = some 0) (hs : (p, s.1, s.2) ∈ splits) : attract_rows N p acc gd nd s = some (allS nd gd s.1 s.2 acc.length, 0) := by
  have a2 := V.a2
  unfold attract_rows
  rw [show (s.1, s.2) = s from rfl, hB]
  simp only [Option.bind_some]
  rw [if_pos trivial]
  have := attract_rows_l0_ok hN V hB hs N [] 0 (by omega) (by omega) rfl
  rw [show ((0 : Int)) = ((0 : Nat) : Int) from rfl, this]
  simp [allS, List.range_eq_range']
end

/-! ### one round ahead -/
section
variable {N n E S : Nat} {all : List (List (List Int))} {won : List Bool}
theorem Game.row_at (G : Game all n E S) {q i k : Int} (hq : 0 ≤ q) (hq2 : q < n) (hi : 0 ≤ i) (hi2 : i < E) (hk : 0 ≤ k) (hk2 : k < S) : 0 ≤ (((all.getD q.toNat []).getD i.toNat []).getD k.toNat 0) ∧ (((all.getD q.toNat []).getD i.toNat []).getD k.toNat 0) < n :=
  G.into q.toNat i.toNat k.toNat (by omega) (by omega) (by omega)
theorem before_l4_ok (G : Game all n E S) (hw : won.length = n) {q i : Int} (hq : 0 ≤ q) (hq2 : q < n) (hi : 0 ≤ i) (hi2 : i < E) : ∀ (m : Nat) (k : Int), 0 ≤ k → k ≤ S → (S : Int) - k < m → (∀ j : Nat, (j : Int) < k → won.getD (((all.getD q.toNat []).getD i.toNat []).getD j 0).toNat false ≠ true) →
    Ok (attract_before_l4 N all won q i m k) fun r => (r = .inl () ∧ ∀ j, j < S → won.getD (((all.getD q.toNat []).getD i.toNat []).getD j 0).toNat false ≠ true) ∨ ∃ j : Int, r = .inr j ∧ 0 ≤ j ∧ j < S ∧ won.getD (((all.getD q.toNat []).getD i.toNat []).getD j.toNat 0).toNat false = true
  | 0, k, _, _, h, _ => by omega
  | m + 1, k, k0, k1, k2, k3 => by
    have S8 := G.S8
    have hrow := G.row q.toNat i.toNat (by omega) (by omega)
    unfold attract_before_l4
    rw [hrow]
    refine Ok.ite (fun hk => ?_) fun hk => Ok.pure (.inl ⟨rfl, fun j hj => k3 j (by omega)⟩)
    refine Ok.ask (by unfold idx; omega) ?_
    have hin := G.row_at hq hq2 hi hi2 k0 hk
    have h5 : attract_before_f5 N all won q i k = some () := by
      unfold attract_before_f5 ask
      rw [if_pos (by unfold idx; omega)]
    rw [h5]
    simp only [Option.bind_some]
    refine Ok.ite (fun h => Ok.pure (.inr ⟨k, rfl, k0, hk, h⟩)) fun h => ?_
    refine Ok.ask (by unfold in64; omega) ?_
    refine before_l4_ok G hw hq hq2 hi hi2 m _ (by omega) (by omega) (by omega) fun j hj => ?_
    rcases Int.lt_or_eq_of_le (show (j : Int) ≤ k by omega) with h3 | h3
    · exact k3 j h3
    · subst h3; simpa using h
/-- some choice of the second leads to what is won -/
def meets (all : List (List (List Int))) (won : List Bool) (S q i : Nat) : Prop := ∃ k, k < S ∧ won.getD (((all.getD q []).getD i []).getD k 0).toNat false = true
theorem before_f2_ok (hN : 5000 ≤ N) (G : Game all n E S) (hw : won.length = n) {q i : Int} (hq : 0 ≤ q) (hq2 : q < n) (hi : 0 ≤ i) (hi2 : i < E) :
    Ok (attract_before_f2 N all won q i) fun r => (r = true ↔ meets all won S q.toNat i.toNat) := by
  have S8 := G.S8
  unfold attract_before_f2 attract_before_f3
  obtain ⟨r, e, hr⟩ := before_l4_ok (N := N) G hw hq hq2 hi hi2 N 0 (by omega) (by omega) (by omega) fun j h => by omega
  rw [e]
  rcases hr with ⟨rfl, hr⟩ | ⟨j, rfl, h1, h2, h3⟩
  · exact ⟨_, rfl, ⟨fun h => (by simp at h), fun ⟨k, hk, h⟩ => absurd h (hr k hk)⟩⟩
  · exact ⟨_, rfl, ⟨fun _ => ⟨j.toNat, by omega, h3⟩, fun _ => (by simpa using h1)⟩⟩
theorem before_l1_ok (hN : 5000 ≤ N) (G : Game all n E S) (hw : won.length = n) {q : Int} (hq : 0 ≤ q) (hq2 : q < n) : ∀ (m : Nat) (i : Int), 0 ≤ i → i ≤ E → (E : Int) - i < m → (∀ j : Nat, (j : Int) < i → meets all won S q.toNat j) →
    Ok (attract_before_l1 N all won q m i) fun r => (r = .inl () ∧ ∃ j, j < E ∧ ¬ meets all won S q.toNat j) ∨ (r = .inr () ∧ ∀ j, j < E → meets all won S q.toNat j)
  | 0, i, _, _, h, _ => by omega
  | m + 1, i, k0, k1, k2, k3 => by
    have E8 := G.E8
    have hrow := G.rows q.toNat (by omega)
    unfold attract_before_l1
    rw [hrow]
    refine Ok.ite (fun hi => ?_) fun hi => Ok.pure (.inr ⟨rfl, fun j hj => k3 j (by omega)⟩)
    refine Ok.ask (by unfold idx; omega) ?_
    refine (before_f2_ok hN G hw hq hq2 k0 hi).bind fun r hr => ?_
    refine Ok.ite (fun h => ?_) fun h => Ok.pure (.inl ⟨rfl, i.toNat, by omega, fun h2 => h (hr.2 h2)⟩)
    refine Ok.ask (by unfold in64; omega) ?_
    refine before_l1_ok hN G hw hq hq2 m _ (by omega) (by omega) (by omega) fun j hj => ?_
    rcases Int.lt_or_eq_of_le (show (j : Int) ≤ i by omega) with h3 | h3
    · exact k3 j h3
    · have := hr.1 h
      rwa [← h3] at this
def wonNext (all : List (List (List Int))) (won : List Bool) (E S q : Nat) : Prop := ∀ i, i < E → meets all won S q i
theorem before_l0_ok (hN : 5000 ≤ N) (G : Game all n E S) (hw : won.length = n) : ∀ (m : Nat) (out : List Bool) (q : Int), 0 ≤ q → q ≤ n → (n : Int) - q < m → out.length = n → (∀ j : Nat, (j : Int) < q → (out.getD j false = true ↔ wonNext all won E S j)) → (∀ j : Nat, q ≤ j → out.getD j false = false) →
    Ok (attract_before_l0 N all won m out q) fun r => r.length = n ∧ ∀ j, j < n → (r.getD j false = true ↔ wonNext all won E S j)
  | 0, out, q, _, _, h, _, _, _ => by omega
  | m + 1, out, q, k0, k1, k2, k3, k4, k5 => by
    have n2 := G.n2
    have E8 := G.E8
    unfold attract_before_l0
    rw [G.len]
    refine Ok.ite (fun hq => ?_) fun hq => Ok.pure ⟨k3, fun j hj => k4 j (by omega)⟩
    refine Ok.ask (by unfold idx; omega) ?_
    refine (before_l1_ok hN G hw k0 hq N 0 (by omega) (by omega) (by omega) fun j h => by omega).bind fun r hr => ?_
    rcases hr with ⟨rfl, j, hj, hn⟩ | ⟨rfl, hr⟩
    · refine Ok.ask (by unfold in64; omega) ?_
      refine before_l0_ok hN G hw m _ _ (by omega) (by omega) (by omega) k3 (fun i hi => ?_) fun i hi => k5 i (by omega)
      rcases Int.lt_or_eq_of_le (show (i : Int) ≤ q by omega) with h3 | h3
      · exact k4 i h3
      · have h6 := k5 i (by omega)
        rw [h6]
        refine ⟨fun h => (by cases h), fun h => ?_⟩
        have := h j hj
        rw [show i = q.toNat by omega] at this
        exact absurd this hn
    · refine Ok.ask (by unfold idx; omega) (Ok.ask (by unfold in64; omega) ?_)
      refine before_l0_ok hN G hw m _ _ (by omega) (by omega) (by omega) (by simpa using k3) (fun i hi => ?_) fun i hi => ?_
      · rw [getD_set (by omega)]
        by_cases e : q.toNat = i
        · rw [if_pos e]
          exact ⟨fun _ => by rw [← e]; exact hr, fun _ => rfl⟩
        · rw [if_neg e]
          exact k4 i (by omega)
      · rw [getD_set (by omega), if_neg (by omega)]
        exact k5 i (by omega)
theorem before_ok (hN : 5000 ≤ N) (G : Game all n E S) (hw : won.length = n) : Ok (attract_before N all won) fun r => r.length = n ∧ ∀ j, j < n → (r.getD j false = true ↔ wonNext all won E S j) := by
  have n2 := G.n2
  unfold attract_before
  rw [G.len]
  refine Ok.ask (by omega) ?_
  refine (before_l0_ok hN G hw N _ 0 (by omega) (by omega) (by omega) (by simp) (fun j h => by omega) fun j _ => getD_rep).bind fun r hr => Ok.pure hr
end
end Go.V
