/- Plain theory: the accepted traces of a length, in order. No program. -/
import Derived.Test.YteemfefeaphfdaaPC
set_option linter.all false
set_option linter.unusedVariables false
set_option maxRecDepth 100000
namespace Go.V
open Go
section
variable (nd : List Nd) (gd : List Int) (acc : List Bool) (L : Nat)
/-- the accepted traces of a length, from a state, in order -/
def wds : Nat → Nat → List (List Nat)
  | 0, q => if acc.getD q false = true then [[]] else []
  | k + 1, q => (List.range L).flatMap fun l => (wds k (stp nd gd q l)).map (l :: ·)
/-- those that begin with a letter from l on -/
def wfr (k q l : Nat) : List (List Nat) := (List.range' l (L - l)).flatMap fun l => (wds nd gd acc L k (stp nd gd q l)).map (l :: ·)
/-- those of lengths below n -/
def allN (n : Nat) : List (List Nat) := (List.range n).flatMap fun j => wds nd gd acc L j 0
end
section
variable {nd : List Nd} {gd : List Int} {acc : List Bool} {L : Nat}
theorem wds_succ (k q : Nat) : wds nd gd acc L (k + 1) q = wfr nd gd acc L k q 0 := by
  unfold wfr
  rw [Nat.sub_zero, ← List.range_eq_range']
  rfl
theorem wfr_step {k q l : Nat} (h : l < L) : wfr nd gd acc L k q l = (wds nd gd acc L k (stp nd gd q l)).map (l :: ·) ++ wfr nd gd acc L k q (l + 1) := by
  unfold wfr
  rw [show L - l = (L - (l + 1)) + 1 by omega, List.range'_succ, List.flatMap_cons]
theorem wfr_end (k q : Nat) : wfr nd gd acc L k q L = [] := by
  unfold wfr
  rw [Nat.sub_self]
  rfl
theorem mem_wds : ∀ (k q : Nat) (u : List Nat), u ∈ wds nd gd acc L k q ↔ u.length = k ∧ (∀ l ∈ u, l < L) ∧ acc.getD (runT nd gd q u) false = true
  | 0, q, u => by
    unfold wds
    constructor
    · intro h
      split at h
      · rename_i c
        have : u = [] := by simpa using h
        subst this
        exact ⟨rfl, fun l hl => (by cases hl), c⟩
      · cases h
    · rintro ⟨h1, _, h3⟩
      have : u = [] := List.eq_nil_of_length_eq_zero h1
      subst this
      have h3' : acc.getD q false = true := h3
      rw [if_pos h3']
      exact List.mem_singleton.2 rfl
  | k + 1, q, u => by
    unfold wds
    rw [List.mem_flatMap]
    constructor
    · rintro ⟨l, hl, h⟩
      obtain ⟨v, hv, rfl⟩ := List.mem_map.1 h
      obtain ⟨h1, h2, h3⟩ := (mem_wds k _ v).1 hv
      refine ⟨by simp [h1], fun x hx => ?_, h3⟩
      rcases List.mem_cons.1 hx with rfl | hx
      · exact List.mem_range.1 hl
      · exact h2 x hx
    · rintro ⟨h1, h2, h3⟩
      cases u with
      | nil => simp at h1
      | cons l v =>
        exact ⟨l, List.mem_range.2 (h2 l (List.mem_cons_self ..)), List.mem_map.2 ⟨v, (mem_wds k _ v).2 ⟨by simpa using h1, fun x hx => h2 x (List.mem_cons_of_mem _ hx), h3⟩, rfl⟩⟩
theorem wds_sorted : ∀ (k q : Nat), (wds nd gd acc L k q).Pairwise llt
  | 0, q => by
    unfold wds
    split
    · exact List.pairwise_singleton ..
    · exact List.Pairwise.nil
  | k + 1, q => by
    unfold wds
    rw [List.pairwise_flatMap]
    refine ⟨fun l _ => ?_, ?_⟩
    · rw [List.pairwise_map]
      exact (wds_sorted k _).imp fun h => .inr ⟨rfl, h⟩
    · refine List.pairwise_lt_range.imp fun {a b} hab x hx y hy => ?_
      obtain ⟨v, _, rfl⟩ := List.mem_map.1 hx
      obtain ⟨w, _, rfl⟩ := List.mem_map.1 hy
      exact .inl hab
theorem allN_sorted (n : Nat) : (allN nd gd acc L n).Pairwise slt := by
  unfold allN
  rw [List.pairwise_flatMap]
  refine ⟨fun k _ => ?_, ?_⟩
  · refine List.Pairwise.imp_of_mem (fun {a b} ha hb h => ?_) (wds_sorted k 0)
    exact .inr ⟨by rw [((mem_wds k 0 a).1 ha).1, ((mem_wds k 0 b).1 hb).1], h⟩
  · refine List.pairwise_lt_range.imp fun {a b} hab x hx y hy => ?_
    exact .inl (by rw [((mem_wds a 0 x).1 hx).1, ((mem_wds b 0 y).1 hy).1]; exact hab)
theorem allN_succ (n : Nat) : allN nd gd acc L (n + 1) = allN nd gd acc L n ++ wds nd gd acc L n 0 := by
  unfold allN
  rw [List.range_succ, List.flatMap_append, List.flatMap_singleton]
theorem mem_allN {n : Nat} {u : List Nat} (h : u ∈ allN nd gd acc L n) : u.length < n ∧ (∀ l ∈ u, l < L) ∧ acc.getD (runT nd gd 0 u) false = true := by
  unfold allN at h
  obtain ⟨k, hk, h⟩ := List.mem_flatMap.1 h
  obtain ⟨h1, h2, h3⟩ := (mem_wds k 0 u).1 h
  exact ⟨by rw [h1]; exact List.mem_range.1 hk, h2, h3⟩
theorem countP_wds (k j : Nat) : (wds nd gd acc L k 0).countP (fun u => u.length == j) = if k = j then (wds nd gd acc L k 0).length else 0 := by
  by_cases c : k = j
  · rw [if_pos c, List.countP_eq_length]
    intro u hu
    rw [((mem_wds k 0 u).1 hu).1, c]
    exact beq_self_eq_true j
  · rw [if_neg c, List.countP_eq_zero]
    intro u hu
    rw [((mem_wds k 0 u).1 hu).1]
    simpa using c
theorem countP_allN (j : Nat) : ∀ n : Nat, (allN nd gd acc L n).countP (fun u => u.length == j) = if j < n then (wds nd gd acc L j 0).length else 0
  | 0 => rfl
  | n + 1 => by
    rw [allN_succ, List.countP_append, countP_allN j n, countP_wds]
    by_cases c : n = j
    · subst c
      rw [if_neg (by omega), if_pos rfl, if_pos (by omega), Nat.zero_add]
    · rw [if_neg c]
      by_cases d : j < n
      · rw [if_pos d, if_pos (by omega)]; rfl
      · rw [if_neg d, if_neg (by omega)]
theorem wfr_len {k q B : Nat} (h : ∀ q, (wds nd gd acc L k q).length ≤ B) : ∀ n l : Nat, L - l = n → l ≤ L → (wfr nd gd acc L k q l).length ≤ n * B
  | 0, l, e, hl => by
    have : l = L := by omega
    rw [this, wfr_end]
    exact Nat.zero_le _
  | n + 1, l, e, hl => by
    rw [wfr_step (by omega), List.length_append, List.length_map, Nat.succ_mul]
    have h1 := wfr_len (q := q) h n (l + 1) (by omega) (by omega)
    have h2 := h (stp nd gd q l)
    omega
theorem wds_len (hL : L ≤ 256) : ∀ k q : Nat, (wds nd gd acc L k q).length ≤ 256 ^ k
  | 0, q => by unfold wds; split <;> simp
  | k + 1, q => by
    rw [wds_succ]
    have h := wfr_len (q := q) (wds_len hL k) L 0 (by omega) (by omega)
    have h2 : L * 256 ^ k ≤ 256 * 256 ^ k := Nat.mul_le_mul_right _ hL
    rw [Nat.pow_succ, Nat.mul_comm]
    omega
theorem wds_len3 (hL : L ≤ 256) {k : Nat} (hk : k ≤ 3) (q : Nat) : (wds nd gd acc L k q).length ≤ 16777216 := by
  have h := wds_len (nd := nd) (gd := gd) (acc := acc) hL k q
  have : 256 ^ k ≤ 256 ^ 3 := Nat.pow_le_pow_right (by omega) hk
  omega
/-! ### one loop of the walk over traces -/
theorem walk_loop {k q B : Nat} {by_ : List Nat} {F : Nat → List (List Int) → Int → Option (List (List Int))} {G : List (List Int) → Int → Option (List (List Int))}
    (s1 : ∀ m out (l : Nat), l < L → wds nd gd acc L k (stp nd gd q l) ≠ [] → F (m + 1) out (l : Int) = Option.bind (G out (l : Int)) fun o => F m o ((l + 1 : Nat) : Int))
    (s2 : ∀ m out (l : Nat), l < L → wds nd gd acc L k (stp nd gd q l) = [] → F (m + 1) out (l : Int) = F m out ((l + 1 : Nat) : Int))
    (s3 : ∀ m out, F (m + 1) out (L : Int) = some out)
    (hG : ∀ out (l : Nat), l < L → wds nd gd acc L k (stp nd gd q l) ≠ [] → out.length + (wds nd gd acc L k (stp nd gd q l)).length ≤ B → G out (l : Int) = some (out ++ (wds nd gd acc L k (stp nd gd q l)).map fun u => cs (by_ ++ l :: u))) :
    ∀ (m : Nat) (out : List (List Int)) (l : Nat), l ≤ L → L - l < m → out.length + (wfr nd gd acc L k q l).length ≤ B → F m out (l : Int) = some (out ++ (wfr nd gd acc L k q l).map fun u => cs (by_ ++ u)) := by
  intro m
  induction m with
  | zero => intro out l _ h _; omega
  | succ m ih =>
    intro out l k1 k2 k3
    by_cases c : l = L
    · subst c
      rw [s3, wfr_end, List.map_nil, List.append_nil]
    · have hl : l < L := by omega
      rw [wfr_step hl, List.length_append, List.length_map] at k3
      by_cases d : wds nd gd acc L k (stp nd gd q l) = []
      · rw [s2 m out l hl d, ih out (l + 1) (by omega) (by omega) (by rw [d] at k3; simpa using k3), wfr_step hl, d]
        rfl
      · rw [s1 m out l hl d, hG out l hl d (by omega), Option.bind_some, ih _ (l + 1) (by omega) (by omega) (by rw [List.length_append, List.length_map]; omega), wfr_step hl, List.map_append, List.map_map, List.append_assoc]
        rfl
end
end Go.V
