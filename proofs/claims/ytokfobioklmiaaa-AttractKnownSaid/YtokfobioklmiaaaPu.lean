/- Plain notions: automata and what is said of them. -/
set_option linter.all false
set_option linter.unusedVariables false
set_option linter.unnecessarySimpa false
set_option linter.unusedSimpArgs false
namespace Go.V

structure Nd where
  P : Int
  Lo : Int
  Hi : Int
deriving DecidableEq

instance : Inhabited Nd := ⟨⟨0, 0, 0⟩⟩

/-- guard.good: a reference may be -/
def goodB (n : Nat) (nodes : List Nd) (ref below above : Int) : Bool :=
  if ref < 0 then decide (-(n : Int) ≤ ref) else decide (ref < below) && decide (above < (nodes.getD ref.toNat default).P)
end Go.V

namespace Go.V
structure NodeOk (props : Int) (n : Nat) (nodes : List Nd) (i : Nat) : Prop where
  p0 : 0 ≤ (nodes.getD i default).P
  pp : (nodes.getD i default).P < props
  ne : (nodes.getD i default).Lo ≠ (nodes.getD i default).Hi
  once : ∀ j, j < i → nodes.getD j default ≠ nodes.getD i default
  lo : goodB n nodes (nodes.getD i default).Lo i (nodes.getD i default).P = true
  hi : goodB n nodes (nodes.getD i default).Hi i (nodes.getD i default).P = true

/-- guard.Check: an automaton may be -/
structure AutoOk (props : Int) (n : Nat) (gd : List Int) (nodes : List Nd) : Prop where
  p0 : 0 ≤ props
  p8 : props ≤ 8
  n1 : 1 ≤ n
  n256 : n ≤ 256
  gl : gd.length = n
  nl : nodes.length ≤ 4096
  nd : ∀ i, i < nodes.length → NodeOk props n nodes i
  gr : ∀ i, i < gd.length → goodB n nodes (gd.getD i 0) nodes.length (-1) = true

open Classical in
noncomputable def checkV (props : Int) (n : Nat) (gd : List Int) (nodes : List Nd) : Int := if AutoOk props n gd nodes then 0 else 12
theorem checkV_ok {props : Int} {n : Nat} {gd : List Int} {nodes : List Nd} (h : AutoOk props n gd nodes) : checkV props n gd nodes = 0 := if_pos h
theorem checkV_bad {props : Int} {n : Nat} {gd : List Int} {nodes : List Nd} (h : ¬ AutoOk props n gd nodes) : checkV props n gd nodes = 12 := if_neg h

/-- whole numbers of 64 bits -/
def W64 (x : Int) : Prop := -9223372036854775808 ≤ x ∧ x ≤ 9223372036854775807
def Nd.wf (x : Nd) : Prop := W64 x.P ∧ W64 x.Lo ∧ W64 x.Hi
theorem getD_wf {xs : List Nd} (h : ∀ x ∈ xs, x.wf) (i : Nat) : (xs.getD i default).wf := by
  rw [List.getD_eq_getElem?_getD]
  cases hi : xs[i]? with
  | none => exact ⟨⟨by decide, by decide⟩, ⟨by decide, by decide⟩, ⟨by decide, by decide⟩⟩
  | some x => exact h x (List.mem_of_getElem? hi)

/-- has a letter a proposition? -/
def bitB (l p : Int) : Bool := decide ((l / 2 ^ p.toNat) % 2 = 1)

/-- where a letter leads, in at most k steps -/
def goF (nodes : List Nd) (l : Int) : Nat → Int → Int × Bool
  | 0, _ => (0, false)
  | k + 1, ref =>
    if ref < 0 then (-1 - ref, true)
    else if (nodes.length : Int) ≤ ref ∨ (nodes.getD ref.toNat default).P < 0 ∨ 8 ≤ (nodes.getD ref.toNat default).P then (0, false)
    else goF nodes l k (if bitB l (nodes.getD ref.toNat default).P then (nodes.getD ref.toNat default).Hi else (nodes.getD ref.toNat default).Lo)

section
variable {nodes : List Nd} {l r : Int} {k : Nat}
theorem goF_neg (hk : k < 9) (h : r < 0) : goF nodes l (9 - k) r = (-1 - r, true) := by
  obtain ⟨j, hj⟩ : ∃ j, 9 - k = j + 1 := ⟨8 - k, by omega⟩
  rw [hj, goF, if_pos h]
theorem goF_bad (h : ¬ r < 0) (hb : (nodes.length : Int) ≤ r ∨ (nodes.getD r.toNat default).P < 0 ∨ 8 ≤ (nodes.getD r.toNat default).P) : goF nodes l k r = (0, false) := by
  cases k with
  | zero => rfl
  | succ k => rw [goF, if_neg h, if_pos hb]
theorem goF_one (h : ¬ r < 0) : goF nodes l 1 r = (0, false) := by
  rw [goF, if_neg h]
  split <;> rfl
theorem goF_step (hk : k < 9) (h : ¬ r < 0) (h1 : ¬ (nodes.length : Int) ≤ r) (h2 : ¬ (nodes.getD r.toNat default).P < 0) (h3 : ¬ 8 ≤ (nodes.getD r.toNat default).P) :
    goF nodes l (9 - k) r = goF nodes l (9 - (k + 1)) (if bitB l (nodes.getD r.toNat default).P then (nodes.getD r.toNat default).Hi else (nodes.getD r.toNat default).Lo) := by
  rw [show 9 - k = (9 - (k + 1)) + 1 by omega, goF, if_neg h, if_neg (by omega)]
theorem goF_hi (hk : k < 9) (h : ¬ r < 0) (h1 : ¬ (nodes.length : Int) ≤ r) (h2 : ¬ (nodes.getD r.toNat default).P < 0) (h3 : ¬ 8 ≤ (nodes.getD r.toNat default).P)
    (hb : bitB l (nodes.getD r.toNat default).P = true) : goF nodes l (9 - (k + 1)) (nodes.getD r.toNat default).Hi = goF nodes l (9 - k) r := by
  rw [goF_step hk h h1 h2 h3, if_pos hb]
theorem goF_lo (hk : k < 9) (h : ¬ r < 0) (h1 : ¬ (nodes.length : Int) ≤ r) (h2 : ¬ (nodes.getD r.toNat default).P < 0) (h3 : ¬ 8 ≤ (nodes.getD r.toNat default).P)
    (hb : bitB l (nodes.getD r.toNat default).P = false) : goF nodes l (9 - (k + 1)) (nodes.getD r.toNat default).Lo = goF nodes l (9 - k) r := by
  rw [goF_step hk h h1 h2 h3, hb]; rfl
theorem half_step {l : Int} {k : Nat} (h : 0 ≤ l) : Int.tdiv (l / 2 ^ k) 2 = l / 2 ^ (k + 1) := by
  rw [Int.tdiv_eq_ediv_of_nonneg (Int.ediv_nonneg h (Int.pow_nonneg (by omega))), Int.ediv_ediv_of_nonneg (Int.pow_nonneg (by omega)), Int.pow_succ]
theorem half_bd {l : Int} {k : Nat} (h : 0 ≤ l) (h2 : l ≤ 255) : 0 ≤ l / 2 ^ k ∧ l / 2 ^ k ≤ 255 := by
  refine ⟨Int.ediv_nonneg h (Int.pow_nonneg (by omega)), Int.le_trans (Int.ediv_le_self _ h) h2⟩
end

/-- 2 to the n -/
def pw (n : Int) : Nat := 2 ^ n.toNat
theorem pw_le {n : Int} (h1 : n ≤ 8) : 1 ≤ pw n ∧ pw n ≤ 256 := by
  unfold pw
  refine ⟨Nat.one_le_two_pow, Nat.le_trans (Nat.pow_le_pow_right (by omega) (show n.toNat ≤ 8 by omega)) (by decide)⟩

/-- the states that letters lead to: the first k -/
def tabL (nodes : List Nd) (ref : Int) (k : Nat) : List Int := (List.range k).map fun l => (goF nodes (l : Nat) 9 ref).1
theorem tabL_len (nodes : List Nd) (ref : Int) (k : Nat) : (tabL nodes ref k).length = k := by simp [tabL]
theorem tabL_step (nodes : List Nd) (ref : Int) (k : Nat) : tabL nodes ref k ++ [(goF nodes (k : Nat) 9 ref).1] = tabL nodes ref (k + 1) := by simp [tabL, List.range_succ]
open Classical in
noncomputable def tableV (n : Int) (nodes : List Nd) (ref : Int) : List Int × Int :=
  if n < 0 ∨ 8 < n then ([], 2) else if ∀ k, k < pw n → (goF nodes (k : Nat) 9 ref).2 = true then (tabL nodes ref (pw n), 0) else ([], 12)
theorem tableV_arg {n : Int} {nodes : List Nd} {ref : Int} (h : n < 0 ∨ 8 < n) : tableV n nodes ref = ([], 2) := if_pos h
theorem tableV_ok {n : Int} {nodes : List Nd} {ref : Int} (h0 : ¬ n < 0) (h8 : ¬ 8 < n) (h : ∀ k, k < pw n → (goF nodes (k : Nat) 9 ref).2 = true) : tableV n nodes ref = (tabL nodes ref (pw n), 0) := by
  unfold tableV; rw [if_neg (by omega), if_pos h]
theorem tableV_bad {n : Int} {nodes : List Nd} {ref : Int} (h0 : ¬ n < 0) (h8 : ¬ 8 < n) {k : Nat} (hk : k < pw n) (h : (goF nodes (k : Nat) 9 ref).2 = false) : tableV n nodes ref = ([], 12) := by
  unfold tableV; rw [if_neg (by omega), if_neg (fun q => by rw [q k hk] at h; cases h)]
theorem tabS_step {nodes : List Nd} {ref : Int} {k : Nat} (hI : ∀ i, i < k → (goF nodes (i : Nat) 9 ref).2 = true) (h : (goF nodes (k : Nat) 9 ref).2 = true) : ∀ i, i < k + 1 → (goF nodes (i : Nat) 9 ref).2 = true := by
  intro i hi
  rcases Nat.lt_or_ge i k with h' | h'
  · exact hI i h'
  · obtain rfl : i = k := by omega
    exact h
theorem checkV_yes {p : Int} {n : Nat} {gd : List Int} {nodes : List Nd} (h : checkV p n gd nodes = 0) : AutoOk p n gd nodes := by
  unfold checkV at h
  split at h
  · assumption
  · cases h
theorem checkV_no {p : Int} {n : Nat} {gd : List Int} {nodes : List Nd} (h : ¬ checkV p n gd nodes = 0) : checkV p n gd nodes = 12 := by
  unfold checkV at h ⊢
  split
  · rename_i h2; rw [if_pos h2] at h; exact absurd rfl h
  · rfl
theorem getD_w64 {xs : List Int} (h : ∀ x ∈ xs, -9223372036854775808 ≤ x ∧ x ≤ 9223372036854775807) (i : Nat) : -9223372036854775808 ≤ xs.getD i 0 ∧ xs.getD i 0 ≤ 9223372036854775807 := by
  rw [List.getD_eq_getElem?_getD]
  cases hi : xs[i]? with
  | none => exact ⟨by decide, by decide⟩
  | some x => exact h x (List.mem_of_getElem? hi)

/-- a walk of an automaton that may be ends at a state -/
theorem goF_in {p : Int} {n : Nat} {gd : List Int} {nodes : List Nd} (H : AutoOk p n gd nodes) (l : Int) : ∀ (k : Nat) (r below above : Int), below ≤ nodes.length → -1 ≤ above → above ≤ 7 → 8 - above ≤ (k : Int) → goodB n nodes r below above = true →
    (goF nodes l k r).2 = true ∧ 0 ≤ (goF nodes l k r).1 ∧ (goF nodes l k r).1 < n
  | 0, r, below, above, _, h1, h2, h3, _ => by omega
  | k + 1, r, below, above, hb, h1, h2, h3, hg => by
    unfold goodB at hg
    by_cases hr : r < 0
    · rw [if_pos hr] at hg
      have := of_decide_eq_true hg
      rw [goF, if_pos hr]
      exact ⟨rfl, by simp only; omega, by simp only; omega⟩
    · rw [if_neg hr] at hg
      simp only [Bool.and_eq_true, decide_eq_true_eq] at hg
      have ok := H.nd r.toNat (by omega)
      have hp := ok.pp
      have h8 := H.p8
      have e1 : ((r.toNat : Nat) : Int) = r := by omega
      rw [goF, if_neg hr, if_neg (by omega)]
      have hlo := ok.lo
      have hhi := ok.hi
      rw [e1] at hlo hhi
      split
      · exact goF_in H l k _ r _ (by omega) (by omega) (by omega) (by omega) hhi
      · exact goF_in H l k _ r _ (by omega) (by omega) (by omega) (by omega) hlo

/-- where a letter leads from a state -/
def nextV (gd : List Int) (nodes : List Nd) (q l : Int) : Int := (goF nodes l 9 (gd.getD q.toNat 0)).1
theorem next_in {p : Int} {n : Nat} {gd : List Int} {nodes : List Nd} (H : AutoOk p n gd nodes) {q : Int} (l : Int) (h0 : 0 ≤ q) (h1 : q < n) : (goF nodes l 9 (gd.getD q.toNat 0)).2 = true ∧ 0 ≤ nextV gd nodes q l ∧ nextV gd nodes q l < n :=
  goF_in H l 9 _ nodes.length (-1) (by omega) (by omega) (by omega) (by omega) (H.gr _ (by have := H.gl; omega))
/-- where a trace leads: its first k letters -/
def runF (gd : List Int) (nodes : List Nd) (t : List Int) : Nat → Int
  | 0 => 0
  | k + 1 => nextV gd nodes (runF gd nodes t k) (t.getD k 0)
theorem runF_in {p : Int} {n : Nat} {gd : List Int} {nodes : List Nd} (H : AutoOk p n gd nodes) (t : List Int) : ∀ k, 0 ≤ runF gd nodes t k ∧ runF gd nodes t k < n
  | 0 => by have := H.n1; unfold runF; omega
  | k + 1 => by
    have h := runF_in H t k
    exact (next_in H _ h.1 h.2).2

/-- the same, by computation -/
def nodeB (p : Int) (n : Nat) (nodes : List Nd) (i : Nat) : Bool :=
  decide (0 ≤ (nodes.getD i default).P) && decide ((nodes.getD i default).P < p) && decide ((nodes.getD i default).Lo ≠ (nodes.getD i default).Hi) &&
    (List.range i).all (fun j => decide (nodes.getD j default ≠ nodes.getD i default)) && goodB n nodes (nodes.getD i default).Lo i (nodes.getD i default).P && goodB n nodes (nodes.getD i default).Hi i (nodes.getD i default).P
def autoB (p : Int) (n : Nat) (gd : List Int) (nodes : List Nd) : Bool :=
  decide (0 ≤ p) && decide (p ≤ 8) && decide (1 ≤ n) && decide (n ≤ 256) && decide (gd.length = n) && decide (nodes.length ≤ 4096) && (List.range nodes.length).all (nodeB p n nodes) && (List.range gd.length).all (fun i => goodB n nodes (gd.getD i 0) nodes.length (-1))
theorem checkV_dec {p : Int} {n : Nat} {gd : List Int} {nodes : List Nd} (h : autoB p n gd nodes = true) : checkV p n gd nodes = 0 := by
  unfold autoB at h
  simp only [Bool.and_eq_true, decide_eq_true_eq, List.all_eq_true, List.mem_range] at h
  obtain ⟨⟨⟨⟨⟨⟨⟨h1, h2⟩, h3⟩, h4⟩, h5⟩, h6⟩, h7⟩, h8⟩ := h
  refine checkV_ok ⟨h1, h2, h3, h4, h5, h6, fun i hi => ?_, h8⟩
  have := h7 i hi
  unfold nodeB at this
  simp only [Bool.and_eq_true, decide_eq_true_eq, List.all_eq_true, List.mem_range] at this
  obtain ⟨⟨⟨⟨⟨a1, a2⟩, a3⟩, a4⟩, a5⟩, a6⟩ := this
  exact ⟨a1, a2, a3, a4, a5, a6⟩
end Go.V
