/- Plain theory: the document's ranks are the program's. No program. -/
import Derived.Test.YtokfobioklmiaaaR22
set_option linter.all false
set_option linter.unusedVariables false
set_option maxRecDepth 100000
namespace Go.V
open Go Go.Proofs
section
variable {N : Nat} {p : Int} {acc : List Bool} {gd : List Int} {nd : List Nd} {s : Int × Int} {won : List Bool}
abbrev AL (nd : List Nd) (gd : List Int) (s : Int × Int) (n : Nat) : List (List (List Int)) := allS nd gd s.1 s.2 n
theorem rbef_l1_ok {R : List (List Int)} {n S i : Nat} (hw : won.length = n) (hn : n ≤ 256) (hi : i < R.length) (hE : R.length ≤ 8) (hS : S ≤ 8) (hl : (R.getD i []).length = S) (hin : ∀ k, k < S → 0 ≤ (R.getD i []).getD k 0 ∧ (R.getD i []).getD k 0 < n) : ∀ (m k : Nat) (b : Bool), k ≤ S → S - k < m → (b = true ↔ ∃ j, j < k ∧ won.getD ((R.getD i []).getD j 0).toNat false = true) →
    Ok (ref23_before_l1 N won R (i : Int) m b (k : Int)) fun r => r = true ↔ ∃ j, j < S ∧ won.getD ((R.getD i []).getD j 0).toNat false = true
  | 0, k, b, _, h, _ => by omega
  | m + 1, k, b, k0, k1, hb => by
    unfold ref23_before_l1
    rw [Int.toNat_natCast i, Int.toNat_natCast k, hl]
    refine Ok.ask (by unfold idx; omega) ?_
    by_cases hk : k < S
    · rw [if_pos (show (k : Int) < ((S : Nat) : Int) by omega), show ((k : Int) + 1) = ((k + 1 : Nat) : Int) by omega]
      have h := hin k hk
      cases b with
      | true =>
        rw [if_pos rfl]
        obtain ⟨j, hj, e⟩ := hb.1 rfl
        exact Ok.ask (by unfold in64; omega) (rbef_l1_ok hw hn hi hE hS hl hin m (k + 1) true (by omega) (by omega) ⟨fun _ => ⟨j, by omega, e⟩, fun _ => rfl⟩)
      | false =>
        rw [if_neg Bool.false_ne_true]
        refine Ok.ask (by unfold idx; omega) (Ok.ask (by unfold idx; omega) (Ok.ask (by unfold in64; omega) (rbef_l1_ok hw hn hi hE hS hl hin m (k + 1) _ (by omega) (by omega) ⟨fun h2 => ⟨k, by omega, h2⟩, fun ⟨j, hj, e⟩ => ?_⟩)))
        by_cases c : j = k
        · rw [c] at e; exact e
        · have := hb.2 ⟨j, by omega, e⟩
          cases this
    · rw [if_neg (show ¬ (k : Int) < ((S : Nat) : Int) by omega)]
      obtain rfl : k = S := by omega
      exact Ok.pure hb
theorem rbef_l0_ok (hN : 5000 ≤ N) {R : List (List Int)} {n S : Nat} (hw : won.length = n) (hn : n ≤ 256) (hE : R.length ≤ 8) (hS : S ≤ 8) (hl : ∀ i, i < R.length → (R.getD i []).length = S) (hin : ∀ i k, i < R.length → k < S → 0 ≤ (R.getD i []).getD k 0 ∧ (R.getD i []).getD k 0 < n) : ∀ (m i : Nat), i ≤ R.length → R.length - i < m → (∀ j, j < i → ∃ k, k < S ∧ won.getD ((R.getD j []).getD k 0).toNat false = true) →
    Ok (ref23_before_l0 N won R m (i : Int)) fun r => (r = .inl () ∧ ∀ j, j < R.length → ∃ k, k < S ∧ won.getD ((R.getD j []).getD k 0).toNat false = true) ∨ (r = .inr false ∧ ∃ j, j < R.length ∧ ¬ ∃ k, k < S ∧ won.getD ((R.getD j []).getD k 0).toNat false = true)
  | 0, i, _, h, _ => by omega
  | m + 1, i, k0, k1, hv => by
    unfold ref23_before_l0
    by_cases hi : i < R.length
    · have h1 := rbef_l1_ok (N := N) hw hn hi hE hS (hl i hi) (fun k hk => hin i k hi hk) N 0 false (by omega) (by omega) ⟨(fun h => by cases h), (fun ⟨j, hj, _⟩ => by omega)⟩
      rw [if_pos (show (i : Int) < ((R.length : Nat) : Int) by omega)]
      refine Ok.bind h1 fun b hb => ?_
      cases b with
      | true =>
        rw [if_pos rfl, show ((i : Int) + 1) = ((i + 1 : Nat) : Int) by omega]
        refine Ok.ask (by unfold in64; omega) (rbef_l0_ok hN hw hn hE hS hl hin m (i + 1) (by omega) (by omega) fun j hj => ?_)
        by_cases c : j = i
        · rw [c]; exact hb.1 rfl
        · exact hv j (by omega)
      | false =>
        rw [if_neg Bool.false_ne_true]
        exact Ok.pure (.inr ⟨rfl, i, hi, fun h => by have := hb.2 h; cases this⟩)
    · rw [if_neg (show ¬ (i : Int) < ((R.length : Nat) : Int) by omega)]
      exact Ok.pure (.inl ⟨rfl, fun j hj => hv j (by omega)⟩)
theorem rbefore_ok (hN : 5000 ≤ N) (V : Valid p acc gd nd) (hs : (p, s.1, s.2) ∈ splits) (hw : won.length = acc.length) {q : Nat} (hq : q < acc.length) : Ok (ref23_before N p acc gd nd s won (q : Int)) fun b => b = true ↔ wonNext (AL nd gd s acc.length) won (moves s.1).length (moves s.2).length q := by
  have a2 := V.a2
  obtain ⟨hp, hs1, hs2⟩ := split_le hs
  have l1 := moves_len hs1
  have l2 := moves_len hs2
  have G := allS_game (N := N) hN V hs
  have eR : (AL nd gd s acc.length).getD q [] = rowsS nd gd s.1 s.2 (q : Int) := allS_get hq
  have rl := rowsS_len (nd := nd) (gd := gd) s.1 s.2 (q : Int)
  have hl : ∀ i, i < (rowsS nd gd s.1 s.2 (q : Int)).length → ((rowsS nd gd s.1 s.2 (q : Int)).getD i []).length = (moves s.2).length := fun i hi => (rowsS_row (by omega)).1
  have hin : ∀ i k, i < (rowsS nd gd s.1 s.2 (q : Int)).length → k < (moves s.2).length → 0 ≤ ((rowsS nd gd s.1 s.2 (q : Int)).getD i []).getD k 0 ∧ ((rowsS nd gd s.1 s.2 (q : Int)).getD i []).getD k 0 < acc.length := fun i k hi hk => by
    have := G.into q i k hq (by omega) hk
    rw [show (allS nd gd s.1 s.2 acc.length).getD q [] = rowsS nd gd s.1 s.2 (q : Int) from eR] at this
    exact this
  have h := rbef_l0_ok (N := N) hN (R := rowsS nd gd s.1 s.2 (q : Int)) hw a2 (by omega) (by omega) hl hin N 0 (by omega) (by omega) fun j hj => by omega
  have key : (∀ j, j < (rowsS nd gd s.1 s.2 (q : Int)).length → ∃ k, k < (moves s.2).length ∧ won.getD (((rowsS nd gd s.1 s.2 (q : Int)).getD j []).getD k 0).toNat false = true) ↔ wonNext (AL nd gd s acc.length) won (moves s.1).length (moves s.2).length q := by
    unfold wonNext meets
    rw [eR, rl]
  unfold ref23_before
  rw [show (s.1, s.2) = s from rfl, rRows_ok hN V hs hq, Option.bind_some]
  refine Ok.bind h fun r hr => ?_
  rcases hr with ⟨rfl, hr⟩ | ⟨rfl, j, hj, hno⟩
  · exact Ok.pure ⟨fun _ => key.1 hr, fun _ => rfl⟩
  · exact Ok.pure ⟨(fun h => by cases h), fun h => absurd (key.2 h j hj) hno⟩
theorem rStep_l0_ok (hN : 5000 ≤ N) (V : Valid p acc gd nd) (hs : (p, s.1, s.2) ∈ splits) (hw : won.length = acc.length) : ∀ (m q : Nat) (out : List Bool), q ≤ acc.length → acc.length - q < m → out.length = q → (∀ j, j < q → (out.getD j false = true ↔ wonNext (AL nd gd s acc.length) won (moves s.1).length (moves s.2).length j)) →
    Ok (ref23_Step_l0 N p acc gd nd s won m out (q : Int)) fun r => r.length = acc.length ∧ ∀ j, j < acc.length → (r.getD j false = true ↔ wonNext (AL nd gd s acc.length) won (moves s.1).length (moves s.2).length j)
  | 0, q, out, _, h, _, _ => by omega
  | m + 1, q, out, k0, k1, hl, hv => by
    have a2 := V.a2
    unfold ref23_Step_l0
    rw [hw]
    by_cases hq : q < acc.length
    · rw [if_pos (show (q : Int) < ((acc.length : Nat) : Int) by omega), show (s.1, s.2) = s from rfl, show ((q : Int) + 1) = ((q + 1 : Nat) : Int) by omega]
      refine Ok.bind (rbefore_ok hN V hs hw hq) fun b hb => Ok.ask (by rw [hl, List.length_singleton]; omega) (Ok.ask (by unfold in64; omega) ?_)
      refine rStep_l0_ok hN V hs hw m (q + 1) _ (by omega) (by omega) (by rw [List.length_append, List.length_singleton, hl]) fun j hj => ?_
      rw [W.getD_snoc]
      by_cases c : j = out.length
      · rw [if_pos c, show j = q by omega]; exact hb
      · rw [if_neg c]; exact hv j (by omega)
    · rw [if_neg (show ¬ (q : Int) < ((acc.length : Nat) : Int) by omega)]
      obtain rfl : q = acc.length := by omega
      exact Ok.pure ⟨hl, hv⟩
theorem rStep_ok (hN : 5000 ≤ N) (V : Valid p acc gd nd) (hK : ref22_Check N p acc gd nd s = some 0) (hs : (p, s.1, s.2) ∈ splits) (hw : won.length = acc.length) : Ok (ref23_Step N p acc gd nd s won) fun r => r.2 = 0 ∧ r.1.length = acc.length ∧ ∀ j, j < acc.length → (r.1.getD j false = true ↔ wonNext (AL nd gd s acc.length) won (moves s.1).length (moves s.2).length j) := by
  unfold ref23_Step
  rw [show (s.1, s.2) = s from rfl, hK, Option.bind_some, if_pos rfl, if_pos (by omega)]
  refine Ok.bind (rStep_l0_ok (N := N) hN V hs hw N 0 [] (by omega) (by have := V.a2; omega) rfl fun j hj => by omega) fun r hr => Ok.pure ⟨rfl, hr⟩
/-! ### ranks -/
theorem rRanks_l0_ok {n : Nat} (hn : n ≤ 256) (ha : acc.length = n) : ∀ (m q : Nat) (ranks : List Int) (won : List Bool), q ≤ n → n - q < m → ranks.length = n → won.length = n → (∀ j, j < n → ranks.getD j 0 = if j < q then (if acc.getD j false = true then 0 else -1) else 0) → (∀ j, j < q → won.getD j false = acc.getD j false) →
    Ok (ref23_Ranks_l0 N acc m ranks won (q : Int)) fun r => r.1.length = n ∧ r.2.length = n ∧ ∀ j, j < n → r.1.getD j 0 = (if acc.getD j false = true then 0 else -1) ∧ r.2.getD j false = acc.getD j false
  | 0, q, _, _, _, h, _, _, _, _ => by omega
  | m + 1, q, ranks, won, k0, k1, hl, hw, hv, hx => by
    unfold ref23_Ranks_l0
    rw [hl, Int.toNat_natCast]
    by_cases hq : q < n
    · have e : (won.set q (acc.getD q false)).getD q false = acc.getD q false := by rw [getD_set (by omega), if_pos rfl]
      have hw2 : (won.set q (acc.getD q false)).length = n := by rw [List.length_set]; exact hw
      have hx2 : ∀ j, j < q + 1 → (won.set q (acc.getD q false)).getD j false = acc.getD j false := fun j hj => by
        rw [getD_set (by omega)]
        by_cases c : q = j
        · rw [if_pos c, c]
        · rw [if_neg c]; exact hx j (by omega)
      rw [if_pos (show (q : Int) < ((n : Nat) : Int) by omega), show ((q : Int) + 1) = ((q + 1 : Nat) : Int) by omega, e, hw2]
      refine Ok.ask (by unfold idx; omega) (Ok.ask (by unfold idx; omega) (Ok.ask (by unfold idx; omega) ?_))
      by_cases c : acc.getD q false = true
      · rw [if_pos c]
        refine Ok.ask (by unfold in64; omega) (rRanks_l0_ok hn ha m (q + 1) _ _ (by omega) (by omega) hl hw2 (fun j hj => ?_) hx2)
        rw [hv j hj]
        by_cases c2 : j < q
        · rw [if_pos c2, if_pos (show j < q + 1 by omega)]
        · by_cases c3 : j = q
          · rw [if_neg c2, if_pos (show j < q + 1 by omega), c3, if_pos c]
          · rw [if_neg c2, if_neg (show ¬ j < q + 1 by omega)]
      · rw [if_neg c]
        refine Ok.ask (by unfold idx; omega) (Ok.ask (by unfold in64; omega) (rRanks_l0_ok hn ha m (q + 1) _ _ (by omega) (by omega) (by rw [List.length_set]; exact hl) hw2 (fun j hj => ?_) hx2))
        rw [getD_set (by omega)]
        by_cases c3 : q = j
        · rw [if_pos c3, if_pos (show j < q + 1 by omega), ← c3, if_neg c]
        · rw [if_neg c3, hv j hj]
          by_cases c2 : j < q
          · rw [if_pos c2, if_pos (show j < q + 1 by omega)]
          · rw [if_neg c2, if_neg (show ¬ j < q + 1 by omega)]
    · rw [if_neg (show ¬ (q : Int) < ((n : Nat) : Int) by omega)]
      exact Ok.pure ⟨hl, hw, fun j hj => ⟨by rw [hv j hj, if_pos (show j < q by omega)], hx j (by omega)⟩⟩
theorem rRanks_l2_ok {n : Nat} (hn : n ≤ 256) {k : Int} {r255 : List Bool × Int} (hr : r255.1.length = n) (hw : won.length = n) {was : List Int} : ∀ (m q : Nat) (ranks : List Int), q ≤ n → n - q < m → ranks.length = n → (∀ j, j < n → ranks.getD j 0 = if j < q ∧ r255.1.getD j false = true ∧ won.getD j false = false then k else was.getD j 0) →
    Ok (ref23_Ranks_l2 N won k r255 m ranks (q : Int)) fun r => r.length = n ∧ ∀ j, j < n → r.getD j 0 = if r255.1.getD j false = true ∧ won.getD j false = false then k else was.getD j 0
  | 0, q, _, _, h, _, _ => by omega
  | m + 1, q, ranks, k0, k1, hl, hv => by
    unfold ref23_Ranks_l2
    rw [hl, Int.toNat_natCast]
    by_cases hq : q < n
    · rw [if_pos (show (q : Int) < ((n : Nat) : Int) by omega), show ((q : Int) + 1) = ((q + 1 : Nat) : Int) by omega]
      refine Ok.ask (by unfold idx; omega) ?_
      have keep : ¬ (r255.1.getD q false = true ∧ won.getD q false = false) → ∀ j, j < n → ranks.getD j 0 = if j < q + 1 ∧ r255.1.getD j false = true ∧ won.getD j false = false then k else was.getD j 0 := fun hno j hj => by
        rw [hv j hj]
        by_cases c : j < q ∧ r255.1.getD j false = true ∧ won.getD j false = false
        · rw [if_pos c, if_pos ⟨by omega, c.2⟩]
        · rw [if_neg c, if_neg]
          rintro ⟨h1, h2⟩
          by_cases c2 : j = q
          · subst c2; exact hno h2
          · exact c ⟨by omega, h2⟩
      by_cases c1 : r255.1.getD q false = true
      · rw [if_pos c1]
        refine Ok.ask (by unfold idx; omega) ?_
        by_cases c2 : won.getD q false = true
        · rw [if_pos c2]
          exact Ok.ask (by unfold in64; omega) (rRanks_l2_ok hn hr hw m (q + 1) _ (by omega) (by omega) hl (keep fun h => by rw [c2] at h; cases h.2))
        · have c2' : won.getD q false = false := by
            cases h : won.getD q false with
            | false => rfl
            | true => exact absurd h c2
          rw [if_neg c2]
          refine Ok.ask (by unfold idx; omega) (Ok.ask (by unfold in64; omega) (rRanks_l2_ok hn hr hw m (q + 1) _ (by omega) (by omega) (by rw [List.length_set]; exact hl) fun j hj => ?_))
          rw [getD_set (by omega)]
          by_cases c3 : q = j
          · subst c3; rw [if_pos rfl, if_pos ⟨by omega, c1, c2'⟩]
          · rw [if_neg c3, hv j hj]
            by_cases c : j < q ∧ r255.1.getD j false = true ∧ won.getD j false = false
            · rw [if_pos c, if_pos ⟨by omega, c.2⟩]
            · rw [if_neg c, if_neg (fun h => c ⟨by omega, h.2⟩)]
      · rw [if_neg c1]
        exact Ok.ask (by unfold in64; omega) (rRanks_l2_ok hn hr hw m (q + 1) _ (by omega) (by omega) hl (keep fun h => c1 h.1))
    · rw [if_neg (show ¬ (q : Int) < ((n : Nat) : Int) by omega)]
      refine Ok.pure ⟨hl, fun j hj => ?_⟩
      rw [hv j hj]
      by_cases c : r255.1.getD j false = true ∧ won.getD j false = false
      · rw [if_pos c, if_pos ⟨by omega, c⟩]
      · rw [if_neg c, if_neg (fun h => c h.2)]
theorem rRanks_l3_ok {n : Nat} (hn : n ≤ 256) {x : List Int} (hx : x.length = n) : ∀ (m q : Nat) (won : List Bool), q ≤ n → n - q < m → won.length = n → (∀ j, j < q → won.getD j false = decide (0 ≤ x.getD j 0)) →
    Ok (ref23_Ranks_l3 N x m won (q : Int)) fun r => r.length = n ∧ ∀ j, j < n → r.getD j false = decide (0 ≤ x.getD j 0)
  | 0, q, _, _, h, _, _ => by omega
  | m + 1, q, won, k0, k1, hl, hv => by
    unfold ref23_Ranks_l3
    rw [hx, Int.toNat_natCast]
    by_cases hq : q < n
    · rw [if_pos (show (q : Int) < ((n : Nat) : Int) by omega), show ((q : Int) + 1) = ((q + 1 : Nat) : Int) by omega]
      refine Ok.ask (by unfold idx; omega) (Ok.ask (by unfold idx; omega) (Ok.ask (by unfold in64; omega) (rRanks_l3_ok hn hx m (q + 1) _ (by omega) (by omega) (by rw [List.length_set]; exact hl) fun j hj => ?_)))
      rw [getD_set (by omega)]
      by_cases c : q = j
      · rw [if_pos c, c]
      · rw [if_neg c]; exact hv j (by omega)
    · rw [if_neg (show ¬ (q : Int) < ((n : Nat) : Int) by omega)]
      exact Ok.pure ⟨hl, fun j hj => hv j (by omega)⟩
/-- who comes in with a rank -/
theorem next_iff {all : List (List (List Int))} {n E S : Nat} (G : Game all n E S) {out : List Int} (R : Ranked all n E S acc out) (hS : 1 ≤ E) {k : Nat} (hk : 1 ≤ k) (hw : ∀ q, q < n → (won.getD q false = true ↔ 0 ≤ out.getD q 0 ∧ out.getD q 0 < (k : Int))) {q : Nat} (hq : q < n) (hno : ¬ (0 ≤ out.getD q 0 ∧ out.getD q 0 < (k : Int))) : wonNext all won E S q ↔ out.getD q 0 = (k : Int) := by
  unfold wonNext meets
  constructor
  · intro h
    rcases R.lo q hq with h1 | h1
    · obtain ⟨i, hi, h2⟩ := R.neg q hq h1
      obtain ⟨j, hj, h3⟩ := h i hi
      have h4 := (hw _ (G.to_lt hq hi hj)).1 h3
      have h5 := h2 j hj
      omega
    · obtain ⟨i, hi, h2⟩ := R.ex q hq (by omega)
      obtain ⟨j, hj, h3⟩ := h i hi
      have h4 := (hw _ (G.to_lt hq hi hj)).1 h3
      have h5 := h2 j hj h4.1
      omega
  · intro h i hi
    obtain ⟨j, hj, h1, h2⟩ := R.pos q hq (by omega) i hi
    exact ⟨j, hj, (hw _ (G.to_lt hq hi hj)).2 ⟨h1, by omega⟩⟩
theorem rRanks_l1_ok (hN : 5000 ≤ N) (V : Valid p acc gd nd) (hK : ref22_Check N p acc gd nd s = some 0) (hs : (p, s.1, s.2) ∈ splits) {out : List Int} (R : Ranked (AL nd gd s acc.length) acc.length (moves s.1).length (moves s.2).length acc out) : ∀ (m k : Nat) (ranks : List Int) (won : List Bool), 1 ≤ k → k ≤ acc.length + 1 → acc.length + 1 - k < m → ranks.length = acc.length → won.length = acc.length →
    (∀ q, q < acc.length → ranks.getD q 0 = if 0 ≤ out.getD q 0 ∧ out.getD q 0 < (k : Int) then out.getD q 0 else -1) → (∀ q, q < acc.length → (won.getD q false = true ↔ 0 ≤ out.getD q 0 ∧ out.getD q 0 < (k : Int))) →
    Ok (ref23_Ranks_l1 N p acc gd nd s m ranks won (k : Int)) fun r => r = out
  | 0, k, _, _, _, _, h, _, _, _, _ => by omega
  | m + 1, k, ranks, won, k0, k1, k2, hl, hw, hr, hv => by
    have a2 := V.a2
    obtain ⟨hp, hs1, hs2⟩ := split_le hs
    have l1 := moves_len hs1
    have G := allS_game (N := N) hN V hs
    unfold ref23_Ranks_l1
    rw [hl]
    by_cases hk : k ≤ acc.length
    · rw [if_pos (by omega), show (s.1, s.2) = s from rfl, show ((k : Int) + 1) = ((k + 1 : Nat) : Int) by omega]
      refine Ok.bind (rStep_ok hN V hK hs hw) fun r1 ⟨_, hr1, hr2⟩ => ?_
      refine Ok.bind (rRanks_l2_ok (N := N) a2 (k := (k : Int)) hr1 hw (was := ranks) N 0 ranks (by omega) (by omega) hl fun j hj => by rw [if_neg (fun h => by omega)]) fun x ⟨hx1, hx2⟩ => ?_
      refine Ok.bind (rRanks_l3_ok (N := N) a2 hx1 N 0 won (by omega) (by omega) hw fun j hj => by omega) fun w ⟨hw1, hw2⟩ => ?_
      have hx3 : ∀ q, q < acc.length → x.getD q 0 = if 0 ≤ out.getD q 0 ∧ out.getD q 0 < ((k + 1 : Nat) : Int) then out.getD q 0 else -1 := fun q hq => by
        rw [hx2 q hq]
        by_cases c : 0 ≤ out.getD q 0 ∧ out.getD q 0 < (k : Int)
        · have hwt := (hv q hq).2 c
          rw [if_neg (fun h => by rw [hwt] at h; cases h.2), hr q hq, if_pos c, if_pos ⟨c.1, by omega⟩]
        · have hwf : won.getD q false = false := by
            cases h : won.getD q false with
            | false => rfl
            | true => exact absurd ((hv q hq).1 h) c
          have hn := next_iff G R l1.1 k0 hv hq c
          by_cases c2 : out.getD q 0 = (k : Int)
          · rw [if_pos ⟨(hr2 q hq).2 (hn.2 c2), hwf⟩, if_pos ⟨by omega, by omega⟩, c2]
          · rw [if_neg (fun h => c2 (hn.1 ((hr2 q hq).1 h.1))), hr q hq, if_neg c, if_neg (fun h => c ⟨h.1, by omega⟩)]
      refine Ok.ask (by unfold in64; omega) (rRanks_l1_ok hN V hK hs R m (k + 1) x w (by omega) (by omega) (by omega) hx1 hw1 hx3 fun q hq => ?_)
      rw [hw2 q hq, decide_eq_true_iff, hx3 q hq]
      by_cases c : 0 ≤ out.getD q 0 ∧ out.getD q 0 < ((k + 1 : Nat) : Int)
      · rw [if_pos c]; exact ⟨fun _ => c, fun h => h.1⟩
      · rw [if_neg c]; exact ⟨fun h => by omega, fun h => absurd h c⟩
    · rw [if_neg (by omega)]
      refine Ok.pure (ext_getD 0 (by rw [hl, R.len]) fun q hq => ?_)
      rw [hr q (by omega)]
      have := R.lo q (by omega)
      by_cases c : 0 ≤ out.getD q 0 ∧ out.getD q 0 < (k : Int)
      · rw [if_pos c]
      · rw [if_neg c]; omega
theorem rRanks_ok (hN : 5000 ≤ N) (V : Valid p acc gd nd) (hK : ref22_Check N p acc gd nd s = some 0) (hs : (p, s.1, s.2) ∈ splits) {out : List Int} (R : Ranked (AL nd gd s acc.length) acc.length (moves s.1).length (moves s.2).length acc out) : ref23_Ranks N p acc gd nd s = some (out, 0) := by
  have a2 := V.a2
  unfold ref23_Ranks
  rw [show (s.1, s.2) = s from rfl, hK, Option.bind_some, if_pos rfl, Int.toNat_natCast]
  obtain ⟨x, ex, x1, x2, x3⟩ := rRanks_l0_ok (N := N) (acc := acc) a2 rfl N 0 (List.replicate acc.length 0) (List.replicate acc.length false) (by omega) (by omega) (by simp) (by simp) (fun j hj => by rw [if_neg (by omega)]; exact getD_rep) fun j hj => by omega
  have ex' : ref23_Ranks_l0 N acc N (List.replicate acc.length 0) (List.replicate acc.length false) 0 = some x := ex
  obtain ⟨r, er, rfl⟩ := rRanks_l1_ok (N := N) hN V hK hs R N 1 x.1 x.2 (by omega) (by omega) (by omega) x1 x2 (fun q hq => by
    rw [(x3 q hq).1]
    have hz := R.zero q hq
    by_cases c : acc.getD q false = true
    · have := hz.2 c
      rw [if_pos c, if_pos ⟨by omega, by omega⟩, this]
    · rw [if_neg c, if_neg]
      rintro ⟨h1, h2⟩
      exact c (hz.1 (by omega))) fun q hq => by
    rw [(x3 q hq).2]
    have hz := R.zero q hq
    constructor
    · intro c; have := hz.2 c; exact ⟨by omega, by omega⟩
    · rintro ⟨h1, h2⟩; exact hz.1 (by omega)
  have er' : ref23_Ranks_l1 N p acc gd nd s N x.1 x.2 1 = some r := er
  unfold ask
  rw [if_pos (by omega), ex', Option.bind_some, er', Option.bind_some]
end
end Go.V
