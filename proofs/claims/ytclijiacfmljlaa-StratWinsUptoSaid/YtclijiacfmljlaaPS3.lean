/- Plain theory: the strategy that is made keeps what it says. No program. -/
import Derived.Test.YtclijiacfmljlaaPS2
set_option linter.all false
set_option linter.unusedVariables false
namespace Go.V
open Go

theorem getD_snoc {α : Type} {xs : List α} {v d : α} {j : Nat} : (xs ++ [v]).getD j d = if j = xs.length then v else xs.getD j d := by
  rw [List.getD_eq_getElem?_getD, List.getD_eq_getElem?_getD]
  by_cases h : j = xs.length
  · subst h; simp
  · rw [if_neg h]
    by_cases h2 : j < xs.length
    · rw [List.getElem?_append_left h2]
    · rw [List.getElem?_append_right (by omega), List.getElem?_eq_none (by simp; omega), List.getElem?_eq_none (by omega)]

section
variable {N : Nat} {p : Int} {acc : List Bool} {gd : List Int} {nd : List Nd} {s : Int × Int} {all : List (List (List Int))} {n E S : Nat}

theorem Of_l2_ok (hN : 5000 ≤ N) (hs : 0 ≤ s.2 ∧ s.2 ≤ 7) (G : Game all n E (moves s.2).length) {r28 : List Int × Int} {q : Nat} (hq : q < n) (R : Ranked all n E (moves s.2).length acc r28.1) (h0 : 0 < r28.1.getD q 0) {r537 : List (List Int) × Int} (hr : r537.1 = all.getD q []) : ∀ (m : Nat) (reply : List Int) (i : Int), 0 ≤ i → i ≤ E → (E : Int) - i < m → reply.length = i →
    (∀ j : Nat, (j : Int) < i → ∃ k, k < (moves s.2).length ∧ (moves s.2).getD k 0 = reply.getD j 0 ∧ 0 ≤ r28.1.getD (to all q j k) 0 ∧ r28.1.getD (to all q j k) 0 < r28.1.getD q 0) →
    Ok (strat_Of_l2 N r28 (moves s.2) r537 m reply i) fun r => r.length = E ∧ ∀ j : Nat, j < E → ∃ k, k < (moves s.2).length ∧ (moves s.2).getD k 0 = r.getD j 0 ∧ 0 ≤ r28.1.getD (to all q j k) 0 ∧ r28.1.getD (to all q j k) 0 < r28.1.getD q 0
  | 0, reply, i, _, _, h, _, _ => by omega
  | m + 1, reply, i, k0, k1, k2, k3, k4 => by
    have E8 := G.E8
    have S8 := G.S8
    unfold strat_Of_l2
    rw [hr, G.rows q hq]
    refine Ok.ite (fun hi => ?_) fun hi => Ok.pure ⟨by omega, fun j hj => k4 j (by omega)⟩
    refine Ok.ask (by unfold idx; omega) ?_
    have hi' : i.toNat < E := by omega
    obtain ⟨k, hk, h1, h2⟩ := R.pos q hq h0 i.toNat hi'
    refine (best_ok hN (G.rowAt R.len hq hi') ⟨k, hk, h1⟩).bind fun b ⟨b1, b2, b3, b4⟩ => ?_
    refine Ok.ask (by unfold idx; omega) (Ok.ask (by simp; omega) (Ok.ask (by unfold in64; omega) ?_))
    refine Of_l2_ok hN hs G hq R h0 hr m _ (i + 1) (by omega) (by omega) (by omega) (by simp; omega) fun j hj => ?_
    rw [getD_snoc]
    by_cases c : j = reply.length
    · rw [if_pos c]
      have e : j = i.toNat := by omega
      subst e
      refine ⟨b.toNat, by omega, rfl, b3, ?_⟩
      have := b4 k hk h1
      unfold to at h2 ⊢
      omega
    · rw [if_neg c]
      exact k4 j (by omega)

theorem Of_l4_ok (hN : 5000 ≤ N) (G : Game all n E S) {r28 : List Int × Int} {q : Nat} (hq : q < n) (hl : r28.1.length = n) {r537 : List (List Int) × Int} (hr : r537.1 = all.getD q []) : ∀ (m : Nat) (i : Int), 0 ≤ i → i ≤ E → (E : Int) - i < m →
    (∀ j : Nat, (j : Int) < i → ¬ ∀ k, k < S → r28.1.getD (to all q j k) 0 = -1) →
    Ok (strat_Of_l4 N r28 r537 m i) fun r => (r = .inl () ∧ ∀ j, j < E → ¬ ∀ k, k < S → r28.1.getD (to all q j k) 0 = -1) ∨ ∃ j : Int, r = .inr j ∧ 0 ≤ j ∧ j < E ∧ ∀ k, k < S → r28.1.getD (to all q j.toNat k) 0 = -1
  | 0, i, _, _, h, _ => by omega
  | m + 1, i, k0, k1, k2, k4 => by
    have E8 := G.E8
    unfold strat_Of_l4
    rw [hr, G.rows q hq]
    refine Ok.ite (fun hi => ?_) fun hi => Ok.pure (.inl ⟨rfl, fun j hj => k4 j (by omega)⟩)
    refine Ok.ask (by unfold idx; omega) ?_
    have hi' : i.toNat < E := by omega
    unfold strat_Of_f5
    rw [hr]
    obtain ⟨b, eb, hb⟩ := lost_ok hN (G.rowAt hl hq hi')
    rw [eb]
    simp only [Option.bind_some]
    refine Ok.ite (fun h => Ok.pure (.inr ⟨i, rfl, k0, hi, hb.1 h⟩)) fun h => ?_
    refine Ok.ask (by unfold in64; omega) ?_
    refine Of_l4_ok hN G hq hl hr m (i + 1) (by omega) (by omega) (by omega) fun j hj => ?_
    rcases Int.lt_or_eq_of_le (show (j : Int) ≤ i by omega) with h3 | h3
    · exact k4 j h3
    · rw [show j = i.toNat by omega]; exact fun h2 => h (hb.2 h2)

def Made (all : List (List (List Int))) (n E S : Nat) (e s : Int) (ranks : List Int) (q : Nat) (y : List Int × Int) : Prop :=
  (ranks.getD q 0 ≤ 0 → y.1.length = 0) ∧ (0 ≤ ranks.getD q 0 → y.2 = 0) ∧
  (0 < ranks.getD q 0 → y.1.length = E ∧ ∀ i, i < E → ∃ k, k < S ∧ (moves s).getD k 0 = y.1.getD i 0 ∧ 0 ≤ ranks.getD (to all q i k) 0 ∧ ranks.getD (to all q i k) 0 < ranks.getD q 0) ∧
  (ranks.getD q 0 < 0 → ∃ i, i < E ∧ (moves e).getD i 0 = y.2 ∧ ∀ k, k < S → ranks.getD (to all q i k) 0 = -1)

theorem Of_j1_ok (hN : 5000 ≤ N) (hs : 0 ≤ s.2 ∧ s.2 ≤ 7) (G : Game all n (moves s.1).length (moves s.2).length) {r28 : List Int × Int} {q : Nat} (hq : q < n) (R : Ranked all n (moves s.1).length (moves s.2).length acc r28.1) {r537 : List (List Int) × Int} (hr : r537.1 = all.getD q []) :
    Ok (strat_Of_j1 N r28 (moves s.1) (moves s.2) (q : Int) r537) fun y => Made all n (moves s.1).length (moves s.2).length s.1 s.2 r28.1 q y := by
  have E8 := G.E8
  unfold strat_Of_j1
  simp only [Int.toNat_natCast]
  refine Ok.ite (fun h => ?_) fun h => ?_
  · refine (Of_l2_ok hN hs G hq R h hr N [] 0 (by omega) (by omega) (by omega) rfl fun j h => by omega).bind fun r hr2 => Ok.pure ⟨fun h => by omega, fun _ => rfl, fun _ => hr2, fun h => by omega⟩
  refine Ok.ite (fun h2 => ?_) fun h2 => Ok.pure ⟨fun _ => rfl, fun _ => rfl, fun h => by omega, fun h => by omega⟩
  have hneg : r28.1.getD q 0 = -1 := (R.lo q hq).elim id fun h => by omega
  unfold strat_Of_f3
  obtain ⟨r, e, hr2⟩ := Of_l4_ok hN G hq R.len hr N 0 (by omega) (by omega) (by omega) fun j h => by omega
  rw [e]
  rcases hr2 with ⟨rfl, hr2⟩ | ⟨j, rfl, h3, h4, h5⟩
  · obtain ⟨i, hi, h⟩ := R.neg q hq hneg
    exact absurd h (hr2 i hi)
  · simp only [Option.bind_some, Sum.elim_inr]
    refine Ok.ask (by unfold idx; omega) (Ok.pure ⟨fun _ => rfl, fun h => by omega, fun h => by omega, fun _ => ⟨j.toNat, by omega, rfl, h5⟩⟩)

theorem Of_l0_ok (hN : 5000 ≤ N) (V : Valid p acc gd nd) (hB : board_Check N p acc gd nd s = some 0) (hs : (p, s.1, s.2) ∈ splits) {r28 : List Int × Int} (R : Ranked (allS nd gd s.1 s.2 acc.length) acc.length (moves s.1).length (moves s.2).length acc r28.1) : ∀ (m : Nat) (reply : List (List Int)) (choice : List Int) (x : Int), 0 ≤ x → x ≤ acc.length → (acc.length : Int) - x < m → reply.length = x → choice.length = x →
    (∀ q : Nat, (q : Int) < x → Made (allS nd gd s.1 s.2 acc.length) acc.length (moves s.1).length (moves s.2).length s.1 s.2 r28.1 q (reply.getD q [], choice.getD q 0)) →
    Ok (strat_Of_l0 N p acc gd nd s r28 (moves s.1) (moves s.2) m reply choice x) fun y => y.1.length = acc.length ∧ y.2.length = acc.length ∧ ∀ q : Nat, q < acc.length → Made (allS nd gd s.1 s.2 acc.length) acc.length (moves s.1).length (moves s.2).length s.1 s.2 r28.1 q (y.1.getD q [], y.2.getD q 0)
  | 0, reply, choice, x, _, _, h, _, _, _ => by omega
  | m + 1, reply, choice, x, k0, k1, k2, k3, k4, k5 => by
    have a2 := V.a2
    have G := allS_game (N := N) hN V hs
    have hl := split_le hs
    unfold strat_Of_l0
    rw [R.len]
    refine Ok.ite (fun hx => ?_) fun hx => Ok.pure ⟨by show reply.length = _; omega, by show choice.length = _; omega, fun q hq => k5 q (by omega)⟩
    refine Ok.ask (by unfold idx; omega) ?_
    rw [show (s.1, s.2) = s from rfl, board_Goes_eq hN V hB hs k0 hx]
    simp only [Option.bind_some]
    have e : x = ((x.toNat : Nat) : Int) := by omega
    have hj := Of_j1_ok hN hl.2.2 G (q := x.toNat) (by omega) R (r537 := (rowsS nd gd s.1 s.2 x, 0)) (by rw [allS_get (by omega), ← e])
    rw [← e] at hj
    refine hj.bind fun y hy => ?_
    refine Ok.ask (by simp; omega) (Ok.ask (by simp; omega) (Ok.ask (by unfold in64; omega) ?_))
    refine Of_l0_ok hN V hB hs R m _ _ (x + 1) (by omega) (by omega) (by omega) (by simp; omega) (by simp; omega) fun q hq => ?_
    rw [getD_snoc, getD_snoc]
    by_cases c : q = x.toNat
    · rw [if_pos (by omega), if_pos (by omega), c]; exact hy
    · rw [if_neg (by omega), if_neg (by omega)]; exact k5 q (by omega)

theorem Of_ok (hN : 5000 ≤ N) (V : Valid p acc gd nd) (hB : board_Check N p acc gd nd s = some 0) (hs : (p, s.1, s.2) ∈ splits) :
    Ok (strat_Of N p acc gd nd s) fun r => r.2 = 0 ∧ Kept (allS nd gd s.1 s.2 acc.length) acc.length (moves s.1).length (moves s.2).length acc s.1 s.2 r.1.1 r.1.2.1 r.1.2.2.1 r.1.2.2.2 ∧ Ranked (allS nd gd s.1 s.2 acc.length) acc.length (moves s.1).length (moves s.2).length acc r.1.2.1 := by
  have a1 := V.a1
  have a2 := V.a2
  have hl := split_le hs
  unfold strat_Of
  rw [show (s.1, s.2) = s from rfl]
  refine (attract_Ranks_ok hN V hB hs).bind fun r28 ⟨h1, R⟩ => ?_
  rw [if_pos h1]
  have rl := R.len
  refine Ok.ask (by unfold idx; omega) ?_
  rw [moves_n hN hl.2.1, moves_n hN hl.2.2]
  simp only [Option.bind_some]
  refine (Of_l0_ok hN V hB hs R N [] [] 0 (by omega) (by omega) (by omega) rfl rfl fun q h => by omega).bind fun y ⟨y1, y2, y3⟩ => Ok.pure ⟨rfl, ⟨rl, y1, y2, rfl, fun q hq => ?_⟩, R⟩
  obtain ⟨z1, z2, z3, z4⟩ := y3 q hq
  have := R.lo q hq
  exact ⟨by show -1 ≤ r28.1.getD q 0; omega, R.zero q hq, z1, z2, z3, z4⟩
end
end Go.V
