/- Plain theory: strategies, checked. No program. -/
import Derived.Test.YtclijiacfmljlaaPS
set_option linter.all false
set_option linter.unusedVariables false
namespace Go.V
open Go

section
variable {N : Nat} {p : Int} {acc : List Bool} {gd : List Int} {nd : List Nd} {s : Int × Int} {wins : Bool} {ranks : List Int} {reply : List (List Int)} {choice : List Int}

theorem number_rank (hN : 5000 ≤ N) (V : Valid p acc gd nd) (hs : (p, s.1, s.2) ∈ splits) (hr : ranks.length = acc.length) {q : Nat} (hq : q < acc.length) (c : Int) :
    Ok (Option.bind (board_Number N s.1 c) fun r213 => if (r213.2 : Int) = 0 then ask (idx r213.1 (List.length (rowsS nd gd s.1 s.2 (q : Int)))) <| Option.bind (strat_lost N (List.getD (rowsS nd gd s.1 s.2 (q : Int)) (Int.toNat r213.1) []) ranks) fun r242 => some r242 else some false)
      fun r => r = true ↔ ∃ i, i < (moves s.1).length ∧ (moves s.1).getD i 0 = c ∧ ∀ k, k < (moves s.2).length → ranks.getD (to (allS nd gd s.1 s.2 acc.length) q i k) 0 = -1 := by
  have G := allS_game (N := N) hN V hs
  have hl := split_le hs
  refine (board_Number_ok hN hl.2.1).bind fun k hk => ?_
  rcases hk with ⟨rfl, hk⟩ | ⟨h2, h3, h4, h5⟩
  · rw [if_neg (by decide)]
    exact Ok.pure ⟨fun h => by (cases h), fun ⟨i, h1, h2, _⟩ => absurd h2 (hk i h1)⟩
  · rw [if_pos h2]
    refine Ok.ask (by unfold idx; rw [rowsS_len]; omega) ?_
    have R := G.rowAt hr hq (i := k.1.toNat) (by omega)
    rw [allS_get hq] at R
    refine (lost_ok hN R).bind fun r hr2 => Ok.pure (hr2.trans ⟨fun h => ⟨k.1.toNat, by omega, h5, fun j hj => ?_⟩, fun ⟨i, h6, h7, h8⟩ j hj => ?_⟩)
    · unfold to; rw [allS_get hq]; exact h j hj
    · have e := moves_inj' hl.2.1 h6 (k := k.1.toNat) (by omega) (by rw [h7, h5])
      subst e
      have := h8 j hj
      unfold to at this; rw [allS_get hq] at this; exact this

theorem state_ok (hN : 5000 ≤ N) (V : Valid p acc gd nd) (hB : board_Check N p acc gd nd s = some 0) (hs : (p, s.1, s.2) ∈ splits) (hr : ranks.length = acc.length) (hp : reply.length = acc.length) (hc : choice.length = acc.length) {q : Nat} (hq : q < acc.length) :
    Ok (strat_state N p acc gd nd s wins ranks reply choice (q : Int)) fun r => r = true ↔ StK (allS nd gd s.1 s.2 acc.length) acc.length (moves s.1).length (moves s.2).length acc s.1 s.2 ranks reply choice q := by
  have G := allS_game (N := N) hN V hs
  have hl := split_le hs
  have hg : board_Goes N p acc gd nd (s.1, s.2) (q : Int) = some (rowsS nd gd s.1 s.2 q, 0) := board_Goes_eq hN V hB hs (by omega) (by omega)
  have nr := number_rank (ranks := ranks) hN V hs hr hq (choice.getD q 0)
  have bad : ¬ StK (allS nd gd s.1 s.2 acc.length) acc.length (moves s.1).length (moves s.2).length acc s.1 s.2 ranks reply choice q → Ok (some false) fun r => r = true ↔ StK (allS nd gd s.1 s.2 acc.length) acc.length (moves s.1).length (moves s.2).length acc s.1 s.2 ranks reply choice q := fun h => Ok.pure ⟨fun h2 => by (cases h2), fun h2 => absurd h2 h⟩
  unfold strat_state
  simp only [Int.toNat_natCast, hg, Option.bind_some, state_l1, state_l2, state_l3]
  refine Ok.ask (by unfold idx; omega) ?_
  refine Ok.ite (fun h => bad fun k => by have := k.1; omega) fun h1 => ?_
  refine Ok.ask (by unfold idx; omega) ?_
  have hzero : (ranks.getD q 0 = 0 ↔ acc.getD q false = true) → ((ranks.getD q 0 : Int) == 0) = acc.getD q false := fun this => by
    by_cases h0 : ranks.getD q 0 = 0
    · rw [h0, this.1 h0]; rfl
    · have h3 : acc.getD q false = false := by
        cases h4 : acc.getD q false with
        | true => exact absurd (this.2 h4) h0
        | false => rfl
      rw [h3]; simpa using h0
  refine Ok.ite (fun h2 => ?_) fun h2 => bad fun k => h2 (hzero k.2.1)
  have hz : ranks.getD q 0 = 0 ↔ acc.getD q false = true := by
    rw [← h2]; simp
  have E8 := G.E8
  -- the part behind where the rank is positive
  have up : 0 < ranks.getD q 0 → choice.getD q 0 = 0 → Ok (if ((((List.length (List.getD reply q [])) : Nat) : Int) : Int) = (((List.length (rowsS nd gd s.1 s.2 (q : Int), (0 : Int)).1) : Nat) : Int) then
      Option.bind (strat_state_l0 N s ranks reply (q : Int) (rowsS nd gd s.1 s.2 (q : Int), 0) N 0) fun x => Sum.elim (fun _ => some true) (fun y => some y) x else some false)
      fun r => r = true ↔ StK (allS nd gd s.1 s.2 acc.length) acc.length (moves s.1).length (moves s.2).length acc s.1 s.2 ranks reply choice q := fun h0 hch => by
    refine Ok.ite (fun he => ?_) fun he => bad fun k => he ?_
    · have he' : (reply.getD q []).length = (moves s.1).length := by
        simp only [rowsS_len] at he; omega
      refine (state_l0_ok hN hl.2.2 G hr hq he' (r := (rowsS nd gd s.1 s.2 (q : Int), 0)) (by rw [allS_get hq]) N 0 (by omega) (by omega) (by omega) fun j h => by omega).bind fun x hx => ?_
      rcases hx with ⟨rfl, hx⟩ | ⟨rfl, hx⟩
      · exact Ok.pure ⟨fun _ => ⟨by omega, hz, fun h => by omega, fun _ => hch, fun _ => ⟨he', hx⟩, fun h => by omega⟩, fun _ => rfl⟩
      · exact bad fun k => hx (k.2.2.2.2.1 h0).2
    · simp only [rowsS_len]
      have := (k.2.2.2.2.1 h0).1
      omega
  refine Ok.ite (fun h3 => ?_) fun h3 => ?_
  · refine Ok.ask (by unfold idx; omega) ?_
    refine Ok.ite (fun h4 => bad fun k => by have := k.2.2.1 h3; omega) fun h4 => ?_
    refine Ok.ite (fun h5 => ?_) fun h5 => ?_
    · refine Ok.ask (by unfold idx; omega) ?_
      refine Ok.ite (fun h6 => ?_) fun h6 => bad fun k => h6 (k.2.2.2.1 h5)
      refine Ok.ite (fun h7 => by omega) fun _ => ?_
      refine Ok.ite (fun h7 => by omega) fun _ => Ok.pure ⟨fun _ => ⟨by omega, hz, fun _ => by omega, fun _ => h6, fun h => by omega, fun h => by omega⟩, fun _ => rfl⟩
    · refine Ok.ite (fun h7 => by omega) fun _ => ?_
      refine Ok.ite (fun h7 => ?_) fun h7 => by omega
      refine Ok.ask (by unfold idx; omega) ?_
      refine nr.mono fun r hr2 => hr2.trans ⟨fun h => ⟨by omega, hz, fun _ => by omega, fun h => by omega, fun h => by omega, fun _ => h⟩, fun k => k.2.2.2.2.2 h7⟩
  · refine Ok.ite (fun h5 => ?_) fun h5 => by omega
    refine Ok.ask (by unfold idx; omega) ?_
    refine Ok.ite (fun h6 => ?_) fun h6 => bad fun k => h6 (k.2.2.2.1 h5)
    refine Ok.ite (fun h7 => ?_) fun h7 => by omega
    refine Ok.ask (by unfold idx; omega) ?_
    exact up h7 h6

theorem Check_l0_ok (hN : 5000 ≤ N) (V : Valid p acc gd nd) (hB : board_Check N p acc gd nd s = some 0) (hs : (p, s.1, s.2) ∈ splits) (hr : ranks.length = acc.length) (hp : reply.length = acc.length) (hc : choice.length = acc.length) : ∀ (m : Nat) (x : Int), 0 ≤ x → x ≤ acc.length → (acc.length : Int) - x < m →
    (∀ q : Nat, (q : Int) < x → StK (allS nd gd s.1 s.2 acc.length) acc.length (moves s.1).length (moves s.2).length acc s.1 s.2 ranks reply choice q) →
    Ok (strat_Check_l0 N p acc gd nd s wins ranks reply choice m x) fun r => (r = .inl () ∧ ∀ q, q < acc.length → StK (allS nd gd s.1 s.2 acc.length) acc.length (moves s.1).length (moves s.2).length acc s.1 s.2 ranks reply choice q) ∨
      (r = .inr (false, 0) ∧ ¬ ∀ q, q < acc.length → StK (allS nd gd s.1 s.2 acc.length) acc.length (moves s.1).length (moves s.2).length acc s.1 s.2 ranks reply choice q)
  | 0, x, _, _, h, _ => by omega
  | m + 1, x, k0, k1, k2, k3 => by
    have a2 := V.a2
    unfold strat_Check_l0
    refine Ok.ite (fun hx => ?_) fun hx => Ok.pure (.inl ⟨rfl, fun q hq => k3 q (by omega)⟩)
    have e : x = ((x.toNat : Nat) : Int) := by omega
    have h1 := state_ok (wins := wins) hN V hB hs hr hp hc (q := x.toNat) (by omega)
    rw [← e] at h1
    refine h1.bind fun r hr2 => ?_
    refine Ok.ite (fun h => ?_) fun h => Ok.pure (.inr ⟨rfl, fun h2 => h (hr2.2 (h2 _ (by omega)))⟩)
    refine Ok.ask (by unfold in64; omega) ?_
    refine Check_l0_ok hN V hB hs hr hp hc m (x + 1) (by omega) (by omega) (by omega) fun q hq => ?_
    rcases Int.lt_or_eq_of_le (show (q : Int) ≤ x by omega) with h3 | h3
    · exact k3 q h3
    · rw [show q = x.toNat by omega]; exact hr2.1 h
theorem Check_ok (hN : 5000 ≤ N) (V : Valid p acc gd nd) (hB : board_Check N p acc gd nd s = some 0) (hs : (p, s.1, s.2) ∈ splits) :
    Ok (strat_Check N p acc gd nd s wins ranks reply choice) fun r => r.2 = 0 ∧ (r.1 = true ↔ Kept (allS nd gd s.1 s.2 acc.length) acc.length (moves s.1).length (moves s.2).length acc s.1 s.2 wins ranks reply choice) := by
  have a1 := V.a1
  have a2 := V.a2
  have bad : ∀ {K : Prop}, ¬ K → Ok (some (false, (0 : Int))) fun r : Bool × Int => r.2 = 0 ∧ (r.1 = true ↔ K) := fun h => Ok.pure ⟨rfl, fun h2 => (by cases h2), fun h2 => absurd h2 h⟩
  unfold strat_Check
  rw [show (s.1, s.2) = s from rfl, hB]
  simp only [Option.bind_some]
  rw [if_pos trivial]
  refine Ok.ite (fun h1 => ?_) fun h1 => bad fun k => h1 (by rw [k.rl])
  refine Ok.ite (fun h2 => ?_) fun h2 => bad fun k => h2 (by rw [k.pl])
  refine Ok.ite (fun h3 => ?_) fun h3 => bad fun k => h3 (by rw [k.cl])
  refine Ok.ask (by unfold idx; omega) ?_
  refine Ok.ite (fun h4 => ?_) fun h4 => bad fun k => h4 k.wins
  refine (Check_l0_ok hN V hB hs (by omega) (by omega) (by omega) N 0 (by omega) (by omega) (by omega) fun q h => by omega).bind fun r hr => ?_
  rcases hr with ⟨rfl, hr⟩ | ⟨rfl, hr⟩
  · exact Ok.pure ⟨rfl, fun _ => ⟨by omega, by omega, by omega, h4, hr⟩, fun _ => rfl⟩
  · exact bad fun k => hr k.st
end
end Go.V
