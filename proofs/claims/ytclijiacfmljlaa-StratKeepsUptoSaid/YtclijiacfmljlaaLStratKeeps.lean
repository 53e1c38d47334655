/- The plain law StratKeeps. No condition. -/
import Derived.Test.YtclijiacfmljlaaBStratKeeps
import Derived.Test.YtclijiacfmljlaaPS4
import Derived.Test.YtclijiacfmljlaaV9
set_option linter.all false
set_option linter.unusedVariables false
set_option maxRecDepth 1000000
namespace Go.V
open Go Go.Proofs
theorem awake24 : law24_awake 1000000 = some true := by kernel_rfl

/-- two strategies that keep what they say agree on who wins -/
theorem Kept.agree {all : List (List (List Int))} {n E S : Nat} {acc : List Bool} {e s : Int} {w1 w2 : Bool} {r1 r2 : List Int} {p1 p2 : List (List Int)} {c1 c2 : List Int} (G : Game all n E S) (K1 : Kept all n E S acc e s w1 r1 p1 c1) (K2 : Kept all n E S acc e s w2 r2 p2 c2) :
    ∀ (k : Nat) (q : Nat), q < n → 0 ≤ r1.getD q 0 → r1.getD q 0 ≤ k → 0 ≤ r2.getD q 0
  | k, q, hq, h0, hk => by
    have a := K1.st q hq
    have b := K2.st q hq
    by_cases hz : r1.getD q 0 = 0
    · have := b.2.1.2 (a.2.1.1 hz); omega
    · match k with
      | 0 => omega
      | k + 1 =>
        refine Classical.byContradiction fun hn => ?_
        obtain ⟨i, hi, _, h2⟩ := b.2.2.2.2.2 (by omega)
        obtain ⟨j, hj, _, h4, h5⟩ := (a.2.2.2.2.1 (by omega)).2 i hi
        have := Kept.agree G K1 K2 k (to all q i j) (G.to_lt hq hi hj) h4 (by omega)
        have := h2 j hj
        omega
theorem Kept.wins_eq {all : List (List (List Int))} {n E S : Nat} {acc : List Bool} {e s : Int} {w1 w2 : Bool} {r1 r2 : List Int} {p1 p2 : List (List Int)} {c1 c2 : List Int} (G : Game all n E S) (K1 : Kept all n E S acc e s w1 r1 p1 c1) (K2 : Kept all n E S acc e s w2 r2 p2 c2) : w1 = w2 := by
  have n1 := G.n1
  rw [K1.wins, K2.wins]
  have h1 := Kept.agree G K1 K2 (r1.getD 0 0).toNat 0 (by omega)
  have h2 := Kept.agree G K2 K1 (r2.getD 0 0).toNat 0 (by omega)
  by_cases c1 : 0 ≤ r1.getD 0 0 <;> by_cases c2 : 0 ≤ r2.getD 0 0
  · rw [decide_eq_true c1, decide_eq_true c2]
  · have := h1 c1 (by omega); omega
  · have := h2 c2 (by omega); omega
  · rw [decide_eq_false c1, decide_eq_false c2]

section
variable {N : Nat} {rk : List Int} {rp : List (List Int)} {ch : List Int} {b : Bool}
theorem Large24_l0_ok (h : rp.length ≤ 300) : ∀ (m : Nat) (q : Int), 0 ≤ q → q ≤ rp.length → (rp.length : Int) - q < m → Ok (law24_Large_l0 N rp m q) fun _ => True
  | 0, q, _, _, h => by omega
  | m + 1, q, k0, k1, k2 => by
    unfold law24_Large_l0
    refine Ok.ite (fun hq => ?_) fun _ => Ok.pure trivial
    refine Ok.ask (by unfold idx; omega) (Ok.ite (fun _ => Ok.pure trivial) fun _ => Ok.ask (by unfold in64; omega) ?_)
    exact Large24_l0_ok h m (q + 1) (by omega) (by omega) (by omega)
theorem Large24_ok (hN : 5000 ≤ N) : Ok (law24_Large N b rk rp ch) fun _ => True := by
  unfold law24_Large
  refine Ok.ite (fun _ => Ok.pure trivial) fun h1 => Ok.ite (fun _ => Ok.pure trivial) fun h2 => Ok.ite (fun _ => Ok.pure trivial) fun h3 => ?_
  refine (Large24_l0_ok (by omega) N 0 (by omega) (by omega) (by omega)).bind fun x _ => Ok.elim (fun _ _ => Ok.pure trivial) fun _ _ => Ok.pure trivial
end

theorem stratKeeps_true {p : Int} {acc : List Bool} {gd : List Int} {nd : List Nd} {s : Int × Int} {wins : Bool} {rk : List Int} {rp : List (List Int)} {ch : List Int} {ll : List Int} (hw : ∀ x ∈ nd, x.wf) (h1 : 0 ≤ s.1 ∧ s.1 ≤ 255) (h2 : 0 ≤ s.2 ∧ s.2 ≤ 255) :
    law24_StratKeeps 1000000 p acc gd nd s wins rk rp ch ll = some true := by
  have hN : 5000 ≤ 1000000 := by omega
  refine Ok.eq ?_
  unfold law24_StratKeeps
  rw [awake24]
  simp only [Option.bind_some]
  refine (Large_ok (N := 1000000) (p := p) (acc := acc) (gd := gd) (nd := nd)).bind fun L hL => ?_
  refine Ok.ite (fun _ => Ok.pure rfl) fun hL2 => ?_
  have hp : p ≤ 3 ∨ 8 < p := hL.resolve_left hL2
  refine (Large24_ok hN).bind fun L2 _ => ?_
  refine Ok.ite (fun _ => Ok.pure rfl) fun _ => ?_
  obtain ⟨eB, hB, hB2⟩ := board_Check_ok (acc := acc) (gd := gd) hN hw hp h1 h2
  rw [show (s.1, s.2) = s from rfl, hB]
  simp only [Option.bind_some]
  refine Ok.ite (fun h0 => ?_) fun _ => Ok.pure rfl
  subst h0
  obtain ⟨V, ha0, hs⟩ := hB2 rfl
  have hl := split_le hs
  have a1 := V.a1
  have a2 := V.a2
  have G := allS_game (N := 1000000) hN V hs
  refine (Check_ok (wins := wins) (ranks := rk) (reply := rp) (choice := ch) hN V hB hs).bind fun r86 ⟨c1, c2⟩ => ?_
  rw [Real_ok (N := 1000000) V]
  simp only [Option.bind_some, if_true]
  rw [if_pos c1]
  have hj : law24_StratKeeps_j0 1000000 s wins = some (if wins = true then s.1 else s.2) := by
    unfold law24_StratKeeps_j0; split <;> rfl
  rw [hj]
  simp only [Option.bind_some]
  refine (choices_ok hN (mask := if wins = true then s.1 else s.2) (by split <;> omega)).bind fun mv ⟨m1, m2⟩ => ?_
  by_cases hk : r86.1 = true
  · have K := c2.1 hk
    refine (Play_ok hN V hB hs K m2 (by omega)).bind fun r130 ⟨p1, P, p2, p3⟩ => ?_
    have ne := P.ne
    have rl := K.rl
    have hlast := P.inn (r130.1.length - 1) (by omega)
    have hst := K.st _ (show (r130.1.getD (r130.1.length - 1) 0).toNat < acc.length by omega)
    have el : Int.toNat ((((List.length r130.1) : Nat) : Int) - 1) = r130.1.length - 1 := by omega
    rw [if_pos hk, if_pos p1, if_neg (by omega), el]
    refine Ok.ask (by unfold in64; omega) (Ok.ask (by unfold idx; omega) ?_)
    rw [if_neg (by omega), if_neg (by omega), if_pos (by omega)]
    refine (Of_ok hN V hB hs).bind fun r172 ⟨o1, K2, R⟩ => ?_
    rw [if_pos o1, if_pos (Kept.wins_eq G K2 K)]
    refine Ok.ite (fun hwin => ?_) fun hwin => ?_
    · refine Ok.ask (by unfold idx; omega) ?_
      have e0 : (Int.toNat (0 : Int)) = 0 := rfl
      rw [e0]
      refine Ok.ite (fun _ => Ok.pure rfl) fun hle => ?_
      refine Ok.ask (by unfold idx; omega) (Ok.pure ?_)
      rcases p3 with p3 | p3
      · have hf := P.fall hwin
        have hw2 := P.win hwin (r130.1.length - 1) (by omega)
        exact hst.2.1.1 (by omega)
      · exact p3
    · have hj2 : law24_StratKeeps_j2 1000000 acc true r130 = some true := by
        unfold law24_StratKeeps_j2
        rw [if_pos rfl, el]
        unfold ask
        rw [if_pos (by unfold idx; omega)]
        have := P.lose (by simpa using hwin) (r130.1.length - 1) (by omega)
        have h3 : acc.getD (r130.1.getD (r130.1.length - 1) 0).toNat false = false := by
          cases h4 : acc.getD (r130.1.getD (r130.1.length - 1) 0).toNat false with
          | true => have := hst.2.1.2 h4; omega
          | false => rfl
        rw [h3]; rfl
      rw [hj2]
      exact Ok.pure rfl
  · rw [Play_no hN V hB hs fun K => hk (c2.2 K)]
    simp only [Option.bind_some]
    rw [if_neg hk]
    exact Ok.pure rfl

theorem stratKeeps_row (w0 : World) (p : Int) (A1 A2 A3 : Option Addr) (c1 c2 c3 : Nat) (acc : List Bool) (gd : List Int) (nd : List Nd) (e s : Int) (b : Bool) (B1 B2 B3 : Option Addr) (d1 d2 d3 : Nat) (rk : List Int) (rp : List (List Int)) (ch : List Int) (A4 : Option Addr) (c4 : Nat) (ll : List Int)
    (k1 : acc.length ≤ c1) (k2 : gd.length ≤ c2) (k3 : nd.length ≤ c3) (j1 : rk.length ≤ d1) (j2 : rp.length ≤ d2) (j3 : ch.length ≤ d3) (k4 : ll.length ≤ c4)
    (C1 : C cBool w0 (Lo w0.heap.size) A1 acc) (C2 : C (cInt .i64) w0 (Lo w0.heap.size) A2 gd) (C3 : C cNode w0 (Lo w0.heap.size) A3 nd) (D1 : C (cInt .i64) w0 (Lo w0.heap.size) B1 rk) (D2 : C (cSl (cInt .u8)) w0 (Lo w0.heap.size) B2 rp) (D3 : C (cInt .u8) w0 (Lo w0.heap.size) B3 ch) (C4 : C (cInt .i64) w0 (Lo w0.heap.size) A4 ll) (h1 : 0 ≤ e ∧ e ≤ 255) (h2 : 0 ≤ s ∧ s ≤ 255) (hw : ∀ x ∈ nd, x.wf) :
    Calls Try.prog 5 #[.agg #[.int .i64 p, .slice A1 acc.length c1, .slice A2 gd.length c2, .slice A3 nd.length c3], .agg #[.int .u8 e, .int .u8 s], .agg #[.bool b, .slice B1 rk.length d1, .slice B2 rp.length d2, .slice B3 ch.length d3], .slice A4 ll.length c4] w0 fun e w' => ∃ v, e = .returned v ∧ (v = .bool true ∧ Ext w0 w') :=
  (law24_StratKeeps_calls A1 c1 A2 c2 A3 c3 B1 d1 B2 d2 B3 d3 A4 c4 p acc gd nd (e, s) b rk rp ch ll k1 k2 k3 j1 j2 j3 k4 (((((((Hp.start w0).arg C1).arg C2).arg C3).arg D1).arg D2).arg D3 |>.arg C4) (stratKeeps_true hw h1 h2)).mono fun e w' ⟨v, he, hv, H⟩ => ⟨v, he, hv, H.chgd.own⟩
end Go.V
