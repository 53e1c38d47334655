/- The plain law PlayBack. No condition. -/
import Derived.Test.YtckpjnoajnbmdaaBPlayBack
import Derived.Test.YtckpjnoajnbmdaaPQ3
import Derived.Test.YtckpjnoajnbmdaaV9
set_option linter.all false
set_option linter.unusedVariables false
set_option maxRecDepth 1000000
namespace Go.V
open Go Go.Proofs
theorem awake25' : law25_awake 1000000 = some true := by kernel_rfl

/-- how the rounds came -/
inductive Hist (n : Nat) : Int → List (Int × Int) → Prop
  | nil : Hist n 0 []
  | snoc {q q2 l : Int} {rounds : List (Int × Int)} : Hist n q rounds → 0 ≤ q2 → q2 < n → Hist n q2 (rounds ++ [(l, q)])

section
variable {N : Nat} {p : Int} {acc : List Bool} {gd : List Int} {nd : List Nd} {s : Int × Int} {wins : Bool} {ranks : List Int} {reply : List (List Int)} {choice : List Int} {raws : List Int}
theorem PlayBack_l24_ok (hN : 5000 ≤ N) (V : Valid p acc gd nd) (hs : (p, s.1, s.2) ∈ splits) (K : Kept (allS nd gd s.1 s.2 acc.length) acc.length (moves s.1).length (moves s.2).length acc s.1 s.2 wins ranks reply choice) (hraws : ∀ x ∈ raws, 0 ≤ x ∧ x ≤ 18446744073709551615) (hlen : raws.length ≤ 20) :
    ∀ (m : Nat) (q : Int) (rounds : List (Int × Int)) (i : Int), 0 ≤ i → i ≤ raws.length → (raws.length : Int) - i < m → 0 ≤ q → q < acc.length → (wins = true → 0 ≤ ranks.getD q.toNat 0) → (wins = false → ranks.getD q.toNat 0 = -1) → (rounds.length : Int) ≤ i → Hist acc.length q rounds →
    Ok (law25_PlayBack_l24 N p s raws (acc, gd, nd, wins, ranks, reply, choice, wins, ranks, reply, choice, true) m q rounds i) fun y => 0 ≤ y.1 ∧ y.1 < acc.length ∧ (wins = true → 0 ≤ ranks.getD y.1.toNat 0) ∧ (wins = false → ranks.getD y.1.toNat 0 = -1) ∧ y.2.length ≤ 20 ∧ Hist acc.length y.1 y.2
  | 0, q, rounds, i, _, _, h, _, _, _, _, _, _ => by omega
  | m + 1, q, rounds, i, k0, k1, k2, h0, h1, hw, hl, hr, hh => by
    unfold law25_PlayBack_l24
    dsimp only
    refine Ok.ite (fun hi => ?_) fun hi => Ok.pure ⟨h0, h1, hw, hl, by show rounds.length ≤ 20; omega, hh⟩
    refine Ok.ask (by unfold idx; omega) ?_
    have hraw := hraws _ (getD_mem (d := 0) k0 hi)
    refine (Move_ok (N := N) hN V hs K h0 h1 hw hl (rounds := rounds) (by omega) hraw).bind fun r hM => Ok.ask (by unfold in64; omega) ?_
    cases hM with
    | over ha => exact PlayBack_l24_ok hN V hs K hraws hlen m q rounds (i + 1) (by omega) (by omega) (by omega) h0 h1 hw hl (by omega) hh
    | no ha hmay => exact PlayBack_l24_ok hN V hs K hraws hlen m q rounds (i + 1) (by omega) (by omega) (by omega) h0 h1 hw hl (by omega) hh
    | yes l q2 ha hmay g0 g1 hand f1 f2 => exact PlayBack_l24_ok hN V hs K hraws hlen m q2 _ (i + 1) (by omega) (by omega) (by omega) g0 g1 (fun h => (f1 h).1) f2 (by simp; omega) (.snoc hh g0 g1)
theorem PlayBack_l26_eq {x : (List Bool) × (List Int) × (List Nd) × Bool × (List Int) × (List (List Int)) × (List Int) × Bool × (List Int) × (List (List Int)) × (List Int) × Bool} {t : List Int} : ∀ (m : Nat) (q : Int) (rounds : List (Int × Int)) (i : Int), law25_PlayBack_l26 N p s x t m q rounds i = law25_PlayBack_l25 N p s x t m q rounds i
  | 0, _, _, _ => rfl
  | m + 1, q, rounds, i => by
    unfold law25_PlayBack_l26 law25_PlayBack_l25
    simp only [PlayBack_l26_eq m]
theorem PlayBack_l25_ok {t : List Int} (ht : t.length ≤ 20) : ∀ (m : Nat) (q : Int) (rounds : List (Int × Int)) (i : Int), 0 ≤ i → i ≤ t.length → (t.length : Int) - i < m → (rounds.length : Int) = t.length - i → Hist acc.length q rounds →
    law25_PlayBack_l25 N p s (acc, gd, nd, wins, ranks, reply, choice, wins, ranks, reply, choice, true) t m q rounds i = some (.inl (0, []))
  | 0, q, rounds, i, _, _, h, _, _ => by omega
  | m + 1, q, rounds, i, k0, k1, k2, hr, hh => by
    unfold law25_PlayBack_l25
    dsimp only
    cases hh with
    | nil => rw [if_neg (by simp at hr; omega)]
    | snoc hp g0 g1 =>
      simp at hr
      rw [if_pos (by omega), Back_val (by omega)]
      simp only [Option.bind_some, if_true]
      unfold ask
      rw [if_pos (by unfold in64; omega)]
      exact PlayBack_l25_ok ht m _ _ (i + 1) (by omega) (by omega) (by omega) (by omega) hp
end

theorem playBack_true {p : Int} {acc : List Bool} {gd : List Int} {nd : List Nd} {s : Int × Int} {raws : List Int} {raw : Int} (hw : ∀ x ∈ nd, x.wf) (h1 : 0 ≤ s.1 ∧ s.1 ≤ 255) (h2 : 0 ≤ s.2 ∧ s.2 ≤ 255) (hraws : ∀ x ∈ raws, 0 ≤ x ∧ x ≤ 18446744073709551615) (hraw : 0 ≤ raw ∧ raw ≤ 18446744073709551615) :
    law25_PlayBack 1000000 p acc gd nd s raws raw = some true := by
  have hN : 5000 ≤ 1000000 := by omega
  refine Ok.eq ?_
  unfold law25_PlayBack
  rw [awake25']
  simp only [Option.bind_some]
  refine (Large_ok (N := 1000000) (p := p) (acc := acc) (gd := gd) (nd := nd)).bind fun L hL => ?_
  refine Ok.ite (fun _ => Ok.pure rfl) fun hL2 => ?_
  have hp : p ≤ 3 ∨ 8 < p := hL.resolve_left hL2
  refine Ok.ite (fun _ => Ok.pure rfl) fun hlen => ?_
  obtain ⟨eB, hB, hB2⟩ := board_Check_ok (acc := acc) (gd := gd) hN hw hp h1 h2
  rw [show (s.1, s.2) = s from rfl, hB]
  simp only [Option.bind_some]
  refine Ok.ite (fun h0 => ?_) fun _ => Ok.pure rfl
  subst h0
  obtain ⟨V, ha0, hs⟩ := hB2 rfl
  have a1 := V.a1
  have a2 := V.a2
  refine (begun_ok hN V hB hs).bind fun x ⟨wins, ranks, reply, choice, e, K, R⟩ => ?_
  subst e
  have rl := K.rl
  simp only [Sum.elim_inr, if_true]
  have hwin := K.wins
  have hst0 := K.st 0 (by omega)
  refine (PlayBack_l24_ok hN V hs K hraws (by omega) 1000000 0 [] 0 (by omega) (by omega) (by omega) (by omega) (by omega) (fun h => ?_) (fun h => ?_) (by simp) .nil).bind fun x ⟨y0, y1, yw, yl, yr, hh⟩ => ?_
  · rw [h] at hwin
    simpa using hwin
  · rw [h] at hwin
    have h3 : ¬ 0 ≤ ranks.getD 0 0 := by simpa using hwin
    have := hst0.1
    show ranks.getD 0 0 = -1
    omega
  obtain ⟨q, rounds⟩ := x
  dsimp only at *
  have hR := Rank_val (N := 1000000) (p := p) (acc := acc) (gd := gd) (nd := nd) (s := s) (wins := wins) (ranks := ranks) (reply := reply) (choice := choice) (rounds := rounds) y0 (by omega)
  have hO := Over_val (N := 1000000) (p := p) (acc := acc) (gd := gd) (nd := nd) (s := s) (wins := wins) (ranks := ranks) (reply := reply) (choice := choice) (rounds := rounds) y0 y1
  have hS := State_val (N := 1000000) (p := p) (acc := acc) (gd := gd) (nd := nd) (s := s) (wins := wins) (ranks := ranks) (reply := reply) (choice := choice) (q := q) (rounds := rounds)
  have hT := Trace_val (N := 1000000) (p := p) (acc := acc) (gd := gd) (nd := nd) (s := s) (wins := wins) (ranks := ranks) (reply := reply) (choice := choice) (q := q) (rounds := rounds) hN (by omega)
  have hS0 := State_val (N := 1000000) (p := p) (acc := acc) (gd := gd) (nd := nd) (s := s) (wins := wins) (ranks := ranks) (reply := reply) (choice := choice) (q := 0) (rounds := [])
  have hT0 := Trace_val (N := 1000000) (p := p) (acc := acc) (gd := gd) (nd := nd) (s := s) (wins := wins) (ranks := ranks) (reply := reply) (choice := choice) (q := 0) (rounds := []) hN (by simp)
  have hB0 := Back_nil (N := 1000000) (p := p) (acc := acc) (gd := gd) (nd := nd) (s := s) (wins := wins) (ranks := ranks) (reply := reply) (choice := choice) (q := 0)
  have hL25 := PlayBack_l25_ok (N := 1000000) (p := p) (acc := acc) (gd := gd) (nd := nd) (s := s) (wins := wins) (ranks := ranks) (reply := reply) (choice := choice) (t := rounds.map Prod.fst) (by simpa using yr) 1000000 q rounds 0 (by omega) (by omega) (by rw [List.length_map]; omega) (by rw [List.length_map]; omega) hh
  have hL26 := PlayBack_l26_eq (N := 1000000) (p := p) (s := s) (x := (acc, gd, nd, wins, ranks, reply, choice, wins, ranks, reply, choice, true)) (t := rounds.map Prod.fst) 1000000 q rounds 0
  have hSame := SameL_self (N := 1000000) (xs := rounds.map Prod.fst) hN (by rw [List.length_map]; omega)
  rw [hR, hO, hS, hT]
  simp only [Option.bind_some]
  refine (Move_ok (N := 1000000) hN V hs K y0 y1 yw yl (rounds := rounds) (by omega) hraw).bind fun r hM => ?_
  cases hM with
  | over ha =>
    dsimp only
    simp only [hR, hO, hS, hT, hL26, hL25, hSame, hB0, hS0, hT0, Option.bind_some, if_true, Sum.elim_inl]
    exact Ok.pure rfl
  | no ha hmay =>
    dsimp only
    simp only [hR, hO, hS, hT, hL26, hL25, hSame, hB0, hS0, hT0, Option.bind_some, if_true, Sum.elim_inl]
    exact Ok.pure rfl
  | yes l q2 ha hmay g0 g1 hand f1 f2 =>
    have hBk := Back_val (N := 1000000) (p := p) (acc := acc) (gd := gd) (nd := nd) (s := s) (wins := wins) (ranks := ranks) (reply := reply) (choice := choice) (q := q2) (rounds := rounds) (l := l) (q0 := q) (by omega)
    dsimp only
    simp only [hBk, hR, hO, hS, hT, hL25, hSame, hB0, hS0, hT0, Option.bind_some, if_true, Sum.elim_inl]
    exact Ok.pure rfl

theorem playBack_row (w0 : World) (p : Int) (A1 A2 A3 : Option Addr) (c1 c2 c3 : Nat) (acc : List Bool) (gd : List Int) (nd : List Nd) (e s : Int) (A4 : Option Addr) (c4 : Nat) (ll : List Int) (raw : Int)
    (k1 : acc.length ≤ c1) (k2 : gd.length ≤ c2) (k3 : nd.length ≤ c3) (k4 : ll.length ≤ c4)
    (C1 : C cBool w0 (Lo w0.heap.size) A1 acc) (C2 : C (cInt .i64) w0 (Lo w0.heap.size) A2 gd) (C3 : C cNode w0 (Lo w0.heap.size) A3 nd) (C4 : C (cInt .u64) w0 (Lo w0.heap.size) A4 ll) (h1 : 0 ≤ e ∧ e ≤ 255) (h2 : 0 ≤ s ∧ s ≤ 255) (hw : ∀ x ∈ nd, x.wf) (hl : ∀ x ∈ ll, 0 ≤ x ∧ x ≤ 18446744073709551615) (hr : 0 ≤ raw ∧ raw ≤ 18446744073709551615) :
    Calls Try.prog 5 #[.agg #[.int .i64 p, .slice A1 acc.length c1, .slice A2 gd.length c2, .slice A3 nd.length c3], .agg #[.int .u8 e, .int .u8 s], .slice A4 ll.length c4, .int .u64 raw] w0 fun e w' => ∃ v, e = .returned v ∧ (v = .bool true ∧ Ext w0 w') :=
  (law25_PlayBack_calls A1 c1 A2 c2 A3 c3 A4 c4 p acc gd nd (e, s) ll raw k1 k2 k3 k4 ((((Hp.start w0).arg C1).arg C2).arg C3 |>.arg C4) (playBack_true hw h1 h2 hl hr)).mono fun e w' ⟨v, he, hv, H⟩ => ⟨v, he, hv, H.chgd.own⟩
end Go.V
