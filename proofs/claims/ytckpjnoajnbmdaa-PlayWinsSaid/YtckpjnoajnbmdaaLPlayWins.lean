/- The plain law PlayWins. No condition. -/
import Derived.Test.YtckpjnoajnbmdaaBPlayWins
import Derived.Test.YtckpjnoajnbmdaaPQ3
import Derived.Test.YtckpjnoajnbmdaaV9
set_option linter.all false
set_option linter.unusedVariables false
set_option maxRecDepth 1000000
namespace Go.V
open Go Go.Proofs
theorem awake25 : law25_awake 1000000 = some true := by kernel_rfl

section
variable {N : Nat} {p : Int} {acc : List Bool} {gd : List Int} {nd : List Nd} {s : Int × Int} {wins : Bool} {ranks : List Int} {reply : List (List Int)} {choice : List Int} {raws : List Int}
set_option maxHeartbeats 4000000 in
theorem PlayWins_l24_ok (hN : 5000 ≤ N) (V : Valid p acc gd nd) (hs : (p, s.1, s.2) ∈ splits) (K : Kept (allS nd gd s.1 s.2 acc.length) acc.length (moves s.1).length (moves s.2).length acc s.1 s.2 wins ranks reply choice) (hraws : ∀ x ∈ raws, 0 ≤ x ∧ x ≤ 18446744073709551615) (hlen : raws.length ≤ 40) :
    ∀ (m : Nat) (q : Int) (rounds : List (Int × Int)) (cnt i : Int), 0 ≤ i → i ≤ raws.length → (raws.length : Int) - i < m → 0 ≤ q → q < acc.length → (wins = true → 0 ≤ ranks.getD q.toNat 0 ∧ ranks.getD q.toNat 0 + cnt ≤ ranks.getD 0 0) → (wins = false → ranks.getD q.toNat 0 = -1) → (rounds.length : Int) = cnt → cnt ≤ i →
    Ok (law25_PlayWins_l24 N p s raws (acc, gd, nd, wins, ranks, reply, choice, wins, ranks, reply, choice, true) (if wins = true then s.1 else s.2) m q rounds cnt i) fun x => ∃ y, x = .inl y ∧ 0 ≤ y.1 ∧ y.1 < acc.length ∧ (wins = true → 0 ≤ ranks.getD y.1.toNat 0 ∧ ranks.getD y.1.toNat 0 + y.2.2 ≤ ranks.getD 0 0)
  | 0, q, rounds, cnt, i, _, _, h, _, _, _, _, _, _ => by omega
  | m + 1, q, rounds, cnt, i, k0, k1, k2, h0, h1, hw, hl, hr, hc => by
    have rl := K.rl
    have sl := split_le hs
    have hmask : 0 ≤ (if wins = true then s.1 else s.2) ∧ (if wins = true then s.1 else s.2) ≤ 7 := by split <;> omega
    have IH := PlayWins_l24_ok hN V hs K hraws hlen m
    generalize hQ : (fun x : (Int × (List (Int × Int)) × Int) ⊕ Bool => ∃ y, x = .inl y ∧ 0 ≤ y.1 ∧ y.1 < acc.length ∧ (wins = true → 0 ≤ ranks.getD y.1.toNat 0 ∧ ranks.getD y.1.toNat 0 + y.2.2 ≤ ranks.getD 0 0)) = Q at IH ⊢
    generalize hmk : (if wins = true then s.1 else s.2) = mask at IH hmask ⊢
    have z1 : ((351 : Int) == 0) = false := rfl
    have z2 : ((14 : Int) == 0) = false := rfl
    have z3 : ((0 : Int) == 0) = true := rfl
    have z4 : ((351 : Int) = 0) = False := by simp
    have z5 : ((14 : Int) = 0) = False := by simp
    have z6 : (true = false) = False := by simp
    have z7 : (false = true) = False := by simp
    have z8 : ((351 : Int) != 14) = true := rfl
    have z9 : ((14 : Int) != 14) = false := rfl
    have z10 : ((0 : Int) != 14) = true := rfl
    unfold law25_PlayWins_l24
    dsimp only
    by_cases hi : i < (raws.length : Int)
    · rw [if_pos hi]
      have hraw := hraws _ (getD_mem (d := 0) k0 hi)
      generalize hrw : raws.getD i.toNat 0 = raw at hraw
      have hi1 : in64 (i + 1) := by unfold in64; omega
      have hi2 : in64 (cnt + 1) := by unfold in64; omega
      have hi3 : idx i raws.length := by unfold idx; omega
      have hj : law25_PlayWins_j25 N raws mask i = some (decide (raw ∈ moves mask)) := by
        unfold law25_PlayWins_j25
        rw [hrw]
        exact raw8 hraw hmask
      have hR := Rank_val (N := N) (p := p) (acc := acc) (gd := gd) (nd := nd) (s := (s.1, s.2)) (wins := wins) (ranks := ranks) (reply := reply) (choice := choice) (rounds := rounds) h0 (by omega)
      have hO := Over_val (N := N) (p := p) (acc := acc) (gd := gd) (nd := nd) (s := (s.1, s.2)) (wins := wins) (ranks := ranks) (reply := reply) (choice := choice) (rounds := rounds) h0 h1
      have hS := State_val (N := N) (p := p) (acc := acc) (gd := gd) (nd := nd) (s := (s.1, s.2)) (wins := wins) (ranks := ranks) (reply := reply) (choice := choice) (q := q) (rounds := rounds)
      have hT := Trace_val (N := N) (p := p) (acc := acc) (gd := gd) (nd := nd) (s := (s.1, s.2)) (wins := wins) (ranks := ranks) (reply := reply) (choice := choice) (q := q) (rounds := rounds) hN (by omega)
      rw [hR, hO, hS]
      simp only [Option.bind_some]
      refine Ok.ask hi3 ?_
      rw [hj]
      simp only [Option.bind_some]
      obtain ⟨r, he, hM⟩ := Move_ok (N := N) hN V hs K h0 h1 (fun h => (hw h).1) hl (rounds := rounds) (by omega) hraw
      rw [show ((s.1, s.2) : Int × Int) = s from rfl] at *
      rw [he]
      simp only [Option.bind_some]
      cases hM with
      | over ha =>
        have IHs := IH q rounds cnt (i + 1) (by omega) (by omega) (by omega) h0 h1 hw hl hr (by omega)
        dsimp only
        by_cases hmay : raw ∈ moves mask
        · simp only [ha, hmay, hR, hS, hT, ask, hi1, hr, z1, z2, z3, z4, z5, z6, z7, z8, z9, z10, law25_PlayWins_j26, law25_PlayWins_j27, bne_self_eq_false, decide_true, decide_false, if_true, if_false, Option.bind_some, Bool.not_true, Bool.not_false, List.length_map]
          exact IHs
        · simp only [ha, hmay, hR, hS, hT, ask, hi1, hr, z1, z2, z3, z4, z5, z6, z7, z8, z9, z10, law25_PlayWins_j26, law25_PlayWins_j27, bne_self_eq_false, decide_true, decide_false, if_true, if_false, Option.bind_some, Bool.not_true, Bool.not_false, List.length_map]
          exact IHs
      | no ha hmay =>
        have IHs := IH q rounds cnt (i + 1) (by omega) (by omega) (by omega) h0 h1 hw hl hr (by omega)
        rw [hmk] at hmay
        dsimp only
        simp only [ha, hmay, hR, hS, hT, ask, hi1, hr, z1, z2, z3, z4, z5, z6, z7, z8, z9, z10, law25_PlayWins_j26, law25_PlayWins_j27, bne_self_eq_false, decide_true, decide_false, if_true, if_false, Option.bind_some, Bool.not_true, Bool.not_false, List.length_map]
        exact IHs
      | yes l q2 ha hmay g0 g1 hand f1 f2 =>
        rw [hmk] at hmay hand
        have hr2 : ((rounds ++ [(l, q)]).length : Int) = cnt + 1 := by simp; omega
        have hR2 := Rank_val (N := N) (p := p) (acc := acc) (gd := gd) (nd := nd) (s := s) (wins := wins) (ranks := ranks) (reply := reply) (choice := choice) (rounds := rounds ++ [(l, q)]) g0 (by omega)
        have hO2 := Over_val (N := N) (p := p) (acc := acc) (gd := gd) (nd := nd) (s := s) (wins := wins) (ranks := ranks) (reply := reply) (choice := choice) (rounds := rounds ++ [(l, q)]) g0 g1
        have hT2 := Trace_val (N := N) (p := p) (acc := acc) (gd := gd) (nd := nd) (s := s) (wins := wins) (ranks := ranks) (reply := reply) (choice := choice) (q := q2) (rounds := rounds ++ [(l, q)]) hN (by omega)
        have IHs := IH q2 (rounds ++ [(l, q)]) (cnt + 1) (i + 1) (by omega) (by omega) (by omega) g0 g1 (fun h => by have := f1 h; have := hw h; omega) f2 hr2 (by omega)
        have hle : 0 ≤ raw ∧ raw ≤ 7 := by
          obtain ⟨b, hb⟩ := Int.eq_ofNat_of_zero_le hmask.1
          rw [hb] at hmay
          exact moves_le ⟨b, by omega⟩ raw hmay
        have hu : IntKind.u8.wrap raw = raw := wrap_u8 (by omega) (by omega)
        have hlen2 : ((((rounds ++ [(l, q)]).map Prod.fst).length : Nat) : Int) = cnt + 1 := by rw [List.length_map]; exact hr2
        dsimp only
        by_cases hwin : wins = true
        · have hlt := f1 hwin
          have hn : ¬ ranks.getD q.toNat 0 ≤ ranks.getD q2.toNat 0 := by omega
          rw [hwin] at hR2 hT2 IHs
          simp only [ha, hmay, hR2, hT2, ask, hi1, hi2, hlen2, hu, hand, hwin, hn, z1, z2, z3, z4, z5, z6, z7, z8, z9, z10, law25_PlayWins_j26, law25_PlayWins_j27, bne_self_eq_false, decide_true, decide_false, if_true, if_false, Option.bind_some, Bool.not_true, Bool.not_false]
          exact IHs
        · have hlose : wins = false := by simpa using hwin
          have hm1 := f2 hlose
          have hst := K.st q2.toNat (by omega)
          have ha2 : acc.getD q2.toNat false = false := by
            cases h4 : acc.getD q2.toNat false with
            | true => have := hst.2.1.2 h4; omega
            | false => rfl
          rw [hlose] at hR2 hT2 hO2 IHs
          simp only [ha, ha2, hmay, hR2, hO2, hT2, ask, hi1, hi2, hlen2, hu, hand, hlose, hm1, z1, z2, z3, z4, z5, z6, z7, z8, z9, z10, law25_PlayWins_j26, law25_PlayWins_j27, bne_self_eq_false, decide_true, decide_false, if_true, if_false, Option.bind_some, Bool.not_true, Bool.not_false]
          exact IHs
    · rw [if_neg hi, ← hQ]
      exact Ok.pure ⟨_, rfl, h0, h1, hw⟩
end

theorem playWins_true {p : Int} {acc : List Bool} {gd : List Int} {nd : List Nd} {s : Int × Int} {raws : List Int} (hw : ∀ x ∈ nd, x.wf) (h1 : 0 ≤ s.1 ∧ s.1 ≤ 255) (h2 : 0 ≤ s.2 ∧ s.2 ≤ 255) (hraws : ∀ x ∈ raws, 0 ≤ x ∧ x ≤ 18446744073709551615) :
    law25_PlayWins 1000000 p acc gd nd s raws = some true := by
  have hN : 5000 ≤ 1000000 := by omega
  refine Ok.eq ?_
  unfold law25_PlayWins
  rw [awake25]
  simp only [Option.bind_some]
  have hj0 : Ok (law25_PlayWins_j0 1000000 p acc gd nd s raws) fun x => x = false → (p ≤ 3 ∨ 8 < p) ∧ raws.length ≤ 40 := by
    unfold law25_PlayWins_j0
    refine (Large_ok (N := 1000000) (p := p) (acc := acc) (gd := gd) (nd := nd)).bind fun L hL => ?_
    refine Ok.ite (fun _ => Ok.pure fun h => by cases h) fun hL2 => ?_
    refine Ok.ite (fun _ => Ok.pure fun h => by cases h) fun hlen => ?_
    obtain ⟨eB, hB, hB2⟩ := board_Check_ok (acc := acc) (gd := gd) hN hw (hL.resolve_left hL2) h1 h2
    rw [show (s.1, s.2) = s from rfl, hB]
    exact Ok.pure fun _ => ⟨hL.resolve_left hL2, by omega⟩
  obtain ⟨x0, e0, hx0⟩ := hj0
  rw [e0]
  simp only [Option.bind_some]
  refine Ok.ite (fun _ => Ok.pure rfl) fun hx => ?_
  have hx' : x0 = false := by simpa using hx
  obtain ⟨hp, hlen⟩ := hx0 hx'
  obtain ⟨eB, hB, hB2⟩ := board_Check_ok (acc := acc) (gd := gd) hN hw hp h1 h2
  have hz : eB = 0 := by
    subst hx'
    unfold law25_PlayWins_j0 at e0
    obtain ⟨L, hL, _⟩ := Large_ok (N := 1000000) (p := p) (acc := acc) (gd := gd) (nd := nd)
    rw [hL] at e0
    simp only [Option.bind_some] at e0
    cases L with
    | true => simp at e0
    | false =>
      rw [if_neg (by simp), if_neg (by omega), show (s.1, s.2) = s from rfl, hB] at e0
      simpa using e0
  subst hz
  obtain ⟨V, ha0, hs⟩ := hB2 rfl
  have a1 := V.a1
  have a2 := V.a2
  refine (begun_ok hN V hB hs).bind fun x ⟨wins, ranks, reply, choice, e, K, R⟩ => ?_
  subst e
  have rl := K.rl
  simp only [Sum.elim_inr, show (s.1, s.2) = s from rfl]
  have hj22 : law25_PlayWins_j22 1000000 p acc gd nd (acc, gd, nd, wins, ranks, reply, choice, wins, ranks, reply, choice, true) = some false := by
    unfold law25_PlayWins_j22
    simp only [if_true]
    rw [Real_ok (N := 1000000) V]
    simp [rl]
  rw [hj22]
  simp only [Option.bind_some, Bool.false_eq_true, if_false]
  have hj : law25_PlayWins_j23 1000000 s (acc, gd, nd, wins, ranks, reply, choice, wins, ranks, reply, choice, true) = some (if wins = true then s.1 else s.2) := by
    unfold law25_PlayWins_j23; dsimp only; split <;> rfl
  rw [hj]
  simp only [Option.bind_some]
  have hwin := K.wins
  have hst0 := K.st 0 (by omega)
  refine (PlayWins_l24_ok hN V hs K hraws (by omega) 1000000 0 [] 0 0 (by omega) (by omega) (by omega) (by omega) (by omega) (fun h => ?_) (fun h => ?_) rfl (by omega)).bind fun x ⟨y, e, y0, y1, yw⟩ => ?_
  · rw [h] at hwin
    have : 0 ≤ ranks.getD 0 0 := by simpa using hwin
    exact ⟨this, by show ranks.getD 0 0 + 0 ≤ _; omega⟩
  · rw [h] at hwin
    have h3 : ¬ 0 ≤ ranks.getD 0 0 := by simpa using hwin
    have := hst0.1
    show ranks.getD 0 0 = -1
    omega
  · subst e
    simp only [Sum.elim_inl, if_true]
    refine Ok.ite (fun hwn => ?_) fun _ => Ok.pure rfl
    have e0 : (Int.toNat (0 : Int)) = 0 := rfl
    obtain ⟨f1, f2⟩ := yw hwn
    refine Ok.ask (by unfold idx; omega) ?_
    rw [e0, if_pos (by omega)]
    refine Ok.ite (fun _ => Ok.pure rfl) fun hlt => ?_
    have hst := K.st y.1.toNat (by omega)
    rw [Over_val y0 y1]
    exact Ok.pure (hst.2.1.1 (by omega))

theorem playWins_row (w0 : World) (p : Int) (A1 A2 A3 : Option Addr) (c1 c2 c3 : Nat) (acc : List Bool) (gd : List Int) (nd : List Nd) (e s : Int) (A4 : Option Addr) (c4 : Nat) (ll : List Int)
    (k1 : acc.length ≤ c1) (k2 : gd.length ≤ c2) (k3 : nd.length ≤ c3) (k4 : ll.length ≤ c4)
    (C1 : C cBool w0 (Lo w0.heap.size) A1 acc) (C2 : C (cInt .i64) w0 (Lo w0.heap.size) A2 gd) (C3 : C cNode w0 (Lo w0.heap.size) A3 nd) (C4 : C (cInt .u64) w0 (Lo w0.heap.size) A4 ll) (h1 : 0 ≤ e ∧ e ≤ 255) (h2 : 0 ≤ s ∧ s ≤ 255) (hw : ∀ x ∈ nd, x.wf) (hl : ∀ x ∈ ll, 0 ≤ x ∧ x ≤ 18446744073709551615) :
    Calls Try.prog 4 #[.agg #[.int .i64 p, .slice A1 acc.length c1, .slice A2 gd.length c2, .slice A3 nd.length c3], .agg #[.int .u8 e, .int .u8 s], .slice A4 ll.length c4] w0 fun e w' => ∃ v, e = .returned v ∧ (v = .bool true ∧ Ext w0 w') :=
  (law25_PlayWins_calls A1 c1 A2 c2 A3 c3 A4 c4 p acc gd nd (e, s) ll k1 k2 k3 k4 ((((Hp.start w0).arg C1).arg C2).arg C3 |>.arg C4) (playWins_true hw h1 h2 hl)).mono fun e w' ⟨v, he, hv, H⟩ => ⟨v, he, hv, H.chgd.own⟩
end Go.V
