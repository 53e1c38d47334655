/- The plain law AttractVerdict. No condition. -/
import Derived.Test.YtokfobioklmiaaaPL
import Derived.Test.YtokfobioklmiaaaV9
set_option linter.all false
set_option linter.unusedVariables false
set_option maxRecDepth 1000000
namespace Go.V
open Go Go.Proofs
theorem awake23 : law23_awake 1000000 = some true := by kernel_rfl

section
variable {N n E S : Nat} {all : List (List (List Int))} {rr : List Int} {q : Nat} {rank : Int}
theorem falls_l1_ok (hN : 5000 ≤ N) (G : Game all n E S) (hr : rr.length = n) (hq : q < n) {i : Int} (hi : 0 ≤ i ∧ i < E) : ∀ (m : Nat) (least k : Int), 0 ≤ k → k ≤ S → (S : Int) - k < m → (∀ j : Nat, (j : Int) < k → 0 ≤ rr.getD (to all q i.toNat j) 0 → least ≤ rr.getD (to all q i.toNat j) 0) → (least = rank ∨ ∃ j, j < S ∧ 0 ≤ rr.getD (to all q i.toNat j) 0 ∧ rr.getD (to all q i.toNat j) 0 = least) → least ≤ rank →
    Ok (law23_falls_l1 N rr (all.getD q []) i m least k) fun r => ∃ L, r = .inl L ∧ (∀ j, j < S → 0 ≤ rr.getD (to all q i.toNat j) 0 → L ≤ rr.getD (to all q i.toNat j) 0) ∧ (L = rank ∨ ∃ j, j < S ∧ 0 ≤ rr.getD (to all q i.toNat j) 0 ∧ rr.getD (to all q i.toNat j) 0 = L) ∧ L ≤ rank
  | 0, least, k, _, _, h, _, _, _ => by omega
  | m + 1, least, k, k0, k1, k2, k3, k4, k5 => by
    have S8 := G.S8
    have E8 := G.E8
    unfold law23_falls_l1
    refine Ok.ask (by unfold idx; rw [G.rows q hq]; omega) ?_
    rw [G.row q i.toNat hq (by omega)]
    refine Ok.ite (fun hk => ?_) fun hk => Ok.pure ⟨least, rfl, fun j hj => k3 j (by omega), k4, k5⟩
    refine Ok.ask (by unfold idx; omega) ?_
    have hin := G.into q i.toNat k.toNat hq (by omega) (by omega)
    refine Ok.ite (fun h => by omega) fun _ => Ok.ite (fun h => by omega) fun _ => Ok.ask (by unfold idx; omega) ?_
    have et : rr.getD (((all.getD q []).getD i.toNat []).getD k.toNat 0).toNat 0 = rr.getD (to all q i.toNat k.toNat) 0 := rfl
    rw [et]
    have step : ∀ l2 : Int, l2 ≤ least → (0 ≤ rr.getD (to all q i.toNat k.toNat) 0 → l2 ≤ rr.getD (to all q i.toNat k.toNat) 0) → ∀ j : Nat, (j : Int) < k + 1 → 0 ≤ rr.getD (to all q i.toNat j) 0 → l2 ≤ rr.getD (to all q i.toNat j) 0 := fun l2 h1 h2 j hj h0 => by
      rcases Int.lt_or_eq_of_le (show (j : Int) ≤ k by omega) with h3 | h3
      · have := k3 j h3 h0; omega
      · rw [show j = k.toNat by omega] at h0 ⊢; exact h2 h0
    refine Ok.ite (fun h0 => ?_) fun h0 => Ok.ask (by unfold in64; omega) (falls_l1_ok hN G hr hq hi m least (k + 1) (by omega) (by omega) (by omega) (step _ (Int.le_refl _) fun h => absurd h h0) k4 k5)
    refine Ok.ite (fun h1 => Ok.ask (by unfold in64; omega) (falls_l1_ok hN G hr hq hi m _ (k + 1) (by omega) (by omega) (by omega) (step _ (by omega) fun _ => Int.le_refl _) (.inr ⟨k.toNat, by omega, h0, rfl⟩) (by omega))) fun h1 => Ok.ask (by unfold in64; omega) (falls_l1_ok hN G hr hq hi m least (k + 1) (by omega) (by omega) (by omega) (step _ (Int.le_refl _) fun _ => by omega) k4 k5)

theorem falls_l0_ok (hN : 5000 ≤ N) (G : Game all n E S) (hr : rr.length = n) (hq : q < n) (hrank : 0 < rank ∧ rank ≤ 1000) (hpos : ∀ i, i < E → ∃ k, k < S ∧ 0 ≤ rr.getD (to all q i k) 0 ∧ rr.getD (to all q i k) 0 < rank) : ∀ (m : Nat) (just : Bool) (i : Int), 0 ≤ i → i ≤ E → (E : Int) - i < m →
    (just = true ∨ ∃ j : Nat, i ≤ j ∧ j < E ∧ ∀ k, k < S → 0 ≤ rr.getD (to all q j k) 0 → rank - 1 ≤ rr.getD (to all q j k) 0) →
    Ok (law23_falls_l0 N rr (all.getD q []) rank m just i) (· = .inl true)
  | 0, just, i, _, _, h, _ => by omega
  | m + 1, just, i, k0, k1, k2, k3 => by
    have S8 := G.S8
    have E8 := G.E8
    unfold law23_falls_l0
    rw [G.rows q hq]
    refine Ok.ite (fun hi => ?_) fun hi => Ok.pure ?_
    · refine (falls_l1_ok (rank := rank) hN G hr hq ⟨k0, hi⟩ N rank 0 (by omega) (by omega) (by omega) (fun j h => by omega) (.inl rfl) (Int.le_refl _)).bind fun x ⟨L, hx, h1, h2, h3⟩ => ?_
      subst hx
      obtain ⟨k, hk, h4, h5⟩ := hpos i.toNat (by omega)
      have h6 := h1 k hk h4
      simp only [Sum.elim_inl]
      rw [if_neg (by omega)]
      refine Ok.ite (fun hj => Ok.ask (by unfold in64; omega) (falls_l0_ok hN G hr hq hrank hpos m true (i + 1) (by omega) (by omega) (by omega) (.inl rfl))) fun hj => ?_
      refine Ok.ask (by unfold in64; omega) (Ok.ask (by unfold in64; omega) (falls_l0_ok hN G hr hq hrank hpos m _ (i + 1) (by omega) (by omega) (by omega) ?_))
      rcases k3 with k3 | ⟨j, j1, j2, j3⟩
      · exact absurd k3 hj
      by_cases c : j = i.toNat
      · left
        subst c
        rcases h2 with h2 | ⟨k', hk', h7, h8⟩
        · omega
        · have := j3 k' hk' h7
          have : L = rank - 1 := by omega
          simp [this]
      · exact .inr ⟨j, by omega, j2, j3⟩
    · rcases k3 with k3 | ⟨j, j1, j2, _⟩
      · rw [k3]
      · omega
theorem falls_ok (hN : 5000 ≤ N) (G : Game all n E S) (hr : rr.length = n) (hq : q < n) (hrank : 0 < rank ∧ rank ≤ 1000) (hpos : ∀ i, i < E → ∃ k, k < S ∧ 0 ≤ rr.getD (to all q i k) 0 ∧ rr.getD (to all q i k) 0 < rank) (hex : ∃ i, i < E ∧ ∀ k, k < S → 0 ≤ rr.getD (to all q i k) 0 → rank - 1 ≤ rr.getD (to all q i k) 0) : law23_falls N rr (all.getD q []) rank = some true := by
  have E8 := G.E8
  obtain ⟨i, hi, h⟩ := hex
  unfold law23_falls
  rw [(falls_l0_ok hN G hr hq hrank hpos N false 0 (by omega) (by omega) (by omega) (.inr ⟨i, by omega, hi, h⟩)).eq]
  rfl

theorem stays_l1_ok (hN : 5000 ≤ N) (G : Game all n E S) (hr : rr.length = n) (hq : q < n) {i : Int} (hi : 0 ≤ i ∧ i < E) : ∀ (m : Nat) (a : Bool) (k : Int), 0 ≤ k → k ≤ S → (S : Int) - k < m →
    Ok (law23_stays_l1 N rr (all.getD q []) i m a k) fun r => (a = true ∧ ∀ j : Nat, k ≤ j → j < S → rr.getD (to all q i.toNat j) 0 < 0) → r = true
  | 0, a, k, _, _, h => by omega
  | m + 1, a, k, k0, k1, k2 => by
    have S8 := G.S8
    have E8 := G.E8
    unfold law23_stays_l1
    refine Ok.ask (by unfold idx; rw [G.rows q hq]; omega) ?_
    rw [G.row q i.toNat hq (by omega)]
    refine Ok.ite (fun hk => ?_) fun hk => Ok.pure fun h => h.1
    have hin := G.into q i.toNat k.toNat hq (by omega) (by omega)
    refine Ok.ite (fun ha => ?_) fun ha => Ok.ask (by unfold in64; omega) ((stays_l1_ok hN G hr hq hi m _ (k + 1) (by omega) (by omega) (by omega)).mono fun r _ h => absurd h.1 ha)
    refine Ok.ask (by unfold idx; omega) ?_
    rw [if_pos (by omega), if_pos (by omega)]
    refine Ok.ask (by unfold idx; omega) (Ok.ask (by unfold in64; omega) ((stays_l1_ok hN G hr hq hi m _ (k + 1) (by omega) (by omega) (by omega)).mono fun r hr2 h => hr2 ⟨?_, fun j h1 h2 => h.2 j (by omega) h2⟩))
    have := h.2 k.toNat (by omega) (by omega)
    exact decide_eq_true this
theorem stays_l0_ok (hN : 5000 ≤ N) (G : Game all n E S) (hr : rr.length = n) (hq : q < n) : ∀ (m : Nat) (i : Int), 0 ≤ i → i ≤ E → (E : Int) - i < m → (∃ j : Nat, i ≤ j ∧ j < E ∧ ∀ k, k < S → rr.getD (to all q j k) 0 = -1) →
    Ok (law23_stays_l0 N rr (all.getD q []) m i) (· = .inr true)
  | 0, i, _, _, h, _ => by omega
  | m + 1, i, k0, k1, k2, ⟨j, j1, j2, j3⟩ => by
    have S8 := G.S8
    have E8 := G.E8
    unfold law23_stays_l0
    rw [G.rows q hq, if_pos (by omega)]
    refine (stays_l1_ok hN G hr hq (i := i) ⟨k0, by omega⟩ N true 0 (by omega) (by omega) (by omega)).bind fun r hr2 => ?_
    refine Ok.ite (fun _ => Ok.pure rfl) fun hn => Ok.ask (by unfold in64; omega) (stays_l0_ok hN G hr hq m (i + 1) (by omega) (by omega) (by omega) ⟨j, ?_, j2, j3⟩)
    by_cases c : (j : Int) = i
    · refine absurd (hr2 ⟨rfl, fun k _ hk => ?_⟩) hn
      rw [show i.toNat = j by omega, j3 k hk]; decide
    · omega
theorem stays_ok (hN : 5000 ≤ N) (G : Game all n E S) (hr : rr.length = n) (hq : q < n) (h : ∃ j, j < E ∧ ∀ k, k < S → rr.getD (to all q j k) 0 = -1) : law23_stays N rr (all.getD q []) = some true := by
  have E8 := G.E8
  obtain ⟨j, hj, h⟩ := h
  unfold law23_stays
  rw [(stays_l0_ok hN G hr hq N 0 (by omega) (by omega) (by omega) ⟨j, by omega, hj, h⟩).eq]
  rfl
end

section
variable {N : Nat} {p : Int} {acc : List Bool} {gd : List Int} {nd : List Nd} {s : Int × Int}
theorem Verdict_l0_ok (hN : 5000 ≤ N) (V : Valid p acc gd nd) (hB : board_Check N p acc gd nd s = some 0) (hs : (p, s.1, s.2) ∈ splits) {r54 : List Int × Int} (R : Ranked (allS nd gd s.1 s.2 acc.length) acc.length (moves s.1).length (moves s.2).length acc r54.1) : ∀ (m : Nat) (q : Int), 0 ≤ q → q ≤ acc.length → (acc.length : Int) - q < m →
    Ok (law23_AttractVerdict_l0 N p acc gd nd s r54 m q) (· = .inl ())
  | 0, q, _, _, h => by omega
  | m + 1, q, k0, k1, k2 => by
    have a2 := V.a2
    have rl := R.len
    have G := allS_game (N := N) hN V hs
    have E8 := G.E8
    have E1 := G.E1
    have rec_ : q < acc.length → Ok (ask (in64 (q + 1)) <| law23_AttractVerdict_l0 N p acc gd nd s r54 m (q + 1)) (· = .inl ()) := fun h => Ok.ask (by unfold in64; omega) (Verdict_l0_ok hN V hB hs R m (q + 1) (by omega) (by omega) (by omega))
    unfold law23_AttractVerdict_l0
    rw [rl]
    refine Ok.ite (fun hq => ?_) fun hq => Ok.pure rfl
    have hq' : q.toNat < acc.length := by omega
    have lo := R.lo q.toNat hq'
    have hz := R.zero q.toNat hq'
    refine Ok.ask (by unfold idx; omega) ?_
    rw [if_neg (by omega), if_neg (by omega)]
    refine Ok.ask (by unfold idx; omega) ?_
    have hacc : (((List.getD r54.1 (Int.toNat q) 0) : Int) == 0) = (List.getD acc (Int.toNat q) false) := by
      by_cases h0 : r54.1.getD q.toNat 0 = 0
      · rw [h0, hz.1 h0]; rfl
      · have h3 : acc.getD q.toNat false = false := by
          cases h4 : acc.getD q.toNat false with
          | true => exact absurd (hz.2 h4) h0
          | false => rfl
        rw [h3]; simpa using h0
    rw [if_pos hacc, show (s.1, s.2) = s from rfl, board_Goes_eq hN V hB hs k0 hq]
    simp only [Option.bind_some]
    have rows_all : rowsS nd gd s.1 s.2 q = (allS nd gd s.1 s.2 acc.length).getD q.toNat [] := by
      rw [allS_get hq', show ((q.toNat : Nat) : Int) = q by omega]
    rw [if_pos trivial, rowsS_len, if_neg (by omega), rows_all]
    refine Ok.ite (fun hp => ?_) fun hp => ?_
    · rw [falls_ok hN G rl hq' ⟨hp, by omega⟩ (R.pos _ hq' hp) (R.ex _ hq' hp)]
      simp only [Option.bind_some, if_true]
      rw [if_neg (by omega)]
      exact rec_ hq
    · refine Ok.ite (fun hn => ?_) fun hn => rec_ hq
      rw [stays_ok hN G rl hq' (R.neg _ hq' (by omega))]
      simp only [Option.bind_some, if_true]
      exact rec_ hq
end

theorem verdict_true {p : Int} {acc : List Bool} {gd : List Int} {nd : List Nd} {s : Int × Int} (hw : ∀ x ∈ nd, x.wf) (h1 : 0 ≤ s.1 ∧ s.1 ≤ 255) (h2 : 0 ≤ s.2 ∧ s.2 ≤ 255) :
    law23_AttractVerdict 1000000 p acc gd nd s = some true := by
  have hN : 5000 ≤ 1000000 := by omega
  refine Ok.eq ?_
  unfold law23_AttractVerdict
  rw [awake23]
  simp only [Option.bind_some]
  refine (Large_ok (N := 1000000) (p := p) (acc := acc) (gd := gd) (nd := nd)).bind fun L hL => ?_
  refine Ok.ite (fun _ => Ok.pure rfl) fun hL2 => ?_
  have hp : p ≤ 3 ∨ 8 < p := hL.resolve_left hL2
  obtain ⟨eB, hB, hB2⟩ := board_Check_ok (acc := acc) (gd := gd) hN hw hp h1 h2
  rw [show (s.1, s.2) = s from rfl, hB]
  simp only [Option.bind_some]
  refine Ok.ite (fun h0 => ?_) fun _ => Ok.pure rfl
  subst h0
  obtain ⟨V, ha0, hs⟩ := hB2 rfl
  have a1 := V.a1
  have a2 := V.a2
  obtain ⟨r54, e54, o1, R⟩ := attract_Ranks_ok hN V hB hs
  have rl := R.len
  have hwins : attract_Wins 1000000 p acc gd nd s = some (decide (0 ≤ r54.1.getD (Int.toNat (0 : Int)) 0), 0) := by
    unfold attract_Wins
    rw [show (s.1, s.2) = s from rfl, e54]
    simp only [Option.bind_some]
    unfold ask
    rw [if_pos o1, if_pos (by unfold idx; omega)]
  rw [e54]
  simp only [Option.bind_some]
  rw [hwins, Real_ok (N := 1000000) V]
  simp only [Option.bind_some, if_true]
  rw [if_pos o1, if_pos (by omega)]
  refine Ok.ask (by unfold idx; omega) ?_
  rw [(Verdict_l0_ok hN V hB hs R 1000000 0 (by omega) (by omega) (by omega)).eq]
  exact Ok.pure rfl

theorem verdict_row (w0 : World) (p : Int) (A1 A2 A3 : Option Addr) (c1 c2 c3 : Nat) (acc : List Bool) (gd : List Int) (nd : List Nd) (e s : Int) (k1 : acc.length ≤ c1) (k2 : gd.length ≤ c2) (k3 : nd.length ≤ c3)
    (C1 : C cBool w0 (Lo w0.heap.size) A1 acc) (C2 : C (cInt .i64) w0 (Lo w0.heap.size) A2 gd) (C3 : C cNode w0 (Lo w0.heap.size) A3 nd) (h1 : 0 ≤ e ∧ e ≤ 255) (h2 : 0 ≤ s ∧ s ≤ 255) (hw : ∀ x ∈ nd, x.wf) :
    Calls Try.prog 4 #[.agg #[.int .i64 p, .slice A1 acc.length c1, .slice A2 gd.length c2, .slice A3 nd.length c3], .agg #[.int .u8 e, .int .u8 s]] w0 fun e w' => ∃ v, e = .returned v ∧ (v = .bool true ∧ Ext w0 w') :=
  (law23_AttractVerdict_calls A1 c1 A2 c2 A3 c3 p acc gd nd (e, s) k1 k2 k3 (((Hp.start w0).arg C1).arg C2 |>.arg C3) (verdict_true hw h1 h2)).mono fun e w' ⟨v, he, hv, H⟩ => ⟨v, he, hv, H.chgd.own⟩
end Go.V
