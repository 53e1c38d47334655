/- The plain law AttractMore. No condition. -/
import Derived.Test.YtokfobioklmiaaaPL
import Derived.Test.YtokfobioklmiaaaV9
set_option linter.all false
set_option linter.unusedVariables false
set_option maxRecDepth 1000000
namespace Go.V
open Go Go.Proofs
theorem awake23 : law23_awake 1000000 = some true := by kernel_rfl

/-- one proposition handed over -/
def more (s : Int × Int) (b : Int) : Int × Int := (andNotV .u8 s.1 (andV .u8 (shlV .u8 1 b) s.1), orV .u8 s.2 (andV .u8 (shlV .u8 1 b) s.1))
theorem more_all : ∀ x ∈ splits, ∀ b : Fin 8, (x.1, (more x.2 (b.val : Int)).1, (more x.2 (b.val : Int)).2) ∈ splits ∧ andV .u8 (more x.2 (b.val : Int)).1 (more x.2 (b.val : Int)).2 = 0 ∧ orV .u8 (more x.2 (b.val : Int)).1 (more x.2 (b.val : Int)).2 = shlV .i64 1 x.1 - 1 ∧
    (∀ y ∈ moves (more x.2 (b.val : Int)).1, y ∈ moves x.2.1) ∧ (∀ y ∈ moves x.2.2, y ∈ moves (more x.2 (b.val : Int)).2) := by decide +kernel
theorem mem_getD {xs : List Int} {x : Int} (h : x ∈ xs) : ∃ i, i < xs.length ∧ xs.getD i 0 = x := by
  obtain ⟨i, hi, rfl⟩ := List.mem_iff_getElem.1 h
  exact ⟨i, hi, by simp [List.getD_eq_getElem?_getD, List.getElem?_eq_getElem hi]⟩
theorem getD_mem' {xs : List Int} {i : Nat} (h : i < xs.length) : xs.getD i 0 ∈ xs := by
  rw [List.getD_eq_getElem?_getD, List.getElem?_eq_getElem h]
  exact List.getElem_mem h

section
variable {N : Nat} {p : Int} {acc : List Bool} {gd : List Int} {nd : List Nd} {s : Int × Int}
theorem guard_of_board (hN : 5000 ≤ N) (hw : ∀ x ∈ nd, x.wf) (hB : board_Check N p acc gd nd s = some 0) : guard_Check N p acc gd nd = some 0 := by
  obtain ⟨e, he, h1, _⟩ := guard_Check_ok (N := N) (p := p) (acc := acc) (gd := gd) hN hw
  unfold board_Check at hB
  rw [he] at hB ⊢
  simp only [Option.bind_some] at hB
  rcases h1 with rfl | rfl
  · rw [if_neg (by decide)] at hB
    cases hB
  · rfl
theorem board_again (hN : 5000 ≤ N) (hw : ∀ x ∈ nd, x.wf) (V : Valid p acc gd nd) (ha0 : acc.getD 0 false = false) (hB : board_Check N p acc gd nd s = some 0) {s2 : Int × Int} (h1 : andV .u8 s2.1 s2.2 = 0) (h2 : orV .u8 s2.1 s2.2 = shlV .i64 1 p - 1) (hp : p ≤ 3) : board_Check N p acc gd nd s2 = some 0 := by
  have a1 := V.a1
  have p0 := V.p0
  unfold board_Check
  rw [guard_of_board hN hw hB]
  simp only [Option.bind_some]
  have ho := orV_u8 s2.1 s2.2
  unfold ask
  rw [if_pos trivial, if_pos (by unfold idx; omega), if_neg (by rw [show (Int.toNat (0 : Int)) = 0 from rfl, ha0]; decide), if_pos h1, if_pos (by unfold in64; omega), if_pos p0, if_pos (by rw [← h2]; unfold in64; omega), if_pos h2]

theorem to_go {q i k : Nat} (hq : q < acc.length) (hi : i < (moves s.1).length) (hk : k < (moves s.2).length) : to (allS nd gd s.1 s.2 acc.length) q i k = (go nd (gd.getD q 0) (orV .u8 ((moves s.1).getD i 0) ((moves s.2).getD k 0))).toNat := by
  unfold to
  rw [allS_get hq, (rowsS_row hi).2 k hk]
  rfl

theorem more_le {s2 : Int × Int} {r t : List Int} (hN : 5000 ≤ N) (V : Valid p acc gd nd) (hs : (p, s.1, s.2) ∈ splits) (R : Ranked (allS nd gd s.1 s.2 acc.length) acc.length (moves s.1).length (moves s.2).length acc r) (T : Ranked (allS nd gd s2.1 s2.2 acc.length) acc.length (moves s2.1).length (moves s2.2).length acc t)
    (hE : ∀ y ∈ moves s2.1, y ∈ moves s.1) (hS : ∀ y ∈ moves s.2, y ∈ moves s2.2) : ∀ (k : Nat) (q : Nat), q < acc.length → 0 ≤ r.getD q 0 → r.getD q 0 ≤ k → 0 ≤ t.getD q 0 ∧ t.getD q 0 ≤ r.getD q 0
  | k, q, hq, h0, hk => by
    have G := allS_game (N := N) hN V hs
    by_cases hz : r.getD q 0 = 0
    · have := (T.zero q hq).2 ((R.zero q hq).1 hz); omega
    · match k with
      | 0 => omega
      | k + 1 =>
        -- to each choice there is an answer of a lesser rank
        have key : ∀ i, i < (moves s2.1).length → ∃ j, j < (moves s2.2).length ∧ 0 ≤ t.getD (to (allS nd gd s2.1 s2.2 acc.length) q i j) 0 ∧ t.getD (to (allS nd gd s2.1 s2.2 acc.length) q i j) 0 < r.getD q 0 := fun i hi => by
          obtain ⟨i', hi', e1⟩ := mem_getD (hE _ (getD_mem' hi))
          obtain ⟨j', hj', h1, h2⟩ := R.pos q hq (by omega) i' hi'
          obtain ⟨j, hj, e2⟩ := mem_getD (hS _ (getD_mem' hj'))
          have et : to (allS nd gd s2.1 s2.2 acc.length) q i j = to (allS nd gd s.1 s.2 acc.length) q i' j' := by
            rw [to_go hq hi hj, to_go hq hi' hj', e1, e2]
          have ih := more_le hN V hs R T hE hS k _ (G.to_lt hq hi' hj') h1 (by omega)
          refine ⟨j, hj, ?_⟩
          rw [et]
          omega
        have lo := T.lo q hq
        by_cases hn : t.getD q 0 = -1
        · obtain ⟨i, hi, h1⟩ := T.neg q hq hn
          obtain ⟨j, hj, h2, _⟩ := key i hi
          have := h1 j hj
          omega
        · refine ⟨by omega, ?_⟩
          by_cases hp : 0 < t.getD q 0
          · obtain ⟨i, hi, h1⟩ := T.ex q hq hp
            obtain ⟨j, hj, h2, h3⟩ := key i hi
            have := h1 j hj h2
            omega
          · omega

theorem More_l0_ok (hN : 5000 ≤ N) {r75 r87 : List Int × Int} {n : Nat} (hn : n ≤ 256) (h1 : r75.1.length = n) (h2 : r87.1.length = n) (h : ∀ q, q < n → 0 ≤ r75.1.getD q 0 → 0 ≤ r87.1.getD q 0 ∧ r87.1.getD q 0 ≤ r75.1.getD q 0) : ∀ (m : Nat) (q : Int), 0 ≤ q → q ≤ n → (n : Int) - q < m → Ok (law23_AttractMore_l0 N r75 r87 m q) (· = .inl ())
  | 0, q, _, _, h => by omega
  | m + 1, q, k0, k1, k2 => by
    have rec_ : q < n → Ok (ask (in64 (q + 1)) <| law23_AttractMore_l0 N r75 r87 m (q + 1)) (· = .inl ()) := fun hq => Ok.ask (by unfold in64; omega) (More_l0_ok hN hn h1 h2 h m (q + 1) (by omega) (by omega) (by omega))
    unfold law23_AttractMore_l0
    rw [h1]
    refine Ok.ite (fun hq => ?_) fun hq => Ok.pure rfl
    refine Ok.ask (by unfold idx; omega) (Ok.ite (fun h0 => ?_) fun _ => rec_ hq)
    have := h q.toNat (by omega) h0
    refine Ok.ask (by unfold idx; omega) ?_
    rw [if_neg (by omega), if_neg (by omega)]
    exact rec_ hq
end

theorem more_true {p : Int} {acc : List Bool} {gd : List Int} {nd : List Nd} {s : Int × Int} {x : Int} (hw : ∀ x ∈ nd, x.wf) (h1 : 0 ≤ s.1 ∧ s.1 ≤ 255) (h2 : 0 ≤ s.2 ∧ s.2 ≤ 255) :
    law23_AttractMore 1000000 p acc gd nd s x = some true := by
  have hN : 5000 ≤ 1000000 := by omega
  refine Ok.eq ?_
  unfold law23_AttractMore
  rw [awake23]
  simp only [Option.bind_some]
  refine (Large_ok (N := 1000000) (p := p) (acc := acc) (gd := gd) (nd := nd)).bind fun L hL => ?_
  refine Ok.ite (fun _ => Ok.pure rfl) fun hL2 => ?_
  have hp : p ≤ 3 ∨ 8 < p := hL.resolve_left hL2
  obtain ⟨eB, hB, hB2⟩ := board_Check_ok (acc := acc) (gd := gd) hN hw hp h1 h2
  rw [show (s.1, s.2) = s from rfl, hB]
  simp only [Option.bind_some]
  refine Ok.ite (fun h0 => ?_) fun _ => Ok.pure rfl
  subst h0
  obtain ⟨V, ha0, hs⟩ := hB2 rfl
  have a1 := V.a1
  have a2 := V.a2
  have hl := split_le hs
  refine (Pick_ok (N := 1000000) (x := x) (n := 8) (by omega) (by omega)).bind fun b ⟨b0, b1⟩ => ?_
  refine Ok.ask b0 ?_
  obtain ⟨c, rfl⟩ := Int.eq_ofNat_of_zero_le b0
  obtain ⟨m1, m2, m3, m4, m5⟩ := more_all (p, s.1, s.2) hs ⟨c, by omega⟩
  have hB' := board_again (s := s) (s2 := more s (c : Int)) hN hw V ha0 hB m2 m3 (by omega)
  refine (attract_Ranks_ok hN V hB hs).bind fun r75 ⟨o1, R⟩ => ?_
  refine (attract_Ranks_ok (s := more s (c : Int)) hN V hB' m1).bind fun r87 ⟨o2, T⟩ => ?_
  have rl := R.len
  have tl := T.len
  rw [if_pos o1, if_pos o2, if_pos (by omega)]
  rw [(More_l0_ok hN a2 rl tl (fun q hq h0 => more_le hN V hs R T m4 m5 (r75.1.getD q 0).toNat q hq h0 (by omega)) 1000000 0 (by omega) (by omega) (by omega)).eq]
  exact Ok.pure rfl

theorem more_row (w0 : World) (p : Int) (A1 A2 A3 : Option Addr) (c1 c2 c3 : Nat) (acc : List Bool) (gd : List Int) (nd : List Nd) (e s x : Int) (k1 : acc.length ≤ c1) (k2 : gd.length ≤ c2) (k3 : nd.length ≤ c3)
    (C1 : C cBool w0 (Lo w0.heap.size) A1 acc) (C2 : C (cInt .i64) w0 (Lo w0.heap.size) A2 gd) (C3 : C cNode w0 (Lo w0.heap.size) A3 nd) (h1 : 0 ≤ e ∧ e ≤ 255) (h2 : 0 ≤ s ∧ s ≤ 255) (hw : ∀ x ∈ nd, x.wf) :
    Calls Try.prog 3 #[.agg #[.int .i64 p, .slice A1 acc.length c1, .slice A2 gd.length c2, .slice A3 nd.length c3], .agg #[.int .u8 e, .int .u8 s], .int .i64 x] w0 fun e w' => ∃ v, e = .returned v ∧ (v = .bool true ∧ Ext w0 w') :=
  (law23_AttractMore_calls A1 c1 A2 c2 A3 c3 p acc gd nd (e, s) x k1 k2 k3 (((Hp.start w0).arg C1).arg C2 |>.arg C3) (more_true hw h1 h2)).mono fun e w' ⟨v, he, hv, H⟩ => ⟨v, he, hv, H.chgd.own⟩
end Go.V
