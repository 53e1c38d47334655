/- The plain law StratWins. No condition. -/
import Derived.Test.YtclijiacfmljlaaBStratWins
import Derived.Test.YtclijiacfmljlaaPS4
import Derived.Test.YtclijiacfmljlaaV9
set_option linter.all false
set_option linter.unusedVariables false
set_option maxRecDepth 1000000
namespace Go.V
open Go Go.Proofs
theorem awake24 : law24_awake 1000000 = some true := by kernel_rfl

section
variable {N n : Nat} {acc : List Bool} {r58 : (Bool × (List Int) × (List (List Int)) × (List Int)) × Int} {r133 : List Int × Int}
theorem StratWins_l1_ok (hN : 5000 ≤ N) (hn : acc.length = n) (hrl : r58.1.2.1.length = n) (hacc : ∀ q, q < n → (r58.1.2.1.getD q 0 = 0 ↔ acc.getD q false = true)) (P : Path r58.1.2.1 acc n r58.1.1 r133.1) (hl : r133.1.length ≤ 2000) : ∀ (m : Nat) (i : Int), 0 ≤ i → i ≤ r133.1.length → (r133.1.length : Int) - i < m →
    law24_StratWins_l1 N acc r58 r133 m i = some (.inl ())
  | 0, i, _, _, h => by omega
  | m + 1, i, k0, k1, k2 => by
    refine Ok.eq ?_
    have rec_ : 0 ≤ i → i < r133.1.length → Ok (law24_StratWins_l1 N acc r58 r133 m (i + 1)) (· = .inl ()) := fun h0 h1 => ⟨_, StratWins_l1_ok hN hn hrl hacc P hl m (i + 1) (by omega) (by omega) (by omega), rfl⟩
    unfold law24_StratWins_l1
    refine Ok.ite (fun hi => ?_) fun hi => Ok.pure rfl
    have hin := P.inn i.toNat (by omega)
    refine Ok.ask (by unfold idx; omega) ?_
    refine Ok.ite (fun h => by omega) fun _ => ?_
    refine Ok.ite (fun h => by omega) fun _ => ?_
    refine Ok.ite (fun hw => ?_) fun hw => ?_
    · refine Ok.ite (fun _ => ?_) fun _ => Ok.ask (by unfold in64; omega) (rec_ k0 hi)
      refine Ok.ite (fun hi0 => ?_) fun _ => Ok.ask (by unfold in64; omega) (rec_ k0 hi)
      have hin2 := P.inn (i - 1).toNat (by omega)
      refine Ok.ask (by unfold idx; omega) (Ok.ask (by unfold in64; omega) (Ok.ask (by unfold idx; omega) (Ok.ask (by unfold idx; omega) ?_)))
      have hlt := P.less hw (i - 1).toNat (by omega)
      rw [show (i - 1).toNat + 1 = i.toNat by omega] at hlt
      refine Ok.ite (fun h => by omega) fun _ => Ok.ask (by unfold in64; omega) (rec_ k0 hi)
    · have hneg := P.lose (by simpa using hw) i.toNat (by omega)
      refine Ok.ask (by unfold idx; omega) ?_
      refine Ok.ite (fun h => ?_) fun _ => ?_
      · have := (hacc _ (by omega)).2 h; omega
      refine Ok.ask (by unfold idx; omega) ?_
      refine Ok.ite (fun _ => ?_) fun h => absurd hneg h
      refine Ok.ite (fun h => absurd h hw) fun _ => Ok.ask (by unfold in64; omega) (rec_ k0 hi)
end

theorem stratWins_true {p : Int} {acc : List Bool} {gd : List Int} {nd : List Nd} {s : Int × Int} {ll : List Int} (hw : ∀ x ∈ nd, x.wf) (h1 : 0 ≤ s.1 ∧ s.1 ≤ 255) (h2 : 0 ≤ s.2 ∧ s.2 ≤ 255) :
    law24_StratWins 1000000 p acc gd nd s ll = some true := by
  have hN : 5000 ≤ 1000000 := by omega
  refine Ok.eq ?_
  unfold law24_StratWins
  rw [awake24]
  simp only [Option.bind_some]
  refine (Large_ok (N := 1000000) (p := p) (acc := acc) (gd := gd) (nd := nd)).bind fun L hL => ?_
  refine Ok.ite (fun _ => Ok.pure rfl) fun hL2 => ?_
  have hp : p ≤ 3 ∨ 8 < p := hL.resolve_left hL2
  obtain ⟨eB, hB, hB2⟩ := board_Check_ok (acc := acc) (gd := gd) hN hw hp h1 h2
  rw [show (s.1, s.2) = s from rfl, hB]
  simp only [Option.bind_some]
  refine Ok.ite (fun h0 => ?_) fun _ => Ok.pure rfl
  subst h0
  obtain ⟨V, ha0, hs⟩ := hB2 rfl
  have hl := split_le hs
  have a1 := V.a1
  have a2 := V.a2
  refine (Of_ok hN V hB hs).bind fun r58 ⟨o1, K, R⟩ => ?_
  refine (Check_ok (wins := r58.1.1) (ranks := r58.1.2.1) (reply := r58.1.2.2.1) (choice := r58.1.2.2.2) hN V hB hs).bind fun r83 ⟨c1, c2⟩ => ?_
  rw [Real_ok (N := 1000000) V]
  simp only [Option.bind_some, if_true]
  have rl := R.len
  rw [if_pos o1, if_pos c1, if_pos (c2.2 K), if_pos (by omega)]
  have hj : law24_StratWins_j0 1000000 s r58 = some (if r58.1.1 = true then s.1 else s.2) := by
    unfold law24_StratWins_j0; split <;> rfl
  rw [hj]
  simp only [Option.bind_some]
  refine (choices_ok hN (mask := if r58.1.1 = true then s.1 else s.2) (by split <;> omega)).bind fun mv ⟨m1, m2⟩ => ?_
  refine (Play_ok hN V hB hs K m2 (by omega)).bind fun r133 ⟨p1, P, p2, p3⟩ => ?_
  have ne := P.ne
  rw [if_pos p1, if_neg (by omega)]
  refine Ok.ask (by unfold idx; omega) ?_
  rw [if_pos (by have := P.first; simpa using this)]
  refine Ok.ask (by unfold in64; omega) ?_
  rw [if_neg (by omega), StratWins_l1_ok hN rfl rl R.zero P (by omega) 1000000 0 (by omega) (by omega) (by omega)]
  simp only [Option.bind_some, Sum.elim_inl, if_true]
  have hlast := P.inn (r133.1.length - 1) (by omega)
  have hz := R.zero _ (show (r133.1.getD (r133.1.length - 1) 0).toNat < acc.length by omega)
  refine Ok.ite (fun hwin => ?_) fun hwin => ?_
  · have h00 := P.win hwin 0 (by omega)
    rw [P.first] at h00
    have hr0 : r58.1.2.1.getD 0 0 ≠ 0 := fun h => by
      have := (R.zero 0 (by omega)).1 h
      rw [ha0] at this; cases this
    have hlo := R.lo 0 (by omega)
    have h00' : 0 ≤ r58.1.2.1.getD 0 0 := h00
    refine Ok.ask (by unfold idx; omega) ?_
    have e0 : (Int.toNat (0 : Int)) = 0 := rfl
    rw [e0, if_pos (by omega), if_pos (by omega)]
    refine Ok.ite (fun _ => Ok.pure rfl) fun hle => ?_
    have el : Int.toNat ((((List.length r133.1) : Nat) : Int) - 1) = r133.1.length - 1 := by omega
    rw [el]
    refine Ok.ask (by unfold in64; omega) (Ok.ask (by unfold idx; omega) (Ok.ask (by unfold idx; omega) (Ok.pure ?_)))
    rcases p3 with p3 | p3
    · have hf := P.fall hwin
      have hw2 := P.win hwin (r133.1.length - 1) (by omega)
      exact hz.1 (by omega)
    · exact p3
  · have hj2 : law24_StratWins_j2 1000000 true mv r133 = some true := by
      unfold law24_StratWins_j2
      rw [if_pos rfl]
      rcases p3 with p3 | p3
      · congr 1
        simp; omega
      · have := P.lose (by simpa using hwin) (r133.1.length - 1) (by omega)
        have := hz.2 p3
        omega
    rw [hj2]
    exact Ok.pure rfl

theorem stratWins_row (w0 : World) (p : Int) (A1 A2 A3 A4 : Option Addr) (c1 c2 c3 c4 : Nat) (acc : List Bool) (gd : List Int) (nd : List Nd) (e s : Int) (ll : List Int) (k1 : acc.length ≤ c1) (k2 : gd.length ≤ c2) (k3 : nd.length ≤ c3) (k4 : ll.length ≤ c4)
    (C1 : C cBool w0 (Lo w0.heap.size) A1 acc) (C2 : C (cInt .i64) w0 (Lo w0.heap.size) A2 gd) (C3 : C cNode w0 (Lo w0.heap.size) A3 nd) (C4 : C (cInt .i64) w0 (Lo w0.heap.size) A4 ll) (h1 : 0 ≤ e ∧ e ≤ 255) (h2 : 0 ≤ s ∧ s ≤ 255) (hw : ∀ x ∈ nd, x.wf) :
    Calls Try.prog 4 #[.agg #[.int .i64 p, .slice A1 acc.length c1, .slice A2 gd.length c2, .slice A3 nd.length c3], .agg #[.int .u8 e, .int .u8 s], .slice A4 ll.length c4] w0 fun e w' => ∃ v, e = .returned v ∧ (v = .bool true ∧ Ext w0 w') :=
  (law24_StratWins_calls A1 c1 A2 c2 A3 c3 A4 c4 p acc gd nd (e, s) ll k1 k2 k3 k4 ((((Hp.start w0).arg C1).arg C2).arg C3 |>.arg C4) (stratWins_true hw h1 h2)).mono fun e w' ⟨v, he, hv, H⟩ => ⟨v, he, hv, H.chgd.own⟩
end Go.V
