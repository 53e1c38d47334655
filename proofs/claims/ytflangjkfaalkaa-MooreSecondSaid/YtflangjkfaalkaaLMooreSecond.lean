/- The plain law MooreSecond. No condition. -/
import Derived.Test.YtflangjkfaalkaaBMooreSecond
import Derived.Test.YtflangjkfaalkaaMR
import Derived.Test.YtflangjkfaalkaaV9
set_option linter.all false
set_option linter.unusedVariables false
set_option maxRecDepth 1000000
namespace Go.V
open Go Go.Proofs
theorem awake26 : law26_awake 1000000 = some true := by kernel_rfl

theorem first_second {all : List (List (List Int))} {n E S : Nat} {acc : List Bool} {a b : List Int} (G : Game all n E S) (A : MRanked all n E S acc a) (B : Ranked all n E S acc b) : ∀ (r : Nat) (q : Nat), q < n → 0 ≤ a.getD q 0 → a.getD q 0 ≤ r → 0 ≤ b.getD q 0 ∧ b.getD q 0 ≤ a.getD q 0
  | 0, q, hq, h0, h1 => by
    have hz : a.getD q 0 = 0 := by omega
    have := (B.zero q hq).2 ((A.zero q hq).1 hz)
    omega
  | r + 1, q, hq, h0, h1 => by
    by_cases hz : a.getD q 0 = 0
    · have := (B.zero q hq).2 ((A.zero q hq).1 hz)
      omega
    · obtain ⟨k, hk, hw⟩ := A.pos q hq (by omega)
      have ih : ∀ i, i < E → 0 ≤ b.getD (to all q i k) 0 ∧ b.getD (to all q i k) 0 < a.getD q 0 := fun i hi => by
        have h2 := hw i hi
        have h3 := first_second G A B r (to all q i k) (G.to_lt hq hi hk) h2.1 (by omega)
        omega
      have hb : 0 ≤ b.getD q 0 := by
        rcases B.lo q hq with h2 | h2
        · obtain ⟨i, hi, h3⟩ := B.neg q hq h2
          have := h3 k hk
          have := ih i hi
          omega
        · exact h2.1
      refine ⟨hb, ?_⟩
      by_cases hp : 0 < b.getD q 0
      · obtain ⟨i, hi, h3⟩ := B.ex q hq hp
        have h4 := ih i hi
        have := h3 k hk h4.1
        omega
      · omega
theorem Second_l0_ok {N : Nat} {r43 r55 : List Int × Int} (hl : r43.1.length = r55.1.length) (hm : r43.1.length ≤ 256) (h : ∀ q : Nat, q < r43.1.length → 0 ≤ r43.1.getD q 0 → 0 ≤ r55.1.getD q 0 ∧ r55.1.getD q 0 ≤ r43.1.getD q 0) : ∀ (m : Nat) (q : Int), 0 ≤ q → q ≤ r43.1.length → (r43.1.length : Int) - q < m → law26_MooreSecond_l0 N r43 r55 m q = some (.inl ())
  | 0, q, _, _, h => by omega
  | m + 1, q, k0, k1, k2 => by
    unfold law26_MooreSecond_l0
    by_cases hq : q < (r43.1.length : Int)
    · have ih := Second_l0_ok (N := N) hl hm h m (q + 1) (by omega) (by omega) (by omega)
      have h1 : in64 (q + 1) := by unfold in64; omega
      rw [if_pos hq]
      unfold ask
      rw [if_pos (by unfold idx; omega)]
      by_cases h0 : 0 ≤ r43.1.getD q.toNat 0
      · have := h q.toNat (by omega) h0
        rw [if_pos h0, if_pos (by unfold idx; omega), if_neg (by omega), if_neg (by omega), if_pos h1, ih]
      · rw [if_neg h0, if_pos h1, ih]
    · rw [if_neg hq]

theorem mooreSecond_true {p : Int} {acc : List Bool} {gd : List Int} {nd : List Nd} {s : Int × Int} (hw : ∀ x ∈ nd, x.wf) (h1 : 0 ≤ s.1 ∧ s.1 ≤ 255) (h2 : 0 ≤ s.2 ∧ s.2 ≤ 255) :
    law26_MooreSecond 1000000 p acc gd nd s = some true := by
  have hN : 5000 ≤ 1000000 := by omega
  refine Ok.eq ?_
  unfold law26_MooreSecond
  rw [awake26]
  simp only [Option.bind_some]
  refine (Small_ok (N := 1000000) (p := p) (acc := acc) (gd := gd) (nd := nd)).bind fun L hL => ?_
  refine Ok.ite (fun hL2 => ?_) fun _ => Ok.pure rfl
  obtain ⟨eB, hB, hB2⟩ := board_Check_ok (acc := acc) (gd := gd) hN hw (.inl (hL hL2)) h1 h2
  rw [show (s.1, s.2) = s from rfl]
  by_cases h0 : eB = 0
  · subst h0
    obtain ⟨V, ha0, hs⟩ := hB2 rfl
    have a2 := V.a2
    have G := allS_game (N := 1000000) hN V hs
    refine (moore_Ranks_ok hN V hB hs).bind fun a ⟨x1, A⟩ => (attract_Ranks_ok hN V hB hs).bind fun b ⟨x2, B⟩ => ?_
    have al := A.len
    have bl := B.len
    rw [if_pos (by rw [x1, x2]), if_pos (by omega), Second_l0_ok (by omega) (by omega) (fun q hq h => first_second G A B (a.1.getD q 0).toNat q (by omega) h (by omega)) 1000000 0 (by omega) (by omega) (by omega)]
    exact Ok.pure rfl
  · rw [moore_Ranks_no hB h0, attract_Ranks_no hB h0]
    simp only [Option.bind_some]
    rw [if_pos trivial, if_pos trivial, Second_l0_ok rfl (by simp) (fun q hq => by simp at hq) 1000000 0 (by omega) (by simp) (by simp)]
    exact Ok.pure rfl

theorem mooreSecond_row (w0 : World) (p : Int) (A1 A2 A3 : Option Addr) (c1 c2 c3 : Nat) (acc : List Bool) (gd : List Int) (nd : List Nd) (e s : Int)
    (k1 : acc.length ≤ c1) (k2 : gd.length ≤ c2) (k3 : nd.length ≤ c3)
    (C1 : C cBool w0 (Lo w0.heap.size) A1 acc) (C2 : C (cInt .i64) w0 (Lo w0.heap.size) A2 gd) (C3 : C cNode w0 (Lo w0.heap.size) A3 nd) (h1 : 0 ≤ e ∧ e ≤ 255) (h2 : 0 ≤ s ∧ s ≤ 255) (hw : ∀ x ∈ nd, x.wf) :
    Calls Try.prog 5 #[.agg #[.int .i64 p, .slice A1 acc.length c1, .slice A2 gd.length c2, .slice A3 nd.length c3], .agg #[.int .u8 e, .int .u8 s]] w0 fun e w' => ∃ v, e = .returned v ∧ (v = .bool true ∧ Ext w0 w') :=
  (law26_MooreSecond_calls A1 c1 A2 c2 A3 c3 p acc gd nd (e, s) k1 k2 k3 (((Hp.start w0).arg C1).arg C2 |>.arg C3) (mooreSecond_true hw h1 h2)).mono fun e w' ⟨v, he, hv, H⟩ => ⟨v, he, hv, H.chgd.own⟩
end Go.V
