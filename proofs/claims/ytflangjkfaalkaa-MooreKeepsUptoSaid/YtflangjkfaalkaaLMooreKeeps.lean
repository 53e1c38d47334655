/- The plain law MooreKeeps. No condition. -/
import Derived.Test.YtflangjkfaalkaaBMooreKeeps
import Derived.Test.YtflangjkfaalkaaMR3
import Derived.Test.YtflangjkfaalkaaV9
set_option linter.all false
set_option linter.unusedVariables false
set_option maxRecDepth 1000000
namespace Go.V
open Go Go.Proofs
theorem awake26k : law26_awake 1000000 = some true := by kernel_rfl

section
variable {N : Nat} {acc : List Bool} {wins : Bool} {ranks : List Int} {choice : List Int} {reply : List (List Int)}
theorem and1023 (x : Int) : 0 ≤ andV .i64 x 1023 ∧ andV .i64 x 1023 ≤ 1023 := by
  unfold andV
  have h : (BitVec.ofInt IntKind.i64.bits x &&& BitVec.ofInt IntKind.i64.bits (1023 : Int)).toNat ≤ 1023 := by
    rw [BitVec.toNat_and]
    exact Nat.and_le_right
  unfold IntKind.wrap IntKind.bits IntKind.signed
  unfold IntKind.bits at h
  simp only [Bool.true_and]
  generalize (BitVec.ofInt 64 x &&& BitVec.ofInt 64 (1023 : Int)).toNat = k at h
  simp
  omega
theorem Keeps_l2_ok {mv ll : List Int} (h1 : 1 ≤ mv.length) (h2 : mv.length ≤ 16) (hl : ll.length ≤ 60) : ∀ (m : Nat) (out : List Int) (i : Int), 0 ≤ i → i ≤ ll.length → (ll.length : Int) - i < m → (out.length : Int) = i → (∀ j, j < out.length → ∃ k, k < mv.length ∧ mv.getD k 0 = out.getD j 0) →
    Ok (law26_MooreKeeps_l2 N ll mv m out i) fun r => r.length = ll.length ∧ ∀ j, j < r.length → ∃ k, k < mv.length ∧ mv.getD k 0 = r.getD j 0
  | 0, out, i, _, _, h, _, _ => by omega
  | m + 1, out, i, k0, k1, k2, k3, k4 => by
    unfold law26_MooreKeeps_l2
    refine Ok.ite (fun hi => ?_) fun hi => Ok.pure ⟨by omega, k4⟩
    have hz := and1023 (ll.getD i.toNat 0)
    have t1 := Int.tmod_lt_of_pos (andV .i64 (ll.getD i.toNat 0) 1023) (show (0 : Int) < mv.length by omega)
    have t2 := Int.tmod_nonneg (mv.length : Int) hz.1
    refine Ok.ask (by unfold idx; omega) (Ok.ask (by omega) (Ok.ask (by unfold idx; omega) (Ok.ask (by simp; omega) (Ok.ask (by unfold in64; omega) ?_))))
    refine Keeps_l2_ok h1 h2 hl m _ (i + 1) (by omega) (by omega) (by omega) (by simp; omega) fun j hj => ?_
    rw [snoc_getD]
    by_cases c : j = out.length
    · rw [if_pos c]
      exact ⟨_, by omega, rfl⟩
    · rw [if_neg c]
      have : j < out.length + 1 := by simpa using hj
      exact k4 j (by omega)
theorem Keeps_l3_ok {e : Int} {ps : List Int × Int} (P : MPath acc wins ranks ps.1) (hr : ranks.length = acc.length) (hl : ps.1.length ≤ 100) (hz : ∀ q, q < acc.length → (ranks.getD q 0 = 0 ↔ acc.getD q false = true)) : ∀ (m : Nat) (i : Int), 0 ≤ i → i ≤ ps.1.length → (ps.1.length : Int) - i < m →
    law26_MooreKeeps_l3 N acc ((wins, ranks, choice, reply), e) ps m i = some (.inl ())
  | 0, i, _, _, h => by omega
  | m + 1, i, k0, k1, k2 => by
    unfold law26_MooreKeeps_l3
    dsimp only
    by_cases hi : i < (ps.1.length : Int)
    · have ih := Keeps_l3_ok (e := e) P hr hl hz m (i + 1) (by omega) (by omega) (by omega)
      have in_ := P.inn i.toNat (by omega)
      have h1 : in64 (i + 1) := by unfold in64; omega
      have h2 : in64 (i - 1) := by unfold in64; omega
      rw [if_pos hi]
      unfold ask
      rw [if_pos (by unfold idx; omega), if_neg (by omega), if_neg (by omega)]
      by_cases hw : wins = true
      · rw [if_pos hw, if_pos hw]
        by_cases h0 : 0 < i
        · have d := P.dec hw i.toNat (by omega) (by omega)
          have in2 := P.inn (i - 1).toNat (by omega)
          rw [show i.toNat - 1 = (i - 1).toNat by omega] at d
          rw [if_pos h0, if_pos (by unfold idx; omega), if_pos h2, if_pos (by unfold idx; omega), if_pos (by unfold idx; omega), if_neg (by omega), if_pos h1, ih]
        · rw [if_neg h0, if_pos h1, ih]
      · have hlose : wins = false := by simpa using hw
        have l := P.lose hlose i.toNat (by omega)
        have za := hz (ps.1.getD i.toNat 0).toNat (by omega)
        rw [if_neg hw, if_pos (by unfold idx; omega), if_neg (fun h => by have := za.2 h; omega), if_pos (by unfold idx; omega), if_pos l, if_neg hw, if_pos h1, ih]
    · rw [if_neg hi]
end

theorem mooreKeeps_true {p : Int} {acc : List Bool} {gd : List Int} {nd : List Nd} {s : Int × Int} {ll : List Int} (hw : ∀ x ∈ nd, x.wf) (h1 : 0 ≤ s.1 ∧ s.1 ≤ 255) (h2 : 0 ≤ s.2 ∧ s.2 ≤ 255) :
    law26_MooreKeeps 1000000 p acc gd nd s ll = some true := by
  have hN : 5000 ≤ 1000000 := by omega
  refine Ok.eq ?_
  unfold law26_MooreKeeps
  rw [awake26k]
  simp only [Option.bind_some]
  refine (Small_ok (N := 1000000) (p := p) (acc := acc) (gd := gd) (nd := nd)).bind fun L hL => ?_
  refine Ok.ite (fun hL2 => ?_) fun _ => Ok.pure rfl
  refine Ok.ite (fun _ => Ok.pure rfl) fun hlen => ?_
  obtain ⟨eB, hB, hB2⟩ := board_Check_ok (acc := acc) (gd := gd) hN hw (.inl (hL hL2)) h1 h2
  rw [show (s.1, s.2) = s from rfl]
  by_cases h0 : eB = 0
  · subst h0
    obtain ⟨V, ha0, hs⟩ := hB2 rfl
    have a1 := V.a1
    have a2 := V.a2
    have sl := split_le hs
    refine (mOf_ok hN V hB hs).bind fun x ⟨x1, K⟩ => ?_
    obtain ⟨⟨wins, ranks, choice, reply⟩, e⟩ := x
    dsimp only at x1 K ⊢
    subst x1
    have rl := K.rl
    have hmask : 0 ≤ (if wins = true then s.1 else s.2) ∧ (if wins = true then s.1 else s.2) ≤ 15 := by split <;> omega
    have ml := moves_len hmask
    rw [if_pos rfl, mCheck_ok hN V hB hs K]
    simp only [Option.bind_some, if_true]
    rw [if_pos (by omega)]
    have hj : law26_MooreKeeps_j1 1000000 s ((wins, ranks, choice, reply), 0) = some (if wins = true then s.1 else s.2) := by
      unfold law26_MooreKeeps_j1; dsimp only; split <;> rfl
    rw [hj]
    simp only [Option.bind_some]
    rw [moves_n hN hmask]
    simp only [Option.bind_some]
    rw [if_neg (by omega)]
    refine (Keeps_l2_ok ml.1 ml.2 (by omega) 1000000 [] 0 (by omega) (by omega) (by omega) rfl fun j hj => by simp at hj).bind fun ms ⟨m1, m2⟩ => ?_
    refine (mPlay_ok hN V hB hs K (by omega) m2).bind fun ps ⟨p1, P, p2, p3⟩ => ?_
    have ne := P.ne
    rw [if_pos p1, if_neg (by omega)]
    refine Ok.ask (by unfold in64; omega) ?_
    rw [if_neg (by omega), Keeps_l3_ok P rl (by omega) (fun q hq => (K.st q hq).zero) 1000000 0 (by omega) (by omega) (by omega)]
    simp only [Option.bind_some, Sum.elim_inl, if_true]
    refine Ok.ite (fun hwin => ?_) fun _ => Ok.pure rfl
    have e0 : (Int.toNat (0 : Int)) = 0 := rfl
    rw [e0]
    refine Ok.ask (by unfold idx; omega) ?_
    refine Ok.ite (fun _ => Ok.pure rfl) fun hge => ?_
    have in_ := P.inn (ps.1.length - 1) (by omega)
    have fl := P.fall hwin (ps.1.length - 1) (by omega)
    have el : Int.toNat ((((List.length ps.1) : Nat) : Int) - 1) = ps.1.length - 1 := by omega
    rw [el]
    refine Ok.ask (by unfold in64; omega) (Ok.ask (by unfold idx; omega) (Ok.ask (by unfold idx; omega) (Ok.pure ?_)))
    rcases p3 with p3 | p3
    · exact (K.st _ (by omega)).zero.1 (by omega)
    · exact p3
  · rw [mOf_no hB h0]
    simp only [Option.bind_some]
    rw [if_neg h0]
    unfold law26_MooreKeeps_j0
    simp only [if_true]
    rw [if_pos (by simp), show (s.1, s.2) = s from rfl, hB]
    simp only [Option.bind_some, beq_self_eq_true]
    exact Ok.pure rfl

theorem mooreKeeps_row (w0 : World) (p : Int) (A1 A2 A3 : Option Addr) (c1 c2 c3 : Nat) (acc : List Bool) (gd : List Int) (nd : List Nd) (e s : Int) (A4 : Option Addr) (c4 : Nat) (ll : List Int)
    (k1 : acc.length ≤ c1) (k2 : gd.length ≤ c2) (k3 : nd.length ≤ c3) (k4 : ll.length ≤ c4)
    (C1 : C cBool w0 (Lo w0.heap.size) A1 acc) (C2 : C (cInt .i64) w0 (Lo w0.heap.size) A2 gd) (C3 : C cNode w0 (Lo w0.heap.size) A3 nd) (C4 : C (cInt .i64) w0 (Lo w0.heap.size) A4 ll) (h1 : 0 ≤ e ∧ e ≤ 255) (h2 : 0 ≤ s ∧ s ≤ 255) (hw : ∀ x ∈ nd, x.wf) :
    Calls Try.prog 7 #[.agg #[.int .i64 p, .slice A1 acc.length c1, .slice A2 gd.length c2, .slice A3 nd.length c3], .agg #[.int .u8 e, .int .u8 s], .slice A4 ll.length c4] w0 fun e w' => ∃ v, e = .returned v ∧ (v = .bool true ∧ Ext w0 w') :=
  (law26_MooreKeeps_calls A1 c1 A2 c2 A3 c3 A4 c4 p acc gd nd (e, s) ll k1 k2 k3 k4 ((((Hp.start w0).arg C1).arg C2).arg C3 |>.arg C4) (mooreKeeps_true hw h1 h2)).mono fun e w' ⟨v, he, hv, H⟩ => ⟨v, he, hv, H.chgd.own⟩
end Go.V
