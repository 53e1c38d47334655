/- The plain law CanonSmall. No condition. -/
import Derived.Test.YtldjjbgnicknkaaBCanonSmall
import Derived.Test.YtldjjbgnicknkaaCS
import Derived.Test.YtldjjbgnicknkaaV9
set_option linter.all false
set_option linter.unusedVariables false
set_option maxRecDepth 1000000
namespace Go.V
open Go Go.Proofs
theorem awake17 : law17_awake 3000000 = some true := by kernel_rfl

theorem and_small (x : Int) (m : Nat) (hm : m ≤ 255) : ∃ l : Nat, l ≤ m ∧ andV .u8 x (m : Int) = (l : Int) := by
  refine ⟨(BitVec.ofInt 8 x &&& BitVec.ofInt 8 (m : Int)).toNat, ?_, ?_⟩
  · have e : (BitVec.ofInt 8 (m : Int)).toNat = m := by simp; omega
    rw [BitVec.toNat_and, e]
    exact Nat.and_le_right
  · have h : (BitVec.ofInt 8 x &&& BitVec.ofInt 8 (m : Int)).toNat < 256 := (BitVec.ofInt 8 x &&& BitVec.ofInt 8 (m : Int)).isLt
    show IntKind.u8.wrap ((BitVec.ofInt 8 x &&& BitVec.ofInt 8 (m : Int)).toNat : Int) = _
    exact wrap_u8 (by omega) (by omega)
theorem mask_ok {p : Int} (hp : 0 ≤ p ∧ p ≤ 4) (x : Int) : ∃ l : Nat, l < two p ∧ andV .u8 x (IntKind.u8.wrap (shlV .u8 1 p - 1)) = (l : Int) := by
  have key : ∀ m : Nat, m ≤ 255 → IntKind.u8.wrap (shlV .u8 1 p - 1) = (m : Int) → m + 1 = two p → ∃ l : Nat, l < two p ∧ andV .u8 x (IntKind.u8.wrap (shlV .u8 1 p - 1)) = (l : Int) := fun m h1 h2 h3 => by
    obtain ⟨l, h4, h5⟩ := and_small x m h1
    exact ⟨l, by omega, by rw [h2]; exact h5⟩
  obtain ⟨c, rfl⟩ := Int.eq_ofNat_of_zero_le hp.1
  have hc : c ≤ 4 := by omega
  match c, hc with
  | 0, _ => exact key 0 (by omega) (by decide) (by decide)
  | 1, _ => exact key 1 (by omega) (by decide) (by decide)
  | 2, _ => exact key 3 (by omega) (by decide) (by decide)
  | 3, _ => exact key 7 (by omega) (by decide) (by decide)
  | 4, _ => exact key 15 (by omega) (by decide) (by decide)
section
variable {N : Nat} {p : Int} {acc : List Bool} {gd : List Int} {nd : List Nd}
theorem few_ok (hp : 0 ≤ p ∧ p ≤ 4) {ll : List Int} : ∀ (m : Nat) (t : List Nat) (i : Nat), i ≤ 1024 → 1024 - i < m → t.length = i → (∀ l ∈ t, l < two p) →
    Ok (law17_CanonSmall_l1 N p ll m (t.map fun l : Nat => (l : Int)) (i : Int)) fun r => ∃ u : List Nat, r = u.map (fun l : Nat => (l : Int)) ∧ u.length ≤ 1024 ∧ ∀ l ∈ u, l < two p
  | 0, t, i, _, h, _, _ => by omega
  | m + 1, t, i, k1, k2, k3, k4 => by
    unfold law17_CanonSmall_l1
    have hj : law17_CanonSmall_j2 N ll (i : Int) = some (decide ((i : Int) < (ll.length : Int) ∧ (i : Int) < 1024)) := by
      unfold law17_CanonSmall_j2
      by_cases c : (i : Int) < (ll.length : Int)
      · rw [if_pos c]; simp [c]
      · rw [if_neg c]; simp [c]
    rw [hj]
    simp only [Option.bind_some]
    refine Ok.ite (fun hx => ?_) fun hx => Ok.pure ⟨t, rfl, by omega, k4⟩
    have hx := of_decide_eq_true hx
    rw [Int.toNat_natCast]
    obtain ⟨l, hl2, e⟩ := mask_ok hp (ll.getD i 0)
    rw [e]
    refine Ok.ask (by unfold idx; omega) (Ok.ask hp.1 (Ok.ask (by simp; omega) (Ok.ask (by unfold in64; omega) ?_)))
    have e2 : (t.map fun l : Nat => (l : Int)) ++ [(l : Int)] = (t ++ [l]).map fun l : Nat => (l : Int) := by simp
    rw [e2, show ((i : Int) + 1) = ((i + 1 : Nat) : Int) by omega]
    refine few_ok hp m (t ++ [l]) (i + 1) (by omega) (by omega) (by rw [List.length_append, List.length_singleton]; omega) fun y hy => ?_
    rcases List.mem_append.1 hy with h | h
    · exact k4 y h
    · rw [List.mem_singleton] at h; omega
theorem j6_ok {c out : List Int} {i : Nat} (hc : i < c.length) (ho : i < out.length) (h1 : c.getD i 0 = (i : Int)) (h2 : out.getD i 0 = (i : Int)) : law17_CanonSmall_j6 N (c, 0) (out, 0) (i : Int) = some false := by
  have e1 : idx (i : Int) c.length := ⟨by omega, by omega⟩
  have e2 : idx (i : Int) out.length := ⟨by omega, by omega⟩
  unfold law17_CanonSmall_j6
  dsimp only
  rw [Int.toNat_natCast, h1, h2]
  unfold ask
  rw [if_pos e1, if_pos rfl, if_pos e2]
  simp
theorem l5_ok {c out : List Int} {n : Nat} (hn : n ≤ 1000) (hc : c.length = n) (ho : out.length = n) (h1 : ∀ q, q < n → c.getD q 0 = (q : Int)) (h2 : ∀ q, q < n → out.getD q 0 = (q : Int)) : ∀ (m : Nat) (i : Nat), i ≤ n → n - i < m → law17_CanonSmall_l5 N (c, 0) (out, 0) m (i : Int) = some (.inl ()) := by
  intro m
  induction m with
  | zero => intro i _ h; omega
  | succ m ih =>
    intro i k1 k2
    unfold law17_CanonSmall_l5
    by_cases hx : (i : Int) < (c.length : Int)
    · rw [if_pos (show (i : Int) < (((List.length ((c, (0 : Int)).1)) : Nat) : Int) from hx), j6_ok (by omega) (by omega) (h1 i (by omega)) (h2 i (by omega)), Option.bind_some, if_neg (by simp)]
      unfold ask
      rw [if_pos (by unfold in64; omega), show ((i : Int) + 1) = ((i + 1 : Nat) : Int) by omega]
      exact ih (i + 1) (by omega) (by omega)
    · rw [if_neg (show ¬ (i : Int) < (((List.length ((c, (0 : Int)).1)) : Nat) : Int) from hx)]
end

theorem canonSmall_true {p : Int} {acc : List Bool} {gd : List Int} {nd : List Nd} {ll : List Int} (hw : ∀ x ∈ nd, x.wf) :
    law17_CanonSmall 3000000 p acc gd nd ll = some true := by
  have hN : 5000 ≤ 3000000 := by omega
  refine Ok.eq ?_
  unfold law17_CanonSmall
  rw [awake17]
  simp only [Option.bind_some]
  obtain ⟨e, hC, he⟩ := guard_Check_ok (N := 3000000) (p := p) (acc := acc) (gd := gd) hN hw
  have hS : Ok (law16_Small 3000000 p acc gd nd) fun r => r = true → p ≤ 4 := by
    unfold law16_Small
    repeat' (first | exact Ok.pure fun h => by cases h | exact Ok.pure fun _ => by omega | refine Ok.ite (fun _ => ?_) fun _ => ?_)
  obtain ⟨sm, es, hsm⟩ := hS
  by_cases h0 : e = 0
  · have V := he.2 h0
    rw [h0] at hC
    have a1 := V.a1
    have a2 := V.a2
    have p0 := V.p0
    obtain ⟨r, hm, r1, r2, M⟩ := Min_ok hN V hC
    obtain ⟨⟨pm, ra, rg, s⟩, z⟩ := r
    dsimp only at r1 r2 M
    subst r1; subst r2
    rw [hm]
    simp only [Option.bind_some]
    have hj0 : law17_CanonSmall_j0 3000000 pm acc gd nd ((pm, ra, rg, s), 0) = some (!sm) := by
      unfold law17_CanonSmall_j0
      rw [es]
      cases sm <;> rfl
    rw [hj0]
    simp only [Option.bind_some]
    refine Ok.ite (fun _ => Ok.pure rfl) fun hsm2 => ?_
    have hp4 : pm ≤ 4 := hsm (by cases sm <;> simp_all)
    refine (few_ok ⟨p0, hp4⟩ 3000000 [] 0 (by omega) (by omega) rfl fun l hl => by cases hl).bind fun x ⟨u, e, u1, u2⟩ => ?_
    subst e
    have W := M.V
    have b1 := W.a1
    have b2 := W.a2
    have bn := W.nl
    have bg := W.gl
    have few := M.few
    rw [Run_ok hN V hC u2 u1, Run_ok hN W M.chk u2 u1]
    simp only [Option.bind_some]
    have l1 := runT_lt V u 0 (by omega)
    have l2 := runT_lt W u 0 (by omega)
    have hj3 : law17_CanonSmall_j3 3000000 acc nd ((pm, ra, rg, s), 0) (((runT nd gd 0 u : Nat) : Int), 0) (((runT s rg 0 u : Nat) : Int), 0) = some false := by
      unfold law17_CanonSmall_j3 ask
      dsimp only
      rw [if_pos rfl, if_pos rfl, if_neg (by omega), if_neg (by omega), if_pos (by unfold idx; omega), if_pos (by unfold idx; omega), Int.toNat_natCast, Int.toNat_natCast, if_pos (M.lang u u2), if_neg (by omega), decide_eq_false (by omega)]
    rw [hj3]
    simp only [Option.bind_some, Bool.false_eq_true, if_false]
    refine (Classes_ok hN W M.chk).bind fun r ⟨r1, A⟩ => ?_
    obtain ⟨c, cz⟩ := r
    dsimp only at r1 A
    subst r1
    refine (Reached_ok hN W M.chk).bind fun r ⟨r1, R, B⟩ => ?_
    obtain ⟨out, oz⟩ := r
    dsimp only at r1 B
    subst r1
    have hcid := classes_id W A M.dis
    obtain ⟨hol, hoid⟩ := reached_id W M.can M.dis B
    obtain ⟨r, hm2, r1, r2, M2⟩ := Min_ok hN W M.chk
    obtain ⟨⟨pm2, ra2, rg2, s2⟩, z⟩ := r
    dsimp only at r1 r2 M2
    subst r1; subst r2
    obtain ⟨q1, q2, q3⟩ := M.self M2
    subst q1; subst q2; subst q3
    have hsame : canon_Same 3000000 pm2 ra rg s pm2 ra rg s = some true := by
      rw [Same_ok hN (by omega) (by omega) (by omega)]
      simp
    have hIs : canon_Is 3000000 pm2 ra rg s = some (true, 0) := by
      unfold canon_Is
      rw [hm2]
      simp only [Option.bind_some]
      rw [if_pos trivial, hsame]
      rfl
    rw [hm2, hIs]
    simp only [Option.bind_some]
    have al := A.len
    have hj4 : law17_CanonSmall_j4 3000000 ((pm2, ra, rg, s), 0) (c, 0) (out, 0) ((pm2, ra, rg, s), 0) (true, 0) = some false := by
      unfold law17_CanonSmall_j4
      dsimp only
      rw [if_pos rfl, if_pos rfl, if_pos rfl, if_pos rfl, if_pos rfl, hsame]
      simp only [Option.bind_some]
      rw [if_pos trivial, if_pos (by omega)]
      have : (((List.length out) : Nat) : Int) = (((List.length ra) : Nat) : Int) := by omega
      simp [this]
    rw [hj4]
    simp only [Option.bind_some, Bool.false_eq_true, if_false]
    have h5 := l5_ok (N := 3000000) (n := ra.length) (by omega) al hol hcid (fun q hq => hoid q (by omega)) 3000000 0 (by omega) (by omega)
    have e5 : law17_CanonSmall_l5 3000000 (c, 0) (out, 0) 3000000 0 = some (.inl ()) := h5
    rw [e5]
    exact Ok.pure rfl
  · rw [Min_no hC h0]
    simp only [Option.bind_some]
    have hj0 : law17_CanonSmall_j0 3000000 p acc gd nd ((0, [], [], []), e) = some true := by
      unfold law17_CanonSmall_j0
      rw [es]
      cases sm
      · rfl
      · simpa using h0
    rw [hj0]
    exact Ok.pure rfl

theorem canonSmall_row (w0 : World) (p : Int) (A1 A2 A3 : Option Addr) (c1 c2 c3 : Nat) (acc : List Bool) (gd : List Int) (nd : List Nd) (A4 : Option Addr) (c4 : Nat) (ll : List Int)
    (k1 : acc.length ≤ c1) (k2 : gd.length ≤ c2) (k3 : nd.length ≤ c3) (k4 : ll.length ≤ c4)
    (C1 : C cBool w0 (Lo w0.heap.size) A1 acc) (C2 : C (cInt .i64) w0 (Lo w0.heap.size) A2 gd) (C3 : C cNode w0 (Lo w0.heap.size) A3 nd) (C4 : C (cInt .u8) w0 (Lo w0.heap.size) A4 ll) (hw : ∀ x ∈ nd, x.wf) :
    Calls Try.prog 6 #[.agg #[.int .i64 p, .slice A1 acc.length c1, .slice A2 gd.length c2, .slice A3 nd.length c3], .slice A4 ll.length c4] w0 fun e w' => ∃ v, e = .returned v ∧ (v = .bool true ∧ Ext w0 w') :=
  (law17_CanonSmall_calls A1 c1 A2 c2 A3 c3 A4 c4 p acc gd nd ll k1 k2 k3 k4 ((((Hp.start w0).arg C1).arg C2).arg C3 |>.arg C4) (canonSmall_true hw)).mono fun e w' ⟨v, he, hv, H⟩ => ⟨v, he, hv, H.chgd.own⟩
end Go.V
