/- The plain law BothShortest. No condition. -/
import Derived.Test.YtihindpnnbllkaaBBothShortest
import Derived.Test.YtihindpnnbllkaaBF
import Derived.Test.YtihindpnnbllkaaV9
set_option linter.all false
set_option linter.unusedVariables false
set_option maxRecDepth 1000000
namespace Go.V
open Go Go.Proofs
theorem awake20 : law20_awake 3000000 = some true := by kernel_rfl
section
variable {N : Nat} {p : Int} {acc bcc : List Bool} {gd hd : List Int} {nd ne : List Nd}
theorem Small_ok : Ok (law20_Small N p acc gd nd) fun b => b = true → acc.length ≤ 8 ∧ p ≤ 3 := by
  unfold law20_Small
  refine Ok.ite (fun h1 => Ok.ite (fun h2 => Ok.ite (fun _ => Ok.pure fun _ => ⟨by omega, h2⟩) fun _ => Ok.pure fun h => by cases h) fun _ => Ok.pure fun h => by cases h) fun _ => Ok.pure fun h => by cases h
theorem few_ok (hp : 0 ≤ p ∧ p ≤ 4) {ll : List Int} : ∀ (m : Nat) (t : List Nat) (i : Nat), i ≤ 1024 → 1024 - i < m → t.length = i → (∀ l ∈ t, l < two p) →
    Ok (law20_BothShortest_l4 N p ll m (t.map fun l : Nat => (l : Int)) (i : Int)) fun r => ∃ u : List Nat, r = u.map (fun l : Nat => (l : Int)) ∧ u.length ≤ 1024 ∧ ∀ l ∈ u, l < two p
  | 0, t, i, _, h, _, _ => by omega
  | m + 1, t, i, k1, k2, k3, k4 => by
    unfold law20_BothShortest_l4
    have hj : law20_BothShortest_j5 N ll (i : Int) = some (decide ((i : Int) < (ll.length : Int) ∧ (i : Int) < 1024)) := by
      unfold law20_BothShortest_j5
      by_cases c : (i : Int) < (ll.length : Int)
      · rw [if_pos c]; simp [c]
      · rw [if_neg c]; simp [c]
    rw [hj]
    simp only [Option.bind_some]
    refine Ok.ite (fun hx => ?_) fun hx => Ok.pure ⟨t, rfl, by omega, k4⟩
    have hx := of_decide_eq_true hx
    rw [Int.toNat_natCast]
    obtain ⟨l, hl2, e⟩ := mask_ok hp (ll.getD i 0)
    rw [e]
    refine Ok.ask (by unfold idx; omega) (Ok.ask hp.1 (Ok.ask (by simp; omega) (Ok.ask (by unfold in64; omega) ?_)))
    have e2 : (t.map fun l : Nat => (l : Int)) ++ [(l : Int)] = (t ++ [l]).map fun l : Nat => (l : Int) := by simp
    rw [e2, show ((i : Int) + 1) = ((i + 1 : Nat) : Int) by omega]
    refine few_ok hp m (t ++ [l]) (i + 1) (by omega) (by omega) (by rw [List.length_append, List.length_singleton]; omega) fun y hy => ?_
    rcases List.mem_append.1 hy with h | h
    · exact k4 y h
    · rw [List.mem_singleton] at h; omega
theorem Equal_ok {b : Bool} {q : (Int × List Bool × List Int × List Nd) × Int} {q2 : (Int × List Bool × List Int × List Nd) × Int} (hN : 5000 ≤ N) (hC : guard_Check N p acc gd nd = some 0) (hD : guard_Check N p bcc hd ne = some 0) (e1 : canon_Min N p acc gd nd = some q) (e2 : canon_Min N p bcc hd ne = some q2)
    (hS : canon_Same N q.1.1 q.1.2.1 q.1.2.2.1 q.1.2.2.2 q2.1.1 q2.1.2.1 q2.1.2.2.1 q2.1.2.2.2 = some b) : both_Equal N p acc gd nd p bcc hd ne = some (b, 0) := by
  unfold both_Equal
  rw [together_0 hC hD, Option.bind_some, if_pos rfl, e1, e2, Option.bind_some, Option.bind_some, hS, Option.bind_some]
theorem Implies_ok (hN : 200000 ≤ N) (V : Valid p acc gd nd) (W : Valid p bcc hd ne) (hC : guard_Check N p acc gd nd = some 0) (hD : guard_Check N p bcc hd ne = some 0) : ∃ b : Bool, both_Implies N p acc gd nd p bcc hd ne = some (b, 0) ∧ (b = true ↔ ∀ t : List Nat, (∀ l ∈ t, l < two p) → acc.getD (runT nd gd 0 t) false = true → bcc.getD (runT ne hd 0 t) false = true) := by
  obtain ⟨o, eo, ho⟩ := first_ok (says := both_Implies_1_p) hN V W
  have e : both_Implies N p acc gd nd p bcc hd ne = some (!o.2, 0) := by
    unfold both_Implies
    rw [together_0 hC hD, Option.bind_some, if_pos rfl, eo, Option.bind_some]
  refine ⟨_, e, ?_⟩
  rcases ho with ⟨h1, h2⟩ | ⟨T, h1, h2, _, h3, _⟩
  · rw [h1]
    refine ⟨fun _ t ht h => ?_, fun _ => rfl⟩
    have := h2 t ht
    rw [implies_p, h] at this
    cases hb : bcc.getD (runT ne hd 0 t) false with
    | true => rfl
    | false => rw [hb] at this; cases this
  · rw [h1]
    refine ⟨fun h => (by cases h), fun h => ?_⟩
    rw [implies_p, Bool.and_eq_true] at h3
    have := h T h2 h3.1
    rw [this] at h3
    exact absurd h3.2 (by simp)
end

theorem bothShortest_true {p p2 : Int} {acc bcc : List Bool} {gd hd : List Int} {nd ne : List Nd} {ll : List Int} (hw : ∀ x ∈ nd, x.wf) (hw2 : ∀ x ∈ ne, x.wf) :
    law20_BothShortest 3000000 p acc gd nd p2 bcc hd ne ll = some true := by
  have hN : 5000 ≤ 3000000 := by omega
  have hN2 : 200000 ≤ 3000000 := by omega
  refine Ok.eq ?_
  unfold law20_BothShortest
  rw [awake20, Option.bind_some]
  have hj0 : Ok (law20_BothShortest_j0 3000000 p acc gd nd p2 bcc hd ne) fun b => b = false → (acc.length ≤ 8 ∧ p ≤ 3) ∧ bcc.length ≤ 8 ∧ p2 ≤ 3 := by
    unfold law20_BothShortest_j0
    refine Small_ok.bind fun b hb => Ok.ite (fun h => Small_ok.bind fun c hc => Ok.pure fun h2 => ⟨hb h, hc (by simpa using h2)⟩) fun _ => Ok.pure fun h => by cases h
  refine hj0.bind fun b hb => Ok.ite (fun _ => Ok.pure rfl) fun hbf => ?_
  obtain ⟨⟨hs1, hs2⟩, hs3, hs4⟩ := hb (by cases b <;> simp_all)
  have hP : Ok (both_Part 3000000 p acc gd nd p2 bcc hd ne) fun r => (r.2.2 ≠ 0 → r.1 = [] ∧ r.2.1 = false) ∧ (r.2.2 = 0 → p = p2 ∧ Valid p acc gd nd ∧ guard_Check 3000000 p acc gd nd = some 0 ∧ Valid p bcc hd ne ∧ guard_Check 3000000 p bcc hd ne = some 0 ∧
      ((r = ([], false, 0) ∧ ∀ t : List Nat, (∀ l ∈ t, l < two p) → acc.getD (runT nd gd 0 t) false = bcc.getD (runT ne hd 0 t) false) ∨
      ∃ T : List Nat, r = (T.map fun l : Nat => (l : Int), true, 0) ∧ (∀ l ∈ T, l < two p) ∧ T.length ≤ 64 ∧ acc.getD (runT nd gd 0 T) false ≠ bcc.getD (runT ne hd 0 T) false ∧ ∀ t : List Nat, (∀ l ∈ t, l < two p) → acc.getD (runT nd gd 0 t) false ≠ bcc.getD (runT ne hd 0 t) false → T.length ≤ t.length)) := by
    unfold both_Part
    refine (together_ok hN hw hw2).bind fun e he => Ok.ite (fun h0 => ?_) fun h0 => Ok.pure ⟨fun _ => ⟨rfl, rfl⟩, fun h => absurd h h0⟩
    obtain ⟨hp, V, hC, W, hD⟩ := he h0
    subst hp
    have h8 : acc.length * bcc.length ≤ 8 * 8 := Nat.mul_le_mul hs1 hs3
    refine (first_ok (says := both_Part_1_p) hN2 V W).bind fun o ho => Ok.pure ⟨fun h => absurd rfl h, fun _ => ⟨rfl, V, hC, W, hD, ?_⟩⟩
    rcases ho with ⟨h1, h2⟩ | ⟨T, h1, h2, h3, h4, h5⟩
    · refine .inl ⟨by rw [h1], fun t ht => ?_⟩
      have := h2 t ht
      rw [part_p] at this
      simpa using this
    · refine .inr ⟨T, by rw [h1], h2, by omega, ?_, fun t ht h => h5 t ht ?_⟩
      · rw [part_p] at h4
        simpa using h4
      · rw [part_p]
        simpa using h
  refine hP.bind fun r hr => ?_
  have hno : ¬ (r.2.2 : Int) = 0 → Ok (Option.bind (law20_BothShortest_j1 3000000 true r) fun x114 => some x114) (· = true) := fun h0 => by
    obtain ⟨e1, e2⟩ := hr.1 h0
    have : law20_BothShortest_j1 3000000 true r = some true := by
      unfold law20_BothShortest_j1
      rw [if_pos rfl, e1, e2, if_neg (by simp)]
      rfl
    rw [this]
    exact Ok.pure rfl
  refine Ok.ite (fun h0 => ?_) hno
  obtain ⟨hp, V, hC, W, hD, hcase⟩ := hr.2 h0
  subst hp
  have p0 := V.p0
  have hsq : bcc.length * acc.length ≤ 8 * 8 := Nat.mul_le_mul hs3 hs1
  obtain ⟨q, eq, z1, q1, M1⟩ := Min_ok hN V hC
  obtain ⟨q', eq', z2, q2, M2⟩ := Min_ok hN W hD
  obtain ⟨⟨pa, ra, rg, s⟩, z⟩ := q
  obtain ⟨⟨pb, rb, rh, u⟩, z'⟩ := q'
  dsimp only at z1 z2 q1 q2 M1 M2
  subst z1; subst z2; subst q1; subst q2
  have Va := M1.V
  have := Va.a2
  have := Va.gl
  have := Va.nl
  obtain ⟨same, hsame⟩ : ∃ b : Bool, b = true ↔ ∀ t : List Nat, (∀ l ∈ t, l < two pb) → acc.getD (runT nd gd 0 t) false = bcc.getD (runT ne hd 0 t) false := by
    by_cases h : ∀ t : List Nat, (∀ l ∈ t, l < two pb) → acc.getD (runT nd gd 0 t) false = bcc.getD (runT ne hd 0 t) false
    · exact ⟨true, fun _ => h, fun _ => rfl⟩
    · exact ⟨false, fun h2 => (by cases h2), fun h2 => absurd h2 h⟩
  have hSame : canon_Same 3000000 pb ra rg s pb rb rh u = some same := by
    rw [Same_ok hN (by omega) (by omega) (by omega)]
    congr 1
    cases hs : same with
    | true =>
      obtain ⟨c1, c2, c3⟩ := M1.one M2 (hsame.1 hs)
      exact decide_eq_true ⟨rfl, c1, c2, c3⟩
    | false =>
      refine decide_eq_false ?_
      rintro ⟨_, c1, c2, c3⟩
      have := hsame.2 fun t ht => by rw [M1.lang t ht, M2.lang t ht, c1, c2, c3]
      rw [hs] at this
      cases this
  have eE := Equal_ok (q := ((pb, ra, rg, s), 0)) (q2 := ((pb, rb, rh, u), 0)) hN hC hD eq eq' hSame
  obtain ⟨b1, eb1, hb1⟩ := Implies_ok hN2 V W hC hD
  obtain ⟨b2, eb2, hb2⟩ := Implies_ok hN2 W V hD hC
  rw [eq, eq', eE, eb1, eb2]
  simp only [Option.bind_some]
  have hlang : (b1 && b2) = same := by
    cases hs : same with
    | true =>
      have h := hsame.1 hs
      rw [hb1.2 fun t ht e => by rw [← h t ht]; exact e, hb2.2 fun t ht e => by rw [h t ht]; exact e]
      rfl
    | false =>
      refine Bool.eq_false_iff.2 fun h2 => ?_
      rw [Bool.and_eq_true] at h2
      have := hsame.2 fun t ht => ?_
      · rw [hs] at this
        cases this
      have i1 := hb1.1 h2.1 t ht
      have i2 := hb2.1 h2.2 t ht
      cases ha : acc.getD (runT nd gd 0 t) false with
      | true => exact (i1 ha).symm
      | false =>
        cases hb : bcc.getD (runT ne hd 0 t) false with
        | false => rfl
        | true => rw [i2 hb] at ha; cases ha
  have his : r.2.1 = !same := by
    rcases hcase with ⟨h1, h2⟩ | ⟨T, h1, h2, _, h3, _⟩
    · rw [h1, hsame.2 h2]; rfl
    · rw [h1]
      cases hs : same with
      | true => exact absurd (hsame.1 hs T h2) h3
      | false => rfl
  have hj2 : law20_BothShortest_j2 3000000 r ((pb, ra, rg, s), 0) ((pb, rb, rh, u), 0) (same, 0) (b1, 0) (b2, 0) = some false := by
    unfold law20_BothShortest_j2
    dsimp only
    rw [his, hSame]
    cases same <;> cases b1 <;> cases b2 <;> simp_all
  rw [hj2, Option.bind_some, if_neg (by simp)]
  have hj3 : law20_BothShortest_j3 3000000 pb acc gd nd pb bcc hd ne r = some false := by
    unfold law20_BothShortest_j3
    rcases hcase with ⟨h1, h2⟩ | ⟨T, h1, h2, h4, h3, _⟩
    · rw [h1, if_neg (by simp)]
    · rw [h1, if_pos rfl]
      dsimp only
      rw [accepts_ok hN V hC h2 (by omega), accepts_ok hN W hD h2 (by omega), Option.bind_some, Option.bind_some]
      congr 1
      exact beq_false_of_ne h3
  rw [hj3, Option.bind_some, if_neg (by simp)]
  refine (few_ok ⟨p0, by omega⟩ 3000000 [] 0 (by omega) (by omega) rfl fun l hl => by cases hl).bind fun x ⟨f, e, f1, f2⟩ => ?_
  subst e
  have hj6 : law20_BothShortest_j6 3000000 pb acc gd nd pb bcc hd ne r (f.map fun l : Nat => (l : Int)) = some false := by
    unfold law20_BothShortest_j6
    rw [accepts_ok hN V hC f2 f1, accepts_ok hN W hD f2 f1, Option.bind_some, Option.bind_some]
    by_cases h : acc.getD (runT nd gd 0 f) false = bcc.getD (runT ne hd 0 f) false
    · rw [if_pos h]
    · rw [if_neg h]
      rcases hcase with ⟨h1, h2⟩ | ⟨T, h1, h2, h4, h3, h5⟩
      · exact absurd (h2 f f2) h
      · have h6 := h5 f f2 h
        rw [h1, if_pos rfl]
        dsimp only
        rw [List.length_map, List.length_map, decide_eq_false (by omega)]
  rw [hj6, Option.bind_some, if_neg (by simp)]
  have hj7 : law20_BothShortest_j7 3000000 pb acc gd nd pb bcc hd ne true (b1, 0) (f.map fun l : Nat => (l : Int)) = some true := by
    unfold law20_BothShortest_j7
    dsimp only
    rw [if_pos rfl, accepts_ok hN V hC f2 f1, accepts_ok hN W hD f2 f1, Option.bind_some, Option.bind_some]
    by_cases h : b1 = true
    · rw [if_pos h]
      by_cases h2 : acc.getD (runT nd gd 0 f) false = true
      · rw [if_pos h2, hb1.1 h f f2 h2]
      · rw [if_neg h2]
    · rw [if_neg h]
  rw [hj7, Option.bind_some]
  exact Ok.pure rfl

theorem bothShortest_row (w0 : World) (p : Int) (A1 A2 A3 : Option Addr) (c1 c2 c3 : Nat) (acc : List Bool) (gd : List Int) (nd : List Nd) (p2 : Int) (B1 B2 B3 : Option Addr) (d1 d2 d3 : Nat) (bcc : List Bool) (hd : List Int) (ne : List Nd) (A4 : Option Addr) (c4 : Nat) (ll : List Int)
    (k1 : acc.length ≤ c1) (k2 : gd.length ≤ c2) (k3 : nd.length ≤ c3) (l1 : bcc.length ≤ d1) (l2 : hd.length ≤ d2) (l3 : ne.length ≤ d3) (k4 : ll.length ≤ c4)
    (C1 : C cBool w0 (Lo w0.heap.size) A1 acc) (C2 : C (cInt .i64) w0 (Lo w0.heap.size) A2 gd) (C3 : C cNode w0 (Lo w0.heap.size) A3 nd) (D1 : C cBool w0 (Lo w0.heap.size) B1 bcc) (D2 : C (cInt .i64) w0 (Lo w0.heap.size) B2 hd) (D3 : C cNode w0 (Lo w0.heap.size) B3 ne) (C4 : C (cInt .u8) w0 (Lo w0.heap.size) A4 ll) (hw : ∀ x ∈ nd, x.wf) (hw2 : ∀ x ∈ ne, x.wf) :
    Calls Try.prog 7 #[.agg #[.int .i64 p, .slice A1 acc.length c1, .slice A2 gd.length c2, .slice A3 nd.length c3], .agg #[.int .i64 p2, .slice B1 bcc.length d1, .slice B2 hd.length d2, .slice B3 ne.length d3], .slice A4 ll.length c4] w0 fun e w' => ∃ v, e = .returned v ∧ (v = .bool true ∧ Ext w0 w') :=
  (law20_BothShortest_calls A1 c1 A2 c2 A3 c3 B1 d1 B2 d2 B3 d3 A4 c4 p acc gd nd p2 bcc hd ne ll k1 k2 k3 l1 l2 l3 k4 (((((((Hp.start w0).arg C1).arg C2).arg C3).arg D1).arg D2).arg D3 |>.arg C4) (bothShortest_true hw hw2)).mono fun e w' ⟨v, he, hv, H⟩ => ⟨v, he, hv, H.chgd.own⟩
end Go.V
