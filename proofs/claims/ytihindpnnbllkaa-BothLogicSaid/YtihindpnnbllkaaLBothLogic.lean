/- The plain law BothLogic. No condition. -/
import Derived.Test.YtihindpnnbllkaaBBothLogic
import Derived.Test.YtihindpnnbllkaaGC3
import Derived.Test.YtihindpnnbllkaaV9
set_option linter.all false
set_option linter.unusedVariables false
set_option maxRecDepth 1000000
namespace Go.V
open Go Go.Proofs
theorem awake20 : law20_awake 3000000 = some true := by kernel_rfl
abbrev Au4 := Int × List Bool × List Int × List Nd
/-- what a way to put together gives -/
structure PR (N : Nat) (p : Int) (Mb : Nat) (lang : List Nat → Bool) (o : Au4 × Int) : Prop where
  z : o.2 = 0
  pp : o.1.1 = p
  can : CanA N p o.1.2.1 o.1.2.2.1 o.1.2.2.2
  few : o.1.2.1.length ≤ Mb
  lang : ∀ t : List Nat, (∀ l ∈ t, l < two p) → o.1.2.1.getD (runT o.1.2.2.2 o.1.2.2.1 0 t) false = if t = [] then false else lang t
section
variable {N : Nat} {p : Int} {acc bcc : List Bool} {gd hd : List Int} {nd ne : List Nd}
theorem PR.acc_ {Mb : Nat} {lang : List Nat → Bool} {o : Au4 × Int} (hN : 5000 ≤ N) (h : PR N p Mb lang o) {t : List Nat} (ht : ∀ l ∈ t, l < two p) (hl : t.length ≤ 1024) : law20_accepts N o.1.1 o.1.2.1 o.1.2.2.1 o.1.2.2.2 (t.map fun l : Nat => (l : Int)) = some (if t = [] then false else lang t) := by
  rw [h.pp, accepts_ok hN h.can.V h.can.chk ht hl, h.lang t ht]
theorem PR.Is {Mb : Nat} {lang : List Nat → Bool} {o : Au4 × Int} (hN : 5000 ≤ N) (h : PR N p Mb lang o) : canon_Is N o.1.1 o.1.2.1 o.1.2.2.1 o.1.2.2.2 = some (true, 0) := by
  obtain ⟨q, eq, z1, q1, M1⟩ := Min_ok hN h.can.V h.can.chk
  obtain ⟨c1, c2, c3⟩ := M1.can_.one h.can fun t ht => (M1.lang t ht).symm
  have Va := M1.V
  have := Va.a2
  have := Va.gl
  have := Va.nl
  unfold canon_Is
  rw [h.pp, eq, Option.bind_some, if_pos z1, Same_ok hN (by omega) (by omega) (by omega), Option.bind_some, decide_eq_true ⟨q1, c1, c2, c3⟩, z1]
theorem PR.zero {Mb : Nat} {lang : List Nat → Bool} {o : Au4 × Int} (h : PR N p Mb lang o) : 1 ≤ o.1.2.1.length ∧ o.1.2.1.getD 0 false = false :=
  ⟨h.can.V.a1, h.lang [] fun l hl => by cases hl⟩
theorem Not_res (hN : 100000 ≤ N) (V : Valid p acc gd nd) (hC : guard_Check N p acc gd nd = some 0) {Mb : Nat} (h1 : acc.length + 1 ≤ Mb) (h256 : Mb ≤ 256) (h4 : Mb * two p ≤ 4096) : Ok (both_Not N p acc gd nd) (PR N p Mb fun t => !acc.getD (runT nd gd 0 t) false) := by
  unfold both_Not
  refine (put_ok (says := both_Not_1_p) hN V V hC hC (Mb := Mb) (fun r M => by have := M.diag; omega) h256 h4).bind fun o ⟨a, b, c, d, e⟩ => Ok.pure ⟨a, b, c, d, fun t ht => ?_⟩
  rw [← not_p (acc.getD (runT nd gd 0 t) false) (acc.getD (runT nd gd 0 t) false)]
  exact e t ht
theorem And_res (hN : 100000 ≤ N) (V : Valid p acc gd nd) (W : Valid p bcc hd ne) (hC : guard_Check N p acc gd nd = some 0) (hD : guard_Check N p bcc hd ne = some 0) {Mb : Nat} (h1 : acc.length * bcc.length + 1 ≤ Mb) (h256 : Mb ≤ 256) (h4 : Mb * two p ≤ 4096) : Ok (both_And N p acc gd nd p bcc hd ne) (PR N p Mb fun t => acc.getD (runT nd gd 0 t) false && bcc.getD (runT ne hd 0 t) false) := by
  unfold both_And
  refine (put_ok (says := both_And_1_p) hN V W hC hD (Mb := Mb) (fun r M => by have := M.few; omega) h256 h4).bind fun o ⟨a, b, c, d, e⟩ => Ok.pure ⟨a, b, c, d, fun t ht => ?_⟩
  rw [← and_p]
  exact e t ht
theorem Or_res (hN : 100000 ≤ N) (V : Valid p acc gd nd) (W : Valid p bcc hd ne) (hC : guard_Check N p acc gd nd = some 0) (hD : guard_Check N p bcc hd ne = some 0) {Mb : Nat} (h1 : acc.length * bcc.length + 1 ≤ Mb) (h256 : Mb ≤ 256) (h4 : Mb * two p ≤ 4096) : Ok (both_Or N p acc gd nd p bcc hd ne) (PR N p Mb fun t => acc.getD (runT nd gd 0 t) false || bcc.getD (runT ne hd 0 t) false) := by
  unfold both_Or
  refine (put_ok (says := both_Or_1_p) hN V W hC hD (Mb := Mb) (fun r M => by have := M.few; omega) h256 h4).bind fun o ⟨a, b, c, d, e⟩ => Ok.pure ⟨a, b, c, d, fun t ht => ?_⟩
  rw [← or_p]
  exact e t ht
theorem xor_p : ∀ x y : Bool, both_Xor_1_p x y = (x != y) := by intro x y; cases x <;> cases y <;> rfl
theorem Xor_res (hN : 100000 ≤ N) (V : Valid p acc gd nd) (W : Valid p bcc hd ne) (hC : guard_Check N p acc gd nd = some 0) (hD : guard_Check N p bcc hd ne = some 0) {Mb : Nat} (h1 : acc.length * bcc.length + 1 ≤ Mb) (h256 : Mb ≤ 256) (h4 : Mb * two p ≤ 4096) : Ok (both_Xor N p acc gd nd p bcc hd ne) (PR N p Mb fun t => acc.getD (runT nd gd 0 t) false != bcc.getD (runT ne hd 0 t) false) := by
  unfold both_Xor
  refine (put_ok (says := both_Xor_1_p) hN V W hC hD (Mb := Mb) (fun r M => by have := M.few; omega) h256 h4).bind fun o ⟨a, b, c, d, e⟩ => Ok.pure ⟨a, b, c, d, fun t ht => ?_⟩
  rw [← xor_p]
  exact e t ht
theorem put_no {p2 e : Int} {says : Bool → Bool → Bool} (h : both_together N p acc gd nd p2 bcc hd ne = some e) (he : e ≠ 0) : both_put N p acc gd nd p2 bcc hd ne says = some ((0, [], [], []), e) := by
  unfold both_put
  rw [h, Option.bind_some, if_neg he]
theorem two_le {p : Int} (h : p ≤ 3) : two p ≤ 8 := by
  unfold two
  have : p.toNat ≤ 3 := by omega
  exact (Nat.pow_le_pow_right (by omega) this : 2 ^ p.toNat ≤ 2 ^ 3)
theorem Not_any (hN : 100000 ≤ N) (hw : ∀ x ∈ nd, x.wf) (h8 : acc.length ≤ 8) (h3 : p ≤ 3) : Ok (both_Not N p acc gd nd) fun _ => True := by
  obtain ⟨e, hC, he⟩ := guard_Check_ok (N := N) (p := p) (acc := acc) (gd := gd) (by omega) hw
  by_cases h0 : e = 0
  · subst h0
    have t3 := two_le h3
    exact (Not_res hN (he.2 rfl) hC (Mb := 9) (by omega) (by omega) (by omega)).mono fun _ _ => trivial
  · have hT : both_together N p acc gd nd p acc gd nd = some e := by
      unfold both_together
      rw [hC, Option.bind_some, if_neg h0]
    unfold both_Not
    rw [put_no hT h0]
    exact Ok.pure trivial
theorem Small_ok : Ok (law20_Small N p acc gd nd) fun b => b = true → acc.length ≤ 8 ∧ p ≤ 3 := by
  unfold law20_Small
  refine Ok.ite (fun h1 => Ok.ite (fun h2 => Ok.ite (fun _ => Ok.pure fun _ => ⟨by omega, h2⟩) fun _ => Ok.pure fun h => by cases h) fun _ => Ok.pure fun h => by cases h) fun _ => Ok.pure fun h => by cases h
theorem few_ok (hp : 0 ≤ p ∧ p ≤ 4) {ll : List Int} : ∀ (m : Nat) (t : List Nat) (i : Nat), i ≤ 1024 → 1024 - i < m → t.length = i → (∀ l ∈ t, l < two p) →
    Ok (law20_BothLogic_l2 N p ll m (t.map fun l : Nat => (l : Int)) (i : Int)) fun r => ∃ u : List Nat, r = u.map (fun l : Nat => (l : Int)) ∧ u.length ≤ 1024 ∧ ∀ l ∈ u, l < two p
  | 0, t, i, _, h, _, _ => by omega
  | m + 1, t, i, k1, k2, k3, k4 => by
    unfold law20_BothLogic_l2
    have hj : law20_BothLogic_j3 N ll (i : Int) = some (decide ((i : Int) < (ll.length : Int) ∧ (i : Int) < 1024)) := by
      unfold law20_BothLogic_j3
      by_cases c : (i : Int) < (ll.length : Int)
      · rw [if_pos c]; simp [c]
      · rw [if_neg c]; simp [c]
    rw [hj]
    simp only [Option.bind_some]
    refine Ok.ite (fun hx => ?_) fun hx => Ok.pure ⟨t, rfl, by omega, k4⟩
    have hx := of_decide_eq_true hx
    rw [Int.toNat_natCast]
    obtain ⟨l, hl2, e⟩ := mask_ok hp (ll.getD i 0)
    rw [e]
    refine Ok.ask (by unfold idx; omega) (Ok.ask hp.1 (Ok.ask (by simp; omega) (Ok.ask (by unfold in64; omega) ?_)))
    have e2 : (t.map fun l : Nat => (l : Int)) ++ [(l : Int)] = (t ++ [l]).map fun l : Nat => (l : Int) := by simp
    rw [e2, show ((i : Int) + 1) = ((i + 1 : Nat) : Int) by omega]
    refine few_ok hp m (t ++ [l]) (i + 1) (by omega) (by omega) (by rw [List.length_append, List.length_singleton]; omega) fun y hy => ?_
    rcases List.mem_append.1 hy with h | h
    · exact k4 y h
    · rw [List.mem_singleton] at h; omega
theorem l6_ok {a b c d : Au4 × Int} (h : ∀ i : Nat, i < 4 → canon_Is N (([(a.1.1, a.1.2.1, a.1.2.2.1, a.1.2.2.2), (b.1.1, b.1.2.1, b.1.2.2.1, b.1.2.2.2), (c.1.1, c.1.2.1, c.1.2.2.1, c.1.2.2.2), (d.1.1, d.1.2.1, d.1.2.2.1, d.1.2.2.2)] : List Au4).getD i (0, [], [], [])).1 (([(a.1.1, a.1.2.1, a.1.2.2.1, a.1.2.2.2), (b.1.1, b.1.2.1, b.1.2.2.1, b.1.2.2.2), (c.1.1, c.1.2.1, c.1.2.2.1, c.1.2.2.2), (d.1.1, d.1.2.1, d.1.2.2.1, d.1.2.2.2)] : List Au4).getD i (0, [], [], [])).2.1 (([(a.1.1, a.1.2.1, a.1.2.2.1, a.1.2.2.2), (b.1.1, b.1.2.1, b.1.2.2.1, b.1.2.2.2), (c.1.1, c.1.2.1, c.1.2.2.1, c.1.2.2.2), (d.1.1, d.1.2.1, d.1.2.2.1, d.1.2.2.2)] : List Au4).getD i (0, [], [], [])).2.2.1 (([(a.1.1, a.1.2.1, a.1.2.2.1, a.1.2.2.2), (b.1.1, b.1.2.1, b.1.2.2.1, b.1.2.2.2), (c.1.1, c.1.2.1, c.1.2.2.1, c.1.2.2.2), (d.1.1, d.1.2.1, d.1.2.2.1, d.1.2.2.2)] : List Au4).getD i (0, [], [], [])).2.2.2 = some (true, 0) ∧
    1 ≤ (([(a.1.1, a.1.2.1, a.1.2.2.1, a.1.2.2.2), (b.1.1, b.1.2.1, b.1.2.2.1, b.1.2.2.2), (c.1.1, c.1.2.1, c.1.2.2.1, c.1.2.2.2), (d.1.1, d.1.2.1, d.1.2.2.1, d.1.2.2.2)] : List Au4).getD i (0, [], [], [])).2.1.length ∧ (([(a.1.1, a.1.2.1, a.1.2.2.1, a.1.2.2.2), (b.1.1, b.1.2.1, b.1.2.2.1, b.1.2.2.2), (c.1.1, c.1.2.1, c.1.2.2.1, c.1.2.2.2), (d.1.1, d.1.2.1, d.1.2.2.1, d.1.2.2.2)] : List Au4).getD i (0, [], [], [])).2.1.getD 0 false = false) : ∀ (m i : Nat), i ≤ 4 → 4 - i < m → law20_BothLogic_l6 N a b c d m (i : Int) = some (.inl ()) := by
  intro m
  induction m with
  | zero => intro i _ h; omega
  | succ m ih =>
    intro i k1 k2
    unfold law20_BothLogic_l6
    by_cases hx : (i : Int) < 4
    · obtain ⟨h1, h2, h3⟩ := h i (by omega)
      have hj : law20_BothLogic_j7 N a b c d (i : Int) (true, 0) = some false := by
        unfold law20_BothLogic_j7 ask
        rw [if_pos rfl, if_pos rfl, Int.toNat_natCast, if_pos (by unfold idx; omega)]
        exact congrArg some h3
      rw [if_pos hx]
      unfold ask
      rw [if_pos (by unfold idx; omega), Int.toNat_natCast, h1, Option.bind_some, hj, Option.bind_some, if_neg (by simp), if_pos (by unfold in64; omega), show ((i : Int) + 1) = ((i + 1 : Nat) : Int) by omega]
      exact ih (i + 1) (by omega) (by omega)
    · rw [if_neg hx]
end

theorem bothLogic_true {p p2 : Int} {acc bcc : List Bool} {gd hd : List Int} {nd ne : List Nd} {ll : List Int} (hw : ∀ x ∈ nd, x.wf) (hw2 : ∀ x ∈ ne, x.wf) :
    law20_BothLogic 3000000 p acc gd nd p2 bcc hd ne ll = some true := by
  have hN : 5000 ≤ 3000000 := by omega
  have hN2 : 100000 ≤ 3000000 := by omega
  refine Ok.eq ?_
  unfold law20_BothLogic
  rw [awake20, Option.bind_some]
  have hj0 : Ok (law20_BothLogic_j0 3000000 p acc gd nd p2 bcc hd ne) fun b => b = false → (acc.length ≤ 8 ∧ p ≤ 3) ∧ bcc.length ≤ 8 ∧ p2 ≤ 3 := by
    unfold law20_BothLogic_j0
    refine Small_ok.bind fun b hb => Ok.ite (fun h => Small_ok.bind fun c hc => Ok.pure fun h2 => ⟨hb h, hc (by simpa using h2)⟩) fun _ => Ok.pure fun h => by cases h
  refine hj0.bind fun b hb => Ok.ite (fun _ => Ok.pure rfl) fun hbf => ?_
  obtain ⟨⟨hs1, hs2⟩, hs3, hs4⟩ := hb (by cases b <;> simp_all)
  obtain ⟨e, eT, hT⟩ := together_ok (N := 3000000) (p := p) (p2 := p2) (acc := acc) (gd := gd) (bcc := bcc) (hd := hd) hN hw hw2
  by_cases h0 : e = 0
  · obtain ⟨hp, V, hC, W, hD⟩ := hT h0
    subst hp
    have p0 := V.p0
    have t3 := two_le hs2
    have h8 : acc.length * bcc.length ≤ 8 * 8 := Nat.mul_le_mul hs1 hs3
    refine (Not_res hN2 V hC (Mb := 9) (by omega) (by omega) (by omega)).bind fun n hn => ?_
    refine (Not_res hN2 W hD (Mb := 9) (by omega) (by omega) (by omega)).bind fun m hm => ?_
    refine (And_res hN2 V W hC hD (Mb := 65) (by omega) (by omega) (by omega)).bind fun x hx => ?_
    refine (Or_res hN2 V W hC hD (Mb := 65) (by omega) (by omega) (by omega)).bind fun y hy => ?_
    refine (Xor_res hN2 V W hC hD (Mb := 65) (by omega) (by omega) (by omega)).bind fun z hz => ?_
    have hj1 : law20_BothLogic_j1 3000000 n m x y z = some false := by
      unfold law20_BothLogic_j1
      rw [if_pos hn.z, if_pos hm.z, if_pos hx.z, if_pos hy.z, hz.z]
      rfl
    rw [hj1, Option.bind_some, if_neg (by simp)]
    refine (few_ok ⟨p0, by omega⟩ 3000000 [] 0 (by omega) (by omega) rfl fun l hl => by cases hl).bind fun fw ⟨f, ef, f1, f2⟩ => ?_
    subst ef
    rw [accepts_ok hN V hC f2 f1, accepts_ok hN W hD f2 f1, Option.bind_some, Option.bind_some]
    have hlen : (0 < (((List.length (f.map fun l : Nat => (l : Int))) : Nat) : Int)) ↔ ¬ f = [] := by
      rw [List.length_map]
      cases f with
      | nil => simp
      | cons a f => simp
    have hj4 : law20_BothLogic_j4 3000000 n x y z (f.map fun l : Nat => (l : Int)) (acc.getD (runT nd gd 0 f) false) (bcc.getD (runT ne hd 0 f) false) = some false := by
      unfold law20_BothLogic_j4
      rw [hn.acc_ hN f2 f1, hx.acc_ hN f2 f1, hy.acc_ hN f2 f1, hz.acc_ hN f2 f1]
      simp only [Option.bind_some, hlen]
      generalize acc.getD (runT nd gd 0 f) false = P
      generalize bcc.getD (runT ne hd 0 f) false = Q
      by_cases hf : f = []
      · simp [hf]
      · simp only [hf, not_false_eq_true, if_true, if_false]
        cases P <;> cases Q <;> rfl
    rw [hj4, Option.bind_some, if_neg (by simp)]
    have hxf := hx.few
    have hnf := hn.few
    have hmf := hm.few
    have h9 : n.1.2.1.length * m.1.2.1.length ≤ 9 * 9 := Nat.mul_le_mul hnf hmf
    rw [hx.pp, hn.pp, hm.pp]
    refine (Not_res hN2 hx.can.V hx.can.chk (Mb := 66) (by omega) (by omega) (by omega)).bind fun nx hnx => ?_
    refine (Or_res hN2 hn.can.V hm.can.V hn.can.chk hm.can.chk (Mb := 82) (by omega) (by omega) (by omega)).bind fun o ho => ?_
    refine (Not_res hN2 hn.can.V hn.can.chk (Mb := 10) (by omega) (by omega) (by omega)).bind fun nn hnn => ?_
    have hj5 : law20_BothLogic_j5 3000000 (f.map fun l : Nat => (l : Int)) (acc.getD (runT nd gd 0 f) false) nx o nn = some false := by
      obtain ⟨c1, c2, c3⟩ := hnx.can.one ho.can fun t ht => by
        rw [hnx.lang t ht, ho.lang t ht]
        by_cases h : t = []
        · rw [if_pos h, if_pos h]
        · rw [if_neg h, if_neg h, hx.lang t ht, hn.lang t ht, hm.lang t ht, if_neg h, if_neg h, if_neg h, Bool.not_and]
      have Va := hnx.can.V
      have := Va.a2
      have := Va.gl
      have := Va.nl
      unfold law20_BothLogic_j5
      rw [if_pos hnx.z, if_pos ho.z, if_pos hnn.z, Same_ok hN (by omega) (by omega) (by omega), Option.bind_some, decide_eq_true ⟨hnx.pp.trans ho.pp.symm, c1, c2, c3⟩, if_pos rfl, hnn.acc_ hN f2 f1, Option.bind_some, hn.lang f f2]
      simp only [hlen]
      by_cases hf : f = []
      · simp [hf]
      · simp [hf]
    rw [hj5, Option.bind_some, if_neg (by simp)]
    have hl6 := l6_ok (N := 3000000) (a := n) (b := x) (c := y) (d := z) (fun i hi => by
      match i, hi with
      | 0, _ => exact ⟨hn.Is hN, hn.zero⟩
      | 1, _ => exact ⟨hx.Is hN, hx.zero⟩
      | 2, _ => exact ⟨hy.Is hN, hy.zero⟩
      | 3, _ => exact ⟨hz.Is hN, hz.zero⟩) 3000000 0 (by omega) (by omega)
    have hl6' : law20_BothLogic_l6 3000000 n x y z 3000000 0 = some (.inl ()) := hl6
    rw [hl6', Option.bind_some, Sum.elim_inl]
    exact Ok.pure rfl
  · refine (Not_any hN2 hw hs1 hs2).bind fun n _ => ?_
    refine (Not_any hN2 hw2 hs3 hs4).bind fun m _ => ?_
    have eA : both_And 3000000 p acc gd nd p2 bcc hd ne = some ((0, [], [], []), e) := by unfold both_And; rw [put_no eT h0, Option.bind_some]
    have eO : both_Or 3000000 p acc gd nd p2 bcc hd ne = some ((0, [], [], []), e) := by unfold both_Or; rw [put_no eT h0, Option.bind_some]
    have eX : both_Xor 3000000 p acc gd nd p2 bcc hd ne = some ((0, [], [], []), e) := by unfold both_Xor; rw [put_no eT h0, Option.bind_some]
    rw [eA, eO, eX, Option.bind_some, Option.bind_some, Option.bind_some]
    have hj1 : law20_BothLogic_j1 3000000 n m ((0, [], [], []), e) ((0, [], [], []), e) ((0, [], [], []), e) = some true := by
      unfold law20_BothLogic_j1
      by_cases c1 : n.2 = 0
      · rw [if_pos c1]
        by_cases c2 : m.2 = 0
        · rw [if_pos c2, if_neg h0]
        · rw [if_neg c2]
      · rw [if_neg c1]
    rw [hj1, Option.bind_some, if_pos rfl]
    exact Ok.pure rfl

theorem bothLogic_row (w0 : World) (p : Int) (A1 A2 A3 : Option Addr) (c1 c2 c3 : Nat) (acc : List Bool) (gd : List Int) (nd : List Nd) (p2 : Int) (B1 B2 B3 : Option Addr) (d1 d2 d3 : Nat) (bcc : List Bool) (hd : List Int) (ne : List Nd) (A4 : Option Addr) (c4 : Nat) (ll : List Int)
    (k1 : acc.length ≤ c1) (k2 : gd.length ≤ c2) (k3 : nd.length ≤ c3) (l1 : bcc.length ≤ d1) (l2 : hd.length ≤ d2) (l3 : ne.length ≤ d3) (k4 : ll.length ≤ c4)
    (C1 : C cBool w0 (Lo w0.heap.size) A1 acc) (C2 : C (cInt .i64) w0 (Lo w0.heap.size) A2 gd) (C3 : C cNode w0 (Lo w0.heap.size) A3 nd) (D1 : C cBool w0 (Lo w0.heap.size) B1 bcc) (D2 : C (cInt .i64) w0 (Lo w0.heap.size) B2 hd) (D3 : C cNode w0 (Lo w0.heap.size) B3 ne) (C4 : C (cInt .u8) w0 (Lo w0.heap.size) A4 ll) (hw : ∀ x ∈ nd, x.wf) (hw2 : ∀ x ∈ ne, x.wf) :
    Calls Try.prog 6 #[.agg #[.int .i64 p, .slice A1 acc.length c1, .slice A2 gd.length c2, .slice A3 nd.length c3], .agg #[.int .i64 p2, .slice B1 bcc.length d1, .slice B2 hd.length d2, .slice B3 ne.length d3], .slice A4 ll.length c4] w0 fun e w' => ∃ v, e = .returned v ∧ (v = .bool true ∧ Ext w0 w') :=
  (law20_BothLogic_calls A1 c1 A2 c2 A3 c3 B1 d1 B2 d2 B3 d3 A4 c4 p acc gd nd p2 bcc hd ne ll k1 k2 k3 l1 l2 l3 k4 (((((((Hp.start w0).arg C1).arg C2).arg C3).arg D1).arg D2).arg D3 |>.arg C4) (bothLogic_true hw hw2)).mono fun e w' ⟨v, he, hv, H⟩ => ⟨v, he, hv, H.chgd.own⟩
end Go.V
