/- The plain law CanonOne. No condition. -/
import Derived.Test.YtldjjbgnicknkaaBCanonOne
import Derived.Test.YtldjjbgnicknkaaCS
import Derived.Test.YtldjjbgnicknkaaV9
set_option linter.all false
set_option linter.unusedVariables false
set_option maxRecDepth 1000000
namespace Go.V
open Go Go.Proofs
theorem awake17 : law17_awake 3000000 = some true := by kernel_rfl
section
variable {N : Nat} {p : Int} {acc bcc : List Bool} {gd hd : List Int} {nd ne : List Nd}
theorem Next_ok (hN : 5000 ≤ N) (V : Valid p acc gd nd) (hC : guard_Check N p acc gd nd = some 0) {q l : Nat} (hq : q < acc.length) (hl : l < two p) : canon_Next N p acc gd nd (q : Int) (l : Int) = some ((stp nd gd q l : Int), 0) := by
  have gl := V.gl
  have a2 := V.a2
  unfold canon_Next
  rw [hC, Option.bind_some, if_pos rfl, if_neg (by omega), if_neg (by omega), Fits_ok ⟨V.p0, V.p8⟩ hl, Option.bind_some, if_pos rfl]
  unfold ask
  rw [if_pos (by unfold idx; omega), Int.toNat_natCast, stp_go hN V hq, Option.bind_some]
/-- the place of a pair -/
theorem pl_lt {n k a b : Nat} (ha : a < n) (hb : b < k) : k * a + b < n * k := by
  have h1 := Nat.mul_le_mul_left k (show a + 1 ≤ n by omega)
  rw [Nat.mul_add, Nat.mul_one, Nat.mul_comm k n] at h1
  omega
theorem pl_inj {k a b a' b' : Nat} (hb : b < k) (hb' : b' < k) (h : k * a + b = k * a' + b') : a = a' ∧ b = b' := by
  have d1 : (k * a + b) / k = a := by rw [Nat.mul_add_div (by omega), Nat.div_eq_of_lt hb, Nat.add_zero]
  have d2 : (k * a' + b') / k = a' := by rw [Nat.mul_add_div (by omega), Nat.div_eq_of_lt hb', Nat.add_zero]
  rw [h, d2] at d1
  subst d1
  exact ⟨rfl, by omega⟩
theorem pl_int {k a b : Nat} : (a : Int) * (((k : Nat) : Int)) + (b : Int) = ((k * a + b : Nat) : Int) := by
  rw [Int.natCast_add, Int.natCast_mul, Int.mul_comm]
structure PI (nd : List Nd) (gd : List Int) (ne : List Nd) (hd : List Int) (n k L : Nat) (seen : List Bool) (todo : List (Int × Int)) : Prop where
  one : 1 ≤ todo.length
  zero : todo.getD 0 (0, 0) = (0, 0)
  ent : ∀ i, i < todo.length → ∃ a b : Nat, a < n ∧ b < k ∧ todo.getD i (0, 0) = ((a : Int), (b : Int)) ∧ ∃ t : List Nat, (∀ l ∈ t, l < L) ∧ runT nd gd 0 t = a ∧ runT ne hd 0 t = b
  sl : seen.length = n * k
  seen : ∀ a b : Nat, a < n → b < k → (seen.getD (k * a + b) false = true ↔ ∃ i, i < todo.length ∧ todo.getD i (0, 0) = ((a : Int), (b : Int)))
  inj : ∀ i j, i < todo.length → j < todo.length → todo.getD i (0, 0) = todo.getD j (0, 0) → i = j
theorem PI.few {n k L : Nat} {seen : List Bool} {todo : List (Int × Int)} (I : PI nd gd ne hd n k L seen todo) : todo.length ≤ n * k := by
  refine Classical.byContradiction fun h => ?_
  obtain ⟨i, j, h1, h2, h3⟩ := pigeon (fun i => k * (todo.getD i (0, 0)).1.toNat + (todo.getD i (0, 0)).2.toNat) (n * k) fun i hi => by
    obtain ⟨a, b, ha, hb, e, _⟩ := I.ent i (by omega)
    show k * (todo.getD i (0, 0)).1.toNat + (todo.getD i (0, 0)).2.toNat < _
    rw [e]
    simp only [Int.toNat_natCast]
    exact pl_lt ha hb
  obtain ⟨a, b, ha, hb, e, _⟩ := I.ent i (by omega)
  obtain ⟨a', b', ha', hb', e', _⟩ := I.ent j (by omega)
  have h3 : k * (todo.getD i (0, 0)).1.toNat + (todo.getD i (0, 0)).2.toNat = k * (todo.getD j (0, 0)).1.toNat + (todo.getD j (0, 0)).2.toNat := h3
  rw [e, e'] at h3
  simp only [Int.toNat_natCast] at h3
  obtain ⟨q1, q2⟩ := pl_inj hb hb' h3
  have := I.inj i j (by omega) (by omega) (by rw [e, e', q1, q2])
  omega
theorem PI.new {n k L : Nat} {seen : List Bool} {todo : List (Int × Int)} (I : PI nd gd ne hd n k L seen todo) {a b x l : Nat} (hx : x < todo.length) (e : todo.getD x (0, 0) = ((a : Int), (b : Int))) (hl : l < L) (ha : stp nd gd a l < n) (hb : stp ne hd b l < k) (hs : ¬ seen.getD (k * stp nd gd a l + stp ne hd b l) false = true) :
    PI nd gd ne hd n k L (seen.set (k * stp nd gd a l + stp ne hd b l) true) (todo ++ [((stp nd gd a l : Int), (stp ne hd b l : Int))]) := by
  have old : ∀ i, i < todo.length → (todo ++ [((stp nd gd a l : Int), (stp ne hd b l : Int))]).getD i (0, 0) = todo.getD i (0, 0) := fun i hi => by rw [getD_snoc, if_neg (by omega)]
  have new : (todo ++ [((stp nd gd a l : Int), (stp ne hd b l : Int))]).getD todo.length (0, 0) = ((stp nd gd a l : Int), (stp ne hd b l : Int)) := by rw [getD_snoc, if_pos rfl]
  have hlen : (todo ++ [((stp nd gd a l : Int), (stp ne hd b l : Int))]).length = todo.length + 1 := by rw [List.length_append, List.length_singleton]
  have one := I.one
  have sl := I.sl
  have hno : ∀ i, i < todo.length → todo.getD i (0, 0) ≠ ((stp nd gd a l : Int), (stp ne hd b l : Int)) := fun i hi h => hs ((I.seen _ _ ha hb).2 ⟨i, hi, h⟩)
  refine ⟨by omega, by rw [old 0 (by omega)]; exact I.zero, fun i hi => ?_, by rw [List.length_set]; exact sl, fun a' b' ha' hb' => ?_, fun i j hi hj h => ?_⟩
  · by_cases c : i = todo.length
    · subst c
      obtain ⟨a0, b0, _, _, e0, t, t1, t2, t3⟩ := I.ent x hx
      rw [e] at e0
      have g1 : (a : Int) = a0 := congrArg Prod.fst e0
      have g2 : (b : Int) = b0 := congrArg Prod.snd e0
      have g1 : a = a0 := by omega
      have g2 : b = b0 := by omega
      subst g1; subst g2
      exact ⟨_, _, ha, hb, new, t ++ [l], fun y hy => by rcases List.mem_append.1 hy with h | h; (· exact t1 y h); (· rw [List.mem_singleton] at h; omega), by rw [runT_snoc, t2], by rw [runT_snoc, t3]⟩
    · rw [old i (by omega)]
      exact I.ent i (by omega)
  · rw [getD_set (by rw [sl]; exact pl_lt ha hb)]
    by_cases c : k * stp nd gd a l + stp ne hd b l = k * a' + b'
    · rw [if_pos c]
      obtain ⟨q1, q2⟩ := pl_inj hb hb' c
      exact ⟨fun _ => ⟨todo.length, by omega, by rw [new, q1, q2]⟩, fun _ => rfl⟩
    · rw [if_neg c, I.seen a' b' ha' hb']
      constructor
      · rintro ⟨i, hi, h⟩
        exact ⟨i, by omega, by rw [old i hi]; exact h⟩
      · rintro ⟨i, hi, h⟩
        by_cases d : i = todo.length
        · exfalso
          rw [d, new] at h
          have g1 : (stp nd gd a l : Int) = a' := congrArg Prod.fst h
          have g2 : (stp ne hd b l : Int) = b' := congrArg Prod.snd h
          refine c ?_
          rw [show stp nd gd a l = a' by omega, show stp ne hd b l = b' by omega]
        · rw [old i (by omega)] at h
          exact ⟨i, by omega, h⟩
  · by_cases c : i = todo.length <;> by_cases d : j = todo.length
    · omega
    · rw [c, new, old j (by omega)] at h
      exact absurd h.symm (hno j (by omega))
    · rw [d, new, old i (by omega)] at h
      exact absurd h (hno i (by omega))
    · rw [old i (by omega), old j (by omega)] at h
      exact I.inj i j (by omega) (by omega) h
theorem j4_ok (hp : 0 ≤ p ∧ p ≤ 8) {todo0 : List (Int × Int)} {x a b y : Nat} (e0 : todo0.getD x (0, 0) = ((a : Int), (b : Int))) : law17_CanonOne_j4 N p acc bcc todo0 (x : Int) (y : Int) = some (decide (y < two p) && (acc.getD a false == bcc.getD b false)) := by
  have sh := shl_two hp
  unfold law17_CanonOne_j4 ask
  rw [if_pos hp.1, sh.1, Int.toNat_natCast, e0]
  dsimp only
  rw [Int.toNat_natCast, Int.toNat_natCast]
  by_cases c : y < two p
  · rw [if_pos (by omega), decide_eq_true c, Bool.true_and]
  · rw [if_neg (by omega), decide_eq_false c, Bool.false_and]
theorem l3_no (hp : 0 ≤ p ∧ p ≤ 8) {todo0 : List (Int × Int)} {x a b : Nat} (e0 : todo0.getD x (0, 0) = ((a : Int), (b : Int))) (hab : (acc.getD a false == bcc.getD b false) = false) (m : Nat) (seen : List Bool) (todo : List (Int × Int)) : law17_CanonOne_l3 N p acc gd nd p bcc hd ne todo0 (x : Int) (m + 1) seen todo ((0 : Nat) : Int) = some (.inl (seen, todo)) := by
  unfold law17_CanonOne_l3
  rw [j4_ok hp e0, hab, Bool.and_false, Option.bind_some, if_neg Bool.false_ne_true]
theorem j2_ok {todo : List (Int × Int)} {same : Bool} {x : Nat} : law17_CanonOne_j2 N todo same (x : Int) = some (decide (x < todo.length) && same) := by
  unfold law17_CanonOne_j2
  by_cases c : x < todo.length
  · rw [if_pos (by omega), decide_eq_true c, Bool.true_and]
  · rw [if_neg (by omega), decide_eq_false c, Bool.false_and]
variable (hN : 5000 ≤ N) (V : Valid p acc gd nd) (hC : guard_Check N p acc gd nd = some 0) (W : Valid p bcc hd ne) (hD : guard_Check N p bcc hd ne = some 0)
include hN V hC W hD
theorem l3_ok {todo0 : List (Int × Int)} {x a b : Nat} (ha : a < acc.length) (hb : b < bcc.length) (e0 : todo0.getD x (0, 0) = ((a : Int), (b : Int))) (hab : acc.getD a false = bcc.getD b false) : ∀ (m : Nat) (seen : List Bool) (todo : List (Int × Int)) (y : Nat), y ≤ two p → two p - y < m → x < todo.length → todo.getD x (0, 0) = ((a : Int), (b : Int)) → PI nd gd ne hd acc.length bcc.length (two p) seen todo → (∀ l, l < y → ∃ j, j < todo.length ∧ todo.getD j (0, 0) = ((stp nd gd a l : Int), (stp ne hd b l : Int))) →
    Ok (law17_CanonOne_l3 N p acc gd nd p bcc hd ne todo0 (x : Int) m seen todo (y : Int)) fun r => ∃ seen' todo', r = .inl (seen', todo') ∧ PI nd gd ne hd acc.length bcc.length (two p) seen' todo' ∧ todo.length ≤ todo'.length ∧ (∀ i, i < todo.length → todo'.getD i (0, 0) = todo.getD i (0, 0)) ∧ ∀ l, l < two p → ∃ j, j < todo'.length ∧ todo'.getD j (0, 0) = ((stp nd gd a l : Int), (stp ne hd b l : Int)) := by
  intro m
  induction m with
  | zero => intro seen todo y _ h; omega
  | succ m ih =>
    intro seen todo y k1 k2 k3 k4 I hd2
    have p0 := V.p0
    have a2 := V.a2
    have b2 := W.a2
    have few := I.few
    have hnn : acc.length * bcc.length ≤ 65536 := Nat.mul_le_mul a2 b2
    have sh := shl_two ⟨V.p0, V.p8⟩
    have hj4 : law17_CanonOne_j4 N p acc bcc todo0 (x : Int) (y : Int) = some (decide (y < two p)) := by
      have hb2 : (acc.getD a false == bcc.getD b false) = true := by rw [hab]; simp
      rw [j4_ok ⟨V.p0, V.p8⟩ e0, hb2, Bool.and_true]
    unfold law17_CanonOne_l3
    rw [hj4, Option.bind_some]
    refine Ok.ite (fun hy => ?_) fun hy => Ok.pure ⟨seen, todo, rfl, I, Nat.le_refl _, fun i hi => rfl, fun l hl => hd2 l (by have : ¬ y < two p := fun h => hy (decide_eq_true h); omega)⟩
    have hy' : y < two p := of_decide_eq_true hy
    have h1 := (stp_eq V ha y).2
    have h2 := (stp_eq W hb y).2
    rw [Int.toNat_natCast, e0]
    dsimp only
    rw [show IntKind.u8.wrap (y : Int) = (y : Int) from wrap_u8 (by omega) (by omega), Next_ok hN V hC ha hy', Next_ok hN W hD hb hy', Option.bind_some, Option.bind_some]
    have hj5 : law17_CanonOne_j5 N acc bcc ((stp nd gd a y : Int), 0) ((stp ne hd b y : Int), 0) = some false := by
      unfold law17_CanonOne_j5
      dsimp only
      rw [if_pos rfl, if_pos rfl, if_neg (by omega), if_neg (by omega), if_neg (by omega), decide_eq_false (by omega)]
    rw [hj5, Option.bind_some, if_neg (by simp)]
    have hp := pl_lt h1 h2
    have hmul : ((stp nd gd a y : Nat) : Int) * (((List.length bcc) : Nat) : Int) = ((bcc.length * stp nd gd a y : Nat) : Int) := by rw [Int.natCast_mul, Int.mul_comm]
    have sl := I.sl
    dsimp only
    rw [pl_int, hmul]
    refine Ok.ask (by unfold in64; omega) (Ok.ask (by unfold in64; omega) (Ok.ask (by unfold idx; omega) ?_))
    have hj6 : law17_CanonOne_j6 N bcc seen todo ((stp nd gd a y : Int), 0) ((stp ne hd b y : Int), 0) = some (if seen.getD (bcc.length * stp nd gd a y + stp ne hd b y) false = true then (seen, todo) else (seen.set (bcc.length * stp nd gd a y + stp ne hd b y) true, todo ++ [((stp nd gd a y : Int), (stp ne hd b y : Int))])) := by
      unfold law17_CanonOne_j6 ask
      dsimp only
      rw [pl_int, Int.toNat_natCast]
      by_cases c : seen.getD (bcc.length * stp nd gd a y + stp ne hd b y) false = true
      · rw [if_pos c, if_pos c]
      · rw [if_neg c, if_neg c, if_pos (by simp; omega)]
    rw [hj6, Option.bind_some]
    refine Ok.ask (by unfold in64; omega) ?_
    rw [show ((y : Int) + 1) = ((y + 1 : Nat) : Int) by omega]
    by_cases c : seen.getD (bcc.length * stp nd gd a y + stp ne hd b y) false = true
    · rw [if_pos c]
      refine ih seen todo (y + 1) (by omega) (by omega) k3 k4 I fun l hl => ?_
      by_cases d : l = y
      · subst d
        exact (I.seen _ _ h1 h2).1 c
      · exact hd2 l (by omega)
    · rw [if_neg c]
      have J := I.new k3 k4 hy' h1 h2 c
      have hlen : (todo ++ [((stp nd gd a y : Int), (stp ne hd b y : Int))]).length = todo.length + 1 := by rw [List.length_append, List.length_singleton]
      have old : ∀ i, i < todo.length → (todo ++ [((stp nd gd a y : Int), (stp ne hd b y : Int))]).getD i (0, 0) = todo.getD i (0, 0) := fun i hi => by rw [getD_snoc, if_neg (by omega)]
      refine (ih _ _ (y + 1) (by omega) (by omega) (by show x < (todo ++ _).length; omega) (by show (todo ++ _).getD x _ = _; rw [old x k3]; exact k4) J fun l hl => ?_).mono fun r ⟨s', t', g1, g2, g3, g4, g5⟩ => ⟨s', t', g1, g2, by have g3 : (todo ++ [((stp nd gd a y : Int), (stp ne hd b y : Int))]).length ≤ t'.length := g3; omega, fun i hi => ?_, g5⟩
      · show ∃ j, j < (todo ++ _).length ∧ (todo ++ _).getD j _ = _
        by_cases d : l = y
        · subst d
          exact ⟨todo.length, by omega, by rw [getD_snoc, if_pos rfl]⟩
        · obtain ⟨j, hj, e⟩ := hd2 l (by omega)
          exact ⟨j, by omega, by rw [old j hj]; exact e⟩
      · have := g4 i (by show i < (todo ++ _).length; omega)
        rw [this]
        exact old i hi
theorem l1_ok : ∀ (m : Nat) (seen : List Bool) (todo : List (Int × Int)) (same : Bool) (x : Nat), x ≤ todo.length → acc.length * bcc.length - x < m → PI nd gd ne hd acc.length bcc.length (two p) seen todo →
    (same = true → ∀ i, i < x → ∀ a b : Nat, todo.getD i (0, 0) = ((a : Int), (b : Int)) → acc.getD a false = bcc.getD b false ∧ ∀ l, l < two p → ∃ j, j < todo.length ∧ todo.getD j (0, 0) = ((stp nd gd a l : Int), (stp ne hd b l : Int))) →
    (same = false → ∃ t : List Nat, (∀ l ∈ t, l < two p) ∧ acc.getD (runT nd gd 0 t) false ≠ bcc.getD (runT ne hd 0 t) false) →
    Ok (law17_CanonOne_l1 N p acc gd nd p bcc hd ne m seen todo same (x : Int)) fun r => ∃ s, r = .inl s ∧ (s = true → ∀ t : List Nat, (∀ l ∈ t, l < two p) → acc.getD (runT nd gd 0 t) false = bcc.getD (runT ne hd 0 t) false) ∧ (s = false → ∃ t : List Nat, (∀ l ∈ t, l < two p) ∧ acc.getD (runT nd gd 0 t) false ≠ bcc.getD (runT ne hd 0 t) false) := by
  intro m
  induction m with
  | zero => intro seen todo same x _ h; omega
  | succ m ih =>
    intro seen todo same x k1 k2 I h1 h2
    have a1 := V.a1
    have b1 := W.a1
    have a2 := V.a2
    have b2 := W.a2
    have few := I.few
    have one := I.one
    have hnn : acc.length * bcc.length ≤ 65536 := Nat.mul_le_mul a2 b2
    have sh := shl_two ⟨V.p0, V.p8⟩
    unfold law17_CanonOne_l1
    rw [j2_ok, Option.bind_some]
    refine Ok.ite (fun hx => ?_) fun hx => Ok.pure ⟨same, rfl, fun hs => ?_, h2⟩
    · have hx := (Bool.and_eq_true _ _).mp hx
      have hx' : x < todo.length := of_decide_eq_true hx.1
      obtain ⟨a, b, ha, hb, e, t, t1, t2, t3⟩ := I.ent x hx'
      rw [Int.toNat_natCast, e]
      dsimp only
      rw [Int.toNat_natCast, Int.toNat_natCast]
      refine Ok.ask (by unfold idx; omega) (Ok.ask (by unfold idx; omega) (Ok.ask (by unfold idx; omega) ?_))
      by_cases hab : acc.getD a false = bcc.getD b false
      · refine (l3_ok hN V hC W hD ha hb e hab N seen todo 0 (by omega) (by omega) hx' e I fun l hl => by omega).bind fun r ⟨s', t', g1, g2, g3, g4, g5⟩ => ?_
        subst g1
        rw [Sum.elim_inl]
        refine Ok.ask (by unfold in64; omega) ?_
        rw [show ((x : Int) + 1) = ((x + 1 : Nat) : Int) by omega]
        have hb2 : (acc.getD a false == bcc.getD b false) = true := by rw [hab]; simp
        rw [hb2]
        refine ih s' t' true (x + 1) (by omega) (by omega) g2 (fun _ i hi a' b' e' => ?_) fun h => by cases h
        by_cases d : i = x
        · subst d
          rw [g4 i hx', e] at e'
          have q1 : (a : Int) = a' := congrArg Prod.fst e'
          have q2 : (b : Int) = b' := congrArg Prod.snd e'
          have q1 : a = a' := by omega
          have q2 : b = b' := by omega
          subst q1; subst q2
          exact ⟨hab, g5⟩
        · rw [g4 i (by omega)] at e'
          obtain ⟨c1, c2⟩ := h1 hx.2 i (by omega) a' b' e'
          refine ⟨c1, fun l hl => ?_⟩
          obtain ⟨j, hj, e2⟩ := c2 l hl
          exact ⟨j, by omega, by rw [g4 j hj]; exact e2⟩
      · have hb2 : (acc.getD a false == bcc.getD b false) = false := by
          exact beq_false_of_ne hab
        have hl3 : law17_CanonOne_l3 N p acc gd nd p bcc hd ne todo (x : Int) N seen todo 0 = some (.inl (seen, todo)) := by
          have h := l3_no (N := N) (gd := gd) (nd := nd) (hd := hd) (ne := ne) ⟨V.p0, V.p8⟩ e hb2 (N - 1) seen todo
          rw [show N - 1 + 1 = N by omega] at h
          exact h
        rw [hl3, Option.bind_some, Sum.elim_inl]
        refine Ok.ask (by unfold in64; omega) ?_
        rw [show ((x : Int) + 1) = ((x + 1 : Nat) : Int) by omega, hb2]
        refine ih seen todo false (x + 1) (by omega) (by omega) I (fun h => by cases h) fun _ => ⟨t, t1, ?_⟩
        rw [t2, t3]
        exact hab
    · have hxe : x = todo.length := by
        rw [hs] at hx
        have : ¬ x < todo.length := fun h => hx (by rw [decide_eq_true h]; rfl)
        omega
      have all : ∀ (t : List Nat), (∀ l ∈ t, l < two p) → ∀ a b : Nat, (∃ i, i < todo.length ∧ todo.getD i (0, 0) = ((a : Int), (b : Int))) → acc.getD (runT nd gd a t) false = bcc.getD (runT ne hd b t) false := fun t => by
        induction t with
        | nil => intro _ a b ⟨i, hi, e⟩; exact (h1 hs i (by omega) a b e).1
        | cons l t ih2 =>
          intro ht a b ⟨i, hi, e⟩
          exact ih2 (fun y hy => ht y (List.mem_cons_of_mem _ hy)) _ _ ((h1 hs i (by omega) a b e).2 l (ht l List.mem_cons_self))
      exact fun t ht => all t ht 0 0 ⟨0, one, I.zero⟩
end

theorem canonOne_true {p p2 : Int} {acc bcc : List Bool} {gd hd : List Int} {nd ne : List Nd} (hw : ∀ x ∈ nd, x.wf) (hw2 : ∀ x ∈ ne, x.wf) :
    law17_CanonOne 3000000 p acc gd nd p2 bcc hd ne = some true := by
  have hN : 5000 ≤ 3000000 := by omega
  refine Ok.eq ?_
  unfold law17_CanonOne
  rw [awake17, Option.bind_some]
  obtain ⟨e, hC, he⟩ := guard_Check_ok (N := 3000000) (p := p) (acc := acc) (gd := gd) hN hw
  obtain ⟨f, hD, hf⟩ := guard_Check_ok (N := 3000000) (p := p2) (acc := bcc) (gd := hd) hN hw2
  have hS : ∀ (p : Int) (acc : List Bool) (gd : List Int) (nd : List Nd), ∃ b, law16_Small 3000000 p acc gd nd = some b := fun p acc gd nd => by
    have : Ok (law16_Small 3000000 p acc gd nd) fun _ => True := by
      unfold law16_Small
      repeat' (first | exact Ok.pure trivial | refine Ok.ite (fun _ => ?_) fun _ => ?_)
    obtain ⟨b, e, _⟩ := this
    exact ⟨b, e⟩
  obtain ⟨sa, ea⟩ := hS p acc gd nd
  obtain ⟨sb, eb⟩ := hS p2 bcc hd ne
  have m1 : Ok (canon_Min 3000000 p acc gd nd) fun r => (r.2 = 0 → Valid p acc gd nd ∧ guard_Check 3000000 p acc gd nd = some 0 ∧ r.1.1 = p ∧ MinOf 3000000 p acc gd nd r.1.2.1 r.1.2.2.1 r.1.2.2.2) := by
    by_cases h0 : e = 0
    · subst h0
      exact (Min_ok hN (he.2 rfl) hC).mono fun r ⟨r1, r2, r3⟩ _ => ⟨he.2 rfl, hC, r2, r3⟩
    · rw [Min_no hC h0]
      exact Ok.pure fun h => absurd h h0
  have m2 : Ok (canon_Min 3000000 p2 bcc hd ne) fun r => (r.2 = 0 → Valid p2 bcc hd ne ∧ guard_Check 3000000 p2 bcc hd ne = some 0 ∧ r.1.1 = p2 ∧ MinOf 3000000 p2 bcc hd ne r.1.2.1 r.1.2.2.1 r.1.2.2.2) := by
    by_cases h0 : f = 0
    · subst h0
      exact (Min_ok hN (hf.2 rfl) hD).mono fun r ⟨r1, r2, r3⟩ _ => ⟨hf.2 rfl, hD, r2, r3⟩
    · rw [Min_no hD h0]
      exact Ok.pure fun h => absurd h h0
  refine m1.bind fun r M1 => m2.bind fun r' M2 => ?_
  obtain ⟨⟨pa, ra, rg, s⟩, z⟩ := r
  obtain ⟨⟨pb, rb, rh, u⟩, z'⟩ := r'
  dsimp only at M1 M2
  have hj0 : Ok (law17_CanonOne_j0 3000000 p acc gd nd p2 bcc hd ne ((pa, ra, rg, s), z) ((pb, rb, rh, u), z')) fun b => b = false → z = 0 ∧ z' = 0 ∧ p = p2 := by
    unfold law17_CanonOne_j0
    rw [ea, eb]
    simp only [Option.bind_some]
    refine Ok.ite (fun _ => Ok.ite (fun _ => Ok.ite (fun h1 => Ok.ite (fun h2 => Ok.pure fun h3 => ⟨h1, h2, by simpa using h3⟩) fun _ => Ok.pure fun h => by cases h) fun _ => Ok.pure fun h => by cases h) fun _ => Ok.pure fun h => by cases h) fun _ => Ok.pure fun h => by cases h
  refine hj0.bind fun b hb => ?_
  refine Ok.ite (fun _ => Ok.pure rfl) fun hbf => ?_
  obtain ⟨z1, z2, hp⟩ := hb (by cases b <;> simp_all)
  subst z1; subst z2; subst hp
  obtain ⟨V, hC, q1, M⟩ := M1 rfl
  obtain ⟨W, hD, q2, M2⟩ := M2 rfl
  subst q1; subst q2
  have a1 := V.a1
  have b1 := W.a1
  have a2 := V.a2
  have b2 := W.a2
  have hnn : acc.length * bcc.length ≤ 65536 := Nat.mul_le_mul a2 b2
  have hpos : 1 ≤ acc.length * bcc.length := Nat.mul_pos a1 b1
  have hmul : (((List.length acc) : Nat) : Int) * (((List.length bcc) : Nat) : Int) = ((acc.length * bcc.length : Nat) : Int) := by rw [Int.natCast_mul]
  rw [hmul]
  have e0 : Int.toNat (0 : Int) = 0 := rfl
  rw [Int.toNat_natCast, e0]
  refine Ok.ask (by unfold in64; omega) (Ok.ask (by omega) (Ok.ask (by unfold idx; rw [List.length_replicate]; omega) ?_))
  have start : PI nd gd ne hd acc.length bcc.length (two pb) (List.set (List.replicate (acc.length * bcc.length) false) 0 true) [((0 : Int), (0 : Int))] := by
    refine ⟨by simp, rfl, fun i hi => ?_, by rw [List.length_set, List.length_replicate], fun a b ha hb => ?_, fun i j hi hj _ => ?_⟩
    · have : i = 0 := by simpa using hi
      subst this
      exact ⟨0, 0, by omega, by omega, rfl, [], fun l hl => (by cases hl), rfl, rfl⟩
    · rw [getD_set (by rw [List.length_replicate]; omega), getD_rep]
      by_cases c : 0 = bcc.length * a + b
      · rw [if_pos c]
        have hb0 : b = 0 := by omega
        have ha0 : a = 0 := by
          have : bcc.length * a = 0 := by omega
          rcases Nat.mul_eq_zero.1 this with h | h <;> omega
        subst hb0; subst ha0
        exact ⟨fun _ => ⟨0, by simp, rfl⟩, fun _ => rfl⟩
      · rw [if_neg c]
        refine ⟨fun h => (by cases h), fun ⟨i, hi, e⟩ => absurd ?_ c⟩
        have : i = 0 := by simpa using hi
        subst this
        have g1 : (0 : Int) = a := congrArg Prod.fst e
        have g2 : (0 : Int) = b := congrArg Prod.snd e
        have g1 : a = 0 := by omega
        have g2 : b = 0 := by omega
        rw [g1, g2]; simp
    · have : i = 0 := by simpa using hi
      have : j = 0 := by simpa using hj
      omega
  refine (l1_ok hN V hC W hD 3000000 _ _ true 0 (by omega) (by omega) start (fun _ i hi => by omega) fun h => by cases h).bind fun r ⟨sm, e, g1, g2⟩ => ?_
  subst e
  simp only [Sum.elim_inl]
  have Va := M.V
  have := Va.a2
  have := Va.gl
  have := Va.nl
  have hj7 : law17_CanonOne_j7 3000000 true ((pb, ra, rg, s), 0) ((pb, rb, rh, u), 0) sm = some true := by
    unfold law17_CanonOne_j7
    dsimp only
    rw [if_pos rfl, Same_ok hN (by omega) (by omega) (by omega), Option.bind_some]
    cases sm with
    | true =>
      obtain ⟨c1, c2, c3⟩ := M.one M2 (g1 rfl)
      rw [decide_eq_true ⟨rfl, c1, c2, c3⟩]
      rfl
    | false =>
      rw [decide_eq_false]
      · rfl
      · rintro ⟨_, c1, c2, c3⟩
        obtain ⟨t, t1, t2⟩ := g2 rfl
        refine t2 ?_
        rw [M.lang t t1, M2.lang t t1, c1, c2, c3]
  rw [hj7]
  exact Ok.pure rfl

theorem canonOne_row (w0 : World) (p : Int) (A1 A2 A3 : Option Addr) (c1 c2 c3 : Nat) (acc : List Bool) (gd : List Int) (nd : List Nd) (p2 : Int) (B1 B2 B3 : Option Addr) (d1 d2 d3 : Nat) (bcc : List Bool) (hd : List Int) (ne : List Nd)
    (k1 : acc.length ≤ c1) (k2 : gd.length ≤ c2) (k3 : nd.length ≤ c3) (l1 : bcc.length ≤ d1) (l2 : hd.length ≤ d2) (l3 : ne.length ≤ d3)
    (C1 : C cBool w0 (Lo w0.heap.size) A1 acc) (C2 : C (cInt .i64) w0 (Lo w0.heap.size) A2 gd) (C3 : C cNode w0 (Lo w0.heap.size) A3 nd) (D1 : C cBool w0 (Lo w0.heap.size) B1 bcc) (D2 : C (cInt .i64) w0 (Lo w0.heap.size) B2 hd) (D3 : C cNode w0 (Lo w0.heap.size) B3 ne) (hw : ∀ x ∈ nd, x.wf) (hw2 : ∀ x ∈ ne, x.wf) :
    Calls Try.prog 5 #[.agg #[.int .i64 p, .slice A1 acc.length c1, .slice A2 gd.length c2, .slice A3 nd.length c3], .agg #[.int .i64 p2, .slice B1 bcc.length d1, .slice B2 hd.length d2, .slice B3 ne.length d3]] w0 fun e w' => ∃ v, e = .returned v ∧ (v = .bool true ∧ Ext w0 w') :=
  (law17_CanonOne_calls A1 c1 A2 c2 A3 c3 B1 d1 B2 d2 B3 d3 p acc gd nd p2 bcc hd ne k1 k2 k3 l1 l2 l3 ((((((Hp.start w0).arg C1).arg C2).arg C3).arg D1).arg D2 |>.arg D3) (canonOne_true hw hw2)).mono fun e w' ⟨v, he, hv, H⟩ => ⟨v, he, hv, H.chgd.own⟩
end Go.V
