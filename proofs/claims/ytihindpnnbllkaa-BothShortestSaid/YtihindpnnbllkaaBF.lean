/- Plain theory: the first of the pairs of which something holds. No program. -/
import Derived.Test.YtihindpnnbllkaaBM
set_option linter.all false
set_option linter.unusedVariables false
set_option maxRecDepth 100000
namespace Go.V
open Go
/-! ### lists, the other way round -/
theorem rev_getD {xs : List Int} {k : Nat} (h : k < xs.length) : xs.reverse.getD k 0 = xs.getD (xs.length - 1 - k) 0 := by
  rw [List.getD_eq_getElem?_getD, List.getD_eq_getElem?_getD, List.getElem?_reverse h]
theorem Reverse_l0_ok {N : Nat} {xs : List Int} (hl : xs.length ≤ 1000000000) : ∀ (m : Nat) (s : List Int) (i : Nat), (i : Int) ≤ xs.length → (xs.length : Int) + 1 - 2 * i < m → 2 * i ≤ xs.length + 1 → s.length = xs.length → (∀ k, k < xs.length → s.getD k 0 = if k < i ∨ xs.length - 1 - i < k then xs.getD (xs.length - 1 - k) 0 else xs.getD k 0) →
    slices_Reverse_api_Letter_api_Letter_l0 N m s (i : Int) ((xs.length : Int) - 1 - i) = some xs.reverse
  | 0, s, i, _, h, h2, hs, hk => by
    omega
  | m + 1, s, i, k0, k1, k2, hs, hk => by
    unfold slices_Reverse_api_Letter_api_Letter_l0
    by_cases c : (i : Int) < (xs.length : Int) - 1 - i
    · rw [if_pos c]
      have e1 : ((xs.length : Int) - 1 - i).toNat = xs.length - 1 - i := by omega
      unfold ask
      rw [if_pos (by unfold idx; omega), if_pos (by unfold idx; omega), if_pos (by unfold idx; simp; omega), if_pos (by unfold in64; omega), if_pos (by unfold in64; omega)]
      rw [Int.toNat_natCast, e1, show ((i : Int) + 1) = ((i + 1 : Nat) : Int) by omega, show ((xs.length : Int) - 1 - (i : Int) - 1) = (xs.length : Int) - 1 - ((i + 1 : Nat) : Int) by omega]
      refine Reverse_l0_ok hl m _ (i + 1) (by omega) (by omega) (by omega) (by simpa using hs) fun k hk2 => ?_
      rw [getD_set (by simp; omega), getD_set (by omega)]
      have a := hk i (by omega)
      rw [if_neg (by omega)] at a
      have b := hk (xs.length - 1 - i) (by omega)
      rw [if_neg (by omega)] at b
      by_cases c1 : xs.length - 1 - i = k
      · rw [if_pos c1, if_pos (by omega), a]
        congr 1; omega
      · rw [if_neg c1]
        by_cases c2 : i = k
        · rw [if_pos c2, if_pos (by omega), b]
          congr 1; omega
        · rw [if_neg c2, hk k hk2]
          by_cases c3 : k < i ∨ xs.length - 1 - i < k
          · rw [if_pos c3, if_pos (by omega)]
          · rw [if_neg c3, if_neg (by omega)]
    · rw [if_neg c]
      congr 1
      refine ext_getD 0 (by simp [hs]) fun k hk2 => ?_
      rw [rev_getD (by omega), hk k (by omega)]
      by_cases c3 : k < i ∨ xs.length - 1 - i < k
      · rw [if_pos c3]
      · rw [if_neg c3]
        congr 1; omega
theorem Reverse_ok {N : Nat} {xs : List Int} (hN : 5000 ≤ N) (hl : xs.length ≤ N - 100) (h2 : xs.length ≤ 1000000000) : slices_Reverse_api_Letter_api_Letter N xs = some xs.reverse := by
  unfold slices_Reverse_api_Letter_api_Letter ask
  rw [if_pos (by unfold in64; omega)]
  have := Reverse_l0_ok (N := N) h2 N xs 0 (by omega) (by omega) (by omega) rfl fun k hk => by rw [if_neg (by omega)]
  rw [show ((xs.length : Int) - 1 - ((0 : Nat) : Int)) = (xs.length : Int) - 1 by omega] at this
  have e : slices_Reverse_api_Letter_api_Letter_l0 N N xs 0 ((xs.length : Int) - 1) = some xs.reverse := this
  rw [e]
  rfl


/-! ### letters -/
theorem and_small (x : Int) (m : Nat) (hm : m ≤ 255) : ∃ l : Nat, l ≤ m ∧ andV .u8 x (m : Int) = (l : Int) := by
  refine ⟨(BitVec.ofInt 8 x &&& BitVec.ofInt 8 (m : Int)).toNat, ?_, ?_⟩
  · have e : (BitVec.ofInt 8 (m : Int)).toNat = m := by simp; omega
    rw [BitVec.toNat_and, e]
    exact Nat.and_le_right
  · have h : (BitVec.ofInt 8 x &&& BitVec.ofInt 8 (m : Int)).toNat < 256 := (BitVec.ofInt 8 x &&& BitVec.ofInt 8 (m : Int)).isLt
    show IntKind.u8.wrap ((BitVec.ofInt 8 x &&& BitVec.ofInt 8 (m : Int)).toNat : Int) = _
    exact wrap_u8 (by omega) (by omega)
theorem mask_ok {p : Int} (hp : 0 ≤ p ∧ p ≤ 4) (x : Int) : ∃ l : Nat, l < two p ∧ andV .u8 x (IntKind.u8.wrap (shlV .u8 1 p - 1)) = (l : Int) := by
  have key : ∀ m : Nat, m ≤ 255 → IntKind.u8.wrap (shlV .u8 1 p - 1) = (m : Int) → m + 1 = two p → ∃ l : Nat, l < two p ∧ andV .u8 x (IntKind.u8.wrap (shlV .u8 1 p - 1)) = (l : Int) := fun m h1 h2 h3 => by
    obtain ⟨l, h4, h5⟩ := and_small x m h1
    exact ⟨l, by omega, by rw [h2]; exact h5⟩
  obtain ⟨c, rfl⟩ := Int.eq_ofNat_of_zero_le hp.1
  have hc : c ≤ 4 := by omega
  match c, hc with
  | 0, _ => exact key 0 (by omega) (by decide) (by decide)
  | 1, _ => exact key 1 (by omega) (by decide) (by decide)
  | 2, _ => exact key 3 (by omega) (by decide) (by decide)
  | 3, _ => exact key 7 (by omega) (by decide) (by decide)
  | 4, _ => exact key 15 (by omega) (by decide) (by decide)

section
variable {N : Nat} {p : Int} {acc bcc : List Bool} {gd hd : List Int} {nd ne : List Nd} {n k L : Nat} {r : MetR}
theorem Met.dp_le (M : Met nd gd ne hd n k L r) : ∀ j, j < r.1.length → dp r j ≤ j := by
  intro j
  induction j using Nat.strongRecOn with
  | _ j ih =>
    intro hj
    by_cases h0 : j = 0
    · subst h0; exact Nat.le_refl _
    · obtain ⟨i, l, q1, q2, q3, q4, q5, q6⟩ := M.dp_step (j := j) (by omega) hj
      have := ih i q3 (by omega)
      omega
theorem first1_ok (M : Met nd gd ne hd n k L r) (hM : r.1.length ≤ 70000) : ∀ (m i : Nat) (t : List Int), i < r.1.length → i < m → t.length + i ≤ 100000 →
    Ok (both_first_l1 N r m (i : Int) t) fun o => ∃ T : List Nat, (∀ l ∈ T, l < L) ∧ T.length = dp r i ∧ runR (mR r) 0 T = i ∧ o = t ++ (T.map fun l : Nat => (l : Int)).reverse := by
  intro m
  induction m with
  | zero => intro i t _ h; omega
  | succ m ih =>
    intro i t hi k1 k2
    obtain ⟨at_, I⟩ := M.I
    have lf := I.lf
    have lb := I.lb
    unfold both_first_l1
    rw [Int.toNat_natCast]
    refine Ok.ask (by unfold idx; omega) ?_
    by_cases h0 : i = 0
    · subst h0
      rw [I.f0, if_neg (by omega)]
      exact Ok.pure ⟨[], fun l hl => (by cases hl), rfl, rfl, by simp⟩
    · obtain ⟨j, l, q1, q2, q3, q4, q5, q6⟩ := M.dp_step (j := i) (by omega) hi
      rw [q1, q2, if_pos (by omega)]
      refine Ok.ask (by unfold idx; omega) (Ok.ask (by simp; omega) ?_)
      refine (ih j (t ++ [(l : Int)]) (by omega) (by omega) (by rw [List.length_append, List.length_singleton]; omega)).mono fun o ⟨T, t1, t2, t3, t4⟩ => ⟨T ++ [l], fun x hx => ?_, by rw [List.length_append, List.length_singleton, t2, q6], ?_, ?_⟩
      · rcases List.mem_append.1 hx with h | h
        · exact t1 x h
        · rw [List.mem_singleton] at h; omega
      · unfold runR at t3 ⊢
        rw [List.foldl_append, t3]
        exact q5
      · rw [t4, List.map_append, List.reverse_append]
        simp
/-- what is said of a place -/
def sayAt (says : Bool → Bool → Bool) (acc bcc : List Bool) (r : MetR) (i : Nat) : Bool := says (acc.getD (r.1.getD i (0, 0)).1.toNat false) (bcc.getD (r.1.getD i (0, 0)).2.toNat false)
theorem first0_ok {says : Bool → Bool → Bool} (hN : 200000 ≤ N) (M : Met nd gd ne hd acc.length bcc.length L r) (hM : r.1.length ≤ 70000) : ∀ (m x : Nat), x ≤ r.1.length → r.1.length - x < m → (∀ i, i < x → sayAt says acc bcc r i = false) →
    Ok (both_first_l0 N acc bcc says r m (x : Int)) fun o => (o = .inl () ∧ ∀ i, i < r.1.length → sayAt says acc bcc r i = false) ∨ ∃ (i : Nat) (T : List Nat), i < r.1.length ∧ sayAt says acc bcc r i = true ∧ (∀ j, j < i → sayAt says acc bcc r j = false) ∧ (∀ l ∈ T, l < L) ∧ T.length = dp r i ∧ runR (mR r) 0 T = i ∧ o = .inr (T.map fun l : Nat => (l : Int), true) := by
  intro m
  induction m with
  | zero => intro x _ h; omega
  | succ m ih =>
    intro x k1 k2 k3
    obtain ⟨at_, I⟩ := M.I
    unfold both_first_l0
    refine Ok.ite (fun hx => ?_) fun hx => Ok.pure (.inl ⟨rfl, fun i hi => k3 i (by omega)⟩)
    have hx' : x < r.1.length := by omega
    obtain ⟨a, b, ha, hb, e⟩ := I.ent x hx'
    rw [Int.toNat_natCast]
    refine Ok.ask (by unfold idx; omega) (Ok.ask (by rw [e]; unfold idx; dsimp only; omega) (Ok.ask (by rw [e]; unfold idx; dsimp only; omega) (Ok.ite (fun h => ?_) fun h => ?_)))
    · refine (first1_ok (N := N) M hM N x [] hx' (by omega) (by simp; omega)).bind fun o ⟨T, t1, t2, t3, t4⟩ => ?_
      have hd2 := M.dp_le x hx'
      rw [t4, List.nil_append, Reverse_ok (by omega) (by simp; omega) (by simp; omega), Option.bind_some, List.reverse_reverse]
      exact Ok.pure (.inr ⟨x, T, hx', h, k3, t1, t2, t3, rfl⟩)
    · refine Ok.ask (by unfold in64; omega) ?_
      rw [show ((x : Int) + 1) = ((x + 1 : Nat) : Int) by omega]
      refine ih (x + 1) (by omega) (by omega) fun i hi => ?_
      by_cases c : i = x
      · subst c
        exact Bool.eq_false_iff.2 h
      · exact k3 i (by omega)
theorem Met.say (M : Met nd gd ne hd acc.length bcc.length L r) (says : Bool → Bool → Bool) (t : List Nat) (ht : ∀ l ∈ t, l < L) : sayAt says acc bcc r (runR (mR r) 0 t) = says (acc.getD (runT nd gd 0 t) false) (bcc.getD (runT ne hd 0 t) false) := by
  unfold sayAt
  rw [(M.run0 t ht).2]
  simp only [Int.toNat_natCast]
/-- the first, shortest trace behind which something holds of what both accept -/
theorem first_ok {says : Bool → Bool → Bool} (hN : 200000 ≤ N) (V : Valid p acc gd nd) (W : Valid p bcc hd ne) : Ok (both_first N p acc gd nd p bcc hd ne says) fun o =>
    (o = ([], false) ∧ ∀ t : List Nat, (∀ l ∈ t, l < two p) → says (acc.getD (runT nd gd 0 t) false) (bcc.getD (runT ne hd 0 t) false) = false) ∨
    ∃ T : List Nat, o = (T.map fun l : Nat => (l : Int), true) ∧ (∀ l ∈ T, l < two p) ∧ T.length ≤ acc.length * bcc.length ∧ says (acc.getD (runT nd gd 0 T) false) (bcc.getD (runT ne hd 0 T) false) = true ∧ ∀ t : List Nat, (∀ l ∈ t, l < two p) → says (acc.getD (runT nd gd 0 t) false) (bcc.getD (runT ne hd 0 t) false) = true → T.length ≤ t.length := by
  have hnn : acc.length * bcc.length ≤ 65536 := Nat.mul_le_mul V.a2 W.a2
  unfold both_first
  refine (met_ok (by omega) V W).bind fun r M => ?_
  have few := M.few
  refine (first0_ok (says := says) hN M (by omega) N 0 (by omega) (by omega) fun i hi => by omega).bind fun o ho => ?_
  rcases ho with ⟨e, h⟩ | ⟨i, T, h1, h2, h3, h4, h5, h6, e⟩
  · subst e
    rw [Sum.elim_inl]
    exact Ok.pure (.inl ⟨rfl, fun t ht => by rw [← M.say says t ht]; exact h _ (M.run0 t ht).1⟩)
  · subst e
    rw [Sum.elim_inr]
    have hdl := M.dp_le i h1
    refine Ok.pure (.inr ⟨T, rfl, h4, by omega, by rw [← M.say says T h4, h6]; exact h2, fun t ht h => ?_⟩)
    rw [← M.say says t ht] at h
    have hi : i ≤ runR (mR r) 0 t := Classical.byContradiction fun hc => by
      rw [h3 _ (by omega)] at h
      cases h
    have h7 := M.dp_mono _ (M.run0 t ht).1 i hi
    have h8 := M.dp_run t 0 ht M.one
    have h9 : dp r 0 = 0 := rfl
    omega
theorem part_p : ∀ x y : Bool, both_Part_1_p x y = (x != y) := by intro x y; cases x <;> cases y <;> rfl
theorem implies_p : ∀ x y : Bool, both_Implies_1_p x y = (x && !y) := by intro x y; cases x <;> cases y <;> rfl

/-! ### do they go together? -/
theorem together_ok {p2 : Int} (hN : 5000 ≤ N) (hw : ∀ x ∈ nd, x.wf) (hw2 : ∀ x ∈ ne, x.wf) : Ok (both_together N p acc gd nd p2 bcc hd ne) fun e => (e = 0 → p = p2 ∧ Valid p acc gd nd ∧ guard_Check N p acc gd nd = some 0 ∧ Valid p bcc hd ne ∧ guard_Check N p bcc hd ne = some 0) := by
  obtain ⟨e, hC, he⟩ := guard_Check_ok (N := N) (p := p) (acc := acc) (gd := gd) hN hw
  obtain ⟨f, hD, hf⟩ := guard_Check_ok (N := N) (p := p2) (acc := bcc) (gd := hd) hN hw2
  unfold both_together
  refine (show Ok (guard_Check N p acc gd nd) (· = e) from ⟨e, hC, rfl⟩).bind fun e' h0' => ?_
  subst h0'
  refine Ok.ite (fun h0 => ?_) fun h0 => Ok.pure fun h => absurd h h0
  refine (show Ok (guard_Check N p2 bcc hd ne) (· = f) from ⟨f, hD, rfl⟩).bind fun f' h1' => ?_
  subst h1'
  refine Ok.ite (fun h1 => Ok.ite (fun h2 => Ok.pure fun _ => ?_) fun _ => Ok.pure fun h => by cases h) fun h1 => Ok.pure fun h => absurd h h1
  subst h0 h1 h2
  exact ⟨rfl, he.2 rfl, hC, hf.2 rfl, hD⟩
theorem together_0 (hC : guard_Check N p acc gd nd = some 0) (hD : guard_Check N p bcc hd ne = some 0) : both_together N p acc gd nd p bcc hd ne = some 0 := by
  unfold both_together
  rw [hC, hD, Option.bind_some, Option.bind_some, if_pos rfl, if_pos rfl, if_pos rfl]

/-! ### the law's own questions -/
theorem accepts_ok (hN : 5000 ≤ N) (V : Valid p acc gd nd) (hC : guard_Check N p acc gd nd = some 0) {t : List Nat} (h : ∀ l ∈ t, l < two p) (ht : t.length ≤ 1024) : law20_accepts N p acc gd nd (t.map fun l : Nat => (l : Int)) = some (acc.getD (runT nd gd 0 t) false) := by
  have hlt := runT_lt V t 0 (by have := V.a1; omega)
  unfold law20_accepts
  rw [Run_ok hN V hC h ht, Option.bind_some]
  dsimp only
  rw [if_pos rfl, if_pos (by omega), if_pos (by omega)]
  unfold ask
  rw [if_pos (by unfold idx; omega), Int.toNat_natCast]
end
end Go.V
