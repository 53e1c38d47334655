/- Plain theory: the store beside the document's. No program. -/
import Derived.Test.YthlbijcgnekcbaaA3
set_option linter.all false
set_option linter.unusedVariables false
set_option maxRecDepth 100000
namespace Go.V
open Go

/-- it answers, and so -/
def Ok {α : Type} (o : Option α) (Q : α → Prop) : Prop := ∃ x, o = some x ∧ Q x
section
variable {α β γ : Type} {o : Option α} {P Q : α → Prop} {R : β → Prop} {f : α → Option β}
theorem Ok.bind (h : Ok o P) (k : ∀ x, P x → Ok (f x) R) : Ok (Option.bind o f) R := by
  obtain ⟨x, rfl, hx⟩ := h
  exact k x hx
theorem Ok.pure {x : α} (h : Q x) : Ok (some x) Q := ⟨x, rfl, h⟩
theorem Ok.mono (h : Ok o P) (k : ∀ x, P x → Q x) : Ok o Q := by obtain ⟨x, e, hx⟩ := h; exact ⟨x, e, k x hx⟩
theorem Ok.ask {p : Prop} [Decidable p] (hp : p) (h : Ok o Q) : Ok (ask p o) Q := by
  unfold Go.V.ask
  rw [if_pos hp]
  exact h
theorem Ok.ite {p : Prop} [Decidable p] {a b : Option α} (h1 : p → Ok a Q) (h2 : ¬ p → Ok b Q) : Ok (if p then a else b) Q := by
  by_cases h : p
  · rw [if_pos h]; exact h1 h
  · rw [if_neg h]; exact h2 h
theorem Ok.eq {x : α} (h : Ok o (· = x)) : o = some x := by obtain ⟨y, e, rfl⟩ := h; exact e
theorem Ok.elim {s : β ⊕ γ} {a : β → Option α} {b : γ → Option α} (h1 : ∀ x, s = .inl x → Ok (a x) Q) (h2 : ∀ x, s = .inr x → Ok (b x) Q) : Ok (Sum.elim a b s) Q := by
  cases s with
  | inl x => exact h1 x rfl
  | inr x => exact h2 x rfl
end
theorem getD_snoc {α : Type} {xs : List α} {v d : α} {j : Nat} : (xs ++ [v]).getD j d = if j = xs.length then v else xs.getD j d := by
  rw [List.getD_eq_getElem?_getD, List.getD_eq_getElem?_getD]
  by_cases h : j = xs.length
  · subst h; simp
  · rw [if_neg h]
    by_cases h2 : j < xs.length
    · rw [List.getElem?_append_left h2]
    · rw [List.getElem?_append_right (by omega), List.getElem?_eq_none (by simp; omega), List.getElem?_eq_none (by omega)]


theorem mget_app {κ ν : Type} [DecidableEq κ] {k k' : κ} {v : ν} : ∀ {m : List (κ × ν)}, mget (m ++ [(k, v)]) k' = match mget m k' with | some u => some u | none => if k = k' then some v else none
  | [] => by simp [mget]
  | (a, b) :: r => by
    show mget ((a, b) :: (r ++ [(k, v)])) k' = _
    unfold mget
    by_cases e : a = k'
    · rw [if_pos e, if_pos e]
    · rw [if_neg e, if_neg e]; exact mget_app

theorem mget_app_some {κ ν : Type} [DecidableEq κ] {k k' : κ} {v u : ν} {m : List (κ × ν)} (h : mget m k' = some u) : mget (m ++ [(k, v)]) k' = some u := by rw [mget_app, h]

theorem mget_app_none {κ ν : Type} [DecidableEq κ] {k k' : κ} {v : ν} {m : List (κ × ν)} (h : mget m k' = none) : mget (m ++ [(k, v)]) k' = if k = k' then some v else none := by rw [mget_app, h]

theorem getD_app {nd ys : List Nd} {i : Nat} (h : i < nd.length) : (nd ++ ys).getD i default = nd.getD i default := by
  rw [List.getD_eq_getElem?_getD, List.getD_eq_getElem?_getD, List.getElem?_append_left h]

/-- how many letters there are -/
def two (p : Int) : Nat := 2 ^ p.toNat
theorem shl_two {p : Int} (h : 0 ≤ p ∧ p ≤ 8) : shlV .i64 1 p = (two p : Int) ∧ 1 ≤ two p ∧ two p ≤ 256 := by
  obtain ⟨c, rfl⟩ := Int.eq_ofNat_of_zero_le h.1
  have hc : c ≤ 8 := by omega
  match c, hc with
  | 0, _ => decide
  | 1, _ => decide
  | 2, _ => decide
  | 3, _ => decide
  | 4, _ => decide
  | 5, _ => decide
  | 6, _ => decide
  | 7, _ => decide
  | 8, _ => decide
theorem split_ok {N : Nat} {wh : List Int} (hl : wh.length ≤ 1000) : ∀ (m : Nat) (lo hi : List Int) (i : Nat), 2 * i ≤ wh.length → wh.length < 2 * (i + m) → wh.length % 2 = 0 → lo.length = i → hi.length = i → (∀ j, j < i → lo.getD j 0 = wh.getD (2 * j) 0 ∧ hi.getD j 0 = wh.getD (2 * j + 1) 0) →
    Ok (guard_Store_add_l0 N wh m lo hi ((2 * i : Nat) : Int)) fun r => r.1.length = wh.length / 2 ∧ r.2.length = wh.length / 2 ∧ ∀ j, j < wh.length / 2 → r.1.getD j 0 = wh.getD (2 * j) 0 ∧ r.2.getD j 0 = wh.getD (2 * j + 1) 0
  | 0, lo, hi, i, h1, h2, _, _, _, _ => by omega
  | m + 1, lo, hi, i, h1, h2, h3, h4, h5, h6 => by
    unfold guard_Store_add_l0
    refine Ok.ite (fun hx => ?_) fun hx => Ok.pure ⟨by show lo.length = _; omega, by show hi.length = _; omega, fun j hj => h6 j (by omega)⟩
    have e1 : (((2 * i : Nat) : Int) + 1).toNat = 2 * i + 1 := by omega
    rw [Int.toNat_natCast, e1]
    refine Ok.ask (by unfold idx; omega) (Ok.ask (by simp; omega) (Ok.ask (by unfold in64; omega) (Ok.ask (by unfold idx; omega) (Ok.ask (by simp; omega) (Ok.ask (by unfold in64; omega) ?_)))))
    rw [show (((2 * i : Nat) : Int) + 2) = ((2 * (i + 1) : Nat) : Int) by omega]
    refine split_ok hl m _ _ (i + 1) (by omega) (by omega) h3 (by simp; omega) (by simp; omega) fun j hj => ?_
    rw [getD_snoc, getD_snoc]
    by_cases c : j = i
    · rw [if_pos (by omega), if_pos (by omega), c]
      exact ⟨rfl, rfl⟩
    · rw [if_neg (by omega), if_neg (by omega)]
      exact h6 j (by omega)
section
variable {N : Nat}
def spI (n : Nat) : List Int := [7700 + (n : Int), 7700 + ((n : Int) + 1), 7700 + ((n : Int) + 1 + 1)]
theorem set_app0 {α : Type} {l : List α} {a b c v : α} : (l ++ [a, b, c]).set l.length v = l ++ [v, b, c] := by
  rw [List.set_append_right _ _ (Nat.le_refl _), Nat.sub_self]; rfl
theorem set_app1 {α : Type} {l : List α} {a b c v : α} : (l ++ [a, b, c]).set (l.length + 1) v = l ++ [a, v, c] := by
  rw [List.set_append_right _ _ (by omega), show l.length + 1 - l.length = 1 by omega]; rfl
theorem set_app2 {α : Type} {l : List α} {a b c v : α} : (l ++ [a, b, c]).set (l.length + 2) v = l ++ [a, b, v] := by
  rw [List.set_append_right _ _ (by omega), show l.length + 2 - l.length = 2 by omega]; rfl
theorem three {α : Type} (l : List α) (z : α) : l ++ List.drop l.length (List.replicate (Int.toNat (((l.length : Nat) : Int) + 3)) z) = l ++ [z, z, z] := by
  rw [List.drop_replicate, show Int.toNat (((l.length : Nat) : Int) + 3) - l.length = 3 by omega]; rfl
theorem LentInts_ok (hN : 5000 ≤ N) {l : List Int} (hl : l.length ≤ 100000) : kit_LentInts N l = some (l, spI l.length) := by
  obtain ⟨n, rfl⟩ : ∃ n, N = n + 4 := ⟨N - 4, by omega⟩
  have e0 : Int.toNat ((l.length : Nat) : Int) = l.length := by omega
  have e1 : Int.toNat (((l.length : Nat) : Int) + 1) = l.length + 1 := by omega
  have e2 : Int.toNat (((l.length : Nat) : Int) + 1 + 1) = l.length + 2 := by omega
  have ll : ∀ a b c : Int, (l ++ [a, b, c]).length = l.length + 3 := fun a b c => by simp
  unfold kit_LentInts
  rw [three]
  unfold ask
  rw [if_pos (by unfold in64; omega), if_pos (by omega), if_pos (by simp; omega)]
  unfold kit_LentInts_l0 ask
  rw [ll, if_pos (by omega), if_pos (by unfold in64; omega), if_pos (by unfold idx; omega), if_pos (by unfold in64; omega), e0, set_app0]
  unfold kit_LentInts_l0 ask
  rw [ll, if_pos (by omega), if_pos (by unfold in64; omega), if_pos (by unfold idx; omega), if_pos (by unfold in64; omega), e1, set_app1]
  unfold kit_LentInts_l0 ask
  rw [ll, if_pos (by omega), if_pos (by unfold in64; omega), if_pos (by unfold idx; omega), if_pos (by unfold in64; omega), e2, set_app2]
  unfold kit_LentInts_l0
  rw [ll, if_neg (by omega), Option.bind_some, if_pos (by rw [ll]; omega), List.take_left, List.drop_left, Nat.sub_self, List.replicate_zero, List.append_nil]
  rfl
theorem SameI_self_l0 {a : List Int} (h : a.length ≤ 200000) : ∀ (m i : Nat), i ≤ a.length → a.length - i < m → kit_SameInts_l0 N a a m (i : Int) = some (.inl ())
  | 0, i, _, h => by omega
  | m + 1, i, k0, k1 => by
    unfold kit_SameInts_l0 ask
    by_cases hi : (i : Int) < (a.length : Int)
    · rw [if_pos hi, if_pos (by unfold idx; omega), if_pos (by unfold idx; omega), if_pos rfl, if_pos (by unfold in64; omega), show ((i : Int) + 1) = ((i + 1 : Nat) : Int) by omega, SameI_self_l0 h m (i + 1) (by omega) (by omega)]
    · rw [if_neg hi]
theorem SameI_self {a : List Int} (h : a.length ≤ 200000) (hN : a.length < N) : kit_SameInts N a a = some true := by
  have h2 := SameI_self_l0 (N := N) h N 0 (by omega) (by omega)
  rw [show ((0 : Nat) : Int) = 0 from rfl] at h2
  unfold kit_SameInts
  rw [if_pos rfl, h2]
  rfl
theorem SameN_self_l0 {a : List Nd} (h : a.length ≤ 200000) : ∀ (m i : Nat), i ≤ a.length → a.length - i < m → kit_SameNodes_l0 N a a m (i : Int) = some (.inl ())
  | 0, i, _, h => by omega
  | m + 1, i, k0, k1 => by
    unfold kit_SameNodes_l0 ask
    by_cases hi : (i : Int) < (a.length : Int)
    · rw [if_pos hi, if_pos (by unfold idx; omega), if_pos (by unfold idx; omega), if_pos rfl, if_pos (by unfold in64; omega), show ((i : Int) + 1) = ((i + 1 : Nat) : Int) by omega, SameN_self_l0 h m (i + 1) (by omega) (by omega)]
    · rw [if_neg hi]
theorem SameN_self {a : List Nd} (h : a.length ≤ 200000) (hN : a.length < N) : kit_SameNodes N a a = some true := by
  have h2 := SameN_self_l0 (N := N) h N 0 (by omega) (by omega)
  rw [show ((0 : Nat) : Int) = 0 from rfl] at h2
  unfold kit_SameNodes
  rw [if_pos rfl, h2]
  rfl
theorem KeptInts_ok {l : List Int} (hN : 5000 ≤ N) (hl : l.length + 10 ≤ N) (h2 : l.length ≤ 100000) : kit_KeptInts N l (spI l.length) l = some true := by
  have e : (l ++ spI l.length).length = l.length + 3 := by simp [spI]
  unfold kit_KeptInts ask
  rw [if_pos rfl, LentInts_ok hN h2, Option.bind_some, if_pos (by unfold in64; omega), if_pos (by rw [e]; omega), List.take_of_length_le (by rw [e]; omega), SameI_self (by rw [e]; omega) (by rw [e]; omega)]
  rfl
end
/-- the store's list and its map -/
structure SM (nd : List Nd) (at_ : List (Nd × Int)) : Prop where
  dis : ∀ i j : Nat, i < nd.length → j < nd.length → nd.getD i default = nd.getD j default → i = j
  at1 : ∀ i : Nat, i < nd.length → mget at_ (nd.getD i default) = some (i : Int)
  at2 : ∀ x v, mget at_ x = some v → ∃ i : Nat, i < nd.length ∧ v = (i : Int) ∧ nd.getD i default = x
  lt : ∀ y ∈ at_, y.2 < (nd.length : Int)
structure AD (nd : List Nd) (at_ : List (Nd × Int)) (most : Nat) (r : Int × List Nd × List (Nd × Int)) : Prop where
  sm : SM r.2.1 r.2.2
  app : ∃ ys, r.2.1 = nd ++ ys
  apa : ∃ zs, r.2.2 = at_ ++ zs ∧ ∀ y ∈ zs, (nd.length : Int) ≤ y.2
  few : r.2.1.length ≤ nd.length + most
  rg : -1048576 ≤ r.1 ∧ r.1 ≤ 200000
theorem SM.snoc {nd : List Nd} {at_ : List (Nd × Int)} (I : SM nd at_) {x : Nd} (hm : mget at_ x = none) : SM (nd ++ [x]) (at_ ++ [(x, (nd.length : Int))]) := by
  have new : (nd ++ [x]).getD nd.length default = x := by rw [getD_snoc, if_pos rfl]
  have old : ∀ i, i < nd.length → (nd ++ [x]).getD i default = nd.getD i default := fun i hi => getD_app hi
  have nin : ∀ i, i < nd.length → nd.getD i default ≠ x := fun i hi e => by
    have := I.at1 i hi
    rw [e, hm] at this
    cases this
  refine ⟨fun i j hi hj e => ?_, fun i hi => ?_, fun y v h => ?_, fun y hy => ?_⟩
  · have hi' : i < nd.length + 1 := by simpa using hi
    have hj' : j < nd.length + 1 := by simpa using hj
    by_cases c : i = nd.length <;> by_cases d : j = nd.length
    · omega
    · rw [c, new, old j (by omega)] at e
      exact absurd e.symm (nin j (by omega))
    · rw [d, new, old i (by omega)] at e
      exact absurd e (nin i (by omega))
    · rw [old i (by omega), old j (by omega)] at e
      exact I.dis i j (by omega) (by omega) e
  · have hi' : i < nd.length + 1 := by simpa using hi
    by_cases c : i = nd.length
    · subst c
      rw [new, mget_app_none hm, if_pos rfl]
    · rw [old i (by omega)]
      exact mget_app_some (I.at1 i (by omega))
  · rw [mget_app] at h
    cases h2 : mget at_ y with
    | some u =>
      rw [h2] at h
      have := Option.some.inj h
      subst this
      obtain ⟨i, hi, e1, e2⟩ := I.at2 y _ h2
      exact ⟨i, by simp; omega, e1, by rw [old i hi]; exact e2⟩
    | none =>
      rw [h2] at h
      by_cases c : x = y
      · simp only [if_pos c] at h
        have := Option.some.inj h
        exact ⟨nd.length, by simp, this.symm, by rw [new]; exact c⟩
      · simp only [if_neg c] at h
        cases h
  · rw [List.length_append, List.length_singleton]
    rcases List.mem_append.1 hy with h | h
    · have := I.lt y h; omega
    · have : y = (x, (nd.length : Int)) := by simpa using h
      rw [this]; show (nd.length : Int) < _; omega
theorem l0_eq {N : Nat} {wh : List Int} : ∀ (m : Nat) (lo hi : List Int) (i : Int), ref14_Store_add_l0 N wh m lo hi i = guard_Store_add_l0 N wh m lo hi i
  | 0, _, _, _ => rfl
  | m + 1, lo, hi, i => by
    unfold ref14_Store_add_l0 guard_Store_add_l0
    simp only [l0_eq m]
theorem find_ok {N : Nat} {p : Int} {r1 r2 : Int × List Nd} {at_ : List (Nd × Int)} (I : SM r2.2 at_) (hl : r2.2.length ≤ 200000) : ∀ (m i : Nat), i ≤ r2.2.length → r2.2.length - i < m → (∀ j, j < i → r2.2.getD j default ≠ (⟨p, r1.1, r2.1⟩ : Nd)) →
    ref14_Store_add_l1 N p r1 r2 m (i : Int) = some (match mget at_ (⟨p, r1.1, r2.1⟩ : Nd) with | some v => .inr (v, r2.2) | none => .inl ()) := by
  intro m
  induction m with
  | zero => intro i _ h _; omega
  | succ m ih =>
    intro i k1 k2 k3
    unfold ref14_Store_add_l1
    by_cases hx : (i : Int) < (r2.2.length : Int)
    · rw [if_pos hx, Int.toNat_natCast]
      unfold ask
      rw [if_pos (by unfold idx; omega)]
      by_cases c : r2.2.getD i default = (⟨p, r1.1, r2.1⟩ : Nd)
      · rw [if_pos c]
        have := I.at1 i (by omega)
        rw [c] at this
        rw [this]
      · rw [if_neg c, if_pos (by unfold in64; omega), show ((i : Int) + 1) = ((i + 1 : Nat) : Int) by omega]
        refine ih (i + 1) (by omega) (by omega) fun j hj => ?_
        by_cases e : j = i
        · rw [e]; exact c
        · exact k3 j (by omega)
    · rw [if_neg hx]
      have : mget at_ (⟨p, r1.1, r2.1⟩ : Nd) = none := by
        cases h : mget at_ (⟨p, r1.1, r2.1⟩ : Nd) with
        | none => rfl
        | some v =>
          obtain ⟨j, hj, _, e⟩ := I.at2 _ _ h
          exact absurd e (k3 j (by omega))
      rw [this]
theorem add_sim {N : Nat} (hN : 500000 ≤ N) {n : Int} : ∀ (m d : Nat) (nd : List Nd) (at_ : List (Nd × Int)) (wh : List Int) (p : Int), d < m → 0 ≤ p → p + d ≤ 100 → d ≤ 8 → SM nd at_ → nd.length + 2 ^ d ≤ 100000 → wh.length = 2 ^ d → (∀ j, j < wh.length → 0 ≤ wh.getD j 0 ∧ wh.getD j 0 ≤ 1048575) →
    Ok (guard_Store_add N m n nd at_ wh p) fun r => AD nd at_ (2 ^ d - 1) r ∧ ref14_Store_add N m n nd wh p = some (r.1, r.2.1)
  | 0, d, nd, at_, wh, p, h, _, _, _, _, _, _, _ => by omega
  | m + 1, 0, nd, at_, wh, p, hm, hp, hp0, hd8, I, hs, hl, hv => by
    have hl1 : wh.length = 1 := by simpa using hl
    have h0 := hv 0 (by omega)
    unfold guard_Store_add ref14_Store_add
    have e0 : (Int.toNat (0 : Int)) = 0 := rfl
    rw [if_pos (by omega), if_pos (by omega), e0]
    refine Ok.ask (by unfold idx; omega) (Ok.ask (by unfold in64; omega) (Ok.pure ⟨⟨I, ⟨[], by simp⟩, ⟨[], by simp, fun y h => by cases h⟩, by show nd.length ≤ _; omega, by show -1048576 ≤ -1 - wh.getD 0 0; omega, by show -1 - wh.getD 0 0 ≤ 200000; omega⟩, ?_⟩))
    unfold ask
    rw [if_pos (by unfold idx; omega), if_pos (by unfold in64; omega)]
  | m + 1, d + 1, nd, at_, wh, p, hm, hp, hp0, hd8, I, hs, hl, hv => by
    have hpow : 2 ^ (d + 1) = 2 * 2 ^ d := by rw [Nat.pow_succ, Nat.mul_comm]
    have hd5 : 2 ^ d ≤ 2 ^ 7 := Nat.pow_le_pow_right (by omega) (by omega)
    have hd1 : 1 ≤ 2 ^ d := Nat.one_le_two_pow
    have hlen : wh.length = 2 * 2 ^ d := by rw [hl, hpow]
    unfold guard_Store_add ref14_Store_add
    rw [if_neg (by omega), if_neg (by omega)]
    have hw : IntKind.i64.wrap (Int.tdiv (((List.length wh) : Nat) : Int) 2) = ((2 ^ d : Nat) : Int) := by
      rw [hlen]
      have : Int.tdiv (((2 * 2 ^ d : Nat)) : Int) 2 = ((2 ^ d : Nat) : Int) := by
        rw [Int.tdiv_eq_ediv_of_nonneg (by omega)]; omega
      rw [this]
      exact wrap_i64 (by omega) (by omega)
    rw [hw]
    refine Ok.ask (by omega) ?_
    have S := split_ok (N := N) (wh := wh) (by omega) N [] [] 0 (by omega) (by omega) (by omega) rfl rfl fun j hj => by omega
    obtain ⟨x, ex, x1, x2, x3⟩ := S
    have ex' : guard_Store_add_l0 N wh N (List.replicate (Int.toNat (0 : Int)) (0 : Int)) (List.replicate (Int.toNat (0 : Int)) (0 : Int)) 0 = some x := ex
    have ex2 : ref14_Store_add_l0 N wh N [] [] 0 = some x := by rw [l0_eq]; exact ex
    rw [ex', ex2, Option.bind_some, Option.bind_some]
    have hdiv : wh.length / 2 = 2 ^ d := by omega
    rw [hdiv] at x1 x2 x3
    refine Ok.ask (by unfold in64; omega) ?_
    refine (add_sim hN (n := n) m d nd at_ x.1 (p + 1) (by omega) (by omega) (by omega) (by omega) I (by omega) x1 fun j hj => ?_).bind fun r ⟨A, rA⟩ => ?_
    · rw [(x3 j (by omega)).1]; exact hv _ (by omega)
    have fewA := A.few
    refine (add_sim hN (n := n) m d r.2.1 r.2.2 x.2 (p + 1) (by omega) (by omega) (by omega) (by omega) A.sm (by omega) x2 fun j hj => ?_).bind fun r2 ⟨B, rB⟩ => ?_
    · rw [(x3 j (by omega)).2]; exact hv _ (by omega)
    have fewB := B.few
    obtain ⟨ys, hys⟩ := A.app
    obtain ⟨zs, hzs⟩ := B.app
    obtain ⟨ya, hya, hya2⟩ := A.apa
    obtain ⟨za, hza, hza2⟩ := B.apa
    have happ : ∃ ws, r2.2.1 = nd ++ ws := ⟨ys ++ zs, by rw [hzs, hys, List.append_assoc]⟩
    have hle : nd.length ≤ r.2.1.length := by rw [hys, List.length_append]; omega
    have hle2 : nd.length ≤ r2.2.1.length := by rw [hzs, List.length_append]; omega
    have hapa : ∃ ws, r2.2.2 = at_ ++ ws ∧ ∀ y ∈ ws, (nd.length : Int) ≤ y.2 := ⟨ya ++ za, by rw [hza, hya, List.append_assoc], fun y hy => by
      rcases List.mem_append.1 hy with h | h
      · exact hya2 y h
      · have := hza2 y h; omega⟩
    have eask : ask (in64 (p + 1)) = fun o : Option (Int × List Nd) => o := by funext o; exact if_pos (by unfold in64; omega)
    rw [eask]
    dsimp only
    rw [rA, Option.bind_some]
    dsimp only
    rw [rB, Option.bind_some]
    dsimp only
    have gA := A.rg
    have gB := B.rg
    by_cases he : r.1 = r2.1
    · rw [if_pos he, if_pos he]
      exact Ok.pure ⟨⟨B.sm, happ, hapa, by show r2.2.1.length ≤ _; omega, gA⟩, rfl⟩
    rw [if_neg he, if_neg he]
    refine Ok.ask ⟨show in64 p by unfold in64; omega, show in64 r.1 by unfold in64; omega, show in64 r2.1 by unfold in64; omega⟩ ?_
    have F := find_ok (N := N) (p := p) (r1 := (r.1, r.2.1)) (r2 := (r2.1, r2.2.1)) (at_ := r2.2.2) B.sm (by show r2.2.1.length ≤ _; omega) N 0 (by omega) (by show r2.2.1.length - 0 < N; omega) fun j h => by omega
    have F' : ref14_Store_add_l1 N p (r.1, r.2.1) (r2.1, r2.2.1) N 0 = _ := F
    rw [F', Option.bind_some]
    dsimp only
    cases hg : mget r2.2.2 (⟨p, r.1, r2.1⟩ : Nd) with
    | some v =>
      obtain ⟨i, hi, e1, e2⟩ := B.sm.at2 _ _ hg
      rw [Option.isSome_some, if_pos rfl, Option.getD_some]
      exact Ok.pure ⟨⟨B.sm, happ, hapa, by show r2.2.1.length ≤ _; omega, by show -1048576 ≤ v; omega, by show v ≤ 200000; omega⟩, rfl⟩
    | none =>
      rw [Option.isSome_none, if_neg Bool.false_ne_true]
      refine Ok.ask rfl (Ok.ask (by simp; omega) (Ok.pure ⟨⟨B.sm.snoc hg, ?_, ?_, ?_, ?_, ?_⟩, ?_⟩))
      · obtain ⟨ws, hws⟩ := happ
        exact ⟨ws ++ [(⟨p, r.1, r2.1⟩ : Nd)], by show r2.2.1 ++ _ = _; rw [hws, List.append_assoc]⟩
      · obtain ⟨ws, hws, hws2⟩ := hapa
        refine ⟨ws ++ [((⟨p, r.1, r2.1⟩ : Nd), (((List.length r2.2.1) : Nat) : Int))], by show r2.2.2 ++ _ = _; rw [hws, List.append_assoc], fun y hy => ?_⟩
        rcases List.mem_append.1 hy with h | h
        · exact hws2 y h
        · have : y = ((⟨p, r.1, r2.1⟩ : Nd), (((List.length r2.2.1) : Nat) : Int)) := by simpa using h
          rw [this]; show (nd.length : Int) ≤ ((r2.2.1.length : Nat) : Int); omega
      · show (r2.2.1 ++ [(⟨p, r.1, r2.1⟩ : Nd)]).length ≤ _
        rw [List.length_append, List.length_singleton]
        omega
      · show -1048576 ≤ ((r2.2.1.length : Nat) : Int); omega
      · show ((r2.2.1.length : Nat) : Int) ≤ 200000; omega
      · rw [Sum.elim_inl]
        unfold ask
        have e1 : (((List.length (r2.2.1 ++ ([(⟨p, r.1, r2.1⟩ : Nd)] : List Nd))) : Nat) : Int) - 1 = ((r2.2.1.length : Nat) : Int) := by rw [List.length_append, List.length_singleton]; omega
        rw [e1, if_pos (by simp; omega), if_pos (by unfold in64; omega)]
section
variable {N : Nat}
theorem Add_l0_ok {nd : List Nd} {at_ : List (Nd × Int)} {wh : List Int} (hl : wh.length ≤ 1000) : ∀ (m i : Nat), i ≤ wh.length → wh.length - i < m → (∀ j, j < i → 0 ≤ wh.getD j 0 ∧ wh.getD j 0 ≤ 1048575) →
    Ok (guard_Store_Add_l0 N nd at_ wh m (i : Int)) fun r => (r = .inl () ∧ ref14_Store_Add_l0 N nd wh m (i : Int) = some (.inl ()) ∧ ∀ j, j < wh.length → 0 ≤ wh.getD j 0 ∧ wh.getD j 0 ≤ 1048575) ∨ (r = .inr (0, 2, nd, at_) ∧ ref14_Store_Add_l0 N nd wh m (i : Int) = some (.inr (0, 2, nd))) := by
  intro m
  induction m with
  | zero => intro i _ h _; omega
  | succ m ih =>
    intro i k1 k2 k3
    unfold guard_Store_Add_l0 ref14_Store_Add_l0
    by_cases hx : (i : Int) < (wh.length : Int)
    · rw [if_pos hx, if_pos hx, Int.toNat_natCast]
      refine Ok.ask (by unfold idx; omega) ?_
      have ea : ∀ o : Option (Unit ⊕ (Int × Int × List Nd)), ask (idx (i : Int) wh.length) o = o := fun o => if_pos (by unfold idx; omega)
      rw [ea]
      by_cases h1 : wh.getD i 0 < 0
      · rw [if_pos h1, if_pos h1]; exact Ok.pure (.inr ⟨rfl, rfl⟩)
      rw [if_neg h1, if_neg h1]
      by_cases h2 : 1048575 < wh.getD i 0
      · rw [if_pos h2, if_pos h2]; exact Ok.pure (.inr ⟨rfl, rfl⟩)
      rw [if_neg h2, if_neg h2]
      refine Ok.ask (by unfold in64; omega) ?_
      have eb : ∀ o : Option (Unit ⊕ (Int × Int × List Nd)), ask (in64 ((i : Int) + 1)) o = o := fun o => if_pos (by unfold in64; omega)
      rw [eb, show ((i : Int) + 1) = ((i + 1 : Nat) : Int) by omega]
      refine ih (i + 1) (by omega) (by omega) fun j hj => ?_
      by_cases e : j = i
      · rw [e]; omega
      · exact k3 j (by omega)
    · rw [if_neg hx, if_neg hx]
      exact Ok.pure (.inl ⟨rfl, rfl, fun j hj => k3 j (by omega)⟩)
theorem filter_back {at_ zs : List (Nd × Int)} {b : Int} (h1 : ∀ y ∈ at_, y.2 < b) (h2 : ∀ y ∈ zs, b ≤ y.2) : (at_ ++ zs).filter (fun p_ => decide (p_.2 < b)) = at_ := by
  rw [List.filter_append, List.filter_eq_self.2 (fun y hy => decide_eq_true (h1 y hy)), List.filter_eq_nil_iff.2 (fun y hy => by have := h2 y hy; simp; omega), List.append_nil]
/-- a list is added to both -/
theorem Add_sim (hN : 500000 ≤ N) {n : Int} (hn : 0 ≤ n ∧ n ≤ 8) {nd : List Nd} {at_ : List (Nd × Int)} {wh : List Int} (I : SM nd at_) (hb : nd.length ≤ 4096) (hl : wh.length ≤ 260) :
    Ok (guard_Store_Add N n nd at_ wh) fun r => SM r.2.2.1 r.2.2.2 ∧ r.2.2.1.length ≤ 4096 ∧ ref14_Store_Add N n nd wh = some (r.1, r.2.1, r.2.2.1) := by
  have sh := shl_two hn
  unfold guard_Store_Add guard_Store_none ref14_Store_Add
  rw [Option.bind_some, if_neg (by simp), sh.1]
  refine Ok.ask hn.1 ?_
  have ea : ∀ o : Option (Int × Int × List Nd), ask (0 ≤ n) o = o := fun o => if_pos hn.1
  rw [ea]
  by_cases hlen : ((wh.length : Nat) : Int) = (two n : Int)
  · rw [if_pos hlen, if_pos hlen]
    obtain ⟨x, ex, hx⟩ := Add_l0_ok (N := N) (nd := nd) (at_ := at_) (wh := wh) (by omega) N 0 (by omega) (by omega) fun j h => by omega
    have ex' : guard_Store_Add_l0 N nd at_ wh N 0 = some x := ex
    rw [ex', Option.bind_some]
    rcases hx with ⟨e1, e2, e3⟩ | ⟨e1, e2⟩
    · have e2' : ref14_Store_Add_l0 N nd wh N 0 = some (.inl ()) := e2
      rw [e1, e2', Option.bind_some, Sum.elim_inl, Sum.elim_inl]
      have hd : n.toNat ≤ 8 := by omega
      have h256 : 2 ^ n.toNat ≤ 2 ^ 8 := Nat.pow_le_pow_right (by omega) hd
      refine (add_sim hN (n := n) N n.toNat nd at_ wh 0 (by omega) (by omega) (by omega) hd I (by omega) (by unfold two at hlen; omega) e3).bind fun r ⟨A, rA⟩ => ?_
      have few := A.few
      have eb : ∀ o : Option (Int × Int × List Nd), ask (List.length ([] : List Nd) + nd.length ≤ 1000000000) o = o := fun o => if_pos (by simp; omega)
      rw [eb, List.nil_append, rA, Option.bind_some]
      dsimp only
      by_cases h4 : (4096 : Int) < ((r.2.1.length : Nat) : Int)
      · rw [if_pos h4, if_pos h4]
        obtain ⟨ys, hys⟩ := A.app
        obtain ⟨zs, hzs, hzs2⟩ := A.apa
        have et : r.2.1.take (Int.toNat ((nd.length : Nat) : Int)) = nd := by rw [hys, Int.toNat_natCast, List.take_left]
        have ef : r.2.2.filter (fun p_ => decide (p_.2 < ((nd.length : Nat) : Int))) = at_ := by rw [hzs]; exact filter_back I.lt hzs2
        refine Ok.ask (by rw [hys, List.length_append]; omega) ?_
        rw [et, ef]
        exact Ok.pure ⟨I, hb, rfl⟩
      · rw [if_neg h4, if_neg h4]
        exact Ok.pure ⟨A.sm, by show r.2.1.length ≤ 4096; omega, rfl⟩
    · have e2' : ref14_Store_Add_l0 N nd wh N 0 = some (.inr (0, 2, nd)) := e2
      rw [e1, e2', Option.bind_some, Sum.elim_inr, Sum.elim_inr]
      exact Ok.pure ⟨I, hb, rfl⟩
  · rw [if_neg hlen, if_neg hlen]
    exact Ok.pure ⟨I, hb, rfl⟩
end
end Go.V
