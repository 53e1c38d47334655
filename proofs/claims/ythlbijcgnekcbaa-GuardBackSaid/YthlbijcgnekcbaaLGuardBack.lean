/- The plain law GuardBack. No condition. -/
import Derived.Test.YthlbijcgnekcbaaBGuardBack
import Derived.Test.YthlbijcgnekcbaaGB
import Derived.Test.YthlbijcgnekcbaaV9
set_option linter.all false
set_option linter.unusedVariables false
set_option maxRecDepth 1000000
namespace Go.V
open Go Go.Proofs
theorem Pick_ok {N : Nat} {x n : Int} (h1 : 1 ≤ n) (h2 : n ≤ 1000000) : Ok (kit_Pick N x n) fun r => 0 ≤ r ∧ r < n := by
  have k1 := Int.tmod_lt_of_pos x (show 0 < n by omega)
  have k2 := Int.lt_tmod_of_pos x (show 0 < n by omega)
  unfold kit_Pick
  refine Ok.ite (fun h => by omega) fun _ => Ok.ask (by omega) (Ok.ite (fun h => Ok.ask (by unfold in64; omega) (Ok.pure (by omega))) fun h => Ok.pure (by omega))
theorem SameI_l0_ok {N : Nat} {a b : List Int} (hl : a.length = b.length) (h : a.length ≤ 100000) : ∀ (m : Nat) (i : Nat), i ≤ a.length → a.length - i < m → (∀ j, j < i → a.getD j 0 = b.getD j 0) → kit_SameInts_l0 N a b m (i : Int) = some (if a = b then .inl () else .inr false)
  | 0, i, _, h, _ => by omega
  | m + 1, i, k1, k2, k3 => by
    unfold kit_SameInts_l0
    by_cases hx : (i : Int) < (a.length : Int)
    · rw [if_pos hx, Int.toNat_natCast]
      unfold ask
      rw [if_pos (by unfold idx; omega), if_pos (by unfold idx; omega)]
      by_cases c : a.getD i 0 = b.getD i 0
      · have ih := SameI_l0_ok (N := N) hl h m (i + 1) (by omega) (by omega) fun j hj => by
          by_cases e : j = i
          · rw [e]; exact c
          · exact k3 j (by omega)
        rw [if_pos c, if_pos (by unfold in64; omega), show ((i : Int) + 1) = ((i + 1 : Nat) : Int) by omega, ih]
      · rw [if_neg c, if_neg fun e => c (by rw [e])]
    · rw [if_neg hx, if_pos (ext_getD 0 hl fun j hj => k3 j (by omega))]
theorem SameI_ok {N : Nat} (hN : 5000 ≤ N) {a b : List Int} (ha : a.length ≤ 3000) : kit_SameInts N a b = some (decide (a = b)) := by
  unfold kit_SameInts
  by_cases hl : a.length = b.length
  · rw [if_pos (by omega)]
    have h := SameI_l0_ok (N := N) hl (by omega) N 0 (by omega) (by omega) fun j hj => by omega
    have e : kit_SameInts_l0 N a b N 0 = some (if a = b then .inl () else .inr false) := h
    rw [e]
    by_cases c : a = b
    · rw [if_pos c, decide_eq_true c]; rfl
    · rw [if_neg c, decide_eq_false c]; rfl
  · rw [if_neg (by omega), decide_eq_false fun e => hl (by rw [e])]

/-! ### an automaton that may be -/
section
variable {N : Nat} {p : Int} {acc : List Bool} {gd : List Int} {nd : List Nd}
theorem good_of {ref below above : Int} (ha : acc.length ≤ 1000) (hb : below ≤ nd.length) (h : Good acc.length nd ref below above) : guard_good N p acc gd nd ref below above = some true := by
  unfold guard_good ask
  rcases h with ⟨h1, h2⟩ | ⟨h1, h2, h3⟩
  · rw [if_pos h1, if_pos (by unfold in64; omega), decide_eq_true (by omega)]
  · rw [if_neg (by omega), if_pos h2, if_pos (by unfold idx; omega), decide_eq_true h3]
theorem check_l0_of (V : Valid p acc gd nd) (hne : ∀ i : Nat, i < nd.length → (nd.getD i default).Lo ≠ (nd.getD i default).Hi) (hdis : ∀ i j : Nat, i < nd.length → j < nd.length → nd.getD i default = nd.getD j default → i = j) : ∀ (m : Nat) (met : List (Nd × Bool)) (x : Nat), x ≤ nd.length → nd.length - x < m → (∀ k v, mget met k = some v → ∃ i : Nat, i < x ∧ nd.getD i default = k) →
    guard_Check_l0 N p acc gd nd m met (x : Int) = some (.inl ())
  | 0, met, x, _, h, _ => by omega
  | m + 1, met, x, k1, k2, k3 => by
    have a2 := V.a2
    have nl := V.nl
    unfold guard_Check_l0
    by_cases hx : (x : Int) < (nd.length : Int)
    · have hxn : x < nd.length := by omega
      obtain ⟨o1, o2, o3, o4⟩ := V.ok x hxn
      have p8 := V.p8
      have eta : (⟨(nd.getD x default).P, (nd.getD x default).Lo, (nd.getD x default).Hi⟩ : Nd) = nd.getD x default := rfl
      have hnone : mget met (nd.getD x default) = none := by
        cases h : mget met (nd.getD x default) with
        | none => rfl
        | some v =>
          obtain ⟨i, hi, e⟩ := k3 _ v h
          have := hdis i x (by omega) hxn e
          omega
      have bnd : ∀ ref, Good acc.length nd ref x (nd.getD x default).P → -1000 ≤ ref ∧ ref ≤ 5000 := fun ref h => by rcases h with h | h <;> omega
      have b1 := bnd _ o3
      have b2 := bnd _ o4
      rw [if_pos hx, Int.toNat_natCast, eta]
      unfold ask
      rw [if_pos (by unfold idx; omega), if_neg (by omega), if_neg (by omega), if_neg (hne x hxn), if_pos (show ndOk (nd.getD x default) from ⟨show in64 (nd.getD x default).P by unfold in64; omega, show in64 (nd.getD x default).Lo by unfold in64; omega, show in64 (nd.getD x default).Hi by unfold in64; omega⟩), hnone, if_neg (by simp), good_of (by omega) (by omega) o3, Option.bind_some, if_pos rfl, good_of (by omega) (by omega) o4, Option.bind_some, if_pos rfl, if_pos rfl, if_pos (by unfold in64; omega)]
      have ih := check_l0_of V hne hdis m (met ++ [(nd.getD x default, true)]) (x + 1) (by omega) (by omega) fun k v h => by
        rw [mget_app] at h
        cases h2 : mget met k with
        | some u =>
          obtain ⟨i, hi, e⟩ := k3 k u h2
          exact ⟨i, by omega, e⟩
        | none =>
          rw [h2] at h
          by_cases c : nd.getD x default = k
          · exact ⟨x, by omega, c⟩
          · simp only [if_neg c] at h
            cases h
      rw [show ((x : Int) + 1) = ((x + 1 : Nat) : Int) by omega, ih]
    · rw [if_neg hx]
theorem check_l1_of (V : Valid p acc gd nd) : ∀ (m : Nat) (x : Nat), x ≤ gd.length → gd.length - x < m → guard_Check_l1 N p acc gd nd m (x : Int) = some (.inl ())
  | 0, x, _, h => by omega
  | m + 1, x, k1, k2 => by
    have a2 := V.a2
    have gl := V.gl
    unfold guard_Check_l1
    by_cases hx : (x : Int) < (gd.length : Int)
    · have ih := check_l1_of V m (x + 1) (by omega) (by omega)
      rw [if_pos hx, Int.toNat_natCast]
      unfold ask
      rw [if_pos (by unfold idx; omega), good_of (by omega) (by omega) (V.gs x (by omega)), Option.bind_some, if_pos rfl, if_pos (by unfold in64; omega), show ((x : Int) + 1) = ((x + 1 : Nat) : Int) by omega, ih]
    · rw [if_neg hx]
theorem check_of (hN : 5000 ≤ N) (V : Valid p acc gd nd) (hne : ∀ i : Nat, i < nd.length → (nd.getD i default).Lo ≠ (nd.getD i default).Hi) (hdis : ∀ i j : Nat, i < nd.length → j < nd.length → nd.getD i default = nd.getD j default → i = j) : guard_Check N p acc gd nd = some 0 := by
  have p0 := V.p0
  have p8 := V.p8
  have a1 := V.a1
  have a2 := V.a2
  have gl := V.gl
  have nl := V.nl
  have h0 := check_l0_of (N := N) V hne hdis N [] 0 (by omega) (by omega) fun k v h => by cases h
  have h1 := check_l1_of (N := N) V N 0 (by omega) (by omega)
  have e0 : guard_Check_l0 N p acc gd nd N [] 0 = some (.inl ()) := h0
  have e1 : guard_Check_l1 N p acc gd nd N 0 = some (.inl ()) := h1
  unfold guard_Check
  rw [if_neg (by omega), if_neg (by omega), if_neg (by omega), if_neg (by omega), if_pos (by omega), if_neg (by omega), e0]
  simp only [Option.bind_some, Sum.elim_inl]
  rw [e1]
  rfl
end

/-! ### lists that are added -/
section
variable {N : Nat} {n : Int}
def LOk (n : Int) (l : List Int) : Prop := l.length = two n ∧ ∀ j, j < l.length → 0 ≤ l.getD j 0 ∧ l.getD j 0 ≤ 11
theorem back_l2_ok (hn : 0 ≤ n ∧ n ≤ 5) {lists : List (List Int)} {i : Int} (hi : 0 ≤ i ∧ i < lists.length) : ∀ (m : Nat) (l : List Int) (k : Int), 0 ≤ k → k ≤ two n → (two n : Int) - k < m → (l.length : Int) = k → (∀ j, j < l.length → 0 ≤ l.getD j 0 ∧ l.getD j 0 ≤ 11) →
    Ok (law14_GuardBack_l2 N lists n i m l k) fun r => LOk n r
  | 0, l, k, _, _, h, _, _ => by omega
  | m + 1, l, k, k0, k1, k2, k3, k4 => by
    have sh := shl_two (p := n) ⟨hn.1, by omega⟩
    unfold law14_GuardBack_l2
    rw [sh.1]
    refine Ok.ask hn.1 ?_
    refine Ok.ite (fun hx => ?_) fun hx => Ok.pure ⟨by omega, k4⟩
    refine Ok.ask (by unfold idx; omega) ?_
    have hj : Ok (law14_GuardBack_j3 N lists i k) fun _ => True := by
      unfold law14_GuardBack_j3
      exact Ok.ite (fun h => Ok.ask (by unfold idx; omega) (Ok.pure trivial)) fun _ => Ok.pure trivial
    refine hj.bind fun x _ => (Pick_ok (by omega) (by omega)).bind fun r ⟨r0, r1⟩ => ?_
    refine Ok.ask (by simp; omega) (Ok.ask (by unfold in64; omega) ?_)
    refine back_l2_ok hn hi m _ (k + 1) (by omega) (by omega) (by omega) (by simp; omega) fun j hj => ?_
    have hj' : j < l.length + 1 := by simpa using hj
    rw [getD_snoc]
    split
    · omega
    · exact k4 j (by omega)
theorem Add_l0_of {nd : List Nd} {at_ : List (Nd × Int)} {l : List Int} (hl : l.length ≤ 1000) (hv : ∀ j, j < l.length → 0 ≤ l.getD j 0 ∧ l.getD j 0 ≤ 11) : ∀ (m : Nat) (x : Nat), x ≤ l.length → l.length - x < m → guard_Store_Add_l0 N nd at_ l m (x : Int) = some (.inl ())
  | 0, x, _, h => by omega
  | m + 1, x, k1, k2 => by
    unfold guard_Store_Add_l0
    by_cases hx : (x : Int) < (l.length : Int)
    · have ih := Add_l0_of (nd := nd) (at_ := at_) hl hv m (x + 1) (by omega) (by omega)
      have := hv x (by omega)
      rw [if_pos hx, Int.toNat_natCast]
      unfold ask
      rw [if_pos (by unfold idx; omega), if_neg (by omega), if_neg (by omega), if_pos (by unfold in64; omega), show ((x : Int) + 1) = ((x + 1 : Nat) : Int) by omega, ih]
    · rw [if_neg hx]
theorem two_pow (h : 0 ≤ n) : two n = 2 ^ n.toNat := rfl
theorem two_32 (hn : 0 ≤ n ∧ n ≤ 5) : 1 ≤ two n ∧ two n ≤ 32 := by
  obtain ⟨c, rfl⟩ := Int.eq_ofNat_of_zero_le hn.1
  have hc : c ≤ 5 := by omega
  match c, hc with
  | 0, _ => decide
  | 1, _ => decide
  | 2, _ => decide
  | 3, _ => decide
  | 4, _ => decide
  | 5, _ => decide
theorem Add_ok (hN : 5000 ≤ N) (hn : 0 ≤ n ∧ n ≤ 5) {nd : List Nd} {at_ : List (Nd × Int)} {l : List Int} (I : SI n nd at_) (hs : nd.length ≤ 1000) (L : LOk n l) :
    Ok (guard_Store_Add N n nd at_ l) fun r => r.2.1 = 0 ∧ Added n nd (-1) (fun f => l.getD (ixf f 0 n.toNat) 0) 31 (r.1, r.2.2.1, r.2.2.2) := by
  have sh := shl_two (p := n) ⟨hn.1, by omega⟩
  have t32 := two_32 hn
  unfold guard_Store_Add guard_Store_none
  simp only [Option.bind_some, Bool.false_eq_true, if_false]
  refine Ok.ask hn.1 ?_
  have h0 := Add_l0_of (N := N) (nd := nd) (at_ := at_) (l := l) (by rw [L.1]; omega) L.2 N 0 (by omega) (by rw [L.1]; omega)
  have e0 : guard_Store_Add_l0 N nd at_ l N 0 = some (.inl ()) := h0
  rw [sh.1, if_pos (by rw [L.1]), e0]
  simp only [Option.bind_some, Sum.elim_inl]
  have tp := two_pow hn.1
  refine (add_ok hN hn N n.toNat nd at_ l 0 (by omega) (by omega) (by omega) I (by omega) (by rw [L.1, tp]) L.2).bind fun r A => ?_
  have few := A.few
  rw [if_neg (by omega)]
  exact Ok.pure ⟨rfl, A.si, A.app, by show r.2.1.length ≤ _; omega, A.rf, A.ev⟩

/-- what was added so far -/
structure Adds (n : Int) (nd : List Nd) (at_ : List (Nd × Int)) (kept : List (List Int)) (refs : List Int) (i : Nat) : Prop where
  si : SI n nd at_
  few : nd.length ≤ 31 * i
  kl : kept.length = i
  rl : refs.length = i
  ls : ∀ j, j < i → LOk n (kept.getD j [])
  rf : ∀ j, j < i → Rf nd nd.length (-1) (refs.getD j 0)
  ev : ∀ j, j < i → ∀ f, E nd f (refs.getD j 0) = (kept.getD j []).getD (ixf f 0 n.toNat) 0
theorem back_l0_ok (hN : 5000 ≤ N) (hn : 0 ≤ n ∧ n ≤ 5) {lists : List (List Int)} : ∀ (m : Nat) (nd : List Nd) (at_ : List (Nd × Int)) (kept : List (List Int)) (refs : List Int) (i : Nat), i ≤ 12 → 12 - i < m → Adds n nd at_ kept refs i →
    Ok (law14_GuardBack_l0 N lists n m nd at_ kept refs (i : Int)) fun r => ∃ x i, r = .inl x ∧ i ≤ 12 ∧ Adds n x.1 x.2.1 x.2.2.1 x.2.2.2 i
  | 0, nd, at_, kept, refs, i, _, h, _ => by omega
  | m + 1, nd, at_, kept, refs, i, k1, k2, A => by
    have t32 := two_32 hn
    unfold law14_GuardBack_l0
    have hj : law14_GuardBack_j1 N lists (i : Int) = some (decide ((i : Int) < (lists.length : Int) ∧ (i : Int) < 12)) := by
      unfold law14_GuardBack_j1
      by_cases c : (i : Int) < (lists.length : Int)
      · rw [if_pos c]; simp [c]
      · rw [if_neg c]; simp [c]
    rw [hj]
    simp only [Option.bind_some]
    refine Ok.ite (fun hi => ?_) fun hi => Ok.pure ⟨_, i, rfl, k1, A⟩
    have hi' := of_decide_eq_true hi
    refine (back_l2_ok hn ⟨by omega, hi'.1⟩ N [] 0 (by omega) (by omega) (by omega) rfl fun j hj => by simp at hj).bind fun l L => ?_
    refine (Add_ok hN hn A.si (by have := A.few; omega) L).bind fun r ⟨r1, B⟩ => ?_
    rw [if_pos r1]
    have kl := A.kl
    have rl := A.rl
    refine Ok.ask (by simp; omega) (Ok.ask (by simp; omega) (Ok.ask (by unfold in64; omega) ?_))
    rw [show ((i : Int) + 1) = ((i + 1 : Nat) : Int) by omega]
    obtain ⟨ys, hys⟩ := B.app
    have hys' : r.2.2.1 = nd ++ ys := hys
    refine back_l0_ok hN hn m _ _ _ _ (i + 1) (by omega) (by omega) ⟨B.si, by have h1 : r.2.2.1.length ≤ nd.length + 31 := B.few; have := A.few; show r.2.2.1.length ≤ _; omega, by simp; omega, by simp; omega, fun j hj => ?_, fun j hj => ?_, fun j hj f => ?_⟩
    · rw [getD_snoc]
      split
      · exact L
      · exact A.ls j (by omega)
    · rw [getD_snoc]
      split
      · exact B.rf
      · rw [hys']
        exact ((A.rf j (by omega)).app (Int.le_refl _)).mono (by simp; omega) (Int.le_refl _)
    · rw [getD_snoc, getD_snoc]
      by_cases c : j = i
      · rw [if_pos (by omega), if_pos (by omega)]
        exact B.ev f
      · rw [if_neg (by omega), if_neg (by omega), hys', ← A.ev j (by omega) f]
        exact evf_app A.si ys f 9 _ _ (A.rf j (by omega))
theorem back_l4_ok {x : (List Nd) × (List (Nd × Int)) × (List (List Int)) × (List Int)} (hx : x.2.2.2.length ≤ 12) : ∀ (m : Nat) (a : List Bool) (g : List Int) (i : Nat), i ≤ 12 → 12 - i < m → a.length = i → g.length = i → (∀ j, j < i → g.getD j 0 = if j < x.2.2.2.length then x.2.2.2.getD j 0 else -1) →
    Ok (law14_GuardBack_l4 N x m a g (i : Int)) fun r => r.1.length = 12 ∧ r.2.length = 12 ∧ ∀ j, j < 12 → r.2.getD j 0 = if j < x.2.2.2.length then x.2.2.2.getD j 0 else -1
  | 0, a, g, i, _, h, _, _, _ => by omega
  | m + 1, a, g, i, k1, k2, k3, k4, k5 => by
    unfold law14_GuardBack_l4
    refine Ok.ite (fun hi => ?_) fun hi => Ok.pure ⟨by show a.length = 12; omega, by show g.length = 12; omega, fun j hj => k5 j (by omega)⟩
    refine Ok.ask (by simp; omega) (Ok.ask (by simp; omega) ?_)
    have hj : Ok (law14_GuardBack_j5 N x g (i : Int)) fun r => r.length = i + 1 ∧ ∀ j, j < i + 1 → r.getD j 0 = if j < x.2.2.2.length then x.2.2.2.getD j 0 else -1 := by
      unfold law14_GuardBack_j5
      refine Ok.ite (fun h => ?_) fun h => Ok.pure ⟨by simp; omega, fun j hj => ?_⟩
      · rw [Int.toNat_natCast]
        refine Ok.ask (by unfold idx; omega) (Ok.ask (by unfold idx; simp; omega) (Ok.pure ⟨by simp; omega, fun j hj => ?_⟩))
        rw [getD_set (by simp; omega), getD_snoc]
        by_cases c : i = j
        · subst c
          rw [if_pos rfl, if_pos (by omega)]
        · rw [if_neg c, if_neg (by omega)]
          exact k5 j (by omega)
      · rw [getD_snoc]
        by_cases c : j = g.length
        · rw [if_pos c, if_neg (by omega)]
        · rw [if_neg c]
          exact k5 j (by omega)
    refine hj.bind fun r ⟨r1, r2⟩ => Ok.ask (by unfold in64; omega) ?_
    rw [show ((i : Int) + 1) = ((i + 1 : Nat) : Int) by omega]
    exact back_l4_ok hx m _ _ (i + 1) (by omega) (by omega) (by simp; omega) r1 r2
theorem kept_eq (hn : 0 ≤ n ∧ n ≤ 5) {nd : List Nd} {at_ : List (Nd × Int)} {kept : List (List Int)} {refs : List Int} {i : Nat} (A : Adds n nd at_ kept refs i) {j k : Nat} (hj : j < i) (hk : k < i) : refs.getD j 0 = refs.getD k 0 ↔ kept.getD j [] = kept.getD k [] := by
  have tp := two_pow hn.1
  constructor
  · intro h
    refine ext_getD 0 (by rw [(A.ls j hj).1, (A.ls k hk).1]) fun x hx => ?_
    rw [(A.ls j hj).1, tp] at hx
    obtain ⟨f, hf⟩ := ixf_all n.toNat 0 x hx
    rw [← hf, ← A.ev j hj f, h, A.ev k hk f]
  · intro h
    exact canon A.si hn.2 n.toNat (-1) _ _ (by omega) (by omega) (A.rf j hj) (A.rf k hk) fun f => by rw [A.ev j hj f, h, ← A.ev k hk f]
theorem back_l8_ok (hN : 5000 ≤ N) (hn : 0 ≤ n ∧ n ≤ 5) {x : (List Nd) × (List (Nd × Int)) × (List (List Int)) × (List Int)} {i : Nat} (A : Adds n x.1 x.2.1 x.2.2.1 x.2.2.2 i) (hi : i ≤ 12) {j : Nat} (hj : j < i) : ∀ (m : Nat) (k : Nat), k ≤ j → j - k < m → law14_GuardBack_l8 N x (j : Int) m (k : Int) = some (.inl ())
  | 0, k, _, h => by omega
  | m + 1, k, k1, k2 => by
    have kl := A.kl
    have rl := A.rl
    have t32 := two_32 hn
    unfold law14_GuardBack_l8
    by_cases hk : (k : Int) < (j : Int)
    · have ih := back_l8_ok hN hn A hi hj m (k + 1) (by omega) (by omega)
      have e := kept_eq hn A hj (k := k) (by omega)
      rw [if_pos hk, Int.toNat_natCast, Int.toNat_natCast]
      unfold ask
      rw [if_pos (by unfold idx; omega), if_pos (by unfold idx; omega), if_pos (by unfold idx; omega), SameI_ok hN (by rw [(A.ls j hj).1]; omega), Option.bind_some]
      have e2 : ((x.2.2.2.getD j 0 == x.2.2.2.getD k 0) = decide (x.2.2.1.getD j [] = x.2.2.1.getD k [])) := by
        by_cases c : x.2.2.2.getD j 0 = x.2.2.2.getD k 0
        · rw [decide_eq_true (e.1 c)]
          simpa using c
        · rw [decide_eq_false fun h => c (e.2 h)]
          simpa using c
      rw [if_pos e2, if_pos (by unfold in64; omega), show ((k : Int) + 1) = ((k + 1 : Nat) : Int) by omega, ih]
    · rw [if_neg hk]
theorem back_l6_ok (hN : 5000 ≤ N) (hn : 0 ≤ n ∧ n ≤ 5) {x : (List Nd) × (List (Nd × Int)) × (List (List Int)) × (List Int)} {acc : List Bool} {gd : List Int} {i : Nat} (A : Adds n x.1 x.2.1 x.2.2.1 x.2.2.2 i) (hi : i ≤ 12) (ha : acc.length = 12) (V : Valid n acc gd x.1) (hg : ∀ j, j < i → gd.getD j 0 = x.2.2.2.getD j 0) : ∀ (m : Nat) (j : Nat), j ≤ i → i - j < m → law14_GuardBack_l6 N n x x.1 m (j : Int) = some (.inl ())
  | 0, j, _, h => by omega
  | m + 1, j, k1, k2 => by
    have kl := A.kl
    have rl := A.rl
    have t32 := two_32 hn
    have tp := two_pow hn.1
    unfold law14_GuardBack_l6
    by_cases hj : (j : Int) < (x.2.2.2.length : Int)
    · have hj' : j < i := by omega
      have ih := back_l6_ok hN hn A hi ha V hg m (j + 1) (by omega) (by omega)
      obtain ⟨t, te, t1, t2, t3⟩ := Table_ok (N := N) hN V (q := j) (by omega)
      rw [hg j hj'] at te
      have L := A.ls j hj'
      have hrow : t.1 = x.2.2.1.getD j [] := by
        refine ext_getD 0 (by rw [t2, L.1]) fun l hl => ?_
        rw [t2] at hl
        have hlv := L.2 l (by rw [L.1]; exact hl)
        rw [t3 l hl]
        have e1 : go x.1 (gd.getD j 0) (l : Int) = (x.2.2.1.getD j []).getD l 0 := by
          unfold go
          rw [goS_evf, hg j hj']
          have := A.ev j hj' (bitf (l : Int))
          unfold E at this
          rw [this]
          have hb := ixf_bit ⟨n.toNat, by omega⟩ ⟨l, by omega⟩ (by show l < 2 ^ n.toNat; omega)
          have hb' : ixf (bitf (l : Int)) 0 n.toNat = l := hb
          rw [hb']
        unfold stp
        rw [e1]
        omega
      have hj7 : law14_GuardBack_j7 N x (j : Int) t = some false := by
        unfold law14_GuardBack_j7
        rw [if_pos t1, Int.toNat_natCast]
        unfold ask
        rw [if_pos (by unfold idx; omega), SameI_ok hN (by rw [t2]; omega), decide_eq_true hrow]
        rfl
      have h8 := back_l8_ok (N := N) hN hn A hi hj' N 0 (by omega) (by omega)
      have e8 : law14_GuardBack_l8 N x (j : Int) N 0 = some (.inl ()) := h8
      rw [if_pos hj, Int.toNat_natCast]
      unfold ask
      rw [if_pos (by unfold idx; omega), te, Option.bind_some, hj7, Option.bind_some, if_neg Bool.false_ne_true, e8, Option.bind_some, Sum.elim_inl, if_pos (by unfold in64; omega), show ((j : Int) + 1) = ((j + 1 : Nat) : Int) by omega, ih]
    · rw [if_neg hj]
end

theorem guardBack_true {n : Int} {lists : List (List Int)} : law14_GuardBack 1000000 n lists = some true := by
  have hN : 5000 ≤ 1000000 := by omega
  refine Ok.eq ?_
  unfold law14_GuardBack
  refine (Pick_ok (by omega) (by omega)).bind fun k ⟨k0, k1⟩ => ?_
  have hn : 0 ≤ k ∧ k ≤ 5 := by omega
  have hnew : guard_New 1000000 k = some (.inr 0) := by
    unfold guard_New
    rw [if_neg (by omega), if_neg (by omega)]
  rw [hnew]
  simp only [Option.bind_some, Sum.elim_inr, if_true]
  refine (back_l0_ok hN hn 1000000 [] [] [] [] 0 (by omega) (by omega) ⟨⟨fun i h => by simp at h, fun i j h => by simp at h, fun i h => by simp at h, fun x v h => by cases h⟩, by simp, rfl, rfl, fun j h => by omega, fun j h => by omega, fun j h => by omega⟩).bind fun r ⟨x, i, e, hi, A⟩ => ?_
  subst e
  simp only [Sum.elim_inl]
  have rl := A.rl
  refine (back_l4_ok (N := 1000000) (x := x) (by omega) 1000000 [] [] 0 (by omega) (by omega) rfl rfl fun j h => by omega).bind fun ag ⟨g1, g2, g3⟩ => ?_
  have hnodes : guard_Store_Nodes 1000000 k x.1 x.2.1 = some x.1 := by
    unfold guard_Store_Nodes guard_Store_none ask
    simp only [Option.bind_some, Bool.false_eq_true, if_false]
    rw [if_pos (by have := A.few; simp; omega)]
    rfl
  rw [hnodes]
  simp only [Option.bind_some]
  have few := A.few
  have g12 : ∀ ref below above, Rf x.1 below above ref → Good ag.1.length x.1 ref below above := fun ref below above h => by
    rw [g1]
    exact h.imp (fun h => ⟨h.2, h.1⟩) id
  have V : Valid k ag.1 ag.2 x.1 := ⟨hn.1, by omega, by omega, by omega, by omega, by omega, fun j hj => by
    obtain ⟨a, b, _, c, d⟩ := A.si.ok j hj
    exact ⟨a, b, g12 _ _ _ c, g12 _ _ _ d⟩, fun j hj => by
    rw [g3 j (by omega)]
    by_cases c : j < x.2.2.2.length
    · rw [if_pos c]
      exact g12 _ _ _ (A.rf j (by omega))
    · rw [if_neg c]
      exact .inl ⟨by omega, by omega⟩⟩
  have h6 := back_l6_ok (N := 1000000) hN hn A hi g1 V (fun j hj => by rw [g3 j (by omega), if_pos (by omega)]) 1000000 0 (by omega) (by omega)
  have e6 : law14_GuardBack_l6 1000000 k x x.1 1000000 0 = some (.inl ()) := h6
  rw [e6]
  simp only [Option.bind_some, Sum.elim_inl]
  unfold law14_GuardBack_j9
  rw [check_of hN V (fun j hj => (A.si.ok j hj).2.2.1) A.si.dis]
  simp only [Option.bind_some, if_true]
  unfold guard_Store_Len guard_Store_none
  simp only [Option.bind_some, Bool.false_eq_true, if_false, beq_self_eq_true]
  exact Ok.pure rfl

theorem guardBack_row (w0 : World) (n : Int) (A1 : Option Addr) (c1 : Nat) (lists : List (List Int)) (k1 : lists.length ≤ c1) (C1 : C (cSl (cInt .i64)) w0 (Lo w0.heap.size) A1 lists) :
    Calls Try.prog 6 #[.int .i64 n, .slice A1 lists.length c1] w0 fun e w' => ∃ v, e = .returned v ∧ (v = .bool true ∧ Ext w0 w') :=
  (law14_GuardBack_calls A1 c1 n lists k1 ((Hp.start w0).arg C1) guardBack_true).mono fun e w' ⟨v, he, hv, H⟩ => ⟨v, he, hv, H.chgd.own⟩
end Go.V
