/- Plain theory: the trace that parts two states. No program. -/
import Derived.Test.YteiemajlkgdhaaaPX
set_option linter.all false
set_option linter.unusedVariables false
set_option maxRecDepth 100000
namespace Go.V
open Go

/-! ### lists, the other way round -/
theorem rev_getD {xs : List Int} {k : Nat} (h : k < xs.length) : xs.reverse.getD k 0 = xs.getD (xs.length - 1 - k) 0 := by
  rw [List.getD_eq_getElem?_getD, List.getD_eq_getElem?_getD, List.getElem?_reverse h]
theorem Reverse_l0_ok {N : Nat} {xs : List Int} (hl : xs.length ≤ 1000000000) : ∀ (m : Nat) (s : List Int) (i : Nat), (i : Int) ≤ xs.length → (xs.length : Int) + 1 - 2 * i < m → 2 * i ≤ xs.length + 1 → s.length = xs.length → (∀ k, k < xs.length → s.getD k 0 = if k < i ∨ xs.length - 1 - i < k then xs.getD (xs.length - 1 - k) 0 else xs.getD k 0) →
    slices_Reverse_api_Letter_api_Letter_l0 N m s (i : Int) ((xs.length : Int) - 1 - i) = some xs.reverse
  | 0, s, i, _, h, h2, hs, hk => by
    omega
  | m + 1, s, i, k0, k1, k2, hs, hk => by
    unfold slices_Reverse_api_Letter_api_Letter_l0
    by_cases c : (i : Int) < (xs.length : Int) - 1 - i
    · rw [if_pos c]
      have e1 : ((xs.length : Int) - 1 - i).toNat = xs.length - 1 - i := by omega
      unfold ask
      rw [if_pos (by unfold idx; omega), if_pos (by unfold idx; omega), if_pos (by unfold idx; simp; omega), if_pos (by unfold in64; omega), if_pos (by unfold in64; omega)]
      rw [Int.toNat_natCast, e1, show ((i : Int) + 1) = ((i + 1 : Nat) : Int) by omega, show ((xs.length : Int) - 1 - (i : Int) - 1) = (xs.length : Int) - 1 - ((i + 1 : Nat) : Int) by omega]
      refine Reverse_l0_ok hl m _ (i + 1) (by omega) (by omega) (by omega) (by simpa using hs) fun k hk2 => ?_
      rw [getD_set (by simp; omega), getD_set (by omega)]
      have a := hk i (by omega)
      rw [if_neg (by omega)] at a
      have b := hk (xs.length - 1 - i) (by omega)
      rw [if_neg (by omega)] at b
      by_cases c1 : xs.length - 1 - i = k
      · rw [if_pos c1, if_pos (by omega), a]
        congr 1; omega
      · rw [if_neg c1]
        by_cases c2 : i = k
        · rw [if_pos c2, if_pos (by omega), b]
          congr 1; omega
        · rw [if_neg c2, hk k hk2]
          by_cases c3 : k < i ∨ xs.length - 1 - i < k
          · rw [if_pos c3, if_pos (by omega)]
          · rw [if_neg c3, if_neg (by omega)]
    · rw [if_neg c]
      congr 1
      refine ext_getD 0 (by simp [hs]) fun k hk2 => ?_
      rw [rev_getD (by omega), hk k (by omega)]
      by_cases c3 : k < i ∨ xs.length - 1 - i < k
      · rw [if_pos c3]
      · rw [if_neg c3]
        congr 1; omega
theorem Reverse_ok {N : Nat} {xs : List Int} (hN : 5000 ≤ N) (hl : xs.length ≤ N - 100) (h2 : xs.length ≤ 1000000000) : slices_Reverse_api_Letter_api_Letter N xs = some xs.reverse := by
  unfold slices_Reverse_api_Letter_api_Letter ask
  rw [if_pos (by unfold in64; omega)]
  have := Reverse_l0_ok (N := N) h2 N xs 0 (by omega) (by omega) (by omega) rfl fun k hk => by rw [if_neg (by omega)]
  rw [show ((xs.length : Int) - 1 - ((0 : Nat) : Int)) = (xs.length : Int) - 1 by omega] at this
  have e : slices_Reverse_api_Letter_api_Letter_l0 N N xs 0 ((xs.length : Int) - 1) = some xs.reverse := this
  rw [e]
  rfl

section
variable {N : Nat} {p : Int} {acc : List Bool} {gd : List Int} {nd : List Nd} {wh : List (List Int)}
abbrev Ent1 := Int × Int × Int × Int
/-- the queue of pairs, and what was met -/
structure QInv (nd : List Nd) (gd : List Int) (n L : Nat) (p0 q0 : Nat) (qu : List Ent1) (met : List ((Int × Int) × Bool)) : Prop where
  ne : 1 ≤ qu.length
  ent : ∀ i, i < qu.length → ∃ p q : Nat, p < n ∧ q < n ∧ ∃ t : List Nat, t.length ≤ i ∧ (∀ l ∈ t, l < L) ∧ runT nd gd p0 t = p ∧ runT nd gd q0 t = q ∧ (qu.getD i (0, 0, 0, 0)).1 = p ∧ (qu.getD i (0, 0, 0, 0)).2.1 = q
  link : ∀ i, i < qu.length → (i = 0 ∧ (qu.getD i (0, 0, 0, 0)) = ((p0 : Int), (q0 : Int), -1, 0)) ∨ (∃ f l : Nat, f < i ∧ l < L ∧ ∃ p q : Nat, p < n ∧ q < n ∧ (qu.getD f (0, 0, 0, 0)).1 = p ∧ (qu.getD f (0, 0, 0, 0)).2.1 = q ∧ qu.getD i (0, 0, 0, 0) = ((stp nd gd p l : Int), (stp nd gd q l : Int), (f : Int), (l : Int)))
  vals : ∀ y ∈ met, y.2 = true
  mt : ∀ p q : Nat, p < n → q < n → (mget met ((p : Int), (q : Int)) = some true ↔ ∃ i, i < qu.length ∧ (qu.getD i (0, 0, 0, 0)).1 = p ∧ (qu.getD i (0, 0, 0, 0)).2.1 = q)
  few : qu.length ≤ cnt ((List.range (n * n)).map fun k => if mget met (((k / n : Nat) : Int), ((k % n : Nat) : Int)) = some true then (0 : Int) else -1)
theorem QInv.bound {n L p0 q0 : Nat} {qu : List Ent1} {met : List ((Int × Int) × Bool)} (I : QInv nd gd n L p0 q0 qu met) : qu.length ≤ n * n := by
  have := I.few
  have h := cnt_le ((List.range (n * n)).map fun k => if mget met (((k / n : Nat) : Int), ((k % n : Nat) : Int)) = some true then (0 : Int) else -1)
  rw [List.length_map, List.length_range] at h
  omega
theorem QInv.snoc {n L p0 q0 : Nat} (hn : 1 ≤ n) {qu : List Ent1} {met : List ((Int × Int) × Bool)} (I : QInv nd gd n L p0 q0 qu met) {x l a b : Nat} (hx : x < qu.length) (hl : l < L) (ha : a < n) (hb : b < n) (e1 : (qu.getD x (0, 0, 0, 0)).1 = a) (e2 : (qu.getD x (0, 0, 0, 0)).2.1 = b) (hsa : stp nd gd a l < n) (hsb : stp nd gd b l < n)
    (hm : mget met ((stp nd gd a l : Int), (stp nd gd b l : Int)) = none) : QInv nd gd n L p0 q0 (qu ++ [((stp nd gd a l : Int), (stp nd gd b l : Int), (x : Int), (l : Int))]) (met ++ [(((stp nd gd a l : Int), (stp nd gd b l : Int)), true)]) := by
  have old : ∀ i, i < qu.length → (qu ++ [((stp nd gd a l : Int), (stp nd gd b l : Int), (x : Int), (l : Int))]).getD i (0, 0, 0, 0) = qu.getD i (0, 0, 0, 0) := fun i hi => by rw [getD_snoc, if_neg (by omega)]
  have new : (qu ++ [((stp nd gd a l : Int), (stp nd gd b l : Int), (x : Int), (l : Int))]).getD qu.length (0, 0, 0, 0) = ((stp nd gd a l : Int), (stp nd gd b l : Int), (x : Int), (l : Int)) := by rw [getD_snoc, if_pos rfl]
  have hmet : ∀ k, mget (met ++ [(((stp nd gd a l : Int), (stp nd gd b l : Int)), true)]) k = some true ↔ mget met k = some true ∨ ((stp nd gd a l : Int), (stp nd gd b l : Int)) = k := fun k => by
    rw [mget_app]
    cases h : mget met k with
    | some u =>
      simp only []
      refine ⟨.inl, fun h2 => h2.elim id fun h3 => ?_⟩
      rw [← h3, hm] at h
      cases h
    | none =>
      simp only []
      by_cases c : ((stp nd gd a l : Int), (stp nd gd b l : Int)) = k
      · rw [if_pos c]; exact ⟨fun _ => .inr c, fun _ => rfl⟩
      · rw [if_neg c]; exact ⟨fun h2 => (by cases h2), fun h2 => h2.elim (fun h3 => (by cases h3)) fun h3 => absurd h3 c⟩
  refine ⟨by simp, fun i hi => ?_, fun i hi => ?_, fun y hy => ?_, fun p q hp hq => ?_, ?_⟩
  · have hi' : i < qu.length + 1 := by simpa using hi
    by_cases c : i = qu.length
    · subst c
      rw [new]
      obtain ⟨pp, qq, h1, h2, t, t0, t1, t2, t3, t4, t5⟩ := I.ent x hx
      have ea : pp = a := by rw [e1] at t4; omega
      have eb : qq = b := by rw [e2] at t5; omega
      subst ea; subst eb
      exact ⟨_, _, hsa, hsb, t ++ [l], by simp; omega, fun y hy => by rcases List.mem_append.1 hy with h | h; (· exact t1 y h); (· rw [List.mem_singleton] at h; omega), by rw [runT_snoc, t2], by rw [runT_snoc, t3], rfl, rfl⟩
    · rw [old i (by omega)]
      exact I.ent i (by omega)
  · have hi' : i < qu.length + 1 := by simpa using hi
    by_cases c : i = qu.length
    · subst c
      rw [new]
      refine .inr ⟨x, l, hx, hl, a, b, ha, hb, ?_, ?_, rfl⟩
      · rw [old x hx]; exact e1
      · rw [old x hx]; exact e2
    · rw [old i (by omega)]
      rcases I.link i (by omega) with h | ⟨f, l2, h1, h2, p2, q2, h3, h4, h5, h6, h7⟩
      · exact .inl h
      · exact .inr ⟨f, l2, h1, h2, p2, q2, h3, h4, by rw [old f (by omega)]; exact h5, by rw [old f (by omega)]; exact h6, h7⟩
  · rcases List.mem_append.1 hy with h | h
    · exact I.vals y h
    · rw [List.mem_singleton] at h; rw [h]
  · rw [hmet, I.mt p q hp hq]
    constructor
    · rintro (⟨i, hi, h1, h2⟩ | h)
      · exact ⟨i, by simp; omega, by rw [old i hi]; exact h1, by rw [old i hi]; exact h2⟩
      · refine ⟨qu.length, by simp, ?_, ?_⟩
        · rw [new]; exact congrArg Prod.fst h
        · rw [new]; exact congrArg Prod.snd h
    · rintro ⟨i, hi, h1, h2⟩
      have hi' : i < qu.length + 1 := by simpa using hi
      by_cases c : i = qu.length
      · subst c
        rw [new] at h1 h2
        exact .inr (by rw [← h1, ← h2])
      · rw [old i (by omega)] at h1 h2
        exact .inl ⟨i, by omega, h1, h2⟩
  · have few := I.few
    have hj : n * stp nd gd a l + stp nd gd b l < n * n := by
      have : n * stp nd gd a l + n ≤ n * n := by
        have h1 := Nat.mul_le_mul_left n (show stp nd gd a l + 1 ≤ n by omega)
        rw [Nat.mul_add, Nat.mul_one] at h1
        exact h1
      omega
    have d1 : (n * stp nd gd a l + stp nd gd b l) / n = stp nd gd a l := by
      rw [Nat.mul_add_div (by omega), Nat.div_eq_of_lt hsb, Nat.add_zero]
    have d2 : (n * stp nd gd a l + stp nd gd b l) % n = stp nd gd b l := by
      rw [Nat.mul_add_mod, Nat.mod_eq_of_lt hsb]
    have gk : ∀ (mm : List ((Int × Int) × Bool)) (k : Nat), k < n * n → ((List.range (n * n)).map fun k => if mget mm (((k / n : Nat) : Int), ((k % n : Nat) : Int)) = some true then (0 : Int) else -1).getD k 0 = if mget mm (((k / n : Nat) : Int), ((k % n : Nat) : Int)) = some true then (0 : Int) else -1 := fun mm k hk => by
      rw [List.getD_eq_getElem?_getD, List.getElem?_map, List.getElem?_range hk]
      rfl
    have := cnt_lt ((List.range (n * n)).map fun k => if mget met (((k / n : Nat) : Int), ((k % n : Nat) : Int)) = some true then (0 : Int) else -1) ((List.range (n * n)).map fun k => if mget (met ++ [(((stp nd gd a l : Int), (stp nd gd b l : Int)), true)]) (((k / n : Nat) : Int), ((k % n : Nat) : Int)) = some true then (0 : Int) else -1) (by simp) (fun k hk h0 => ?_) (n * stp nd gd a l + stp nd gd b l) (by simpa using hj) ?_ ?_
    · rw [List.length_append, List.length_singleton]; omega
    · have hk' : k < n * n := by simpa using hk
      rw [gk _ k hk'] at h0 ⊢
      by_cases c : mget met (((k / n : Nat) : Int), ((k % n : Nat) : Int)) = some true
      · rw [if_pos ((hmet _).2 (.inl c))]; omega
      · rw [if_neg c] at h0; omega
    · rw [gk _ _ hj, d1, d2, if_neg (by rw [hm]; exact fun h => by cases h)]
      omega
    · rw [gk _ _ hj, d1, d2, if_pos ((hmet _).2 (.inr rfl))]
      omega
theorem QInv.start {n L p0 q0 : Nat} (hp : p0 < n) (hq : q0 < n) : QInv nd gd n L p0 q0 [((p0 : Int), (q0 : Int), -1, 0)] [(((p0 : Int), (q0 : Int)), true)] := by
  have hj : n * p0 + q0 < n * n := by
    have : n * p0 + n ≤ n * n := by
      have h1 := Nat.mul_le_mul_left n (show p0 + 1 ≤ n by omega)
      rw [Nat.mul_add, Nat.mul_one] at h1
      exact h1
    omega
  refine ⟨by simp, fun i hi => ?_, fun i hi => ?_, fun y hy => ?_, fun p q h1 h2 => ?_, ?_⟩
  · have : i = 0 := by simpa using hi
    subst this
    exact ⟨p0, q0, hp, hq, [], by simp, fun l hl => (by cases hl), rfl, rfl, rfl, rfl⟩
  · have : i = 0 := by simpa using hi
    subst this
    exact .inl ⟨rfl, rfl⟩
  · rw [List.mem_singleton] at hy; rw [hy]
  · unfold mget
    by_cases c : ((p0 : Int), (q0 : Int)) = ((p : Int), (q : Int))
    · rw [if_pos c]
      exact ⟨fun _ => ⟨0, by simp, congrArg Prod.fst c, congrArg Prod.snd c⟩, fun _ => rfl⟩
    · rw [if_neg c]
      refine ⟨fun h => (by cases h), fun ⟨i, hi, h3, h4⟩ => ?_⟩
      have : i = 0 := by simpa using hi
      subst this
      exact absurd (Prod.ext h3 h4) c
  · have d1 : (n * p0 + q0) / n = p0 := by rw [Nat.mul_add_div (by omega), Nat.div_eq_of_lt hq, Nat.add_zero]
    have d2 : (n * p0 + q0) % n = q0 := by rw [Nat.mul_add_mod, Nat.mod_eq_of_lt hq]
    have := cnt_lt (List.replicate (n * n) (-1 : Int)) ((List.range (n * n)).map fun k => if mget [(((p0 : Int), (q0 : Int)), true)] (((k / n : Nat) : Int), ((k % n : Nat) : Int)) = some true then (0 : Int) else -1) (by simp) (fun k hk h0 => ?_) (n * p0 + q0) (by simpa using hj) ?_ ?_
    · show 1 ≤ _; omega
    · have hk' : k < n * n := by simpa using hk
      rw [List.getD_eq_getElem?_getD, List.getElem?_replicate, if_pos hk'] at h0
      exact absurd h0 (by decide)
    · rw [List.getD_eq_getElem?_getD, List.getElem?_replicate, if_pos hj]
      decide
    · rw [List.getD_eq_getElem?_getD, List.getElem?_map, List.getElem?_range hj]
      show (0 : Int) ≤ if mget [(((p0 : Int), (q0 : Int)), true)] ((((n * p0 + q0) / n : Nat) : Int), (((n * p0 + q0) % n : Nat) : Int)) = some true then (0 : Int) else -1
      rw [d1, d2]
      unfold mget
      rw [if_pos rfl, if_pos rfl]
      omega

theorem Parts_l2_ok (hN : 5000 ≤ N) (V : Valid p acc gd nd) (T : Tab nd gd acc.length (two p) wh) {p0 q0 : Nat} {qu0 : List Ent1} {x a b : Nat} (hx : x < qu0.length) (ha : a < acc.length) (hb : b < acc.length) (e1 : (qu0.getD x (0, 0, 0, 0)).1 = a) (e2 : (qu0.getD x (0, 0, 0, 0)).2.1 = b) : ∀ (m : Nat) (qu : List Ent1) (met : List ((Int × Int) × Bool)) (y : Nat), y ≤ two p → two p - y < m → QInv nd gd acc.length (two p) p0 q0 qu met → qu0.length ≤ qu.length → (∀ i, i < qu0.length → qu.getD i (0, 0, 0, 0) = qu0.getD i (0, 0, 0, 0)) → (∀ l, l < y → mget met ((stp nd gd a l : Int), (stp nd gd b l : Int)) = some true) →
    Ok (part_Parts_l2 N wh qu0 (x : Int) m qu met (y : Int)) fun r => QInv nd gd acc.length (two p) p0 q0 r.1 r.2 ∧ qu0.length ≤ r.1.length ∧ (∀ i, i < qu0.length → r.1.getD i (0, 0, 0, 0) = qu0.getD i (0, 0, 0, 0)) ∧ (∀ l, l < two p → mget r.2 ((stp nd gd a l : Int), (stp nd gd b l : Int)) = some true) ∧ ∀ k, mget met k = some true → mget r.2 k = some true
  | 0, qu, met, y, _, h, _, _, _, _ => by omega
  | m + 1, qu, met, y, k1, k2, I, hle, hsame, hdone => by
    have a1 := V.a1
    have a2 := V.a2
    have sh := shl_two ⟨V.p0, V.p8⟩
    have hb2 := I.bound
    have hnn : acc.length * acc.length ≤ 65536 := Nat.mul_le_mul a2 a2
    unfold part_Parts_l2
    rw [Int.toNat_natCast, e1, e2, Int.toNat_natCast, Int.toNat_natCast, T.row a ha, T.row b hb]
    refine Ok.ite (fun hy => ?_) fun hy => Ok.pure ⟨I, hle, hsame, fun l hl => hdone l (by omega), fun k hk => hk⟩
    have hy' : y < two p := by omega
    rw [Int.toNat_natCast, T.at_ a y ha hy', T.at_ b y hb hy', show IntKind.u8.wrap (y : Int) = (y : Int) from wrap_u8 (by omega) (by omega)]
    have ha' := (stp_eq V ha y).2
    have hb' := (stp_eq V hb y).2
    refine Ok.ask (by unfold idx; omega) (Ok.ask (by unfold idx; have := T.len; omega) (Ok.ask (by unfold idx; omega) (Ok.ask ⟨by unfold in64; show -9223372036854775808 ≤ (stp nd gd a y : Int) ∧ _; omega, by unfold in64; show -9223372036854775808 ≤ (stp nd gd b y : Int) ∧ _; omega⟩ ?_)))
    have ey : ((y : Int) + 1) = ((y + 1 : Nat) : Int) := by omega
    refine Ok.ite (fun hm => ?_) fun hm => ?_
    · refine Ok.ask (by unfold in64; omega) ?_
      rw [ey]
      refine Parts_l2_ok hN V T hx ha hb e1 e2 m qu met (y + 1) (by omega) (by omega) I hle hsame fun l hl => ?_
      by_cases c : l = y
      · subst c
        cases h : mget met ((stp nd gd a l : Int), (stp nd gd b l : Int)) with
        | none => rw [h] at hm; cases hm
        | some u => rw [h] at hm; rw [show u = true from hm]
      · exact hdone l (by omega)
    · have hnone : mget met ((stp nd gd a y : Int), (stp nd gd b y : Int)) = none := by
        cases h : mget met ((stp nd gd a y : Int), (stp nd gd b y : Int)) with
        | none => rfl
        | some u =>
          exfalso
          rw [h] at hm
          have hu : u = true := by
            have mem : ∀ (mm : List ((Int × Int) × Bool)) k v, mget mm k = some v → (k, v) ∈ mm := fun mm => by
              induction mm with
              | nil => intro k v h; cases h
              | cons z r ih =>
                intro k v h
                unfold mget at h
                by_cases c : z.1 = k
                · rw [if_pos c] at h
                  have := Option.some.inj h
                  rw [← c, ← this]
                  exact List.mem_cons_self
                · rw [if_neg c] at h
                  exact List.mem_cons_of_mem _ (ih k v h)
            exact I.vals _ (mem met _ u h)
          exact hm hu
      refine Ok.ask hnone (Ok.ask (by simp; omega) (Ok.ask (by unfold in64; omega) ?_))
      rw [ey]
      have J := I.snoc a1 (x := x) (l := y) (a := a) (b := b) (by omega) hy' ha hb (by rw [hsame x hx]; exact e1) (by rw [hsame x hx]; exact e2) ha' hb' hnone
      refine (Parts_l2_ok hN V T hx ha hb e1 e2 m _ _ (y + 1) (by omega) (by omega) J (by simp; omega) (fun i hi => ?_) fun l hl => ?_).mono fun r ⟨r1, r2, r3, r4, r5⟩ => ⟨r1, r2, r3, r4, fun k hk => r5 k (mget_app_some hk)⟩
      · rw [getD_snoc, if_neg (by omega)]; exact hsame i hi
      · by_cases c : l = y
        · subst c
          rw [mget_app_none hnone, if_pos rfl]
        · exact mget_app_some (hdone l (by omega))
theorem Parts_l1_ok {n L p0 q0 : Nat} {qu : List Ent1} {met : List ((Int × Int) × Bool)} (I : QInv nd gd n L p0 q0 qu met) (hq : qu.length ≤ 70000) : ∀ (m i : Nat), i < qu.length → i < m → ∀ (out : List Int), out.length + i ≤ 100000 → ∃ t : List Nat, t.length ≤ i ∧ (∀ l ∈ t, l < L) ∧ (runT nd gd p0 t : Int) = (qu.getD i (0, 0, 0, 0)).1 ∧ (runT nd gd q0 t : Int) = (qu.getD i (0, 0, 0, 0)).2.1 ∧
    part_Parts_l1 N qu m (qu.getD i (0, 0, 0, 0)).1 (qu.getD i (0, 0, 0, 0)).2.1 (qu.getD i (0, 0, 0, 0)).2.2.1 (qu.getD i (0, 0, 0, 0)).2.2.2 out = some (out ++ (t.map fun l : Nat => (l : Int)).reverse)
  | 0, i, _, h, _, _ => by omega
  | m + 1, i, hi, hm, out, ho => by
    rcases I.link i hi with ⟨rfl, e⟩ | ⟨f, l, hf, hl, p, q, hp, hq2, e1, e2, e⟩
    · rw [e]
      refine ⟨[], by simp, fun l hl => (by cases hl), rfl, rfl, ?_⟩
      unfold part_Parts_l1
      rw [if_neg (show ¬ (0 : Int) ≤ -1 by decide)]
      simp
    · have hmf : f < m := by omega
      obtain ⟨t, t0, t1, t2, t3, t4⟩ := Parts_l1_ok I hq m f (by omega) hmf (out ++ [(l : Int)]) (by simp; omega)
      rw [e]
      refine ⟨t ++ [l], by simp; omega, fun y hy => by rcases List.mem_append.1 hy with h | h; (· exact t1 y h); (· rw [List.mem_singleton] at h; omega), ?_, ?_, ?_⟩
      · rw [runT_snoc]
        have : runT nd gd p0 t = p := by rw [e1] at t2; omega
        rw [this]
      · rw [runT_snoc]
        have : runT nd gd q0 t = q := by rw [e2] at t3; omega
        rw [this]
      · unfold part_Parts_l1
        dsimp only
        rw [if_pos (by omega)]
        unfold ask
        rw [if_pos (by simp; omega), if_pos (by unfold idx; omega), Int.toNat_natCast, t4]
        simp
theorem Parts_l0_ok (hN : 500000 ≤ N) (V : Valid p acc gd nd) (T : Tab nd gd acc.length (two p) wh) {p0 q0 : Nat} (hp0 : p0 < acc.length) (hq0 : q0 < acc.length) : ∀ (m : Nat) (qu : List Ent1) (met : List ((Int × Int) × Bool)) (x : Nat), x ≤ qu.length → acc.length * acc.length + 1 - x ≤ m → 1 ≤ m → QInv nd gd acc.length (two p) p0 q0 qu met →
    (∀ i, i < x → ∃ a b : Nat, a < acc.length ∧ b < acc.length ∧ (qu.getD i (0, 0, 0, 0)).1 = a ∧ (qu.getD i (0, 0, 0, 0)).2.1 = b ∧ acc.getD a false = acc.getD b false ∧ ∀ l, l < two p → mget met ((stp nd gd a l : Int), (stp nd gd b l : Int)) = some true) →
    Ok (part_Parts_l0 N acc wh m qu met (x : Int)) fun r => (r = .inl () ∧ ∀ t : List Nat, (∀ l ∈ t, l < two p) → acc.getD (runT nd gd p0 t) false = acc.getD (runT nd gd q0 t) false) ∨ ∃ t : List Nat, r = .inr (t.map (fun l : Nat => (l : Int)), true, 0) ∧ t.length ≤ 70000 ∧ (∀ l ∈ t, l < two p) ∧ acc.getD (runT nd gd p0 t) false ≠ acc.getD (runT nd gd q0 t) false
  | 0, qu, met, x, _, _, h, _, _ => by omega
  | m + 1, qu, met, x, k1, k2, _, I, hd => by
    have a1 := V.a1
    have a2 := V.a2
    have hb := I.bound
    have hnn : acc.length * acc.length ≤ 65536 := Nat.mul_le_mul a2 a2
    unfold part_Parts_l0
    refine Ok.ite (fun hx => ?_) fun hx => Ok.pure (.inl ⟨rfl, fun t ht => ?_⟩)
    · have hx' : x < qu.length := by omega
      obtain ⟨a, b, ha, hb', t, t0, t1, t2, t3, e1, e2⟩ := I.ent x hx'
      rw [Int.toNat_natCast]
      refine Ok.ask (by unfold idx; omega) (Ok.ask (by rw [e1]; unfold idx; omega) (Ok.ask (by rw [e2]; unfold idx; omega) ?_))
      have en1 : (qu.getD x (0, 0, 0, 0)).1.toNat = a := by rw [e1]; omega
      have en2 : (qu.getD x (0, 0, 0, 0)).2.1.toNat = b := by rw [e2]; omega
      rw [en1, en2]
      refine Ok.ite (fun hac => ?_) fun hac => ?_
      · refine Ok.ask (by rw [e1]; unfold idx; have := T.len; omega) ?_
        have sh := shl_two ⟨V.p0, V.p8⟩
        refine (Parts_l2_ok (by omega) V T hx' ha hb' e1 e2 N qu met 0 (by omega) (by omega) I (Nat.le_refl _) (fun i hi => rfl) fun l hl => by omega).bind fun r ⟨r1, r2, r3, r4, r5⟩ => ?_
        refine Ok.ask (by unfold in64; omega) ?_
        rw [show ((x : Int) + 1) = ((x + 1 : Nat) : Int) by omega]
        refine Parts_l0_ok hN V T hp0 hq0 m r.1 r.2 (x + 1) (by omega) (by omega) (by omega) r1 fun i hi => ?_
        by_cases c : i = x
        · subst c
          exact ⟨a, b, ha, hb', by rw [r3 i hx']; exact e1, by rw [r3 i hx']; exact e2, hac, r4⟩
        · obtain ⟨a', b', g1, g2, g3, g4, g5, g6⟩ := hd i (by omega)
          exact ⟨a', b', g1, g2, by rw [r3 i (by omega)]; exact g3, by rw [r3 i (by omega)]; exact g4, g5, fun l hl => r5 _ (g6 l hl)⟩
      · obtain ⟨u, u0, u1, u2, u3, u4⟩ := Parts_l1_ok (N := N) I (by omega) N x hx' (by omega) [] (by simp; omega)
        rw [u4]
        simp only [Option.bind_some, List.nil_append]
        rw [Reverse_ok (by omega) (by simp; omega) (by simp; omega), List.reverse_reverse]
        refine Ok.pure (.inr ⟨u, rfl, by omega, u1, ?_⟩)
        have : runT nd gd p0 u = a := by rw [e1] at u2; omega
        rw [this]
        have : runT nd gd q0 u = b := by rw [e2] at u3; omega
        rw [this]
        exact hac
    · have hxe : x = qu.length := by omega
      have step : ∀ a b : Nat, a < acc.length → b < acc.length → mget met ((a : Int), (b : Int)) = some true → acc.getD a false = acc.getD b false ∧ ∀ l, l < two p → mget met ((stp nd gd a l : Int), (stp nd gd b l : Int)) = some true := fun a b ha hb' hm => by
        obtain ⟨i, hi, h1, h2⟩ := (I.mt a b ha hb').1 hm
        obtain ⟨a', b', g1, g2, g3, g4, g5, g6⟩ := hd i (by omega)
        have : a' = a := by rw [h1] at g3; omega
        subst this
        have : b' = b := by rw [h2] at g4; omega
        subst this
        exact ⟨g5, g6⟩
      have all : ∀ (t : List Nat), (∀ l ∈ t, l < two p) → ∀ a b : Nat, a < acc.length → b < acc.length → mget met ((a : Int), (b : Int)) = some true → acc.getD (runT nd gd a t) false = acc.getD (runT nd gd b t) false := fun t => by
        induction t with
        | nil => intro _ a b ha hb' hm; exact (step a b ha hb' hm).1
        | cons l r ih =>
          intro ht a b ha hb' hm
          exact ih (fun y hy => ht y (List.mem_cons_of_mem _ hy)) _ _ (stp_eq V ha l).2 (stp_eq V hb' l).2 ((step a b ha hb' hm).2 l (ht l List.mem_cons_self))
      refine all t ht p0 q0 hp0 hq0 ((I.mt p0 q0 hp0 hq0).2 ⟨0, I.ne, ?_, ?_⟩)
      · rcases I.link 0 I.ne with ⟨_, e⟩ | ⟨f, l, hf, _⟩
        · rw [e]
        · omega
      · rcases I.link 0 I.ne with ⟨_, e⟩ | ⟨f, l, hf, _⟩
        · rw [e]
        · omega
theorem asked_l0_ok {ll : List Int} (hl : ∀ x ∈ ll, 0 ≤ x ∧ x < acc.length) (h2 : ll.length ≤ 1000) : ∀ (m : Nat) (x : Int), 0 ≤ x → x ≤ ll.length → (ll.length : Int) - x < m → part_asked_l0 N acc ll m x = some (.inl ())
  | 0, x, _, _, h => by omega
  | m + 1, x, k0, k1, k2 => by
    unfold part_asked_l0
    by_cases hx : x < (ll.length : Int)
    · have := hl _ (getD_mem (d := 0) k0 hx)
      have ih := asked_l0_ok hl h2 m (x + 1) (by omega) (by omega) (by omega)
      rw [if_pos hx]
      unfold ask
      rw [if_pos (by unfold idx; omega), if_neg (by omega), if_neg (by omega), if_pos (by unfold in64; omega), ih]
    · rw [if_neg hx]
theorem asked_ok (hN : 5000 ≤ N) (hC : guard_Check N p acc gd nd = some 0) {ll : List Int} (hl : ∀ x ∈ ll, 0 ≤ x ∧ x < acc.length) (h2 : ll.length ≤ 1000) : part_asked N p acc gd nd ll = some 0 := by
  unfold part_asked
  rw [hC]
  simp only [Option.bind_some]
  rw [if_pos trivial, asked_l0_ok hl h2 N 0 (by omega) (by omega) (by omega)]
  rfl
theorem Parts_ok (hN : 500000 ≤ N) (V : Valid p acc gd nd) (hC : guard_Check N p acc gd nd = some 0) {p0 q0 : Nat} (hp0 : p0 < acc.length) (hq0 : q0 < acc.length) :
    Ok (part_Parts N p acc gd nd (p0 : Int) (q0 : Int)) fun r => (r = ([], false, 0) ∧ ∀ t : List Nat, (∀ l ∈ t, l < two p) → acc.getD (runT nd gd p0 t) false = acc.getD (runT nd gd q0 t) false) ∨ ∃ t : List Nat, r = (t.map (fun l : Nat => (l : Int)), true, 0) ∧ t.length ≤ 70000 ∧ (∀ l ∈ t, l < two p) ∧ acc.getD (runT nd gd p0 t) false ≠ acc.getD (runT nd gd q0 t) false := by
  have a1 := V.a1
  have a2 := V.a2
  have hnn : acc.length * acc.length ≤ 65536 := Nat.mul_le_mul a2 a2
  unfold part_Parts
  rw [asked_ok (by omega) hC (fun x hx => ?_) (by simp)]
  · simp only [Option.bind_some]
    rw [if_pos trivial]
    refine (rows_ok (by omega) V).bind fun wh T => ?_
    refine Ok.ask ⟨by unfold in64; show -9223372036854775808 ≤ (p0 : Int) ∧ _; omega, by unfold in64; show -9223372036854775808 ≤ (q0 : Int) ∧ _; omega⟩ (Ok.ask rfl ?_)
    refine (Parts_l0_ok hN V T hp0 hq0 N _ _ 0 (by simp) (by omega) (by omega) (QInv.start hp0 hq0) fun i hi => by omega).bind fun r hr => ?_
    rcases hr with ⟨rfl, hr⟩ | ⟨t, rfl, hr⟩
    · exact Ok.pure (.inl ⟨rfl, hr⟩)
    · exact Ok.pure (.inr ⟨t, rfl, hr⟩)
  · rcases List.mem_cons.1 hx with h | h
    · omega
    · rw [List.mem_singleton] at h; omega
theorem Classes_ok (hN : 5000 ≤ N) (V : Valid p acc gd nd) (hC : guard_Check N p acc gd nd = some 0) : Ok (part_Classes N p acc gd nd) fun r => r.2 = 0 ∧ Alike nd gd acc (two p) r.1 := by
  unfold part_Classes
  rw [asked_ok hN hC (fun x hx => by cases hx) (by simp)]
  simp only [Option.bind_some]
  rw [if_pos trivial]
  exact (classes_ok hN V).bind fun r hr => Ok.pure ⟨rfl, hr⟩
theorem Classes_no {e : Int} (hC : guard_Check N p acc gd nd = some e) (he : e ≠ 0) : part_Classes N p acc gd nd = some ([], e) := by
  unfold part_Classes part_asked
  rw [hC]
  simp only [Option.bind_some]
  rw [if_neg he]
  simp only [Option.bind_some]
  rw [if_neg he]
/-- alike states are of one class all along -/
theorem Alike.run {c : List Int} (V : Valid p acc gd nd) (A : Alike nd gd acc (two p) c) : ∀ (t : List Nat) (q q' : Nat), (∀ l ∈ t, l < two p) → q < acc.length → q' < acc.length → c.getD q 0 = c.getD q' 0 → c.getD (runT nd gd q t) 0 = c.getD (runT nd gd q' t) 0
  | [], q, q', _, _, _, h => h
  | l :: t, q, q', ht, hq, hq', h => A.run V t _ _ (fun y hy => ht y (List.mem_cons_of_mem _ hy)) (stp_eq V hq l).2 (stp_eq V hq' l).2 (A.closed q q' hq hq' h l (ht l List.mem_cons_self))
end
end Go.V
