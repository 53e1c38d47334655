/- Plain theory: an automaton that may be is told so; runs. No program. -/
import Derived.Test.YtihindpnnbllkaaGC2
set_option linter.all false
set_option linter.unusedVariables false
set_option maxRecDepth 100000
namespace Go.V
open Go

/-! ### an automaton that may be -/
section
variable {N : Nat} {p : Int} {acc : List Bool} {gd : List Int} {nd : List Nd}
theorem good_of {ref below above : Int} (ha : acc.length ≤ 1000) (hb : below ≤ nd.length) (h : Good acc.length nd ref below above) : guard_good N p acc gd nd ref below above = some true := by
  unfold guard_good ask
  rcases h with ⟨h1, h2⟩ | ⟨h1, h2, h3⟩
  · rw [if_pos h1, if_pos (by unfold in64; omega), decide_eq_true (by omega)]
  · rw [if_neg (by omega), if_pos h2, if_pos (by unfold idx; omega), decide_eq_true h3]
theorem check_l0_of (V : Valid p acc gd nd) (hne : ∀ i : Nat, i < nd.length → (nd.getD i default).Lo ≠ (nd.getD i default).Hi) (hdis : ∀ i j : Nat, i < nd.length → j < nd.length → nd.getD i default = nd.getD j default → i = j) : ∀ (m : Nat) (met : List (Nd × Bool)) (x : Nat), x ≤ nd.length → nd.length - x < m → (∀ k v, mget met k = some v → ∃ i : Nat, i < x ∧ nd.getD i default = k) →
    guard_Check_l0 N p acc gd nd m met (x : Int) = some (.inl ())
  | 0, met, x, _, h, _ => by omega
  | m + 1, met, x, k1, k2, k3 => by
    have a2 := V.a2
    have nl := V.nl
    unfold guard_Check_l0
    by_cases hx : (x : Int) < (nd.length : Int)
    · have hxn : x < nd.length := by omega
      obtain ⟨o1, o2, o3, o4⟩ := V.ok x hxn
      have p8 := V.p8
      have eta : (⟨(nd.getD x default).P, (nd.getD x default).Lo, (nd.getD x default).Hi⟩ : Nd) = nd.getD x default := rfl
      have hnone : mget met (nd.getD x default) = none := by
        cases h : mget met (nd.getD x default) with
        | none => rfl
        | some v =>
          obtain ⟨i, hi, e⟩ := k3 _ v h
          have := hdis i x (by omega) hxn e
          omega
      have bnd : ∀ ref, Good acc.length nd ref x (nd.getD x default).P → -1000 ≤ ref ∧ ref ≤ 5000 := fun ref h => by rcases h with h | h <;> omega
      have b1 := bnd _ o3
      have b2 := bnd _ o4
      rw [if_pos hx, Int.toNat_natCast, eta]
      unfold ask
      rw [if_pos (by unfold idx; omega), if_neg (by omega), if_neg (by omega), if_neg (hne x hxn), if_pos (show ndOk (nd.getD x default) from ⟨show in64 (nd.getD x default).P by unfold in64; omega, show in64 (nd.getD x default).Lo by unfold in64; omega, show in64 (nd.getD x default).Hi by unfold in64; omega⟩), hnone, if_neg (by simp), good_of (by omega) (by omega) o3, Option.bind_some, if_pos rfl, good_of (by omega) (by omega) o4, Option.bind_some, if_pos rfl, if_pos rfl, if_pos (by unfold in64; omega)]
      have ih := check_l0_of V hne hdis m (met ++ [(nd.getD x default, true)]) (x + 1) (by omega) (by omega) fun k v h => by
        rw [mget_app] at h
        cases h2 : mget met k with
        | some u =>
          obtain ⟨i, hi, e⟩ := k3 k u h2
          exact ⟨i, by omega, e⟩
        | none =>
          rw [h2] at h
          by_cases c : nd.getD x default = k
          · exact ⟨x, by omega, c⟩
          · simp only [if_neg c] at h
            cases h
      rw [show ((x : Int) + 1) = ((x + 1 : Nat) : Int) by omega, ih]
    · rw [if_neg hx]
theorem check_l1_of (V : Valid p acc gd nd) : ∀ (m : Nat) (x : Nat), x ≤ gd.length → gd.length - x < m → guard_Check_l1 N p acc gd nd m (x : Int) = some (.inl ())
  | 0, x, _, h => by omega
  | m + 1, x, k1, k2 => by
    have a2 := V.a2
    have gl := V.gl
    unfold guard_Check_l1
    by_cases hx : (x : Int) < (gd.length : Int)
    · have ih := check_l1_of V m (x + 1) (by omega) (by omega)
      rw [if_pos hx, Int.toNat_natCast]
      unfold ask
      rw [if_pos (by unfold idx; omega), good_of (by omega) (by omega) (V.gs x (by omega)), Option.bind_some, if_pos rfl, if_pos (by unfold in64; omega), show ((x : Int) + 1) = ((x + 1 : Nat) : Int) by omega, ih]
    · rw [if_neg hx]
theorem check_of (hN : 5000 ≤ N) (V : Valid p acc gd nd) (hne : ∀ i : Nat, i < nd.length → (nd.getD i default).Lo ≠ (nd.getD i default).Hi) (hdis : ∀ i j : Nat, i < nd.length → j < nd.length → nd.getD i default = nd.getD j default → i = j) : guard_Check N p acc gd nd = some 0 := by
  have p0 := V.p0
  have p8 := V.p8
  have a1 := V.a1
  have a2 := V.a2
  have gl := V.gl
  have nl := V.nl
  have h0 := check_l0_of (N := N) V hne hdis N [] 0 (by omega) (by omega) fun k v h => by cases h
  have h1 := check_l1_of (N := N) V N 0 (by omega) (by omega)
  have e0 : guard_Check_l0 N p acc gd nd N [] 0 = some (.inl ()) := h0
  have e1 : guard_Check_l1 N p acc gd nd N 0 = some (.inl ()) := h1
  unfold guard_Check
  rw [if_neg (by omega), if_neg (by omega), if_neg (by omega), if_neg (by omega), if_pos (by omega), if_neg (by omega), e0]
  simp only [Option.bind_some, Sum.elim_inl]
  rw [e1]
  rfl
end

section
variable {N : Nat} {p : Int} {acc : List Bool} {gd : List Int} {nd : List Nd}
theorem Run_l0_ok (hN : 5000 ≤ N) (V : Valid p acc gd nd) {t : List Nat} (ht : t.length ≤ 2000) : ∀ (m : Nat) (q : Nat) (x : Nat), x ≤ t.length → t.length - x < m → q < acc.length → canon_Run_l0 N gd nd (t.map fun l : Nat => (l : Int)) m (q : Int) (x : Int) = some ((runT nd gd q (t.drop x) : Nat) : Int)
  | 0, q, x, _, h, _ => by omega
  | m + 1, q, x, k0, k1, k2 => by
    have gl := V.gl
    unfold canon_Run_l0
    rw [List.length_map]
    by_cases hx : (x : Int) < (t.length : Int)
    · have ha : x < t.length := by omega
      have e : (t.map fun l : Nat => (l : Int)).getD (x : Int).toNat 0 = ((t.getD x 0 : Nat) : Int) := by
        rw [Int.toNat_natCast, List.getD_eq_getElem?_getD, List.getD_eq_getElem?_getD, List.getElem?_map, List.getElem?_eq_getElem ha]
        rfl
      rw [if_pos hx, e, Int.toNat_natCast]
      unfold ask
      have ih := Run_l0_ok hN V ht m (stp nd gd q (t.getD x 0)) (x + 1) (by omega) (by omega) (stp_eq V k2 _).2
      have e3 : ((x : Int) + 1) = ((x + 1 : Nat) : Int) := by omega
      have e4 : runT nd gd (stp nd gd q (t.getD x 0)) (t.drop (x + 1)) = runT nd gd q (t.drop x) := by
        rw [List.drop_eq_getElem_cons ha, List.getD_eq_getElem?_getD, List.getElem?_eq_getElem ha]
        unfold runT
        rw [List.foldl_cons, Option.getD_some]
      rw [if_pos (by unfold idx; omega), if_pos (by unfold idx; omega), stp_go hN V k2, Option.bind_some, if_pos (by unfold in64; omega)]
      show canon_Run_l0 N gd nd (t.map fun l : Nat => (l : Int)) m (stp nd gd q (t.getD x 0) : Int) ((x : Int) + 1) = _
      rw [e3, ih, e4]
    · rw [if_neg hx, List.drop_eq_nil_of_le (by omega)]
      unfold runT
      rw [List.foldl_nil]
theorem Run_ok (hN : 5000 ≤ N) (V : Valid p acc gd nd) (hC : guard_Check N p acc gd nd = some 0) {t : List Nat} (h : ∀ l ∈ t, l < two p) (ht : t.length ≤ 1024) : canon_Run N p acc gd nd (t.map fun l : Nat => (l : Int)) = some (((runT nd gd 0 t : Nat) : Int), 0) := by
  unfold canon_Run
  rw [hC]
  simp only [Option.bind_some, if_true]
  rw [Trace_ok hN ⟨V.p0, V.p8⟩ h ht]
  simp only [Option.bind_some, if_true]
  have := Run_l0_ok hN V (t := t) (by omega) N 0 0 (by omega) (by omega) (by have := V.a1; omega)
  rw [List.drop_zero] at this
  have e : canon_Run_l0 N gd nd (t.map fun l : Nat => (l : Int)) N 0 0 = some ((runT nd gd 0 t : Nat) : Int) := this
  rw [e]
  rfl
theorem asked_nil (hC : guard_Check N p acc gd nd = some 0) (hN : 5000 ≤ N) : part_asked N p acc gd nd [] = some 0 := by
  have h : part_asked_l0 N acc [] N 0 = some (.inl ()) := by
    obtain ⟨m, rfl⟩ : ∃ m, N = m + 1 := ⟨N - 1, by omega⟩
    conv => lhs; unfold part_asked_l0
    rw [if_neg (by simp)]
  unfold part_asked
  rw [hC]
  simp only [Option.bind_some]
  rw [if_pos trivial, h]
  rfl
theorem Classes_ok (hN : 5000 ≤ N) (V : Valid p acc gd nd) (hC : guard_Check N p acc gd nd = some 0) : Ok (part_Classes N p acc gd nd) fun r => r.2 = 0 ∧ Alike nd gd acc (two p) r.1 := by
  unfold part_Classes
  rw [asked_nil hC hN]
  simp only [Option.bind_some]
  rw [if_pos trivial]
  exact (classes_ok hN V).bind fun r hr => Ok.pure ⟨rfl, hr⟩
theorem Alike.run {c : List Int} (V : Valid p acc gd nd) (A : Alike nd gd acc (two p) c) : ∀ (t : List Nat) (q q' : Nat), (∀ l ∈ t, l < two p) → q < acc.length → q' < acc.length → c.getD q 0 = c.getD q' 0 → c.getD (runT nd gd q t) 0 = c.getD (runT nd gd q' t) 0
  | [], q, q', _, _, _, h => h
  | l :: t, q, q', ht, hq, hq', h => A.run V t _ _ (fun y hy => ht y (List.mem_cons_of_mem _ hy)) (stp_eq V hq l).2 (stp_eq V hq' l).2 (A.closed q q' hq hq' h l (ht l List.mem_cons_self))

/-! ### reached -/
structure BInv (nd : List Nd) (gd : List Int) (n L : Nat) (met : List Bool) (out : List Int) (x y : Nat) : Prop where
  one : 1 ≤ out.length
  zero : out.getD 0 0 = 0
  st : ∀ i, i < out.length → ∃ q : Nat, q < n ∧ out.getD i 0 = (q : Int)
  inj : ∀ i j, i < out.length → j < out.length → out.getD i 0 = out.getD j 0 → i = j
  ml : met.length = n
  met : ∀ q, q < n → (met.getD q false = true ↔ ∃ i, i < out.length ∧ out.getD i 0 = (q : Int))
  done : ∀ i l, (i < x ∨ i = x ∧ l < y) → i < out.length → l < L → ∃ k, k < out.length ∧ out.getD k 0 = (stp nd gd (out.getD i 0).toNat l : Int) ∧ ∀ v, v < k → v = 0 ∨ ∃ i' l', (i' < i ∨ i' = i ∧ l' < l) ∧ l' < L ∧ out.getD v 0 = (stp nd gd (out.getD i' 0).toNat l' : Int)
  ac : ∀ k, 0 < k → k < out.length → ∃ i l, (i < x ∨ i = x ∧ l < y) ∧ i < k ∧ l < L ∧ out.getD k 0 = (stp nd gd (out.getD i 0).toNat l : Int)
theorem BInv.few {n L x y : Nat} {met : List Bool} {out : List Int} (I : BInv nd gd n L met out x y) : out.length ≤ n := by
  refine Classical.byContradiction fun h => ?_
  obtain ⟨i, j, h1, h2, h3⟩ := pigeon (fun i => (out.getD i 0).toNat) n fun i hi => by
    obtain ⟨q, hq, e⟩ := I.st i (by omega)
    show (out.getD i 0).toNat < n
    omega
  have h3 : (out.getD i 0).toNat = (out.getD j 0).toNat := h3
  obtain ⟨q, hq, e⟩ := I.st i (by omega)
  obtain ⟨q', hq', e'⟩ := I.st j (by omega)
  have := I.inj i j (by omega) (by omega) (by omega)
  omega
theorem BInv.row {n L x : Nat} {met : List Bool} {out : List Int} (I : BInv nd gd n L met out x L) : BInv nd gd n L met out (x + 1) 0 :=
  ⟨I.one, I.zero, I.st, I.inj, I.ml, I.met, fun i l h hi hl => I.done i l (by omega) hi hl, fun k h0 hk => by
    obtain ⟨i, l, h1, h2⟩ := I.ac k h0 hk
    exact ⟨i, l, by omega, h2⟩⟩
theorem BInv.old {n L x y a : Nat} {met : List Bool} {out : List Int} (I : BInv nd gd n L met out x y) (hx : x < out.length) (ha : out.getD x 0 = (a : Int)) (hlt : stp nd gd a y < n) (hm : met.getD (stp nd gd a y) false = true) (hy : y < L) : BInv nd gd n L met out x (y + 1) := by
  refine ⟨I.one, I.zero, I.st, I.inj, I.ml, I.met, fun i l h hi hl => ?_, fun k h0 hk => ?_⟩
  · by_cases c : i = x ∧ l = y
    · obtain ⟨rfl, rfl⟩ := c
      obtain ⟨k, hk, e⟩ := (I.met _ hlt).1 hm
      refine ⟨k, hk, by rw [ha, Int.toNat_natCast]; exact e, fun v hv => ?_⟩
      by_cases c0 : v = 0
      · exact .inl c0
      · obtain ⟨i', l', g1, g2, g3, g4⟩ := I.ac v (by omega) (by omega)
        exact .inr ⟨i', l', g1, g3, g4⟩
    · exact I.done i l (by omega) hi hl
  · obtain ⟨i, l, h1, h2⟩ := I.ac k h0 hk
    exact ⟨i, l, by omega, h2⟩
theorem BInv.new {n L x y a : Nat} {met : List Bool} {out : List Int} (I : BInv nd gd n L met out x y) (hx : x < out.length) (ha : out.getD x 0 = (a : Int)) (hlt : stp nd gd a y < n) (hm : ¬ met.getD (stp nd gd a y) false = true) (hy : y < L) : BInv nd gd n L (met.set (stp nd gd a y) true) (out ++ [(stp nd gd a y : Int)]) x (y + 1) := by
  have old : ∀ i, i < out.length → (out ++ [(stp nd gd a y : Int)]).getD i 0 = out.getD i 0 := fun i hi => by rw [getD_snoc, if_neg (by omega)]
  have new : (out ++ [(stp nd gd a y : Int)]).getD out.length 0 = (stp nd gd a y : Int) := by rw [getD_snoc, if_pos rfl]
  have hlen : (out ++ [(stp nd gd a y : Int)]).length = out.length + 1 := by rw [List.length_append, List.length_singleton]
  have one := I.one
  have ml := I.ml
  have hnew : ∀ i, i < out.length → out.getD i 0 ≠ (stp nd gd a y : Int) := fun i hi e => hm ((I.met _ hlt).2 ⟨i, hi, e⟩)
  refine ⟨by omega, by rw [old 0 (by omega)]; exact I.zero, fun i hi => ?_, fun i j hi hj h => ?_, by rw [List.length_set]; exact ml, fun q hq => ?_, fun i l h hi hl => ?_, fun k h0 hk => ?_⟩
  · by_cases c : i = out.length
    · subst c; rw [new]; exact ⟨_, hlt, rfl⟩
    · rw [old i (by omega)]; exact I.st i (by omega)
  · by_cases c : i = out.length <;> by_cases d : j = out.length
    · omega
    · rw [c, new, old j (by omega)] at h
      exact absurd h.symm (hnew j (by omega))
    · rw [d, new, old i (by omega)] at h
      exact absurd h (hnew i (by omega))
    · rw [old i (by omega), old j (by omega)] at h
      exact I.inj i j (by omega) (by omega) h
  · rw [getD_set (by omega)]
    by_cases c : stp nd gd a y = q
    · rw [if_pos c]
      exact ⟨fun _ => ⟨out.length, by omega, by rw [new, c]⟩, fun _ => rfl⟩
    · rw [if_neg c, I.met q hq]
      constructor
      · rintro ⟨i, hi, e⟩
        exact ⟨i, by omega, by rw [old i hi]; exact e⟩
      · rintro ⟨i, hi, e⟩
        by_cases d : i = out.length
        · rw [d, new] at e; omega
        · rw [old i (by omega)] at e
          exact ⟨i, by omega, e⟩
  · rw [old i (by omega)]
    by_cases c : i = x ∧ l = y
    · obtain ⟨rfl, rfl⟩ := c
      refine ⟨out.length, by omega, by rw [new, ha, Int.toNat_natCast], fun v hv => ?_⟩
      by_cases c0 : v = 0
      · exact .inl c0
      · obtain ⟨i', l', g1, g2, g3, g4⟩ := I.ac v (by omega) (by omega)
        exact .inr ⟨i', l', g1, g3, by rw [old v hv, old i' (by omega)]; exact g4⟩
    · obtain ⟨k, g1, g2, g3⟩ := I.done i l (by omega) (by omega) hl
      refine ⟨k, by omega, by rw [old k g1]; exact g2, fun v hv => ?_⟩
      rcases g3 v hv with e | ⟨i', l', h1, h2, h3⟩
      · exact .inl e
      · exact .inr ⟨i', l', h1, h2, by rw [old v (by omega), old i' (by omega)]; exact h3⟩
  · by_cases c : k = out.length
    · subst c
      exact ⟨x, y, by omega, hx, hy, by rw [new, old x hx, ha, Int.toNat_natCast]⟩
    · obtain ⟨i, l, h1, h2, h3, h4⟩ := I.ac k h0 (by omega)
      exact ⟨i, l, by omega, h2, h3, by rw [old k (by omega), old i (by omega)]; exact h4⟩
variable {wh : List (List Int)}
theorem Rea_l1_ok (V : Valid p acc gd nd) (T : Tab nd gd acc.length (two p) wh) {out0 : List Int} {x a : Nat} (ha : a < acc.length) (e0 : out0.getD x 0 = (a : Int)) : ∀ (m : Nat) (met : List Bool) (out : List Int) (y : Nat), y ≤ two p → two p - y < m → x < out.length → out.getD x 0 = (a : Int) → BInv nd gd acc.length (two p) met out x y →
    Ok (part_Reached_l1 N wh out0 (x : Int) m met out (y : Int)) fun r => BInv nd gd acc.length (two p) r.1 r.2 x (two p) ∧ x < r.2.length
  | 0, met, out, y, _, h, _, _, _ => by omega
  | m + 1, met, out, y, k1, k2, k3, k4, I => by
    have a2 := V.a2
    have few := I.few
    have ml := I.ml
    have sh := shl_two ⟨V.p0, V.p8⟩
    unfold part_Reached_l1
    rw [Int.toNat_natCast, e0, Int.toNat_natCast, T.row a ha]
    refine Ok.ite (fun hy => ?_) fun hy => Ok.pure ⟨(show y = two p by omega) ▸ I, k3⟩
    have hy' : y < two p := by omega
    have hlt := (stp_eq V ha y).2
    rw [Int.toNat_natCast, T.at_ a y ha hy', Int.toNat_natCast]
    refine Ok.ask (by unfold idx; omega) (Ok.ask (by unfold idx; omega) ?_)
    have ey : ((y : Int) + 1) = ((y + 1 : Nat) : Int) := by omega
    refine Ok.ite (fun hm => ?_) fun hm => ?_
    · refine Ok.ask (by unfold in64; omega) ?_
      rw [ey]
      exact Rea_l1_ok V T ha e0 m met out (y + 1) (by omega) (by omega) k3 k4 (I.old k3 k4 hlt hm hy')
    · refine Ok.ask (by simp; omega) (Ok.ask (by unfold in64; omega) ?_)
      rw [ey]
      refine Rea_l1_ok V T ha e0 m _ _ (y + 1) (by omega) (by omega) ?_ ?_ (I.new k3 k4 hlt hm hy')
      · rw [List.length_append, List.length_singleton]; omega
      · rw [getD_snoc, if_neg (by omega)]; exact k4
theorem Rea_l0_ok (hN : 5000 ≤ N) (V : Valid p acc gd nd) (T : Tab nd gd acc.length (two p) wh) : ∀ (m : Nat) (met : List Bool) (out : List Int) (x : Nat), x ≤ out.length → acc.length - x < m → BInv nd gd acc.length (two p) met out x 0 →
    Ok (part_Reached_l0 N wh m met out (x : Int)) fun r => ∃ met', BInv nd gd acc.length (two p) met' r r.length 0
  | 0, met, out, x, _, h, _ => by omega
  | m + 1, met, out, x, k1, k2, I => by
    have a2 := V.a2
    have few := I.few
    have sh := shl_two ⟨V.p0, V.p8⟩
    unfold part_Reached_l0
    refine Ok.ite (fun hx => ?_) fun hx => Ok.pure ⟨met, (show x = out.length by omega) ▸ I⟩
    have hx' : x < out.length := by omega
    obtain ⟨a, ha, e⟩ := I.st x hx'
    rw [Int.toNat_natCast, e]
    have tl := T.len
    refine Ok.ask (by unfold idx; omega) (Ok.ask (by unfold idx; omega) ?_)
    refine (Rea_l1_ok (N := N) V T ha e N met out 0 (by omega) (by omega) hx' e I).bind fun r ⟨J, hr⟩ => ?_
    refine Ok.ask (by unfold in64; omega) ?_
    rw [show ((x : Int) + 1) = ((x + 1 : Nat) : Int) by omega]
    have := J.few
    exact Rea_l0_ok hN V T m r.1 r.2 (x + 1) hr (by omega) J.row
/-- the states that are reached, in the order of their first use -/
structure Rch (nd : List Nd) (gd : List Int) (n L : Nat) (out : List Int) (R : Nat → Nat → Nat) : Prop where
  one : 1 ≤ out.length
  few : out.length ≤ n
  zero : out.getD 0 0 = 0
  st : ∀ i, i < out.length → ∃ q : Nat, q < n ∧ out.getD i 0 = (q : Int)
  inj : ∀ i j, i < out.length → j < out.length → out.getD i 0 = out.getD j 0 → i = j
  step : ∀ i l, i < out.length → l < L → out.getD (R i l) 0 = (stp nd gd (out.getD i 0).toNat l : Int)
  can : Can out.length L R
theorem BInv.rch {n L : Nat} {met : List Bool} {out : List Int} (I : BInv nd gd n L met out out.length 0) : ∃ R, Rch nd gd n L out R := by
  have ex : ∀ i l, ∃ k, i < out.length ∧ l < L → k < out.length ∧ out.getD k 0 = (stp nd gd (out.getD i 0).toNat l : Int) ∧ ∀ v, v < k → v = 0 ∨ ∃ i' l', (i' < i ∨ i' = i ∧ l' < l) ∧ l' < L ∧ out.getD v 0 = (stp nd gd (out.getD i' 0).toNat l' : Int) := fun i l => by
    by_cases c : i < out.length ∧ l < L
    · obtain ⟨k, hk⟩ := I.done i l (.inl c.1) c.1 c.2
      exact ⟨k, fun _ => hk⟩
    · exact ⟨0, fun h => absurd h c⟩
  have sp := fun i l (hi : i < out.length) (hl : l < L) => Classical.choose_spec (ex i l) ⟨hi, hl⟩
  have key : ∀ i l v, i < out.length → l < L → v < out.length → out.getD v 0 = (stp nd gd (out.getD i 0).toNat l : Int) → Classical.choose (ex i l) = v := fun i l v hi hl hv e => I.inj _ _ (sp i l hi hl).1 hv (by rw [(sp i l hi hl).2.1, e])
  refine ⟨fun i l => Classical.choose (ex i l), I.one, I.few, I.zero, I.st, I.inj, fun i l hi hl => (sp i l hi hl).2.1, fun i l hi hl => (sp i l hi hl).1, fun i l v hi hl hv => ?_, fun i h0 hi => ?_⟩
  · have g := sp i l hi hl
    rcases g.2.2 v hv with e | ⟨i', l', h1, h2, h3⟩
    · exact .inl e
    · exact .inr ⟨i', l', h1, h2, key i' l' v (by omega) h2 (by have hv : v < Classical.choose (ex i l) := hv; have := g.1; omega) h3⟩
  · obtain ⟨i', l', h1, h2, h3, h4⟩ := I.ac i h0 hi
    exact ⟨i', l', h2, h3, key i' l' i (by omega) h3 hi h4⟩
theorem Reached_ok (hN : 5000 ≤ N) (V : Valid p acc gd nd) (hC : guard_Check N p acc gd nd = some 0) : Ok (part_Reached N p acc gd nd) fun r => r.2 = 0 ∧ ∃ R, Rch nd gd acc.length (two p) r.1 R := by
  have a1 := V.a1
  have a2 := V.a2
  unfold part_Reached
  rw [asked_nil hC hN]
  simp only [Option.bind_some]
  rw [if_pos trivial]
  refine (rows_ok hN V).bind fun wh T => ?_
  refine Ok.ask (by omega) (Ok.ask (by unfold idx; simp; omega) ?_)
  have I : BInv nd gd acc.length (two p) (List.set (List.replicate (Int.toNat (((List.length acc) : Nat) : Int)) (false : Bool)) (Int.toNat (0 : Int)) true) ([0] : List Int) 0 0 := by
    refine ⟨by simp, rfl, fun i hi => ?_, fun i j hi hj _ => ?_, by simp, fun q hq => ?_, fun i l h => by omega, fun k h0 hk => ?_⟩
    · have : i = 0 := by simpa using hi
      subst this
      exact ⟨0, by omega, rfl⟩
    · have : i = 0 := by simpa using hi
      have : j = 0 := by simpa using hj
      omega
    · rw [getD_set (by simp; omega), getD_rep]
      by_cases c : q = 0
      · subst c
        exact ⟨fun _ => ⟨0, by simp, rfl⟩, fun _ => rfl⟩
      · rw [if_neg (by show ¬ 0 = q; omega)]
        refine ⟨fun h => (by cases h), fun ⟨i, hi, e⟩ => ?_⟩
        have : i = 0 := by simpa using hi
        subst this
        have e : (0 : Int) = (q : Int) := e
        omega
    · have : k = 0 := by simpa using hk
      omega
  refine (Rea_l0_ok hN V T N _ [0] 0 (by omega) (by omega) I).bind fun r ⟨met', J⟩ => Ok.pure ⟨rfl, J.rch⟩
end
end Go.V
