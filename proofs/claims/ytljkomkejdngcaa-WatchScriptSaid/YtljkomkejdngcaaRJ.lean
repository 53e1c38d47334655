/- Plain theory: how far off what is reached lies. No program. -/
import Derived.Test.YtljkomkejdngcaaR21
set_option linter.all false
set_option linter.unusedVariables false
set_option maxRecDepth 100000
namespace Go.V
open Go Go.Proofs
/-- what is reached, and how far it lies -/
structure RJ (nd : List Nd) (gd : List Int) (n L q0 : Nat) (out far : List Int) (seen : List Bool) (i l : Nat) : Prop where
  I : RI nd gd n L q0 out far seen i l
  f0 : far.getD 0 0 = 0
  mono : ∀ j k, j ≤ k → k < out.length → far.getD j 0 ≤ far.getD k 0
  top : ∀ k, k < out.length → i < out.length → far.getD k 0 ≤ far.getD i 0 + 1
  par : ∀ k, 0 < k → k < out.length → ∃ j l', j < k ∧ l' < L ∧ out.getD k 0 = (stp nd gd (out.getD j 0).toNat l' : Int) ∧ far.getD k 0 = far.getD j 0 + 1
  edge : ∀ k l', (k < i ∨ k = i ∧ l' < l) → k < out.length → l' < L → ∃ j, j < out.length ∧ out.getD j 0 = (stp nd gd (out.getD k 0).toNat l' : Int) ∧ far.getD j 0 ≤ far.getD k 0 + 1
section
variable {N : Nat} {p : Int} {acc : List Bool} {gd : List Int} {nd : List Nd} {n L q0 : Nat} {out far : List Int} {seen : List Bool} {i l : Nat}
theorem RJ.old (J : RJ nd gd n L q0 out far seen i l) {a : Nat} (hi : i < out.length) (e : out.getD i 0 = (a : Int)) (hn : stp nd gd a l < n) (h : seen.getD (stp nd gd a l) false = true) : RJ nd gd n L q0 out far seen i (l + 1) :=
  ⟨J.I.old e hn h, J.f0, J.mono, J.top, J.par, fun k l' hk h1 h2 => by
    by_cases c : k = i ∧ l' = l
    · obtain ⟨rfl, rfl⟩ := c
      obtain ⟨j, hj, ej⟩ := (J.I.sn _ hn).1 h
      exact ⟨j, hj, by rw [e, Int.toNat_natCast]; exact ej, J.top j hj hi⟩
    · exact J.edge k l' (by omega) h1 h2⟩
theorem RJ.row (J : RJ nd gd n L q0 out far seen i L) (hi : i < out.length) : RJ nd gd n L q0 out far seen (i + 1) 0 :=
  ⟨J.I.row, J.f0, J.mono, fun k hk h => by
    have := J.top k hk hi
    have := J.mono i (i + 1) (by omega) h
    omega, J.par, fun k l' hk h1 h2 => J.edge k l' (by omega) h1 h2⟩
theorem RJ.new (J : RJ nd gd n L q0 out far seen i l) {a : Nat} (hi : i < out.length) (hl : l < L) (e : out.getD i 0 = (a : Int)) (hn : stp nd gd a l < n) (h : ¬ seen.getD (stp nd gd a l) false = true) :
    RJ nd gd n L q0 (out ++ [(stp nd gd a l : Int)]) (far ++ [far.getD i 0 + 1]) (seen.set (stp nd gd a l) true) i (l + 1) := by
  have fl := J.I.fl
  have one := J.I.one
  have ln : (out ++ [(stp nd gd a l : Int)]).length = out.length + 1 := by simp
  have og : ∀ k, k < out.length → (out ++ [(stp nd gd a l : Int)]).getD k 0 = out.getD k 0 := fun k hk => by rw [getD_snoc, if_neg (by omega)]
  have fg : ∀ k, k < out.length → (far ++ [far.getD i 0 + 1]).getD k 0 = far.getD k 0 := fun k hk => by rw [getD_snoc, if_neg (by omega)]
  have oe : (out ++ [(stp nd gd a l : Int)]).getD out.length 0 = (stp nd gd a l : Int) := by rw [getD_snoc, if_pos rfl]
  have fe : (far ++ [far.getD i 0 + 1]).getD out.length 0 = far.getD i 0 + 1 := by rw [getD_snoc, if_pos fl.symm]
  refine ⟨J.I.new hi hl e hn h, by rw [fg 0 (by omega)]; exact J.f0, fun j k hjk hk => ?_, fun k hk _ => ?_, fun k h0 hk => ?_, fun k l' hk h1 h2 => ?_⟩
  · rw [ln] at hk
    by_cases c : k = out.length
    · rw [c, fe]
      by_cases d : j = out.length
      · rw [d, fe]; exact Int.le_refl _
      · rw [fg j (by omega)]; exact J.top j (by omega) hi
    · rw [fg k (by omega), fg j (by omega)]; exact J.mono j k hjk (by omega)
  · rw [ln] at hk
    rw [fg i hi]
    by_cases c : k = out.length
    · rw [c, fe]; exact Int.le_refl _
    · rw [fg k (by omega)]; exact J.top k (by omega) hi
  · rw [ln] at hk
    by_cases c : k = out.length
    · refine ⟨i, l, by omega, hl, ?_, ?_⟩
      · rw [c, oe, og i hi, e, Int.toNat_natCast]
      · rw [c, fe, fg i hi]
    · obtain ⟨j, l', h1, h2, h3, h4⟩ := J.par k h0 (by omega)
      exact ⟨j, l', h1, h2, by rw [og k (by omega), og j (by omega)]; exact h3, by rw [fg k (by omega), fg j (by omega)]; exact h4⟩
  · by_cases c : k = out.length
    · omega
    · have hk' : k < out.length := by omega
      rw [og k hk', fg k hk']
      by_cases c2 : k = i ∧ l' = l
      · obtain ⟨rfl, rfl⟩ := c2
        exact ⟨out.length, by omega, by rw [oe, e, Int.toNat_natCast], by rw [fe]; exact Int.le_refl _⟩
      · obtain ⟨j, hj, ej, fj⟩ := J.edge k l' (by omega) hk' h2
        exact ⟨j, by omega, by rw [og j hj]; exact ej, by rw [fg j hj]; exact fj⟩
theorem reachedJ_l1_ok (hN : 5000 ≤ N) (V : Valid p acc gd nd) {a : Nat} (ha : a < acc.length) : ∀ (m l : Nat) (out far : List Int) (seen : List Bool), l ≤ two p → two p - l < m → RJ nd gd acc.length (two p) q0 out far seen i l → i < out.length → out.getD i 0 = (a : Int) →
    Ok (ref21_reached_l1 N p acc gd nd (i : Int) m out far seen (l : Int)) fun r => RJ nd gd acc.length (two p) q0 r.1 r.2.1 r.2.2 i (two p) ∧ i < r.1.length
  | 0, l, out, far, seen, _, h, _, _, _ => by omega
  | m + 1, l, out, far, seen, k0, k1, J, hi, e => by
    have I := J.I
    have sh := shl_two ⟨V.p0, V.p8⟩
    have a2 := V.a2
    have hfew := I.few
    have hfl := I.fl
    have hsl := I.sl
    unfold ref21_reached_l1
    refine Ok.ask V.p0 ?_
    rw [sh.1]
    by_cases hl : l < two p
    · have hs := (stp_eq V ha l).2
      rw [if_pos (by omega), show IntKind.u8.wrap (l : Int) = (l : Int) from wrap_u8 (by omega) (by omega), Int.toNat_natCast i, e, rNext_ok hN V (by omega) ha, Option.bind_some, Int.toNat_natCast, show ((l : Int) + 1) = ((l + 1 : Nat) : Int) by omega]
      refine Ok.ask (by unfold idx; omega) (Ok.ask (by unfold idx; omega) ?_)
      by_cases c : seen.getD (stp nd gd a l) false = true
      · rw [if_pos c]
        exact Ok.ask (by unfold in64; omega) (reachedJ_l1_ok hN V ha m (l + 1) out far seen (by omega) (by omega) (J.old hi e hs c) hi e)
      · rw [if_neg c]
        have hf := I.fr i hi
        refine Ok.ask (by simp; omega) (Ok.ask (by unfold idx; omega) (Ok.ask (by unfold in64; omega) (Ok.ask (by simp; omega) (Ok.ask (by unfold in64; omega) ?_))))
        refine reachedJ_l1_ok hN V ha m (l + 1) _ _ _ (by omega) (by omega) (J.new hi hl e hs c) (by simp; omega) ?_
        rw [getD_snoc, if_neg (by omega)]
        exact e
    · rw [if_neg (by omega)]
      obtain rfl : l = two p := by omega
      exact Ok.pure ⟨J, hi⟩
theorem reachedJ_l0_ok (hN : 5000 ≤ N) (V : Valid p acc gd nd) : ∀ (m i : Nat) (out far : List Int) (seen : List Bool), i ≤ out.length → acc.length - i < m → RJ nd gd acc.length (two p) q0 out far seen i 0 →
    Ok (ref21_reached_l0 N p acc gd nd m out far seen (i : Int)) fun r => ∃ s, RJ nd gd acc.length (two p) q0 r.1 r.2 s r.1.length 0
  | 0, i, out, far, seen, _, h, _ => by omega
  | m + 1, i, out, far, seen, k0, k1, J => by
    have I := J.I
    have sh := shl_two ⟨V.p0, V.p8⟩
    have a2 := V.a2
    have hfew := I.few
    unfold ref21_reached_l0
    by_cases hi : i < out.length
    · obtain ⟨a, ha, e⟩ := I.st i hi
      have h1 := reachedJ_l1_ok (N := N) hN V ha N 0 out far seen (by omega) (by omega) J hi e
      rw [if_pos (show (i : Int) < ((out.length : Nat) : Int) by omega)]
      refine Ok.bind h1 fun r hr => Ok.ask (by unfold in64; omega) ?_
      have hfew2 := hr.1.I.few
      rw [show ((i : Int) + 1) = ((i + 1 : Nat) : Int) by omega]
      exact reachedJ_l0_ok hN V m (i + 1) _ _ _ (by have := hr.2; omega) (by omega) (hr.1.row hr.2)
    · rw [if_neg (by omega)]
      obtain rfl : i = out.length := by omega
      exact Ok.pure ⟨seen, J⟩
theorem reachedJ_ok (hN : 5000 ≤ N) (V : Valid p acc gd nd) {q : Nat} (hq : q < acc.length) : Ok (ref21_reached N p acc gd nd (q : Int)) fun r => ∃ s, RJ nd gd acc.length (two p) q r.1 r.2 s r.1.length 0 := by
  have a2 := V.a2
  unfold ref21_reached
  rw [Int.toNat_natCast, Int.toNat_natCast]
  refine Ok.ask (by omega) (Ok.ask (by unfold idx; simp; omega) ?_)
  have hs : ∀ k, (List.set (List.replicate acc.length false) q true).getD k false = true ↔ q = k := fun k => by
    rw [getD_set (by simp; exact hq)]
    by_cases c : q = k
    · rw [if_pos c]; simp [c]
    · rw [if_neg c, getD_rep]; simp [c]
  have I : RI nd gd acc.length (two p) q [(q : Int)] [0] (List.set (List.replicate acc.length false) q true) 0 0 := by
    refine ⟨rfl, by simp, by simp, rfl, fun k hk => ?_, fun a b ha hb _ => ?_, fun k hk => ?_, fun k hk => ?_, fun k hk => ?_, fun k l' hk _ _ => by omega⟩
    · obtain rfl : k = 0 := by simp at hk; exact hk
      exact ⟨q, hq, rfl⟩
    · simp at ha hb; omega
    · rw [hs]
      constructor
      · rintro rfl; exact ⟨0, by simp, rfl⟩
      · rintro ⟨j, hj, e⟩
        obtain rfl : j = 0 := by simp at hj; exact hj
        have e : (q : Int) = (k : Int) := e
        omega
    · obtain rfl : k = 0 := by simp at hk; exact hk
      exact ⟨[], (fun l h => by cases h), rfl⟩
    · obtain rfl : k = 0 := by simp at hk; exact hk
      exact ⟨Int.le_refl _, Int.le_refl _⟩
  have z : ∀ k : Nat, k < 1 → ([0] : List Int).getD k 0 = 0 := fun k hk => match k, hk with
    | 0, _ => rfl
  have J : RJ nd gd acc.length (two p) q [(q : Int)] [0] (List.set (List.replicate acc.length false) q true) 0 0 :=
    ⟨I, rfl, fun j k hjk hk => by have hk' : k < 1 := hk
                                  rw [z k hk', z j (by omega)]; exact Int.le_refl _,
      fun k hk _ => by have hk' : k < 1 := hk
                       rw [z k hk', z 0 (by omega)]; omega, fun k h0 hk => by have hk' : k < 1 := hk
                                                                              omega, fun k l' hk h1 h2 => by omega⟩
  exact (reachedJ_l0_ok (N := N) hN V N 0 _ _ _ (by simp) (by omega) J).bind fun r ⟨s, hr⟩ => Ok.pure ⟨s, hr⟩
/-! ### Off -/
theorem RJ.low {off : List Int} (V : Valid p acc gd nd) (F : Far nd gd acc.length (two p) acc off) (J : RJ nd gd acc.length (two p) q0 out far seen out.length 0) : ∀ (b k : Nat), k < b → k < out.length → 0 ≤ off.getD (out.getD k 0).toNat 0 → 0 ≤ off.getD q0 0 ∧ off.getD q0 0 ≤ far.getD k 0 + off.getD (out.getD k 0).toNat 0 := by
  intro b
  induction b with
  | zero => intro k h; omega
  | succ b ih =>
    intro k hb hk h
    by_cases c : k = 0
    · subst c
      rw [J.I.zero, Int.toNat_natCast] at h ⊢
      rw [J.f0]
      omega
    · obtain ⟨j, l', h1, h2, h3, h4⟩ := J.par k (by omega) hk
      obtain ⟨q, hq, eq⟩ := J.I.st j (by omega)
      rw [eq, Int.toNat_natCast] at h3
      rw [h3, Int.toNat_natCast] at h ⊢
      have lo := F.lo q hq
      have hq0 : 0 ≤ off.getD q 0 := by
        refine Classical.byContradiction fun hc => ?_
        have := F.closed q hq (by omega) l' h2
        omega
      have nr := F.near q hq hq0 l' h2 h
      have := ih j (by omega) (by omega) (by rw [eq, Int.toNat_natCast]; exact hq0)
      rw [eq, Int.toNat_natCast] at this
      omega
theorem RJ.up {off : List Int} (V : Valid p acc gd nd) (F : Far nd gd acc.length (two p) acc off) (J : RJ nd gd acc.length (two p) q0 out far seen out.length 0) (hq : q0 < acc.length) (h : 0 ≤ off.getD q0 0) : ∀ s : Nat, (s : Int) ≤ off.getD q0 0 → ∃ j, j < out.length ∧ far.getD j 0 ≤ s ∧ off.getD (out.getD j 0).toNat 0 = off.getD q0 0 - s := by
  intro s
  induction s with
  | zero =>
    intro _
    exact ⟨0, J.I.one, by rw [J.f0]; omega, by rw [J.I.zero, Int.toNat_natCast]; omega⟩
  | succ s ih =>
    intro hs
    obtain ⟨j, hj, fj, oj⟩ := ih (by omega)
    obtain ⟨q, hq', eq⟩ := J.I.st j hj
    rw [eq, Int.toNat_natCast] at oj
    obtain ⟨l, hl, hw⟩ := F.way q hq' (by omega)
    obtain ⟨k, hk, ek, fk⟩ := J.edge j l (.inl hj) hj hl
    rw [eq, Int.toNat_natCast] at ek
    exact ⟨k, hk, by omega, by rw [ek, Int.toNat_natCast, hw, oj]; omega⟩
theorem Off_l0_ok {r : List Int × List Int} (ha : acc.length ≤ 256) (hl : r.1.length ≤ 256) (hf : r.2.length = r.1.length) (hst : ∀ k, k < r.1.length → ∃ q : Nat, q < acc.length ∧ r.1.getD k 0 = (q : Int)) : ∀ (m i : Nat), i ≤ r.1.length → r.1.length - i < m → (∀ k, k < i → acc.getD (r.1.getD k 0).toNat false = false) →
    Ok (ref21_Off_l0 N acc r m (i : Int)) fun x => (x = .inl () ∧ ∀ k, k < r.1.length → acc.getD (r.1.getD k 0).toNat false = false) ∨ ∃ k, k < r.1.length ∧ acc.getD (r.1.getD k 0).toNat false = true ∧ (∀ j, j < k → acc.getD (r.1.getD j 0).toNat false = false) ∧ x = .inr (r.2.getD k 0, 0) := by
  intro m
  induction m with
  | zero => intro i _ h _; omega
  | succ m ih =>
    intro i k1 k2 k3
    unfold ref21_Off_l0
    refine Ok.ite (fun hx => ?_) fun hx => Ok.pure (.inl ⟨rfl, fun k hk => k3 k (by omega)⟩)
    have hi : i < r.1.length := by omega
    obtain ⟨q, hq, e⟩ := hst i hi
    rw [Int.toNat_natCast]
    refine Ok.ask (by unfold idx; omega) (Ok.ask (by unfold idx; omega) ?_)
    refine Ok.ite (fun h => Ok.ask (by unfold idx; omega) (Ok.pure (.inr ⟨i, hi, h, k3, rfl⟩))) fun h => Ok.ask (by unfold in64; omega) ?_
    rw [show ((i : Int) + 1) = ((i + 1 : Nat) : Int) by omega]
    refine ih (i + 1) (by omega) (by omega) fun k hk => ?_
    by_cases c : k = i
    · rw [c]; simpa using h
    · exact k3 k (by omega)
theorem rOff_ok (hN : 5000 ≤ N) (V : Valid p acc gd nd) {off : List Int} (F : Far nd gd acc.length (two p) acc off) {q : Nat} (hq : q < acc.length) :
    ref21_Off N p acc gd nd (q : Int) = some (if off.getD q 0 < 0 then (0, 6) else (off.getD q 0, 0)) := by
  have a2 := V.a2
  obtain ⟨r, er, s, J⟩ := reachedJ_ok (N := N) hN V hq
  have hfew := J.I.few
  obtain ⟨x, ex, hx⟩ := Off_l0_ok (N := N) (acc := acc) (r := r) a2 (by omega) J.I.fl J.I.st N 0 (by omega) (by omega) fun k h => by omega
  have ex' : ref21_Off_l0 N acc r N 0 = some x := ex
  unfold ref21_Off
  rw [er, Option.bind_some, ex', Option.bind_some]
  rcases hx with ⟨e, h⟩ | ⟨k, hk, h1, h2, e⟩
  · rw [e, Sum.elim_inl, if_pos]
    refine Classical.byContradiction fun hc => ?_
    obtain ⟨c, hc2⟩ := Int.eq_ofNat_of_zero_le (show 0 ≤ off.getD q 0 by omega)
    obtain ⟨j, hj, fj, oj⟩ := J.up V F hq (by omega) c (by omega)
    obtain ⟨q', hq', eq⟩ := J.I.st j hj
    rw [eq, Int.toNat_natCast] at oj
    have h3 := (F.zero q' hq').1 (by omega)
    have := h j hj
    rw [eq, Int.toNat_natCast, h3] at this
    cases this
  · obtain ⟨q', hq', eq⟩ := J.I.st k hk
    rw [eq, Int.toNat_natCast] at h1
    have h3 := (F.zero q' hq').2 h1
    have lw := J.low V F (k + 1) k (by omega) hk (by rw [eq, Int.toNat_natCast]; omega)
    rw [eq, Int.toNat_natCast] at lw
    obtain ⟨c, hc2⟩ := Int.eq_ofNat_of_zero_le lw.1
    obtain ⟨j, hj, fj, oj⟩ := J.up V F hq lw.1 c (by omega)
    obtain ⟨q2, hq2, e2⟩ := J.I.st j hj
    rw [e2, Int.toNat_natCast] at oj
    have h4 := (F.zero q2 hq2).1 (by omega)
    have hkj : k ≤ j := by
      refine Classical.byContradiction fun hc => ?_
      have := h2 j (by omega)
      rw [e2, Int.toNat_natCast, h4] at this
      cases this
    have mo := J.mono k j hkj hj
    rw [e, Sum.elim_inr, if_neg (by omega), show r.2.getD k 0 = off.getD q 0 by omega]
end
end Go.V
