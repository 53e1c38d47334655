/- Plain theory: what is live, what is reached. No program. -/
import Derived.Test.YteemfefeaphfdaaLC3
set_option linter.all false
set_option linter.unusedVariables false
set_option maxRecDepth 1000000
namespace Go.V
open Go
section
variable {N : Nat} {p : Int} {acc : List Bool} {gd : List Int} {nd : List Nd} {r18 : List (List Int) × Int}
/-! ### Live -/
def ci (b : Bool) : Int := if b then 0 else -1
def lv (out : List Bool) : Nat := cnt (out.map ci)
theorem ci_getD {out : List Bool} {i : Nat} (h : i < out.length) : (out.map ci).getD i 0 = ci (out.getD i false) := by
  rw [List.getD_eq_getElem?_getD, List.getD_eq_getElem?_getD, List.getElem?_map, List.getElem?_eq_getElem h]
  rfl
theorem lv_set {out : List Bool} {q : Nat} (hq : q < out.length) (h : out.getD q false = false) : lv out + 1 ≤ lv (out.set q true) := by
  unfold lv
  refine cnt_lt _ _ (by simp) (fun i hi h0 => ?_) q (by simpa using hq) (by rw [ci_getD hq, h]; decide) (by rw [ci_getD (by simpa using hq), getD_set hq, if_pos rfl]; decide)
  have hi' : i < out.length := by simpa using hi
  rw [ci_getD hi'] at h0
  rw [ci_getD (by simpa using hi'), getD_set hq]
  split
  · decide
  · exact h0
theorem lv_le (out : List Bool) : lv out ≤ out.length := by
  unfold lv
  have := cnt_le (out.map ci)
  simpa using this
/-- a round's outcome -/
structure LR (n : Nat) (out out' : List Bool) (c c' : Bool) (P : Prop) : Prop where
  len : out'.length = n
  keep : ∀ q, out.getD q false = true → out'.getD q false = true
  same : c' = false → out' = out ∧ c = false ∧ P
  more : lv out ≤ lv out'
  less : c' = true → c = true ∨ lv out + 1 ≤ lv out'
theorem Live_l2_ok (W : Valid p acc gd nd) (T : Tab nd gd acc.length (two p) r18.1) {q : Nat} (hq : q < acc.length) : ∀ (m x : Nat) (out : List Bool) (c : Bool), x ≤ two p → two p - x < m → out.length = acc.length →
    Ok (lang_Live_l2 N r18 (q : Int) m out c (x : Int)) fun r => LR acc.length out r.1 c r.2 (∀ l, x ≤ l → l < two p → out.getD (stp nd gd q l) false = true → out.getD q false = true) := by
  have sh := shl_two ⟨W.p0, W.p8⟩
  have a2 := W.a2
  intro m
  induction m with
  | zero => intro x out c _ h _; omega
  | succ m ih =>
    intro x out c k1 k2 k3
    unfold lang_Live_l2
    rw [Int.toNat_natCast, T.row q hq]
    refine Ok.ite (fun hx => ?_) fun hx => Ok.pure ⟨k3, fun _ h => h, fun h => ⟨rfl, h, fun l h1 h2 => (by omega)⟩, Nat.le_refl _, fun h => .inl h⟩
    have hx' : x < two p := by omega
    have st := (stp_eq W hq x).2
    rw [Int.toNat_natCast, T.at_ q x hq hx', Int.toNat_natCast, k3]
    refine Ok.ask (by unfold idx; omega) (Ok.ask (by unfold idx; omega) ?_)
    have e1 : ((x : Int) + 1) = ((x + 1 : Nat) : Int) := by omega
    rw [e1]
    have same : ∀ o c, o.length = acc.length → (out.getD (stp nd gd q x) false = true → out.getD q false = true) → o = out → Ok (lang_Live_l2 N r18 (q : Int) m o c ((x + 1 : Nat) : Int)) fun r => LR acc.length out r.1 c r.2 (∀ l, x ≤ l → l < two p → out.getD (stp nd gd q l) false = true → out.getD q false = true) := by
      intro o c h1 h2 h3
      subst h3
      refine (ih (x + 1) o c (by omega) (by omega) h1).mono fun r hr => ⟨hr.len, hr.keep, fun h => ?_, hr.more, hr.less⟩
      obtain ⟨a, b, d⟩ := hr.same h
      refine ⟨a, b, fun l h3 h4 h5 => ?_⟩
      by_cases e : l = x
      · rw [e] at h5; exact h2 h5
      · exact d l (by omega) h4 h5
    refine Ok.ite (fun ht => ?_) fun ht => Ok.ask (by unfold in64; omega) (same out c k3 (fun h => absurd h ht) rfl)
    refine Ok.ask (by unfold idx; omega) ?_
    refine Ok.ite (fun hl => Ok.ask (by unfold in64; omega) (same out c k3 (fun _ => hl) rfl)) fun hl => ?_
    refine Ok.ask (by unfold in64; omega) ?_
    have hl' : out.getD q false = false := by simpa using hl
    have ls := lv_set (by rw [k3]; exact hq) hl'
    refine (ih (x + 1) (out.set q true) true (by omega) (by omega) (by simpa using k3)).mono fun r hr => ⟨hr.len, fun q' h => hr.keep q' ?_, fun h => ?_, by have := hr.more; omega, fun _ => .inr (by have := hr.more; omega)⟩
    · rw [getD_set (by rw [k3]; exact hq)]
      split
      · rfl
      · exact h
    · have := (hr.same h).2.1
      cases this
theorem Live_l1_ok (hN : 5000 ≤ N) (W : Valid p acc gd nd) (T : Tab nd gd acc.length (two p) r18.1) : ∀ (m x : Nat) (out : List Bool) (c : Bool), x ≤ acc.length → acc.length - x < m → out.length = acc.length →
    Ok (lang_Live_l1 N r18 m out c (x : Int)) fun r => LR acc.length out r.1 c r.2 (∀ q, x ≤ q → q < acc.length → ∀ l, l < two p → out.getD (stp nd gd q l) false = true → out.getD q false = true) := by
  have sh := shl_two ⟨W.p0, W.p8⟩
  have a2 := W.a2
  have tl := T.len
  intro m
  induction m with
  | zero => intro x out c _ h _; omega
  | succ m ih =>
    intro x out c k1 k2 k3
    unfold lang_Live_l1
    rw [tl]
    refine Ok.ite (fun hx => ?_) fun hx => Ok.pure ⟨k3, fun _ h => h, fun h => ⟨rfl, h, fun q h1 h2 => (by omega)⟩, Nat.le_refl _, fun h => .inl h⟩
    have hx' : x < acc.length := by omega
    refine Ok.ask (by unfold idx; omega) ?_
    refine (Live_l2_ok (N := N) W T hx' N 0 out c (by omega) (by omega) k3).bind fun r hr => ?_
    refine Ok.ask (by unfold in64; omega) ?_
    rw [show ((x : Int) + 1) = ((x + 1 : Nat) : Int) by omega]
    refine (ih (x + 1) r.1 r.2 (by omega) (by omega) hr.len).mono fun s hs => ⟨hs.len, fun q h => hs.keep q (hr.keep q h), fun h => ?_, by have := hs.more; have := hr.more; omega, fun h => ?_⟩
    · obtain ⟨a, b, d⟩ := hs.same h
      obtain ⟨a', b', d'⟩ := hr.same b
      refine ⟨a.trans a', b', fun q h1 h2 l h3 h4 => ?_⟩
      by_cases e : q = x
      · subst e; exact d' l (Nat.zero_le _) h3 h4
      · have := d q (by omega) h2 l h3
        rw [a'] at this
        exact this h4
    · have m1 := hs.more
      have m2 := hr.more
      rcases hs.less h with h | h
      · rcases hr.less h with h | h
        · exact .inl h
        · exact .inr (by omega)
      · exact .inr (by omega)
theorem Live_l0_ok (hN : 5000 ≤ N) (W : Valid p acc gd nd) (T : Tab nd gd acc.length (two p) r18.1) : ∀ (m : Nat) (out : List Bool) (c : Bool), out.length = acc.length → acc.length - lv out + 1 < m → (c = false → ∀ q, q < acc.length → ∀ l, l < two p → out.getD (stp nd gd q l) false = true → out.getD q false = true) →
    Ok (lang_Live_l0 N r18 m out c) fun r => r.length = acc.length ∧ (∀ q, out.getD q false = true → r.getD q false = true) ∧ ∀ q, q < acc.length → ∀ l, l < two p → r.getD (stp nd gd q l) false = true → r.getD q false = true := by
  have a2 := W.a2
  intro m
  induction m with
  | zero => intro out c _ h _; omega
  | succ m ih =>
    intro out c k1 k2 k3
    unfold lang_Live_l0
    refine Ok.ite (fun hc => ?_) fun hc => Ok.pure ⟨k1, fun _ h => h, k3 (by simpa using hc)⟩
    have L1 := Live_l1_ok (N := N) hN W T N 0 out false (by omega) (by omega) k1
    have L1' : Ok (lang_Live_l1 N r18 N out false 0) _ := L1
    obtain ⟨r, er, hr⟩ := L1'
    rw [er, Option.bind_some]
    have hl := lv_le r.1
    have hlen := hr.len
    by_cases hr2 : r.2 = true
    · have : lv out + 1 ≤ lv r.1 := by
        rcases hr.less hr2 with h | h
        · cases h
        · exact h
      refine (ih r.1 r.2 hr.len (by omega) (fun h => by rw [hr2] at h; cases h)).mono fun s ⟨h1, h2, h3⟩ => ⟨h1, fun q h => h2 q (hr.keep q h), h3⟩
    · have hr2' : r.2 = false := by simpa using hr2
      obtain ⟨e1, _, e3⟩ := hr.same hr2'
      have m1 : 0 < m := by omega
      obtain ⟨m', rfl⟩ : ∃ m', m = m' + 1 := ⟨m - 1, by omega⟩
      unfold lang_Live_l0
      rw [hr2', if_neg (by simp), e1]
      exact Ok.pure ⟨k1, fun _ h => h, fun q hq l hl h => e3 q (Nat.zero_le _) hq l hl h⟩
theorem Live_ok (hN : 5000 ≤ N) (V : Valid p acc gd nd) (hC : guard_Check N p acc gd nd = some 0) : Ok (lang_Live N p acc gd nd) fun r => r.2 = 0 ∧ r.1.length = acc.length ∧ (∀ q, acc.getD q false = true → r.1.getD q false = true) ∧
    ∀ q, q < acc.length → ∀ l, l < two p → r.1.getD (stp nd gd q l) false = true → r.1.getD q false = true := by
  have a2 := V.a2
  unfold lang_Live
  refine (table_ok hN V hC).bind fun r ⟨r1, T⟩ => ?_
  rw [if_pos r1]
  refine Ok.ask (by simp; omega) ?_
  refine (Live_l0_ok (N := N) hN V T N acc true rfl (by omega) (fun h => by cases h)).bind fun s ⟨h1, h2, h3⟩ => Ok.pure ⟨rfl, h1, h2, h3⟩
/-! ### Reach -/
structure RI (nd : List Nd) (gd : List Int) (n L : Nat) (out : List Int) (qu : List Nat) (i l : Nat) : Prop where
  len : out.length = n
  fst : out.getD 0 0 = 0
  lt : ∀ j, j < qu.length → qu.getD j 0 < n ∧ 0 ≤ out.getD (qu.getD j 0) 0 ∧ out.getD (qu.getD j 0) 0 ≤ j
  all : ∀ r, r < n → 0 ≤ out.getD r 0 → ∃ j, j < qu.length ∧ qu.getD j 0 = r
  mono : ∀ j k, j ≤ k → k < qu.length → out.getD (qu.getD j 0) 0 ≤ out.getD (qu.getD k 0) 0
  top : ∀ k, k < qu.length → i < qu.length → out.getD (qu.getD k 0) 0 ≤ out.getD (qu.getD i 0) 0 + 1
  done : ∀ j, j < i → j < qu.length → ∀ l', l' < L → 0 ≤ out.getD (stp nd gd (qu.getD j 0) l') 0 ∧ out.getD (stp nd gd (qu.getD j 0) l') 0 ≤ out.getD (qu.getD j 0) 0 + 1
  part : i < qu.length → ∀ l', l' < l → 0 ≤ out.getD (stp nd gd (qu.getD i 0) l') 0 ∧ out.getD (stp nd gd (qu.getD i 0) l') 0 ≤ out.getD (qu.getD i 0) 0 + 1
  few : qu.length ≤ cnt out
theorem cs_snoc (u : List Nat) (a : Nat) : cs u ++ [((a : Nat) : Int)] = cs (u ++ [a]) := by
  unfold cs; rw [List.map_append]; rfl
theorem Reach_l2_ok (V : Valid p acc gd nd) (T : Tab nd gd acc.length (two p) r18.1) {q0 : List Int} {i qi : Nat} (h0 : q0.getD i 0 = ((qi : Nat) : Int)) (hqi : qi < acc.length) : ∀ (m x : Nat) (out : List Int) (qu : List Nat), x ≤ two p → two p - x < m → i < qu.length → qu.getD i 0 = qi → RI nd gd acc.length (two p) out qu i x →
    Ok (lang_Reach_l2 N r18 q0 (i : Int) m out (cs qu) (x : Int)) fun r => ∃ qu', r.2 = cs qu' ∧ i < qu'.length ∧ RI nd gd acc.length (two p) r.1 qu' i (two p) := by
  have sh := shl_two ⟨V.p0, V.p8⟩
  have a2 := V.a2
  intro m
  induction m with
  | zero => intro x out qu _ h _ _ _; omega
  | succ m ih =>
    intro x out qu k1 k2 k3 k4 I
    have few := I.few
    have cl := cnt_le out
    have len := I.len
    unfold lang_Reach_l2
    rw [Int.toNat_natCast, h0, Int.toNat_natCast, T.row qi hqi]
    refine Ok.ite (fun hx => ?_) fun hx => Ok.pure (by have : x = two p := by omega
                                                       subst this; exact ⟨qu, rfl, k3, I⟩)
    have hx' : x < two p := by omega
    have st := (stp_eq V hqi x).2
    have li := I.lt i k3
    rw [k4] at li
    rw [Int.toNat_natCast, T.at_ qi x hqi hx', Int.toNat_natCast, I.len, cs_len, cs_getD k3, k4, Int.toNat_natCast]
    refine Ok.ask (by unfold idx; omega) (Ok.ask (by unfold idx; omega) ?_)
    refine Ok.ite (fun hr => ?_) fun hr => ?_
    · refine Ok.ask (by unfold idx; omega) (Ok.ask (by unfold idx; omega) (Ok.ask (by unfold in64; omega) (Ok.ask (by simp; omega) (Ok.ask (by unfold in64; omega) ?_))))
      rw [cs_snoc, show ((x : Int) + 1) = ((x + 1 : Nat) : Int) by omega]
      have gs : ∀ (r : Nat), (out.set (stp nd gd qi x) (out.getD qi 0 + 1)).getD r 0 = if stp nd gd qi x = r then out.getD qi 0 + 1 else out.getD r 0 := fun r => getD_set (by rw [I.len]; exact st)
      have old : ∀ j, j < qu.length → (out.set (stp nd gd qi x) (out.getD qi 0 + 1)).getD (qu.getD j 0) 0 = out.getD (qu.getD j 0) 0 := fun j hj => by
        rw [gs, if_neg]
        intro e
        have := (I.lt j hj).2.1
        rw [← e] at this
        omega
      have qg : ∀ j, j < qu.length → (qu ++ [stp nd gd qi x]).getD j 0 = qu.getD j 0 := fun j hj => by rw [getD_snoc, if_neg (by omega)]
      have qe : (qu ++ [stp nd gd qi x]).getD qu.length 0 = stp nd gd qi x := by rw [getD_snoc, if_pos rfl]
      have ql : (qu ++ [stp nd gd qi x]).length = qu.length + 1 := by simp
      refine ih (x + 1) _ _ (by omega) (by omega) (by rw [ql]; omega) (by rw [qg i k3, k4]) ?_
      have up : ∀ j, j < qu.length → ∀ l', 0 ≤ out.getD (stp nd gd (qu.getD j 0) l') 0 ∧ out.getD (stp nd gd (qu.getD j 0) l') 0 ≤ out.getD (qu.getD j 0) 0 + 1 →
          0 ≤ (out.set (stp nd gd qi x) (out.getD qi 0 + 1)).getD (stp nd gd (qu.getD j 0) l') 0 ∧ (out.set (stp nd gd qi x) (out.getD qi 0 + 1)).getD (stp nd gd (qu.getD j 0) l') 0 ≤ (out.set (stp nd gd qi x) (out.getD qi 0 + 1)).getD (qu.getD j 0) 0 + 1 := fun j hj l' h => by
        rw [old j hj, gs, if_neg (fun e => by rw [← e] at h; omega)]
        exact h
      refine ⟨by rw [List.length_set]; exact I.len, ?_, fun j hj => ?_, fun r hr2 h => ?_, fun j k hjk hk => ?_, fun k hk _ => ?_, fun j hj hj2 l' hl' => ?_, fun _ l' hl' => ?_, ?_⟩
      · rw [gs, if_neg]
        · exact I.fst
        · intro e
          have := I.fst
          rw [e] at hr
          omega
      · rw [ql] at hj
        by_cases c : j = qu.length
        · rw [c, qe, gs, if_pos rfl]
          omega
        · rw [qg j (by omega), old j (by omega)]
          exact I.lt j (by omega)
      · rw [gs] at h
        by_cases c : stp nd gd qi x = r
        · exact ⟨qu.length, by rw [ql]; omega, by rw [qe, c]⟩
        · rw [if_neg c] at h
          obtain ⟨j, hj, e⟩ := I.all r hr2 h
          exact ⟨j, by rw [ql]; omega, by rw [qg j hj, e]⟩
      · rw [ql] at hk
        by_cases c : k = qu.length
        · rw [c, qe]
          by_cases d : j = qu.length
          · rw [d, qe]; exact Int.le_refl _
          · rw [qg j (by omega), old j (by omega), gs, if_pos rfl, ← k4]
            exact I.top j (by omega) k3
        · rw [qg k (by omega), qg j (by omega), old k (by omega), old j (by omega)]
          exact I.mono j k hjk (by omega)
      · rw [ql] at hk
        rw [qg i k3, old i k3, k4]
        by_cases c : k = qu.length
        · rw [c, qe, gs, if_pos rfl]; exact Int.le_refl _
        · rw [qg k (by omega), old k (by omega), ← k4]
          exact I.top k (by omega) k3
      · rw [qg j (by omega)]
        exact up j (by omega) l' (I.done j hj (by omega) l' hl')
      · rw [qg i k3]
        by_cases c : l' = x
        · rw [c, old i k3, k4, gs, if_pos rfl]
          omega
        · exact up i k3 l' (I.part k3 l' (by omega))
      · rw [ql]
        have := cnt_lt out (out.set (stp nd gd qi x) (out.getD qi 0 + 1)) (by simp) (fun r hr2 h => by rw [gs]; split <;> omega) (stp nd gd qi x) (by rw [I.len]; exact st) hr (by rw [gs, if_pos rfl]; omega)
        omega
    · refine Ok.ask (by unfold in64; omega) ?_
      rw [show ((x : Int) + 1) = ((x + 1 : Nat) : Int) by omega]
      refine ih (x + 1) out qu (by omega) (by omega) k3 k4 ⟨I.len, I.fst, I.lt, I.all, I.mono, I.top, I.done, fun h l' hl' => ?_, I.few⟩
      by_cases c : l' = x
      · obtain ⟨j, hj, e⟩ := I.all _ st (by omega)
        rw [c, k4]
        refine ⟨by omega, ?_⟩
        have := I.top j hj k3
        rw [e, k4] at this
        exact this
      · exact I.part h l' (by omega)
theorem Reach_l1_ok (hN : 5000 ≤ N) (V : Valid p acc gd nd) (T : Tab nd gd acc.length (two p) r18.1) : ∀ (m i : Nat) (out : List Int) (qu : List Nat), i ≤ qu.length → acc.length + 1 - i < m → RI nd gd acc.length (two p) out qu i 0 →
    Ok (lang_Reach_l1 N r18 m out (cs qu) (i : Int)) fun r => ∃ qu', RI nd gd acc.length (two p) r qu' qu'.length 0 := by
  have sh := shl_two ⟨V.p0, V.p8⟩
  have a2 := V.a2
  have tl := T.len
  intro m
  induction m with
  | zero => intro i out qu _ h _; omega
  | succ m ih =>
    intro i out qu k1 k2 I
    have few := I.few
    have cl := cnt_le out
    have len := I.len
    unfold lang_Reach_l1
    rw [cs_len]
    refine Ok.ite (fun hx => ?_) fun hx => Ok.pure (by have : i = qu.length := by omega
                                                       subst this; exact ⟨qu, I⟩)
    have hx' : i < qu.length := by omega
    have li := I.lt i hx'
    have c0 : (cs qu).getD i 0 = ((qu.getD i 0 : Nat) : Int) := cs_getD hx'
    refine Ok.ask (by unfold idx; omega) ?_
    rw [Int.toNat_natCast, c0, tl]
    refine Ok.ask (by unfold idx; omega) ?_
    refine (Reach_l2_ok (N := N) V T c0 li.1 N 0 out qu (by omega) (by omega) hx' rfl I).bind fun r ⟨qu', e, hi, J⟩ => ?_
    refine Ok.ask (by unfold in64; omega) ?_
    rw [e, show ((i : Int) + 1) = ((i + 1 : Nat) : Int) by omega]
    have few' := J.few
    have cl' := cnt_le r.1
    have len' := J.len
    refine ih (i + 1) r.1 qu' (by omega) (by omega) ⟨J.len, J.fst, J.lt, J.all, J.mono, fun k hk h => ?_, fun j hj hj2 l' hl' => ?_, fun _ l' h => (by omega), J.few⟩
    · have := J.top k hk hi
      have := J.mono i (i + 1) (by omega) h
      omega
    · by_cases c : j = i
      · rw [c]; exact J.part hi l' hl'
      · exact J.done j (by omega) hj2 l' hl'
theorem Reach_l0_ok (hn : r18.1.length ≤ 1000) : ∀ (m x : Nat) (out : List Int), x ≤ r18.1.length → r18.1.length - x < m → out.length = r18.1.length → (∀ q, q < x → out.getD q 0 = -1) →
    Ok (lang_Reach_l0 N r18 m out (x : Int)) fun r => r.length = r18.1.length ∧ ∀ q, q < r18.1.length → r.getD q 0 = -1 := by
  intro m
  induction m with
  | zero => intro x out _ h _; omega
  | succ m ih =>
    intro x out k1 k2 k3 k4
    unfold lang_Reach_l0
    rw [List.length_replicate, Int.toNat_natCast]
    refine Ok.ite (fun hx => ?_) fun hx => Ok.pure ⟨k3, fun q hq => k4 q (by omega)⟩
    refine Ok.ask (by unfold idx; omega) (Ok.ask (by unfold in64; omega) ?_)
    rw [Int.toNat_natCast, show ((x : Int) + 1) = ((x + 1 : Nat) : Int) by omega]
    refine ih (x + 1) _ (by omega) (by omega) (by rw [List.length_set]; exact k3) fun q hq => ?_
    rw [getD_set (by omega)]
    by_cases c : x = q
    · rw [if_pos c]
    · rw [if_neg c]; exact k4 q (by omega)
theorem Reach_ok (hN : 5000 ≤ N) (V : Valid p acc gd nd) (hC : guard_Check N p acc gd nd = some 0) : Ok (lang_Reach N p acc gd nd) fun r => r.2 = 0 ∧ r.1.length = acc.length ∧ r.1.getD 0 0 = 0 ∧
    ∀ q, q < acc.length → 0 ≤ r.1.getD q 0 → ∀ l, l < two p → 0 ≤ r.1.getD (stp nd gd q l) 0 ∧ r.1.getD (stp nd gd q l) 0 ≤ r.1.getD q 0 + 1 := by
  have a1 := V.a1
  have a2 := V.a2
  unfold lang_Reach
  refine (table_ok hN V hC).bind fun r ⟨r1, T⟩ => ?_
  have tl := T.len
  rw [if_pos r1]
  refine Ok.ask (by omega) ?_
  refine (Reach_l0_ok (N := N) (r18 := r) (by omega) N 0 _ (by omega) (by omega) (by simp) (fun q h => by omega)).bind fun o ⟨h1, h2⟩ => ?_
  rw [tl] at h1 h2
  refine Ok.ask (by unfold idx; omega) ?_
  have gs : ∀ (r : Nat), (o.set 0 0).getD r 0 = if 0 = r then 0 else o.getD r 0 := fun r => getD_set (by omega)
  have I : RI nd gd acc.length (two p) (o.set 0 0) [0] 0 0 := by
    have q0 : ∀ j, j < 1 → ([0] : List Nat).getD j 0 = 0 := fun j hj => by have : j = 0 := by omega
                                                                           subst this; rfl
    have g0 : (o.set 0 0).getD 0 0 = 0 := by rw [gs, if_pos rfl]
    refine ⟨by rw [List.length_set]; exact h1, g0, fun j hj => ?_, fun q hq h => ?_, fun j k hjk hk => ?_, fun k hk _ => ?_, fun j h => (by omega), fun _ l h => (by omega), ?_⟩
    · rw [q0 j hj, g0]; exact ⟨by omega, by omega, by omega⟩
    · by_cases c : 0 = q
      · exact ⟨0, by simp, by rw [q0 0 (by omega), c]⟩
      · rw [gs, if_neg c, h2 q hq] at h; omega
    · have hk' : k < 1 := hk
      rw [q0 k hk', q0 j (by omega)]; exact Int.le_refl _
    · have hk' : k < 1 := hk
      rw [q0 k hk', q0 0 (by omega), g0]; omega
    · show 1 ≤ _
      have := cnt_lt o (o.set 0 0) (by simp) (fun r hr h => by rw [gs]; split <;> omega) 0 (by omega) (by rw [h2 0 (by omega)]; omega) (by rw [g0]; omega)
      omega
  refine (Reach_l1_ok (N := N) hN V T N 0 _ [0] (by simp) (by omega) I).bind fun s ⟨qu, J⟩ => ?_
  refine Ok.pure ⟨rfl, J.len, J.fst, fun q hq h l hl => ?_⟩
  obtain ⟨j, hj, e⟩ := J.all q hq h
  have := J.done j hj hj l hl
  rw [e] at this
  exact this
end
end Go.V
