/- Plain theory: pairs of states, as they are met. No program. -/
import Derived.Test.YtihindpnnbllkaaCS
set_option linter.all false
set_option linter.unusedVariables false
set_option maxRecDepth 100000
namespace Go.V
open Go

def stp2 (nd : List Nd) (gd : List Int) (ne : List Nd) (hd : List Int) (u : Int × Int) (l : Nat) : Int × Int := ((stp nd gd u.1.toNat l : Int), (stp ne hd u.2.toNat l : Int))
/-- the pairs that were met ahead of row x, letter y -/
structure MI (nd : List Nd) (gd : List Int) (ne : List Nd) (hd : List Int) (n k L : Nat) (ps : List (Int × Int)) (fr bb : List Int) (at_ : List ((Int × Int) × Int)) (x y : Nat) : Prop where
  lf : fr.length = ps.length
  lb : bb.length = ps.length
  one : 1 ≤ ps.length
  zero : ps.getD 0 (0, 0) = (0, 0)
  f0 : fr.getD 0 0 = -1
  ent : ∀ i, i < ps.length → ∃ a b : Nat, a < n ∧ b < k ∧ ps.getD i (0, 0) = ((a : Int), (b : Int))
  atS : ∀ j, 1 ≤ j → j < ps.length → mget at_ (ps.getD j (0, 0)) = some (j : Int)
  atN : ∀ key v, mget at_ key = some v → ∃ j : Nat, 1 ≤ j ∧ j < ps.length ∧ v = (j : Int) ∧ ps.getD j (0, 0) = key
  frm : ∀ j, 1 ≤ j → j < ps.length → ∃ i l : Nat, fr.getD j 0 = (i : Int) ∧ bb.getD j 0 = (l : Int) ∧ i < j ∧ l < L ∧ (i < x ∨ (i = x ∧ l < y)) ∧ ps.getD j (0, 0) = stp2 nd gd ne hd (ps.getD i (0, 0)) l
  mono : ∀ j j', 1 ≤ j → j < j' → j' < ps.length → fr.getD j 0 < fr.getD j' 0 ∨ (fr.getD j 0 = fr.getD j' 0 ∧ bb.getD j 0 < bb.getD j' 0)
/-- row i, letter l leads to j; where j was met first -/
def Cov (nd : List Nd) (gd : List Int) (ne : List Nd) (hd : List Int) (ps : List (Int × Int)) (fr bb : List Int) (i l j : Nat) : Prop :=
  1 ≤ j ∧ j < ps.length ∧ ps.getD j (0, 0) = stp2 nd gd ne hd (ps.getD i (0, 0)) l ∧ (fr.getD j 0 < i ∨ (fr.getD j 0 = i ∧ bb.getD j 0 ≤ l))
def Pre3 (ps ps' : List (Int × Int)) (fr bb fr' bb' : List Int) : Prop := ps.length ≤ ps'.length ∧ ∀ i, i < ps.length → ps'.getD i (0, 0) = ps.getD i (0, 0) ∧ fr'.getD i 0 = fr.getD i 0 ∧ bb'.getD i 0 = bb.getD i 0
theorem Pre3.refl {ps : List (Int × Int)} {fr bb : List Int} : Pre3 ps ps fr bb fr bb := ⟨Nat.le_refl _, fun i _ => ⟨rfl, rfl, rfl⟩⟩
theorem Pre3.trans {ps ps' ps2 : List (Int × Int)} {fr bb fr' bb' fr2 bb2 : List Int} (h : Pre3 ps ps' fr bb fr' bb') (h2 : Pre3 ps' ps2 fr' bb' fr2 bb2) : Pre3 ps ps2 fr bb fr2 bb2 :=
  ⟨Nat.le_trans h.1 h2.1, fun i hi => by
    obtain ⟨a, b, c⟩ := h.2 i hi
    obtain ⟨a2, b2, c2⟩ := h2.2 i (Nat.lt_of_lt_of_le hi h.1)
    exact ⟨a2.trans a, b2.trans b, c2.trans c⟩⟩
section
variable {N : Nat} {p : Int} {acc bcc : List Bool} {gd hd : List Int} {nd ne : List Nd} {n k L : Nat} {ps ps' : List (Int × Int)} {fr bb fr' bb' : List Int} {at_ : List ((Int × Int) × Int)} {x y : Nat}
theorem Cov.pre {i l j : Nat} (h : Cov nd gd ne hd ps fr bb i l j) (hi : i < ps.length) (P : Pre3 ps ps' fr bb fr' bb') : Cov nd gd ne hd ps' fr' bb' i l j := by
  obtain ⟨h1, h2, h3, h4⟩ := h
  obtain ⟨a, b, c⟩ := P.2 j h2
  refine ⟨h1, Nat.lt_of_lt_of_le h2 P.1, ?_, ?_⟩
  · rw [a, (P.2 i hi).1, h3]
  · rw [b, c]; exact h4
theorem pl2_lt {a b : Nat} (ha : a < n) (hb : b < k) : k * a + b < n * k := by
  have h1 := Nat.mul_le_mul_left k (show a + 1 ≤ n by omega)
  rw [Nat.mul_add, Nat.mul_one, Nat.mul_comm k n] at h1
  omega
theorem pl2_inj {a b a' b' : Nat} (hb : b < k) (hb' : b' < k) (h : k * a + b = k * a' + b') : a = a' ∧ b = b' := by
  have d1 : (k * a + b) / k = a := by rw [Nat.mul_add_div (by omega), Nat.div_eq_of_lt hb, Nat.add_zero]
  have d2 : (k * a' + b') / k = a' := by rw [Nat.mul_add_div (by omega), Nat.div_eq_of_lt hb', Nat.add_zero]
  rw [h, d2] at d1
  subst d1
  exact ⟨rfl, by omega⟩
theorem MI.inj (I : MI nd gd ne hd n k L ps fr bb at_ x y) {i j : Nat} (h1 : 1 ≤ i) (h2 : i < ps.length) (h3 : 1 ≤ j) (h4 : j < ps.length) (h : ps.getD i (0, 0) = ps.getD j (0, 0)) : i = j := by
  have e1 := I.atS i h1 h2
  have e2 := I.atS j h3 h4
  rw [h, e2] at e1
  have := Option.some.inj e1
  omega
theorem MI.few (I : MI nd gd ne hd n k L ps fr bb at_ x y) : ps.length ≤ n * k + 1 := by
  refine Classical.byContradiction fun h => ?_
  obtain ⟨i, j, h1, h2, h3⟩ := pigeon (fun i => k * (ps.getD (i + 1) (0, 0)).1.toNat + (ps.getD (i + 1) (0, 0)).2.toNat) (n * k) fun i hi => by
    obtain ⟨a, b, ha, hb, e⟩ := I.ent (i + 1) (by omega)
    show k * (ps.getD (i + 1) (0, 0)).1.toNat + (ps.getD (i + 1) (0, 0)).2.toNat < _
    rw [e]
    simp only [Int.toNat_natCast]
    exact pl2_lt ha hb
  obtain ⟨a, b, ha, hb, e⟩ := I.ent (i + 1) (by omega)
  obtain ⟨a', b', ha', hb', e'⟩ := I.ent (j + 1) (by omega)
  have h3 : k * (ps.getD (i + 1) (0, 0)).1.toNat + (ps.getD (i + 1) (0, 0)).2.toNat = k * (ps.getD (j + 1) (0, 0)).1.toNat + (ps.getD (j + 1) (0, 0)).2.toNat := h3
  rw [e, e'] at h3
  simp only [Int.toNat_natCast] at h3
  obtain ⟨q1, q2⟩ := pl2_inj hb hb' h3
  have := I.inj (i := i + 1) (j := j + 1) (by omega) (by omega) (by omega) (by omega) (by rw [e, e', q1, q2])
  omega
theorem MI.old (I : MI nd gd ne hd n k L ps fr bb at_ x y) : MI nd gd ne hd n k L ps fr bb at_ x (y + 1) :=
  ⟨I.lf, I.lb, I.one, I.zero, I.f0, I.ent, I.atS, I.atN, fun j h1 h2 => by
    obtain ⟨i, l, a, b, c, d, e, f⟩ := I.frm j h1 h2
    exact ⟨i, l, a, b, c, d, by omega, f⟩, I.mono⟩
theorem MI.row (I : MI nd gd ne hd n k L ps fr bb at_ x L) : MI nd gd ne hd n k L ps fr bb at_ (x + 1) 0 :=
  ⟨I.lf, I.lb, I.one, I.zero, I.f0, I.ent, I.atS, I.atN, fun j h1 h2 => by
    obtain ⟨i, l, a, b, c, d, e, f⟩ := I.frm j h1 h2
    exact ⟨i, l, a, b, c, d, by omega, f⟩, I.mono⟩
theorem MI.new (I : MI nd gd ne hd n k L ps fr bb at_ x y) {a b : Nat} (hx : x < ps.length) (hy : y < L) (e : ps.getD x (0, 0) = ((a : Int), (b : Int))) (ha : stp nd gd a y < n) (hb : stp ne hd b y < k) (hm : mget at_ ((stp nd gd a y : Int), (stp ne hd b y : Int)) = none) :
    MI nd gd ne hd n k L (ps ++ [((stp nd gd a y : Int), (stp ne hd b y : Int))]) (fr ++ [(x : Int)]) (bb ++ [(y : Int)]) (at_ ++ [(((stp nd gd a y : Int), (stp ne hd b y : Int)), ((ps.length : Nat) : Int))]) x (y + 1) ∧
    Pre3 ps (ps ++ [((stp nd gd a y : Int), (stp ne hd b y : Int))]) fr bb (fr ++ [(x : Int)]) (bb ++ [(y : Int)]) := by
  have lf := I.lf
  have lb := I.lb
  have one := I.one
  have hlen : (ps ++ [((stp nd gd a y : Int), (stp ne hd b y : Int))]).length = ps.length + 1 := by rw [List.length_append, List.length_singleton]
  have old : ∀ i, i < ps.length → (ps ++ [((stp nd gd a y : Int), (stp ne hd b y : Int))]).getD i (0, 0) = ps.getD i (0, 0) := fun i hi => by rw [getD_snoc, if_neg (by omega)]
  have oldf : ∀ i, i < ps.length → (fr ++ [(x : Int)]).getD i 0 = fr.getD i 0 := fun i hi => by rw [getD_snoc, if_neg (by omega)]
  have oldb : ∀ i, i < ps.length → (bb ++ [(y : Int)]).getD i 0 = bb.getD i 0 := fun i hi => by rw [getD_snoc, if_neg (by omega)]
  have new : (ps ++ [((stp nd gd a y : Int), (stp ne hd b y : Int))]).getD ps.length (0, 0) = ((stp nd gd a y : Int), (stp ne hd b y : Int)) := by rw [getD_snoc, if_pos rfl]
  have newf : (fr ++ [(x : Int)]).getD ps.length 0 = (x : Int) := by rw [getD_snoc, if_pos lf.symm]
  have newb : (bb ++ [(y : Int)]).getD ps.length 0 = (y : Int) := by rw [getD_snoc, if_pos lb.symm]
  refine ⟨⟨by rw [hlen, List.length_append, List.length_singleton, lf], by rw [hlen, List.length_append, List.length_singleton, lb], by omega, by rw [old 0 (by omega)]; exact I.zero, by rw [oldf 0 (by omega)]; exact I.f0, fun i hi => ?_, fun j h1 h2 => ?_, fun key v hv => ?_, fun j h1 h2 => ?_, fun j j' h1 h2 h3 => ?_⟩, by omega, fun i hi => ⟨old i hi, oldf i hi, oldb i hi⟩⟩
  · by_cases c : i = ps.length
    · subst c; exact ⟨_, _, ha, hb, new⟩
    · rw [old i (by omega)]; exact I.ent i (by omega)
  · by_cases c : j = ps.length
    · subst c
      rw [new, mget_app_none hm, if_pos rfl]
    · rw [old j (by omega)]
      exact mget_app_some (I.atS j h1 (by omega))
  · by_cases c : mget at_ key = none
    · rw [mget_app_none c] at hv
      by_cases d : ((stp nd gd a y : Int), (stp ne hd b y : Int)) = key
      · rw [if_pos d] at hv
        have := Option.some.inj hv
        exact ⟨ps.length, one, by omega, this.symm, by rw [new]; exact d⟩
      · rw [if_neg d] at hv
        cases hv
    · obtain ⟨u, hu⟩ := Option.ne_none_iff_exists'.1 c
      rw [mget_app_some hu] at hv
      obtain ⟨j, h1, h2, h3, h4⟩ := I.atN key u hu
      exact ⟨j, h1, by omega, by rw [← Option.some.inj hv, h3], by rw [old j h2]; exact h4⟩
  · by_cases c : j = ps.length
    · subst c
      refine ⟨x, y, newf, newb, hx, hy, .inr ⟨rfl, by omega⟩, ?_⟩
      rw [new, old x hx, e]
      unfold stp2
      rw [Int.toNat_natCast, Int.toNat_natCast]
    · obtain ⟨i, l, q1, q2, q3, q4, q5, q6⟩ := I.frm j h1 (by omega)
      exact ⟨i, l, by rw [oldf j (by omega)]; exact q1, by rw [oldb j (by omega)]; exact q2, q3, q4, by omega, by rw [old j (by omega), old i (by omega)]; exact q6⟩
  · by_cases c : j' = ps.length
    · subst c
      rw [newf, newb, oldf j (by omega), oldb j (by omega)]
      obtain ⟨i, l, q1, q2, q3, q4, q5, q6⟩ := I.frm j h1 (by omega)
      rw [q1, q2]
      omega
    · rw [oldf j (by omega), oldb j (by omega), oldf j' (by omega), oldb j' (by omega)]
      exact I.mono j j' h1 h2 (by omega)
theorem met1_ok (V : Valid p acc gd nd) (W : Valid p bcc hd ne) {r765 r794 : List Int × Int} {x a b : Nat} (ha : a < acc.length) (hb : b < bcc.length) (l1 : r765.1.length = two p) (e1 : ∀ l, l < two p → r765.1.getD l 0 = (stp nd gd a l : Int)) (l2 : r794.1.length = two p) (e2 : ∀ l, l < two p → r794.1.getD l 0 = (stp ne hd b l : Int)) :
    ∀ (m : Nat) (ps : List (Int × Int)) (fr bb : List Int) (at_ : List ((Int × Int) × Int)) (row : List Int) (y : Nat), y ≤ two p → two p - y < m → x < ps.length → ps.getD x (0, 0) = ((a : Int), (b : Int)) → MI nd gd ne hd acc.length bcc.length (two p) ps fr bb at_ x y → row.length = two p → (∀ l, l < y → ∃ j : Nat, row.getD l 0 = (j : Int) ∧ Cov nd gd ne hd ps fr bb x l j) →
    Ok (both_met_l1 N (x : Int) r765 r794 m ps fr bb at_ row (y : Int)) fun r => MI nd gd ne hd acc.length bcc.length (two p) r.1 r.2.1 r.2.2.1 r.2.2.2.1 x (two p) ∧ Pre3 ps r.1 fr bb r.2.1 r.2.2.1 ∧ r.2.2.2.2.length = two p ∧ ∀ l, l < two p → ∃ j : Nat, r.2.2.2.2.getD l 0 = (j : Int) ∧ Cov nd gd ne hd r.1 r.2.1 r.2.2.1 x l j := by
  intro m
  induction m with
  | zero => intro ps fr bb at_ row y _ h; omega
  | succ m ih =>
    intro ps fr bb at_ row y k1 k2 k3 k4 I k5 k6
    have a2 := V.a2
    have b2 := W.a2
    have few := I.few
    have hnn : acc.length * bcc.length ≤ 65536 := Nat.mul_le_mul a2 b2
    have sh := shl_two ⟨V.p0, V.p8⟩
    have lf := I.lf
    have lb := I.lb
    unfold both_met_l1
    rw [l1]
    refine Ok.ite (fun hy => ?_) fun hy => Ok.pure ⟨by rw [show two p = y by omega]; exact (show two p = y by omega) ▸ I, Pre3.refl, k5, fun l hl => k6 l (by omega)⟩
    have hy' : y < two p := by omega
    have h1 := (stp_eq V ha y).2
    have h2 := (stp_eq W hb y).2
    rw [Int.toNat_natCast, e1 y hy', e2 y hy']
    refine Ok.ask (by unfold idx; omega) (Ok.ask (by unfold idx; omega) (Ok.ask (by unfold key2 in64; dsimp only; omega) ?_))
    cases hm : mget at_ ((stp nd gd a y : Int), (stp ne hd b y : Int)) with
    | some v =>
      obtain ⟨j, j1, j2, j3, j4⟩ := I.atN _ _ hm
      rw [if_pos (show (some v).isSome = true from rfl)]
      refine Ok.ask (by unfold idx; omega) (Ok.ask (by unfold in64; omega) ?_)
      rw [show ((y : Int) + 1) = ((y + 1 : Nat) : Int) by omega, Option.getD_some, j3]
      refine ih ps fr bb at_ _ (y + 1) (by omega) (by omega) k3 k4 I.old (by rw [List.length_set]; exact k5) fun l hl => ?_
      rw [getD_set (by omega)]
      by_cases c : y = l
      · subst c
        rw [if_pos rfl]
        refine ⟨j, rfl, j1, j2, ?_, ?_⟩
        · rw [j4, k4]
          unfold stp2
          rw [Int.toNat_natCast, Int.toNat_natCast]
        · obtain ⟨i, l, q1, q2, q3, q4, q5, q6⟩ := I.frm j j1 j2
          rw [q1, q2]
          omega
      · rw [if_neg c]
        exact k6 l (by omega)
    | none =>
      rw [if_neg (by simp)]
      have hw8 : IntKind.u8.wrap (y : Int) = (y : Int) := wrap_u8 (by omega) (by omega)
      rw [hw8]
      refine Ok.ask rfl (Ok.ask (by simp; omega) (Ok.ask (by simp; omega) (Ok.ask (by simp; omega) (Ok.ask (by unfold idx; omega) (Ok.ask (by unfold in64; omega) ?_)))))
      rw [show ((y : Int) + 1) = ((y + 1 : Nat) : Int) by omega]
      obtain ⟨J, P⟩ := I.new k3 hy' k4 h1 h2 hm
      refine (ih _ _ _ _ _ (y + 1) (by omega) (by omega) (Nat.lt_of_lt_of_le k3 P.1) (by rw [(P.2 x k3).1]; exact k4) J (by rw [List.length_set]; exact k5) fun l hl => ?_).mono fun r ⟨r1, r2, r3⟩ => ⟨r1, P.trans r2, r3⟩
      rw [getD_set (by omega)]
      by_cases c : y = l
      · subst c
        rw [if_pos rfl]
        have hlen : (ps ++ [((stp nd gd a y : Int), (stp ne hd b y : Int))]).length = ps.length + 1 := by rw [List.length_append, List.length_singleton]
        refine ⟨ps.length, rfl, I.one, by omega, ?_, ?_⟩
        · rw [getD_snoc, if_pos rfl, (P.2 x k3).1, k4]
          unfold stp2
          rw [Int.toNat_natCast, Int.toNat_natCast]
        · rw [getD_snoc, if_pos lf.symm, getD_snoc, if_pos lb.symm]
          omega
      · rw [if_neg c]
        obtain ⟨j, q1, q2⟩ := k6 l (by omega)
        exact ⟨j, q1, q2.pre k3 P⟩
/-- all pairs, where letters lead, and how each was met -/
structure Met (nd : List Nd) (gd : List Int) (ne : List Nd) (hd : List Int) (n k L : Nat) (r : (List (Int × Int)) × (List (List Int)) × (List Int) × (List Int)) : Prop where
  I : ∃ at_, MI nd gd ne hd n k L r.1 r.2.2.1 r.2.2.2 at_ r.1.length 0
  wl : r.2.1.length = r.1.length
  row : ∀ i, i < r.1.length → (r.2.1.getD i []).length = L
  cov : ∀ i l, i < r.1.length → l < L → ∃ j : Nat, (r.2.1.getD i []).getD l 0 = (j : Int) ∧ Cov nd gd ne hd r.1 r.2.2.1 r.2.2.2 i l j
theorem met0_ok (hN : 5000 ≤ N) (V : Valid p acc gd nd) (W : Valid p bcc hd ne) :
    ∀ (m : Nat) (ps : List (Int × Int)) (wh : List (List Int)) (fr bb : List Int) (at_ : List ((Int × Int) × Int)) (x : Nat), x ≤ ps.length → acc.length * bcc.length + 1 - x < m → MI nd gd ne hd acc.length bcc.length (two p) ps fr bb at_ x 0 → wh.length = x →
    (∀ i, i < x → (wh.getD i []).length = two p ∧ ∀ l, l < two p → ∃ j : Nat, (wh.getD i []).getD l 0 = (j : Int) ∧ Cov nd gd ne hd ps fr bb i l j) →
    Ok (both_met_l0 N p gd nd p hd ne m ps wh fr bb at_ (x : Int)) fun r => Met nd gd ne hd acc.length bcc.length (two p) r := by
  intro m
  induction m with
  | zero => intro ps wh fr bb at_ x _ h; omega
  | succ m ih =>
    intro ps wh fr bb at_ x k1 k2 I k3 k4
    have a2 := V.a2
    have b2 := W.a2
    have gl := V.gl
    have hl := W.gl
    have few := I.few
    have hnn : acc.length * bcc.length ≤ 65536 := Nat.mul_le_mul a2 b2
    have sh := shl_two ⟨V.p0, V.p8⟩
    unfold both_met_l0
    refine Ok.ite (fun hx => ?_) fun hx => Ok.pure ?_
    · have hx' : x < ps.length := by omega
      obtain ⟨a, b, ha, hb, e⟩ := I.ent x hx'
      rw [Int.toNat_natCast, e]
      dsimp only
      rw [Int.toNat_natCast, Int.toNat_natCast]
      refine Ok.ask (by unfold idx; omega) (Ok.ask (by unfold idx; omega) ?_)
      refine (Table_ok hN V (q := a) ha).bind fun r1 ⟨u1, u2, u3⟩ => ?_
      refine Ok.ask (by unfold idx; omega) ?_
      refine (Table_ok hN W (q := b) hb).bind fun r2 ⟨v1, v2, v3⟩ => ?_
      refine Ok.ask (by omega) ?_
      refine (met1_ok (N := N) V W ha hb u2 u3 v2 v3 N ps fr bb at_ _ 0 (by omega) (by omega) hx' e I (by rw [List.length_replicate]; omega) fun l hl => by omega).bind fun r ⟨J, P, rl, rc⟩ => ?_
      refine Ok.ask (by simp; omega) (Ok.ask (by unfold in64; omega) ?_)
      rw [show ((x : Int) + 1) = ((x + 1 : Nat) : Int) by omega]
      refine ih _ _ _ _ _ (x + 1) (by have := P.1; omega) (by omega) J.row (by rw [List.length_append, List.length_singleton, k3]) fun i hi => ?_
      rw [getD_snoc]
      by_cases c : i = wh.length
      · rw [if_pos c, c, k3]
        exact ⟨rl, rc⟩
      · rw [if_neg c]
        obtain ⟨q1, q2⟩ := k4 i (by omega)
        refine ⟨q1, fun l hl => ?_⟩
        obtain ⟨j, q3, q4⟩ := q2 l hl
        exact ⟨j, q3, q4.pre (by omega) P⟩
    · have hxe : x = ps.length := by omega
      subst hxe
      exact ⟨⟨at_, I⟩, k3, fun i hi => (k4 i hi).1, fun i l hi hl => (k4 i hi).2 l hl⟩
theorem MI.start (a1 : 1 ≤ n) (b1 : 1 ≤ k) : MI nd gd ne hd n k L [((0 : Int), (0 : Int))] [-1] [0] [] 0 0 := by
  refine ⟨rfl, rfl, Nat.le_refl _, rfl, rfl, fun i hi => ?_, fun j h1 h2 => ?_, fun key v h => ?_, fun j h1 h2 => ?_, fun j j' h1 h2 h3 => ?_⟩
  · have : i = 0 := by simpa using hi
    subst this
    exact ⟨0, 0, by omega, by omega, rfl⟩
  · rw [List.length_singleton] at h2; omega
  · cases h
  · rw [List.length_singleton] at h2; omega
  · rw [List.length_singleton] at h3; omega
theorem met_ok (hN : 70000 ≤ N) (V : Valid p acc gd nd) (W : Valid p bcc hd ne) : Ok (both_met N p acc gd nd p bcc hd ne) fun r => Met nd gd ne hd acc.length bcc.length (two p) r := by
  have a1 := V.a1
  have b1 := W.a1
  have hnn : acc.length * bcc.length ≤ 65536 := Nat.mul_le_mul V.a2 W.a2
  unfold both_met
  refine (met0_ok (N := N) (by omega) V W N _ [] _ _ _ 0 (by simp) (by omega) (MI.start a1 b1) rfl fun i hi => by omega).bind fun r hr => Ok.pure hr

/-! ### what is known of them -/
abbrev MetR := (List (Int × Int)) × (List (List Int)) × (List Int) × (List Int)
def mR (r : MetR) (i l : Nat) : Nat := ((r.2.1.getD i []).getD l 0).toNat
variable {r : MetR}
theorem Met.R (M : Met nd gd ne hd n k L r) {i l : Nat} (hi : i < r.1.length) (hl : l < L) : (r.2.1.getD i []).getD l 0 = (mR r i l : Int) ∧ Cov nd gd ne hd r.1 r.2.2.1 r.2.2.2 i l (mR r i l) := by
  obtain ⟨j, h1, h2⟩ := M.cov i l hi hl
  have : mR r i l = j := by unfold mR; rw [h1, Int.toNat_natCast]
  rw [this]
  exact ⟨h1, h2⟩
theorem Met.one (M : Met nd gd ne hd n k L r) : 1 ≤ r.1.length := by obtain ⟨_, I⟩ := M.I; exact I.one
theorem Met.few (M : Met nd gd ne hd n k L r) : r.1.length ≤ n * k + 1 := by obtain ⟨_, I⟩ := M.I; exact I.few
theorem Met.lt (M : Met nd gd ne hd n k L r) {i l : Nat} (hi : i < r.1.length) (hl : l < L) : mR r i l < r.1.length := (M.R hi hl).2.2.1
theorem Met.can (M : Met nd gd ne hd n k L r) : Can r.1.length L (mR r) := by
  obtain ⟨at_, I⟩ := M.I
  have hit : ∀ j, 1 ≤ j → j < r.1.length → ∃ i l : Nat, r.2.2.1.getD j 0 = (i : Int) ∧ r.2.2.2.getD j 0 = (l : Int) ∧ i < j ∧ l < L ∧ mR r i l = j := fun j h1 h2 => by
    obtain ⟨i, l, q1, q2, q3, q4, q5, q6⟩ := I.frm j h1 h2
    obtain ⟨_, c1, c2, c3, _⟩ := M.R (i := i) (l := l) (by omega) q4
    exact ⟨i, l, q1, q2, q3, q4, I.inj c1 c2 h1 h2 (by rw [c3, q6])⟩
  refine ⟨fun i l hi hl => M.lt hi hl, fun i l v hi hl hv => ?_, fun i h0 hi => ?_⟩
  · by_cases v0 : v = 0
    · exact .inl v0
    · refine .inr ?_
      obtain ⟨_, c1, c2, c3, c4⟩ := M.R hi hl
      obtain ⟨i', l', q1, q2, q3, q4, q5⟩ := hit v (by omega) (by omega)
      refine ⟨i', l', ?_, q4, q5⟩
      have := I.mono v (mR r i l) (by omega) hv c2
      rw [q1, q2] at this
      omega
  · obtain ⟨i', l', q1, q2, q3, q4, q5⟩ := hit i (by omega) hi
    exact ⟨i', l', q3, q4, q5⟩
theorem Met.run (M : Met nd gd ne hd n k L r) : ∀ (t : List Nat) (i a b : Nat), (∀ l ∈ t, l < L) → i < r.1.length → r.1.getD i (0, 0) = ((a : Int), (b : Int)) → runR (mR r) i t < r.1.length ∧ r.1.getD (runR (mR r) i t) (0, 0) = ((runT nd gd a t : Int), (runT ne hd b t : Int))
  | [], i, a, b, _, hi, e => ⟨hi, e⟩
  | l :: t, i, a, b, ht, hi, e => by
    have hl := ht l List.mem_cons_self
    obtain ⟨_, c1, c2, c3, c4⟩ := M.R hi hl
    rw [runR_cons]
    have := M.run t (mR r i l) (stp nd gd a l) (stp ne hd b l) (fun x hx => ht x (List.mem_cons_of_mem _ hx)) c2 (by
      rw [c3, e]
      unfold stp2
      rw [Int.toNat_natCast, Int.toNat_natCast])
    exact this
theorem Met.run0 (M : Met nd gd ne hd n k L r) (t : List Nat) (ht : ∀ l ∈ t, l < L) : runR (mR r) 0 t < r.1.length ∧ r.1.getD (runR (mR r) 0 t) (0, 0) = ((runT nd gd 0 t : Int), (runT ne hd 0 t : Int)) := by
  obtain ⟨at_, I⟩ := M.I
  exact M.run t 0 0 0 ht M.one I.zero
theorem Met.pos (M : Met nd gd ne hd n k L r) {t : List Nat} (ht : ∀ l ∈ t, l < L) (h0 : t ≠ []) : 1 ≤ runR (mR r) 0 t := by
  have key : ∀ (t : List Nat) (i : Nat), (∀ l ∈ t, l < L) → i < r.1.length → (t ≠ [] ∨ 1 ≤ i) → 1 ≤ runR (mR r) i t := fun t => by
    induction t with
    | nil => intro i _ _ h; exact h.elim (fun h => absurd rfl h) id
    | cons l t ih =>
      intro i ht hi _
      obtain ⟨_, c1, c2, _⟩ := M.R hi (ht l List.mem_cons_self)
      exact ih _ (fun x hx => ht x (List.mem_cons_of_mem _ hx)) c2 (.inr c1)
  exact key t 0 ht M.one (.inl h0)
/-- all are reached -/
theorem Met.reach (M : Met nd gd ne hd n k L r) : ∀ j, j < r.1.length → ∃ t : List Nat, (∀ l ∈ t, l < L) ∧ runR (mR r) 0 t = j ∧ (t = [] ↔ j = 0) := by
  intro j
  induction j using Nat.strongRecOn with
  | _ j ih =>
    intro hj
    by_cases h0 : j = 0
    · subst h0
      exact ⟨[], fun l hl => (by cases hl), rfl, by simp⟩
    · obtain ⟨i, l, h1, h2, h3⟩ := M.can.ac j (by omega) hj
      obtain ⟨t, t1, t2, _⟩ := ih i h1 (by omega)
      refine ⟨t ++ [l], fun x hx => ?_, ?_, ?_⟩
      · rcases List.mem_append.1 hx with h | h
        · exact t1 x h
        · rw [List.mem_singleton] at h; omega
      · unfold runR at t2 ⊢
        rw [List.foldl_append, t2]
        exact h3
      · simp [h0]
end
end Go.V

/- Plain theory: the first of the pairs of which something holds. No program. -/
set_option linter.all false
set_option linter.unusedVariables false
set_option maxRecDepth 100000
namespace Go.V
open Go
/-! ### lists, the other way round -/
/-! ### letters -/
theorem and_small (x : Int) (m : Nat) (hm : m ≤ 255) : ∃ l : Nat, l ≤ m ∧ andV .u8 x (m : Int) = (l : Int) := by
  refine ⟨(BitVec.ofInt 8 x &&& BitVec.ofInt 8 (m : Int)).toNat, ?_, ?_⟩
  · have e : (BitVec.ofInt 8 (m : Int)).toNat = m := by simp; omega
    rw [BitVec.toNat_and, e]
    exact Nat.and_le_right
  · have h : (BitVec.ofInt 8 x &&& BitVec.ofInt 8 (m : Int)).toNat < 256 := (BitVec.ofInt 8 x &&& BitVec.ofInt 8 (m : Int)).isLt
    show IntKind.u8.wrap ((BitVec.ofInt 8 x &&& BitVec.ofInt 8 (m : Int)).toNat : Int) = _
    exact wrap_u8 (by omega) (by omega)
theorem mask_ok {p : Int} (hp : 0 ≤ p ∧ p ≤ 4) (x : Int) : ∃ l : Nat, l < two p ∧ andV .u8 x (IntKind.u8.wrap (shlV .u8 1 p - 1)) = (l : Int) := by
  have key : ∀ m : Nat, m ≤ 255 → IntKind.u8.wrap (shlV .u8 1 p - 1) = (m : Int) → m + 1 = two p → ∃ l : Nat, l < two p ∧ andV .u8 x (IntKind.u8.wrap (shlV .u8 1 p - 1)) = (l : Int) := fun m h1 h2 h3 => by
    obtain ⟨l, h4, h5⟩ := and_small x m h1
    exact ⟨l, by omega, by rw [h2]; exact h5⟩
  obtain ⟨c, rfl⟩ := Int.eq_ofNat_of_zero_le hp.1
  have hc : c ≤ 4 := by omega
  match c, hc with
  | 0, _ => exact key 0 (by omega) (by decide) (by decide)
  | 1, _ => exact key 1 (by omega) (by decide) (by decide)
  | 2, _ => exact key 3 (by omega) (by decide) (by decide)
  | 3, _ => exact key 7 (by omega) (by decide) (by decide)
  | 4, _ => exact key 15 (by omega) (by decide) (by decide)

section
variable {N : Nat} {p : Int} {acc bcc : List Bool} {gd hd : List Int} {nd ne : List Nd} {n k L : Nat} {r : MetR}
/-- what is said of a place -/
def sayAt (says : Bool → Bool → Bool) (acc bcc : List Bool) (r : MetR) (i : Nat) : Bool := says (acc.getD (r.1.getD i (0, 0)).1.toNat false) (bcc.getD (r.1.getD i (0, 0)).2.toNat false)
theorem Met.say (M : Met nd gd ne hd acc.length bcc.length L r) (says : Bool → Bool → Bool) (t : List Nat) (ht : ∀ l ∈ t, l < L) : sayAt says acc bcc r (runR (mR r) 0 t) = says (acc.getD (runT nd gd 0 t) false) (bcc.getD (runT ne hd 0 t) false) := by
  unfold sayAt
  rw [(M.run0 t ht).2]
  simp only [Int.toNat_natCast]
/-! ### do they go together? -/
theorem together_ok {p2 : Int} (hN : 5000 ≤ N) (hw : ∀ x ∈ nd, x.wf) (hw2 : ∀ x ∈ ne, x.wf) : Ok (both_together N p acc gd nd p2 bcc hd ne) fun e => (e = 0 → p = p2 ∧ Valid p acc gd nd ∧ guard_Check N p acc gd nd = some 0 ∧ Valid p bcc hd ne ∧ guard_Check N p bcc hd ne = some 0) := by
  obtain ⟨e, hC, he⟩ := guard_Check_ok (N := N) (p := p) (acc := acc) (gd := gd) hN hw
  obtain ⟨f, hD, hf⟩ := guard_Check_ok (N := N) (p := p2) (acc := bcc) (gd := hd) hN hw2
  unfold both_together
  refine (show Ok (guard_Check N p acc gd nd) (· = e) from ⟨e, hC, rfl⟩).bind fun e' h0' => ?_
  subst h0'
  refine Ok.ite (fun h0 => ?_) fun h0 => Ok.pure fun h => absurd h h0
  refine (show Ok (guard_Check N p2 bcc hd ne) (· = f) from ⟨f, hD, rfl⟩).bind fun f' h1' => ?_
  subst h1'
  refine Ok.ite (fun h1 => Ok.ite (fun h2 => Ok.pure fun _ => ?_) fun _ => Ok.pure fun h => by cases h) fun h1 => Ok.pure fun h => absurd h h1
  subst h0 h1 h2
  exact ⟨rfl, he.2 rfl, hC, hf.2 rfl, hD⟩
theorem together_0 (hC : guard_Check N p acc gd nd = some 0) (hD : guard_Check N p bcc hd ne = some 0) : both_together N p acc gd nd p bcc hd ne = some 0 := by
  unfold both_together
  rw [hC, hD, Option.bind_some, Option.bind_some, if_pos rfl, if_pos rfl, if_pos rfl]

/-! ### the law's own questions -/
theorem accepts_ok (hN : 5000 ≤ N) (V : Valid p acc gd nd) (hC : guard_Check N p acc gd nd = some 0) {t : List Nat} (h : ∀ l ∈ t, l < two p) (ht : t.length ≤ 1024) : law20_accepts N p acc gd nd (t.map fun l : Nat => (l : Int)) = some (acc.getD (runT nd gd 0 t) false) := by
  have hlt := runT_lt V t 0 (by have := V.a1; omega)
  unfold law20_accepts
  rw [Run_ok hN V hC h ht, Option.bind_some]
  dsimp only
  rw [if_pos rfl, if_pos (by omega), if_pos (by omega)]
  unfold ask
  rw [if_pos (by unfold idx; omega), Int.toNat_natCast]
end
end Go.V
