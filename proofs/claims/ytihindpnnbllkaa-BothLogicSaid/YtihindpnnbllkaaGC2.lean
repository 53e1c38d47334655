/- Plain theory: a list is added to a store; no more nodes than where it comes from. No program. -/
import Derived.Test.YtihindpnnbllkaaGC
import Derived.Test.YtihindpnnbllkaaLS
set_option linter.all false
set_option linter.unusedVariables false
set_option maxRecDepth 100000
namespace Go.V
open Go

def setb (f : Int → Bool) (p : Int) (b : Bool) : Int → Bool := fun P => if P = p then b else f P
/-- each node decides what some node over there decides, renamed -/
def SrcOf (nd na : List Nd) (φ : Int → Int) : Prop := ∀ i : Nat, i < nd.length → ∃ j : Nat, j < na.length ∧ ∀ f, E nd f (i : Int) = φ (E na f (j : Int))
section
variable {n B Ba : Int} {nd na : List Nd} {at_ : List (Nd × Int)} {φ : Int → Int}
theorem half (hA : SN n Ba na) (hn : n ≤ 8) {p r0 : Int} (hp : 0 ≤ p) (hr : Rf Ba na na.length (p - 1) r0) : ∃ rl rh, Rf Ba na na.length p rl ∧ Rf Ba na na.length p rh ∧ (∀ f, E na (setb f p false) r0 = E na f rl) ∧ (∀ f, E na (setb f p true) r0 = E na f rh) ∧ ((∃ i : Nat, i < na.length ∧ r0 = (i : Int)) ∨ rl = rh) := by
  have set_ : ∀ (f : Int → Bool) (b : Bool) r, Rf Ba na na.length p r → E na (setb f p b) r = E na f r := fun f b r hr => evf_agree hA _ _ 9 p r hr fun P h1 _ => if_neg (by omega)
  by_cases c : Rf Ba na na.length p r0
  · exact ⟨r0, r0, c, c, fun f => set_ f false _ c, fun f => set_ f true _ c, .inr rfl⟩
  · rcases hr with h | ⟨a, b, d⟩
    · exact absurd (.inl h) c
    · have e : (na.getD r0.toNat default).P = p := Classical.byContradiction fun h => c (.inr ⟨a, b, by omega⟩)
      have hi : r0.toNat < na.length := by omega
      obtain ⟨o1, o2, o3, o4⟩ := hA r0.toNat hi
      have g1 : Rf Ba na na.length p (na.getD r0.toNat default).Lo := o3.mono (by omega) (by omega)
      have g2 : Rf Ba na na.length p (na.getD r0.toNat default).Hi := o4.mono (by omega) (by omega)
      have er : r0 = ((r0.toNat : Nat) : Int) := by omega
      refine ⟨_, _, g1, g2, fun f => ?_, fun f => ?_, .inl ⟨r0.toNat, hi, er⟩⟩
      · have := E_node hA hn (setb f p false) hi
        rw [← er, e] at this
        rw [this, if_neg (by unfold setb; simp), set_ f false _ g1]
      · have := E_node hA hn (setb f p true) hi
        rw [← er, e] at this
        rw [this, if_pos (by unfold setb; simp), set_ f true _ g2]
theorem SrcOf.le (I : SI n B nd at_) (hn : n ≤ 8) (hn0 : 0 ≤ n) (S : SrcOf nd na φ) : nd.length ≤ na.length := by
  refine Classical.byContradiction fun h => ?_
  have hc : ∀ i : Nat, ∃ j : Nat, i < nd.length → j < na.length ∧ ∀ f, E nd f (i : Int) = φ (E na f (j : Int)) := fun i => by
    by_cases c : i < nd.length
    · obtain ⟨j, hj⟩ := S i c; exact ⟨j, fun _ => hj⟩
    · exact ⟨0, fun h => absurd h c⟩
  obtain ⟨i, j, h1, h2, h3⟩ := pigeon (fun i => Classical.choose (hc i)) na.length fun i hi => (Classical.choose_spec (hc i) (by omega)).1
  have e1 := (Classical.choose_spec (hc i) (by omega)).2
  have e2 := (Classical.choose_spec (hc j) (by omega)).2
  have h3 : Classical.choose (hc i) = Classical.choose (hc j) := h3
  rw [h3] at e1
  have r : ∀ k : Nat, k < nd.length → Rf B nd nd.length (-1) (k : Int) := fun k hk => .inr ⟨by omega, by omega, by have := (I.ok k hk).1; rw [Int.toNat_natCast]; omega⟩
  have := canon I hn n.toNat (-1) (i : Int) (j : Int) (by omega) (by omega) (r i (by omega)) (r j (by omega)) fun f => by rw [e1 f, e2 f]
  omega
structure Added (n B : Int) (nd na : List Nd) (φ : Int → Int) (k : Int) (f0 : (Int → Bool) → Int) (most : Nat) (r : Int × List Nd × List (Nd × Int)) : Prop where
  si : SI n B r.2.1 r.2.2
  app : ∃ ys, r.2.1 = nd ++ ys
  few : r.2.1.length ≤ nd.length + most
  rf : Rf B r.2.1 r.2.1.length k r.1
  ev : ∀ f, E r.2.1 f r.1 = f0 f
  src : SrcOf r.2.1 na φ
theorem SI.snoc (I : SI n B nd at_) {x : Nd} (hP : 0 ≤ x.P ∧ x.P < n) (hne : x.Lo ≠ x.Hi) (h1 : Rf B nd nd.length x.P x.Lo) (h2 : Rf B nd nd.length x.P x.Hi) (hm : mget at_ x = none) : SI n B (nd ++ [x]) (at_ ++ [(x, (nd.length : Int))]) := by
  have new : (nd ++ [x]).getD nd.length default = x := by rw [getD_snoc, if_pos rfl]
  have old : ∀ i, i < nd.length → (nd ++ [x]).getD i default = nd.getD i default := fun i hi => getD_app hi
  have nin : ∀ i, i < nd.length → nd.getD i default ≠ x := fun i hi e => by
    have := I.at1 i hi
    rw [e, hm] at this
    cases this
  refine ⟨fun i hi => ?_, fun i hi => ?_, fun i j hi hj e => ?_, fun i hi => ?_, fun y v h => ?_⟩
  · have hi' : i < nd.length + 1 := by simpa using hi
    by_cases c : i = nd.length
    · subst c
      rw [new]
      exact ⟨hP.1, hP.2, h1.app (Int.le_refl _), h2.app (Int.le_refl _)⟩
    · rw [old i (by omega)]
      obtain ⟨a, b, e, f⟩ := I.ok i (by omega)
      exact ⟨a, b, e.app (by omega), f.app (by omega)⟩
  · have hi' : i < nd.length + 1 := by simpa using hi
    by_cases c : i = nd.length
    · subst c
      rw [new]; exact hne
    · rw [old i (by omega)]
      exact I.ne i (by omega)
  · have hi' : i < nd.length + 1 := by simpa using hi
    have hj' : j < nd.length + 1 := by simpa using hj
    by_cases c : i = nd.length <;> by_cases d : j = nd.length
    · omega
    · rw [c, new, old j (by omega)] at e
      exact absurd e.symm (nin j (by omega))
    · rw [d, new, old i (by omega)] at e
      exact absurd e (nin i (by omega))
    · rw [old i (by omega), old j (by omega)] at e
      exact I.dis i j (by omega) (by omega) e
  · have hi' : i < nd.length + 1 := by simpa using hi
    by_cases c : i = nd.length
    · subst c
      rw [new, mget_app_none hm, if_pos rfl]
    · rw [old i (by omega)]
      exact mget_app_some (I.at1 i (by omega))
  · rw [mget_app] at h
    cases h2 : mget at_ y with
    | some u =>
      rw [h2] at h
      have := Option.some.inj h
      subst this
      obtain ⟨i, hi, e1, e2⟩ := I.at2 y _ h2
      exact ⟨i, by simp; omega, e1, by rw [old i hi]; exact e2⟩
    | none =>
      rw [h2] at h
      by_cases c : x = y
      · simp only [if_pos c] at h
        have := Option.some.inj h
        exact ⟨nd.length, by simp, this.symm, by rw [new]; exact c⟩
      · simp only [if_neg c] at h
        cases h
theorem add_ok {N : Nat} (hN : 5000 ≤ N) (hn : 0 ≤ n ∧ n ≤ 8) (hB : B ≤ 256) (hA : SN n Ba na) : ∀ (m d : Nat) (nd : List Nd) (at_ : List (Nd × Int)) (wh : List Int) (p r0 : Int), d < m → p = n - d → 0 ≤ p → SI n B nd at_ → nd.length + 2 ^ d ≤ 10000 → wh.length = 2 ^ d → (∀ j, j < wh.length → 0 ≤ wh.getD j 0 ∧ wh.getD j 0 < B) → SrcOf nd na φ → Rf Ba na na.length (p - 1) r0 → (∀ f, wh.getD (ixf f p d) 0 = φ (E na f r0)) →
    Ok (guard_Store_add N m n nd at_ wh p) fun r => Added n B nd na φ (p - 1) (fun f => wh.getD (ixf f p d) 0) (2 ^ d - 1) r
  | 0, d, nd, at_, wh, p, r0, h, _, _, _, _, _, _, _, _, _ => by omega
  | m + 1, 0, nd, at_, wh, p, r0, hm, hp, hp0, I, hs, hl, hv, hS, hr, hw => by
    have hl1 : wh.length = 1 := by simpa using hl
    have h0 := hv 0 (by omega)
    unfold guard_Store_add
    have e0 : (Int.toNat (0 : Int)) = 0 := rfl
    rw [if_pos (by omega), e0]
    refine Ok.ask (by unfold idx; omega) (Ok.ask (by unfold in64; omega) (Ok.pure ⟨I, ⟨[], by simp⟩, by show nd.length ≤ _; omega, .inl ⟨by show -B ≤ -1 - wh.getD 0 0; omega, by show -1 - wh.getD 0 0 < 0; omega⟩, fun f => ?_, hS⟩))
    show E nd f (-1 - wh.getD 0 0) = wh.getD 0 0
    rw [E_neg (by omega)]
    omega
  | m + 1, d + 1, nd, at_, wh, p, r0, hm, hp, hp0, I, hs, hl, hv, hS, hr, hw => by
    have hpow : 2 ^ (d + 1) = 2 * 2 ^ d := by rw [Nat.pow_succ, Nat.mul_comm]
    have hd5 : 2 ^ d ≤ 128 := by
      have : d ≤ 7 := by omega
      match d, this with
      | 0, _ => decide
      | 1, _ => decide
      | 2, _ => decide
      | 3, _ => decide
      | 4, _ => decide
      | 5, _ => decide
      | 6, _ => decide
      | 7, _ => decide
    have hd1 : 1 ≤ 2 ^ d := Nat.one_le_two_pow
    have hlen : wh.length = 2 * 2 ^ d := by rw [hl, hpow]
    obtain ⟨rl, rh, hrl, hrh, el, eh, hrr⟩ := half hA hn.2 hp0 hr
    have hix0 : ∀ f b, ixf (setb f p b) p (d + 1) = (if b = true then 1 else 0) + 2 * ixf f (p + 1) d := fun f b => by
      show (if setb f p b p = true then 1 else 0) + 2 * ixf (setb f p b) (p + 1) d = _
      rw [ixf_agree (setb f p b) f d (p + 1) fun P hP => if_neg (by omega)]
      unfold setb
      simp
    unfold guard_Store_add
    rw [if_neg (by omega)]
    have hw2 : IntKind.i64.wrap (Int.tdiv (((List.length wh) : Nat) : Int) 2) = ((2 ^ d : Nat) : Int) := by
      rw [hlen]
      have : Int.tdiv (((2 * 2 ^ d : Nat)) : Int) 2 = ((2 ^ d : Nat) : Int) := by
        rw [Int.tdiv_eq_ediv_of_nonneg (by omega)]; omega
      rw [this]
      exact wrap_i64 (by omega) (by omega)
    rw [hw2]
    refine Ok.ask (by omega) ?_
    refine (split_ok (N := N) (wh := wh) (by omega) N [] [] 0 (by omega) (by omega) (by omega) rfl rfl fun j hj => by omega).bind fun x ⟨x1, x2, x3⟩ => ?_
    have hdiv : wh.length / 2 = 2 ^ d := by omega
    rw [hdiv] at x1 x2 x3
    refine Ok.ask (by unfold in64; omega) ?_
    have w1 : ∀ f, x.1.getD (ixf f (p + 1) d) 0 = φ (E na f rl) := fun f => by
      have := hw (setb f p false)
      rw [hix0, el] at this
      rw [(x3 _ (ixf_lt f d (p + 1))).1, ← this]
      congr 1; simp
    have w2 : ∀ f, x.2.getD (ixf f (p + 1) d) 0 = φ (E na f rh) := fun f => by
      have := hw (setb f p true)
      rw [hix0, eh] at this
      rw [(x3 _ (ixf_lt f d (p + 1))).2, ← this]
      congr 1; simp; omega
    refine (add_ok hN hn hB hA m d nd at_ x.1 (p + 1) rl (by omega) (by omega) (by omega) I (by omega) x1 (fun j hj => ?_) hS (by rw [show p + 1 - 1 = p by omega]; exact hrl) w1).bind fun r A => ?_
    · rw [(x3 j (by omega)).1]; exact hv _ (by omega)
    have fewA := A.few
    refine (add_ok hN hn hB hA m d r.2.1 r.2.2 x.2 (p + 1) rh (by omega) (by omega) (by omega) A.si (by omega) x2 (fun j hj => ?_) A.src (by rw [show p + 1 - 1 = p by omega]; exact hrh) w2).bind fun r2 Bd => ?_
    · rw [(x3 j (by omega)).2]; exact hv _ (by omega)
    have fewB := Bd.few
    obtain ⟨ys, hys⟩ := A.app
    obtain ⟨zs, hzs⟩ := Bd.app
    have rfA : Rf B r2.2.1 r2.2.1.length (p + 1 - 1) r.1 := by
      rw [hzs]
      exact (A.rf.app (Int.le_refl _)).mono (by simp; omega) (Int.le_refl _)
    have evA : ∀ f, E r2.2.1 f r.1 = x.1.getD (ixf f (p + 1) d) 0 := fun f => by
      rw [← A.ev f, hzs]
      exact evf_app A.si.ok zs f 9 _ _ A.rf
    have hix : ∀ f, wh.getD (ixf f p (d + 1)) 0 = if f p = true then x.2.getD (ixf f (p + 1) d) 0 else x.1.getD (ixf f (p + 1) d) 0 := fun f => by
      have hlt := ixf_lt f d (p + 1)
      have hu : ixf f p (d + 1) = (if f p = true then 1 else 0) + 2 * ixf f (p + 1) d := rfl
      rw [hu]
      by_cases c : f p = true
      · rw [if_pos c, if_pos c, (x3 _ hlt).2]
        congr 1; omega
      · rw [if_neg c, if_neg c, (x3 _ hlt).1]
        congr 1; omega
    have happ : ∃ ws, r2.2.1 = nd ++ ws := ⟨ys ++ zs, by rw [hzs, hys, List.append_assoc]⟩
    refine Ok.ite (fun he => Ok.pure ⟨Bd.si, happ, by show r2.2.1.length ≤ _; omega, rfA.mono (Int.le_refl _) (by omega), fun f => ?_, Bd.src⟩) fun he => ?_
    · show E r2.2.1 f r.1 = wh.getD (ixf f p (d + 1)) 0
      rw [hix f]
      split
      · rw [← Bd.ev f, ← he]
      · exact evA f
    have rfl1 : ∀ ref : Int, Rf B r2.2.1 r2.2.1.length (p + 1 - 1) ref → Rf B r2.2.1 r2.2.1.length p ref := fun ref h => h.mono (Int.le_refl _) (by omega)
    have in_ : ∀ ref : Int, Rf B r2.2.1 r2.2.1.length (p + 1 - 1) ref → -256 ≤ ref ∧ ref ≤ 20000 := fun ref h => by
      rcases h with h | h <;> omega
    have i1 := in_ _ rfA
    have i2 := in_ _ Bd.rf
    refine Ok.ask ⟨show in64 p by unfold in64; omega, show in64 r.1 by unfold in64; omega, show in64 r2.1 by unfold in64; omega⟩ ?_
    refine Ok.ite (fun hg => ?_) fun hg => ?_
    · obtain ⟨v, hgv⟩ : ∃ v, mget r2.2.2 (⟨p, r.1, r2.1⟩ : Nd) = some v := by
        cases h : mget r2.2.2 (⟨p, r.1, r2.1⟩ : Nd) with
        | some v => exact ⟨v, rfl⟩
        | none => rw [h] at hg; cases hg
      obtain ⟨i, hi, e1, e2⟩ := Bd.si.at2 _ _ hgv
      rw [hgv]
      refine Ok.pure ⟨Bd.si, happ, by show r2.2.1.length ≤ _; omega, .inr ⟨by show (0 : Int) ≤ v; omega, by show v < _; show v < ((r2.2.1.length : Nat) : Int); omega, ?_⟩, fun f => ?_, Bd.src⟩
      · show p - 1 < (r2.2.1.getD v.toNat default).P
        rw [e1, Int.toNat_natCast, e2]
        show p - 1 < p
        omega
      · show E r2.2.1 f v = wh.getD (ixf f p (d + 1)) 0
        rw [e1, E_node Bd.si.ok hn.2 f hi, e2, hix f]
        show (if f p = true then E r2.2.1 f r2.1 else E r2.2.1 f r.1) = _
        rw [Bd.ev f, evA f]
    · have hgn : mget r2.2.2 (⟨p, r.1, r2.1⟩ : Nd) = none := by
        cases h : mget r2.2.2 (⟨p, r.1, r2.1⟩ : Nd) with
        | none => rfl
        | some v => rw [h] at hg; exact absurd rfl hg
      refine Ok.ask hgn (Ok.ask (by simp; omega) ?_)
      have J := Bd.si.snoc (x := (⟨p, r.1, r2.1⟩ : Nd)) ⟨hp0, by show p < n; omega⟩ he (rfl1 _ rfA) (rfl1 _ Bd.rf) hgn
      have new : (r2.2.1 ++ [(⟨p, r.1, r2.1⟩ : Nd)]).getD r2.2.1.length default = (⟨p, r.1, r2.1⟩ : Nd) := by rw [getD_snoc, if_pos rfl]
      have ev : ∀ f, E (r2.2.1 ++ [(⟨p, r.1, r2.1⟩ : Nd)]) f ((r2.2.1.length : Nat) : Int) = wh.getD (ixf f p (d + 1)) 0 := fun f => by
        rw [E_node J.ok hn.2 f (i := r2.2.1.length) (by simp), new, hix f]
        show (if f p = true then E (r2.2.1 ++ [(⟨p, r.1, r2.1⟩ : Nd)]) f r2.1 else E (r2.2.1 ++ [(⟨p, r.1, r2.1⟩ : Nd)]) f r.1) = _
        rw [← Bd.ev f, ← evA f]
        have x1 : E (r2.2.1 ++ [(⟨p, r.1, r2.1⟩ : Nd)]) f r2.1 = E r2.2.1 f r2.1 := evf_app Bd.si.ok _ f 9 _ _ Bd.rf
        have x2 : E (r2.2.1 ++ [(⟨p, r.1, r2.1⟩ : Nd)]) f r.1 = E r2.2.1 f r.1 := evf_app Bd.si.ok _ f 9 _ _ rfA
        rw [x1, x2]
      refine Ok.pure ⟨J, ?_, ?_, .inr ⟨by show (0 : Int) ≤ ((r2.2.1.length : Nat) : Int); omega, ?_, ?_⟩, ev, fun i hi => ?_⟩
      · obtain ⟨ws, hws⟩ := happ
        exact ⟨ws ++ [(⟨p, r.1, r2.1⟩ : Nd)], by show r2.2.1 ++ _ = _; rw [hws, List.append_assoc]⟩
      · show (r2.2.1 ++ [(⟨p, r.1, r2.1⟩ : Nd)]).length ≤ _
        rw [List.length_append, List.length_singleton]
        omega
      · show ((r2.2.1.length : Nat) : Int) < (((r2.2.1 ++ [(⟨p, r.1, r2.1⟩ : Nd)]).length : Nat) : Int)
        rw [List.length_append, List.length_singleton]
        omega
      · show p - 1 < ((r2.2.1 ++ [(⟨p, r.1, r2.1⟩ : Nd)]).getD (((r2.2.1.length : Nat) : Int)).toNat default).P
        rw [Int.toNat_natCast, new]
        show p - 1 < p
        omega
      · have hi' : i < r2.2.1.length + 1 := by
          have hi2 : i < (r2.2.1 ++ [(⟨p, r.1, r2.1⟩ : Nd)]).length := hi
          rw [List.length_append, List.length_singleton] at hi2
          exact hi2
        show ∃ j : Nat, j < na.length ∧ ∀ f, E (r2.2.1 ++ [(⟨p, r.1, r2.1⟩ : Nd)]) f (i : Int) = φ (E na f (j : Int))
        by_cases c : i = r2.2.1.length
        · subst c
          rcases hrr with ⟨j, hj, e⟩ | e
          · exact ⟨j, hj, fun f => by rw [ev f, hw f, e]⟩
          · exfalso
            refine he (canon Bd.si hn.2 (n - 1 - p).toNat p _ _ (by omega) (by omega) (rfl1 _ rfA) (rfl1 _ Bd.rf) fun f => ?_)
            rw [evA f, Bd.ev f, w1 f, w2 f, e]
        · obtain ⟨j, hj, e⟩ := Bd.src i (by omega)
          refine ⟨j, hj, fun f => ?_⟩
          rw [← e f]
          refine evf_app Bd.si.ok _ f 9 (-1) _ (.inr ⟨by omega, by omega, ?_⟩)
          have := (Bd.si.ok i (by omega)).1
          rw [Int.toNat_natCast]
          omega
end
end Go.V
