/- Plain theory: a list is added to a store. No program. -/
import Derived.Test.YtihindpnnbllkaaCS
import Derived.Test.YtihindpnnbllkaaBR
set_option linter.all false
set_option linter.unusedVariables false
set_option maxRecDepth 100000
namespace Go.V
open Go
section
variable {n B : Int} {nd : List Nd} {at_ : List (Nd × Int)}
structure AddedB (n B : Int) (nd : List Nd) (k : Int) (f0 : (Int → Bool) → Int) (most : Nat) (r : Int × List Nd × List (Nd × Int)) : Prop where
  si : SI n B r.2.1 r.2.2
  app : ∃ ys, r.2.1 = nd ++ ys
  few : r.2.1.length ≤ nd.length + most
  rf : Rf B r.2.1 r.2.1.length k r.1
  ev : ∀ f, E r.2.1 f r.1 = f0 f
theorem addB_ok {N : Nat} (hN : 5000 ≤ N) (hn : 0 ≤ n ∧ n ≤ 8) (hB : B ≤ 256) : ∀ (m d : Nat) (nd : List Nd) (at_ : List (Nd × Int)) (wh : List Int) (p : Int), d < m → p = n - d → 0 ≤ p → SI n B nd at_ → nd.length + 2 ^ d ≤ 10000 → wh.length = 2 ^ d → (∀ j, j < wh.length → 0 ≤ wh.getD j 0 ∧ wh.getD j 0 < B) →
    Ok (guard_Store_add N m n nd at_ wh p) fun r => AddedB n B nd (p - 1) (fun f => wh.getD (ixf f p d) 0) (2 ^ d - 1) r
  | 0, d, nd, at_, wh, p, h, _, _, _, _, _, _ => by omega
  | m + 1, 0, nd, at_, wh, p, hm, hp, hp0, I, hs, hl, hv => by
    have hl1 : wh.length = 1 := by simpa using hl
    have h0 := hv 0 (by omega)
    unfold guard_Store_add
    have e0 : (Int.toNat (0 : Int)) = 0 := rfl
    rw [if_pos (by omega), e0]
    refine Ok.ask (by unfold idx; omega) (Ok.ask (by unfold in64; omega) (Ok.pure ⟨I, ⟨[], by simp⟩, by show nd.length ≤ _; omega, .inl ⟨by show -B ≤ -1 - wh.getD 0 0; omega, by show -1 - wh.getD 0 0 < 0; omega⟩, fun f => ?_⟩))
    show E nd f (-1 - wh.getD 0 0) = wh.getD 0 0
    rw [E_neg (by omega)]
    omega
  | m + 1, d + 1, nd, at_, wh, p, hm, hp, hp0, I, hs, hl, hv => by
    have hpow : 2 ^ (d + 1) = 2 * 2 ^ d := by rw [Nat.pow_succ, Nat.mul_comm]
    have hd5 : 2 ^ d ≤ 128 := by
      have : d ≤ 7 := by omega
      match d, this with
      | 0, _ => decide
      | 1, _ => decide
      | 2, _ => decide
      | 3, _ => decide
      | 4, _ => decide
      | 5, _ => decide
      | 6, _ => decide
      | 7, _ => decide
    have hd1 : 1 ≤ 2 ^ d := Nat.one_le_two_pow
    have hlen : wh.length = 2 * 2 ^ d := by rw [hl, hpow]
    have hix0 : ∀ f b, ixf (setb f p b) p (d + 1) = (if b = true then 1 else 0) + 2 * ixf f (p + 1) d := fun f b => by
      show (if setb f p b p = true then 1 else 0) + 2 * ixf (setb f p b) (p + 1) d = _
      rw [ixf_agree (setb f p b) f d (p + 1) fun P hP => if_neg (by omega)]
      unfold setb
      simp
    unfold guard_Store_add
    rw [if_neg (by omega)]
    have hw2 : IntKind.i64.wrap (Int.tdiv (((List.length wh) : Nat) : Int) 2) = ((2 ^ d : Nat) : Int) := by
      rw [hlen]
      have : Int.tdiv (((2 * 2 ^ d : Nat)) : Int) 2 = ((2 ^ d : Nat) : Int) := by
        rw [Int.tdiv_eq_ediv_of_nonneg (by omega)]; omega
      rw [this]
      exact wrap_i64 (by omega) (by omega)
    rw [hw2]
    refine Ok.ask (by omega) ?_
    refine (split_ok (N := N) (wh := wh) (by omega) N [] [] 0 (by omega) (by omega) (by omega) rfl rfl fun j hj => by omega).bind fun x ⟨x1, x2, x3⟩ => ?_
    have hdiv : wh.length / 2 = 2 ^ d := by omega
    rw [hdiv] at x1 x2 x3
    refine Ok.ask (by unfold in64; omega) ?_
    refine (addB_ok hN hn hB m d nd at_ x.1 (p + 1) (by omega) (by omega) (by omega) I (by omega) x1 (fun j hj => ?_)).bind fun r A => ?_
    · rw [(x3 j (by omega)).1]; exact hv _ (by omega)
    have fewA := A.few
    refine (addB_ok hN hn hB m d r.2.1 r.2.2 x.2 (p + 1) (by omega) (by omega) (by omega) A.si (by omega) x2 (fun j hj => ?_)).bind fun r2 Bd => ?_
    · rw [(x3 j (by omega)).2]; exact hv _ (by omega)
    have fewB := Bd.few
    obtain ⟨ys, hys⟩ := A.app
    obtain ⟨zs, hzs⟩ := Bd.app
    have rfA : Rf B r2.2.1 r2.2.1.length (p + 1 - 1) r.1 := by
      rw [hzs]
      exact (A.rf.app (Int.le_refl _)).mono (by simp; omega) (Int.le_refl _)
    have evA : ∀ f, E r2.2.1 f r.1 = x.1.getD (ixf f (p + 1) d) 0 := fun f => by
      rw [← A.ev f, hzs]
      exact evf_app A.si.ok zs f 9 _ _ A.rf
    have hix : ∀ f, wh.getD (ixf f p (d + 1)) 0 = if f p = true then x.2.getD (ixf f (p + 1) d) 0 else x.1.getD (ixf f (p + 1) d) 0 := fun f => by
      have hlt := ixf_lt f d (p + 1)
      have hu : ixf f p (d + 1) = (if f p = true then 1 else 0) + 2 * ixf f (p + 1) d := rfl
      rw [hu]
      by_cases c : f p = true
      · rw [if_pos c, if_pos c, (x3 _ hlt).2]
        congr 1; omega
      · rw [if_neg c, if_neg c, (x3 _ hlt).1]
        congr 1; omega
    have happ : ∃ ws, r2.2.1 = nd ++ ws := ⟨ys ++ zs, by rw [hzs, hys, List.append_assoc]⟩
    refine Ok.ite (fun he => Ok.pure ⟨Bd.si, happ, by show r2.2.1.length ≤ _; omega, rfA.mono (Int.le_refl _) (by omega), fun f => ?_⟩) fun he => ?_
    · show E r2.2.1 f r.1 = wh.getD (ixf f p (d + 1)) 0
      rw [hix f]
      split
      · rw [← Bd.ev f, ← he]
      · exact evA f
    have rfl1 : ∀ ref : Int, Rf B r2.2.1 r2.2.1.length (p + 1 - 1) ref → Rf B r2.2.1 r2.2.1.length p ref := fun ref h => h.mono (Int.le_refl _) (by omega)
    have in_ : ∀ ref : Int, Rf B r2.2.1 r2.2.1.length (p + 1 - 1) ref → -256 ≤ ref ∧ ref ≤ 20000 := fun ref h => by
      rcases h with h | h <;> omega
    have i1 := in_ _ rfA
    have i2 := in_ _ Bd.rf
    refine Ok.ask ⟨show in64 p by unfold in64; omega, show in64 r.1 by unfold in64; omega, show in64 r2.1 by unfold in64; omega⟩ ?_
    refine Ok.ite (fun hg => ?_) fun hg => ?_
    · obtain ⟨v, hgv⟩ : ∃ v, mget r2.2.2 (⟨p, r.1, r2.1⟩ : Nd) = some v := by
        cases h : mget r2.2.2 (⟨p, r.1, r2.1⟩ : Nd) with
        | some v => exact ⟨v, rfl⟩
        | none => rw [h] at hg; cases hg
      obtain ⟨i, hi, e1, e2⟩ := Bd.si.at2 _ _ hgv
      rw [hgv]
      refine Ok.pure ⟨Bd.si, happ, by show r2.2.1.length ≤ _; omega, .inr ⟨by show (0 : Int) ≤ v; omega, by show v < _; show v < ((r2.2.1.length : Nat) : Int); omega, ?_⟩, fun f => ?_⟩
      · show p - 1 < (r2.2.1.getD v.toNat default).P
        rw [e1, Int.toNat_natCast, e2]
        show p - 1 < p
        omega
      · show E r2.2.1 f v = wh.getD (ixf f p (d + 1)) 0
        rw [e1, E_node Bd.si.ok hn.2 f hi, e2, hix f]
        show (if f p = true then E r2.2.1 f r2.1 else E r2.2.1 f r.1) = _
        rw [Bd.ev f, evA f]
    · have hgn : mget r2.2.2 (⟨p, r.1, r2.1⟩ : Nd) = none := by
        cases h : mget r2.2.2 (⟨p, r.1, r2.1⟩ : Nd) with
        | none => rfl
        | some v => rw [h] at hg; exact absurd rfl hg
      refine Ok.ask hgn (Ok.ask (by simp; omega) ?_)
      have J := Bd.si.snoc (x := (⟨p, r.1, r2.1⟩ : Nd)) ⟨hp0, by show p < n; omega⟩ he (rfl1 _ rfA) (rfl1 _ Bd.rf) hgn
      have new : (r2.2.1 ++ [(⟨p, r.1, r2.1⟩ : Nd)]).getD r2.2.1.length default = (⟨p, r.1, r2.1⟩ : Nd) := by rw [getD_snoc, if_pos rfl]
      have ev : ∀ f, E (r2.2.1 ++ [(⟨p, r.1, r2.1⟩ : Nd)]) f ((r2.2.1.length : Nat) : Int) = wh.getD (ixf f p (d + 1)) 0 := fun f => by
        rw [E_node J.ok hn.2 f (i := r2.2.1.length) (by simp), new, hix f]
        show (if f p = true then E (r2.2.1 ++ [(⟨p, r.1, r2.1⟩ : Nd)]) f r2.1 else E (r2.2.1 ++ [(⟨p, r.1, r2.1⟩ : Nd)]) f r.1) = _
        rw [← Bd.ev f, ← evA f]
        have x1 : E (r2.2.1 ++ [(⟨p, r.1, r2.1⟩ : Nd)]) f r2.1 = E r2.2.1 f r2.1 := evf_app Bd.si.ok _ f 9 _ _ Bd.rf
        have x2 : E (r2.2.1 ++ [(⟨p, r.1, r2.1⟩ : Nd)]) f r.1 = E r2.2.1 f r.1 := evf_app Bd.si.ok _ f 9 _ _ rfA
        rw [x1, x2]
      refine Ok.pure ⟨J, ?_, ?_, .inr ⟨by show (0 : Int) ≤ ((r2.2.1.length : Nat) : Int); omega, ?_, ?_⟩, ev⟩
      · obtain ⟨ws, hws⟩ := happ
        exact ⟨ws ++ [(⟨p, r.1, r2.1⟩ : Nd)], by show r2.2.1 ++ _ = _; rw [hws, List.append_assoc]⟩
      · show (r2.2.1 ++ [(⟨p, r.1, r2.1⟩ : Nd)]).length ≤ _
        rw [List.length_append, List.length_singleton]
        omega
      · show ((r2.2.1.length : Nat) : Int) < (((r2.2.1 ++ [(⟨p, r.1, r2.1⟩ : Nd)]).length : Nat) : Int)
        rw [List.length_append, List.length_singleton]
        omega
      · show p - 1 < ((r2.2.1 ++ [(⟨p, r.1, r2.1⟩ : Nd)]).getD (((r2.2.1.length : Nat) : Int)).toNat default).P
        rw [Int.toNat_natCast, new]
        show p - 1 < p
        omega
theorem AddB_ok {N : Nat} {l : List Int} (hN : 5000 ≤ N) (hn : 0 ≤ n ∧ n ≤ 8) (hB : B ≤ 256) (I : SI n B nd at_) (ha : nd.length + two n ≤ 4096) (hl : l.length = two n) (hv : ∀ j, j < l.length → 0 ≤ l.getD j 0 ∧ l.getD j 0 < B) :
    Ok (guard_Store_Add N n nd at_ l) fun r => r.2.1 = 0 ∧ AddedB n B nd (-1) (fun f => l.getD (ixf f 0 n.toNat) 0) (two n - 1) (r.1, r.2.2.1, r.2.2.2) := by
  have sh := shl_two (p := n) ⟨hn.1, by omega⟩
  unfold guard_Store_Add guard_Store_none
  simp only [Option.bind_some, Bool.false_eq_true, if_false]
  refine Ok.ask hn.1 ?_
  have h0 := Add_l0_of (N := N) (nd := nd) (at_ := at_) (l := l) (by omega) (fun j hj => by have := hv j hj; omega) N 0 (by omega) (by omega)
  have e0 : guard_Store_Add_l0 N nd at_ l N 0 = some (.inl ()) := h0
  rw [sh.1, if_pos (by rw [hl]), e0]
  simp only [Option.bind_some, Sum.elim_inl]
  have tp : two n = 2 ^ n.toNat := rfl
  refine (addB_ok hN hn hB N n.toNat nd at_ l 0 (by omega) (by omega) (by omega) I (by omega) (by rw [hl, tp]) hv).bind fun r A => ?_
  have few := A.few
  rw [if_neg (by omega)]
  exact Ok.pure ⟨rfl, A.si, A.app, few, A.rf, A.ev⟩
end
end Go.V

/- Plain theory: two automata are put together. No program. -/
set_option linter.all false
set_option linter.unusedVariables false
set_option maxRecDepth 100000
namespace Go.V
open Go

/-! ### the one automaton of a language -/
structure CanA (N : Nat) (p : Int) (ra : List Bool) (rg : List Int) (s : List Nd) : Prop where
  V : Valid p ra rg s
  chk : guard_Check N p ra rg s = some 0
  can : Can ra.length (two p) (stp s rg)
  dis : Dis ra.length (two p) (stp s rg) fun i => ra.getD i false
  bl : ∃ at_, bld N p (rowsL ra.length (two p) (stp s rg)) [] [] [] = some (rg, s, at_)
section
variable {N : Nat} {p : Int} {acc bcc : List Bool} {gd hd : List Int} {nd ne : List Nd} {n k L : Nat} {r : MetR}
theorem MinOf.can_ {ra : List Bool} {rg : List Int} {s : List Nd} (M : MinOf N p acc gd nd ra rg s) : CanA N p ra rg s := ⟨M.V, M.chk, M.can, M.dis, M.bl⟩
theorem CanA.one {ra ra2 : List Bool} {rg rg2 : List Int} {s s2 : List Nd} (M : CanA N p ra rg s) (M2 : CanA N p ra2 rg2 s2) (h : ∀ t : List Nat, (∀ l ∈ t, l < two p) → ra.getD (runT s rg 0 t) false = ra2.getD (runT s2 rg2 0 t) false) : ra = ra2 ∧ rg = rg2 ∧ s = s2 := by
  have V := M.V
  have V2 := M2.V
  have a1 := V.a1
  have b1 := V2.a1
  obtain ⟨k1, k2⟩ := can_eq (by omega) (by omega) M.can M2.can M.dis M2.dis fun t ht => h t ht
  have e1 : ra = ra2 := ext_getD false k1 fun i hi => (k2 i hi).1 [] fun l hl => by cases hl
  obtain ⟨at1, b1⟩ := M.bl
  obtain ⟨at2, b2⟩ := M2.bl
  have e2 : rowsL ra.length (two p) (stp s rg) = rowsL ra2.length (two p) (stp s2 rg2) := by
    rw [← k1]
    exact rowsL_congr fun i l hi hl => (k2 i hi).2 l hl
  rw [e2, b2] at b1
  have := Option.some.inj b1
  exact ⟨e1, (congrArg Prod.fst this).symm, (congrArg (fun x => x.2.1) this).symm⟩

/-! ### what is accepted -/
def putA (says : Bool → Bool → Bool) (acc bcc : List Bool) (r : MetR) (i : Nat) : Bool := if 0 < i then sayAt says acc bcc r i else false
theorem put0_ok {says : Bool → Bool → Bool} (M : Met nd gd ne hd acc.length bcc.length L r) (hM : r.1.length ≤ 70000) : ∀ (m : Nat) (ac : List Bool) (x : Nat), x ≤ r.1.length → r.1.length - x < m → ac.length = r.1.length → (∀ i, i < x → ac.getD i false = putA says acc bcc r i) →
    Ok (both_put_l0 N acc bcc says r m ac (x : Int)) fun o => o.length = r.1.length ∧ ∀ i, i < r.1.length → o.getD i false = putA says acc bcc r i := by
  intro m
  induction m with
  | zero => intro ac x _ h; omega
  | succ m ih =>
    intro ac x k1 k2 k3 k4
    obtain ⟨at_, I⟩ := M.I
    unfold both_put_l0
    refine Ok.ite (fun hx => ?_) fun hx => Ok.pure ⟨k3, fun i hi => k4 i (by omega)⟩
    have hx' : x < r.1.length := by omega
    obtain ⟨a, b, ha, hb, e⟩ := I.ent x hx'
    rw [Int.toNat_natCast]
    have next : ∀ v : Bool, v = putA says acc bcc r x → Ok (both_put_l0 N acc bcc says r m (ac.set x v) ((x : Int) + 1)) fun o => o.length = r.1.length ∧ ∀ i, i < r.1.length → o.getD i false = putA says acc bcc r i := fun v hv => by
      rw [show ((x : Int) + 1) = ((x + 1 : Nat) : Int) by omega]
      refine ih _ (x + 1) (by omega) (by omega) (by rw [List.length_set]; exact k3) fun i hi => ?_
      rw [getD_set (by omega)]
      by_cases c : x = i
      · subst c; rw [if_pos rfl]; exact hv
      · rw [if_neg c]; exact k4 i (by omega)
    refine Ok.ask (by unfold idx; omega) (Ok.ite (fun h0 => ?_) fun h0 => ?_)
    · refine Ok.ask (by rw [e]; unfold idx; dsimp only; omega) (Ok.ask (by rw [e]; unfold idx; dsimp only; omega) (Ok.ask (by unfold idx; omega) (Ok.ask (by unfold in64; omega) (next _ ?_))))
      unfold putA
      rw [if_pos (by omega)]
      rfl
    · refine Ok.ask (by unfold idx; omega) (Ok.ask (by unfold in64; omega) (next _ ?_))
      unfold putA
      rw [if_neg (by omega)]
theorem Met.putA_run (M : Met nd gd ne hd acc.length bcc.length L r) (says : Bool → Bool → Bool) (t : List Nat) (ht : ∀ l ∈ t, l < L) : putA says acc bcc r (runR (mR r) 0 t) = if t = [] then false else says (acc.getD (runT nd gd 0 t) false) (bcc.getD (runT ne hd 0 t) false) := by
  unfold putA
  by_cases h : t = []
  · subst h
    rw [if_pos rfl]
    rfl
  · have := M.pos ht h
    rw [if_neg h, if_pos (by omega), M.say says t ht]

/-! ### numbers of classes -/
def idl (M : Nat) : List Int := (List.range M).map fun j => ((j : Nat) : Int)
theorem idl_get {M j : Nat} (h : j < M) : (idl M).getD j 0 = (j : Int) := by
  unfold idl
  rw [List.getD_eq_getElem?_getD, List.getElem?_map, List.getElem?_range h]
  rfl
theorem AlikeR.range {R : Nat → Nat → Nat} {A : Nat → Bool} {M : Nat} {c : List Int} (H : AlikeR R A M L c) {q : Nat} (hq : q < M) : 0 ≤ c.getD q 0 ∧ c.getD q 0 < M := by
  have h1 := H.first q hq
  have h2 := cmx_le (a := c) (q := q) fun p hp => H.first p (by omega)
  omega
theorem put1_ok {R : Nat → Nat → Nat} {A : Nat → Bool} {c : List Int} {z : Int} (H : AlikeR R A r.1.length L c) (hM : r.1.length ≤ 70000) : ∀ (m : Nat) (num fst : List Int) (x : Nat), x ≤ r.1.length → r.1.length - x < m → FI c (idl r.1.length) r.1.length num fst x →
    Ok (both_put_l1 N r (c, z) m num fst (x : Int)) fun o => FI c (idl r.1.length) r.1.length o.1 o.2 r.1.length := by
  intro m
  induction m with
  | zero => intro num fst x _ h; omega
  | succ m ih =>
    intro num fst x k1 k2 I
    have nl := I.nl
    have fx := I.fx
    have al := H.len
    unfold both_put_l1
    refine Ok.ite (fun hx => ?_) fun hx => Ok.pure ((show x = r.1.length by omega) ▸ I)
    have hx' : x < r.1.length := by omega
    have e := idl_get hx'
    have ra := H.range hx'
    have hcl : cl c (idl r.1.length) x = c.getD x 0 := by unfold cl; rw [e, Int.toNat_natCast]
    have hrange : ∀ k, k < fst.length → 0 ≤ cl c fst k ∧ cl c fst k < r.1.length := fun k hk => by
      obtain ⟨j, hj, e1, _⟩ := I.fs k hk
      unfold cl
      rw [e1, idl_get (by omega), Int.toNat_natCast]
      exact H.range (by omega)
    rw [Int.toNat_natCast]
    dsimp only
    refine Ok.ask (by unfold idx; omega) (Ok.ask (by unfold idx; omega) ?_)
    have ex : ((x : Int) + 1) = ((x + 1 : Nat) : Int) := by omega
    refine Ok.ite (fun h0 => ?_) fun h0 => ?_
    · refine Ok.ask (by simp; omega) (Ok.ask (by unfold in64; omega) ?_)
      have old : ∀ k, k < fst.length → (fst ++ [(x : Int)]).getD k 0 = fst.getD k 0 := fun k hk => by rw [getD_snoc, if_neg (by omega)]
      have oldc : ∀ k, k < fst.length → cl c (fst ++ [(x : Int)]) k = cl c fst k := fun k hk => by unfold cl; rw [old k hk]
      have newc : cl c (fst ++ [(x : Int)]) fst.length = c.getD x 0 := by
        unfold cl
        rw [getD_snoc, if_pos rfl, Int.toNat_natCast]
      have hlen : (fst ++ [(x : Int)]).length = fst.length + 1 := by rw [List.length_append, List.length_singleton]
      have hne : ∀ k, k < fst.length → (cl c fst k).toNat ≠ (c.getD x 0).toNat := fun k hk e => by
        have := I.num1 k hk
        rw [e, h0] at this
        omega
      rw [ex]
      refine ih _ _ (x + 1) (by omega) (by omega) ⟨by rw [List.length_set]; exact nl, by omega, fun k hk => ?_, fun j hj => ?_, fun k hk => ?_, fun v hv => ?_⟩
      · by_cases d : k = fst.length
        · subst d
          refine ⟨x, by omega, by rw [getD_snoc, if_pos rfl, e], fun j' hj' => ?_⟩
          obtain ⟨k', g1, g2⟩ := I.all j' hj'
          exact ⟨k', g1, by rw [oldc k' g1]; exact g2⟩
        · obtain ⟨j, g1, g2, g3⟩ := I.fs k (by omega)
          refine ⟨j, by omega, by rw [old k (by omega)]; exact g2, fun j' hj' => ?_⟩
          obtain ⟨k', g4, g5⟩ := g3 j' hj'
          exact ⟨k', g4, by rw [oldc k' (by omega)]; exact g5⟩
      · by_cases d : j = x
        · subst d
          exact ⟨fst.length, by omega, by rw [newc, hcl]⟩
        · obtain ⟨k, g1, g2⟩ := I.all j (by omega)
          exact ⟨k, by omega, by rw [oldc k g1]; exact g2⟩
      · rw [getD_set (by omega)]
        by_cases d : k = fst.length
        · subst d
          rw [newc, if_pos rfl, hlen]
          omega
        · rw [oldc k (by omega), if_neg (fun e => hne k (by omega) e.symm)]
          exact I.num1 k (by omega)
      · rw [getD_set (by omega)]
        by_cases d : (c.getD x 0).toNat = v
        · exact .inr ⟨fst.length, by omega, by rw [newc]; exact d⟩
        · rw [if_neg d]
          rcases I.num0 v hv with g | ⟨k, g1, g2⟩
          · exact .inl g
          · exact .inr ⟨k, by omega, by rw [oldc k g1]; exact g2⟩
    · refine Ok.ask (by unfold in64; omega) ?_
      rw [ex]
      refine ih _ _ (x + 1) (by omega) (by omega) ⟨nl, by omega, fun k hk => ?_, fun j hj => ?_, I.num1, I.num0⟩
      · obtain ⟨j, g1, g2⟩ := I.fs k hk
        exact ⟨j, by omega, g2⟩
      · by_cases d : j = x
        · subst d
          rcases I.num0 (c.getD j 0).toNat (by omega) with g | ⟨k, g1, g2⟩
          · exact absurd g h0
          · have := hrange k g1
            exact ⟨k, g1, by rw [hcl]; omega⟩
        · exact I.all j (by omega)
/-- a row, told in numbers of classes -/
theorem put9_ok {c num fst : List Int} {z : Int} {M : Nat} (hL : L ≤ 256) (hM : M ≤ 70000) (hc : c.length = M) (hr : ∀ q, q < M → 0 ≤ c.getD q 0 ∧ c.getD q 0 < M) (hnl : num.length = M) (hb : ∀ v, 0 ≤ num.getD v 0 ∧ num.getD v 0 ≤ 70000) (f : Nat → Nat) (hf : ∀ l, l < L → f l < M) {tb : List Int} (tl : tb.length = L) : ∀ (m : Nat) (s : List Int) (x : Nat), x ≤ L → L - x < m → s.length = L → (∀ l, l < L → s.getD l 0 = if l < x then nm c num (f l) else (f l : Int)) →
    Ok (both_put_l9 N (c, z) (num, fst) tb m s (x : Int)) fun o => o.length = L ∧ ∀ l, l < L → o.getD l 0 = nm c num (f l) := by
  intro m
  induction m with
  | zero => intro s x _ h; omega
  | succ m ih =>
    intro s x k1 k2 k3 k4
    unfold both_put_l9
    rw [tl]
    refine Ok.ite (fun hx => ?_) fun hx => Ok.pure ⟨k3, fun l hl => by rw [k4 l hl, if_pos (by omega)]⟩
    have hx' : x < L := by omega
    have hfx := hf x hx'
    have hrx := hr _ hfx
    have e := k4 x hx'
    rw [if_neg (by omega)] at e
    rw [Int.toNat_natCast, e]
    dsimp only
    rw [Int.toNat_natCast]
    have hbv := hb (c.getD (f x) 0).toNat
    refine Ok.ask (by unfold idx; omega) (Ok.ask (by unfold idx; omega) (Ok.ask (by unfold idx; omega) (Ok.ask (by unfold in64; omega) (Ok.ask (by unfold in64; omega) ?_))))
    rw [show ((x : Int) + 1) = ((x + 1 : Nat) : Int) by omega]
    refine ih _ (x + 1) (by omega) (by omega) (by rw [List.length_set]; exact k3) fun l hl => ?_
    rw [getD_set (by omega)]
    by_cases d : x = l
    · subst d
      rw [if_pos rfl, if_pos (by omega)]
      rfl
    · rw [if_neg d, k4 l hl]
      by_cases g : l < x
      · rw [if_pos g, if_pos (by omega)]
      · rw [if_neg g, if_neg (by omega)]

/-! ### rows are added -/
def RqP (r : MetR) (c num fst : List Int) (i l : Nat) : Nat := (nm c num (mR r (fst.getD i 0).toNat l)).toNat
structure LP (N : Nat) (p : Int) (ac : List Bool) (r : MetR) (c num fst : List Int) (s : List Nd) (at_ : List (Nd × Int)) (ra : List Bool) (rg : List Int) (x : Nat) : Prop where
  si : SI p fst.length s at_
  few : s.length ≤ x * two p
  al : ra.length = x
  gl : rg.length = x
  ac : ∀ i, i < x → ra.getD i false = ac.getD (fst.getD i 0).toNat false
  rf : ∀ i, i < x → Rf fst.length s s.length (-1) (rg.getD i 0)
  ev : ∀ i, i < x → ∀ f, E s f (rg.getD i 0) = (RqP r c num fst i (ixf f 0 p.toNat) : Int)
  bl : bld N p (rowsL fst.length (two p) (RqP r c num fst)) [] [] [] = bld N p ((rowsL fst.length (two p) (RqP r c num fst)).drop x) s at_ rg
theorem put8_ok (hN : 5000 ≤ N) (hp : 0 ≤ p ∧ p ≤ 8) (M : Met nd gd ne hd n k (two p) r) (hM : r.1.length ≤ 70000) {A : Nat → Bool} {ac : List Bool} {c num fst : List Int} {z : Int} (hac : ac.length = r.1.length) (H : AlikeR (mR r) A r.1.length (two p) c) (F : FI c (idl r.1.length) r.1.length num fst r.1.length) (hK : fst.length ≤ 256) (hK2 : fst.length * two p ≤ 4096)
    (hq : ∀ i l, i < fst.length → l < two p → 0 ≤ nm c num (mR r (fst.getD i 0).toNat l) ∧ nm c num (mR r (fst.getD i 0).toNat l) < fst.length) : ∀ (m : Nat) (s : List Nd) (at_ : List (Nd × Int)) (ra : List Bool) (rg : List Int) (x : Nat), x ≤ fst.length → fst.length - x < m → LP N p ac r c num fst s at_ ra rg x →
    Ok (both_put_l8 N p r ac (c, z) (num, fst) m s at_ ra rg (x : Int)) fun o => ∃ s at_ ra rg, o = .inl (s, at_, ra, rg) ∧ LP N p ac r c num fst s at_ ra rg fst.length := by
  intro m
  induction m with
  | zero => intro s at_ ra rg x _ h; omega
  | succ m ih =>
    intro s at_ ra rg x k1 k2 I
    have sh := shl_two hp
    have wl := M.wl
    have ial := I.al
    have igl := I.gl
    unfold both_put_l8
    refine Ok.ite (fun hx => ?_) fun hx => Ok.pure ⟨s, at_, ra, rg, rfl, (show x = fst.length by have hx : ¬ (x : Int) < ((fst.length : Nat) : Int) := hx; omega) ▸ I⟩
    have hx' : x < fst.length := by have hx : (x : Int) < ((fst.length : Nat) : Int) := hx; omega
    obtain ⟨j, hj, e1, _⟩ := F.fs x hx'
    have ea : fst.getD x 0 = (j : Int) := by rw [e1, idl_get hj]
    have hrow := M.row j hj
    rw [Int.toNat_natCast]
    dsimp only
    rw [ea, Int.toNat_natCast]
    refine Ok.ask (by unfold idx; omega) (Ok.ask (by unfold idx; omega) ?_)
    have hcl : slices_Clone_int_int N (r.2.1.getD j []) = some (r.2.1.getD j []) := by
      unfold slices_Clone_int_int slices_Clone_int_int_some ask
      rw [if_pos (by rw [hrow]; simp; omega), List.nil_append]
    rw [hcl, Option.bind_some]
    refine (put9_ok (N := N) (z := z) (fst := fst) (c := c) (num := num) sh.2.2 hM H.len (fun q hq => H.range hq) F.nl (fun v => by have := F.bound v; omega) (mR r j) (fun l hl => M.lt hj hl) hrow N _ 0 (by omega) (by omega) hrow fun l hl => by rw [if_neg (by omega)]; exact (M.R hj hl).1).bind fun w ⟨w1, w2⟩ => ?_
    have hqx := fun l (hl : l < two p) => hq x l hx' hl
    rw [ea] at hqx
    simp only [Int.toNat_natCast] at hqx
    have hRq : ∀ l, RqP r c num fst x l = (nm c num (mR r j l)).toNat := fun l => by unfold RqP; rw [ea, Int.toNat_natCast]
    have hw : w = rowL (two p) (RqP r c num fst x) := by
      refine ext_getD 0 (by rw [w1, rowL_len]) fun l hl => ?_
      have := hqx l (by omega)
      rw [w2 l (by omega), rowL_get (by omega), hRq]
      omega
    have hfew := I.few
    have hxk : (x + 1) * two p ≤ fst.length * two p := Nat.mul_le_mul_right _ (by omega)
    rw [Nat.add_mul, Nat.one_mul] at hxk
    refine (AddB_ok (B := (fst.length : Int)) hN hp (by omega) I.si (by omega) w1 (fun l hl => by have := hqx l (by omega); rw [w2 l (by omega)]; omega)).of_bld fun r2 hr ⟨r0, D⟩ => ?_
    rw [hr]
    simp only [Option.bind_some]
    obtain ⟨ys, hys⟩ := D.app
    have hys : r2.2.2.1 = s ++ ys := hys
    rw [if_pos r0]
    refine Ok.ask (by unfold idx; omega) (Ok.ask (by simp; omega) (Ok.ask (by simp; omega) (Ok.ask (by unfold in64; omega) ?_)))
    rw [show ((x : Int) + 1) = ((x + 1 : Nat) : Int) by omega]
    have hfewD := D.few
    have hfewD : r2.2.2.1.length ≤ s.length + (two p - 1) := hfewD
    refine ih _ _ _ _ (x + 1) (by omega) (by omega) ⟨D.si, by rw [Nat.add_mul, Nat.one_mul]; omega, by rw [List.length_append, List.length_singleton]; omega, by rw [List.length_append, List.length_singleton]; omega, fun i hi => ?_, fun i hi => ?_, fun i hi f => ?_, ?_⟩
    · rw [getD_snoc]
      by_cases d : i = x
      · subst d
        rw [if_pos ial.symm, ea, Int.toNat_natCast]
      · rw [if_neg (by omega)]
        exact I.ac i (by omega)
    · rw [getD_snoc]
      by_cases d : i = x
      · subst d
        rw [if_pos igl.symm]
        exact D.rf
      · rw [if_neg (by omega), hys]
        exact ((I.rf i (by omega)).app (Int.le_refl _)).mono (by rw [List.length_append]; omega) (Int.le_refl _)
    · rw [getD_snoc]
      by_cases d : i = x
      · subst d
        rw [if_pos igl.symm]
        have := D.ev f
        refine this.trans ?_
        show w.getD (ixf f 0 p.toNat) 0 = _
        rw [hw, rowL_get (L := two p) (ixf_lt f p.toNat 0)]
      · rw [if_neg (by omega), ← I.ev i (by omega) f, hys]
        exact evf_app I.si.ok ys f 9 _ _ (I.rf i (by omega))
    · rw [I.bl, rowsL_drop hx', ← hw]
      show Option.bind (guard_Store_Add N p s at_ w) _ = _
      rw [hr]
      rfl
/-- what is put together -/
structure PutOf (N : Nat) (p : Int) (A : Nat → Bool) (r : MetR) (ra : List Bool) (rg : List Int) (s : List Nd) : Prop where
  can : CanA N p ra rg s
  few : ra.length ≤ r.1.length
  lang : ∀ t : List Nat, (∀ l ∈ t, l < two p) → ra.getD (runT s rg 0 t) false = A (runR (mR r) 0 t)
theorem LP.put (hN : 5000 ≤ N) (hp : 0 ≤ p ∧ p ≤ 8) (M : Met nd gd ne hd n k (two p) r) {ac : List Bool} {c num fst : List Int} (hac : ac.length = r.1.length) (H : AlikeR (mR r) (fun i => ac.getD i false) r.1.length (two p) c) (F : FI c (idl r.1.length) r.1.length num fst r.1.length) (hK : fst.length ≤ 256) (hK2 : fst.length * two p ≤ 4096) {s : List Nd} {at_ : List (Nd × Int)} {ra : List Bool} {rg : List Int}
    (hq : ∀ i l, i < fst.length → l < two p → ∃ k, k < fst.length ∧ c.getD (mR r (fst.getD i 0).toNat l) 0 = cl c fst k) (I : LP N p ac r c num fst s at_ ra rg fst.length) : PutOf N p (fun i => ac.getD i false) r ra rg s := by
  have one := M.one
  have fx := F.fx
  have al := I.al
  have gl := I.gl
  have p0 := hp.1
  have p8 := hp.2
  have sh := shl_two hp
  have fpos : 0 < fst.length := by obtain ⟨k, hk, _⟩ := F.all 0 (by omega); omega
  have W : Valid p ra rg s := by
    refine ⟨p0, p8, by omega, by omega, by omega, ?_, fun i hi => ?_, fun i hi => ?_⟩
    · have := I.few; omega
    · obtain ⟨o1, o2, o3, o4⟩ := I.si.ok i hi
      rw [al]
      exact ⟨o1, o2, o3.good, o4.good⟩
    · rw [al]
      exact (I.rf i (by omega)).good
  have hst : ∀ k, k < fst.length → ∃ a : Nat, a < r.1.length ∧ fst.getD k 0 = (a : Int) := fun k hk => by
    obtain ⟨j, hj, e, _⟩ := F.fs k hk
    exact ⟨j, hj, by rw [e, idl_get hj]⟩
  have hstp : ∀ i l, i < fst.length → l < two p → stp s rg i l = RqP r c num fst i l := fun i l hi hl => by
    have hl2 : l < 2 ^ p.toNat := hl
    have hp9 : p.toNat < 9 := by omega
    have hb : ixf (bitf (l : Int)) 0 p.toNat = l := ixf_bit ⟨p.toNat, hp9⟩ ⟨l, by omega⟩ hl2
    unfold stp
    rw [go_E, I.ev i hi, hb]
    omega
  have hnm : ∀ k, k < fst.length → ∀ q, c.getD q 0 = cl c fst k → nm c num q = (k : Int) := fun k hk q e => by
    unfold nm
    rw [e, F.num1 k hk]
    omega
  have hRq : ∀ i l, i < fst.length → l < two p → ∃ k, k < fst.length ∧ RqP r c num fst i l = k ∧ c.getD (mR r (fst.getD i 0).toNat l) 0 = cl c fst k := fun i l hi hl => by
    obtain ⟨k, hk, e⟩ := hq i l hi hl
    refine ⟨k, hk, ?_, e⟩
    unfold RqP
    rw [hnm k hk _ e]
    omega
  have inj : ∀ i j, i < fst.length → j < fst.length → cl c fst i = cl c fst j → i = j := fun i j hi hj e => by
    have h1 := F.num1 i hi
    have h2 := F.num1 j hj
    rw [e, h2] at h1
    omega
  have lang : ∀ (t : List Nat) (q k : Nat), (∀ l ∈ t, l < two p) → q < r.1.length → k < fst.length → c.getD q 0 = cl c fst k → ac.getD (runR (mR r) q t) false = ra.getD (runT s rg k t) false := fun t => by
    induction t with
    | nil =>
      intro q k _ hq1 hk e
      obtain ⟨a, ha, ea⟩ := hst k hk
      show ac.getD q false = ra.getD k false
      rw [I.ac k hk, ea, Int.toNat_natCast]
      refine H.accs q a hq1 ha ?_
      rw [e]; unfold cl; rw [ea, Int.toNat_natCast]
    | cons l t ih =>
      intro q k ht hq1 hk e
      have hl := ht l List.mem_cons_self
      obtain ⟨a, ha, ea⟩ := hst k hk
      obtain ⟨k2, h1, h2, h3⟩ := hRq k l hk hl
      show ac.getD (runR (mR r) (mR r q l) t) false = ra.getD (runT s rg (stp s rg k l) t) false
      rw [hstp k l hk hl, h2]
      refine ih _ k2 (fun x hx => ht x (List.mem_cons_of_mem _ hx)) (M.lt hq1 hl) h1 ?_
      rw [← h3, ea, Int.toNat_natCast]
      refine H.closed q a hq1 ha ?_ l hl
      rw [e]; unfold cl; rw [ea, Int.toNat_natCast]
  refine ⟨⟨W, check_of hN W I.si.ne I.si.dis, ?_, ?_, ⟨at_, ?_⟩⟩, by omega, ?_⟩
  · -- the order
    have jx : ∀ k, ∃ j, k < fst.length → j < r.1.length ∧ fst.getD k 0 = (idl r.1.length).getD j 0 ∧ ∀ j', j' < j → ∃ k', k' < k ∧ cl c (idl r.1.length) j' = cl c fst k' := fun k => by
      by_cases h : k < fst.length
      · obtain ⟨j, hj⟩ := F.fs k h; exact ⟨j, fun _ => hj⟩
      · exact ⟨0, fun g => absurd g h⟩
    have js := fun k (hk : k < fst.length) => Classical.choose_spec (jx k) hk
    have clid : ∀ x, x < r.1.length → cl c (idl r.1.length) x = c.getD x 0 := fun x hx => by unfold cl; rw [idl_get hx, Int.toNat_natCast]
    have hh : ∀ x k, k < fst.length → c.getD x 0 = cl c fst k → (nm c num x).toNat = k := fun x k hk e => by
      have := hnm k hk x e
      omega
    rw [al]
    have C := M.can.quot (K := fst.length) (h := fun x => (nm c num x).toNat) (j := fun k => Classical.choose (jx k)) (fun k hk => ⟨(js k hk).1, hh _ k hk ?_, fun x hx => ?_⟩) (fun x hx => ?_) (fun x y l hx hy hl e => ?_)
    · refine C.congr fun i l hi hl => ?_
      rw [hstp i l hi hl]
      show (nm c num (mR r (fst.getD i 0).toNat l)).toNat = (nm c num (mR r (Classical.choose (jx i)) l)).toNat
      have e : (fst.getD i 0).toNat = Classical.choose (jx i) := (congrArg Int.toNat ((js i hi).2.1.trans (idl_get (js i hi).1))).trans (Int.toNat_natCast _)
      rw [e]
    · have e : (fst.getD k 0).toNat = Classical.choose (jx k) := (congrArg Int.toNat ((js k hk).2.1.trans (idl_get (js k hk).1))).trans (Int.toNat_natCast _)
      show c.getD (Classical.choose (jx k)) 0 = c.getD (fst.getD k 0).toNat 0
      rw [e]
    · obtain ⟨k', g1, g2⟩ := (js k hk).2.2 x hx
      rw [clid x (Nat.lt_trans hx (js k hk).1)] at g2
      show (nm c num x).toNat < k
      rw [hh x k' (by omega) g2]
      exact g1
    · obtain ⟨k, g1, g2⟩ := F.all x hx
      rw [clid x hx] at g2
      show (nm c num x).toNat < _
      rw [hh x k g1 g2]
      exact g1
    · obtain ⟨k, g1, g2⟩ := F.all x hx
      obtain ⟨k', g3, g4⟩ := F.all y hy
      rw [clid x hx] at g2
      rw [clid y hy] at g4
      have e : (nm c num x).toNat = (nm c num y).toNat := e
      rw [hh x k g1 g2, hh y k' g3 g4] at e
      subst e
      show (nm c num (mR r x l)).toNat = (nm c num (mR r y l)).toNat
      unfold nm
      rw [H.closed x y hx hy (by rw [g2, g4]) l hl]
  · -- none are alike
    intro i j hi hj h
    rw [al] at hi hj
    obtain ⟨a, ha, ea⟩ := hst i hi
    obtain ⟨b, hb, eb⟩ := hst j hj
    have ca : c.getD a 0 = cl c fst i := by unfold cl; rw [ea, Int.toNat_natCast]
    have cb : c.getD b 0 = cl c fst j := by unfold cl; rw [eb, Int.toNat_natCast]
    refine inj i j hi hj (Classical.byContradiction fun hne => ?_)
    obtain ⟨t, t1, t2⟩ := H.dist a b ha hb (by rw [ca, cb]; exact hne)
    refine t2 ?_
    show ac.getD _ false = ac.getD _ false
    rw [lang t a i t1 ha hi ca, lang t b j t1 hb hj cb]
    exact h t t1
  · have e : rowsL ra.length (two p) (stp s rg) = rowsL fst.length (two p) (RqP r c num fst) := by
      rw [al]
      exact rowsL_congr hstp
    rw [e, I.bl, List.drop_eq_nil_of_le (by unfold rowsL; simp)]
    rfl
  · intro t ht
    refine (lang t 0 0 ht one fpos ?_).symm
    obtain ⟨j, hj, e, g⟩ := F.fs 0 fpos
    have hj0 : j = 0 := Classical.byContradiction fun h => by
      obtain ⟨k', hk', _⟩ := g 0 (by omega)
      omega
    subst hj0
    unfold cl
    rw [e, idl_get one]
    rfl
/-- of two automata that go together, with so many pairs at most -/
theorem put_ok {says : Bool → Bool → Bool} (hN : 100000 ≤ N) (V : Valid p acc gd nd) (W : Valid p bcc hd ne) (hC : guard_Check N p acc gd nd = some 0) (hD : guard_Check N p bcc hd ne = some 0) {Mb : Nat} (hMb : ∀ r : MetR, Met nd gd ne hd acc.length bcc.length (two p) r → r.1.length ≤ Mb) (h256 : Mb ≤ 256) (h4 : Mb * two p ≤ 4096) :
    Ok (both_put N p acc gd nd p bcc hd ne says) fun o => o.2 = 0 ∧ o.1.1 = p ∧ CanA N p o.1.2.1 o.1.2.2.1 o.1.2.2.2 ∧ o.1.2.1.length ≤ Mb ∧ ∀ t : List Nat, (∀ l ∈ t, l < two p) → o.1.2.1.getD (runT o.1.2.2.2 o.1.2.2.1 0 t) false = if t = [] then false else says (acc.getD (runT nd gd 0 t) false) (bcc.getD (runT ne hd 0 t) false) := by
  have sh := shl_two ⟨V.p0, V.p8⟩
  have p0 := V.p0
  have p8 := V.p8
  unfold both_put
  rw [together_0 hC hD, Option.bind_some, if_pos rfl]
  refine (met_ok (by omega) V W).bind fun r M => ?_
  have hMl := hMb r M
  have one := M.one
  refine Ok.ask (by omega) ?_
  refine (put0_ok (N := N) (says := says) M (by omega) N _ 0 (by omega) (by omega) (by simp) fun i hi => by omega).bind fun ac ⟨ac1, ac2⟩ => ?_
  have h0 : ac.getD 0 false = false := by rw [ac2 0 (by omega)]; rfl
  refine (refined_ok (N := N) (by omega) M sh.2.2 (by omega) ac1 h0).bind fun cz H => ?_
  obtain ⟨c, z⟩ := cz
  dsimp only at H
  refine (put1_ok (N := N) (z := z) H (by omega) N _ _ 0 (by omega) (by omega) ⟨by simp, by simp, fun k hk => by simp at hk, fun j hj => by omega, fun k hk => by simp at hk, fun v hv => .inl (by rw [getD_rep])⟩).bind fun nf F => ?_
  obtain ⟨num, fst⟩ := nf
  dsimp only at F
  have fx := F.fx
  have hfm : fst.length * two p ≤ 4096 := Nat.le_trans (Nat.mul_le_mul_right _ (show fst.length ≤ Mb by omega)) h4
  have hst : ∀ k, k < fst.length → ∃ j, j < r.1.length ∧ fst.getD k 0 = (j : Int) := fun k hk => by
    obtain ⟨j, hj, e, _⟩ := F.fs k hk
    exact ⟨j, hj, by rw [e, idl_get hj]⟩
  have hq : ∀ i l, i < fst.length → l < two p → ∃ k, k < fst.length ∧ c.getD (mR r (fst.getD i 0).toNat l) 0 = cl c fst k := fun i l hi hl => by
    obtain ⟨j, hj, e⟩ := hst i hi
    have hlt := M.lt hj hl
    obtain ⟨k, hk, e2⟩ := F.all _ hlt
    refine ⟨k, hk, ?_⟩
    rw [← e2]
    unfold cl
    rw [idl_get hlt, e, Int.toNat_natCast, Int.toNat_natCast]
  rw [if_neg (by dsimp only; omega)]
  have hN1 : guard_New N p = some (Sum.inr 0) := by
    unfold guard_New
    rw [if_neg (by omega), if_neg (by omega)]
  rw [hN1]
  simp only [Option.bind_some, Sum.elim_inr]
  have start : LP N p ac r c num fst [] [] [] [] 0 := by
    refine ⟨⟨fun i hi => by simp at hi, fun i hi => by simp at hi, fun i j hi => by simp at hi, fun i hi => by simp at hi, fun x v h => by cases h⟩, by simp, rfl, rfl, fun i hi => by omega, fun i hi => by omega, fun i hi => by omega, by rw [List.drop_zero]⟩
  refine (put8_ok (by omega) ⟨p0, p8⟩ M (by omega) ac1 H F (by omega) hfm (fun i l hi hl => ?_) N [] [] [] [] 0 (by omega) (by omega) start).bind fun o ⟨s, at_, ra, rg, e, I⟩ => ?_
  · obtain ⟨k, hk, e⟩ := hq i l hi hl
    have : nm c num (mR r (fst.getD i 0).toNat l) = (k : Int) := by
      unfold nm
      rw [e, F.num1 k hk]
      omega
    omega
  subst e
  have P := I.put (by omega) ⟨p0, p8⟩ M ac1 H F (by omega) hfm hq
  have hfew := I.few
  simp only [Sum.elim_inl]
  have hNodes : guard_Store_Nodes N p s at_ = some s := by
    unfold guard_Store_Nodes guard_Store_none
    simp only [Option.bind_some, Bool.false_eq_true, if_false]
    unfold ask
    rw [if_pos (by rw [List.length_nil]; omega)]
    rfl
  rw [hNodes]
  refine Ok.pure ⟨rfl, rfl, P.can, Nat.le_trans P.few hMl, fun t ht => ?_⟩
  have h1 := P.lang t ht
  have h2 := M.putA_run says t ht
  show ra.getD (runT s rg 0 t) false = _
  rw [h1, ac2 _ (M.run0 t ht).1, h2]
/-- one automaton beside itself: few pairs -/
theorem Met.diag (M : Met nd gd nd gd n n L r) : r.1.length ≤ n + 1 := by
  obtain ⟨at_, I⟩ := M.I
  have hd : ∀ i, i < r.1.length → ∃ a : Nat, a < n ∧ r.1.getD i (0, 0) = ((a : Int), (a : Int)) := fun i hi => by
    obtain ⟨t, t1, t2, _⟩ := M.reach i hi
    have h1 := (M.run0 t t1).2
    rw [t2] at h1
    obtain ⟨a, b, ha, hb, e⟩ := I.ent i hi
    rw [e] at h1
    have g1 : (a : Int) = runT nd gd 0 t := congrArg Prod.fst h1
    have g2 : (b : Int) = runT nd gd 0 t := congrArg Prod.snd h1
    exact ⟨a, ha, by rw [e]; congr 1; omega⟩
  refine Classical.byContradiction fun h => ?_
  obtain ⟨i, j, h1, h2, h3⟩ := pigeon (fun i => (r.1.getD (i + 1) (0, 0)).1.toNat) n fun i hi => by
    obtain ⟨a, ha, e⟩ := hd (i + 1) (by omega)
    show (r.1.getD (i + 1) (0, 0)).1.toNat < _
    rw [e, Int.toNat_natCast]
    exact ha
  obtain ⟨a, ha, e⟩ := hd (i + 1) (by omega)
  obtain ⟨b, hb, e'⟩ := hd (j + 1) (by omega)
  have h3 : (r.1.getD (i + 1) (0, 0)).1.toNat = (r.1.getD (j + 1) (0, 0)).1.toNat := h3
  rw [e, e', Int.toNat_natCast, Int.toNat_natCast] at h3
  have := I.inj (i := i + 1) (j := j + 1) (by omega) (by omega) (by omega) (by omega) (by rw [e, e', h3])
  omega
theorem not_p : ∀ x y : Bool, both_Not_1_p x y = !x := by intro x y; cases x <;> cases y <;> rfl
theorem and_p : ∀ x y : Bool, both_And_1_p x y = (x && y) := by intro x y; cases x <;> cases y <;> rfl
theorem or_p : ∀ x y : Bool, both_Or_1_p x y = (x || y) := by intro x y; cases x <;> cases y <;> rfl
end
end Go.V
