/- Plain theory: the smallest automaton. No program. -/
import Derived.Test.YtihindpnnbllkaaCK
set_option linter.all false
set_option linter.unusedVariables false
set_option maxRecDepth 100000
namespace Go.V
open Go

theorem ixf_inj (f g : Int → Bool) : ∀ (d : Nat) (p : Int), ixf f p d = ixf g p d → ∀ P, p ≤ P → P < p + d → f P = g P
  | 0, p, _, P, h1, h2 => by omega
  | d + 1, p, h, P, h1, h2 => by
    unfold ixf at h
    by_cases c : P = p
    · subst c
      cases hf : f P <;> cases hg : g P <;> rw [hf, hg] at h <;> simp at h <;> first | rfl | omega
    · refine ixf_inj f g d (p + 1) ?_ P (by omega) (by omega)
      cases hf : f p <;> cases hg : g p <;> rw [hf, hg] at h <;> simp at h <;> omega
theorem Ok.of_bld {α : Type} {o : Option α} {P : α → Prop} {G : Prop} (h : Ok o P) (k : ∀ x, o = some x → P x → G) : G := by
  obtain ⟨x, e, hx⟩ := h
  exact k x e hx
/-- what a letter finds is what a reference decides -/
theorem go_E (nd : List Nd) (ref l : Int) : go nd ref l = E nd (bitf l) ref := goS_evf nd l 9 ref
section
variable {N : Nat} {p : Int} {acc : List Bool} {gd : List Int} {nd : List Nd}
theorem Valid.sn (V : Valid p acc gd nd) : SN p acc.length nd := fun i hi => by
  obtain ⟨a, b, c, d⟩ := V.ok i hi
  exact ⟨a, b, .of_good c, .of_good d⟩
/-- a class, by a place in a list -/
def cl (c out : List Int) (j : Nat) : Int := c.getD (out.getD j 0).toNat 0
structure FI (c out : List Int) (n : Nat) (num fst : List Int) (x : Nat) : Prop where
  nl : num.length = n
  fx : fst.length ≤ x
  fs : ∀ k, k < fst.length → ∃ j, j < x ∧ fst.getD k 0 = out.getD j 0 ∧ ∀ j', j' < j → ∃ k', k' < k ∧ cl c out j' = cl c fst k'
  all : ∀ j, j < x → ∃ k, k < fst.length ∧ cl c out j = cl c fst k
  num1 : ∀ k, k < fst.length → num.getD (cl c fst k).toNat 0 = (k : Int) + 1
  num0 : ∀ v, v < n → num.getD v 0 = 0 ∨ ∃ k, k < fst.length ∧ (cl c fst k).toNat = v
theorem FI.bound {c out num fst : List Int} {n x : Nat} (I : FI c out n num fst x) (v : Nat) : 0 ≤ num.getD v 0 ∧ num.getD v 0 ≤ fst.length := by
  by_cases hv : v < n
  · rcases I.num0 v hv with e | ⟨k, hk, e⟩
    · omega
    · have := I.num1 k hk
      rw [e] at this
      omega
  · have nl := I.nl
    rw [getD_oob (by omega)]
    omega
theorem Alike.range {c : List Int} {L : Nat} (A : Alike nd gd acc L c) {q : Nat} (hq : q < acc.length) : 0 ≤ c.getD q 0 ∧ c.getD q 0 < acc.length := by
  have h1 := A.first q hq
  have h2 := cmx_le (a := c) (q := q) fun p hp => A.first p (by omega)
  omega
theorem least_l0_ok {c out : List Int} {R : Nat → Nat → Nat} {L : Nat} (a2 : acc.length ≤ 256) (A : Alike nd gd acc L c) (B : Rch nd gd acc.length L out R) : ∀ (m : Nat) (num fst : List Int) (x : Nat), x ≤ out.length → out.length - x < m → FI c out acc.length num fst x →
    Ok (canon_least_l0 N (out, 0) (c, 0) m num fst (x : Int)) fun r => FI c out acc.length r.1 r.2 out.length
  | 0, num, fst, x, _, h, _ => by omega
  | m + 1, num, fst, x, k1, k2, I => by
    have few := B.few
    have nl := I.nl
    have fx := I.fx
    have al := A.len
    unfold canon_least_l0
    refine Ok.ite (fun hx => ?_) fun hx => Ok.pure ((show x = out.length by have hx : ¬ (x : Int) < ((out.length : Nat) : Int) := hx; omega) ▸ I)
    have hx' : x < out.length := by have hx : (x : Int) < ((out.length : Nat) : Int) := hx; omega
    obtain ⟨a, ha, e⟩ := B.st x hx'
    rw [Int.toNat_natCast]
    dsimp only
    rw [e, Int.toNat_natCast]
    have ra := A.range ha
    have hcl : cl c out x = c.getD a 0 := by unfold cl; rw [e, Int.toNat_natCast]
    have hrange : ∀ k, k < fst.length → 0 ≤ cl c fst k ∧ cl c fst k < acc.length := fun k hk => by
      obtain ⟨j, hj, e1, _⟩ := I.fs k hk
      obtain ⟨q, hq, e2⟩ := B.st j (by omega)
      unfold cl
      rw [e1, e2, Int.toNat_natCast]
      exact A.range hq
    refine Ok.ask (by unfold idx; omega) (Ok.ask (by unfold idx; omega) (Ok.ask (by unfold idx; omega) ?_))
    have ex : ((x : Int) + 1) = ((x + 1 : Nat) : Int) := by omega
    refine Ok.ite (fun h0 => ?_) fun h0 => ?_
    · refine Ok.ask (by simp; omega) (Ok.ask (by unfold in64; omega) ?_)
      have old : ∀ k, k < fst.length → (fst ++ [(a : Int)]).getD k 0 = fst.getD k 0 := fun k hk => by rw [getD_snoc, if_neg (by omega)]
      have oldc : ∀ k, k < fst.length → cl c (fst ++ [(a : Int)]) k = cl c fst k := fun k hk => by unfold cl; rw [old k hk]
      have newc : cl c (fst ++ [(a : Int)]) fst.length = c.getD a 0 := by
        unfold cl
        rw [getD_snoc, if_pos rfl, Int.toNat_natCast]
      have hlen : (fst ++ [(a : Int)]).length = fst.length + 1 := by rw [List.length_append, List.length_singleton]
      have hne : ∀ k, k < fst.length → (cl c fst k).toNat ≠ (c.getD a 0).toNat := fun k hk e => by
        have := I.num1 k hk
        rw [e, h0] at this
        omega
      rw [ex]
      refine least_l0_ok a2 A B m _ _ (x + 1) (by omega) (by omega) ⟨by rw [List.length_set]; exact nl, by omega, fun k hk => ?_, fun j hj => ?_, fun k hk => ?_, fun v hv => ?_⟩
      · by_cases d : k = fst.length
        · subst d
          refine ⟨x, by omega, by rw [getD_snoc, if_pos rfl, e], fun j' hj' => ?_⟩
          obtain ⟨k', g1, g2⟩ := I.all j' hj'
          exact ⟨k', g1, by rw [oldc k' g1]; exact g2⟩
        · obtain ⟨j, g1, g2, g3⟩ := I.fs k (by omega)
          refine ⟨j, by omega, by rw [old k (by omega)]; exact g2, fun j' hj' => ?_⟩
          obtain ⟨k', g4, g5⟩ := g3 j' hj'
          exact ⟨k', g4, by rw [oldc k' (by omega)]; exact g5⟩
      · by_cases d : j = x
        · subst d
          exact ⟨fst.length, by omega, by rw [newc, hcl]⟩
        · obtain ⟨k, g1, g2⟩ := I.all j (by omega)
          exact ⟨k, by omega, by rw [oldc k g1]; exact g2⟩
      · rw [getD_set (by omega)]
        by_cases d : k = fst.length
        · subst d
          rw [newc, if_pos rfl, hlen]
          omega
        · rw [oldc k (by omega), if_neg (fun e => hne k (by omega) e.symm)]
          exact I.num1 k (by omega)
      · rw [getD_set (by omega)]
        by_cases d : (c.getD a 0).toNat = v
        · exact .inr ⟨fst.length, by omega, by rw [newc]; exact d⟩
        · rw [if_neg d]
          rcases I.num0 v hv with g | ⟨k, g1, g2⟩
          · exact .inl g
          · exact .inr ⟨k, by omega, by rw [oldc k g1]; exact g2⟩
    · refine Ok.ask (by unfold in64; omega) ?_
      rw [ex]
      refine least_l0_ok a2 A B m _ _ (x + 1) (by omega) (by omega) ⟨nl, by omega, fun k hk => ?_, fun j hj => ?_, I.num1, I.num0⟩
      · obtain ⟨j, g1, g2⟩ := I.fs k hk
        exact ⟨j, by omega, g2⟩
      · by_cases d : j = x
        · subst d
          rcases I.num0 (c.getD a 0).toNat (by omega) with g | ⟨k, g1, g2⟩
          · exact absurd g h0
          · have := hrange k g1
            exact ⟨k, g1, by rw [hcl]; omega⟩
        · exact I.all j (by omega)
/-- a state's number -/
def nm (c num : List Int) (q : Nat) : Int := num.getD (c.getD q 0).toNat 0 - 1
theorem least_l8_ok {c num fst tb : List Int} {L n : Nat} (hL : L ≤ 256) (hn : n ≤ 256) (hc : c.length = n) (hr : ∀ q, q < n → 0 ≤ c.getD q 0 ∧ c.getD q 0 < n) (hnl : num.length = n) (hb : ∀ v, 0 ≤ num.getD v 0 ∧ num.getD v 0 ≤ 256) (f : Nat → Nat) (hf : ∀ l, l < L → f l < n) (tl : tb.length = L) : ∀ (m : Nat) (s : List Int) (x : Nat), x ≤ L → L - x < m → s.length = L → (∀ l, l < L → s.getD l 0 = if l < x then nm c num (f l) else (f l : Int)) →
    Ok (canon_least_l8 N (c, 0) (num, fst) (tb, 0) m s (x : Int)) fun r => r.length = L ∧ ∀ l, l < L → r.getD l 0 = nm c num (f l)
  | 0, s, x, _, h, _, _ => by omega
  | m + 1, s, x, k1, k2, k3, k4 => by
    unfold canon_least_l8
    dsimp only
    rw [tl]
    refine Ok.ite (fun hx => ?_) fun hx => Ok.pure ⟨k3, fun l hl => by rw [k4 l hl, if_pos (by omega)]⟩
    have hx' : x < L := by omega
    have e := k4 x hx'
    rw [if_neg (by omega)] at e
    have h1 := hf x hx'
    have h2 := hr _ h1
    have h3 := hb (c.getD (f x) 0).toNat
    rw [Int.toNat_natCast, e, Int.toNat_natCast]
    refine Ok.ask (by unfold idx; omega) (Ok.ask (by unfold idx; omega) (Ok.ask (by unfold idx; omega) (Ok.ask (by unfold in64; omega) (Ok.ask (by unfold in64; omega) ?_))))
    rw [show ((x : Int) + 1) = ((x + 1 : Nat) : Int) by omega]
    refine least_l8_ok hL hn hc hr hnl hb f hf tl m _ (x + 1) (by omega) (by omega) (by rw [List.length_set]; exact k3) fun l hl => ?_
    rw [getD_set (by omega)]
    by_cases d : x = l
    · subst d
      rw [if_pos rfl, if_pos (by omega)]
      rfl
    · rw [if_neg d, k4 l hl]
      by_cases g : l < x
      · rw [if_pos g, if_pos (by omega)]
      · rw [if_neg g, if_neg (by omega)]

/-! ### rows are added -/
def bld (N : Nat) (p : Int) : List (List Int) → List Nd → List (Nd × Int) → List Int → Option (List Int × List Nd × List (Nd × Int))
  | [], nd, at_, gs => some (gs, nd, at_)
  | w :: ws, nd, at_, gs => Option.bind (guard_Store_Add N p nd at_ w) fun r => bld N p ws r.2.2.1 r.2.2.2 (gs ++ [r.1])
def rowL (L : Nat) (f : Nat → Nat) : List Int := (List.range L).map fun l => ((f l : Nat) : Int)
def rowsL (K L : Nat) (R : Nat → Nat → Nat) : List (List Int) := (List.range K).map fun i => rowL L (R i)
theorem rowL_len {L : Nat} {f : Nat → Nat} : (rowL L f).length = L := by unfold rowL; simp
theorem rowL_get {L l : Nat} {f : Nat → Nat} (h : l < L) : (rowL L f).getD l 0 = (f l : Int) := by
  unfold rowL
  rw [List.getD_eq_getElem?_getD, List.getElem?_map, List.getElem?_range h]
  rfl
theorem rowL_congr {L : Nat} {f g : Nat → Nat} (h : ∀ l, l < L → f l = g l) : rowL L f = rowL L g := by
  unfold rowL
  refine List.map_congr_left fun l hl => ?_
  rw [h l (List.mem_range.1 hl)]
theorem rowsL_congr {K L : Nat} {R R' : Nat → Nat → Nat} (h : ∀ i l, i < K → l < L → R i l = R' i l) : rowsL K L R = rowsL K L R' := by
  unfold rowsL
  refine List.map_congr_left fun i hi => rowL_congr fun l hl => h i l (List.mem_range.1 hi) hl
theorem rowsL_drop {K L i : Nat} {R : Nat → Nat → Nat} (h : i < K) : (rowsL K L R).drop i = rowL L (R i) :: (rowsL K L R).drop (i + 1) := by
  have hl : (rowsL K L R).length = K := by unfold rowsL; simp
  rw [List.drop_eq_getElem_cons (by omega)]
  congr 1
  unfold rowsL
  simp
theorem Add_l0_of {N : Nat} {nd : List Nd} {at_ : List (Nd × Int)} {l : List Int} (hl : l.length ≤ 1000) (hv : ∀ j, j < l.length → 0 ≤ l.getD j 0 ∧ l.getD j 0 < 256) : ∀ (m : Nat) (x : Nat), x ≤ l.length → l.length - x < m → guard_Store_Add_l0 N nd at_ l m (x : Int) = some (.inl ())
  | 0, x, _, h => by omega
  | m + 1, x, k1, k2 => by
    unfold guard_Store_Add_l0
    by_cases hx : (x : Int) < (l.length : Int)
    · have ih := Add_l0_of (nd := nd) (at_ := at_) (N := N) hl hv m (x + 1) (by omega) (by omega)
      have := hv x (by omega)
      rw [if_pos hx, Int.toNat_natCast]
      unfold ask
      rw [if_pos (by unfold idx; omega), if_neg (by omega), if_neg (by omega), if_pos (by unfold in64; omega), show ((x : Int) + 1) = ((x + 1 : Nat) : Int) by omega, ih]
    · rw [if_neg hx]
theorem Add_ok {n B Ba : Int} {na nd : List Nd} {at_ : List (Nd × Int)} {φ : Int → Int} {l : List Int} {r0 : Int} (hN : 5000 ≤ N) (hn : 0 ≤ n ∧ n ≤ 8) (hB : B ≤ 256) (hA : SN n Ba na) (ha : na.length ≤ 4096) (I : SI n B nd at_) (hl : l.length = two n) (hv : ∀ j, j < l.length → 0 ≤ l.getD j 0 ∧ l.getD j 0 < B) (hS : SrcOf nd na φ) (hr : Rf Ba na na.length (-1) r0) (hw : ∀ f, l.getD (ixf f 0 n.toNat) 0 = φ (E na f r0)) :
    Ok (guard_Store_Add N n nd at_ l) fun r => r.2.1 = 0 ∧ Added n B nd na φ (-1) (fun f => l.getD (ixf f 0 n.toNat) 0) 255 (r.1, r.2.2.1, r.2.2.2) := by
  have sh := shl_two (p := n) ⟨hn.1, by omega⟩
  have hs := hS.le I hn.2 hn.1
  unfold guard_Store_Add guard_Store_none
  simp only [Option.bind_some, Bool.false_eq_true, if_false]
  refine Ok.ask hn.1 ?_
  have h0 := Add_l0_of (N := N) (nd := nd) (at_ := at_) (l := l) (by omega) (fun j hj => by have := hv j hj; omega) N 0 (by omega) (by omega)
  have e0 : guard_Store_Add_l0 N nd at_ l N 0 = some (.inl ()) := h0
  rw [sh.1, if_pos (by rw [hl]), e0]
  simp only [Option.bind_some, Sum.elim_inl]
  have tp : two n = 2 ^ n.toNat := rfl
  refine (add_ok hN hn hB hA N n.toNat nd at_ l 0 r0 (by omega) (by omega) (by omega) I (by omega) (by rw [hl, tp]) hv hS hr hw).bind fun r A => ?_
  have few := A.few
  have few2 := A.src.le A.si hn.2 hn.1
  rw [if_neg (by omega)]
  exact Ok.pure ⟨rfl, A.si, A.app, by show r.2.1.length ≤ _; omega, A.rf, A.ev, A.src⟩

/-- where state i of the smallest automaton leads -/
def Rq (nd : List Nd) (gd c num fst : List Int) (i l : Nat) : Nat := (nm c num (stp nd gd (fst.getD i 0).toNat l)).toNat
structure LI (N : Nat) (p : Int) (acc : List Bool) (gd : List Int) (nd : List Nd) (c num fst : List Int) (s : List Nd) (at_ : List (Nd × Int)) (ra : List Bool) (rg : List Int) (x : Nat) : Prop where
  si : SI p fst.length s at_
  src : SrcOf s nd fun v => nm c num v.toNat
  al : ra.length = x
  gl : rg.length = x
  ac : ∀ i, i < x → ra.getD i false = acc.getD (fst.getD i 0).toNat false
  rf : ∀ i, i < x → Rf fst.length s s.length (-1) (rg.getD i 0)
  ev : ∀ i, i < x → ∀ f, E s f (rg.getD i 0) = (Rq nd gd c num fst i (ixf f 0 p.toNat) : Int)
  bl : bld N p (rowsL fst.length (two p) (Rq nd gd c num fst)) [] [] [] = bld N p ((rowsL fst.length (two p) (Rq nd gd c num fst)).drop x) s at_ rg
theorem least_l7_ok (hN : 5000 ≤ N) (V : Valid p acc gd nd) {c out num fst : List Int} {R : Nat → Nat → Nat} (A : Alike nd gd acc (two p) c) (B : Rch nd gd acc.length (two p) out R) (F : FI c out acc.length num fst out.length) (hq : ∀ i l, i < fst.length → l < two p → 0 ≤ nm c num (stp nd gd (fst.getD i 0).toNat l) ∧ nm c num (stp nd gd (fst.getD i 0).toNat l) < fst.length) : ∀ (m : Nat) (s : List Nd) (at_ : List (Nd × Int)) (ra : List Bool) (rg : List Int) (x : Nat), x ≤ fst.length → fst.length - x < m → LI N p acc gd nd c num fst s at_ ra rg x →
    Ok (canon_least_l7 N p acc gd nd (c, 0) (num, fst) m s at_ ra rg (x : Int)) fun r => ∃ s at_ ra rg, r = .inl (s, at_, ra, rg) ∧ LI N p acc gd nd c num fst s at_ ra rg fst.length
  | 0, s, at_, ra, rg, x, _, h, _ => by omega
  | m + 1, s, at_, ra, rg, x, k1, k2, I => by
    have a2 := V.a2
    have gl := V.gl
    have nl := V.nl
    have sh := shl_two ⟨V.p0, V.p8⟩
    have few := B.few
    have fx := F.fx
    have ial := I.al
    have igl := I.gl
    unfold canon_least_l7
    refine Ok.ite (fun hx => ?_) fun hx => Ok.pure ⟨s, at_, ra, rg, rfl, (show x = fst.length by have hx : ¬ (x : Int) < ((fst.length : Nat) : Int) := hx; omega) ▸ I⟩
    have hx' : x < fst.length := by have hx : (x : Int) < ((fst.length : Nat) : Int) := hx; omega
    obtain ⟨j, hj, e1, _⟩ := F.fs x hx'
    obtain ⟨a, ha, e2⟩ := B.st j hj
    have ea : fst.getD x 0 = (a : Int) := by rw [e1, e2]
    rw [Int.toNat_natCast]
    dsimp only
    rw [ea, Int.toNat_natCast]
    refine Ok.ask (by unfold idx; omega) (Ok.ask (by unfold idx; omega) ?_)
    refine (Table_ok hN V ha).bind fun tb ⟨t0, t1, t2⟩ => ?_
    obtain ⟨tb, tz⟩ := tb
    dsimp only at t0 t1 t2
    subst t0
    refine (least_l8_ok (N := N) (fst := fst) (tb := tb) (L := two p) (n := acc.length) sh.2.2 a2 A.len (fun q hq => A.range hq) F.nl (fun v => by have := F.bound v; omega) (stp nd gd a) (fun l hl => (stp_eq V ha l).2) t1 N tb 0 (by omega) (by omega) t1 fun l hl => by rw [if_neg (by omega)]; exact t2 l hl).bind fun w ⟨w1, w2⟩ => ?_
    have hqx := fun l (hl : l < two p) => hq x l hx' hl
    rw [ea] at hqx
    simp only [Int.toNat_natCast] at hqx
    have hRq : ∀ l, Rq nd gd c num fst x l = (nm c num (stp nd gd a l)).toNat := fun l => by unfold Rq; rw [ea, Int.toNat_natCast]
    have hw : w = rowL (two p) (Rq nd gd c num fst x) := by
      refine ext_getD 0 (by rw [w1, rowL_len]) fun l hl => ?_
      have := hqx l (by omega)
      rw [w2 l (by omega), rowL_get (by omega), hRq]
      omega
    have hgo : ∀ f, w.getD (ixf f 0 p.toNat) 0 = (fun v : Int => nm c num v.toNat) (E nd f (gd.getD a 0)) := fun f => by
      have hlt := ixf_lt f p.toNat 0
      have hlt2 : ixf f 0 p.toNat < two p := hlt
      have p8 := V.p8
      rw [w2 _ hlt2]
      have hb : ixf (bitf ((ixf f 0 p.toNat : Nat) : Int)) 0 p.toNat = ixf f 0 p.toNat := by
        have hp9 : p.toNat < 9 := by omega
        exact ixf_bit ⟨p.toNat, hp9⟩ ⟨ixf f 0 p.toNat, by omega⟩ hlt
      have hag := ixf_inj _ _ _ _ hb
      have p0 := V.p0
      have : E nd (bitf ((ixf f 0 p.toNat : Nat) : Int)) (gd.getD a 0) = E nd f (gd.getD a 0) := evf_agree V.sn _ _ 9 (-1) _ (.of_good (V.gs a (by omega))) fun P h1 h2 => hag P (by omega) (by omega)
      show nm c num (stp nd gd a (ixf f 0 p.toNat)) = nm c num (E nd f (gd.getD a 0)).toNat
      rw [← this, ← go_E]
      rfl
    refine (Add_ok (B := (fst.length : Int)) hN ⟨V.p0, V.p8⟩ (by omega) V.sn nl I.si w1 (fun l hl => by have := hqx l (by omega); rw [w2 l (by omega)]; omega) I.src (.of_good (V.gs a (by omega))) hgo).of_bld fun r hr ⟨r0, D⟩ => ?_
    rw [hr]
    simp only [Option.bind_some]
    obtain ⟨ys, hys⟩ := D.app
    have hys : r.2.2.1 = s ++ ys := hys
    rw [if_pos r0]
    refine Ok.ask (by unfold idx; omega) (Ok.ask (by simp; omega) (Ok.ask (by simp; omega) (Ok.ask (by unfold in64; omega) ?_)))
    rw [show ((x : Int) + 1) = ((x + 1 : Nat) : Int) by omega]
    refine least_l7_ok hN V A B F hq m _ _ _ _ (x + 1) (by omega) (by omega) ⟨D.si, D.src, by rw [List.length_append, List.length_singleton]; omega, by rw [List.length_append, List.length_singleton]; omega, fun i hi => ?_, fun i hi => ?_, fun i hi f => ?_, ?_⟩
    · rw [getD_snoc]
      by_cases d : i = x
      · subst d
        rw [if_pos ial.symm, ea, Int.toNat_natCast]
      · rw [if_neg (by omega)]
        exact I.ac i (by omega)
    · rw [getD_snoc]
      by_cases d : i = x
      · subst d
        rw [if_pos igl.symm]
        exact D.rf
      · rw [if_neg (by omega), hys]
        exact ((I.rf i (by omega)).app (Int.le_refl _)).mono (by rw [List.length_append]; omega) (Int.le_refl _)
    · rw [getD_snoc]
      by_cases d : i = x
      · subst d
        rw [if_pos igl.symm]
        have := D.ev f
        refine this.trans ?_
        show w.getD (ixf f 0 p.toNat) 0 = _
        rw [hw, rowL_get (L := two p) (ixf_lt f p.toNat 0)]
      · rw [if_neg (by omega), ← I.ev i (by omega) f, hys]
        exact evf_app I.si.ok ys f 9 _ _ (I.rf i (by omega))
    · rw [I.bl, rowsL_drop hx', ← hw]
      show Option.bind (guard_Store_Add N p s at_ w) _ = _
      rw [hr]
      rfl
/-- the smallest automaton of one -/
structure MinOf (N : Nat) (p : Int) (acc : List Bool) (gd : List Int) (nd : List Nd) (ra : List Bool) (rg : List Int) (s : List Nd) : Prop where
  V : Valid p ra rg s
  chk : guard_Check N p ra rg s = some 0
  can : Can ra.length (two p) (stp s rg)
  dis : Dis ra.length (two p) (stp s rg) fun i => ra.getD i false
  lang : ∀ t : List Nat, (∀ l ∈ t, l < two p) → acc.getD (runT nd gd 0 t) false = ra.getD (runT s rg 0 t) false
  few : ra.length ≤ acc.length ∧ s.length ≤ nd.length
  bl : ∃ at_, bld N p (rowsL ra.length (two p) (stp s rg)) [] [] [] = some (rg, s, at_)
theorem LI.min (hN : 5000 ≤ N) (V : Valid p acc gd nd) {c out num fst : List Int} {R : Nat → Nat → Nat} (A : Alike nd gd acc (two p) c) (B : Rch nd gd acc.length (two p) out R) (F : FI c out acc.length num fst out.length) {s : List Nd} {at_ : List (Nd × Int)} {ra : List Bool} {rg : List Int} (hq : ∀ i l, i < fst.length → l < two p → ∃ k, k < fst.length ∧ c.getD (stp nd gd (fst.getD i 0).toNat l) 0 = cl c fst k) (I : LI N p acc gd nd c num fst s at_ ra rg fst.length) : MinOf N p acc gd nd ra rg s := by
  have a2 := V.a2
  have nl := V.nl
  have p0 := V.p0
  have p8 := V.p8
  have few := B.few
  have one := B.one
  have fx := F.fx
  have al := I.al
  have gl := I.gl
  have fpos : 0 < fst.length := by obtain ⟨k, hk, _⟩ := F.all 0 (by omega); omega
  have W : Valid p ra rg s := by
    refine ⟨p0, p8, by omega, by omega, by omega, ?_, fun i hi => ?_, fun i hi => ?_⟩
    · have := I.src.le I.si p8 p0; omega
    · obtain ⟨o1, o2, o3, o4⟩ := I.si.ok i hi
      rw [al]
      exact ⟨o1, o2, o3.good, o4.good⟩
    · rw [al]
      exact (I.rf i (by omega)).good
  have hst : ∀ k, k < fst.length → ∃ a : Nat, a < acc.length ∧ fst.getD k 0 = (a : Int) := fun k hk => by
    obtain ⟨j, hj, e, _⟩ := F.fs k hk
    obtain ⟨a, ha, e2⟩ := B.st j hj
    exact ⟨a, ha, by rw [e, e2]⟩
  have hstp : ∀ i l, i < fst.length → l < two p → stp s rg i l = Rq nd gd c num fst i l := fun i l hi hl => by
    have hl2 : l < 2 ^ p.toNat := hl
    have hp9 : p.toNat < 9 := by omega
    have sh := shl_two ⟨p0, p8⟩
    have hb : ixf (bitf (l : Int)) 0 p.toNat = l := ixf_bit ⟨p.toNat, hp9⟩ ⟨l, by omega⟩ hl2
    unfold stp
    rw [go_E, I.ev i hi, hb]
    omega
  have hnm : ∀ k, k < fst.length → ∀ q, c.getD q 0 = cl c fst k → nm c num q = (k : Int) := fun k hk q e => by
    unfold nm
    rw [e, F.num1 k hk]
    omega
  have hRq : ∀ i l, i < fst.length → l < two p → ∃ k, k < fst.length ∧ Rq nd gd c num fst i l = k ∧ c.getD (stp nd gd (fst.getD i 0).toNat l) 0 = cl c fst k := fun i l hi hl => by
    obtain ⟨k, hk, e⟩ := hq i l hi hl
    refine ⟨k, hk, ?_, e⟩
    unfold Rq
    rw [hnm k hk _ e]
    omega
  have inj : ∀ i j, i < fst.length → j < fst.length → cl c fst i = cl c fst j → i = j := fun i j hi hj e => by
    have h1 := F.num1 i hi
    have h2 := F.num1 j hj
    rw [e, h2] at h1
    omega
  -- what both accept, from alike states
  have lang : ∀ (t : List Nat) (q k : Nat), (∀ l ∈ t, l < two p) → q < acc.length → k < fst.length → c.getD q 0 = cl c fst k → acc.getD (runT nd gd q t) false = ra.getD (runT s rg k t) false := fun t => by
    induction t with
    | nil =>
      intro q k _ hq1 hk e
      obtain ⟨a, ha, ea⟩ := hst k hk
      show acc.getD q false = ra.getD k false
      rw [I.ac k hk, ea, Int.toNat_natCast]
      refine A.accs q a hq1 ha ?_
      rw [e]; unfold cl; rw [ea, Int.toNat_natCast]
    | cons l t ih =>
      intro q k ht hq1 hk e
      have hl := ht l List.mem_cons_self
      obtain ⟨a, ha, ea⟩ := hst k hk
      obtain ⟨k2, h1, h2, h3⟩ := hRq k l hk hl
      show acc.getD (runT nd gd (stp nd gd q l) t) false = ra.getD (runT s rg (stp s rg k l) t) false
      rw [hstp k l hk hl, h2]
      refine ih _ k2 (fun x hx => ht x (List.mem_cons_of_mem _ hx)) (stp_eq V hq1 l).2 h1 ?_
      rw [← h3, ea, Int.toNat_natCast]
      refine A.closed q a hq1 ha ?_ l hl
      rw [e]; unfold cl; rw [ea, Int.toNat_natCast]
  refine ⟨W, check_of hN W I.si.ne I.si.dis, ?_, ?_, ?_, ⟨by omega, I.src.le I.si p8 p0⟩, ⟨at_, ?_⟩⟩
  · -- the order
    have jx : ∀ k, ∃ j, k < fst.length → j < out.length ∧ fst.getD k 0 = out.getD j 0 ∧ ∀ j', j' < j → ∃ k', k' < k ∧ cl c out j' = cl c fst k' := fun k => by
      by_cases h : k < fst.length
      · obtain ⟨j, hj⟩ := F.fs k h; exact ⟨j, fun _ => hj⟩
      · exact ⟨0, fun g => absurd g h⟩
    have js := fun k (hk : k < fst.length) => Classical.choose_spec (jx k) hk
    have hh : ∀ x k, k < fst.length → cl c out x = cl c fst k → (nm c num (out.getD x 0).toNat).toNat = k := fun x k hk e => by
      have := hnm k hk (out.getD x 0).toNat e
      omega
    rw [al]
    have C := B.can.quot (K := fst.length) (h := fun x => (nm c num (out.getD x 0).toNat).toNat) (j := fun k => Classical.choose (jx k)) (fun k hk => ⟨(js k hk).1, hh _ k hk (by show c.getD (out.getD (Classical.choose (jx k)) 0).toNat 0 = _; rw [← (js k hk).2.1]; rfl), fun x hx => ?_⟩) (fun x hx => ?_) (fun x y l hx hy hl e => ?_)
    · refine C.congr fun i l hi hl => ?_
      rw [hstp i l hi hl]
      show Rq nd gd c num fst i l = (nm c num (out.getD (R (Classical.choose (jx i)) l) 0).toNat).toNat
      rw [B.step _ l (js i hi).1 hl, ← (js i hi).2.1, Int.toNat_natCast]
      rfl
    · obtain ⟨k', g1, g2⟩ := (js k hk).2.2 x hx
      rw [hh x k' (by omega) g2]
      exact g1
    · obtain ⟨k, g1, g2⟩ := F.all x hx
      rw [hh x k g1 g2]
      exact g1
    · obtain ⟨k, g1, g2⟩ := F.all x hx
      obtain ⟨k', g3, g4⟩ := F.all y hy
      have e : (nm c num (out.getD x 0).toNat).toNat = (nm c num (out.getD y 0).toNat).toNat := e
      rw [hh x k g1 g2, hh y k' g3 g4] at e
      subst e
      obtain ⟨a, ha, ea⟩ := B.st x hx
      obtain ⟨b, hb, eb⟩ := B.st y hy
      have hab : c.getD a 0 = c.getD b 0 := by
        have h1 : cl c out x = c.getD a 0 := by unfold cl; rw [ea, Int.toNat_natCast]
        have h2 : cl c out y = c.getD b 0 := by unfold cl; rw [eb, Int.toNat_natCast]
        rw [← h1, ← h2, g2, g4]
      show (nm c num (out.getD (R x l) 0).toNat).toNat = (nm c num (out.getD (R y l) 0).toNat).toNat
      rw [B.step x l hx hl, B.step y l hy hl, ea, eb]
      simp only [Int.toNat_natCast]
      unfold nm
      rw [A.closed a b ha hb hab l hl]
  · -- none are alike
    intro i j hi hj h
    rw [al] at hi hj
    obtain ⟨a, ha, ea⟩ := hst i hi
    obtain ⟨b, hb, eb⟩ := hst j hj
    have ca : c.getD a 0 = cl c fst i := by unfold cl; rw [ea, Int.toNat_natCast]
    have cb : c.getD b 0 = cl c fst j := by unfold cl; rw [eb, Int.toNat_natCast]
    refine inj i j hi hj (Classical.byContradiction fun hne => ?_)
    obtain ⟨t, t1, t2⟩ := A.dist a b ha hb (by rw [ca, cb]; exact hne)
    refine t2 ?_
    rw [lang t a i t1 ha hi ca, lang t b j t1 hb hj cb]
    exact h t t1
  · intro t ht
    refine lang t 0 0 ht (by omega) fpos ?_
    obtain ⟨j, hj, e, g⟩ := F.fs 0 fpos
    have hj0 : j = 0 := Classical.byContradiction fun h => by
      obtain ⟨k', hk', _⟩ := g 0 (by omega)
      omega
    subst hj0
    unfold cl
    rw [e, B.zero]
    rfl
  · have e : rowsL ra.length (two p) (stp s rg) = rowsL fst.length (two p) (Rq nd gd c num fst) := by
      rw [al]
      exact rowsL_congr hstp
    rw [e, I.bl, List.drop_eq_nil_of_le (by unfold rowsL; simp)]
    rfl
theorem least_ok (hN : 5000 ≤ N) (V : Valid p acc gd nd) (hC : guard_Check N p acc gd nd = some 0) : Ok (canon_least N p acc gd nd) fun r => r.2 = 0 ∧ r.1.1 = p ∧ MinOf N p acc gd nd r.1.2.1 r.1.2.2.1 r.1.2.2.2 := by
  have a1 := V.a1
  have a2 := V.a2
  have p0 := V.p0
  have p8 := V.p8
  unfold canon_least
  refine (Reached_ok hN V hC).bind fun r ⟨r0, R, B⟩ => ?_
  obtain ⟨out, rz⟩ := r
  dsimp only at r0 B
  subst r0
  refine (Classes_ok hN V hC).bind fun r ⟨r0, A⟩ => ?_
  obtain ⟨c, cz⟩ := r
  dsimp only at r0 A
  subst r0
  have few := B.few
  refine Ok.ask (by omega) ?_
  refine (least_l0_ok (N := N) a2 A B N _ _ 0 (by omega) (by omega) ⟨by rw [List.length_take, List.length_replicate]; omega, by simp, fun k hk => by simp at hk, fun j hj => by omega, fun k hk => by simp at hk, fun v hv => .inl ?_⟩).bind fun r F => ?_
  · rw [List.getD_eq_getElem?_getD, List.getElem?_take]
    split
    · rw [List.getElem?_replicate]; split <;> rfl
    · rfl
  obtain ⟨num, fst⟩ := r
  dsimp only at F
  have hst : ∀ k, k < fst.length → ∃ j, j < out.length ∧ fst.getD k 0 = out.getD j 0 := fun k hk => by
    obtain ⟨j, hj, e, _⟩ := F.fs k hk
    exact ⟨j, hj, e⟩
  have hq : ∀ i l, i < fst.length → l < two p → ∃ k, k < fst.length ∧ c.getD (stp nd gd (fst.getD i 0).toNat l) 0 = cl c fst k := fun i l hi hl => by
    obtain ⟨j, hj, e⟩ := hst i hi
    obtain ⟨k, hk, e2⟩ := F.all (R j l) (B.can.lt j l hj hl)
    refine ⟨k, hk, ?_⟩
    rw [← e2]
    unfold cl
    rw [B.step j l hj hl, e, Int.toNat_natCast]
  have hN1 : guard_New N p = some (Sum.inr 0) := by
    unfold guard_New
    rw [if_neg (by omega), if_neg (by omega)]
  rw [hN1]
  simp only [Option.bind_some, Sum.elim_inr]
  have start : LI N p acc gd nd c num fst [] [] [] [] 0 := by
    refine ⟨⟨fun i hi => by simp at hi, fun i hi => by simp at hi, fun i j hi => by simp at hi, fun i hi => by simp at hi, fun x v h => by cases h⟩, fun i hi => by simp at hi, rfl, rfl, fun i hi => by omega, fun i hi => by omega, fun i hi => by omega, by rw [List.drop_zero]⟩
  have fx := F.fx
  refine (least_l7_ok hN V A B F (fun i l hi hl => ?_) N [] [] [] [] 0 (by omega) (by omega) start).bind fun r ⟨s, at_, ra, rg, e, I⟩ => ?_
  · obtain ⟨k, hk, e⟩ := hq i l hi hl
    have : nm c num (stp nd gd (fst.getD i 0).toNat l) = (k : Int) := by
      unfold nm
      rw [e, F.num1 k hk]
      omega
    omega
  subst e
  have M := I.min hN V A B F hq
  have few2 := M.few
  have nl := V.nl
  simp only [Sum.elim_inl]
  have hNodes : guard_Store_Nodes N p s at_ = some s := by
    unfold guard_Store_Nodes guard_Store_none
    simp only [Option.bind_some, Bool.false_eq_true, if_false]
    unfold ask
    rw [if_pos (by rw [List.length_nil]; omega)]
    rfl
  rw [hNodes]
  exact Ok.pure ⟨rfl, rfl, M⟩
theorem Min_ok (hN : 5000 ≤ N) (V : Valid p acc gd nd) (hC : guard_Check N p acc gd nd = some 0) : Ok (canon_Min N p acc gd nd) fun r => r.2 = 0 ∧ r.1.1 = p ∧ MinOf N p acc gd nd r.1.2.1 r.1.2.2.1 r.1.2.2.2 := by
  unfold canon_Min
  rw [hC]
  simp only [Option.bind_some]
  rw [if_pos trivial]
  exact (least_ok hN V hC).bind fun r ⟨r1, r2, r3⟩ => Ok.pure ⟨r1, r2, r3⟩
/-- one smallest automaton for one language -/
theorem MinOf.one {acc2 : List Bool} {gd2 : List Int} {nd2 : List Nd} {ra ra2 : List Bool} {rg rg2 : List Int} {s s2 : List Nd} (M : MinOf N p acc gd nd ra rg s) (M2 : MinOf N p acc2 gd2 nd2 ra2 rg2 s2) (h : ∀ t : List Nat, (∀ l ∈ t, l < two p) → acc.getD (runT nd gd 0 t) false = acc2.getD (runT nd2 gd2 0 t) false) : ra = ra2 ∧ rg = rg2 ∧ s = s2 := by
  have V := M.V
  have V2 := M2.V
  have a1 := V.a1
  have b1 := V2.a1
  obtain ⟨k1, k2⟩ := can_eq (by omega) (by omega) M.can M2.can M.dis M2.dis fun t ht => by
    show ra.getD (runT s rg 0 t) false = ra2.getD (runT s2 rg2 0 t) false
    rw [← M.lang t ht, ← M2.lang t ht, h t ht]
  have e1 : ra = ra2 := ext_getD false k1 fun i hi => (k2 i hi).1 [] fun l hl => by cases hl
  obtain ⟨at1, b1⟩ := M.bl
  obtain ⟨at2, b2⟩ := M2.bl
  have e2 : rowsL ra.length (two p) (stp s rg) = rowsL ra2.length (two p) (stp s2 rg2) := by
    rw [← k1]
    exact rowsL_congr fun i l hi hl => (k2 i hi).2 l hl
  rw [e2, b2] at b1
  have := Option.some.inj b1
  exact ⟨e1, (congrArg Prod.fst this).symm, (congrArg (fun x => x.2.1) this).symm⟩
end
end Go.V
