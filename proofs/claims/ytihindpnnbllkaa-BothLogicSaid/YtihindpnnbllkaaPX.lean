/- Plain theory: classes of states. No program. -/
import Derived.Test.YtihindpnnbllkaaPC
set_option linter.all false
set_option linter.unusedVariables false
set_option maxRecDepth 100000
namespace Go.V
open Go

/-! ### numbers in order of their first use -/
def cmx (a : List Int) : Nat → Int
  | 0 => 0
  | q + 1 => if cmx a q ≤ a.getD q 0 then a.getD q 0 + 1 else cmx a q
theorem cmx_step (a : List Int) (q : Nat) : cmx a q ≤ cmx a (q + 1) := by
  show cmx a q ≤ if cmx a q ≤ a.getD q 0 then a.getD q 0 + 1 else cmx a q
  split <;> omega
theorem cmx_mono (a : List Int) {p : Nat} : ∀ {q : Nat}, p ≤ q → cmx a p ≤ cmx a q
  | 0, h => by have : p = 0 := by omega
               subst this; omega
  | q + 1, h => by
    by_cases e : p = q + 1
    · subst e; omega
    · have := cmx_mono a (p := p) (q := q) (by omega)
      have := cmx_step a q
      omega
theorem cmx_nonneg (a : List Int) (q : Nat) : 0 ≤ cmx a q := by
  have := cmx_mono a (p := 0) (q := q) (by omega)
  exact this
theorem cmx_lt (a : List Int) {p q : Nat} (h : p < q) : a.getD p 0 < cmx a q := by
  have h1 : a.getD p 0 < cmx a (p + 1) := by
    show _ < if cmx a p ≤ a.getD p 0 then a.getD p 0 + 1 else cmx a p
    split <;> omega
  have := cmx_mono a (p := p + 1) (q := q) (by omega)
  omega
theorem cmx_congr (a b : List Int) : ∀ (q : Nat), (∀ p, p < q → a.getD p 0 = b.getD p 0) → cmx a q = cmx b q
  | 0, _ => rfl
  | q + 1, h => by
    have := cmx_congr a b q fun p hp => h p (by omega)
    unfold cmx
    rw [this, h q (by omega)]
def First (a : List Int) (n : Nat) : Prop := ∀ q, q < n → 0 ≤ a.getD q 0 ∧ a.getD q 0 ≤ cmx a q
theorem cmx_le {a : List Int} : ∀ {q : Nat}, First a q → cmx a q ≤ q
  | 0, _ => by unfold cmx; omega
  | q + 1, h => by
    have h1 := cmx_le (a := a) (q := q) fun p hp => h p (by omega)
    have h2 := h q (by omega)
    show (if cmx a q ≤ a.getD q 0 then a.getD q 0 + 1 else cmx a q) ≤ _
    split <;> omega

section
variable {N : Nat} {p : Int} {acc : List Bool} {gd : List Int} {nd : List Nd} {wh : List (List Int)}
theorem rows_l0_ok (hN : 5000 ≤ N) (V : Valid p acc gd nd) : ∀ (m : Nat) (wh : List (List Int)) (x : Int), 0 ≤ x → x ≤ acc.length → (acc.length : Int) - x < m → (wh.length : Int) = x →
    (∀ q : Nat, (q : Int) < x → (wh.getD q []).length = two p ∧ ∀ l, l < two p → (wh.getD q []).getD l 0 = (stp nd gd q l : Int)) →
    Ok (part_rows_l0 N p gd nd m wh x) fun r => Tab nd gd acc.length (two p) r
  | 0, wh, x, _, _, h, _, _ => by omega
  | m + 1, wh, x, k0, k1, k2, k3, k5 => by
    have a2 := V.a2
    have gl := V.gl
    unfold part_rows_l0
    rw [gl]
    refine Ok.ite (fun hx => ?_) fun hx => Ok.pure ⟨by omega, fun q hq => (k5 q (by omega)).1, fun q l hq hl => (k5 q (by omega)).2 l hl⟩
    obtain ⟨a, rfl⟩ := Int.eq_ofNat_of_zero_le k0
    rw [Int.toNat_natCast]
    refine Ok.ask (by unfold idx; omega) ?_
    refine (Table_ok hN V (q := a) (by omega)).bind fun r ⟨r1, r2, r3⟩ => ?_
    refine Ok.ask (by simp; omega) (Ok.ask (by unfold in64; omega) ?_)
    refine rows_l0_ok hN V m _ ((a : Int) + 1) (by omega) (by omega) (by omega) (by simp; omega) fun q hq => ?_
    rw [getD_snoc]
    by_cases c : q = a
    · rw [if_pos (by omega), c]
      exact ⟨r2, r3⟩
    · rw [if_neg (by omega)]
      exact k5 q (by omega)
theorem rows_ok (hN : 5000 ≤ N) (V : Valid p acc gd nd) : Ok (part_rows N p acc gd nd) fun r => Tab nd gd acc.length (two p) r := by
  have a2 := V.a2
  unfold part_rows
  exact (rows_l0_ok hN V N [] 0 (by omega) (by omega) (by omega) rfl fun q h => by omega).bind fun r hr => Ok.pure hr

/-! ### signatures -/
def sgv (nd : List Nd) (gd : List Int) (L : Nat) (a : List Int) (q j : Nat) : Int := if j = 0 then a.getD q 0 else if j ≤ L then a.getD (stp nd gd q (j - 1)) 0 else 0
def sg (nd : List Nd) (gd : List Int) (L : Nat) (a : List Int) (q : Nat) : List Int := (List.range 257).map (sgv nd gd L a q)
theorem sg_get {L : Nat} {a : List Int} {q j : Nat} (h : j < 257) : (sg nd gd L a q).getD j 0 = sgv nd gd L a q j := by
  unfold sg
  rw [List.getD_eq_getElem?_getD, List.getElem?_map, List.getElem?_range h]
  rfl
theorem sg_eq {L : Nat} (hL : L ≤ 256) {a : List Int} {q q' : Nat} (h : sg nd gd L a q = sg nd gd L a q') : a.getD q 0 = a.getD q' 0 ∧ ∀ l, l < L → a.getD (stp nd gd q l) 0 = a.getD (stp nd gd q' l) 0 := by
  have key : ∀ j, j < 257 → sgv nd gd L a q j = sgv nd gd L a q' j := fun j hj => by rw [← sg_get hj, h, sg_get hj]
  refine ⟨key 0 (by omega), fun l hl => ?_⟩
  have := key (l + 1) (by omega)
  have e : ∀ q, sgv nd gd L a q (l + 1) = a.getD (stp nd gd q l) 0 := fun q => by
    unfold sgv
    rw [if_neg (Nat.succ_ne_zero l), if_pos (by omega)]
    rfl
  rw [e, e] at this
  exact this
theorem sg_ne {L : Nat} {a : List Int} {q q' : Nat} (h : sg nd gd L a q ≠ sg nd gd L a q') : a.getD q 0 ≠ a.getD q' 0 ∨ ∃ l, l < L ∧ a.getD (stp nd gd q l) 0 ≠ a.getD (stp nd gd q' l) 0 := by
  refine Classical.byContradiction fun hc => h ?_
  have h1 : a.getD q 0 = a.getD q' 0 := Classical.byContradiction fun c => hc (.inl c)
  have h2 : ∀ l, l < L → a.getD (stp nd gd q l) 0 = a.getD (stp nd gd q' l) 0 := fun l hl => Classical.byContradiction fun c => hc (.inr ⟨l, hl, c⟩)
  unfold sg
  refine congrArg (fun f => (List.range 257).map f) (funext fun j => ?_)
  unfold sgv
  split
  · exact h1
  · split
    · exact h2 _ (by omega)
    · rfl
theorem cls_l3_ok (V : Valid p acc gd nd) (T : Tab nd gd acc.length (two p) wh) {a : List Int} (ha : a.length = acc.length) {q : Nat} (hq : q < acc.length) : ∀ (m : Nat) (s : List Int) (x : Int), 0 ≤ x → x ≤ two p → (two p : Int) - x < m → s.length = 257 → (∀ j : Nat, j < 257 → s.getD j 0 = if (j : Int) ≤ x then sgv nd gd (two p) a q j else 0) →
    Ok (part_classes_l3 N wh a (q : Int) m s x) fun r => r = sg nd gd (two p) a q
  | 0, s, x, _, _, h, _, _ => by omega
  | m + 1, s, x, k0, k1, k2, k3, k4 => by
    have sh := shl_two ⟨V.p0, V.p8⟩
    unfold part_classes_l3
    rw [Int.toNat_natCast, T.row q hq]
    refine Ok.ite (fun hx => ?_) fun hx => Ok.pure ?_
    · obtain ⟨y, rfl⟩ := Int.eq_ofNat_of_zero_le k0
      have hlt := (stp_eq V hq y).2
      rw [Int.toNat_natCast, T.at_ q y hq (by omega), Int.toNat_natCast]
      refine Ok.ask (by unfold idx; omega) (Ok.ask (by unfold in64; omega) (Ok.ask (by unfold idx; omega) (Ok.ask (by unfold idx; omega) (Ok.ask (by unfold in64; omega) ?_))))
      have e1 : (1 + (y : Int)).toNat = y + 1 := by omega
      rw [e1]
      refine cls_l3_ok V T ha hq m _ ((y : Int) + 1) (by omega) (by omega) (by omega) (by simpa using k3) fun j hj => ?_
      rw [getD_set (by omega)]
      by_cases c : y + 1 = j
      · rw [if_pos c, if_pos (by omega), ← c]
        unfold sgv
        rw [if_neg (by omega), if_pos (by omega)]
        rfl
      · rw [if_neg c, k4 j hj]
        by_cases d : (j : Int) ≤ y
        · rw [if_pos d, if_pos (by omega)]
        · rw [if_neg d, if_neg (by omega)]
    · refine ext_getD 0 (by unfold sg; simp [k3]) fun j hj => ?_
      rw [k4 j (by omega), sg_get (by omega)]
      by_cases c : (j : Int) ≤ x
      · rw [if_pos c]
      · rw [if_neg c]
        unfold sgv
        rw [if_neg (by omega), if_neg (by omega)]

/-! ### one round -/
structure Num (nd : List Nd) (gd : List Int) (L : Nat) (a : List Int) (nm : List (List Int × Int)) (nx : List Int) (x : Nat) : Prop where
  get : ∀ q, q < x → mget nm (sg nd gd L a q) = some (nx.getD q 0)
  key : ∀ k v, mget nm k = some v → ∃ q, q < x ∧ sg nd gd L a q = k
  inj : ∀ q q', q < x → q' < x → nx.getD q 0 = nx.getD q' 0 → sg nd gd L a q = sg nd gd L a q'
  len : (nm.length : Int) = cmx nx x
  first : First nx x
  up : cmx a x ≤ cmx nx x
  same : cmx a x = cmx nx x → ∀ q, q < x → nx.getD q 0 = a.getD q 0
theorem cls_l2_ok (hN : 5000 ≤ N) (V : Valid p acc gd nd) (T : Tab nd gd acc.length (two p) wh) {a : List Int} (ha : a.length = acc.length) (hf : First a acc.length) : ∀ (m : Nat) (nm : List (List Int × Int)) (nx : List Int) (x : Nat), x ≤ acc.length → acc.length - x < m → nx.length = acc.length → Num nd gd (two p) a nm nx x →
    Ok (part_classes_l2 N wh a m nm nx (x : Int)) fun r => r.2.length = acc.length ∧ Num nd gd (two p) a r.1 r.2 acc.length
  | 0, nm, nx, x, _, h, _, _ => by omega
  | m + 1, nm, nx, x, k1, k2, k3, I => by
    have a2 := V.a2
    have sh := shl_two ⟨V.p0, V.p8⟩
    have hcl := cmx_le hf
    unfold part_classes_l2
    rw [ha]
    refine Ok.ite (fun hx => ?_) fun hx => Ok.pure ⟨k3, (show x = acc.length by omega) ▸ I⟩
    have hxn : x < acc.length := by omega
    have e0 : (Int.toNat (0 : Int)) = 0 := rfl
    rw [Int.toNat_natCast, e0]
    refine Ok.ask (by unfold idx; omega) (Ok.ask (by unfold idx; omega) (Ok.ask (by unfold idx; have := T.len; omega) ?_))
    refine (cls_l3_ok (N := N) V T ha hxn N _ 0 (by omega) (by omega) (by omega) (by simp) fun j hj => ?_).bind fun s hs => ?_
    · rw [getD_set (by simp), getD_rep]
      by_cases c : 0 = j
      · subst c; rfl
      · rw [if_neg c, if_neg (by omega)]
    subst hs
    have hv : ∀ q, q < acc.length → 0 ≤ a.getD q 0 ∧ a.getD q 0 ≤ 256 := fun q hq => by
      have := hf q hq
      have := cmx_mono a (p := q) (q := acc.length) (by omega)
      omega
    refine Ok.ask ⟨by unfold sg; simp, fun v hv2 => ?_⟩ ?_
    · unfold sg at hv2
      obtain ⟨j, hj, rfl⟩ := List.mem_map.1 hv2
      have hj := List.mem_range.1 hj
      unfold sgv in64
      split
      · have := hv x hxn; omega
      · split
        · have := hv _ (stp_eq V hxn (j - 1)).2; omega
        · omega
    have hfx := I.first
    have hlen := I.len
    have fx := hf x hxn
    have cle := cmx_le I.first
    have cstep : cmx a (x + 1) = if cmx a x ≤ a.getD x 0 then a.getD x 0 + 1 else cmx a x := rfl
    refine Ok.ite (fun hg => ?_) fun hg => ?_
    · refine Ok.ask (by unfold idx; omega) (Ok.ask (by unfold in64; omega) ?_)
      obtain ⟨v, hgv⟩ : ∃ v, mget nm (sg nd gd (two p) a x) = some v := by
        cases h : mget nm (sg nd gd (two p) a x) with
        | some v => exact ⟨v, rfl⟩
        | none => rw [h] at hg; cases hg
      obtain ⟨q, hq, hqs⟩ := I.key _ _ hgv
      have hvq : v = nx.getD q 0 := by
        have := I.get q hq
        rw [hqs, hgv] at this
        exact Option.some.inj this
      have hag := (sg_eq sh.2.2 hqs).1
      rw [hgv]
      show Ok (part_classes_l2 N wh a m nm (nx.set x v) ((x : Int) + 1)) _
      have hset : ∀ j, (nx.set x v).getD j 0 = if x = j then v else nx.getD j 0 := fun j => getD_set (by omega)
      have hold : ∀ j, j < x → (nx.set x v).getD j 0 = nx.getD j 0 := fun j hj => by rw [hset, if_neg (by omega)]
      have hnew : (nx.set x v).getD x 0 = v := by rw [hset, if_pos rfl]
      have hcx : cmx (nx.set x v) x = cmx nx x := cmx_congr _ _ x hold
      have hlt := cmx_lt nx hq
      have hlta := cmx_lt a hq
      have hc1 : cmx (nx.set x v) (x + 1) = cmx nx x := by
        show (if cmx (nx.set x v) x ≤ (nx.set x v).getD x 0 then (nx.set x v).getD x 0 + 1 else cmx (nx.set x v) x) = _
        rw [hnew, hcx, if_neg (by omega)]
      have hca : cmx a (x + 1) = cmx a x := by rw [cstep, if_neg (by omega)]
      have e2 : ((x : Int) + 1) = ((x + 1 : Nat) : Int) := by omega
      rw [e2]
      refine cls_l2_ok hN V T ha hf m nm _ (x + 1) (by omega) (by omega) (by simpa using k3) ⟨fun j hj => ?_, fun k u h => ?_, fun j j' hj hj' h => ?_, by rw [hc1]; exact hlen, fun j hj => ?_, by rw [hc1, hca]; exact I.up, fun h j hj => ?_⟩
      · by_cases c : j = x
        · subst c; rw [hnew]; exact hgv
        · rw [hold j (by omega)]; exact I.get j (by omega)
      · obtain ⟨j, hj, h2⟩ := I.key k u h
        exact ⟨j, by omega, h2⟩
      · have red : ∀ j, j < x + 1 → ∃ i, i < x ∧ (nx.set x v).getD j 0 = nx.getD i 0 ∧ sg nd gd (two p) a j = sg nd gd (two p) a i := fun j hj => by
          by_cases c : j = x
          · subst c; exact ⟨q, hq, by rw [hnew, hvq], hqs.symm⟩
          · exact ⟨j, by omega, hold j (by omega), rfl⟩
        obtain ⟨i, hi, e3, e4⟩ := red j hj
        obtain ⟨i', hi', e5, e6⟩ := red j' hj'
        rw [e4, e6]
        exact I.inj i i' hi hi' (by rw [← e3, ← e5]; exact h)
      · by_cases c : j = x
        · subst c
          rw [hnew, hcx, hvq]
          exact ⟨(I.first q hq).1, by omega⟩
        · rw [hold j (by omega), cmx_congr (nx.set x v) nx j fun i hi => hold i (by omega)]
          exact I.first j (by omega)
      · rw [hc1, hca] at h
        by_cases c : j = x
        · subst c
          rw [hnew, hvq, I.same h q hq, hag]
        · rw [hold j (by omega)]
          exact I.same h j (by omega)
    · have hgn : mget nm (sg nd gd (two p) a x) = none := by
        cases h : mget nm (sg nd gd (two p) a x) with
        | none => rfl
        | some v => rw [h] at hg; exact absurd rfl hg
      refine Ok.ask hgn (Ok.ask (by unfold idx; omega) (Ok.ask (by unfold in64; omega) ?_))
      generalize hv2 : ((nm.length : Nat) : Int) = v at *
      have hset : ∀ j, (nx.set x v).getD j 0 = if x = j then v else nx.getD j 0 := fun j => getD_set (by omega)
      have hold : ∀ j, j < x → (nx.set x v).getD j 0 = nx.getD j 0 := fun j hj => by rw [hset, if_neg (by omega)]
      have hnew : (nx.set x v).getD x 0 = v := by rw [hset, if_pos rfl]
      have hcx : cmx (nx.set x v) x = cmx nx x := cmx_congr _ _ x hold
      have hc1 : cmx (nx.set x v) (x + 1) = cmx nx x + 1 := by
        show (if cmx (nx.set x v) x ≤ (nx.set x v).getD x 0 then (nx.set x v).getD x 0 + 1 else cmx (nx.set x v) x) = _
        rw [hnew, hcx, if_pos (by omega)]
        omega
      have up := I.up
      have hca : cmx a (x + 1) ≤ cmx a x + 1 := by rw [cstep]; split <;> omega
      have e2 : ((x : Int) + 1) = ((x + 1 : Nat) : Int) := by omega
      rw [e2]
      refine cls_l2_ok hN V T ha hf m _ _ (x + 1) (by omega) (by omega) (by simpa using k3) ⟨fun j hj => ?_, fun k u h => ?_, fun j j' hj hj' h => ?_, by rw [hc1, List.length_append]; simp; omega, fun j hj => ?_, by rw [hc1]; omega, fun h j hj => ?_⟩
      · by_cases c : j = x
        · subst c; rw [hnew, mget_app_none hgn, if_pos rfl]
        · rw [hold j (by omega)]; exact mget_app_some (I.get j (by omega))
      · rw [mget_app] at h
        cases h2 : mget nm k with
        | some u2 =>
          obtain ⟨j, hj, h3⟩ := I.key k u2 h2
          exact ⟨j, by omega, h3⟩
        | none =>
          rw [h2] at h
          by_cases c : sg nd gd (two p) a x = k
          · exact ⟨x, by omega, c⟩
          · simp only [if_neg c] at h
            cases h
      · by_cases c : j = x
        · by_cases c' : j' = x
          · rw [c, c']
          · subst c
            rw [hnew, hold j' (by omega)] at h
            have := cmx_lt nx (p := j') (q := j) (by omega)
            omega
        · by_cases c' : j' = x
          · subst c'
            rw [hnew, hold j (by omega)] at h
            have := cmx_lt nx (p := j) (q := j') (by omega)
            omega
          · rw [hold j (by omega), hold j' (by omega)] at h
            exact I.inj j j' (by omega) (by omega) h
      · by_cases c : j = x
        · subst c
          rw [hnew, hcx]
          exact ⟨by omega, by omega⟩
        · rw [hold j (by omega), cmx_congr (nx.set x v) nx j fun i hi => hold i (by omega)]
          exact I.first j (by omega)
      · rw [hc1] at h
        have e3 : cmx a x = cmx nx x := by omega
        by_cases c : j = x
        · subst c
          rw [hnew]
          rw [cstep] at h
          split at h <;> omega
        · rw [hold j (by omega)]
          exact I.same e3 j (by omega)

/-! ### all rounds -/
/-- which states are alike -/
structure Alike (nd : List Nd) (gd : List Int) (acc : List Bool) (L : Nat) (c : List Int) : Prop where
  len : c.length = acc.length
  accs : ∀ q q', q < acc.length → q' < acc.length → c.getD q 0 = c.getD q' 0 → acc.getD q false = acc.getD q' false
  closed : ∀ q q', q < acc.length → q' < acc.length → c.getD q 0 = c.getD q' 0 → ∀ l, l < L → c.getD (stp nd gd q l) 0 = c.getD (stp nd gd q' l) 0
  dist : ∀ q q', q < acc.length → q' < acc.length → c.getD q 0 ≠ c.getD q' 0 → ∃ t : List Nat, (∀ l ∈ t, l < L) ∧ acc.getD (runT nd gd q t) false ≠ acc.getD (runT nd gd q' t) false
  first : First c acc.length
theorem cls_l0_ok (V : Valid p acc gd nd) : ∀ (m : Nat) (a : List Int) (x : Int), 0 ≤ x → x ≤ acc.length → (acc.length : Int) - x < m → a.length = acc.length → (∀ j : Nat, j < acc.length → a.getD j 0 = if (j : Int) < x ∧ acc.getD j false ≠ acc.getD 0 false then 1 else 0) →
    Ok (part_classes_l0 N acc m a x) fun r => r.length = acc.length ∧ ∀ j, j < acc.length → r.getD j 0 = if acc.getD j false ≠ acc.getD 0 false then 1 else 0
  | 0, a, x, _, _, h, _, _ => by omega
  | m + 1, a, x, k0, k1, k2, k3, k4 => by
    have a1 := V.a1
    have a2 := V.a2
    unfold part_classes_l0
    refine Ok.ite (fun hx => ?_) fun hx => Ok.pure ⟨k3, fun j hj => ?_⟩
    · obtain ⟨y, rfl⟩ := Int.eq_ofNat_of_zero_le k0
      have e0 : (Int.toNat (0 : Int)) = 0 := rfl
      rw [Int.toNat_natCast, e0]
      refine Ok.ask (by unfold idx; omega) (Ok.ask (by unfold idx; omega) ?_)
      refine Ok.ite (fun h => ?_) fun h => ?_
      · refine Ok.ask (by unfold in64; omega) ?_
        refine cls_l0_ok V m _ _ (by omega) (by omega) (by omega) k3 fun j hj => ?_
        rw [k4 j hj]
        by_cases c : j = y
        · subst c
          rw [if_neg (fun g => g.2 h), if_neg (fun g => g.2 h)]
        · by_cases d : (j : Int) < y ∧ acc.getD j false ≠ acc.getD 0 false
          · rw [if_pos d, if_pos ⟨by omega, d.2⟩]
          · rw [if_neg d, if_neg fun g => d ⟨by omega, g.2⟩]
      · refine Ok.ask (by unfold idx; omega) (Ok.ask (by unfold in64; omega) ?_)
        refine cls_l0_ok V m _ _ (by omega) (by omega) (by omega) (by simpa using k3) fun j hj => ?_
        rw [getD_set (by omega)]
        by_cases c : y = j
        · subst c
          rw [if_pos rfl, if_pos ⟨by omega, h⟩]
        · rw [if_neg c, k4 j hj]
          by_cases d : (j : Int) < y ∧ acc.getD j false ≠ acc.getD 0 false
          · rw [if_pos d, if_pos ⟨by omega, d.2⟩]
          · rw [if_neg d, if_neg fun g => d ⟨by omega, g.2⟩]
    · rw [k4 j hj]
      by_cases d : acc.getD j false ≠ acc.getD 0 false
      · rw [if_pos ⟨by omega, d⟩, if_pos d]
      · rw [if_neg (fun g => d g.2), if_neg d]
structure CInv (nd : List Nd) (gd : List Int) (acc : List Bool) (L : Nat) (c : List Int) (many : Int) : Prop where
  len : c.length = acc.length
  accs : ∀ q q', q < acc.length → q' < acc.length → c.getD q 0 = c.getD q' 0 → acc.getD q false = acc.getD q' false
  dist : ∀ q q', q < acc.length → q' < acc.length → c.getD q 0 ≠ c.getD q' 0 → ∃ t : List Nat, (∀ l ∈ t, l < L) ∧ acc.getD (runT nd gd q t) false ≠ acc.getD (runT nd gd q' t) false
  first : First c acc.length
  many : many = 0 ∨ many = cmx c acc.length
theorem cls_l1_ok (hN : 5000 ≤ N) (V : Valid p acc gd nd) (T : Tab nd gd acc.length (two p) wh) : ∀ (m : Nat) (c : List Int) (many : Int), CInv nd gd acc (two p) c many → (acc.length : Int) + 2 ≤ many + m →
    Ok (part_classes_l1 N acc wh m c many) fun r => Alike nd gd acc (two p) r
  | 0, c, many, I, h => by
    exfalso
    have := cmx_le I.first
    rcases I.many with h2 | h2 <;> omega
  | m + 1, c, many, I, hm => by
    have a1 := V.a1
    have a2 := V.a2
    have sh := shl_two ⟨V.p0, V.p8⟩
    unfold part_classes_l1
    have J := cls_l2_ok (N := N) hN V T I.len I.first N [] (List.replicate (Int.toNat ((acc.length : Nat) : Int)) (0 : Int)) 0 (by omega) (by omega) (by simp) ⟨fun q h => by omega, fun k v h => (by cases h), fun q q' h => by omega, rfl, fun q h => by omega, Int.le_refl _, fun _ q h => by omega⟩
    obtain ⟨x, e, x1, x2⟩ := J
    have e' : part_classes_l2 N wh c N ([] : List ((List Int) × Int)) (List.replicate (Int.toNat (((List.length acc) : Nat) : Int)) (0 : Int)) 0 = some x := e
    rw [e']
    simp only [Option.bind_some]
    have hl := x2.len
    have hle := cmx_le x2.first
    have h1 : 1 ≤ cmx x.2 acc.length := by
      have := cmx_lt x.2 (p := 0) (q := acc.length) (by omega)
      have := (x2.first 0 (by omega)).1
      omega
    have eqs : ∀ q q', q < acc.length → q' < acc.length → x.2.getD q 0 = x.2.getD q' 0 → sg nd gd (two p) c q = sg nd gd (two p) c q' := fun q q' h1 h2 h3 => x2.inj q q' h1 h2 h3
    have accs' : ∀ q q', q < acc.length → q' < acc.length → x.2.getD q 0 = x.2.getD q' 0 → acc.getD q false = acc.getD q' false := fun q q' h1 h2 h3 => I.accs q q' h1 h2 (sg_eq sh.2.2 (eqs q q' h1 h2 h3)).1
    have dist' : ∀ q q', q < acc.length → q' < acc.length → x.2.getD q 0 ≠ x.2.getD q' 0 → ∃ t : List Nat, (∀ l ∈ t, l < two p) ∧ acc.getD (runT nd gd q t) false ≠ acc.getD (runT nd gd q' t) false := fun q q' h1 h2 h3 => by
      have hne : sg nd gd (two p) c q ≠ sg nd gd (two p) c q' := fun h => by
        have g1 := x2.get q h1
        rw [h, x2.get q' h2] at g1
        exact h3 (Option.some.inj g1).symm
      rcases sg_ne hne with h4 | ⟨l, hl, h4⟩
      · exact I.dist q q' h1 h2 h4
      · obtain ⟨t, t1, t2⟩ := I.dist _ _ (stp_eq V h1 l).2 (stp_eq V h2 l).2 h4
        exact ⟨l :: t, fun y hy => by rcases List.mem_cons.1 hy with h5 | h5; (· omega); (· exact t1 y h5), t2⟩
    refine Ok.ite (fun h => Ok.pure ?_) fun h => ?_
    · have hmany : many = cmx c acc.length := by
        rcases I.many with h2 | h2
        · omega
        · exact h2
      have same := x2.same (by omega)
      refine ⟨x1, accs', fun q q' h2 h3 h4 l hl => ?_, dist', x2.first⟩
      rw [same _ (stp_eq V h2 l).2, same _ (stp_eq V h3 l).2]
      exact (sg_eq sh.2.2 (eqs q q' h2 h3 h4)).2 l hl
    · have up := x2.up
      refine cls_l1_ok hN V T m x.2 _ ⟨x1, accs', dist', x2.first, .inr hl⟩ ?_
      rcases I.many with h2 | h2 <;> omega
theorem classes_ok (hN : 5000 ≤ N) (V : Valid p acc gd nd) : Ok (part_classes N p acc gd nd) fun r => Alike nd gd acc (two p) r := by
  have a1 := V.a1
  have a2 := V.a2
  unfold part_classes
  refine (rows_ok hN V).bind fun wh T => ?_
  refine Ok.ask (by omega) ?_
  refine (cls_l0_ok (N := N) V N _ 0 (by omega) (by omega) (by omega) (by simp) fun j hj => by rw [getD_rep, if_neg fun g => by omega]).bind fun c ⟨c1, c2⟩ => ?_
  refine (cls_l1_ok hN V T N c 0 ⟨c1, fun q q' h1 h2 h3 => ?_, fun q q' h1 h2 h3 => ⟨[], fun l hl => (by cases hl), ?_⟩, fun q hq => ?_, .inl rfl⟩ (by omega)).bind fun r hr => Ok.pure hr
  · rw [c2 q h1, c2 q' h2] at h3
    revert h3
    cases acc.getD q false <;> cases acc.getD q' false <;> cases acc.getD 0 false <;> simp
  · rw [c2 q h1, c2 q' h2] at h3
    show acc.getD q false ≠ acc.getD q' false
    intro h4
    rw [h4] at h3
    exact h3 rfl
  · rw [c2 q hq]
    by_cases h0 : q = 0
    · subst h0
      rw [if_neg (by simp)]
      exact ⟨by omega, cmx_nonneg _ _⟩
    · have := cmx_lt c (p := 0) (q := q) (by omega)
      have h2 := c2 0 (by omega)
      rw [if_neg (by simp)] at h2
      split <;> omega
end
end Go.V
