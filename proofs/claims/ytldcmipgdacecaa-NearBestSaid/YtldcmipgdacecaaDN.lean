/- Plain theory: what the nearest accepted trace costs, and which one it is. No program. -/
import Derived.Test.YtldcmipgdacecaaDU
set_option linter.all false
set_option linter.unusedVariables false
set_option maxRecDepth 100000
namespace Go.V
open Go Go.Proofs
/-- the least of f 0, .., f (k - 1) that is not below 0; -1: there is none -/
def bst (f : Nat → Int) : Nat → Int
  | 0 => -1
  | k + 1 => if f k < 0 then bst f k else if bst f k < 0 ∨ f k < bst f k then f k else bst f k
theorem bst_succ (f : Nat → Int) (k : Nat) : bst f (k + 1) = if f k < 0 then bst f k else if bst f k < 0 ∨ f k < bst f k then f k else bst f k := rfl
theorem bst_lo (f : Nat → Int) : ∀ k, -1 ≤ bst f k
  | 0 => by show (-1 : Int) ≤ -1; omega
  | k + 1 => by
    have ih := bst_lo f k
    rw [bst_succ]
    split
    · exact ih
    · split <;> omega
theorem bst_le {f : Nat → Int} {l : Nat} (h0 : 0 ≤ f l) : ∀ k, l < k → 0 ≤ bst f k ∧ bst f k ≤ f l
  | 0, h => by omega
  | k + 1, h => by
    rw [bst_succ]
    by_cases e : l = k
    · subst e
      rw [if_neg (by omega)]
      split <;> omega
    · have ih := bst_le h0 k (by omega)
      split
      · exact ih
      · split <;> omega
theorem bst_at {f : Nat → Int} : ∀ k, 0 ≤ bst f k → ∃ l, l < k ∧ f l = bst f k
  | 0, h => by have : (0 : Int) ≤ -1 := h; omega
  | k + 1, h => by
    rw [bst_succ] at h ⊢
    by_cases c : f k < 0
    · rw [if_pos c] at h ⊢
      obtain ⟨l, h1, h2⟩ := bst_at k h
      exact ⟨l, by omega, h2⟩
    · rw [if_neg c] at h ⊢
      by_cases c2 : bst f k < 0 ∨ f k < bst f k
      · rw [if_pos c2]; exact ⟨k, by omega, rfl⟩
      · rw [if_neg c2] at h ⊢
        obtain ⟨l, h1, h2⟩ := bst_at k h
        exact ⟨l, by omega, h2⟩
def one (c : Int) (a y : Nat) : Int := if c < 0 then -1 else c + ((pc (a ^^^ y) : Nat) : Int)
/-- what the nearest accepted trace costs from a state on; -1: there is none -/
def cst (nd : List Nd) (gd : List Int) (acc : List Bool) (L : Nat) : List Nat → Nat → Int
  | [], q => if acc.getD q false = true then 0 else -1
  | y :: u, q => bst (fun l => one (cst nd gd acc L u (stp nd gd q l)) l y) L
/-- does a trace stand ahead of another one -/
def befN : List Nat → List Nat → Bool
  | a :: xs, b :: bs => if a = b then befN xs bs else decide (a < b)
  | _, _ => false
section
variable {nd : List Nd} {gd : List Int} {acc : List Bool} {L : Nat}
theorem cst_lo : ∀ (u : List Nat) (q : Nat), -1 ≤ cst nd gd acc L u q
  | [], q => by unfold cst; split <;> omega
  | y :: u, q => by unfold cst; exact bst_lo _ _
theorem cst_hi : ∀ (u : List Nat) (q : Nat), cst nd gd acc L u q ≤ 8 * (u.length : Int)
  | [], q => by unfold cst; split <;> simp
  | y :: u, q => by
    by_cases h : cst nd gd acc L (y :: u) q < 0
    · simp only [List.length_cons]; omega
    · have h0 : 0 ≤ cst nd gd acc L (y :: u) q := by omega
      unfold cst at h0 ⊢
      obtain ⟨l, h1, h2⟩ := bst_at L h0
      rw [← h2]
      have ih := cst_hi u (stp nd gd q l)
      have hp := pc_le (l ^^^ y)
      unfold one
      simp only [List.length_cons]
      split <;> omega
theorem runT_cons (q l : Nat) (t : List Nat) : runT nd gd q (l :: t) = runT nd gd (stp nd gd q l) t := rfl
theorem cst_low : ∀ (u x : List Nat) (q : Nat), x.length = u.length → (∀ l ∈ x, l < L) → acc.getD (runT nd gd q x) false = true → 0 ≤ cst nd gd acc L u q ∧ cst nd gd acc L u q ≤ ((farN x u : Nat) : Int)
  | [], [], q, _, _, h => by
    unfold cst
    have h2 : acc.getD q false = true := h
    rw [if_pos h2]
    simp [farN]
  | [], _ :: _, _, h, _, _ => by simp at h
  | _ :: _, [], _, h, _, _ => by simp at h
  | y :: u, l :: x, q, h, hl, ha => by
    rw [runT_cons] at ha
    have ih := cst_low u x (stp nd gd q l) (by simpa using h) (fun k hk => hl k (List.mem_cons_of_mem _ hk)) ha
    have e : one (cst nd gd acc L u (stp nd gd q l)) l y = cst nd gd acc L u (stp nd gd q l) + ((pc (l ^^^ y) : Nat) : Int) := by unfold one; rw [if_neg (by omega)]
    have hb := bst_le (f := fun l => one (cst nd gd acc L u (stp nd gd q l)) l y) (l := l) (by show 0 ≤ one _ _ _; rw [e]; omega) L (hl l List.mem_cons_self)
    simp only [e] at hb
    unfold cst
    simp only [farN]
    refine ⟨hb.1, ?_⟩
    have h1 := hb.2
    have h2 := ih.2
    omega
/-- a letter that leads on as cheaply as may be -/
def Lds (nd : List Nd) (gd : List Int) (acc : List Bool) (L : Nat) (y : Nat) (u : List Nat) (q l : Nat) : Prop :=
  0 ≤ cst nd gd acc L u (stp nd gd q l) ∧ cst nd gd acc L u (stp nd gd q l) + ((pc (l ^^^ y) : Nat) : Int) = cst nd gd acc L (y :: u) q
theorem Lds.ex {y : Nat} {u : List Nat} {q : Nat} (h : 0 ≤ cst nd gd acc L (y :: u) q) : ∃ l, l < L ∧ Lds nd gd acc L y u q l := by
  have h0 := h
  unfold cst at h0
  obtain ⟨l, h1, h2⟩ := bst_at L h0
  refine ⟨l, h1, ?_⟩
  have h3 : one (cst nd gd acc L u (stp nd gd q l)) l y = cst nd gd acc L (y :: u) q := h2
  unfold one at h3
  by_cases c : cst nd gd acc L u (stp nd gd q l) < 0
  · rw [if_pos c] at h3; omega
  · rw [if_neg c] at h3
    exact ⟨by omega, h3⟩
/-- the nearest accepted trace, the first one of them -/
structure Nst (nd : List Nd) (gd : List Int) (acc : List Bool) (L : Nat) (u : List Nat) (q : Nat) (x : List Nat) : Prop where
  len : x.length = u.length
  lt : ∀ l ∈ x, l < L
  hit : acc.getD (runT nd gd q x) false = true
  far : ((farN x u : Nat) : Int) = cst nd gd acc L u q
  first : ∀ z : List Nat, z.length = u.length → (∀ l ∈ z, l < L) → acc.getD (runT nd gd q z) false = true → ((farN z u : Nat) : Int) = cst nd gd acc L u q → befN z x = false
theorem Nst.nil {q : Nat} (h : 0 ≤ cst nd gd acc L [] q) : Nst nd gd acc L [] q [] := by
  have h2 : acc.getD q false = true := by
    unfold cst at h
    by_cases c : acc.getD q false = true
    · exact c
    · rw [if_neg c] at h; omega
  refine ⟨rfl, (fun l h => by cases h), h2, ?_, fun z hz _ _ _ => ?_⟩
  · unfold cst; rw [if_pos h2]; rfl
  · cases z with
    | nil => rfl
    | cons a z => simp at hz
theorem Nst.cons {y : Nat} {u : List Nat} {q l : Nat} {x : List Nat} (hl : l < L) (h : Lds nd gd acc L y u q l) (hm : ∀ l', l' < l → ¬ Lds nd gd acc L y u q l') (N : Nst nd gd acc L u (stp nd gd q l) x) : Nst nd gd acc L (y :: u) q (l :: x) := by
  refine ⟨by simp [N.len], fun k hk => ?_, N.hit, ?_, fun z hz hzl hza hzf => ?_⟩
  · rcases List.mem_cons.1 hk with rfl | hk
    · exact hl
    · exact N.lt k hk
  · have := N.far
    rw [← h.2, ← this]
    simp only [farN]
    omega
  · cases z with
    | nil => rfl
    | cons l' z =>
      rw [runT_cons] at hza
      have hzl' : ∀ k ∈ z, k < L := fun k hk => hzl k (List.mem_cons_of_mem _ hk)
      have hlow := cst_low (L := L) u z (stp nd gd q l') (by simpa using hz) hzl' hza
      have e : one (cst nd gd acc L u (stp nd gd q l')) l' y = cst nd gd acc L u (stp nd gd q l') + ((pc (l' ^^^ y) : Nat) : Int) := by unfold one; rw [if_neg (by omega)]
      have hb := (bst_le (f := fun l => one (cst nd gd acc L u (stp nd gd q l)) l y) (l := l') (by show 0 ≤ one _ _ _; rw [e]; omega) L (hzl l' List.mem_cons_self)).2
      have hb2 : cst nd gd acc L (y :: u) q ≤ cst nd gd acc L u (stp nd gd q l') + ((pc (l' ^^^ y) : Nat) : Int) := by rw [← e]; exact hb
      simp only [farN] at hzf
      have h1 := hlow.1
      have h2 := hlow.2
      have hL : Lds nd gd acc L y u q l' := ⟨h1, by omega⟩
      have hge : ¬ l' < l := fun c => hm l' c hL
      show (if l' = l then befN z x else decide (l' < l)) = false
      by_cases c : l' = l
      · subst c
        rw [if_pos rfl]
        refine N.first z (by simpa using hz) hzl' hza ?_
        have := h.2
        omega
      · rw [if_neg c]
        exact decide_eq_false hge
end
theorem getD_mp {t : List Nat} {x : Nat} (ha : x < t.length) : (t.map fun l : Nat => (l : Int)).getD x 0 = ((t.getD x 0 : Nat) : Int) := by
  rw [List.getD_eq_getElem?_getD, List.getD_eq_getElem?_getD, List.getElem?_map, List.getElem?_eq_getElem ha]
  rfl
section
variable {N : Nat} {p : Int} {acc : List Bool} {gd : List Int} {nd : List Nd} {wh : List (List Int)}
/-! ### the table of costs -/
abbrev fF (nd : List Nd) (gd : List Int) (acc : List Bool) (L : Nat) (t : List Nat) (i q : Nat) : Nat → Int := fun l => one (cst nd gd acc L (t.drop (i + 1)) (stp nd gd q l)) l (t.getD i 0)
theorem cst_drop {L : Nat} {t : List Nat} {i q : Nat} (hi : i < t.length) : cst nd gd acc L (t.drop i) q = bst (fF nd gd acc L t i q) L := by
  rw [dropD hi]
  rfl
theorem costs_l3_ok (hN : 5000 ≤ N) (V : Valid p acc gd nd) (T : Tab nd gd acc.length (two p) wh) {t : List Nat} (ht8 : ∀ l ∈ t, l < 256) (htl : t.length ≤ 1024) {out : List (List Int)} {i q : Nat} (hi : i < t.length) (hq : q < acc.length) (ol : i + 1 < out.length) (orow : (out.getD (i + 1) []).length = acc.length)
    (hr : ∀ k, k < acc.length → (out.getD (i + 1) []).getD k 0 = cst nd gd acc (two p) (t.drop (i + 1)) k) : ∀ (m x : Nat), x ≤ two p → two p - x < m →
    near_costs_l3 N (t.map fun l : Nat => (l : Int)) wh (i : Int) out (q : Int) m (bst (fF nd gd acc (two p) t i q) x) (x : Int) = some (bst (fF nd gd acc (two p) t i q) (two p))
  | 0, x, _, h => by omega
  | m + 1, x, k0, k1 => by
    have sh := shl_two ⟨V.p0, V.p8⟩
    have a2 := V.a2
    unfold near_costs_l3
    simp only [Int.toNat_natCast]
    rw [T.row q hq]
    by_cases hx : (x : Int) < ((two p : Nat) : Int)
    · have hx' : x < two p := by omega
      have hs := (stp_eq V hq x).2
      have hlen := T.len
      have ei : ((i : Int) + 1) = ((i + 1 : Nat) : Int) := by omega
      rw [if_pos hx, ei, T.at_ q x hq hx']
      simp only [Int.toNat_natCast]
      rw [hr _ hs, List.length_map]
      unfold ask
      rw [if_pos (by unfold idx; omega), if_pos (by unfold in64; omega), if_pos (by unfold idx; omega), if_pos (by unfold idx; omega)]
      have hhi := cst_hi (nd := nd) (gd := gd) (acc := acc) (L := two p) (t.drop (i + 1)) (stp nd gd q x)
      rw [List.length_drop] at hhi
      have hpc := pc_le (x ^^^ t.getD i 0)
      have ih := costs_l3_ok hN V T ht8 htl hi hq ol orow hr m (x + 1) (by omega) (by omega)
      have ex : ((x : Int) + 1) = ((x + 1 : Nat) : Int) := by omega
      have hf : fF nd gd acc (two p) t i q x = one (cst nd gd acc (two p) (t.drop (i + 1)) (stp nd gd q x)) x (t.getD i 0) := rfl
      have hsucc := bst_succ (fF nd gd acc (two p) t i q) x
      by_cases h0 : cst nd gd acc (two p) (t.drop (i + 1)) (stp nd gd q x) < 0
      · rw [if_pos h0, if_pos (by unfold in64; omega), ex]
        have e : bst (fF nd gd acc (two p) t i q) (x + 1) = bst (fF nd gd acc (two p) t i q) x := by
          rw [hsucc, hf]
          unfold one
          rw [if_pos h0, if_pos (by omega)]
        rw [← e, ih]
      · have e1 : fF nd gd acc (two p) t i q x = cst nd gd acc (two p) (t.drop (i + 1)) (stp nd gd q x) + ((pc (x ^^^ t.getD i 0) : Nat) : Int) := by rw [hf]; unfold one; rw [if_neg h0]
        rw [if_neg (show ¬ fF nd gd acc (two p) t i q x < 0 by rw [e1]; omega), e1] at hsucc
        rw [if_neg h0, if_pos (by unfold idx; omega), getD_mp hi, show IntKind.u8.wrap (x : Int) = (x : Int) from wrap_u8 (by omega) (by omega), unlike_ok (by omega) (getD_lt ht8 hi), Option.bind_some, if_pos (by unfold in64; omega)]
        have hin : in64 ((x : Int) + 1) := by unfold in64; omega
        by_cases b0 : bst (fF nd gd acc (two p) t i q) x < 0
        · rw [if_pos (Or.inl b0)] at hsucc
          rw [if_pos b0, if_pos hin, ex, ← hsucc, ih]
        · rw [if_neg b0]
          by_cases b1 : cst nd gd acc (two p) (t.drop (i + 1)) (stp nd gd q x) + ((pc (x ^^^ t.getD i 0) : Nat) : Int) < bst (fF nd gd acc (two p) t i q) x
          · rw [if_pos (Or.inr b1)] at hsucc
            rw [if_pos b1, if_pos hin, ex, ← hsucc, ih]
          · rw [if_neg (fun h => h.elim b0 b1)] at hsucc
            rw [if_neg b1, if_pos hin, ex, ← hsucc, ih]
    · have e : x = two p := by omega
      subst e
      rw [if_neg hx]
/-- the table's form -/
def Shp (out : List (List Int)) (T n : Nat) : Prop := out.length = T + 1 ∧ ∀ i, i ≤ T → (out.getD i []).length = n
theorem Shp.set {out : List (List Int)} {T n i q : Nat} {v : Int} (h : Shp out T n) (hi : i ≤ T) : Shp (out.set i ((out.getD i []).set q v)) T n := by
  refine ⟨by rw [List.length_set]; exact h.1, fun j hj => ?_⟩
  rw [getD_set (by have := h.1; omega)]
  split
  · rw [List.length_set]; exact h.2 i hi
  · exact h.2 j hj
theorem Shp.at {out : List (List Int)} {T n i q j k : Nat} {v : Int} (h : Shp out T n) (hi : i ≤ T) (hq : q < n) : ((out.set i ((out.getD i []).set q v)).getD j []).getD k 0 = if i = j ∧ q = k then v else (out.getD j []).getD k 0 := by
  rw [getD_set (by have := h.1; omega)]
  by_cases c : i = j
  · subst c
    rw [if_pos rfl, getD_set (by rw [h.2 i hi]; exact hq)]
    by_cases c2 : q = k
    · rw [if_pos c2, if_pos ⟨rfl, c2⟩]
    · rw [if_neg c2, if_neg (fun h => c2 h.2)]
  · rw [if_neg c, if_neg (fun h => c h.1)]
/-- a row that is right -/
def Rgt (nd : List Nd) (gd : List Int) (acc : List Bool) (L : Nat) (t : List Nat) (out : List (List Int)) (i : Nat) : Prop := ∀ q, q < acc.length → (out.getD i []).getD q 0 = cst nd gd acc L (t.drop i) q
theorem costs_l0_ok (hN : 5000 ≤ N) (V : Valid p acc gd nd) {t : List Nat} (htl : t.length ≤ 1024) : ∀ (m x : Nat) (out : List (List Int)), x ≤ acc.length → acc.length - x < m → Shp out t.length acc.length → (∀ q, q < acc.length → (out.getD t.length []).getD q 0 = if q < x then cst nd gd acc (two p) [] q else 0) →
    Ok (near_costs_l0 N acc (t.map fun l : Nat => (l : Int)) m out (x : Int)) fun r => Shp r t.length acc.length ∧ Rgt nd gd acc (two p) t r t.length
  | 0, x, out, _, h, _, _ => by omega
  | m + 1, x, out, k0, k1, hS, hv => by
    have a2 := V.a2
    unfold near_costs_l0
    simp only [Int.toNat_natCast, List.length_map]
    have ex : ((x : Int) + 1) = ((x + 1 : Nat) : Int) := by omega
    by_cases hx : (x : Int) < ((acc.length : Nat) : Int)
    · rw [if_pos hx, ex]
      have hxa : x < acc.length := by omega
      refine Ok.ask (by unfold idx; omega) ?_
      by_cases ha : acc.getD x false = true
      · rw [if_pos ha]
        refine Ok.ask (by unfold in64; omega) (costs_l0_ok hN V htl m (x + 1) out (by omega) (by omega) hS fun q hq => ?_)
        rw [hv q hq]
        by_cases c : q < x
        · rw [if_pos c, if_pos (by omega)]
        · by_cases c2 : q = x
          · subst c2
            rw [if_neg c, if_pos (by omega)]
            unfold cst
            rw [if_pos ha]
          · rw [if_neg c, if_neg (by omega)]
      · rw [if_neg ha]
        have hl := hS.1
        have hr := hS.2 t.length (Nat.le_refl _)
        refine Ok.ask (by unfold idx; omega) (Ok.ask (by unfold idx; omega) (Ok.ask (by unfold in64; omega) (costs_l0_ok hN V htl m (x + 1) _ (by omega) (by omega) (hS.set (Nat.le_refl _)) fun q hq => ?_)))
        rw [hS.at (Nat.le_refl _) hxa, hv q hq]
        by_cases c2 : x = q
        · subst c2
          rw [if_pos ⟨rfl, rfl⟩, if_pos (by omega)]
          unfold cst
          rw [if_neg ha]
        · rw [if_neg (fun h => c2 h.2)]
          by_cases c : q < x
          · rw [if_pos c, if_pos (by omega)]
          · rw [if_neg c, if_neg (by omega)]
    · rw [if_neg hx]
      refine Ok.pure ⟨hS, fun q hq => ?_⟩
      rw [hv q hq, if_pos (by omega), List.drop_length]
theorem costs_l2_ok (hN : 5000 ≤ N) (V : Valid p acc gd nd) (T : Tab nd gd acc.length (two p) wh) {t : List Nat} (ht8 : ∀ l ∈ t, l < 256) (htl : t.length ≤ 1024) {i : Nat} (hi : i < t.length) : ∀ (m x : Nat) (out : List (List Int)), x ≤ acc.length → acc.length - x < m → Shp out t.length acc.length →
    (∀ j, i < j → j ≤ t.length → Rgt nd gd acc (two p) t out j) → (∀ q, q < x → (out.getD i []).getD q 0 = cst nd gd acc (two p) (t.drop i) q) →
    Ok (near_costs_l2 N acc (t.map fun l : Nat => (l : Int)) wh (i : Int) m out (x : Int)) fun r => Shp r t.length acc.length ∧ ∀ j, i ≤ j → j ≤ t.length → Rgt nd gd acc (two p) t r j
  | 0, x, out, _, h, _, _, _ => by omega
  | m + 1, x, out, k0, k1, hS, hv, hw => by
    have a2 := V.a2
    have sh := shl_two ⟨V.p0, V.p8⟩
    unfold near_costs_l2
    have ex : ((x : Int) + 1) = ((x + 1 : Nat) : Int) := by omega
    by_cases hx : (x : Int) < ((acc.length : Nat) : Int)
    · have hxa : x < acc.length := by omega
      have hlen := T.len
      have hl := hS.1
      have hr := hS.2 i (by omega)
      have h3 := costs_l3_ok hN V T ht8 htl hi hxa (out := out) (by omega) (hS.2 (i + 1) (by omega)) (hv (i + 1) (by omega) (by omega)) N 0 (by omega) (by omega)
      have h3' : near_costs_l3 N (t.map fun l : Nat => (l : Int)) wh (i : Int) out (x : Int) N (-1) 0 = some (bst (fF nd gd acc (two p) t i x) (two p)) := h3
      rw [if_pos hx, ex, h3', Option.bind_some]
      simp only [Int.toNat_natCast]
      refine Ok.ask (by unfold idx; omega) (Ok.ask (by unfold idx; omega) (Ok.ask (by unfold idx; omega) (Ok.ask (by unfold in64; omega) (costs_l2_ok hN V T ht8 htl hi m (x + 1) _ (by omega) (by omega) (hS.set (by omega)) (fun j hj hj2 q hq => ?_) fun q hq => ?_))))
      · rw [hS.at (by omega) hxa, if_neg (fun h => by omega)]
        exact hv j hj hj2 q hq
      · rw [hS.at (by omega) hxa]
        by_cases c : x = q
        · subst c
          rw [if_pos ⟨rfl, rfl⟩, cst_drop hi]
        · rw [if_neg (fun h => c h.2)]
          exact hw q (by omega)
    · rw [if_neg hx]
      refine Ok.pure ⟨hS, fun j hj hj2 q hq => ?_⟩
      by_cases c : i = j
      · subst c
        exact hw q (by omega)
      · exact hv j (by omega) hj2 q hq
theorem costs_l1_ok (hN : 5000 ≤ N) (V : Valid p acc gd nd) (T : Tab nd gd acc.length (two p) wh) {t : List Nat} (ht8 : ∀ l ∈ t, l < 256) (htl : t.length ≤ 1024) : ∀ (m k : Nat) (out : List (List Int)), k ≤ t.length → k < m → Shp out t.length acc.length →
    (∀ j, k ≤ j → j ≤ t.length → Rgt nd gd acc (two p) t out j) → Ok (near_costs_l1 N acc (t.map fun l : Nat => (l : Int)) wh m out ((k : Int) - 1)) fun r => Shp r t.length acc.length ∧ ∀ j, j ≤ t.length → Rgt nd gd acc (two p) t r j
  | 0, k, out, _, h, _, _ => by omega
  | m + 1, 0, out, k0, k1, hS, hv => by
    unfold near_costs_l1
    rw [if_neg (by omega)]
    exact Ok.pure ⟨hS, fun j hj => hv j (by omega) hj⟩
  | m + 1, k + 1, out, k0, k1, hS, hv => by
    unfold near_costs_l1
    have ek : (((k + 1 : Nat) : Int) - 1) = (k : Int) := by omega
    have a2 := V.a2
    rw [ek, if_pos (by omega)]
    have h2 := costs_l2_ok hN V T ht8 htl (i := k) (by omega) N 0 out (by omega) (by omega) hS (fun j hj hj2 => hv j (by omega) hj2) (fun q hq => by omega)
    refine Ok.bind h2 fun r hr => Ok.ask (by unfold in64; omega) ?_
    exact costs_l1_ok hN V T ht8 htl m k r (by omega) (by omega) hr.1 hr.2
theorem costs_ok (hN : 5000 ≤ N) (V : Valid p acc gd nd) (T : Tab nd gd acc.length (two p) wh) {t : List Nat} (ht8 : ∀ l ∈ t, l < 256) (htl : t.length ≤ 1024) : Ok (near_costs N p acc gd nd (t.map fun l : Nat => (l : Int)) wh) fun r => Shp r t.length acc.length ∧ ∀ j, j ≤ t.length → Rgt nd gd acc (two p) t r j := by
  have a2 := V.a2
  unfold near_costs near_made_int
  simp only [List.length_map]
  have hm : (t.length + 1) * acc.length ≤ 1025 * 1000 := Nat.mul_le_mul (by omega) (by omega)
  have hm2 : ((t.length : Int) + 1) * ((acc.length : Nat) : Int) = (((t.length + 1) * acc.length : Nat) : Int) := by rw [Int.natCast_mul]; rfl
  refine Ok.ask (by unfold in64; omega) ?_
  unfold ask
  rw [if_pos ⟨by omega, by omega, by rw [hm2]; omega⟩, Option.bind_some]
  have eT : ((t.length : Int) + 1).toNat = t.length + 1 := by omega
  rw [eT, Int.toNat_natCast]
  have hS : Shp (List.replicate (t.length + 1) (List.replicate acc.length (0 : Int))) t.length acc.length := ⟨by simp, fun i hi => by
    rw [List.getD_eq_getElem?_getD, List.getElem?_replicate, if_pos (by omega)]
    simp⟩
  refine Ok.bind (costs_l0_ok hN V htl N 0 _ (by omega) (by omega) hS fun q hq => ?_) fun r hr => ?_
  · rw [List.getD_eq_getElem?_getD (l := List.replicate (t.length + 1) _), List.getElem?_replicate, if_pos (by omega), if_neg (by omega)]
    exact getD_rep
  · rw [if_pos (by unfold in64; omega)]
    refine Ok.bind (costs_l1_ok hN V T ht8 htl N t.length r (by omega) (by omega) hr.1 fun j hj hj2 => ?_) fun r2 hr2 => Ok.pure hr2
    obtain rfl : j = t.length := by omega
    exact hr.2
/-! ### rows of where letters lead -/
theorem tables_l0_ok (hN : 5000 ≤ N) (V : Valid p acc gd nd) : ∀ (m x : Nat) (out : List (List Int)), x ≤ acc.length → gd.length - x < m → out.length = x → (∀ q, q < x → (out.getD q []).length = two p ∧ ∀ l, l < two p → (out.getD q []).getD l 0 = (stp nd gd q l : Int)) →
    Ok (near_tables_l0 N p gd nd m out (x : Int)) fun r => Tab nd gd acc.length (two p) r
  | 0, x, out, _, h, _, _ => by omega
  | m + 1, x, out, k0, k1, hl, hv => by
    have a2 := V.a2
    have gl := V.gl
    unfold near_tables_l0
    have ex : ((x : Int) + 1) = ((x + 1 : Nat) : Int) := by omega
    by_cases hx : (x : Int) < ((gd.length : Nat) : Int)
    · rw [if_pos hx, ex, Int.toNat_natCast]
      refine Ok.ask (by unfold idx; omega) ((Table_ok hN V (q := x) (by omega)).bind fun r hr => Ok.ask (by simp; omega) (Ok.ask (by unfold in64; omega) ?_))
      refine tables_l0_ok hN V m (x + 1) _ (by omega) (by omega) (by simp; omega) fun q hq => ?_
      rw [getD_snoc]
      by_cases c : q = out.length
      · rw [if_pos c]
        obtain rfl : q = x := by omega
        exact hr.2
      · rw [if_neg c]
        exact hv q (by omega)
    · rw [if_neg hx]
      obtain rfl : x = acc.length := by omega
      exact Ok.pure ⟨hl, fun q hq => (hv q hq).1, fun q l hq h => (hv q hq).2 l h⟩
theorem tables_ok (hN : 5000 ≤ N) (V : Valid p acc gd nd) : Ok (near_tables N p acc gd nd) fun r => Tab nd gd acc.length (two p) r := by
  have a2 := V.a2
  have gl := V.gl
  unfold near_tables
  exact (tables_l0_ok hN V N 0 [] (by omega) (by omega) rfl fun q hq => by omega).bind fun r hr => Ok.pure hr
/-! ### the nearest trace -/
theorem Near_l1_ok (hN : 5000 ≤ N) (V : Valid p acc gd nd) (T : Tab nd gd acc.length (two p) wh) {t : List Nat} (ht8 : ∀ l ∈ t, l < 256) (htl : t.length ≤ 1024) {r : List (List Int)} (hS : Shp r t.length acc.length) (hR : ∀ j, j ≤ t.length → Rgt nd gd acc (two p) t r j) {x q : Nat} (hx : x < t.length) (hq : q < acc.length)
    (h0 : 0 ≤ cst nd gd acc (two p) (t.drop x) q) {out : List Int} (hol : out.length ≤ 2000) : ∀ (m l : Nat), l ≤ two p → two p - l < m → (∀ l', l' < l → ¬ Lds nd gd acc (two p) (t.getD x 0) (t.drop (x + 1)) q l') →
    ∃ l0, l0 < two p ∧ Lds nd gd acc (two p) (t.getD x 0) (t.drop (x + 1)) q l0 ∧ (∀ l', l' < l0 → ¬ Lds nd gd acc (two p) (t.getD x 0) (t.drop (x + 1)) q l') ∧
      near_Near_l1 N (t.map fun l : Nat => (l : Int)) wh r out (q : Int) (x : Int) m (l : Int) = some (out ++ [(l0 : Int)], ((stp nd gd q l0 : Nat) : Int))
  | 0, l, _, h, _ => by omega
  | m + 1, l, k0, k1, hno => by
    have a2 := V.a2
    have sh := shl_two ⟨V.p0, V.p8⟩
    have hlen := T.len
    have hl1 := hS.1
    have hl2 := hS.2 (x + 1) (by omega)
    have hl3 := hS.2 x (by omega)
    have hd : cst nd gd acc (two p) (t.drop x) q = cst nd gd acc (two p) (t.getD x 0 :: t.drop (x + 1)) q := by rw [dropD hx]
    have hlt : l < two p := by
      refine Classical.byContradiction fun c => ?_
      obtain ⟨l', h1, h2⟩ := Lds.ex (nd := nd) (gd := gd) (acc := acc) (L := two p) (y := t.getD x 0) (u := t.drop (x + 1)) (q := q) (by rw [← hd]; exact h0)
      exact hno l' (by omega) h2
    have hs := (stp_eq V hq l).2
    have ex : ((x : Int) + 1) = ((x + 1 : Nat) : Int) := by omega
    have el : ((l : Int) + 1) = ((l + 1 : Nat) : Int) := by omega
    have hhi := cst_hi (nd := nd) (gd := gd) (acc := acc) (L := two p) (t.drop (x + 1)) (stp nd gd q l)
    rw [List.length_drop] at hhi
    have hlo := cst_lo (nd := nd) (gd := gd) (acc := acc) (L := two p) (t.drop (x + 1)) (stp nd gd q l)
    have hpc := pc_le (l ^^^ t.getD x 0)
    have hin : in64 ((l : Int) + 1) := by unfold in64; omega
    have hw : IntKind.u8.wrap (l : Int) = (l : Int) := wrap_u8 (by omega) (by omega)
    by_cases hL : Lds nd gd acc (two p) (t.getD x 0) (t.drop (x + 1)) q l
    · refine ⟨l, hlt, hL, hno, ?_⟩
      unfold near_Near_l1
      rw [Int.toNat_natCast q, Int.toNat_natCast l, Int.toNat_natCast x, T.row q hq, if_pos (by omega), ex, T.at_ q l hq hlt]
      rw [Int.toNat_natCast (stp nd gd q l), Int.toNat_natCast (x + 1), hR (x + 1) (by omega) _ hs, List.length_map]
      unfold ask
      rw [if_pos (by unfold idx; omega), if_pos (by unfold in64; omega), if_pos (by unfold idx; omega), if_pos (by unfold idx; omega)]
      rw [if_pos hL.1, if_pos (by unfold idx; omega), getD_mp hx, hw, unlike_ok (by omega) (getD_lt ht8 hx), Option.bind_some, if_pos (by unfold in64; omega), if_pos (by unfold idx; omega), if_pos (by unfold idx; omega), hR x (by omega) q hq, hd, if_pos hL.2, if_pos (by simp; omega)]
    · obtain ⟨l0, i1, i2, i3, i4⟩ := Near_l1_ok hN V T ht8 htl hS hR hx hq h0 hol m (l + 1) (by omega) (by omega) fun l' hl' => by
        by_cases c : l' = l
        · rw [c]; exact hL
        · exact hno l' (by omega)
      refine ⟨l0, i1, i2, i3, ?_⟩
      unfold near_Near_l1
      rw [Int.toNat_natCast q, Int.toNat_natCast l, Int.toNat_natCast x, T.row q hq, if_pos (by omega), ex, T.at_ q l hq hlt]
      rw [Int.toNat_natCast (stp nd gd q l), Int.toNat_natCast (x + 1), hR (x + 1) (by omega) _ hs, List.length_map]
      unfold ask
      rw [if_pos (by unfold idx; omega), if_pos (by unfold in64; omega), if_pos (by unfold idx; omega), if_pos (by unfold idx; omega)]
      by_cases c0 : 0 ≤ cst nd gd acc (two p) (t.drop (x + 1)) (stp nd gd q l)
      · rw [if_pos c0, if_pos (by unfold idx; omega), getD_mp hx, hw, unlike_ok (by omega) (getD_lt ht8 hx), Option.bind_some, if_pos (by unfold in64; omega), if_pos (by unfold idx; omega), if_pos (by unfold idx; omega), hR x (by omega) q hq, hd, if_neg (fun h => hL ⟨c0, h⟩), if_pos hin, el, i4]
      · rw [if_neg c0, if_pos hin, el, i4]
theorem Near_l0_ok (hN : 5000 ≤ N) (V : Valid p acc gd nd) (T : Tab nd gd acc.length (two p) wh) {t : List Nat} (ht8 : ∀ l ∈ t, l < 256) (htl : t.length ≤ 1024) {r : List (List Int)} (hS : Shp r t.length acc.length) (hR : ∀ j, j ≤ t.length → Rgt nd gd acc (two p) t r j) : ∀ (m x q : Nat) (out : List Int), x ≤ t.length → t.length - x < m → q < acc.length → out.length = x →
    0 ≤ cst nd gd acc (two p) (t.drop x) q → ∃ y : List Nat, near_Near_l0 N (t.map fun l : Nat => (l : Int)) wh r m out (q : Int) (x : Int) = some (out ++ y.map fun l : Nat => (l : Int)) ∧ Nst nd gd acc (two p) (t.drop x) q y
  | 0, x, q, out, _, h, _, _, _ => by omega
  | m + 1, x, q, out, k0, k1, hq, hl, h0 => by
    have a2 := V.a2
    have sh := shl_two ⟨V.p0, V.p8⟩
    have hlen := T.len
    unfold near_Near_l0
    rw [List.length_map]
    by_cases hx : (x : Int) < ((t.length : Nat) : Int)
    · have hxt : x < t.length := by omega
      obtain ⟨l, h1, h2, h3, h4⟩ := Near_l1_ok hN V T ht8 htl hS hR hxt hq h0 (out := out) (by omega) N 0 (by omega) (by omega) fun l' hl' => by omega
      have h4' : near_Near_l1 N (t.map fun l : Nat => (l : Int)) wh r out (q : Int) (x : Int) N 0 = some (out ++ [(l : Int)], ((stp nd gd q l : Nat) : Int)) := h4
      have hs := (stp_eq V hq l).2
      obtain ⟨y, h5, h6⟩ := Near_l0_ok hN V T ht8 htl hS hR m (x + 1) (stp nd gd q l) (out ++ [(l : Int)]) (by omega) (by omega) hs (by simp; omega) h2.1
      refine ⟨l :: y, ?_, ?_⟩
      · unfold ask
        rw [if_pos hx, if_pos (by unfold idx; omega), h4', Option.bind_some, if_pos (by unfold in64; omega)]
        show near_Near_l0 N (t.map fun l : Nat => (l : Int)) wh r m (out ++ [(l : Int)]) ((stp nd gd q l : Nat) : Int) ((x : Int) + 1) = _
        rw [show ((x : Int) + 1) = ((x + 1 : Nat) : Int) by omega, h5, List.map_cons, List.append_assoc]
        rfl
      · rw [dropD hxt]
        exact Nst.cons h1 h2 h3 h6
    · rw [if_neg hx]
      have e : t.drop x = [] := List.drop_eq_nil_of_le (by omega)
      rw [e] at h0 ⊢
      exact ⟨[], by rw [List.map_nil, List.append_nil], Nst.nil h0⟩
theorem Near_ok (hN : 5000 ≤ N) (V : Valid p acc gd nd) (hC : guard_Check N p acc gd nd = some 0) {t : List Nat} (ht : ∀ l ∈ t, l < two p) (htl : t.length ≤ 1024) :
    (cst nd gd acc (two p) t 0 < 0 ∧ near_Near N p acc gd nd (t.map fun l : Nat => (l : Int)) = some ([], 0, false, 0)) ∨
    ∃ y : List Nat, 0 ≤ cst nd gd acc (two p) t 0 ∧ near_Near N p acc gd nd (t.map fun l : Nat => (l : Int)) = some (y.map fun l : Nat => (l : Int), cst nd gd acc (two p) t 0, true, 0) ∧ Nst nd gd acc (two p) t 0 y := by
  have a1 := V.a1
  have sh := shl_two ⟨V.p0, V.p8⟩
  have ht8 : ∀ l ∈ t, l < 256 := fun l hl => by have := ht l hl; omega
  obtain ⟨wh, e1, T⟩ := tables_ok (N := N) hN V
  obtain ⟨r, e2, hS, hR⟩ := costs_ok (N := N) hN V T ht8 htl
  have hl := hS.1
  have hl0 := hS.2 0 (by omega)
  have e3 : (r.getD 0 []).getD 0 0 = cst nd gd acc (two p) t 0 := hR 0 (by omega) 0 (by omega)
  unfold near_Near near_asked
  rw [hC, Option.bind_some, if_pos rfl, Trace_ok hN ⟨V.p0, V.p8⟩ ht htl, Option.bind_some, Option.bind_some, if_pos rfl, e1, Option.bind_some, e2, Option.bind_some]
  unfold ask
  simp only [Int.toNat_zero]
  rw [if_pos (by unfold idx; omega), if_pos (by unfold idx; omega), e3]
  by_cases c : cst nd gd acc (two p) t 0 < 0
  · rw [if_pos c]
    exact .inl ⟨c, rfl⟩
  · rw [if_neg c]
    obtain ⟨y, h5, h6⟩ := Near_l0_ok hN V T ht8 htl hS hR N 0 0 [] (by omega) (by omega) (by omega) rfl (by rw [List.drop_zero]; omega)
    have h5' : near_Near_l0 N (t.map fun l : Nat => (l : Int)) wh r N [] 0 0 = some ([] ++ y.map fun l : Nat => (l : Int)) := h5
    rw [h5', Option.bind_some]
    rw [List.drop_zero] at h6
    exact .inr ⟨y, by omega, rfl, h6⟩
end
end Go.V
