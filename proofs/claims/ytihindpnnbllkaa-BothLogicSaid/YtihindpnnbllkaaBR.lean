/- Plain theory: classes of places, by texts that sign them. No program. -/
import Derived.Test.YtihindpnnbllkaaBM
set_option linter.all false
set_option linter.unusedVariables false
set_option maxRecDepth 100000
namespace Go.V
open Go

/-! ### numbers in the order of their first use, by any key -/
structure NumK {κ : Type} [DecidableEq κ] (sgf : Nat → κ) (a : List Int) (nm : List (κ × Int)) (nx : List Int) (x : Nat) : Prop where
  get : ∀ q, q < x → mget nm (sgf q) = some (nx.getD q 0)
  key : ∀ k v, mget nm k = some v → ∃ q, q < x ∧ sgf q = k
  inj : ∀ q q', q < x → q' < x → nx.getD q 0 = nx.getD q' 0 → sgf q = sgf q'
  len : (nm.length : Int) = cmx nx x
  first : First nx x
  up : cmx a x ≤ cmx nx x
  same : cmx a x = cmx nx x → ∀ q, q < x → nx.getD q 0 = a.getD q 0
section
variable {κ : Type} [DecidableEq κ] {sgf : Nat → κ} {a : List Int} {nm : List (κ × Int)} {nx : List Int} {x : Nat}
theorem NumK.start : NumK sgf a [] nx 0 := ⟨fun q h => by omega, fun k v h => (by cases h), fun q q' h => by omega, rfl, fun q h => by omega, Int.le_refl _, fun _ q h => by omega⟩
theorem NumK.old (I : NumK sgf a nm nx x) (hx : x < nx.length) {v : Int} (hgv : mget nm (sgf x) = some v) (hag : ∀ q q', q ≤ x → q' ≤ x → sgf q = sgf q' → a.getD q 0 = a.getD q' 0) : NumK sgf a nm (nx.set x v) (x + 1) := by
  have hlen := I.len
  have cstep : cmx a (x + 1) = if cmx a x ≤ a.getD x 0 then a.getD x 0 + 1 else cmx a x := rfl
  obtain ⟨q, hq, hqs⟩ := I.key _ _ hgv
  have hvq : v = nx.getD q 0 := by
    have := I.get q hq
    rw [hqs, hgv] at this
    exact Option.some.inj this
  have hag := hag q x (by omega) (by omega) hqs
  have hset : ∀ j, (nx.set x v).getD j 0 = if x = j then v else nx.getD j 0 := fun j => getD_set hx
  have hold : ∀ j, j < x → (nx.set x v).getD j 0 = nx.getD j 0 := fun j hj => by rw [hset, if_neg (by omega)]
  have hnew : (nx.set x v).getD x 0 = v := by rw [hset, if_pos rfl]
  have hcx : cmx (nx.set x v) x = cmx nx x := cmx_congr _ _ x hold
  have hlt := cmx_lt nx hq
  have hlta := cmx_lt a hq
  have hc1 : cmx (nx.set x v) (x + 1) = cmx nx x := by
    show (if cmx (nx.set x v) x ≤ (nx.set x v).getD x 0 then (nx.set x v).getD x 0 + 1 else cmx (nx.set x v) x) = _
    rw [hnew, hcx, if_neg (by omega)]
  have hca : cmx a (x + 1) = cmx a x := by rw [cstep, if_neg (by omega)]
  refine ⟨fun j hj => ?_, fun k u h => ?_, fun j j' hj hj' h => ?_, by rw [hc1]; exact hlen, fun j hj => ?_, by rw [hc1, hca]; exact I.up, fun h j hj => ?_⟩
  · by_cases c : j = x
    · subst c; rw [hnew]; exact hgv
    · rw [hold j (by omega)]; exact I.get j (by omega)
  · obtain ⟨j, hj, h2⟩ := I.key k u h
    exact ⟨j, by omega, h2⟩
  · have red : ∀ j, j < x + 1 → ∃ i, i < x ∧ (nx.set x v).getD j 0 = nx.getD i 0 ∧ sgf j = sgf i := fun j hj => by
      by_cases c : j = x
      · subst c; exact ⟨q, hq, by rw [hnew, hvq], hqs.symm⟩
      · exact ⟨j, by omega, hold j (by omega), rfl⟩
    obtain ⟨i, hi, e3, e4⟩ := red j hj
    obtain ⟨i', hi', e5, e6⟩ := red j' hj'
    rw [e4, e6]
    exact I.inj i i' hi hi' (by rw [← e3, ← e5]; exact h)
  · by_cases c : j = x
    · subst c
      rw [hnew, hcx, hvq]
      exact ⟨(I.first q hq).1, by omega⟩
    · rw [hold j (by omega), cmx_congr (nx.set x v) nx j fun i hi => hold i (by omega)]
      exact I.first j (by omega)
  · rw [hc1, hca] at h
    by_cases c : j = x
    · subst c
      rw [hnew, hvq, I.same h q hq, hag]
    · rw [hold j (by omega)]
      exact I.same h j (by omega)
theorem NumK.new (I : NumK sgf a nm nx x) (hx : x < nx.length) (fx : 0 ≤ a.getD x 0 ∧ a.getD x 0 ≤ cmx a x) (hgn : mget nm (sgf x) = none) : NumK sgf a (nm ++ [(sgf x, ((nm.length : Nat) : Int))]) (nx.set x ((nm.length : Nat) : Int)) (x + 1) := by
  have hlen := I.len
  have cle := cmx_nonneg nx x
  have cstep : cmx a (x + 1) = if cmx a x ≤ a.getD x 0 then a.getD x 0 + 1 else cmx a x := rfl
  generalize hv2 : ((nm.length : Nat) : Int) = v at *
  have hset : ∀ j, (nx.set x v).getD j 0 = if x = j then v else nx.getD j 0 := fun j => getD_set hx
  have hold : ∀ j, j < x → (nx.set x v).getD j 0 = nx.getD j 0 := fun j hj => by rw [hset, if_neg (by omega)]
  have hnew : (nx.set x v).getD x 0 = v := by rw [hset, if_pos rfl]
  have hcx : cmx (nx.set x v) x = cmx nx x := cmx_congr _ _ x hold
  have hc1 : cmx (nx.set x v) (x + 1) = cmx nx x + 1 := by
    show (if cmx (nx.set x v) x ≤ (nx.set x v).getD x 0 then (nx.set x v).getD x 0 + 1 else cmx (nx.set x v) x) = _
    rw [hnew, hcx, if_pos (by omega)]
    omega
  have up := I.up
  have hca : cmx a (x + 1) ≤ cmx a x + 1 := by rw [cstep]; split <;> omega
  refine ⟨fun j hj => ?_, fun k u h => ?_, fun j j' hj hj' h => ?_, by rw [hc1, List.length_append]; simp; omega, fun j hj => ?_, by rw [hc1]; omega, fun h j hj => ?_⟩
  · by_cases c : j = x
    · subst c; rw [hnew, mget_app_none hgn, if_pos rfl]
    · rw [hold j (by omega)]; exact mget_app_some (I.get j (by omega))
  · rw [mget_app] at h
    cases h2 : mget nm k with
    | some u2 =>
      obtain ⟨j, hj, h3⟩ := I.key k u2 h2
      exact ⟨j, by omega, h3⟩
    | none =>
      rw [h2] at h
      by_cases c : sgf x = k
      · exact ⟨x, by omega, c⟩
      · simp only [if_neg c] at h
        cases h
  · by_cases c : j = x
    · by_cases c' : j' = x
      · rw [c, c']
      · subst c
        rw [hnew, hold j' (by omega)] at h
        have := cmx_lt nx (p := j') (q := j) (by omega)
        omega
    · by_cases c' : j' = x
      · subst c'
        rw [hnew, hold j (by omega)] at h
        have := cmx_lt nx (p := j) (q := j') (by omega)
        omega
      · rw [hold j (by omega), hold j' (by omega)] at h
        exact I.inj j j' (by omega) (by omega) h
  · by_cases c : j = x
    · subst c
      rw [hnew, hcx]
      exact ⟨by omega, by omega⟩
    · rw [hold j (by omega), cmx_congr (nx.set x v) nx j fun i hi => hold i (by omega)]
      exact I.first j (by omega)
  · rw [hc1] at h
    have e3 : cmx a x = cmx nx x := by omega
    by_cases c : j = x
    · subst c
      rw [hnew]
      rw [cstep] at h
      split at h <;> omega
    · rw [hold j (by omega)]
      exact I.same e3 j (by omega)
end

/-! ### texts that sign -/
def by4 (v : Int) : List Int := [IntKind.u8.wrap v, IntKind.u8.wrap (shrV .i32 v 8), IntKind.u8.wrap (shrV .i32 v 16), IntKind.u8.wrap (shrV .i32 v 24)]
theorem u8_mod (x : Int) : IntKind.u8.wrap x = x % 256 := by
  unfold IntKind.wrap IntKind.bits IntKind.signed
  simp
theorem shr_div (v : Int) (k : Nat) (hk : k ≤ 31) : shrV .i32 v (k : Int) = v / (2 ^ k : Int) := by
  unfold shrV
  have : IntKind.bits .i32 = 32 := rfl
  rw [Int.toNat_natCast, this, show min k 32 = k by omega, Int.fdiv_eq_ediv_of_nonneg _ (Int.le_of_lt (Int.pow_pos (by omega)))]
theorem by4_eq (v : Int) : by4 v = [v % 256, v / 256 % 256, v / 65536 % 256, v / 16777216 % 256] := by
  unfold by4
  have a := shr_div v 8 (by omega)
  have b := shr_div v 16 (by omega)
  have c := shr_div v 24 (by omega)
  have a : shrV .i32 v 8 = v / 256 := a
  have b : shrV .i32 v 16 = v / 65536 := b
  have c : shrV .i32 v 24 = v / 16777216 := c
  rw [u8_mod, u8_mod, u8_mod, u8_mod, a, b, c]
theorem nums_inj : ∀ {xs ys : List Int}, (∀ x ∈ xs, 0 ≤ x ∧ x < 256) → (∀ y ∈ ys, 0 ≤ y ∧ y < 256) → xs.map (fun n : Int => UInt8.ofNat n.toNat) = ys.map (fun n : Int => UInt8.ofNat n.toNat) → xs = ys
  | [], [], _, _, _ => rfl
  | [], _ :: _, _, _, h => by cases h
  | _ :: _, [], _, _, h => by cases h
  | x :: xs, y :: ys, hx, hy, h => by
    rw [List.map_cons, List.map_cons, List.cons.injEq] at h
    have h1 := hx x List.mem_cons_self
    have h2 := hy y List.mem_cons_self
    have h3 := congrArg UInt8.toNat h.1
    rw [UInt8.toNat_ofNat', UInt8.toNat_ofNat'] at h3
    have e : x = y := by omega
    rw [e, nums_inj (fun z hz => hx z (List.mem_cons_of_mem _ hz)) (fun z hz => hy z (List.mem_cons_of_mem _ hz)) h.2]
theorem flat4_inj : ∀ {xs ys : List Int}, xs.length = ys.length → (∀ x ∈ xs, 0 ≤ x ∧ x < 2147483648) → (∀ y ∈ ys, 0 ≤ y ∧ y < 2147483648) → xs.flatMap by4 = ys.flatMap by4 → xs = ys
  | [], [], _, _, _, _ => rfl
  | [], _ :: _, h, _, _, _ => by cases h
  | _ :: _, [], h, _, _, _ => by cases h
  | x :: xs, y :: ys, hl, hx, hy, h => by
    rw [List.flatMap_cons, List.flatMap_cons, by4_eq, by4_eq] at h
    simp only [List.cons_append, List.nil_append, List.cons.injEq] at h
    obtain ⟨h1, h2, h3, h4, h5⟩ := h
    have b1 := hx x List.mem_cons_self
    have b2 := hy y List.mem_cons_self
    have e : x = y := by omega
    rw [e, flat4_inj (by simpa using hl) (fun z hz => hx z (List.mem_cons_of_mem _ hz)) (fun z hz => hy z (List.mem_cons_of_mem _ hz)) h5]
def sgT (xs : List Int) : ByteArray := strOfNums (xs.flatMap by4)
theorem sgT_inj {xs ys : List Int} (hl : xs.length = ys.length) (hx : ∀ x ∈ xs, 0 ≤ x ∧ x < 2147483648) (hy : ∀ y ∈ ys, 0 ≤ y ∧ y < 2147483648) (h : sgT xs = sgT ys) : xs = ys := by
  have h1 : (sgT xs).data.toList = (sgT ys).data.toList := by rw [h]
  unfold sgT at h1
  rw [strOfNums_data, strOfNums_data] at h1
  have bd : ∀ zs : List Int, ∀ z ∈ zs.flatMap by4, 0 ≤ z ∧ z < 256 := fun zs z hz => by
    obtain ⟨v, _, hv⟩ := List.mem_flatMap.1 hz
    rw [by4_eq] at hv
    simp only [List.mem_cons, List.not_mem_nil, or_false] at hv
    rcases hv with rfl | rfl | rfl | rfl <;> omega
  exact flat4_inj hl hx hy (nums_inj (bd xs) (bd ys) h1)
theorem flat4_len : ∀ xs : List Int, (xs.flatMap by4).length = 4 * xs.length
  | [] => rfl
  | x :: xs => by rw [List.flatMap_cons, List.length_append, flat4_len xs, List.length_cons]; show 4 + _ = _; omega

section
variable {N : Nat}
theorem signed_l0_ok {ll : List Int} (hl : ll.length ≤ 1000) : ∀ (m : Nat) (b : List Int) (x : Nat), x ≤ ll.length → ll.length - x < m → b = (ll.take x).flatMap by4 → both_signed_l0 N ll m b (x : Int) = some (ll.flatMap by4) := by
  intro m
  induction m with
  | zero => intro b x _ h; omega
  | succ m ih =>
    intro b x k1 k2 k3
    unfold both_signed_l0
    by_cases hx : (x : Int) < (ll.length : Int)
    · have hx' : x < ll.length := by omega
      have hbl : b.length ≤ 4 * 1000 := by
        rw [k3, flat4_len, List.length_take]
        omega
      have e : b ++ by4 (ll.getD x 0) = (ll.take (x + 1)).flatMap by4 := by
        rw [k3, List.take_succ_eq_append_getElem hx', List.flatMap_append, List.getD_eq_getElem?_getD, List.getElem?_eq_getElem hx']
        simp
      rw [if_pos hx, Int.toNat_natCast]
      unfold ask
      rw [if_pos (by unfold idx; omega), if_pos (by simp; omega), if_pos (by unfold in64; omega), show ((x : Int) + 1) = ((x + 1 : Nat) : Int) by omega]
      exact ih _ (x + 1) (by omega) (by omega) e
    · rw [if_neg hx, k3, List.take_of_length_le (by omega)]
theorem signed_ok {ll : List Int} (hN : 5000 ≤ N) (hl : ll.length ≤ 1000) : both_signed N ll = some (sgT ll) := by
  unfold both_signed
  have h := signed_l0_ok (N := N) hl N [] 0 (by omega) (by omega) rfl
  have e : both_signed_l0 N ll N (List.replicate (Int.toNat (0 : Int)) (0 : Int)) 0 = some (ll.flatMap by4) := h
  rw [e, Option.bind_some]
  unfold ask
  rw [if_pos (by unfold in64; omega), if_pos (by omega)]
  rfl

/-! ### rounds -/
/-- a place's signature -/
def sgl (a : List Int) (R : Nat → Nat → Nat) (L q : Nat) : List Int := a.getD q 0 :: (List.range L).map fun l => a.getD (R q l) 0
theorem sgl_len {a : List Int} {R : Nat → Nat → Nat} {L q : Nat} : (sgl a R L q).length = L + 1 := by unfold sgl; simp
theorem sgl_eq {a : List Int} {R : Nat → Nat → Nat} {L q q' : Nat} : sgl a R L q = sgl a R L q' ↔ a.getD q 0 = a.getD q' 0 ∧ ∀ l, l < L → a.getD (R q l) 0 = a.getD (R q' l) 0 := by
  unfold sgl
  rw [List.cons.injEq]
  refine and_congr_right fun _ => ⟨fun h l hl => ?_, fun h => List.map_congr_left fun l hl => h l (List.mem_range.1 hl)⟩
  have := congrArg (fun xs => xs[l]?) h
  simp only [List.getElem?_map, List.getElem?_range hl, Option.map_some, Option.some.injEq] at this
  exact this
variable {n k L : Nat} {r : MetR} {nd ne : List Nd} {gd hd : List Int}
theorem ref3_ok (M : Met nd gd ne hd n k L r) (hL : L ≤ 256) {a : List Int} (ha : a.length = r.1.length) (hb : ∀ q, q < r.1.length → 0 ≤ a.getD q 0 ∧ a.getD q 0 ≤ 100000) {x : Nat} (hx : x < r.1.length) : ∀ (m : Nat) (s : List Int) (y : Nat), y ≤ L → L - y < m → s = a.getD x 0 :: (List.range y).map (fun l => a.getD (mR r x l) 0) → both_refined_l3 N r a (x : Int) m s (y : Int) = some (sgl a (mR r) L x) := by
  intro m
  induction m with
  | zero => intro s y _ h; omega
  | succ m ih =>
    intro s y k1 k2 k3
    have hrow := M.row x hx
    unfold both_refined_l3
    rw [Int.toNat_natCast, hrow]
    by_cases hy : (y : Int) < (L : Int)
    · have hy' : y < L := by omega
      obtain ⟨e1, _, c2, _⟩ := M.R hx hy'
      have hbv := hb _ c2
      have hsl : s.length = y + 1 := by rw [k3]; simp
      have hw : IntKind.i32.wrap (a.getD (mR r x y) 0) = a.getD (mR r x y) 0 := wrap_i32 (by omega) (by omega)
      have e : s ++ [a.getD (mR r x y) 0] = a.getD x 0 :: (List.range (y + 1)).map (fun l => a.getD (mR r x l) 0) := by
        rw [k3, List.range_succ, List.map_append, List.cons_append]
        rfl
      rw [if_pos hy, Int.toNat_natCast, e1, Int.toNat_natCast, hw]
      unfold ask
      rw [if_pos (by unfold idx; omega), if_pos (by unfold idx; omega), if_pos (by simp; omega), if_pos (by unfold in64; omega), show ((y : Int) + 1) = ((y + 1 : Nat) : Int) by omega]
      exact ih _ (y + 1) (by omega) (by omega) e
    · rw [if_neg hy, k3, show y = L by omega]
      rfl
theorem ref2_ok (hN : 5000 ≤ N) (M : Met nd gd ne hd n k L r) (hL : L ≤ 256) (hM : r.1.length ≤ 70000) {a : List Int} (ha : a.length = r.1.length) (hf : First a r.1.length) : ∀ (m : Nat) (nm : List (ByteArray × Int)) (nx : List Int) (x : Nat), x ≤ r.1.length → r.1.length - x < m → nx.length = r.1.length → NumK (fun q => sgT (sgl a (mR r) L q)) a nm nx x →
    Ok (both_refined_l2 N r a m nm nx (x : Int)) fun o => o.2.length = r.1.length ∧ NumK (fun q => sgT (sgl a (mR r) L q)) a o.1 o.2 r.1.length := by
  have hb : ∀ q, q < r.1.length → 0 ≤ a.getD q 0 ∧ a.getD q 0 ≤ 100000 := fun q hq => by
    have h1 := hf q hq
    have h2 := cmx_mono a (p := q) (q := r.1.length) (by omega)
    have h3 := cmx_le hf
    omega
  have hmem : ∀ q, q < r.1.length → ∀ v ∈ sgl a (mR r) L q, 0 ≤ v ∧ v < 2147483648 := fun q hq v hv => by
    unfold sgl at hv
    rcases List.mem_cons.1 hv with rfl | hv
    · have := hb q hq; omega
    · obtain ⟨l, hl, rfl⟩ := List.mem_map.1 hv
      have := hb _ (M.lt hq (List.mem_range.1 hl))
      omega
  have hsg : ∀ q q', q < r.1.length → q' < r.1.length → sgT (sgl a (mR r) L q) = sgT (sgl a (mR r) L q') → a.getD q 0 = a.getD q' 0 := fun q q' h1 h2 h =>
    (sgl_eq.1 (sgT_inj (by rw [sgl_len, sgl_len]) (hmem q h1) (hmem q' h2) h)).1
  intro m
  induction m with
  | zero => intro nm nx x _ h; omega
  | succ m ih =>
    intro nm nx x k1 k2 k3 I
    have hwl := M.wl
    unfold both_refined_l2
    refine Ok.ite (fun hx => ?_) fun hx => Ok.pure ⟨k3, (show x = r.1.length by omega) ▸ I⟩
    have hx' : x < r.1.length := by omega
    have hbx := hb x hx'
    have hw : IntKind.i32.wrap (a.getD x 0) = a.getD x 0 := wrap_i32 (by omega) (by omega)
    rw [Int.toNat_natCast, hw]
    refine Ok.ask (by unfold idx; omega) (Ok.ask (by unfold idx; omega) ?_)
    have h3 := ref3_ok (N := N) M hL ha hb hx' N [a.getD x 0] 0 (by omega) (by omega) rfl
    have h3' : both_refined_l3 N r a (x : Int) N ([a.getD x 0] : List Int) 0 = some (sgl a (mR r) L x) := h3
    rw [h3', Option.bind_some, signed_ok hN (by rw [sgl_len]; omega), Option.bind_some]
    refine Ok.ask ?_ ?_
    · unfold strOk sgT
      rw [strOfNums_size, flat4_len, sgl_len]
      have : (2 : Nat) ^ 63 - 1 = maxLen := rfl
      omega
    cases hg : mget nm (sgT (sgl a (mR r) L x)) with
    | some v =>
      rw [if_pos (show (some v).isSome = true from rfl), Option.getD_some]
      refine Ok.ask (by unfold idx; omega) (Ok.ask (by unfold in64; omega) ?_)
      rw [show ((x : Int) + 1) = ((x + 1 : Nat) : Int) by omega]
      exact ih nm _ (x + 1) (by omega) (by omega) (by rw [List.length_set]; exact k3) (I.old (by omega) hg fun q q' h1 h2 => hsg q q' (by omega) (by omega))
    | none =>
      rw [if_neg (by simp)]
      refine Ok.ask rfl (Ok.ask (by unfold idx; omega) (Ok.ask (by unfold in64; omega) ?_))
      rw [show ((x : Int) + 1) = ((x + 1 : Nat) : Int) by omega]
      exact ih _ _ (x + 1) (by omega) (by omega) (by rw [List.length_set]; exact k3) (I.new (by omega) (hf x hx') hg)
/-- which places are alike -/
structure AlikeR (R : Nat → Nat → Nat) (A : Nat → Bool) (M L : Nat) (c : List Int) : Prop where
  len : c.length = M
  accs : ∀ q q', q < M → q' < M → c.getD q 0 = c.getD q' 0 → A q = A q'
  closed : ∀ q q', q < M → q' < M → c.getD q 0 = c.getD q' 0 → ∀ l, l < L → c.getD (R q l) 0 = c.getD (R q' l) 0
  dist : ∀ q q', q < M → q' < M → c.getD q 0 ≠ c.getD q' 0 → ∃ t : List Nat, (∀ l ∈ t, l < L) ∧ A (runR R q t) ≠ A (runR R q' t)
  first : First c M
structure CInvR (R : Nat → Nat → Nat) (A : Nat → Bool) (M L : Nat) (c : List Int) (many : Int) : Prop where
  len : c.length = M
  accs : ∀ q q', q < M → q' < M → c.getD q 0 = c.getD q' 0 → A q = A q'
  dist : ∀ q q', q < M → q' < M → c.getD q 0 ≠ c.getD q' 0 → ∃ t : List Nat, (∀ l ∈ t, l < L) ∧ A (runR R q t) ≠ A (runR R q' t)
  first : First c M
  many : many = 0 ∨ many = cmx c M
theorem ref1_ok (hN : 80000 ≤ N) (M : Met nd gd ne hd n k L r) (hL : L ≤ 256) (hM : r.1.length ≤ 70000) {A : Nat → Bool} : ∀ (m : Nat) (c : List Int) (many : Int), CInvR (mR r) A r.1.length L c many → (r.1.length : Int) + 2 ≤ many + m →
    Ok (both_refined_l1 N r m c many) fun o => AlikeR (mR r) A r.1.length L o.1
  | 0, c, many, I, h => by
    exfalso
    have := cmx_le I.first
    rcases I.many with h2 | h2 <;> omega
  | m + 1, c, many, I, hm => by
    have a1 := M.one
    have hcl := I.len
    unfold both_refined_l1
    refine Ok.ask (by omega) ?_
    have J := ref2_ok (N := N) (by omega) M hL hM I.len I.first N [] (List.replicate (Int.toNat ((c.length : Nat) : Int)) (0 : Int)) 0 (by omega) (by omega) (by simp; omega) NumK.start
    obtain ⟨x, e, x1, x2⟩ := J
    have e' : both_refined_l2 N r c N ([] : List (ByteArray × Int)) (List.replicate (Int.toNat (((List.length c) : Nat) : Int)) (0 : Int)) 0 = some x := e
    rw [e', Option.bind_some]
    have hl := x2.len
    have hle := cmx_le x2.first
    have h1 : 1 ≤ cmx x.2 r.1.length := by
      have := cmx_lt x.2 (p := 0) (q := r.1.length) (by omega)
      have := (x2.first 0 (by omega)).1
      omega
    have hb : ∀ q, q < r.1.length → 0 ≤ c.getD q 0 ∧ c.getD q 0 ≤ 100000 := fun q hq => by
      have h1 := I.first q hq
      have h2 := cmx_mono c (p := q) (q := r.1.length) (by omega)
      have h3 := cmx_le I.first
      omega
    have hmem : ∀ q, q < r.1.length → ∀ v ∈ sgl c (mR r) L q, 0 ≤ v ∧ v < 2147483648 := fun q hq v hv => by
      unfold sgl at hv
      rcases List.mem_cons.1 hv with rfl | hv
      · have := hb q hq; omega
      · obtain ⟨l, hl, rfl⟩ := List.mem_map.1 hv
        have := hb _ (M.lt hq (List.mem_range.1 hl))
        omega
    have eqs : ∀ q q', q < r.1.length → q' < r.1.length → x.2.getD q 0 = x.2.getD q' 0 → c.getD q 0 = c.getD q' 0 ∧ ∀ l, l < L → c.getD (mR r q l) 0 = c.getD (mR r q' l) 0 := fun q q' h1 h2 h3 => sgl_eq.1 (sgT_inj (by rw [sgl_len, sgl_len]) (hmem q h1) (hmem q' h2) (x2.inj q q' h1 h2 h3))
    have accs' : ∀ q q', q < r.1.length → q' < r.1.length → x.2.getD q 0 = x.2.getD q' 0 → A q = A q' := fun q q' h1 h2 h3 => I.accs q q' h1 h2 (eqs q q' h1 h2 h3).1
    have dist' : ∀ q q', q < r.1.length → q' < r.1.length → x.2.getD q 0 ≠ x.2.getD q' 0 → ∃ t : List Nat, (∀ l ∈ t, l < L) ∧ A (runR (mR r) q t) ≠ A (runR (mR r) q' t) := fun q q' h1 h2 h3 => by
      by_cases h4 : c.getD q 0 = c.getD q' 0
      · by_cases h5 : ∀ l, l < L → c.getD (mR r q l) 0 = c.getD (mR r q' l) 0
        · exfalso
          have g1 := x2.get q h1
          have g2 := x2.get q' h2
          rw [sgl_eq.2 ⟨h4, h5⟩, g2] at g1
          exact h3 (Option.some.inj g1).symm
        · obtain ⟨l, h6⟩ := Classical.not_forall.1 h5
          obtain ⟨hl, h7⟩ := Classical.not_imp.1 h6
          obtain ⟨t, t1, t2⟩ := I.dist _ _ (M.lt h1 hl) (M.lt h2 hl) h7
          exact ⟨l :: t, fun y hy => by rcases List.mem_cons.1 hy with h5 | h5; (· omega); (· exact t1 y h5), t2⟩
      · exact I.dist q q' h1 h2 h4
    refine Ok.ite (fun h => Ok.pure ?_) fun h => ?_
    · have hmany : many = cmx c r.1.length := by
        rcases I.many with h2 | h2
        · omega
        · exact h2
      have same := x2.same (by omega)
      refine ⟨x1, accs', fun q q' h2 h3 h4 l hl => ?_, dist', x2.first⟩
      show x.2.getD _ 0 = x.2.getD _ 0
      rw [same _ (M.lt h2 hl), same _ (M.lt h3 hl)]
      exact (eqs q q' h2 h3 h4).2 l hl
    · have up := x2.up
      refine ref1_ok hN M hL hM m x.2 _ ⟨x1, accs', dist', x2.first, .inr hl⟩ ?_
      rcases I.many with h2 | h2 <;> omega
theorem ref0_ok {ac : List Bool} (hl : ac.length ≤ 70000) : ∀ (m : Nat) (a : List Int) (x : Nat), x ≤ ac.length → ac.length - x < m → a.length = ac.length → (∀ j : Nat, j < ac.length → a.getD j 0 = if j < x ∧ ac.getD j false = true then 1 else 0) →
    Ok (both_refined_l0 N ac m a (x : Int)) fun o => o.length = ac.length ∧ ∀ j, j < ac.length → o.getD j 0 = if ac.getD j false = true then 1 else 0 := by
  intro m
  induction m with
  | zero => intro a x _ h; omega
  | succ m ih =>
    intro a x k1 k2 k3 k4
    unfold both_refined_l0
    refine Ok.ite (fun hx => ?_) fun hx => Ok.pure ⟨k3, fun j hj => ?_⟩
    · have hx' : x < ac.length := by omega
      rw [Int.toNat_natCast]
      refine Ok.ask (by unfold idx; omega) (Ok.ite (fun h => ?_) fun h => ?_)
      · refine Ok.ask (by unfold idx; omega) (Ok.ask (by unfold in64; omega) ?_)
        rw [show ((x : Int) + 1) = ((x + 1 : Nat) : Int) by omega]
        refine ih _ (x + 1) (by omega) (by omega) (by rw [List.length_set]; exact k3) fun j hj => ?_
        rw [getD_set (by omega)]
        by_cases c : x = j
        · subst c
          rw [if_pos rfl, if_pos ⟨by omega, h⟩]
        · rw [if_neg c, k4 j hj]
          by_cases d : j < x ∧ ac.getD j false = true
          · rw [if_pos d, if_pos ⟨by omega, d.2⟩]
          · rw [if_neg d, if_neg fun g => d ⟨by omega, g.2⟩]
      · refine Ok.ask (by unfold in64; omega) ?_
        rw [show ((x : Int) + 1) = ((x + 1 : Nat) : Int) by omega]
        refine ih _ (x + 1) (by omega) (by omega) k3 fun j hj => ?_
        rw [k4 j hj]
        by_cases c : j = x
        · subst c
          rw [if_neg (fun g => h g.2), if_neg (fun g => h g.2)]
        · by_cases d : j < x ∧ ac.getD j false = true
          · rw [if_pos d, if_pos ⟨by omega, d.2⟩]
          · rw [if_neg d, if_neg fun g => d ⟨by omega, g.2⟩]
    · rw [k4 j hj]
      by_cases d : ac.getD j false = true
      · rw [if_pos ⟨by omega, d⟩, if_pos d]
      · rw [if_neg (fun g => d g.2), if_neg d]
/-- the classes; nothing is accepted at the place 0 -/
theorem refined_ok (hN : 80000 ≤ N) (M : Met nd gd ne hd n k L r) (hL : L ≤ 256) (hM : r.1.length ≤ 70000) {ac : List Bool} (hl : ac.length = r.1.length) (h0 : ac.getD 0 false = false) : Ok (both_refined N r ac) fun o => AlikeR (mR r) (fun i => ac.getD i false) r.1.length L o.1 := by
  unfold both_refined
  refine Ok.ask (by omega) ?_
  refine (ref0_ok (N := N) (by omega) N _ 0 (by omega) (by omega) (by simp) fun j hj => by rw [getD_rep, if_neg fun g => by omega]).bind fun c ⟨c1, c2⟩ => ?_
  rw [hl] at c1 c2
  refine (ref1_ok hN M hL hM (A := fun i => ac.getD i false) N c 0 ⟨c1, fun q q' h1 h2 h3 => ?_, fun q q' h1 h2 h3 => ⟨[], fun l hl => (by cases hl), ?_⟩, fun q hq => ?_, .inl rfl⟩ (by omega)).bind fun r hr => Ok.pure hr
  · rw [c2 q h1, c2 q' h2] at h3
    revert h3
    cases ac.getD q false <;> cases ac.getD q' false <;> simp
  · rw [c2 q h1, c2 q' h2] at h3
    show ac.getD q false ≠ ac.getD q' false
    intro h4
    rw [h4] at h3
    exact h3 rfl
  · rw [c2 q hq]
    by_cases hq0 : q = 0
    · subst hq0
      rw [h0, if_neg (by simp)]
      exact ⟨by omega, cmx_nonneg _ _⟩
    · have := cmx_lt c (p := 0) (q := q) (by omega)
      have h2 := c2 0 (by omega)
      rw [h0, if_neg (by simp)] at h2
      split <;> omega
end
end Go.V
