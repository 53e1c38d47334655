/- The plain law OddsHalves. No condition. -/
import Derived.Test.YtbgpakdldcfhiaaBOddsHalves
import Derived.Test.YtbgpakdldcfhiaaFL3
import Derived.Test.YtbgpakdldcfhiaaV9
set_option linter.all false
set_option linter.unusedVariables false
set_option exponentiation.threshold 3000
set_option maxRecDepth 1000000
namespace Go.V
open Go Go.Proofs
theorem awake27 : law27_awake 1000000 = some true := by kernel_rfl
abbrev half4 : List Nat := [4602678819172646912, 4602678819172646912, 4602678819172646912, 4602678819172646912]
theorem lets_ok : ∀ P : Nat, P ≤ 4 → odds_letters 1000000 (List.take P half4) = some (List.replicate (2 ^ P) ((1023 - P) * 4503599627370496)) := by
  intro P hP
  match P, hP with
  | 0, _ => exact (by kernel_rfl : odds_letters 1000000 (List.take 0 half4) = some (List.replicate (2 ^ 0) ((1023 - 0) * 4503599627370496)))
  | 1, _ => exact (by kernel_rfl : odds_letters 1000000 (List.take 1 half4) = some (List.replicate (2 ^ 1) ((1023 - 1) * 4503599627370496)))
  | 2, _ => exact (by kernel_rfl : odds_letters 1000000 (List.take 2 half4) = some (List.replicate (2 ^ 2) ((1023 - 2) * 4503599627370496)))
  | 3, _ => exact (by kernel_rfl : odds_letters 1000000 (List.take 3 half4) = some (List.replicate (2 ^ 3) ((1023 - 3) * 4503599627370496)))
  | 4, _ => exact (by kernel_rfl : odds_letters 1000000 (List.take 4 half4) = some (List.replicate (2 ^ 4) ((1023 - 4) * 4503599627370496)))
theorem chs_ok : ∀ P : Nat, P ≤ 4 → odds_chances 1000000 (List.take P half4) = some 0 := by
  intro P hP
  match P, hP with
  | 0, _ => exact (by kernel_rfl : odds_chances 1000000 (List.take 0 half4) = some 0)
  | 1, _ => exact (by kernel_rfl : odds_chances 1000000 (List.take 1 half4) = some 0)
  | 2, _ => exact (by kernel_rfl : odds_chances 1000000 (List.take 2 half4) = some 0)
  | 3, _ => exact (by kernel_rfl : odds_chances 1000000 (List.take 3 half4) = some 0)
  | 4, _ => exact (by kernel_rfl : odds_chances 1000000 (List.take 4 half4) = some 0)
theorem fV_half : ∀ P : Fin 5, fV ((1023 - P.val) * 4503599627370496) = 2 ^ (1074 - P.val) := by decide +kernel
theorem near_two : ∀ m : Fin 49, FloatKind.nearest .f64 (shlV .u64 1 ((m.val : Nat) : Int)) = (1023 + m.val) * 4503599627370496 := by decide +kernel
/-- how many traces of a length are accepted -/
def bwv (acc : List Bool) (nd : List Nd) (gd : List Int) (L : Nat) : Nat → Nat → Nat
  | 0, q => if acc.getD q false = true then 1 else 0
  | j + 1, q => sumf L fun l => bwv acc nd gd L j (stp nd gd q l)
theorem bwv_le {acc : List Bool} {nd : List Nd} {gd : List Int} {L : Nat} : ∀ (j q : Nat), bwv acc nd gd L j q ≤ L ^ j
  | 0, q => by
    unfold bwv
    split <;> simp
  | j + 1, q => by
    unfold bwv
    refine Nat.le_trans (sumf_le (g := fun _ => L ^ j) fun l _ => bwv_le j _) ?_
    rw [sumf_const, Nat.pow_succ, Nat.mul_comm]
    exact Nat.le_refl _
section
variable {N : Nat} {p : Int} {acc : List Bool} {gd : List Int} {nd : List Nd}
theorem Pick_ok {N : Nat} {x n : Int} (h1 : 1 ≤ n) (h2 : n ≤ 1000000) : Ok (kit_Pick N x n) fun r => 0 ≤ r ∧ r < n := by
  have k1 := Int.tmod_lt_of_pos x (show 0 < n by omega)
  have k2 := Int.lt_tmod_of_pos x (show 0 < n by omega)
  unfold kit_Pick
  refine Ok.ite (fun h => by omega) fun _ => Ok.ask (by omega) (Ok.ite (fun h => Ok.ask (by unfold in64; omega) (Ok.pure (by omega))) fun h => Ok.pure (by omega))
theorem orows_ok (hN : 5000 ≤ N) (V : Valid p acc gd nd) : ∀ (m : Nat) (wh : List (List Int)) (x : Int), 0 ≤ x → x ≤ acc.length → (acc.length : Int) - x < m → (wh.length : Int) = x →
    (∀ q : Nat, (q : Int) < x → (wh.getD q []).length = two p ∧ ∀ l, l < two p → (wh.getD q []).getD l 0 = (stp nd gd q l : Int)) →
    Ok (odds_run_l0 N p gd nd m wh x) fun r => Tab nd gd acc.length (two p) r
  | 0, wh, x, _, _, h, _, _ => by omega
  | m + 1, wh, x, k0, k1, k2, k3, k5 => by
    have a2 := V.a2
    have gl := V.gl
    unfold odds_run_l0
    rw [gl]
    refine Ok.ite (fun hx => ?_) fun hx => Ok.pure ⟨by omega, fun q hq => (k5 q (by omega)).1, fun q l hq hl => (k5 q (by omega)).2 l hl⟩
    obtain ⟨a, rfl⟩ := Int.eq_ofNat_of_zero_le k0
    rw [Int.toNat_natCast]
    refine Ok.ask (by unfold idx; omega) ?_
    refine (Table_ok hN V (q := a) (by omega)).bind fun r ⟨r1, r2, r3⟩ => ?_
    refine Ok.ask (by simp; omega) (Ok.ask (by unfold in64; omega) ?_)
    refine orows_ok hN V m _ ((a : Int) + 1) (by omega) (by omega) (by omega) (by simp; omega) fun q hq => ?_
    rw [getD_snoc]
    by_cases c : q = a
    · rw [if_pos (by omega), c]
      exact ⟨r2, r3⟩
    · rw [if_neg (by omega)]
      exact k5 q (by omega)
theorem table_l0_ok (hN : 5000 ≤ N) (V : Valid p acc gd nd) : ∀ (m : Nat) (wh : List (List Int)) (x : Int), 0 ≤ x → x ≤ acc.length → (acc.length : Int) - x < m → (wh.length : Int) = x →
    (∀ q : Nat, (q : Int) < x → (wh.getD q []).length = two p ∧ ∀ l, l < two p → (wh.getD q []).getD l 0 = (stp nd gd q l : Int)) →
    Ok (lang_table_l0 N p gd nd m wh x) fun r => ∃ w, r = .inl w ∧ Tab nd gd acc.length (two p) w := by
  intro m
  induction m with
  | zero => intro wh x _ _ h _ _; omega
  | succ m ih =>
    intro wh x k0 k1 k2 k3 k5
    have a2 := V.a2
    have gl := V.gl
    unfold lang_table_l0
    rw [gl]
    refine Ok.ite (fun hx => ?_) fun hx => Ok.pure ⟨wh, rfl, by omega, fun q hq => (k5 q (by omega)).1, fun q l hq hl => (k5 q (by omega)).2 l hl⟩
    obtain ⟨a, rfl⟩ := Int.eq_ofNat_of_zero_le k0
    rw [Int.toNat_natCast]
    refine Ok.ask (by unfold idx; omega) ?_
    refine (Table_ok hN V (q := a) (by omega)).bind fun r ⟨r1, r2, r3⟩ => ?_
    rw [if_pos r1]
    refine Ok.ask (by simp; omega) (Ok.ask (by unfold in64; omega) ?_)
    refine ih _ ((a : Int) + 1) (by omega) (by omega) (by omega) (by simp; omega) fun q hq => ?_
    rw [getD_snoc]
    by_cases c : q = a
    · rw [if_pos (by omega), c]
      exact ⟨r2, r3⟩
    · rw [if_neg (by omega)]
      exact k5 q (by omega)
theorem table_ok (hN : 5000 ≤ N) (V : Valid p acc gd nd) (hC : guard_Check N p acc gd nd = some 0) : Ok (lang_table N p acc gd nd) fun r => r.2 = 0 ∧ Tab nd gd acc.length (two p) r.1 := by
  have a2 := V.a2
  unfold lang_table
  rw [hC, Option.bind_some, if_pos rfl]
  refine (table_l0_ok hN V N [] 0 (by omega) (by omega) (by omega) rfl fun q h => by omega).bind fun r ⟨w, e, T⟩ => ?_
  rw [e, Sum.elim_inl]
  exact Ok.pure ⟨rfl, T⟩

/-! ### the chances, in steps -/
def Rep (n : Nat) (xs : List Nat) (c : Nat → Nat) (e : Nat) : Prop := xs.length = n ∧ ∀ k, k < n → fV (xs.getD k 0) = c k * 2 ^ e
variable {wh : List (List Int)} {ch : List Nat}
theorem sumf_w1 {n : Nat} {g : Nat → Nat} : sumf n (fun k => g k * 1) = sumf n g := sumf_congr fun k _ => Nat.mul_one _
theorem h3_ok (hN : 5000 ≤ N) (V : Valid p acc gd nd) (T : Tab nd gd acc.length (two p) wh) (hcl : ch.length = two p) {P e : Nat} (hP : P ≤ 4) (hch : ∀ k, k < two p → fV (ch.getD k 0) = 2 ^ (1074 - P)) (he : P ≤ e) (he2 : e ≤ 1500) {now : List Nat} {c : Nat → Nat} (hnow : Rep acc.length now c e) {x : Nat} (hx : x < acc.length) {t0 : Nat} : ∀ (m : Nat) (next : List Nat) (g : Nat → Nat) (y : Nat), y ≤ two p → two p - y < m → Rep acc.length next g (e - P) → sumf acc.length g + c x * (two p - y) ≤ 9007199254740992 →
    Ok (odds_run_l3 N acc false ch wh now (x : Int) m next t0 (y : Int)) fun r => r.2 = t0 ∧ ∃ g', Rep acc.length r.1 g' (e - P) ∧ ∀ v : Nat → Nat, sumf acc.length (fun k => g' k * v k) + c x * sumf y (fun l => v (stp nd gd x l)) = sumf acc.length (fun k => g k * v k) + c x * sumf (two p) (fun l => v (stp nd gd x l)) := by
  intro m
  induction m with
  | zero => intro next g y _ h; omega
  | succ m ih =>
    intro next g y k1 k2 k3 k4
    have a2 := V.a2
    have sh := shl_two ⟨V.p0, V.p8⟩
    unfold odds_run_l3
    rw [Int.toNat_natCast, T.row x hx]
    refine Ok.ite (fun hy => ?_) fun hy => Ok.pure ⟨rfl, g, k3, fun v => by rw [show y = two p by omega]⟩
    have hy' : y < two p := by omega
    have hlt := (stp_eq V hx y).2
    have hn1 := hnow.2 x hx
    have e5 : two p - y = (two p - (y + 1)) + 1 := by omega
    have hcb : c x * (two p - y) = c x * (two p - (y + 1)) + c x := by rw [e5, Nat.mul_add, Nat.mul_one]
    obtain ⟨q, eq, hq⟩ := mul_exact (A := c x) (e := e) (P := P) (by omega) he2 he (by omega) hn1 (hch y hy')
    rw [Int.toNat_natCast, eq, Option.bind_some, T.at_ x y hx hy', Int.toNat_natCast]
    refine Ok.ask (by unfold idx; omega) (Ok.ask (by unfold idx; omega) ?_)
    have hj4 : odds_run_j4 N acc false wh (x : Int) (y : Int) = some false := by
      unfold odds_run_j4
      rw [if_neg (by simp)]
    rw [hj4, Option.bind_some, if_neg (by simp)]
    refine Ok.ask (by have := k3.1; unfold idx; omega) ?_
    have hg1 : g (stp nd gd x y) ≤ sumf acc.length g := sumf_one hlt
    obtain ⟨z, ez, hz⟩ := add_exact (A := g (stp nd gd x y)) (B := c x) (e := e - P) (by omega) (by omega) (k3.2 _ hlt) hq
    rw [ez, Option.bind_some]
    refine Ok.ask (by unfold in64; omega) ?_
    rw [show ((y : Int) + 1) = ((y + 1 : Nat) : Int) by omega]
    have up : ∀ v : Nat → Nat, sumf acc.length (fun k => (if stp nd gd x y = k then g (stp nd gd x y) + c x else g k) * v k) = sumf acc.length (fun k => g k * v k) + c x * v (stp nd gd x y) := fun v => sumf_upd hlt fun k _ => rfl
    have u1 := up fun _ => 1
    rw [sumf_w1, sumf_w1, Nat.mul_one] at u1
    refine (ih _ (fun k => if stp nd gd x y = k then g (stp nd gd x y) + c x else g k) (y + 1) (by omega) (by omega) ⟨by rw [List.length_set]; exact k3.1, fun k hk => ?_⟩ (by rw [u1]; omega)).mono fun r ⟨r1, g', r2, r3⟩ => ⟨r1, g', r2, fun v => ?_⟩
    · rw [getD_set (by have := k3.1; omega)]
      dsimp only
      by_cases d : stp nd gd x y = k
      · subst d; rw [if_pos rfl, if_pos rfl]; exact hz
      · rw [if_neg d, if_neg d]; exact k3.2 k hk
    · have h1 := r3 v
      have h2 := up v
      have h3 : sumf (y + 1) (fun l => v (stp nd gd x l)) = sumf y (fun l => v (stp nd gd x l)) + v (stp nd gd x y) := rfl
      rw [h2, h3, Nat.mul_add] at h1
      omega
theorem h2_ok (hN : 5000 ≤ N) (V : Valid p acc gd nd) (T : Tab nd gd acc.length (two p) wh) (hcl : ch.length = two p) {P e : Nat} (hP : P ≤ 4) (hch : ∀ k, k < two p → fV (ch.getD k 0) = 2 ^ (1074 - P)) (he : P ≤ e) (he2 : e ≤ 1500) {now : List Nat} {c : Nat → Nat} (hnow : Rep acc.length now c e) (hb : sumf acc.length c * two p ≤ 9007199254740992) {t0 : Nat} : ∀ (m : Nat) (next : List Nat) (g : Nat → Nat) (x : Nat), x ≤ acc.length → acc.length - x < m → Rep acc.length next g (e - P) → (∀ v : Nat → Nat, sumf acc.length (fun k => g k * v k) = sumf x (fun q => c q * sumf (two p) (fun l => v (stp nd gd q l)))) →
    Ok (odds_run_l2 N acc false ch wh now m next t0 (x : Int)) fun r => r.2 = t0 ∧ ∃ g', Rep acc.length r.1 g' (e - P) ∧ ∀ v : Nat → Nat, sumf acc.length (fun k => g' k * v k) = sumf acc.length (fun q => c q * sumf (two p) (fun l => v (stp nd gd q l))) := by
  intro m
  induction m with
  | zero => intro next g x _ h; omega
  | succ m ih =>
    intro next g x k1 k2 k3 k4
    have a2 := V.a2
    have sh := shl_two ⟨V.p0, V.p8⟩
    unfold odds_run_l2
    rw [hnow.1]
    refine Ok.ite (fun hx => ?_) fun hx => Ok.pure ⟨rfl, g, k3, fun v => by rw [k4 v, show x = acc.length by omega]⟩
    have hx' : x < acc.length := by omega
    refine Ok.ask (by unfold idx; omega) (Ok.ask (by unfold idx; have := T.len; omega) ?_)
    have hbound : sumf acc.length g + c x * (two p - 0) ≤ 9007199254740992 := by
      have h1 := k4 fun _ => 1
      rw [sumf_w1] at h1
      have h2 : sumf x (fun q => c q * sumf (two p) (fun _ => 1)) = sumf x (fun q => c q * two p) := sumf_congr fun q _ => by rw [sumf_const, Nat.mul_one]
      have h3 : sumf (x + 1) (fun q => c q * two p) ≤ sumf acc.length c * two p := by
        rw [← sumf_mulr]
        exact sumf_mono (by omega)
      have h4 : sumf (x + 1) (fun q => c q * two p) = sumf x (fun q => c q * two p) + c x * two p := rfl
      rw [Nat.sub_zero, h1, h2, ← h4]
      exact Nat.le_trans h3 hb
    refine (h3_ok (N := N) hN V T hcl hP hch he he2 hnow hx' N next g 0 (by omega) (by omega) k3 hbound).bind fun r ⟨r1, g', r2, r3⟩ => ?_
    rw [r1]
    refine Ok.ask (by unfold in64; omega) ?_
    rw [show ((x : Int) + 1) = ((x + 1 : Nat) : Int) by omega]
    refine ih r.1 g' (x + 1) (by omega) (by omega) r2 fun v => ?_
    have h1 := r3 v
    have h2 : sumf 0 (fun l => v (stp nd gd x l)) = 0 := rfl
    rw [h2, Nat.mul_zero, Nat.add_zero, k4 v] at h1
    rw [h1]
    rfl
theorem h1_ok (hN : 5000 ≤ N) (V : Valid p acc gd nd) (T : Tab nd gd acc.length (two p) wh) (hcl : ch.length = two p) {P : Nat} (hP : P ≤ 4) (hPp : two p = 2 ^ P) (hch : ∀ k, k < two p → fV (ch.getD k 0) = 2 ^ (1074 - P)) {n : Nat} (hn : n ≤ 12) {t0 : Nat} {K : Nat} : ∀ (m : Nat) (now next : List Nat) (c : Nat → Nat) (x : Nat), x ≤ n → n - x < m → Rep acc.length now c (1074 - P * x) → next.length = acc.length → sumf acc.length c = two p ^ x → sumf acc.length (fun q => c q * bwv acc nd gd (two p) (n - x) q) = K →
    Ok (odds_run_l1 N acc (n : Int) false ch wh m now next t0 (x : Int)) fun r => ∃ c', Rep acc.length r.1 c' (1074 - P * n) ∧ sumf acc.length (fun q => c' q * bwv acc nd gd (two p) 0 q) = K ∧ sumf acc.length c' = two p ^ n := by
  intro m
  induction m with
  | zero => intro now next c x _ h; omega
  | succ m ih =>
    intro now next c x k1 k2 k3 k4 k5 k6
    have a2 := V.a2
    have hPx : P * x ≤ 4 * 12 := Nat.mul_le_mul hP (by omega)
    unfold odds_run_l1
    refine Ok.ite (fun hx => ?_) fun hx => Ok.pure ?_
    · have hPs : P * (x + 1) = P * x + P := by rw [Nat.mul_add, Nat.mul_one]
      have hb : sumf acc.length c * two p ≤ 9007199254740992 := by
        rw [k5, ← Nat.pow_succ, hPp, ← Nat.pow_mul]
        have h1 : P * (x + 1) ≤ 4 * 12 := Nat.mul_le_mul hP (by omega)
        have h2 : 2 ^ (P * (x + 1)) ≤ 2 ^ (4 * 12) := Nat.pow_le_pow_right (by omega) h1
        have h3 : 2 ^ (4 * 12) ≤ 9007199254740992 := by decide
        exact Nat.le_trans h2 h3
      refine (h2_ok (N := N) hN V T hcl hP hch (by omega) (by omega) k3 hb N _ (fun _ => 0) 0 (by omega) (by omega) ⟨by rw [List.length_replicate]; exact k4, fun k hk => by rw [getD_rep, fV_0, Nat.zero_mul]⟩ fun v => ?_).bind fun r ⟨r1, g', r2, r3⟩ => ?_
      · rw [sumf_zero fun k _ => Nat.zero_mul _]; rfl
      rw [r1]
      refine Ok.ask (by unfold in64; omega) ?_
      rw [show ((x : Int) + 1) = ((x + 1 : Nat) : Int) by omega]
      refine ih r.1 now g' (x + 1) (by omega) (by omega) ?_ k3.1 ?_ ?_
      · rw [hPs, ← Nat.sub_sub]; exact r2
      · have h1 := r3 fun _ => 1
        rw [sumf_w1] at h1
        have h2 : sumf acc.length (fun q => c q * sumf (two p) (fun _ => 1)) = sumf acc.length (fun q => c q * two p) := sumf_congr fun q _ => by rw [sumf_const, Nat.mul_one]
        rw [h1, h2, sumf_mulr, k5, Nat.pow_succ]
      · rw [r3, ← k6]
        refine sumf_congr fun q _ => ?_
        rw [show n - x = (n - (x + 1)) + 1 by omega]
        rfl
    · have e : x = n := by omega
      subst e
      rw [Nat.sub_self] at k6
      exact ⟨c, k3, k6, k5⟩
theorem hrun_ok (hN : 5000 ≤ N) (V : Valid p acc gd nd) {P : Nat} (hP : P ≤ 4) (hp : p = (P : Int)) (hlet : odds_letters N (List.take P half4) = some (List.replicate (2 ^ P) ((1023 - P) * 4503599627370496))) {n : Nat} (hn : n ≤ 12) : Ok (odds_run N p acc gd nd (List.take P half4) (n : Int) false) fun r => ∃ c', Rep acc.length r.1 c' (1074 - P * n) ∧ sumf acc.length (fun q => c' q * bwv acc nd gd (two p) 0 q) = bwv acc nd gd (two p) n 0 ∧ sumf acc.length c' = two p ^ n := by
  have a1 := V.a1
  have a2 := V.a2
  have htwo : two p = 2 ^ P := by unfold two; rw [hp, Int.toNat_natCast]
  have hpow : 2 ^ P ≤ 2 ^ 4 := Nat.pow_le_pow_right (by omega) hP
  unfold odds_run
  rw [hlet, Option.bind_some]
  refine (orows_ok (N := N) hN V N [] 0 (by omega) (by omega) (by omega) rfl fun q h => by omega).bind fun wh T => ?_
  refine Ok.ask (by omega) (Ok.ask (by unfold idx; simp; omega) ?_)
  have start : ∀ v : Nat → Nat, sumf acc.length (fun k => (if 0 = k then 1 else 0) * v k) = v 0 := fun v => by
    have := sumf_upd (f := fun _ => 0) (g := fun k => if 0 = k then 1 else 0) (v := v) (A := 1) (t := 0) (n := acc.length) (by omega) fun k _ => rfl
    rw [this, sumf_zero fun k _ => Nat.zero_mul _, Nat.zero_add, Nat.one_mul]
  refine (h1_ok (N := N) hN V T (by rw [List.length_replicate, htwo]) hP htwo (fun k hk => ?_) hn N _ _ (fun k => if 0 = k then 1 else 0) 0 (by omega) (by omega) ⟨by simp, fun k hk => ?_⟩ (by simp) ?_ (start _)).bind fun r hr => Ok.pure hr
  · rw [List.getD_eq_getElem?_getD, List.getElem?_replicate, if_pos (by omega), Option.getD_some]
    have := fV_half ⟨P, by omega⟩
    dsimp only at this
    exact this
  · rw [getD_set (by simp; omega), getD_rep]
    rw [Nat.mul_zero, Nat.sub_zero]
    dsimp only
    by_cases d : 0 = k
    · have d' : Int.toNat (0 : Int) = k := d
      rw [if_pos d, if_pos d', Nat.one_mul, fV_one]
    · have d' : ¬ Int.toNat (0 : Int) = k := d
      rw [if_neg d, if_neg d', Nat.zero_mul, fV_0]
  · have := start fun _ => 1
    rw [sumf_w1] at this
    rw [this, Nat.pow_zero]
theorem hacc_ok {v : List Nat} {c : Nat → Nat} {e : Nat} (he : e ≤ 1500) (hv : Rep acc.length v c e) (hb : sumf acc.length c ≤ 9007199254740992) (hn : acc.length ≤ 1000) (L : Nat) : ∀ (m x s : Nat), x ≤ acc.length → acc.length - x < m → fV s = sumf x (fun q => c q * bwv acc nd gd L 0 q) * 2 ^ e → Ok (odds_Accept_l0 N acc (v, 0) m s (x : Int)) fun r => fV r = sumf acc.length (fun q => c q * bwv acc nd gd L 0 q) * 2 ^ e := by
  intro m
  induction m with
  | zero => intro x s _ h; omega
  | succ m ih =>
    intro x s k1 k2 k3
    have hl := hv.1
    unfold odds_Accept_l0
    refine Ok.ite (fun hx => ?_) fun hx => Ok.pure ?_
    · have hx' : x < acc.length := by have hx : (x : Int) < ((v.length : Nat) : Int) := hx; omega
      have h1 : idx (x : Int) (List.length ((v, (0 : Int)).1)) := ⟨by omega, hx⟩
      have h64 : in64 ((x : Int) + 1) := by unfold in64; omega
      have hs : sumf (x + 1) (fun q => c q * bwv acc nd gd L 0 q) = sumf x (fun q => c q * bwv acc nd gd L 0 q) + c x * bwv acc nd gd L 0 x := rfl
      refine Ok.ask h1 (Ok.ask ⟨by omega, by omega⟩ (Ok.ite (fun hc => ?_) fun hc => ?_))
      · rw [Int.toNat_natCast] at hc
        have hb1 : bwv acc nd gd L 0 x = 1 := by unfold bwv; rw [if_pos hc]
        have h2 : sumf (x + 1) (fun q => c q * bwv acc nd gd L 0 q) ≤ sumf acc.length c := by
          refine Nat.le_trans (sumf_mono (show x + 1 ≤ acc.length by omega)) (sumf_le fun k _ => ?_)
          have h3 : bwv acc nd gd L 0 k ≤ 1 := bwv_le 0 k
          have := Nat.mul_le_mul_left (c k) h3
          omega
        rw [hs, hb1, Nat.mul_one] at h2
        rw [Int.toNat_natCast]
        obtain ⟨z, ez, hz⟩ := add_exact (A := sumf x (fun q => c q * bwv acc nd gd L 0 q)) (B := c x) (e := e) (by omega) he k3 (hv.2 x hx')
        have ez' : fAdd s (List.getD ((v, (0 : Int)).1) x 0) = some z := ez
        rw [ez', Option.bind_some]
        refine Ok.ask h64 ?_
        rw [show ((x : Int) + 1) = ((x + 1 : Nat) : Int) by omega]
        refine ih (x + 1) z (by omega) (by omega) ?_
        rw [hs, hb1, Nat.mul_one]
        exact hz
      · rw [Int.toNat_natCast] at hc
        have hb1 : bwv acc nd gd L 0 x = 0 := by unfold bwv; rw [if_neg hc]
        refine Ok.ask h64 ?_
        rw [show ((x : Int) + 1) = ((x + 1 : Nat) : Int) by omega]
        refine ih (x + 1) s (by omega) (by omega) ?_
        rw [hs, hb1, Nat.mul_zero, Nat.add_zero]
        exact k3
    · have hx : ¬ (x : Int) < ((v.length : Nat) : Int) := hx
      rw [show acc.length = x by omega]
      exact k3

/-! ### the numbers -/
def Cnt (n : Nat) (w : List (Int × Bool)) (f : Nat → Nat) : Prop := w.length = n ∧ ∀ k, k < n → w.getD k (0, false) = ((f k : Int), false)
theorem add_cnt {a b : Nat} (h : a + b ≤ 18446744073709551615) : lang_count_add N ((a : Int), false) ((b : Int), false) = some (((a + b : Nat) : Int), false) := by
  unfold lang_count_add ask
  rw [if_pos (by omega), if_neg (by simp), if_neg (by simp)]
  dsimp only
  rw [show ((a : Int) + (b : Int) + 0) % 18446744073709551616 = ((a + b : Nat) : Int) by omega, show ((a : Int) + (b : Int) + 0) / 18446744073709551616 = 0 by omega]
  rfl
theorem c0_ok (hn : acc.length ≤ 1000) (L : Nat) : ∀ (m : Nat) (v : List (Int × Bool)) (x : Nat), x ≤ acc.length → acc.length - x < m → Cnt acc.length v (fun k => if k < x then bwv acc nd gd L 0 k else 0) →
    Ok (lang_counts_l0 N acc m v (x : Int)) fun r => Cnt acc.length r (bwv acc nd gd L 0) := by
  intro m
  induction m with
  | zero => intro v x _ h; omega
  | succ m ih =>
    intro v x k1 k2 k3
    unfold lang_counts_l0
    refine Ok.ite (fun hx => ?_) fun hx => Ok.pure ⟨k3.1, fun k hk => ?_⟩
    · have hx' : x < acc.length := by omega
      have hvl := k3.1
      have h64 : in64 ((x : Int) + 1) := by unfold in64; omega
      refine Ok.ask ⟨by omega, by omega⟩ (Ok.ite (fun hc => ?_) fun hc => ?_)
      · rw [Int.toNat_natCast] at hc
        have hb1 : bwv acc nd gd L 0 x = 1 := by unfold bwv; rw [if_pos hc]
        refine Ok.ask ⟨by omega, by omega⟩ (Ok.ask h64 ?_)
        rw [show ((x : Int) + 1) = ((x + 1 : Nat) : Int) by omega]
        refine ih _ (x + 1) (by omega) (by omega) ⟨by rw [List.length_set]; exact k3.1, fun k hk => ?_⟩
        rw [getD_set (by rw [Int.toNat_natCast]; omega), Int.toNat_natCast, k3.2 x hx']
        by_cases d : x = k
        · subst d; rw [if_pos rfl]
          dsimp only
          rw [if_pos (by omega), hb1]
          rfl
        · rw [if_neg d, k3.2 k hk]
          dsimp only
          by_cases e : k < x
          · rw [if_pos e, if_pos (by omega)]
          · rw [if_neg e, if_neg (by omega)]
      · rw [Int.toNat_natCast] at hc
        have hb1 : bwv acc nd gd L 0 x = 0 := by unfold bwv; rw [if_neg hc]
        refine Ok.ask h64 ?_
        rw [show ((x : Int) + 1) = ((x + 1 : Nat) : Int) by omega]
        refine ih _ (x + 1) (by omega) (by omega) ⟨k3.1, fun k hk => ?_⟩
        rw [k3.2 k hk]
        dsimp only
        by_cases d : x = k
        · subst d; rw [if_neg (by omega), if_pos (by omega), hb1]
        · by_cases e : k < x
          · rw [if_pos e, if_pos (by omega)]
          · rw [if_neg e, if_neg (by omega)]
    · rw [k3.2 k hk]
      dsimp only
      rw [if_pos (by omega)]
theorem c3_ok (V : Valid p acc gd nd) (T : Tab nd gd acc.length (two p) wh) {v : List (Int × Bool)} {f : Nat → Nat} {B : Nat} (hB : B * two p ≤ 18446744073709551615) (hf : ∀ k, f k ≤ B) (hv : Cnt acc.length v f) {x : Nat} (hx : x < acc.length) : ∀ (m : Nat) (w : List (Int × Bool)) (y : Nat), y ≤ two p → two p - y < m → Cnt acc.length w (fun k => if k < x then sumf (two p) (fun l => f (stp nd gd k l)) else if k = x then sumf y (fun l => f (stp nd gd k l)) else 0) →
    Ok (lang_counts_l3 N wh v (x : Int) m w (y : Int)) fun r => Cnt acc.length r (fun k => if k < x + 1 then sumf (two p) (fun l => f (stp nd gd k l)) else 0) := by
  intro m
  induction m with
  | zero => intro w y _ h; omega
  | succ m ih =>
    intro w y k1 k2 k3
    have a2 := V.a2
    have sh := shl_two ⟨V.p0, V.p8⟩
    have hwl := k3.1
    have hvl := hv.1
    unfold lang_counts_l3
    rw [Int.toNat_natCast, T.row x hx]
    refine Ok.ite (fun hy => ?_) fun hy => Ok.pure ⟨k3.1, fun k hk => ?_⟩
    · have hy' : y < two p := by omega
      have hlt := (stp_eq V hx y).2
      rw [Int.toNat_natCast, T.at_ x y hx hy', Int.toNat_natCast]
      refine Ok.ask (by unfold idx; omega) (Ok.ask (by unfold idx; omega) (Ok.ask (by unfold idx; omega) ?_))
      rw [k3.2 x hx, hv.2 _ hlt]
      dsimp only
      rw [if_neg (by omega), if_pos rfl]
      have hs : sumf (y + 1) (fun l => f (stp nd gd x l)) = sumf y (fun l => f (stp nd gd x l)) + f (stp nd gd x y) := rfl
      have hbd : sumf (y + 1) (fun l => f (stp nd gd x l)) ≤ 18446744073709551615 := by
        refine Nat.le_trans (sumf_mono (show y + 1 ≤ two p by omega)) (Nat.le_trans (sumf_le (g := fun _ => B) fun l _ => hf _) ?_)
        rw [sumf_const, Nat.mul_comm]
        exact hB
      rw [add_cnt (by omega), Option.bind_some, ← hs]
      refine Ok.ask (by unfold in64; omega) ?_
      rw [show ((y : Int) + 1) = ((y + 1 : Nat) : Int) by omega]
      refine ih _ (y + 1) (by omega) (by omega) ⟨by rw [List.length_set]; exact k3.1, fun k hk => ?_⟩
      rw [getD_set (by omega)]
      by_cases d : x = k
      · subst d; rw [if_pos rfl]
        dsimp only
        rw [if_neg (by omega), if_pos rfl]
      · rw [if_neg d, k3.2 k hk]
        dsimp only
        by_cases e : k < x
        · rw [if_pos e, if_pos e]
        · rw [if_neg e, if_neg e, if_neg (by omega), if_neg (by omega)]
    · rw [k3.2 k hk]
      dsimp only
      by_cases e : k < x
      · rw [if_pos e, if_pos (by omega)]
      · by_cases d : k = x
        · rw [if_neg e, if_pos d, if_pos (by omega), show y = two p by omega]
        · rw [if_neg e, if_neg d, if_neg (by omega)]
theorem c2_ok (hN : 5000 ≤ N) (V : Valid p acc gd nd) (T : Tab nd gd acc.length (two p) wh) {v : List (Int × Bool)} {f : Nat → Nat} {B : Nat} (hB : B * two p ≤ 18446744073709551615) (hf : ∀ k, f k ≤ B) (hv : Cnt acc.length v f) : ∀ (m : Nat) (w : List (Int × Bool)) (x : Nat), x ≤ acc.length → acc.length - x < m → Cnt acc.length w (fun k => if k < x then sumf (two p) (fun l => f (stp nd gd k l)) else 0) →
    Ok (lang_counts_l2 N wh v m w (x : Int)) fun r => Cnt acc.length r (fun k => sumf (two p) (fun l => f (stp nd gd k l))) := by
  intro m
  induction m with
  | zero => intro w x _ h; omega
  | succ m ih =>
    intro w x k1 k2 k3
    have a2 := V.a2
    have sh := shl_two ⟨V.p0, V.p8⟩
    have tl := T.len
    unfold lang_counts_l2
    refine Ok.ite (fun hx => ?_) fun hx => Ok.pure ⟨k3.1, fun k hk => ?_⟩
    · have hx' : x < acc.length := by omega
      refine Ok.ask (by unfold idx; omega) ?_
      refine (c3_ok (N := N) V T hB hf hv hx' N w 0 (by omega) (by omega) ⟨k3.1, fun k hk => ?_⟩).bind fun r hr => ?_
      · rw [k3.2 k hk]
        dsimp only
        by_cases e : k < x
        · rw [if_pos e, if_pos e]
        · rw [if_neg e, if_neg e]
          by_cases d : k = x
          · rw [if_pos d]; rfl
          · rw [if_neg d]
      refine Ok.ask (by unfold in64; omega) ?_
      rw [show ((x : Int) + 1) = ((x + 1 : Nat) : Int) by omega]
      exact ih r (x + 1) (by omega) (by omega) hr
    · rw [k3.2 k hk]
      dsimp only
      rw [if_pos (by omega)]
theorem c1_ok (hN : 5000 ≤ N) (V : Valid p acc gd nd) (T : Tab nd gd acc.length (two p) wh) (h16 : two p ≤ 16) {n : Nat} (hn : n ≤ 12) : ∀ (m : Nat) (v : List (Int × Bool)) (x : Nat), x ≤ n → n - x < m → Cnt acc.length v (bwv acc nd gd (two p) x) →
    Ok (lang_counts_l1 N wh (n : Int) m v (x : Int)) fun r => Cnt acc.length r (bwv acc nd gd (two p) n) := by
  intro m
  induction m with
  | zero => intro v x _ h; omega
  | succ m ih =>
    intro v x k1 k2 k3
    have a2 := V.a2
    have tl := T.len
    have sh := shl_two ⟨V.p0, V.p8⟩
    unfold lang_counts_l1
    refine Ok.ite (fun hx => ?_) fun hx => Ok.pure ?_
    · have hB : two p ^ x * two p ≤ 18446744073709551615 := by
        rw [← Nat.pow_succ]
        have h1 : two p ^ (x + 1) ≤ 16 ^ (x + 1) := Nat.pow_le_pow_left h16 _
        have h2 : 16 ^ (x + 1) ≤ 16 ^ 12 := Nat.pow_le_pow_right (by omega) (by omega)
        have h3 : 16 ^ 12 ≤ 18446744073709551615 := by decide
        exact Nat.le_trans h1 (Nat.le_trans h2 h3)
      refine (c2_ok (N := N) hN V T hB (fun k => bwv_le x k) k3 N _ 0 (by omega) (by omega) ⟨by rw [List.length_replicate]; omega, fun k hk => ?_⟩).bind fun r hr => ?_
      · rw [getD_rep]
        dsimp only
        rw [if_neg (by omega)]
        rfl
      refine Ok.ask (by unfold in64; omega) ?_
      rw [show ((x : Int) + 1) = ((x + 1 : Nat) : Int) by omega]
      exact ih r (x + 1) (by omega) (by omega) hr
    · have e : x = n := by omega
      rw [← e]; exact k3
theorem counts_ok (hN : 5000 ≤ N) (V : Valid p acc gd nd) (T : Tab nd gd acc.length (two p) wh) (h16 : two p ≤ 16) {n : Nat} (hn : n ≤ 12) : Ok (lang_counts N p acc gd nd wh (n : Int)) fun r => Cnt acc.length r (bwv acc nd gd (two p) n) := by
  have a1 := V.a1
  have a2 := V.a2
  have tl := T.len
  unfold lang_counts
  refine Ok.ask (by omega) ?_
  refine (c0_ok (nd := nd) (gd := gd) (by omega) (two p) N _ 0 (by omega) (by omega) ⟨by rw [List.length_replicate]; omega, fun k hk => ?_⟩).bind fun v hv => ?_
  · rw [getD_rep]
    dsimp only
    rw [if_neg (by omega)]
    rfl
  exact (c1_ok hN V T h16 hn N v 0 (by omega) (by omega) hv).bind fun r hr => Ok.pure hr
theorem Count_ok (hN : 5000 ≤ N) (V : Valid p acc gd nd) (hC : guard_Check N p acc gd nd = some 0) (h16 : two p ≤ 16) {n : Nat} (hn : n ≤ 12) : lang_Count N p acc gd nd (n : Int) = some (((bwv acc nd gd (two p) n 0 : Nat) : Int), 0) := by
  have a1 := V.a1
  refine Ok.eq ?_
  unfold lang_Count
  refine (table_ok hN V hC).bind fun r ⟨r1, T⟩ => ?_
  rw [if_pos r1, if_neg (by omega), if_neg (by omega)]
  refine (counts_ok hN V T h16 hn).bind fun c hc => ?_
  have hl := hc.1
  have h0 := hc.2 0 (by omega)
  refine Ok.ask (by unfold idx; omega) ?_
  have h0' : List.getD c (Int.toNat (0 : Int)) (0, false) = (((bwv acc nd gd (two p) n 0 : Nat) : Int), false) := h0
  rw [h0', if_neg (by simp)]
  exact Ok.pure rfl
theorem Signbit_ok {x : Nat} (h : Fin_ x) : math_Signbit N x = some false := by
  have h : x < 9218868437227405312 := h
  unfold math_Signbit ask
  rw [if_pos (by unfold in64; omega), decide_eq_false (by omega)]
end

theorem oddsHalves_true {p : Int} {acc : List Bool} {gd : List Int} {nd : List Nd} {n : Int} (hw : ∀ x ∈ nd, x.wf) :
    law27_OddsHalves 1000000 p acc gd nd n = some true := by
  have hN : 5000 ≤ 1000000 := by omega
  refine Ok.eq ?_
  unfold law27_OddsHalves
  rw [awake27, Option.bind_some]
  obtain ⟨e, hC, he⟩ := guard_Check_ok (N := 1000000) (p := p) (acc := acc) (gd := gd) hN hw
  have hS : Ok (law16_Small 1000000 p acc gd nd) fun r => True := by
    unfold law16_Small
    repeat' (first | exact Ok.pure trivial | refine Ok.ite (fun _ => ?_) fun _ => ?_)
  refine hS.bind fun b _ => Ok.ite (fun _ => ?_) fun _ => Ok.pure rfl
  refine (Pick_ok (by omega) (by omega)).bind fun r ⟨r0, r1⟩ => ?_
  obtain ⟨k, rfl⟩ := Int.eq_ofNat_of_zero_le r0
  have hj0 : Ok (law27_OddsHalves_j0 1000000 p) fun r => r = false → 0 ≤ p ∧ p ≤ 4 := by
    unfold law27_OddsHalves_j0
    refine Ok.ite (fun _ => Ok.pure fun h => by cases h) fun h1 => Ok.pure fun h2 => ?_
    have := of_decide_eq_false h2
    omega
  refine hj0.bind fun b hb => Ok.ite (fun _ => Ok.pure rfl) fun hbf => ?_
  have hp := hb (by cases b <;> simp_all)
  refine Ok.ask (by omega) ?_
  obtain ⟨P, hP⟩ := Int.eq_ofNat_of_zero_le hp.1
  have hP4 : P ≤ 4 := by omega
  have htk : (List.take (Int.toNat p) ([4602678819172646912, 4602678819172646912, 4602678819172646912, 4602678819172646912] : List Nat)) = List.take P half4 := by rw [hP, Int.toNat_natCast]
  rw [htk]
  have hlen : (List.take P half4).length = P := by rw [List.length_take]; show min P 4 = P; omega
  have a1 : odds_asked 1000000 p acc gd nd (List.take P half4) (k : Int) = some e := by
    unfold odds_asked
    rw [hC, Option.bind_some]
    by_cases h0 : e = 0
    · rw [if_pos h0, if_pos (by rw [hlen, hP]), chs_ok P hP4, Option.bind_some, if_pos rfl, if_neg (by omega), if_neg (by omega), h0]
    · rw [if_neg h0]
  by_cases h0 : e = 0
  · have V := he.2 h0
    rw [h0] at hC a1
    have v1 := V.a1
    have v2 := V.a2
    have htwo : two p = 2 ^ P := by unfold two; rw [hP, Int.toNat_natCast]
    have h16 : two p ≤ 16 := by
      have : 2 ^ P ≤ 2 ^ 4 := Nat.pow_le_pow_right (by omega) hP4
      omega
    have hPk : P * k ≤ 4 * 12 := Nat.mul_le_mul hP4 (by omega)
    obtain ⟨r, er, c, hR, hK, hsum⟩ := hrun_ok hN V hP4 hP (lets_ok P hP4) (n := k) (by omega)
    have hb : sumf acc.length c ≤ 9007199254740992 := by
      rw [hsum, htwo, ← Nat.pow_mul]
      have h2 : 2 ^ (P * k) ≤ 2 ^ (4 * 12) := Nat.pow_le_pow_right (by omega) hPk
      have h3 : 2 ^ (4 * 12) ≤ 9007199254740992 := by decide
      exact Nat.le_trans h2 h3
    have hAfter : odds_After 1000000 p acc gd nd (List.take P half4) (k : Int) = some (r.1, 0) := by
      unfold odds_After
      rw [a1, Option.bind_some, if_pos rfl, er, Option.bind_some]
    obtain ⟨s, es, hs⟩ := hacc_ok (N := 1000000) (nd := nd) (gd := gd) (by omega) hR hb (by omega) (two p) 1000000 0 0 (by omega) (by omega) (by rw [fV_0]; exact (Nat.zero_mul _).symm)
    have es' : odds_Accept_l0 1000000 acc (r.1, 0) 1000000 0 0 = some s := es
    have hAcc : odds_Accept 1000000 p acc gd nd (List.take P half4) (k : Int) = some (s, 0) := by
      unfold odds_Accept
      rw [hAfter, Option.bind_some, es', Option.bind_some]
    rw [hAcc, Count_ok hN V hC h16 (by omega), Option.bind_some, Option.bind_some]
    have hKle : bwv acc nd gd (two p) k 0 ≤ 9007199254740992 := by
      refine Nat.le_trans (bwv_le k 0) ?_
      rw [← hsum]; exact hb
    rw [hK] at hs
    generalize bwv acc nd gd (two p) k 0 = K at *
    have hj1 : law27_OddsHalves_j1 1000000 (s, 0) ((K : Int), 0) = some false := rfl
    rw [hj1, Option.bind_some, if_neg (by simp)]
    have fs : Fin_ s := fin_of (c := K) (e := 1074 - P * k) hKle (by omega) (Nat.le_of_eq hs)
    obtain ⟨x, ex, hx⟩ := nearest_nat hKle
    have ht : FloatKind.nearest .f64 (shlV .u64 1 ((k : Int) * p)) = (1023 + P * k) * 4503599627370496 := by
      have e1 : (k : Int) * p = ((P * k : Nat) : Int) := by rw [hP, Int.natCast_mul, Int.mul_comm]
      rw [e1]
      exact near_two ⟨P * k, by omega⟩
    have hd := div_exact (x := x) (k := K) (m := P * k) (B := s) hKle (by omega) hx hs
    have hkp : (k : Int) * p = ((P * k : Nat) : Int) := by rw [hP, Int.natCast_mul, Int.mul_comm]
    have hj3 : law27_OddsHalves_j3 1000000 p true (k : Int) (s, 0) ((K : Int), 0) = some true := by
      unfold law27_OddsHalves_j3
      dsimp only
      rw [if_pos rfl, ht, ex, hd, hkp]
      unfold ask
      rw [if_pos (by unfold in64; omega), if_pos (by omega), Option.bind_some, if_pos (fEq_refl fs), Signbit_ok fs, Option.bind_some]
      rfl
    rw [hj3, Option.bind_some]
    exact Ok.pure rfl
  · have hAfter : odds_After 1000000 p acc gd nd (List.take P half4) (k : Int) = some ([], e) := by
      unfold odds_After
      rw [a1, Option.bind_some, if_neg h0]
    have es' : odds_Accept_l0 1000000 acc ([], e) 1000000 0 0 = some 0 := rfl
    have hAcc : odds_Accept 1000000 p acc gd nd (List.take P half4) (k : Int) = some (0, e) := by
      unfold odds_Accept
      rw [hAfter, Option.bind_some, es', Option.bind_some]
    have hTab : lang_table 1000000 p acc gd nd = some ([], e) := by
      unfold lang_table
      rw [hC, Option.bind_some, if_neg h0]
    have hCnt : lang_Count 1000000 p acc gd nd (k : Int) = some (0, e) := by
      unfold lang_Count
      rw [hTab, Option.bind_some, if_neg h0]
    rw [hAcc, hCnt, Option.bind_some, Option.bind_some]
    have hj1 : law27_OddsHalves_j1 1000000 (0, e) (0, e) = some true := by
      unfold law27_OddsHalves_j1
      rw [if_neg h0]
    have hj2 : law27_OddsHalves_j2 1000000 true (0, e) = some true := by
      unfold law27_OddsHalves_j2
      rw [if_pos rfl]
      have : fEq 0 0 = true := fEq_refl (by show 0 < 9218868437227405312; omega)
      rw [this]
    rw [hj1, Option.bind_some, if_pos rfl, hj2, Option.bind_some]
    exact Ok.pure rfl

theorem oddsHalves_row (w0 : World) (p : Int) (A1 A2 A3 : Option Addr) (c1 c2 c3 : Nat) (acc : List Bool) (gd : List Int) (nd : List Nd) (n : Int)
    (k1 : acc.length ≤ c1) (k2 : gd.length ≤ c2) (k3 : nd.length ≤ c3)
    (C1 : C cBool w0 (Lo w0.heap.size) A1 acc) (C2 : C (cInt .i64) w0 (Lo w0.heap.size) A2 gd) (C3 : C cNode w0 (Lo w0.heap.size) A3 nd) (hw : ∀ x ∈ nd, x.wf) :
    Calls Try.prog 6 #[.agg #[.int .i64 p, .slice A1 acc.length c1, .slice A2 gd.length c2, .slice A3 nd.length c3], .int .i64 n] w0 fun e w' => ∃ v, e = .returned v ∧ (v = .bool true ∧ Ext w0 w') :=
  (law27_OddsHalves_calls A1 c1 A2 c2 A3 c3 p acc gd nd n k1 k2 k3 (((Hp.start w0).arg C1).arg C2 |>.arg C3) (oddsHalves_true hw)).mono fun e w' ⟨v, he, hv, H⟩ => ⟨v, he, hv, H.chgd.own⟩
end Go.V
