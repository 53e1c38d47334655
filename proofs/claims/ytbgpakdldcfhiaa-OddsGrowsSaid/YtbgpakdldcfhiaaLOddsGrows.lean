/- The plain law OddsGrows. No condition. -/
import Derived.Test.YtbgpakdldcfhiaaBOddsGrows
import Derived.Test.YtbgpakdldcfhiaaFL2
import Derived.Test.YtbgpakdldcfhiaaV9
set_option linter.all false
set_option linter.unusedVariables false
set_option exponentiation.threshold 3000
set_option maxRecDepth 1000000
namespace Go.V
open Go Go.Proofs
theorem awake27 : law27_awake 1000000 = some true := by kernel_rfl
section
variable {N : Nat} {p : Int} {acc : List Bool} {gd : List Int} {nd : List Nd}
theorem Pick_ok {N : Nat} {x n : Int} (h1 : 1 ≤ n) (h2 : n ≤ 1000000) : Ok (kit_Pick N x n) fun r => 0 ≤ r ∧ r < n := by
  have k1 := Int.tmod_lt_of_pos x (show 0 < n by omega)
  have k2 := Int.lt_tmod_of_pos x (show 0 < n by omega)
  unfold kit_Pick
  refine Ok.ite (fun h => by omega) fun _ => Ok.ask (by omega) (Ok.ite (fun h => Ok.ask (by unfold in64; omega) (Ok.pure (by omega))) fun h => Ok.pure (by omega))
theorem orows_ok (hN : 5000 ≤ N) (V : Valid p acc gd nd) : ∀ (m : Nat) (wh : List (List Int)) (x : Int), 0 ≤ x → x ≤ acc.length → (acc.length : Int) - x < m → (wh.length : Int) = x →
    (∀ q : Nat, (q : Int) < x → (wh.getD q []).length = two p ∧ ∀ l, l < two p → (wh.getD q []).getD l 0 = (stp nd gd q l : Int)) →
    Ok (odds_run_l0 N p gd nd m wh x) fun r => Tab nd gd acc.length (two p) r
  | 0, wh, x, _, _, h, _, _ => by omega
  | m + 1, wh, x, k0, k1, k2, k3, k5 => by
    have a2 := V.a2
    have gl := V.gl
    unfold odds_run_l0
    rw [gl]
    refine Ok.ite (fun hx => ?_) fun hx => Ok.pure ⟨by omega, fun q hq => (k5 q (by omega)).1, fun q l hq hl => (k5 q (by omega)).2 l hl⟩
    obtain ⟨a, rfl⟩ := Int.eq_ofNat_of_zero_le k0
    rw [Int.toNat_natCast]
    refine Ok.ask (by unfold idx; omega) ?_
    refine (Table_ok hN V (q := a) (by omega)).bind fun r ⟨r1, r2, r3⟩ => ?_
    refine Ok.ask (by simp; omega) (Ok.ask (by unfold in64; omega) ?_)
    refine orows_ok hN V m _ ((a : Int) + 1) (by omega) (by omega) (by omega) (by simp; omega) fun q hq => ?_
    rw [getD_snoc]
    by_cases c : q = a
    · rw [if_pos (by omega), c]
      exact ⟨r2, r3⟩
    · rw [if_neg (by omega)]
      exact k5 q (by omega)
/-- a chance: at most one, or -0 -/
def Chn (x : Nat) : Prop := x ≤ 4607182418800017408 ∨ x = 9223372036854775808
theorem Chn.mul {x y : Nat} (hx : Chn x) (hy : Chn y) : ∃ z, fMul x y = some z ∧ Chn z := by
  rcases hx with hx | hx <;> rcases hy with hy | hy
  · obtain ⟨z, e, h⟩ := fMul_le (x := x) (y := y) (show x < 9218868437227405312 by omega) hy
    exact ⟨z, e, .inl (by omega)⟩
  · subst hy
    exact ⟨_, fMul_nz (show x < 9218868437227405312 by omega), .inr rfl⟩
  · subst hx
    exact ⟨_, fMul_nz' (show y < 9218868437227405312 by omega), .inr rfl⟩
  · subst hx; subst hy
    exact ⟨_, fMul_nznz, .inl (by omega)⟩
theorem Chn.sub {x : Nat} (hx : Chn x) : ∃ z, fSub 4607182418800017408 x = some z ∧ Chn z := by
  rcases hx with hx | hx
  · obtain ⟨z, e, h, _⟩ := fSub_spec (x := 4607182418800017408) (y := x) (show 4607182418800017408 < 9218868437227405312 by omega) hx
    exact ⟨z, e, .inl h⟩
  · subst hx
    exact ⟨_, fSub_nz, .inl (Nat.le_refl _)⟩
theorem Chn.add0 {x : Nat} (hx : Chn x) : ∃ z, fAdd x 0 = some z ∧ z ≤ 4607182418800017408 := by
  rcases hx with hx | hx
  · exact ⟨x, fAdd_0 (show x < 9218868437227405312 by omega), hx⟩
  · subst hx
    exact ⟨_, fAdd_nz0, by omega⟩
theorem let1_ok {ps : List Nat} (h8 : ps.length ≤ 8) (hp : ∀ i, i < ps.length → Chn (ps.getD i 0)) {k : Nat} : ∀ (m i c : Nat), i ≤ ps.length → ps.length - i < m → Chn c → Ok (odds_letters_l1 N ps (k : Int) m c (i : Int)) fun r => Chn r := by
  intro m
  induction m with
  | zero => intro i c _ h; omega
  | succ m ih =>
    intro i c k1 k2 hc
    unfold odds_letters_l1
    refine Ok.ite (fun hx => ?_) fun hx => Ok.pure hc
    have e3 : ((i : Int) + 1) = ((i + 1 : Nat) : Int) := by omega
    have hpi := hp i (by omega)
    rw [Int.toNat_natCast]
    refine Ok.ask (by unfold idx; omega) (Ok.ask (by omega) (Ok.ite (fun _ => ?_) fun _ => ?_))
    · obtain ⟨z, e, hz⟩ := hpi.sub
      obtain ⟨u, e2, hu⟩ := hc.mul hz
      rw [e, Option.bind_some, e2, Option.bind_some, e3]
      exact Ok.ask (by unfold in64; omega) (ih (i + 1) u (by omega) (by omega) hu)
    · obtain ⟨u, e2, hu⟩ := hc.mul hpi
      rw [e2, Option.bind_some, e3]
      exact Ok.ask (by unfold in64; omega) (ih (i + 1) u (by omega) (by omega) hu)
theorem letters_ok (hN : 5000 ≤ N) {ps : List Nat} (h8 : ps.length ≤ 8) (hp : ∀ i, i < ps.length → Chn (ps.getD i 0)) : Ok (odds_letters N ps) fun r => r.length = 2 ^ ps.length ∧ ∀ k, k < 2 ^ ps.length → r.getD k 0 ≤ 4607182418800017408 := by
  have hpow : 1 ≤ 2 ^ ps.length ∧ 2 ^ ps.length ≤ 256 := ⟨Nat.one_le_two_pow, (Nat.pow_le_pow_right (by omega) h8 : 2 ^ ps.length ≤ 2 ^ 8)⟩
  have sh : shlV .i64 1 ((ps.length : Nat) : Int) = ((2 ^ ps.length : Nat) : Int) := (shl_two (p := ((ps.length : Nat) : Int)) ⟨by omega, by omega⟩).1
  have key : ∀ (m : Nat) (out : List Nat) (x : Nat), x ≤ 2 ^ ps.length → 2 ^ ps.length - x < m → out.length = 2 ^ ps.length → (∀ k, k < x → out.getD k 0 ≤ 4607182418800017408) → Ok (odds_letters_l0 N ps m out (x : Int)) fun r => r.length = 2 ^ ps.length ∧ ∀ k, k < 2 ^ ps.length → r.getD k 0 ≤ 4607182418800017408 := by
    intro m
    induction m with
    | zero => intro out x _ h; omega
    | succ m ih =>
      intro out x k1 k2 k3 k4
      unfold odds_letters_l0
      rw [sh, Int.toNat_natCast, List.length_replicate]
      refine Ok.ite (fun hx => ?_) fun hx => Ok.pure ⟨k3, fun k hk => k4 k (by omega)⟩
      have hx' : x < 2 ^ ps.length := by omega
      obtain ⟨c, hc, hcc⟩ := let1_ok (N := N) h8 hp (k := x) N 0 4607182418800017408 (by omega) (by omega) (.inl (Nat.le_refl _))
      have e1 : odds_letters_l1 N ps (x : Int) N 4607182418800017408 0 = some c := hc
      obtain ⟨z, ez, hz⟩ := hcc.add0
      rw [e1, Option.bind_some, ez, Option.bind_some, Int.toNat_natCast]
      refine Ok.ask (by unfold idx; omega) (Ok.ask (by unfold in64; omega) ?_)
      rw [show ((x : Int) + 1) = ((x + 1 : Nat) : Int) by omega]
      refine ih _ (x + 1) (by omega) (by omega) (by rw [List.length_set]; exact k3) fun k hk => ?_
      rw [getD_set (by omega)]
      by_cases d : x = k
      · subst d; rw [if_pos rfl]; exact hz
      · rw [if_neg d]; exact k4 k (by omega)
  unfold odds_letters
  refine Ok.ask (by omega) (Ok.ask (by rw [sh]; omega) ?_)
  refine (key N _ 0 (by omega) (by omega) (by rw [sh, Int.toNat_natCast, List.length_replicate]) fun k hk => by omega).bind fun r hr => Ok.pure hr

/-! ### sums that stay finite -/
theorem fin_of {a c e : Nat} (hc : c ≤ 20000) (he : e ≤ 1500) (h : fV a ≤ c * 2 ^ e) : Fin_ a := by
  obtain ⟨B, h1, h2⟩ := fV_rep e c (by omega)
  rw [← h1] at h
  have h3 := fV_le_inv h
  have h4 : e * 4503599627370496 ≤ 1500 * 4503599627370496 := Nat.mul_le_mul_right _ he
  show a < 9218868437227405312
  clear h h1
  omega
theorem add_bound {a b c e : Nat} (hc : c + 1 ≤ 20000) (he : e ≤ 1500) (ha : fV a ≤ c * 2 ^ e) (hb : fV b ≤ 2 ^ e) : ∃ z, fAdd a b = some z ∧ fV z ≤ (c + 1) * 2 ^ e ∧ a ≤ z := by
  have fa := fin_of (by omega) he ha
  have fb := fin_of (a := b) (c := 1) (by omega) he (by rw [Nat.one_mul]; exact hb)
  obtain ⟨z, ez, z1, z2⟩ := fAdd_spec fa fb
  obtain ⟨B, h1, h2⟩ := fV_rep e (c + 1) (by omega)
  refine ⟨z, ez, ?_, z2 a (Nat.le_of_lt fa) (Nat.le_add_right _ _)⟩
  rw [← h1]
  refine fV_le (z1 B ?_)
  rw [h1, Nat.add_mul, Nat.one_mul]
  exact Nat.add_le_add ha hb
def Bd (n : Nat) (xs : List Nat) (c e : Nat) : Prop := xs.length = n ∧ ∀ k, k < n → fV (xs.getD k 0) ≤ c * 2 ^ e
variable {wh : List (List Int)} {ch : List Nat} {out : Bool}
theorem g3_ok (hN : 5000 ≤ N) (V : Valid p acc gd nd) (T : Tab nd gd acc.length (two p) wh) (hcl : ch.length = two p) (hch : ∀ k, k < two p → ch.getD k 0 ≤ 4607182418800017408) {e : Nat} (he : e ≤ 1443) {now : List Nat} (hnow : Bd acc.length now 1 e) {x : Nat} (hx : x < acc.length) : ∀ (m : Nat) (next : List Nat) (tk y c t : Nat), y ≤ two p → two p - y < m → Bd acc.length next c e → fV tk ≤ t * 2 ^ 1443 → c + (two p - y) ≤ 19000 → t + (two p - y) ≤ 19000 →
    Ok (odds_run_l3 N acc out ch wh now (x : Int) m next tk (y : Int)) fun r => Bd acc.length r.1 (c + (two p - y)) e ∧ fV r.2 ≤ (t + (two p - y)) * 2 ^ 1443 ∧ tk ≤ r.2 := by
  intro m
  induction m with
  | zero => intro next tk y c t _ h; omega
  | succ m ih =>
    intro next tk y c t k1 k2 k3 k4 k5 k6
    have a2 := V.a2
    have sh := shl_two ⟨V.p0, V.p8⟩
    unfold odds_run_l3
    rw [Int.toNat_natCast, T.row x hx]
    refine Ok.ite (fun hy => ?_) fun hy => Ok.pure ?_
    · have hy' : y < two p := by omega
      have hlt := (stp_eq V hx y).2
      have hn1 := hnow.2 x hx
      rw [Nat.one_mul] at hn1
      have fx := fin_of (a := now.getD x 0) (c := 1) (e := e) (by omega) (by omega) (by rw [Nat.one_mul]; exact hn1)
      obtain ⟨q, eq, hq⟩ := fMul_le fx (hch y hy')
      have hqV : fV q ≤ 2 ^ e := Nat.le_trans (fV_le hq) hn1
      have hqM : fV q ≤ 2 ^ 1443 := Nat.le_trans hqV (Nat.pow_le_pow_right (by omega) he)
      rw [Int.toNat_natCast, eq, Option.bind_some, T.at_ x y hx hy', Int.toNat_natCast]
      refine Ok.ask (by unfold idx; omega) (Ok.ask (by unfold idx; omega) ?_)
      have hj4 : ∃ b, odds_run_j4 N acc out wh (x : Int) (y : Int) = some b := by
        have hid : idx ((stp nd gd x y : Nat) : Int) acc.length := ⟨by omega, by omega⟩
        unfold odds_run_j4 ask
        rw [Int.toNat_natCast, Int.toNat_natCast, T.at_ x y hx hy']
        cases out
        · exact ⟨false, rfl⟩
        · rw [if_pos rfl, if_pos hid]
          exact ⟨_, rfl⟩
      obtain ⟨b, hb⟩ := hj4
      rw [hb, Option.bind_some]
      have es : two p - y = (two p - (y + 1)) + 1 := by omega
      refine Ok.ite (fun _ => ?_) fun _ => ?_
      · obtain ⟨z, ez, z1, z2⟩ := add_bound (e := 1443) (by omega) (by omega) k4 hqM
        rw [ez, Option.bind_some]
        refine Ok.ask (by unfold in64; omega) ?_
        rw [show ((y : Int) + 1) = ((y + 1 : Nat) : Int) by omega]
        refine (ih next z (y + 1) c (t + 1) (by omega) (by omega) k3 z1 (by omega) (by omega)).mono fun r ⟨r1, r2, r3⟩ => ⟨⟨r1.1, fun k hk => Nat.le_trans (r1.2 k hk) (Nat.mul_le_mul_right _ (by omega))⟩, Nat.le_trans r2 (Nat.mul_le_mul_right _ (by omega)), Nat.le_trans z2 r3⟩
      · refine Ok.ask (by have := k3.1; unfold idx; omega) ?_
        obtain ⟨z, ez, z1, z2⟩ := add_bound (by omega) (by omega) (k3.2 _ hlt) hqV
        rw [ez, Option.bind_some]
        refine Ok.ask (by unfold in64; omega) ?_
        rw [show ((y : Int) + 1) = ((y + 1 : Nat) : Int) by omega]
        refine (ih _ tk (y + 1) (c + 1) t (by omega) (by omega) ⟨by rw [List.length_set]; exact k3.1, fun k hk => ?_⟩ k4 (by omega) (by omega)).mono fun r ⟨r1, r2, r3⟩ => ⟨⟨r1.1, fun k hk => Nat.le_trans (r1.2 k hk) (Nat.mul_le_mul_right _ (by omega))⟩, Nat.le_trans r2 (Nat.mul_le_mul_right _ (by omega)), r3⟩
        rw [getD_set (by have := k3.1; omega)]
        by_cases d : stp nd gd x y = k
        · rw [if_pos d]; exact z1
        · rw [if_neg d]; exact Nat.le_trans (k3.2 k hk) (Nat.mul_le_mul_right _ (by omega))
    · have e0 : two p - y = 0 := by omega
      rw [e0]
      exact ⟨k3, k4, Nat.le_refl _⟩
theorem g2_ok (hN : 5000 ≤ N) (V : Valid p acc gd nd) (hs : acc.length ≤ 24 ∧ two p ≤ 16) (T : Tab nd gd acc.length (two p) wh) (hcl : ch.length = two p) (hch : ∀ k, k < two p → ch.getD k 0 ≤ 4607182418800017408) {e : Nat} (he : e ≤ 1443) {now : List Nat} (hnow : Bd acc.length now 1 e) : ∀ (m : Nat) (next : List Nat) (tk x c t : Nat), x ≤ acc.length → acc.length - x < m → Bd acc.length next c e → fV tk ≤ t * 2 ^ 1443 → c + 16 * (acc.length - x) ≤ 18000 → t + 16 * (acc.length - x) ≤ 18000 →
    Ok (odds_run_l2 N acc out ch wh now m next tk (x : Int)) fun r => Bd acc.length r.1 (c + 16 * (acc.length - x)) e ∧ fV r.2 ≤ (t + 16 * (acc.length - x)) * 2 ^ 1443 ∧ tk ≤ r.2 := by
  intro m
  induction m with
  | zero => intro next tk x c t _ h; omega
  | succ m ih =>
    intro next tk x c t k1 k2 k3 k4 k5 k6
    have a2 := V.a2
    unfold odds_run_l2
    rw [hnow.1]
    refine Ok.ite (fun hx => ?_) fun hx => Ok.pure ?_
    · have hx' : x < acc.length := by omega
      refine Ok.ask (by unfold idx; omega) (Ok.ask (by unfold idx; have := T.len; omega) ?_)
      refine (g3_ok (N := N) hN V T hcl hch he hnow hx' N next tk 0 c t (by omega) (by omega) k3 k4 (by omega) (by omega)).bind fun r ⟨r1, r2, r3⟩ => ?_
      refine Ok.ask (by unfold in64; omega) ?_
      rw [show ((x : Int) + 1) = ((x + 1 : Nat) : Int) by omega]
      refine (ih r.1 r.2 (x + 1) (c + 16) (t + 16) (by omega) (by omega) ⟨r1.1, fun k hk => Nat.le_trans (r1.2 k hk) (Nat.mul_le_mul_right _ (by omega))⟩ (Nat.le_trans r2 (Nat.mul_le_mul_right _ (by omega))) (by omega) (by omega)).mono fun s ⟨s1, s2, s3⟩ => ⟨⟨s1.1, fun k hk => Nat.le_trans (s1.2 k hk) (Nat.mul_le_mul_right _ (by omega))⟩, Nat.le_trans s2 (Nat.mul_le_mul_right _ (by omega)), Nat.le_trans r3 s3⟩
    · have e0 : acc.length - x = 0 := by omega
      rw [e0]
      exact ⟨k3, k4, Nat.le_refl _⟩
/-- one letter more -/
theorem g2_step (hN : 5000 ≤ N) (V : Valid p acc gd nd) (hs : acc.length ≤ 24 ∧ two p ≤ 16) (T : Tab nd gd acc.length (two p) wh) (hcl : ch.length = two p) (hch : ∀ k, k < two p → ch.getD k 0 ≤ 4607182418800017408) {now next : List Nat} {tk x : Nat} (hx : x ≤ 40) (hnow : Bd acc.length now 1 (1074 + 9 * x)) (hl : next.length = acc.length) (ht : fV tk ≤ (384 * x) * 2 ^ 1443) :
    ∃ r, odds_run_l2 N acc out ch wh now N (List.replicate (List.length next) (0 : Nat)) tk 0 = some r ∧ Bd acc.length r.1 1 (1074 + 9 * (x + 1)) ∧ fV r.2 ≤ (384 * (x + 1)) * 2 ^ 1443 ∧ tk ≤ r.2 := by
  have a2 := V.a2
  obtain ⟨r, e, r1, r2, r3⟩ := g2_ok (N := N) (out := out) hN V hs T hcl hch (e := 1074 + 9 * x) (by omega) hnow N (List.replicate (List.length next) (0 : Nat)) tk 0 0 (384 * x) (by omega) (by omega) ⟨by rw [List.length_replicate]; exact hl, fun k hk => by rw [getD_rep, fV_0]; exact Nat.zero_le _⟩ ht (by omega) (by omega)
  have e' : odds_run_l2 N acc out ch wh now N (List.replicate (List.length next) (0 : Nat)) tk 0 = some r := e
  refine ⟨r, e', ⟨r1.1, fun k hk => ?_⟩, Nat.le_trans r2 (Nat.mul_le_mul_right _ (by omega)), r3⟩
  have h1 := r1.2 k hk
  have h512 : (2 : Nat) ^ 9 = 512 := by decide
  have h2 : (0 + 16 * (acc.length - 0)) * 2 ^ (1074 + 9 * x) ≤ 2 ^ 9 * 2 ^ (1074 + 9 * x) := Nat.mul_le_mul_right _ (by omega)
  rw [← Nat.pow_add] at h2
  have h3 : 9 + (1074 + 9 * x) = 1074 + 9 * (x + 1) := by omega
  rw [h3] at h2
  rw [Nat.one_mul]
  exact Nat.le_trans h1 h2
theorem g1_ok (hN : 5000 ≤ N) (V : Valid p acc gd nd) (hs : acc.length ≤ 24 ∧ two p ≤ 16) (T : Tab nd gd acc.length (two p) wh) (hcl : ch.length = two p) (hch : ∀ k, k < two p → ch.getD k 0 ≤ 4607182418800017408) {kk : Nat} (hk : kk ≤ 40) : ∀ (m : Nat) (now next : List Nat) (tk x : Nat), x ≤ kk → kk + 2 - x ≤ m → Bd acc.length now 1 (1074 + 9 * x) → next.length = acc.length → fV tk ≤ (384 * x) * 2 ^ 1443 →
    ∃ r r', odds_run_l1 N acc (kk : Int) out ch wh m now next tk (x : Int) = some r ∧ odds_run_l1 N acc ((kk + 1 : Nat) : Int) out ch wh m now next tk (x : Int) = some r' ∧ r.1.length = acc.length ∧ (∀ q, q < acc.length → Fin_ (r.1.getD q 0)) ∧ r.2 ≤ r'.2 ∧ Fin_ r'.2 := by
  intro m
  induction m with
  | zero => intro now next tk x _ h; omega
  | succ m ih =>
    intro now next tk x k1 k2 k3 k4 k5
    obtain ⟨s, es, s1, s2, s3⟩ := g2_step (N := N) (out := out) hN V hs T hcl hch (show x ≤ 40 by omega) k3 k4 k5
    have e3 : ((x : Int) + 1) = ((x + 1 : Nat) : Int) := by omega
    have h64 : in64 (((x + 1 : Nat) : Int)) := by unfold in64; omega
    by_cases hx : x < kk
    · obtain ⟨r, r', g1, g2, g3⟩ := ih s.1 now s.2 (x + 1) (by omega) (by omega) s1 k3.1 s2
      refine ⟨r, r', ?_, ?_, g3⟩
      · unfold odds_run_l1 ask
        rw [if_pos (by omega), es, Option.bind_some, e3, if_pos h64, g1]
      · unfold odds_run_l1 ask
        rw [if_pos (by omega), es, Option.bind_some, e3, if_pos h64, g2]
    · have hxe : x = kk := by omega
      obtain ⟨m', rfl⟩ : ∃ m', m = m' + 1 := ⟨m - 1, by omega⟩
      refine ⟨(now, tk), (s.1, s.2), ?_, ?_, k3.1, fun q hq => fin_of (c := 1) (e := 1074 + 9 * x) (by omega) (by omega) (k3.2 q hq), s3, fin_of (e := 1443) (by omega) (by omega) s2⟩
      · unfold odds_run_l1
        rw [if_neg (by omega)]
      · unfold odds_run_l1 ask
        rw [if_pos (by omega), es, Option.bind_some, e3, if_pos h64]
        unfold odds_run_l1
        rw [if_neg (by omega)]
theorem run_two (hN : 5000 ≤ N) (V : Valid p acc gd nd) (hs : acc.length ≤ 24 ∧ two p ≤ 16) {ps : List Nat} (hpl : (ps.length : Int) = p) (hp : ∀ i, i < ps.length → Chn (ps.getD i 0)) {kk : Nat} (hk : kk ≤ 40) (out : Bool) :
    ∃ r r', odds_run N p acc gd nd ps (kk : Int) out = some r ∧ odds_run N p acc gd nd ps ((kk + 1 : Nat) : Int) out = some r' ∧ r.1.length = acc.length ∧ (∀ q, q < acc.length → Fin_ (r.1.getD q 0)) ∧ r.2 ≤ r'.2 ∧ Fin_ r'.2 := by
  have a1 := V.a1
  have a2 := V.a2
  have p8 := V.p8
  have htwo : two p = 2 ^ ps.length := by unfold two; rw [← hpl, Int.toNat_natCast]
  obtain ⟨ch, ec, c1, c2⟩ := letters_ok hN (by omega) hp
  obtain ⟨wh, ew, T⟩ := orows_ok (N := N) hN V N [] 0 (by omega) (by omega) (by omega) rfl fun q h => by omega
  have start : Bd acc.length (List.set (List.replicate (Int.toNat (((List.length acc) : Nat) : Int)) (0 : Nat)) (Int.toNat (0 : Int)) 4607182418800017408) 1 (1074 + 9 * 0) := ⟨by simp, fun k hk => by
    rw [getD_set (by simp; omega), getD_rep, Nat.one_mul]
    split
    · rw [fV_one]; exact Nat.le_refl _
    · rw [fV_0]; exact Nat.zero_le _⟩
  obtain ⟨r, r', g1, g2, g3⟩ := g1_ok (N := N) (out := out) hN V hs T (by omega) (fun k hk => c2 k (by omega)) hk N (List.set (List.replicate (Int.toNat (((List.length acc) : Nat) : Int)) (0 : Nat)) (Int.toNat (0 : Int)) 4607182418800017408) (List.replicate (Int.toNat (((List.length acc) : Nat) : Int)) (0 : Nat)) 0 0 (by omega) (by omega) start (by simp) (by rw [fV_0]; exact Nat.zero_le _)
  refine ⟨(r.1, r.2), (r'.1, r'.2), ?_, ?_, g3⟩
  · unfold odds_run ask
    rw [ec, Option.bind_some, ew, Option.bind_some, if_pos (by omega), if_pos (by unfold idx; simp; omega)]
    have g1' : odds_run_l1 N acc (kk : Int) out ch wh N (List.set (List.replicate (Int.toNat (((List.length acc) : Nat) : Int)) (0 : Nat)) (Int.toNat (0 : Int)) 4607182418800017408) (List.replicate (Int.toNat (((List.length acc) : Nat) : Int)) (0 : Nat)) 0 0 = some r := g1
    rw [g1', Option.bind_some]
  · unfold odds_run ask
    rw [ec, Option.bind_some, ew, Option.bind_some, if_pos (by omega), if_pos (by unfold idx; simp; omega)]
    have g2' : odds_run_l1 N acc ((kk + 1 : Nat) : Int) out ch wh N (List.set (List.replicate (Int.toNat (((List.length acc) : Nat) : Int)) (0 : Nat)) (Int.toNat (0 : Int)) 4607182418800017408) (List.replicate (Int.toNat (((List.length acc) : Nat) : Int)) (0 : Nat)) 0 0 = some r' := g2
    rw [g2', Option.bind_some]

/-! ### what may be asked -/
theorem chances_ok (hN : 5000 ≤ N) {ps : List Nat} (h64 : ∀ i, i < ps.length → ps.getD i 0 < 18446744073709551616) : Ok (odds_chances N ps) fun e => e = 0 → ps.length ≤ 8 ∧ ∀ i, i < ps.length → Chn (ps.getD i 0) := by
  have key : ps.length ≤ 8 → ∀ (m i : Nat), i ≤ ps.length → ps.length - i < m → (∀ j, j < i → Chn (ps.getD j 0)) → Ok (odds_chances_l0 N ps m (i : Int)) fun r => (∃ e, r = .inr e ∧ e ≠ 0) ∨ r = .inl () ∧ ∀ j, j < ps.length → Chn (ps.getD j 0) := by
    intro h8 m
    induction m with
    | zero => intro i _ h; omega
    | succ m ih =>
      intro i k1 k2 k3
      unfold odds_chances_l0
      refine Ok.ite (fun hx => ?_) fun hx => Ok.pure (.inr ⟨rfl, fun j hj => k3 j (by omega)⟩)
      rw [Int.toNat_natCast]
      refine Ok.ask (by unfold idx; omega) (Ok.ite (fun h1 => Ok.ite (fun h2 => ?_) fun _ => Ok.pure (.inl ⟨2, rfl, by omega⟩)) fun _ => Ok.pure (.inl ⟨2, rfl, by omega⟩))
      refine Ok.ask (by unfold in64; omega) ?_
      rw [show ((i : Int) + 1) = ((i + 1 : Nat) : Int) by omega]
      refine ih (i + 1) (by omega) (by omega) fun j hj => ?_
      by_cases d : j = i
      · subst d; exact chance_inv (h64 j (by omega)) h1 h2
      · exact k3 j (by omega)
  unfold odds_chances
  refine Ok.ite (fun _ => Ok.pure fun h => by omega) fun h8 => ?_
  have := key (by omega) N 0 (by omega) (by omega) fun j hj => by omega
  refine this.bind fun r hr => ?_
  rcases hr with ⟨e, rfl, he⟩ | ⟨rfl, h⟩
  · exact Ok.pure fun h => absurd h he
  · exact Ok.pure fun _ => ⟨by omega, h⟩
theorem asked_ok (hN : 5000 ≤ N) (hw : ∀ x ∈ nd, x.wf) {ps : List Nat} (h64 : ∀ i, i < ps.length → ps.getD i 0 < 18446744073709551616) {kk : Nat} (hk : kk ≤ 40) : ∃ e, odds_asked N p acc gd nd ps (kk : Int) = some e ∧ odds_asked N p acc gd nd ps ((kk + 1 : Nat) : Int) = some e ∧ (e = 0 → Valid p acc gd nd ∧ (ps.length : Int) = p ∧ ∀ i, i < ps.length → Chn (ps.getD i 0)) := by
  obtain ⟨e, hC, he⟩ := guard_Check_ok (N := N) (p := p) (acc := acc) (gd := gd) hN hw
  obtain ⟨c, hc, hcc⟩ := chances_ok (N := N) hN h64
  unfold odds_asked
  rw [hC, Option.bind_some, Option.bind_some, hc, Option.bind_some, Option.bind_some]
  by_cases h0 : e = 0
  · rw [if_pos h0, if_pos h0]
    by_cases h1 : (((List.length ps) : Nat) : Int) = p
    · rw [if_pos h1, if_pos h1]
      by_cases h2 : c = 0
      · rw [if_pos h2, if_pos h2, if_neg (by omega), if_neg (by omega), if_neg (by omega), if_neg (by omega)]
        exact ⟨0, rfl, rfl, fun _ => ⟨he.2 h0, h1, (hcc h2).2⟩⟩
      · rw [if_neg h2, if_neg h2]
        exact ⟨2, rfl, rfl, fun h => by omega⟩
    · rw [if_neg h1, if_neg h1]
      exact ⟨2, rfl, rfl, fun h => by omega⟩
  · rw [if_neg h0, if_neg h0]
    exact ⟨e, rfl, rfl, fun h => absurd h h0⟩
theorem reals_ok {bs : List Int} (hb : ∀ x ∈ bs, 0 ≤ x ∧ x ≤ 18446744073709551615) (hl : bs.length ≤ 12) (hN : 5000 ≤ N) : Ok (law27_reals N bs) fun r => r.length = bs.length ∧ ∀ i, i < r.length → r.getD i 0 < 18446744073709551616 := by
  have key : ∀ (m : Nat) (o : List Nat) (i : Nat), i ≤ bs.length → bs.length - i < m → o.length = i → (∀ j, j < o.length → o.getD j 0 < 18446744073709551616) → Ok (law27_reals_l0 N bs m o (i : Int)) fun r => r.length = bs.length ∧ ∀ i, i < r.length → r.getD i 0 < 18446744073709551616 := by
    intro m
    induction m with
    | zero => intro o i _ h; omega
    | succ m ih =>
      intro o i k1 k2 k3 k4
      unfold law27_reals_l0
      refine Ok.ite (fun hx => ?_) fun hx => Ok.pure ⟨by omega, k4⟩
      have hm := hb _ (getD_mem (d := 0) (i := (i : Int)) (by omega) hx)
      rw [Int.toNat_natCast] at hm ⊢
      refine Ok.ask (by unfold idx; omega) (Ok.ask (by simp; omega) (Ok.ask (by unfold in64; omega) ?_))
      rw [show ((i : Int) + 1) = ((i + 1 : Nat) : Int) by omega]
      refine ih _ (i + 1) (by omega) (by omega) (by rw [List.length_append, List.length_singleton]; omega) fun j hj => ?_
      rw [getD_snoc]
      by_cases d : j = o.length
      · rw [if_pos d]; omega
      · rw [if_neg d]
        rw [List.length_append, List.length_singleton] at hj
        exact k4 j (by omega)
  unfold law27_reals
  exact (key N [] 0 (by omega) (by omega) rfl fun j hj => by simp at hj).bind fun r hr => Ok.pure hr
theorem Signbit_ok {x : Nat} (h : Fin_ x) : math_Signbit N x = some false := by
  have h : x < 9218868437227405312 := h
  unfold math_Signbit ask
  rw [if_pos (by unfold in64; omega), decide_eq_false (by omega)]
theorem l2_ok {v : List Nat} {z : Int} (hv : ∀ q, q < v.length → Fin_ (v.getD q 0)) (hl : v.length ≤ 1000) : ∀ (m i : Nat), i ≤ v.length → v.length - i < m → law27_OddsGrows_l2 N (v, z) m (i : Int) = some (.inl ()) := by
  intro m
  induction m with
  | zero => intro i _ h; omega
  | succ m ih =>
    intro i k1 k2
    unfold law27_OddsGrows_l2
    by_cases hx : (i : Int) < (((List.length ((v, z).1)) : Nat) : Int)
    · have hx' : i < v.length := by have hx : (i : Int) < ((v.length : Nat) : Int) := hx; omega
      have h1 : idx (i : Int) (List.length ((v, z).1)) := ⟨by omega, hx⟩
      have hf : Fin_ (List.getD ((v, z).1) i 0) := hv i hx'
      have hj : law27_OddsGrows_j3 N (v, z) (i : Int) = some false := by
        unfold law27_OddsGrows_j3 ask
        rw [if_pos h1, Int.toNat_natCast, if_pos (fGe_ok hf (Nat.zero_le _)), Signbit_ok hf, Option.bind_some]
      have h64 : in64 (((i + 1 : Nat) : Int)) := by unfold in64; omega
      rw [if_pos hx, hj, Option.bind_some, if_neg (by simp), show ((i : Int) + 1) = ((i + 1 : Nat) : Int) by omega]
      unfold ask
      rw [if_pos h64]
      exact ih (i + 1) (by omega) (by omega)
    · rw [if_neg hx]
end

theorem oddsGrows_true {p : Int} {acc : List Bool} {gd : List Int} {nd : List Nd} {bs : List Int} {n : Int} (hw : ∀ x ∈ nd, x.wf) (hb : ∀ x ∈ bs, 0 ≤ x ∧ x ≤ 18446744073709551615) :
    law27_OddsGrows 1000000 p acc gd nd bs n = some true := by
  have hN : 5000 ≤ 1000000 := by omega
  refine Ok.eq ?_
  unfold law27_OddsGrows
  rw [awake27, Option.bind_some]
  have hS : Ok (law27_OddsGrows_j0 1000000 p acc gd nd bs) fun r => r = false → acc.length ≤ 24 ∧ p ≤ 4 ∧ bs.length ≤ 12 := by
    unfold law27_OddsGrows_j0
    have hS : Ok (law16_Small 1000000 p acc gd nd) fun r => r = true → acc.length ≤ 24 ∧ p ≤ 4 := by
      unfold law16_Small
      repeat' (first | exact Ok.pure fun h => by cases h | exact Ok.pure fun _ => by omega | refine Ok.ite (fun _ => ?_) fun _ => ?_)
    refine hS.bind fun b hb => Ok.ite (fun h => Ok.pure fun h2 => ?_) fun _ => Ok.pure fun h => by cases h
    have := of_decide_eq_false h2
    have := hb h
    omega
  refine hS.bind fun b hbb => ?_
  refine Ok.ite (fun _ => Ok.pure rfl) fun hbf => ?_
  obtain ⟨s1, s2, s3⟩ := hbb (by cases b <;> simp_all)
  refine (Pick_ok (by omega) (by omega)).bind fun r ⟨r0, r1⟩ => ?_
  obtain ⟨kk, rfl⟩ := Int.eq_ofNat_of_zero_le r0
  refine (reals_ok hb s3 hN).bind fun ps ⟨p1, p2⟩ => ?_
  obtain ⟨e, a1, a2, a3⟩ := asked_ok (N := 1000000) (p := p) (acc := acc) (gd := gd) (nd := nd) hN hw p2 (kk := kk) (by omega)
  have ek : ((kk : Int) + 1) = ((kk + 1 : Nat) : Int) := by omega
  rw [ek]
  by_cases h0 : e = 0
  · obtain ⟨V, hpl, hch⟩ := a3 h0
    have p0 := V.p0
    have t16 : two p ≤ 16 := by
      have : two p ≤ 2 ^ 4 := Nat.pow_le_pow_right (by omega) (by omega)
      exact this
    obtain ⟨r, r', g1, g2, g3, g4, g5, g6⟩ := run_two (N := 1000000) hN V ⟨s1, t16⟩ hpl hch (kk := kk) (by omega) true
    obtain ⟨v, v', h1, h2, h3, h4, h5, h6⟩ := run_two (N := 1000000) hN V ⟨s1, t16⟩ hpl hch (kk := kk) (by omega) false
    have w1 : odds_Within 1000000 p acc gd nd ps (kk : Int) = some (r.2, 0) := by
      unfold odds_Within
      rw [a1, Option.bind_some, if_pos h0, g1, Option.bind_some]
    have w2 : odds_Within 1000000 p acc gd nd ps ((kk + 1 : Nat) : Int) = some (r'.2, 0) := by
      unfold odds_Within
      rw [a2, Option.bind_some, if_pos h0, g2, Option.bind_some]
    have w3 : odds_After 1000000 p acc gd nd ps (kk : Int) = some (v.1, 0) := by
      unfold odds_After
      rw [a1, Option.bind_some, if_pos h0, h1, Option.bind_some]
    rw [w1, w2, w3, Option.bind_some, Option.bind_some]
    refine Ok.ask (by unfold in64; omega) ?_
    rw [Option.bind_some]
    have hj1 : law27_OddsGrows_j1 1000000 (r.2, 0) (r'.2, 0) (v.1, 0) = some false := rfl
    have hl2 := l2_ok (N := 1000000) (v := v.1) (z := 0) (fun q hq => h4 q (by omega)) (by omega) 1000000 0 (by omega) (by omega)
    have hl2' : law27_OddsGrows_l2 1000000 (v.1, 0) 1000000 0 = some (.inl ()) := hl2
    have fx : Fin_ r.2 := Nat.lt_of_le_of_lt g5 g6
    have hj4 : law27_OddsGrows_j4 1000000 true (r.2, 0) (r'.2, 0) = some true := by
      unfold law27_OddsGrows_j4
      rw [if_pos rfl, if_pos (fGe_ok fx (Nat.zero_le _)), if_pos (fGe_ok g6 g5), Signbit_ok fx, Option.bind_some]
      rfl
    rw [hj1, Option.bind_some, if_neg (by simp), hl2', Option.bind_some, Sum.elim_inl, hj4, Option.bind_some]
    exact Ok.pure rfl
  · have w1 : odds_Within 1000000 p acc gd nd ps (kk : Int) = some (0, e) := by
      unfold odds_Within
      rw [a1, Option.bind_some, if_neg h0]
    have w2 : odds_Within 1000000 p acc gd nd ps ((kk + 1 : Nat) : Int) = some (0, e) := by
      unfold odds_Within
      rw [a2, Option.bind_some, if_neg h0]
    have w3 : odds_After 1000000 p acc gd nd ps (kk : Int) = some ([], e) := by
      unfold odds_After
      rw [a1, Option.bind_some, if_neg h0]
    rw [w1, w2, w3, Option.bind_some, Option.bind_some]
    refine Ok.ask (by unfold in64; omega) ?_
    rw [Option.bind_some]
    have hj1 : law27_OddsGrows_j1 1000000 (0, e) (0, e) ([], e) = some false := by
      unfold law27_OddsGrows_j1
      dsimp only
      rw [if_pos rfl]
      simp
    have hl2 := l2_ok (N := 1000000) (v := []) (z := e) (fun q hq => by simp at hq) (by simp) 1000000 0 (by simp) (by simp)
    have hl2' : law27_OddsGrows_l2 1000000 ([], e) 1000000 0 = some (.inl ()) := hl2
    have f0 : Fin_ 0 := by show 0 < 9218868437227405312; omega
    have hj4 : law27_OddsGrows_j4 1000000 true (0, e) (0, e) = some true := by
      unfold law27_OddsGrows_j4
      rw [if_pos rfl, if_pos (fGe_ok f0 (Nat.zero_le _)), if_pos (fGe_ok f0 (Nat.zero_le _)), Signbit_ok f0, Option.bind_some]
      rfl
    rw [hj1, Option.bind_some, if_neg (by simp), hl2', Option.bind_some, Sum.elim_inl, hj4, Option.bind_some]
    exact Ok.pure rfl

theorem oddsGrows_row (w0 : World) (p : Int) (A1 A2 A3 : Option Addr) (c1 c2 c3 : Nat) (acc : List Bool) (gd : List Int) (nd : List Nd) (A4 : Option Addr) (c4 : Nat) (bs : List Int) (n : Int)
    (k1 : acc.length ≤ c1) (k2 : gd.length ≤ c2) (k3 : nd.length ≤ c3) (k4 : bs.length ≤ c4)
    (C1 : C cBool w0 (Lo w0.heap.size) A1 acc) (C2 : C (cInt .i64) w0 (Lo w0.heap.size) A2 gd) (C3 : C cNode w0 (Lo w0.heap.size) A3 nd) (C4 : C (cInt .u64) w0 (Lo w0.heap.size) A4 bs) (hw : ∀ x ∈ nd, x.wf) (hb : ∀ x ∈ bs, 0 ≤ x ∧ x ≤ 18446744073709551615) :
    Calls Try.prog 3 #[.agg #[.int .i64 p, .slice A1 acc.length c1, .slice A2 gd.length c2, .slice A3 nd.length c3], .slice A4 bs.length c4, .int .i64 n] w0 fun e w' => ∃ v, e = .returned v ∧ (v = .bool true ∧ Ext w0 w') :=
  (law27_OddsGrows_calls A1 c1 A2 c2 A3 c3 A4 c4 p acc gd nd bs n k1 k2 k3 k4 ((((Hp.start w0).arg C1).arg C2).arg C3 |>.arg C4) (oddsGrows_true hw hb)).mono fun e w' ⟨v, he, hv, H⟩ => ⟨v, he, hv, H.chgd.own⟩
end Go.V
