/- Plain theory: sums; what is exact. No program. -/
import Derived.Test.YtbgpakdldcfhiaaFL2
set_option linter.all false
set_option linter.unusedVariables false
set_option exponentiation.threshold 3000
set_option maxRecDepth 100000
namespace Go.V
open Go

/-! ### sums -/
def sumf : Nat → (Nat → Nat) → Nat
  | 0, _ => 0
  | n + 1, f => sumf n f + f n
theorem sumf_congr {f g : Nat → Nat} : ∀ {n : Nat}, (∀ k, k < n → f k = g k) → sumf n f = sumf n g
  | 0, _ => rfl
  | n + 1, h => by
    unfold sumf
    rw [sumf_congr fun k hk => h k (by omega), h n (by omega)]
theorem sumf_zero {f : Nat → Nat} : ∀ {n : Nat}, (∀ k, k < n → f k = 0) → sumf n f = 0
  | 0, _ => rfl
  | n + 1, h => by
    unfold sumf
    rw [sumf_zero fun k hk => h k (by omega), h n (by omega)]
theorem sumf_le {f g : Nat → Nat} : ∀ {n : Nat}, (∀ k, k < n → f k ≤ g k) → sumf n f ≤ sumf n g
  | 0, _ => Nat.le_refl _
  | n + 1, h => by
    unfold sumf
    exact Nat.add_le_add (sumf_le fun k hk => h k (by omega)) (h n (by omega))
theorem sumf_one {f : Nat → Nat} {t : Nat} : ∀ {n : Nat}, t < n → f t ≤ sumf n f
  | 0, h => by omega
  | n + 1, h => by
    unfold sumf
    by_cases c : t = n
    · subst c; omega
    · have := sumf_one (f := f) (t := t) (n := n) (by omega)
      omega
theorem sumf_mono {f : Nat → Nat} {m n : Nat} (h : m ≤ n) : sumf m f ≤ sumf n f := by
  induction n with
  | zero => have : m = 0 := by omega
            subst this; exact Nat.le_refl _
  | succ n ih =>
    by_cases c : m = n + 1
    · subst c; exact Nat.le_refl _
    · have := ih (by omega)
      show sumf m f ≤ sumf n f + f n
      omega
theorem sumf_const {c : Nat} : ∀ {n : Nat}, sumf n (fun _ => c) = n * c
  | 0 => by simp [sumf]
  | n + 1 => by
    unfold sumf
    rw [sumf_const, Nat.add_mul, Nat.one_mul]
theorem sumf_mulr {f : Nat → Nat} {c : Nat} : ∀ {n : Nat}, sumf n (fun k => f k * c) = sumf n f * c
  | 0 => by simp [sumf]
  | n + 1 => by
    unfold sumf
    rw [sumf_mulr, Nat.add_mul]
/-- what weighs so much is added in one place -/
theorem sumf_upd {f g v : Nat → Nat} {A t : Nat} : ∀ {n : Nat}, t < n → (∀ k, k < n → g k = if t = k then f t + A else f k) → sumf n (fun k => g k * v k) = sumf n (fun k => f k * v k) + A * v t
  | 0, h, _ => by omega
  | n + 1, h, hg => by
    unfold sumf
    by_cases c : t = n
    · subst c
      have e : sumf t (fun k => g k * v k) = sumf t (fun k => f k * v k) := sumf_congr fun k hk => by
        have := hg k (by omega)
        rw [if_neg (by omega)] at this
        rw [this]
      have hgt := hg t (by omega)
      rw [if_pos rfl] at hgt
      show sumf t (fun k => g k * v k) + g t * v t = sumf t (fun k => f k * v k) + f t * v t + A * v t
      rw [e, hgt, Nat.add_mul]
      omega
    · have ih := sumf_upd (f := f) (g := g) (v := v) (A := A) (t := t) (n := n) (by omega) fun k hk => hg k (by omega)
      have hgn := hg n (by omega)
      rw [if_neg c] at hgn
      show sumf n (fun k => g k * v k) + g n * v n = sumf n (fun k => f k * v k) + f n * v n + A * v t
      rw [ih, hgn]
      omega

/-! ### what is exact -/
theorem near_exact {mag a b B : Nat} (hB : B ≤ 9218868437227405312) (h : fV B * 2 ^ b = mag * 2 ^ a) : Ieee.double.nearest false mag (-1074 + (a : Int) - (b : Int)) = B := by
  obtain ⟨h1, h2⟩ := near_spec mag a b
  have a1 := h1 B (Nat.le_of_eq h.symm)
  have a2 := h2 B hB (Nat.le_of_eq h)
  omega
theorem fin_of {a c e : Nat} (hc : c ≤ 9007199254740992) (he : e ≤ 1500) (h : fV a ≤ c * 2 ^ e) : Fin_ a := by
  obtain ⟨B, h1, h2⟩ := fV_rep e c (by omega)
  rw [← h1] at h
  have h3 := fV_le_inv h
  have h4 : e * 4503599627370496 ≤ 1500 * 4503599627370496 := Nat.mul_le_mul_right _ he
  show a < 9218868437227405312
  clear h h1
  omega
theorem rep_fin {c e : Nat} (hc : c ≤ 9007199254740992) (he : e ≤ 1500) : ∃ B, fV B = c * 2 ^ e ∧ Fin_ B := by
  obtain ⟨B, h1, h2⟩ := fV_rep e c hc
  exact ⟨B, h1, fin_of hc he (Nat.le_of_eq h1)⟩
theorem add_exact {a b A B e : Nat} (hc : A + B ≤ 9007199254740992) (he : e ≤ 1500) (ha : fV a = A * 2 ^ e) (hb : fV b = B * 2 ^ e) : ∃ z, fAdd a b = some z ∧ fV z = (A + B) * 2 ^ e := by
  have fa := fin_of (by omega) he (Nat.le_of_eq ha)
  have fb := fin_of (by omega) he (Nat.le_of_eq hb)
  obtain ⟨z, ez, z1, z2⟩ := fAdd_spec fa fb
  obtain ⟨C, h1, h2⟩ := rep_fin hc he
  have hs : fV a + fV b = fV C := by rw [ha, hb, h1, Nat.add_mul]
  have a1 := z1 C (Nat.le_of_eq hs)
  have a2 := z2 C (Nat.le_of_lt h2) (Nat.le_of_eq hs.symm)
  exact ⟨z, ez, by rw [show z = C by omega, h1]⟩
theorem mul_exact {a b A e P : Nat} (hc : A ≤ 9007199254740992) (he : e ≤ 1500) (hP : P ≤ e) (hP2 : P ≤ 1074) (ha : fV a = A * 2 ^ e) (hb : fV b = 2 ^ (1074 - P)) : ∃ z, fMul a b = some z ∧ fV z = A * 2 ^ (e - P) := by
  have fa := fin_of (by omega) he (Nat.le_of_eq ha)
  have fb := fin_of (a := b) (c := 1) (e := 1074 - P) (by omega) (by omega) (by rw [Nat.one_mul, hb]; exact Nat.le_refl _)
  obtain ⟨z, ez, z1, z2⟩ := fMul_spec fa fb
  obtain ⟨C, h1, h2⟩ := rep_fin (e := e - P) hc (by omega)
  have hs : fV a * fV b = fV C * 2 ^ 1074 := by
    rw [ha, hb, h1, Nat.mul_assoc, ← Nat.pow_add, Nat.mul_assoc, ← Nat.pow_add]
    congr 2
    omega
  have a1 := z1 C (Nat.le_of_eq hs)
  have a2 := z2 C (Nat.le_of_lt h2) (Nat.le_of_eq hs.symm)
  exact ⟨z, ez, by rw [show z = C by omega, h1]⟩
theorem nearest_nat {k : Nat} (hk : k ≤ 9007199254740992) : ∃ z, FloatKind.nearest .f64 (k : Int) = z ∧ fV z = k * 2 ^ 1074 := by
  obtain ⟨C, h1, h2⟩ := rep_fin (e := 1074) hk (by omega)
  refine ⟨C, ?_, h1⟩
  have := near_exact (mag := k) (a := 1074) (b := 0) (B := C) (Nat.le_of_lt h2) (by rw [Nat.pow_zero, Nat.mul_one]; exact h1)
  rw [show (-1074 + ((1074 : Nat) : Int) - ((0 : Nat) : Int)) = 0 by omega] at this
  rw [← this]
  show Ieee.double.nearest (decide ((k : Int) < 0)) ((k : Int)).natAbs 0 = _
  rw [decide_eq_false (by omega), Int.natAbs_natCast]
theorem log2_eq {m : Nat} (h1 : 4503599627370496 ≤ m) (h2 : m < 9007199254740992) : m.log2 = 52 := by
  have a : 52 ≤ m.log2 := (Nat.le_log2 (by omega)).2 (by have : 2 ^ 52 = 4503599627370496 := by decide
                                                         omega)
  have b : m.log2 < 53 := (Nat.log2_lt (by omega)).2 (by have : 2 ^ 53 = 9007199254740992 := by decide
                                                         omega)
  omega
/-- over a power of two -/
theorem div_exact {x k m B : Nat} (hk : k ≤ 9007199254740992) (hm : m ≤ 100) (hx : fV x = k * 2 ^ 1074) (hB : fV B = k * 2 ^ (1074 - m)) : fDiv x ((1023 + m) * 4503599627370496) = some B := by
  have fx := fin_of hk (show 1074 ≤ 1500 by omega) (Nat.le_of_eq hx)
  have fB := fin_of (a := B) hk (show 1074 - m ≤ 1500 by omega) (Nat.le_of_eq hB)
  have fy : Fin_ ((1023 + m) * 4503599627370496) := by show _ < 9218868437227405312; omega
  show ((Ieee.double.read x).quotient (Ieee.double.fractionBits + 2) (Ieee.double.read ((1023 + m) * 4503599627370496))).map Ieee.double.write = _
  have gy : fMg ((1023 + m) * 4503599627370496) = 4503599627370496 := by
    unfold fMg
    rw [if_neg (by omega)]
    omega
  have py : fP ((1023 + m) * 4503599627370496) = 1022 + m := by
    unfold fP
    omega
  rw [read_spec fx, read_spec fy, gy, py]
  unfold Ieee.Datum.quotient
  dsimp only
  rw [if_neg (by omega), f_frac, log2_eq (m := 4503599627370496) (by omega) (by omega)]
  by_cases hk0 : k = 0
  · subst hk0
    have hx0 : x = 0 := by
      have : fV x ≤ fV 0 := by rw [hx, Nat.zero_mul]; exact Nat.zero_le _
      have := fV_le_inv this
      omega
    have hB0 : B = 0 := by
      have : fV B ≤ fV 0 := by rw [hB, Nat.zero_mul]; exact Nat.zero_le _
      have := fV_le_inv this
      omega
    subst hx0; subst hB0
    have g0 : fMg 0 = 0 := by decide
    rw [g0, Nat.shiftLeft_eq, Nat.zero_mul, Nat.zero_div, Nat.zero_mod]
    show some (Ieee.double.nearest (false ^^ false) _ _) = some 0
    unfold Ieee.Format.nearest
    rw [if_pos (by decide)]
    decide
  · have hx1 : 4607182418800017408 ≤ x := by
      refine fV_le_inv ?_
      rw [fV_one, hx]
      have := Nat.mul_le_mul_right (2 ^ 1074) (show 1 ≤ k by omega)
      rw [Nat.one_mul] at this
      exact this
    have hg : fMg x = 4503599627370496 + x % 4503599627370496 := by
      unfold fMg
      rw [if_neg (by omega)]
    have hg1 : 4503599627370496 ≤ fMg x := by omega
    have hg2 : fMg x < 9007199254740992 := by omega
    have hmp := fV_mp x
    generalize hM : fMg x = M at *
    generalize hP : fP x = Pp at *
    rw [log2_eq hg1 hg2, Nat.shiftLeft_eq]
    have e1 : M * 2 ^ (52 + 2 + 52 - 52) = 4503599627370496 * (M * 4) := by
      have : 2 ^ (52 + 2 + 52 - 52) = 18014398509481984 := by decide
      rw [this]
      omega
    rw [e1, Nat.mul_div_cancel_left _ (by omega), Nat.mul_mod_right]
    show some (Ieee.double.nearest (false ^^ false) (2 * (M * 4) + 0) (-1074 + (Pp : Int) - (-1074 + ((1022 + m : Nat) : Int)) - ((52 + 2 + 52 - 52 : Nat) : Int) - 1)) = _
    have e2 : (-1074 + (Pp : Int) - (-1074 + ((1022 + m : Nat) : Int)) - ((52 + 2 + 52 - 52 : Nat) : Int) - 1) = -1074 + (Pp : Int) - ((m + 3 : Nat) : Int) := by omega
    rw [e2]
    refine congrArg some (near_exact (Nat.le_of_lt fB) ?_)
    rw [hB, Nat.mul_assoc, ← Nat.pow_add, show 1074 - m + (m + 3) = 1074 + 3 by omega, Nat.pow_add, ← Nat.mul_assoc, ← hx, ← hmp]
    have e8 : (2 : Nat) ^ 3 = 8 := by decide
    rw [e8]
    have : (2 * (M * 4) + 0) * 2 ^ Pp = M * 2 ^ Pp * 8 := by
      rw [Nat.add_zero, Nat.mul_assoc M, Nat.mul_comm (2 ^ Pp) 8, ← Nat.mul_assoc M]
      congr 1
      omega
    exact this.symm
theorem fEq_refl {x : Nat} (hx : Fin_ x) : fEq x x = true := by
  show (Ieee.double.order x x == some .eq) = true
  rw [order_spec hx hx, if_neg (by omega), if_pos rfl]
  decide
end Go.V
