/- Plain theory: what the operations on numbers with a point give. No program. -/
import Derived.Test.YtbgpakdldcfhiaaFL
set_option linter.all false
set_option linter.unusedVariables false
set_option maxRecDepth 100000
namespace Go.V
open Go

def fMg (x : Nat) : Nat := if x < 4503599627370496 then x else 4503599627370496 + x % 4503599627370496
def fP (x : Nat) : Nat := x / 4503599627370496 - 1
theorem fV_mp (x : Nat) : fMg x * 2 ^ fP x = fV x := by
  unfold fMg fP fV
  by_cases c : x < 4503599627370496
  · rw [if_pos c, if_pos c, show x / 4503599627370496 - 1 = 0 by omega]; simp
  · rw [if_neg c, if_neg c]
theorem f64_format : FloatKind.format .f64 = Ieee.double := rfl
/-- finite, of no sign -/
abbrev Fin_ (x : Nat) : Prop := x < 9218868437227405312
theorem read_spec {x : Nat} (h : Fin_ x) : Ieee.double.read x = .number false (fMg x) (-1074 + (fP x : Int)) := by
  unfold Ieee.Format.read
  rw [f_sign, f_bin, f_inf, f_least]
  have h1 : x / 9223372036854775808 = 0 := by omega
  have h2 : x % 9223372036854775808 = x := by omega
  dsimp only
  rw [h1, h2]
  unfold fMg fP
  by_cases c : x < 4503599627370496
  · rw [if_pos c, if_pos c, show x / 4503599627370496 - 1 = 0 by omega]
    rfl
  · rw [if_neg c, if_neg c, if_pos h]
    rfl
theorem word_false (r : Nat) : Ieee.double.word false r = r := by unfold Ieee.Format.word; rw [if_neg (by simp)]
theorem min_cast (a b : Nat) : min (-1074 + (a : Int)) (-1074 + (b : Int)) = -1074 + ((min a b : Nat) : Int) := by omega
theorem signed_false (m u : Nat) : Ieee.signed false m u = ((m * 2 ^ u : Nat) : Int) := by
  unfold Ieee.signed
  rw [if_neg (by simp), Nat.shiftLeft_eq]
theorem signed_true (m u : Nat) : Ieee.signed true m u = -((m * 2 ^ u : Nat) : Int) := by
  unfold Ieee.signed
  rw [if_pos rfl, Nat.shiftLeft_eq]
theorem scale {x b0 : Nat} (h : b0 ≤ fP x) : fMg x * 2 ^ (fP x - b0) * 2 ^ b0 = fV x := by
  rw [Nat.mul_assoc, ← Nat.pow_add, show fP x - b0 + b0 = fP x by omega, fV_mp]
theorem fAdd_spec {x y : Nat} (hx : Fin_ x) (hy : Fin_ y) : ∃ z, fAdd x y = some z ∧ (∀ B, fV x + fV y ≤ fV B → z ≤ B) ∧ ∀ B, B ≤ 9218868437227405312 → fV B ≤ fV x + fV y → B ≤ z := by
  obtain ⟨b0, hb0⟩ : ∃ b0, min (fP x) (fP y) = b0 := ⟨_, rfl⟩
  have k1 : b0 ≤ fP x := by omega
  have k2 : b0 ≤ fP y := by omega
  have n := near_spec (fMg x * 2 ^ (fP x - b0) + fMg y * 2 ^ (fP y - b0)) b0 0
  rw [Nat.add_mul, scale k1, scale k2] at n
  simp only [Nat.pow_zero, Nat.mul_one] at n
  refine ⟨_, ?_, n⟩
  show ((Ieee.double.read x).sum (Ieee.double.read y)).map Ieee.double.write = _
  rw [read_spec hx, read_spec hy]
  unfold Ieee.Datum.sum
  dsimp only
  rw [min_cast, hb0]
  have t1 : (-1074 + (fP x : Int) - (-1074 + (b0 : Int))).toNat = fP x - b0 := by omega
  have t2 : (-1074 + (fP y : Int) - (-1074 + (b0 : Int))).toNat = fP y - b0 := by omega
  rw [t1, t2, signed_false, signed_false, ← Int.natCast_add, Int.natAbs_natCast]
  generalize fMg x * 2 ^ (fP x - b0) + fMg y * 2 ^ (fP y - b0) = T
  have hs : (if ((T : Nat) : Int) = 0 then (false && false) else decide (((T : Nat) : Int) < 0)) = false := by
    split
    · rfl
    · exact decide_eq_false (by omega)
  rw [hs]
  show some (Ieee.double.nearest false T (-1074 + (b0 : Int))) = some (Ieee.double.nearest false T (-1074 + (b0 : Int) - ((0 : Nat) : Int)))
  congr 2
  omega
theorem fSub_spec {x y : Nat} (hx : Fin_ x) (hy : y ≤ x) : ∃ z, fSub x y = some z ∧ z ≤ x ∧ (∀ B, fV x - fV y ≤ fV B → z ≤ B) ∧ ∀ B, B ≤ 9218868437227405312 → fV B ≤ fV x - fV y → B ≤ z := by
  obtain ⟨b0, hb0⟩ : ∃ b0, min (fP x) (fP y) = b0 := ⟨_, rfl⟩
  have k1 : b0 ≤ fP x := by omega
  have k2 : b0 ≤ fP y := by omega
  have hle : fMg y * 2 ^ (fP y - b0) ≤ fMg x * 2 ^ (fP x - b0) := by
    have := fV_le hy
    rw [← scale k1, ← scale k2] at this
    exact Nat.le_of_mul_le_mul_right this (Nat.two_pow_pos b0)
  have n := near_spec (fMg x * 2 ^ (fP x - b0) - fMg y * 2 ^ (fP y - b0)) b0 0
  rw [Nat.sub_mul, scale k1, scale k2] at n
  simp only [Nat.pow_zero, Nat.mul_one] at n
  refine ⟨_, ?_, n.1 x (Nat.sub_le _ _), n⟩
  show ((Ieee.double.read x).sum (Ieee.double.read y).opposite).map Ieee.double.write = _
  rw [read_spec hx, read_spec (Nat.lt_of_le_of_lt hy hx)]
  unfold Ieee.Datum.opposite Ieee.Datum.sum
  dsimp only
  rw [min_cast, hb0]
  have t1 : (-1074 + (fP x : Int) - (-1074 + (b0 : Int))).toNat = fP x - b0 := by omega
  have t2 : (-1074 + (fP y : Int) - (-1074 + (b0 : Int))).toNat = fP y - b0 := by omega
  rw [t1, t2, signed_false, Bool.not_false, signed_true]
  obtain ⟨T, hT⟩ : ∃ T, fMg x * 2 ^ (fP x - b0) - fMg y * 2 ^ (fP y - b0) = T := ⟨_, rfl⟩
  have e : ((fMg x * 2 ^ (fP x - b0) : Nat) : Int) + -((fMg y * 2 ^ (fP y - b0) : Nat) : Int) = (T : Int) := by omega
  rw [e, hT, Int.natAbs_natCast]
  have hs : (if ((T : Nat) : Int) = 0 then (false && true) else decide (((T : Nat) : Int) < 0)) = false := by
    split
    · rfl
    · exact decide_eq_false (by omega)
  rw [hs]
  show some (Ieee.double.nearest false T (-1074 + (b0 : Int))) = some (Ieee.double.nearest false T (-1074 + (b0 : Int) - ((0 : Nat) : Int)))
  congr 2
  omega
theorem fMul_spec {x y : Nat} (hx : Fin_ x) (hy : Fin_ y) : ∃ z, fMul x y = some z ∧ (∀ B, fV x * fV y ≤ fV B * 2 ^ 1074 → z ≤ B) ∧ ∀ B, B ≤ 9218868437227405312 → fV B * 2 ^ 1074 ≤ fV x * fV y → B ≤ z := by
  have n := near_spec (fMg x * fMg y) (fP x + fP y) 1074
  have e : fMg x * fMg y * 2 ^ (fP x + fP y) = fV x * fV y := by
    rw [← fV_mp x, ← fV_mp y, Nat.pow_add, Nat.mul_assoc, Nat.mul_left_comm (fMg y), Nat.mul_assoc]
  rw [e] at n
  refine ⟨_, ?_, n⟩
  show ((Ieee.double.read x).product (Ieee.double.read y)).map Ieee.double.write = _
  rw [read_spec hx, read_spec hy]
  unfold Ieee.Datum.product
  dsimp only
  show some (Ieee.double.nearest (false ^^ false) (fMg x * fMg y) (-1074 + (fP x : Int) + (-1074 + (fP y : Int)))) = some _
  congr 2
  omega
/-- times what is at most one -/
theorem fV_one : fV 4607182418800017408 = 2 ^ 1074 := by decide +kernel
theorem fMul_le {x y : Nat} (hx : Fin_ x) (hy : y ≤ 4607182418800017408) : ∃ z, fMul x y = some z ∧ z ≤ x := by
  obtain ⟨z, e, h1, _⟩ := fMul_spec hx (y := y) (show y < 9218868437227405312 by omega)
  refine ⟨z, e, h1 x ?_⟩
  rw [← fV_one]
  exact Nat.mul_le_mul_left _ (fV_le hy)
/-- -0 -/
theorem read_nz : Ieee.double.read 9223372036854775808 = .number true 0 (-1074) := by decide +kernel
theorem write_nz (e : Int) : Ieee.double.nearest true 0 e = 9223372036854775808 := by
  unfold Ieee.Format.nearest
  rw [if_pos rfl]
  decide +kernel
theorem fMul_nz {x : Nat} (hx : Fin_ x) : fMul x 9223372036854775808 = some 9223372036854775808 := by
  show ((Ieee.double.read x).product (Ieee.double.read 9223372036854775808)).map Ieee.double.write = _
  rw [read_spec hx, read_nz]
  unfold Ieee.Datum.product
  dsimp only
  show some (Ieee.double.nearest (false ^^ true) (fMg x * 0) _) = _
  rw [Nat.mul_zero]
  exact congrArg some (write_nz _)
theorem fMul_nz' {x : Nat} (hx : Fin_ x) : fMul 9223372036854775808 x = some 9223372036854775808 := by
  show ((Ieee.double.read 9223372036854775808).product (Ieee.double.read x)).map Ieee.double.write = _
  rw [read_spec hx, read_nz]
  unfold Ieee.Datum.product
  dsimp only
  show some (Ieee.double.nearest (true ^^ false) (0 * fMg x) _) = _
  rw [Nat.zero_mul]
  exact congrArg some (write_nz _)
theorem fMul_nznz : fMul 9223372036854775808 9223372036854775808 = some 0 := by decide +kernel
theorem fAdd_nz0 : fAdd 9223372036854775808 0 = some 0 := by decide +kernel
theorem fSub_nz : fSub 4607182418800017408 9223372036854775808 = some 4607182418800017408 := by decide +kernel
theorem fAdd_0 {x : Nat} (hx : Fin_ x) : fAdd x 0 = some x := by
  obtain ⟨z, e, h1, h2⟩ := fAdd_spec hx (y := 0) (by decide)
  rw [fV_0, Nat.add_zero] at h1 h2
  have a := h1 x (Nat.le_refl _)
  have b := h2 x (Nat.le_of_lt hx) (Nat.le_refl _)
  rw [e, show z = x by omega]
/-- how two stand to each other -/
theorem order_spec {x y : Nat} (hx : Fin_ x) (hy : Fin_ y) : Ieee.double.order x y = some (if x < y then .lt else if x = y then .eq else .gt) := by
  obtain ⟨b0, hb0⟩ : ∃ b0, min (fP x) (fP y) = b0 := ⟨_, rfl⟩
  have k1 : b0 ≤ fP x := by omega
  have k2 : b0 ≤ fP y := by omega
  show (Ieee.double.read x).order (Ieee.double.read y) = _
  rw [read_spec hx, read_spec hy]
  unfold Ieee.Datum.order
  dsimp only
  rw [min_cast, hb0]
  have t1 : (-1074 + (fP x : Int) - (-1074 + (b0 : Int))).toNat = fP x - b0 := by omega
  have t2 : (-1074 + (fP y : Int) - (-1074 + (b0 : Int))).toNat = fP y - b0 := by omega
  rw [t1, t2, signed_false, signed_false]
  have s1 := scale k1
  have s2 := scale k2
  generalize hA : fMg x * 2 ^ (fP x - b0) = A at *
  generalize hB : fMg y * 2 ^ (fP y - b0) = B at *
  have hp := Nat.two_pow_pos b0
  have lt_ : (A : Int) < (B : Int) ↔ x < y := by
    constructor
    · intro h
      refine Classical.byContradiction fun c => ?_
      have := fV_le (x := y) (y := x) (by omega)
      rw [← s1, ← s2] at this
      have := Nat.le_of_mul_le_mul_right this hp
      omega
    · intro h
      have := fV_lt h
      rw [← s1, ← s2] at this
      have := Nat.lt_of_mul_lt_mul_right this
      omega
  have eq_ : (A : Int) = (B : Int) ↔ x = y := by
    constructor
    · intro h
      have e : A = B := by omega
      have e2 : fV x = fV y := by rw [← s1, ← s2, e]
      have a := fV_le_inv (x := x) (y := y) (by omega)
      have b := fV_le_inv (x := y) (y := x) (by omega)
      omega
    · intro h
      subst h
      have : A * 2 ^ b0 = B * 2 ^ b0 := by rw [s1, s2]
      have := Nat.eq_of_mul_eq_mul_right hp this
      omega
  show some (compareOfLessAndEq (A : Int) (B : Int)) = _
  unfold compareOfLessAndEq
  congr 1
  by_cases c : x < y
  · rw [if_pos (lt_.2 c), if_pos c]
  · rw [if_neg (fun h => c (lt_.1 h)), if_neg c]
    by_cases d : x = y
    · rw [if_pos (eq_.2 d), if_pos d]
    · rw [if_neg (fun h => d (eq_.1 h)), if_neg d]
theorem fGe_ok {x y : Nat} (hx : Fin_ x) (h : y ≤ x) : fGe x y = true := by
  show (Ieee.double.order x y == some .gt || Ieee.double.order x y == some .eq) = true
  rw [order_spec hx (Nat.lt_of_le_of_lt h hx), if_neg (by omega)]
  by_cases c : x = y
  · rw [if_pos c]; decide
  · rw [if_neg c]; decide
theorem fLe_inv {x y : Nat} (hx : Fin_ x) (hy : Fin_ y) (h : fLe x y = true) : x ≤ y := by
  refine Classical.byContradiction fun c => ?_
  have h : (Ieee.double.order x y == some .lt || Ieee.double.order x y == some .eq) = true := h
  rw [order_spec hx hy, if_neg (by omega), if_neg (by omega)] at h
  exact absurd h (by decide)
theorem nan_order (b : Bool) (t : Nat) (d : Ieee.Datum) : Ieee.Datum.order (.nan b t) d = none := by cases d <;> rfl
/-- what may be a chance -/
theorem chance_inv {x : Nat} (h64 : x < 18446744073709551616) (h0 : fGe x 0 = true) (h1 : fLe x 4607182418800017408 = true) : x ≤ 4607182418800017408 ∨ x = 9223372036854775808 := by
  have h0' : (Ieee.double.order x 0 == some .gt || Ieee.double.order x 0 == some .eq) = true := h0
  have h1' : (Ieee.double.order x 4607182418800017408 == some .lt || Ieee.double.order x 4607182418800017408 == some .eq) = true := h1
  by_cases c : Fin_ x
  · exact .inl (fLe_inv c (by decide) h1)
  by_cases c2 : x = 9223372036854775808
  · exact .inr c2
  exfalso
  have r1 : Ieee.double.read 4607182418800017408 = .number false (fMg 4607182418800017408) (-1074 + (fP 4607182418800017408 : Int)) := read_spec (by decide)
  have r0 : Ieee.double.read 0 = .number false (fMg 0) (-1074 + (fP 0 : Int)) := read_spec (by decide)
  have c : ¬ x < 9218868437227405312 := c
  have hx : Ieee.double.read x = (let neg := x / 9223372036854775808 % 2 == 1
      let rung := x % 9223372036854775808
      if rung < 4503599627370496 then .number neg rung (-1074)
      else if rung < 9218868437227405312 then .number neg (4503599627370496 + rung % 4503599627370496) (-1074 + (rung / 4503599627370496 - 1 : Nat))
      else if rung = 9218868437227405312 then .infinity neg
      else .nan neg (rung - 9218868437227405312)) := by
    unfold Ieee.Format.read
    rw [f_sign, f_bin, f_inf, f_least]
  by_cases d : x < 9223372036854775808
  · have q1 : x / 9223372036854775808 = 0 := by omega
    have q2 : x % 9223372036854775808 = x := by omega
    dsimp only at hx
    rw [q1, q2, if_neg (by omega), if_neg (by omega)] at hx
    by_cases e : x = 9218868437227405312
    · rw [if_pos e] at hx
      unfold Ieee.Format.order at h1'
      rw [hx, r1] at h1'
      exact absurd h1' (by decide)
    · rw [if_neg e] at hx
      unfold Ieee.Format.order at h0'
      rw [hx, nan_order] at h0'
      exact absurd h0' (by decide)
  · have q1 : x / 9223372036854775808 = 1 := by omega
    have q2 : x % 9223372036854775808 = x - 9223372036854775808 := by omega
    have q3 : 0 < x - 9223372036854775808 := by omega
    dsimp only at hx
    rw [q1, q2] at hx
    have neg : ∀ m e, 0 < m → Ieee.double.read x = .number true m e → False := fun m e hm hr => by
      unfold Ieee.Format.order at h0'
      rw [hr, r0] at h0'
      unfold Ieee.Datum.order at h0'
      dsimp only at h0'
      rw [signed_true, signed_false] at h0'
      have hmp : 0 < m * 2 ^ (e - min e (-1074 + (fP 0 : Int))).toNat := Nat.mul_pos hm (Nat.two_pow_pos _)
      have hz : fMg 0 = 0 := by decide
      rw [hz, Nat.zero_mul] at h0'
      have : compare (-((m * 2 ^ (e - min e (-1074 + (fP 0 : Int))).toNat : Nat) : Int)) ((0 : Nat) : Int) = .lt := by
        show compareOfLessAndEq _ _ = _
        unfold compareOfLessAndEq
        rw [if_pos (by omega)]
      rw [this] at h0'
      exact absurd h0' (by decide)
    by_cases e : x - 9223372036854775808 < 4503599627370496
    · rw [if_pos e] at hx
      exact neg _ _ q3 hx
    · rw [if_neg e] at hx
      by_cases g : x - 9223372036854775808 < 9218868437227405312
      · rw [if_pos g] at hx
        exact neg _ _ (by omega) hx
      · rw [if_neg g] at hx
        by_cases k : x - 9223372036854775808 = 9218868437227405312
        · rw [if_pos k] at hx
          unfold Ieee.Format.order at h0'
          rw [hx, r0] at h0'
          exact absurd h0' (by decide)
        · rw [if_neg k] at hx
          unfold Ieee.Format.order at h0'
          rw [hx, nan_order] at h0'
          exact absurd h0' (by decide)
/-- whole numbers of a power of two are there -/
theorem fV_rep (e : Nat) : ∀ (K : Nat), K ≤ 9007199254740992 → ∃ B, fV B = K * 2 ^ e ∧ B ≤ e * 4503599627370496 + 9007199254740992 := by
  induction e with
  | zero =>
    intro K h
    refine ⟨K, ?_, Nat.le_trans h (Nat.le_add_left _ _)⟩
    have := fV_G (d := 0) h (.inl rfl)
    rw [Nat.zero_mul, Nat.zero_add] at this
    exact this
  | succ e ih =>
    intro K h
    by_cases c : 4503599627370496 ≤ K
    · exact ⟨(e + 1) * 4503599627370496 + K, fV_G h (.inr c), by omega⟩
    · obtain ⟨B, h1, h2⟩ := ih (2 * K) (by omega)
      refine ⟨B, ?_, Nat.le_trans h2 (Nat.add_le_add_right (Nat.mul_le_mul_right _ (Nat.le_succ e)) _)⟩
      rw [h1, Nat.pow_succ, Nat.mul_comm 2 K, Nat.mul_assoc, Nat.mul_comm 2]
end Go.V
