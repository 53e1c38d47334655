/- Plain theory: numbers with a point, rounded to the nearest. No program. -/
import Derived.Test.YtbgpakdldcfhiaaPM
set_option linter.all false
set_option linter.unusedVariables false
set_option maxRecDepth 100000
namespace Go.V
open Go

/-- what a word of no sign stands for, in units of the least one -/
def fV (x : Nat) : Nat := if x < 4503599627370496 then x else (4503599627370496 + x % 4503599627370496) * 2 ^ (x / 4503599627370496 - 1)
theorem fV_G {d k : Nat} (hk : k ≤ 9007199254740992) (hd : d = 0 ∨ 4503599627370496 ≤ k) : fV (d * 4503599627370496 + k) = k * 2 ^ d := by
  by_cases c : k < 4503599627370496
  · have hd0 : d = 0 := by omega
    subst hd0
    unfold fV
    rw [if_pos (by omega)]
    simp
  · by_cases c2 : k < 9007199254740992
    · have h1 : (d * 4503599627370496 + k) / 4503599627370496 = d + 1 := by omega
      have h2 : (d * 4503599627370496 + k) % 4503599627370496 = k - 4503599627370496 := by omega
      unfold fV
      rw [if_neg (by omega), h1, h2, show 4503599627370496 + (k - 4503599627370496) = k by omega, show d + 1 - 1 = d by omega]
    · have h0 : k = 9007199254740992 := by omega
      have h1 : (d * 4503599627370496 + k) / 4503599627370496 = d + 2 := by omega
      have h2 : (d * 4503599627370496 + k) % 4503599627370496 = 0 := by omega
      unfold fV
      rw [if_neg (by omega), h1, h2, show d + 2 - 1 = d + 1 by omega, Nat.pow_succ, h0]
      omega
theorem fV_form (x : Nat) : ∃ d k, x = d * 4503599627370496 + k ∧ k < 9007199254740992 ∧ (d = 0 ∨ 4503599627370496 ≤ k) := by
  by_cases c : x < 4503599627370496
  · exact ⟨0, x, by omega, by omega, .inl rfl⟩
  · exact ⟨x / 4503599627370496 - 1, 4503599627370496 + x % 4503599627370496, by omega, by omega, .inr (by omega)⟩
theorem fV_succ (x : Nat) : fV x < fV (x + 1) := by
  obtain ⟨d, k, e, hk, hd⟩ := fV_form x
  rw [e, show d * 4503599627370496 + k + 1 = d * 4503599627370496 + (k + 1) by omega, fV_G (by omega) hd, fV_G (by omega) (by omega)]
  exact Nat.mul_lt_mul_of_pos_right (by omega) (Nat.two_pow_pos d)
theorem fV_lt {x y : Nat} (h : x < y) : fV x < fV y := by
  induction y with
  | zero => omega
  | succ y ih =>
    by_cases c : x = y
    · subst c; exact fV_succ x
    · exact Nat.lt_trans (ih (by omega)) (fV_succ y)
theorem fV_le {x y : Nat} (h : x ≤ y) : fV x ≤ fV y := by
  by_cases c : x = y
  · subst c; exact Nat.le_refl _
  · exact Nat.le_of_lt (fV_lt (by omega))
theorem fV_le_inv {x y : Nat} (h : fV x ≤ fV y) : x ≤ y := by
  refine Classical.byContradiction fun c => ?_
  have := fV_lt (x := y) (y := x) (by omega)
  omega
theorem fV_0 : fV 0 = 0 := rfl

theorem cut_spec (n drop : Nat) : 2 * (Ieee.Toward.even.cut false n drop * 2 ^ drop) ≤ 2 * n + 2 ^ drop ∧ 2 * n ≤ 2 * (Ieee.Toward.even.cut false n drop * 2 ^ drop) + 2 ^ drop ∧ (∀ K, K * 2 ^ drop ≤ n → K ≤ Ieee.Toward.even.cut false n drop) ∧ (∀ K, n < K * 2 ^ drop → Ieee.Toward.even.cut false n drop ≤ K) := by
  have hlog : n < 2 ^ (n.log2 + 1) := Nat.lt_log2_self
  by_cases c : drop ≤ n.log2 + 2
  · obtain ⟨m, hm, e⟩ : ∃ m : Bool, ((m = true → 2 ^ drop ≤ 2 * (n % 2 ^ drop)) ∧ (m = false → 2 * (n % 2 ^ drop) ≤ 2 ^ drop)) ∧ Ieee.Toward.even.cut false n drop = n / 2 ^ drop + m.toNat := by
      refine ⟨decide (2 ^ drop < 2 * (n % 2 ^ drop)) || ((2 ^ drop == 2 * (n % 2 ^ drop)) && (n / 2 ^ drop % 2 == 1)), ⟨fun h => ?_, fun h => ?_⟩, ?_⟩
      · rw [Bool.or_eq_true, Bool.and_eq_true, beq_iff_eq] at h
        rcases h with h | h
        · exact Nat.le_of_lt (of_decide_eq_true h)
        · omega
      · rw [Bool.or_eq_false_iff] at h
        have := of_decide_eq_false h.1
        omega
      · unfold Ieee.Toward.cut
        simp only [Nat.min_eq_left c, Nat.shiftLeft_eq, Nat.one_mul]
    rw [e]
    have hg := Nat.two_pow_pos drop
    have hdm := Nat.div_add_mod n (2 ^ drop)
    have hml := Nat.mod_lt n hg
    have hcm : 2 ^ drop * (n / 2 ^ drop) = n / 2 ^ drop * 2 ^ drop := Nat.mul_comm _ _
    refine ⟨?_, ?_, fun K hK => ?_, fun K hK => ?_⟩
    · rw [Nat.add_mul]
      cases m with
      | true => have := hm.1 rfl; simp only [Bool.toNat_true, Nat.one_mul]; omega
      | false => simp only [Bool.toNat_false, Nat.zero_mul]; omega
    · rw [Nat.add_mul]
      cases m with
      | true => simp only [Bool.toNat_true, Nat.one_mul]; omega
      | false => have := hm.2 rfl; simp only [Bool.toNat_false, Nat.zero_mul]; omega
    · have := (Nat.le_div_iff_mul_le hg).2 hK
      omega
    · have h1 := (Nat.div_lt_iff_lt_mul hg).2 hK
      cases m with
      | true => simp only [Bool.toNat_true]; omega
      | false => simp only [Bool.toNat_false]; omega
  · have hpow : 2 ^ (n.log2 + 2) ≤ 2 ^ drop := Nat.pow_le_pow_right (by omega) (by omega)
    have h2 : 2 ^ (n.log2 + 2) = 2 * 2 ^ (n.log2 + 1) := by rw [Nat.pow_succ, Nat.mul_comm]
    have e : Ieee.Toward.even.cut false n drop = 0 := by
      unfold Ieee.Toward.cut
      simp only [Nat.min_eq_right (show n.log2 + 2 ≤ drop by omega), Nat.shiftLeft_eq, Nat.one_mul]
      rw [Nat.div_eq_of_lt (by omega), Nat.mod_eq_of_lt (by omega), decide_eq_false (by omega)]
      have : (2 ^ (n.log2 + 2) == 2 * n) = false := by
        rw [beq_eq_false_iff_ne]; omega
      rw [this]
      rfl
    rw [e]
    refine ⟨by omega, by omega, fun K hK => ?_, fun K _ => Nat.zero_le K⟩
    refine Classical.byContradiction fun h => ?_
    have h1 : 1 * 2 ^ drop ≤ K * 2 ^ drop := Nat.mul_le_mul_right _ (by omega)
    omega
theorem f_least : Ieee.double.leastPlace = -1074 := by decide
theorem f_inf : Ieee.double.infRung = 9218868437227405312 := by decide
theorem f_bin : Ieee.double.binade = 4503599627370496 := by decide
theorem f_frac : Ieee.double.fractionBits = 52 := rfl
theorem f_sign : Ieee.double.signWeight = 9223372036854775808 := by decide
/-- rounding to the nearest goes past no word -/
theorem near_spec (mag a b : Nat) : (∀ B, mag * 2 ^ a ≤ fV B * 2 ^ b → Ieee.double.nearest false mag (-1074 + (a : Int) - (b : Int)) ≤ B) ∧ (∀ B, B ≤ 9218868437227405312 → fV B * 2 ^ b ≤ mag * 2 ^ a → B ≤ Ieee.double.nearest false mag (-1074 + (a : Int) - (b : Int))) := by
  unfold Ieee.Format.nearest
  by_cases h0 : mag = 0
  · rw [if_pos h0]
    unfold Ieee.Format.word
    rw [if_neg (by simp)]
    refine ⟨fun B _ => Nat.zero_le B, fun B _ hB => ?_⟩
    rw [h0, Nat.zero_mul] at hB
    have hb := Nat.two_pow_pos b
    have : fV B = 0 := by
      rcases Nat.mul_eq_zero.1 (Nat.le_zero.1 hB) with h | h <;> omega
    exact fV_le_inv (by rw [this]; exact Nat.zero_le _)
  · rw [if_neg h0]
    dsimp only
    rw [f_least, f_inf, f_bin, f_frac]
    obtain ⟨L, hL⟩ : ∃ L, mag.log2 = L := ⟨_, rfl⟩
    rw [hL]
    have l1 : 2 ^ L ≤ mag := by rw [← hL]; exact Nat.log2_self_le h0
    have l2 : mag < 2 ^ (L + 1) := by rw [← hL]; exact Nat.lt_log2_self
    obtain ⟨d, hd⟩ : ∃ d : Nat, (d : Int) = max ((a : Int) - b + L - 52) 0 := ⟨(max ((a : Int) - b + L - 52) 0).toNat, by omega⟩
    have hlast : max (-1074 + (a : Int) - (b : Int) + (L : Int) - ((52 : Nat) : Int)) (-1074) = (d : Int) - 1074 := by omega
    rw [hlast]
    obtain ⟨up, hup⟩ : ∃ up, (-1074 + (a : Int) - (b : Int) - ((d : Int) - 1074)).toNat = up := ⟨_, rfl⟩
    obtain ⟨drop, hdrop⟩ : ∃ drop, ((d : Int) - 1074 - (-1074 + (a : Int) - (b : Int))).toNat = drop := ⟨_, rfl⟩
    have hdd : ((d : Int) - 1074 - -1074).toNat = d := by omega
    rw [hup, hdrop, hdd, Nat.shiftLeft_eq]
    obtain ⟨s, hs1, hs2⟩ : ∃ s, up + s = a ∧ drop + s = b + d := ⟨a - up, by omega, by omega⟩
    obtain ⟨c1, c2, c3, c4⟩ := cut_spec (mag * 2 ^ up) drop
    generalize Ieee.Toward.even.cut false (mag * 2 ^ up) drop = k at *
    have hsp := Nat.two_pow_pos s
    have hX : mag * 2 ^ up * 2 ^ s = mag * 2 ^ a := by rw [Nat.mul_assoc, ← Nat.pow_add, hs1]
    have hW : 2 ^ drop * 2 ^ s = 2 ^ (b + d) := by rw [← Nat.pow_add, hs2]
    have hWp := Nat.two_pow_pos (b + d)
    have e1 : 2 * (mag * 2 ^ up) * 2 ^ s = 2 * (mag * 2 ^ a) := by rw [Nat.mul_assoc 2, hX]
    have e2 : 2 * (k * 2 ^ drop) * 2 ^ s = 2 * (k * 2 ^ (b + d)) := by rw [Nat.mul_assoc 2, Nat.mul_assoc k, hW]
    have c1' : 2 * (k * 2 ^ (b + d)) ≤ 2 * (mag * 2 ^ a) + 2 ^ (b + d) := by
      have := Nat.mul_le_mul_right (2 ^ s) c1
      rw [Nat.add_mul, e1, e2, hW] at this
      exact this
    have c2' : 2 * (mag * 2 ^ a) ≤ 2 * (k * 2 ^ (b + d)) + 2 ^ (b + d) := by
      have := Nat.mul_le_mul_right (2 ^ s) c2
      rw [Nat.add_mul, e1, e2, hW] at this
      exact this
    have c3' : ∀ K, K * 2 ^ (b + d) ≤ mag * 2 ^ a → K ≤ k := fun K hK => c3 K (by
      rw [← hW, ← hX, ← Nat.mul_assoc] at hK
      exact Nat.le_of_mul_le_mul_right hK hsp)
    have c4' : ∀ K, mag * 2 ^ a < K * 2 ^ (b + d) → k ≤ K := fun K hK => c4 K (by
      rw [← hW, ← hX, ← Nat.mul_assoc] at hK
      exact Nat.lt_of_mul_lt_mul_right hK)
    have hU : mag * 2 ^ a < 9007199254740992 * 2 ^ (b + d) := by
      have h1 : mag * 2 ^ a < 2 ^ (L + 1) * 2 ^ a := Nat.mul_lt_mul_of_pos_right l2 (Nat.two_pow_pos a)
      have h2 : 2 ^ (L + 1) * 2 ^ a ≤ 2 ^ 53 * 2 ^ (b + d) := by
        rw [← Nat.pow_add, ← Nat.pow_add]
        exact Nat.pow_le_pow_right (by omega) (by omega)
      have h3 : 2 ^ 53 = 9007199254740992 := by decide
      rw [h3] at h2
      omega
    have hLw : d ≠ 0 → 4503599627370496 * 2 ^ (b + d) ≤ mag * 2 ^ a := fun hd0 => by
      have h1 : 2 ^ L * 2 ^ a ≤ mag * 2 ^ a := Nat.mul_le_mul_right _ l1
      have h2 : 2 ^ L * 2 ^ a = 2 ^ 52 * 2 ^ (b + d) := by
        rw [← Nat.pow_add, ← Nat.pow_add]
        congr 1; omega
      have h3 : 2 ^ 52 = 4503599627370496 := by decide
      rw [h3] at h2
      omega
    have hk2 : k ≤ 9007199254740992 := c4' _ hU
    have hk1 : d = 0 ∨ 4503599627370496 ≤ k := by
      by_cases hd0 : d = 0
      · exact .inl hd0
      · exact .inr (c3' _ (hLw hd0))
    have eW : ∀ q, q * 2 ^ d * 2 ^ b = q * 2 ^ (b + d) := fun q => by rw [Nat.mul_assoc, ← Nat.pow_add, Nat.add_comm d b]
    have hG := fV_G hk2 hk1
    unfold Ieee.Format.word
    rw [if_neg (by simp)]
    refine ⟨fun B hB => ?_, fun B hBi hB => ?_⟩
    · refine Nat.le_trans (Nat.min_le_left _ _) (Classical.byContradiction fun hc => ?_)
      by_cases k0 : k = 0
      · have : d = 0 := by omega
        rw [this, k0] at hc
        omega
      · by_cases h1 : d = 0 ∨ 4503599627370496 ≤ k - 1
        · have g1 := fV_G (d := d) (k := k - 1) (by omega) h1
          have g2 : fV B ≤ fV (d * 4503599627370496 + (k - 1)) := fV_le (by omega)
          have g3 := Nat.mul_le_mul_right (2 ^ b) g2
          rw [g1, eW, Nat.sub_mul, Nat.one_mul] at g3
          have g4 : 1 * 2 ^ (b + d) ≤ k * 2 ^ (b + d) := Nat.mul_le_mul_right _ (by omega)
          omega
        · have hk : k = 4503599627370496 := by omega
          have g1 := hLw (by omega)
          have g2 : fV B < fV (d * 4503599627370496 + k) := fV_lt (by omega)
          have g3 := Nat.mul_lt_mul_of_pos_right g2 (Nat.two_pow_pos b)
          rw [hG, eW, hk] at g3
          omega
    · refine Nat.le_min.2 ⟨Classical.byContradiction fun hc => ?_, hBi⟩
      by_cases h1 : k < 9007199254740992
      · have g1 := fV_G (d := d) (k := k + 1) (by omega) (by omega)
        have g2 : fV (d * 4503599627370496 + (k + 1)) ≤ fV B := fV_le (by omega)
        have g3 := Nat.mul_le_mul_right (2 ^ b) g2
        rw [g1, eW, Nat.add_mul, Nat.one_mul] at g3
        omega
      · have hk : k = 9007199254740992 := by omega
        have g2 : fV (d * 4503599627370496 + k) < fV B := fV_lt (by omega)
        have g3 := Nat.mul_lt_mul_of_pos_right g2 (Nat.two_pow_pos b)
        rw [hG, eW, hk] at g3
        omega
end Go.V
