/- Plain notions: letters and traces. -/
import Derived.Test.YtldjjbgnicknkaaPu
set_option linter.all false
set_option linter.unusedVariables false
set_option linter.unnecessarySimpa false
set_option linter.unusedSimpArgs false
namespace Go.V

/-- may it be a number of propositions? -/
def numB (n : Int) : Bool := decide (0 ≤ n) && decide (n ≤ 8)
theorem numB_iff {n : Int} : numB n = true ↔ 0 ≤ n ∧ n ≤ 8 := by simp [numB]
theorem numB_no {n : Int} : numB n = false ↔ n < 0 ∨ 8 < n := by
  have := @numB_iff n
  cases h : numB n
  · simp only [true_iff, h, Bool.false_eq_true, false_iff] at this ⊢; omega
  · simp only [h, true_iff] at this; simp only [Bool.true_eq_false, false_iff]; omega
/-- is a letter of n propositions? -/
def fitsB (n l : Int) : Bool := numB n && decide (l / 2 ^ n.toNat = 0)
open Classical in
noncomputable def traceV (n : Int) (t : List Int) : Int :=
  if numB n = false then 2 else if 1024 < t.length then 3 else if ∀ i, i < t.length → fitsB n (t.getD i 0) = true then 0 else 2
theorem traceV_num {n : Int} {t : List Int} (h : numB n = false) : traceV n t = 2 := if_pos h
theorem traceV_long {n : Int} {t : List Int} (h : numB n = true) (h2 : 1024 < t.length) : traceV n t = 3 := by
  unfold traceV; rw [if_neg (by simp [h]), if_pos h2]
theorem traceV_ok {n : Int} {t : List Int} (h : numB n = true) (h2 : t.length ≤ 1024) (h3 : ∀ i, i < t.length → fitsB n (t.getD i 0) = true) : traceV n t = 0 := by
  unfold traceV; rw [if_neg (by simp [h]), if_neg (by omega), if_pos h3]
theorem traceV_bad {n : Int} {t : List Int} (h : numB n = true) (h2 : t.length ≤ 1024) {i : Nat} (hi : i < t.length) (h3 : fitsB n (t.getD i 0) = false) : traceV n t = 2 := by
  unfold traceV; rw [if_neg (by simp [h]), if_neg (by omega), if_neg (fun q => by rw [q i hi] at h3; cases h3)]
theorem traceV_len {n : Int} {t : List Int} (h : traceV n t = 0) : t.length ≤ 1024 := by
  unfold traceV at h
  split at h
  · omega
  · split at h
    · omega
    · omega
theorem fits_step {n : Int} {t : List Int} {k : Nat} (hI : ∀ i, i < k → fitsB n (t.getD i 0) = true) (h : fitsB n (List.getD t (Int.toNat (k : Int)) 0) = true) : ∀ i, i < k + 1 → fitsB n (t.getD i 0) = true := by
  intro i hi
  rcases Nat.lt_or_ge i k with h' | h'
  · exact hI i h'
  · obtain rfl : i = k := by omega
    exact h

theorem bitB_testBit (x p : Nat) : bitB (x : Int) (p : Int) = x.testBit p := by
  rw [Nat.testBit_eq_decide_div_mod_eq]
  unfold bitB
  have : ((x : Int) / 2 ^ (Int.toNat (p : Int)) % 2 = 1) ↔ (x / 2 ^ p % 2 = 1) := by
    simp only [Int.toNat_natCast]
    constructor
    · intro h; exact_mod_cast h
    · intro h; exact_mod_cast h
  exact decide_eq_decide.2 this
/-- it fits: none of its bits from n on -/
theorem fits_bits {n l : Int} (h0 : 0 ≤ n) (h8 : n ≤ 8) (hl : 0 ≤ l ∧ l ≤ 255) (h : ∀ q, n ≤ q → q < 8 → bitB l q = false) : fitsB n l = true := by
  unfold fitsB
  rw [numB_iff.2 ⟨h0, h8⟩]
  obtain ⟨m, rfl⟩ : ∃ m : Nat, n = m := ⟨n.toNat, by omega⟩
  obtain ⟨x, rfl⟩ : ∃ x : Nat, l = x := ⟨l.toNat, by omega⟩
  have : x / 2 ^ m = 0 := by
    apply Nat.eq_of_testBit_eq
    intro i
    rw [Nat.testBit_div_two_pow, Nat.zero_testBit]
    rcases Nat.lt_or_ge (i + m) 8 with q | q
    · have := h ((i + m : Nat) : Int) (by omega) (by omega)
      rw [bitB_testBit] at this
      rwa [Nat.add_comm] at this ⊢ 
    · exact Nat.testBit_lt_two_pow (Nat.lt_of_lt_of_le (show x < 2 ^ 8 by omega) (Nat.pow_le_pow_right (by omega) (by omega)))
  simp only [Bool.true_and, decide_eq_true_eq, Int.toNat_natCast]
  exact_mod_cast this
theorem fits_not {n l q : Int} (h0 : 0 ≤ n) (h8 : n ≤ 8) (hl : 0 ≤ l ∧ l ≤ 255) (hq : n ≤ q) (h : bitB l q = true) : fitsB n l = false := by
  unfold fitsB
  rw [numB_iff.2 ⟨h0, h8⟩]
  obtain ⟨m, rfl⟩ : ∃ m : Nat, n = m := ⟨n.toNat, by omega⟩
  obtain ⟨x, rfl⟩ : ∃ x : Nat, l = x := ⟨l.toNat, by omega⟩
  obtain ⟨p, rfl⟩ : ∃ p : Nat, q = p := ⟨q.toNat, by omega⟩
  rw [bitB_testBit] at h
  simp only [Bool.true_and, decide_eq_false_iff_not, Int.toNat_natCast]
  intro e
  have e' : x / 2 ^ m = 0 := by exact_mod_cast e
  have : (x / 2 ^ m).testBit (p - m) = true := by rw [Nat.testBit_div_two_pow, show p - m + m = p by omega]; exact h
  rw [e'] at this
  simp at this

/-- in how many of the first k propositions two letters are unlike -/
def apartN (a b : Int) : Nat → Nat
  | 0 => 0
  | k + 1 => apartN a b k + (if bitB a (k : Nat) = bitB b (k : Nat) then 0 else 1)
theorem apartN_le (a b : Int) : ∀ k, apartN a b k ≤ k
  | 0 => Nat.le_refl _
  | k + 1 => by have := apartN_le a b k; unfold apartN; split <;> omega
/-- how far two traces are from one another: their first k letters -/
def farN (xs ys : List Int) : Nat → Nat
  | 0 => 0
  | k + 1 => farN xs ys k + apartN (xs.getD k 0) (ys.getD k 0) 8
theorem farN_le (xs ys : List Int) : ∀ k, farN xs ys k ≤ 8 * k
  | 0 => Nat.le_refl _
  | k + 1 => by have := farN_le xs ys k; have := apartN_le (xs.getD k 0) (ys.getD k 0) 8; unfold farN; omega
noncomputable def farV (a b : List Int) : Int × Int :=
  if traceV 8 a ≠ 0 then (0, traceV 8 a) else if traceV 8 b ≠ 0 then (0, traceV 8 b) else if a.length ≠ b.length then (0, 2) else (((farN a b a.length : Nat) : Int), 0)
theorem farV_a {a b : List Int} (h : ¬ traceV 8 a = 0) : farV a b = (0, traceV 8 a) := if_pos h
theorem farV_b {a b : List Int} (h : traceV 8 a = 0) (h2 : ¬ traceV 8 b = 0) : farV a b = (0, traceV 8 b) := by
  unfold farV; rw [if_neg (by simp [h]), if_pos h2]
theorem farV_len {a b : List Int} (h : traceV 8 a = 0) (h2 : traceV 8 b = 0) (h3 : a.length ≠ b.length) : farV a b = (0, 2) := by
  unfold farV; rw [if_neg (by simp [h]), if_neg (by simp [h2]), if_pos h3]
theorem farV_ok {a b : List Int} (h : traceV 8 a = 0) (h2 : traceV 8 b = 0) (h3 : a.length = b.length) : farV a b = (((farN a b a.length : Nat) : Int), 0) := by
  unfold farV; rw [if_neg (by simp [h]), if_neg (by simp [h2]), if_neg (by simp [h3])]
theorem bits_step {l n p : Int} (hI : ∀ q, n ≤ q → q < p → bitB l q = false) (h : bitB l p = false) : ∀ q, n ≤ q → q < p + 1 → bitB l q = false := by
  intro q h1 h2
  by_cases e : q = p
  · subst e; exact h
  · exact hI q h1 (by omega)
theorem getD_u8 {t : List Int} (h : ∀ x ∈ t, 0 ≤ x ∧ x ≤ 255) (i : Nat) : 0 ≤ t.getD i 0 ∧ t.getD i 0 ≤ 255 := by
  rw [List.getD_eq_getElem?_getD]
  cases hi : t[i]? with
  | none => exact ⟨by decide, by decide⟩
  | some x => exact h x (List.mem_of_getElem? hi)

/-- how many bits: of the first k -/
def popK (x : Nat) : Nat → Nat
  | 0 => 0
  | k + 1 => popK x k + (if x.testBit k then 1 else 0)
theorem popK_le (x : Nat) : ∀ k, popK x k ≤ k
  | 0 => Nat.le_refl _
  | k + 1 => by have := popK_le x k; unfold popK; split <;> omega
def popTab : ByteArray := ⟨#[0, 1, 1, 2, 1, 2, 2, 3, 1, 2, 2, 3, 2, 3, 3, 4, 1, 2, 2, 3, 2, 3, 3, 4, 2, 3, 3, 4, 3, 4, 4, 5, 1, 2, 2, 3, 2, 3, 3, 4, 2, 3, 3, 4, 3, 4, 4, 5, 2, 3, 3, 4, 3, 4, 4, 5, 3, 4, 4, 5, 4, 5, 5, 6, 1, 2, 2, 3, 2, 3, 3, 4, 2, 3, 3, 4, 3, 4, 4, 5, 2, 3, 3, 4, 3, 4, 4, 5, 3, 4, 4, 5, 4, 5, 5, 6, 2, 3, 3, 4, 3, 4, 4, 5, 3, 4, 4, 5, 4, 5, 5, 6, 3, 4, 4, 5, 4, 5, 5, 6, 4, 5, 5, 6, 5, 6, 6, 7, 1, 2, 2, 3, 2, 3, 3, 4, 2, 3, 3, 4, 3, 4, 4, 5, 2, 3, 3, 4, 3, 4, 4, 5, 3, 4, 4, 5, 4, 5, 5, 6, 2, 3, 3, 4, 3, 4, 4, 5, 3, 4, 4, 5, 4, 5, 5, 6, 3, 4, 4, 5, 4, 5, 5, 6, 4, 5, 5, 6, 5, 6, 6, 7, 2, 3, 3, 4, 3, 4, 4, 5, 3, 4, 4, 5, 4, 5, 5, 6, 3, 4, 4, 5, 4, 5, 5, 6, 4, 5, 5, 6, 5, 6, 6, 7, 3, 4, 4, 5, 4, 5, 5, 6, 4, 5, 5, 6, 5, 6, 6, 7, 4, 5, 5, 6, 5, 6, 6, 7, 5, 6, 6, 7, 6, 7, 7, 8]⟩
theorem pop_get {n : Nat} (h : n < 256) : popTab[n]? = some (UInt8.ofNat (popK n 8)) := by
  have : ∀ n : Fin 256, popTab[n.val]? = some (UInt8.ofNat (popK n.val 8)) := by decide +kernel
  exact this ⟨n, h⟩
theorem pop_nat (n : Nat) : (((UInt8.ofNat (popK n 8)).toNat : Nat) : Int) = ((popK n 8 : Nat) : Int) := by
  have := popK_le n 8
  have h : (UInt8.ofNat (popK n 8)).toNat = popK n 8 := by simp; omega
  rw [h]
theorem apartN_xor (a b : Nat) : ∀ k, apartN (a : Nat) (b : Nat) k = popK (Nat.xor a b) k
  | 0 => rfl
  | k + 1 => by
    unfold apartN popK
    rw [apartN_xor a b k, bitB_testBit, bitB_testBit, show (Nat.xor a b).testBit k = ((a ^^^ b).testBit k) from rfl, Nat.testBit_xor]
    cases a.testBit k <;> cases b.testBit k <;> rfl
theorem apartN_int {a b : Int} (ha : 0 ≤ a) (hb : 0 ≤ b) (k : Nat) : apartN a b k = popK (Nat.xor a.toNat b.toNat) k := by
  rw [← apartN_xor, Int.toNat_of_nonneg ha, Int.toNat_of_nonneg hb]
theorem apart_yes {a b : Int} {k : Nat} (h : ¬ (bitB a (k : Int) = bitB b (k : Int))) : ((apartN a b k : Nat) : Int) + 1 = ((apartN a b (k + 1) : Nat) : Int) := by
  rw [apartN, if_neg h]; omega
theorem apart_no {a b : Int} {k : Nat} (h : bitB a (k : Int) = bitB b (k : Int)) : ((apartN a b k : Nat) : Int) = ((apartN a b (k + 1) : Nat) : Int) := by
  rw [apartN, if_pos h]; omega

/-- canon.Next, canon.Run -/
noncomputable def nextE (p : Int) (n : Nat) (gd : List Int) (nodes : List Nd) (q l : Int) : Int × Int :=
  if checkV p n gd nodes ≠ 0 then (0, 12) else if q < 0 ∨ (n : Int) ≤ q ∨ fitsB p l = false then (0, 2) else (nextV gd nodes q l, 0)
noncomputable def runE (p : Int) (n : Nat) (gd : List Int) (nodes : List Nd) (t : List Int) : Int × Int :=
  if checkV p n gd nodes ≠ 0 then (0, 12) else if traceV p t ≠ 0 then (0, traceV p t) else (runF gd nodes t t.length, 0)
section
variable {p : Int} {n : Nat} {gd : List Int} {nodes : List Nd} {q l : Int} {t : List Int}
theorem nextE_check (h : ¬ checkV p n gd nodes = 0) : nextE p n gd nodes q l = (0, 12) := if_pos h
theorem nextE_arg (h : checkV p n gd nodes = 0) (h2 : q < 0 ∨ (n : Int) ≤ q ∨ fitsB p l = false) : nextE p n gd nodes q l = (0, 2) := by
  unfold nextE; rw [if_neg (by simp [h]), if_pos h2]
theorem nextE_ok (h : checkV p n gd nodes = 0) (h0 : ¬ q < 0) (h1 : ¬ (n : Int) ≤ q) (h2 : fitsB p l = true) : nextE p n gd nodes q l = (nextV gd nodes q l, 0) := by
  unfold nextE; rw [if_neg (by simp [h]), if_neg]
  rintro (h | h | h)
  · exact h0 h
  · exact h1 h
  · rw [h2] at h; cases h
theorem runE_check (h : ¬ checkV p n gd nodes = 0) : runE p n gd nodes t = (0, 12) := if_pos h
theorem runE_trace (h : checkV p n gd nodes = 0) (h2 : ¬ traceV p t = 0) : runE p n gd nodes t = (0, traceV p t) := by
  unfold runE; rw [if_neg (by simp [h]), if_pos h2]
theorem runE_ok (h : checkV p n gd nodes = 0) (h2 : traceV p t = 0) : runE p n gd nodes t = (runF gd nodes t t.length, 0) := by
  unfold runE; rw [if_neg (by simp [h]), if_neg (by simp [h2])]
end
end Go.V
