/- Plain notions: letters and traces. -/
import Derived.Test.YtokfobioklmiaaaPu
set_option linter.all false
set_option linter.unusedVariables false
set_option linter.unnecessarySimpa false
set_option linter.unusedSimpArgs false
namespace Go.V

/-- may it be a number of propositions? -/
def numB (n : Int) : Bool := decide (0 ≤ n) && decide (n ≤ 8)
theorem numB_iff {n : Int} : numB n = true ↔ 0 ≤ n ∧ n ≤ 8 := by simp [numB]
theorem numB_no {n : Int} : numB n = false ↔ n < 0 ∨ 8 < n := by
  have := @numB_iff n
  cases h : numB n
  · simp only [true_iff, h, Bool.false_eq_true, false_iff] at this ⊢; omega
  · simp only [h, true_iff] at this; simp only [Bool.true_eq_false, false_iff]; omega
/-- is a letter of n propositions? -/
def fitsB (n l : Int) : Bool := numB n && decide (l / 2 ^ n.toNat = 0)
open Classical in
noncomputable def traceV (n : Int) (t : List Int) : Int :=
  if numB n = false then 2 else if 1024 < t.length then 3 else if ∀ i, i < t.length → fitsB n (t.getD i 0) = true then 0 else 2
theorem traceV_num {n : Int} {t : List Int} (h : numB n = false) : traceV n t = 2 := if_pos h
theorem traceV_long {n : Int} {t : List Int} (h : numB n = true) (h2 : 1024 < t.length) : traceV n t = 3 := by
  unfold traceV; rw [if_neg (by simp [h]), if_pos h2]
theorem traceV_ok {n : Int} {t : List Int} (h : numB n = true) (h2 : t.length ≤ 1024) (h3 : ∀ i, i < t.length → fitsB n (t.getD i 0) = true) : traceV n t = 0 := by
  unfold traceV; rw [if_neg (by simp [h]), if_neg (by omega), if_pos h3]
theorem traceV_bad {n : Int} {t : List Int} (h : numB n = true) (h2 : t.length ≤ 1024) {i : Nat} (hi : i < t.length) (h3 : fitsB n (t.getD i 0) = false) : traceV n t = 2 := by
  unfold traceV; rw [if_neg (by simp [h]), if_neg (by omega), if_neg (fun q => by rw [q i hi] at h3; cases h3)]
theorem traceV_len {n : Int} {t : List Int} (h : traceV n t = 0) : t.length ≤ 1024 := by
  unfold traceV at h
  split at h
  · omega
  · split at h
    · omega
    · omega
theorem fits_step {n : Int} {t : List Int} {k : Nat} (hI : ∀ i, i < k → fitsB n (t.getD i 0) = true) (h : fitsB n (List.getD t (Int.toNat (k : Int)) 0) = true) : ∀ i, i < k + 1 → fitsB n (t.getD i 0) = true := by
  intro i hi
  rcases Nat.lt_or_ge i k with h' | h'
  · exact hI i h'
  · obtain rfl : i = k := by omega
    exact h

theorem bitB_testBit (x p : Nat) : bitB (x : Int) (p : Int) = x.testBit p := by
  rw [Nat.testBit_eq_decide_div_mod_eq]
  unfold bitB
  have : ((x : Int) / 2 ^ (Int.toNat (p : Int)) % 2 = 1) ↔ (x / 2 ^ p % 2 = 1) := by
    simp only [Int.toNat_natCast]
    constructor
    · intro h; exact_mod_cast h
    · intro h; exact_mod_cast h
  exact decide_eq_decide.2 this
/-- it fits: none of its bits from n on -/
theorem fits_bits {n l : Int} (h0 : 0 ≤ n) (h8 : n ≤ 8) (hl : 0 ≤ l ∧ l ≤ 255) (h : ∀ q, n ≤ q → q < 8 → bitB l q = false) : fitsB n l = true := by
  unfold fitsB
  rw [numB_iff.2 ⟨h0, h8⟩]
  obtain ⟨m, rfl⟩ : ∃ m : Nat, n = m := ⟨n.toNat, by omega⟩
  obtain ⟨x, rfl⟩ : ∃ x : Nat, l = x := ⟨l.toNat, by omega⟩
  have : x / 2 ^ m = 0 := by
    apply Nat.eq_of_testBit_eq
    intro i
    rw [Nat.testBit_div_two_pow, Nat.zero_testBit]
    rcases Nat.lt_or_ge (i + m) 8 with q | q
    · have := h ((i + m : Nat) : Int) (by omega) (by omega)
      rw [bitB_testBit] at this
      rwa [Nat.add_comm] at this ⊢ 
    · exact Nat.testBit_lt_two_pow (Nat.lt_of_lt_of_le (show x < 2 ^ 8 by omega) (Nat.pow_le_pow_right (by omega) (by omega)))
  simp only [Bool.true_and, decide_eq_true_eq, Int.toNat_natCast]
  exact_mod_cast this
theorem fits_not {n l q : Int} (h0 : 0 ≤ n) (h8 : n ≤ 8) (hl : 0 ≤ l ∧ l ≤ 255) (hq : n ≤ q) (h : bitB l q = true) : fitsB n l = false := by
  unfold fitsB
  rw [numB_iff.2 ⟨h0, h8⟩]
  obtain ⟨m, rfl⟩ : ∃ m : Nat, n = m := ⟨n.toNat, by omega⟩
  obtain ⟨x, rfl⟩ : ∃ x : Nat, l = x := ⟨l.toNat, by omega⟩
  obtain ⟨p, rfl⟩ : ∃ p : Nat, q = p := ⟨q.toNat, by omega⟩
  rw [bitB_testBit] at h
  simp only [Bool.true_and, decide_eq_false_iff_not, Int.toNat_natCast]
  intro e
  have e' : x / 2 ^ m = 0 := by exact_mod_cast e
  have : (x / 2 ^ m).testBit (p - m) = true := by rw [Nat.testBit_div_two_pow, show p - m + m = p by omega]; exact h
  rw [e'] at this
  simp at this

/-- in how many of the first k propositions two letters are unlike -/
def apartN (a b : Int) : Nat → Nat
  | 0 => 0
  | k + 1 => apartN a b k + (if bitB a (k : Nat) = bitB b (k : Nat) then 0 else 1)
theorem apartN_le (a b : Int) : ∀ k, apartN a b k ≤ k
  | 0 => Nat.le_refl _
  | k + 1 => by have := apartN_le a b k; unfold apartN; split <;> omega
/-- how far two traces are from one another: their first k letters -/
def farN (xs ys : List Int) : Nat → Nat
  | 0 => 0
  | k + 1 => farN xs ys k + apartN (xs.getD k 0) (ys.getD k 0) 8
theorem farN_le (xs ys : List Int) : ∀ k, farN xs ys k ≤ 8 * k
  | 0 => Nat.le_refl _
  | k + 1 => by have := farN_le xs ys k; have := apartN_le (xs.getD k 0) (ys.getD k 0) 8; unfold farN; omega
noncomputable def farV (a b : List Int) : Int × Int :=
  if traceV 8 a ≠ 0 then (0, traceV 8 a) else if traceV 8 b ≠ 0 then (0, traceV 8 b) else if a.length ≠ b.length then (0, 2) else (((farN a b a.length : Nat) : Int), 0)
theorem farV_a {a b : List Int} (h : ¬ traceV 8 a = 0) : farV a b = (0, traceV 8 a) := if_pos h
theorem farV_b {a b : List Int} (h : traceV 8 a = 0) (h2 : ¬ traceV 8 b = 0) : farV a b = (0, traceV 8 b) := by
  unfold farV; rw [if_neg (by simp [h]), if_pos h2]
theorem farV_len {a b : List Int} (h : traceV 8 a = 0) (h2 : traceV 8 b = 0) (h3 : a.length ≠ b.length) : farV a b = (0, 2) := by
  unfold farV; rw [if_neg (by simp [h]), if_neg (by simp [h2]), if_pos h3]
theorem farV_ok {a b : List Int} (h : traceV 8 a = 0) (h2 : traceV 8 b = 0) (h3 : a.length = b.length) : farV a b = (((farN a b a.length : Nat) : Int), 0) := by
  unfold farV; rw [if_neg (by simp [h]), if_neg (by simp [h2]), if_neg (by simp [h3])]
theorem bits_step {l n p : Int} (hI : ∀ q, n ≤ q → q < p → bitB l q = false) (h : bitB l p = false) : ∀ q, n ≤ q → q < p + 1 → bitB l q = false := by
  intro q h1 h2
  by_cases e : q = p
  · subst e; exact h
  · exact hI q h1 (by omega)
theorem getD_u8 {t : List Int} (h : ∀ x ∈ t, 0 ≤ x ∧ x ≤ 255) (i : Nat) : 0 ≤ t.getD i 0 ∧ t.getD i 0 ≤ 255 := by
  rw [List.getD_eq_getElem?_getD]
  cases hi : t[i]? with
  | none => exact ⟨by decide, by decide⟩
  | some x => exact h x (List.mem_of_getElem? hi)

/-- how many bits: of the first k -/
def popK (x : Nat) : Nat → Nat
  | 0 => 0
  | k + 1 => popK x k + (if x.testBit k then 1 else 0)
theorem popK_le (x : Nat) : ∀ k, popK x k ≤ k
  | 0 => Nat.le_refl _
  | k + 1 => by have := popK_le x k; unfold popK; split <;> omega
def popTab : ByteArray := ⟨#[0, 1, 1, 2, 1, 2, 2, 3, 1, 2, 2, 3, 2, 3, 3, 4, 1, 2, 2, 3, 2, 3, 3, 4, 2, 3, 3, 4, 3, 4, 4, 5, 1, 2, 2, 3, 2, 3, 3, 4, 2, 3, 3, 4, 3, 4, 4, 5, 2, 3, 3, 4, 3, 4, 4, 5, 3, 4, 4, 5, 4, 5, 5, 6, 1, 2, 2, 3, 2, 3, 3, 4, 2, 3, 3, 4, 3, 4, 4, 5, 2, 3, 3, 4, 3, 4, 4, 5, 3, 4, 4, 5, 4, 5, 5, 6, 2, 3, 3, 4, 3, 4, 4, 5, 3, 4, 4, 5, 4, 5, 5, 6, 3, 4, 4, 5, 4, 5, 5, 6, 4, 5, 5, 6, 5, 6, 6, 7, 1, 2, 2, 3, 2, 3, 3, 4, 2, 3, 3, 4, 3, 4, 4, 5, 2, 3, 3, 4, 3, 4, 4, 5, 3, 4, 4, 5, 4, 5, 5, 6, 2, 3, 3, 4, 3, 4, 4, 5, 3, 4, 4, 5, 4, 5, 5, 6, 3, 4, 4, 5, 4, 5, 5, 6, 4, 5, 5, 6, 5, 6, 6, 7, 2, 3, 3, 4, 3, 4, 4, 5, 3, 4, 4, 5, 4, 5, 5, 6, 3, 4, 4, 5, 4, 5, 5, 6, 4, 5, 5, 6, 5, 6, 6, 7, 3, 4, 4, 5, 4, 5, 5, 6, 4, 5, 5, 6, 5, 6, 6, 7, 4, 5, 5, 6, 5, 6, 6, 7, 5, 6, 6, 7, 6, 7, 7, 8]⟩
theorem pop_get {n : Nat} (h : n < 256) : popTab[n]? = some (UInt8.ofNat (popK n 8)) := by
  have : ∀ n : Fin 256, popTab[n.val]? = some (UInt8.ofNat (popK n.val 8)) := by decide +kernel
  exact this ⟨n, h⟩
theorem pop_nat (n : Nat) : (((UInt8.ofNat (popK n 8)).toNat : Nat) : Int) = ((popK n 8 : Nat) : Int) := by
  have := popK_le n 8
  have h : (UInt8.ofNat (popK n 8)).toNat = popK n 8 := by simp; omega
  rw [h]
theorem apartN_xor (a b : Nat) : ∀ k, apartN (a : Nat) (b : Nat) k = popK (Nat.xor a b) k
  | 0 => rfl
  | k + 1 => by
    unfold apartN popK
    rw [apartN_xor a b k, bitB_testBit, bitB_testBit, show (Nat.xor a b).testBit k = ((a ^^^ b).testBit k) from rfl, Nat.testBit_xor]
    cases a.testBit k <;> cases b.testBit k <;> rfl
theorem apartN_int {a b : Int} (ha : 0 ≤ a) (hb : 0 ≤ b) (k : Nat) : apartN a b k = popK (Nat.xor a.toNat b.toNat) k := by
  rw [← apartN_xor, Int.toNat_of_nonneg ha, Int.toNat_of_nonneg hb]
theorem apart_yes {a b : Int} {k : Nat} (h : ¬ (bitB a (k : Int) = bitB b (k : Int))) : ((apartN a b k : Nat) : Int) + 1 = ((apartN a b (k + 1) : Nat) : Int) := by
  rw [apartN, if_neg h]; omega
theorem apart_no {a b : Int} {k : Nat} (h : bitB a (k : Int) = bitB b (k : Int)) : ((apartN a b k : Nat) : Int) = ((apartN a b (k + 1) : Nat) : Int) := by
  rw [apartN, if_pos h]; omega

/-- canon.Next, canon.Run -/
noncomputable def nextE (p : Int) (n : Nat) (gd : List Int) (nodes : List Nd) (q l : Int) : Int × Int :=
  if checkV p n gd nodes ≠ 0 then (0, 12) else if q < 0 ∨ (n : Int) ≤ q ∨ fitsB p l = false then (0, 2) else (nextV gd nodes q l, 0)
noncomputable def runE (p : Int) (n : Nat) (gd : List Int) (nodes : List Nd) (t : List Int) : Int × Int :=
  if checkV p n gd nodes ≠ 0 then (0, 12) else if traceV p t ≠ 0 then (0, traceV p t) else (runF gd nodes t t.length, 0)
section
variable {p : Int} {n : Nat} {gd : List Int} {nodes : List Nd} {q l : Int} {t : List Int}
theorem nextE_check (h : ¬ checkV p n gd nodes = 0) : nextE p n gd nodes q l = (0, 12) := if_pos h
theorem nextE_arg (h : checkV p n gd nodes = 0) (h2 : q < 0 ∨ (n : Int) ≤ q ∨ fitsB p l = false) : nextE p n gd nodes q l = (0, 2) := by
  unfold nextE; rw [if_neg (by simp [h]), if_pos h2]
theorem nextE_ok (h : checkV p n gd nodes = 0) (h0 : ¬ q < 0) (h1 : ¬ (n : Int) ≤ q) (h2 : fitsB p l = true) : nextE p n gd nodes q l = (nextV gd nodes q l, 0) := by
  unfold nextE; rw [if_neg (by simp [h]), if_neg]
  rintro (h | h | h)
  · exact h0 h
  · exact h1 h
  · rw [h2] at h; cases h
theorem runE_check (h : ¬ checkV p n gd nodes = 0) : runE p n gd nodes t = (0, 12) := if_pos h
theorem runE_trace (h : checkV p n gd nodes = 0) (h2 : ¬ traceV p t = 0) : runE p n gd nodes t = (0, traceV p t) := by
  unfold runE; rw [if_neg (by simp [h]), if_pos h2]
theorem runE_ok (h : checkV p n gd nodes = 0) (h2 : traceV p t = 0) : runE p n gd nodes t = (runF gd nodes t t.length, 0) := by
  unfold runE; rw [if_neg (by simp [h]), if_neg (by simp [h2])]
end

/-- turned round, so far: i at each end -/
structure RevI (xs ys : List Int) (i : Nat) : Prop where
  len : ys.length = xs.length
  at_ : ∀ k, k < xs.length → ys.getD k 0 = if k < i ∨ xs.length - 1 - k < i then xs.getD (xs.length - 1 - k) 0 else xs.getD k 0
theorem RevI.start (xs : List Int) : RevI xs xs 0 := ⟨rfl, fun k hk => by rw [if_neg (by omega)]⟩
theorem getD_set {α : Type} (xs : List α) (z u : α) (i k : Nat) (hi : i < xs.length) : (xs.set i u).getD k z = if k = i then u else xs.getD k z := by
  rw [List.getD_eq_getElem?_getD, List.getElem?_set]
  by_cases h : i = k
  · subst h; simp [hi]
  · rw [if_neg h, if_neg (fun e => h e.symm), List.getD_eq_getElem?_getD]
theorem rev_step {xs ys : List Int} {i : Nat} {j : Int} (h : RevI xs ys i) (hj : j = (xs.length : Int) - 1 - i) (hij : (i : Int) < j) :
    RevI xs (List.set (List.set ys (Int.toNat (i : Int)) (List.getD ys (Int.toNat j) 0)) (Int.toNat j) (List.getD ys (Int.toNat (i : Int)) 0)) (i + 1) := by
  obtain ⟨hl, ha⟩ := h
  refine ⟨by simp [hl], fun k hk => ?_⟩
  have e1 : Int.toNat (i : Int) = i := by omega
  have e2 : Int.toNat j = xs.length - 1 - i := by omega
  rw [e1, e2]
  rw [getD_set _ _ _ _ _ (by rw [List.length_set]; omega), getD_set _ _ _ _ _ (by omega)]
  by_cases k1 : k = xs.length - 1 - i
  · rw [if_pos k1, if_pos (by omega), ha i (by omega), if_neg (by omega), show xs.length - 1 - k = i by omega]
  · rw [if_neg k1]
    by_cases k2 : k = i
    · rw [if_pos k2, if_pos (by omega), ha _ (by omega), if_neg (by omega), k2]
    · rw [if_neg k2, ha k hk]
      by_cases k3 : k < i ∨ xs.length - 1 - k < i
      · rw [if_pos k3, if_pos (by omega)]
      · rw [if_neg k3, if_neg (by omega)]
theorem rev_step2 {xs ys : List Int} {i : Nat} {j : Int} (h : RevI xs ys i) (hj : j = (xs.length : Int) - 1 - i) (hij : (i : Int) < j) :
    RevI xs (List.set (List.set ys (Int.toNat j) (List.getD ys (Int.toNat (i : Int)) 0)) (Int.toNat (i : Int)) (List.getD ys (Int.toNat j) 0)) (i + 1) := by
  rw [List.set_comm _ _ (by omega)]
  exact rev_step h hj hij
theorem RevI.done {xs ys : List Int} {i : Nat} (h : RevI xs ys i) (hi : ¬ (i : Int) < (xs.length : Int) - 1 - i) : ys = xs.reverse := by
  obtain ⟨hl, ha⟩ := h
  apply List.ext_getElem (by simp [hl])
  intro k h1 h2
  have := ha k (by omega)
  rw [List.getD_eq_getElem?_getD, List.getElem?_eq_getElem h1] at this
  simp only [Option.getD_some] at this
  rw [this, List.getElem_reverse]
  have e : ∀ m, (hm : m < xs.length) → xs.getD m 0 = xs[m] := fun m hm => by rw [List.getD_eq_getElem?_getD, List.getElem?_eq_getElem hm]; rfl
  split
  · rw [e _ (by omega)]
  · rw [e _ (by omega)]
    have : k = xs.length - 1 - k := by omega
    congr 1

/-! ### choices within a mask -/
def genN : Nat → Nat → Nat → List Nat
  | 0, _, _ => []
  | f + 1, m, s => s :: if s = 0 then [] else genN f m (Nat.land (s - 1) m)
/-- the choices within a mask, rising -/
def movesV (mask : Int) : List Int := ((genN 256 mask.toNat mask.toNat).map fun x : Nat => (x : Int)).reverse
theorem land_le (a b : Nat) : Nat.land a b ≤ a := Nat.and_le_left
/-- the loop's relation: what is laid down, and what is still to come -/
structure GenI (m : Nat) (ys : List Int) (s f : Nat) : Prop where
  sf : s < f
  sm : s ≤ m
  n : ys.length + s ≤ 255
  eq : ys ++ (genN f m s).map (fun x : Nat => (x : Int)) = (genN 256 m m).map fun x : Nat => (x : Int)
theorem GenI.start {m : Nat} (h : m ≤ 255) : GenI m [] m 256 := ⟨by omega, Nat.le_refl _, by simp; omega, rfl⟩
theorem GenI.step {m s f : Nat} {ys : List Int} (h : GenI m ys s f) (hs : ¬ (s : Int) = 0) : GenI m (ys ++ [(s : Int)]) (Nat.land (Int.toNat ((s : Int) - 1)) m) (f - 1) := by
  obtain ⟨h1, h2, h3, h4⟩ := h
  have e : Int.toNat ((s : Int) - 1) = s - 1 := by omega
  rw [e]
  have hle := land_le (s - 1) m
  refine ⟨by omega, by omega, by rw [List.length_append, List.length_cons, List.length_nil]; omega, ?_⟩
  rw [← h4]
  obtain ⟨f', rfl⟩ : ∃ f', f = f' + 1 := ⟨f - 1, by omega⟩
  rw [genN, if_neg (by omega)]
  simp
theorem GenI.done {m s f : Nat} {ys : List Int} (h : GenI m ys s f) (hs : (s : Int) = 0) : (ys ++ [(s : Int)]) = (genN 256 m m).map fun x : Nat => (x : Int) := by
  obtain ⟨h1, h2, h3, h4⟩ := h
  obtain ⟨f', rfl⟩ : ∃ f', f = f' + 1 := ⟨f - 1, by omega⟩
  rw [← h4, genN, if_pos (by omega)]
  simp

/-- the first place of a value, or -1 -/
def idxN (v : Int) : List Int → Nat
  | [] => 0
  | x :: r => if v = x then 0 else idxN v r + 1
theorem idxN_at {v : Int} : ∀ {xs : List Int} {k : Nat}, (∀ i, i < k → ¬ v = xs.getD i 0) → k < xs.length → v = xs.getD k 0 → idxN v xs = k
  | [], _, _, hk, _ => by simp at hk
  | x :: r, 0, _, _, h => by unfold idxN; rw [if_pos (by simpa using h)]
  | x :: r, k + 1, hI, hk, h => by
    have h0 := hI 0 (by omega)
    unfold idxN
    rw [if_neg (by simpa using h0), idxN_at (xs := r) (k := k) (fun i hi => by simpa using hI (i + 1) (by omega)) (by simpa using hk) (by simpa using h)]
def indexV (xs : List Int) (v : Int) : Int := if v ∈ xs then ((idxN v xs : Nat) : Int) else -1
theorem index_yes {xs : List Int} {v : Int} {k : Nat} (hI : ∀ i, i < k → ¬ v = xs.getD i 0) (hk : k < xs.length) (h : v = List.getD xs (Int.toNat (k : Int)) 0) : indexV xs v = (k : Int) := by
  rw [Int.toNat_natCast] at h
  have h' : xs[k] = v := by
    rw [h, List.getD_eq_getElem?_getD, List.getElem?_eq_getElem hk]; rfl
  have hm : v ∈ xs := h' ▸ List.getElem_mem hk
  unfold indexV
  rw [if_pos hm, idxN_at hI hk h]
theorem index_no {xs : List Int} {v : Int} (hI : ∀ i, i < xs.length → ¬ v = xs.getD i 0) : indexV xs v = -1 := by
  unfold indexV
  rw [if_neg]
  intro hm
  obtain ⟨i, hi, e⟩ := List.getElem_of_mem hm
  exact hI i hi (by rw [List.getD_eq_getElem?_getD, List.getElem?_eq_getElem hi]; exact e.symm)
theorem index_step {xs : List Int} {v : Int} {k : Nat} (hI : ∀ i, i < k → ¬ v = xs.getD i 0) (h : ¬ v = List.getD xs (Int.toNat (k : Int)) 0) : ∀ i, i < k + 1 → ¬ v = xs.getD i 0 := by
  intro i hi
  rcases Nat.lt_or_ge i k with h' | h'
  · exact hI i h'
  · obtain rfl : i = k := by omega
    exact h
def numberV (mask move : Int) : Int × Int := if indexV (movesV mask) move < 0 then (0, 14) else (indexV (movesV mask) move, 0)
theorem numberV_no {mask move : Int} (h : indexV (movesV mask) move < 0) : numberV mask move = (0, 14) := if_pos h
theorem numberV_yes {mask move : Int} (h : ¬ indexV (movesV mask) move < 0) : numberV mask move = (indexV (movesV mask) move, 0) := if_neg h
theorem movesV_len (mask : Int) : (movesV mask).length ≤ 256 := by
  unfold movesV
  rw [List.length_reverse, List.length_map]
  have : ∀ f m s, (genN f m s).length ≤ f := by
    intro f
    induction f with
    | zero => intro m s; simp [genN]
    | succ f ih => intro m s; unfold genN; split <;> simp; exact ih _ _
  exact this _ _ _
theorem movesV_u8 {mask : Int} (h : 0 ≤ mask ∧ mask ≤ 255) : ∀ x ∈ movesV mask, 0 ≤ x ∧ x ≤ 255 := by
  intro x hx
  unfold movesV at hx
  rw [List.mem_reverse, List.mem_map] at hx
  obtain ⟨n, hn, rfl⟩ := hx
  have : ∀ f m s, s ≤ m → ∀ n ∈ genN f m s, n ≤ m := by
    intro f
    induction f with
    | zero => intro m s _ n hn; simp [genN] at hn
    | succ f ih =>
      intro m s hs n hn
      unfold genN at hn
      rcases List.mem_cons.1 hn with h | h
      · omega
      · split at h
        · cases h
        · exact ih m _ (Nat.le_trans (land_le _ _) (by omega)) n h
  have := this _ _ _ (Nat.le_refl _) n hn
  omega

/-! ### boards -/
noncomputable def checkBV (p : Int) (acc : List Bool) (gd : List Int) (nodes : List Nd) (env sys : Int) : Int :=
  if checkV p acc.length gd nodes ≠ 0 then 12 else if acc.getD 0 false = true then 12
  else if Nat.land env.toNat sys.toNat = 0 ∧ ((Nat.lor env.toNat sys.toNat : Nat) : Int) = ((pw p : Nat) : Int) - 1 then 0 else 13
section
variable {p : Int} {acc : List Bool} {gd : List Int} {nodes : List Nd} {env sys q : Int}
theorem checkBV_a (h : ¬ checkV p acc.length gd nodes = 0) : checkBV p acc gd nodes env sys = 12 := if_pos h
theorem checkBV_b (h : checkV p acc.length gd nodes = 0) (h2 : List.getD acc (Int.toNat 0) false = true) : checkBV p acc gd nodes env sys = 12 := by
  unfold checkBV; rw [if_neg (by simp [h]), if_pos (by simpa using h2)]
theorem checkBV_c (h : checkV p acc.length gd nodes = 0) (h2 : List.getD acc (Int.toNat 0) false = false) (h3 : ¬ (((Nat.land env.toNat sys.toNat : Nat) : Int) = 0 ∧ ((Nat.lor env.toNat sys.toNat : Nat) : Int) = ((pw p : Nat) : Int) - 1)) : checkBV p acc gd nodes env sys = 13 := by
  unfold checkBV; rw [if_neg (by simp [h]), if_neg (by simpa using h2), if_neg (fun q => h3 ⟨by rw [q.1]; rfl, q.2⟩)]
theorem checkBV_d (h : checkV p acc.length gd nodes = 0) (h2 : List.getD acc (Int.toNat 0) false = false) (h3 : ((Nat.land env.toNat sys.toNat : Nat) : Int) = 0) (h4 : ((Nat.lor env.toNat sys.toNat : Nat) : Int) = ((pw p : Nat) : Int) - 1) : checkBV p acc gd nodes env sys = 0 := by
  unfold checkBV; rw [if_neg (by simp [h]), if_neg (by simpa using h2), if_pos ⟨by exact_mod_cast h3, h4⟩]
theorem checkBV_auto (h : checkBV p acc gd nodes env sys = 0) : AutoOk p acc.length gd nodes := by
  unfold checkBV at h
  split at h
  · cases h
  · rename_i h2; exact checkV_yes (by simpa using h2)

def rowK (gd : List Int) (nodes : List Nd) (q x : Int) (ys : List Int) (j : Nat) : List Int := (ys.take j).map fun y => nextV gd nodes q ((Nat.lor x.toNat y.toNat : Nat) : Int)
def goesK (gd : List Int) (nodes : List Nd) (q : Int) (xs ys : List Int) (k : Nat) : List (List Int) := (xs.take k).map fun x => rowK gd nodes q x ys ys.length
theorem rowK_len {x : Int} {ys : List Int} {j : Nat} (h : j ≤ ys.length) : (rowK gd nodes q x ys j).length = j := by simp [rowK, h]
theorem goesK_len {xs ys : List Int} {k : Nat} (h : k ≤ xs.length) : (goesK gd nodes q xs ys k).length = k := by simp [goesK, h]
theorem rowK_step {x : Int} {ys : List Int} {j : Nat} (h : j < ys.length) : rowK gd nodes q x ys j ++ [(goF nodes ((Nat.lor (Int.toNat x) (Int.toNat (List.getD ys (Int.toNat (j : Int)) 0)) : Nat) : Int) 9 (List.getD gd (Int.toNat q) 0)).1] = rowK gd nodes q x ys (j + 1) := by
  unfold rowK
  rw [List.take_add_one, List.map_append]
  simp [List.getD_eq_getElem?_getD, h, nextV]
theorem goesK_step {xs ys : List Int} {k : Nat} (h : k < xs.length) : goesK gd nodes q xs ys k ++ [rowK gd nodes q (List.getD xs (Int.toNat (k : Int)) 0) ys ys.length] = goesK gd nodes q xs ys (k + 1) := by
  unfold goesK
  rw [List.take_add_one, List.map_append]
  simp [List.getD_eq_getElem?_getD, h]
noncomputable def goesV (p : Int) (acc : List Bool) (gd : List Int) (nodes : List Nd) (env sys q : Int) : List (List Int) × Int :=
  if checkBV p acc gd nodes env sys ≠ 0 then ([], checkBV p acc gd nodes env sys) else if q < 0 ∨ (acc.length : Int) ≤ q then ([], 2) else (goesK gd nodes q (movesV env) (movesV sys) (movesV env).length, 0)
theorem goesV_a (h : ¬ checkBV p acc gd nodes env sys = 0) : goesV p acc gd nodes env sys q = ([], checkBV p acc gd nodes env sys) := if_pos h
theorem goesV_b (h : checkBV p acc gd nodes env sys = 0) (h2 : q < 0 ∨ (acc.length : Int) ≤ q) : goesV p acc gd nodes env sys q = ([], 2) := by
  unfold goesV; rw [if_neg (by simp [h]), if_pos h2]
theorem goesV_c (h : checkBV p acc gd nodes env sys = 0) (h0 : ¬ q < 0) (h1 : ¬ (acc.length : Int) ≤ q) : goesV p acc gd nodes env sys q = (goesK gd nodes q (movesV env) (movesV sys) (movesV env).length, 0) := by
  unfold goesV; rw [if_neg (by simp [h]), if_neg (by omega)]
end

theorem goes_first : goesV 2 [false, false, true] [0, -2, -3] [⟨0, -2, -3⟩] 1 2 0 = ([[1, 1], [2, 2]], 0) := by
  have h1 : checkV 2 [false, false, true].length [0, -2, -3] [⟨0, -2, -3⟩] = 0 := checkV_dec (by decide +kernel)
  have h2 : checkBV 2 [false, false, true] [0, -2, -3] [⟨0, -2, -3⟩] 1 2 = 0 := checkBV_d h1 (by decide) (by decide) (by decide)
  rw [goesV_c h2 (by decide) (by decide)]
  have h3 : goesK [0, -2, -3] [⟨0, -2, -3⟩] 0 (movesV 1) (movesV 2) (movesV 1).length = [[1, 1], [2, 2]] := by decide +kernel
  rw [h3]
theorem moves5 : movesV 5 = [0, 1, 4, 5] := by decide +kernel

/-- the choices within a mask, by a sieve -/
theorem moves_sieve {m : Nat} (h : m < 256) : (genN 256 m m).reverse = (List.range 256).filter (fun x => Nat.land x m == x) := by
  have : ∀ m : Fin 256, (genN 256 m.val m.val).reverse = (List.range 256).filter (fun x => Nat.land x m.val == x) := by decide +kernel
  exact this ⟨m, h⟩
theorem moves_count {m : Nat} (h : m < 256) : (genN 256 m m).length = 2 ^ popK m 8 := by
  have : ∀ m : Fin 256, (genN 256 m.val m.val).length = 2 ^ popK m.val 8 := by decide +kernel
  exact this ⟨m, h⟩
theorem movesV_count {mask : Int} (h : 0 ≤ mask ∧ mask ≤ 255) : (movesV mask).length = 2 ^ popK mask.toNat 8 := by
  unfold movesV
  rw [List.length_reverse, List.length_map, moves_count (by omega)]
theorem movesV_sieve {mask : Int} (h : 0 ≤ mask ∧ mask ≤ 255) : movesV mask = ((List.range 256).filter (fun x => Nat.land x mask.toNat == x)).map fun x : Nat => (x : Int) := by
  unfold movesV
  rw [← List.map_reverse, moves_sieve (by omega)]
theorem movesV_mem {mask x : Int} (h : 0 ≤ mask ∧ mask ≤ 255) (hx : 0 ≤ x ∧ x ≤ 255) : x ∈ movesV mask ↔ Nat.land x.toNat mask.toNat = x.toNat := by
  rw [movesV_sieve h, List.mem_map]
  constructor
  · rintro ⟨n, hn, rfl⟩
    have := (List.mem_filter.1 hn).2
    simpa using this
  · intro e
    exact ⟨x.toNat, List.mem_filter.2 ⟨by rw [List.mem_range]; omega, by simpa using e⟩, by omega⟩
theorem movesV_rise {mask : Int} (h : 0 ≤ mask ∧ mask ≤ 255) : (movesV mask).Pairwise (· < ·) := by
  rw [movesV_sieve h, List.pairwise_map]
  refine List.Pairwise.filter _ ?_
  exact (List.pairwise_lt_range (n := 256)).imp fun h => by omega
theorem rise_lt {xs : List Int} (h : xs.Pairwise (· < ·)) {i j : Nat} (hij : i < j) (hj : j < xs.length) : xs.getD i 0 < xs.getD j 0 := by
  have := List.pairwise_iff_getElem.1 h i j (by omega) hj hij
  rw [List.getD_eq_getElem?_getD, List.getElem?_eq_getElem (show i < xs.length by omega), List.getD_eq_getElem?_getD, List.getElem?_eq_getElem hj]
  exact this
theorem number_at {mask : Int} (h : 0 ≤ mask ∧ mask ≤ 255) {k : Nat} (hk : k < (movesV mask).length) : numberV mask (List.getD (movesV mask) (Int.toNat (k : Int)) 0) = ((k : Int), 0) := by
  have e : indexV (movesV mask) (List.getD (movesV mask) (Int.toNat (k : Int)) 0) = (k : Int) := by
    refine index_yes (fun i hi => ?_) hk rfl
    have := rise_lt (movesV_rise h) hi hk
    rw [Int.toNat_natCast]
    omega
  rw [numberV_yes (by rw [e]; omega), e]
theorem getD_mem {xs : List Int} {k : Nat} (h : k < xs.length) : xs.getD k 0 ∈ xs := by
  rw [List.getD_eq_getElem?_getD, List.getElem?_eq_getElem h]
  exact List.getElem_mem h
theorem number_iff {mask x : Int} (h : 0 ≤ mask ∧ mask ≤ 255) (hx : 0 ≤ x ∧ x ≤ 255) : numberV mask x = if Nat.land x.toNat mask.toNat = x.toNat then (((idxN x (movesV mask) : Nat) : Int), 0) else (0, 14) := by
  unfold numberV indexV
  by_cases hm : x ∈ movesV mask
  · rw [if_pos hm, if_neg (by omega), if_pos ((movesV_mem h hx).1 hm)]
  · rw [if_neg hm, if_pos (by decide), if_neg (fun e => hm ((movesV_mem h hx).2 e))]
/-- what a letter has beside a mask -/
theorem andNot_iff {x m : Nat} (hx : x < 256) (hm : m < 256) : Nat.land x (255 - m) = 0 ↔ Nat.land x m = x := by
  have key : ∀ b, (255 - m).testBit b = (decide (b < 8) && !m.testBit b) := by
    intro b
    have : 255 - m = 2 ^ 8 - (m + 1) := by omega
    rw [this, Nat.testBit_two_pow_sub_succ (by omega)]
  constructor
  · intro h
    apply Nat.eq_of_testBit_eq
    intro b
    have h2 : (x &&& (255 - m)).testBit b = false := by rw [show x &&& (255 - m) = 0 from h, Nat.zero_testBit]
    rw [Nat.testBit_and, key] at h2
    show (x &&& m).testBit b = _
    rw [Nat.testBit_and]
    by_cases hb : b < 8
    · simp only [hb, decide_true, Bool.true_and] at h2
      revert h2
      cases x.testBit b <;> cases m.testBit b <;> simp
    · have : x.testBit b = false := Nat.testBit_lt_two_pow (Nat.lt_of_lt_of_le (show x < 2 ^ 8 from hx) (Nat.pow_le_pow_right (by omega) (by omega)))
      rw [this]; rfl
  · intro h
    apply Nat.eq_of_testBit_eq
    intro b
    show (x &&& (255 - m)).testBit b = _
    have h2 : (x &&& m).testBit b = x.testBit b := by rw [show x &&& m = x from h]
    rw [Nat.testBit_and] at h2
    rw [Nat.testBit_and, key, Nat.zero_testBit]
    revert h2
    cases x.testBit b <;> cases m.testBit b <;> simp
theorem mv_fit {mask : Int} (h : 0 ≤ mask ∧ mask ≤ 255) {k : Nat} (hk : k < (movesV mask).length) : ((Nat.land (Int.toNat (List.getD (movesV mask) (Int.toNat (k : Int)) 0)) (255 - Int.toNat mask) : Nat) : Int) = 0 := by
  rw [Int.toNat_natCast]
  have hx := getD_u8 (movesV_u8 h) k
  have := (movesV_mem h hx).1 (getD_mem hk)
  exact_mod_cast (andNot_iff (by omega) (by omega)).2 this
theorem mv_rise {mask : Int} (h : 0 ≤ mask ∧ mask ≤ 255) {k : Nat} (hk : k < (movesV mask).length) (h0 : 0 < (k : Int)) : ¬ (List.getD (movesV mask) (Int.toNat (k : Int)) 0 ≤ List.getD (movesV mask) (Int.toNat ((k : Int) - 1)) 0) := by
  have := rise_lt (movesV_rise h) (show k - 1 < k by omega) hk
  rw [Int.toNat_natCast, show Int.toNat ((k : Int) - 1) = k - 1 by omega]
  omega
theorem num_fit {mask x : Int} (h : 0 ≤ mask ∧ mask ≤ 255) (hx : 0 ≤ x ∧ x ≤ 255) : ((numberV mask x).2 == 0) = ((((Nat.land (Int.toNat x) (255 - Int.toNat mask) : Nat) : Int)) == 0) := by
  have hi := @andNot_iff x.toNat mask.toNat (by omega) (by omega)
  rw [number_iff h hx]
  by_cases e : Nat.land x.toNat mask.toNat = x.toNat
  · rw [if_pos e, hi.2 e]; rfl
  · rw [if_neg e]
    have : ¬ Nat.land (Int.toNat x) (255 - Int.toNat mask) = 0 := fun q => e (hi.1 q)
    have h2 : (((Nat.land (Int.toNat x) (255 - Int.toNat mask) : Nat) : Int) == 0) = false := by
      rw [beq_eq_false_iff_ne]; exact_mod_cast this
    rw [h2]; rfl
theorem num_err {mask x : Int} (h : ¬ (numberV mask x).2 = 0) : ((numberV mask x).2 == 14) = true := by
  unfold numberV at h ⊢
  split
  · rfl
  · rename_i q; rw [if_neg q] at h; exact absurd rfl h
theorem pop_bit (x k : Nat) : popK x (k + 1) = popK x k + x / 2 ^ k % 2 := by
  rw [popK]
  congr 1
  rw [Nat.testBit_eq_decide_div_mod_eq]
  rcases Nat.mod_two_eq_zero_or_one (x / 2 ^ k) with h | h <;> simp [h]

/-! ### a split: some of the propositions, and the rest -/
def largeB (p : Int) (n g m : Nat) : Bool := decide ((3 < p ∧ p ≤ 8) ∨ (10 < (n : Int) ∧ (n : Int) ≤ 256) ∨ 259 < (n : Int) ∨ 40 < (m : Int) ∨ 300 < (g : Int))
theorem largeB_no {p : Int} {n g m : Nat} (h : largeB p n g m = false) : ¬ (3 < p ∧ p ≤ 8) ∧ ¬ (10 < (n : Int) ∧ (n : Int) ≤ 256) ∧ (n : Int) ≤ 259 ∧ (m : Int) ≤ 40 ∧ (g : Int) ≤ 300 := by
  have := of_decide_eq_false h
  omega
def realB (n g : Nat) : Bool := decide (0 < (n : Int) ∧ (g : Int) = n)
theorem real_ok {p : Int} {n : Nat} {gd : List Int} {nodes : List Nd} (H : AutoOk p n gd nodes) : realB n gd.length = true := decide_eq_true (by have := H.n1; have := H.gl; omega)
/-- a number brought below n -/
def pickV (x n : Int) : Int := if n < 1 then 0 else if Int.tmod x n < 0 then Int.tmod x n + n else Int.tmod x n
theorem pickV_in {x n : Int} (h : 1 ≤ n) : 0 ≤ pickV x n ∧ pickV x n < n := by
  unfold pickV
  rw [if_neg (by omega)]
  have h1 := Int.tmod_lt_of_pos x (show 0 < n by omega)
  have h2 : -n < Int.tmod x n := by
    have := Int.tmod_lt_of_pos (-x) (show 0 < n by omega)
    rw [Int.neg_tmod] at this
    omega
  split <;> omega
theorem pw_nat {p : Int} (h0 : 0 ≤ p) (h8 : p ≤ 8) : pw p - 1 = 2 ^ p.toNat - 1 ∧ pw p - 1 < 256 := by
  have := pw_le h8
  exact ⟨rfl, by omega⟩
def partE (env : Int) (p : Int) : Nat := Nat.land (Int.toNat env) (Int.toNat ((pw p - 1 : Nat) : Int))
def partS (env : Int) (p : Int) : Nat := Nat.land (Int.toNat ((pw p - 1 : Nat) : Int)) (255 - Int.toNat env)
theorem land_lt {a : Int} (h : 0 ≤ a ∧ a ≤ 255) (b : Nat) : 0 ≤ ((Nat.land a.toNat b : Nat) : Int) ∧ ((Nat.land a.toNat b : Nat) : Int) ≤ 255 := by
  have := land_le a.toNat b
  omega
theorem bit255 (m b : Nat) (hm : m < 256) : (255 - m).testBit b = (decide (b < 8) && !m.testBit b) := by
  rw [show 255 - m = 2 ^ 8 - (m + 1) by omega, Nat.testBit_two_pow_sub_succ (by omega)]
section
variable {env p : Int}
theorem part_land (he : 0 ≤ env ∧ env ≤ 255) : Nat.land (partE env p) (partS env p) = 0 := by
  apply Nat.eq_of_testBit_eq
  intro b
  show (partE env p &&& partS env p).testBit b = _
  unfold partE partS
  rw [Nat.testBit_and, show (Nat.land (Int.toNat env) (Int.toNat ((pw p - 1 : Nat) : Int))).testBit b = (env.toNat &&& (pw p - 1)).testBit b by rw [Int.toNat_natCast]; rfl, show (Nat.land (Int.toNat ((pw p - 1 : Nat) : Int)) (255 - Int.toNat env)).testBit b = ((pw p - 1) &&& (255 - env.toNat)).testBit b by rw [Int.toNat_natCast]; rfl, Nat.testBit_and, Nat.testBit_and, bit255 _ _ (by omega), Nat.zero_testBit]
  cases env.toNat.testBit b <;> cases (pw p - 1).testBit b <;> simp
theorem part_lor (he : 0 ≤ env ∧ env ≤ 255) (h0 : 0 ≤ p) (h8 : p ≤ 8) : Nat.lor (partE env p) (partS env p) = pw p - 1 := by
  have hp := (pw_nat h0 h8).2
  apply Nat.eq_of_testBit_eq
  intro b
  show (partE env p ||| partS env p).testBit b = _
  unfold partE partS
  rw [Nat.testBit_or, show (Nat.land (Int.toNat env) (Int.toNat ((pw p - 1 : Nat) : Int))).testBit b = (env.toNat &&& (pw p - 1)).testBit b by rw [Int.toNat_natCast]; rfl, show (Nat.land (Int.toNat ((pw p - 1 : Nat) : Int)) (255 - Int.toNat env)).testBit b = ((pw p - 1) &&& (255 - env.toNat)).testBit b by rw [Int.toNat_natCast]; rfl, Nat.testBit_and, Nat.testBit_and, bit255 _ _ (by omega)]
  by_cases hb : b < 8
  · simp only [hb, decide_true, Bool.true_and]
    cases env.toNat.testBit b <;> cases (pw p - 1).testBit b <;> simp
  · have : (pw p - 1).testBit b = false := Nat.testBit_lt_two_pow (Nat.lt_of_lt_of_le (show pw p - 1 < 2 ^ 8 from hp) (Nat.pow_le_pow_right (by omega) (by omega)))
    rw [this]; simp
theorem popK_or {x y : Nat} (h : Nat.land x y = 0) : ∀ k, popK x k + popK y k = popK (Nat.lor x y) k
  | 0 => rfl
  | k + 1 => by
    have h1 := popK_or h k
    have h2 : (x &&& y).testBit k = false := by rw [show x &&& y = 0 from h, Nat.zero_testBit]
    rw [Nat.testBit_and] at h2
    rw [popK, popK, popK, ← h1, show (Nat.lor x y).testBit k = (x ||| y).testBit k from rfl, Nat.testBit_or]
    clear h1
    revert h2
    cases x.testBit k <;> cases y.testBit k <;> simp <;> omega
theorem popK_pw (h0 : 0 ≤ p) (h8 : p ≤ 8) : popK (pw p - 1) 8 = p.toNat := by
  have : ∀ n : Fin 9, popK (2 ^ n.val - 1) 8 = n.val := by decide +kernel
  exact this ⟨p.toNat, by omega⟩
theorem part_u8 (he : 0 ≤ env ∧ env ≤ 255) (h0 : 0 ≤ p) (h8 : p ≤ 8) : (0 ≤ ((partE env p : Nat) : Int) ∧ ((partE env p : Nat) : Int) ≤ 255) ∧ (0 ≤ ((partS env p : Nat) : Int) ∧ ((partS env p : Nat) : Int) ≤ 255) := by
  have h1 : partE env p ≤ env.toNat := land_le _ _
  have h2 : partS env p ≤ Int.toNat ((pw p - 1 : Nat) : Int) := land_le _ _
  have := (pw_nat h0 h8).2
  omega
theorem part_count (he : 0 ≤ env ∧ env ≤ 255) (h0 : 0 ≤ p) (h8 : p ≤ 8) : (movesV ((partE env p : Nat) : Int)).length * (movesV ((partS env p : Nat) : Int)).length = pw p := by
  obtain ⟨h1, h2⟩ := part_u8 he h0 h8
  rw [movesV_count h1, movesV_count h2, ← Nat.pow_add, Int.toNat_natCast, Int.toNat_natCast, popK_or (part_land he), part_lor he h0 h8, popK_pw h0 h8]
  rfl
theorem part_check {acc : List Bool} {gd : List Int} {nodes : List Nd} (he : 0 ≤ env ∧ env ≤ 255) (h : checkV p acc.length gd nodes = 0) (h2 : List.getD acc (Int.toNat 0) false = false) : checkBV p acc gd nodes ((partE env p : Nat) : Int) ((partS env p : Nat) : Int) = 0 := by
  have H := checkV_yes h
  refine checkBV_d h h2 ?_ ?_
  · rw [Int.toNat_natCast, Int.toNat_natCast, part_land he]; rfl
  · rw [Int.toNat_natCast, Int.toNat_natCast, part_lor he H.p0 H.p8]
    have := pw_le H.p8
    omega
theorem part_goes {acc : List Bool} {gd : List Int} {nodes : List Nd} {q : Int} (he : 0 ≤ env ∧ env ≤ 255) (h : checkV p acc.length gd nodes = 0) (h2 : List.getD acc (Int.toNat 0) false = false) (h3 : 0 ≤ q ∧ q < acc.length) :
    goesV p acc gd nodes ((partE env p : Nat) : Int) ((partS env p : Nat) : Int) q = (goesK gd nodes q (movesV ((partE env p : Nat) : Int)) (movesV ((partS env p : Nat) : Int)) (movesV ((partE env p : Nat) : Int)).length, 0) :=
  goesV_c (part_check he h h2) (by omega) (by omega)
theorem goesK_at {gd : List Int} {nodes : List Nd} {q : Int} {xs ys : List Int} {k : Nat} (hk : k < xs.length) : List.getD (goesK gd nodes q xs ys xs.length) (Int.toNat (k : Int)) [] = rowK gd nodes q (List.getD xs (Int.toNat (k : Int)) 0) ys ys.length := by
  unfold goesK
  simp [List.getD_eq_getElem?_getD, hk]
theorem rowK_at {gd : List Int} {nodes : List Nd} {q x : Int} {ys : List Int} {j : Nat} (hj : j < ys.length) : List.getD (rowK gd nodes q x ys ys.length) (Int.toNat (j : Int)) 0 = nextV gd nodes q ((Nat.lor (Int.toNat x) (Int.toNat (List.getD ys (Int.toNat (j : Int)) 0)) : Nat) : Int) := by
  unfold rowK
  simp [List.getD_eq_getElem?_getD, hj]
end

/-! ### tables of an automaton that may be -/
theorem table_ok {p : Int} {n : Nat} {gd : List Int} {nodes : List Nd} (H : AutoOk p n gd nodes) {i : Nat} (hi : i < gd.length) : tableV p nodes (List.getD gd (Int.toNat (i : Int)) 0) = (tabL nodes (List.getD gd (Int.toNat (i : Int)) 0) (pw p), 0) := by
  have h0 := H.p0
  have h8 := H.p8
  refine tableV_ok (by omega) (by omega) fun k _ => ?_
  have := next_in H (q := (i : Int)) ((k : Nat) : Int) (by omega) (by have := H.gl; omega)
  exact this.1
def tabsK (nodes : List Nd) (gd : List Int) (p : Int) (k : Nat) : List (List Int) := (gd.take k).map fun g => tabL nodes g (pw p)
theorem tabsK_len {nodes : List Nd} {gd : List Int} {p : Int} {k : Nat} (h : k ≤ gd.length) : (tabsK nodes gd p k).length = k := by simp [tabsK, h]
theorem tabsK_step {nodes : List Nd} {gd : List Int} {p : Int} {k : Nat} (h : k < gd.length) : tabsK nodes gd p k ++ [tabL nodes (List.getD gd (Int.toNat (k : Int)) 0) (pw p)] = tabsK nodes gd p (k + 1) := by
  unfold tabsK
  rw [List.take_add_one, List.map_append]
  simp [List.getD_eq_getElem?_getD, h]
/-- why nothing is told of an automaton and a trace -/
noncomputable def askedV (p : Int) (n : Nat) (gd : List Int) (nodes : List Nd) (t : List Int) : Int := if checkV p n gd nodes = 0 then traceV p t else 12

/-- rows that are made: the first i of them -/
def madeK (R K i : Nat) : List (List Int) := List.replicate i (List.replicate K 0) ++ List.replicate (R - i) []
theorem madeK_len {R K i : Nat} (h : i ≤ R) : (madeK R K i).length = R := by simp [madeK]; omega
theorem made_start (R K : Nat) : List.replicate R ([] : List Int) = madeK R K 0 := by simp [madeK]
theorem made_step {R K i : Nat} (h : i < R) : List.set (madeK R K i) (Int.toNat (i : Int)) (List.replicate K 0) = madeK R K (i + 1) := by
  unfold madeK
  rw [Int.toNat_natCast, List.set_append_right _ _ (by simp), List.length_replicate, Nat.sub_self, show R - i = (R - (i + 1)) + 1 by omega, List.replicate_succ, List.set_cons_zero, List.replicate_succ']
  simp
theorem made_end (R K : Nat) : madeK R K R = List.replicate R (List.replicate K 0) := by simp [madeK]
theorem made_cut {R K i : Nat} (h : (i + 1) * K ≤ R * K) : List.take K (List.drop (Int.toNat ((i * K : Nat) : Int)) (List.replicate (R * K) (0 : Int))) = List.replicate K 0 := by
  rw [Int.toNat_natCast, List.drop_replicate, List.take_replicate]
  congr 1
  rw [Nat.add_mul, Nat.one_mul] at h
  omega
end Go.V
