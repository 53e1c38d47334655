/- Plain theory: how far letters and traces are from one another. No program. -/
import Derived.Test.YtldcmipgdacecaaLT
set_option linter.all false
set_option linter.unusedVariables false
set_option maxRecDepth 100000
namespace Go.V
open Go Go.Proofs
/-- how many ones a letter has -/
def pc (n : Nat) : Nat := (n.testBit 0).toNat + (n.testBit 1).toNat + (n.testBit 2).toNat + (n.testBit 3).toNat + (n.testBit 4).toNat + (n.testBit 5).toNat + (n.testBit 6).toNat + (n.testBit 7).toNat
theorem pc_xor_le (a b : Nat) : pc (a ^^^ b) ≤ pc a + pc b := by
  unfold pc
  simp only [Nat.testBit_xor]
  have h : ∀ x y : Bool, (x ^^ y).toNat ≤ x.toNat + y.toNat := by decide
  have h0 := h (a.testBit 0) (b.testBit 0)
  have h1 := h (a.testBit 1) (b.testBit 1)
  have h2 := h (a.testBit 2) (b.testBit 2)
  have h3 := h (a.testBit 3) (b.testBit 3)
  have h4 := h (a.testBit 4) (b.testBit 4)
  have h5 := h (a.testBit 5) (b.testBit 5)
  have h6 := h (a.testBit 6) (b.testBit 6)
  have h7 := h (a.testBit 7) (b.testBit 7)
  omega
theorem pc_le (a : Nat) : pc a ≤ 8 := by
  unfold pc
  have h : ∀ x : Bool, x.toNat ≤ 1 := by decide
  have h0 := h (a.testBit 0)
  have h1 := h (a.testBit 1)
  have h2 := h (a.testBit 2)
  have h3 := h (a.testBit 3)
  have h4 := h (a.testBit 4)
  have h5 := h (a.testBit 5)
  have h6 := h (a.testBit 6)
  have h7 := h (a.testBit 7)
  omega
theorem pc_tab : ((List.range 256).all fun n => decide (pc n = 0 → n = 0) && decide (math_bits_OnesCount8 0 (n : Int) = some ((pc n : Nat) : Int))) = true := by kernel_rfl
theorem pc_zero {n : Nat} (h : n < 256) (h0 : pc n = 0) : n = 0 := by
  have := List.all_eq_true.1 pc_tab n (List.mem_range.2 h)
  simp only [Bool.and_eq_true, decide_eq_true_eq] at this
  exact this.1 h0
theorem ones_ok {N : Nat} {n : Nat} (h : n < 256) : math_bits_OnesCount8 N (n : Int) = some ((pc n : Nat) : Int) := by
  have := List.all_eq_true.1 pc_tab n (List.mem_range.2 h)
  simp only [Bool.and_eq_true, decide_eq_true_eq] at this
  exact this.2
theorem xor_lt {a b : Nat} (ha : a < 256) (hb : b < 256) : a ^^^ b < 256 := Nat.xor_lt_two_pow (n := 8) ha hb
theorem xor_nat {a b : Nat} (ha : a < 256) (hb : b < 256) : xorV .u8 (a : Int) (b : Int) = ((a ^^^ b : Nat) : Int) := by
  have hx := xor_lt ha hb
  unfold xorV
  have e : (BitVec.ofInt IntKind.u8.bits (a : Int) ^^^ BitVec.ofInt IntKind.u8.bits (b : Int)).toNat = a ^^^ b := by
    show (BitVec.ofInt 8 (a : Int) ^^^ BitVec.ofInt 8 (b : Int)).toNat = a ^^^ b
    rw [BitVec.ofInt_natCast, BitVec.ofInt_natCast, BitVec.toNat_xor, BitVec.toNat_ofNat, BitVec.toNat_ofNat, Nat.mod_eq_of_lt ha, Nat.mod_eq_of_lt hb]
  rw [e]
  exact wrap_u8 (by omega) (by omega)
theorem unlike_ok {N : Nat} {a b : Nat} (ha : a < 256) (hb : b < 256) : near_unlike N (a : Int) (b : Int) = some ((pc (a ^^^ b) : Nat) : Int) := by
  unfold near_unlike
  rw [xor_nat ha hb, ones_ok (xor_lt ha hb), Option.bind_some]
/-- how far traces are from one another -/
def farN : List Nat → List Nat → Nat
  | a :: xs, b :: bs => pc (a ^^^ b) + farN xs bs
  | _, _ => 0
theorem farN_le : ∀ (a b : List Nat), farN a b ≤ 8 * a.length
  | [], _ => by simp [farN]
  | _ :: _, [] => by simp [farN]
  | a :: xs, b :: bs => by
    have := farN_le xs bs
    have := pc_le (a ^^^ b)
    simp only [farN, List.length_cons]
    omega
theorem farN_symm : ∀ (a b : List Nat), farN a b = farN b a
  | [], [] => rfl
  | [], _ :: _ => rfl
  | _ :: _, [] => rfl
  | a :: xs, b :: bs => by simp only [farN]; rw [farN_symm xs bs, Nat.xor_comm]
theorem farN_zero : ∀ (a b : List Nat), a.length = b.length → (∀ l ∈ a, l < 256) → (∀ l ∈ b, l < 256) → (farN a b = 0 ↔ a = b)
  | [], [], _, _, _ => by simp [farN]
  | [], _ :: _, h, _, _ => by simp at h
  | _ :: _, [], h, _, _ => by simp at h
  | a :: xs, b :: bs, h, ha, hb => by
    have ih := farN_zero xs bs (by simpa using h) (fun l hl => ha l (List.mem_cons_of_mem _ hl)) (fun l hl => hb l (List.mem_cons_of_mem _ hl))
    have hx := xor_lt (ha a List.mem_cons_self) (hb b List.mem_cons_self)
    simp only [farN, List.cons.injEq]
    constructor
    · intro h0
      have h1 : pc (a ^^^ b) = 0 := by omega
      have h2 := pc_zero hx h1
      have h3 : a = b := by
        have : (a ^^^ b) ^^^ b = a := by rw [Nat.xor_assoc, Nat.xor_self, Nat.xor_zero]
        rw [h2, Nat.zero_xor] at this
        exact this.symm
      exact ⟨h3, ih.1 (by omega)⟩
    · rintro ⟨rfl, h2⟩
      have := ih.2 h2
      rw [Nat.xor_self, this]
      rfl
theorem farN_tri : ∀ (a b c : List Nat), a.length = b.length → b.length = c.length → farN a c ≤ farN a b + farN b c
  | [], _, _, _, _ => by simp [farN]
  | _ :: _, [], _, h, _ => by simp at h
  | _ :: _, _ :: _, [], _, h => by simp at h
  | a :: xs, b :: bs, c :: cs, h, h2 => by
    have ih := farN_tri xs bs cs (by simpa using h) (by simpa using h2)
    have hp := pc_xor_le (a ^^^ b) (b ^^^ c)
    have e : (a ^^^ b) ^^^ (b ^^^ c) = a ^^^ c := by
      rw [Nat.xor_assoc, ← Nat.xor_assoc b b c, Nat.xor_self, Nat.zero_xor]
    rw [e] at hp
    simp only [farN]
    omega
theorem getD_map {t : List Nat} {x : Nat} (ha : x < t.length) : (t.map fun l : Nat => (l : Int)).getD (x : Int).toNat 0 = ((t.getD x 0 : Nat) : Int) := by
  rw [Int.toNat_natCast, List.getD_eq_getElem?_getD, List.getD_eq_getElem?_getD, List.getElem?_map, List.getElem?_eq_getElem ha]
  rfl
theorem getD_lt {t : List Nat} {K : Nat} (h : ∀ l ∈ t, l < K) {x : Nat} (ha : x < t.length) : t.getD x 0 < K := h _ (by rw [List.getD_eq_getElem?_getD, List.getElem?_eq_getElem ha]; exact List.getElem_mem ha)
theorem dropD {t : List Nat} {x : Nat} (ha : x < t.length) : t.drop x = t.getD x 0 :: t.drop (x + 1) := by
  rw [List.drop_eq_getElem_cons ha, List.getD_eq_getElem?_getD, List.getElem?_eq_getElem ha]
  rfl
section
variable {N : Nat}
theorem Far_l0_ok {a b : List Nat} (hl : a.length = b.length) (ha : ∀ l ∈ a, l < 256) (hb : ∀ l ∈ b, l < 256) (ht : a.length ≤ 2000) : ∀ (m n x : Nat), x ≤ a.length → a.length - x < m → n ≤ 8 * x → near_Far_l0 N (a.map fun l : Nat => (l : Int)) (b.map fun l : Nat => (l : Int)) m (n : Int) (x : Int) = some ((n + farN (a.drop x) (b.drop x) : Nat) : Int)
  | 0, n, x, _, h, _ => by omega
  | m + 1, n, x, k0, k1, k2 => by
    unfold near_Far_l0
    rw [List.length_map, List.length_map]
    by_cases hx : (x : Int) < (a.length : Int)
    · have hxa : x < a.length := by omega
      have hxb : x < b.length := by omega
      have hp := pc_le (a.getD x 0 ^^^ b.getD x 0)
      rw [if_pos hx, getD_map hxa, getD_map hxb]
      unfold ask
      rw [if_pos (by unfold idx; omega), if_pos (by unfold idx; omega), unlike_ok (getD_lt ha hxa) (getD_lt hb hxb), Option.bind_some, if_pos (by unfold in64; omega), if_pos (by unfold in64; omega)]
      have ih := Far_l0_ok hl ha hb ht m (n + pc (a.getD x 0 ^^^ b.getD x 0)) (x + 1) (by omega) (by omega) (by omega)
      rw [show ((n : Int) + ((pc (a.getD x 0 ^^^ b.getD x 0) : Nat) : Int)) = ((n + pc (a.getD x 0 ^^^ b.getD x 0) : Nat) : Int) by omega, show ((x : Int) + 1) = ((x + 1 : Nat) : Int) by omega, ih, dropD hxa, dropD hxb]
      simp only [farN]
      rw [Nat.add_assoc]
    · rw [if_neg hx, List.drop_eq_nil_of_le (by omega), List.drop_eq_nil_of_le (by omega)]
      rfl
theorem two8 : two 8 = 256 := rfl
theorem Far_ok (hN : 5000 ≤ N) {a b : List Nat} (hl : a.length = b.length) (ha : ∀ l ∈ a, l < 256) (hb : ∀ l ∈ b, l < 256) (ht : a.length ≤ 1024) : near_Far N (a.map fun l : Nat => (l : Int)) (b.map fun l : Nat => (l : Int)) = some (((farN a b : Nat) : Int), 0) := by
  unfold near_Far
  rw [Trace_ok hN (by omega) (by rw [two8]; exact ha) ht, Option.bind_some, if_pos rfl, Trace_ok hN (by omega) (by rw [two8]; exact hb) (by omega), Option.bind_some, if_pos rfl, List.length_map, List.length_map, if_pos (by omega)]
  have h := Far_l0_ok (N := N) hl ha hb (by omega) N 0 0 (by omega) (by omega) (by omega)
  rw [List.drop_zero, List.drop_zero, Nat.zero_add] at h
  rw [show ((0 : Nat) : Int) = 0 from rfl] at h
  rw [h]
  rfl
/-! ### equal traces -/
theorem SameL_l0_ok {a b : List Int} (hl : a.length = b.length) (h : a.length ≤ 100000) : ∀ (m : Nat) (i : Nat), i ≤ a.length → a.length - i < m → (∀ j, j < i → a.getD j 0 = b.getD j 0) → kit_SameLetters_l0 N a b m (i : Int) = some (if a = b then .inl () else .inr false)
  | 0, i, _, h, _ => by omega
  | m + 1, i, h1, h2, h3 => by
    unfold kit_SameLetters_l0
    by_cases hi : (i : Int) < (a.length : Int)
    · rw [if_pos hi]
      unfold ask
      rw [if_pos (by unfold idx; omega), if_pos (by unfold idx; omega), Int.toNat_natCast]
      by_cases e : a.getD i 0 = b.getD i 0
      · have ih := SameL_l0_ok hl h m (i + 1) (by omega) (by omega) (fun j hj => by
          by_cases ej : j = i
          · rw [ej]; exact e
          · exact h3 j (by omega))
        rw [if_pos e, if_pos (by unfold in64; omega), show ((i : Int) + 1) = ((i + 1 : Nat) : Int) by omega, ih]
      · rw [if_neg e, if_neg (fun e2 => e (by rw [e2]))]
    · rw [if_neg hi, if_pos ?_]
      apply List.ext_getElem hl
      intro j hj hj2
      have := h3 j (by omega)
      rw [List.getD_eq_getElem?_getD, List.getD_eq_getElem?_getD, List.getElem?_eq_getElem hj, List.getElem?_eq_getElem hj2] at this
      exact this
theorem SameL_ok (hN : 5000 ≤ N) {a b : List Int} (ha : a.length ≤ 3000) : kit_SameLetters N a b = some (decide (a = b)) := by
  unfold kit_SameLetters
  by_cases hl : a.length = b.length
  · have h := SameL_l0_ok (N := N) hl (by omega) N 0 (by omega) (by omega) (fun j hj => by omega)
    rw [show ((0 : Nat) : Int) = 0 from rfl] at h
    rw [if_pos (by omega), h]
    by_cases e : a = b
    · rw [if_pos e, decide_eq_true e]; rfl
    · rw [if_neg e, decide_eq_false e]; rfl
  · rw [if_neg (by omega), decide_eq_false (fun e => hl (by rw [e]))]
end
theorem map_inj {a b : List Nat} : (a.map fun l : Nat => (l : Int)) = (b.map fun l : Nat => (l : Int)) ↔ a = b := by
  constructor
  · intro h
    have h2 := congrArg (List.map Int.toNat) h
    rw [List.map_map, List.map_map] at h2
    have e : ∀ t : List Nat, t.map (Int.toNat ∘ fun l : Nat => (l : Int)) = t := fun t => by
      have : (Int.toNat ∘ fun l : Nat => (l : Int)) = id := by funext x; exact Int.toNat_natCast x
      rw [this, List.map_id]
    rwa [e, e] at h2
  · intro h; rw [h]
/-- letters, xs numbers -/
theorem letters_nat : ∀ {t : List Int}, (∀ x ∈ t, 0 ≤ x ∧ x ≤ 255) → ∃ u : List Nat, t = u.map (fun l : Nat => (l : Int)) ∧ u.length = t.length ∧ ∀ l ∈ u, l < 256
  | [], _ => ⟨[], rfl, rfl, fun l h => by cases h⟩
  | x :: t, h => by
    obtain ⟨u, h1, h2, h3⟩ := letters_nat (t := t) fun y hy => h y (List.mem_cons_of_mem _ hy)
    have hx := h x List.mem_cons_self
    refine ⟨x.toNat :: u, ?_, by simp [h2], fun l hl => ?_⟩
    · rw [List.map_cons, ← h1, show ((x.toNat : Nat) : Int) = x by omega]
    · rcases List.mem_cons.1 hl with rfl | hl
      · omega
      · exact h3 l hl
end Go.V
