/- Plain theory: letters that fit, traces that may be. No program. -/
import Derived.Test.YtihindpnnbllkaaPM
set_option linter.all false
set_option linter.unusedVariables false
set_option maxRecDepth 100000
namespace Go.V
open Go
section
variable {N : Nat} {p : Int}
/-! ### letters -/
theorem Fits_ok (hp : 0 ≤ p ∧ p ≤ 8) {l : Nat} (h : l < two p) : letter_Fits N p (l : Int) = some true := by
  have sh := shl_two hp
  unfold letter_Fits letter_number
  rw [if_pos hp.1]
  simp only [Option.bind_some]
  rw [if_pos (decide_eq_true hp.2)]
  unfold ask
  rw [if_pos (by unfold in64; omega), if_pos hp.1]
  have h2 : shrV .i64 (l : Int) p = 0 := by
    unfold shrV
    have hb : min p.toNat IntKind.i64.bits = p.toNat := Nat.min_eq_left (by show p.toNat ≤ 64; omega)
    rw [hb]
    have : ((2 : Int) ^ p.toNat) = (two p : Int) := by unfold two; simp
    rw [this]
    exact Int.fdiv_eq_zero_of_lt (by omega) (by omega)
  rw [h2]
  rfl
theorem Trace_l0_ok (hp : 0 ≤ p ∧ p ≤ 8) {t : List Nat} (h : ∀ l ∈ t, l < two p) (ht : t.length ≤ 2000) : ∀ (m : Nat) (x : Int), 0 ≤ x → x ≤ t.length → (t.length : Int) - x < m → letter_Trace_l0 N p (t.map fun l : Nat => (l : Int)) m x = some (.inl ())
  | 0, x, _, _, h => by omega
  | m + 1, x, k0, k1, k2 => by
    unfold letter_Trace_l0
    rw [List.length_map]
    by_cases hx : x < (t.length : Int)
    · obtain ⟨a, rfl⟩ := Int.eq_ofNat_of_zero_le k0
      have ha : a < t.length := by omega
      have e : (t.map fun l : Nat => (l : Int)).getD (a : Int).toNat 0 = ((t.getD a 0 : Nat) : Int) := by
        rw [Int.toNat_natCast, List.getD_eq_getElem?_getD, List.getD_eq_getElem?_getD, List.getElem?_map, List.getElem?_eq_getElem ha]
        rfl
      have hm : t.getD a 0 < two p := h _ (by rw [List.getD_eq_getElem?_getD, List.getElem?_eq_getElem ha]; exact List.getElem_mem ha)
      rw [if_pos hx, e, Fits_ok hp hm]
      unfold ask
      have ih := Trace_l0_ok hp h ht m ((a : Int) + 1) (by omega) (by omega) (by omega)
      rw [if_pos (by unfold idx; omega), Option.bind_some, if_pos rfl, if_pos (by unfold in64; omega), ih]
    · rw [if_neg hx]
theorem Trace_ok (hN : 5000 ≤ N) (hp : 0 ≤ p ∧ p ≤ 8) {t : List Nat} (h : ∀ l ∈ t, l < two p) (ht : t.length ≤ 1024) : letter_Trace N p (t.map fun l : Nat => (l : Int)) = some 0 := by
  unfold letter_Trace letter_number
  rw [if_pos hp.1]
  simp only [Option.bind_some]
  rw [if_pos (decide_eq_true hp.2), if_neg (by rw [List.length_map]; omega), Trace_l0_ok hp h (by omega) N 0 (by omega) (by omega) (by omega)]
  rfl
end
end Go.V
