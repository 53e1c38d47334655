/- Plain theory: automata that are the same; classes and reached states of the smallest one. No program. -/
import Derived.Test.YtihindpnnbllkaaCM
set_option linter.all false
set_option linter.unusedVariables false
set_option maxRecDepth 100000
namespace Go.V
open Go

theorem EqL_bool_bool {N : Nat} {a b : List Bool} (hl : a.length = b.length) (h : a.length ≤ 100000) : ∀ (m : Nat) (i : Nat), i ≤ a.length → a.length - i < m → (∀ j, j < i → a.getD j false = b.getD j false) → slices_Equal_bool_bool_l0 N a b m (i : Int) = some (if a = b then .inl () else .inr false)
  | 0, i, _, h, _ => by omega
  | m + 1, i, k1, k2, k3 => by
    unfold slices_Equal_bool_bool_l0
    by_cases hx : (i : Int) < (a.length : Int)
    · rw [if_pos hx, Int.toNat_natCast]
      unfold ask
      rw [if_pos (by unfold idx; omega), if_pos (by unfold idx; omega)]
      by_cases c : a.getD i false = b.getD i false
      · have ih := EqL_bool_bool (N := N) hl h m (i + 1) (by omega) (by omega) fun j hj => by
          by_cases e : j = i
          · rw [e]; exact c
          · exact k3 j (by omega)
        rw [if_pos c, if_pos (by unfold in64; omega), show ((i : Int) + 1) = ((i + 1 : Nat) : Int) by omega, ih]
      · rw [if_neg c, if_neg fun e => c (by rw [e])]
    · rw [if_neg hx, if_pos (ext_getD false hl fun j hj => k3 j (by omega))]
theorem Eq_bool_bool {N : Nat} (hN : 5000 ≤ N) {a b : List Bool} (ha : a.length ≤ 4500) : slices_Equal_bool_bool N a b = some (decide (a = b)) := by
  unfold slices_Equal_bool_bool
  by_cases hl : a.length = b.length
  · rw [if_pos (by omega)]
    have h := EqL_bool_bool (N := N) hl (by omega) N 0 (by omega) (by omega) fun j hj => by omega
    have e : slices_Equal_bool_bool_l0 N a b N 0 = some (if a = b then .inl () else .inr false) := h
    rw [e]
    by_cases c : a = b
    · rw [if_pos c, decide_eq_true c]; rfl
    · rw [if_neg c, decide_eq_false c]; rfl
  · rw [if_neg (by omega), decide_eq_false fun e => hl (by rw [e])]
theorem EqL_int_int {N : Nat} {a b : List Int} (hl : a.length = b.length) (h : a.length ≤ 100000) : ∀ (m : Nat) (i : Nat), i ≤ a.length → a.length - i < m → (∀ j, j < i → a.getD j 0 = b.getD j 0) → slices_Equal_int_int_l0 N a b m (i : Int) = some (if a = b then .inl () else .inr false)
  | 0, i, _, h, _ => by omega
  | m + 1, i, k1, k2, k3 => by
    unfold slices_Equal_int_int_l0
    by_cases hx : (i : Int) < (a.length : Int)
    · rw [if_pos hx, Int.toNat_natCast]
      unfold ask
      rw [if_pos (by unfold idx; omega), if_pos (by unfold idx; omega)]
      by_cases c : a.getD i 0 = b.getD i 0
      · have ih := EqL_int_int (N := N) hl h m (i + 1) (by omega) (by omega) fun j hj => by
          by_cases e : j = i
          · rw [e]; exact c
          · exact k3 j (by omega)
        rw [if_pos c, if_pos (by unfold in64; omega), show ((i : Int) + 1) = ((i + 1 : Nat) : Int) by omega, ih]
      · rw [if_neg c, if_neg fun e => c (by rw [e])]
    · rw [if_neg hx, if_pos (ext_getD 0 hl fun j hj => k3 j (by omega))]
theorem Eq_int_int {N : Nat} (hN : 5000 ≤ N) {a b : List Int} (ha : a.length ≤ 4500) : slices_Equal_int_int N a b = some (decide (a = b)) := by
  unfold slices_Equal_int_int
  by_cases hl : a.length = b.length
  · rw [if_pos (by omega)]
    have h := EqL_int_int (N := N) hl (by omega) N 0 (by omega) (by omega) fun j hj => by omega
    have e : slices_Equal_int_int_l0 N a b N 0 = some (if a = b then .inl () else .inr false) := h
    rw [e]
    by_cases c : a = b
    · rw [if_pos c, decide_eq_true c]; rfl
    · rw [if_neg c, decide_eq_false c]; rfl
  · rw [if_neg (by omega), decide_eq_false fun e => hl (by rw [e])]
theorem EqL_api_Node_api_Node {N : Nat} {a b : List Nd} (hl : a.length = b.length) (h : a.length ≤ 100000) : ∀ (m : Nat) (i : Nat), i ≤ a.length → a.length - i < m → (∀ j, j < i → a.getD j default = b.getD j default) → slices_Equal_api_Node_api_Node_l0 N a b m (i : Int) = some (if a = b then .inl () else .inr false)
  | 0, i, _, h, _ => by omega
  | m + 1, i, k1, k2, k3 => by
    unfold slices_Equal_api_Node_api_Node_l0
    by_cases hx : (i : Int) < (a.length : Int)
    · rw [if_pos hx, Int.toNat_natCast]
      unfold ask
      rw [if_pos (by unfold idx; omega), if_pos (by unfold idx; omega)]
      by_cases c : a.getD i default = b.getD i default
      · have ih := EqL_api_Node_api_Node (N := N) hl h m (i + 1) (by omega) (by omega) fun j hj => by
          by_cases e : j = i
          · rw [e]; exact c
          · exact k3 j (by omega)
        rw [if_pos c, if_pos (by unfold in64; omega), show ((i : Int) + 1) = ((i + 1 : Nat) : Int) by omega, ih]
      · rw [if_neg c, if_neg fun e => c (by rw [e])]
    · rw [if_neg hx, if_pos (ext_getD default hl fun j hj => k3 j (by omega))]
theorem Eq_api_Node_api_Node {N : Nat} (hN : 5000 ≤ N) {a b : List Nd} (ha : a.length ≤ 4500) : slices_Equal_api_Node_api_Node N a b = some (decide (a = b)) := by
  unfold slices_Equal_api_Node_api_Node
  by_cases hl : a.length = b.length
  · rw [if_pos (by omega)]
    have h := EqL_api_Node_api_Node (N := N) hl (by omega) N 0 (by omega) (by omega) fun j hj => by omega
    have e : slices_Equal_api_Node_api_Node_l0 N a b N 0 = some (if a = b then .inl () else .inr false) := h
    rw [e]
    by_cases c : a = b
    · rw [if_pos c, decide_eq_true c]; rfl
    · rw [if_neg c, decide_eq_false c]; rfl
  · rw [if_neg (by omega), decide_eq_false fun e => hl (by rw [e])]
theorem Same_ok {N : Nat} (hN : 5000 ≤ N) {p p2 : Int} {acc acc2 : List Bool} {gd gd2 : List Int} {nd nd2 : List Nd} (h1 : acc.length ≤ 300) (h2 : gd.length ≤ 300) (h3 : nd.length ≤ 4096) : canon_Same N p acc gd nd p2 acc2 gd2 nd2 = some (decide (p = p2 ∧ acc = acc2 ∧ gd = gd2 ∧ nd = nd2)) := by
  unfold canon_Same
  rw [Eq_bool_bool hN (by omega), Eq_int_int hN (by omega), Eq_api_Node_api_Node hN (by omega)]
  simp only [Option.bind_some, decide_eq_true_eq]
  by_cases c1 : p = p2
  · rw [if_pos c1]
    by_cases c2 : acc = acc2
    · rw [if_pos c2]
      by_cases c3 : gd = gd2
      · rw [if_pos c3]
        by_cases c4 : nd = nd2
        · simp [c1, c2, c3, c4]
        · simp [c4]
      · rw [if_neg c3]; simp [c3]
    · rw [if_neg c2]; simp [c2]
  · rw [if_neg c1]; simp [c1]
section
variable {N : Nat} {p : Int} {acc : List Bool} {gd : List Int} {nd : List Nd}
end
end Go.V
