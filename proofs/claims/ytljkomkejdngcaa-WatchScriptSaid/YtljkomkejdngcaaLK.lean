/- Plain theory: what is lent, and that it was kept. No program. -/
import Derived.Test.YtljkomkejdngcaaPC
set_option linter.all false
set_option linter.unusedVariables false
set_option maxRecDepth 100000
namespace Go.V
open Go Go.Proofs
section
variable {N : Nat} {p : Int} {acc : List Bool} {gd : List Int} {nd : List Nd}
def spI (n : Nat) : List Int := [7700 + (n : Int), 7700 + ((n : Int) + 1), 7700 + ((n : Int) + 1 + 1)]
theorem set_app0 {α : Type} {l : List α} {a b c v : α} : (l ++ [a, b, c]).set l.length v = l ++ [v, b, c] := by
  rw [List.set_append_right _ _ (Nat.le_refl _), Nat.sub_self]; rfl
theorem set_app1 {α : Type} {l : List α} {a b c v : α} : (l ++ [a, b, c]).set (l.length + 1) v = l ++ [a, v, c] := by
  rw [List.set_append_right _ _ (by omega), show l.length + 1 - l.length = 1 by omega]; rfl
theorem set_app2 {α : Type} {l : List α} {a b c v : α} : (l ++ [a, b, c]).set (l.length + 2) v = l ++ [a, b, v] := by
  rw [List.set_append_right _ _ (by omega), show l.length + 2 - l.length = 2 by omega]; rfl
theorem three {α : Type} (l : List α) (z : α) : l ++ List.drop l.length (List.replicate (Int.toNat (((l.length : Nat) : Int) + 3)) z) = l ++ [z, z, z] := by
  rw [List.drop_replicate, show Int.toNat (((l.length : Nat) : Int) + 3) - l.length = 3 by omega]; rfl
theorem LentInts_ok (hN : 5000 ≤ N) {l : List Int} (hl : l.length ≤ 100000) : kit_LentInts N l = some (l, spI l.length) := by
  obtain ⟨n, rfl⟩ : ∃ n, N = n + 4 := ⟨N - 4, by omega⟩
  have e0 : Int.toNat ((l.length : Nat) : Int) = l.length := by omega
  have e1 : Int.toNat (((l.length : Nat) : Int) + 1) = l.length + 1 := by omega
  have e2 : Int.toNat (((l.length : Nat) : Int) + 1 + 1) = l.length + 2 := by omega
  have ll : ∀ a b c : Int, (l ++ [a, b, c]).length = l.length + 3 := fun a b c => by simp
  unfold kit_LentInts
  rw [three]
  unfold ask
  rw [if_pos (by unfold in64; omega), if_pos (by omega), if_pos (by simp; omega)]
  unfold kit_LentInts_l0 ask
  rw [ll, if_pos (by omega), if_pos (by unfold in64; omega), if_pos (by unfold idx; omega), if_pos (by unfold in64; omega), e0, set_app0]
  unfold kit_LentInts_l0 ask
  rw [ll, if_pos (by omega), if_pos (by unfold in64; omega), if_pos (by unfold idx; omega), if_pos (by unfold in64; omega), e1, set_app1]
  unfold kit_LentInts_l0 ask
  rw [ll, if_pos (by omega), if_pos (by unfold in64; omega), if_pos (by unfold idx; omega), if_pos (by unfold in64; omega), e2, set_app2]
  unfold kit_LentInts_l0
  rw [ll, if_neg (by omega), Option.bind_some, if_pos (by rw [ll]; omega), List.take_left, List.drop_left, Nat.sub_self, List.replicate_zero, List.append_nil]
  rfl
theorem LentAuto_ok (hN : 5000 ≤ N) (ha : acc.length ≤ 100000) (hg : gd.length ≤ 100000) (hn : nd.length ≤ 100000) : kit_LentAuto N p acc gd nd = some (p, (acc, [false, false, false]), (gd, spI gd.length), (nd, [default, default, default])) := by
  have ea : acc ++ List.drop acc.length (List.replicate (Int.toNat ((acc.length : Nat) : Int)) false) = acc := by
    rw [List.drop_replicate, show Int.toNat ((acc.length : Nat) : Int) - acc.length = 0 by omega, List.replicate_zero, List.append_nil]
  have en : nd ++ List.drop nd.length (List.replicate (Int.toNat ((nd.length : Nat) : Int)) (default : Nd)) = nd := by
    rw [List.drop_replicate, show Int.toNat ((nd.length : Nat) : Int) - nd.length = 0 by omega, List.replicate_zero, List.append_nil]
  unfold kit_LentAuto
  rw [LentInts_ok hN hg, Option.bind_some]
  unfold ask
  rw [if_pos (by unfold in64; omega), if_pos (by omega), if_pos (by simp), if_pos (by unfold in64; omega), if_pos (by omega), if_pos (by simp), ea, en, show Int.toNat (((acc.length : Nat) : Int) + 3) - Int.toNat ((acc.length : Nat) : Int) = 3 by omega, show Int.toNat (((nd.length : Nat) : Int) + 3) - Int.toNat ((nd.length : Nat) : Int) = 3 by omega]
  rfl
/-! ### the same -/
theorem SameI_self_l0 {a : List Int} (h : a.length ≤ 200000) : ∀ (m i : Nat), i ≤ a.length → a.length - i < m → kit_SameInts_l0 N a a m (i : Int) = some (.inl ())
  | 0, i, _, h => by omega
  | m + 1, i, k0, k1 => by
    unfold kit_SameInts_l0 ask
    by_cases hi : (i : Int) < (a.length : Int)
    · rw [if_pos hi, if_pos (by unfold idx; omega), if_pos (by unfold idx; omega), if_pos rfl, if_pos (by unfold in64; omega), show ((i : Int) + 1) = ((i + 1 : Nat) : Int) by omega, SameI_self_l0 h m (i + 1) (by omega) (by omega)]
    · rw [if_neg hi]
theorem SameI_self {a : List Int} (h : a.length ≤ 200000) (hN : a.length < N) : kit_SameInts N a a = some true := by
  have h2 := SameI_self_l0 (N := N) h N 0 (by omega) (by omega)
  rw [show ((0 : Nat) : Int) = 0 from rfl] at h2
  unfold kit_SameInts
  rw [if_pos rfl, h2]
  rfl
theorem SameB_self_l0 {a : List Bool} (h : a.length ≤ 200000) : ∀ (m i : Nat), i ≤ a.length → a.length - i < m → kit_SameBools_l0 N a a m (i : Int) = some (.inl ())
  | 0, i, _, h => by omega
  | m + 1, i, k0, k1 => by
    unfold kit_SameBools_l0 ask
    by_cases hi : (i : Int) < (a.length : Int)
    · rw [if_pos hi, if_pos (by unfold idx; omega), if_pos (by unfold idx; omega), if_pos rfl, if_pos (by unfold in64; omega), show ((i : Int) + 1) = ((i + 1 : Nat) : Int) by omega, SameB_self_l0 h m (i + 1) (by omega) (by omega)]
    · rw [if_neg hi]
theorem SameB_self {a : List Bool} (h : a.length ≤ 200000) (hN : a.length < N) : kit_SameBools N a a = some true := by
  have h2 := SameB_self_l0 (N := N) h N 0 (by omega) (by omega)
  rw [show ((0 : Nat) : Int) = 0 from rfl] at h2
  unfold kit_SameBools
  rw [if_pos rfl, h2]
  rfl
theorem SameN_self_l0 {a : List Nd} (h : a.length ≤ 200000) : ∀ (m i : Nat), i ≤ a.length → a.length - i < m → kit_SameNodes_l0 N a a m (i : Int) = some (.inl ())
  | 0, i, _, h => by omega
  | m + 1, i, k0, k1 => by
    unfold kit_SameNodes_l0 ask
    by_cases hi : (i : Int) < (a.length : Int)
    · rw [if_pos hi, if_pos (by unfold idx; omega), if_pos (by unfold idx; omega), if_pos rfl, if_pos (by unfold in64; omega), show ((i : Int) + 1) = ((i + 1 : Nat) : Int) by omega, SameN_self_l0 h m (i + 1) (by omega) (by omega)]
    · rw [if_neg hi]
theorem SameN_self {a : List Nd} (h : a.length ≤ 200000) (hN : a.length < N) : kit_SameNodes N a a = some true := by
  have h2 := SameN_self_l0 (N := N) h N 0 (by omega) (by omega)
  rw [show ((0 : Nat) : Int) = 0 from rfl] at h2
  unfold kit_SameNodes
  rw [if_pos rfl, h2]
  rfl
/-! ### kept -/
theorem KeptInts_ok {l : List Int} (hN : 5000 ≤ N) (hl : l.length + 10 ≤ N) (h2 : l.length ≤ 100000) : kit_KeptInts N l (spI l.length) l = some true := by
  have e : (l ++ spI l.length).length = l.length + 3 := by simp [spI]
  unfold kit_KeptInts ask
  rw [if_pos rfl, LentInts_ok hN h2, Option.bind_some, if_pos (by unfold in64; omega), if_pos (by rw [e]; omega), List.take_of_length_le (by rw [e]; omega), SameI_self (by rw [e]; omega) (by rw [e]; omega)]
  rfl
theorem getD_rest {α : Type} {l : List α} {z : α} {i : Nat} (h : l.length ≤ i) : (l ++ [z, z, z]).getD i z = z := by
  rw [List.getD_eq_getElem?_getD, List.getElem?_append_right h, ← List.getD_eq_getElem?_getD]
  exact getD_rep (n := 3)
theorem KeptA_l0 (h : acc.length ≤ 100000) : ∀ (m i : Nat), acc.length ≤ i → acc.length + 3 - i < m → kit_KeptAuto_l0 N acc [false, false, false] m (i : Int) = some (.inl ())
  | 0, i, _, h => by omega
  | m + 1, i, k0, k1 => by
    have e : (acc ++ [false, false, false]).length = acc.length + 3 := by simp
    unfold kit_KeptAuto_l0 ask
    rw [e]
    by_cases hi : (i : Int) < ((acc.length + 3 : Nat) : Int)
    · rw [if_pos hi, if_pos (by unfold idx; omega), Int.toNat_natCast i, getD_rest k0, if_neg (by simp), if_pos (by unfold in64; omega), show ((i : Int) + 1) = ((i + 1 : Nat) : Int) by omega, KeptA_l0 h m (i + 1) (by omega) (by omega)]
    · rw [if_neg hi]
theorem KeptA_l1 (h : nd.length ≤ 100000) : ∀ (m i : Nat), nd.length ≤ i → nd.length + 3 - i < m → kit_KeptAuto_l1 N nd [default, default, default] m (i : Int) = some (.inl ())
  | 0, i, _, h => by omega
  | m + 1, i, k0, k1 => by
    have e : (nd ++ [default, default, default]).length = nd.length + 3 := by simp
    unfold kit_KeptAuto_l1 ask
    rw [e]
    by_cases hi : (i : Int) < ((nd.length + 3 : Nat) : Int)
    · rw [if_pos hi, if_pos (by unfold idx; omega), Int.toNat_natCast i, getD_rest k0, if_pos (show (default : Nd) = ⟨0, 0, 0⟩ from rfl), if_pos (by unfold in64; omega), show ((i : Int) + 1) = ((i + 1 : Nat) : Int) by omega, KeptA_l1 h m (i + 1) (by omega) (by omega)]
    · rw [if_neg hi]
theorem KeptAuto_ok (hN : 5000 ≤ N) (ha : acc.length ≤ 4000) (hg : gd.length ≤ 4000) (hn : nd.length ≤ 4000) : kit_KeptAuto N p acc [false, false, false] gd (spI gd.length) nd [default, default, default] p acc gd nd = some true := by
  have h1 : kit_SameAuto N p acc gd nd p acc gd nd = some true := by
    unfold kit_SameAuto
    rw [if_pos rfl, SameB_self (by omega) (by omega), Option.bind_some, if_pos rfl, SameI_self (by omega) (by omega), Option.bind_some, if_pos rfl, SameN_self (by omega) (by omega), Option.bind_some]
  unfold kit_KeptAuto
  rw [h1, Option.bind_some, if_pos rfl, KeptInts_ok hN (by omega) (by omega), Option.bind_some, if_pos rfl, KeptA_l0 (by omega) N acc.length (by omega) (by omega), Option.bind_some]
  show Option.bind (kit_KeptAuto_l1 N nd [default, default, default] N ((nd.length : Nat) : Int)) _ = _
  rw [KeptA_l1 (by omega) N nd.length (by omega) (by omega)]
  rfl
end
end Go.V
