/- Plain theory: referees. No program. -/
import Derived.Test.YtckpjnoajnbmdaaPS3
import Derived.Test.YtckpjnoajnbmdaaPL
set_option linter.all false
set_option linter.unusedVariables false
set_option maxRecDepth 100000
namespace Go.V
open Go

/-! ### raw moves -/
theorem bv_sub {w : Nat} (x y : BitVec w) (h : x &&& ~~~y = 0#w) : x.toNat ≤ y.toNat := by
  have h1 : x = x &&& y := by
    apply BitVec.eq_of_getLsbD_eq
    intro i hi
    have := congrArg (fun z => z.getLsbD i) h
    simp only [BitVec.getLsbD_and, BitVec.getLsbD_not, BitVec.getLsbD_zero] at this
    simp only [BitVec.getLsbD_and]
    cases hx : x.getLsbD i <;> cases hy : y.getLsbD i <;> simp_all
  rw [h1, BitVec.toNat_and]
  exact Nat.and_le_right
theorem orV_comm (a b : Int) : orV .u8 a b = orV .u8 b a := by
  unfold orV; rw [BitVec.or_comm]
theorem u64_id {x : Int} (h : 0 ≤ x ∧ x ≤ 18446744073709551615) : IntKind.u64.wrap x = x := wrap_u64 h.1 h.2
theorem raw_le {raw m : Int} (h1 : 0 ≤ raw ∧ raw ≤ 18446744073709551615) (h2 : 0 ≤ m ∧ m ≤ 7) (h : andNotV .u64 raw m = 0) : raw ≤ m := by
  obtain ⟨a, rfl⟩ := Int.eq_ofNat_of_zero_le h1.1
  obtain ⟨b, rfl⟩ := Int.eq_ofNat_of_zero_le h2.1
  have e1 : (BitVec.ofInt 64 (a : Int)).toNat = a := by simp; omega
  have e2 : (BitVec.ofInt 64 (b : Int)).toNat = b := by simp; omega
  have h3 : (BitVec.ofInt 64 (a : Int) &&& ~~~ BitVec.ofInt 64 (b : Int)).toNat = 0 := by
    have h4 : IntKind.u64.wrap ((BitVec.ofInt 64 (a : Int) &&& ~~~ BitVec.ofInt 64 (b : Int)).toNat : Int) = 0 := h
    have h5 := (BitVec.ofInt 64 (a : Int) &&& ~~~ BitVec.ofInt 64 (b : Int)).isLt
    rw [u64_id (by omega)] at h4
    omega
  have := bv_sub _ _ (BitVec.eq_of_toNat_eq (by rw [h3]; rfl))
  rw [e1, e2] at this
  omega
theorem raw_dec : ∀ m a : Fin 8, (andNotV .u64 (a.val : Int) (m.val : Int) = 0 ↔ (a.val : Int) ∈ moves (m.val : Int)) ∧ (andNotV .u8 (a.val : Int) (m.val : Int) = 0 ↔ (a.val : Int) ∈ moves (m.val : Int)) := by decide +kernel
theorem moves_le (m : Fin 8) : ∀ x ∈ moves (m.val : Int), 0 ≤ x ∧ x ≤ 7 := (moves_facts m).2.2
theorem raw_iff {raw m : Int} (h1 : 0 ≤ raw ∧ raw ≤ 18446744073709551615) (h2 : 0 ≤ m ∧ m ≤ 7) : andNotV .u64 raw m = 0 ↔ raw ∈ moves m := by
  obtain ⟨b, rfl⟩ := Int.eq_ofNat_of_zero_le h2.1
  by_cases c : raw ≤ 7
  · obtain ⟨a, rfl⟩ := Int.eq_ofNat_of_zero_le h1.1
    exact (raw_dec ⟨b, by omega⟩ ⟨a, by omega⟩).1
  · refine ⟨fun h => ?_, fun h => ?_⟩
    · have := raw_le h1 h2 h; omega
    · have := moves_le ⟨b, by omega⟩ raw h; omega
end Go.V
