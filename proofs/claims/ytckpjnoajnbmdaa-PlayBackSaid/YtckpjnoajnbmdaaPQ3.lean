/- Plain theory: what a referee tells, and a round that is taken back. No program. -/
import Derived.Test.YtckpjnoajnbmdaaPQ2
set_option linter.all false
set_option linter.unusedVariables false
set_option maxRecDepth 100000
namespace Go.V
open Go

section
variable {N : Nat} {p : Int} {acc : List Bool} {gd : List Int} {nd : List Nd} {s : Int × Int} {wins : Bool} {ranks : List Int} {reply : List (List Int)} {choice : List Int} {q : Int} {rounds : List (Int × Int)}
theorem Rank_val (h0 : 0 ≤ q) (h1 : q < ranks.length) : play_Referee_Rank N p acc gd nd s wins ranks reply choice q rounds true = some (ranks.getD q.toNat 0) := by
  unfold play_Referee_Rank play_Referee_none
  simp only [Option.bind_some, Bool.not_true, Bool.false_eq_true, if_false]
  unfold ask
  rw [if_pos (by unfold idx; omega)]
theorem Over_val (h0 : 0 ≤ q) (h1 : q < acc.length) : play_Referee_Over N p acc gd nd s wins ranks reply choice q rounds true = some (acc.getD q.toNat false) := by
  unfold play_Referee_Over play_Referee_none
  simp only [Option.bind_some, Bool.not_true, Bool.false_eq_true, if_false]
  unfold ask
  rw [if_pos (by unfold idx; omega)]
theorem State_val : play_Referee_State N p acc gd nd s wins ranks reply choice q rounds true = some q := by
  unfold play_Referee_State play_Referee_none
  simp only [Option.bind_some, Bool.not_true, Bool.false_eq_true, if_false]
theorem Trace_l0_val (hr : rounds.length ≤ 3000) : ∀ (m : Nat) (out : List Int) (x : Int), 0 ≤ x → x ≤ rounds.length → (rounds.length : Int) - x < m → out.length = x → play_Referee_Trace_l0 N rounds m out x = some (out ++ (rounds.drop x.toNat).map Prod.fst)
  | 0, out, x, _, _, h, _ => by omega
  | m + 1, out, x, k0, k1, k2, k3 => by
    unfold play_Referee_Trace_l0
    by_cases hx : x < (rounds.length : Int)
    · rw [if_pos hx]
      unfold ask
      rw [if_pos (by unfold idx; omega), if_pos (by simp; omega), if_pos (by unfold in64; omega), Trace_l0_val hr m _ (x + 1) (by omega) (by omega) (by omega) (by simp; omega), drop_getD (d := (0, 0)) k0 hx]
      simp
    · rw [if_neg hx, List.drop_eq_nil_of_le (by omega), List.map_nil, List.append_nil]
theorem Trace_val (hN : 5000 ≤ N) (hr : rounds.length ≤ 3000) : play_Referee_Trace N p acc gd nd s wins ranks reply choice q rounds true = some (rounds.map Prod.fst) := by
  unfold play_Referee_Trace play_Referee_none
  simp only [Option.bind_some, Bool.not_true, Bool.false_eq_true, if_false]
  rw [Trace_l0_val hr N [] 0 (by omega) (by omega) (by omega) rfl]
  rfl
theorem Back_val (hr : rounds.length ≤ 3000) {l q0 : Int} : play_Referee_Back N p acc gd nd s wins ranks reply choice q (rounds ++ [(l, q0)]) true = some (0, q0, rounds) := by
  unfold play_Referee_Back play_Referee_none
  simp only [Option.bind_some, Bool.not_true, Bool.false_eq_true, if_false]
  have e : Int.toNat ((((rounds ++ [(l, q0)]).length : Nat) : Int) - 1) = rounds.length := by simp
  rw [e, if_neg (by simp; omega)]
  unfold ask
  rw [if_pos (by unfold in64; simp; omega), if_pos (by unfold idx; simp; omega), if_pos (by simp; omega)]
  simp [List.getD_eq_getElem?_getD]
theorem Back_nil : play_Referee_Back N p acc gd nd s wins ranks reply choice q [] true = some (6, q, []) := by
  unfold play_Referee_Back play_Referee_none
  simp

theorem SameL_l0_ok {xs : List Int} (h : xs.length ≤ 100000) : ∀ (m : Nat) (i : Int), 0 ≤ i → i ≤ xs.length → (xs.length : Int) - i < m → kit_SameLetters_l0 N xs xs m i = some (.inl ())
  | 0, i, _, _, h => by omega
  | m + 1, i, k0, k1, k2 => by
    unfold kit_SameLetters_l0
    by_cases hx : i < (xs.length : Int)
    · rw [if_pos hx]
      unfold ask
      rw [if_pos (by unfold idx; omega), if_pos (by unfold idx; omega), if_pos rfl, if_pos (by unfold in64; omega)]
      exact SameL_l0_ok h m _ (by omega) (by omega) (by omega)
    · rw [if_neg hx]
theorem SameL_self {xs : List Int} (hN : 5000 ≤ N) (h : xs.length ≤ 3000) : kit_SameLetters N xs xs = some true := by
  unfold kit_SameLetters
  rw [if_pos rfl, SameL_l0_ok (by omega) N 0 (by omega) (by omega) (by omega)]
  rfl
theorem raw8 {raw m : Int} (h1 : 0 ≤ raw ∧ raw ≤ 18446744073709551615) (h2 : 0 ≤ m ∧ m ≤ 7) : (if raw < 256 then some ((andNotV .u8 (IntKind.u8.wrap raw) m : Int) == 0) else some false) = some (decide (raw ∈ moves m)) := by
  obtain ⟨b, rfl⟩ := Int.eq_ofNat_of_zero_le h2.1
  have hle := moves_le ⟨b, by omega⟩
  by_cases c : raw < 256
  · rw [if_pos c]
    obtain ⟨a, rfl⟩ := Int.eq_ofNat_of_zero_le h1.1
    have hu : IntKind.u8.wrap (a : Int) = a := wrap_u8 (by omega) (by omega)
    rw [hu]
    have hr : andNotV .u8 (a : Int) (b : Int) = 0 ↔ (a : Int) ∈ moves (b : Int) := by
      by_cases d : a < 8
      · exact (raw_dec ⟨b, by omega⟩ ⟨a, d⟩).2
      · refine ⟨fun h => ?_, fun h => ?_⟩
        · exfalso
          have e1 : (BitVec.ofInt 8 (a : Int)).toNat = a := by simp; omega
          have e2 : (BitVec.ofInt 8 (b : Int)).toNat = b := by simp; omega
          have h3 : (BitVec.ofInt 8 (a : Int) &&& ~~~ BitVec.ofInt 8 (b : Int)).toNat = 0 := by
            have h4 : IntKind.u8.wrap ((BitVec.ofInt 8 (a : Int) &&& ~~~ BitVec.ofInt 8 (b : Int)).toNat : Int) = 0 := h
            have h5 := (BitVec.ofInt 8 (a : Int) &&& ~~~ BitVec.ofInt 8 (b : Int)).isLt
            rw [wrap_u8 (by omega) (by omega)] at h4
            omega
          have := bv_sub _ _ (BitVec.eq_of_toNat_eq (by rw [h3]; rfl))
          rw [e1, e2] at this
          omega
        · have := hle _ h; omega
    by_cases d : andNotV .u8 (a : Int) (b : Int) = 0
    · rw [decide_eq_true (hr.1 d), d]; rfl
    · rw [decide_eq_false fun h => d (hr.2 h)]
      simp [d]
  · rw [if_neg c, decide_eq_false]
    intro h
    have := hle _ h
    omega
end
end Go.V
