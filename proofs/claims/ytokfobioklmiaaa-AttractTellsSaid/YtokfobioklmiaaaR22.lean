/- Plain theory: the document's layers 22 and 23 answer as the program does. No program. -/
import Derived.Test.YtokfobioklmiaaaWRF
set_option linter.all false
set_option linter.unusedVariables false
set_option maxRecDepth 100000
namespace Go.V
open Go Go.Proofs
section
variable {N : Nat} {p : Int} {acc : List Bool} {gd : List Int} {nd : List Nd} {s : Int × Int}
/-! ### the split -/
theorem and_nat {a b : Nat} (ha : a < 256) (hb : b < 256) : andV .u8 (a : Int) (b : Int) = ((a &&& b : Nat) : Int) := by
  have hx : a &&& b < 256 := Nat.lt_of_le_of_lt Nat.and_le_left ha
  unfold andV
  have e : (BitVec.ofInt IntKind.u8.bits (a : Int) &&& BitVec.ofInt IntKind.u8.bits (b : Int)).toNat = a &&& b := by
    show (BitVec.ofInt 8 (a : Int) &&& BitVec.ofInt 8 (b : Int)).toNat = a &&& b
    rw [BitVec.ofInt_natCast, BitVec.ofInt_natCast, BitVec.toNat_and, BitVec.toNat_ofNat, BitVec.toNat_ofNat, Nat.mod_eq_of_lt ha, Nat.mod_eq_of_lt hb]
  rw [e]
  exact wrap_u8 (by omega) (by omega)
theorem or_nat {a b : Nat} (ha : a < 256) (hb : b < 256) : orV .u8 (a : Int) (b : Int) = ((a ||| b : Nat) : Int) := by
  have hx : a ||| b < 256 := Nat.or_lt_two_pow (n := 8) ha hb
  unfold orV
  have e : (BitVec.ofInt IntKind.u8.bits (a : Int) ||| BitVec.ofInt IntKind.u8.bits (b : Int)).toNat = a ||| b := by
    show (BitVec.ofInt 8 (a : Int) ||| BitVec.ofInt 8 (b : Int)).toNat = a ||| b
    rw [BitVec.ofInt_natCast, BitVec.ofInt_natCast, BitVec.toNat_or, BitVec.toNat_ofNat, BitVec.toNat_ofNat, Nat.mod_eq_of_lt ha, Nat.mod_eq_of_lt hb]
  rw [e]
  exact wrap_u8 (by omega) (by omega)
theorem rBit_tab : ((List.range 256).all fun l => (List.range 8).all fun q => decide (ref01_Bit 0 (l : Int) (q : Int) = some (Nat.testBit l q))) = true := by kernel_rfl
theorem rBit_eq {l q : Nat} (hl : l < 256) (hq : q < 8) : ref01_Bit N (l : Int) (q : Int) = some (l.testBit q) := by
  have h := List.all_eq_true.1 rBit_tab l (List.mem_range.2 hl)
  have h2 := List.all_eq_true.1 h q (List.mem_range.2 hq)
  exact of_decide_eq_true h2
def cnd (e t c i : Nat) : Prop := (i < c → e.testBit i ≠ t.testBit i) ∧ (c ≤ i → e.testBit i = false ∧ t.testBit i = false)
theorem rSplit_l0 {e t c : Nat} (he : e < 256) (ht : t < 256) : ∀ (m i : Nat), i ≤ 8 → 8 - i < m →
    (ref22_Check_l0 N (c : Int) ((e : Int), (t : Int)) m (i : Int) = some (.inl ()) ∧ ∀ j, i ≤ j → j < 8 → cnd e t c j) ∨ (ref22_Check_l0 N (c : Int) ((e : Int), (t : Int)) m (i : Int) = some (.inr 13) ∧ ∃ j, j < 8 ∧ ¬ cnd e t c j)
  | 0, i, _, h => by omega
  | m + 1, i, k0, k1 => by
    unfold ref22_Check_l0
    by_cases hi : i < 8
    · rw [if_pos (show (i : Int) < 8 by omega), rBit_eq he hi, Option.bind_some, rBit_eq ht hi, Option.bind_some]
      have go : cnd e t c i → (ref22_Check_l0 N (c : Int) ((e : Int), (t : Int)) m ((i : Int) + 1) = some (.inl ()) ∧ ∀ j, i ≤ j → j < 8 → cnd e t c j) ∨ (ref22_Check_l0 N (c : Int) ((e : Int), (t : Int)) m ((i : Int) + 1) = some (.inr 13) ∧ ∃ j, j < 8 ∧ ¬ cnd e t c j) := fun h => by
        rw [show ((i : Int) + 1) = ((i + 1 : Nat) : Int) by omega]
        rcases rSplit_l0 he ht m (i + 1) (by omega) (by omega) with ⟨h1, h2⟩ | h1
        · refine .inl ⟨h1, fun j hj hj2 => ?_⟩
          by_cases c1 : j = i
          · rw [c1]; exact h
          · exact h2 j (by omega) hj2
        · exact .inr h1
      have hin : in64 ((i : Int) + 1) := by unfold in64; omega
      unfold ask
      by_cases c1 : i < c
      · have c1' : (i : Int) < (c : Int) := by omega
        have c2' : ¬ (c : Int) ≤ (i : Int) := by omega
        rw [if_pos c1']
        by_cases c2 : e.testBit i = t.testBit i
        · rw [if_pos c2]
          exact .inr ⟨rfl, i, hi, fun h => h.1 c1 c2⟩
        · rw [if_neg c2, if_neg c2', if_pos hin]
          exact go ⟨fun _ => c2, fun h => by omega⟩
      · have c1' : ¬ (i : Int) < (c : Int) := by omega
        have c2' : (c : Int) ≤ (i : Int) := by omega
        rw [if_neg c1', if_pos c2']
        cases b1 : e.testBit i with
        | true =>
          rw [if_pos rfl]
          exact .inr ⟨rfl, i, hi, fun h => by have := (h.2 (by omega)).1; rw [b1] at this; cases this⟩
        | false =>
          rw [if_neg Bool.false_ne_true]
          cases b2 : t.testBit i with
          | true =>
            rw [if_pos rfl]
            exact .inr ⟨rfl, i, hi, fun h => by have := (h.2 (by omega)).2; rw [b2] at this; cases this⟩
          | false =>
            rw [if_neg Bool.false_ne_true, if_pos hin]
            exact go ⟨fun h => absurd h c1, fun _ => ⟨b1, b2⟩⟩
    · rw [if_neg (show ¬ (i : Int) < 8 by omega)]
      exact .inl ⟨rfl, fun j hj hj2 => by omega⟩
theorem cnd_iff {e t c : Nat} (he : e < 256) (ht : t < 256) (hc : c ≤ 8) : (∀ j, j < 8 → cnd e t c j) ↔ (e &&& t = 0 ∧ e ||| t = 2 ^ c - 1) := by
  have big : ∀ x i : Nat, x < 256 → 8 ≤ i → x.testBit i = false := fun x i hx hi => Nat.testBit_lt_two_pow (Nat.lt_of_lt_of_le hx (show 2 ^ 8 ≤ 2 ^ i from Nat.pow_le_pow_right (by omega) hi))
  constructor
  · intro h
    constructor
    · apply Nat.eq_of_testBit_eq
      intro i
      rw [Nat.testBit_and, Nat.zero_testBit]
      by_cases hi : i < 8
      · have := h i hi
        by_cases c1 : i < c
        · have := this.1 c1
          cases b1 : e.testBit i <;> cases b2 : t.testBit i <;> rw [b1, b2] at this <;> simp_all
        · rw [(this.2 (by omega)).1]; rfl
      · rw [big e i he (by omega)]; rfl
    · apply Nat.eq_of_testBit_eq
      intro i
      rw [Nat.testBit_or, Nat.testBit_two_pow_sub_one]
      by_cases hi : i < 8
      · have := h i hi
        by_cases c1 : i < c
        · have := this.1 c1
          rw [decide_eq_true c1]
          cases b1 : e.testBit i <;> cases b2 : t.testBit i <;> rw [b1, b2] at this <;> simp_all
        · rw [(this.2 (by omega)).1, (this.2 (by omega)).2, decide_eq_false c1]; rfl
      · rw [big e i he (by omega), big t i ht (by omega), decide_eq_false (by omega)]; rfl
  · rintro ⟨h1, h2⟩ j hj
    have e1 := congrArg (fun x => Nat.testBit x j) h1
    have e2 := congrArg (fun x => Nat.testBit x j) h2
    simp only [Nat.testBit_and, Nat.zero_testBit, Nat.testBit_or, Nat.testBit_two_pow_sub_one] at e1 e2
    refine ⟨fun c1 => ?_, fun c1 => ?_⟩
    · rw [decide_eq_true c1] at e2
      cases b1 : e.testBit j <;> cases b2 : t.testBit j <;> rw [b1, b2] at e1 e2 <;> simp_all
    · rw [decide_eq_false (by omega)] at e2
      cases b1 : e.testBit j <;> cases b2 : t.testBit j <;> rw [b1, b2] at e1 e2 <;> simp_all
theorem rCheck22_eq (hN : 5000 ≤ N) (hw : ∀ x ∈ nd, x.wf) (hp' : p ≤ 3 ∨ 8 < p) (h1 : 0 ≤ s.1 ∧ s.1 ≤ 255) (h2 : 0 ≤ s.2 ∧ s.2 ≤ 255) : ref22_Check N p acc gd nd s = board_Check N p acc gd nd s := by
  obtain ⟨e, hC, he⟩ := guard_Check_ok (N := N) (p := p) (acc := acc) (gd := gd) hN hw
  unfold ref22_Check board_Check
  rw [W.rCheck_eq hN hw, hC, Option.bind_some, Option.bind_some]
  by_cases h0 : e = 0
  · have V := he.2 h0
    have a1 := V.a1
    have p0 := V.p0
    have p8 := V.p8
    rw [if_pos h0, if_pos h0]
    unfold ask
    have hix : idx 0 acc.length := by unfold idx; omega
    rw [if_pos hix, if_pos hix]
    by_cases ha : acc.getD (Int.toNat 0) false = true
    · rw [if_pos ha, if_pos ha]
    rw [if_neg ha, if_neg ha]
    obtain ⟨s1, s2⟩ := s
    obtain ⟨a, rfl⟩ := Int.eq_ofNat_of_zero_le h1.1
    obtain ⟨b, rfl⟩ := Int.eq_ofNat_of_zero_le h2.1
    obtain ⟨c, rfl⟩ := Int.eq_ofNat_of_zero_le p0
    have ha' : a < 256 := by have := h1.2; simp at this; omega
    have hb' : b < 256 := by have := h2.2; simp at this; omega
    have sh : shlV .i64 1 (c : Int) - 1 = ((2 ^ c - 1 : Nat) : Int) ∧ (2 : Nat) ^ c - 1 ≤ 255 := by
      have hc : c ≤ 3 := by omega
      match c, hc with
      | 0, _ => decide
      | 1, _ => decide
      | 2, _ => decide
      | 3, _ => decide
    have ho : a ||| b < 256 := Nat.or_lt_two_pow (n := 8) ha' hb'
    have hs := rSplit_l0 (N := N) (c := c) ha' hb' N 0 (by omega) (by omega)
    rw [show ((0 : Nat) : Int) = 0 from rfl] at hs
    have hiff := cnd_iff (c := c) ha' hb' (by omega)
    dsimp only
    rw [and_nat ha' hb', or_nat ha' hb', sh.1]
    rcases hs with ⟨hs, hall⟩ | ⟨hs, j, hj, hno⟩
    · obtain ⟨k1, k2⟩ := hiff.1 fun j hj => hall j (by omega) hj
      rw [hs, Option.bind_some, if_pos (by omega), if_pos (by unfold in64; omega), if_pos (by omega), if_pos (by have := sh.2; unfold in64; omega), if_pos (by omega)]
      rfl
    · rw [hs, Option.bind_some]
      by_cases k1 : ((a &&& b : Nat) : Int) = 0
      · rw [if_pos k1, if_pos (by unfold in64; omega), if_pos (by omega), if_pos (by have := sh.2; unfold in64; omega)]
        by_cases k2 : ((a ||| b : Nat) : Int) = ((2 ^ c - 1 : Nat) : Int)
        · exact absurd (hiff.2 ⟨by omega, by omega⟩ j hj) hno
        · rw [if_neg k2]; rfl
      · rw [if_neg k1]; rfl
  · rw [if_neg h0, if_neg h0]
/-! ### choices and rows -/
theorem rMoves_tab (n : Nat) : ((List.range 8).all fun m => decide (ref22_Moves (n + 300) (m : Int) = some (moves (m : Int)))) = true := by kernel_rfl
theorem rMoves_ok (hN : 5000 ≤ N) {m : Int} (h : 0 ≤ m ∧ m ≤ 7) : ref22_Moves N m = some (moves m) := by
  obtain ⟨n, rfl⟩ : ∃ n, N = n + 300 := ⟨N - 300, by omega⟩
  obtain ⟨a, rfl⟩ := Int.eq_ofNat_of_zero_le h.1
  have h := List.all_eq_true.1 (rMoves_tab n) a (List.mem_range.2 (by omega))
  exact of_decide_eq_true h
theorem rNext22 (hN : 5000 ≤ N) (V : Valid p acc gd nd) {q : Nat} (hq : q < acc.length) (x y : Int) : ref14_Next N p acc gd nd (q : Int) (orV .u8 x y) = some (go nd (gd.getD q 0) (orV .u8 x y)) := by
  have h := orV_u8 x y
  obtain ⟨l, hl⟩ := Int.eq_ofNat_of_zero_le h.1
  rw [hl] at h ⊢
  rw [W.rNext_ok hN V (by omega) hq, (W.stp_eq V hq l).1]
theorem rRows_l1_ok (hN : 5000 ≤ N) (V : Valid p acc gd nd) {q i : Nat} (hq : q < acc.length) {r23 r35 : List Int} (hi : i < r23.length) (h23 : r23.length ≤ 8) (h35 : r35.length ≤ 8) : ∀ (m k : Nat), k ≤ r35.length → r35.length - k < m →
    ref22_Rows_l1 N p acc gd nd (q : Int) r23 r35 (i : Int) m ((r35.take k).map fun y => go nd (gd.getD q 0) (orV .u8 (r23.getD i 0) y)) (k : Int) = some (rowS nd (gd.getD q 0) (r23.getD i 0) r35)
  | 0, k, _, h => by omega
  | m + 1, k, k0, k1 => by
    unfold ref22_Rows_l1
    by_cases hk : k < r35.length
    · have e : r35.take (k + 1) = r35.take k ++ [r35.getD k 0] := by
        rw [List.take_add_one, List.getElem?_eq_getElem hk, List.getD_eq_getElem?_getD, List.getElem?_eq_getElem hk]
        rfl
      have ih := rRows_l1_ok hN V hq hi h23 h35 m (k + 1) (by omega) (by omega)
      unfold ask
      rw [if_pos (show (k : Int) < ((r35.length : Nat) : Int) by omega), if_pos (by unfold idx; omega), if_pos (by unfold idx; omega), Int.toNat_natCast, Int.toNat_natCast, rNext22 hN V hq, Option.bind_some, if_pos (by rw [List.length_map, List.length_take, List.length_singleton]; omega), if_pos (by unfold in64; omega), show ((k : Int) + 1) = ((k + 1 : Nat) : Int) by omega]
      rw [e, List.map_append] at ih
      exact ih
    · rw [if_neg (show ¬ (k : Int) < ((r35.length : Nat) : Int) by omega), List.take_of_length_le (by omega)]
      rfl
theorem rRows_l0_ok (hN : 5000 ≤ N) (V : Valid p acc gd nd) {q : Nat} (hq : q < acc.length) {r23 r35 : List Int} (h23 : r23.length ≤ 8) (h35 : r35.length ≤ 8) : ∀ (m i : Nat), i ≤ r23.length → r23.length - i < m →
    ref22_Rows_l0 N p acc gd nd (q : Int) r23 r35 m ((r23.take i).map fun x => rowS nd (gd.getD q 0) x r35) (i : Int) = some (r23.map fun x => rowS nd (gd.getD q 0) x r35)
  | 0, i, _, h => by omega
  | m + 1, i, k0, k1 => by
    unfold ref22_Rows_l0
    by_cases hi : i < r23.length
    · have e : r23.take (i + 1) = r23.take i ++ [r23.getD i 0] := by
        rw [List.take_add_one, List.getElem?_eq_getElem hi, List.getD_eq_getElem?_getD, List.getElem?_eq_getElem hi]
        rfl
      have h1 := rRows_l1_ok (N := N) hN V hq hi h23 h35 N 0 (by omega) (by omega)
      have h1' : ref22_Rows_l1 N p acc gd nd (q : Int) r23 r35 (i : Int) N [] 0 = some (rowS nd (gd.getD q 0) (r23.getD i 0) r35) := h1
      have ih := rRows_l0_ok hN V hq h23 h35 m (i + 1) (by omega) (by omega)
      unfold ask
      rw [if_pos (show (i : Int) < ((r23.length : Nat) : Int) by omega), h1', Option.bind_some, if_pos (by rw [List.length_map, List.length_take, List.length_singleton]; omega), if_pos (by unfold in64; omega), show ((i : Int) + 1) = ((i + 1 : Nat) : Int) by omega]
      rw [e, List.map_append] at ih
      exact ih
    · rw [if_neg (show ¬ (i : Int) < ((r23.length : Nat) : Int) by omega), List.take_of_length_le (by omega)]
theorem rRows_ok (hN : 5000 ≤ N) (V : Valid p acc gd nd) (hs : (p, s.1, s.2) ∈ splits) {q : Nat} (hq : q < acc.length) : ref22_Rows N p acc gd nd s (q : Int) = some (rowsS nd gd s.1 s.2 (q : Int)) := by
  obtain ⟨hp, hs1, hs2⟩ := split_le hs
  have l1 := moves_len hs1
  have l2 := moves_len hs2
  have h := rRows_l0_ok (N := N) hN V hq (r23 := moves s.1) (r35 := moves s.2) (by omega) (by omega) N 0 (by omega) (by omega)
  have h' : ref22_Rows_l0 N p acc gd nd (q : Int) (moves s.1) (moves s.2) N [] 0 = some ((moves s.1).map fun x => rowS nd (gd.getD q 0) x (moves s.2)) := h
  unfold ref22_Rows rowsS
  rw [rMoves_ok hN hs1, Option.bind_some, rMoves_ok hN hs2, Option.bind_some, h', Option.bind_some, Int.toNat_natCast]
end
end Go.V
