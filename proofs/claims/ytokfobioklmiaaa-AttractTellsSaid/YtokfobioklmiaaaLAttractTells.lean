/- Ranks, wins and steps are what the document says, or just its error. -/
import Derived.Test.YtokfobioklmiaaaBAttractTells
import Derived.Test.YtokfobioklmiaaaR23
import Derived.Test.YtokfobioklmiaaaV9
set_option linter.all false
set_option linter.unusedVariables false
set_option maxRecDepth 1000000
namespace Go.V
open Go Go.Proofs
section
variable {N : Nat} {p : Int} {acc : List Bool} {gd : List Int} {nd : List Nd} {s : Int × Int}
theorem over_l6 {x0 : List Int} : ∀ (m i : Nat) (x : List Int), x.length ≤ 1000 → i ≤ x.length → x.length - i < m → ∃ y : List Int, law23_AttractTells_l6 N m x (i : Int) = some y ∧ y.length = x.length
  | 0, i, x, _, _, h => by omega
  | m + 1, i, x, h, k0, k1 => by
    unfold law23_AttractTells_l6 ask
    by_cases hi : i < x.length
    · rw [if_pos (show (i : Int) < ((x.length : Nat) : Int) by omega), if_pos (by unfold idx; omega), if_pos (by unfold in64; omega), show ((i : Int) + 1) = ((i + 1 : Nat) : Int) by omega]
      obtain ⟨y, h1, h2⟩ := over_l6 (x0 := x0) m (i + 1) (x.set (Int.toNat (i : Int)) (xorV .i64 (x.getD (Int.toNat (i : Int)) 0) 21845)) (by rw [List.length_set]; exact h) (by rw [List.length_set]; omega) (by rw [List.length_set]; omega)
      exact ⟨y, h1, by rw [h2, List.length_set]⟩
    · rw [if_neg (show ¬ (i : Int) < ((x.length : Nat) : Int) by omega)]
      exact ⟨x, rfl, rfl⟩
theorem over_l8 {x0 : List Int} : ∀ (m i : Nat) (x : List Int), x.length ≤ 1000 → i ≤ x.length → x.length - i < m → ∃ y : List Int, law23_AttractTells_l8 N m x (i : Int) = some y ∧ y.length = x.length
  | 0, i, x, _, _, h => by omega
  | m + 1, i, x, h, k0, k1 => by
    unfold law23_AttractTells_l8 ask
    by_cases hi : i < x.length
    · rw [if_pos (show (i : Int) < ((x.length : Nat) : Int) by omega), if_pos (by unfold idx; omega), if_pos (by unfold in64; omega), show ((i : Int) + 1) = ((i + 1 : Nat) : Int) by omega]
      obtain ⟨y, h1, h2⟩ := over_l8 (x0 := x0) m (i + 1) (x.set (Int.toNat (i : Int)) (xorV .i64 (x.getD (Int.toNat (i : Int)) 0) 21845)) (by rw [List.length_set]; exact h) (by rw [List.length_set]; omega) (by rw [List.length_set]; omega)
      exact ⟨y, h1, by rw [h2, List.length_set]⟩
    · rw [if_neg (show ¬ (i : Int) < ((x.length : Nat) : Int) by omega)]
      exact ⟨x, rfl, rfl⟩
theorem over_l10 {x0 : List Int} : ∀ (m i : Nat) (x : List Int), x.length ≤ 1000 → i ≤ x.length → x.length - i < m → ∃ y : List Int, law23_AttractTells_l10 N m x (i : Int) = some y ∧ y.length = x.length
  | 0, i, x, _, _, h => by omega
  | m + 1, i, x, h, k0, k1 => by
    unfold law23_AttractTells_l10 ask
    by_cases hi : i < x.length
    · rw [if_pos (show (i : Int) < ((x.length : Nat) : Int) by omega), if_pos (by unfold idx; omega), if_pos (by unfold in64; omega), show ((i : Int) + 1) = ((i + 1 : Nat) : Int) by omega]
      obtain ⟨y, h1, h2⟩ := over_l10 (x0 := x0) m (i + 1) (x.set (Int.toNat (i : Int)) (xorV .i64 (x.getD (Int.toNat (i : Int)) 0) 21845)) (by rw [List.length_set]; exact h) (by rw [List.length_set]; omega) (by rw [List.length_set]; omega)
      exact ⟨y, h1, by rw [h2, List.length_set]⟩
    · rw [if_neg (show ¬ (i : Int) < ((x.length : Nat) : Int) by omega)]
      exact ⟨x, rfl, rfl⟩
theorem over_l12 {x0 : List Int} : ∀ (m i : Nat) (x : List Int), x.length ≤ 1000 → i ≤ x.length → x.length - i < m → ∃ y : List Int, law23_AttractTells_l12 N m x (i : Int) = some y ∧ y.length = x.length
  | 0, i, x, _, _, h => by omega
  | m + 1, i, x, h, k0, k1 => by
    unfold law23_AttractTells_l12 ask
    by_cases hi : i < x.length
    · rw [if_pos (show (i : Int) < ((x.length : Nat) : Int) by omega), if_pos (by unfold idx; omega), if_pos (by unfold in64; omega), show ((i : Int) + 1) = ((i + 1 : Nat) : Int) by omega]
      obtain ⟨y, h1, h2⟩ := over_l12 (x0 := x0) m (i + 1) (x.set (Int.toNat (i : Int)) (xorV .i64 (x.getD (Int.toNat (i : Int)) 0) 21845)) (by rw [List.length_set]; exact h) (by rw [List.length_set]; omega) (by rw [List.length_set]; omega)
      exact ⟨y, h1, by rw [h2, List.length_set]⟩
    · rw [if_neg (show ¬ (i : Int) < ((x.length : Nat) : Int) by omega)]
      exact ⟨x, rfl, rfl⟩

theorem eqRanks (hN : 5000 ≤ N) (hw : ∀ x ∈ nd, x.wf) (hp' : p ≤ 3 ∨ 8 < p) (h1 : 0 ≤ s.1 ∧ s.1 ≤ 255) (h2 : 0 ≤ s.2 ∧ s.2 ≤ 255) : ∃ X e, attract_Ranks N p acc gd nd s = some (X, e) ∧ ref23_Ranks N p acc gd nd s = some (X, e) ∧ X.length ≤ 256 ∧ (e = 0 → 1 ≤ X.length) := by
  obtain ⟨e, hC, he⟩ := board_Check_ok (N := N) (p := p) (acc := acc) (gd := gd) (nd := nd) (s := s) hN hw hp' h1 h2
  have hK := rCheck22_eq (N := N) (p := p) (acc := acc) (gd := gd) (nd := nd) (s := s) hN hw hp' h1 h2
  rw [hC] at hK
  by_cases h0 : e = 0
  · subst h0
    obtain ⟨V, _, hs⟩ := he rfl
    obtain ⟨r, er, r2, R⟩ := attract_Ranks_ok (N := N) hN V hC hs
    obtain ⟨X, e⟩ := r
    have r2 : e = 0 := r2
    subst r2
    have R : Ranked (AL nd gd s acc.length) acc.length (moves s.1).length (moves s.2).length acc X := R
    have hl := R.len
    have a1 := V.a1
    have a2 := V.a2
    exact ⟨X, 0, er, rRanks_ok hN V hK hs R, by omega, fun _ => by omega⟩
  · refine ⟨[], e, ?_, ?_, by simp, fun h => absurd h h0⟩
    · unfold attract_Ranks attract_rows
      rw [show (s.1, s.2) = s from rfl, hC, Option.bind_some, if_neg h0, Option.bind_some]
      dsimp only
      rw [if_neg h0]
    · unfold ref23_Ranks
      rw [show (s.1, s.2) = s from rfl, hK, Option.bind_some, if_neg h0]
theorem eqWins (hN : 5000 ≤ N) (hw : ∀ x ∈ nd, x.wf) (hp' : p ≤ 3 ∨ 8 < p) (h1 : 0 ≤ s.1 ∧ s.1 ≤ 255) (h2 : 0 ≤ s.2 ∧ s.2 ≤ 255) : ∃ b e, attract_Wins N p acc gd nd s = some (b, e) ∧ ref23_Wins N p acc gd nd s = some (b, e) := by
  obtain ⟨X, e, x1, x2, xl, x0⟩ := eqRanks (N := N) (p := p) (acc := acc) (gd := gd) (nd := nd) (s := s) hN hw hp' h1 h2
  unfold attract_Wins ref23_Wins
  rw [show (s.1, s.2) = s from rfl, x1, x2]
  simp only [Option.bind_some]
  by_cases h0 : e = 0
  · have := x0 h0
    have hi : idx 0 X.length := by unfold idx; omega
    unfold ask
    rw [if_pos h0, if_pos hi]
    exact ⟨_, _, rfl, rfl⟩
  · rw [if_neg h0]
    exact ⟨_, _, rfl, rfl⟩
theorem eqStep (hN : 5000 ≤ N) (hw : ∀ x ∈ nd, x.wf) (hp' : p ≤ 3 ∨ 8 < p) (h1 : 0 ≤ s.1 ∧ s.1 ≤ 255) (h2 : 0 ≤ s.2 ∧ s.2 ≤ 255) {won : List Bool} : ∃ U e, attract_Step N p acc gd nd s won = some (U, e) ∧ ref23_Step N p acc gd nd s won = some (U, e) ∧ U.length ≤ 256 := by
  obtain ⟨e, hC, he⟩ := board_Check_ok (N := N) (p := p) (acc := acc) (gd := gd) (nd := nd) (s := s) hN hw hp' h1 h2
  have hK := rCheck22_eq (N := N) (p := p) (acc := acc) (gd := gd) (nd := nd) (s := s) hN hw hp' h1 h2
  rw [hC] at hK
  by_cases h0 : e = 0
  · subst h0
    obtain ⟨V, _, hs⟩ := he rfl
    have a2 := V.a2
    have G := allS_game (N := N) hN V hs
    unfold attract_Step
    rw [show (s.1, s.2) = s from rfl, attract_rows_eq hN V hC hs, Option.bind_some]
    dsimp only
    rw [if_pos rfl, G.len]
    by_cases hl : ((won.length : Nat) : Int) = ((acc.length : Nat) : Int)
    · obtain ⟨r, er, r1, r2⟩ := before_ok (N := N) hN G (won := won) (by omega)
      obtain ⟨r', er', r0', r1', r2'⟩ := rStep_ok (N := N) hN V hK hs (won := won) (by omega)
      obtain ⟨U, e⟩ := r'
      have r0' : e = 0 := r0'
      subst r0'
      have e1 : r = U := ext_getD false (by rw [r1]; exact r1'.symm) fun j hj => by
        have h3 := r2 j (by omega)
        have h4 := r2' j (by omega)
        rw [Bool.eq_iff_iff, h3]
        exact h4.symm
      rw [if_pos hl, er, Option.bind_some, er', e1]
      exact ⟨U, 0, rfl, rfl, by rw [← e1, r1]; omega⟩
    · unfold ref23_Step
      rw [if_neg hl, show (s.1, s.2) = s from rfl, hK, Option.bind_some, if_pos rfl, if_neg hl]
      exact ⟨[], 2, rfl, rfl, by simp⟩
  · refine ⟨[], e, ?_, ?_, by simp⟩
    · unfold attract_Step attract_rows
      rw [show (s.1, s.2) = s from rfl, hC, Option.bind_some, if_neg h0, Option.bind_some]
      dsimp only
      rw [if_neg h0]
    · unfold ref23_Step
      rw [show (s.1, s.2) = s from rfl, hK, Option.bind_some, if_neg h0]
theorem l2_ok : ∀ (m i : Nat) (x : List Bool), x.length ≤ 1000 → i ≤ x.length → x.length - i < m → ∃ u, law23_AttractTells_l2 N m x (i : Int) = some u
  | 0, i, x, _, _, h => by omega
  | m + 1, i, x, h, k0, k1 => by
    unfold law23_AttractTells_l2 ask
    by_cases hi : i < x.length
    · rw [if_pos (show (i : Int) < ((x.length : Nat) : Int) by omega), if_pos (by unfold idx; omega), if_pos (by unfold in64; omega), show ((i : Int) + 1) = ((i + 1 : Nat) : Int) by omega]
      exact l2_ok m (i + 1) _ (by rw [List.length_set]; exact h) (by rw [List.length_set]; omega) (by rw [List.length_set]; omega)
    · rw [if_neg (show ¬ (i : Int) < ((x.length : Nat) : Int) by omega)]
      exact ⟨_, rfl⟩
theorem copy_ok {x : List Int} (h : x.length ≤ 1000) : kit_CopyInts N x = some x := by
  unfold kit_CopyInts ask
  rw [if_pos (by simp; omega)]
  rfl
theorem set1 (a b : List Int) : List.getD (List.set (List.set (List.replicate (Int.toNat (2 : Int)) ([] : List Int)) (Int.toNat (0 : Int)) a) (Int.toNat (1 : Int)) b) (Int.toNat (1 : Int)) [] = b := rfl
theorem set0 (a b : List Int) : List.getD (List.set (List.set (List.replicate (Int.toNat (2 : Int)) ([] : List Int)) (Int.toNat (0 : Int)) a) (Int.toNat (1 : Int)) b) (Int.toNat (0 : Int)) [] = a := rfl
theorem f4_ok (hN : 5000 ≤ N) {X : List Int} {e : Int} (h : X.length ≤ 256) : ∃ y z, law23_AttractTells_f4 N (X, e) (X, e) = some (true, y, z) := by
  obtain ⟨y1, e1, l1⟩ := over_l6 (N := N) (x0 := X) N 0 X (by omega) (by omega) (by omega)
  obtain ⟨y2, e2, l2⟩ := over_l8 (N := N) (x0 := X) N 0 y1 (by omega) (by omega) (by omega)
  obtain ⟨y3, e3, l3⟩ := over_l10 (N := N) (x0 := X) N 0 X (by omega) (by omega) (by omega)
  obtain ⟨y4, e4, l4⟩ := over_l12 (N := N) (x0 := X) N 0 y3 (by omega) (by omega) (by omega)
  rw [show ((0 : Nat) : Int) = 0 from rfl] at e1 e2 e3 e4
  have g0 : idx (0 : Int) 2 := by unfold idx; omega
  have g1 : idx (1 : Int) 2 := by unfold idx; omega
  have L0 : List.length (List.replicate (Int.toNat (2 : Int)) ([] : List Int)) = 2 := rfl
  unfold law23_AttractTells_f4 law23_AttractTells_f5 law23_AttractTells_f7 law23_AttractTells_f9 law23_AttractTells_f11 ask
  dsimp only
  simp only [List.length_set, L0, set1, set0]
  rw [if_pos (by omega), copy_ok (by omega), Option.bind_some, if_pos g0, Option.bind_some, if_pos g1, e1, Option.bind_some, Option.bind_some, if_pos g1, W.SameI_self (by omega) (by omega), Option.bind_some, if_pos rfl, e2, Option.bind_some, Option.bind_some, copy_ok (by omega), Option.bind_some, Option.bind_some, if_pos g1, e3, Option.bind_some, Option.bind_some, if_pos g0, W.SameI_self (by omega) (by omega), Option.bind_some, if_pos rfl, e4, Option.bind_some, Option.bind_some]
  exact ⟨_, _, rfl⟩
end
theorem attractTells_true {p : Int} {acc : List Bool} {gd : List Int} {nd : List Nd} {s : Int × Int} {won : List Bool} (hw : ∀ x ∈ nd, x.wf) (h1 : 0 ≤ s.1 ∧ s.1 ≤ 255) (h2 : 0 ≤ s.2 ∧ s.2 ≤ 255) : law23_AttractTells 3000000 p acc gd nd s won = some true := by
  have hN : 5000 ≤ 3000000 := by decide
  have hL : Ok (law19_Large 3000000 p acc gd nd) fun b => b = false → (p ≤ 3 ∨ 8 < p) ∧ acc.length ≤ 259 ∧ nd.length ≤ 40 ∧ gd.length ≤ 300 := by
    unfold law19_Large
    repeat' (first | refine Ok.ite (fun _ => ?_) fun _ => ?_ | (refine Ok.pure fun h => ?_))
    all_goals first | (have h3 := of_decide_eq_false h; omega) | (cases h)
  unfold law23_AttractTells law23_AttractTells_j0
  obtain ⟨b, eb, hb⟩ := hL
  rw [eb, Option.bind_some]
  cases b with
  | true => rw [if_pos rfl, Option.bind_some, if_pos rfl]
  | false =>
  obtain ⟨hp, ha, hn, hg⟩ := hb rfl
  rw [if_neg Bool.false_ne_true, Option.bind_some]
  by_cases hwl : 300 < ((won.length : Nat) : Int)
  · rw [if_pos (decide_eq_true hwl)]
  rw [if_neg (fun h => hwl (of_decide_eq_true h)), W.LentAuto_ok hN (by omega) (by omega) (by omega), Option.bind_some]
  dsimp only
  obtain ⟨X, e, x1, x2, xl, _⟩ := eqRanks (N := 3000000) (p := p) (acc := acc) (gd := gd) (nd := nd) (s := s) hN hw hp h1 h2
  obtain ⟨c, e2, w1, w2⟩ := eqWins (N := 3000000) (p := p) (acc := acc) (gd := gd) (nd := nd) (s := s) hN hw hp h1 h2
  obtain ⟨U, e3, u1, u2, ul⟩ := eqStep (N := 3000000) (p := p) (acc := acc) (gd := gd) (nd := nd) (s := s) hN hw hp h1 h2 (won := won)
  obtain ⟨u, eu⟩ := l2_ok (N := 3000000) 3000000 0 U (by omega) (by omega) (by omega)
  have eu' : law23_AttractTells_l2 3000000 3000000 U 0 = some u := eu
  obtain ⟨y, z, f4⟩ := f4_ok (N := 3000000) (X := X) (e := e) hN xl
  unfold ask
  rw [if_pos (by simp; omega), List.nil_append, show (s.1, s.2) = s from rfl, x1, Option.bind_some, Option.bind_some, x2, Option.bind_some, w1, Option.bind_some, w2, Option.bind_some, u1, Option.bind_some, u2, Option.bind_some]
  have j1 : law23_AttractTells_j1 3000000 (X, e) (X, e) (X, e) (c, e2) (c, e2) (U, e3) (U, e3) = some true := by
    have b1 : kit_SameInts 3000000 X X = some true := W.SameI_self (by omega) (by omega)
    have b2 : kit_SameBools 3000000 U U = some true := W.SameB_self (by omega) (by omega)
    unfold law23_AttractTells_j1
    simp only [b1, b2, Option.bind_some, if_true, beq_self_eq_true]
  rw [j1, Option.bind_some]
  dsimp only
  rw [eu', Option.bind_some]
  have j3 : law23_AttractTells_j3 3000000 p acc gd nd won (p, (acc, [false, false, false]), (gd, W.spI gd.length), (nd, [default, default, default])) (X, e) (X, e) true = some true := by
    unfold law23_AttractTells_j3
    dsimp only
    rw [if_pos rfl, List.nil_append, W.SameB_self (by omega) (by omega), Option.bind_some, if_pos rfl, W.KeptAuto_ok hN (by omega) (by omega) (by omega), Option.bind_some, if_pos rfl, f4, Option.bind_some]
  rw [j3, Option.bind_some]
theorem attractTells_row (w0 : World) (p : Int) (A1 A2 A3 : Option Addr) (c1 c2 c3 : Nat) (acc : List Bool) (gd : List Int) (nd : List Nd) (e s : Int) (A4 : Option Addr) (c4 : Nat) (won : List Bool)
    (k1 : acc.length ≤ c1) (k2 : gd.length ≤ c2) (k3 : nd.length ≤ c3) (k4 : won.length ≤ c4)
    (C1 : C cBool w0 (Lo w0.heap.size) A1 acc) (C2 : C (cInt .i64) w0 (Lo w0.heap.size) A2 gd) (C3 : C cNode w0 (Lo w0.heap.size) A3 nd) (C4 : C cBool w0 (Lo w0.heap.size) A4 won) (h1 : 0 ≤ e ∧ e ≤ 255) (h2 : 0 ≤ s ∧ s ≤ 255) (hw : ∀ x ∈ nd, x.wf) :
    Calls Try.prog 5 #[.agg #[.int .i64 p, .slice A1 acc.length c1, .slice A2 gd.length c2, .slice A3 nd.length c3], .agg #[.int .u8 e, .int .u8 s], .slice A4 won.length c4] w0 fun e w' => ∃ v, e = .returned v ∧ (v = .bool true ∧ Ext w0 w') :=
  (law23_AttractTells_calls A1 c1 A2 c2 A3 c3 A4 c4 p acc gd nd (e, s) won k1 k2 k3 k4 ((((Hp.start w0).arg C1).arg C2).arg C3 |>.arg C4) (attractTells_true hw h1 h2)).mono fun e w' ⟨v, he, hv, H⟩ => ⟨v, he, hv, H.chgd.own⟩
end Go.V
