/- Plain theory: strategies. No program. -/
import Derived.Test.YtclijiacfmljlaaPBN
set_option linter.all false
set_option linter.unusedVariables false
namespace Go.V
open Go

theorem list_all {α : Type} {xs : List α} {n : Nat} (d : α) (hl : xs.length = n) : ∀ x ∈ xs, ∃ i, i < n ∧ xs.getD i d = x := by
  intro x hx
  obtain ⟨i, hi, rfl⟩ := List.mem_iff_getElem.1 hx
  exact ⟨i, by omega, by simp [List.getD_eq_getElem?_getD, List.getElem?_eq_getElem hi]⟩

section
variable {N n E S : Nat} {all : List (List (List Int))} {acc : List Bool} {e s : Int} {ranks : List Int} {reply : List (List Int)} {choice : List Int} {q : Nat}

/-- a row of states, ranked -/
structure RkRow (row : List Int) (ranks : List Int) (n S : Nat) : Prop where
  len : row.length = S
  S8 : S ≤ 8
  into : ∀ k, k < S → 0 ≤ row.getD k 0 ∧ row.getD k 0 < n
  rl : ranks.length = n
theorem Game.rowAt (G : Game all n E S) (hr : ranks.length = n) {q i : Nat} (hq : q < n) (hi : i < E) : RkRow ((all.getD q []).getD i []) ranks n S :=
  ⟨G.row q i hq hi, G.S8, fun k hk => G.into q i k hq hi hk, hr⟩

theorem best_l0_ok {row : List Int} (R : RkRow row ranks n S) : ∀ (m : Nat) (at_ i : Int), 0 ≤ i → i ≤ S → (S : Int) - i < m → ((at_ = -1 ∧ ∀ k : Nat, (k : Int) < i → ranks.getD (row.getD k 0).toNat 0 < 0) ∨ (0 ≤ at_ ∧ at_ < S ∧ 0 ≤ ranks.getD (row.getD at_.toNat 0).toNat 0 ∧ ∀ k : Nat, (k : Int) < i → 0 ≤ ranks.getD (row.getD k 0).toNat 0 → ranks.getD (row.getD at_.toNat 0).toNat 0 ≤ ranks.getD (row.getD k 0).toNat 0)) →
    Ok (strat_best_l0 N row ranks m at_ i) fun r => (r = -1 ∧ ∀ k : Nat, k < S → ranks.getD (row.getD k 0).toNat 0 < 0) ∨ (0 ≤ r ∧ r < S ∧ 0 ≤ ranks.getD (row.getD r.toNat 0).toNat 0 ∧ ∀ k : Nat, k < S → 0 ≤ ranks.getD (row.getD k 0).toNat 0 → ranks.getD (row.getD r.toNat 0).toNat 0 ≤ ranks.getD (row.getD k 0).toNat 0)
  | 0, at_, i, _, _, h, _ => by omega
  | m + 1, at_, i, k0, k1, k2, k3 => by
    have S8 := R.S8
    have rl := R.rl
    unfold strat_best_l0
    rw [R.len]
    refine Ok.ite (fun hi => ?_) fun hi => Ok.pure (k3.imp (fun h => ⟨h.1, fun k hk => h.2 k (by omega)⟩) fun h => ⟨h.1, h.2.1, h.2.2.1, fun k hk => h.2.2.2 k (by omega)⟩)
    have hin := R.into i.toNat (by omega)
    refine Ok.ask (by unfold idx; omega) (Ok.ask (by unfold idx; omega) ?_)
    have e : ((i.toNat : Nat) : Int) = i := by omega
    refine Ok.ite (fun h0 => ?_) fun h0 => ?_
    · have hf : Ok (strat_best_f1 N row ranks at_ i) fun r => r = true ↔ (at_ < 0 ∨ ranks.getD (row.getD i.toNat 0).toNat 0 < ranks.getD (row.getD at_.toNat 0).toNat 0) := by
        unfold strat_best_f1
        refine Ok.ite (fun h => Ok.pure ⟨fun _ => .inl h, fun _ => rfl⟩) fun h => ?_
        rcases k3 with k3 | k3
        · omega
        have hin2 := R.into at_.toNat (by omega)
        refine Ok.ask (by unfold idx; rw [R.len]; omega) (Ok.ask (by unfold idx; omega) (Ok.pure ?_))
        rw [decide_eq_true_iff]
        exact ⟨.inr, fun h2 => h2.resolve_left h⟩
      refine hf.bind fun b hb => ?_
      refine Ok.ite (fun h => ?_) fun h => ?_
      · refine Ok.ask (by unfold in64; omega) ?_
        refine best_l0_ok R m i (i + 1) (by omega) (by omega) (by omega) (.inr ⟨k0, hi, h0, fun k hk h1 => ?_⟩)
        rcases Int.lt_or_eq_of_le (show (k : Int) ≤ i by omega) with h3 | h3
        · rcases k3 with ⟨_, k3⟩ | ⟨k4, _, k5, k3⟩
          · have := k3 k h3; omega
          · rcases hb.1 h with h4 | h4
            · omega
            · have := k3 k h3 h1; omega
        · rw [show k = i.toNat by omega]; omega
      · refine Ok.ask (by unfold in64; omega) ?_
        have hb' : ¬ (at_ < 0 ∨ ranks.getD (row.getD i.toNat 0).toNat 0 < ranks.getD (row.getD at_.toNat 0).toNat 0) := fun h2 => h (hb.2 h2)
        refine best_l0_ok R m at_ (i + 1) (by omega) (by omega) (by omega) (.inr ?_)
        rcases k3 with ⟨k3, _⟩ | ⟨k4, k6, k5, k3⟩
        · omega
        refine ⟨k4, k6, k5, fun k hk h1 => ?_⟩
        rcases Int.lt_or_eq_of_le (show (k : Int) ≤ i by omega) with h3 | h3
        · exact k3 k h3 h1
        · rw [show k = i.toNat by omega]; omega
    · refine Ok.ask (by unfold in64; omega) ?_
      refine best_l0_ok R m at_ (i + 1) (by omega) (by omega) (by omega) (k3.imp (fun h => ⟨h.1, fun k hk => ?_⟩) fun h => ⟨h.1, h.2.1, h.2.2.1, fun k hk h1 => ?_⟩)
      · rcases Int.lt_or_eq_of_le (show (k : Int) ≤ i by omega) with h3 | h3
        · exact h.2 k h3
        · rw [show k = i.toNat by omega]; omega
      · rcases Int.lt_or_eq_of_le (show (k : Int) ≤ i by omega) with h3 | h3
        · exact h.2.2.2 k h3 h1
        · rw [show k = i.toNat by omega] at h1; omega
theorem best_ok (hN : 5000 ≤ N) {row : List Int} (R : RkRow row ranks n S) (hex : ∃ k, k < S ∧ 0 ≤ ranks.getD (row.getD k 0).toNat 0) :
    Ok (strat_best N row ranks) fun r => 0 ≤ r ∧ r < S ∧ 0 ≤ ranks.getD (row.getD r.toNat 0).toNat 0 ∧ ∀ k : Nat, k < S → 0 ≤ ranks.getD (row.getD k 0).toNat 0 → ranks.getD (row.getD r.toNat 0).toNat 0 ≤ ranks.getD (row.getD k 0).toNat 0 := by
  have S8 := R.S8
  unfold strat_best
  refine (best_l0_ok R N (-1) 0 (by omega) (by omega) (by omega) (.inl ⟨rfl, fun k h => by omega⟩)).bind fun r hr => Ok.pure ?_
  rcases hr with ⟨_, hr⟩ | hr
  · obtain ⟨k, hk, h⟩ := hex
    have := hr k hk
    omega
  · exact hr

theorem lost_l2_ok {row : List Int} (R : RkRow row ranks n S) : ∀ (m : Nat) (i : Int), 0 ≤ i → i ≤ S → (S : Int) - i < m → (∀ k : Nat, (k : Int) < i → ranks.getD (row.getD k 0).toNat 0 = -1) →
    Ok (strat_lost_l2 N row ranks m i) fun r => (r = .inl () ∧ ∀ k, k < S → ranks.getD (row.getD k 0).toNat 0 = -1) ∨ ∃ j, r = .inr j ∧ 0 ≤ j ∧ ¬ ∀ k, k < S → ranks.getD (row.getD k 0).toNat 0 = -1
  | 0, i, _, _, h, _ => by omega
  | m + 1, i, k0, k1, k2, k3 => by
    have S8 := R.S8
    have rl := R.rl
    unfold strat_lost_l2
    rw [R.len]
    refine Ok.ite (fun hi => ?_) fun hi => Ok.pure (.inl ⟨rfl, fun k hk => k3 k (by omega)⟩)
    have hin := R.into i.toNat (by omega)
    refine Ok.ask (by unfold idx; omega) ?_
    have hf : strat_lost_f3 N row ranks i = some () := by
      unfold strat_lost_f3 ask
      rw [if_pos (by unfold idx; omega)]
    rw [hf]
    simp only [Option.bind_some]
    refine Ok.ite (fun h => ?_) fun h => Ok.pure (.inr ⟨i, rfl, k0, fun h2 => h (h2 i.toNat (by omega))⟩)
    refine Ok.ask (by unfold in64; omega) ?_
    refine lost_l2_ok R m (i + 1) (by omega) (by omega) (by omega) fun k hk => ?_
    rcases Int.lt_or_eq_of_le (show (k : Int) ≤ i by omega) with h3 | h3
    · exact k3 k h3
    · rw [show k = i.toNat by omega]; exact h
theorem lost_ok (hN : 5000 ≤ N) {row : List Int} (R : RkRow row ranks n S) : Ok (strat_lost N row ranks) fun r => r = true ↔ ∀ k, k < S → ranks.getD (row.getD k 0).toNat 0 = -1 := by
  have S8 := R.S8
  unfold strat_lost strat_lost_f0 strat_lost_f1
  obtain ⟨r, e, hr⟩ := lost_l2_ok (N := N) R N 0 (by omega) (by omega) (by omega) fun k h => by omega
  rw [e]
  rcases hr with ⟨rfl, hr⟩ | ⟨j, rfl, h1, hr⟩
  · exact ⟨_, rfl, ⟨fun _ => hr, fun _ => rfl⟩⟩
  · exact ⟨_, rfl, ⟨fun h => by simp [h1] at h, fun h => absurd h hr⟩⟩

/-! ### what a strategy says of a state -/
def StK (all : List (List (List Int))) (n E S : Nat) (acc : List Bool) (e s : Int) (ranks : List Int) (reply : List (List Int)) (choice : List Int) (q : Nat) : Prop :=
  -1 ≤ ranks.getD q 0 ∧ (ranks.getD q 0 = 0 ↔ acc.getD q false = true) ∧ (ranks.getD q 0 ≤ 0 → (reply.getD q []).length = 0) ∧ (0 ≤ ranks.getD q 0 → choice.getD q 0 = 0) ∧
  (0 < ranks.getD q 0 → (reply.getD q []).length = E ∧ ∀ i, i < E → ∃ k, k < S ∧ (moves s).getD k 0 = (reply.getD q []).getD i 0 ∧ 0 ≤ ranks.getD (to all q i k) 0 ∧ ranks.getD (to all q i k) 0 < ranks.getD q 0) ∧
  (ranks.getD q 0 < 0 → ∃ i, i < E ∧ (moves e).getD i 0 = choice.getD q 0 ∧ ∀ k, k < S → ranks.getD (to all q i k) 0 = -1)
structure Kept (all : List (List (List Int))) (n E S : Nat) (acc : List Bool) (e s : Int) (wins : Bool) (ranks : List Int) (reply : List (List Int)) (choice : List Int) : Prop where
  rl : ranks.length = n
  pl : reply.length = n
  cl : choice.length = n
  wins : wins = decide (0 ≤ ranks.getD 0 0)
  st : ∀ q, q < n → StK all n E S acc e s ranks reply choice q

theorem moves_inj' {m : Int} (h : 0 ≤ m ∧ m ≤ 7) {i k : Nat} (hi : i < (moves m).length) (hk : k < (moves m).length) (he : (moves m).getD i 0 = (moves m).getD k 0) : i = k := by
  have hm := moves_len h
  obtain ⟨a, rfl⟩ := Int.eq_ofNat_of_zero_le h.1
  have := moves_inj ⟨a, by omega⟩ ⟨i, by omega⟩ ⟨k, by omega⟩ hi hk he
  simpa using this

theorem state_l1 {N : Nat} {s : Int × Int} {xr : List Int} {xp : List (List Int)} {q : Int} {r : List (List Int) × Int} : ∀ (m : Nat) (x : Int), strat_state_l1 N s xr xp q r m x = strat_state_l0 N s xr xp q r m x
  | 0, _ => rfl
  | m + 1, x => by unfold strat_state_l1 strat_state_l0; simp only [state_l1 m]
theorem state_l2 {N : Nat} {s : Int × Int} {xr : List Int} {xp : List (List Int)} {q : Int} {r : List (List Int) × Int} : ∀ (m : Nat) (x : Int), strat_state_l2 N s xr xp q r m x = strat_state_l0 N s xr xp q r m x
  | 0, _ => rfl
  | m + 1, x => by unfold strat_state_l2 strat_state_l0; simp only [state_l2 m]
theorem state_l3 {N : Nat} {s : Int × Int} {xr : List Int} {xp : List (List Int)} {q : Int} {r : List (List Int) × Int} : ∀ (m : Nat) (x : Int), strat_state_l3 N s xr xp q r m x = strat_state_l0 N s xr xp q r m x
  | 0, _ => rfl
  | m + 1, x => by unfold strat_state_l3 strat_state_l0; simp only [state_l3 m]

def RepK (all : List (List (List Int))) (S : Nat) (s : Int) (ranks : List Int) (reply : List (List Int)) (q i : Nat) : Prop := ∃ k, k < S ∧ (moves s).getD k 0 = (reply.getD q []).getD i 0 ∧ 0 ≤ ranks.getD (to all q i k) 0 ∧ ranks.getD (to all q i k) 0 < ranks.getD q 0
theorem state_l0_ok (hN : 5000 ≤ N) {s : Int × Int} (hs : 0 ≤ s.2 ∧ s.2 ≤ 7) (G : Game all n E (moves s.2).length) (hr : ranks.length = n) (hq : q < n) (hp : (reply.getD q []).length = E) {r : List (List Int) × Int} (hrr : r.1 = all.getD q []) : ∀ (m : Nat) (i : Int), 0 ≤ i → i ≤ E → (E : Int) - i < m → (∀ j : Nat, (j : Int) < i → RepK all (moves s.2).length s.2 ranks reply q j) →
    Ok (strat_state_l0 N s ranks reply (q : Int) r m i) fun x => (x = .inl () ∧ ∀ j, j < E → RepK all (moves s.2).length s.2 ranks reply q j) ∨ (x = .inr false ∧ ¬ ∀ j, j < E → RepK all (moves s.2).length s.2 ranks reply q j)
  | 0, i, _, _, h, _ => by omega
  | m + 1, i, k0, k1, k2, k3 => by
    have E8 := G.E8
    have S8 := G.S8
    unfold strat_state_l0
    simp only [Int.toNat_natCast]
    rw [hp]
    refine Ok.ite (fun hi => ?_) fun hi => Ok.pure (.inl ⟨rfl, fun j hj => k3 j (by omega)⟩)
    refine Ok.ask (by unfold idx; omega) ?_
    have hi' : i.toNat < E := by omega
    refine (board_Number_ok hN hs).bind fun k hk => ?_
    have no : (∀ k', k' < (moves s.2).length → ¬ ((moves s.2).getD k' 0 = (reply.getD q []).getD i.toNat 0 ∧ 0 ≤ ranks.getD (to all q i.toNat k') 0 ∧ ranks.getD (to all q i.toNat k') 0 < ranks.getD q 0)) → ¬ ∀ j, j < E → RepK all (moves s.2).length s.2 ranks reply q j := fun h h2 => by
      obtain ⟨k', h3, h4⟩ := h2 i.toNat hi'
      exact h k' h3 h4
    rcases hk with ⟨rfl, hk⟩ | ⟨h2, h3, h4, h5⟩
    · rw [if_neg (by decide)]
      exact Ok.pure (.inr ⟨rfl, no fun k' h h2 => hk k' h h2.1⟩)
    · rw [if_pos h2, hrr]
      have hin := G.into q i.toNat k.1.toNat hq hi' (by omega)
      refine Ok.ask (by unfold idx; rw [G.rows q hq]; omega) (Ok.ask (by unfold idx; rw [G.row q _ hq hi']; omega) (Ok.ask (by unfold idx; omega) ?_))
      have uniq : ∀ k', k' < (moves s.2).length → (moves s.2).getD k' 0 = (reply.getD q []).getD i.toNat 0 → k' = k.1.toNat := fun k' h1 h2 => moves_inj' hs h1 (by omega) (by rw [h2, h5])
      refine Ok.ite (fun h => Ok.pure (.inr ⟨rfl, no fun k' h1 h2 => ?_⟩)) fun h => ?_
      · rw [uniq k' h1 h2.1] at h2
        exact absurd h (by unfold to at h2; omega)
      refine Ok.ite (fun h' => Ok.pure (.inr ⟨rfl, no fun k' h1 h2 => ?_⟩)) fun h' => ?_
      · rw [uniq k' h1 h2.1] at h2
        exact absurd h' (by unfold to at h2; omega)
      refine Ok.ask (by unfold in64; omega) ?_
      refine state_l0_ok hN hs G hr hq hp hrr m (i + 1) (by omega) (by omega) (by omega) fun j hj => ?_
      rcases Int.lt_or_eq_of_le (show (j : Int) ≤ i by omega) with h6 | h6
      · exact k3 j h6
      · rw [show j = i.toNat by omega]
        exact ⟨k.1.toNat, by omega, h5, by unfold to; omega, by unfold to; omega⟩
end
end Go.V
