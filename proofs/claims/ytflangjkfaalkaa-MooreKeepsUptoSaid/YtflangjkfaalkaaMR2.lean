/- Plain theory: the system chooses first: strategies. No program. -/
import Derived.Test.YtflangjkfaalkaaMR
import Derived.Test.YtflangjkfaalkaaPBN
set_option linter.all false
set_option linter.unusedVariables false
set_option maxRecDepth 100000
namespace Go.V
open Go

theorem snoc_getD {α : Type} {xs : List α} {v d : α} {j : Nat} : (xs ++ [v]).getD j d = if j = xs.length then v else xs.getD j d := by
  rw [List.getD_eq_getElem?_getD, List.getD_eq_getElem?_getD]
  by_cases h : j = xs.length
  · subst h; simp
  · rw [if_neg h]
    by_cases h2 : j < xs.length
    · rw [List.getElem?_append_left h2]
    · rw [List.getElem?_append_right (by omega), List.getElem?_eq_none (by simp; omega), List.getElem?_eq_none (by omega)]
theorem moves_in : ∀ m : Fin 16, ∀ x ∈ moves (m.val : Int), andNotV .u8 x (m.val : Int) = 0 := by decide +kernel
theorem moves_in' {m : Int} (h : 0 ≤ m ∧ m ≤ 15) {k : Nat} (hk : k < (moves m).length) : andNotV .u8 ((moves m).getD k 0) m = 0 := by
  obtain ⟨a, rfl⟩ := Int.eq_ofNat_of_zero_le h.1
  refine moves_in ⟨a, by omega⟩ _ ?_
  rw [List.getD_eq_getElem?_getD, List.getElem?_eq_getElem hk]
  exact List.getElem_mem hk

/-- what a strategy says of a state -/
structure MSt (all : List (List (List Int))) (E S : Nat) (acc : List Bool) (e s : Int) (ranks : List Int) (choice : List Int) (reply : List (List Int)) (q : Nat) : Prop where
  lo : -1 ≤ ranks.getD q 0
  zero : ranks.getD q 0 = 0 ↔ acc.getD q false = true
  none1 : 0 ≤ ranks.getD q 0 → (reply.getD q []).length = 0
  none2 : ranks.getD q 0 ≤ 0 → choice.getD q 0 = 0
  pos : 0 < ranks.getD q 0 → ∃ k, k < S ∧ choice.getD q 0 = (moves s).getD k 0 ∧ ∀ i, i < E → 0 ≤ ranks.getD (to all q i k) 0 ∧ ranks.getD (to all q i k) 0 < ranks.getD q 0
  neg : ranks.getD q 0 < 0 → (reply.getD q []).length = S ∧ ∀ k, k < S → ∃ i, i < E ∧ (reply.getD q []).getD k 0 = (moves e).getD i 0 ∧ ranks.getD (to all q i k) 0 = -1
structure MKept (all : List (List (List Int))) (n E S : Nat) (acc : List Bool) (e s : Int) (wins : Bool) (ranks : List Int) (choice : List Int) (reply : List (List Int)) : Prop where
  rl : ranks.length = n
  cl : choice.length = n
  pl : reply.length = n
  wins : wins = decide (0 ≤ ranks.getD 0 0)
  st : ∀ q, q < n → MSt all E S acc e s ranks choice reply q

section
variable {N : Nat} {p : Int} {acc : List Bool} {gd : List Int} {nd : List Nd} {s : Int × Int} {ranks : List Int}

/-! ### the choice -/
theorem mchoice_l0_ok (hN : 5000 ≤ N) (V : Valid p acc gd nd) (hs : (p, s.1, s.2) ∈ splits) {q : Int} (h0 : 0 ≤ q) (h1 : q < acc.length) (hr : ranks.length = acc.length) : ∀ (m : Nat) (best : Int) (x : Int), 0 ≤ x → x ≤ (moves s.2).length → ((moves s.2).length : Int) - x < m →
    (∀ j : Nat, (j : Int) < x → ∀ w, moore_game_worst N (gm p acc gd nd s) ranks q ((moves s.2).getD j 0) = some w → 0 ≤ w → best ≤ w) → (best = acc.length ∨ ∃ j : Nat, (j : Int) < x ∧ moore_game_worst N (gm p acc gd nd s) ranks q ((moves s.2).getD j 0) = some best ∧ 0 ≤ best) →
    Ok (moore_game_choice_l0 N (gm p acc gd nd s) ranks q m best x) fun r => (∀ j, j < (moves s.2).length → ∀ w, moore_game_worst N (gm p acc gd nd s) ranks q ((moves s.2).getD j 0) = some w → 0 ≤ w → r ≤ w) ∧ (r = acc.length ∨ ∃ j, j < (moves s.2).length ∧ moore_game_worst N (gm p acc gd nd s) ranks q ((moves s.2).getD j 0) = some r ∧ 0 ≤ r)
  | 0, best, x, _, _, h, _, _ => by omega
  | m + 1, best, x, k0, k1, k2, k3, k4 => by
    have sl := split_le hs
    have ml := moves_len sl.2.2
    unfold moore_game_choice_l0
    have e0 : (gm p acc gd nd s).2.2.1 = moves s.2 := rfl
    rw [e0]
    refine Ok.ite (fun hx => ?_) fun hx => Ok.pure ⟨fun j hj => k3 j (by omega), k4.imp id fun ⟨j, a, b⟩ => ⟨j, by omega, b⟩⟩
    refine Ok.ask (by unfold idx; omega) ?_
    obtain ⟨w, e, hw⟩ := worst_ok hN V hs h0 h1 hr ((moves s.2).getD x.toNat 0)
    rw [e]
    simp only [Option.bind_some]
    refine Ok.ite (fun hw0 => ?_) fun hw0 => ?_
    · refine Ok.ask (by unfold in64; omega) ?_
      refine mchoice_l0_ok hN V hs h0 h1 hr m _ (x + 1) (by omega) (by omega) (by omega) (fun j hj w2 h2 h3 => ?_) ?_
      · rw [minL1]
        by_cases c : (j : Int) = x
        · have : j = x.toNat := by omega
          subst this
          rw [e] at h2
          have := Option.some.inj h2
          split <;> omega
        · have := k3 j (by omega) w2 h2 h3
          split <;> omega
      · rw [minL1]
        split
        · exact .inr ⟨x.toNat, by omega, e, hw0⟩
        · exact k4.imp id fun ⟨j, a, b⟩ => ⟨j, by omega, b⟩
    · refine Ok.ask (by unfold in64; omega) ?_
      refine mchoice_l0_ok hN V hs h0 h1 hr m _ (x + 1) (by omega) (by omega) (by omega) (fun j hj w2 h2 h3 => ?_) (k4.imp id fun ⟨j, a, b⟩ => ⟨j, by omega, b⟩)
      by_cases c : (j : Int) = x
      · have : j = x.toNat := by omega
        subst this
        rw [e] at h2
        have := Option.some.inj h2
        omega
      · exact k3 j (by omega) w2 h2 h3
theorem mchoice_l2_ok (hN : 5000 ≤ N) (V : Valid p acc gd nd) (hs : (p, s.1, s.2) ∈ splits) {q : Int} (h0 : 0 ≤ q) (h1 : q < acc.length) (hr : ranks.length = acc.length) {best : Int} : ∀ (m : Nat) (x : Int), 0 ≤ x → x ≤ (moves s.2).length → ((moves s.2).length : Int) - x < m →
    (∀ j : Nat, (j : Int) < x → moore_game_worst N (gm p acc gd nd s) ranks q ((moves s.2).getD j 0) ≠ some best) →
    Ok (moore_game_choice_l2 N (gm p acc gd nd s) ranks q best m x) fun r => (r = .inl () ∧ ∀ j, j < (moves s.2).length → moore_game_worst N (gm p acc gd nd s) ranks q ((moves s.2).getD j 0) ≠ some best) ∨ ∃ y, r = .inr y ∧ 0 ≤ y ∧ y < (moves s.2).length ∧ moore_game_worst N (gm p acc gd nd s) ranks q ((moves s.2).getD y.toNat 0) = some best
  | 0, x, _, _, h, _ => by omega
  | m + 1, x, k0, k1, k2, k3 => by
    have sl := split_le hs
    have ml := moves_len sl.2.2
    unfold moore_game_choice_l2 moore_game_choice_f3
    have e0 : (gm p acc gd nd s).2.2.1 = moves s.2 := rfl
    rw [e0]
    refine Ok.ite (fun hx => ?_) fun hx => Ok.pure (.inl ⟨rfl, fun j hj => k3 j (by omega)⟩)
    refine Ok.ask (by unfold idx; omega) ?_
    obtain ⟨w, e, hw⟩ := worst_ok hN V hs h0 h1 hr ((moves s.2).getD x.toNat 0)
    rw [e]
    simp only [Option.bind_some]
    refine Ok.ite (fun h => Ok.pure (.inr ⟨x, rfl, k0, hx, ?_⟩)) fun h => Ok.ask (by unfold in64; omega) ?_
    · rw [e]; congr 1; simpa using h
    · refine mchoice_l2_ok hN V hs h0 h1 hr m _ (by omega) (by omega) (by omega) fun j hj => ?_
      by_cases c : (j : Int) = x
      · have : j = x.toNat := by omega
        subst this
        rw [e]
        intro h2
        exact h (by simpa using Option.some.inj h2)
      · exact k3 j (by omega)
theorem mchoice_ok (hN : 5000 ≤ N) (V : Valid p acc gd nd) (hs : (p, s.1, s.2) ∈ splits) (R : MRanked (allS nd gd s.1 s.2 acc.length) acc.length (moves s.1).length (moves s.2).length acc ranks) {q : Nat} (hq : q < acc.length) (hp : 0 < ranks.getD q 0) :
    Ok (moore_game_choice N (gm p acc gd nd s) ranks (q : Int)) fun c => ∃ k, k < (moves s.2).length ∧ c = (moves s.2).getD k 0 ∧ ∀ i, i < (moves s.1).length → 0 ≤ ranks.getD (to (allS nd gd s.1 s.2 acc.length) q i k) 0 ∧ ranks.getD (to (allS nd gd s.1 s.2 acc.length) q i k) 0 < ranks.getD q 0 := by
  have sl := split_le hs
  have ml := moves_len sl.2.2
  have ml1 := moves_len sl.2.1
  have hr := R.len
  have h1 : (q : Int) < acc.length := by omega
  unfold moore_game_choice
  refine (mchoice_l0_ok hN V hs (Int.natCast_nonneg q) h1 hr N (ranks.length : Int) 0 (by omega) (by omega) (by omega) (fun j h => by omega) (.inl (by omega))).bind fun b ⟨b1, b2⟩ => ?_
  obtain ⟨k, hk, hkr⟩ := R.pos q hq hp
  obtain ⟨w, e, hw⟩ := worst_ok hN V hs (Int.natCast_nonneg q) h1 hr ((moves s.2).getD k 0)
  have hw2 : 0 ≤ w ∧ w < ranks.getD q 0 := by
    rcases hw with ⟨_, j, hj, h2⟩ | ⟨h2, _, j, hj, h3⟩
    · rw [dst_to hq hj hk] at h2
      have := hkr j hj; omega
    · rw [dst_to hq hj hk] at h3
      have := hkr j hj; omega
  have hb := b1 k hk w e hw2.1
  have hlo := R.lo q hq
  rcases b2 with b2 | ⟨j, hj, ej, hb0⟩
  · omega
  unfold moore_game_choice_f1
  obtain ⟨r, e2, hr2⟩ := mchoice_l2_ok hN V hs (Int.natCast_nonneg q) h1 hr (best := b) N 0 (by omega) (by omega) (by omega) fun j h => by omega
  rw [e2]
  simp only [Option.bind_some]
  rcases hr2 with ⟨rfl, h2⟩ | ⟨y, rfl, y0, y1, y2⟩
  · exact absurd ej (h2 j hj)
  simp only [Sum.elim_inr, Option.bind_some]
  have e0 : (gm p acc gd nd s).2.2.1 = moves s.2 := rfl
  rw [e0]
  refine Ok.ask (by unfold idx; omega) (Ok.pure ⟨y.toNat, by omega, rfl, fun i hi => ?_⟩)
  obtain ⟨w3, e3, hw3⟩ := worst_ok hN V hs (Int.natCast_nonneg q) h1 hr ((moves s.2).getD y.toNat 0)
  rw [y2] at e3
  have := Option.some.inj e3
  subst this
  rcases hw3 with ⟨h4, _⟩ | ⟨_, h4, _⟩
  · omega
  · have := h4 i hi
    rw [dst_to hq hi (by omega)] at this
    omega

/-! ### the replies -/
theorem mreply_l2_ok (hN : 5000 ≤ N) (V : Valid p acc gd nd) (hs : (p, s.1, s.2) ∈ splits) {q : Int} (h0 : 0 ≤ q) (h1 : q < acc.length) (hr : ranks.length = acc.length) {y : Int} : ∀ (m : Nat) (x : Int), 0 ≤ x → x ≤ (moves s.1).length → ((moves s.1).length : Int) - x < m →
    (∀ j : Nat, (j : Int) < x → ¬ ranks.getD (dst nd gd s q ((moves s.2).getD y.toNat 0) j) 0 < 0) →
    Ok (moore_game_reply_l2 N (gm p acc gd nd s) ranks q y m x) fun r => (r = .inl () ∧ ∀ j, j < (moves s.1).length → ¬ ranks.getD (dst nd gd s q ((moves s.2).getD y.toNat 0) j) 0 < 0) ∨ ∃ z, r = .inr z ∧ 0 ≤ z ∧ z < (moves s.1).length ∧ ranks.getD (dst nd gd s q ((moves s.2).getD y.toNat 0) z.toNat) 0 < 0
  | 0, x, _, _, h, _ => by omega
  | m + 1, x, k0, k1, k2, k3 => by
    have sl := split_le hs
    have ml := moves_len sl.2.1
    unfold moore_game_reply_l2 moore_game_reply_f3
    have e0 : (gm p acc gd nd s).2.2.2 = moves s.1 := rfl
    have e1 : (gm p acc gd nd s).2.2.1 = moves s.2 := rfl
    rw [e0, e1]
    refine Ok.ite (fun hx => ?_) fun hx => Ok.pure (.inl ⟨rfl, fun j hj => k3 j (by omega)⟩)
    refine Ok.ask (by unfold idx; omega) ?_
    obtain ⟨t1, t2, t3⟩ := mto_ok (N := N) (s := s) hN V h0 h1 (orV .u8 ((moves s.2).getD y.toNat 0) ((moves s.1).getD x.toNat 0))
    rw [t1]
    simp only [Option.bind_some]
    unfold ask
    rw [if_pos (by unfold idx; omega)]
    simp only [Option.bind_some]
    rw [show (go nd (gd.getD q.toNat 0) (orV .u8 ((moves s.2).getD y.toNat 0) ((moves s.1).getD x.toNat 0))).toNat = dst nd gd s q ((moves s.2).getD y.toNat 0) x.toNat from rfl]
    refine Ok.ite (fun h => Ok.pure (.inr ⟨x, rfl, k0, hx, of_decide_eq_true h⟩)) fun h => ?_
    rw [if_pos (by unfold in64; omega)]
    refine mreply_l2_ok hN V hs h0 h1 hr m _ (by omega) (by omega) (by omega) fun j hj => ?_
    by_cases c : (j : Int) = x
    · have : j = x.toNat := by omega
      subst this
      exact fun h2 => h (decide_eq_true h2)
    · exact k3 j (by omega)
theorem mreply_l0_ok (hN : 5000 ≤ N) (V : Valid p acc gd nd) (hs : (p, s.1, s.2) ∈ splits) (R : MRanked (allS nd gd s.1 s.2 acc.length) acc.length (moves s.1).length (moves s.2).length acc ranks) {q : Nat} (hq : q < acc.length) (hp : ranks.getD q 0 = -1) : ∀ (m : Nat) (out : List Int) (x : Int), 0 ≤ x → x ≤ (moves s.2).length → ((moves s.2).length : Int) - x < m → out.length = x →
    (∀ k : Nat, (k : Int) < x → ∃ i, i < (moves s.1).length ∧ out.getD k 0 = (moves s.1).getD i 0 ∧ ranks.getD (to (allS nd gd s.1 s.2 acc.length) q i k) 0 = -1) →
    Ok (moore_game_reply_l0 N (gm p acc gd nd s) ranks (q : Int) m out x) fun r => r.length = (moves s.2).length ∧ ∀ k, k < (moves s.2).length → ∃ i, i < (moves s.1).length ∧ r.getD k 0 = (moves s.1).getD i 0 ∧ ranks.getD (to (allS nd gd s.1 s.2 acc.length) q i k) 0 = -1
  | 0, out, x, _, _, h, _, _ => by omega
  | m + 1, out, x, k0, k1, k2, k3, k4 => by
    have sl := split_le hs
    have ml := moves_len sl.2.2
    have ml1 := moves_len sl.2.1
    have hr := R.len
    have G := allS_game (N := N) hN V hs
    unfold moore_game_reply_l0 moore_game_reply_f1
    have e0 : (gm p acc gd nd s).2.2.1 = moves s.2 := rfl
    have e1 : (gm p acc gd nd s).2.2.2 = moves s.1 := rfl
    rw [e0, e1]
    refine Ok.ite (fun hx => ?_) fun hx => Ok.pure ⟨by omega, fun j hj => k4 j (by omega)⟩
    refine Ok.ask (by unfold idx; omega) ?_
    obtain ⟨r, e2, hr2⟩ := mreply_l2_ok hN V hs (Int.natCast_nonneg q) (show (q : Int) < acc.length by omega) hr (y := x) N 0 (by omega) (by omega) (by omega) fun j h => by omega
    rw [e2]
    simp only [Option.bind_some]
    obtain ⟨i, hi, hin⟩ := R.neg q hq hp x.toNat (by omega)
    rcases hr2 with ⟨rfl, h2⟩ | ⟨z, rfl, z0, z1, z2⟩
    · exact absurd (by rw [dst_to hq hi (by omega), hin]; decide) (h2 i hi)
    simp only [Sum.elim_inr, Option.bind_some]
    refine Ok.ask (by unfold idx; omega) (Ok.ask (by simp; omega) (Ok.ask (by unfold in64; omega) ?_))
    refine mreply_l0_ok hN V hs R hq hp m _ (x + 1) (by omega) (by omega) (by omega) (by simp; omega) fun k hk => ?_
    rw [snoc_getD]
    by_cases c : k = out.length
    · rw [if_pos c]
      have : k = x.toNat := by omega
      subst this
      refine ⟨z.toNat, by omega, rfl, ?_⟩
      rw [dst_to hq (by omega) (by omega)] at z2
      have hlt := G.to_lt (q := q) (i := z.toNat) (k := x.toNat) hq (by omega) (by omega)
      rcases R.lo _ hlt with h5 | h5
      · exact h5
      · omega
    · rw [if_neg c]
      exact k4 k (by omega)

/-! ### the strategy -/
structure Made1 (all : List (List (List Int))) (E S : Nat) (e s : Int) (ranks : List Int) (q : Nat) (c : Int) (rp : List Int) : Prop where
  none1 : 0 ≤ ranks.getD q 0 → rp = []
  none2 : ranks.getD q 0 ≤ 0 → c = 0
  pos : 0 < ranks.getD q 0 → ∃ k, k < S ∧ c = (moves s).getD k 0 ∧ ∀ i, i < E → 0 ≤ ranks.getD (to all q i k) 0 ∧ ranks.getD (to all q i k) 0 < ranks.getD q 0
  neg : ranks.getD q 0 < 0 → rp.length = S ∧ ∀ k, k < S → ∃ i, i < E ∧ rp.getD k 0 = (moves e).getD i 0 ∧ ranks.getD (to all q i k) 0 = -1
theorem mOf_l0_ok (hN : 5000 ≤ N) (V : Valid p acc gd nd) (hs : (p, s.1, s.2) ∈ splits) (R : MRanked (allS nd gd s.1 s.2 acc.length) acc.length (moves s.1).length (moves s.2).length acc ranks) : ∀ (m : Nat) (ch : List Int) (rp : List (List Int)) (x : Int), 0 ≤ x → x ≤ acc.length → (acc.length : Int) - x < m → ch.length = acc.length → rp.length = acc.length →
    (∀ j : Nat, (j : Int) < x → Made1 (allS nd gd s.1 s.2 acc.length) (moves s.1).length (moves s.2).length s.1 s.2 ranks j (ch.getD j 0) (rp.getD j [])) → (∀ j : Nat, x ≤ j → ch.getD j 0 = 0 ∧ rp.getD j [] = []) →
    Ok (moore_Of_l0 N (gm p acc gd nd s, 0) ranks m ch rp x) fun r => r.1.length = acc.length ∧ r.2.length = acc.length ∧ ∀ j, j < acc.length → Made1 (allS nd gd s.1 s.2 acc.length) (moves s.1).length (moves s.2).length s.1 s.2 ranks j (r.1.getD j 0) (r.2.getD j [])
  | 0, ch, rp, x, _, _, h, _, _, _, _ => by omega
  | m + 1, ch, rp, x, k0, k1, k2, k3, k4, k5, k6 => by
    have a2 := V.a2
    have hr := R.len
    unfold moore_Of_l0
    rw [hr]
    refine Ok.ite (fun hx => ?_) fun hx => Ok.pure ⟨k3, k4, fun j hj => k5 j (by omega)⟩
    obtain ⟨a, rfl⟩ := Int.eq_ofNat_of_zero_le k0
    rw [Int.toNat_natCast]
    refine Ok.ask (by unfold idx; omega) ?_
    have ha : a < acc.length := by omega
    have h6 := k6 a (by omega)
    refine Ok.ite (fun hp => ?_) fun hp => ?_
    · refine (mchoice_ok hN V hs R ha hp).bind fun c hc => ?_
      refine Ok.ask (by unfold idx; omega) (Ok.ask (by unfold in64; omega) ?_)
      refine mOf_l0_ok hN V hs R m _ _ ((a : Int) + 1) (by omega) (by omega) (by omega) (by simpa using k3) k4 (fun j hj => ?_) fun j hj => ?_
      · rw [getD_set (by omega)]
        by_cases e : a = j
        · subst e
          rw [if_pos rfl]
          exact ⟨fun _ => h6.2, fun h => by omega, fun _ => hc, fun h => by omega⟩
        · rw [if_neg e]; exact k5 j (by omega)
      · rw [getD_set (by omega), if_neg (by omega)]; exact k6 j (by omega)
    · refine Ok.ite (fun hn => ?_) fun hn => ?_
      · have hm1 : ranks.getD a 0 = -1 := by rcases R.lo a ha with h | h <;> omega
        unfold moore_game_reply
        refine ((mreply_l0_ok hN V hs R ha hm1 N [] 0 (by omega) (by omega) (by have := (moves_len (split_le hs).2.2); omega) rfl fun k h => by omega).bind fun x hx => Ok.pure hx).bind fun r ⟨r1, r2⟩ => ?_
        refine Ok.ask (by unfold idx; omega) (Ok.ask (by unfold in64; omega) ?_)
        refine mOf_l0_ok hN V hs R m _ _ ((a : Int) + 1) (by omega) (by omega) (by omega) k3 (by simpa using k4) (fun j hj => ?_) fun j hj => ?_
        · rw [getD_set (by omega)]
          by_cases e : a = j
          · subst e
            rw [if_pos rfl]
            exact ⟨fun h => by omega, fun _ => h6.1, fun h => by omega, fun _ => ⟨r1, r2⟩⟩
          · rw [if_neg e]; exact k5 j (by omega)
        · rw [getD_set (by omega), if_neg (by omega)]; exact k6 j (by omega)
      · refine Ok.ask (by unfold in64; omega) ?_
        refine mOf_l0_ok hN V hs R m _ _ ((a : Int) + 1) (by omega) (by omega) (by omega) k3 k4 (fun j hj => ?_) fun j hj => k6 j (by omega)
        by_cases e : a = j
        · subst e
          exact ⟨fun h => h6.2, fun _ => h6.1, fun h => by omega, fun h => by omega⟩
        · exact k5 j (by omega)
theorem mOf_ok (hN : 5000 ≤ N) (V : Valid p acc gd nd) (hB : board_Check N p acc gd nd s = some 0) (hs : (p, s.1, s.2) ∈ splits) :
    Ok (moore_Of N p acc gd nd s) fun r => r.2 = 0 ∧ MKept (allS nd gd s.1 s.2 acc.length) acc.length (moves s.1).length (moves s.2).length acc s.1 s.2 r.1.1 r.1.2.1 r.1.2.2.1 r.1.2.2.2 := by
  have a1 := V.a1
  have a2 := V.a2
  unfold moore_Of
  rw [show (s.1, s.2) = s from rfl, begun_eq hN hB hs]
  simp only [Option.bind_some, Sum.elim_inr]
  rw [if_pos trivial]
  refine (mranks_ok hN V hs).bind fun ranks R => ?_
  have hr := R.len
  refine Ok.ask (by omega) (Ok.ask (by unfold idx; omega) ?_)
  refine (mOf_l0_ok hN V hs R N _ _ 0 (by omega) (by omega) (by omega) (by simp) (by simp) (fun j h => by omega) fun j _ => ⟨getD_rep, getD_rep⟩).bind fun r ⟨r1, r2, r3⟩ => ?_
  refine Ok.pure ⟨rfl, hr, r1, r2, rfl, fun q hq => ?_⟩
  have M := r3 q hq
  exact ⟨by show -1 ≤ ranks.getD q 0; rcases R.lo q hq with h | h <;> omega, R.zero q hq, fun h => by rw [M.none1 h]; rfl, M.none2, M.pos, M.neg⟩
theorem mOf_no {e : Int} (hB : board_Check N p acc gd nd s = some e) (he : e ≠ 0) : moore_Of N p acc gd nd s = some ((false, [], [], []), e) := by
  unfold moore_Of
  rw [show (s.1, s.2) = s from rfl, begun_no hB he]
  simp only [Option.bind_some, Sum.elim_inl]
  rw [if_neg he]

/-! ### it keeps what it says -/
theorem mkeeps_l1 {g : GT} {xr : List Int} {xp : List (List Int)} {q : Int} : ∀ (m : Nat) (x : Int), moore_game_keeps_l1 N g xr xp q m x = moore_game_keeps_l0 N g xr xp q m x
  | 0, _ => rfl
  | m + 1, x => by unfold moore_game_keeps_l1 moore_game_keeps_l0; simp only [mkeeps_l1 m]
theorem mkeeps_l2 {g : GT} {xr : List Int} {xp : List (List Int)} {q : Int} : ∀ (m : Nat) (x : Int), moore_game_keeps_l2 N g xr xp q m x = moore_game_keeps_l0 N g xr xp q m x
  | 0, _ => rfl
  | m + 1, x => by unfold moore_game_keeps_l2 moore_game_keeps_l0; simp only [mkeeps_l2 m]
theorem mkeeps_l3 {g : GT} {xr : List Int} {xp : List (List Int)} {q : Int} : ∀ (m : Nat) (x : Int), moore_game_keeps_l3 N g xr xp q m x = moore_game_keeps_l0 N g xr xp q m x
  | 0, _ => rfl
  | m + 1, x => by unfold moore_game_keeps_l3 moore_game_keeps_l0; simp only [mkeeps_l3 m]
section
variable {wins : Bool} {choice : List Int} {reply : List (List Int)}
theorem mkeeps_l0_ok (hN : 5000 ≤ N) (V : Valid p acc gd nd) (hs : (p, s.1, s.2) ∈ splits) (hr : ranks.length = acc.length) {q : Nat} (hq : q < acc.length) (hl : (reply.getD q []).length = (moves s.2).length) (hk : ∀ k, k < (moves s.2).length → ∃ i, i < (moves s.1).length ∧ (reply.getD q []).getD k 0 = (moves s.1).getD i 0 ∧ ranks.getD (to (allS nd gd s.1 s.2 acc.length) q i k) 0 = -1) : ∀ (m : Nat) (x : Int), 0 ≤ x → x ≤ (moves s.2).length → ((moves s.2).length : Int) - x < m →
    moore_game_keeps_l0 N (gm p acc gd nd s) ranks reply (q : Int) m x = some (.inl ())
  | 0, x, _, _, h => by omega
  | m + 1, x, k0, k1, k2 => by
    have sl := split_le hs
    have ml := moves_len sl.2.2
    unfold moore_game_keeps_l0
    have e1 : (gm p acc gd nd s).2.2.1 = moves s.2 := rfl
    have e2 : (gm p acc gd nd s).2.1.1 = s.1 := rfl
    rw [e1, e2]
    by_cases hx : x < ((moves s.2).length : Int)
    · obtain ⟨i, hi, h3, h4⟩ := hk x.toNat (by omega)
      have hlt := (mto_ok (N := N) (s := s) hN V (Int.natCast_nonneg q) (show (q : Int) < acc.length by omega) (orV .u8 ((moves s.2).getD x.toNat 0) ((moves s.1).getD i 0)))
      rw [if_pos hx, Int.toNat_natCast, h3]
      unfold ask
      rw [if_pos (by unfold idx; omega), if_pos (by unfold idx; omega), if_pos (moves_in' sl.2.1 hi), hlt.1]
      simp only [Option.bind_some]
      rw [if_pos (by have := hlt.2; unfold idx; omega)]
      rw [show (go nd (gd.getD (q : Int).toNat 0) (orV .u8 ((moves s.2).getD x.toNat 0) ((moves s.1).getD i 0))).toNat = dst nd gd s (q : Int) ((moves s.2).getD x.toNat 0) i from rfl, dst_to hq hi (by omega), if_pos h4, if_pos (by unfold in64; omega)]
      exact mkeeps_l0_ok hN V hs hr hq hl hk m _ (by omega) (by omega) (by omega)
    · rw [if_neg hx]
theorem mkeeps_ok (hN : 5000 ≤ N) (V : Valid p acc gd nd) (hs : (p, s.1, s.2) ∈ splits) (K : MKept (allS nd gd s.1 s.2 acc.length) acc.length (moves s.1).length (moves s.2).length acc s.1 s.2 wins ranks choice reply) {q : Nat} (hq : q < acc.length) :
    moore_game_keeps N (gm p acc gd nd s) wins ranks choice reply (q : Int) = some true := by
  have sl := split_le hs
  have ml := moves_len sl.2.2
  have rl := K.rl
  have cl := K.cl
  have pl := K.pl
  have st := K.st q hq
  have e1 : (gm p acc gd nd s).1.2.1 = acc := rfl
  have e2 : (gm p acc gd nd s).2.1.2 = s.2 := rfl
  have e3 : (gm p acc gd nd s).2.2.1 = moves s.2 := rfl
  have hz : (((ranks.getD q 0 : Int) == 0) = acc.getD q false) := by
    have := st.zero
    cases h : acc.getD q false with
    | true => simpa using this.2 h
    | false =>
      have hn : ¬ ranks.getD q 0 = 0 := fun h2 => by rw [this.1 h2] at h; cases h
      simpa using hn
  unfold moore_game_keeps
  rw [e1, e2, e3, Int.toNat_natCast]
  unfold ask
  rw [if_pos (by unfold idx; omega), if_pos (by unfold idx; omega), if_pos hz, if_neg (by have := st.lo; omega)]
  have i1 : idx (q : Int) reply.length := by unfold idx; omega
  have i2 : idx (q : Int) choice.length := by unfold idx; omega
  rcases Int.lt_trichotomy (ranks.getD q 0) 0 with h | h | h
  · obtain ⟨n1, n2⟩ := st.neg h
    rw [if_neg (by omega), if_pos (by omega), if_pos i2, if_pos (st.none2 (by omega)), if_neg (by omega), if_pos h, if_pos i1, if_pos (by omega), mkeeps_l2, mkeeps_l0_ok hN V hs rl hq n1 n2 N 0 (by omega) (by omega) (by omega)]
    rfl
  · rw [if_pos (by omega), if_pos i1, if_pos (by have := st.none1 (by omega); omega), if_pos (by omega), if_pos i2, if_pos (st.none2 (by omega)), if_neg (by omega), if_neg (by omega)]
  · obtain ⟨k, hk, hc, hw⟩ := st.pos h
    obtain ⟨w, e, hw2⟩ := worst_ok hN V hs (Int.natCast_nonneg q) (show (q : Int) < acc.length by omega) rl ((moves s.2).getD k 0)
    have hw3 : 0 ≤ w ∧ w < ranks.getD q 0 := by
      rcases hw2 with ⟨_, j, hj, h2⟩ | ⟨h2, _, j, hj, h3⟩
      · rw [dst_to hq hj hk] at h2
        have := hw j hj; omega
      · rw [dst_to hq hj hk] at h3
        have := hw j hj; omega
    rw [if_pos (by omega), if_pos i1, if_pos (by have := st.none1 (by omega); omega), if_neg (by omega), if_pos h, if_pos i2, hc, if_pos (moves_in' sl.2.2 hk), e]
    simp only [Option.bind_some]
    rw [if_pos hw3.1, decide_eq_true hw3.2]
theorem mall_l0_ok (hN : 5000 ≤ N) (V : Valid p acc gd nd) (hs : (p, s.1, s.2) ∈ splits) (K : MKept (allS nd gd s.1 s.2 acc.length) acc.length (moves s.1).length (moves s.2).length acc s.1 s.2 wins ranks choice reply) : ∀ (m : Nat) (x : Int), 0 ≤ x → x ≤ acc.length → (acc.length : Int) - x < m →
    moore_game_all_l0 N (gm p acc gd nd s) wins ranks choice reply m x = some (.inl ())
  | 0, x, _, _, h => by omega
  | m + 1, x, k0, k1, k2 => by
    have a2 := V.a2
    unfold moore_game_all_l0
    have e1 : (gm p acc gd nd s).1.2.1 = acc := rfl
    rw [e1]
    obtain ⟨a, rfl⟩ := Int.eq_ofNat_of_zero_le k0
    by_cases hx : (a : Int) < (acc.length : Int)
    · have ih := mall_l0_ok hN V hs K m ((a : Int) + 1) (by omega) (by omega) (by omega)
      have hk := mkeeps_ok hN V hs K (q := a) (by omega)
      rw [if_pos hx, hk]
      rw [Option.bind_some, if_pos rfl, ih]
      unfold ask
      rw [if_pos (by unfold in64; omega)]
    · rw [if_neg hx]
theorem mall_ok (hN : 5000 ≤ N) (V : Valid p acc gd nd) (hs : (p, s.1, s.2) ∈ splits) (K : MKept (allS nd gd s.1 s.2 acc.length) acc.length (moves s.1).length (moves s.2).length acc s.1 s.2 wins ranks choice reply) :
    moore_game_all N (gm p acc gd nd s) wins ranks choice reply = some true := by
  have a1 := V.a1
  have a2 := V.a2
  have rl := K.rl
  have cl := K.cl
  have pl := K.pl
  unfold moore_game_all
  have e1 : (gm p acc gd nd s).1.2.1 = acc := rfl
  have e0 : (Int.toNat (0 : Int)) = 0 := rfl
  rw [e1, if_pos (by omega), if_pos (by omega), if_pos (by omega)]
  unfold ask
  rw [if_pos (by unfold idx; omega), e0, if_pos K.wins, mall_l0_ok hN V hs K N 0 (by omega) (by omega) (by omega)]
  rfl
theorem mCheck_ok (hN : 5000 ≤ N) (V : Valid p acc gd nd) (hB : board_Check N p acc gd nd s = some 0) (hs : (p, s.1, s.2) ∈ splits) (K : MKept (allS nd gd s.1 s.2 acc.length) acc.length (moves s.1).length (moves s.2).length acc s.1 s.2 wins ranks choice reply) :
    moore_Check N p acc gd nd s wins ranks choice reply = some (true, 0) := by
  unfold moore_Check
  rw [show (s.1, s.2) = s from rfl, begun_eq hN hB hs]
  simp only [Option.bind_some, Sum.elim_inr]
  rw [if_pos trivial, mall_ok hN V hs K]
  rfl
end
end
end Go.V
