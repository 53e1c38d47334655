/- Plain theory: the ranks are what they should be. No program. -/
import Derived.Test.YtflangjkfaalkaaPA
set_option linter.all false
set_option linter.unusedVariables false
namespace Go.V
open Go

def cnt : List Int → Nat
  | [] => 0
  | x :: xs => (if 0 ≤ x then 1 else 0) + cnt xs
theorem cnt_le : ∀ (xs : List Int), cnt xs ≤ xs.length
  | [] => Nat.le_refl _
  | x :: xs => by have := cnt_le xs; unfold cnt; simp only [List.length_cons]; split <;> omega
theorem cnt_mono : ∀ (xs ys : List Int), xs.length = ys.length → (∀ i : Nat, i < xs.length → 0 ≤ xs.getD i 0 → 0 ≤ ys.getD i 0) → cnt xs ≤ cnt ys
  | [], [], _, _ => Nat.le_refl _
  | [], y :: ys, h, _ => by simp at h
  | x :: xs, [], h, _ => by simp at h
  | x :: xs, y :: ys, h, hi => by
    have h1 := cnt_mono xs ys (by simpa using h) fun i h1 h2 => by have := hi (i + 1) (by simpa using h1); simpa using this (by simpa using h2)
    have h2 := hi 0 (by simp)
    simp at h2
    unfold cnt
    split <;> split <;> omega
theorem cnt_lt : ∀ (xs ys : List Int), xs.length = ys.length → (∀ i : Nat, i < xs.length → 0 ≤ xs.getD i 0 → 0 ≤ ys.getD i 0) → (j : Nat) → j < xs.length → xs.getD j 0 < 0 → 0 ≤ ys.getD j 0 → cnt xs + 1 ≤ cnt ys
  | [], ys, _, _, j, h, _, _ => by simp at h
  | x :: xs, [], h, _, _, _, _, _ => by simp at h
  | x :: xs, y :: ys, h, hi, 0, _, h3, h4 => by
    have h1 := cnt_mono xs ys (by simpa using h) fun i h1 h2 => by have := hi (i + 1) (by simpa using h1); simpa using this (by simpa using h2)
    simp at h3 h4
    unfold cnt
    rw [if_neg (by omega), if_pos h4]
    omega
  | x :: xs, y :: ys, h, hi, j + 1, hj, h3, h4 => by
    have h1 := cnt_lt xs ys (by simpa using h) (fun i h1 h2 => by have := hi (i + 1) (by simpa using h1); simpa using this (by simpa using h2)) j (by simpa using hj) (by simpa using h3) (by simpa using h4)
    have h2 := hi 0 (by simp)
    simp at h2
    unfold cnt
    split <;> split <;> omega

def to (all : List (List (List Int))) (q i k : Nat) : Nat := (((all.getD q []).getD i []).getD k 0).toNat
theorem Game.to_lt {all : List (List (List Int))} {n E S q i k : Nat} (G : Game all n E S) (hq : q < n) (hi : i < E) (hk : k < S) : to all q i k < n := by
  have := G.into q i k hq hi hk
  unfold to
  omega

/-- what ranks say -/
structure Ranked (all : List (List (List Int))) (n E S : Nat) (acc : List Bool) (out : List Int) : Prop where
  len : out.length = n
  lo : ∀ q, q < n → out.getD q 0 = -1 ∨ (0 ≤ out.getD q 0 ∧ out.getD q 0 < n)
  zero : ∀ q, q < n → (out.getD q 0 = 0 ↔ acc.getD q false = true)
  pos : ∀ q, q < n → 0 < out.getD q 0 → ∀ i, i < E → ∃ k, k < S ∧ 0 ≤ out.getD (to all q i k) 0 ∧ out.getD (to all q i k) 0 < out.getD q 0
  neg : ∀ q, q < n → out.getD q 0 = -1 → ∃ i, i < E ∧ ∀ k, k < S → out.getD (to all q i k) 0 = -1
  ex : ∀ q, q < n → 0 < out.getD q 0 → ∃ i, i < E ∧ ∀ k, k < S → 0 ≤ out.getD (to all q i k) 0 → out.getD q 0 - 1 ≤ out.getD (to all q i k) 0

section
variable {N n E S : Nat} {all : List (List (List Int))} {acc : List Bool}
theorem Ranks_l0_ok (hN : 5000 ≤ N) (hn : n ≤ 256) (ha : acc.length = n) : ∀ (m : Nat) (out : List Int) (x : Int), 0 ≤ x → x ≤ n → (n : Int) - x < m → out.length = n → (∀ j : Nat, (j : Int) < x → out.getD j 0 = if acc.getD j false = true then 0 else -1) → (∀ j : Nat, x ≤ j → out.getD j 0 = 0) →
    Ok (attract_Ranks_l0 N acc m out x) fun r => r.length = n ∧ ∀ j, j < n → r.getD j 0 = if acc.getD j false = true then 0 else -1
  | 0, out, x, _, _, h, _, _, _ => by omega
  | m + 1, out, x, k0, k1, k2, k3, k4, k5 => by
    unfold attract_Ranks_l0
    rw [ha]
    refine Ok.ite (fun hx => ?_) fun hx => Ok.pure ⟨k3, fun j hj => k4 j (by omega)⟩
    refine Ok.ask (by unfold idx; omega) ?_
    refine Ok.ite (fun h => ?_) fun h => ?_
    · refine Ok.ask (by unfold in64; omega) ?_
      refine Ranks_l0_ok hN hn ha m _ _ (by omega) (by omega) (by omega) k3 (fun j hj => ?_) fun j hj => k5 j (by omega)
      rcases Int.lt_or_eq_of_le (show (j : Int) ≤ x by omega) with h3 | h3
      · exact k4 j h3
      · rw [k5 j (by omega), if_pos (by rw [← h]; congr 1; omega)]
    · refine Ok.ask (by unfold idx; omega) (Ok.ask (by unfold in64; omega) ?_)
      refine Ranks_l0_ok hN hn ha m _ _ (by omega) (by omega) (by omega) (by simpa using k3) (fun j hj => ?_) fun j hj => ?_
      · rw [getD_set (by omega)]
        by_cases e : x.toNat = j
        · rw [if_pos e, if_neg (by rw [← e]; exact h)]
        · rw [if_neg e]; exact k4 j (by omega)
      · rw [getD_set (by omega), if_neg (by omega)]; exact k5 j (by omega)

theorem Ranks_l2_ok (hN : 5000 ≤ N) (hn : n ≤ 256) {rank : Int} {is : List Bool} (hi : is.length = n) : ∀ (m : Nat) (out : List Int) (more : Bool) (x : Int), 0 ≤ x → x ≤ n → (n : Int) - x < m → out.length = n →
    Ok (attract_Ranks_l2 N rank is m out more x) fun r => r.1.length = n ∧ (∀ j : Nat, j < n → r.1.getD j 0 = if x ≤ j ∧ is.getD j false = true ∧ out.getD j 0 < 0 then rank else out.getD j 0) ∧ (r.2 = true ↔ more = true ∨ ∃ j : Nat, x ≤ j ∧ j < n ∧ is.getD j false = true ∧ out.getD j 0 < 0)
  | 0, out, more, x, _, _, h, _ => by omega
  | m + 1, out, more, x, k0, k1, k2, k3 => by
    unfold attract_Ranks_l2
    rw [hi]
    refine Ok.ite (fun hx => ?_) fun hx => Ok.pure ⟨k3, fun j hj => (if_neg (by omega)).symm, ⟨.inl, fun h => h.elim id fun ⟨j, h1, h2, _⟩ => by omega⟩⟩
    have e : x = ((x.toNat : Nat) : Int) := by omega
    refine Ok.ask (by unfold idx; omega) ?_
    have skip : ¬ (is.getD x.toNat false = true ∧ out.getD x.toNat 0 < 0) → Ok (ask (in64 (x + 1)) <| attract_Ranks_l2 N rank is m out more (x + 1)) fun r => r.1.length = n ∧ (∀ j : Nat, j < n → r.1.getD j 0 = if x ≤ j ∧ is.getD j false = true ∧ out.getD j 0 < 0 then rank else out.getD j 0) ∧ (r.2 = true ↔ more = true ∨ ∃ j : Nat, x ≤ j ∧ j < n ∧ is.getD j false = true ∧ out.getD j 0 < 0) := fun hno => by
      refine Ok.ask (by unfold in64; omega) ?_
      refine (Ranks_l2_ok hN hn hi m out more (x + 1) (by omega) (by omega) (by omega) k3).mono fun r ⟨h1, h2, h3⟩ => ⟨h1, fun j hj => ?_, ?_⟩
      · rw [h2 j hj]
        by_cases c : x + 1 ≤ (j : Int)
        · simp only [c, show x ≤ (j : Int) by omega, true_and]
        · rw [if_neg (by omega)]
          by_cases c2 : x ≤ (j : Int)
          · have : j = x.toNat := by omega
            subst this
            rw [if_neg fun h => hno h.2]
          · rw [if_neg (by omega)]
      · rw [h3]
        refine or_congr Iff.rfl ⟨fun ⟨j, a1, a2⟩ => ⟨j, by omega, a2⟩, fun ⟨j, a1, a2, a3⟩ => ?_⟩
        by_cases c : x + 1 ≤ (j : Int)
        · exact ⟨j, c, a2, a3⟩
        · have : j = x.toNat := by omega
          subst this
          exact absurd a3 hno
    refine Ok.ite (fun h => ?_) fun h => skip fun hh => h hh.1
    refine Ok.ask (by unfold idx; omega) ?_
    refine Ok.ite (fun h2 => ?_) fun h2 => skip fun hh => h2 hh.2
    refine Ok.ask (by unfold in64; omega) ?_
    refine (Ranks_l2_ok hN hn hi m (out.set x.toNat rank) true (x + 1) (by omega) (by omega) (by omega) (by simpa using k3)).mono fun r ⟨h3, h4, h5⟩ => ⟨h3, fun j hj => ?_, ?_⟩
    · rw [h4 j hj, getD_set (by omega)]
      by_cases c : x.toNat = j
      · subst c
        rw [if_neg (by omega), if_pos rfl, if_pos ⟨by omega, h, h2⟩]
      · rw [if_neg c]
        by_cases c2 : x + 1 ≤ (j : Int)
        · simp only [c2, show x ≤ (j : Int) by omega, true_and]
        · rw [if_neg (by omega), if_neg (by omega)]
    · exact ⟨fun _ => .inr ⟨x.toNat, by omega, by omega, h, h2⟩, fun _ => h5.2 (.inl rfl)⟩

theorem Ranks_l3_ok (hN : 5000 ≤ N) (hn : n ≤ 256) {x312 : List Int × Bool} (hi : x312.1.length = n) : ∀ (m : Nat) (won : List Bool) (x : Int), 0 ≤ x → x ≤ n → (n : Int) - x < m → won.length = n → (∀ j : Nat, (j : Int) < x → won.getD j false = decide (0 ≤ x312.1.getD j 0)) →
    Ok (attract_Ranks_l3 N x312 m won x) fun r => r.length = n ∧ ∀ j : Nat, j < n → r.getD j false = decide (0 ≤ x312.1.getD j 0)
  | 0, won, x, _, _, h, _, _ => by omega
  | m + 1, won, x, k0, k1, k2, k3, k4 => by
    unfold attract_Ranks_l3
    rw [hi]
    refine Ok.ite (fun hx => ?_) fun hx => Ok.pure ⟨k3, fun j hj => k4 j (by omega)⟩
    refine Ok.ask (by unfold idx; omega) (Ok.ask (by unfold idx; omega) (Ok.ask (by unfold in64; omega) ?_))
    refine Ranks_l3_ok hN hn hi m _ _ (by omega) (by omega) (by omega) (by simpa using k3) fun j hj => ?_
    rw [getD_set (by omega)]
    by_cases e : x.toNat = j
    · rw [if_pos e, e]
    · rw [if_neg e]; exact k4 j (by omega)

structure RInv (all : List (List (List Int))) (n E S : Nat) (acc : List Bool) (out : List Int) (won : List Bool) (rank : Int) (more : Bool) : Prop where
  len : out.length = n
  wl : won.length = n
  won : ∀ q, q < n → (won.getD q false = true ↔ 0 ≤ out.getD q 0)
  r1 : 1 ≤ rank
  lo : ∀ q, q < n → out.getD q 0 = -1 ∨ (0 ≤ out.getD q 0 ∧ out.getD q 0 < n ∧ out.getD q 0 < rank)
  zero : ∀ q, q < n → (out.getD q 0 = 0 ↔ acc.getD q false = true)
  pos : ∀ q, q < n → 0 < out.getD q 0 → ∀ i, i < E → ∃ k, k < S ∧ 0 ≤ out.getD (to all q i k) 0 ∧ out.getD (to all q i k) 0 < out.getD q 0
  neg : more = false → ∀ q, q < n → out.getD q 0 = -1 → ∃ i, i < E ∧ ∀ k, k < S → out.getD (to all q i k) 0 = -1
  ex : ∀ q, q < n → 0 < out.getD q 0 → ∃ i, i < E ∧ ∀ k, k < S → 0 ≤ out.getD (to all q i k) 0 → out.getD q 0 - 1 ≤ out.getD (to all q i k) 0
  miss : ∀ q, q < n → out.getD q 0 = -1 → rank = 1 ∨ ∃ i, i < E ∧ ∀ k, k < S → 0 ≤ out.getD (to all q i k) 0 → rank - 1 ≤ out.getD (to all q i k) 0
  cn : more = true → rank ≤ cnt out ∨ (rank = 1 ∧ ∀ q, q < n → out.getD q 0 = -1)

theorem Ranks_l1_ok (hN : 5000 ≤ N) (G : Game all n E S) {r23 : List (List (List Int)) × Int} (hr : r23.1 = all) : ∀ (m : Nat) (out : List Int) (won : List Bool) (rank : Int) (more : Bool), RInv all n E S acc out won rank more → 1 ≤ m → (more = true → n + 2 ≤ cnt out + m) →
    Ok (attract_Ranks_l1 N r23 m out won rank more) fun r => Ranked all n E S acc r
  | 0, out, won, rank, more, _, h, _ => by omega
  | m + 1, out, won, rank, more, I, _, hm => by
    have n2 := G.n2
    unfold attract_Ranks_l1
    refine Ok.ite (fun hmore => ?_) fun hmore => Ok.pure ⟨I.len, fun q hq => (I.lo q hq).imp id fun h => ⟨h.1, h.2.1⟩, I.zero, I.pos, I.neg (by simpa using hmore), I.ex⟩
    have hc := cnt_le out
    rw [I.len] at hc
    have hm' := hm hmore
    rw [hr]
    refine (before_ok hN G I.wl).bind fun is ⟨hl, his⟩ => ?_
    refine (Ranks_l2_ok hN n2 hl N out false 0 (by omega) (by omega) (by omega) I.len).bind fun x ⟨hx1, hx2, hx3⟩ => ?_
    refine (Ranks_l3_ok hN n2 hx1 N won 0 (by omega) (by omega) (by omega) I.wl fun j h => by omega).bind fun won2 ⟨hw1, hw2⟩ => ?_
    have hrank : rank ≤ 257 := by
      rcases I.cn hmore with h | h <;> omega
    refine Ok.ask (by have := I.r1; unfold in64; omega) ?_
    have hx2' : ∀ j : Nat, j < n → x.1.getD j 0 = if is.getD j false = true ∧ out.getD j 0 < 0 then rank else out.getD j 0 := fun j hj => by
      rw [hx2 j hj]; simp
    have r1 := I.r1
    -- what stays
    have keep : ∀ j : Nat, j < n → 0 ≤ out.getD j 0 → x.1.getD j 0 = out.getD j 0 := fun j hj h => by rw [hx2' j hj, if_neg (by omega)]
    have grow : ∀ j : Nat, j < n → 0 ≤ out.getD j 0 → 0 ≤ x.1.getD j 0 := fun j hj h => by rw [keep j hj h]; exact h
    have nx : ∀ j : Nat, j < n → is.getD j false = true → ∀ i, i < E → ∃ k, k < S ∧ 0 ≤ out.getD (to all j i k) 0 := fun j hj h i hi => by
      obtain ⟨k, hk, h2⟩ := (his j hj).1 h i hi
      exact ⟨k, hk, (I.won _ (G.to_lt hj hi hk)).1 h2⟩
    have hnew : ∀ j : Nat, j < n → is.getD j false = true → out.getD j 0 < 0 → rank ≤ cnt out ∧ cnt out + 1 ≤ cnt x.1 := fun j hj h1 h2 => by
      refine ⟨?_, cnt_lt out x.1 (by rw [I.len, hx1]) (fun i hi => grow i (by rw [← I.len]; exact hi)) j (by rw [I.len]; exact hj) h2 ?_⟩
      · rcases I.cn hmore with h | ⟨_, h⟩
        · exact h
        · obtain ⟨k, hk, h3⟩ := nx j hj h1 0 (by have := G.E1; omega)
          have := h _ (G.to_lt (i := 0) hj (by have := G.E1; omega) hk)
          omega
      · rw [hx2' j hj, if_pos ⟨h1, h2⟩]; omega
    have hcx := cnt_le x.1
    rw [hx1] at hcx
    refine Ranks_l1_ok hN G hr m x.1 won2 (rank + 1) x.2 ⟨hx1, hw1, fun q hq => by rw [hw2 q hq]; simp, by omega, fun q hq => ?_, fun q hq => ?_, fun q hq h i hi => ?_, fun h q hq hneg => ?_, fun q hq h => ?_, fun q hq h => ?_, fun h => ?_⟩ (by omega) fun h => ?_
    · rw [hx2' q hq]
      by_cases c : is.getD q false = true ∧ out.getD q 0 < 0
      · rw [if_pos c]
        have := hnew q hq c.1 c.2
        right; omega
      · rw [if_neg c]
        exact (I.lo q hq).imp id fun h => ⟨h.1, h.2.1, by omega⟩
    · rw [hx2' q hq]
      by_cases c : is.getD q false = true ∧ out.getD q 0 < 0
      · rw [if_pos c, ← I.zero q hq]
        omega
      · rw [if_neg c]
        exact I.zero q hq
    · rw [hx2' q hq] at h ⊢
      by_cases c : is.getD q false = true ∧ out.getD q 0 < 0
      · rw [if_pos c]
        obtain ⟨k, hk, h3⟩ := nx q hq c.1 i hi
        have hlt := G.to_lt hq hi hk
        refine ⟨k, hk, ?_⟩
        rw [keep _ hlt h3]
        rcases I.lo _ hlt with h4 | h4 <;> omega
      · rw [if_neg c] at h ⊢
        obtain ⟨k, hk, h3, h4⟩ := I.pos q hq h i hi
        refine ⟨k, hk, ?_⟩
        rw [keep _ (G.to_lt hq hi hk) h3]
        exact ⟨h3, h4⟩
    · have none_ : ∀ j : Nat, j < n → is.getD j false = true → ¬ out.getD j 0 < 0 := fun j hj h1 h2 => by
        have := hx3.2 (.inr ⟨j, by omega, hj, h1, h2⟩)
        rw [h] at this; cases this
      have same : ∀ j : Nat, j < n → x.1.getD j 0 = out.getD j 0 := fun j hj => by
        rw [hx2' j hj, if_neg fun c => none_ j hj c.1 c.2]
      have hn : ¬ is.getD q false = true := fun h1 => none_ q hq h1 (by rw [← same q hq, hneg]; decide)
      rw [his q hq] at hn
      unfold wonNext at hn
      have : ∃ i, i < E ∧ ¬ meets all won S q i := Classical.byContradiction fun hc => hn fun i hi => Classical.byContradiction fun h2 => hc ⟨i, hi, h2⟩
      obtain ⟨i, hi, h2⟩ := this
      refine ⟨i, hi, fun k hk => ?_⟩
      have hlt := G.to_lt hq hi hk
      rw [same _ hlt]
      rcases I.lo _ hlt with h4 | h4
      · exact h4
      · exact absurd ⟨k, hk, (I.won _ hlt).2 h4.1⟩ h2
    · rw [hx2' q hq] at h ⊢
      have val : ∀ j : Nat, j < n → 0 ≤ x.1.getD j 0 → (0 ≤ out.getD j 0 ∧ x.1.getD j 0 = out.getD j 0) ∨ x.1.getD j 0 = rank := fun j hj h0 => by
        rw [hx2' j hj] at h0 ⊢
        by_cases c : is.getD j false = true ∧ out.getD j 0 < 0
        · rw [if_pos c]; exact .inr rfl
        · rw [if_neg c] at h0 ⊢; exact .inl ⟨h0, rfl⟩
      by_cases c : is.getD q false = true ∧ out.getD q 0 < 0
      · rw [if_pos c]
        rcases I.miss q hq (by rcases I.lo q hq with h2 | h2 <;> omega) with h2 | ⟨i, hi, h2⟩
        · exact ⟨0, by have := G.E1; omega, fun k hk h0 => by omega⟩
        · refine ⟨i, hi, fun k hk h0 => ?_⟩
          rcases val _ (G.to_lt hq hi hk) h0 with ⟨h3, h4⟩ | h3
          · have := h2 k hk h3; omega
          · omega
      · rw [if_neg c] at h ⊢
        obtain ⟨i, hi, h2⟩ := I.ex q hq h
        refine ⟨i, hi, fun k hk h0 => ?_⟩
        rcases val _ (G.to_lt hq hi hk) h0 with ⟨h3, h4⟩ | h3
        · have := h2 k hk h3; omega
        · have := I.lo q hq; omega
    · right
      have hq1 : out.getD q 0 = -1 := by
        rcases I.lo q hq with h2 | h2
        · exact h2
        · rw [keep q hq h2.1] at h; omega
      have hn : ¬ is.getD q false = true := fun h1 => by
        rw [hx2' q hq, if_pos ⟨h1, by omega⟩] at h; omega
      rw [his q hq] at hn
      unfold wonNext at hn
      have : ∃ i, i < E ∧ ¬ meets all won S q i := Classical.byContradiction fun hc => hn fun i hi => Classical.byContradiction fun h2 => hc ⟨i, hi, h2⟩
      obtain ⟨i, hi, h2⟩ := this
      refine ⟨i, hi, fun k hk h0 => ?_⟩
      have hlt := G.to_lt hq hi hk
      rw [hx2' _ hlt] at h0 ⊢
      by_cases c : is.getD (to all q i k) false = true ∧ out.getD (to all q i k) 0 < 0
      · rw [if_pos c]; omega
      · rw [if_neg c] at h0
        exact absurd ⟨k, hk, (I.won _ hlt).2 h0⟩ h2
    · rcases hx3.1 h with h1 | ⟨j, _, hj, h1, h2⟩
      · cases h1
      · have := hnew j hj h1 h2
        left; omega
    · rcases hx3.1 h with h1 | ⟨j, _, hj, h1, h2⟩
      · cases h1
      · have := hnew j hj h1 h2
        omega
end

theorem attract_Ranks_ok {N : Nat} {p : Int} {acc : List Bool} {gd : List Int} {nd : List Nd} {s : Int × Int} (hN : 5000 ≤ N) (V : Valid p acc gd nd) (hB : board_Check N p acc gd nd s = some 0) (hs : (p, s.1, s.2) ∈ splits) :
    Ok (attract_Ranks N p acc gd nd s) fun r => r.2 = 0 ∧ Ranked (allS nd gd s.1 s.2 acc.length) acc.length (moves s.1).length (moves s.2).length acc r.1 := by
  have a1 := V.a1
  have a2 := V.a2
  have G := allS_game (N := N) hN V hs
  unfold attract_Ranks
  rw [show (s.1, s.2) = s from rfl, attract_rows_eq hN V hB hs]
  simp only [Option.bind_some]
  rw [if_pos trivial, G.len]
  refine Ok.ask (by omega) ?_
  have hcl : slices_Clone_bool_bool N acc = some acc := by
    unfold slices_Clone_bool_bool slices_Clone_bool_bool_some ask
    rw [if_pos (by simp; omega)]
    rfl
  rw [hcl]
  simp only [Option.bind_some]
  refine (Ranks_l0_ok (N := N) (n := acc.length) (acc := acc) hN a2 rfl N _ 0 (by omega) (by omega) (by omega) (by simp) (fun j h => by omega) fun j _ => getD_rep).bind fun out ⟨h1, h2⟩ => ?_
  refine (Ranks_l1_ok (acc := acc) hN G rfl N out acc 1 true ⟨h1, rfl, fun q hq => ?_, by omega, fun q hq => ?_, fun q hq => ?_, fun q hq h => ?_, fun h => (by cases h), fun q hq h => ?_, fun q hq h => .inl rfl, fun _ => ?_⟩ (by omega) fun _ => by omega).bind fun r hr => Ok.pure ⟨rfl, hr⟩
  · rw [h2 q hq]; split <;> simp_all
  · rw [h2 q hq]; split
    · right; omega
    · left; rfl
  · rw [h2 q hq]; split <;> simp_all
  · rw [h2 q hq] at h; split at h <;> omega
  · rw [h2 q hq] at h; split at h <;> omega
  · by_cases h : ∃ q, q < acc.length ∧ out.getD q 0 ≠ -1
    · obtain ⟨q, hq, h3⟩ := h
      left
      have h4 : 0 ≤ out.getD q 0 := by
        rw [h2 q hq] at h3 ⊢
        split at h3
        · rename_i h5; rw [if_pos h5]; omega
        · exact absurd rfl h3
      have := cnt_lt (List.replicate acc.length (-1)) out (by simp [h1]) (fun i hi h => by
        have hi' : i < acc.length := by simpa using hi
        rw [List.getD_eq_getElem?_getD, List.getElem?_replicate, if_pos hi'] at h
        simp at h) q (by simpa using hq) (by rw [List.getD_eq_getElem?_getD, List.getElem?_replicate, if_pos hq]; decide) h4
      omega
    · right
      exact ⟨rfl, fun q hq => Classical.byContradiction fun h3 => h ⟨q, hq, h3⟩⟩
end Go.V
