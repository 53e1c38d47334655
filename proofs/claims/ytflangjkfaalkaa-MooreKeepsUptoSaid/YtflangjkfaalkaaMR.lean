/- Plain theory: the system chooses first: ranks. No program. -/
import Derived.Test.YtflangjkfaalkaaPR
set_option linter.all false
set_option linter.unusedVariables false
set_option maxRecDepth 100000
namespace Go.V
open Go

/-- what ranks say where the system chooses first -/
structure MRanked (all : List (List (List Int))) (n E S : Nat) (acc : List Bool) (out : List Int) : Prop where
  len : out.length = n
  lo : ∀ q, q < n → out.getD q 0 = -1 ∨ (0 ≤ out.getD q 0 ∧ out.getD q 0 ≤ n)
  zero : ∀ q, q < n → (out.getD q 0 = 0 ↔ acc.getD q false = true)
  pos : ∀ q, q < n → 0 < out.getD q 0 → ∃ k, k < S ∧ ∀ i, i < E → 0 ≤ out.getD (to all q i k) 0 ∧ out.getD (to all q i k) 0 < out.getD q 0
  neg : ∀ q, q < n → out.getD q 0 = -1 → ∀ k, k < S → ∃ i, i < E ∧ out.getD (to all q i k) 0 = -1

abbrev GT := (Int × (List Bool) × (List Int) × (List Nd)) × (Int × Int) × (List Int) × (List Int)
theorem orV_cm (a b : Int) : orV .u8 a b = orV .u8 b a := by
  unfold orV; rw [BitVec.or_comm]
theorem maxL1 (a b : Int) : maxL a [b] = if a < b then b else a := rfl
theorem minL1 (a b : Int) : minL a [b] = if b < a then b else a := rfl
section
variable {N : Nat} {p : Int} {acc : List Bool} {gd : List Int} {nd : List Nd} {s : Int × Int}
def gm (p : Int) (acc : List Bool) (gd : List Int) (nd : List Nd) (s : Int × Int) : GT := ((p, acc, gd, nd), (s.1, s.2), moves s.2, moves s.1)
theorem begun_eq (hN : 5000 ≤ N) (hB : board_Check N p acc gd nd s = some 0) (hs : (p, s.1, s.2) ∈ splits) : moore_begun N p acc gd nd s = some (.inr (gm p acc gd nd s, 0)) := by
  have sl := split_le hs
  unfold moore_begun
  rw [show (s.1, s.2) = s from rfl, hB]
  simp only [Option.bind_some]
  rw [if_pos trivial, moves_n hN sl.2.2, moves_n hN sl.2.1]
  rfl
theorem begun_no {e : Int} (hB : board_Check N p acc gd nd s = some e) (he : e ≠ 0) : moore_begun N p acc gd nd s = some (.inl e) := by
  unfold moore_begun
  rw [show (s.1, s.2) = s from rfl, hB]
  simp only [Option.bind_some]
  rw [if_neg he]

/-! ### where a round leads -/
def dst (nd : List Nd) (gd : List Int) (s : Int × Int) (q : Int) (c : Int) (i : Nat) : Nat := (go nd (gd.getD q.toNat 0) (orV .u8 c ((moves s.1).getD i 0))).toNat
theorem mto_ok (hN : 5000 ≤ N) (V : Valid p acc gd nd) {q : Int} (h0 : 0 ≤ q) (h1 : q < acc.length) (l : Int) : moore_game_to N (gm p acc gd nd s) q l = some (go nd (gd.getD q.toNat 0) l) ∧ 0 ≤ go nd (gd.getD q.toNat 0) l ∧ go nd (gd.getD q.toNat 0) l < acc.length := by
  have gl := V.gl
  obtain ⟨g1, g2, g3⟩ := guard_Go_ok (N := N) hN V l h0 h1
  refine ⟨?_, g2, g3⟩
  unfold moore_game_to gm ask
  dsimp only
  rw [if_pos (by unfold idx; omega), g1]
  rfl
theorem dst_lt (hN : 5000 ≤ N) (V : Valid p acc gd nd) {q : Int} (h0 : 0 ≤ q) (h1 : q < acc.length) (c : Int) (i : Nat) : dst nd gd s q c i < acc.length := by
  have := (mto_ok (N := N) (s := s) hN V h0 h1 (orV .u8 c ((moves s.1).getD i 0))).2
  unfold dst
  omega
theorem dst_to {q : Nat} (hq : q < acc.length) {i k : Nat} (hi : i < (moves s.1).length) (hk : k < (moves s.2).length) : dst nd gd s (q : Int) ((moves s.2).getD k 0) i = to (allS nd gd s.1 s.2 acc.length) q i k := by
  unfold dst to
  rw [allS_get hq, (rowsS_row hi).2 k hk, orV_cm]
theorem dst_to' {q : Int} (h0 : 0 ≤ q) (h1 : q < acc.length) {i k : Nat} (hi : i < (moves s.1).length) (hk : k < (moves s.2).length) : dst nd gd s q ((moves s.2).getD k 0) i = to (allS nd gd s.1 s.2 acc.length) q.toNat i k := by
  obtain ⟨a, rfl⟩ := Int.eq_ofNat_of_zero_le h0
  exact dst_to (by omega) hi hk

/-! ### the worst rank behind a choice -/
theorem worst_l0_ok (hN : 5000 ≤ N) (V : Valid p acc gd nd) (hs : (p, s.1, s.2) ∈ splits) {q : Int} (h0 : 0 ≤ q) (h1 : q < acc.length) {ranks : List Int} (hr : ranks.length = acc.length) {c : Int} : ∀ (m : Nat) (out : Int) (never : Bool) (x : Int), 0 ≤ x → x ≤ (moves s.1).length → ((moves s.1).length : Int) - x < m → 0 ≤ out →
    (never = true ↔ ∃ j : Nat, (j : Int) < x ∧ ranks.getD (dst nd gd s q c j) 0 < 0) → (∀ j : Nat, (j : Int) < x → ranks.getD (dst nd gd s q c j) 0 ≤ out) → (out = 0 ∨ ∃ j : Nat, (j : Int) < x ∧ ranks.getD (dst nd gd s q c j) 0 = out) →
    Ok (moore_game_worst_l0 N (gm p acc gd nd s) ranks q c m out never x) fun r => 0 ≤ r.1 ∧ (r.2 = true ↔ ∃ j, j < (moves s.1).length ∧ ranks.getD (dst nd gd s q c j) 0 < 0) ∧ (∀ j, j < (moves s.1).length → ranks.getD (dst nd gd s q c j) 0 ≤ r.1) ∧ (r.1 = 0 ∨ ∃ j, j < (moves s.1).length ∧ ranks.getD (dst nd gd s q c j) 0 = r.1)
  | 0, out, never, x, _, _, h, _, _, _, _ => by omega
  | m + 1, out, never, x, k0, k1, k2, k3, k4, k5, k6 => by
    have sl := split_le hs
    have ml := moves_len sl.2.1
    unfold moore_game_worst_l0
    have e0 : (gm p acc gd nd s).2.2.2 = moves s.1 := rfl
    rw [e0]
    refine Ok.ite (fun hx => ?_) fun hx => Ok.pure ⟨k3, k4.trans ⟨fun ⟨j, h1, h2⟩ => ⟨j, by omega, h2⟩, fun ⟨j, h1, h2⟩ => ⟨j, by omega, h2⟩⟩, fun j hj => k5 j (by omega), k6.imp id fun ⟨j, h1, h2⟩ => ⟨j, by omega, h2⟩⟩
    refine Ok.ask (by unfold idx; omega) ?_
    obtain ⟨t1, t2, t3⟩ := mto_ok (N := N) (s := s) hN V h0 h1 (orV .u8 c ((moves s.1).getD x.toNat 0))
    rw [t1]
    simp only [Option.bind_some]
    refine Ok.ask (by unfold idx; omega) ?_
    rw [show (go nd (gd.getD q.toNat 0) (orV .u8 c ((moves s.1).getD x.toNat 0))).toNat = dst nd gd s q c x.toNat from rfl]
    generalize hv : ranks.getD (dst nd gd s q c x.toNat) 0 = v
    have nxt : ∀ nv : Bool, (nv = true ↔ ∃ j : Nat, (j : Int) < x + 1 ∧ ranks.getD (dst nd gd s q c j) 0 < 0) → Ok (ask (in64 (x + 1)) <| moore_game_worst_l0 N (gm p acc gd nd s) ranks q c m (maxL out [v]) nv (x + 1)) fun r => 0 ≤ r.1 ∧ (r.2 = true ↔ ∃ j, j < (moves s.1).length ∧ ranks.getD (dst nd gd s q c j) 0 < 0) ∧ (∀ j, j < (moves s.1).length → ranks.getD (dst nd gd s q c j) 0 ≤ r.1) ∧ (r.1 = 0 ∨ ∃ j, j < (moves s.1).length ∧ ranks.getD (dst nd gd s q c j) 0 = r.1) := fun nv hnv => by
      refine Ok.ask (by unfold in64; omega) ?_
      refine worst_l0_ok hN V hs h0 h1 hr m _ nv (x + 1) (by omega) (by omega) (by omega) (by rw [maxL1]; split <;> omega) hnv (fun j hj => ?_) ?_
      · rw [maxL1]
        by_cases e : (j : Int) = x
        · have : j = x.toNat := by omega
          subst this
          rw [hv]; split <;> omega
        · have := k5 j (by omega)
          split <;> omega
      · rw [maxL1]
        split
        · exact .inr ⟨x.toNat, by omega, hv⟩
        · exact k6.imp id fun ⟨j, h1, h2⟩ => ⟨j, by omega, h2⟩
    refine Ok.ite (fun hn => ?_) fun hn => ?_
    · obtain ⟨j, j1, j2⟩ := k4.1 hn
      exact nxt true ⟨fun _ => ⟨j, by omega, j2⟩, fun _ => rfl⟩
    · refine nxt _ ⟨fun h => ⟨x.toNat, by omega, by rw [hv]; exact of_decide_eq_true h⟩, fun ⟨j, j1, j2⟩ => ?_⟩
      by_cases e : (j : Int) = x
      · have : j = x.toNat := by omega
        subst this
        rw [hv] at j2
        exact decide_eq_true j2
      · exact absurd (k4.2 ⟨j, by omega, j2⟩) hn
theorem worst_ok (hN : 5000 ≤ N) (V : Valid p acc gd nd) (hs : (p, s.1, s.2) ∈ splits) {q : Int} (h0 : 0 ≤ q) (h1 : q < acc.length) {ranks : List Int} (hr : ranks.length = acc.length) (c : Int) :
    Ok (moore_game_worst N (gm p acc gd nd s) ranks q c) fun r => (r = -1 ∧ ∃ j, j < (moves s.1).length ∧ ranks.getD (dst nd gd s q c j) 0 < 0) ∨ (0 ≤ r ∧ (∀ j, j < (moves s.1).length → 0 ≤ ranks.getD (dst nd gd s q c j) 0 ∧ ranks.getD (dst nd gd s q c j) 0 ≤ r) ∧ ∃ j, j < (moves s.1).length ∧ ranks.getD (dst nd gd s q c j) 0 = r) := by
  have sl := split_le hs
  have ml := moves_len sl.2.1
  unfold moore_game_worst
  refine (worst_l0_ok hN V hs h0 h1 hr N 0 false 0 (by omega) (by omega) (by omega) (by omega) ⟨fun h => (by cases h), fun ⟨j, h, _⟩ => by omega⟩ (fun j h => by omega) (.inl rfl)).bind fun x ⟨x1, x2, x3, x4⟩ => ?_
  refine Ok.ite (fun h => Ok.pure (.inl ⟨rfl, x2.1 h⟩)) fun h => Ok.pure (.inr ⟨x1, ?_⟩)
  have hn : ∀ j, j < (moves s.1).length → 0 ≤ ranks.getD (dst nd gd s q c j) 0 := fun j hj => by
    by_cases c : 0 ≤ ranks.getD (dst nd gd s q c j) 0
    · exact c
    · exact absurd (x2.2 ⟨j, hj, by omega⟩) h
  refine ⟨fun j hj => ⟨hn j hj, x3 j hj⟩, ?_⟩
  rcases x4 with x4 | x4
  · refine ⟨0, by omega, ?_⟩
    have a := x3 0 (by omega)
    have b := hn 0 (by omega)
    omega
  · exact x4

/-! ### the ranks -/
theorem mranks_l0_ok (V : Valid p acc gd nd) : ∀ (m : Nat) (out : List Int) (x : Int), 0 ≤ x → x ≤ acc.length → (acc.length : Int) - x < m → out.length = acc.length → (∀ j : Nat, (j : Int) < x → out.getD j 0 = if acc.getD j false = true then 0 else -1) → (∀ j : Nat, x ≤ j → out.getD j 0 = 0) →
    Ok (moore_game_ranks_l0 N (gm p acc gd nd s) m out x) fun r => r.length = acc.length ∧ ∀ j, j < acc.length → r.getD j 0 = if acc.getD j false = true then 0 else -1
  | 0, out, x, _, _, h, _, _, _ => by omega
  | m + 1, out, x, k0, k1, k2, k3, k4, k5 => by
    have a2 := V.a2
    unfold moore_game_ranks_l0
    have e0 : (gm p acc gd nd s).1.2.1 = acc := rfl
    rw [e0]
    refine Ok.ite (fun hx => ?_) fun hx => Ok.pure ⟨k3, fun j hj => k4 j (by omega)⟩
    refine Ok.ask (by unfold idx; omega) ?_
    refine Ok.ite (fun h => ?_) fun h => ?_
    · refine Ok.ask (by unfold in64; omega) ?_
      refine mranks_l0_ok V m _ _ (by omega) (by omega) (by omega) k3 (fun j hj => ?_) fun j hj => k5 j (by omega)
      rcases Int.lt_or_eq_of_le (show (j : Int) ≤ x by omega) with h3 | h3
      · exact k4 j h3
      · rw [k5 j (by omega), if_pos (by rw [← h]; congr 1; omega)]
    · refine Ok.ask (by unfold idx; omega) (Ok.ask (by unfold in64; omega) ?_)
      refine mranks_l0_ok V m _ _ (by omega) (by omega) (by omega) (by simpa using k3) (fun j hj => ?_) fun j hj => ?_
      · rw [getD_set (by omega)]
        by_cases e : x.toNat = j
        · rw [if_pos e, if_neg (by rw [← e]; exact h)]
        · rw [if_neg e]; exact k4 j (by omega)
      · rw [getD_set (by omega), if_neg (by omega)]; exact k5 j (by omega)

/-- a choice by which all ranks behind are known -/
def good (nd : List Nd) (gd : List Int) (s : Int × Int) (was : List Int) (q : Int) (k : Nat) : Prop := ∀ i, i < (moves s.1).length → 0 ≤ was.getD (dst nd gd s q ((moves s.2).getD k 0) i) 0
theorem mranks_f5_ok (hN : 5000 ≤ N) (V : Valid p acc gd nd) (hs : (p, s.1, s.2) ∈ splits) {q : Int} (h0 : 0 ≤ q) (h1 : q < acc.length) {was : List Int} (hr : was.length = acc.length) {x : Int} :
    Ok (moore_game_ranks_f5 N (gm p acc gd nd s) was q x) fun b => b = true ↔ good nd gd s was q x.toNat := by
  unfold moore_game_ranks_f5
  rw [List.nil_append]
  have e0 : (gm p acc gd nd s).2.2.1 = moves s.2 := rfl
  rw [e0]
  refine (worst_ok hN V hs h0 h1 hr _).bind fun r hr2 => Ok.pure ⟨fun h => ?_, fun h => ?_⟩
  · have h' : 0 ≤ r := by simpa using h
    rcases hr2 with ⟨rfl, _⟩ | ⟨_, h2, _⟩
    · omega
    · exact fun i hi => (h2 i hi).1
  · rcases hr2 with ⟨_, j, h2, h3⟩ | ⟨h2, _⟩
    · have := h j h2; omega
    · exact decide_eq_true h2
theorem mranks_l4_ok (hN : 5000 ≤ N) (V : Valid p acc gd nd) (hs : (p, s.1, s.2) ∈ splits) {q : Int} (h0 : 0 ≤ q) (h1 : q < acc.length) {was : List Int} (hr : was.length = acc.length) : ∀ (m : Nat) (x : Int), 0 ≤ x → x ≤ (moves s.2).length → ((moves s.2).length : Int) - x < m → (∀ k : Nat, (k : Int) < x → ¬ good nd gd s was q k) →
    Ok (moore_game_ranks_l4 N (gm p acc gd nd s) was q m x) fun r => (r = .inl () ∧ ∀ k : Nat, k < (moves s.2).length → ¬ good nd gd s was q k) ∨ ∃ y, r = .inr y ∧ 0 ≤ y ∧ y < (moves s.2).length ∧ good nd gd s was q y.toNat
  | 0, x, _, _, h, _ => by omega
  | m + 1, x, k0, k1, k2, k3 => by
    have sl := split_le hs
    have ml := moves_len sl.2.2
    unfold moore_game_ranks_l4
    have e0 : (gm p acc gd nd s).2.2.1 = moves s.2 := rfl
    rw [e0]
    refine Ok.ite (fun hx => ?_) fun hx => Ok.pure (.inl ⟨rfl, fun k hk => k3 k (by omega)⟩)
    refine Ok.ask (by unfold idx; omega) ?_
    refine (mranks_f5_ok hN V hs h0 h1 hr).bind fun b hb => ?_
    refine Ok.ite (fun h => Ok.pure (.inr ⟨x, rfl, k0, hx, hb.1 h⟩)) fun h => Ok.ask (by unfold in64; omega) ?_
    refine mranks_l4_ok hN V hs h0 h1 hr m _ (by omega) (by omega) (by omega) fun k hk => ?_
    by_cases e : (k : Int) = x
    · have : k = x.toNat := by omega
      subst this
      exact fun h2 => h (hb.2 h2)
    · exact k3 k (by omega)
theorem mranks_f3_ok (hN : 5000 ≤ N) (V : Valid p acc gd nd) (hs : (p, s.1, s.2) ∈ splits) {q : Int} (h0 : 0 ≤ q) (h1 : q < acc.length) {was : List Int} (hr : was.length = acc.length) :
    Ok (moore_game_ranks_f3 N (gm p acc gd nd s) was q) fun r => 0 ≤ r ↔ ∃ k, k < (moves s.2).length ∧ good nd gd s was q k := by
  have sl := split_le hs
  have ml := moves_len sl.2.2
  unfold moore_game_ranks_f3
  refine (mranks_l4_ok hN V hs h0 h1 hr N 0 (by omega) (by omega) (by omega) fun k h => by omega).bind fun r hr2 => ?_
  rcases hr2 with ⟨rfl, h⟩ | ⟨y, rfl, y0, y1, y2⟩
  · exact Ok.pure ⟨fun h2 => absurd h2 (by decide), fun ⟨k, h2, h3⟩ => absurd h3 (h k h2)⟩
  · exact Ok.pure ⟨fun _ => ⟨y.toNat, by omega, y2⟩, fun _ => y0⟩

/-- a state that gets its rank now -/
def newly (nd : List Nd) (gd : List Int) (s : Int × Int) (was : List Int) (q : Nat) : Prop := was.getD q 0 < 0 ∧ ∃ k, k < (moves s.2).length ∧ good nd gd s was (q : Int) k
theorem mranks_l2_ok (hN : 5000 ≤ N) (V : Valid p acc gd nd) (hs : (p, s.1, s.2) ∈ splits) {was : List Int} {rank : Int} (hw : was.length = acc.length) : ∀ (m : Nat) (out : List Int) (more : Bool) (x : Int), 0 ≤ x → x ≤ acc.length → (acc.length : Int) - x < m → out.length = acc.length →
    Ok (moore_game_ranks_l2 N (gm p acc gd nd s) was rank m out more x) fun r => r.1.length = acc.length ∧ (∀ j : Nat, j < acc.length → (x ≤ j ∧ newly nd gd s was j → r.1.getD j 0 = rank) ∧ (¬ (x ≤ j ∧ newly nd gd s was j) → r.1.getD j 0 = out.getD j 0)) ∧ (r.2 = true ↔ more = true ∨ ∃ j : Nat, x ≤ j ∧ j < acc.length ∧ newly nd gd s was j)
  | 0, out, more, x, _, _, h, _ => by omega
  | m + 1, out, more, x, k0, k1, k2, k3 => by
    have a2 := V.a2
    unfold moore_game_ranks_l2
    rw [List.nil_append, hw]
    refine Ok.ite (fun hx => ?_) fun hx => Ok.pure ⟨k3, fun j hj => ⟨fun h => by omega, fun _ => rfl⟩, ⟨.inl, fun h => h.elim id fun ⟨j, h1, h2, _⟩ => by omega⟩⟩
    obtain ⟨a, rfl⟩ := Int.eq_ofNat_of_zero_le k0
    refine Ok.ask (by unfold idx; omega) ?_
    rw [Int.toNat_natCast]
    have skip : ¬ newly nd gd s was a → Ok (ask (in64 ((a : Int) + 1)) <| moore_game_ranks_l2 N (gm p acc gd nd s) was rank m out more ((a : Int) + 1)) fun r => r.1.length = acc.length ∧ (∀ j : Nat, j < acc.length → ((a : Int) ≤ j ∧ newly nd gd s was j → r.1.getD j 0 = rank) ∧ (¬ ((a : Int) ≤ j ∧ newly nd gd s was j) → r.1.getD j 0 = out.getD j 0)) ∧ (r.2 = true ↔ more = true ∨ ∃ j : Nat, (a : Int) ≤ j ∧ j < acc.length ∧ newly nd gd s was j) := fun hno => by
      refine Ok.ask (by unfold in64; omega) ?_
      refine (mranks_l2_ok hN V hs hw m out more ((a : Int) + 1) (by omega) (by omega) (by omega) k3).mono fun r ⟨h1, h2, h3⟩ => ⟨h1, fun j hj => ⟨fun ⟨c1, c2⟩ => ?_, fun c => ?_⟩, ?_⟩
      · refine (h2 j hj).1 ⟨?_, c2⟩
        by_cases e : j = a
        · subst e; exact absurd c2 hno
        · omega
      · exact (h2 j hj).2 fun ⟨c1, c2⟩ => c ⟨by omega, c2⟩
      · rw [h3]
        refine or_congr Iff.rfl ⟨fun ⟨j, b1, b2⟩ => ⟨j, by omega, b2⟩, fun ⟨j, b1, b2, b3⟩ => ⟨j, ?_, b2, b3⟩⟩
        by_cases e : j = a
        · subst e; exact absurd b3 hno
        · omega
    refine Ok.ite (fun h => ?_) fun h => skip fun hh => h hh.1
    refine (mranks_f3_ok hN V hs (q := (a : Int)) (by omega) hx hw).bind fun r hr => ?_
    refine Ok.ite (fun h2 => ?_) fun h2 => skip fun hh => h2 (hr.2 hh.2)
    have hnew : newly nd gd s was a := ⟨h, hr.1 h2⟩
    refine Ok.ask (by unfold idx; omega) (Ok.ask (by unfold in64; omega) ?_)
    refine (mranks_l2_ok hN V hs hw m (out.set a rank) true ((a : Int) + 1) (by omega) (by omega) (by omega) (by simpa using k3)).mono fun r ⟨h3, h4, h5⟩ => ⟨h3, fun j hj => ⟨fun ⟨c1, c2⟩ => ?_, fun c => ?_⟩, ?_⟩
    · by_cases e : j = a
      · subst e
        rw [(h4 j hj).2 fun c => by omega, getD_set (by omega), if_pos rfl]
      · exact (h4 j hj).1 ⟨by omega, c2⟩
    · rw [(h4 j hj).2 fun ⟨c1, c2⟩ => c ⟨by omega, c2⟩, getD_set (by omega), if_neg]
      intro e
      subst e
      exact c ⟨by omega, hnew⟩
    · exact ⟨fun _ => .inr ⟨a, by omega, by omega, hnew⟩, fun _ => h5.2 (.inl rfl)⟩

structure MInv (all : List (List (List Int))) (n E S : Nat) (acc : List Bool) (out : List Int) (rank : Int) (more : Bool) : Prop where
  len : out.length = n
  r1 : 1 ≤ rank
  lo : ∀ q, q < n → out.getD q 0 = -1 ∨ (0 ≤ out.getD q 0 ∧ out.getD q 0 ≤ n ∧ out.getD q 0 < rank)
  zero : ∀ q, q < n → (out.getD q 0 = 0 ↔ acc.getD q false = true)
  pos : ∀ q, q < n → 0 < out.getD q 0 → ∃ k, k < S ∧ ∀ i, i < E → 0 ≤ out.getD (to all q i k) 0 ∧ out.getD (to all q i k) 0 < out.getD q 0
  neg : more = false → ∀ q, q < n → out.getD q 0 = -1 → ∀ k, k < S → ∃ i, i < E ∧ out.getD (to all q i k) 0 = -1
  cn : more = true → rank ≤ cnt out + 1

theorem mranks_l1_ok (hN : 5000 ≤ N) (V : Valid p acc gd nd) (hs : (p, s.1, s.2) ∈ splits) : ∀ (m : Nat) (out : List Int) (rank : Int) (more : Bool), MInv (allS nd gd s.1 s.2 acc.length) acc.length (moves s.1).length (moves s.2).length acc out rank more → 1 ≤ m → (more = true → acc.length + 2 ≤ cnt out + m) →
    Ok (moore_game_ranks_l1 N (gm p acc gd nd s) m out rank more) fun r => MRanked (allS nd gd s.1 s.2 acc.length) acc.length (moves s.1).length (moves s.2).length acc r
  | 0, out, rank, more, _, h, _ => by omega
  | m + 1, out, rank, more, I, _, hm => by
    have G := allS_game (N := N) hN V hs
    have a2 := V.a2
    have len := I.len
    have r1 := I.r1
    unfold moore_game_ranks_l1
    refine Ok.ite (fun hmore => ?_) fun hmore => Ok.pure ⟨I.len, fun q hq => (I.lo q hq).imp id fun h => ⟨h.1, h.2.1⟩, I.zero, I.pos, I.neg (by simpa using hmore)⟩
    have hc := cnt_le out
    have hm' := hm hmore
    have hcn := I.cn hmore
    refine Ok.ask (by simp; omega) ?_
    refine (mranks_l2_ok (rank := rank) hN V hs I.len N out false 0 (by omega) (by omega) (by omega) I.len).bind fun x ⟨hx1, hx2, hx3⟩ => ?_
    refine Ok.ask (by unfold in64; omega) ?_
    have old : ∀ j : Nat, j < acc.length → ¬ newly nd gd s out j → x.1.getD j 0 = out.getD j 0 := fun j hj h => (hx2 j hj).2 fun c => h c.2
    have new : ∀ j : Nat, j < acc.length → newly nd gd s out j → x.1.getD j 0 = rank := fun j hj h => (hx2 j hj).1 ⟨by omega, h⟩
    have keep : ∀ j : Nat, j < acc.length → 0 ≤ out.getD j 0 → x.1.getD j 0 = out.getD j 0 := fun j hj h => old j hj fun c => by have := c.1; omega
    have grow : ∀ j : Nat, j < acc.length → 0 ≤ out.getD j 0 → 0 ≤ x.1.getD j 0 := fun j hj h => by rw [keep j hj h]; exact h
    have way : ∀ j : Nat, j < acc.length → newly nd gd s out j → ∃ k, k < (moves s.2).length ∧ ∀ i, i < (moves s.1).length → 0 ≤ out.getD (to (allS nd gd s.1 s.2 acc.length) j i k) 0 := fun j hj h => by
      obtain ⟨_, k, hk, hg⟩ := h
      exact ⟨k, hk, fun i hi => by have := hg i hi; rwa [dst_to hj hi hk] at this⟩
    have hcl : ∀ j : Nat, j < acc.length → newly nd gd s out j → cnt out + 1 ≤ cnt x.1 := fun j hj h =>
      cnt_lt out x.1 (by rw [I.len, hx1]) (fun i hi => grow i (by omega)) j (by omega) h.1 (by rw [new j hj h]; omega)
    have hcx := cnt_le x.1
    rw [hx1] at hcx
    refine mranks_l1_ok hN V hs m x.1 (rank + 1) x.2 ⟨hx1, by omega, fun q hq => ?_, fun q hq => ?_, fun q hq h => ?_, fun h q hq hneg => ?_, fun h => ?_⟩ (by omega) fun h => ?_
    · by_cases c : newly nd gd s out q
      · have := hcl q hq c
        right
        rw [new q hq c]; omega
      · rw [old q hq c]
        exact (I.lo q hq).imp id fun h => ⟨h.1, h.2.1, by omega⟩
    · by_cases c : newly nd gd s out q
      · rw [new q hq c, ← I.zero q hq]
        have := c.1
        omega
      · rw [old q hq c]
        exact I.zero q hq
    · by_cases c : newly nd gd s out q
      · obtain ⟨k, hk, h3⟩ := way q hq c
        refine ⟨k, hk, fun i hi => ?_⟩
        have hlt := G.to_lt hq hi hk
        rw [new q hq c, keep _ hlt (h3 i hi)]
        have := h3 i hi
        rcases I.lo _ hlt with h4 | h4 <;> omega
      · rw [old q hq c] at h ⊢
        obtain ⟨k, hk, h3⟩ := I.pos q hq h
        refine ⟨k, hk, fun i hi => ?_⟩
        rw [keep _ (G.to_lt hq hi hk) (h3 i hi).1]
        exact h3 i hi
    · have none_ : ∀ j : Nat, j < acc.length → ¬ newly nd gd s out j := fun j hj h1 => by
        have := hx3.2 (.inr ⟨j, by omega, hj, h1⟩)
        rw [h] at this; cases this
      intro k hk
      rw [old q hq (none_ q hq)] at hneg
      have hn : ¬ good nd gd s out (q : Int) k := fun hg => none_ q hq ⟨by omega, k, hk, hg⟩
      unfold good at hn
      have : ∃ i, i < (moves s.1).length ∧ ¬ 0 ≤ out.getD (dst nd gd s (q : Int) ((moves s.2).getD k 0) i) 0 := Classical.byContradiction fun hc => hn fun i hi => Classical.byContradiction fun h2 => hc ⟨i, hi, h2⟩
      obtain ⟨i, hi, h2⟩ := this
      rw [dst_to hq hi hk] at h2
      have hlt := G.to_lt hq hi hk
      refine ⟨i, hi, ?_⟩
      rw [old _ hlt (none_ _ hlt)]
      rcases I.lo _ hlt with h4 | h4 <;> omega
    · rcases hx3.1 h with h1 | ⟨j, _, hj, h1⟩
      · cases h1
      · have := hcl j hj h1
        omega
    · rcases hx3.1 h with h1 | ⟨j, _, hj, h1⟩
      · cases h1
      · have := hcl j hj h1
        omega

theorem mranks_ok (hN : 5000 ≤ N) (V : Valid p acc gd nd) (hs : (p, s.1, s.2) ∈ splits) : Ok (moore_game_ranks N (gm p acc gd nd s)) fun r => MRanked (allS nd gd s.1 s.2 acc.length) acc.length (moves s.1).length (moves s.2).length acc r := by
  have a1 := V.a1
  have a2 := V.a2
  unfold moore_game_ranks
  have e0 : (gm p acc gd nd s).1.2.1 = acc := rfl
  rw [e0]
  refine Ok.ask (by omega) ?_
  refine (mranks_l0_ok (N := N) (s := s) V N _ 0 (by omega) (by omega) (by omega) (by simp) (fun j h => by omega) fun j _ => getD_rep).bind fun out ⟨h1, h2⟩ => ?_
  refine (mranks_l1_ok hN V hs N out 1 true ⟨h1, by omega, fun q hq => ?_, fun q hq => ?_, fun q hq h => ?_, fun h => (by cases h), fun _ => by omega⟩ (by omega) fun _ => by omega).bind fun r hr => Ok.pure hr
  · rw [h2 q hq]; split
    · right; omega
    · left; rfl
  · rw [h2 q hq]; split <;> simp_all
  · rw [h2 q hq] at h; split at h <;> omega
theorem moore_Ranks_ok (hN : 5000 ≤ N) (V : Valid p acc gd nd) (hB : board_Check N p acc gd nd s = some 0) (hs : (p, s.1, s.2) ∈ splits) :
    Ok (moore_Ranks N p acc gd nd s) fun r => r.2 = 0 ∧ MRanked (allS nd gd s.1 s.2 acc.length) acc.length (moves s.1).length (moves s.2).length acc r.1 := by
  unfold moore_Ranks
  rw [show (s.1, s.2) = s from rfl, begun_eq hN hB hs]
  simp only [Option.bind_some, Sum.elim_inr]
  rw [if_pos trivial]
  exact (mranks_ok hN V hs).bind fun r hr => Ok.pure ⟨rfl, hr⟩
theorem moore_Ranks_no {e : Int} (hB : board_Check N p acc gd nd s = some e) (he : e ≠ 0) : moore_Ranks N p acc gd nd s = some ([], e) := by
  unfold moore_Ranks
  rw [show (s.1, s.2) = s from rfl, begun_no hB he]
  simp only [Option.bind_some, Sum.elim_inl]
  rw [if_neg he]
theorem attract_Ranks_no {e : Int} (hB : board_Check N p acc gd nd s = some e) (he : e ≠ 0) : attract_Ranks N p acc gd nd s = some ([], e) := by
  unfold attract_Ranks attract_rows
  rw [show (s.1, s.2) = s from rfl, hB]
  simp only [Option.bind_some]
  rw [if_neg he]
  simp only [Option.bind_some]
  rw [if_neg he]
theorem Small_ok : Ok (law16_Small N p acc gd nd) fun r => r = true → p ≤ 4 := by
  unfold law16_Small
  repeat' (first | exact Ok.pure fun h => by cases h | exact Ok.pure fun _ => by omega | refine Ok.ite (fun _ => ?_) fun _ => ?_)
end
end Go.V
