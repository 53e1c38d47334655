/- Plain theory: plays. No program. -/
import Derived.Test.YtclijiacfmljlaaPS3
set_option linter.all false
set_option linter.unusedVariables false
namespace Go.V
open Go

/-- the states of a play -/
structure Path (ranks : List Int) (acc : List Bool) (n : Nat) (wins : Bool) (o : List Int) : Prop where
  ne : 1 ≤ o.length
  first : o.getD 0 0 = 0
  inn : ∀ i, i < o.length → 0 ≤ o.getD i 0 ∧ o.getD i 0 < n
  win : wins = true → ∀ i, i < o.length → 0 ≤ ranks.getD (o.getD i 0).toNat 0
  less : wins = true → ∀ i, i + 1 < o.length → ranks.getD (o.getD (i + 1) 0).toNat 0 < ranks.getD (o.getD i 0).toNat 0
  fall : wins = true → ranks.getD (o.getD (o.length - 1) 0).toNat 0 + (o.length - 1 : Nat) ≤ ranks.getD 0 0
  lose : wins = false → ∀ i, i < o.length → ranks.getD (o.getD i 0).toNat 0 = -1

section
variable {N : Nat} {p : Int} {acc : List Bool} {gd : List Int} {nd : List Nd} {s : Int × Int} {wins : Bool} {ranks : List Int} {reply : List (List Int)} {choice : List Int} {mv : List Int} {n : Nat}

theorem Path.snoc {o : List Int} (P : Path ranks acc n wins o) {v : Int} (hv : 0 ≤ v ∧ v < n) (hw : wins = true → 0 ≤ ranks.getD v.toNat 0 ∧ ranks.getD v.toNat 0 < ranks.getD (o.getD (o.length - 1) 0).toNat 0) (hl : wins = false → ranks.getD v.toNat 0 = -1) : Path ranks acc n wins (o ++ [v]) := by
  have ne := P.ne
  have len : (o ++ [v]).length = o.length + 1 := by simp
  refine ⟨by omega, ?_, fun i hi => ?_, fun h i hi => ?_, fun h i hi => ?_, fun h => ?_, fun h i hi => ?_⟩
  · rw [getD_snoc, if_neg (by omega)]; exact P.first
  · rw [getD_snoc]
    by_cases c : i = o.length
    · rw [if_pos c]; exact hv
    · rw [if_neg c]; exact P.inn i (by omega)
  · rw [getD_snoc]
    by_cases c : i = o.length
    · rw [if_pos c]; exact (hw h).1
    · rw [if_neg c]; exact P.win h i (by omega)
  · rw [getD_snoc, getD_snoc, if_neg (show ¬ i = o.length by omega)]
    by_cases c : i + 1 = o.length
    · rw [if_pos c, show i = o.length - 1 by omega]; exact (hw h).2
    · rw [if_neg c]; exact P.less h i (by omega)
  · have := P.fall h
    rw [getD_snoc, len, if_pos (by omega)]
    have := hw h
    omega
  · rw [getD_snoc]
    by_cases c : i = o.length
    · rw [if_pos c]; exact hl h
    · rw [if_neg c]; exact P.lose h i (by omega)

theorem Play_l0_ok (hN : 5000 ≤ N) (V : Valid p acc gd nd) (hB : board_Check N p acc gd nd s = some 0) (hs : (p, s.1, s.2) ∈ splits) (K : Kept (allS nd gd s.1 s.2 acc.length) acc.length (moves s.1).length (moves s.2).length acc s.1 s.2 wins ranks reply choice)
    (hmv : ∀ i, i < mv.length → ∃ k, k < (moves (if wins = true then s.1 else s.2)).length ∧ (moves (if wins = true then s.1 else s.2)).getD k 0 = mv.getD i 0) (hml : mv.length ≤ 1024) : ∀ (m : Nat) (q : Int) (o : List Int) (x : Int), 0 ≤ x → x ≤ mv.length → (mv.length : Int) - x < m → o.length = x + 1 → q = o.getD (o.length - 1) 0 → Path ranks acc acc.length wins o →
    Ok (strat_Play_l0 N p acc gd nd s wins reply choice mv m q o x) fun r => ∃ o', r = .inl o' ∧ Path ranks acc acc.length wins o' ∧ o'.length ≤ mv.length + 1 ∧ (o'.length = mv.length + 1 ∨ acc.getD (o'.getD (o'.length - 1) 0).toNat false = true)
  | 0, q, o, x, _, _, h, _, _, _ => by omega
  | m + 1, q, o, x, k0, k1, k2, k3, k4, P => by
    have G := allS_game (N := N) hN V hs
    have hl := split_le hs
    have a2 := V.a2
    have E8 := G.E8
    have S8 := G.S8
    unfold strat_Play_l0
    refine Ok.ite (fun hx => ?_) fun hx => Ok.pure ⟨o, rfl, P, by omega, .inl (by omega)⟩
    refine Ok.ask (by unfold idx; omega) ?_
    have hq := P.inn (o.length - 1) (by omega)
    rw [← k4] at hq
    refine Ok.ask (by unfold idx; omega) ?_
    refine Ok.ite (fun hacc => Ok.pure ⟨o, rfl, P, by omega, .inr (by rw [← k4]; exact hacc)⟩) fun hacc => ?_
    have hj : strat_Play_j1 N s wins = some (if wins = true then s.1 else s.2) := by
      unfold strat_Play_j1; split <;> rfl
    rw [hj]
    simp only [Option.bind_some]
    obtain ⟨k, hk, hkm⟩ := hmv x.toNat (by omega)
    have hmask : 0 ≤ (if wins = true then s.1 else s.2) ∧ (if wins = true then s.1 else s.2) ≤ 7 := by split <;> omega
    have hnum : board_Number N (if wins = true then s.1 else s.2) (mv.getD x.toNat 0) = some ((k : Int), 0) := by
      rw [← hkm]; exact board_Number_at hN hmask (i := (k : Int)) (by omega) (by omega)
    rw [hnum]
    simp only [Option.bind_some]
    rw [if_pos trivial, show (s.1, s.2) = s from rfl, board_Goes_eq hN V hB hs hq.1 hq.2]
    simp only [Option.bind_some]
    obtain ⟨st1, st2, st3, st4, st5, st6⟩ := K.st q.toNat (by omega)
    have hne : ranks.getD q.toNat 0 ≠ 0 := fun h => hacc (st2.1 h)
    have rows_all : rowsS nd gd s.1 s.2 q = (allS nd gd s.1 s.2 acc.length).getD q.toNat [] := by
      rw [allS_get (by omega), show ((q.toNat : Nat) : Int) = q by omega]
    have pl := K.pl
    have cl := K.cl
    refine Ok.ite (fun hw => ?_) fun hw => ?_
    · rw [if_pos hw] at hk hkm
      have hpos : 0 < ranks.getD q.toNat 0 := by
        have := P.win hw (o.length - 1) (by omega)
        rw [← k4] at this; omega
      obtain ⟨hpl, hrep⟩ := st5 hpos
      obtain ⟨k', hk', h1, h2, h3⟩ := hrep k hk
      refine Ok.ask (by unfold idx; omega) (Ok.ask (by unfold idx; omega) ?_)
      have hn2 : board_Number N s.2 ((reply.getD q.toNat []).getD (Int.toNat (k : Int)) 0) = some ((k' : Int), 0) := by
        simp only [Int.toNat_natCast]
        rw [← h1]; exact board_Number_at hN hl.2.2 (i := (k' : Int)) (by omega) (by omega)
      rw [hn2]
      simp only [Option.bind_some, Int.toNat_natCast]
      rw [rows_all]
      have hin := G.into q.toNat k k' (by omega) hk hk'
      refine Ok.ask (by unfold idx; rw [G.rows _ (by omega)]; omega) (Ok.ask (by unfold idx; rw [G.row _ _ (by omega) hk]; omega) (Ok.ask (by simp; omega) (Ok.ask (by unfold in64; omega) ?_)))
      refine Play_l0_ok hN V hB hs K hmv hml m _ _ (x + 1) (by omega) (by omega) (by omega) (by simp; omega) (by rw [getD_snoc, if_pos (by simp)]) (P.snoc hin (fun _ => ⟨h2, ?_⟩) fun h => (by rw [hw] at h; cases h))
      rw [← k4]; exact h3
    · have hw' : wins = false := by simpa using hw
      rw [if_neg hw] at hk hkm
      have hneg : ranks.getD q.toNat 0 = -1 := by
        have := P.lose hw' (o.length - 1) (by omega)
        rw [← k4] at this; exact this
      obtain ⟨i, hi, h1, h2⟩ := st6 (by omega)
      refine Ok.ask (by unfold idx; omega) ?_
      have hn2 : board_Number N s.1 (choice.getD q.toNat 0) = some ((i : Int), 0) := by
        rw [← h1]; exact board_Number_at hN hl.2.1 (i := (i : Int)) (by omega) (by omega)
      rw [hn2]
      simp only [Option.bind_some, Int.toNat_natCast]
      rw [rows_all]
      have hin := G.into q.toNat i k (by omega) hi hk
      refine Ok.ask (by unfold idx; rw [G.rows _ (by omega)]; omega) (Ok.ask (by unfold idx; rw [G.row _ _ (by omega) hi]; omega) (Ok.ask (by simp; omega) (Ok.ask (by unfold in64; omega) ?_)))
      exact Play_l0_ok hN V hB hs K hmv hml m _ _ (x + 1) (by omega) (by omega) (by omega) (by simp; omega) (by rw [getD_snoc, if_pos (by simp)]) (P.snoc hin (fun h => absurd h hw) fun _ => h2 k hk)

theorem Play_ok (hN : 5000 ≤ N) (V : Valid p acc gd nd) (hB : board_Check N p acc gd nd s = some 0) (hs : (p, s.1, s.2) ∈ splits) (K : Kept (allS nd gd s.1 s.2 acc.length) acc.length (moves s.1).length (moves s.2).length acc s.1 s.2 wins ranks reply choice)
    (hmv : ∀ i, i < mv.length → ∃ k, k < (moves (if wins = true then s.1 else s.2)).length ∧ (moves (if wins = true then s.1 else s.2)).getD k 0 = mv.getD i 0) (hml : mv.length ≤ 1024) :
    Ok (strat_Play N p acc gd nd s wins ranks reply choice mv) fun r => r.2 = 0 ∧ Path ranks acc acc.length wins r.1 ∧ r.1.length ≤ mv.length + 1 ∧ (r.1.length = mv.length + 1 ∨ acc.getD (r.1.getD (r.1.length - 1) 0).toNat false = true) := by
  have a1 := V.a1
  unfold strat_Play
  rw [show (s.1, s.2) = s from rfl]
  refine (Check_ok hN V hB hs).bind fun r ⟨h1, h2⟩ => ?_
  rw [if_pos h1, if_pos (h2.2 K), if_neg (by omega)]
  have hw := K.wins
  have hst := K.st 0 (by omega)
  refine (Play_l0_ok hN V hB hs K hmv hml N 0 [0] 0 (by omega) (by omega) (by omega) rfl rfl ⟨by simp, rfl, fun i hi => ?_, fun h i hi => ?_, fun h i hi => ?_, fun h => ?_, fun h i hi => ?_⟩).bind fun x hx => ?_
  · have : i = 0 := by simpa using hi
    subst this; simp; omega
  · have : i = 0 := by simpa using hi
    subst this
    rw [h] at hw
    simpa using hw.symm
  · simp at hi
  · simp
  · have : i = 0 := by simpa using hi
    subst this
    rw [h] at hw
    have h3 : ¬ 0 ≤ ranks.getD 0 0 := by simpa using hw.symm
    have := hst.1
    show ranks.getD 0 0 = -1
    omega
  · obtain ⟨o, rfl, P, h3, h4⟩ := hx
    exact Ok.pure ⟨rfl, P, h3, h4⟩

theorem Play_no (hN : 5000 ≤ N) (V : Valid p acc gd nd) (hB : board_Check N p acc gd nd s = some 0) (hs : (p, s.1, s.2) ∈ splits) (K : ¬ Kept (allS nd gd s.1 s.2 acc.length) acc.length (moves s.1).length (moves s.2).length acc s.1 s.2 wins ranks reply choice) :
    strat_Play N p acc gd nd s wins ranks reply choice mv = some ([], 340) := by
  unfold strat_Play
  rw [show (s.1, s.2) = s from rfl]
  obtain ⟨r, e, h1, h2⟩ := Check_ok (wins := wins) (ranks := ranks) (reply := reply) (choice := choice) hN V hB hs
  rw [e]
  simp only [Option.bind_some]
  rw [if_pos h1, if_neg fun h => K (h2.1 h)]

/-! ### what the laws draw -/
theorem Pick_ok {N : Nat} {x n : Int} (h1 : 1 ≤ n) (h2 : n ≤ 1000000) : Ok (kit_Pick N x n) fun r => 0 ≤ r ∧ r < n := by
  have k1 := Int.tmod_lt_of_pos x (show 0 < n by omega)
  have k2 := Int.lt_tmod_of_pos x (show 0 < n by omega)
  unfold kit_Pick
  refine Ok.ite (fun h => by omega) fun _ => Ok.ask (by omega) (Ok.ite (fun h => Ok.ask (by unfold in64; omega) (Ok.pure (by omega))) fun h => Ok.pure (by omega))

theorem choices_l0_ok {ll ms : List Int} (h1 : 1 ≤ ms.length) (h8 : ms.length ≤ 8) : ∀ (m : Nat) (out : List Int) (i : Int), 0 ≤ i → i ≤ 40 → 40 - i < m → out.length = i → (∀ j, j < out.length → ∃ k, k < ms.length ∧ ms.getD k 0 = out.getD j 0) →
    Ok (law24_choices_l0 N ll ms m out i) fun r => r.length ≤ 40 ∧ ∀ j, j < r.length → ∃ k, k < ms.length ∧ ms.getD k 0 = r.getD j 0
  | 0, out, i, _, _, h, _, _ => by omega
  | m + 1, out, i, k0, k1, k2, k3, k4 => by
    unfold law24_choices_l0
    refine Ok.ite (fun hi => ?_) fun _ => Ok.pure ⟨by omega, k4⟩
    refine Ok.ite (fun hi2 => ?_) fun _ => Ok.pure ⟨by omega, k4⟩
    refine Ok.ite (fun hi3 => ?_) fun _ => Ok.pure ⟨by omega, k4⟩
    refine Ok.ask (by unfold idx; omega) ?_
    refine (Pick_ok (by omega) (by omega)).bind fun r ⟨r0, r1⟩ => ?_
    refine Ok.ask (by unfold idx; omega) (Ok.ask (by simp; omega) (Ok.ask (by unfold in64; omega) ?_))
    refine choices_l0_ok h1 h8 m _ (i + 1) (by omega) (by omega) (by omega) (by simp; omega) fun j hj => ?_
    rw [getD_snoc]
    by_cases c : j = out.length
    · rw [if_pos c]; exact ⟨r.toNat, by omega, rfl⟩
    · rw [if_neg c]
      have : j < out.length + 1 := by simpa using hj
      exact k4 j (by omega)
theorem choices_ok (hN : 5000 ≤ N) {mask : Int} (h : 0 ≤ mask ∧ mask ≤ 7) {ll : List Int} : Ok (law24_choices N mask ll) fun r => r.length ≤ 40 ∧ ∀ j, j < r.length → ∃ k, k < (moves mask).length ∧ (moves mask).getD k 0 = r.getD j 0 := by
  have hm := moves_len h
  unfold law24_choices
  rw [moves_n hN h]
  simp only [Option.bind_some]
  refine (choices_l0_ok hm.1 hm.2 N [] 0 (by omega) (by omega) (by omega) rfl fun j hj => by simp at hj).bind fun r hr => Ok.pure hr

theorem Large_ok : Ok (law19_Large N p acc gd nd) fun r => r = true ∨ p ≤ 3 ∨ 8 < p := by
  unfold law19_Large
  repeat' (first | exact Ok.pure (.inl rfl) | exact Ok.pure (.inr (by omega)) | refine Ok.ite (fun _ => ?_) fun _ => ?_)
theorem Real_ok (V : Valid p acc gd nd) : law19_Real N p acc gd nd = some true := by
  have a1 := V.a1
  have gl := V.gl
  unfold law19_Real
  rw [if_pos (by omega)]
  simp [gl]
end
end Go.V
