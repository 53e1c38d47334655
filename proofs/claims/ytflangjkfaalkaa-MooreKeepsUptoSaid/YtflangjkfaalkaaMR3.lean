/- Plain theory: the system chooses first: plays. No program. -/
import Derived.Test.YtflangjkfaalkaaMR2
set_option linter.all false
set_option linter.unusedVariables false
set_option maxRecDepth 100000
namespace Go.V
open Go

/-- a play, as far as it has come -/
structure MPath (acc : List Bool) (wins : Bool) (ranks : List Int) (ps : List Int) : Prop where
  ne : 1 ≤ ps.length
  inn : ∀ j, j < ps.length → 0 ≤ ps.getD j 0 ∧ ps.getD j 0 < acc.length
  fall : wins = true → ∀ j, j < ps.length → 0 ≤ ranks.getD (ps.getD j 0).toNat 0 ∧ ranks.getD (ps.getD j 0).toNat 0 + j ≤ ranks.getD 0 0
  dec : wins = true → ∀ j, 0 < j → j < ps.length → ranks.getD (ps.getD j 0).toNat 0 < ranks.getD (ps.getD (j - 1) 0).toNat 0
  lose : wins = false → ∀ j, j < ps.length → ranks.getD (ps.getD j 0).toNat 0 = -1

section
variable {N : Nat} {p : Int} {acc : List Bool} {gd : List Int} {nd : List Nd} {s : Int × Int} {wins : Bool} {ranks : List Int} {choice : List Int} {reply : List (List Int)}
theorem MPath.snoc {ps : List Int} {q q2 : Int} (P : MPath acc wins ranks ps) (hl : ps.getD (ps.length - 1) 0 = q) (h2 : 0 ≤ q2 ∧ q2 < acc.length) (hw : wins = true → 0 ≤ ranks.getD q2.toNat 0 ∧ ranks.getD q2.toNat 0 < ranks.getD q.toNat 0) (hn : wins = false → ranks.getD q2.toNat 0 = -1) : MPath acc wins ranks (ps ++ [q2]) := by
  have ne := P.ne
  refine ⟨by simp, fun j hj => ?_, fun w j hj => ?_, fun w j h0 hj => ?_, fun w j hj => ?_⟩ <;> have hj' : j < ps.length + 1 := by simpa using hj
  · rw [snoc_getD]
    split
    · exact h2
    · exact P.inn j (by omega)
  · rw [snoc_getD]
    split
    · have a := P.fall w (ps.length - 1) (by omega)
      rw [hl] at a
      have := hw w
      omega
    · exact P.fall w j (by omega)
  · rw [snoc_getD, snoc_getD, if_neg (show ¬ j - 1 = ps.length by omega)]
    by_cases c : j = ps.length
    · rw [if_pos c, c, hl]
      exact (hw w).2
    · rw [if_neg c]
      exact P.dec w j h0 (by omega)
  · rw [snoc_getD]
    split
    · exact hn w
    · exact P.lose w j (by omega)

theorem mPlay_l1_ok (hN : 5000 ≤ N) (V : Valid p acc gd nd) (hs : (p, s.1, s.2) ∈ splits) (K : MKept (allS nd gd s.1 s.2 acc.length) acc.length (moves s.1).length (moves s.2).length acc s.1 s.2 wins ranks choice reply) {ms : List Int} (hms : ms.length ≤ 1024) (hin : ∀ j, j < ms.length → ∃ k, k < (moves (if wins = true then s.1 else s.2)).length ∧ (moves (if wins = true then s.1 else s.2)).getD k 0 = ms.getD j 0) :
    ∀ (m : Nat) (out : List Int) (q i : Int), 0 ≤ i → i ≤ ms.length → (ms.length : Int) - i < m → (out.length : Int) = i + 1 → out.getD (out.length - 1) 0 = q → MPath acc wins ranks out →
    Ok (moore_Play_l1 N acc wins choice reply ms (gm p acc gd nd s, 0) (if wins = true then s.1 else s.2) m out q i) fun r => ∃ ps, r = .inl ps ∧ MPath acc wins ranks ps ∧ ps.length ≤ ms.length + 1 ∧ (ps.length = ms.length + 1 ∨ acc.getD (ps.getD (ps.length - 1) 0).toNat false = true)
  | 0, out, q, i, _, _, h, _, _, _ => by omega
  | m + 1, out, q, i, k0, k1, k2, k3, k4, P => by
    have sl := split_le hs
    have G := allS_game (N := N) hN V hs
    have rl := K.rl
    have cl := K.cl
    have pl := K.pl
    have hmask : 0 ≤ (if wins = true then s.1 else s.2) ∧ (if wins = true then s.1 else s.2) ≤ 15 := by split <;> omega
    have hq := P.inn (out.length - 1) (by omega)
    rw [k4] at hq
    unfold moore_Play_l1
    refine Ok.ite (fun hi => ?_) fun hi => Ok.pure ⟨out, rfl, P, by omega, .inl (by omega)⟩
    refine Ok.ask (by unfold idx; omega) ?_
    refine Ok.ite (fun ha => Ok.pure ⟨out, rfl, P, by omega, .inr (by rw [k4]; exact ha)⟩) fun ha => ?_
    refine Ok.ask (by unfold idx; omega) ?_
    obtain ⟨k, hk, hkm⟩ := hin i.toNat (by omega)
    have hnum := board_Number_at hN hmask (i := (k : Int)) (by omega) (by omega)
    rw [Int.toNat_natCast, hkm] at hnum
    rw [hnum]
    simp only [Option.bind_some]
    rw [if_pos trivial]
    refine Ok.ask (by unfold idx; omega) ?_
    have st := K.st q.toNat (by omega)
    have hne : ranks.getD q.toNat 0 ≠ 0 := fun h => ha (st.zero.1 h)
    have eq_ : ((q.toNat : Nat) : Int) = q := by omega
    have fin : ∀ own : Int, ∀ q2 : Int, moore_game_to N (gm p acc gd nd s) q (orV .u8 own (ms.getD i.toNat 0)) = some q2 → 0 ≤ q2 ∧ q2 < acc.length → (wins = true → 0 ≤ ranks.getD q2.toNat 0 ∧ ranks.getD q2.toNat 0 < ranks.getD q.toNat 0) → (wins = false → ranks.getD q2.toNat 0 = -1) →
        Ok (Option.bind (moore_game_to N (gm p acc gd nd s) q (orV .u8 own (ms.getD i.toNat 0))) fun r291 => ask (out.length + ([r291] : List Int).length ≤ 1000000000) <| ask (in64 (i + 1)) <| moore_Play_l1 N acc wins choice reply ms (gm p acc gd nd s, 0) (if wins = true then s.1 else s.2) m (out ++ ([r291] : List Int)) r291 (i + 1)) fun r => ∃ ps, r = .inl ps ∧ MPath acc wins ranks ps ∧ ps.length ≤ ms.length + 1 ∧ (ps.length = ms.length + 1 ∨ acc.getD (ps.getD (ps.length - 1) 0).toNat false = true) := fun own q2 e b1 b2 b3 => by
      rw [e]
      simp only [Option.bind_some]
      refine Ok.ask (by simp; omega) (Ok.ask (by unfold in64; omega) ?_)
      exact mPlay_l1_ok hN V hs K hms hin m _ q2 (i + 1) (by omega) (by omega) (by omega) (by simp; omega) (by rw [snoc_getD, if_pos (by simp)]) (P.snoc k4 b1 b2 b3)
    unfold moore_Play_j2
    by_cases hwin : wins = true
    · rw [if_pos hwin] at hk hkm
      rw [if_pos hwin]
      simp only [Option.bind_some]
      have hf := P.fall hwin (out.length - 1) (by omega)
      rw [k4] at hf
      obtain ⟨k', hk', hc, hw⟩ := st.pos (by omega)
      obtain ⟨t1, t2, t3⟩ := mto_ok (N := N) (s := s) hN V hq.1 hq.2 (orV .u8 ((moves s.2).getD k' 0) ((moves s.1).getD k 0))
      rw [hc]
      refine fin _ _ (by rw [← hkm]; exact t1) ⟨t2, t3⟩ (fun _ => ?_) fun h => by rw [hwin] at h; cases h
      rw [show (go nd (gd.getD q.toNat 0) (orV .u8 ((moves s.2).getD k' 0) ((moves s.1).getD k 0))).toNat = dst nd gd s q ((moves s.2).getD k' 0) k from rfl, dst_to' hq.1 hq.2 hk hk']
      exact hw k hk
    · have hlose : wins = false := by simpa using hwin
      rw [if_neg hwin] at hk hkm
      rw [if_neg hwin]
      have hf := P.lose hlose (out.length - 1) (by omega)
      rw [k4] at hf
      obtain ⟨n1, n2⟩ := st.neg (by omega)
      obtain ⟨i', hi', hc, hw⟩ := n2 k hk
      unfold ask
      rw [if_pos (by unfold idx; omega), if_pos (by unfold idx; omega)]
      simp only [Option.bind_some, Int.toNat_natCast]
      obtain ⟨t1, t2, t3⟩ := mto_ok (N := N) (s := s) hN V hq.1 hq.2 (orV .u8 ((moves s.1).getD i' 0) ((moves s.2).getD k 0))
      rw [hc]
      have := fin _ _ (by rw [← hkm]; exact t1) ⟨t2, t3⟩ (fun h => absurd h hwin) fun _ => by
        rw [orV_cm, show (go nd (gd.getD q.toNat 0) (orV .u8 ((moves s.2).getD k 0) ((moves s.1).getD i' 0))).toNat = dst nd gd s q ((moves s.2).getD k 0) i' from rfl, dst_to' hq.1 hq.2 hi' hk]
        exact hw
      unfold ask at this
      exact this
theorem mPlay_ok (hN : 5000 ≤ N) (V : Valid p acc gd nd) (hB : board_Check N p acc gd nd s = some 0) (hs : (p, s.1, s.2) ∈ splits) (K : MKept (allS nd gd s.1 s.2 acc.length) acc.length (moves s.1).length (moves s.2).length acc s.1 s.2 wins ranks choice reply) {ms : List Int} (hms : ms.length ≤ 1000) (hin : ∀ j, j < ms.length → ∃ k, k < (moves (if wins = true then s.1 else s.2)).length ∧ (moves (if wins = true then s.1 else s.2)).getD k 0 = ms.getD j 0) :
    Ok (moore_Play N p acc gd nd s wins ranks choice reply ms) fun r => r.2 = 0 ∧ MPath acc wins ranks r.1 ∧ r.1.length ≤ ms.length + 1 ∧ (r.1.length = ms.length + 1 ∨ acc.getD (r.1.getD (r.1.length - 1) 0).toNat false = true) := by
  have a1 := V.a1
  have st0 := K.st 0 (by omega)
  have kw := K.wins
  unfold moore_Play
  rw [show (s.1, s.2) = s from rfl, begun_eq hN hB hs]
  simp only [Option.bind_some, Sum.elim_inr]
  rw [if_pos trivial, mall_ok hN V hs K]
  simp only [Option.bind_some, if_true]
  rw [if_neg (by omega)]
  have hj : moore_Play_j0 N s wins = some (if wins = true then s.1 else s.2) := by
    unfold moore_Play_j0; split <;> rfl
  rw [hj]
  simp only [Option.bind_some]
  refine (mPlay_l1_ok hN V hs K (by omega) hin N [0] 0 0 (by omega) (by omega) (by omega) rfl rfl ⟨by simp, fun j hj => ?_, fun w j hj => ?_, fun w j h0 hj => ?_, fun w j hj => ?_⟩).bind fun r ⟨ps, e, h1, h2, h3⟩ => ?_
  · have : j = 0 := by simpa using hj
    subst this
    exact ⟨by decide, by show (0 : Int) < _; omega⟩
  · have : j = 0 := by simpa using hj
    subst this
    rw [w] at kw
    have : 0 ≤ ranks.getD 0 0 := by simpa using kw
    exact ⟨this, by show ranks.getD 0 0 + 0 ≤ _; omega⟩
  · have : j = 0 := by simpa using hj
    omega
  · have : j = 0 := by simpa using hj
    subst this
    rw [w] at kw
    have h3 : ¬ 0 ≤ ranks.getD 0 0 := by simpa using kw
    have := st0.lo
    show ranks.getD 0 0 = -1
    omega
  · subst e
    exact Ok.pure ⟨rfl, h1, h2, h3⟩
end
end Go.V
