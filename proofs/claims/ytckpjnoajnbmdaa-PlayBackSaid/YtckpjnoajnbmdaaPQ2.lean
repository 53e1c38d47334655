/- Plain theory: referees, begun and moved. No program. -/
import Derived.Test.YtckpjnoajnbmdaaPQ
set_option linter.all false
set_option linter.unusedVariables false
set_option maxRecDepth 100000
namespace Go.V
open Go

section
variable {N : Nat} {p : Int} {acc : List Bool} {gd : List Int} {nd : List Nd} {s : Int × Int} {wins : Bool} {ranks : List Int} {reply : List (List Int)} {choice : List Int}
theorem clone_i {xs : List Int} (h : xs.length ≤ 100000) : slices_Clone_int_int N xs = some xs := by
  unfold slices_Clone_int_int slices_Clone_int_int_some ask
  rw [if_pos (by simp; omega)]; rfl
theorem clone_l {xs : List Int} (h : xs.length ≤ 100000) : slices_Clone_api_Letter_api_Letter N xs = some xs := by
  unfold slices_Clone_api_Letter_api_Letter slices_Clone_api_Letter_api_Letter_some ask
  rw [if_pos (by simp; omega)]; rfl
theorem clone_b {xs : List Bool} (h : xs.length ≤ 100000) : slices_Clone_bool_bool N xs = some xs := by
  unfold slices_Clone_bool_bool slices_Clone_bool_bool_some ask
  rw [if_pos (by simp; omega)]; rfl
theorem clone_n {xs : List Nd} (h : xs.length ≤ 100000) : slices_Clone_api_Node_api_Node N xs = some xs := by
  unfold slices_Clone_api_Node_api_Node slices_Clone_api_Node_api_Node_some ask
  rw [if_pos (by simp; omega)]; rfl

theorem New_l0_ok (h1 : reply.length ≤ 100000) (h2 : ∀ i, i < reply.length → (reply.getD i []).length ≤ 100000) : ∀ (m : Nat) (out : List (List Int)) (x : Int), 0 ≤ x → x ≤ reply.length → (reply.length : Int) - x < m → out.length = x →
    play_New_l0 N reply m out x = some (out ++ reply.drop x.toNat)
  | 0, out, x, _, _, h, _ => by omega
  | m + 1, out, x, k0, k1, k2, k3 => by
    unfold play_New_l0
    by_cases hx : x < (reply.length : Int)
    · rw [if_pos hx]
      unfold ask
      rw [if_pos (by unfold idx; omega), clone_l (h2 _ (by omega))]
      simp only [Option.bind_some]
      rw [if_pos (by simp; omega), if_pos (by unfold in64; omega), New_l0_ok h1 h2 m _ (x + 1) (by omega) (by omega) (by omega) (by simp; omega), drop_getD (d := []) k0 hx]
      simp
    · rw [if_neg hx, List.drop_eq_nil_of_le (by omega), List.append_nil]

theorem New_ok (hN : 5000 ≤ N) (V : Valid p acc gd nd) (hB : board_Check N p acc gd nd s = some 0) (hs : (p, s.1, s.2) ∈ splits) (K : Kept (allS nd gd s.1 s.2 acc.length) acc.length (moves s.1).length (moves s.2).length acc s.1 s.2 wins ranks reply choice) :
    play_New N p acc gd nd s wins ranks reply choice = some (.inr (acc, gd, nd, ranks, reply, choice, 0)) := by
  have a2 := V.a2
  have gl := V.gl
  have nl := V.nl
  have rl := K.rl
  have pl := K.pl
  have cl := K.cl
  have hl := split_le hs
  have hm := moves_len hl.2.1
  unfold play_New
  rw [show (s.1, s.2) = s from rfl]
  obtain ⟨r, e, h1, h2⟩ := Check_ok (wins := wins) (ranks := ranks) (reply := reply) (choice := choice) hN V hB hs
  rw [e]
  simp only [Option.bind_some]
  rw [if_pos h1, if_pos (h2.2 K), clone_b (by omega), clone_i (by omega), clone_n (by omega), clone_i (by omega), clone_l (by omega)]
  simp only [Option.bind_some]
  have hr : ∀ i, i < reply.length → (reply.getD i []).length ≤ 100000 := fun i hi => by
    have st := K.st i (by omega)
    by_cases c : 0 < ranks.getD i 0
    · have := (st.2.2.2.2.1 c).1; omega
    · have := st.2.2.1 (by omega); omega
  rw [New_l0_ok (by omega) hr N [] 0 (by omega) (by omega) (by omega) rfl]
  rfl

theorem begun_ok (hN : 5000 ≤ N) (V : Valid p acc gd nd) (hB : board_Check N p acc gd nd s = some 0) (hs : (p, s.1, s.2) ∈ splits) :
    Ok (law25_begun N p acc gd nd s) fun x => ∃ wins ranks reply choice, x = .inr (acc, gd, nd, wins, ranks, reply, choice, wins, ranks, reply, choice, true) ∧ Kept (allS nd gd s.1 s.2 acc.length) acc.length (moves s.1).length (moves s.2).length acc s.1 s.2 wins ranks reply choice ∧ Ranked (allS nd gd s.1 s.2 acc.length) acc.length (moves s.1).length (moves s.2).length acc ranks := by
  unfold law25_begun
  rw [show (s.1, s.2) = s from rfl]
  refine (Of_ok hN V hB hs).bind fun r ⟨h1, K, R⟩ => ?_
  rw [New_ok hN V hB hs K]
  simp only [Option.bind_some, Sum.elim_inr]
  rw [if_pos h1, if_pos trivial]
  exact Ok.pure ⟨_, _, _, _, rfl, K, R⟩

/-! ### a move -/
/-- what a move does: it is over, it is refused, or it is played -/
inductive Moved (all : List (List (List Int))) (n : Nat) (acc : List Bool) (s : Int × Int) (wins : Bool) (ranks : List Int) (q : Int) (rounds : List (Int × Int)) (raw : Int) : Int × Int × Int × List (Int × Int) → Prop
  | over : acc.getD q.toNat false = true → Moved all n acc s wins ranks q rounds raw (0, 351, q, rounds)
  | no : acc.getD q.toNat false = false → raw ∉ moves (if wins = true then s.1 else s.2) → Moved all n acc s wins ranks q rounds raw (0, 14, q, rounds)
  | yes (l q2 : Int) : acc.getD q.toNat false = false → raw ∈ moves (if wins = true then s.1 else s.2) → 0 ≤ q2 → q2 < n → andV .u8 l (if wins = true then s.1 else s.2) = raw → (wins = true → 0 ≤ ranks.getD q2.toNat 0 ∧ ranks.getD q2.toNat 0 < ranks.getD q.toNat 0) → (wins = false → ranks.getD q2.toNat 0 = -1) → Moved all n acc s wins ranks q rounds raw (l, 0, q2, rounds ++ [(l, q)])

theorem mask_dec : ∀ x ∈ splits, (∀ a ∈ moves x.2.1, ∀ b ∈ moves x.2.2, andV .u8 (orV .u8 a b) x.2.1 = a ∧ andV .u8 (orV .u8 b a) x.2.2 = b) := by decide +kernel
theorem getD_mem2 {xs : List Int} {i : Nat} (h : i < xs.length) : xs.getD i 0 ∈ xs := by
  rw [List.getD_eq_getElem?_getD, List.getElem?_eq_getElem h]
  exact List.getElem_mem h
theorem mem_getD2 {xs : List Int} {x : Int} (h : x ∈ xs) : ∃ i, i < xs.length ∧ xs.getD i 0 = x := by
  obtain ⟨i, hi, rfl⟩ := List.mem_iff_getElem.1 h
  exact ⟨i, hi, by simp [List.getD_eq_getElem?_getD, List.getElem?_eq_getElem hi]⟩

theorem Move_ok (hN : 5000 ≤ N) (V : Valid p acc gd nd) (hs : (p, s.1, s.2) ∈ splits) (K : Kept (allS nd gd s.1 s.2 acc.length) acc.length (moves s.1).length (moves s.2).length acc s.1 s.2 wins ranks reply choice) {q : Int} (h0 : 0 ≤ q) (h1 : q < acc.length) (hw : wins = true → 0 ≤ ranks.getD q.toNat 0) (hl : wins = false → ranks.getD q.toNat 0 = -1) {rounds : List (Int × Int)} (hr : rounds.length < 1024) {raw : Int} (hraw : 0 ≤ raw ∧ raw ≤ 18446744073709551615) :
    Ok (play_Referee_Move N p acc gd nd s wins ranks reply choice q rounds true raw) fun r => Moved (allS nd gd s.1 s.2 acc.length) acc.length acc s wins ranks q rounds raw r := by
  have G := allS_game (N := N) hN V hs
  have sl := split_le hs
  have rl := K.rl
  have pl := K.pl
  have cl := K.cl
  have gl := V.gl
  have hq : q.toNat < acc.length := by omega
  obtain ⟨st1, st2, st3, st4, st5, st6⟩ := K.st q.toNat hq
  unfold play_Referee_Move play_Referee_none
  simp only [Option.bind_some, Bool.not_true, Bool.false_eq_true, if_false]
  have hj : play_Referee_Move_j0 N s wins = some (if wins = true then s.1 else s.2) := by
    unfold play_Referee_Move_j0; split <;> rfl
  rw [hj]
  simp only [Option.bind_some]
  have hov : play_Referee_Over N p acc gd nd (s.1, s.2) wins ranks reply choice q rounds true = some (acc.getD q.toNat false) := by
    unfold play_Referee_Over play_Referee_none
    simp only [Option.bind_some, Bool.not_true, Bool.false_eq_true, if_false]
    unfold ask
    rw [if_pos (by unfold idx; omega)]
  rw [hov]
  simp only [Option.bind_some]
  have hmask : 0 ≤ (if wins = true then s.1 else s.2) ∧ (if wins = true then s.1 else s.2) ≤ 7 := by split <;> omega
  refine Ok.ite (fun ha => Ok.pure (.over ha)) fun ha => ?_
  have ha' : acc.getD q.toNat false = false := by simpa using ha
  rw [u64_id (by omega)]
  have hri := raw_iff hraw hmask
  refine Ok.ite (fun hm => ?_) fun hm => Ok.pure (.no ha' fun h => hm (hri.2 h))
  have hmem := hri.1 hm
  rw [if_neg (by omega)]
  have hne : ranks.getD q.toNat 0 ≠ 0 := fun h => ha (st2.1 h)
  obtain ⟨k, hk, hkm⟩ := mem_getD2 hmem
  have hr8 : 0 ≤ raw ∧ raw ≤ 7 := by
    obtain ⟨b, hb⟩ := Int.eq_ofNat_of_zero_le hmask.1
    rw [hb] at hmem
    exact moves_le ⟨b, by omega⟩ raw hmem
  have hu8 : IntKind.u8.wrap raw = raw := by
    unfold IntKind.wrap IntKind.bits IntKind.signed
    simp only [Bool.false_and]
    simp; omega
  rw [hu8]
  have fin : ∀ (l : Int) (i j : Nat), i < (moves s.1).length → j < (moves s.2).length → orV .u8 ((moves s.1).getD i 0) ((moves s.2).getD j 0) = l → andV .u8 l (if wins = true then s.1 else s.2) = raw → (wins = true → 0 ≤ ranks.getD (to (allS nd gd s.1 s.2 acc.length) q.toNat i j) 0 ∧ ranks.getD (to (allS nd gd s.1 s.2 acc.length) q.toNat i j) 0 < ranks.getD q.toNat 0) → (wins = false → ranks.getD (to (allS nd gd s.1 s.2 acc.length) q.toNat i j) 0 = -1) →
      Ok (ask (List.length rounds + List.length ([(l, q)] : List (Int × Int)) ≤ 1000000000) <| ask (idx q (List.length gd)) <| Option.bind (guard_Go N nd (List.getD gd (Int.toNat q) 0) l) fun r281 => some (l, (0 : Int), r281.1, rounds ++ ([(l, q)] : List (Int × Int)))) fun r => Moved (allS nd gd s.1 s.2 acc.length) acc.length acc s wins ranks q rounds raw r := fun l i j hi hj2 hlv hand f1 f2 => by
    refine Ok.ask (by simp; omega) (Ok.ask (by unfold idx; omega) ?_)
    obtain ⟨g1, g2, g3⟩ := guard_Go_ok (N := N) hN V l h0 h1
    rw [g1]
    have et : to (allS nd gd s.1 s.2 acc.length) q.toNat i j = (go nd (gd.getD q.toNat 0) l).toNat := by
      unfold to
      rw [allS_get hq, (rowsS_row hi).2 j hj2, hlv]
      rw [Int.toNat_natCast]
    rw [et] at f1 f2
    exact Ok.pure (.yes l _ ha' hmem g2 g3 hand f1 f2)
  have md := mask_dec (p, s.1, s.2) hs
  unfold play_Referee_letter
  by_cases hwin : wins = true
  · rw [if_pos hwin] at hk hkm
    have hpos : 0 < ranks.getD q.toNat 0 := by have := hw hwin; omega
    obtain ⟨hpl, hrep⟩ := st5 hpos
    obtain ⟨k', hk', e1, e2, e3⟩ := hrep k hk
    rw [if_pos hwin]
    have hn : board_Number N s.1 raw = some ((k : Int), 0) := by
      rw [← hkm]; exact board_Number_at hN sl.2.1 (i := (k : Int)) (by omega) (by omega)
    rw [show ((s.1, s.2) : Int × Int).1 = s.1 from rfl, hn]
    simp only [Option.bind_some]
    unfold ask
    rw [if_pos (by unfold idx; omega), if_pos (by unfold idx; omega)]
    simp only [Option.bind_some, Int.toNat_natCast]
    have := fin (orV .u8 raw ((reply.getD q.toNat []).getD k 0)) k k' hk hk' (by rw [hkm, e1]) (by rw [if_pos hwin, ← hkm, ← e1]; exact (md _ (getD_mem2 hk) _ (getD_mem2 hk')).1) (fun _ => ⟨e2, e3⟩) (fun h => by rw [hwin] at h; cases h)
    unfold ask at this
    exact this
  · have hlose : wins = false := by simpa using hwin
    rw [if_neg hwin] at hk hkm
    obtain ⟨i, hi, e1, e2⟩ := st6 (by have := hl hlose; omega)
    rw [if_neg hwin]
    unfold ask
    rw [if_pos (by unfold idx; omega)]
    simp only [Option.bind_some]
    have := fin (orV .u8 raw (choice.getD q.toNat 0)) i k hi hk (by rw [hkm, e1, orV_comm]) (by rw [if_neg hwin, ← hkm, ← e1]; exact (md _ (getD_mem2 hi) _ (getD_mem2 hk)).2) (fun h => absurd h hwin) (fun _ => e2 k hk)
    unfold ask at this
    exact this
end
end Go.V
