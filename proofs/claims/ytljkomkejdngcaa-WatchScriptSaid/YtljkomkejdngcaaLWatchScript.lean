/- The plain law WatchScript. No condition. -/
import Derived.Test.YtljkomkejdngcaaBWatchScript
import Derived.Test.YtljkomkejdngcaaRJ
import Derived.Test.YtljkomkejdngcaaLK
import Derived.Test.YtljkomkejdngcaaV9
set_option linter.all false
set_option linter.unusedVariables false
set_option maxRecDepth 1000000
namespace Go.V
open Go Go.Proofs
section
variable {N : Nat} {p : Int} {acc : List Bool} {gd : List Int} {nd : List Nd}
theorem Fits_inv (hp : 0 ≤ p ∧ p ≤ 8) {x : Int} (hx : 0 ≤ x ∧ x ≤ 255) : Ok (letter_Fits N p x) fun b => b = true → x < two p := by
  have sh := shl_two hp
  unfold letter_Fits letter_number
  rw [if_pos hp.1]
  simp only [Option.bind_some]
  rw [if_pos (decide_eq_true hp.2)]
  refine Ok.ask (by unfold in64; omega) (Ok.ask hp.1 (Ok.pure fun h => ?_))
  have h2 : shrV .i64 x p = 0 := by simpa using h
  unfold shrV at h2
  have hb : min p.toNat IntKind.i64.bits = p.toNat := Nat.min_eq_left (by show p.toNat ≤ 64; omega)
  rw [hb, show ((2 : Int) ^ p.toNat) = (two p : Int) by unfold two; simp, Int.fdiv_eq_ediv_of_nonneg _ (by omega)] at h2
  have h3 := Int.emod_lt_of_pos x (show (0 : Int) < (two p : Int) by omega)
  have h4 := Int.emod_add_mul_ediv x (two p : Int)
  rw [h2] at h4
  omega
theorem dropW {t : List Nat} {x : Nat} (ha : x < t.length) : t.drop x = t.getD x 0 :: t.drop (x + 1) := by
  rw [List.drop_eq_getElem_cons ha, List.getD_eq_getElem?_getD, List.getElem?_eq_getElem ha]
  rfl
theorem getD_mw {t : List Nat} {x : Nat} (ha : x < t.length) : (t.map fun l : Nat => (l : Int)).getD x 0 = ((t.getD x 0 : Nat) : Int) := by
  rw [List.getD_eq_getElem?_getD, List.getD_eq_getElem?_getD, List.getElem?_map, List.getElem?_eq_getElem ha]
  rfl
theorem getD_ltw {t : List Nat} {K : Nat} (h : ∀ l ∈ t, l < K) {x : Nat} (ha : x < t.length) : t.getD x 0 < K := h _ (by rw [List.getD_eq_getElem?_getD, List.getElem?_eq_getElem ha]; exact List.getElem_mem ha)
theorem State_l0_ok (hN : 5000 ≤ N) (V : Valid p acc gd nd) {u : List Nat} (hu : ∀ l ∈ u, l < two p) (hl : u.length ≤ 2000) : ∀ (m q i : Nat), i ≤ u.length → u.length - i < m → q < acc.length →
    ref21_Watch_State_l0 N p acc gd nd (u.map fun l : Nat => (l : Int)) m (q : Int) (i : Int) = some ((runT nd gd q (u.drop i) : Nat) : Int)
  | 0, q, i, _, h, _ => by omega
  | m + 1, q, i, k0, k1, hq => by
    have sh := shl_two ⟨V.p0, V.p8⟩
    unfold ref21_Watch_State_l0
    rw [List.length_map, Int.toNat_natCast i]
    by_cases hx : i < u.length
    · have hs := (stp_eq V hq (u.getD i 0)).2
      have hlt := getD_ltw hu hx
      unfold ask
      rw [if_pos (show (i : Int) < ((u.length : Nat) : Int) by omega), if_pos (by unfold idx; omega), getD_mw hx, rNext_ok hN V (by omega) hq, Option.bind_some, if_pos (by unfold in64; omega), show ((i : Int) + 1) = ((i + 1 : Nat) : Int) by omega, State_l0_ok hN V hu hl m _ (i + 1) (by omega) (by omega) hs, dropW hx]
      rfl
    · rw [if_neg (show ¬ (i : Int) < ((u.length : Nat) : Int) by omega), List.drop_eq_nil_of_le (by omega)]
      rfl
theorem State_ok (hN : 5000 ≤ N) (V : Valid p acc gd nd) {u : List Nat} (hu : ∀ l ∈ u, l < two p) (hl : u.length ≤ 2000) : ref21_Watch_State N p acc gd nd (u.map fun l : Nat => (l : Int)) = some ((runT nd gd 0 u : Nat) : Int) := by
  have h := State_l0_ok (N := N) hN V hu hl N 0 0 (by omega) (by omega) (by have := V.a1; omega)
  rw [show ((0 : Nat) : Int) = 0 from rfl, List.drop_zero] at h
  unfold ref21_Watch_State
  rw [h]
  rfl
abbrev cw (u : List Nat) : List Int := u.map fun l : Nat => (l : Int)
/-- the states behind each letter -/
def cam (nd : List Nd) (gd : List Int) (u : List Nat) : List Int := (List.range u.length).map fun i => ((runT nd gd 0 (u.take (i + 1)) : Nat) : Int)
theorem cam_len (u : List Nat) : (cam nd gd u).length = u.length := by unfold cam; rw [List.length_map, List.length_range]
theorem cam_snoc (u : List Nat) (l : Nat) : cam nd gd (u ++ [l]) = cam nd gd u ++ [((runT nd gd 0 (u ++ [l]) : Nat) : Int)] := by
  unfold cam
  rw [List.length_append, List.length_singleton, List.range_succ, List.map_append]
  congr 1
  · refine List.map_congr_left fun i hi => ?_
    have := List.mem_range.1 hi
    rw [List.take_append_of_le_length (by omega)]
  · rw [List.map_singleton, List.take_of_length_le (by simp)]
theorem cam_take (u : List Nat) (k : Nat) (h : k ≤ u.length) : (cam nd gd u).take k = cam nd gd (u.take k) := by
  unfold cam
  rw [← List.map_take, List.take_range, List.length_take]
  refine List.map_congr_left fun i hi => ?_
  have := List.mem_range.1 hi
  rw [List.take_take, show min (i + 1) k = i + 1 by omega]
theorem cam_Q (u : List Nat) : cameQ (cam nd gd u) = ((runT nd gd 0 u : Nat) : Int) := by
  unfold cameQ
  rw [cam_len]
  by_cases c : u.length = 0
  · rw [if_pos c, List.eq_nil_of_length_eq_zero c]; rfl
  · rw [if_neg c]
    unfold cam
    rw [List.getD_eq_getElem?_getD, List.getElem?_map, List.getElem?_range (by omega)]
    show ((runT nd gd 0 (u.take (u.length - 1 + 1)) : Nat) : Int) = _
    rw [List.take_of_length_le (by omega)]
/-- letters that may be, not too many -/
def Lt (p : Int) (u : List Nat) (b : Nat) : Prop := (∀ l ∈ u, l < two p) ∧ u.length ≤ b
theorem Lt.take {u : List Nat} {b : Nat} (h : Lt p u b) (k : Nat) : Lt p (u.take k) b := ⟨fun l hl => h.1 l (List.mem_of_mem_take hl), by rw [List.length_take]; have := h.2; omega⟩
theorem told_eq (hN : 5000 ≤ N) (V : Valid p acc gd nd) {b : WB} (B : Board p acc gd nd b) {q : Nat} (hq : q < acc.length) : ref21_Verdict N p acc gd nd (q : Int) = some (b.2.2.getD q 0) := by
  obtain ⟨lost, ⟨nt, hnt, G⟩, bl, bt⟩ := B.told
  rw [rVerdict_ok hN V B.off G hnt hq, bt q hq]
theorem verdict_eq (hN : 5000 ≤ N) (V : Valid p acc gd nd) {b : WB} (B : Board p acc gd nd b) {u : List Nat} (h : Lt p u 100) : watch_Watch_Verdict N b (cam nd gd u) = some (b.2.2.getD (runT nd gd 0 u) 0) := by
  have hlt := runT_lt V u 0 (by have := V.a1; omega)
  have hb := h.2
  rw [WVerdict_ok B (by rw [cam_len]; omega) (by rw [cam_Q]; omega) (by rw [cam_Q]; omega), cam_Q, Int.toNat_natCast]
theorem feed_eq (hN : 5000 ≤ N) (V : Valid p acc gd nd) {b : WB} (B : Board p acc gd nd b) {u : List Nat} {k : Nat} (hk : k ≤ 90) (h : Lt p u k) {x : Int} (hx : 0 ≤ x ∧ x ≤ 255) :
    ∃ v e u', watch_Watch_Feed N b (cam nd gd u) x = some (v, e, cam nd gd u') ∧ ref21_Watch_Feed N p acc gd nd (cw u) x = some (v, e, cw u') ∧ Lt p u' (k + 1) := by
  have hp : 0 ≤ p ∧ p ≤ 8 := ⟨V.p0, V.p8⟩
  have a1 := V.a1
  have hb := h.2
  have hlt := runT_lt V u 0 (by omega)
  obtain ⟨f, ef, hf⟩ := Fits_inv (N := N) hp hx
  cases hfb : f with
  | true =>
    have hx2 := hf hfb
    obtain ⟨l, rfl⟩ := Int.eq_ofNat_of_zero_le hx.1
    have hl : l < two p := by omega
    have hl2 : Lt p (u ++ [l]) (k + 1) := ⟨fun y hy => by
      rcases List.mem_append.1 hy with hy | hy
      · exact h.1 y hy
      · rw [List.mem_singleton.1 hy]; exact hl, by rw [List.length_append, List.length_singleton]; omega⟩
    have hst := (stp_eq V hlt l).2
    refine ⟨b.2.2.getD (stp nd gd (runT nd gd 0 u) l) 0, 0, u ++ [l], ?_, ?_, hl2⟩
    · have hF := Feed_ok hN V B (w := cam nd gd u) (by rw [cam_len]; omega) (cam_Q u) hlt hl
      rw [hF, cam_snoc, runT_snoc]
    · have e1 : (([] : List Int) ++ cw u) ++ ([((l : Nat) : Int)] : List Int) = cw (u ++ [l]) := by unfold cw; rw [List.map_append, List.nil_append]; rfl
      have e2 : ref21_Watch_State N p acc gd nd (cw (u ++ [l])) = some ((runT nd gd 0 (u ++ [l]) : Nat) : Int) := State_ok hN V hl2.1 (by have := hl2.2; omega)
      unfold ref21_Watch_Feed
      rw [rFits_eq hN hp hx, ef, Option.bind_some, if_pos hfb, if_neg (by rw [List.length_map]; omega)]
      unfold ask
      rw [if_pos (by simp; omega), if_pos (by simp; omega), e1, e2, Option.bind_some, runT_snoc, told_eq hN V B hst, Option.bind_some]
  | false =>
    refine ⟨0, 2, u, ?_, ?_, h.1, by omega⟩
    · unfold watch_Watch_Feed watch_Watch_none
      rw [Option.bind_some, if_neg (by simp), B.a]
      dsimp only
      rw [ef, Option.bind_some, if_neg (by rw [hfb]; simp)]
    · unfold ref21_Watch_Feed
      rw [rFits_eq hN hp hx, ef, Option.bind_some, if_neg (by rw [hfb]; simp)]
theorem back_eq (hN : 5000 ≤ N) (V : Valid p acc gd nd) {b : WB} (B : Board p acc gd nd b) {u : List Nat} {k : Nat} (hk : k ≤ 90) (h : Lt p u k) :
    ∃ v e u', watch_Watch_Back N b (cam nd gd u) = some (v, e, cam nd gd u') ∧ ref21_Watch_Back N p acc gd nd (cw u) = some (v, e, cw u') ∧ Lt p u' (k + 1) := by
  have hb := h.2
  have a1 := V.a1
  by_cases c : u.length = 0
  · refine ⟨0, 6, u, ?_, ?_, h.1, by omega⟩
    · unfold watch_Watch_Back watch_Watch_none
      rw [Option.bind_some, if_neg (by simp), if_pos (by rw [cam_len]; omega)]
    · unfold ref21_Watch_Back
      rw [if_pos (by rw [List.length_map]; omega)]
  · have e0 : Int.toNat (((u.length : Nat) : Int) - 1) = u.length - 1 := by omega
    have ht := h.take (u.length - 1)
    have hlt := runT_lt V (u.take (u.length - 1)) 0 (by omega)
    refine ⟨b.2.2.getD (runT nd gd 0 (u.take (u.length - 1))) 0, 0, u.take (u.length - 1), ?_, ?_, ht.1, by have := ht.2; omega⟩
    · unfold watch_Watch_Back watch_Watch_none ask
      rw [Option.bind_some, if_neg (by simp), cam_len, if_neg (by omega), if_pos (by unfold in64; omega), if_pos (by omega), e0, cam_take u _ (by omega), verdict_eq hN V B ⟨ht.1, by have := ht.2; omega⟩, Option.bind_some]
    · have e2 : ref21_Watch_State N p acc gd nd (cw (u.take (u.length - 1))) = some ((runT nd gd 0 (u.take (u.length - 1)) : Nat) : Int) := State_ok hN V ht.1 (by have := ht.2; omega)
      have e3 : (cw u).take (u.length - 1) = cw (u.take (u.length - 1)) := List.map_take.symm
      unfold ref21_Watch_Back ask
      rw [List.length_map, if_neg (by omega), if_pos (by unfold in64; omega), if_pos (by omega), e0, e3, e2, Option.bind_some, told_eq hN V B hlt, Option.bind_some]
theorem tells_eq (hN : 5000 ≤ N) (V : Valid p acc gd nd) {b : WB} {e : Int} (B : Board p acc gd nd b) {u : List Nat} (h : Lt p u 100) : law21_WatchScript_j21 N p acc gd nd (b, e) (cam nd gd u) (cw u) = some true := by
  have hb := h.2
  have hlt := runT_lt V u 0 (by have := V.a1; omega)
  have e2 : ref21_Watch_State N p acc gd nd (cw u) = some ((runT nd gd 0 u : Nat) : Int) := State_ok hN V h.1 (by omega)
  unfold law21_WatchScript_j21
  dsimp only
  rw [verdict_eq hN V B h, Option.bind_some, e2, Option.bind_some, told_eq hN V B hlt, Option.bind_some, if_pos rfl, WState_ok (by rw [cam_len]; omega), Option.bind_some, Option.bind_some, cam_Q, if_pos rfl]
  unfold watch_Watch_Len watch_Watch_none
  rw [Option.bind_some, if_neg (by simp), Option.bind_some, cam_len, List.length_map, beq_self_eq_true]
theorem off_eq (hN : 5000 ≤ N) (V : Valid p acc gd nd) {b : WB} (B : Board p acc gd nd b) {u : List Nat} (h : Lt p u 100) : ∃ x : Int × Int, watch_Watch_Off N b (cam nd gd u) = some x ∧ ref21_Off N p acc gd nd ((runT nd gd 0 u : Nat) : Int) = some x ∧ ref21_Watch_State N p acc gd nd (cw u) = some ((runT nd gd 0 u : Nat) : Int) := by
  have hb := h.2
  have hlt := runT_lt V u 0 (by have := V.a1; omega)
  refine ⟨_, ?_, rOff_ok hN V B.off hlt, State_ok hN V h.1 (by omega)⟩
  rw [WOff_ok B (by rw [cam_len]; omega) (by rw [cam_Q]; omega) (by rw [cam_Q]; omega), cam_Q, Int.toNat_natCast]
theorem fork_eq {b : WB} {u : List Nat} (h : Lt p u 100) : watch_Watch_Fork N b (cam nd gd u) = some (.inr ()) := by
  have hb := h.2
  unfold watch_Watch_Fork watch_Watch_none ask
  rw [Option.bind_some, if_neg (by simp), if_pos (by rw [cam_len]; simp; omega)]
theorem j19_ok {v e : Int} {s t : List Int} : law21_WatchScript_j19 N (v, e, s) (v, e, t) = some true := by
  unfold law21_WatchScript_j19; dsimp only; rw [if_pos rfl, beq_self_eq_true]
theorem j22_ok {x : Int × Int} : law21_WatchScript_j22 N x x = some true := by
  unfold law21_WatchScript_j22; rw [if_pos rfl, beq_self_eq_true]
theorem act_ok (hN : 5000 ≤ N) (V : Valid p acc gd nd) {b : WB} {e : Int} (B : Board p acc gd nd b) {script : List (Int × Int × Int)} (hs : ∀ x ∈ script, (0 ≤ x.1 ∧ x.1 ≤ 255) ∧ (0 ≤ x.2.1 ∧ x.2.1 ≤ 255) ∧ (0 ≤ x.2.2 ∧ x.2.2 ≤ 255)) {i : Nat} (hi : i < script.length) {k : Nat} (hk : k ≤ 90) {u0 u1 : List Nat} (h0 : Lt p u0 k) (h1 : Lt p u1 k) :
    ∃ v0 v1, law21_WatchScript_f18 N p acc gd nd script (b, e) (cam nd gd u0) (cam nd gd u1) (cw u0) (cw u1) (i : Int) = some (true, cam nd gd v0, cam nd gd v1, cw v0, cw v1) ∧ Lt p v0 (k + 1) ∧ Lt p v1 (k + 1) := by
  have up : ∀ {u : List Nat}, Lt p u k → Lt p u (k + 1) := fun h => ⟨h.1, by have := h.2; omega⟩
  have up2 : ∀ {u : List Nat}, Lt p u k → Lt p u 100 := fun h => ⟨h.1, by have := h.2; omega⟩
  have hm : script.getD i (0, 0, 0) ∈ script := by rw [List.getD_eq_getElem?_getD, List.getElem?_eq_getElem hi]; exact List.getElem_mem hi
  obtain ⟨⟨x0, x1⟩, ⟨y0, y1⟩, z⟩ := hs _ hm
  unfold law21_WatchScript_f18
  rw [Int.toNat_natCast]
  generalize script.getD i (0, 0, 0) = act at *
  have t1 := Int.tmod_lt_of_pos act.2.1 (show (0 : Int) < 2 by omega)
  have t2 := Int.tmod_nonneg 2 y0
  unfold ask
  dsimp only
  rw [if_pos (by unfold in64; omega)]
  have n0 := h0.2
  have n1 := h1.2
  by_cases on : Int.tmod act.2.1 2 = 0
  · rw [if_pos on]
    by_cases k0 : act.1 = 0
    · obtain ⟨v, ee, u', w1, w2, w3⟩ := feed_eq (N := N) hN V B hk h0 z
      rw [if_pos k0, w1, Option.bind_some, w2, Option.bind_some, j19_ok, Option.bind_some]
      exact ⟨u', u1, rfl, w3, up h1⟩
    rw [if_neg k0]
    by_cases k1 : act.1 = 1
    · obtain ⟨v, ee, u', w1, w2, w3⟩ := back_eq (N := N) hN V B hk h0
      have j : law21_WatchScript_j20 N (v, ee, cam nd gd u') (v, ee, cw u') = some true := j19_ok (N := N)
      rw [if_pos k1, w1, Option.bind_some, w2, Option.bind_some, j, Option.bind_some]
      exact ⟨u', u1, rfl, w3, up h1⟩
    rw [if_neg k1]
    by_cases k2 : act.1 = 2
    · rw [if_pos k2, tells_eq hN V B (up2 h0), Option.bind_some]
      exact ⟨u0, u1, rfl, up h0, up h1⟩
    rw [if_neg k2]
    by_cases k3 : act.1 = 3
    · obtain ⟨x, w1, w2, w3⟩ := off_eq (N := N) hN V B (up2 h0)
      rw [if_pos k3, w1, Option.bind_some, w3, Option.bind_some, w2, Option.bind_some, j22_ok, Option.bind_some]
      exact ⟨u0, u1, rfl, up h0, up h1⟩
    · rw [if_neg k3, fork_eq (up2 h0), Option.bind_some, Sum.elim_inr, if_pos (by simp; omega)]
      exact ⟨u0, u0, rfl, up h0, up h0⟩
  · rw [if_neg on, if_pos (by omega)]
    by_cases k0 : act.1 = 0
    · obtain ⟨v, ee, u', w1, w2, w3⟩ := feed_eq (N := N) hN V B hk h1 z
      have j : law21_WatchScript_j23 N (v, ee, cam nd gd u') (v, ee, cw u') = some true := j19_ok (N := N)
      rw [if_pos k0, w1, Option.bind_some, w2, Option.bind_some, j, Option.bind_some]
      exact ⟨u0, u', rfl, up h0, w3⟩
    rw [if_neg k0]
    by_cases k1 : act.1 = 1
    · obtain ⟨v, ee, u', w1, w2, w3⟩ := back_eq (N := N) hN V B hk h1
      have j : law21_WatchScript_j24 N (v, ee, cam nd gd u') (v, ee, cw u') = some true := j19_ok (N := N)
      rw [if_pos k1, w1, Option.bind_some, w2, Option.bind_some, j, Option.bind_some]
      exact ⟨u0, u', rfl, up h0, w3⟩
    rw [if_neg k1]
    by_cases k2 : act.1 = 2
    · have j : law21_WatchScript_j25 N p acc gd nd (b, e) (cam nd gd u1) (cw u1) = some true := tells_eq (N := N) hN V B (up2 h1)
      rw [if_pos k2, j, Option.bind_some]
      exact ⟨u0, u1, rfl, up h0, up h1⟩
    rw [if_neg k2]
    by_cases k3 : act.1 = 3
    · obtain ⟨x, w1, w2, w3⟩ := off_eq (N := N) hN V B (up2 h1)
      have j : law21_WatchScript_j26 N x x = some true := j22_ok (N := N)
      rw [if_pos k3, w1, Option.bind_some, w3, Option.bind_some, w2, Option.bind_some, j, Option.bind_some]
      exact ⟨u0, u1, rfl, up h0, up h1⟩
    · rw [if_neg k3, fork_eq (up2 h1), Option.bind_some, Sum.elim_inr, if_pos (by simp; omega)]
      exact ⟨u1, u1, rfl, up h1, up h1⟩
theorem l17_ok (hN : 5000 ≤ N) (V : Valid p acc gd nd) {b : WB} {e : Int} (B : Board p acc gd nd b) {script : List (Int × Int × Int)} (hs : ∀ x ∈ script, (0 ≤ x.1 ∧ x.1 ≤ 255) ∧ (0 ≤ x.2.1 ∧ x.2.1 ≤ 255) ∧ (0 ≤ x.2.2 ∧ x.2.2 ≤ 255)) (hl : script.length ≤ 60) :
    ∀ (m i : Nat) (u0 u1 : List Nat), i ≤ script.length → script.length - i < m → Lt p u0 i → Lt p u1 i →
    ∃ v0 v1, law21_WatchScript_l17 N p acc gd nd script (b, e) m (cam nd gd u0) (cam nd gd u1) (cw u0) (cw u1) (i : Int) = some (.inl (cam nd gd v0, cam nd gd v1, cw v0, cw v1)) ∧ Lt p v0 100 ∧ Lt p v1 100 := by
  intro m
  induction m with
  | zero => intro i u0 u1 _ h _ _; omega
  | succ m ih =>
    intro i u0 u1 k1 k2 h0 h1
    unfold law21_WatchScript_l17
    by_cases hi : (i : Int) < ((script.length : Nat) : Int)
    · obtain ⟨v0, v1, w1, w2, w3⟩ := act_ok (N := N) (e := e) hN V B hs (i := i) (by omega) (by omega) h0 h1
      obtain ⟨z0, z1, y1, y2, y3⟩ := ih (i + 1) v0 v1 (by omega) (by omega) w2 w3
      unfold ask
      rw [if_pos hi, if_pos (by unfold idx; omega), w1, Option.bind_some]
      dsimp only
      rw [if_pos rfl, if_pos (by unfold in64; omega), show ((i : Int) + 1) = ((i + 1 : Nat) : Int) by omega, y1]
      exact ⟨z0, z1, rfl, y2, y3⟩
    · rw [if_neg hi]
      exact ⟨u0, u1, rfl, ⟨h0.1, by have := h0.2; omega⟩, ⟨h1.1, by have := h1.2; omega⟩⟩
/-! ### writing over what was lent -/
theorem l14_ok : ∀ (m i : Nat) (xs : List Int), xs.length ≤ 100000 → i ≤ xs.length → xs.length - i < m → Ok (law21_WatchScript_l14 N m xs (i : Int)) fun _ => True := by
  intro m
  induction m with
  | zero => intro i xs _ _ h; omega
  | succ m ih =>
    intro i xs h k1 k2
    unfold law21_WatchScript_l14
    refine Ok.ite (fun hx => Ok.ask (by unfold idx; omega) (Ok.ask (by unfold in64; omega) ?_)) fun _ => Ok.pure trivial
    rw [show ((i : Int) + 1) = ((i + 1 : Nat) : Int) by omega]
    exact ih (i + 1) _ (by rw [List.length_set]; exact h) (by rw [List.length_set]; omega) (by rw [List.length_set]; omega)
theorem l15_ok : ∀ (m i : Nat) (xs : List Bool), xs.length ≤ 100000 → i ≤ xs.length → xs.length - i < m → Ok (law21_WatchScript_l15 N m xs (i : Int)) fun _ => True := by
  intro m
  induction m with
  | zero => intro i xs _ _ h; omega
  | succ m ih =>
    intro i xs h k1 k2
    unfold law21_WatchScript_l15
    refine Ok.ite (fun hx => Ok.ask (by unfold idx; omega) (Ok.ask (by unfold in64; omega) ?_)) fun _ => Ok.pure trivial
    rw [show ((i : Int) + 1) = ((i + 1 : Nat) : Int) by omega]
    exact ih (i + 1) _ (by rw [List.length_set]; exact h) (by rw [List.length_set]; omega) (by rw [List.length_set]; omega)
theorem l16_ok : ∀ (m i : Nat) (xs : List Nd), xs.length ≤ 100000 → i ≤ xs.length → xs.length - i < m → Ok (law21_WatchScript_l16 N m xs (i : Int)) fun _ => True := by
  intro m
  induction m with
  | zero => intro i xs _ _ h; omega
  | succ m ih =>
    intro i xs h k1 k2
    unfold law21_WatchScript_l16
    refine Ok.ite (fun hx => Ok.ask (by unfold idx; omega) (Ok.ask (by unfold in64; omega) ?_)) fun _ => Ok.pure trivial
    rw [show ((i : Int) + 1) = ((i + 1 : Nat) : Int) by omega]
    exact ih (i + 1) _ (by rw [List.length_set]; exact h) (by rw [List.length_set]; omega) (by rw [List.length_set]; omega)
theorem over_ok (hN : 200000 ≤ N) {r : Int × (List Bool × List Bool) × (List Int × List Int) × (List Nd × List Nd)} (h1 : (r.2.1.1 ++ r.2.1.2).length ≤ 100000) (h2 : (r.2.2.1.1 ++ r.2.2.1.2).length ≤ 100000) (h3 : (r.2.2.2.1 ++ r.2.2.2.2).length ≤ 100000) : Ok (law21_WatchScript_f12 N r) fun _ => True := by
  unfold law21_WatchScript_f12 law21_WatchScript_f13
  obtain ⟨a, ea, _⟩ := l14_ok (N := N) N 0 _ h2 (by omega) (by omega)
  obtain ⟨b, eb, _⟩ := l15_ok (N := N) N 0 _ h1 (by omega) (by omega)
  obtain ⟨c, ec, _⟩ := l16_ok (N := N) N 0 _ h3 (by omega) (by omega)
  have ea' : law21_WatchScript_l14 N N (r.2.2.1.1 ++ r.2.2.1.2) 0 = some a := ea
  have eb' : law21_WatchScript_l15 N N (r.2.1.1 ++ r.2.1.2) 0 = some b := eb
  have ec' : law21_WatchScript_l16 N N (r.2.2.2.1 ++ r.2.2.2.2) 0 = some c := ec
  rw [ea', Option.bind_some, Option.bind_some, eb', Option.bind_some, ec', Option.bind_some]
  exact Ok.pure trivial
theorem j0_ok {script : List (Int × Int × Int)} : Ok (law21_WatchScript_j0 N p acc gd nd script) fun b => b = false → acc.length ≤ 24 ∧ nd.length ≤ 400 ∧ gd.length ≤ 300 ∧ script.length ≤ 60 := by
  unfold law21_WatchScript_j0 law16_Small
  by_cases c1 : ((acc.length : Nat) : Int) ≤ 24
  · by_cases c2 : p ≤ 4
    · by_cases c3 : ((nd.length : Nat) : Int) ≤ 400
      · rw [if_pos c1, if_pos c2, if_pos c3, Option.bind_some]
        refine Ok.ite (fun hb => Ok.pure fun h => ?_) fun _ => Ok.pure fun h => by cases h
        have c4 := of_decide_eq_true hb
        have c5 := of_decide_eq_false h
        omega
      · rw [if_pos c1, if_pos c2, if_neg c3, Option.bind_some, if_neg (by simp)]
        exact Ok.pure fun h => by cases h
    · rw [if_pos c1, if_neg c2, Option.bind_some, if_neg (by simp)]
      exact Ok.pure fun h => by cases h
  · rw [if_neg c1, Option.bind_some, if_neg (by simp)]
    exact Ok.pure fun h => by cases h
end
theorem watchScript_true {p : Int} {acc : List Bool} {gd : List Int} {nd : List Nd} {script : List (Int × Int × Int)} (hw : ∀ x ∈ nd, x.wf) (hs : ∀ x ∈ script, (0 ≤ x.1 ∧ x.1 ≤ 255) ∧ (0 ≤ x.2.1 ∧ x.2.1 ≤ 255) ∧ (0 ≤ x.2.2 ∧ x.2.2 ≤ 255)) : law21_WatchScript 3000000 p acc gd nd script = some true := by
  have hN : 5000 ≤ 3000000 := by decide
  refine Ok.eq ?_
  unfold law21_WatchScript
  refine j0_ok.bind fun x hx => ?_
  refine Ok.ite (fun _ => Ok.pure rfl) fun hxf => ?_
  obtain ⟨ha, hn, hg, hl⟩ := hx (by simpa using hxf)
  rw [LentAuto_ok hN (by omega) (by omega) (by omega), Option.bind_some]
  dsimp only
  have kept := KeptAuto_ok (N := 3000000) (p := p) hN (show acc.length ≤ 4000 by omega) (show gd.length ≤ 4000 by omega) (show nd.length ≤ 4000 by omega)
  obtain ⟨e, hC, he⟩ := guard_Check_ok (N := 3000000) (p := p) (acc := acc) (gd := gd) hN hw
  by_cases h0 : e = 0
  · have V := he.2 h0
    have rN : ref21_New 3000000 p acc gd nd = some (.inr 0) := by
      unfold ref21_New
      rw [rCheck_eq hN hw, hC, Option.bind_some, if_pos h0]
    obtain ⟨b, eb, B⟩ := made_ok (N := 3000000) hN V
    have wN : watch_New 3000000 p acc gd nd = some (.inr (b, 0)) := by
      unfold watch_New
      rw [hC, Option.bind_some, if_pos h0, eb, Option.bind_some]
    rw [wN, Option.bind_some, Sum.elim_inr, rN, Option.bind_some, Sum.elim_inr]
    have j11 : law21_WatchScript_j11 3000000 p acc gd nd (p, (acc, [false, false, false]), (gd, spI gd.length), (nd, [default, default, default])) (b, 0) 0 = some false := by
      unfold law21_WatchScript_j11
      dsimp only
      rw [if_pos rfl, if_pos rfl, kept, Option.bind_some]
      rfl
    rw [j11, Option.bind_some, if_neg Bool.false_ne_true]
    obtain ⟨o, eo, _⟩ := over_ok (N := 3000000) (r := (p, (acc, [false, false, false]), (gd, spI gd.length), (nd, [default, default, default]))) (by omega) (by dsimp only; simp; omega) (by dsimp only; simp [spI]; omega) (by dsimp only; simp; omega)
    rw [eo, Option.bind_some]
    dsimp only
    have fk : watch_Watch_Fork 3000000 b [] = some (.inr ()) := fork_eq (p := p) (nd := nd) (gd := gd) (u := []) ⟨fun l h => (by cases h), by simp⟩
    obtain ⟨v0, v1, w1, w2, w3⟩ := l17_ok (N := 3000000) (e := 0) hN V B hs hl 3000000 0 [] [] (by omega) (by omega) ⟨fun l h => (by cases h), by simp⟩ ⟨fun l h => (by cases h), by simp⟩
    have w1' : law21_WatchScript_l17 3000000 p acc gd nd script (b, 0) 3000000 [] (([] : List Int) ++ []) [] [] 0 = some (.inl (cam nd gd v0, cam nd gd v1, cw v0, cw v1)) := w1
    rw [fk, Option.bind_some, Sum.elim_inr, w1', Option.bind_some, Sum.elim_inl]
    have j29 : law21_WatchScript_j29 3000000 p acc gd nd (b, 0) (cam nd gd v0, cam nd gd v1, cw v0, cw v1) = some true := tells_eq hN V B w2
    have j31 : law21_WatchScript_j31 3000000 p acc gd nd (b, 0) (cam nd gd v0, cam nd gd v1, cw v0, cw v1) = some true := tells_eq hN V B w3
    unfold law21_WatchScript_j27 law21_WatchScript_f28 law21_WatchScript_f30
    rw [j29, Option.bind_some, Option.bind_some, if_pos rfl, j31, Option.bind_some, Option.bind_some, Option.bind_some]
    exact Ok.pure rfl
  · have : e = 12 := he.1.resolve_right h0
    subst this
    have rN : ref21_New 3000000 p acc gd nd = some (.inl 12) := by
      unfold ref21_New
      rw [rCheck_eq hN hw, hC, Option.bind_some, if_neg h0]
    have wN : watch_New 3000000 p acc gd nd = some (.inl 12) := by
      unfold watch_New
      rw [hC, Option.bind_some, if_neg h0]
    rw [wN, Option.bind_some, Sum.elim_inl, rN, Option.bind_some, Sum.elim_inl]
    have j1 : law21_WatchScript_j1 3000000 p acc gd nd (p, (acc, [false, false, false]), (gd, spI gd.length), (nd, [default, default, default])) 12 12 = some false := by
      unfold law21_WatchScript_j1
      dsimp only
      rw [if_pos rfl, if_pos rfl, kept, Option.bind_some]
      rfl
    rw [j1, Option.bind_some, if_neg Bool.false_ne_true]
    exact Ok.pure rfl
theorem watchScript_row (w0 : World) (p : Int) (A1 A2 A3 : Option Addr) (c1 c2 c3 : Nat) (acc : List Bool) (gd : List Int) (nd : List Nd) (A4 : Option Addr) (c4 : Nat) (t : List (Int × Int × Int))
    (k1 : acc.length ≤ c1) (k2 : gd.length ≤ c2) (k3 : nd.length ≤ c3) (k4 : t.length ≤ c4)
    (C1 : C cBool w0 (Lo w0.heap.size) A1 acc) (C2 : C (cInt .i64) w0 (Lo w0.heap.size) A2 gd) (C3 : C cNode w0 (Lo w0.heap.size) A3 nd) (C4 : C cS70 w0 (Lo w0.heap.size) A4 t) (hw : ∀ x ∈ nd, x.wf) (ht : ∀ x ∈ t, (0 ≤ x.1 ∧ x.1 ≤ 255) ∧ (0 ≤ x.2.1 ∧ x.2.1 ≤ 255) ∧ (0 ≤ x.2.2 ∧ x.2.2 ≤ 255)) :
    Calls Try.prog 5 #[.agg #[.int .i64 p, .slice A1 acc.length c1, .slice A2 gd.length c2, .slice A3 nd.length c3], .slice A4 t.length c4] w0 fun e w' => ∃ v, e = .returned v ∧ (v = .bool true ∧ Ext w0 w') :=
  (law21_WatchScript_calls A1 c1 A2 c2 A3 c3 A4 c4 p acc gd nd t k1 k2 k3 k4 ((((Hp.start w0).arg C1).arg C2).arg C3 |>.arg C4) (watchScript_true hw ht)).mono fun e w' ⟨v, he, hv, H⟩ => ⟨v, he, hv, H.chgd.own⟩
/-- the script, opened -/
theorem rd_act {H : Type} {enc : TypeId × Value → H} {W : World} : Rd enc Try.prog W cS70 71 (fun x => (0 ≤ x.1 ∧ x.1 ≤ 255) ∧ (0 ≤ x.2.1 ∧ x.2.1 ≤ 255) ∧ (0 ≤ x.2.2 ∧ x.2.2 ≤ 255)) := by
  intro fuel cs x h
  have hl := trod_len Try.underlying71 h
  rw [show Try.prog.cellsOf 71 = 3 from by kernel_rfl] at hl
  obtain ⟨u0, u1, u2, rfl⟩ := len3 hl
  obtain ⟨n0, y0, h0⟩ := trod_field Try.underlying71 h 0 5 0 1 rfl rfl rfl (by kernel_rfl)
  obtain ⟨n1, y1, h1⟩ := trod_field Try.underlying71 h 1 5 1 1 rfl rfl rfl (by kernel_rfl)
  obtain ⟨n2, y2, h2⟩ := trod_field Try.underlying71 h 2 22 2 1 rfl rfl rfl (by kernel_rfl)
  obtain ⟨p, e0, _, w0⟩ := DataW.trod_int Try.underlying5 h0
  obtain ⟨q, e1, _, w1⟩ := DataW.trod_int Try.underlying5 h1
  obtain ⟨r, e2, _, w2⟩ := DataW.trod_int Try.underlying22 h2
  simp at e0 e1 e2
  subst e0 e1 e2
  exact ⟨⟨p, q, r⟩, rfl, wf_u8 w0, wf_u8 w1, wf_u8 w2⟩
end Go.V
