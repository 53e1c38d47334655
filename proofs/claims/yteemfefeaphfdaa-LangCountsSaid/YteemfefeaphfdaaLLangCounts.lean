/- The plain law LangCounts. No condition. -/
import Derived.Test.YteemfefeaphfdaaBLangCounts
import Derived.Test.YteemfefeaphfdaaLC4
import Derived.Test.YteemfefeaphfdaaV9
set_option linter.all false
set_option linter.unusedVariables false
set_option maxRecDepth 1000000
namespace Go.V
open Go Go.Proofs
section
variable {N : Nat} {p : Int} {acc : List Bool} {gd : List Int} {nd : List Nd} {most : Nat}
theorem map_cs_getD {W : List (List Nat)} {i : Nat} (h : i < W.length) : (W.map cs).getD i [] = cs (W.getD i []) := by
  rw [List.getD_eq_getElem?_getD, List.getD_eq_getElem?_getD, List.getElem?_map, List.getElem?_eq_getElem h]
  rfl
theorem getD_mem' {α : Type} {xs : List α} {i : Nat} {d : α} (h : i < xs.length) : xs.getD i d ∈ xs := by
  rw [List.getD_eq_getElem?_getD, List.getElem?_eq_getElem h]
  exact List.getElem_mem h
theorem take_snoc {α : Type} {xs : List α} {i : Nat} {d : α} (h : i < xs.length) : xs.take (i + 1) = xs.take i ++ [xs.getD i d] := by
  rw [List.getD_eq_getElem?_getD, List.take_succ, List.getElem?_eq_getElem h]
  rfl
theorem l2_ok (hN : 200000 ≤ N) (V : Valid p acc gd nd) (hC : guard_Check N p acc gd nd = some 0) (hm : most ≤ 3) (hb : (allN nd gd acc (two p) (most + 1)).length ≤ 4096) :
    ∀ (m i : Nat) (of : List Int), i ≤ (allN nd gd acc (two p) (most + 1)).length → (allN nd gd acc (two p) (most + 1)).length - i < m → of.length = most + 1 →
    (∀ j, j ≤ most → of.getD j 0 = ((((allN nd gd acc (two p) (most + 1)).take i).countP (fun u => u.length == j) : Nat) : Int)) →
    Ok (law19_LangCounts_l2 N p acc gd nd (most : Int) ((allN nd gd acc (two p) (most + 1)).map cs, 0) m of (i : Int)) fun r => ∃ o, r = .inl o ∧ o.length = most + 1 ∧ ∀ j, j ≤ most → o.getD j 0 = (((wds nd gd acc (two p) j 0).length : Nat) : Int) := by
  have srt := allN_sorted (nd := nd) (gd := gd) (acc := acc) (L := two p) (most + 1)
  have cp := fun j => countP_allN (nd := nd) (gd := gd) (acc := acc) (L := two p) j (most + 1)
  have mem := fun u => mem_allN (nd := nd) (gd := gd) (acc := acc) (L := two p) (n := most + 1) (u := u)
  generalize allN nd gd acc (two p) (most + 1) = W at *
  intro m
  induction m with
  | zero => intro i of _ h _ _; omega
  | succ m ih =>
    intro i of k1 k2 k3 k4
    unfold law19_LangCounts_l2
    dsimp only
    rw [List.length_map]
    refine Ok.ite (fun hx => ?_) fun hx => Ok.pure ⟨of, rfl, k3, fun j hj => ?_⟩
    · have hi : i < W.length := by omega
      obtain ⟨u1, u2, u3⟩ := mem _ (getD_mem' (d := []) hi)
      rw [Int.toNat_natCast, map_cs_getD hi]
      refine Ok.ask (by unfold idx; omega) ?_
      rw [Accepts_ok (by omega) V hC u2 (by omega), Option.bind_some, u3]
      have hj3 : law19_LangCounts_j3 N (most : Int) (W.map cs, 0) (i : Int) (true, 0) = some false := by
        unfold law19_LangCounts_j3
        dsimp only
        rw [if_pos rfl, if_pos rfl, Int.toNat_natCast, map_cs_getD hi, cs_len, if_neg (by omega)]
        by_cases h0 : (0 : Int) < (i : Int)
        · rw [if_pos h0, show ((i : Int) - 1) = ((i - 1 : Nat) : Int) by omega, Int.toNat_natCast, map_cs_getD (by omega), List.length_map, ask_t (by unfold in64; omega), ask_t (by unfold idx; omega)]
          obtain ⟨v1, v2, v3⟩ := mem _ (getD_mem' (d := []) (show i - 1 < W.length by omega))
          obtain ⟨r, er, hr⟩ := ahead_ok (N := N) (by omega) (u := W.getD (i - 1) []) (v := W.getD i []) (by omega)
          have hs : slt (W.getD (i - 1) []) (W.getD i []) := by
            have h := List.pairwise_iff_getElem.1 srt (i - 1) i (by omega) hi (by omega)
            rw [List.getD_eq_getElem?_getD, List.getD_eq_getElem?_getD, List.getElem?_eq_getElem hi, List.getElem?_eq_getElem (show i - 1 < W.length by omega)]
            exact h
          rw [er, Option.bind_some, hr.2 hs]
          rfl
        · rw [if_neg h0]
      rw [hj3, Option.bind_some, if_neg Bool.false_ne_true, cs_len, Int.toNat_natCast, k4 _ (by omega)]
      refine Ok.ask (by unfold idx; omega) (Ok.ask (by unfold in64; omega) ?_)
      have c1 : (W.take i).countP (fun u => u.length == (W.getD i []).length) ≤ (W.take i).length := List.countP_le_length
      have c2 : (W.take i).length ≤ W.length := by rw [List.length_take]; omega
      rw [show ((i : Int) + 1) = ((i + 1 : Nat) : Int) by omega, show IntKind.u64.wrap ((((W.take i).countP (fun u => u.length == (W.getD i []).length) : Nat) : Int) + 1) = (((W.take i).countP (fun u => u.length == (W.getD i []).length) + 1 : Nat) : Int) by rw [wrap_u64 (by omega) (by omega)]; omega]
      refine ih (i + 1) _ (by omega) (by omega) (by rw [List.length_set]; exact k3) fun j hj => ?_
      rw [getD_set (by omega), take_snoc (d := []) hi, List.countP_append, List.countP_singleton]
      by_cases c : (W.getD i []).length = j
      · rw [if_pos c, if_pos (by simpa using c), c]
      · rw [if_neg c, if_neg (by simpa using c), k4 j hj]; rfl
    · rw [k4 j hj, List.take_of_length_le (by omega), cp j, if_pos (by omega)]
theorem l4_ok (hN : 200000 ≤ N) (V : Valid p acc gd nd) (hC : guard_Check N p acc gd nd = some 0) (hm : most ≤ 3) {o : List Int} (hl : o.length = most + 1) (ho : ∀ j, j ≤ most → o.getD j 0 = (((wds nd gd acc (two p) j 0).length : Nat) : Int)) :
    ∀ (m k : Nat), k ≤ most + 1 → most + 1 - k < m → law19_LangCounts_l4 N p acc gd nd (most : Int) o m (k : Int) = some (.inl ()) := by
  intro m
  induction m with
  | zero => intro k _ h; omega
  | succ m ih =>
    intro k k1 k2
    unfold law19_LangCounts_l4
    by_cases hx : (k : Int) ≤ (most : Int)
    · rw [if_pos hx, Count_ok (by omega) V hC (by omega), Option.bind_some]
      have hj : law19_LangCounts_j5 N o (k : Int) ((((wds nd gd acc (two p) k 0).length : Nat) : Int), 0) = some false := by
        unfold law19_LangCounts_j5
        dsimp only
        rw [if_pos rfl, ask_t (by unfold idx; omega), Int.toNat_natCast, ho k (by omega)]
        simp
      rw [hj, Option.bind_some, if_neg Bool.false_ne_true, ask_t (by unfold in64; omega), show ((k : Int) + 1) = ((k + 1 : Nat) : Int) by omega]
      exact ih (k + 1) (by omega) (by omega)
    · rw [if_neg hx]
theorem l7_ok (hN : 200000 ≤ N) (V : Valid p acc gd nd) {u : List Nat} (hu : ∀ l ∈ u, l < two p) (hul : u.length ≤ 1000) {live : List Bool} {reach : List Int} (ll : live.length = acc.length) (lr : reach.length = acc.length)
    (h1 : ∀ q, acc.getD q false = true → live.getD q false = true) (h2 : ∀ q, q < acc.length → ∀ l, l < two p → live.getD (stp nd gd q l) false = true → live.getD q false = true)
    (h3 : ∀ q, q < acc.length → 0 ≤ reach.getD q 0 → ∀ l, l < two p → 0 ≤ reach.getD (stp nd gd q l) 0 ∧ reach.getD (stp nd gd q l) 0 ≤ reach.getD q 0 + 1) :
    ∀ (m q i : Nat), i ≤ u.length → u.length - i < m → q < acc.length → 0 ≤ reach.getD q 0 → reach.getD q 0 ≤ i → law19_LangCounts_l7 N acc gd nd (cs u) true (live, 0) (reach, 0) m (q : Int) (i : Int) = some (.inr true) := by
  have a2 := V.a2
  have gl := V.gl
  intro m
  induction m with
  | zero => intro q i _ h _ _ _; omega
  | succ m ih =>
    intro q i k1 k2 hq k3 k4
    unfold law19_LangCounts_l7
    rw [cs_len, if_pos (by omega)]
    have hj8 : law19_LangCounts_j8 N acc (live, 0) (reach, 0) (q : Int) (i : Int) = some false := by
      unfold law19_LangCounts_j8
      dsimp only
      rw [Int.toNat_natCast, ask_t (by unfold idx; omega), if_neg (by omega), if_neg (by omega), ask_t (by unfold idx; omega)]
      by_cases c : acc.getD q false = true
      · rw [if_pos c, ask_t (by unfold idx; omega), h1 q c]; rfl
      · rw [if_neg c]
    rw [hj8, Option.bind_some, if_neg Bool.false_ne_true]
    by_cases hx : (i : Int) = (u.length : Int)
    · rw [if_pos hx]
    · have hi : i < u.length := by omega
      have hl := hu _ (getD_mem' (d := 0) hi)
      have st := (stp_eq V hq (u.getD i 0)).2
      rw [if_neg hx, ask_t (by unfold idx; omega), ask_t (by unfold idx; omega), Int.toNat_natCast, Int.toNat_natCast, cs_getD hi, stp_go (by omega) V hq, Option.bind_some]
      have hj9 : law19_LangCounts_j9 N (live, 0) (q : Int) (((stp nd gd q (u.getD i 0) : Nat) : Int), true) = some false := by
        unfold law19_LangCounts_j9
        dsimp only
        rw [if_pos rfl, if_neg (by omega), if_neg (by omega), ask_t (by unfold idx; omega), Int.toNat_natCast, Int.toNat_natCast]
        by_cases c : live.getD (stp nd gd q (u.getD i 0)) false = true
        · rw [if_pos c, ask_t (by unfold idx; omega), h2 q hq _ hl c]; rfl
        · rw [if_neg c]
      have r := h3 q hq k3 _ hl
      rw [hj9, Option.bind_some, if_neg Bool.false_ne_true, ask_t (by unfold in64; omega), show ((i : Int) + 1) = ((i + 1 : Nat) : Int) by omega]
      exact ih _ (i + 1) (by omega) (by omega) st r.1 (by omega)
end

theorem langCounts_true {p : Int} {acc : List Bool} {gd : List Int} {nd : List Nd} {most : Int} {t : List Int} (hw : ∀ x ∈ nd, x.wf) (ht : ∀ x ∈ t, 0 ≤ x ∧ x ≤ 255) :
    law19_LangCounts 1000000 p acc gd nd most t = some true := by
  have hN : 5000 ≤ 1000000 := by omega
  refine Ok.eq ?_
  unfold law19_LangCounts
  rw [awake19, Option.bind_some]
  obtain ⟨e, hC, he⟩ := guard_Check_ok (N := 1000000) (p := p) (acc := acc) (gd := gd) hN hw
  have hj0 : Ok (law19_LangCounts_j0 1000000 p acc gd nd most t) fun x => x = false → (0 ≤ most ∧ most ≤ 3) ∧ t.length ≤ 20 ∧ e = 0 ∧ letter_Trace 1000000 p t = some 0 := by
    unfold law19_LangCounts_j0
    refine Large_ok.bind fun L _ => ?_
    refine Ok.ite (fun _ => Ok.pure fun h => by cases h) fun _ => ?_
    refine Ok.ite (fun _ => Ok.pure fun h => by cases h) fun m0 => ?_
    refine Ok.ite (fun _ => Ok.pure fun h => by cases h) fun m3 => ?_
    refine Ok.ite (fun _ => Ok.pure fun h => by cases h) fun hlen => ?_
    rw [hC, Option.bind_some]
    refine Ok.ite (fun h0 => ?_) fun _ => Ok.pure fun h => by cases h
    have V := he.2 h0
    obtain ⟨f, ef, hf⟩ := Trace_inv (N := 1000000) hN ⟨V.p0, V.p8⟩ ht
    rw [ef, Option.bind_some]
    refine Ok.pure fun h => ⟨⟨by omega, by omega⟩, by omega, h0, ?_⟩
    have : f = 0 := by simpa using h
    rw [this]
  refine hj0.bind fun x hx => ?_
  refine Ok.ite (fun _ => Ok.pure rfl) fun hxf => ?_
  obtain ⟨⟨m0, m3⟩, hlen, h0, hTr⟩ := hx (by simpa using hxf)
  rw [h0] at hC
  have V := he.2 h0
  have a1 := V.a1
  have a2 := V.a2
  have gl := V.gl
  obtain ⟨f, ef, hf⟩ := Trace_inv (N := 1000000) hN ⟨V.p0, V.p8⟩ ht
  rw [hTr] at ef
  obtain ⟨u, hu, hul⟩ := hf (Option.some.inj ef).symm
  have hu' : t = cs u := hu
  rw [hu'] at hlen ⊢
  rw [cs_len] at hlen
  obtain ⟨mo, rfl⟩ := Int.eq_ofNat_of_zero_le m0
  have hReal : law19_Real 1000000 p acc gd nd = some true := by
    unfold law19_Real
    rw [if_pos (by omega)]
    simp [gl]
  rw [hReal, Option.bind_some, if_pos rfl]
  rcases Words_ok (N := 1000000) hN V hC (most := mo) (by omega) with hW | ⟨hW, hb⟩
  · rw [hW, Option.bind_some]
    exact Ok.pure rfl
  · rw [hW, Option.bind_some]
    dsimp only
    rw [if_pos rfl, ask_t (by unfold in64; omega), ask_t (by omega), show Int.toNat ((mo : Int) + 1) = mo + 1 by omega]
    obtain ⟨r, er, o, eo, o1, o2⟩ := l2_ok (N := 1000000) (by omega) V hC (most := mo) (by omega) hb 1000000 0 (List.replicate (mo + 1) 0) (by omega) (by omega) (by simp) (fun j hj => by rw [getD_rep, List.take_zero]; rfl)
    have er' : law19_LangCounts_l2 1000000 p acc gd nd (mo : Int) ((allN nd gd acc (two p) (mo + 1)).map cs, 0) 1000000 (List.replicate (mo + 1) 0) 0 = some r := er
    have el4 : law19_LangCounts_l4 1000000 p acc gd nd (mo : Int) o 1000000 0 = some (.inl ()) := l4_ok (N := 1000000) (by omega) V hC (by omega) o1 o2 1000000 0 (by omega) (by omega)
    rw [er', Option.bind_some, eo, Sum.elim_inl, el4, Option.bind_some, Sum.elim_inl]
    refine (Live_ok (N := 1000000) hN V hC).bind fun lv ⟨v1, v2, v3, v4⟩ => ?_
    refine (Reach_ok (N := 1000000) hN V hC).bind fun re ⟨w1, w2, w3, w4⟩ => ?_
    obtain ⟨live, e1⟩ := lv
    obtain ⟨reach, e2⟩ := re
    dsimp only at v1 v2 v3 v4 w1 w2 w3 w4
    subst v1 w1
    have hj6 : law19_LangCounts_j6 1000000 acc (live, 0) (reach, 0) = some false := by
      unfold law19_LangCounts_j6
      dsimp only
      rw [if_pos rfl, if_pos rfl, v2, w2, if_pos rfl]
      simp
    have el7 : law19_LangCounts_l7 1000000 acc gd nd (cs u) true (live, 0) (reach, 0) 1000000 0 0 = some (.inr true) := l7_ok (N := 1000000) (by omega) V hul (by omega) v2 w2 v3 v4 w4 1000000 0 0 (by omega) (by omega) (by omega) (by omega) (by omega)
    rw [hj6, Option.bind_some, if_neg Bool.false_ne_true, el7, Option.bind_some, Sum.elim_inr]
    exact Ok.pure rfl

theorem langCounts_row (w0 : World) (p : Int) (A1 A2 A3 : Option Addr) (c1 c2 c3 : Nat) (acc : List Bool) (gd : List Int) (nd : List Nd) (most : Int) (A4 : Option Addr) (c4 : Nat) (ll : List Int)
    (k1 : acc.length ≤ c1) (k2 : gd.length ≤ c2) (k3 : nd.length ≤ c3) (k4 : ll.length ≤ c4)
    (C1 : C cBool w0 (Lo w0.heap.size) A1 acc) (C2 : C (cInt .i64) w0 (Lo w0.heap.size) A2 gd) (C3 : C cNode w0 (Lo w0.heap.size) A3 nd) (C4 : C (cInt .u8) w0 (Lo w0.heap.size) A4 ll) (hw : ∀ x ∈ nd, x.wf) (hl : ∀ x ∈ ll, 0 ≤ x ∧ x ≤ 255) :
    Calls Try.prog 4 #[.agg #[.int .i64 p, .slice A1 acc.length c1, .slice A2 gd.length c2, .slice A3 nd.length c3], .int .i64 most, .slice A4 ll.length c4] w0 fun e w' => ∃ v, e = .returned v ∧ (v = .bool true ∧ Ext w0 w') :=
  (law19_LangCounts_calls A1 c1 A2 c2 A3 c3 A4 c4 p acc gd nd most ll k1 k2 k3 k4 ((((Hp.start w0).arg C1).arg C2).arg C3 |>.arg C4) (langCounts_true hw hl)).mono fun e w' ⟨v, he, hv, H⟩ => ⟨v, he, hv, H.chgd.own⟩
end Go.V
