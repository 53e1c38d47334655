/- The plain law PartClasses. No condition. -/
import Derived.Test.YteiemajlkgdhaaaBPartClasses
import Derived.Test.YteiemajlkgdhaaaPX2
import Derived.Test.YteiemajlkgdhaaaV9
set_option linter.all false
set_option linter.unusedVariables false
set_option maxRecDepth 1000000
namespace Go.V
open Go Go.Proofs
theorem awake16 : law16_awake 3000000 = some true := by kernel_rfl

theorem and_small (x : Int) (m : Nat) (hm : m ≤ 255) : ∃ l : Nat, l ≤ m ∧ andV .u8 x (m : Int) = (l : Int) := by
  refine ⟨(BitVec.ofInt 8 x &&& BitVec.ofInt 8 (m : Int)).toNat, ?_, ?_⟩
  · have e : (BitVec.ofInt 8 (m : Int)).toNat = m := by simp; omega
    rw [BitVec.toNat_and, e]
    exact Nat.and_le_right
  · have h : (BitVec.ofInt 8 x &&& BitVec.ofInt 8 (m : Int)).toNat < 256 := (BitVec.ofInt 8 x &&& BitVec.ofInt 8 (m : Int)).isLt
    show IntKind.u8.wrap ((BitVec.ofInt 8 x &&& BitVec.ofInt 8 (m : Int)).toNat : Int) = _
    exact wrap_u8 (by omega) (by omega)
theorem mask_ok {p : Int} (hp : 0 ≤ p ∧ p ≤ 4) (x : Int) : ∃ l : Nat, l < two p ∧ andV .u8 x (IntKind.u8.wrap (shlV .u8 1 p - 1)) = (l : Int) := by
  have key : ∀ m : Nat, m ≤ 255 → IntKind.u8.wrap (shlV .u8 1 p - 1) = (m : Int) → m + 1 = two p → ∃ l : Nat, l < two p ∧ andV .u8 x (IntKind.u8.wrap (shlV .u8 1 p - 1)) = (l : Int) := fun m h1 h2 h3 => by
    obtain ⟨l, h4, h5⟩ := and_small x m h1
    exact ⟨l, by omega, by rw [h2]; exact h5⟩
  obtain ⟨c, rfl⟩ := Int.eq_ofNat_of_zero_le hp.1
  have hc : c ≤ 4 := by omega
  match c, hc with
  | 0, _ => exact key 0 (by omega) (by decide) (by decide)
  | 1, _ => exact key 1 (by omega) (by decide) (by decide)
  | 2, _ => exact key 3 (by omega) (by decide) (by decide)
  | 3, _ => exact key 7 (by omega) (by decide) (by decide)
  | 4, _ => exact key 15 (by omega) (by decide) (by decide)
section
variable {N : Nat} {p : Int} {acc : List Bool} {gd : List Int} {nd : List Nd}
theorem Pick_ok {N : Nat} {x n : Int} (h1 : 1 ≤ n) (h2 : n ≤ 1000000) : Ok (kit_Pick N x n) fun r => 0 ≤ r ∧ r < n := by
  have k1 := Int.tmod_lt_of_pos x (show 0 < n by omega)
  have k2 := Int.lt_tmod_of_pos x (show 0 < n by omega)
  unfold kit_Pick
  refine Ok.ite (fun h => by omega) fun _ => Ok.ask (by omega) (Ok.ite (fun h => Ok.ask (by unfold in64; omega) (Ok.pure (by omega))) fun h => Ok.pure (by omega))
theorem led_l0_ok (hN : 5000 ≤ N) (V : Valid p acc gd nd) {t : List Nat} (ht : t.length ≤ 2000000) : ∀ (m : Nat) (q i : Nat), i ≤ t.length → t.length - i < m → q < acc.length → law16_led_l0 N gd nd (t.map fun l : Nat => (l : Int)) m (q : Int) (i : Int) = some (.inl ((runT nd gd q (t.drop i) : Nat) : Int))
  | 0, q, i, _, h, _ => by omega
  | m + 1, q, i, k0, k1, k2 => by
    have gl := V.gl
    unfold law16_led_l0
    rw [List.length_map]
    by_cases hx : (i : Int) < (t.length : Int)
    · have ha : i < t.length := by omega
      have e : (t.map fun l : Nat => (l : Int)).getD (i : Int).toNat 0 = ((t.getD i 0 : Nat) : Int) := by
        rw [Int.toNat_natCast, List.getD_eq_getElem?_getD, List.getD_eq_getElem?_getD, List.getElem?_map, List.getElem?_eq_getElem ha]
        rfl
      have ih := led_l0_ok hN V ht m (stp nd gd q (t.getD i 0)) (i + 1) (by omega) (by omega) (stp_eq V k2 _).2
      have e3 : ((i : Int) + 1) = ((i + 1 : Nat) : Int) := by omega
      have e4 : runT nd gd (stp nd gd q (t.getD i 0)) (t.drop (i + 1)) = runT nd gd q (t.drop i) := by
        rw [List.drop_eq_getElem_cons ha, List.getD_eq_getElem?_getD, List.getElem?_eq_getElem ha]
        unfold runT
        rw [List.foldl_cons, Option.getD_some]
      rw [if_pos hx, if_neg (by omega), if_neg (by omega), e, Int.toNat_natCast]
      unfold ask
      rw [if_pos (by unfold idx; omega), if_pos (by unfold idx; omega), stp_go hN V k2, Option.bind_some, if_pos rfl, if_pos (by unfold in64; omega)]
      show law16_led_l0 N gd nd (t.map fun l : Nat => (l : Int)) m (stp nd gd q (t.getD i 0) : Int) ((i : Int) + 1) = _
      rw [e3, ih, e4]
    · rw [if_neg hx, List.drop_eq_nil_of_le (by omega)]
      unfold runT
      rw [List.foldl_nil]
theorem led_ok (hN : 5000 ≤ N) (V : Valid p acc gd nd) {t : List Nat} (ht : t.length ≤ 2000000) (htN : t.length < N) {q : Nat} (hq : q < acc.length) : law16_led N p acc gd nd (q : Int) (t.map fun l : Nat => (l : Int)) = some (((runT nd gd q t : Nat) : Int), true) := by
  have h := led_l0_ok hN V ht N q 0 (by omega) (by omega) hq
  have hlt := runT_lt V t q hq
  rw [List.drop_zero] at h
  have e : law16_led_l0 N gd nd (t.map fun l : Nat => (l : Int)) N (q : Int) 0 = some (.inl ((runT nd gd q t : Nat) : Int)) := h
  unfold law16_led
  rw [e]
  simp only [Option.bind_some, Sum.elim_inl]
  rw [if_pos (by omega), decide_eq_true (by omega)]
theorem few_ok (hp : 0 ≤ p ∧ p ≤ 4) {ll : List Int} (hl : ll.length ≤ 2000000) : ∀ (m : Nat) (t : List Nat) (i : Int), 0 ≤ i → i ≤ ll.length → (ll.length : Int) - i < m → (t.length : Int) = i → (∀ l ∈ t, l < two p) →
    Ok (law16_PartClasses_l4 N p ll m (t.map fun l : Nat => (l : Int)) i) fun r => ∃ u : List Nat, r = u.map (fun l : Nat => (l : Int)) ∧ u.length = ll.length ∧ ∀ l ∈ u, l < two p
  | 0, t, i, _, _, h, _, _ => by omega
  | m + 1, t, i, k0, k1, k2, k3, k4 => by
    unfold law16_PartClasses_l4
    refine Ok.ite (fun hx => ?_) fun hx => Ok.pure ⟨t, rfl, by omega, k4⟩
    obtain ⟨l, hl2, e⟩ := mask_ok hp (ll.getD i.toNat 0)
    rw [e]
    refine Ok.ask (by unfold idx; omega) (Ok.ask hp.1 (Ok.ask (by simp; omega) (Ok.ask (by unfold in64; omega) ?_)))
    have e2 : (t.map fun l : Nat => (l : Int)) ++ [(l : Int)] = (t ++ [l]).map fun l : Nat => (l : Int) := by simp
    rw [e2]
    refine few_ok hp hl m (t ++ [l]) (i + 1) (by omega) (by omega) (by omega) (by simp; omega) fun y hy => ?_
    rcases List.mem_append.1 hy with h | h
    · exact k4 y h
    · rw [List.mem_singleton] at h; omega
end

theorem partClasses_true {p : Int} {acc : List Bool} {gd : List Int} {nd : List Nd} {pq qq : Int} {ll : List Int} (hw : ∀ x ∈ nd, x.wf) (hl : ll.length ≤ 1048576) :
    law16_PartClasses 3000000 p acc gd nd pq qq ll = some true := by
  have hN : 5000 ≤ 3000000 := by omega
  refine Ok.eq ?_
  unfold law16_PartClasses
  rw [awake16]
  simp only [Option.bind_some]
  obtain ⟨e, hC, he⟩ := guard_Check_ok (N := 3000000) (p := p) (acc := acc) (gd := gd) hN hw
  have hS : Ok (law16_Small 3000000 p acc gd nd) fun r => r = true → p ≤ 4 := by
    unfold law16_Small
    repeat' (first | exact Ok.pure fun h => by cases h | exact Ok.pure fun _ => by omega | refine Ok.ite (fun _ => ?_) fun _ => ?_)
  obtain ⟨sm, es, hsm⟩ := hS
  by_cases h0 : e = 0
  · have V := he.2 h0
    rw [h0] at hC
    have a1 := V.a1
    have a2 := V.a2
    have p0 := V.p0
    refine (Classes_ok hN V hC).bind fun r ⟨r1, A⟩ => ?_
    obtain ⟨c, rc⟩ := r
    dsimp only at r1 A ⊢
    subst r1
    have cl := A.len
    have hj0 : law16_PartClasses_j0 3000000 p acc gd nd (c, 0) = some (!sm) := by
      unfold law16_PartClasses_j0
      rw [es]
      cases sm <;> rfl
    rw [hj0]
    simp only [Option.bind_some]
    refine Ok.ite (fun _ => Ok.pure rfl) fun hsm2 => ?_
    have hp4 : p ≤ 4 := hsm (by cases sm <;> simp_all)
    have hj1 : law16_PartClasses_j1 3000000 acc (c, 0) = some false := by
      unfold law16_PartClasses_j1
      dsimp only
      rw [if_pos (by omega)]
      have : ¬ (((List.length acc) : Nat) : Int) = 0 := by omega
      simpa using this
    rw [hj1]
    simp only [Option.bind_some, Bool.false_eq_true, if_false]
    refine (Pick_ok (by omega) (by omega)).bind fun u ⟨u0, u1⟩ => (Pick_ok (by omega) (by omega)).bind fun v ⟨v0, v1⟩ => ?_
    obtain ⟨a, rfl⟩ := Int.eq_ofNat_of_zero_le u0
    obtain ⟨b, rfl⟩ := Int.eq_ofNat_of_zero_le v0
    have ha : a < acc.length := by omega
    have hb : b < acc.length := by omega
    refine (Parts_ok (by omega) V hC ha hb).bind fun r hr => ?_
    rcases hr with ⟨rfl, hr⟩ | ⟨t, rfl, t0, t1, t2⟩
    · have hcc : c.getD a 0 = c.getD b 0 := Classical.byContradiction fun h => by
        obtain ⟨t, t1, t2⟩ := A.dist a b ha hb h
        exact t2 (hr t t1)
      have hj2 : law16_PartClasses_j2 3000000 (c, 0) (a : Int) (b : Int) ([], false, 0) = some false := by
        unfold law16_PartClasses_j2
        dsimp only
        rw [if_pos rfl, Int.toNat_natCast, Int.toNat_natCast, hcc]
        unfold ask
        rw [if_pos (by unfold idx; omega), if_pos (by unfold idx; omega)]
        simp
      rw [hj2]
      simp only [Option.bind_some, Bool.false_eq_true, if_false]
      refine (few_ok ⟨p0, hp4⟩ (by omega) 3000000 [] 0 (by omega) (by omega) (by omega) rfl fun l hl => by cases hl).bind fun x ⟨w, e, w1, w2⟩ => ?_
      subst e
      rw [led_ok hN V (by omega) (by omega) ha, led_ok hN V (by omega) (by omega) hb]
      simp only [Option.bind_some]
      have l1 := runT_lt V w a ha
      have l2 := runT_lt V w b hb
      have hj5 : law16_PartClasses_j5 3000000 acc (c, 0) (((runT nd gd a w : Nat) : Int), true) (((runT nd gd b w : Nat) : Int), true) = some false := by
        unfold law16_PartClasses_j5
        dsimp only
        rw [if_pos rfl, if_pos rfl, Int.toNat_natCast, Int.toNat_natCast]
        unfold ask
        rw [if_pos (by unfold idx; omega), if_pos (by unfold idx; omega), if_pos (hr w w2), if_pos (by unfold idx; omega), if_pos (by unfold idx; omega), A.run V w a b w2 ha hb hcc]
        simp
      rw [hj5]
      exact Ok.pure rfl
    · have hcc : c.getD a 0 ≠ c.getD b 0 := fun h => t2 (A.accs _ _ (runT_lt V t a ha) (runT_lt V t b hb) (A.run V t a b t1 ha hb h))
      have hj2 : law16_PartClasses_j2 3000000 (c, 0) (a : Int) (b : Int) (t.map (fun l : Nat => (l : Int)), true, 0) = some false := by
        unfold law16_PartClasses_j2
        dsimp only
        rw [if_pos rfl, Int.toNat_natCast, Int.toNat_natCast]
        unfold ask
        rw [if_pos (by unfold idx; omega), if_pos (by unfold idx; omega)]
        simpa using hcc
      rw [hj2]
      simp only [Option.bind_some, Bool.false_eq_true, if_false, if_true]
      rw [led_ok hN V (by omega) (by omega) ha, led_ok hN V (by omega) (by omega) hb]
      simp only [Option.bind_some]
      have l1 := runT_lt V t a ha
      have l2 := runT_lt V t b hb
      have hj3 : law16_PartClasses_j3 3000000 acc true (((runT nd gd a t : Nat) : Int), true) (((runT nd gd b t : Nat) : Int), true) = some true := by
        unfold law16_PartClasses_j3
        dsimp only
        rw [if_pos rfl, if_pos rfl, if_pos rfl, Int.toNat_natCast, Int.toNat_natCast]
        unfold ask
        rw [if_pos (by unfold idx; omega), if_pos (by unfold idx; omega)]
        simpa using t2
      rw [hj3]
      exact Ok.pure rfl
  · rw [Classes_no hC h0]
    simp only [Option.bind_some]
    have hj0 : law16_PartClasses_j0 3000000 p acc gd nd ([], e) = some true := by
      unfold law16_PartClasses_j0
      rw [es]
      cases sm
      · rfl
      · simpa using h0
    rw [hj0]
    exact Ok.pure rfl

theorem partClasses_row (w0 : World) (p : Int) (A1 A2 A3 : Option Addr) (c1 c2 c3 : Nat) (acc : List Bool) (gd : List Int) (nd : List Nd) (pq qq : Int) (A4 : Option Addr) (c4 : Nat) (ll : List Int)
    (k1 : acc.length ≤ c1) (k2 : gd.length ≤ c2) (k3 : nd.length ≤ c3) (k4 : ll.length ≤ c4)
    (C1 : C cBool w0 (Lo w0.heap.size) A1 acc) (C2 : C (cInt .i64) w0 (Lo w0.heap.size) A2 gd) (C3 : C cNode w0 (Lo w0.heap.size) A3 nd) (C4 : C (cInt .u8) w0 (Lo w0.heap.size) A4 ll) (hw : ∀ x ∈ nd, x.wf) (hl : ll.length ≤ 1048576) :
    Calls Try.prog 3 #[.agg #[.int .i64 p, .slice A1 acc.length c1, .slice A2 gd.length c2, .slice A3 nd.length c3], .int .i64 pq, .int .i64 qq, .slice A4 ll.length c4] w0 fun e w' => ∃ v, e = .returned v ∧ (v = .bool true ∧ Ext w0 w') :=
  (law16_PartClasses_calls A1 c1 A2 c2 A3 c3 A4 c4 p acc gd nd pq qq ll k1 k2 k3 k4 ((((Hp.start w0).arg C1).arg C2).arg C3 |>.arg C4) (partClasses_true hw hl)).mono fun e w' ⟨v, he, hv, H⟩ => ⟨v, he, hv, H.chgd.own⟩
end Go.V
