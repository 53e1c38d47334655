/- The nearest trace is accepted, is as far off as is told, and no other accepted one of as many letters is nearer, or as near and less. -/
import Derived.Test.YtldcmipgdacecaaBNearBest
import Derived.Test.YtldcmipgdacecaaDN
import Derived.Test.YtldcmipgdacecaaV9
set_option linter.all false
set_option linter.unusedVariables false
set_option maxRecDepth 1000000
namespace Go.V
open Go Go.Proofs
theorem awake_ok : law28_awake 1000000 = some true := by kernel_rfl
theorem and_small (x : Int) (m : Nat) (hm : m ≤ 255) : ∃ l : Nat, l ≤ m ∧ andV .u8 x (m : Int) = (l : Int) := by
  refine ⟨(BitVec.ofInt 8 x &&& BitVec.ofInt 8 (m : Int)).toNat, ?_, ?_⟩
  · have e : (BitVec.ofInt 8 (m : Int)).toNat = m := by simp; omega
    rw [BitVec.toNat_and, e]
    exact Nat.and_le_right
  · have h : (BitVec.ofInt 8 x &&& BitVec.ofInt 8 (m : Int)).toNat < 256 := (BitVec.ofInt 8 x &&& BitVec.ofInt 8 (m : Int)).isLt
    show IntKind.u8.wrap ((BitVec.ofInt 8 x &&& BitVec.ofInt 8 (m : Int)).toNat : Int) = _
    exact wrap_u8 (by omega) (by omega)
theorem mask_ok {p : Int} (hp : 0 ≤ p ∧ p ≤ 4) (x : Int) : ∃ l : Nat, l < two p ∧ andV .u8 x (IntKind.u8.wrap (shlV .u8 1 p - 1)) = (l : Int) := by
  have key : ∀ m : Nat, m ≤ 255 → IntKind.u8.wrap (shlV .u8 1 p - 1) = (m : Int) → m + 1 = two p → ∃ l : Nat, l < two p ∧ andV .u8 x (IntKind.u8.wrap (shlV .u8 1 p - 1)) = (l : Int) := fun m h1 h2 h3 => by
    obtain ⟨l, h4, h5⟩ := and_small x m h1
    exact ⟨l, by omega, by rw [h2]; exact h5⟩
  obtain ⟨c, rfl⟩ := Int.eq_ofNat_of_zero_le hp.1
  have hc : c ≤ 4 := by omega
  match c, hc with
  | 0, _ => exact key 0 (by omega) (by decide) (by decide)
  | 1, _ => exact key 1 (by omega) (by decide) (by decide)
  | 2, _ => exact key 3 (by omega) (by decide) (by decide)
  | 3, _ => exact key 7 (by omega) (by decide) (by decide)
  | 4, _ => exact key 15 (by omega) (by decide) (by decide)

section
variable {N : Nat} {p : Int} {acc : List Bool} {gd : List Int} {nd : List Nd}
theorem Run_l0_ok (hN : 5000 ≤ N) (V : Valid p acc gd nd) {t : List Nat} (ht : t.length ≤ 2000) : ∀ (m : Nat) (q : Nat) (x : Nat), x ≤ t.length → t.length - x < m → q < acc.length → canon_Run_l0 N gd nd (t.map fun l : Nat => (l : Int)) m (q : Int) (x : Int) = some ((runT nd gd q (t.drop x) : Nat) : Int)
  | 0, q, x, _, h, _ => by omega
  | m + 1, q, x, k0, k1, k2 => by
    have gl := V.gl
    unfold canon_Run_l0
    rw [List.length_map]
    by_cases hx : (x : Int) < (t.length : Int)
    · have ha : x < t.length := by omega
      have e : (t.map fun l : Nat => (l : Int)).getD (x : Int).toNat 0 = ((t.getD x 0 : Nat) : Int) := by
        rw [Int.toNat_natCast, List.getD_eq_getElem?_getD, List.getD_eq_getElem?_getD, List.getElem?_map, List.getElem?_eq_getElem ha]
        rfl
      rw [if_pos hx, e, Int.toNat_natCast]
      unfold ask
      have ih := Run_l0_ok hN V ht m (stp nd gd q (t.getD x 0)) (x + 1) (by omega) (by omega) (stp_eq V k2 _).2
      have e3 : ((x : Int) + 1) = ((x + 1 : Nat) : Int) := by omega
      have e4 : runT nd gd (stp nd gd q (t.getD x 0)) (t.drop (x + 1)) = runT nd gd q (t.drop x) := by
        rw [List.drop_eq_getElem_cons ha, List.getD_eq_getElem?_getD, List.getElem?_eq_getElem ha]
        unfold runT
        rw [List.foldl_cons, Option.getD_some]
      rw [if_pos (by unfold idx; omega), if_pos (by unfold idx; omega), stp_go hN V k2, Option.bind_some, if_pos (by unfold in64; omega)]
      show canon_Run_l0 N gd nd (t.map fun l : Nat => (l : Int)) m (stp nd gd q (t.getD x 0) : Int) ((x : Int) + 1) = _
      rw [e3, ih, e4]
    · rw [if_neg hx, List.drop_eq_nil_of_le (by omega)]
      unfold runT
      rw [List.foldl_nil]
theorem Run_ok (hN : 5000 ≤ N) (V : Valid p acc gd nd) (hC : guard_Check N p acc gd nd = some 0) {t : List Nat} (h : ∀ l ∈ t, l < two p) (ht : t.length ≤ 1024) : canon_Run N p acc gd nd (t.map fun l : Nat => (l : Int)) = some (((runT nd gd 0 t : Nat) : Int), 0) := by
  unfold canon_Run
  rw [hC]
  simp only [Option.bind_some, if_true]
  rw [Trace_ok hN ⟨V.p0, V.p8⟩ h ht]
  simp only [Option.bind_some, if_true]
  have := Run_l0_ok hN V (t := t) (by omega) N 0 0 (by omega) (by omega) (by have := V.a1; omega)
  rw [List.drop_zero] at this
  have e : canon_Run_l0 N gd nd (t.map fun l : Nat => (l : Int)) N 0 0 = some ((runT nd gd 0 t : Nat) : Int) := this
  rw [e]
  rfl

theorem accepts_ok (hN : 5000 ≤ N) (V : Valid p acc gd nd) (hC : guard_Check N p acc gd nd = some 0) {t : List Nat} (h : ∀ l ∈ t, l < two p) (ht : t.length ≤ 1024) : law28_accepts N p acc gd nd (t.map fun l : Nat => (l : Int)) = some (acc.getD (runT nd gd 0 t) false) := by
  have hlt := runT_lt V t 0 (by have := V.a1; omega)
  unfold law28_accepts
  rw [Run_ok hN V hC h ht, Option.bind_some]
  dsimp only
  rw [if_pos rfl, if_pos (by omega), if_pos (by omega)]
  unfold ask
  rw [if_pos (by unfold idx; omega), Int.toNat_natCast]
theorem before_l0_ok {a b : List Nat} (hl : a.length = b.length) (ht : a.length ≤ 100000) : ∀ (m i : Nat), i ≤ a.length → a.length - i < m → ∃ s, law28_before_l0 N (a.map fun l : Nat => (l : Int)) (b.map fun l : Nat => (l : Int)) m (i : Int) = some s ∧ Sum.elim (fun _ => false) (fun x => x) s = befN (a.drop i) (b.drop i)
  | 0, i, _, h => by omega
  | m + 1, i, k0, k1 => by
    by_cases hi : i < a.length
    · have hib : i < b.length := by omega
      obtain ⟨s, h1, h2⟩ := before_l0_ok hl ht m (i + 1) (by omega) (by omega)
      have e : befN (a.drop i) (b.drop i) = if a.getD i 0 = b.getD i 0 then befN (a.drop (i + 1)) (b.drop (i + 1)) else decide (a.getD i 0 < b.getD i 0) := by rw [dropD hi, dropD hib]; rfl
      unfold law28_before_l0
      rw [List.length_map, List.length_map, Int.toNat_natCast i, getD_mp hi, getD_mp hib]
      unfold ask
      rw [if_pos (show (i : Int) < (a.length : Int) by omega), if_pos (show (i : Int) < (b.length : Int) by omega), if_pos (by unfold idx; omega), if_pos (by unfold idx; omega), if_pos (show in64 ((i : Int) + 1) by unfold in64; omega), e]
      by_cases c : a.getD i 0 = b.getD i 0
      · rw [if_pos c, if_pos (by omega), show ((i : Int) + 1) = ((i + 1 : Nat) : Int) by omega]
        exact ⟨s, h1, h2⟩
      · rw [if_neg c, if_neg (by omega)]
        refine ⟨_, rfl, ?_⟩
        show decide (((a.getD i 0 : Nat) : Int) < ((b.getD i 0 : Nat) : Int)) = decide (a.getD i 0 < b.getD i 0)
        rw [decide_eq_decide]
        omega
    · unfold law28_before_l0
      rw [List.length_map, if_neg (show ¬ (i : Int) < (a.length : Int) by omega), List.drop_eq_nil_of_le (by omega), List.drop_eq_nil_of_le (by omega)]
      exact ⟨_, rfl, rfl⟩
theorem before_ok (hN : 5000 ≤ N) {a b : List Nat} (hl : a.length = b.length) (ht : a.length ≤ 1024) : law28_before N (a.map fun l : Nat => (l : Int)) (b.map fun l : Nat => (l : Int)) = some (befN a b) := by
  obtain ⟨s, h1, h2⟩ := before_l0_ok (N := N) hl (by omega) N 0 (by omega) (by omega)
  have h1' : law28_before_l0 N (a.map fun l : Nat => (l : Int)) (b.map fun l : Nat => (l : Int)) N 0 = some s := h1
  unfold law28_before
  rw [h1', Option.bind_some]
  rw [List.drop_zero, List.drop_zero] at h2
  rw [← h2]
  cases s with
  | inl x => rfl
  | inr x => rfl
theorem j0_ok {t : List Int} : Ok (law28_NearBest_j0 N p acc gd nd t) fun b => b = false → acc.length ≤ 24 ∧ (0 ≤ p ∧ p ≤ 4) ∧ t.length ≤ 40 := by
  unfold law28_NearBest_j0 law16_Small
  by_cases c1 : ((acc.length : Nat) : Int) ≤ 24
  · by_cases c2 : p ≤ 4
    · by_cases c3 : ((nd.length : Nat) : Int) ≤ 400
      · rw [if_pos c1, if_pos c2, if_pos c3, Option.bind_some]
        refine Ok.ite (fun _ => ?_) fun _ => Ok.pure fun h => by cases h
        refine Ok.ite (fun _ => Ok.pure fun h => by cases h) fun h => Ok.pure fun h2 => ?_
        have h3 := of_decide_eq_false h2
        omega
      · rw [if_pos c1, if_pos c2, if_neg c3, Option.bind_some, if_neg (by simp)]
        exact Ok.pure fun h => by cases h
    · rw [if_pos c1, if_neg c2, Option.bind_some, if_neg (by simp)]
      exact Ok.pure fun h => by cases h
  · rw [if_neg c1, Option.bind_some, if_neg (by simp)]
    exact Ok.pure fun h => by cases h
theorem few_ok (hp : 0 ≤ p ∧ p ≤ 4) {t other : List Int} (ht : t.length ≤ 40) : ∀ (m i : Nat) (f b : List Nat), i ≤ t.length → t.length - i < m → f.length = i → b.length = i → (∀ l ∈ f, l < two p) → (∀ l ∈ b, l < two p) →
    Ok (law28_NearBest_l1 N p t other m (f.map fun l : Nat => (l : Int)) (b.map fun l : Nat => (l : Int)) (i : Int)) fun r => ∃ f' b' : List Nat, r = (f'.map fun l : Nat => (l : Int), b'.map fun l : Nat => (l : Int)) ∧ f'.length = t.length ∧ b'.length = t.length ∧ (∀ l ∈ f', l < two p) ∧ ∀ l ∈ b', l < two p
  | 0, i, f, b, _, h, _, _, _, _ => by omega
  | m + 1, i, f, b, k0, k1, hf, hb, hfl, hbl => by
    unfold law28_NearBest_l1
    by_cases hi : i < t.length
    · obtain ⟨l, hl, el⟩ := mask_ok hp (t.getD i 0)
      obtain ⟨l2, hl2, el2⟩ := mask_ok hp (other.getD i 0)
      have eg : (f.map (fun l : Nat => (l : Int)) ++ [(l : Int)]).getD i 0 = (l : Int) := by
        rw [getD_snoc, if_pos (by rw [List.length_map, hf])]
      have hj : ∃ z : Nat, z < two p ∧ law28_NearBest_j2 N p t other (f.map fun l : Nat => (l : Int)) (i : Int) = some (z : Int) := by
        unfold law28_NearBest_j2
        rw [Int.toNat_natCast, el2, el, eg]
        by_cases c : (i : Int) < (other.length : Int)
        · unfold ask
          rw [if_pos c, if_pos (by unfold idx; omega)]
          exact ⟨l2, hl2, rfl⟩
        · rw [if_neg c]
          exact ⟨l, hl, rfl⟩
      obtain ⟨z, hz, ez⟩ := hj
      rw [if_pos (show (i : Int) < (t.length : Int) by omega), Int.toNat_natCast, el, ez, Option.bind_some, show ((i : Int) + 1) = ((i + 1 : Nat) : Int) by omega]
      have e1 : (f.map (fun l : Nat => (l : Int)) ++ [(l : Int)]) = (f ++ [l]).map fun l : Nat => (l : Int) := by rw [List.map_append]; rfl
      have e2 : (b.map (fun l : Nat => (l : Int)) ++ [(z : Int)]) = (b ++ [z]).map fun l : Nat => (l : Int) := by rw [List.map_append]; rfl
      refine Ok.ask (by unfold idx; omega) (Ok.ask hp.1 (Ok.ask (by simp; omega) (Ok.ask (by unfold idx; simp; omega) (Ok.ask (by simp; omega) (Ok.ask (by unfold in64; omega) ?_)))))
      rw [e1, e2]
      refine few_ok hp ht m (i + 1) (f ++ [l]) (b ++ [z]) (by omega) (by omega) (by simp [hf]) (by simp [hb]) (fun k hk => ?_) fun k hk => ?_
      · rcases List.mem_append.1 hk with hk | hk
        · exact hfl k hk
        · rw [List.mem_singleton.1 hk]; exact hl
      · rcases List.mem_append.1 hk with hk | hk
        · exact hbl k hk
        · rw [List.mem_singleton.1 hk]; exact hz
    · rw [if_neg (show ¬ (i : Int) < (t.length : Int) by omega)]
      exact Ok.pure ⟨f, b, rfl, by omega, by omega, hfl, hbl⟩
end
theorem nearBest_true {p : Int} {acc : List Bool} {gd : List Int} {nd : List Nd} {t other : List Int} (hw : ∀ x ∈ nd, x.wf) : law28_NearBest 1000000 p acc gd nd t other = some true := by
  have hN : 5000 ≤ 1000000 := by decide
  unfold law28_NearBest
  rw [awake_ok, Option.bind_some]
  obtain ⟨b, eb, hb⟩ := j0_ok (N := 1000000) (p := p) (acc := acc) (gd := gd) (nd := nd) (t := t)
  rw [eb, Option.bind_some]
  cases b with
  | true => rfl
  | false =>
  obtain ⟨ha, hp, ht⟩ := hb rfl
  rw [if_neg (by simp)]
  obtain ⟨r, er, f, b, rfl, hf, hb, hfl, hbl⟩ := few_ok (N := 1000000) hp (t := t) (other := other) ht 1000000 0 [] [] (by omega) (by omega) rfl rfl (fun l h => by cases h) (fun l h => by cases h)
  have er' : law28_NearBest_l1 1000000 p t other 1000000 [] [] 0 = some (f.map fun l : Nat => (l : Int), b.map fun l : Nat => (l : Int)) := er
  rw [er', Option.bind_some]
  obtain ⟨e, hC, he⟩ := guard_Check_ok (N := 1000000) (p := p) (acc := acc) (gd := gd) hN hw
  by_cases h0 : e = 0
  · subst h0
    have V := he.2 rfl
    have sh := shl_two ⟨V.p0, V.p8⟩
    have hf8 : ∀ l ∈ f, l < 256 := fun l hl => by have := hfl l hl; omega
    have hb8 : ∀ l ∈ b, l < 256 := fun l hl => by have := hbl l hl; omega
    have af := accepts_ok hN V hC hfl (by omega)
    have ab := accepts_ok hN V hC hbl (by omega)
    rcases Near_ok hN V hC hfl (by omega) with ⟨c, en⟩ | ⟨y, c, en, hy⟩
    · have nf : acc.getD (runT nd gd 0 f) false = false := by
        cases h : acc.getD (runT nd gd 0 f) false with
        | false => rfl
        | true => have := (cst_low (L := two p) f f 0 rfl hfl h).1; omega
      have nb : acc.getD (runT nd gd 0 b) false = false := by
        cases h : acc.getD (runT nd gd 0 b) false with
        | false => rfl
        | true => have := (cst_low (L := two p) f b 0 (by omega) hbl h).1; omega
      rw [en, Option.bind_some, if_pos rfl, if_neg (by simp)]
      unfold law28_NearBest_j4
      rw [if_pos rfl, af, Option.bind_some, nf, if_neg (by simp), ab, Option.bind_some, nb]
      rfl
    · have yl := hy.len
      have hy8 : ∀ l ∈ y, l < 256 := fun l hl => by have := hy.lt l hl; omega
      have ay := accepts_ok hN V hC hy.lt (by omega)
      rw [hy.hit] at ay
      have hfar := hy.far
      rw [en, Option.bind_some, if_pos rfl, if_pos rfl, Far_ok hN (by omega) hy8 hf8 (by omega), Option.bind_some, Far_ok hN (by omega) hb8 hf8 (by omega), Option.bind_some]
      have j5 : law28_NearBest_j5 1000000 p acc gd nd (f.map fun l : Nat => (l : Int), b.map fun l : Nat => (l : Int)) (y.map fun l : Nat => (l : Int), cst nd gd acc (two p) f 0, true, 0) (((farN y f : Nat) : Int), 0) (((farN b f : Nat) : Int), 0) = some false := by
        unfold law28_NearBest_j5
        rw [if_pos rfl, if_pos rfl, if_pos (by show ((List.length (y.map fun l : Nat => (l : Int)) : Nat) : Int) = ((List.length (f.map fun l : Nat => (l : Int)) : Nat) : Int); rw [List.length_map, List.length_map, yl]), ay, Option.bind_some, if_pos rfl, if_pos hfar, af, Option.bind_some]
        have key : acc.getD (runT nd gd 0 f) false = (cst nd gd acc (two p) f 0 == 0) := by
          rw [Bool.eq_iff_iff, beq_iff_eq]
          constructor
          · intro h
            have h1 := cst_low (L := two p) f f 0 rfl hfl h
            have h2 := (farN_zero f f rfl hf8 hf8).2 rfl
            omega
          · intro h
            have h1 := (farN_zero y f yl hy8 hf8).1 (by omega)
            rw [← h1]
            exact hy.hit
        rw [key]
        show some (!((cst nd gd acc (two p) f 0 == 0) == (cst nd gd acc (two p) f 0 == 0))) = some false
        rw [beq_self_eq_true]
        rfl
      have j6 : law28_NearBest_j6 1000000 p acc gd nd (f.map fun l : Nat => (l : Int), b.map fun l : Nat => (l : Int)) (y.map fun l : Nat => (l : Int), cst nd gd acc (two p) f 0, true, 0) (((farN b f : Nat) : Int), 0) = some false := by
        unfold law28_NearBest_j6
        rw [ab, Option.bind_some]
        cases h : acc.getD (runT nd gd 0 b) false with
        | false => rfl
        | true =>
          have h1 := cst_low (L := two p) f b 0 (by omega) hbl h
          rw [if_pos rfl, if_neg (by show ¬ ((farN b f : Nat) : Int) < cst nd gd acc (two p) f 0; omega)]
          by_cases c2 : ((farN b f : Nat) : Int) = cst nd gd acc (two p) f 0
          · rw [if_pos c2, before_ok hN (by omega) (by omega), Option.bind_some, hy.first b (by omega) hbl h c2]
          · rw [if_neg c2]
      rw [j5, Option.bind_some, if_neg (by simp), j6, Option.bind_some, if_neg (by simp)]
  · have en : near_Near 1000000 p acc gd nd (f.map fun l : Nat => (l : Int)) = some ([], 0, false, e) := by
      unfold near_Near near_asked
      rw [hC, Option.bind_some, if_neg h0, Option.bind_some, if_neg h0]
    rw [en, Option.bind_some, if_neg h0]
    rfl
theorem nearBest_row (w0 : World) (p : Int) (A1 A2 A3 : Option Addr) (c1 c2 c3 : Nat) (acc : List Bool) (gd : List Int) (nd : List Nd) (A4 : Option Addr) (c4 : Nat) (t : List Int) (A5 : Option Addr) (c5 : Nat) (other : List Int)
    (k1 : acc.length ≤ c1) (k2 : gd.length ≤ c2) (k3 : nd.length ≤ c3) (k4 : t.length ≤ c4) (k5 : other.length ≤ c5)
    (C1 : C cBool w0 (Lo w0.heap.size) A1 acc) (C2 : C (cInt .i64) w0 (Lo w0.heap.size) A2 gd) (C3 : C cNode w0 (Lo w0.heap.size) A3 nd) (C4 : C (cInt .u8) w0 (Lo w0.heap.size) A4 t) (C5 : C (cInt .u8) w0 (Lo w0.heap.size) A5 other) (hw : ∀ x ∈ nd, x.wf) :
    Calls Try.prog 7 #[.agg #[.int .i64 p, .slice A1 acc.length c1, .slice A2 gd.length c2, .slice A3 nd.length c3], .slice A4 t.length c4, .slice A5 other.length c5] w0 fun e w' => ∃ v, e = .returned v ∧ (v = .bool true ∧ Ext w0 w') :=
  (law28_NearBest_calls A1 c1 A2 c2 A3 c3 A4 c4 A5 c5 p acc gd nd t other k1 k2 k3 k4 k5 (((((Hp.start w0).arg C1).arg C2).arg C3).arg C4 |>.arg C5) (nearBest_true hw)).mono fun e w' ⟨v, he, hv, H⟩ => ⟨v, he, hv, H.chgd.own⟩
end Go.V
