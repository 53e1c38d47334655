/- The plain law WatchTrue. No condition. -/
import Derived.Test.YtljkomkejdngcaaBWatchTrue
import Derived.Test.YtljkomkejdngcaaWT
import Derived.Test.YtljkomkejdngcaaV9
set_option linter.all false
set_option linter.unusedVariables false
set_option maxRecDepth 1000000
namespace Go.V
open Go Go.Proofs
theorem awake21 : law21_awake 1000000 = some true := by kernel_rfl

theorem and_small (x : Int) (m : Nat) (hm : m ≤ 255) : ∃ l : Nat, l ≤ m ∧ andV .u8 x (m : Int) = (l : Int) := by
  refine ⟨(BitVec.ofInt 8 x &&& BitVec.ofInt 8 (m : Int)).toNat, ?_, ?_⟩
  · have e : (BitVec.ofInt 8 (m : Int)).toNat = m := by simp; omega
    rw [BitVec.toNat_and, e]
    exact Nat.and_le_right
  · have h : (BitVec.ofInt 8 x &&& BitVec.ofInt 8 (m : Int)).toNat < 256 := (BitVec.ofInt 8 x &&& BitVec.ofInt 8 (m : Int)).isLt
    show IntKind.u8.wrap ((BitVec.ofInt 8 x &&& BitVec.ofInt 8 (m : Int)).toNat : Int) = _
    exact wrap_u8 (by omega) (by omega)
theorem mask_ok {p : Int} (hp : 0 ≤ p ∧ p ≤ 4) (x : Int) : ∃ l : Nat, l < two p ∧ andV .u8 x (IntKind.u8.wrap (shlV .u8 1 p - 1)) = (l : Int) := by
  have key : ∀ m : Nat, m ≤ 255 → IntKind.u8.wrap (shlV .u8 1 p - 1) = (m : Int) → m + 1 = two p → ∃ l : Nat, l < two p ∧ andV .u8 x (IntKind.u8.wrap (shlV .u8 1 p - 1)) = (l : Int) := fun m h1 h2 h3 => by
    obtain ⟨l, h4, h5⟩ := and_small x m h1
    exact ⟨l, by omega, by rw [h2]; exact h5⟩
  obtain ⟨c, rfl⟩ := Int.eq_ofNat_of_zero_le hp.1
  have hc : c ≤ 4 := by omega
  match c, hc with
  | 0, _ => exact key 0 (by omega) (by decide) (by decide)
  | 1, _ => exact key 1 (by omega) (by decide) (by decide)
  | 2, _ => exact key 3 (by omega) (by decide) (by decide)
  | 3, _ => exact key 7 (by omega) (by decide) (by decide)
  | 4, _ => exact key 15 (by omega) (by decide) (by decide)
section
variable {N : Nat} {p : Int} {acc : List Bool} {gd : List Int} {nd : List Nd} {b : WB}
theorem j18_ok {a1 a2 a3 e : Int} {v n2 last q : Int} {w : List Int} (hq : idx q acc.length) (h1 : v = 1 → acc.getD q.toNat false = true) (h2 : v ≠ 1 → acc.getD q.toNat false = (v == 3)) (h3 : last = 3 → v = 3) (h4 : last = 2 → v = 2) : law21_WatchTrue_j18 N acc last (v, n2, w) (q, e) = some false := by
  unfold law21_WatchTrue_j18
  dsimp only
  unfold ask
  rw [if_pos hq]
  by_cases c1 : v = 1
  · rw [if_pos c1, if_pos (h1 c1), if_neg (fun h => by have := h3 h; omega), if_neg (fun h => by have := h4 h; omega)]
  · rw [if_neg c1, if_pos (h2 c1)]
    by_cases c3 : last = 3
    · rw [if_pos c3, if_pos (h3 c3), if_neg (by omega)]
    · rw [if_neg c3]
      by_cases c2 : last = 2
      · rw [if_pos c2, h4 c2]; rfl
      · rw [if_neg c2]
theorem j19_ok {v n2 off f q e n j : Int} {w : List Int} (hq : idx q acc.length) (hi : in64 (off - 1)) (h1 : ((j == 6) = (v == 2))) (h2 : j = 0 → (n == 0) = acc.getD q.toNat false) (h3 : f = 0 → j = 0 → ¬ n < off - 1) : law21_WatchTrue_j19 N acc off f (v, n2, w) (q, e) (n, j) = some false := by
  unfold law21_WatchTrue_j19
  dsimp only
  rw [if_pos h1]
  unfold ask
  by_cases c : j = 0
  · rw [if_pos c, if_pos hq, if_pos (h2 c)]
    by_cases cf : f = 0
    · rw [if_pos cf, if_pos c, if_pos hi, decide_eq_false (h3 cf c)]
    · rw [if_neg cf]
  · rw [if_neg c]
    by_cases cf : f = 0
    · rw [if_pos cf, if_neg c]
    · rw [if_neg cf]

theorem True_l15_ok (hN : 5000 ≤ N) (hw : ∀ x ∈ nd, x.wf) (V : Valid p acc gd nd) (hC : guard_Check N p acc gd nd = some 0) (hp4 : p ≤ 4) (B : Board p acc gd nd b) {ll : List Int} : ∀ (m : Nat) (w : List Int) (last off f : Int) (t : List Nat) (i : Int), 0 ≤ i → i ≤ 60 → 60 - i < m → (∀ l ∈ t, l < two p) → (t.length : Int) = i → (w.length : Int) = i → cameQ w = ((runT nd gd 0 t : Nat) : Int) → last = b.2.2.getD (runT nd gd 0 t) 0 → (f = 0 → off = b.2.1.getD (runT nd gd 0 t) 0 ∧ 0 ≤ off) → -1 ≤ off ∧ off ≤ 256 →
    Ok (law21_WatchTrue_l15 N p acc gd nd ll (b, 0) m w last off f (t.map fun l : Nat => (l : Int)) i) fun r => ∃ w2 few, r = .inl (w2, few) ∧ w2.length = few.length ∧ w2.length ≤ 100
  | 0, w, last, off, f, t, i, _, _, h, _, _, _, _, _, _, _ => by omega
  | m + 1, w, last, off, f, t, i, k0, k1, k2, k3, k4, k5, k6, k7, k8, k9 => by
    have a1 := V.a1
    have a2 := V.a2
    have gl := V.gl
    have p0 := V.p0
    unfold law21_WatchTrue_l15
    have hj : law21_WatchTrue_j16 N ll i = some (decide (i < (ll.length : Int) ∧ i < 60)) := by
      unfold law21_WatchTrue_j16
      by_cases c : i < (ll.length : Int)
      · rw [if_pos c]; simp [c]
      · rw [if_neg c]; simp [c]
    rw [hj]
    simp only [Option.bind_some]
    refine Ok.ite (fun hi => ?_) fun hi => Ok.pure ⟨_, _, rfl, by rw [List.length_map]; omega, by omega⟩
    have hi' := of_decide_eq_true hi
    obtain ⟨l, hl, hm⟩ := mask_ok ⟨p0, hp4⟩ (ll.getD i.toNat 0)
    rw [hm]
    have hq := runT_lt V t 0 (by omega)
    have hq2 := (stp_eq V hq l).2
    have e2 : (t.map fun l : Nat => (l : Int)) ++ [(l : Int)] = (t ++ [l]).map fun l : Nat => (l : Int) := by simp
    have k3' : ∀ x ∈ t ++ [l], x < two p := fun x hx => by
      rcases List.mem_append.1 hx with h | h
      · exact k3 x h
      · rw [List.mem_singleton] at h; omega
    have hrun := Run_ok hN hw V hC (t := t ++ [l]) k3' (by simp; omega)
    have hrt : runT nd gd 0 (t ++ [l]) = stp nd gd (runT nd gd 0 t) l := runT_snoc nd gd 0 t l
    rw [hrt] at hrun
    refine Ok.ask (by unfold idx; omega) (Ok.ask p0 (Ok.ask (by simp; omega) ?_))
    rw [Feed_ok hN V B (by omega) k6 hq hl]
    simp only [Option.bind_some]
    rw [e2, hrun]
    simp only [Option.bind_some]
    generalize hq' : stp nd gd (runT nd gd 0 t) l = q' at *
    generalize hqq : runT nd gd 0 t = q at *
    rw [WOff_ok (acc := acc) B (by simp; omega) (by rw [cameQ_snoc]; omega) (by rw [cameQ_snoc]; omega), cameQ_snoc, Int.toNat_natCast]
    simp only [Option.bind_some]
    obtain ⟨lost, ⟨nt, hnt, G⟩, bl, bt⟩ := B.told
    have F := B.off
    have tq := bt q hq
    have tq' := bt q' hq2
    have fo := F.lo q hq
    have fo' := F.lo q' hq2
    have go_ := G.lo q hq
    have go' := G.lo q' hq2
    have fz := F.zero q hq
    have fz' := F.zero q' hq2
    have gz := G.zero q hq
    have gz' := G.zero q' hq2
    rw [hnt q hq] at gz
    rw [hnt q' hq2] at gz'
    have hup : b.2.1.getD q' 0 ≤ 256 ∨ 256 < b.2.1.getD q' 0 := by omega
    have fc := F.closed q hq
    have gc := G.closed q hq
    have fn := F.near q hq
    generalize ho : b.2.1.getD q' 0 = o' at *
    -- the state
    have hj17 : law21_WatchTrue_j17 N acc (b, 0) (b.2.2.getD q' 0, 0, w ++ [(q' : Int)]) ((q' : Int), 0) = some false := by
      unfold law21_WatchTrue_j17
      dsimp only
      rw [if_pos rfl, if_pos rfl, if_neg (by omega), if_neg (by omega), WState_ok (by simp; omega), cameQ_snoc]
      simp only [Option.bind_some, if_true]
      rw [WVerdict_ok (acc := acc) B (by simp; omega) (by rw [cameQ_snoc]; omega) (by rw [cameQ_snoc]; omega), cameQ_snoc, Int.toNat_natCast]
      simp
    rw [hj17]
    simp only [Option.bind_some, Bool.false_eq_true, if_false]
    rw [j18_ok (a1 := 0) (a2 := 0) (a3 := 0) (by unfold idx; omega) (fun h => ?_) (fun h => ?_) (fun h => ?_) fun h => ?_]
    rotate_left
    · rw [Int.toNat_natCast]
      rw [tq'] at h
      unfold told at h
      split at h
      · cases h
      · split at h
        · cases h
        · split at h
          · assumption
          · cases h
    · rw [Int.toNat_natCast, tq'] at *
      unfold told at h ⊢
      by_cases c1 : lost.getD q' 0 < 0
      · rw [if_pos c1] at h ⊢
        cases h3 : acc.getD q' false with
        | true => rfl
        | false =>
          rw [h3] at gz'
          have := gz'.2 rfl
          omega
      · rw [if_neg c1] at h ⊢
        by_cases c2 : b.2.1.getD q' 0 < 0
        · rw [if_pos c2]
          cases h3 : acc.getD q' false with
          | false => rfl
          | true => have := fz'.2 h3; omega
        · rw [if_neg c2] at h ⊢
          by_cases c3 : acc.getD q' false = true
          · rw [if_pos c3] at h; exact absurd rfl h
          · rw [if_neg c3]
            simpa using c3
    · rw [k7, tq] at h
      have c1 : lost.getD q 0 < 0 := by
        unfold told at h
        split at h
        · assumption
        · split at h
          · cases h
          · split at h <;> cases h
      have := gc (by omega) l hl
      rw [hq'] at this
      rw [tq']
      unfold told
      rw [if_pos (by omega)]
    · rw [k7, tq] at h
      have c1 : b.2.1.getD q 0 < 0 := by
        unfold told at h
        split at h
        · cases h
        · split at h
          · assumption
          · split at h <;> cases h
      have h5 := fc (by omega) l hl
      rw [hq', ho] at h5
      have h6 : acc.getD q' false = false := by
        cases h3 : acc.getD q' false with
        | false => rfl
        | true => have := fz'.2 h3; omega
      rw [h6] at gz'
      have := gz'.2 rfl
      rw [tq']
      unfold told
      rw [if_neg (by omega), if_pos (by omega)]
    simp only [Option.bind_some, Bool.false_eq_true, if_false]
    have h6 : ((if o' < 0 then ((0 : Int), (6 : Int)) else (o', 0)).2 == 6) = (b.2.2.getD q' 0 == 2) := by
      rw [tq']
      unfold told
      rw [ho]
      by_cases c : o' < 0
      · have h6 : acc.getD q' false = false := by
          cases h3 : acc.getD q' false with
          | false => rfl
          | true => have := fz'.2 h3; omega
        rw [h6] at gz'
        have := gz'.2 rfl
        rw [if_pos c, if_neg (by omega), if_pos c]
        rfl
      · rw [if_neg c, if_neg c]
        split
        · rfl
        · split <;> rfl
    have e7 : (if o' < 0 then ((0 : Int), (6 : Int)) else (o', 0)) = ((if o' < 0 then ((0 : Int), (6 : Int)) else (o', 0)).1, (if o' < 0 then ((0 : Int), (6 : Int)) else (o', 0)).2) := rfl
    rw [e7, j19_ok (by unfold idx; omega) (by unfold in64; omega) h6 (fun h => ?_) fun h h8 => ?_]
    rotate_left
    · rw [Int.toNat_natCast]
      by_cases c : o' < 0
      · rw [if_pos c] at h; cases h
      · rw [if_neg c]
        show (o' == 0) = acc.getD q' false
        cases h3 : acc.getD q' false with
        | true => simpa using fz'.2 h3
        | false =>
          have : ¬ o' = 0 := fun h4 => by rw [fz'.1 h4] at h3; cases h3
          simpa using this
    · by_cases c : o' < 0
      · rw [if_pos c] at h8; cases h8
      · rw [if_neg c]
        obtain ⟨h9, h10⟩ := k8 h
        have := fn (by omega) l hl (by rw [hq', ho]; omega)
        rw [hq', ho] at this
        show ¬ o' < off - 1
        omega
    simp only [Option.bind_some, Bool.false_eq_true, if_false]
    refine Ok.ask (by unfold in64; omega) ?_
    have hb : o' ≤ 256 := by
      rw [← ho]
      have := F.le q' hq2; omega
    refine True_l15_ok hN hw V hC hp4 B m _ _ _ _ (t ++ [l]) (i + 1) (by omega) (by omega) (by omega) k3' (by simp; omega) (by simp; omega) (by rw [cameQ_snoc, hrt]) (by rw [hrt]) (fun h => ?_) ?_
    · by_cases c : o' < 0
      · rw [if_pos c] at h; cases h
      · rw [if_neg c, hrt, ho]
        exact ⟨rfl, by show 0 ≤ o'; omega⟩
    · split
      · exact ⟨by decide, by decide⟩
      · exact ⟨by show -1 ≤ o'; omega, by show o' ≤ 256; omega⟩
end

theorem watchTrue_true {p : Int} {acc : List Bool} {gd : List Int} {nd : List Nd} {ll : List Int} (hw : ∀ x ∈ nd, x.wf) :
    law21_WatchTrue 1000000 p acc gd nd ll = some true := by
  have hN : 5000 ≤ 1000000 := by omega
  refine Ok.eq ?_
  unfold law21_WatchTrue
  rw [awake21]
  simp only [Option.bind_some]
  refine (New_ok hN hw).bind fun r hr => ?_
  have hS : Ok (law16_Small 1000000 p acc gd nd) fun r => r = true → p ≤ 4 := by
    unfold law16_Small
    repeat' (first | exact Ok.pure fun h => by cases h | exact Ok.pure fun _ => by omega | refine Ok.ite (fun _ => ?_) fun _ => ?_)
  obtain ⟨sm, es, hsm⟩ := hS
  rcases hr with ⟨e, rfl, he⟩ | ⟨b, rfl, V, hC0, B⟩
  · simp only [Sum.elim_inl]
    have : law21_WatchTrue_j0 1000000 p acc gd nd e = some true := by
      unfold law21_WatchTrue_j0
      rw [es]
      simp only [Option.bind_some]
      split
      · simpa using he
      · rfl
    rw [this]
    exact Ok.pure rfl
  · simp only [Sum.elim_inr]
    have : law21_WatchTrue_j14 1000000 p acc gd nd (b, 0) = some (!sm) := by
      unfold law21_WatchTrue_j14
      rw [es]
      simp only [Option.bind_some]
      cases sm <;> rfl
    rw [this]
    simp only [Option.bind_some]
    refine Ok.ite (fun _ => Ok.pure rfl) fun hsm2 => ?_
    have hp4 : p ≤ 4 := hsm (by cases sm <;> simp_all)
    have a1 := V.a1
    have a2 := V.a2
    have c0 : cameQ [] = 0 := rfl
    rw [WVerdict_ok (acc := acc) B (by simp) (by rw [c0]; omega) (by rw [c0]; omega), WOff_ok (acc := acc) B (by simp) (by rw [c0]; omega) (by rw [c0]; omega), c0]
    simp only [Option.bind_some, Int.toNat_zero]
    have F := B.off
    have lo0 := F.lo 0 (by omega)
    have le0 := F.le 0 (by omega)
    refine (True_l15_ok hN hw V hC0 hp4 B 1000000 [] _ _ _ [] 0 (by omega) (by omega) (by omega) (fun l hl => by cases hl) rfl rfl rfl rfl (fun h => ?_) ?_).bind fun r ⟨w2, few, e, e2, e3⟩ => ?_
    · by_cases c : b.2.1.getD 0 0 < 0
      · rw [if_pos c] at h; cases h
      · rw [if_neg c]
        exact ⟨rfl, by show 0 ≤ b.2.1.getD 0 0; omega⟩
    · split
      · exact ⟨by decide, by decide⟩
      · exact ⟨by show -1 ≤ b.2.1.getD 0 0; omega, by show b.2.1.getD 0 0 ≤ 256; omega⟩
    · subst e
      simp only [Sum.elim_inl]
      unfold law21_WatchTrue_j20 watch_Watch_Len watch_Watch_none
      simp only [if_true, Option.bind_some, Bool.false_eq_true, if_false, e2, beq_self_eq_true]
      exact Ok.pure rfl

theorem watchTrue_row (w0 : World) (p : Int) (A1 A2 A3 : Option Addr) (c1 c2 c3 : Nat) (acc : List Bool) (gd : List Int) (nd : List Nd) (A4 : Option Addr) (c4 : Nat) (ll : List Int)
    (k1 : acc.length ≤ c1) (k2 : gd.length ≤ c2) (k3 : nd.length ≤ c3) (k4 : ll.length ≤ c4)
    (C1 : C cBool w0 (Lo w0.heap.size) A1 acc) (C2 : C (cInt .i64) w0 (Lo w0.heap.size) A2 gd) (C3 : C cNode w0 (Lo w0.heap.size) A3 nd) (C4 : C (cInt .u8) w0 (Lo w0.heap.size) A4 ll) (hw : ∀ x ∈ nd, x.wf) :
    Calls Try.prog 8 #[.agg #[.int .i64 p, .slice A1 acc.length c1, .slice A2 gd.length c2, .slice A3 nd.length c3], .slice A4 ll.length c4] w0 fun e w' => ∃ v, e = .returned v ∧ (v = .bool true ∧ Ext w0 w') :=
  (law21_WatchTrue_calls A1 c1 A2 c2 A3 c3 A4 c4 p acc gd nd ll k1 k2 k3 k4 ((((Hp.start w0).arg C1).arg C2).arg C3 |>.arg C4) (watchTrue_true hw)).mono fun e w' ⟨v, he, hv, H⟩ => ⟨v, he, hv, H.chgd.own⟩
end Go.V
