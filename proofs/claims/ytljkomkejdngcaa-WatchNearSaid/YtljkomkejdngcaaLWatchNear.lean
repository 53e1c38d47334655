/- The plain law WatchNear. No condition. -/
import Derived.Test.YtljkomkejdngcaaBWatchNear
import Derived.Test.YtljkomkejdngcaaWT
import Derived.Test.YtljkomkejdngcaaV9
set_option linter.all false
set_option linter.unusedVariables false
set_option maxRecDepth 1000000
namespace Go.V
open Go Go.Proofs
theorem awake21n : law21_awake 1000000 = some true := by kernel_rfl

theorem and_small (x : Int) (m : Nat) (hm : m ≤ 255) : ∃ l : Nat, l ≤ m ∧ andV .u8 x (m : Int) = (l : Int) := by
  refine ⟨(BitVec.ofInt 8 x &&& BitVec.ofInt 8 (m : Int)).toNat, ?_, ?_⟩
  · have e : (BitVec.ofInt 8 (m : Int)).toNat = m := by simp; omega
    rw [BitVec.toNat_and, e]
    exact Nat.and_le_right
  · have h : (BitVec.ofInt 8 x &&& BitVec.ofInt 8 (m : Int)).toNat < 256 := (BitVec.ofInt 8 x &&& BitVec.ofInt 8 (m : Int)).isLt
    show IntKind.u8.wrap ((BitVec.ofInt 8 x &&& BitVec.ofInt 8 (m : Int)).toNat : Int) = _
    exact wrap_u8 (by omega) (by omega)
theorem mask_ok {p : Int} (hp : 0 ≤ p ∧ p ≤ 4) (x : Int) : ∃ l : Nat, l < two p ∧ andV .u8 x (IntKind.u8.wrap (shlV .u8 1 p - 1)) = (l : Int) := by
  have key : ∀ m : Nat, m ≤ 255 → IntKind.u8.wrap (shlV .u8 1 p - 1) = (m : Int) → m + 1 = two p → ∃ l : Nat, l < two p ∧ andV .u8 x (IntKind.u8.wrap (shlV .u8 1 p - 1)) = (l : Int) := fun m h1 h2 h3 => by
    obtain ⟨l, h4, h5⟩ := and_small x m h1
    exact ⟨l, by omega, by rw [h2]; exact h5⟩
  obtain ⟨c, rfl⟩ := Int.eq_ofNat_of_zero_le hp.1
  have hc : c ≤ 4 := by omega
  match c, hc with
  | 0, _ => exact key 0 (by omega) (by decide) (by decide)
  | 1, _ => exact key 1 (by omega) (by decide) (by decide)
  | 2, _ => exact key 3 (by omega) (by decide) (by decide)
  | 3, _ => exact key 7 (by omega) (by decide) (by decide)
  | 4, _ => exact key 15 (by omega) (by decide) (by decide)
section
variable {N : Nat} {p : Int} {acc : List Bool} {gd : List Int} {nd : List Nd} {b : WB}
theorem Near_l21_ok (hN : 5000 ≤ N) (V : Valid p acc gd nd) (hp4 : p ≤ 4) (B : Board p acc gd nd b) {ll : List Int} : ∀ (m : Nat) (w : List Int) (q : Nat) (i : Nat), i ≤ 60 → 60 - i < m → w.length = i → cameQ w = (q : Int) → q < acc.length →
    Ok (law21_WatchNear_l21 N p ll (b, 0) m w (i : Int)) fun w2 => ∃ q2 : Nat, w2.length ≤ 60 ∧ cameQ w2 = (q2 : Int) ∧ q2 < acc.length := by
  intro m
  induction m with
  | zero => intro w q i _ h _ _ _; omega
  | succ m ih =>
    intro w q i k1 k2 k3 k4 k5
    unfold law21_WatchNear_l21
    have hj : law21_WatchNear_j22 N ll (i : Int) = some (decide ((i : Int) < (ll.length : Int) ∧ (i : Int) < 60)) := by
      unfold law21_WatchNear_j22
      by_cases c : (i : Int) < (ll.length : Int)
      · rw [if_pos c]; simp [c]
      · rw [if_neg c]; simp [c]
    rw [hj, Option.bind_some]
    refine Ok.ite (fun hi => ?_) fun hi => Ok.pure ⟨q, by omega, k4, k5⟩
    have hi' := of_decide_eq_true hi
    obtain ⟨l, hl, hm⟩ := mask_ok ⟨V.p0, hp4⟩ (ll.getD (i : Int).toNat 0)
    rw [hm]
    refine Ok.ask (by unfold idx; omega) (Ok.ask V.p0 ?_)
    rw [Feed_ok hN V B (by omega) k4 k5 hl, Option.bind_some]
    refine Ok.ask (by unfold in64; omega) ?_
    rw [show ((i : Int) + 1) = ((i + 1 : Nat) : Int) by omega]
    exact ih _ (stp nd gd q l) (i + 1) (by omega) (by omega) (by simp; omega) (by rw [cameQ_snoc]) (stp_eq V k5 l).2
theorem Back_ok' {w : List Int} {q q0 : Nat} (B : Board p acc gd nd b) (h : w.length ≤ 1000) (hq : cameQ w = (q0 : Int)) (h1 : q0 < acc.length) : watch_Watch_Back N b (w ++ [(q : Int)]) = some (b.2.2.getD q0 0, 0, w) := by
  have e : Int.toNat ((((w ++ [(q : Int)]).length : Nat) : Int) - 1) = w.length := by simp
  have ht : (w ++ [(q : Int)]).take w.length = w := by simp
  unfold watch_Watch_Back watch_Watch_none
  simp only [Option.bind_some, Bool.false_eq_true, if_false]
  rw [e, ht, if_neg (by simp; omega)]
  unfold ask
  rw [if_pos (by unfold in64; simp; omega), if_pos (by simp; omega), WVerdict_ok (acc := acc) B (by omega) (by omega) (by omega), Option.bind_some, hq, Int.toNat_natCast]
theorem Near_l23_ok (hN : 5000 ≤ N) (V : Valid p acc gd nd) (B : Board p acc gd nd b) {w : List Int} {q : Nat} (hw : w.length ≤ 60) (hq : cameQ w = (q : Int)) (hqn : q < acc.length) {off : Int × Int} (hof : off = if b.2.1.getD q 0 < 0 then (0, 6) else (b.2.1.getD q 0, 0)) : ∀ (m : Nat) (nr : Bool) (l : Nat), l ≤ two p → two p - l < m → (∀ x, x < l → 0 ≤ b.2.1.getD (stp nd gd q x) 0 → b.2.1.getD (stp nd gd q x) 0 = off.1 - 1 → nr = true) →
    Ok (law21_WatchNear_l23 N p (b, 0) (q : Int) (b.2.2.getD q 0) ((w.length : Nat) : Int) off m w nr (l : Int)) fun r => ∃ nr2, r = .inl nr2 ∧ ∀ x, x < two p → 0 ≤ b.2.1.getD (stp nd gd q x) 0 → b.2.1.getD (stp nd gd q x) 0 = off.1 - 1 → nr2 = true := by
  have sh := shl_two ⟨V.p0, V.p8⟩
  have a2 := V.a2
  have F := B.off
  have fl := F.lo q hqn
  have fe := F.le q hqn
  have hob : -1 ≤ off.1 ∧ off.1 ≤ 256 := by
    rw [hof]
    split
    · exact ⟨by decide, by decide⟩
    · exact ⟨by show -1 ≤ b.2.1.getD q 0; omega, by show b.2.1.getD q 0 ≤ 256; omega⟩
  intro m
  induction m with
  | zero => intro nr l _ h _; omega
  | succ m ih =>
    intro nr l k1 k2 k3
    unfold law21_WatchNear_l23
    rw [sh.1]
    refine Ok.ask V.p0 ?_
    refine Ok.ite (fun hx => ?_) fun hx => Ok.pure ⟨nr, rfl, fun x hx2 => k3 x (by omega)⟩
    have hl : l < two p := by omega
    have hs := (stp_eq V hqn l).2
    have hsl := F.lo _ hs
    have hse := F.le _ hs
    rw [show IntKind.u8.wrap (l : Int) = (l : Int) from wrap_u8 (by omega) (by omega), Feed_ok hN V B (by omega) hq hqn hl, Option.bind_some]
    dsimp only
    rw [WOff_ok (acc := acc) B (by simp; omega) (by rw [cameQ_snoc]; omega) (by rw [cameQ_snoc]; omega), cameQ_snoc, Int.toNat_natCast, Option.bind_some, Back_ok' B (by omega) hq hqn]
    have hj : Ok (law21_WatchNear_j24 N off nr (if b.2.1.getD (stp nd gd q l) 0 < 0 then ((0 : Int), (6 : Int)) else (b.2.1.getD (stp nd gd q l) 0, 0))) fun r => (nr = true → r = true) ∧ (0 ≤ b.2.1.getD (stp nd gd q l) 0 → b.2.1.getD (stp nd gd q l) 0 = off.1 - 1 → r = true) := by
      unfold law21_WatchNear_j24
      refine Ok.ite (fun h => Ok.pure ⟨fun _ => rfl, fun _ _ => rfl⟩) fun h => ?_
      by_cases c : b.2.1.getD (stp nd gd q l) 0 < 0
      · rw [if_pos c, if_neg (by decide)]
        exact Ok.pure ⟨fun h2 => absurd h2 h, fun h2 => by omega⟩
      · rw [if_neg c, if_pos rfl]
        refine Ok.ask (by unfold in64; omega) (Ok.pure ⟨fun h2 => absurd h2 h, fun _ h3 => ?_⟩)
        show (b.2.1.getD (stp nd gd q l) 0 == off.1 - 1) = true
        rw [h3]
        exact beq_self_eq_true _
    refine hj.bind fun r ⟨r1, r2⟩ => ?_
    rw [Option.bind_some]
    have hj25 : law21_WatchNear_j25 N (b, 0) (q : Int) (b.2.2.getD q 0) ((w.length : Nat) : Int) (b.2.2.getD (stp nd gd q l) 0, 0, w ++ [(stp nd gd q l : Int)]) (b.2.2.getD q 0, 0, w) = some false := by
      unfold law21_WatchNear_j25
      dsimp only
      rw [if_pos rfl, if_pos rfl, if_pos rfl, WState_ok (by omega), Option.bind_some, if_pos hq]
      unfold watch_Watch_Len watch_Watch_none
      simp
    rw [hj25, Option.bind_some, if_neg Bool.false_ne_true]
    refine Ok.ask (by unfold in64; omega) ?_
    rw [show ((l : Int) + 1) = ((l + 1 : Nat) : Int) by omega]
    refine ih r (l + 1) (by omega) (by omega) fun x hx2 h1 h2 => ?_
    by_cases c : x = l
    · subst c; exact r2 h1 h2
    · exact r1 (k3 x (by omega) h1 h2)
end

theorem watchNear_true {p : Int} {acc : List Bool} {gd : List Int} {nd : List Nd} {ll : List Int} (hw : ∀ x ∈ nd, x.wf) :
    law21_WatchNear 1000000 p acc gd nd ll = some true := by
  have hN : 5000 ≤ 1000000 := by omega
  refine Ok.eq ?_
  unfold law21_WatchNear
  rw [awake21n, Option.bind_some]
  refine (New_ok hN hw).bind fun r hr => ?_
  have hS : Ok (law16_Small 1000000 p acc gd nd) fun r => r = true → p ≤ 4 := by
    unfold law16_Small
    repeat' (first | exact Ok.pure fun h => by cases h | exact Ok.pure fun _ => by omega | refine Ok.ite (fun _ => ?_) fun _ => ?_)
  obtain ⟨sm, es, hsm⟩ := hS
  rcases hr with ⟨e, rfl, he⟩ | ⟨b, rfl, V, hC0, B⟩
  · simp only [Sum.elim_inl]
    have : law21_WatchNear_j0 1000000 p acc gd nd e = some true := by
      unfold law21_WatchNear_j0
      rw [es]
      simp only [Option.bind_some]
      split
      · simpa using he
      · rfl
    rw [this]
    exact Ok.pure rfl
  · simp only [Sum.elim_inr]
    have : law21_WatchNear_j20 1000000 p acc gd nd (b, 0) = some (!sm) := by
      unfold law21_WatchNear_j20
      rw [es]
      simp only [Option.bind_some]
      cases sm <;> rfl
    rw [this, Option.bind_some]
    refine Ok.ite (fun _ => Ok.pure rfl) fun hsm2 => ?_
    have hp4 : p ≤ 4 := hsm (by cases sm <;> simp_all)
    have a1 := V.a1
    refine (Near_l21_ok hN V hp4 B 1000000 [] 0 0 (by omega) (by omega) rfl rfl (by omega)).bind fun w ⟨q, w1, w2, w3⟩ => ?_
    have hlen : watch_Watch_Len 1000000 b w = some ((w.length : Nat) : Int) := by
      unfold watch_Watch_Len watch_Watch_none
      simp
    rw [WState_ok (by omega), Option.bind_some, WVerdict_ok (acc := acc) B (by omega) (by omega) (by omega), Option.bind_some, hlen, Option.bind_some, WOff_ok (acc := acc) B (by omega) (by omega) (by omega), Option.bind_some, w2, Int.toNat_natCast]
    refine (Near_l23_ok hN V B w1 w2 w3 rfl 1000000 false 0 (by omega) (by have := (shl_two ⟨V.p0, V.p8⟩).2.2; omega) fun x hx => by omega).bind fun r ⟨nr, e, hnr⟩ => ?_
    subst e
    simp only [Sum.elim_inl]
    have hj : law21_WatchNear_j26 1000000 (if b.2.1.getD q 0 < 0 then ((0 : Int), (6 : Int)) else (b.2.1.getD q 0, 0)) nr = some false := by
      unfold law21_WatchNear_j26
      by_cases c : b.2.1.getD q 0 < 0
      · rw [if_pos c, if_neg (by decide)]
      · rw [if_neg c] at hnr ⊢
        rw [if_pos rfl]
        by_cases c2 : 0 < b.2.1.getD q 0
        · obtain ⟨l, hl, e⟩ := B.off.way q w3 c2
          rw [if_pos c2, hnr l hl (by omega) e]
          rfl
        · rw [if_neg c2]
    rw [hj, Option.bind_some, if_neg Bool.false_ne_true]
    exact Ok.pure rfl

theorem watchNear_row (w0 : World) (p : Int) (A1 A2 A3 : Option Addr) (c1 c2 c3 : Nat) (acc : List Bool) (gd : List Int) (nd : List Nd) (A4 : Option Addr) (c4 : Nat) (ll : List Int)
    (k1 : acc.length ≤ c1) (k2 : gd.length ≤ c2) (k3 : nd.length ≤ c3) (k4 : ll.length ≤ c4)
    (C1 : C cBool w0 (Lo w0.heap.size) A1 acc) (C2 : C (cInt .i64) w0 (Lo w0.heap.size) A2 gd) (C3 : C cNode w0 (Lo w0.heap.size) A3 nd) (C4 : C (cInt .u8) w0 (Lo w0.heap.size) A4 ll) (hw : ∀ x ∈ nd, x.wf) :
    Calls Try.prog 6 #[.agg #[.int .i64 p, .slice A1 acc.length c1, .slice A2 gd.length c2, .slice A3 nd.length c3], .slice A4 ll.length c4] w0 fun e w' => ∃ v, e = .returned v ∧ (v = .bool true ∧ Ext w0 w') :=
  (law21_WatchNear_calls A1 c1 A2 c2 A3 c3 A4 c4 p acc gd nd ll k1 k2 k3 k4 ((((Hp.start w0).arg C1).arg C2).arg C3 |>.arg C4) (watchNear_true hw)).mono fun e w' ⟨v, he, hv, H⟩ => ⟨v, he, hv, H.chgd.own⟩
end Go.V
