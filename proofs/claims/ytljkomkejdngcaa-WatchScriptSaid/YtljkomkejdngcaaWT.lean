/- Plain theory: watches. No program. -/
import Derived.Test.YtljkomkejdngcaaPC
set_option linter.all false
set_option linter.unusedVariables false
set_option maxRecDepth 100000
namespace Go.V
open Go

/-- how far states are from good ones -/
structure Far (nd : List Nd) (gd : List Int) (n L : Nat) (good : List Bool) (off : List Int) : Prop where
  len : off.length = n
  lo : ∀ q, q < n → -1 ≤ off.getD q 0
  le : ∀ q, q < n → off.getD q 0 ≤ n
  zero : ∀ q, q < n → (off.getD q 0 = 0 ↔ good.getD q false = true)
  closed : ∀ q, q < n → off.getD q 0 = -1 → ∀ l, l < L → off.getD (stp nd gd q l) 0 = -1
  near : ∀ q, q < n → 0 ≤ off.getD q 0 → ∀ l, l < L → 0 ≤ off.getD (stp nd gd q l) 0 → off.getD q 0 ≤ off.getD (stp nd gd q l) 0 + 1
  way : ∀ q, q < n → 0 < off.getD q 0 → ∃ l, l < L ∧ off.getD (stp nd gd q l) 0 = off.getD q 0 - 1
section
variable {N : Nat} {p : Int} {acc : List Bool} {gd : List Int} {nd : List Nd} {good : List Bool} {wh : List (List Int)}
theorem back_l0_ok {n : Nat} (hg : good.length = n) (hn : n ≤ 256) : ∀ (m : Nat) (off : List Int) (x : Int), 0 ≤ x → x ≤ n → (n : Int) - x < m → off.length = n → (∀ j : Nat, (j : Int) < x → off.getD j 0 = if good.getD j false = true then 0 else -1) →
    Ok (watch_backward_l0 N good m off x) fun r => r.length = n ∧ ∀ j, j < n → r.getD j 0 = if good.getD j false = true then 0 else -1
  | 0, off, x, _, _, h, _, _ => by omega
  | m + 1, off, x, k0, k1, k2, k3, k4 => by
    unfold watch_backward_l0
    rw [hg]
    refine Ok.ite (fun hx => ?_) fun hx => Ok.pure ⟨k3, fun j hj => k4 j (by omega)⟩
    refine Ok.ask (by unfold idx; omega) (Ok.ask (by unfold idx; omega) ?_)
    refine Ok.ite (fun h => ?_) fun h => ?_
    · refine Ok.ask (by unfold idx; simp; omega) (Ok.ask (by unfold in64; omega) ?_)
      refine back_l0_ok hg hn m _ (x + 1) (by omega) (by omega) (by omega) (by simpa using k3) fun j hj => ?_
      rw [getD_set (by simp; omega)]
      by_cases e : x.toNat = j
      · rw [if_pos e, ← e, if_pos h]
      · rw [if_neg e, getD_set (by omega), if_neg e]; exact k4 j (by omega)
    · refine Ok.ask (by unfold in64; omega) ?_
      refine back_l0_ok hg hn m _ (x + 1) (by omega) (by omega) (by omega) (by simpa using k3) fun j hj => ?_
      rw [getD_set (by omega)]
      by_cases e : x.toNat = j
      · rw [if_pos e, ← e, if_neg h]
      · rw [if_neg e]; exact k4 j (by omega)

/-- a state that is met now -/
def hits (nd : List Nd) (gd : List Int) (L : Nat) (was : List Int) (k : Int) (q : Nat) : Prop := was.getD q 0 < 0 ∧ ∃ l, l < L ∧ was.getD (stp nd gd q l) 0 = k
theorem back_l3_ok (V : Valid p acc gd nd) (T : Tab nd gd acc.length (two p) wh) {k : Int} (hk : 0 ≤ k ∧ k ≤ 1000) {off : List Int} (ho : off.length = acc.length) {more : Bool} {q : Nat} (hq : q < acc.length) : ∀ (m : Nat) (x : Int), 0 ≤ x → x ≤ two p → (two p : Int) - x < m → (∀ l : Nat, (l : Int) < x → off.getD (stp nd gd q l) 0 ≠ k) →
    Ok (watch_backward_l3 N wh k off more (q : Int) m x) fun r => (r = (off, more) ∧ ∀ l, l < two p → off.getD (stp nd gd q l) 0 ≠ k) ∨ (r = (off.set q (k + 1), true) ∧ ∃ l, l < two p ∧ off.getD (stp nd gd q l) 0 = k)
  | 0, x, _, _, h, _ => by omega
  | m + 1, x, k0, k1, k2, k3 => by
    have sh := shl_two ⟨V.p0, V.p8⟩
    have rw_ := T.row q hq
    unfold watch_backward_l3
    rw [Int.toNat_natCast, rw_]
    refine Ok.ite (fun hx => ?_) fun hx => Ok.pure (.inl ⟨rfl, fun l hl => k3 l (by omega)⟩)
    obtain ⟨a, rfl⟩ := Int.eq_ofNat_of_zero_le k0
    rw [Int.toNat_natCast, T.at_ q a hq (by omega), Int.toNat_natCast]
    have hlt := (stp_eq V hq a).2
    refine Ok.ask (by unfold idx; omega) (Ok.ask (by unfold idx; omega) ?_)
    refine Ok.ite (fun h => Ok.ask (by unfold in64; omega) (Ok.pure (.inr ⟨rfl, a, by omega, h⟩))) fun h => Ok.ask (by unfold in64; omega) ?_
    refine back_l3_ok V T hk ho hq m _ (by omega) (by omega) (by omega) fun l hl => ?_
    by_cases c : l = a
    · subst c; exact h
    · exact k3 l (by omega)
theorem back_l2_ok (hN : 5000 ≤ N) (V : Valid p acc gd nd) (T : Tab nd gd acc.length (two p) wh) {k : Int} (hk : 0 ≤ k ∧ k ≤ 1000) {was : List Int} (hw : was.length = acc.length) (hlo : ∀ q, q < acc.length → -1 ≤ was.getD q 0) : ∀ (m : Nat) (off : List Int) (more : Bool) (x : Int), 0 ≤ x → x ≤ acc.length → (acc.length : Int) - x < m → off.length = acc.length →
    (∀ j : Nat, j < acc.length → ((j : Int) < x ∧ hits nd gd (two p) was k j → off.getD j 0 = k + 1) ∧ (¬ ((j : Int) < x ∧ hits nd gd (two p) was k j) → off.getD j 0 = was.getD j 0)) → (more = true ↔ ∃ j : Nat, (j : Int) < x ∧ j < acc.length ∧ hits nd gd (two p) was k j) →
    Ok (watch_backward_l2 N wh was k m off more x) fun r => r.1.length = acc.length ∧ (∀ j : Nat, j < acc.length → (hits nd gd (two p) was k j → r.1.getD j 0 = k + 1) ∧ (¬ hits nd gd (two p) was k j → r.1.getD j 0 = was.getD j 0)) ∧ (r.2 = true ↔ ∃ j : Nat, j < acc.length ∧ hits nd gd (two p) was k j)
  | 0, off, more, x, _, _, h, _, _, _ => by omega
  | m + 1, off, more, x, k0, k1, k2, k3, k4, k5 => by
    have a2 := V.a2
    have sh := shl_two ⟨V.p0, V.p8⟩
    unfold watch_backward_l2
    rw [hw]
    refine Ok.ite (fun hx => ?_) fun hx => Ok.pure ⟨k3, fun j hj => ⟨fun h => (k4 j hj).1 ⟨by omega, h⟩, fun h => (k4 j hj).2 fun c => h c.2⟩, k5.trans ⟨fun ⟨j, _, h⟩ => ⟨j, h⟩, fun ⟨j, h1, h2⟩ => ⟨j, by omega, h1, h2⟩⟩⟩
    obtain ⟨a, rfl⟩ := Int.eq_ofNat_of_zero_le k0
    rw [Int.toNat_natCast]
    have ha : a < acc.length := by omega
    have cur := (k4 a ha).2 fun c => by omega
    have val : ∀ j, j < acc.length → (off.getD j 0 = k ↔ was.getD j 0 = k) := fun j hj => by
      by_cases c : (j : Int) < (a : Int) ∧ hits nd gd (two p) was k j
      · have h1 := (k4 j hj).1 c
        have h2 := c.2.1
        omega
      · rw [(k4 j hj).2 c]
    have keep : ¬ hits nd gd (two p) was k a → (∀ j : Nat, j < acc.length → ((j : Int) < (a : Int) + 1 ∧ hits nd gd (two p) was k j → off.getD j 0 = k + 1) ∧ (¬ ((j : Int) < (a : Int) + 1 ∧ hits nd gd (two p) was k j) → off.getD j 0 = was.getD j 0)) ∧ (more = true ↔ ∃ j : Nat, (j : Int) < (a : Int) + 1 ∧ j < acc.length ∧ hits nd gd (two p) was k j) := fun hno => by
      have e : ∀ j : Nat, (j : Int) < (a : Int) + 1 → hits nd gd (two p) was k j → (j : Int) < (a : Int) := fun j h1 h2 => by
        by_cases c : j = a
        · subst c; exact absurd h2 hno
        · omega
      exact ⟨fun j hj => ⟨fun ⟨c1, c2⟩ => (k4 j hj).1 ⟨e j c1 c2, c2⟩, fun c => (k4 j hj).2 fun ⟨c1, c2⟩ => c ⟨by omega, c2⟩⟩, k5.trans ⟨fun ⟨j, h1, h2⟩ => ⟨j, by omega, h2⟩, fun ⟨j, h1, h2, h3⟩ => ⟨j, e j h1 h3, h2, h3⟩⟩⟩
    refine Ok.ask (by unfold idx; omega) ?_
    refine Ok.ite (fun h => ?_) fun h => ?_
    · obtain ⟨e1, e2⟩ := keep fun c => by have := c.1; omega
      refine Ok.ask (by unfold in64; omega) ?_
      exact back_l2_ok hN V T hk hw hlo m off more _ (by omega) (by omega) (by omega) k3 e1 e2
    · refine Ok.ask (by unfold idx; have := T.len; omega) ?_
      refine (back_l3_ok (N := N) (more := more) V T hk k3 ha N 0 (by omega) (by omega) (by omega) fun l h => by omega).bind fun r hr => Ok.ask (by unfold in64; omega) ?_
      rcases hr with ⟨rfl, hr⟩ | ⟨rfl, l, hl, hr⟩
      · obtain ⟨e1, e2⟩ := keep fun ⟨_, l, hl, h2⟩ => hr l hl ((val _ (stp_eq V ha l).2).2 h2)
        exact back_l2_ok hN V T hk hw hlo m off more _ (by omega) (by omega) (by omega) k3 e1 e2
      · have hh : hits nd gd (two p) was k a := ⟨by omega, l, hl, (val _ (stp_eq V ha l).2).1 hr⟩
        refine back_l2_ok hN V T hk hw hlo m _ true _ (by omega) (by omega) (by omega) (by simpa using k3) (fun j hj => ?_) ⟨fun _ => ⟨a, by omega, ha, hh⟩, fun _ => rfl⟩
        rw [getD_set (by omega)]
        by_cases c : a = j
        · subst c
          rw [if_pos rfl]
          exact ⟨fun _ => rfl, fun c => absurd ⟨by omega, hh⟩ c⟩
        · rw [if_neg c]
          exact ⟨fun ⟨c1, c2⟩ => (k4 j hj).1 ⟨by omega, c2⟩, fun c => (k4 j hj).2 fun ⟨c1, c2⟩ => c ⟨by omega, c2⟩⟩

structure FInv (nd : List Nd) (gd : List Int) (n L : Nat) (good : List Bool) (off : List Int) (k : Int) (more : Bool) : Prop where
  len : off.length = n
  k0 : 0 ≤ k
  lo : ∀ q, q < n → -1 ≤ off.getD q 0 ∧ off.getD q 0 ≤ k
  zero : ∀ q, q < n → (off.getD q 0 = 0 ↔ good.getD q false = true)
  ahead : ∀ q, q < n → off.getD q 0 = -1 → ∀ l, l < L → off.getD (stp nd gd q l) 0 = -1 ∨ (more = true ∧ off.getD (stp nd gd q l) 0 = k)
  near : ∀ q, q < n → 0 ≤ off.getD q 0 → ∀ l, l < L → 0 ≤ off.getD (stp nd gd q l) 0 → off.getD q 0 ≤ off.getD (stp nd gd q l) 0 + 1
  way : ∀ q, q < n → 0 < off.getD q 0 → ∃ l, l < L ∧ off.getD (stp nd gd q l) 0 = off.getD q 0 - 1
  cn : k ≤ cnt off
theorem back_l1_ok (hN : 5000 ≤ N) (V : Valid p acc gd nd) (T : Tab nd gd acc.length (two p) wh) : ∀ (m : Nat) (off : List Int) (k : Int) (more : Bool), FInv nd gd acc.length (two p) good off k more → 1 ≤ m → (more = true → acc.length + 2 ≤ cnt off + m) →
    Ok (watch_backward_l1 N wh m off k more) fun r => Far nd gd acc.length (two p) good r
  | 0, off, k, more, _, h, _ => by omega
  | m + 1, off, k, more, I, _, hm => by
    have a2 := V.a2
    have hc := cnt_le off
    rw [I.len] at hc
    have k0 := I.k0
    have cn := I.cn
    unfold watch_backward_l1
    refine Ok.ite (fun hmore => ?_) fun hmore => Ok.pure ⟨I.len, fun q hq => (I.lo q hq).1, fun q hq => by have := (I.lo q hq).2; omega, I.zero, fun q hq h l hl => (I.ahead q hq h l hl).elim id fun h2 => absurd h2.1 hmore, I.near, I.way⟩
    have hm' := hm hmore
    refine (back_l2_ok hN V T (k := k) ⟨by omega, by omega⟩ I.len (fun q hq => (I.lo q hq).1) N off false 0 (by omega) (by omega) (by omega) I.len (fun j hj => ⟨fun h => by omega, fun _ => rfl⟩) ⟨fun h => (by cases h), fun ⟨j, h, _⟩ => by omega⟩).bind fun x ⟨x1, x2, x3⟩ => ?_
    refine Ok.ask (by unfold in64; omega) ?_
    have new : ∀ j, j < acc.length → hits nd gd (two p) off k j → x.1.getD j 0 = k + 1 := fun j hj h => (x2 j hj).1 h
    have old : ∀ j, j < acc.length → ¬ hits nd gd (two p) off k j → x.1.getD j 0 = off.getD j 0 := fun j hj h => (x2 j hj).2 h
    have keep : ∀ j, j < acc.length → 0 ≤ off.getD j 0 → x.1.getD j 0 = off.getD j 0 := fun j hj h => old j hj fun c => by have := c.1; omega
    have hcl : ∀ j, j < acc.length → hits nd gd (two p) off k j → cnt off + 1 ≤ cnt x.1 := fun j hj h =>
      cnt_lt off x.1 (by rw [I.len, x1]) (fun i hi h2 => by rw [keep i (by have := I.len; omega) h2]; exact h2) j (by have := I.len; omega) h.1 (by rw [new j hj h]; omega)
    have hcm : cnt off ≤ cnt x.1 := cnt_mono off x.1 (by rw [I.len, x1]) fun i hi h2 => by rw [keep i (by have := I.len; omega) h2]; exact h2
    have hcx := cnt_le x.1
    rw [x1] at hcx
    -- an unmet state's successors
    have un : ∀ q, q < acc.length → x.1.getD q 0 = -1 → off.getD q 0 = -1 ∧ ¬ hits nd gd (two p) off k q := fun q hq h => by
      by_cases c : hits nd gd (two p) off k q
      · rw [new q hq c] at h; omega
      · rw [old q hq c] at h; exact ⟨h, c⟩
    by_cases hmo : x.2 = true
    · obtain ⟨j0, hj0, hh0⟩ := x3.1 hmo
      have hgrow := hcl j0 hj0 hh0
      refine back_l1_ok hN V T m x.1 (k + 1) x.2 ⟨x1, by omega, fun q hq => ?_, fun q hq => ?_, fun q hq h l hl => ?_, fun q hq h l hl h2 => ?_, fun q hq h => ?_, by omega⟩ (by omega) fun h => by omega
      · by_cases c : hits nd gd (two p) off k q
        · rw [new q hq c]; omega
        · rw [old q hq c]; have := I.lo q hq; omega
      · by_cases c : hits nd gd (two p) off k q
        · rw [new q hq c, ← I.zero q hq]; have := c.1; omega
        · rw [old q hq c]; exact I.zero q hq
      · obtain ⟨u1, u2⟩ := un q hq h
        have hlt := (stp_eq V hq l).2
        have ho : off.getD (stp nd gd q l) 0 = -1 := (I.ahead q hq u1 l hl).elim id fun h3 => absurd ⟨by omega, l, hl, h3.2⟩ u2
        by_cases c : hits nd gd (two p) off k (stp nd gd q l)
        · exact .inr ⟨hmo, new _ hlt c⟩
        · exact .inl (by rw [old _ hlt c]; exact ho)
      · have hlt := (stp_eq V hq l).2
        by_cases c2 : hits nd gd (two p) off k (stp nd gd q l)
        · rw [new _ hlt c2]
          by_cases c : hits nd gd (two p) off k q
          · rw [new q hq c]; omega
          · rw [old q hq c]; have := I.lo q hq; omega
        · rw [old _ hlt c2] at h2 ⊢
          by_cases c : hits nd gd (two p) off k q
          · rw [new q hq c]
            have hq1 : off.getD q 0 = -1 := by have := (I.lo q hq).1; have := c.1; omega
            rcases I.ahead q hq hq1 l hl with h3 | h3 <;> omega
          · rw [old q hq c] at h ⊢
            exact I.near q hq h l hl h2
      · by_cases c : hits nd gd (two p) off k q
        · obtain ⟨_, l, hl, h3⟩ := c
          refine ⟨l, hl, ?_⟩
          rw [new q hq ⟨by assumption, l, hl, h3⟩, keep _ (stp_eq V hq l).2 (by omega)]
          omega
        · rw [old q hq c] at h ⊢
          obtain ⟨l, hl, h3⟩ := I.way q hq h
          exact ⟨l, hl, by rw [keep _ (stp_eq V hq l).2 (by omega)]; exact h3⟩
    · have none_ : ∀ q, q < acc.length → ¬ hits nd gd (two p) off k q := fun q hq c => hmo (x3.2 ⟨q, hq, c⟩)
      have same : ∀ q, q < acc.length → x.1.getD q 0 = off.getD q 0 := fun q hq => old q hq (none_ q hq)
      have hmo' : x.2 = false := by simpa using hmo
      rw [hmo']
      match m, hm' with
      | 0, h => omega
      | m + 1, _ =>
        unfold watch_backward_l1
        rw [if_neg (by simp)]
        refine Ok.pure ⟨x1, fun q hq => by rw [same q hq]; exact (I.lo q hq).1, fun q hq => by rw [same q hq]; have := (I.lo q hq).2; omega, fun q hq => by rw [same q hq]; exact I.zero q hq, fun q hq h l hl => ?_, fun q hq h l hl h2 => ?_, fun q hq h => ?_⟩
        · obtain ⟨u1, u2⟩ := un q hq h
          rw [same _ (stp_eq V hq l).2]
          exact (I.ahead q hq u1 l hl).elim id fun h3 => absurd ⟨by omega, l, hl, h3.2⟩ u2
        · rw [same q hq] at h ⊢
          rw [same _ (stp_eq V hq l).2] at h2 ⊢
          exact I.near q hq h l hl h2
        · rw [same q hq] at h ⊢
          obtain ⟨l, hl, h3⟩ := I.way q hq h
          exact ⟨l, hl, by rw [same _ (stp_eq V hq l).2]; exact h3⟩
theorem back_ok (hN : 5000 ≤ N) (V : Valid p acc gd nd) (T : Tab nd gd acc.length (two p) wh) (hg : good.length = acc.length) :
    Ok (watch_backward N wh good) fun r => Far nd gd acc.length (two p) good r := by
  have a2 := V.a2
  unfold watch_backward
  rw [hg]
  refine Ok.ask (by omega) ?_
  refine (back_l0_ok hg a2 N _ 0 (by omega) (by omega) (by omega) (by simp) fun j h => by omega).bind fun off ⟨h1, h2⟩ => ?_
  refine (back_l1_ok (good := good) hN V T N off 0 true ⟨h1, by omega, fun q hq => ?_, fun q hq => ?_, fun q hq h l hl => ?_, fun q hq h l hl h3 => ?_, fun q hq h => ?_, by omega⟩ (by omega) fun _ => by omega).bind fun r hr => Ok.pure hr
  · rw [h2 q hq]; split <;> omega
  · rw [h2 q hq]; split <;> simp_all
  · have hlt := (stp_eq V hq l).2
    rw [h2 _ hlt]; split
    · exact .inr ⟨rfl, rfl⟩
    · exact .inl rfl
  · rw [h2 q hq] at h ⊢
    split at h <;> split <;> omega
  · rw [h2 q hq] at h; split at h <;> omega

/-! ### what is told -/
theorem made_l0_ok (hN : 5000 ≤ N) (V : Valid p acc gd nd) : ∀ (m : Nat) (wh : List (List Int)) (nt : List Bool) (x : Int), 0 ≤ x → x ≤ acc.length → (acc.length : Int) - x < m → (wh.length : Int) = x → (nt.length : Int) = x →
    (∀ q : Nat, (q : Int) < x → (wh.getD q []).length = two p ∧ (∀ l, l < two p → (wh.getD q []).getD l 0 = (stp nd gd q l : Int)) ∧ nt.getD q false = !(acc.getD q false)) →
    Ok (watch_made_l0 N p acc gd nd m wh nt x) fun r => Tab nd gd acc.length (two p) r.1 ∧ r.2.length = acc.length ∧ ∀ q, q < acc.length → r.2.getD q false = !(acc.getD q false)
  | 0, wh, nt, x, _, _, h, _, _, _ => by omega
  | m + 1, wh, nt, x, k0, k1, k2, k3, k4, k5 => by
    have a2 := V.a2
    have gl := V.gl
    unfold watch_made_l0
    rw [gl]
    refine Ok.ite (fun hx => ?_) fun hx => Ok.pure ⟨⟨by show wh.length = _; omega, fun q hq => (k5 q (by omega)).1, fun q l hq hl => (k5 q (by omega)).2.1 l hl⟩, by show nt.length = _; omega, fun q hq => (k5 q (by omega)).2.2⟩
    obtain ⟨a, rfl⟩ := Int.eq_ofNat_of_zero_le k0
    rw [Int.toNat_natCast]
    refine Ok.ask (by unfold idx; omega) ?_
    refine (Table_ok hN V (q := a) (by omega)).bind fun r ⟨r1, r2, r3⟩ => ?_
    refine Ok.ask (by simp; omega) (Ok.ask (by unfold idx; omega) (Ok.ask (by simp; omega) (Ok.ask (by unfold in64; omega) ?_)))
    refine made_l0_ok hN V m _ _ ((a : Int) + 1) (by omega) (by omega) (by omega) (by simp; omega) (by simp; omega) fun q hq => ?_
    rw [getD_snoc, getD_snoc]
    by_cases c : q = a
    · have e1 : q = wh.length := by omega
      have e2 : q = nt.length := by omega
      rw [if_pos e1, if_pos e2, c]
      exact ⟨r2, r3, rfl⟩
    · rw [if_neg (by omega), if_neg (by omega)]
      exact k5 q (by omega)
def told (acc : List Bool) (off lost : List Int) (q : Nat) : Int := if lost.getD q 0 < 0 then 3 else if off.getD q 0 < 0 then 2 else if acc.getD q false = true then 1 else 0
theorem made_l1_ok {off lost : List Int} (a2 : acc.length ≤ 256) (h1 : off.length = acc.length) (h2 : lost.length = acc.length) : ∀ (m : Nat) (b : List Int) (x : Int), 0 ≤ x → x ≤ acc.length → (acc.length : Int) - x < m → (b.length : Int) = x → (∀ q : Nat, (q : Int) < x → b.getD q 0 = told acc off lost q) →
    Ok (watch_made_l1 N acc off lost m b x) fun r => r.length = acc.length ∧ ∀ q, q < acc.length → r.getD q 0 = told acc off lost q
  | 0, b, x, _, _, h, _, _ => by omega
  | m + 1, b, x, k0, k1, k2, k3, k4 => by
    unfold watch_made_l1
    refine Ok.ite (fun hx => ?_) fun hx => Ok.pure ⟨by omega, fun q hq => k4 q (by omega)⟩
    obtain ⟨a, rfl⟩ := Int.eq_ofNat_of_zero_le k0
    rw [Int.toNat_natCast]
    have nxt : ∀ v : Int, v = told acc off lost a → Ok (ask (b.length + ([v] : List Int).length ≤ 1000000000) <| ask (in64 ((a : Int) + 1)) <| watch_made_l1 N acc off lost m (b ++ ([v] : List Int)) ((a : Int) + 1)) fun r => r.length = acc.length ∧ ∀ q, q < acc.length → r.getD q 0 = told acc off lost q := fun v hv => by
      refine Ok.ask (by simp; omega) (Ok.ask (by unfold in64; omega) ?_)
      refine made_l1_ok a2 h1 h2 m _ ((a : Int) + 1) (by omega) (by omega) (by omega) (by simp; omega) fun q hq => ?_
      rw [getD_snoc]
      by_cases c : q = a
      · rw [if_pos (by omega), c, hv]
      · rw [if_neg (by omega)]; exact k4 q (by omega)
    refine Ok.ask (by unfold idx; omega) (Ok.ask (by unfold idx; omega) ?_)
    refine Ok.ite (fun h => nxt 3 (by unfold told; rw [if_pos h])) fun h => ?_
    refine Ok.ask (by unfold idx; omega) ?_
    refine Ok.ite (fun g => nxt 2 (by unfold told; rw [if_neg h, if_pos g])) fun g => ?_
    refine Ok.ite (fun i => nxt 1 (by unfold told; rw [if_neg h, if_neg g, if_pos i])) fun i => nxt 0 (by unfold told; rw [if_neg h, if_neg g, if_neg i])
abbrev WB := (Int × (List Bool) × (List Int) × (List Nd)) × (List Int) × (List Int)
/-- a board that is made -/
structure Board (p : Int) (acc : List Bool) (gd : List Int) (nd : List Nd) (b : WB) : Prop where
  a : b.1 = (p, acc, gd, nd)
  off : Far nd gd acc.length (two p) acc b.2.1
  told : ∃ lost, (∃ nt : List Bool, (∀ q, q < acc.length → nt.getD q false = !(acc.getD q false)) ∧ Far nd gd acc.length (two p) nt lost) ∧ b.2.2.length = acc.length ∧ ∀ q, q < acc.length → b.2.2.getD q 0 = told acc b.2.1 lost q
theorem made_ok (hN : 5000 ≤ N) (V : Valid p acc gd nd) : Ok (watch_made N p acc gd nd) fun b => Board p acc gd nd b := by
  have a2 := V.a2
  have gl := V.gl
  have nl := V.nl
  unfold watch_made
  refine Ok.ask (by simp; omega) (Ok.ask (by simp; omega) (Ok.ask (by simp; omega) ?_))
  refine (made_l0_ok hN V N [] [] 0 (by omega) (by omega) (by omega) rfl rfl fun q h => by omega).bind fun x ⟨T, x1, x2⟩ => ?_
  refine (back_ok hN V T rfl).bind fun off F => (back_ok hN V T x1).bind fun lost G => ?_
  refine (made_l1_ok (off := off) (lost := lost) a2 F.len G.len N [] 0 (by omega) (by omega) (by omega) rfl fun q h => by omega).bind fun b ⟨b1, b2⟩ => ?_
  exact Ok.pure ⟨by simp, F, lost, ⟨x.2, x2, G⟩, b1, b2⟩
/-! ### a watch -/
def cameQ (w : List Int) : Int := if w.length = 0 then 0 else w.getD (w.length - 1) 0
theorem WState_ok {b : WB} {w : List Int} (h : w.length ≤ 3000) : watch_Watch_State N b w = some (cameQ w) := by
  unfold watch_Watch_State watch_Watch_none cameQ
  simp only [Option.bind_some, Bool.false_eq_true, if_false]
  by_cases c : w.length = 0
  · rw [if_pos (by omega), if_pos c]
  · rw [if_neg (by omega), if_neg c]
    unfold ask
    rw [if_pos (by unfold in64; omega), if_pos (by unfold idx; omega)]
    congr 2 <;> omega
theorem WVerdict_ok {b : WB} {w : List Int} (B : Board p acc gd nd b) (h : w.length ≤ 3000) (h0 : 0 ≤ cameQ w) (h1 : cameQ w < acc.length) : watch_Watch_Verdict N b w = some (b.2.2.getD (cameQ w).toNat 0) := by
  obtain ⟨lost, _, hl, _⟩ := B.told
  unfold watch_Watch_Verdict watch_Watch_none
  simp only [Option.bind_some, Bool.false_eq_true, if_false]
  rw [WState_ok h]
  simp only [Option.bind_some]
  unfold ask
  rw [if_pos (by unfold idx; omega)]
theorem WOff_ok {b : WB} {w : List Int} (B : Board p acc gd nd b) (h : w.length ≤ 3000) (h0 : 0 ≤ cameQ w) (h1 : cameQ w < acc.length) : watch_Watch_Off N b w = some (if b.2.1.getD (cameQ w).toNat 0 < 0 then (0, 6) else (b.2.1.getD (cameQ w).toNat 0, 0)) := by
  have hl := B.off.len
  unfold watch_Watch_Off watch_Watch_none
  simp only [Option.bind_some, Bool.false_eq_true, if_false]
  rw [WState_ok h]
  simp only [Option.bind_some]
  unfold ask
  rw [if_pos (by unfold idx; omega)]
  split <;> rfl
theorem cameQ_snoc {w : List Int} {q : Int} : cameQ (w ++ [q]) = q := by
  unfold cameQ
  rw [if_neg (by simp), getD_snoc, if_pos (by simp)]

/-! ### letters -/
theorem Fits_ok (hp : 0 ≤ p ∧ p ≤ 8) {l : Nat} (h : l < two p) : letter_Fits N p (l : Int) = some true := by
  have sh := shl_two hp
  unfold letter_Fits letter_number
  rw [if_pos hp.1]
  simp only [Option.bind_some]
  rw [if_pos (decide_eq_true hp.2)]
  unfold ask
  rw [if_pos (by unfold in64; omega), if_pos hp.1]
  have h2 : shrV .i64 (l : Int) p = 0 := by
    unfold shrV
    have hb : min p.toNat IntKind.i64.bits = p.toNat := Nat.min_eq_left (by show p.toNat ≤ 64; omega)
    rw [hb]
    have : ((2 : Int) ^ p.toNat) = (two p : Int) := by unfold two; simp
    rw [this]
    exact Int.fdiv_eq_zero_of_lt (by omega) (by omega)
  rw [h2]
  rfl
theorem Feed_ok (hN : 5000 ≤ N) (V : Valid p acc gd nd) {b : WB} (B : Board p acc gd nd b) {w : List Int} (h : w.length ≤ 1000) {q : Nat} (hq : cameQ w = (q : Int)) (h1 : q < acc.length) {l : Nat} (hl : l < two p) :
    watch_Watch_Feed N b w (l : Int) = some (b.2.2.getD (stp nd gd q l) 0, 0, w ++ [(stp nd gd q l : Int)]) := by
  have gl := V.gl
  have hlt := (stp_eq V h1 l).2
  unfold watch_Watch_Feed watch_Watch_none
  simp only [Option.bind_some, Bool.false_eq_true, if_false]
  rw [B.a]
  simp only []
  rw [Fits_ok ⟨V.p0, V.p8⟩ hl]
  simp only [Option.bind_some, if_true]
  rw [if_neg (by omega), WState_ok (by omega)]
  simp only [Option.bind_some]
  rw [hq, Int.toNat_natCast]
  unfold ask
  rw [if_pos (by unfold idx; omega), stp_go hN V h1]
  simp only [Option.bind_some]
  rw [if_pos (by simp; omega), WVerdict_ok (acc := acc) B (by simp; omega) (by rw [cameQ_snoc]; omega) (by rw [cameQ_snoc]; omega), cameQ_snoc, Int.toNat_natCast]
  rfl
end
end Go.V
