/- Plain theory: total functions that may fail. No program. -/
import Derived.Test.YtflangjkfaalkaaA7
set_option linter.all false
set_option linter.unusedVariables false
namespace Go.V
open Go

/-- it answers, and so -/
def Ok {α : Type} (o : Option α) (Q : α → Prop) : Prop := ∃ x, o = some x ∧ Q x
section
variable {α β γ : Type} {o : Option α} {P Q : α → Prop} {R : β → Prop} {f : α → Option β}
theorem Ok.bind (h : Ok o P) (k : ∀ x, P x → Ok (f x) R) : Ok (Option.bind o f) R := by
  obtain ⟨x, rfl, hx⟩ := h
  exact k x hx
theorem Ok.pure {x : α} (h : Q x) : Ok (some x) Q := ⟨x, rfl, h⟩
theorem Ok.mono (h : Ok o P) (k : ∀ x, P x → Q x) : Ok o Q := by obtain ⟨x, e, hx⟩ := h; exact ⟨x, e, k x hx⟩
theorem Ok.ask {p : Prop} [Decidable p] (hp : p) (h : Ok o Q) : Ok (ask p o) Q := by
  unfold Go.V.ask
  rw [if_pos hp]
  exact h
theorem Ok.ite {p : Prop} [Decidable p] {a b : Option α} (h1 : p → Ok a Q) (h2 : ¬ p → Ok b Q) : Ok (if p then a else b) Q := by
  by_cases h : p
  · rw [if_pos h]; exact h1 h
  · rw [if_neg h]; exact h2 h
theorem Ok.eq {x : α} (h : Ok o (· = x)) : o = some x := by obtain ⟨y, e, rfl⟩ := h; exact e
theorem Ok.of_eq {x : α} (h : o = some x) (hq : Q x) : Ok o Q := ⟨x, h, hq⟩
theorem Ok.elim {s : β ⊕ γ} {a : β → Option α} {b : γ → Option α} (h1 : ∀ x, s = .inl x → Ok (a x) Q) (h2 : ∀ x, s = .inr x → Ok (b x) Q) : Ok (Sum.elim a b s) Q := by
  cases s with
  | inl x => exact h1 x rfl
  | inr x => exact h2 x rfl
end
theorem in64_of {x : Int} (h : -9223372036854775808 ≤ x ∧ x ≤ 9223372036854775807) : in64 x := by unfold in64; omega
theorem getD_mem {α : Type} {xs : List α} {i : Int} {d : α} (h0 : 0 ≤ i) (h1 : i < (xs.length : Int)) : xs.getD i.toNat d ∈ xs := by
  have h : i.toNat < xs.length := by omega
  rw [List.getD_eq_getElem?_getD, List.getElem?_eq_getElem h]
  exact List.getElem_mem h

/-! ### automata -/
/-- a reference that may be -/
def Good (n : Int) (nd : List Nd) (ref below above : Int) : Prop := (ref < 0 ∧ -n ≤ ref) ∨ (0 ≤ ref ∧ ref < below ∧ above < (nd.getD ref.toNat default).P)
structure Valid (p : Int) (acc : List Bool) (gd : List Int) (nd : List Nd) : Prop where
  p0 : 0 ≤ p
  p8 : p ≤ 8
  a1 : 1 ≤ acc.length
  a2 : acc.length ≤ 256
  gl : gd.length = acc.length
  nl : nd.length ≤ 4096
  ok : ∀ i : Nat, i < nd.length → 0 ≤ (nd.getD i default).P ∧ (nd.getD i default).P < p ∧ Good acc.length nd (nd.getD i default).Lo i (nd.getD i default).P ∧ Good acc.length nd (nd.getD i default).Hi i (nd.getD i default).P
  gs : ∀ i : Nat, i < gd.length → Good acc.length nd (gd.getD i 0) nd.length (-1)

theorem guard_good_ok {N : Nat} {p : Int} {acc : List Bool} {gd : List Int} {nd : List Nd} {ref below above : Int} (ha : acc.length ≤ 1000000) (hb : below ≤ nd.length) :
    Ok (guard_good N p acc gd nd ref below above) fun r => r = true → Good acc.length nd ref below above := by
  unfold guard_good
  refine Ok.ite (fun h => Ok.ask (by unfold in64; omega) (Ok.pure fun h2 => .inl ⟨h, of_decide_eq_true h2⟩)) fun h => ?_
  refine Ok.ite (fun h1 => Ok.ask (by unfold idx; omega) (Ok.pure fun h2 => .inr ⟨by omega, h1, of_decide_eq_true h2⟩)) fun _ => Ok.pure fun h => by cases h

theorem mget_true : ∀ {m : List (Nd × Bool)} {k : Nd}, (∀ x ∈ m, x.2 = true) → Option.getD (mget m k) false ≠ true → mget m k = none
  | [], _, _, _ => rfl
  | (a, b) :: r, k, h, hg => by
    unfold mget at hg ⊢
    by_cases e : a = k
    · rw [if_pos e] at hg
      have : b = true := h (a, b) (by simp)
      subst this
      exact absurd rfl hg
    · rw [if_neg e] at hg ⊢
      exact mget_true (fun x hx => h x (by simp [hx])) hg

theorem guard_Check_l0_ok {N : Nat} {p : Int} {acc : List Bool} {gd : List Int} {nd : List Nd} (ha : acc.length ≤ 1000000) (hn : nd.length ≤ 1000000) (hw : ∀ x ∈ nd, x.wf) : ∀ (m : Nat) (met : List (Nd × Bool)) (x : Int), 0 ≤ x → x ≤ nd.length → (nd.length : Int) - x < m → (∀ y ∈ met, y.2 = true) →
    (∀ i : Nat, i < nd.length → (i : Int) < x → 0 ≤ (nd.getD i default).P ∧ (nd.getD i default).P < p ∧ Good acc.length nd (nd.getD i default).Lo i (nd.getD i default).P ∧ Good acc.length nd (nd.getD i default).Hi i (nd.getD i default).P) →
    Ok (guard_Check_l0 N p acc gd nd m met x) fun r => r = .inr 12 ∨ (r = .inl () ∧ ∀ i : Nat, i < nd.length → 0 ≤ (nd.getD i default).P ∧ (nd.getD i default).P < p ∧ Good acc.length nd (nd.getD i default).Lo i (nd.getD i default).P ∧ Good acc.length nd (nd.getD i default).Hi i (nd.getD i default).P)
  | 0, met, x, h0, h01, h1, _, _ => by omega
  | m + 1, met, x, h0, h01, h1, hm, hi => by
    unfold guard_Check_l0
    refine Ok.ite (fun hx => ?_) fun hx => Ok.pure (.inr ⟨rfl, fun i h => hi i h (by omega)⟩)
    refine Ok.ask (by unfold idx; omega) ?_
    refine Ok.ite (fun _ => Ok.pure (.inl rfl)) fun hP0 => ?_
    refine Ok.ite (fun _ => Ok.pure (.inl rfl)) fun hP1 => ?_
    refine Ok.ite (fun _ => Ok.pure (.inl rfl)) fun hne => ?_
    have hwf := hw _ (getD_mem (d := (default : Nd)) h0 hx)
    refine Ok.ask ?_ ?_
    · unfold Nd.wf W64 at hwf
      unfold ndOk in64
      exact hwf
    refine Ok.ite (fun _ => Ok.pure (.inl rfl)) fun hmet => ?_
    refine (guard_good_ok ha (by omega)).bind fun r hr => ?_
    refine Ok.ite (fun hrt => ?_) fun _ => Ok.pure (.inl rfl)
    refine (guard_good_ok ha (by omega)).bind fun r2 hr2 => ?_
    refine Ok.ite (fun hrt2 => ?_) fun _ => Ok.pure (.inl rfl)
    refine Ok.ask (mget_true hm hmet) ?_
    refine Ok.ask (by unfold in64; omega) ?_
    refine guard_Check_l0_ok ha hn hw m _ _ (by omega) (by omega) (by omega) (fun y hy => ?_) fun i h1 h2 => ?_
    · rcases List.mem_append.1 hy with hy | hy
      · exact hm y hy
      · simp at hy; subst hy; rfl
    · rcases Int.lt_or_eq_of_le (show (i : Int) ≤ x by omega) with h3 | h3
      · exact hi i h1 h3
      · subst h3
        refine ⟨by simpa using hP0, by simpa using hP1, ?_, ?_⟩
        · simpa using hr hrt
        · simpa using hr2 hrt2

theorem guard_Check_l1_ok {N : Nat} {p : Int} {acc : List Bool} {gd : List Int} {nd : List Nd} (ha : acc.length ≤ 1000000) (hg : gd.length ≤ 1000000) : ∀ (m : Nat) (x : Int), 0 ≤ x → x ≤ gd.length → (gd.length : Int) - x < m →
    (∀ i : Nat, i < gd.length → (i : Int) < x → Good acc.length nd (gd.getD i 0) nd.length (-1)) →
    Ok (guard_Check_l1 N p acc gd nd m x) fun r => r = .inr 12 ∨ (r = .inl () ∧ ∀ i : Nat, i < gd.length → Good acc.length nd (gd.getD i 0) nd.length (-1))
  | 0, x, h0, h01, h1, _ => by omega
  | m + 1, x, h0, h01, h1, hi => by
    unfold guard_Check_l1
    refine Ok.ite (fun hx => ?_) fun hx => Ok.pure (.inr ⟨rfl, fun i h => hi i h (by omega)⟩)
    refine Ok.ask (by unfold idx; omega) ?_
    refine (guard_good_ok ha (Int.le_refl _)).bind fun r hr => ?_
    refine Ok.ite (fun hrt => ?_) fun _ => Ok.pure (.inl rfl)
    refine Ok.ask (by unfold in64; omega) ?_
    refine guard_Check_l1_ok ha hg m _ (by omega) (by omega) (by omega) fun i h1 h2 => ?_
    rcases Int.lt_or_eq_of_le (show (i : Int) ≤ x by omega) with h3 | h3
    · exact hi i h1 h3
    · subst h3
      simpa using hr hrt

theorem guard_Check_ok {N : Nat} {p : Int} {acc : List Bool} {gd : List Int} {nd : List Nd} (hN : 5000 ≤ N) (hw : ∀ x ∈ nd, x.wf) :
    Ok (guard_Check N p acc gd nd) fun e => (e = 12 ∨ e = 0) ∧ (e = 0 → Valid p acc gd nd) := by
  have bad : Ok (some 12) fun e : Int => (e = 12 ∨ e = 0) ∧ (e = 0 → Valid p acc gd nd) := Ok.pure ⟨.inl rfl, fun h => by cases h⟩
  unfold guard_Check
  refine Ok.ite (fun _ => bad) fun h1 => Ok.ite (fun _ => bad) fun h2 => Ok.ite (fun _ => bad) fun h3 => Ok.ite (fun _ => bad) fun h4 => Ok.ite (fun h5 => ?_) fun _ => bad
  refine Ok.ite (fun _ => bad) fun h6 => ?_
  refine (guard_Check_l0_ok (by omega) (by omega) hw N [] 0 (by omega) (by omega) (by omega) (fun y hy => by cases hy) fun i _ h => by omega).bind fun x hx => ?_
  rcases hx with rfl | ⟨rfl, hx⟩
  · exact bad
  refine (guard_Check_l1_ok (by omega) (by omega) N 0 (by omega) (by omega) (by omega) fun i _ h => by omega).bind fun y hy => ?_
  rcases hy with rfl | ⟨rfl, hy⟩
  · exact bad
  exact Ok.pure ⟨.inr rfl, fun _ => ⟨by omega, by omega, by omega, by omega, by omega, by omega, hx, hy⟩⟩

/-! ### where a letter leads -/
def goS (nd : List Nd) (l : Int) : Nat → Int → Int
  | 0, _ => 0
  | m + 1, ref => if ref < 0 then -1 - ref else if andV .u8 (shrV .u8 l (nd.getD ref.toNat default).P) 1 = 1 then goS nd l m (nd.getD ref.toNat default).Hi else goS nd l m (nd.getD ref.toNat default).Lo
def go (nd : List Nd) (ref l : Int) : Int := goS nd l 9 ref
theorem Good.mono {n : Int} {nd : List Nd} {ref b b2 a : Int} (h : Good n nd ref b a) (hb : b ≤ b2) : Good n nd ref b2 a := h.imp id fun ⟨h1, h2, h3⟩ => ⟨h1, by omega, h3⟩
theorem guard_Go_l0_ok {N : Nat} {p : Int} {acc : List Bool} {gd : List Int} {nd : List Nd} (V : Valid p acc gd nd) (l : Int) : ∀ (m : Nat) (ref x : Int), 0 ≤ x → x ≤ 8 → 9 - x < m → Good acc.length nd ref nd.length (x - 1) →
    Ok (guard_Go_l0 N nd l m ref x) fun r => ∃ q, r = .inr (q, true) ∧ 0 ≤ q ∧ q < acc.length ∧ q = goS nd l (9 - x).toNat ref
  | 0, ref, x, h0, h1, h2, _ => by omega
  | m + 1, ref, x, h0, h1, h2, hg => by
    have a2 := V.a2
    obtain ⟨f, hf⟩ : ∃ f, (9 - x).toNat = f + 1 := ⟨(8 - x).toNat, by omega⟩
    unfold guard_Go_l0
    refine Ok.ite (fun hx => ?_) fun hx => by omega
    refine Ok.ite (fun hr => ?_) fun hr => ?_
    · rcases hg with ⟨_, hg⟩ | ⟨hg, _⟩
      · refine Ok.ask (by unfold in64; omega) (Ok.pure ⟨_, rfl, by omega, by omega, ?_⟩)
        rw [hf]; unfold goS; rw [if_pos hr]
      · omega
    · rcases hg with ⟨hg, _⟩ | ⟨hg, hg2, hg3⟩
      · omega
      obtain ⟨k1, k2, k3, k4⟩ := V.ok ref.toNat (by omega)
      have p8 := V.p8
      refine Ok.ite (fun _ => by omega) fun _ => ?_
      refine Ok.ask (by unfold idx; omega) ?_
      refine Ok.ite (fun _ => by omega) fun _ => ?_
      refine Ok.ite (fun _ => by omega) fun _ => ?_
      refine Ok.ask (by omega) ?_
      have hf' : (9 - (x + 1)).toNat = f := by omega
      refine Ok.ite (fun hb => ?_) fun hb => ?_
      · refine Ok.ask (by unfold in64; omega) ?_
        refine (guard_Go_l0_ok V l m _ (x + 1) (by omega) (by omega) (by omega) ?_).mono fun r ⟨q, e, h1, h2, h3⟩ => ⟨q, e, h1, h2, ?_⟩
        · rcases k4 with k | ⟨k, kb, kc⟩
          · exact .inl k
          · exact .inr ⟨k, by omega, by omega⟩
        · rw [hf]; unfold goS; rw [if_neg hr, if_pos hb, h3, hf']
      · refine Ok.ask (by unfold in64; omega) ?_
        refine (guard_Go_l0_ok V l m _ (x + 1) (by omega) (by omega) (by omega) ?_).mono fun r ⟨q, e, h1, h2, h3⟩ => ⟨q, e, h1, h2, ?_⟩
        · rcases k3 with k | ⟨k, kb, kc⟩
          · exact .inl k
          · exact .inr ⟨k, by omega, by omega⟩
        · rw [hf]; unfold goS; rw [if_neg hr, if_neg hb, h3, hf']

theorem guard_Go_ok {N : Nat} {p : Int} {acc : List Bool} {gd : List Int} {nd : List Nd} (hN : 5000 ≤ N) (V : Valid p acc gd nd) (l : Int) {q : Int} (h0 : 0 ≤ q) (h1 : q < acc.length) :
    guard_Go N nd (gd.getD q.toNat 0) l = some (go nd (gd.getD q.toNat 0) l, true) ∧ 0 ≤ go nd (gd.getD q.toNat 0) l ∧ go nd (gd.getD q.toNat 0) l < acc.length := by
  have gl := V.gl
  obtain ⟨r, e, q', rfl, h2, h3, h4⟩ := guard_Go_l0_ok (N := N) V l N (gd.getD q.toNat 0) 0 (by omega) (by omega) (by omega) ((V.gs q.toNat (by omega)))
  have h5 : q' = go nd (gd.getD q.toNat 0) l := h4
  subst h5
  refine ⟨?_, h2, h3⟩
  unfold guard_Go
  rw [e]
  rfl
end Go.V
