/- A drawn region whose tail comes in one order; bytes as a string. -/
import Derived.Test.YtljkomkejdngcaaVX
import Derived.StillTail
import Derived.Laws.BytesArg
set_option linter.all false
set_option linter.unusedVariables false
set_option linter.unnecessarySimpa false
set_option linter.unusedSimpArgs false
namespace Go.V
open Go Go.Proofs
section
variable {P : Program} {ops : Array Oper} {Q : Exit → Act → World → Prop} {M : Act → World → Prop} {S : World → Prop} {nA : Nat}

/-- the head is ops below nA; lA: what of it is done already. Each other one of it is waited for on the way to the first of the tail; each of the tail waits for the one ahead of it. -/
def headOk (ops : Array Oper) (nA : Nat) (lA : Array Bool) : Bool :=
  decide (nA < ops.size) && (decide (lA.size = nA) && ((List.range ops.size).all fun t => match ops[t]? with
    | none => false
    | some o => bif decide (t < nA) then (o.after.all (fun e => !Region.binds .any e || (decide (e.on < t) && (!lA.getD t false || lA.getD e.on false)))) && ((match o.guard with | none => true | some (j, _) => decide (j < nA)) && (lA.getD t false || (List.range (nA + 1)).any fun j => decide (t < j) && Region.waitsFor .any ops j t)) else decide (t = nA) || Region.waitsFor .any ops t (t - 1)))

variable {lA : Array Bool}
theorem headOk_sz (h : headOk ops nA lA = true) : nA < ops.size ∧ lA.size = nA := by
  unfold headOk at h
  simp only [Bool.and_eq_true, decide_eq_true_eq] at h
  exact ⟨h.1, h.2.1⟩
theorem headOk_lo (h : headOk ops nA lA = true) {t : Nat} {o : Oper} (ht : t < nA) (ho : ops[t]? = some o) : (∀ e ∈ o.after, Region.binds .any e = true → e.on < t ∧ (lA.getD t false = true → lA.getD e.on false = true)) ∧ (match o.guard with | none => True | some (j, _) => j < nA) ∧ (lA.getD t false = true ∨ ∃ j, t < j ∧ j ≤ nA ∧ Region.waitsFor .any ops j t = true) := by
  have hs := (headOk_sz h).1
  unfold headOk at h
  simp only [Bool.and_eq_true, decide_eq_true_eq, List.all_eq_true, List.mem_range] at h
  have h1 := h.2.2 t (by omega)
  rw [ho] at h1
  simp only [ht, decide_true, cond_true, Bool.and_eq_true, Bool.or_eq_true] at h1
  refine ⟨fun e he hb => ?_, ?_, ?_⟩
  · have := Array.all_eq_true_iff_forall_mem.1 h1.1 e he
    simp only [hb, Bool.not_true, Bool.false_or, Bool.and_eq_true, decide_eq_true_eq, Bool.or_eq_true, Bool.not_eq_true'] at this
    refine ⟨this.1, fun h2 => this.2.resolve_left (by rw [h2]; simp)⟩
  · have := h1.2.1
    split at this <;> simp_all
  · refine h1.2.2.imp id fun h2 => ?_
    obtain ⟨j, hj, h3⟩ := List.any_eq_true.1 h2
    simp only [Bool.and_eq_true, decide_eq_true_eq, List.mem_range] at h3 hj
    exact ⟨j, h3.1, by omega, h3.2⟩
theorem app_get {l : Array Bool} {g i : Nat} (d : Bool) (hi : i < l.size) : (l ++ Array.replicate g false).getD i d = l.getD i d := by
  simp [Array.getElem?_append, hi]
/-- what is done of the head: it grows, and nothing is done ahead of what it waits for -/
structure Hinv (ops : Array Oper) (nA : Nat) (lA l : Array Bool) : Prop where
  size : l.size = nA
  sup : ∀ i, lA.getD i false = true → l.getD i false = true
  clo : ∀ t o, t < nA → ops[t]? = some o → l.getD t false = true → ∀ e ∈ o.after, Region.binds .any e = true → l.getD e.on false = true

theorem Hinv.tail (hok : headOk ops nA lA = true) {l : Array Bool} (V : Hinv ops nA lA l) : ∀ (d i : Nat), nA - i = d → i < nA → l.getD i true = false → ¬ ∃ o, ops[nA]? = some o ∧ ∀ e ∈ o.after, Region.binds .any e = true → (l ++ Array.replicate (ops.size - nA) false).getD e.on false = true := by
  intro d
  induction d using Nat.strongRecOn with
  | _ d ih =>
    intro i hd hi hun
    have hs := (headOk_sz hok).1
    have hf : l.getD i false = false := getD_both hun
    have hlo := (headOk_lo hok hi (Array.getElem?_eq_getElem (show i < ops.size by omega))).2.2
    rcases hlo with h | ⟨j, h1, h2, h3⟩
    · rw [V.sup i h] at hf; cases hf
    · obtain ⟨o, ho, e, he, hb, hon⟩ := Region.waitsFor_spec h3
      by_cases hj : j = nA
      · subst hj
        rintro ⟨o2, ho2, h4⟩
        obtain rfl : o = o2 := Option.some.inj (ho.symm.trans ho2)
        have := h4 e he hb
        rw [hon, app_get _ (by rw [V.size]; exact hi), hf] at this
        cases this
      · have hj2 : j < nA := by omega
        have hjf : l.getD j false = false := by
          cases hc : l.getD j false with
          | false => rfl
          | true =>
            have := V.clo j o hj2 ho hc e he hb
            rw [hon, hf] at this
            cases this
        exact ih (nA - j) (by omega) j rfl hj2 (getD_in (by rw [V.size]; exact hj2) hjf)

end

/-! ### bytes as a string -/
section
variable {P : Program} {T : List TRow} {w : World} {a : Act} {n : Nat} {l l' : List (Nat × Value)} {ops : Array Oper} {o : Oper} {rest : List Oper} {Q : Exit → Act → World → Prop} {e : TypeId}
end

/-! ### steps that tell what is new alone -/
def hasK : List Nat → Nat → Bool
  | [], _ => false
  | k :: r, t => bif Nat.beq k t then true else hasK r t
def hasL : List (Nat × Value) → Nat → Bool
  | [], _ => false
  | (k, _) :: r, t => bif Nat.beq k t then true else hasL r t
def newOk (ks : List Nat) (l : List (Nat × Value)) : Option Nat → Bool
  | none => true
  | some d => hasK ks d || !hasL l d
def freshK (ks : List Nat) (l : List (Nat × Value)) : Nat → List Oper → Bool
  | 0, _ => true
  | _ + 1, [] => true
  | k + 1, o :: r => newOk ks l o.dst && freshK ks l k r
def freshH (ops : Array Oper) (ks : List Nat) (l : List (Nat × Value)) : List Nat → Bool
  | [] => true
  | i :: is => (match ops[i]? with | none => true | some o => newOk ks l o.dst) && freshH ops ks l is
theorem lkp_app {t : Nat} : ∀ (new l : List (Nat × Value)), lkp (new ++ l) t = match lkp new t with | some v => some v | none => lkp l t
  | [], l => rfl
  | (k, u) :: new, l => by
    have ih := lkp_app (t := t) new l
    show (bif Nat.beq k t then some u else lkp (new ++ l) t) = match (bif Nat.beq k t then some u else lkp new t) with | some v => some v | none => lkp l t
    cases Nat.beq k t with
    | true => rfl
    | false => exact ih
theorem hasL_some {t : Nat} {v : Value} : ∀ {l : List (Nat × Value)}, lkp l t = some v → hasL l t = true
  | [], h => by cases h
  | (k, u) :: l, h => by
    unfold lkp at h
    unfold hasL
    cases hb : Nat.beq k t with
    | true => rfl
    | false => rw [hb] at h; exact hasL_some h
theorem hasK_none {t : Nat} : ∀ {l : List (Nat × Value)}, lkp l t = none → hasK (l.map Prod.fst) t = false
  | [], _ => rfl
  | (k, u) :: l, h => by
    unfold lkp at h
    rw [List.map_cons]
    unfold hasK
    cases hb : Nat.beq k t with
    | true => rw [hb] at h; cases h
    | false => rw [hb] at h; exact hasK_none h
theorem chk_get {l : List (Nat × Value)} {t : Nat} {v : Value} : ∀ {new : List (Nat × Value)}, chk l new → lkp new t = some v → lkp l t = some v
  | [], _, h => by cases h
  | (k, u) :: new, ⟨h1, h2⟩, h => by
    unfold lkp at h
    cases hb : Nat.beq k t with
    | true => rw [hb] at h; cases h; have := Nat.eq_of_beq_eq_true hb; subst this; exact h1
    | false => rw [hb] at h; exact chk_get h2 h
theorem putE_off {n : Nat} {l l1 : List (Nat × Value)} {d : Option Nat} {v : Value} {t : Nat} (h : putE n l d v = some l1) (ht : d ≠ some t) : lkp l1 t = lkp l t := by
  unfold putE at h
  cases d with
  | none => cases h; rfl
  | some d =>
    simp only at h
    cases hb : Nat.blt d n with
    | false => rw [hb] at h; cases h
    | true =>
      rw [hb] at h
      cases h
      have hn : Nat.beq d t = false := by
        cases hq : Nat.beq d t with
        | false => rfl
        | true => exact absurd (congrArg some (Nat.eq_of_beq_eq_true hq)) ht
      show (bif Nat.beq d t then some v else lkp l t) = lkp l t
      rw [hn]
      rfl
theorem newOk_ne {new l : List (Nat × Value)} {d : Option Nat} {t : Nat} {v : Value} (h : newOk (new.map Prod.fst) l d = true) (hn : lkp new t = none) (hl : lkp l t = some v) : d ≠ some t := fun e => by
  subst e
  have h : (hasK (new.map Prod.fst) t || !hasL l t) = true := h
  rw [hasK_none hn, hasL_some hl] at h
  cases h
section
variable {P : Program} {T : List TRow} {w : World} {a : Act} {n : Nat} {l : List (Nat × Value)} {ops : Array Oper} {Q : Exit → Act → World → Prop} {S : World → Prop}
theorem runK_off {new l0 : List (Nat × Value)} {t : Nat} {v : Value} (hn : lkp new t = none) (hl : lkp l0 t = some v) : ∀ (k : Nat) (hs : List Value) (L : List Oper) (l : List (Nat × Value)) {l' : List (Nat × Value)} {φ : List Prop}, runK T w ops n k hs L l = some (l', φ) → freshK (new.map Prod.fst) l0 k L = true → lkp l' t = lkp l t
  | 0, hs, L, l, l', φ, h, _ => by cases h; rfl
  | k + 1, hs, [], l, l', φ, h, _ => by cases h
  | k + 1, hs, o :: rest, l, l', φ, h, hf => by
    unfold freshK at hf
    simp only [Bool.and_eq_true] at hf
    have hd := newOk_ne hf.1 hn hl
    unfold runK at h
    split at h
    · cases ht : takes o.op with
      | true =>
        rw [ht] at h
        simp only [cond_true] at h
        split at h
        · cases h
        · split at h
          · split at h
            · rename_i l1 hl1
              split at h
              · rename_i hrec; cases h; rw [runK_off hn hl k _ rest l1 hrec hf.2, putE_off hl1 hd]
              · cases h
            · cases h
          · cases h
      | false =>
        rw [ht] at h
        simp only [cond_false] at h
        split at h
        · split at h
          · rename_i l1 hl1
            split at h
            · rename_i hrec; cases h; rw [runK_off hn hl k _ rest l1 hrec hf.2, putE_off hl1 hd]
            · cases h
          · cases h
        · cases h
    · split at h
      · rename_i l1 hl1
        rw [runK_off hn hl k _ rest l1 h hf.2, putE_off hl1 hd]
      · cases h
    · cases h
theorem runH_off {new l0 : List (Nat × Value)} {t : Nat} {v : Value} (hn : lkp new t = none) (hl : lkp l0 t = some v) : ∀ (is : List Nat) (hs : List Value) (l : List (Nat × Value)) {l' : List (Nat × Value)} {φ : List Prop}, runH T w ops n is hs l = some (l', φ) → freshH ops (new.map Prod.fst) l0 is = true → lkp l' t = lkp l t
  | [], hs, l, l', φ, h, _ => by cases h; rfl
  | i :: is, hs, l, l', φ, h, hf => by
    unfold freshH at hf
    simp only [Bool.and_eq_true] at hf
    unfold runH at h
    split at h
    · cases h
    · rename_i o ho
      rw [ho] at hf
      have hd := newOk_ne hf.1 hn hl
      split at h
      · cases ht : takes o.op with
        | true =>
          rw [ht] at h
          simp only [cond_true] at h
          split at h
          · cases h
          · split at h
            · split at h
              · rename_i l1 hl1
                split at h
                · rename_i hrec; cases h; rw [runH_off hn hl is _ l1 hrec hf.2, putE_off hl1 hd]
                · cases h
              · cases h
            · cases h
        | false =>
          rw [ht] at h
          simp only [cond_false] at h
          split at h
          · split at h
            · rename_i l1 hl1
              split at h
              · rename_i hrec; cases h; rw [runH_off hn hl is _ l1 hrec hf.2, putE_off hl1 hd]
              · cases h
            · cases h
          · cases h
      · split at h
        · rename_i l1 hl1
          rw [runH_off hn hl is _ l1 h hf.2, putE_off hl1 hd]
        · cases h
      · cases h
/-- plain operations, in one step; what is new is told -/
theorem vn (hT : TbOk P T) (k : Nat) (hs : List Value) {L : List Oper} (new : List (Nat × Value)) (φ : List Prop) (E : Fr a n l) (h : runS T w ops n k hs (new.map Prod.fst) L l = some (new, φ)) (hf : freshK (new.map Prod.fst) l k L = true) (hφ : AllP φ)
    (hk : ∀ a', Fr a' n (new ++ l) → wpList P ops Q (L.drop k) a' w) : wpList P ops Q L a w := by
  unfold runS at h
  split at h
  · rename_i l' ψ hr
    split at h
    · rename_i q hq
      cases h
      refine runK_spec hT k hs L l a E hr hφ fun a' E' => hk a' ⟨E'.nodef, E'.size, fun t v hv => E'.get t v ?_⟩
      rw [lkp_app] at hv
      cases hn : lkp new t with
      | some u => rw [hn] at hv; cases hv; exact chk_get (sel_chk hq) hn
      | none => rw [hn] at hv; rw [runK_off hn hv k hs L l hr hf]; exact hv
    · cases h
  · cases h
theorem dn (hT : TbOk P T) (hs0 : Region.noSelect ops = true) (is : List Nat) (hs : List Value) (new : List (Nat × Value)) (φ : World → List Prop) (fuel : Nat) {listed : Array Bool} (E : Fr a n l)
    (h : ∀ w', S w' → runHS T w' ops n is hs (new.map Prod.fst) l = some (new, φ w')) (hf : freshH ops (new.map Prod.fst) l is = true) (hφ : ∀ w', S w' → AllP (φ w')) (hok : okOrder ops is listed = true) (hS : S w)
    (hk : ∀ a', Fr a' n (new ++ l) → wpAnyH P .any ops (NoPanic Q) S fuel (listAll is listed) a' w) : wpAnyH P .any ops (NoPanic Q) S (fuel + is.length) listed a w := by
  have h0 := h w hS
  unfold runHS at h0
  cases hr : runH T w ops n is hs l with
  | none => rw [hr] at h0; cases h0
  | some r =>
    obtain ⟨l', ψ0⟩ := r
    have key : ∀ w', S w' → runH T w' ops n is hs l = some (l', φ w') := by
      intro w' hS'
      have h1 := h w' hS'
      unfold runHS at h1
      cases hr' : runH T w' ops n is hs l with
      | none => rw [hr'] at h1; cases h1
      | some r' =>
        obtain ⟨l2, ψ2⟩ := r'
        obtain rfl := runH_val is hs l hr hr'
        rw [hr'] at h1
        simp only at h1
        cases hq : sel l' (new.map Prod.fst) with
        | none => rw [hq] at h1; cases h1
        | some q => rw [hq] at h1; cases h1; rfl
    rw [hr] at h0
    simp only at h0
    cases hq : sel l' (new.map Prod.fst) with
    | none => rw [hq] at h0; cases h0
    | some q =>
      rw [hq] at h0
      cases h0
      refine runH_spec hT hs0 is hs l a listed fuel E key hφ hok hS fun a' E' => hk a' ⟨E'.nodef, E'.size, fun t v hv => E'.get t v ?_⟩
      rw [lkp_app] at hv
      cases hn : lkp new t with
      | some u => rw [hn] at hv; cases hv; exact chk_get (sel_chk hq) hn
      | none => rw [hn] at hv; rw [runH_off hn hv is hs l hr hf]; exact hv
end

/-! ### functions of two truths, handed over -/
end Go.V
