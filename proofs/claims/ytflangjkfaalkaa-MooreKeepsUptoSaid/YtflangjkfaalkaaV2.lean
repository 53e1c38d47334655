/- The runner of plain operations; control; worlds that change. -/
import Derived.Test.YtflangjkfaalkaaV1
set_option linter.all false
set_option linter.unusedVariables false
set_option linter.unnecessarySimpa false
set_option linter.unusedSimpArgs false
namespace Go.V
open Go
section
variable {P : Program} {T : List TRow} {w : World} {a : Act} {n : Nat} {l : List (Nat × Value)} {ops : Array Oper} {Q : Exit → Act → World → Prop}

def want (ops : Array Oper) (l : List (Nat × Value)) (o : Oper) : Option Bool :=
  match o.guard with
  | none => some true
  | some (j, b) =>
    match (ops[j]?).bind (·.dst) with
    | none => some false
    | some d =>
      match lkp l d with
      | some (.bool c) => some (c == b)
      | some (.tuple _) => some false
      | _ => none

theorem want_spec (E : Fr a n l) {o : Oper} {b : Bool} (h : want ops l o = some b) : Region.wanted o (yielded ops a.tmps) = b := by
  unfold want at h
  unfold Region.wanted yielded
  split at h
  · rename_i hg; rw [hg]; simpa using h
  · rename_i j c hg
    rw [hg]
    simp only
    split at h
    · rename_i hd; rw [hd]; simp at h ⊢; exact h
    · rename_i d hd
      rw [hd]
      split at h
      · rename_i c' hc
        have := E.get _ _ hc
        simp only [Option.bind_some, this]
        simp at h
        rw [← h]
        cases c <;> cases c' <;> rfl
      · rename_i hc
        have := E.get _ _ hc
        simp only [Option.bind_some, this]
        simp at h ⊢
        exact h
      · cases h

def asks : Op → Bool
  | .indexAddr _ _ _ => true
  | .slice _ _ _ _ _ => true
  | o => takes o

theorem plain_free {o : Op} {h v : Value} {φ : Prop} (ha : asks o = false) (hp : plainV T w l o h = some (v, φ)) : φ := by
  unfold plainV at hp
  split at hp
  all_goals try (simp [asks, takes] at ha; done)
  · cases hx : opv l _ with
    | none => rw [hx] at hp; cases hp
    | some u => rw [hx] at hp; cases hp; trivial
  · cases hx : opv l _ with
    | none => rw [hx] at hp; cases hp
    | some u => rw [hx] at hp; cases hp; trivial
  · rename_i c x y
    split at hp
    · cases hx : opv l x with
      | none => rw [hx] at hp; cases hp
      | some u => rw [hx] at hp; cases hp; trivial
    · cases hx : opv l y with
      | none => rw [hx] at hp; cases hp
      | some u => rw [hx] at hp; cases hp; trivial
    · cases hp
  · split at hp
    · cases hp; trivial
    · cases hp
  · rename_i op t x y yt
    split at hp
    · unfold binV at hp
      split at hp
      · cases op <;> simp [asks, takes] at ha <;> simp [cmpV] at hp <;> (try (obtain ⟨_, _, rfl⟩ := hp; trivial)) <;> (try exact hp.2.2) <;> (try exact hp.elim)
      · split at hp
        · unfold floatV at hp
          cases op <;> simp [asks, takes] at ha <;> simp [floatA, floatC] at hp <;> (try (obtain ⟨_, rfl⟩ := hp; trivial)) <;> (try exact hp.2)
        · cases hp
      · split at hp <;> cases hp <;> trivial
      · split at hp <;> cases hp <;> trivial
      · split at hp <;> cases hp <;> trivial
      · cases hp
    · cases hp
  · rename_i op t x
    split at hp
    · cases hp; trivial
    · simp [asks, takes] at ha
    · simp [asks, takes] at ha
    · cases hp
  · split at hp
    · split at hp
      · split at hp
        · cases hp; trivial
        · cases hp
      · cases hp
    · cases hp
  · rename_i x i
    split at hp
    · rename_i vs hx
      cases hv : vs[i]? with
      | none => rw [hv] at hp; cases hp
      | some u => rw [hv] at hp; cases hp; trivial
    · cases hp
  · split at hp
    · split at hp <;> cases hp <;> trivial
    · split at hp <;> cases hp <;> trivial
    · cases hp
  · cases hp

def putE (n : Nat) (l : List (Nat × Value)) (d : Option Nat) (v : Value) : Option (List (Nat × Value)) :=
  match d with
  | none => some l
  | some d => bif Nat.blt d n then some ((d, v) :: l) else none

theorem putE_spec (E : Fr a n l) {d : Option Nat} {v : Value} {l' : List (Nat × Value)} (h : putE n l d v = some l') : Fr (a.put d v) n l' := by
  unfold putE at h
  cases d with
  | none => cases h; exact E
  | some d =>
    simp only at h
    cases hb : Nat.blt d n with
    | false => rw [hb] at h; cases h
    | true => rw [hb] at h; cases h; exact E.put hb v

/-- The first k of the operations, all plain. -/
def runK (T : List TRow) (w : World) (ops : Array Oper) (n : Nat) : Nat → List Value → List Oper → List (Nat × Value) → Option (List (Nat × Value) × List Prop)
  | 0, _, _, l => some (l, [])
  | _ + 1, _, [], _ => none
  | k + 1, hs, o :: rest, l =>
    match want ops l o with
    | some true =>
      bif takes o.op then
        match hs with
        | [] => none
        | h :: hs' =>
          match plainV T w l o.op h with
          | some (v, φ) =>
            match putE n l o.dst v with
            | some l1 =>
              match runK T w ops n k hs' rest l1 with
              | some (l', ψ) => some (l', φ :: ψ)
              | none => none
            | none => none
          | none => none
      else
        match plainV T w l o.op undef with
        | some (v, φ) =>
          match putE n l o.dst v with
          | some l1 =>
            match runK T w ops n k hs rest l1 with
            | some (l', ψ) => some (l', bif asks o.op then φ :: ψ else ψ)
            | none => none
          | none => none
        | none => none
    | some false =>
      match putE n l o.dst undef with
      | some l1 => runK T w ops n k hs rest l1
      | none => none
    | none => none

def sel (l : List (Nat × Value)) : List Nat → Option (List (Nat × Value))
  | [] => some []
  | t :: r =>
    match lkp l t, sel l r with
    | some v, some q => some ((t, v) :: q)
    | _, _ => none

theorem sel_chk : ∀ {ss : List Nat} {l' : List (Nat × Value)}, sel l ss = some l' → chk l l'
  | [], l', h => by cases h; trivial
  | t :: r, l', h => by
    unfold sel at h
    split at h
    · rename_i v q hv hq
      cases h
      exact ⟨hv, sel_chk hq⟩
    · cases h

def AllP : List Prop → Prop
  | [] => True
  | [p] => p
  | p :: q :: r => p ∧ AllP (q :: r)

theorem AllP_cons {p : Prop} {r : List Prop} : AllP (p :: r) ↔ p ∧ AllP r := by
  cases r with
  | nil => simp [AllP]
  | cons q r => rfl

def runS (T : List TRow) (w : World) (ops : Array Oper) (n k : Nat) (hs : List Value) (ss : List Nat) (L : List Oper) (l : List (Nat × Value)) : Option (List (Nat × Value) × List Prop) :=
  match runK T w ops n k hs L l with
  | some (l', φ) =>
    match sel l' ss with
    | some q => some (q, φ)
    | none => none
  | none => none

theorem step_val {o : Oper} {rest : List Oper} {v : Value} {w' : World} {l' : List (Nat × Value)} (E : Fr a n l) (hw : want ops l o = some true) (hr : (execOp a.eval o).run P w = .ok (.value v) w') (hl : putE n l o.dst v = some l')
    (k : ∀ a', Fr a' n l' → wpList P ops Q rest a' w') : wpList P ops Q (o :: rest) a w := by
  refine wpList_step fun K hK => ?_
  rw [if_pos (want_spec E hw)]
  unfold Oper.wp
  rw [hr]
  exact hK _ _ (k _ (putE_spec E hl))

theorem step_skip {o : Oper} {rest : List Oper} {w' : World} {l' : List (Nat × Value)} (E : Fr a n l) (hw : want ops l o = some true) (hr : (execOp a.eval o).run P w = .ok .skip w') (hl : putE n l o.dst undef = some l')
    (k : ∀ a', Fr a' n l' → wpList P ops Q rest a' w') : wpList P ops Q (o :: rest) a w := by
  refine wpList_step fun K hK => ?_
  rw [if_pos (want_spec E hw)]
  unfold Oper.wp
  rw [hr]
  exact hK _ _ (k _ (putE_spec E hl))

theorem runK_spec (hT : TbOk P T) : ∀ (k : Nat) (hs : List Value) (L : List Oper) (l : List (Nat × Value)) (a : Act) {l' : List (Nat × Value)} {φ : List Prop}, Fr a n l → runK T w ops n k hs L l = some (l', φ) → AllP φ →
    (∀ a', Fr a' n l' → wpList P ops Q (L.drop k) a' w) → wpList P ops Q L a w
  | 0, hs, L, l, a, l', φ, E, h, _, hk => by cases h; exact hk a E
  | k + 1, hs, [], l, a, l', φ, E, h, _, hk => by cases h
  | k + 1, hs, o :: rest, l, a, l', φ, E, h, hφ, hk => by
    unfold runK at h
    split at h
    · rename_i hw
      cases ht : takes o.op with
      | true =>
        rw [ht] at h
        simp only [cond_true] at h
        split at h
        · cases h
        · rename_i hd hs'
          split at h
          · rename_i v ψ hp
            split at h
            · rename_i l1 hl1
              split at h
              · rename_i l2 χ hrec
                cases h
                rw [AllP_cons] at hφ
                exact step_val E hw (plainV_run hT (fun x u hx => E.eval hx) hp hφ.1) hl1 fun a' E' => runK_spec hT k _ rest l1 a' E' hrec hφ.2 hk
              · cases h
            · cases h
          · cases h
      | false =>
        rw [ht] at h
        simp only [cond_false] at h
        split at h
        · rename_i v ψ hp
          split at h
          · rename_i l1 hl1
            split at h
            · rename_i l2 χ hrec
              cases hq : asks o.op with
              | true =>
                rw [hq] at h
                cases h
                have hφ' := (AllP_cons (p := ψ) (r := χ)).1 hφ
                exact step_val E hw (plainV_run hT (fun x u hx => E.eval hx) hp hφ'.1) hl1 fun a' E' => runK_spec hT k _ rest l1 a' E' hrec hφ'.2 hk
              | false =>
                rw [hq] at h
                cases h
                exact step_val E hw (plainV_run hT (fun x u hx => E.eval hx) hp (plain_free hq hp)) hl1 fun a' E' => runK_spec hT k _ rest l1 a' E' hrec hφ hk
            · cases h
          · cases h
        · cases h
    · rename_i hw
      split at h
      · rename_i l1 hl1
        refine wpList_step fun K hK => ?_
        rw [if_neg (by rw [want_spec E hw]; simp)]
        exact hK _ _ (runK_spec hT k _ rest l1 _ (putE_spec E hl1) h hφ hk)
      · cases h
    · cases h

/-- k plain operations in one step. 'hs': the values that are told; 'ss': the slots that are kept; 'lp': what they hold then; 'φ': what is asked. -/
theorem vrun (hT : TbOk P T) (k : Nat) (hs : List Value) (ss : List Nat) {L : List Oper} {lp : List (Nat × Value)} {φ : List Prop} (E : Fr a n l) (h : runS T w ops n k hs ss L l = some (lp, φ)) (hφ : AllP φ)
    (hk : ∀ a', Fr a' n lp → wpList P ops Q (L.drop k) a' w) : wpList P ops Q L a w := by
  unfold runS at h
  split at h
  · rename_i l' ψ hr
    split at h
    · rename_i q hq
      cases h
      exact runK_spec hT k hs L l a E hr hφ fun a' E' => hk a' (E'.pick _ (sel_chk hq))
    · cases h
  · cases h

/-! ### control -/
theorem th_n {K : Act → World → Prop} (h : K a w) : Exit.then K Q .normal a w := h
theorem th_exit {K : Act → World → Prop} {i : Nat} (h : Q (.exit i) a w) : Exit.then K Q (.exit i) a w := h
theorem th_ret {K : Act → World → Prop} (h : Q .ret a w) : Exit.then K Q .ret a w := h
theorem bl_n {i : Nat} (h : Q .normal a w) : Exit.inBlock i Q .normal a w := h
theorem bl_ret {i : Nat} (h : Q .ret a w) : Exit.inBlock i Q .ret a w := h
theorem bl_hit {i : Nat} (h : Q .normal a w) : Exit.inBlock i Q (.exit i) a w := by simpa [Exit.inBlock] using h
theorem bl_miss {i j : Nat} (hn : Nat.beq j i = false) (h : Q (.exit j) a w) : Exit.inBlock i Q (.exit j) a w := by
  have : j ≠ i := fun e => by subst e; simp at hn
  simpa [Exit.inBlock, this] using h

theorem Fr.cases {G : Prop} {t : Nat} {b : Bool} (E : Fr a n l) (h : lkp l t = some (.bool b)) (ht : b = true → Fr a n ((t, .bool true) :: l) → G) (hf : b = false → Fr a n ((t, .bool false) :: l) → G) : G := by
  cases b with
  | true => exact ht rfl (E.same h rfl)
  | false => exact hf rfl (E.same h rfl)

theorem c_true {c : Operand} {x y : Code} (E : Fr a n l) (h : opv l c = some (.bool true)) (hk : x.wp P Q a w) : (Code.cond c x y).wp P Q a w := wp_cond_true (E.eval h) hk
theorem c_false {c : Operand} {x y : Code} (E : Fr a n l) (h : opv l c = some (.bool false)) (hk : y.wp P Q a w) : (Code.cond c x y).wp P Q a w := wp_cond_false (E.eval h) hk

/-- a loop with a number that every round lowers -/
theorem loopV {c : Code} (I : Nat → Act → World → Prop) (m : Nat) (h0 : I m a w) (round : ∀ m a w, I m a w → c.wp P (Exit.then (fun a' w' => ∃ m', m' < m ∧ I m' a' w') Q) a w) : (Code.loop c).wp P Q a w :=
  wp_loop_ghost I m h0 round

/-- what ways that meet have in common -/
theorem cutV_ {c : Code} (M : Act → World → Prop) (h1 : c.wp P (Exit.then M Q) a w) (h2 : ∀ a w, M a w → Q .normal a w) : c.wp P Q a w :=
  wp_mono h1 fun e a w q => by cases e <;> first | exact q | exact h2 _ _ q

def argEnv : List Value → Nat → List (Nat × Value)
  | [], _ => []
  | v :: r, i => (i, v) :: argEnv r (i + 1)

theorem argEnv_get : ∀ (vs : List Value) (i t : Nat) (v : Value), lkp (argEnv vs i) t = some v → i ≤ t ∧ vs[t - i]? = some v
  | [], i, t, v, h => by simp [argEnv, lkp] at h
  | u :: r, i, t, v, h => by
    unfold argEnv lkp at h
    cases hq : Nat.beq i t with
    | true =>
      have := Nat.eq_of_beq_eq_true hq
      subst this
      rw [hq] at h
      simp at h
      subst h
      simp
    | false =>
      rw [hq] at h
      obtain ⟨h1, h2⟩ := argEnv_get r (i + 1) t v h
      refine ⟨by omega, ?_⟩
      rw [show t - i = (t - (i + 1)) + 1 by omega]
      simpa using h2

/-- a call begins -/
theorem enterV {f : FuncId} {fn : Func} {c : Code} {args : Array Value} {R : Ending → World → Prop} (hf : P.funcs[f]? = some fn) (hb : fn.body = some c) (hn : fn.ntmps = n) (ha : Nat.ble args.size n = true)
    (h : ∀ a, Fr a n (argEnv args.toList 0) → c.wp P (bodyPost P fn R) a w) : Calls P f args w R := by
  refine calls_of_wp hf hb (h _ ?_)
  have ha' : args.size ≤ n := Nat.le_of_ble_eq_true ha
  refine ⟨rfl, by simp [hn]; omega, ?_⟩
  intro t v hv
  obtain ⟨h1, h2⟩ := argEnv_get _ _ _ _ hv
  simp at h2
  have hlt : t < args.size := by
    rcases Nat.lt_or_ge t args.size with h | h
    · exact h
    · rw [Array.getElem?_eq_none h] at h2; cases h2
  rw [Array.getElem?_append_left hlt]
  exact h2

/-- a call ends: one result -/
theorem ret1 {fn : Func} {R : Ending → World → Prop} {t : Nat} {v : Value} (E : Fr a n l) (hr : fn.results = #[.tmp t]) (h : lkp l t = some v) (hR : R (.returned v) w) : bodyPost P fn R .ret a w := by
  have := E.get _ _ h
  exact bodyPost_ret (v := v) (by simp [results, hr, Array.getD_eq_getD_getElem?, this]) E.nodef hR
theorem ret1n {fn : Func} {R : Ending → World → Prop} {t : Nat} {v : Value} (E : Fr a n l) (hr : fn.results = #[.tmp t]) (h : lkp l t = some v) (hR : R (.returned v) w) : bodyPost P fn R .normal a w := ret1 (w := w) E hr h hR
theorem ret2 {fn : Func} {R : Ending → World → Prop} {t s : Nat} {v u : Value} (E : Fr a n l) (hr : fn.results = #[.tmp t, .tmp s]) (h : lkp l t = some v) (h' : lkp l s = some u) (hR : R (.returned (.tuple #[v, u])) w) : bodyPost P fn R .ret a w := by
  have := E.get _ _ h
  have h2 := E.get _ _ h'
  exact bodyPost_ret (v := .tuple #[v, u]) (by simp [results, hr, Array.getD_eq_getD_getElem?, this, h2]) E.nodef hR
theorem ret3 {fn : Func} {R : Ending → World → Prop} {t s q : Nat} {v u x : Value} (E : Fr a n l) (hr : fn.results = #[.tmp t, .tmp s, .tmp q]) (h : lkp l t = some v) (h' : lkp l s = some u) (h3 : lkp l q = some x) (hR : R (.returned (.tuple #[v, u, x])) w) : bodyPost P fn R .ret a w := by
  have := E.get _ _ h
  have h2 := E.get _ _ h'
  have h4 := E.get _ _ h3
  exact bodyPost_ret (v := .tuple #[v, u, x]) (by simp [results, hr, Array.getD_eq_getD_getElem?, this, h2, h4]) E.nodef hR
theorem ret4 {fn : Func} {R : Ending → World → Prop} {t s q p : Nat} {v u x y : Value} (E : Fr a n l) (hr : fn.results = #[.tmp t, .tmp s, .tmp q, .tmp p]) (h : lkp l t = some v) (h' : lkp l s = some u) (h3 : lkp l q = some x) (h5 : lkp l p = some y)
    (hR : R (.returned (.tuple #[v, u, x, y])) w) : bodyPost P fn R .ret a w := by
  have := E.get _ _ h
  have h2 := E.get _ _ h'
  have h4 := E.get _ _ h3
  have h6 := E.get _ _ h5
  exact bodyPost_ret (v := .tuple #[v, u, x, y]) (by simp [results, hr, Array.getD_eq_getD_getElem?, this, h2, h4, h6]) E.nodef hR
end
theorem not_t {b : Bool} (h : (!b) = true) : b = false := by cases b <;> simp_all
theorem not_f {b : Bool} (h : (!b) = false) : b = true := by cases b <;> simp_all
theorem ibeq (x y : Int) : (x == y) = decide (x = y) := rfl
theorem ibne (x y : Int) : (x != y) = !decide (x = y) := rfl
end Go.V
