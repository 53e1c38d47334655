/- Regions that draw their order. -/
import Derived.Test.YtflangjkfaalkaaV6
import Derived.OrdersHeld
import Derived.Deep.RegionHeld3
set_option linter.all false
set_option linter.unusedVariables false
set_option linter.unnecessarySimpa false
set_option linter.unusedSimpArgs false
namespace Go.V
open Go Go.RowKit
section
variable {P : Program} {T : List TRow} {w : World} {a : Act} {n : Nat} {l : List (Nat × Value)} {ops : Array Oper} {Q : Exit → Act → World → Prop} {S : World → Prop}

theorem dr_start {id : Nat} (hm : P.follows .mixedOrders = true) (h : ∀ wr, Ext w wr → wpAnyH P .any ops (NoPanic Q) S ops.size (Array.replicate ops.size false) a wr) : (Code.region id ops true).wp P Q a w :=
  wp_region_noPanic (wp_region_held (S := S) hm (h _ (Chg.drew w No)))

theorem dr_done {listed : Array Bool} {fuel : Nat} (hr : Region.ready .any ops listed = []) (h : Q .normal a w) : wpAnyH P .any ops (NoPanic Q) S fuel listed a w :=
  wpAnyH_done hr (NoPanic.normal h) _

theorem wpOp_of_list {K : Act → World → Prop} {i : Nat} {o : Oper} (ho : ops[i]? = some o) (h : wpList P ops (Exit.then K Q) [o] a w) : wpOp P ops Q i K a w := by
  unfold wpOp
  simp only [ho]
  unfold wpList at h
  split
  · rename_i hw
    rw [if_pos hw] at h
    rcases h with h | ⟨h1, h2⟩
    · refine .inl ?_
      unfold Oper.wp at h ⊢
      generalize (execOp a.eval o).run P w = r at h ⊢
      cases r with
      | ok x w' =>
        cases x <;> simp only [Oper.upon] at h ⊢
        all_goals first
          | exact h
          | (refine h.mono ?_
             intro e w'' he
             cases e <;> first | exact he | (obtain ⟨a', w3, hq⟩ := he; exact ⟨a', w3, hq⟩))
      | halt x w' => cases x <;> simp only [Oper.upon] at h ⊢ <;> exact h
    · exact .inr ⟨h1, by obtain ⟨a', w3, hq⟩ := h2; exact ⟨a', w3, hq⟩⟩
  · rename_i hw
    rw [if_neg hw] at h
    exact h

/-- plain operations, in this order -/
def runH (T : List TRow) (w : World) (ops : Array Oper) (n : Nat) : List Nat → List Value → List (Nat × Value) → Option (List (Nat × Value) × List Prop)
  | [], _, l => some (l, [])
  | i :: is, hs, l =>
    match ops[i]? with
    | none => none
    | some o =>
      match want ops l o with
      | some true =>
        bif takes o.op then
          match hs with
          | [] => none
          | h :: hs' =>
            match plainV T w l o.op h with
            | some (v, φ) =>
              match putE n l o.dst v with
              | some l1 =>
                match runH T w ops n is hs' l1 with
                | some (l', ψ) => some (l', φ :: ψ)
                | none => none
              | none => none
            | none => none
        else
          match plainV T w l o.op undef with
          | some (v, φ) =>
            match putE n l o.dst v with
            | some l1 =>
              match runH T w ops n is hs l1 with
              | some (l', ψ) => some (l', bif asks o.op then φ :: ψ else ψ)
              | none => none
            | none => none
          | none => none
      | some false =>
        match putE n l o.dst undef with
        | some l1 => runH T w ops n is hs l1
        | none => none
      | none => none

def okOrder (ops : Array Oper) : List Nat → Array Bool → Bool
  | [], _ => true
  | i :: is, listed => Region.free .any ops listed i && (Region.ready .any ops listed).contains i && okOrder ops is (listed.setIfInBounds i true)

def listAll : List Nat → Array Bool → Array Bool
  | [], listed => listed
  | i :: is, listed => listAll is (listed.setIfInBounds i true)

/-- what one operation yields in every world of the class -/
theorem plain_yields {o : Oper} {h v : Value} (E : Fr a n l) (hT : TbOk P T) (hw : want ops l o = some true) (hp : ∀ w', S w' → ∃ φ, plainV T w' l o.op h = some (v, φ) ∧ φ) : YieldsIf P ops S o v a :=
  .inl ⟨want_spec E hw, fun w' hS => by obtain ⟨φ, h1, h2⟩ := hp w' hS; exact plainV_run hT (fun x u hx => E.eval hx) h1 h2⟩

theorem plainV_val {w1 w2 : World} {o : Op} {h v1 v2 : Value} {φ1 φ2 : Prop} (h1 : plainV T w1 l o h = some (v1, φ1)) (h2 : plainV T w2 l o h = some (v2, φ2)) : v1 = v2 := by
  cases o
  case load t x =>
    unfold plainV at h1 h2
    simp only at h1 h2
    split at h1
    · rename_i b o r hx hr
      rw [hx, hr] at h2
      simp only at h2
      cases hg : isAggD r.d with
      | true =>
        rw [hg] at h1 h2
        simp only [cond_true] at h1 h2
        split at h1
        · simp only at h2
          rename_i cs
          cases hq : Nat.beq cs.size r.sz with
          | true => rw [hq] at h1 h2; cases h1; cases h2; rfl
          | false => rw [hq] at h1; cases h1
        · cases h1
      | false => rw [hg] at h1 h2; cases h1; cases h2; rfl
    · cases h1
  case slice t x lo hi mx =>
    cases mx with
    | none =>
      have e : plainV T w1 l (.slice t x lo hi none) h = plainV T w2 l (.slice t x lo hi none) h := rfl
      rw [e, h2] at h1; cases h1; rfl
    | some m => simp [plainV] at h1
  all_goals
    have e := h1.symm.trans (show _ = some (v2, φ2) from h2)
    cases e
    rfl

theorem runH_val {w1 w2 : World} : ∀ (is : List Nat) (hs : List Value) (l : List (Nat × Value)) {l1 l2 : List (Nat × Value)} {φ1 φ2 : List Prop}, runH T w1 ops n is hs l = some (l1, φ1) → runH T w2 ops n is hs l = some (l2, φ2) → l1 = l2
  | [], hs, l, l1, l2, φ1, φ2, h1, h2 => by cases h1; cases h2; rfl
  | i :: is, hs, l, l1, l2, φ1, φ2, h1, h2 => by
    unfold runH at h1 h2
    cases ho : ops[i]? with
    | none => rw [ho] at h1; cases h1
    | some o =>
      rw [ho] at h1 h2
      simp only at h1 h2
      cases hw : want ops l o with
      | none => rw [hw] at h1; cases h1
      | some b =>
        rw [hw] at h1 h2
        cases b with
        | false =>
          simp only at h1 h2
          cases hl1 : putE n l o.dst undef with
          | none => rw [hl1] at h1; cases h1
          | some q => rw [hl1] at h1 h2; exact runH_val is hs q h1 h2
        | true =>
          simp only at h1 h2
          cases ht : takes o.op with
          | true =>
            rw [ht] at h1 h2
            simp only [cond_true] at h1 h2
            cases hs with
            | nil => cases h1
            | cons hd hs' =>
              simp only at h1 h2
              cases hp : plainV T w1 l o.op hd with
              | none => rw [hp] at h1; cases h1
              | some r =>
                cases hp2 : plainV T w2 l o.op hd with
                | none => rw [hp2] at h2; cases h2
                | some r2 =>
                  obtain ⟨v, ψ⟩ := r
                  obtain ⟨v', ψ'⟩ := r2
                  obtain rfl := plainV_val hp hp2
                  rw [hp] at h1
                  rw [hp2] at h2
                  simp only at h1 h2
                  cases hl1 : putE n l o.dst v with
                  | none => rw [hl1] at h1; cases h1
                  | some q =>
                    rw [hl1] at h1 h2
                    simp only at h1 h2
                    cases hr1 : runH T w1 ops n is hs' q with
                    | none => rw [hr1] at h1; cases h1
                    | some u1 =>
                      cases hr2 : runH T w2 ops n is hs' q with
                      | none => rw [hr2] at h2; cases h2
                      | some u2 =>
                        rw [hr1] at h1
                        rw [hr2] at h2
                        cases h1
                        cases h2
                        exact runH_val is hs' q hr1 hr2
          | false =>
            rw [ht] at h1 h2
            simp only [cond_false] at h1 h2
            cases hp : plainV T w1 l o.op undef with
            | none => rw [hp] at h1; cases h1
            | some r =>
              cases hp2 : plainV T w2 l o.op undef with
              | none => rw [hp2] at h2; cases h2
              | some r2 =>
                obtain ⟨v, ψ⟩ := r
                obtain ⟨v', ψ'⟩ := r2
                obtain rfl := plainV_val hp hp2
                rw [hp] at h1
                rw [hp2] at h2
                simp only at h1 h2
                cases hl1 : putE n l o.dst v with
                | none => rw [hl1] at h1; cases h1
                | some q =>
                  rw [hl1] at h1 h2
                  simp only at h1 h2
                  cases hr1 : runH T w1 ops n is hs q with
                  | none => rw [hr1] at h1; cases h1
                  | some u1 =>
                    cases hr2 : runH T w2 ops n is hs q with
                    | none => rw [hr2] at h2; cases h2
                    | some u2 =>
                      rw [hr1] at h1
                      rw [hr2] at h2
                      cases h1
                      cases h2
                      exact runH_val is hs q hr1 hr2

theorem runH_spec (hT : TbOk P T) (hs0 : Region.noSelect ops = true) : ∀ (is : List Nat) (hs : List Value) (l : List (Nat × Value)) (a : Act) (listed : Array Bool) (fuel : Nat) {l' : List (Nat × Value)} {φ : World → List Prop}, Fr a n l →
    (∀ w', S w' → runH T w' ops n is hs l = some (l', φ w')) → (∀ w', S w' → AllP (φ w')) → okOrder ops is listed = true → S w →
    (∀ a', Fr a' n l' → wpAnyH P .any ops (NoPanic Q) S fuel (listAll is listed) a' w) → wpAnyH P .any ops (NoPanic Q) S (fuel + is.length) listed a w
  | [], hs, l, a, listed, fuel, l', φ, E, h, _, _, hS, hk => by
    have := h w hS
    simp only [runH, Option.some.injEq, Prod.mk.injEq] at this
    obtain ⟨rfl, _⟩ := this
    exact hk a E
  | i :: is, hs, l, a, listed, fuel, l', φ, E, h, hφ, hok, hS, hk => by
    unfold okOrder at hok
    simp only [Bool.and_eq_true] at hok
    obtain ⟨⟨hf, hr⟩, hok⟩ := hok
    have h0 := h w hS
    unfold runH at h0
    cases ho : ops[i]? with
    | none => rw [ho] at h0; cases h0
    | some o =>
      rw [ho] at h0
      simp only at h0
      have step : ∀ (hs' : List Value) (v : Value) (l1 : List (Nat × Value)) (ψ : World → List Prop), putE n l o.dst v = some l1 → YieldsIf P ops S o v a → (∀ w', S w' → runH T w' ops n is hs' l1 = some (l', ψ w')) → (∀ w', S w' → AllP (ψ w')) →
          wpAnyH P .any ops (NoPanic Q) S (fuel + (i :: is).length) listed a w := by
        intro hs' v l1 ψ hl1 hy hrec hψ
        have := runH_spec hT hs0 is hs' l1 (a.put o.dst v) (listed.setIfInBounds i true) fuel (putE_spec E hl1) hrec hψ hok hS hk
        refine wpAnyH_take (fuel := fuel + is.length) ho hs0 hf hr (fun _ _ _ h => h) hy hS this
      cases hw : want ops l o with
      | none => rw [hw] at h0; cases h0
      | some b =>
        rw [hw] at h0
        cases b with
        | false =>
          simp only at h0
          cases hl1 : putE n l o.dst undef with
          | none => rw [hl1] at h0; cases h0
          | some l1 =>
            refine step hs undef l1 φ hl1 (.inr ⟨want_spec E hw, rfl⟩) (fun w' hS' => ?_) hφ
            have := h w' hS'
            unfold runH at this
            simpa only [ho, hw, hl1] using this
        | true =>
          simp only at h0
          cases ht : takes o.op with
          | true =>
            rw [ht] at h0
            simp only [cond_true] at h0
            cases hs with
            | nil => cases h0
            | cons hd hs' =>
              simp only at h0
              cases hp : plainV T w l o.op hd with
              | none => rw [hp] at h0; cases h0
              | some q =>
                obtain ⟨v, φ0⟩ := q
                rw [hp] at h0
                simp only at h0
                cases hl1 : putE n l o.dst v with
                | none => rw [hl1] at h0; cases h0
                | some l1 =>
                  have key : ∀ w', S w' → ∃ φ1 ψ, plainV T w' l o.op hd = some (v, φ1) ∧ runH T w' ops n is hs' l1 = some (l', ψ) ∧ φ w' = φ1 :: ψ := by
                    intro w' hS'
                    have := h w' hS'
                    unfold runH at this
                    simp only [ho, hw, ht, cond_true] at this
                    cases hp' : plainV T w' l o.op hd with
                    | none => rw [hp'] at this; cases this
                    | some q' =>
                      obtain ⟨v', φ'⟩ := q'
                      obtain rfl := plainV_val hp hp'
                      rw [hp'] at this
                      simp only [hl1] at this
                      cases hrr : runH T w' ops n is hs' l1 with
                      | none => rw [hrr] at this; cases this
                      | some r' =>
                        obtain ⟨l2, ψ⟩ := r'
                        rw [hrr] at this
                        simp only [Option.some.injEq, Prod.mk.injEq] at this
                        obtain ⟨rfl, e⟩ := this
                        exact ⟨φ', ψ, rfl, rfl, e.symm⟩
                  refine step hs' v l1 (fun w' => (φ w').tail) hl1 (plain_yields (h := hd) E hT hw fun w' hS' => ?_) (fun w' hS' => ?_) (fun w' hS' => ?_)
                  · obtain ⟨φ1, ψ, k1, k2, k3⟩ := key w' hS'
                    have := hφ w' hS'
                    rw [k3, AllP_cons] at this
                    exact ⟨φ1, k1, this.1⟩
                  · obtain ⟨φ1, ψ, k1, k2, k3⟩ := key w' hS'
                    rw [k2, k3]
                    rfl
                  · obtain ⟨φ1, ψ, k1, k2, k3⟩ := key w' hS'
                    have := hφ w' hS'
                    rw [k3, AllP_cons] at this
                    rw [k3]
                    exact this.2
          | false =>
            rw [ht] at h0
            simp only [cond_false] at h0
            cases hp : plainV T w l o.op undef with
            | none => rw [hp] at h0; cases h0
            | some q =>
              obtain ⟨v, φ0⟩ := q
              rw [hp] at h0
              simp only at h0
              cases hl1 : putE n l o.dst v with
              | none => rw [hl1] at h0; cases h0
              | some l1 =>
                have key : ∀ w', S w' → ∃ φ1 ψ, plainV T w' l o.op undef = some (v, φ1) ∧ runH T w' ops n is hs l1 = some (l', ψ) ∧ φ w' = bif asks o.op then φ1 :: ψ else ψ := by
                  intro w' hS'
                  have := h w' hS'
                  unfold runH at this
                  simp only [ho, hw, ht, cond_false] at this
                  cases hp' : plainV T w' l o.op undef with
                  | none => rw [hp'] at this; cases this
                  | some q' =>
                    obtain ⟨v', φ'⟩ := q'
                    obtain rfl := plainV_val hp hp'
                    rw [hp'] at this
                    simp only [hl1] at this
                    cases hrr : runH T w' ops n is hs l1 with
                    | none => rw [hrr] at this; cases this
                    | some r' =>
                      obtain ⟨l2, ψ⟩ := r'
                      rw [hrr] at this
                      simp only [Option.some.injEq, Prod.mk.injEq] at this
                      obtain ⟨rfl, e⟩ := this
                      exact ⟨φ', ψ, rfl, rfl, e.symm⟩
                cases hq : asks o.op with
                | true =>
                  refine step hs v l1 (fun w' => (φ w').tail) hl1 (plain_yields (h := undef) E hT hw fun w' hS' => ?_) (fun w' hS' => ?_) (fun w' hS' => ?_)
                  · obtain ⟨φ1, ψ, k1, k2, k3⟩ := key w' hS'
                    have := hφ w' hS'
                    rw [k3, hq, cond_true, AllP_cons] at this
                    exact ⟨φ1, k1, this.1⟩
                  · obtain ⟨φ1, ψ, k1, k2, k3⟩ := key w' hS'
                    rw [k2, k3, hq]
                    rfl
                  · obtain ⟨φ1, ψ, k1, k2, k3⟩ := key w' hS'
                    have := hφ w' hS'
                    rw [k3, hq, cond_true, AllP_cons] at this
                    rw [k3, hq]
                    exact this.2
                | false =>
                  refine step hs v l1 φ hl1 (plain_yields (h := undef) E hT hw fun w' hS' => ?_) (fun w' hS' => ?_) hφ
                  · obtain ⟨φ1, ψ, k1, k2, k3⟩ := key w' hS'
                    exact ⟨φ1, k1, plain_free hq k1⟩
                  · obtain ⟨φ1, ψ, k1, k2, k3⟩ := key w' hS'
                    rw [k2, k3, hq]
                    rfl

def runHS (T : List TRow) (w : World) (ops : Array Oper) (n : Nat) (is : List Nat) (hs : List Value) (ss : List Nat) (l : List (Nat × Value)) : Option (List (Nat × Value) × List Prop) :=
  match runH T w ops n is hs l with
  | some (l', φ) =>
    match sel l' ss with
    | some q => some (q, φ)
    | none => none
  | none => none

theorem drun (hT : TbOk P T) (hs0 : Region.noSelect ops = true) (is : List Nat) (hs : List Value) (ss : List Nat) {lp : List (Nat × Value)} (φ : World → List Prop) {fuel : Nat} {listed : Array Bool} (E : Fr a n l)
    (h : ∀ w', S w' → runHS T w' ops n is hs ss l = some (lp, φ w')) (hφ : ∀ w', S w' → AllP (φ w')) (hok : okOrder ops is listed = true) (hS : S w)
    (hk : ∀ a', Fr a' n lp → wpAnyH P .any ops (NoPanic Q) S fuel (listAll is listed) a' w) : wpAnyH P .any ops (NoPanic Q) S (fuel + is.length) listed a w := by
  have h0 := h w hS
  unfold runHS at h0
  cases hr : runH T w ops n is hs l with
  | none => rw [hr] at h0; cases h0
  | some r =>
    obtain ⟨l', ψ0⟩ := r
    have key : ∀ w', S w' → runH T w' ops n is hs l = some (l', φ w') := by
      intro w' hS'
      have h1 := h w' hS'
      unfold runHS at h1
      cases hr' : runH T w' ops n is hs l with
      | none => rw [hr'] at h1; cases h1
      | some r' =>
        obtain ⟨l2, ψ2⟩ := r'
        obtain rfl := runH_val is hs l hr hr'
        rw [hr'] at h1
        simp only at h1
        cases hq : sel l' ss with
        | none => rw [hq] at h1; cases h1
        | some q => rw [hq] at h1; cases h1; rfl
    refine runH_spec hT hs0 is hs l a listed fuel E key hφ hok hS fun a' E' => hk a' (E'.pick _ (sel_chk (ss := ss) ?_))
    rw [hr] at h0
    simp only at h0
    cases hq : sel l' ss with
    | none => rw [hq] at h0; cases h0
    | some q => rw [hq] at h0; cases h0; rfl

theorem all1 {p : Nat → Prop} {i : Nat} (h : p i) : ∀ k ∈ [i], p k := fun k hk => by simp at hk; subst hk; exact h
theorem all2 {p : Nat → Prop} {i j : Nat} (h : p i) (h2 : p j) : ∀ k ∈ [i, j], p k := fun k hk => by
  simp at hk
  rcases hk with rfl | rfl
  · exact h
  · exact h2
theorem all3 {p : Nat → Prop} {i j m : Nat} (h : p i) (h2 : p j) (h3 : p m) : ∀ k ∈ [i, j, m], p k := fun k hk => by
  simp at hk
  rcases hk with rfl | rfl | rfl
  · exact h
  · exact h2
  · exact h3
theorem ro_side {B g : Nat} (h : B ≤ g) : ∀ b, Lo B b → ¬ (b = g) := fun b hb e => by unfold Lo at hb; omega

/-- '==' and '!=' of structs or arrays -/
theorem e_eqS {op : BinOp} {t ty : TypeId} {x y : Operand} {xs ys : Array Value} {b : Bool} {o : Oper} {rest : List Oper} {l' : List (Nat × Value)} (E : Fr a n l) (ho : o.op = .binOp op t x y ty) (hw : want ops l o = some true) (hx : opv l x = some (.agg xs)) (hy : opv l y = some (.agg ys))
    (hg : P.eqGuardType P.depth t = false) (he : (Op.equal t (.agg xs) (.agg ys)).run P w = .ok b w) (r : Bool) (hop : (op = .eql ∧ r = b) ∨ (op = .neq ∧ r = !b)) (hl : putE n l o.dst (.bool r) = some l')
    (k : ∀ a', Fr a' n l' → wpList P ops Q rest a' w) : wpList P ops Q (o :: rest) a w := by
  refine step_val E hw ?_ hl k
  rcases hop with ⟨rfl, rfl⟩ | ⟨rfl, rfl⟩
  · have h1 : (eqGuard .eql t x y (.agg xs) (.agg ys)).run P w = .ok () w := by simp [eqGuard, hg, Result.andThen]
    simp [execOp, ho, E.eval hx, E.eval hy, h1, binOp, he, Result.andThen]
  · have h1 : (eqGuard .neq t x y (.agg xs) (.agg ys)).run P w = .ok () w := by simp [eqGuard, hg, Result.andThen]
    simp [execOp, ho, E.eval hx, E.eval hy, h1, binOp, he, Result.andThen]

/-- what a function's results are at its end -/
def resV (P : Program) (w : World) (l : List (Nat × Value)) : List ResultVar → List Value → Prop
  | [], [] => True
  | .tmp t :: r, v :: vs => lkp l t = some v ∧ resV P w l r vs
  | .cell t ty :: r, v :: vs => (∃ ad, lkp l t = some (.pointer (some ad)) ∧ (loadVar ty ad).run P w = .ok v w) ∧ resV P w l r vs
  | _, _ => False

def resF (a : Act) : ResultVar → Sem Value
  | .tmp t => pure (a.tmps.getD t undef)
  | .cell a' t => do loadVar t (← asAddr (a.tmps.getD a' undef))

theorem run_resV (E : Fr a n l) : ∀ (rs : List ResultVar) (vs : List Value), resV P w l rs vs → (rs.mapM (resF a)).run P w = .ok vs w
  | [], [], _ => by simp
  | .tmp t :: r, v :: vs, ⟨h1, h2⟩ => by
    have h3 : a.tmps.getD t undef = v := by simp [Array.getD_eq_getD_getElem?, E.get _ _ h1]
    rw [List.mapM_cons]
    simp only [resF, Sem.run_bind, Sem.run_pure, Result.andThen_ok, run_resV E r vs h2, h3]
  | .cell t ty :: r, v :: vs, ⟨⟨ad, h0, h1⟩, h2⟩ => by
    have h3 : a.tmps.getD t undef = .pointer (some ad) := by simp [Array.getD_eq_getD_getElem?, E.get _ _ h0]
    have h4 : (asAddr (.pointer (some ad))).run P w = .ok ad w := rfl
    rw [List.mapM_cons]
    simp only [resF, Sem.run_bind, Sem.run_pure, Result.andThen_ok, run_resV E r vs h2, h3, h4, h1]
  | [], _ :: _, h => h.elim
  | .tmp _ :: _, [], h => h.elim
  | .cell _ _ :: _, [], h => h.elim

def pack : List Value → Value
  | [v] => v
  | vs => .tuple vs.toArray

theorem retV {fn : Func} {R : Ending → World → Prop} {e : Exit} (E : Fr a n l) (rs : List ResultVar) (vs : List Value) (hr : fn.results = rs.toArray) (h : resV P w l rs vs) (he : e = .ret ∨ e = .normal) (hR : R (.returned (pack vs)) w) : bodyPost P fn R e a w := by
  have hrun : (results fn a.tmps).run P w = .ok (pack vs) w := by
    have key : ∀ f : ResultVar → Sem Value, (∀ x, f x = resF a x) → (do let q ← (rs.toArray).mapM f; pure (if h : q.size = 1 then q[0] else .tuple q) : Sem Value).run P w = .ok (pack vs) w := by
      intro f hf
      obtain rfl : f = resF a := funext hf
      rw [Array.mapM_eq_mapM_toList, map_eq_pure_bind, List.toList_toArray]
      have := run_resV E rs vs h
      rw [Sem.run_bind, Sem.run_bind, this]
      simp only [Result.andThen_ok, Sem.run_pure]
      match vs with
      | [] => simp [pack]
      | [v] => simp [pack]
      | v :: u :: r => simp [pack]
    unfold results
    rw [hr]
    exact key _ (fun x => by cases x <;> rfl)
  rcases he with rfl | rfl
  · exact bodyPost_ret hrun E.nodef hR
  · exact bodyPost_end hrun E.nodef hR

theorem run_loadBx {T : List TRow} {g s : Nat} {tt ty : TypeId} {cs vs : List Value} {d : TypeDesc} (hT : TbOk P T) (hB : Bx w g tt cs) (hs : tsz T ty = some s) (hd : tdesc T ty = some d) (ha : isAggD d = true) (o : Nat) (e : (cs.drop o).take s = vs) (hl : Nat.beq vs.length s = true) :
    (loadVar ty ⟨g, o, none⟩).run P w = .ok (.agg vs.toArray) w := by
  have hl' := Nat.eq_of_beq_eq_true hl
  have hu := tdesc_row hT hd
  have hag : (isAgg ty).run P w = .ok true w := by
    unfold isAgg
    simp [run_underlying hu, Result.andThen]
    unfold isAggD at ha
    split at ha <;> simp_all
  have hc := hB.sub o vs (by rw [hl']; exact e)
  have hld := run_loadCells_list (P := P) (w := w) ⟨g, o, none⟩ vs (fun j u hj => by rw [add_none]; exact hc.get j u hj)
  have hz := run_sizeOf' (w := w) hT hs
  unfold loadVar
  simp only [Sem.run_bind, hag, Result.andThen_ok, if_true, hz, ← hl', hld, Sem.run_pure]
end
end Go.V
