/- A drawn region whose tail comes in one order; bytes as a string. -/
import Derived.Test.YtflangjkfaalkaaVX
import Derived.StillTail
import Derived.Laws.BytesArg
set_option linter.all false
set_option linter.unusedVariables false
set_option linter.unnecessarySimpa false
set_option linter.unusedSimpArgs false
namespace Go.V
open Go Go.Proofs
section
variable {P : Program} {ops : Array Oper} {Q : Exit → Act → World → Prop} {M : Act → World → Prop} {S : World → Prop} {nA : Nat}

def headQ (M : Act → World → Prop) (Q : Exit → Act → World → Prop) : Exit → Act → World → Prop
  | .normal, a, w => M a w
  | e, a, w => Q e a w

/-- the head is ops below nA; lA: what of it is done already. Each other one of it is waited for on the way to the first of the tail; each of the tail waits for the one ahead of it. -/
def headOk (ops : Array Oper) (nA : Nat) (lA : Array Bool) : Bool :=
  decide (nA < ops.size) && (decide (lA.size = nA) && ((List.range ops.size).all fun t => match ops[t]? with
    | none => false
    | some o => bif decide (t < nA) then (o.after.all (fun e => !Region.binds .any e || (decide (e.on < t) && (!lA.getD t false || lA.getD e.on false)))) && ((match o.guard with | none => true | some (j, _) => decide (j < nA)) && (lA.getD t false || (List.range (nA + 1)).any fun j => decide (t < j) && Region.waitsFor .any ops j t)) else decide (t = nA) || Region.waitsFor .any ops t (t - 1)))

variable {lA : Array Bool}
theorem headOk_sz (h : headOk ops nA lA = true) : nA < ops.size ∧ lA.size = nA := by
  unfold headOk at h
  simp only [Bool.and_eq_true, decide_eq_true_eq] at h
  exact ⟨h.1, h.2.1⟩
theorem headOk_lo (h : headOk ops nA lA = true) {t : Nat} {o : Oper} (ht : t < nA) (ho : ops[t]? = some o) : (∀ e ∈ o.after, Region.binds .any e = true → e.on < t ∧ (lA.getD t false = true → lA.getD e.on false = true)) ∧ (match o.guard with | none => True | some (j, _) => j < nA) ∧ (lA.getD t false = true ∨ ∃ j, t < j ∧ j ≤ nA ∧ Region.waitsFor .any ops j t = true) := by
  have hs := (headOk_sz h).1
  unfold headOk at h
  simp only [Bool.and_eq_true, decide_eq_true_eq, List.all_eq_true, List.mem_range] at h
  have h1 := h.2.2 t (by omega)
  rw [ho] at h1
  simp only [ht, decide_true, cond_true, Bool.and_eq_true, Bool.or_eq_true] at h1
  refine ⟨fun e he hb => ?_, ?_, ?_⟩
  · have := Array.all_eq_true_iff_forall_mem.1 h1.1 e he
    simp only [hb, Bool.not_true, Bool.false_or, Bool.and_eq_true, decide_eq_true_eq, Bool.or_eq_true, Bool.not_eq_true'] at this
    refine ⟨this.1, fun h2 => this.2.resolve_left (by rw [h2]; simp)⟩
  · have := h1.2.1
    split at this <;> simp_all
  · refine h1.2.2.imp id fun h2 => ?_
    obtain ⟨j, hj, h3⟩ := List.any_eq_true.1 h2
    simp only [Bool.and_eq_true, decide_eq_true_eq, List.mem_range] at h3 hj
    exact ⟨j, h3.1, by omega, h3.2⟩
theorem headOk_hi (h : headOk ops nA lA = true) {t : Nat} (ht : nA < t) (hs : t < ops.size) : Region.waitsFor .any ops t (t - 1) = true := by
  unfold headOk at h
  simp only [Bool.and_eq_true, decide_eq_true_eq, List.all_eq_true, List.mem_range] at h
  have h1 := h.2.2 t hs
  rw [Array.getElem?_eq_getElem hs] at h1
  simp only [show ¬ t < nA by omega, decide_false, cond_false, Bool.or_eq_true, decide_eq_true_eq] at h1
  exact h1.resolve_left (by omega)

theorem extract_get {i : Nat} (hi : i < nA) (hs : nA ≤ ops.size) : (ops.extract 0 nA)[i]? = ops[i]? := by
  rw [Array.getElem?_extract]
  simp
  omega

theorem wpOp_head {i : Nat} (hok : headOk ops nA lA = true) (hi : i < nA) {K K' : Act → World → Prop} (hK : ∀ a w, K a w → K' a w) {a : Act} {w : World} (h : wpOp P (ops.extract 0 nA) (NoPanic (headQ M Q)) i K a w) : wpOp P ops Q i K' a w := by
  have hs : nA ≤ ops.size := Nat.le_of_lt (headOk_sz hok).1
  unfold wpOp at *
  rw [extract_get hi hs] at h
  cases ho : ops[i]? with
  | none => rw [ho] at h; exact hK _ _ h
  | some o =>
    rw [ho] at h
    simp only at h ⊢
    have hg := (headOk_lo hok hi ho).2.1
    have hwant : Region.wanted o (yielded (ops.extract 0 nA) a.tmps) = Region.wanted o (yielded ops a.tmps) := by
      unfold Region.wanted
      split at hg
      · rename_i h1; rw [h1]
      · rename_i j b h1
        rw [h1]
        simp only
        unfold yielded
        rw [extract_get hg hs]
    rw [hwant] at h
    split at h
    · rename_i hw
      rw [if_pos hw]
      have hlet : LetsOut (NoPanic (headQ M Q)) → LetsOut Q := fun ⟨a, w, h⟩ => ⟨a, w, h⟩
      rcases h with h | ⟨h1, h2⟩
      · refine .inl ?_
        unfold Oper.wp at h ⊢
        generalize (execOp a.eval o).run P w = r at h ⊢
        cases r with
        | ok x w' =>
          cases x <;> simp only [Oper.upon] at h ⊢
          case value => exact hK _ _ h
          case skip => exact hK _ _ h
          case defer => exact hK _ _ h
          case enter =>
            refine h.mono ?_
            intro e w'' he
            cases e with
            | returned => exact hK _ _ he
            | panicked => exact (he : False).elim
            | outgrown => exact hlet he
          case row => exact Rows.mono h fun _ _ he => hK _ _ he
        | halt x w' =>
          cases x <;> simp only [Oper.upon] at h ⊢
          case panic => exact (h : False).elim
      · exact .inr ⟨h1, hlet h2⟩
    · rename_i hw
      rw [if_neg hw]
      exact hK _ _ h

def cntF (l : Array Bool) : Nat := (l.toList.filter (!·)).length

theorem cntF_set {l : Array Bool} {i : Nat} (h : l.getD i true = false) : cntF (l.setIfInBounds i true) + 1 = cntF l := by
  have hlt : i < l.size := by
    rcases Nat.lt_or_ge i l.size with h' | h'
    · exact h'
    · simp [Array.getElem?_eq_none h'] at h
  have hv : l.toList[i]? = some false := by
    simp [hlt] at h ⊢
    exact h
  unfold cntF
  rw [Array.toList_setIfInBounds]
  generalize l.toList = L at hv
  clear h hlt
  induction L generalizing i with
  | nil => simp at hv
  | cons b L ih =>
    cases i with
    | zero =>
      simp at hv
      subst hv
      simp
    | succ i =>
      simp at hv
      have := ih hv
      rw [List.set_cons_succ]
      cases b <;> simp_all

theorem cntF_zero {l : Array Bool} (h : cntF l = 0) : l = Array.replicate l.size true := by
  apply Array.ext'
  rw [Array.toList_replicate]
  unfold cntF at h
  rw [List.length_eq_zero_iff, List.filter_eq_nil_iff] at h
  refine List.eq_replicate_iff.2 ⟨by simp, fun b hb => ?_⟩
  have := h b hb
  cases b <;> simp_all

theorem cntF_pos {l : Array Bool} (h : cntF l ≠ 0) : ∃ i, i < l.size ∧ l.getD i true = false ∧ ∀ j, j < i → l.getD j false = true := by
  have hex : ∃ i, l.getD i true = false := by
    refine Classical.byContradiction fun hn => h ?_
    unfold cntF
    rw [List.length_eq_zero_iff, List.filter_eq_nil_iff]
    intro b hb
    obtain ⟨i, hi, rfl⟩ := List.mem_iff_getElem.1 hb
    intro hc
    refine hn ⟨i, ?_⟩
    have hi' : i < l.size := by simpa using hi
    simp [hi'] at hc ⊢
    exact hc
  obtain ⟨i, hi, hmin⟩ : ∃ i, l.getD i true = false ∧ ∀ j, j < i → ¬ l.getD j true = false := by
    obtain ⟨i, hi⟩ := hex
    induction i using Nat.strongRecOn with
    | _ i ih =>
      by_cases hc : ∃ j, j < i ∧ l.getD j true = false
      · obtain ⟨j, hj, hj2⟩ := hc
        exact ih j hj hj2
      · exact ⟨i, hi, fun j hj h2 => hc ⟨j, hj, h2⟩⟩
  have hlt : i < l.size := by
    rcases Nat.lt_or_ge i l.size with h' | h'
    · exact h'
    · simp [Array.getElem?_eq_none h'] at hi
  refine ⟨i, hlt, hi, fun j hj => ?_⟩
  have := hmin j hj
  have hj' : j < l.size := by omega
  simp [hj'] at this ⊢
  exact this

theorem app_get {l : Array Bool} {g i : Nat} (d : Bool) (hi : i < l.size) : (l ++ Array.replicate g false).getD i d = l.getD i d := by
  simp [Array.getElem?_append, hi]
theorem app_set {l : Array Bool} {g i : Nat} (hi : i < l.size) : (l ++ Array.replicate g false).setIfInBounds i true = l.setIfInBounds i true ++ Array.replicate g false := by
  apply Array.ext'
  rw [Array.toList_setIfInBounds, Array.toList_append, Array.toList_append, Array.toList_setIfInBounds, List.set_append_left _ _ (by simpa using hi)]

/-- what is done of the head: it grows, and nothing is done ahead of what it waits for -/
structure Hinv (ops : Array Oper) (nA : Nat) (lA l : Array Bool) : Prop where
  size : l.size = nA
  sup : ∀ i, lA.getD i false = true → l.getD i false = true
  clo : ∀ t o, t < nA → ops[t]? = some o → l.getD t false = true → ∀ e ∈ o.after, Region.binds .any e = true → l.getD e.on false = true

theorem Hinv.tail (hok : headOk ops nA lA = true) {l : Array Bool} (V : Hinv ops nA lA l) : ∀ (d i : Nat), nA - i = d → i < nA → l.getD i true = false → ¬ ∃ o, ops[nA]? = some o ∧ ∀ e ∈ o.after, Region.binds .any e = true → (l ++ Array.replicate (ops.size - nA) false).getD e.on false = true := by
  intro d
  induction d using Nat.strongRecOn with
  | _ d ih =>
    intro i hd hi hun
    have hs := (headOk_sz hok).1
    have hf : l.getD i false = false := getD_both hun
    have hlo := (headOk_lo hok hi (Array.getElem?_eq_getElem (show i < ops.size by omega))).2.2
    rcases hlo with h | ⟨j, h1, h2, h3⟩
    · rw [V.sup i h] at hf; cases hf
    · obtain ⟨o, ho, e, he, hb, hon⟩ := Region.waitsFor_spec h3
      by_cases hj : j = nA
      · subst hj
        rintro ⟨o2, ho2, h4⟩
        obtain rfl : o = o2 := Option.some.inj (ho.symm.trans ho2)
        have := h4 e he hb
        rw [hon, app_get _ (by rw [V.size]; exact hi), hf] at this
        cases this
      · have hj2 : j < nA := by omega
        have hjf : l.getD j false = false := by
          cases hc : l.getD j false with
          | false => rfl
          | true =>
            have := V.clo j o hj2 ho hc e he hb
            rw [hon, hf] at this
            cases this
        exact ih (nA - j) (by omega) j rfl hj2 (getD_in (by rw [V.size]; exact hj2) hjf)

theorem head_spec (hok : headOk ops nA lA = true) (hseq : Region.seqB .any ops (ops.size - nA) nA (Array.replicate nA true ++ Array.replicate (ops.size - nA) false) = true) (hk : ∀ a w, M a w → wpList P ops Q (ops.toList.drop nA) a w) :
    ∀ (f : Nat) (l : Array Bool) (a : Act) (w : World), Hinv ops nA lA l → cntF l = f → wpAnyH P .any (ops.extract 0 nA) (NoPanic (headQ M Q)) S f l a w → wpAny P .any ops Q (f + (ops.size - nA)) (l ++ Array.replicate (ops.size - nA) false) a w := by
  have hs : nA ≤ ops.size := Nat.le_of_lt (headOk_sz hok).1
  have hs' := (headOk_sz hok).1
  intro f
  induction f with
  | zero =>
    intro l a w V hc h
    have hl2 := cntF_zero hc
    rw [V.size] at hl2
    subst hl2
    have h2 : wpList P ops Q (ops.toList.drop nA) a w := hk _ _ h.2
    have hlen : (ops.toList.drop nA).length = ops.size - nA := by simp
    have := wpAny_of_seq (ops := ops) (md := .any) (Q' := Q) (ops.toList.drop nA) nA (Array.replicate nA true ++ Array.replicate (ops.size - nA) false) a w (fun j => by simp) (by rw [hlen]; exact hseq) h2
    rw [hlen] at this
    rw [Nat.zero_add]
    exact this
  | succ f ih =>
    intro l a w V hc h
    have hl := V.size
    rw [show f + 1 + (ops.size - nA) = (f + (ops.size - nA)) + 1 by omega]
    obtain ⟨i0, hi0, hun, hall⟩ := cntF_pos (l := l) (by omega)
    have hready : ∀ {i : Nat}, i < nA → (i ∈ Region.ready .any ops (l ++ Array.replicate (ops.size - nA) false) ↔ i ∈ Region.ready .any (ops.extract 0 nA) l) := fun {i} hi => by
      rw [mem_ready, mem_ready, extract_get hi hs, app_get _ (by omega)]
      refine and_congr_right fun _ => ⟨fun ⟨o, ho, h3⟩ => ⟨o, ho, fun e he hb => ?_⟩, fun ⟨o, ho, h3⟩ => ⟨o, ho, fun e he hb => ?_⟩⟩
      · have h4 := ((headOk_lo hok hi ho).1 e he hb).1
        have := h3 e he hb
        rwa [app_get _ (by omega)] at this
      · have h4 := ((headOk_lo hok hi ho).1 e he hb).1
        rw [app_get _ (by omega)]
        exact h3 e he hb
    have hi0n : i0 < nA := by omega
    have hr0 : i0 ∈ Region.ready .any ops (l ++ Array.replicate (ops.size - nA) false) := by
      rw [mem_ready, app_get _ hi0]
      refine ⟨hun, _, Array.getElem?_eq_getElem (by omega), fun e he hb => ?_⟩
      have h4 := ((headOk_lo hok hi0n (Array.getElem?_eq_getElem (show i0 < ops.size by omega))).1 e he hb).1
      rw [app_get _ (by omega)]
      exact hall _ h4
    refine ⟨fun h0 => (by rw [h0] at hr0; cases hr0), fun i hi => ?_⟩
    have hin : i < nA := by
      refine Classical.byContradiction fun hn => ?_
      obtain ⟨hi1, oi, hoi, hi2⟩ := mem_ready.1 hi
      have hlt : i < ops.size := (Array.getElem?_eq_some_iff.1 hoi).1
      by_cases hin : i = nA
      · subst hin
        exact V.tail hok _ i0 rfl hi0n hun ⟨oi, hoi, hi2⟩
      · obtain ⟨o, ho, e, he, hb, hon⟩ := Region.waitsFor_spec (headOk_hi hok (show nA < i by omega) hlt)
        obtain rfl : oi = o := Option.some.inj (hoi.symm.trans ho)
        have := hi2 e he hb
        rw [hon] at this
        have h6 : (l ++ Array.replicate (ops.size - nA) false).getD (i - 1) false = false := by
          simp [Array.getElem?_append, show ¬ i - 1 < l.size by omega, Array.getElem?_replicate]
          split <;> rfl
        rw [h6] at this
        cases this
    have hir := (hready hin).1 hi
    obtain ⟨hil, oi, hoi, hia⟩ := mem_ready.1 hir
    rw [extract_get hin hs] at hoi
    refine wpOp_head hok hin (fun a' w' hK => ?_) (h.2 i hir)
    have := ih (l.setIfInBounds i true) a' w' ⟨by simpa using hl, fun j hj => getD_set_true (V.sup j hj), fun t o ht ho hc e he hb => ?_⟩ (by have := cntF_set hil; omega) hK.2
    · rwa [app_set (by omega)]
    · by_cases e1 : i = t
      · subst e1
        obtain rfl : oi = o := Option.some.inj (hoi.symm.trans ho)
        exact getD_set_true (hia e he hb)
      · rw [getD_set_ne false e1] at hc
        exact getD_set_true (V.clo t o ht ho hc e he hb)

theorem held_of_any : ∀ (f : Nat) (l : Array Bool) (a : Act) (w : World), wpAny P .any ops Q f l a w → wpAnyH P .any ops Q (fun _ => True) f l a w
  | 0, _, _, _, h => h
  | f + 1, _, _, _, h => ⟨h.1, fun i hi => wpOp_mono (fun a' w' h' => ⟨trivial, held_of_any f _ a' w' h'⟩) (h.2 i hi)⟩

/-- a drawn region whose tail comes in one order; M: what holds ahead of the tail -/
theorem dr_cut {a : Act} {w : World} {f : Nat} {l : Array Bool} (nA fA : Nat) (lA : Array Bool) (M : Act → World → Prop) (hok : headOk ops nA lA = true) (hseq : Region.seqB .any ops (ops.size - nA) nA (Array.replicate nA true ++ Array.replicate (ops.size - nA) false) = true)
    (hf : Nat.beq f (fA + (ops.size - nA)) = true) (hc : Nat.beq (cntF lA) fA = true) (hl : l = lA ++ Array.replicate (ops.size - nA) false)
    (h : wpAnyH P .any (ops.extract 0 nA) (NoPanic (headQ M (NoPanic Q))) S fA lA a w) (hk : ∀ a w, M a w → wpList P ops (NoPanic Q) (ops.toList.drop nA) a w) : wpAnyH P .any ops (NoPanic Q) (fun _ => True) f l a w := by
  have hf' := Nat.eq_of_beq_eq_true hf
  have hc' := Nat.eq_of_beq_eq_true hc
  subst hl
  rw [hf']
  exact held_of_any _ _ _ _ (head_spec hok hseq hk fA lA a w ⟨(headOk_sz hok).2, fun _ h => h, fun t o ht ho hc e he hb => ((headOk_lo hok ht ho).1 e he hb).2 hc⟩ hc' h)
theorem dr_doneM {listed : Array Bool} {fuel : Nat} {a : Act} {w : World} {ops : Array Oper} (hr : Region.ready .any ops listed = []) (h : M a w) : wpAnyH P .any ops (NoPanic (headQ M Q)) S fuel listed a w :=
  dr_done hr h
end

/-! ### bytes as a string -/
section
variable {P : Program} {T : List TRow} {w : World} {a : Act} {n : Nat} {l l' : List (Nat × Value)} {ops : Array Oper} {o : Oper} {rest : List Oper} {Q : Exit → Act → World → Prop} {e : TypeId}
theorem e_convStr {s d : TypeId} {x : Operand} {A : Option Addr} {c : Nat} {xs : List Int} (E : Fr a n l) (ho : o.op = .convert s d x) (hw : want ops l o = some true) (hT : TbOk P T) (hs : tdesc T s = some (.slice e)) (he : tdesc T e = some (.int .u8)) (hd : tdesc T d = some .string)
    (hx : opv l x = some (.slice A xs.length c)) (hr : Rds (cInt .u8) w A xs) (hl : putE n l o.dst (.string (strOfNums xs)) = some l') (k : ∀ a', Fr a' n l' → wpList P ops Q rest a' w) : wpList P ops Q (o :: rest) a w := by
  refine step_val E hw ?_ hl k
  have h1 := tdesc_row hT hs
  have h2 := tdesc_row hT he
  have h3 := tdesc_row hT hd
  have key : (convert s d (.slice A xs.length c)).run P w = .ok (.string (strOfNums xs)) w := by
    by_cases h0 : xs = []
    · subst h0
      cases A with
      | none => exact run_convert_bytes_nil w s e h1 h2 _ _ d h3
      | some ad =>
        have hl0 : (loadCells ad 0).run P w = .ok (([] : List Int).map (Value.int .u8)).toArray w := by simp [loadCells, loadCellsFrom]
        have := run_bytesToString w ad 0 c [] hl0
        rw [show ([] : List Int).length = 0 from rfl, run_convert_bytes_string w s d e _ 0 c h1 h2 h3, this]
        rfl
    · obtain ⟨b, off, rfl⟩ := hr.addr (List.length_pos_iff.2 h0)
      refine run_convert_bytes_arg w s e h1 h2 b off _ c xs rfl (fun i hi => ?_) d h3
      have := Rds.at1 (f := fun x => Value.int .u8 x) hr 0 (i := (i : Int)) ⟨by omega, by omega⟩
      rw [Int.toNat_natCast, Nat.mul_one] at this
      exact this
  simp [execOp, ho, E.eval hx, key, Result.andThen]
end

/-! ### steps that tell what is new alone -/
def hasK : List Nat → Nat → Bool
  | [], _ => false
  | k :: r, t => bif Nat.beq k t then true else hasK r t
def hasL : List (Nat × Value) → Nat → Bool
  | [], _ => false
  | (k, _) :: r, t => bif Nat.beq k t then true else hasL r t
def newOk (ks : List Nat) (l : List (Nat × Value)) : Option Nat → Bool
  | none => true
  | some d => hasK ks d || !hasL l d
def freshK (ks : List Nat) (l : List (Nat × Value)) : Nat → List Oper → Bool
  | 0, _ => true
  | _ + 1, [] => true
  | k + 1, o :: r => newOk ks l o.dst && freshK ks l k r
def freshH (ops : Array Oper) (ks : List Nat) (l : List (Nat × Value)) : List Nat → Bool
  | [] => true
  | i :: is => (match ops[i]? with | none => true | some o => newOk ks l o.dst) && freshH ops ks l is
theorem lkp_app {t : Nat} : ∀ (new l : List (Nat × Value)), lkp (new ++ l) t = match lkp new t with | some v => some v | none => lkp l t
  | [], l => rfl
  | (k, u) :: new, l => by
    have ih := lkp_app (t := t) new l
    show (bif Nat.beq k t then some u else lkp (new ++ l) t) = match (bif Nat.beq k t then some u else lkp new t) with | some v => some v | none => lkp l t
    cases Nat.beq k t with
    | true => rfl
    | false => exact ih
theorem hasL_some {t : Nat} {v : Value} : ∀ {l : List (Nat × Value)}, lkp l t = some v → hasL l t = true
  | [], h => by cases h
  | (k, u) :: l, h => by
    unfold lkp at h
    unfold hasL
    cases hb : Nat.beq k t with
    | true => rfl
    | false => rw [hb] at h; exact hasL_some h
theorem hasK_none {t : Nat} : ∀ {l : List (Nat × Value)}, lkp l t = none → hasK (l.map Prod.fst) t = false
  | [], _ => rfl
  | (k, u) :: l, h => by
    unfold lkp at h
    rw [List.map_cons]
    unfold hasK
    cases hb : Nat.beq k t with
    | true => rw [hb] at h; cases h
    | false => rw [hb] at h; exact hasK_none h
theorem chk_get {l : List (Nat × Value)} {t : Nat} {v : Value} : ∀ {new : List (Nat × Value)}, chk l new → lkp new t = some v → lkp l t = some v
  | [], _, h => by cases h
  | (k, u) :: new, ⟨h1, h2⟩, h => by
    unfold lkp at h
    cases hb : Nat.beq k t with
    | true => rw [hb] at h; cases h; have := Nat.eq_of_beq_eq_true hb; subst this; exact h1
    | false => rw [hb] at h; exact chk_get h2 h
theorem putE_off {n : Nat} {l l1 : List (Nat × Value)} {d : Option Nat} {v : Value} {t : Nat} (h : putE n l d v = some l1) (ht : d ≠ some t) : lkp l1 t = lkp l t := by
  unfold putE at h
  cases d with
  | none => cases h; rfl
  | some d =>
    simp only at h
    cases hb : Nat.blt d n with
    | false => rw [hb] at h; cases h
    | true =>
      rw [hb] at h
      cases h
      have hn : Nat.beq d t = false := by
        cases hq : Nat.beq d t with
        | false => rfl
        | true => exact absurd (congrArg some (Nat.eq_of_beq_eq_true hq)) ht
      show (bif Nat.beq d t then some v else lkp l t) = lkp l t
      rw [hn]
      rfl
theorem newOk_ne {new l : List (Nat × Value)} {d : Option Nat} {t : Nat} {v : Value} (h : newOk (new.map Prod.fst) l d = true) (hn : lkp new t = none) (hl : lkp l t = some v) : d ≠ some t := fun e => by
  subst e
  have h : (hasK (new.map Prod.fst) t || !hasL l t) = true := h
  rw [hasK_none hn, hasL_some hl] at h
  cases h
section
variable {P : Program} {T : List TRow} {w : World} {a : Act} {n : Nat} {l : List (Nat × Value)} {ops : Array Oper} {Q : Exit → Act → World → Prop} {S : World → Prop}
theorem runK_off {new l0 : List (Nat × Value)} {t : Nat} {v : Value} (hn : lkp new t = none) (hl : lkp l0 t = some v) : ∀ (k : Nat) (hs : List Value) (L : List Oper) (l : List (Nat × Value)) {l' : List (Nat × Value)} {φ : List Prop}, runK T w ops n k hs L l = some (l', φ) → freshK (new.map Prod.fst) l0 k L = true → lkp l' t = lkp l t
  | 0, hs, L, l, l', φ, h, _ => by cases h; rfl
  | k + 1, hs, [], l, l', φ, h, _ => by cases h
  | k + 1, hs, o :: rest, l, l', φ, h, hf => by
    unfold freshK at hf
    simp only [Bool.and_eq_true] at hf
    have hd := newOk_ne hf.1 hn hl
    unfold runK at h
    split at h
    · cases ht : takes o.op with
      | true =>
        rw [ht] at h
        simp only [cond_true] at h
        split at h
        · cases h
        · split at h
          · split at h
            · rename_i l1 hl1
              split at h
              · rename_i hrec; cases h; rw [runK_off hn hl k _ rest l1 hrec hf.2, putE_off hl1 hd]
              · cases h
            · cases h
          · cases h
      | false =>
        rw [ht] at h
        simp only [cond_false] at h
        split at h
        · split at h
          · rename_i l1 hl1
            split at h
            · rename_i hrec; cases h; rw [runK_off hn hl k _ rest l1 hrec hf.2, putE_off hl1 hd]
            · cases h
          · cases h
        · cases h
    · split at h
      · rename_i l1 hl1
        rw [runK_off hn hl k _ rest l1 h hf.2, putE_off hl1 hd]
      · cases h
    · cases h
theorem runH_off {new l0 : List (Nat × Value)} {t : Nat} {v : Value} (hn : lkp new t = none) (hl : lkp l0 t = some v) : ∀ (is : List Nat) (hs : List Value) (l : List (Nat × Value)) {l' : List (Nat × Value)} {φ : List Prop}, runH T w ops n is hs l = some (l', φ) → freshH ops (new.map Prod.fst) l0 is = true → lkp l' t = lkp l t
  | [], hs, l, l', φ, h, _ => by cases h; rfl
  | i :: is, hs, l, l', φ, h, hf => by
    unfold freshH at hf
    simp only [Bool.and_eq_true] at hf
    unfold runH at h
    split at h
    · cases h
    · rename_i o ho
      rw [ho] at hf
      have hd := newOk_ne hf.1 hn hl
      split at h
      · cases ht : takes o.op with
        | true =>
          rw [ht] at h
          simp only [cond_true] at h
          split at h
          · cases h
          · split at h
            · split at h
              · rename_i l1 hl1
                split at h
                · rename_i hrec; cases h; rw [runH_off hn hl is _ l1 hrec hf.2, putE_off hl1 hd]
                · cases h
              · cases h
            · cases h
        | false =>
          rw [ht] at h
          simp only [cond_false] at h
          split at h
          · split at h
            · rename_i l1 hl1
              split at h
              · rename_i hrec; cases h; rw [runH_off hn hl is _ l1 hrec hf.2, putE_off hl1 hd]
              · cases h
            · cases h
          · cases h
      · split at h
        · rename_i l1 hl1
          rw [runH_off hn hl is _ l1 h hf.2, putE_off hl1 hd]
        · cases h
      · cases h
/-- plain operations, in one step; what is new is told -/
theorem vn (hT : TbOk P T) (k : Nat) (hs : List Value) {L : List Oper} (new : List (Nat × Value)) (φ : List Prop) (E : Fr a n l) (h : runS T w ops n k hs (new.map Prod.fst) L l = some (new, φ)) (hf : freshK (new.map Prod.fst) l k L = true) (hφ : AllP φ)
    (hk : ∀ a', Fr a' n (new ++ l) → wpList P ops Q (L.drop k) a' w) : wpList P ops Q L a w := by
  unfold runS at h
  split at h
  · rename_i l' ψ hr
    split at h
    · rename_i q hq
      cases h
      refine runK_spec hT k hs L l a E hr hφ fun a' E' => hk a' ⟨E'.nodef, E'.size, fun t v hv => E'.get t v ?_⟩
      rw [lkp_app] at hv
      cases hn : lkp new t with
      | some u => rw [hn] at hv; cases hv; exact chk_get (sel_chk hq) hn
      | none => rw [hn] at hv; rw [runK_off hn hv k hs L l hr hf]; exact hv
    · cases h
  · cases h
theorem dn (hT : TbOk P T) (hs0 : Region.noSelect ops = true) (is : List Nat) (hs : List Value) (new : List (Nat × Value)) (φ : World → List Prop) (fuel : Nat) {listed : Array Bool} (E : Fr a n l)
    (h : ∀ w', S w' → runHS T w' ops n is hs (new.map Prod.fst) l = some (new, φ w')) (hf : freshH ops (new.map Prod.fst) l is = true) (hφ : ∀ w', S w' → AllP (φ w')) (hok : okOrder ops is listed = true) (hS : S w)
    (hk : ∀ a', Fr a' n (new ++ l) → wpAnyH P .any ops (NoPanic Q) S fuel (listAll is listed) a' w) : wpAnyH P .any ops (NoPanic Q) S (fuel + is.length) listed a w := by
  have h0 := h w hS
  unfold runHS at h0
  cases hr : runH T w ops n is hs l with
  | none => rw [hr] at h0; cases h0
  | some r =>
    obtain ⟨l', ψ0⟩ := r
    have key : ∀ w', S w' → runH T w' ops n is hs l = some (l', φ w') := by
      intro w' hS'
      have h1 := h w' hS'
      unfold runHS at h1
      cases hr' : runH T w' ops n is hs l with
      | none => rw [hr'] at h1; cases h1
      | some r' =>
        obtain ⟨l2, ψ2⟩ := r'
        obtain rfl := runH_val is hs l hr hr'
        rw [hr'] at h1
        simp only at h1
        cases hq : sel l' (new.map Prod.fst) with
        | none => rw [hq] at h1; cases h1
        | some q => rw [hq] at h1; cases h1; rfl
    rw [hr] at h0
    simp only at h0
    cases hq : sel l' (new.map Prod.fst) with
    | none => rw [hq] at h0; cases h0
    | some q =>
      rw [hq] at h0
      cases h0
      refine runH_spec hT hs0 is hs l a listed fuel E key hφ hok hS fun a' E' => hk a' ⟨E'.nodef, E'.size, fun t v hv => E'.get t v ?_⟩
      rw [lkp_app] at hv
      cases hn : lkp new t with
      | some u => rw [hn] at hv; cases hv; exact chk_get (sel_chk hq) hn
      | none => rw [hn] at hv; rw [runH_off hn hv is hs l hr hf]; exact hv
end

/-! ### functions of two truths, handed over -/
def PureF2 (P : Program) (fv : Value) (g : Bool → Bool → Bool) : Prop :=
  ∃ (f : FuncId) (fn : Func) (cap : Array Value), fv = .func (.func f) #[] cap ∧ P.funcs[f]? = some fn ∧ fn.body.isNone = false ∧ (fn.name == "runtime.NumGoroutine") = false ∧ ∀ (w : World) (x y : Bool), Calls P f ([Value.bool x, Value.bool y] ++ cap.toList).toArray w fun e w' => ∃ v, e = .returned v ∧ (v = .bool (g x y) ∧ Ext w w')
theorem e_callS {P : Program} {w : World} {a : Act} {n : Nat} {l : List (Nat × Value)} {ops : Array Oper} {Q : Exit → Act → World → Prop} {o : Oper} {rest : List Oper} {fv : Operand} {F : Value} {g : Bool → Bool → Bool} {args : Array Operand} {tys : Array TypeId} {x y : Bool} (E : Fr a n l) (ho : o.op = .call { callee := .value fv, args := args, argTypes := tys }) (hw : want ops l o = some true)
    (hF : PureF2 P F g) (hfv : opv l fv = some F) (hargs : opvs l args.toList = some [.bool x, .bool y])
    (k : ∀ (w' : World) (a' : Act), Ext w w' → (∀ l', putE n l o.dst (.bool (g x y)) = some l' → Fr a' n l') → wpList P ops Q rest a' w') : wpList P ops Q (o :: rest) a w := by
  obtain ⟨f, fn, cap, rfl, hf, hb, hn, hc⟩ := hF
  exact e_callv E ho hw hfv hf hb hn hargs (hc w x y) fun v w' a' ⟨hv, hx⟩ hl => by
    subst hv
    exact k w' a' hx hl
end Go.V
