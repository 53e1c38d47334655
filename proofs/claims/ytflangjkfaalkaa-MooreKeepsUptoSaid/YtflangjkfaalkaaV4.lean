/- Operations that make or change memory; calls. -/
import Derived.Test.YtflangjkfaalkaaV3
set_option linter.all false
set_option linter.unusedVariables false
set_option linter.unnecessarySimpa false
set_option linter.unusedSimpArgs false
namespace Go.V
open Go Go.RowKit
section
variable {P : Program} {T : List TRow} {w : World} {a : Act} {n : Nat} {l l' : List (Nat × Value)} {ops : Array Oper} {Q : Exit → Act → World → Prop} {o : Oper} {rest : List Oper}

def opvs (l : List (Nat × Value)) : List Operand → Option (List Value)
  | [] => some []
  | x :: r => match opv l x, opvs l r with
    | some v, some q => some (v :: q)
    | _, _ => none

theorem opvs_eval (E : Fr a n l) : ∀ {xs : List Operand} {vs : List Value}, opvs l xs = some vs → xs.map a.eval = vs
  | [], vs, h => by cases h; rfl
  | x :: r, vs, h => by
    unfold opvs at h
    split at h
    · rename_i v q hv hq
      cases h
      simp [E.eval hv, opvs_eval E hq]
    · cases h

theorem tz_row {t : TypeId} {r : TRow} (hT : TbOk P T) (h : tlk T t = some r) : (zeroValue t).run P w = .ok r.z w := by
  obtain ⟨_, i, hi, _, _, hz⟩ := hT.row h
  simp [zeroValue, typeInfo, hi, hz]

theorem run_newRow (e : TypeId) (cells : Array Value) : (newRow e cells).run P w = .ok ⟨w.heap.size, 0, none⟩ (w.alloc (.cells cells e)) := rfl
theorem run_newVar (e : TypeId) (v : Value) : (newVar e v).run P w = .ok ⟨w.heap.size, 0, none⟩ (w.alloc (.cells v.cells e)) := rfl

/-- a value is put into a new variable -/
theorem e_box {t : TypeId} {x : Operand} {v : Value} (E : Fr a n l) (ho : o.op = .box t x) (hw : want ops l o = some true) (hx : opv l x = some v)
    (k : ∀ (w' : World) (g : Nat) (a' : Act), Ext w w' → w.heap.size ≤ g → Bx w' g t v.cells.toList → (∀ l', putE n l o.dst (.pointer (some ⟨g, 0, none⟩)) = some l' → Fr a' n l') → wpList P ops Q rest a' w') : wpList P ops Q (o :: rest) a w := by
  refine wpList_step fun K hK => ?_
  rw [if_pos (want_spec E hw)]
  unfold Oper.wp
  have hr : (execOp a.eval o).run P w = .ok (.value (.pointer (some ⟨w.heap.size, 0, none⟩))) (w.alloc (.cells v.cells t)) := by
    simp [execOp, ho, E.eval hx, Instr.box, run_newVar, Result.andThen]
  rw [hr]
  exact hK _ _ (k _ _ _ (Chg.alloc _ _) (Nat.le_refl _) (Bx.alloc _ _ _) fun l' hl => putE_spec E hl)

theorem e_alloc {t : TypeId} {r : TRow} (E : Fr a n l) (ho : o.op = .alloc t) (hw : want ops l o = some true) (hT : TbOk P T) (ht : tlk T t = some r)
    (k : ∀ (w' : World) (g : Nat) (a' : Act), Ext w w' → w.heap.size ≤ g → Bx w' g t r.z.cells.toList → (∀ l', putE n l o.dst (.pointer (some ⟨g, 0, none⟩)) = some l' → Fr a' n l') → wpList P ops Q rest a' w') : wpList P ops Q (o :: rest) a w := by
  refine wpList_step fun K hK => ?_
  rw [if_pos (want_spec E hw)]
  unfold Oper.wp
  have hr : (execOp a.eval o).run P w = .ok (.value (.pointer (some ⟨w.heap.size, 0, none⟩))) (w.alloc (.cells r.z.cells t)) := by
    simp [execOp, ho, Instr.alloc, tz_row hT ht, run_newVar, Result.andThen]
  rw [hr]
  exact hK _ _ (k _ _ _ (Chg.alloc _ _) (Nat.le_refl _) (Bx.alloc _ _ _) fun l' hl => putE_spec E hl)

def splice (cs : List Value) (o : Nat) (vs : List Value) : List Value := cs.take o ++ vs ++ cs.drop (o + vs.length)

theorem setRow_chg {g : Nat} {t : TypeId} {cs : List Value} (h : Bx w g t cs) (vs : List Value) : Chg (· = g) w (w.setRow g vs.toArray) ∧ Bx (w.setRow g vs.toArray) g t vs := by
  refine ⟨⟨rfl, rfl, rfl, by simp [World.setRow], fun k _ hn => setRow_other w g k _ hn⟩, ?_⟩
  exact setRow_heap w g _ _ t (0, 0) h

/-- a store into a variable of the call's own -/
theorem e_store {t : TypeId} {p x : Operand} {g off : Nat} {v : Value} {tt : TypeId} {cs : List Value} {s : Nat} (E : Fr a n l) (ho : o.op = .store t p x) (hw : want ops l o = some true) (hp : opv l p = some (.pointer (some ⟨g, off, none⟩))) (hx : opv l x = some v)
    (hT : TbOk P T) (hs : tsz T t = some s) (hB : Bx w g tt cs) (hsz : Nat.beq v.cells.size s = true) (hone : v.cells.toList.all Value.oneCell' = true) (hfit : Nat.ble (off + v.cells.size) cs.length = true) (hd : o.dst = none)
    (k : ∀ (w' : World) (a' : Act), Chg (· = g) w w' → Bx w' g tt (splice cs off v.cells.toList) → Fr a' n l → wpList P ops Q rest a' w') : wpList P ops Q (o :: rest) a w := by
  refine wpList_step fun K hK => ?_
  rw [if_pos (want_spec E hw)]
  unfold Oper.wp
  have hst := run_storeCells_at P g off tt v.cells.toList 0 ⟨cs⟩ w hB (by have := Nat.le_of_ble_eq_true hfit; simpa using this) (fun u hu => List.all_eq_true.1 hone u hu)
  have hsz' := Nat.eq_of_beq_eq_true hsz
  have hz := run_sizeOf' (w := w) hT hs
  have hr : (execOp a.eval o).run P w = .ok .skip (w.setRow g (splice cs off v.cells.toList).toArray) := by
    have h1 : (Instr.storeAt t (.pointer (some ⟨g, off, none⟩)) v).run P w = .ok () (w.setRow g (splice cs off v.cells.toList).toArray) := by
      simp only [Nat.add_zero] at hst
      unfold Instr.storeAt storeVar
      simp only [Instr.sureAddr, Sem.run_bind, Sem.run_pure, Result.andThen_ok, hz, hsz', ne_eq, not_true, if_false]
      exact hst
    simp only [execOp, ho, E.eval hp, E.eval hx, Sem.run_bind, h1, Result.andThen_ok, Sem.run_pure]
  rw [hr]
  obtain ⟨h1, h2⟩ := setRow_chg hB (splice cs off v.cells.toList)
  refine hK _ _ (k _ _ h1 h2 ?_)
  rw [hd]
  exact E

/-- a call of a function that is named -/
theorem e_call {f : FuncId} {fn : Func} {args : Array Operand} {tys : Array TypeId} {vs : List Value} {R : Value → World → Prop} (E : Fr a n l) (ho : o.op = .call { callee := .value (.func f), args := args, argTypes := tys }) (hw : want ops l o = some true)
    (hf : P.funcs[f]? = some fn) (hb : fn.body.isNone = false) (hn : (fn.name == "runtime.NumGoroutine") = false) (hargs : opvs l args.toList = some vs)
    (hR : Calls P f vs.toArray w fun e w' => ∃ v, e = .returned v ∧ R v w')
    (k : ∀ (v : Value) (w' : World) (a' : Act), R v w' → (∀ l', putE n l o.dst v = some l' → Fr a' n l') → wpList P ops Q rest a' w') : wpList P ops Q (o :: rest) a w := by
  refine wpList_step fun K hK => ?_
  rw [if_pos (want_spec E hw)]
  unfold Oper.wp
  have hm : args.map a.eval = vs.toArray := by
    apply Array.ext'
    simpa using opvs_eval E hargs
  have hn' : ¬ fn.name = "runtime.NumGoroutine" := by simpa using hn
  have hb' : ¬ fn.body = none := fun e => by rw [e] at hb; cases hb
  have hr : (execOp a.eval o).run P w = .ok (.enter f vs.toArray) w := by
    simp [execOp, ho, resolve, Act.eval, Deferred.ofValue, invoke, callFunc, hf, hb', hn', Result.andThen, hm]
  rw [hr, Oper.upon_enter]
  refine hR.mono ?_
  rintro e w' ⟨v, rfl, hv⟩
  exact hK _ _ (k v w' _ hv fun l' hl => putE_spec E hl)

/-- a call of a function value that captures -/
theorem e_callv {f : FuncId} {fn : Func} {fv : Operand} {cap : Array Value} {args : Array Operand} {tys : Array TypeId} {vs : List Value} {R : Value → World → Prop} (E : Fr a n l) (ho : o.op = .call { callee := .value fv, args := args, argTypes := tys }) (hw : want ops l o = some true)
    (hfv : opv l fv = some (.func (.func f) #[] cap))
    (hf : P.funcs[f]? = some fn) (hb : fn.body.isNone = false) (hn : (fn.name == "runtime.NumGoroutine") = false) (hargs : opvs l args.toList = some vs)
    (hR : Calls P f (vs ++ cap.toList).toArray w fun e w' => ∃ v, e = .returned v ∧ R v w')
    (k : ∀ (v : Value) (w' : World) (a' : Act), R v w' → (∀ l', putE n l o.dst v = some l' → Fr a' n l') → wpList P ops Q rest a' w') : wpList P ops Q (o :: rest) a w := by
  refine wpList_step fun K hK => ?_
  rw [if_pos (want_spec E hw)]
  unfold Oper.wp
  have hm : args.map a.eval = vs.toArray := by
    apply Array.ext'
    simpa using opvs_eval E hargs
  have hn' : ¬ fn.name = "runtime.NumGoroutine" := by simpa using hn
  have hb' : ¬ fn.body = none := fun e => by rw [e] at hb; cases hb
  have hr : (execOp a.eval o).run P w = .ok (.enter f (vs ++ cap.toList).toArray) w := by
    have hm2 : vs.toArray ++ cap = (vs ++ cap.toList).toArray := by apply Array.ext'; simp
    simp only [execOp, ho, resolve, E.eval hfv, Deferred.ofValue, invoke, callFunc, Sem.run_bind, Sem.run_pure, Result.andThen_ok, Array.empty_append, hm, hm2]
    simp [hf, hb', hn', Result.andThen]
  rw [hr, Oper.upon_enter]
  refine hR.mono ?_
  rintro e w' ⟨v, rfl, hv⟩
  exact hK _ _ (k v w' _ hv fun l' hl => putE_spec E hl)

theorem run_mapM_list {α β : Type} (f : α → Sem β) (g : α → β) : ∀ (l : List α), (∀ x ∈ l, (f x).run P w = .ok (g x) w) → (l.mapM f).run P w = .ok (l.map g) w
  | [], _ => by simp
  | x :: r, h => by
    rw [List.mapM_cons]
    simp [h x (by simp), run_mapM_list f g r (fun y hy => h y (by simp [hy])), Result.andThen]

/-- the places of a struct's fields -/
def fplaces (T : List TRow) : List Field → Option (List (Nat × Nat))
  | [] => some []
  | f :: r => match tsz T f.type, fplaces T r with
    | some s, some q => some ((f.offset, s) :: q)
    | _, _ => none

theorem run_fplaces (hT : TbOk P T) : ∀ (l : List Field) (pl : List (Nat × Nat)), fplaces T l = some pl → (l.mapM (fun f => do pure (f.offset, ← sizeOf f.type) : Field → Sem (Nat × Nat))).run P w = .ok pl w
  | [], pl, h => by cases h; simp
  | f :: r, pl, h => by
    unfold fplaces at h
    split at h
    · rename_i s q hs hq
      cases h
      rw [List.mapM_cons]
      simp only [Sem.run_bind, run_sizeOf' (w := w) hT hs, run_fplaces hT r q hq, Result.andThen_ok, Sem.run_pure]
    · cases h

/-- a struct or an array literal -/
def buildV (T : List TRow) (t : TypeId) (parts : List (Nat × Value)) : Option Value :=
  match tlk T t with
  | some r =>
    match r.d with
    | .struct fs =>
      match fplaces T fs.toList with
      | some pl =>
        match Instr.fill (fun i => pl.toArray[i]?) r.z.cells parts with
        | some cs => some (.agg cs)
        | none => none
      | none => none
    | .array _ e =>
      match tsz T e with
      | some s =>
        match Instr.fill (fun i => some (i * s, s)) r.z.cells parts with
        | some cs => some (.agg cs)
        | none => none
      | none => none
    | _ => none
  | none => none

def opps (l : List (Nat × Value)) : List (Nat × Operand) → Option (List (Nat × Value))
  | [] => some []
  | (i, x) :: r => match opv l x, opps l r with
    | some v, some q => some ((i, v) :: q)
    | _, _ => none

theorem opps_eval (E : Fr a n l) : ∀ {xs : List (Nat × Operand)} {vs : List (Nat × Value)}, opps l xs = some vs → xs.map (fun p => (p.1, a.eval p.2)) = vs
  | [], vs, h => by cases h; rfl
  | (i, x) :: r, vs, h => by
    unfold opps at h
    split at h
    · rename_i v q hv hq
      cases h
      simp [E.eval hv, opps_eval E hq]
    · cases h

/-- '[]T{..}' : a new row -/
def rowV (T : List TRow) (e : TypeId) (len : Nat) (parts : List (Nat × Value)) : Option (List Value) :=
  match tlk T e with
  | some r =>
    bif Nat.ble (len * r.sz) 16777216 then
      (Instr.fill (fun i => some (i * r.sz, r.sz)) ((Array.range (len * r.sz)).map (fun i => (if len * r.sz = 0 then (#[] : Array Value) else r.z.cells)[i % (if len * r.sz = 0 then (#[] : Array Value) else r.z.cells).size]!)) parts).map (·.toList)
    else none
  | none => none

theorem e_buildSlice {t e : TypeId} {len : Nat} {parts : Array (Nat × Operand)} {ps : List (Nat × Value)} {cs : List Value} (E : Fr a n l) (ho : o.op = .buildSlice t len parts) (hw : want ops l o = some true)
    (hT : TbOk P T) (ht : tdesc T t = some (.slice e)) (hp : opps l parts.toList = some ps) (hc : rowV T e len ps = some cs)
    (k : ∀ (w' : World) (g : Nat) (a' : Act), Ext w w' → w.heap.size ≤ g → Bx w' g e cs → (∀ l', putE n l o.dst (.slice (some ⟨g, 0, none⟩) len len) = some l' → Fr a' n l') → wpList P ops Q rest a' w') : wpList P ops Q (o :: rest) a w := by
  refine wpList_step fun K hK => ?_
  rw [if_pos (want_spec E hw)]
  unfold Oper.wp
  have hm : (parts.map fun x => (x.1, a.eval x.2)).toList = ps := by
    simpa using opps_eval E hp
  unfold rowV at hc
  split at hc
  · rename_i r hr0
    cases hb : Nat.ble (len * r.sz) 16777216 with
    | false => rw [hb] at hc; cases hc
    | true =>
      rw [hb] at hc
      simp only [cond_true] at hc
      have hb' := Nat.le_of_ble_eq_true hb
      obtain ⟨hu, i, hi, hsz, _, hz⟩ := hT.row hr0
      have hsr : (sizeOf e).run P w = .ok r.sz w := by simp [sizeOf, typeInfo, hi, hsz]
      have hzr := tz_row (w := w) hT hr0
      have hu' := tdesc_row hT ht
      have hr : (execOp a.eval o).run P w = .ok (.value (.slice (some ⟨w.heap.size, 0, none⟩) len len)) (w.alloc (.cells cs.toArray e)) := by
        simp only [execOp, ho, Instr.buildSlice, Sem.run_bind, run_underlying hu', Result.andThen_ok, hsr, Sem.run_pure, gt_iff_lt, Nat.not_lt.2 hb', if_false, hm]
        cases hf : Instr.fill (fun i => some (i * r.sz, r.sz)) ((Array.range (len * r.sz)).map (fun i => (if len * r.sz = 0 then (#[] : Array Value) else r.z.cells)[i % (if len * r.sz = 0 then (#[] : Array Value) else r.z.cells).size]!)) ps with
        | none => rw [hf] at hc; cases hc
        | some cs' =>
          rw [hf] at hc
          cases hc
          by_cases h0 : len * r.sz = 0
          · simp only [h0, if_true] at hf ⊢
            simp only [hf, Sem.run_bind, run_newRow, Result.andThen_ok, Sem.run_pure]
          · simp only [h0, if_false] at hf ⊢
            simp only [hf, Sem.run_bind, run_newRow, hzr, Result.andThen_ok, Sem.run_pure]
      rw [hr]
      exact hK _ _ (k _ _ _ (Chg.alloc _ _) (Nat.le_refl _) (Bx.alloc _ _ _) fun l' hl => putE_spec E hl)
  · cases hc

theorem e_build {t : TypeId} {parts : Array (Nat × Operand)} {ps : List (Nat × Value)} {v : Value} (E : Fr a n l) (ho : o.op = .build t parts) (hw : want ops l o = some true) (hT : TbOk P T)
    (hp : opps l parts.toList = some ps) (hv : buildV T t ps = some v) (hl : putE n l o.dst v = some l') (k : ∀ a', Fr a' n l' → wpList P ops Q rest a' w) : wpList P ops Q (o :: rest) a w := by
  refine step_val E hw ?_ hl k
  have hm : (parts.map fun x => (x.1, a.eval x.2)).toList = ps := by
    simpa using opps_eval E hp
  unfold buildV at hv
  split at hv
  · rename_i r hr0
    obtain ⟨hu, i, hi, hsz, _, hz⟩ := hT.row hr0
    have hzr := tz_row (w := w) hT hr0
    split at hv
    · rename_i fs hd
      rw [hd] at hu
      split at hv
      · rename_i pl hpl
        split at hv
        · rename_i cs hf
          cases hv
          have hq : (fs.mapM (fun f => do pure (f.offset, ← sizeOf f.type) : Field → Sem (Nat × Nat))).run P w = .ok pl.toArray w := by
            rw [Array.mapM_eq_mapM_toList, map_eq_pure_bind]
            simp only [Sem.run_bind, run_fplaces (w := w) hT _ _ hpl, Result.andThen_ok, Sem.run_pure]
          simp only [execOp, ho, Instr.build, Sem.run_bind, hzr, Result.andThen_ok, run_underlying hu, hq, hm, hf, Sem.run_pure]
        · cases hv
      · cases hv
    · rename_i ln e hd
      rw [hd] at hu
      split at hv
      · rename_i s hs
        have hsr := run_sizeOf' (w := w) hT hs
        split at hv
        · rename_i cs hf
          cases hv
          simp only [execOp, ho, Instr.build, Sem.run_bind, hzr, Result.andThen_ok, run_underlying hu, hsr, hm, hf, Sem.run_pure]
        · cases hv
      · cases hv
    · cases hv
  · cases hv

/-- 'append(s, x...)', s a row of one's own -/
theorem e_append {α : Type} (d : Cod α) {s x : Operand} {t e : TypeId} {r : TRow} {base : Nat} {F : Nat → Prop} {A : Option Addr} {c : Nat} {xs ys : List α} {b off m c2 : Nat} {cells : List Value}
    (E : Fr a n l) (ho : o.op = .call { callee := .builtin .append, args := #[s, x], argTypes := #[t, t] }) (hw : want ops l o = some true)
    (hT : TbOk P T) (ht : tdesc T t = some (.slice e)) (he : tlk T e = some r) (hz : Nat.beq r.z.cells.size r.sz = true) (hd : Nat.beq d.sz r.sz = true) (hs0 : Nat.blt 0 r.sz = true)
    (hs : opv l s = some (.slice A xs.length c)) (hR : Row d e w base F A c xs) (hx : opv l x = some (.slice (some ⟨b, off, none⟩) m c2)) (hm : m = ys.length) (hy : Enc d w F ys cells) (hc : cellsAt w b off cells)
    (h63 : xs.length + ys.length ≤ 1000000000000) (hby : (xs.length + ys.length) * r.by_ ≤ 140737488355328) (hb : base ≤ w.heap.size) (hF : ∀ q, F q → q < w.heap.size)
    (k : ∀ (w' : World) (A' : Option Addr) (c' : Nat) (a' : Act), Chg (fun q => ∃ o s, A = some ⟨q, o, s⟩) w w' → Row d e w' base F A' c' (xs ++ ys) → (∀ q o s, A' = some ⟨q, o, s⟩ → A = some ⟨q, o, s⟩ ∨ w.heap.size ≤ q) →
      (∀ l', putE n l o.dst (.slice A' (xs ++ ys).length c') = some l' → Fr a' n l') → wpList P ops Q rest a' w') : wpList P ops Q (o :: rest) a w := by
  refine wpList_step fun K hK => ?_
  rw [if_pos (want_spec E hw)]
  unfold Oper.wp
  obtain ⟨olds, hown, henc, hap⟩ := hR
  obtain ⟨hu, i, hi, hsz, hbt, hzz⟩ := hT.row he
  have hd' := Nat.eq_of_beq_eq_true hd
  have hz' := Nat.eq_of_beq_eq_true hz
  have hs0' : 0 < r.sz := by simp [Nat.blt] at hs0; omega
  have hdpos : 0 < d.sz := by rw [hd']; exact hs0'
  have hlen := hy.length
  subst hm
  have hut := tdesc_row hT ht
  obtain ⟨v', w', hr, h2, h3, h4⟩ := run_append_own (P := P) w base t o.type e i r.z d.sz r.by_ hut hi hzz (by rw [hd', hsz]) hbt (by rw [hd', hz']) hdpos (.slice A xs.length c) xs.length olds hown ⟨b, off, none⟩ ys.length c2 cells hlen
    (fun j u hj => by rw [add_none]; exact hc.get j u hj) hy.ones (by unfold maxLen; omega) hby hb
  have hrun : (execOp a.eval o).run P w = .ok (.value v') w' := by
    unfold execOp
    simp only [ho, resolve, invoke, builtin, Sem.run_bind, Sem.run_pure, Result.andThen_ok, List.map_toArray, List.map_cons, List.map_nil, E.eval hs, E.eval hx, hr]
  rw [hrun]
  have hA : ∀ A' n' c', v' = .slice A' n' c' → Chg (fun q => ∃ o s, A = some ⟨q, o, s⟩) w w' := by
    intro A' n' c' hv
    refine (Chg.grown h3).mono fun q hq hrow => ?_
    cases A with
    | none => simp [Value.ownBlock] at hrow
    | some ad => simp [Value.ownBlock] at hrow; subst hrow; exact ⟨ad.off, ad.spot, rfl⟩
  obtain ⟨h2l, h2r⟩ := h2
  have hv : ∃ A' c', v' = .slice A' (xs ++ ys).length c' := by
    rcases h2r with ⟨e1, e2⟩ | ⟨g, cap, cur, e1, _⟩
    · have : (xs ++ ys).length = 0 := by rw [List.length_append]; exact e2
      exact ⟨none, 0, by rw [this]; exact e1⟩
    · exact ⟨some ⟨g, 0, none⟩, cap, by rw [e1]; congr 1; simp⟩
  obtain ⟨A', c', hv⟩ := hv
  subst hv
  have hch := hA _ _ _ rfl
  have hnF : ∀ q, F q → ¬ ∃ o s, A = some ⟨q, o, s⟩ := fun q hq ⟨o', s', hAq⟩ => hap q o' s' hAq hq
  have hnew : ∀ q o s, A' = some ⟨q, o, s⟩ → A = some ⟨q, o, s⟩ ∨ w.heap.size ≤ q := by
    intro q o' s' hq
    rcases hown.2 with ⟨e1, e2⟩ | ⟨g, cap, cur, e1, hbg, hg, hnc, hcm, hcs, htake⟩
    · by_cases hm0 : ys.length = 0
      · have := h4.2 ⟨e1, hm0⟩
        injection this with e3 _ _
        rw [hq] at e3; cases e3
      · rw [e1] at hr
        have h5 := run_append_nil (P := P) w t o.type e i r.z hut hi hzz ⟨b, off, none⟩ ys.length c2 cells (by rw [hlen, hd', hsz]) (fun j u hj => by rw [add_none]; exact hc.get j u hj) (by omega) (by omega) (by rw [hbt]; rw [e2, Nat.zero_add] at hby; omega)
        rw [h5] at hr
        injection hr with h6 h7
        injection h6 with h8 _ _
        rw [hq] at h8
        injection h8 with h8
        injection h8 with h8 _ _
        exact .inr (by omega)
    · injection e1 with e1 e2 e3
      subst e1 e3
      by_cases hroom : xs.length + ys.length ≤ c
      · have hfit : xs.length * i.size + cells.length ≤ cur.size := by rw [hlen, hcs, hd', hsz, ← Nat.add_mul]; exact Nat.mul_le_mul_right _ hroom
        have h5 := run_append_room (P := P) w t o.type e i hut hi g xs.length c cur hg ⟨b, off, none⟩ ys.length c2 cells (by rw [hlen, hd', hsz]) (fun j u hj => by rw [add_none]; exact hc.get j u hj) hy.ones hroom hfit
        rw [h5] at hr
        injection hr with h6 h7
        injection h6 with h8 _ _
        rw [hq] at h8
        exact .inl h8
      · have h5 := run_append_grow (P := P) w t o.type e i r.z hut hi hzz ⟨g, 0, none⟩ xs.length c olds (by rw [hown.1, hd', hsz]) (hown.cells (g := g) rfl) ⟨b, off, none⟩ ys.length c2 cells (by rw [hlen, hd', hsz])
          (fun j u hj => by rw [add_none]; exact hc.get j u hj) (by omega) (by omega) (by rw [hbt]; exact growslice_fits (by omega) hby)
        rw [h5] at hr
        injection hr with h6 h7
        injection h6 with h8 _ _
        rw [hq] at h8
        injection h8 with h8
        injection h8 with h8 _ _
        exact .inr (by omega)
  refine hK _ _ (k w' A' c' _ hch ⟨olds ++ cells, ⟨by rw [h2l]; simp, ?_⟩, (henc.keep hch hnF).append (hy.keep hch hnF), ?_⟩ hnew fun l' hl => putE_spec E hl)
  · rcases h2r with ⟨e1, e2⟩ | r'
    · exact .inl ⟨e1, by rw [List.length_append]; exact e2⟩
    · refine .inr ?_
      obtain ⟨g, cap, cur, e1, h5, h6, h7, h8⟩ := r'
      refine ⟨g, cap, cur, ?_, h5, h6, ?_, ?_⟩
      · rw [e1]; congr 1; simp
      · simpa using h7
      · simpa using h8
  · intro q o' s' hq hFq
    rcases hnew q o' s' hq with h | h
    · exact hap q o' s' h hFq
    · have := hF q hFq; omega
end
end Go.V
