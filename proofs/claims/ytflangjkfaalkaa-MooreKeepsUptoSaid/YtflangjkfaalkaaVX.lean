/- Stores into a part of an element; calls of functions that the model stands in for. -/
import Derived.Test.YtflangjkfaalkaaVR
import Derived.Laws.Externs
set_option linter.all false
set_option linter.unusedVariables false
set_option linter.unnecessarySimpa false
set_option linter.unusedSimpArgs false
namespace Go.V
open Go Go.Proofs
theorem splice_left {c1 rest vs : List Value} {off : Nat} (h : off + vs.length ≤ c1.length) : splice (c1 ++ rest) off vs = splice c1 off vs ++ rest := by
  unfold splice
  rw [List.take_append_of_le_length (by omega), List.drop_append_of_le_length (by omega)]
  simp only [List.append_assoc]
theorem splice_right {c1 rest vs : List Value} {off : Nat} : splice (c1 ++ rest) (c1.length + off) vs = c1 ++ splice rest off vs := by
  unfold splice
  rw [List.take_length_add_append, Nat.add_assoc, List.drop_length_add_append]
  simp only [List.append_assoc]
theorem Enc.setp {α : Type} {d : Cod α} {w : World} {F : Nat → Prop} {vs : List Value} {off : Nat} (up : α → α) (z : α) (hK : ∀ y cs, d.K w F y cs → d.K w F (up y) (splice cs off vs)) (hf : off + vs.length ≤ d.sz) : ∀ {xs : List α} {cells : List Value} (i : Nat), Enc d w F xs cells → i < xs.length → Enc d w F (xs.set i (up (xs.getD i z))) (splice cells (i * d.sz + off) vs)
  | [], _, i, _, hi => by simp at hi
  | y :: ys, _, 0, ⟨c1, rest, e1, h1, h2⟩, _ => by
    subst e1
    refine ⟨splice c1 off vs, rest, ?_, hK y c1 h1, h2⟩
    rw [Nat.zero_mul, Nat.zero_add, splice_left (by rw [d.len h1]; exact hf)]
  | y :: ys, _, i + 1, ⟨c1, rest, e1, h1, h2⟩, hi => by
    subst e1
    have ih := Enc.setp up z hK hf i h2 (by simpa using hi)
    refine ⟨c1, _, ?_, h1, ih⟩
    have : (i + 1) * d.sz + off = c1.length + (i * d.sz + off) := by rw [d.len h1, Nat.add_mul]; omega
    rw [this, splice_right]
section
variable {P : Program} {T : List TRow} {w : World} {a : Act} {n : Nat} {l l' : List (Nat × Value)} {ops : Array Oper} {o : Oper} {rest : List Oper} {Q : Exit → Act → World → Prop} {t e : TypeId}
theorem e_setLp {α : Type} {d : Cod α} {p x : Operand} {g M s off : Nat} {i : Int} {F : Nat → Prop} {v : Value} {xs : List α} (up : α → α) (z : α) (E : Fr a n l) (ho : o.op = .store t p x) (hw : want ops l o = some true)
    (hp : opv l p = some (.pointer (some ⟨g, 0 + i.toNat * d.sz + off, none⟩))) (hx : opv l x = some v) (hT : TbOk P T) (hs : tsz T t = some s) (hB : BL d w F g e M xs) (hK : ∀ y cs, d.K w F y cs → d.K w F (up y) (splice cs off v.cells.toList)) (hsz : Nat.beq v.cells.size s = true) (hone : v.cells.toList.all Value.oneCell' = true) (hfit : Nat.ble (off + v.cells.size) d.sz = true) (hi : 0 ≤ i ∧ i < (M : Int)) (hd : o.dst = none)
    (k : ∀ (w' : World) (a' : Act), Chg (· = g) w w' → BL d w' F g e M (xs.set i.toNat (up (xs.getD i.toNat z))) → Fr a' n l → wpList P ops Q rest a' w') : wpList P ops Q (o :: rest) a w := by
  refine wpList_step fun K hK' => ?_
  rw [if_pos (want_spec E hw)]
  unfold Oper.wp
  obtain ⟨h1, h2, cells, h3, h4⟩ := hB
  have hsz' := Nat.eq_of_beq_eq_true hsz
  have hft := Nat.le_of_ble_eq_true hfit
  have hlv : v.cells.toList.length = v.cells.size := by simp
  have hil : i.toNat < xs.length := by omega
  have hcl := h3.length
  have hfit2 : i.toNat * d.sz + off + v.cells.toList.length ≤ cells.length := by
    rw [hcl, hlv]
    calc i.toNat * d.sz + off + v.cells.size ≤ (i.toNat + 1) * d.sz := by rw [Nat.add_mul]; omega
      _ ≤ xs.length * d.sz := Nat.mul_le_mul_right _ hil
  have hst := run_storeCells_at P g (i.toNat * d.sz + off) e v.cells.toList 0 ⟨cells⟩ w h4 (by simpa using hfit2) (fun q hq => (List.all_eq_true.1 hone) q hq)
  have hz := run_sizeOf' (w := w) hT hs
  have hr : (execOp a.eval o).run P w = .ok .skip (w.setRow g (splice cells (i.toNat * d.sz + off) v.cells.toList).toArray) := by
    have h1 : (Instr.storeAt t (.pointer (some ⟨g, 0 + i.toNat * d.sz + off, none⟩)) v).run P w = .ok () (w.setRow g (splice cells (i.toNat * d.sz + off) v.cells.toList).toArray) := by
      simp only [Nat.add_zero] at hst
      unfold Instr.storeAt storeVar
      simp only [Instr.sureAddr, Sem.run_bind, Sem.run_pure, Result.andThen_ok, hz, hsz', ne_eq, not_true, if_false, Nat.zero_add]
      exact hst
    simp only [execOp, ho, E.eval hp, E.eval hx, Sem.run_bind, h1, Result.andThen_ok, Sem.run_pure]
  rw [hr]
  obtain ⟨c1, c2⟩ := setRow_chg h4 (splice cells (i.toNat * d.sz + off) v.cells.toList)
  have hF : ∀ b, F b → ¬ (b = g) := fun b hb e => h2 (e ▸ hb)
  refine hK' _ _ (k _ _ c1 ⟨by simpa using h1, h2, _, (Enc.setp up z hK (by rw [hlv]; exact hft) _ h3 hil).keep c1 hF, c2⟩ ?_)
  rw [hd]
  exact E
variable {S : Nat → Prop} {Fa : Nat → Prop} {w0 : World} {L : List Ent}
theorem h_setp {α : Type} {d : Cod α} {p x : Operand} {g s c off : Nat} {i : Int} {f : Bool} {v : Value} {xs : List α} (up : α → α) (z u : α) (H : Hp S Fa w0 w L) (j : Nat) (hj : nth L j = .row f d e (some ⟨g, 0, none⟩) c xs) (E : Fr a n l) (ho : o.op = .store t p x) (hw : want ops l o = some true)
    (hp : opv l p = some (.pointer (some ⟨g, 0 + i.toNat * d.sz + off, none⟩))) (hx : opv l x = some v) (hT : TbOk P T) (hs : tsz T t = some s) (hu : u = up (xs.getD i.toNat z)) (hK : ∀ F y cs, d.K w F y cs → d.K w F (up y) (splice cs off v.cells.toList)) (hsz : Nat.beq v.cells.size s = true) (hone : v.cells.toList.all Value.oneCell' = true) (hfit : Nat.ble (off + v.cells.size) d.sz = true) (hi : 0 ≤ i ∧ i < (xs.length : Int)) (hd : o.dst = none)
    (k : ∀ (w' : World) (a' : Act), Chg (nth L j).at w w' → Hp S Fa w0 w' (setn L j (.row f d e (some ⟨g, 0, none⟩) c (xs.set i.toNat u))) → Fr a' n l → wpList P ops Q rest a' w') : wpList P ops Q (o :: rest) a w := by
  obtain ⟨Fz, H⟩ := H
  have hk := oks_nth j H.ok
  rw [hj] at hk
  obtain ⟨sp, hk⟩ := hk
  rcases hk with ⟨h1, _⟩ | ⟨g', hA, h1, h2, hB⟩
  · cases h1
  · cases hA
    refine e_setLp (M := c) up z E ho hw hp hx hT hs hB (hK _) hsz hone hfit ⟨hi.1, by omega⟩ hd fun w' a' hc hB' E' => ?_
    have hc' : Chg (nth L j).at w w' := by rw [hj]; exact hc.mono fun q _ hq => by subst hq; exact ⟨0, none, rfl⟩
    refine k w' a' hc' ⟨Fz, H.put j _ hc' (fun q hq => ⟨.inl (by rw [hj]; exact hq), by obtain rfl := At.of_g hq; exact hB'.lt⟩) ⟨sp, .inr ⟨g, rfl, h1, by simpa using h2, ?_⟩⟩⟩ E'
    have e1 : (xs ++ sp).getD i.toNat z = xs.getD i.toNat z := by
      rw [List.getD_eq_getElem?_getD, List.getD_eq_getElem?_getD, List.getElem?_append_left (by omega)]
    rw [set_app (by omega), e1, ← hu] at hB'
    exact hB'
theorem h_setpx {α : Type} {d : Cod α} {p x : Operand} {g s c off : Nat} {i : Int} {f : Bool} {v : Value} {xs sp : List α} (up : α → α) (z u : α) (H : Hp S Fa w0 w L) (j : Nat) (hj : nth L j = .rowx f d e (some ⟨g, 0, none⟩) c xs sp) (E : Fr a n l) (ho : o.op = .store t p x) (hw : want ops l o = some true)
    (hp : opv l p = some (.pointer (some ⟨g, 0 + i.toNat * d.sz + off, none⟩))) (hx : opv l x = some v) (hT : TbOk P T) (hs : tsz T t = some s) (hu : u = up (xs.getD i.toNat z)) (hK : ∀ F y cs, d.K w F y cs → d.K w F (up y) (splice cs off v.cells.toList)) (hsz : Nat.beq v.cells.size s = true) (hone : v.cells.toList.all Value.oneCell' = true) (hfit : Nat.ble (off + v.cells.size) d.sz = true) (hi : 0 ≤ i ∧ i < (xs.length : Int)) (hd : o.dst = none)
    (k : ∀ (w' : World) (a' : Act), Chg (nth L j).at w w' → Hp S Fa w0 w' (setn L j (.rowx f d e (some ⟨g, 0, none⟩) c (xs.set i.toNat u) sp)) → Fr a' n l → wpList P ops Q rest a' w') : wpList P ops Q (o :: rest) a w := by
  obtain ⟨Fz, H⟩ := H
  have hk := oks_nth j H.ok
  rw [hj] at hk
  rcases hk with ⟨h1, _⟩ | ⟨g', hA, h1, h2, hB⟩
  · cases h1
  · cases hA
    refine e_setLp (M := c) up z E ho hw hp hx hT hs hB (hK _) hsz hone hfit ⟨hi.1, by omega⟩ hd fun w' a' hc hB' E' => ?_
    have hc' : Chg (nth L j).at w w' := by rw [hj]; exact hc.mono fun q _ hq => by subst hq; exact ⟨0, none, rfl⟩
    refine k w' a' hc' ⟨Fz, H.put j _ hc' (fun q hq => ⟨.inl (by rw [hj]; exact hq), by obtain rfl := At.of_g hq; exact hB'.lt⟩) (.inr ⟨g, rfl, h1, by simpa using h2, ?_⟩)⟩ E'
    have e1 : (xs ++ sp).getD i.toNat z = xs.getD i.toNat z := by
      rw [List.getD_eq_getElem?_getD, List.getD_eq_getElem?_getD, List.getElem?_append_left (by omega)]
    rw [set_app (by omega), e1, ← hu] at hB'
    exact hB'
theorem e_add64 {f : FuncId} {fn : Func} {tys : Array TypeId} {xo yo co : Operand} {x y c : Int} (E : Fr a n l) (ho : o.op = .call { callee := .value (.func f), args := #[xo, yo, co], argTypes := tys }) (hw : want ops l o = some true)
    (hf : P.funcs[f]? = some fn) (hname : (fn.name == "runtime.NumGoroutine") = false) (hb : fn.body.isNone = true) (hn : Extern.findNext fn = none) (he : Extern.find fn = some add64Entry)
    (hx : opvs l [xo, yo, co] = some [.int .u64 x, .int .u64 y, .int .u64 c]) (hP : 0 ≤ x ∧ 0 ≤ y ∧ 0 ≤ c ∧ c ≤ 1)
    (hl : putE n l o.dst (.tuple #[.int .u64 ((x + y + c) % 18446744073709551616), .int .u64 ((x + y + c) / 18446744073709551616)]) = some l') (k : ∀ a', Fr a' n l' → wpList P ops Q rest a' w) : wpList P ops Q (o :: rest) a w := by
  refine step_val E hw ?_ hl k
  have hm : ([xo, yo, co].map a.eval) = _ := opvs_eval E hx
  have hm' := hm
  simp only [List.map_cons, List.map_nil, List.cons.injEq, and_true] at hm'
  obtain ⟨hm1, hm2, hm3⟩ := hm'
  have hc : (callFunc f #[.int .u64 x, .int .u64 y, .int .u64 c]).run P w = .ok (.value (.tuple #[.int .u64 ((x + y + c) % 18446744073709551616), .int .u64 ((x + y + c) / 18446744073709551616)])) w := by
    rw [run_callFunc_extern hf hname hb hn he, run_add64 x y c hP.1 hP.2.1 hP.2.2.1 hP.2.2.2]
    rfl
  have h0 : a.eval (Operand.func f) = Value.func (Fn.func f) #[] #[] := rfl
  simp [execOp, ho, resolve, h0, Deferred.ofValue, invoke, hm1, hm2, hm3, hc, Result.andThen]
theorem e_clearL {α : Type} {d : Cod α} {x : Operand} {r : TRow} {g N M c : Nat} {F : Nat → Prop} {xs : List α} (z : α) (E : Fr a n l) (ho : o.op = .call { callee := .builtin .clear, args := #[x], argTypes := #[t] }) (hw : want ops l o = some true)
    (hT : TbOk P T) (ht : tdesc T t = some (.slice e)) (he : tlk T e = some r) (hx : opv l x = some (.slice (some ⟨g, 0, none⟩) N c)) (hB : BL d w F g e M xs) (hn : N ≤ M) (hK : ∀ w F, d.K w F z r.z.cells.toList) (hd : o.dst = none)
    (k : ∀ (w' : World) (a' : Act), Chg (· = g) w w' → BL d w' F g e M (List.replicate N z ++ xs.drop N) → Fr a' n l → wpList P ops Q rest a' w') : wpList P ops Q (o :: rest) a w := by
  refine wpList_step fun K hK' => ?_
  rw [if_pos (want_spec E hw)]
  unfold Oper.wp
  obtain ⟨h1, h2, cells, h3, h4⟩ := hB
  have hut := tdesc_row hT ht
  have hcl := h3.length
  have hzr := tz_row (w := w) hT he
  have hzl := d.len (hK w F)
  have hcy := (Enc.replicate (hK w F) N).length
  rw [List.length_replicate] at hcy
  have hfit : 0 + 0 + ((List.replicate N r.z.cells.toList).flatten).length ≤ cells.length := by
    rw [hcy, hcl]; simp only [Nat.zero_add]; exact Nat.mul_le_mul_right _ (by omega)
  have hst := run_storeCells_at P g 0 e ((List.replicate N r.z.cells.toList).flatten) 0 ⟨cells⟩ w h4 (by simpa using hfit) (Enc.replicate (hK w F) N).ones
  have hr : (execOp a.eval o).run P w = .ok (.value (.tuple #[])) (w.setRow g (splice cells 0 ((List.replicate N r.z.cells.toList).flatten)).toArray) ∨ (N = 0 ∧ (execOp a.eval o).run P w = .ok (.value (.tuple #[])) w) := by
    simp only [Nat.add_zero, Nat.zero_add] at hst
    cases N with
    | zero =>
      right
      refine ⟨rfl, ?_⟩
      simp only [execOp, ho, resolve, invoke, builtin, Sem.run_bind, Sem.run_pure, Result.andThen_ok, List.map_toArray, List.map_cons, List.map_nil, E.eval hx, Builtin.clear_]
      simp only [List.getElem?_toArray, List.getElem?_cons_zero, List.getElem?_cons_succ, Sem.run_bind, run_underlying hut, Result.andThen_ok, Sem.run_pure]
    | succ m =>
      left
      have hst' : (storeCells ⟨g, 0, none⟩ ((List.replicate (m + 1) r.z.cells.toList).flatten)).run P w = .ok () (w.setRow g (splice cells 0 ((List.replicate (m + 1) r.z.cells.toList).flatten)).toArray) := by
        rw [hst]; unfold splice; simp
      have hz : (Builtin.zeroCells r.z.cells (m + 1)).toList = (List.replicate (m + 1) r.z.cells.toList).flatten := by
        have := mod_cells r.z.cells.toList (m + 1)
        simpa [Builtin.zeroCells] using this
      simp only [execOp, ho, resolve, invoke, builtin, Sem.run_bind, Sem.run_pure, Result.andThen_ok, List.map_toArray, List.map_cons, List.map_nil, E.eval hx, Builtin.clear_]
      simp only [List.getElem?_toArray, List.getElem?_cons_zero, List.getElem?_cons_succ, Sem.run_bind, run_underlying hut, Result.andThen_ok, Sem.run_pure, hzr, hz, hst']
  rcases hr with hr | ⟨h0, hr⟩
  · rw [hr]
    obtain ⟨c1, c2'⟩ := setRow_chg h4 (splice cells 0 ((List.replicate N r.z.cells.toList).flatten))
    have hF : ∀ b, F b → ¬ (b = g) := fun b hb e => h2 (e ▸ hb)
    refine hK' _ _ (k _ _ c1 ⟨by simp; omega, h2, splice cells 0 ((List.replicate N r.z.cells.toList).flatten), ?_, c2'⟩ (by rw [hd]; exact E))
    have := ((Enc.replicate (hK w F) N).keep c1 hF).append ((h3.drop N).keep c1 hF)
    have e3 : splice cells 0 ((List.replicate N r.z.cells.toList).flatten) = (List.replicate N r.z.cells.toList).flatten ++ cells.drop (N * d.sz) := by
      unfold splice
      rw [List.take_zero, List.nil_append, Nat.zero_add, hcy]
    rw [e3] at this ⊢
    exact this
  · subst h0
    rw [hr]
    refine hK' _ _ (k _ _ (Chg.refl _ _) ⟨by simpa using h1, h2, cells, by simpa using h3, h4⟩ (by rw [hd]; exact E))
theorem h_clearx {α : Type} {d : Cod α} {x : Operand} {r : TRow} {g c : Nat} {f : Bool} {xs sp : List α} (z : α) (H : Hp S Fa w0 w L) (j : Nat) (hj : nth L j = .rowx f d e (some ⟨g, 0, none⟩) c xs sp) (E : Fr a n l) (ho : o.op = .call { callee := .builtin .clear, args := #[x], argTypes := #[t] }) (hw : want ops l o = some true)
    (hT : TbOk P T) (ht : tdesc T t = some (.slice e)) (he : tlk T e = some r) (hx : opv l x = some (.slice (some ⟨g, 0, none⟩) xs.length c)) (hK : ∀ w F, d.K w F z r.z.cells.toList) (hd : o.dst = none)
    (k : ∀ (w' : World) (a' : Act), Chg (nth L j).at w w' → Hp S Fa w0 w' (setn L j (.rowx f d e (some ⟨g, 0, none⟩) c (List.replicate xs.length z) sp)) → Fr a' n l → wpList P ops Q rest a' w') : wpList P ops Q (o :: rest) a w := by
  obtain ⟨Fz, H⟩ := H
  have hk := oks_nth j H.ok
  rw [hj] at hk
  rcases hk with ⟨h1, _⟩ | ⟨g', hA, h1, h2, hB⟩
  · cases h1
  · cases hA
    refine e_clearL (M := c) z E ho hw hT ht he hx hB (by omega) hK hd fun w' a' hc hB' E' => ?_
    have hc' : Chg (nth L j).at w w' := by rw [hj]; exact hc.mono fun q _ hq => by subst hq; exact ⟨0, none, rfl⟩
    refine k w' a' hc' ⟨Fz, H.put j _ hc' (fun q hq => ⟨.inl (by rw [hj]; exact hq), by obtain rfl := At.of_g hq; exact hB'.lt⟩) (.inr ⟨g, rfl, h1, by simpa using h2, ?_⟩)⟩ E'
    rw [List.drop_left] at hB'
    exact hB'
theorem h_clear {α : Type} {d : Cod α} {x : Operand} {r : TRow} {g c : Nat} {f : Bool} {xs : List α} (z : α) (H : Hp S Fa w0 w L) (j : Nat) (hj : nth L j = .row f d e (some ⟨g, 0, none⟩) c xs) (E : Fr a n l) (ho : o.op = .call { callee := .builtin .clear, args := #[x], argTypes := #[t] }) (hw : want ops l o = some true)
    (hT : TbOk P T) (ht : tdesc T t = some (.slice e)) (he : tlk T e = some r) (hx : opv l x = some (.slice (some ⟨g, 0, none⟩) xs.length c)) (hK : ∀ w F, d.K w F z r.z.cells.toList) (hd : o.dst = none)
    (k : ∀ (w' : World) (a' : Act), Chg (nth L j).at w w' → Hp S Fa w0 w' (setn L j (.row f d e (some ⟨g, 0, none⟩) c (List.replicate xs.length z))) → Fr a' n l → wpList P ops Q rest a' w') : wpList P ops Q (o :: rest) a w := by
  obtain ⟨Fz, H⟩ := H
  have hk := oks_nth j H.ok
  rw [hj] at hk
  obtain ⟨sp, hk⟩ := hk
  rcases hk with ⟨h1, _⟩ | ⟨g', hA, h1, h2, hB⟩
  · cases h1
  · cases hA
    refine e_clearL (M := c) z E ho hw hT ht he hx hB (by omega) hK hd fun w' a' hc hB' E' => ?_
    have hc' : Chg (nth L j).at w w' := by rw [hj]; exact hc.mono fun q _ hq => by subst hq; exact ⟨0, none, rfl⟩
    refine k w' a' hc' ⟨Fz, H.put j _ hc' (fun q hq => ⟨.inl (by rw [hj]; exact hq), by obtain rfl := At.of_g hq; exact hB'.lt⟩) ⟨sp, .inr ⟨g, rfl, h1, by simpa using h2, ?_⟩⟩⟩ E'
    rw [List.drop_left] at hB'
    exact hB'
theorem e_clear0 {x : Operand} {N c : Nat} (E : Fr a n l) (ho : o.op = .call { callee := .builtin .clear, args := #[x], argTypes := #[t] }) (hw : want ops l o = some true)
    (hT : TbOk P T) (ht : tdesc T t = some (.slice e)) (hx : opv l x = some (.slice none N c)) (hd : o.dst = none)
    (k : Fr a n l → wpList P ops Q rest a w) : wpList P ops Q (o :: rest) a w := by
  refine wpList_step fun K hK' => ?_
  rw [if_pos (want_spec E hw)]
  unfold Oper.wp
  have hut := tdesc_row hT ht
  have hr : (execOp a.eval o).run P w = .ok (.value (.tuple #[])) w := by
    simp only [execOp, ho, resolve, invoke, builtin, Sem.run_bind, Sem.run_pure, Result.andThen_ok, List.map_toArray, List.map_cons, List.map_nil, E.eval hx, Builtin.clear_]
    simp only [List.getElem?_toArray, List.getElem?_cons_zero, List.getElem?_cons_succ, Sem.run_bind, run_underlying hut, Result.andThen_ok, Sem.run_pure]
  rw [hr]
  refine hK' _ _ ?_
  rw [hd]
  exact k E
theorem h_clearA {α : Type} {d : Cod α} {x : Operand} {r : TRow} {A : Option Addr} {c : Nat} {f : Bool} {xs : List α} (z : α) (H : Hp S Fa w0 w L) (j : Nat) (hj : nth L j = .row f d e A c xs) (E : Fr a n l) (ho : o.op = .call { callee := .builtin .clear, args := #[x], argTypes := #[t] }) (hw : want ops l o = some true)
    (hT : TbOk P T) (ht : tdesc T t = some (.slice e)) (he : tlk T e = some r) (hx : opv l x = some (.slice A xs.length c)) (hK : ∀ w F, d.K w F z r.z.cells.toList) (hd : o.dst = none)
    (k : ∀ (w' : World) (a' : Act), Chg (nth L j).at w w' → Hp S Fa w0 w' (setn L j (.row f d e A c (List.replicate xs.length z))) → Fr a' n l → wpList P ops Q rest a' w') : wpList P ops Q (o :: rest) a w := by
  cases hA : A with
  | none =>
    subst hA
    obtain ⟨Fz, H⟩ := H
    have hk := oks_nth j H.ok
    rw [hj] at hk
    obtain ⟨sp, hk⟩ := hk
    refine e_clear0 E ho hw hT ht hx hd fun E' => k w a (Chg.refl _ _) ⟨Fz, H.put j _ (Chg.refl _ _) (fun q hq => absurd hq (At.nil q)) ⟨sp, ?_⟩⟩ E'
    rcases hk with hk | ⟨g', hA', _⟩
    · left
      have : xs = [] := by have := hk; simp_all
      subst this
      exact hk
    · cases hA'
  | some ad =>
    subst hA
    have hk := H
    obtain ⟨Fz, HF⟩ := hk
    have hk := oks_nth j HF.ok
    rw [hj] at hk
    obtain ⟨sp, hk⟩ := hk
    rcases hk with ⟨h1, _⟩ | ⟨g', hA, _⟩
    · cases h1
    · cases hA
      exact h_clear z H j hj E ho hw hT ht he hx hK hd k
theorem h_clearAx {α : Type} {d : Cod α} {x : Operand} {r : TRow} {A : Option Addr} {c : Nat} {f : Bool} {xs sp : List α} (z : α) (H : Hp S Fa w0 w L) (j : Nat) (hj : nth L j = .rowx f d e A c xs sp) (E : Fr a n l) (ho : o.op = .call { callee := .builtin .clear, args := #[x], argTypes := #[t] }) (hw : want ops l o = some true)
    (hT : TbOk P T) (ht : tdesc T t = some (.slice e)) (he : tlk T e = some r) (hx : opv l x = some (.slice A xs.length c)) (hK : ∀ w F, d.K w F z r.z.cells.toList) (hd : o.dst = none)
    (k : ∀ (w' : World) (a' : Act), Chg (nth L j).at w w' → Hp S Fa w0 w' (setn L j (.rowx f d e A c (List.replicate xs.length z) sp)) → Fr a' n l → wpList P ops Q rest a' w') : wpList P ops Q (o :: rest) a w := by
  cases hA : A with
  | none =>
    subst hA
    obtain ⟨Fz, H⟩ := H
    have hk := oks_nth j H.ok
    rw [hj] at hk
    refine e_clear0 E ho hw hT ht hx hd fun E' => k w a (Chg.refl _ _) ⟨Fz, H.put j _ (Chg.refl _ _) (fun q hq => absurd hq (At.nil q)) ?_⟩ E'
    rcases hk with hk | ⟨g', hA', _⟩
    · left
      have : xs = [] := by have := hk; simp_all
      subst this
      exact hk
    · cases hA'
  | some ad =>
    subst hA
    have hk := H
    obtain ⟨Fz, HF⟩ := hk
    have hk := oks_nth j HF.ok
    rw [hj] at hk
    rcases hk with ⟨h1, _⟩ | ⟨g', hA, _⟩
    · cases h1
    · cases hA
      exact h_clearx z H j hj E ho hw hT ht he hx hK hd k
abbrev fAdd (x y : Nat) : Option Nat := (FloatKind.format .f64).add x y
abbrev fSub (x y : Nat) : Option Nat := (FloatKind.format .f64).sub x y
abbrev fMul (x y : Nat) : Option Nat := (FloatKind.format .f64).mul x y
abbrev fDiv (x y : Nat) : Option Nat := (FloatKind.format .f64).div x y
abbrev fEq (x y : Nat) : Bool := (FloatKind.format .f64).order x y == some .eq
abbrev fNe (x y : Nat) : Bool := (FloatKind.format .f64).order x y != some .eq
abbrev fLt (x y : Nat) : Bool := (FloatKind.format .f64).order x y == some .lt
abbrev fLe (x y : Nat) : Bool := (FloatKind.format .f64).order x y == some .lt || (FloatKind.format .f64).order x y == some .eq
abbrev fGt (x y : Nat) : Bool := (FloatKind.format .f64).order x y == some .gt
abbrev fGe (x y : Nat) : Bool := (FloatKind.format .f64).order x y == some .gt || (FloatKind.format .f64).order x y == some .eq
theorem e_ext1 {f : FuncId} {fn : Func} {tys : Array TypeId} {xo : Operand} {x v : Value} {en : Array Value → Sem Value} (E : Fr a n l) (ho : o.op = .call { callee := .value (.func f), args := #[xo], argTypes := tys }) (hw : want ops l o = some true)
    (hf : P.funcs[f]? = some fn) (hname : (fn.name == "runtime.NumGoroutine") = false) (hb : fn.body.isNone = true) (hn : Extern.findNext fn = none) (he : Extern.find fn = some en)
    (hx : opvs l [xo] = some [x]) (hr : (en #[x]).run P w = .ok v w)
    (hl : putE n l o.dst v = some l') (k : ∀ a', Fr a' n l' → wpList P ops Q rest a' w) : wpList P ops Q (o :: rest) a w := by
  refine step_val E hw ?_ hl k
  have hm : ([xo].map a.eval) = _ := opvs_eval E hx
  simp only [List.map_cons, List.map_nil, List.cons.injEq, and_true] at hm
  have hc : (callFunc f #[x]).run P w = .ok (.value v) w := by
    rw [run_callFunc_extern hf hname hb hn he, hr]
    rfl
  have h0 : a.eval (Operand.func f) = Value.func (Fn.func f) #[] #[] := rfl
  simp [execOp, ho, resolve, h0, Deferred.ofValue, invoke, hm, hc, Result.andThen]
theorem run_fbits {b : Nat} : (Extern.MathFloatBits.float64bits #[.float .f64 b]).run P w = .ok (.int .u64 (b : Int)) w := rfl
theorem run_ffrom {x : Int} : (Extern.MathFloatBits.float64frombits #[.int .u64 x]).run P w = .ok (.float .f64 x.toNat) w := rfl
end
end Go.V
