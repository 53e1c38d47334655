/- Whole blocks of one's own: made, set, copied into. -/
import Derived.Test.YtflangjkfaalkaaV5
set_option linter.all false
set_option linter.unusedVariables false
set_option linter.unnecessarySimpa false
set_option linter.unusedSimpArgs false
namespace Go.V
open Go Go.RowKit

/-- Block g, one of the call's own, holds just these elements, M of them; what they lead to lies in blocks of F. -/
def BL {α : Type} (d : Cod α) (w : World) (F : Nat → Prop) (g : Nat) (e : TypeId) (M : Nat) (xs : List α) : Prop :=
  xs.length = M ∧ ¬ F g ∧ ∃ cells, Enc d w F xs cells ∧ Bx w g e cells

section
variable {α : Type} {d : Cod α} {w w' : World} {F : Nat → Prop} {g M : Nat} {e : TypeId} {xs : List α} {S : Nat → Prop}

theorem BL.lt (h : BL d w F g e M xs) : g < w.heap.size := by
  obtain ⟨_, _, cells, _, hb⟩ := h
  exact hb.lt
theorem BL.len (h : BL d w F g e M xs) : xs.length = M := h.1
theorem BL.chg (h : BL d w F g e M xs) (hc : Chg S w w') (hg : ¬ S g) (hF : ∀ b, F b → ¬ S b) : BL d w' F g e M xs := by
  obtain ⟨h1, h2, cells, h3, h4⟩ := h
  exact ⟨h1, h2, cells, h3.keep hc hF, h4.chg hc hg⟩
theorem BL.C (h : BL d w F g e M xs) : V.C d w (fun b => F b ∨ b = g) (some ⟨g, 0, none⟩) xs := by
  obtain ⟨h1, h2, cells, h3, h4⟩ := h
  refine ⟨cells, h3.mono fun b hb => .inl hb, fun _ => ⟨g, 0, rfl, .inr rfl⟩, fun b o e => ?_⟩
  cases e
  exact h4.cells
/-- for a callee: it lies in memory as it stands -/
theorem BL.now (h : BL d w No g e M xs) : V.C d w (Lo w.heap.size) (some ⟨g, 0, none⟩) xs := h.C.mono fun b hb => by
  rcases hb with hb | rfl
  · exact hb.elim
  · exact h.lt
theorem BL.eq (h : BL d w F g e M xs) {ys : List α} (he : xs = ys) : BL d w F g e M ys := he ▸ h

theorem Enc.set {cs : List Value} {x : α} (hk : d.K w F x cs) : ∀ {xs : List α} {cells : List Value} (i : Nat), Enc d w F xs cells → i < xs.length → Enc d w F (xs.set i x) (splice cells (i * d.sz) cs)
  | [], _, i, _, hi => by simp at hi
  | y :: ys, _, 0, ⟨c1, rest, e1, h1, h2⟩, _ => by
    subst e1
    refine ⟨cs, rest, ?_, hk, h2⟩
    unfold splice
    simp [d.len hk, ← d.len h1]
  | y :: ys, _, i + 1, ⟨c1, rest, e1, h1, h2⟩, hi => by
    subst e1
    refine ⟨c1, splice rest (i * d.sz) cs, ?_, h1, Enc.set hk i h2 (by simpa using hi)⟩
    unfold splice
    have hl := d.len h1
    rw [show (i + 1) * d.sz = c1.length + i * d.sz by rw [hl, Nat.add_mul]; omega]
    rw [List.take_append, List.take_of_length_le (by omega), Nat.add_sub_cancel_left, show c1.length + i * d.sz + cs.length = c1.length + (i * d.sz + cs.length) by omega, List.drop_append, List.drop_of_length_le (by omega), Nat.add_sub_cancel_left]
    simp

theorem Enc.replicate {z : α} {cs : List Value} (hk : d.K w F z cs) : ∀ (m : Nat), Enc d w F (List.replicate m z) ((List.replicate m cs).flatten)
  | 0 => by simp [Enc]
  | m + 1 => by
    rw [List.replicate_succ, List.replicate_succ, List.flatten_cons]
    exact ⟨cs, _, rfl, hk, Enc.replicate hk m⟩

theorem Enc.anyF {m : Nat} {f : α → List Value} {e : ∀ x, (f x).length = m} {e1 : ∀ x, (f x).all Value.oneCell' = true} {G : Nat → Prop} : ∀ {xs : List α} (cells : List Value), Enc (Cod.plain m f e e1) w G xs cells → Enc (Cod.plain m f e e1) w F xs cells
  | [], _, h => h
  | _ :: _, _, ⟨cs, rest, e1, h1, h2⟩ => ⟨cs, rest, e1, h1, Enc.anyF rest h2⟩

theorem Enc.drop : ∀ {xs : List α} {cells : List Value} (i : Nat), Enc d w F xs cells → Enc d w F (xs.drop i) (cells.drop (i * d.sz))
  | [], _, i, h => by cases h; simp [Enc]
  | _ :: _, _, 0, h => by simpa using h
  | x :: xs, _, i + 1, ⟨cs, rest, e1, h1, h2⟩ => by
    subst e1
    have hl := d.len h1
    have e2 : (cs ++ rest).drop ((i + 1) * d.sz) = rest.drop (i * d.sz) := by
      rw [show (i + 1) * d.sz = cs.length + i * d.sz by rw [hl, Nat.add_mul]; omega, List.drop_append, List.drop_of_length_le (by omega), Nat.add_sub_cancel_left, List.nil_append]
    rw [e2]
    exact Enc.drop i h2
end

section
variable {P : Program} {T : List TRow} {w w' : World} {a : Act} {n : Nat} {l l' : List (Nat × Value)} {ops : Array Oper} {Q : Exit → Act → World → Prop} {o : Oper} {rest : List Oper} {t e : TypeId}

theorem mod_cells (zc : List Value) (M : Nat) : ((Array.range (M * zc.length)).map (fun i => zc.toArray[i % zc.toArray.size]!)).toList = (List.replicate M zc).flatten := by
  induction M with
  | zero => simp
  | succ M ih =>
    rw [Nat.succ_mul]
    have h1 : (Array.range (M * zc.length + zc.length)).toList = (Array.range (M * zc.length)).toList ++ (List.range' (M * zc.length) zc.length) := by
      simp only [Array.toList_range]
      rw [List.range_eq_range', List.range_eq_range', ← List.range'_append]
      simp
    have h2 : (List.replicate (M + 1) zc).flatten = (List.replicate M zc).flatten ++ zc := by
      rw [List.replicate_succ']
      simp
    rw [h2, ← ih]
    simp only [Array.toList_map, h1, List.map_append]
    congr 1
    apply List.ext_getElem
    · simp
    · intro i hi hi2
      simp at hi
      have : (M * zc.length + i) % zc.length = i := by rw [Nat.add_comm, Nat.add_mul_mod_self_right]; exact Nat.mod_eq_of_lt hi
      simp [this, hi]

/-- 'make([]T, N, M)' -/
theorem e_makeL {α : Type} (d : Cod α) {x y : Operand} {r : TRow} {X Y : Int} {z : α} (N M : Nat) (F : Nat → Prop) (E : Fr a n l) (ho : o.op = .makeSlice t x y) (hw : want ops l o = some true) (hT : TbOk P T) (ht : tdesc T t = some (.slice e)) (he : tlk T e = some r)
    (hx : opv l x = some (.int .i64 X)) (hy : opv l y = some (.int .i64 Y)) (hX : X = (N : Int)) (hY : Y = (M : Int)) (hNM : N ≤ M) (hb : r.by_ * M ≤ 281474976710656) (hM : M ≤ 1000000000000000) (hs : Nat.beq d.sz r.sz = true) (hs0 : Nat.blt 0 r.sz = true)
    (hK : ∀ w F, d.K w F z r.z.cells.toList) (hF : ∀ q, F q → q < w.heap.size)
    (k : ∀ (w' : World) (g : Nat) (a' : Act), Ext w w' → w.heap.size ≤ g → BL d w' F g e M (List.replicate M z) → (∀ l', putE n l o.dst (.slice (some ⟨g, 0, none⟩) N M) = some l' → Fr a' n l') → wpList P ops Q rest a' w') :
    wpList P ops Q (o :: rest) a w := by
  refine wpList_step fun K hK' => ?_
  rw [if_pos (want_spec E hw)]
  unfold Oper.wp
  obtain ⟨hu, i, hi, hsz, hbt, hzz⟩ := hT.row he
  have hut := tdesc_row hT ht
  have hs' := Nat.eq_of_beq_eq_true hs
  have hs0' : 0 < r.sz := by simp [Nat.blt] at hs0; omega
  have hzl : r.z.cells.toList.length = r.sz := by rw [← hs']; exact d.len (hK w F)
  have hzr := tz_row (w := w) hT he
  have hsr : (sizeOf e).run P w = .ok r.sz w := by simp [sizeOf, typeInfo, hi, hsz]
  subst hX hY
  have w1 : IntKind.i64.wrap (N : Int) = N := by rw [wrap_i64 (by omega) (by omega)]
  have w2 : IntKind.i64.wrap (M : Int) = M := by rw [wrap_i64 (by omega) (by omega)]
  have hr : (execOp a.eval o).run P w = .ok (.value (.slice (some ⟨w.heap.size, 0, none⟩) N M)) (w.alloc (.cells ((List.replicate M r.z.cells.toList).flatten).toArray e)) := by
    have hcells : (Array.range (M * r.sz)).map (fun i => r.z.cells[i % r.z.cells.size]!) = ((List.replicate M r.z.cells.toList).flatten).toArray := by
      apply Array.ext'
      have := mod_cells r.z.cells.toList M
      rw [hzl] at this
      simpa using this
    have c1 : ¬ ((i.bytes : Int) * (M : Int) > 2 ^ 48) := by
      rw [hbt]
      have h1 : ((r.by_ * M : Nat) : Int) ≤ ((281474976710656 : Nat) : Int) := Int.ofNat_le.2 hb
      rw [Int.natCast_mul] at h1
      omega
    have c0 : ¬ ((M : Int) < 0) := by omega
    have c2 : ¬ ((N : Int) < 0) := by omega
    have c3 : ¬ ((N : Int) > (M : Int)) := by omega
    have hroom : ∀ b, (askRoom b).run P w = .ok () w := by
      intro b; unfold askRoom; split <;> rfl
    have htl : (typeInfo e).run P w = .ok i w := by simp [typeInfo, hi]
    simp only [execOp, ho, E.eval hx, E.eval hy, Instr.makeSlice, Sem.run_bind, run_underlying hut, Result.andThen_ok, asInt, asIntOf, Sem.run_pure, htl, w1, w2]
    simp only [c0, c1, c2, c3, decide_false, Bool.or_self, Bool.false_or, Bool.false_eq_true, if_false, Sem.run_bind, hroom, Result.andThen_ok, hsr, Int.toNat_natCast]
    by_cases h0 : M * r.sz = 0
    · have hM0 : M = 0 := by rcases Nat.mul_eq_zero.1 h0 with h | h <;> omega
      subst hM0
      simp only [h0, if_true, Sem.run_bind, Sem.run_pure, Result.andThen_ok, run_newRow]
      have e0 : ∀ f : Nat → Value, (Array.range 0).map f = #[] := fun f => by simp
      rw [e0]
      simp
    · simp only [h0, if_false, Sem.run_bind, hzr, Result.andThen_ok, Sem.run_pure, hcells, run_newRow]
  rw [hr]
  refine hK' _ _ (k _ w.heap.size _ (Chg.alloc _ _) (Nat.le_refl _) ⟨by simp, fun hq => by have := hF _ hq; omega, _, Enc.replicate (hK _ _) M, Bx.alloc _ _ _⟩ fun l' hl => putE_spec E hl)

/-- a store into an element of a whole block -/
theorem e_setL {α : Type} {d : Cod α} {p x : Operand} {g M s : Nat} {i : Int} {F : Nat → Prop} {v : Value} {xs : List α} (u : α) (E : Fr a n l) (ho : o.op = .store t p x) (hw : want ops l o = some true)
    (hp : opv l p = some (.pointer (some ⟨g, 0 + i.toNat * d.sz, none⟩))) (hx : opv l x = some v) (hT : TbOk P T) (hs : tsz T t = some s) (hB : BL d w F g e M xs) (hK : d.K w F u v.cells.toList) (hsz : Nat.beq d.sz s = true) (hi : 0 ≤ i ∧ i < (M : Int)) (hd : o.dst = none)
    (k : ∀ (w' : World) (a' : Act), Chg (· = g) w w' → BL d w' F g e M (xs.set i.toNat u) → Fr a' n l → wpList P ops Q rest a' w') : wpList P ops Q (o :: rest) a w := by
  refine wpList_step fun K hK' => ?_
  rw [if_pos (want_spec E hw)]
  unfold Oper.wp
  obtain ⟨h1, h2, cells, h3, h4⟩ := hB
  have hsz' := Nat.eq_of_beq_eq_true hsz
  have hl := d.len hK
  have hil : i.toNat < xs.length := by omega
  have hcl := h3.length
  have hfit : i.toNat * d.sz + v.cells.toList.length ≤ cells.length := by
    rw [hl, hcl]
    calc i.toNat * d.sz + d.sz = (i.toNat + 1) * d.sz := by rw [Nat.add_mul]; omega
      _ ≤ xs.length * d.sz := Nat.mul_le_mul_right _ hil
  have hst := run_storeCells_at P g (i.toNat * d.sz) e v.cells.toList 0 ⟨cells⟩ w h4 (by simpa using hfit) (fun q hq => d.one hK q hq)
  have hz := run_sizeOf' (w := w) hT hs
  have hv : v.cells.size = s := by rw [← hsz', ← hl]; simp
  have hr : (execOp a.eval o).run P w = .ok .skip (w.setRow g (splice cells (i.toNat * d.sz) v.cells.toList).toArray) := by
    have h1 : (Instr.storeAt t (.pointer (some ⟨g, 0 + i.toNat * d.sz, none⟩)) v).run P w = .ok () (w.setRow g (splice cells (i.toNat * d.sz) v.cells.toList).toArray) := by
      simp only [Nat.add_zero] at hst
      unfold Instr.storeAt storeVar
      simp only [Instr.sureAddr, Sem.run_bind, Sem.run_pure, Result.andThen_ok, hz, hv, ne_eq, not_true, if_false, Nat.zero_add]
      exact hst
    simp only [execOp, ho, E.eval hp, E.eval hx, Sem.run_bind, h1, Result.andThen_ok, Sem.run_pure]
  rw [hr]
  obtain ⟨c1, c2⟩ := setRow_chg h4 (splice cells (i.toNat * d.sz) v.cells.toList)
  have hF : ∀ b, F b → ¬ (b = g) := fun b hb e => h2 (e ▸ hb)
  refine hK' _ _ (k _ _ c1 ⟨by simpa using h1, h2, _, (Enc.set hK _ h3 hil).keep c1 hF, c2⟩ ?_)
  rw [hd]
  exact E

/-- 'copy(dst, src)', dst a whole block (or a beginning of it), all of src copied -/
theorem e_copyL {α : Type} {d : Cod α} {x y : Operand} {t2 : TypeId} {g N M s c c2 : Nat} {F : Nat → Prop} {A : Option Addr} {xs ys : List α} (E : Fr a n l) (ho : o.op = .call { callee := .builtin .copy, args := #[x, y], argTypes := #[t, t2] }) (hw : want ops l o = some true)
    (hT : TbOk P T) (ht : tdesc T t = some (.slice e)) (hs : tsz T e = some s) (hsz : Nat.beq d.sz s = true) (hx : opv l x = some (.slice (some ⟨g, 0, none⟩) N c)) (hy : opv l y = some (.slice A ys.length c2)) (hB : BL d w F g e M xs) {G : Nat → Prop} (hC : C d w G A ys) (hG : ∀ cells, Enc d w G ys cells → Enc d w F ys cells) (hN : N ≤ M) (hn : ys.length ≤ N)
    (k : ∀ (w' : World) (a' : Act), Chg (· = g) w w' → BL d w' F g e M (ys ++ xs.drop ys.length) → (∀ l', putE n l o.dst (.int .i64 (ys.length : Int)) = some l' → Fr a' n l') → wpList P ops Q rest a' w') : wpList P ops Q (o :: rest) a w := by
  refine wpList_step fun K hK' => ?_
  rw [if_pos (want_spec E hw)]
  unfold Oper.wp
  obtain ⟨h1, h2, cells, h3, h4⟩ := hB
  obtain ⟨cy, h5, h6, h7⟩ := hC
  have hsz' := Nat.eq_of_beq_eq_true hsz
  have hut := tdesc_row hT ht
  have hz := run_sizeOf' (w := w) hT hs
  have hcl := h3.length
  have hcy := h5.length
  have hmin : Nat.min ys.length N = ys.length := Nat.min_eq_left hn
  have hload : (Builtin.firstCells s ys.length (.slice A ys.length c2)).run P w = .ok cy.toArray w := by
    cases A with
    | none =>
      have : ys = [] := by
        cases ys with
        | nil => rfl
        | cons q r => obtain ⟨b, o', e', _⟩ := h6 (by simp); cases e'
      subst this
      cases h5
      rfl
    | some ad =>
      by_cases hy0 : ys = []
      · subst hy0
        cases h5
        simp [Builtin.firstCells, loadCells, loadCellsFrom]
      · obtain ⟨b, o', e', _⟩ := h6 hy0
        have hl := run_loadCells_list (P := P) (w := w) ad cy (fun j u hj => by cases e'; rw [add_none]; exact (h7 b o' rfl).get j u hj)
        simp only [Builtin.firstCells, ← hsz', ← hcy]
        exact hl
  have hfit : 0 + 0 + cy.length ≤ cells.length := by
    rw [hcy, hcl]; simp only [Nat.zero_add]; exact Nat.mul_le_mul_right _ (by omega)
  have hst := run_storeCells_at P g 0 e cy 0 ⟨cells⟩ w h4 (by simpa using hfit) h5.ones
  have hr : (execOp a.eval o).run P w = .ok (.value (.int .i64 (ys.length : Int))) (w.setRow g (splice cells 0 cy).toArray) := by
    simp only [Nat.add_zero, Nat.zero_add] at hst
    simp only [execOp, ho, resolve, invoke, builtin, Sem.run_bind, Sem.run_pure, Result.andThen_ok, List.map_toArray, List.map_cons, List.map_nil, E.eval hx, E.eval hy, Builtin.copy_]
    simp only [List.getElem?_toArray, List.getElem?_cons_zero, List.getElem?_cons_succ, Sem.run_bind, run_underlying hut, Result.andThen_ok, Builtin.lenOf, Sem.run_pure, hz, hmin, hload]
    have hst' : (storeCells ⟨g, 0, none⟩ cy).run P w = .ok () (w.setRow g (splice cells 0 cy).toArray) := by
      rw [hst]; unfold splice; simp
    simp only [hst', Result.andThen_ok, goInt]
  rw [hr]
  obtain ⟨c1, c2'⟩ := setRow_chg h4 (splice cells 0 cy)
  have hF : ∀ b, F b → ¬ (b = g) := fun b hb e => h2 (e ▸ hb)
  refine hK' _ _ (k _ _ c1 ⟨by simp; omega, h2, splice cells 0 cy, ?_, c2'⟩ fun l' hl => putE_spec E hl)
  have := ((hG _ h5).keep c1 hF).append ((h3.drop ys.length).keep c1 hF)
  have e3 : splice cells 0 cy = cy ++ cells.drop (ys.length * d.sz) := by unfold splice; simp [hcy]
  rw [e3] at this ⊢
  exact this
end
end Go.V
