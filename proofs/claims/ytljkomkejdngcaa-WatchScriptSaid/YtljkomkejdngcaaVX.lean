/- Stores into a part of an element; calls of functions that the model stands in for. -/
import Derived.Test.YtljkomkejdngcaaVR
import Derived.Laws.Externs
set_option linter.all false
set_option linter.unusedVariables false
set_option linter.unnecessarySimpa false
set_option linter.unusedSimpArgs false
namespace Go.V
open Go Go.Proofs
theorem splice_left {c1 rest vs : List Value} {off : Nat} (h : off + vs.length ≤ c1.length) : splice (c1 ++ rest) off vs = splice c1 off vs ++ rest := by
  unfold splice
  rw [List.take_append_of_le_length (by omega), List.drop_append_of_le_length (by omega)]
  simp only [List.append_assoc]
theorem splice_right {c1 rest vs : List Value} {off : Nat} : splice (c1 ++ rest) (c1.length + off) vs = c1 ++ splice rest off vs := by
  unfold splice
  rw [List.take_length_add_append, Nat.add_assoc, List.drop_length_add_append]
  simp only [List.append_assoc]
theorem Enc.setp {α : Type} {d : Cod α} {w : World} {F : Nat → Prop} {vs : List Value} {off : Nat} (up : α → α) (z : α) (hK : ∀ y cs, d.K w F y cs → d.K w F (up y) (splice cs off vs)) (hf : off + vs.length ≤ d.sz) : ∀ {xs : List α} {cells : List Value} (i : Nat), Enc d w F xs cells → i < xs.length → Enc d w F (xs.set i (up (xs.getD i z))) (splice cells (i * d.sz + off) vs)
  | [], _, i, _, hi => by simp at hi
  | y :: ys, _, 0, ⟨c1, rest, e1, h1, h2⟩, _ => by
    subst e1
    refine ⟨splice c1 off vs, rest, ?_, hK y c1 h1, h2⟩
    rw [Nat.zero_mul, Nat.zero_add, splice_left (by rw [d.len h1]; exact hf)]
  | y :: ys, _, i + 1, ⟨c1, rest, e1, h1, h2⟩, hi => by
    subst e1
    have ih := Enc.setp up z hK hf i h2 (by simpa using hi)
    refine ⟨c1, _, ?_, h1, ih⟩
    have : (i + 1) * d.sz + off = c1.length + (i * d.sz + off) := by rw [d.len h1, Nat.add_mul]; omega
    rw [this, splice_right]
section
variable {P : Program} {T : List TRow} {w : World} {a : Act} {n : Nat} {l l' : List (Nat × Value)} {ops : Array Oper} {o : Oper} {rest : List Oper} {Q : Exit → Act → World → Prop} {t e : TypeId}
theorem e_setLp {α : Type} {d : Cod α} {p x : Operand} {g M s off : Nat} {i : Int} {F : Nat → Prop} {v : Value} {xs : List α} (up : α → α) (z : α) (E : Fr a n l) (ho : o.op = .store t p x) (hw : want ops l o = some true)
    (hp : opv l p = some (.pointer (some ⟨g, 0 + i.toNat * d.sz + off, none⟩))) (hx : opv l x = some v) (hT : TbOk P T) (hs : tsz T t = some s) (hB : BL d w F g e M xs) (hK : ∀ y cs, d.K w F y cs → d.K w F (up y) (splice cs off v.cells.toList)) (hsz : Nat.beq v.cells.size s = true) (hone : v.cells.toList.all Value.oneCell' = true) (hfit : Nat.ble (off + v.cells.size) d.sz = true) (hi : 0 ≤ i ∧ i < (M : Int)) (hd : o.dst = none)
    (k : ∀ (w' : World) (a' : Act), Chg (· = g) w w' → BL d w' F g e M (xs.set i.toNat (up (xs.getD i.toNat z))) → Fr a' n l → wpList P ops Q rest a' w') : wpList P ops Q (o :: rest) a w := by
  refine wpList_step fun K hK' => ?_
  rw [if_pos (want_spec E hw)]
  unfold Oper.wp
  obtain ⟨h1, h2, cells, h3, h4⟩ := hB
  have hsz' := Nat.eq_of_beq_eq_true hsz
  have hft := Nat.le_of_ble_eq_true hfit
  have hlv : v.cells.toList.length = v.cells.size := by simp
  have hil : i.toNat < xs.length := by omega
  have hcl := h3.length
  have hfit2 : i.toNat * d.sz + off + v.cells.toList.length ≤ cells.length := by
    rw [hcl, hlv]
    calc i.toNat * d.sz + off + v.cells.size ≤ (i.toNat + 1) * d.sz := by rw [Nat.add_mul]; omega
      _ ≤ xs.length * d.sz := Nat.mul_le_mul_right _ hil
  have hst := run_storeCells_at P g (i.toNat * d.sz + off) e v.cells.toList 0 ⟨cells⟩ w h4 (by simpa using hfit2) (fun q hq => (List.all_eq_true.1 hone) q hq)
  have hz := run_sizeOf' (w := w) hT hs
  have hr : (execOp a.eval o).run P w = .ok .skip (w.setRow g (splice cells (i.toNat * d.sz + off) v.cells.toList).toArray) := by
    have h1 : (Instr.storeAt t (.pointer (some ⟨g, 0 + i.toNat * d.sz + off, none⟩)) v).run P w = .ok () (w.setRow g (splice cells (i.toNat * d.sz + off) v.cells.toList).toArray) := by
      simp only [Nat.add_zero] at hst
      unfold Instr.storeAt storeVar
      simp only [Instr.sureAddr, Sem.run_bind, Sem.run_pure, Result.andThen_ok, hz, hsz', ne_eq, not_true, if_false, Nat.zero_add]
      exact hst
    simp only [execOp, ho, E.eval hp, E.eval hx, Sem.run_bind, h1, Result.andThen_ok, Sem.run_pure]
  rw [hr]
  obtain ⟨c1, c2⟩ := setRow_chg h4 (splice cells (i.toNat * d.sz + off) v.cells.toList)
  have hF : ∀ b, F b → ¬ (b = g) := fun b hb e => h2 (e ▸ hb)
  refine hK' _ _ (k _ _ c1 ⟨by simpa using h1, h2, _, (Enc.setp up z hK (by rw [hlv]; exact hft) _ h3 hil).keep c1 hF, c2⟩ ?_)
  rw [hd]
  exact E
variable {S : Nat → Prop} {Fa : Nat → Prop} {w0 : World} {L : List Ent}
theorem h_setpx {α : Type} {d : Cod α} {p x : Operand} {g s c off : Nat} {i : Int} {f : Bool} {v : Value} {xs sp : List α} (up : α → α) (z u : α) (H : Hp S Fa w0 w L) (j : Nat) (hj : nth L j = .rowx f d e (some ⟨g, 0, none⟩) c xs sp) (E : Fr a n l) (ho : o.op = .store t p x) (hw : want ops l o = some true)
    (hp : opv l p = some (.pointer (some ⟨g, 0 + i.toNat * d.sz + off, none⟩))) (hx : opv l x = some v) (hT : TbOk P T) (hs : tsz T t = some s) (hu : u = up (xs.getD i.toNat z)) (hK : ∀ F y cs, d.K w F y cs → d.K w F (up y) (splice cs off v.cells.toList)) (hsz : Nat.beq v.cells.size s = true) (hone : v.cells.toList.all Value.oneCell' = true) (hfit : Nat.ble (off + v.cells.size) d.sz = true) (hi : 0 ≤ i ∧ i < (xs.length : Int)) (hd : o.dst = none)
    (k : ∀ (w' : World) (a' : Act), Chg (nth L j).at w w' → Hp S Fa w0 w' (setn L j (.rowx f d e (some ⟨g, 0, none⟩) c (xs.set i.toNat u) sp)) → Fr a' n l → wpList P ops Q rest a' w') : wpList P ops Q (o :: rest) a w := by
  obtain ⟨Fz, H⟩ := H
  have hk := oks_nth j H.ok
  rw [hj] at hk
  rcases hk with ⟨h1, _⟩ | ⟨g', hA, h1, h2, hB⟩
  · cases h1
  · cases hA
    refine e_setLp (M := c) up z E ho hw hp hx hT hs hB (hK _) hsz hone hfit ⟨hi.1, by omega⟩ hd fun w' a' hc hB' E' => ?_
    have hc' : Chg (nth L j).at w w' := by rw [hj]; exact hc.mono fun q _ hq => by subst hq; exact ⟨0, none, rfl⟩
    refine k w' a' hc' ⟨Fz, H.put j _ hc' (fun q hq => ⟨.inl (by rw [hj]; exact hq), by obtain rfl := At.of_g hq; exact hB'.lt⟩) (.inr ⟨g, rfl, h1, by simpa using h2, ?_⟩)⟩ E'
    have e1 : (xs ++ sp).getD i.toNat z = xs.getD i.toNat z := by
      rw [List.getD_eq_getElem?_getD, List.getD_eq_getElem?_getD, List.getElem?_append_left (by omega)]
    rw [set_app (by omega), e1, ← hu] at hB'
    exact hB'
end
end Go.V
