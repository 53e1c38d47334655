/- Rows of one's own, apart from other blocks. -/
import Derived.Test.YtflangjkfaalkaaV7
set_option linter.all false
set_option linter.unusedVariables false
set_option linter.unnecessarySimpa false
set_option linter.unusedSimpArgs false
namespace Go.V
open Go Go.RowKit

/-- the block behind an address -/
abbrev At (A : Option Addr) (q : Nat) : Prop := ∃ o s, A = some ⟨q, o, s⟩
theorem At.nil (q : Nat) : ¬ At none q := fun ⟨_, _, h⟩ => by cases h
theorem At.of_g {g o : Nat} {q : Nat} (h : At (some ⟨g, o, none⟩) q) : q = g := by
  obtain ⟨_, _, h⟩ := h
  injection h with h
  injection h with h _ _
  exact h.symm

section
variable {α β : Type} {d : Cod α} {d2 : Cod β} {e e2 : TypeId} {w w' : World} {base base2 : Nat} {F F2 : Nat → Prop} {A A' B : Option Addr} {c c2 : Nat} {xs ys : List α} {zs : List β} {g : Nat} {S : Nat → Prop}

theorem Row.inv (h : Row d e w base F A c xs) {q : Nat} (hq : At A q) : base ≤ q ∧ q < w.heap.size ∧ ¬ F q := by
  rcases h.addr with rfl | ⟨g, rfl, h1, h2, h3⟩
  · exact absurd hq (At.nil _)
  · have := hq.of_g; subst this; exact ⟨h1, h2, h3⟩
theorem Row.hi (h : Row d e w base F A c xs) : ∀ q, At A q → Hi base q := fun _ hq => (h.inv hq).1
theorem Row.lo (h : Row d e w base F A c xs) : ∀ q, Lo base q → ¬ At A q := fun q hl hq => by have := (h.inv hq).1; unfold Lo at hl; omega
theorem Row.fresh (h : Row d e w base F A c xs) (hg : w.heap.size ≤ g) : ¬ At A g := fun hq => by have := (h.inv hq).2.1; omega
theorem Row.fresh2 (h : Row d e w base F A c xs) (hB : ∀ q, At B q → w.heap.size ≤ q) : ∀ q, At A q → ¬ At B q := fun q hq hb => by have := (h.inv hq).2.1; have := hB q hb; omega
theorem At.step (hn : ∀ q o s, A' = some ⟨q, o, s⟩ → A = some ⟨q, o, s⟩ ∨ w.heap.size ≤ q) (h : ¬ At A g) (hg : g < w.heap.size) : ¬ At A' g := by
  rintro ⟨o, s, e⟩
  rcases hn _ _ _ e with h1 | h1
  · exact h ⟨_, _, h1⟩
  · omega
theorem At.step2 (hn : ∀ q o s, A' = some ⟨q, o, s⟩ → A = some ⟨q, o, s⟩ ∨ w.heap.size ≤ q) (h : ∀ q, At A q → ¬ At B q) (hB : Row d2 e2 w base2 F2 B c2 zs) : ∀ q, At A' q → ¬ At B q := by
  rintro q ⟨o, s, e⟩ hb
  rcases hn _ _ _ e with h1 | h1
  · exact h q ⟨_, _, h1⟩ hb
  · have := (hB.inv hb).2.1; omega
theorem At.comm (h : ∀ q, At A q → ¬ At B q) : ∀ q, At B q → ¬ At A q := fun q hb ha => h q ha hb
theorem Row.eq (h : Row d e w base F A c xs) (he : xs = ys) : Row d e w base F A c ys := he ▸ h
theorem Row.from_ (h : Row d e w base F A c xs) (hb : base2 ≤ base) : Row d e w base2 F A c xs := by
  obtain ⟨cells, ⟨h1, h2⟩, h3, h4⟩ := h
  refine ⟨cells, ⟨h1, ?_⟩, h3, h4⟩
  rcases h2 with h2 | ⟨g, cap, cur, e1, hb', r⟩
  · exact .inl h2
  · exact .inr ⟨g, cap, cur, e1, Nat.le_trans hb hb', r⟩
theorem Row.C_at (h : Row d e w base F A c xs) : V.C d w (fun b => F b ∨ At A b) A xs := h.C
/-- for a callee -/
theorem Row.now (h : Row d e w base No A c xs) : V.C d w (Lo w.heap.size) A xs := h.C.mono fun b hb => by
  rcases hb with hb | hb
  · exact hb.elim
  · exact (h.inv hb).2.1

/-! what is written no more: its blocks -/
def FzA (F : Nat → Prop) (A : Option Addr) : Nat → Prop := fun q => F q ∨ At A q
def FzF (F G : Nat → Prop) : Nat → Prop := fun q => F q ∨ G q
def FzG (F : Nat → Prop) (g : Nat) : Nat → Prop := fun q => F q ∨ q = g
/-- blocks of the call's own -/
def Own (b : Nat) (w : World) (F : Nat → Prop) : Prop := ∀ q, F q → b ≤ q ∧ q < w.heap.size
theorem Own.no (b : Nat) (w : World) : Own b w No := fun _ h => h.elim
theorem Own.step {b : Nat} (h : Own b w F) (hc : Chg S w w') : Own b w' F := fun q hq => ⟨(h q hq).1, Nat.lt_of_lt_of_le (h q hq).2 hc.size⟩
theorem Own.addA {b : Nat} (h : Own b w F) (hA : ∀ q, At A q → Hi b q) (hl : ∀ q, At A q → q < w.heap.size) : Own b w (FzA F A) := fun q hq => by
  rcases hq with hq | hq
  · exact h q hq
  · exact ⟨hA q hq, hl q hq⟩
theorem Own.addG {b : Nat} (h : Own b w F) (hb : b ≤ g) (hl : g < w.heap.size) : Own b w (FzG F g) := fun q hq => by
  rcases hq with hq | hq
  · exact h q hq
  · subst hq; exact ⟨hb, hl⟩
theorem FzG.no {g2 : Nat} (h1 : ¬ F g2) (h2 : ¬ (g2 = g)) : ¬ FzG F g g2 := fun h => h.elim h1 h2
theorem FzG.noA (h1 : ∀ q, At B q → ¬ F q) (h2 : ¬ At B g) : ∀ q, At B q → ¬ FzG F g q := fun q hq h => h.elim (h1 q hq) (fun e => h2 (e ▸ hq))
theorem BL.ro {M : Nat} (h : BL d w F g e M xs) (hF : ∀ q, F q → S q) : V.C d w (FzG S g) (some ⟨g, 0, none⟩) xs := h.C.mono fun b hb => by
  rcases hb with hb | hb
  · exact .inl (hF b hb)
  · exact .inr hb
theorem BL.monoF {M : Nat} {G : Nat → Prop} (h : BL d w F g e M xs) (hF : ∀ b, F b → G b) (hG : ¬ G g) : BL d w G g e M xs := by
  obtain ⟨h1, h2, cells, h3, h4⟩ := h
  exact ⟨h1, hG, cells, h3.mono hF, h4⟩
theorem Own.addF {b b2 : Nat} {G : Nat → Prop} (h : Own b w F) (hG : Own b2 w' G) (hb : b ≤ b2) (hw : w.heap.size ≤ w'.heap.size) : Own b w' (FzF F G) := fun q hq => by
  rcases hq with hq | hq
  · exact ⟨(h q hq).1, Nat.lt_of_lt_of_le (h q hq).2 hw⟩
  · exact ⟨Nat.le_trans hb (hG q hq).1, (hG q hq).2⟩
theorem Own.new {b : Nat} (h : Own b w F) (hg : w.heap.size ≤ g) : ¬ F g := fun hq => by have := (h g hq).2; omega
theorem Own.lt {b : Nat} (h : Own b w F) : ∀ q, F q → Lo w.heap.size q := fun q hq => (h q hq).2
theorem FzA.no (h1 : ¬ F g) (h2 : ¬ At A g) : ¬ FzA F A g := fun h => h.elim h1 h2
theorem FzA.noA (h1 : ∀ q, At B q → ¬ F q) (h2 : ∀ q, At A q → ¬ At B q) : ∀ q, At B q → ¬ FzA F A q := fun q hq h => h.elim (h1 q hq) (fun h' => h2 q h' hq)
theorem FzF.no {G : Nat → Prop} (h1 : ¬ F g) (h2 : ¬ G g) : ¬ FzF F G g := fun h => h.elim h1 h2
theorem FzF.noA {G : Nat → Prop} (h1 : ∀ q, At B q → ¬ F q) (h2 : ∀ q, At B q → ¬ G q) : ∀ q, At B q → ¬ FzF F G q := fun q hq h => h.elim (h1 q hq) (h2 q hq)
theorem At.stepF {b : Nat} (hn : ∀ q o s, A' = some ⟨q, o, s⟩ → A = some ⟨q, o, s⟩ ∨ w.heap.size ≤ q) (h : ∀ q, At A q → ¬ F q) (hO : Own b w F) : ∀ q, At A' q → ¬ F q := by
  rintro q ⟨o, s, e⟩ hq
  rcases hn _ _ _ e with h1 | h1
  · exact h q ⟨_, _, h1⟩ hq
  · have := (hO q hq).2; omega
theorem Row.ltA (h : Row d e w base F A c xs) : ∀ q, At A q → q < w.heap.size := fun _ hq => (h.inv hq).2.1
/-- a row that is written no more -/
theorem Row.ro (h : Row d e w base F A c xs) (hF : ∀ q, F q → S q) : V.C d w (FzA S A) A xs := h.C.mono fun b hb => by
  rcases hb with hb | hb
  · exact .inl (hF b hb)
  · exact .inr hb
theorem Row.monoF {G : Nat → Prop} (h : Row d e w base F A c xs) (hF : ∀ b, F b → G b) (hG : ∀ q, At A q → ¬ G q) : Row d e w base G A c xs := h.mono hF fun g e => hG g ⟨_, _, e⟩
/-- an element that is a slice, its content apart from the row's own block -/
theorem Row.atSl {d : Cod α} {xs : List (List α)} {b o : Nat} (h : Row (cSl d) e w base F (some ⟨b, o, none⟩) c xs) {i : Int} (h0 : 0 ≤ i) (h1 : i < (xs.length : Int)) :
    ∃ A c, w.cell? ⟨b, o + i.toNat * 1, none⟩ = some (.slice A (xs.getD i.toNat []).length c) ∧ (xs.getD i.toNat []).length ≤ c ∧ V.C d w F A (xs.getD i.toNat []) := by
  have hC := h.C
  obtain ⟨A, c, e1, k1, _⟩ := hC.atSl h0 h1
  obtain ⟨cells, hown, he, hn⟩ := h
  have ho : o = 0 := by
    rcases hown.2 with ⟨e3, _⟩ | ⟨g, cap, cur, e3, _⟩
    · injection e3 with e3 _ _; cases e3
    · injection e3 with e3 _ _; cases e3; rfl
  subst ho
  have hlt : i.toNat < xs.length := by omega
  have hi : xs[i.toNat]? = some (xs.getD i.toNat []) := by simp [List.getD_eq_getElem?_getD, hlt]
  obtain ⟨cs, ⟨A2, c2, e2, k2, k3⟩, k4⟩ := he.get _ _ hi
  subst e2
  refine ⟨A2, c2, ?_, k2, k3⟩
  have hat : cellsAt w b 0 cells := cellsAt.of_get fun j u hj => by rw [← add_none]; exact hown.cells (g := b) rfl j u hj
  have := hat.get (i.toNat * 1 + 0) _ (k4 0 _ rfl)
  simpa using this

/-- a made block, as a row that has as many as it is asked -/
theorem BL.row {M : Nat} (h : BL d w F g e M xs) (hb : base ≤ g) (N : Nat) (hN : N ≤ M) (hM : M ≤ 1000000000000) : Row d e w base F (some ⟨g, 0, none⟩) M (xs.take N) := by
  obtain ⟨h1, h2, cells, h3, h4⟩ := h
  have hl := h3.length
  have hN' : (xs.take N).length = N := by rw [List.length_take, Nat.min_eq_left (by omega)]
  refine ⟨cells.take (N * d.sz), ⟨?_, .inr ⟨g, M, ⟨cells⟩, by rw [hN'], hb, h4, by omega, by unfold maxLen; omega, by simpa [h1] using hl, by rw [hN']⟩⟩, h3.take N, ?_⟩
  · rw [(h3.take N).length]
  · intro b o s hA
    injection hA with hA
    injection hA with h5 _ _
    subst h5
    exact h2
end

/-! ### values that are indexed; loops of a few rounds -/
section
variable {P : Program} {T : List TRow} {a : Act} {n : Nat} {l l' : List (Nat × Value)} {ops : Array Oper} {Q : Exit → Act → World → Prop} {rest : List Oper} {o : Oper} {w : World} {t e : TypeId}
theorem unr {c : Code} {m : Nat} (h : c.wp P (Exit.then (Code.rounds P c Q m) Q) a w) : Code.rounds P c Q (m + 1) a w := h

/-- 'arr[i]', the array a value -/
theorem e_indexA {x i : Operand} {cs : Array Value} {k : IntKind} {j : Int} {m : Nat} {v : Value} {de : TypeDesc} (E : Fr a n l) (ho : o.op = .index t x i) (hw : want ops l o = some true) (hT : TbOk P T) (ht : tdesc T t = some (.array m e)) (hs : tsz T e = some 1) (hd : tdesc T e = some de) (hg : isAggD de = false)
    (hx : opv l x = some (.agg cs)) (hi : opv l i = some (.int k j)) (h0 : 0 ≤ j ∧ j < (m : Int)) (hv : cs[j.toNat]? = some v) (hl : putE n l o.dst v = some l') (k' : ∀ a', Fr a' n l' → wpList P ops Q rest a' w) : wpList P ops Q (o :: rest) a w := by
  refine step_val E hw ?_ hl k'
  have h1 := tdesc_row hT ht
  have h2 := run_sizeOf' (w := w) hT hs
  have h3 := tdesc_row hT hd
  have hag : (isAgg e).run P w = .ok false w := by
    unfold isAgg
    simp [run_underlying h3, Result.andThen]
    unfold isAggD at hg
    split <;> simp_all
  simp [execOp, ho, E.eval hx, E.eval hi, Instr.index, asIntOf, run_underlying h1, h0.1, h0.2, h2, part, hag, hv, Result.andThen]

/-- 's[i]', s a string -/
theorem e_indexS {x i : Operand} {s : ByteArray} {k : IntKind} {j : Int} {b : UInt8} (E : Fr a n l) (ho : o.op = .index t x i) (hw : want ops l o = some true) (hT : TbOk P T) (ht : tdesc T t = some .string)
    (hx : opv l x = some (.string s)) (hi : opv l i = some (.int k j)) (h0 : 0 ≤ j) (hv : s[j.toNat]? = some b) {r : Int} (hr : (b.toNat : Int) = r) (hl : putE n l o.dst (.int .u8 r) = some l') (k' : ∀ a', Fr a' n l' → wpList P ops Q rest a' w) : wpList P ops Q (o :: rest) a w := by
  subst hr
  refine step_val E hw ?_ hl k'
  have h1 := tdesc_row hT ht
  simp [execOp, ho, E.eval hx, E.eval hi, Instr.index, asIntOf, run_underlying h1, h0, hv, Result.andThen]

theorem take_splice {xs ys : List Value} {m o : Nat} (hm : m ≤ xs.length) (h : o + ys.length ≤ m) : (splice xs o ys).take m = splice (xs.take m) o ys := by
  have h1 : (xs.take o ++ ys).length = o + ys.length := by rw [List.length_append, List.length_take, Nat.min_eq_left (by omega)]
  unfold splice
  rw [List.take_append, h1, List.take_of_length_le (by omega), List.take_take, Nat.min_eq_left (by omega), List.drop_take]
theorem splice_len {xs ys : List Value} {o : Nat} (h : o + ys.length ≤ xs.length) : (splice xs o ys).length = xs.length := by
  unfold splice
  rw [List.length_append, List.length_append, List.length_take, List.length_drop, Nat.min_eq_left (by omega)]
  omega

/-- 'r[i] = x', r a row of one's own -/
theorem e_setR {α : Type} {d : Cod α} {p x : Operand} {g s c base : Nat} {i : Int} {F : Nat → Prop} {v : Value} {xs : List α} (u : α) (E : Fr a n l) (ho : o.op = .store t p x) (hw : want ops l o = some true)
    (hp : opv l p = some (.pointer (some ⟨g, 0 + i.toNat * d.sz, none⟩))) (hx : opv l x = some v) (hT : TbOk P T) (hs : tsz T t = some s) (hR : Row d e w base F (some ⟨g, 0, none⟩) c xs) (hK : d.K w F u v.cells.toList) (hsz : Nat.beq d.sz s = true) (hi : 0 ≤ i ∧ i < (xs.length : Int)) (hd : o.dst = none)
    (k : ∀ (w' : World) (a' : Act), Chg (At (some ⟨g, 0, none⟩)) w w' → Row d e w' base F (some ⟨g, 0, none⟩) c (xs.set i.toNat u) → Fr a' n l → wpList P ops Q rest a' w') : wpList P ops Q (o :: rest) a w := by
  refine wpList_step fun K hK' => ?_
  rw [if_pos (want_spec E hw)]
  unfold Oper.wp
  obtain ⟨cells, ⟨h1, h2⟩, h3, h4⟩ := hR
  rcases h2 with ⟨e1, _⟩ | ⟨g2, cap, cur, e1, hb, hh, hn, hcm, hcs, htk⟩
  · injection e1 with e1 _ _; cases e1
  injection e1 with e1 _ e2
  injection e1 with e1
  injection e1 with e1 _ _
  subst e1 e2
  have hB : Bx w g e cur.toList := hh
  have hsz' := Nat.eq_of_beq_eq_true hsz
  have hl := d.len hK
  have hil : i.toNat < xs.length := by omega
  have hm : xs.length * d.sz ≤ cur.toList.length := by
    have : cur.toList.length = c * d.sz := by simpa using hcs
    rw [this]; exact Nat.mul_le_mul_right _ hn
  have hfit0 : i.toNat * d.sz + v.cells.toList.length ≤ xs.length * d.sz := by
    rw [hl]
    have := Nat.mul_le_mul_right d.sz (show i.toNat + 1 ≤ xs.length from hil)
    rw [Nat.add_mul] at this; omega
  have hfit : i.toNat * d.sz + v.cells.toList.length ≤ cur.toList.length := by omega
  have hst := run_storeCells_at P g (i.toNat * d.sz) e v.cells.toList 0 cur w hh (by simpa using hfit) (fun q hq => d.one hK q hq)
  have hz := run_sizeOf' (w := w) hT hs
  have hv : v.cells.size = s := by rw [← hsz', ← hl]; simp
  have hr : (execOp a.eval o).run P w = .ok .skip (w.setRow g (splice cur.toList (i.toNat * d.sz) v.cells.toList).toArray) := by
    have h1 : (Instr.storeAt t (.pointer (some ⟨g, 0 + i.toNat * d.sz, none⟩)) v).run P w = .ok () (w.setRow g (splice cur.toList (i.toNat * d.sz) v.cells.toList).toArray) := by
      simp only [Nat.add_zero] at hst
      unfold Instr.storeAt storeVar
      simp only [Instr.sureAddr, Sem.run_bind, Sem.run_pure, Result.andThen_ok, hz, hv, ne_eq, not_true, if_false, Nat.zero_add]
      exact hst
    simp only [execOp, ho, E.eval hp, E.eval hx, Sem.run_bind, h1, Result.andThen_ok, Sem.run_pure]
  rw [hr]
  obtain ⟨c1, c2⟩ := setRow_chg hB (splice cur.toList (i.toNat * d.sz) v.cells.toList)
  have hF : ∀ b, F b → ¬ (b = g) := fun b hb' e' => h4 g 0 none rfl (e' ▸ hb')
  have c3 : Chg (At (some ⟨g, 0, none⟩)) w (w.setRow g (splice cur.toList (i.toNat * d.sz) v.cells.toList).toArray) := c1.mono fun q _ hq => by subst hq; exact ⟨0, none, rfl⟩
  refine hK' _ _ (k _ _ c3 ⟨splice cells (i.toNat * d.sz) v.cells.toList, ⟨?_, .inr ⟨g, c, ⟨splice cur.toList (i.toNat * d.sz) v.cells.toList⟩, rfl, hb, c2, by simpa using hn, hcm, ?_, ?_⟩⟩, (Enc.set hK _ h3 hil).keep c1 hF, h4⟩ ?_)
  · rw [splice_len (by rw [h1]; exact hfit0), h1, List.length_set]
  · show (splice cur.toList _ _).length = _
    rw [splice_len hfit]; simpa using hcs
  · show (splice cur.toList _ _).take _ = _
    rw [List.length_set, take_splice hm hfit0, htk]
  · rw [hd]; exact E
theorem Row.addr' {α : Type} {d : Cod α} {base c : Nat} {F : Nat → Prop} {A : Option Addr} {xs : List α} (h : Row d e w base F A c xs) (hl : 0 < xs.length) : ∃ b, A = some ⟨b, 0, none⟩ := by
  rcases h.addr with rfl | ⟨g, rfl, _⟩
  · obtain ⟨cells, ⟨_, h2⟩, _⟩ := h
    rcases h2 with ⟨_, e2⟩ | ⟨g, cap, cur, e1, _⟩
    · omega
    · injection e1 with e1 _ _; cases e1
  · exact ⟨g, rfl⟩
theorem Row.nowF {α : Type} {d : Cod α} {base c b : Nat} {F : Nat → Prop} {A : Option Addr} {xs : List α} (h : Row d e w base F A c xs) (hO : Own b w F) : V.C d w (Lo w.heap.size) A xs := h.C.mono fun q hq => by
  rcases hq with hq | hq
  · exact (hO q hq).2
  · exact (h.inv hq).2.1
theorem Bx.Cx {α : Type} {d : Cod α} {g : Nat} {xs : List α} {cells : List Value} (h : Bx w g e cells) (he : Enc d w (Lo w.heap.size) xs cells) : V.C d w (Lo w.heap.size) (some ⟨g, 0, none⟩) xs :=
  ⟨cells, he, fun _ => ⟨g, 0, rfl, h.lt⟩, fun b o e => by cases e; exact h.cells⟩
end
end Go.V
