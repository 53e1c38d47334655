/- Rows of one's own, apart from other blocks. -/
import Derived.Test.YthlbijcgnekcbaaV7
set_option linter.all false
set_option linter.unusedVariables false
set_option linter.unnecessarySimpa false
set_option linter.unusedSimpArgs false
namespace Go.V
open Go Go.RowKit

/-- the block behind an address -/
abbrev At (A : Option Addr) (q : Nat) : Prop := ∃ o s, A = some ⟨q, o, s⟩
theorem At.nil (q : Nat) : ¬ At none q := fun ⟨_, _, h⟩ => by cases h
theorem At.of_g {g o : Nat} {q : Nat} (h : At (some ⟨g, o, none⟩) q) : q = g := by
  obtain ⟨_, _, h⟩ := h
  injection h with h
  injection h with h _ _
  exact h.symm

section
variable {α β : Type} {d : Cod α} {d2 : Cod β} {e e2 : TypeId} {w w' : World} {base base2 : Nat} {F F2 : Nat → Prop} {A A' B : Option Addr} {c c2 : Nat} {xs ys : List α} {zs : List β} {g : Nat} {S : Nat → Prop}

theorem Row.inv (h : Row d e w base F A c xs) {q : Nat} (hq : At A q) : base ≤ q ∧ q < w.heap.size ∧ ¬ F q := by
  rcases h.addr with rfl | ⟨g, rfl, h1, h2, h3⟩
  · exact absurd hq (At.nil _)
  · have := hq.of_g; subst this; exact ⟨h1, h2, h3⟩
theorem Row.hi (h : Row d e w base F A c xs) : ∀ q, At A q → Hi base q := fun _ hq => (h.inv hq).1
theorem Row.lo (h : Row d e w base F A c xs) : ∀ q, Lo base q → ¬ At A q := fun q hl hq => by have := (h.inv hq).1; unfold Lo at hl; omega
theorem Row.fresh (h : Row d e w base F A c xs) (hg : w.heap.size ≤ g) : ¬ At A g := fun hq => by have := (h.inv hq).2.1; omega
theorem Row.fresh2 (h : Row d e w base F A c xs) (hB : ∀ q, At B q → w.heap.size ≤ q) : ∀ q, At A q → ¬ At B q := fun q hq hb => by have := (h.inv hq).2.1; have := hB q hb; omega
theorem At.step (hn : ∀ q o s, A' = some ⟨q, o, s⟩ → A = some ⟨q, o, s⟩ ∨ w.heap.size ≤ q) (h : ¬ At A g) (hg : g < w.heap.size) : ¬ At A' g := by
  rintro ⟨o, s, e⟩
  rcases hn _ _ _ e with h1 | h1
  · exact h ⟨_, _, h1⟩
  · omega
theorem At.step2 (hn : ∀ q o s, A' = some ⟨q, o, s⟩ → A = some ⟨q, o, s⟩ ∨ w.heap.size ≤ q) (h : ∀ q, At A q → ¬ At B q) (hB : Row d2 e2 w base2 F2 B c2 zs) : ∀ q, At A' q → ¬ At B q := by
  rintro q ⟨o, s, e⟩ hb
  rcases hn _ _ _ e with h1 | h1
  · exact h q ⟨_, _, h1⟩ hb
  · have := (hB.inv hb).2.1; omega
theorem At.comm (h : ∀ q, At A q → ¬ At B q) : ∀ q, At B q → ¬ At A q := fun q hb ha => h q ha hb
theorem Row.eq (h : Row d e w base F A c xs) (he : xs = ys) : Row d e w base F A c ys := he ▸ h
theorem Row.from_ (h : Row d e w base F A c xs) (hb : base2 ≤ base) : Row d e w base2 F A c xs := by
  obtain ⟨cells, ⟨h1, h2⟩, h3, h4⟩ := h
  refine ⟨cells, ⟨h1, ?_⟩, h3, h4⟩
  rcases h2 with h2 | ⟨g, cap, cur, e1, hb', r⟩
  · exact .inl h2
  · exact .inr ⟨g, cap, cur, e1, Nat.le_trans hb hb', r⟩
theorem Row.C_at (h : Row d e w base F A c xs) : V.C d w (fun b => F b ∨ At A b) A xs := h.C
/-- for a callee -/
theorem Row.now (h : Row d e w base No A c xs) : V.C d w (Lo w.heap.size) A xs := h.C.mono fun b hb => by
  rcases hb with hb | hb
  · exact hb.elim
  · exact (h.inv hb).2.1

/-- a made block, as a row that has as many as it is asked -/
theorem BL.row {M : Nat} (h : BL d w F g e M xs) (hb : base ≤ g) (N : Nat) (hN : N ≤ M) (hM : M ≤ 1000000000000) : Row d e w base F (some ⟨g, 0, none⟩) M (xs.take N) := by
  obtain ⟨h1, h2, cells, h3, h4⟩ := h
  have hl := h3.length
  have hN' : (xs.take N).length = N := by rw [List.length_take, Nat.min_eq_left (by omega)]
  refine ⟨cells.take (N * d.sz), ⟨?_, .inr ⟨g, M, ⟨cells⟩, by rw [hN'], hb, h4, by omega, by unfold maxLen; omega, by simpa [h1] using hl, by rw [hN']⟩⟩, h3.take N, ?_⟩
  · rw [(h3.take N).length]
  · intro b o s hA
    injection hA with hA
    injection hA with h5 _ _
    subst h5
    exact h2
end

/-! ### values that are indexed; loops of a few rounds -/
section
variable {P : Program} {T : List TRow} {a : Act} {n : Nat} {l l' : List (Nat × Value)} {ops : Array Oper} {Q : Exit → Act → World → Prop} {rest : List Oper} {o : Oper} {w : World} {t e : TypeId}
theorem unr {c : Code} {m : Nat} (h : c.wp P (Exit.then (Code.rounds P c Q m) Q) a w) : Code.rounds P c Q (m + 1) a w := h

/-- 'arr[i]', the array a value -/
theorem e_indexA {x i : Operand} {cs : Array Value} {k : IntKind} {j : Int} {m : Nat} {v : Value} {de : TypeDesc} (E : Fr a n l) (ho : o.op = .index t x i) (hw : want ops l o = some true) (hT : TbOk P T) (ht : tdesc T t = some (.array m e)) (hs : tsz T e = some 1) (hd : tdesc T e = some de) (hg : isAggD de = false)
    (hx : opv l x = some (.agg cs)) (hi : opv l i = some (.int k j)) (h0 : 0 ≤ j ∧ j < (m : Int)) (hv : cs[j.toNat]? = some v) (hl : putE n l o.dst v = some l') (k' : ∀ a', Fr a' n l' → wpList P ops Q rest a' w) : wpList P ops Q (o :: rest) a w := by
  refine step_val E hw ?_ hl k'
  have h1 := tdesc_row hT ht
  have h2 := run_sizeOf' (w := w) hT hs
  have h3 := tdesc_row hT hd
  have hag : (isAgg e).run P w = .ok false w := by
    unfold isAgg
    simp [run_underlying h3, Result.andThen]
    unfold isAggD at hg
    split <;> simp_all
  simp [execOp, ho, E.eval hx, E.eval hi, Instr.index, asIntOf, run_underlying h1, h0.1, h0.2, h2, part, hag, hv, Result.andThen]

/-- 's[i]', s a string -/
theorem e_indexS {x i : Operand} {s : ByteArray} {k : IntKind} {j : Int} {b : UInt8} (E : Fr a n l) (ho : o.op = .index t x i) (hw : want ops l o = some true) (hT : TbOk P T) (ht : tdesc T t = some .string)
    (hx : opv l x = some (.string s)) (hi : opv l i = some (.int k j)) (h0 : 0 ≤ j) (hv : s[j.toNat]? = some b) {r : Int} (hr : (b.toNat : Int) = r) (hl : putE n l o.dst (.int .u8 r) = some l') (k' : ∀ a', Fr a' n l' → wpList P ops Q rest a' w) : wpList P ops Q (o :: rest) a w := by
  subst hr
  refine step_val E hw ?_ hl k'
  have h1 := tdesc_row hT ht
  simp [execOp, ho, E.eval hx, E.eval hi, Instr.index, asIntOf, run_underlying h1, h0, hv, Result.andThen]
end
end Go.V
