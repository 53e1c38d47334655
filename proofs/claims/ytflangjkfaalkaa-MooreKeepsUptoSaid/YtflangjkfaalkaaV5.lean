/- Maps; slices that are made; stores into rows; copies. -/
import Derived.Test.YtflangjkfaalkaaV4
import Derived.Maps.Keyed
import Derived.DeepKeys3
set_option linter.all false
set_option linter.unusedVariables false
set_option linter.unnecessarySimpa false
set_option linter.unusedSimpArgs false
namespace Go.V
open Go Go.RowKit
open Go.Maps (Keyed)
section
variable {P : Program} {T : List TRow} {w w' : World} {a : Act} {n : Nat} {l l' : List (Nat × Value)} {ops : Array Oper} {Q : Exit → Act → World → Prop} {o : Oper} {rest : List Oper} {S : Nat → Prop}

/-- Block b is a map whose entries are, in the order of their making, these. -/
def Mp (P : Program) (k : TypeId) (w : World) (b : Nat) (kvs : List (Value × Value)) : Prop :=
  ∃ es clock, w.heap[b]? = some (.map es clock) ∧ es.toList.map (fun e => (e.key, e.val)) = kvs ∧ (∀ e ∈ es.toList, ∃ l, keyOf P k e.key = some l) ∧ (es.toList.map (·.born)).Nodup ∧ ∀ e ∈ es.toList, e.born < clock

variable {k e t : TypeId} {b : Nat} {kvs : List (Value × Value)} {key : Value}

theorem Mp.lt (h : Mp P k w b kvs) : b < w.heap.size := by
  obtain ⟨es, c, h, _⟩ := h
  exact (Array.getElem?_eq_some_iff.1 h).1

theorem Mp.chg (h : Mp P k w b kvs) (hc : Chg S w w') (hn : ¬ S b) : Mp P k w' b kvs := by
  have hl := h.lt
  obtain ⟨es, c, h, r⟩ := h
  exact ⟨es, c, (hc.block b hl hn).trans h, r⟩

theorem Mp.look (h : Mp P k w b kvs) (K : Keyed P k) (ht : P.underlying t = some (.map k e)) {z : Value} (hz : (zeroValue e).run P w = .ok z w) {kl : Lit} (hkey : keyOf P k key = some kl) (c : Bool) :
    ((Instr.lookup t (.map (some b)) key c).run P w = .ok (if c then .tuple #[z, .bool false] else z) w ∧ ∀ v, (key, v) ∉ kvs) ∨
    ∃ v, (key, v) ∈ kvs ∧ (Instr.lookup t (.map (some b)) key c).run P w = .ok (if c then .tuple #[v, .bool true] else v) w := by
  obtain ⟨es, clock, hb, hk, hes, _⟩ := h
  rcases K.find w hkey es.toList hes with ⟨h1, h2⟩ | ⟨j, e0, h1, h2, h3⟩
  · refine Or.inl ⟨by simp [Instr.lookup, run_underlying ht, MapKept.run_getObj_map hb, K.check w _ hkey, h1, hz, Result.andThen], ?_⟩
    intro v hv
    rw [← hk] at hv
    obtain ⟨x, hx, hxe⟩ := List.mem_map.1 hv
    exact h2 x hx (Prod.mk.inj hxe).1
  · refine Or.inr ⟨e0.val, ?_, by simp [Instr.lookup, run_underlying ht, MapKept.run_getObj_map hb, K.check w _ hkey, h1, Result.andThen]⟩
    rw [← hk]
    exact List.mem_map.2 ⟨e0, List.mem_of_getElem? h2, by rw [h3]⟩

theorem Mp.put_new (h : Mp P k w b kvs) (K : Keyed P k) (ht : P.underlying t = some (.map k e)) {val : Value} {kl : Lit} (hkey : keyOf P k key = some kl) (hnew : ∀ v, (key, v) ∉ kvs) :
    ∃ o, (Instr.mapUpdate t (.map (some b)) key val).run P w = .ok () (ChangeMaps.setBlock w b o) ∧ Mp P k (ChangeMaps.setBlock w b o) b (kvs ++ [(key, val)]) := by
  obtain ⟨es, clock, hb, hk, hes, hnd, hlt⟩ := h
  rcases K.find w hkey es.toList hes with ⟨h1, h2⟩ | ⟨j, e0, h1, h2, h3⟩
  · refine ⟨.map (es.push { key, val, born := clock }) (clock + 1), ?_, ?_⟩
    · simp [Instr.mapUpdate, run_underlying ht, MapKept.run_getObj_map hb, K.check w _ hkey, h1, MapKept.run_setObj_map _ hb, Result.andThen, ChangeMaps.setBlock]
    · refine ⟨_, _, ChangeMaps.heap_setBlock_same hb _, by simp [hk], ?_, ?_, ?_⟩
      · intro x hx
        simp only [Array.toList_push, List.mem_append, List.mem_singleton] at hx
        rcases hx with hx | rfl
        · exact hes x hx
        · exact ⟨kl, hkey⟩
      · rw [Array.toList_push, List.map_append, List.nodup_append]
        refine ⟨hnd, by simp, fun x hx y hy => ?_⟩
        obtain ⟨z, hz, rfl⟩ := List.mem_map.1 hx
        have := hlt z hz
        have hy' : y = clock := by simpa using hy
        omega
      · intro x hx
        simp only [Array.toList_push, List.mem_append, List.mem_singleton] at hx
        rcases hx with hx | rfl
        · have := hlt x hx; omega
        · exact Nat.lt_succ_self _
  · exact absurd (hk ▸ List.mem_map.2 ⟨e0, List.mem_of_getElem? h2, by rw [h3]⟩) (hnew e0.val)

theorem setBlock_chg (w : World) (b : Nat) (o : Obj) : Chg (· = b) w (ChangeMaps.setBlock w b o) :=
  ⟨rfl, rfl, rfl, by simp [ChangeMaps.setBlock], fun k hk hn => by simp only [ChangeMaps.setBlock]; rw [Array.getElem?_setIfInBounds_ne (by omega)]⟩

theorem e_makeMap {k0 : TypeId} (E : Fr a n l) (ho : o.op = .makeMap t none) (hw : want ops l o = some true)
    (k : ∀ (w' : World) (g : Nat) (a' : Act), Ext w w' → w.heap.size ≤ g → Mp P k0 w' g [] → (∀ l', putE n l o.dst (.map (some g)) = some l' → Fr a' n l') → wpList P ops Q rest a' w') : wpList P ops Q (o :: rest) a w := by
  refine wpList_step fun K hK => ?_
  rw [if_pos (want_spec E hw)]
  unfold Oper.wp
  have hr : (execOp a.eval o).run P w = .ok (.value (.map (some w.heap.size))) (w.alloc (.map #[] 0)) := by
    have : (Instr.makeMap t none).run P w = .ok (.map (some w.heap.size)) (w.alloc (.map #[] 0)) := rfl
    simp [execOp, ho, this, Result.andThen]
  rw [hr]
  exact hK _ _ (k _ _ _ (Chg.alloc _ _) (Nat.le_refl _) ⟨#[], 0, (MapKept.heap_alloc w _).1, rfl, by simp, by simp, by simp⟩ fun l' hl => putE_spec E hl)

/-- 'm[k]' and 'v, ok := m[k]' -/
theorem e_lookup {m x : Operand} {c : Bool} {k0 : TypeId} {r : TRow} (E : Fr a n l) (ho : o.op = .lookup t m x c) (hw : want ops l o = some true) (hT : TbOk P T) (ht : tdesc T t = some (.map k0 e)) (hz : tlk T e = some r) (K : Keyed P k0)
    (hm : opv l m = some (.map (some b))) (hx : opv l x = some key) (hM : Mp P k0 w b kvs) (hkey : ∃ kl, keyOf P k0 key = some kl)
    (kN : (∀ v, (key, v) ∉ kvs) → ∀ a' l', putE n l o.dst (if c then .tuple #[r.z, .bool false] else r.z) = some l' → Fr a' n l' → wpList P ops Q rest a' w)
    (kY : ∀ v, (key, v) ∈ kvs → ∀ a' l', putE n l o.dst (if c then .tuple #[v, .bool true] else v) = some l' → Fr a' n l' → wpList P ops Q rest a' w)
    (hd : ∀ v, ∃ l', putE n l o.dst v = some l') : wpList P ops Q (o :: rest) a w := by
  obtain ⟨kl, hkey⟩ := hkey
  have hr : ∀ v, (Instr.lookup t (.map (some b)) key c).run P w = .ok v w → (execOp a.eval o).run P w = .ok (.value v) w := by
    intro v hv
    simp [execOp, ho, E.eval hm, E.eval hx, hv, Result.andThen]
  rcases hM.look K (tdesc_row hT ht) (tz_row hT hz) hkey c with ⟨h1, h2⟩ | ⟨v, h1, h2⟩
  · obtain ⟨l', hl⟩ := hd (if c then .tuple #[r.z, .bool false] else r.z)
    exact step_val E hw (hr _ h1) hl fun a' E' => kN h2 a' l' hl E'
  · obtain ⟨l', hl⟩ := hd (if c then .tuple #[v, .bool true] else v)
    exact step_val E hw (hr _ h2) hl fun a' E' => kY v h1 a' l' hl E'

theorem e_mapUpdate {m x y : Operand} {k0 : TypeId} {val : Value} (E : Fr a n l) (ho : o.op = .mapUpdate t m x y) (hw : want ops l o = some true) (hT : TbOk P T) (ht : tdesc T t = some (.map k0 e)) (K : Keyed P k0)
    (hm : opv l m = some (.map (some b))) (hx : opv l x = some key) (hy : opv l y = some val) (hM : Mp P k0 w b kvs) (hkey : ∃ kl, keyOf P k0 key = some kl) (hnew : ∀ v, (key, v) ∉ kvs) (hd : o.dst = none)
    (k : ∀ (w' : World) (a' : Act), Chg (· = b) w w' → Mp P k0 w' b (kvs ++ [(key, val)]) → Fr a' n l → wpList P ops Q rest a' w') : wpList P ops Q (o :: rest) a w := by
  obtain ⟨kl, hkey⟩ := hkey
  obtain ⟨ob, h1, h2⟩ := hM.put_new K (tdesc_row hT ht) hkey hnew (val := val)
  have hr : (execOp a.eval o).run P w = .ok .skip (ChangeMaps.setBlock w b ob) := by
    simp [execOp, ho, E.eval hm, E.eval hx, E.eval hy, h1, Result.andThen]
  refine step_skip E hw hr (l' := l) (by rw [hd]; rfl) fun a' E' => k _ _ (setBlock_chg w b ob) h2 E'

def Lo (B : Nat) : Nat → Prop := (· < B)
def Hi (B : Nat) : Nat → Prop := (B ≤ ·)
theorem lo_hi {B : Nat} : ∀ b, Lo B b → ¬ Hi B b := fun b h h' => by unfold Lo at h; unfold Hi at h'; omega

theorem wrap_i64 {x : Int} (h0 : -9223372036854775808 ≤ x) (h1 : x ≤ 9223372036854775807) : IntKind.i64.wrap x = x := by
  unfold IntKind.wrap IntKind.bits IntKind.signed; simp only [Bool.true_and, decide_eq_true_eq]; omega
theorem wrap_u64 {x : Int} (h0 : 0 ≤ x) (h1 : x ≤ 18446744073709551615) : IntKind.u64.wrap x = x := by
  unfold IntKind.wrap IntKind.bits IntKind.signed; simp only [Bool.false_and]; simp; omega
theorem wrap_u8 {x : Int} (h0 : 0 ≤ x) (h1 : x ≤ 255) : IntKind.u8.wrap x = x := by
  unfold IntKind.wrap IntKind.bits IntKind.signed; simp only [Bool.false_and]; simp; omega
theorem wrap_i32 {x : Int} (h0 : -2147483648 ≤ x) (h1 : x ≤ 2147483647) : IntKind.i32.wrap x = x := by
  unfold IntKind.wrap IntKind.bits IntKind.signed; simp only [Bool.true_and, decide_eq_true_eq]; omega
theorem wrap_neg {x : Int} (h0 : -9223372036854775807 ≤ x) (h1 : x ≤ 9223372036854775807) : IntKind.i64.wrap (0 - x) = -x := by
  rw [wrap_i64 (by omega) (by omega)]; omega

theorem Bx.sub {g : Nat} {t : TypeId} {cs : List Value} (h : Bx w g t cs) (o : Nat) (vs : List Value) (e : (cs.drop o).take vs.length = vs) : cellsAt w g o vs := by
  refine cellsAt.of_get fun j u hj => h.cell ?_
  have hlt : j < vs.length := by
    rcases Nat.lt_or_ge j vs.length with q | q
    · exact q
    · rw [List.getElem?_eq_none q] at hj; cases hj
  rw [← e, List.getElem?_take, if_pos hlt, List.getElem?_drop] at hj
  exact hj

theorem C.atP {α : Type} {m : Nat} {f : α → List Value} {e : ∀ x, (f x).length = m} {e1 : ∀ x, (f x).all Value.oneCell' = true} {F : Nat → Prop} {xs : List α} {b o : Nat} (h : C (Cod.plain m f e e1) w F (some ⟨b, o, none⟩) xs) (z : α) {i : Int} (h0 : 0 ≤ i) (h1 : i < (xs.length : Int)) :
    cellsAt w b (o + i.toNat * m) (f (xs.getD i.toNat z)) := by
  obtain ⟨cs, k1, k2⟩ := h.at z h0 h1
  cases k1
  exact k2

theorem C.atF {α : Type} {m : Nat} {f : α → List Value} {e : ∀ x, (f x).length = m} {e1 : ∀ x, (f x).all Value.oneCell' = true} {F : Nat → Prop} {xs : List α} {b o : Nat} (h : C (Cod.plain m f e e1) w F (some ⟨b, o, none⟩) xs) (z : α) {i : Int} (h0 : 0 ≤ i) (h1 : i < (xs.length : Int))
    (j : Nat) {u : Value} (hj : (f (xs.getD i.toNat z))[j]? = some u) : w.cell? ⟨b, o + i.toNat * m + j, none⟩ = some u := (h.atP z h0 h1).get j u hj
theorem Chg.own (h : Chg (Hi w.heap.size) w w') : Ext w w' := h.mono fun k hk hS => by unfold Hi at hS; omega
end
end Go.V
