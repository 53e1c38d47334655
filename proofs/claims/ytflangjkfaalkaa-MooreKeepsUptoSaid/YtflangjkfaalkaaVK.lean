/- Maps over the list of objects. -/
import Derived.Test.YtflangjkfaalkaaVJ
set_option linter.all false
set_option linter.unusedVariables false
set_option linter.unnecessarySimpa false
set_option linter.unusedSimpArgs false
namespace Go.V
open Go Go.RowKit
open Go.Maps (Keyed)

theorem Hp.raddrx {S Fa : Nat → Prop} {w0 w : World} {L : List Ent} (H : Hp S Fa w0 w L) (j : Nat) {α : Type} {f : Bool} {d : Cod α} {t c : Nat} {A : Option Addr} {xs sp : List α} (h : nth L j = .rowx f d t A c xs sp) (hl : 0 < xs.length) : ∃ g, A = some ⟨g, 0, none⟩ := by
  obtain ⟨Fz, H⟩ := H
  have := oks_nth j H.ok
  rw [h] at this
  exact Rw.addr this hl

def mget {κ ν : Type} [DecidableEq κ] : List (κ × ν) → κ → Option ν
  | [], _ => none
  | (a, b) :: r, k => if a = k then some b else mget r k

/-- a type of keys -/
structure Kty {κ : Type} (P : Program) (k0 : TypeId) (ek : κ → Value) (wf : κ → Prop) : Prop where
  K : Keyed P k0
  inj : ∀ x y, ek x = ek y → x = y
  of : ∀ x, wf x → ∃ l, keyOf P k0 (ek x) = some l

section
variable {κ ν : Type} [DecidableEq κ] {ek : κ → Value} {ev : ν → Value} {kvs : List (κ × ν)} {k : κ}
theorem mget_none : ∀ {kvs : List (κ × ν)}, (∀ v, (ek k, v) ∉ kvs.map fun p => (ek p.1, ev p.2)) → mget kvs k = none
  | [], _ => rfl
  | (a, b) :: r, h => by
    unfold mget
    by_cases e : a = k
    · subst e; exact absurd (by simp) (h (ev b))
    · rw [if_neg e]; exact mget_none fun v hv => h v (by simp only [List.map_cons, List.mem_cons]; exact .inr hv)
theorem mget_some (hi : ∀ x y, ek x = ek y → x = y) {v : Value} : ∀ {kvs : List (κ × ν)}, ((kvs.map fun p => (ek p.1, ev p.2)).map Prod.fst).Nodup → (ek k, v) ∈ (kvs.map fun p => (ek p.1, ev p.2)) → ∃ u, mget kvs k = some u ∧ ev u = v
  | [], _, h => by simp at h
  | (a, b) :: r, hn, h => by
    simp only [List.map_cons, List.nodup_cons] at hn
    unfold mget
    by_cases e : a = k
    · subst e
      rw [if_pos rfl]
      simp only [List.map_cons, List.mem_cons] at h
      rcases h with h | h
      · exact ⟨b, rfl, (Prod.mk.inj h).2.symm⟩
      · exact absurd (List.mem_map.2 ⟨_, h, rfl⟩) hn.1
    · rw [if_neg e]
      simp only [List.map_cons, List.mem_cons] at h
      rcases h with h | h
      · exact absurd (hi _ _ (Prod.mk.inj h).1).symm e
      · exact mget_some hi hn.2 h
theorem mget_no (hi : ∀ x y, ek x = ek y → x = y) : ∀ {kvs : List (κ × ν)}, mget kvs k = none → ∀ v, (ek k, v) ∉ kvs.map fun p => (ek p.1, ev p.2)
  | [], _, v, h => by simp at h
  | (a, b) :: r, hm, v, h => by
    unfold mget at hm
    by_cases e : a = k
    · rw [if_pos e] at hm; cases hm
    · rw [if_neg e] at hm
      simp only [List.map_cons, List.mem_cons] at h
      rcases h with h | h
      · exact e (hi _ _ (Prod.mk.inj h).1).symm
      · exact mget_no hi hm v h
end

section
variable {P : Program} {T : List TRow} {w w' w0 : World} {a : Act} {n : Nat} {l l' : List (Nat × Value)} {ops : Array Oper} {Q : Exit → Act → World → Prop} {o : Oper} {rest : List Oper} {t e : TypeId} {S Fa : Nat → Prop} {L : List Ent}

theorem h_makeMap {k0 : TypeId} (H : Hp S Fa w0 w L) (E : Fr a n l) (ho : o.op = .makeMap t none) (hw : want ops l o = some true)
    (k : ∀ (w' : World) (g : Nat) (a' : Act), Ext w w' → w.heap.size ≤ g → Hp S Fa w0 w' (addE L [.mp P k0 g []]) → (∀ l', putE n l o.dst (.map (some g)) = some l' → Fr a' n l') → wpList P ops Q rest a' w') : wpList P ops Q (o :: rest) a w :=
  e_makeMap (k0 := k0) E ho hw fun w' g a' hc hg hM hE => k w' g a' hc hg (H.new _ hc (fun q hq => ⟨Nat.le_trans hg (Nat.le_of_eq (Eq.symm hq)), Nat.lt_of_le_of_lt (Nat.le_of_eq hq) hM.lt⟩) fun _ _ => ⟨hM, List.nodup_nil⟩) hE

/-- 'v, ok := m[k]' -/
theorem h_lookupC {κ ν : Type} [DecidableEq κ] (ek : κ → Value) (ev : ν → Value) {wf : κ → Prop} (x : κ) (z : ν) {kvs : List (κ × ν)} {g : Nat} {m y : Operand} {k0 : TypeId} {r : TRow} (H : Hp S Fa w0 w L) (j : Nat) (hj : nth L j = .mp P k0 g (kvs.map fun p => (ek p.1, ev p.2)))
    (E : Fr a n l) (ho : o.op = .lookup t m y true) (hw : want ops l o = some true) (hT : TbOk P T) (ht : tdesc T t = some (.map k0 e)) (hz : tlk T e = some r) (K : Kty P k0 ek wf) (hev : r.z = ev z)
    (hm : opv l m = some (.map (some g))) (hx : opv l y = some (ek x)) (hkey : wf x) (hd : ∀ v, ∃ l', putE n l o.dst v = some l')
    (k : ∀ a', (∀ l', putE n l o.dst (.tuple #[ev (Option.getD (mget kvs x) z), .bool (Option.isSome (mget kvs x))]) = some l' → Fr a' n l') → wpList P ops Q rest a' w) : wpList P ops Q (o :: rest) a w := by
  have hM := H.mp j hj
  refine e_lookup E ho hw hT ht hz K.K hm hx hM.1 (K.of x hkey) (fun h a' l' hl E' => ?_) (fun v hv a' l' hl E' => ?_) hd
  · refine k a' fun l2 hl2 => ?_
    rw [mget_none h] at hl2
    rw [hev] at hl
    simp only [if_true] at hl
    have e1 : some l' = some l2 := hl.symm.trans hl2
    cases e1; exact E'
  · obtain ⟨u, h1, h2⟩ := mget_some K.inj hM.2 hv
    refine k a' fun l2 hl2 => ?_
    rw [h1] at hl2
    simp only [if_true] at hl
    rw [← h2] at hl
    have e1 : some l' = some l2 := hl.symm.trans hl2
    cases e1; exact E'
theorem h_lookup1 {κ ν : Type} [DecidableEq κ] (ek : κ → Value) (ev : ν → Value) {wf : κ → Prop} (x : κ) (z : ν) {kvs : List (κ × ν)} {g : Nat} {m y : Operand} {k0 : TypeId} {r : TRow} (H : Hp S Fa w0 w L) (j : Nat) (hj : nth L j = .mp P k0 g (kvs.map fun p => (ek p.1, ev p.2)))
    (E : Fr a n l) (ho : o.op = .lookup t m y false) (hw : want ops l o = some true) (hT : TbOk P T) (ht : tdesc T t = some (.map k0 e)) (hz : tlk T e = some r) (K : Kty P k0 ek wf) (hev : r.z = ev z)
    (hm : opv l m = some (.map (some g))) (hx : opv l y = some (ek x)) (hkey : wf x) (hd : ∀ v, ∃ l', putE n l o.dst v = some l')
    (k : ∀ a', (∀ l', putE n l o.dst (ev (Option.getD (mget kvs x) z)) = some l' → Fr a' n l') → wpList P ops Q rest a' w) : wpList P ops Q (o :: rest) a w := by
  have hM := H.mp j hj
  refine e_lookup E ho hw hT ht hz K.K hm hx hM.1 (K.of x hkey) (fun h a' l' hl E' => ?_) (fun v hv a' l' hl E' => ?_) hd
  · refine k a' fun l2 hl2 => ?_
    rw [mget_none h] at hl2
    rw [hev] at hl
    have e1 : some l' = some l2 := hl.symm.trans hl2
    cases e1; exact E'
  · obtain ⟨u, h1, h2⟩ := mget_some K.inj hM.2 hv
    refine k a' fun l2 hl2 => ?_
    rw [h1] at hl2
    rw [← h2] at hl
    have e1 : some l' = some l2 := hl.symm.trans hl2
    cases e1; exact E'
theorem h_mapUpdate {κ ν : Type} [DecidableEq κ] (ek : κ → Value) (ev : ν → Value) {wf : κ → Prop} (x : κ) (u : ν) {kvs : List (κ × ν)} {g : Nat} {m y q : Operand} {k0 : TypeId} (H : Hp S Fa w0 w L) (j : Nat) (hj : nth L j = .mp P k0 g (kvs.map fun p => (ek p.1, ev p.2)))
    (E : Fr a n l) (ho : o.op = .mapUpdate t m y q) (hw : want ops l o = some true) (hT : TbOk P T) (ht : tdesc T t = some (.map k0 e)) (K : Kty P k0 ek wf)
    (hm : opv l m = some (.map (some g))) (hx : opv l y = some (ek x)) (hy : opv l q = some (ev u)) (hkey : wf x) (hnew : mget kvs x = none) (hd : o.dst = none)
    (k : ∀ (w' : World) (a' : Act), Chg (nth L j).at w w' → Hp S Fa w0 w' (setn L j (.mp P k0 g ((kvs ++ [(x, u)]).map fun p => (ek p.1, ev p.2)))) → Fr a' n l → wpList P ops Q rest a' w') : wpList P ops Q (o :: rest) a w := by
  have hM := H.mp j hj
  have hno := mget_no (ev := ev) K.inj hnew
  refine e_mapUpdate E ho hw hT ht K.K hm hx hy hM.1 (K.of x hkey) hno hd fun w' a' hc hM' E' => ?_
  have hc' : Chg (nth L j).at w w' := by rw [hj]; exact hc
  refine k w' a' hc' (H.put j _ hc' (fun q hq => ⟨.inl (by rw [hj]; exact hq), Nat.lt_of_le_of_lt (Nat.le_of_eq hq) hM'.lt⟩) fun _ _ => ⟨by simpa using hM', ?_⟩) E'
  rw [List.map_append, List.map_append, List.nodup_append]
  refine ⟨hM.2, by simp, ?_⟩
  intro p hp q hq e
  simp at hq
  subst hq
  obtain ⟨y, hy1, hy2⟩ := List.mem_map.1 hp
  obtain ⟨v, rfl⟩ : ∃ v, y = (ek x, v) := ⟨y.2, by rw [← e, ← hy2]⟩
  exact hno v hy1
/-- 'len(m)' -/
theorem h_maplen {κ ν : Type} (ek : κ → Value) (ev : ν → Value) {kvs : List (κ × ν)} {g : Nat} {x : Operand} {k0 : TypeId} (H : Hp S Fa w0 w L) (j : Nat) (hj : nth L j = .mp P k0 g (kvs.map fun p => (ek p.1, ev p.2)))
    (E : Fr a n l) (ho : o.op = .call { callee := .builtin .len, args := #[x], argTypes := #[t] }) (hw : want ops l o = some true) (hT : TbOk P T) (ht : tdesc T t = some (.map k0 e)) (hx : opv l x = some (.map (some g)))
    (hl : putE n l o.dst (.int .i64 (kvs.length : Int)) = some l') (k : ∀ a', Fr a' n l' → wpList P ops Q rest a' w) : wpList P ops Q (o :: rest) a w := by
  refine step_val E hw ?_ hl k
  obtain ⟨⟨es, c, hb, hk, _⟩, _⟩ := H.mp j hj
  have h1 := tdesc_row hT ht
  have hlen : es.size = kvs.length := by
    have := congrArg List.length hk
    simpa using this
  simp [execOp, ho, resolve, invoke, builtin, E.eval hx, Builtin.len_, run_underlying h1, Result.andThen, MapKept.run_getObj_map hb, goInt, hlen]
end
/-! ### key types -/
theorem kInt {P : Program} {k0 : TypeId} (h : P.underlying k0 = some (.int .i64)) : Kty P k0 (fun x : Int => .int .i64 x) in64 :=
  ⟨Maps.int_keyed h, fun x y e => by cases e; rfl, fun x hx => ⟨.int .i64 x, by
    have : (Lit.int .i64 x).wf = true := by unfold in64 at hx; simp [Lit.wf, IntKind.min, IntKind.max, IntKind.signed, IntKind.bits]; omega
    simp [keyOf, h, mapKey, this]⟩⟩

/-! ### strings -/
def strOk (x : ByteArray) : Prop := x.size ≤ maxLen
instance (x : ByteArray) : Decidable (strOk x) := inferInstanceAs (Decidable (_ ≤ _))
theorem kStr {P : Program} {k : TypeId} (h : P.underlying k = some .string) : Kty P k (fun x : ByteArray => .string x) strOk :=
  ⟨Maps.string_keyed h, fun x y e => by cases e; rfl, fun x hx => ⟨.string x.data.toList, by
    unfold strOk at hx
    simp [keyOf, h, mapKey, hx]⟩⟩
def sb (s : ByteArray) (j : Int) : Int := ((s.data.getD j.toNat 0).toNat : Int)
section
variable {P : Program} {T : List TRow} {w : World} {a : Act} {n : Nat} {l l' : List (Nat × Value)} {ops : Array Oper} {Q : Exit → Act → World → Prop} {o : Oper} {rest : List Oper}
def strEq (s u : ByteArray) : Bool := s.data.toList == u.data.toList
theorem toList_strEq (s u : ByteArray) : (s.toList == u.toList) = strEq s u := by rw [ByteArray.toList_eq, ByteArray.toList_eq]; rfl
theorem e_eqStr {x y : Operand} {t ty : TypeId} {s u : ByteArray} (E : Fr a n l) (ho : o.op = .binOp .eql t x y ty) (hw : want ops l o = some true) (hT : TbOk P T) (ht : tdesc T t = some .string) (hx : opv l x = some (.string s)) (hy : opv l y = some (.string u))
    (hl : putE n l o.dst (.bool (strEq s u)) = some l') (k : ∀ a', Fr a' n l' → wpList P ops Q rest a' w) : wpList P ops Q (o :: rest) a w := by
  refine step_val E hw ?_ hl k
  have hg : (eqGuard .eql t x y (.string s) (.string u)).run P w = .ok () w := by
    unfold eqGuard
    split <;> simp
  simp [execOp, ho, E.eval hx, E.eval hy, hg, binOp, Op.stringOp, Result.andThen, toList_strEq]
theorem e_eqStrN {x y : Operand} {t ty : TypeId} {s u : ByteArray} (E : Fr a n l) (ho : o.op = .binOp .neq t x y ty) (hw : want ops l o = some true) (hT : TbOk P T) (ht : tdesc T t = some .string) (hx : opv l x = some (.string s)) (hy : opv l y = some (.string u))
    (hl : putE n l o.dst (.bool (!(strEq s u))) = some l') (k : ∀ a', Fr a' n l' → wpList P ops Q rest a' w) : wpList P ops Q (o :: rest) a w := by
  refine step_val E hw ?_ hl k
  have hg : (eqGuard .neq t x y (.string s) (.string u)).run P w = .ok () w := by
    unfold eqGuard
    split <;> simp
  simp [execOp, ho, E.eval hx, E.eval hy, hg, binOp, Op.stringOp, Result.andThen, toList_strEq]
theorem sb_get {s : ByteArray} {j : Int} (g : idx j s.size) : s[j.toNat]? = some (s.data.getD j.toNat 0) := by
  unfold idx at g
  have h : j.toNat < s.size := by omega
  have h2 : j.toNat < s.data.size := h
  rw [getElem?_pos s j.toNat h, Array.getD_eq_getD_getElem?, Array.getElem?_eq_getElem h2]
  rfl
theorem e_idxStr {x i : Operand} {t : TypeId} {s : ByteArray} {k : IntKind} {j : Int} (E : Fr a n l) (ho : o.op = .index t x i) (hw : want ops l o = some true) (hT : TbOk P T) (ht : tdesc T t = some .string)
    (hx : opv l x = some (.string s)) (hi : opv l i = some (.int k j)) (g : idx j s.size) (hl : putE n l o.dst (.int .u8 (sb s j)) = some l') (k' : ∀ a', Fr a' n l' → wpList P ops Q rest a' w) : wpList P ops Q (o :: rest) a w :=
  e_indexS E ho hw hT ht hx hi g.1 (sb_get g) rfl hl k'
end
end Go.V
