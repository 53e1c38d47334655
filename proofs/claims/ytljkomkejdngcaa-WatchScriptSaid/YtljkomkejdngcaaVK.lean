/- Maps over the list of objects. -/
import Derived.Test.YtljkomkejdngcaaVJ
set_option linter.all false
set_option linter.unusedVariables false
set_option linter.unnecessarySimpa false
set_option linter.unusedSimpArgs false
namespace Go.V
open Go Go.RowKit
open Go.Maps (Keyed)

theorem Hp.raddrx {S Fa : Nat → Prop} {w0 w : World} {L : List Ent} (H : Hp S Fa w0 w L) (j : Nat) {α : Type} {f : Bool} {d : Cod α} {t c : Nat} {A : Option Addr} {xs sp : List α} (h : nth L j = .rowx f d t A c xs sp) (hl : 0 < xs.length) : ∃ g, A = some ⟨g, 0, none⟩ := by
  obtain ⟨Fz, H⟩ := H
  have := oks_nth j H.ok
  rw [h] at this
  exact Rw.addr this hl

def mget {κ ν : Type} [DecidableEq κ] : List (κ × ν) → κ → Option ν
  | [], _ => none
  | (a, b) :: r, k => if a = k then some b else mget r k

/-- a type of keys -/
structure Kty {κ : Type} (P : Program) (k0 : TypeId) (ek : κ → Value) (wf : κ → Prop) : Prop where
  K : Keyed P k0
  inj : ∀ x y, ek x = ek y → x = y
  of : ∀ x, wf x → ∃ l, keyOf P k0 (ek x) = some l

section
variable {κ ν : Type} [DecidableEq κ] {ek : κ → Value} {ev : ν → Value} {kvs : List (κ × ν)} {k : κ}
theorem mget_none : ∀ {kvs : List (κ × ν)}, (∀ v, (ek k, v) ∉ kvs.map fun p => (ek p.1, ev p.2)) → mget kvs k = none
  | [], _ => rfl
  | (a, b) :: r, h => by
    unfold mget
    by_cases e : a = k
    · subst e; exact absurd (by simp) (h (ev b))
    · rw [if_neg e]; exact mget_none fun v hv => h v (by simp only [List.map_cons, List.mem_cons]; exact .inr hv)
theorem mget_some (hi : ∀ x y, ek x = ek y → x = y) {v : Value} : ∀ {kvs : List (κ × ν)}, ((kvs.map fun p => (ek p.1, ev p.2)).map Prod.fst).Nodup → (ek k, v) ∈ (kvs.map fun p => (ek p.1, ev p.2)) → ∃ u, mget kvs k = some u ∧ ev u = v
  | [], _, h => by simp at h
  | (a, b) :: r, hn, h => by
    simp only [List.map_cons, List.nodup_cons] at hn
    unfold mget
    by_cases e : a = k
    · subst e
      rw [if_pos rfl]
      simp only [List.map_cons, List.mem_cons] at h
      rcases h with h | h
      · exact ⟨b, rfl, (Prod.mk.inj h).2.symm⟩
      · exact absurd (List.mem_map.2 ⟨_, h, rfl⟩) hn.1
    · rw [if_neg e]
      simp only [List.map_cons, List.mem_cons] at h
      rcases h with h | h
      · exact absurd (hi _ _ (Prod.mk.inj h).1).symm e
      · exact mget_some hi hn.2 h
theorem mget_no (hi : ∀ x y, ek x = ek y → x = y) : ∀ {kvs : List (κ × ν)}, mget kvs k = none → ∀ v, (ek k, v) ∉ kvs.map fun p => (ek p.1, ev p.2)
  | [], _, v, h => by simp at h
  | (a, b) :: r, hm, v, h => by
    unfold mget at hm
    by_cases e : a = k
    · rw [if_pos e] at hm; cases hm
    · rw [if_neg e] at hm
      simp only [List.map_cons, List.mem_cons] at h
      rcases h with h | h
      · exact e (hi _ _ (Prod.mk.inj h).1).symm
      · exact mget_no hi hm v h
end

section
variable {P : Program} {T : List TRow} {w w' w0 : World} {a : Act} {n : Nat} {l l' : List (Nat × Value)} {ops : Array Oper} {Q : Exit → Act → World → Prop} {o : Oper} {rest : List Oper} {t e : TypeId} {S Fa : Nat → Prop} {L : List Ent}

theorem h_makeMap {k0 : TypeId} (H : Hp S Fa w0 w L) (E : Fr a n l) (ho : o.op = .makeMap t none) (hw : want ops l o = some true)
    (k : ∀ (w' : World) (g : Nat) (a' : Act), Ext w w' → w.heap.size ≤ g → Hp S Fa w0 w' (addE L [.mp P k0 g []]) → (∀ l', putE n l o.dst (.map (some g)) = some l' → Fr a' n l') → wpList P ops Q rest a' w') : wpList P ops Q (o :: rest) a w :=
  e_makeMap (k0 := k0) E ho hw fun w' g a' hc hg hM hE => k w' g a' hc hg (H.new _ hc (fun q hq => ⟨Nat.le_trans hg (Nat.le_of_eq (Eq.symm hq)), Nat.lt_of_le_of_lt (Nat.le_of_eq hq) hM.lt⟩) fun _ _ => ⟨hM, List.nodup_nil⟩) hE

theorem h_lookup1 {κ ν : Type} [DecidableEq κ] (ek : κ → Value) (ev : ν → Value) {wf : κ → Prop} (x : κ) (z : ν) {kvs : List (κ × ν)} {g : Nat} {m y : Operand} {k0 : TypeId} {r : TRow} (H : Hp S Fa w0 w L) (j : Nat) (hj : nth L j = .mp P k0 g (kvs.map fun p => (ek p.1, ev p.2)))
    (E : Fr a n l) (ho : o.op = .lookup t m y false) (hw : want ops l o = some true) (hT : TbOk P T) (ht : tdesc T t = some (.map k0 e)) (hz : tlk T e = some r) (K : Kty P k0 ek wf) (hev : r.z = ev z)
    (hm : opv l m = some (.map (some g))) (hx : opv l y = some (ek x)) (hkey : wf x) (hd : ∀ v, ∃ l', putE n l o.dst v = some l')
    (k : ∀ a', (∀ l', putE n l o.dst (ev (Option.getD (mget kvs x) z)) = some l' → Fr a' n l') → wpList P ops Q rest a' w) : wpList P ops Q (o :: rest) a w := by
  have hM := H.mp j hj
  refine e_lookup E ho hw hT ht hz K.K hm hx hM.1 (K.of x hkey) (fun h a' l' hl E' => ?_) (fun v hv a' l' hl E' => ?_) hd
  · refine k a' fun l2 hl2 => ?_
    rw [mget_none h] at hl2
    rw [hev] at hl
    have e1 : some l' = some l2 := hl.symm.trans hl2
    cases e1; exact E'
  · obtain ⟨u, h1, h2⟩ := mget_some K.inj hM.2 hv
    refine k a' fun l2 hl2 => ?_
    rw [h1] at hl2
    rw [← h2] at hl
    have e1 : some l' = some l2 := hl.symm.trans hl2
    cases e1; exact E'
theorem h_mapUpdate {κ ν : Type} [DecidableEq κ] (ek : κ → Value) (ev : ν → Value) {wf : κ → Prop} (x : κ) (u : ν) {kvs : List (κ × ν)} {g : Nat} {m y q : Operand} {k0 : TypeId} (H : Hp S Fa w0 w L) (j : Nat) (hj : nth L j = .mp P k0 g (kvs.map fun p => (ek p.1, ev p.2)))
    (E : Fr a n l) (ho : o.op = .mapUpdate t m y q) (hw : want ops l o = some true) (hT : TbOk P T) (ht : tdesc T t = some (.map k0 e)) (K : Kty P k0 ek wf)
    (hm : opv l m = some (.map (some g))) (hx : opv l y = some (ek x)) (hy : opv l q = some (ev u)) (hkey : wf x) (hnew : mget kvs x = none) (hd : o.dst = none)
    (k : ∀ (w' : World) (a' : Act), Chg (nth L j).at w w' → Hp S Fa w0 w' (setn L j (.mp P k0 g ((kvs ++ [(x, u)]).map fun p => (ek p.1, ev p.2)))) → Fr a' n l → wpList P ops Q rest a' w') : wpList P ops Q (o :: rest) a w := by
  have hM := H.mp j hj
  have hno := mget_no (ev := ev) K.inj hnew
  refine e_mapUpdate E ho hw hT ht K.K hm hx hy hM.1 (K.of x hkey) hno hd fun w' a' hc hM' E' => ?_
  have hc' : Chg (nth L j).at w w' := by rw [hj]; exact hc
  refine k w' a' hc' (H.put j _ hc' (fun q hq => ⟨.inl (by rw [hj]; exact hq), Nat.lt_of_le_of_lt (Nat.le_of_eq hq) hM'.lt⟩) fun _ _ => ⟨by simpa using hM', ?_⟩) E'
  rw [List.map_append, List.map_append, List.nodup_append]
  refine ⟨hM.2, by simp, ?_⟩
  intro p hp q hq e
  simp at hq
  subst hq
  obtain ⟨y, hy1, hy2⟩ := List.mem_map.1 hp
  obtain ⟨v, rfl⟩ : ∃ v, y = (ek x, v) := ⟨y.2, by rw [← e, ← hy2]⟩
  exact hno v hy1
end
/-! ### key types -/
/-! ### strings -/
def strOk (x : ByteArray) : Prop := x.size ≤ maxLen
instance (x : ByteArray) : Decidable (strOk x) := inferInstanceAs (Decidable (_ ≤ _))
section
variable {P : Program} {T : List TRow} {w : World} {a : Act} {n : Nat} {l l' : List (Nat × Value)} {ops : Array Oper} {Q : Exit → Act → World → Prop} {o : Oper} {rest : List Oper}
end
end Go.V
