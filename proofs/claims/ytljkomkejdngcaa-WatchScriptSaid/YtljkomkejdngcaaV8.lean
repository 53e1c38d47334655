/- Rows of one's own, apart from other blocks. -/
import Derived.Test.YtljkomkejdngcaaV7
set_option linter.all false
set_option linter.unusedVariables false
set_option linter.unnecessarySimpa false
set_option linter.unusedSimpArgs false
namespace Go.V
open Go Go.RowKit

/-- the block behind an address -/
abbrev At (A : Option Addr) (q : Nat) : Prop := ∃ o s, A = some ⟨q, o, s⟩
theorem At.nil (q : Nat) : ¬ At none q := fun ⟨_, _, h⟩ => by cases h
theorem At.of_g {g o : Nat} {q : Nat} (h : At (some ⟨g, o, none⟩) q) : q = g := by
  obtain ⟨_, _, h⟩ := h
  injection h with h
  injection h with h _ _
  exact h.symm

section
variable {α β : Type} {d : Cod α} {d2 : Cod β} {e e2 : TypeId} {w w' : World} {base base2 : Nat} {F F2 : Nat → Prop} {A A' B : Option Addr} {c c2 : Nat} {xs ys : List α} {zs : List β} {g : Nat} {S : Nat → Prop}

theorem Row.inv (h : Row d e w base F A c xs) {q : Nat} (hq : At A q) : base ≤ q ∧ q < w.heap.size ∧ ¬ F q := by
  rcases h.addr with rfl | ⟨g, rfl, h1, h2, h3⟩
  · exact absurd hq (At.nil _)
  · have := hq.of_g; subst this; exact ⟨h1, h2, h3⟩
theorem Row.hi (h : Row d e w base F A c xs) : ∀ q, At A q → Hi base q := fun _ hq => (h.inv hq).1
theorem Row.lo (h : Row d e w base F A c xs) : ∀ q, Lo base q → ¬ At A q := fun q hl hq => by have := (h.inv hq).1; unfold Lo at hl; omega
theorem Row.fresh (h : Row d e w base F A c xs) (hg : w.heap.size ≤ g) : ¬ At A g := fun hq => by have := (h.inv hq).2.1; omega
theorem At.step (hn : ∀ q o s, A' = some ⟨q, o, s⟩ → A = some ⟨q, o, s⟩ ∨ w.heap.size ≤ q) (h : ¬ At A g) (hg : g < w.heap.size) : ¬ At A' g := by
  rintro ⟨o, s, e⟩
  rcases hn _ _ _ e with h1 | h1
  · exact h ⟨_, _, h1⟩
  · omega
theorem Row.eq (h : Row d e w base F A c xs) (he : xs = ys) : Row d e w base F A c ys := he ▸ h
theorem Row.from_ (h : Row d e w base F A c xs) (hb : base2 ≤ base) : Row d e w base2 F A c xs := by
  obtain ⟨cells, ⟨h1, h2⟩, h3, h4⟩ := h
  refine ⟨cells, ⟨h1, ?_⟩, h3, h4⟩
  rcases h2 with h2 | ⟨g, cap, cur, e1, hb', r⟩
  · exact .inl h2
  · exact .inr ⟨g, cap, cur, e1, Nat.le_trans hb hb', r⟩
/-- for a callee -/
theorem Row.now (h : Row d e w base No A c xs) : V.C d w (Lo w.heap.size) A xs := h.C.mono fun b hb => by
  rcases hb with hb | hb
  · exact hb.elim
  · exact (h.inv hb).2.1

/-! what is written no more: its blocks -/
def FzA (F : Nat → Prop) (A : Option Addr) : Nat → Prop := fun q => F q ∨ At A q
def FzF (F G : Nat → Prop) : Nat → Prop := fun q => F q ∨ G q
def FzG (F : Nat → Prop) (g : Nat) : Nat → Prop := fun q => F q ∨ q = g
/-- blocks of the call's own -/
def Own (b : Nat) (w : World) (F : Nat → Prop) : Prop := ∀ q, F q → b ≤ q ∧ q < w.heap.size
theorem Own.no (b : Nat) (w : World) : Own b w No := fun _ h => h.elim
theorem Own.step {b : Nat} (h : Own b w F) (hc : Chg S w w') : Own b w' F := fun q hq => ⟨(h q hq).1, Nat.lt_of_lt_of_le (h q hq).2 hc.size⟩
theorem FzG.no {g2 : Nat} (h1 : ¬ F g2) (h2 : ¬ (g2 = g)) : ¬ FzG F g g2 := fun h => h.elim h1 h2
theorem FzG.noA (h1 : ∀ q, At B q → ¬ F q) (h2 : ¬ At B g) : ∀ q, At B q → ¬ FzG F g q := fun q hq h => h.elim (h1 q hq) (fun e => h2 (e ▸ hq))
theorem BL.ro {M : Nat} (h : BL d w F g e M xs) (hF : ∀ q, F q → S q) : V.C d w (FzG S g) (some ⟨g, 0, none⟩) xs := h.C.mono fun b hb => by
  rcases hb with hb | hb
  · exact .inl (hF b hb)
  · exact .inr hb
theorem BL.monoF {M : Nat} {G : Nat → Prop} (h : BL d w F g e M xs) (hF : ∀ b, F b → G b) (hG : ¬ G g) : BL d w G g e M xs := by
  obtain ⟨h1, h2, cells, h3, h4⟩ := h
  exact ⟨h1, hG, cells, h3.mono hF, h4⟩
theorem Own.new {b : Nat} (h : Own b w F) (hg : w.heap.size ≤ g) : ¬ F g := fun hq => by have := (h g hq).2; omega
theorem Own.lt {b : Nat} (h : Own b w F) : ∀ q, F q → Lo w.heap.size q := fun q hq => (h q hq).2
theorem FzA.no (h1 : ¬ F g) (h2 : ¬ At A g) : ¬ FzA F A g := fun h => h.elim h1 h2
theorem FzA.noA (h1 : ∀ q, At B q → ¬ F q) (h2 : ∀ q, At A q → ¬ At B q) : ∀ q, At B q → ¬ FzA F A q := fun q hq h => h.elim (h1 q hq) (fun h' => h2 q h' hq)
theorem FzF.no {G : Nat → Prop} (h1 : ¬ F g) (h2 : ¬ G g) : ¬ FzF F G g := fun h => h.elim h1 h2
theorem FzF.noA {G : Nat → Prop} (h1 : ∀ q, At B q → ¬ F q) (h2 : ∀ q, At B q → ¬ G q) : ∀ q, At B q → ¬ FzF F G q := fun q hq h => h.elim (h1 q hq) (h2 q hq)
/-- a row that is written no more -/
theorem Row.ro (h : Row d e w base F A c xs) (hF : ∀ q, F q → S q) : V.C d w (FzA S A) A xs := h.C.mono fun b hb => by
  rcases hb with hb | hb
  · exact .inl (hF b hb)
  · exact .inr hb
theorem Row.monoF {G : Nat → Prop} (h : Row d e w base F A c xs) (hF : ∀ b, F b → G b) (hG : ∀ q, At A q → ¬ G q) : Row d e w base G A c xs := h.mono hF fun g e => hG g ⟨_, _, e⟩
/-- an element that is a slice, its content apart from the row's own block -/
theorem Row.atSl {d : Cod α} {xs : List (List α)} {b o : Nat} (h : Row (cSl d) e w base F (some ⟨b, o, none⟩) c xs) {i : Int} (h0 : 0 ≤ i) (h1 : i < (xs.length : Int)) :
    ∃ A c, w.cell? ⟨b, o + i.toNat * 1, none⟩ = some (.slice A (xs.getD i.toNat []).length c) ∧ (xs.getD i.toNat []).length ≤ c ∧ V.C d w F A (xs.getD i.toNat []) := by
  have hC := h.C
  obtain ⟨A, c, e1, k1, _⟩ := hC.atSl h0 h1
  obtain ⟨cells, hown, he, hn⟩ := h
  have ho : o = 0 := by
    rcases hown.2 with ⟨e3, _⟩ | ⟨g, cap, cur, e3, _⟩
    · injection e3 with e3 _ _; cases e3
    · injection e3 with e3 _ _; cases e3; rfl
  subst ho
  have hlt : i.toNat < xs.length := by omega
  have hi : xs[i.toNat]? = some (xs.getD i.toNat []) := by simp [List.getD_eq_getElem?_getD, hlt]
  obtain ⟨cs, ⟨A2, c2, e2, k2, k3⟩, k4⟩ := he.get _ _ hi
  subst e2
  refine ⟨A2, c2, ?_, k2, k3⟩
  have hat : cellsAt w b 0 cells := cellsAt.of_get fun j u hj => by rw [← add_none]; exact hown.cells (g := b) rfl j u hj
  have := hat.get (i.toNat * 1 + 0) _ (k4 0 _ rfl)
  simpa using this

/-- a made block, as a row that has as many as it is asked -/
theorem BL.row {M : Nat} (h : BL d w F g e M xs) (hb : base ≤ g) (N : Nat) (hN : N ≤ M) (hM : M ≤ 1000000000000) : Row d e w base F (some ⟨g, 0, none⟩) M (xs.take N) := by
  obtain ⟨h1, h2, cells, h3, h4⟩ := h
  have hl := h3.length
  have hN' : (xs.take N).length = N := by rw [List.length_take, Nat.min_eq_left (by omega)]
  refine ⟨cells.take (N * d.sz), ⟨?_, .inr ⟨g, M, ⟨cells⟩, by rw [hN'], hb, h4, by omega, by unfold maxLen; omega, by simpa [h1] using hl, by rw [hN']⟩⟩, h3.take N, ?_⟩
  · rw [(h3.take N).length]
  · intro b o s hA
    injection hA with hA
    injection hA with h5 _ _
    subst h5
    exact h2
end

/-! ### values that are indexed; loops of a few rounds -/
section
variable {P : Program} {T : List TRow} {a : Act} {n : Nat} {l l' : List (Nat × Value)} {ops : Array Oper} {Q : Exit → Act → World → Prop} {rest : List Oper} {o : Oper} {w : World} {t e : TypeId}
theorem Row.addr' {α : Type} {d : Cod α} {base c : Nat} {F : Nat → Prop} {A : Option Addr} {xs : List α} (h : Row d e w base F A c xs) (hl : 0 < xs.length) : ∃ b, A = some ⟨b, 0, none⟩ := by
  rcases h.addr with rfl | ⟨g, rfl, _⟩
  · obtain ⟨cells, ⟨_, h2⟩, _⟩ := h
    rcases h2 with ⟨_, e2⟩ | ⟨g, cap, cur, e1, _⟩
    · omega
    · injection e1 with e1 _ _; cases e1
  · exact ⟨g, rfl⟩
end
end Go.V
