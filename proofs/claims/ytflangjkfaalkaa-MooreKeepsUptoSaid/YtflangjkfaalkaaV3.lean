/- Worlds that change; what memory holds. -/
import Derived.Test.YtflangjkfaalkaaV2
set_option linter.all false
set_option linter.unusedVariables false
set_option linter.unnecessarySimpa false
set_option linter.unusedSimpArgs false
namespace Go.V
open Go Go.RowKit

/-- From w to w' no block that was there has changed, but for those of S. -/
structure Chg (S : Nat → Prop) (w w' : World) : Prop where
  os : w'.os = w.os
  tape : w'.tape = w.tape
  output : w'.output = w.output
  size : w.heap.size ≤ w'.heap.size
  block : ∀ k, k < w.heap.size → ¬ S k → w'.heap[k]? = w.heap[k]?

def No : Nat → Prop := fun _ => False
abbrev Ext (w w' : World) : Prop := Chg No w w'

section
variable {S S' : Nat → Prop} {w w' w'' : World}
theorem Chg.refl (S : Nat → Prop) (w : World) : Chg S w w := ⟨rfl, rfl, rfl, Nat.le_refl _, fun _ _ _ => rfl⟩
theorem Chg.trans (h : Chg S w w') (h' : Chg S' w' w'') (hs : ∀ k, k < w.heap.size → S' k → S k) : Chg S w w'' :=
  ⟨h'.os.trans h.os, h'.tape.trans h.tape, h'.output.trans h.output, Nat.le_trans h.size h'.size,
    fun k hk hn => (h'.block k (Nat.lt_of_lt_of_le hk h.size) (fun hc => hn (hs k hk hc))).trans (h.block k hk hn)⟩
theorem Chg.tr (h : Chg S w w') (h' : Chg S w' w'') : Chg S w w'' := h.trans h' fun _ _ h => h
theorem Chg.ext (h : Chg S w w') (h' : Ext w' w'') : Chg S w w'' := h.trans h' fun _ _ h => h.elim
theorem Chg.mono (h : Chg S w w') (hs : ∀ k, k < w.heap.size → S k → S' k) : Chg S' w w' := ⟨h.os, h.tape, h.output, h.size, fun k hk hn => h.block k hk fun hc => hn (hs k hk hc)⟩
theorem Chg.of_below {B : Nat} (h : Below B w w') : Chg (B ≤ ·) w w' := ⟨h.os, h.tape, h.output, h.size, fun k _ hn => h.block k (by omega)⟩
theorem Ext.of_below (h : Below w.heap.size w w') : Ext w w' := ⟨h.os, h.tape, h.output, h.size, fun k hk _ => h.block k hk⟩
theorem Ext.below (h : Ext w w') : Below w.heap.size w w' := ⟨h.os, h.tape, h.output, h.size, fun k hk => h.block k hk (fun h => h)⟩
theorem Chg.below (h : Chg S w w') {B : Nat} (hB : B ≤ w.heap.size) (hs : ∀ k, S k → B ≤ k) : Below B w w' := ⟨h.os, h.tape, h.output, h.size, fun k hk => h.block k (by omega) (fun hc => by have := hs k hc; omega)⟩
theorem Chg.alloc (w : World) (o : Obj) : Ext w (w.alloc o) := ⟨rfl, rfl, rfl, by simp, fun k hk _ => Below.heap_alloc w o k hk⟩
theorem Chg.drew (w : World) (S : Nat → Prop) : Chg S w w.drew := ⟨rfl, rfl, rfl, Nat.le_refl _, fun _ _ _ => rfl⟩
theorem Chg.grown {row : Option Nat} (h : w.grownBy w' row) : Chg (fun k => row = some k) w w' := ⟨h.os, h.tape, h.output, h.size, fun k hk hn => h.block k hk (fun e => hn e.symm)⟩
theorem Chg.cell (h : Chg S w w') {b o : Nat} {v : Value} (hc : w.cell? ⟨b, o, none⟩ = some v) (hn : ¬ S b) : w'.cell? ⟨b, o, none⟩ = some v := by
  have hlt := World.block_lt_of_cell? w ⟨b, o, none⟩ hc
  rw [World.cell?_of_block (w := w) (a := ⟨b, o, none⟩) (h.block b hlt hn)]
  exact hc
theorem Chg.cellsAt (h : Chg S w w') {b : Nat} (hn : ¬ S b) : ∀ {o : Nat} {cs : List Value}, V.cellsAt w b o cs → V.cellsAt w' b o cs
  | _, [], _ => trivial
  | _, _ :: _, ⟨h1, h2⟩ => ⟨h.cell h1 hn, Chg.cellsAt h hn h2⟩
end

/-! ### blocks of the call's own, known whole -/
def Bx (w : World) (g : Nat) (t : TypeId) (cs : List Value) : Prop := w.heap[g]? = some (.cells ⟨cs⟩ t (0, 0))

section
variable {S : Nat → Prop} {w w' : World} {g : Nat} {t : TypeId} {cs : List Value}
theorem Bx.lt (h : Bx w g t cs) : g < w.heap.size := (Array.getElem?_eq_some_iff.1 h).1
theorem Bx.chg (h : Bx w g t cs) (hc : Chg S w w') (hn : ¬ S g) : Bx w' g t cs := (hc.block g h.lt hn).trans h
theorem Bx.cell (h : Bx w g t cs) {j : Nat} {v : Value} (hj : cs[j]? = some v) : w.cell? ⟨g, j, none⟩ = some v := by
  unfold Bx at h
  simp [World.cell?, h, hj]
theorem Bx.frozen (h : Bx w g t cs) (j : Nat) : w.frozen? ⟨g, j, none⟩ = false := by
  unfold Bx at h
  simp [World.frozen?, h]
theorem Bx.cells (h : Bx w g t cs) : cellsAt w g 0 cs := cellsAt.of_get fun j u hj => by rw [Nat.zero_add]; exact h.cell hj
theorem Bx.alloc (w : World) (t : TypeId) (cs : List Value) : Bx (w.alloc (.cells ⟨cs⟩ t (0, 0))) w.heap.size t cs := heap_alloc_new w _
end

/-! ### how elements are written -/
structure Cod (α : Type) where
  sz : Nat
  K : World → (Nat → Prop) → α → List Value → Prop
  len : ∀ {w : World} {F : Nat → Prop} {x : α} {cs : List Value}, K w F x cs → cs.length = sz
  mono : ∀ {w : World} {F G : Nat → Prop} {x : α} {cs : List Value}, (∀ b, F b → G b) → K w F x cs → K w G x cs
  keep : ∀ {S : Nat → Prop} {w w' : World} {F : Nat → Prop} {x : α} {cs : List Value}, Chg S w w' → (∀ b, F b → ¬ S b) → K w F x cs → K w' F x cs
  one : ∀ {w : World} {F : Nat → Prop} {x : α} {cs : List Value}, K w F x cs → ∀ u ∈ cs, u.oneCell' = true

def Cod.plain {α : Type} (n : Nat) (f : α → List Value) (h : ∀ x, (f x).length = n) (h1 : ∀ x, (f x).all Value.oneCell' = true) : Cod α where
  sz := n
  K := fun _ _ x cs => cs = f x
  len := fun e => by rw [e]; exact h _
  mono := fun _ e => e
  keep := fun _ _ e => e
  one := fun {_ _ x _} e u hu => by rw [e] at hu; exact List.all_eq_true.1 (h1 x) u hu

def cInt (k : IntKind) : Cod Int := Cod.plain 1 (fun x => [.int k x]) (fun _ => rfl) (fun _ => rfl)
def cBool : Cod Bool := Cod.plain 1 (fun x => [.bool x]) (fun _ => rfl) (fun _ => rfl)

section
variable {α : Type} (d : Cod α)
def Enc (w : World) (F : Nat → Prop) : List α → List Value → Prop
  | [], cells => cells = []
  | x :: xs, cells => ∃ cs rest, cells = cs ++ rest ∧ d.K w F x cs ∧ Enc w F xs rest

/-- What is behind an address reads as these elements; all that it leads to lies in blocks of F. -/
def C (w : World) (F : Nat → Prop) (A : Option Addr) (xs : List α) : Prop :=
  ∃ cells, Enc d w F xs cells ∧ (xs ≠ [] → ∃ b o, A = some ⟨b, o, none⟩ ∧ F b) ∧ ∀ b o, A = some ⟨b, o, none⟩ → cellsAt w b o cells
end

section
variable {α : Type} {d : Cod α} {S : Nat → Prop} {w w' : World} {F G : Nat → Prop} {A : Option Addr} {xs : List α} {cells : List Value}

theorem Enc.length : ∀ {xs : List α} {cells : List Value}, Enc d w F xs cells → cells.length = xs.length * d.sz
  | [], _, h => by cases h; simp
  | x :: xs, _, ⟨cs, rest, e, h1, h2⟩ => by subst e; simp [d.len h1, Enc.length h2, Nat.add_mul, Nat.add_comm]

theorem Enc.mono (hF : ∀ b, F b → G b) : ∀ {xs : List α} {cells : List Value}, Enc d w F xs cells → Enc d w G xs cells
  | [], _, h => h
  | _ :: _, _, ⟨cs, rest, e, h1, h2⟩ => ⟨cs, rest, e, d.mono hF h1, Enc.mono hF h2⟩

theorem Enc.keep (hc : Chg S w w') (hF : ∀ b, F b → ¬ S b) : ∀ {xs : List α} {cells : List Value}, Enc d w F xs cells → Enc d w' F xs cells
  | [], _, h => h
  | _ :: _, _, ⟨cs, rest, e, h1, h2⟩ => ⟨cs, rest, e, d.keep hc hF h1, Enc.keep hc hF h2⟩

theorem Enc.get : ∀ {xs : List α} {cells : List Value}, Enc d w F xs cells → ∀ (i : Nat) (x : α), xs[i]? = some x → ∃ cs, d.K w F x cs ∧ ∀ (j : Nat) (u : Value), cs[j]? = some u → cells[i * d.sz + j]? = some u
  | [], _, _, i, x, hi => by simp at hi
  | y :: ys, _, ⟨cs, rest, e, h1, h2⟩, 0, x, hi => by
    simp at hi; subst hi; subst e
    refine ⟨cs, h1, fun j u hj => ?_⟩
    have hlt : j < cs.length := by
      rcases Nat.lt_or_ge j cs.length with h | h
      · exact h
      · rw [List.getElem?_eq_none h] at hj; cases hj
    rw [show 0 * d.sz + j = j by omega, List.getElem?_append_left hlt]
    exact hj
  | y :: ys, _, ⟨cs, rest, e, h1, h2⟩, i + 1, x, hi => by
    subst e
    obtain ⟨cs', k1, k2⟩ := Enc.get h2 i x (by simpa using hi)
    refine ⟨cs', k1, fun j u hj => ?_⟩
    have hl := d.len h1
    rw [show (i + 1) * d.sz + j = cs.length + (i * d.sz + j) by rw [hl, Nat.add_mul]; omega, List.getElem?_append_right (by omega), Nat.add_sub_cancel_left]
    exact k2 j u hj

theorem Enc.append : ∀ {xs ys : List α} {c1 c2 : List Value}, Enc d w F xs c1 → Enc d w F ys c2 → Enc d w F (xs ++ ys) (c1 ++ c2)
  | [], _, _, _, h, h' => by cases h; simpa using h'
  | _ :: _, _, _, _, ⟨cs, rest, e, h1, h2⟩, h' => by subst e; exact ⟨cs, _, by simp, h1, Enc.append h2 h'⟩

theorem Enc.one {x : α} {cs : List Value} (h : d.K w F x cs) : Enc d w F [x] cs := ⟨cs, [], by simp, h, rfl⟩

theorem Enc.take : ∀ {xs : List α} {cells : List Value} (n : Nat), Enc d w F xs cells → Enc d w F (xs.take n) (cells.take (n * d.sz))
  | [], _, n, h => by cases h; simp [Enc]
  | _ :: _, _, 0, _ => by simp [Enc]
  | x :: xs, _, n + 1, ⟨cs, rest, e, h1, h2⟩ => by
    subst e
    refine ⟨cs, rest.take (n * d.sz), ?_, h1, Enc.take n h2⟩
    rw [Nat.add_mul, Nat.one_mul, Nat.add_comm, ← d.len h1, List.take_append, List.take_of_length_le (by omega), Nat.add_sub_cancel_left]

theorem Enc.ones : ∀ {xs : List α} {cells : List Value}, Enc d w F xs cells → ∀ u ∈ cells, u.oneCell' = true
  | [], _, h, u, hu => by cases h; simp at hu
  | _ :: _, _, ⟨cs, rest, e, h1, h2⟩, u, hu => by
    subst e
    rcases List.mem_append.1 hu with hu | hu
    · exact d.one h1 u hu
    · exact Enc.ones h2 u hu

theorem C.mono (h : C d w F A xs) (hF : ∀ b, F b → G b) : C d w G A xs := by
  obtain ⟨cells, h1, h2, h3⟩ := h
  refine ⟨cells, h1.mono hF, fun hx => ?_, h3⟩
  obtain ⟨b, o, e, hb⟩ := h2 hx
  exact ⟨b, o, e, hF b hb⟩

theorem C.keep (h : C d w F A xs) (hc : Chg S w w') (hF : ∀ b, F b → ¬ S b) : C d w' F A xs := by
  obtain ⟨cells, h1, h2, h3⟩ := h
  refine ⟨cells, h1.keep hc hF, h2, fun b o e => ?_⟩
  cases xs with
  | nil => cases h1; trivial
  | cons x xs =>
    obtain ⟨b', o', e', hb⟩ := h2 (by simp)
    rw [e] at e'
    cases e'
    exact hc.cellsAt (hF b hb) (h3 b o e)

theorem C.nil (d : Cod α) (w : World) (F : Nat → Prop) : C d w F none [] := ⟨[], rfl, fun h => absurd rfl h, fun _ _ e => by cases e⟩

theorem C.addr (h : C d w F A xs) (hl : 0 < xs.length) : ∃ b o, A = some ⟨b, o, none⟩ := by
  obtain ⟨cells, _, h2, _⟩ := h
  obtain ⟨b, o, e, _⟩ := h2 (by intro e; subst e; simp at hl)
  exact ⟨b, o, e⟩

theorem C.foot {b o : Nat} (h : C d w F (some ⟨b, o, none⟩) xs) (hl : 0 < xs.length) : F b := by
  obtain ⟨cells, _, h2, _⟩ := h
  obtain ⟨b', o', e, hb⟩ := h2 (by intro e; subst e; simp at hl)
  cases e
  exact hb

/-- an element's cells -/
theorem C.at {b o : Nat} (h : C d w F (some ⟨b, o, none⟩) xs) (z : α) {i : Int} (h0 : 0 ≤ i) (h1 : i < (xs.length : Int)) : ∃ cs, d.K w F (xs.getD i.toNat z) cs ∧ cellsAt w b (o + i.toNat * d.sz) cs := by
  obtain ⟨cells, he, _, h3⟩ := h
  have hlt : i.toNat < xs.length := by omega
  have hi : xs[i.toNat]? = some (xs.getD i.toNat z) := by simp [List.getD_eq_getElem?_getD, hlt]
  obtain ⟨cs, k1, k2⟩ := he.get _ _ hi
  refine ⟨cs, k1, cellsAt.of_get fun j u hj => ?_⟩
  have := (h3 b o rfl).get (i.toNat * d.sz + j) u (k2 j u hj)
  rwa [← Nat.add_assoc] at this

theorem C.at1 {b o : Nat} {f : α → Value} {e : ∀ x, [f x].length = 1} {e1 : ∀ x, [f x].all Value.oneCell' = true} (h : C (Cod.plain 1 (fun x => [f x]) e e1) w F (some ⟨b, o, none⟩) xs) (z : α) {i : Int} (h0 : 0 ≤ i) (h1 : i < (xs.length : Int)) :
    w.cell? ⟨b, o + i.toNat * 1, none⟩ = some (f (xs.getD i.toNat z)) := by
  obtain ⟨cs, k1, k2⟩ := h.at z h0 h1
  cases k1
  exact k2.1

/-- a beginning -/
theorem C.take (h : C d w F A xs) (n : Nat) : C d w F A (xs.take n) := by
  obtain ⟨cells, h1, h2, h3⟩ := h
  refine ⟨_, h1.take n, fun hx => h2 (fun e => hx (by simp [e])), fun b o e => ?_⟩
  refine cellsAt.of_get fun j u hj => ?_
  rw [List.getElem?_take] at hj
  split at hj
  · exact (h3 b o e).get j u hj
  · cases hj
end

/-- a slice of slices -/
def cSl {α : Type} (d : Cod α) : Cod (List α) where
  sz := 1
  K := fun w F xs cs => ∃ A c, cs = [.slice A xs.length c] ∧ xs.length ≤ c ∧ C d w F A xs
  len := fun ⟨_, _, e, _⟩ => by rw [e]; rfl
  mono := fun hF ⟨A, c, e, h1, h2⟩ => ⟨A, c, e, h1, h2.mono hF⟩
  keep := fun hc hF ⟨A, c, e, h1, h2⟩ => ⟨A, c, e, h1, h2.keep hc hF⟩
  one := fun ⟨_, _, e, _⟩ u hu => by rw [e] at hu; simp at hu; subst hu; rfl

theorem C.atSl {α : Type} {d : Cod α} {w : World} {F : Nat → Prop} {xs : List (List α)} {b o : Nat} (h : C (cSl d) w F (some ⟨b, o, none⟩) xs) {i : Int} (h0 : 0 ≤ i) (h1 : i < (xs.length : Int)) :
    ∃ A c, w.cell? ⟨b, o + i.toNat * 1, none⟩ = some (.slice A (xs.getD i.toNat []).length c) ∧ (xs.getD i.toNat []).length ≤ c ∧ C d w F A (xs.getD i.toNat []) := by
  obtain ⟨cs, ⟨A, c, e, k1, k2⟩, k3⟩ := h.at [] h0 h1
  subst e
  exact ⟨A, c, k3.1, k1, k2⟩

/-! ### rows of the call's own -/
/-- A slice of the call's own, of elements of type e: in a block from base on, none of F's; it holds xs. -/
def Row {α : Type} (d : Cod α) (e : TypeId) (w : World) (base : Nat) (F : Nat → Prop) (A : Option Addr) (c : Nat) (xs : List α) : Prop :=
  ∃ cells, w.ownsRow base e d.sz (.slice A xs.length c) xs.length cells ∧ Enc d w F xs cells ∧ ∀ b o s, A = some ⟨b, o, s⟩ → ¬ F b

section
variable {α : Type} {d : Cod α} {e : TypeId} {S : Nat → Prop} {w w' : World} {base : Nat} {F G : Nat → Prop} {A : Option Addr} {c : Nat} {xs : List α}

theorem Row.nil (d : Cod α) (e : TypeId) (w : World) (base : Nat) (F : Nat → Prop) : Row d e w base F none 0 [] := ⟨[], World.ownsRow_nil _ _ _ _, rfl, fun _ _ _ h => by cases h⟩

theorem Row.addr (h : Row d e w base F A c xs) : A = none ∨ ∃ g, A = some ⟨g, 0, none⟩ ∧ base ≤ g ∧ g < w.heap.size ∧ ¬ F g := by
  obtain ⟨cells, ⟨h1, h2⟩, h3, h4⟩ := h
  rcases h2 with ⟨e1, _⟩ | ⟨g, cap, cur, e1, hb, hh, _⟩
  · injection e1 with e1 _ _; exact .inl e1
  · injection e1 with e1 _ _; subst e1; exact .inr ⟨g, rfl, hb, (Array.getElem?_eq_some_iff.1 hh).1, h4 g 0 none rfl⟩

theorem Row.cap (h : Row d e w base F A c xs) : xs.length ≤ c := by
  obtain ⟨cells, ⟨h1, h2⟩, h3, h4⟩ := h
  rcases h2 with ⟨e1, e2⟩ | ⟨g, cap, cur, e1, hb, hh, hn, _⟩
  · rw [e2]; omega
  · injection e1 with _ _ e3; subst e3; exact hn

theorem Row.keep (h : Row d e w base F A c xs) (hc : Chg S w w') (hF : ∀ b, F b → ¬ S b) (hA : ∀ g, A = some ⟨g, 0, none⟩ → ¬ S g) : Row d e w' base F A c xs := by
  obtain ⟨cells, ⟨h1, h2⟩, h3, h4⟩ := h
  refine ⟨cells, ⟨h1, ?_⟩, h3.keep hc hF, h4⟩
  rcases h2 with e1 | ⟨g, cap, cur, e1, hb, hh, r⟩
  · exact .inl e1
  · refine .inr ⟨g, cap, cur, e1, hb, ?_, r⟩
    injection e1 with e1 _ _
    subst e1
    rw [hc.block g (Array.getElem?_eq_some_iff.1 hh).1 (hA g rfl)]
    exact hh

theorem Row.mono (h : Row d e w base F A c xs) (hF : ∀ b, F b → G b) (hG : ∀ g, A = some ⟨g, 0, none⟩ → ¬ G g) : Row d e w base G A c xs := by
  have ha := h.addr
  obtain ⟨cells, h1, h3, h4⟩ := h
  refine ⟨cells, h1, h3.mono hF, fun b o s hA => ?_⟩
  rcases ha with rfl | ⟨g, rfl, _⟩
  · cases hA
  · injection hA with hA; injection hA with h5 _ _; subst h5; exact hG _ rfl

/-- a row of one's own reads as what it holds -/
theorem Row.C (h : Row d e w base F A c xs) : V.C d w (fun b => F b ∨ ∃ o s, A = some ⟨b, o, s⟩) A xs := by
  obtain ⟨cells, h1, h3, h4⟩ := h
  refine ⟨cells, h3.mono fun b hb => .inl hb, fun hx => ?_, fun b o hA => ?_⟩
  · rcases h1.2 with ⟨e1, e2⟩ | ⟨g, cap, cur, e1, _⟩
    · exact absurd (List.eq_nil_of_length_eq_zero e2) hx
    · injection e1 with e1 _ _; subst e1; exact ⟨g, 0, rfl, .inr ⟨0, none, rfl⟩⟩
  · subst hA
    rcases h1.2 with ⟨e1, e2⟩ | ⟨g, cap, cur, e1, _⟩
    · injection e1 with e1 _ _; cases e1
    · injection e1 with e1 _ _
      cases e1
      refine cellsAt.of_get fun j u hj => ?_
      have := h1.cells (g := b) rfl j u hj
      rwa [add_none] at this
end
end Go.V
