/- One hypothesis for all that a call knows of memory: a list of objects, each apart from the others. -/
import Derived.Test.YtflangjkfaalkaaVM
set_option linter.all false
set_option linter.unusedVariables false
set_option linter.unnecessarySimpa false
set_option linter.unusedSimpArgs false
namespace Go.V
open Go Go.RowKit

/-! ### own rows, known to the end of their block -/
/-- A slice of one's own that holds xs; behind them its block holds sp. -/
def Rw {α : Type} (d : Cod α) (e : TypeId) (w : World) (F : Nat → Prop) (A : Option Addr) (c : Nat) (xs sp : List α) : Prop :=
  (A = none ∧ c = 0 ∧ xs = [] ∧ sp = []) ∨ ∃ g, A = some ⟨g, 0, none⟩ ∧ c ≤ maxLen ∧ c = xs.length + sp.length ∧ BL d w F g e c (xs ++ sp)

section
variable {α : Type} {d : Cod α} {e : TypeId} {w w' : World} {F G X : Nat → Prop} {A : Option Addr} {c : Nat} {xs sp ys : List α} {cells : List Value}

theorem Enc.split : ∀ {xs sp : List α} {cells : List Value}, Enc d w F (xs ++ sp) cells → ∃ c1 c2, cells = c1 ++ c2 ∧ Enc d w F xs c1 ∧ Enc d w F sp c2
  | [], sp, cells, h => ⟨[], cells, rfl, rfl, h⟩
  | x :: xs, sp, cells, ⟨cs, rest, e1, h1, h2⟩ => by
    obtain ⟨c1, c2, e2, h3, h4⟩ := Enc.split h2
    exact ⟨cs ++ c1, c2, by rw [e1, e2, List.append_assoc], ⟨cs, c1, rfl, h1, h3⟩, h4⟩

theorem Rw.nil (d : Cod α) (e : TypeId) (w : World) (F : Nat → Prop) : Rw d e w F none 0 [] [] := .inl ⟨rfl, rfl, rfl, rfl⟩

theorem Rw.lt (h : Rw d e w F A c xs sp) : ∀ q, At A q → q < w.heap.size ∧ ¬ F q := fun q hq => by
  rcases h with ⟨rfl, _⟩ | ⟨g, rfl, _, _, hB⟩
  · exact absurd hq (At.nil q)
  · obtain rfl := At.of_g hq; exact ⟨hB.lt, hB.2.1⟩

theorem Rw.keep (h : Rw d e w F A c xs sp) (hc : Chg X w w') (hF : ∀ b, F b → ¬ X b) (hA : ∀ q, At A q → ¬ X q) : Rw d e w' F A c xs sp := by
  rcases h with h | ⟨g, rfl, h1, h2, hB⟩
  · exact .inl h
  · exact .inr ⟨g, rfl, h1, h2, hB.chg hc (hA g ⟨_, _, rfl⟩) hF⟩

theorem Rw.mono (h : Rw d e w F A c xs sp) (hF : ∀ b, F b → G b) (hA : ∀ q, At A q → ¬ G q) : Rw d e w G A c xs sp := by
  rcases h with h | ⟨g, rfl, h1, h2, hB⟩
  · exact .inl h
  · exact .inr ⟨g, rfl, h1, h2, hB.monoF hF (hA g ⟨_, _, rfl⟩)⟩

theorem Rw.full (h : Rw d e w F A c xs sp) : V.C d w (fun b => F b ∨ At A b) A (xs ++ sp) := by
  rcases h with ⟨rfl, _, rfl, rfl⟩ | ⟨g, rfl, h1, h2, hB⟩
  · exact C.nil _ _ _
  · exact hB.C.mono fun b hb => hb.imp id fun e => ⟨0, none, by rw [e]⟩

theorem Rw.C (h : Rw d e w F A c xs sp) : V.C d w (fun b => F b ∨ At A b) A xs := by
  have := h.full.take xs.length
  rwa [List.take_left] at this

theorem Rw.cap (h : Rw d e w F A c xs sp) : xs.length ≤ c := by
  rcases h with ⟨_, _, rfl, _⟩ | ⟨g, _, _, h2, _⟩
  · simp
  · omega

theorem Rw.capE (h : Rw d e w F A c xs sp) : c = (xs ++ sp).length := by
  rcases h with ⟨_, rfl, rfl, rfl⟩ | ⟨g, _, _, h2, _⟩
  · rfl
  · rw [h2, List.length_append]
theorem Rw.addr (h : Rw d e w F A c xs sp) (hl : 0 < xs.length) : ∃ g, A = some ⟨g, 0, none⟩ := by
  rcases h with ⟨_, _, rfl, _⟩ | ⟨g, h1, _⟩
  · simp at hl
  · exact ⟨g, h1⟩

theorem Rw.of_BL {g M : Nat} {zs : List α} (h : BL d w F g e M zs) (N : Nat) (hN : N ≤ M) (hM : M ≤ maxLen) : Rw d e w F (some ⟨g, 0, none⟩) M (zs.take N) (zs.drop N) :=
  .inr ⟨g, rfl, hM, by have := h.len; simp; omega, by rw [List.take_append_drop]; exact h⟩

/-- a beginning of it; what is cut off lies behind -/
theorem Rw.take (h : Rw d e w F A c xs sp) (N : Nat) : Rw d e w F A c (xs.take N) (xs.drop N ++ sp) := by
  rcases h with ⟨h1, h2, h3, h4⟩ | ⟨g, h1, h2, h3, hB⟩
  · subst h3 h4; exact .inl ⟨h1, h2, by simp, by simp⟩
  · exact .inr ⟨g, h1, h2, by simp; omega, by rw [← List.append_assoc, List.take_append_drop]; exact hB⟩
/-- all of its block -/
theorem Rw.all (h : Rw d e w F A c xs sp) : Rw d e w F A c (xs ++ sp) [] := by
  rcases h with ⟨h1, h2, h3, h4⟩ | ⟨g, h1, h2, h3, hB⟩
  · subst h3 h4; exact .inl ⟨h1, h2, rfl, rfl⟩
  · exact .inr ⟨g, h1, h2, by simp; omega, by rw [List.append_nil]; exact hB⟩
end

section
variable {P : Program} {T : List TRow} {w w' : World} {a : Act} {n : Nat} {l l' : List (Nat × Value)} {ops : Array Oper} {Q : Exit → Act → World → Prop} {o : Oper} {rest : List Oper} {t e : TypeId}

theorem zero_cells (z : Array Value) (m : Nat) : (Builtin.zeroCells z m).toList = (List.replicate m z.toList).flatten := by
  have := mod_cells z.toList m
  simpa [Builtin.zeroCells] using this

/-- what a source of elements holds -/
def Src {α : Type} (d : Cod α) (w : World) (F : Nat → Prop) (B : Option Addr) (ys : List α) : Prop :=
  ∃ cells, Enc d w F ys cells ∧ (ys ≠ [] → ∃ b o, B = some ⟨b, o, none⟩) ∧ ∀ b o, B = some ⟨b, o, none⟩ → cellsAt w b o cells

theorem run_appendX {α : Type} (d : Cod α) {ty : TypeId} {i : TypeInfo} {z : Value} {F : Nat → Prop} {A B : Option Addr} {c c2 : Nat} {xs ys sp : List α} {u : α}
    (ht : P.underlying t = some (.slice e)) (hi : P.info? e = some i) (hz : i.zero = some z) (hsz : i.size = d.sz) (hs0 : 0 < d.sz) (hK : ∀ w F, d.K w F u z.cells.toList)
    (hR : Rw d e w F A c xs sp) (hy : Src d w F B ys) (h63 : xs.length + ys.length ≤ 1000000000) (hby : i.bytes ≤ 140000) (hF : ∀ q, F q → q < w.heap.size) :
    ∃ w' A' c' sp', (Builtin.append_ #[t, t] ty #[.slice A xs.length c, .slice B ys.length c2]).run P w = .ok (.slice A' (xs ++ ys).length c') w' ∧ Chg (At A) w w' ∧ Rw d e w' F A' c' (xs ++ ys) sp' ∧ (∀ q, At A' q → At A q ∨ w.heap.size ≤ q) := by
  obtain ⟨cells, h1, h2, h3⟩ := hy
  have hcl := h1.length
  have hbytes : (xs.length + ys.length) * i.bytes ≤ 140737488355328 := by
    calc (xs.length + ys.length) * i.bytes ≤ 1000000000 * 140000 := Nat.mul_le_mul h63 hby
      _ ≤ _ := by decide
  by_cases hy0 : ys = []
  · subst hy0
    have hc := hR.cap
    refine ⟨w, A, c, sp, ?_, Chg.refl _ _, by simpa using hR, fun q hq => .inl hq⟩
    cases A with
    | none =>
      rcases hR with ⟨_, rfl, rfl, _⟩ | ⟨g, hA, _⟩
      · cases B <;> simp [Builtin.append_, run_underlying ht, sizeOf, typeInfo, hi, Builtin.lenOf, Builtin.firstCells, loadCells, loadCellsFrom]
      · cases hA
    | some ad => cases B <;> simp [Builtin.append_, run_underlying ht, sizeOf, typeInfo, hi, Builtin.lenOf, Builtin.firstCells, loadCells, loadCellsFrom, hc, storeCells]
  obtain ⟨b, off, rfl⟩ := h2 hy0
  have h3' := h3 b off rfl
  have hyl : 0 < ys.length := List.length_pos_iff.2 hy0
  have hnews : ∀ j v, cells[j]? = some v → w.cell? ((⟨b, off, none⟩ : Addr).add j) = some v := fun j v hj => by rw [add_none]; exact h3'.get j v hj
  have zl : z.cells.toList.length = d.sz := d.len (hK w F)
  have hext : ∀ ob, Chg (At A) w (w.drew.alloc ob) := fun ob => ((Chg.drew w No).tr (Chg.alloc _ _)).mono fun _ _ h => h.elim
  have hxt : ∀ ob, Ext w (w.drew.alloc ob) := fun ob => (Chg.drew w No).tr (Chg.alloc _ _)
  have hnew : ∀ (m : Nat) (olds : List Value), Enc d w F xs olds → Bx (w.drew.alloc (.cells (olds.toArray ++ cells.toArray ++ Builtin.zeroCells z.cells m) e)) w.heap.size e (olds ++ cells ++ (List.replicate m z.cells.toList).flatten) := fun m olds _ => by
    have h := Bx.alloc w.drew e (olds ++ cells ++ (List.replicate m z.cells.toList).flatten)
    have e1 : (⟨olds ++ cells ++ (List.replicate m z.cells.toList).flatten⟩ : Array Value) = olds.toArray ++ cells.toArray ++ Builtin.zeroCells z.cells m := by
      apply Array.ext'; simp [zero_cells]
    rw [e1] at h
    exact h
  have grown : ∀ (m cap : Nat) (olds : List Value), Enc d w F xs olds → cap = (xs ++ ys).length + m → cap ≤ maxLen →
      Rw d e (w.drew.alloc (.cells (olds.toArray ++ cells.toArray ++ Builtin.zeroCells z.cells m) e)) F (some ⟨w.heap.size, 0, none⟩) cap (xs ++ ys) (List.replicate m u) := fun m cap olds ho hcap hm => by
    refine .inr ⟨_, rfl, hm, by simp [hcap], by simp [hcap]; omega, fun hq => by have := hF _ hq; omega, _, ?_, hnew m olds ho⟩
    exact (((ho.keep (hxt _) fun _ _ h => h.elim).append (h1.keep (hxt _) fun _ _ h => h.elim)).append (Enc.replicate (hK _ _) m))
  rcases hR with ⟨rfl, rfl, rfl, rfl⟩ | ⟨g, rfl, hm, hc, hB⟩
  · have hr := run_append_nil (P := P) w t ty e i z ht hi hz ⟨b, off, none⟩ ys.length c2 cells (by rw [hcl, hsz]) hnews hyl (by simp at h63; omega) (by simp at hbytes; omega)
    refine ⟨_, _, _, List.replicate (grownCap w ys.length 0 e - ys.length) u, by simpa using hr, ?_, ?_, fun q hq => .inr (by obtain rfl := At.of_g hq; exact Nat.le_refl _)⟩
    · exact hext _
    · have := grown (grownCap w ys.length 0 e - ys.length) (grownCap w ys.length 0 e) [] rfl (by have := grownCap_ge w ys.length 0 e; simp; omega) (grownCap_le_maxLen w _ _ _ (by unfold maxLen; simp at h63; omega))
      simpa using this
  · obtain ⟨hl, hn, all, he, hb⟩ := hB
    obtain ⟨c1, c2', rfl, he1, he2⟩ := he.split
    have l1 := he1.length
    have l2 := he2.length
    by_cases hroom : xs.length + ys.length ≤ c
    · have hfit : xs.length * i.size + cells.length ≤ (c1 ++ c2').length := by
        rw [hcl, hsz, List.length_append, l1, l2, ← Nat.add_mul, ← Nat.add_mul]; exact Nat.mul_le_mul_right _ (by omega)
      have hr := run_append_room (P := P) w t ty e i ht hi g xs.length c ⟨c1 ++ c2'⟩ hb ⟨b, off, none⟩ ys.length c2 cells (by rw [hcl, hsz]) hnews h1.ones hroom (by simpa using hfit)
      obtain ⟨k1, k2⟩ := setRow_chg hb ((c1 ++ c2').take (xs.length * i.size) ++ cells ++ (c1 ++ c2').drop (xs.length * i.size + cells.length))
      have hF' : ∀ q, F q → ¬ (q = g) := fun q hq e => hn (e ▸ hq)
      refine ⟨_, _, _, sp.drop ys.length, by simpa using hr, k1.mono fun q _ hq => by subst hq; exact ⟨0, none, rfl⟩, .inr ⟨g, rfl, hm, by simp; omega, by simp; omega, hn, _, ?_, k2⟩, fun q hq => .inl hq⟩
      have e1 : (c1 ++ c2').take (xs.length * i.size) = c1 := by rw [hsz, ← l1]; exact List.take_left
      have e2 : (c1 ++ c2').drop (xs.length * i.size + cells.length) = c2'.drop (ys.length * d.sz) := by rw [hsz, ← l1, hcl, List.drop_append, List.drop_of_length_le (by omega), Nat.add_sub_cancel_left, List.nil_append]
      have e3 : (c1 ++ c2').take (xs.length * i.size) ++ cells ++ (c1 ++ c2').drop (xs.length * i.size + cells.length) = c1 ++ cells ++ c2'.drop (ys.length * d.sz) := by rw [e1, e2]
      have hh := (((he1.keep k1 hF').append (h1.keep k1 hF')).append ((he2.keep k1 hF').drop ys.length))
      exact Eq.mpr (congrArg (fun cs => Enc d (w.setRow g ((c1 ++ c2').take (xs.length * i.size) ++ cells ++ (c1 ++ c2').drop (xs.length * i.size + cells.length)).toArray) F (xs ++ ys ++ sp.drop ys.length) cs) e3) hh
    · have holds : ∀ j v, c1[j]? = some v → w.cell? ((⟨g, 0, none⟩ : Addr).add j) = some v := fun j v hj => by
        rw [add_none, Nat.zero_add]
        exact hb.cell (by rw [List.getElem?_append_left (List.getElem?_eq_some_iff.1 hj).1]; exact hj)
      have hr := run_append_grow (P := P) w t ty e i z ht hi hz ⟨g, 0, none⟩ xs.length c c1 (by rw [l1, hsz]) holds ⟨b, off, none⟩ ys.length c2 cells (by rw [hcl, hsz]) hnews (by omega) (by omega) (growslice_fits (by omega) hbytes)
      refine ⟨_, _, _, List.replicate (grownCap w (xs.length + ys.length) c e - (xs.length + ys.length)) u, by rw [List.length_append]; exact hr, ?_, ?_, fun q hq => .inr (by obtain rfl := At.of_g hq; exact Nat.le_refl _)⟩
      · exact hext _
      · exact grown (grownCap w (xs.length + ys.length) c e - (xs.length + ys.length)) (grownCap w (xs.length + ys.length) c e) c1 he1 (by have := grownCap_ge w (xs.length + ys.length) c e; simp; omega) (grownCap_le_maxLen w _ _ _ (by unfold maxLen; omega))

/-- a map, its keys all different -/
def Mq (P : Program) (k : TypeId) (w : World) (b : Nat) (kvs : List (Value × Value)) : Prop := Mp P k w b kvs ∧ (kvs.map Prod.fst).Nodup
theorem Mq.chg {X : Nat → Prop} {k : TypeId} {b : Nat} {kvs : List (Value × Value)} (h : Mq P k w b kvs) (hc : Chg X w w') (hn : ¬ X b) : Mq P k w' b kvs := ⟨h.1.chg hc hn, h.2⟩

/-! ### the objects that are known -/
inductive Ent : Type 1
  | box (g : Nat) (t : TypeId) (cs : List Value)
  | row {α : Type} (f : Bool) (d : Cod α) (e : TypeId) (A : Option Addr) (c : Nat) (xs : List α)
  | rowx {α : Type} (f : Bool) (d : Cod α) (e : TypeId) (A : Option Addr) (c : Nat) (xs sp : List α)
  | ro {α : Type} (f : Bool) (d : Cod α) (A : Option Addr) (xs : List α)
  | mp (P : Program) (k : TypeId) (g : Nat) (kvs : List (Value × Value))
  | mat {α : Type} (d : Cod α) (e1 e2 : TypeId) (G : Nat → Prop) (g c : Nat) (xss : List (List α))
  | gone

def nth : List Ent → Nat → Ent
  | [], _ => .gone
  | e :: _, 0 => e
  | _ :: L, j + 1 => nth L j

def setn : List Ent → Nat → Ent → List Ent
  | [], _, _ => []
  | _ :: L, 0, e => e :: L
  | x :: L, j + 1, e => x :: setn L j e

def addE : List Ent → List Ent → List Ent
  | [], M => M
  | e :: L, M => e :: addE L M

def Ent.at : Ent → Nat → Prop
  | .box g _ _ => fun q => q = g
  | .row _ _ _ A _ _ => At A
  | .rowx _ _ _ A _ _ _ => At A
  | .mp _ _ g _ => fun q => q = g
  | .mat _ _ _ G _ _ _ => G
  | _ => No

def Fset (Fa Fz : Nat → Prop) : Bool → Nat → Prop
  | true => Fz
  | false => fun q => Fa q ∨ Fz q

def Ent.ok (w : World) (Fa Fz : Nat → Prop) : Ent → Prop
  | .box g t cs => Bx w g t cs
  | .row f d e A c xs => ∃ sp, Rw d e w (Fset Fa Fz f) A c xs sp
  | .rowx f d e A c xs sp => Rw d e w (Fset Fa Fz f) A c xs sp
  | .ro f d A xs => C d w (Fset Fa Fz f) A xs
  | .mp P k g kvs => Mq P k w g kvs
  | .mat d e1 e2 G g c xss => Mat d e1 e2 w 0 G g xss ∧ xss.length ≤ c
  | .gone => True

def oks (w : World) (Fa Fz : Nat → Prop) : List Ent → Prop
  | [] => True
  | e :: L => e.ok w Fa Fz ∧ oks w Fa Fz L
def atL : List Ent → Nat → Prop
  | [], _ => False
  | e :: L, q => e.at q ∨ atL L q
def apt : List Ent → Prop
  | [] => True
  | e :: L => (∀ q, e.at q → ¬ atL L q) ∧ apt L

/-- What is known: w has come of w0 by changes within S; what is read lies in Fa (handed in) or Fz (made, and written no more). -/
structure HpF (S Fa Fz : Nat → Prop) (w0 w : World) (L : List Ent) : Prop where
  chg : Chg S w0 w
  hi : ∀ q, w0.heap.size ≤ q → S q
  fa : ∀ q, Fa q → q < w0.heap.size ∧ ¬ S q
  fz : ∀ q, Fz q → S q ∧ q < w.heap.size
  ow : ∀ q, atL L q → S q ∧ q < w.heap.size ∧ ¬ Fz q
  ap : apt L
  ok : oks w Fa Fz L
def Hp (S Fa : Nat → Prop) (w0 w : World) (L : List Ent) : Prop := ∃ Fz, HpF S Fa Fz w0 w L
end

section
variable {S Fa Fz X F G Fa' Fz' : Nat → Prop} {w0 w w' : World} {L M : List Ent} {e e' : Ent}

theorem Fset_or {f : Bool} {q : Nat} (h : Fset Fa Fz f q) : Fa q ∨ Fz q := by
  cases f with
  | true => exact .inr h
  | false => exact h

theorem Ent.keep (h : e.ok w Fa Fz) (hc : Chg X w w') (hA : ∀ q, e.at q → ¬ X q) (hF : ∀ q, Fa q ∨ Fz q → ¬ X q) : e.ok w' Fa Fz := by
  cases e with
  | box g t cs => exact Bx.chg h hc (hA g rfl)
  | row f d e A c xs => obtain ⟨sp, h⟩ := h; exact ⟨sp, h.keep hc (fun q hq => hF q (Fset_or hq)) hA⟩
  | rowx f d e A c xs sp => exact Rw.keep h hc (fun q hq => hF q (Fset_or hq)) hA
  | ro f d A xs => exact C.keep h hc fun q hq => hF q (Fset_or hq)
  | mp P k g kvs => exact Mq.chg h hc (hA g rfl)
  | mat d e1 e2 G g c xss => exact ⟨h.1.keep hc hA, h.2⟩
  | gone => trivial

theorem Ent.mono (h : e.ok w Fa Fz) (hF : ∀ f q, Fset Fa Fz f q → Fset Fa' Fz' f q) (hA : ∀ f q, e.at q → ¬ Fset Fa' Fz' f q) : e.ok w Fa' Fz' := by
  cases e with
  | box g t cs => exact h
  | row f d e A c xs => obtain ⟨sp, h⟩ := h; exact ⟨sp, h.mono (hF f) (hA f)⟩
  | rowx f d e A c xs sp => exact Rw.mono h (hF f) (hA f)
  | ro f d A xs => exact C.mono h (hF f)
  | mp P k g kvs => exact h
  | mat d e1 e2 G g c xss => exact h
  | gone => trivial

theorem oks_keep : ∀ {L : List Ent}, oks w Fa Fz L → Chg X w w' → (∀ q, atL L q → ¬ X q) → (∀ q, Fa q ∨ Fz q → ¬ X q) → oks w' Fa Fz L
  | [], _, _, _, _ => trivial
  | _ :: _, ⟨h1, h2⟩, hc, hA, hF => ⟨Ent.keep h1 hc (fun q hq => hA q (.inl hq)) hF, oks_keep h2 hc (fun q hq => hA q (.inr hq)) hF⟩
theorem oks_mono : ∀ {L : List Ent}, oks w Fa Fz L → (∀ f q, Fset Fa Fz f q → Fset Fa' Fz' f q) → (∀ f q, atL L q → ¬ Fset Fa' Fz' f q) → oks w Fa' Fz' L
  | [], _, _, _ => trivial
  | _ :: _, ⟨h1, h2⟩, hF, hA => ⟨Ent.mono h1 hF (fun f q hq => hA f q (.inl hq)), oks_mono h2 hF (fun f q hq => hA f q (.inr hq))⟩
theorem oks_nth : ∀ {L : List Ent} (j : Nat), oks w Fa Fz L → (nth L j).ok w Fa Fz
  | [], _, _ => trivial
  | _ :: _, 0, h => h.1
  | _ :: _, j + 1, h => oks_nth j h.2
theorem atL_nth : ∀ {L : List Ent} (j : Nat) {q : Nat}, (nth L j).at q → atL L q
  | [], _, _, h => h.elim
  | _ :: _, 0, _, h => .inl h
  | _ :: _, j + 1, _, h => .inr (atL_nth j h)
theorem oks_set : ∀ {L : List Ent} (j : Nat) {e : Ent}, oks w Fa Fz (setn L j .gone) → e.ok w Fa Fz → oks w Fa Fz (setn L j e)
  | [], _, _, _, _ => trivial
  | _ :: _, 0, _, h, he => ⟨he, h.2⟩
  | _ :: _, j + 1, _, h, he => ⟨h.1, oks_set j h.2 he⟩
theorem oks_gone : ∀ {L : List Ent} (j : Nat), oks w Fa Fz L → oks w Fa Fz (setn L j .gone)
  | [], _, _ => trivial
  | _ :: _, 0, h => ⟨trivial, h.2⟩
  | _ :: _, j + 1, h => ⟨h.1, oks_gone j h.2⟩
theorem atL_gone : ∀ {L : List Ent} (j : Nat) {q : Nat}, atL (setn L j .gone) q → atL L q
  | [], _, _, h => h
  | _ :: _, 0, _, h => h.elim (fun h => h.elim) .inr
  | _ :: _, j + 1, _, h => h.elim .inl (fun h => .inr (atL_gone j h))
theorem atL_set : ∀ {L : List Ent} (j : Nat) {e : Ent} {q : Nat}, atL (setn L j e) q → e.at q ∨ atL (setn L j .gone) q
  | [], _, _, _, h => h.elim
  | _ :: _, 0, _, _, h => h.imp id .inr
  | _ :: _, j + 1, _, _, h => h.elim (fun h => .inr (.inl h)) (fun h => (atL_set j h).imp id .inr)
theorem apt_nth : ∀ {L : List Ent} (j : Nat) {q : Nat}, apt L → (nth L j).at q → ¬ atL (setn L j .gone) q
  | [], _, _, _, h, _ => h.elim
  | _ :: _, 0, _, ⟨h1, _⟩, h, h2 => h2.elim (fun h => h.elim) (h1 _ h)
  | _ :: _, j + 1, _, ⟨h1, h0⟩, h, h2 => h2.elim (fun h3 => h1 _ h3 (atL_nth j h)) (apt_nth j h0 h)
theorem apt_gone : ∀ {L : List Ent} (j : Nat), apt L → apt (setn L j .gone)
  | [], _, h => h
  | _ :: _, 0, h => ⟨fun _ h => h.elim, h.2⟩
  | _ :: _, j + 1, h => ⟨fun q hq h2 => h.1 q hq (atL_gone j h2), apt_gone j h.2⟩
theorem apt_set : ∀ {L : List Ent} (j : Nat) {e : Ent}, apt (setn L j .gone) → (∀ q, e.at q → ¬ atL (setn L j .gone) q) → apt (setn L j e)
  | [], _, _, h, _ => h
  | _ :: _, 0, _, h, he => ⟨fun q hq h2 => he q hq (.inr h2), h.2⟩
  | _ :: _, j + 1, _, h, he => ⟨fun q hq h2 => (atL_set j h2).elim (fun h3 => he q h3 (.inl hq)) (h.1 q hq), apt_set j h.2 (fun q hq h2 => he q hq (.inr h2))⟩
theorem oks_app : ∀ {L M : List Ent}, oks w Fa Fz L → oks w Fa Fz M → oks w Fa Fz (addE L M)
  | [], _, _, h => h
  | _ :: _, _, h, h' => ⟨h.1, oks_app h.2 h'⟩
theorem atL_app : ∀ {L M : List Ent} {q : Nat}, atL (addE L M) q → atL L q ∨ atL M q
  | [], _, _, h => .inr h
  | _ :: _, _, _, h => h.elim (fun h => .inl (.inl h)) (fun h => (atL_app h).imp .inr id)
theorem apt_app : ∀ {L M : List Ent}, apt L → apt M → (∀ q, atL L q → ¬ atL M q) → apt (addE L M)
  | [], _, _, h, _ => h
  | _ :: _, _, h, h', hn => ⟨fun q hq h2 => (atL_app h2).elim (h.1 q hq) (hn q (.inl hq)), apt_app h.2 h' (fun q hq => hn q (.inr hq))⟩

theorem HpF.ro (H : HpF S Fa Fz w0 w L) {q : Nat} (hq : Fa q ∨ Fz q) : ¬ atL L q := fun h => by
  obtain ⟨h1, _, h3⟩ := H.ow q h
  exact hq.elim (fun h => (H.fa q h).2 h1) h3

/-! ### what the list says -/
theorem Hp.box (H : Hp S Fa w0 w L) (j : Nat) {g : Nat} {t : TypeId} {cs : List Value} (h : nth L j = .box g t cs) : Bx w g t cs := by
  obtain ⟨Fz, H⟩ := H
  have := oks_nth j H.ok
  rw [h] at this
  exact this
theorem Hp.mp (H : Hp S Fa w0 w L) (j : Nat) {P : Program} {k g : Nat} {kvs : List (Value × Value)} (h : nth L j = .mp P k g kvs) : Mq P k w g kvs := by
  obtain ⟨Fz, H⟩ := H
  have := oks_nth j H.ok
  rw [h] at this
  exact this
/-- reads as, whatever its blocks -/
def Rds {α : Type} (d : Cod α) (w : World) (A : Option Addr) (xs : List α) : Prop := ∃ F, C d w F A xs ∧ ∀ q, F q → q < w.heap.size
def Ent.rds {α : Type} (d : Cod α) (A : Option Addr) (xs : List α) (e : Ent) : Prop :=
  (∃ f, e = .ro f d A xs) ∨ (∃ f t c, e = .row f d t A c xs) ∨ ∃ f t c sp, e = .rowx f d t A c xs sp
theorem HpF.Fz_lt (H : HpF S Fa Fz w0 w L) {q : Nat} (h : Fa q ∨ Fz q) : q < w.heap.size := h.elim (fun h => Nat.lt_of_lt_of_le (H.fa q h).1 H.chg.size) (fun h => (H.fz q h).2)
theorem HpF.rds {α : Type} {d : Cod α} {A : Option Addr} {xs : List α} (H : HpF S Fa Fz w0 w L) (j : Nat) (h : (nth L j).rds d A xs) : C d w (fun q => (Fa q ∨ Fz q) ∨ (nth L j).at q) A xs := by
  have := oks_nth j H.ok
  rcases h with ⟨f, h⟩ | ⟨f, t, c, h⟩ | ⟨f, t, c, sp, h⟩
  · rw [h] at this ⊢
    exact C.mono this fun q hq => .inl (Fset_or hq)
  · rw [h] at this ⊢
    obtain ⟨sp, this⟩ := this
    exact this.C.mono fun q hq => hq.imp Fset_or id
  · rw [h] at this ⊢
    exact (Rw.C this).mono fun q hq => hq.imp Fset_or id
theorem Hp.rd {α : Type} {d : Cod α} {A : Option Addr} {xs : List α} (H : Hp S Fa w0 w L) (j : Nat) (h : (nth L j).rds d A xs) : Rds d w A xs := by
  obtain ⟨Fz, H⟩ := H
  exact ⟨_, H.rds j h, fun q hq => hq.elim H.Fz_lt fun hq => (H.ow q (atL_nth j hq)).2.1⟩
theorem Hp.now {α : Type} {d : Cod α} {A : Option Addr} {xs : List α} (H : Hp S Fa w0 w L) (j : Nat) (h : (nth L j).rds d A xs) : C d w (Lo w.heap.size) A xs := by
  obtain ⟨F, h1, h2⟩ := H.rd j h
  exact h1.mono h2
theorem rds_ro {α : Type} {d : Cod α} {A : Option Addr} {xs : List α} {f : Bool} : (Ent.ro f d A xs).rds d A xs := .inl ⟨_, rfl⟩
theorem rds_row {α : Type} {d : Cod α} {A : Option Addr} {xs : List α} {f : Bool} {t c : Nat} : (Ent.row f d t A c xs).rds d A xs := .inr (.inl ⟨_, _, _, rfl⟩)
theorem rds_rowx {α : Type} {d : Cod α} {A : Option Addr} {xs sp : List α} {f : Bool} {t c : Nat} : (Ent.rowx f d t A c xs sp).rds d A xs := .inr (.inr ⟨_, _, _, _, rfl⟩)
theorem Hp.chgd (H : Hp S Fa w0 w L) : Chg S w0 w := by obtain ⟨_, H⟩ := H; exact H.chg
theorem Hp.le (H : Hp S Fa w0 w L) : w0.heap.size ≤ w.heap.size := H.chgd.size
theorem Hp.raddr (H : Hp S Fa w0 w L) (j : Nat) {α : Type} {f : Bool} {d : Cod α} {t c : Nat} {A : Option Addr} {xs : List α} (h : nth L j = .row f d t A c xs) (hl : 0 < xs.length) : ∃ g, A = some ⟨g, 0, none⟩ := by
  obtain ⟨Fz, H⟩ := H
  have := oks_nth j H.ok
  rw [h] at this
  obtain ⟨sp, this⟩ := this
  exact this.addr hl
theorem Hp.rcap (H : Hp S Fa w0 w L) (j : Nat) {α : Type} {f : Bool} {d : Cod α} {t c : Nat} {A : Option Addr} {xs : List α} (h : nth L j = .row f d t A c xs) : xs.length ≤ c := by
  obtain ⟨Fz, H⟩ := H
  have := oks_nth j H.ok
  rw [h] at this
  obtain ⟨sp, this⟩ := this
  exact this.cap

theorem Hp.rcapx (H : Hp S Fa w0 w L) (j : Nat) {α : Type} {f : Bool} {d : Cod α} {t c : Nat} {A : Option Addr} {xs sp : List α} (h : nth L j = .rowx f d t A c xs sp) : xs.length ≤ c := by
  obtain ⟨Fz, H⟩ := H
  have := oks_nth j H.ok
  rw [h] at this
  exact Rw.cap this

theorem Hp.rcapE (H : Hp S Fa w0 w L) (j : Nat) {α : Type} {f : Bool} {d : Cod α} {t c : Nat} {A : Option Addr} {xs sp : List α} (h : nth L j = .rowx f d t A c xs sp) : c = (xs ++ sp).length := by
  obtain ⟨Fz, H⟩ := H
  have := oks_nth j H.ok
  rw [h] at this
  exact Rw.capE this

/-! ### how the list turns -/
theorem Hp.start (w0 : World) : Hp (Hi w0.heap.size) (Lo w0.heap.size) w0 w0 [] :=
  ⟨No, Chg.refl _ _, fun q h => h, fun q h => ⟨h, lo_hi q h⟩, fun q h => h.elim, fun q h => h.elim, trivial, trivial⟩
theorem Hp.arg {α : Type} {d : Cod α} {A : Option Addr} {xs : List α} (H : Hp S (Lo w0.heap.size) w0 w0 L) (h : C d w0 (Lo w0.heap.size) A xs) : Hp S (Lo w0.heap.size) w0 w0 (addE L [.ro false d A xs]) := by
  obtain ⟨Fz, H⟩ := H
  exact ⟨Fz, H.chg, H.hi, H.fa, H.fz, fun q hq => H.ow q ((atL_app hq).elim id fun h => h.elim (fun h => h.elim) (fun h => h.elim)), apt_app H.ap ⟨fun _ h => h.elim, trivial⟩ (fun _ _ h => h.elim (fun h => h.elim) (fun h => h.elim)), oks_app H.ok ⟨C.mono h (fun q hq => .inl hq), trivial⟩⟩
theorem Hp.ext (H : Hp S Fa w0 w L) (hc : Ext w w') : Hp S Fa w0 w' L := by
  obtain ⟨Fz, H⟩ := H
  exact ⟨Fz, H.chg.ext hc, H.hi, H.fa, fun q h => ⟨(H.fz q h).1, Nat.lt_of_lt_of_le (H.fz q h).2 hc.size⟩, fun q h => ⟨(H.ow q h).1, Nat.lt_of_lt_of_le (H.ow q h).2.1 hc.size, (H.ow q h).2.2⟩, H.ap, oks_keep H.ok hc (fun _ _ h => h) (fun _ _ h => h)⟩
/-- an object takes another's place: the block is the same, or new -/
theorem HpF.put (H : HpF S Fa Fz w0 w L) (j : Nat) (e' : Ent) (hc : Chg (nth L j).at w w') (hat : ∀ q, e'.at q → ((nth L j).at q ∨ w.heap.size ≤ q) ∧ q < w'.heap.size) (hok : e'.ok w' Fa Fz) : HpF S Fa Fz w0 w' (setn L j e') := by
  have hw := hc.size
  have hn : ∀ q, e'.at q → ¬ atL (setn L j .gone) q := fun q hq h2 => by
    rcases (hat q hq).1 with h | h
    · exact apt_nth j H.ap h h2
    · have := (H.ow q (atL_gone j h2)).2.1; omega
  refine ⟨H.chg.trans hc fun k hk hs => ?_, H.hi, H.fa, fun q h => ⟨(H.fz q h).1, Nat.lt_of_lt_of_le (H.fz q h).2 hw⟩, fun q h => ?_, apt_set j (apt_gone j H.ap) hn, oks_set j (oks_keep (oks_gone j H.ok) hc (fun q h h2 => apt_nth j H.ap h2 h) fun q h h2 => H.ro h (atL_nth j h2)) hok⟩
  · exact (H.ow k (atL_nth j hs)).1
  · rcases atL_set j h with h | h
    · obtain ⟨h1, h2⟩ := hat q h
      rcases h1 with h1 | h1
      · have := H.ow q (atL_nth j h1)
        exact ⟨this.1, h2, this.2.2⟩
      · exact ⟨H.hi q (Nat.le_trans H.chg.size h1), h2, fun h => by have := (H.fz q h).2; omega⟩
    · have := H.ow q (atL_gone j h)
      exact ⟨this.1, Nat.lt_of_lt_of_le this.2.1 hw, this.2.2⟩
theorem Hp.put (H : Hp S Fa w0 w L) (j : Nat) (e' : Ent) (hc : Chg (nth L j).at w w') (hat : ∀ q, e'.at q → ((nth L j).at q ∨ w.heap.size ≤ q) ∧ q < w'.heap.size)
    (hok : ∀ Fz, HpF S Fa Fz w0 w L → e'.ok w' Fa Fz) : Hp S Fa w0 w' (setn L j e') := by
  obtain ⟨Fz, H⟩ := H
  exact ⟨Fz, H.put j e' hc hat (hok Fz H)⟩
/-- a new object -/
theorem Hp.new (H : Hp S Fa w0 w L) (e' : Ent) (hc : Ext w w') (hat : ∀ q, e'.at q → w.heap.size ≤ q ∧ q < w'.heap.size) (hok : ∀ Fz, HpF S Fa Fz w0 w L → e'.ok w' Fa Fz) : Hp S Fa w0 w' (addE L [e']) := by
  obtain ⟨Fz, H⟩ := H
  have hw := hc.size
  have hno : ∀ q, atL [e'] q → e'.at q := fun q h => h.elim id fun h => h.elim
  refine ⟨Fz, H.chg.ext hc, H.hi, H.fa, fun q h => ⟨(H.fz q h).1, Nat.lt_of_lt_of_le (H.fz q h).2 hw⟩, fun q h => ?_, apt_app H.ap ⟨fun _ _ h => h, trivial⟩ (fun q h h2 => ?_), oks_app (oks_keep H.ok hc (fun _ _ h => h) (fun _ _ h => h)) ⟨hok Fz H, trivial⟩⟩
  · rcases atL_app h with h | h
    · have := H.ow q h
      exact ⟨this.1, Nat.lt_of_lt_of_le this.2.1 hw, this.2.2⟩
    · obtain ⟨h1, h2⟩ := hat q (hno q h)
      exact ⟨H.hi q (Nat.le_trans H.chg.size h1), h2, fun h => by have := (H.fz q h).2; omega⟩
  · have h1 := (H.ow q h).2.1
    have := (hat q (hno q h2)).1
    omega
/-- a further reading of what is known -/
theorem Hp.ins (H : Hp S Fa w0 w L) (e' : Ent) (hat : ∀ q, ¬ e'.at q) (hok : ∀ Fz, HpF S Fa Fz w0 w L → e'.ok w Fa Fz) : Hp S Fa w0 w (addE L [e']) :=
  H.new e' (Chg.refl _ _) (fun q h => absurd h (hat q)) hok
/-- an own row is written no more -/
theorem Hp.frz (H : Hp S Fa w0 w L) (j : Nat) {α : Type} {f : Bool} {d : Cod α} {t c : Nat} {A : Option Addr} {xs : List α} (h : nth L j = .row f d t A c xs) : Hp S Fa w0 w (setn L j (.ro f d A xs)) := by
  obtain ⟨Fz, H⟩ := H
  have hA : ∀ q, At A q → atL L q := fun q hq => atL_nth j (by rw [h]; exact hq)
  have hF : ∀ f q, Fset Fa Fz f q → Fset Fa (fun q => Fz q ∨ At A q) f q := fun f q hq => by
    cases f with
    | true => exact .inl hq
    | false => exact hq.imp id .inl
  have hnA : ∀ q, atL (setn L j .gone) q → ¬ At A q := fun q hq h2 => apt_nth j H.ap (by rw [h]; exact h2) hq
  refine ⟨fun q => Fz q ∨ At A q, H.chg, H.hi, H.fa, fun q hq => hq.elim (H.fz q) fun hq => ⟨(H.ow q (hA q hq)).1, (H.ow q (hA q hq)).2.1⟩, fun q hq => ?_, apt_set j (apt_gone j H.ap) (fun _ h => h.elim), oks_set j (oks_mono (oks_gone j H.ok) hF fun f q hq h2 => ?_) ?_⟩
  · rcases atL_set j hq with hq | hq
    · exact hq.elim
    · have := H.ow q (atL_gone j hq)
      exact ⟨this.1, this.2.1, fun h => h.elim this.2.2 (hnA q hq)⟩
  · rcases Fset_or h2 with h3 | h3 | h3
    · exact H.ro (.inl h3) (atL_gone j hq)
    · exact H.ro (.inr h3) (atL_gone j hq)
    · exact hnA q hq h3
  · have := oks_nth j H.ok
    rw [h] at this
    obtain ⟨sp, this⟩ := this
    refine C.mono this.C fun q hq => ?_
    cases f with
    | true => exact hq
    | false => exact hq.elim (fun h => h.imp id .inl) (fun h => .inr (.inr h))
theorem Hp.set (H : Hp S Fa w0 w L) (j : Nat) (e' : Ent) (hat : ∀ q, e'.at q → (nth L j).at q) (hok : ∀ Fz, HpF S Fa Fz w0 w L → e'.ok w Fa Fz) : Hp S Fa w0 w (setn L j e') :=
  H.put j e' (Chg.refl _ _) (fun q h => ⟨.inl (hat q h), by obtain ⟨Fz, H⟩ := H; exact (H.ow q (atL_nth j (hat q h))).2.1⟩) hok

def pickE (L : List Ent) : List Nat → List Ent
  | [] => []
  | j :: js => nth L j :: pickE L js
def notIn (j : Nat) : List Nat → Bool
  | [] => true
  | k :: ks => !(Nat.beq j k) && notIn j ks
def nodupB : List Nat → Bool
  | [] => true
  | j :: js => notIn j js && nodupB js
theorem nth_set : ∀ {L : List Ent} {j k : Nat} {e : Ent}, Nat.beq j k = false → nth (setn L j e) k = nth L k
  | [], _, _, _, _ => rfl
  | _ :: _, 0, 0, _, h => by simp at h
  | _ :: _, 0, _ + 1, _, _ => rfl
  | _ :: _, _ + 1, 0, _, _ => rfl
  | _ :: _, j + 1, k + 1, _, h => nth_set (L := _) (j := j) (k := k) h
theorem pick_at {L : List Ent} : ∀ {js : List Nat} {q : Nat}, atL (pickE L js) q → atL L q
  | [], _, h => h.elim
  | j :: _, _, h => h.elim (atL_nth j) pick_at
theorem pick_gone {L : List Ent} {j : Nat} : ∀ {js : List Nat} {q : Nat}, notIn j js = true → atL (pickE L js) q → atL (setn L j .gone) q
  | [], _, _, h => h.elim
  | k :: ks, q, hn, h => by
    simp only [notIn, Bool.and_eq_true, Bool.not_eq_true'] at hn
    rcases h with h | h
    · rw [← nth_set (e := .gone) hn.1] at h
      exact atL_nth k h
    · exact pick_gone hn.2 h
theorem pick_apt {L : List Ent} (h : apt L) : ∀ {js : List Nat}, nodupB js = true → apt (pickE L js)
  | [], _ => trivial
  | j :: js, hn => by
    simp only [nodupB, Bool.and_eq_true] at hn
    exact ⟨fun q hq h2 => apt_nth j h hq (pick_gone hn.1 h2), pick_apt h hn.2⟩
theorem pick_ok {L : List Ent} (h : oks w Fa Fz L) : ∀ {js : List Nat}, oks w Fa Fz (pickE L js)
  | [] => trivial
  | j :: _ => ⟨oks_nth j h, pick_ok h⟩
/-- some of the objects -/
theorem Hp.sel (H : Hp S Fa w0 w L) (js : List Nat) (hn : nodupB js = true) : Hp S Fa w0 w (pickE L js) := by
  obtain ⟨Fz, H⟩ := H
  exact ⟨Fz, H.chg, H.hi, H.fa, H.fz, fun q h => H.ow q (pick_at h), pick_apt H.ap hn, pick_ok H.ok⟩

/-! ### calls -/
def asRo : Ent → Ent
  | .row _ d _ A _ xs => .ro false d A xs
  | .rowx _ d _ A _ xs _ => .ro false d A xs
  | .ro _ d A xs => .ro false d A xs
  | _ => .gone
/-- all that the block holds -/
def asRoF : Ent → Ent
  | .rowx _ d _ A _ xs sp => .ro false d A (xs ++ sp)
  | .ro _ d A xs => .ro false d A xs
  | _ => .gone
def asR (b : Bool) (e : Ent) : Ent := match b with | true => asRoF e | false => asRo e
def roL (L : List Ent) : List (Nat × Bool) → List Ent
  | [] => []
  | j :: js => asR j.2 (nth L j.1) :: roL L js
def Ent.fresh : Ent → Bool
  | .row f _ _ _ _ _ => f
  | .rowx f _ _ _ _ _ _ => f
  | .ro f _ _ _ => f
  | _ => true
def freshL : List Ent → Bool
  | [] => true
  | e :: L => e.fresh && freshL L
def goneL (L : List Ent) : List Nat → List Ent
  | [] => L
  | j :: js => goneL (setn L j .gone) js
theorem asRo_at : ∀ (b : Bool) (e : Ent) (q : Nat), ¬ (asR b e).at q := fun b e q => by cases b <;> cases e <;> exact fun h => h
theorem roL_at {L : List Ent} : ∀ {js : List (Nat × Bool)} (q : Nat), ¬ atL (roL L js) q
  | [], _, h => h
  | j :: _, q, h => h.elim (asRo_at _ _ q) (roL_at q)
theorem roL_apt {L : List Ent} : ∀ {js : List (Nat × Bool)}, apt (roL L js)
  | [] => trivial
  | _ :: _ => ⟨fun q h => absurd h (asRo_at _ _ q), roL_apt⟩
theorem asRo_ok {e : Ent} (b : Bool) (h : e.ok w Fa Fz) (hF : ∀ q, Fa q ∨ Fz q → Fa' q) (hA : ∀ q, e.at q → Fa' q) : (asR b e).ok w Fa' No := by
  cases b with
  | true =>
    cases e with
    | rowx f d e A c xs sp => exact C.mono (Rw.full h) fun q hq => .inl (hq.elim (fun h => hF q (Fset_or h)) (hA q))
    | ro f d A xs => exact C.mono h fun q hq => .inl (hF q (Fset_or hq))
    | _ => trivial
  | false =>
  cases e with
  | row f d e A c xs => obtain ⟨sp, h⟩ := h; exact C.mono h.C fun q hq => .inl (hq.elim (fun h => hF q (Fset_or h)) (hA q))
  | rowx f d e A c xs sp => exact C.mono (Rw.C h) fun q hq => .inl (hq.elim (fun h => hF q (Fset_or h)) (hA q))
  | ro f d A xs => exact C.mono h fun q hq => .inl (hF q (Fset_or hq))
  | _ => trivial
theorem goneL_at : ∀ {js : List Nat} {L : List Ent} {q : Nat}, atL (goneL L js) q → atL L q
  | [], _, _, h => h
  | j :: js, _, _, h => atL_gone j (goneL_at (js := js) h)
theorem goneL_ok : ∀ {js : List Nat} {L : List Ent}, oks w Fa Fz L → oks w Fa Fz (goneL L js)
  | [], _, h => h
  | j :: js, _, h => goneL_ok (js := js) (oks_gone j h)
theorem goneL_apt : ∀ {js : List Nat} {L : List Ent}, apt L → apt (goneL L js)
  | [], _, h => h
  | j :: js, _, h => goneL_apt (js := js) (apt_gone j h)
theorem goneL_set : ∀ {js : List Nat} {L : List Ent} {j q : Nat}, atL (goneL (setn L j .gone) js) q → atL (setn L j .gone) q
  | [], _, _, _, h => h
  | k :: ks, L, j, q, h => atL_gone k (goneL_at (js := ks) h)
theorem set_comm : ∀ {L : List Ent} {j k : Nat}, setn (setn L j .gone) k .gone = setn (setn L k .gone) j .gone
  | [], _, _ => rfl
  | _ :: _, 0, 0 => rfl
  | _ :: _, 0, _ + 1 => rfl
  | _ :: _, _ + 1, 0 => rfl
  | _ :: L, j + 1, k + 1 => by simp only [setn]; rw [set_comm (L := L)]
theorem goneL_comm : ∀ {js : List Nat} {L : List Ent} {j : Nat}, goneL (setn L j .gone) js = setn (goneL L js) j .gone
  | [], _, _ => rfl
  | k :: ks, L, j => by simp only [goneL]; rw [set_comm, goneL_comm (js := ks)]
theorem goneL_pick : ∀ {js : List Nat} {L : List Ent} {q : Nat}, apt L → nodupB js = true → atL (pickE L js) q → ¬ atL (goneL L js) q
  | [], _, _, _, _, h, _ => h.elim
  | j :: js, L, q, ha, hn, h, h2 => by
    simp only [nodupB, Bool.and_eq_true] at hn
    rcases h with h | h
    · exact apt_nth j ha h (goneL_set (js := js) h2)
    · have h3 := h2
      simp only [goneL] at h3
      rw [goneL_comm] at h3
      exact goneL_pick (js := js) ha hn.2 h (atL_gone j h3)


def disjB (js ks : List Nat) : Bool := js.all fun j => notIn j ks
theorem pick_off {L : List Ent} (ha : apt L) {j : Nat} {js : List Nat} (hn : notIn j js = true) {q : Nat} (h : (nth L j).at q) : ¬ atL (pickE L js) q := fun h2 => apt_nth j ha h (pick_gone hn h2)
theorem pick_disj {L : List Ent} (ha : apt L) : ∀ {jr jh : List Nat}, disjB jr jh = true → ∀ q, atL (pickE L jr) q → ¬ atL (pickE L jh) q
  | [], _, _, _, h => h.elim
  | j :: jr, jh, hd, q, h => by
    simp only [disjB, List.all_cons, Bool.and_eq_true] at hd
    exact h.elim (pick_off ha hd.1) (pick_disj ha (jr := jr) hd.2 q)
/-- what is handed over leads to nothing -/
def handedOk : List Ent → Prop
  | [] => True
  | .row _ d _ _ _ _ :: L => (∀ w F G xs cells, Enc d w F xs cells → Enc d w G xs cells) ∧ handedOk L
  | .rowx _ d _ _ _ _ _ :: L => (∀ w F G xs cells, Enc d w F xs cells → Enc d w G xs cells) ∧ handedOk L
  | .ro _ _ _ _ :: _ => False
  | _ :: L => handedOk L
theorem Rw.any {α : Type} {d : Cod α} {e : TypeId} {A : Option Addr} {c : Nat} {xs sp : List α} (h : Rw d e w F A c xs sp) (hf : ∀ w F G xs cells, Enc d w F xs cells → Enc d w G xs cells) (hA : ∀ q, At A q → ¬ G q) : Rw d e w G A c xs sp := by
  rcases h with h | ⟨g, rfl, h1, h2, h3, h4, cells, h5, h6⟩
  · exact .inl h
  · exact .inr ⟨g, rfl, h1, h2, h3, hA g ⟨_, _, rfl⟩, cells, hf _ _ _ _ _ h5, h6⟩
theorem handed_ok : ∀ {L : List Ent}, handedOk L → oks w Fa Fz L → (∀ f q, atL L q → ¬ Fset Fa' Fz' f q) → oks w Fa' Fz' L
  | [], _, _, _ => trivial
  | .row f d e A c xs :: L, ⟨h1, h2⟩, ⟨⟨sp, k1⟩, k2⟩, hn => ⟨⟨sp, k1.any h1 fun q hq => hn f q (.inl hq)⟩, handed_ok h2 k2 fun f q hq => hn f q (.inr hq)⟩
  | .rowx f d e A c xs sp :: L, ⟨h1, h2⟩, ⟨k1, k2⟩, hn => ⟨Rw.any k1 h1 fun q hq => hn f q (.inl hq), handed_ok h2 k2 fun f q hq => hn f q (.inr hq)⟩
  | .box g t cs :: L, h, ⟨k1, k2⟩, hn => ⟨k1, handed_ok (L := L) h k2 fun f q hq => hn f q (.inr hq)⟩
  | .mp P k g kvs :: L, h, ⟨k1, k2⟩, hn => ⟨k1, handed_ok (L := L) h k2 fun f q hq => hn f q (.inr hq)⟩
  | .mat d e1 e2 G g c xss :: L, h, ⟨k1, k2⟩, hn => ⟨k1, handed_ok (L := L) h k2 fun f q hq => hn f q (.inr hq)⟩
  | .gone :: L, h, ⟨k1, k2⟩, hn => ⟨k1, handed_ok (L := L) h k2 fun f q hq => hn f q (.inr hq)⟩
theorem fresh_ok : ∀ {L : List Ent}, freshL L = true → oks w Fa Fz L → (∀ q, Fz q → Fz' q) → (∀ f q, atL L q → ¬ Fset Fa' Fz' f q) → oks w Fa' Fz' L
  | [], _, _, _, _ => trivial
  | e :: L, hf, ⟨k1, k2⟩, hF, hn => by
    simp only [freshL, Bool.and_eq_true] at hf
    refine ⟨?_, fresh_ok hf.2 k2 hF fun f q hq => hn f q (.inr hq)⟩
    cases e with
    | box g t cs => exact k1
    | row f d e A c xs => obtain rfl : f = true := hf.1; obtain ⟨sp, k1⟩ := k1; exact ⟨sp, k1.mono hF fun q hq => hn true q (.inl hq)⟩
    | rowx f d e A c xs sp => obtain rfl : f = true := hf.1; exact Rw.mono k1 hF fun q hq => hn true q (.inl hq)
    | ro f d A xs => obtain rfl : f = true := hf.1; exact C.mono k1 hF
    | mp P k g kvs => exact k1
    | mat d e1 e2 G g c xss => exact k1
    | gone => trivial

/-- what a callee may change -/
def callS (w : World) (L : List Ent) (jh : List Nat) : Nat → Prop := fun q => w.heap.size ≤ q ∨ atL (pickE L jh) q

theorem HpF.back (H : HpF S Fa Fz w0 w L) {jh : List Nat} (hn : nodupB jh = true) {Lr : List Ent} (R : HpF (callS w L jh) Fa' Fz' w w' Lr) (hr : (∀ f q, atL Lr q → ¬ Fset Fa (fun q => Fz q ∨ Fz' q) f q) → oks w' Fa (fun q => Fz q ∨ Fz' q) Lr) :
    Hp S Fa w0 w' (addE (goneL L jh) Lr) ∧ Chg (callS w L jh) w w' := by
  have hs : ∀ q, callS w L jh q → S q := fun q h => h.elim (fun h => H.hi q (Nat.le_trans H.chg.size h)) (fun h => (H.ow q (pick_at h)).1)
  have hw := R.chg.size
  have hng : ∀ q, atL (goneL L jh) q → ¬ callS w L jh q := fun q h h2 => h2.elim (fun h3 => by have := (H.ow q (goneL_at h)).2.1; omega) (fun h3 => goneL_pick H.ap hn h3 h)
  have hnf : ∀ q, Fa q ∨ Fz q → ¬ callS w L jh q := fun q h h2 => h2.elim (fun h3 => by have := H.Fz_lt h; omega) (fun h3 => H.ro h (pick_at h3))
  have hnz : ∀ q, atL (goneL L jh) q → ¬ (Fz q ∨ Fz' q) := fun q h h2 => h2.elim (H.ow q (goneL_at h)).2.2 (fun h3 => hng q h (R.fz q h3).1)
  have hnr : ∀ q, atL Lr q → ¬ (Fa q ∨ Fz q ∨ Fz' q) := fun q h h2 => by
    have h3 := R.ow q h
    rcases h2 with h2 | h2 | h2
    · exact hnf q (.inl h2) h3.1
    · exact hnf q (.inr h2) h3.1
    · exact h3.2.2 h2
  refine ⟨⟨fun q => Fz q ∨ Fz' q, H.chg.trans R.chg fun k _ h => hs k h, H.hi, H.fa, fun q h => ?_, fun q h => ?_, apt_app (goneL_apt H.ap) R.ap (fun q h h2 => hng q h (R.ow q h2).1), oks_app (oks_mono (oks_keep (goneL_ok H.ok) R.chg hng hnf) (fun f q h => ?_) fun f q h h2 => ?_) (hr fun f q h h2 => hnr q h (Fset_or h2))⟩, R.chg⟩
  · exact h.elim (fun h => ⟨(H.fz q h).1, Nat.lt_of_lt_of_le (H.fz q h).2 hw⟩) (fun h => ⟨hs q (R.fz q h).1, (R.fz q h).2⟩)
  · rcases atL_app h with h | h
    · exact ⟨(H.ow q (goneL_at h)).1, Nat.lt_of_lt_of_le (H.ow q (goneL_at h)).2.1 hw, hnz q h⟩
    · exact ⟨hs q (R.ow q h).1, (R.ow q h).2.1, fun h2 => hnr q h (.inr h2)⟩
  · cases f with
    | true => exact .inl h
    | false => exact h.imp id .inl
  · rcases Fset_or h2 with h3 | h3
    · exact H.ro (.inl h3) (goneL_at h)
    · exact hnz q h h3

/-- A call: the objects jh are handed over, to be changed; of the objects jr it only reads. Behind it those that were not handed over are as before, and what the callee gives comes to them. -/
theorem Hp.call (H : Hp S Fa w0 w L) (jh : List Nat) (jr : List (Nat × Bool)) (hn : nodupB jh = true) (hd : disjB (jr.map Prod.fst) jh = true) (hh : handedOk (pickE L jh)) :
    ∃ Fa', Hp (callS w L jh) Fa' w w (addE (pickE L jh) (roL L jr)) ∧ ∀ w' Lr, Hp (callS w L jh) Fa' w w' Lr → freshL Lr = true → Hp S Fa w0 w' (addE (goneL L jh) Lr) ∧ Chg (callS w L jh) w w' := by
  obtain ⟨Fz, H⟩ := H
  have hF : ∀ q, Fa q ∨ Fz q → q < w.heap.size ∧ ¬ atL (pickE L jh) q := fun q h => ⟨H.Fz_lt h, fun h2 => H.ro h (pick_at h2)⟩
  have hro : ∀ js : List (Nat × Bool), disjB (js.map Prod.fst) jh = true → oks w (fun q => q < w.heap.size ∧ ¬ atL (pickE L jh) q) No (roL L js) := fun js => by
    induction js with
    | nil => exact fun _ => trivial
    | cons j js ih =>
      intro h
      simp only [disjB, List.map_cons, List.all_cons, Bool.and_eq_true] at h
      exact ⟨asRo_ok j.2 (oks_nth j.1 H.ok) hF fun q hq => ⟨(H.ow q (atL_nth j.1 hq)).2.1, pick_off H.ap h.1 hq⟩, ih h.2⟩
  refine ⟨fun q => q < w.heap.size ∧ ¬ atL (pickE L jh) q, ⟨No, Chg.refl _ _, fun q h => .inl h, fun q h => ⟨h.1, fun h2 => h2.elim (fun h3 => by have := h.1; omega) h.2⟩, fun q h => h.elim, fun q h => ?_, apt_app (pick_apt H.ap hn) roL_apt (fun q _ h => roL_at q h), oks_app (handed_ok hh (pick_ok H.ok) fun f q h h2 => ?_) (hro jr hd)⟩, ?_⟩
  · rcases atL_app h with h | h
    · exact ⟨.inr h, (H.ow q (pick_at h)).2.1, fun h => h⟩
    · exact absurd h (roL_at q)
  · exact (Fset_or h2).elim (fun h3 => h3.2 h) (fun h3 => h3)
  · rintro w' Lr ⟨Fz', R⟩ hf
    exact H.back hn R fun hn => fresh_ok hf R.ok (fun q h => .inr h) hn

def isRo : Ent → Bool
  | .ro _ _ _ _ => true
  | _ => false
/-- A call whose results may lead to what it was given to read. -/
theorem Hp.callA (H : Hp S Fa w0 w L) (jh : List Nat) (jr : List (Nat × Bool)) (hn : nodupB jh = true) (hd : jr.all (fun j => isRo (nth L j.1)) = true) (hh : handedOk (pickE L jh)) :
    ∃ Fa', Hp (callS w L jh) Fa' w w (addE (pickE L jh) (roL L jr)) ∧ ∀ w' Lr, Hp (callS w L jh) Fa' w w' Lr → Hp S Fa w0 w' (addE (goneL L jh) Lr) ∧ Chg (callS w L jh) w w' := by
  obtain ⟨Fz, H⟩ := H
  have hro : ∀ js : List (Nat × Bool), js.all (fun j => isRo (nth L j.1)) = true → oks w (fun q => Fa q ∨ Fz q) No (roL L js) := fun js => by
    induction js with
    | nil => exact fun _ => trivial
    | cons j js ih =>
      intro h
      simp only [List.all_cons, Bool.and_eq_true] at h
      refine ⟨asRo_ok j.2 (oks_nth j.1 H.ok) (fun q h => h) fun q hq => ?_, ih h.2⟩
      have h1 := h.1
      cases hj : nth L j.1 with
      | ro f d A xs => rw [hj] at hq; exact hq.elim
      | _ => rw [hj] at h1; simp [isRo] at h1
  refine ⟨fun q => Fa q ∨ Fz q, ⟨No, Chg.refl _ _, fun q h => .inl h, fun q h => ⟨H.Fz_lt h, fun h2 => h2.elim (fun h3 => by have := H.Fz_lt h; omega) (fun h3 => H.ro h (pick_at h3))⟩, fun q h => h.elim, fun q h => ?_, apt_app (pick_apt H.ap hn) roL_apt (fun q _ h => roL_at q h), oks_app (handed_ok hh (pick_ok H.ok) fun f q h h2 => ?_) (hro jr hd)⟩, ?_⟩
  · rcases atL_app h with h | h
    · exact ⟨.inr h, (H.ow q (pick_at h)).2.1, fun h => h⟩
    · exact absurd h (roL_at q)
  · exact (Fset_or h2).elim (fun h3 => H.ro h3 (pick_at h)) (fun h3 => h3)
  · rintro w' Lr ⟨Fz', R⟩
    exact H.back hn R fun hn => oks_mono R.ok (fun f q h => by
      cases f with
      | true => exact .inr h
      | false => exact h.elim (fun h => h.imp id .inl) (fun h => .inr (.inr h))) hn
theorem callS_ext (h : Chg (callS w L []) w w') : Ext w w' := h.mono fun k hk hs => hs.elim (fun h => by omega) (fun h => h)

/-! ### carried to other worlds of a drawn region -/
theorem Hp.boxk (H : Hp S Fa w0 w L) (js : List Nat) (hc : Chg (atL (pickE L js)) w w') (j : Nat) {g : Nat} {t : TypeId} {cs : List Value} (h : nth L j = .box g t cs) (hn : notIn j js = true) : Bx w' g t cs := by
  have hb := H.box j h
  obtain ⟨Fz, H⟩ := H
  exact hb.chg hc (pick_off H.ap hn (by rw [h]; exact rfl))
theorem Hp.mpk (H : Hp S Fa w0 w L) (js : List Nat) (hc : Chg (atL (pickE L js)) w w') (j : Nat) {P : Program} {k g : Nat} {kvs : List (Value × Value)} (h : nth L j = .mp P k g kvs) (hn : notIn j js = true) : Mq P k w' g kvs := by
  have hb := H.mp j h
  obtain ⟨Fz, H⟩ := H
  exact hb.chg hc (pick_off H.ap hn (by rw [h]; exact rfl))
theorem Hp.rdk {α : Type} {d : Cod α} {A : Option Addr} {xs : List α} (H : Hp S Fa w0 w L) (js : List Nat) (hc : Chg (atL (pickE L js)) w w') (j : Nat) (h : (nth L j).rds d A xs) (hn : notIn j js = true) : Rds d w' A xs := by
  obtain ⟨Fz, H⟩ := H
  refine ⟨_, (H.rds j h).keep hc fun q hq h2 => ?_, fun q hq => Nat.lt_of_lt_of_le (hq.elim H.Fz_lt fun hq => (H.ow q (atL_nth j hq)).2.1) hc.size⟩
  exact hq.elim (fun hq => H.ro hq (pick_at h2)) (fun hq => pick_off H.ap hn hq h2)

theorem Hp.blk {α : Type} {d : Cod α} {b o : Nat} {xs : List α} (H : Hp S Fa w0 w L) (js : List Nat) (j : Nat) (h : (nth L j).rds d (some ⟨b, o, none⟩) xs) (hl : 0 < xs.length) (hn : notIn j js = true) : ¬ atL (pickE L js) b := by
  obtain ⟨Fz, H⟩ := H
  intro h2
  rcases C.foot (H.rds j h) hl with hq | hq
  · exact H.ro hq (pick_at h2)
  · exact pick_off H.ap hn hq h2

/-! ### readings -/
section
variable {α : Type} {d : Cod α} {A : Option Addr} {xs : List α}
theorem Rds.addr (h : Rds d w A xs) (hl : 0 < xs.length) : ∃ b o, A = some ⟨b, o, none⟩ := h.elim fun _ h => h.1.addr hl
theorem Rds.nil {xs : List α} (h : Rds d w none xs) : xs = [] := by
  cases xs with
  | nil => rfl
  | cons x r => obtain ⟨b, o, e⟩ := Rds.addr h (by simp); cases e
theorem Rds.at1 {b o : Nat} {f : α → Value} {e : ∀ x, [f x].length = 1} {e1 : ∀ x, [f x].all Value.oneCell' = true} (h : Rds (Cod.plain 1 (fun x => [f x]) e e1) w (some ⟨b, o, none⟩) xs) (z : α) {i : Int} (h0 : 0 ≤ i ∧ i < (xs.length : Int)) :
    w.cell? ⟨b, o + i.toNat * 1, none⟩ = some (f (xs.getD i.toNat z)) := h.elim fun _ h => h.1.at1 z h0.1 h0.2
theorem Rds.atP {m : Nat} {f : α → List Value} {e : ∀ x, (f x).length = m} {e1 : ∀ x, (f x).all Value.oneCell' = true} {b o : Nat} (h : Rds (Cod.plain m f e e1) w (some ⟨b, o, none⟩) xs) (z : α) {i : Int} (h0 : 0 ≤ i ∧ i < (xs.length : Int)) :
    cellsAt w b (o + i.toNat * m) (f (xs.getD i.toNat z)) := h.elim fun _ h => h.1.atP z h0.1 h0.2
theorem Rds.atF {m : Nat} {f : α → List Value} {e : ∀ x, (f x).length = m} {e1 : ∀ x, (f x).all Value.oneCell' = true} {b o : Nat} (h : Rds (Cod.plain m f e e1) w (some ⟨b, o, none⟩) xs) (z : α) {i : Int} (h0 : 0 ≤ i ∧ i < (xs.length : Int))
    (j : Nat) {u : Value} (hj : (f (xs.getD i.toNat z))[j]? = some u) : w.cell? ⟨b, o + i.toNat * m + j, none⟩ = some u := h.elim fun _ h => h.1.atF z h0.1 h0.2 j hj
/-- an element, whatever it leads to -/
theorem Hp.elem (H : Hp S Fa w0 w L) (j : Nat) (f : Bool) {b o : Nat} (h : nth L j = .ro f d (some ⟨b, o, none⟩) xs ∨ (∃ t c, nth L j = .row f d t (some ⟨b, o, none⟩) c xs) ∨ ∃ t c sp, nth L j = .rowx f d t (some ⟨b, o, none⟩) c xs sp) (z : α) {i : Int} (h0 : 0 ≤ i ∧ i < (xs.length : Int)) :
    ∃ Fz cs, HpF S Fa Fz w0 w L ∧ d.K w (Fset Fa Fz f) (xs.getD i.toNat z) cs ∧ cellsAt w b (o + i.toNat * d.sz) cs := by
  obtain ⟨Fz, H⟩ := H
  have hk := oks_nth j H.ok
  have key : ∀ {sp : List α} {t c : Nat}, Rw d t w (Fset Fa Fz f) (some ⟨b, o, none⟩) c xs sp → ∃ cs, d.K w (Fset Fa Fz f) (xs.getD i.toNat z) cs ∧ cellsAt w b (o + i.toNat * d.sz) cs := fun {sp t c} hr => by
    rcases hr with ⟨h1, _⟩ | ⟨g, hA, h1, h2, h3, h4, cells, h5, h6⟩
    · cases h1
    · cases hA
      obtain ⟨c1, c2, rfl, he1, he2⟩ := h5.split
      have hC : C d w (fun q => Fset Fa Fz f q ∨ q = b) (some ⟨b, 0, none⟩) xs := ⟨c1, he1.mono fun q hq => .inl hq, fun _ => ⟨b, 0, rfl, .inr rfl⟩, fun b' o' e => by
        cases e
        exact cellsAt.of_get fun j u hj => by rw [Nat.zero_add]; exact h6.cell (by rw [List.getElem?_append_left (List.getElem?_eq_some_iff.1 hj).1]; exact hj)⟩
      have hlt : i.toNat < xs.length := by omega
      have hi : xs[i.toNat]? = some (xs.getD i.toNat z) := by simp [List.getD_eq_getElem?_getD, hlt]
      obtain ⟨cs, k1, k2⟩ := he1.get _ _ hi
      refine ⟨cs, k1, cellsAt.of_get fun j u hj => ?_⟩
      have h7 := k2 j u hj
      rw [Nat.zero_add]
      exact h6.cell (by rw [List.getElem?_append_left (List.getElem?_eq_some_iff.1 h7).1]; exact h7)
  rcases h with h | ⟨t, c, h⟩ | ⟨t, c, sp, h⟩
  · rw [h] at hk
    obtain ⟨cs, h1, h2⟩ := C.at hk z h0.1 h0.2
    exact ⟨Fz, cs, H, h1, h2⟩
  · rw [h] at hk
    obtain ⟨sp, hk⟩ := hk
    obtain ⟨cs, h1, h2⟩ := key hk
    exact ⟨Fz, cs, H, h1, h2⟩
  · rw [h] at hk
    obtain ⟨cs, h1, h2⟩ := key hk
    exact ⟨Fz, cs, H, h1, h2⟩
theorem el_ro {f : Bool} {b o : Nat} {j : Nat} (h : nth L j = .ro f d (some ⟨b, o, none⟩) xs) : nth L j = .ro f d (some ⟨b, o, none⟩) xs ∨ (∃ t c, nth L j = .row f d t (some ⟨b, o, none⟩) c xs) ∨ ∃ t c sp, nth L j = .rowx f d t (some ⟨b, o, none⟩) c xs sp := .inl h
theorem el_row {f : Bool} {b o : Nat} {j : Nat} {t c : Nat} (h : nth L j = .row f d t (some ⟨b, o, none⟩) c xs) : nth L j = .ro f d (some ⟨b, o, none⟩) xs ∨ (∃ t c, nth L j = .row f d t (some ⟨b, o, none⟩) c xs) ∨ ∃ t c sp, nth L j = .rowx f d t (some ⟨b, o, none⟩) c xs sp := .inr (.inl ⟨_, _, h⟩)
theorem el_rowx {f : Bool} {b o : Nat} {j : Nat} {t c : Nat} {sp : List α} (h : nth L j = .rowx f d t (some ⟨b, o, none⟩) c xs sp) : nth L j = .ro f d (some ⟨b, o, none⟩) xs ∨ (∃ t c, nth L j = .row f d t (some ⟨b, o, none⟩) c xs) ∨ ∃ t c sp, nth L j = .rowx f d t (some ⟨b, o, none⟩) c xs sp := .inr (.inr ⟨_, _, _, h⟩)
end
theorem HpF.ins (H : HpF S Fa Fz w0 w L) {α : Type} {f : Bool} {d : Cod α} {A : Option Addr} {xs : List α} (h : C d w (Fset Fa Fz f) A xs) : HpF S Fa Fz w0 w (addE L [.ro f d A xs]) :=
  ⟨H.chg, H.hi, H.fa, H.fz, fun q h => H.ow q ((atL_app h).elim id fun h => h.elim (fun h => h.elim) (fun h => h.elim)), apt_app H.ap ⟨fun _ h => h.elim, trivial⟩ (fun q _ h => h.elim (fun h => h.elim) (fun h => h.elim)), oks_app H.ok ⟨h, trivial⟩⟩
theorem HpF.hp (H : HpF S Fa Fz w0 w L) : Hp S Fa w0 w L := ⟨Fz, H⟩
/-- a slice among the elements -/
theorem Hp.subSl {α : Type} {d : Cod α} {xs : List (List α)} (H : Hp S Fa w0 w L) (j : Nat) (f : Bool) {b o : Nat} (h : nth L j = .ro f (cSl d) (some ⟨b, o, none⟩) xs ∨ (∃ t c, nth L j = .row f (cSl d) t (some ⟨b, o, none⟩) c xs) ∨ ∃ t c sp, nth L j = .rowx f (cSl d) t (some ⟨b, o, none⟩) c xs sp) {i : Int} (h0 : 0 ≤ i ∧ i < (xs.length : Int)) :
    ∃ A c, w.cell? ⟨b, o + i.toNat * 1, none⟩ = some (.slice A (xs.getD i.toNat []).length c) ∧ (xs.getD i.toNat []).length ≤ c ∧ Hp S Fa w0 w (addE L [.ro f d A (xs.getD i.toNat [])]) := by
  obtain ⟨Fz, cs, H', ⟨A, c, e1, h1, h2⟩, h3⟩ := H.elem j f h [] h0
  subst e1
  exact ⟨A, c, h3.1, h1, (H'.ins h2).hp⟩
theorem Hp.take {α : Type} {f : Bool} {d : Cod α} {A : Option Addr} {xs : List α} (H : Hp S Fa w0 w L) (j : Nat) (h : nth L j = .ro f d A xs) (N : Nat) : Hp S Fa w0 w (addE L [.ro f d A (xs.take N)]) := by
  obtain ⟨Fz, H⟩ := H
  have := oks_nth j H.ok
  rw [h] at this
  exact (H.ins (C.take this N)).hp
end
end Go.V
