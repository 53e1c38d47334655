/- Rows of rows of one's own, all apart from one another: they may be written. -/
import Derived.Test.YtljkomkejdngcaaV8
set_option linter.all false
set_option linter.unusedVariables false
set_option linter.unnecessarySimpa false
set_option linter.unusedSimpArgs false
namespace Go.V
open Go Go.RowKit

/-- a row's header -/
abbrev Hd := Option Addr × Nat
def hdV {α : Type} (p : Hd) (xs : List α) : Value := .slice p.1 xs.length p.2

/-- Block g holds the headers of these rows; each row is the call's own; no two share a block; all lie in G. -/
def Mat {α : Type} (d : Cod α) (e1 e2 : TypeId) (w : World) (base : Nat) (G : Nat → Prop) (g : Nat) (xss : List (List α)) : Prop :=
  G g ∧ (∀ q, G q → base ≤ q ∧ q < w.heap.size) ∧ ∃ As : List Hd, As.length = xss.length ∧ Bx w g e2 (List.zipWith hdV As xss) ∧
    (∀ i, i < xss.length → Row d e1 w base No (As.getD i (none, 0)).1 (As.getD i (none, 0)).2 (xss.getD i []) ∧ ∀ q, At (As.getD i (none, 0)).1 q → G q ∧ q ≠ g) ∧
    ∀ i j, i < xss.length → j < xss.length → i ≠ j → ∀ q, At (As.getD i (none, 0)).1 q → ¬ At (As.getD j (none, 0)).1 q

section
variable {α : Type} {d : Cod α} {e1 e2 : TypeId} {w w' : World} {base : Nat} {G S : Nat → Prop} {g : Nat} {xss : List (List α)}

theorem Mat.lt (h : Mat d e1 e2 w base G g xss) : ∀ q, G q → q < w.heap.size := fun q hq => (h.2.1 q hq).2
theorem Mat.hi (h : Mat d e1 e2 w base G g xss) : ∀ q, G q → Hi base q := fun q hq => (h.2.1 q hq).1
theorem Mat.keep (h : Mat d e1 e2 w base G g xss) (hc : Chg S w w') (hS : ∀ q, G q → ¬ S q) : Mat d e1 e2 w' base G g xss := by
  obtain ⟨h1, h2, As, h3, h4, h5, h6⟩ := h
  refine ⟨h1, fun q hq => ⟨(h2 q hq).1, Nat.lt_of_lt_of_le (h2 q hq).2 hc.size⟩, As, h3, h4.chg hc (hS g h1), fun i hi => ⟨(h5 i hi).1.keep hc (fun _ h => h.elim) (fun q e => hS q ((h5 i hi).2 q ⟨_, _, e⟩).1), (h5 i hi).2⟩, h6⟩

/-- one of the rows; and how it is put back when it has been written -/
theorem Mat.at (h : Mat d e1 e2 w base G g xss) {i : Int} (h0 : 0 ≤ i) (h1 : i < (xss.length : Int)) : ∃ A c, w.cell? ⟨g, 0 + i.toNat * 1, none⟩ = some (.slice A (xss.getD i.toNat []).length c) ∧ Row d e1 w base No A c (xss.getD i.toNat []) ∧ (∀ q, At A q → G q) ∧
    ∀ (w' : World) (ys : List α), Chg (At A) w w' → Row d e1 w' base No A c ys → ys.length = (xss.getD i.toNat []).length → Mat d e1 e2 w' base G g (xss.set i.toNat ys) := by
  obtain ⟨k1, k2, As, k3, k4, k5, k6⟩ := h
  have hi : i.toNat < xss.length := by omega
  have hz : (List.zipWith hdV As xss)[i.toNat]? = some (hdV (As.getD i.toNat (none, 0)) (xss.getD i.toNat [])) := by
    rw [List.getElem?_zipWith, List.getElem?_eq_getElem (show i.toNat < As.length by omega), List.getElem?_eq_getElem hi, List.getD_eq_getElem?_getD, List.getElem?_eq_getElem (show i.toNat < As.length by omega), List.getD_eq_getElem?_getD, List.getElem?_eq_getElem hi]
    rfl
  refine ⟨(As.getD i.toNat (none, 0)).1, (As.getD i.toNat (none, 0)).2, ?_, (k5 _ hi).1, fun q hq => ((k5 _ hi).2 q hq).1, ?_⟩
  · have := k4.cell hz
    rw [show 0 + i.toNat * 1 = i.toNat by omega]
    exact this
  · intro w' ys hc hR hl
    have hzw : List.zipWith hdV As (xss.set i.toNat ys) = List.zipWith hdV As xss := by
      apply List.ext_getElem?
      intro k
      rw [List.getElem?_zipWith, List.getElem?_zipWith, List.getElem?_set]
      by_cases e : i.toNat = k
      · subst e
        rw [if_pos rfl, if_pos hi, List.getElem?_eq_getElem (show i.toNat < As.length by omega), List.getElem?_eq_getElem hi]
        simp only [hdV]
        rw [hl, List.getD_eq_getElem?_getD, List.getElem?_eq_getElem hi]
        rfl
      · rw [if_neg e]
    have hg : ¬ At (As.getD i.toNat (none, 0)).1 g := fun hq => ((k5 _ hi).2 g hq).2 rfl
    refine ⟨k1, fun q hq => ⟨(k2 q hq).1, Nat.lt_of_lt_of_le (k2 q hq).2 hc.size⟩, As, by rw [List.length_set]; exact k3, by rw [hzw]; exact k4.chg hc hg, fun j hj => ?_, fun j k hj hk => by rw [List.length_set] at hj hk; exact k6 j k hj hk⟩
    rw [List.length_set] at hj
    refine ⟨?_, (k5 j hj).2⟩
    by_cases e : j = i.toNat
    · subst e
      rw [show (xss.set i.toNat ys).getD i.toNat [] = ys by rw [List.getD_eq_getElem?_getD, List.getElem?_set, if_pos rfl, if_pos hi]; rfl]
      exact hR
    · rw [show (xss.set i.toNat ys).getD j [] = xss.getD j [] by rw [List.getD_eq_getElem?_getD, List.getElem?_set, if_neg (fun h => e h.symm), ← List.getD_eq_getElem?_getD]]
      exact (k5 j hj).1.keep hc (fun _ h => h.elim) (fun q eq => k6 j i.toNat hj hi e q ⟨_, _, eq⟩)

/-! ### the headers' block -/
abbrev Raw := Option Addr × Nat × Nat
def cRaw : Cod Raw := Cod.plain 1 (fun p => [.slice p.1 p.2.1 p.2.2]) (fun _ => rfl) (fun _ => rfl)
theorem enc_raw {F : Nat → Prop} : ∀ {xs : List Raw} {cells : List Value}, Enc cRaw w F xs cells ↔ cells = xs.map fun p => .slice p.1 p.2.1 p.2.2
  | [], cells => Iff.rfl
  | x :: xs, cells => by
    constructor
    · rintro ⟨cs, rest, rfl, h1, h2⟩
      cases h1
      rw [enc_raw.1 h2]
      rfl
    · intro h
      exact ⟨_, _, h, rfl, enc_raw.2 rfl⟩
/-- a made block of headers that are nil -/
theorem Mat.nil {M : Nat} (h : BL cRaw w No g e2 M (List.replicate M (none, 0, 0))) (hb : base ≤ g) : Mat d e1 e2 w base (· = g) g (List.replicate M ([] : List α)) := by
  obtain ⟨h1, h2, cells, h3, h4⟩ := h
  have hlt := h4.lt
  refine ⟨rfl, fun q hq => by subst hq; exact ⟨hb, hlt⟩, List.replicate M (none, 0), by simp, ?_, fun i hi => ?_, fun i j hi hj hn q hq => ?_⟩
  · rw [enc_raw.1 h3] at h4
    have : List.zipWith hdV (List.replicate M ((none, 0) : Hd)) (List.replicate M ([] : List α)) = (List.replicate M ((none, 0, 0) : Raw)).map fun p => Value.slice p.1 p.2.1 p.2.2 := by simp [hdV]
    rw [this]; exact h4
  · have e : (List.replicate M ((none, 0) : Hd)).getD i (none, 0) = (none, 0) := by rw [List.getD_eq_getElem?_getD, List.getElem?_replicate]; split <;> rfl
    have e2 : (List.replicate M ([] : List α)).getD i [] = [] := by rw [List.getD_eq_getElem?_getD, List.getElem?_replicate]; split <;> rfl
    rw [e, e2]
    exact ⟨Row.nil _ _ _ _ _, fun q hq => absurd hq (At.nil q)⟩
  · have e : (List.replicate M ((none, 0) : Hd)).getD i (none, 0) = (none, 0) := by rw [List.getD_eq_getElem?_getD, List.getElem?_replicate]; split <;> rfl
    rw [e] at hq
    exact absurd hq (At.nil q)
theorem enc_zip {α : Type} {d : Cod α} {e1 : TypeId} {w : World} {base : Nat} {F : Nat → Prop} : ∀ (As : List Hd) (xss : List (List α)), As.length = xss.length →
    (∀ i, i < xss.length → Row d e1 w base No (As.getD i (none, 0)).1 (As.getD i (none, 0)).2 (xss.getD i []) ∧ ∀ q, At (As.getD i (none, 0)).1 q → F q) → Enc (cSl d) w F xss (List.zipWith hdV As xss)
  | [], [], _, _ => rfl
  | [], _ :: _, h, _ => by simp at h
  | _ :: _, [], h, _ => by simp at h
  | p :: As, xs :: xss, h, hr => by
    have h0 := hr 0 (by simp)
    have q0 : ((p :: As).getD 0 (none, 0)) = p := rfl
    have q1 : ((xs :: xss).getD 0 []) = xs := rfl
    rw [q0, q1] at h0
    refine ⟨[hdV p xs], List.zipWith hdV As xss, rfl, ⟨p.1, p.2, rfl, h0.1.cap, h0.1.C.mono fun b hb => ?_⟩, enc_zip (e1 := e1) (base := base) As xss (by simpa using h) fun i hi => ?_⟩
    · rcases hb with hb | hb
      · exact hb.elim
      · exact h0.2 b hb
    · have := hr (i + 1) (by simpa using hi)
      simpa using this
/-- read only -/
theorem Mat.C (h : Mat d e1 e2 w base G g xss) : V.C (cSl d) w G (some ⟨g, 0, none⟩) xss := by
  obtain ⟨k1, k2, As, k3, k4, k5, k6⟩ := h
  refine ⟨_, enc_zip As xss k3 fun i hi => ⟨(k5 i hi).1, fun q hq => ((k5 i hi).2 q hq).1⟩, fun _ => ⟨g, 0, rfl, k1⟩, fun b o e => ?_⟩
  cases e
  exact k4.cells
theorem Mat.now (h : Mat d e1 e2 w base G g xss) : V.C (cSl d) w (Lo w.heap.size) (some ⟨g, 0, none⟩) xss := h.C.mono fun q hq => h.lt q hq
theorem Mat.eq {yss : List (List α)} (h : Mat d e1 e2 w base G g xss) (he : xss = yss) : Mat d e1 e2 w base G g yss := he ▸ h
theorem Mat.from_ {b2 : Nat} (h : Mat d e1 e2 w base G g xss) (hb : b2 ≤ base) : Mat d e1 e2 w b2 G g xss := by
  obtain ⟨k1, k2, As, k3, k4, k5, k6⟩ := h
  exact ⟨k1, fun q hq => ⟨Nat.le_trans hb (k2 q hq).1, (k2 q hq).2⟩, As, k3, k4, fun i hi => ⟨(k5 i hi).1.from_ hb, (k5 i hi).2⟩, k6⟩
theorem Mat.own (h : Mat d e1 e2 w base G g xss) : Own base w G := h.2.1
theorem Mat.new (h : Mat d e1 e2 w base G g xss) {g2 : Nat} (hg : w.heap.size ≤ g2) : ¬ G g2 := fun hq => by have := h.lt g2 hq; omega
end

/-! ### a piece of a whole block -/
def cutOff (l m s : Nat) : Nat := if m = l then 0 else l * s
section
variable {P : Program} {T : List TRow} {a : Act} {n : Nat} {l l' : List (Nat × Value)} {ops : Array Oper} {Q : Exit → Act → World → Prop} {rest : List Oper} {o : Oper} {w : World} {t e : TypeId}
end
section
variable {α : Type} {d : Cod α} {e : TypeId} {w : World} {F : Nat → Prop} {g M : Nat} {xs : List α}
theorem BL.cut (h : BL d w F g e M xs) {l N : Nat} (hN : l + N ≤ M) : ∃ cells, Enc d w F ((xs.drop l).take N) cells ∧ cellsAt w g (cutOff l M d.sz) cells := by
  obtain ⟨h1, h2, cells, h3, h4⟩ := h
  refine ⟨_, (h3.drop l).take N, cellsAt.of_get fun j u hj => ?_⟩
  rw [List.getElem?_take] at hj
  split at hj
  · rename_i hlt
    have hne : ¬ M = l := by
      intro e
      have : N = 0 := by omega
      subst this
      simp at hlt
    unfold cutOff
    rw [if_neg hne]
    rw [List.getElem?_drop] at hj
    exact h4.cell hj
  · cases hj
end
end Go.V
