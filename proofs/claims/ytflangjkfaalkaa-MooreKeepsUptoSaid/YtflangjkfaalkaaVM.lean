/- Rows of rows of one's own, all apart from one another: they may be written. -/
import Derived.Test.YtflangjkfaalkaaV8
set_option linter.all false
set_option linter.unusedVariables false
set_option linter.unnecessarySimpa false
set_option linter.unusedSimpArgs false
namespace Go.V
open Go Go.RowKit

/-- a row's header -/
abbrev Hd := Option Addr × Nat
def hdV {α : Type} (p : Hd) (xs : List α) : Value := .slice p.1 xs.length p.2

/-- Block g holds the headers of these rows; each row is the call's own; no two share a block; all lie in G. -/
def Mat {α : Type} (d : Cod α) (e1 e2 : TypeId) (w : World) (base : Nat) (G : Nat → Prop) (g : Nat) (xss : List (List α)) : Prop :=
  G g ∧ (∀ q, G q → base ≤ q ∧ q < w.heap.size) ∧ ∃ As : List Hd, As.length = xss.length ∧ Bx w g e2 (List.zipWith hdV As xss) ∧
    (∀ i, i < xss.length → Row d e1 w base No (As.getD i (none, 0)).1 (As.getD i (none, 0)).2 (xss.getD i []) ∧ ∀ q, At (As.getD i (none, 0)).1 q → G q ∧ q ≠ g) ∧
    ∀ i j, i < xss.length → j < xss.length → i ≠ j → ∀ q, At (As.getD i (none, 0)).1 q → ¬ At (As.getD j (none, 0)).1 q

section
variable {α : Type} {d : Cod α} {e1 e2 : TypeId} {w w' : World} {base : Nat} {G S : Nat → Prop} {g : Nat} {xss : List (List α)}

theorem Mat.lt (h : Mat d e1 e2 w base G g xss) : ∀ q, G q → q < w.heap.size := fun q hq => (h.2.1 q hq).2
theorem Mat.hi (h : Mat d e1 e2 w base G g xss) : ∀ q, G q → Hi base q := fun q hq => (h.2.1 q hq).1
theorem Mat.keep (h : Mat d e1 e2 w base G g xss) (hc : Chg S w w') (hS : ∀ q, G q → ¬ S q) : Mat d e1 e2 w' base G g xss := by
  obtain ⟨h1, h2, As, h3, h4, h5, h6⟩ := h
  refine ⟨h1, fun q hq => ⟨(h2 q hq).1, Nat.lt_of_lt_of_le (h2 q hq).2 hc.size⟩, As, h3, h4.chg hc (hS g h1), fun i hi => ⟨(h5 i hi).1.keep hc (fun _ h => h.elim) (fun q e => hS q ((h5 i hi).2 q ⟨_, _, e⟩).1), (h5 i hi).2⟩, h6⟩

/-- one of the rows; and how it is put back when it has been written -/
theorem Mat.at (h : Mat d e1 e2 w base G g xss) {i : Int} (h0 : 0 ≤ i) (h1 : i < (xss.length : Int)) : ∃ A c, w.cell? ⟨g, 0 + i.toNat * 1, none⟩ = some (.slice A (xss.getD i.toNat []).length c) ∧ Row d e1 w base No A c (xss.getD i.toNat []) ∧ (∀ q, At A q → G q) ∧
    ∀ (w' : World) (ys : List α), Chg (At A) w w' → Row d e1 w' base No A c ys → ys.length = (xss.getD i.toNat []).length → Mat d e1 e2 w' base G g (xss.set i.toNat ys) := by
  obtain ⟨k1, k2, As, k3, k4, k5, k6⟩ := h
  have hi : i.toNat < xss.length := by omega
  have hz : (List.zipWith hdV As xss)[i.toNat]? = some (hdV (As.getD i.toNat (none, 0)) (xss.getD i.toNat [])) := by
    rw [List.getElem?_zipWith, List.getElem?_eq_getElem (show i.toNat < As.length by omega), List.getElem?_eq_getElem hi, List.getD_eq_getElem?_getD, List.getElem?_eq_getElem (show i.toNat < As.length by omega), List.getD_eq_getElem?_getD, List.getElem?_eq_getElem hi]
    rfl
  refine ⟨(As.getD i.toNat (none, 0)).1, (As.getD i.toNat (none, 0)).2, ?_, (k5 _ hi).1, fun q hq => ((k5 _ hi).2 q hq).1, ?_⟩
  · have := k4.cell hz
    rw [show 0 + i.toNat * 1 = i.toNat by omega]
    exact this
  · intro w' ys hc hR hl
    have hzw : List.zipWith hdV As (xss.set i.toNat ys) = List.zipWith hdV As xss := by
      apply List.ext_getElem?
      intro k
      rw [List.getElem?_zipWith, List.getElem?_zipWith, List.getElem?_set]
      by_cases e : i.toNat = k
      · subst e
        rw [if_pos rfl, if_pos hi, List.getElem?_eq_getElem (show i.toNat < As.length by omega), List.getElem?_eq_getElem hi]
        simp only [hdV]
        rw [hl, List.getD_eq_getElem?_getD, List.getElem?_eq_getElem hi]
        rfl
      · rw [if_neg e]
    have hg : ¬ At (As.getD i.toNat (none, 0)).1 g := fun hq => ((k5 _ hi).2 g hq).2 rfl
    refine ⟨k1, fun q hq => ⟨(k2 q hq).1, Nat.lt_of_lt_of_le (k2 q hq).2 hc.size⟩, As, by rw [List.length_set]; exact k3, by rw [hzw]; exact k4.chg hc hg, fun j hj => ?_, fun j k hj hk => by rw [List.length_set] at hj hk; exact k6 j k hj hk⟩
    rw [List.length_set] at hj
    refine ⟨?_, (k5 j hj).2⟩
    by_cases e : j = i.toNat
    · subst e
      rw [show (xss.set i.toNat ys).getD i.toNat [] = ys by rw [List.getD_eq_getElem?_getD, List.getElem?_set, if_pos rfl, if_pos hi]; rfl]
      exact hR
    · rw [show (xss.set i.toNat ys).getD j [] = xss.getD j [] by rw [List.getD_eq_getElem?_getD, List.getElem?_set, if_neg (fun h => e h.symm), ← List.getD_eq_getElem?_getD]]
      exact (k5 j hj).1.keep hc (fun _ h => h.elim) (fun q eq => k6 j i.toNat hj hi e q ⟨_, _, eq⟩)

/-! ### the headers' block -/
abbrev Raw := Option Addr × Nat × Nat
def cRaw : Cod Raw := Cod.plain 1 (fun p => [.slice p.1 p.2.1 p.2.2]) (fun _ => rfl) (fun _ => rfl)
theorem enc_raw {F : Nat → Prop} : ∀ {xs : List Raw} {cells : List Value}, Enc cRaw w F xs cells ↔ cells = xs.map fun p => .slice p.1 p.2.1 p.2.2
  | [], cells => Iff.rfl
  | x :: xs, cells => by
    constructor
    · rintro ⟨cs, rest, rfl, h1, h2⟩
      cases h1
      rw [enc_raw.1 h2]
      rfl
    · intro h
      exact ⟨_, _, h, rfl, enc_raw.2 rfl⟩
theorem zip_raw {α : Type} : ∀ (As : List Hd) (xss : List (List α)), List.zipWith hdV As xss = (List.zipWith (fun (p : Hd) (xs : List α) => ((p.1, xs.length, p.2) : Raw)) As xss).map fun p => .slice p.1 p.2.1 p.2.2
  | [], _ => rfl
  | _ :: _, [] => rfl
  | p :: As, xs :: xss => by
    rw [List.zipWith_cons_cons, List.zipWith_cons_cons, List.map_cons, zip_raw As xss]
    rfl
/-- a made block of headers that are nil -/
theorem Mat.nil {M : Nat} (h : BL cRaw w No g e2 M (List.replicate M (none, 0, 0))) (hb : base ≤ g) : Mat d e1 e2 w base (· = g) g (List.replicate M ([] : List α)) := by
  obtain ⟨h1, h2, cells, h3, h4⟩ := h
  have hlt := h4.lt
  refine ⟨rfl, fun q hq => by subst hq; exact ⟨hb, hlt⟩, List.replicate M (none, 0), by simp, ?_, fun i hi => ?_, fun i j hi hj hn q hq => ?_⟩
  · rw [enc_raw.1 h3] at h4
    have : List.zipWith hdV (List.replicate M ((none, 0) : Hd)) (List.replicate M ([] : List α)) = (List.replicate M ((none, 0, 0) : Raw)).map fun p => Value.slice p.1 p.2.1 p.2.2 := by simp [hdV]
    rw [this]; exact h4
  · have e : (List.replicate M ((none, 0) : Hd)).getD i (none, 0) = (none, 0) := by rw [List.getD_eq_getElem?_getD, List.getElem?_replicate]; split <;> rfl
    have e2 : (List.replicate M ([] : List α)).getD i [] = [] := by rw [List.getD_eq_getElem?_getD, List.getElem?_replicate]; split <;> rfl
    rw [e, e2]
    exact ⟨Row.nil _ _ _ _ _, fun q hq => absurd hq (At.nil q)⟩
  · have e : (List.replicate M ((none, 0) : Hd)).getD i (none, 0) = (none, 0) := by rw [List.getD_eq_getElem?_getD, List.getElem?_replicate]; split <;> rfl
    rw [e] at hq
    exact absurd hq (At.nil q)
/-- the headers' block as it stands, and how a row of one's own is laid into it -/
theorem Mat.raw (h : Mat d e1 e2 w base G g xss) {i : Int} (h0 : 0 ≤ i) (h1 : i < (xss.length : Int)) : ∃ hs : List Raw, BL cRaw w No g e2 xss.length hs ∧
    ∀ (w' : World) (A : Option Addr) (c : Nat) (ys : List α), Chg (· = g) w w' → BL cRaw w' No g e2 xss.length (hs.set i.toNat (A, ys.length, c)) → Row d e1 w' base No A c ys → (∀ q, At A q → ¬ G q) → Mat d e1 e2 w' base (FzA G A) g (xss.set i.toNat ys) := by
  obtain ⟨k1, k2, As, k3, k4, k5, k6⟩ := h
  have hi : i.toNat < xss.length := by omega
  refine ⟨List.zipWith (fun (p : Hd) (xs : List α) => ((p.1, xs.length, p.2) : Raw)) As xss, ⟨by simp [k3], fun h => h, _, enc_raw.2 rfl, by rw [← zip_raw]; exact k4⟩, ?_⟩
  intro w' A c ys hc hB hR hA
  obtain ⟨b1, _, cells, b3, b4⟩ := hB
  have gA : ∀ j, (As.set i.toNat (A, c)).getD j (none, 0) = if j = i.toNat then (A, c) else As.getD j (none, 0) := by
    intro j
    rw [List.getD_eq_getElem?_getD, List.getElem?_set]
    by_cases e : i.toNat = j
    · rw [if_pos e, if_pos (by omega), if_pos e.symm]; rfl
    · rw [if_neg e, if_neg (fun q => e q.symm), ← List.getD_eq_getElem?_getD]
  have gX : ∀ j, (xss.set i.toNat ys).getD j [] = if j = i.toNat then ys else xss.getD j [] := by
    intro j
    rw [List.getD_eq_getElem?_getD, List.getElem?_set]
    by_cases e : i.toNat = j
    · rw [if_pos e, if_pos hi, if_pos e.symm]; rfl
    · rw [if_neg e, if_neg (fun q => e q.symm), ← List.getD_eq_getElem?_getD]
  refine ⟨.inl k1, fun q hq => ?_, As.set i.toNat (A, c), by simp [k3], ?_, fun j hj => ?_, fun j k hj hk hn q hq => ?_⟩
  · rcases hq with hq | hq
    · exact ⟨(k2 q hq).1, Nat.lt_of_lt_of_le (k2 q hq).2 hc.size⟩
    · exact ⟨(hR.inv hq).1, (hR.inv hq).2.1⟩
  · rw [enc_raw.1 b3] at b4
    have : List.zipWith hdV (As.set i.toNat (A, c)) (xss.set i.toNat ys) = ((List.zipWith (fun (p : Hd) (xs : List α) => ((p.1, xs.length, p.2) : Raw)) As xss).set i.toNat (A, ys.length, c)).map fun p => Value.slice p.1 p.2.1 p.2.2 := by
      rw [zip_raw]
      congr 1
      apply List.ext_getElem?
      intro k
      rw [List.getElem?_zipWith, List.getElem?_set, List.getElem?_set, List.getElem?_set, List.getElem?_zipWith]
      by_cases e : i.toNat = k
      · subst e
        simp [hi, k3]
      · simp [e]
    rw [this]; exact b4
  · rw [List.length_set] at hj
    rw [gA, gX]
    by_cases e : j = i.toNat
    · rw [if_pos e, if_pos e]
      exact ⟨hR, fun q hq => ⟨.inr hq, fun eq => hA q hq (eq ▸ k1)⟩⟩
    · rw [if_neg e, if_neg e]
      refine ⟨(k5 j hj).1.keep hc (fun _ h => h.elim) (fun q eq => ((k5 j hj).2 q ⟨_, _, eq⟩).2), fun q hq => ⟨.inl ((k5 j hj).2 q hq).1, ((k5 j hj).2 q hq).2⟩⟩
  · rw [List.length_set] at hj hk
    rw [gA] at hq ⊢
    by_cases e1 : j = i.toNat
    · rw [if_pos e1] at hq
      rw [if_neg (by omega)]
      exact fun h2 => hA q hq ((k5 k hk).2 q h2).1
    · rw [if_neg e1] at hq
      by_cases e2 : k = i.toNat
      · rw [if_pos e2]
        exact fun h2 => hA q h2 ((k5 j hj).2 q hq).1
      · rw [if_neg e2]
        exact k6 j k hj hk hn q hq

theorem enc_zip {α : Type} {d : Cod α} {e1 : TypeId} {w : World} {base : Nat} {F : Nat → Prop} : ∀ (As : List Hd) (xss : List (List α)), As.length = xss.length →
    (∀ i, i < xss.length → Row d e1 w base No (As.getD i (none, 0)).1 (As.getD i (none, 0)).2 (xss.getD i []) ∧ ∀ q, At (As.getD i (none, 0)).1 q → F q) → Enc (cSl d) w F xss (List.zipWith hdV As xss)
  | [], [], _, _ => rfl
  | [], _ :: _, h, _ => by simp at h
  | _ :: _, [], h, _ => by simp at h
  | p :: As, xs :: xss, h, hr => by
    have h0 := hr 0 (by simp)
    have q0 : ((p :: As).getD 0 (none, 0)) = p := rfl
    have q1 : ((xs :: xss).getD 0 []) = xs := rfl
    rw [q0, q1] at h0
    refine ⟨[hdV p xs], List.zipWith hdV As xss, rfl, ⟨p.1, p.2, rfl, h0.1.cap, h0.1.C.mono fun b hb => ?_⟩, enc_zip (e1 := e1) (base := base) As xss (by simpa using h) fun i hi => ?_⟩
    · rcases hb with hb | hb
      · exact hb.elim
      · exact h0.2 b hb
    · have := hr (i + 1) (by simpa using hi)
      simpa using this
/-- read only -/
theorem Mat.C (h : Mat d e1 e2 w base G g xss) : V.C (cSl d) w G (some ⟨g, 0, none⟩) xss := by
  obtain ⟨k1, k2, As, k3, k4, k5, k6⟩ := h
  refine ⟨_, enc_zip As xss k3 fun i hi => ⟨(k5 i hi).1, fun q hq => ((k5 i hi).2 q hq).1⟩, fun _ => ⟨g, 0, rfl, k1⟩, fun b o e => ?_⟩
  cases e
  exact k4.cells
theorem Mat.now (h : Mat d e1 e2 w base G g xss) : V.C (cSl d) w (Lo w.heap.size) (some ⟨g, 0, none⟩) xss := h.C.mono fun q hq => h.lt q hq
theorem Mat.eq {yss : List (List α)} (h : Mat d e1 e2 w base G g xss) (he : xss = yss) : Mat d e1 e2 w base G g yss := he ▸ h
theorem Mat.from_ {b2 : Nat} (h : Mat d e1 e2 w base G g xss) (hb : b2 ≤ base) : Mat d e1 e2 w b2 G g xss := by
  obtain ⟨k1, k2, As, k3, k4, k5, k6⟩ := h
  exact ⟨k1, fun q hq => ⟨Nat.le_trans hb (k2 q hq).1, (k2 q hq).2⟩, As, k3, k4, fun i hi => ⟨(k5 i hi).1.from_ hb, (k5 i hi).2⟩, k6⟩
theorem Mat.own (h : Mat d e1 e2 w base G g xss) : Own base w G := h.2.1
theorem Mat.new (h : Mat d e1 e2 w base G g xss) {g2 : Nat} (hg : w.heap.size ≤ g2) : ¬ G g2 := fun hq => by have := h.lt g2 hq; omega
end

/-! ### a piece of a whole block -/
def cutOff (l m s : Nat) : Nat := if m = l then 0 else l * s
theorem cut_some (g l m s : Nat) : cutAddr l m s (some ⟨g, 0, none⟩) = some ⟨g, cutOff l m s, none⟩ := by
  unfold cutAddr cutOff
  by_cases h : m = l
  · rw [if_pos h, if_pos h]
  · rw [if_neg h, if_neg h]
    simp [add_none]
section
variable {P : Program} {T : List TRow} {a : Act} {n : Nat} {l l' : List (Nat × Value)} {ops : Array Oper} {Q : Exit → Act → World → Prop} {rest : List Oper} {o : Oper} {w : World} {t e : TypeId}
theorem e_cut {x lo hi : Operand} {g m c s : Nat} {kl kh : IntKind} {L H : Int} (N : Nat) (E : Fr a n l) (ho : o.op = .slice t x (some lo) (some hi) none) (hw : want ops l o = some true) (hT : TbOk P T) (ht : tdesc T t = some (.slice e)) (hs : tsz T e = some s)
    (hx : opv l x = some (.slice (some ⟨g, 0, none⟩) m c)) (hlo : opv l lo = some (.int kl L)) (hhi : opv l hi = some (.int kh H)) (hb : 0 ≤ H ∧ H ≤ c ∧ 0 ≤ L ∧ L ≤ H) (hN : (N : Int) = H - L)
    (hl : putE n l o.dst (.slice (some ⟨g, cutOff L.toNat c s, none⟩) N (c - L.toNat)) = some l') (k : ∀ a', Fr a' n l' → wpList P ops Q rest a' w) : wpList P ops Q (o :: rest) a w := by
  refine step_val E hw ?_ hl k
  have h1 := cutV_run (P := P) (w := w) (a := some ⟨g, 0, none⟩) (n := m) (c := c) (lo := some (.int kl L)) (hi := some (.int kh H)) hT ht hs rfl hb
  have hn : H.toNat - L.toNat = N := by omega
  rw [cut_some, hn] at h1
  simp only [execOp, ho, E.eval hx, Option.map_some, E.eval hlo, E.eval hhi, Option.map_none, Sem.run_bind, h1, Result.andThen_ok, Sem.run_pure]
end
section
variable {α : Type} {d : Cod α} {e : TypeId} {w : World} {F : Nat → Prop} {g M : Nat} {xs : List α}
theorem BL.cut (h : BL d w F g e M xs) {l N : Nat} (hN : l + N ≤ M) : ∃ cells, Enc d w F ((xs.drop l).take N) cells ∧ cellsAt w g (cutOff l M d.sz) cells := by
  obtain ⟨h1, h2, cells, h3, h4⟩ := h
  refine ⟨_, (h3.drop l).take N, cellsAt.of_get fun j u hj => ?_⟩
  rw [List.getElem?_take] at hj
  split at hj
  · rename_i hlt
    have hne : ¬ M = l := by
      intro e
      have : N = 0 := by omega
      subst this
      simp at hlt
    unfold cutOff
    rw [if_neg hne]
    rw [List.getElem?_drop] at hj
    exact h4.cell hj
  · cases hj
end
end Go.V
