/- Plain theory: automata whose states stand in the order of their first use. No program. -/
import Derived.Test.YtihindpnnbllkaaPX
set_option linter.all false
set_option linter.unusedVariables false
set_option maxRecDepth 100000
namespace Go.V
open Go

def runR (R : Nat → Nat → Nat) (q : Nat) (t : List Nat) : Nat := t.foldl R q
theorem runR_cons (R : Nat → Nat → Nat) (q l : Nat) (t : List Nat) : runR R q (l :: t) = runR R (R q l) t := rfl
/-- states in the order of their first use -/
structure Can (K L : Nat) (R : Nat → Nat → Nat) : Prop where
  lt : ∀ i l, i < K → l < L → R i l < K
  rg : ∀ i l v, i < K → l < L → v < R i l → v = 0 ∨ ∃ i' l', (i' < i ∨ i' = i ∧ l' < l) ∧ l' < L ∧ R i' l' = v
  ac : ∀ i, 0 < i → i < K → ∃ i' l', i' < i ∧ l' < L ∧ R i' l' = i
theorem Can.congr {K L : Nat} {R R' : Nat → Nat → Nat} (C : Can K L R) (h : ∀ i l, i < K → l < L → R' i l = R i l) : Can K L R' := by
  refine ⟨fun i l hi hl => by rw [h i l hi hl]; exact C.lt i l hi hl, fun i l v hi hl hv => ?_, fun i h0 hi => ?_⟩
  · rw [h i l hi hl] at hv
    rcases C.rg i l v hi hl hv with e | ⟨i', l', h1, h2, h3⟩
    · exact .inl e
    · exact .inr ⟨i', l', h1, h2, by rw [h i' l' (by omega) h2]; exact h3⟩
  · obtain ⟨i', l', h1, h2, h3⟩ := C.ac i h0 hi
    exact ⟨i', l', h1, h2, by rw [h i' l' (by omega) h2]; exact h3⟩
/-- two states accept the same -/
def Eqv (L : Nat) (R : Nat → Nat → Nat) (A : Nat → Bool) (i : Nat) (R' : Nat → Nat → Nat) (A' : Nat → Bool) (j : Nat) : Prop := ∀ t : List Nat, (∀ l ∈ t, l < L) → A (runR R i t) = A' (runR R' j t)
def Dis (K L : Nat) (R : Nat → Nat → Nat) (A : Nat → Bool) : Prop := ∀ i j, i < K → j < K → Eqv L R A i R A j → i = j
section
variable {K K' L : Nat} {R R' R2 : Nat → Nat → Nat} {A A' A2 : Nat → Bool}
theorem Eqv.step {i j l : Nat} (h : Eqv L R A i R' A' j) (hl : l < L) : Eqv L R A (R i l) R' A' (R' j l) := fun t ht => h (l :: t) fun x hx => by
  rcases List.mem_cons.1 hx with e | e
  · omega
  · exact ht x e
theorem Eqv.symm {i j : Nat} (h : Eqv L R A i R' A' j) : Eqv L R' A' j R A i := fun t ht => (h t ht).symm
theorem Eqv.trans {i j k : Nat} (h : Eqv L R A i R' A' j) (h2 : Eqv L R' A' j R2 A2 k) : Eqv L R A i R2 A2 k := fun t ht => (h t ht).trans (h2 t ht)
theorem can_step (C : Can K L R) (C' : Can K' L R') (D : Dis K L R A) (D' : Dis K' L R' A') (h : Eqv L R A 0 R' A' 0) : ∀ i, i < K → i < K' → Eqv L R A i R' A' i ∧ ∀ l, l < L → R i l = R' i l := by
  intro i
  induction i using Nat.strongRecOn with
  | _ i ih =>
    intro hi hi'
    have hs : Eqv L R A i R' A' i := by
      by_cases c : i = 0
      · subst c; exact h
      · obtain ⟨i', l', h1, h2, h3⟩ := C.ac i (by omega) hi
        obtain ⟨e1, e2⟩ := ih i' h1 (by omega) (by omega)
        have := e1.step h2
        rw [← e2 l' h2, h3] at this
        exact this
    refine ⟨hs, fun l => ?_⟩
    induction l using Nat.strongRecOn with
    | _ l ihl =>
      intro hl
      have hx := hs.step hl
      have seen : ∀ i' l', (i' < i ∨ i' = i ∧ l' < l) → l' < L → R i' l' = R' i' l' ∧ Eqv L R A (R i' l') R' A' (R i' l') := fun i' l' hp hl' => by
        rcases hp with hp | ⟨rfl, hp⟩
        · obtain ⟨e1, e2⟩ := ih i' hp (by omega) (by omega)
          have := e1.step hl'
          rw [← e2 l' hl'] at this
          exact ⟨e2 l' hl', this⟩
        · have e2 := ihl l' hp hl'
          have := hs.step hl'
          rw [← e2] at this
          exact ⟨e2, this⟩
      have a1 := C.lt i l hi hl
      have a2 := C'.lt i l hi' hl
      rcases Nat.lt_trichotomy (R i l) (R' i l) with c | c | c
      · exfalso
        have hv : Eqv L R A (R i l) R' A' (R i l) := by
          rcases C'.rg i l _ hi' hl c with e | ⟨i', l', h1, h2, h3⟩
          · rw [e]; exact h
          · obtain ⟨g1, g2⟩ := seen i' l' h1 h2
            rw [g1, h3] at g2
            exact g2
        have := D' _ _ (by omega) a2 (hv.symm.trans hx)
        omega
      · exact c
      · exfalso
        have hv : Eqv L R A (R' i l) R' A' (R' i l) := by
          rcases C.rg i l _ hi hl c with e | ⟨i', l', h1, h2, h3⟩
          · rw [e]; exact h
          · obtain ⟨g1, g2⟩ := seen i' l' h1 h2
            rw [h3] at g2
            exact g2
        have := D _ _ (by omega) a1 (hv.trans hx.symm)
        omega
theorem can_eq (hK : 0 < K) (hK' : 0 < K') (C : Can K L R) (C' : Can K' L R') (D : Dis K L R A) (D' : Dis K' L R' A') (h : Eqv L R A 0 R' A' 0) : K = K' ∧ ∀ i, i < K → Eqv L R A i R' A' i ∧ ∀ l, l < L → R i l = R' i l := by
  have key := can_step C C' D D' h
  have e : K = K' := by
    rcases Nat.lt_trichotomy K K' with c | c | c
    · exfalso
      obtain ⟨i', l', h1, h2, h3⟩ := C'.ac K hK c
      have := (key i' h1 (by omega)).2 l' h2
      have := C.lt i' l' h1 h2
      omega
    · exact c
    · exfalso
      obtain ⟨i', l', h1, h2, h3⟩ := C.ac K' hK' c
      have := (key i' (by omega) h1).2 l' h2
      have := C'.lt i' l' h1 h2
      omega
  exact ⟨e, fun i hi => key i hi (by omega)⟩
/-- classes of states, each by its first one -/
theorem Can.quot {n : Nat} {h j : Nat → Nat} (C : Can n L R) (hj : ∀ k, k < K → j k < n ∧ h (j k) = k ∧ ∀ x, x < j k → h x < k) (hlt : ∀ x, x < n → h x < K) (hc : ∀ x y l, x < n → y < n → l < L → h x = h y → h (R x l) = h (R y l)) :
    Can K L fun k l => h (R (j k) l) := by
  have one : ∀ i' l' v, i' < n → l' < L → h (R i' l') = v → h (R (j (h i')) l') = v := fun i' l' v h1 h2 h3 => by
    obtain ⟨g1, g2, g3⟩ := hj (h i') (hlt i' h1)
    rw [hc (j (h i')) i' l' g1 h1 h2 g2, h3]
  have zero : 0 < K → j 0 = 0 := fun hK => by
    obtain ⟨g1, g2, g3⟩ := hj 0 hK
    refine Classical.byContradiction fun c => ?_
    have := g3 0 (by omega)
    omega
  refine ⟨fun k l hk hl => hlt _ (C.lt _ _ (hj k hk).1 hl), fun k l v hk hl hv => ?_, fun k h0 hk => ?_⟩
  · have hv : v < h (R (j k) l) := hv
    obtain ⟨g1, g2, g3⟩ := hj k hk
    have b := C.lt _ _ g1 hl
    have bK := hlt _ b
    obtain ⟨v1, v2, v3⟩ := hj v (by omega)
    have lt : j v < R (j k) l := by
      refine Classical.byContradiction fun c => ?_
      by_cases e : R (j k) l = j v
      · rw [e, v2] at hv; omega
      · have := v3 (R (j k) l) (by omega); omega
    rcases C.rg (j k) l (j v) g1 hl lt with e | ⟨i', l', h1, h2, h3⟩
    · left
      have := zero (by omega)
      have g0 := (hj 0 (by omega)).2.1
      rw [this] at g0
      rw [e, g0] at v2
      exact v2.symm
    · right
      refine ⟨h i', l', ?_, h2, one i' l' v (by omega) h2 (by rw [h3, v2])⟩
      rcases h1 with h1 | ⟨h1, h4⟩
      · exact .inl (g3 i' h1)
      · exact .inr ⟨by rw [h1]; exact g2, h4⟩
  · obtain ⟨g1, g2, g3⟩ := hj k hk
    have hp : 0 < j k := by
      refine Nat.pos_of_ne_zero fun e => ?_
      have g0 := (hj 0 (by omega)).2.1
      rw [zero (by omega)] at g0
      rw [e, g0] at g2
      omega
    obtain ⟨i', l', h1, h2, h3⟩ := C.ac (j k) hp g1
    exact ⟨h i', l', g3 i' h1, h2, one i' l' k (by omega) h2 (by rw [h3, g2])⟩
end
end Go.V
