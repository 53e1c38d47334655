/- Plain theory: letters that fit, traces that may be. No program. -/
import Derived.Test.YtldcmipgdacecaaPM
set_option linter.all false
set_option linter.unusedVariables false
set_option maxRecDepth 100000
namespace Go.V
open Go
section
variable {N : Nat} {p : Int}
/-! ### letters -/
theorem Fits_ok (hp : 0 ≤ p ∧ p ≤ 8) {l : Nat} (h : l < two p) : letter_Fits N p (l : Int) = some true := by
  have sh := shl_two hp
  unfold letter_Fits letter_number
  rw [if_pos hp.1]
  simp only [Option.bind_some]
  rw [if_pos (decide_eq_true hp.2)]
  unfold ask
  rw [if_pos (by unfold in64; omega), if_pos hp.1]
  have h2 : shrV .i64 (l : Int) p = 0 := by
    unfold shrV
    have hb : min p.toNat IntKind.i64.bits = p.toNat := Nat.min_eq_left (by show p.toNat ≤ 64; omega)
    rw [hb]
    have : ((2 : Int) ^ p.toNat) = (two p : Int) := by unfold two; simp
    rw [this]
    exact Int.fdiv_eq_zero_of_lt (by omega) (by omega)
  rw [h2]
  rfl
theorem Trace_l0_ok (hp : 0 ≤ p ∧ p ≤ 8) {t : List Nat} (h : ∀ l ∈ t, l < two p) (ht : t.length ≤ 2000) : ∀ (m : Nat) (x : Int), 0 ≤ x → x ≤ t.length → (t.length : Int) - x < m → letter_Trace_l0 N p (t.map fun l : Nat => (l : Int)) m x = some (.inl ())
  | 0, x, _, _, h => by omega
  | m + 1, x, k0, k1, k2 => by
    unfold letter_Trace_l0
    rw [List.length_map]
    by_cases hx : x < (t.length : Int)
    · obtain ⟨a, rfl⟩ := Int.eq_ofNat_of_zero_le k0
      have ha : a < t.length := by omega
      have e : (t.map fun l : Nat => (l : Int)).getD (a : Int).toNat 0 = ((t.getD a 0 : Nat) : Int) := by
        rw [Int.toNat_natCast, List.getD_eq_getElem?_getD, List.getD_eq_getElem?_getD, List.getElem?_map, List.getElem?_eq_getElem ha]
        rfl
      have hm : t.getD a 0 < two p := h _ (by rw [List.getD_eq_getElem?_getD, List.getElem?_eq_getElem ha]; exact List.getElem_mem ha)
      rw [if_pos hx, e, Fits_ok hp hm]
      unfold ask
      have ih := Trace_l0_ok hp h ht m ((a : Int) + 1) (by omega) (by omega) (by omega)
      rw [if_pos (by unfold idx; omega), Option.bind_some, if_pos rfl, if_pos (by unfold in64; omega), ih]
    · rw [if_neg hx]
theorem Trace_ok (hN : 5000 ≤ N) (hp : 0 ≤ p ∧ p ≤ 8) {t : List Nat} (h : ∀ l ∈ t, l < two p) (ht : t.length ≤ 1024) : letter_Trace N p (t.map fun l : Nat => (l : Int)) = some 0 := by
  unfold letter_Trace letter_number
  rw [if_pos hp.1]
  simp only [Option.bind_some]
  rw [if_pos (decide_eq_true hp.2), if_neg (by rw [List.length_map]; omega), Trace_l0_ok hp h (by omega) N 0 (by omega) (by omega) (by omega)]
  rfl
theorem Fits_inv (hp : 0 ≤ p ∧ p ≤ 8) {x : Int} (hx : 0 ≤ x ∧ x ≤ 255) : Ok (letter_Fits N p x) fun b => b = true → x < two p := by
  have sh := shl_two hp
  unfold letter_Fits letter_number
  rw [if_pos hp.1]
  simp only [Option.bind_some]
  rw [if_pos (decide_eq_true hp.2)]
  refine Ok.ask (by unfold in64; omega) (Ok.ask hp.1 (Ok.pure fun h => ?_))
  have h2 : shrV .i64 x p = 0 := by simpa using h
  unfold shrV at h2
  have hb : min p.toNat IntKind.i64.bits = p.toNat := Nat.min_eq_left (by show p.toNat ≤ 64; omega)
  rw [hb, show ((2 : Int) ^ p.toNat) = (two p : Int) by unfold two; simp, Int.fdiv_eq_ediv_of_nonneg _ (by omega)] at h2
  have h3 := Int.emod_lt_of_pos x (show (0 : Int) < (two p : Int) by omega)
  have h4 := Int.emod_add_mul_ediv x (two p : Int)
  rw [h2] at h4
  omega
theorem Trace_l0_inv (hp : 0 ≤ p ∧ p ≤ 8) {t : List Int} (ht : ∀ x ∈ t, 0 ≤ x ∧ x ≤ 255) (hl : t.length ≤ 100000) : ∀ (m : Nat) (i : Nat), i ≤ t.length → t.length - i < m → (∀ j, j < i → t.getD j 0 < two p) →
    Ok (letter_Trace_l0 N p t m (i : Int)) fun r => (r = .inl () ∧ ∀ j, j < t.length → t.getD j 0 < two p) ∨ r = .inr 2
  | 0, i, _, h, _ => by omega
  | m + 1, i, k1, k2, k3 => by
    unfold letter_Trace_l0
    refine Ok.ite (fun hx => ?_) fun hx => Ok.pure (.inl ⟨rfl, fun j hj => k3 j (by omega)⟩)
    rw [Int.toNat_natCast]
    refine Ok.ask (by unfold idx; omega) ?_
    have hm := ht _ (getD_mem (d := 0) (i := (i : Int)) (by omega) hx)
    rw [Int.toNat_natCast] at hm
    refine (Fits_inv hp hm).bind fun b hb => ?_
    refine Ok.ite (fun hbt => Ok.ask (by unfold in64; omega) ?_) fun _ => Ok.pure (.inr rfl)
    rw [show ((i : Int) + 1) = ((i + 1 : Nat) : Int) by omega]
    refine Trace_l0_inv hp ht hl m (i + 1) (by omega) (by omega) fun j hj => ?_
    by_cases c : j = i
    · rw [c]; exact hb hbt
    · exact k3 j (by omega)
theorem Trace_inv (hN : 5000 ≤ N) (hp : 0 ≤ p ∧ p ≤ 8) {t : List Int} (ht : ∀ x ∈ t, 0 ≤ x ∧ x ≤ 255) : Ok (letter_Trace N p t) fun e => e = 0 → ∃ u : List Nat, t = u.map (fun l : Nat => (l : Int)) ∧ ∀ l ∈ u, l < two p := by
  unfold letter_Trace letter_number
  rw [if_pos hp.1]
  simp only [Option.bind_some]
  rw [if_pos (decide_eq_true hp.2)]
  refine Ok.ite (fun _ => Ok.pure fun h => by cases h) fun hl => ?_
  obtain ⟨r, e, hr⟩ := Trace_l0_inv (N := N) hp ht (by omega) N 0 (by omega) (by omega) fun j h => by omega
  have e' : letter_Trace_l0 N p t N 0 = some r := e
  rw [e']
  simp only [Option.bind_some]
  rcases hr with ⟨rfl, h⟩ | rfl
  · refine Ok.pure fun _ => ⟨t.map Int.toNat, ?_, fun l hl2 => ?_⟩
    · rw [List.map_map]
      have : ∀ x ∈ t, ((fun l : Nat => (l : Int)) ∘ Int.toNat) x = x := fun x hx => by
        have := ht x hx
        show ((x.toNat : Nat) : Int) = x
        omega
      rw [List.map_congr_left this, List.map_id']
    · obtain ⟨x, hx2, rfl⟩ := List.mem_map.1 hl2
      obtain ⟨j, hj, rfl⟩ := List.mem_iff_getElem.1 hx2
      have := h j hj
      rw [List.getD_eq_getElem?_getD, List.getElem?_eq_getElem hj, Option.getD_some] at this
      have := ht _ hx2
      omega
  · exact Ok.pure fun h => by cases h
end
end Go.V
