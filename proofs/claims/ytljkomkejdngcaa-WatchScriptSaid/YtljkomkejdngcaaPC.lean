/- Plain theory: lists and counting. No program. -/
import Derived.Test.YtljkomkejdngcaaPT
set_option linter.all false
set_option linter.unusedVariables false
set_option maxRecDepth 100000
namespace Go.V
open Go

theorem getD_set {α : Type} {xs : List α} {i j : Nat} {v d : α} (h : i < xs.length) : (xs.set i v).getD j d = if i = j then v else xs.getD j d := by
  rw [List.getD_eq_getElem?_getD, List.getElem?_set, List.getD_eq_getElem?_getD]
  by_cases e : i = j
  · subst e; simp [h]
  · simp [e]
theorem getD_rep {α : Type} {n j : Nat} {z : α} : (List.replicate n z).getD j z = z := by
  rw [List.getD_eq_getElem?_getD, List.getElem?_replicate]
  by_cases h : j < n <;> simp [h]
def cnt : List Int → Nat
  | [] => 0
  | x :: xs => (if 0 ≤ x then 1 else 0) + cnt xs
theorem cnt_le : ∀ (xs : List Int), cnt xs ≤ xs.length
  | [] => Nat.le_refl _
  | x :: xs => by have := cnt_le xs; unfold cnt; simp only [List.length_cons]; split <;> omega
theorem cnt_mono : ∀ (xs ys : List Int), xs.length = ys.length → (∀ i : Nat, i < xs.length → 0 ≤ xs.getD i 0 → 0 ≤ ys.getD i 0) → cnt xs ≤ cnt ys
  | [], [], _, _ => Nat.le_refl _
  | [], y :: ys, h, _ => by simp at h
  | x :: xs, [], h, _ => by simp at h
  | x :: xs, y :: ys, h, hi => by
    have h1 := cnt_mono xs ys (by simpa using h) fun i h1 h2 => by have := hi (i + 1) (by simpa using h1); simpa using this (by simpa using h2)
    have h2 := hi 0 (by simp)
    simp at h2
    unfold cnt
    split <;> split <;> omega
theorem cnt_lt : ∀ (xs ys : List Int), xs.length = ys.length → (∀ i : Nat, i < xs.length → 0 ≤ xs.getD i 0 → 0 ≤ ys.getD i 0) → (j : Nat) → j < xs.length → xs.getD j 0 < 0 → 0 ≤ ys.getD j 0 → cnt xs + 1 ≤ cnt ys
  | [], ys, _, _, j, h, _, _ => by simp at h
  | x :: xs, [], h, _, _, _, _, _ => by simp at h
  | x :: xs, y :: ys, h, hi, 0, _, h3, h4 => by
    have h1 := cnt_mono xs ys (by simpa using h) fun i h1 h2 => by have := hi (i + 1) (by simpa using h1); simpa using this (by simpa using h2)
    simp at h3 h4
    unfold cnt
    rw [if_neg (by omega), if_pos h4]
    omega
  | x :: xs, y :: ys, h, hi, j + 1, hj, h3, h4 => by
    have h1 := cnt_lt xs ys (by simpa using h) (fun i h1 h2 => by have := hi (i + 1) (by simpa using h1); simpa using this (by simpa using h2)) j (by simpa using hj) (by simpa using h3) (by simpa using h4)
    have h2 := hi 0 (by simp)
    simp at h2
    unfold cnt
    split <;> split <;> omega

theorem getD_snoc {α : Type} {xs : List α} {v d : α} {j : Nat} : (xs ++ [v]).getD j d = if j = xs.length then v else xs.getD j d := by
  rw [List.getD_eq_getElem?_getD, List.getD_eq_getElem?_getD]
  by_cases h : j = xs.length
  · subst h; simp
  · rw [if_neg h]
    by_cases h2 : j < xs.length
    · rw [List.getElem?_append_left h2]
    · rw [List.getElem?_append_right (by omega), List.getElem?_eq_none (by simp; omega), List.getElem?_eq_none (by omega)]

end Go.V

/- Plain theory: tables of an automaton, traces. No program. -/
set_option linter.all false
set_option linter.unusedVariables false
set_option maxRecDepth 100000
namespace Go.V
open Go

/-- how many letters there are -/
def two (p : Int) : Nat := 2 ^ p.toNat
theorem shl_two {p : Int} (h : 0 ≤ p ∧ p ≤ 8) : shlV .i64 1 p = (two p : Int) ∧ 1 ≤ two p ∧ two p ≤ 256 := by
  obtain ⟨c, rfl⟩ := Int.eq_ofNat_of_zero_le h.1
  have hc : c ≤ 8 := by omega
  match c, hc with
  | 0, _ => decide
  | 1, _ => decide
  | 2, _ => decide
  | 3, _ => decide
  | 4, _ => decide
  | 5, _ => decide
  | 6, _ => decide
  | 7, _ => decide
  | 8, _ => decide
/-- where a letter leads -/
def stp (nd : List Nd) (gd : List Int) (q l : Nat) : Nat := (go nd (gd.getD q 0) (l : Int)).toNat
/-- rows of where letters lead -/
structure Tab (nd : List Nd) (gd : List Int) (n L : Nat) (wh : List (List Int)) : Prop where
  len : wh.length = n
  row : ∀ q, q < n → (wh.getD q []).length = L
  at_ : ∀ q l, q < n → l < L → (wh.getD q []).getD l 0 = (stp nd gd q l : Int)
section
variable {N : Nat} {p : Int} {acc : List Bool} {gd : List Int} {nd : List Nd}
theorem stp_eq (V : Valid p acc gd nd) {q : Nat} (hq : q < acc.length) (l : Nat) : go nd (gd.getD q 0) (l : Int) = (stp nd gd q l : Int) ∧ stp nd gd q l < acc.length := by
  have h := (guard_Go_ok (N := 5000) (Nat.le_refl _) V (l : Int) (q := (q : Int)) (by omega) (by omega)).2
  rw [Int.toNat_natCast] at h
  unfold stp
  omega
theorem stp_go (hN : 5000 ≤ N) (V : Valid p acc gd nd) {q : Nat} (hq : q < acc.length) (l : Nat) : guard_Go N nd (gd.getD q 0) (l : Int) = some ((stp nd gd q l : Int), true) := by
  have h := (guard_Go_ok (N := N) hN V (l : Int) (q := (q : Int)) (by omega) (by omega)).1
  rw [Int.toNat_natCast] at h
  rw [h, (stp_eq V hq l).1]
theorem Table_l0_ok (hN : 5000 ≤ N) (V : Valid p acc gd nd) {q : Nat} (hq : q < acc.length) : ∀ (m : Nat) (out : List Int) (x : Int), 0 ≤ x → x ≤ two p → (two p : Int) - x < m → (out.length : Int) = x → (∀ l : Nat, (l : Int) < x → out.getD l 0 = (stp nd gd q l : Int)) →
    Ok (guard_Table_l0 N p nd (gd.getD q 0) m out x) fun r => ∃ row, r = .inl row ∧ row.length = two p ∧ ∀ l, l < two p → row.getD l 0 = (stp nd gd q l : Int)
  | 0, out, x, _, _, h, _, _ => by omega
  | m + 1, out, x, k0, k1, k2, k3, k4 => by
    have sh := shl_two ⟨V.p0, V.p8⟩
    unfold guard_Table_l0
    rw [sh.1]
    refine Ok.ite (fun hx => ?_) fun hx => Ok.pure ⟨out, rfl, by omega, fun l hl => k4 l (by omega)⟩
    obtain ⟨a, rfl⟩ := Int.eq_ofNat_of_zero_le k0
    rw [show IntKind.u8.wrap (a : Int) = (a : Int) from wrap_u8 (by omega) (by omega), stp_go hN V hq a]
    simp only [Option.bind_some, if_true]
    refine Ok.ask (by simp; omega) (Ok.ask (by unfold in64; omega) ?_)
    refine Table_l0_ok hN V hq m _ ((a : Int) + 1) (by omega) (by omega) (by omega) (by simp; omega) fun l hl => ?_
    rw [getD_snoc]
    by_cases c : l = out.length
    · rw [if_pos c]
      congr 2; omega
    · rw [if_neg c]
      exact k4 l (by omega)
theorem Table_ok (hN : 5000 ≤ N) (V : Valid p acc gd nd) {q : Nat} (hq : q < acc.length) :
    Ok (guard_Table N p nd (gd.getD q 0)) fun r => r.2 = 0 ∧ r.1.length = two p ∧ ∀ l, l < two p → r.1.getD l 0 = (stp nd gd q l : Int) := by
  have p0 := V.p0
  have p8 := V.p8
  have sh := shl_two ⟨V.p0, V.p8⟩
  unfold guard_Table
  rw [if_neg (by omega), if_neg (by omega)]
  refine Ok.ask p0 ?_
  refine (Table_l0_ok hN V hq N [] 0 (by omega) (by omega) (by omega) rfl fun l h => by omega).bind fun r ⟨row, e, h1, h2⟩ => ?_
  subst e
  exact Ok.pure ⟨rfl, h1, h2⟩

/-! ### traces -/
def runT (nd : List Nd) (gd : List Int) (q : Nat) (t : List Nat) : Nat := t.foldl (fun q l => stp nd gd q l) q
theorem runT_snoc (nd : List Nd) (gd : List Int) (q : Nat) (t : List Nat) (l : Nat) : runT nd gd q (t ++ [l]) = stp nd gd (runT nd gd q t) l := by
  unfold runT; rw [List.foldl_append]; rfl
theorem runT_lt (V : Valid p acc gd nd) : ∀ (t : List Nat) (q : Nat), q < acc.length → runT nd gd q t < acc.length
  | [], _, h => h
  | l :: t, q, h => runT_lt V t (stp nd gd q l) (stp_eq V h l).2
end
end Go.V

/- Plain theory: maps. No program. -/
set_option linter.all false
set_option linter.unusedVariables false
set_option maxRecDepth 100000
namespace Go.V
open Go

/-! ### maps -/
section
variable {κ ν : Type} [DecidableEq κ]
theorem mget_app {k k' : κ} {v : ν} : ∀ {m : List (κ × ν)}, mget (m ++ [(k, v)]) k' = match mget m k' with | some u => some u | none => if k = k' then some v else none
  | [] => by simp [mget]
  | (a, b) :: r => by
    show mget ((a, b) :: (r ++ [(k, v)])) k' = _
    unfold mget
    by_cases e : a = k'
    · rw [if_pos e, if_pos e]
    · rw [if_neg e, if_neg e]; exact mget_app
end

end Go.V
