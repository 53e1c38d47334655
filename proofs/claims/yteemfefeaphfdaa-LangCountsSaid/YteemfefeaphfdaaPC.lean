/- Plain theory: lists and counting. No program. -/
import Derived.Test.YteemfefeaphfdaaPT
set_option linter.all false
set_option linter.unusedVariables false
set_option maxRecDepth 100000
namespace Go.V
open Go

theorem getD_set {α : Type} {xs : List α} {i j : Nat} {v d : α} (h : i < xs.length) : (xs.set i v).getD j d = if i = j then v else xs.getD j d := by
  rw [List.getD_eq_getElem?_getD, List.getElem?_set, List.getD_eq_getElem?_getD]
  by_cases e : i = j
  · subst e; simp [h]
  · simp [e]
theorem getD_rep {α : Type} {n j : Nat} {z : α} : (List.replicate n z).getD j z = z := by
  rw [List.getD_eq_getElem?_getD, List.getElem?_replicate]
  by_cases h : j < n <;> simp [h]
def cnt : List Int → Nat
  | [] => 0
  | x :: xs => (if 0 ≤ x then 1 else 0) + cnt xs
theorem cnt_le : ∀ (xs : List Int), cnt xs ≤ xs.length
  | [] => Nat.le_refl _
  | x :: xs => by have := cnt_le xs; unfold cnt; simp only [List.length_cons]; split <;> omega
theorem cnt_mono : ∀ (xs ys : List Int), xs.length = ys.length → (∀ i : Nat, i < xs.length → 0 ≤ xs.getD i 0 → 0 ≤ ys.getD i 0) → cnt xs ≤ cnt ys
  | [], [], _, _ => Nat.le_refl _
  | [], y :: ys, h, _ => by simp at h
  | x :: xs, [], h, _ => by simp at h
  | x :: xs, y :: ys, h, hi => by
    have h1 := cnt_mono xs ys (by simpa using h) fun i h1 h2 => by have := hi (i + 1) (by simpa using h1); simpa using this (by simpa using h2)
    have h2 := hi 0 (by simp)
    simp at h2
    unfold cnt
    split <;> split <;> omega
theorem cnt_lt : ∀ (xs ys : List Int), xs.length = ys.length → (∀ i : Nat, i < xs.length → 0 ≤ xs.getD i 0 → 0 ≤ ys.getD i 0) → (j : Nat) → j < xs.length → xs.getD j 0 < 0 → 0 ≤ ys.getD j 0 → cnt xs + 1 ≤ cnt ys
  | [], ys, _, _, j, h, _, _ => by simp at h
  | x :: xs, [], h, _, _, _, _, _ => by simp at h
  | x :: xs, y :: ys, h, hi, 0, _, h3, h4 => by
    have h1 := cnt_mono xs ys (by simpa using h) fun i h1 h2 => by have := hi (i + 1) (by simpa using h1); simpa using this (by simpa using h2)
    simp at h3 h4
    unfold cnt
    rw [if_neg (by omega), if_pos h4]
    omega
  | x :: xs, y :: ys, h, hi, j + 1, hj, h3, h4 => by
    have h1 := cnt_lt xs ys (by simpa using h) (fun i h1 h2 => by have := hi (i + 1) (by simpa using h1); simpa using this (by simpa using h2)) j (by simpa using hj) (by simpa using h3) (by simpa using h4)
    have h2 := hi 0 (by simp)
    simp at h2
    unfold cnt
    split <;> split <;> omega

theorem getD_snoc {α : Type} {xs : List α} {v d : α} {j : Nat} : (xs ++ [v]).getD j d = if j = xs.length then v else xs.getD j d := by
  rw [List.getD_eq_getElem?_getD, List.getD_eq_getElem?_getD]
  by_cases h : j = xs.length
  · subst h; simp
  · rw [if_neg h]
    by_cases h2 : j < xs.length
    · rw [List.getElem?_append_left h2]
    · rw [List.getElem?_append_right (by omega), List.getElem?_eq_none (by simp; omega), List.getElem?_eq_none (by omega)]

end Go.V

/- Plain theory: tables of an automaton, traces. No program. -/
set_option linter.all false
set_option linter.unusedVariables false
set_option maxRecDepth 100000
namespace Go.V
open Go

/-- how many letters there are -/
def two (p : Int) : Nat := 2 ^ p.toNat
theorem shl_two {p : Int} (h : 0 ≤ p ∧ p ≤ 8) : shlV .i64 1 p = (two p : Int) ∧ 1 ≤ two p ∧ two p ≤ 256 := by
  obtain ⟨c, rfl⟩ := Int.eq_ofNat_of_zero_le h.1
  have hc : c ≤ 8 := by omega
  match c, hc with
  | 0, _ => decide
  | 1, _ => decide
  | 2, _ => decide
  | 3, _ => decide
  | 4, _ => decide
  | 5, _ => decide
  | 6, _ => decide
  | 7, _ => decide
  | 8, _ => decide
/-- where a letter leads -/
def stp (nd : List Nd) (gd : List Int) (q l : Nat) : Nat := (go nd (gd.getD q 0) (l : Int)).toNat
/-- rows of where letters lead -/
structure Tab (nd : List Nd) (gd : List Int) (n L : Nat) (wh : List (List Int)) : Prop where
  len : wh.length = n
  row : ∀ q, q < n → (wh.getD q []).length = L
  at_ : ∀ q l, q < n → l < L → (wh.getD q []).getD l 0 = (stp nd gd q l : Int)
section
variable {N : Nat} {p : Int} {acc : List Bool} {gd : List Int} {nd : List Nd}
theorem stp_eq (V : Valid p acc gd nd) {q : Nat} (hq : q < acc.length) (l : Nat) : go nd (gd.getD q 0) (l : Int) = (stp nd gd q l : Int) ∧ stp nd gd q l < acc.length := by
  have h := (guard_Go_ok (N := 5000) (Nat.le_refl _) V (l : Int) (q := (q : Int)) (by omega) (by omega)).2
  rw [Int.toNat_natCast] at h
  unfold stp
  omega
theorem stp_go (hN : 5000 ≤ N) (V : Valid p acc gd nd) {q : Nat} (hq : q < acc.length) (l : Nat) : guard_Go N nd (gd.getD q 0) (l : Int) = some ((stp nd gd q l : Int), true) := by
  have h := (guard_Go_ok (N := N) hN V (l : Int) (q := (q : Int)) (by omega) (by omega)).1
  rw [Int.toNat_natCast] at h
  rw [h, (stp_eq V hq l).1]
theorem Table_l0_ok (hN : 5000 ≤ N) (V : Valid p acc gd nd) {q : Nat} (hq : q < acc.length) : ∀ (m : Nat) (out : List Int) (x : Int), 0 ≤ x → x ≤ two p → (two p : Int) - x < m → (out.length : Int) = x → (∀ l : Nat, (l : Int) < x → out.getD l 0 = (stp nd gd q l : Int)) →
    Ok (guard_Table_l0 N p nd (gd.getD q 0) m out x) fun r => ∃ row, r = .inl row ∧ row.length = two p ∧ ∀ l, l < two p → row.getD l 0 = (stp nd gd q l : Int)
  | 0, out, x, _, _, h, _, _ => by omega
  | m + 1, out, x, k0, k1, k2, k3, k4 => by
    have sh := shl_two ⟨V.p0, V.p8⟩
    unfold guard_Table_l0
    rw [sh.1]
    refine Ok.ite (fun hx => ?_) fun hx => Ok.pure ⟨out, rfl, by omega, fun l hl => k4 l (by omega)⟩
    obtain ⟨a, rfl⟩ := Int.eq_ofNat_of_zero_le k0
    rw [show IntKind.u8.wrap (a : Int) = (a : Int) from wrap_u8 (by omega) (by omega), stp_go hN V hq a]
    simp only [Option.bind_some, if_true]
    refine Ok.ask (by simp; omega) (Ok.ask (by unfold in64; omega) ?_)
    refine Table_l0_ok hN V hq m _ ((a : Int) + 1) (by omega) (by omega) (by omega) (by simp; omega) fun l hl => ?_
    rw [getD_snoc]
    by_cases c : l = out.length
    · rw [if_pos c]
      congr 2; omega
    · rw [if_neg c]
      exact k4 l (by omega)
theorem Table_ok (hN : 5000 ≤ N) (V : Valid p acc gd nd) {q : Nat} (hq : q < acc.length) :
    Ok (guard_Table N p nd (gd.getD q 0)) fun r => r.2 = 0 ∧ r.1.length = two p ∧ ∀ l, l < two p → r.1.getD l 0 = (stp nd gd q l : Int) := by
  have p0 := V.p0
  have p8 := V.p8
  have sh := shl_two ⟨V.p0, V.p8⟩
  unfold guard_Table
  rw [if_neg (by omega), if_neg (by omega)]
  refine Ok.ask p0 ?_
  refine (Table_l0_ok hN V hq N [] 0 (by omega) (by omega) (by omega) rfl fun l h => by omega).bind fun r ⟨row, e, h1, h2⟩ => ?_
  subst e
  exact Ok.pure ⟨rfl, h1, h2⟩

/-! ### traces -/
def runT (nd : List Nd) (gd : List Int) (q : Nat) (t : List Nat) : Nat := t.foldl (fun q l => stp nd gd q l) q
theorem runT_lt (V : Valid p acc gd nd) : ∀ (t : List Nat) (q : Nat), q < acc.length → runT nd gd q t < acc.length
  | [], _, h => h
  | l :: t, q, h => runT_lt V t (stp nd gd q l) (stp_eq V h l).2
end
end Go.V

/- Plain theory: maps. No program. -/
set_option linter.all false
set_option linter.unusedVariables false
set_option maxRecDepth 100000
namespace Go.V
open Go

/-! ### maps -/
section
variable {κ ν : Type} [DecidableEq κ]
end

end Go.V

/- Plain theory: letters that fit, traces that may be. No program. -/
set_option linter.all false
set_option linter.unusedVariables false
set_option maxRecDepth 100000
namespace Go.V
open Go
section
variable {N : Nat} {p : Int}
/-! ### letters -/
theorem Fits_ok (hp : 0 ≤ p ∧ p ≤ 8) {l : Nat} (h : l < two p) : letter_Fits N p (l : Int) = some true := by
  have sh := shl_two hp
  unfold letter_Fits letter_number
  rw [if_pos hp.1]
  simp only [Option.bind_some]
  rw [if_pos (decide_eq_true hp.2)]
  unfold ask
  rw [if_pos (by unfold in64; omega), if_pos hp.1]
  have h2 : shrV .i64 (l : Int) p = 0 := by
    unfold shrV
    have hb : min p.toNat IntKind.i64.bits = p.toNat := Nat.min_eq_left (by show p.toNat ≤ 64; omega)
    rw [hb]
    have : ((2 : Int) ^ p.toNat) = (two p : Int) := by unfold two; simp
    rw [this]
    exact Int.fdiv_eq_zero_of_lt (by omega) (by omega)
  rw [h2]
  rfl
theorem Trace_l0_ok (hp : 0 ≤ p ∧ p ≤ 8) {t : List Nat} (h : ∀ l ∈ t, l < two p) (ht : t.length ≤ 2000) : ∀ (m : Nat) (x : Int), 0 ≤ x → x ≤ t.length → (t.length : Int) - x < m → letter_Trace_l0 N p (t.map fun l : Nat => (l : Int)) m x = some (.inl ())
  | 0, x, _, _, h => by omega
  | m + 1, x, k0, k1, k2 => by
    unfold letter_Trace_l0
    rw [List.length_map]
    by_cases hx : x < (t.length : Int)
    · obtain ⟨a, rfl⟩ := Int.eq_ofNat_of_zero_le k0
      have ha : a < t.length := by omega
      have e : (t.map fun l : Nat => (l : Int)).getD (a : Int).toNat 0 = ((t.getD a 0 : Nat) : Int) := by
        rw [Int.toNat_natCast, List.getD_eq_getElem?_getD, List.getD_eq_getElem?_getD, List.getElem?_map, List.getElem?_eq_getElem ha]
        rfl
      have hm : t.getD a 0 < two p := h _ (by rw [List.getD_eq_getElem?_getD, List.getElem?_eq_getElem ha]; exact List.getElem_mem ha)
      rw [if_pos hx, e, Fits_ok hp hm]
      unfold ask
      have ih := Trace_l0_ok hp h ht m ((a : Int) + 1) (by omega) (by omega) (by omega)
      rw [if_pos (by unfold idx; omega), Option.bind_some, if_pos rfl, if_pos (by unfold in64; omega), ih]
    · rw [if_neg hx]
theorem Trace_ok (hN : 5000 ≤ N) (hp : 0 ≤ p ∧ p ≤ 8) {t : List Nat} (h : ∀ l ∈ t, l < two p) (ht : t.length ≤ 1024) : letter_Trace N p (t.map fun l : Nat => (l : Int)) = some 0 := by
  unfold letter_Trace letter_number
  rw [if_pos hp.1]
  simp only [Option.bind_some]
  rw [if_pos (decide_eq_true hp.2), if_neg (by rw [List.length_map]; omega), Trace_l0_ok hp h (by omega) N 0 (by omega) (by omega) (by omega)]
  rfl
theorem Fits_inv (hp : 0 ≤ p ∧ p ≤ 8) {x : Int} (hx : 0 ≤ x ∧ x ≤ 255) : Ok (letter_Fits N p x) fun b => b = true → x < two p := by
  have sh := shl_two hp
  unfold letter_Fits letter_number
  rw [if_pos hp.1]
  simp only [Option.bind_some]
  rw [if_pos (decide_eq_true hp.2)]
  refine Ok.ask (by unfold in64; omega) (Ok.ask hp.1 (Ok.pure fun h => ?_))
  have h2 : shrV .i64 x p = 0 := by simpa using h
  unfold shrV at h2
  have hb : min p.toNat IntKind.i64.bits = p.toNat := Nat.min_eq_left (by show p.toNat ≤ 64; omega)
  rw [hb, show ((2 : Int) ^ p.toNat) = (two p : Int) by unfold two; simp, Int.fdiv_eq_ediv_of_nonneg _ (by omega)] at h2
  have h3 := Int.emod_lt_of_pos x (show (0 : Int) < (two p : Int) by omega)
  have h4 := Int.emod_add_mul_ediv x (two p : Int)
  rw [h2] at h4
  omega
theorem Trace_l0_inv (hp : 0 ≤ p ∧ p ≤ 8) {t : List Int} (ht : ∀ x ∈ t, 0 ≤ x ∧ x ≤ 255) (hl : t.length ≤ 100000) : ∀ (m : Nat) (i : Nat), i ≤ t.length → t.length - i < m → (∀ j, j < i → t.getD j 0 < two p) →
    Ok (letter_Trace_l0 N p t m (i : Int)) fun r => (r = .inl () ∧ ∀ j, j < t.length → t.getD j 0 < two p) ∨ r = .inr 2
  | 0, i, _, h, _ => by omega
  | m + 1, i, k1, k2, k3 => by
    unfold letter_Trace_l0
    refine Ok.ite (fun hx => ?_) fun hx => Ok.pure (.inl ⟨rfl, fun j hj => k3 j (by omega)⟩)
    rw [Int.toNat_natCast]
    refine Ok.ask (by unfold idx; omega) ?_
    have hm := ht _ (getD_mem (d := 0) (i := (i : Int)) (by omega) hx)
    rw [Int.toNat_natCast] at hm
    refine (Fits_inv hp hm).bind fun b hb => ?_
    refine Ok.ite (fun hbt => Ok.ask (by unfold in64; omega) ?_) fun _ => Ok.pure (.inr rfl)
    rw [show ((i : Int) + 1) = ((i + 1 : Nat) : Int) by omega]
    refine Trace_l0_inv hp ht hl m (i + 1) (by omega) (by omega) fun j hj => ?_
    by_cases c : j = i
    · rw [c]; exact hb hbt
    · exact k3 j (by omega)
theorem Trace_inv (hN : 5000 ≤ N) (hp : 0 ≤ p ∧ p ≤ 8) {t : List Int} (ht : ∀ x ∈ t, 0 ≤ x ∧ x ≤ 255) : Ok (letter_Trace N p t) fun e => e = 0 → ∃ u : List Nat, t = u.map (fun l : Nat => (l : Int)) ∧ ∀ l ∈ u, l < two p := by
  unfold letter_Trace letter_number
  rw [if_pos hp.1]
  simp only [Option.bind_some]
  rw [if_pos (decide_eq_true hp.2)]
  refine Ok.ite (fun _ => Ok.pure fun h => by cases h) fun hl => ?_
  obtain ⟨r, e, hr⟩ := Trace_l0_inv (N := N) hp ht (by omega) N 0 (by omega) (by omega) fun j h => by omega
  have e' : letter_Trace_l0 N p t N 0 = some r := e
  rw [e']
  simp only [Option.bind_some]
  rcases hr with ⟨rfl, h⟩ | rfl
  · refine Ok.pure fun _ => ⟨t.map Int.toNat, ?_, fun l hl2 => ?_⟩
    · rw [List.map_map]
      have : ∀ x ∈ t, ((fun l : Nat => (l : Int)) ∘ Int.toNat) x = x := fun x hx => by
        have := ht x hx
        show ((x.toNat : Nat) : Int) = x
        omega
      rw [List.map_congr_left this, List.map_id']
    · obtain ⟨x, hx2, rfl⟩ := List.mem_map.1 hl2
      obtain ⟨j, hj, rfl⟩ := List.mem_iff_getElem.1 hx2
      have := h j hj
      rw [List.getD_eq_getElem?_getD, List.getElem?_eq_getElem hj, Option.getD_some] at this
      have := ht _ hx2
      omega
  · exact Ok.pure fun h => by cases h
end
end Go.V

/- Plain theory: traces in order; two of many are alike. No program. -/
set_option linter.all false
set_option linter.unusedVariables false
set_option maxRecDepth 100000
namespace Go.V
open Go

/-! ### the order of traces -/
def llt : List Nat → List Nat → Prop
  | [], _ => False
  | _ :: _, [] => False
  | a :: v, b :: w => a < b ∨ (a = b ∧ llt v w)
theorem llt_irrefl : ∀ v : List Nat, ¬ llt v v
  | [], h => h
  | a :: v, h => by
    rcases h with h | ⟨_, h⟩
    · omega
    · exact llt_irrefl v h
/-- a trace stands ahead of another one -/
def slt (v w : List Nat) : Prop := v.length < w.length ∨ (v.length = w.length ∧ llt v w)
theorem slt_irrefl (v : List Nat) : ¬ slt v v := fun h => h.elim (fun h => by omega) fun h => llt_irrefl v h.2
/-! ### two of many are alike -/
end Go.V

/- Plain theory: the tables of chapter 19, what is accepted, the order of traces. No program. -/
set_option linter.all false
set_option linter.unusedVariables false
set_option maxRecDepth 1000000
namespace Go.V
open Go Go.Proofs
theorem awake19 : law19_awake 1000000 = some true := by kernel_rfl
abbrev cs (u : List Nat) : List Int := u.map fun l : Nat => (l : Int)
theorem cs_len (u : List Nat) : (cs u).length = u.length := List.length_map ..
theorem cs_getD {u : List Nat} {i : Nat} (h : i < u.length) : (cs u).getD i 0 = ((u.getD i 0 : Nat) : Int) := by
  unfold cs
  rw [List.getD_eq_getElem?_getD, List.getD_eq_getElem?_getD, List.getElem?_map, List.getElem?_eq_getElem h]
  rfl
theorem drop_cons {u : List Nat} {i : Nat} (h : i < u.length) : u.drop i = u.getD i 0 :: u.drop (i + 1) := by
  rw [List.drop_eq_getElem_cons h, List.getD_eq_getElem?_getD, List.getElem?_eq_getElem h]
  rfl
section
variable {N : Nat} {p : Int} {acc : List Bool} {gd : List Int} {nd : List Nd}
theorem table_l0_ok (hN : 5000 ≤ N) (V : Valid p acc gd nd) : ∀ (m : Nat) (wh : List (List Int)) (x : Int), 0 ≤ x → x ≤ acc.length → (acc.length : Int) - x < m → (wh.length : Int) = x →
    (∀ q : Nat, (q : Int) < x → (wh.getD q []).length = two p ∧ ∀ l, l < two p → (wh.getD q []).getD l 0 = (stp nd gd q l : Int)) →
    Ok (lang_table_l0 N p gd nd m wh x) fun r => ∃ w, r = .inl w ∧ Tab nd gd acc.length (two p) w := by
  intro m
  induction m with
  | zero => intro wh x _ _ h _ _; omega
  | succ m ih =>
    intro wh x k0 k1 k2 k3 k5
    have a2 := V.a2
    have gl := V.gl
    unfold lang_table_l0
    rw [gl]
    refine Ok.ite (fun hx => ?_) fun hx => Ok.pure ⟨wh, rfl, by omega, fun q hq => (k5 q (by omega)).1, fun q l hq hl => (k5 q (by omega)).2 l hl⟩
    obtain ⟨a, rfl⟩ := Int.eq_ofNat_of_zero_le k0
    rw [Int.toNat_natCast]
    refine Ok.ask (by unfold idx; omega) ?_
    refine (Table_ok hN V (q := a) (by omega)).bind fun r ⟨r1, r2, r3⟩ => ?_
    rw [if_pos r1]
    refine Ok.ask (by simp; omega) (Ok.ask (by unfold in64; omega) ?_)
    refine ih _ ((a : Int) + 1) (by omega) (by omega) (by omega) (by simp; omega) fun q hq => ?_
    rw [getD_snoc]
    by_cases c : q = a
    · rw [if_pos (by omega), c]
      exact ⟨r2, r3⟩
    · rw [if_neg (by omega)]
      exact k5 q (by omega)
theorem table_ok (hN : 5000 ≤ N) (V : Valid p acc gd nd) (hC : guard_Check N p acc gd nd = some 0) : Ok (lang_table N p acc gd nd) fun r => r.2 = 0 ∧ Tab nd gd acc.length (two p) r.1 := by
  have a2 := V.a2
  unfold lang_table
  rw [hC, Option.bind_some, if_pos rfl]
  refine (table_l0_ok hN V N [] 0 (by omega) (by omega) (by omega) rfl fun q h => by omega).bind fun r ⟨w, e, T⟩ => ?_
  rw [e, Sum.elim_inl]
  exact Ok.pure ⟨rfl, T⟩
theorem Accepts_l0_ok (hN : 5000 ≤ N) (V : Valid p acc gd nd) {r22 : List (List Int) × Int} (T : Tab nd gd acc.length (two p) r22.1) {t : List Nat} (ht : ∀ l ∈ t, l < two p) (hl : t.length ≤ 100000) : ∀ (m q i : Nat), i ≤ t.length → t.length - i < m → q < acc.length → lang_Accepts_l0 N (cs t) r22 m (q : Int) (i : Int) = some ((runT nd gd q (t.drop i) : Nat) : Int) := by
  intro m
  induction m with
  | zero => intro q i _ h _; omega
  | succ m ih =>
    intro q i k1 k2 hq
    have tl := T.len
    unfold lang_Accepts_l0
    rw [cs_len]
    by_cases hx : (i : Int) < (t.length : Int)
    · have hi : i < t.length := by omega
      have hm : t.getD i 0 < two p := ht _ (by rw [List.getD_eq_getElem?_getD, List.getElem?_eq_getElem hi]; exact List.getElem_mem hi)
      have h := ih (stp nd gd q (t.getD i 0)) (i + 1) (by omega) (by omega) (stp_eq V hq _).2
      have e : runT nd gd q (t.drop i) = runT nd gd (stp nd gd q (t.getD i 0)) (t.drop (i + 1)) := by
        rw [drop_cons hi]; rfl
      rw [if_pos hx, Int.toNat_natCast, Int.toNat_natCast, cs_getD hi, Int.toNat_natCast, T.row q hq, T.at_ q _ hq hm]
      unfold ask
      rw [if_pos (by unfold idx; omega), if_pos (by unfold idx; omega), if_pos (by unfold idx; omega), if_pos (by unfold in64; omega), show ((i : Int) + 1) = ((i + 1 : Nat) : Int) by omega, h, e]
    · rw [if_neg hx, List.drop_eq_nil_of_le (by omega)]
      rfl
theorem Accepts_ok (hN : 200000 ≤ N) (V : Valid p acc gd nd) (hC : guard_Check N p acc gd nd = some 0) {t : List Nat} (ht : ∀ l ∈ t, l < two p) (hl : t.length ≤ 1024) : lang_Accepts N p acc gd nd (cs t) = some (acc.getD (runT nd gd 0 t) false, 0) := by
  have a1 := V.a1
  obtain ⟨r, e, r1, T⟩ := table_ok (by omega) V hC
  have hlt := runT_lt V t 0 (by omega)
  have h0 := Accepts_l0_ok (N := N) (by omega) V T ht (by omega) N 0 0 (by omega) (by omega) (by omega)
  have e0 : lang_Accepts_l0 N (cs t) r N 0 0 = some ((runT nd gd 0 (t.drop 0) : Nat) : Int) := h0
  unfold lang_Accepts
  rw [e, Option.bind_some, if_pos r1, Trace_ok (by omega) ⟨V.p0, V.p8⟩ ht hl, Option.bind_some, if_pos rfl, e0, Option.bind_some, List.drop_zero, Int.toNat_natCast]
  unfold ask
  rw [if_pos (by unfold idx; omega)]
theorem ahead_l0_ok {u v : List Nat} (hl : u.length = v.length) (h : u.length ≤ 100000) : ∀ (m i : Nat), i ≤ u.length → u.length - i < m →
    Ok (law19_ahead_l0 N (cs u) (cs v) m (i : Int)) fun r => (r = .inl () ∧ u.drop i = v.drop i) ∨ ∃ c, r = .inr c ∧ (c = true ↔ llt (u.drop i) (v.drop i)) := by
  intro m
  induction m with
  | zero => intro i _ h; omega
  | succ m ih =>
    intro i k1 k2
    unfold law19_ahead_l0
    rw [cs_len]
    refine Ok.ite (fun hx => ?_) fun hx => Ok.pure (.inl ⟨rfl, by rw [List.drop_eq_nil_of_le (by omega), List.drop_eq_nil_of_le (by omega)]⟩)
    have hi : i < u.length := by omega
    have hi2 : i < v.length := by omega
    rw [Int.toNat_natCast, cs_getD hi, cs_getD hi2, cs_len]
    refine Ok.ask (by unfold idx; omega) (Ok.ask (by unfold idx; omega) ?_)
    rw [drop_cons hi, drop_cons hi2]
    refine Ok.ite (fun he => ?_) fun he => Ok.pure (.inr ⟨_, rfl, ?_⟩)
    · have he' : u.getD i 0 = v.getD i 0 := by omega
      refine Ok.ask (by unfold in64; omega) ?_
      rw [show ((i : Int) + 1) = ((i + 1 : Nat) : Int) by omega]
      refine (ih (i + 1) (by omega) (by omega)).mono fun r hr => ?_
      rcases hr with ⟨r1, r2⟩ | ⟨c, r1, r2⟩
      · exact .inl ⟨r1, by rw [r2, he']⟩
      · refine .inr ⟨c, r1, r2.trans ⟨fun h => .inr ⟨he', h⟩, fun h => ?_⟩⟩
        rcases h with h | h
        · omega
        · exact h.2
    · rw [decide_eq_true_eq]
      constructor
      · intro h
        exact .inl (by omega)
      · rintro (h | ⟨h, _⟩)
        · omega
        · omega
theorem ahead_ok (hN : 200000 ≤ N) {u v : List Nat} (h : u.length ≤ 100000) : Ok (law19_ahead N (cs u) (cs v)) fun r => r = true ↔ slt u v := by
  unfold law19_ahead
  rw [cs_len, cs_len]
  refine Ok.ite (fun hl => ?_) fun hl => Ok.pure ?_
  · obtain ⟨r, e, hr⟩ := ahead_l0_ok (N := N) (u := u) (v := v) (by omega) h N 0 (by omega) (by omega)
    have e' : law19_ahead_l0 N (cs u) (cs v) N 0 = some r := e
    rw [e', Option.bind_some]
    rw [List.drop_zero, List.drop_zero] at hr
    rcases hr with ⟨r1, r2⟩ | ⟨c, r1, r2⟩
    · rw [r1, Sum.elim_inl]
      refine Ok.pure ⟨fun h => (by cases h), fun h => ?_⟩
      rw [r2] at h
      exact absurd h (slt_irrefl _)
    · rw [r1, Sum.elim_inr]
      refine Ok.pure (r2.trans ⟨fun h => .inr ⟨by omega, h⟩, fun h => ?_⟩)
      rcases h with h | h
      · omega
      · exact h.2
  · rw [decide_eq_true_eq]
    constructor
    · intro h
      exact .inl (by omega)
    · rintro (h | ⟨h, _⟩)
      · omega
      · omega
theorem Large_ok : Ok (law19_Large N p acc gd nd) fun _ => True := by
  unfold law19_Large
  repeat' (first | exact Ok.pure trivial | refine Ok.ite (fun _ => ?_) fun _ => ?_)
end
end Go.V
