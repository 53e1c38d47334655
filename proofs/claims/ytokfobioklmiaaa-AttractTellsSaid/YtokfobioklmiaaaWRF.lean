/- Plain theory beside that of games: tables, the document's layers 1 and 14, what is lent. No program. -/
import Derived.Test.YtokfobioklmiaaaPR
set_option linter.all false
set_option linter.unusedVariables false
set_option maxRecDepth 100000
namespace Go.V.W
open Go

theorem getD_set {α : Type} {xs : List α} {i j : Nat} {v d : α} (h : i < xs.length) : (xs.set i v).getD j d = if i = j then v else xs.getD j d := by
  rw [List.getD_eq_getElem?_getD, List.getElem?_set, List.getD_eq_getElem?_getD]
  by_cases e : i = j
  · subst e; simp [h]
  · simp [e]
theorem getD_rep {α : Type} {n j : Nat} {z : α} : (List.replicate n z).getD j z = z := by
  rw [List.getD_eq_getElem?_getD, List.getElem?_replicate]
  by_cases h : j < n <;> simp [h]
theorem getD_oob {α : Type} {xs : List α} {j : Nat} {d : α} (h : xs.length ≤ j) : xs.getD j d = d := by
  rw [List.getD_eq_getElem?_getD, List.getElem?_eq_none h]; rfl
theorem ext_getD {α : Type} {xs ys : List α} (d : α) (hl : xs.length = ys.length) (h : ∀ i, i < xs.length → xs.getD i d = ys.getD i d) : xs = ys := by
  apply List.ext_getElem hl
  intro i h1 h2
  have := h i h1
  simpa [List.getD_eq_getElem?_getD, List.getElem?_eq_getElem h1, List.getElem?_eq_getElem h2] using this

def cnt : List Int → Nat
  | [] => 0
  | x :: xs => (if 0 ≤ x then 1 else 0) + cnt xs
theorem cnt_le : ∀ (xs : List Int), cnt xs ≤ xs.length
  | [] => Nat.le_refl _
  | x :: xs => by have := cnt_le xs; unfold cnt; simp only [List.length_cons]; split <;> omega
theorem cnt_mono : ∀ (xs ys : List Int), xs.length = ys.length → (∀ i : Nat, i < xs.length → 0 ≤ xs.getD i 0 → 0 ≤ ys.getD i 0) → cnt xs ≤ cnt ys
  | [], [], _, _ => Nat.le_refl _
  | [], y :: ys, h, _ => by simp at h
  | x :: xs, [], h, _ => by simp at h
  | x :: xs, y :: ys, h, hi => by
    have h1 := cnt_mono xs ys (by simpa using h) fun i h1 h2 => by have := hi (i + 1) (by simpa using h1); simpa using this (by simpa using h2)
    have h2 := hi 0 (by simp)
    simp at h2
    unfold cnt
    split <;> split <;> omega
theorem cnt_lt : ∀ (xs ys : List Int), xs.length = ys.length → (∀ i : Nat, i < xs.length → 0 ≤ xs.getD i 0 → 0 ≤ ys.getD i 0) → (j : Nat) → j < xs.length → xs.getD j 0 < 0 → 0 ≤ ys.getD j 0 → cnt xs + 1 ≤ cnt ys
  | [], ys, _, _, j, h, _, _ => by simp at h
  | x :: xs, [], h, _, _, _, _, _ => by simp at h
  | x :: xs, y :: ys, h, hi, 0, _, h3, h4 => by
    have h1 := cnt_mono xs ys (by simpa using h) fun i h1 h2 => by have := hi (i + 1) (by simpa using h1); simpa using this (by simpa using h2)
    simp at h3 h4
    unfold cnt
    rw [if_neg (by omega), if_pos h4]
    omega
  | x :: xs, y :: ys, h, hi, j + 1, hj, h3, h4 => by
    have h1 := cnt_lt xs ys (by simpa using h) (fun i h1 h2 => by have := hi (i + 1) (by simpa using h1); simpa using this (by simpa using h2)) j (by simpa using hj) (by simpa using h3) (by simpa using h4)
    have h2 := hi 0 (by simp)
    simp at h2
    unfold cnt
    split <;> split <;> omega

theorem drop_getD {α : Type} {xs : List α} {x : Int} {d : α} (h0 : 0 ≤ x) (h1 : x < (xs.length : Int)) : xs.drop x.toNat = xs.getD x.toNat d :: xs.drop (x + 1).toNat := by
  have h : x.toNat < xs.length := by omega
  rw [List.drop_eq_getElem_cons h, List.getD_eq_getElem?_getD, List.getElem?_eq_getElem h, show (x + 1).toNat = x.toNat + 1 by omega]
  rfl

theorem getD_snoc {α : Type} {xs : List α} {v d : α} {j : Nat} : (xs ++ [v]).getD j d = if j = xs.length then v else xs.getD j d := by
  rw [List.getD_eq_getElem?_getD, List.getD_eq_getElem?_getD]
  by_cases h : j = xs.length
  · subst h; simp
  · rw [if_neg h]
    by_cases h2 : j < xs.length
    · rw [List.getElem?_append_left h2]
    · rw [List.getElem?_append_right (by omega), List.getElem?_eq_none (by simp; omega), List.getElem?_eq_none (by omega)]

end Go.V.W

set_option linter.all false
set_option linter.unusedVariables false
set_option maxRecDepth 100000
namespace Go.V.W
open Go

/-- how many letters there are -/
def two (p : Int) : Nat := 2 ^ p.toNat
/-- where a letter leads -/
def stp (nd : List Nd) (gd : List Int) (q l : Nat) : Nat := (go nd (gd.getD q 0) (l : Int)).toNat
/-- rows of where letters lead -/
structure Tab (nd : List Nd) (gd : List Int) (n L : Nat) (wh : List (List Int)) : Prop where
  len : wh.length = n
  row : ∀ q, q < n → (wh.getD q []).length = L
  at_ : ∀ q l, q < n → l < L → (wh.getD q []).getD l 0 = (stp nd gd q l : Int)
section
variable {N : Nat} {p : Int} {acc : List Bool} {gd : List Int} {nd : List Nd}
theorem stp_eq (V : Valid p acc gd nd) {q : Nat} (hq : q < acc.length) (l : Nat) : go nd (gd.getD q 0) (l : Int) = (stp nd gd q l : Int) ∧ stp nd gd q l < acc.length := by
  have h := (guard_Go_ok (N := 5000) (Nat.le_refl _) V (l : Int) (q := (q : Int)) (by omega) (by omega)).2
  rw [Int.toNat_natCast] at h
  unfold stp
  omega
/-! ### traces -/
end
end Go.V.W

set_option linter.all false
set_option linter.unusedVariables false
set_option maxRecDepth 100000
namespace Go.V.W
open Go

/-! ### maps -/
section
variable {κ ν : Type} [DecidableEq κ]
theorem mget_app {k k' : κ} {v : ν} : ∀ {m : List (κ × ν)}, mget (m ++ [(k, v)]) k' = match mget m k' with | some u => some u | none => if k = k' then some v else none
  | [] => by simp [mget]
  | (a, b) :: r => by
    show mget ((a, b) :: (r ++ [(k, v)])) k' = _
    unfold mget
    by_cases e : a = k'
    · rw [if_pos e, if_pos e]
    · rw [if_neg e, if_neg e]; exact mget_app
end

end Go.V.W

set_option linter.all false
set_option linter.unusedVariables false
set_option maxRecDepth 100000
namespace Go.V.W
open Go Go.Proofs
section
variable {N : Nat} {p : Int} {acc : List Bool} {gd : List Int} {nd : List Nd}
theorem fits_eq (r a q : Int) : ref14_fits N p acc gd nd r a q = guard_good N p acc gd nd r a q := rfl
theorem rCheck_l2_eq : ∀ (m : Nat) (x : Int), ref14_Check_l2 N p acc gd nd m x = guard_Check_l1 N p acc gd nd m x
  | 0, x => rfl
  | m + 1, x => by
    unfold ref14_Check_l2 guard_Check_l1
    simp only [rCheck_l2_eq m, fits_eq]
theorem rCheck_l1_ok {i : Nat} (hi : i < nd.length) (hl : nd.length ≤ 5000) : ∀ (m k : Nat), k ≤ i → i - k < m → (∀ j, j < k → nd.getD j default ≠ nd.getD i default) →
    (ref14_Check_l1 N nd (i : Int) m (k : Int) = some (.inl ()) ∧ ∀ j, j < i → nd.getD j default ≠ nd.getD i default) ∨ (ref14_Check_l1 N nd (i : Int) m (k : Int) = some (.inr 12) ∧ ∃ j, j < i ∧ nd.getD j default = nd.getD i default)
  | 0, k, _, h, _ => by omega
  | m + 1, k, k0, k1, hk => by
    unfold ref14_Check_l1
    have eta : (⟨(nd.getD i default).P, (nd.getD i default).Lo, (nd.getD i default).Hi⟩ : Nd) = nd.getD i default := rfl
    rw [Int.toNat_natCast i, Int.toNat_natCast k, eta]
    unfold ask
    by_cases hx : k < i
    · rw [if_pos (show (k : Int) < (i : Int) by omega), if_pos (by unfold idx; omega)]
      by_cases c : nd.getD k default = nd.getD i default
      · rw [if_pos c]
        exact .inr ⟨rfl, k, hx, c⟩
      · rw [if_neg c, if_pos (by unfold in64; omega), show ((k : Int) + 1) = ((k + 1 : Nat) : Int) by omega]
        refine rCheck_l1_ok hi hl m (k + 1) (by omega) (by omega) fun j hj => ?_
        by_cases e : j = k
        · rw [e]; exact c
        · exact hk j (by omega)
    · rw [if_neg (show ¬ (k : Int) < (i : Int) by omega)]
      exact .inl ⟨rfl, fun j hj => hk j (by omega)⟩
theorem rCheck_l0_eq (hN : 5000 ≤ N) (ha : acc.length ≤ 1000) (hl : nd.length ≤ 4096) (hw : ∀ x ∈ nd, x.wf) : ∀ (m i : Nat) (met : List (Nd × Bool)), i ≤ nd.length → nd.length - i < m → (∀ x ∈ met, x.2 = true) → (∀ k, (∃ v, mget met k = some v) ↔ ∃ j, j < i ∧ nd.getD j default = k) →
    guard_Check_l0 N p acc gd nd m met (i : Int) = ref14_Check_l0 N p acc gd nd m (i : Int)
  | 0, i, met, _, h, _, _ => by omega
  | m + 1, i, met, k0, k1, ht, hm => by
    unfold guard_Check_l0 ref14_Check_l0
    have eta : (⟨(nd.getD i default).P, (nd.getD i default).Lo, (nd.getD i default).Hi⟩ : Nd) = nd.getD i default := rfl
    rw [Int.toNat_natCast i, eta]
    unfold ask
    by_cases hx : (i : Int) < (nd.length : Int)
    · have hi : i < nd.length := by omega
      have hix : idx (i : Int) nd.length := by unfold idx; omega
      have hin : in64 ((i : Int) + 1) := by unfold in64; omega
      rw [if_pos hx, if_pos hx, if_pos hix, if_pos hix]
      by_cases c1 : (nd.getD i default).P < 0
      · rw [if_pos c1, if_pos c1]
      rw [if_neg c1, if_neg c1]
      by_cases c2 : p ≤ (nd.getD i default).P
      · rw [if_pos c2, if_pos c2]
      rw [if_neg c2, if_neg c2]
      by_cases c3 : (nd.getD i default).Lo = (nd.getD i default).Hi
      · rw [if_pos c3, if_pos c3]
      rw [if_neg c3, if_neg c3]
      have hok : ndOk (nd.getD i default) := by
        have hmem : nd.getD i default ∈ nd := by rw [List.getD_eq_getElem?_getD, List.getElem?_eq_getElem hi]; exact List.getElem_mem hi
        have := hw _ hmem
        unfold Nd.wf W64 at this
        unfold ndOk in64
        omega
      rw [if_pos hok]
      obtain ⟨b1, e1, _⟩ := guard_good_ok (N := N) (p := p) (acc := acc) (gd := gd) (nd := nd) (ref := (nd.getD i default).Lo) (below := (i : Int)) (above := (nd.getD i default).P) (by omega) (by omega)
      obtain ⟨b2, e2, _⟩ := guard_good_ok (N := N) (p := p) (acc := acc) (gd := gd) (nd := nd) (ref := (nd.getD i default).Hi) (below := (i : Int)) (above := (nd.getD i default).P) (by omega) (by omega)
      have f1 : ref14_fits N p acc gd nd (nd.getD i default).Lo (i : Int) (nd.getD i default).P = some b1 := e1
      have f2 : ref14_fits N p acc gd nd (nd.getD i default).Hi (i : Int) (nd.getD i default).P = some b2 := e2
      have h1 := rCheck_l1_ok (N := N) hi (by omega) N 0 (by omega) (by omega) fun j hj => by omega
      rw [show ((0 : Nat) : Int) = 0 from rfl] at h1
      rcases h1 with ⟨h1, h2⟩ | ⟨h1, h2⟩
      · have hnone : mget met (nd.getD i default) = none := by
          cases h : mget met (nd.getD i default) with
          | none => rfl
          | some v =>
            obtain ⟨j, hj, e⟩ := (hm (nd.getD i default)).1 ⟨v, h⟩
            exact absurd e (h2 j hj)
        have ih := rCheck_l0_eq hN ha hl hw m (i + 1) (met ++ [(nd.getD i default, true)]) (by omega) (by omega) (fun x hx => by
          rcases List.mem_append.1 hx with h | h
          · exact ht x h
          · rw [List.mem_singleton.1 h]) (fun k => by
          rw [mget_app]
          constructor
          · rintro ⟨v, h⟩
            cases h3 : mget met k with
            | some u =>
              obtain ⟨j, hj, e⟩ := (hm k).1 ⟨u, h3⟩
              exact ⟨j, by omega, e⟩
            | none =>
              rw [h3] at h
              by_cases c : nd.getD i default = k
              · exact ⟨i, by omega, c⟩
              · simp only [if_neg c] at h
                cases h
          · rintro ⟨j, hj, e⟩
            cases h3 : mget met k with
            | some u => exact ⟨u, rfl⟩
            | none =>
              by_cases c : j < i
              · obtain ⟨v, h4⟩ := (hm k).2 ⟨j, c, e⟩
                rw [h3] at h4
                cases h4
              · obtain rfl : j = i := by omega
                exact ⟨true, by simp only [if_pos e]⟩)
        rw [hnone, show Option.getD (none : Option Bool) false = false from rfl, if_neg (show ¬ (false = true) from Bool.false_ne_true), e1, f1, Option.bind_some, Option.bind_some]
        cases b1 with
        | false => rw [if_neg (show ¬ (false = true) from Bool.false_ne_true), if_neg (show ¬ (false = true) from Bool.false_ne_true)]
        | true =>
          rw [if_pos (show true = true from rfl), if_pos (show true = true from rfl), e2, f2, Option.bind_some, Option.bind_some]
          cases b2 with
          | false => rw [if_neg (show ¬ (false = true) from Bool.false_ne_true), if_neg (show ¬ (false = true) from Bool.false_ne_true)]
          | true =>
            rw [if_pos (show true = true from rfl), if_pos (show true = true from rfl), h1, Option.bind_some, if_pos (show (none : Option Bool) = none from rfl), if_pos hin, Sum.elim_inl, if_pos hin, show ((i : Int) + 1) = ((i + 1 : Nat) : Int) by omega, ih]
      · obtain ⟨v, hv⟩ := (hm (nd.getD i default)).2 h2
        have hv2 : v = true := by
          have : (nd.getD i default, v) ∈ met := by
            clear hm ht h1 h2
            induction met with
            | nil => cases hv
            | cons y met ih =>
              obtain ⟨a, b⟩ := y
              unfold mget at hv
              by_cases c : a = nd.getD i default
              · rw [if_pos c] at hv
                cases hv
                rw [c]
                exact List.mem_cons_self
              · rw [if_neg c] at hv
                exact List.mem_cons_of_mem _ (ih hv)
          exact ht _ this
        rw [hv, hv2, show Option.getD (some true) false = true from rfl, if_pos (show true = true from rfl), f1, Option.bind_some]
        cases b1 with
        | false => rw [if_neg (show ¬ (false = true) from Bool.false_ne_true)]
        | true =>
          rw [if_pos (show true = true from rfl), f2, Option.bind_some]
          cases b2 with
          | false => rw [if_neg (show ¬ (false = true) from Bool.false_ne_true)]
          | true => rw [if_pos (show true = true from rfl), h1, Option.bind_some, Sum.elim_inr]
    · rw [if_neg hx, if_neg hx]
theorem rCheck_eq (hN : 5000 ≤ N) (hw : ∀ x ∈ nd, x.wf) : ref14_Check N p acc gd nd = guard_Check N p acc gd nd := by
  unfold ref14_Check guard_Check
  by_cases c1 : p < 0
  · rw [if_pos c1, if_pos c1]
  rw [if_neg c1, if_neg c1]
  by_cases c2 : 8 < p
  · rw [if_pos c2, if_pos c2]
  rw [if_neg c2, if_neg c2]
  by_cases c3 : ((acc.length : Nat) : Int) < 1
  · rw [if_pos c3, if_pos c3]
  rw [if_neg c3, if_neg c3]
  by_cases c4 : 256 < ((acc.length : Nat) : Int)
  · rw [if_pos c4, if_pos c4]
  rw [if_neg c4, if_neg c4]
  by_cases c5 : ((gd.length : Nat) : Int) = ((acc.length : Nat) : Int)
  · rw [if_pos c5, if_pos c5]
    by_cases c6 : 4096 < ((nd.length : Nat) : Int)
    · rw [if_pos c6, if_pos c6]
    rw [if_neg c6, if_neg c6]
    have h := rCheck_l0_eq (N := N) (p := p) (acc := acc) (gd := gd) hN (by omega) (by omega) hw N 0 [] (by omega) (by omega) (fun x h => by cases h) (fun k => ⟨(fun ⟨v, h⟩ => by cases h), (fun ⟨j, h, _⟩ => by omega)⟩)
    rw [show ((0 : Nat) : Int) = 0 from rfl] at h
    rw [h]
    simp only [rCheck_l2_eq]
  · rw [if_neg c5, if_neg c5]

/-! ### letters -/
/-! ### where letters lead -/
theorem rbit_tab (n : Nat) : ((List.range 256).all fun l => (List.range 8).all fun q => decide (ref14_bit (n + 300) (l : Int) (q : Int) = some (decide (andV .u8 (shrV .u8 (l : Int) (q : Int)) 1 = 1)))) = true := by kernel_rfl
theorem rbit_eq (hN : 5000 ≤ N) {l q : Int} (hl : 0 ≤ l ∧ l ≤ 255) (hq : 0 ≤ q ∧ q ≤ 7) : ref14_bit N l q = some (decide (andV .u8 (shrV .u8 l q) 1 = 1)) := by
  obtain ⟨n, rfl⟩ : ∃ n, N = n + 300 := ⟨N - 300, by omega⟩
  obtain ⟨a, rfl⟩ := Int.eq_ofNat_of_zero_le hq.1
  obtain ⟨k, rfl⟩ := Int.eq_ofNat_of_zero_le hl.1
  have h := List.all_eq_true.1 (rbit_tab n) k (List.mem_range.2 (by omega))
  have h2 := List.all_eq_true.1 h a (List.mem_range.2 (by omega))
  exact of_decide_eq_true h2
theorem rGo_l0_ok (hN : 5000 ≤ N) (V : Valid p acc gd nd) {l : Int} (hl : 0 ≤ l ∧ l ≤ 255) : ∀ (m : Nat) (ref x : Int), 0 ≤ x → x ≤ 8 → 9 - x < m → Good acc.length nd ref nd.length (x - 1) →
    Ok (ref14_Go_l0 N nd l m ref x) fun r => ∃ q, r = .inr (q, true) ∧ q = goS nd l (9 - x).toNat ref
  | 0, ref, x, h0, h1, h2, _ => by omega
  | m + 1, ref, x, h0, h1, h2, hg => by
    have a2 := V.a2
    obtain ⟨f, hf⟩ : ∃ f, (9 - x).toNat = f + 1 := ⟨(8 - x).toNat, by omega⟩
    unfold ref14_Go_l0
    refine Ok.ite (fun hx => ?_) fun hx => by omega
    refine Ok.ite (fun hr => ?_) fun hr => ?_
    · rcases hg with ⟨_, hg⟩ | ⟨hg, _⟩
      · refine Ok.ask (by unfold in64; omega) (Ok.pure ⟨_, rfl, ?_⟩)
        rw [hf]; unfold goS; rw [if_pos hr]
      · omega
    · rcases hg with ⟨hg, _⟩ | ⟨hg, hg2, hg3⟩
      · omega
      obtain ⟨k1, k2, k3, k4⟩ := V.ok ref.toNat (by omega)
      have p8 := V.p8
      refine Ok.ite (fun _ => by omega) fun _ => ?_
      refine Ok.ask (by unfold idx; omega) ?_
      refine Ok.ite (fun _ => by omega) fun _ => ?_
      refine Ok.ite (fun _ => by omega) fun _ => ?_
      refine Ok.ite (fun _ => by omega) fun _ => ?_
      rw [rbit_eq hN hl ⟨k1, by omega⟩, Option.bind_some]
      have hf' : (9 - (x + 1)).toNat = f := by omega
      refine Ok.ite (fun hb => ?_) fun hb => ?_
      · have hb := of_decide_eq_true hb
        refine Ok.ask (by unfold in64; omega) ?_
        refine (rGo_l0_ok hN V hl m _ (x + 1) (by omega) (by omega) (by omega) ?_).mono fun r ⟨q, e, h3⟩ => ⟨q, e, ?_⟩
        · rcases k4 with k | ⟨k, kb, kc⟩
          · exact .inl k
          · exact .inr ⟨k, by omega, by omega⟩
        · rw [hf]; unfold goS; rw [if_neg hr, if_pos hb, h3, hf']
      · have hb : ¬ andV .u8 (shrV .u8 l (nd.getD ref.toNat default).P) 1 = 1 := fun h => hb (decide_eq_true h)
        refine Ok.ask (by unfold in64; omega) ?_
        refine (rGo_l0_ok hN V hl m _ (x + 1) (by omega) (by omega) (by omega) ?_).mono fun r ⟨q, e, h3⟩ => ⟨q, e, ?_⟩
        · rcases k3 with k | ⟨k, kb, kc⟩
          · exact .inl k
          · exact .inr ⟨k, by omega, by omega⟩
        · rw [hf]; unfold goS; rw [if_neg hr, if_neg hb, h3, hf']
theorem rGo_ok (hN : 5000 ≤ N) (V : Valid p acc gd nd) {l q : Nat} (hl : l ≤ 255) (hq : q < acc.length) : ref14_Go N nd (gd.getD q 0) (l : Int) = some ((stp nd gd q l : Int), true) := by
  have gl := V.gl
  obtain ⟨r, e, q', rfl, h2⟩ := rGo_l0_ok (N := N) hN V (l := (l : Int)) (by omega) N (gd.getD q 0) 0 (by omega) (by omega) (by omega) (V.gs q (by omega))
  have h5 : q' = go nd (gd.getD q 0) (l : Int) := h2
  unfold ref14_Go
  rw [e, Option.bind_some, h5, (stp_eq V hq l).1]
  rfl
theorem rNext_ok (hN : 5000 ≤ N) (V : Valid p acc gd nd) {l q : Nat} (hl : l ≤ 255) (hq : q < acc.length) : ref14_Next N p acc gd nd (q : Int) (l : Int) = some (stp nd gd q l : Int) := by
  have gl := V.gl
  unfold ref14_Next ask
  rw [if_pos (by unfold idx; omega), Int.toNat_natCast, rGo_ok hN V hl hq, Option.bind_some]
end
end Go.V.W

set_option linter.all false
set_option linter.unusedVariables false
set_option maxRecDepth 100000
namespace Go.V.W
open Go Go.Proofs
section
variable {N : Nat} {p : Int} {acc : List Bool} {gd : List Int} {nd : List Nd}
def spI (n : Nat) : List Int := [7700 + (n : Int), 7700 + ((n : Int) + 1), 7700 + ((n : Int) + 1 + 1)]
theorem set_app0 {α : Type} {l : List α} {a b c v : α} : (l ++ [a, b, c]).set l.length v = l ++ [v, b, c] := by
  rw [List.set_append_right _ _ (Nat.le_refl _), Nat.sub_self]; rfl
theorem set_app1 {α : Type} {l : List α} {a b c v : α} : (l ++ [a, b, c]).set (l.length + 1) v = l ++ [a, v, c] := by
  rw [List.set_append_right _ _ (by omega), show l.length + 1 - l.length = 1 by omega]; rfl
theorem set_app2 {α : Type} {l : List α} {a b c v : α} : (l ++ [a, b, c]).set (l.length + 2) v = l ++ [a, b, v] := by
  rw [List.set_append_right _ _ (by omega), show l.length + 2 - l.length = 2 by omega]; rfl
theorem three {α : Type} (l : List α) (z : α) : l ++ List.drop l.length (List.replicate (Int.toNat (((l.length : Nat) : Int) + 3)) z) = l ++ [z, z, z] := by
  rw [List.drop_replicate, show Int.toNat (((l.length : Nat) : Int) + 3) - l.length = 3 by omega]; rfl
theorem LentInts_ok (hN : 5000 ≤ N) {l : List Int} (hl : l.length ≤ 100000) : kit_LentInts N l = some (l, spI l.length) := by
  obtain ⟨n, rfl⟩ : ∃ n, N = n + 4 := ⟨N - 4, by omega⟩
  have e0 : Int.toNat ((l.length : Nat) : Int) = l.length := by omega
  have e1 : Int.toNat (((l.length : Nat) : Int) + 1) = l.length + 1 := by omega
  have e2 : Int.toNat (((l.length : Nat) : Int) + 1 + 1) = l.length + 2 := by omega
  have ll : ∀ a b c : Int, (l ++ [a, b, c]).length = l.length + 3 := fun a b c => by simp
  unfold kit_LentInts
  rw [three]
  unfold ask
  rw [if_pos (by unfold in64; omega), if_pos (by omega), if_pos (by simp; omega)]
  unfold kit_LentInts_l0 ask
  rw [ll, if_pos (by omega), if_pos (by unfold in64; omega), if_pos (by unfold idx; omega), if_pos (by unfold in64; omega), e0, set_app0]
  unfold kit_LentInts_l0 ask
  rw [ll, if_pos (by omega), if_pos (by unfold in64; omega), if_pos (by unfold idx; omega), if_pos (by unfold in64; omega), e1, set_app1]
  unfold kit_LentInts_l0 ask
  rw [ll, if_pos (by omega), if_pos (by unfold in64; omega), if_pos (by unfold idx; omega), if_pos (by unfold in64; omega), e2, set_app2]
  unfold kit_LentInts_l0
  rw [ll, if_neg (by omega), Option.bind_some, if_pos (by rw [ll]; omega), List.take_left, List.drop_left, Nat.sub_self, List.replicate_zero, List.append_nil]
  rfl
theorem LentAuto_ok (hN : 5000 ≤ N) (ha : acc.length ≤ 100000) (hg : gd.length ≤ 100000) (hn : nd.length ≤ 100000) : kit_LentAuto N p acc gd nd = some (p, (acc, [false, false, false]), (gd, spI gd.length), (nd, [default, default, default])) := by
  have ea : acc ++ List.drop acc.length (List.replicate (Int.toNat ((acc.length : Nat) : Int)) false) = acc := by
    rw [List.drop_replicate, show Int.toNat ((acc.length : Nat) : Int) - acc.length = 0 by omega, List.replicate_zero, List.append_nil]
  have en : nd ++ List.drop nd.length (List.replicate (Int.toNat ((nd.length : Nat) : Int)) (default : Nd)) = nd := by
    rw [List.drop_replicate, show Int.toNat ((nd.length : Nat) : Int) - nd.length = 0 by omega, List.replicate_zero, List.append_nil]
  unfold kit_LentAuto
  rw [LentInts_ok hN hg, Option.bind_some]
  unfold ask
  rw [if_pos (by unfold in64; omega), if_pos (by omega), if_pos (by simp), if_pos (by unfold in64; omega), if_pos (by omega), if_pos (by simp), ea, en, show Int.toNat (((acc.length : Nat) : Int) + 3) - Int.toNat ((acc.length : Nat) : Int) = 3 by omega, show Int.toNat (((nd.length : Nat) : Int) + 3) - Int.toNat ((nd.length : Nat) : Int) = 3 by omega]
  rfl
/-! ### the same -/
theorem SameI_self_l0 {a : List Int} (h : a.length ≤ 200000) : ∀ (m i : Nat), i ≤ a.length → a.length - i < m → kit_SameInts_l0 N a a m (i : Int) = some (.inl ())
  | 0, i, _, h => by omega
  | m + 1, i, k0, k1 => by
    unfold kit_SameInts_l0 ask
    by_cases hi : (i : Int) < (a.length : Int)
    · rw [if_pos hi, if_pos (by unfold idx; omega), if_pos (by unfold idx; omega), if_pos rfl, if_pos (by unfold in64; omega), show ((i : Int) + 1) = ((i + 1 : Nat) : Int) by omega, SameI_self_l0 h m (i + 1) (by omega) (by omega)]
    · rw [if_neg hi]
theorem SameI_self {a : List Int} (h : a.length ≤ 200000) (hN : a.length < N) : kit_SameInts N a a = some true := by
  have h2 := SameI_self_l0 (N := N) h N 0 (by omega) (by omega)
  rw [show ((0 : Nat) : Int) = 0 from rfl] at h2
  unfold kit_SameInts
  rw [if_pos rfl, h2]
  rfl
theorem SameB_self_l0 {a : List Bool} (h : a.length ≤ 200000) : ∀ (m i : Nat), i ≤ a.length → a.length - i < m → kit_SameBools_l0 N a a m (i : Int) = some (.inl ())
  | 0, i, _, h => by omega
  | m + 1, i, k0, k1 => by
    unfold kit_SameBools_l0 ask
    by_cases hi : (i : Int) < (a.length : Int)
    · rw [if_pos hi, if_pos (by unfold idx; omega), if_pos (by unfold idx; omega), if_pos rfl, if_pos (by unfold in64; omega), show ((i : Int) + 1) = ((i + 1 : Nat) : Int) by omega, SameB_self_l0 h m (i + 1) (by omega) (by omega)]
    · rw [if_neg hi]
theorem SameB_self {a : List Bool} (h : a.length ≤ 200000) (hN : a.length < N) : kit_SameBools N a a = some true := by
  have h2 := SameB_self_l0 (N := N) h N 0 (by omega) (by omega)
  rw [show ((0 : Nat) : Int) = 0 from rfl] at h2
  unfold kit_SameBools
  rw [if_pos rfl, h2]
  rfl
theorem SameN_self_l0 {a : List Nd} (h : a.length ≤ 200000) : ∀ (m i : Nat), i ≤ a.length → a.length - i < m → kit_SameNodes_l0 N a a m (i : Int) = some (.inl ())
  | 0, i, _, h => by omega
  | m + 1, i, k0, k1 => by
    unfold kit_SameNodes_l0 ask
    by_cases hi : (i : Int) < (a.length : Int)
    · rw [if_pos hi, if_pos (by unfold idx; omega), if_pos (by unfold idx; omega), if_pos rfl, if_pos (by unfold in64; omega), show ((i : Int) + 1) = ((i + 1 : Nat) : Int) by omega, SameN_self_l0 h m (i + 1) (by omega) (by omega)]
    · rw [if_neg hi]
theorem SameN_self {a : List Nd} (h : a.length ≤ 200000) (hN : a.length < N) : kit_SameNodes N a a = some true := by
  have h2 := SameN_self_l0 (N := N) h N 0 (by omega) (by omega)
  rw [show ((0 : Nat) : Int) = 0 from rfl] at h2
  unfold kit_SameNodes
  rw [if_pos rfl, h2]
  rfl
/-! ### kept -/
theorem KeptInts_ok {l : List Int} (hN : 5000 ≤ N) (hl : l.length + 10 ≤ N) (h2 : l.length ≤ 100000) : kit_KeptInts N l (spI l.length) l = some true := by
  have e : (l ++ spI l.length).length = l.length + 3 := by simp [spI]
  unfold kit_KeptInts ask
  rw [if_pos rfl, LentInts_ok hN h2, Option.bind_some, if_pos (by unfold in64; omega), if_pos (by rw [e]; omega), List.take_of_length_le (by rw [e]; omega), SameI_self (by rw [e]; omega) (by rw [e]; omega)]
  rfl
theorem getD_rest {α : Type} {l : List α} {z : α} {i : Nat} (h : l.length ≤ i) : (l ++ [z, z, z]).getD i z = z := by
  rw [List.getD_eq_getElem?_getD, List.getElem?_append_right h, ← List.getD_eq_getElem?_getD]
  exact getD_rep (n := 3)
theorem KeptA_l0 (h : acc.length ≤ 100000) : ∀ (m i : Nat), acc.length ≤ i → acc.length + 3 - i < m → kit_KeptAuto_l0 N acc [false, false, false] m (i : Int) = some (.inl ())
  | 0, i, _, h => by omega
  | m + 1, i, k0, k1 => by
    have e : (acc ++ [false, false, false]).length = acc.length + 3 := by simp
    unfold kit_KeptAuto_l0 ask
    rw [e]
    by_cases hi : (i : Int) < ((acc.length + 3 : Nat) : Int)
    · rw [if_pos hi, if_pos (by unfold idx; omega), Int.toNat_natCast i, getD_rest k0, if_neg (by simp), if_pos (by unfold in64; omega), show ((i : Int) + 1) = ((i + 1 : Nat) : Int) by omega, KeptA_l0 h m (i + 1) (by omega) (by omega)]
    · rw [if_neg hi]
theorem KeptA_l1 (h : nd.length ≤ 100000) : ∀ (m i : Nat), nd.length ≤ i → nd.length + 3 - i < m → kit_KeptAuto_l1 N nd [default, default, default] m (i : Int) = some (.inl ())
  | 0, i, _, h => by omega
  | m + 1, i, k0, k1 => by
    have e : (nd ++ [default, default, default]).length = nd.length + 3 := by simp
    unfold kit_KeptAuto_l1 ask
    rw [e]
    by_cases hi : (i : Int) < ((nd.length + 3 : Nat) : Int)
    · rw [if_pos hi, if_pos (by unfold idx; omega), Int.toNat_natCast i, getD_rest k0, if_pos (show (default : Nd) = ⟨0, 0, 0⟩ from rfl), if_pos (by unfold in64; omega), show ((i : Int) + 1) = ((i + 1 : Nat) : Int) by omega, KeptA_l1 h m (i + 1) (by omega) (by omega)]
    · rw [if_neg hi]
theorem KeptAuto_ok (hN : 5000 ≤ N) (ha : acc.length ≤ 4000) (hg : gd.length ≤ 4000) (hn : nd.length ≤ 4000) : kit_KeptAuto N p acc [false, false, false] gd (spI gd.length) nd [default, default, default] p acc gd nd = some true := by
  have h1 : kit_SameAuto N p acc gd nd p acc gd nd = some true := by
    unfold kit_SameAuto
    rw [if_pos rfl, SameB_self (by omega) (by omega), Option.bind_some, if_pos rfl, SameI_self (by omega) (by omega), Option.bind_some, if_pos rfl, SameN_self (by omega) (by omega), Option.bind_some]
  unfold kit_KeptAuto
  rw [h1, Option.bind_some, if_pos rfl, KeptInts_ok hN (by omega) (by omega), Option.bind_some, if_pos rfl, KeptA_l0 (by omega) N acc.length (by omega) (by omega), Option.bind_some]
  show Option.bind (kit_KeptAuto_l1 N nd [default, default, default] N ((nd.length : Nat) : Int)) _ = _
  rw [KeptA_l1 (by omega) N nd.length (by omega) (by omega)]
  rfl
end
end Go.V.W
