/- Plain theory: the document's layers 1 and 14 answer as the program does. No program. -/
import Derived.Test.YtljkomkejdngcaaPC
set_option linter.all false
set_option linter.unusedVariables false
set_option maxRecDepth 100000
namespace Go.V
open Go Go.Proofs
section
variable {N : Nat} {p : Int} {acc : List Bool} {gd : List Int} {nd : List Nd}
theorem fits_eq (r a q : Int) : ref14_fits N p acc gd nd r a q = guard_good N p acc gd nd r a q := rfl
theorem rCheck_l2_eq : ∀ (m : Nat) (x : Int), ref14_Check_l2 N p acc gd nd m x = guard_Check_l1 N p acc gd nd m x
  | 0, x => rfl
  | m + 1, x => by
    unfold ref14_Check_l2 guard_Check_l1
    simp only [rCheck_l2_eq m, fits_eq]
theorem rCheck_l1_ok {i : Nat} (hi : i < nd.length) (hl : nd.length ≤ 5000) : ∀ (m k : Nat), k ≤ i → i - k < m → (∀ j, j < k → nd.getD j default ≠ nd.getD i default) →
    (ref14_Check_l1 N nd (i : Int) m (k : Int) = some (.inl ()) ∧ ∀ j, j < i → nd.getD j default ≠ nd.getD i default) ∨ (ref14_Check_l1 N nd (i : Int) m (k : Int) = some (.inr 12) ∧ ∃ j, j < i ∧ nd.getD j default = nd.getD i default)
  | 0, k, _, h, _ => by omega
  | m + 1, k, k0, k1, hk => by
    unfold ref14_Check_l1
    have eta : (⟨(nd.getD i default).P, (nd.getD i default).Lo, (nd.getD i default).Hi⟩ : Nd) = nd.getD i default := rfl
    rw [Int.toNat_natCast i, Int.toNat_natCast k, eta]
    unfold ask
    by_cases hx : k < i
    · rw [if_pos (show (k : Int) < (i : Int) by omega), if_pos (by unfold idx; omega)]
      by_cases c : nd.getD k default = nd.getD i default
      · rw [if_pos c]
        exact .inr ⟨rfl, k, hx, c⟩
      · rw [if_neg c, if_pos (by unfold in64; omega), show ((k : Int) + 1) = ((k + 1 : Nat) : Int) by omega]
        refine rCheck_l1_ok hi hl m (k + 1) (by omega) (by omega) fun j hj => ?_
        by_cases e : j = k
        · rw [e]; exact c
        · exact hk j (by omega)
    · rw [if_neg (show ¬ (k : Int) < (i : Int) by omega)]
      exact .inl ⟨rfl, fun j hj => hk j (by omega)⟩
theorem rCheck_l0_eq (hN : 5000 ≤ N) (ha : acc.length ≤ 1000) (hl : nd.length ≤ 4096) (hw : ∀ x ∈ nd, x.wf) : ∀ (m i : Nat) (met : List (Nd × Bool)), i ≤ nd.length → nd.length - i < m → (∀ x ∈ met, x.2 = true) → (∀ k, (∃ v, mget met k = some v) ↔ ∃ j, j < i ∧ nd.getD j default = k) →
    guard_Check_l0 N p acc gd nd m met (i : Int) = ref14_Check_l0 N p acc gd nd m (i : Int)
  | 0, i, met, _, h, _, _ => by omega
  | m + 1, i, met, k0, k1, ht, hm => by
    unfold guard_Check_l0 ref14_Check_l0
    have eta : (⟨(nd.getD i default).P, (nd.getD i default).Lo, (nd.getD i default).Hi⟩ : Nd) = nd.getD i default := rfl
    rw [Int.toNat_natCast i, eta]
    unfold ask
    by_cases hx : (i : Int) < (nd.length : Int)
    · have hi : i < nd.length := by omega
      have hix : idx (i : Int) nd.length := by unfold idx; omega
      have hin : in64 ((i : Int) + 1) := by unfold in64; omega
      rw [if_pos hx, if_pos hx, if_pos hix, if_pos hix]
      by_cases c1 : (nd.getD i default).P < 0
      · rw [if_pos c1, if_pos c1]
      rw [if_neg c1, if_neg c1]
      by_cases c2 : p ≤ (nd.getD i default).P
      · rw [if_pos c2, if_pos c2]
      rw [if_neg c2, if_neg c2]
      by_cases c3 : (nd.getD i default).Lo = (nd.getD i default).Hi
      · rw [if_pos c3, if_pos c3]
      rw [if_neg c3, if_neg c3]
      have hok : ndOk (nd.getD i default) := by
        have hmem : nd.getD i default ∈ nd := by rw [List.getD_eq_getElem?_getD, List.getElem?_eq_getElem hi]; exact List.getElem_mem hi
        have := hw _ hmem
        unfold Nd.wf W64 at this
        unfold ndOk in64
        omega
      rw [if_pos hok]
      obtain ⟨b1, e1, _⟩ := guard_good_ok (N := N) (p := p) (acc := acc) (gd := gd) (nd := nd) (ref := (nd.getD i default).Lo) (below := (i : Int)) (above := (nd.getD i default).P) (by omega) (by omega)
      obtain ⟨b2, e2, _⟩ := guard_good_ok (N := N) (p := p) (acc := acc) (gd := gd) (nd := nd) (ref := (nd.getD i default).Hi) (below := (i : Int)) (above := (nd.getD i default).P) (by omega) (by omega)
      have f1 : ref14_fits N p acc gd nd (nd.getD i default).Lo (i : Int) (nd.getD i default).P = some b1 := e1
      have f2 : ref14_fits N p acc gd nd (nd.getD i default).Hi (i : Int) (nd.getD i default).P = some b2 := e2
      have h1 := rCheck_l1_ok (N := N) hi (by omega) N 0 (by omega) (by omega) fun j hj => by omega
      rw [show ((0 : Nat) : Int) = 0 from rfl] at h1
      rcases h1 with ⟨h1, h2⟩ | ⟨h1, h2⟩
      · have hnone : mget met (nd.getD i default) = none := by
          cases h : mget met (nd.getD i default) with
          | none => rfl
          | some v =>
            obtain ⟨j, hj, e⟩ := (hm (nd.getD i default)).1 ⟨v, h⟩
            exact absurd e (h2 j hj)
        have ih := rCheck_l0_eq hN ha hl hw m (i + 1) (met ++ [(nd.getD i default, true)]) (by omega) (by omega) (fun x hx => by
          rcases List.mem_append.1 hx with h | h
          · exact ht x h
          · rw [List.mem_singleton.1 h]) (fun k => by
          rw [mget_app]
          constructor
          · rintro ⟨v, h⟩
            cases h3 : mget met k with
            | some u =>
              obtain ⟨j, hj, e⟩ := (hm k).1 ⟨u, h3⟩
              exact ⟨j, by omega, e⟩
            | none =>
              rw [h3] at h
              by_cases c : nd.getD i default = k
              · exact ⟨i, by omega, c⟩
              · simp only [if_neg c] at h
                cases h
          · rintro ⟨j, hj, e⟩
            cases h3 : mget met k with
            | some u => exact ⟨u, rfl⟩
            | none =>
              by_cases c : j < i
              · obtain ⟨v, h4⟩ := (hm k).2 ⟨j, c, e⟩
                rw [h3] at h4
                cases h4
              · obtain rfl : j = i := by omega
                exact ⟨true, by simp only [if_pos e]⟩)
        rw [hnone, show Option.getD (none : Option Bool) false = false from rfl, if_neg (show ¬ (false = true) from Bool.false_ne_true), e1, f1, Option.bind_some, Option.bind_some]
        cases b1 with
        | false => rw [if_neg (show ¬ (false = true) from Bool.false_ne_true), if_neg (show ¬ (false = true) from Bool.false_ne_true)]
        | true =>
          rw [if_pos (show true = true from rfl), if_pos (show true = true from rfl), e2, f2, Option.bind_some, Option.bind_some]
          cases b2 with
          | false => rw [if_neg (show ¬ (false = true) from Bool.false_ne_true), if_neg (show ¬ (false = true) from Bool.false_ne_true)]
          | true =>
            rw [if_pos (show true = true from rfl), if_pos (show true = true from rfl), h1, Option.bind_some, if_pos (show (none : Option Bool) = none from rfl), if_pos hin, Sum.elim_inl, if_pos hin, show ((i : Int) + 1) = ((i + 1 : Nat) : Int) by omega, ih]
      · obtain ⟨v, hv⟩ := (hm (nd.getD i default)).2 h2
        have hv2 : v = true := by
          have : (nd.getD i default, v) ∈ met := by
            clear hm ht h1 h2
            induction met with
            | nil => cases hv
            | cons y met ih =>
              obtain ⟨a, b⟩ := y
              unfold mget at hv
              by_cases c : a = nd.getD i default
              · rw [if_pos c] at hv
                cases hv
                rw [c]
                exact List.mem_cons_self
              · rw [if_neg c] at hv
                exact List.mem_cons_of_mem _ (ih hv)
          exact ht _ this
        rw [hv, hv2, show Option.getD (some true) false = true from rfl, if_pos (show true = true from rfl), f1, Option.bind_some]
        cases b1 with
        | false => rw [if_neg (show ¬ (false = true) from Bool.false_ne_true)]
        | true =>
          rw [if_pos (show true = true from rfl), f2, Option.bind_some]
          cases b2 with
          | false => rw [if_neg (show ¬ (false = true) from Bool.false_ne_true)]
          | true => rw [if_pos (show true = true from rfl), h1, Option.bind_some, Sum.elim_inr]
    · rw [if_neg hx, if_neg hx]
theorem rCheck_eq (hN : 5000 ≤ N) (hw : ∀ x ∈ nd, x.wf) : ref14_Check N p acc gd nd = guard_Check N p acc gd nd := by
  unfold ref14_Check guard_Check
  by_cases c1 : p < 0
  · rw [if_pos c1, if_pos c1]
  rw [if_neg c1, if_neg c1]
  by_cases c2 : 8 < p
  · rw [if_pos c2, if_pos c2]
  rw [if_neg c2, if_neg c2]
  by_cases c3 : ((acc.length : Nat) : Int) < 1
  · rw [if_pos c3, if_pos c3]
  rw [if_neg c3, if_neg c3]
  by_cases c4 : 256 < ((acc.length : Nat) : Int)
  · rw [if_pos c4, if_pos c4]
  rw [if_neg c4, if_neg c4]
  by_cases c5 : ((gd.length : Nat) : Int) = ((acc.length : Nat) : Int)
  · rw [if_pos c5, if_pos c5]
    by_cases c6 : 4096 < ((nd.length : Nat) : Int)
    · rw [if_pos c6, if_pos c6]
    rw [if_neg c6, if_neg c6]
    have h := rCheck_l0_eq (N := N) (p := p) (acc := acc) (gd := gd) hN (by omega) (by omega) hw N 0 [] (by omega) (by omega) (fun x h => by cases h) (fun k => ⟨(fun ⟨v, h⟩ => by cases h), (fun ⟨j, h, _⟩ => by omega)⟩)
    rw [show ((0 : Nat) : Int) = 0 from rfl] at h
    rw [h]
    simp only [rCheck_l2_eq]
  · rw [if_neg c5, if_neg c5]

/-! ### letters -/
theorem rFits_tab (n : Nat) : ((List.range 256).all fun l => (List.range 9).all fun q => decide (ref01_Fits (n + 300) (q : Int) (l : Int) = letter_Fits (n + 300) (q : Int) (l : Int))) = true := by kernel_rfl
theorem rFits_eq (hN : 5000 ≤ N) (hp : 0 ≤ p ∧ p ≤ 8) {l : Int} (hl : 0 ≤ l ∧ l ≤ 255) : ref01_Fits N p l = letter_Fits N p l := by
  obtain ⟨n, rfl⟩ : ∃ n, N = n + 300 := ⟨N - 300, by omega⟩
  obtain ⟨q, rfl⟩ := Int.eq_ofNat_of_zero_le hp.1
  obtain ⟨k, rfl⟩ := Int.eq_ofNat_of_zero_le hl.1
  have h := List.all_eq_true.1 (rFits_tab n) k (List.mem_range.2 (by omega))
  have h2 := List.all_eq_true.1 h q (List.mem_range.2 (by omega))
  exact of_decide_eq_true h2
/-! ### where letters lead -/
theorem rbit_tab (n : Nat) : ((List.range 256).all fun l => (List.range 8).all fun q => decide (ref14_bit (n + 300) (l : Int) (q : Int) = some (decide (andV .u8 (shrV .u8 (l : Int) (q : Int)) 1 = 1)))) = true := by kernel_rfl
theorem rbit_eq (hN : 5000 ≤ N) {l q : Int} (hl : 0 ≤ l ∧ l ≤ 255) (hq : 0 ≤ q ∧ q ≤ 7) : ref14_bit N l q = some (decide (andV .u8 (shrV .u8 l q) 1 = 1)) := by
  obtain ⟨n, rfl⟩ : ∃ n, N = n + 300 := ⟨N - 300, by omega⟩
  obtain ⟨a, rfl⟩ := Int.eq_ofNat_of_zero_le hq.1
  obtain ⟨k, rfl⟩ := Int.eq_ofNat_of_zero_le hl.1
  have h := List.all_eq_true.1 (rbit_tab n) k (List.mem_range.2 (by omega))
  have h2 := List.all_eq_true.1 h a (List.mem_range.2 (by omega))
  exact of_decide_eq_true h2
theorem rGo_l0_ok (hN : 5000 ≤ N) (V : Valid p acc gd nd) {l : Int} (hl : 0 ≤ l ∧ l ≤ 255) : ∀ (m : Nat) (ref x : Int), 0 ≤ x → x ≤ 8 → 9 - x < m → Good acc.length nd ref nd.length (x - 1) →
    Ok (ref14_Go_l0 N nd l m ref x) fun r => ∃ q, r = .inr (q, true) ∧ q = goS nd l (9 - x).toNat ref
  | 0, ref, x, h0, h1, h2, _ => by omega
  | m + 1, ref, x, h0, h1, h2, hg => by
    have a2 := V.a2
    obtain ⟨f, hf⟩ : ∃ f, (9 - x).toNat = f + 1 := ⟨(8 - x).toNat, by omega⟩
    unfold ref14_Go_l0
    refine Ok.ite (fun hx => ?_) fun hx => by omega
    refine Ok.ite (fun hr => ?_) fun hr => ?_
    · rcases hg with ⟨_, hg⟩ | ⟨hg, _⟩
      · refine Ok.ask (by unfold in64; omega) (Ok.pure ⟨_, rfl, ?_⟩)
        rw [hf]; unfold goS; rw [if_pos hr]
      · omega
    · rcases hg with ⟨hg, _⟩ | ⟨hg, hg2, hg3⟩
      · omega
      obtain ⟨k1, k2, k3, k4⟩ := V.ok ref.toNat (by omega)
      have p8 := V.p8
      refine Ok.ite (fun _ => by omega) fun _ => ?_
      refine Ok.ask (by unfold idx; omega) ?_
      refine Ok.ite (fun _ => by omega) fun _ => ?_
      refine Ok.ite (fun _ => by omega) fun _ => ?_
      refine Ok.ite (fun _ => by omega) fun _ => ?_
      rw [rbit_eq hN hl ⟨k1, by omega⟩, Option.bind_some]
      have hf' : (9 - (x + 1)).toNat = f := by omega
      refine Ok.ite (fun hb => ?_) fun hb => ?_
      · have hb := of_decide_eq_true hb
        refine Ok.ask (by unfold in64; omega) ?_
        refine (rGo_l0_ok hN V hl m _ (x + 1) (by omega) (by omega) (by omega) ?_).mono fun r ⟨q, e, h3⟩ => ⟨q, e, ?_⟩
        · rcases k4 with k | ⟨k, kb, kc⟩
          · exact .inl k
          · exact .inr ⟨k, by omega, by omega⟩
        · rw [hf]; unfold goS; rw [if_neg hr, if_pos hb, h3, hf']
      · have hb : ¬ andV .u8 (shrV .u8 l (nd.getD ref.toNat default).P) 1 = 1 := fun h => hb (decide_eq_true h)
        refine Ok.ask (by unfold in64; omega) ?_
        refine (rGo_l0_ok hN V hl m _ (x + 1) (by omega) (by omega) (by omega) ?_).mono fun r ⟨q, e, h3⟩ => ⟨q, e, ?_⟩
        · rcases k3 with k | ⟨k, kb, kc⟩
          · exact .inl k
          · exact .inr ⟨k, by omega, by omega⟩
        · rw [hf]; unfold goS; rw [if_neg hr, if_neg hb, h3, hf']
theorem rGo_ok (hN : 5000 ≤ N) (V : Valid p acc gd nd) {l q : Nat} (hl : l ≤ 255) (hq : q < acc.length) : ref14_Go N nd (gd.getD q 0) (l : Int) = some ((stp nd gd q l : Int), true) := by
  have gl := V.gl
  obtain ⟨r, e, q', rfl, h2⟩ := rGo_l0_ok (N := N) hN V (l := (l : Int)) (by omega) N (gd.getD q 0) 0 (by omega) (by omega) (by omega) (V.gs q (by omega))
  have h5 : q' = go nd (gd.getD q 0) (l : Int) := h2
  unfold ref14_Go
  rw [e, Option.bind_some, h5, (stp_eq V hq l).1]
  rfl
theorem rNext_ok (hN : 5000 ≤ N) (V : Valid p acc gd nd) {l q : Nat} (hl : l ≤ 255) (hq : q < acc.length) : ref14_Next N p acc gd nd (q : Int) (l : Int) = some (stp nd gd q l : Int) := by
  have gl := V.gl
  unfold ref14_Next ask
  rw [if_pos (by unfold idx; omega), Int.toNat_natCast, rGo_ok hN V hl hq, Option.bind_some]
end
end Go.V
