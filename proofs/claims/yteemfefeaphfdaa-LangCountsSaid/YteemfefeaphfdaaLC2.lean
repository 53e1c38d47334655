/- Plain theory: what is counted, and what is gone over. No program. -/
import Derived.Test.YteemfefeaphfdaaLC
set_option linter.all false
set_option linter.unusedVariables false
set_option maxRecDepth 1000000
namespace Go.V
open Go
/-- a number for each state -/
def Vec (v : List (Int × Bool)) (n : Nat) (f : Nat → Nat) : Prop := v.length = n ∧ ∀ q, q < n → v.getD q (0, false) = ((f q : Int), false)
theorem Vec.rep (n : Nat) : Vec (List.replicate n ((0, false) : Int × Bool)) n fun _ => 0 := ⟨List.length_replicate .., fun q _ => getD_rep⟩
theorem Vec.set {v : List (Int × Bool)} {n : Nat} {f : Nat → Nat} (h : Vec v n f) {x : Nat} (hx : x < n) (a : Nat) : Vec (v.set x ((a : Int), false)) n fun q => if x = q then a else f q := by
  refine ⟨by rw [List.length_set]; exact h.1, fun q hq => ?_⟩
  rw [getD_set (by rw [h.1]; exact hx)]
  by_cases c : x = q
  · rw [if_pos c]; dsimp only; rw [if_pos c]
  · rw [if_neg c]; dsimp only; rw [if_neg c]; exact h.2 q hq
theorem Vec.congr {v : List (Int × Bool)} {n : Nat} {f g : Nat → Nat} (h : Vec v n f) (e : ∀ q, q < n → f q = g q) : Vec v n g := ⟨h.1, fun q hq => by rw [h.2 q hq, e q hq]⟩
theorem count_add_ok {N : Nat} {a b : Nat} (h : a + b < 18446744073709551616) : lang_count_add N ((a : Int), false) ((b : Int), false) = some (((a + b : Nat) : Int), false) := by
  unfold lang_count_add ask
  dsimp only
  have e1 : ((a : Int) + (b : Int) + 0) % 18446744073709551616 = ((a + b : Nat) : Int) := by rw [Int.emod_eq_of_lt (by omega) (by omega)]; omega
  have e2 : ((a : Int) + (b : Int) + 0) / 18446744073709551616 = 0 := Int.ediv_eq_zero_of_lt (by omega) (by omega)
  rw [if_pos ⟨by omega, by omega, by omega, by omega⟩, if_neg (by simp), if_neg (by simp), e1, e2]
  rfl
section
variable {N : Nat} {p : Int} {acc : List Bool} {gd : List Int} {nd : List Nd}
theorem counts_l0_ok (hn : acc.length ≤ 1000) : ∀ (m x : Nat) (v : List (Int × Bool)), x ≤ acc.length → acc.length - x < m → Vec v acc.length (fun q => if q < x then (wds nd gd acc (two p) 0 q).length else 0) →
    Ok (lang_counts_l0 N acc m v (x : Int)) fun v => Vec v acc.length fun q => (wds nd gd acc (two p) 0 q).length := by
  intro m
  induction m with
  | zero => intro x v _ h _; omega
  | succ m ih =>
    intro x v k1 k2 hv
    unfold lang_counts_l0
    refine Ok.ite (fun hx => ?_) fun hx => Ok.pure (hv.congr fun q hq => if_pos (by omega))
    have hx' : x < acc.length := by omega
    rw [Int.toNat_natCast]
    refine Ok.ask (by unfold idx; omega) ?_
    have e0 : v.getD x (0, false) = (((0 : Nat) : Int), false) := by rw [hv.2 x hx']; show (((if x < x then _ else 0 : Nat) : Int), false) = _; rw [if_neg (by omega)]
    refine Ok.ite (fun ha => ?_) fun ha => ?_
    · refine Ok.ask (by unfold idx; rw [hv.1]; omega) (Ok.ask (by unfold in64; omega) ?_)
      rw [e0, show ((x : Int) + 1) = ((x + 1 : Nat) : Int) by omega]
      refine ih (x + 1) _ (by omega) (by omega) ((hv.set hx' 1).congr fun q hq => ?_)
      by_cases c : x = q
      · rw [if_pos c, if_pos (by omega), ← c]
        unfold wds
        rw [if_pos ha]
        rfl
      · rw [if_neg c]
        by_cases d : q < x
        · rw [if_pos d, if_pos (by omega)]
        · rw [if_neg d, if_neg (by omega)]
    · refine Ok.ask (by unfold in64; omega) ?_
      rw [show ((x : Int) + 1) = ((x + 1 : Nat) : Int) by omega]
      refine ih (x + 1) _ (by omega) (by omega) (hv.congr fun q hq => ?_)
      by_cases c : x = q
      · rw [if_neg (by omega), if_pos (by omega), ← c]
        unfold wds
        rw [if_neg ha]
        rfl
      · by_cases d : q < x
        · rw [if_pos d, if_pos (by omega)]
        · rw [if_neg d, if_neg (by omega)]
theorem counts_l3_ok (V : Valid p acc gd nd) {wh : List (List Int)} (T : Tab nd gd acc.length (two p) wh) {v : List (Int × Bool)} {k : Nat} (hk : k ≤ 2) (hv : Vec v acc.length fun q => (wds nd gd acc (two p) k q).length) {q : Nat} (hq : q < acc.length) {f : Nat → Nat} :
    ∀ (m x : Nat) (w : List (Int × Bool)), x ≤ two p → two p - x < m → Vec w acc.length f → f q + (wfr nd gd acc (two p) k q x).length = (wds nd gd acc (two p) (k + 1) q).length →
    Ok (lang_counts_l3 N wh v (q : Int) m w (x : Int)) fun w => Vec w acc.length fun q' => if q = q' then (wds nd gd acc (two p) (k + 1) q).length else f q' := by
  have sh := shl_two ⟨V.p0, V.p8⟩
  have a2 := V.a2
  intro m
  induction m generalizing f with
  | zero => intro x w _ h _ _; omega
  | succ m ih =>
    intro x w k1 k2 hw hf
    unfold lang_counts_l3
    rw [Int.toNat_natCast, T.row q hq]
    refine Ok.ite (fun hx => ?_) fun hx => Ok.pure (hw.congr fun q' hq' => ?_)
    · have hx' : x < two p := by omega
      have st := (stp_eq V hq x).2
      have len3 := wds_len3 (nd := nd) (gd := gd) (acc := acc) (L := two p) sh.2.2 (show k + 1 ≤ 3 by omega) q
      rw [wfr_step hx', List.length_append, List.length_map] at hf
      rw [Int.toNat_natCast, T.at_ q x hq hx', Int.toNat_natCast, hw.2 q hq, hv.2 _ st, hw.1, hv.1]
      dsimp only
      refine Ok.ask (by unfold idx; omega) (Ok.ask (by unfold idx; omega) (Ok.ask (by unfold idx; omega) ?_))
      rw [count_add_ok (by omega), Option.bind_some]
      refine Ok.ask (by unfold in64; omega) ?_
      rw [show ((x : Int) + 1) = ((x + 1 : Nat) : Int) by omega]
      refine (ih (x + 1) _ (by omega) (by omega) (hw.set hq _) (by rw [if_pos rfl]; omega)).mono fun w hw => hw.congr fun q' hq' => ?_
      by_cases c : q = q'
      · rw [if_pos c, if_pos c]
      · rw [if_neg c, if_neg c, if_neg c]
    · have : x = two p := by omega
      rw [this, wfr_end] at hf
      by_cases c : q = q'
      · rw [if_pos c, ← c]; simpa using hf
      · rw [if_neg c]
theorem counts_l2_ok (hN : 5000 ≤ N) (V : Valid p acc gd nd) {wh : List (List Int)} (T : Tab nd gd acc.length (two p) wh) {v : List (Int × Bool)} {k : Nat} (hk : k ≤ 2) (hv : Vec v acc.length fun q => (wds nd gd acc (two p) k q).length) :
    ∀ (m x : Nat) (w : List (Int × Bool)), x ≤ acc.length → acc.length - x < m → Vec w acc.length (fun q => if q < x then (wds nd gd acc (two p) (k + 1) q).length else 0) →
    Ok (lang_counts_l2 N wh v m w (x : Int)) fun w => Vec w acc.length fun q => (wds nd gd acc (two p) (k + 1) q).length := by
  have sh := shl_two ⟨V.p0, V.p8⟩
  have a2 := V.a2
  intro m
  induction m with
  | zero => intro x w _ h _; omega
  | succ m ih =>
    intro x w k1 k2 hw
    unfold lang_counts_l2
    rw [T.len]
    refine Ok.ite (fun hx => ?_) fun hx => Ok.pure (hw.congr fun q hq => if_pos (by omega))
    have hx' : x < acc.length := by omega
    refine Ok.ask (by unfold idx; omega) ?_
    refine (counts_l3_ok V T hk hv hx' N 0 w (by omega) (by omega) hw (by rw [if_neg (by omega), wds_succ]; omega)).bind fun w' hw' => ?_
    refine Ok.ask (by unfold in64; omega) ?_
    rw [show ((x : Int) + 1) = ((x + 1 : Nat) : Int) by omega]
    refine ih (x + 1) _ (by omega) (by omega) (hw'.congr fun q hq => ?_)
    by_cases c : x = q
    · rw [if_pos c, if_pos (by omega), c]
    · rw [if_neg c]
      by_cases d : q < x
      · rw [if_pos d, if_pos (by omega)]
      · rw [if_neg d, if_neg (by omega)]
theorem counts_l1_ok (hN : 5000 ≤ N) (V : Valid p acc gd nd) {wh : List (List Int)} (T : Tab nd gd acc.length (two p) wh) {n : Nat} (hn : n ≤ 3) :
    ∀ (m k : Nat) (v : List (Int × Bool)), k ≤ n → n - k < m → Vec v acc.length (fun q => (wds nd gd acc (two p) k q).length) →
    Ok (lang_counts_l1 N wh (n : Int) m v (k : Int)) fun w => Vec w acc.length fun q => (wds nd gd acc (two p) n q).length := by
  have a2 := V.a2
  intro m
  induction m with
  | zero => intro k v _ h _; omega
  | succ m ih =>
    intro k v k1 k2 hv
    unfold lang_counts_l1
    rw [T.len]
    refine Ok.ite (fun hx => ?_) fun hx => Ok.pure (by have : k = n := by omega
                                                       subst this; exact hv)
    refine (counts_l2_ok hN V T (by omega) hv N 0 _ (by omega) (by omega) (by
      have h := Vec.rep acc.length
      rw [Int.toNat_natCast]
      exact h.congr fun q hq => (if_neg (by omega)).symm)).bind fun w' hw' => ?_
    refine Ok.ask (by unfold in64; omega) ?_
    rw [show ((k : Int) + 1) = ((k + 1 : Nat) : Int) by omega]
    exact ih (k + 1) _ (by omega) (by omega) hw'
theorem counts_ok (hN : 5000 ≤ N) (V : Valid p acc gd nd) {wh : List (List Int)} (T : Tab nd gd acc.length (two p) wh) {n : Nat} (hn : n ≤ 3) :
    Ok (lang_counts N p acc gd nd wh (n : Int)) fun w => Vec w acc.length fun q => (wds nd gd acc (two p) n q).length := by
  have a2 := V.a2
  unfold lang_counts
  rw [T.len, Int.toNat_natCast]
  refine Ok.ask (by omega) ?_
  refine (counts_l0_ok (N := N) (p := p) (gd := gd) (nd := nd) (by omega) N 0 _ (by omega) (by omega) ((Vec.rep acc.length).congr fun q hq => (if_neg (by omega)).symm)).bind fun v hv => ?_
  refine (counts_l1_ok hN V T hn N 0 v (by omega) (by omega) hv).bind fun w hw => Ok.pure hw
theorem Count_ok (hN : 5000 ≤ N) (V : Valid p acc gd nd) (hC : guard_Check N p acc gd nd = some 0) {n : Nat} (hn : n ≤ 3) : lang_Count N p acc gd nd (n : Int) = some ((((wds nd gd acc (two p) n 0).length : Nat) : Int), 0) := by
  have a1 := V.a1
  refine Ok.eq ?_
  unfold lang_Count
  refine (table_ok hN V hC).bind fun r ⟨r1, T⟩ => ?_
  rw [if_pos r1, if_neg (by omega), if_neg (by omega)]
  refine (counts_ok hN V T hn).bind fun w hw => ?_
  refine Ok.ask (by unfold idx; rw [hw.1]; omega) ?_
  rw [show Int.toNat (0 : Int) = 0 from rfl, hw.2 0 (by omega)]
  rw [if_neg (by simp)]
  exact Ok.pure rfl
/-! ### Words -/
/-- for each length, how many there are -/
structure Lefts (p : Int) (acc : List Bool) (gd : List Int) (nd : List Nd) (n : Nat) (left : List (List (Int × Bool))) : Prop where
  len : left.length = n
  at_ : ∀ k, k < n → Vec (left.getD k []) acc.length fun q => (wds nd gd acc (two p) k q).length
theorem Words_l0_ok (hN : 5000 ≤ N) (V : Valid p acc gd nd) {r18 : List (List Int) × Int} (T : Tab nd gd acc.length (two p) r18.1) {most : Nat} (hm : most ≤ 3) :
    ∀ (m n : Nat) (left : List (List (Int × Bool))), n ≤ most + 1 → most + 1 - n < m → Lefts p acc gd nd n left →
    Ok (lang_Words_l0 N p acc gd nd (most : Int) r18 m left ((allN nd gd acc (two p) n).length : Nat) false (n : Int)) fun r => Lefts p acc gd nd (most + 1) r.1 ∧ r.2.1 = ((allN nd gd acc (two p) (most + 1)).length : Nat) ∧ r.2.2 = false := by
  have sh := shl_two ⟨V.p0, V.p8⟩
  have a1 := V.a1
  have bnd : ∀ n : Nat, n ≤ 4 → (allN nd gd acc (two p) n).length ≤ n * 16777216 := by
    intro n
    induction n with
    | zero => intro _; exact Nat.zero_le _
    | succ n ih =>
      intro h
      rw [allN_succ, List.length_append]
      have := ih (by omega)
      have := wds_len3 (nd := nd) (gd := gd) (acc := acc) (L := two p) sh.2.2 (show n ≤ 3 by omega) 0
      omega
  intro m
  induction m with
  | zero => intro n left _ h _; omega
  | succ m ih =>
    intro n left k1 k2 hl
    unfold lang_Words_l0
    refine Ok.ite (fun hx => ?_) fun hx => Ok.pure (by have : n = most + 1 := by omega
                                                       subst this; exact ⟨hl, rfl, rfl⟩)
    refine (counts_ok hN V T (n := n) (by omega)).bind fun w hw => ?_
    have b1 := bnd (n + 1) (by omega)
    rw [allN_succ, List.length_append] at b1
    have e1 : (left ++ [w]).getD n [] = w := by rw [getD_snoc, if_pos hl.len.symm]
    have hln := hl.len
    refine Ok.ask (by rw [hl.len]; simp; omega) (Ok.ask (by unfold idx; rw [List.length_append, hl.len]; simp; omega) ?_)
    rw [Int.toNat_natCast, e1, hw.1, show Int.toNat (0 : Int) = 0 from rfl, hw.2 0 (by omega)]
    dsimp only
    refine Ok.ask (by unfold idx; omega) ?_
    rw [count_add_ok (by omega), Option.bind_some]
    refine Ok.ask (by unfold in64; omega) ?_
    dsimp only
    rw [← List.length_append, ← allN_succ, show ((n : Int) + 1) = ((n + 1 : Nat) : Int) by omega]
    refine ih (n + 1) _ (by omega) (by omega) ⟨by rw [List.length_append, hl.len]; rfl, fun k hk => ?_⟩
    rw [getD_snoc, hl.len]
    by_cases c : k = n
    · rw [if_pos c, c]; exact hw
    · rw [if_neg c]; exact hl.at_ k (by omega)
theorem wds0 {q : Nat} {L : Nat} (h : wds nd gd acc L 0 q ≠ []) : wds nd gd acc L 0 q = [[]] := by
  unfold wds at h ⊢
  split at h
  · rename_i c; rw [if_pos c]
  · exact absurd rfl h
theorem pos_len {α : Type} {xs : List α} : (0 : Int) < ((xs.length : Nat) : Int) ↔ xs ≠ [] := by
  rw [← List.length_pos_iff]; omega
end
end Go.V
