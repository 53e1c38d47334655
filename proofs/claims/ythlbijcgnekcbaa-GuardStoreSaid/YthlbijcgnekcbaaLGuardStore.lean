/- The plain law GuardStore. No condition. -/
import Derived.Test.YthlbijcgnekcbaaBGuardStore
import Derived.Test.YthlbijcgnekcbaaGS
import Derived.Test.YthlbijcgnekcbaaV9
set_option linter.all false
set_option linter.unusedVariables false
set_option maxRecDepth 1000000
namespace Go.V
open Go Go.Proofs
section
variable {N : Nat}
theorem Nodes_ok {n : Int} {nd : List Nd} {at_ : List (Nd × Int)} (h : nd.length ≤ 100000) : guard_Store_Nodes N n nd at_ = some nd := by
  unfold guard_Store_Nodes guard_Store_none ask
  rw [Option.bind_some, if_neg (by simp), if_pos (by simp; omega)]
  rfl
theorem l13_ok : ∀ (m : Nat) (a : List Nd) (i : Nat), a.length ≤ 100000 → i ≤ a.length → a.length - i < m → law14_GuardStore_l13 N m a (i : Int) = some () := by
  intro m
  induction m with
  | zero => intro a i _ _ h; omega
  | succ m ih =>
    intro a i h k1 k2
    unfold law14_GuardStore_l13
    by_cases hx : (i : Int) < (a.length : Int)
    · unfold ask
      rw [if_pos hx, if_pos (by unfold idx; omega), if_pos (by unfold in64; omega), show ((i : Int) + 1) = ((i + 1 : Nat) : Int) by omega]
      exact ih _ (i + 1) (by rw [List.length_set]; exact h) (by rw [List.length_set]; omega) (by rw [List.length_set]; omega)
    · rw [if_neg hx]
theorem l12_ok (hN : 500000 ≤ N) {n : Int} (hn : 0 ≤ n ∧ n ≤ 8) {lists : List (List Int)} (hl : lists.length ≤ 40) : ∀ (m i : Nat) (nd : List Nd) (at_ : List (Nd × Int)), i ≤ lists.length → lists.length - i < m → SM nd at_ → nd.length ≤ 4096 →
    Ok (law14_GuardStore_l12 N n lists m nd at_ nd (i : Int)) fun r => r = .inr true ∨ ∃ nd' at', r = .inl (nd', at', nd') ∧ nd'.length ≤ 4096 := by
  intro m
  induction m with
  | zero => intro i nd at_ _ h _ _; omega
  | succ m ih =>
    intro i nd at_ k1 k2 I hb
    unfold law14_GuardStore_l12
    refine Ok.ite (fun hx => ?_) fun hx => Ok.pure (.inr ⟨nd, at_, rfl, hb⟩)
    rw [Int.toNat_natCast]
    refine Ok.ask (by unfold idx; omega) ?_
    refine Ok.ite (fun _ => Ok.pure (.inl rfl)) fun h260 => ?_
    rw [LentInts_ok (by omega) (by omega), Option.bind_some]
    dsimp only
    refine (Add_sim hN hn (wh := lists.getD i []) I hb (by omega)).bind fun r ⟨J, hb2, hr⟩ => ?_
    rw [hr, Option.bind_some]
    dsimp only
    rw [if_pos rfl, if_pos rfl, KeptInts_ok (by omega) (by omega) (by omega), Option.bind_some, if_pos rfl]
    unfold guard_Store_Len guard_Store_none
    rw [Option.bind_some, if_neg (by simp), Option.bind_some, if_pos rfl]
    refine Ok.ask (by unfold in64; omega) ?_
    rw [show ((i : Int) + 1) = ((i + 1 : Nat) : Int) by omega]
    exact ih (i + 1) _ _ (by omega) (by omega) J hb2
end

theorem guardStore_true (n : Int) (lists : List (List Int)) : law14_GuardStore 1000000 n lists = some true := by
  refine Ok.eq ?_
  unfold law14_GuardStore guard_New ref14_New
  by_cases h0 : n < 0
  · rw [if_pos h0]
    exact Ok.pure rfl
  by_cases h8 : 8 < n
  · rw [if_neg h0, if_pos h8]
    exact Ok.pure rfl
  rw [if_neg h0, if_neg h8, Option.bind_some, Sum.elim_inr, Option.bind_some, Sum.elim_inr, if_pos rfl, if_pos rfl]
  refine Ok.ite (fun _ => Ok.pure rfl) fun h40 => ?_
  obtain ⟨x, ex, hx⟩ := l12_ok (N := 1000000) (by omega) (n := n) ⟨by omega, by omega⟩ (lists := lists) (by omega) 1000000 0 [] [] (by omega) (by omega) ⟨fun i j h => (by simp at h), fun i h => (by simp at h), fun x v h => (by cases h), fun y h => (by cases h)⟩ (by simp)
  have ex' : law14_GuardStore_l12 1000000 n lists 1000000 [] ([] : List (Nd × Int)) [] 0 = some x := ex
  rw [ex', Option.bind_some]
  rcases hx with e | ⟨nd, at_, e, hb⟩
  · rw [e, Sum.elim_inr]; exact Ok.pure rfl
  · rw [e, Sum.elim_inl]
    dsimp only
    have l13 : law14_GuardStore_l13 1000000 1000000 nd 0 = some () := l13_ok 1000000 nd 0 (by omega) (by omega) (by omega)
    rw [Nodes_ok (by omega), Option.bind_some, Option.bind_some, SameN_self (by omega) (by omega), Option.bind_some, if_pos rfl, l13, Option.bind_some, Option.bind_some, if_pos rfl, Option.bind_some, SameN_self (by omega) (by omega), Option.bind_some]
    exact Ok.pure rfl

theorem guardStore_row (w0 : World) (n : Int) (A1 : Option Addr) (c1 : Nat) (ls : List (List Int)) (k1 : ls.length ≤ c1) (C1 : C (cSl (cInt .i64)) w0 (Lo w0.heap.size) A1 ls) :
    Calls Try.prog 5 #[.int .i64 n, .slice A1 ls.length c1] w0 fun e w' => ∃ v, e = .returned v ∧ (v = .bool true ∧ Ext w0 w') :=
  (law14_GuardStore_calls A1 c1 n ls k1 ((Hp.start w0).arg C1) (guardStore_true n ls)).mono fun e w' ⟨v, he, hv, H⟩ => ⟨v, he, hv, H.chgd.own⟩
end Go.V
