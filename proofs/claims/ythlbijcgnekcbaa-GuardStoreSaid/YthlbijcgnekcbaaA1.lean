/- Plain functions, and the calls that give them. -/
import Derived.Test.YthlbijcgnekcbaaA0
set_option linter.all false
set_option linter.unusedVariables false
set_option linter.unnecessarySimpa false
set_option linter.unusedSimpArgs false
namespace Go.V
open Go Go.Proofs
/-! rejoinder/guard.New -/
def guard_New (N : Nat) (n : Int) : Option (Int ⊕ Int) :=
  if n < 0 then
    some (Sum.inl 2)
  else
    if 8 < n then
      some (Sum.inl 2)
    else
      some (Sum.inr 0)
set_option maxRecDepth 100000 in
set_option maxHeartbeats 4000000 in
theorem guard_New_calls {N : Nat} {S Fa : Nat → Prop} {w0 : World} {r : Int ⊕ Int} (n : Int) (H : Hp S Fa w0 w0 []) (hP : guard_New N n = some r) :
    Calls Try.prog 20 #[.int .i64 n] w0 fun e w' => ∃ v, e = .returned v ∧ ((∃ (x_ : Int), r = Sum.inl x_ ∧ v = .tuple #[.pointer none, .int .i64 x_] ∧ Hp S Fa w0 w' []) ∨ (∃ (x_ : Int) (g3 : Nat) (g5 : Nat), r = Sum.inr x_ ∧ v = .tuple #[.pointer (some ⟨g3, 0, none⟩), .int .i64 x_] ∧ Hp S Fa w0 w' [.box g3 44 [.int .i64 n, .slice none 0 0, .map (some g5)], .mp Try.prog 64 g5 (List.map (fun p_ => (ndV p_.1, (fun u_ : Int => .int .i64 u_) p_.2)) ([] : List (Nd × Int)))])) := by
 refine enterV (n := 14) Try.func20 rfl rfl rfl ?_
 intro a E
 replace E := E.pick [(0, .int .i64 n)] ⟨rfl, trivial⟩
 rw [guard_New] at hP
 refine wp_seq ?_
 refine wp_region_lit ?_
 refine vn tbok 2 [] [] [] E (by kernel_rfl) (by kernel_rfl) trivial ?_
 clear E; intro a E
 refine wpList_nil ?_
 refine th_n ?_
 refine wp_seq ?_
 refine wp_seq ?_
 refine wp_region_lit ?_
 refine vn tbok 3 [] [(6, .bool (decide (n < 0)))] [] E (by kernel_rfl) (by kernel_rfl) trivial ?_
 clear E; intro a E
 refine E.cases (t := 6) rfl (fun hb_ E_ => ?_) (fun hb_ E_ => ?_)
 ·
  replace E := E_; clear E_
  have h107 : n < 0 := of_decide_eq_true hb_
  clear hb_; replace hP := ite_t h107 hP
  refine vn tbok 3 [] [(9, .bool true)] [] E (by kernel_rfl) (by kernel_rfl) trivial ?_
  clear E; intro a E
  refine wpList_nil ?_
  refine th_n ?_
  refine c_true E rfl ?_
  refine wp_seq ?_
  refine wp_region_lit ?_
  refine vn tbok 2 [] [(2, .pointer none), (3, .int .i64 2)] [] E (by kernel_rfl) (by kernel_rfl) trivial ?_
  clear E; intro a E
  refine wpList_nil ?_
  refine th_n ?_
  refine wp_ret ?_
  refine th_ret ?_
  obtain rfl := Option.some.inj hP
  refine ret2 E rfl rfl rfl ?_
  exact ⟨_, rfl, .inl ⟨2, rfl, rfl, H.sel [] rfl⟩⟩
 replace E := E_; clear E_
 have h108 : ¬ (n < 0) := of_decide_eq_false hb_
 clear hb_; replace hP := ite_f h108 hP
 refine vn tbok 3 [] [(9, .bool (decide (8 < n)))] [] E (by kernel_rfl) (by kernel_rfl) trivial ?_
 clear E; intro a E
 refine wpList_nil ?_
 refine th_n ?_
 refine E.cases (t := 9) rfl (fun hb_ E_ => ?_) (fun hb_ E_ => ?_)
 ·
  replace E := E_; clear E_
  have h109 : 8 < n := of_decide_eq_true hb_
  clear hb_; replace hP := ite_t h109 hP
  refine c_true E rfl ?_
  refine wp_seq ?_
  refine wp_region_lit ?_
  refine vn tbok 2 [] [(2, .pointer none), (3, .int .i64 2)] [] E (by kernel_rfl) (by kernel_rfl) trivial ?_
  clear E; intro a E
  refine wpList_nil ?_
  refine th_n ?_
  refine wp_ret ?_
  refine th_ret ?_
  obtain rfl := Option.some.inj hP
  refine ret2 E rfl rfl rfl ?_
  exact ⟨_, rfl, .inl ⟨2, rfl, rfl, H.sel [] rfl⟩⟩
 replace E := E_; clear E_
 have h110 : ¬ (8 < n) := of_decide_eq_false hb_
 clear hb_; replace hP := ite_f h110 hP
 refine c_false E rfl ?_
 refine wp_skip ?_
 refine th_n ?_
 refine wp_seq ?_
 refine wp_region_lit ?_
 refine vn tbok 1 [] [(10, .int .i64 n)] [] E (by kernel_rfl) (by kernel_rfl) trivial ?_
 clear E; intro a E
 refine h_makeMap (P := Try.prog) (k0 := 64) H E rfl rfl ?_
 intro w112 g111 a hc113 hg114 H_ E_
 replace E := E_ _ rfl; clear E_
 replace H := H_; clear H_; try dsimp only [setn, addE, goneL] at H
 refine e_build (ps := [(0, .int .i64 n), (2, .map (some g111))]) (v := .agg #[.int .i64 n, .slice none 0 0, .map (some g111)]) E rfl rfl tbok rfl (by kernel_rfl) rfl ?_
 clear E; intro a E
 refine h_box H E rfl rfl rfl ?_
 intro w117 g116 a hc118 hg120 H_ E_
 replace E := E_ _ rfl; clear E_
 replace H := H_; clear H_; try dsimp only [setn, addE, goneL] at H
 refine vn tbok 2 [] [(2, .pointer (some ⟨g116, 0, none⟩)), (3, .int .i64 0)] [] E (by kernel_rfl) (by kernel_rfl) trivial ?_
 clear E; intro a E
 refine wpList_nil ?_
 refine th_n ?_
 refine wp_ret ?_
 obtain rfl := Option.some.inj hP
 refine ret2 E rfl rfl rfl ?_
 exact ⟨_, rfl, .inr (⟨0, g116, g111, rfl, rfl, H.sel [1, 0] rfl⟩)⟩

/-! rejoinder/rejoinderref14.New -/
def ref14_New (N : Nat) (n : Int) : Option (Int ⊕ Int) :=
  if n < 0 then
    some (Sum.inl 2)
  else
    if 8 < n then
      some (Sum.inl 2)
    else
      some (Sum.inr 0)
set_option maxRecDepth 100000 in
set_option maxHeartbeats 4000000 in
theorem ref14_New_calls {N : Nat} {S Fa : Nat → Prop} {w0 : World} {r : Int ⊕ Int} (n : Int) (H : Hp S Fa w0 w0 []) (hP : ref14_New N n = some r) :
    Calls Try.prog 21 #[.int .i64 n] w0 fun e w' => ∃ v, e = .returned v ∧ ((∃ (x_ : Int), r = Sum.inl x_ ∧ v = .tuple #[.pointer none, .int .i64 x_] ∧ Hp S Fa w0 w' []) ∨ (∃ (x_ : Int) (g3 : Nat), r = Sum.inr x_ ∧ v = .tuple #[.pointer (some ⟨g3, 0, none⟩), .int .i64 x_] ∧ Hp S Fa w0 w' [.box g3 61 [.int .i64 n, .slice none 0 0]])) := by
 refine enterV (n := 13) Try.func21 rfl rfl rfl ?_
 intro a E
 replace E := E.pick [(0, .int .i64 n)] ⟨rfl, trivial⟩
 rw [ref14_New] at hP
 refine wp_seq ?_
 refine wp_region_lit ?_
 refine vn tbok 2 [] [] [] E (by kernel_rfl) (by kernel_rfl) trivial ?_
 clear E; intro a E
 refine wpList_nil ?_
 refine th_n ?_
 refine wp_seq ?_
 refine wp_seq ?_
 refine wp_region_lit ?_
 refine vn tbok 3 [] [(6, .bool (decide (n < 0)))] [] E (by kernel_rfl) (by kernel_rfl) trivial ?_
 clear E; intro a E
 refine E.cases (t := 6) rfl (fun hb_ E_ => ?_) (fun hb_ E_ => ?_)
 ·
  replace E := E_; clear E_
  have h105 : n < 0 := of_decide_eq_true hb_
  clear hb_; replace hP := ite_t h105 hP
  refine vn tbok 3 [] [(9, .bool true)] [] E (by kernel_rfl) (by kernel_rfl) trivial ?_
  clear E; intro a E
  refine wpList_nil ?_
  refine th_n ?_
  refine c_true E rfl ?_
  refine wp_seq ?_
  refine wp_region_lit ?_
  refine vn tbok 2 [] [(2, .pointer none), (3, .int .i64 2)] [] E (by kernel_rfl) (by kernel_rfl) trivial ?_
  clear E; intro a E
  refine wpList_nil ?_
  refine th_n ?_
  refine wp_ret ?_
  refine th_ret ?_
  obtain rfl := Option.some.inj hP
  refine ret2 E rfl rfl rfl ?_
  exact ⟨_, rfl, .inl ⟨2, rfl, rfl, H.sel [] rfl⟩⟩
 replace E := E_; clear E_
 have h106 : ¬ (n < 0) := of_decide_eq_false hb_
 clear hb_; replace hP := ite_f h106 hP
 refine vn tbok 3 [] [(9, .bool (decide (8 < n)))] [] E (by kernel_rfl) (by kernel_rfl) trivial ?_
 clear E; intro a E
 refine wpList_nil ?_
 refine th_n ?_
 refine E.cases (t := 9) rfl (fun hb_ E_ => ?_) (fun hb_ E_ => ?_)
 ·
  replace E := E_; clear E_
  have h107 : 8 < n := of_decide_eq_true hb_
  clear hb_; replace hP := ite_t h107 hP
  refine c_true E rfl ?_
  refine wp_seq ?_
  refine wp_region_lit ?_
  refine vn tbok 2 [] [(2, .pointer none), (3, .int .i64 2)] [] E (by kernel_rfl) (by kernel_rfl) trivial ?_
  clear E; intro a E
  refine wpList_nil ?_
  refine th_n ?_
  refine wp_ret ?_
  refine th_ret ?_
  obtain rfl := Option.some.inj hP
  refine ret2 E rfl rfl rfl ?_
  exact ⟨_, rfl, .inl ⟨2, rfl, rfl, H.sel [] rfl⟩⟩
 replace E := E_; clear E_
 have h108 : ¬ (8 < n) := of_decide_eq_false hb_
 clear hb_; replace hP := ite_f h108 hP
 refine c_false E rfl ?_
 refine wp_skip ?_
 refine th_n ?_
 refine wp_seq ?_
 refine wp_region_lit ?_
 refine vn tbok 1 [] [(10, .int .i64 n)] [] E (by kernel_rfl) (by kernel_rfl) trivial ?_
 clear E; intro a E
 refine e_build (ps := [(0, .int .i64 n)]) (v := .agg #[.int .i64 n, .slice none 0 0]) E rfl rfl tbok rfl (by kernel_rfl) rfl ?_
 clear E; intro a E
 refine h_box H E rfl rfl rfl ?_
 intro w110 g109 a hc111 hg113 H_ E_
 replace E := E_ _ rfl; clear E_
 replace H := H_; clear H_; try dsimp only [setn, addE, goneL] at H
 refine vn tbok 2 [] [(2, .pointer (some ⟨g109, 0, none⟩)), (3, .int .i64 0)] [] E (by kernel_rfl) (by kernel_rfl) trivial ?_
 clear E; intro a E
 refine wpList_nil ?_
 refine th_n ?_
 refine wp_ret ?_
 obtain rfl := Option.some.inj hP
 refine ret2 E rfl rfl rfl ?_
 exact ⟨_, rfl, .inr (⟨0, g109, rfl, rfl, H.sel [0] rfl⟩)⟩

/-! rejoinder/rejoinderkit.LentInts -/
def kit_LentInts_l0 (N : Nat) : Nat → (List Int) → Int → Option (List Int)
  | 0, _, _ => none
  | m35 + 1, full24, i25 =>
    if i25 < (((List.length full24) : Nat) : Int) then
      ask (in64 (7700 + i25)) <|
      ask (idx i25 (List.length full24)) <|
      ask (in64 (i25 + 1)) <|
      kit_LentInts_l0 N m35 (List.set full24 (Int.toNat i25) (7700 + i25)) (i25 + 1)
    else
      some full24
def kit_LentInts (N : Nat) (ll : List Int) : Option (List Int × List Int) :=
  ask (in64 ((((List.length ll) : Nat) : Int) + 3)) <|
  ask (0 ≤ ((((List.length ll) : Nat) : Int) + 3) ∧ ((((List.length ll) : Nat) : Int) + 3) ≤ 1000000000) <|
  ask (List.length ll ≤ List.length (List.replicate (Int.toNat ((((List.length ll) : Nat) : Int) + 3)) (0 : Int))) <|
  Option.bind (kit_LentInts_l0 N N (ll ++ List.drop (List.length ll) (List.replicate (Int.toNat ((((List.length ll) : Nat) : Int) + 3)) (0 : Int))) (((List.length ll) : Nat) : Int)) fun x36 =>
  ask (0 ≤ (((List.length ll) : Nat) : Int) ∧ (((List.length ll) : Nat) : Int) ≤ (((List.length x36) : Nat) : Int)) <|
  some (List.take (Int.toNat (((List.length ll) : Nat) : Int)) x36, List.drop (Int.toNat (((List.length ll) : Nat) : Int)) x36 ++ (List.replicate (Int.toNat ((((List.length ll) : Nat) : Int) + 3) - Int.toNat ((((List.length ll) : Nat) : Int) + 3)) (0 : Int)))
set_option maxRecDepth 100000 in
set_option maxHeartbeats 4000000 in
theorem kit_LentInts_calls {N : Nat} {S Fa : Nat → Prop} {w0 : World} {r : List Int × List Int} (A1 : Option Addr) (c2 : Nat) (ll : List Int) (hk3 : List.length ll ≤ c2) (H : Hp S Fa w0 w0 [.ro false (cInt .i64) A1 ll]) (hP : kit_LentInts N ll = some r) :
    Calls Try.prog 22 #[.slice A1 (List.length ll) c2] w0 fun e w' => ∃ v, e = .returned v ∧ ∃ (A51 : Option Addr) (c52 : Nat), v = .slice A51 (List.length r.1) c52 ∧ Hp S Fa w0 w' [.rowx true (cInt .i64) 3 A51 c52 r.1 r.2] := by
 refine enterV (n := 29) Try.func22 rfl rfl rfl ?_
 intro a E
 replace E := E.pick [(0, .slice A1 (List.length ll) c2)] ⟨rfl, trivial⟩
 rw [kit_LentInts] at hP
 refine wp_seq ?_
 refine wp_region_lit ?_
 refine vn tbok 1 [] [] [] E (by kernel_rfl) (by kernel_rfl) trivial ?_
 clear E; intro a E
 refine wpList_nil ?_
 refine th_n ?_
 refine wp_seq ?_
 refine wp_region_lit ?_
 obtain ⟨g5, hP⟩ := ask_inv hP
 refine vn tbok 3 [.int .i64 ((((List.length ll) : Nat) : Int) + 3)] [(7, .int .i64 ((((List.length ll) : Nat) : Int) + 3))] [IntKind.i64.wrap ((((List.length ll) : Nat) : Int) + 3) = (((List.length ll) : Nat) : Int) + 3] E (by kernel_rfl) (by kernel_rfl) (wrap_in g5) ?_
 clear E; intro a E
 obtain ⟨g6, hP⟩ := ask_inv hP
 refine h_make (cInt .i64) (0 : Int) H E rfl rfl tbok rfl rfl rfl rfl ⟨g6.1, Int.le_refl _, g6.2⟩ rfl rfl rfl (fun _ _ => rfl) ?_
 intro w8 g7 a hc9 hg11 H_ E_
 replace E := E_ _ rfl; clear E_
 replace H := H_; clear H_; try dsimp only [setn, addE, goneL] at H
 refine vn tbok 1 [] [(3, .slice (some ⟨g7, 0, none⟩) (List.length (List.replicate (Int.toNat ((((List.length ll) : Nat) : Int) + 3)) (0 : Int))) (Int.toNat ((((List.length ll) : Nat) : Int) + 3)))] [] E (by kernel_rfl) (by kernel_rfl) trivial ?_
 clear E; intro a E
 refine wpList_nil ?_
 refine th_n ?_
 refine wp_seq ?_
 refine wp_region_lit ?_
 refine vn tbok 2 [] [(9, .slice (some ⟨g7, 0, none⟩) (List.length (List.replicate (Int.toNat ((((List.length ll) : Nat) : Int) + 3)) (0 : Int))) (Int.toNat ((((List.length ll) : Nat) : Int) + 3))), (10, .slice A1 (List.length ll) c2)] [] E (by kernel_rfl) (by kernel_rfl) trivial ?_
 clear E; intro a E
 obtain ⟨g14, hP⟩ := ask_inv hP
 refine h_copyx (d := (cInt .i64)) (g := g7) (xs := (List.replicate (Int.toNat ((((List.length ll) : Nat) : Int) + 3)) (0 : Int))) (ys := ll) H 1 rfl E rfl rfl tbok rfl rfl rfl rfl rfl flat_plain 0 rds_ro g14 ?_
 intro w12 a hc13 H_ E_
 replace E := E_ _ rfl; clear E_
 replace H := H_; clear H_; try dsimp only [setn, addE, goneL] at H
 have hn15 : (List.length (List.replicate (Int.toNat ((((List.length ll) : Nat) : Int) + 3)) (0 : Int))) = (List.length (ll ++ List.drop (List.length ll) (List.replicate (Int.toNat ((((List.length ll) : Nat) : Int) + 3)) (0 : Int)))) := by have h_ := g14; simp only [List.length_append, List.length_drop] at *; omega
 replace E := E.same (t := 3) (u := .slice (some ⟨g7, 0, none⟩) (List.length (ll ++ List.drop (List.length ll) (List.replicate (Int.toNat ((((List.length ll) : Nat) : Int) + 3)) (0 : Int)))) (Int.toNat ((((List.length ll) : Nat) : Int) + 3))) rfl (congrArg (fun n_ => Value.slice (some ⟨g7, 0, none⟩) n_ (Int.toNat ((((List.length ll) : Nat) : Int) + 3))) hn15)
 replace E := E.same (t := 9) (u := .slice (some ⟨g7, 0, none⟩) (List.length (ll ++ List.drop (List.length ll) (List.replicate (Int.toNat ((((List.length ll) : Nat) : Int) + 3)) (0 : Int)))) (Int.toNat ((((List.length ll) : Nat) : Int) + 3))) rfl (congrArg (fun n_ => Value.slice (some ⟨g7, 0, none⟩) n_ (Int.toNat ((((List.length ll) : Nat) : Int) + 3))) hn15)
 refine wpList_nil ?_
 refine th_n ?_
 refine wp_seq ?_
 refine wp_seq ?_
 refine wp_region_lit ?_
 refine vn tbok 3 [] [(4, .int .i64 (((List.length ll) : Nat) : Int))] [] E (by kernel_rfl) (by kernel_rfl) trivial ?_
 clear E; intro a E
 refine wpList_nil ?_
 refine th_n ?_
 refine wp_block ?_
 obtain ⟨x36, hL37, hK38⟩ := bind_inv hP
 clear hP
 refine loop_cut (fun i_ a w_ => (i_ = 0 ∧ ∃ (x41 : List Int), Fr a 29 [(0, .slice A1 (List.length ll) c2), (3, .slice (some ⟨g7, 0, none⟩) (List.length x41) (Int.toNat ((((List.length ll) : Nat) : Int) + 3)))] ∧ Hp S Fa w0 w_ [.ro false (cInt .i64) A1 ll, .rowx true (cInt .i64) 3 (some ⟨g7, 0, none⟩) (Int.toNat ((((List.length ll) : Nat) : Int) + 3)) x41 (List.replicate (Int.toNat ((((List.length ll) : Nat) : Int) + 3) - Int.toNat ((((List.length ll) : Nat) : Int) + 3)) (0 : Int))] ∧ x36 = x41)) ?_ ?_
 ·
  refine loopV (fun m40 a w39 => ∃ (full24 : List Int) (i25 : Int), Fr a 29 [(0, .slice A1 (List.length ll) c2), (3, .slice (some ⟨g7, 0, none⟩) (List.length full24) (Int.toNat ((((List.length ll) : Nat) : Int) + 3))), (4, .int .i64 i25)] ∧ Hp S Fa w0 w39 [.ro false (cInt .i64) A1 ll, .rowx true (cInt .i64) 3 (some ⟨g7, 0, none⟩) (Int.toNat ((((List.length ll) : Nat) : Int) + 3)) full24 (List.replicate (Int.toNat ((((List.length ll) : Nat) : Int) + 3) - Int.toNat ((((List.length ll) : Nat) : Int) + 3)) (0 : Int))] ∧ kit_LentInts_l0 N m40 full24 i25 = some x36) N ?_ ?_
  ·
   exact ⟨ll ++ List.drop (List.length ll) (List.replicate (Int.toNat ((((List.length ll) : Nat) : Int) + 3)) (0 : Int)), (((List.length ll) : Nat) : Int), E.pick _ ⟨rfl, rfl, rfl, trivial⟩, H.sel [0, 1] rfl, hL37⟩
  clear E H hL37; intro m40 a w39 hI_
  obtain ⟨full24, i25, E, H, hP⟩ := hI_
  obtain ⟨m35, rfl⟩ : ∃ q_, m40 = q_ + 1 := by cases m40 with | zero => rw [kit_LentInts_l0] at hP; cases hP | succ q_ => exact ⟨q_, rfl⟩
  rw [kit_LentInts_l0] at hP
  refine wp_seq ?_
  refine wp_seq ?_
  refine wp_region_lit ?_
  refine vn tbok 4 [] [(17, .bool (decide (i25 < (((List.length full24) : Nat) : Int))))] [] E (by kernel_rfl) (by kernel_rfl) trivial ?_
  clear E; intro a E
  refine wpList_nil ?_
  refine th_n ?_
  refine E.cases (t := 17) rfl (fun hb_ E_ => ?_) (fun hb_ E_ => ?_)
  ·
   replace E := E_; clear E_
   have h42 : i25 < (((List.length full24) : Nat) : Int) := of_decide_eq_true hb_
   clear hb_; replace hP := ite_t h42 hP
   refine c_true E rfl ?_
   refine wp_skip ?_
   refine th_n ?_
   refine wp_seq ?_
   refine wp_block ?_
   refine wp_region_lit ?_
   obtain ⟨g43, hP⟩ := ask_inv hP
   obtain ⟨g44, hP⟩ := ask_inv hP
   refine vn tbok 5 [.int .i64 (7700 + i25)] [(23, .int .i64 (7700 + i25)), (24, .pointer (some ⟨g7, 0 + (Int.toNat i25) * 1, none⟩))] [IntKind.i64.wrap (7700 + i25) = 7700 + i25, 0 ≤ i25 ∧ i25 < (((List.length full24) : Nat) : Int)] E (by kernel_rfl) (by kernel_rfl) ⟨wrap_in g43, g44⟩ ?_
   clear E; intro a E
   refine h_setx (g := g7) (i := i25) (7700 + i25) H 1 rfl E rfl rfl rfl rfl tbok rfl (fun _ HF_ => rfl) rfl g44 rfl ?_
   clear E; intro w45 a hc46 H_ E
   replace H := H_; clear H_; try dsimp only [setn, addE, goneL] at H
   have hn47 : (List.length full24) = (List.length (List.set full24 (Int.toNat i25) (7700 + i25))) := by simp only [List.length_set]
   replace E := E.same (t := 3) (u := .slice (some ⟨g7, 0, none⟩) (List.length (List.set full24 (Int.toNat i25) (7700 + i25))) (Int.toNat ((((List.length ll) : Nat) : Int) + 3))) rfl (congrArg (fun n_ => Value.slice (some ⟨g7, 0, none⟩) n_ (Int.toNat ((((List.length ll) : Nat) : Int) + 3))) hn47)
   refine wpList_nil ?_
   refine bl_n ?_
   refine th_n ?_
   refine wp_region_lit ?_
   obtain ⟨g48, hP⟩ := ask_inv hP
   refine vn tbok 3 [.int .i64 (i25 + 1)] [(4, .int .i64 (i25 + 1))] [IntKind.i64.wrap (i25 + 1) = i25 + 1] E (by kernel_rfl) (by kernel_rfl) (wrap_in g48) ?_
   clear E; intro a E
   refine wpList_nil ?_
   exact th_n ⟨m35, Nat.lt_succ_self _, List.set full24 (Int.toNat i25) (7700 + i25), i25 + 1, E.pick _ ⟨rfl, rfl, rfl, trivial⟩, H.sel [0, 1] rfl, hP⟩
  replace E := E_; clear E_
  have h49 : ¬ (i25 < (((List.length full24) : Nat) : Int)) := of_decide_eq_false hb_
  clear hb_; replace hP := ite_f h49 hP
  refine c_false E rfl ?_
  refine wp_exit ?_
  refine th_exit ?_
  have hx_ := Option.some.inj hP
  refine th_exit (.inl ⟨0, rfl, ?_⟩)
  exact ⟨rfl, full24, E.pick _ ⟨rfl, rfl, trivial⟩, H.sel [0, 1] rfl, hx_.symm⟩
 clear E H hL37; intro i_ a w39 hM_
 obtain ⟨rfl, x41, E, H, hx_⟩ := hM_
 subst hx_; have hP := hK38; clear hK38
 refine bl_hit ?_
 refine th_n ?_
 refine wp_seq ?_
 refine wp_region_lit ?_
 refine vn tbok 3 [] [(25, .slice (some ⟨g7, 0, none⟩) (List.length x36) (Int.toNat ((((List.length ll) : Nat) : Int) + 3))), (27, .int .i64 (((List.length ll) : Nat) : Int))] [] E (by kernel_rfl) (by kernel_rfl) trivial ?_
 clear E; intro a E
 obtain ⟨g50, hP⟩ := ask_inv hP
 refine vn tbok 1 [] [(28, .slice (some ⟨g7, 0, none⟩) (Int.toNat (((List.length ll) : Nat) : Int)) (Int.toNat ((((List.length ll) : Nat) : Int) + 3)))] [0 ≤ (((List.length ll) : Nat) : Int) ∧ (((List.length ll) : Nat) : Int) ≤ (((Int.toNat ((((List.length ll) : Nat) : Int) + 3)) : Nat) : Int)] E (by kernel_rfl) (by kernel_rfl) (cut_le g50 (H.rcapx 1 rfl)) ?_
 clear E; intro a E
 replace H := H.cutRowx 1 rfl (Int.toNat (((List.length ll) : Nat) : Int)); try dsimp only [setn, addE, goneL] at H
 replace E := E.same (t := 28) (u := .slice (some ⟨g7, 0, none⟩) (List.length (List.take (Int.toNat (((List.length ll) : Nat) : Int)) x36)) (Int.toNat ((((List.length ll) : Nat) : Int) + 3))) rfl (congrArg (fun n_ => Value.slice (some ⟨g7, 0, none⟩) n_ (Int.toNat ((((List.length ll) : Nat) : Int) + 3))) (take_len g50))
 refine vn tbok 1 [] [(2, .slice (some ⟨g7, 0, none⟩) (List.length (List.take (Int.toNat (((List.length ll) : Nat) : Int)) x36)) (Int.toNat ((((List.length ll) : Nat) : Int) + 3)))] [] E (by kernel_rfl) (by kernel_rfl) trivial ?_
 clear E; intro a E
 refine wpList_nil ?_
 refine th_n ?_
 refine wp_ret ?_
 obtain rfl := Option.some.inj hP
 refine ret1 E rfl rfl ?_
 exact ⟨_, rfl, (some ⟨g7, 0, none⟩), (Int.toNat ((((List.length ll) : Nat) : Int) + 3)), rfl, H.sel [1] rfl⟩

/-! (*rejoinder/guard.Store).none -/
def guard_Store_none (N : Nat) (sn : Int) (snodes : List Nd) (sat : List (Nd × Int)) : Option Bool :=
  some false
set_option maxRecDepth 100000 in
set_option maxHeartbeats 4000000 in
theorem guard_Store_none_calls {N : Nat} {S Fa : Nat → Prop} {w0 : World} {r : Bool} (g1 : Nat) (A3 : Option Addr) (c4 : Nat) (g6 : Nat) (sn : Int) (snodes : List Nd) (sat : List (Nd × Int)) (H : Hp S Fa w0 w0 [.box g1 44 [.int .i64 sn, .slice A3 (List.length snodes) c4, .map (some g6)], .row true cNode 64 A3 c4 snodes, .mp Try.prog 64 g6 (List.map (fun p_ => (ndV p_.1, (fun u_ : Int => .int .i64 u_) p_.2)) sat)]) (hP : guard_Store_none N sn snodes sat = some r) :
    Calls Try.prog 31 #[.pointer (some ⟨g1, 0, none⟩)] w0 fun e w' => ∃ v, e = .returned v ∧ (∃ (x_ : Bool), r = x_ ∧ v = .bool x_ ∧ Hp S Fa w0 w' [.row true cNode 64 A3 c4 snodes, .mp Try.prog 64 g6 (List.map (fun p_ => (ndV p_.1, (fun u_ : Int => .int .i64 u_) p_.2)) sat), .box g1 44 [.int .i64 sn, .slice A3 (List.length snodes) c4, .map (some g6)]]) := by
 refine enterV (n := 12) Try.func31 rfl rfl rfl ?_
 intro a E
 replace E := E.pick [(0, .pointer (some ⟨g1, 0, none⟩))] ⟨rfl, trivial⟩
 rw [guard_Store_none] at hP
 refine wp_seq ?_
 refine wp_region_lit ?_
 refine vn tbok 1 [] [] [] E (by kernel_rfl) (by kernel_rfl) trivial ?_
 clear E; intro a E
 refine wpList_nil ?_
 refine th_n ?_
 refine wp_seq ?_
 refine wp_region_lit ?_
 refine vn tbok 10 [.map (some g6)] [(2, .bool false)] [World.cell? w0 ⟨g1, 2, none⟩ = some (.map (some g6))] E (by kernel_rfl) (by kernel_rfl) ((H.box 0 rfl).cell (j := 2) rfl) ?_
 clear E; intro a E
 refine wpList_nil ?_
 refine th_n ?_
 refine wp_ret ?_
 obtain rfl := Option.some.inj hP
 refine ret1 E rfl rfl ?_
 exact ⟨_, rfl, ⟨false, rfl, rfl, H.sel [1, 2, 0] rfl⟩⟩

/-! (*rejoinder/guard.Store).add -/
def guard_Store_add_l0 (N : Nat) (where_ : List Int) : Nat → (List Int) → (List Int) → Int → Option ((List Int) × (List Int))
  | 0, _, _, _ => none
  | m247 + 1, lo200, hi203, i206 =>
    if i206 < (((List.length where_) : Nat) : Int) then
      ask (idx i206 (List.length where_)) <|
      ask (List.length lo200 + List.length ([(List.getD where_ (Int.toNat i206) 0)] : List Int) ≤ 1000000000) <|
      ask (in64 (i206 + 1)) <|
      ask (idx (i206 + 1) (List.length where_)) <|
      ask (List.length hi203 + List.length ([(List.getD where_ (Int.toNat (i206 + 1)) 0)] : List Int) ≤ 1000000000) <|
      ask (in64 (i206 + 2)) <|
      guard_Store_add_l0 N where_ m247 (lo200 ++ ([(List.getD where_ (Int.toNat i206) 0)] : List Int)) (hi203 ++ ([(List.getD where_ (Int.toNat (i206 + 1)) 0)] : List Int)) (i206 + 2)
    else
      some (lo200, hi203)
def guard_Store_add (N : Nat) : Nat → Int → (List Nd) → (List (Nd × Int)) → (List Int) → Int → Option (Int × (List Nd) × (List (Nd × Int)))
  | 0, _, _, _, _, _ => none
  | m12 + 1, sn, snodes, sat, where_, p =>
  if ((((List.length where_) : Nat) : Int) : Int) = 1 then
    ask (idx (0 : Int) (List.length where_)) <|
    ask (in64 ((-1) - (List.getD where_ (Int.toNat (0 : Int)) 0))) <|
    some ((-1) - (List.getD where_ (Int.toNat (0 : Int)) 0), snodes, sat)
  else
    ask (0 ≤ (0 : Int) ∧ (0 : Int) ≤ (IntKind.i64.wrap (Int.tdiv (((List.length where_) : Nat) : Int) 2)) ∧ (IntKind.i64.wrap (Int.tdiv (((List.length where_) : Nat) : Int) 2)) ≤ 1000000000) <|
    Option.bind (guard_Store_add_l0 N where_ N (List.replicate (Int.toNat (0 : Int)) (0 : Int)) (List.replicate (Int.toNat (0 : Int)) (0 : Int)) 0) fun x248 =>
    ask (in64 (p + 1)) <|
    Option.bind (guard_Store_add N m12 sn snodes sat x248.1 (p + 1)) fun r367 =>
    Option.bind (guard_Store_add N m12 sn r367.2.1 r367.2.2 x248.2 (p + 1)) fun r388 =>
    if (r367.1 : Int) = r388.1 then
      some (r367.1, r388.2.1, r388.2.2)
    else
      ask (ndOk (⟨p, r367.1, r388.1⟩ : Nd)) <|
      if (Option.isSome (mget r388.2.2 (⟨p, r367.1, r388.1⟩ : Nd))) = true then
        some ((Option.getD (mget r388.2.2 (⟨p, r367.1, r388.1⟩ : Nd)) 0), r388.2.1, r388.2.2)
      else
        ask (mget r388.2.2 (⟨p, r367.1, r388.1⟩ : Nd) = none) <|
        ask (List.length r388.2.1 + List.length ([(⟨p, r367.1, r388.1⟩ : Nd)] : List Nd) ≤ 1000000000) <|
        some ((((List.length r388.2.1) : Nat) : Int), r388.2.1 ++ ([(⟨p, r367.1, r388.1⟩ : Nd)] : List Nd), r388.2.2 ++ [((⟨p, r367.1, r388.1⟩ : Nd), (((List.length r388.2.1) : Nat) : Int))])
set_option maxRecDepth 100000 in
set_option maxHeartbeats 4000000 in
theorem guard_Store_add_calls {N : Nat} : ∀ (m_ : Nat) (S Fa : Nat → Prop) (w0 : World) (g1 : Nat) (A3 : Option Addr) (c4 : Nat) (g6 : Nat) (A8 : Option Addr) (c9 : Nat) (sn : Int) (snodes : List Nd) (sat : List (Nd × Int)) (where_ : List Int) (p : Int) (r : Int × (List Nd) × (List (Nd × Int))) (hk10 : List.length where_ ≤ c9) (H : Hp S Fa w0 w0 [.box g1 44 [.int .i64 sn, .slice A3 (List.length snodes) c4, .map (some g6)], .row true cNode 64 A3 c4 snodes, .mp Try.prog 64 g6 (List.map (fun p_ => (ndV p_.1, (fun u_ : Int => .int .i64 u_) p_.2)) sat), .ro false (cInt .i64) A8 where_]) (hP : guard_Store_add N m_ sn snodes sat where_ p = some r),
    Calls Try.prog 32 #[.pointer (some ⟨g1, 0, none⟩), .slice A8 (List.length where_) c9, .int .i64 p] w0 fun e w' => ∃ v, e = .returned v ∧ (∃ (x_ : Int × (List Nd) × (List (Nd × Int))) (A15 : Option Addr) (c16 : Nat), r = x_ ∧ v = .int .i64 x_.1 ∧ Hp S Fa w0 w' [.box g1 44 [.int .i64 sn, .slice A15 (List.length x_.2.1) c16, .map (some g6)], .row true cNode 64 A15 c16 x_.2.1, .mp Try.prog 64 g6 (List.map (fun p_ => (ndV p_.1, (fun u_ : Int => .int .i64 u_) p_.2)) x_.2.2)]) := by
 intro m12; induction m12 with
 | zero => intros; rename_i hP; rw [guard_Store_add] at hP; cases hP
 | succ m12 ih_ =>
 intro S Fa w0 g1 A3 c4 g6 A8 c9 sn snodes sat where_ p r hk10 H hP
 refine enterV (n := 103) Try.func32 rfl rfl rfl ?_
 intro a E
 replace E := E.pick [(0, .pointer (some ⟨g1, 0, none⟩)), (1, .slice A8 (List.length where_) c9), (2, .int .i64 p)] ⟨rfl, rfl, rfl, trivial⟩
 rw [guard_Store_add] at hP
 refine wp_seq ?_
 refine wp_region_lit ?_
 refine vn tbok 1 [] [] [] E (by kernel_rfl) (by kernel_rfl) trivial ?_
 clear E; intro a E
 refine wpList_nil ?_
 refine th_n ?_
 refine wp_seq ?_
 refine wp_seq ?_
 refine wp_region_lit ?_
 refine vn tbok 3 [] [(16, .bool (((((List.length where_) : Nat) : Int) : Int) == 1))] [] E (by kernel_rfl) (by kernel_rfl) trivial ?_
 clear E; intro a E
 refine wpList_nil ?_
 refine th_n ?_
 refine E.cases (t := 16) rfl (fun hb_ E_ => ?_) (fun hb_ E_ => ?_)
 ·
  replace E := E_; clear E_
  have h118 : ((((List.length where_) : Nat) : Int) : Int) = 1 := eq_of_beq hb_
  clear hb_; replace hP := ite_t h118 hP
  refine c_true E rfl ?_
  refine wp_seq ?_
  refine wp_region_lit ?_
  obtain ⟨g119, hP⟩ := ask_inv hP
  obtain ⟨b120, o121, e_b120⟩ := (H.rd 3 rds_ro).addr (idx_pos g119)
  subst e_b120
  obtain ⟨g122, hP⟩ := ask_inv hP
  refine vn tbok 5 [.int .i64 (List.getD where_ (Int.toNat (0 : Int)) 0), .int .i64 ((-1) - (List.getD where_ (Int.toNat (0 : Int)) 0))] [(6, .int .i64 ((-1) - (List.getD where_ (Int.toNat (0 : Int)) 0)))] [0 ≤ (0 : Int) ∧ (0 : Int) < (((List.length where_) : Nat) : Int), World.cell? w0 ⟨b120, o121 + (Int.toNat (0 : Int)) * 1, none⟩ = some (.int .i64 (List.getD where_ (Int.toNat (0 : Int)) 0)), IntKind.i64.wrap ((-1) - (List.getD where_ (Int.toNat (0 : Int)) 0)) = (-1) - (List.getD where_ (Int.toNat (0 : Int)) 0)] E (by kernel_rfl) (by kernel_rfl) ⟨g119, Rds.at1 (H.rd 3 rds_ro) 0 g119, wrap_in g122⟩ ?_
  clear E; intro a E
  refine wpList_nil ?_
  refine th_n ?_
  refine wp_ret ?_
  refine th_ret ?_
  obtain rfl := Option.some.inj hP
  refine ret1 E rfl rfl ?_
  exact ⟨_, rfl, ⟨((-1) - (List.getD where_ (Int.toNat (0 : Int)) 0), snodes, sat), A3, c4, rfl, rfl, H.sel [0, 1, 2] rfl⟩⟩
 replace E := E_; clear E_
 have h123 : ¬ (((((List.length where_) : Nat) : Int) : Int) = 1) := ne_of_beq_false hb_
 clear hb_; replace hP := ite_f h123 hP
 refine c_false E rfl ?_
 refine wp_skip ?_
 refine th_n ?_
 refine wp_seq ?_
 refine wp_region_lit ?_
 refine vn tbok 4 [.int .i64 (IntKind.i64.wrap (Int.tdiv (((List.length where_) : Nat) : Int) 2))] [(7, .int .i64 (IntKind.i64.wrap (Int.tdiv (((List.length where_) : Nat) : Int) 2)))] [(2 : Int) ≠ 0 ∧ IntKind.i64.wrap (Int.tdiv (((List.length where_) : Nat) : Int) 2) = IntKind.i64.wrap (Int.tdiv (((List.length where_) : Nat) : Int) 2)] E (by kernel_rfl) (by kernel_rfl) (⟨by decide, rfl⟩) ?_
 clear E; intro a E
 refine wpList_nil ?_
 refine th_n ?_
 refine wp_seq ?_
 obtain ⟨g124, hP⟩ := ask_inv hP
 refine meet_cut (fun a w139 => ∃ (A136 : Option Addr) (A138 : Option Addr), Fr a 103 [(0, .pointer (some ⟨g1, 0, none⟩)), (1, .slice A8 (List.length where_) c9), (2, .int .i64 p), (8, .slice A136 (List.length (List.replicate (Int.toNat (0 : Int)) (0 : Int))) (Int.toNat (IntKind.i64.wrap (Int.tdiv (((List.length where_) : Nat) : Int) 2)))), (9, .slice A138 (List.length (List.replicate (Int.toNat (0 : Int)) (0 : Int))) (Int.toNat (IntKind.i64.wrap (Int.tdiv (((List.length where_) : Nat) : Int) 2))))] ∧ Hp S Fa w0 w139 [.row true cNode 64 A3 c4 snodes, .mp Try.prog 64 g6 (List.map (fun p_ => (ndV p_.1, (fun u_ : Int => .int .i64 u_) p_.2)) sat), .box g1 44 [.int .i64 sn, .slice A3 (List.length snodes) c4, .map (some g6)], .ro false (cInt .i64) A8 where_, .rowx true (cInt .i64) 3 A136 (Int.toNat (IntKind.i64.wrap (Int.tdiv (((List.length where_) : Nat) : Int) 2))) (List.replicate (Int.toNat (0 : Int)) (0 : Int)) (List.replicate (Int.toNat (IntKind.i64.wrap (Int.tdiv (((List.length where_) : Nat) : Int) 2)) - Int.toNat (0 : Int)) (0 : Int)), .rowx true (cInt .i64) 3 A138 (Int.toNat (IntKind.i64.wrap (Int.tdiv (((List.length where_) : Nat) : Int) 2))) (List.replicate (Int.toNat (0 : Int)) (0 : Int)) (List.replicate (Int.toNat (IntKind.i64.wrap (Int.tdiv (((List.length where_) : Nat) : Int) 2)) - Int.toNat (0 : Int)) (0 : Int))]) ?_ ?_
 ·
  have HR143 := H
  refine dr_start (S := fun w_ => Chg (atL []) w0 w_) (by kernel_rfl) ?_
  intro w140 hc141
  have HS142 : Chg (atL []) w0 w140 := hc141.mono (fun _ _ h_ => h_.elim)
  replace H := H.ext hc141
  refine dn tbok (by kernel_rfl) [0, 2] [] [(24, .int .i64 (IntKind.i64.wrap (Int.tdiv (((List.length where_) : Nat) : Int) 2))), (26, .int .i64 (IntKind.i64.wrap (Int.tdiv (((List.length where_) : Nat) : Int) 2)))] (fun w_ => []) 4 E (fun _ _ => by kernel_rfl) (by kernel_rfl) (fun w_ hS_ => trivial) (by kernel_rfl) HS142 ?_
  clear E; intro a E
  refine wpAnyH_all (rs := [1, 3]) (by kernel_rfl) (by simp) ?_
  refine all2 ?_ ?_
  ·
   refine wpOp_of_list rfl ?_
   refine h_make (cInt .i64) (0 : Int) H E rfl rfl tbok rfl rfl rfl rfl g124 rfl rfl rfl (fun _ _ => rfl) ?_
   intro w145 g144 a hc146 hg148 H_ E_
   replace E := E_ _ rfl; clear E_
   have hin149 : ∀ q_, q_ < w0.heap.size → At (some ⟨g144, 0, none⟩) q_ → (atL []) q_ := fun q_ h1_ h2_ => by have hs_ := HS142.size; have h4_ : q_ = g144 := At.of_g h2_; exfalso; omega
   replace HS142 := HS142.ext hc146
   replace H := H_; clear H_; try dsimp only [setn, addE, goneL] at H
   refine wpList_nil ?_
   refine th_n ⟨HS142, ?_⟩
   refine dn tbok (by kernel_rfl) [4] [] [(8, .slice (some ⟨g144, 0, none⟩) (List.length (List.replicate (Int.toNat (0 : Int)) (0 : Int))) (Int.toNat (IntKind.i64.wrap (Int.tdiv (((List.length where_) : Nat) : Int) 2))))] (fun w_ => []) 2 E (fun _ _ => by kernel_rfl) (by kernel_rfl) (fun w_ hS_ => trivial) (by kernel_rfl) HS142 ?_
   clear E; intro a E
   refine wpAnyH_all (rs := [3]) (by kernel_rfl) (by simp) ?_
   refine all1 ?_
   refine wpOp_of_list rfl ?_
   refine h_make (cInt .i64) (0 : Int) H E rfl rfl tbok rfl rfl rfl rfl g124 rfl rfl rfl (fun _ _ => rfl) ?_
   intro w151 g150 a hc152 hg154 H_ E_
   replace E := E_ _ rfl; clear E_
   have hin155 : ∀ q_, q_ < w0.heap.size → At (some ⟨g150, 0, none⟩) q_ → (atL []) q_ := fun q_ h1_ h2_ => by have hs_ := HS142.size; have h4_ : q_ = g150 := At.of_g h2_; exfalso; omega
   replace HS142 := HS142.ext hc152
   replace H := H_; clear H_; try dsimp only [setn, addE, goneL] at H
   refine wpList_nil ?_
   refine th_n ⟨HS142, ?_⟩
   refine dn tbok (by kernel_rfl) [5] [] [(9, .slice (some ⟨g150, 0, none⟩) (List.length (List.replicate (Int.toNat (0 : Int)) (0 : Int))) (Int.toNat (IntKind.i64.wrap (Int.tdiv (((List.length where_) : Nat) : Int) 2))))] (fun w_ => []) 0 E (fun _ _ => by kernel_rfl) (by kernel_rfl) (fun w_ hS_ => trivial) (by kernel_rfl) HS142 ?_
   clear E; intro a E
   refine dr_done (by kernel_rfl) ?_
   exact .inl ⟨rfl, (some ⟨g144, 0, none⟩), (some ⟨g150, 0, none⟩), E.pick _ ⟨rfl, rfl, rfl, rfl, rfl, trivial⟩, H.sel [1, 2, 0, 3, 4, 5] rfl⟩
  refine wpOp_of_list rfl ?_
  refine h_make (cInt .i64) (0 : Int) H E rfl rfl tbok rfl rfl rfl rfl g124 rfl rfl rfl (fun _ _ => rfl) ?_
  intro w157 g156 a hc158 hg160 H_ E_
  replace E := E_ _ rfl; clear E_
  have hin161 : ∀ q_, q_ < w0.heap.size → At (some ⟨g156, 0, none⟩) q_ → (atL []) q_ := fun q_ h1_ h2_ => by have hs_ := HS142.size; have h4_ : q_ = g156 := At.of_g h2_; exfalso; omega
  replace HS142 := HS142.ext hc158
  replace H := H_; clear H_; try dsimp only [setn, addE, goneL] at H
  refine wpList_nil ?_
  refine th_n ⟨HS142, ?_⟩
  refine wpAnyH_all (rs := [1]) (by kernel_rfl) (by simp) ?_
  refine all1 ?_
  refine wpOp_of_list rfl ?_
  refine h_make (cInt .i64) (0 : Int) H E rfl rfl tbok rfl rfl rfl rfl g124 rfl rfl rfl (fun _ _ => rfl) ?_
  intro w163 g162 a hc164 hg166 H_ E_
  replace E := E_ _ rfl; clear E_
  have hin167 : ∀ q_, q_ < w0.heap.size → At (some ⟨g162, 0, none⟩) q_ → (atL []) q_ := fun q_ h1_ h2_ => by have hs_ := HS142.size; have h4_ : q_ = g162 := At.of_g h2_; exfalso; omega
  replace HS142 := HS142.ext hc164
  replace H := H_; clear H_; try dsimp only [setn, addE, goneL] at H
  refine wpList_nil ?_
  refine th_n ⟨HS142, ?_⟩
  refine dn tbok (by kernel_rfl) [4, 5] [] [(8, .slice (some ⟨g162, 0, none⟩) (List.length (List.replicate (Int.toNat (0 : Int)) (0 : Int))) (Int.toNat (IntKind.i64.wrap (Int.tdiv (((List.length where_) : Nat) : Int) 2)))), (9, .slice (some ⟨g156, 0, none⟩) (List.length (List.replicate (Int.toNat (0 : Int)) (0 : Int))) (Int.toNat (IntKind.i64.wrap (Int.tdiv (((List.length where_) : Nat) : Int) 2))))] (fun w_ => []) 0 E (fun _ _ => by kernel_rfl) (by kernel_rfl) (fun w_ hS_ => trivial) (by kernel_rfl) HS142 ?_
  clear E; intro a E
  refine dr_done (by kernel_rfl) ?_
  exact .inl ⟨rfl, (some ⟨g162, 0, none⟩), (some ⟨g156, 0, none⟩), E.pick _ ⟨rfl, rfl, rfl, rfl, rfl, trivial⟩, H.sel [1, 2, 0, 3, 5, 4] rfl⟩
 clear E H; rintro a w139 ⟨A136, A138, E, H⟩
 refine th_n ?_
 refine wp_seq ?_
 refine wp_seq ?_
 refine wp_region_lit ?_
 refine vn tbok 1 [] [(10, .int .i64 0)] [] E (by kernel_rfl) (by kernel_rfl) trivial ?_
 clear E; intro a E
 refine wpList_nil ?_
 refine th_n ?_
 refine wp_block ?_
 obtain ⟨x248, hL249, hK250⟩ := bind_inv hP
 clear hP
 replace H := H.rowx 4 rfl; try dsimp only [setn, addE, goneL] at H
 replace H := H.rowx 5 rfl; try dsimp only [setn, addE, goneL] at H
 refine loop_cut (fun i_ a w_ => (i_ = 0 ∧ ∃ (x253 : (List Int) × (List Int)), ∃ (A242 : Option Addr) (c243 : Nat) (A245 : Option Addr) (c246 : Nat), Fr a 103 [(0, .pointer (some ⟨g1, 0, none⟩)), (2, .int .i64 p), (8, .slice A242 (List.length x253.1) c243), (9, .slice A245 (List.length x253.2) c246)] ∧ Hp S Fa w0 w_ [.row true cNode 64 A3 c4 snodes, .mp Try.prog 64 g6 (List.map (fun p_ => (ndV p_.1, (fun u_ : Int => .int .i64 u_) p_.2)) sat), .box g1 44 [.int .i64 sn, .slice A3 (List.length snodes) c4, .map (some g6)], .row true (cInt .i64) 3 A242 c243 x253.1, .row true (cInt .i64) 3 A245 c246 x253.2] ∧ x248 = x253)) ?_ ?_
 ·
  refine loopV (fun m252 a w251 => ∃ (lo200 : List Int) (hi203 : List Int) (i206 : Int), ∃ (A201 : Option Addr) (c202 : Nat) (A204 : Option Addr) (c205 : Nat), Fr a 103 [(0, .pointer (some ⟨g1, 0, none⟩)), (1, .slice A8 (List.length where_) c9), (2, .int .i64 p), (8, .slice A201 (List.length lo200) c202), (9, .slice A204 (List.length hi203) c205), (10, .int .i64 i206)] ∧ Hp S Fa w0 w251 [.row true cNode 64 A3 c4 snodes, .mp Try.prog 64 g6 (List.map (fun p_ => (ndV p_.1, (fun u_ : Int => .int .i64 u_) p_.2)) sat), .box g1 44 [.int .i64 sn, .slice A3 (List.length snodes) c4, .map (some g6)], .ro false (cInt .i64) A8 where_, .row true (cInt .i64) 3 A201 c202 lo200, .row true (cInt .i64) 3 A204 c205 hi203] ∧ guard_Store_add_l0 N where_ m252 lo200 hi203 i206 = some x248) N ?_ ?_
  ·
   exact ⟨List.replicate (Int.toNat (0 : Int)) (0 : Int), List.replicate (Int.toNat (0 : Int)) (0 : Int), 0, A136, (Int.toNat (IntKind.i64.wrap (Int.tdiv (((List.length where_) : Nat) : Int) 2))), A138, (Int.toNat (IntKind.i64.wrap (Int.tdiv (((List.length where_) : Nat) : Int) 2))), E.pick _ ⟨rfl, rfl, rfl, rfl, rfl, rfl, trivial⟩, H.sel [0, 1, 2, 3, 4, 5] rfl, hL249⟩
  clear E H hL249; intro m252 a w251 hI_
  obtain ⟨lo200, hi203, i206, A201, c202, A204, c205, E, H, hP⟩ := hI_
  obtain ⟨m247, rfl⟩ : ∃ q_, m252 = q_ + 1 := by cases m252 with | zero => rw [guard_Store_add_l0] at hP; cases hP | succ q_ => exact ⟨q_, rfl⟩
  rw [guard_Store_add_l0] at hP
  refine wp_seq ?_
  refine wp_seq ?_
  refine wp_region_lit ?_
  refine vn tbok 4 [] [(31, .bool (decide (i206 < (((List.length where_) : Nat) : Int))))] [] E (by kernel_rfl) (by kernel_rfl) trivial ?_
  clear E; intro a E
  refine wpList_nil ?_
  refine th_n ?_
  refine E.cases (t := 31) rfl (fun hb_ E_ => ?_) (fun hb_ E_ => ?_)
  ·
   replace E := E_; clear E_
   have h254 : i206 < (((List.length where_) : Nat) : Int) := of_decide_eq_true hb_
   clear hb_; replace hP := ite_t h254 hP
   refine c_true E rfl ?_
   refine wp_skip ?_
   refine th_n ?_
   refine wp_seq ?_
   refine wp_block ?_
   obtain ⟨g255, hP⟩ := ask_inv hP
   obtain ⟨b256, o257, e_b256⟩ := (H.rd 3 rds_ro).addr (idx_pos g255)
   subst e_b256
   obtain ⟨g263, hP⟩ := ask_inv hP
   obtain ⟨g269, hP⟩ := ask_inv hP
   obtain ⟨g270, hP⟩ := ask_inv hP
   obtain ⟨g276, hP⟩ := ask_inv hP
   refine meet_cut (fun a w286 => ∃ (A282 : Option Addr) (c283 : Nat) (A284 : Option Addr) (c285 : Nat), Fr a 103 [(0, .pointer (some ⟨g1, 0, none⟩)), (1, .slice (some ⟨b256, o257, none⟩) (List.length where_) c9), (2, .int .i64 p), (8, .slice A282 (List.length (lo200 ++ ([(List.getD where_ (Int.toNat i206) 0)] : List Int))) c283), (9, .slice A284 (List.length (hi203 ++ ([(List.getD where_ (Int.toNat (i206 + 1)) 0)] : List Int))) c285), (10, .int .i64 i206)] ∧ Hp S Fa w0 w286 [.row true cNode 64 A3 c4 snodes, .mp Try.prog 64 g6 (List.map (fun p_ => (ndV p_.1, (fun u_ : Int => .int .i64 u_) p_.2)) sat), .box g1 44 [.int .i64 sn, .slice A3 (List.length snodes) c4, .map (some g6)], .ro false (cInt .i64) (some ⟨b256, o257, none⟩) where_, .row true (cInt .i64) 3 A282 c283 (lo200 ++ ([(List.getD where_ (Int.toNat i206) 0)] : List Int)), .row true (cInt .i64) 3 A284 c285 (hi203 ++ ([(List.getD where_ (Int.toNat (i206 + 1)) 0)] : List Int))]) ?_ ?_
   ·
    have HR290 := H
    refine dr_start (S := fun w_ => Chg (atL [.row true (cInt .i64) 3 A201 c202 lo200, .row true (cInt .i64) 3 A204 c205 hi203]) w251 w_) (by kernel_rfl) ?_
    intro w287 hc288
    have HS289 : Chg (atL [.row true (cInt .i64) 3 A201 c202 lo200, .row true (cInt .i64) 3 A204 c205 hi203]) w251 w287 := hc288.mono (fun _ _ h_ => h_.elim)
    replace H := H.ext hc288
    refine dn tbok (by kernel_rfl) [0, 1, 2, 3, 4, 7, 8, 9, 10, 11, 12] [.int .i64 (List.getD where_ (Int.toNat i206) 0), .int .i64 (i206 + 1), .int .i64 (List.getD where_ (Int.toNat (i206 + 1)) 0)] [(34, .slice A201 (List.length lo200) c202), (38, .int .i64 (List.getD where_ (Int.toNat i206) 0)), (41, .slice A204 (List.length hi203) c205), (46, .int .i64 (List.getD where_ (Int.toNat (i206 + 1)) 0))] (fun w_ => [0 ≤ i206 ∧ i206 < (((List.length where_) : Nat) : Int), World.cell? w_ ⟨b256, o257 + (Int.toNat i206) * 1, none⟩ = some (.int .i64 (List.getD where_ (Int.toNat i206) 0)), IntKind.i64.wrap (i206 + 1) = i206 + 1, 0 ≤ (i206 + 1) ∧ (i206 + 1) < (((List.length where_) : Nat) : Int), World.cell? w_ ⟨b256, o257 + (Int.toNat (i206 + 1)) * 1, none⟩ = some (.int .i64 (List.getD where_ (Int.toNat (i206 + 1)) 0))]) 6 E (fun _ _ => by kernel_rfl) (by kernel_rfl) (fun w_ hS_ => ⟨g255, Rds.at1 (HR290.rdk [4, 5] hS_ 3 rds_ro rfl) 0 g255, wrap_in g269, g270, Rds.at1 (HR290.rdk [4, 5] hS_ 3 rds_ro rfl) 0 g270⟩) (by kernel_rfl) HS289 ?_
    clear E; intro a E
    refine wpAnyH_all (rs := [5, 13]) (by kernel_rfl) (by simp) ?_
    refine all2 ?_ ?_
    ·
     refine wpOp_of_list rfl ?_
     refine h_buildSlice (ps := [(0, .int .i64 (List.getD where_ (Int.toNat i206) 0))]) (cs := [.int .i64 (List.getD where_ (Int.toNat i206) 0)]) H E rfl rfl tbok rfl rfl (by kernel_rfl) ?_
     intro w292 g291 a hc293 hg295 H_ E_
     replace E := E_ _ rfl; clear E_
     have hin296 : ∀ q_, q_ < w251.heap.size → q_ = g291 → (atL [.row true (cInt .i64) 3 A201 c202 lo200, .row true (cInt .i64) 3 A204 c205 hi203]) q_ := fun q_ h1_ h2_ => by have hs_ := HS289.size; have h4_ : q_ = g291 := h2_; exfalso; omega
     replace HS289 := HS289.ext hc293
     replace H := H_; clear H_; try dsimp only [setn, addE, goneL] at H
     refine wpList_nil ?_
     refine th_n ⟨HS289, ?_⟩
     refine wpAnyH_all (rs := [6, 13]) (by kernel_rfl) (by simp) ?_
     refine all2 ?_ ?_
     ·
      refine wpOp_of_list rfl ?_
      refine h_append (cInt .i64) (xs := lo200) (ys := ([(List.getD where_ (Int.toNat i206) 0)] : List Int)) (0 : Int) H 4 rfl E rfl rfl tbok rfl rfl rfl rfl rfl (fun _ _ => rfl) rfl rfl (fun _ HF_ => HF_.srcB 6 rfl (⟨_, _, rfl, rfl, rfl⟩)) g263 ?_
      intro w297 A298 c299 a hc300 hA301 H_ E_
      replace E := E_ _ rfl; clear E_
      have hin302 : ∀ q_, q_ < w251.heap.size → At A298 q_ → (atL [.row true (cInt .i64) 3 A201 c202 lo200, .row true (cInt .i64) 3 A204 c205 hi203]) q_ := fun q_ h1_ h2_ => (hA301 q_ h2_).elim ((fun _ _ h_ => Or.inl h_) q_ h1_) (fun h3_ => by have hs_ := HS289.size; exfalso; omega)
      replace HS289 := HS289.trans hc300 (fun k_ hk_ h_ => (fun _ _ h_ => Or.inl h_) k_ hk_ h_)
      replace H := H_; clear H_; try dsimp only [setn, addE, goneL] at H
      refine wpList_nil ?_
      refine th_n ⟨HS289, ?_⟩
      refine wpAnyH_all (rs := [13]) (by kernel_rfl) (by simp) ?_
      refine all1 ?_
      refine wpOp_of_list rfl ?_
      refine h_buildSlice (ps := [(0, .int .i64 (List.getD where_ (Int.toNat (i206 + 1)) 0))]) (cs := [.int .i64 (List.getD where_ (Int.toNat (i206 + 1)) 0)]) H E rfl rfl tbok rfl rfl (by kernel_rfl) ?_
      intro w304 g303 a hc305 hg307 H_ E_
      replace E := E_ _ rfl; clear E_
      have hin308 : ∀ q_, q_ < w251.heap.size → q_ = g303 → (atL [.row true (cInt .i64) 3 A201 c202 lo200, .row true (cInt .i64) 3 A204 c205 hi203]) q_ := fun q_ h1_ h2_ => by have hs_ := HS289.size; have h4_ : q_ = g303 := h2_; exfalso; omega
      replace HS289 := HS289.ext hc305
      replace H := H_; clear H_; try dsimp only [setn, addE, goneL] at H
      refine wpList_nil ?_
      refine th_n ⟨HS289, ?_⟩
      refine wpAnyH_all (rs := [14]) (by kernel_rfl) (by simp) ?_
      refine all1 ?_
      refine wpOp_of_list rfl ?_
      refine h_append (cInt .i64) (xs := hi203) (ys := ([(List.getD where_ (Int.toNat (i206 + 1)) 0)] : List Int)) (0 : Int) H 5 rfl E rfl rfl tbok rfl rfl rfl rfl rfl (fun _ _ => rfl) rfl rfl (fun _ HF_ => HF_.srcB 7 rfl (⟨_, _, rfl, rfl, rfl⟩)) g276 ?_
      intro w309 A310 c311 a hc312 hA313 H_ E_
      replace E := E_ _ rfl; clear E_
      have hin314 : ∀ q_, q_ < w251.heap.size → At A310 q_ → (atL [.row true (cInt .i64) 3 A201 c202 lo200, .row true (cInt .i64) 3 A204 c205 hi203]) q_ := fun q_ h1_ h2_ => (hA313 q_ h2_).elim ((fun _ _ h_ => Or.inr (Or.inl h_)) q_ h1_) (fun h3_ => by have hs_ := HS289.size; exfalso; omega)
      replace HS289 := HS289.trans hc312 (fun k_ hk_ h_ => (fun _ _ h_ => Or.inr (Or.inl h_)) k_ hk_ h_)
      replace H := H_; clear H_; try dsimp only [setn, addE, goneL] at H
      refine wpList_nil ?_
      refine th_n ⟨HS289, ?_⟩
      refine dn tbok (by kernel_rfl) [15, 16] [] [(8, .slice A298 (List.length (lo200 ++ ([(List.getD where_ (Int.toNat i206) 0)] : List Int))) c299), (9, .slice A310 (List.length (hi203 ++ ([(List.getD where_ (Int.toNat (i206 + 1)) 0)] : List Int))) c311)] (fun w_ => []) 0 E (fun _ _ => by kernel_rfl) (by kernel_rfl) (fun w_ hS_ => trivial) (by kernel_rfl) HS289 ?_
      clear E; intro a E
      refine dr_done (by kernel_rfl) ?_
      exact .inl ⟨rfl, A298, c299, A310, c311, E.pick _ ⟨rfl, rfl, rfl, rfl, rfl, rfl, trivial⟩, H.sel [0, 1, 2, 3, 4, 5] rfl⟩
     refine wpOp_of_list rfl ?_
     refine h_buildSlice (ps := [(0, .int .i64 (List.getD where_ (Int.toNat (i206 + 1)) 0))]) (cs := [.int .i64 (List.getD where_ (Int.toNat (i206 + 1)) 0)]) H E rfl rfl tbok rfl rfl (by kernel_rfl) ?_
     intro w316 g315 a hc317 hg319 H_ E_
     replace E := E_ _ rfl; clear E_
     have hin320 : ∀ q_, q_ < w251.heap.size → q_ = g315 → (atL [.row true (cInt .i64) 3 A201 c202 lo200, .row true (cInt .i64) 3 A204 c205 hi203]) q_ := fun q_ h1_ h2_ => by have hs_ := HS289.size; have h4_ : q_ = g315 := h2_; exfalso; omega
     replace HS289 := HS289.ext hc317
     replace H := H_; clear H_; try dsimp only [setn, addE, goneL] at H
     refine wpList_nil ?_
     refine th_n ⟨HS289, ?_⟩
     refine wpAnyH_all (rs := [6]) (by kernel_rfl) (by simp) ?_
     refine all1 ?_
     refine wpOp_of_list rfl ?_
     refine h_append (cInt .i64) (xs := lo200) (ys := ([(List.getD where_ (Int.toNat i206) 0)] : List Int)) (0 : Int) H 4 rfl E rfl rfl tbok rfl rfl rfl rfl rfl (fun _ _ => rfl) rfl rfl (fun _ HF_ => HF_.srcB 6 rfl (⟨_, _, rfl, rfl, rfl⟩)) g263 ?_
     intro w321 A322 c323 a hc324 hA325 H_ E_
     replace E := E_ _ rfl; clear E_
     have hin326 : ∀ q_, q_ < w251.heap.size → At A322 q_ → (atL [.row true (cInt .i64) 3 A201 c202 lo200, .row true (cInt .i64) 3 A204 c205 hi203]) q_ := fun q_ h1_ h2_ => (hA325 q_ h2_).elim ((fun _ _ h_ => Or.inl h_) q_ h1_) (fun h3_ => by have hs_ := HS289.size; exfalso; omega)
     replace HS289 := HS289.trans hc324 (fun k_ hk_ h_ => (fun _ _ h_ => Or.inl h_) k_ hk_ h_)
     replace H := H_; clear H_; try dsimp only [setn, addE, goneL] at H
     refine wpList_nil ?_
     refine th_n ⟨HS289, ?_⟩
     refine wpAnyH_all (rs := [14]) (by kernel_rfl) (by simp) ?_
     refine all1 ?_
     refine wpOp_of_list rfl ?_
     refine h_append (cInt .i64) (xs := hi203) (ys := ([(List.getD where_ (Int.toNat (i206 + 1)) 0)] : List Int)) (0 : Int) H 5 rfl E rfl rfl tbok rfl rfl rfl rfl rfl (fun _ _ => rfl) rfl rfl (fun _ HF_ => HF_.srcB 7 rfl (⟨_, _, rfl, rfl, rfl⟩)) g276 ?_
     intro w327 A328 c329 a hc330 hA331 H_ E_
     replace E := E_ _ rfl; clear E_
     have hin332 : ∀ q_, q_ < w251.heap.size → At A328 q_ → (atL [.row true (cInt .i64) 3 A201 c202 lo200, .row true (cInt .i64) 3 A204 c205 hi203]) q_ := fun q_ h1_ h2_ => (hA331 q_ h2_).elim ((fun _ _ h_ => Or.inr (Or.inl h_)) q_ h1_) (fun h3_ => by have hs_ := HS289.size; exfalso; omega)
     replace HS289 := HS289.trans hc330 (fun k_ hk_ h_ => (fun _ _ h_ => Or.inr (Or.inl h_)) k_ hk_ h_)
     replace H := H_; clear H_; try dsimp only [setn, addE, goneL] at H
     refine wpList_nil ?_
     refine th_n ⟨HS289, ?_⟩
     refine dn tbok (by kernel_rfl) [15, 16] [] [(8, .slice A322 (List.length (lo200 ++ ([(List.getD where_ (Int.toNat i206) 0)] : List Int))) c323), (9, .slice A328 (List.length (hi203 ++ ([(List.getD where_ (Int.toNat (i206 + 1)) 0)] : List Int))) c329)] (fun w_ => []) 0 E (fun _ _ => by kernel_rfl) (by kernel_rfl) (fun w_ hS_ => trivial) (by kernel_rfl) HS289 ?_
     clear E; intro a E
     refine dr_done (by kernel_rfl) ?_
     exact .inl ⟨rfl, A322, c323, A328, c329, E.pick _ ⟨rfl, rfl, rfl, rfl, rfl, rfl, trivial⟩, H.sel [0, 1, 2, 3, 4, 5] rfl⟩
    refine wpOp_of_list rfl ?_
    refine h_buildSlice (ps := [(0, .int .i64 (List.getD where_ (Int.toNat (i206 + 1)) 0))]) (cs := [.int .i64 (List.getD where_ (Int.toNat (i206 + 1)) 0)]) H E rfl rfl tbok rfl rfl (by kernel_rfl) ?_
    intro w334 g333 a hc335 hg337 H_ E_
    replace E := E_ _ rfl; clear E_
    have hin338 : ∀ q_, q_ < w251.heap.size → q_ = g333 → (atL [.row true (cInt .i64) 3 A201 c202 lo200, .row true (cInt .i64) 3 A204 c205 hi203]) q_ := fun q_ h1_ h2_ => by have hs_ := HS289.size; have h4_ : q_ = g333 := h2_; exfalso; omega
    replace HS289 := HS289.ext hc335
    replace H := H_; clear H_; try dsimp only [setn, addE, goneL] at H
    refine wpList_nil ?_
    refine th_n ⟨HS289, ?_⟩
    refine wpAnyH_all (rs := [5]) (by kernel_rfl) (by simp) ?_
    refine all1 ?_
    refine wpOp_of_list rfl ?_
    refine h_buildSlice (ps := [(0, .int .i64 (List.getD where_ (Int.toNat i206) 0))]) (cs := [.int .i64 (List.getD where_ (Int.toNat i206) 0)]) H E rfl rfl tbok rfl rfl (by kernel_rfl) ?_
    intro w340 g339 a hc341 hg343 H_ E_
    replace E := E_ _ rfl; clear E_
    have hin344 : ∀ q_, q_ < w251.heap.size → q_ = g339 → (atL [.row true (cInt .i64) 3 A201 c202 lo200, .row true (cInt .i64) 3 A204 c205 hi203]) q_ := fun q_ h1_ h2_ => by have hs_ := HS289.size; have h4_ : q_ = g339 := h2_; exfalso; omega
    replace HS289 := HS289.ext hc341
    replace H := H_; clear H_; try dsimp only [setn, addE, goneL] at H
    refine wpList_nil ?_
    refine th_n ⟨HS289, ?_⟩
    refine wpAnyH_all (rs := [6]) (by kernel_rfl) (by simp) ?_
    refine all1 ?_
    refine wpOp_of_list rfl ?_
    refine h_append (cInt .i64) (xs := lo200) (ys := ([(List.getD where_ (Int.toNat i206) 0)] : List Int)) (0 : Int) H 4 rfl E rfl rfl tbok rfl rfl rfl rfl rfl (fun _ _ => rfl) rfl rfl (fun _ HF_ => HF_.srcB 7 rfl (⟨_, _, rfl, rfl, rfl⟩)) g263 ?_
    intro w345 A346 c347 a hc348 hA349 H_ E_
    replace E := E_ _ rfl; clear E_
    have hin350 : ∀ q_, q_ < w251.heap.size → At A346 q_ → (atL [.row true (cInt .i64) 3 A201 c202 lo200, .row true (cInt .i64) 3 A204 c205 hi203]) q_ := fun q_ h1_ h2_ => (hA349 q_ h2_).elim ((fun _ _ h_ => Or.inl h_) q_ h1_) (fun h3_ => by have hs_ := HS289.size; exfalso; omega)
    replace HS289 := HS289.trans hc348 (fun k_ hk_ h_ => (fun _ _ h_ => Or.inl h_) k_ hk_ h_)
    replace H := H_; clear H_; try dsimp only [setn, addE, goneL] at H
    refine wpList_nil ?_
    refine th_n ⟨HS289, ?_⟩
    refine wpAnyH_all (rs := [14]) (by kernel_rfl) (by simp) ?_
    refine all1 ?_
    refine wpOp_of_list rfl ?_
    refine h_append (cInt .i64) (xs := hi203) (ys := ([(List.getD where_ (Int.toNat (i206 + 1)) 0)] : List Int)) (0 : Int) H 5 rfl E rfl rfl tbok rfl rfl rfl rfl rfl (fun _ _ => rfl) rfl rfl (fun _ HF_ => HF_.srcB 6 rfl (⟨_, _, rfl, rfl, rfl⟩)) g276 ?_
    intro w351 A352 c353 a hc354 hA355 H_ E_
    replace E := E_ _ rfl; clear E_
    have hin356 : ∀ q_, q_ < w251.heap.size → At A352 q_ → (atL [.row true (cInt .i64) 3 A201 c202 lo200, .row true (cInt .i64) 3 A204 c205 hi203]) q_ := fun q_ h1_ h2_ => (hA355 q_ h2_).elim ((fun _ _ h_ => Or.inr (Or.inl h_)) q_ h1_) (fun h3_ => by have hs_ := HS289.size; exfalso; omega)
    replace HS289 := HS289.trans hc354 (fun k_ hk_ h_ => (fun _ _ h_ => Or.inr (Or.inl h_)) k_ hk_ h_)
    replace H := H_; clear H_; try dsimp only [setn, addE, goneL] at H
    refine wpList_nil ?_
    refine th_n ⟨HS289, ?_⟩
    refine dn tbok (by kernel_rfl) [15, 16] [] [(8, .slice A346 (List.length (lo200 ++ ([(List.getD where_ (Int.toNat i206) 0)] : List Int))) c347), (9, .slice A352 (List.length (hi203 ++ ([(List.getD where_ (Int.toNat (i206 + 1)) 0)] : List Int))) c353)] (fun w_ => []) 0 E (fun _ _ => by kernel_rfl) (by kernel_rfl) (fun w_ hS_ => trivial) (by kernel_rfl) HS289 ?_
    clear E; intro a E
    refine dr_done (by kernel_rfl) ?_
    exact .inl ⟨rfl, A346, c347, A352, c353, E.pick _ ⟨rfl, rfl, rfl, rfl, rfl, rfl, trivial⟩, H.sel [0, 1, 2, 3, 4, 5] rfl⟩
   clear E H; rintro a w286 ⟨A282, c283, A284, c285, E, H⟩
   refine bl_n ?_
   refine th_n ?_
   refine wp_region_lit ?_
   obtain ⟨g357, hP⟩ := ask_inv hP
   refine vn tbok 3 [.int .i64 (i206 + 2)] [(10, .int .i64 (i206 + 2))] [IntKind.i64.wrap (i206 + 2) = i206 + 2] E (by kernel_rfl) (by kernel_rfl) (wrap_in g357) ?_
   clear E; intro a E
   refine wpList_nil ?_
   exact th_n ⟨m247, Nat.lt_succ_self _, lo200 ++ ([(List.getD where_ (Int.toNat i206) 0)] : List Int), hi203 ++ ([(List.getD where_ (Int.toNat (i206 + 1)) 0)] : List Int), i206 + 2, A282, c283, A284, c285, E.pick _ ⟨rfl, rfl, rfl, rfl, rfl, rfl, trivial⟩, H.sel [0, 1, 2, 3, 4, 5] rfl, hP⟩
  replace E := E_; clear E_
  have h358 : ¬ (i206 < (((List.length where_) : Nat) : Int)) := of_decide_eq_false hb_
  clear hb_; replace hP := ite_f h358 hP
  refine c_false E rfl ?_
  refine wp_exit ?_
  refine th_exit ?_
  have hx_ := Option.some.inj hP
  refine th_exit (.inl ⟨0, rfl, ?_⟩)
  exact ⟨rfl, (lo200, hi203), A201, c202, A204, c205, E.pick _ ⟨rfl, rfl, rfl, rfl, trivial⟩, H.sel [0, 1, 2, 4, 5] rfl, hx_.symm⟩
 clear E H hL249; intro i_ a w251 hM_
 obtain ⟨rfl, x253, A242, c243, A245, c246, E, H, hx_⟩ := hM_
 subst hx_; have hP := hK250; clear hK250
 refine bl_hit ?_
 refine th_n ?_
 refine wp_seq ?_
 refine wp_region_lit ?_
 refine vn tbok 1 [] [(49, .int .i64 p)] [] E (by kernel_rfl) (by kernel_rfl) trivial ?_
 clear E; intro a E
 refine e_build (ps := [(0, .int .i64 p)]) (v := .agg #[.int .i64 p, .int .i64 0, .int .i64 0]) E rfl rfl tbok rfl (by kernel_rfl) rfl ?_
 clear E; intro a E
 refine h_alloc H E rfl rfl tbok rfl ?_
 intro w360 g359 a hc361 hg363 H_ E_
 replace E := E_ _ rfl; clear E_
 replace H := H_; clear H_; try dsimp only [setn, addE, goneL] at H
 refine h_store (g := g359) (off := 0) H 5 rfl E rfl rfl rfl rfl tbok rfl rfl rfl rfl rfl ?_
 clear E; intro w364 a hc365 H_ E
 replace H := H_; clear H_; try dsimp only [setn, addE, goneL] at H
 refine wpList_nil ?_
 refine th_n ?_
 refine wp_seq ?_
 refine wp_region_lit ?_
 obtain ⟨g366, hP⟩ := ask_inv hP
 refine vn tbok 4 [.int .i64 (p + 1)] [(51, .pointer (some ⟨g1, 0, none⟩)), (52, .slice A242 (List.length x248.1) c243), (54, .int .i64 (p + 1))] [IntKind.i64.wrap (p + 1) = p + 1] E (by kernel_rfl) (by kernel_rfl) (wrap_in g366) ?_
 clear E; intro a E
 obtain ⟨r367, h368, hP⟩ := bind_inv hP
 obtain ⟨Fa369, Hc370, hb371⟩ := H.call [2, 0, 1] [(3, false)] rfl rfl ⟨flat_plain, trivial⟩
 refine e_call E rfl rfl Try.func32 rfl rfl rfl (ih_ _ _ _ g1 A3 c4 g6 A242 c243 sn snodes sat x248.1 (p + 1) _ (H.rcap 3 rfl) Hc370 h368) ?_
 intro v377 w376 a hR378 E_
 obtain ⟨x_, A381, c382, hr_, rfl, HR380⟩ := hR378
 subst hr_
 replace E := E_ _ rfl; clear E_
 obtain ⟨H_, hc379⟩ := hb371 _ _ HR380 rfl
 replace H := H_; clear H_; try dsimp only [setn, addE, goneL] at H
 refine vn tbok 1 [] [(56, .pointer (some ⟨g359, 1, none⟩))] [] E (by kernel_rfl) (by kernel_rfl) trivial ?_
 clear E; intro a E
 refine h_store (g := g359) (off := 1) H 5 rfl E rfl rfl rfl rfl tbok rfl rfl rfl rfl rfl ?_
 clear E; intro w386 a hc387 H_ E
 replace H := H_; clear H_; try dsimp only [setn, addE, goneL] at H
 refine wpList_nil ?_
 refine th_n ?_
 refine wp_seq ?_
 refine wp_region_lit ?_
 refine vn tbok 4 [.int .i64 (p + 1)] [(57, .pointer (some ⟨g1, 0, none⟩)), (58, .slice A245 (List.length x248.2) c246), (60, .int .i64 (p + 1))] [IntKind.i64.wrap (p + 1) = p + 1] E (by kernel_rfl) (by kernel_rfl) (wrap_in g366) ?_
 clear E; intro a E
 obtain ⟨r388, h389, hP⟩ := bind_inv hP
 obtain ⟨Fa390, Hc391, hb392⟩ := H.call [6, 7, 8] [(4, false)] rfl rfl ⟨flat_plain, trivial⟩
 refine e_call E rfl rfl Try.func32 rfl rfl rfl (ih_ _ _ _ g1 A381 c382 g6 A245 c246 sn r367.2.1 r367.2.2 x248.2 (p + 1) _ (H.rcap 4 rfl) Hc391 h389) ?_
 intro v398 w397 a hR399 E_
 obtain ⟨x_, A402, c403, hr_, rfl, HR401⟩ := hR399
 subst hr_
 replace E := E_ _ rfl; clear E_
 obtain ⟨H_, hc400⟩ := hb392 _ _ HR401 rfl
 replace H := H_; clear H_; try dsimp only [setn, addE, goneL] at H
 refine vn tbok 1 [] [(62, .pointer (some ⟨g359, 2, none⟩))] [] E (by kernel_rfl) (by kernel_rfl) trivial ?_
 clear E; intro a E
 refine h_store (g := g359) (off := 2) H 5 rfl E rfl rfl rfl rfl tbok rfl rfl rfl rfl rfl ?_
 clear E; intro w407 a hc408 H_ E
 replace H := H_; clear H_; try dsimp only [setn, addE, goneL] at H
 refine wpList_nil ?_
 refine th_n ?_
 refine wp_seq ?_
 refine wp_seq ?_
 refine wp_region_lit ?_
 refine vn tbok 5 [.int .i64 r367.1, .int .i64 r388.1] [(67, .bool ((r367.1 : Int) == r388.1))] [World.cell? w407 ⟨g359, 1, none⟩ = some (.int .i64 r367.1), World.cell? w407 ⟨g359, 2, none⟩ = some (.int .i64 r388.1)] E (by kernel_rfl) (by kernel_rfl) ⟨(H.box 5 rfl).cell (j := 1) rfl, (H.box 5 rfl).cell (j := 2) rfl⟩ ?_
 clear E; intro a E
 refine wpList_nil ?_
 refine th_n ?_
 refine E.cases (t := 67) rfl (fun hb_ E_ => ?_) (fun hb_ E_ => ?_)
 ·
  replace E := E_; clear E_
  have h409 : (r367.1 : Int) = r388.1 := eq_of_beq hb_
  clear hb_; replace hP := ite_t h409 hP
  refine c_true E rfl ?_
  refine wp_seq ?_
  refine wp_region_lit ?_
  refine vn tbok 3 [.int .i64 r367.1] [(6, .int .i64 r367.1)] [World.cell? w407 ⟨g359, 1, none⟩ = some (.int .i64 r367.1)] E (by kernel_rfl) (by kernel_rfl) ((H.box 5 rfl).cell (j := 1) rfl) ?_
  clear E; intro a E
  refine wpList_nil ?_
  refine th_n ?_
  refine wp_ret ?_
  refine th_ret ?_
  obtain rfl := Option.some.inj hP
  refine ret1 E rfl rfl ?_
  exact ⟨_, rfl, ⟨(r367.1, r388.2.1, r388.2.2), A402, c403, rfl, rfl, H.sel [9, 10, 11] rfl⟩⟩
 replace E := E_; clear E_
 have h410 : ¬ ((r367.1 : Int) = r388.1) := ne_of_beq_false hb_
 clear hb_; replace hP := ite_f h410 hP
 refine c_false E rfl ?_
 refine wp_skip ?_
 refine th_n ?_
 refine wp_seq ?_
 obtain ⟨g411, hP⟩ := ask_inv hP
 have HR415 := H
 refine dr_start (S := fun w_ => Chg (atL []) w407 w_) (by kernel_rfl) ?_
 intro w412 hc413
 have HS414 : Chg (atL []) w407 w412 := hc413.mono (fun _ _ h_ => h_.elim)
 replace H := H.ext hc413
 refine dn tbok (by kernel_rfl) [0, 1, 2, 3, 4] [.map (some g6), .agg #[.int .i64 p, .int .i64 r367.1, .int .i64 r388.1]] [(74, .map (some g6)), (75, .agg #[.int .i64 p, .int .i64 r367.1, .int .i64 r388.1])] (fun w_ => [World.cell? w_ ⟨g1, 2, none⟩ = some (.map (some g6)), cellsAt w_ g359 (0) [.int .i64 p, .int .i64 r367.1, .int .i64 r388.1]]) 6 E (fun _ _ => by kernel_rfl) (by kernel_rfl) (fun w_ hS_ => ⟨(HR415.boxk [] hS_ 9 rfl rfl).cell (j := 2) rfl, (HR415.boxk [] hS_ 5 rfl rfl).sub 0 _ rfl⟩) (by kernel_rfl) HS414 ?_
 clear E; intro a E
 refine wpAnyH_all (rs := [5]) (by kernel_rfl) (by simp) ?_
 refine all1 ?_
 refine wpOp_of_list rfl ?_
 refine h_lookupC ndV (fun u_ : Int => .int .i64 u_) (⟨p, r367.1, r388.1⟩ : Nd) 0 H 11 rfl E rfl rfl tbok rfl rfl kNd rfl rfl rfl g411 (fun _ => ⟨_, rfl⟩) ?_
 clear E; intro a E_; replace E := E_ _ rfl; clear E_
 refine wpList_nil ?_
 refine th_n ⟨HS414, ?_⟩
 refine dn tbok (by kernel_rfl) [6, 7, 8, 9, 10] [] [(12, .int .i64 (Option.getD (mget r388.2.2 (⟨p, r367.1, r388.1⟩ : Nd)) 0)), (13, .bool (Option.isSome (mget r388.2.2 (⟨p, r367.1, r388.1⟩ : Nd))))] (fun w_ => []) 0 E (fun _ _ => by kernel_rfl) (by kernel_rfl) (fun w_ hS_ => trivial) (by kernel_rfl) HS414 ?_
 clear E; intro a E
 refine dr_done (by kernel_rfl) ?_
 clear HS414 HR415
 refine th_n ?_
 refine wp_seq ?_
 refine wp_seq ?_
 refine wp_region_lit ?_
 refine vn tbok 2 [] [(80, .bool (!(Option.isSome (mget r388.2.2 (⟨p, r367.1, r388.1⟩ : Nd)))))] [] E (by kernel_rfl) (by kernel_rfl) trivial ?_
 clear E; intro a E
 refine wpList_nil ?_
 refine th_n ?_
 refine E.cases (t := 80) rfl (fun hb_ E_ => ?_) (fun hb_ E_ => ?_)
 ·
  replace E := E_; clear E_
  have h416 : ¬ ((Option.isSome (mget r388.2.2 (⟨p, r367.1, r388.1⟩ : Nd))) = true) := (ne_true_of_eq_false (not_t hb_))
  clear hb_; replace hP := ite_f h416 hP
  refine c_true E rfl ?_
  refine wp_seq ?_
  refine wp_region_lit ?_
  refine vn tbok 6 [.slice A402 (List.length r388.2.1) c403] [(12, .int .i64 (((List.length r388.2.1) : Nat) : Int))] [World.cell? w412 ⟨g1, 1, none⟩ = some (.slice A402 (List.length r388.2.1) c403)] E (by kernel_rfl) (by kernel_rfl) ((H.box 9 rfl).cell (j := 1) rfl) ?_
  clear E; intro a E
  refine wpList_nil ?_
  refine th_n ?_
  refine wp_seq ?_
  obtain ⟨g417, hP⟩ := ask_inv hP
  have HR423 := H
  refine dr_start (S := fun w_ => Chg (atL [.mp Try.prog 64 g6 (List.map (fun p_ => (ndV p_.1, (fun u_ : Int => .int .i64 u_) p_.2)) r388.2.2)]) w412 w_) (by kernel_rfl) ?_
  intro w420 hc421
  have HS422 : Chg (atL [.mp Try.prog 64 g6 (List.map (fun p_ => (ndV p_.1, (fun u_ : Int => .int .i64 u_) p_.2)) r388.2.2)]) w412 w420 := hc421.mono (fun _ _ h_ => h_.elim)
  replace H := H.ext hc421
  refine dn tbok (by kernel_rfl) [0, 1, 2, 3, 4, 5] [.map (some g6), .agg #[.int .i64 p, .int .i64 r367.1, .int .i64 r388.1]] [(89, .map (some g6)), (90, .agg #[.int .i64 p, .int .i64 r367.1, .int .i64 r388.1]), (91, .int .i64 (((List.length r388.2.1) : Nat) : Int))] (fun w_ => [World.cell? w_ ⟨g1, 2, none⟩ = some (.map (some g6)), cellsAt w_ g359 (0) [.int .i64 p, .int .i64 r367.1, .int .i64 r388.1]]) 1 E (fun _ _ => by kernel_rfl) (by kernel_rfl) (fun w_ hS_ => ⟨(HR423.boxk [11] hS_ 9 rfl rfl).cell (j := 2) rfl, (HR423.boxk [11] hS_ 5 rfl rfl).sub 0 _ rfl⟩) (by kernel_rfl) HS422 ?_
  clear E; intro a E
  refine wpAnyH_all (rs := [6]) (by kernel_rfl) (by simp) ?_
  refine all1 ?_
  refine wpOp_of_list rfl ?_
  refine h_mapUpdate ndV (fun u_ : Int => .int .i64 u_) (⟨p, r367.1, r388.1⟩ : Nd) (((List.length r388.2.1) : Nat) : Int) H 11 rfl E rfl rfl tbok rfl kNd rfl rfl rfl g411 g417 rfl ?_
  clear E; intro w424 a hc425 H_ E
  replace HS422 := HS422.trans hc425 (fun k_ hk_ h_ => (fun _ _ h_ => Or.inl h_) k_ hk_ h_)
  replace H := H_; clear H_; try dsimp only [setn, addE, goneL] at H
  refine wpList_nil ?_
  refine th_n ⟨HS422, ?_⟩
  refine dr_done (by kernel_rfl) ?_
  clear HS422 HR423
  refine th_n ?_
  obtain ⟨g431, hP⟩ := ask_inv hP
  refine meet_cut (fun a w441 => ∃ (A439 : Option Addr) (c440 : Nat), Fr a 103 [(12, .int .i64 (((List.length r388.2.1) : Nat) : Int))] ∧ Hp S Fa w0 w441 [.box g1 44 [.int .i64 sn, .slice A439 (List.length (r388.2.1 ++ ([(⟨p, r367.1, r388.1⟩ : Nd)] : List Nd))) c440, .map (some g6)], .row true cNode 64 A439 c440 (r388.2.1 ++ ([(⟨p, r367.1, r388.1⟩ : Nd)] : List Nd)), .mp Try.prog 64 g6 (List.map (fun p_ => (ndV p_.1, (fun u_ : Int => .int .i64 u_) p_.2)) (r388.2.2 ++ [((⟨p, r367.1, r388.1⟩ : Nd), (((List.length r388.2.1) : Nat) : Int))]))]) ?_ ?_
  ·
   have HR445 := H
   refine dr_start (S := fun w_ => Chg (atL [.box g1 44 [.int .i64 sn, .slice A402 (List.length r388.2.1) c403, .map (some g6)], .row true cNode 64 A402 c403 r388.2.1]) w424 w_) (by kernel_rfl) ?_
   intro w442 hc443
   have HS444 : Chg (atL [.box g1 44 [.int .i64 sn, .slice A402 (List.length r388.2.1) c403, .map (some g6)], .row true cNode 64 A402 c403 r388.2.1]) w424 w442 := hc443.mono (fun _ _ h_ => h_.elim)
   replace H := H.ext hc443
   refine dn tbok (by kernel_rfl) [0, 1, 2, 3, 5] [.agg #[.int .i64 p, .int .i64 r367.1, .int .i64 r388.1]] [(92, .pointer (some ⟨g1, 0, none⟩)), (95, .pointer (some ⟨g1, 1, none⟩)), (97, .agg #[.int .i64 p, .int .i64 r367.1, .int .i64 r388.1])] (fun w_ => [cellsAt w_ g359 (0) [.int .i64 p, .int .i64 r367.1, .int .i64 r388.1]]) 6 E (fun _ _ => by kernel_rfl) (by kernel_rfl) (fun w_ hS_ => ((HR445.boxk [9, 10] hS_ 5 rfl rfl).sub 0 _ rfl)) (by kernel_rfl) HS444 ?_
   clear E; intro a E
   refine wpAnyH_all (rs := [4, 6]) (by kernel_rfl) (by simp) ?_
   refine all2 ?_ ?_
   ·
    refine wpOp_of_list rfl ?_
    refine vn tbok 1 [.slice A402 (List.length r388.2.1) c403] [(96, .slice A402 (List.length r388.2.1) c403)] [World.cell? w442 ⟨g1, 1, none⟩ = some (.slice A402 (List.length r388.2.1) c403)] E (by kernel_rfl) (by kernel_rfl) ((H.box 9 rfl).cell (j := 1) rfl) ?_
    clear E; intro a E
    refine wpList_nil ?_
    refine th_n ⟨HS444, ?_⟩
    refine wpAnyH_all (rs := [6]) (by kernel_rfl) (by simp) ?_
    refine all1 ?_
    refine wpOp_of_list rfl ?_
    refine h_buildSlice (ps := [(0, .agg #[.int .i64 p, .int .i64 r367.1, .int .i64 r388.1])]) (cs := [.int .i64 p, .int .i64 r367.1, .int .i64 r388.1]) H E rfl rfl tbok rfl rfl (by kernel_rfl) ?_
    intro w447 g446 a hc448 hg450 H_ E_
    replace E := E_ _ rfl; clear E_
    have hin451 : ∀ q_, q_ < w424.heap.size → q_ = g446 → (atL [.box g1 44 [.int .i64 sn, .slice A402 (List.length r388.2.1) c403, .map (some g6)], .row true cNode 64 A402 c403 r388.2.1]) q_ := fun q_ h1_ h2_ => by have hs_ := HS444.size; have h4_ : q_ = g446 := h2_; exfalso; omega
    replace HS444 := HS444.ext hc448
    replace H := H_; clear H_; try dsimp only [setn, addE, goneL] at H
    refine wpList_nil ?_
    refine th_n ⟨HS444, ?_⟩
    refine wpAnyH_all (rs := [7]) (by kernel_rfl) (by simp) ?_
    refine all1 ?_
    refine wpOp_of_list rfl ?_
    refine h_append cNode (xs := r388.2.1) (ys := ([(⟨p, r367.1, r388.1⟩ : Nd)] : List Nd)) ((default : Nd) : Nd) H 10 rfl E rfl rfl tbok rfl rfl rfl rfl rfl (fun _ _ => rfl) rfl rfl (fun _ HF_ => HF_.srcB 12 rfl (⟨_, _, rfl, rfl, rfl⟩)) g431 ?_
    intro w452 A453 c454 a hc455 hA456 H_ E_
    replace E := E_ _ rfl; clear E_
    have hin457 : ∀ q_, q_ < w424.heap.size → At A453 q_ → (atL [.box g1 44 [.int .i64 sn, .slice A402 (List.length r388.2.1) c403, .map (some g6)], .row true cNode 64 A402 c403 r388.2.1]) q_ := fun q_ h1_ h2_ => (hA456 q_ h2_).elim ((fun _ _ h_ => Or.inr (Or.inl h_)) q_ h1_) (fun h3_ => by have hs_ := HS444.size; exfalso; omega)
    replace HS444 := HS444.trans hc455 (fun k_ hk_ h_ => (fun _ _ h_ => Or.inr (Or.inl h_)) k_ hk_ h_)
    replace H := H_; clear H_; try dsimp only [setn, addE, goneL] at H
    refine wpList_nil ?_
    refine th_n ⟨HS444, ?_⟩
    refine dn tbok (by kernel_rfl) [8, 9] [] [(101, .pointer (some ⟨g1, 1, none⟩))] (fun w_ => []) 1 E (fun _ _ => by kernel_rfl) (by kernel_rfl) (fun w_ hS_ => trivial) (by kernel_rfl) HS444 ?_
    clear E; intro a E
    refine wpAnyH_all (rs := [10]) (by kernel_rfl) (by simp) ?_
    refine all1 ?_
    refine wpOp_of_list rfl ?_
    refine h_store (g := g1) (off := 1) H 9 rfl E rfl rfl rfl rfl tbok rfl rfl rfl rfl rfl ?_
    clear E; intro w458 a hc459 H_ E
    replace HS444 := HS444.trans hc459 (fun k_ hk_ h_ => (fun _ _ h_ => Or.inl h_) k_ hk_ h_)
    replace H := H_; clear H_; try dsimp only [setn, addE, goneL] at H
    refine wpList_nil ?_
    refine th_n ⟨HS444, ?_⟩
    refine dr_done (by kernel_rfl) ?_
    exact .inl ⟨rfl, A453, c454, E.pick _ ⟨rfl, trivial⟩, H.sel [9, 10, 11] rfl⟩
   refine wpOp_of_list rfl ?_
   refine h_buildSlice (ps := [(0, .agg #[.int .i64 p, .int .i64 r367.1, .int .i64 r388.1])]) (cs := [.int .i64 p, .int .i64 r367.1, .int .i64 r388.1]) H E rfl rfl tbok rfl rfl (by kernel_rfl) ?_
   intro w461 g460 a hc462 hg464 H_ E_
   replace E := E_ _ rfl; clear E_
   have hin465 : ∀ q_, q_ < w424.heap.size → q_ = g460 → (atL [.box g1 44 [.int .i64 sn, .slice A402 (List.length r388.2.1) c403, .map (some g6)], .row true cNode 64 A402 c403 r388.2.1]) q_ := fun q_ h1_ h2_ => by have hs_ := HS444.size; have h4_ : q_ = g460 := h2_; exfalso; omega
   replace HS444 := HS444.ext hc462
   replace H := H_; clear H_; try dsimp only [setn, addE, goneL] at H
   refine wpList_nil ?_
   refine th_n ⟨HS444, ?_⟩
   refine wpAnyH_all (rs := [4]) (by kernel_rfl) (by simp) ?_
   refine all1 ?_
   refine wpOp_of_list rfl ?_
   refine vn tbok 1 [.slice A402 (List.length r388.2.1) c403] [(96, .slice A402 (List.length r388.2.1) c403)] [World.cell? w461 ⟨g1, 1, none⟩ = some (.slice A402 (List.length r388.2.1) c403)] E (by kernel_rfl) (by kernel_rfl) ((H.box 9 rfl).cell (j := 1) rfl) ?_
   clear E; intro a E
   refine wpList_nil ?_
   refine th_n ⟨HS444, ?_⟩
   refine wpAnyH_all (rs := [7]) (by kernel_rfl) (by simp) ?_
   refine all1 ?_
   refine wpOp_of_list rfl ?_
   refine h_append cNode (xs := r388.2.1) (ys := ([(⟨p, r367.1, r388.1⟩ : Nd)] : List Nd)) ((default : Nd) : Nd) H 10 rfl E rfl rfl tbok rfl rfl rfl rfl rfl (fun _ _ => rfl) rfl rfl (fun _ HF_ => HF_.srcB 12 rfl (⟨_, _, rfl, rfl, rfl⟩)) g431 ?_
   intro w466 A467 c468 a hc469 hA470 H_ E_
   replace E := E_ _ rfl; clear E_
   have hin471 : ∀ q_, q_ < w424.heap.size → At A467 q_ → (atL [.box g1 44 [.int .i64 sn, .slice A402 (List.length r388.2.1) c403, .map (some g6)], .row true cNode 64 A402 c403 r388.2.1]) q_ := fun q_ h1_ h2_ => (hA470 q_ h2_).elim ((fun _ _ h_ => Or.inr (Or.inl h_)) q_ h1_) (fun h3_ => by have hs_ := HS444.size; exfalso; omega)
   replace HS444 := HS444.trans hc469 (fun k_ hk_ h_ => (fun _ _ h_ => Or.inr (Or.inl h_)) k_ hk_ h_)
   replace H := H_; clear H_; try dsimp only [setn, addE, goneL] at H
   refine wpList_nil ?_
   refine th_n ⟨HS444, ?_⟩
   refine dn tbok (by kernel_rfl) [8, 9] [] [(101, .pointer (some ⟨g1, 1, none⟩))] (fun w_ => []) 1 E (fun _ _ => by kernel_rfl) (by kernel_rfl) (fun w_ hS_ => trivial) (by kernel_rfl) HS444 ?_
   clear E; intro a E
   refine wpAnyH_all (rs := [10]) (by kernel_rfl) (by simp) ?_
   refine all1 ?_
   refine wpOp_of_list rfl ?_
   refine h_store (g := g1) (off := 1) H 9 rfl E rfl rfl rfl rfl tbok rfl rfl rfl rfl rfl ?_
   clear E; intro w472 a hc473 H_ E
   replace HS444 := HS444.trans hc473 (fun k_ hk_ h_ => (fun _ _ h_ => Or.inl h_) k_ hk_ h_)
   replace H := H_; clear H_; try dsimp only [setn, addE, goneL] at H
   refine wpList_nil ?_
   refine th_n ⟨HS444, ?_⟩
   refine dr_done (by kernel_rfl) ?_
   exact .inl ⟨rfl, A467, c468, E.pick _ ⟨rfl, trivial⟩, H.sel [9, 10, 11] rfl⟩
  clear E H; rintro a w441 ⟨A439, c440, E, H⟩
  refine th_n ?_
  refine wp_seq ?_
  refine wp_region_lit ?_
  refine vn tbok 2 [] [(6, .int .i64 (((List.length r388.2.1) : Nat) : Int))] [] E (by kernel_rfl) (by kernel_rfl) trivial ?_
  clear E; intro a E
  refine wpList_nil ?_
  refine th_n ?_
  refine wp_ret ?_
  obtain rfl := Option.some.inj hP
  refine ret1 E rfl rfl ?_
  exact ⟨_, rfl, ⟨((((List.length r388.2.1) : Nat) : Int), r388.2.1 ++ ([(⟨p, r367.1, r388.1⟩ : Nd)] : List Nd), r388.2.2 ++ [((⟨p, r367.1, r388.1⟩ : Nd), (((List.length r388.2.1) : Nat) : Int))]), A439, c440, rfl, rfl, H.sel [0, 1, 2] rfl⟩⟩
 replace E := E_; clear E_
 have h474 : (Option.isSome (mget r388.2.2 (⟨p, r367.1, r388.1⟩ : Nd))) = true := (not_f hb_)
 clear hb_; replace hP := ite_t h474 hP
 refine c_false E rfl ?_
 refine wp_skip ?_
 refine th_n ?_
 refine wp_seq ?_
 refine wp_region_lit ?_
 refine vn tbok 2 [] [(6, .int .i64 (Option.getD (mget r388.2.2 (⟨p, r367.1, r388.1⟩ : Nd)) 0))] [] E (by kernel_rfl) (by kernel_rfl) trivial ?_
 clear E; intro a E
 refine wpList_nil ?_
 refine th_n ?_
 refine wp_ret ?_
 obtain rfl := Option.some.inj hP
 refine ret1 E rfl rfl ?_
 exact ⟨_, rfl, ⟨((Option.getD (mget r388.2.2 (⟨p, r367.1, r388.1⟩ : Nd)) 0), r388.2.1, r388.2.2), A402, c403, rfl, rfl, H.sel [9, 10, 11] rfl⟩⟩

end Go.V
