/- Plain functions, and the calls that give them. -/
import Derived.Test.YtljkomkejdngcaaA0
set_option linter.all false
set_option linter.unusedVariables false
set_option linter.unnecessarySimpa false
set_option linter.unusedSimpArgs false
namespace Go.V
open Go Go.Proofs
/-! rejoinder/rejoinderlaw16.Small -/
def law16_Small (N : Nat) (aProps : Int) (aAccept : List Bool) (aGuard : List Int) (aNodes : List Nd) : Option Bool :=
  if (((List.length aAccept) : Nat) : Int) ≤ 24 then
    if aProps ≤ 4 then
      if (((List.length aNodes) : Nat) : Int) ≤ 400 then
        some (decide ((((List.length aGuard) : Nat) : Int) ≤ 300))
      else
        some false
    else
      some false
  else
    some false
set_option maxRecDepth 100000 in
set_option maxHeartbeats 4000000 in
theorem law16_Small_calls {N : Nat} {S Fa : Nat → Prop} {w0 : World} {r : Bool} (A1 : Option Addr) (c2 : Nat) (A5 : Option Addr) (c6 : Nat) (A9 : Option Addr) (c10 : Nat) (aProps : Int) (aAccept : List Bool) (aGuard : List Int) (aNodes : List Nd) (hk3 : List.length aAccept ≤ c2) (hk7 : List.length aGuard ≤ c6) (hk11 : List.length aNodes ≤ c10) (H : Hp S Fa w0 w0 [.ro false cBool A1 aAccept, .ro false (cInt .i64) A5 aGuard, .ro false cNode A9 aNodes]) (hP : law16_Small N aProps aAccept aGuard aNodes = some r) :
    Calls Try.prog 16 #[.agg #[.int .i64 aProps, .slice A1 (List.length aAccept) c2, .slice A5 (List.length aGuard) c6, .slice A9 (List.length aNodes) c10]] w0 fun e w' => ∃ v, e = .returned v ∧ v = .bool r ∧ Hp S Fa w0 w' [] := by
 refine enterV (n := 24) Try.func16 rfl rfl rfl ?_
 intro a E
 replace E := E.pick [(0, .agg #[.int .i64 aProps, .slice A1 (List.length aAccept) c2, .slice A5 (List.length aGuard) c6, .slice A9 (List.length aNodes) c10])] ⟨rfl, trivial⟩
 rw [law16_Small] at hP
 refine wp_seq ?_
 refine wp_region_lit ?_
 refine h_box H E rfl rfl rfl ?_
 intro w14 g13 a hc15 hg17 H_ E_
 replace E := E_ _ rfl; clear E_
 replace H := H_; clear H_; try dsimp only [setn, addE, goneL] at H
 refine vn tbok 1 [] [] [] E (by kernel_rfl) (by kernel_rfl) trivial ?_
 clear E; intro a E
 refine wpList_nil ?_
 refine th_n ?_
 refine wp_seq ?_
 refine wp_region_lit ?_
 refine vn tbok 5 [.slice A1 (List.length aAccept) c2] [(7, .bool (decide ((((List.length aAccept) : Nat) : Int) ≤ 24)))] [World.cell? w14 ⟨g13, 1, none⟩ = some (.slice A1 (List.length aAccept) c2)] E (by kernel_rfl) (by kernel_rfl) ((H.box 3 rfl).cell (j := 1) rfl) ?_
 clear E; intro a E
 refine E.cases (t := 7) rfl (fun hb_ E_ => ?_) (fun hb_ E_ => ?_)
 ·
  replace E := E_; clear E_
  have h18 : (((List.length aAccept) : Nat) : Int) ≤ 24 := of_decide_eq_true hb_
  clear hb_; replace hP := ite_t h18 hP
  refine vn tbok 5 [.int .i64 aProps] [(12, .bool (decide (aProps ≤ 4)))] [World.cell? w14 ⟨g13, 0, none⟩ = some (.int .i64 aProps)] E (by kernel_rfl) (by kernel_rfl) ((H.box 3 rfl).cell (j := 0) rfl) ?_
  clear E; intro a E
  refine E.cases (t := 12) rfl (fun hb_ E_ => ?_) (fun hb_ E_ => ?_)
  ·
   replace E := E_; clear E_
   have h19 : aProps ≤ 4 := of_decide_eq_true hb_
   clear hb_; replace hP := ite_t h19 hP
   refine vn tbok 6 [.slice A9 (List.length aNodes) c10] [(18, .bool (decide ((((List.length aNodes) : Nat) : Int) ≤ 400)))] [World.cell? w14 ⟨g13, 3, none⟩ = some (.slice A9 (List.length aNodes) c10)] E (by kernel_rfl) (by kernel_rfl) ((H.box 3 rfl).cell (j := 3) rfl) ?_
   clear E; intro a E
   refine E.cases (t := 18) rfl (fun hb_ E_ => ?_) (fun hb_ E_ => ?_)
   ·
    replace E := E_; clear E_
    have h20 : (((List.length aNodes) : Nat) : Int) ≤ 400 := of_decide_eq_true hb_
    clear hb_; replace hP := ite_t h20 hP
    refine vn tbok 6 [.slice A5 (List.length aGuard) c6] [(2, .bool (decide ((((List.length aGuard) : Nat) : Int) ≤ 300)))] [World.cell? w14 ⟨g13, 2, none⟩ = some (.slice A5 (List.length aGuard) c6)] E (by kernel_rfl) (by kernel_rfl) ((H.box 3 rfl).cell (j := 2) rfl) ?_
    clear E; intro a E
    refine wpList_nil ?_
    refine th_n ?_
    refine wp_ret ?_
    obtain rfl := Option.some.inj hP
    refine ret1 E rfl rfl ?_
    exact ⟨_, rfl, rfl, H.sel [] rfl⟩
   replace E := E_; clear E_
   have h21 : ¬ ((((List.length aNodes) : Nat) : Int) ≤ 400) := of_decide_eq_false hb_
   clear hb_; replace hP := ite_f h21 hP
   refine vn tbok 6 [] [(2, .bool false)] [] E (by kernel_rfl) (by kernel_rfl) trivial ?_
   clear E; intro a E
   refine wpList_nil ?_
   refine th_n ?_
   refine wp_ret ?_
   obtain rfl := Option.some.inj hP
   refine ret1 E rfl rfl ?_
   exact ⟨_, rfl, rfl, H.sel [] rfl⟩
  replace E := E_; clear E_
  have h22 : ¬ (aProps ≤ 4) := of_decide_eq_false hb_
  clear hb_; replace hP := ite_f h22 hP
  refine vn tbok 12 [] [(2, .bool false)] [] E (by kernel_rfl) (by kernel_rfl) trivial ?_
  clear E; intro a E
  refine wpList_nil ?_
  refine th_n ?_
  refine wp_ret ?_
  obtain rfl := Option.some.inj hP
  refine ret1 E rfl rfl ?_
  exact ⟨_, rfl, rfl, H.sel [] rfl⟩
 replace E := E_; clear E_
 have h23 : ¬ ((((List.length aAccept) : Nat) : Int) ≤ 24) := of_decide_eq_false hb_
 clear hb_; replace hP := ite_f h23 hP
 refine vn tbok 17 [] [(2, .bool false)] [] E (by kernel_rfl) (by kernel_rfl) trivial ?_
 clear E; intro a E
 refine wpList_nil ?_
 refine th_n ?_
 refine wp_ret ?_
 obtain rfl := Option.some.inj hP
 refine ret1 E rfl rfl ?_
 exact ⟨_, rfl, rfl, H.sel [] rfl⟩

/-! rejoinder/rejoinderkit.LentInts -/
def kit_LentInts_l0 (N : Nat) : Nat → (List Int) → Int → Option (List Int)
  | 0, _, _ => none
  | m35 + 1, full24, i25 =>
    if i25 < (((List.length full24) : Nat) : Int) then
      ask (in64 (7700 + i25)) <|
      ask (idx i25 (List.length full24)) <|
      ask (in64 (i25 + 1)) <|
      kit_LentInts_l0 N m35 (List.set full24 (Int.toNat i25) (7700 + i25)) (i25 + 1)
    else
      some full24
def kit_LentInts (N : Nat) (ll : List Int) : Option (List Int × List Int) :=
  ask (in64 ((((List.length ll) : Nat) : Int) + 3)) <|
  ask (0 ≤ ((((List.length ll) : Nat) : Int) + 3) ∧ ((((List.length ll) : Nat) : Int) + 3) ≤ 1000000000) <|
  ask (List.length ll ≤ List.length (List.replicate (Int.toNat ((((List.length ll) : Nat) : Int) + 3)) (0 : Int))) <|
  Option.bind (kit_LentInts_l0 N N (ll ++ List.drop (List.length ll) (List.replicate (Int.toNat ((((List.length ll) : Nat) : Int) + 3)) (0 : Int))) (((List.length ll) : Nat) : Int)) fun x36 =>
  ask (0 ≤ (((List.length ll) : Nat) : Int) ∧ (((List.length ll) : Nat) : Int) ≤ (((List.length x36) : Nat) : Int)) <|
  some (List.take (Int.toNat (((List.length ll) : Nat) : Int)) x36, List.drop (Int.toNat (((List.length ll) : Nat) : Int)) x36 ++ (List.replicate (Int.toNat ((((List.length ll) : Nat) : Int) + 3) - Int.toNat ((((List.length ll) : Nat) : Int) + 3)) (0 : Int)))
set_option maxRecDepth 100000 in
set_option maxHeartbeats 4000000 in
theorem kit_LentInts_calls {N : Nat} {S Fa : Nat → Prop} {w0 : World} {r : List Int × List Int} (A1 : Option Addr) (c2 : Nat) (ll : List Int) (hk3 : List.length ll ≤ c2) (H : Hp S Fa w0 w0 [.ro false (cInt .i64) A1 ll]) (hP : kit_LentInts N ll = some r) :
    Calls Try.prog 35 #[.slice A1 (List.length ll) c2] w0 fun e w' => ∃ v, e = .returned v ∧ ∃ (A51 : Option Addr) (c52 : Nat), v = .slice A51 (List.length r.1) c52 ∧ Hp S Fa w0 w' [.rowx true (cInt .i64) 3 A51 c52 r.1 r.2] := by
 refine enterV (n := 29) Try.func35 rfl rfl rfl ?_
 intro a E
 replace E := E.pick [(0, .slice A1 (List.length ll) c2)] ⟨rfl, trivial⟩
 rw [kit_LentInts] at hP
 refine wp_seq ?_
 refine wp_region_lit ?_
 refine vn tbok 1 [] [] [] E (by kernel_rfl) (by kernel_rfl) trivial ?_
 clear E; intro a E
 refine wpList_nil ?_
 refine th_n ?_
 refine wp_seq ?_
 refine wp_region_lit ?_
 obtain ⟨g5, hP⟩ := ask_inv hP
 refine vn tbok 3 [.int .i64 ((((List.length ll) : Nat) : Int) + 3)] [(7, .int .i64 ((((List.length ll) : Nat) : Int) + 3))] [IntKind.i64.wrap ((((List.length ll) : Nat) : Int) + 3) = (((List.length ll) : Nat) : Int) + 3] E (by kernel_rfl) (by kernel_rfl) (wrap_in g5) ?_
 clear E; intro a E
 obtain ⟨g6, hP⟩ := ask_inv hP
 refine h_make (cInt .i64) (0 : Int) H E rfl rfl tbok rfl rfl rfl rfl ⟨g6.1, Int.le_refl _, g6.2⟩ rfl rfl rfl (fun _ _ => rfl) ?_
 intro w8 g7 a hc9 hg11 H_ E_
 replace E := E_ _ rfl; clear E_
 replace H := H_; clear H_; try dsimp only [setn, addE, goneL] at H
 refine vn tbok 1 [] [(3, .slice (some ⟨g7, 0, none⟩) (List.length (List.replicate (Int.toNat ((((List.length ll) : Nat) : Int) + 3)) (0 : Int))) (Int.toNat ((((List.length ll) : Nat) : Int) + 3)))] [] E (by kernel_rfl) (by kernel_rfl) trivial ?_
 clear E; intro a E
 refine wpList_nil ?_
 refine th_n ?_
 refine wp_seq ?_
 refine wp_region_lit ?_
 refine vn tbok 2 [] [(9, .slice (some ⟨g7, 0, none⟩) (List.length (List.replicate (Int.toNat ((((List.length ll) : Nat) : Int) + 3)) (0 : Int))) (Int.toNat ((((List.length ll) : Nat) : Int) + 3))), (10, .slice A1 (List.length ll) c2)] [] E (by kernel_rfl) (by kernel_rfl) trivial ?_
 clear E; intro a E
 obtain ⟨g14, hP⟩ := ask_inv hP
 refine h_copyx (d := (cInt .i64)) (g := g7) (xs := (List.replicate (Int.toNat ((((List.length ll) : Nat) : Int) + 3)) (0 : Int))) (ys := ll) H 1 rfl E rfl rfl tbok rfl rfl rfl rfl rfl flat_plain 0 rds_ro g14 ?_
 intro w12 a hc13 H_ E_
 replace E := E_ _ rfl; clear E_
 replace H := H_; clear H_; try dsimp only [setn, addE, goneL] at H
 have hn15 : (List.length (List.replicate (Int.toNat ((((List.length ll) : Nat) : Int) + 3)) (0 : Int))) = (List.length (ll ++ List.drop (List.length ll) (List.replicate (Int.toNat ((((List.length ll) : Nat) : Int) + 3)) (0 : Int)))) := by have h_ := g14; simp only [List.length_append, List.length_drop] at *; omega
 replace E := E.same (t := 3) (u := .slice (some ⟨g7, 0, none⟩) (List.length (ll ++ List.drop (List.length ll) (List.replicate (Int.toNat ((((List.length ll) : Nat) : Int) + 3)) (0 : Int)))) (Int.toNat ((((List.length ll) : Nat) : Int) + 3))) rfl (congrArg (fun n_ => Value.slice (some ⟨g7, 0, none⟩) n_ (Int.toNat ((((List.length ll) : Nat) : Int) + 3))) hn15)
 replace E := E.same (t := 9) (u := .slice (some ⟨g7, 0, none⟩) (List.length (ll ++ List.drop (List.length ll) (List.replicate (Int.toNat ((((List.length ll) : Nat) : Int) + 3)) (0 : Int)))) (Int.toNat ((((List.length ll) : Nat) : Int) + 3))) rfl (congrArg (fun n_ => Value.slice (some ⟨g7, 0, none⟩) n_ (Int.toNat ((((List.length ll) : Nat) : Int) + 3))) hn15)
 refine wpList_nil ?_
 refine th_n ?_
 refine wp_seq ?_
 refine wp_seq ?_
 refine wp_region_lit ?_
 refine vn tbok 3 [] [(4, .int .i64 (((List.length ll) : Nat) : Int))] [] E (by kernel_rfl) (by kernel_rfl) trivial ?_
 clear E; intro a E
 refine wpList_nil ?_
 refine th_n ?_
 refine wp_block ?_
 obtain ⟨x36, hL37, hK38⟩ := bind_inv hP
 clear hP
 refine loop_cut (fun i_ a w_ => (i_ = 0 ∧ ∃ (x41 : List Int), Fr a 29 [(0, .slice A1 (List.length ll) c2), (3, .slice (some ⟨g7, 0, none⟩) (List.length x41) (Int.toNat ((((List.length ll) : Nat) : Int) + 3)))] ∧ Hp S Fa w0 w_ [.ro false (cInt .i64) A1 ll, .rowx true (cInt .i64) 3 (some ⟨g7, 0, none⟩) (Int.toNat ((((List.length ll) : Nat) : Int) + 3)) x41 (List.replicate (Int.toNat ((((List.length ll) : Nat) : Int) + 3) - Int.toNat ((((List.length ll) : Nat) : Int) + 3)) (0 : Int))] ∧ x36 = x41)) ?_ ?_
 ·
  refine loopV (fun m40 a w39 => ∃ (full24 : List Int) (i25 : Int), Fr a 29 [(0, .slice A1 (List.length ll) c2), (3, .slice (some ⟨g7, 0, none⟩) (List.length full24) (Int.toNat ((((List.length ll) : Nat) : Int) + 3))), (4, .int .i64 i25)] ∧ Hp S Fa w0 w39 [.ro false (cInt .i64) A1 ll, .rowx true (cInt .i64) 3 (some ⟨g7, 0, none⟩) (Int.toNat ((((List.length ll) : Nat) : Int) + 3)) full24 (List.replicate (Int.toNat ((((List.length ll) : Nat) : Int) + 3) - Int.toNat ((((List.length ll) : Nat) : Int) + 3)) (0 : Int))] ∧ kit_LentInts_l0 N m40 full24 i25 = some x36) N ?_ ?_
  ·
   exact ⟨ll ++ List.drop (List.length ll) (List.replicate (Int.toNat ((((List.length ll) : Nat) : Int) + 3)) (0 : Int)), (((List.length ll) : Nat) : Int), E.pick _ ⟨rfl, rfl, rfl, trivial⟩, H.sel [0, 1] rfl, hL37⟩
  clear E H hL37; intro m40 a w39 hI_
  obtain ⟨full24, i25, E, H, hP⟩ := hI_
  obtain ⟨m35, rfl⟩ : ∃ q_, m40 = q_ + 1 := by cases m40 with | zero => rw [kit_LentInts_l0] at hP; cases hP | succ q_ => exact ⟨q_, rfl⟩
  rw [kit_LentInts_l0] at hP
  refine wp_seq ?_
  refine wp_seq ?_
  refine wp_region_lit ?_
  refine vn tbok 4 [] [(17, .bool (decide (i25 < (((List.length full24) : Nat) : Int))))] [] E (by kernel_rfl) (by kernel_rfl) trivial ?_
  clear E; intro a E
  refine wpList_nil ?_
  refine th_n ?_
  refine E.cases (t := 17) rfl (fun hb_ E_ => ?_) (fun hb_ E_ => ?_)
  ·
   replace E := E_; clear E_
   have h42 : i25 < (((List.length full24) : Nat) : Int) := of_decide_eq_true hb_
   clear hb_; replace hP := ite_t h42 hP
   refine c_true E rfl ?_
   refine wp_skip ?_
   refine th_n ?_
   refine wp_seq ?_
   refine wp_block ?_
   refine wp_region_lit ?_
   obtain ⟨g43, hP⟩ := ask_inv hP
   obtain ⟨g44, hP⟩ := ask_inv hP
   refine vn tbok 5 [.int .i64 (7700 + i25)] [(23, .int .i64 (7700 + i25)), (24, .pointer (some ⟨g7, 0 + (Int.toNat i25) * 1, none⟩))] [IntKind.i64.wrap (7700 + i25) = 7700 + i25, 0 ≤ i25 ∧ i25 < (((List.length full24) : Nat) : Int)] E (by kernel_rfl) (by kernel_rfl) ⟨wrap_in g43, g44⟩ ?_
   clear E; intro a E
   refine h_setx (g := g7) (i := i25) (7700 + i25) H 1 rfl E rfl rfl rfl rfl tbok rfl (fun _ HF_ => rfl) rfl g44 rfl ?_
   clear E; intro w45 a hc46 H_ E
   replace H := H_; clear H_; try dsimp only [setn, addE, goneL] at H
   have hn47 : (List.length full24) = (List.length (List.set full24 (Int.toNat i25) (7700 + i25))) := by simp only [List.length_set]
   replace E := E.same (t := 3) (u := .slice (some ⟨g7, 0, none⟩) (List.length (List.set full24 (Int.toNat i25) (7700 + i25))) (Int.toNat ((((List.length ll) : Nat) : Int) + 3))) rfl (congrArg (fun n_ => Value.slice (some ⟨g7, 0, none⟩) n_ (Int.toNat ((((List.length ll) : Nat) : Int) + 3))) hn47)
   refine wpList_nil ?_
   refine bl_n ?_
   refine th_n ?_
   refine wp_region_lit ?_
   obtain ⟨g48, hP⟩ := ask_inv hP
   refine vn tbok 3 [.int .i64 (i25 + 1)] [(4, .int .i64 (i25 + 1))] [IntKind.i64.wrap (i25 + 1) = i25 + 1] E (by kernel_rfl) (by kernel_rfl) (wrap_in g48) ?_
   clear E; intro a E
   refine wpList_nil ?_
   exact th_n ⟨m35, Nat.lt_succ_self _, List.set full24 (Int.toNat i25) (7700 + i25), i25 + 1, E.pick _ ⟨rfl, rfl, rfl, trivial⟩, H.sel [0, 1] rfl, hP⟩
  replace E := E_; clear E_
  have h49 : ¬ (i25 < (((List.length full24) : Nat) : Int)) := of_decide_eq_false hb_
  clear hb_; replace hP := ite_f h49 hP
  refine c_false E rfl ?_
  refine wp_exit ?_
  refine th_exit ?_
  have hx_ := Option.some.inj hP
  refine th_exit (.inl ⟨0, rfl, ?_⟩)
  exact ⟨rfl, full24, E.pick _ ⟨rfl, rfl, trivial⟩, H.sel [0, 1] rfl, hx_.symm⟩
 clear E H hL37; intro i_ a w39 hM_
 obtain ⟨rfl, x41, E, H, hx_⟩ := hM_
 subst hx_; have hP := hK38; clear hK38
 refine bl_hit ?_
 refine th_n ?_
 refine wp_seq ?_
 refine wp_region_lit ?_
 refine vn tbok 3 [] [(25, .slice (some ⟨g7, 0, none⟩) (List.length x36) (Int.toNat ((((List.length ll) : Nat) : Int) + 3))), (27, .int .i64 (((List.length ll) : Nat) : Int))] [] E (by kernel_rfl) (by kernel_rfl) trivial ?_
 clear E; intro a E
 obtain ⟨g50, hP⟩ := ask_inv hP
 refine vn tbok 1 [] [(28, .slice (some ⟨g7, 0, none⟩) (Int.toNat (((List.length ll) : Nat) : Int)) (Int.toNat ((((List.length ll) : Nat) : Int) + 3)))] [0 ≤ (((List.length ll) : Nat) : Int) ∧ (((List.length ll) : Nat) : Int) ≤ (((Int.toNat ((((List.length ll) : Nat) : Int) + 3)) : Nat) : Int)] E (by kernel_rfl) (by kernel_rfl) (cut_le g50 (H.rcapx 1 rfl)) ?_
 clear E; intro a E
 replace H := H.cutRowx 1 rfl (Int.toNat (((List.length ll) : Nat) : Int)); try dsimp only [setn, addE, goneL] at H
 replace E := E.same (t := 28) (u := .slice (some ⟨g7, 0, none⟩) (List.length (List.take (Int.toNat (((List.length ll) : Nat) : Int)) x36)) (Int.toNat ((((List.length ll) : Nat) : Int) + 3))) rfl (congrArg (fun n_ => Value.slice (some ⟨g7, 0, none⟩) n_ (Int.toNat ((((List.length ll) : Nat) : Int) + 3))) (take_len g50))
 refine vn tbok 1 [] [(2, .slice (some ⟨g7, 0, none⟩) (List.length (List.take (Int.toNat (((List.length ll) : Nat) : Int)) x36)) (Int.toNat ((((List.length ll) : Nat) : Int) + 3)))] [] E (by kernel_rfl) (by kernel_rfl) trivial ?_
 clear E; intro a E
 refine wpList_nil ?_
 refine th_n ?_
 refine wp_ret ?_
 obtain rfl := Option.some.inj hP
 refine ret1 E rfl rfl ?_
 exact ⟨_, rfl, (some ⟨g7, 0, none⟩), (Int.toNat ((((List.length ll) : Nat) : Int) + 3)), rfl, H.sel [1] rfl⟩

/-! rejoinder/rejoinderkit.LentAuto -/
def kit_LentAuto (N : Nat) (aProps : Int) (aAccept : List Bool) (aGuard : List Int) (aNodes : List Nd) : Option (Int × (List Bool × List Bool) × (List Int × List Int) × (List Nd × List Nd)) :=
  Option.bind (kit_LentInts N aGuard) fun r23 =>
  ask (in64 ((((List.length aAccept) : Nat) : Int) + 3)) <|
  ask (0 ≤ (((List.length aAccept) : Nat) : Int) ∧ (((List.length aAccept) : Nat) : Int) ≤ ((((List.length aAccept) : Nat) : Int) + 3) ∧ ((((List.length aAccept) : Nat) : Int) + 3) ≤ 1000000000) <|
  ask (List.length aAccept ≤ List.length (List.replicate (Int.toNat (((List.length aAccept) : Nat) : Int)) (false : Bool))) <|
  ask (in64 ((((List.length aNodes) : Nat) : Int) + 3)) <|
  ask (0 ≤ (((List.length aNodes) : Nat) : Int) ∧ (((List.length aNodes) : Nat) : Int) ≤ ((((List.length aNodes) : Nat) : Int) + 3) ∧ ((((List.length aNodes) : Nat) : Int) + 3) ≤ 1000000000) <|
  ask (List.length aNodes ≤ List.length (List.replicate (Int.toNat (((List.length aNodes) : Nat) : Int)) ((default : Nd) : Nd))) <|
  some (aProps, (aAccept ++ List.drop (List.length aAccept) (List.replicate (Int.toNat (((List.length aAccept) : Nat) : Int)) (false : Bool)), List.replicate (Int.toNat ((((List.length aAccept) : Nat) : Int) + 3) - Int.toNat (((List.length aAccept) : Nat) : Int)) (false : Bool)), (r23.1, r23.2), (aNodes ++ List.drop (List.length aNodes) (List.replicate (Int.toNat (((List.length aNodes) : Nat) : Int)) ((default : Nd) : Nd)), List.replicate (Int.toNat ((((List.length aNodes) : Nat) : Int) + 3) - Int.toNat (((List.length aNodes) : Nat) : Int)) ((default : Nd) : Nd)))
set_option maxRecDepth 100000 in
set_option maxHeartbeats 4000000 in
theorem kit_LentAuto_calls {N : Nat} {S Fa : Nat → Prop} {w0 : World} {r : Int × (List Bool × List Bool) × (List Int × List Int) × (List Nd × List Nd)} (A1 : Option Addr) (c2 : Nat) (A5 : Option Addr) (c6 : Nat) (A9 : Option Addr) (c10 : Nat) (aProps : Int) (aAccept : List Bool) (aGuard : List Int) (aNodes : List Nd) (hk3 : List.length aAccept ≤ c2) (hk7 : List.length aGuard ≤ c6) (hk11 : List.length aNodes ≤ c10) (H : Hp S Fa w0 w0 [.ro false cBool A1 aAccept, .ro false (cInt .i64) A5 aGuard, .ro false cNode A9 aNodes]) (hP : kit_LentAuto N aProps aAccept aGuard aNodes = some r) :
    Calls Try.prog 17 #[.agg #[.int .i64 aProps, .slice A1 (List.length aAccept) c2, .slice A5 (List.length aGuard) c6, .slice A9 (List.length aNodes) c10]] w0 fun e w' => ∃ v, e = .returned v ∧ ∃ (A124 : Option Addr) (c125 : Nat) (A126 : Option Addr) (c127 : Nat) (A128 : Option Addr) (c129 : Nat), v = .agg #[.int .i64 r.1, .slice A124 (List.length r.2.1.1) c125, .slice A126 (List.length r.2.2.1.1) c127, .slice A128 (List.length r.2.2.2.1) c129] ∧ Hp S Fa w0 w' [.rowx true cBool 4 A124 c125 r.2.1.1 r.2.1.2, .rowx true (cInt .i64) 3 A126 c127 r.2.2.1.1 r.2.2.1.2, .rowx true cNode 75 A128 c129 r.2.2.2.1 r.2.2.2.2] := by
 refine enterV (n := 39) Try.func17 rfl rfl rfl ?_
 intro a E
 replace E := E.pick [(0, .agg #[.int .i64 aProps, .slice A1 (List.length aAccept) c2, .slice A5 (List.length aGuard) c6, .slice A9 (List.length aNodes) c10])] ⟨rfl, trivial⟩
 rw [kit_LentAuto] at hP
 refine wp_seq ?_
 refine wp_region_lit ?_
 refine h_box H E rfl rfl rfl ?_
 intro w14 g13 a hc15 hg17 H_ E_
 replace E := E_ _ rfl; clear E_
 replace H := H_; clear H_; try dsimp only [setn, addE, goneL] at H
 refine h_alloc H E rfl rfl tbok rfl ?_
 intro w19 g18 a hc20 hg22 H_ E_
 replace E := E_ _ rfl; clear E_
 replace H := H_; clear H_; try dsimp only [setn, addE, goneL] at H
 refine wpList_nil ?_
 refine th_n ?_
 refine wp_seq ?_
 obtain ⟨r23, h24, hP⟩ := bind_inv hP
 refine meet_cut (fun a w47 => ∃ (g43 : Nat) (A45 : Option Addr) (c46 : Nat), Fr a 39 [(1, .pointer (some ⟨g13, 0, none⟩)), (2, .pointer (some ⟨g18, 0, none⟩)), (3, .pointer (some ⟨g43, 0, none⟩))] ∧ Hp S Fa w0 w47 [.ro false cBool A1 aAccept, .ro false (cInt .i64) A5 aGuard, .ro false cNode A9 aNodes, .box g13 43 [.int .i64 aProps, .slice A1 (List.length aAccept) c2, .slice A5 (List.length aGuard) c6, .slice A9 (List.length aNodes) c10], .box g18 43 [.int .i64 0, .slice none 0 0, .slice none 0 0, .slice none 0 0], .box g43 43 [.int .i64 aProps, .slice none 0 0, .slice A45 (List.length r23.1) c46, .slice none 0 0], .rowx true (cInt .i64) 3 A45 c46 r23.1 r23.2]) ?_ ?_
 ·
  have HR51 := H
  refine dr_start (S := fun w_ => Chg (atL []) w19 w_) (by kernel_rfl) ?_
  intro w48 hc49
  have HS50 : Chg (atL []) w19 w48 := hc49.mono (fun _ _ h_ => h_.elim)
  replace H := H.ext hc49
  refine dn tbok (by kernel_rfl) [0, 1, 2, 3] [.int .i64 aProps, .slice A5 (List.length aGuard) c6] [(5, .int .i64 aProps), (7, .slice A5 (List.length aGuard) c6)] (fun w_ => [World.cell? w_ ⟨g13, 0, none⟩ = some (.int .i64 aProps), World.cell? w_ ⟨g13, 2, none⟩ = some (.slice A5 (List.length aGuard) c6)]) 4 E (fun _ _ => by kernel_rfl) (by kernel_rfl) (fun w_ hS_ => ⟨(HR51.boxk [] hS_ 3 rfl rfl).cell (j := 0) rfl, (HR51.boxk [] hS_ 3 rfl rfl).cell (j := 2) rfl⟩) (by kernel_rfl) HS50 ?_
  clear E; intro a E
  refine wpAnyH_all (rs := [4, 6]) (by kernel_rfl) (by simp) ?_
  refine all2 ?_ ?_
  ·
   refine wpOp_of_list rfl ?_
   obtain ⟨Fa52, Hc53, hb54⟩ := H.call [] [(1, false)] rfl rfl trivial
   refine e_call E rfl rfl Try.func35 rfl rfl rfl (kit_LentInts_calls A5 c6 aGuard hk7 Hc53 h24) ?_
   rintro v55 w56 a ⟨A59, c60, rfl, HR57⟩ E_
   replace E := E_ _ rfl; clear E_
   obtain ⟨H_, hc58⟩ := hb54 _ _ HR57 rfl
   replace HS50 := HS50.ext (callS_ext hc58)
   replace H := H_; clear H_; try dsimp only [setn, addE, goneL] at H
   refine wpList_nil ?_
   refine th_n ⟨HS50, ?_⟩
   refine wpAnyH_all (rs := [5, 6]) (by kernel_rfl) (by simp) ?_
   refine all2 ?_ ?_
   ·
    refine wpOp_of_list rfl ?_
    refine e_build (ps := [(0, .int .i64 aProps), (2, .slice A59 (List.length r23.1) c60)]) (v := .agg #[.int .i64 aProps, .slice none 0 0, .slice A59 (List.length r23.1) c60, .slice none 0 0]) E rfl rfl tbok rfl (by kernel_rfl) rfl ?_
    clear E; intro a E
    refine wpList_nil ?_
    refine th_n ⟨HS50, ?_⟩
    refine wpAnyH_all (rs := [6]) (by kernel_rfl) (by simp) ?_
    refine all1 ?_
    refine wpOp_of_list rfl ?_
    refine h_alloc H E rfl rfl tbok rfl ?_
    intro w63 g62 a hc64 hg66 H_ E_
    replace E := E_ _ rfl; clear E_
    have hin67 : ∀ q_, q_ < w19.heap.size → q_ = g62 → (atL []) q_ := fun q_ h1_ h2_ => by have hs_ := HS50.size; have h4_ : q_ = g62 := h2_; exfalso; omega
    replace HS50 := HS50.ext hc64
    replace H := H_; clear H_; try dsimp only [setn, addE, goneL] at H
    refine wpList_nil ?_
    refine th_n ⟨HS50, ?_⟩
    refine wpAnyH_all (rs := [7]) (by kernel_rfl) (by simp) ?_
    refine all1 ?_
    refine wpOp_of_list rfl ?_
    refine h_store (g := g62) (off := 0) H 6 rfl E rfl rfl rfl rfl tbok rfl rfl rfl rfl rfl ?_
    clear E; intro w68 a hc69 H_ E
    replace HS50 := HS50.trans hc69 (fun k_ hk_ h_ => hin67 k_ hk_ h_)
    replace H := H_; clear H_; try dsimp only [setn, addE, goneL] at H
    refine wpList_nil ?_
    refine th_n ⟨HS50, ?_⟩
    refine dr_done (by kernel_rfl) ?_
    exact .inl ⟨rfl, g62, A59, c60, E.pick _ ⟨rfl, rfl, rfl, trivial⟩, H.sel [0, 1, 2, 3, 4, 6, 5] rfl⟩
   refine wpOp_of_list rfl ?_
   refine h_alloc H E rfl rfl tbok rfl ?_
   intro w71 g70 a hc72 hg74 H_ E_
   replace E := E_ _ rfl; clear E_
   have hin75 : ∀ q_, q_ < w19.heap.size → q_ = g70 → (atL []) q_ := fun q_ h1_ h2_ => by have hs_ := HS50.size; have h4_ : q_ = g70 := h2_; exfalso; omega
   replace HS50 := HS50.ext hc72
   replace H := H_; clear H_; try dsimp only [setn, addE, goneL] at H
   refine wpList_nil ?_
   refine th_n ⟨HS50, ?_⟩
   refine wpAnyH_all (rs := [5]) (by kernel_rfl) (by simp) ?_
   refine all1 ?_
   refine wpOp_of_list rfl ?_
   refine e_build (ps := [(0, .int .i64 aProps), (2, .slice A59 (List.length r23.1) c60)]) (v := .agg #[.int .i64 aProps, .slice none 0 0, .slice A59 (List.length r23.1) c60, .slice none 0 0]) E rfl rfl tbok rfl (by kernel_rfl) rfl ?_
   clear E; intro a E
   refine wpList_nil ?_
   refine th_n ⟨HS50, ?_⟩
   refine wpAnyH_all (rs := [7]) (by kernel_rfl) (by simp) ?_
   refine all1 ?_
   refine wpOp_of_list rfl ?_
   refine h_store (g := g70) (off := 0) H 6 rfl E rfl rfl rfl rfl tbok rfl rfl rfl rfl rfl ?_
   clear E; intro w76 a hc77 H_ E
   replace HS50 := HS50.trans hc77 (fun k_ hk_ h_ => hin75 k_ hk_ h_)
   replace H := H_; clear H_; try dsimp only [setn, addE, goneL] at H
   refine wpList_nil ?_
   refine th_n ⟨HS50, ?_⟩
   refine dr_done (by kernel_rfl) ?_
   exact .inl ⟨rfl, g70, A59, c60, E.pick _ ⟨rfl, rfl, rfl, trivial⟩, H.sel [0, 1, 2, 3, 4, 6, 5] rfl⟩
  refine wpOp_of_list rfl ?_
  refine h_alloc H E rfl rfl tbok rfl ?_
  intro w79 g78 a hc80 hg82 H_ E_
  replace E := E_ _ rfl; clear E_
  have hin83 : ∀ q_, q_ < w19.heap.size → q_ = g78 → (atL []) q_ := fun q_ h1_ h2_ => by have hs_ := HS50.size; have h4_ : q_ = g78 := h2_; exfalso; omega
  replace HS50 := HS50.ext hc80
  replace H := H_; clear H_; try dsimp only [setn, addE, goneL] at H
  refine wpList_nil ?_
  refine th_n ⟨HS50, ?_⟩
  refine wpAnyH_all (rs := [4]) (by kernel_rfl) (by simp) ?_
  refine all1 ?_
  refine wpOp_of_list rfl ?_
  obtain ⟨Fa84, Hc85, hb86⟩ := H.call [] [(1, false)] rfl rfl trivial
  refine e_call E rfl rfl Try.func35 rfl rfl rfl (kit_LentInts_calls A5 c6 aGuard hk7 Hc85 h24) ?_
  rintro v87 w88 a ⟨A91, c92, rfl, HR89⟩ E_
  replace E := E_ _ rfl; clear E_
  obtain ⟨H_, hc90⟩ := hb86 _ _ HR89 rfl
  replace HS50 := HS50.ext (callS_ext hc90)
  replace H := H_; clear H_; try dsimp only [setn, addE, goneL] at H
  refine wpList_nil ?_
  refine th_n ⟨HS50, ?_⟩
  refine wpAnyH_all (rs := [5]) (by kernel_rfl) (by simp) ?_
  refine all1 ?_
  refine wpOp_of_list rfl ?_
  refine e_build (ps := [(0, .int .i64 aProps), (2, .slice A91 (List.length r23.1) c92)]) (v := .agg #[.int .i64 aProps, .slice none 0 0, .slice A91 (List.length r23.1) c92, .slice none 0 0]) E rfl rfl tbok rfl (by kernel_rfl) rfl ?_
  clear E; intro a E
  refine wpList_nil ?_
  refine th_n ⟨HS50, ?_⟩
  refine wpAnyH_all (rs := [7]) (by kernel_rfl) (by simp) ?_
  refine all1 ?_
  refine wpOp_of_list rfl ?_
  refine h_store (g := g78) (off := 0) H 5 rfl E rfl rfl rfl rfl tbok rfl rfl rfl rfl rfl ?_
  clear E; intro w94 a hc95 H_ E
  replace HS50 := HS50.trans hc95 (fun k_ hk_ h_ => hin83 k_ hk_ h_)
  replace H := H_; clear H_; try dsimp only [setn, addE, goneL] at H
  refine wpList_nil ?_
  refine th_n ⟨HS50, ?_⟩
  refine dr_done (by kernel_rfl) ?_
  exact .inl ⟨rfl, g78, A91, c92, E.pick _ ⟨rfl, rfl, rfl, trivial⟩, H.sel [0, 1, 2, 3, 4, 5, 6] rfl⟩
 clear E H; rintro a w47 ⟨g43, A45, c46, E, H⟩
 refine th_n ?_
 refine wp_seq ?_
 refine wp_region_lit ?_
 obtain ⟨g96, hP⟩ := ask_inv hP
 refine vn tbok 7 [.slice A1 (List.length aAccept) c2, .slice A1 (List.length aAccept) c2, .int .i64 ((((List.length aAccept) : Nat) : Int) + 3)] [(12, .int .i64 (((List.length aAccept) : Nat) : Int)), (16, .int .i64 ((((List.length aAccept) : Nat) : Int) + 3))] [World.cell? w47 ⟨g13, 1, none⟩ = some (.slice A1 (List.length aAccept) c2), World.cell? w47 ⟨g13, 1, none⟩ = some (.slice A1 (List.length aAccept) c2), IntKind.i64.wrap ((((List.length aAccept) : Nat) : Int) + 3) = (((List.length aAccept) : Nat) : Int) + 3] E (by kernel_rfl) (by kernel_rfl) ⟨(H.box 3 rfl).cell (j := 1) rfl, (H.box 3 rfl).cell (j := 1) rfl, wrap_in g96⟩ ?_
 clear E; intro a E
 obtain ⟨g97, hP⟩ := ask_inv hP
 refine h_make cBool (false : Bool) H E rfl rfl tbok rfl rfl rfl rfl g97 rfl rfl rfl (fun _ _ => rfl) ?_
 intro w99 g98 a hc100 hg102 H_ E_
 replace E := E_ _ rfl; clear E_
 replace H := H_; clear H_; try dsimp only [setn, addE, goneL] at H
 refine vn tbok 1 [] [(18, .pointer (some ⟨g43, 1, none⟩))] [] E (by kernel_rfl) (by kernel_rfl) trivial ?_
 clear E; intro a E
 refine h_store (g := g43) (off := 1) H 5 rfl E rfl rfl rfl rfl tbok rfl rfl rfl rfl rfl ?_
 clear E; intro w103 a hc104 H_ E
 replace H := H_; clear H_; try dsimp only [setn, addE, goneL] at H
 refine wpList_nil ?_
 refine th_n ?_
 refine wp_seq ?_
 refine wp_region_lit ?_
 refine vn tbok 4 [.slice (some ⟨g98, 0, none⟩) (List.length (List.replicate (Int.toNat (((List.length aAccept) : Nat) : Int)) (false : Bool))) (Int.toNat ((((List.length aAccept) : Nat) : Int) + 3)), .slice A1 (List.length aAccept) c2] [(20, .slice (some ⟨g98, 0, none⟩) (List.length (List.replicate (Int.toNat (((List.length aAccept) : Nat) : Int)) (false : Bool))) (Int.toNat ((((List.length aAccept) : Nat) : Int) + 3))), (22, .slice A1 (List.length aAccept) c2)] [World.cell? w103 ⟨g43, 1, none⟩ = some (.slice (some ⟨g98, 0, none⟩) (List.length (List.replicate (Int.toNat (((List.length aAccept) : Nat) : Int)) (false : Bool))) (Int.toNat ((((List.length aAccept) : Nat) : Int) + 3))), World.cell? w103 ⟨g13, 1, none⟩ = some (.slice A1 (List.length aAccept) c2)] E (by kernel_rfl) (by kernel_rfl) ⟨(H.box 5 rfl).cell (j := 1) rfl, (H.box 3 rfl).cell (j := 1) rfl⟩ ?_
 clear E; intro a E
 obtain ⟨g107, hP⟩ := ask_inv hP
 refine h_copyx (d := cBool) (g := g98) (xs := (List.replicate (Int.toNat (((List.length aAccept) : Nat) : Int)) (false : Bool))) (ys := aAccept) H 7 rfl E rfl rfl tbok rfl rfl rfl rfl rfl flat_plain 0 rds_ro g107 ?_
 intro w105 a hc106 H_ E_
 replace E := E_ _ rfl; clear E_
 replace H := H_; clear H_; try dsimp only [setn, addE, goneL] at H
 have hn108 : (List.length (List.replicate (Int.toNat (((List.length aAccept) : Nat) : Int)) (false : Bool))) = (List.length (aAccept ++ List.drop (List.length aAccept) (List.replicate (Int.toNat (((List.length aAccept) : Nat) : Int)) (false : Bool)))) := by have h_ := g107; simp only [List.length_append, List.length_drop] at *; omega
 replace E := E.same (t := 20) (u := .slice (some ⟨g98, 0, none⟩) (List.length (aAccept ++ List.drop (List.length aAccept) (List.replicate (Int.toNat (((List.length aAccept) : Nat) : Int)) (false : Bool)))) (Int.toNat ((((List.length aAccept) : Nat) : Int) + 3))) rfl (congrArg (fun n_ => Value.slice (some ⟨g98, 0, none⟩) n_ (Int.toNat ((((List.length aAccept) : Nat) : Int) + 3))) hn108)
 replace H := H.boxEq 5 rfl (by rw [hn108]); try dsimp only [setn, addE, goneL] at H
 refine wpList_nil ?_
 refine th_n ?_
 refine wp_seq ?_
 refine wp_region_lit ?_
 obtain ⟨g109, hP⟩ := ask_inv hP
 refine vn tbok 7 [.slice A9 (List.length aNodes) c10, .slice A9 (List.length aNodes) c10, .int .i64 ((((List.length aNodes) : Nat) : Int) + 3)] [(26, .int .i64 (((List.length aNodes) : Nat) : Int)), (30, .int .i64 ((((List.length aNodes) : Nat) : Int) + 3))] [World.cell? w105 ⟨g13, 3, none⟩ = some (.slice A9 (List.length aNodes) c10), World.cell? w105 ⟨g13, 3, none⟩ = some (.slice A9 (List.length aNodes) c10), IntKind.i64.wrap ((((List.length aNodes) : Nat) : Int) + 3) = (((List.length aNodes) : Nat) : Int) + 3] E (by kernel_rfl) (by kernel_rfl) ⟨(H.box 3 rfl).cell (j := 3) rfl, (H.box 3 rfl).cell (j := 3) rfl, wrap_in g109⟩ ?_
 clear E; intro a E
 obtain ⟨g110, hP⟩ := ask_inv hP
 refine h_make cNode ((default : Nd) : Nd) H E rfl rfl tbok rfl rfl rfl rfl g110 rfl rfl rfl (fun _ _ => rfl) ?_
 intro w112 g111 a hc113 hg115 H_ E_
 replace E := E_ _ rfl; clear E_
 replace H := H_; clear H_; try dsimp only [setn, addE, goneL] at H
 refine vn tbok 1 [] [(32, .pointer (some ⟨g43, 3, none⟩))] [] E (by kernel_rfl) (by kernel_rfl) trivial ?_
 clear E; intro a E
 refine h_store (g := g43) (off := 3) H 5 rfl E rfl rfl rfl rfl tbok rfl rfl rfl rfl rfl ?_
 clear E; intro w116 a hc117 H_ E
 replace H := H_; clear H_; try dsimp only [setn, addE, goneL] at H
 refine wpList_nil ?_
 refine th_n ?_
 refine wp_seq ?_
 refine wp_region_lit ?_
 refine vn tbok 4 [.slice (some ⟨g111, 0, none⟩) (List.length (List.replicate (Int.toNat (((List.length aNodes) : Nat) : Int)) ((default : Nd) : Nd))) (Int.toNat ((((List.length aNodes) : Nat) : Int) + 3)), .slice A9 (List.length aNodes) c10] [(34, .slice (some ⟨g111, 0, none⟩) (List.length (List.replicate (Int.toNat (((List.length aNodes) : Nat) : Int)) ((default : Nd) : Nd))) (Int.toNat ((((List.length aNodes) : Nat) : Int) + 3))), (36, .slice A9 (List.length aNodes) c10)] [World.cell? w116 ⟨g43, 3, none⟩ = some (.slice (some ⟨g111, 0, none⟩) (List.length (List.replicate (Int.toNat (((List.length aNodes) : Nat) : Int)) ((default : Nd) : Nd))) (Int.toNat ((((List.length aNodes) : Nat) : Int) + 3))), World.cell? w116 ⟨g13, 3, none⟩ = some (.slice A9 (List.length aNodes) c10)] E (by kernel_rfl) (by kernel_rfl) ⟨(H.box 5 rfl).cell (j := 3) rfl, (H.box 3 rfl).cell (j := 3) rfl⟩ ?_
 clear E; intro a E
 obtain ⟨g120, hP⟩ := ask_inv hP
 refine h_copyx (d := cNode) (g := g111) (xs := (List.replicate (Int.toNat (((List.length aNodes) : Nat) : Int)) ((default : Nd) : Nd))) (ys := aNodes) H 8 rfl E rfl rfl tbok rfl rfl rfl rfl rfl flat_plain 2 rds_ro g120 ?_
 intro w118 a hc119 H_ E_
 replace E := E_ _ rfl; clear E_
 replace H := H_; clear H_; try dsimp only [setn, addE, goneL] at H
 have hn121 : (List.length (List.replicate (Int.toNat (((List.length aNodes) : Nat) : Int)) ((default : Nd) : Nd))) = (List.length (aNodes ++ List.drop (List.length aNodes) (List.replicate (Int.toNat (((List.length aNodes) : Nat) : Int)) ((default : Nd) : Nd)))) := by have h_ := g120; simp only [List.length_append, List.length_drop] at *; omega
 replace E := E.same (t := 34) (u := .slice (some ⟨g111, 0, none⟩) (List.length (aNodes ++ List.drop (List.length aNodes) (List.replicate (Int.toNat (((List.length aNodes) : Nat) : Int)) ((default : Nd) : Nd)))) (Int.toNat ((((List.length aNodes) : Nat) : Int) + 3))) rfl (congrArg (fun n_ => Value.slice (some ⟨g111, 0, none⟩) n_ (Int.toNat ((((List.length aNodes) : Nat) : Int) + 3))) hn121)
 replace H := H.boxEq 5 rfl (by rw [hn121]); try dsimp only [setn, addE, goneL] at H
 refine wpList_nil ?_
 refine th_n ?_
 refine wp_seq ?_
 refine wp_region_lit ?_
 refine vn tbok 1 [.agg #[.int .i64 aProps, .slice (some ⟨g98, 0, none⟩) (List.length (aAccept ++ List.drop (List.length aAccept) (List.replicate (Int.toNat (((List.length aAccept) : Nat) : Int)) (false : Bool)))) (Int.toNat ((((List.length aAccept) : Nat) : Int) + 3)), .slice A45 (List.length r23.1) c46, .slice (some ⟨g111, 0, none⟩) (List.length (aNodes ++ List.drop (List.length aNodes) (List.replicate (Int.toNat (((List.length aNodes) : Nat) : Int)) ((default : Nd) : Nd)))) (Int.toNat ((((List.length aNodes) : Nat) : Int) + 3))]] [(38, .agg #[.int .i64 aProps, .slice (some ⟨g98, 0, none⟩) (List.length (aAccept ++ List.drop (List.length aAccept) (List.replicate (Int.toNat (((List.length aAccept) : Nat) : Int)) (false : Bool)))) (Int.toNat ((((List.length aAccept) : Nat) : Int) + 3)), .slice A45 (List.length r23.1) c46, .slice (some ⟨g111, 0, none⟩) (List.length (aNodes ++ List.drop (List.length aNodes) (List.replicate (Int.toNat (((List.length aNodes) : Nat) : Int)) ((default : Nd) : Nd)))) (Int.toNat ((((List.length aNodes) : Nat) : Int) + 3))])] [cellsAt w118 g43 (0) [.int .i64 aProps, .slice (some ⟨g98, 0, none⟩) (List.length (aAccept ++ List.drop (List.length aAccept) (List.replicate (Int.toNat (((List.length aAccept) : Nat) : Int)) (false : Bool)))) (Int.toNat ((((List.length aAccept) : Nat) : Int) + 3)), .slice A45 (List.length r23.1) c46, .slice (some ⟨g111, 0, none⟩) (List.length (aNodes ++ List.drop (List.length aNodes) (List.replicate (Int.toNat (((List.length aNodes) : Nat) : Int)) ((default : Nd) : Nd)))) (Int.toNat ((((List.length aNodes) : Nat) : Int) + 3))]] E (by kernel_rfl) (by kernel_rfl) ((H.box 5 rfl).sub 0 _ rfl) ?_
 clear E; intro a E
 refine h_store (g := g18) (off := 0) H 4 rfl E rfl rfl rfl rfl tbok rfl rfl rfl rfl rfl ?_
 clear E; intro w122 a hc123 H_ E
 replace H := H_; clear H_; try dsimp only [setn, addE, goneL] at H
 refine wpList_nil ?_
 refine th_n ?_
 refine wp_ret ?_
 obtain rfl := Option.some.inj hP
 refine retV E [.cell 2 43] [.agg #[.int .i64 aProps, .slice (some ⟨g98, 0, none⟩) (List.length (aAccept ++ List.drop (List.length aAccept) (List.replicate (Int.toNat (((List.length aAccept) : Nat) : Int)) (false : Bool)))) (Int.toNat ((((List.length aAccept) : Nat) : Int) + 3)), .slice A45 (List.length r23.1) c46, .slice (some ⟨g111, 0, none⟩) (List.length (aNodes ++ List.drop (List.length aNodes) (List.replicate (Int.toNat (((List.length aNodes) : Nat) : Int)) ((default : Nd) : Nd)))) (Int.toNat ((((List.length aNodes) : Nat) : Int) + 3))]] rfl ⟨⟨_, rfl, run_loadBx tbok (H.box 4 rfl) rfl rfl rfl 0 rfl rfl⟩, trivial⟩ (.inl rfl) ?_
 exact ⟨_, rfl, (some ⟨g98, 0, none⟩), (Int.toNat ((((List.length aAccept) : Nat) : Int) + 3)), A45, c46, (some ⟨g111, 0, none⟩), (Int.toNat ((((List.length aNodes) : Nat) : Int) + 3)), rfl, H.sel [7, 6, 8] rfl⟩

/-! rejoinder/rejoinderkit.LentLetters -/
/-! rejoinder/guard.good -/
def guard_good (N : Nat) (aProps : Int) (aAccept : List Bool) (aGuard : List Int) (aNodes : List Nd) (ref : Int) (below : Int) (above : Int) : Option Bool :=
  if ref < 0 then
    ask (in64 (-(((List.length aAccept) : Nat) : Int))) <|
    some (decide ((-(((List.length aAccept) : Nat) : Int)) ≤ ref))
  else
    if ref < below then
      ask (idx ref (List.length aNodes)) <|
      some (decide (above < ((List.getD aNodes (Int.toNat ref) (default : Nd)).P)))
    else
      some false
set_option maxRecDepth 100000 in
set_option maxHeartbeats 4000000 in
theorem guard_good_calls {N : Nat} {S Fa : Nat → Prop} {w0 : World} {r : Bool} (A1 : Option Addr) (c2 : Nat) (A5 : Option Addr) (c6 : Nat) (A9 : Option Addr) (c10 : Nat) (aProps : Int) (aAccept : List Bool) (aGuard : List Int) (aNodes : List Nd) (ref : Int) (below : Int) (above : Int) (hk3 : List.length aAccept ≤ c2) (hk7 : List.length aGuard ≤ c6) (hk11 : List.length aNodes ≤ c10) (H : Hp S Fa w0 w0 [.ro false cBool A1 aAccept, .ro false (cInt .i64) A5 aGuard, .ro false cNode A9 aNodes]) (hP : guard_good N aProps aAccept aGuard aNodes ref below above = some r) :
    Calls Try.prog 51 #[.agg #[.int .i64 aProps, .slice A1 (List.length aAccept) c2, .slice A5 (List.length aGuard) c6, .slice A9 (List.length aNodes) c10], .int .i64 ref, .int .i64 below, .int .i64 above] w0 fun e w' => ∃ v, e = .returned v ∧ v = .bool r ∧ Hp S Fa w0 w' [] := by
 refine enterV (n := 30) Try.func51 rfl rfl rfl ?_
 intro a E
 replace E := E.pick [(0, .agg #[.int .i64 aProps, .slice A1 (List.length aAccept) c2, .slice A5 (List.length aGuard) c6, .slice A9 (List.length aNodes) c10]), (1, .int .i64 ref), (2, .int .i64 below), (3, .int .i64 above)] ⟨rfl, rfl, rfl, rfl, trivial⟩
 rw [guard_good] at hP
 refine wp_seq ?_
 refine wp_region_lit ?_
 refine h_box H E rfl rfl rfl ?_
 intro w14 g13 a hc15 hg17 H_ E_
 replace E := E_ _ rfl; clear E_
 replace H := H_; clear H_; try dsimp only [setn, addE, goneL] at H
 refine vn tbok 1 [] [] [] E (by kernel_rfl) (by kernel_rfl) trivial ?_
 clear E; intro a E
 refine wpList_nil ?_
 refine th_n ?_
 refine wp_seq ?_
 refine wp_seq ?_
 refine wp_region_lit ?_
 refine vn tbok 2 [] [(10, .bool (decide (ref < 0)))] [] E (by kernel_rfl) (by kernel_rfl) trivial ?_
 clear E; intro a E
 refine wpList_nil ?_
 refine th_n ?_
 refine E.cases (t := 10) rfl (fun hb_ E_ => ?_) (fun hb_ E_ => ?_)
 ·
  replace E := E_; clear E_
  have h18 : ref < 0 := of_decide_eq_true hb_
  clear hb_; replace hP := ite_t h18 hP
  refine c_true E rfl ?_
  refine wp_seq ?_
  refine wp_region_lit ?_
  obtain ⟨g19, hP⟩ := ask_inv hP
  refine vn tbok 7 [.slice A1 (List.length aAccept) c2, .int .i64 (-(((List.length aAccept) : Nat) : Int))] [(8, .bool (decide ((-(((List.length aAccept) : Nat) : Int)) ≤ ref)))] [World.cell? w14 ⟨g13, 1, none⟩ = some (.slice A1 (List.length aAccept) c2), IntKind.i64.wrap (0 - (((List.length aAccept) : Nat) : Int)) = -(((List.length aAccept) : Nat) : Int)] E (by kernel_rfl) (by kernel_rfl) ⟨(H.box 3 rfl).cell (j := 1) rfl, neg_in g19⟩ ?_
  clear E; intro a E
  refine wpList_nil ?_
  refine th_n ?_
  refine wp_ret ?_
  refine th_ret ?_
  obtain rfl := Option.some.inj hP
  refine ret1 E rfl rfl ?_
  exact ⟨_, rfl, rfl, H.sel [] rfl⟩
 replace E := E_; clear E_
 have h20 : ¬ (ref < 0) := of_decide_eq_false hb_
 clear hb_; replace hP := ite_f h20 hP
 refine c_false E rfl ?_
 refine wp_skip ?_
 refine th_n ?_
 refine wp_seq ?_
 refine wp_region_lit ?_
 refine vn tbok 4 [] [(20, .bool (decide (ref < below)))] [] E (by kernel_rfl) (by kernel_rfl) trivial ?_
 clear E; intro a E
 refine E.cases (t := 20) rfl (fun hb_ E_ => ?_) (fun hb_ E_ => ?_)
 ·
  replace E := E_; clear E_
  have h21 : ref < below := of_decide_eq_true hb_
  clear hb_; replace hP := ite_t h21 hP
  obtain ⟨g22, hP⟩ := ask_inv hP
  obtain ⟨b23, o24, e_b23⟩ := (H.rd 2 rds_ro).addr (idx_pos g22)
  subst e_b23
  refine vn tbok 10 [.slice (some ⟨b23, o24, none⟩) (List.length aNodes) c10, .int .i64 ((List.getD aNodes (Int.toNat ref) (default : Nd)).P)] [(8, .bool (decide (above < ((List.getD aNodes (Int.toNat ref) (default : Nd)).P))))] [World.cell? w14 ⟨g13, 3, none⟩ = some (.slice (some ⟨b23, o24, none⟩) (List.length aNodes) c10), 0 ≤ ref ∧ ref < (((List.length aNodes) : Nat) : Int), World.cell? w14 ⟨b23, o24 + (Int.toNat ref) * 3, none⟩ = some (.int .i64 ((List.getD aNodes (Int.toNat ref) (default : Nd)).P))] E (by kernel_rfl) (by kernel_rfl) ⟨(H.box 3 rfl).cell (j := 3) rfl, g22, (Rds.atP (H.rd 2 rds_ro) (default : Nd) g22).1⟩ ?_
  clear E; intro a E
  refine wpList_nil ?_
  refine th_n ?_
  refine wp_ret ?_
  obtain rfl := Option.some.inj hP
  refine ret1 E rfl rfl ?_
  exact ⟨_, rfl, rfl, H.sel [] rfl⟩
 replace E := E_; clear E_
 have h25 : ¬ (ref < below) := of_decide_eq_false hb_
 clear hb_; replace hP := ite_f h25 hP
 refine vn tbok 10 [] [(8, .bool false)] [] E (by kernel_rfl) (by kernel_rfl) trivial ?_
 clear E; intro a E
 refine wpList_nil ?_
 refine th_n ?_
 refine wp_ret ?_
 obtain rfl := Option.some.inj hP
 refine ret1 E rfl rfl ?_
 exact ⟨_, rfl, rfl, H.sel [] rfl⟩

/-! rejoinder/guard.Check -/
def guard_Check_l0 (N : Nat) (aProps : Int) (aAccept : List Bool) (aGuard : List Int) (aNodes : List Nd) : Nat → (List (Nd × Bool)) → Int → Option (Unit ⊕ Int)
  | 0, _, _ => none
  | m130 + 1, met81, x82 =>
    if x82 < (((List.length aNodes) : Nat) : Int) then
      ask (idx x82 (List.length aNodes)) <|
      if ((List.getD aNodes (Int.toNat x82) (default : Nd)).P) < 0 then
        some (Sum.inr 12)
      else
        if aProps ≤ ((List.getD aNodes (Int.toNat x82) (default : Nd)).P) then
          some (Sum.inr 12)
        else
          if ((List.getD aNodes (Int.toNat x82) (default : Nd)).Lo : Int) = (List.getD aNodes (Int.toNat x82) (default : Nd)).Hi then
            some (Sum.inr 12)
          else
            ask (ndOk (⟨(List.getD aNodes (Int.toNat x82) (default : Nd)).P, (List.getD aNodes (Int.toNat x82) (default : Nd)).Lo, (List.getD aNodes (Int.toNat x82) (default : Nd)).Hi⟩ : Nd)) <|
            if (Option.getD (mget met81 (⟨(List.getD aNodes (Int.toNat x82) (default : Nd)).P, (List.getD aNodes (Int.toNat x82) (default : Nd)).Lo, (List.getD aNodes (Int.toNat x82) (default : Nd)).Hi⟩ : Nd)) false) = true then
              some (Sum.inr 12)
            else
              Option.bind (guard_good N aProps aAccept aGuard aNodes ((List.getD aNodes (Int.toNat x82) (default : Nd)).Lo) x82 ((List.getD aNodes (Int.toNat x82) (default : Nd)).P)) fun r157 =>
              if r157 = true then
                Option.bind (guard_good N aProps aAccept aGuard aNodes ((List.getD aNodes (Int.toNat x82) (default : Nd)).Hi) x82 ((List.getD aNodes (Int.toNat x82) (default : Nd)).P)) fun r168 =>
                if r168 = true then
                  ask (mget met81 (⟨(List.getD aNodes (Int.toNat x82) (default : Nd)).P, (List.getD aNodes (Int.toNat x82) (default : Nd)).Lo, (List.getD aNodes (Int.toNat x82) (default : Nd)).Hi⟩ : Nd) = none) <|
                  ask (in64 (x82 + 1)) <|
                  guard_Check_l0 N aProps aAccept aGuard aNodes m130 (met81 ++ [((⟨(List.getD aNodes (Int.toNat x82) (default : Nd)).P, (List.getD aNodes (Int.toNat x82) (default : Nd)).Lo, (List.getD aNodes (Int.toNat x82) (default : Nd)).Hi⟩ : Nd), true)]) (x82 + 1)
                else
                  some (Sum.inr 12)
              else
                some (Sum.inr 12)
    else
      some (Sum.inl ())
def guard_Check_l1 (N : Nat) (aProps : Int) (aAccept : List Bool) (aGuard : List Int) (aNodes : List Nd) : Nat → Int → Option (Unit ⊕ Int)
  | 0, _ => none
  | m219 + 1, x201 =>
    if x201 < (((List.length aGuard) : Nat) : Int) then
      ask (idx x201 (List.length aGuard)) <|
      Option.bind (guard_good N aProps aAccept aGuard aNodes (List.getD aGuard (Int.toNat x201) 0) (((List.length aNodes) : Nat) : Int) (-1)) fun r230 =>
      if r230 = true then
        ask (in64 (x201 + 1)) <|
        guard_Check_l1 N aProps aAccept aGuard aNodes m219 (x201 + 1)
      else
        some (Sum.inr 12)
    else
      some (Sum.inl ())
def guard_Check (N : Nat) (aProps : Int) (aAccept : List Bool) (aGuard : List Int) (aNodes : List Nd) : Option Int :=
  if aProps < 0 then
    some 12
  else
    if 8 < aProps then
      some 12
    else
      if (((List.length aAccept) : Nat) : Int) < 1 then
        some 12
      else
        if 256 < (((List.length aAccept) : Nat) : Int) then
          some 12
        else
          if ((((List.length aGuard) : Nat) : Int) : Int) = (((List.length aAccept) : Nat) : Int) then
            if 4096 < (((List.length aNodes) : Nat) : Int) then
              some 12
            else
              Option.bind (guard_Check_l0 N aProps aAccept aGuard aNodes N ([] : List (Nd × Bool)) 0) fun x131 =>
              Sum.elim (fun x136 =>
                Option.bind (guard_Check_l1 N aProps aAccept aGuard aNodes N 0) fun x220 =>
                Sum.elim (fun x225 =>
                  some 0)
                 (fun x243 =>
                  some x243) x220)
               (fun x184 =>
                some x184) x131
          else
            some 12
set_option maxRecDepth 100000 in
set_option maxHeartbeats 4000000 in
theorem guard_Check_calls {N : Nat} {S Fa : Nat → Prop} {w0 : World} {r : Int} (A1 : Option Addr) (c2 : Nat) (A5 : Option Addr) (c6 : Nat) (A9 : Option Addr) (c10 : Nat) (aProps : Int) (aAccept : List Bool) (aGuard : List Int) (aNodes : List Nd) (hk3 : List.length aAccept ≤ c2) (hk7 : List.length aGuard ≤ c6) (hk11 : List.length aNodes ≤ c10) (H : Hp S Fa w0 w0 [.ro false cBool A1 aAccept, .ro false (cInt .i64) A5 aGuard, .ro false cNode A9 aNodes]) (hP : guard_Check N aProps aAccept aGuard aNodes = some r) :
    Calls Try.prog 36 #[.agg #[.int .i64 aProps, .slice A1 (List.length aAccept) c2, .slice A5 (List.length aGuard) c6, .slice A9 (List.length aNodes) c10]] w0 fun e w' => ∃ v, e = .returned v ∧ v = .int .i64 r ∧ Hp S Fa w0 w' [] := by
 refine enterV (n := 110) Try.func36 rfl rfl rfl ?_
 intro a E
 replace E := E.pick [(0, .agg #[.int .i64 aProps, .slice A1 (List.length aAccept) c2, .slice A5 (List.length aGuard) c6, .slice A9 (List.length aNodes) c10])] ⟨rfl, trivial⟩
 rw [guard_Check] at hP
 refine wp_seq ?_
 refine wp_region_lit ?_
 refine h_box H E rfl rfl rfl ?_
 intro w14 g13 a hc15 hg17 H_ E_
 replace E := E_ _ rfl; clear E_
 replace H := H_; clear H_; try dsimp only [setn, addE, goneL] at H
 refine vn tbok 1 [] [] [] E (by kernel_rfl) (by kernel_rfl) trivial ?_
 clear E; intro a E
 refine wpList_nil ?_
 refine th_n ?_
 refine wp_seq ?_
 refine wp_region_lit ?_
 refine vn tbok 4 [.slice A1 (List.length aAccept) c2] [(3, .int .i64 (((List.length aAccept) : Nat) : Int))] [World.cell? w14 ⟨g13, 1, none⟩ = some (.slice A1 (List.length aAccept) c2)] E (by kernel_rfl) (by kernel_rfl) ((H.box 3 rfl).cell (j := 1) rfl) ?_
 clear E; intro a E
 refine wpList_nil ?_
 refine th_n ?_
 refine wp_seq ?_
 refine wp_seq ?_
 refine wp_region_lit ?_
 refine vn tbok 4 [.int .i64 aProps] [(15, .bool (decide (aProps < 0)))] [World.cell? w14 ⟨g13, 0, none⟩ = some (.int .i64 aProps)] E (by kernel_rfl) (by kernel_rfl) ((H.box 3 rfl).cell (j := 0) rfl) ?_
 clear E; intro a E
 refine E.cases (t := 15) rfl (fun hb_ E_ => ?_) (fun hb_ E_ => ?_)
 ·
  replace E := E_; clear E_
  have h18 : aProps < 0 := of_decide_eq_true hb_
  clear hb_; replace hP := ite_t h18 hP
  refine vn tbok 25 [] [(40, .bool true)] [] E (by kernel_rfl) (by kernel_rfl) trivial ?_
  clear E; intro a E
  refine wpList_nil ?_
  refine th_n ?_
  refine c_true E rfl ?_
  refine wp_seq ?_
  refine wp_region_lit ?_
  refine vn tbok 1 [] [(2, .int .i64 12)] [] E (by kernel_rfl) (by kernel_rfl) trivial ?_
  clear E; intro a E
  refine wpList_nil ?_
  refine th_n ?_
  refine wp_ret ?_
  refine th_ret ?_
  obtain rfl := Option.some.inj hP
  refine ret1 E rfl rfl ?_
  exact ⟨_, rfl, rfl, H.sel [] rfl⟩
 replace E := E_; clear E_
 have h19 : ¬ (aProps < 0) := of_decide_eq_false hb_
 clear hb_; replace hP := ite_f h19 hP
 refine vn tbok 5 [.int .i64 aProps] [(20, .bool (decide (8 < aProps)))] [World.cell? w14 ⟨g13, 0, none⟩ = some (.int .i64 aProps)] E (by kernel_rfl) (by kernel_rfl) ((H.box 3 rfl).cell (j := 0) rfl) ?_
 clear E; intro a E
 refine E.cases (t := 20) rfl (fun hb_ E_ => ?_) (fun hb_ E_ => ?_)
 ·
  replace E := E_; clear E_
  have h20 : 8 < aProps := of_decide_eq_true hb_
  clear hb_; replace hP := ite_t h20 hP
  refine vn tbok 20 [] [(40, .bool true)] [] E (by kernel_rfl) (by kernel_rfl) trivial ?_
  clear E; intro a E
  refine wpList_nil ?_
  refine th_n ?_
  refine c_true E rfl ?_
  refine wp_seq ?_
  refine wp_region_lit ?_
  refine vn tbok 1 [] [(2, .int .i64 12)] [] E (by kernel_rfl) (by kernel_rfl) trivial ?_
  clear E; intro a E
  refine wpList_nil ?_
  refine th_n ?_
  refine wp_ret ?_
  refine th_ret ?_
  obtain rfl := Option.some.inj hP
  refine ret1 E rfl rfl ?_
  exact ⟨_, rfl, rfl, H.sel [] rfl⟩
 replace E := E_; clear E_
 have h21 : ¬ (8 < aProps) := of_decide_eq_false hb_
 clear hb_; replace hP := ite_f h21 hP
 refine vn tbok 4 [] [(24, .bool (decide ((((List.length aAccept) : Nat) : Int) < 1)))] [] E (by kernel_rfl) (by kernel_rfl) trivial ?_
 clear E; intro a E
 refine E.cases (t := 24) rfl (fun hb_ E_ => ?_) (fun hb_ E_ => ?_)
 ·
  replace E := E_; clear E_
  have h22 : (((List.length aAccept) : Nat) : Int) < 1 := of_decide_eq_true hb_
  clear hb_; replace hP := ite_t h22 hP
  refine vn tbok 16 [] [(40, .bool true)] [] E (by kernel_rfl) (by kernel_rfl) trivial ?_
  clear E; intro a E
  refine wpList_nil ?_
  refine th_n ?_
  refine c_true E rfl ?_
  refine wp_seq ?_
  refine wp_region_lit ?_
  refine vn tbok 1 [] [(2, .int .i64 12)] [] E (by kernel_rfl) (by kernel_rfl) trivial ?_
  clear E; intro a E
  refine wpList_nil ?_
  refine th_n ?_
  refine wp_ret ?_
  refine th_ret ?_
  obtain rfl := Option.some.inj hP
  refine ret1 E rfl rfl ?_
  exact ⟨_, rfl, rfl, H.sel [] rfl⟩
 replace E := E_; clear E_
 have h23 : ¬ ((((List.length aAccept) : Nat) : Int) < 1) := of_decide_eq_false hb_
 clear hb_; replace hP := ite_f h23 hP
 refine vn tbok 4 [] [(28, .bool (decide (256 < (((List.length aAccept) : Nat) : Int))))] [] E (by kernel_rfl) (by kernel_rfl) trivial ?_
 clear E; intro a E
 refine E.cases (t := 28) rfl (fun hb_ E_ => ?_) (fun hb_ E_ => ?_)
 ·
  replace E := E_; clear E_
  have h24 : 256 < (((List.length aAccept) : Nat) : Int) := of_decide_eq_true hb_
  clear hb_; replace hP := ite_t h24 hP
  refine vn tbok 12 [] [(40, .bool true)] [] E (by kernel_rfl) (by kernel_rfl) trivial ?_
  clear E; intro a E
  refine wpList_nil ?_
  refine th_n ?_
  refine c_true E rfl ?_
  refine wp_seq ?_
  refine wp_region_lit ?_
  refine vn tbok 1 [] [(2, .int .i64 12)] [] E (by kernel_rfl) (by kernel_rfl) trivial ?_
  clear E; intro a E
  refine wpList_nil ?_
  refine th_n ?_
  refine wp_ret ?_
  refine th_ret ?_
  obtain rfl := Option.some.inj hP
  refine ret1 E rfl rfl ?_
  exact ⟨_, rfl, rfl, H.sel [] rfl⟩
 replace E := E_; clear E_
 have h25 : ¬ (256 < (((List.length aAccept) : Nat) : Int)) := of_decide_eq_false hb_
 clear hb_; replace hP := ite_f h25 hP
 refine vn tbok 7 [.slice A5 (List.length aGuard) c6] [(35, .bool (((((List.length aGuard) : Nat) : Int) : Int) != (((List.length aAccept) : Nat) : Int)))] [World.cell? w14 ⟨g13, 2, none⟩ = some (.slice A5 (List.length aGuard) c6)] E (by kernel_rfl) (by kernel_rfl) ((H.box 3 rfl).cell (j := 2) rfl) ?_
 clear E; intro a E
 refine E.cases (t := 35) rfl (fun hb_ E_ => ?_) (fun hb_ E_ => ?_)
 ·
  replace E := E_; clear E_
  have h26 : ¬ (((((List.length aGuard) : Nat) : Int) : Int) = (((List.length aAccept) : Nat) : Int)) := bne_iff_ne.1 hb_
  clear hb_; replace hP := ite_f h26 hP
  refine vn tbok 5 [] [(40, .bool true)] [] E (by kernel_rfl) (by kernel_rfl) trivial ?_
  clear E; intro a E
  refine wpList_nil ?_
  refine th_n ?_
  refine c_true E rfl ?_
  refine wp_seq ?_
  refine wp_region_lit ?_
  refine vn tbok 1 [] [(2, .int .i64 12)] [] E (by kernel_rfl) (by kernel_rfl) trivial ?_
  clear E; intro a E
  refine wpList_nil ?_
  refine th_n ?_
  refine wp_ret ?_
  refine th_ret ?_
  obtain rfl := Option.some.inj hP
  refine ret1 E rfl rfl ?_
  exact ⟨_, rfl, rfl, H.sel [] rfl⟩
 replace E := E_; clear E_
 have h27 : ((((List.length aGuard) : Nat) : Int) : Int) = (((List.length aAccept) : Nat) : Int) := bne_eq_false_iff_eq.1 hb_
 clear hb_; replace hP := ite_t h27 hP
 refine vn tbok 5 [.slice A9 (List.length aNodes) c10] [(40, .bool (decide (4096 < (((List.length aNodes) : Nat) : Int))))] [World.cell? w14 ⟨g13, 3, none⟩ = some (.slice A9 (List.length aNodes) c10)] E (by kernel_rfl) (by kernel_rfl) ((H.box 3 rfl).cell (j := 3) rfl) ?_
 clear E; intro a E
 refine wpList_nil ?_
 refine th_n ?_
 refine E.cases (t := 40) rfl (fun hb_ E_ => ?_) (fun hb_ E_ => ?_)
 ·
  replace E := E_; clear E_
  have h28 : 4096 < (((List.length aNodes) : Nat) : Int) := of_decide_eq_true hb_
  clear hb_; replace hP := ite_t h28 hP
  refine c_true E rfl ?_
  refine wp_seq ?_
  refine wp_region_lit ?_
  refine vn tbok 1 [] [(2, .int .i64 12)] [] E (by kernel_rfl) (by kernel_rfl) trivial ?_
  clear E; intro a E
  refine wpList_nil ?_
  refine th_n ?_
  refine wp_ret ?_
  refine th_ret ?_
  obtain rfl := Option.some.inj hP
  refine ret1 E rfl rfl ?_
  exact ⟨_, rfl, rfl, H.sel [] rfl⟩
 replace E := E_; clear E_
 have h29 : ¬ (4096 < (((List.length aNodes) : Nat) : Int)) := of_decide_eq_false hb_
 clear hb_; replace hP := ite_f h29 hP
 refine c_false E rfl ?_
 refine wp_skip ?_
 refine th_n ?_
 refine wp_seq ?_
 refine wp_region_lit ?_
 refine h_makeMap (P := Try.prog) (k0 := 75) H E rfl rfl ?_
 intro w31 g30 a hc32 hg33 H_ E_
 replace E := E_ _ rfl; clear E_
 replace H := H_; clear H_; try dsimp only [setn, addE, goneL] at H
 refine vn tbok 1 [] [(4, .map (some g30))] [] E (by kernel_rfl) (by kernel_rfl) trivial ?_
 clear E; intro a E
 refine wpList_nil ?_
 refine th_n ?_
 refine wp_seq ?_
 refine wp_seq ?_
 refine wp_region_lit ?_
 refine vn tbok 4 [.slice A9 (List.length aNodes) c10] [(43, .slice A9 (List.length aNodes) c10), (44, .int .i64 (((List.length aNodes) : Nat) : Int)), (45, .int .i64 0)] [World.cell? w31 ⟨g13, 3, none⟩ = some (.slice A9 (List.length aNodes) c10)] E (by kernel_rfl) (by kernel_rfl) ((H.box 3 rfl).cell (j := 3) rfl) ?_
 clear E; intro a E
 refine wpList_nil ?_
 refine th_n ?_
 refine wp_block ?_
 obtain ⟨x131, hL132, hK133⟩ := bind_inv hP
 clear hP
 refine loop_cut (fun i_ a w_ => (i_ = 0 ∧ ∃ (x136 : Unit), Fr a 110 [(1, .pointer (some ⟨g13, 0, none⟩))] ∧ Hp S Fa w0 w_ [.ro false cBool A1 aAccept, .ro false (cInt .i64) A5 aGuard, .ro false cNode A9 aNodes, .box g13 43 [.int .i64 aProps, .slice A1 (List.length aAccept) c2, .slice A5 (List.length aGuard) c6, .slice A9 (List.length aNodes) c10]] ∧ x131 = Sum.inl x136)) ?_ ?_
 ·
  refine loopV (fun m135 a w134 => ∃ (met81 : List (Nd × Bool)) (x82 : Int), Fr a 110 [(1, .pointer (some ⟨g13, 0, none⟩)), (4, .map (some g30)), (43, .slice A9 (List.length aNodes) c10), (44, .int .i64 (((List.length aNodes) : Nat) : Int)), (45, .int .i64 x82)] ∧ Hp S Fa w0 w134 [.ro false cBool A1 aAccept, .ro false (cInt .i64) A5 aGuard, .ro false cNode A9 aNodes, .box g13 43 [.int .i64 aProps, .slice A1 (List.length aAccept) c2, .slice A5 (List.length aGuard) c6, .slice A9 (List.length aNodes) c10], .mp Try.prog 75 g30 (List.map (fun p_ => (ndV p_.1, (fun u_ : Bool => .bool u_) p_.2)) met81)] ∧ guard_Check_l0 N aProps aAccept aGuard aNodes m135 met81 x82 = some x131) N ?_ ?_
  ·
   exact ⟨([] : List (Nd × Bool)), 0, E.pick _ ⟨rfl, rfl, rfl, rfl, rfl, trivial⟩, H.sel [0, 1, 2, 3, 4] rfl, hL132⟩
  clear E H hL132; intro m135 a w134 hI_
  obtain ⟨met81, x82, E, H, hP⟩ := hI_
  obtain ⟨m130, rfl⟩ : ∃ q_, m135 = q_ + 1 := by cases m135 with | zero => rw [guard_Check_l0] at hP; cases hP | succ q_ => exact ⟨q_, rfl⟩
  rw [guard_Check_l0] at hP
  refine wp_seq ?_
  refine wp_region_lit ?_
  refine vn tbok 1 [] [(46, .bool (decide (x82 < (((List.length aNodes) : Nat) : Int))))] [] E (by kernel_rfl) (by kernel_rfl) trivial ?_
  clear E; intro a E
  refine wpList_nil ?_
  refine th_n ?_
  refine wp_seq ?_
  refine E.cases (t := 46) rfl (fun hb_ E_ => ?_) (fun hb_ E_ => ?_)
  ·
   replace E := E_; clear E_
   have h137 : x82 < (((List.length aNodes) : Nat) : Int) := of_decide_eq_true hb_
   clear hb_; replace hP := ite_t h137 hP
   refine c_true E rfl ?_
   refine wp_skip ?_
   refine th_n ?_
   refine wp_seq ?_
   refine wp_block ?_
   refine wp_seq ?_
   refine wp_region_lit ?_
   obtain ⟨g138, hP⟩ := ask_inv hP
   obtain ⟨b139, o140, e_b139⟩ := (H.rd 2 rds_ro).addr (idx_pos g138)
   subst e_b139
   refine vn tbok 3 [.agg #[.int .i64 ((List.getD aNodes (Int.toNat x82) (default : Nd)).P), .int .i64 ((List.getD aNodes (Int.toNat x82) (default : Nd)).Lo), .int .i64 ((List.getD aNodes (Int.toNat x82) (default : Nd)).Hi)]] [(47, .int .i64 x82), (49, .agg #[.int .i64 ((List.getD aNodes (Int.toNat x82) (default : Nd)).P), .int .i64 ((List.getD aNodes (Int.toNat x82) (default : Nd)).Lo), .int .i64 ((List.getD aNodes (Int.toNat x82) (default : Nd)).Hi)])] [0 ≤ x82 ∧ x82 < (((List.length aNodes) : Nat) : Int), cellsAt w134 b139 (o140 + (Int.toNat x82) * 3) [.int .i64 ((List.getD aNodes (Int.toNat x82) (default : Nd)).P), .int .i64 ((List.getD aNodes (Int.toNat x82) (default : Nd)).Lo), .int .i64 ((List.getD aNodes (Int.toNat x82) (default : Nd)).Hi)]] E (by kernel_rfl) (by kernel_rfl) ⟨g138, Rds.atP (H.rd 2 rds_ro) (default : Nd) g138⟩ ?_
   clear E; intro a E
   refine h_alloc H E rfl rfl tbok rfl ?_
   intro w142 g141 a hc143 hg145 H_ E_
   replace E := E_ _ rfl; clear E_
   replace H := H_; clear H_; try dsimp only [setn, addE, goneL] at H
   refine vn tbok 1 [] [(5, .int .i64 x82)] [] E (by kernel_rfl) (by kernel_rfl) trivial ?_
   clear E; intro a E
   refine h_store (g := g141) (off := 0) H 5 rfl E rfl rfl rfl rfl tbok rfl rfl rfl rfl rfl ?_
   clear E; intro w146 a hc147 H_ E
   replace H := H_; clear H_; try dsimp only [setn, addE, goneL] at H
   refine wpList_nil ?_
   refine th_n ?_
   refine wp_seq ?_
   refine wp_seq ?_
   refine wp_region_lit ?_
   refine vn tbok 4 [.int .i64 ((List.getD aNodes (Int.toNat x82) (default : Nd)).P)] [(53, .bool (decide (((List.getD aNodes (Int.toNat x82) (default : Nd)).P) < 0)))] [World.cell? w146 ⟨g141, 0, none⟩ = some (.int .i64 ((List.getD aNodes (Int.toNat x82) (default : Nd)).P))] E (by kernel_rfl) (by kernel_rfl) ((H.box 5 rfl).cell (j := 0) rfl) ?_
   clear E; intro a E
   refine E.cases (t := 53) rfl (fun hb_ E_ => ?_) (fun hb_ E_ => ?_)
   ·
    replace E := E_; clear E_
    have h148 : ((List.getD aNodes (Int.toNat x82) (default : Nd)).P) < 0 := of_decide_eq_true hb_
    clear hb_; replace hP := ite_t h148 hP
    refine vn tbok 38 [] [(91, .bool true)] [] E (by kernel_rfl) (by kernel_rfl) trivial ?_
    clear E; intro a E
    refine wpList_nil ?_
    refine th_n ?_
    refine c_true E rfl ?_
    refine wp_seq ?_
    refine wp_region_lit ?_
    refine vn tbok 1 [] [(2, .int .i64 12)] [] E (by kernel_rfl) (by kernel_rfl) trivial ?_
    clear E; intro a E
    refine wpList_nil ?_
    refine th_n ?_
    refine wp_ret ?_
    refine th_ret ?_
    refine bl_ret ?_
    refine th_ret ?_
    refine th_ret ?_
    refine .inr ⟨rfl, ?_⟩
    refine bl_ret ?_
    refine th_ret ?_
    have hx_ := Option.some.inj hP; subst hx_
    have hP : some (12) = some r := hK133
    obtain rfl := Option.some.inj hP
    refine ret1 E rfl rfl ?_
    exact ⟨_, rfl, rfl, H.sel [] rfl⟩
   replace E := E_; clear E_
   have h149 : ¬ (((List.getD aNodes (Int.toNat x82) (default : Nd)).P) < 0) := of_decide_eq_false hb_
   clear hb_; replace hP := ite_f h149 hP
   refine vn tbok 7 [.int .i64 ((List.getD aNodes (Int.toNat x82) (default : Nd)).P), .int .i64 aProps] [(60, .bool (decide (aProps ≤ ((List.getD aNodes (Int.toNat x82) (default : Nd)).P))))] [World.cell? w146 ⟨g141, 0, none⟩ = some (.int .i64 ((List.getD aNodes (Int.toNat x82) (default : Nd)).P)), World.cell? w146 ⟨g13, 0, none⟩ = some (.int .i64 aProps)] E (by kernel_rfl) (by kernel_rfl) ⟨(H.box 5 rfl).cell (j := 0) rfl, (H.box 3 rfl).cell (j := 0) rfl⟩ ?_
   clear E; intro a E
   refine E.cases (t := 60) rfl (fun hb_ E_ => ?_) (fun hb_ E_ => ?_)
   ·
    replace E := E_; clear E_
    have h150 : aProps ≤ ((List.getD aNodes (Int.toNat x82) (default : Nd)).P) := of_decide_eq_true hb_
    clear hb_; replace hP := ite_t h150 hP
    refine vn tbok 31 [] [(91, .bool true)] [] E (by kernel_rfl) (by kernel_rfl) trivial ?_
    clear E; intro a E
    refine wpList_nil ?_
    refine th_n ?_
    refine c_true E rfl ?_
    refine wp_seq ?_
    refine wp_region_lit ?_
    refine vn tbok 1 [] [(2, .int .i64 12)] [] E (by kernel_rfl) (by kernel_rfl) trivial ?_
    clear E; intro a E
    refine wpList_nil ?_
    refine th_n ?_
    refine wp_ret ?_
    refine th_ret ?_
    refine bl_ret ?_
    refine th_ret ?_
    refine th_ret ?_
    refine .inr ⟨rfl, ?_⟩
    refine bl_ret ?_
    refine th_ret ?_
    have hx_ := Option.some.inj hP; subst hx_
    have hP : some (12) = some r := hK133
    obtain rfl := Option.some.inj hP
    refine ret1 E rfl rfl ?_
    exact ⟨_, rfl, rfl, H.sel [] rfl⟩
   replace E := E_; clear E_
   have h151 : ¬ (aProps ≤ ((List.getD aNodes (Int.toNat x82) (default : Nd)).P)) := of_decide_eq_false hb_
   clear hb_; replace hP := ite_f h151 hP
   refine vn tbok 7 [.int .i64 ((List.getD aNodes (Int.toNat x82) (default : Nd)).Lo), .int .i64 ((List.getD aNodes (Int.toNat x82) (default : Nd)).Hi)] [(67, .bool (((List.getD aNodes (Int.toNat x82) (default : Nd)).Lo : Int) == ((List.getD aNodes (Int.toNat x82) (default : Nd)).Hi)))] [World.cell? w146 ⟨g141, 1, none⟩ = some (.int .i64 ((List.getD aNodes (Int.toNat x82) (default : Nd)).Lo)), World.cell? w146 ⟨g141, 2, none⟩ = some (.int .i64 ((List.getD aNodes (Int.toNat x82) (default : Nd)).Hi))] E (by kernel_rfl) (by kernel_rfl) ⟨(H.box 5 rfl).cell (j := 1) rfl, (H.box 5 rfl).cell (j := 2) rfl⟩ ?_
   clear E; intro a E
   refine E.cases (t := 67) rfl (fun hb_ E_ => ?_) (fun hb_ E_ => ?_)
   ·
    replace E := E_; clear E_
    have h152 : ((List.getD aNodes (Int.toNat x82) (default : Nd)).Lo : Int) = (List.getD aNodes (Int.toNat x82) (default : Nd)).Hi := eq_of_beq hb_
    clear hb_; replace hP := ite_t h152 hP
    refine vn tbok 24 [] [(91, .bool true)] [] E (by kernel_rfl) (by kernel_rfl) trivial ?_
    clear E; intro a E
    refine wpList_nil ?_
    refine th_n ?_
    refine c_true E rfl ?_
    refine wp_seq ?_
    refine wp_region_lit ?_
    refine vn tbok 1 [] [(2, .int .i64 12)] [] E (by kernel_rfl) (by kernel_rfl) trivial ?_
    clear E; intro a E
    refine wpList_nil ?_
    refine th_n ?_
    refine wp_ret ?_
    refine th_ret ?_
    refine bl_ret ?_
    refine th_ret ?_
    refine th_ret ?_
    refine .inr ⟨rfl, ?_⟩
    refine bl_ret ?_
    refine th_ret ?_
    have hx_ := Option.some.inj hP; subst hx_
    have hP : some (12) = some r := hK133
    obtain rfl := Option.some.inj hP
    refine ret1 E rfl rfl ?_
    exact ⟨_, rfl, rfl, H.sel [] rfl⟩
   replace E := E_; clear E_
   have h153 : ¬ (((List.getD aNodes (Int.toNat x82) (default : Nd)).Lo : Int) = (List.getD aNodes (Int.toNat x82) (default : Nd)).Hi) := ne_of_beq_false hb_
   clear hb_; replace hP := ite_f h153 hP
   refine vn tbok 2 [.agg #[.int .i64 ((List.getD aNodes (Int.toNat x82) (default : Nd)).P), .int .i64 ((List.getD aNodes (Int.toNat x82) (default : Nd)).Lo), .int .i64 ((List.getD aNodes (Int.toNat x82) (default : Nd)).Hi)]] [(68, .map (some g30)), (69, .agg #[.int .i64 ((List.getD aNodes (Int.toNat x82) (default : Nd)).P), .int .i64 ((List.getD aNodes (Int.toNat x82) (default : Nd)).Lo), .int .i64 ((List.getD aNodes (Int.toNat x82) (default : Nd)).Hi)])] [cellsAt w146 g141 (0) [.int .i64 ((List.getD aNodes (Int.toNat x82) (default : Nd)).P), .int .i64 ((List.getD aNodes (Int.toNat x82) (default : Nd)).Lo), .int .i64 ((List.getD aNodes (Int.toNat x82) (default : Nd)).Hi)]] E (by kernel_rfl) (by kernel_rfl) ((H.box 5 rfl).sub 0 _ rfl) ?_
   clear E; intro a E
   obtain ⟨g154, hP⟩ := ask_inv hP
   refine h_lookup1 ndV (fun u_ : Bool => .bool u_) (⟨(List.getD aNodes (Int.toNat x82) (default : Nd)).P, (List.getD aNodes (Int.toNat x82) (default : Nd)).Lo, (List.getD aNodes (Int.toNat x82) (default : Nd)).Hi⟩ : Nd) false H 4 rfl E rfl rfl tbok rfl rfl kNd rfl rfl rfl g154 (fun _ => ⟨_, rfl⟩) ?_
   clear E; intro a E_; replace E := E_ _ rfl; clear E_
   refine vn tbok 2 [] [(72, .bool (Option.getD (mget met81 (⟨(List.getD aNodes (Int.toNat x82) (default : Nd)).P, (List.getD aNodes (Int.toNat x82) (default : Nd)).Lo, (List.getD aNodes (Int.toNat x82) (default : Nd)).Hi⟩ : Nd)) false))] [] E (by kernel_rfl) (by kernel_rfl) trivial ?_
   clear E; intro a E
   refine E.cases (t := 72) rfl (fun hb_ E_ => ?_) (fun hb_ E_ => ?_)
   ·
    replace E := E_; clear E_
    have h155 : (Option.getD (mget met81 (⟨(List.getD aNodes (Int.toNat x82) (default : Nd)).P, (List.getD aNodes (Int.toNat x82) (default : Nd)).Lo, (List.getD aNodes (Int.toNat x82) (default : Nd)).Hi⟩ : Nd)) false) = true := hb_
    clear hb_; replace hP := ite_t h155 hP
    refine vn tbok 19 [] [(91, .bool true)] [] E (by kernel_rfl) (by kernel_rfl) trivial ?_
    clear E; intro a E
    refine wpList_nil ?_
    refine th_n ?_
    refine c_true E rfl ?_
    refine wp_seq ?_
    refine wp_region_lit ?_
    refine vn tbok 1 [] [(2, .int .i64 12)] [] E (by kernel_rfl) (by kernel_rfl) trivial ?_
    clear E; intro a E
    refine wpList_nil ?_
    refine th_n ?_
    refine wp_ret ?_
    refine th_ret ?_
    refine bl_ret ?_
    refine th_ret ?_
    refine th_ret ?_
    refine .inr ⟨rfl, ?_⟩
    refine bl_ret ?_
    refine th_ret ?_
    have hx_ := Option.some.inj hP; subst hx_
    have hP : some (12) = some r := hK133
    obtain rfl := Option.some.inj hP
    refine ret1 E rfl rfl ?_
    exact ⟨_, rfl, rfl, H.sel [] rfl⟩
   replace E := E_; clear E_
   have h156 : ¬ ((Option.getD (mget met81 (⟨(List.getD aNodes (Int.toNat x82) (default : Nd)).P, (List.getD aNodes (Int.toNat x82) (default : Nd)).Lo, (List.getD aNodes (Int.toNat x82) (default : Nd)).Hi⟩ : Nd)) false) = true) := (ne_true_of_eq_false hb_)
   clear hb_; replace hP := ite_f h156 hP
   refine vn tbok 6 [.agg #[.int .i64 aProps, .slice A1 (List.length aAccept) c2, .slice A5 (List.length aGuard) c6, .slice (some ⟨b139, o140, none⟩) (List.length aNodes) c10], .int .i64 ((List.getD aNodes (Int.toNat x82) (default : Nd)).Lo), .int .i64 ((List.getD aNodes (Int.toNat x82) (default : Nd)).P)] [(73, .agg #[.int .i64 aProps, .slice A1 (List.length aAccept) c2, .slice A5 (List.length aGuard) c6, .slice (some ⟨b139, o140, none⟩) (List.length aNodes) c10]), (75, .int .i64 ((List.getD aNodes (Int.toNat x82) (default : Nd)).Lo)), (76, .int .i64 x82), (78, .int .i64 ((List.getD aNodes (Int.toNat x82) (default : Nd)).P))] [cellsAt w146 g13 (0) [.int .i64 aProps, .slice A1 (List.length aAccept) c2, .slice A5 (List.length aGuard) c6, .slice (some ⟨b139, o140, none⟩) (List.length aNodes) c10], World.cell? w146 ⟨g141, 1, none⟩ = some (.int .i64 ((List.getD aNodes (Int.toNat x82) (default : Nd)).Lo)), World.cell? w146 ⟨g141, 0, none⟩ = some (.int .i64 ((List.getD aNodes (Int.toNat x82) (default : Nd)).P))] E (by kernel_rfl) (by kernel_rfl) ⟨(H.box 3 rfl).sub 0 _ rfl, (H.box 5 rfl).cell (j := 1) rfl, (H.box 5 rfl).cell (j := 0) rfl⟩ ?_
   clear E; intro a E
   obtain ⟨r157, h158, hP⟩ := bind_inv hP
   obtain ⟨Fa159, Hc160, hb161⟩ := H.call [] [(0, false), (1, false), (2, false)] rfl rfl trivial
   refine e_call E rfl rfl Try.func51 rfl rfl rfl (guard_good_calls A1 c2 A5 c6 (some ⟨b139, o140, none⟩) c10 aProps aAccept aGuard aNodes ((List.getD aNodes (Int.toNat x82) (default : Nd)).Lo) x82 ((List.getD aNodes (Int.toNat x82) (default : Nd)).P) hk3 hk7 hk11 Hc160 h158) ?_
   rintro v162 w163 a ⟨rfl, HR164⟩ E_
   replace E := E_ _ rfl; clear E_
   obtain ⟨H_, hc165⟩ := hb161 _ _ HR164 rfl
   replace H := H_; clear H_; try dsimp only [setn, addE, goneL] at H
   refine vn tbok 3 [] [(82, .bool (!r157))] [] E (by kernel_rfl) (by kernel_rfl) trivial ?_
   clear E; intro a E
   refine E.cases (t := 82) rfl (fun hb_ E_ => ?_) (fun hb_ E_ => ?_)
   ·
    replace E := E_; clear E_
    have h166 : ¬ (r157 = true) := (ne_true_of_eq_false (not_t hb_))
    clear hb_; replace hP := ite_f h166 hP
    refine vn tbok 9 [] [(91, .bool true)] [] E (by kernel_rfl) (by kernel_rfl) trivial ?_
    clear E; intro a E
    refine wpList_nil ?_
    refine th_n ?_
    refine c_true E rfl ?_
    refine wp_seq ?_
    refine wp_region_lit ?_
    refine vn tbok 1 [] [(2, .int .i64 12)] [] E (by kernel_rfl) (by kernel_rfl) trivial ?_
    clear E; intro a E
    refine wpList_nil ?_
    refine th_n ?_
    refine wp_ret ?_
    refine th_ret ?_
    refine bl_ret ?_
    refine th_ret ?_
    refine th_ret ?_
    refine .inr ⟨rfl, ?_⟩
    refine bl_ret ?_
    refine th_ret ?_
    have hx_ := Option.some.inj hP; subst hx_
    have hP : some (12) = some r := hK133
    obtain rfl := Option.some.inj hP
    refine ret1 E rfl rfl ?_
    exact ⟨_, rfl, rfl, H.sel [] rfl⟩
   replace E := E_; clear E_
   have h167 : r157 = true := (not_f hb_)
   clear hb_; replace hP := ite_t h167 hP
   refine vn tbok 6 [.agg #[.int .i64 aProps, .slice A1 (List.length aAccept) c2, .slice A5 (List.length aGuard) c6, .slice (some ⟨b139, o140, none⟩) (List.length aNodes) c10], .int .i64 ((List.getD aNodes (Int.toNat x82) (default : Nd)).Hi), .int .i64 ((List.getD aNodes (Int.toNat x82) (default : Nd)).P)] [(83, .agg #[.int .i64 aProps, .slice A1 (List.length aAccept) c2, .slice A5 (List.length aGuard) c6, .slice (some ⟨b139, o140, none⟩) (List.length aNodes) c10]), (85, .int .i64 ((List.getD aNodes (Int.toNat x82) (default : Nd)).Hi)), (86, .int .i64 x82), (88, .int .i64 ((List.getD aNodes (Int.toNat x82) (default : Nd)).P))] [cellsAt w163 g13 (0) [.int .i64 aProps, .slice A1 (List.length aAccept) c2, .slice A5 (List.length aGuard) c6, .slice (some ⟨b139, o140, none⟩) (List.length aNodes) c10], World.cell? w163 ⟨g141, 2, none⟩ = some (.int .i64 ((List.getD aNodes (Int.toNat x82) (default : Nd)).Hi)), World.cell? w163 ⟨g141, 0, none⟩ = some (.int .i64 ((List.getD aNodes (Int.toNat x82) (default : Nd)).P))] E (by kernel_rfl) (by kernel_rfl) ⟨(H.box 3 rfl).sub 0 _ rfl, (H.box 5 rfl).cell (j := 2) rfl, (H.box 5 rfl).cell (j := 0) rfl⟩ ?_
   clear E; intro a E
   obtain ⟨r168, h169, hP⟩ := bind_inv hP
   obtain ⟨Fa170, Hc171, hb172⟩ := H.call [] [(0, false), (1, false), (2, false)] rfl rfl trivial
   refine e_call E rfl rfl Try.func51 rfl rfl rfl (guard_good_calls A1 c2 A5 c6 (some ⟨b139, o140, none⟩) c10 aProps aAccept aGuard aNodes ((List.getD aNodes (Int.toNat x82) (default : Nd)).Hi) x82 ((List.getD aNodes (Int.toNat x82) (default : Nd)).P) hk3 hk7 hk11 Hc171 h169) ?_
   rintro v173 w174 a ⟨rfl, HR175⟩ E_
   replace E := E_ _ rfl; clear E_
   obtain ⟨H_, hc176⟩ := hb172 _ _ HR175 rfl
   replace H := H_; clear H_; try dsimp only [setn, addE, goneL] at H
   refine vn tbok 2 [] [(91, .bool (!r168))] [] E (by kernel_rfl) (by kernel_rfl) trivial ?_
   clear E; intro a E
   refine wpList_nil ?_
   refine th_n ?_
   refine E.cases (t := 91) rfl (fun hb_ E_ => ?_) (fun hb_ E_ => ?_)
   ·
    replace E := E_; clear E_
    have h177 : ¬ (r168 = true) := (ne_true_of_eq_false (not_t hb_))
    clear hb_; replace hP := ite_f h177 hP
    refine c_true E rfl ?_
    refine wp_seq ?_
    refine wp_region_lit ?_
    refine vn tbok 1 [] [(2, .int .i64 12)] [] E (by kernel_rfl) (by kernel_rfl) trivial ?_
    clear E; intro a E
    refine wpList_nil ?_
    refine th_n ?_
    refine wp_ret ?_
    refine th_ret ?_
    refine bl_ret ?_
    refine th_ret ?_
    refine th_ret ?_
    refine .inr ⟨rfl, ?_⟩
    refine bl_ret ?_
    refine th_ret ?_
    have hx_ := Option.some.inj hP; subst hx_
    have hP : some (12) = some r := hK133
    obtain rfl := Option.some.inj hP
    refine ret1 E rfl rfl ?_
    exact ⟨_, rfl, rfl, H.sel [] rfl⟩
   replace E := E_; clear E_
   have h178 : r168 = true := (not_f hb_)
   clear hb_; replace hP := ite_t h178 hP
   refine c_false E rfl ?_
   refine wp_skip ?_
   refine th_n ?_
   refine wp_region_lit ?_
   refine vn tbok 2 [.agg #[.int .i64 ((List.getD aNodes (Int.toNat x82) (default : Nd)).P), .int .i64 ((List.getD aNodes (Int.toNat x82) (default : Nd)).Lo), .int .i64 ((List.getD aNodes (Int.toNat x82) (default : Nd)).Hi)]] [(92, .map (some g30)), (93, .agg #[.int .i64 ((List.getD aNodes (Int.toNat x82) (default : Nd)).P), .int .i64 ((List.getD aNodes (Int.toNat x82) (default : Nd)).Lo), .int .i64 ((List.getD aNodes (Int.toNat x82) (default : Nd)).Hi)])] [cellsAt w174 g141 (0) [.int .i64 ((List.getD aNodes (Int.toNat x82) (default : Nd)).P), .int .i64 ((List.getD aNodes (Int.toNat x82) (default : Nd)).Lo), .int .i64 ((List.getD aNodes (Int.toNat x82) (default : Nd)).Hi)]] E (by kernel_rfl) (by kernel_rfl) ((H.box 5 rfl).sub 0 _ rfl) ?_
   clear E; intro a E
   obtain ⟨g179, hP⟩ := ask_inv hP
   refine h_mapUpdate ndV (fun u_ : Bool => .bool u_) (⟨(List.getD aNodes (Int.toNat x82) (default : Nd)).P, (List.getD aNodes (Int.toNat x82) (default : Nd)).Lo, (List.getD aNodes (Int.toNat x82) (default : Nd)).Hi⟩ : Nd) true H 4 rfl E rfl rfl tbok rfl kNd rfl rfl rfl g154 g179 rfl ?_
   clear E; intro w180 a hc181 H_ E
   replace H := H_; clear H_; try dsimp only [setn, addE, goneL] at H
   refine wpList_nil ?_
   refine bl_n ?_
   refine th_n ?_
   refine wp_region_lit ?_
   obtain ⟨g182, hP⟩ := ask_inv hP
   refine vn tbok 2 [.int .i64 (x82 + 1)] [(45, .int .i64 (x82 + 1))] [IntKind.i64.wrap (x82 + 1) = x82 + 1] E (by kernel_rfl) (by kernel_rfl) (wrap_in g182) ?_
   clear E; intro a E
   refine wpList_nil ?_
   exact th_n ⟨m130, Nat.lt_succ_self _, met81 ++ [((⟨(List.getD aNodes (Int.toNat x82) (default : Nd)).P, (List.getD aNodes (Int.toNat x82) (default : Nd)).Lo, (List.getD aNodes (Int.toNat x82) (default : Nd)).Hi⟩ : Nd), true)], x82 + 1, E.pick _ ⟨rfl, rfl, rfl, rfl, rfl, trivial⟩, H.sel [0, 1, 2, 3, 4] rfl, hP⟩
  replace E := E_; clear E_
  have h183 : ¬ (x82 < (((List.length aNodes) : Nat) : Int)) := of_decide_eq_false hb_
  clear hb_; replace hP := ite_f h183 hP
  refine c_false E rfl ?_
  refine wp_exit ?_
  refine th_exit ?_
  have hx_ := Option.some.inj hP
  refine th_exit (.inl ⟨0, rfl, ?_⟩)
  exact ⟨rfl, (), E.pick _ ⟨rfl, trivial⟩, H.sel [0, 1, 2, 3] rfl, hx_.symm⟩
 clear E H hL132; intro i_ a w134 hM_
 obtain ⟨rfl, x136, E, H, hx_⟩ := hM_
 subst hx_; have hP := elim_l hK133
 clear hK133
 refine bl_hit ?_
 refine th_n ?_
 refine wp_seq ?_
 refine wp_seq ?_
 refine wp_region_lit ?_
 refine vn tbok 4 [.slice A5 (List.length aGuard) c6] [(96, .slice A5 (List.length aGuard) c6), (97, .int .i64 (((List.length aGuard) : Nat) : Int)), (98, .int .i64 0)] [World.cell? w134 ⟨g13, 2, none⟩ = some (.slice A5 (List.length aGuard) c6)] E (by kernel_rfl) (by kernel_rfl) ((H.box 3 rfl).cell (j := 2) rfl) ?_
 clear E; intro a E
 refine wpList_nil ?_
 refine th_n ?_
 refine wp_block ?_
 obtain ⟨x220, hL221, hK222⟩ := bind_inv hP
 clear hP
 refine loop_cut (fun i_ a w_ => (i_ = 2 ∧ ∃ (x225 : Unit), Fr a 110 [] ∧ Hp S Fa w0 w_ [] ∧ x220 = Sum.inl x225)) ?_ ?_
 ·
  refine loopV (fun m224 a w223 => ∃ (x201 : Int), Fr a 110 [(1, .pointer (some ⟨g13, 0, none⟩)), (96, .slice A5 (List.length aGuard) c6), (97, .int .i64 (((List.length aGuard) : Nat) : Int)), (98, .int .i64 x201)] ∧ Hp S Fa w0 w223 [.ro false cBool A1 aAccept, .ro false (cInt .i64) A5 aGuard, .ro false cNode A9 aNodes, .box g13 43 [.int .i64 aProps, .slice A1 (List.length aAccept) c2, .slice A5 (List.length aGuard) c6, .slice A9 (List.length aNodes) c10]] ∧ guard_Check_l1 N aProps aAccept aGuard aNodes m224 x201 = some x220) N ?_ ?_
  ·
   exact ⟨0, E.pick _ ⟨rfl, rfl, rfl, rfl, trivial⟩, H.sel [0, 1, 2, 3] rfl, hL221⟩
  clear E H hL221; intro m224 a w223 hI_
  obtain ⟨x201, E, H, hP⟩ := hI_
  obtain ⟨m219, rfl⟩ : ∃ q_, m224 = q_ + 1 := by cases m224 with | zero => rw [guard_Check_l1] at hP; cases hP | succ q_ => exact ⟨q_, rfl⟩
  rw [guard_Check_l1] at hP
  refine wp_seq ?_
  refine wp_region_lit ?_
  refine vn tbok 1 [] [(99, .bool (decide (x201 < (((List.length aGuard) : Nat) : Int))))] [] E (by kernel_rfl) (by kernel_rfl) trivial ?_
  clear E; intro a E
  refine wpList_nil ?_
  refine th_n ?_
  refine wp_seq ?_
  refine E.cases (t := 99) rfl (fun hb_ E_ => ?_) (fun hb_ E_ => ?_)
  ·
   replace E := E_; clear E_
   have h226 : x201 < (((List.length aGuard) : Nat) : Int) := of_decide_eq_true hb_
   clear hb_; replace hP := ite_t h226 hP
   refine c_true E rfl ?_
   refine wp_skip ?_
   refine th_n ?_
   refine wp_seq ?_
   refine wp_block ?_
   refine wp_seq ?_
   refine wp_region_lit ?_
   obtain ⟨g227, hP⟩ := ask_inv hP
   obtain ⟨b228, o229, e_b228⟩ := (H.rd 1 rds_ro).addr (idx_pos g227)
   subst e_b228
   refine vn tbok 3 [.int .i64 (List.getD aGuard (Int.toNat x201) 0)] [(8, .int .i64 (List.getD aGuard (Int.toNat x201) 0))] [0 ≤ x201 ∧ x201 < (((List.length aGuard) : Nat) : Int), World.cell? w223 ⟨b228, o229 + (Int.toNat x201) * 1, none⟩ = some (.int .i64 (List.getD aGuard (Int.toNat x201) 0))] E (by kernel_rfl) (by kernel_rfl) ⟨g227, Rds.at1 (H.rd 1 rds_ro) 0 g227⟩ ?_
   clear E; intro a E
   refine wpList_nil ?_
   refine th_n ?_
   refine wp_seq ?_
   refine wp_region_lit ?_
   refine vn tbok 5 [.agg #[.int .i64 aProps, .slice A1 (List.length aAccept) c2, .slice (some ⟨b228, o229, none⟩) (List.length aGuard) c6, .slice A9 (List.length aNodes) c10], .slice A9 (List.length aNodes) c10] [(102, .agg #[.int .i64 aProps, .slice A1 (List.length aAccept) c2, .slice (some ⟨b228, o229, none⟩) (List.length aGuard) c6, .slice A9 (List.length aNodes) c10]), (103, .int .i64 (List.getD aGuard (Int.toNat x201) 0)), (106, .int .i64 (((List.length aNodes) : Nat) : Int))] [cellsAt w223 g13 (0) [.int .i64 aProps, .slice A1 (List.length aAccept) c2, .slice (some ⟨b228, o229, none⟩) (List.length aGuard) c6, .slice A9 (List.length aNodes) c10], World.cell? w223 ⟨g13, 3, none⟩ = some (.slice A9 (List.length aNodes) c10)] E (by kernel_rfl) (by kernel_rfl) ⟨(H.box 3 rfl).sub 0 _ rfl, (H.box 3 rfl).cell (j := 3) rfl⟩ ?_
   clear E; intro a E
   obtain ⟨r230, h231, hP⟩ := bind_inv hP
   obtain ⟨Fa232, Hc233, hb234⟩ := H.call [] [(0, false), (1, false), (2, false)] rfl rfl trivial
   refine e_call E rfl rfl Try.func51 rfl rfl rfl (guard_good_calls A1 c2 (some ⟨b228, o229, none⟩) c6 A9 c10 aProps aAccept aGuard aNodes (List.getD aGuard (Int.toNat x201) 0) (((List.length aNodes) : Nat) : Int) (-1) hk3 hk7 hk11 Hc233 h231) ?_
   rintro v235 w236 a ⟨rfl, HR237⟩ E_
   replace E := E_ _ rfl; clear E_
   obtain ⟨H_, hc238⟩ := hb234 _ _ HR237 rfl
   replace H := H_; clear H_; try dsimp only [setn, addE, goneL] at H
   refine vn tbok 1 [] [(108, .bool (!r230))] [] E (by kernel_rfl) (by kernel_rfl) trivial ?_
   clear E; intro a E
   refine wpList_nil ?_
   refine th_n ?_
   refine E.cases (t := 108) rfl (fun hb_ E_ => ?_) (fun hb_ E_ => ?_)
   ·
    replace E := E_; clear E_
    have h239 : ¬ (r230 = true) := (ne_true_of_eq_false (not_t hb_))
    clear hb_; replace hP := ite_f h239 hP
    refine c_true E rfl ?_
    refine wp_seq ?_
    refine wp_region_lit ?_
    refine vn tbok 1 [] [(2, .int .i64 12)] [] E (by kernel_rfl) (by kernel_rfl) trivial ?_
    clear E; intro a E
    refine wpList_nil ?_
    refine th_n ?_
    refine wp_ret ?_
    refine bl_ret ?_
    refine th_ret ?_
    refine th_ret ?_
    refine .inr ⟨rfl, ?_⟩
    refine bl_ret ?_
    refine th_ret ?_
    have hx_ := Option.some.inj hP; subst hx_
    have hP : some (12) = some r := hK222
    obtain rfl := Option.some.inj hP
    refine ret1 E rfl rfl ?_
    exact ⟨_, rfl, rfl, H.sel [] rfl⟩
   replace E := E_; clear E_
   have h240 : r230 = true := (not_f hb_)
   clear hb_; replace hP := ite_t h240 hP
   refine c_false E rfl ?_
   refine wp_skip ?_
   refine bl_n ?_
   refine th_n ?_
   refine wp_region_lit ?_
   obtain ⟨g241, hP⟩ := ask_inv hP
   refine vn tbok 2 [.int .i64 (x201 + 1)] [(98, .int .i64 (x201 + 1))] [IntKind.i64.wrap (x201 + 1) = x201 + 1] E (by kernel_rfl) (by kernel_rfl) (wrap_in g241) ?_
   clear E; intro a E
   refine wpList_nil ?_
   exact th_n ⟨m219, Nat.lt_succ_self _, x201 + 1, E.pick _ ⟨rfl, rfl, rfl, rfl, trivial⟩, H.sel [0, 1, 2, 3] rfl, hP⟩
  replace E := E_; clear E_
  have h242 : ¬ (x201 < (((List.length aGuard) : Nat) : Int)) := of_decide_eq_false hb_
  clear hb_; replace hP := ite_f h242 hP
  refine c_false E rfl ?_
  refine wp_exit ?_
  refine th_exit ?_
  have hx_ := Option.some.inj hP
  refine th_exit (.inl ⟨2, rfl, ?_⟩)
  exact ⟨rfl, (), E.pick _ trivial, H.sel [] rfl, hx_.symm⟩
 clear E H hL221; intro i_ a w223 hM_
 obtain ⟨rfl, x225, E, H, hx_⟩ := hM_
 subst hx_; have hP := elim_l hK222
 clear hK222
 refine bl_hit ?_
 refine th_n ?_
 refine wp_seq ?_
 refine wp_region_lit ?_
 refine vn tbok 1 [] [(2, .int .i64 0)] [] E (by kernel_rfl) (by kernel_rfl) trivial ?_
 clear E; intro a E
 refine wpList_nil ?_
 refine th_n ?_
 refine wp_ret ?_
 obtain rfl := Option.some.inj hP
 refine ret1 E rfl rfl ?_
 exact ⟨_, rfl, rfl, H.sel [] rfl⟩

end Go.V
