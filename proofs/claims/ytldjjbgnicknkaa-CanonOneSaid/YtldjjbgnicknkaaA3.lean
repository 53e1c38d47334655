/- Plain functions, and the calls that give them. -/
import Derived.Test.YtldjjbgnicknkaaA2
set_option linter.all false
set_option linter.unusedVariables false
set_option linter.unnecessarySimpa false
set_option linter.unusedSimpArgs false
namespace Go.V
open Go Go.Proofs
/-! rejoinder/part.classes -/
def part_classes_l0 (N : Nat) (aAccept : List Bool) : Nat → (List Int) → Int → Option (List Int)
  | 0, _, _ => none
  | m110 + 1, of91, x92 =>
    if x92 < (((List.length aAccept) : Nat) : Int) then
      ask (idx x92 (List.length aAccept)) <|
      ask (idx (0 : Int) (List.length aAccept)) <|
      if (List.getD aAccept (Int.toNat x92) false) = (List.getD aAccept (Int.toNat (0 : Int)) false) then
        ask (in64 (x92 + 1)) <|
        part_classes_l0 N aAccept m110 of91 (x92 + 1)
      else
        ask (idx x92 (List.length of91)) <|
        ask (in64 (x92 + 1)) <|
        part_classes_l0 N aAccept m110 (List.set of91 (Int.toNat x92) 1) (x92 + 1)
    else
      some of91
def part_classes_l3 (N : Nat) (r18 : List (List Int)) (of281 : List Int) (x545 : Int) : Nat → (List Int) → Int → Option (List Int)
  | 0, _, _ => none
  | m662 + 1, s648, x649 =>
    if x649 < (((List.length (List.getD r18 (Int.toNat x545) [])) : Nat) : Int) then
      ask (idx x649 (List.length (List.getD r18 (Int.toNat x545) []))) <|
      ask (in64 (1 + x649)) <|
      ask (idx (List.getD (List.getD r18 (Int.toNat x545) []) (Int.toNat x649) 0) (List.length of281)) <|
      ask (idx (1 + x649) 257) <|
      ask (in64 (x649 + 1)) <|
      part_classes_l3 N r18 of281 x545 m662 (List.set s648 (Int.toNat (1 + x649)) (List.getD of281 (Int.toNat (List.getD (List.getD r18 (Int.toNat x545) []) (Int.toNat x649) 0)) 0)) (x649 + 1)
    else
      some s648
def part_classes_l2 (N : Nat) (r18 : List (List Int)) (of281 : List Int) : Nat → (List ((List Int) × Int)) → (List Int) → Int → Option ((List ((List Int) × Int)) × (List Int))
  | 0, _, _, _ => none
  | m612 + 1, numbers543, next544, x545 =>
    if x545 < (((List.length of281) : Nat) : Int) then
      ask (idx x545 (List.length of281)) <|
      ask (idx (0 : Int) 257) <|
      ask (idx x545 (List.length r18)) <|
      Option.bind (part_classes_l3 N r18 of281 x545 N (List.set (List.replicate 257 (0 : Int)) (Int.toNat (0 : Int)) (List.getD of281 (Int.toNat x545) 0)) 0) fun x663 =>
      ask (arrOk 257 x663) <|
      if (Option.isSome (mget numbers543 x663)) = true then
        ask (idx x545 (List.length next544)) <|
        ask (in64 (x545 + 1)) <|
        part_classes_l2 N r18 of281 m612 numbers543 (List.set next544 (Int.toNat x545) (Option.getD (mget numbers543 x663) 0)) (x545 + 1)
      else
        ask (mget numbers543 x663 = none) <|
        ask (idx x545 (List.length next544)) <|
        ask (in64 (x545 + 1)) <|
        part_classes_l2 N r18 of281 m612 (numbers543 ++ [(x663, ((List.length numbers543 : Nat) : Int))]) (List.set next544 (Int.toNat x545) ((List.length numbers543 : Nat) : Int)) (x545 + 1)
    else
      some (numbers543, next544)
def part_classes_l1 (N : Nat) (aAccept : List Bool) (r18 : List (List Int)) : Nat → (List Int) → Int → Option (List Int)
  | 0, _, _ => none
  | m432 + 1, of281, many283 =>
    Option.bind (part_classes_l2 N r18 of281 N ([] : List ((List Int) × Int)) (List.replicate (Int.toNat (((List.length aAccept) : Nat) : Int)) (0 : Int)) 0) fun x613 =>
    if (((List.length x613.1 : Nat) : Int) : Int) = many283 then
      some x613.2
    else
      part_classes_l1 N aAccept r18 m432 x613.2 ((List.length x613.1 : Nat) : Int)
def part_classes (N : Nat) (aProps : Int) (aAccept : List Bool) (aGuard : List Int) (aNodes : List Nd) : Option (List Int) :=
  Option.bind (part_rows N aProps aAccept aGuard aNodes) fun r18 =>
  ask (0 ≤ (((List.length aAccept) : Nat) : Int) ∧ (((List.length aAccept) : Nat) : Int) ≤ 1000000000) <|
  Option.bind (part_classes_l0 N aAccept N (List.replicate (Int.toNat (((List.length aAccept) : Nat) : Int)) (0 : Int)) 0) fun x111 =>
  Option.bind (part_classes_l1 N aAccept r18 N x111 0) fun x433 =>
  some x433
set_option maxRecDepth 100000 in
set_option maxHeartbeats 4000000 in
theorem part_classes_calls {N : Nat} {S Fa : Nat → Prop} {w0 : World} {r : List Int} (A1 : Option Addr) (c2 : Nat) (A5 : Option Addr) (c6 : Nat) (A9 : Option Addr) (c10 : Nat) (aProps : Int) (aAccept : List Bool) (aGuard : List Int) (aNodes : List Nd) (hk3 : List.length aAccept ≤ c2) (hk7 : List.length aGuard ≤ c6) (hk11 : List.length aNodes ≤ c10) (H : Hp S Fa w0 w0 [.ro false cBool A1 aAccept, .ro false (cInt .i64) A5 aGuard, .ro false cNode A9 aNodes]) (hP : part_classes N aProps aAccept aGuard aNodes = some r) :
    Calls Try.prog 53 #[.agg #[.int .i64 aProps, .slice A1 (List.length aAccept) c2, .slice A5 (List.length aGuard) c6, .slice A9 (List.length aNodes) c10]] w0 fun e w' => ∃ v, e = .returned v ∧ ∃ (A703 : Option Addr) (c704 : Nat), v = .slice A703 (List.length r) c704 ∧ Hp S Fa w0 w' [.row true (cInt .i64) 3 A703 c704 r] := by
 refine enterV (n := 99) Try.func53 rfl rfl rfl ?_
 intro a E
 replace E := E.pick [(0, .agg #[.int .i64 aProps, .slice A1 (List.length aAccept) c2, .slice A5 (List.length aGuard) c6, .slice A9 (List.length aNodes) c10])] ⟨rfl, trivial⟩
 rw [part_classes] at hP
 refine wp_seq ?_
 refine wp_region_lit ?_
 refine h_box H E rfl rfl rfl ?_
 intro w14 g13 a hc15 hg17 H_ E_
 replace E := E_ _ rfl; clear E_
 replace H := H_; clear H_; try dsimp only [setn, addE, goneL] at H
 refine vr tbok 1 [] [(1, .pointer (some ⟨g13, 0, none⟩))] [] E (by kernel_rfl) trivial ?_
 clear E; intro a E
 refine wpList_nil ?_
 refine th_n ?_
 refine wp_seq ?_
 refine wp_region_lit ?_
 refine vr tbok 4 [.slice A1 (List.length aAccept) c2] [(1, .pointer (some ⟨g13, 0, none⟩)), (3, .int .i64 (((List.length aAccept) : Nat) : Int))] [World.cell? w14 ⟨g13, 1, none⟩ = some (.slice A1 (List.length aAccept) c2)] E (by kernel_rfl) ((H.box 3 rfl).cell (j := 1) rfl) ?_
 clear E; intro a E
 refine wpList_nil ?_
 refine th_n ?_
 refine wp_seq ?_
 obtain ⟨r18, h19, hP⟩ := bind_inv hP
 obtain ⟨g30, hP⟩ := ask_inv hP
 refine meet_cut (fun a w41 => ∃ (A37 : Option Addr) (c38 : Nat) (A40 : Option Addr), Fr a 99 [(1, .pointer (some ⟨g13, 0, none⟩)), (3, .int .i64 (((List.length aAccept) : Nat) : Int)), (4, .slice A37 (List.length r18) c38), (5, .slice A40 (List.length (List.replicate (Int.toNat (((List.length aAccept) : Nat) : Int)) (0 : Int))) (Int.toNat (((List.length aAccept) : Nat) : Int)))] ∧ Hp S Fa w0 w41 [.ro false cBool A1 aAccept, .ro false (cInt .i64) A5 aGuard, .ro false cNode A9 aNodes, .box g13 26 [.int .i64 aProps, .slice A1 (List.length aAccept) c2, .slice A5 (List.length aGuard) c6, .slice A9 (List.length aNodes) c10], .row true (cSl (cInt .i64)) 23 A37 c38 r18, .rowx true (cInt .i64) 3 A40 (Int.toNat (((List.length aAccept) : Nat) : Int)) (List.replicate (Int.toNat (((List.length aAccept) : Nat) : Int)) (0 : Int)) (List.replicate (Int.toNat (((List.length aAccept) : Nat) : Int) - Int.toNat (((List.length aAccept) : Nat) : Int)) (0 : Int))]) ?_ ?_
 ·
  have HR45 := H
  refine dr_start (S := fun w_ => Chg (atL []) w14 w_) (by kernel_rfl) ?_
  intro w42 hc43
  have HS44 : Chg (atL []) w14 w42 := hc43.mono (fun _ _ h_ => h_.elim)
  replace H := H.ext hc43
  refine dr tbok (by kernel_rfl) [0, 2] [.agg #[.int .i64 aProps, .slice A1 (List.length aAccept) c2, .slice A5 (List.length aGuard) c6, .slice A9 (List.length aNodes) c10]] [(1, .pointer (some ⟨g13, 0, none⟩)), (3, .int .i64 (((List.length aAccept) : Nat) : Int)), (20, .agg #[.int .i64 aProps, .slice A1 (List.length aAccept) c2, .slice A5 (List.length aGuard) c6, .slice A9 (List.length aNodes) c10]), (22, .int .i64 (((List.length aAccept) : Nat) : Int))] (fun w_ => [cellsAt w_ g13 (0) [.int .i64 aProps, .slice A1 (List.length aAccept) c2, .slice A5 (List.length aGuard) c6, .slice A9 (List.length aNodes) c10]]) 4 E (fun _ _ => by kernel_rfl) (fun w_ hS_ => ((HR45.boxk [] hS_ 3 rfl rfl).sub 0 _ rfl)) (by kernel_rfl) HS44 ?_
  clear E; intro a E
  refine wpAnyH_all (rs := [1, 3]) (by kernel_rfl) (by simp) ?_
  refine all2 ?_ ?_
  ·
   refine wpOp_of_list rfl ?_
   obtain ⟨Fa46, Hc47, hb48⟩ := H.call [] [(0, false), (1, false), (2, false)] rfl rfl trivial
   refine e_call E rfl rfl Try.func54 rfl rfl rfl (part_rows_calls A1 c2 A5 c6 A9 c10 aProps aAccept aGuard aNodes hk3 hk7 hk11 Hc47 h19) ?_
   rintro v49 w50 a ⟨A53, c54, rfl, HR51⟩ E_
   replace E := E_ _ rfl; clear E_
   obtain ⟨H_, hc52⟩ := hb48 _ _ HR51 rfl
   replace HS44 := HS44.ext (callS_ext hc52)
   replace H := H_; clear H_; try dsimp only [setn, addE, goneL] at H
   refine wpList_nil ?_
   refine th_n ⟨HS44, ?_⟩
   refine dr tbok (by kernel_rfl) [4] [] [(1, .pointer (some ⟨g13, 0, none⟩)), (3, .int .i64 (((List.length aAccept) : Nat) : Int)), (4, .slice A53 (List.length r18) c54), (22, .int .i64 (((List.length aAccept) : Nat) : Int))] (fun w_ => []) 2 E (fun _ _ => by kernel_rfl) (fun w_ hS_ => trivial) (by kernel_rfl) HS44 ?_
   clear E; intro a E
   refine wpAnyH_all (rs := [3]) (by kernel_rfl) (by simp) ?_
   refine all1 ?_
   refine wpOp_of_list rfl ?_
   refine h_make (cInt .i64) (0 : Int) H E rfl rfl tbok rfl rfl rfl rfl ⟨g30.1, Int.le_refl _, g30.2⟩ rfl rfl rfl (fun _ _ => rfl) ?_
   intro w57 g56 a hc58 hg60 H_ E_
   replace E := E_ _ rfl; clear E_
   have hin61 : ∀ q_, q_ < w14.heap.size → At (some ⟨g56, 0, none⟩) q_ → (atL []) q_ := fun q_ h1_ h2_ => by have hs_ := HS44.size; have h4_ : q_ = g56 := At.of_g h2_; exfalso; omega
   replace HS44 := HS44.ext hc58
   replace H := H_; clear H_; try dsimp only [setn, addE, goneL] at H
   refine wpList_nil ?_
   refine th_n ⟨HS44, ?_⟩
   refine dr tbok (by kernel_rfl) [5] [] [(1, .pointer (some ⟨g13, 0, none⟩)), (3, .int .i64 (((List.length aAccept) : Nat) : Int)), (4, .slice A53 (List.length r18) c54), (5, .slice (some ⟨g56, 0, none⟩) (List.length (List.replicate (Int.toNat (((List.length aAccept) : Nat) : Int)) (0 : Int))) (Int.toNat (((List.length aAccept) : Nat) : Int)))] (fun w_ => []) 0 E (fun _ _ => by kernel_rfl) (fun w_ hS_ => trivial) (by kernel_rfl) HS44 ?_
   clear E; intro a E
   refine dr_done (by kernel_rfl) ?_
   exact .inl ⟨rfl, A53, c54, (some ⟨g56, 0, none⟩), E.pick _ ⟨rfl, rfl, rfl, rfl, trivial⟩, H.sel [0, 1, 2, 3, 4, 5] rfl⟩
  refine wpOp_of_list rfl ?_
  refine h_make (cInt .i64) (0 : Int) H E rfl rfl tbok rfl rfl rfl rfl ⟨g30.1, Int.le_refl _, g30.2⟩ rfl rfl rfl (fun _ _ => rfl) ?_
  intro w63 g62 a hc64 hg66 H_ E_
  replace E := E_ _ rfl; clear E_
  have hin67 : ∀ q_, q_ < w14.heap.size → At (some ⟨g62, 0, none⟩) q_ → (atL []) q_ := fun q_ h1_ h2_ => by have hs_ := HS44.size; have h4_ : q_ = g62 := At.of_g h2_; exfalso; omega
  replace HS44 := HS44.ext hc64
  replace H := H_; clear H_; try dsimp only [setn, addE, goneL] at H
  refine wpList_nil ?_
  refine th_n ⟨HS44, ?_⟩
  refine wpAnyH_all (rs := [1]) (by kernel_rfl) (by simp) ?_
  refine all1 ?_
  refine wpOp_of_list rfl ?_
  obtain ⟨Fa68, Hc69, hb70⟩ := H.call [] [(0, false), (1, false), (2, false)] rfl rfl trivial
  refine e_call E rfl rfl Try.func54 rfl rfl rfl (part_rows_calls A1 c2 A5 c6 A9 c10 aProps aAccept aGuard aNodes hk3 hk7 hk11 Hc69 h19) ?_
  rintro v71 w72 a ⟨A75, c76, rfl, HR73⟩ E_
  replace E := E_ _ rfl; clear E_
  obtain ⟨H_, hc74⟩ := hb70 _ _ HR73 rfl
  replace HS44 := HS44.ext (callS_ext hc74)
  replace H := H_; clear H_; try dsimp only [setn, addE, goneL] at H
  refine wpList_nil ?_
  refine th_n ⟨HS44, ?_⟩
  refine dr tbok (by kernel_rfl) [4, 5] [] [(1, .pointer (some ⟨g13, 0, none⟩)), (3, .int .i64 (((List.length aAccept) : Nat) : Int)), (4, .slice A75 (List.length r18) c76), (5, .slice (some ⟨g62, 0, none⟩) (List.length (List.replicate (Int.toNat (((List.length aAccept) : Nat) : Int)) (0 : Int))) (Int.toNat (((List.length aAccept) : Nat) : Int)))] (fun w_ => []) 0 E (fun _ _ => by kernel_rfl) (fun w_ hS_ => trivial) (by kernel_rfl) HS44 ?_
  clear E; intro a E
  refine dr_done (by kernel_rfl) ?_
  exact .inl ⟨rfl, A75, c76, (some ⟨g62, 0, none⟩), E.pick _ ⟨rfl, rfl, rfl, rfl, trivial⟩, H.sel [0, 1, 2, 3, 5, 4] rfl⟩
 clear E H; rintro a w41 ⟨A37, c38, A40, E, H⟩
 refine th_n ?_
 refine wp_seq ?_
 refine wp_seq ?_
 refine wp_region_lit ?_
 refine vr tbok 4 [.slice A1 (List.length aAccept) c2] [(1, .pointer (some ⟨g13, 0, none⟩)), (3, .int .i64 (((List.length aAccept) : Nat) : Int)), (4, .slice A37 (List.length r18) c38), (5, .slice A40 (List.length (List.replicate (Int.toNat (((List.length aAccept) : Nat) : Int)) (0 : Int))) (Int.toNat (((List.length aAccept) : Nat) : Int))), (25, .slice A1 (List.length aAccept) c2), (26, .int .i64 (((List.length aAccept) : Nat) : Int)), (27, .int .i64 0)] [World.cell? w41 ⟨g13, 1, none⟩ = some (.slice A1 (List.length aAccept) c2)] E (by kernel_rfl) ((H.box 3 rfl).cell (j := 1) rfl) ?_
 clear E; intro a E
 refine wpList_nil ?_
 refine th_n ?_
 refine wp_block ?_
 obtain ⟨x111, hL112, hK113⟩ := bind_inv hP
 clear hP
 refine loop_cut (fun i_ a w_ => (i_ = 0 ∧ ∃ (x116 : List Int), Fr a 99 [(3, .int .i64 (((List.length aAccept) : Nat) : Int)), (4, .slice A37 (List.length r18) c38), (5, .slice A40 (List.length x116) (Int.toNat (((List.length aAccept) : Nat) : Int)))] ∧ Hp S Fa w0 w_ [.row true (cSl (cInt .i64)) 23 A37 c38 r18, .rowx true (cInt .i64) 3 A40 (Int.toNat (((List.length aAccept) : Nat) : Int)) x116 (List.replicate (Int.toNat (((List.length aAccept) : Nat) : Int) - Int.toNat (((List.length aAccept) : Nat) : Int)) (0 : Int))] ∧ x111 = x116)) ?_ ?_
 ·
  refine loopV (fun m115 a w114 => ∃ (of91 : List Int) (x92 : Int), Fr a 99 [(1, .pointer (some ⟨g13, 0, none⟩)), (3, .int .i64 (((List.length aAccept) : Nat) : Int)), (4, .slice A37 (List.length r18) c38), (5, .slice A40 (List.length of91) (Int.toNat (((List.length aAccept) : Nat) : Int))), (25, .slice A1 (List.length aAccept) c2), (26, .int .i64 (((List.length aAccept) : Nat) : Int)), (27, .int .i64 x92)] ∧ Hp S Fa w0 w114 [.ro false cBool A1 aAccept, .ro false (cInt .i64) A5 aGuard, .ro false cNode A9 aNodes, .box g13 26 [.int .i64 aProps, .slice A1 (List.length aAccept) c2, .slice A5 (List.length aGuard) c6, .slice A9 (List.length aNodes) c10], .row true (cSl (cInt .i64)) 23 A37 c38 r18, .rowx true (cInt .i64) 3 A40 (Int.toNat (((List.length aAccept) : Nat) : Int)) of91 (List.replicate (Int.toNat (((List.length aAccept) : Nat) : Int) - Int.toNat (((List.length aAccept) : Nat) : Int)) (0 : Int))] ∧ part_classes_l0 N aAccept m115 of91 x92 = some x111) N ?_ ?_
  ·
   exact ⟨List.replicate (Int.toNat (((List.length aAccept) : Nat) : Int)) (0 : Int), 0, E.pick _ ⟨rfl, rfl, rfl, rfl, rfl, rfl, rfl, trivial⟩, H.sel [0, 1, 2, 3, 4, 5] rfl, hL112⟩
  clear E H hL112; intro m115 a w114 hI_
  obtain ⟨of91, x92, E, H, hP⟩ := hI_
  obtain ⟨m110, rfl⟩ : ∃ q_, m115 = q_ + 1 := by cases m115 with | zero => rw [part_classes_l0] at hP; cases hP | succ q_ => exact ⟨q_, rfl⟩
  rw [part_classes_l0] at hP
  refine wp_seq ?_
  refine wp_region_lit ?_
  refine vr tbok 1 [] [(1, .pointer (some ⟨g13, 0, none⟩)), (3, .int .i64 (((List.length aAccept) : Nat) : Int)), (4, .slice A37 (List.length r18) c38), (5, .slice A40 (List.length of91) (Int.toNat (((List.length aAccept) : Nat) : Int))), (25, .slice A1 (List.length aAccept) c2), (26, .int .i64 (((List.length aAccept) : Nat) : Int)), (27, .int .i64 x92), (28, .bool (decide (x92 < (((List.length aAccept) : Nat) : Int))))] [] E (by kernel_rfl) trivial ?_
  clear E; intro a E
  refine wpList_nil ?_
  refine th_n ?_
  refine wp_seq ?_
  refine E.cases (t := 28) rfl (fun hb_ E_ => ?_) (fun hb_ E_ => ?_)
  ·
   replace E := E_; clear E_
   have h117 : x92 < (((List.length aAccept) : Nat) : Int) := of_decide_eq_true hb_
   clear hb_; replace hP := ite_t h117 hP
   refine c_true E rfl ?_
   refine wp_skip ?_
   refine th_n ?_
   refine wp_seq ?_
   refine wp_block ?_
   refine wp_seq ?_
   refine wp_region_lit ?_
   obtain ⟨g118, hP⟩ := ask_inv hP
   obtain ⟨b119, o120, e_b119⟩ := (H.rd 0 rds_ro).addr (idx_pos g118)
   subst e_b119
   refine vr tbok 5 [.bool (List.getD aAccept (Int.toNat x92) false)] [(1, .pointer (some ⟨g13, 0, none⟩)), (3, .int .i64 (((List.length aAccept) : Nat) : Int)), (4, .slice A37 (List.length r18) c38), (5, .slice A40 (List.length of91) (Int.toNat (((List.length aAccept) : Nat) : Int))), (6, .int .i64 x92), (7, .bool (List.getD aAccept (Int.toNat x92) false)), (25, .slice (some ⟨b119, o120, none⟩) (List.length aAccept) c2), (26, .int .i64 (((List.length aAccept) : Nat) : Int)), (27, .int .i64 x92)] [0 ≤ x92 ∧ x92 < (((List.length aAccept) : Nat) : Int), World.cell? w114 ⟨b119, o120 + (Int.toNat x92) * 1, none⟩ = some (.bool (List.getD aAccept (Int.toNat x92) false))] E (by kernel_rfl) ⟨g118, Rds.at1 (H.rd 0 rds_ro) false g118⟩ ?_
   clear E; intro a E
   refine wpList_nil ?_
   refine th_n ?_
   refine wp_seq ?_
   refine wp_region_lit ?_
   obtain ⟨g121, hP⟩ := ask_inv hP
   refine vr tbok 6 [.slice (some ⟨b119, o120, none⟩) (List.length aAccept) c2, .bool (List.getD aAccept (Int.toNat (0 : Int)) false)] [(1, .pointer (some ⟨g13, 0, none⟩)), (3, .int .i64 (((List.length aAccept) : Nat) : Int)), (4, .slice A37 (List.length r18) c38), (5, .slice A40 (List.length of91) (Int.toNat (((List.length aAccept) : Nat) : Int))), (6, .int .i64 x92), (25, .slice (some ⟨b119, o120, none⟩) (List.length aAccept) c2), (26, .int .i64 (((List.length aAccept) : Nat) : Int)), (27, .int .i64 x92), (37, .bool (!((List.getD aAccept (Int.toNat x92) false) == (List.getD aAccept (Int.toNat (0 : Int)) false))))] [World.cell? w114 ⟨g13, 1, none⟩ = some (.slice (some ⟨b119, o120, none⟩) (List.length aAccept) c2), 0 ≤ (0 : Int) ∧ (0 : Int) < (((List.length aAccept) : Nat) : Int), World.cell? w114 ⟨b119, o120 + (Int.toNat (0 : Int)) * 1, none⟩ = some (.bool (List.getD aAccept (Int.toNat (0 : Int)) false))] E (by kernel_rfl) ⟨(H.box 3 rfl).cell (j := 1) rfl, g121, Rds.at1 (H.rd 0 rds_ro) false g121⟩ ?_
   clear E; intro a E
   refine wpList_nil ?_
   refine th_n ?_
   refine E.cases (t := 37) rfl (fun hb_ E_ => ?_) (fun hb_ E_ => ?_)
   ·
    replace E := E_; clear E_
    have h122 : ¬ ((List.getD aAccept (Int.toNat x92) false) = (List.getD aAccept (Int.toNat (0 : Int)) false)) := (by simpa using hb_)
    clear hb_; replace hP := ite_f h122 hP
    refine c_true E rfl ?_
    refine wp_region_lit ?_
    obtain ⟨g123, hP⟩ := ask_inv hP
    obtain ⟨b124, e_b124⟩ := H.raddrx 5 rfl (idx_pos g123)
    subst e_b124
    refine vr tbok 3 [] [(1, .pointer (some ⟨g13, 0, none⟩)), (3, .int .i64 (((List.length aAccept) : Nat) : Int)), (4, .slice A37 (List.length r18) c38), (5, .slice (some ⟨b124, 0, none⟩) (List.length of91) (Int.toNat (((List.length aAccept) : Nat) : Int))), (25, .slice (some ⟨b119, o120, none⟩) (List.length aAccept) c2), (26, .int .i64 (((List.length aAccept) : Nat) : Int)), (27, .int .i64 x92), (40, .pointer (some ⟨b124, 0 + (Int.toNat x92) * 1, none⟩))] [0 ≤ x92 ∧ x92 < (((List.length of91) : Nat) : Int)] E (by kernel_rfl) (g123) ?_
    clear E; intro a E
    refine h_setx (g := b124) (i := x92) 1 H 5 rfl E rfl rfl rfl rfl tbok rfl (fun _ HF_ => rfl) rfl g123 rfl ?_
    clear E; intro w126 a hc127 H_ E
    replace H := H_; clear H_; try dsimp only [setn, addE, goneL] at H
    have hn128 : (List.length of91) = (List.length (List.set of91 (Int.toNat x92) 1)) := by simp only [List.length_set]
    replace E := E.same (t := 5) (u := .slice (some ⟨b124, 0, none⟩) (List.length (List.set of91 (Int.toNat x92) 1)) (Int.toNat (((List.length aAccept) : Nat) : Int))) rfl (congrArg (fun n_ => Value.slice (some ⟨b124, 0, none⟩) n_ (Int.toNat (((List.length aAccept) : Nat) : Int))) hn128)
    refine wpList_nil ?_
    refine bl_n ?_
    refine th_n ?_
    refine wp_region_lit ?_
    obtain ⟨g129, hP⟩ := ask_inv hP
    refine vr tbok 2 [.int .i64 (x92 + 1)] [(1, .pointer (some ⟨g13, 0, none⟩)), (3, .int .i64 (((List.length aAccept) : Nat) : Int)), (4, .slice A37 (List.length r18) c38), (5, .slice (some ⟨b124, 0, none⟩) (List.length (List.set of91 (Int.toNat x92) 1)) (Int.toNat (((List.length aAccept) : Nat) : Int))), (25, .slice (some ⟨b119, o120, none⟩) (List.length aAccept) c2), (26, .int .i64 (((List.length aAccept) : Nat) : Int)), (27, .int .i64 (x92 + 1))] [IntKind.i64.wrap (x92 + 1) = x92 + 1] E (by kernel_rfl) (wrap_in g129) ?_
    clear E; intro a E
    refine wpList_nil ?_
    exact th_n ⟨m110, Nat.lt_succ_self _, List.set of91 (Int.toNat x92) 1, x92 + 1, E.pick _ ⟨rfl, rfl, rfl, rfl, rfl, rfl, rfl, trivial⟩, H.sel [0, 1, 2, 3, 4, 5] rfl, hP⟩
   replace E := E_; clear E_
   have h130 : (List.getD aAccept (Int.toNat x92) false) = (List.getD aAccept (Int.toNat (0 : Int)) false) := (by simpa using hb_)
   clear hb_; replace hP := ite_t h130 hP
   refine c_false E rfl ?_
   refine wp_skip ?_
   refine bl_n ?_
   refine th_n ?_
   refine wp_region_lit ?_
   obtain ⟨g131, hP⟩ := ask_inv hP
   refine vr tbok 2 [.int .i64 (x92 + 1)] [(1, .pointer (some ⟨g13, 0, none⟩)), (3, .int .i64 (((List.length aAccept) : Nat) : Int)), (4, .slice A37 (List.length r18) c38), (5, .slice A40 (List.length of91) (Int.toNat (((List.length aAccept) : Nat) : Int))), (25, .slice (some ⟨b119, o120, none⟩) (List.length aAccept) c2), (26, .int .i64 (((List.length aAccept) : Nat) : Int)), (27, .int .i64 (x92 + 1))] [IntKind.i64.wrap (x92 + 1) = x92 + 1] E (by kernel_rfl) (wrap_in g131) ?_
   clear E; intro a E
   refine wpList_nil ?_
   exact th_n ⟨m110, Nat.lt_succ_self _, of91, x92 + 1, E.pick _ ⟨rfl, rfl, rfl, rfl, rfl, rfl, rfl, trivial⟩, H.sel [0, 1, 2, 3, 4, 5] rfl, hP⟩
  replace E := E_; clear E_
  have h132 : ¬ (x92 < (((List.length aAccept) : Nat) : Int)) := of_decide_eq_false hb_
  clear hb_; replace hP := ite_f h132 hP
  refine c_false E rfl ?_
  refine wp_exit ?_
  refine th_exit ?_
  have hx_ := Option.some.inj hP
  refine th_exit (.inl ⟨0, rfl, ?_⟩)
  exact ⟨rfl, of91, E.pick _ ⟨rfl, rfl, rfl, trivial⟩, H.sel [4, 5] rfl, hx_.symm⟩
 clear E H hL112; intro i_ a w114 hM_
 obtain ⟨rfl, x116, E, H, hx_⟩ := hM_
 subst hx_; have hP := hK113; clear hK113
 refine bl_hit ?_
 refine th_n ?_
 refine wp_seq ?_
 refine wp_region_lit ?_
 refine vr tbok 1 [] [(3, .int .i64 (((List.length aAccept) : Nat) : Int)), (4, .slice A37 (List.length r18) c38), (5, .slice A40 (List.length x111) (Int.toNat (((List.length aAccept) : Nat) : Int))), (8, .int .i64 0)] [] E (by kernel_rfl) trivial ?_
 clear E; intro a E
 refine wpList_nil ?_
 refine th_n ?_
 refine wp_block ?_
 obtain ⟨x433, hL434, hK435⟩ := bind_inv hP
 clear hP
 refine loop_cut (fun i_ a w_ => False) ?_ ?_
 ·
  refine loopV (fun m437 a w436 => ∃ (of281 : List Int) (many283 : Int), ∃ (A282 : Option Addr), Fr a 99 [(3, .int .i64 (((List.length aAccept) : Nat) : Int)), (4, .slice A37 (List.length r18) c38), (5, .slice A282 (List.length of281) (Int.toNat (((List.length aAccept) : Nat) : Int))), (8, .int .i64 many283)] ∧ Hp S Fa w0 w436 [.row true (cSl (cInt .i64)) 23 A37 c38 r18, .rowx true (cInt .i64) 3 A282 (Int.toNat (((List.length aAccept) : Nat) : Int)) of281 (List.replicate (Int.toNat (((List.length aAccept) : Nat) : Int) - Int.toNat (((List.length aAccept) : Nat) : Int)) (0 : Int))] ∧ part_classes_l1 N aAccept r18 m437 of281 many283 = some x433) N ?_ ?_
  ·
   exact ⟨x111, 0, A40, E.pick _ ⟨rfl, rfl, rfl, rfl, trivial⟩, H.sel [0, 1] rfl, hL434⟩
  clear E H hL434; intro m437 a w436 hI_
  obtain ⟨of281, many283, A282, E, H, hP⟩ := hI_
  obtain ⟨m432, rfl⟩ : ∃ q_, m437 = q_ + 1 := by cases m437 with | zero => rw [part_classes_l1] at hP; cases hP | succ q_ => exact ⟨q_, rfl⟩
  rw [part_classes_l1] at hP
  refine wp_block ?_
  refine wp_seq ?_
  refine meet_cut (fun a w452 => ∃ (g449 : Nat) (A451 : Option Addr), Fr a 99 [(3, .int .i64 (((List.length aAccept) : Nat) : Int)), (4, .slice A37 (List.length r18) c38), (5, .slice A282 (List.length of281) (Int.toNat (((List.length aAccept) : Nat) : Int))), (8, .int .i64 many283), (9, .map (some g449)), (10, .slice A451 (List.length (List.replicate (Int.toNat (((List.length aAccept) : Nat) : Int)) (0 : Int))) (Int.toNat (((List.length aAccept) : Nat) : Int)))] ∧ Hp S Fa w0 w452 [.row true (cSl (cInt .i64)) 23 A37 c38 r18, .rowx true (cInt .i64) 3 A282 (Int.toNat (((List.length aAccept) : Nat) : Int)) of281 (List.replicate (Int.toNat (((List.length aAccept) : Nat) : Int) - Int.toNat (((List.length aAccept) : Nat) : Int)) (0 : Int)), .mp Try.prog 99 g449 (List.map (fun p_ => ((fun xs_ : List Int => .agg (arrV (iV .i64) xs_)) p_.1, (fun u_ : Int => .int .i64 u_) p_.2)) ([] : List ((List Int) × Int))), .rowx true (cInt .i64) 3 A451 (Int.toNat (((List.length aAccept) : Nat) : Int)) (List.replicate (Int.toNat (((List.length aAccept) : Nat) : Int)) (0 : Int)) (List.replicate (Int.toNat (((List.length aAccept) : Nat) : Int) - Int.toNat (((List.length aAccept) : Nat) : Int)) (0 : Int))]) ?_ ?_
  ·
   have HR456 := H
   refine dr_start (S := fun w_ => Chg (atL []) w436 w_) (by kernel_rfl) ?_
   intro w453 hc454
   have HS455 : Chg (atL []) w436 w453 := hc454.mono (fun _ _ h_ => h_.elim)
   replace H := H.ext hc454
   refine dr tbok (by kernel_rfl) [1] [] [(3, .int .i64 (((List.length aAccept) : Nat) : Int)), (4, .slice A37 (List.length r18) c38), (5, .slice A282 (List.length of281) (Int.toNat (((List.length aAccept) : Nat) : Int))), (8, .int .i64 many283), (43, .int .i64 (((List.length aAccept) : Nat) : Int))] (fun w_ => []) 4 E (fun _ _ => by kernel_rfl) (fun w_ hS_ => trivial) (by kernel_rfl) HS455 ?_
   clear E; intro a E
   refine wpAnyH_all (rs := [0, 2]) (by kernel_rfl) (by simp) ?_
   refine all2 ?_ ?_
   ·
    refine wpOp_of_list rfl ?_
    refine h_makeMap (P := Try.prog) (k0 := 99) H E rfl rfl ?_
    intro w458 g457 a hc459 hg460 H_ E_
    replace E := E_ _ rfl; clear E_
    have hin462 : ∀ q_, q_ < w436.heap.size → q_ = g457 → (atL []) q_ := fun q_ h1_ h2_ => by have hs_ := HS455.size; have h4_ : q_ = g457 := h2_; exfalso; omega
    replace HS455 := HS455.ext hc459
    replace H := H_; clear H_; try dsimp only [setn, addE, goneL] at H
    refine wpList_nil ?_
    refine th_n ⟨HS455, ?_⟩
    refine dr tbok (by kernel_rfl) [3] [] [(3, .int .i64 (((List.length aAccept) : Nat) : Int)), (4, .slice A37 (List.length r18) c38), (5, .slice A282 (List.length of281) (Int.toNat (((List.length aAccept) : Nat) : Int))), (8, .int .i64 many283), (9, .map (some g457)), (43, .int .i64 (((List.length aAccept) : Nat) : Int))] (fun w_ => []) 2 E (fun _ _ => by kernel_rfl) (fun w_ hS_ => trivial) (by kernel_rfl) HS455 ?_
    clear E; intro a E
    refine wpAnyH_all (rs := [2]) (by kernel_rfl) (by simp) ?_
    refine all1 ?_
    refine wpOp_of_list rfl ?_
    refine h_make (cInt .i64) (0 : Int) H E rfl rfl tbok rfl rfl rfl rfl ⟨g30.1, Int.le_refl _, g30.2⟩ rfl rfl rfl (fun _ _ => rfl) ?_
    intro w464 g463 a hc465 hg467 H_ E_
    replace E := E_ _ rfl; clear E_
    have hin468 : ∀ q_, q_ < w436.heap.size → At (some ⟨g463, 0, none⟩) q_ → (atL []) q_ := fun q_ h1_ h2_ => by have hs_ := HS455.size; have h4_ : q_ = g463 := At.of_g h2_; exfalso; omega
    replace HS455 := HS455.ext hc465
    replace H := H_; clear H_; try dsimp only [setn, addE, goneL] at H
    refine wpList_nil ?_
    refine th_n ⟨HS455, ?_⟩
    refine dr tbok (by kernel_rfl) [4] [] [(3, .int .i64 (((List.length aAccept) : Nat) : Int)), (4, .slice A37 (List.length r18) c38), (5, .slice A282 (List.length of281) (Int.toNat (((List.length aAccept) : Nat) : Int))), (8, .int .i64 many283), (9, .map (some g457)), (10, .slice (some ⟨g463, 0, none⟩) (List.length (List.replicate (Int.toNat (((List.length aAccept) : Nat) : Int)) (0 : Int))) (Int.toNat (((List.length aAccept) : Nat) : Int)))] (fun w_ => []) 0 E (fun _ _ => by kernel_rfl) (fun w_ hS_ => trivial) (by kernel_rfl) HS455 ?_
    clear E; intro a E
    refine dr_done (by kernel_rfl) ?_
    exact .inl ⟨rfl, g457, (some ⟨g463, 0, none⟩), E.pick _ ⟨rfl, rfl, rfl, rfl, rfl, rfl, trivial⟩, H.sel [0, 1, 2, 3] rfl⟩
   refine wpOp_of_list rfl ?_
   refine h_make (cInt .i64) (0 : Int) H E rfl rfl tbok rfl rfl rfl rfl ⟨g30.1, Int.le_refl _, g30.2⟩ rfl rfl rfl (fun _ _ => rfl) ?_
   intro w470 g469 a hc471 hg473 H_ E_
   replace E := E_ _ rfl; clear E_
   have hin474 : ∀ q_, q_ < w436.heap.size → At (some ⟨g469, 0, none⟩) q_ → (atL []) q_ := fun q_ h1_ h2_ => by have hs_ := HS455.size; have h4_ : q_ = g469 := At.of_g h2_; exfalso; omega
   replace HS455 := HS455.ext hc471
   replace H := H_; clear H_; try dsimp only [setn, addE, goneL] at H
   refine wpList_nil ?_
   refine th_n ⟨HS455, ?_⟩
   refine wpAnyH_all (rs := [0]) (by kernel_rfl) (by simp) ?_
   refine all1 ?_
   refine wpOp_of_list rfl ?_
   refine h_makeMap (P := Try.prog) (k0 := 99) H E rfl rfl ?_
   intro w476 g475 a hc477 hg478 H_ E_
   replace E := E_ _ rfl; clear E_
   have hin480 : ∀ q_, q_ < w436.heap.size → q_ = g475 → (atL []) q_ := fun q_ h1_ h2_ => by have hs_ := HS455.size; have h4_ : q_ = g475 := h2_; exfalso; omega
   replace HS455 := HS455.ext hc477
   replace H := H_; clear H_; try dsimp only [setn, addE, goneL] at H
   refine wpList_nil ?_
   refine th_n ⟨HS455, ?_⟩
   refine dr tbok (by kernel_rfl) [3, 4] [] [(3, .int .i64 (((List.length aAccept) : Nat) : Int)), (4, .slice A37 (List.length r18) c38), (5, .slice A282 (List.length of281) (Int.toNat (((List.length aAccept) : Nat) : Int))), (8, .int .i64 many283), (9, .map (some g475)), (10, .slice (some ⟨g469, 0, none⟩) (List.length (List.replicate (Int.toNat (((List.length aAccept) : Nat) : Int)) (0 : Int))) (Int.toNat (((List.length aAccept) : Nat) : Int)))] (fun w_ => []) 0 E (fun _ _ => by kernel_rfl) (fun w_ hS_ => trivial) (by kernel_rfl) HS455 ?_
   clear E; intro a E
   refine dr_done (by kernel_rfl) ?_
   exact .inl ⟨rfl, g475, (some ⟨g469, 0, none⟩), E.pick _ ⟨rfl, rfl, rfl, rfl, rfl, rfl, trivial⟩, H.sel [0, 1, 3, 2] rfl⟩
  clear E H; rintro a w452 ⟨g449, A451, E, H⟩
  refine th_n ?_
  refine wp_seq ?_
  refine wp_seq ?_
  refine wp_region_lit ?_
  refine vr tbok 3 [] [(3, .int .i64 (((List.length aAccept) : Nat) : Int)), (4, .slice A37 (List.length r18) c38), (5, .slice A282 (List.length of281) (Int.toNat (((List.length aAccept) : Nat) : Int))), (8, .int .i64 many283), (9, .map (some g449)), (10, .slice A451 (List.length (List.replicate (Int.toNat (((List.length aAccept) : Nat) : Int)) (0 : Int))) (Int.toNat (((List.length aAccept) : Nat) : Int))), (46, .int .i64 (((List.length of281) : Nat) : Int)), (47, .int .i64 0)] [] E (by kernel_rfl) trivial ?_
  clear E; intro a E
  refine wpList_nil ?_
  refine th_n ?_
  refine wp_block ?_
  obtain ⟨x613, hL614, hK615⟩ := bind_inv hP
  clear hP
  refine loop_cut (fun i_ a w_ => (i_ = 4 ∧ ∃ (x618 : (List ((List Int) × Int)) × (List Int)), Fr a 99 [(3, .int .i64 (((List.length aAccept) : Nat) : Int)), (4, .slice A37 (List.length r18) c38), (8, .int .i64 many283), (9, .map (some g449)), (10, .slice A451 (List.length x618.2) (Int.toNat (((List.length aAccept) : Nat) : Int)))] ∧ Hp S Fa w0 w_ [.row true (cSl (cInt .i64)) 23 A37 c38 r18, .mp Try.prog 99 g449 (List.map (fun p_ => ((fun xs_ : List Int => .agg (arrV (iV .i64) xs_)) p_.1, (fun u_ : Int => .int .i64 u_) p_.2)) x618.1), .rowx true (cInt .i64) 3 A451 (Int.toNat (((List.length aAccept) : Nat) : Int)) x618.2 (List.replicate (Int.toNat (((List.length aAccept) : Nat) : Int) - Int.toNat (((List.length aAccept) : Nat) : Int)) (0 : Int))] ∧ x613 = x618)) ?_ ?_
  ·
   refine loopV (fun m617 a w616 => ∃ (numbers543 : List ((List Int) × Int)) (next544 : List Int) (x545 : Int), Fr a 99 [(3, .int .i64 (((List.length aAccept) : Nat) : Int)), (4, .slice A37 (List.length r18) c38), (5, .slice A282 (List.length of281) (Int.toNat (((List.length aAccept) : Nat) : Int))), (8, .int .i64 many283), (9, .map (some g449)), (10, .slice A451 (List.length next544) (Int.toNat (((List.length aAccept) : Nat) : Int))), (46, .int .i64 (((List.length of281) : Nat) : Int)), (47, .int .i64 x545)] ∧ Hp S Fa w0 w616 [.row true (cSl (cInt .i64)) 23 A37 c38 r18, .rowx true (cInt .i64) 3 A282 (Int.toNat (((List.length aAccept) : Nat) : Int)) of281 (List.replicate (Int.toNat (((List.length aAccept) : Nat) : Int) - Int.toNat (((List.length aAccept) : Nat) : Int)) (0 : Int)), .mp Try.prog 99 g449 (List.map (fun p_ => ((fun xs_ : List Int => .agg (arrV (iV .i64) xs_)) p_.1, (fun u_ : Int => .int .i64 u_) p_.2)) numbers543), .rowx true (cInt .i64) 3 A451 (Int.toNat (((List.length aAccept) : Nat) : Int)) next544 (List.replicate (Int.toNat (((List.length aAccept) : Nat) : Int) - Int.toNat (((List.length aAccept) : Nat) : Int)) (0 : Int))] ∧ part_classes_l2 N r18 of281 m617 numbers543 next544 x545 = some x613) N ?_ ?_
   ·
    exact ⟨([] : List ((List Int) × Int)), List.replicate (Int.toNat (((List.length aAccept) : Nat) : Int)) (0 : Int), 0, E.pick _ ⟨rfl, rfl, rfl, rfl, rfl, rfl, rfl, rfl, trivial⟩, H.sel [0, 1, 2, 3] rfl, hL614⟩
   clear E H hL614; intro m617 a w616 hI_
   obtain ⟨numbers543, next544, x545, E, H, hP⟩ := hI_
   obtain ⟨m612, rfl⟩ : ∃ q_, m617 = q_ + 1 := by cases m617 with | zero => rw [part_classes_l2] at hP; cases hP | succ q_ => exact ⟨q_, rfl⟩
   rw [part_classes_l2] at hP
   refine wp_seq ?_
   refine wp_region_lit ?_
   refine vr tbok 1 [] [(3, .int .i64 (((List.length aAccept) : Nat) : Int)), (4, .slice A37 (List.length r18) c38), (5, .slice A282 (List.length of281) (Int.toNat (((List.length aAccept) : Nat) : Int))), (8, .int .i64 many283), (9, .map (some g449)), (10, .slice A451 (List.length next544) (Int.toNat (((List.length aAccept) : Nat) : Int))), (46, .int .i64 (((List.length of281) : Nat) : Int)), (47, .int .i64 x545), (48, .bool (decide (x545 < (((List.length of281) : Nat) : Int))))] [] E (by kernel_rfl) trivial ?_
   clear E; intro a E
   refine wpList_nil ?_
   refine th_n ?_
   refine wp_seq ?_
   refine E.cases (t := 48) rfl (fun hb_ E_ => ?_) (fun hb_ E_ => ?_)
   ·
    replace E := E_; clear E_
    have h619 : x545 < (((List.length of281) : Nat) : Int) := of_decide_eq_true hb_
    clear hb_; replace hP := ite_t h619 hP
    refine c_true E rfl ?_
    refine wp_skip ?_
    refine th_n ?_
    refine wp_seq ?_
    refine wp_block ?_
    refine wp_seq ?_
    refine wp_region_lit ?_
    refine vr tbok 2 [] [(3, .int .i64 (((List.length aAccept) : Nat) : Int)), (4, .slice A37 (List.length r18) c38), (5, .slice A282 (List.length of281) (Int.toNat (((List.length aAccept) : Nat) : Int))), (8, .int .i64 many283), (9, .map (some g449)), (10, .slice A451 (List.length next544) (Int.toNat (((List.length aAccept) : Nat) : Int))), (11, .int .i64 x545), (46, .int .i64 (((List.length of281) : Nat) : Int)), (47, .int .i64 x545)] [] E (by kernel_rfl) trivial ?_
    clear E; intro a E
    refine wpList_nil ?_
    refine th_n ?_
    refine wp_seq ?_
    refine wp_region_lit ?_
    refine h_allocArr (cInt .i64) (0 : Int) [.int .i64 0] 257 H E rfl rfl tbok rfl (fun _ _ => rfl) (by kernel_rfl) (by kernel_rfl) ?_
    intro w621 g620 a hc622 hg623 H_ E_
    replace E := E_ _ rfl; clear E_
    replace H := H_; clear H_; try dsimp only [setn, addE, goneL] at H
    refine wpList_nil ?_
    refine th_n ?_
    refine wp_seq ?_
    refine wp_region_lit ?_
    obtain ⟨g625, hP⟩ := ask_inv hP
    obtain ⟨b626, e_b626⟩ := H.raddrx 1 rfl (idx_pos g625)
    subst e_b626
    obtain ⟨g628, hP⟩ := ask_inv hP
    refine vr tbok 5 [.int .i64 (List.getD of281 (Int.toNat x545) 0)] [(3, .int .i64 (((List.length aAccept) : Nat) : Int)), (4, .slice A37 (List.length r18) c38), (5, .slice (some ⟨b626, 0, none⟩) (List.length of281) (Int.toNat (((List.length aAccept) : Nat) : Int))), (8, .int .i64 many283), (9, .map (some g449)), (10, .slice A451 (List.length next544) (Int.toNat (((List.length aAccept) : Nat) : Int))), (11, .int .i64 x545), (12, .pointer (some ⟨g620, 0, none⟩)), (46, .int .i64 (((List.length of281) : Nat) : Int)), (47, .int .i64 x545), (53, .int .i64 (List.getD of281 (Int.toNat x545) 0)), (54, .pointer (some ⟨g620, 0 + (Int.toNat (0 : Int)) * 1, none⟩))] [0 ≤ x545 ∧ x545 < (((List.length of281) : Nat) : Int), World.cell? w621 ⟨b626, 0 + (Int.toNat x545) * 1, none⟩ = some (.int .i64 (List.getD of281 (Int.toNat x545) 0)), 0 ≤ (0 : Int) ∧ (0 : Int) < ((257 : Nat) : Int)] E (by kernel_rfl) ⟨g625, Rds.at1 (H.rd 1 rds_rowx) 0 g625, g628⟩ ?_
    clear E; intro a E
    refine h_setx (g := g620) (i := (0 : Int)) (List.getD of281 (Int.toNat x545) 0) H 4 rfl E rfl rfl rfl rfl tbok rfl (fun _ HF_ => rfl) rfl (arr_hx (H.rcapE 4 rfl) g628) rfl ?_
    clear E; intro w629 a hc630 H_ E
    replace H := H_; clear H_; try dsimp only [setn, addE, goneL] at H
    refine wpList_nil ?_
    refine th_n ?_
    refine wp_seq ?_
    refine wp_seq ?_
    refine wp_region_lit ?_
    obtain ⟨g631, hP⟩ := ask_inv hP
    obtain ⟨b632, e_b632⟩ := H.raddr 0 rfl (idx_pos g631)
    subst e_b632
    obtain ⟨A634, c635, hl636, hk637, H⟩ := H.subSl 0 true (el_row rfl) g631
    try dsimp only [addE] at H
    refine vr tbok 6 [.slice A634 (List.length (List.getD r18 (Int.toNat x545) [])) c635] [(3, .int .i64 (((List.length aAccept) : Nat) : Int)), (4, .slice (some ⟨b632, 0, none⟩) (List.length r18) c38), (5, .slice (some ⟨b626, 0, none⟩) (List.length of281) (Int.toNat (((List.length aAccept) : Nat) : Int))), (8, .int .i64 many283), (9, .map (some g449)), (10, .slice A451 (List.length next544) (Int.toNat (((List.length aAccept) : Nat) : Int))), (11, .int .i64 x545), (12, .pointer (some ⟨g620, 0, none⟩)), (46, .int .i64 (((List.length of281) : Nat) : Int)), (47, .int .i64 x545), (58, .slice A634 (List.length (List.getD r18 (Int.toNat x545) [])) c635), (59, .int .i64 (((List.length (List.getD r18 (Int.toNat x545) [])) : Nat) : Int)), (60, .int .i64 0)] [0 ≤ x545 ∧ x545 < (((List.length r18) : Nat) : Int), World.cell? w629 ⟨b632, 0 + (Int.toNat x545) * 1, none⟩ = some (.slice A634 (List.length (List.getD r18 (Int.toNat x545) [])) c635)] E (by kernel_rfl) ⟨g631, hl636⟩ ?_
    clear E; intro a E
    refine wpList_nil ?_
    refine th_n ?_
    refine wp_block ?_
    obtain ⟨x663, hL664, hK665⟩ := bind_inv hP
    clear hP
    refine loop_cut (fun i_ a w_ => (i_ = 6 ∧ ∃ (x668 : List Int), Fr a 99 [(3, .int .i64 (((List.length aAccept) : Nat) : Int)), (4, .slice (some ⟨b632, 0, none⟩) (List.length r18) c38), (5, .slice (some ⟨b626, 0, none⟩) (List.length of281) (Int.toNat (((List.length aAccept) : Nat) : Int))), (8, .int .i64 many283), (9, .map (some g449)), (10, .slice A451 (List.length next544) (Int.toNat (((List.length aAccept) : Nat) : Int))), (11, .int .i64 x545), (12, .pointer (some ⟨g620, 0, none⟩)), (46, .int .i64 (((List.length of281) : Nat) : Int)), (47, .int .i64 x545)] ∧ Hp S Fa w0 w_ [.row true (cSl (cInt .i64)) 23 (some ⟨b632, 0, none⟩) c38 r18, .rowx true (cInt .i64) 3 (some ⟨b626, 0, none⟩) (Int.toNat (((List.length aAccept) : Nat) : Int)) of281 (List.replicate (Int.toNat (((List.length aAccept) : Nat) : Int) - Int.toNat (((List.length aAccept) : Nat) : Int)) (0 : Int)), .mp Try.prog 99 g449 (List.map (fun p_ => ((fun xs_ : List Int => .agg (arrV (iV .i64) xs_)) p_.1, (fun u_ : Int => .int .i64 u_) p_.2)) numbers543), .rowx true (cInt .i64) 3 A451 (Int.toNat (((List.length aAccept) : Nat) : Int)) next544 (List.replicate (Int.toNat (((List.length aAccept) : Nat) : Int) - Int.toNat (((List.length aAccept) : Nat) : Int)) (0 : Int)), .rowx true (cInt .i64) 99 (some ⟨g620, 0, none⟩) 257 x668 []] ∧ x663 = x668)) ?_ ?_
    ·
     refine loopV (fun m667 a w666 => ∃ (s648 : List Int) (x649 : Int), Fr a 99 [(3, .int .i64 (((List.length aAccept) : Nat) : Int)), (4, .slice (some ⟨b632, 0, none⟩) (List.length r18) c38), (5, .slice (some ⟨b626, 0, none⟩) (List.length of281) (Int.toNat (((List.length aAccept) : Nat) : Int))), (8, .int .i64 many283), (9, .map (some g449)), (10, .slice A451 (List.length next544) (Int.toNat (((List.length aAccept) : Nat) : Int))), (11, .int .i64 x545), (12, .pointer (some ⟨g620, 0, none⟩)), (46, .int .i64 (((List.length of281) : Nat) : Int)), (47, .int .i64 x545), (58, .slice A634 (List.length (List.getD r18 (Int.toNat x545) [])) c635), (59, .int .i64 (((List.length (List.getD r18 (Int.toNat x545) [])) : Nat) : Int)), (60, .int .i64 x649)] ∧ Hp S Fa w0 w666 [.row true (cSl (cInt .i64)) 23 (some ⟨b632, 0, none⟩) c38 r18, .rowx true (cInt .i64) 3 (some ⟨b626, 0, none⟩) (Int.toNat (((List.length aAccept) : Nat) : Int)) of281 (List.replicate (Int.toNat (((List.length aAccept) : Nat) : Int) - Int.toNat (((List.length aAccept) : Nat) : Int)) (0 : Int)), .mp Try.prog 99 g449 (List.map (fun p_ => ((fun xs_ : List Int => .agg (arrV (iV .i64) xs_)) p_.1, (fun u_ : Int => .int .i64 u_) p_.2)) numbers543), .rowx true (cInt .i64) 3 A451 (Int.toNat (((List.length aAccept) : Nat) : Int)) next544 (List.replicate (Int.toNat (((List.length aAccept) : Nat) : Int) - Int.toNat (((List.length aAccept) : Nat) : Int)) (0 : Int)), .rowx true (cInt .i64) 99 (some ⟨g620, 0, none⟩) 257 s648 [], .ro true (cInt .i64) A634 (List.getD r18 (Int.toNat x545) [])] ∧ part_classes_l3 N r18 of281 x545 m667 s648 x649 = some x663) N ?_ ?_
     ·
      exact ⟨List.set (List.replicate 257 (0 : Int)) (Int.toNat (0 : Int)) (List.getD of281 (Int.toNat x545) 0), 0, E.pick _ ⟨rfl, rfl, rfl, rfl, rfl, rfl, rfl, rfl, rfl, rfl, rfl, rfl, rfl, trivial⟩, H.sel [0, 1, 2, 3, 4, 5] rfl, hL664⟩
     clear E H hL664; intro m667 a w666 hI_
     obtain ⟨s648, x649, E, H, hP⟩ := hI_
     obtain ⟨m662, rfl⟩ : ∃ q_, m667 = q_ + 1 := by cases m667 with | zero => rw [part_classes_l3] at hP; cases hP | succ q_ => exact ⟨q_, rfl⟩
     rw [part_classes_l3] at hP
     refine wp_seq ?_
     refine wp_region_lit ?_
     refine vr tbok 1 [] [(3, .int .i64 (((List.length aAccept) : Nat) : Int)), (4, .slice (some ⟨b632, 0, none⟩) (List.length r18) c38), (5, .slice (some ⟨b626, 0, none⟩) (List.length of281) (Int.toNat (((List.length aAccept) : Nat) : Int))), (8, .int .i64 many283), (9, .map (some g449)), (10, .slice A451 (List.length next544) (Int.toNat (((List.length aAccept) : Nat) : Int))), (11, .int .i64 x545), (12, .pointer (some ⟨g620, 0, none⟩)), (46, .int .i64 (((List.length of281) : Nat) : Int)), (47, .int .i64 x545), (58, .slice A634 (List.length (List.getD r18 (Int.toNat x545) [])) c635), (59, .int .i64 (((List.length (List.getD r18 (Int.toNat x545) [])) : Nat) : Int)), (60, .int .i64 x649), (61, .bool (decide (x649 < (((List.length (List.getD r18 (Int.toNat x545) [])) : Nat) : Int))))] [] E (by kernel_rfl) trivial ?_
     clear E; intro a E
     refine wpList_nil ?_
     refine th_n ?_
     refine wp_seq ?_
     refine E.cases (t := 61) rfl (fun hb_ E_ => ?_) (fun hb_ E_ => ?_)
     ·
      replace E := E_; clear E_
      have h669 : x649 < (((List.length (List.getD r18 (Int.toNat x545) [])) : Nat) : Int) := of_decide_eq_true hb_
      clear hb_; replace hP := ite_t h669 hP
      refine c_true E rfl ?_
      refine wp_skip ?_
      refine th_n ?_
      refine wp_seq ?_
      refine wp_block ?_
      refine wp_seq ?_
      refine wp_region_lit ?_
      obtain ⟨g670, hP⟩ := ask_inv hP
      obtain ⟨b671, o672, e_b671⟩ := (H.rd 5 rds_ro).addr (idx_pos g670)
      subst e_b671
      refine vr tbok 5 [.int .i64 (List.getD (List.getD r18 (Int.toNat x545) []) (Int.toNat x649) 0)] [(3, .int .i64 (((List.length aAccept) : Nat) : Int)), (4, .slice (some ⟨b632, 0, none⟩) (List.length r18) c38), (5, .slice (some ⟨b626, 0, none⟩) (List.length of281) (Int.toNat (((List.length aAccept) : Nat) : Int))), (8, .int .i64 many283), (9, .map (some g449)), (10, .slice A451 (List.length next544) (Int.toNat (((List.length aAccept) : Nat) : Int))), (11, .int .i64 x545), (12, .pointer (some ⟨g620, 0, none⟩)), (13, .int .i64 x649), (14, .int .i64 (List.getD (List.getD r18 (Int.toNat x545) []) (Int.toNat x649) 0)), (46, .int .i64 (((List.length of281) : Nat) : Int)), (47, .int .i64 x545), (58, .slice (some ⟨b671, o672, none⟩) (List.length (List.getD r18 (Int.toNat x545) [])) c635), (59, .int .i64 (((List.length (List.getD r18 (Int.toNat x545) [])) : Nat) : Int)), (60, .int .i64 x649)] [0 ≤ x649 ∧ x649 < (((List.length (List.getD r18 (Int.toNat x545) [])) : Nat) : Int), World.cell? w666 ⟨b671, o672 + (Int.toNat x649) * 1, none⟩ = some (.int .i64 (List.getD (List.getD r18 (Int.toNat x545) []) (Int.toNat x649) 0))] E (by kernel_rfl) ⟨g670, Rds.at1 (H.rd 5 rds_ro) 0 g670⟩ ?_
      clear E; intro a E
      refine wpList_nil ?_
      refine th_n ?_
      refine wp_region_lit ?_
      obtain ⟨g673, hP⟩ := ask_inv hP
      obtain ⟨g674, hP⟩ := ask_inv hP
      obtain ⟨g675, hP⟩ := ask_inv hP
      refine vr tbok 7 [.int .i64 (1 + x649), .int .i64 (List.getD of281 (Int.toNat (List.getD (List.getD r18 (Int.toNat x545) []) (Int.toNat x649) 0)) 0)] [(3, .int .i64 (((List.length aAccept) : Nat) : Int)), (4, .slice (some ⟨b632, 0, none⟩) (List.length r18) c38), (5, .slice (some ⟨b626, 0, none⟩) (List.length of281) (Int.toNat (((List.length aAccept) : Nat) : Int))), (8, .int .i64 many283), (9, .map (some g449)), (10, .slice A451 (List.length next544) (Int.toNat (((List.length aAccept) : Nat) : Int))), (11, .int .i64 x545), (12, .pointer (some ⟨g620, 0, none⟩)), (46, .int .i64 (((List.length of281) : Nat) : Int)), (47, .int .i64 x545), (58, .slice (some ⟨b671, o672, none⟩) (List.length (List.getD r18 (Int.toNat x545) [])) c635), (59, .int .i64 (((List.length (List.getD r18 (Int.toNat x545) [])) : Nat) : Int)), (60, .int .i64 x649), (70, .int .i64 (List.getD of281 (Int.toNat (List.getD (List.getD r18 (Int.toNat x545) []) (Int.toNat x649) 0)) 0)), (71, .pointer (some ⟨g620, 0 + (Int.toNat (1 + x649)) * 1, none⟩))] [IntKind.i64.wrap (1 + x649) = 1 + x649, 0 ≤ (List.getD (List.getD r18 (Int.toNat x545) []) (Int.toNat x649) 0) ∧ (List.getD (List.getD r18 (Int.toNat x545) []) (Int.toNat x649) 0) < (((List.length of281) : Nat) : Int), World.cell? w666 ⟨b626, 0 + (Int.toNat (List.getD (List.getD r18 (Int.toNat x545) []) (Int.toNat x649) 0)) * 1, none⟩ = some (.int .i64 (List.getD of281 (Int.toNat (List.getD (List.getD r18 (Int.toNat x545) []) (Int.toNat x649) 0)) 0)), 0 ≤ (1 + x649) ∧ (1 + x649) < ((257 : Nat) : Int)] E (by kernel_rfl) ⟨wrap_in g673, g674, Rds.at1 (H.rd 1 rds_rowx) 0 g674, g675⟩ ?_
      clear E; intro a E
      refine h_setx (g := g620) (i := (1 + x649)) (List.getD of281 (Int.toNat (List.getD (List.getD r18 (Int.toNat x545) []) (Int.toNat x649) 0)) 0) H 4 rfl E rfl rfl rfl rfl tbok rfl (fun _ HF_ => rfl) rfl (arr_hx (H.rcapE 4 rfl) g675) rfl ?_
      clear E; intro w676 a hc677 H_ E
      replace H := H_; clear H_; try dsimp only [setn, addE, goneL] at H
      refine wpList_nil ?_
      refine bl_n ?_
      refine th_n ?_
      refine wp_region_lit ?_
      obtain ⟨g678, hP⟩ := ask_inv hP
      refine vr tbok 2 [.int .i64 (x649 + 1)] [(3, .int .i64 (((List.length aAccept) : Nat) : Int)), (4, .slice (some ⟨b632, 0, none⟩) (List.length r18) c38), (5, .slice (some ⟨b626, 0, none⟩) (List.length of281) (Int.toNat (((List.length aAccept) : Nat) : Int))), (8, .int .i64 many283), (9, .map (some g449)), (10, .slice A451 (List.length next544) (Int.toNat (((List.length aAccept) : Nat) : Int))), (11, .int .i64 x545), (12, .pointer (some ⟨g620, 0, none⟩)), (46, .int .i64 (((List.length of281) : Nat) : Int)), (47, .int .i64 x545), (58, .slice (some ⟨b671, o672, none⟩) (List.length (List.getD r18 (Int.toNat x545) [])) c635), (59, .int .i64 (((List.length (List.getD r18 (Int.toNat x545) [])) : Nat) : Int)), (60, .int .i64 (x649 + 1))] [IntKind.i64.wrap (x649 + 1) = x649 + 1] E (by kernel_rfl) (wrap_in g678) ?_
      clear E; intro a E
      refine wpList_nil ?_
      exact th_n ⟨m662, Nat.lt_succ_self _, List.set s648 (Int.toNat (1 + x649)) (List.getD of281 (Int.toNat (List.getD (List.getD r18 (Int.toNat x545) []) (Int.toNat x649) 0)) 0), x649 + 1, E.pick _ ⟨rfl, rfl, rfl, rfl, rfl, rfl, rfl, rfl, rfl, rfl, rfl, rfl, rfl, trivial⟩, H.sel [0, 1, 2, 3, 4, 5] rfl, hP⟩
     replace E := E_; clear E_
     have h679 : ¬ (x649 < (((List.length (List.getD r18 (Int.toNat x545) [])) : Nat) : Int)) := of_decide_eq_false hb_
     clear hb_; replace hP := ite_f h679 hP
     refine c_false E rfl ?_
     refine wp_exit ?_
     refine th_exit ?_
     have hx_ := Option.some.inj hP
     refine th_exit (.inl ⟨6, rfl, ?_⟩)
     exact ⟨rfl, s648, E.pick _ ⟨rfl, rfl, rfl, rfl, rfl, rfl, rfl, rfl, rfl, rfl, trivial⟩, H.sel [0, 1, 2, 3, 4] rfl, hx_.symm⟩
    clear E H hL664; intro i_ a w666 hM_
    obtain ⟨rfl, x668, E, H, hx_⟩ := hM_
    subst hx_; have hP := hK665; clear hK665
    refine bl_hit ?_
    refine th_n ?_
    refine wp_seq ?_
    refine wp_region_lit ?_
    refine vr tbok 1 [] [(3, .int .i64 (((List.length aAccept) : Nat) : Int)), (4, .slice (some ⟨b632, 0, none⟩) (List.length r18) c38), (5, .slice (some ⟨b626, 0, none⟩) (List.length of281) (Int.toNat (((List.length aAccept) : Nat) : Int))), (8, .int .i64 many283), (9, .map (some g449)), (10, .slice A451 (List.length next544) (Int.toNat (((List.length aAccept) : Nat) : Int))), (11, .int .i64 x545), (12, .pointer (some ⟨g620, 0, none⟩)), (46, .int .i64 (((List.length of281) : Nat) : Int)), (47, .int .i64 x545), (74, .map (some g449))] [] E (by kernel_rfl) trivial ?_
    clear E; intro a E
    refine h_loadArr (iV .i64) (xs := x663) H 4 rfl E rfl rfl tbok rfl rfl rfl rfl (fun _ _ _ _ h_ => h_) (by kernel_rfl) rfl ?_
    clear E; intro a E
    obtain ⟨g680, hP⟩ := ask_inv hP
    refine h_lookupC (fun xs_ : List Int => .agg (arrV (iV .i64) xs_)) (fun u_ : Int => .int .i64 u_) x663 0 H 2 rfl E rfl rfl tbok rfl rfl (kArr Try.underlying99 Try.underlying3 (by kernel_rfl) (by kernel_rfl) (by kernel_rfl) (by kernel_rfl) (Maps.Keyed.of_law (deep_law (m := 3) (by decide) (by kernel_rfl) (by kernel_rfl) (by kernel_rfl)))) rfl rfl rfl g680 (fun _ => ⟨_, rfl⟩) ?_
    clear E; intro a E_; replace E := E_ _ rfl; clear E_
    refine vr tbok 5 [] [(3, .int .i64 (((List.length aAccept) : Nat) : Int)), (4, .slice (some ⟨b632, 0, none⟩) (List.length r18) c38), (5, .slice (some ⟨b626, 0, none⟩) (List.length of281) (Int.toNat (((List.length aAccept) : Nat) : Int))), (8, .int .i64 many283), (9, .map (some g449)), (10, .slice A451 (List.length next544) (Int.toNat (((List.length aAccept) : Nat) : Int))), (11, .int .i64 x545), (12, .pointer (some ⟨g620, 0, none⟩)), (15, .int .i64 (Option.getD (mget numbers543 x663) 0)), (16, .bool (Option.isSome (mget numbers543 x663))), (46, .int .i64 (((List.length of281) : Nat) : Int)), (47, .int .i64 x545)] [] E (by kernel_rfl) trivial ?_
    clear E; intro a E
    refine wpList_nil ?_
    refine th_n ?_
    refine wp_seq ?_
    refine wp_seq ?_
    refine wp_region_lit ?_
    refine vr tbok 2 [] [(3, .int .i64 (((List.length aAccept) : Nat) : Int)), (4, .slice (some ⟨b632, 0, none⟩) (List.length r18) c38), (5, .slice (some ⟨b626, 0, none⟩) (List.length of281) (Int.toNat (((List.length aAccept) : Nat) : Int))), (8, .int .i64 many283), (9, .map (some g449)), (10, .slice A451 (List.length next544) (Int.toNat (((List.length aAccept) : Nat) : Int))), (11, .int .i64 x545), (12, .pointer (some ⟨g620, 0, none⟩)), (15, .int .i64 (Option.getD (mget numbers543 x663) 0)), (46, .int .i64 (((List.length of281) : Nat) : Int)), (47, .int .i64 x545), (80, .bool (!(Option.isSome (mget numbers543 x663))))] [] E (by kernel_rfl) trivial ?_
    clear E; intro a E
    refine wpList_nil ?_
    refine th_n ?_
    refine E.cases (t := 80) rfl (fun hb_ E_ => ?_) (fun hb_ E_ => ?_)
    ·
     replace E := E_; clear E_
     have h681 : ¬ ((Option.isSome (mget numbers543 x663)) = true) := (ne_true_of_eq_false (not_t hb_))
     clear hb_; replace hP := ite_f h681 hP
     refine c_true E rfl ?_
     refine wp_seq ?_
     refine wp_region_lit ?_
     refine vr tbok 1 [] [(3, .int .i64 (((List.length aAccept) : Nat) : Int)), (4, .slice (some ⟨b632, 0, none⟩) (List.length r18) c38), (5, .slice (some ⟨b626, 0, none⟩) (List.length of281) (Int.toNat (((List.length aAccept) : Nat) : Int))), (8, .int .i64 many283), (9, .map (some g449)), (10, .slice A451 (List.length next544) (Int.toNat (((List.length aAccept) : Nat) : Int))), (11, .int .i64 x545), (12, .pointer (some ⟨g620, 0, none⟩)), (46, .int .i64 (((List.length of281) : Nat) : Int)), (47, .int .i64 x545), (81, .map (some g449))] [] E (by kernel_rfl) trivial ?_
     clear E; intro a E
     refine h_maplen (fun xs_ : List Int => .agg (arrV (iV .i64) xs_)) (fun u_ : Int => .int .i64 u_) H 2 rfl E rfl rfl tbok rfl rfl rfl ?_
     clear E; intro a E
     refine vr tbok 1 [] [(3, .int .i64 (((List.length aAccept) : Nat) : Int)), (4, .slice (some ⟨b632, 0, none⟩) (List.length r18) c38), (5, .slice (some ⟨b626, 0, none⟩) (List.length of281) (Int.toNat (((List.length aAccept) : Nat) : Int))), (8, .int .i64 many283), (9, .map (some g449)), (10, .slice A451 (List.length next544) (Int.toNat (((List.length aAccept) : Nat) : Int))), (11, .int .i64 x545), (12, .pointer (some ⟨g620, 0, none⟩)), (15, .int .i64 ((List.length numbers543 : Nat) : Int)), (46, .int .i64 (((List.length of281) : Nat) : Int)), (47, .int .i64 x545)] [] E (by kernel_rfl) trivial ?_
     clear E; intro a E
     refine wpList_nil ?_
     refine th_n ?_
     refine wp_region_lit ?_
     refine vr tbok 1 [] [(3, .int .i64 (((List.length aAccept) : Nat) : Int)), (4, .slice (some ⟨b632, 0, none⟩) (List.length r18) c38), (5, .slice (some ⟨b626, 0, none⟩) (List.length of281) (Int.toNat (((List.length aAccept) : Nat) : Int))), (8, .int .i64 many283), (9, .map (some g449)), (10, .slice A451 (List.length next544) (Int.toNat (((List.length aAccept) : Nat) : Int))), (11, .int .i64 x545), (12, .pointer (some ⟨g620, 0, none⟩)), (15, .int .i64 ((List.length numbers543 : Nat) : Int)), (46, .int .i64 (((List.length of281) : Nat) : Int)), (47, .int .i64 x545), (83, .map (some g449))] [] E (by kernel_rfl) trivial ?_
     clear E; intro a E
     refine h_loadArr (iV .i64) (xs := x663) H 4 rfl E rfl rfl tbok rfl rfl rfl rfl (fun _ _ _ _ h_ => h_) (by kernel_rfl) rfl ?_
     clear E; intro a E
     refine vr tbok 1 [] [(3, .int .i64 (((List.length aAccept) : Nat) : Int)), (4, .slice (some ⟨b632, 0, none⟩) (List.length r18) c38), (5, .slice (some ⟨b626, 0, none⟩) (List.length of281) (Int.toNat (((List.length aAccept) : Nat) : Int))), (8, .int .i64 many283), (9, .map (some g449)), (10, .slice A451 (List.length next544) (Int.toNat (((List.length aAccept) : Nat) : Int))), (11, .int .i64 x545), (15, .int .i64 ((List.length numbers543 : Nat) : Int)), (46, .int .i64 (((List.length of281) : Nat) : Int)), (47, .int .i64 x545), (83, .map (some g449)), (84, .agg (arrV (iV .i64) x663)), (85, .int .i64 ((List.length numbers543 : Nat) : Int))] [] E (by kernel_rfl) trivial ?_
     clear E; intro a E
     obtain ⟨g682, hP⟩ := ask_inv hP
     refine h_mapUpdate (fun xs_ : List Int => .agg (arrV (iV .i64) xs_)) (fun u_ : Int => .int .i64 u_) x663 ((List.length numbers543 : Nat) : Int) H 2 rfl E rfl rfl tbok rfl (kArr Try.underlying99 Try.underlying3 (by kernel_rfl) (by kernel_rfl) (by kernel_rfl) (by kernel_rfl) (Maps.Keyed.of_law (deep_law (m := 3) (by decide) (by kernel_rfl) (by kernel_rfl) (by kernel_rfl)))) rfl rfl rfl g680 g682 rfl ?_
     clear E; intro w683 a hc684 H_ E
     replace H := H_; clear H_; try dsimp only [setn, addE, goneL] at H
     refine wpList_nil ?_
     refine th_n ?_
     refine wp_region_lit ?_
     obtain ⟨g685, hP⟩ := ask_inv hP
     obtain ⟨b686, e_b686⟩ := H.raddrx 3 rfl (idx_pos g685)
     subst e_b686
     refine vr tbok 4 [] [(3, .int .i64 (((List.length aAccept) : Nat) : Int)), (4, .slice (some ⟨b632, 0, none⟩) (List.length r18) c38), (5, .slice (some ⟨b626, 0, none⟩) (List.length of281) (Int.toNat (((List.length aAccept) : Nat) : Int))), (8, .int .i64 many283), (9, .map (some g449)), (10, .slice (some ⟨b686, 0, none⟩) (List.length next544) (Int.toNat (((List.length aAccept) : Nat) : Int))), (46, .int .i64 (((List.length of281) : Nat) : Int)), (47, .int .i64 x545), (88, .int .i64 ((List.length numbers543 : Nat) : Int)), (89, .pointer (some ⟨b686, 0 + (Int.toNat x545) * 1, none⟩))] [0 ≤ x545 ∧ x545 < (((List.length next544) : Nat) : Int)] E (by kernel_rfl) (g685) ?_
     clear E; intro a E
     refine h_setx (g := b686) (i := x545) ((List.length numbers543 : Nat) : Int) H 3 rfl E rfl rfl rfl rfl tbok rfl (fun _ HF_ => rfl) rfl g685 rfl ?_
     clear E; intro w688 a hc689 H_ E
     replace H := H_; clear H_; try dsimp only [setn, addE, goneL] at H
     have hn690 : (List.length next544) = (List.length (List.set next544 (Int.toNat x545) ((List.length numbers543 : Nat) : Int))) := by simp only [List.length_set]
     replace E := E.same (t := 10) (u := .slice (some ⟨b686, 0, none⟩) (List.length (List.set next544 (Int.toNat x545) ((List.length numbers543 : Nat) : Int))) (Int.toNat (((List.length aAccept) : Nat) : Int))) rfl (congrArg (fun n_ => Value.slice (some ⟨b686, 0, none⟩) n_ (Int.toNat (((List.length aAccept) : Nat) : Int))) hn690)
     refine wpList_nil ?_
     refine bl_n ?_
     refine th_n ?_
     refine wp_region_lit ?_
     obtain ⟨g691, hP⟩ := ask_inv hP
     refine vr tbok 2 [.int .i64 (x545 + 1)] [(3, .int .i64 (((List.length aAccept) : Nat) : Int)), (4, .slice (some ⟨b632, 0, none⟩) (List.length r18) c38), (5, .slice (some ⟨b626, 0, none⟩) (List.length of281) (Int.toNat (((List.length aAccept) : Nat) : Int))), (8, .int .i64 many283), (9, .map (some g449)), (10, .slice (some ⟨b686, 0, none⟩) (List.length (List.set next544 (Int.toNat x545) ((List.length numbers543 : Nat) : Int))) (Int.toNat (((List.length aAccept) : Nat) : Int))), (46, .int .i64 (((List.length of281) : Nat) : Int)), (47, .int .i64 (x545 + 1))] [IntKind.i64.wrap (x545 + 1) = x545 + 1] E (by kernel_rfl) (wrap_in g691) ?_
     clear E; intro a E
     refine wpList_nil ?_
     exact th_n ⟨m612, Nat.lt_succ_self _, numbers543 ++ [(x663, ((List.length numbers543 : Nat) : Int))], List.set next544 (Int.toNat x545) ((List.length numbers543 : Nat) : Int), x545 + 1, E.pick _ ⟨rfl, rfl, rfl, rfl, rfl, rfl, rfl, rfl, trivial⟩, H.sel [0, 1, 2, 3] rfl, hP⟩
    replace E := E_; clear E_
    have h692 : (Option.isSome (mget numbers543 x663)) = true := (not_f hb_)
    clear hb_; replace hP := ite_t h692 hP
    refine c_false E rfl ?_
    refine wp_skip ?_
    refine th_n ?_
    refine wp_region_lit ?_
    obtain ⟨g693, hP⟩ := ask_inv hP
    obtain ⟨b694, e_b694⟩ := H.raddrx 3 rfl (idx_pos g693)
    subst e_b694
    refine vr tbok 4 [] [(3, .int .i64 (((List.length aAccept) : Nat) : Int)), (4, .slice (some ⟨b632, 0, none⟩) (List.length r18) c38), (5, .slice (some ⟨b626, 0, none⟩) (List.length of281) (Int.toNat (((List.length aAccept) : Nat) : Int))), (8, .int .i64 many283), (9, .map (some g449)), (10, .slice (some ⟨b694, 0, none⟩) (List.length next544) (Int.toNat (((List.length aAccept) : Nat) : Int))), (46, .int .i64 (((List.length of281) : Nat) : Int)), (47, .int .i64 x545), (88, .int .i64 (Option.getD (mget numbers543 x663) 0)), (89, .pointer (some ⟨b694, 0 + (Int.toNat x545) * 1, none⟩))] [0 ≤ x545 ∧ x545 < (((List.length next544) : Nat) : Int)] E (by kernel_rfl) (g693) ?_
    clear E; intro a E
    refine h_setx (g := b694) (i := x545) (Option.getD (mget numbers543 x663) 0) H 3 rfl E rfl rfl rfl rfl tbok rfl (fun _ HF_ => rfl) rfl g693 rfl ?_
    clear E; intro w696 a hc697 H_ E
    replace H := H_; clear H_; try dsimp only [setn, addE, goneL] at H
    have hn698 : (List.length next544) = (List.length (List.set next544 (Int.toNat x545) (Option.getD (mget numbers543 x663) 0))) := by simp only [List.length_set]
    replace E := E.same (t := 10) (u := .slice (some ⟨b694, 0, none⟩) (List.length (List.set next544 (Int.toNat x545) (Option.getD (mget numbers543 x663) 0))) (Int.toNat (((List.length aAccept) : Nat) : Int))) rfl (congrArg (fun n_ => Value.slice (some ⟨b694, 0, none⟩) n_ (Int.toNat (((List.length aAccept) : Nat) : Int))) hn698)
    refine wpList_nil ?_
    refine bl_n ?_
    refine th_n ?_
    refine wp_region_lit ?_
    obtain ⟨g699, hP⟩ := ask_inv hP
    refine vr tbok 2 [.int .i64 (x545 + 1)] [(3, .int .i64 (((List.length aAccept) : Nat) : Int)), (4, .slice (some ⟨b632, 0, none⟩) (List.length r18) c38), (5, .slice (some ⟨b626, 0, none⟩) (List.length of281) (Int.toNat (((List.length aAccept) : Nat) : Int))), (8, .int .i64 many283), (9, .map (some g449)), (10, .slice (some ⟨b694, 0, none⟩) (List.length (List.set next544 (Int.toNat x545) (Option.getD (mget numbers543 x663) 0))) (Int.toNat (((List.length aAccept) : Nat) : Int))), (46, .int .i64 (((List.length of281) : Nat) : Int)), (47, .int .i64 (x545 + 1))] [IntKind.i64.wrap (x545 + 1) = x545 + 1] E (by kernel_rfl) (wrap_in g699) ?_
    clear E; intro a E
    refine wpList_nil ?_
    exact th_n ⟨m612, Nat.lt_succ_self _, numbers543, List.set next544 (Int.toNat x545) (Option.getD (mget numbers543 x663) 0), x545 + 1, E.pick _ ⟨rfl, rfl, rfl, rfl, rfl, rfl, rfl, rfl, trivial⟩, H.sel [0, 1, 2, 3] rfl, hP⟩
   replace E := E_; clear E_
   have h700 : ¬ (x545 < (((List.length of281) : Nat) : Int)) := of_decide_eq_false hb_
   clear hb_; replace hP := ite_f h700 hP
   refine c_false E rfl ?_
   refine wp_exit ?_
   refine th_exit ?_
   have hx_ := Option.some.inj hP
   refine th_exit (.inl ⟨4, rfl, ?_⟩)
   exact ⟨rfl, (numbers543, next544), E.pick _ ⟨rfl, rfl, rfl, rfl, rfl, trivial⟩, H.sel [0, 2, 3] rfl, hx_.symm⟩
  clear E H hL614; intro i_ a w616 hM_
  obtain ⟨rfl, x618, E, H, hx_⟩ := hM_
  subst hx_; have hP := hK615; clear hK615
  refine bl_hit ?_
  refine th_n ?_
  refine wp_seq ?_
  refine wp_region_lit ?_
  refine vr tbok 2 [] [(3, .int .i64 (((List.length aAccept) : Nat) : Int)), (4, .slice A37 (List.length r18) c38), (5, .slice A451 (List.length x613.2) (Int.toNat (((List.length aAccept) : Nat) : Int))), (8, .int .i64 many283), (9, .map (some g449))] [] E (by kernel_rfl) trivial ?_
  clear E; intro a E
  refine wpList_nil ?_
  refine th_n ?_
  refine wp_seq ?_
  refine wp_seq ?_
  refine wp_region_lit ?_
  refine vr tbok 1 [] [(3, .int .i64 (((List.length aAccept) : Nat) : Int)), (4, .slice A37 (List.length r18) c38), (5, .slice A451 (List.length x613.2) (Int.toNat (((List.length aAccept) : Nat) : Int))), (8, .int .i64 many283), (9, .map (some g449)), (92, .map (some g449))] [] E (by kernel_rfl) trivial ?_
  clear E; intro a E
  refine h_maplen (fun xs_ : List Int => .agg (arrV (iV .i64) xs_)) (fun u_ : Int => .int .i64 u_) H 1 rfl E rfl rfl tbok rfl rfl rfl ?_
  clear E; intro a E
  refine vr tbok 2 [] [(3, .int .i64 (((List.length aAccept) : Nat) : Int)), (4, .slice A37 (List.length r18) c38), (5, .slice A451 (List.length x613.2) (Int.toNat (((List.length aAccept) : Nat) : Int))), (9, .map (some g449)), (95, .bool ((((List.length x613.1 : Nat) : Int) : Int) == many283))] [] E (by kernel_rfl) trivial ?_
  clear E; intro a E
  refine wpList_nil ?_
  refine th_n ?_
  refine E.cases (t := 95) rfl (fun hb_ E_ => ?_) (fun hb_ E_ => ?_)
  ·
   replace E := E_; clear E_
   have h701 : (((List.length x613.1 : Nat) : Int) : Int) = many283 := eq_of_beq hb_
   clear hb_; replace hP := ite_t h701 hP
   refine c_true E rfl ?_
   refine wp_seq ?_
   refine wp_region_lit ?_
   refine vr tbok 2 [] [(2, .slice A451 (List.length x613.2) (Int.toNat (((List.length aAccept) : Nat) : Int)))] [] E (by kernel_rfl) trivial ?_
   clear E; intro a E
   refine wpList_nil ?_
   refine th_n ?_
   refine wp_ret ?_
   refine th_ret ?_
   refine bl_ret ?_
   refine th_ret ?_
   refine .inr ⟨rfl, ?_⟩
   refine bl_ret ?_
   replace H := H.rowx 2 rfl; try dsimp only [setn, addE, goneL] at H
   have hx_ := Option.some.inj hP; subst hx_
   have hP : some (x613.2) = some r := hK435
   obtain rfl := Option.some.inj hP
   refine ret1 E rfl rfl ?_
   exact ⟨_, rfl, A451, (Int.toNat (((List.length aAccept) : Nat) : Int)), rfl, H.sel [2] rfl⟩
  replace E := E_; clear E_
  have h702 : ¬ ((((List.length x613.1 : Nat) : Int) : Int) = many283) := ne_of_beq_false hb_
  clear hb_; replace hP := ite_f h702 hP
  refine c_false E rfl ?_
  refine wp_skip ?_
  refine th_n ?_
  refine wp_region_lit ?_
  refine vr tbok 1 [] [(3, .int .i64 (((List.length aAccept) : Nat) : Int)), (4, .slice A37 (List.length r18) c38), (5, .slice A451 (List.length x613.2) (Int.toNat (((List.length aAccept) : Nat) : Int))), (97, .map (some g449))] [] E (by kernel_rfl) trivial ?_
  clear E; intro a E
  refine h_maplen (fun xs_ : List Int => .agg (arrV (iV .i64) xs_)) (fun u_ : Int => .int .i64 u_) H 1 rfl E rfl rfl tbok rfl rfl rfl ?_
  clear E; intro a E
  refine vr tbok 1 [] [(3, .int .i64 (((List.length aAccept) : Nat) : Int)), (4, .slice A37 (List.length r18) c38), (5, .slice A451 (List.length x613.2) (Int.toNat (((List.length aAccept) : Nat) : Int))), (8, .int .i64 ((List.length x613.1 : Nat) : Int))] [] E (by kernel_rfl) trivial ?_
  clear E; intro a E
  refine wpList_nil ?_
  refine bl_n ?_
  exact th_n ⟨m432, Nat.lt_succ_self _, x613.2, ((List.length x613.1 : Nat) : Int), A451, E.pick _ ⟨rfl, rfl, rfl, rfl, trivial⟩, H.sel [0, 2] rfl, hP⟩
 clear E H hL434; intro i_ a w436 hM_
 exact hM_.elim

end Go.V
