/- Plain functions, and the calls that give them. -/
import Derived.Test.YtflangjkfaalkaaA3
set_option linter.all false
set_option linter.unusedVariables false
set_option linter.unnecessarySimpa false
set_option linter.unusedSimpArgs false
namespace Go.V
open Go Go.Proofs
/-! slices.Clone[[]bool,bool] -/
def slices_Clone_bool_bool_some (N : Nat) (s : List Bool) : Option (List Bool) :=
  ask (List.length ([] : List Bool) + List.length s ≤ 1000000000) <|
  some (([] : List Bool) ++ s)
def slices_Clone_bool_bool_nil (N : Nat) : Option (List Bool) :=
  some []
def slices_Clone_bool_bool (N : Nat) (xs : List Bool) : Option (List Bool) := slices_Clone_bool_bool_some N xs
set_option maxRecDepth 100000 in
set_option maxHeartbeats 4000000 in
theorem slices_Clone_bool_bool_some_calls {N : Nat} {S Fa : Nat → Prop} {w0 : World} {r : List Bool} (A1 : Addr) (c2 : Nat) (s : List Bool) (hk3 : List.length s ≤ c2) (H : Hp S Fa w0 w0 [.ro false cBool (some A1) s]) (hP : slices_Clone_bool_bool_some N s = some r) :
    Calls Try.prog 54 #[.slice (some A1) (List.length s) c2] w0 fun e w' => ∃ v, e = .returned v ∧ ∃ (A16 : Option Addr) (c17 : Nat), v = .slice A16 (List.length r) c17 ∧ Hp S Fa w0 w' [.row true cBool 4 A16 c17 r] := by
 refine enterV (n := 8) Try.func54 rfl rfl rfl ?_
 intro a E
 replace E := E.pick [(0, .slice (some A1) (List.length s) c2)] ⟨rfl, trivial⟩
 rw [slices_Clone_bool_bool_some] at hP
 refine wp_seq ?_
 refine wp_region_lit ?_
 refine vn tbok 1 [] [] [] E (by kernel_rfl) (by kernel_rfl) trivial ?_
 clear E; intro a E
 refine wpList_nil ?_
 refine th_n ?_
 refine wp_seq ?_
 refine wp_seq ?_
 refine wp_region_lit ?_
 refine vn tbok 1 [] [(3, .slice (some A1) (List.length s) c2)] [] E (by kernel_rfl) (by kernel_rfl) trivial ?_
 clear E; intro a E
 refine e_eqNil E rfl rfl tbok rfl rfl rfl rfl ?_
 clear E; intro a E
 refine wpList_nil ?_
 refine th_n ?_
 refine c_false E rfl ?_
 refine wp_skip ?_
 refine th_n ?_
 refine wp_seq ?_
 refine wp_region_lit ?_
 refine h_buildSlice (ps := []) (cs := []) H E rfl rfl tbok rfl rfl (by kernel_rfl) ?_
 intro w6 g5 a hc7 hg9 H_ E_
 replace E := E_ _ rfl; clear E_
 replace H := H_; clear H_; try dsimp only [setn, addE, goneL] at H
 refine vn tbok 1 [] [(6, .slice (some A1) (List.length s) c2)] [] E (by kernel_rfl) (by kernel_rfl) trivial ?_
 clear E; intro a E
 replace H := H.boxRow cBool true ([] : List Bool) 1 rfl (fun _ _ => rfl) (Nat.le_of_ble_eq_true rfl); try dsimp only [setn, addE, goneL] at H
 replace H := H.rowx 1 rfl; try dsimp only [setn, addE, goneL] at H
 obtain ⟨g10, hP⟩ := ask_inv hP
 refine h_append cBool (xs := ([] : List Bool)) (ys := s) (false : Bool) H 1 rfl E rfl rfl tbok rfl rfl rfl rfl rfl (fun _ _ => rfl) rfl rfl (fun _ HF_ => HF_.srcF flat_plain 0 rds_ro) g10 ?_
 intro w11 A12 c13 a hc14 hA15 H_ E_
 replace E := E_ _ rfl; clear E_
 replace H := H_; clear H_; try dsimp only [setn, addE, goneL] at H
 refine vn tbok 1 [] [(2, .slice A12 (List.length (([] : List Bool) ++ s)) c13)] [] E (by kernel_rfl) (by kernel_rfl) trivial ?_
 clear E; intro a E
 refine wpList_nil ?_
 refine th_n ?_
 refine wp_ret ?_
 obtain rfl := Option.some.inj hP
 refine ret1 E rfl rfl ?_
 exact ⟨_, rfl, A12, c13, rfl, H.sel [1] rfl⟩

set_option maxRecDepth 100000 in
set_option maxHeartbeats 4000000 in
theorem slices_Clone_bool_bool_nil_callsC {N : Nat} {S Fa : Nat → Prop} {w0 : World} {r : List Bool} (c0 : Nat) (H : Hp S Fa w0 w0 []) (hP : slices_Clone_bool_bool_nil N  = some r) :
    Calls Try.prog 54 #[.slice none 0 c0] w0 fun e w' => ∃ v, e = .returned v ∧ ∃ (A2 : Option Addr) (c3 : Nat), v = .slice A2 (List.length r) c3 ∧ Hp S Fa w0 w' [.row true cBool 4 A2 c3 r] := by
 refine enterV (n := 8) Try.func54 rfl rfl rfl ?_
 intro a E
 replace E := E.pick [(0, .slice none 0 c0)] ⟨rfl, trivial⟩
 rw [slices_Clone_bool_bool_nil] at hP
 refine wp_seq ?_
 refine wp_region_lit ?_
 refine vn tbok 1 [] [] [] E (by kernel_rfl) (by kernel_rfl) trivial ?_
 clear E; intro a E
 refine wpList_nil ?_
 refine th_n ?_
 refine wp_seq ?_
 refine wp_seq ?_
 refine wp_region_lit ?_
 refine vn tbok 1 [] [(3, .slice none 0 c0)] [] E (by kernel_rfl) (by kernel_rfl) trivial ?_
 clear E; intro a E
 refine e_eqNil E rfl rfl tbok rfl rfl rfl rfl ?_
 clear E; intro a E
 refine wpList_nil ?_
 refine th_n ?_
 refine c_true E rfl ?_
 refine wp_seq ?_
 refine wp_region_lit ?_
 refine vn tbok 1 [] [(2, .slice none 0 0)] [] E (by kernel_rfl) (by kernel_rfl) trivial ?_
 clear E; intro a E
 refine wpList_nil ?_
 refine th_n ?_
 refine wp_ret ?_
 refine th_ret ?_
 replace H := H.nilrow cBool 4; try dsimp only [setn, addE, goneL] at H
 obtain rfl := Option.some.inj hP
 refine ret1 E rfl rfl ?_
 exact ⟨_, rfl, none, 0, rfl, H.sel [0] rfl⟩

theorem slices_Clone_bool_bool_calls {N : Nat} {S Fa : Nat → Prop} {w0 : World} {r : List Bool} (A1 : Option Addr) (c2 : Nat) (xs : List Bool) (hk : List.length xs ≤ c2) (H : Hp S Fa w0 w0 [.ro false cBool A1 xs]) (hP : slices_Clone_bool_bool N xs = some r) :
    Calls Try.prog 54 #[.slice A1 (List.length xs) c2] w0 fun e w' => ∃ v, e = .returned v ∧ ∃ (A9 : Option Addr) (c9 : Nat), v = .slice A9 (List.length r) c9 ∧ Hp S Fa w0 w' [.row true cBool 4 A9 c9 r] := by
  cases A1 with
  | some ad => exact slices_Clone_bool_bool_some_calls ad c2 xs hk H hP
  | none =>
    obtain rfl := (H.rd 0 rds_ro).nil
    have h2 : c2 = c2 := rfl
    rw [slices_Clone_bool_bool, slices_Clone_bool_bool_some] at hP
    obtain ⟨_, hr⟩ := ask_inv hP
    obtain rfl : [] = r := Option.some.inj hr
    exact slices_Clone_bool_bool_nil_callsC (N := N) c2 (H.sel [] rfl) rfl

/-! rejoinder/attract.before -/
def attract_before_f5 (N : Nat) (all : List (List (List Int))) (won : List Bool) (x125 : Int) (x292 : Int) (x430 : Int) : Option Unit :=
    ask (idx (List.getD (List.getD (List.getD all (Int.toNat x125) []) (Int.toNat x292) []) (Int.toNat x430) 0) (List.length won)) <|
    some ()
def attract_before_l4 (N : Nat) (all : List (List (List Int))) (won : List Bool) (x125 : Int) (x292 : Int) : Nat → Int → Option (Unit ⊕ Int)
  | 0, _ => none
  | m444 + 1, x430 =>
    if x430 < (((List.length (List.getD (List.getD all (Int.toNat x125) []) (Int.toNat x292) [])) : Nat) : Int) then
      ask (idx x430 (List.length (List.getD (List.getD all (Int.toNat x125) []) (Int.toNat x292) []))) <|
      Option.bind (attract_before_f5 N all won x125 x292 x430) fun x458 =>
      if (List.getD won (Int.toNat (List.getD (List.getD (List.getD all (Int.toNat x125) []) (Int.toNat x292) []) (Int.toNat x430) 0)) false) = true then
        some (Sum.inr x430)
      else
        ask (in64 (x430 + 1)) <|
        attract_before_l4 N all won x125 x292 m444 (x430 + 1)
    else
      some (Sum.inl ())
def attract_before_f3 (N : Nat) (all : List (List (List Int))) (won : List Bool) (x125 : Int) (x292 : Int) : Option Int :=
    Option.bind (attract_before_l4 N all won x125 x292 N 0) fun x445 =>
    Sum.elim (fun x450 =>
      some (-1))
     (fun x470 =>
      some x470) x445
def attract_before_f2 (N : Nat) (all : List (List (List Int))) (won : List Bool) (x125 : Int) (x292 : Int) : Option Bool :=
    Option.bind (attract_before_f3 N all won x125 x292) fun x415 =>
    some (decide (0 ≤ x415))
def attract_before_l1 (N : Nat) (all : List (List (List Int))) (won : List Bool) (x125 : Int) : Nat → Int → Option (Unit ⊕ Unit)
  | 0, _ => none
  | m338 + 1, x292 =>
    if x292 < (((List.length (List.getD all (Int.toNat x125) [])) : Nat) : Int) then
      ask (idx x292 (List.length (List.getD all (Int.toNat x125) []))) <|
      Option.bind (attract_before_f2 N all won x125 x292) fun x385 =>
      if x385 = true then
        ask (in64 (x292 + 1)) <|
        attract_before_l1 N all won x125 m338 (x292 + 1)
      else
        some (Sum.inl ())
    else
      some (Sum.inr ())
def attract_before_l0 (N : Nat) (all : List (List (List Int))) (won : List Bool) : Nat → (List Bool) → Int → Option (List Bool)
  | 0, _, _ => none
  | m232 + 1, out124, x125 =>
    if x125 < (((List.length all) : Nat) : Int) then
      ask (idx x125 (List.length all)) <|
      Option.bind (attract_before_l1 N all won x125 N 0) fun x339 =>
      Sum.elim (fun x344 =>
        ask (in64 (x125 + 1)) <|
        attract_before_l0 N all won m232 out124 (x125 + 1))
       (fun x345 =>
        ask (idx x125 (List.length out124)) <|
        ask (in64 (x125 + 1)) <|
        attract_before_l0 N all won m232 (List.set out124 (Int.toNat x125) true) (x125 + 1)) x339
    else
      some out124
def attract_before (N : Nat) (all : List (List (List Int))) (won : List Bool) : Option (List Bool) :=
  ask (0 ≤ (((List.length all) : Nat) : Int) ∧ (((List.length all) : Nat) : Int) ≤ 1000000000) <|
  Option.bind (attract_before_l0 N all won N (List.replicate (Int.toNat (((List.length all) : Nat) : Int)) (false : Bool)) 0) fun x233 =>
  some x233
set_option maxRecDepth 100000 in
set_option maxHeartbeats 4000000 in
theorem attract_before_calls {N : Nat} {S Fa : Nat → Prop} {w0 : World} {r : List Bool} (A1 : Option Addr) (c2 : Nat) (A5 : Option Addr) (c6 : Nat) (all : List (List (List Int))) (won : List Bool) (hk3 : List.length all ≤ c2) (hk7 : List.length won ≤ c6) (H : Hp S Fa w0 w0 [.ro false (cSl (cSl (cInt .i64))) A1 all, .ro false cBool A5 won]) (hP : attract_before N all won = some r) :
    Calls Try.prog 55 #[.slice A1 (List.length all) c2, .slice A5 (List.length won) c6] w0 fun e w' => ∃ v, e = .returned v ∧ ∃ (A486 : Option Addr) (c487 : Nat), v = .slice A486 (List.length r) c487 ∧ Hp S Fa w0 w' [.row true cBool 4 A486 c487 r] := by
 refine enterV (n := 36) Try.func55 rfl rfl rfl ?_
 intro a E
 replace E := E.pick [(0, .slice A1 (List.length all) c2), (1, .slice A5 (List.length won) c6)] ⟨rfl, rfl, trivial⟩
 rw [attract_before] at hP
 refine wp_seq ?_
 refine wp_region_lit ?_
 refine h_box H E rfl rfl rfl ?_
 intro w10 g9 a hc11 hg13 H_ E_
 replace E := E_ _ rfl; clear E_
 replace H := H_; clear H_; try dsimp only [setn, addE, goneL] at H
 refine vn tbok 1 [] [] [] E (by kernel_rfl) (by kernel_rfl) trivial ?_
 clear E; intro a E
 refine wpList_nil ?_
 refine th_n ?_
 refine wp_scope_straight ?_
 refine wp_seq ?_
 refine wp_region_lit ?_
 refine vn tbok 2 [] [(11, .int .i64 (((List.length all) : Nat) : Int))] [] E (by kernel_rfl) (by kernel_rfl) trivial ?_
 clear E; intro a E
 obtain ⟨g14, hP⟩ := ask_inv hP
 refine h_make cBool (false : Bool) H E rfl rfl tbok rfl rfl rfl rfl ⟨g14.1, Int.le_refl _, g14.2⟩ rfl rfl rfl (fun _ _ => rfl) ?_
 intro w16 g15 a hc17 hg19 H_ E_
 replace E := E_ _ rfl; clear E_
 replace H := H_; clear H_; try dsimp only [setn, addE, goneL] at H
 refine vn tbok 1 [] [(5, .slice (some ⟨g15, 0, none⟩) (List.length (List.replicate (Int.toNat (((List.length all) : Nat) : Int)) (false : Bool))) (Int.toNat (((List.length all) : Nat) : Int)))] [] E (by kernel_rfl) (by kernel_rfl) trivial ?_
 clear E; intro a E
 refine wpList_nil ?_
 refine th_n ?_
 refine wp_seq ?_
 refine wp_label ?_
 refine th_n ?_
 refine wp_seq ?_
 refine wp_seq ?_
 refine wp_region_lit ?_
 refine vn tbok 3 [] [(13, .slice A1 (List.length all) c2), (14, .int .i64 (((List.length all) : Nat) : Int)), (15, .int .i64 0)] [] E (by kernel_rfl) (by kernel_rfl) trivial ?_
 clear E; intro a E
 refine wpList_nil ?_
 refine th_n ?_
 refine wp_block ?_
 obtain ⟨x233, hL234, hK235⟩ := bind_inv hP
 clear hP
 refine loop_cut (fun i_ a w_ => (i_ = 0 ∧ ∃ (x238 : List Bool), Fr a 36 [(5, .slice (some ⟨g15, 0, none⟩) (List.length x238) (Int.toNat (((List.length all) : Nat) : Int)))] ∧ Hp S Fa w0 w_ [.rowx true cBool 4 (some ⟨g15, 0, none⟩) (Int.toNat (((List.length all) : Nat) : Int)) x238 (List.replicate (Int.toNat (((List.length all) : Nat) : Int) - Int.toNat (((List.length all) : Nat) : Int)) (false : Bool))] ∧ x233 = x238)) ?_ ?_
 ·
  refine loopV (fun m237 a w236 => ∃ (out124 : List Bool) (x125 : Int), Fr a 36 [(3, .pointer (some ⟨g9, 0, none⟩)), (5, .slice (some ⟨g15, 0, none⟩) (List.length out124) (Int.toNat (((List.length all) : Nat) : Int))), (13, .slice A1 (List.length all) c2), (14, .int .i64 (((List.length all) : Nat) : Int)), (15, .int .i64 x125)] ∧ Hp S Fa w0 w236 [.ro false cBool A5 won, .box g9 22 [.slice A5 (List.length won) c6], .rowx true cBool 4 (some ⟨g15, 0, none⟩) (Int.toNat (((List.length all) : Nat) : Int)) out124 (List.replicate (Int.toNat (((List.length all) : Nat) : Int) - Int.toNat (((List.length all) : Nat) : Int)) (false : Bool)), .ro false (cSl (cSl (cInt .i64))) A1 all] ∧ attract_before_l0 N all won m237 out124 x125 = some x233) N ?_ ?_
  ·
   exact ⟨List.replicate (Int.toNat (((List.length all) : Nat) : Int)) (false : Bool), 0, E.pick _ ⟨rfl, rfl, rfl, rfl, rfl, trivial⟩, H.sel [1, 2, 3, 0] rfl, hL234⟩
  clear E H hL234; intro m237 a w236 hI_
  obtain ⟨out124, x125, E, H, hP⟩ := hI_
  obtain ⟨m232, rfl⟩ : ∃ q_, m237 = q_ + 1 := by cases m237 with | zero => rw [attract_before_l0] at hP; cases hP | succ q_ => exact ⟨q_, rfl⟩
  rw [attract_before_l0] at hP
  refine wp_seq ?_
  refine wp_region_lit ?_
  refine vn tbok 1 [] [(16, .bool (decide (x125 < (((List.length all) : Nat) : Int))))] [] E (by kernel_rfl) (by kernel_rfl) trivial ?_
  clear E; intro a E
  refine wpList_nil ?_
  refine th_n ?_
  refine wp_seq ?_
  refine E.cases (t := 16) rfl (fun hb_ E_ => ?_) (fun hb_ E_ => ?_)
  ·
   replace E := E_; clear E_
   have h239 : x125 < (((List.length all) : Nat) : Int) := of_decide_eq_true hb_
   clear hb_; replace hP := ite_t h239 hP
   refine c_true E rfl ?_
   refine wp_skip ?_
   refine th_n ?_
   refine wp_seq ?_
   refine wp_block ?_
   refine wp_seq ?_
   refine wp_region_lit ?_
   obtain ⟨g240, hP⟩ := ask_inv hP
   obtain ⟨b241, o242, e_b241⟩ := (H.rd 3 rds_ro).addr (idx_pos g240)
   subst e_b241
   obtain ⟨A243, c244, hl245, hk246, H⟩ := H.subSl 3 false (el_ro rfl) g240
   try dsimp only [addE] at H
   refine vn tbok 5 [.slice A243 (List.length (List.getD all (Int.toNat x125) [])) c244] [(6, .int .i64 x125), (7, .slice A243 (List.length (List.getD all (Int.toNat x125) [])) c244)] [0 ≤ x125 ∧ x125 < (((List.length all) : Nat) : Int), World.cell? w236 ⟨b241, o242 + (Int.toNat x125) * 1, none⟩ = some (.slice A243 (List.length (List.getD all (Int.toNat x125) [])) c244)] E (by kernel_rfl) (by kernel_rfl) ⟨g240, hl245⟩ ?_
   clear E; intro a E
   refine wpList_nil ?_
   refine th_n ?_
   refine wp_seq ?_
   refine wp_seq ?_
   refine wp_region_lit ?_
   refine vn tbok 3 [] [(20, .slice A243 (List.length (List.getD all (Int.toNat x125) [])) c244), (21, .int .i64 (((List.length (List.getD all (Int.toNat x125) [])) : Nat) : Int)), (22, .int .i64 0)] [] E (by kernel_rfl) (by kernel_rfl) trivial ?_
   clear E; intro a E
   refine wpList_nil ?_
   refine th_n ?_
   refine wp_block ?_
   obtain ⟨x339, hL340, hK341⟩ := bind_inv hP
   clear hP
   refine loop_cut (fun i_ a w_ => (i_ = 1 ∧ ∃ (x344 : Unit), Fr a 36 [(3, .pointer (some ⟨g9, 0, none⟩)), (5, .slice (some ⟨g15, 0, none⟩) (List.length out124) (Int.toNat (((List.length all) : Nat) : Int))), (13, .slice (some ⟨b241, o242, none⟩) (List.length all) c2), (14, .int .i64 (((List.length all) : Nat) : Int)), (15, .int .i64 x125)] ∧ Hp S Fa w0 w_ [.ro false cBool A5 won, .box g9 22 [.slice A5 (List.length won) c6], .rowx true cBool 4 (some ⟨g15, 0, none⟩) (Int.toNat (((List.length all) : Nat) : Int)) out124 (List.replicate (Int.toNat (((List.length all) : Nat) : Int) - Int.toNat (((List.length all) : Nat) : Int)) (false : Bool)), .ro false (cSl (cSl (cInt .i64))) (some ⟨b241, o242, none⟩) all] ∧ x339 = Sum.inl x344) ∨ (i_ = 2 ∧ ∃ (x345 : Unit), Fr a 36 [(3, .pointer (some ⟨g9, 0, none⟩)), (5, .slice (some ⟨g15, 0, none⟩) (List.length out124) (Int.toNat (((List.length all) : Nat) : Int))), (6, .int .i64 x125), (13, .slice (some ⟨b241, o242, none⟩) (List.length all) c2), (14, .int .i64 (((List.length all) : Nat) : Int)), (15, .int .i64 x125)] ∧ Hp S Fa w0 w_ [.ro false cBool A5 won, .box g9 22 [.slice A5 (List.length won) c6], .rowx true cBool 4 (some ⟨g15, 0, none⟩) (Int.toNat (((List.length all) : Nat) : Int)) out124 (List.replicate (Int.toNat (((List.length all) : Nat) : Int) - Int.toNat (((List.length all) : Nat) : Int)) (false : Bool)), .ro false (cSl (cSl (cInt .i64))) (some ⟨b241, o242, none⟩) all] ∧ x339 = Sum.inr x345)) ?_ ?_
   ·
    refine loopV (fun m343 a w342 => ∃ (x292 : Int), Fr a 36 [(3, .pointer (some ⟨g9, 0, none⟩)), (5, .slice (some ⟨g15, 0, none⟩) (List.length out124) (Int.toNat (((List.length all) : Nat) : Int))), (6, .int .i64 x125), (13, .slice (some ⟨b241, o242, none⟩) (List.length all) c2), (14, .int .i64 (((List.length all) : Nat) : Int)), (15, .int .i64 x125), (20, .slice A243 (List.length (List.getD all (Int.toNat x125) [])) c244), (21, .int .i64 (((List.length (List.getD all (Int.toNat x125) [])) : Nat) : Int)), (22, .int .i64 x292)] ∧ Hp S Fa w0 w342 [.ro false cBool A5 won, .box g9 22 [.slice A5 (List.length won) c6], .rowx true cBool 4 (some ⟨g15, 0, none⟩) (Int.toNat (((List.length all) : Nat) : Int)) out124 (List.replicate (Int.toNat (((List.length all) : Nat) : Int) - Int.toNat (((List.length all) : Nat) : Int)) (false : Bool)), .ro false (cSl (cSl (cInt .i64))) (some ⟨b241, o242, none⟩) all, .ro false (cSl (cInt .i64)) A243 (List.getD all (Int.toNat x125) [])] ∧ attract_before_l1 N all won x125 m343 x292 = some x339) N ?_ ?_
    ·
     exact ⟨0, E.pick _ ⟨rfl, rfl, rfl, rfl, rfl, rfl, rfl, rfl, rfl, trivial⟩, H.sel [0, 1, 2, 3, 4] rfl, hL340⟩
    clear E H hL340; intro m343 a w342 hI_
    obtain ⟨x292, E, H, hP⟩ := hI_
    obtain ⟨m338, rfl⟩ : ∃ q_, m343 = q_ + 1 := by cases m343 with | zero => rw [attract_before_l1] at hP; cases hP | succ q_ => exact ⟨q_, rfl⟩
    rw [attract_before_l1] at hP
    refine wp_seq ?_
    refine wp_region_lit ?_
    refine vn tbok 1 [] [(23, .bool (decide (x292 < (((List.length (List.getD all (Int.toNat x125) [])) : Nat) : Int))))] [] E (by kernel_rfl) (by kernel_rfl) trivial ?_
    clear E; intro a E
    refine wpList_nil ?_
    refine th_n ?_
    refine wp_seq ?_
    refine E.cases (t := 23) rfl (fun hb_ E_ => ?_) (fun hb_ E_ => ?_)
    ·
     replace E := E_; clear E_
     have h346 : x292 < (((List.length (List.getD all (Int.toNat x125) [])) : Nat) : Int) := of_decide_eq_true hb_
     clear hb_; replace hP := ite_t h346 hP
     refine c_true E rfl ?_
     refine wp_skip ?_
     refine th_n ?_
     refine wp_seq ?_
     refine wp_block ?_
     refine wp_seq ?_
     refine wp_region_lit ?_
     obtain ⟨g347, hP⟩ := ask_inv hP
     obtain ⟨b348, o349, e_b348⟩ := (H.rd 4 rds_ro).addr (idx_pos g347)
     subst e_b348
     obtain ⟨A350, c351, hl352, hk353, H⟩ := H.subSl 4 false (el_ro rfl) g347
     try dsimp only [addE] at H
     refine vn tbok 3 [.slice A350 (List.length (List.getD (List.getD all (Int.toNat x125) []) (Int.toNat x292) [])) c351] [(9, .slice A350 (List.length (List.getD (List.getD all (Int.toNat x125) []) (Int.toNat x292) [])) c351)] [0 ≤ x292 ∧ x292 < (((List.length (List.getD all (Int.toNat x125) [])) : Nat) : Int), World.cell? w342 ⟨b348, o349 + (Int.toNat x292) * 1, none⟩ = some (.slice A350 (List.length (List.getD (List.getD all (Int.toNat x125) []) (Int.toNat x292) [])) c351)] E (by kernel_rfl) (by kernel_rfl) ⟨g347, hl352⟩ ?_
     clear E; intro a E
     refine wpList_nil ?_
     refine th_n ?_
     refine wp_seq ?_
     refine wp_region_lit ?_
     refine vn tbok 1 [] [(26, .slice A350 (List.length (List.getD (List.getD all (Int.toNat x125) []) (Int.toNat x292) [])) c351)] [] E (by kernel_rfl) (by kernel_rfl) trivial ?_
     clear E; intro a E
     refine e_makeFunc (vs := [.pointer (some ⟨g9, 0, none⟩)]) E rfl rfl rfl rfl ?_
     clear E; intro a E
     obtain ⟨x385, h386, hP⟩ := bind_inv hP
     refine e_call (R := fun v_ w_ => ∃ (x387 : Bool), v_ = .bool x387 ∧ Hp S Fa w0 w_ [.ro false cBool A5 won, .box g9 22 [.slice A5 (List.length won) c6], .rowx true cBool 4 (some ⟨g15, 0, none⟩) (Int.toNat (((List.length all) : Nat) : Int)) out124 (List.replicate (Int.toNat (((List.length all) : Nat) : Int) - Int.toNat (((List.length all) : Nat) : Int)) (false : Bool)), .ro false (cSl (cSl (cInt .i64))) (some ⟨b241, o242, none⟩) all, .ro false (cSl (cInt .i64)) (some ⟨b348, o349, none⟩) (List.getD all (Int.toNat x125) []), .ro false (cInt .i64) A350 (List.getD (List.getD all (Int.toNat x125) []) (Int.toNat x292) [])] ∧ x385 = x387) E rfl rfl Try.func76 rfl rfl rfl ?_ ?_
     ·
      clear E hP; have hP := h386; clear h386; rw [attract_before_f2] at hP
      refine enterV (n := 9) Try.func76 rfl rfl rfl ?_
      intro a E
      replace E := E.pick [(0, .slice A350 (List.length (List.getD (List.getD all (Int.toNat x125) []) (Int.toNat x292) [])) c351), (1, .func (.func 77) #[] #[.pointer (some ⟨g9, 0, none⟩)])] ⟨rfl, rfl, trivial⟩
      refine wp_seq ?_
      refine wp_region_lit ?_
      refine vn tbok 1 [] [] [] E (by kernel_rfl) (by kernel_rfl) trivial ?_
      clear E; intro a E
      refine wpList_nil ?_
      refine th_n ?_
      refine wp_seq ?_
      refine wp_region_lit ?_
      refine vn tbok 2 [] [(5, .slice A350 (List.length (List.getD (List.getD all (Int.toNat x125) []) (Int.toNat x292) [])) c351), (6, .func (.func 77) #[] #[.pointer (some ⟨g9, 0, none⟩)])] [] E (by kernel_rfl) (by kernel_rfl) trivial ?_
      clear E; intro a E
      obtain ⟨x415, h416, hP⟩ := bind_inv hP
      refine e_call (R := fun v_ w_ => ∃ (x417 : Int), v_ = .int .i64 x417 ∧ Hp S Fa w0 w_ [.ro false cBool A5 won, .box g9 22 [.slice A5 (List.length won) c6], .rowx true cBool 4 (some ⟨g15, 0, none⟩) (Int.toNat (((List.length all) : Nat) : Int)) out124 (List.replicate (Int.toNat (((List.length all) : Nat) : Int) - Int.toNat (((List.length all) : Nat) : Int)) (false : Bool)), .ro false (cSl (cSl (cInt .i64))) (some ⟨b241, o242, none⟩) all, .ro false (cSl (cInt .i64)) (some ⟨b348, o349, none⟩) (List.getD all (Int.toNat x125) []), .ro false (cInt .i64) A350 (List.getD (List.getD all (Int.toNat x125) []) (Int.toNat x292) [])] ∧ x415 = x417) E rfl rfl Try.func81 rfl rfl rfl ?_ ?_
      ·
       clear E hP; have hP := h416; clear h416; rw [attract_before_f3] at hP
       refine enterV (n := 19) Try.func81 rfl rfl rfl ?_
       intro a E
       replace E := E.pick [(0, .slice A350 (List.length (List.getD (List.getD all (Int.toNat x125) []) (Int.toNat x292) [])) c351), (1, .func (.func 77) #[] #[.pointer (some ⟨g9, 0, none⟩)])] ⟨rfl, rfl, trivial⟩
       refine wp_seq ?_
       refine wp_region_lit ?_
       refine vn tbok 1 [] [] [] E (by kernel_rfl) (by kernel_rfl) trivial ?_
       clear E; intro a E
       refine wpList_nil ?_
       refine th_n ?_
       refine wp_seq ?_
       refine wp_seq ?_
       refine wp_region_lit ?_
       refine vn tbok 3 [] [(7, .int .i64 (((List.length (List.getD (List.getD all (Int.toNat x125) []) (Int.toNat x292) [])) : Nat) : Int)), (8, .int .i64 0)] [] E (by kernel_rfl) (by kernel_rfl) trivial ?_
       clear E; intro a E
       refine wpList_nil ?_
       refine th_n ?_
       refine wp_block ?_
       obtain ⟨x445, hL446, hK447⟩ := bind_inv hP
       clear hP
       refine loop_cut (fun i_ a w_ => (i_ = 0 ∧ ∃ (x450 : Unit), Fr a 19 [] ∧ Hp S Fa w0 w_ [.ro false cBool A5 won, .box g9 22 [.slice A5 (List.length won) c6], .rowx true cBool 4 (some ⟨g15, 0, none⟩) (Int.toNat (((List.length all) : Nat) : Int)) out124 (List.replicate (Int.toNat (((List.length all) : Nat) : Int) - Int.toNat (((List.length all) : Nat) : Int)) (false : Bool)), .ro false (cSl (cSl (cInt .i64))) (some ⟨b241, o242, none⟩) all, .ro false (cSl (cInt .i64)) (some ⟨b348, o349, none⟩) (List.getD all (Int.toNat x125) []), .ro false (cInt .i64) A350 (List.getD (List.getD all (Int.toNat x125) []) (Int.toNat x292) [])] ∧ x445 = Sum.inl x450)) ?_ ?_
       ·
        refine loopV (fun m449 a w448 => ∃ (x430 : Int), Fr a 19 [(0, .slice A350 (List.length (List.getD (List.getD all (Int.toNat x125) []) (Int.toNat x292) [])) c351), (1, .func (.func 77) #[] #[.pointer (some ⟨g9, 0, none⟩)]), (7, .int .i64 (((List.length (List.getD (List.getD all (Int.toNat x125) []) (Int.toNat x292) [])) : Nat) : Int)), (8, .int .i64 x430)] ∧ Hp S Fa w0 w448 [.ro false (cInt .i64) A350 (List.getD (List.getD all (Int.toNat x125) []) (Int.toNat x292) []), .ro false cBool A5 won, .box g9 22 [.slice A5 (List.length won) c6], .rowx true cBool 4 (some ⟨g15, 0, none⟩) (Int.toNat (((List.length all) : Nat) : Int)) out124 (List.replicate (Int.toNat (((List.length all) : Nat) : Int) - Int.toNat (((List.length all) : Nat) : Int)) (false : Bool)), .ro false (cSl (cSl (cInt .i64))) (some ⟨b241, o242, none⟩) all, .ro false (cSl (cInt .i64)) (some ⟨b348, o349, none⟩) (List.getD all (Int.toNat x125) [])] ∧ attract_before_l4 N all won x125 x292 m449 x430 = some x445) N ?_ ?_
        ·
         exact ⟨0, E.pick _ ⟨rfl, rfl, rfl, rfl, trivial⟩, H.sel [5, 0, 1, 2, 3, 4] rfl, hL446⟩
        clear E H hL446; intro m449 a w448 hI_
        obtain ⟨x430, E, H, hP⟩ := hI_
        obtain ⟨m444, rfl⟩ : ∃ q_, m449 = q_ + 1 := by cases m449 with | zero => rw [attract_before_l4] at hP; cases hP | succ q_ => exact ⟨q_, rfl⟩
        rw [attract_before_l4] at hP
        refine wp_seq ?_
        refine wp_region_lit ?_
        refine vn tbok 1 [] [(9, .bool (decide (x430 < (((List.length (List.getD (List.getD all (Int.toNat x125) []) (Int.toNat x292) [])) : Nat) : Int))))] [] E (by kernel_rfl) (by kernel_rfl) trivial ?_
        clear E; intro a E
        refine wpList_nil ?_
        refine th_n ?_
        refine wp_seq ?_
        refine E.cases (t := 9) rfl (fun hb_ E_ => ?_) (fun hb_ E_ => ?_)
        ·
         replace E := E_; clear E_
         have h451 : x430 < (((List.length (List.getD (List.getD all (Int.toNat x125) []) (Int.toNat x292) [])) : Nat) : Int) := of_decide_eq_true hb_
         clear hb_; replace hP := ite_t h451 hP
         refine c_true E rfl ?_
         refine wp_skip ?_
         refine th_n ?_
         refine wp_seq ?_
         refine wp_block ?_
         refine wp_seq ?_
         refine wp_region_lit ?_
         refine vn tbok 2 [] [(5, .int .i64 x430)] [] E (by kernel_rfl) (by kernel_rfl) trivial ?_
         clear E; intro a E
         refine wpList_nil ?_
         refine th_n ?_
         refine wp_seq ?_
         refine wp_region_lit ?_
         obtain ⟨g452, hP⟩ := ask_inv hP
         obtain ⟨b453, o454, e_b453⟩ := (H.rd 0 rds_ro).addr (idx_pos g452)
         subst e_b453
         refine vn tbok 5 [.int .i64 (List.getD (List.getD (List.getD all (Int.toNat x125) []) (Int.toNat x292) []) (Int.toNat x430) 0)] [(11, .func (.func 77) #[] #[.pointer (some ⟨g9, 0, none⟩)]), (15, .int .i64 (List.getD (List.getD (List.getD all (Int.toNat x125) []) (Int.toNat x292) []) (Int.toNat x430) 0))] [0 ≤ x430 ∧ x430 < (((List.length (List.getD (List.getD all (Int.toNat x125) []) (Int.toNat x292) [])) : Nat) : Int), World.cell? w448 ⟨b453, o454 + (Int.toNat x430) * 1, none⟩ = some (.int .i64 (List.getD (List.getD (List.getD all (Int.toNat x125) []) (Int.toNat x292) []) (Int.toNat x430) 0))] E (by kernel_rfl) (by kernel_rfl) ⟨g452, Rds.at1 (H.rd 0 rds_ro) 0 g452⟩ ?_
         clear E; intro a E
         obtain ⟨x458, h459, hP⟩ := bind_inv hP
         refine e_callv (R := fun v_ w_ => ∃ (x460 : Unit), v_ = .bool (List.getD won (Int.toNat (List.getD (List.getD (List.getD all (Int.toNat x125) []) (Int.toNat x292) []) (Int.toNat x430) 0)) false) ∧ Hp S Fa w0 w_ [.ro false cBool A5 won, .box g9 22 [.slice A5 (List.length won) c6], .rowx true cBool 4 (some ⟨g15, 0, none⟩) (Int.toNat (((List.length all) : Nat) : Int)) out124 (List.replicate (Int.toNat (((List.length all) : Nat) : Int) - Int.toNat (((List.length all) : Nat) : Int)) (false : Bool)), .ro false (cSl (cSl (cInt .i64))) (some ⟨b241, o242, none⟩) all, .ro false (cSl (cInt .i64)) (some ⟨b348, o349, none⟩) (List.getD all (Int.toNat x125) []), .ro false (cInt .i64) (some ⟨b453, o454, none⟩) (List.getD (List.getD all (Int.toNat x125) []) (Int.toNat x292) [])] ∧ x458 = x460) E rfl rfl rfl Try.func77 rfl rfl rfl ?_ ?_
         ·
          clear E hP; have hP := h459; clear h459; rw [attract_before_f5] at hP
          refine enterV (n := 8) Try.func77 rfl rfl rfl ?_
          intro a E
          replace E := E.pick [(0, .int .i64 (List.getD (List.getD (List.getD all (Int.toNat x125) []) (Int.toNat x292) []) (Int.toNat x430) 0)), (1, .pointer (some ⟨g9, 0, none⟩))] ⟨rfl, rfl, trivial⟩
          refine wp_seq ?_
          refine wp_region_lit ?_
          refine vn tbok 1 [] [] [] E (by kernel_rfl) (by kernel_rfl) trivial ?_
          clear E; intro a E
          refine wpList_nil ?_
          refine th_n ?_
          refine wp_seq ?_
          refine wp_region_lit ?_
          obtain ⟨g461, hP⟩ := ask_inv hP
          obtain ⟨b462, o463, e_b462⟩ := (H.rd 1 rds_ro).addr (idx_pos g461)
          subst e_b462
          refine vn tbok 5 [.slice (some ⟨b462, o463, none⟩) (List.length won) c6, .bool (List.getD won (Int.toNat (List.getD (List.getD (List.getD all (Int.toNat x125) []) (Int.toNat x292) []) (Int.toNat x430) 0)) false)] [(3, .bool (List.getD won (Int.toNat (List.getD (List.getD (List.getD all (Int.toNat x125) []) (Int.toNat x292) []) (Int.toNat x430) 0)) false))] [World.cell? w448 ⟨g9, 0, none⟩ = some (.slice (some ⟨b462, o463, none⟩) (List.length won) c6), 0 ≤ (List.getD (List.getD (List.getD all (Int.toNat x125) []) (Int.toNat x292) []) (Int.toNat x430) 0) ∧ (List.getD (List.getD (List.getD all (Int.toNat x125) []) (Int.toNat x292) []) (Int.toNat x430) 0) < (((List.length won) : Nat) : Int), World.cell? w448 ⟨b462, o463 + (Int.toNat (List.getD (List.getD (List.getD all (Int.toNat x125) []) (Int.toNat x292) []) (Int.toNat x430) 0)) * 1, none⟩ = some (.bool (List.getD won (Int.toNat (List.getD (List.getD (List.getD all (Int.toNat x125) []) (Int.toNat x292) []) (Int.toNat x430) 0)) false))] E (by kernel_rfl) (by kernel_rfl) ⟨(H.box 2 rfl).cell (j := 0) rfl, g461, Rds.at1 (H.rd 1 rds_ro) false g461⟩ ?_
          clear E; intro a E
          refine wpList_nil ?_
          refine th_n ?_
          refine wp_ret ?_
          have hx_ := Option.some.inj hP
          refine ret1 E rfl rfl ?_
          exact ⟨_, rfl, (), rfl, H.sel [1, 2, 3, 4, 5, 0] rfl, hx_.symm⟩
         clear H
         rintro v465 w464 a ⟨x460, rfl, H, hx_⟩ E_
         subst hx_
         replace E := E_ _ rfl; clear E_
         refine wpList_nil ?_
         refine th_n ?_
         refine E.cases (t := 16) rfl (fun hb_ E_ => ?_) (fun hb_ E_ => ?_)
         ·
          replace E := E_; clear E_
          have h466 : (List.getD won (Int.toNat (List.getD (List.getD (List.getD all (Int.toNat x125) []) (Int.toNat x292) []) (Int.toNat x430) 0)) false) = true := hb_
          clear hb_; replace hP := ite_t h466 hP
          refine c_true E rfl ?_
          refine wp_seq ?_
          refine wp_region_lit ?_
          refine vn tbok 2 [] [(4, .int .i64 x430)] [] E (by kernel_rfl) (by kernel_rfl) trivial ?_
          clear E; intro a E
          refine wpList_nil ?_
          refine th_n ?_
          refine wp_ret ?_
          refine bl_ret ?_
          refine th_ret ?_
          refine th_ret ?_
          refine .inr ⟨rfl, ?_⟩
          refine bl_ret ?_
          refine th_ret ?_
          have hx_ := Option.some.inj hP; subst hx_
          have hP : some (x430) = some x415 := hK447
          have hx_ := Option.some.inj hP
          refine ret1 E rfl rfl ?_
          exact ⟨_, rfl, x430, rfl, H.sel [0, 1, 2, 3, 4, 5] rfl, hx_.symm⟩
         replace E := E_; clear E_
         have h467 : ¬ ((List.getD won (Int.toNat (List.getD (List.getD (List.getD all (Int.toNat x125) []) (Int.toNat x292) []) (Int.toNat x430) 0)) false) = true) := (ne_true_of_eq_false hb_)
         clear hb_; replace hP := ite_f h467 hP
         refine c_false E rfl ?_
         refine wp_skip ?_
         refine bl_n ?_
         refine th_n ?_
         refine wp_region_lit ?_
         obtain ⟨g468, hP⟩ := ask_inv hP
         refine vn tbok 2 [.int .i64 (x430 + 1)] [(8, .int .i64 (x430 + 1))] [IntKind.i64.wrap (x430 + 1) = x430 + 1] E (by kernel_rfl) (by kernel_rfl) (wrap_in g468) ?_
         clear E; intro a E
         refine wpList_nil ?_
         exact th_n ⟨m444, Nat.lt_succ_self _, x430 + 1, E.pick _ ⟨rfl, rfl, rfl, rfl, trivial⟩, H.sel [5, 0, 1, 2, 3, 4] rfl, hP⟩
        replace E := E_; clear E_
        have h469 : ¬ (x430 < (((List.length (List.getD (List.getD all (Int.toNat x125) []) (Int.toNat x292) [])) : Nat) : Int)) := of_decide_eq_false hb_
        clear hb_; replace hP := ite_f h469 hP
        refine c_false E rfl ?_
        refine wp_exit ?_
        refine th_exit ?_
        have hx_ := Option.some.inj hP
        refine th_exit (.inl ⟨0, rfl, ?_⟩)
        exact ⟨rfl, (), E.pick _ trivial, H.sel [1, 2, 3, 4, 5, 0] rfl, hx_.symm⟩
       clear E H hL446; intro i_ a w448 hM_
       obtain ⟨rfl, x450, E, H, hx_⟩ := hM_
       subst hx_; have hP := elim_l hK447
       clear hK447
       refine bl_hit ?_
       refine th_n ?_
       refine wp_seq ?_
       refine wp_region_lit ?_
       refine vn tbok 1 [] [(4, .int .i64 (-1))] [] E (by kernel_rfl) (by kernel_rfl) trivial ?_
       clear E; intro a E
       refine wpList_nil ?_
       refine th_n ?_
       refine wp_ret ?_
       have hx_ := Option.some.inj hP
       refine ret1 E rfl rfl ?_
       exact ⟨_, rfl, -1, rfl, H.sel [0, 1, 2, 3, 4, 5] rfl, hx_.symm⟩
      clear H
      rintro v472 w471 a ⟨x417, rfl, H, hx_⟩ E_
      subst hx_
      replace E := E_ _ rfl; clear E_
      refine vn tbok 2 [] [(4, .bool (decide (0 ≤ x415)))] [] E (by kernel_rfl) (by kernel_rfl) trivial ?_
      clear E; intro a E
      refine wpList_nil ?_
      refine th_n ?_
      refine wp_ret ?_
      have hx_ := Option.some.inj hP
      refine ret1 E rfl rfl ?_
      exact ⟨_, rfl, decide (0 ≤ x415), rfl, H.sel [0, 1, 2, 3, 4, 5] rfl, hx_.symm⟩
     clear H
     rintro v474 w473 a ⟨x387, rfl, H, hx_⟩ E_
     subst hx_
     replace E := E_ _ rfl; clear E_
     refine vn tbok 1 [] [(29, .bool (!x385))] [] E (by kernel_rfl) (by kernel_rfl) trivial ?_
     clear E; intro a E
     refine wpList_nil ?_
     refine th_n ?_
     refine E.cases (t := 29) rfl (fun hb_ E_ => ?_) (fun hb_ E_ => ?_)
     ·
      replace E := E_; clear E_
      have h475 : ¬ (x385 = true) := (ne_true_of_eq_false (not_t hb_))
      clear hb_; replace hP := ite_f h475 hP
      refine c_true E rfl ?_
      refine wp_exit ?_
      refine bl_miss rfl ?_
      refine th_exit ?_
      have hx_ := Option.some.inj hP
      refine th_exit (.inl ⟨1, rfl, ?_⟩)
      exact .inl ⟨rfl, (), E.pick _ ⟨rfl, rfl, rfl, rfl, rfl, trivial⟩, H.sel [0, 1, 2, 3] rfl, hx_.symm⟩
     replace E := E_; clear E_
     have h476 : x385 = true := (not_f hb_)
     clear hb_; replace hP := ite_t h476 hP
     refine c_false E rfl ?_
     refine wp_skip ?_
     refine bl_n ?_
     refine th_n ?_
     refine wp_region_lit ?_
     obtain ⟨g477, hP⟩ := ask_inv hP
     refine vn tbok 2 [.int .i64 (x292 + 1)] [(22, .int .i64 (x292 + 1))] [IntKind.i64.wrap (x292 + 1) = x292 + 1] E (by kernel_rfl) (by kernel_rfl) (wrap_in g477) ?_
     clear E; intro a E
     refine wpList_nil ?_
     exact th_n ⟨m338, Nat.lt_succ_self _, x292 + 1, E.pick _ ⟨rfl, rfl, rfl, rfl, rfl, rfl, rfl, rfl, rfl, trivial⟩, H.sel [0, 1, 2, 3, 4] rfl, hP⟩
    replace E := E_; clear E_
    have h478 : ¬ (x292 < (((List.length (List.getD all (Int.toNat x125) [])) : Nat) : Int)) := of_decide_eq_false hb_
    clear hb_; replace hP := ite_f h478 hP
    refine c_false E rfl ?_
    refine wp_exit ?_
    refine th_exit ?_
    have hx_ := Option.some.inj hP
    refine th_exit (.inl ⟨2, rfl, ?_⟩)
    exact .inr (⟨rfl, (), E.pick _ ⟨rfl, rfl, rfl, rfl, rfl, rfl, trivial⟩, H.sel [0, 1, 2, 3] rfl, hx_.symm⟩)
   clear E H hL340; intro i_ a w342 hM_
   rcases hM_ with hM_ | hM_
   ·
    obtain ⟨rfl, x344, E, H, hx_⟩ := hM_
    subst hx_; have hP := elim_l hK341
    clear hK341
    refine bl_miss rfl ?_
    refine th_exit ?_
    refine bl_hit ?_
    refine th_n ?_
    refine wp_region_lit ?_
    obtain ⟨g479, hP⟩ := ask_inv hP
    refine vn tbok 2 [.int .i64 (x125 + 1)] [(15, .int .i64 (x125 + 1))] [IntKind.i64.wrap (x125 + 1) = x125 + 1] E (by kernel_rfl) (by kernel_rfl) (wrap_in g479) ?_
    clear E; intro a E
    refine wpList_nil ?_
    exact th_n ⟨m232, Nat.lt_succ_self _, out124, x125 + 1, E.pick _ ⟨rfl, rfl, rfl, rfl, rfl, trivial⟩, H.sel [0, 1, 2, 3] rfl, hP⟩
   obtain ⟨rfl, x345, E, H, hx_⟩ := hM_
   subst hx_; have hP := (elim_r hK341)
   clear hK341
   refine bl_hit ?_
   refine th_n ?_
   refine wp_region_lit ?_
   obtain ⟨g480, hP⟩ := ask_inv hP
   refine vn tbok 3 [] [(33, .pointer (some ⟨g15, 0 + (Int.toNat x125) * 1, none⟩))] [0 ≤ x125 ∧ x125 < (((List.length out124) : Nat) : Int)] E (by kernel_rfl) (by kernel_rfl) (g480) ?_
   clear E; intro a E
   refine h_setx (g := g15) (i := x125) true H 2 rfl E rfl rfl rfl rfl tbok rfl (fun _ HF_ => rfl) rfl g480 rfl ?_
   clear E; intro w481 a hc482 H_ E
   replace H := H_; clear H_; try dsimp only [setn, addE, goneL] at H
   have hn483 : (List.length out124) = (List.length (List.set out124 (Int.toNat x125) true)) := by simp only [List.length_set]
   replace E := E.same (t := 5) (u := .slice (some ⟨g15, 0, none⟩) (List.length (List.set out124 (Int.toNat x125) true)) (Int.toNat (((List.length all) : Nat) : Int))) rfl (congrArg (fun n_ => Value.slice (some ⟨g15, 0, none⟩) n_ (Int.toNat (((List.length all) : Nat) : Int))) hn483)
   refine wpList_nil ?_
   refine bl_n ?_
   refine th_n ?_
   refine wp_region_lit ?_
   obtain ⟨g484, hP⟩ := ask_inv hP
   refine vn tbok 2 [.int .i64 (x125 + 1)] [(15, .int .i64 (x125 + 1))] [IntKind.i64.wrap (x125 + 1) = x125 + 1] E (by kernel_rfl) (by kernel_rfl) (wrap_in g484) ?_
   clear E; intro a E
   refine wpList_nil ?_
   exact th_n ⟨m232, Nat.lt_succ_self _, List.set out124 (Int.toNat x125) true, x125 + 1, E.pick _ ⟨rfl, rfl, rfl, rfl, rfl, trivial⟩, H.sel [0, 1, 2, 3] rfl, hP⟩
  replace E := E_; clear E_
  have h485 : ¬ (x125 < (((List.length all) : Nat) : Int)) := of_decide_eq_false hb_
  clear hb_; replace hP := ite_f h485 hP
  refine c_false E rfl ?_
  refine wp_exit ?_
  refine th_exit ?_
  have hx_ := Option.some.inj hP
  refine th_exit (.inl ⟨0, rfl, ?_⟩)
  exact ⟨rfl, out124, E.pick _ ⟨rfl, trivial⟩, H.sel [2] rfl, hx_.symm⟩
 clear E H hL234; intro i_ a w236 hM_
 obtain ⟨rfl, x238, E, H, hx_⟩ := hM_
 subst hx_; have hP := hK235; clear hK235
 refine bl_hit ?_
 refine th_n ?_
 refine wp_seq ?_
 refine wp_region_lit ?_
 refine vn tbok 2 [] [(4, .slice (some ⟨g15, 0, none⟩) (List.length x233) (Int.toNat (((List.length all) : Nat) : Int)))] [] E (by kernel_rfl) (by kernel_rfl) trivial ?_
 clear E; intro a E
 refine wpList_nil ?_
 refine th_n ?_
 refine wp_ret ?_
 refine ng_ret ?_
 replace H := H.rowx 0 rfl; try dsimp only [setn, addE, goneL] at H
 obtain rfl := Option.some.inj hP
 refine ret1 E rfl rfl ?_
 exact ⟨_, rfl, (some ⟨g15, 0, none⟩), (Int.toNat (((List.length all) : Nat) : Int)), rfl, H.sel [0] rfl⟩

/-! rejoinder/attract.Ranks -/
def attract_Ranks_l0 (N : Nat) (r44 : List Bool) : Nat → (List Int) → Int → Option (List Int)
  | 0, _, _ => none
  | m83 + 1, out67, x68 =>
    if x68 < (((List.length r44) : Nat) : Int) then
      ask (idx x68 (List.length r44)) <|
      if (List.getD r44 (Int.toNat x68) false) = true then
        ask (in64 (x68 + 1)) <|
        attract_Ranks_l0 N r44 m83 out67 (x68 + 1)
      else
        ask (idx x68 (List.length out67)) <|
        ask (in64 (x68 + 1)) <|
        attract_Ranks_l0 N r44 m83 (List.set out67 (Int.toNat x68) (-1)) (x68 + 1)
    else
      some out67
def attract_Ranks_l2 (N : Nat) (rank179 : Int) (r265 : List Bool) : Nat → (List Int) → Bool → Int → Option ((List Int) × Bool)
  | 0, _, _, _ => none
  | m311 + 1, out290, more291, x292 =>
    if x292 < (((List.length r265) : Nat) : Int) then
      ask (idx x292 (List.length r265)) <|
      if (List.getD r265 (Int.toNat x292) false) = true then
        ask (idx x292 (List.length out290)) <|
        if (List.getD out290 (Int.toNat x292) 0) < 0 then
          ask (in64 (x292 + 1)) <|
          attract_Ranks_l2 N rank179 r265 m311 (List.set out290 (Int.toNat x292) rank179) true (x292 + 1)
        else
          ask (in64 (x292 + 1)) <|
          attract_Ranks_l2 N rank179 r265 m311 out290 more291 (x292 + 1)
      else
        ask (in64 (x292 + 1)) <|
        attract_Ranks_l2 N rank179 r265 m311 out290 more291 (x292 + 1)
    else
      some (out290, more291)
def attract_Ranks_l3 (N : Nat) (x312 : (List Int) × Bool) : Nat → (List Bool) → Int → Option (List Bool)
  | 0, _, _ => none
  | m360 + 1, won343, x346 =>
    if x346 < (((List.length x312.1) : Nat) : Int) then
      ask (idx x346 (List.length x312.1)) <|
      ask (idx x346 (List.length won343)) <|
      ask (in64 (x346 + 1)) <|
      attract_Ranks_l3 N x312 m360 (List.set won343 (Int.toNat x346) (decide (0 ≤ (List.getD x312.1 (Int.toNat x346) 0)))) (x346 + 1)
    else
      some won343
def attract_Ranks_l1 (N : Nat) (r23 : (List (List (List Int))) × Int) : Nat → (List Int) → (List Bool) → Int → Bool → Option (List Int)
  | 0, _, _, _, _ => none
  | m257 + 1, out175, won176, rank179, more180 =>
    if more180 = true then
      Option.bind (attract_before N r23.1 won176) fun r265 =>
      Option.bind (attract_Ranks_l2 N rank179 r265 N out175 false 0) fun x312 =>
      Option.bind (attract_Ranks_l3 N x312 N won176 0) fun x361 =>
      ask (in64 (rank179 + 1)) <|
      attract_Ranks_l1 N r23 m257 x312.1 x361 (rank179 + 1) x312.2
    else
      some out175
def attract_Ranks (N : Nat) (aProps : Int) (aAccept : List Bool) (aGuard : List Int) (aNodes : List Nd) (s : Int × Int) : Option ((List Int) × Int) :=
  Option.bind (attract_rows N aProps aAccept aGuard aNodes (s.1, s.2)) fun r23 =>
  if (r23.2 : Int) = 0 then
    ask (0 ≤ (((List.length r23.1) : Nat) : Int) ∧ (((List.length r23.1) : Nat) : Int) ≤ 1000000000) <|
    Option.bind (slices_Clone_bool_bool N aAccept) fun r44 =>
    Option.bind (attract_Ranks_l0 N r44 N (List.replicate (Int.toNat (((List.length r23.1) : Nat) : Int)) (0 : Int)) 0) fun x84 =>
    Option.bind (attract_Ranks_l1 N r23 N x84 r44 1 true) fun x258 =>
    some (x258, 0)
  else
    some ([], r23.2)
set_option maxRecDepth 100000 in
set_option maxHeartbeats 4000000 in
theorem attract_Ranks_calls {N : Nat} {S Fa : Nat → Prop} {w0 : World} {r : (List Int) × Int} (A1 : Option Addr) (c2 : Nat) (A5 : Option Addr) (c6 : Nat) (A9 : Option Addr) (c10 : Nat) (aProps : Int) (aAccept : List Bool) (aGuard : List Int) (aNodes : List Nd) (s : Int × Int) (hk3 : List.length aAccept ≤ c2) (hk7 : List.length aGuard ≤ c6) (hk11 : List.length aNodes ≤ c10) (H : Hp S Fa w0 w0 [.ro false cBool A1 aAccept, .ro false (cInt .i64) A5 aGuard, .ro false cNode A9 aNodes]) (hP : attract_Ranks N aProps aAccept aGuard aNodes s = some r) :
    Calls Try.prog 27 #[.agg #[.int .i64 aProps, .slice A1 (List.length aAccept) c2, .slice A5 (List.length aGuard) c6, .slice A9 (List.length aNodes) c10], .agg #[.int .u8 s.1, .int .u8 s.2]] w0 fun e w' => ∃ v, e = .returned v ∧ ∃ (A379 : Option Addr) (c380 : Nat), v = .tuple #[.slice A379 (List.length r.1) c380, .int .i64 r.2] ∧ Hp S Fa w0 w' [.rowx true (cInt .i64) 3 A379 c380 r.1 []] := by
 refine enterV (n := 85) Try.func27 rfl rfl rfl ?_
 intro a E
 replace E := E.pick [(0, .agg #[.int .i64 aProps, .slice A1 (List.length aAccept) c2, .slice A5 (List.length aGuard) c6, .slice A9 (List.length aNodes) c10]), (1, .agg #[.int .u8 s.1, .int .u8 s.2])] ⟨rfl, rfl, trivial⟩
 rw [attract_Ranks] at hP
 refine wp_seq ?_
 refine wp_region_lit ?_
 refine h_box H E rfl rfl rfl ?_
 intro w14 g13 a hc15 hg17 H_ E_
 replace E := E_ _ rfl; clear E_
 replace H := H_; clear H_; try dsimp only [setn, addE, goneL] at H
 refine h_box H E rfl rfl rfl ?_
 intro w19 g18 a hc20 hg22 H_ E_
 replace E := E_ _ rfl; clear E_
 replace H := H_; clear H_; try dsimp only [setn, addE, goneL] at H
 refine vn tbok 2 [] [] [] E (by kernel_rfl) (by kernel_rfl) trivial ?_
 clear E; intro a E
 refine wpList_nil ?_
 refine th_n ?_
 refine wp_seq ?_
 refine wp_region_lit ?_
 refine vn tbok 2 [.agg #[.int .i64 aProps, .slice A1 (List.length aAccept) c2, .slice A5 (List.length aGuard) c6, .slice A9 (List.length aNodes) c10], .agg #[.int .u8 s.1, .int .u8 s.2]] [(18, .agg #[.int .i64 aProps, .slice A1 (List.length aAccept) c2, .slice A5 (List.length aGuard) c6, .slice A9 (List.length aNodes) c10]), (19, .agg #[.int .u8 s.1, .int .u8 s.2])] [cellsAt w19 g13 (0) [.int .i64 aProps, .slice A1 (List.length aAccept) c2, .slice A5 (List.length aGuard) c6, .slice A9 (List.length aNodes) c10], cellsAt w19 g18 (0) [.int .u8 s.1, .int .u8 s.2]] E (by kernel_rfl) (by kernel_rfl) ⟨(H.box 3 rfl).sub 0 _ rfl, (H.box 4 rfl).sub 0 _ rfl⟩ ?_
 clear E; intro a E
 obtain ⟨r23, h24, hP⟩ := bind_inv hP
 obtain ⟨Fa25, Hc26, hb27⟩ := H.call [] [(0, false), (1, false), (2, false)] rfl rfl trivial
 refine e_call E rfl rfl Try.func53 rfl rfl rfl (attract_rows_calls A1 c2 A5 c6 A9 c10 aProps aAccept aGuard aNodes (s.1, s.2) hk3 hk7 hk11 Hc26 h24) ?_
 rintro v28 w29 a ⟨A32, c33, rfl, HR30⟩ E_
 replace E := E_ _ rfl; clear E_
 obtain ⟨H_, hc31⟩ := hb27 _ _ HR30 rfl
 replace H := H_; clear H_; try dsimp only [setn, addE, goneL] at H
 refine vn tbok 5 [] [(6, .slice A32 (List.length r23.1) c33), (7, .int .i64 r23.2)] [] E (by kernel_rfl) (by kernel_rfl) trivial ?_
 clear E; intro a E
 refine wpList_nil ?_
 refine th_n ?_
 refine wp_seq ?_
 refine wp_seq ?_
 refine wp_region_lit ?_
 refine vn tbok 2 [] [(24, .bool ((r23.2 : Int) != 0))] [] E (by kernel_rfl) (by kernel_rfl) trivial ?_
 clear E; intro a E
 refine wpList_nil ?_
 refine th_n ?_
 refine E.cases (t := 24) rfl (fun hb_ E_ => ?_) (fun hb_ E_ => ?_)
 ·
  replace E := E_; clear E_
  have h35 : ¬ ((r23.2 : Int) = 0) := bne_iff_ne.1 hb_
  clear hb_; replace hP := ite_f h35 hP
  refine c_true E rfl ?_
  refine wp_seq ?_
  refine wp_region_lit ?_
  refine vn tbok 3 [] [(4, .slice none 0 0), (5, .int .i64 r23.2)] [] E (by kernel_rfl) (by kernel_rfl) trivial ?_
  clear E; intro a E
  refine wpList_nil ?_
  refine th_n ?_
  refine wp_ret ?_
  refine th_ret ?_
  replace H := H.nilrow (cInt .i64) 3; try dsimp only [setn, addE, goneL] at H
  replace H := H.nilx 6 rfl; try dsimp only [setn, addE, goneL] at H
  obtain rfl := Option.some.inj hP
  refine ret2 E rfl rfl rfl ?_
  exact ⟨_, rfl, none, 0, rfl, H.sel [6] rfl⟩
 replace E := E_; clear E_
 have h37 : (r23.2 : Int) = 0 := bne_eq_false_iff_eq.1 hb_
 clear hb_; replace hP := ite_t h37 hP
 refine c_false E rfl ?_
 refine wp_skip ?_
 refine th_n ?_
 refine wp_seq ?_
 refine wp_region_lit ?_
 refine vn tbok 2 [] [(27, .int .i64 (((List.length r23.1) : Nat) : Int))] [] E (by kernel_rfl) (by kernel_rfl) trivial ?_
 clear E; intro a E
 obtain ⟨g38, hP⟩ := ask_inv hP
 refine h_make (cInt .i64) (0 : Int) H E rfl rfl tbok rfl rfl rfl rfl ⟨g38.1, Int.le_refl _, g38.2⟩ rfl rfl rfl (fun _ _ => rfl) ?_
 intro w40 g39 a hc41 hg43 H_ E_
 replace E := E_ _ rfl; clear E_
 replace H := H_; clear H_; try dsimp only [setn, addE, goneL] at H
 refine vn tbok 1 [] [(8, .slice (some ⟨g39, 0, none⟩) (List.length (List.replicate (Int.toNat (((List.length r23.1) : Nat) : Int)) (0 : Int))) (Int.toNat (((List.length r23.1) : Nat) : Int)))] [] E (by kernel_rfl) (by kernel_rfl) trivial ?_
 clear E; intro a E
 refine wpList_nil ?_
 refine th_n ?_
 refine wp_seq ?_
 refine wp_region_lit ?_
 refine vn tbok 2 [.slice A1 (List.length aAccept) c2] [(30, .slice A1 (List.length aAccept) c2)] [World.cell? w40 ⟨g13, 1, none⟩ = some (.slice A1 (List.length aAccept) c2)] E (by kernel_rfl) (by kernel_rfl) ((H.box 3 rfl).cell (j := 1) rfl) ?_
 clear E; intro a E
 obtain ⟨r44, h45, hP⟩ := bind_inv hP
 obtain ⟨Fa46, Hc47, hb48⟩ := H.call [] [(0, false)] rfl rfl trivial
 refine e_call E rfl rfl Try.func54 rfl rfl rfl (slices_Clone_bool_bool_calls A1 c2 aAccept hk3 Hc47 h45) ?_
 rintro v49 w50 a ⟨A53, c54, rfl, HR51⟩ E_
 replace E := E_ _ rfl; clear E_
 obtain ⟨H_, hc52⟩ := hb48 _ _ HR51 rfl
 replace H := H_; clear H_; try dsimp only [setn, addE, goneL] at H
 refine vn tbok 1 [] [(9, .slice A53 (List.length r44) c54)] [] E (by kernel_rfl) (by kernel_rfl) trivial ?_
 clear E; intro a E
 refine wpList_nil ?_
 refine th_n ?_
 refine wp_seq ?_
 refine wp_seq ?_
 refine wp_region_lit ?_
 refine vn tbok 3 [] [(32, .slice A53 (List.length r44) c54), (33, .int .i64 (((List.length r44) : Nat) : Int)), (34, .int .i64 0)] [] E (by kernel_rfl) (by kernel_rfl) trivial ?_
 clear E; intro a E
 refine wpList_nil ?_
 refine th_n ?_
 refine wp_block ?_
 obtain ⟨x84, hL85, hK86⟩ := bind_inv hP
 clear hP
 refine loop_cut (fun i_ a w_ => (i_ = 0 ∧ ∃ (x89 : List Int), Fr a 85 [(6, .slice A32 (List.length r23.1) c33), (8, .slice (some ⟨g39, 0, none⟩) (List.length x89) (Int.toNat (((List.length r23.1) : Nat) : Int))), (9, .slice A53 (List.length r44) c54)] ∧ Hp S Fa w0 w_ [.row true (cSl (cSl (cInt .i64))) 45 A32 c33 r23.1, .rowx true (cInt .i64) 3 (some ⟨g39, 0, none⟩) (Int.toNat (((List.length r23.1) : Nat) : Int)) x89 (List.replicate (Int.toNat (((List.length r23.1) : Nat) : Int) - Int.toNat (((List.length r23.1) : Nat) : Int)) (0 : Int)), .row true cBool 4 A53 c54 r44] ∧ x84 = x89)) ?_ ?_
 ·
  refine loopV (fun m88 a w87 => ∃ (out67 : List Int) (x68 : Int), Fr a 85 [(6, .slice A32 (List.length r23.1) c33), (8, .slice (some ⟨g39, 0, none⟩) (List.length out67) (Int.toNat (((List.length r23.1) : Nat) : Int))), (9, .slice A53 (List.length r44) c54), (32, .slice A53 (List.length r44) c54), (33, .int .i64 (((List.length r44) : Nat) : Int)), (34, .int .i64 x68)] ∧ Hp S Fa w0 w87 [.row true (cSl (cSl (cInt .i64))) 45 A32 c33 r23.1, .rowx true (cInt .i64) 3 (some ⟨g39, 0, none⟩) (Int.toNat (((List.length r23.1) : Nat) : Int)) out67 (List.replicate (Int.toNat (((List.length r23.1) : Nat) : Int) - Int.toNat (((List.length r23.1) : Nat) : Int)) (0 : Int)), .row true cBool 4 A53 c54 r44] ∧ attract_Ranks_l0 N r44 m88 out67 x68 = some x84) N ?_ ?_
  ·
   exact ⟨List.replicate (Int.toNat (((List.length r23.1) : Nat) : Int)) (0 : Int), 0, E.pick _ ⟨rfl, rfl, rfl, rfl, rfl, rfl, trivial⟩, H.sel [5, 6, 7] rfl, hL85⟩
  clear E H hL85; intro m88 a w87 hI_
  obtain ⟨out67, x68, E, H, hP⟩ := hI_
  obtain ⟨m83, rfl⟩ : ∃ q_, m88 = q_ + 1 := by cases m88 with | zero => rw [attract_Ranks_l0] at hP; cases hP | succ q_ => exact ⟨q_, rfl⟩
  rw [attract_Ranks_l0] at hP
  refine wp_seq ?_
  refine wp_region_lit ?_
  refine vn tbok 1 [] [(35, .bool (decide (x68 < (((List.length r44) : Nat) : Int))))] [] E (by kernel_rfl) (by kernel_rfl) trivial ?_
  clear E; intro a E
  refine wpList_nil ?_
  refine th_n ?_
  refine wp_seq ?_
  refine E.cases (t := 35) rfl (fun hb_ E_ => ?_) (fun hb_ E_ => ?_)
  ·
   replace E := E_; clear E_
   have h90 : x68 < (((List.length r44) : Nat) : Int) := of_decide_eq_true hb_
   clear hb_; replace hP := ite_t h90 hP
   refine c_true E rfl ?_
   refine wp_skip ?_
   refine th_n ?_
   refine wp_seq ?_
   refine wp_block ?_
   refine wp_seq ?_
   refine wp_region_lit ?_
   obtain ⟨g91, hP⟩ := ask_inv hP
   obtain ⟨b92, e_b92⟩ := H.raddr 2 rfl (idx_pos g91)
   subst e_b92
   refine vn tbok 5 [.bool (List.getD r44 (Int.toNat x68) false)] [(10, .int .i64 x68), (11, .bool (List.getD r44 (Int.toNat x68) false))] [0 ≤ x68 ∧ x68 < (((List.length r44) : Nat) : Int), World.cell? w87 ⟨b92, 0 + (Int.toNat x68) * 1, none⟩ = some (.bool (List.getD r44 (Int.toNat x68) false))] E (by kernel_rfl) (by kernel_rfl) ⟨g91, Rds.at1 (H.rd 2 rds_row) false g91⟩ ?_
   clear E; intro a E
   refine wpList_nil ?_
   refine th_n ?_
   refine wp_seq ?_
   refine wp_region_lit ?_
   refine vn tbok 2 [] [(40, .bool (!(List.getD r44 (Int.toNat x68) false)))] [] E (by kernel_rfl) (by kernel_rfl) trivial ?_
   clear E; intro a E
   refine wpList_nil ?_
   refine th_n ?_
   refine E.cases (t := 40) rfl (fun hb_ E_ => ?_) (fun hb_ E_ => ?_)
   ·
    replace E := E_; clear E_
    have h94 : ¬ ((List.getD r44 (Int.toNat x68) false) = true) := (ne_true_of_eq_false (not_t hb_))
    clear hb_; replace hP := ite_f h94 hP
    refine c_true E rfl ?_
    refine wp_region_lit ?_
    obtain ⟨g95, hP⟩ := ask_inv hP
    refine vn tbok 3 [] [(43, .pointer (some ⟨g39, 0 + (Int.toNat x68) * 1, none⟩))] [0 ≤ x68 ∧ x68 < (((List.length out67) : Nat) : Int)] E (by kernel_rfl) (by kernel_rfl) (g95) ?_
    clear E; intro a E
    refine h_setx (g := g39) (i := x68) (-1) H 1 rfl E rfl rfl rfl rfl tbok rfl (fun _ HF_ => rfl) rfl g95 rfl ?_
    clear E; intro w96 a hc97 H_ E
    replace H := H_; clear H_; try dsimp only [setn, addE, goneL] at H
    have hn98 : (List.length out67) = (List.length (List.set out67 (Int.toNat x68) (-1))) := by simp only [List.length_set]
    replace E := E.same (t := 8) (u := .slice (some ⟨g39, 0, none⟩) (List.length (List.set out67 (Int.toNat x68) (-1))) (Int.toNat (((List.length r23.1) : Nat) : Int))) rfl (congrArg (fun n_ => Value.slice (some ⟨g39, 0, none⟩) n_ (Int.toNat (((List.length r23.1) : Nat) : Int))) hn98)
    refine wpList_nil ?_
    refine bl_n ?_
    refine th_n ?_
    refine wp_region_lit ?_
    obtain ⟨g99, hP⟩ := ask_inv hP
    refine vn tbok 2 [.int .i64 (x68 + 1)] [(34, .int .i64 (x68 + 1))] [IntKind.i64.wrap (x68 + 1) = x68 + 1] E (by kernel_rfl) (by kernel_rfl) (wrap_in g99) ?_
    clear E; intro a E
    refine wpList_nil ?_
    exact th_n ⟨m83, Nat.lt_succ_self _, List.set out67 (Int.toNat x68) (-1), x68 + 1, E.pick _ ⟨rfl, rfl, rfl, rfl, rfl, rfl, trivial⟩, H.sel [0, 1, 2] rfl, hP⟩
   replace E := E_; clear E_
   have h100 : (List.getD r44 (Int.toNat x68) false) = true := (not_f hb_)
   clear hb_; replace hP := ite_t h100 hP
   refine c_false E rfl ?_
   refine wp_skip ?_
   refine bl_n ?_
   refine th_n ?_
   refine wp_region_lit ?_
   obtain ⟨g101, hP⟩ := ask_inv hP
   refine vn tbok 2 [.int .i64 (x68 + 1)] [(34, .int .i64 (x68 + 1))] [IntKind.i64.wrap (x68 + 1) = x68 + 1] E (by kernel_rfl) (by kernel_rfl) (wrap_in g101) ?_
   clear E; intro a E
   refine wpList_nil ?_
   exact th_n ⟨m83, Nat.lt_succ_self _, out67, x68 + 1, E.pick _ ⟨rfl, rfl, rfl, rfl, rfl, rfl, trivial⟩, H.sel [0, 1, 2] rfl, hP⟩
  replace E := E_; clear E_
  have h102 : ¬ (x68 < (((List.length r44) : Nat) : Int)) := of_decide_eq_false hb_
  clear hb_; replace hP := ite_f h102 hP
  refine c_false E rfl ?_
  refine wp_exit ?_
  refine th_exit ?_
  have hx_ := Option.some.inj hP
  refine th_exit (.inl ⟨0, rfl, ?_⟩)
  exact ⟨rfl, out67, E.pick _ ⟨rfl, rfl, rfl, trivial⟩, H.sel [0, 1, 2] rfl, hx_.symm⟩
 clear E H hL85; intro i_ a w87 hM_
 obtain ⟨rfl, x89, E, H, hx_⟩ := hM_
 subst hx_; have hP := hK86; clear hK86
 refine bl_hit ?_
 refine th_n ?_
 refine wp_seq ?_
 refine wp_seq ?_
 refine wp_region_lit ?_
 refine vn tbok 2 [] [(12, .int .i64 1), (13, .bool true)] [] E (by kernel_rfl) (by kernel_rfl) trivial ?_
 clear E; intro a E
 refine wpList_nil ?_
 refine th_n ?_
 refine wp_block ?_
 obtain ⟨x258, hL259, hK260⟩ := bind_inv hP
 clear hP
 refine loop_cut (fun i_ a w_ => (i_ = 2 ∧ ∃ (x263 : List Int), Fr a 85 [(8, .slice (some ⟨g39, 0, none⟩) (List.length x263) (Int.toNat (((List.length r23.1) : Nat) : Int)))] ∧ Hp S Fa w0 w_ [.rowx true (cInt .i64) 3 (some ⟨g39, 0, none⟩) (Int.toNat (((List.length r23.1) : Nat) : Int)) x263 (List.replicate (Int.toNat (((List.length r23.1) : Nat) : Int) - Int.toNat (((List.length r23.1) : Nat) : Int)) (0 : Int))] ∧ x258 = x263)) ?_ ?_
 ·
  refine loopV (fun m262 a w261 => ∃ (out175 : List Int) (won176 : List Bool) (rank179 : Int) (more180 : Bool), ∃ (A177 : Option Addr) (c178 : Nat), Fr a 85 [(6, .slice A32 (List.length r23.1) c33), (8, .slice (some ⟨g39, 0, none⟩) (List.length out175) (Int.toNat (((List.length r23.1) : Nat) : Int))), (9, .slice A177 (List.length won176) c178), (12, .int .i64 rank179), (13, .bool more180)] ∧ Hp S Fa w0 w261 [.row true (cSl (cSl (cInt .i64))) 45 A32 c33 r23.1, .rowx true (cInt .i64) 3 (some ⟨g39, 0, none⟩) (Int.toNat (((List.length r23.1) : Nat) : Int)) out175 (List.replicate (Int.toNat (((List.length r23.1) : Nat) : Int) - Int.toNat (((List.length r23.1) : Nat) : Int)) (0 : Int)), .row true cBool 4 A177 c178 won176] ∧ attract_Ranks_l1 N r23 m262 out175 won176 rank179 more180 = some x258) N ?_ ?_
  ·
   exact ⟨x84, r44, 1, true, A53, c54, E.pick _ ⟨rfl, rfl, rfl, rfl, rfl, trivial⟩, H.sel [0, 1, 2] rfl, hL259⟩
  clear E H hL259; intro m262 a w261 hI_
  obtain ⟨out175, won176, rank179, more180, A177, c178, E, H, hP⟩ := hI_
  obtain ⟨m257, rfl⟩ : ∃ q_, m262 = q_ + 1 := by cases m262 with | zero => rw [attract_Ranks_l1] at hP; cases hP | succ q_ => exact ⟨q_, rfl⟩
  rw [attract_Ranks_l1] at hP
  refine wp_seq ?_
  refine wp_seq ?_
  refine wp_region_lit ?_
  refine vn tbok 1 [] [(45, .bool more180)] [] E (by kernel_rfl) (by kernel_rfl) trivial ?_
  clear E; intro a E
  refine wpList_nil ?_
  refine th_n ?_
  refine E.cases (t := 45) rfl (fun hb_ E_ => ?_) (fun hb_ E_ => ?_)
  ·
   replace E := E_; clear E_
   have h264 : more180 = true := hb_
   clear hb_; replace hP := ite_t h264 hP
   refine c_true E rfl ?_
   refine wp_skip ?_
   refine th_n ?_
   refine wp_seq ?_
   refine wp_block ?_
   refine wp_seq ?_
   refine wp_region_lit ?_
   refine vn tbok 1 [] [(13, .bool false)] [] E (by kernel_rfl) (by kernel_rfl) trivial ?_
   clear E; intro a E
   refine wpList_nil ?_
   refine th_n ?_
   refine wp_seq ?_
   refine wp_seq ?_
   refine wp_region_lit ?_
   refine vn tbok 2 [] [(48, .slice A32 (List.length r23.1) c33), (49, .slice A177 (List.length won176) c178)] [] E (by kernel_rfl) (by kernel_rfl) trivial ?_
   clear E; intro a E
   obtain ⟨r265, h266, hP⟩ := bind_inv hP
   obtain ⟨Fa267, Hc268, hb269⟩ := H.call [] [(0, false), (2, false)] rfl rfl trivial
   refine e_call E rfl rfl Try.func55 rfl rfl rfl (attract_before_calls A32 c33 A177 c178 r23.1 won176 (H.rcap 0 rfl) (H.rcap 2 rfl) Hc268 h266) ?_
   rintro v270 w271 a ⟨A274, c275, rfl, HR272⟩ E_
   replace E := E_ _ rfl; clear E_
   obtain ⟨H_, hc273⟩ := hb269 _ _ HR272 rfl
   replace H := H_; clear H_; try dsimp only [setn, addE, goneL] at H
   refine vn tbok 2 [] [(51, .int .i64 (((List.length r265) : Nat) : Int)), (52, .int .i64 0)] [] E (by kernel_rfl) (by kernel_rfl) trivial ?_
   clear E; intro a E
   refine wpList_nil ?_
   refine th_n ?_
   refine wp_block ?_
   obtain ⟨x312, hL313, hK314⟩ := bind_inv hP
   clear hP
   refine loop_cut (fun i_ a w_ => (i_ = 4 ∧ ∃ (x317 : (List Int) × Bool), Fr a 85 [(6, .slice A32 (List.length r23.1) c33), (8, .slice (some ⟨g39, 0, none⟩) (List.length x317.1) (Int.toNat (((List.length r23.1) : Nat) : Int))), (9, .slice A177 (List.length won176) c178), (12, .int .i64 rank179), (13, .bool x317.2)] ∧ Hp S Fa w0 w_ [.row true (cSl (cSl (cInt .i64))) 45 A32 c33 r23.1, .rowx true (cInt .i64) 3 (some ⟨g39, 0, none⟩) (Int.toNat (((List.length r23.1) : Nat) : Int)) x317.1 (List.replicate (Int.toNat (((List.length r23.1) : Nat) : Int) - Int.toNat (((List.length r23.1) : Nat) : Int)) (0 : Int)), .row true cBool 4 A177 c178 won176] ∧ x312 = x317)) ?_ ?_
   ·
    refine loopV (fun m316 a w315 => ∃ (out290 : List Int) (more291 : Bool) (x292 : Int), Fr a 85 [(6, .slice A32 (List.length r23.1) c33), (8, .slice (some ⟨g39, 0, none⟩) (List.length out290) (Int.toNat (((List.length r23.1) : Nat) : Int))), (9, .slice A177 (List.length won176) c178), (12, .int .i64 rank179), (13, .bool more291), (50, .slice A274 (List.length r265) c275), (51, .int .i64 (((List.length r265) : Nat) : Int)), (52, .int .i64 x292)] ∧ Hp S Fa w0 w315 [.row true (cSl (cSl (cInt .i64))) 45 A32 c33 r23.1, .rowx true (cInt .i64) 3 (some ⟨g39, 0, none⟩) (Int.toNat (((List.length r23.1) : Nat) : Int)) out290 (List.replicate (Int.toNat (((List.length r23.1) : Nat) : Int) - Int.toNat (((List.length r23.1) : Nat) : Int)) (0 : Int)), .row true cBool 4 A177 c178 won176, .row true cBool 4 A274 c275 r265] ∧ attract_Ranks_l2 N rank179 r265 m316 out290 more291 x292 = some x312) N ?_ ?_
    ·
     exact ⟨out175, false, 0, E.pick _ ⟨rfl, rfl, rfl, rfl, rfl, rfl, rfl, rfl, trivial⟩, H.sel [0, 1, 2, 3] rfl, hL313⟩
    clear E H hL313; intro m316 a w315 hI_
    obtain ⟨out290, more291, x292, E, H, hP⟩ := hI_
    obtain ⟨m311, rfl⟩ : ∃ q_, m316 = q_ + 1 := by cases m316 with | zero => rw [attract_Ranks_l2] at hP; cases hP | succ q_ => exact ⟨q_, rfl⟩
    rw [attract_Ranks_l2] at hP
    refine wp_seq ?_
    refine wp_region_lit ?_
    refine vn tbok 1 [] [(53, .bool (decide (x292 < (((List.length r265) : Nat) : Int))))] [] E (by kernel_rfl) (by kernel_rfl) trivial ?_
    clear E; intro a E
    refine wpList_nil ?_
    refine th_n ?_
    refine wp_seq ?_
    refine E.cases (t := 53) rfl (fun hb_ E_ => ?_) (fun hb_ E_ => ?_)
    ·
     replace E := E_; clear E_
     have h318 : x292 < (((List.length r265) : Nat) : Int) := of_decide_eq_true hb_
     clear hb_; replace hP := ite_t h318 hP
     refine c_true E rfl ?_
     refine wp_skip ?_
     refine th_n ?_
     refine wp_seq ?_
     refine wp_block ?_
     refine wp_seq ?_
     refine wp_region_lit ?_
     obtain ⟨g319, hP⟩ := ask_inv hP
     obtain ⟨b320, e_b320⟩ := H.raddr 3 rfl (idx_pos g319)
     subst e_b320
     refine vn tbok 5 [.bool (List.getD r265 (Int.toNat x292) false)] [(14, .int .i64 x292), (15, .bool (List.getD r265 (Int.toNat x292) false))] [0 ≤ x292 ∧ x292 < (((List.length r265) : Nat) : Int), World.cell? w315 ⟨b320, 0 + (Int.toNat x292) * 1, none⟩ = some (.bool (List.getD r265 (Int.toNat x292) false))] E (by kernel_rfl) (by kernel_rfl) ⟨g319, Rds.at1 (H.rd 3 rds_row) false g319⟩ ?_
     clear E; intro a E
     refine wpList_nil ?_
     refine th_n ?_
     refine wp_seq ?_
     refine wp_region_lit ?_
     refine vn tbok 2 [] [(58, .bool (List.getD r265 (Int.toNat x292) false))] [] E (by kernel_rfl) (by kernel_rfl) trivial ?_
     clear E; intro a E
     refine E.cases (t := 58) rfl (fun hb_ E_ => ?_) (fun hb_ E_ => ?_)
     ·
      replace E := E_; clear E_
      have h322 : (List.getD r265 (Int.toNat x292) false) = true := hb_
      clear hb_; replace hP := ite_t h322 hP
      obtain ⟨g323, hP⟩ := ask_inv hP
      refine vn tbok 6 [.int .i64 (List.getD out290 (Int.toNat x292) 0)] [(64, .bool (decide ((List.getD out290 (Int.toNat x292) 0) < 0)))] [0 ≤ x292 ∧ x292 < (((List.length out290) : Nat) : Int), World.cell? w315 ⟨g39, 0 + (Int.toNat x292) * 1, none⟩ = some (.int .i64 (List.getD out290 (Int.toNat x292) 0))] E (by kernel_rfl) (by kernel_rfl) ⟨g323, Rds.at1 (H.rd 1 rds_rowx) 0 g323⟩ ?_
      clear E; intro a E
      refine wpList_nil ?_
      refine th_n ?_
      refine E.cases (t := 64) rfl (fun hb_ E_ => ?_) (fun hb_ E_ => ?_)
      ·
       replace E := E_; clear E_
       have h324 : (List.getD out290 (Int.toNat x292) 0) < 0 := of_decide_eq_true hb_
       clear hb_; replace hP := ite_t h324 hP
       refine c_true E rfl ?_
       refine wp_region_lit ?_
       refine vn tbok 4 [] [(67, .int .i64 rank179), (68, .pointer (some ⟨g39, 0 + (Int.toNat x292) * 1, none⟩))] [0 ≤ x292 ∧ x292 < (((List.length out290) : Nat) : Int)] E (by kernel_rfl) (by kernel_rfl) (g323) ?_
       clear E; intro a E
       refine h_setx (g := g39) (i := x292) rank179 H 1 rfl E rfl rfl rfl rfl tbok rfl (fun _ HF_ => rfl) rfl g323 rfl ?_
       clear E; intro w325 a hc326 H_ E
       replace H := H_; clear H_; try dsimp only [setn, addE, goneL] at H
       have hn327 : (List.length out290) = (List.length (List.set out290 (Int.toNat x292) rank179)) := by simp only [List.length_set]
       replace E := E.same (t := 8) (u := .slice (some ⟨g39, 0, none⟩) (List.length (List.set out290 (Int.toNat x292) rank179)) (Int.toNat (((List.length r23.1) : Nat) : Int))) rfl (congrArg (fun n_ => Value.slice (some ⟨g39, 0, none⟩) n_ (Int.toNat (((List.length r23.1) : Nat) : Int))) hn327)
       refine vn tbok 1 [] [(13, .bool true)] [] E (by kernel_rfl) (by kernel_rfl) trivial ?_
       clear E; intro a E
       refine wpList_nil ?_
       refine bl_n ?_
       refine th_n ?_
       refine wp_region_lit ?_
       obtain ⟨g328, hP⟩ := ask_inv hP
       refine vn tbok 2 [.int .i64 (x292 + 1)] [(52, .int .i64 (x292 + 1))] [IntKind.i64.wrap (x292 + 1) = x292 + 1] E (by kernel_rfl) (by kernel_rfl) (wrap_in g328) ?_
       clear E; intro a E
       refine wpList_nil ?_
       exact th_n ⟨m311, Nat.lt_succ_self _, List.set out290 (Int.toNat x292) rank179, true, x292 + 1, E.pick _ ⟨rfl, rfl, rfl, rfl, rfl, rfl, rfl, rfl, trivial⟩, H.sel [0, 1, 2, 3] rfl, hP⟩
      replace E := E_; clear E_
      have h329 : ¬ ((List.getD out290 (Int.toNat x292) 0) < 0) := of_decide_eq_false hb_
      clear hb_; replace hP := ite_f h329 hP
      refine c_false E rfl ?_
      refine wp_skip ?_
      refine bl_n ?_
      refine th_n ?_
      refine wp_region_lit ?_
      obtain ⟨g330, hP⟩ := ask_inv hP
      refine vn tbok 2 [.int .i64 (x292 + 1)] [(52, .int .i64 (x292 + 1))] [IntKind.i64.wrap (x292 + 1) = x292 + 1] E (by kernel_rfl) (by kernel_rfl) (wrap_in g330) ?_
      clear E; intro a E
      refine wpList_nil ?_
      exact th_n ⟨m311, Nat.lt_succ_self _, out290, more291, x292 + 1, E.pick _ ⟨rfl, rfl, rfl, rfl, rfl, rfl, rfl, rfl, trivial⟩, H.sel [0, 1, 2, 3] rfl, hP⟩
     replace E := E_; clear E_
     have h331 : ¬ ((List.getD r265 (Int.toNat x292) false) = true) := (ne_true_of_eq_false hb_)
     clear hb_; replace hP := ite_f h331 hP
     refine vn tbok 6 [] [(64, .bool false)] [] E (by kernel_rfl) (by kernel_rfl) trivial ?_
     clear E; intro a E
     refine wpList_nil ?_
     refine th_n ?_
     refine c_false E rfl ?_
     refine wp_skip ?_
     refine bl_n ?_
     refine th_n ?_
     refine wp_region_lit ?_
     obtain ⟨g332, hP⟩ := ask_inv hP
     refine vn tbok 2 [.int .i64 (x292 + 1)] [(52, .int .i64 (x292 + 1))] [IntKind.i64.wrap (x292 + 1) = x292 + 1] E (by kernel_rfl) (by kernel_rfl) (wrap_in g332) ?_
     clear E; intro a E
     refine wpList_nil ?_
     exact th_n ⟨m311, Nat.lt_succ_self _, out290, more291, x292 + 1, E.pick _ ⟨rfl, rfl, rfl, rfl, rfl, rfl, rfl, rfl, trivial⟩, H.sel [0, 1, 2, 3] rfl, hP⟩
    replace E := E_; clear E_
    have h333 : ¬ (x292 < (((List.length r265) : Nat) : Int)) := of_decide_eq_false hb_
    clear hb_; replace hP := ite_f h333 hP
    refine c_false E rfl ?_
    refine wp_exit ?_
    refine th_exit ?_
    have hx_ := Option.some.inj hP
    refine th_exit (.inl ⟨4, rfl, ?_⟩)
    exact ⟨rfl, (out290, more291), E.pick _ ⟨rfl, rfl, rfl, rfl, rfl, trivial⟩, H.sel [0, 1, 2] rfl, hx_.symm⟩
   clear E H hL313; intro i_ a w315 hM_
   obtain ⟨rfl, x317, E, H, hx_⟩ := hM_
   subst hx_; have hP := hK314; clear hK314
   refine bl_hit ?_
   refine th_n ?_
   refine wp_seq ?_
   refine wp_region_lit ?_
   refine vn tbok 3 [] [(71, .int .i64 (((List.length x312.1) : Nat) : Int)), (72, .int .i64 0)] [] E (by kernel_rfl) (by kernel_rfl) trivial ?_
   clear E; intro a E
   refine wpList_nil ?_
   refine th_n ?_
   refine wp_block ?_
   obtain ⟨x361, hL362, hK363⟩ := bind_inv hP
   clear hP
   refine loop_cut (fun i_ a w_ => (i_ = 6 ∧ ∃ (x366 : List Bool), ∃ (A358 : Option Addr) (c359 : Nat), Fr a 85 [(6, .slice A32 (List.length r23.1) c33), (8, .slice (some ⟨g39, 0, none⟩) (List.length x312.1) (Int.toNat (((List.length r23.1) : Nat) : Int))), (9, .slice A358 (List.length x366) c359), (12, .int .i64 rank179), (13, .bool x312.2)] ∧ Hp S Fa w0 w_ [.row true (cSl (cSl (cInt .i64))) 45 A32 c33 r23.1, .rowx true (cInt .i64) 3 (some ⟨g39, 0, none⟩) (Int.toNat (((List.length r23.1) : Nat) : Int)) x312.1 (List.replicate (Int.toNat (((List.length r23.1) : Nat) : Int) - Int.toNat (((List.length r23.1) : Nat) : Int)) (0 : Int)), .row true cBool 4 A358 c359 x366] ∧ x361 = x366)) ?_ ?_
   ·
    refine loopV (fun m365 a w364 => ∃ (won343 : List Bool) (x346 : Int), ∃ (A344 : Option Addr) (c345 : Nat), Fr a 85 [(6, .slice A32 (List.length r23.1) c33), (8, .slice (some ⟨g39, 0, none⟩) (List.length x312.1) (Int.toNat (((List.length r23.1) : Nat) : Int))), (9, .slice A344 (List.length won343) c345), (12, .int .i64 rank179), (13, .bool x312.2), (71, .int .i64 (((List.length x312.1) : Nat) : Int)), (72, .int .i64 x346)] ∧ Hp S Fa w0 w364 [.row true (cSl (cSl (cInt .i64))) 45 A32 c33 r23.1, .rowx true (cInt .i64) 3 (some ⟨g39, 0, none⟩) (Int.toNat (((List.length r23.1) : Nat) : Int)) x312.1 (List.replicate (Int.toNat (((List.length r23.1) : Nat) : Int) - Int.toNat (((List.length r23.1) : Nat) : Int)) (0 : Int)), .row true cBool 4 A344 c345 won343] ∧ attract_Ranks_l3 N x312 m365 won343 x346 = some x361) N ?_ ?_
    ·
     exact ⟨won176, 0, A177, c178, E.pick _ ⟨rfl, rfl, rfl, rfl, rfl, rfl, rfl, trivial⟩, H.sel [0, 1, 2] rfl, hL362⟩
    clear E H hL362; intro m365 a w364 hI_
    obtain ⟨won343, x346, A344, c345, E, H, hP⟩ := hI_
    obtain ⟨m360, rfl⟩ : ∃ q_, m365 = q_ + 1 := by cases m365 with | zero => rw [attract_Ranks_l3] at hP; cases hP | succ q_ => exact ⟨q_, rfl⟩
    rw [attract_Ranks_l3] at hP
    refine wp_seq ?_
    refine wp_region_lit ?_
    refine vn tbok 1 [] [(73, .bool (decide (x346 < (((List.length x312.1) : Nat) : Int))))] [] E (by kernel_rfl) (by kernel_rfl) trivial ?_
    clear E; intro a E
    refine wpList_nil ?_
    refine th_n ?_
    refine wp_seq ?_
    refine E.cases (t := 73) rfl (fun hb_ E_ => ?_) (fun hb_ E_ => ?_)
    ·
     replace E := E_; clear E_
     have h367 : x346 < (((List.length x312.1) : Nat) : Int) := of_decide_eq_true hb_
     clear hb_; replace hP := ite_t h367 hP
     refine c_true E rfl ?_
     refine wp_skip ?_
     refine th_n ?_
     refine wp_seq ?_
     refine wp_block ?_
     refine wp_seq ?_
     refine wp_region_lit ?_
     refine vn tbok 2 [] [(16, .int .i64 x346)] [] E (by kernel_rfl) (by kernel_rfl) trivial ?_
     clear E; intro a E
     refine wpList_nil ?_
     refine th_n ?_
     refine wp_region_lit ?_
     obtain ⟨g368, hP⟩ := ask_inv hP
     obtain ⟨g369, hP⟩ := ask_inv hP
     obtain ⟨b370, e_b370⟩ := H.raddr 2 rfl (idx_pos g369)
     subst e_b370
     refine vn tbok 8 [.int .i64 (List.getD x312.1 (Int.toNat x346) 0)] [(81, .bool (decide (0 ≤ (List.getD x312.1 (Int.toNat x346) 0)))), (82, .pointer (some ⟨b370, 0 + (Int.toNat x346) * 1, none⟩))] [0 ≤ x346 ∧ x346 < (((List.length x312.1) : Nat) : Int), World.cell? w364 ⟨g39, 0 + (Int.toNat x346) * 1, none⟩ = some (.int .i64 (List.getD x312.1 (Int.toNat x346) 0)), 0 ≤ x346 ∧ x346 < (((List.length won343) : Nat) : Int)] E (by kernel_rfl) (by kernel_rfl) ⟨g368, Rds.at1 (H.rd 1 rds_rowx) 0 g368, g369⟩ ?_
     clear E; intro a E
     refine h_set (g := b370) (i := x346) (decide (0 ≤ (List.getD x312.1 (Int.toNat x346) 0))) H 2 rfl E rfl rfl rfl rfl tbok rfl (fun _ HF_ => rfl) rfl g369 rfl ?_
     clear E; intro w372 a hc373 H_ E
     replace H := H_; clear H_; try dsimp only [setn, addE, goneL] at H
     have hn374 : (List.length won343) = (List.length (List.set won343 (Int.toNat x346) (decide (0 ≤ (List.getD x312.1 (Int.toNat x346) 0))))) := by simp only [List.length_set]
     replace E := E.same (t := 9) (u := .slice (some ⟨b370, 0, none⟩) (List.length (List.set won343 (Int.toNat x346) (decide (0 ≤ (List.getD x312.1 (Int.toNat x346) 0))))) c345) rfl (congrArg (fun n_ => Value.slice (some ⟨b370, 0, none⟩) n_ c345) hn374)
     refine wpList_nil ?_
     refine bl_n ?_
     refine th_n ?_
     refine wp_region_lit ?_
     obtain ⟨g375, hP⟩ := ask_inv hP
     refine vn tbok 2 [.int .i64 (x346 + 1)] [(72, .int .i64 (x346 + 1))] [IntKind.i64.wrap (x346 + 1) = x346 + 1] E (by kernel_rfl) (by kernel_rfl) (wrap_in g375) ?_
     clear E; intro a E
     refine wpList_nil ?_
     exact th_n ⟨m360, Nat.lt_succ_self _, List.set won343 (Int.toNat x346) (decide (0 ≤ (List.getD x312.1 (Int.toNat x346) 0))), x346 + 1, (some ⟨b370, 0, none⟩), c345, E.pick _ ⟨rfl, rfl, rfl, rfl, rfl, rfl, rfl, trivial⟩, H.sel [0, 1, 2] rfl, hP⟩
    replace E := E_; clear E_
    have h376 : ¬ (x346 < (((List.length x312.1) : Nat) : Int)) := of_decide_eq_false hb_
    clear hb_; replace hP := ite_f h376 hP
    refine c_false E rfl ?_
    refine wp_exit ?_
    refine th_exit ?_
    have hx_ := Option.some.inj hP
    refine th_exit (.inl ⟨6, rfl, ?_⟩)
    exact ⟨rfl, won343, A344, c345, E.pick _ ⟨rfl, rfl, rfl, rfl, rfl, trivial⟩, H.sel [0, 1, 2] rfl, hx_.symm⟩
   clear E H hL362; intro i_ a w364 hM_
   obtain ⟨rfl, x366, A358, c359, E, H, hx_⟩ := hM_
   subst hx_; have hP := hK363; clear hK363
   refine bl_hit ?_
   refine bl_n ?_
   refine th_n ?_
   refine wp_region_lit ?_
   obtain ⟨g377, hP⟩ := ask_inv hP
   refine vn tbok 3 [.int .i64 (rank179 + 1)] [(12, .int .i64 (rank179 + 1))] [IntKind.i64.wrap (rank179 + 1) = rank179 + 1] E (by kernel_rfl) (by kernel_rfl) (wrap_in g377) ?_
   clear E; intro a E
   refine wpList_nil ?_
   exact th_n ⟨m257, Nat.lt_succ_self _, x312.1, x361, rank179 + 1, x312.2, A358, c359, E.pick _ ⟨rfl, rfl, rfl, rfl, rfl, trivial⟩, H.sel [0, 1, 2] rfl, hP⟩
  replace E := E_; clear E_
  have h378 : ¬ (more180 = true) := (ne_true_of_eq_false hb_)
  clear hb_; replace hP := ite_f h378 hP
  refine c_false E rfl ?_
  refine wp_exit ?_
  refine th_exit ?_
  have hx_ := Option.some.inj hP
  refine th_exit (.inl ⟨2, rfl, ?_⟩)
  exact ⟨rfl, out175, E.pick _ ⟨rfl, trivial⟩, H.sel [1] rfl, hx_.symm⟩
 clear E H hL259; intro i_ a w261 hM_
 obtain ⟨rfl, x263, E, H, hx_⟩ := hM_
 subst hx_; have hP := hK260; clear hK260
 refine bl_hit ?_
 refine th_n ?_
 refine wp_seq ?_
 refine wp_region_lit ?_
 refine vn tbok 3 [] [(4, .slice (some ⟨g39, 0, none⟩) (List.length x258) (Int.toNat (((List.length r23.1) : Nat) : Int))), (5, .int .i64 0)] [] E (by kernel_rfl) (by kernel_rfl) trivial ?_
 clear E; intro a E
 refine wpList_nil ?_
 refine th_n ?_
 refine wp_ret ?_
 replace H := H.fullx 0 rfl (by simp); try dsimp only [setn, addE, goneL] at H
 obtain rfl := Option.some.inj hP
 refine ret2 E rfl rfl rfl ?_
 exact ⟨_, rfl, (some ⟨g39, 0, none⟩), (Int.toNat (((List.length r23.1) : Nat) : Int)), rfl, H.sel [0] rfl⟩

end Go.V
