/- Plain functions, and the calls that give them. -/
import Derived.Test.YtldcmipgdacecaaA4
set_option linter.all false
set_option linter.unusedVariables false
set_option linter.unnecessarySimpa false
set_option linter.unusedSimpArgs false
namespace Go.V
open Go Go.Proofs
/-! rejoinder/rejoinderlaw28.NearKnown -/
def law28_NearKnown (N : Nat) : Option Bool :=
  Option.bind (near_Near N 1 ([false, true] : List Bool) ([0, 0] : List Int) ([(⟨0, -1, -2⟩ : Nd)] : List Nd) []) fun r24 =>
  Option.bind (near_Costs N 1 ([false, true] : List Bool) ([0, 0] : List Int) ([(⟨0, -1, -2⟩ : Nd)] : List Nd) ([0, 1] : List Int)) fun r41 =>
  Option.bind (near_Far N ([5, 0] : List Int) ([0, 1] : List Int)) fun r64 =>
  Option.bind (near_Far N ([1] : List Int) []) fun r79 =>
  Option.bind (near_Near N 1 ([false, true] : List Bool) ([0, 0] : List Int) ([(⟨0, -1, -2⟩ : Nd)] : List Nd) ([2] : List Int)) fun r93 =>
  if ((((List.length r24.1) : Nat) : Int) : Int) = 0 then
    if (r24.2.1 : Int) = 0 then
      if r24.2.2.1 = true then
        some false
      else
        if (r24.2.2.2 : Int) = 0 then
          if (r41.2 : Int) = 0 then
            if ((((List.length r41.1) : Nat) : Int) : Int) = 3 then
              Option.bind (law28_awake N) fun r117 =>
              if r117 = true then
                ask (idx (0 : Int) (List.length r41.1)) <|
                Option.bind (kit_SameInts N (List.getD r41.1 (Int.toNat (0 : Int)) []) ([0, 0] : List Int)) fun r140 =>
                if r140 = true then
                  ask (idx (1 : Int) (List.length r41.1)) <|
                  Option.bind (kit_SameInts N (List.getD r41.1 (Int.toNat (1 : Int)) []) ([0, 0] : List Int)) fun r161 =>
                  if r161 = true then
                    ask (idx (2 : Int) (List.length r41.1)) <|
                    Option.bind (kit_SameInts N (List.getD r41.1 (Int.toNat (2 : Int)) []) ([-1, 0] : List Int)) fun r182 =>
                    if r182 = true then
                      if (r64.1 : Int) = 3 then
                        if (r64.2 : Int) = 0 then
                          if (r79.2 : Int) = 2 then
                            some ((r93.2.2.2 : Int) == 2)
                          else
                            some false
                        else
                          some false
                      else
                        some false
                    else
                      some false
                  else
                    some false
                else
                  some false
              else
                some false
            else
              some false
          else
            some false
        else
          some false
    else
      some false
  else
    some false
set_option maxRecDepth 100000 in
set_option maxHeartbeats 4000000 in
theorem law28_NearKnown_calls {N : Nat} {S Fa : Nat → Prop} {w0 : World} {r : Bool} (H : Hp S Fa w0 w0 []) (hP : law28_NearKnown N  = some r) :
    Calls Try.prog 6 #[] w0 fun e w' => ∃ v, e = .returned v ∧ v = .bool r ∧ Hp S Fa w0 w' [] := by
 refine enterV (n := 114) Try.func6 rfl rfl rfl ?_
 intro a E
 replace E := E.pick [] trivial
 rw [law28_NearKnown] at hP
 refine wp_seq ?_
 refine wp_region_lit ?_
 refine vn tbok 1 [] [] [] E (by kernel_rfl) (by kernel_rfl) trivial ?_
 clear E; intro a E
 refine wpList_nil ?_
 refine th_n ?_
 refine wp_seq ?_
 refine wp_region_lit ?_
 refine h_buildSlice (ps := [(0, .bool false), (1, .bool true)]) (cs := [.bool false, .bool true]) H E rfl rfl tbok rfl rfl (by kernel_rfl) ?_
 intro w2 g1 a hc3 hg5 H_ E_
 replace E := E_ _ rfl; clear E_
 replace H := H_; clear H_; try dsimp only [setn, addE, goneL] at H
 refine h_buildSlice (ps := [(0, .int .i64 0), (1, .int .i64 0)]) (cs := [.int .i64 0, .int .i64 0]) H E rfl rfl tbok rfl rfl (by kernel_rfl) ?_
 intro w7 g6 a hc8 hg10 H_ E_
 replace E := E_ _ rfl; clear E_
 replace H := H_; clear H_; try dsimp only [setn, addE, goneL] at H
 refine e_build (ps := [(1, .int .i64 (-1)), (2, .int .i64 (-2))]) (v := .agg #[.int .i64 0, .int .i64 (-1), .int .i64 (-2)]) E rfl rfl tbok rfl (by kernel_rfl) rfl ?_
 clear E; intro a E
 refine h_buildSlice (ps := [(0, .agg #[.int .i64 0, .int .i64 (-1), .int .i64 (-2)])]) (cs := [.int .i64 0, .int .i64 (-1), .int .i64 (-2)]) H E rfl rfl tbok rfl rfl (by kernel_rfl) ?_
 intro w12 g11 a hc13 hg15 H_ E_
 replace E := E_ _ rfl; clear E_
 replace H := H_; clear H_; try dsimp only [setn, addE, goneL] at H
 refine e_build (ps := [(0, .int .i64 1), (1, .slice (some ⟨g1, 0, none⟩) 2 2), (2, .slice (some ⟨g6, 0, none⟩) 2 2), (3, .slice (some ⟨g11, 0, none⟩) 1 1)]) (v := .agg #[.int .i64 1, .slice (some ⟨g1, 0, none⟩) 2 2, .slice (some ⟨g6, 0, none⟩) 2 2, .slice (some ⟨g11, 0, none⟩) 1 1]) E rfl rfl tbok rfl (by kernel_rfl) rfl ?_
 clear E; intro a E
 refine h_alloc H E rfl rfl tbok rfl ?_
 intro w17 g16 a hc18 hg20 H_ E_
 replace E := E_ _ rfl; clear E_
 replace H := H_; clear H_; try dsimp only [setn, addE, goneL] at H
 refine h_store (g := g16) (off := 0) H 3 rfl E rfl rfl rfl rfl tbok rfl rfl rfl rfl rfl ?_
 clear E; intro w21 a hc22 H_ E
 replace H := H_; clear H_; try dsimp only [setn, addE, goneL] at H
 refine wpList_nil ?_
 refine th_n ?_
 refine wp_seq ?_
 refine wp_region_lit ?_
 refine vn tbok 1 [.agg #[.int .i64 1, .slice (some ⟨g1, 0, none⟩) 2 2, .slice (some ⟨g6, 0, none⟩) 2 2, .slice (some ⟨g11, 0, none⟩) 1 1]] [(22, .agg #[.int .i64 1, .slice (some ⟨g1, 0, none⟩) 2 2, .slice (some ⟨g6, 0, none⟩) 2 2, .slice (some ⟨g11, 0, none⟩) 1 1])] [cellsAt w21 g16 (0) [.int .i64 1, .slice (some ⟨g1, 0, none⟩) 2 2, .slice (some ⟨g6, 0, none⟩) 2 2, .slice (some ⟨g11, 0, none⟩) 1 1]] E (by kernel_rfl) (by kernel_rfl) ((H.box 3 rfl).sub 0 _ rfl) ?_
 clear E; intro a E
 replace H := H.boxRow cBool true ([false, true] : List Bool) 0 rfl (fun _ _ => ⟨_, _, rfl, rfl, ⟨_, _, rfl, rfl, rfl⟩⟩) (Nat.le_of_ble_eq_true rfl); try dsimp only [setn, addE, goneL] at H
 replace H := H.boxRow (cInt .i64) true ([0, 0] : List Int) 1 rfl (fun _ _ => ⟨_, _, rfl, rfl, ⟨_, _, rfl, rfl, rfl⟩⟩) (Nat.le_of_ble_eq_true rfl); try dsimp only [setn, addE, goneL] at H
 replace H := H.boxRow cNode true ([(⟨0, -1, -2⟩ : Nd)] : List Nd) 2 rfl (fun _ _ => ⟨_, _, rfl, rfl, rfl⟩) (Nat.le_of_ble_eq_true rfl); try dsimp only [setn, addE, goneL] at H
 replace H := H.nilrow (cInt .u8) 56; try dsimp only [setn, addE, goneL] at H
 obtain ⟨r24, h25, hP⟩ := bind_inv hP
 obtain ⟨Fa26, Hc27, hb28⟩ := H.call [] [(0, false), (1, false), (2, false), (4, false)] rfl rfl trivial
 refine e_call E rfl rfl Try.func14 rfl rfl rfl (near_Near_calls (some ⟨g1, 0, none⟩) 2 (some ⟨g6, 0, none⟩) 2 (some ⟨g11, 0, none⟩) 1 none 0 1 ([false, true] : List Bool) ([0, 0] : List Int) ([(⟨0, -1, -2⟩ : Nd)] : List Nd) [] (H.rcapx 0 rfl) (H.rcapx 1 rfl) (H.rcapx 2 rfl) (Nat.le_refl _) Hc27 h25) ?_
 rintro v29 w30 a ⟨A33, c34, rfl, HR31⟩ E_
 replace E := E_ _ rfl; clear E_
 obtain ⟨H_, hc32⟩ := hb28 _ _ HR31 rfl
 replace H := H_; clear H_; try dsimp only [setn, addE, goneL] at H
 refine vn tbok 9 [] [(2, .slice A33 (List.length r24.1) c34), (3, .int .i64 r24.2.1), (4, .bool r24.2.2.1), (5, .int .i64 r24.2.2.2)] [] E (by kernel_rfl) (by kernel_rfl) trivial ?_
 clear E; intro a E
 refine wpList_nil ?_
 refine th_n ?_
 refine wp_seq ?_
 refine wp_region_lit ?_
 refine vn tbok 1 [.agg #[.int .i64 1, .slice (some ⟨g1, 0, none⟩) 2 2, .slice (some ⟨g6, 0, none⟩) 2 2, .slice (some ⟨g11, 0, none⟩) 1 1]] [(29, .agg #[.int .i64 1, .slice (some ⟨g1, 0, none⟩) 2 2, .slice (some ⟨g6, 0, none⟩) 2 2, .slice (some ⟨g11, 0, none⟩) 1 1])] [cellsAt w30 g16 (0) [.int .i64 1, .slice (some ⟨g1, 0, none⟩) 2 2, .slice (some ⟨g6, 0, none⟩) 2 2, .slice (some ⟨g11, 0, none⟩) 1 1]] E (by kernel_rfl) (by kernel_rfl) ((H.box 3 rfl).sub 0 _ rfl) ?_
 clear E; intro a E
 refine h_buildSlice (ps := [(0, .int .u8 0), (1, .int .u8 1)]) (cs := [.int .u8 0, .int .u8 1]) H E rfl rfl tbok rfl rfl (by kernel_rfl) ?_
 intro w37 g36 a hc38 hg40 H_ E_
 replace E := E_ _ rfl; clear E_
 replace H := H_; clear H_; try dsimp only [setn, addE, goneL] at H
 replace H := H.boxRow (cInt .u8) true ([0, 1] : List Int) 6 rfl (fun _ _ => ⟨_, _, rfl, rfl, ⟨_, _, rfl, rfl, rfl⟩⟩) (Nat.le_of_ble_eq_true rfl); try dsimp only [setn, addE, goneL] at H
 obtain ⟨r41, h42, hP⟩ := bind_inv hP
 obtain ⟨Fa43, Hc44, hb45⟩ := H.call [] [(0, false), (1, false), (2, false), (6, false)] rfl rfl trivial
 refine e_call E rfl rfl Try.func17 rfl rfl rfl (near_Costs_calls (some ⟨g1, 0, none⟩) 2 (some ⟨g6, 0, none⟩) 2 (some ⟨g11, 0, none⟩) 1 (some ⟨g36, 0, none⟩) 2 1 ([false, true] : List Bool) ([0, 0] : List Int) ([(⟨0, -1, -2⟩ : Nd)] : List Nd) ([0, 1] : List Int) (H.rcapx 0 rfl) (H.rcapx 1 rfl) (H.rcapx 2 rfl) (H.rcapx 6 rfl) Hc44 h42) ?_
 rintro v46 w47 a ⟨A50, c51, rfl, hk53, HR48⟩ E_
 replace E := E_ _ rfl; clear E_
 obtain ⟨H_, hc49⟩ := hb45 _ _ HR48 rfl
 replace H := H_; clear H_; try dsimp only [setn, addE, goneL] at H
 refine vn tbok 5 [] [(6, .slice A50 (List.length r41.1) c51), (7, .int .i64 r41.2)] [] E (by kernel_rfl) (by kernel_rfl) trivial ?_
 clear E; intro a E
 refine wpList_nil ?_
 refine th_n ?_
 refine wp_seq ?_
 refine wp_region_lit ?_
 refine h_buildSlice (ps := [(0, .int .u8 5), (1, .int .u8 0)]) (cs := [.int .u8 5, .int .u8 0]) H E rfl rfl tbok rfl rfl (by kernel_rfl) ?_
 intro w55 g54 a hc56 hg58 H_ E_
 replace E := E_ _ rfl; clear E_
 replace H := H_; clear H_; try dsimp only [setn, addE, goneL] at H
 refine h_buildSlice (ps := [(0, .int .u8 0), (1, .int .u8 1)]) (cs := [.int .u8 0, .int .u8 1]) H E rfl rfl tbok rfl rfl (by kernel_rfl) ?_
 intro w60 g59 a hc61 hg63 H_ E_
 replace E := E_ _ rfl; clear E_
 replace H := H_; clear H_; try dsimp only [setn, addE, goneL] at H
 replace H := H.boxRow (cInt .u8) true ([5, 0] : List Int) 8 rfl (fun _ _ => ⟨_, _, rfl, rfl, ⟨_, _, rfl, rfl, rfl⟩⟩) (Nat.le_of_ble_eq_true rfl); try dsimp only [setn, addE, goneL] at H
 replace H := H.boxRow (cInt .u8) true ([0, 1] : List Int) 9 rfl (fun _ _ => ⟨_, _, rfl, rfl, ⟨_, _, rfl, rfl, rfl⟩⟩) (Nat.le_of_ble_eq_true rfl); try dsimp only [setn, addE, goneL] at H
 obtain ⟨r64, h65, hP⟩ := bind_inv hP
 obtain ⟨Fa66, Hc67, hb68⟩ := H.call [] [(8, false), (9, false)] rfl rfl trivial
 refine e_call E rfl rfl Try.func9 rfl rfl rfl (near_Far_calls (some ⟨g54, 0, none⟩) 2 (some ⟨g59, 0, none⟩) 2 ([5, 0] : List Int) ([0, 1] : List Int) (H.rcapx 8 rfl) (H.rcapx 9 rfl) Hc67 h65) ?_
 rintro v69 w70 a ⟨rfl, HR71⟩ E_
 replace E := E_ _ rfl; clear E_
 obtain ⟨H_, hc72⟩ := hb68 _ _ HR71 rfl
 replace H := H_; clear H_; try dsimp only [setn, addE, goneL] at H
 refine vn tbok 5 [] [(8, .int .i64 r64.1), (9, .int .i64 r64.2)] [] E (by kernel_rfl) (by kernel_rfl) trivial ?_
 clear E; intro a E
 refine wpList_nil ?_
 refine th_n ?_
 refine wp_seq ?_
 refine wp_region_lit ?_
 refine h_buildSlice (ps := [(0, .int .u8 1)]) (cs := [.int .u8 1]) H E rfl rfl tbok rfl rfl (by kernel_rfl) ?_
 intro w74 g73 a hc75 hg77 H_ E_
 replace E := E_ _ rfl; clear E_
 replace H := H_; clear H_; try dsimp only [setn, addE, goneL] at H
 replace H := H.boxRow (cInt .u8) true ([1] : List Int) 10 rfl (fun _ _ => ⟨_, _, rfl, rfl, rfl⟩) (Nat.le_of_ble_eq_true rfl); try dsimp only [setn, addE, goneL] at H
 replace H := H.nilrow (cInt .u8) 56; try dsimp only [setn, addE, goneL] at H
 obtain ⟨r79, h80, hP⟩ := bind_inv hP
 obtain ⟨Fa81, Hc82, hb83⟩ := H.call [] [(10, false), (11, false)] rfl rfl trivial
 refine e_call E rfl rfl Try.func9 rfl rfl rfl (near_Far_calls (some ⟨g73, 0, none⟩) 1 none 0 ([1] : List Int) [] (H.rcapx 10 rfl) (Nat.le_refl _) Hc82 h80) ?_
 rintro v84 w85 a ⟨rfl, HR86⟩ E_
 replace E := E_ _ rfl; clear E_
 obtain ⟨H_, hc87⟩ := hb83 _ _ HR86 rfl
 replace H := H_; clear H_; try dsimp only [setn, addE, goneL] at H
 refine vn tbok 5 [] [(11, .int .i64 r79.2)] [] E (by kernel_rfl) (by kernel_rfl) trivial ?_
 clear E; intro a E
 refine wpList_nil ?_
 refine th_n ?_
 refine wp_seq ?_
 refine wp_region_lit ?_
 refine vn tbok 1 [.agg #[.int .i64 1, .slice (some ⟨g1, 0, none⟩) 2 2, .slice (some ⟨g6, 0, none⟩) 2 2, .slice (some ⟨g11, 0, none⟩) 1 1]] [(46, .agg #[.int .i64 1, .slice (some ⟨g1, 0, none⟩) 2 2, .slice (some ⟨g6, 0, none⟩) 2 2, .slice (some ⟨g11, 0, none⟩) 1 1])] [cellsAt w85 g16 (0) [.int .i64 1, .slice (some ⟨g1, 0, none⟩) 2 2, .slice (some ⟨g6, 0, none⟩) 2 2, .slice (some ⟨g11, 0, none⟩) 1 1]] E (by kernel_rfl) (by kernel_rfl) ((H.box 3 rfl).sub 0 _ rfl) ?_
 clear E; intro a E
 refine h_buildSlice (ps := [(0, .int .u8 2)]) (cs := [.int .u8 2]) H E rfl rfl tbok rfl rfl (by kernel_rfl) ?_
 intro w89 g88 a hc90 hg92 H_ E_
 replace E := E_ _ rfl; clear E_
 replace H := H_; clear H_; try dsimp only [setn, addE, goneL] at H
 replace H := H.boxRow (cInt .u8) true ([2] : List Int) 12 rfl (fun _ _ => ⟨_, _, rfl, rfl, rfl⟩) (Nat.le_of_ble_eq_true rfl); try dsimp only [setn, addE, goneL] at H
 obtain ⟨r93, h94, hP⟩ := bind_inv hP
 obtain ⟨Fa95, Hc96, hb97⟩ := H.call [] [(0, false), (1, false), (2, false), (12, false)] rfl rfl trivial
 refine e_call E rfl rfl Try.func14 rfl rfl rfl (near_Near_calls (some ⟨g1, 0, none⟩) 2 (some ⟨g6, 0, none⟩) 2 (some ⟨g11, 0, none⟩) 1 (some ⟨g88, 0, none⟩) 1 1 ([false, true] : List Bool) ([0, 0] : List Int) ([(⟨0, -1, -2⟩ : Nd)] : List Nd) ([2] : List Int) (H.rcapx 0 rfl) (H.rcapx 1 rfl) (H.rcapx 2 rfl) (H.rcapx 12 rfl) Hc96 h94) ?_
 rintro v98 w99 a ⟨A102, c103, rfl, HR100⟩ E_
 replace E := E_ _ rfl; clear E_
 obtain ⟨H_, hc101⟩ := hb97 _ _ HR100 rfl
 replace H := H_; clear H_; try dsimp only [setn, addE, goneL] at H
 refine vn tbok 9 [] [(15, .int .i64 r93.2.2.2)] [] E (by kernel_rfl) (by kernel_rfl) trivial ?_
 clear E; intro a E
 refine wpList_nil ?_
 refine th_n ?_
 refine wp_seq ?_
 refine wp_seq ?_
 refine wp_region_lit ?_
 refine vn tbok 4 [] [(56, .bool (((((List.length r24.1) : Nat) : Int) : Int) != 0))] [] E (by kernel_rfl) (by kernel_rfl) trivial ?_
 clear E; intro a E
 refine E.cases (t := 56) rfl (fun hb_ E_ => ?_) (fun hb_ E_ => ?_)
 ·
  replace E := E_; clear E_
  have h105 : ¬ (((((List.length r24.1) : Nat) : Int) : Int) = 0) := bne_iff_ne.1 hb_
  clear hb_; replace hP := ite_f h105 hP
  refine vn tbok 19 [] [(75, .bool true)] [] E (by kernel_rfl) (by kernel_rfl) trivial ?_
  clear E; intro a E
  refine wpList_nil ?_
  refine th_n ?_
  refine c_true E rfl ?_
  refine wp_seq ?_
  refine wp_region_lit ?_
  refine vn tbok 1 [] [(0, .bool false)] [] E (by kernel_rfl) (by kernel_rfl) trivial ?_
  clear E; intro a E
  refine wpList_nil ?_
  refine th_n ?_
  refine wp_ret ?_
  refine th_ret ?_
  obtain rfl := Option.some.inj hP
  refine ret1 E rfl rfl ?_
  exact ⟨_, rfl, rfl, H.sel [] rfl⟩
 replace E := E_; clear E_
 have h106 : ((((List.length r24.1) : Nat) : Int) : Int) = 0 := bne_eq_false_iff_eq.1 hb_
 clear hb_; replace hP := ite_t h106 hP
 refine vn tbok 4 [] [(60, .bool ((r24.2.1 : Int) != 0))] [] E (by kernel_rfl) (by kernel_rfl) trivial ?_
 clear E; intro a E
 refine E.cases (t := 60) rfl (fun hb_ E_ => ?_) (fun hb_ E_ => ?_)
 ·
  replace E := E_; clear E_
  have h107 : ¬ ((r24.2.1 : Int) = 0) := bne_iff_ne.1 hb_
  clear hb_; replace hP := ite_f h107 hP
  refine vn tbok 15 [] [(75, .bool true)] [] E (by kernel_rfl) (by kernel_rfl) trivial ?_
  clear E; intro a E
  refine wpList_nil ?_
  refine th_n ?_
  refine c_true E rfl ?_
  refine wp_seq ?_
  refine wp_region_lit ?_
  refine vr tbok 1 [] [(0, .bool false)] [] E (by kernel_rfl) trivial ?_
  clear E; intro a E
  refine wpList_nil ?_
  refine th_n ?_
  refine wp_ret ?_
  refine th_ret ?_
  obtain rfl := Option.some.inj hP
  refine ret1 E rfl rfl ?_
  exact ⟨_, rfl, rfl, H.sel [] rfl⟩
 replace E := E_; clear E_
 have h108 : (r24.2.1 : Int) = 0 := bne_eq_false_iff_eq.1 hb_
 clear hb_; replace hP := ite_t h108 hP
 refine vn tbok 3 [] [(63, .bool r24.2.2.1)] [] E (by kernel_rfl) (by kernel_rfl) trivial ?_
 clear E; intro a E
 refine E.cases (t := 63) rfl (fun hb_ E_ => ?_) (fun hb_ E_ => ?_)
 ·
  replace E := E_; clear E_
  have h109 : r24.2.2.1 = true := hb_
  clear hb_; replace hP := ite_t h109 hP
  refine vn tbok 12 [] [(75, .bool true)] [] E (by kernel_rfl) (by kernel_rfl) trivial ?_
  clear E; intro a E
  refine wpList_nil ?_
  refine th_n ?_
  refine c_true E rfl ?_
  refine wp_seq ?_
  refine wp_region_lit ?_
  refine vr tbok 1 [] [(0, .bool false)] [] E (by kernel_rfl) trivial ?_
  clear E; intro a E
  refine wpList_nil ?_
  refine th_n ?_
  refine wp_ret ?_
  refine th_ret ?_
  obtain rfl := Option.some.inj hP
  refine ret1 E rfl rfl ?_
  exact ⟨_, rfl, rfl, H.sel [] rfl⟩
 replace E := E_; clear E_
 have h110 : ¬ (r24.2.2.1 = true) := (ne_true_of_eq_false hb_)
 clear hb_; replace hP := ite_f h110 hP
 refine vn tbok 4 [] [(67, .bool ((r24.2.2.2 : Int) != 0))] [] E (by kernel_rfl) (by kernel_rfl) trivial ?_
 clear E; intro a E
 refine E.cases (t := 67) rfl (fun hb_ E_ => ?_) (fun hb_ E_ => ?_)
 ·
  replace E := E_; clear E_
  have h111 : ¬ ((r24.2.2.2 : Int) = 0) := bne_iff_ne.1 hb_
  clear hb_; replace hP := ite_f h111 hP
  refine vn tbok 8 [] [(75, .bool true)] [] E (by kernel_rfl) (by kernel_rfl) trivial ?_
  clear E; intro a E
  refine wpList_nil ?_
  refine th_n ?_
  refine c_true E rfl ?_
  refine wp_seq ?_
  refine wp_region_lit ?_
  refine vr tbok 1 [] [(0, .bool false)] [] E (by kernel_rfl) trivial ?_
  clear E; intro a E
  refine wpList_nil ?_
  refine th_n ?_
  refine wp_ret ?_
  refine th_ret ?_
  obtain rfl := Option.some.inj hP
  refine ret1 E rfl rfl ?_
  exact ⟨_, rfl, rfl, H.sel [] rfl⟩
 replace E := E_; clear E_
 have h112 : (r24.2.2.2 : Int) = 0 := bne_eq_false_iff_eq.1 hb_
 clear hb_; replace hP := ite_t h112 hP
 refine vn tbok 4 [] [(71, .bool ((r41.2 : Int) != 0))] [] E (by kernel_rfl) (by kernel_rfl) trivial ?_
 clear E; intro a E
 refine E.cases (t := 71) rfl (fun hb_ E_ => ?_) (fun hb_ E_ => ?_)
 ·
  replace E := E_; clear E_
  have h113 : ¬ ((r41.2 : Int) = 0) := bne_iff_ne.1 hb_
  clear hb_; replace hP := ite_f h113 hP
  refine vn tbok 4 [] [(75, .bool true)] [] E (by kernel_rfl) (by kernel_rfl) trivial ?_
  clear E; intro a E
  refine wpList_nil ?_
  refine th_n ?_
  refine c_true E rfl ?_
  refine wp_seq ?_
  refine wp_region_lit ?_
  refine vr tbok 1 [] [(0, .bool false)] [] E (by kernel_rfl) trivial ?_
  clear E; intro a E
  refine wpList_nil ?_
  refine th_n ?_
  refine wp_ret ?_
  refine th_ret ?_
  obtain rfl := Option.some.inj hP
  refine ret1 E rfl rfl ?_
  exact ⟨_, rfl, rfl, H.sel [] rfl⟩
 replace E := E_; clear E_
 have h114 : (r41.2 : Int) = 0 := bne_eq_false_iff_eq.1 hb_
 clear hb_; replace hP := ite_t h114 hP
 refine vn tbok 4 [] [(75, .bool (((((List.length r41.1) : Nat) : Int) : Int) != 3))] [] E (by kernel_rfl) (by kernel_rfl) trivial ?_
 clear E; intro a E
 refine wpList_nil ?_
 refine th_n ?_
 refine E.cases (t := 75) rfl (fun hb_ E_ => ?_) (fun hb_ E_ => ?_)
 ·
  replace E := E_; clear E_
  have h115 : ¬ (((((List.length r41.1) : Nat) : Int) : Int) = 3) := bne_iff_ne.1 hb_
  clear hb_; replace hP := ite_f h115 hP
  refine c_true E rfl ?_
  refine wp_seq ?_
  refine wp_region_lit ?_
  refine vr tbok 1 [] [(0, .bool false)] [] E (by kernel_rfl) trivial ?_
  clear E; intro a E
  refine wpList_nil ?_
  refine th_n ?_
  refine wp_ret ?_
  refine th_ret ?_
  obtain rfl := Option.some.inj hP
  refine ret1 E rfl rfl ?_
  exact ⟨_, rfl, rfl, H.sel [] rfl⟩
 replace E := E_; clear E_
 have h116 : ((((List.length r41.1) : Nat) : Int) : Int) = 3 := bne_eq_false_iff_eq.1 hb_
 clear hb_; replace hP := ite_t h116 hP
 refine c_false E rfl ?_
 refine wp_skip ?_
 refine th_n ?_
 refine wp_seq ?_
 refine wp_region_lit ?_
 obtain ⟨r117, h118, hP⟩ := bind_inv hP
 obtain ⟨Fa119, Hc120, hb121⟩ := H.call [] [] rfl rfl trivial
 refine e_call E rfl rfl Try.func23 rfl rfl rfl (law28_awake_calls    Hc120 h118) ?_
 rintro v122 w123 a ⟨rfl, HR124⟩ E_
 replace E := E_ _ rfl; clear E_
 obtain ⟨H_, hc125⟩ := hb121 _ _ HR124 rfl
 replace H := H_; clear H_; try dsimp only [setn, addE, goneL] at H
 refine vn tbok 1 [] [(77, .bool r117)] [] E (by kernel_rfl) (by kernel_rfl) trivial ?_
 clear E; intro a E
 refine E.cases (t := 77) rfl (fun hb_ E_ => ?_) (fun hb_ E_ => ?_)
 ·
  replace E := E_; clear E_
  have h126 : r117 = true := hb_
  clear hb_; replace hP := ite_t h126 hP
  obtain ⟨g127, hP⟩ := ask_inv hP
  obtain ⟨b128, o129, e_b128⟩ := (H.rd 7 rds_ro).addr (idx_pos g127)
  subst e_b128
  obtain ⟨A130, c131, hl132, hk133, H⟩ := H.subSl 7 true (el_ro rfl) g127
  try dsimp only [addE] at H
  refine vn tbok 3 [.slice A130 (List.length (List.getD r41.1 (Int.toNat (0 : Int)) [])) c131] [(80, .slice A130 (List.length (List.getD r41.1 (Int.toNat (0 : Int)) [])) c131)] [0 ≤ (0 : Int) ∧ (0 : Int) < (((List.length r41.1) : Nat) : Int), World.cell? w123 ⟨b128, o129 + (Int.toNat (0 : Int)) * 1, none⟩ = some (.slice A130 (List.length (List.getD r41.1 (Int.toNat (0 : Int)) [])) c131)] E (by kernel_rfl) (by kernel_rfl) ⟨g127, hl132⟩ ?_
  clear E; intro a E
  refine h_buildSlice (ps := [(0, .int .i64 0), (1, .int .i64 0)]) (cs := [.int .i64 0, .int .i64 0]) H E rfl rfl tbok rfl rfl (by kernel_rfl) ?_
  intro w136 g135 a hc137 hg139 H_ E_
  replace E := E_ _ rfl; clear E_
  replace H := H_; clear H_; try dsimp only [setn, addE, goneL] at H
  replace H := H.boxRow (cInt .i64) true ([0, 0] : List Int) 15 rfl (fun _ _ => ⟨_, _, rfl, rfl, ⟨_, _, rfl, rfl, rfl⟩⟩) (Nat.le_of_ble_eq_true rfl); try dsimp only [setn, addE, goneL] at H
  obtain ⟨r140, h141, hP⟩ := bind_inv hP
  obtain ⟨Fa142, Hc143, hb144⟩ := H.call [] [(14, false), (15, false)] rfl rfl trivial
  refine e_call E rfl rfl Try.func19 rfl rfl rfl (kit_SameInts_calls A130 c131 (some ⟨g135, 0, none⟩) 2 (List.getD r41.1 (Int.toNat (0 : Int)) []) ([0, 0] : List Int) hk133 (H.rcapx 15 rfl) Hc143 h141) ?_
  rintro v145 w146 a ⟨rfl, HR147⟩ E_
  replace E := E_ _ rfl; clear E_
  obtain ⟨H_, hc148⟩ := hb144 _ _ HR147 rfl
  replace H := H_; clear H_; try dsimp only [setn, addE, goneL] at H
  refine vn tbok 2 [] [(84, .bool r140)] [] E (by kernel_rfl) (by kernel_rfl) trivial ?_
  clear E; intro a E
  refine E.cases (t := 84) rfl (fun hb_ E_ => ?_) (fun hb_ E_ => ?_)
  ·
   replace E := E_; clear E_
   have h149 : r140 = true := hb_
   clear hb_; replace hP := ite_t h149 hP
   obtain ⟨g150, hP⟩ := ask_inv hP
   obtain ⟨A151, c152, hl153, hk154, H⟩ := H.subSl 7 true (el_ro rfl) g150
   try dsimp only [addE] at H
   refine vn tbok 3 [.slice A151 (List.length (List.getD r41.1 (Int.toNat (1 : Int)) [])) c152] [(87, .slice A151 (List.length (List.getD r41.1 (Int.toNat (1 : Int)) [])) c152)] [0 ≤ (1 : Int) ∧ (1 : Int) < (((List.length r41.1) : Nat) : Int), World.cell? w146 ⟨b128, o129 + (Int.toNat (1 : Int)) * 1, none⟩ = some (.slice A151 (List.length (List.getD r41.1 (Int.toNat (1 : Int)) [])) c152)] E (by kernel_rfl) (by kernel_rfl) ⟨g150, hl153⟩ ?_
   clear E; intro a E
   refine h_buildSlice (ps := [(0, .int .i64 0), (1, .int .i64 0)]) (cs := [.int .i64 0, .int .i64 0]) H E rfl rfl tbok rfl rfl (by kernel_rfl) ?_
   intro w157 g156 a hc158 hg160 H_ E_
   replace E := E_ _ rfl; clear E_
   replace H := H_; clear H_; try dsimp only [setn, addE, goneL] at H
   replace H := H.boxRow (cInt .i64) true ([0, 0] : List Int) 17 rfl (fun _ _ => ⟨_, _, rfl, rfl, ⟨_, _, rfl, rfl, rfl⟩⟩) (Nat.le_of_ble_eq_true rfl); try dsimp only [setn, addE, goneL] at H
   obtain ⟨r161, h162, hP⟩ := bind_inv hP
   obtain ⟨Fa163, Hc164, hb165⟩ := H.call [] [(16, false), (17, false)] rfl rfl trivial
   refine e_call E rfl rfl Try.func19 rfl rfl rfl (kit_SameInts_calls A151 c152 (some ⟨g156, 0, none⟩) 2 (List.getD r41.1 (Int.toNat (1 : Int)) []) ([0, 0] : List Int) hk154 (H.rcapx 17 rfl) Hc164 h162) ?_
   rintro v166 w167 a ⟨rfl, HR168⟩ E_
   replace E := E_ _ rfl; clear E_
   obtain ⟨H_, hc169⟩ := hb165 _ _ HR168 rfl
   replace H := H_; clear H_; try dsimp only [setn, addE, goneL] at H
   refine vr tbok 2 [] [(6, .slice (some ⟨b128, o129, none⟩) (List.length r41.1) c51), (8, .int .i64 r64.1), (9, .int .i64 r64.2), (11, .int .i64 r79.2), (15, .int .i64 r93.2.2.2), (91, .bool r161)] [] E (by kernel_rfl) trivial ?_
   clear E; intro a E
   refine E.cases (t := 91) rfl (fun hb_ E_ => ?_) (fun hb_ E_ => ?_)
   ·
    replace E := E_; clear E_
    have h170 : r161 = true := hb_
    clear hb_; replace hP := ite_t h170 hP
    obtain ⟨g171, hP⟩ := ask_inv hP
    obtain ⟨A172, c173, hl174, hk175, H⟩ := H.subSl 7 true (el_ro rfl) g171
    try dsimp only [addE] at H
    refine vn tbok 3 [.slice A172 (List.length (List.getD r41.1 (Int.toNat (2 : Int)) [])) c173] [(94, .slice A172 (List.length (List.getD r41.1 (Int.toNat (2 : Int)) [])) c173)] [0 ≤ (2 : Int) ∧ (2 : Int) < (((List.length r41.1) : Nat) : Int), World.cell? w167 ⟨b128, o129 + (Int.toNat (2 : Int)) * 1, none⟩ = some (.slice A172 (List.length (List.getD r41.1 (Int.toNat (2 : Int)) [])) c173)] E (by kernel_rfl) (by kernel_rfl) ⟨g171, hl174⟩ ?_
    clear E; intro a E
    refine h_buildSlice (ps := [(0, .int .i64 (-1)), (1, .int .i64 0)]) (cs := [.int .i64 (-1), .int .i64 0]) H E rfl rfl tbok rfl rfl (by kernel_rfl) ?_
    intro w178 g177 a hc179 hg181 H_ E_
    replace E := E_ _ rfl; clear E_
    replace H := H_; clear H_; try dsimp only [setn, addE, goneL] at H
    replace H := H.boxRow (cInt .i64) true ([-1, 0] : List Int) 19 rfl (fun _ _ => ⟨_, _, rfl, rfl, ⟨_, _, rfl, rfl, rfl⟩⟩) (Nat.le_of_ble_eq_true rfl); try dsimp only [setn, addE, goneL] at H
    obtain ⟨r182, h183, hP⟩ := bind_inv hP
    obtain ⟨Fa184, Hc185, hb186⟩ := H.call [] [(18, false), (19, false)] rfl rfl trivial
    refine e_call E rfl rfl Try.func19 rfl rfl rfl (kit_SameInts_calls A172 c173 (some ⟨g177, 0, none⟩) 2 (List.getD r41.1 (Int.toNat (2 : Int)) []) ([-1, 0] : List Int) hk175 (H.rcapx 19 rfl) Hc185 h183) ?_
    rintro v187 w188 a ⟨rfl, HR189⟩ E_
    replace E := E_ _ rfl; clear E_
    obtain ⟨H_, hc190⟩ := hb186 _ _ HR189 rfl
    replace H := H_; clear H_; try dsimp only [setn, addE, goneL] at H
    refine vn tbok 2 [] [(98, .bool r182)] [] E (by kernel_rfl) (by kernel_rfl) trivial ?_
    clear E; intro a E
    refine E.cases (t := 98) rfl (fun hb_ E_ => ?_) (fun hb_ E_ => ?_)
    ·
     replace E := E_; clear E_
     have h191 : r182 = true := hb_
     clear hb_; replace hP := ite_t h191 hP
     refine vn tbok 4 [] [(102, .bool ((r64.1 : Int) == 3))] [] E (by kernel_rfl) (by kernel_rfl) trivial ?_
     clear E; intro a E
     refine E.cases (t := 102) rfl (fun hb_ E_ => ?_) (fun hb_ E_ => ?_)
     ·
      replace E := E_; clear E_
      have h192 : (r64.1 : Int) = 3 := eq_of_beq hb_
      clear hb_; replace hP := ite_t h192 hP
      refine vn tbok 4 [] [(106, .bool ((r64.2 : Int) == 0))] [] E (by kernel_rfl) (by kernel_rfl) trivial ?_
      clear E; intro a E
      refine E.cases (t := 106) rfl (fun hb_ E_ => ?_) (fun hb_ E_ => ?_)
      ·
       replace E := E_; clear E_
       have h193 : (r64.2 : Int) = 0 := eq_of_beq hb_
       clear hb_; replace hP := ite_t h193 hP
       refine vn tbok 4 [] [(110, .bool ((r79.2 : Int) == 2))] [] E (by kernel_rfl) (by kernel_rfl) trivial ?_
       clear E; intro a E
       refine E.cases (t := 110) rfl (fun hb_ E_ => ?_) (fun hb_ E_ => ?_)
       ·
        replace E := E_; clear E_
        have h194 : (r79.2 : Int) = 2 := eq_of_beq hb_
        clear hb_; replace hP := ite_t h194 hP
        refine vn tbok 4 [] [(0, .bool ((r93.2.2.2 : Int) == 2))] [] E (by kernel_rfl) (by kernel_rfl) trivial ?_
        clear E; intro a E
        refine wpList_nil ?_
        refine th_n ?_
        refine wp_ret ?_
        obtain rfl := Option.some.inj hP
        refine ret1 E rfl rfl ?_
        exact ⟨_, rfl, rfl, H.sel [] rfl⟩
       replace E := E_; clear E_
       have h195 : ¬ ((r79.2 : Int) = 2) := ne_of_beq_false hb_
       clear hb_; replace hP := ite_f h195 hP
       refine vn tbok 4 [] [(0, .bool false)] [] E (by kernel_rfl) (by kernel_rfl) trivial ?_
       clear E; intro a E
       refine wpList_nil ?_
       refine th_n ?_
       refine wp_ret ?_
       obtain rfl := Option.some.inj hP
       refine ret1 E rfl rfl ?_
       exact ⟨_, rfl, rfl, H.sel [] rfl⟩
      replace E := E_; clear E_
      have h196 : ¬ ((r64.2 : Int) = 0) := ne_of_beq_false hb_
      clear hb_; replace hP := ite_f h196 hP
      refine vn tbok 8 [] [(0, .bool false)] [] E (by kernel_rfl) (by kernel_rfl) trivial ?_
      clear E; intro a E
      refine wpList_nil ?_
      refine th_n ?_
      refine wp_ret ?_
      obtain rfl := Option.some.inj hP
      refine ret1 E rfl rfl ?_
      exact ⟨_, rfl, rfl, H.sel [] rfl⟩
     replace E := E_; clear E_
     have h197 : ¬ ((r64.1 : Int) = 3) := ne_of_beq_false hb_
     clear hb_; replace hP := ite_f h197 hP
     refine vn tbok 12 [] [(0, .bool false)] [] E (by kernel_rfl) (by kernel_rfl) trivial ?_
     clear E; intro a E
     refine wpList_nil ?_
     refine th_n ?_
     refine wp_ret ?_
     obtain rfl := Option.some.inj hP
     refine ret1 E rfl rfl ?_
     exact ⟨_, rfl, rfl, H.sel [] rfl⟩
    replace E := E_; clear E_
    have h198 : ¬ (r182 = true) := (ne_true_of_eq_false hb_)
    clear hb_; replace hP := ite_f h198 hP
    refine vn tbok 16 [] [(0, .bool false)] [] E (by kernel_rfl) (by kernel_rfl) trivial ?_
    clear E; intro a E
    refine wpList_nil ?_
    refine th_n ?_
    refine wp_ret ?_
    obtain rfl := Option.some.inj hP
    refine ret1 E rfl rfl ?_
    exact ⟨_, rfl, rfl, H.sel [] rfl⟩
   replace E := E_; clear E_
   have h199 : ¬ (r161 = true) := (ne_true_of_eq_false hb_)
   clear hb_; replace hP := ite_f h199 hP
   refine vn tbok 23 [] [(0, .bool false)] [] E (by kernel_rfl) (by kernel_rfl) trivial ?_
   clear E; intro a E
   refine wpList_nil ?_
   refine th_n ?_
   refine wp_ret ?_
   obtain rfl := Option.some.inj hP
   refine ret1 E rfl rfl ?_
   exact ⟨_, rfl, rfl, H.sel [] rfl⟩
  replace E := E_; clear E_
  have h200 : ¬ (r140 = true) := (ne_true_of_eq_false hb_)
  clear hb_; replace hP := ite_f h200 hP
  refine vr tbok 30 [] [(0, .bool false)] [] E (by kernel_rfl) trivial ?_
  clear E; intro a E
  refine wpList_nil ?_
  refine th_n ?_
  refine wp_ret ?_
  obtain rfl := Option.some.inj hP
  refine ret1 E rfl rfl ?_
  exact ⟨_, rfl, rfl, H.sel [] rfl⟩
 replace E := E_; clear E_
 have h201 : ¬ (r117 = true) := (ne_true_of_eq_false hb_)
 clear hb_; replace hP := ite_f h201 hP
 refine vr tbok 37 [] [(0, .bool false)] [] E (by kernel_rfl) trivial ?_
 clear E; intro a E
 refine wpList_nil ?_
 refine th_n ?_
 refine wp_ret ?_
 obtain rfl := Option.some.inj hP
 refine ret1 E rfl rfl ?_
 exact ⟨_, rfl, rfl, H.sel [] rfl⟩

end Go.V
