/- Plain functions, and the calls that give them. -/
import Derived.Test.YtldjjbgnicknkaaA7
set_option linter.all false
set_option linter.unusedVariables false
set_option linter.unnecessarySimpa false
set_option linter.unusedSimpArgs false
namespace Go.V
open Go Go.Proofs
/-! rejoinder/rejoinderlaw17.awake -/
def law17_awake (N : Nat) : Option Bool :=
  Option.bind (canon_Min N 1 ([false, true, true] : List Bool) ([0, 1, 0] : List Int) ([(⟨0, -1, -2⟩ : Nd), (⟨0, -1, -3⟩ : Nd)] : List Nd)) fun r23 =>
  if (r23.2 : Int) = 0 then
    Option.bind (kit_SameAuto N r23.1.1 r23.1.2.1 r23.1.2.2.1 r23.1.2.2.2 1 ([false, true] : List Bool) ([0, 0] : List Int) ([(⟨0, -1, -2⟩ : Nd)] : List Nd)) fun r64 =>
    some r64
  else
    some false
set_option maxRecDepth 100000 in
set_option maxHeartbeats 4000000 in
theorem law17_awake_calls {N : Nat} {S Fa : Nat → Prop} {w0 : World} {r : Bool} (H : Hp S Fa w0 w0 []) (hP : law17_awake N  = some r) :
    Calls Try.prog 24 #[] w0 fun e w' => ∃ v, e = .returned v ∧ v = .bool r ∧ Hp S Fa w0 w' [] := by
 refine enterV (n := 26) Try.func24 rfl rfl rfl ?_
 intro a E
 replace E := E.pick [] trivial
 rw [law17_awake] at hP
 refine wp_seq ?_
 refine wp_region_lit ?_
 refine vr tbok 1 [] [] [] E (by kernel_rfl) trivial ?_
 clear E; intro a E
 refine wpList_nil ?_
 refine th_n ?_
 refine wp_seq ?_
 refine wp_region_lit ?_
 refine h_buildSlice (ps := [(0, .bool false), (1, .bool true), (2, .bool true)]) (cs := [.bool false, .bool true, .bool true]) H E rfl rfl tbok rfl rfl (by kernel_rfl) ?_
 intro w2 g1 a hc3 hg5 H_ E_
 replace E := E_ _ rfl; clear E_
 replace H := H_; clear H_; try dsimp only [setn, addE, goneL] at H
 refine h_buildSlice (ps := [(0, .int .i64 0), (1, .int .i64 1), (2, .int .i64 0)]) (cs := [.int .i64 0, .int .i64 1, .int .i64 0]) H E rfl rfl tbok rfl rfl (by kernel_rfl) ?_
 intro w7 g6 a hc8 hg10 H_ E_
 replace E := E_ _ rfl; clear E_
 replace H := H_; clear H_; try dsimp only [setn, addE, goneL] at H
 refine e_build (ps := [(1, .int .i64 (-1)), (2, .int .i64 (-2))]) (v := .agg #[.int .i64 0, .int .i64 (-1), .int .i64 (-2)]) E rfl rfl tbok rfl (by kernel_rfl) rfl ?_
 clear E; intro a E
 refine e_build (ps := [(1, .int .i64 (-1)), (2, .int .i64 (-3))]) (v := .agg #[.int .i64 0, .int .i64 (-1), .int .i64 (-3)]) E rfl rfl tbok rfl (by kernel_rfl) rfl ?_
 clear E; intro a E
 refine h_buildSlice (ps := [(0, .agg #[.int .i64 0, .int .i64 (-1), .int .i64 (-2)]), (1, .agg #[.int .i64 0, .int .i64 (-1), .int .i64 (-3)])]) (cs := [.int .i64 0, .int .i64 (-1), .int .i64 (-2), .int .i64 0, .int .i64 (-1), .int .i64 (-3)]) H E rfl rfl tbok rfl rfl (by kernel_rfl) ?_
 intro w12 g11 a hc13 hg15 H_ E_
 replace E := E_ _ rfl; clear E_
 replace H := H_; clear H_; try dsimp only [setn, addE, goneL] at H
 refine e_build (ps := [(0, .int .i64 1), (1, .slice (some ⟨g1, 0, none⟩) 3 3), (2, .slice (some ⟨g6, 0, none⟩) 3 3), (3, .slice (some ⟨g11, 0, none⟩) 2 2)]) (v := .agg #[.int .i64 1, .slice (some ⟨g1, 0, none⟩) 3 3, .slice (some ⟨g6, 0, none⟩) 3 3, .slice (some ⟨g11, 0, none⟩) 2 2]) E rfl rfl tbok rfl (by kernel_rfl) rfl ?_
 clear E; intro a E
 refine h_alloc H E rfl rfl tbok rfl ?_
 intro w17 g16 a hc18 hg20 H_ E_
 replace E := E_ _ rfl; clear E_
 replace H := H_; clear H_; try dsimp only [setn, addE, goneL] at H
 refine h_store (g := g16) (off := 0) H 3 rfl E rfl rfl rfl rfl tbok rfl rfl rfl rfl rfl ?_
 clear E; intro w21 a hc22 H_ E
 replace H := H_; clear H_; try dsimp only [setn, addE, goneL] at H
 refine wpList_nil ?_
 refine th_n ?_
 refine wp_seq ?_
 refine wp_region_lit ?_
 refine vr tbok 1 [.agg #[.int .i64 1, .slice (some ⟨g1, 0, none⟩) 3 3, .slice (some ⟨g6, 0, none⟩) 3 3, .slice (some ⟨g11, 0, none⟩) 2 2]] [(11, .agg #[.int .i64 1, .slice (some ⟨g1, 0, none⟩) 3 3, .slice (some ⟨g6, 0, none⟩) 3 3, .slice (some ⟨g11, 0, none⟩) 2 2])] [cellsAt w21 g16 (0) [.int .i64 1, .slice (some ⟨g1, 0, none⟩) 3 3, .slice (some ⟨g6, 0, none⟩) 3 3, .slice (some ⟨g11, 0, none⟩) 2 2]] E (by kernel_rfl) ((H.box 3 rfl).sub 0 _ rfl) ?_
 clear E; intro a E
 replace H := H.boxRow cBool true ([false, true, true] : List Bool) 0 rfl (fun _ _ => ⟨_, _, rfl, rfl, ⟨_, _, rfl, rfl, ⟨_, _, rfl, rfl, rfl⟩⟩⟩) (Nat.le_of_ble_eq_true rfl); try dsimp only [setn, addE, goneL] at H
 replace H := H.boxRow (cInt .i64) true ([0, 1, 0] : List Int) 1 rfl (fun _ _ => ⟨_, _, rfl, rfl, ⟨_, _, rfl, rfl, ⟨_, _, rfl, rfl, rfl⟩⟩⟩) (Nat.le_of_ble_eq_true rfl); try dsimp only [setn, addE, goneL] at H
 replace H := H.boxRow cNode true ([(⟨0, -1, -2⟩ : Nd), (⟨0, -1, -3⟩ : Nd)] : List Nd) 2 rfl (fun _ _ => ⟨_, _, rfl, rfl, ⟨_, _, rfl, rfl, rfl⟩⟩) (Nat.le_of_ble_eq_true rfl); try dsimp only [setn, addE, goneL] at H
 obtain ⟨r23, h24, hP⟩ := bind_inv hP
 obtain ⟨Fa25, Hc26, hb27⟩ := H.call [] [(0, false), (1, false), (2, false)] rfl rfl trivial
 refine e_call E rfl rfl Try.func17 rfl rfl rfl (canon_Min_calls (some ⟨g1, 0, none⟩) 3 (some ⟨g6, 0, none⟩) 3 (some ⟨g11, 0, none⟩) 2 1 ([false, true, true] : List Bool) ([0, 1, 0] : List Int) ([(⟨0, -1, -2⟩ : Nd), (⟨0, -1, -3⟩ : Nd)] : List Nd) (H.rcapx 0 rfl) (H.rcapx 1 rfl) (H.rcapx 2 rfl) Hc26 h24) ?_
 rintro v28 w29 a ⟨A32, c33, A35, c36, A38, c39, rfl, HR30⟩ E_
 replace E := E_ _ rfl; clear E_
 obtain ⟨H_, hc31⟩ := hb27 _ _ HR30 rfl
 replace H := H_; clear H_; try dsimp only [setn, addE, goneL] at H
 refine vr tbok 3 [] [(13, .agg #[.int .i64 r23.1.1, .slice A32 (List.length r23.1.2.1) c33, .slice A35 (List.length r23.1.2.2.1) c36, .slice A38 (List.length r23.1.2.2.2) c39]), (14, .int .i64 r23.2)] [] E (by kernel_rfl) trivial ?_
 clear E; intro a E
 refine h_alloc H E rfl rfl tbok rfl ?_
 intro w42 g41 a hc43 hg45 H_ E_
 replace E := E_ _ rfl; clear E_
 replace H := H_; clear H_; try dsimp only [setn, addE, goneL] at H
 refine h_store (g := g41) (off := 0) H 7 rfl E rfl rfl rfl rfl tbok rfl rfl rfl rfl rfl ?_
 clear E; intro w46 a hc47 H_ E
 replace H := H_; clear H_; try dsimp only [setn, addE, goneL] at H
 refine vr tbok 1 [] [(2, .pointer (some ⟨g41, 0, none⟩)), (3, .int .i64 r23.2)] [] E (by kernel_rfl) trivial ?_
 clear E; intro a E
 refine wpList_nil ?_
 refine th_n ?_
 refine wp_seq ?_
 refine wp_region_lit ?_
 refine vr tbok 3 [] [(2, .pointer (some ⟨g41, 0, none⟩)), (17, .bool ((r23.2 : Int) == 0))] [] E (by kernel_rfl) trivial ?_
 clear E; intro a E
 refine E.cases (t := 17) rfl (fun hb_ E_ => ?_) (fun hb_ E_ => ?_)
 ·
  replace E := E_; clear E_
  have h48 : (r23.2 : Int) = 0 := eq_of_beq hb_
  clear hb_; replace hP := ite_t h48 hP
  refine vr tbok 1 [.agg #[.int .i64 r23.1.1, .slice A32 (List.length r23.1.2.1) c33, .slice A35 (List.length r23.1.2.2.1) c36, .slice A38 (List.length r23.1.2.2.2) c39]] [(17, .bool true), (18, .agg #[.int .i64 r23.1.1, .slice A32 (List.length r23.1.2.1) c33, .slice A35 (List.length r23.1.2.2.1) c36, .slice A38 (List.length r23.1.2.2.2) c39])] [cellsAt w46 g41 (0) [.int .i64 r23.1.1, .slice A32 (List.length r23.1.2.1) c33, .slice A35 (List.length r23.1.2.2.1) c36, .slice A38 (List.length r23.1.2.2.2) c39]] E (by kernel_rfl) ((H.box 7 rfl).sub 0 _ rfl) ?_
  clear E; intro a E
  refine h_buildSlice (ps := [(0, .bool false), (1, .bool true)]) (cs := [.bool false, .bool true]) H E rfl rfl tbok rfl rfl (by kernel_rfl) ?_
  intro w50 g49 a hc51 hg53 H_ E_
  replace E := E_ _ rfl; clear E_
  replace H := H_; clear H_; try dsimp only [setn, addE, goneL] at H
  refine h_buildSlice (ps := [(0, .int .i64 0), (1, .int .i64 0)]) (cs := [.int .i64 0, .int .i64 0]) H E rfl rfl tbok rfl rfl (by kernel_rfl) ?_
  intro w55 g54 a hc56 hg58 H_ E_
  replace E := E_ _ rfl; clear E_
  replace H := H_; clear H_; try dsimp only [setn, addE, goneL] at H
  refine e_build (ps := [(1, .int .i64 (-1)), (2, .int .i64 (-2))]) (v := .agg #[.int .i64 0, .int .i64 (-1), .int .i64 (-2)]) E rfl rfl tbok rfl (by kernel_rfl) rfl ?_
  clear E; intro a E
  refine h_buildSlice (ps := [(0, .agg #[.int .i64 0, .int .i64 (-1), .int .i64 (-2)])]) (cs := [.int .i64 0, .int .i64 (-1), .int .i64 (-2)]) H E rfl rfl tbok rfl rfl (by kernel_rfl) ?_
  intro w60 g59 a hc61 hg63 H_ E_
  replace E := E_ _ rfl; clear E_
  replace H := H_; clear H_; try dsimp only [setn, addE, goneL] at H
  refine e_build (ps := [(0, .int .i64 1), (1, .slice (some ⟨g49, 0, none⟩) 2 2), (2, .slice (some ⟨g54, 0, none⟩) 2 2), (3, .slice (some ⟨g59, 0, none⟩) 1 1)]) (v := .agg #[.int .i64 1, .slice (some ⟨g49, 0, none⟩) 2 2, .slice (some ⟨g54, 0, none⟩) 2 2, .slice (some ⟨g59, 0, none⟩) 1 1]) E rfl rfl tbok rfl (by kernel_rfl) rfl ?_
  clear E; intro a E
  replace H := H.boxRow cBool true ([false, true] : List Bool) 8 rfl (fun _ _ => ⟨_, _, rfl, rfl, ⟨_, _, rfl, rfl, rfl⟩⟩) (Nat.le_of_ble_eq_true rfl); try dsimp only [setn, addE, goneL] at H
  replace H := H.boxRow (cInt .i64) true ([0, 0] : List Int) 9 rfl (fun _ _ => ⟨_, _, rfl, rfl, ⟨_, _, rfl, rfl, rfl⟩⟩) (Nat.le_of_ble_eq_true rfl); try dsimp only [setn, addE, goneL] at H
  replace H := H.boxRow cNode true ([(⟨0, -1, -2⟩ : Nd)] : List Nd) 10 rfl (fun _ _ => ⟨_, _, rfl, rfl, rfl⟩) (Nat.le_of_ble_eq_true rfl); try dsimp only [setn, addE, goneL] at H
  obtain ⟨r64, h65, hP⟩ := bind_inv hP
  obtain ⟨Fa66, Hc67, hb68⟩ := H.call [] [(4, false), (5, false), (6, false), (8, false), (9, false), (10, false)] rfl rfl trivial
  refine e_call E rfl rfl Try.func20 rfl rfl rfl (kit_SameAuto_calls A32 c33 A35 c36 A38 c39 (some ⟨g49, 0, none⟩) 2 (some ⟨g54, 0, none⟩) 2 (some ⟨g59, 0, none⟩) 1 r23.1.1 r23.1.2.1 r23.1.2.2.1 r23.1.2.2.2 1 ([false, true] : List Bool) ([0, 0] : List Int) ([(⟨0, -1, -2⟩ : Nd)] : List Nd) (H.rcap 4 rfl) (H.rcap 5 rfl) (H.rcap 6 rfl) (H.rcapx 8 rfl) (H.rcapx 9 rfl) (H.rcapx 10 rfl) Hc67 h65) ?_
  rintro v69 w70 a ⟨rfl, HR71⟩ E_
  replace E := E_ _ rfl; clear E_
  obtain ⟨H_, hc72⟩ := hb68 _ _ HR71 rfl
  replace H := H_; clear H_; try dsimp only [setn, addE, goneL] at H
  refine vr tbok 2 [] [(0, .bool r64)] [] E (by kernel_rfl) trivial ?_
  clear E; intro a E
  refine wpList_nil ?_
  refine th_n ?_
  refine wp_ret ?_
  obtain rfl := Option.some.inj hP
  refine ret1 E rfl rfl ?_
  exact ⟨_, rfl, rfl, H.sel [] rfl⟩
 ·
  replace E := E_; clear E_
  have h73 : ¬ ((r23.2 : Int) = 0) := ne_of_beq_false hb_
  clear hb_; replace hP := ite_f h73 hP
  refine vr tbok 9 [] [(0, .bool false)] [] E (by kernel_rfl) trivial ?_
  clear E; intro a E
  refine wpList_nil ?_
  refine th_n ?_
  refine wp_ret ?_
  obtain rfl := Option.some.inj hP
  refine ret1 E rfl rfl ?_
  exact ⟨_, rfl, rfl, H.sel [] rfl⟩

/-! rejoinder/rejoinderlaw17.CanonKnown -/
def law17_CanonKnown (N : Nat) : Option Bool :=
  Option.bind (canon_Min N 1 ([false, true, true] : List Bool) ([0, 1, 0] : List Int) ([(⟨0, -1, -2⟩ : Nd), (⟨0, -1, -3⟩ : Nd)] : List Nd)) fun r23 =>
  Option.bind (canon_Is N 1 ([false, true, true] : List Bool) ([0, 1, 0] : List Int) ([(⟨0, -1, -2⟩ : Nd), (⟨0, -1, -3⟩ : Nd)] : List Nd)) fun r48 =>
  Option.bind (canon_Is N r23.1.1 r23.1.2.1 r23.1.2.2.1 r23.1.2.2.2) fun r57 =>
  Option.bind (canon_Next N 1 ([false, true, true] : List Bool) ([0, 1, 0] : List Int) ([(⟨0, -1, -2⟩ : Nd), (⟨0, -1, -3⟩ : Nd)] : List Nd) 2 1) fun r66 =>
  Option.bind (canon_Next N 1 ([false, true, true] : List Bool) ([0, 1, 0] : List Int) ([(⟨0, -1, -2⟩ : Nd), (⟨0, -1, -3⟩ : Nd)] : List Nd) 3 1) fun r75 =>
  Option.bind (canon_Next N 1 ([false, true, true] : List Bool) ([0, 1, 0] : List Int) ([(⟨0, -1, -2⟩ : Nd), (⟨0, -1, -3⟩ : Nd)] : List Nd) 0 2) fun r84 =>
  Option.bind (canon_Run N 1 ([false, true, true] : List Bool) ([0, 1, 0] : List Int) ([(⟨0, -1, -2⟩ : Nd), (⟨0, -1, -3⟩ : Nd)] : List Nd) ([1, 1] : List Int)) fun r98 =>
  Option.bind (canon_Run N 1 ([false, true, true] : List Bool) ([0, 1, 0] : List Int) ([(⟨0, -1, -2⟩ : Nd), (⟨0, -1, -3⟩ : Nd)] : List Nd) []) fun r108 =>
  Option.bind (canon_Min N 0 [] [] []) fun r120 =>
  Option.bind (law17_awake N) fun r145 =>
  if r145 = true then
    if (r23.2 : Int) = 0 then
      if r48.1 = true then
        some false
      else
        if (r48.2 : Int) = 0 then
          if r57.1 = true then
            if (r57.2 : Int) = 0 then
              if (r66.1 : Int) = 1 then
                if (r66.2 : Int) = 0 then
                  if (r75.2 : Int) = 2 then
                    if (r84.2 : Int) = 2 then
                      if (r98.1 : Int) = 2 then
                        if (r98.2 : Int) = 0 then
                          if (r108.1 : Int) = 0 then
                            if (r108.2 : Int) = 0 then
                              some ((r120.2 : Int) == 12)
                            else
                              some false
                          else
                            some false
                        else
                          some false
                      else
                        some false
                    else
                      some false
                  else
                    some false
                else
                  some false
              else
                some false
            else
              some false
          else
            some false
        else
          some false
    else
      some false
  else
    some false
set_option maxRecDepth 100000 in
set_option maxHeartbeats 4000000 in
theorem law17_CanonKnown_calls {N : Nat} {S Fa : Nat → Prop} {w0 : World} {r : Bool} (H : Hp S Fa w0 w0 []) (hP : law17_CanonKnown N  = some r) :
    Calls Try.prog 7 #[] w0 fun e w' => ∃ v, e = .returned v ∧ v = .bool r ∧ Hp S Fa w0 w' [] := by
 refine enterV (n := 128) Try.func7 rfl rfl rfl ?_
 intro a E
 replace E := E.pick [] trivial
 rw [law17_CanonKnown] at hP
 refine wp_seq ?_
 refine wp_region_lit ?_
 refine vr tbok 1 [] [] [] E (by kernel_rfl) trivial ?_
 clear E; intro a E
 refine wpList_nil ?_
 refine th_n ?_
 refine wp_seq ?_
 refine wp_region_lit ?_
 refine h_buildSlice (ps := [(0, .bool false), (1, .bool true), (2, .bool true)]) (cs := [.bool false, .bool true, .bool true]) H E rfl rfl tbok rfl rfl (by kernel_rfl) ?_
 intro w2 g1 a hc3 hg5 H_ E_
 replace E := E_ _ rfl; clear E_
 replace H := H_; clear H_; try dsimp only [setn, addE, goneL] at H
 refine h_buildSlice (ps := [(0, .int .i64 0), (1, .int .i64 1), (2, .int .i64 0)]) (cs := [.int .i64 0, .int .i64 1, .int .i64 0]) H E rfl rfl tbok rfl rfl (by kernel_rfl) ?_
 intro w7 g6 a hc8 hg10 H_ E_
 replace E := E_ _ rfl; clear E_
 replace H := H_; clear H_; try dsimp only [setn, addE, goneL] at H
 refine e_build (ps := [(1, .int .i64 (-1)), (2, .int .i64 (-2))]) (v := .agg #[.int .i64 0, .int .i64 (-1), .int .i64 (-2)]) E rfl rfl tbok rfl (by kernel_rfl) rfl ?_
 clear E; intro a E
 refine e_build (ps := [(1, .int .i64 (-1)), (2, .int .i64 (-3))]) (v := .agg #[.int .i64 0, .int .i64 (-1), .int .i64 (-3)]) E rfl rfl tbok rfl (by kernel_rfl) rfl ?_
 clear E; intro a E
 refine h_buildSlice (ps := [(0, .agg #[.int .i64 0, .int .i64 (-1), .int .i64 (-2)]), (1, .agg #[.int .i64 0, .int .i64 (-1), .int .i64 (-3)])]) (cs := [.int .i64 0, .int .i64 (-1), .int .i64 (-2), .int .i64 0, .int .i64 (-1), .int .i64 (-3)]) H E rfl rfl tbok rfl rfl (by kernel_rfl) ?_
 intro w12 g11 a hc13 hg15 H_ E_
 replace E := E_ _ rfl; clear E_
 replace H := H_; clear H_; try dsimp only [setn, addE, goneL] at H
 refine e_build (ps := [(0, .int .i64 1), (1, .slice (some ⟨g1, 0, none⟩) 3 3), (2, .slice (some ⟨g6, 0, none⟩) 3 3), (3, .slice (some ⟨g11, 0, none⟩) 2 2)]) (v := .agg #[.int .i64 1, .slice (some ⟨g1, 0, none⟩) 3 3, .slice (some ⟨g6, 0, none⟩) 3 3, .slice (some ⟨g11, 0, none⟩) 2 2]) E rfl rfl tbok rfl (by kernel_rfl) rfl ?_
 clear E; intro a E
 refine h_alloc H E rfl rfl tbok rfl ?_
 intro w17 g16 a hc18 hg20 H_ E_
 replace E := E_ _ rfl; clear E_
 replace H := H_; clear H_; try dsimp only [setn, addE, goneL] at H
 refine h_store (g := g16) (off := 0) H 3 rfl E rfl rfl rfl rfl tbok rfl rfl rfl rfl rfl ?_
 clear E; intro w21 a hc22 H_ E
 replace H := H_; clear H_; try dsimp only [setn, addE, goneL] at H
 refine wpList_nil ?_
 refine th_n ?_
 refine wp_seq ?_
 refine wp_region_lit ?_
 refine vr tbok 1 [.agg #[.int .i64 1, .slice (some ⟨g1, 0, none⟩) 3 3, .slice (some ⟨g6, 0, none⟩) 3 3, .slice (some ⟨g11, 0, none⟩) 2 2]] [(1, .pointer (some ⟨g16, 0, none⟩)), (27, .agg #[.int .i64 1, .slice (some ⟨g1, 0, none⟩) 3 3, .slice (some ⟨g6, 0, none⟩) 3 3, .slice (some ⟨g11, 0, none⟩) 2 2])] [cellsAt w21 g16 (0) [.int .i64 1, .slice (some ⟨g1, 0, none⟩) 3 3, .slice (some ⟨g6, 0, none⟩) 3 3, .slice (some ⟨g11, 0, none⟩) 2 2]] E (by kernel_rfl) ((H.box 3 rfl).sub 0 _ rfl) ?_
 clear E; intro a E
 replace H := H.boxRow cBool true ([false, true, true] : List Bool) 0 rfl (fun _ _ => ⟨_, _, rfl, rfl, ⟨_, _, rfl, rfl, ⟨_, _, rfl, rfl, rfl⟩⟩⟩) (Nat.le_of_ble_eq_true rfl); try dsimp only [setn, addE, goneL] at H
 replace H := H.boxRow (cInt .i64) true ([0, 1, 0] : List Int) 1 rfl (fun _ _ => ⟨_, _, rfl, rfl, ⟨_, _, rfl, rfl, ⟨_, _, rfl, rfl, rfl⟩⟩⟩) (Nat.le_of_ble_eq_true rfl); try dsimp only [setn, addE, goneL] at H
 replace H := H.boxRow cNode true ([(⟨0, -1, -2⟩ : Nd), (⟨0, -1, -3⟩ : Nd)] : List Nd) 2 rfl (fun _ _ => ⟨_, _, rfl, rfl, ⟨_, _, rfl, rfl, rfl⟩⟩) (Nat.le_of_ble_eq_true rfl); try dsimp only [setn, addE, goneL] at H
 obtain ⟨r23, h24, hP⟩ := bind_inv hP
 obtain ⟨Fa25, Hc26, hb27⟩ := H.call [] [(0, false), (1, false), (2, false)] rfl rfl trivial
 refine e_call E rfl rfl Try.func17 rfl rfl rfl (canon_Min_calls (some ⟨g1, 0, none⟩) 3 (some ⟨g6, 0, none⟩) 3 (some ⟨g11, 0, none⟩) 2 1 ([false, true, true] : List Bool) ([0, 1, 0] : List Int) ([(⟨0, -1, -2⟩ : Nd), (⟨0, -1, -3⟩ : Nd)] : List Nd) (H.rcapx 0 rfl) (H.rcapx 1 rfl) (H.rcapx 2 rfl) Hc26 h24) ?_
 rintro v28 w29 a ⟨A32, c33, A35, c36, A38, c39, rfl, HR30⟩ E_
 replace E := E_ _ rfl; clear E_
 obtain ⟨H_, hc31⟩ := hb27 _ _ HR30 rfl
 replace H := H_; clear H_; try dsimp only [setn, addE, goneL] at H
 refine vr tbok 3 [] [(1, .pointer (some ⟨g16, 0, none⟩)), (29, .agg #[.int .i64 r23.1.1, .slice A32 (List.length r23.1.2.1) c33, .slice A35 (List.length r23.1.2.2.1) c36, .slice A38 (List.length r23.1.2.2.2) c39]), (30, .int .i64 r23.2)] [] E (by kernel_rfl) trivial ?_
 clear E; intro a E
 refine h_alloc H E rfl rfl tbok rfl ?_
 intro w42 g41 a hc43 hg45 H_ E_
 replace E := E_ _ rfl; clear E_
 replace H := H_; clear H_; try dsimp only [setn, addE, goneL] at H
 refine h_store (g := g41) (off := 0) H 7 rfl E rfl rfl rfl rfl tbok rfl rfl rfl rfl rfl ?_
 clear E; intro w46 a hc47 H_ E
 replace H := H_; clear H_; try dsimp only [setn, addE, goneL] at H
 refine vr tbok 1 [] [(1, .pointer (some ⟨g16, 0, none⟩)), (2, .pointer (some ⟨g41, 0, none⟩)), (3, .int .i64 r23.2)] [] E (by kernel_rfl) trivial ?_
 clear E; intro a E
 refine wpList_nil ?_
 refine th_n ?_
 refine wp_seq ?_
 refine wp_region_lit ?_
 refine vr tbok 1 [.agg #[.int .i64 1, .slice (some ⟨g1, 0, none⟩) 3 3, .slice (some ⟨g6, 0, none⟩) 3 3, .slice (some ⟨g11, 0, none⟩) 2 2]] [(1, .pointer (some ⟨g16, 0, none⟩)), (2, .pointer (some ⟨g41, 0, none⟩)), (3, .int .i64 r23.2), (32, .agg #[.int .i64 1, .slice (some ⟨g1, 0, none⟩) 3 3, .slice (some ⟨g6, 0, none⟩) 3 3, .slice (some ⟨g11, 0, none⟩) 2 2])] [cellsAt w46 g16 (0) [.int .i64 1, .slice (some ⟨g1, 0, none⟩) 3 3, .slice (some ⟨g6, 0, none⟩) 3 3, .slice (some ⟨g11, 0, none⟩) 2 2]] E (by kernel_rfl) ((H.box 3 rfl).sub 0 _ rfl) ?_
 clear E; intro a E
 obtain ⟨r48, h49, hP⟩ := bind_inv hP
 obtain ⟨Fa50, Hc51, hb52⟩ := H.call [] [(0, false), (1, false), (2, false)] rfl rfl trivial
 refine e_call E rfl rfl Try.func19 rfl rfl rfl (canon_Is_calls (some ⟨g1, 0, none⟩) 3 (some ⟨g6, 0, none⟩) 3 (some ⟨g11, 0, none⟩) 2 1 ([false, true, true] : List Bool) ([0, 1, 0] : List Int) ([(⟨0, -1, -2⟩ : Nd), (⟨0, -1, -3⟩ : Nd)] : List Nd) (H.rcapx 0 rfl) (H.rcapx 1 rfl) (H.rcapx 2 rfl) Hc51 h49) ?_
 rintro v53 w54 a ⟨rfl, HR55⟩ E_
 replace E := E_ _ rfl; clear E_
 obtain ⟨H_, hc56⟩ := hb52 _ _ HR55 rfl
 replace H := H_; clear H_; try dsimp only [setn, addE, goneL] at H
 refine vr tbok 5 [] [(1, .pointer (some ⟨g16, 0, none⟩)), (2, .pointer (some ⟨g41, 0, none⟩)), (3, .int .i64 r23.2), (4, .bool r48.1), (5, .int .i64 r48.2)] [] E (by kernel_rfl) trivial ?_
 clear E; intro a E
 refine wpList_nil ?_
 refine th_n ?_
 refine wp_seq ?_
 refine wp_region_lit ?_
 refine vr tbok 1 [.agg #[.int .i64 r23.1.1, .slice A32 (List.length r23.1.2.1) c33, .slice A35 (List.length r23.1.2.2.1) c36, .slice A38 (List.length r23.1.2.2.2) c39]] [(1, .pointer (some ⟨g16, 0, none⟩)), (3, .int .i64 r23.2), (4, .bool r48.1), (5, .int .i64 r48.2), (37, .agg #[.int .i64 r23.1.1, .slice A32 (List.length r23.1.2.1) c33, .slice A35 (List.length r23.1.2.2.1) c36, .slice A38 (List.length r23.1.2.2.2) c39])] [cellsAt w54 g41 (0) [.int .i64 r23.1.1, .slice A32 (List.length r23.1.2.1) c33, .slice A35 (List.length r23.1.2.2.1) c36, .slice A38 (List.length r23.1.2.2.2) c39]] E (by kernel_rfl) ((H.box 7 rfl).sub 0 _ rfl) ?_
 clear E; intro a E
 obtain ⟨r57, h58, hP⟩ := bind_inv hP
 obtain ⟨Fa59, Hc60, hb61⟩ := H.call [] [(4, false), (5, false), (6, false)] rfl rfl trivial
 refine e_call E rfl rfl Try.func19 rfl rfl rfl (canon_Is_calls A32 c33 A35 c36 A38 c39 r23.1.1 r23.1.2.1 r23.1.2.2.1 r23.1.2.2.2 (H.rcap 4 rfl) (H.rcap 5 rfl) (H.rcap 6 rfl) Hc60 h58) ?_
 rintro v62 w63 a ⟨rfl, HR64⟩ E_
 replace E := E_ _ rfl; clear E_
 obtain ⟨H_, hc65⟩ := hb61 _ _ HR64 rfl
 replace H := H_; clear H_; try dsimp only [setn, addE, goneL] at H
 refine vr tbok 5 [] [(1, .pointer (some ⟨g16, 0, none⟩)), (3, .int .i64 r23.2), (4, .bool r48.1), (5, .int .i64 r48.2), (6, .bool r57.1), (7, .int .i64 r57.2)] [] E (by kernel_rfl) trivial ?_
 clear E; intro a E
 refine wpList_nil ?_
 refine th_n ?_
 refine wp_seq ?_
 refine wp_region_lit ?_
 refine vr tbok 1 [.agg #[.int .i64 1, .slice (some ⟨g1, 0, none⟩) 3 3, .slice (some ⟨g6, 0, none⟩) 3 3, .slice (some ⟨g11, 0, none⟩) 2 2]] [(1, .pointer (some ⟨g16, 0, none⟩)), (3, .int .i64 r23.2), (4, .bool r48.1), (5, .int .i64 r48.2), (6, .bool r57.1), (7, .int .i64 r57.2), (42, .agg #[.int .i64 1, .slice (some ⟨g1, 0, none⟩) 3 3, .slice (some ⟨g6, 0, none⟩) 3 3, .slice (some ⟨g11, 0, none⟩) 2 2])] [cellsAt w63 g16 (0) [.int .i64 1, .slice (some ⟨g1, 0, none⟩) 3 3, .slice (some ⟨g6, 0, none⟩) 3 3, .slice (some ⟨g11, 0, none⟩) 2 2]] E (by kernel_rfl) ((H.box 3 rfl).sub 0 _ rfl) ?_
 clear E; intro a E
 obtain ⟨r66, h67, hP⟩ := bind_inv hP
 obtain ⟨Fa68, Hc69, hb70⟩ := H.call [] [(0, false), (1, false), (2, false)] rfl rfl trivial
 refine e_call E rfl rfl Try.func10 rfl rfl rfl (canon_Next_calls (some ⟨g1, 0, none⟩) 3 (some ⟨g6, 0, none⟩) 3 (some ⟨g11, 0, none⟩) 2 1 ([false, true, true] : List Bool) ([0, 1, 0] : List Int) ([(⟨0, -1, -2⟩ : Nd), (⟨0, -1, -3⟩ : Nd)] : List Nd) 2 1 (H.rcapx 0 rfl) (H.rcapx 1 rfl) (H.rcapx 2 rfl) Hc69 h67) ?_
 rintro v71 w72 a ⟨rfl, HR73⟩ E_
 replace E := E_ _ rfl; clear E_
 obtain ⟨H_, hc74⟩ := hb70 _ _ HR73 rfl
 replace H := H_; clear H_; try dsimp only [setn, addE, goneL] at H
 refine vr tbok 5 [] [(1, .pointer (some ⟨g16, 0, none⟩)), (3, .int .i64 r23.2), (4, .bool r48.1), (5, .int .i64 r48.2), (6, .bool r57.1), (7, .int .i64 r57.2), (8, .int .i64 r66.1), (9, .int .i64 r66.2)] [] E (by kernel_rfl) trivial ?_
 clear E; intro a E
 refine wpList_nil ?_
 refine th_n ?_
 refine wp_seq ?_
 refine wp_region_lit ?_
 refine vr tbok 1 [.agg #[.int .i64 1, .slice (some ⟨g1, 0, none⟩) 3 3, .slice (some ⟨g6, 0, none⟩) 3 3, .slice (some ⟨g11, 0, none⟩) 2 2]] [(1, .pointer (some ⟨g16, 0, none⟩)), (3, .int .i64 r23.2), (4, .bool r48.1), (5, .int .i64 r48.2), (6, .bool r57.1), (7, .int .i64 r57.2), (8, .int .i64 r66.1), (9, .int .i64 r66.2), (47, .agg #[.int .i64 1, .slice (some ⟨g1, 0, none⟩) 3 3, .slice (some ⟨g6, 0, none⟩) 3 3, .slice (some ⟨g11, 0, none⟩) 2 2])] [cellsAt w72 g16 (0) [.int .i64 1, .slice (some ⟨g1, 0, none⟩) 3 3, .slice (some ⟨g6, 0, none⟩) 3 3, .slice (some ⟨g11, 0, none⟩) 2 2]] E (by kernel_rfl) ((H.box 3 rfl).sub 0 _ rfl) ?_
 clear E; intro a E
 obtain ⟨r75, h76, hP⟩ := bind_inv hP
 obtain ⟨Fa77, Hc78, hb79⟩ := H.call [] [(0, false), (1, false), (2, false)] rfl rfl trivial
 refine e_call E rfl rfl Try.func10 rfl rfl rfl (canon_Next_calls (some ⟨g1, 0, none⟩) 3 (some ⟨g6, 0, none⟩) 3 (some ⟨g11, 0, none⟩) 2 1 ([false, true, true] : List Bool) ([0, 1, 0] : List Int) ([(⟨0, -1, -2⟩ : Nd), (⟨0, -1, -3⟩ : Nd)] : List Nd) 3 1 (H.rcapx 0 rfl) (H.rcapx 1 rfl) (H.rcapx 2 rfl) Hc78 h76) ?_
 rintro v80 w81 a ⟨rfl, HR82⟩ E_
 replace E := E_ _ rfl; clear E_
 obtain ⟨H_, hc83⟩ := hb79 _ _ HR82 rfl
 replace H := H_; clear H_; try dsimp only [setn, addE, goneL] at H
 refine vr tbok 5 [] [(1, .pointer (some ⟨g16, 0, none⟩)), (3, .int .i64 r23.2), (4, .bool r48.1), (5, .int .i64 r48.2), (6, .bool r57.1), (7, .int .i64 r57.2), (8, .int .i64 r66.1), (9, .int .i64 r66.2), (11, .int .i64 r75.2)] [] E (by kernel_rfl) trivial ?_
 clear E; intro a E
 refine wpList_nil ?_
 refine th_n ?_
 refine wp_seq ?_
 refine wp_region_lit ?_
 refine vr tbok 1 [.agg #[.int .i64 1, .slice (some ⟨g1, 0, none⟩) 3 3, .slice (some ⟨g6, 0, none⟩) 3 3, .slice (some ⟨g11, 0, none⟩) 2 2]] [(1, .pointer (some ⟨g16, 0, none⟩)), (3, .int .i64 r23.2), (4, .bool r48.1), (5, .int .i64 r48.2), (6, .bool r57.1), (7, .int .i64 r57.2), (8, .int .i64 r66.1), (9, .int .i64 r66.2), (11, .int .i64 r75.2), (52, .agg #[.int .i64 1, .slice (some ⟨g1, 0, none⟩) 3 3, .slice (some ⟨g6, 0, none⟩) 3 3, .slice (some ⟨g11, 0, none⟩) 2 2])] [cellsAt w81 g16 (0) [.int .i64 1, .slice (some ⟨g1, 0, none⟩) 3 3, .slice (some ⟨g6, 0, none⟩) 3 3, .slice (some ⟨g11, 0, none⟩) 2 2]] E (by kernel_rfl) ((H.box 3 rfl).sub 0 _ rfl) ?_
 clear E; intro a E
 obtain ⟨r84, h85, hP⟩ := bind_inv hP
 obtain ⟨Fa86, Hc87, hb88⟩ := H.call [] [(0, false), (1, false), (2, false)] rfl rfl trivial
 refine e_call E rfl rfl Try.func10 rfl rfl rfl (canon_Next_calls (some ⟨g1, 0, none⟩) 3 (some ⟨g6, 0, none⟩) 3 (some ⟨g11, 0, none⟩) 2 1 ([false, true, true] : List Bool) ([0, 1, 0] : List Int) ([(⟨0, -1, -2⟩ : Nd), (⟨0, -1, -3⟩ : Nd)] : List Nd) 0 2 (H.rcapx 0 rfl) (H.rcapx 1 rfl) (H.rcapx 2 rfl) Hc87 h85) ?_
 rintro v89 w90 a ⟨rfl, HR91⟩ E_
 replace E := E_ _ rfl; clear E_
 obtain ⟨H_, hc92⟩ := hb88 _ _ HR91 rfl
 replace H := H_; clear H_; try dsimp only [setn, addE, goneL] at H
 refine vr tbok 5 [] [(1, .pointer (some ⟨g16, 0, none⟩)), (3, .int .i64 r23.2), (4, .bool r48.1), (5, .int .i64 r48.2), (6, .bool r57.1), (7, .int .i64 r57.2), (8, .int .i64 r66.1), (9, .int .i64 r66.2), (11, .int .i64 r75.2), (13, .int .i64 r84.2)] [] E (by kernel_rfl) trivial ?_
 clear E; intro a E
 refine wpList_nil ?_
 refine th_n ?_
 refine wp_seq ?_
 refine wp_region_lit ?_
 refine vr tbok 1 [.agg #[.int .i64 1, .slice (some ⟨g1, 0, none⟩) 3 3, .slice (some ⟨g6, 0, none⟩) 3 3, .slice (some ⟨g11, 0, none⟩) 2 2]] [(1, .pointer (some ⟨g16, 0, none⟩)), (3, .int .i64 r23.2), (4, .bool r48.1), (5, .int .i64 r48.2), (6, .bool r57.1), (7, .int .i64 r57.2), (8, .int .i64 r66.1), (9, .int .i64 r66.2), (11, .int .i64 r75.2), (13, .int .i64 r84.2), (57, .agg #[.int .i64 1, .slice (some ⟨g1, 0, none⟩) 3 3, .slice (some ⟨g6, 0, none⟩) 3 3, .slice (some ⟨g11, 0, none⟩) 2 2])] [cellsAt w90 g16 (0) [.int .i64 1, .slice (some ⟨g1, 0, none⟩) 3 3, .slice (some ⟨g6, 0, none⟩) 3 3, .slice (some ⟨g11, 0, none⟩) 2 2]] E (by kernel_rfl) ((H.box 3 rfl).sub 0 _ rfl) ?_
 clear E; intro a E
 refine h_buildSlice (ps := [(0, .int .u8 1), (1, .int .u8 1)]) (cs := [.int .u8 1, .int .u8 1]) H E rfl rfl tbok rfl rfl (by kernel_rfl) ?_
 intro w94 g93 a hc95 hg97 H_ E_
 replace E := E_ _ rfl; clear E_
 replace H := H_; clear H_; try dsimp only [setn, addE, goneL] at H
 replace H := H.boxRow (cInt .u8) true ([1, 1] : List Int) 8 rfl (fun _ _ => ⟨_, _, rfl, rfl, ⟨_, _, rfl, rfl, rfl⟩⟩) (Nat.le_of_ble_eq_true rfl); try dsimp only [setn, addE, goneL] at H
 obtain ⟨r98, h99, hP⟩ := bind_inv hP
 obtain ⟨Fa100, Hc101, hb102⟩ := H.call [] [(0, false), (1, false), (2, false), (8, false)] rfl rfl trivial
 refine e_call E rfl rfl Try.func12 rfl rfl rfl (canon_Run_calls (some ⟨g1, 0, none⟩) 3 (some ⟨g6, 0, none⟩) 3 (some ⟨g11, 0, none⟩) 2 (some ⟨g93, 0, none⟩) 2 1 ([false, true, true] : List Bool) ([0, 1, 0] : List Int) ([(⟨0, -1, -2⟩ : Nd), (⟨0, -1, -3⟩ : Nd)] : List Nd) ([1, 1] : List Int) (H.rcapx 0 rfl) (H.rcapx 1 rfl) (H.rcapx 2 rfl) (H.rcapx 8 rfl) Hc101 h99) ?_
 rintro v103 w104 a ⟨rfl, HR105⟩ E_
 replace E := E_ _ rfl; clear E_
 obtain ⟨H_, hc106⟩ := hb102 _ _ HR105 rfl
 replace H := H_; clear H_; try dsimp only [setn, addE, goneL] at H
 refine vr tbok 5 [] [(1, .pointer (some ⟨g16, 0, none⟩)), (3, .int .i64 r23.2), (4, .bool r48.1), (5, .int .i64 r48.2), (6, .bool r57.1), (7, .int .i64 r57.2), (8, .int .i64 r66.1), (9, .int .i64 r66.2), (11, .int .i64 r75.2), (13, .int .i64 r84.2), (14, .int .i64 r98.1), (15, .int .i64 r98.2)] [] E (by kernel_rfl) trivial ?_
 clear E; intro a E
 refine wpList_nil ?_
 refine th_n ?_
 refine wp_seq ?_
 refine wp_region_lit ?_
 refine vr tbok 1 [.agg #[.int .i64 1, .slice (some ⟨g1, 0, none⟩) 3 3, .slice (some ⟨g6, 0, none⟩) 3 3, .slice (some ⟨g11, 0, none⟩) 2 2]] [(3, .int .i64 r23.2), (4, .bool r48.1), (5, .int .i64 r48.2), (6, .bool r57.1), (7, .int .i64 r57.2), (8, .int .i64 r66.1), (9, .int .i64 r66.2), (11, .int .i64 r75.2), (13, .int .i64 r84.2), (14, .int .i64 r98.1), (15, .int .i64 r98.2), (63, .agg #[.int .i64 1, .slice (some ⟨g1, 0, none⟩) 3 3, .slice (some ⟨g6, 0, none⟩) 3 3, .slice (some ⟨g11, 0, none⟩) 2 2])] [cellsAt w104 g16 (0) [.int .i64 1, .slice (some ⟨g1, 0, none⟩) 3 3, .slice (some ⟨g6, 0, none⟩) 3 3, .slice (some ⟨g11, 0, none⟩) 2 2]] E (by kernel_rfl) ((H.box 3 rfl).sub 0 _ rfl) ?_
 clear E; intro a E
 replace H := H.nilrow (cInt .u8) 27; try dsimp only [setn, addE, goneL] at H
 obtain ⟨r108, h109, hP⟩ := bind_inv hP
 obtain ⟨Fa110, Hc111, hb112⟩ := H.call [] [(0, false), (1, false), (2, false), (9, false)] rfl rfl trivial
 refine e_call E rfl rfl Try.func12 rfl rfl rfl (canon_Run_calls (some ⟨g1, 0, none⟩) 3 (some ⟨g6, 0, none⟩) 3 (some ⟨g11, 0, none⟩) 2 none 0 1 ([false, true, true] : List Bool) ([0, 1, 0] : List Int) ([(⟨0, -1, -2⟩ : Nd), (⟨0, -1, -3⟩ : Nd)] : List Nd) [] (H.rcapx 0 rfl) (H.rcapx 1 rfl) (H.rcapx 2 rfl) (Nat.le_refl _) Hc111 h109) ?_
 rintro v113 w114 a ⟨rfl, HR115⟩ E_
 replace E := E_ _ rfl; clear E_
 obtain ⟨H_, hc116⟩ := hb112 _ _ HR115 rfl
 replace H := H_; clear H_; try dsimp only [setn, addE, goneL] at H
 refine vr tbok 5 [] [(3, .int .i64 r23.2), (4, .bool r48.1), (5, .int .i64 r48.2), (6, .bool r57.1), (7, .int .i64 r57.2), (8, .int .i64 r66.1), (9, .int .i64 r66.2), (11, .int .i64 r75.2), (13, .int .i64 r84.2), (14, .int .i64 r98.1), (15, .int .i64 r98.2), (16, .int .i64 r108.1), (17, .int .i64 r108.2)] [] E (by kernel_rfl) trivial ?_
 clear E; intro a E
 refine wpList_nil ?_
 refine th_n ?_
 refine wp_seq ?_
 refine wp_region_lit ?_
 refine e_build (ps := []) (v := .agg #[.int .i64 0, .slice none 0 0, .slice none 0 0, .slice none 0 0]) E rfl rfl tbok rfl (by kernel_rfl) rfl ?_
 clear E; intro a E
 replace H := H.nilrow cBool 4; try dsimp only [setn, addE, goneL] at H
 replace H := H.nilrow (cInt .i64) 3; try dsimp only [setn, addE, goneL] at H
 replace H := H.nilrow cNode 57; try dsimp only [setn, addE, goneL] at H
 obtain ⟨r120, h121, hP⟩ := bind_inv hP
 obtain ⟨Fa122, Hc123, hb124⟩ := H.call [] [(10, false), (11, false), (12, false)] rfl rfl trivial
 refine e_call E rfl rfl Try.func17 rfl rfl rfl (canon_Min_calls none 0 none 0 none 0 0 [] [] [] (Nat.le_refl _) (Nat.le_refl _) (Nat.le_refl _) Hc123 h121) ?_
 rintro v125 w126 a ⟨A129, c130, A132, c133, A135, c136, rfl, HR127⟩ E_
 replace E := E_ _ rfl; clear E_
 obtain ⟨H_, hc128⟩ := hb124 _ _ HR127 rfl
 replace H := H_; clear H_; try dsimp only [setn, addE, goneL] at H
 refine vr tbok 3 [] [(3, .int .i64 r23.2), (4, .bool r48.1), (5, .int .i64 r48.2), (6, .bool r57.1), (7, .int .i64 r57.2), (8, .int .i64 r66.1), (9, .int .i64 r66.2), (11, .int .i64 r75.2), (13, .int .i64 r84.2), (14, .int .i64 r98.1), (15, .int .i64 r98.2), (16, .int .i64 r108.1), (17, .int .i64 r108.2), (70, .agg #[.int .i64 r120.1.1, .slice A129 (List.length r120.1.2.1) c130, .slice A132 (List.length r120.1.2.2.1) c133, .slice A135 (List.length r120.1.2.2.2) c136]), (71, .int .i64 r120.2)] [] E (by kernel_rfl) trivial ?_
 clear E; intro a E
 refine h_alloc H E rfl rfl tbok rfl ?_
 intro w139 g138 a hc140 hg142 H_ E_
 replace E := E_ _ rfl; clear E_
 replace H := H_; clear H_; try dsimp only [setn, addE, goneL] at H
 refine h_store (g := g138) (off := 0) H 16 rfl E rfl rfl rfl rfl tbok rfl rfl rfl rfl rfl ?_
 clear E; intro w143 a hc144 H_ E
 replace H := H_; clear H_; try dsimp only [setn, addE, goneL] at H
 refine vr tbok 1 [] [(3, .int .i64 r23.2), (4, .bool r48.1), (5, .int .i64 r48.2), (6, .bool r57.1), (7, .int .i64 r57.2), (8, .int .i64 r66.1), (9, .int .i64 r66.2), (11, .int .i64 r75.2), (13, .int .i64 r84.2), (14, .int .i64 r98.1), (15, .int .i64 r98.2), (16, .int .i64 r108.1), (17, .int .i64 r108.2), (19, .int .i64 r120.2)] [] E (by kernel_rfl) trivial ?_
 clear E; intro a E
 refine wpList_nil ?_
 refine th_n ?_
 refine wp_seq ?_
 refine wp_region_lit ?_
 obtain ⟨r145, h146, hP⟩ := bind_inv hP
 obtain ⟨Fa147, Hc148, hb149⟩ := H.call [] [] rfl rfl trivial
 refine e_call E rfl rfl Try.func24 rfl rfl rfl (law17_awake_calls    Hc148 h146) ?_
 rintro v150 w151 a ⟨rfl, HR152⟩ E_
 replace E := E_ _ rfl; clear E_
 obtain ⟨H_, hc153⟩ := hb149 _ _ HR152 rfl
 replace H := H_; clear H_; try dsimp only [setn, addE, goneL] at H
 refine vr tbok 1 [] [(3, .int .i64 r23.2), (4, .bool r48.1), (5, .int .i64 r48.2), (6, .bool r57.1), (7, .int .i64 r57.2), (8, .int .i64 r66.1), (9, .int .i64 r66.2), (11, .int .i64 r75.2), (13, .int .i64 r84.2), (14, .int .i64 r98.1), (15, .int .i64 r98.2), (16, .int .i64 r108.1), (17, .int .i64 r108.2), (19, .int .i64 r120.2), (73, .bool r145)] [] E (by kernel_rfl) trivial ?_
 clear E; intro a E
 refine E.cases (t := 73) rfl (fun hb_ E_ => ?_) (fun hb_ E_ => ?_)
 ·
  replace E := E_; clear E_
  have h154 : r145 = true := hb_
  clear hb_; replace hP := ite_t h154 hP
  refine vr tbok 4 [] [(4, .bool r48.1), (5, .int .i64 r48.2), (6, .bool r57.1), (7, .int .i64 r57.2), (8, .int .i64 r66.1), (9, .int .i64 r66.2), (11, .int .i64 r75.2), (13, .int .i64 r84.2), (14, .int .i64 r98.1), (15, .int .i64 r98.2), (16, .int .i64 r108.1), (17, .int .i64 r108.2), (19, .int .i64 r120.2), (77, .bool ((r23.2 : Int) == 0))] [] E (by kernel_rfl) trivial ?_
  clear E; intro a E
  refine E.cases (t := 77) rfl (fun hb_ E_ => ?_) (fun hb_ E_ => ?_)
  ·
   replace E := E_; clear E_
   have h155 : (r23.2 : Int) = 0 := eq_of_beq hb_
   clear hb_; replace hP := ite_t h155 hP
   refine vr tbok 4 [] [(5, .int .i64 r48.2), (6, .bool r57.1), (7, .int .i64 r57.2), (8, .int .i64 r66.1), (9, .int .i64 r66.2), (11, .int .i64 r75.2), (13, .int .i64 r84.2), (14, .int .i64 r98.1), (15, .int .i64 r98.2), (16, .int .i64 r108.1), (17, .int .i64 r108.2), (19, .int .i64 r120.2), (81, .bool (!r48.1))] [] E (by kernel_rfl) trivial ?_
   clear E; intro a E
   refine E.cases (t := 81) rfl (fun hb_ E_ => ?_) (fun hb_ E_ => ?_)
   ·
    replace E := E_; clear E_
    have h156 : ¬ (r48.1 = true) := (ne_true_of_eq_false (not_t hb_))
    clear hb_; replace hP := ite_f h156 hP
    refine vr tbok 4 [] [(6, .bool r57.1), (7, .int .i64 r57.2), (8, .int .i64 r66.1), (9, .int .i64 r66.2), (11, .int .i64 r75.2), (13, .int .i64 r84.2), (14, .int .i64 r98.1), (15, .int .i64 r98.2), (16, .int .i64 r108.1), (17, .int .i64 r108.2), (19, .int .i64 r120.2), (85, .bool ((r48.2 : Int) == 0))] [] E (by kernel_rfl) trivial ?_
    clear E; intro a E
    refine E.cases (t := 85) rfl (fun hb_ E_ => ?_) (fun hb_ E_ => ?_)
    ·
     replace E := E_; clear E_
     have h157 : (r48.2 : Int) = 0 := eq_of_beq hb_
     clear hb_; replace hP := ite_t h157 hP
     refine vr tbok 3 [] [(7, .int .i64 r57.2), (8, .int .i64 r66.1), (9, .int .i64 r66.2), (11, .int .i64 r75.2), (13, .int .i64 r84.2), (14, .int .i64 r98.1), (15, .int .i64 r98.2), (16, .int .i64 r108.1), (17, .int .i64 r108.2), (19, .int .i64 r120.2), (88, .bool r57.1)] [] E (by kernel_rfl) trivial ?_
     clear E; intro a E
     refine E.cases (t := 88) rfl (fun hb_ E_ => ?_) (fun hb_ E_ => ?_)
     ·
      replace E := E_; clear E_
      have h158 : r57.1 = true := hb_
      clear hb_; replace hP := ite_t h158 hP
      refine vr tbok 4 [] [(8, .int .i64 r66.1), (9, .int .i64 r66.2), (11, .int .i64 r75.2), (13, .int .i64 r84.2), (14, .int .i64 r98.1), (15, .int .i64 r98.2), (16, .int .i64 r108.1), (17, .int .i64 r108.2), (19, .int .i64 r120.2), (92, .bool ((r57.2 : Int) == 0))] [] E (by kernel_rfl) trivial ?_
      clear E; intro a E
      refine E.cases (t := 92) rfl (fun hb_ E_ => ?_) (fun hb_ E_ => ?_)
      ·
       replace E := E_; clear E_
       have h159 : (r57.2 : Int) = 0 := eq_of_beq hb_
       clear hb_; replace hP := ite_t h159 hP
       refine vr tbok 4 [] [(9, .int .i64 r66.2), (11, .int .i64 r75.2), (13, .int .i64 r84.2), (14, .int .i64 r98.1), (15, .int .i64 r98.2), (16, .int .i64 r108.1), (17, .int .i64 r108.2), (19, .int .i64 r120.2), (96, .bool ((r66.1 : Int) == 1))] [] E (by kernel_rfl) trivial ?_
       clear E; intro a E
       refine E.cases (t := 96) rfl (fun hb_ E_ => ?_) (fun hb_ E_ => ?_)
       ·
        replace E := E_; clear E_
        have h160 : (r66.1 : Int) = 1 := eq_of_beq hb_
        clear hb_; replace hP := ite_t h160 hP
        refine vr tbok 4 [] [(11, .int .i64 r75.2), (13, .int .i64 r84.2), (14, .int .i64 r98.1), (15, .int .i64 r98.2), (16, .int .i64 r108.1), (17, .int .i64 r108.2), (19, .int .i64 r120.2), (100, .bool ((r66.2 : Int) == 0))] [] E (by kernel_rfl) trivial ?_
        clear E; intro a E
        refine E.cases (t := 100) rfl (fun hb_ E_ => ?_) (fun hb_ E_ => ?_)
        ·
         replace E := E_; clear E_
         have h161 : (r66.2 : Int) = 0 := eq_of_beq hb_
         clear hb_; replace hP := ite_t h161 hP
         refine vr tbok 4 [] [(13, .int .i64 r84.2), (14, .int .i64 r98.1), (15, .int .i64 r98.2), (16, .int .i64 r108.1), (17, .int .i64 r108.2), (19, .int .i64 r120.2), (104, .bool ((r75.2 : Int) == 2))] [] E (by kernel_rfl) trivial ?_
         clear E; intro a E
         refine E.cases (t := 104) rfl (fun hb_ E_ => ?_) (fun hb_ E_ => ?_)
         ·
          replace E := E_; clear E_
          have h162 : (r75.2 : Int) = 2 := eq_of_beq hb_
          clear hb_; replace hP := ite_t h162 hP
          refine vr tbok 4 [] [(14, .int .i64 r98.1), (15, .int .i64 r98.2), (16, .int .i64 r108.1), (17, .int .i64 r108.2), (19, .int .i64 r120.2), (108, .bool ((r84.2 : Int) == 2))] [] E (by kernel_rfl) trivial ?_
          clear E; intro a E
          refine E.cases (t := 108) rfl (fun hb_ E_ => ?_) (fun hb_ E_ => ?_)
          ·
           replace E := E_; clear E_
           have h163 : (r84.2 : Int) = 2 := eq_of_beq hb_
           clear hb_; replace hP := ite_t h163 hP
           refine vr tbok 4 [] [(15, .int .i64 r98.2), (16, .int .i64 r108.1), (17, .int .i64 r108.2), (19, .int .i64 r120.2), (112, .bool ((r98.1 : Int) == 2))] [] E (by kernel_rfl) trivial ?_
           clear E; intro a E
           refine E.cases (t := 112) rfl (fun hb_ E_ => ?_) (fun hb_ E_ => ?_)
           ·
            replace E := E_; clear E_
            have h164 : (r98.1 : Int) = 2 := eq_of_beq hb_
            clear hb_; replace hP := ite_t h164 hP
            refine vr tbok 4 [] [(16, .int .i64 r108.1), (17, .int .i64 r108.2), (19, .int .i64 r120.2), (116, .bool ((r98.2 : Int) == 0))] [] E (by kernel_rfl) trivial ?_
            clear E; intro a E
            refine E.cases (t := 116) rfl (fun hb_ E_ => ?_) (fun hb_ E_ => ?_)
            ·
             replace E := E_; clear E_
             have h165 : (r98.2 : Int) = 0 := eq_of_beq hb_
             clear hb_; replace hP := ite_t h165 hP
             refine vr tbok 4 [] [(17, .int .i64 r108.2), (19, .int .i64 r120.2), (120, .bool ((r108.1 : Int) == 0))] [] E (by kernel_rfl) trivial ?_
             clear E; intro a E
             refine E.cases (t := 120) rfl (fun hb_ E_ => ?_) (fun hb_ E_ => ?_)
             ·
              replace E := E_; clear E_
              have h166 : (r108.1 : Int) = 0 := eq_of_beq hb_
              clear hb_; replace hP := ite_t h166 hP
              refine vr tbok 4 [] [(19, .int .i64 r120.2), (124, .bool ((r108.2 : Int) == 0))] [] E (by kernel_rfl) trivial ?_
              clear E; intro a E
              refine E.cases (t := 124) rfl (fun hb_ E_ => ?_) (fun hb_ E_ => ?_)
              ·
               replace E := E_; clear E_
               have h167 : (r108.2 : Int) = 0 := eq_of_beq hb_
               clear hb_; replace hP := ite_t h167 hP
               refine vr tbok 4 [] [(0, .bool ((r120.2 : Int) == 12))] [] E (by kernel_rfl) trivial ?_
               clear E; intro a E
               refine wpList_nil ?_
               refine th_n ?_
               refine wp_ret ?_
               obtain rfl := Option.some.inj hP
               refine ret1 E rfl rfl ?_
               exact ⟨_, rfl, rfl, H.sel [] rfl⟩
              ·
               replace E := E_; clear E_
               have h168 : ¬ ((r108.2 : Int) = 0) := ne_of_beq_false hb_
               clear hb_; replace hP := ite_f h168 hP
               refine vr tbok 4 [] [(0, .bool false)] [] E (by kernel_rfl) trivial ?_
               clear E; intro a E
               refine wpList_nil ?_
               refine th_n ?_
               refine wp_ret ?_
               obtain rfl := Option.some.inj hP
               refine ret1 E rfl rfl ?_
               exact ⟨_, rfl, rfl, H.sel [] rfl⟩
             ·
              replace E := E_; clear E_
              have h169 : ¬ ((r108.1 : Int) = 0) := ne_of_beq_false hb_
              clear hb_; replace hP := ite_f h169 hP
              refine vr tbok 8 [] [(0, .bool false)] [] E (by kernel_rfl) trivial ?_
              clear E; intro a E
              refine wpList_nil ?_
              refine th_n ?_
              refine wp_ret ?_
              obtain rfl := Option.some.inj hP
              refine ret1 E rfl rfl ?_
              exact ⟨_, rfl, rfl, H.sel [] rfl⟩
            ·
             replace E := E_; clear E_
             have h170 : ¬ ((r98.2 : Int) = 0) := ne_of_beq_false hb_
             clear hb_; replace hP := ite_f h170 hP
             refine vr tbok 12 [] [(0, .bool false)] [] E (by kernel_rfl) trivial ?_
             clear E; intro a E
             refine wpList_nil ?_
             refine th_n ?_
             refine wp_ret ?_
             obtain rfl := Option.some.inj hP
             refine ret1 E rfl rfl ?_
             exact ⟨_, rfl, rfl, H.sel [] rfl⟩
           ·
            replace E := E_; clear E_
            have h171 : ¬ ((r98.1 : Int) = 2) := ne_of_beq_false hb_
            clear hb_; replace hP := ite_f h171 hP
            refine vr tbok 16 [] [(0, .bool false)] [] E (by kernel_rfl) trivial ?_
            clear E; intro a E
            refine wpList_nil ?_
            refine th_n ?_
            refine wp_ret ?_
            obtain rfl := Option.some.inj hP
            refine ret1 E rfl rfl ?_
            exact ⟨_, rfl, rfl, H.sel [] rfl⟩
          ·
           replace E := E_; clear E_
           have h172 : ¬ ((r84.2 : Int) = 2) := ne_of_beq_false hb_
           clear hb_; replace hP := ite_f h172 hP
           refine vr tbok 20 [] [(0, .bool false)] [] E (by kernel_rfl) trivial ?_
           clear E; intro a E
           refine wpList_nil ?_
           refine th_n ?_
           refine wp_ret ?_
           obtain rfl := Option.some.inj hP
           refine ret1 E rfl rfl ?_
           exact ⟨_, rfl, rfl, H.sel [] rfl⟩
         ·
          replace E := E_; clear E_
          have h173 : ¬ ((r75.2 : Int) = 2) := ne_of_beq_false hb_
          clear hb_; replace hP := ite_f h173 hP
          refine vr tbok 24 [] [(0, .bool false)] [] E (by kernel_rfl) trivial ?_
          clear E; intro a E
          refine wpList_nil ?_
          refine th_n ?_
          refine wp_ret ?_
          obtain rfl := Option.some.inj hP
          refine ret1 E rfl rfl ?_
          exact ⟨_, rfl, rfl, H.sel [] rfl⟩
        ·
         replace E := E_; clear E_
         have h174 : ¬ ((r66.2 : Int) = 0) := ne_of_beq_false hb_
         clear hb_; replace hP := ite_f h174 hP
         refine vr tbok 28 [] [(0, .bool false)] [] E (by kernel_rfl) trivial ?_
         clear E; intro a E
         refine wpList_nil ?_
         refine th_n ?_
         refine wp_ret ?_
         obtain rfl := Option.some.inj hP
         refine ret1 E rfl rfl ?_
         exact ⟨_, rfl, rfl, H.sel [] rfl⟩
       ·
        replace E := E_; clear E_
        have h175 : ¬ ((r66.1 : Int) = 1) := ne_of_beq_false hb_
        clear hb_; replace hP := ite_f h175 hP
        refine vr tbok 32 [] [(0, .bool false)] [] E (by kernel_rfl) trivial ?_
        clear E; intro a E
        refine wpList_nil ?_
        refine th_n ?_
        refine wp_ret ?_
        obtain rfl := Option.some.inj hP
        refine ret1 E rfl rfl ?_
        exact ⟨_, rfl, rfl, H.sel [] rfl⟩
      ·
       replace E := E_; clear E_
       have h176 : ¬ ((r57.2 : Int) = 0) := ne_of_beq_false hb_
       clear hb_; replace hP := ite_f h176 hP
       refine vr tbok 36 [] [(0, .bool false)] [] E (by kernel_rfl) trivial ?_
       clear E; intro a E
       refine wpList_nil ?_
       refine th_n ?_
       refine wp_ret ?_
       obtain rfl := Option.some.inj hP
       refine ret1 E rfl rfl ?_
       exact ⟨_, rfl, rfl, H.sel [] rfl⟩
     ·
      replace E := E_; clear E_
      have h177 : ¬ (r57.1 = true) := (ne_true_of_eq_false hb_)
      clear hb_; replace hP := ite_f h177 hP
      refine vr tbok 40 [] [(0, .bool false)] [] E (by kernel_rfl) trivial ?_
      clear E; intro a E
      refine wpList_nil ?_
      refine th_n ?_
      refine wp_ret ?_
      obtain rfl := Option.some.inj hP
      refine ret1 E rfl rfl ?_
      exact ⟨_, rfl, rfl, H.sel [] rfl⟩
    ·
     replace E := E_; clear E_
     have h178 : ¬ ((r48.2 : Int) = 0) := ne_of_beq_false hb_
     clear hb_; replace hP := ite_f h178 hP
     refine vr tbok 43 [] [(0, .bool false)] [] E (by kernel_rfl) trivial ?_
     clear E; intro a E
     refine wpList_nil ?_
     refine th_n ?_
     refine wp_ret ?_
     obtain rfl := Option.some.inj hP
     refine ret1 E rfl rfl ?_
     exact ⟨_, rfl, rfl, H.sel [] rfl⟩
   ·
    replace E := E_; clear E_
    have h179 : r48.1 = true := (not_f hb_)
    clear hb_; replace hP := ite_t h179 hP
    refine vr tbok 47 [] [(0, .bool false)] [] E (by kernel_rfl) trivial ?_
    clear E; intro a E
    refine wpList_nil ?_
    refine th_n ?_
    refine wp_ret ?_
    obtain rfl := Option.some.inj hP
    refine ret1 E rfl rfl ?_
    exact ⟨_, rfl, rfl, H.sel [] rfl⟩
  ·
   replace E := E_; clear E_
   have h180 : ¬ ((r23.2 : Int) = 0) := ne_of_beq_false hb_
   clear hb_; replace hP := ite_f h180 hP
   refine vr tbok 51 [] [(0, .bool false)] [] E (by kernel_rfl) trivial ?_
   clear E; intro a E
   refine wpList_nil ?_
   refine th_n ?_
   refine wp_ret ?_
   obtain rfl := Option.some.inj hP
   refine ret1 E rfl rfl ?_
   exact ⟨_, rfl, rfl, H.sel [] rfl⟩
 ·
  replace E := E_; clear E_
  have h181 : ¬ (r145 = true) := (ne_true_of_eq_false hb_)
  clear hb_; replace hP := ite_f h181 hP
  refine vr tbok 55 [] [(0, .bool false)] [] E (by kernel_rfl) trivial ?_
  clear E; intro a E
  refine wpList_nil ?_
  refine th_n ?_
  refine wp_ret ?_
  obtain rfl := Option.some.inj hP
  refine ret1 E rfl rfl ?_
  exact ⟨_, rfl, rfl, H.sel [] rfl⟩

end Go.V
