/- Plain functions, and the calls that give them. -/
import Derived.Test.YtihindpnnbllkaaA11
set_option linter.all false
set_option linter.unusedVariables false
set_option linter.unnecessarySimpa false
set_option linter.unusedSimpArgs false
namespace Go.V
open Go Go.Proofs
/-! rejoinder/rejoinderlaw20.BothKnown -/
def law20_BothKnown (N : Nat) : Option Bool :=
  Option.bind (both_Not N 1 ([false, true] : List Bool) ([0, 0] : List Int) ([(⟨0, -1, -2⟩ : Nd)] : List Nd)) fun r40 =>
  Option.bind (both_And N 1 ([false, true] : List Bool) ([0, 0] : List Int) ([(⟨0, -1, -2⟩ : Nd)] : List Nd) 1 ([false, true] : List Bool) ([-2, -2] : List Int) []) fun r66 =>
  Option.bind (both_Or N 1 ([false, true] : List Bool) ([0, 0] : List Int) ([(⟨0, -1, -2⟩ : Nd)] : List Nd) 1 ([false, true] : List Bool) ([-2, -2] : List Int) []) fun r92 =>
  Option.bind (canon_Min N 1 ([false, true] : List Bool) ([-2, -2] : List Int) []) fun r118 =>
  Option.bind (both_Part N 1 ([false, true] : List Bool) ([0, 0] : List Int) ([(⟨0, -1, -2⟩ : Nd)] : List Nd) 1 ([false, true] : List Bool) ([-2, -2] : List Int) []) fun r144 =>
  Option.bind (both_Part N 1 ([false, true] : List Bool) ([0, 0] : List Int) ([(⟨0, -1, -2⟩ : Nd)] : List Nd) 1 ([false, true] : List Bool) ([0, 0] : List Int) ([(⟨0, -1, -2⟩ : Nd)] : List Nd)) fun r156 =>
  Option.bind (both_Implies N 1 ([false, true] : List Bool) ([0, 0] : List Int) ([(⟨0, -1, -2⟩ : Nd)] : List Nd) 1 ([false, true] : List Bool) ([-2, -2] : List Int) []) fun r169 =>
  Option.bind (both_Implies N 1 ([false, true] : List Bool) ([-2, -2] : List Int) [] 1 ([false, true] : List Bool) ([0, 0] : List Int) ([(⟨0, -1, -2⟩ : Nd)] : List Nd)) fun r179 =>
  Option.bind (both_Equal N 1 ([false, true] : List Bool) ([0, 0] : List Int) ([(⟨0, -1, -2⟩ : Nd)] : List Nd) 2 ([false] : List Bool) ([-1] : List Int) []) fun r199 =>
  if (r40.2 : Int) = 0 then
    if (r66.2 : Int) = 0 then
      if (r92.2 : Int) = 0 then
        if (r118.2 : Int) = 0 then
          Option.bind (kit_SameAuto N r40.1.1 r40.1.2.1 r40.1.2.2.1 r40.1.2.2.2 1 ([false, true] : List Bool) ([0, 0] : List Int) ([(⟨0, -2, -1⟩ : Nd)] : List Nd)) fun r231 =>
          if r231 = true then
            Option.bind (canon_Same N r66.1.1 r66.1.2.1 r66.1.2.2.1 r66.1.2.2.2 1 ([false, true] : List Bool) ([0, 0] : List Int) ([(⟨0, -1, -2⟩ : Nd)] : List Nd)) fun r242 =>
            if r242 = true then
              Option.bind (canon_Same N r92.1.1 r92.1.2.1 r92.1.2.2.1 r92.1.2.2.2 r118.1.1 r118.1.2.1 r118.1.2.2.1 r118.1.2.2.2) fun r253 =>
              if r253 = true then
                if r144.2.1 = true then
                  if (r144.2.2 : Int) = 0 then
                    Option.bind (kit_SameLetters N r144.1 ([0] : List Int)) fun r271 =>
                    if r271 = true then
                      if r156.2.1 = true then
                        some false
                      else
                        if (r156.2.2 : Int) = 0 then
                          if r169.1 = true then
                            if (r169.2 : Int) = 0 then
                              if r179.1 = true then
                                some false
                              else
                                if (r179.2 : Int) = 0 then
                                  some ((r199.2 : Int) == 2)
                                else
                                  some false
                            else
                              some false
                          else
                            some false
                        else
                          some false
                    else
                      some false
                  else
                    some false
                else
                  some false
              else
                some false
            else
              some false
          else
            some false
        else
          some false
      else
        some false
    else
      some false
  else
    some false
set_option maxRecDepth 100000 in
set_option maxHeartbeats 4000000 in
theorem law20_BothKnown_calls {N : Nat} {S Fa : Nat → Prop} {w0 : World} {r : Bool} (H : Hp S Fa w0 w0 []) (hP : law20_BothKnown N  = some r) :
    Calls Try.prog 5 #[] w0 fun e w' => ∃ v, e = .returned v ∧ v = .bool r ∧ Hp S Fa w0 w' [] := by
 refine enterV (n := 160) Try.func5 rfl rfl rfl ?_
 intro a E
 replace E := E.pick [] trivial
 rw [law20_BothKnown] at hP
 refine wp_seq ?_
 refine wp_region_lit ?_
 refine vn tbok 1 [] [] [] E (by kernel_rfl) (by kernel_rfl) trivial ?_
 clear E; intro a E
 refine wpList_nil ?_
 refine th_n ?_
 refine wp_seq ?_
 refine wp_region_lit ?_
 refine h_buildSlice (ps := [(0, .bool false), (1, .bool true)]) (cs := [.bool false, .bool true]) H E rfl rfl tbok rfl rfl (by kernel_rfl) ?_
 intro w2 g1 a hc3 hg5 H_ E_
 replace E := E_ _ rfl; clear E_
 replace H := H_; clear H_; try dsimp only [setn, addE, goneL] at H
 refine h_buildSlice (ps := [(0, .int .i64 0), (1, .int .i64 0)]) (cs := [.int .i64 0, .int .i64 0]) H E rfl rfl tbok rfl rfl (by kernel_rfl) ?_
 intro w7 g6 a hc8 hg10 H_ E_
 replace E := E_ _ rfl; clear E_
 replace H := H_; clear H_; try dsimp only [setn, addE, goneL] at H
 refine e_build (ps := [(1, .int .i64 (-1)), (2, .int .i64 (-2))]) (v := .agg #[.int .i64 0, .int .i64 (-1), .int .i64 (-2)]) E rfl rfl tbok rfl (by kernel_rfl) rfl ?_
 clear E; intro a E
 refine h_buildSlice (ps := [(0, .agg #[.int .i64 0, .int .i64 (-1), .int .i64 (-2)])]) (cs := [.int .i64 0, .int .i64 (-1), .int .i64 (-2)]) H E rfl rfl tbok rfl rfl (by kernel_rfl) ?_
 intro w12 g11 a hc13 hg15 H_ E_
 replace E := E_ _ rfl; clear E_
 replace H := H_; clear H_; try dsimp only [setn, addE, goneL] at H
 refine e_build (ps := [(0, .int .i64 1), (1, .slice (some ⟨g1, 0, none⟩) 2 2), (2, .slice (some ⟨g6, 0, none⟩) 2 2), (3, .slice (some ⟨g11, 0, none⟩) 1 1)]) (v := .agg #[.int .i64 1, .slice (some ⟨g1, 0, none⟩) 2 2, .slice (some ⟨g6, 0, none⟩) 2 2, .slice (some ⟨g11, 0, none⟩) 1 1]) E rfl rfl tbok rfl (by kernel_rfl) rfl ?_
 clear E; intro a E
 refine h_alloc H E rfl rfl tbok rfl ?_
 intro w17 g16 a hc18 hg20 H_ E_
 replace E := E_ _ rfl; clear E_
 replace H := H_; clear H_; try dsimp only [setn, addE, goneL] at H
 refine h_store (g := g16) (off := 0) H 3 rfl E rfl rfl rfl rfl tbok rfl rfl rfl rfl rfl ?_
 clear E; intro w21 a hc22 H_ E
 replace H := H_; clear H_; try dsimp only [setn, addE, goneL] at H
 refine wpList_nil ?_
 refine th_n ?_
 refine wp_seq ?_
 refine wp_region_lit ?_
 refine h_buildSlice (ps := [(0, .bool false), (1, .bool true)]) (cs := [.bool false, .bool true]) H E rfl rfl tbok rfl rfl (by kernel_rfl) ?_
 intro w24 g23 a hc25 hg27 H_ E_
 replace E := E_ _ rfl; clear E_
 replace H := H_; clear H_; try dsimp only [setn, addE, goneL] at H
 refine h_buildSlice (ps := [(0, .int .i64 (-2)), (1, .int .i64 (-2))]) (cs := [.int .i64 (-2), .int .i64 (-2)]) H E rfl rfl tbok rfl rfl (by kernel_rfl) ?_
 intro w29 g28 a hc30 hg32 H_ E_
 replace E := E_ _ rfl; clear E_
 replace H := H_; clear H_; try dsimp only [setn, addE, goneL] at H
 refine e_build (ps := [(0, .int .i64 1), (1, .slice (some ⟨g23, 0, none⟩) 2 2), (2, .slice (some ⟨g28, 0, none⟩) 2 2)]) (v := .agg #[.int .i64 1, .slice (some ⟨g23, 0, none⟩) 2 2, .slice (some ⟨g28, 0, none⟩) 2 2, .slice none 0 0]) E rfl rfl tbok rfl (by kernel_rfl) rfl ?_
 clear E; intro a E
 refine h_alloc H E rfl rfl tbok rfl ?_
 intro w34 g33 a hc35 hg37 H_ E_
 replace E := E_ _ rfl; clear E_
 replace H := H_; clear H_; try dsimp only [setn, addE, goneL] at H
 refine h_store (g := g33) (off := 0) H 6 rfl E rfl rfl rfl rfl tbok rfl rfl rfl rfl rfl ?_
 clear E; intro w38 a hc39 H_ E
 replace H := H_; clear H_; try dsimp only [setn, addE, goneL] at H
 refine wpList_nil ?_
 refine th_n ?_
 refine wp_seq ?_
 refine wp_region_lit ?_
 refine vn tbok 1 [.agg #[.int .i64 1, .slice (some ⟨g1, 0, none⟩) 2 2, .slice (some ⟨g6, 0, none⟩) 2 2, .slice (some ⟨g11, 0, none⟩) 1 1]] [(32, .agg #[.int .i64 1, .slice (some ⟨g1, 0, none⟩) 2 2, .slice (some ⟨g6, 0, none⟩) 2 2, .slice (some ⟨g11, 0, none⟩) 1 1])] [cellsAt w38 g16 (0) [.int .i64 1, .slice (some ⟨g1, 0, none⟩) 2 2, .slice (some ⟨g6, 0, none⟩) 2 2, .slice (some ⟨g11, 0, none⟩) 1 1]] E (by kernel_rfl) (by kernel_rfl) ((H.box 3 rfl).sub 0 _ rfl) ?_
 clear E; intro a E
 replace H := H.boxRow cBool true ([false, true] : List Bool) 0 rfl (fun _ _ => ⟨_, _, rfl, rfl, ⟨_, _, rfl, rfl, rfl⟩⟩) (Nat.le_of_ble_eq_true rfl); try dsimp only [setn, addE, goneL] at H
 replace H := H.boxRow (cInt .i64) true ([0, 0] : List Int) 1 rfl (fun _ _ => ⟨_, _, rfl, rfl, ⟨_, _, rfl, rfl, rfl⟩⟩) (Nat.le_of_ble_eq_true rfl); try dsimp only [setn, addE, goneL] at H
 replace H := H.boxRow cNode true ([(⟨0, -1, -2⟩ : Nd)] : List Nd) 2 rfl (fun _ _ => ⟨_, _, rfl, rfl, rfl⟩) (Nat.le_of_ble_eq_true rfl); try dsimp only [setn, addE, goneL] at H
 obtain ⟨r40, h41, hP⟩ := bind_inv hP
 obtain ⟨Fa42, Hc43, hb44⟩ := H.call [] [(0, false), (1, false), (2, false)] rfl rfl trivial
 refine e_call E rfl rfl Try.func10 rfl rfl rfl (both_Not_calls (some ⟨g1, 0, none⟩) 2 (some ⟨g6, 0, none⟩) 2 (some ⟨g11, 0, none⟩) 1 1 ([false, true] : List Bool) ([0, 0] : List Int) ([(⟨0, -1, -2⟩ : Nd)] : List Nd) (H.rcapx 0 rfl) (H.rcapx 1 rfl) (H.rcapx 2 rfl) Hc43 h41) ?_
 rintro v45 w46 a ⟨A49, c50, A52, c53, A55, c56, rfl, HR47⟩ E_
 replace E := E_ _ rfl; clear E_
 obtain ⟨H_, hc48⟩ := hb44 _ _ HR47 rfl
 replace H := H_; clear H_; try dsimp only [setn, addE, goneL] at H
 refine vn tbok 3 [] [(34, .agg #[.int .i64 r40.1.1, .slice A49 (List.length r40.1.2.1) c50, .slice A52 (List.length r40.1.2.2.1) c53, .slice A55 (List.length r40.1.2.2.2) c56]), (35, .int .i64 r40.2)] [] E (by kernel_rfl) (by kernel_rfl) trivial ?_
 clear E; intro a E
 refine h_alloc H E rfl rfl tbok rfl ?_
 intro w59 g58 a hc60 hg62 H_ E_
 replace E := E_ _ rfl; clear E_
 replace H := H_; clear H_; try dsimp only [setn, addE, goneL] at H
 refine h_store (g := g58) (off := 0) H 10 rfl E rfl rfl rfl rfl tbok rfl rfl rfl rfl rfl ?_
 clear E; intro w63 a hc64 H_ E
 replace H := H_; clear H_; try dsimp only [setn, addE, goneL] at H
 refine vn tbok 1 [] [(4, .int .i64 r40.2)] [] E (by kernel_rfl) (by kernel_rfl) trivial ?_
 clear E; intro a E
 refine wpList_nil ?_
 refine th_n ?_
 refine wp_seq ?_
 refine wp_region_lit ?_
 refine vn tbok 2 [.agg #[.int .i64 1, .slice (some ⟨g1, 0, none⟩) 2 2, .slice (some ⟨g6, 0, none⟩) 2 2, .slice (some ⟨g11, 0, none⟩) 1 1], .agg #[.int .i64 1, .slice (some ⟨g23, 0, none⟩) 2 2, .slice (some ⟨g28, 0, none⟩) 2 2, .slice none 0 0]] [(37, .agg #[.int .i64 1, .slice (some ⟨g1, 0, none⟩) 2 2, .slice (some ⟨g6, 0, none⟩) 2 2, .slice (some ⟨g11, 0, none⟩) 1 1]), (38, .agg #[.int .i64 1, .slice (some ⟨g23, 0, none⟩) 2 2, .slice (some ⟨g28, 0, none⟩) 2 2, .slice none 0 0])] [cellsAt w63 g16 (0) [.int .i64 1, .slice (some ⟨g1, 0, none⟩) 2 2, .slice (some ⟨g6, 0, none⟩) 2 2, .slice (some ⟨g11, 0, none⟩) 1 1], cellsAt w63 g33 (0) [.int .i64 1, .slice (some ⟨g23, 0, none⟩) 2 2, .slice (some ⟨g28, 0, none⟩) 2 2, .slice none 0 0]] E (by kernel_rfl) (by kernel_rfl) ⟨(H.box 3 rfl).sub 0 _ rfl, (H.box 6 rfl).sub 0 _ rfl⟩ ?_
 clear E; intro a E
 replace H := H.boxRow cBool true ([false, true] : List Bool) 4 rfl (fun _ _ => ⟨_, _, rfl, rfl, ⟨_, _, rfl, rfl, rfl⟩⟩) (Nat.le_of_ble_eq_true rfl); try dsimp only [setn, addE, goneL] at H
 replace H := H.boxRow (cInt .i64) true ([-2, -2] : List Int) 5 rfl (fun _ _ => ⟨_, _, rfl, rfl, ⟨_, _, rfl, rfl, rfl⟩⟩) (Nat.le_of_ble_eq_true rfl); try dsimp only [setn, addE, goneL] at H
 replace H := H.nilrow cNode 49; try dsimp only [setn, addE, goneL] at H
 obtain ⟨r66, h67, hP⟩ := bind_inv hP
 obtain ⟨Fa68, Hc69, hb70⟩ := H.call [] [(0, false), (1, false), (2, false), (4, false), (5, false), (11, false)] rfl rfl trivial
 refine e_call E rfl rfl Try.func11 rfl rfl rfl (both_And_calls (some ⟨g1, 0, none⟩) 2 (some ⟨g6, 0, none⟩) 2 (some ⟨g11, 0, none⟩) 1 (some ⟨g23, 0, none⟩) 2 (some ⟨g28, 0, none⟩) 2 none 0 1 ([false, true] : List Bool) ([0, 0] : List Int) ([(⟨0, -1, -2⟩ : Nd)] : List Nd) 1 ([false, true] : List Bool) ([-2, -2] : List Int) [] (H.rcapx 0 rfl) (H.rcapx 1 rfl) (H.rcapx 2 rfl) (H.rcapx 4 rfl) (H.rcapx 5 rfl) (Nat.le_refl _) Hc69 h67) ?_
 rintro v71 w72 a ⟨A75, c76, A78, c79, A81, c82, rfl, HR73⟩ E_
 replace E := E_ _ rfl; clear E_
 obtain ⟨H_, hc74⟩ := hb70 _ _ HR73 rfl
 replace H := H_; clear H_; try dsimp only [setn, addE, goneL] at H
 refine vn tbok 3 [] [(40, .agg #[.int .i64 r66.1.1, .slice A75 (List.length r66.1.2.1) c76, .slice A78 (List.length r66.1.2.2.1) c79, .slice A81 (List.length r66.1.2.2.2) c82]), (41, .int .i64 r66.2)] [] E (by kernel_rfl) (by kernel_rfl) trivial ?_
 clear E; intro a E
 refine h_alloc H E rfl rfl tbok rfl ?_
 intro w85 g84 a hc86 hg88 H_ E_
 replace E := E_ _ rfl; clear E_
 replace H := H_; clear H_; try dsimp only [setn, addE, goneL] at H
 refine h_store (g := g84) (off := 0) H 15 rfl E rfl rfl rfl rfl tbok rfl rfl rfl rfl rfl ?_
 clear E; intro w89 a hc90 H_ E
 replace H := H_; clear H_; try dsimp only [setn, addE, goneL] at H
 refine vn tbok 1 [] [(6, .int .i64 r66.2)] [] E (by kernel_rfl) (by kernel_rfl) trivial ?_
 clear E; intro a E
 refine wpList_nil ?_
 refine th_n ?_
 refine wp_seq ?_
 refine wp_region_lit ?_
 refine vn tbok 2 [.agg #[.int .i64 1, .slice (some ⟨g1, 0, none⟩) 2 2, .slice (some ⟨g6, 0, none⟩) 2 2, .slice (some ⟨g11, 0, none⟩) 1 1], .agg #[.int .i64 1, .slice (some ⟨g23, 0, none⟩) 2 2, .slice (some ⟨g28, 0, none⟩) 2 2, .slice none 0 0]] [(43, .agg #[.int .i64 1, .slice (some ⟨g1, 0, none⟩) 2 2, .slice (some ⟨g6, 0, none⟩) 2 2, .slice (some ⟨g11, 0, none⟩) 1 1]), (44, .agg #[.int .i64 1, .slice (some ⟨g23, 0, none⟩) 2 2, .slice (some ⟨g28, 0, none⟩) 2 2, .slice none 0 0])] [cellsAt w89 g16 (0) [.int .i64 1, .slice (some ⟨g1, 0, none⟩) 2 2, .slice (some ⟨g6, 0, none⟩) 2 2, .slice (some ⟨g11, 0, none⟩) 1 1], cellsAt w89 g33 (0) [.int .i64 1, .slice (some ⟨g23, 0, none⟩) 2 2, .slice (some ⟨g28, 0, none⟩) 2 2, .slice none 0 0]] E (by kernel_rfl) (by kernel_rfl) ⟨(H.box 3 rfl).sub 0 _ rfl, (H.box 6 rfl).sub 0 _ rfl⟩ ?_
 clear E; intro a E
 replace H := H.nilrow cNode 49; try dsimp only [setn, addE, goneL] at H
 obtain ⟨r92, h93, hP⟩ := bind_inv hP
 obtain ⟨Fa94, Hc95, hb96⟩ := H.call [] [(0, false), (1, false), (2, false), (4, false), (5, false), (16, false)] rfl rfl trivial
 refine e_call E rfl rfl Try.func12 rfl rfl rfl (both_Or_calls (some ⟨g1, 0, none⟩) 2 (some ⟨g6, 0, none⟩) 2 (some ⟨g11, 0, none⟩) 1 (some ⟨g23, 0, none⟩) 2 (some ⟨g28, 0, none⟩) 2 none 0 1 ([false, true] : List Bool) ([0, 0] : List Int) ([(⟨0, -1, -2⟩ : Nd)] : List Nd) 1 ([false, true] : List Bool) ([-2, -2] : List Int) [] (H.rcapx 0 rfl) (H.rcapx 1 rfl) (H.rcapx 2 rfl) (H.rcapx 4 rfl) (H.rcapx 5 rfl) (Nat.le_refl _) Hc95 h93) ?_
 rintro v97 w98 a ⟨A101, c102, A104, c105, A107, c108, rfl, HR99⟩ E_
 replace E := E_ _ rfl; clear E_
 obtain ⟨H_, hc100⟩ := hb96 _ _ HR99 rfl
 replace H := H_; clear H_; try dsimp only [setn, addE, goneL] at H
 refine vn tbok 3 [] [(46, .agg #[.int .i64 r92.1.1, .slice A101 (List.length r92.1.2.1) c102, .slice A104 (List.length r92.1.2.2.1) c105, .slice A107 (List.length r92.1.2.2.2) c108]), (47, .int .i64 r92.2)] [] E (by kernel_rfl) (by kernel_rfl) trivial ?_
 clear E; intro a E
 refine h_alloc H E rfl rfl tbok rfl ?_
 intro w111 g110 a hc112 hg114 H_ E_
 replace E := E_ _ rfl; clear E_
 replace H := H_; clear H_; try dsimp only [setn, addE, goneL] at H
 refine h_store (g := g110) (off := 0) H 20 rfl E rfl rfl rfl rfl tbok rfl rfl rfl rfl rfl ?_
 clear E; intro w115 a hc116 H_ E
 replace H := H_; clear H_; try dsimp only [setn, addE, goneL] at H
 refine vn tbok 1 [] [(8, .int .i64 r92.2)] [] E (by kernel_rfl) (by kernel_rfl) trivial ?_
 clear E; intro a E
 refine wpList_nil ?_
 refine th_n ?_
 refine wp_seq ?_
 refine wp_region_lit ?_
 refine vn tbok 1 [.agg #[.int .i64 1, .slice (some ⟨g23, 0, none⟩) 2 2, .slice (some ⟨g28, 0, none⟩) 2 2, .slice none 0 0]] [(49, .agg #[.int .i64 1, .slice (some ⟨g23, 0, none⟩) 2 2, .slice (some ⟨g28, 0, none⟩) 2 2, .slice none 0 0])] [cellsAt w115 g33 (0) [.int .i64 1, .slice (some ⟨g23, 0, none⟩) 2 2, .slice (some ⟨g28, 0, none⟩) 2 2, .slice none 0 0]] E (by kernel_rfl) (by kernel_rfl) ((H.box 6 rfl).sub 0 _ rfl) ?_
 clear E; intro a E
 replace H := H.nilrow cNode 49; try dsimp only [setn, addE, goneL] at H
 obtain ⟨r118, h119, hP⟩ := bind_inv hP
 obtain ⟨Fa120, Hc121, hb122⟩ := H.call [] [(4, false), (5, false), (21, false)] rfl rfl trivial
 refine e_call E rfl rfl Try.func25 rfl rfl rfl (canon_Min_calls (some ⟨g23, 0, none⟩) 2 (some ⟨g28, 0, none⟩) 2 none 0 1 ([false, true] : List Bool) ([-2, -2] : List Int) [] (H.rcapx 4 rfl) (H.rcapx 5 rfl) (Nat.le_refl _) Hc121 h119) ?_
 rintro v123 w124 a ⟨A127, c128, A130, c131, A133, c134, rfl, HR125⟩ E_
 replace E := E_ _ rfl; clear E_
 obtain ⟨H_, hc126⟩ := hb122 _ _ HR125 rfl
 replace H := H_; clear H_; try dsimp only [setn, addE, goneL] at H
 refine vn tbok 3 [] [(51, .agg #[.int .i64 r118.1.1, .slice A127 (List.length r118.1.2.1) c128, .slice A130 (List.length r118.1.2.2.1) c131, .slice A133 (List.length r118.1.2.2.2) c134]), (52, .int .i64 r118.2)] [] E (by kernel_rfl) (by kernel_rfl) trivial ?_
 clear E; intro a E
 refine h_alloc H E rfl rfl tbok rfl ?_
 intro w137 g136 a hc138 hg140 H_ E_
 replace E := E_ _ rfl; clear E_
 replace H := H_; clear H_; try dsimp only [setn, addE, goneL] at H
 refine h_store (g := g136) (off := 0) H 25 rfl E rfl rfl rfl rfl tbok rfl rfl rfl rfl rfl ?_
 clear E; intro w141 a hc142 H_ E
 replace H := H_; clear H_; try dsimp only [setn, addE, goneL] at H
 refine vn tbok 1 [] [(10, .int .i64 r118.2)] [] E (by kernel_rfl) (by kernel_rfl) trivial ?_
 clear E; intro a E
 refine wpList_nil ?_
 refine th_n ?_
 refine wp_seq ?_
 refine wp_region_lit ?_
 refine vn tbok 2 [.agg #[.int .i64 1, .slice (some ⟨g1, 0, none⟩) 2 2, .slice (some ⟨g6, 0, none⟩) 2 2, .slice (some ⟨g11, 0, none⟩) 1 1], .agg #[.int .i64 1, .slice (some ⟨g23, 0, none⟩) 2 2, .slice (some ⟨g28, 0, none⟩) 2 2, .slice none 0 0]] [(54, .agg #[.int .i64 1, .slice (some ⟨g1, 0, none⟩) 2 2, .slice (some ⟨g6, 0, none⟩) 2 2, .slice (some ⟨g11, 0, none⟩) 1 1]), (55, .agg #[.int .i64 1, .slice (some ⟨g23, 0, none⟩) 2 2, .slice (some ⟨g28, 0, none⟩) 2 2, .slice none 0 0])] [cellsAt w141 g16 (0) [.int .i64 1, .slice (some ⟨g1, 0, none⟩) 2 2, .slice (some ⟨g6, 0, none⟩) 2 2, .slice (some ⟨g11, 0, none⟩) 1 1], cellsAt w141 g33 (0) [.int .i64 1, .slice (some ⟨g23, 0, none⟩) 2 2, .slice (some ⟨g28, 0, none⟩) 2 2, .slice none 0 0]] E (by kernel_rfl) (by kernel_rfl) ⟨(H.box 3 rfl).sub 0 _ rfl, (H.box 6 rfl).sub 0 _ rfl⟩ ?_
 clear E; intro a E
 replace H := H.nilrow cNode 49; try dsimp only [setn, addE, goneL] at H
 obtain ⟨r144, h145, hP⟩ := bind_inv hP
 obtain ⟨Fa146, Hc147, hb148⟩ := H.call [] [(0, false), (1, false), (2, false), (4, false), (5, false), (26, false)] rfl rfl trivial
 refine e_call E rfl rfl Try.func17 rfl rfl rfl (both_Part_calls (some ⟨g1, 0, none⟩) 2 (some ⟨g6, 0, none⟩) 2 (some ⟨g11, 0, none⟩) 1 (some ⟨g23, 0, none⟩) 2 (some ⟨g28, 0, none⟩) 2 none 0 1 ([false, true] : List Bool) ([0, 0] : List Int) ([(⟨0, -1, -2⟩ : Nd)] : List Nd) 1 ([false, true] : List Bool) ([-2, -2] : List Int) [] (H.rcapx 0 rfl) (H.rcapx 1 rfl) (H.rcapx 2 rfl) (H.rcapx 4 rfl) (H.rcapx 5 rfl) (Nat.le_refl _) Hc147 h145) ?_
 rintro v149 w150 a ⟨A153, c154, rfl, HR151⟩ E_
 replace E := E_ _ rfl; clear E_
 obtain ⟨H_, hc152⟩ := hb148 _ _ HR151 rfl
 replace H := H_; clear H_; try dsimp only [setn, addE, goneL] at H
 refine vn tbok 7 [] [(11, .slice A153 (List.length r144.1) c154), (12, .bool r144.2.1), (13, .int .i64 r144.2.2)] [] E (by kernel_rfl) (by kernel_rfl) trivial ?_
 clear E; intro a E
 refine wpList_nil ?_
 refine th_n ?_
 refine wp_seq ?_
 refine wp_region_lit ?_
 refine vn tbok 2 [.agg #[.int .i64 1, .slice (some ⟨g1, 0, none⟩) 2 2, .slice (some ⟨g6, 0, none⟩) 2 2, .slice (some ⟨g11, 0, none⟩) 1 1], .agg #[.int .i64 1, .slice (some ⟨g1, 0, none⟩) 2 2, .slice (some ⟨g6, 0, none⟩) 2 2, .slice (some ⟨g11, 0, none⟩) 1 1]] [(61, .agg #[.int .i64 1, .slice (some ⟨g1, 0, none⟩) 2 2, .slice (some ⟨g6, 0, none⟩) 2 2, .slice (some ⟨g11, 0, none⟩) 1 1]), (62, .agg #[.int .i64 1, .slice (some ⟨g1, 0, none⟩) 2 2, .slice (some ⟨g6, 0, none⟩) 2 2, .slice (some ⟨g11, 0, none⟩) 1 1])] [cellsAt w150 g16 (0) [.int .i64 1, .slice (some ⟨g1, 0, none⟩) 2 2, .slice (some ⟨g6, 0, none⟩) 2 2, .slice (some ⟨g11, 0, none⟩) 1 1], cellsAt w150 g16 (0) [.int .i64 1, .slice (some ⟨g1, 0, none⟩) 2 2, .slice (some ⟨g6, 0, none⟩) 2 2, .slice (some ⟨g11, 0, none⟩) 1 1]] E (by kernel_rfl) (by kernel_rfl) ⟨(H.box 3 rfl).sub 0 _ rfl, (H.box 3 rfl).sub 0 _ rfl⟩ ?_
 clear E; intro a E
 obtain ⟨r156, h157, hP⟩ := bind_inv hP
 obtain ⟨Fa158, Hc159, hb160⟩ := H.call [] [(0, false), (1, false), (2, false), (0, false), (1, false), (2, false)] rfl rfl trivial
 refine e_call E rfl rfl Try.func17 rfl rfl rfl (both_Part_calls (some ⟨g1, 0, none⟩) 2 (some ⟨g6, 0, none⟩) 2 (some ⟨g11, 0, none⟩) 1 (some ⟨g1, 0, none⟩) 2 (some ⟨g6, 0, none⟩) 2 (some ⟨g11, 0, none⟩) 1 1 ([false, true] : List Bool) ([0, 0] : List Int) ([(⟨0, -1, -2⟩ : Nd)] : List Nd) 1 ([false, true] : List Bool) ([0, 0] : List Int) ([(⟨0, -1, -2⟩ : Nd)] : List Nd) (H.rcapx 0 rfl) (H.rcapx 1 rfl) (H.rcapx 2 rfl) (H.rcapx 0 rfl) (H.rcapx 1 rfl) (H.rcapx 2 rfl) Hc159 h157) ?_
 rintro v161 w162 a ⟨A165, c166, rfl, HR163⟩ E_
 replace E := E_ _ rfl; clear E_
 obtain ⟨H_, hc164⟩ := hb160 _ _ HR163 rfl
 replace H := H_; clear H_; try dsimp only [setn, addE, goneL] at H
 refine vn tbok 7 [] [(15, .bool r156.2.1), (16, .int .i64 r156.2.2)] [] E (by kernel_rfl) (by kernel_rfl) trivial ?_
 clear E; intro a E
 refine wpList_nil ?_
 refine th_n ?_
 refine wp_seq ?_
 refine wp_region_lit ?_
 refine vn tbok 2 [.agg #[.int .i64 1, .slice (some ⟨g1, 0, none⟩) 2 2, .slice (some ⟨g6, 0, none⟩) 2 2, .slice (some ⟨g11, 0, none⟩) 1 1], .agg #[.int .i64 1, .slice (some ⟨g23, 0, none⟩) 2 2, .slice (some ⟨g28, 0, none⟩) 2 2, .slice none 0 0]] [(68, .agg #[.int .i64 1, .slice (some ⟨g1, 0, none⟩) 2 2, .slice (some ⟨g6, 0, none⟩) 2 2, .slice (some ⟨g11, 0, none⟩) 1 1]), (69, .agg #[.int .i64 1, .slice (some ⟨g23, 0, none⟩) 2 2, .slice (some ⟨g28, 0, none⟩) 2 2, .slice none 0 0])] [cellsAt w162 g16 (0) [.int .i64 1, .slice (some ⟨g1, 0, none⟩) 2 2, .slice (some ⟨g6, 0, none⟩) 2 2, .slice (some ⟨g11, 0, none⟩) 1 1], cellsAt w162 g33 (0) [.int .i64 1, .slice (some ⟨g23, 0, none⟩) 2 2, .slice (some ⟨g28, 0, none⟩) 2 2, .slice none 0 0]] E (by kernel_rfl) (by kernel_rfl) ⟨(H.box 3 rfl).sub 0 _ rfl, (H.box 6 rfl).sub 0 _ rfl⟩ ?_
 clear E; intro a E
 replace H := H.nilrow cNode 49; try dsimp only [setn, addE, goneL] at H
 obtain ⟨r169, h170, hP⟩ := bind_inv hP
 obtain ⟨Fa171, Hc172, hb173⟩ := H.call [] [(0, false), (1, false), (2, false), (4, false), (5, false), (29, false)] rfl rfl trivial
 refine e_call E rfl rfl Try.func19 rfl rfl rfl (both_Implies_calls (some ⟨g1, 0, none⟩) 2 (some ⟨g6, 0, none⟩) 2 (some ⟨g11, 0, none⟩) 1 (some ⟨g23, 0, none⟩) 2 (some ⟨g28, 0, none⟩) 2 none 0 1 ([false, true] : List Bool) ([0, 0] : List Int) ([(⟨0, -1, -2⟩ : Nd)] : List Nd) 1 ([false, true] : List Bool) ([-2, -2] : List Int) [] (H.rcapx 0 rfl) (H.rcapx 1 rfl) (H.rcapx 2 rfl) (H.rcapx 4 rfl) (H.rcapx 5 rfl) (Nat.le_refl _) Hc172 h170) ?_
 rintro v174 w175 a ⟨rfl, HR176⟩ E_
 replace E := E_ _ rfl; clear E_
 obtain ⟨H_, hc177⟩ := hb173 _ _ HR176 rfl
 replace H := H_; clear H_; try dsimp only [setn, addE, goneL] at H
 refine vn tbok 5 [] [(17, .bool r169.1), (18, .int .i64 r169.2)] [] E (by kernel_rfl) (by kernel_rfl) trivial ?_
 clear E; intro a E
 refine wpList_nil ?_
 refine th_n ?_
 refine wp_seq ?_
 refine wp_region_lit ?_
 refine vn tbok 2 [.agg #[.int .i64 1, .slice (some ⟨g23, 0, none⟩) 2 2, .slice (some ⟨g28, 0, none⟩) 2 2, .slice none 0 0], .agg #[.int .i64 1, .slice (some ⟨g1, 0, none⟩) 2 2, .slice (some ⟨g6, 0, none⟩) 2 2, .slice (some ⟨g11, 0, none⟩) 1 1]] [(74, .agg #[.int .i64 1, .slice (some ⟨g23, 0, none⟩) 2 2, .slice (some ⟨g28, 0, none⟩) 2 2, .slice none 0 0]), (75, .agg #[.int .i64 1, .slice (some ⟨g1, 0, none⟩) 2 2, .slice (some ⟨g6, 0, none⟩) 2 2, .slice (some ⟨g11, 0, none⟩) 1 1])] [cellsAt w175 g33 (0) [.int .i64 1, .slice (some ⟨g23, 0, none⟩) 2 2, .slice (some ⟨g28, 0, none⟩) 2 2, .slice none 0 0], cellsAt w175 g16 (0) [.int .i64 1, .slice (some ⟨g1, 0, none⟩) 2 2, .slice (some ⟨g6, 0, none⟩) 2 2, .slice (some ⟨g11, 0, none⟩) 1 1]] E (by kernel_rfl) (by kernel_rfl) ⟨(H.box 6 rfl).sub 0 _ rfl, (H.box 3 rfl).sub 0 _ rfl⟩ ?_
 clear E; intro a E
 replace H := H.nilrow cNode 49; try dsimp only [setn, addE, goneL] at H
 obtain ⟨r179, h180, hP⟩ := bind_inv hP
 obtain ⟨Fa181, Hc182, hb183⟩ := H.call [] [(4, false), (5, false), (30, false), (0, false), (1, false), (2, false)] rfl rfl trivial
 refine e_call E rfl rfl Try.func19 rfl rfl rfl (both_Implies_calls (some ⟨g23, 0, none⟩) 2 (some ⟨g28, 0, none⟩) 2 none 0 (some ⟨g1, 0, none⟩) 2 (some ⟨g6, 0, none⟩) 2 (some ⟨g11, 0, none⟩) 1 1 ([false, true] : List Bool) ([-2, -2] : List Int) [] 1 ([false, true] : List Bool) ([0, 0] : List Int) ([(⟨0, -1, -2⟩ : Nd)] : List Nd) (H.rcapx 4 rfl) (H.rcapx 5 rfl) (Nat.le_refl _) (H.rcapx 0 rfl) (H.rcapx 1 rfl) (H.rcapx 2 rfl) Hc182 h180) ?_
 rintro v184 w185 a ⟨rfl, HR186⟩ E_
 replace E := E_ _ rfl; clear E_
 obtain ⟨H_, hc187⟩ := hb183 _ _ HR186 rfl
 replace H := H_; clear H_; try dsimp only [setn, addE, goneL] at H
 refine vn tbok 5 [] [(19, .bool r179.1), (20, .int .i64 r179.2)] [] E (by kernel_rfl) (by kernel_rfl) trivial ?_
 clear E; intro a E
 refine wpList_nil ?_
 refine th_n ?_
 refine wp_seq ?_
 refine wp_region_lit ?_
 refine vn tbok 1 [.agg #[.int .i64 1, .slice (some ⟨g1, 0, none⟩) 2 2, .slice (some ⟨g6, 0, none⟩) 2 2, .slice (some ⟨g11, 0, none⟩) 1 1]] [(80, .agg #[.int .i64 1, .slice (some ⟨g1, 0, none⟩) 2 2, .slice (some ⟨g6, 0, none⟩) 2 2, .slice (some ⟨g11, 0, none⟩) 1 1])] [cellsAt w185 g16 (0) [.int .i64 1, .slice (some ⟨g1, 0, none⟩) 2 2, .slice (some ⟨g6, 0, none⟩) 2 2, .slice (some ⟨g11, 0, none⟩) 1 1]] E (by kernel_rfl) (by kernel_rfl) ((H.box 3 rfl).sub 0 _ rfl) ?_
 clear E; intro a E
 refine h_buildSlice (ps := [(0, .bool false)]) (cs := [.bool false]) H E rfl rfl tbok rfl rfl (by kernel_rfl) ?_
 intro w189 g188 a hc190 hg192 H_ E_
 replace E := E_ _ rfl; clear E_
 replace H := H_; clear H_; try dsimp only [setn, addE, goneL] at H
 refine h_buildSlice (ps := [(0, .int .i64 (-1))]) (cs := [.int .i64 (-1)]) H E rfl rfl tbok rfl rfl (by kernel_rfl) ?_
 intro w194 g193 a hc195 hg197 H_ E_
 replace E := E_ _ rfl; clear E_
 replace H := H_; clear H_; try dsimp only [setn, addE, goneL] at H
 refine e_build (ps := [(0, .int .i64 2), (1, .slice (some ⟨g188, 0, none⟩) 1 1), (2, .slice (some ⟨g193, 0, none⟩) 1 1)]) (v := .agg #[.int .i64 2, .slice (some ⟨g188, 0, none⟩) 1 1, .slice (some ⟨g193, 0, none⟩) 1 1, .slice none 0 0]) E rfl rfl tbok rfl (by kernel_rfl) rfl ?_
 clear E; intro a E
 replace H := H.boxRow cBool true ([false] : List Bool) 31 rfl (fun _ _ => ⟨_, _, rfl, rfl, rfl⟩) (Nat.le_of_ble_eq_true rfl); try dsimp only [setn, addE, goneL] at H
 replace H := H.boxRow (cInt .i64) true ([-1] : List Int) 32 rfl (fun _ _ => ⟨_, _, rfl, rfl, rfl⟩) (Nat.le_of_ble_eq_true rfl); try dsimp only [setn, addE, goneL] at H
 replace H := H.nilrow cNode 49; try dsimp only [setn, addE, goneL] at H
 obtain ⟨r199, h200, hP⟩ := bind_inv hP
 obtain ⟨Fa201, Hc202, hb203⟩ := H.call [] [(0, false), (1, false), (2, false), (31, false), (32, false), (33, false)] rfl rfl trivial
 refine e_call E rfl rfl Try.func18 rfl rfl rfl (both_Equal_calls (some ⟨g1, 0, none⟩) 2 (some ⟨g6, 0, none⟩) 2 (some ⟨g11, 0, none⟩) 1 (some ⟨g188, 0, none⟩) 1 (some ⟨g193, 0, none⟩) 1 none 0 1 ([false, true] : List Bool) ([0, 0] : List Int) ([(⟨0, -1, -2⟩ : Nd)] : List Nd) 2 ([false] : List Bool) ([-1] : List Int) [] (H.rcapx 0 rfl) (H.rcapx 1 rfl) (H.rcapx 2 rfl) (H.rcapx 31 rfl) (H.rcapx 32 rfl) (Nat.le_refl _) Hc202 h200) ?_
 rintro v204 w205 a ⟨rfl, HR206⟩ E_
 replace E := E_ _ rfl; clear E_
 obtain ⟨H_, hc207⟩ := hb203 _ _ HR206 rfl
 replace H := H_; clear H_; try dsimp only [setn, addE, goneL] at H
 refine vn tbok 5 [] [(22, .int .i64 r199.2)] [] E (by kernel_rfl) (by kernel_rfl) trivial ?_
 clear E; intro a E
 refine wpList_nil ?_
 refine th_n ?_
 refine wp_seq ?_
 refine wp_seq ?_
 refine wp_region_lit ?_
 refine vn tbok 3 [] [(89, .bool ((r40.2 : Int) != 0))] [] E (by kernel_rfl) (by kernel_rfl) trivial ?_
 clear E; intro a E
 refine E.cases (t := 89) rfl (fun hb_ E_ => ?_) (fun hb_ E_ => ?_)
 ·
  replace E := E_; clear E_
  have h208 : ¬ ((r40.2 : Int) = 0) := bne_iff_ne.1 hb_
  clear hb_; replace hP := ite_f h208 hP
  refine vr tbok 33 [] [(11, .slice A153 (List.length r144.1) c154), (12, .bool r144.2.1), (13, .int .i64 r144.2.2), (15, .bool r156.2.1), (16, .int .i64 r156.2.2), (17, .bool r169.1), (18, .int .i64 r169.2), (19, .bool r179.1), (20, .int .i64 r179.2), (22, .int .i64 r199.2), (122, .bool true)] [] E (by kernel_rfl) trivial ?_
  clear E; intro a E
  refine wpList_nil ?_
  refine th_n ?_
  refine c_true E rfl ?_
  refine wp_seq ?_
  refine wp_region_lit ?_
  refine vn tbok 1 [] [(0, .bool false)] [] E (by kernel_rfl) (by kernel_rfl) trivial ?_
  clear E; intro a E
  refine wpList_nil ?_
  refine th_n ?_
  refine wp_ret ?_
  refine th_ret ?_
  obtain rfl := Option.some.inj hP
  refine ret1 E rfl rfl ?_
  exact ⟨_, rfl, rfl, H.sel [] rfl⟩
 replace E := E_; clear E_
 have h209 : (r40.2 : Int) = 0 := bne_eq_false_iff_eq.1 hb_
 clear hb_; replace hP := ite_t h209 hP
 refine vn tbok 4 [] [(93, .bool ((r66.2 : Int) != 0))] [] E (by kernel_rfl) (by kernel_rfl) trivial ?_
 clear E; intro a E
 refine E.cases (t := 93) rfl (fun hb_ E_ => ?_) (fun hb_ E_ => ?_)
 ·
  replace E := E_; clear E_
  have h210 : ¬ ((r66.2 : Int) = 0) := bne_iff_ne.1 hb_
  clear hb_; replace hP := ite_f h210 hP
  refine vr tbok 29 [] [(11, .slice A153 (List.length r144.1) c154), (12, .bool r144.2.1), (13, .int .i64 r144.2.2), (15, .bool r156.2.1), (16, .int .i64 r156.2.2), (17, .bool r169.1), (18, .int .i64 r169.2), (19, .bool r179.1), (20, .int .i64 r179.2), (22, .int .i64 r199.2), (122, .bool true)] [] E (by kernel_rfl) trivial ?_
  clear E; intro a E
  refine wpList_nil ?_
  refine th_n ?_
  refine c_true E rfl ?_
  refine wp_seq ?_
  refine wp_region_lit ?_
  refine vn tbok 1 [] [(0, .bool false)] [] E (by kernel_rfl) (by kernel_rfl) trivial ?_
  clear E; intro a E
  refine wpList_nil ?_
  refine th_n ?_
  refine wp_ret ?_
  refine th_ret ?_
  obtain rfl := Option.some.inj hP
  refine ret1 E rfl rfl ?_
  exact ⟨_, rfl, rfl, H.sel [] rfl⟩
 replace E := E_; clear E_
 have h211 : (r66.2 : Int) = 0 := bne_eq_false_iff_eq.1 hb_
 clear hb_; replace hP := ite_t h211 hP
 refine vr tbok 4 [] [(1, .pointer (some ⟨g16, 0, none⟩)), (3, .pointer (some ⟨g58, 0, none⟩)), (5, .pointer (some ⟨g84, 0, none⟩)), (7, .pointer (some ⟨g110, 0, none⟩)), (9, .pointer (some ⟨g136, 0, none⟩)), (10, .int .i64 r118.2), (11, .slice A153 (List.length r144.1) c154), (12, .bool r144.2.1), (13, .int .i64 r144.2.2), (15, .bool r156.2.1), (16, .int .i64 r156.2.2), (17, .bool r169.1), (18, .int .i64 r169.2), (19, .bool r179.1), (20, .int .i64 r179.2), (22, .int .i64 r199.2), (97, .bool ((r92.2 : Int) != 0))] [] E (by kernel_rfl) trivial ?_
 clear E; intro a E
 refine E.cases (t := 97) rfl (fun hb_ E_ => ?_) (fun hb_ E_ => ?_)
 ·
  replace E := E_; clear E_
  have h212 : ¬ ((r92.2 : Int) = 0) := bne_iff_ne.1 hb_
  clear hb_; replace hP := ite_f h212 hP
  refine vn tbok 25 [] [(122, .bool true)] [] E (by kernel_rfl) (by kernel_rfl) trivial ?_
  clear E; intro a E
  refine wpList_nil ?_
  refine th_n ?_
  refine c_true E rfl ?_
  refine wp_seq ?_
  refine wp_region_lit ?_
  refine vn tbok 1 [] [(0, .bool false)] [] E (by kernel_rfl) (by kernel_rfl) trivial ?_
  clear E; intro a E
  refine wpList_nil ?_
  refine th_n ?_
  refine wp_ret ?_
  refine th_ret ?_
  obtain rfl := Option.some.inj hP
  refine ret1 E rfl rfl ?_
  exact ⟨_, rfl, rfl, H.sel [] rfl⟩
 replace E := E_; clear E_
 have h213 : (r92.2 : Int) = 0 := bne_eq_false_iff_eq.1 hb_
 clear hb_; replace hP := ite_t h213 hP
 refine vn tbok 4 [] [(101, .bool ((r118.2 : Int) != 0))] [] E (by kernel_rfl) (by kernel_rfl) trivial ?_
 clear E; intro a E
 refine E.cases (t := 101) rfl (fun hb_ E_ => ?_) (fun hb_ E_ => ?_)
 ·
  replace E := E_; clear E_
  have h214 : ¬ ((r118.2 : Int) = 0) := bne_iff_ne.1 hb_
  clear hb_; replace hP := ite_f h214 hP
  refine vn tbok 21 [] [(122, .bool true)] [] E (by kernel_rfl) (by kernel_rfl) trivial ?_
  clear E; intro a E
  refine wpList_nil ?_
  refine th_n ?_
  refine c_true E rfl ?_
  refine wp_seq ?_
  refine wp_region_lit ?_
  refine vn tbok 1 [] [(0, .bool false)] [] E (by kernel_rfl) (by kernel_rfl) trivial ?_
  clear E; intro a E
  refine wpList_nil ?_
  refine th_n ?_
  refine wp_ret ?_
  refine th_ret ?_
  obtain rfl := Option.some.inj hP
  refine ret1 E rfl rfl ?_
  exact ⟨_, rfl, rfl, H.sel [] rfl⟩
 replace E := E_; clear E_
 have h215 : (r118.2 : Int) = 0 := bne_eq_false_iff_eq.1 hb_
 clear hb_; replace hP := ite_t h215 hP
 refine vn tbok 1 [.agg #[.int .i64 r40.1.1, .slice A49 (List.length r40.1.2.1) c50, .slice A52 (List.length r40.1.2.2.1) c53, .slice A55 (List.length r40.1.2.2.2) c56]] [(102, .agg #[.int .i64 r40.1.1, .slice A49 (List.length r40.1.2.1) c50, .slice A52 (List.length r40.1.2.2.1) c53, .slice A55 (List.length r40.1.2.2.2) c56])] [cellsAt w205 g58 (0) [.int .i64 r40.1.1, .slice A49 (List.length r40.1.2.1) c50, .slice A52 (List.length r40.1.2.2.1) c53, .slice A55 (List.length r40.1.2.2.2) c56]] E (by kernel_rfl) (by kernel_rfl) ((H.box 10 rfl).sub 0 _ rfl) ?_
 clear E; intro a E
 refine h_buildSlice (ps := [(0, .bool false), (1, .bool true)]) (cs := [.bool false, .bool true]) H E rfl rfl tbok rfl rfl (by kernel_rfl) ?_
 intro w217 g216 a hc218 hg220 H_ E_
 replace E := E_ _ rfl; clear E_
 replace H := H_; clear H_; try dsimp only [setn, addE, goneL] at H
 refine h_buildSlice (ps := [(0, .int .i64 0), (1, .int .i64 0)]) (cs := [.int .i64 0, .int .i64 0]) H E rfl rfl tbok rfl rfl (by kernel_rfl) ?_
 intro w222 g221 a hc223 hg225 H_ E_
 replace E := E_ _ rfl; clear E_
 replace H := H_; clear H_; try dsimp only [setn, addE, goneL] at H
 refine e_build (ps := [(1, .int .i64 (-2)), (2, .int .i64 (-1))]) (v := .agg #[.int .i64 0, .int .i64 (-2), .int .i64 (-1)]) E rfl rfl tbok rfl (by kernel_rfl) rfl ?_
 clear E; intro a E
 refine h_buildSlice (ps := [(0, .agg #[.int .i64 0, .int .i64 (-2), .int .i64 (-1)])]) (cs := [.int .i64 0, .int .i64 (-2), .int .i64 (-1)]) H E rfl rfl tbok rfl rfl (by kernel_rfl) ?_
 intro w227 g226 a hc228 hg230 H_ E_
 replace E := E_ _ rfl; clear E_
 replace H := H_; clear H_; try dsimp only [setn, addE, goneL] at H
 refine e_build (ps := [(0, .int .i64 1), (1, .slice (some ⟨g216, 0, none⟩) 2 2), (2, .slice (some ⟨g221, 0, none⟩) 2 2), (3, .slice (some ⟨g226, 0, none⟩) 1 1)]) (v := .agg #[.int .i64 1, .slice (some ⟨g216, 0, none⟩) 2 2, .slice (some ⟨g221, 0, none⟩) 2 2, .slice (some ⟨g226, 0, none⟩) 1 1]) E rfl rfl tbok rfl (by kernel_rfl) rfl ?_
 clear E; intro a E
 replace H := H.boxRow cBool true ([false, true] : List Bool) 34 rfl (fun _ _ => ⟨_, _, rfl, rfl, ⟨_, _, rfl, rfl, rfl⟩⟩) (Nat.le_of_ble_eq_true rfl); try dsimp only [setn, addE, goneL] at H
 replace H := H.boxRow (cInt .i64) true ([0, 0] : List Int) 35 rfl (fun _ _ => ⟨_, _, rfl, rfl, ⟨_, _, rfl, rfl, rfl⟩⟩) (Nat.le_of_ble_eq_true rfl); try dsimp only [setn, addE, goneL] at H
 replace H := H.boxRow cNode true ([(⟨0, -2, -1⟩ : Nd)] : List Nd) 36 rfl (fun _ _ => ⟨_, _, rfl, rfl, rfl⟩) (Nat.le_of_ble_eq_true rfl); try dsimp only [setn, addE, goneL] at H
 obtain ⟨r231, h232, hP⟩ := bind_inv hP
 obtain ⟨Fa233, Hc234, hb235⟩ := H.call [] [(7, false), (8, false), (9, false), (34, false), (35, false), (36, false)] rfl rfl trivial
 refine e_call E rfl rfl Try.func26 rfl rfl rfl (kit_SameAuto_calls A49 c50 A52 c53 A55 c56 (some ⟨g216, 0, none⟩) 2 (some ⟨g221, 0, none⟩) 2 (some ⟨g226, 0, none⟩) 1 r40.1.1 r40.1.2.1 r40.1.2.2.1 r40.1.2.2.2 1 ([false, true] : List Bool) ([0, 0] : List Int) ([(⟨0, -2, -1⟩ : Nd)] : List Nd) (H.rcap 7 rfl) (H.rcap 8 rfl) (H.rcap 9 rfl) (H.rcapx 34 rfl) (H.rcapx 35 rfl) (H.rcapx 36 rfl) Hc234 h232) ?_
 rintro v236 w237 a ⟨rfl, HR238⟩ E_
 replace E := E_ _ rfl; clear E_
 obtain ⟨H_, hc239⟩ := hb235 _ _ HR238 rfl
 replace H := H_; clear H_; try dsimp only [setn, addE, goneL] at H
 refine vn tbok 3 [] [(111, .bool (!r231))] [] E (by kernel_rfl) (by kernel_rfl) trivial ?_
 clear E; intro a E
 refine E.cases (t := 111) rfl (fun hb_ E_ => ?_) (fun hb_ E_ => ?_)
 ·
  replace E := E_; clear E_
  have h240 : ¬ (r231 = true) := (ne_true_of_eq_false (not_t hb_))
  clear hb_; replace hP := ite_f h240 hP
  refine vn tbok 11 [] [(122, .bool true)] [] E (by kernel_rfl) (by kernel_rfl) trivial ?_
  clear E; intro a E
  refine wpList_nil ?_
  refine th_n ?_
  refine c_true E rfl ?_
  refine wp_seq ?_
  refine wp_region_lit ?_
  refine vn tbok 1 [] [(0, .bool false)] [] E (by kernel_rfl) (by kernel_rfl) trivial ?_
  clear E; intro a E
  refine wpList_nil ?_
  refine th_n ?_
  refine wp_ret ?_
  refine th_ret ?_
  obtain rfl := Option.some.inj hP
  refine ret1 E rfl rfl ?_
  exact ⟨_, rfl, rfl, H.sel [] rfl⟩
 replace E := E_; clear E_
 have h241 : r231 = true := (not_f hb_)
 clear hb_; replace hP := ite_t h241 hP
 refine vn tbok 2 [.agg #[.int .i64 r66.1.1, .slice A75 (List.length r66.1.2.1) c76, .slice A78 (List.length r66.1.2.2.1) c79, .slice A81 (List.length r66.1.2.2.2) c82], .agg #[.int .i64 1, .slice (some ⟨g1, 0, none⟩) 2 2, .slice (some ⟨g6, 0, none⟩) 2 2, .slice (some ⟨g11, 0, none⟩) 1 1]] [(112, .agg #[.int .i64 r66.1.1, .slice A75 (List.length r66.1.2.1) c76, .slice A78 (List.length r66.1.2.2.1) c79, .slice A81 (List.length r66.1.2.2.2) c82]), (113, .agg #[.int .i64 1, .slice (some ⟨g1, 0, none⟩) 2 2, .slice (some ⟨g6, 0, none⟩) 2 2, .slice (some ⟨g11, 0, none⟩) 1 1])] [cellsAt w237 g84 (0) [.int .i64 r66.1.1, .slice A75 (List.length r66.1.2.1) c76, .slice A78 (List.length r66.1.2.2.1) c79, .slice A81 (List.length r66.1.2.2.2) c82], cellsAt w237 g16 (0) [.int .i64 1, .slice (some ⟨g1, 0, none⟩) 2 2, .slice (some ⟨g6, 0, none⟩) 2 2, .slice (some ⟨g11, 0, none⟩) 1 1]] E (by kernel_rfl) (by kernel_rfl) ⟨(H.box 15 rfl).sub 0 _ rfl, (H.box 3 rfl).sub 0 _ rfl⟩ ?_
 clear E; intro a E
 obtain ⟨r242, h243, hP⟩ := bind_inv hP
 obtain ⟨Fa244, Hc245, hb246⟩ := H.call [] [(12, false), (13, false), (14, false), (0, false), (1, false), (2, false)] rfl rfl trivial
 refine e_call E rfl rfl Try.func27 rfl rfl rfl (canon_Same_calls A75 c76 A78 c79 A81 c82 (some ⟨g1, 0, none⟩) 2 (some ⟨g6, 0, none⟩) 2 (some ⟨g11, 0, none⟩) 1 r66.1.1 r66.1.2.1 r66.1.2.2.1 r66.1.2.2.2 1 ([false, true] : List Bool) ([0, 0] : List Int) ([(⟨0, -1, -2⟩ : Nd)] : List Nd) (H.rcap 12 rfl) (H.rcap 13 rfl) (H.rcap 14 rfl) (H.rcapx 0 rfl) (H.rcapx 1 rfl) (H.rcapx 2 rfl) Hc245 h243) ?_
 rintro v247 w248 a ⟨rfl, HR249⟩ E_
 replace E := E_ _ rfl; clear E_
 obtain ⟨H_, hc250⟩ := hb246 _ _ HR249 rfl
 replace H := H_; clear H_; try dsimp only [setn, addE, goneL] at H
 refine vn tbok 3 [] [(117, .bool (!r242))] [] E (by kernel_rfl) (by kernel_rfl) trivial ?_
 clear E; intro a E
 refine E.cases (t := 117) rfl (fun hb_ E_ => ?_) (fun hb_ E_ => ?_)
 ·
  replace E := E_; clear E_
  have h251 : ¬ (r242 = true) := (ne_true_of_eq_false (not_t hb_))
  clear hb_; replace hP := ite_f h251 hP
  refine vn tbok 5 [] [(122, .bool true)] [] E (by kernel_rfl) (by kernel_rfl) trivial ?_
  clear E; intro a E
  refine wpList_nil ?_
  refine th_n ?_
  refine c_true E rfl ?_
  refine wp_seq ?_
  refine wp_region_lit ?_
  refine vn tbok 1 [] [(0, .bool false)] [] E (by kernel_rfl) (by kernel_rfl) trivial ?_
  clear E; intro a E
  refine wpList_nil ?_
  refine th_n ?_
  refine wp_ret ?_
  refine th_ret ?_
  obtain rfl := Option.some.inj hP
  refine ret1 E rfl rfl ?_
  exact ⟨_, rfl, rfl, H.sel [] rfl⟩
 replace E := E_; clear E_
 have h252 : r242 = true := (not_f hb_)
 clear hb_; replace hP := ite_t h252 hP
 refine vn tbok 2 [.agg #[.int .i64 r92.1.1, .slice A101 (List.length r92.1.2.1) c102, .slice A104 (List.length r92.1.2.2.1) c105, .slice A107 (List.length r92.1.2.2.2) c108], .agg #[.int .i64 r118.1.1, .slice A127 (List.length r118.1.2.1) c128, .slice A130 (List.length r118.1.2.2.1) c131, .slice A133 (List.length r118.1.2.2.2) c134]] [(118, .agg #[.int .i64 r92.1.1, .slice A101 (List.length r92.1.2.1) c102, .slice A104 (List.length r92.1.2.2.1) c105, .slice A107 (List.length r92.1.2.2.2) c108]), (119, .agg #[.int .i64 r118.1.1, .slice A127 (List.length r118.1.2.1) c128, .slice A130 (List.length r118.1.2.2.1) c131, .slice A133 (List.length r118.1.2.2.2) c134])] [cellsAt w248 g110 (0) [.int .i64 r92.1.1, .slice A101 (List.length r92.1.2.1) c102, .slice A104 (List.length r92.1.2.2.1) c105, .slice A107 (List.length r92.1.2.2.2) c108], cellsAt w248 g136 (0) [.int .i64 r118.1.1, .slice A127 (List.length r118.1.2.1) c128, .slice A130 (List.length r118.1.2.2.1) c131, .slice A133 (List.length r118.1.2.2.2) c134]] E (by kernel_rfl) (by kernel_rfl) ⟨(H.box 20 rfl).sub 0 _ rfl, (H.box 25 rfl).sub 0 _ rfl⟩ ?_
 clear E; intro a E
 obtain ⟨r253, h254, hP⟩ := bind_inv hP
 obtain ⟨Fa255, Hc256, hb257⟩ := H.call [] [(17, false), (18, false), (19, false), (22, false), (23, false), (24, false)] rfl rfl trivial
 refine e_call E rfl rfl Try.func27 rfl rfl rfl (canon_Same_calls A101 c102 A104 c105 A107 c108 A127 c128 A130 c131 A133 c134 r92.1.1 r92.1.2.1 r92.1.2.2.1 r92.1.2.2.2 r118.1.1 r118.1.2.1 r118.1.2.2.1 r118.1.2.2.2 (H.rcap 17 rfl) (H.rcap 18 rfl) (H.rcap 19 rfl) (H.rcap 22 rfl) (H.rcap 23 rfl) (H.rcap 24 rfl) Hc256 h254) ?_
 rintro v258 w259 a ⟨rfl, HR260⟩ E_
 replace E := E_ _ rfl; clear E_
 obtain ⟨H_, hc261⟩ := hb257 _ _ HR260 rfl
 replace H := H_; clear H_; try dsimp only [setn, addE, goneL] at H
 refine vn tbok 2 [] [(122, .bool (!r253))] [] E (by kernel_rfl) (by kernel_rfl) trivial ?_
 clear E; intro a E
 refine wpList_nil ?_
 refine th_n ?_
 refine E.cases (t := 122) rfl (fun hb_ E_ => ?_) (fun hb_ E_ => ?_)
 ·
  replace E := E_; clear E_
  have h262 : ¬ (r253 = true) := (ne_true_of_eq_false (not_t hb_))
  clear hb_; replace hP := ite_f h262 hP
  refine c_true E rfl ?_
  refine wp_seq ?_
  refine wp_region_lit ?_
  refine vr tbok 1 [] [(0, .bool false)] [] E (by kernel_rfl) trivial ?_
  clear E; intro a E
  refine wpList_nil ?_
  refine th_n ?_
  refine wp_ret ?_
  refine th_ret ?_
  obtain rfl := Option.some.inj hP
  refine ret1 E rfl rfl ?_
  exact ⟨_, rfl, rfl, H.sel [] rfl⟩
 replace E := E_; clear E_
 have h263 : r253 = true := (not_f hb_)
 clear hb_; replace hP := ite_t h263 hP
 refine c_false E rfl ?_
 refine wp_skip ?_
 refine th_n ?_
 refine wp_seq ?_
 refine wp_region_lit ?_
 refine vn tbok 2 [] [(124, .bool r144.2.1)] [] E (by kernel_rfl) (by kernel_rfl) trivial ?_
 clear E; intro a E
 refine E.cases (t := 124) rfl (fun hb_ E_ => ?_) (fun hb_ E_ => ?_)
 ·
  replace E := E_; clear E_
  have h264 : r144.2.1 = true := hb_
  clear hb_; replace hP := ite_t h264 hP
  refine vn tbok 4 [] [(128, .bool ((r144.2.2 : Int) == 0))] [] E (by kernel_rfl) (by kernel_rfl) trivial ?_
  clear E; intro a E
  refine E.cases (t := 128) rfl (fun hb_ E_ => ?_) (fun hb_ E_ => ?_)
  ·
   replace E := E_; clear E_
   have h265 : (r144.2.2 : Int) = 0 := eq_of_beq hb_
   clear hb_; replace hP := ite_t h265 hP
   refine vn tbok 1 [] [(129, .slice A153 (List.length r144.1) c154)] [] E (by kernel_rfl) (by kernel_rfl) trivial ?_
   clear E; intro a E
   refine h_buildSlice (ps := [(0, .int .u8 0)]) (cs := [.int .u8 0]) H E rfl rfl tbok rfl rfl (by kernel_rfl) ?_
   intro w267 g266 a hc268 hg270 H_ E_
   replace E := E_ _ rfl; clear E_
   replace H := H_; clear H_; try dsimp only [setn, addE, goneL] at H
   replace H := H.boxRow (cInt .u8) true ([0] : List Int) 37 rfl (fun _ _ => ⟨_, _, rfl, rfl, rfl⟩) (Nat.le_of_ble_eq_true rfl); try dsimp only [setn, addE, goneL] at H
   obtain ⟨r271, h272, hP⟩ := bind_inv hP
   obtain ⟨Fa273, Hc274, hb275⟩ := H.call [] [(27, false), (37, false)] rfl rfl trivial
   refine e_call E rfl rfl Try.func23 rfl rfl rfl (kit_SameLetters_calls A153 c154 (some ⟨g266, 0, none⟩) 1 r144.1 ([0] : List Int) (H.rcap 27 rfl) (H.rcapx 37 rfl) Hc274 h272) ?_
   rintro v276 w277 a ⟨rfl, HR278⟩ E_
   replace E := E_ _ rfl; clear E_
   obtain ⟨H_, hc279⟩ := hb275 _ _ HR278 rfl
   replace H := H_; clear H_; try dsimp only [setn, addE, goneL] at H
   refine vn tbok 2 [] [(133, .bool r271)] [] E (by kernel_rfl) (by kernel_rfl) trivial ?_
   clear E; intro a E
   refine E.cases (t := 133) rfl (fun hb_ E_ => ?_) (fun hb_ E_ => ?_)
   ·
    replace E := E_; clear E_
    have h280 : r271 = true := hb_
    clear hb_; replace hP := ite_t h280 hP
    refine vn tbok 4 [] [(137, .bool (!r156.2.1))] [] E (by kernel_rfl) (by kernel_rfl) trivial ?_
    clear E; intro a E
    refine E.cases (t := 137) rfl (fun hb_ E_ => ?_) (fun hb_ E_ => ?_)
    ·
     replace E := E_; clear E_
     have h281 : ¬ (r156.2.1 = true) := (ne_true_of_eq_false (not_t hb_))
     clear hb_; replace hP := ite_f h281 hP
     refine vn tbok 4 [] [(141, .bool ((r156.2.2 : Int) == 0))] [] E (by kernel_rfl) (by kernel_rfl) trivial ?_
     clear E; intro a E
     refine E.cases (t := 141) rfl (fun hb_ E_ => ?_) (fun hb_ E_ => ?_)
     ·
      replace E := E_; clear E_
      have h282 : (r156.2.2 : Int) = 0 := eq_of_beq hb_
      clear hb_; replace hP := ite_t h282 hP
      refine vr tbok 3 [] [(18, .int .i64 r169.2), (19, .bool r179.1), (20, .int .i64 r179.2), (22, .int .i64 r199.2), (144, .bool r169.1)] [] E (by kernel_rfl) trivial ?_
      clear E; intro a E
      refine E.cases (t := 144) rfl (fun hb_ E_ => ?_) (fun hb_ E_ => ?_)
      ·
       replace E := E_; clear E_
       have h283 : r169.1 = true := hb_
       clear hb_; replace hP := ite_t h283 hP
       refine vn tbok 4 [] [(148, .bool ((r169.2 : Int) == 0))] [] E (by kernel_rfl) (by kernel_rfl) trivial ?_
       clear E; intro a E
       refine E.cases (t := 148) rfl (fun hb_ E_ => ?_) (fun hb_ E_ => ?_)
       ·
        replace E := E_; clear E_
        have h284 : (r169.2 : Int) = 0 := eq_of_beq hb_
        clear hb_; replace hP := ite_t h284 hP
        refine vn tbok 4 [] [(152, .bool (!r179.1))] [] E (by kernel_rfl) (by kernel_rfl) trivial ?_
        clear E; intro a E
        refine E.cases (t := 152) rfl (fun hb_ E_ => ?_) (fun hb_ E_ => ?_)
        ·
         replace E := E_; clear E_
         have h285 : ¬ (r179.1 = true) := (ne_true_of_eq_false (not_t hb_))
         clear hb_; replace hP := ite_f h285 hP
         refine vn tbok 4 [] [(156, .bool ((r179.2 : Int) == 0))] [] E (by kernel_rfl) (by kernel_rfl) trivial ?_
         clear E; intro a E
         refine E.cases (t := 156) rfl (fun hb_ E_ => ?_) (fun hb_ E_ => ?_)
         ·
          replace E := E_; clear E_
          have h286 : (r179.2 : Int) = 0 := eq_of_beq hb_
          clear hb_; replace hP := ite_t h286 hP
          refine vn tbok 4 [] [(0, .bool ((r199.2 : Int) == 2))] [] E (by kernel_rfl) (by kernel_rfl) trivial ?_
          clear E; intro a E
          refine wpList_nil ?_
          refine th_n ?_
          refine wp_ret ?_
          obtain rfl := Option.some.inj hP
          refine ret1 E rfl rfl ?_
          exact ⟨_, rfl, rfl, H.sel [] rfl⟩
         replace E := E_; clear E_
         have h287 : ¬ ((r179.2 : Int) = 0) := ne_of_beq_false hb_
         clear hb_; replace hP := ite_f h287 hP
         refine vn tbok 4 [] [(0, .bool false)] [] E (by kernel_rfl) (by kernel_rfl) trivial ?_
         clear E; intro a E
         refine wpList_nil ?_
         refine th_n ?_
         refine wp_ret ?_
         obtain rfl := Option.some.inj hP
         refine ret1 E rfl rfl ?_
         exact ⟨_, rfl, rfl, H.sel [] rfl⟩
        replace E := E_; clear E_
        have h288 : r179.1 = true := (not_f hb_)
        clear hb_; replace hP := ite_t h288 hP
        refine vn tbok 8 [] [(0, .bool false)] [] E (by kernel_rfl) (by kernel_rfl) trivial ?_
        clear E; intro a E
        refine wpList_nil ?_
        refine th_n ?_
        refine wp_ret ?_
        obtain rfl := Option.some.inj hP
        refine ret1 E rfl rfl ?_
        exact ⟨_, rfl, rfl, H.sel [] rfl⟩
       replace E := E_; clear E_
       have h289 : ¬ ((r169.2 : Int) = 0) := ne_of_beq_false hb_
       clear hb_; replace hP := ite_f h289 hP
       refine vn tbok 12 [] [(0, .bool false)] [] E (by kernel_rfl) (by kernel_rfl) trivial ?_
       clear E; intro a E
       refine wpList_nil ?_
       refine th_n ?_
       refine wp_ret ?_
       obtain rfl := Option.some.inj hP
       refine ret1 E rfl rfl ?_
       exact ⟨_, rfl, rfl, H.sel [] rfl⟩
      replace E := E_; clear E_
      have h290 : ¬ (r169.1 = true) := (ne_true_of_eq_false hb_)
      clear hb_; replace hP := ite_f h290 hP
      refine vn tbok 16 [] [(0, .bool false)] [] E (by kernel_rfl) (by kernel_rfl) trivial ?_
      clear E; intro a E
      refine wpList_nil ?_
      refine th_n ?_
      refine wp_ret ?_
      obtain rfl := Option.some.inj hP
      refine ret1 E rfl rfl ?_
      exact ⟨_, rfl, rfl, H.sel [] rfl⟩
     replace E := E_; clear E_
     have h291 : ¬ ((r156.2.2 : Int) = 0) := ne_of_beq_false hb_
     clear hb_; replace hP := ite_f h291 hP
     refine vr tbok 19 [] [(0, .bool false)] [] E (by kernel_rfl) trivial ?_
     clear E; intro a E
     refine wpList_nil ?_
     refine th_n ?_
     refine wp_ret ?_
     obtain rfl := Option.some.inj hP
     refine ret1 E rfl rfl ?_
     exact ⟨_, rfl, rfl, H.sel [] rfl⟩
    replace E := E_; clear E_
    have h292 : r156.2.1 = true := (not_f hb_)
    clear hb_; replace hP := ite_t h292 hP
    refine vr tbok 23 [] [(0, .bool false)] [] E (by kernel_rfl) trivial ?_
    clear E; intro a E
    refine wpList_nil ?_
    refine th_n ?_
    refine wp_ret ?_
    obtain rfl := Option.some.inj hP
    refine ret1 E rfl rfl ?_
    exact ⟨_, rfl, rfl, H.sel [] rfl⟩
   replace E := E_; clear E_
   have h293 : ¬ (r271 = true) := (ne_true_of_eq_false hb_)
   clear hb_; replace hP := ite_f h293 hP
   refine vr tbok 27 [] [(0, .bool false)] [] E (by kernel_rfl) trivial ?_
   clear E; intro a E
   refine wpList_nil ?_
   refine th_n ?_
   refine wp_ret ?_
   obtain rfl := Option.some.inj hP
   refine ret1 E rfl rfl ?_
   exact ⟨_, rfl, rfl, H.sel [] rfl⟩
  replace E := E_; clear E_
  have h294 : ¬ ((r144.2.2 : Int) = 0) := ne_of_beq_false hb_
  clear hb_; replace hP := ite_f h294 hP
  refine vr tbok 32 [] [(0, .bool false)] [] E (by kernel_rfl) trivial ?_
  clear E; intro a E
  refine wpList_nil ?_
  refine th_n ?_
  refine wp_ret ?_
  obtain rfl := Option.some.inj hP
  refine ret1 E rfl rfl ?_
  exact ⟨_, rfl, rfl, H.sel [] rfl⟩
 replace E := E_; clear E_
 have h295 : ¬ (r144.2.1 = true) := (ne_true_of_eq_false hb_)
 clear hb_; replace hP := ite_f h295 hP
 refine vr tbok 36 [] [(0, .bool false)] [] E (by kernel_rfl) trivial ?_
 clear E; intro a E
 refine wpList_nil ?_
 refine th_n ?_
 refine wp_ret ?_
 obtain rfl := Option.some.inj hP
 refine ret1 E rfl rfl ?_
 exact ⟨_, rfl, rfl, H.sel [] rfl⟩

end Go.V
