/- Plain functions, and the calls that give them. -/
import Derived.Test.YtclijiacfmljlaaA9
set_option linter.all false
set_option linter.unusedVariables false
set_option linter.unnecessarySimpa false
set_option linter.unusedSimpArgs false
namespace Go.V
open Go Go.Proofs
/-! rejoinder/rejoinderlaw24.StratKnown -/
def law24_StratKnown (N : Nat) : Option Bool :=
  Option.bind (law23_Until N) fun r1 =>
  Option.bind (strat_Of N r1.1 r1.2.1 r1.2.2.1 r1.2.2.2 (1, 2)) fun r40 =>
  Option.bind (strat_Of N r1.1 r1.2.1 r1.2.2.1 r1.2.2.2 (2, 1)) fun r65 =>
  Option.bind (strat_Play N r1.1 r1.2.1 r1.2.2.1 r1.2.2.2 (2, 1) r65.1.1 r65.1.2.1 r65.1.2.2.1 r65.1.2.2.2 ([1, 0, 1] : List Int)) fun r117 =>
  Option.bind (strat_Play N r1.1 r1.2.1 r1.2.2.1 r1.2.2.2 (1, 2) r40.1.1 r40.1.2.1 r40.1.2.2.1 r40.1.2.2.2 ([2] : List Int)) fun r134 =>
  Option.bind (strat_Check N r1.1 r1.2.1 r1.2.2.1 r1.2.2.2 (1, 2) r65.1.1 r65.1.2.1 r65.1.2.2.1 r65.1.2.2.2) fun r146 =>
  Option.bind (strat_Play N r1.1 r1.2.1 r1.2.2.1 r1.2.2.2 (1, 2) r65.1.1 r65.1.2.1 r65.1.2.2.1 r65.1.2.2.2 []) fun r156 =>
  ask (0 ≤ (1025 : Int) ∧ (1025 : Int) ≤ 1000000000) <|
  Option.bind (strat_Play N r1.1 r1.2.1 r1.2.2.1 r1.2.2.2 (1, 2) r40.1.1 r40.1.2.1 r40.1.2.2.1 r40.1.2.2.2 (List.replicate (Int.toNat (1025 : Int)) (0 : Int))) fun r174 =>
  Option.bind (strat_Of N r1.1 r1.2.1 r1.2.2.1 r1.2.2.2 (0, 0)) fun r206 =>
  Option.bind (law24_awake N) fun r231 =>
  if r231 = true then
    if (r40.2 : Int) = 0 then
      if (r65.2 : Int) = 0 then
        Option.bind (law24_Same N r65.1.1 r65.1.2.1 r65.1.2.2.1 r65.1.2.2.2 false ([-1, -1, 0] : List Int) ([[], [], []] : List (List Int)) ([0, 0, 0] : List Int)) fun r243 =>
        if r243 = true then
          Option.bind (kit_SameInts N r117.1 ([0, 0, 1, 1] : List Int)) fun r258 =>
          if r258 = true then
            if (r117.2 : Int) = 0 then
              if (r134.2 : Int) = 14 then
                if r146.1 = true then
                  some false
                else
                  if (r146.2 : Int) = 0 then
                    if (r156.2 : Int) = 340 then
                      if (r174.2 : Int) = 3 then
                        if (r206.2 : Int) = 13 then
                          some true
                        else
                          some false
                      else
                        some false
                    else
                      some false
                  else
                    some false
              else
                some false
            else
              some false
          else
            some false
        else
          some false
      else
        some false
    else
      some false
  else
    some false
set_option maxRecDepth 100000 in
set_option maxHeartbeats 4000000 in
theorem law24_StratKnown_calls {N : Nat} {S Fa : Nat → Prop} {w0 : World} {r : Bool} (H : Hp S Fa w0 w0 []) (hP : law24_StratKnown N  = some r) :
    Calls Try.prog 6 #[] w0 fun e w' => ∃ v, e = .returned v ∧ v = .bool r ∧ Hp S Fa w0 w' [] := by
 refine enterV (n := 133) Try.func6 rfl rfl rfl ?_
 intro a E
 replace E := E.pick [] trivial
 rw [law24_StratKnown] at hP
 refine wp_seq ?_
 refine wp_region_lit ?_
 refine vr tbok 1 [] [] [] E (by kernel_rfl) trivial ?_
 clear E; intro a E
 refine wpList_nil ?_
 refine th_n ?_
 refine wp_seq ?_
 refine wp_region_lit ?_
 obtain ⟨r1, h2, hP⟩ := bind_inv hP
 obtain ⟨Fa3, Hc4, hb5⟩ := H.call [] [] rfl rfl trivial
 refine e_call E rfl rfl Try.func28 rfl rfl rfl (law23_Until_calls    Hc4 h2) ?_
 rintro v6 w7 a ⟨A10, c11, A13, c14, A16, c17, rfl, HR8⟩ E_
 replace E := E_ _ rfl; clear E_
 obtain ⟨H_, hc9⟩ := hb5 _ _ HR8 rfl
 replace H := H_; clear H_; try dsimp only [setn, addE, goneL] at H
 refine e_build (ps := [(0, .int .u8 1), (1, .int .u8 2)]) (v := .agg #[.int .u8 1, .int .u8 2]) E rfl rfl tbok rfl (by kernel_rfl) rfl ?_
 clear E; intro a E
 refine e_build (ps := [(0, .int .u8 2), (1, .int .u8 1)]) (v := .agg #[.int .u8 2, .int .u8 1]) E rfl rfl tbok rfl (by kernel_rfl) rfl ?_
 clear E; intro a E
 refine h_alloc H E rfl rfl tbok rfl ?_
 intro w20 g19 a hc21 hg23 H_ E_
 replace E := E_ _ rfl; clear E_
 replace H := H_; clear H_; try dsimp only [setn, addE, goneL] at H
 refine h_alloc H E rfl rfl tbok rfl ?_
 intro w25 g24 a hc26 hg28 H_ E_
 replace E := E_ _ rfl; clear E_
 replace H := H_; clear H_; try dsimp only [setn, addE, goneL] at H
 refine h_alloc H E rfl rfl tbok rfl ?_
 intro w30 g29 a hc31 hg33 H_ E_
 replace E := E_ _ rfl; clear E_
 replace H := H_; clear H_; try dsimp only [setn, addE, goneL] at H
 refine h_store (g := g19) (off := 0) H 3 rfl E rfl rfl rfl rfl tbok rfl rfl rfl rfl rfl ?_
 clear E; intro w34 a hc35 H_ E
 replace H := H_; clear H_; try dsimp only [setn, addE, goneL] at H
 refine h_store (g := g24) (off := 0) H 4 rfl E rfl rfl rfl rfl tbok rfl rfl rfl rfl rfl ?_
 clear E; intro w36 a hc37 H_ E
 replace H := H_; clear H_; try dsimp only [setn, addE, goneL] at H
 refine h_store (g := g29) (off := 0) H 5 rfl E rfl rfl rfl rfl tbok rfl rfl rfl rfl rfl ?_
 clear E; intro w38 a hc39 H_ E
 replace H := H_; clear H_; try dsimp only [setn, addE, goneL] at H
 refine wpList_nil ?_
 refine th_n ?_
 refine wp_seq ?_
 refine wp_region_lit ?_
 refine vr tbok 2 [.agg #[.int .i64 r1.1, .slice A10 (List.length r1.2.1) c11, .slice A13 (List.length r1.2.2.1) c14, .slice A16 (List.length r1.2.2.2) c17], .agg #[.int .u8 1, .int .u8 2]] [(1, .pointer (some ⟨g19, 0, none⟩)), (2, .pointer (some ⟨g24, 0, none⟩)), (3, .pointer (some ⟨g29, 0, none⟩)), (25, .agg #[.int .i64 r1.1, .slice A10 (List.length r1.2.1) c11, .slice A13 (List.length r1.2.2.1) c14, .slice A16 (List.length r1.2.2.2) c17]), (26, .agg #[.int .u8 1, .int .u8 2])] [cellsAt w38 g19 (0) [.int .i64 r1.1, .slice A10 (List.length r1.2.1) c11, .slice A13 (List.length r1.2.2.1) c14, .slice A16 (List.length r1.2.2.2) c17], cellsAt w38 g24 (0) [.int .u8 1, .int .u8 2]] E (by kernel_rfl) ⟨(H.box 3 rfl).sub 0 _ rfl, (H.box 4 rfl).sub 0 _ rfl⟩ ?_
 clear E; intro a E
 obtain ⟨r40, h41, hP⟩ := bind_inv hP
 obtain ⟨Fa42, Hc43, hb44⟩ := H.call [] [(0, false), (1, false), (2, false)] rfl rfl trivial
 refine e_call E rfl rfl Try.func12 rfl rfl rfl (strat_Of_calls A10 c11 A13 c14 A16 c17 r1.1 r1.2.1 r1.2.2.1 r1.2.2.2 (1, 2) (H.rcap 0 rfl) (H.rcap 1 rfl) (H.rcap 2 rfl) Hc43 h41) ?_
 rintro v45 w46 a ⟨A49, c50, A52, c53, A55, c56, rfl, HR47⟩ E_
 replace E := E_ _ rfl; clear E_
 obtain ⟨H_, hc48⟩ := hb44 _ _ HR47 rfl
 replace H := H_; clear H_; try dsimp only [setn, addE, goneL] at H
 refine vr tbok 3 [] [(1, .pointer (some ⟨g19, 0, none⟩)), (2, .pointer (some ⟨g24, 0, none⟩)), (3, .pointer (some ⟨g29, 0, none⟩)), (28, .agg #[.bool r40.1.1, .slice A49 (List.length r40.1.2.1) c50, .slice A52 (List.length r40.1.2.2.1) c53, .slice A55 (List.length r40.1.2.2.2) c56]), (29, .int .i64 r40.2)] [] E (by kernel_rfl) trivial ?_
 clear E; intro a E
 refine h_alloc H E rfl rfl tbok rfl ?_
 intro w59 g58 a hc60 hg62 H_ E_
 replace E := E_ _ rfl; clear E_
 replace H := H_; clear H_; try dsimp only [setn, addE, goneL] at H
 refine h_store (g := g58) (off := 0) H 9 rfl E rfl rfl rfl rfl tbok rfl rfl rfl rfl rfl ?_
 clear E; intro w63 a hc64 H_ E
 replace H := H_; clear H_; try dsimp only [setn, addE, goneL] at H
 refine vr tbok 1 [] [(1, .pointer (some ⟨g19, 0, none⟩)), (2, .pointer (some ⟨g24, 0, none⟩)), (3, .pointer (some ⟨g29, 0, none⟩)), (4, .pointer (some ⟨g58, 0, none⟩)), (5, .int .i64 r40.2)] [] E (by kernel_rfl) trivial ?_
 clear E; intro a E
 refine wpList_nil ?_
 refine th_n ?_
 refine wp_seq ?_
 refine wp_region_lit ?_
 refine vr tbok 2 [.agg #[.int .i64 r1.1, .slice A10 (List.length r1.2.1) c11, .slice A13 (List.length r1.2.2.1) c14, .slice A16 (List.length r1.2.2.2) c17], .agg #[.int .u8 2, .int .u8 1]] [(1, .pointer (some ⟨g19, 0, none⟩)), (2, .pointer (some ⟨g24, 0, none⟩)), (3, .pointer (some ⟨g29, 0, none⟩)), (4, .pointer (some ⟨g58, 0, none⟩)), (5, .int .i64 r40.2), (31, .agg #[.int .i64 r1.1, .slice A10 (List.length r1.2.1) c11, .slice A13 (List.length r1.2.2.1) c14, .slice A16 (List.length r1.2.2.2) c17]), (32, .agg #[.int .u8 2, .int .u8 1])] [cellsAt w63 g19 (0) [.int .i64 r1.1, .slice A10 (List.length r1.2.1) c11, .slice A13 (List.length r1.2.2.1) c14, .slice A16 (List.length r1.2.2.2) c17], cellsAt w63 g29 (0) [.int .u8 2, .int .u8 1]] E (by kernel_rfl) ⟨(H.box 3 rfl).sub 0 _ rfl, (H.box 5 rfl).sub 0 _ rfl⟩ ?_
 clear E; intro a E
 obtain ⟨r65, h66, hP⟩ := bind_inv hP
 obtain ⟨Fa67, Hc68, hb69⟩ := H.call [] [(0, false), (1, false), (2, false)] rfl rfl trivial
 refine e_call E rfl rfl Try.func12 rfl rfl rfl (strat_Of_calls A10 c11 A13 c14 A16 c17 r1.1 r1.2.1 r1.2.2.1 r1.2.2.2 (2, 1) (H.rcap 0 rfl) (H.rcap 1 rfl) (H.rcap 2 rfl) Hc68 h66) ?_
 rintro v70 w71 a ⟨A74, c75, A77, c78, A80, c81, rfl, HR72⟩ E_
 replace E := E_ _ rfl; clear E_
 obtain ⟨H_, hc73⟩ := hb69 _ _ HR72 rfl
 replace H := H_; clear H_; try dsimp only [setn, addE, goneL] at H
 refine vr tbok 3 [] [(1, .pointer (some ⟨g19, 0, none⟩)), (2, .pointer (some ⟨g24, 0, none⟩)), (3, .pointer (some ⟨g29, 0, none⟩)), (4, .pointer (some ⟨g58, 0, none⟩)), (5, .int .i64 r40.2), (34, .agg #[.bool r65.1.1, .slice A74 (List.length r65.1.2.1) c75, .slice A77 (List.length r65.1.2.2.1) c78, .slice A80 (List.length r65.1.2.2.2) c81]), (35, .int .i64 r65.2)] [] E (by kernel_rfl) trivial ?_
 clear E; intro a E
 refine h_alloc H E rfl rfl tbok rfl ?_
 intro w84 g83 a hc85 hg87 H_ E_
 replace E := E_ _ rfl; clear E_
 replace H := H_; clear H_; try dsimp only [setn, addE, goneL] at H
 refine h_store (g := g83) (off := 0) H 13 rfl E rfl rfl rfl rfl tbok rfl rfl rfl rfl rfl ?_
 clear E; intro w88 a hc89 H_ E
 replace H := H_; clear H_; try dsimp only [setn, addE, goneL] at H
 refine vr tbok 1 [] [(1, .pointer (some ⟨g19, 0, none⟩)), (2, .pointer (some ⟨g24, 0, none⟩)), (3, .pointer (some ⟨g29, 0, none⟩)), (4, .pointer (some ⟨g58, 0, none⟩)), (5, .int .i64 r40.2), (6, .pointer (some ⟨g83, 0, none⟩)), (7, .int .i64 r65.2)] [] E (by kernel_rfl) trivial ?_
 clear E; intro a E
 refine wpList_nil ?_
 refine th_n ?_
 refine wp_seq ?_
 refine wp_region_lit ?_
 refine h_buildSlice (ps := [(0, .int .i64 (-1)), (1, .int .i64 (-1)), (2, .int .i64 0)]) (cs := [.int .i64 (-1), .int .i64 (-1), .int .i64 0]) H E rfl rfl tbok rfl rfl (by kernel_rfl) ?_
 intro w91 g90 a hc92 hg94 H_ E_
 replace E := E_ _ rfl; clear E_
 replace H := H_; clear H_; try dsimp only [setn, addE, goneL] at H
 refine h_buildSlice (ps := [(0, .slice none 0 0), (1, .slice none 0 0), (2, .slice none 0 0)]) (cs := [.slice none 0 0, .slice none 0 0, .slice none 0 0]) H E rfl rfl tbok rfl rfl (by kernel_rfl) ?_
 intro w96 g95 a hc97 hg99 H_ E_
 replace E := E_ _ rfl; clear E_
 replace H := H_; clear H_; try dsimp only [setn, addE, goneL] at H
 refine h_buildSlice (ps := [(0, .int .u8 0), (1, .int .u8 0), (2, .int .u8 0)]) (cs := [.int .u8 0, .int .u8 0, .int .u8 0]) H E rfl rfl tbok rfl rfl (by kernel_rfl) ?_
 intro w101 g100 a hc102 hg104 H_ E_
 replace E := E_ _ rfl; clear E_
 replace H := H_; clear H_; try dsimp only [setn, addE, goneL] at H
 refine e_build (ps := [(1, .slice (some ⟨g90, 0, none⟩) 3 3), (2, .slice (some ⟨g95, 0, none⟩) 3 3), (3, .slice (some ⟨g100, 0, none⟩) 3 3)]) (v := .agg #[.bool false, .slice (some ⟨g90, 0, none⟩) 3 3, .slice (some ⟨g95, 0, none⟩) 3 3, .slice (some ⟨g100, 0, none⟩) 3 3]) E rfl rfl tbok rfl (by kernel_rfl) rfl ?_
 clear E; intro a E
 refine h_alloc H E rfl rfl tbok rfl ?_
 intro w106 g105 a hc107 hg109 H_ E_
 replace E := E_ _ rfl; clear E_
 replace H := H_; clear H_; try dsimp only [setn, addE, goneL] at H
 refine h_store (g := g105) (off := 0) H 17 rfl E rfl rfl rfl rfl tbok rfl rfl rfl rfl rfl ?_
 clear E; intro w110 a hc111 H_ E
 replace H := H_; clear H_; try dsimp only [setn, addE, goneL] at H
 refine wpList_nil ?_
 refine th_n ?_
 refine wp_seq ?_
 refine wp_region_lit ?_
 refine vr tbok 3 [.agg #[.int .i64 r1.1, .slice A10 (List.length r1.2.1) c11, .slice A13 (List.length r1.2.2.1) c14, .slice A16 (List.length r1.2.2.2) c17], .agg #[.int .u8 2, .int .u8 1], .agg #[.bool r65.1.1, .slice A74 (List.length r65.1.2.1) c75, .slice A77 (List.length r65.1.2.2.1) c78, .slice A80 (List.length r65.1.2.2.2) c81]] [(1, .pointer (some ⟨g19, 0, none⟩)), (2, .pointer (some ⟨g24, 0, none⟩)), (4, .pointer (some ⟨g58, 0, none⟩)), (5, .int .i64 r40.2), (6, .pointer (some ⟨g83, 0, none⟩)), (7, .int .i64 r65.2), (8, .pointer (some ⟨g105, 0, none⟩)), (41, .agg #[.int .i64 r1.1, .slice A10 (List.length r1.2.1) c11, .slice A13 (List.length r1.2.2.1) c14, .slice A16 (List.length r1.2.2.2) c17]), (42, .agg #[.int .u8 2, .int .u8 1]), (43, .agg #[.bool r65.1.1, .slice A74 (List.length r65.1.2.1) c75, .slice A77 (List.length r65.1.2.2.1) c78, .slice A80 (List.length r65.1.2.2.2) c81])] [cellsAt w110 g19 (0) [.int .i64 r1.1, .slice A10 (List.length r1.2.1) c11, .slice A13 (List.length r1.2.2.1) c14, .slice A16 (List.length r1.2.2.2) c17], cellsAt w110 g29 (0) [.int .u8 2, .int .u8 1], cellsAt w110 g83 (0) [.bool r65.1.1, .slice A74 (List.length r65.1.2.1) c75, .slice A77 (List.length r65.1.2.2.1) c78, .slice A80 (List.length r65.1.2.2.2) c81]] E (by kernel_rfl) ⟨(H.box 3 rfl).sub 0 _ rfl, (H.box 5 rfl).sub 0 _ rfl, (H.box 13 rfl).sub 0 _ rfl⟩ ?_
 clear E; intro a E
 refine h_buildSlice (ps := [(0, .int .u8 1), (1, .int .u8 0), (2, .int .u8 1)]) (cs := [.int .u8 1, .int .u8 0, .int .u8 1]) H E rfl rfl tbok rfl rfl (by kernel_rfl) ?_
 intro w113 g112 a hc114 hg116 H_ E_
 replace E := E_ _ rfl; clear E_
 replace H := H_; clear H_; try dsimp only [setn, addE, goneL] at H
 replace H := H.boxRow (cInt .u8) true ([1, 0, 1] : List Int) 18 rfl (fun _ _ => ⟨_, _, rfl, rfl, ⟨_, _, rfl, rfl, ⟨_, _, rfl, rfl, rfl⟩⟩⟩) (Nat.le_of_ble_eq_true rfl); try dsimp only [setn, addE, goneL] at H
 obtain ⟨r117, h118, hP⟩ := bind_inv hP
 obtain ⟨Fa119, Hc120, hb121⟩ := H.call [] [(0, false), (1, false), (2, false), (10, false), (11, false), (12, false), (18, false)] rfl rfl trivial
 refine e_call E rfl rfl Try.func17 rfl rfl rfl (strat_Play_calls A10 c11 A13 c14 A16 c17 A74 c75 A77 c78 A80 c81 (some ⟨g112, 0, none⟩) 3 r1.1 r1.2.1 r1.2.2.1 r1.2.2.2 (2, 1) r65.1.1 r65.1.2.1 r65.1.2.2.1 r65.1.2.2.2 ([1, 0, 1] : List Int) (H.rcap 0 rfl) (H.rcap 1 rfl) (H.rcap 2 rfl) (H.rcap 10 rfl) (H.rcap 11 rfl) (H.rcap 12 rfl) (H.rcapx 18 rfl) Hc120 h118) ?_
 rintro v122 w123 a ⟨A126, c127, rfl, HR124⟩ E_
 replace E := E_ _ rfl; clear E_
 obtain ⟨H_, hc125⟩ := hb121 _ _ HR124 rfl
 replace H := H_; clear H_; try dsimp only [setn, addE, goneL] at H
 refine vr tbok 5 [] [(1, .pointer (some ⟨g19, 0, none⟩)), (2, .pointer (some ⟨g24, 0, none⟩)), (4, .pointer (some ⟨g58, 0, none⟩)), (5, .int .i64 r40.2), (6, .pointer (some ⟨g83, 0, none⟩)), (7, .int .i64 r65.2), (8, .pointer (some ⟨g105, 0, none⟩)), (9, .slice A126 (List.length r117.1) c127), (10, .int .i64 r117.2)] [] E (by kernel_rfl) trivial ?_
 clear E; intro a E
 refine wpList_nil ?_
 refine th_n ?_
 refine wp_seq ?_
 refine wp_region_lit ?_
 refine vr tbok 3 [.agg #[.int .i64 r1.1, .slice A10 (List.length r1.2.1) c11, .slice A13 (List.length r1.2.2.1) c14, .slice A16 (List.length r1.2.2.2) c17], .agg #[.int .u8 1, .int .u8 2], .agg #[.bool r40.1.1, .slice A49 (List.length r40.1.2.1) c50, .slice A52 (List.length r40.1.2.2.1) c53, .slice A55 (List.length r40.1.2.2.2) c56]] [(1, .pointer (some ⟨g19, 0, none⟩)), (2, .pointer (some ⟨g24, 0, none⟩)), (4, .pointer (some ⟨g58, 0, none⟩)), (5, .int .i64 r40.2), (6, .pointer (some ⟨g83, 0, none⟩)), (7, .int .i64 r65.2), (8, .pointer (some ⟨g105, 0, none⟩)), (9, .slice A126 (List.length r117.1) c127), (10, .int .i64 r117.2), (49, .agg #[.int .i64 r1.1, .slice A10 (List.length r1.2.1) c11, .slice A13 (List.length r1.2.2.1) c14, .slice A16 (List.length r1.2.2.2) c17]), (50, .agg #[.int .u8 1, .int .u8 2]), (51, .agg #[.bool r40.1.1, .slice A49 (List.length r40.1.2.1) c50, .slice A52 (List.length r40.1.2.2.1) c53, .slice A55 (List.length r40.1.2.2.2) c56])] [cellsAt w123 g19 (0) [.int .i64 r1.1, .slice A10 (List.length r1.2.1) c11, .slice A13 (List.length r1.2.2.1) c14, .slice A16 (List.length r1.2.2.2) c17], cellsAt w123 g24 (0) [.int .u8 1, .int .u8 2], cellsAt w123 g58 (0) [.bool r40.1.1, .slice A49 (List.length r40.1.2.1) c50, .slice A52 (List.length r40.1.2.2.1) c53, .slice A55 (List.length r40.1.2.2.2) c56]] E (by kernel_rfl) ⟨(H.box 3 rfl).sub 0 _ rfl, (H.box 4 rfl).sub 0 _ rfl, (H.box 9 rfl).sub 0 _ rfl⟩ ?_
 clear E; intro a E
 refine h_buildSlice (ps := [(0, .int .u8 2)]) (cs := [.int .u8 2]) H E rfl rfl tbok rfl rfl (by kernel_rfl) ?_
 intro w130 g129 a hc131 hg133 H_ E_
 replace E := E_ _ rfl; clear E_
 replace H := H_; clear H_; try dsimp only [setn, addE, goneL] at H
 replace H := H.boxRow (cInt .u8) true ([2] : List Int) 20 rfl (fun _ _ => ⟨_, _, rfl, rfl, rfl⟩) (Nat.le_of_ble_eq_true rfl); try dsimp only [setn, addE, goneL] at H
 obtain ⟨r134, h135, hP⟩ := bind_inv hP
 obtain ⟨Fa136, Hc137, hb138⟩ := H.call [] [(0, false), (1, false), (2, false), (6, false), (7, false), (8, false), (20, false)] rfl rfl trivial
 refine e_call E rfl rfl Try.func17 rfl rfl rfl (strat_Play_calls A10 c11 A13 c14 A16 c17 A49 c50 A52 c53 A55 c56 (some ⟨g129, 0, none⟩) 1 r1.1 r1.2.1 r1.2.2.1 r1.2.2.2 (1, 2) r40.1.1 r40.1.2.1 r40.1.2.2.1 r40.1.2.2.2 ([2] : List Int) (H.rcap 0 rfl) (H.rcap 1 rfl) (H.rcap 2 rfl) (H.rcap 6 rfl) (H.rcap 7 rfl) (H.rcap 8 rfl) (H.rcapx 20 rfl) Hc137 h135) ?_
 rintro v139 w140 a ⟨A143, c144, rfl, HR141⟩ E_
 replace E := E_ _ rfl; clear E_
 obtain ⟨H_, hc142⟩ := hb138 _ _ HR141 rfl
 replace H := H_; clear H_; try dsimp only [setn, addE, goneL] at H
 refine vr tbok 5 [] [(1, .pointer (some ⟨g19, 0, none⟩)), (2, .pointer (some ⟨g24, 0, none⟩)), (4, .pointer (some ⟨g58, 0, none⟩)), (5, .int .i64 r40.2), (6, .pointer (some ⟨g83, 0, none⟩)), (7, .int .i64 r65.2), (8, .pointer (some ⟨g105, 0, none⟩)), (9, .slice A126 (List.length r117.1) c127), (10, .int .i64 r117.2), (12, .int .i64 r134.2)] [] E (by kernel_rfl) trivial ?_
 clear E; intro a E
 refine wpList_nil ?_
 refine th_n ?_
 refine wp_seq ?_
 refine wp_region_lit ?_
 refine vr tbok 3 [.agg #[.int .i64 r1.1, .slice A10 (List.length r1.2.1) c11, .slice A13 (List.length r1.2.2.1) c14, .slice A16 (List.length r1.2.2.2) c17], .agg #[.int .u8 1, .int .u8 2], .agg #[.bool r65.1.1, .slice A74 (List.length r65.1.2.1) c75, .slice A77 (List.length r65.1.2.2.1) c78, .slice A80 (List.length r65.1.2.2.2) c81]] [(1, .pointer (some ⟨g19, 0, none⟩)), (2, .pointer (some ⟨g24, 0, none⟩)), (4, .pointer (some ⟨g58, 0, none⟩)), (5, .int .i64 r40.2), (6, .pointer (some ⟨g83, 0, none⟩)), (7, .int .i64 r65.2), (8, .pointer (some ⟨g105, 0, none⟩)), (9, .slice A126 (List.length r117.1) c127), (10, .int .i64 r117.2), (12, .int .i64 r134.2), (57, .agg #[.int .i64 r1.1, .slice A10 (List.length r1.2.1) c11, .slice A13 (List.length r1.2.2.1) c14, .slice A16 (List.length r1.2.2.2) c17]), (58, .agg #[.int .u8 1, .int .u8 2]), (59, .agg #[.bool r65.1.1, .slice A74 (List.length r65.1.2.1) c75, .slice A77 (List.length r65.1.2.2.1) c78, .slice A80 (List.length r65.1.2.2.2) c81])] [cellsAt w140 g19 (0) [.int .i64 r1.1, .slice A10 (List.length r1.2.1) c11, .slice A13 (List.length r1.2.2.1) c14, .slice A16 (List.length r1.2.2.2) c17], cellsAt w140 g24 (0) [.int .u8 1, .int .u8 2], cellsAt w140 g83 (0) [.bool r65.1.1, .slice A74 (List.length r65.1.2.1) c75, .slice A77 (List.length r65.1.2.2.1) c78, .slice A80 (List.length r65.1.2.2.2) c81]] E (by kernel_rfl) ⟨(H.box 3 rfl).sub 0 _ rfl, (H.box 4 rfl).sub 0 _ rfl, (H.box 13 rfl).sub 0 _ rfl⟩ ?_
 clear E; intro a E
 obtain ⟨r146, h147, hP⟩ := bind_inv hP
 obtain ⟨Fa148, Hc149, hb150⟩ := H.call [] [(0, false), (1, false), (2, false), (10, false), (11, false), (12, false)] rfl rfl trivial
 refine e_call E rfl rfl Try.func15 rfl rfl rfl (strat_Check_calls A10 c11 A13 c14 A16 c17 A74 c75 A77 c78 A80 c81 r1.1 r1.2.1 r1.2.2.1 r1.2.2.2 (1, 2) r65.1.1 r65.1.2.1 r65.1.2.2.1 r65.1.2.2.2 (H.rcap 0 rfl) (H.rcap 1 rfl) (H.rcap 2 rfl) (H.rcap 10 rfl) (H.rcap 11 rfl) (H.rcap 12 rfl) Hc149 h147) ?_
 rintro v151 w152 a ⟨rfl, HR153⟩ E_
 replace E := E_ _ rfl; clear E_
 obtain ⟨H_, hc154⟩ := hb150 _ _ HR153 rfl
 replace H := H_; clear H_; try dsimp only [setn, addE, goneL] at H
 refine vr tbok 5 [] [(1, .pointer (some ⟨g19, 0, none⟩)), (2, .pointer (some ⟨g24, 0, none⟩)), (4, .pointer (some ⟨g58, 0, none⟩)), (5, .int .i64 r40.2), (6, .pointer (some ⟨g83, 0, none⟩)), (7, .int .i64 r65.2), (8, .pointer (some ⟨g105, 0, none⟩)), (9, .slice A126 (List.length r117.1) c127), (10, .int .i64 r117.2), (12, .int .i64 r134.2), (13, .bool r146.1), (14, .int .i64 r146.2)] [] E (by kernel_rfl) trivial ?_
 clear E; intro a E
 refine wpList_nil ?_
 refine th_n ?_
 refine wp_seq ?_
 refine wp_region_lit ?_
 refine vr tbok 3 [.agg #[.int .i64 r1.1, .slice A10 (List.length r1.2.1) c11, .slice A13 (List.length r1.2.2.1) c14, .slice A16 (List.length r1.2.2.2) c17], .agg #[.int .u8 1, .int .u8 2], .agg #[.bool r65.1.1, .slice A74 (List.length r65.1.2.1) c75, .slice A77 (List.length r65.1.2.2.1) c78, .slice A80 (List.length r65.1.2.2.2) c81]] [(1, .pointer (some ⟨g19, 0, none⟩)), (2, .pointer (some ⟨g24, 0, none⟩)), (4, .pointer (some ⟨g58, 0, none⟩)), (5, .int .i64 r40.2), (6, .pointer (some ⟨g83, 0, none⟩)), (7, .int .i64 r65.2), (8, .pointer (some ⟨g105, 0, none⟩)), (9, .slice A126 (List.length r117.1) c127), (10, .int .i64 r117.2), (12, .int .i64 r134.2), (13, .bool r146.1), (14, .int .i64 r146.2), (64, .agg #[.int .i64 r1.1, .slice A10 (List.length r1.2.1) c11, .slice A13 (List.length r1.2.2.1) c14, .slice A16 (List.length r1.2.2.2) c17]), (65, .agg #[.int .u8 1, .int .u8 2]), (66, .agg #[.bool r65.1.1, .slice A74 (List.length r65.1.2.1) c75, .slice A77 (List.length r65.1.2.2.1) c78, .slice A80 (List.length r65.1.2.2.2) c81])] [cellsAt w152 g19 (0) [.int .i64 r1.1, .slice A10 (List.length r1.2.1) c11, .slice A13 (List.length r1.2.2.1) c14, .slice A16 (List.length r1.2.2.2) c17], cellsAt w152 g24 (0) [.int .u8 1, .int .u8 2], cellsAt w152 g83 (0) [.bool r65.1.1, .slice A74 (List.length r65.1.2.1) c75, .slice A77 (List.length r65.1.2.2.1) c78, .slice A80 (List.length r65.1.2.2.2) c81]] E (by kernel_rfl) ⟨(H.box 3 rfl).sub 0 _ rfl, (H.box 4 rfl).sub 0 _ rfl, (H.box 13 rfl).sub 0 _ rfl⟩ ?_
 clear E; intro a E
 replace H := H.nilrow (cInt .u8) 27; try dsimp only [setn, addE, goneL] at H
 obtain ⟨r156, h157, hP⟩ := bind_inv hP
 obtain ⟨Fa158, Hc159, hb160⟩ := H.call [] [(0, false), (1, false), (2, false), (10, false), (11, false), (12, false), (22, false)] rfl rfl trivial
 refine e_call E rfl rfl Try.func17 rfl rfl rfl (strat_Play_calls A10 c11 A13 c14 A16 c17 A74 c75 A77 c78 A80 c81 none 0 r1.1 r1.2.1 r1.2.2.1 r1.2.2.2 (1, 2) r65.1.1 r65.1.2.1 r65.1.2.2.1 r65.1.2.2.2 [] (H.rcap 0 rfl) (H.rcap 1 rfl) (H.rcap 2 rfl) (H.rcap 10 rfl) (H.rcap 11 rfl) (H.rcap 12 rfl) (Nat.le_refl _) Hc159 h157) ?_
 rintro v161 w162 a ⟨A165, c166, rfl, HR163⟩ E_
 replace E := E_ _ rfl; clear E_
 obtain ⟨H_, hc164⟩ := hb160 _ _ HR163 rfl
 replace H := H_; clear H_; try dsimp only [setn, addE, goneL] at H
 refine vr tbok 5 [] [(1, .pointer (some ⟨g19, 0, none⟩)), (2, .pointer (some ⟨g24, 0, none⟩)), (4, .pointer (some ⟨g58, 0, none⟩)), (5, .int .i64 r40.2), (6, .pointer (some ⟨g83, 0, none⟩)), (7, .int .i64 r65.2), (8, .pointer (some ⟨g105, 0, none⟩)), (9, .slice A126 (List.length r117.1) c127), (10, .int .i64 r117.2), (12, .int .i64 r134.2), (13, .bool r146.1), (14, .int .i64 r146.2), (16, .int .i64 r156.2)] [] E (by kernel_rfl) trivial ?_
 clear E; intro a E
 refine wpList_nil ?_
 refine th_n ?_
 refine wp_seq ?_
 obtain ⟨g168, hP⟩ := ask_inv hP
 obtain ⟨r174, h175, hP⟩ := bind_inv hP
 have HR189 := H
 refine dr_start (S := fun w_ => Chg (atL []) w162 w_) (by kernel_rfl) ?_
 intro w186 hc187
 have HS188 : Chg (atL []) w162 w186 := hc187.mono (fun _ _ h_ => h_.elim)
 replace H := H.ext hc187
 refine dr tbok (by kernel_rfl) [0, 1, 2] [.agg #[.int .i64 r1.1, .slice A10 (List.length r1.2.1) c11, .slice A13 (List.length r1.2.2.1) c14, .slice A16 (List.length r1.2.2.2) c17], .agg #[.int .u8 1, .int .u8 2], .agg #[.bool r40.1.1, .slice A49 (List.length r40.1.2.1) c50, .slice A52 (List.length r40.1.2.2.1) c53, .slice A55 (List.length r40.1.2.2.2) c56]] [(1, .pointer (some ⟨g19, 0, none⟩)), (5, .int .i64 r40.2), (6, .pointer (some ⟨g83, 0, none⟩)), (7, .int .i64 r65.2), (8, .pointer (some ⟨g105, 0, none⟩)), (9, .slice A126 (List.length r117.1) c127), (10, .int .i64 r117.2), (12, .int .i64 r134.2), (13, .bool r146.1), (14, .int .i64 r146.2), (16, .int .i64 r156.2), (71, .agg #[.int .i64 r1.1, .slice A10 (List.length r1.2.1) c11, .slice A13 (List.length r1.2.2.1) c14, .slice A16 (List.length r1.2.2.2) c17]), (72, .agg #[.int .u8 1, .int .u8 2]), (73, .agg #[.bool r40.1.1, .slice A49 (List.length r40.1.2.1) c50, .slice A52 (List.length r40.1.2.2.1) c53, .slice A55 (List.length r40.1.2.2.2) c56])] (fun w_ => [cellsAt w_ g19 (0) [.int .i64 r1.1, .slice A10 (List.length r1.2.1) c11, .slice A13 (List.length r1.2.2.1) c14, .slice A16 (List.length r1.2.2.2) c17], cellsAt w_ g24 (0) [.int .u8 1, .int .u8 2], cellsAt w_ g58 (0) [.bool r40.1.1, .slice A49 (List.length r40.1.2.1) c50, .slice A52 (List.length r40.1.2.2.1) c53, .slice A55 (List.length r40.1.2.2.2) c56]]) 7 E (fun _ _ => by kernel_rfl) (fun w_ hS_ => ⟨(HR189.boxk [] hS_ 3 rfl rfl).sub 0 _ rfl, (HR189.boxk [] hS_ 4 rfl rfl).sub 0 _ rfl, (HR189.boxk [] hS_ 9 rfl rfl).sub 0 _ rfl⟩) (by kernel_rfl) HS188 ?_
 clear E; intro a E
 refine wpAnyH_all (rs := [3]) (by kernel_rfl) (by simp) ?_
 refine all1 ?_
 ·
  refine wpOp_of_list rfl ?_
  refine h_make (cInt .u8) (0 : Int) H E rfl rfl tbok rfl rfl rfl rfl ⟨g168.1, Int.le_refl _, g168.2⟩ rfl rfl rfl (fun _ _ => rfl) ?_
  intro w191 g190 a hc192 hg194 H_ E_
  replace E := E_ _ rfl; clear E_
  have hin195 : ∀ q_, q_ < w162.heap.size → At (some ⟨g190, 0, none⟩) q_ → (atL []) q_ := fun q_ h1_ h2_ => by have hs_ := HS188.size; have h4_ : q_ = g190 := At.of_g h2_; exfalso; omega
  replace HS188 := HS188.ext hc192
  replace H := H_; clear H_; try dsimp only [setn, addE, goneL] at H
  refine wpList_nil ?_
  refine th_n ⟨HS188, ?_⟩
  refine wpAnyH_all (rs := [4]) (by kernel_rfl) (by simp) ?_
  refine all1 ?_
  ·
   refine wpOp_of_list rfl ?_
   obtain ⟨Fa196, Hc197, hb198⟩ := H.call [] [(0, false), (1, false), (2, false), (6, false), (7, false), (8, false), (24, false)] rfl rfl trivial
   refine e_call E rfl rfl Try.func17 rfl rfl rfl (strat_Play_calls A10 c11 A13 c14 A16 c17 A49 c50 A52 c53 A55 c56 (some ⟨g190, 0, none⟩) (Int.toNat (1025 : Int)) r1.1 r1.2.1 r1.2.2.1 r1.2.2.2 (1, 2) r40.1.1 r40.1.2.1 r40.1.2.2.1 r40.1.2.2.2 (List.replicate (Int.toNat (1025 : Int)) (0 : Int)) (H.rcap 0 rfl) (H.rcap 1 rfl) (H.rcap 2 rfl) (H.rcap 6 rfl) (H.rcap 7 rfl) (H.rcap 8 rfl) (H.rcapx 24 rfl) Hc197 h175) ?_
   rintro v199 w200 a ⟨A203, c204, rfl, HR201⟩ E_
   replace E := E_ _ rfl; clear E_
   obtain ⟨H_, hc202⟩ := hb198 _ _ HR201 rfl
   replace HS188 := HS188.ext (callS_ext hc202)
   replace H := H_; clear H_; try dsimp only [setn, addE, goneL] at H
   refine wpList_nil ?_
   refine th_n ⟨HS188, ?_⟩
   refine dr tbok (by kernel_rfl) [5, 6, 7, 8, 9] [] [(1, .pointer (some ⟨g19, 0, none⟩)), (5, .int .i64 r40.2), (6, .pointer (some ⟨g83, 0, none⟩)), (7, .int .i64 r65.2), (8, .pointer (some ⟨g105, 0, none⟩)), (9, .slice A126 (List.length r117.1) c127), (10, .int .i64 r117.2), (12, .int .i64 r134.2), (13, .bool r146.1), (14, .int .i64 r146.2), (16, .int .i64 r156.2), (18, .int .i64 r174.2)] (fun w_ => []) 0 E (fun _ _ => by kernel_rfl) (fun w_ hS_ => trivial) (by kernel_rfl) HS188 ?_
   clear E; intro a E
   refine dr_done (by kernel_rfl) ?_
   clear HS188 HR189
   refine th_n ?_
   refine wp_seq ?_
   refine wp_region_lit ?_
   refine vr tbok 1 [.agg #[.int .i64 r1.1, .slice A10 (List.length r1.2.1) c11, .slice A13 (List.length r1.2.2.1) c14, .slice A16 (List.length r1.2.2.2) c17]] [(5, .int .i64 r40.2), (6, .pointer (some ⟨g83, 0, none⟩)), (7, .int .i64 r65.2), (8, .pointer (some ⟨g105, 0, none⟩)), (9, .slice A126 (List.length r117.1) c127), (10, .int .i64 r117.2), (12, .int .i64 r134.2), (13, .bool r146.1), (14, .int .i64 r146.2), (16, .int .i64 r156.2), (18, .int .i64 r174.2), (79, .agg #[.int .i64 r1.1, .slice A10 (List.length r1.2.1) c11, .slice A13 (List.length r1.2.2.1) c14, .slice A16 (List.length r1.2.2.2) c17])] [cellsAt w200 g19 (0) [.int .i64 r1.1, .slice A10 (List.length r1.2.1) c11, .slice A13 (List.length r1.2.2.1) c14, .slice A16 (List.length r1.2.2.2) c17]] E (by kernel_rfl) ((H.box 3 rfl).sub 0 _ rfl) ?_
   clear E; intro a E
   refine e_build (ps := []) (v := .agg #[.int .u8 0, .int .u8 0]) E rfl rfl tbok rfl (by kernel_rfl) rfl ?_
   clear E; intro a E
   obtain ⟨r206, h207, hP⟩ := bind_inv hP
   obtain ⟨Fa208, Hc209, hb210⟩ := H.call [] [(0, false), (1, false), (2, false)] rfl rfl trivial
   refine e_call E rfl rfl Try.func12 rfl rfl rfl (strat_Of_calls A10 c11 A13 c14 A16 c17 r1.1 r1.2.1 r1.2.2.1 r1.2.2.2 (0, 0) (H.rcap 0 rfl) (H.rcap 1 rfl) (H.rcap 2 rfl) Hc209 h207) ?_
   rintro v211 w212 a ⟨A215, c216, A218, c219, A221, c222, rfl, HR213⟩ E_
   replace E := E_ _ rfl; clear E_
   obtain ⟨H_, hc214⟩ := hb210 _ _ HR213 rfl
   replace H := H_; clear H_; try dsimp only [setn, addE, goneL] at H
   refine vr tbok 3 [] [(5, .int .i64 r40.2), (6, .pointer (some ⟨g83, 0, none⟩)), (7, .int .i64 r65.2), (8, .pointer (some ⟨g105, 0, none⟩)), (9, .slice A126 (List.length r117.1) c127), (10, .int .i64 r117.2), (12, .int .i64 r134.2), (13, .bool r146.1), (14, .int .i64 r146.2), (16, .int .i64 r156.2), (18, .int .i64 r174.2), (82, .agg #[.bool r206.1.1, .slice A215 (List.length r206.1.2.1) c216, .slice A218 (List.length r206.1.2.2.1) c219, .slice A221 (List.length r206.1.2.2.2) c222]), (83, .int .i64 r206.2)] [] E (by kernel_rfl) trivial ?_
   clear E; intro a E
   refine h_alloc H E rfl rfl tbok rfl ?_
   intro w225 g224 a hc226 hg228 H_ E_
   replace E := E_ _ rfl; clear E_
   replace H := H_; clear H_; try dsimp only [setn, addE, goneL] at H
   refine h_store (g := g224) (off := 0) H 29 rfl E rfl rfl rfl rfl tbok rfl rfl rfl rfl rfl ?_
   clear E; intro w229 a hc230 H_ E
   replace H := H_; clear H_; try dsimp only [setn, addE, goneL] at H
   refine vr tbok 1 [] [(5, .int .i64 r40.2), (6, .pointer (some ⟨g83, 0, none⟩)), (7, .int .i64 r65.2), (8, .pointer (some ⟨g105, 0, none⟩)), (9, .slice A126 (List.length r117.1) c127), (10, .int .i64 r117.2), (12, .int .i64 r134.2), (13, .bool r146.1), (14, .int .i64 r146.2), (16, .int .i64 r156.2), (18, .int .i64 r174.2), (20, .int .i64 r206.2)] [] E (by kernel_rfl) trivial ?_
   clear E; intro a E
   refine wpList_nil ?_
   refine th_n ?_
   refine wp_seq ?_
   refine wp_region_lit ?_
   obtain ⟨r231, h232, hP⟩ := bind_inv hP
   obtain ⟨Fa233, Hc234, hb235⟩ := H.call [] [] rfl rfl trivial
   refine e_call E rfl rfl Try.func24 rfl rfl rfl (law24_awake_calls    Hc234 h232) ?_
   rintro v236 w237 a ⟨rfl, HR238⟩ E_
   replace E := E_ _ rfl; clear E_
   obtain ⟨H_, hc239⟩ := hb235 _ _ HR238 rfl
   replace H := H_; clear H_; try dsimp only [setn, addE, goneL] at H
   refine vr tbok 1 [] [(5, .int .i64 r40.2), (6, .pointer (some ⟨g83, 0, none⟩)), (7, .int .i64 r65.2), (8, .pointer (some ⟨g105, 0, none⟩)), (9, .slice A126 (List.length r117.1) c127), (10, .int .i64 r117.2), (12, .int .i64 r134.2), (13, .bool r146.1), (14, .int .i64 r146.2), (16, .int .i64 r156.2), (18, .int .i64 r174.2), (20, .int .i64 r206.2), (85, .bool r231)] [] E (by kernel_rfl) trivial ?_
   clear E; intro a E
   refine E.cases (t := 85) rfl (fun hb_ E_ => ?_) (fun hb_ E_ => ?_)
   ·
    replace E := E_; clear E_
    have h240 : r231 = true := hb_
    clear hb_; replace hP := ite_t h240 hP
    refine vr tbok 4 [] [(6, .pointer (some ⟨g83, 0, none⟩)), (7, .int .i64 r65.2), (8, .pointer (some ⟨g105, 0, none⟩)), (9, .slice A126 (List.length r117.1) c127), (10, .int .i64 r117.2), (12, .int .i64 r134.2), (13, .bool r146.1), (14, .int .i64 r146.2), (16, .int .i64 r156.2), (18, .int .i64 r174.2), (20, .int .i64 r206.2), (89, .bool ((r40.2 : Int) == 0))] [] E (by kernel_rfl) trivial ?_
    clear E; intro a E
    refine E.cases (t := 89) rfl (fun hb_ E_ => ?_) (fun hb_ E_ => ?_)
    ·
     replace E := E_; clear E_
     have h241 : (r40.2 : Int) = 0 := eq_of_beq hb_
     clear hb_; replace hP := ite_t h241 hP
     refine vr tbok 4 [] [(6, .pointer (some ⟨g83, 0, none⟩)), (8, .pointer (some ⟨g105, 0, none⟩)), (9, .slice A126 (List.length r117.1) c127), (10, .int .i64 r117.2), (12, .int .i64 r134.2), (13, .bool r146.1), (14, .int .i64 r146.2), (16, .int .i64 r156.2), (18, .int .i64 r174.2), (20, .int .i64 r206.2), (93, .bool ((r65.2 : Int) == 0))] [] E (by kernel_rfl) trivial ?_
     clear E; intro a E
     refine E.cases (t := 93) rfl (fun hb_ E_ => ?_) (fun hb_ E_ => ?_)
     ·
      replace E := E_; clear E_
      have h242 : (r65.2 : Int) = 0 := eq_of_beq hb_
      clear hb_; replace hP := ite_t h242 hP
      refine vr tbok 2 [.agg #[.bool r65.1.1, .slice A74 (List.length r65.1.2.1) c75, .slice A77 (List.length r65.1.2.2.1) c78, .slice A80 (List.length r65.1.2.2.2) c81], .agg #[.bool false, .slice (some ⟨g90, 0, none⟩) 3 3, .slice (some ⟨g95, 0, none⟩) 3 3, .slice (some ⟨g100, 0, none⟩) 3 3]] [(9, .slice A126 (List.length r117.1) c127), (10, .int .i64 r117.2), (12, .int .i64 r134.2), (13, .bool r146.1), (14, .int .i64 r146.2), (16, .int .i64 r156.2), (18, .int .i64 r174.2), (20, .int .i64 r206.2), (93, .bool true), (94, .agg #[.bool r65.1.1, .slice A74 (List.length r65.1.2.1) c75, .slice A77 (List.length r65.1.2.2.1) c78, .slice A80 (List.length r65.1.2.2.2) c81]), (95, .agg #[.bool false, .slice (some ⟨g90, 0, none⟩) 3 3, .slice (some ⟨g95, 0, none⟩) 3 3, .slice (some ⟨g100, 0, none⟩) 3 3])] [cellsAt w237 g83 (0) [.bool r65.1.1, .slice A74 (List.length r65.1.2.1) c75, .slice A77 (List.length r65.1.2.2.1) c78, .slice A80 (List.length r65.1.2.2.2) c81], cellsAt w237 g105 (0) [.bool false, .slice (some ⟨g90, 0, none⟩) 3 3, .slice (some ⟨g95, 0, none⟩) 3 3, .slice (some ⟨g100, 0, none⟩) 3 3]] E (by kernel_rfl) ⟨(H.box 13 rfl).sub 0 _ rfl, (H.box 17 rfl).sub 0 _ rfl⟩ ?_
      clear E; intro a E
      replace H := H.boxRow (cInt .i64) true ([-1, -1, 0] : List Int) 14 rfl (fun _ _ => ⟨_, _, rfl, rfl, ⟨_, _, rfl, rfl, ⟨_, _, rfl, rfl, rfl⟩⟩⟩) (Nat.le_of_ble_eq_true rfl); try dsimp only [setn, addE, goneL] at H
      replace H := H.boxRow (cSl (cInt .u8)) true ([[], [], []] : List (List Int)) 15 rfl (fun _ HF_ => ⟨_, _, rfl, kSl_nil, ⟨_, _, rfl, kSl_nil, ⟨_, _, rfl, kSl_nil, rfl⟩⟩⟩) (Nat.le_of_ble_eq_true rfl); try dsimp only [setn, addE, goneL] at H
      replace H := H.boxRow (cInt .u8) true ([0, 0, 0] : List Int) 16 rfl (fun _ _ => ⟨_, _, rfl, rfl, ⟨_, _, rfl, rfl, ⟨_, _, rfl, rfl, rfl⟩⟩⟩) (Nat.le_of_ble_eq_true rfl); try dsimp only [setn, addE, goneL] at H
      obtain ⟨r243, h244, hP⟩ := bind_inv hP
      obtain ⟨Fa245, Hc246, hb247⟩ := H.call [] [(10, false), (11, false), (12, false), (14, false), (15, false), (16, false)] rfl rfl trivial
      refine e_call E rfl rfl Try.func14 rfl rfl rfl (law24_Same_calls A74 c75 A77 c78 A80 c81 (some ⟨g90, 0, none⟩) 3 (some ⟨g95, 0, none⟩) 3 (some ⟨g100, 0, none⟩) 3 r65.1.1 r65.1.2.1 r65.1.2.2.1 r65.1.2.2.2 false ([-1, -1, 0] : List Int) ([[], [], []] : List (List Int)) ([0, 0, 0] : List Int) (H.rcap 10 rfl) (H.rcap 11 rfl) (H.rcap 12 rfl) (H.rcapx 14 rfl) (H.rcapx 15 rfl) (H.rcapx 16 rfl) Hc246 h244) ?_
      rintro v248 w249 a ⟨rfl, HR250⟩ E_
      replace E := E_ _ rfl; clear E_
      obtain ⟨H_, hc251⟩ := hb247 _ _ HR250 rfl
      replace H := H_; clear H_; try dsimp only [setn, addE, goneL] at H
      refine vr tbok 2 [] [(9, .slice A126 (List.length r117.1) c127), (10, .int .i64 r117.2), (12, .int .i64 r134.2), (13, .bool r146.1), (14, .int .i64 r146.2), (16, .int .i64 r156.2), (18, .int .i64 r174.2), (20, .int .i64 r206.2), (98, .bool r243)] [] E (by kernel_rfl) trivial ?_
      clear E; intro a E
      refine E.cases (t := 98) rfl (fun hb_ E_ => ?_) (fun hb_ E_ => ?_)
      ·
       replace E := E_; clear E_
       have h252 : r243 = true := hb_
       clear hb_; replace hP := ite_t h252 hP
       refine vr tbok 1 [] [(10, .int .i64 r117.2), (12, .int .i64 r134.2), (13, .bool r146.1), (14, .int .i64 r146.2), (16, .int .i64 r156.2), (18, .int .i64 r174.2), (20, .int .i64 r206.2), (98, .bool true), (99, .slice A126 (List.length r117.1) c127)] [] E (by kernel_rfl) trivial ?_
       clear E; intro a E
       refine h_buildSlice (ps := [(0, .int .i64 0), (1, .int .i64 0), (2, .int .i64 1), (3, .int .i64 1)]) (cs := [.int .i64 0, .int .i64 0, .int .i64 1, .int .i64 1]) H E rfl rfl tbok rfl rfl (by kernel_rfl) ?_
       intro w254 g253 a hc255 hg257 H_ E_
       replace E := E_ _ rfl; clear E_
       replace H := H_; clear H_; try dsimp only [setn, addE, goneL] at H
       replace H := H.boxRow (cInt .i64) true ([0, 0, 1, 1] : List Int) 30 rfl (fun _ _ => ⟨_, _, rfl, rfl, ⟨_, _, rfl, rfl, ⟨_, _, rfl, rfl, ⟨_, _, rfl, rfl, rfl⟩⟩⟩⟩) (Nat.le_of_ble_eq_true rfl); try dsimp only [setn, addE, goneL] at H
       obtain ⟨r258, h259, hP⟩ := bind_inv hP
       obtain ⟨Fa260, Hc261, hb262⟩ := H.call [] [(19, false), (30, false)] rfl rfl trivial
       refine e_call E rfl rfl Try.func19 rfl rfl rfl (kit_SameInts_calls A126 c127 (some ⟨g253, 0, none⟩) 4 r117.1 ([0, 0, 1, 1] : List Int) (H.rcap 19 rfl) (H.rcapx 30 rfl) Hc261 h259) ?_
       rintro v263 w264 a ⟨rfl, HR265⟩ E_
       replace E := E_ _ rfl; clear E_
       obtain ⟨H_, hc266⟩ := hb262 _ _ HR265 rfl
       replace H := H_; clear H_; try dsimp only [setn, addE, goneL] at H
       refine vr tbok 2 [] [(10, .int .i64 r117.2), (12, .int .i64 r134.2), (13, .bool r146.1), (14, .int .i64 r146.2), (16, .int .i64 r156.2), (18, .int .i64 r174.2), (20, .int .i64 r206.2), (103, .bool r258)] [] E (by kernel_rfl) trivial ?_
       clear E; intro a E
       refine E.cases (t := 103) rfl (fun hb_ E_ => ?_) (fun hb_ E_ => ?_)
       ·
        replace E := E_; clear E_
        have h267 : r258 = true := hb_
        clear hb_; replace hP := ite_t h267 hP
        refine vr tbok 4 [] [(12, .int .i64 r134.2), (13, .bool r146.1), (14, .int .i64 r146.2), (16, .int .i64 r156.2), (18, .int .i64 r174.2), (20, .int .i64 r206.2), (107, .bool ((r117.2 : Int) == 0))] [] E (by kernel_rfl) trivial ?_
        clear E; intro a E
        refine E.cases (t := 107) rfl (fun hb_ E_ => ?_) (fun hb_ E_ => ?_)
        ·
         replace E := E_; clear E_
         have h268 : (r117.2 : Int) = 0 := eq_of_beq hb_
         clear hb_; replace hP := ite_t h268 hP
         refine vr tbok 4 [] [(13, .bool r146.1), (14, .int .i64 r146.2), (16, .int .i64 r156.2), (18, .int .i64 r174.2), (20, .int .i64 r206.2), (111, .bool ((r134.2 : Int) == 14))] [] E (by kernel_rfl) trivial ?_
         clear E; intro a E
         refine E.cases (t := 111) rfl (fun hb_ E_ => ?_) (fun hb_ E_ => ?_)
         ·
          replace E := E_; clear E_
          have h269 : (r134.2 : Int) = 14 := eq_of_beq hb_
          clear hb_; replace hP := ite_t h269 hP
          refine vr tbok 4 [] [(14, .int .i64 r146.2), (16, .int .i64 r156.2), (18, .int .i64 r174.2), (20, .int .i64 r206.2), (115, .bool (!r146.1))] [] E (by kernel_rfl) trivial ?_
          clear E; intro a E
          refine E.cases (t := 115) rfl (fun hb_ E_ => ?_) (fun hb_ E_ => ?_)
          ·
           replace E := E_; clear E_
           have h270 : ¬ (r146.1 = true) := (ne_true_of_eq_false (not_t hb_))
           clear hb_; replace hP := ite_f h270 hP
           refine vr tbok 4 [] [(16, .int .i64 r156.2), (18, .int .i64 r174.2), (20, .int .i64 r206.2), (119, .bool ((r146.2 : Int) == 0))] [] E (by kernel_rfl) trivial ?_
           clear E; intro a E
           refine E.cases (t := 119) rfl (fun hb_ E_ => ?_) (fun hb_ E_ => ?_)
           ·
            replace E := E_; clear E_
            have h271 : (r146.2 : Int) = 0 := eq_of_beq hb_
            clear hb_; replace hP := ite_t h271 hP
            refine vr tbok 4 [] [(18, .int .i64 r174.2), (20, .int .i64 r206.2), (123, .bool ((r156.2 : Int) == 340))] [] E (by kernel_rfl) trivial ?_
            clear E; intro a E
            refine E.cases (t := 123) rfl (fun hb_ E_ => ?_) (fun hb_ E_ => ?_)
            ·
             replace E := E_; clear E_
             have h272 : (r156.2 : Int) = 340 := eq_of_beq hb_
             clear hb_; replace hP := ite_t h272 hP
             refine vr tbok 4 [] [(20, .int .i64 r206.2), (127, .bool ((r174.2 : Int) == 3))] [] E (by kernel_rfl) trivial ?_
             clear E; intro a E
             refine E.cases (t := 127) rfl (fun hb_ E_ => ?_) (fun hb_ E_ => ?_)
             ·
              replace E := E_; clear E_
              have h273 : (r174.2 : Int) = 3 := eq_of_beq hb_
              clear hb_; replace hP := ite_t h273 hP
              refine vr tbok 4 [] [(131, .bool ((r206.2 : Int) == 13))] [] E (by kernel_rfl) trivial ?_
              clear E; intro a E
              refine E.cases (t := 131) rfl (fun hb_ E_ => ?_) (fun hb_ E_ => ?_)
              ·
               replace E := E_; clear E_
               have h274 : (r206.2 : Int) = 13 := eq_of_beq hb_
               clear hb_; replace hP := ite_t h274 hP
               refine vr tbok 2 [] [(0, .bool true)] [] E (by kernel_rfl) trivial ?_
               clear E; intro a E
               refine wpList_nil ?_
               refine th_n ?_
               refine wp_ret ?_
               obtain rfl := Option.some.inj hP
               refine ret1 E rfl rfl ?_
               exact ⟨_, rfl, rfl, H.sel [] rfl⟩
              ·
               replace E := E_; clear E_
               have h275 : ¬ ((r206.2 : Int) = 13) := ne_of_beq_false hb_
               clear hb_; replace hP := ite_f h275 hP
               refine vr tbok 2 [] [(0, .bool false)] [] E (by kernel_rfl) trivial ?_
               clear E; intro a E
               refine wpList_nil ?_
               refine th_n ?_
               refine wp_ret ?_
               obtain rfl := Option.some.inj hP
               refine ret1 E rfl rfl ?_
               exact ⟨_, rfl, rfl, H.sel [] rfl⟩
             ·
              replace E := E_; clear E_
              have h276 : ¬ ((r174.2 : Int) = 3) := ne_of_beq_false hb_
              clear hb_; replace hP := ite_f h276 hP
              refine vr tbok 6 [] [(0, .bool false)] [] E (by kernel_rfl) trivial ?_
              clear E; intro a E
              refine wpList_nil ?_
              refine th_n ?_
              refine wp_ret ?_
              obtain rfl := Option.some.inj hP
              refine ret1 E rfl rfl ?_
              exact ⟨_, rfl, rfl, H.sel [] rfl⟩
            ·
             replace E := E_; clear E_
             have h277 : ¬ ((r156.2 : Int) = 340) := ne_of_beq_false hb_
             clear hb_; replace hP := ite_f h277 hP
             refine vr tbok 10 [] [(0, .bool false)] [] E (by kernel_rfl) trivial ?_
             clear E; intro a E
             refine wpList_nil ?_
             refine th_n ?_
             refine wp_ret ?_
             obtain rfl := Option.some.inj hP
             refine ret1 E rfl rfl ?_
             exact ⟨_, rfl, rfl, H.sel [] rfl⟩
           ·
            replace E := E_; clear E_
            have h278 : ¬ ((r146.2 : Int) = 0) := ne_of_beq_false hb_
            clear hb_; replace hP := ite_f h278 hP
            refine vr tbok 14 [] [(0, .bool false)] [] E (by kernel_rfl) trivial ?_
            clear E; intro a E
            refine wpList_nil ?_
            refine th_n ?_
            refine wp_ret ?_
            obtain rfl := Option.some.inj hP
            refine ret1 E rfl rfl ?_
            exact ⟨_, rfl, rfl, H.sel [] rfl⟩
          ·
           replace E := E_; clear E_
           have h279 : r146.1 = true := (not_f hb_)
           clear hb_; replace hP := ite_t h279 hP
           refine vr tbok 18 [] [(0, .bool false)] [] E (by kernel_rfl) trivial ?_
           clear E; intro a E
           refine wpList_nil ?_
           refine th_n ?_
           refine wp_ret ?_
           obtain rfl := Option.some.inj hP
           refine ret1 E rfl rfl ?_
           exact ⟨_, rfl, rfl, H.sel [] rfl⟩
         ·
          replace E := E_; clear E_
          have h280 : ¬ ((r134.2 : Int) = 14) := ne_of_beq_false hb_
          clear hb_; replace hP := ite_f h280 hP
          refine vr tbok 22 [] [(0, .bool false)] [] E (by kernel_rfl) trivial ?_
          clear E; intro a E
          refine wpList_nil ?_
          refine th_n ?_
          refine wp_ret ?_
          obtain rfl := Option.some.inj hP
          refine ret1 E rfl rfl ?_
          exact ⟨_, rfl, rfl, H.sel [] rfl⟩
        ·
         replace E := E_; clear E_
         have h281 : ¬ ((r117.2 : Int) = 0) := ne_of_beq_false hb_
         clear hb_; replace hP := ite_f h281 hP
         refine vr tbok 26 [] [(0, .bool false)] [] E (by kernel_rfl) trivial ?_
         clear E; intro a E
         refine wpList_nil ?_
         refine th_n ?_
         refine wp_ret ?_
         obtain rfl := Option.some.inj hP
         refine ret1 E rfl rfl ?_
         exact ⟨_, rfl, rfl, H.sel [] rfl⟩
       ·
        replace E := E_; clear E_
        have h282 : ¬ (r258 = true) := (ne_true_of_eq_false hb_)
        clear hb_; replace hP := ite_f h282 hP
        refine vr tbok 30 [] [(0, .bool false)] [] E (by kernel_rfl) trivial ?_
        clear E; intro a E
        refine wpList_nil ?_
        refine th_n ?_
        refine wp_ret ?_
        obtain rfl := Option.some.inj hP
        refine ret1 E rfl rfl ?_
        exact ⟨_, rfl, rfl, H.sel [] rfl⟩
      ·
       replace E := E_; clear E_
       have h283 : ¬ (r243 = true) := (ne_true_of_eq_false hb_)
       clear hb_; replace hP := ite_f h283 hP
       refine vr tbok 35 [] [(0, .bool false)] [] E (by kernel_rfl) trivial ?_
       clear E; intro a E
       refine wpList_nil ?_
       refine th_n ?_
       refine wp_ret ?_
       obtain rfl := Option.some.inj hP
       refine ret1 E rfl rfl ?_
       exact ⟨_, rfl, rfl, H.sel [] rfl⟩
     ·
      replace E := E_; clear E_
      have h284 : ¬ ((r65.2 : Int) = 0) := ne_of_beq_false hb_
      clear hb_; replace hP := ite_f h284 hP
      refine vr tbok 40 [] [(0, .bool false)] [] E (by kernel_rfl) trivial ?_
      clear E; intro a E
      refine wpList_nil ?_
      refine th_n ?_
      refine wp_ret ?_
      obtain rfl := Option.some.inj hP
      refine ret1 E rfl rfl ?_
      exact ⟨_, rfl, rfl, H.sel [] rfl⟩
    ·
     replace E := E_; clear E_
     have h285 : ¬ ((r40.2 : Int) = 0) := ne_of_beq_false hb_
     clear hb_; replace hP := ite_f h285 hP
     refine vr tbok 44 [] [(0, .bool false)] [] E (by kernel_rfl) trivial ?_
     clear E; intro a E
     refine wpList_nil ?_
     refine th_n ?_
     refine wp_ret ?_
     obtain rfl := Option.some.inj hP
     refine ret1 E rfl rfl ?_
     exact ⟨_, rfl, rfl, H.sel [] rfl⟩
   ·
    replace E := E_; clear E_
    have h286 : ¬ (r231 = true) := (ne_true_of_eq_false hb_)
    clear hb_; replace hP := ite_f h286 hP
    refine vr tbok 48 [] [(0, .bool false)] [] E (by kernel_rfl) trivial ?_
    clear E; intro a E
    refine wpList_nil ?_
    refine th_n ?_
    refine wp_ret ?_
    obtain rfl := Option.some.inj hP
    refine ret1 E rfl rfl ?_
    exact ⟨_, rfl, rfl, H.sel [] rfl⟩

end Go.V
