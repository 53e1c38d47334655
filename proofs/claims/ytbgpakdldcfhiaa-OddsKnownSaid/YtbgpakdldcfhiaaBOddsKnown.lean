/- Plain functions, and the calls that give them. -/
import Derived.Test.YtbgpakdldcfhiaaA6
set_option linter.all false
set_option linter.unusedVariables false
set_option linter.unnecessarySimpa false
set_option linter.unusedSimpArgs false
namespace Go.V
open Go Go.Proofs
/-! rejoinder/rejoinderlaw27.OddsKnown -/
def law27_OddsKnown (N : Nat) : Option Bool :=
  Option.bind (law27_ending N) fun r1 =>
  Option.bind (odds_Letters N ([4598175219545276416] : List Nat)) fun r31 =>
  Option.bind (odds_Letters N []) fun r44 =>
  Option.bind (odds_After N r1.1 r1.2.1 r1.2.2.1 r1.2.2.2 ([4598175219545276416] : List Nat) 2) fun r61 =>
  Option.bind (odds_Within N r1.1 r1.2.1 r1.2.2.1 r1.2.2.2 ([4598175219545276416] : List Nat) 0) fun r78 =>
  Option.bind (odds_Letters N ([4609434218613702656] : List Nat)) fun r92 =>
  Option.bind (odds_Accept N r1.1 r1.2.1 r1.2.2.1 r1.2.2.2 ([4602678819172646912, 4602678819172646912] : List Nat) 1) fun r109 =>
  Option.bind (odds_Accept N r1.1 r1.2.1 r1.2.2.1 r1.2.2.2 ([4602678819172646912] : List Nat) (-1)) fun r123 =>
  Option.bind (law27_awake N) fun r132 =>
  if r132 = true then
    if (r31.2 : Int) = 0 then
      Option.bind (law27_same N r31.1 ([4604930618986332160, 4598175219545276416] : List Nat)) fun r148 =>
      if r148 = true then
        if (r44.2 : Int) = 0 then
          Option.bind (law27_same N r44.1 ([4607182418800017408] : List Nat)) fun r164 =>
          if r164 = true then
            if (r61.2 : Int) = 0 then
              Option.bind (law27_same N r61.1 ([4604930618986332160, 4598175219545276416] : List Nat)) fun r180 =>
              if r180 = true then
                if (fEq r78.1 0) = true then
                  if (r78.2 : Int) = 0 then
                    if (r92.2 : Int) = 2 then
                      if (r109.2 : Int) = 2 then
                        some ((r123.2 : Int) == 2)
                      else
                        some false
                    else
                      some false
                  else
                    some false
                else
                  some false
              else
                some false
            else
              some false
          else
            some false
        else
          some false
      else
        some false
    else
      some false
  else
    some false
set_option maxRecDepth 100000 in
set_option maxHeartbeats 4000000 in
theorem law27_OddsKnown_calls {N : Nat} {S Fa : Nat → Prop} {w0 : World} {r : Bool} (H : Hp S Fa w0 w0 []) (hP : law27_OddsKnown N  = some r) :
    Calls Try.prog 4 #[] w0 fun e w' => ∃ v, e = .returned v ∧ v = .bool r ∧ Hp S Fa w0 w' [] := by
 refine enterV (n := 103) Try.func4 rfl rfl rfl ?_
 intro a E
 replace E := E.pick [] trivial
 rw [law27_OddsKnown] at hP
 refine wp_seq ?_
 refine wp_region_lit ?_
 refine vr tbok 1 [] [] [] E (by kernel_rfl) trivial ?_
 clear E; intro a E
 refine wpList_nil ?_
 refine th_n ?_
 refine wp_seq ?_
 refine wp_region_lit ?_
 obtain ⟨r1, h2, hP⟩ := bind_inv hP
 obtain ⟨Fa3, Hc4, hb5⟩ := H.call [] [] rfl rfl trivial
 refine e_call E rfl rfl Try.func14 rfl rfl rfl (law27_ending_calls    Hc4 h2) ?_
 rintro v6 w7 a ⟨A10, c11, A13, c14, A16, c17, rfl, HR8⟩ E_
 replace E := E_ _ rfl; clear E_
 obtain ⟨H_, hc9⟩ := hb5 _ _ HR8 rfl
 replace H := H_; clear H_; try dsimp only [setn, addE, goneL] at H
 refine h_alloc H E rfl rfl tbok rfl ?_
 intro w20 g19 a hc21 hg23 H_ E_
 replace E := E_ _ rfl; clear E_
 replace H := H_; clear H_; try dsimp only [setn, addE, goneL] at H
 refine h_store (g := g19) (off := 0) H 3 rfl E rfl rfl rfl rfl tbok rfl rfl rfl rfl rfl ?_
 clear E; intro w24 a hc25 H_ E
 replace H := H_; clear H_; try dsimp only [setn, addE, goneL] at H
 refine wpList_nil ?_
 refine th_n ?_
 refine wp_seq ?_
 refine wp_region_lit ?_
 refine h_buildSlice (ps := [(0, .float .f64 4598175219545276416)]) (cs := [.float .f64 4598175219545276416]) H E rfl rfl tbok rfl rfl (by kernel_rfl) ?_
 intro w27 g26 a hc28 hg30 H_ E_
 replace E := E_ _ rfl; clear E_
 replace H := H_; clear H_; try dsimp only [setn, addE, goneL] at H
 replace H := H.boxRow cFl true ([4598175219545276416] : List Nat) 4 rfl (fun _ _ => ⟨_, _, rfl, rfl, rfl⟩) (Nat.le_of_ble_eq_true rfl); try dsimp only [setn, addE, goneL] at H
 obtain ⟨r31, h32, hP⟩ := bind_inv hP
 obtain ⟨Fa33, Hc34, hb35⟩ := H.call [] [(4, false)] rfl rfl trivial
 refine e_call E rfl rfl Try.func15 rfl rfl rfl (odds_Letters_calls (some ⟨g26, 0, none⟩) 1 ([4598175219545276416] : List Nat) (H.rcapx 4 rfl) Hc34 h32) ?_
 rintro v36 w37 a ⟨A40, c41, rfl, HR38⟩ E_
 replace E := E_ _ rfl; clear E_
 obtain ⟨H_, hc39⟩ := hb35 _ _ HR38 rfl
 replace H := H_; clear H_; try dsimp only [setn, addE, goneL] at H
 refine vr tbok 5 [] [(1, .pointer (some ⟨g19, 0, none⟩)), (2, .slice A40 (List.length r31.1) c41), (3, .int .i64 r31.2)] [] E (by kernel_rfl) trivial ?_
 clear E; intro a E
 refine wpList_nil ?_
 refine th_n ?_
 refine wp_seq ?_
 refine wp_region_lit ?_
 replace H := H.nilrow cFl 33; try dsimp only [setn, addE, goneL] at H
 obtain ⟨r44, h45, hP⟩ := bind_inv hP
 obtain ⟨Fa46, Hc47, hb48⟩ := H.call [] [(6, false)] rfl rfl trivial
 refine e_call E rfl rfl Try.func15 rfl rfl rfl (odds_Letters_calls none 0 [] (Nat.le_refl _) Hc47 h45) ?_
 rintro v49 w50 a ⟨A53, c54, rfl, HR51⟩ E_
 replace E := E_ _ rfl; clear E_
 obtain ⟨H_, hc52⟩ := hb48 _ _ HR51 rfl
 replace H := H_; clear H_; try dsimp only [setn, addE, goneL] at H
 refine vr tbok 5 [] [(1, .pointer (some ⟨g19, 0, none⟩)), (2, .slice A40 (List.length r31.1) c41), (3, .int .i64 r31.2), (4, .slice A53 (List.length r44.1) c54), (5, .int .i64 r44.2)] [] E (by kernel_rfl) trivial ?_
 clear E; intro a E
 refine wpList_nil ?_
 refine th_n ?_
 refine wp_seq ?_
 refine wp_region_lit ?_
 refine vr tbok 1 [.agg #[.int .i64 r1.1, .slice A10 (List.length r1.2.1) c11, .slice A13 (List.length r1.2.2.1) c14, .slice A16 (List.length r1.2.2.2) c17]] [(1, .pointer (some ⟨g19, 0, none⟩)), (2, .slice A40 (List.length r31.1) c41), (3, .int .i64 r31.2), (4, .slice A53 (List.length r44.1) c54), (5, .int .i64 r44.2), (27, .agg #[.int .i64 r1.1, .slice A10 (List.length r1.2.1) c11, .slice A13 (List.length r1.2.2.1) c14, .slice A16 (List.length r1.2.2.2) c17])] [cellsAt w50 g19 (0) [.int .i64 r1.1, .slice A10 (List.length r1.2.1) c11, .slice A13 (List.length r1.2.2.1) c14, .slice A16 (List.length r1.2.2.2) c17]] E (by kernel_rfl) ((H.box 3 rfl).sub 0 _ rfl) ?_
 clear E; intro a E
 refine h_buildSlice (ps := [(0, .float .f64 4598175219545276416)]) (cs := [.float .f64 4598175219545276416]) H E rfl rfl tbok rfl rfl (by kernel_rfl) ?_
 intro w57 g56 a hc58 hg60 H_ E_
 replace E := E_ _ rfl; clear E_
 replace H := H_; clear H_; try dsimp only [setn, addE, goneL] at H
 replace H := H.boxRow cFl true ([4598175219545276416] : List Nat) 8 rfl (fun _ _ => ⟨_, _, rfl, rfl, rfl⟩) (Nat.le_of_ble_eq_true rfl); try dsimp only [setn, addE, goneL] at H
 obtain ⟨r61, h62, hP⟩ := bind_inv hP
 obtain ⟨Fa63, Hc64, hb65⟩ := H.call [] [(0, false), (1, false), (2, false), (8, false)] rfl rfl trivial
 refine e_call E rfl rfl Try.func12 rfl rfl rfl (odds_After_calls A10 c11 A13 c14 A16 c17 (some ⟨g56, 0, none⟩) 1 r1.1 r1.2.1 r1.2.2.1 r1.2.2.2 ([4598175219545276416] : List Nat) 2 (H.rcap 0 rfl) (H.rcap 1 rfl) (H.rcap 2 rfl) (H.rcapx 8 rfl) Hc64 h62) ?_
 rintro v66 w67 a ⟨A70, c71, rfl, HR68⟩ E_
 replace E := E_ _ rfl; clear E_
 obtain ⟨H_, hc69⟩ := hb65 _ _ HR68 rfl
 replace H := H_; clear H_; try dsimp only [setn, addE, goneL] at H
 refine vr tbok 5 [] [(1, .pointer (some ⟨g19, 0, none⟩)), (2, .slice A40 (List.length r31.1) c41), (3, .int .i64 r31.2), (4, .slice A53 (List.length r44.1) c54), (5, .int .i64 r44.2), (6, .slice A70 (List.length r61.1) c71), (7, .int .i64 r61.2)] [] E (by kernel_rfl) trivial ?_
 clear E; intro a E
 refine wpList_nil ?_
 refine th_n ?_
 refine wp_seq ?_
 refine wp_region_lit ?_
 refine vr tbok 1 [.agg #[.int .i64 r1.1, .slice A10 (List.length r1.2.1) c11, .slice A13 (List.length r1.2.2.1) c14, .slice A16 (List.length r1.2.2.2) c17]] [(1, .pointer (some ⟨g19, 0, none⟩)), (2, .slice A40 (List.length r31.1) c41), (3, .int .i64 r31.2), (4, .slice A53 (List.length r44.1) c54), (5, .int .i64 r44.2), (6, .slice A70 (List.length r61.1) c71), (7, .int .i64 r61.2), (33, .agg #[.int .i64 r1.1, .slice A10 (List.length r1.2.1) c11, .slice A13 (List.length r1.2.2.1) c14, .slice A16 (List.length r1.2.2.2) c17])] [cellsAt w67 g19 (0) [.int .i64 r1.1, .slice A10 (List.length r1.2.1) c11, .slice A13 (List.length r1.2.2.1) c14, .slice A16 (List.length r1.2.2.2) c17]] E (by kernel_rfl) ((H.box 3 rfl).sub 0 _ rfl) ?_
 clear E; intro a E
 refine h_buildSlice (ps := [(0, .float .f64 4598175219545276416)]) (cs := [.float .f64 4598175219545276416]) H E rfl rfl tbok rfl rfl (by kernel_rfl) ?_
 intro w74 g73 a hc75 hg77 H_ E_
 replace E := E_ _ rfl; clear E_
 replace H := H_; clear H_; try dsimp only [setn, addE, goneL] at H
 replace H := H.boxRow cFl true ([4598175219545276416] : List Nat) 10 rfl (fun _ _ => ⟨_, _, rfl, rfl, rfl⟩) (Nat.le_of_ble_eq_true rfl); try dsimp only [setn, addE, goneL] at H
 obtain ⟨r78, h79, hP⟩ := bind_inv hP
 obtain ⟨Fa80, Hc81, hb82⟩ := H.call [] [(0, false), (1, false), (2, false), (10, false)] rfl rfl trivial
 refine e_call E rfl rfl Try.func11 rfl rfl rfl (odds_Within_calls A10 c11 A13 c14 A16 c17 (some ⟨g73, 0, none⟩) 1 r1.1 r1.2.1 r1.2.2.1 r1.2.2.2 ([4598175219545276416] : List Nat) 0 (H.rcap 0 rfl) (H.rcap 1 rfl) (H.rcap 2 rfl) (H.rcapx 10 rfl) Hc81 h79) ?_
 rintro v83 w84 a ⟨rfl, HR85⟩ E_
 replace E := E_ _ rfl; clear E_
 obtain ⟨H_, hc86⟩ := hb82 _ _ HR85 rfl
 replace H := H_; clear H_; try dsimp only [setn, addE, goneL] at H
 refine vr tbok 5 [] [(1, .pointer (some ⟨g19, 0, none⟩)), (2, .slice A40 (List.length r31.1) c41), (3, .int .i64 r31.2), (4, .slice A53 (List.length r44.1) c54), (5, .int .i64 r44.2), (6, .slice A70 (List.length r61.1) c71), (7, .int .i64 r61.2), (8, .float .f64 r78.1), (9, .int .i64 r78.2)] [] E (by kernel_rfl) trivial ?_
 clear E; intro a E
 refine wpList_nil ?_
 refine th_n ?_
 refine wp_seq ?_
 refine wp_region_lit ?_
 refine h_buildSlice (ps := [(0, .float .f64 4609434218613702656)]) (cs := [.float .f64 4609434218613702656]) H E rfl rfl tbok rfl rfl (by kernel_rfl) ?_
 intro w88 g87 a hc89 hg91 H_ E_
 replace E := E_ _ rfl; clear E_
 replace H := H_; clear H_; try dsimp only [setn, addE, goneL] at H
 replace H := H.boxRow cFl true ([4609434218613702656] : List Nat) 11 rfl (fun _ _ => ⟨_, _, rfl, rfl, rfl⟩) (Nat.le_of_ble_eq_true rfl); try dsimp only [setn, addE, goneL] at H
 obtain ⟨r92, h93, hP⟩ := bind_inv hP
 obtain ⟨Fa94, Hc95, hb96⟩ := H.call [] [(11, false)] rfl rfl trivial
 refine e_call E rfl rfl Try.func15 rfl rfl rfl (odds_Letters_calls (some ⟨g87, 0, none⟩) 1 ([4609434218613702656] : List Nat) (H.rcapx 11 rfl) Hc95 h93) ?_
 rintro v97 w98 a ⟨A101, c102, rfl, HR99⟩ E_
 replace E := E_ _ rfl; clear E_
 obtain ⟨H_, hc100⟩ := hb96 _ _ HR99 rfl
 replace H := H_; clear H_; try dsimp only [setn, addE, goneL] at H
 refine vr tbok 5 [] [(1, .pointer (some ⟨g19, 0, none⟩)), (2, .slice A40 (List.length r31.1) c41), (3, .int .i64 r31.2), (4, .slice A53 (List.length r44.1) c54), (5, .int .i64 r44.2), (6, .slice A70 (List.length r61.1) c71), (7, .int .i64 r61.2), (8, .float .f64 r78.1), (9, .int .i64 r78.2), (11, .int .i64 r92.2)] [] E (by kernel_rfl) trivial ?_
 clear E; intro a E
 refine wpList_nil ?_
 refine th_n ?_
 refine wp_seq ?_
 refine wp_region_lit ?_
 refine vr tbok 1 [.agg #[.int .i64 r1.1, .slice A10 (List.length r1.2.1) c11, .slice A13 (List.length r1.2.2.1) c14, .slice A16 (List.length r1.2.2.2) c17]] [(1, .pointer (some ⟨g19, 0, none⟩)), (2, .slice A40 (List.length r31.1) c41), (3, .int .i64 r31.2), (4, .slice A53 (List.length r44.1) c54), (5, .int .i64 r44.2), (6, .slice A70 (List.length r61.1) c71), (7, .int .i64 r61.2), (8, .float .f64 r78.1), (9, .int .i64 r78.2), (11, .int .i64 r92.2), (44, .agg #[.int .i64 r1.1, .slice A10 (List.length r1.2.1) c11, .slice A13 (List.length r1.2.2.1) c14, .slice A16 (List.length r1.2.2.2) c17])] [cellsAt w98 g19 (0) [.int .i64 r1.1, .slice A10 (List.length r1.2.1) c11, .slice A13 (List.length r1.2.2.1) c14, .slice A16 (List.length r1.2.2.2) c17]] E (by kernel_rfl) ((H.box 3 rfl).sub 0 _ rfl) ?_
 clear E; intro a E
 refine h_buildSlice (ps := [(0, .float .f64 4602678819172646912), (1, .float .f64 4602678819172646912)]) (cs := [.float .f64 4602678819172646912, .float .f64 4602678819172646912]) H E rfl rfl tbok rfl rfl (by kernel_rfl) ?_
 intro w105 g104 a hc106 hg108 H_ E_
 replace E := E_ _ rfl; clear E_
 replace H := H_; clear H_; try dsimp only [setn, addE, goneL] at H
 replace H := H.boxRow cFl true ([4602678819172646912, 4602678819172646912] : List Nat) 13 rfl (fun _ _ => ⟨_, _, rfl, rfl, ⟨_, _, rfl, rfl, rfl⟩⟩) (Nat.le_of_ble_eq_true rfl); try dsimp only [setn, addE, goneL] at H
 obtain ⟨r109, h110, hP⟩ := bind_inv hP
 obtain ⟨Fa111, Hc112, hb113⟩ := H.call [] [(0, false), (1, false), (2, false), (13, false)] rfl rfl trivial
 refine e_call E rfl rfl Try.func16 rfl rfl rfl (odds_Accept_calls A10 c11 A13 c14 A16 c17 (some ⟨g104, 0, none⟩) 2 r1.1 r1.2.1 r1.2.2.1 r1.2.2.2 ([4602678819172646912, 4602678819172646912] : List Nat) 1 (H.rcap 0 rfl) (H.rcap 1 rfl) (H.rcap 2 rfl) (H.rcapx 13 rfl) Hc112 h110) ?_
 rintro v114 w115 a ⟨rfl, HR116⟩ E_
 replace E := E_ _ rfl; clear E_
 obtain ⟨H_, hc117⟩ := hb113 _ _ HR116 rfl
 replace H := H_; clear H_; try dsimp only [setn, addE, goneL] at H
 refine vr tbok 5 [] [(1, .pointer (some ⟨g19, 0, none⟩)), (2, .slice A40 (List.length r31.1) c41), (3, .int .i64 r31.2), (4, .slice A53 (List.length r44.1) c54), (5, .int .i64 r44.2), (6, .slice A70 (List.length r61.1) c71), (7, .int .i64 r61.2), (8, .float .f64 r78.1), (9, .int .i64 r78.2), (11, .int .i64 r92.2), (13, .int .i64 r109.2)] [] E (by kernel_rfl) trivial ?_
 clear E; intro a E
 refine wpList_nil ?_
 refine th_n ?_
 refine wp_seq ?_
 refine wp_region_lit ?_
 refine vr tbok 1 [.agg #[.int .i64 r1.1, .slice A10 (List.length r1.2.1) c11, .slice A13 (List.length r1.2.2.1) c14, .slice A16 (List.length r1.2.2.2) c17]] [(2, .slice A40 (List.length r31.1) c41), (3, .int .i64 r31.2), (4, .slice A53 (List.length r44.1) c54), (5, .int .i64 r44.2), (6, .slice A70 (List.length r61.1) c71), (7, .int .i64 r61.2), (8, .float .f64 r78.1), (9, .int .i64 r78.2), (11, .int .i64 r92.2), (13, .int .i64 r109.2), (50, .agg #[.int .i64 r1.1, .slice A10 (List.length r1.2.1) c11, .slice A13 (List.length r1.2.2.1) c14, .slice A16 (List.length r1.2.2.2) c17])] [cellsAt w115 g19 (0) [.int .i64 r1.1, .slice A10 (List.length r1.2.1) c11, .slice A13 (List.length r1.2.2.1) c14, .slice A16 (List.length r1.2.2.2) c17]] E (by kernel_rfl) ((H.box 3 rfl).sub 0 _ rfl) ?_
 clear E; intro a E
 refine h_buildSlice (ps := [(0, .float .f64 4602678819172646912)]) (cs := [.float .f64 4602678819172646912]) H E rfl rfl tbok rfl rfl (by kernel_rfl) ?_
 intro w119 g118 a hc120 hg122 H_ E_
 replace E := E_ _ rfl; clear E_
 replace H := H_; clear H_; try dsimp only [setn, addE, goneL] at H
 replace H := H.boxRow cFl true ([4602678819172646912] : List Nat) 14 rfl (fun _ _ => ⟨_, _, rfl, rfl, rfl⟩) (Nat.le_of_ble_eq_true rfl); try dsimp only [setn, addE, goneL] at H
 obtain ⟨r123, h124, hP⟩ := bind_inv hP
 obtain ⟨Fa125, Hc126, hb127⟩ := H.call [] [(0, false), (1, false), (2, false), (14, false)] rfl rfl trivial
 refine e_call E rfl rfl Try.func16 rfl rfl rfl (odds_Accept_calls A10 c11 A13 c14 A16 c17 (some ⟨g118, 0, none⟩) 1 r1.1 r1.2.1 r1.2.2.1 r1.2.2.2 ([4602678819172646912] : List Nat) (-1) (H.rcap 0 rfl) (H.rcap 1 rfl) (H.rcap 2 rfl) (H.rcapx 14 rfl) Hc126 h124) ?_
 rintro v128 w129 a ⟨rfl, HR130⟩ E_
 replace E := E_ _ rfl; clear E_
 obtain ⟨H_, hc131⟩ := hb127 _ _ HR130 rfl
 replace H := H_; clear H_; try dsimp only [setn, addE, goneL] at H
 refine vr tbok 5 [] [(2, .slice A40 (List.length r31.1) c41), (3, .int .i64 r31.2), (4, .slice A53 (List.length r44.1) c54), (5, .int .i64 r44.2), (6, .slice A70 (List.length r61.1) c71), (7, .int .i64 r61.2), (8, .float .f64 r78.1), (9, .int .i64 r78.2), (11, .int .i64 r92.2), (13, .int .i64 r109.2), (15, .int .i64 r123.2)] [] E (by kernel_rfl) trivial ?_
 clear E; intro a E
 refine wpList_nil ?_
 refine th_n ?_
 refine wp_seq ?_
 refine wp_region_lit ?_
 obtain ⟨r132, h133, hP⟩ := bind_inv hP
 obtain ⟨Fa134, Hc135, hb136⟩ := H.call [] [] rfl rfl trivial
 refine e_call E rfl rfl Try.func7 rfl rfl rfl (law27_awake_calls    Hc135 h133) ?_
 rintro v137 w138 a ⟨rfl, HR139⟩ E_
 replace E := E_ _ rfl; clear E_
 obtain ⟨H_, hc140⟩ := hb136 _ _ HR139 rfl
 replace H := H_; clear H_; try dsimp only [setn, addE, goneL] at H
 refine vr tbok 1 [] [(2, .slice A40 (List.length r31.1) c41), (3, .int .i64 r31.2), (4, .slice A53 (List.length r44.1) c54), (5, .int .i64 r44.2), (6, .slice A70 (List.length r61.1) c71), (7, .int .i64 r61.2), (8, .float .f64 r78.1), (9, .int .i64 r78.2), (11, .int .i64 r92.2), (13, .int .i64 r109.2), (15, .int .i64 r123.2), (56, .bool r132)] [] E (by kernel_rfl) trivial ?_
 clear E; intro a E
 refine E.cases (t := 56) rfl (fun hb_ E_ => ?_) (fun hb_ E_ => ?_)
 ·
  replace E := E_; clear E_
  have h141 : r132 = true := hb_
  clear hb_; replace hP := ite_t h141 hP
  refine vr tbok 4 [] [(2, .slice A40 (List.length r31.1) c41), (4, .slice A53 (List.length r44.1) c54), (5, .int .i64 r44.2), (6, .slice A70 (List.length r61.1) c71), (7, .int .i64 r61.2), (8, .float .f64 r78.1), (9, .int .i64 r78.2), (11, .int .i64 r92.2), (13, .int .i64 r109.2), (15, .int .i64 r123.2), (60, .bool ((r31.2 : Int) == 0))] [] E (by kernel_rfl) trivial ?_
  clear E; intro a E
  refine E.cases (t := 60) rfl (fun hb_ E_ => ?_) (fun hb_ E_ => ?_)
  ·
   replace E := E_; clear E_
   have h142 : (r31.2 : Int) = 0 := eq_of_beq hb_
   clear hb_; replace hP := ite_t h142 hP
   refine vr tbok 1 [] [(4, .slice A53 (List.length r44.1) c54), (5, .int .i64 r44.2), (6, .slice A70 (List.length r61.1) c71), (7, .int .i64 r61.2), (8, .float .f64 r78.1), (9, .int .i64 r78.2), (11, .int .i64 r92.2), (13, .int .i64 r109.2), (15, .int .i64 r123.2), (60, .bool true), (61, .slice A40 (List.length r31.1) c41)] [] E (by kernel_rfl) trivial ?_
   clear E; intro a E
   refine h_buildSlice (ps := [(0, .float .f64 4604930618986332160), (1, .float .f64 4598175219545276416)]) (cs := [.float .f64 4604930618986332160, .float .f64 4598175219545276416]) H E rfl rfl tbok rfl rfl (by kernel_rfl) ?_
   intro w144 g143 a hc145 hg147 H_ E_
   replace E := E_ _ rfl; clear E_
   replace H := H_; clear H_; try dsimp only [setn, addE, goneL] at H
   replace H := H.boxRow cFl true ([4604930618986332160, 4598175219545276416] : List Nat) 15 rfl (fun _ _ => ⟨_, _, rfl, rfl, ⟨_, _, rfl, rfl, rfl⟩⟩) (Nat.le_of_ble_eq_true rfl); try dsimp only [setn, addE, goneL] at H
   obtain ⟨r148, h149, hP⟩ := bind_inv hP
   obtain ⟨Fa150, Hc151, hb152⟩ := H.call [] [(5, false), (15, false)] rfl rfl trivial
   refine e_call E rfl rfl Try.func17 rfl rfl rfl (law27_same_calls A40 c41 (some ⟨g143, 0, none⟩) 2 r31.1 ([4604930618986332160, 4598175219545276416] : List Nat) (H.rcap 5 rfl) (H.rcapx 15 rfl) Hc151 h149) ?_
   rintro v153 w154 a ⟨rfl, HR155⟩ E_
   replace E := E_ _ rfl; clear E_
   obtain ⟨H_, hc156⟩ := hb152 _ _ HR155 rfl
   replace H := H_; clear H_; try dsimp only [setn, addE, goneL] at H
   refine vr tbok 2 [] [(4, .slice A53 (List.length r44.1) c54), (5, .int .i64 r44.2), (6, .slice A70 (List.length r61.1) c71), (7, .int .i64 r61.2), (8, .float .f64 r78.1), (9, .int .i64 r78.2), (11, .int .i64 r92.2), (13, .int .i64 r109.2), (15, .int .i64 r123.2), (65, .bool r148)] [] E (by kernel_rfl) trivial ?_
   clear E; intro a E
   refine E.cases (t := 65) rfl (fun hb_ E_ => ?_) (fun hb_ E_ => ?_)
   ·
    replace E := E_; clear E_
    have h157 : r148 = true := hb_
    clear hb_; replace hP := ite_t h157 hP
    refine vr tbok 4 [] [(4, .slice A53 (List.length r44.1) c54), (6, .slice A70 (List.length r61.1) c71), (7, .int .i64 r61.2), (8, .float .f64 r78.1), (9, .int .i64 r78.2), (11, .int .i64 r92.2), (13, .int .i64 r109.2), (15, .int .i64 r123.2), (69, .bool ((r44.2 : Int) == 0))] [] E (by kernel_rfl) trivial ?_
    clear E; intro a E
    refine E.cases (t := 69) rfl (fun hb_ E_ => ?_) (fun hb_ E_ => ?_)
    ·
     replace E := E_; clear E_
     have h158 : (r44.2 : Int) = 0 := eq_of_beq hb_
     clear hb_; replace hP := ite_t h158 hP
     refine vr tbok 1 [] [(6, .slice A70 (List.length r61.1) c71), (7, .int .i64 r61.2), (8, .float .f64 r78.1), (9, .int .i64 r78.2), (11, .int .i64 r92.2), (13, .int .i64 r109.2), (15, .int .i64 r123.2), (69, .bool true), (70, .slice A53 (List.length r44.1) c54)] [] E (by kernel_rfl) trivial ?_
     clear E; intro a E
     refine h_buildSlice (ps := [(0, .float .f64 4607182418800017408)]) (cs := [.float .f64 4607182418800017408]) H E rfl rfl tbok rfl rfl (by kernel_rfl) ?_
     intro w160 g159 a hc161 hg163 H_ E_
     replace E := E_ _ rfl; clear E_
     replace H := H_; clear H_; try dsimp only [setn, addE, goneL] at H
     replace H := H.boxRow cFl true ([4607182418800017408] : List Nat) 16 rfl (fun _ _ => ⟨_, _, rfl, rfl, rfl⟩) (Nat.le_of_ble_eq_true rfl); try dsimp only [setn, addE, goneL] at H
     obtain ⟨r164, h165, hP⟩ := bind_inv hP
     obtain ⟨Fa166, Hc167, hb168⟩ := H.call [] [(7, false), (16, false)] rfl rfl trivial
     refine e_call E rfl rfl Try.func17 rfl rfl rfl (law27_same_calls A53 c54 (some ⟨g159, 0, none⟩) 1 r44.1 ([4607182418800017408] : List Nat) (H.rcap 7 rfl) (H.rcapx 16 rfl) Hc167 h165) ?_
     rintro v169 w170 a ⟨rfl, HR171⟩ E_
     replace E := E_ _ rfl; clear E_
     obtain ⟨H_, hc172⟩ := hb168 _ _ HR171 rfl
     replace H := H_; clear H_; try dsimp only [setn, addE, goneL] at H
     refine vr tbok 2 [] [(6, .slice A70 (List.length r61.1) c71), (7, .int .i64 r61.2), (8, .float .f64 r78.1), (9, .int .i64 r78.2), (11, .int .i64 r92.2), (13, .int .i64 r109.2), (15, .int .i64 r123.2), (74, .bool r164)] [] E (by kernel_rfl) trivial ?_
     clear E; intro a E
     refine E.cases (t := 74) rfl (fun hb_ E_ => ?_) (fun hb_ E_ => ?_)
     ·
      replace E := E_; clear E_
      have h173 : r164 = true := hb_
      clear hb_; replace hP := ite_t h173 hP
      refine vr tbok 4 [] [(6, .slice A70 (List.length r61.1) c71), (8, .float .f64 r78.1), (9, .int .i64 r78.2), (11, .int .i64 r92.2), (13, .int .i64 r109.2), (15, .int .i64 r123.2), (78, .bool ((r61.2 : Int) == 0))] [] E (by kernel_rfl) trivial ?_
      clear E; intro a E
      refine E.cases (t := 78) rfl (fun hb_ E_ => ?_) (fun hb_ E_ => ?_)
      ·
       replace E := E_; clear E_
       have h174 : (r61.2 : Int) = 0 := eq_of_beq hb_
       clear hb_; replace hP := ite_t h174 hP
       refine vr tbok 1 [] [(8, .float .f64 r78.1), (9, .int .i64 r78.2), (11, .int .i64 r92.2), (13, .int .i64 r109.2), (15, .int .i64 r123.2), (78, .bool true), (79, .slice A70 (List.length r61.1) c71)] [] E (by kernel_rfl) trivial ?_
       clear E; intro a E
       refine h_buildSlice (ps := [(0, .float .f64 4604930618986332160), (1, .float .f64 4598175219545276416)]) (cs := [.float .f64 4604930618986332160, .float .f64 4598175219545276416]) H E rfl rfl tbok rfl rfl (by kernel_rfl) ?_
       intro w176 g175 a hc177 hg179 H_ E_
       replace E := E_ _ rfl; clear E_
       replace H := H_; clear H_; try dsimp only [setn, addE, goneL] at H
       replace H := H.boxRow cFl true ([4604930618986332160, 4598175219545276416] : List Nat) 17 rfl (fun _ _ => ⟨_, _, rfl, rfl, ⟨_, _, rfl, rfl, rfl⟩⟩) (Nat.le_of_ble_eq_true rfl); try dsimp only [setn, addE, goneL] at H
       obtain ⟨r180, h181, hP⟩ := bind_inv hP
       obtain ⟨Fa182, Hc183, hb184⟩ := H.call [] [(9, false), (17, false)] rfl rfl trivial
       refine e_call E rfl rfl Try.func17 rfl rfl rfl (law27_same_calls A70 c71 (some ⟨g175, 0, none⟩) 2 r61.1 ([4604930618986332160, 4598175219545276416] : List Nat) (H.rcap 9 rfl) (H.rcapx 17 rfl) Hc183 h181) ?_
       rintro v185 w186 a ⟨rfl, HR187⟩ E_
       replace E := E_ _ rfl; clear E_
       obtain ⟨H_, hc188⟩ := hb184 _ _ HR187 rfl
       replace H := H_; clear H_; try dsimp only [setn, addE, goneL] at H
       refine vr tbok 2 [] [(8, .float .f64 r78.1), (9, .int .i64 r78.2), (11, .int .i64 r92.2), (13, .int .i64 r109.2), (15, .int .i64 r123.2), (83, .bool r180)] [] E (by kernel_rfl) trivial ?_
       clear E; intro a E
       refine E.cases (t := 83) rfl (fun hb_ E_ => ?_) (fun hb_ E_ => ?_)
       ·
        replace E := E_; clear E_
        have h189 : r180 = true := hb_
        clear hb_; replace hP := ite_t h189 hP
        refine vr tbok 4 [] [(9, .int .i64 r78.2), (11, .int .i64 r92.2), (13, .int .i64 r109.2), (15, .int .i64 r123.2), (87, .bool (fEq r78.1 0))] [] E (by kernel_rfl) trivial ?_
        clear E; intro a E
        refine E.cases (t := 87) rfl (fun hb_ E_ => ?_) (fun hb_ E_ => ?_)
        ·
         replace E := E_; clear E_
         have h190 : (fEq r78.1 0) = true := hb_
         clear hb_; replace hP := ite_t h190 hP
         refine vr tbok 4 [] [(11, .int .i64 r92.2), (13, .int .i64 r109.2), (15, .int .i64 r123.2), (91, .bool ((r78.2 : Int) == 0))] [] E (by kernel_rfl) trivial ?_
         clear E; intro a E
         refine E.cases (t := 91) rfl (fun hb_ E_ => ?_) (fun hb_ E_ => ?_)
         ·
          replace E := E_; clear E_
          have h191 : (r78.2 : Int) = 0 := eq_of_beq hb_
          clear hb_; replace hP := ite_t h191 hP
          refine vr tbok 4 [] [(13, .int .i64 r109.2), (15, .int .i64 r123.2), (95, .bool ((r92.2 : Int) == 2))] [] E (by kernel_rfl) trivial ?_
          clear E; intro a E
          refine E.cases (t := 95) rfl (fun hb_ E_ => ?_) (fun hb_ E_ => ?_)
          ·
           replace E := E_; clear E_
           have h192 : (r92.2 : Int) = 2 := eq_of_beq hb_
           clear hb_; replace hP := ite_t h192 hP
           refine vr tbok 4 [] [(15, .int .i64 r123.2), (99, .bool ((r109.2 : Int) == 2))] [] E (by kernel_rfl) trivial ?_
           clear E; intro a E
           refine E.cases (t := 99) rfl (fun hb_ E_ => ?_) (fun hb_ E_ => ?_)
           ·
            replace E := E_; clear E_
            have h193 : (r109.2 : Int) = 2 := eq_of_beq hb_
            clear hb_; replace hP := ite_t h193 hP
            refine vr tbok 4 [] [(0, .bool ((r123.2 : Int) == 2))] [] E (by kernel_rfl) trivial ?_
            clear E; intro a E
            refine wpList_nil ?_
            refine th_n ?_
            refine wp_ret ?_
            obtain rfl := Option.some.inj hP
            refine ret1 E rfl rfl ?_
            exact ⟨_, rfl, rfl, H.sel [] rfl⟩
           replace E := E_; clear E_
           have h194 : ¬ ((r109.2 : Int) = 2) := ne_of_beq_false hb_
           clear hb_; replace hP := ite_f h194 hP
           refine vr tbok 4 [] [(0, .bool false)] [] E (by kernel_rfl) trivial ?_
           clear E; intro a E
           refine wpList_nil ?_
           refine th_n ?_
           refine wp_ret ?_
           obtain rfl := Option.some.inj hP
           refine ret1 E rfl rfl ?_
           exact ⟨_, rfl, rfl, H.sel [] rfl⟩
          replace E := E_; clear E_
          have h195 : ¬ ((r92.2 : Int) = 2) := ne_of_beq_false hb_
          clear hb_; replace hP := ite_f h195 hP
          refine vr tbok 8 [] [(0, .bool false)] [] E (by kernel_rfl) trivial ?_
          clear E; intro a E
          refine wpList_nil ?_
          refine th_n ?_
          refine wp_ret ?_
          obtain rfl := Option.some.inj hP
          refine ret1 E rfl rfl ?_
          exact ⟨_, rfl, rfl, H.sel [] rfl⟩
         replace E := E_; clear E_
         have h196 : ¬ ((r78.2 : Int) = 0) := ne_of_beq_false hb_
         clear hb_; replace hP := ite_f h196 hP
         refine vr tbok 12 [] [(0, .bool false)] [] E (by kernel_rfl) trivial ?_
         clear E; intro a E
         refine wpList_nil ?_
         refine th_n ?_
         refine wp_ret ?_
         obtain rfl := Option.some.inj hP
         refine ret1 E rfl rfl ?_
         exact ⟨_, rfl, rfl, H.sel [] rfl⟩
        replace E := E_; clear E_
        have h197 : ¬ ((fEq r78.1 0) = true) := (ne_true_of_eq_false hb_)
        clear hb_; replace hP := ite_f h197 hP
        refine vr tbok 16 [] [(0, .bool false)] [] E (by kernel_rfl) trivial ?_
        clear E; intro a E
        refine wpList_nil ?_
        refine th_n ?_
        refine wp_ret ?_
        obtain rfl := Option.some.inj hP
        refine ret1 E rfl rfl ?_
        exact ⟨_, rfl, rfl, H.sel [] rfl⟩
       replace E := E_; clear E_
       have h198 : ¬ (r180 = true) := (ne_true_of_eq_false hb_)
       clear hb_; replace hP := ite_f h198 hP
       refine vr tbok 20 [] [(0, .bool false)] [] E (by kernel_rfl) trivial ?_
       clear E; intro a E
       refine wpList_nil ?_
       refine th_n ?_
       refine wp_ret ?_
       obtain rfl := Option.some.inj hP
       refine ret1 E rfl rfl ?_
       exact ⟨_, rfl, rfl, H.sel [] rfl⟩
      replace E := E_; clear E_
      have h199 : ¬ ((r61.2 : Int) = 0) := ne_of_beq_false hb_
      clear hb_; replace hP := ite_f h199 hP
      refine vr tbok 25 [] [(0, .bool false)] [] E (by kernel_rfl) trivial ?_
      clear E; intro a E
      refine wpList_nil ?_
      refine th_n ?_
      refine wp_ret ?_
      obtain rfl := Option.some.inj hP
      refine ret1 E rfl rfl ?_
      exact ⟨_, rfl, rfl, H.sel [] rfl⟩
     replace E := E_; clear E_
     have h200 : ¬ (r164 = true) := (ne_true_of_eq_false hb_)
     clear hb_; replace hP := ite_f h200 hP
     refine vr tbok 29 [] [(0, .bool false)] [] E (by kernel_rfl) trivial ?_
     clear E; intro a E
     refine wpList_nil ?_
     refine th_n ?_
     refine wp_ret ?_
     obtain rfl := Option.some.inj hP
     refine ret1 E rfl rfl ?_
     exact ⟨_, rfl, rfl, H.sel [] rfl⟩
    replace E := E_; clear E_
    have h201 : ¬ ((r44.2 : Int) = 0) := ne_of_beq_false hb_
    clear hb_; replace hP := ite_f h201 hP
    refine vr tbok 34 [] [(0, .bool false)] [] E (by kernel_rfl) trivial ?_
    clear E; intro a E
    refine wpList_nil ?_
    refine th_n ?_
    refine wp_ret ?_
    obtain rfl := Option.some.inj hP
    refine ret1 E rfl rfl ?_
    exact ⟨_, rfl, rfl, H.sel [] rfl⟩
   replace E := E_; clear E_
   have h202 : ¬ (r148 = true) := (ne_true_of_eq_false hb_)
   clear hb_; replace hP := ite_f h202 hP
   refine vr tbok 38 [] [(0, .bool false)] [] E (by kernel_rfl) trivial ?_
   clear E; intro a E
   refine wpList_nil ?_
   refine th_n ?_
   refine wp_ret ?_
   obtain rfl := Option.some.inj hP
   refine ret1 E rfl rfl ?_
   exact ⟨_, rfl, rfl, H.sel [] rfl⟩
  replace E := E_; clear E_
  have h203 : ¬ ((r31.2 : Int) = 0) := ne_of_beq_false hb_
  clear hb_; replace hP := ite_f h203 hP
  refine vr tbok 43 [] [(0, .bool false)] [] E (by kernel_rfl) trivial ?_
  clear E; intro a E
  refine wpList_nil ?_
  refine th_n ?_
  refine wp_ret ?_
  obtain rfl := Option.some.inj hP
  refine ret1 E rfl rfl ?_
  exact ⟨_, rfl, rfl, H.sel [] rfl⟩
 replace E := E_; clear E_
 have h204 : ¬ (r132 = true) := (ne_true_of_eq_false hb_)
 clear hb_; replace hP := ite_f h204 hP
 refine vr tbok 47 [] [(0, .bool false)] [] E (by kernel_rfl) trivial ?_
 clear E; intro a E
 refine wpList_nil ?_
 refine th_n ?_
 refine wp_ret ?_
 obtain rfl := Option.some.inj hP
 refine ret1 E rfl rfl ?_
 exact ⟨_, rfl, rfl, H.sel [] rfl⟩

end Go.V
