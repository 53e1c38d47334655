/- Plain functions, and the calls that give them. -/
import Derived.Test.YteemfefeaphfdaaA6
set_option linter.all false
set_option linter.unusedVariables false
set_option linter.unnecessarySimpa false
set_option linter.unusedSimpArgs false
namespace Go.V
open Go Go.Proofs
/-! rejoinder/rejoinderlaw19.LangKnown -/
def law19_LangKnown_j0 (N : Nat) (r24 : Bool × Int) (r52 : Bool × Int) (r79 : (List Int) × Bool × Int) (r109 : (List Int) × Bool × Int) (r139 : (List Int) × Bool × Int) : Option Bool :=
    if r24.1 = true then
      some false
    else
      if (r24.2 : Int) = 0 then
        if r52.1 = true then
          some false
        else
          if (r52.2 : Int) = 0 then
            Option.bind (kit_SameLetters N r79.1 ([0] : List Int)) fun r492 =>
            if r492 = true then
              if r79.2.1 = true then
                if (r79.2.2 : Int) = 0 then
                  if r109.2.1 = true then
                    some false
                  else
                    if (r109.2.2 : Int) = 0 then
                      Option.bind (kit_SameLetters N r139.1 ([0] : List Int)) fun r511 =>
                      if r511 = true then
                        if r139.2.1 = true then
                          some ((r139.2.2 : Int) == 0)
                        else
                          some false
                      else
                        some false
                    else
                      some false
                else
                  some false
              else
                some false
            else
              some false
          else
            some false
      else
        some false
def law19_LangKnown_j1 (N : Nat) (r169 : Int × Int) (r196 : Int × Int) (r223 : (List Int) × Int) (r253 : (List Bool) × Int) (r283 : (List Bool) × Int) : Option Bool :=
    if (r169.1 : Int) = 18446744073709551615 then
      if (r169.2 : Int) = 0 then
        if (r196.2 : Int) = 15 then
          Option.bind (kit_SameInts N r223.1 ([0, 1] : List Int)) fun r605 =>
          if r605 = true then
            if (r223.2 : Int) = 0 then
              Option.bind (kit_SameBools N r253.1 ([true, true] : List Bool)) fun r621 =>
              if r621 = true then
                if (r253.2 : Int) = 0 then
                  Option.bind (kit_SameBools N r283.1 ([false] : List Bool)) fun r637 =>
                  if r637 = true then
                    some ((r283.2 : Int) == 0)
                  else
                    some false
                else
                  some false
              else
                some false
            else
              some false
          else
            some false
        else
          some false
      else
        some false
    else
      some false
def law19_LangKnown_j2 (N : Nat) (r313 : (List (List Int)) × Int) (r348 : Bool × Int) (r375 : Int × Int) (r402 : (List (List Int)) × Int) (r418 : Bool × Int) : Option Bool :=
    Option.bind (law19_words N r313.1 ([[1], [0, 1], [1, 0], [1, 1]] : List (List Int))) fun r738 =>
    if r738 = true then
      if (r313.2 : Int) = 0 then
        if (r348.2 : Int) = 2 then
          if (r375.2 : Int) = 2 then
            if (r402.2 : Int) = 2 then
              some ((r418.2 : Int) == 12)
            else
              some false
          else
            some false
        else
          some false
      else
        some false
    else
      some false
def law19_LangKnown (N : Nat) : Option Bool :=
  Option.bind (law19_Finally N) fun r1 =>
  Option.bind (lang_Accepts N r1.1 r1.2.1 r1.2.2.1 r1.2.2.2 ([0, 0] : List Int)) fun r24 =>
  Option.bind (law19_Finally N) fun r33 =>
  Option.bind (lang_Accepts N r33.1 r33.2.1 r33.2.2.1 r33.2.2.2 []) fun r52 =>
  Option.bind (law19_Finally N) fun r61 =>
  Option.bind (lang_Missing N r61.1 r61.2.1 r61.2.2.1 r61.2.2.2) fun r79 =>
  Option.bind (law19_None N) fun r91 =>
  Option.bind (lang_Shortest N r91.1 r91.2.1 r91.2.2.1 r91.2.2.2) fun r109 =>
  Option.bind (law19_None N) fun r121 =>
  Option.bind (lang_Missing N r121.1 r121.2.1 r121.2.2.1 r121.2.2.2) fun r139 =>
  Option.bind (law19_Finally N) fun r151 =>
  Option.bind (lang_Count N r151.1 r151.2.1 r151.2.2.1 r151.2.2.2 64) fun r169 =>
  Option.bind (law19_Finally N) fun r178 =>
  Option.bind (lang_Count N r178.1 r178.2.1 r178.2.2.1 r178.2.2.2 65) fun r196 =>
  Option.bind (law19_Finally N) fun r205 =>
  Option.bind (lang_Reach N r205.1 r205.2.1 r205.2.2.1 r205.2.2.2) fun r223 =>
  Option.bind (law19_Finally N) fun r235 =>
  Option.bind (lang_Live N r235.1 r235.2.1 r235.2.2.1 r235.2.2.2) fun r253 =>
  Option.bind (law19_None N) fun r265 =>
  Option.bind (lang_Live N r265.1 r265.2.1 r265.2.2.1 r265.2.2.2) fun r283 =>
  Option.bind (law19_Finally N) fun r295 =>
  Option.bind (lang_Words N r295.1 r295.2.1 r295.2.2.1 r295.2.2.2 2) fun r313 =>
  Option.bind (law19_Finally N) fun r325 =>
  Option.bind (lang_Accepts N r325.1 r325.2.1 r325.2.2.1 r325.2.2.2 ([2] : List Int)) fun r348 =>
  Option.bind (law19_Finally N) fun r357 =>
  Option.bind (lang_Count N r357.1 r357.2.1 r357.2.2.1 r357.2.2.2 1025) fun r375 =>
  Option.bind (law19_Finally N) fun r384 =>
  Option.bind (lang_Words N r384.1 r384.2.1 r384.2.2.1 r384.2.2.2 4) fun r402 =>
  Option.bind (lang_Accepts N 0 [] [] [] []) fun r418 =>
  Option.bind (law19_LangKnown_j0 N r24 r52 r79 r109 r139) fun x478 =>
  Option.bind (law19_LangKnown_j1 N r169 r196 r223 r253 r283) fun x592 =>
  Option.bind (law19_LangKnown_j2 N r313 r348 r375 r402 r418) fun x704 =>
  Option.bind (law19_awake N) fun r757 =>
  if r757 = true then
    if x478 = true then
      if x592 = true then
        if x704 = true then
          some true
        else
          some false
      else
        some false
    else
      some false
  else
    some false
set_option maxRecDepth 100000 in
set_option maxHeartbeats 4000000 in
theorem law19_LangKnown_calls {N : Nat} {S Fa : Nat → Prop} {w0 : World} {r : Bool} (H : Hp S Fa w0 w0 []) (hP : law19_LangKnown N  = some r) :
    Calls Try.prog 6 #[] w0 fun e w' => ∃ v, e = .returned v ∧ v = .bool r ∧ Hp S Fa w0 w' [] := by
 refine enterV (n := 241) Try.func6 rfl rfl rfl ?_
 intro a E
 replace E := E.pick [] trivial
 rw [law19_LangKnown] at hP
 refine wp_seq ?_
 refine wp_region_lit ?_
 refine vn tbok 1 [] [] [] E (by kernel_rfl) (by kernel_rfl) trivial ?_
 clear E; intro a E
 refine wpList_nil ?_
 refine th_n ?_
 refine wp_seq ?_
 refine wp_region_lit ?_
 obtain ⟨r1, h2, hP⟩ := bind_inv hP
 obtain ⟨Fa3, Hc4, hb5⟩ := H.call [] [] rfl rfl trivial
 refine e_call E rfl rfl Try.func34 rfl rfl rfl (law19_Finally_calls    Hc4 h2) ?_
 rintro v6 w7 a ⟨A10, c11, A13, c14, A16, c17, rfl, HR8⟩ E_
 replace E := E_ _ rfl; clear E_
 obtain ⟨H_, hc9⟩ := hb5 _ _ HR8 rfl
 replace H := H_; clear H_; try dsimp only [setn, addE, goneL] at H
 refine h_buildSlice (ps := [(0, .int .u8 0), (1, .int .u8 0)]) (cs := [.int .u8 0, .int .u8 0]) H E rfl rfl tbok rfl rfl (by kernel_rfl) ?_
 intro w20 g19 a hc21 hg23 H_ E_
 replace E := E_ _ rfl; clear E_
 replace H := H_; clear H_; try dsimp only [setn, addE, goneL] at H
 replace H := H.boxRow (cInt .u8) true ([0, 0] : List Int) 3 rfl (fun _ _ => ⟨_, _, rfl, rfl, ⟨_, _, rfl, rfl, rfl⟩⟩) (Nat.le_of_ble_eq_true rfl); try dsimp only [setn, addE, goneL] at H
 obtain ⟨r24, h25, hP⟩ := bind_inv hP
 obtain ⟨Fa26, Hc27, hb28⟩ := H.call [] [(0, false), (1, false), (2, false), (3, false)] rfl rfl trivial
 refine e_call E rfl rfl Try.func12 rfl rfl rfl (lang_Accepts_calls A10 c11 A13 c14 A16 c17 (some ⟨g19, 0, none⟩) 2 r1.1 r1.2.1 r1.2.2.1 r1.2.2.2 ([0, 0] : List Int) (H.rcap 0 rfl) (H.rcap 1 rfl) (H.rcap 2 rfl) (H.rcapx 3 rfl) Hc27 h25) ?_
 rintro v29 w30 a ⟨rfl, HR31⟩ E_
 replace E := E_ _ rfl; clear E_
 obtain ⟨H_, hc32⟩ := hb28 _ _ HR31 rfl
 replace H := H_; clear H_; try dsimp only [setn, addE, goneL] at H
 refine vn tbok 5 [] [(1, .bool r24.1), (2, .int .i64 r24.2)] [] E (by kernel_rfl) (by kernel_rfl) trivial ?_
 clear E; intro a E
 refine wpList_nil ?_
 refine th_n ?_
 refine wp_seq ?_
 refine wp_region_lit ?_
 obtain ⟨r33, h34, hP⟩ := bind_inv hP
 obtain ⟨Fa35, Hc36, hb37⟩ := H.call [] [] rfl rfl trivial
 refine e_call E rfl rfl Try.func34 rfl rfl rfl (law19_Finally_calls    Hc36 h34) ?_
 rintro v38 w39 a ⟨A42, c43, A45, c46, A48, c49, rfl, HR40⟩ E_
 replace E := E_ _ rfl; clear E_
 obtain ⟨H_, hc41⟩ := hb37 _ _ HR40 rfl
 replace H := H_; clear H_; try dsimp only [setn, addE, goneL] at H
 replace H := H.nilrow (cInt .u8) 52; try dsimp only [setn, addE, goneL] at H
 obtain ⟨r52, h53, hP⟩ := bind_inv hP
 obtain ⟨Fa54, Hc55, hb56⟩ := H.call [] [(4, false), (5, false), (6, false), (7, false)] rfl rfl trivial
 refine e_call E rfl rfl Try.func12 rfl rfl rfl (lang_Accepts_calls A42 c43 A45 c46 A48 c49 none 0 r33.1 r33.2.1 r33.2.2.1 r33.2.2.2 [] (H.rcap 4 rfl) (H.rcap 5 rfl) (H.rcap 6 rfl) (Nat.le_refl _) Hc55 h53) ?_
 rintro v57 w58 a ⟨rfl, HR59⟩ E_
 replace E := E_ _ rfl; clear E_
 obtain ⟨H_, hc60⟩ := hb56 _ _ HR59 rfl
 replace H := H_; clear H_; try dsimp only [setn, addE, goneL] at H
 refine vn tbok 5 [] [(3, .bool r52.1), (4, .int .i64 r52.2)] [] E (by kernel_rfl) (by kernel_rfl) trivial ?_
 clear E; intro a E
 refine wpList_nil ?_
 refine th_n ?_
 refine wp_seq ?_
 refine wp_region_lit ?_
 obtain ⟨r61, h62, hP⟩ := bind_inv hP
 obtain ⟨Fa63, Hc64, hb65⟩ := H.call [] [] rfl rfl trivial
 refine e_call E rfl rfl Try.func34 rfl rfl rfl (law19_Finally_calls    Hc64 h62) ?_
 rintro v66 w67 a ⟨A70, c71, A73, c74, A76, c77, rfl, HR68⟩ E_
 replace E := E_ _ rfl; clear E_
 obtain ⟨H_, hc69⟩ := hb65 _ _ HR68 rfl
 replace H := H_; clear H_; try dsimp only [setn, addE, goneL] at H
 obtain ⟨r79, h80, hP⟩ := bind_inv hP
 obtain ⟨Fa81, Hc82, hb83⟩ := H.call [] [(8, false), (9, false), (10, false)] rfl rfl trivial
 refine e_call E rfl rfl Try.func14 rfl rfl rfl (lang_Missing_calls A70 c71 A73 c74 A76 c77 r61.1 r61.2.1 r61.2.2.1 r61.2.2.2 (H.rcap 8 rfl) (H.rcap 9 rfl) (H.rcap 10 rfl) Hc82 h80) ?_
 rintro v84 w85 a ⟨A88, c89, rfl, HR86⟩ E_
 replace E := E_ _ rfl; clear E_
 obtain ⟨H_, hc87⟩ := hb83 _ _ HR86 rfl
 replace H := H_; clear H_; try dsimp only [setn, addE, goneL] at H
 refine vn tbok 7 [] [(5, .slice A88 (List.length r79.1) c89), (6, .bool r79.2.1), (7, .int .i64 r79.2.2)] [] E (by kernel_rfl) (by kernel_rfl) trivial ?_
 clear E; intro a E
 refine wpList_nil ?_
 refine th_n ?_
 refine wp_seq ?_
 refine wp_region_lit ?_
 obtain ⟨r91, h92, hP⟩ := bind_inv hP
 obtain ⟨Fa93, Hc94, hb95⟩ := H.call [] [] rfl rfl trivial
 refine e_call E rfl rfl Try.func35 rfl rfl rfl (law19_None_calls    Hc94 h92) ?_
 rintro v96 w97 a ⟨A100, c101, A103, c104, A106, c107, rfl, HR98⟩ E_
 replace E := E_ _ rfl; clear E_
 obtain ⟨H_, hc99⟩ := hb95 _ _ HR98 rfl
 replace H := H_; clear H_; try dsimp only [setn, addE, goneL] at H
 obtain ⟨r109, h110, hP⟩ := bind_inv hP
 obtain ⟨Fa111, Hc112, hb113⟩ := H.call [] [(12, false), (13, false), (14, false)] rfl rfl trivial
 refine e_call E rfl rfl Try.func13 rfl rfl rfl (lang_Shortest_calls A100 c101 A103 c104 A106 c107 r91.1 r91.2.1 r91.2.2.1 r91.2.2.2 (H.rcap 12 rfl) (H.rcap 13 rfl) (H.rcap 14 rfl) Hc112 h110) ?_
 rintro v114 w115 a ⟨A118, c119, rfl, HR116⟩ E_
 replace E := E_ _ rfl; clear E_
 obtain ⟨H_, hc117⟩ := hb113 _ _ HR116 rfl
 replace H := H_; clear H_; try dsimp only [setn, addE, goneL] at H
 refine vn tbok 7 [] [(9, .bool r109.2.1), (10, .int .i64 r109.2.2)] [] E (by kernel_rfl) (by kernel_rfl) trivial ?_
 clear E; intro a E
 refine wpList_nil ?_
 refine th_n ?_
 refine wp_seq ?_
 refine wp_region_lit ?_
 obtain ⟨r121, h122, hP⟩ := bind_inv hP
 obtain ⟨Fa123, Hc124, hb125⟩ := H.call [] [] rfl rfl trivial
 refine e_call E rfl rfl Try.func35 rfl rfl rfl (law19_None_calls    Hc124 h122) ?_
 rintro v126 w127 a ⟨A130, c131, A133, c134, A136, c137, rfl, HR128⟩ E_
 replace E := E_ _ rfl; clear E_
 obtain ⟨H_, hc129⟩ := hb125 _ _ HR128 rfl
 replace H := H_; clear H_; try dsimp only [setn, addE, goneL] at H
 obtain ⟨r139, h140, hP⟩ := bind_inv hP
 obtain ⟨Fa141, Hc142, hb143⟩ := H.call [] [(16, false), (17, false), (18, false)] rfl rfl trivial
 refine e_call E rfl rfl Try.func14 rfl rfl rfl (lang_Missing_calls A130 c131 A133 c134 A136 c137 r121.1 r121.2.1 r121.2.2.1 r121.2.2.2 (H.rcap 16 rfl) (H.rcap 17 rfl) (H.rcap 18 rfl) Hc142 h140) ?_
 rintro v144 w145 a ⟨A148, c149, rfl, HR146⟩ E_
 replace E := E_ _ rfl; clear E_
 obtain ⟨H_, hc147⟩ := hb143 _ _ HR146 rfl
 replace H := H_; clear H_; try dsimp only [setn, addE, goneL] at H
 refine vn tbok 7 [] [(11, .slice A148 (List.length r139.1) c149), (12, .bool r139.2.1), (13, .int .i64 r139.2.2)] [] E (by kernel_rfl) (by kernel_rfl) trivial ?_
 clear E; intro a E
 refine wpList_nil ?_
 refine th_n ?_
 refine wp_seq ?_
 refine wp_region_lit ?_
 obtain ⟨r151, h152, hP⟩ := bind_inv hP
 obtain ⟨Fa153, Hc154, hb155⟩ := H.call [] [] rfl rfl trivial
 refine e_call E rfl rfl Try.func34 rfl rfl rfl (law19_Finally_calls    Hc154 h152) ?_
 rintro v156 w157 a ⟨A160, c161, A163, c164, A166, c167, rfl, HR158⟩ E_
 replace E := E_ _ rfl; clear E_
 obtain ⟨H_, hc159⟩ := hb155 _ _ HR158 rfl
 replace H := H_; clear H_; try dsimp only [setn, addE, goneL] at H
 obtain ⟨r169, h170, hP⟩ := bind_inv hP
 obtain ⟨Fa171, Hc172, hb173⟩ := H.call [] [(20, false), (21, false), (22, false)] rfl rfl trivial
 refine e_call E rfl rfl Try.func17 rfl rfl rfl (lang_Count_calls A160 c161 A163 c164 A166 c167 r151.1 r151.2.1 r151.2.2.1 r151.2.2.2 64 (H.rcap 20 rfl) (H.rcap 21 rfl) (H.rcap 22 rfl) Hc172 h170) ?_
 rintro v174 w175 a ⟨rfl, HR176⟩ E_
 replace E := E_ _ rfl; clear E_
 obtain ⟨H_, hc177⟩ := hb173 _ _ HR176 rfl
 replace H := H_; clear H_; try dsimp only [setn, addE, goneL] at H
 refine vn tbok 5 [] [(14, .int .u64 r169.1), (15, .int .i64 r169.2)] [] E (by kernel_rfl) (by kernel_rfl) trivial ?_
 clear E; intro a E
 refine wpList_nil ?_
 refine th_n ?_
 refine wp_seq ?_
 refine wp_region_lit ?_
 obtain ⟨r178, h179, hP⟩ := bind_inv hP
 obtain ⟨Fa180, Hc181, hb182⟩ := H.call [] [] rfl rfl trivial
 refine e_call E rfl rfl Try.func34 rfl rfl rfl (law19_Finally_calls    Hc181 h179) ?_
 rintro v183 w184 a ⟨A187, c188, A190, c191, A193, c194, rfl, HR185⟩ E_
 replace E := E_ _ rfl; clear E_
 obtain ⟨H_, hc186⟩ := hb182 _ _ HR185 rfl
 replace H := H_; clear H_; try dsimp only [setn, addE, goneL] at H
 obtain ⟨r196, h197, hP⟩ := bind_inv hP
 obtain ⟨Fa198, Hc199, hb200⟩ := H.call [] [(23, false), (24, false), (25, false)] rfl rfl trivial
 refine e_call E rfl rfl Try.func17 rfl rfl rfl (lang_Count_calls A187 c188 A190 c191 A193 c194 r178.1 r178.2.1 r178.2.2.1 r178.2.2.2 65 (H.rcap 23 rfl) (H.rcap 24 rfl) (H.rcap 25 rfl) Hc199 h197) ?_
 rintro v201 w202 a ⟨rfl, HR203⟩ E_
 replace E := E_ _ rfl; clear E_
 obtain ⟨H_, hc204⟩ := hb200 _ _ HR203 rfl
 replace H := H_; clear H_; try dsimp only [setn, addE, goneL] at H
 refine vn tbok 5 [] [(17, .int .i64 r196.2)] [] E (by kernel_rfl) (by kernel_rfl) trivial ?_
 clear E; intro a E
 refine wpList_nil ?_
 refine th_n ?_
 refine wp_seq ?_
 refine wp_region_lit ?_
 obtain ⟨r205, h206, hP⟩ := bind_inv hP
 obtain ⟨Fa207, Hc208, hb209⟩ := H.call [] [] rfl rfl trivial
 refine e_call E rfl rfl Try.func34 rfl rfl rfl (law19_Finally_calls    Hc208 h206) ?_
 rintro v210 w211 a ⟨A214, c215, A217, c218, A220, c221, rfl, HR212⟩ E_
 replace E := E_ _ rfl; clear E_
 obtain ⟨H_, hc213⟩ := hb209 _ _ HR212 rfl
 replace H := H_; clear H_; try dsimp only [setn, addE, goneL] at H
 obtain ⟨r223, h224, hP⟩ := bind_inv hP
 obtain ⟨Fa225, Hc226, hb227⟩ := H.call [] [(26, false), (27, false), (28, false)] rfl rfl trivial
 refine e_call E rfl rfl Try.func19 rfl rfl rfl (lang_Reach_calls A214 c215 A217 c218 A220 c221 r205.1 r205.2.1 r205.2.2.1 r205.2.2.2 (H.rcap 26 rfl) (H.rcap 27 rfl) (H.rcap 28 rfl) Hc226 h224) ?_
 rintro v228 w229 a ⟨A232, c233, rfl, HR230⟩ E_
 replace E := E_ _ rfl; clear E_
 obtain ⟨H_, hc231⟩ := hb227 _ _ HR230 rfl
 replace H := H_; clear H_; try dsimp only [setn, addE, goneL] at H
 refine vn tbok 5 [] [(18, .slice A232 (List.length r223.1) c233), (19, .int .i64 r223.2)] [] E (by kernel_rfl) (by kernel_rfl) trivial ?_
 clear E; intro a E
 refine wpList_nil ?_
 refine th_n ?_
 refine wp_seq ?_
 refine wp_region_lit ?_
 obtain ⟨r235, h236, hP⟩ := bind_inv hP
 obtain ⟨Fa237, Hc238, hb239⟩ := H.call [] [] rfl rfl trivial
 refine e_call E rfl rfl Try.func34 rfl rfl rfl (law19_Finally_calls    Hc238 h236) ?_
 rintro v240 w241 a ⟨A244, c245, A247, c248, A250, c251, rfl, HR242⟩ E_
 replace E := E_ _ rfl; clear E_
 obtain ⟨H_, hc243⟩ := hb239 _ _ HR242 rfl
 replace H := H_; clear H_; try dsimp only [setn, addE, goneL] at H
 obtain ⟨r253, h254, hP⟩ := bind_inv hP
 obtain ⟨Fa255, Hc256, hb257⟩ := H.call [] [(30, false), (31, false), (32, false)] rfl rfl trivial
 refine e_call E rfl rfl Try.func18 rfl rfl rfl (lang_Live_calls A244 c245 A247 c248 A250 c251 r235.1 r235.2.1 r235.2.2.1 r235.2.2.2 (H.rcap 30 rfl) (H.rcap 31 rfl) (H.rcap 32 rfl) Hc256 h254) ?_
 rintro v258 w259 a ⟨A262, c263, rfl, HR260⟩ E_
 replace E := E_ _ rfl; clear E_
 obtain ⟨H_, hc261⟩ := hb257 _ _ HR260 rfl
 replace H := H_; clear H_; try dsimp only [setn, addE, goneL] at H
 refine vn tbok 5 [] [(20, .slice A262 (List.length r253.1) c263), (21, .int .i64 r253.2)] [] E (by kernel_rfl) (by kernel_rfl) trivial ?_
 clear E; intro a E
 refine wpList_nil ?_
 refine th_n ?_
 refine wp_seq ?_
 refine wp_region_lit ?_
 obtain ⟨r265, h266, hP⟩ := bind_inv hP
 obtain ⟨Fa267, Hc268, hb269⟩ := H.call [] [] rfl rfl trivial
 refine e_call E rfl rfl Try.func35 rfl rfl rfl (law19_None_calls    Hc268 h266) ?_
 rintro v270 w271 a ⟨A274, c275, A277, c278, A280, c281, rfl, HR272⟩ E_
 replace E := E_ _ rfl; clear E_
 obtain ⟨H_, hc273⟩ := hb269 _ _ HR272 rfl
 replace H := H_; clear H_; try dsimp only [setn, addE, goneL] at H
 obtain ⟨r283, h284, hP⟩ := bind_inv hP
 obtain ⟨Fa285, Hc286, hb287⟩ := H.call [] [(34, false), (35, false), (36, false)] rfl rfl trivial
 refine e_call E rfl rfl Try.func18 rfl rfl rfl (lang_Live_calls A274 c275 A277 c278 A280 c281 r265.1 r265.2.1 r265.2.2.1 r265.2.2.2 (H.rcap 34 rfl) (H.rcap 35 rfl) (H.rcap 36 rfl) Hc286 h284) ?_
 rintro v288 w289 a ⟨A292, c293, rfl, HR290⟩ E_
 replace E := E_ _ rfl; clear E_
 obtain ⟨H_, hc291⟩ := hb287 _ _ HR290 rfl
 replace H := H_; clear H_; try dsimp only [setn, addE, goneL] at H
 refine vn tbok 5 [] [(22, .slice A292 (List.length r283.1) c293), (23, .int .i64 r283.2)] [] E (by kernel_rfl) (by kernel_rfl) trivial ?_
 clear E; intro a E
 refine wpList_nil ?_
 refine th_n ?_
 refine wp_seq ?_
 refine wp_region_lit ?_
 obtain ⟨r295, h296, hP⟩ := bind_inv hP
 obtain ⟨Fa297, Hc298, hb299⟩ := H.call [] [] rfl rfl trivial
 refine e_call E rfl rfl Try.func34 rfl rfl rfl (law19_Finally_calls    Hc298 h296) ?_
 rintro v300 w301 a ⟨A304, c305, A307, c308, A310, c311, rfl, HR302⟩ E_
 replace E := E_ _ rfl; clear E_
 obtain ⟨H_, hc303⟩ := hb299 _ _ HR302 rfl
 replace H := H_; clear H_; try dsimp only [setn, addE, goneL] at H
 obtain ⟨r313, h314, hP⟩ := bind_inv hP
 obtain ⟨Fa315, Hc316, hb317⟩ := H.call [] [(38, false), (39, false), (40, false)] rfl rfl trivial
 refine e_call E rfl rfl Try.func16 rfl rfl rfl (lang_Words_calls A304 c305 A307 c308 A310 c311 r295.1 r295.2.1 r295.2.2.1 r295.2.2.2 2 (H.rcap 38 rfl) (H.rcap 39 rfl) (H.rcap 40 rfl) Hc316 h314) ?_
 rintro v318 w319 a ⟨A322, c323, rfl, HR320⟩ E_
 replace E := E_ _ rfl; clear E_
 obtain ⟨H_, hc321⟩ := hb317 _ _ HR320 rfl
 replace H := H_; clear H_; try dsimp only [setn, addE, goneL] at H
 refine vn tbok 5 [] [(24, .slice A322 (List.length r313.1) c323), (25, .int .i64 r313.2)] [] E (by kernel_rfl) (by kernel_rfl) trivial ?_
 clear E; intro a E
 refine wpList_nil ?_
 refine th_n ?_
 refine wp_seq ?_
 refine wp_region_lit ?_
 obtain ⟨r325, h326, hP⟩ := bind_inv hP
 obtain ⟨Fa327, Hc328, hb329⟩ := H.call [] [] rfl rfl trivial
 refine e_call E rfl rfl Try.func34 rfl rfl rfl (law19_Finally_calls    Hc328 h326) ?_
 rintro v330 w331 a ⟨A334, c335, A337, c338, A340, c341, rfl, HR332⟩ E_
 replace E := E_ _ rfl; clear E_
 obtain ⟨H_, hc333⟩ := hb329 _ _ HR332 rfl
 replace H := H_; clear H_; try dsimp only [setn, addE, goneL] at H
 refine h_buildSlice (ps := [(0, .int .u8 2)]) (cs := [.int .u8 2]) H E rfl rfl tbok rfl rfl (by kernel_rfl) ?_
 intro w344 g343 a hc345 hg347 H_ E_
 replace E := E_ _ rfl; clear E_
 replace H := H_; clear H_; try dsimp only [setn, addE, goneL] at H
 replace H := H.boxRow (cInt .u8) true ([2] : List Int) 45 rfl (fun _ _ => ⟨_, _, rfl, rfl, rfl⟩) (Nat.le_of_ble_eq_true rfl); try dsimp only [setn, addE, goneL] at H
 obtain ⟨r348, h349, hP⟩ := bind_inv hP
 obtain ⟨Fa350, Hc351, hb352⟩ := H.call [] [(42, false), (43, false), (44, false), (45, false)] rfl rfl trivial
 refine e_call E rfl rfl Try.func12 rfl rfl rfl (lang_Accepts_calls A334 c335 A337 c338 A340 c341 (some ⟨g343, 0, none⟩) 1 r325.1 r325.2.1 r325.2.2.1 r325.2.2.2 ([2] : List Int) (H.rcap 42 rfl) (H.rcap 43 rfl) (H.rcap 44 rfl) (H.rcapx 45 rfl) Hc351 h349) ?_
 rintro v353 w354 a ⟨rfl, HR355⟩ E_
 replace E := E_ _ rfl; clear E_
 obtain ⟨H_, hc356⟩ := hb352 _ _ HR355 rfl
 replace H := H_; clear H_; try dsimp only [setn, addE, goneL] at H
 refine vn tbok 5 [] [(27, .int .i64 r348.2)] [] E (by kernel_rfl) (by kernel_rfl) trivial ?_
 clear E; intro a E
 refine wpList_nil ?_
 refine th_n ?_
 refine wp_seq ?_
 refine wp_region_lit ?_
 obtain ⟨r357, h358, hP⟩ := bind_inv hP
 obtain ⟨Fa359, Hc360, hb361⟩ := H.call [] [] rfl rfl trivial
 refine e_call E rfl rfl Try.func34 rfl rfl rfl (law19_Finally_calls    Hc360 h358) ?_
 rintro v362 w363 a ⟨A366, c367, A369, c370, A372, c373, rfl, HR364⟩ E_
 replace E := E_ _ rfl; clear E_
 obtain ⟨H_, hc365⟩ := hb361 _ _ HR364 rfl
 replace H := H_; clear H_; try dsimp only [setn, addE, goneL] at H
 obtain ⟨r375, h376, hP⟩ := bind_inv hP
 obtain ⟨Fa377, Hc378, hb379⟩ := H.call [] [(46, false), (47, false), (48, false)] rfl rfl trivial
 refine e_call E rfl rfl Try.func17 rfl rfl rfl (lang_Count_calls A366 c367 A369 c370 A372 c373 r357.1 r357.2.1 r357.2.2.1 r357.2.2.2 1025 (H.rcap 46 rfl) (H.rcap 47 rfl) (H.rcap 48 rfl) Hc378 h376) ?_
 rintro v380 w381 a ⟨rfl, HR382⟩ E_
 replace E := E_ _ rfl; clear E_
 obtain ⟨H_, hc383⟩ := hb379 _ _ HR382 rfl
 replace H := H_; clear H_; try dsimp only [setn, addE, goneL] at H
 refine vn tbok 5 [] [(29, .int .i64 r375.2)] [] E (by kernel_rfl) (by kernel_rfl) trivial ?_
 clear E; intro a E
 refine wpList_nil ?_
 refine th_n ?_
 refine wp_seq ?_
 refine wp_region_lit ?_
 obtain ⟨r384, h385, hP⟩ := bind_inv hP
 obtain ⟨Fa386, Hc387, hb388⟩ := H.call [] [] rfl rfl trivial
 refine e_call E rfl rfl Try.func34 rfl rfl rfl (law19_Finally_calls    Hc387 h385) ?_
 rintro v389 w390 a ⟨A393, c394, A396, c397, A399, c400, rfl, HR391⟩ E_
 replace E := E_ _ rfl; clear E_
 obtain ⟨H_, hc392⟩ := hb388 _ _ HR391 rfl
 replace H := H_; clear H_; try dsimp only [setn, addE, goneL] at H
 obtain ⟨r402, h403, hP⟩ := bind_inv hP
 obtain ⟨Fa404, Hc405, hb406⟩ := H.call [] [(49, false), (50, false), (51, false)] rfl rfl trivial
 refine e_call E rfl rfl Try.func16 rfl rfl rfl (lang_Words_calls A393 c394 A396 c397 A399 c400 r384.1 r384.2.1 r384.2.2.1 r384.2.2.2 4 (H.rcap 49 rfl) (H.rcap 50 rfl) (H.rcap 51 rfl) Hc405 h403) ?_
 rintro v407 w408 a ⟨A411, c412, rfl, HR409⟩ E_
 replace E := E_ _ rfl; clear E_
 obtain ⟨H_, hc410⟩ := hb406 _ _ HR409 rfl
 replace H := H_; clear H_; try dsimp only [setn, addE, goneL] at H
 refine vn tbok 5 [] [(31, .int .i64 r402.2)] [] E (by kernel_rfl) (by kernel_rfl) trivial ?_
 clear E; intro a E
 refine wpList_nil ?_
 refine th_n ?_
 refine wp_seq ?_
 refine wp_region_lit ?_
 refine e_build (ps := []) (v := .agg #[.int .i64 0, .slice none 0 0, .slice none 0 0, .slice none 0 0]) E rfl rfl tbok rfl (by kernel_rfl) rfl ?_
 clear E; intro a E
 replace H := H.nilrow cBool 4; try dsimp only [setn, addE, goneL] at H
 replace H := H.nilrow (cInt .i64) 3; try dsimp only [setn, addE, goneL] at H
 replace H := H.nilrow cNode 65; try dsimp only [setn, addE, goneL] at H
 replace H := H.nilrow (cInt .u8) 52; try dsimp only [setn, addE, goneL] at H
 obtain ⟨r418, h419, hP⟩ := bind_inv hP
 obtain ⟨Fa420, Hc421, hb422⟩ := H.call [] [(53, false), (54, false), (55, false), (56, false)] rfl rfl trivial
 refine e_call E rfl rfl Try.func12 rfl rfl rfl (lang_Accepts_calls none 0 none 0 none 0 none 0 0 [] [] [] [] (Nat.le_refl _) (Nat.le_refl _) (Nat.le_refl _) (Nat.le_refl _) Hc421 h419) ?_
 rintro v423 w424 a ⟨rfl, HR425⟩ E_
 replace E := E_ _ rfl; clear E_
 obtain ⟨H_, hc426⟩ := hb422 _ _ HR425 rfl
 replace H := H_; clear H_; try dsimp only [setn, addE, goneL] at H
 refine vn tbok 5 [] [(33, .int .i64 r418.2)] [] E (by kernel_rfl) (by kernel_rfl) trivial ?_
 clear E; intro a E
 refine wpList_nil ?_
 refine th_n ?_
 refine wp_seq ?_
 obtain ⟨x478, h479, hK480⟩ := bind_inv hP
 clear hP
 refine meet_cut (fun a w482 => ∃ (x481 : Bool), Fr a 241 [(14, .int .u64 r169.1), (15, .int .i64 r169.2), (17, .int .i64 r196.2), (18, .slice A232 (List.length r223.1) c233), (19, .int .i64 r223.2), (20, .slice A262 (List.length r253.1) c263), (21, .int .i64 r253.2), (22, .slice A292 (List.length r283.1) c293), (23, .int .i64 r283.2), (24, .slice A322 (List.length r313.1) c323), (25, .int .i64 r313.2), (27, .int .i64 r348.2), (29, .int .i64 r375.2), (31, .int .i64 r402.2), (33, .int .i64 r418.2), (34, .bool x481)] ∧ Hp S Fa w0 w482 [.row true (cInt .i64) 3 A232 c233 r223.1, .row true cBool 4 A262 c263 r253.1, .row true cBool 4 A292 c293 r283.1, .row true (cSl (cInt .u8)) 27 A322 c323 r313.1] ∧ x478 = x481) ?_ ?_
 ·
  have hP := h479; clear h479; rw [law19_LangKnown_j0] at hP
  refine wp_region_lit ?_
  refine vn tbok 3 [] [(119, .bool (!r24.1))] [] E (by kernel_rfl) (by kernel_rfl) trivial ?_
  clear E; intro a E
  refine E.cases (t := 119) rfl (fun hb_ E_ => ?_) (fun hb_ E_ => ?_)
  ·
   replace E := E_; clear E_
   have h483 : ¬ (r24.1 = true) := (ne_true_of_eq_false (not_t hb_))
   clear hb_; replace hP := ite_f h483 hP
   refine vn tbok 4 [] [(123, .bool ((r24.2 : Int) == 0))] [] E (by kernel_rfl) (by kernel_rfl) trivial ?_
   clear E; intro a E
   refine E.cases (t := 123) rfl (fun hb_ E_ => ?_) (fun hb_ E_ => ?_)
   ·
    replace E := E_; clear E_
    have h484 : (r24.2 : Int) = 0 := eq_of_beq hb_
    clear hb_; replace hP := ite_t h484 hP
    refine vn tbok 4 [] [(127, .bool (!r52.1))] [] E (by kernel_rfl) (by kernel_rfl) trivial ?_
    clear E; intro a E
    refine E.cases (t := 127) rfl (fun hb_ E_ => ?_) (fun hb_ E_ => ?_)
    ·
     replace E := E_; clear E_
     have h485 : ¬ (r52.1 = true) := (ne_true_of_eq_false (not_t hb_))
     clear hb_; replace hP := ite_f h485 hP
     refine vn tbok 4 [] [(131, .bool ((r52.2 : Int) == 0))] [] E (by kernel_rfl) (by kernel_rfl) trivial ?_
     clear E; intro a E
     refine E.cases (t := 131) rfl (fun hb_ E_ => ?_) (fun hb_ E_ => ?_)
     ·
      replace E := E_; clear E_
      have h486 : (r52.2 : Int) = 0 := eq_of_beq hb_
      clear hb_; replace hP := ite_t h486 hP
      refine vn tbok 1 [] [(132, .slice A88 (List.length r79.1) c89)] [] E (by kernel_rfl) (by kernel_rfl) trivial ?_
      clear E; intro a E
      refine h_buildSlice (ps := [(0, .int .u8 0)]) (cs := [.int .u8 0]) H E rfl rfl tbok rfl rfl (by kernel_rfl) ?_
      intro w488 g487 a hc489 hg491 H_ E_
      replace E := E_ _ rfl; clear E_
      replace H := H_; clear H_; try dsimp only [setn, addE, goneL] at H
      replace H := H.boxRow (cInt .u8) true ([0] : List Int) 57 rfl (fun _ _ => ⟨_, _, rfl, rfl, rfl⟩) (Nat.le_of_ble_eq_true rfl); try dsimp only [setn, addE, goneL] at H
      obtain ⟨r492, h493, hP⟩ := bind_inv hP
      obtain ⟨Fa494, Hc495, hb496⟩ := H.call [] [(11, false), (57, false)] rfl rfl trivial
      refine e_call E rfl rfl Try.func28 rfl rfl rfl (kit_SameLetters_calls A88 c89 (some ⟨g487, 0, none⟩) 1 r79.1 ([0] : List Int) (H.rcap 11 rfl) (H.rcapx 57 rfl) Hc495 h493) ?_
      rintro v497 w498 a ⟨rfl, HR499⟩ E_
      replace E := E_ _ rfl; clear E_
      obtain ⟨H_, hc500⟩ := hb496 _ _ HR499 rfl
      replace H := H_; clear H_; try dsimp only [setn, addE, goneL] at H
      refine vn tbok 2 [] [(136, .bool r492)] [] E (by kernel_rfl) (by kernel_rfl) trivial ?_
      clear E; intro a E
      refine E.cases (t := 136) rfl (fun hb_ E_ => ?_) (fun hb_ E_ => ?_)
      ·
       replace E := E_; clear E_
       have h501 : r492 = true := hb_
       clear hb_; replace hP := ite_t h501 hP
       refine vn tbok 3 [] [(139, .bool r79.2.1)] [] E (by kernel_rfl) (by kernel_rfl) trivial ?_
       clear E; intro a E
       refine E.cases (t := 139) rfl (fun hb_ E_ => ?_) (fun hb_ E_ => ?_)
       ·
        replace E := E_; clear E_
        have h502 : r79.2.1 = true := hb_
        clear hb_; replace hP := ite_t h502 hP
        refine vn tbok 4 [] [(143, .bool ((r79.2.2 : Int) == 0))] [] E (by kernel_rfl) (by kernel_rfl) trivial ?_
        clear E; intro a E
        refine E.cases (t := 143) rfl (fun hb_ E_ => ?_) (fun hb_ E_ => ?_)
        ·
         replace E := E_; clear E_
         have h503 : (r79.2.2 : Int) = 0 := eq_of_beq hb_
         clear hb_; replace hP := ite_t h503 hP
         refine vn tbok 4 [] [(147, .bool (!r109.2.1))] [] E (by kernel_rfl) (by kernel_rfl) trivial ?_
         clear E; intro a E
         refine E.cases (t := 147) rfl (fun hb_ E_ => ?_) (fun hb_ E_ => ?_)
         ·
          replace E := E_; clear E_
          have h504 : ¬ (r109.2.1 = true) := (ne_true_of_eq_false (not_t hb_))
          clear hb_; replace hP := ite_f h504 hP
          refine vr tbok 4 [] [(11, .slice A148 (List.length r139.1) c149), (12, .bool r139.2.1), (13, .int .i64 r139.2.2), (14, .int .u64 r169.1), (15, .int .i64 r169.2), (17, .int .i64 r196.2), (18, .slice A232 (List.length r223.1) c233), (19, .int .i64 r223.2), (20, .slice A262 (List.length r253.1) c263), (21, .int .i64 r253.2), (22, .slice A292 (List.length r283.1) c293), (23, .int .i64 r283.2), (24, .slice A322 (List.length r313.1) c323), (25, .int .i64 r313.2), (27, .int .i64 r348.2), (29, .int .i64 r375.2), (31, .int .i64 r402.2), (33, .int .i64 r418.2), (151, .bool ((r109.2.2 : Int) == 0))] [] E (by kernel_rfl) trivial ?_
          clear E; intro a E
          refine E.cases (t := 151) rfl (fun hb_ E_ => ?_) (fun hb_ E_ => ?_)
          ·
           replace E := E_; clear E_
           have h505 : (r109.2.2 : Int) = 0 := eq_of_beq hb_
           clear hb_; replace hP := ite_t h505 hP
           refine vn tbok 1 [] [(152, .slice A148 (List.length r139.1) c149)] [] E (by kernel_rfl) (by kernel_rfl) trivial ?_
           clear E; intro a E
           refine h_buildSlice (ps := [(0, .int .u8 0)]) (cs := [.int .u8 0]) H E rfl rfl tbok rfl rfl (by kernel_rfl) ?_
           intro w507 g506 a hc508 hg510 H_ E_
           replace E := E_ _ rfl; clear E_
           replace H := H_; clear H_; try dsimp only [setn, addE, goneL] at H
           replace H := H.boxRow (cInt .u8) true ([0] : List Int) 58 rfl (fun _ _ => ⟨_, _, rfl, rfl, rfl⟩) (Nat.le_of_ble_eq_true rfl); try dsimp only [setn, addE, goneL] at H
           obtain ⟨r511, h512, hP⟩ := bind_inv hP
           obtain ⟨Fa513, Hc514, hb515⟩ := H.call [] [(19, false), (58, false)] rfl rfl trivial
           refine e_call E rfl rfl Try.func28 rfl rfl rfl (kit_SameLetters_calls A148 c149 (some ⟨g506, 0, none⟩) 1 r139.1 ([0] : List Int) (H.rcap 19 rfl) (H.rcapx 58 rfl) Hc514 h512) ?_
           rintro v516 w517 a ⟨rfl, HR518⟩ E_
           replace E := E_ _ rfl; clear E_
           obtain ⟨H_, hc519⟩ := hb515 _ _ HR518 rfl
           replace H := H_; clear H_; try dsimp only [setn, addE, goneL] at H
           refine vn tbok 2 [] [(156, .bool r511)] [] E (by kernel_rfl) (by kernel_rfl) trivial ?_
           clear E; intro a E
           refine E.cases (t := 156) rfl (fun hb_ E_ => ?_) (fun hb_ E_ => ?_)
           ·
            replace E := E_; clear E_
            have h520 : r511 = true := hb_
            clear hb_; replace hP := ite_t h520 hP
            refine vn tbok 3 [] [(159, .bool r139.2.1)] [] E (by kernel_rfl) (by kernel_rfl) trivial ?_
            clear E; intro a E
            refine E.cases (t := 159) rfl (fun hb_ E_ => ?_) (fun hb_ E_ => ?_)
            ·
             replace E := E_; clear E_
             have h521 : r139.2.1 = true := hb_
             clear hb_; replace hP := ite_t h521 hP
             refine vn tbok 4 [] [(34, .bool ((r139.2.2 : Int) == 0))] [] E (by kernel_rfl) (by kernel_rfl) trivial ?_
             clear E; intro a E
             refine wpList_nil ?_
             have hx_ := Option.some.inj hP
             exact .inl ⟨rfl, (r139.2.2 : Int) == 0, E.pick _ ⟨rfl, rfl, rfl, rfl, rfl, rfl, rfl, rfl, rfl, rfl, rfl, rfl, rfl, rfl, rfl, rfl, trivial⟩, H.sel [29, 33, 37, 41] rfl, hx_.symm⟩
            replace E := E_; clear E_
            have h522 : ¬ (r139.2.1 = true) := (ne_true_of_eq_false hb_)
            clear hb_; replace hP := ite_f h522 hP
            refine vn tbok 4 [] [(34, .bool false)] [] E (by kernel_rfl) (by kernel_rfl) trivial ?_
            clear E; intro a E
            refine wpList_nil ?_
            have hx_ := Option.some.inj hP
            exact .inl ⟨rfl, false, E.pick _ ⟨rfl, rfl, rfl, rfl, rfl, rfl, rfl, rfl, rfl, rfl, rfl, rfl, rfl, rfl, rfl, rfl, trivial⟩, H.sel [29, 33, 37, 41] rfl, hx_.symm⟩
           replace E := E_; clear E_
           have h523 : ¬ (r511 = true) := (ne_true_of_eq_false hb_)
           clear hb_; replace hP := ite_f h523 hP
           refine vn tbok 7 [] [(34, .bool false)] [] E (by kernel_rfl) (by kernel_rfl) trivial ?_
           clear E; intro a E
           refine wpList_nil ?_
           have hx_ := Option.some.inj hP
           exact .inl ⟨rfl, false, E.pick _ ⟨rfl, rfl, rfl, rfl, rfl, rfl, rfl, rfl, rfl, rfl, rfl, rfl, rfl, rfl, rfl, rfl, trivial⟩, H.sel [29, 33, 37, 41] rfl, hx_.symm⟩
          replace E := E_; clear E_
          have h524 : ¬ ((r109.2.2 : Int) = 0) := ne_of_beq_false hb_
          clear hb_; replace hP := ite_f h524 hP
          refine vn tbok 12 [] [(34, .bool false)] [] E (by kernel_rfl) (by kernel_rfl) trivial ?_
          clear E; intro a E
          refine wpList_nil ?_
          have hx_ := Option.some.inj hP
          exact .inl ⟨rfl, false, E.pick _ ⟨rfl, rfl, rfl, rfl, rfl, rfl, rfl, rfl, rfl, rfl, rfl, rfl, rfl, rfl, rfl, rfl, trivial⟩, H.sel [29, 33, 37, 41] rfl, hx_.symm⟩
         replace E := E_; clear E_
         have h525 : r109.2.1 = true := (not_f hb_)
         clear hb_; replace hP := ite_t h525 hP
         refine vr tbok 16 [] [(14, .int .u64 r169.1), (15, .int .i64 r169.2), (17, .int .i64 r196.2), (18, .slice A232 (List.length r223.1) c233), (19, .int .i64 r223.2), (20, .slice A262 (List.length r253.1) c263), (21, .int .i64 r253.2), (22, .slice A292 (List.length r283.1) c293), (23, .int .i64 r283.2), (24, .slice A322 (List.length r313.1) c323), (25, .int .i64 r313.2), (27, .int .i64 r348.2), (29, .int .i64 r375.2), (31, .int .i64 r402.2), (33, .int .i64 r418.2), (34, .bool false)] [] E (by kernel_rfl) trivial ?_
         clear E; intro a E
         refine wpList_nil ?_
         have hx_ := Option.some.inj hP
         exact .inl ⟨rfl, false, E.pick _ ⟨rfl, rfl, rfl, rfl, rfl, rfl, rfl, rfl, rfl, rfl, rfl, rfl, rfl, rfl, rfl, rfl, trivial⟩, H.sel [29, 33, 37, 41] rfl, hx_.symm⟩
        replace E := E_; clear E_
        have h526 : ¬ ((r79.2.2 : Int) = 0) := ne_of_beq_false hb_
        clear hb_; replace hP := ite_f h526 hP
        refine vr tbok 20 [] [(14, .int .u64 r169.1), (15, .int .i64 r169.2), (17, .int .i64 r196.2), (18, .slice A232 (List.length r223.1) c233), (19, .int .i64 r223.2), (20, .slice A262 (List.length r253.1) c263), (21, .int .i64 r253.2), (22, .slice A292 (List.length r283.1) c293), (23, .int .i64 r283.2), (24, .slice A322 (List.length r313.1) c323), (25, .int .i64 r313.2), (27, .int .i64 r348.2), (29, .int .i64 r375.2), (31, .int .i64 r402.2), (33, .int .i64 r418.2), (34, .bool false)] [] E (by kernel_rfl) trivial ?_
        clear E; intro a E
        refine wpList_nil ?_
        have hx_ := Option.some.inj hP
        exact .inl ⟨rfl, false, E.pick _ ⟨rfl, rfl, rfl, rfl, rfl, rfl, rfl, rfl, rfl, rfl, rfl, rfl, rfl, rfl, rfl, rfl, trivial⟩, H.sel [29, 33, 37, 41] rfl, hx_.symm⟩
       replace E := E_; clear E_
       have h527 : ¬ (r79.2.1 = true) := (ne_true_of_eq_false hb_)
       clear hb_; replace hP := ite_f h527 hP
       refine vr tbok 24 [] [(14, .int .u64 r169.1), (15, .int .i64 r169.2), (17, .int .i64 r196.2), (18, .slice A232 (List.length r223.1) c233), (19, .int .i64 r223.2), (20, .slice A262 (List.length r253.1) c263), (21, .int .i64 r253.2), (22, .slice A292 (List.length r283.1) c293), (23, .int .i64 r283.2), (24, .slice A322 (List.length r313.1) c323), (25, .int .i64 r313.2), (27, .int .i64 r348.2), (29, .int .i64 r375.2), (31, .int .i64 r402.2), (33, .int .i64 r418.2), (34, .bool false)] [] E (by kernel_rfl) trivial ?_
       clear E; intro a E
       refine wpList_nil ?_
       have hx_ := Option.some.inj hP
       exact .inl ⟨rfl, false, E.pick _ ⟨rfl, rfl, rfl, rfl, rfl, rfl, rfl, rfl, rfl, rfl, rfl, rfl, rfl, rfl, rfl, rfl, trivial⟩, H.sel [29, 33, 37, 41] rfl, hx_.symm⟩
      replace E := E_; clear E_
      have h528 : ¬ (r492 = true) := (ne_true_of_eq_false hb_)
      clear hb_; replace hP := ite_f h528 hP
      refine vr tbok 27 [] [(14, .int .u64 r169.1), (15, .int .i64 r169.2), (17, .int .i64 r196.2), (18, .slice A232 (List.length r223.1) c233), (19, .int .i64 r223.2), (20, .slice A262 (List.length r253.1) c263), (21, .int .i64 r253.2), (22, .slice A292 (List.length r283.1) c293), (23, .int .i64 r283.2), (24, .slice A322 (List.length r313.1) c323), (25, .int .i64 r313.2), (27, .int .i64 r348.2), (29, .int .i64 r375.2), (31, .int .i64 r402.2), (33, .int .i64 r418.2), (34, .bool false)] [] E (by kernel_rfl) trivial ?_
      clear E; intro a E
      refine wpList_nil ?_
      have hx_ := Option.some.inj hP
      exact .inl ⟨rfl, false, E.pick _ ⟨rfl, rfl, rfl, rfl, rfl, rfl, rfl, rfl, rfl, rfl, rfl, rfl, rfl, rfl, rfl, rfl, trivial⟩, H.sel [29, 33, 37, 41] rfl, hx_.symm⟩
     replace E := E_; clear E_
     have h529 : ¬ ((r52.2 : Int) = 0) := ne_of_beq_false hb_
     clear hb_; replace hP := ite_f h529 hP
     refine vr tbok 32 [] [(14, .int .u64 r169.1), (15, .int .i64 r169.2), (17, .int .i64 r196.2), (18, .slice A232 (List.length r223.1) c233), (19, .int .i64 r223.2), (20, .slice A262 (List.length r253.1) c263), (21, .int .i64 r253.2), (22, .slice A292 (List.length r283.1) c293), (23, .int .i64 r283.2), (24, .slice A322 (List.length r313.1) c323), (25, .int .i64 r313.2), (27, .int .i64 r348.2), (29, .int .i64 r375.2), (31, .int .i64 r402.2), (33, .int .i64 r418.2), (34, .bool false)] [] E (by kernel_rfl) trivial ?_
     clear E; intro a E
     refine wpList_nil ?_
     have hx_ := Option.some.inj hP
     exact .inl ⟨rfl, false, E.pick _ ⟨rfl, rfl, rfl, rfl, rfl, rfl, rfl, rfl, rfl, rfl, rfl, rfl, rfl, rfl, rfl, rfl, trivial⟩, H.sel [29, 33, 37, 41] rfl, hx_.symm⟩
    replace E := E_; clear E_
    have h530 : r52.1 = true := (not_f hb_)
    clear hb_; replace hP := ite_t h530 hP
    refine vr tbok 36 [] [(14, .int .u64 r169.1), (15, .int .i64 r169.2), (17, .int .i64 r196.2), (18, .slice A232 (List.length r223.1) c233), (19, .int .i64 r223.2), (20, .slice A262 (List.length r253.1) c263), (21, .int .i64 r253.2), (22, .slice A292 (List.length r283.1) c293), (23, .int .i64 r283.2), (24, .slice A322 (List.length r313.1) c323), (25, .int .i64 r313.2), (27, .int .i64 r348.2), (29, .int .i64 r375.2), (31, .int .i64 r402.2), (33, .int .i64 r418.2), (34, .bool false)] [] E (by kernel_rfl) trivial ?_
    clear E; intro a E
    refine wpList_nil ?_
    have hx_ := Option.some.inj hP
    exact .inl ⟨rfl, false, E.pick _ ⟨rfl, rfl, rfl, rfl, rfl, rfl, rfl, rfl, rfl, rfl, rfl, rfl, rfl, rfl, rfl, rfl, trivial⟩, H.sel [29, 33, 37, 41] rfl, hx_.symm⟩
   replace E := E_; clear E_
   have h531 : ¬ ((r24.2 : Int) = 0) := ne_of_beq_false hb_
   clear hb_; replace hP := ite_f h531 hP
   refine vn tbok 40 [] [(34, .bool false)] [] E (by kernel_rfl) (by kernel_rfl) trivial ?_
   clear E; intro a E
   refine wpList_nil ?_
   have hx_ := Option.some.inj hP
   exact .inl ⟨rfl, false, E.pick _ ⟨rfl, rfl, rfl, rfl, rfl, rfl, rfl, rfl, rfl, rfl, rfl, rfl, rfl, rfl, rfl, rfl, trivial⟩, H.sel [29, 33, 37, 41] rfl, hx_.symm⟩
  replace E := E_; clear E_
  have h532 : r24.1 = true := (not_f hb_)
  clear hb_; replace hP := ite_t h532 hP
  refine vn tbok 44 [] [(34, .bool false)] [] E (by kernel_rfl) (by kernel_rfl) trivial ?_
  clear E; intro a E
  refine wpList_nil ?_
  have hx_ := Option.some.inj hP
  exact .inl ⟨rfl, false, E.pick _ ⟨rfl, rfl, rfl, rfl, rfl, rfl, rfl, rfl, rfl, rfl, rfl, rfl, rfl, rfl, rfl, rfl, trivial⟩, H.sel [29, 33, 37, 41] rfl, hx_.symm⟩
 clear E H h479; rintro a w482 ⟨x481, E, H, hx_⟩
 subst hx_; have hP := hK480; clear hK480
 refine th_n ?_
 refine wp_seq ?_
 obtain ⟨x592, h593, hK594⟩ := bind_inv hP
 clear hP
 refine meet_cut (fun a w596 => ∃ (x595 : Bool), Fr a 241 [(24, .slice A322 (List.length r313.1) c323), (25, .int .i64 r313.2), (27, .int .i64 r348.2), (29, .int .i64 r375.2), (31, .int .i64 r402.2), (33, .int .i64 r418.2), (34, .bool x478), (35, .bool x595)] ∧ Hp S Fa w0 w596 [.row true (cSl (cInt .u8)) 27 A322 c323 r313.1] ∧ x592 = x595) ?_ ?_
 ·
  have hP := h593; clear h593; rw [law19_LangKnown_j1] at hP
  refine wp_region_lit ?_
  refine vn tbok 3 [] [(165, .bool ((r169.1 : Int) == 18446744073709551615))] [] E (by kernel_rfl) (by kernel_rfl) trivial ?_
  clear E; intro a E
  refine E.cases (t := 165) rfl (fun hb_ E_ => ?_) (fun hb_ E_ => ?_)
  ·
   replace E := E_; clear E_
   have h597 : (r169.1 : Int) = 18446744073709551615 := eq_of_beq hb_
   clear hb_; replace hP := ite_t h597 hP
   refine vn tbok 4 [] [(169, .bool ((r169.2 : Int) == 0))] [] E (by kernel_rfl) (by kernel_rfl) trivial ?_
   clear E; intro a E
   refine E.cases (t := 169) rfl (fun hb_ E_ => ?_) (fun hb_ E_ => ?_)
   ·
    replace E := E_; clear E_
    have h598 : (r169.2 : Int) = 0 := eq_of_beq hb_
    clear hb_; replace hP := ite_t h598 hP
    refine vn tbok 4 [] [(173, .bool ((r196.2 : Int) == 15))] [] E (by kernel_rfl) (by kernel_rfl) trivial ?_
    clear E; intro a E
    refine E.cases (t := 173) rfl (fun hb_ E_ => ?_) (fun hb_ E_ => ?_)
    ·
     replace E := E_; clear E_
     have h599 : (r196.2 : Int) = 15 := eq_of_beq hb_
     clear hb_; replace hP := ite_t h599 hP
     refine vn tbok 1 [] [(174, .slice A232 (List.length r223.1) c233)] [] E (by kernel_rfl) (by kernel_rfl) trivial ?_
     clear E; intro a E
     refine h_buildSlice (ps := [(0, .int .i64 0), (1, .int .i64 1)]) (cs := [.int .i64 0, .int .i64 1]) H E rfl rfl tbok rfl rfl (by kernel_rfl) ?_
     intro w601 g600 a hc602 hg604 H_ E_
     replace E := E_ _ rfl; clear E_
     replace H := H_; clear H_; try dsimp only [setn, addE, goneL] at H
     replace H := H.boxRow (cInt .i64) true ([0, 1] : List Int) 4 rfl (fun _ _ => ⟨_, _, rfl, rfl, ⟨_, _, rfl, rfl, rfl⟩⟩) (Nat.le_of_ble_eq_true rfl); try dsimp only [setn, addE, goneL] at H
     obtain ⟨r605, h606, hP⟩ := bind_inv hP
     obtain ⟨Fa607, Hc608, hb609⟩ := H.call [] [(0, false), (4, false)] rfl rfl trivial
     refine e_call E rfl rfl Try.func36 rfl rfl rfl (kit_SameInts_calls A232 c233 (some ⟨g600, 0, none⟩) 2 r223.1 ([0, 1] : List Int) (H.rcap 0 rfl) (H.rcapx 4 rfl) Hc608 h606) ?_
     rintro v610 w611 a ⟨rfl, HR612⟩ E_
     replace E := E_ _ rfl; clear E_
     obtain ⟨H_, hc613⟩ := hb609 _ _ HR612 rfl
     replace H := H_; clear H_; try dsimp only [setn, addE, goneL] at H
     refine vn tbok 2 [] [(178, .bool r605)] [] E (by kernel_rfl) (by kernel_rfl) trivial ?_
     clear E; intro a E
     refine E.cases (t := 178) rfl (fun hb_ E_ => ?_) (fun hb_ E_ => ?_)
     ·
      replace E := E_; clear E_
      have h614 : r605 = true := hb_
      clear hb_; replace hP := ite_t h614 hP
      refine vn tbok 4 [] [(182, .bool ((r223.2 : Int) == 0))] [] E (by kernel_rfl) (by kernel_rfl) trivial ?_
      clear E; intro a E
      refine E.cases (t := 182) rfl (fun hb_ E_ => ?_) (fun hb_ E_ => ?_)
      ·
       replace E := E_; clear E_
       have h615 : (r223.2 : Int) = 0 := eq_of_beq hb_
       clear hb_; replace hP := ite_t h615 hP
       refine vn tbok 1 [] [(183, .slice A262 (List.length r253.1) c263)] [] E (by kernel_rfl) (by kernel_rfl) trivial ?_
       clear E; intro a E
       refine h_buildSlice (ps := [(0, .bool true), (1, .bool true)]) (cs := [.bool true, .bool true]) H E rfl rfl tbok rfl rfl (by kernel_rfl) ?_
       intro w617 g616 a hc618 hg620 H_ E_
       replace E := E_ _ rfl; clear E_
       replace H := H_; clear H_; try dsimp only [setn, addE, goneL] at H
       replace H := H.boxRow cBool true ([true, true] : List Bool) 5 rfl (fun _ _ => ⟨_, _, rfl, rfl, ⟨_, _, rfl, rfl, rfl⟩⟩) (Nat.le_of_ble_eq_true rfl); try dsimp only [setn, addE, goneL] at H
       obtain ⟨r621, h622, hP⟩ := bind_inv hP
       obtain ⟨Fa623, Hc624, hb625⟩ := H.call [] [(1, false), (5, false)] rfl rfl trivial
       refine e_call E rfl rfl Try.func37 rfl rfl rfl (kit_SameBools_calls A262 c263 (some ⟨g616, 0, none⟩) 2 r253.1 ([true, true] : List Bool) (H.rcap 1 rfl) (H.rcapx 5 rfl) Hc624 h622) ?_
       rintro v626 w627 a ⟨rfl, HR628⟩ E_
       replace E := E_ _ rfl; clear E_
       obtain ⟨H_, hc629⟩ := hb625 _ _ HR628 rfl
       replace H := H_; clear H_; try dsimp only [setn, addE, goneL] at H
       refine vn tbok 2 [] [(187, .bool r621)] [] E (by kernel_rfl) (by kernel_rfl) trivial ?_
       clear E; intro a E
       refine E.cases (t := 187) rfl (fun hb_ E_ => ?_) (fun hb_ E_ => ?_)
       ·
        replace E := E_; clear E_
        have h630 : r621 = true := hb_
        clear hb_; replace hP := ite_t h630 hP
        refine vn tbok 4 [] [(191, .bool ((r253.2 : Int) == 0))] [] E (by kernel_rfl) (by kernel_rfl) trivial ?_
        clear E; intro a E
        refine E.cases (t := 191) rfl (fun hb_ E_ => ?_) (fun hb_ E_ => ?_)
        ·
         replace E := E_; clear E_
         have h631 : (r253.2 : Int) = 0 := eq_of_beq hb_
         clear hb_; replace hP := ite_t h631 hP
         refine vn tbok 1 [] [(192, .slice A292 (List.length r283.1) c293)] [] E (by kernel_rfl) (by kernel_rfl) trivial ?_
         clear E; intro a E
         refine h_buildSlice (ps := [(0, .bool false)]) (cs := [.bool false]) H E rfl rfl tbok rfl rfl (by kernel_rfl) ?_
         intro w633 g632 a hc634 hg636 H_ E_
         replace E := E_ _ rfl; clear E_
         replace H := H_; clear H_; try dsimp only [setn, addE, goneL] at H
         replace H := H.boxRow cBool true ([false] : List Bool) 6 rfl (fun _ _ => ⟨_, _, rfl, rfl, rfl⟩) (Nat.le_of_ble_eq_true rfl); try dsimp only [setn, addE, goneL] at H
         obtain ⟨r637, h638, hP⟩ := bind_inv hP
         obtain ⟨Fa639, Hc640, hb641⟩ := H.call [] [(2, false), (6, false)] rfl rfl trivial
         refine e_call E rfl rfl Try.func37 rfl rfl rfl (kit_SameBools_calls A292 c293 (some ⟨g632, 0, none⟩) 1 r283.1 ([false] : List Bool) (H.rcap 2 rfl) (H.rcapx 6 rfl) Hc640 h638) ?_
         rintro v642 w643 a ⟨rfl, HR644⟩ E_
         replace E := E_ _ rfl; clear E_
         obtain ⟨H_, hc645⟩ := hb641 _ _ HR644 rfl
         replace H := H_; clear H_; try dsimp only [setn, addE, goneL] at H
         refine vn tbok 2 [] [(196, .bool r637)] [] E (by kernel_rfl) (by kernel_rfl) trivial ?_
         clear E; intro a E
         refine E.cases (t := 196) rfl (fun hb_ E_ => ?_) (fun hb_ E_ => ?_)
         ·
          replace E := E_; clear E_
          have h646 : r637 = true := hb_
          clear hb_; replace hP := ite_t h646 hP
          refine vn tbok 4 [] [(35, .bool ((r283.2 : Int) == 0))] [] E (by kernel_rfl) (by kernel_rfl) trivial ?_
          clear E; intro a E
          refine wpList_nil ?_
          have hx_ := Option.some.inj hP
          exact .inl ⟨rfl, (r283.2 : Int) == 0, E.pick _ ⟨rfl, rfl, rfl, rfl, rfl, rfl, rfl, rfl, trivial⟩, H.sel [3] rfl, hx_.symm⟩
         replace E := E_; clear E_
         have h647 : ¬ (r637 = true) := (ne_true_of_eq_false hb_)
         clear hb_; replace hP := ite_f h647 hP
         refine vn tbok 4 [] [(35, .bool false)] [] E (by kernel_rfl) (by kernel_rfl) trivial ?_
         clear E; intro a E
         refine wpList_nil ?_
         have hx_ := Option.some.inj hP
         exact .inl ⟨rfl, false, E.pick _ ⟨rfl, rfl, rfl, rfl, rfl, rfl, rfl, rfl, trivial⟩, H.sel [3] rfl, hx_.symm⟩
        replace E := E_; clear E_
        have h648 : ¬ ((r253.2 : Int) = 0) := ne_of_beq_false hb_
        clear hb_; replace hP := ite_f h648 hP
        refine vn tbok 9 [] [(35, .bool false)] [] E (by kernel_rfl) (by kernel_rfl) trivial ?_
        clear E; intro a E
        refine wpList_nil ?_
        have hx_ := Option.some.inj hP
        exact .inl ⟨rfl, false, E.pick _ ⟨rfl, rfl, rfl, rfl, rfl, rfl, rfl, rfl, trivial⟩, H.sel [3] rfl, hx_.symm⟩
       replace E := E_; clear E_
       have h649 : ¬ (r621 = true) := (ne_true_of_eq_false hb_)
       clear hb_; replace hP := ite_f h649 hP
       refine vn tbok 13 [] [(35, .bool false)] [] E (by kernel_rfl) (by kernel_rfl) trivial ?_
       clear E; intro a E
       refine wpList_nil ?_
       have hx_ := Option.some.inj hP
       exact .inl ⟨rfl, false, E.pick _ ⟨rfl, rfl, rfl, rfl, rfl, rfl, rfl, rfl, trivial⟩, H.sel [3] rfl, hx_.symm⟩
      replace E := E_; clear E_
      have h650 : ¬ ((r223.2 : Int) = 0) := ne_of_beq_false hb_
      clear hb_; replace hP := ite_f h650 hP
      refine vn tbok 18 [] [(35, .bool false)] [] E (by kernel_rfl) (by kernel_rfl) trivial ?_
      clear E; intro a E
      refine wpList_nil ?_
      have hx_ := Option.some.inj hP
      exact .inl ⟨rfl, false, E.pick _ ⟨rfl, rfl, rfl, rfl, rfl, rfl, rfl, rfl, trivial⟩, H.sel [3] rfl, hx_.symm⟩
     replace E := E_; clear E_
     have h651 : ¬ (r605 = true) := (ne_true_of_eq_false hb_)
     clear hb_; replace hP := ite_f h651 hP
     refine vn tbok 22 [] [(35, .bool false)] [] E (by kernel_rfl) (by kernel_rfl) trivial ?_
     clear E; intro a E
     refine wpList_nil ?_
     have hx_ := Option.some.inj hP
     exact .inl ⟨rfl, false, E.pick _ ⟨rfl, rfl, rfl, rfl, rfl, rfl, rfl, rfl, trivial⟩, H.sel [3] rfl, hx_.symm⟩
    replace E := E_; clear E_
    have h652 : ¬ ((r196.2 : Int) = 15) := ne_of_beq_false hb_
    clear hb_; replace hP := ite_f h652 hP
    refine vn tbok 27 [] [(35, .bool false)] [] E (by kernel_rfl) (by kernel_rfl) trivial ?_
    clear E; intro a E
    refine wpList_nil ?_
    have hx_ := Option.some.inj hP
    exact .inl ⟨rfl, false, E.pick _ ⟨rfl, rfl, rfl, rfl, rfl, rfl, rfl, rfl, trivial⟩, H.sel [3] rfl, hx_.symm⟩
   replace E := E_; clear E_
   have h653 : ¬ ((r169.2 : Int) = 0) := ne_of_beq_false hb_
   clear hb_; replace hP := ite_f h653 hP
   refine vn tbok 31 [] [(35, .bool false)] [] E (by kernel_rfl) (by kernel_rfl) trivial ?_
   clear E; intro a E
   refine wpList_nil ?_
   have hx_ := Option.some.inj hP
   exact .inl ⟨rfl, false, E.pick _ ⟨rfl, rfl, rfl, rfl, rfl, rfl, rfl, rfl, trivial⟩, H.sel [3] rfl, hx_.symm⟩
  replace E := E_; clear E_
  have h654 : ¬ ((r169.1 : Int) = 18446744073709551615) := ne_of_beq_false hb_
  clear hb_; replace hP := ite_f h654 hP
  refine vn tbok 35 [] [(35, .bool false)] [] E (by kernel_rfl) (by kernel_rfl) trivial ?_
  clear E; intro a E
  refine wpList_nil ?_
  have hx_ := Option.some.inj hP
  exact .inl ⟨rfl, false, E.pick _ ⟨rfl, rfl, rfl, rfl, rfl, rfl, rfl, rfl, trivial⟩, H.sel [3] rfl, hx_.symm⟩
 clear E H h593; rintro a w596 ⟨x595, E, H, hx_⟩
 subst hx_; have hP := hK594; clear hK594
 refine th_n ?_
 refine wp_seq ?_
 obtain ⟨x704, h705, hK706⟩ := bind_inv hP
 clear hP
 refine meet_cut (fun a w708 => ∃ (x707 : Bool), Fr a 241 [(34, .bool x478), (35, .bool x592), (36, .bool x707)] ∧ Hp S Fa w0 w708 [] ∧ x704 = x707) ?_ ?_
 ·
  have hP := h705; clear h705; rw [law19_LangKnown_j2] at hP
  refine wp_region_lit ?_
  refine vn tbok 1 [] [(200, .slice A322 (List.length r313.1) c323)] [] E (by kernel_rfl) (by kernel_rfl) trivial ?_
  clear E; intro a E
  refine h_buildSlice (ps := [(0, .int .u8 1)]) (cs := [.int .u8 1]) H E rfl rfl tbok rfl rfl (by kernel_rfl) ?_
  intro w710 g709 a hc711 hg713 H_ E_
  replace E := E_ _ rfl; clear E_
  replace H := H_; clear H_; try dsimp only [setn, addE, goneL] at H
  refine h_buildSlice (ps := [(0, .int .u8 0), (1, .int .u8 1)]) (cs := [.int .u8 0, .int .u8 1]) H E rfl rfl tbok rfl rfl (by kernel_rfl) ?_
  intro w715 g714 a hc716 hg718 H_ E_
  replace E := E_ _ rfl; clear E_
  replace H := H_; clear H_; try dsimp only [setn, addE, goneL] at H
  refine h_buildSlice (ps := [(0, .int .u8 1), (1, .int .u8 0)]) (cs := [.int .u8 1, .int .u8 0]) H E rfl rfl tbok rfl rfl (by kernel_rfl) ?_
  intro w720 g719 a hc721 hg723 H_ E_
  replace E := E_ _ rfl; clear E_
  replace H := H_; clear H_; try dsimp only [setn, addE, goneL] at H
  refine h_buildSlice (ps := [(0, .int .u8 1), (1, .int .u8 1)]) (cs := [.int .u8 1, .int .u8 1]) H E rfl rfl tbok rfl rfl (by kernel_rfl) ?_
  intro w725 g724 a hc726 hg728 H_ E_
  replace E := E_ _ rfl; clear E_
  replace H := H_; clear H_; try dsimp only [setn, addE, goneL] at H
  refine h_buildSlice (ps := [(0, .slice (some ⟨g709, 0, none⟩) 1 1), (1, .slice (some ⟨g714, 0, none⟩) 2 2), (2, .slice (some ⟨g719, 0, none⟩) 2 2), (3, .slice (some ⟨g724, 0, none⟩) 2 2)]) (cs := [.slice (some ⟨g709, 0, none⟩) 1 1, .slice (some ⟨g714, 0, none⟩) 2 2, .slice (some ⟨g719, 0, none⟩) 2 2, .slice (some ⟨g724, 0, none⟩) 2 2]) H E rfl rfl tbok rfl rfl (by kernel_rfl) ?_
  intro w730 g729 a hc731 hg733 H_ E_
  replace E := E_ _ rfl; clear E_
  replace H := H_; clear H_; try dsimp only [setn, addE, goneL] at H
  replace H := H.boxRow (cInt .u8) true ([1] : List Int) 1 rfl (fun _ _ => ⟨_, _, rfl, rfl, rfl⟩) (Nat.le_of_ble_eq_true rfl); try dsimp only [setn, addE, goneL] at H
  replace H := H.rowx 1 rfl; try dsimp only [setn, addE, goneL] at H
  have hk734 := H.rcap 1 rfl
  replace H := H.frz 1 rfl; try dsimp only [setn, addE, goneL] at H
  replace H := H.boxRow (cInt .u8) true ([0, 1] : List Int) 2 rfl (fun _ _ => ⟨_, _, rfl, rfl, ⟨_, _, rfl, rfl, rfl⟩⟩) (Nat.le_of_ble_eq_true rfl); try dsimp only [setn, addE, goneL] at H
  replace H := H.rowx 2 rfl; try dsimp only [setn, addE, goneL] at H
  have hk735 := H.rcap 2 rfl
  replace H := H.frz 2 rfl; try dsimp only [setn, addE, goneL] at H
  replace H := H.boxRow (cInt .u8) true ([1, 0] : List Int) 3 rfl (fun _ _ => ⟨_, _, rfl, rfl, ⟨_, _, rfl, rfl, rfl⟩⟩) (Nat.le_of_ble_eq_true rfl); try dsimp only [setn, addE, goneL] at H
  replace H := H.rowx 3 rfl; try dsimp only [setn, addE, goneL] at H
  have hk736 := H.rcap 3 rfl
  replace H := H.frz 3 rfl; try dsimp only [setn, addE, goneL] at H
  replace H := H.boxRow (cInt .u8) true ([1, 1] : List Int) 4 rfl (fun _ _ => ⟨_, _, rfl, rfl, ⟨_, _, rfl, rfl, rfl⟩⟩) (Nat.le_of_ble_eq_true rfl); try dsimp only [setn, addE, goneL] at H
  replace H := H.rowx 4 rfl; try dsimp only [setn, addE, goneL] at H
  have hk737 := H.rcap 4 rfl
  replace H := H.frz 4 rfl; try dsimp only [setn, addE, goneL] at H
  replace H := H.boxRow (cSl (cInt .u8)) true ([[1], [0, 1], [1, 0], [1, 1]] : List (List Int)) 5 rfl (fun _ HF_ => ⟨_, _, rfl, ⟨_, _, rfl, hk734, (HF_.roC 1 rfl)⟩, ⟨_, _, rfl, ⟨_, _, rfl, hk735, (HF_.roC 2 rfl)⟩, ⟨_, _, rfl, ⟨_, _, rfl, hk736, (HF_.roC 3 rfl)⟩, ⟨_, _, rfl, ⟨_, _, rfl, hk737, (HF_.roC 4 rfl)⟩, rfl⟩⟩⟩⟩) (Nat.le_of_ble_eq_true rfl); try dsimp only [setn, addE, goneL] at H
  obtain ⟨r738, h739, hP⟩ := bind_inv hP
  obtain ⟨Fa740, Hc741, hb742⟩ := H.call [] [(0, false), (5, false)] rfl rfl trivial
  refine e_call E rfl rfl Try.func29 rfl rfl rfl (law19_words_calls A322 c323 (some ⟨g729, 0, none⟩) 4 r313.1 ([[1], [0, 1], [1, 0], [1, 1]] : List (List Int)) (H.rcap 0 rfl) (H.rcapx 5 rfl) Hc741 h739) ?_
  rintro v743 w744 a ⟨rfl, HR745⟩ E_
  replace E := E_ _ rfl; clear E_
  obtain ⟨H_, hc746⟩ := hb742 _ _ HR745 rfl
  replace H := H_; clear H_; try dsimp only [setn, addE, goneL] at H
  refine vn tbok 1 [] [(207, .bool r738)] [] E (by kernel_rfl) (by kernel_rfl) trivial ?_
  clear E; intro a E
  refine E.cases (t := 207) rfl (fun hb_ E_ => ?_) (fun hb_ E_ => ?_)
  ·
   replace E := E_; clear E_
   have h747 : r738 = true := hb_
   clear hb_; replace hP := ite_t h747 hP
   refine vn tbok 4 [] [(211, .bool ((r313.2 : Int) == 0))] [] E (by kernel_rfl) (by kernel_rfl) trivial ?_
   clear E; intro a E
   refine E.cases (t := 211) rfl (fun hb_ E_ => ?_) (fun hb_ E_ => ?_)
   ·
    replace E := E_; clear E_
    have h748 : (r313.2 : Int) = 0 := eq_of_beq hb_
    clear hb_; replace hP := ite_t h748 hP
    refine vn tbok 4 [] [(215, .bool ((r348.2 : Int) == 2))] [] E (by kernel_rfl) (by kernel_rfl) trivial ?_
    clear E; intro a E
    refine E.cases (t := 215) rfl (fun hb_ E_ => ?_) (fun hb_ E_ => ?_)
    ·
     replace E := E_; clear E_
     have h749 : (r348.2 : Int) = 2 := eq_of_beq hb_
     clear hb_; replace hP := ite_t h749 hP
     refine vn tbok 4 [] [(219, .bool ((r375.2 : Int) == 2))] [] E (by kernel_rfl) (by kernel_rfl) trivial ?_
     clear E; intro a E
     refine E.cases (t := 219) rfl (fun hb_ E_ => ?_) (fun hb_ E_ => ?_)
     ·
      replace E := E_; clear E_
      have h750 : (r375.2 : Int) = 2 := eq_of_beq hb_
      clear hb_; replace hP := ite_t h750 hP
      refine vn tbok 4 [] [(223, .bool ((r402.2 : Int) == 2))] [] E (by kernel_rfl) (by kernel_rfl) trivial ?_
      clear E; intro a E
      refine E.cases (t := 223) rfl (fun hb_ E_ => ?_) (fun hb_ E_ => ?_)
      ·
       replace E := E_; clear E_
       have h751 : (r402.2 : Int) = 2 := eq_of_beq hb_
       clear hb_; replace hP := ite_t h751 hP
       refine vn tbok 4 [] [(36, .bool ((r418.2 : Int) == 12))] [] E (by kernel_rfl) (by kernel_rfl) trivial ?_
       clear E; intro a E
       refine wpList_nil ?_
       have hx_ := Option.some.inj hP
       exact .inl ⟨rfl, (r418.2 : Int) == 12, E.pick _ ⟨rfl, rfl, rfl, trivial⟩, H.sel [] rfl, hx_.symm⟩
      replace E := E_; clear E_
      have h752 : ¬ ((r402.2 : Int) = 2) := ne_of_beq_false hb_
      clear hb_; replace hP := ite_f h752 hP
      refine vn tbok 4 [] [(36, .bool false)] [] E (by kernel_rfl) (by kernel_rfl) trivial ?_
      clear E; intro a E
      refine wpList_nil ?_
      have hx_ := Option.some.inj hP
      exact .inl ⟨rfl, false, E.pick _ ⟨rfl, rfl, rfl, trivial⟩, H.sel [] rfl, hx_.symm⟩
     replace E := E_; clear E_
     have h753 : ¬ ((r375.2 : Int) = 2) := ne_of_beq_false hb_
     clear hb_; replace hP := ite_f h753 hP
     refine vn tbok 8 [] [(36, .bool false)] [] E (by kernel_rfl) (by kernel_rfl) trivial ?_
     clear E; intro a E
     refine wpList_nil ?_
     have hx_ := Option.some.inj hP
     exact .inl ⟨rfl, false, E.pick _ ⟨rfl, rfl, rfl, trivial⟩, H.sel [] rfl, hx_.symm⟩
    replace E := E_; clear E_
    have h754 : ¬ ((r348.2 : Int) = 2) := ne_of_beq_false hb_
    clear hb_; replace hP := ite_f h754 hP
    refine vn tbok 12 [] [(36, .bool false)] [] E (by kernel_rfl) (by kernel_rfl) trivial ?_
    clear E; intro a E
    refine wpList_nil ?_
    have hx_ := Option.some.inj hP
    exact .inl ⟨rfl, false, E.pick _ ⟨rfl, rfl, rfl, trivial⟩, H.sel [] rfl, hx_.symm⟩
   replace E := E_; clear E_
   have h755 : ¬ ((r313.2 : Int) = 0) := ne_of_beq_false hb_
   clear hb_; replace hP := ite_f h755 hP
   refine vn tbok 16 [] [(36, .bool false)] [] E (by kernel_rfl) (by kernel_rfl) trivial ?_
   clear E; intro a E
   refine wpList_nil ?_
   have hx_ := Option.some.inj hP
   exact .inl ⟨rfl, false, E.pick _ ⟨rfl, rfl, rfl, trivial⟩, H.sel [] rfl, hx_.symm⟩
  replace E := E_; clear E_
  have h756 : ¬ (r738 = true) := (ne_true_of_eq_false hb_)
  clear hb_; replace hP := ite_f h756 hP
  refine vn tbok 20 [] [(36, .bool false)] [] E (by kernel_rfl) (by kernel_rfl) trivial ?_
  clear E; intro a E
  refine wpList_nil ?_
  have hx_ := Option.some.inj hP
  exact .inl ⟨rfl, false, E.pick _ ⟨rfl, rfl, rfl, trivial⟩, H.sel [] rfl, hx_.symm⟩
 clear E H h705; rintro a w708 ⟨x707, E, H, hx_⟩
 subst hx_; have hP := hK706; clear hK706
 refine th_n ?_
 refine wp_seq ?_
 refine wp_region_lit ?_
 obtain ⟨r757, h758, hP⟩ := bind_inv hP
 obtain ⟨Fa759, Hc760, hb761⟩ := H.call [] [] rfl rfl trivial
 refine e_call E rfl rfl Try.func7 rfl rfl rfl (law19_awake_calls    Hc760 h758) ?_
 rintro v762 w763 a ⟨rfl, HR764⟩ E_
 replace E := E_ _ rfl; clear E_
 obtain ⟨H_, hc765⟩ := hb761 _ _ HR764 rfl
 replace H := H_; clear H_; try dsimp only [setn, addE, goneL] at H
 refine vn tbok 1 [] [(228, .bool r757)] [] E (by kernel_rfl) (by kernel_rfl) trivial ?_
 clear E; intro a E
 refine E.cases (t := 228) rfl (fun hb_ E_ => ?_) (fun hb_ E_ => ?_)
 ·
  replace E := E_; clear E_
  have h766 : r757 = true := hb_
  clear hb_; replace hP := ite_t h766 hP
  refine vn tbok 3 [] [(231, .bool x478)] [] E (by kernel_rfl) (by kernel_rfl) trivial ?_
  clear E; intro a E
  refine E.cases (t := 231) rfl (fun hb_ E_ => ?_) (fun hb_ E_ => ?_)
  ·
   replace E := E_; clear E_
   have h767 : x478 = true := hb_
   clear hb_; replace hP := ite_t h767 hP
   refine vn tbok 3 [] [(234, .bool x592)] [] E (by kernel_rfl) (by kernel_rfl) trivial ?_
   clear E; intro a E
   refine E.cases (t := 234) rfl (fun hb_ E_ => ?_) (fun hb_ E_ => ?_)
   ·
    replace E := E_; clear E_
    have h768 : x592 = true := hb_
    clear hb_; replace hP := ite_t h768 hP
    refine vn tbok 3 [] [(237, .bool x704)] [] E (by kernel_rfl) (by kernel_rfl) trivial ?_
    clear E; intro a E
    refine E.cases (t := 237) rfl (fun hb_ E_ => ?_) (fun hb_ E_ => ?_)
    ·
     replace E := E_; clear E_
     have h769 : x704 = true := hb_
     clear hb_; replace hP := ite_t h769 hP
     refine vn tbok 4 [] [(0, .bool true)] [] E (by kernel_rfl) (by kernel_rfl) trivial ?_
     clear E; intro a E
     refine wpList_nil ?_
     refine th_n ?_
     refine wp_ret ?_
     obtain rfl := Option.some.inj hP
     refine ret1 E rfl rfl ?_
     exact ⟨_, rfl, rfl, H.sel [] rfl⟩
    replace E := E_; clear E_
    have h770 : ¬ (x704 = true) := (ne_true_of_eq_false hb_)
    clear hb_; replace hP := ite_f h770 hP
    refine vn tbok 4 [] [(0, .bool false)] [] E (by kernel_rfl) (by kernel_rfl) trivial ?_
    clear E; intro a E
    refine wpList_nil ?_
    refine th_n ?_
    refine wp_ret ?_
    obtain rfl := Option.some.inj hP
    refine ret1 E rfl rfl ?_
    exact ⟨_, rfl, rfl, H.sel [] rfl⟩
   replace E := E_; clear E_
   have h771 : ¬ (x592 = true) := (ne_true_of_eq_false hb_)
   clear hb_; replace hP := ite_f h771 hP
   refine vn tbok 7 [] [(0, .bool false)] [] E (by kernel_rfl) (by kernel_rfl) trivial ?_
   clear E; intro a E
   refine wpList_nil ?_
   refine th_n ?_
   refine wp_ret ?_
   obtain rfl := Option.some.inj hP
   refine ret1 E rfl rfl ?_
   exact ⟨_, rfl, rfl, H.sel [] rfl⟩
  replace E := E_; clear E_
  have h772 : ¬ (x478 = true) := (ne_true_of_eq_false hb_)
  clear hb_; replace hP := ite_f h772 hP
  refine vn tbok 10 [] [(0, .bool false)] [] E (by kernel_rfl) (by kernel_rfl) trivial ?_
  clear E; intro a E
  refine wpList_nil ?_
  refine th_n ?_
  refine wp_ret ?_
  obtain rfl := Option.some.inj hP
  refine ret1 E rfl rfl ?_
  exact ⟨_, rfl, rfl, H.sel [] rfl⟩
 replace E := E_; clear E_
 have h773 : ¬ (r757 = true) := (ne_true_of_eq_false hb_)
 clear hb_; replace hP := ite_f h773 hP
 refine vn tbok 13 [] [(0, .bool false)] [] E (by kernel_rfl) (by kernel_rfl) trivial ?_
 clear E; intro a E
 refine wpList_nil ?_
 refine th_n ?_
 refine wp_ret ?_
 obtain rfl := Option.some.inj hP
 refine ret1 E rfl rfl ?_
 exact ⟨_, rfl, rfl, H.sel [] rfl⟩

end Go.V
