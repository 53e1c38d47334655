/- Plain functions, and the calls that give them. -/
import Derived.Test.YtflangjkfaalkaaA2
set_option linter.all false
set_option linter.unusedVariables false
set_option linter.unnecessarySimpa false
set_option linter.unusedSimpArgs false
namespace Go.V
open Go Go.Proofs
/-! rejoinder/moore.Ranks -/
def moore_Ranks (N : Nat) (aProps : Int) (aAccept : List Bool) (aGuard : List Int) (aNodes : List Nd) (s : Int × Int) : Option ((List Int) × Int) :=
  Option.bind (moore_begun N aProps aAccept aGuard aNodes (s.1, s.2)) fun r23 =>
  Sum.elim (fun x39 =>
    if (x39 : Int) = 0 then
      none
    else
      some ([], x39))
   (fun x40 =>
    if (x40.2 : Int) = 0 then
      Option.bind (moore_game_ranks N x40.1) fun r53 =>
      some (r53, 0)
    else
      some ([], x40.2)) r23
set_option maxRecDepth 100000 in
set_option maxHeartbeats 4000000 in
theorem moore_Ranks_calls {N : Nat} {S Fa : Nat → Prop} {w0 : World} {r : (List Int) × Int} (A1 : Option Addr) (c2 : Nat) (A5 : Option Addr) (c6 : Nat) (A9 : Option Addr) (c10 : Nat) (aProps : Int) (aAccept : List Bool) (aGuard : List Int) (aNodes : List Nd) (s : Int × Int) (hk3 : List.length aAccept ≤ c2) (hk7 : List.length aGuard ≤ c6) (hk11 : List.length aNodes ≤ c10) (H : Hp S Fa w0 w0 [.ro false cBool A1 aAccept, .ro false (cInt .i64) A5 aGuard, .ro false cNode A9 aNodes]) (hP : moore_Ranks N aProps aAccept aGuard aNodes s = some r) :
    Calls Try.prog 10 #[.agg #[.int .i64 aProps, .slice A1 (List.length aAccept) c2, .slice A5 (List.length aGuard) c6, .slice A9 (List.length aNodes) c10], .agg #[.int .u8 s.1, .int .u8 s.2]] w0 fun e w' => ∃ v, e = .returned v ∧ ∃ (A65 : Option Addr) (c66 : Nat), v = .tuple #[.slice A65 (List.length r.1) c66, .int .i64 r.2] ∧ Hp S Fa w0 w' [.row true (cInt .i64) 3 A65 c66 r.1] := by
 refine enterV (n := 19) Try.func10 rfl rfl rfl ?_
 intro a E
 replace E := E.pick [(0, .agg #[.int .i64 aProps, .slice A1 (List.length aAccept) c2, .slice A5 (List.length aGuard) c6, .slice A9 (List.length aNodes) c10]), (1, .agg #[.int .u8 s.1, .int .u8 s.2])] ⟨rfl, rfl, trivial⟩
 rw [moore_Ranks] at hP
 refine wp_seq ?_
 refine wp_region_lit ?_
 refine h_box H E rfl rfl rfl ?_
 intro w14 g13 a hc15 hg17 H_ E_
 replace E := E_ _ rfl; clear E_
 replace H := H_; clear H_; try dsimp only [setn, addE, goneL] at H
 refine h_box H E rfl rfl rfl ?_
 intro w19 g18 a hc20 hg22 H_ E_
 replace E := E_ _ rfl; clear E_
 replace H := H_; clear H_; try dsimp only [setn, addE, goneL] at H
 refine vn tbok 2 [] [] [] E (by kernel_rfl) (by kernel_rfl) trivial ?_
 clear E; intro a E
 refine wpList_nil ?_
 refine th_n ?_
 refine wp_seq ?_
 refine wp_region_lit ?_
 refine vn tbok 2 [.agg #[.int .i64 aProps, .slice A1 (List.length aAccept) c2, .slice A5 (List.length aGuard) c6, .slice A9 (List.length aNodes) c10], .agg #[.int .u8 s.1, .int .u8 s.2]] [(9, .agg #[.int .i64 aProps, .slice A1 (List.length aAccept) c2, .slice A5 (List.length aGuard) c6, .slice A9 (List.length aNodes) c10]), (10, .agg #[.int .u8 s.1, .int .u8 s.2])] [cellsAt w19 g13 (0) [.int .i64 aProps, .slice A1 (List.length aAccept) c2, .slice A5 (List.length aGuard) c6, .slice A9 (List.length aNodes) c10], cellsAt w19 g18 (0) [.int .u8 s.1, .int .u8 s.2]] E (by kernel_rfl) (by kernel_rfl) ⟨(H.box 3 rfl).sub 0 _ rfl, (H.box 4 rfl).sub 0 _ rfl⟩ ?_
 clear E; intro a E
 obtain ⟨r23, h24, hP⟩ := bind_inv hP
 obtain ⟨Fa25, Hc26, hb27⟩ := H.callA [] [(0, false), (1, false), (2, false)] rfl rfl trivial
 refine e_call E rfl rfl Try.func31 rfl rfl rfl (moore_begun_calls A1 c2 A5 c6 A9 c10 aProps aAccept aGuard aNodes (s.1, s.2) hk3 hk7 hk11 Hc26 h24) ?_
 intro v33 w32 a hR34 E_
 rcases hR34 with ⟨x_, hr_, rfl, HR36⟩ | ⟨x_, b37, hr_, rfl, HR38⟩
 ·
  subst hr_; have hP := elim_l hP
  obtain ⟨x39, hxx_⟩ : ∃ y_, y_ = x_ := ⟨_, rfl⟩; subst hxx_
  replace E := E_ _ rfl; clear E_
  obtain ⟨H_, hc35⟩ := hb27 _ _ HR36
  replace H := H_; clear H_; try dsimp only [setn, addE, goneL] at H
  refine vn tbok 5 [] [(6, .pointer none), (7, .int .i64 x39)] [] E (by kernel_rfl) (by kernel_rfl) trivial ?_
  clear E; intro a E
  refine wpList_nil ?_
  refine th_n ?_
  refine wp_seq ?_
  refine wp_seq ?_
  refine wp_region_lit ?_
  refine vn tbok 2 [] [(15, .bool ((x39 : Int) != 0))] [] E (by kernel_rfl) (by kernel_rfl) trivial ?_
  clear E; intro a E
  refine wpList_nil ?_
  refine th_n ?_
  refine E.cases (t := 15) rfl (fun hb_ E_ => ?_) (fun hb_ E_ => ?_)
  ·
   replace E := E_; clear E_
   have h41 : ¬ ((x39 : Int) = 0) := bne_iff_ne.1 hb_
   clear hb_; replace hP := ite_f h41 hP
   refine c_true E rfl ?_
   refine wp_seq ?_
   refine wp_region_lit ?_
   refine vn tbok 3 [] [(4, .slice none 0 0), (5, .int .i64 x39)] [] E (by kernel_rfl) (by kernel_rfl) trivial ?_
   clear E; intro a E
   refine wpList_nil ?_
   refine th_n ?_
   refine wp_ret ?_
   refine th_ret ?_
   replace H := H.nilrow (cInt .i64) 3; try dsimp only [setn, addE, goneL] at H
   obtain rfl := Option.some.inj hP
   refine ret2 E rfl rfl rfl ?_
   exact ⟨_, rfl, none, 0, rfl, H.sel [5] rfl⟩
  replace E := E_; clear E_
  have h43 : (x39 : Int) = 0 := bne_eq_false_iff_eq.1 hb_
  clear hb_; replace hP := ite_t h43 hP
  exact none_inv hP
  -- STOPPED: nilCheck of nilptr
 subst hr_; have hP := (elim_r hP)
 obtain ⟨x40, hxx_⟩ : ∃ y_, y_ = x_ := ⟨_, rfl⟩; subst hxx_
 replace E := E_ _ rfl; clear E_
 obtain ⟨H_, hc35⟩ := hb27 _ _ HR38
 replace H := H_; clear H_; try dsimp only [setn, addE, goneL] at H
 refine vn tbok 5 [] [(6, .pointer (some ⟨b37, 0, none⟩)), (7, .int .i64 x40.2)] [] E (by kernel_rfl) (by kernel_rfl) trivial ?_
 clear E; intro a E
 refine wpList_nil ?_
 refine th_n ?_
 refine wp_seq ?_
 refine wp_seq ?_
 refine wp_region_lit ?_
 refine vn tbok 2 [] [(15, .bool ((x40.2 : Int) != 0))] [] E (by kernel_rfl) (by kernel_rfl) trivial ?_
 clear E; intro a E
 refine wpList_nil ?_
 refine th_n ?_
 refine E.cases (t := 15) rfl (fun hb_ E_ => ?_) (fun hb_ E_ => ?_)
 ·
  replace E := E_; clear E_
  have h50 : ¬ ((x40.2 : Int) = 0) := bne_iff_ne.1 hb_
  clear hb_; replace hP := ite_f h50 hP
  refine c_true E rfl ?_
  refine wp_seq ?_
  refine wp_region_lit ?_
  refine vn tbok 3 [] [(4, .slice none 0 0), (5, .int .i64 x40.2)] [] E (by kernel_rfl) (by kernel_rfl) trivial ?_
  clear E; intro a E
  refine wpList_nil ?_
  refine th_n ?_
  refine wp_ret ?_
  refine th_ret ?_
  replace H := H.nilrow (cInt .i64) 3; try dsimp only [setn, addE, goneL] at H
  obtain rfl := Option.some.inj hP
  refine ret2 E rfl rfl rfl ?_
  exact ⟨_, rfl, none, 0, rfl, H.sel [6] rfl⟩
 replace E := E_; clear E_
 have h52 : (x40.2 : Int) = 0 := bne_eq_false_iff_eq.1 hb_
 clear hb_; replace hP := ite_t h52 hP
 refine c_false E rfl ?_
 refine wp_skip ?_
 refine th_n ?_
 refine wp_seq ?_
 refine wp_region_lit ?_
 refine vn tbok 1 [] [(17, .pointer (some ⟨b37, 0, none⟩))] [] E (by kernel_rfl) (by kernel_rfl) trivial ?_
 clear E; intro a E
 obtain ⟨r53, h54, hP⟩ := bind_inv hP
 obtain ⟨Fa55, Hc56, hb57⟩ := H.call [] [(5, false)] rfl rfl trivial
 refine e_call E rfl rfl Try.func32 rfl rfl rfl (moore_game_ranks_calls b37 0 x40.1  Hc56 h54) ?_
 rintro v58 w59 a ⟨A62, c63, rfl, HR60⟩ E_
 replace E := E_ _ rfl; clear E_
 obtain ⟨H_, hc61⟩ := hb57 _ _ HR60 rfl
 replace H := H_; clear H_; try dsimp only [setn, addE, goneL] at H
 refine vn tbok 2 [] [(4, .slice A62 (List.length r53) c63), (5, .int .i64 0)] [] E (by kernel_rfl) (by kernel_rfl) trivial ?_
 clear E; intro a E
 refine wpList_nil ?_
 refine th_n ?_
 refine wp_ret ?_
 obtain rfl := Option.some.inj hP
 refine ret2 E rfl rfl rfl ?_
 exact ⟨_, rfl, A62, c63, rfl, H.sel [6] rfl⟩

/-! rejoinder/rejoinderlaw26.awake -/
def law26_awake (N : Nat) : Option Bool :=
  Option.bind (moore_Ranks N 2 ([false, false, true] : List Bool) ([2, -2, -3] : List Int) ([(⟨1, -2, -3⟩ : Nd), (⟨1, -1, -3⟩ : Nd), (⟨0, 0, 1⟩ : Nd)] : List Nd) (1, 2)) fun r23 =>
  Option.bind (moore_Ranks N 2 ([false, false, true] : List Bool) ([2, -2, -3] : List Int) ([(⟨1, -2, -3⟩ : Nd), (⟨1, -1, -3⟩ : Nd), (⟨0, 0, 1⟩ : Nd)] : List Nd) (2, 1)) fun r35 =>
  if (r23.2 : Int) = 0 then
    if (r35.2 : Int) = 0 then
      if ((((List.length r23.1) : Nat) : Int) : Int) = 3 then
        if ((((List.length r35.1) : Nat) : Int) : Int) = 3 then
          ask (idx (0 : Int) (List.length r23.1)) <|
          if ((List.getD r23.1 (Int.toNat (0 : Int)) 0) : Int) = 1 then
            ask (idx (1 : Int) (List.length r23.1)) <|
            if ((List.getD r23.1 (Int.toNat (1 : Int)) 0) : Int) = -1 then
              ask (idx (2 : Int) (List.length r23.1)) <|
              if ((List.getD r23.1 (Int.toNat (2 : Int)) 0) : Int) = 0 then
                ask (idx (0 : Int) (List.length r35.1)) <|
                some (((List.getD r35.1 (Int.toNat (0 : Int)) 0) : Int) == (-1))
              else
                some false
            else
              some false
          else
            some false
        else
          some false
      else
        some false
    else
      some false
  else
    some false
set_option maxRecDepth 100000 in
set_option maxHeartbeats 4000000 in
theorem law26_awake_calls {N : Nat} {S Fa : Nat → Prop} {w0 : World} {r : Bool} (H : Hp S Fa w0 w0 []) (hP : law26_awake N  = some r) :
    Calls Try.prog 26 #[] w0 fun e w' => ∃ v, e = .returned v ∧ v = .bool r ∧ Hp S Fa w0 w' [] := by
 refine enterV (n := 65) Try.func26 rfl rfl rfl ?_
 intro a E
 replace E := E.pick [] trivial
 rw [law26_awake] at hP
 refine wp_seq ?_
 refine wp_region_lit ?_
 refine vn tbok 1 [] [] [] E (by kernel_rfl) (by kernel_rfl) trivial ?_
 clear E; intro a E
 refine wpList_nil ?_
 refine th_n ?_
 refine wp_seq ?_
 refine wp_region_lit ?_
 refine h_buildSlice (ps := [(0, .bool false), (1, .bool false), (2, .bool true)]) (cs := [.bool false, .bool false, .bool true]) H E rfl rfl tbok rfl rfl (by kernel_rfl) ?_
 intro w2 g1 a hc3 hg5 H_ E_
 replace E := E_ _ rfl; clear E_
 replace H := H_; clear H_; try dsimp only [setn, addE, goneL] at H
 refine h_buildSlice (ps := [(0, .int .i64 2), (1, .int .i64 (-2)), (2, .int .i64 (-3))]) (cs := [.int .i64 2, .int .i64 (-2), .int .i64 (-3)]) H E rfl rfl tbok rfl rfl (by kernel_rfl) ?_
 intro w7 g6 a hc8 hg10 H_ E_
 replace E := E_ _ rfl; clear E_
 replace H := H_; clear H_; try dsimp only [setn, addE, goneL] at H
 refine e_build (ps := [(0, .int .i64 1), (1, .int .i64 (-2)), (2, .int .i64 (-3))]) (v := .agg #[.int .i64 1, .int .i64 (-2), .int .i64 (-3)]) E rfl rfl tbok rfl (by kernel_rfl) rfl ?_
 clear E; intro a E
 refine e_build (ps := [(0, .int .i64 1), (1, .int .i64 (-1)), (2, .int .i64 (-3))]) (v := .agg #[.int .i64 1, .int .i64 (-1), .int .i64 (-3)]) E rfl rfl tbok rfl (by kernel_rfl) rfl ?_
 clear E; intro a E
 refine e_build (ps := [(0, .int .i64 0), (1, .int .i64 0), (2, .int .i64 1)]) (v := .agg #[.int .i64 0, .int .i64 0, .int .i64 1]) E rfl rfl tbok rfl (by kernel_rfl) rfl ?_
 clear E; intro a E
 refine h_buildSlice (ps := [(0, .agg #[.int .i64 1, .int .i64 (-2), .int .i64 (-3)]), (1, .agg #[.int .i64 1, .int .i64 (-1), .int .i64 (-3)]), (2, .agg #[.int .i64 0, .int .i64 0, .int .i64 1])]) (cs := [.int .i64 1, .int .i64 (-2), .int .i64 (-3), .int .i64 1, .int .i64 (-1), .int .i64 (-3), .int .i64 0, .int .i64 0, .int .i64 1]) H E rfl rfl tbok rfl rfl (by kernel_rfl) ?_
 intro w12 g11 a hc13 hg15 H_ E_
 replace E := E_ _ rfl; clear E_
 replace H := H_; clear H_; try dsimp only [setn, addE, goneL] at H
 refine e_build (ps := [(0, .int .i64 2), (1, .slice (some ⟨g1, 0, none⟩) 3 3), (2, .slice (some ⟨g6, 0, none⟩) 3 3), (3, .slice (some ⟨g11, 0, none⟩) 3 3)]) (v := .agg #[.int .i64 2, .slice (some ⟨g1, 0, none⟩) 3 3, .slice (some ⟨g6, 0, none⟩) 3 3, .slice (some ⟨g11, 0, none⟩) 3 3]) E rfl rfl tbok rfl (by kernel_rfl) rfl ?_
 clear E; intro a E
 refine h_alloc H E rfl rfl tbok rfl ?_
 intro w17 g16 a hc18 hg20 H_ E_
 replace E := E_ _ rfl; clear E_
 replace H := H_; clear H_; try dsimp only [setn, addE, goneL] at H
 refine h_store (g := g16) (off := 0) H 3 rfl E rfl rfl rfl rfl tbok rfl rfl rfl rfl rfl ?_
 clear E; intro w21 a hc22 H_ E
 replace H := H_; clear H_; try dsimp only [setn, addE, goneL] at H
 refine wpList_nil ?_
 refine th_n ?_
 refine wp_seq ?_
 refine wp_region_lit ?_
 refine vn tbok 1 [.agg #[.int .i64 2, .slice (some ⟨g1, 0, none⟩) 3 3, .slice (some ⟨g6, 0, none⟩) 3 3, .slice (some ⟨g11, 0, none⟩) 3 3]] [(14, .agg #[.int .i64 2, .slice (some ⟨g1, 0, none⟩) 3 3, .slice (some ⟨g6, 0, none⟩) 3 3, .slice (some ⟨g11, 0, none⟩) 3 3])] [cellsAt w21 g16 (0) [.int .i64 2, .slice (some ⟨g1, 0, none⟩) 3 3, .slice (some ⟨g6, 0, none⟩) 3 3, .slice (some ⟨g11, 0, none⟩) 3 3]] E (by kernel_rfl) (by kernel_rfl) ((H.box 3 rfl).sub 0 _ rfl) ?_
 clear E; intro a E
 refine e_build (ps := [(0, .int .u8 1), (1, .int .u8 2)]) (v := .agg #[.int .u8 1, .int .u8 2]) E rfl rfl tbok rfl (by kernel_rfl) rfl ?_
 clear E; intro a E
 replace H := H.boxRow cBool true ([false, false, true] : List Bool) 0 rfl (fun _ _ => ⟨_, _, rfl, rfl, ⟨_, _, rfl, rfl, ⟨_, _, rfl, rfl, rfl⟩⟩⟩) (Nat.le_of_ble_eq_true rfl); try dsimp only [setn, addE, goneL] at H
 replace H := H.boxRow (cInt .i64) true ([2, -2, -3] : List Int) 1 rfl (fun _ _ => ⟨_, _, rfl, rfl, ⟨_, _, rfl, rfl, ⟨_, _, rfl, rfl, rfl⟩⟩⟩) (Nat.le_of_ble_eq_true rfl); try dsimp only [setn, addE, goneL] at H
 replace H := H.boxRow cNode true ([(⟨1, -2, -3⟩ : Nd), (⟨1, -1, -3⟩ : Nd), (⟨0, 0, 1⟩ : Nd)] : List Nd) 2 rfl (fun _ _ => ⟨_, _, rfl, rfl, ⟨_, _, rfl, rfl, ⟨_, _, rfl, rfl, rfl⟩⟩⟩) (Nat.le_of_ble_eq_true rfl); try dsimp only [setn, addE, goneL] at H
 obtain ⟨r23, h24, hP⟩ := bind_inv hP
 obtain ⟨Fa25, Hc26, hb27⟩ := H.call [] [(0, false), (1, false), (2, false)] rfl rfl trivial
 refine e_call E rfl rfl Try.func10 rfl rfl rfl (moore_Ranks_calls (some ⟨g1, 0, none⟩) 3 (some ⟨g6, 0, none⟩) 3 (some ⟨g11, 0, none⟩) 3 2 ([false, false, true] : List Bool) ([2, -2, -3] : List Int) ([(⟨1, -2, -3⟩ : Nd), (⟨1, -1, -3⟩ : Nd), (⟨0, 0, 1⟩ : Nd)] : List Nd) (1, 2) (H.rcapx 0 rfl) (H.rcapx 1 rfl) (H.rcapx 2 rfl) Hc26 h24) ?_
 rintro v28 w29 a ⟨A32, c33, rfl, HR30⟩ E_
 replace E := E_ _ rfl; clear E_
 obtain ⟨H_, hc31⟩ := hb27 _ _ HR30 rfl
 replace H := H_; clear H_; try dsimp only [setn, addE, goneL] at H
 refine vn tbok 5 [] [(2, .slice A32 (List.length r23.1) c33), (3, .int .i64 r23.2)] [] E (by kernel_rfl) (by kernel_rfl) trivial ?_
 clear E; intro a E
 refine wpList_nil ?_
 refine th_n ?_
 refine wp_seq ?_
 refine wp_region_lit ?_
 refine vn tbok 1 [.agg #[.int .i64 2, .slice (some ⟨g1, 0, none⟩) 3 3, .slice (some ⟨g6, 0, none⟩) 3 3, .slice (some ⟨g11, 0, none⟩) 3 3]] [(20, .agg #[.int .i64 2, .slice (some ⟨g1, 0, none⟩) 3 3, .slice (some ⟨g6, 0, none⟩) 3 3, .slice (some ⟨g11, 0, none⟩) 3 3])] [cellsAt w29 g16 (0) [.int .i64 2, .slice (some ⟨g1, 0, none⟩) 3 3, .slice (some ⟨g6, 0, none⟩) 3 3, .slice (some ⟨g11, 0, none⟩) 3 3]] E (by kernel_rfl) (by kernel_rfl) ((H.box 3 rfl).sub 0 _ rfl) ?_
 clear E; intro a E
 refine e_build (ps := [(0, .int .u8 2), (1, .int .u8 1)]) (v := .agg #[.int .u8 2, .int .u8 1]) E rfl rfl tbok rfl (by kernel_rfl) rfl ?_
 clear E; intro a E
 obtain ⟨r35, h36, hP⟩ := bind_inv hP
 obtain ⟨Fa37, Hc38, hb39⟩ := H.call [] [(0, false), (1, false), (2, false)] rfl rfl trivial
 refine e_call E rfl rfl Try.func10 rfl rfl rfl (moore_Ranks_calls (some ⟨g1, 0, none⟩) 3 (some ⟨g6, 0, none⟩) 3 (some ⟨g11, 0, none⟩) 3 2 ([false, false, true] : List Bool) ([2, -2, -3] : List Int) ([(⟨1, -2, -3⟩ : Nd), (⟨1, -1, -3⟩ : Nd), (⟨0, 0, 1⟩ : Nd)] : List Nd) (2, 1) (H.rcapx 0 rfl) (H.rcapx 1 rfl) (H.rcapx 2 rfl) Hc38 h36) ?_
 rintro v40 w41 a ⟨A44, c45, rfl, HR42⟩ E_
 replace E := E_ _ rfl; clear E_
 obtain ⟨H_, hc43⟩ := hb39 _ _ HR42 rfl
 replace H := H_; clear H_; try dsimp only [setn, addE, goneL] at H
 refine vn tbok 5 [] [(4, .slice A44 (List.length r35.1) c45), (5, .int .i64 r35.2)] [] E (by kernel_rfl) (by kernel_rfl) trivial ?_
 clear E; intro a E
 refine wpList_nil ?_
 refine th_n ?_
 refine wp_seq ?_
 refine wp_region_lit ?_
 refine vn tbok 3 [] [(27, .bool ((r23.2 : Int) == 0))] [] E (by kernel_rfl) (by kernel_rfl) trivial ?_
 clear E; intro a E
 refine E.cases (t := 27) rfl (fun hb_ E_ => ?_) (fun hb_ E_ => ?_)
 ·
  replace E := E_; clear E_
  have h47 : (r23.2 : Int) = 0 := eq_of_beq hb_
  clear hb_; replace hP := ite_t h47 hP
  refine vn tbok 4 [] [(31, .bool ((r35.2 : Int) == 0))] [] E (by kernel_rfl) (by kernel_rfl) trivial ?_
  clear E; intro a E
  refine E.cases (t := 31) rfl (fun hb_ E_ => ?_) (fun hb_ E_ => ?_)
  ·
   replace E := E_; clear E_
   have h48 : (r35.2 : Int) = 0 := eq_of_beq hb_
   clear hb_; replace hP := ite_t h48 hP
   refine vn tbok 5 [] [(36, .bool (((((List.length r23.1) : Nat) : Int) : Int) == 3))] [] E (by kernel_rfl) (by kernel_rfl) trivial ?_
   clear E; intro a E
   refine E.cases (t := 36) rfl (fun hb_ E_ => ?_) (fun hb_ E_ => ?_)
   ·
    replace E := E_; clear E_
    have h49 : ((((List.length r23.1) : Nat) : Int) : Int) = 3 := eq_of_beq hb_
    clear hb_; replace hP := ite_t h49 hP
    refine vn tbok 5 [] [(41, .bool (((((List.length r35.1) : Nat) : Int) : Int) == 3))] [] E (by kernel_rfl) (by kernel_rfl) trivial ?_
    clear E; intro a E
    refine E.cases (t := 41) rfl (fun hb_ E_ => ?_) (fun hb_ E_ => ?_)
    ·
     replace E := E_; clear E_
     have h50 : ((((List.length r35.1) : Nat) : Int) : Int) = 3 := eq_of_beq hb_
     clear hb_; replace hP := ite_t h50 hP
     obtain ⟨g51, hP⟩ := ask_inv hP
     obtain ⟨b52, e_b52⟩ := H.raddr 4 rfl (idx_pos g51)
     subst e_b52
     refine vn tbok 6 [.int .i64 (List.getD r23.1 (Int.toNat (0 : Int)) 0)] [(47, .bool (((List.getD r23.1 (Int.toNat (0 : Int)) 0) : Int) == 1))] [0 ≤ (0 : Int) ∧ (0 : Int) < (((List.length r23.1) : Nat) : Int), World.cell? w41 ⟨b52, 0 + (Int.toNat (0 : Int)) * 1, none⟩ = some (.int .i64 (List.getD r23.1 (Int.toNat (0 : Int)) 0))] E (by kernel_rfl) (by kernel_rfl) ⟨g51, Rds.at1 (H.rd 4 rds_row) 0 g51⟩ ?_
     clear E; intro a E
     refine E.cases (t := 47) rfl (fun hb_ E_ => ?_) (fun hb_ E_ => ?_)
     ·
      replace E := E_; clear E_
      have h54 : ((List.getD r23.1 (Int.toNat (0 : Int)) 0) : Int) = 1 := eq_of_beq hb_
      clear hb_; replace hP := ite_t h54 hP
      obtain ⟨g55, hP⟩ := ask_inv hP
      refine vn tbok 6 [.int .i64 (List.getD r23.1 (Int.toNat (1 : Int)) 0)] [(53, .bool (((List.getD r23.1 (Int.toNat (1 : Int)) 0) : Int) == (-1)))] [0 ≤ (1 : Int) ∧ (1 : Int) < (((List.length r23.1) : Nat) : Int), World.cell? w41 ⟨b52, 0 + (Int.toNat (1 : Int)) * 1, none⟩ = some (.int .i64 (List.getD r23.1 (Int.toNat (1 : Int)) 0))] E (by kernel_rfl) (by kernel_rfl) ⟨g55, Rds.at1 (H.rd 4 rds_row) 0 g55⟩ ?_
      clear E; intro a E
      refine E.cases (t := 53) rfl (fun hb_ E_ => ?_) (fun hb_ E_ => ?_)
      ·
       replace E := E_; clear E_
       have h56 : ((List.getD r23.1 (Int.toNat (1 : Int)) 0) : Int) = -1 := eq_of_beq hb_
       clear hb_; replace hP := ite_t h56 hP
       obtain ⟨g57, hP⟩ := ask_inv hP
       refine vn tbok 6 [.int .i64 (List.getD r23.1 (Int.toNat (2 : Int)) 0)] [(59, .bool (((List.getD r23.1 (Int.toNat (2 : Int)) 0) : Int) == 0))] [0 ≤ (2 : Int) ∧ (2 : Int) < (((List.length r23.1) : Nat) : Int), World.cell? w41 ⟨b52, 0 + (Int.toNat (2 : Int)) * 1, none⟩ = some (.int .i64 (List.getD r23.1 (Int.toNat (2 : Int)) 0))] E (by kernel_rfl) (by kernel_rfl) ⟨g57, Rds.at1 (H.rd 4 rds_row) 0 g57⟩ ?_
       clear E; intro a E
       refine E.cases (t := 59) rfl (fun hb_ E_ => ?_) (fun hb_ E_ => ?_)
       ·
        replace E := E_; clear E_
        have h58 : ((List.getD r23.1 (Int.toNat (2 : Int)) 0) : Int) = 0 := eq_of_beq hb_
        clear hb_; replace hP := ite_t h58 hP
        obtain ⟨g59, hP⟩ := ask_inv hP
        obtain ⟨b60, e_b60⟩ := H.raddr 5 rfl (idx_pos g59)
        subst e_b60
        refine vn tbok 6 [.int .i64 (List.getD r35.1 (Int.toNat (0 : Int)) 0)] [(0, .bool (((List.getD r35.1 (Int.toNat (0 : Int)) 0) : Int) == (-1)))] [0 ≤ (0 : Int) ∧ (0 : Int) < (((List.length r35.1) : Nat) : Int), World.cell? w41 ⟨b60, 0 + (Int.toNat (0 : Int)) * 1, none⟩ = some (.int .i64 (List.getD r35.1 (Int.toNat (0 : Int)) 0))] E (by kernel_rfl) (by kernel_rfl) ⟨g59, Rds.at1 (H.rd 5 rds_row) 0 g59⟩ ?_
        clear E; intro a E
        refine wpList_nil ?_
        refine th_n ?_
        refine wp_ret ?_
        obtain rfl := Option.some.inj hP
        refine ret1 E rfl rfl ?_
        exact ⟨_, rfl, rfl, H.sel [] rfl⟩
       replace E := E_; clear E_
       have h62 : ¬ (((List.getD r23.1 (Int.toNat (2 : Int)) 0) : Int) = 0) := ne_of_beq_false hb_
       clear hb_; replace hP := ite_f h62 hP
       refine vn tbok 6 [] [(0, .bool false)] [] E (by kernel_rfl) (by kernel_rfl) trivial ?_
       clear E; intro a E
       refine wpList_nil ?_
       refine th_n ?_
       refine wp_ret ?_
       obtain rfl := Option.some.inj hP
       refine ret1 E rfl rfl ?_
       exact ⟨_, rfl, rfl, H.sel [] rfl⟩
      replace E := E_; clear E_
      have h63 : ¬ (((List.getD r23.1 (Int.toNat (1 : Int)) 0) : Int) = -1) := ne_of_beq_false hb_
      clear hb_; replace hP := ite_f h63 hP
      refine vn tbok 12 [] [(0, .bool false)] [] E (by kernel_rfl) (by kernel_rfl) trivial ?_
      clear E; intro a E
      refine wpList_nil ?_
      refine th_n ?_
      refine wp_ret ?_
      obtain rfl := Option.some.inj hP
      refine ret1 E rfl rfl ?_
      exact ⟨_, rfl, rfl, H.sel [] rfl⟩
     replace E := E_; clear E_
     have h64 : ¬ (((List.getD r23.1 (Int.toNat (0 : Int)) 0) : Int) = 1) := ne_of_beq_false hb_
     clear hb_; replace hP := ite_f h64 hP
     refine vn tbok 18 [] [(0, .bool false)] [] E (by kernel_rfl) (by kernel_rfl) trivial ?_
     clear E; intro a E
     refine wpList_nil ?_
     refine th_n ?_
     refine wp_ret ?_
     obtain rfl := Option.some.inj hP
     refine ret1 E rfl rfl ?_
     exact ⟨_, rfl, rfl, H.sel [] rfl⟩
    replace E := E_; clear E_
    have h65 : ¬ (((((List.length r35.1) : Nat) : Int) : Int) = 3) := ne_of_beq_false hb_
    clear hb_; replace hP := ite_f h65 hP
    refine vn tbok 24 [] [(0, .bool false)] [] E (by kernel_rfl) (by kernel_rfl) trivial ?_
    clear E; intro a E
    refine wpList_nil ?_
    refine th_n ?_
    refine wp_ret ?_
    obtain rfl := Option.some.inj hP
    refine ret1 E rfl rfl ?_
    exact ⟨_, rfl, rfl, H.sel [] rfl⟩
   replace E := E_; clear E_
   have h66 : ¬ (((((List.length r23.1) : Nat) : Int) : Int) = 3) := ne_of_beq_false hb_
   clear hb_; replace hP := ite_f h66 hP
   refine vn tbok 29 [] [(0, .bool false)] [] E (by kernel_rfl) (by kernel_rfl) trivial ?_
   clear E; intro a E
   refine wpList_nil ?_
   refine th_n ?_
   refine wp_ret ?_
   obtain rfl := Option.some.inj hP
   refine ret1 E rfl rfl ?_
   exact ⟨_, rfl, rfl, H.sel [] rfl⟩
  replace E := E_; clear E_
  have h67 : ¬ ((r35.2 : Int) = 0) := ne_of_beq_false hb_
  clear hb_; replace hP := ite_f h67 hP
  refine vn tbok 34 [] [(0, .bool false)] [] E (by kernel_rfl) (by kernel_rfl) trivial ?_
  clear E; intro a E
  refine wpList_nil ?_
  refine th_n ?_
  refine wp_ret ?_
  obtain rfl := Option.some.inj hP
  refine ret1 E rfl rfl ?_
  exact ⟨_, rfl, rfl, H.sel [] rfl⟩
 replace E := E_; clear E_
 have h68 : ¬ ((r23.2 : Int) = 0) := ne_of_beq_false hb_
 clear hb_; replace hP := ite_f h68 hP
 refine vn tbok 38 [] [(0, .bool false)] [] E (by kernel_rfl) (by kernel_rfl) trivial ?_
 clear E; intro a E
 refine wpList_nil ?_
 refine th_n ?_
 refine wp_ret ?_
 obtain rfl := Option.some.inj hP
 refine ret1 E rfl rfl ?_
 exact ⟨_, rfl, rfl, H.sel [] rfl⟩

/-! rejoinder/rejoinderlaw16.Small -/
def law16_Small (N : Nat) (aProps : Int) (aAccept : List Bool) (aGuard : List Int) (aNodes : List Nd) : Option Bool :=
  if (((List.length aAccept) : Nat) : Int) ≤ 24 then
    if aProps ≤ 4 then
      if (((List.length aNodes) : Nat) : Int) ≤ 400 then
        some (decide ((((List.length aGuard) : Nat) : Int) ≤ 300))
      else
        some false
    else
      some false
  else
    some false
set_option maxRecDepth 100000 in
set_option maxHeartbeats 4000000 in
theorem law16_Small_calls {N : Nat} {S Fa : Nat → Prop} {w0 : World} {r : Bool} (A1 : Option Addr) (c2 : Nat) (A5 : Option Addr) (c6 : Nat) (A9 : Option Addr) (c10 : Nat) (aProps : Int) (aAccept : List Bool) (aGuard : List Int) (aNodes : List Nd) (hk3 : List.length aAccept ≤ c2) (hk7 : List.length aGuard ≤ c6) (hk11 : List.length aNodes ≤ c10) (H : Hp S Fa w0 w0 [.ro false cBool A1 aAccept, .ro false (cInt .i64) A5 aGuard, .ro false cNode A9 aNodes]) (hP : law16_Small N aProps aAccept aGuard aNodes = some r) :
    Calls Try.prog 8 #[.agg #[.int .i64 aProps, .slice A1 (List.length aAccept) c2, .slice A5 (List.length aGuard) c6, .slice A9 (List.length aNodes) c10]] w0 fun e w' => ∃ v, e = .returned v ∧ v = .bool r ∧ Hp S Fa w0 w' [] := by
 refine enterV (n := 24) Try.func8 rfl rfl rfl ?_
 intro a E
 replace E := E.pick [(0, .agg #[.int .i64 aProps, .slice A1 (List.length aAccept) c2, .slice A5 (List.length aGuard) c6, .slice A9 (List.length aNodes) c10])] ⟨rfl, trivial⟩
 rw [law16_Small] at hP
 refine wp_seq ?_
 refine wp_region_lit ?_
 refine h_box H E rfl rfl rfl ?_
 intro w14 g13 a hc15 hg17 H_ E_
 replace E := E_ _ rfl; clear E_
 replace H := H_; clear H_; try dsimp only [setn, addE, goneL] at H
 refine vn tbok 1 [] [] [] E (by kernel_rfl) (by kernel_rfl) trivial ?_
 clear E; intro a E
 refine wpList_nil ?_
 refine th_n ?_
 refine wp_seq ?_
 refine wp_region_lit ?_
 refine vn tbok 5 [.slice A1 (List.length aAccept) c2] [(7, .bool (decide ((((List.length aAccept) : Nat) : Int) ≤ 24)))] [World.cell? w14 ⟨g13, 1, none⟩ = some (.slice A1 (List.length aAccept) c2)] E (by kernel_rfl) (by kernel_rfl) ((H.box 3 rfl).cell (j := 1) rfl) ?_
 clear E; intro a E
 refine E.cases (t := 7) rfl (fun hb_ E_ => ?_) (fun hb_ E_ => ?_)
 ·
  replace E := E_; clear E_
  have h18 : (((List.length aAccept) : Nat) : Int) ≤ 24 := of_decide_eq_true hb_
  clear hb_; replace hP := ite_t h18 hP
  refine vn tbok 5 [.int .i64 aProps] [(12, .bool (decide (aProps ≤ 4)))] [World.cell? w14 ⟨g13, 0, none⟩ = some (.int .i64 aProps)] E (by kernel_rfl) (by kernel_rfl) ((H.box 3 rfl).cell (j := 0) rfl) ?_
  clear E; intro a E
  refine E.cases (t := 12) rfl (fun hb_ E_ => ?_) (fun hb_ E_ => ?_)
  ·
   replace E := E_; clear E_
   have h19 : aProps ≤ 4 := of_decide_eq_true hb_
   clear hb_; replace hP := ite_t h19 hP
   refine vn tbok 6 [.slice A9 (List.length aNodes) c10] [(18, .bool (decide ((((List.length aNodes) : Nat) : Int) ≤ 400)))] [World.cell? w14 ⟨g13, 3, none⟩ = some (.slice A9 (List.length aNodes) c10)] E (by kernel_rfl) (by kernel_rfl) ((H.box 3 rfl).cell (j := 3) rfl) ?_
   clear E; intro a E
   refine E.cases (t := 18) rfl (fun hb_ E_ => ?_) (fun hb_ E_ => ?_)
   ·
    replace E := E_; clear E_
    have h20 : (((List.length aNodes) : Nat) : Int) ≤ 400 := of_decide_eq_true hb_
    clear hb_; replace hP := ite_t h20 hP
    refine vn tbok 6 [.slice A5 (List.length aGuard) c6] [(2, .bool (decide ((((List.length aGuard) : Nat) : Int) ≤ 300)))] [World.cell? w14 ⟨g13, 2, none⟩ = some (.slice A5 (List.length aGuard) c6)] E (by kernel_rfl) (by kernel_rfl) ((H.box 3 rfl).cell (j := 2) rfl) ?_
    clear E; intro a E
    refine wpList_nil ?_
    refine th_n ?_
    refine wp_ret ?_
    obtain rfl := Option.some.inj hP
    refine ret1 E rfl rfl ?_
    exact ⟨_, rfl, rfl, H.sel [] rfl⟩
   replace E := E_; clear E_
   have h21 : ¬ ((((List.length aNodes) : Nat) : Int) ≤ 400) := of_decide_eq_false hb_
   clear hb_; replace hP := ite_f h21 hP
   refine vn tbok 6 [] [(2, .bool false)] [] E (by kernel_rfl) (by kernel_rfl) trivial ?_
   clear E; intro a E
   refine wpList_nil ?_
   refine th_n ?_
   refine wp_ret ?_
   obtain rfl := Option.some.inj hP
   refine ret1 E rfl rfl ?_
   exact ⟨_, rfl, rfl, H.sel [] rfl⟩
  replace E := E_; clear E_
  have h22 : ¬ (aProps ≤ 4) := of_decide_eq_false hb_
  clear hb_; replace hP := ite_f h22 hP
  refine vn tbok 12 [] [(2, .bool false)] [] E (by kernel_rfl) (by kernel_rfl) trivial ?_
  clear E; intro a E
  refine wpList_nil ?_
  refine th_n ?_
  refine wp_ret ?_
  obtain rfl := Option.some.inj hP
  refine ret1 E rfl rfl ?_
  exact ⟨_, rfl, rfl, H.sel [] rfl⟩
 replace E := E_; clear E_
 have h23 : ¬ ((((List.length aAccept) : Nat) : Int) ≤ 24) := of_decide_eq_false hb_
 clear hb_; replace hP := ite_f h23 hP
 refine vn tbok 17 [] [(2, .bool false)] [] E (by kernel_rfl) (by kernel_rfl) trivial ?_
 clear E; intro a E
 refine wpList_nil ?_
 refine th_n ?_
 refine wp_ret ?_
 obtain rfl := Option.some.inj hP
 refine ret1 E rfl rfl ?_
 exact ⟨_, rfl, rfl, H.sel [] rfl⟩

/-! rejoinder/board.Goes -/
def board_Goes_l1 (N : Nat) (aGuard : List Int) (aNodes : List Nd) (q : Int) (r41 : List Int) (x177 : Int) (r315 : List Int) : Nat → (List Int) → Int → Option (List Int)
  | 0, _, _ => none
  | m417 + 1, row368, x371 =>
    if x371 < (((List.length r315) : Nat) : Int) then
      ask (idx x371 (List.length r315)) <|
      ask (idx q (List.length aGuard)) <|
      Option.bind (guard_Go N aNodes (List.getD aGuard (Int.toNat q) 0) (orV .u8 (List.getD r41 (Int.toNat x177) 0) (List.getD r315 (Int.toNat x371) 0))) fun r432 =>
      ask (List.length row368 + List.length ([r432.1] : List Int) ≤ 1000000000) <|
      ask (in64 (x371 + 1)) <|
      board_Goes_l1 N aGuard aNodes q r41 x177 r315 m417 (row368 ++ ([r432.1] : List Int)) (x371 + 1)
    else
      some row368
def board_Goes_l0 (N : Nat) (aGuard : List Int) (aNodes : List Nd) (s : Int × Int) (q : Int) (r41 : List Int) : Nat → (List (List Int)) → Int → Option (List (List Int))
  | 0, _, _ => none
  | m303 + 1, out174, x177 =>
    if x177 < (((List.length r41) : Nat) : Int) then
      ask (idx x177 (List.length r41)) <|
      Option.bind (board_Moves N s.2) fun r315 =>
      Option.bind (board_Goes_l1 N aGuard aNodes q r41 x177 r315 N [] 0) fun x418 =>
      ask (List.length out174 + List.length ([x418] : List (List Int)) ≤ 1000000000) <|
      ask (in64 (x177 + 1)) <|
      board_Goes_l0 N aGuard aNodes s q r41 m303 (out174 ++ ([x418] : List (List Int))) (x177 + 1)
    else
      some out174
def board_Goes (N : Nat) (aProps : Int) (aAccept : List Bool) (aGuard : List Int) (aNodes : List Nd) (s : Int × Int) (q : Int) : Option ((List (List Int)) × Int) :=
  Option.bind (board_Check N aProps aAccept aGuard aNodes (s.1, s.2)) fun r23 =>
  if (r23 : Int) = 0 then
    if q < 0 then
      some ([], 2)
    else
      if (((List.length aAccept) : Nat) : Int) ≤ q then
        some ([], 2)
      else
        Option.bind (board_Moves N s.1) fun r41 =>
        Option.bind (board_Goes_l0 N aGuard aNodes s q r41 N [] 0) fun x304 =>
        some (x304, 0)
  else
    some ([], r23)
set_option maxRecDepth 100000 in
set_option maxHeartbeats 4000000 in
theorem board_Goes_calls {N : Nat} {S Fa : Nat → Prop} {w0 : World} {r : (List (List Int)) × Int} (A1 : Option Addr) (c2 : Nat) (A5 : Option Addr) (c6 : Nat) (A9 : Option Addr) (c10 : Nat) (aProps : Int) (aAccept : List Bool) (aGuard : List Int) (aNodes : List Nd) (s : Int × Int) (q : Int) (hk3 : List.length aAccept ≤ c2) (hk7 : List.length aGuard ≤ c6) (hk11 : List.length aNodes ≤ c10) (H : Hp S Fa w0 w0 [.ro false cBool A1 aAccept, .ro false (cInt .i64) A5 aGuard, .ro false cNode A9 aNodes]) (hP : board_Goes N aProps aAccept aGuard aNodes s q = some r) :
    Calls Try.prog 75 #[.agg #[.int .i64 aProps, .slice A1 (List.length aAccept) c2, .slice A5 (List.length aGuard) c6, .slice A9 (List.length aNodes) c10], .agg #[.int .u8 s.1, .int .u8 s.2], .int .i64 q] w0 fun e w' => ∃ v, e = .returned v ∧ ∃ (A479 : Option Addr) (c480 : Nat), v = .tuple #[.slice A479 (List.length r.1) c480, .int .i64 r.2] ∧ Hp S Fa w0 w' [.row true (cSl (cInt .i64)) 23 A479 c480 r.1] := by
 refine enterV (n := 73) Try.func75 rfl rfl rfl ?_
 intro a E
 replace E := E.pick [(0, .agg #[.int .i64 aProps, .slice A1 (List.length aAccept) c2, .slice A5 (List.length aGuard) c6, .slice A9 (List.length aNodes) c10]), (1, .agg #[.int .u8 s.1, .int .u8 s.2]), (2, .int .i64 q)] ⟨rfl, rfl, rfl, trivial⟩
 rw [board_Goes] at hP
 refine wp_seq ?_
 refine wp_region_lit ?_
 refine h_box H E rfl rfl rfl ?_
 intro w14 g13 a hc15 hg17 H_ E_
 replace E := E_ _ rfl; clear E_
 replace H := H_; clear H_; try dsimp only [setn, addE, goneL] at H
 refine h_box H E rfl rfl rfl ?_
 intro w19 g18 a hc20 hg22 H_ E_
 replace E := E_ _ rfl; clear E_
 replace H := H_; clear H_; try dsimp only [setn, addE, goneL] at H
 refine vn tbok 2 [] [] [] E (by kernel_rfl) (by kernel_rfl) trivial ?_
 clear E; intro a E
 refine wpList_nil ?_
 refine th_n ?_
 refine wp_seq ?_
 refine wp_seq ?_
 refine wp_region_lit ?_
 refine vn tbok 2 [.agg #[.int .i64 aProps, .slice A1 (List.length aAccept) c2, .slice A5 (List.length aGuard) c6, .slice A9 (List.length aNodes) c10], .agg #[.int .u8 s.1, .int .u8 s.2]] [(17, .agg #[.int .i64 aProps, .slice A1 (List.length aAccept) c2, .slice A5 (List.length aGuard) c6, .slice A9 (List.length aNodes) c10]), (18, .agg #[.int .u8 s.1, .int .u8 s.2])] [cellsAt w19 g13 (0) [.int .i64 aProps, .slice A1 (List.length aAccept) c2, .slice A5 (List.length aGuard) c6, .slice A9 (List.length aNodes) c10], cellsAt w19 g18 (0) [.int .u8 s.1, .int .u8 s.2]] E (by kernel_rfl) (by kernel_rfl) ⟨(H.box 3 rfl).sub 0 _ rfl, (H.box 4 rfl).sub 0 _ rfl⟩ ?_
 clear E; intro a E
 obtain ⟨r23, h24, hP⟩ := bind_inv hP
 obtain ⟨Fa25, Hc26, hb27⟩ := H.call [] [(0, false), (1, false), (2, false)] rfl rfl trivial
 refine e_call E rfl rfl Try.func28 rfl rfl rfl (board_Check_calls A1 c2 A5 c6 A9 c10 aProps aAccept aGuard aNodes (s.1, s.2) hk3 hk7 hk11 Hc26 h24) ?_
 rintro v28 w29 a ⟨rfl, HR30⟩ E_
 replace E := E_ _ rfl; clear E_
 obtain ⟨H_, hc31⟩ := hb27 _ _ HR30 rfl
 replace H := H_; clear H_; try dsimp only [setn, addE, goneL] at H
 refine vn tbok 1 [] [(8, .int .i64 r23)] [] E (by kernel_rfl) (by kernel_rfl) trivial ?_
 clear E; intro a E
 refine wpList_nil ?_
 refine th_n ?_
 refine wp_seq ?_
 refine wp_region_lit ?_
 refine vn tbok 2 [] [(21, .bool ((r23 : Int) != 0))] [] E (by kernel_rfl) (by kernel_rfl) trivial ?_
 clear E; intro a E
 refine wpList_nil ?_
 refine th_n ?_
 refine E.cases (t := 21) rfl (fun hb_ E_ => ?_) (fun hb_ E_ => ?_)
 ·
  replace E := E_; clear E_
  have h32 : ¬ ((r23 : Int) = 0) := bne_iff_ne.1 hb_
  clear hb_; replace hP := ite_f h32 hP
  refine c_true E rfl ?_
  refine wp_seq ?_
  refine wp_region_lit ?_
  refine vn tbok 3 [] [(6, .slice none 0 0), (7, .int .i64 r23)] [] E (by kernel_rfl) (by kernel_rfl) trivial ?_
  clear E; intro a E
  refine wpList_nil ?_
  refine th_n ?_
  refine wp_ret ?_
  refine th_ret ?_
  replace H := H.nilrow (cSl (cInt .i64)) 23; try dsimp only [setn, addE, goneL] at H
  obtain rfl := Option.some.inj hP
  refine ret2 E rfl rfl rfl ?_
  exact ⟨_, rfl, none, 0, rfl, H.sel [5] rfl⟩
 replace E := E_; clear E_
 have h34 : (r23 : Int) = 0 := bne_eq_false_iff_eq.1 hb_
 clear hb_; replace hP := ite_t h34 hP
 refine c_false E rfl ?_
 refine wp_skip ?_
 refine th_n ?_
 refine wp_seq ?_
 refine wp_seq ?_
 refine wp_region_lit ?_
 refine vn tbok 3 [] [(25, .bool (decide (q < 0)))] [] E (by kernel_rfl) (by kernel_rfl) trivial ?_
 clear E; intro a E
 refine E.cases (t := 25) rfl (fun hb_ E_ => ?_) (fun hb_ E_ => ?_)
 ·
  replace E := E_; clear E_
  have h35 : q < 0 := of_decide_eq_true hb_
  clear hb_; replace hP := ite_t h35 hP
  refine vn tbok 6 [] [(31, .bool true)] [] E (by kernel_rfl) (by kernel_rfl) trivial ?_
  clear E; intro a E
  refine wpList_nil ?_
  refine th_n ?_
  refine c_true E rfl ?_
  refine wp_seq ?_
  refine wp_region_lit ?_
  refine vn tbok 2 [] [(6, .slice none 0 0), (7, .int .i64 2)] [] E (by kernel_rfl) (by kernel_rfl) trivial ?_
  clear E; intro a E
  refine wpList_nil ?_
  refine th_n ?_
  refine wp_ret ?_
  refine th_ret ?_
  replace H := H.nilrow (cSl (cInt .i64)) 23; try dsimp only [setn, addE, goneL] at H
  obtain rfl := Option.some.inj hP
  refine ret2 E rfl rfl rfl ?_
  exact ⟨_, rfl, none, 0, rfl, H.sel [5] rfl⟩
 replace E := E_; clear E_
 have h37 : ¬ (q < 0) := of_decide_eq_false hb_
 clear hb_; replace hP := ite_f h37 hP
 refine vn tbok 6 [.slice A1 (List.length aAccept) c2] [(31, .bool (decide ((((List.length aAccept) : Nat) : Int) ≤ q)))] [World.cell? w29 ⟨g13, 1, none⟩ = some (.slice A1 (List.length aAccept) c2)] E (by kernel_rfl) (by kernel_rfl) ((H.box 3 rfl).cell (j := 1) rfl) ?_
 clear E; intro a E
 refine wpList_nil ?_
 refine th_n ?_
 refine E.cases (t := 31) rfl (fun hb_ E_ => ?_) (fun hb_ E_ => ?_)
 ·
  replace E := E_; clear E_
  have h38 : (((List.length aAccept) : Nat) : Int) ≤ q := of_decide_eq_true hb_
  clear hb_; replace hP := ite_t h38 hP
  refine c_true E rfl ?_
  refine wp_seq ?_
  refine wp_region_lit ?_
  refine vn tbok 2 [] [(6, .slice none 0 0), (7, .int .i64 2)] [] E (by kernel_rfl) (by kernel_rfl) trivial ?_
  clear E; intro a E
  refine wpList_nil ?_
  refine th_n ?_
  refine wp_ret ?_
  refine th_ret ?_
  replace H := H.nilrow (cSl (cInt .i64)) 23; try dsimp only [setn, addE, goneL] at H
  obtain rfl := Option.some.inj hP
  refine ret2 E rfl rfl rfl ?_
  exact ⟨_, rfl, none, 0, rfl, H.sel [5] rfl⟩
 replace E := E_; clear E_
 have h40 : ¬ ((((List.length aAccept) : Nat) : Int) ≤ q) := of_decide_eq_false hb_
 clear hb_; replace hP := ite_f h40 hP
 refine c_false E rfl ?_
 refine wp_skip ?_
 refine th_n ?_
 refine wp_seq ?_
 refine wp_region_lit ?_
 refine vn tbok 1 [] [(9, .slice none 0 0)] [] E (by kernel_rfl) (by kernel_rfl) trivial ?_
 clear E; intro a E
 refine wpList_nil ?_
 refine th_n ?_
 refine wp_seq ?_
 refine wp_seq ?_
 refine wp_region_lit ?_
 refine vn tbok 2 [.int .u8 s.1] [(33, .int .u8 s.1)] [World.cell? w29 ⟨g18, 0, none⟩ = some (.int .u8 s.1)] E (by kernel_rfl) (by kernel_rfl) ((H.box 4 rfl).cell (j := 0) rfl) ?_
 clear E; intro a E
 obtain ⟨r41, h42, hP⟩ := bind_inv hP
 obtain ⟨Fa43, Hc44, hb45⟩ := H.call [] [] rfl rfl trivial
 refine e_call E rfl rfl Try.func29 rfl rfl rfl (board_Moves_calls  s.1  Hc44 h42) ?_
 rintro v46 w47 a ⟨A50, c51, rfl, HR48⟩ E_
 replace E := E_ _ rfl; clear E_
 obtain ⟨H_, hc49⟩ := hb45 _ _ HR48 rfl
 replace H := H_; clear H_; try dsimp only [setn, addE, goneL] at H
 refine vn tbok 2 [] [(35, .int .i64 (((List.length r41) : Nat) : Int)), (36, .int .i64 0)] [] E (by kernel_rfl) (by kernel_rfl) trivial ?_
 clear E; intro a E
 refine wpList_nil ?_
 refine th_n ?_
 refine wp_block ?_
 obtain ⟨x304, hL305, hK306⟩ := bind_inv hP
 clear hP
 replace H := H.nilrow (cSl (cInt .i64)) 23; try dsimp only [setn, addE, goneL] at H
 refine loop_cut (fun i_ a w_ => (i_ = 0 ∧ ∃ (x310 : List (List Int)), ∃ (A301 : Option Addr) (c302 : Nat), Fr a 73 [(9, .slice A301 (List.length x310) c302)] ∧ Hp S Fa w0 w_ [.row true (cSl (cInt .i64)) 23 A301 c302 x310] ∧ x304 = x310)) ?_ ?_
 ·
  refine loopV (fun m309 a w308 => ∃ (out174 : List (List Int)) (x177 : Int), ∃ (A175 : Option Addr) (c176 : Nat), Fr a 73 [(2, .int .i64 q), (3, .pointer (some ⟨g13, 0, none⟩)), (4, .pointer (some ⟨g18, 0, none⟩)), (9, .slice A175 (List.length out174) c176), (34, .slice A50 (List.length r41) c51), (35, .int .i64 (((List.length r41) : Nat) : Int)), (36, .int .i64 x177)] ∧ Hp S Fa w0 w308 [.ro false cBool A1 aAccept, .ro false (cInt .i64) A5 aGuard, .ro false cNode A9 aNodes, .box g13 26 [.int .i64 aProps, .slice A1 (List.length aAccept) c2, .slice A5 (List.length aGuard) c6, .slice A9 (List.length aNodes) c10], .box g18 29 [.int .u8 s.1, .int .u8 s.2], .row true (cSl (cInt .i64)) 23 A175 c176 out174, .row true (cInt .u8) 27 A50 c51 r41] ∧ board_Goes_l0 N aGuard aNodes s q r41 m309 out174 x177 = some x304) N ?_ ?_
  ·
   exact ⟨[], 0, none, 0, E.pick _ ⟨rfl, rfl, rfl, rfl, rfl, rfl, rfl, trivial⟩, H.sel [0, 1, 2, 3, 4, 6, 5] rfl, hL305⟩
  clear E H hL305; intro m309 a w308 hI_
  obtain ⟨out174, x177, A175, c176, E, H, hP⟩ := hI_
  obtain ⟨m303, rfl⟩ : ∃ q_, m309 = q_ + 1 := by cases m309 with | zero => rw [board_Goes_l0] at hP; cases hP | succ q_ => exact ⟨q_, rfl⟩
  rw [board_Goes_l0] at hP
  refine wp_seq ?_
  refine wp_region_lit ?_
  refine vn tbok 1 [] [(37, .bool (decide (x177 < (((List.length r41) : Nat) : Int))))] [] E (by kernel_rfl) (by kernel_rfl) trivial ?_
  clear E; intro a E
  refine wpList_nil ?_
  refine th_n ?_
  refine wp_seq ?_
  refine E.cases (t := 37) rfl (fun hb_ E_ => ?_) (fun hb_ E_ => ?_)
  ·
   replace E := E_; clear E_
   have h311 : x177 < (((List.length r41) : Nat) : Int) := of_decide_eq_true hb_
   clear hb_; replace hP := ite_t h311 hP
   refine c_true E rfl ?_
   refine wp_skip ?_
   refine th_n ?_
   refine wp_seq ?_
   refine wp_block ?_
   refine wp_seq ?_
   refine wp_region_lit ?_
   obtain ⟨g312, hP⟩ := ask_inv hP
   obtain ⟨b313, e_b313⟩ := H.raddr 6 rfl (idx_pos g312)
   subst e_b313
   refine vn tbok 3 [.int .u8 (List.getD r41 (Int.toNat x177) 0)] [(11, .int .u8 (List.getD r41 (Int.toNat x177) 0))] [0 ≤ x177 ∧ x177 < (((List.length r41) : Nat) : Int), World.cell? w308 ⟨b313, 0 + (Int.toNat x177) * 1, none⟩ = some (.int .u8 (List.getD r41 (Int.toNat x177) 0))] E (by kernel_rfl) (by kernel_rfl) ⟨g312, Rds.at1 (H.rd 6 rds_row) 0 g312⟩ ?_
   clear E; intro a E
   refine wpList_nil ?_
   refine th_n ?_
   refine wp_seq ?_
   refine wp_region_lit ?_
   refine vn tbok 1 [] [(12, .slice none 0 0)] [] E (by kernel_rfl) (by kernel_rfl) trivial ?_
   clear E; intro a E
   refine wpList_nil ?_
   refine th_n ?_
   refine wp_seq ?_
   refine wp_seq ?_
   refine wp_region_lit ?_
   refine vn tbok 2 [.int .u8 s.2] [(41, .int .u8 s.2)] [World.cell? w308 ⟨g18, 1, none⟩ = some (.int .u8 s.2)] E (by kernel_rfl) (by kernel_rfl) ((H.box 4 rfl).cell (j := 1) rfl) ?_
   clear E; intro a E
   obtain ⟨r315, h316, hP⟩ := bind_inv hP
   obtain ⟨Fa317, Hc318, hb319⟩ := H.call [] [] rfl rfl trivial
   refine e_call E rfl rfl Try.func29 rfl rfl rfl (board_Moves_calls  s.2  Hc318 h316) ?_
   rintro v320 w321 a ⟨A324, c325, rfl, HR322⟩ E_
   replace E := E_ _ rfl; clear E_
   obtain ⟨H_, hc323⟩ := hb319 _ _ HR322 rfl
   replace H := H_; clear H_; try dsimp only [setn, addE, goneL] at H
   refine vn tbok 2 [] [(43, .int .i64 (((List.length r315) : Nat) : Int)), (44, .int .i64 0)] [] E (by kernel_rfl) (by kernel_rfl) trivial ?_
   clear E; intro a E
   refine wpList_nil ?_
   refine th_n ?_
   refine wp_block ?_
   obtain ⟨x418, hL419, hK420⟩ := bind_inv hP
   clear hP
   replace H := H.nilrow (cInt .i64) 3; try dsimp only [setn, addE, goneL] at H
   refine loop_cut (fun i_ a w_ => (i_ = 2 ∧ ∃ (x424 : List Int), ∃ (A415 : Option Addr) (c416 : Nat), Fr a 73 [(2, .int .i64 q), (3, .pointer (some ⟨g13, 0, none⟩)), (4, .pointer (some ⟨g18, 0, none⟩)), (9, .slice A175 (List.length out174) c176), (12, .slice A415 (List.length x424) c416), (34, .slice (some ⟨b313, 0, none⟩) (List.length r41) c51), (35, .int .i64 (((List.length r41) : Nat) : Int)), (36, .int .i64 x177)] ∧ Hp S Fa w0 w_ [.ro false cBool A1 aAccept, .ro false (cInt .i64) A5 aGuard, .ro false cNode A9 aNodes, .box g13 26 [.int .i64 aProps, .slice A1 (List.length aAccept) c2, .slice A5 (List.length aGuard) c6, .slice A9 (List.length aNodes) c10], .box g18 29 [.int .u8 s.1, .int .u8 s.2], .row true (cSl (cInt .i64)) 23 A175 c176 out174, .row true (cInt .i64) 3 A415 c416 x424, .row true (cInt .u8) 27 (some ⟨b313, 0, none⟩) c51 r41] ∧ x418 = x424)) ?_ ?_
   ·
    refine loopV (fun m423 a w422 => ∃ (row368 : List Int) (x371 : Int), ∃ (A369 : Option Addr) (c370 : Nat), Fr a 73 [(2, .int .i64 q), (3, .pointer (some ⟨g13, 0, none⟩)), (4, .pointer (some ⟨g18, 0, none⟩)), (9, .slice A175 (List.length out174) c176), (11, .int .u8 (List.getD r41 (Int.toNat x177) 0)), (12, .slice A369 (List.length row368) c370), (34, .slice (some ⟨b313, 0, none⟩) (List.length r41) c51), (35, .int .i64 (((List.length r41) : Nat) : Int)), (36, .int .i64 x177), (42, .slice A324 (List.length r315) c325), (43, .int .i64 (((List.length r315) : Nat) : Int)), (44, .int .i64 x371)] ∧ Hp S Fa w0 w422 [.ro false cBool A1 aAccept, .ro false (cInt .i64) A5 aGuard, .ro false cNode A9 aNodes, .box g13 26 [.int .i64 aProps, .slice A1 (List.length aAccept) c2, .slice A5 (List.length aGuard) c6, .slice A9 (List.length aNodes) c10], .box g18 29 [.int .u8 s.1, .int .u8 s.2], .row true (cSl (cInt .i64)) 23 A175 c176 out174, .row true (cInt .i64) 3 A369 c370 row368, .row true (cInt .u8) 27 (some ⟨b313, 0, none⟩) c51 r41, .row true (cInt .u8) 27 A324 c325 r315] ∧ board_Goes_l1 N aGuard aNodes q r41 x177 r315 m423 row368 x371 = some x418) N ?_ ?_
    ·
     exact ⟨[], 0, none, 0, E.pick _ ⟨rfl, rfl, rfl, rfl, rfl, rfl, rfl, rfl, rfl, rfl, rfl, rfl, trivial⟩, H.sel [0, 1, 2, 3, 4, 5, 8, 6, 7] rfl, hL419⟩
    clear E H hL419; intro m423 a w422 hI_
    obtain ⟨row368, x371, A369, c370, E, H, hP⟩ := hI_
    obtain ⟨m417, rfl⟩ : ∃ q_, m423 = q_ + 1 := by cases m423 with | zero => rw [board_Goes_l1] at hP; cases hP | succ q_ => exact ⟨q_, rfl⟩
    rw [board_Goes_l1] at hP
    refine wp_seq ?_
    refine wp_region_lit ?_
    refine vn tbok 1 [] [(45, .bool (decide (x371 < (((List.length r315) : Nat) : Int))))] [] E (by kernel_rfl) (by kernel_rfl) trivial ?_
    clear E; intro a E
    refine wpList_nil ?_
    refine th_n ?_
    refine wp_seq ?_
    refine E.cases (t := 45) rfl (fun hb_ E_ => ?_) (fun hb_ E_ => ?_)
    ·
     replace E := E_; clear E_
     have h425 : x371 < (((List.length r315) : Nat) : Int) := of_decide_eq_true hb_
     clear hb_; replace hP := ite_t h425 hP
     refine c_true E rfl ?_
     refine wp_skip ?_
     refine th_n ?_
     refine wp_seq ?_
     refine wp_block ?_
     refine wp_seq ?_
     refine wp_region_lit ?_
     obtain ⟨g426, hP⟩ := ask_inv hP
     obtain ⟨b427, e_b427⟩ := H.raddr 8 rfl (idx_pos g426)
     subst e_b427
     refine vn tbok 3 [.int .u8 (List.getD r315 (Int.toNat x371) 0)] [(14, .int .u8 (List.getD r315 (Int.toNat x371) 0))] [0 ≤ x371 ∧ x371 < (((List.length r315) : Nat) : Int), World.cell? w422 ⟨b427, 0 + (Int.toNat x371) * 1, none⟩ = some (.int .u8 (List.getD r315 (Int.toNat x371) 0))] E (by kernel_rfl) (by kernel_rfl) ⟨g426, Rds.at1 (H.rd 8 rds_row) 0 g426⟩ ?_
     clear E; intro a E
     refine wpList_nil ?_
     refine th_n ?_
     refine wp_seq ?_
     obtain ⟨g429, hP⟩ := ask_inv hP
     obtain ⟨b430, o431, e_b430⟩ := (H.rd 1 rds_ro).addr (idx_pos g429)
     subst e_b430
     obtain ⟨r432, h433, hP⟩ := bind_inv hP
     have HR444 := H
     refine dr_start (S := fun w_ => Chg (atL []) w422 w_) (by kernel_rfl) ?_
     intro w441 hc442
     have HS443 : Chg (atL []) w422 w441 := hc442.mono (fun _ _ h_ => h_.elim)
     replace H := H.ext hc442
     refine dn tbok (by kernel_rfl) [0, 1, 2, 3, 4, 5, 6, 7, 8, 9] [.slice A9 (List.length aNodes) c10, .slice (some ⟨b430, o431, none⟩) (List.length aGuard) c6, .int .i64 (List.getD aGuard (Int.toNat q) 0), .int .u8 (orV .u8 (List.getD r41 (Int.toNat x177) 0) (List.getD r315 (Int.toNat x371) 0))] [(50, .slice A9 (List.length aNodes) c10), (55, .int .i64 (List.getD aGuard (Int.toNat q) 0)), (58, .int .u8 (orV .u8 (List.getD r41 (Int.toNat x177) 0) (List.getD r315 (Int.toNat x371) 0)))] (fun w_ => [World.cell? w_ ⟨g13, 3, none⟩ = some (.slice A9 (List.length aNodes) c10), World.cell? w_ ⟨g13, 2, none⟩ = some (.slice (some ⟨b430, o431, none⟩) (List.length aGuard) c6), 0 ≤ q ∧ q < (((List.length aGuard) : Nat) : Int), World.cell? w_ ⟨b430, o431 + (Int.toNat q) * 1, none⟩ = some (.int .i64 (List.getD aGuard (Int.toNat q) 0)), IntKind.u8.wrap (BitVec.ofInt (IntKind.bits .u8) (List.getD r41 (Int.toNat x177) 0) ||| BitVec.ofInt (IntKind.bits .u8) (List.getD r315 (Int.toNat x371) 0)).toNat = orV .u8 (List.getD r41 (Int.toNat x177) 0) (List.getD r315 (Int.toNat x371) 0)]) 6 E (fun _ _ => by kernel_rfl) (by kernel_rfl) (fun w_ hS_ => ⟨(HR444.boxk [] hS_ 3 rfl rfl).cell (j := 3) rfl, (HR444.boxk [] hS_ 3 rfl rfl).cell (j := 2) rfl, g429, Rds.at1 (HR444.rdk [] hS_ 1 rds_ro rfl) 0 g429, rfl⟩) (by kernel_rfl) HS443 ?_
     clear E; intro a E
     refine wpAnyH_all (rs := [10]) (by kernel_rfl) (by simp) ?_
     refine all1 ?_
     refine wpOp_of_list rfl ?_
     obtain ⟨Fa445, Hc446, hb447⟩ := H.call [] [(2, false)] rfl rfl trivial
     refine e_call E rfl rfl Try.func73 rfl rfl rfl (guard_Go_calls A9 c10 aNodes (List.getD aGuard (Int.toNat q) 0) (orV .u8 (List.getD r41 (Int.toNat x177) 0) (List.getD r315 (Int.toNat x371) 0)) hk11 Hc446 h433) ?_
     rintro v448 w449 a ⟨rfl, HR450⟩ E_
     replace E := E_ _ rfl; clear E_
     obtain ⟨H_, hc451⟩ := hb447 _ _ HR450 rfl
     replace HS443 := HS443.ext (callS_ext hc451)
     replace H := H_; clear H_; try dsimp only [setn, addE, goneL] at H
     refine wpList_nil ?_
     refine th_n ⟨HS443, ?_⟩
     refine dn tbok (by kernel_rfl) [11, 12, 13, 14, 15] [] [(15, .int .i64 r432.1)] (fun w_ => []) 0 E (fun _ _ => by kernel_rfl) (by kernel_rfl) (fun w_ hS_ => trivial) (by kernel_rfl) HS443 ?_
     clear E; intro a E
     refine dr_done (by kernel_rfl) ?_
     clear HS443 HR444
     refine th_n ?_
     refine wp_region_lit ?_
     refine vn tbok 2 [] [(62, .slice A369 (List.length row368) c370), (63, .int .i64 r432.1)] [] E (by kernel_rfl) (by kernel_rfl) trivial ?_
     clear E; intro a E
     refine h_buildSlice (ps := [(0, .int .i64 r432.1)]) (cs := [.int .i64 r432.1]) H E rfl rfl tbok rfl rfl (by kernel_rfl) ?_
     intro w453 g452 a hc454 hg456 H_ E_
     replace E := E_ _ rfl; clear E_
     replace H := H_; clear H_; try dsimp only [setn, addE, goneL] at H
     obtain ⟨g457, hP⟩ := ask_inv hP
     refine h_append (cInt .i64) (xs := row368) (ys := ([r432.1] : List Int)) (0 : Int) H 6 rfl E rfl rfl tbok rfl rfl rfl rfl rfl (fun _ _ => rfl) rfl rfl (fun _ HF_ => HF_.srcB 9 rfl (⟨_, _, rfl, rfl, rfl⟩)) g457 ?_
     intro w458 A459 c460 a hc461 hA462 H_ E_
     replace E := E_ _ rfl; clear E_
     replace H := H_; clear H_; try dsimp only [setn, addE, goneL] at H
     refine vn tbok 1 [] [(12, .slice A459 (List.length (row368 ++ ([r432.1] : List Int))) c460)] [] E (by kernel_rfl) (by kernel_rfl) trivial ?_
     clear E; intro a E
     refine wpList_nil ?_
     refine bl_n ?_
     refine th_n ?_
     refine wp_region_lit ?_
     obtain ⟨g463, hP⟩ := ask_inv hP
     refine vn tbok 2 [.int .i64 (x371 + 1)] [(44, .int .i64 (x371 + 1))] [IntKind.i64.wrap (x371 + 1) = x371 + 1] E (by kernel_rfl) (by kernel_rfl) (wrap_in g463) ?_
     clear E; intro a E
     refine wpList_nil ?_
     exact th_n ⟨m417, Nat.lt_succ_self _, row368 ++ ([r432.1] : List Int), x371 + 1, A459, c460, E.pick _ ⟨rfl, rfl, rfl, rfl, rfl, rfl, rfl, rfl, rfl, rfl, rfl, rfl, trivial⟩, H.sel [0, 1, 2, 3, 4, 5, 6, 7, 8] rfl, hP⟩
    replace E := E_; clear E_
    have h464 : ¬ (x371 < (((List.length r315) : Nat) : Int)) := of_decide_eq_false hb_
    clear hb_; replace hP := ite_f h464 hP
    refine c_false E rfl ?_
    refine wp_exit ?_
    refine th_exit ?_
    have hx_ := Option.some.inj hP
    refine th_exit (.inl ⟨2, rfl, ?_⟩)
    exact ⟨rfl, row368, A369, c370, E.pick _ ⟨rfl, rfl, rfl, rfl, rfl, rfl, rfl, rfl, trivial⟩, H.sel [0, 1, 2, 3, 4, 5, 6, 7] rfl, hx_.symm⟩
   clear E H hL419; intro i_ a w422 hM_
   obtain ⟨rfl, x424, A415, c416, E, H, hx_⟩ := hM_
   subst hx_; have hP := hK420; clear hK420
   refine bl_hit ?_
   refine th_n ?_
   refine wp_region_lit ?_
   refine vn tbok 2 [] [(67, .slice A175 (List.length out174) c176), (68, .slice A415 (List.length x418) c416)] [] E (by kernel_rfl) (by kernel_rfl) trivial ?_
   clear E; intro a E
   refine h_buildSlice (ps := [(0, .slice A415 (List.length x418) c416)]) (cs := [.slice A415 (List.length x418) c416]) H E rfl rfl tbok rfl rfl (by kernel_rfl) ?_
   intro w466 g465 a hc467 hg469 H_ E_
   replace E := E_ _ rfl; clear E_
   replace H := H_; clear H_; try dsimp only [setn, addE, goneL] at H
   have hk470 := H.rcap 6 rfl
   replace H := H.frz 6 rfl; try dsimp only [setn, addE, goneL] at H
   obtain ⟨g471, hP⟩ := ask_inv hP
   refine h_append (cSl (cInt .i64)) (xs := out174) (ys := ([x418] : List (List Int))) ([] : List Int) H 5 rfl E rfl rfl tbok rfl rfl rfl rfl rfl (fun _ _ => kSl_nil) rfl rfl (fun _ HF_ => HF_.srcB 8 rfl ⟨_, _, rfl, ⟨_, _, rfl, hk470, (HF_.roC 6 rfl)⟩, rfl⟩) g471 ?_
   intro w472 A473 c474 a hc475 hA476 H_ E_
   replace E := E_ _ rfl; clear E_
   replace H := H_; clear H_; try dsimp only [setn, addE, goneL] at H
   refine vn tbok 1 [] [(9, .slice A473 (List.length (out174 ++ ([x418] : List (List Int)))) c474)] [] E (by kernel_rfl) (by kernel_rfl) trivial ?_
   clear E; intro a E
   refine wpList_nil ?_
   refine bl_n ?_
   refine th_n ?_
   refine wp_region_lit ?_
   obtain ⟨g477, hP⟩ := ask_inv hP
   refine vn tbok 2 [.int .i64 (x177 + 1)] [(36, .int .i64 (x177 + 1))] [IntKind.i64.wrap (x177 + 1) = x177 + 1] E (by kernel_rfl) (by kernel_rfl) (wrap_in g477) ?_
   clear E; intro a E
   refine wpList_nil ?_
   exact th_n ⟨m303, Nat.lt_succ_self _, out174 ++ ([x418] : List (List Int)), x177 + 1, A473, c474, E.pick _ ⟨rfl, rfl, rfl, rfl, rfl, rfl, rfl, trivial⟩, H.sel [0, 1, 2, 3, 4, 5, 7] rfl, hP⟩
  replace E := E_; clear E_
  have h478 : ¬ (x177 < (((List.length r41) : Nat) : Int)) := of_decide_eq_false hb_
  clear hb_; replace hP := ite_f h478 hP
  refine c_false E rfl ?_
  refine wp_exit ?_
  refine th_exit ?_
  have hx_ := Option.some.inj hP
  refine th_exit (.inl ⟨0, rfl, ?_⟩)
  exact ⟨rfl, out174, A175, c176, E.pick _ ⟨rfl, trivial⟩, H.sel [5] rfl, hx_.symm⟩
 clear E H hL305; intro i_ a w308 hM_
 obtain ⟨rfl, x310, A301, c302, E, H, hx_⟩ := hM_
 subst hx_; have hP := hK306; clear hK306
 refine bl_hit ?_
 refine th_n ?_
 refine wp_seq ?_
 refine wp_region_lit ?_
 refine vn tbok 3 [] [(6, .slice A301 (List.length x304) c302), (7, .int .i64 0)] [] E (by kernel_rfl) (by kernel_rfl) trivial ?_
 clear E; intro a E
 refine wpList_nil ?_
 refine th_n ?_
 refine wp_ret ?_
 obtain rfl := Option.some.inj hP
 refine ret2 E rfl rfl rfl ?_
 exact ⟨_, rfl, A301, c302, rfl, H.sel [0] rfl⟩

/-! rejoinder/attract.rows -/
def attract_rows_l0 (N : Nat) (aProps : Int) (aAccept : List Bool) (aGuard : List Int) (aNodes : List Nd) (s : Int × Int) : Nat → (List (List (List Int))) → Int → Option ((List (List (List Int))) ⊕ ((List (List (List Int))) × Int))
  | 0, _, _ => none
  | m103 + 1, out65, x68 =>
    if x68 < (((List.length aAccept) : Nat) : Int) then
      Option.bind (board_Goes N aProps aAccept aGuard aNodes (s.1, s.2) x68) fun r112 =>
      if (r112.2 : Int) = 0 then
        ask (List.length out65 + List.length ([r112.1] : List (List (List Int))) ≤ 1000000000) <|
        ask (in64 (x68 + 1)) <|
        attract_rows_l0 N aProps aAccept aGuard aNodes s m103 (out65 ++ ([r112.1] : List (List (List Int)))) (x68 + 1)
      else
        some (Sum.inr ([], r112.2))
    else
      some (Sum.inl out65)
def attract_rows (N : Nat) (aProps : Int) (aAccept : List Bool) (aGuard : List Int) (aNodes : List Nd) (s : Int × Int) : Option ((List (List (List Int))) × Int) :=
  Option.bind (board_Check N aProps aAccept aGuard aNodes (s.1, s.2)) fun r23 =>
  if (r23 : Int) = 0 then
    Option.bind (attract_rows_l0 N aProps aAccept aGuard aNodes s N [] 0) fun x104 =>
    Sum.elim (fun x110 =>
      some (x110, 0))
     (fun x141 =>
      some x141) x104
  else
    some ([], r23)
set_option maxRecDepth 100000 in
set_option maxHeartbeats 4000000 in
theorem attract_rows_calls {N : Nat} {S Fa : Nat → Prop} {w0 : World} {r : (List (List (List Int))) × Int} (A1 : Option Addr) (c2 : Nat) (A5 : Option Addr) (c6 : Nat) (A9 : Option Addr) (c10 : Nat) (aProps : Int) (aAccept : List Bool) (aGuard : List Int) (aNodes : List Nd) (s : Int × Int) (hk3 : List.length aAccept ≤ c2) (hk7 : List.length aGuard ≤ c6) (hk11 : List.length aNodes ≤ c10) (H : Hp S Fa w0 w0 [.ro false cBool A1 aAccept, .ro false (cInt .i64) A5 aGuard, .ro false cNode A9 aNodes]) (hP : attract_rows N aProps aAccept aGuard aNodes s = some r) :
    Calls Try.prog 53 #[.agg #[.int .i64 aProps, .slice A1 (List.length aAccept) c2, .slice A5 (List.length aGuard) c6, .slice A9 (List.length aNodes) c10], .agg #[.int .u8 s.1, .int .u8 s.2]] w0 fun e w' => ∃ v, e = .returned v ∧ ∃ (A142 : Option Addr) (c143 : Nat), v = .tuple #[.slice A142 (List.length r.1) c143, .int .i64 r.2] ∧ Hp S Fa w0 w' [.row true (cSl (cSl (cInt .i64))) 45 A142 c143 r.1] := by
 refine enterV (n := 39) Try.func53 rfl rfl rfl ?_
 intro a E
 replace E := E.pick [(0, .agg #[.int .i64 aProps, .slice A1 (List.length aAccept) c2, .slice A5 (List.length aGuard) c6, .slice A9 (List.length aNodes) c10]), (1, .agg #[.int .u8 s.1, .int .u8 s.2])] ⟨rfl, rfl, trivial⟩
 rw [attract_rows] at hP
 refine wp_seq ?_
 refine wp_region_lit ?_
 refine h_box H E rfl rfl rfl ?_
 intro w14 g13 a hc15 hg17 H_ E_
 replace E := E_ _ rfl; clear E_
 replace H := H_; clear H_; try dsimp only [setn, addE, goneL] at H
 refine h_box H E rfl rfl rfl ?_
 intro w19 g18 a hc20 hg22 H_ E_
 replace E := E_ _ rfl; clear E_
 replace H := H_; clear H_; try dsimp only [setn, addE, goneL] at H
 refine vn tbok 2 [] [] [] E (by kernel_rfl) (by kernel_rfl) trivial ?_
 clear E; intro a E
 refine wpList_nil ?_
 refine th_n ?_
 refine wp_seq ?_
 refine wp_seq ?_
 refine wp_region_lit ?_
 refine vn tbok 2 [.agg #[.int .i64 aProps, .slice A1 (List.length aAccept) c2, .slice A5 (List.length aGuard) c6, .slice A9 (List.length aNodes) c10], .agg #[.int .u8 s.1, .int .u8 s.2]] [(11, .agg #[.int .i64 aProps, .slice A1 (List.length aAccept) c2, .slice A5 (List.length aGuard) c6, .slice A9 (List.length aNodes) c10]), (12, .agg #[.int .u8 s.1, .int .u8 s.2])] [cellsAt w19 g13 (0) [.int .i64 aProps, .slice A1 (List.length aAccept) c2, .slice A5 (List.length aGuard) c6, .slice A9 (List.length aNodes) c10], cellsAt w19 g18 (0) [.int .u8 s.1, .int .u8 s.2]] E (by kernel_rfl) (by kernel_rfl) ⟨(H.box 3 rfl).sub 0 _ rfl, (H.box 4 rfl).sub 0 _ rfl⟩ ?_
 clear E; intro a E
 obtain ⟨r23, h24, hP⟩ := bind_inv hP
 obtain ⟨Fa25, Hc26, hb27⟩ := H.call [] [(0, false), (1, false), (2, false)] rfl rfl trivial
 refine e_call E rfl rfl Try.func28 rfl rfl rfl (board_Check_calls A1 c2 A5 c6 A9 c10 aProps aAccept aGuard aNodes (s.1, s.2) hk3 hk7 hk11 Hc26 h24) ?_
 rintro v28 w29 a ⟨rfl, HR30⟩ E_
 replace E := E_ _ rfl; clear E_
 obtain ⟨H_, hc31⟩ := hb27 _ _ HR30 rfl
 replace H := H_; clear H_; try dsimp only [setn, addE, goneL] at H
 refine vn tbok 1 [] [(6, .int .i64 r23)] [] E (by kernel_rfl) (by kernel_rfl) trivial ?_
 clear E; intro a E
 refine wpList_nil ?_
 refine th_n ?_
 refine wp_seq ?_
 refine wp_region_lit ?_
 refine vn tbok 2 [] [(15, .bool ((r23 : Int) != 0))] [] E (by kernel_rfl) (by kernel_rfl) trivial ?_
 clear E; intro a E
 refine wpList_nil ?_
 refine th_n ?_
 refine E.cases (t := 15) rfl (fun hb_ E_ => ?_) (fun hb_ E_ => ?_)
 ·
  replace E := E_; clear E_
  have h32 : ¬ ((r23 : Int) = 0) := bne_iff_ne.1 hb_
  clear hb_; replace hP := ite_f h32 hP
  refine c_true E rfl ?_
  refine wp_seq ?_
  refine wp_region_lit ?_
  refine vn tbok 3 [] [(4, .slice none 0 0), (5, .int .i64 r23)] [] E (by kernel_rfl) (by kernel_rfl) trivial ?_
  clear E; intro a E
  refine wpList_nil ?_
  refine th_n ?_
  refine wp_ret ?_
  refine th_ret ?_
  replace H := H.nilrow (cSl (cSl (cInt .i64))) 45; try dsimp only [setn, addE, goneL] at H
  obtain rfl := Option.some.inj hP
  refine ret2 E rfl rfl rfl ?_
  exact ⟨_, rfl, none, 0, rfl, H.sel [5] rfl⟩
 replace E := E_; clear E_
 have h34 : (r23 : Int) = 0 := bne_eq_false_iff_eq.1 hb_
 clear hb_; replace hP := ite_t h34 hP
 refine c_false E rfl ?_
 refine wp_skip ?_
 refine th_n ?_
 refine wp_seq ?_
 refine wp_region_lit ?_
 refine vn tbok 1 [] [(7, .slice none 0 0)] [] E (by kernel_rfl) (by kernel_rfl) trivial ?_
 clear E; intro a E
 refine wpList_nil ?_
 refine th_n ?_
 refine wp_seq ?_
 refine wp_seq ?_
 refine wp_region_lit ?_
 refine vn tbok 4 [.slice A1 (List.length aAccept) c2] [(19, .int .i64 (((List.length aAccept) : Nat) : Int)), (20, .int .i64 0)] [World.cell? w29 ⟨g13, 1, none⟩ = some (.slice A1 (List.length aAccept) c2)] E (by kernel_rfl) (by kernel_rfl) ((H.box 3 rfl).cell (j := 1) rfl) ?_
 clear E; intro a E
 refine wpList_nil ?_
 refine th_n ?_
 refine wp_block ?_
 obtain ⟨x104, hL105, hK106⟩ := bind_inv hP
 clear hP
 replace H := H.nilrow (cSl (cSl (cInt .i64))) 45; try dsimp only [setn, addE, goneL] at H
 refine loop_cut (fun i_ a w_ => (i_ = 0 ∧ ∃ (x110 : List (List (List Int))), ∃ (A101 : Option Addr) (c102 : Nat), Fr a 39 [(7, .slice A101 (List.length x110) c102)] ∧ Hp S Fa w0 w_ [.row true (cSl (cSl (cInt .i64))) 45 A101 c102 x110] ∧ x104 = Sum.inl x110)) ?_ ?_
 ·
  refine loopV (fun m109 a w108 => ∃ (out65 : List (List (List Int))) (x68 : Int), ∃ (A66 : Option Addr) (c67 : Nat), Fr a 39 [(2, .pointer (some ⟨g13, 0, none⟩)), (3, .pointer (some ⟨g18, 0, none⟩)), (7, .slice A66 (List.length out65) c67), (19, .int .i64 (((List.length aAccept) : Nat) : Int)), (20, .int .i64 x68)] ∧ Hp S Fa w0 w108 [.ro false cBool A1 aAccept, .ro false (cInt .i64) A5 aGuard, .ro false cNode A9 aNodes, .box g13 26 [.int .i64 aProps, .slice A1 (List.length aAccept) c2, .slice A5 (List.length aGuard) c6, .slice A9 (List.length aNodes) c10], .box g18 29 [.int .u8 s.1, .int .u8 s.2], .row true (cSl (cSl (cInt .i64))) 45 A66 c67 out65] ∧ attract_rows_l0 N aProps aAccept aGuard aNodes s m109 out65 x68 = some x104) N ?_ ?_
  ·
   exact ⟨[], 0, none, 0, E.pick _ ⟨rfl, rfl, rfl, rfl, rfl, trivial⟩, H.sel [0, 1, 2, 3, 4, 5] rfl, hL105⟩
  clear E H hL105; intro m109 a w108 hI_
  obtain ⟨out65, x68, A66, c67, E, H, hP⟩ := hI_
  obtain ⟨m103, rfl⟩ : ∃ q_, m109 = q_ + 1 := by cases m109 with | zero => rw [attract_rows_l0] at hP; cases hP | succ q_ => exact ⟨q_, rfl⟩
  rw [attract_rows_l0] at hP
  refine wp_seq ?_
  refine wp_region_lit ?_
  refine vn tbok 1 [] [(21, .bool (decide (x68 < (((List.length aAccept) : Nat) : Int))))] [] E (by kernel_rfl) (by kernel_rfl) trivial ?_
  clear E; intro a E
  refine wpList_nil ?_
  refine th_n ?_
  refine wp_seq ?_
  refine E.cases (t := 21) rfl (fun hb_ E_ => ?_) (fun hb_ E_ => ?_)
  ·
   replace E := E_; clear E_
   have h111 : x68 < (((List.length aAccept) : Nat) : Int) := of_decide_eq_true hb_
   clear hb_; replace hP := ite_t h111 hP
   refine c_true E rfl ?_
   refine wp_skip ?_
   refine th_n ?_
   refine wp_seq ?_
   refine wp_block ?_
   refine wp_seq ?_
   refine wp_region_lit ?_
   refine vn tbok 2 [] [(8, .int .i64 x68)] [] E (by kernel_rfl) (by kernel_rfl) trivial ?_
   clear E; intro a E
   refine wpList_nil ?_
   refine th_n ?_
   refine wp_seq ?_
   refine wp_region_lit ?_
   refine vn tbok 3 [.agg #[.int .i64 aProps, .slice A1 (List.length aAccept) c2, .slice A5 (List.length aGuard) c6, .slice A9 (List.length aNodes) c10], .agg #[.int .u8 s.1, .int .u8 s.2]] [(24, .agg #[.int .i64 aProps, .slice A1 (List.length aAccept) c2, .slice A5 (List.length aGuard) c6, .slice A9 (List.length aNodes) c10]), (25, .agg #[.int .u8 s.1, .int .u8 s.2]), (26, .int .i64 x68)] [cellsAt w108 g13 (0) [.int .i64 aProps, .slice A1 (List.length aAccept) c2, .slice A5 (List.length aGuard) c6, .slice A9 (List.length aNodes) c10], cellsAt w108 g18 (0) [.int .u8 s.1, .int .u8 s.2]] E (by kernel_rfl) (by kernel_rfl) ⟨(H.box 3 rfl).sub 0 _ rfl, (H.box 4 rfl).sub 0 _ rfl⟩ ?_
   clear E; intro a E
   obtain ⟨r112, h113, hP⟩ := bind_inv hP
   obtain ⟨Fa114, Hc115, hb116⟩ := H.call [] [(0, false), (1, false), (2, false)] rfl rfl trivial
   refine e_call E rfl rfl Try.func75 rfl rfl rfl (board_Goes_calls A1 c2 A5 c6 A9 c10 aProps aAccept aGuard aNodes (s.1, s.2) x68 hk3 hk7 hk11 Hc115 h113) ?_
   rintro v117 w118 a ⟨A121, c122, rfl, HR119⟩ E_
   replace E := E_ _ rfl; clear E_
   obtain ⟨H_, hc120⟩ := hb116 _ _ HR119 rfl
   replace H := H_; clear H_; try dsimp only [setn, addE, goneL] at H
   refine vn tbok 5 [] [(9, .slice A121 (List.length r112.1) c122), (10, .int .i64 r112.2)] [] E (by kernel_rfl) (by kernel_rfl) trivial ?_
   clear E; intro a E
   refine wpList_nil ?_
   refine th_n ?_
   refine wp_seq ?_
   refine wp_seq ?_
   refine wp_region_lit ?_
   refine vn tbok 2 [] [(31, .bool ((r112.2 : Int) != 0))] [] E (by kernel_rfl) (by kernel_rfl) trivial ?_
   clear E; intro a E
   refine wpList_nil ?_
   refine th_n ?_
   refine E.cases (t := 31) rfl (fun hb_ E_ => ?_) (fun hb_ E_ => ?_)
   ·
    replace E := E_; clear E_
    have h124 : ¬ ((r112.2 : Int) = 0) := bne_iff_ne.1 hb_
    clear hb_; replace hP := ite_f h124 hP
    refine c_true E rfl ?_
    refine wp_seq ?_
    refine wp_region_lit ?_
    refine vn tbok 3 [] [(4, .slice none 0 0), (5, .int .i64 r112.2)] [] E (by kernel_rfl) (by kernel_rfl) trivial ?_
    clear E; intro a E
    refine wpList_nil ?_
    refine th_n ?_
    refine wp_ret ?_
    refine th_ret ?_
    refine bl_ret ?_
    refine th_ret ?_
    refine th_ret ?_
    refine .inr ⟨rfl, ?_⟩
    refine bl_ret ?_
    refine th_ret ?_
    replace H := H.nilrow (cSl (cSl (cInt .i64))) 45; try dsimp only [setn, addE, goneL] at H
    have hx_ := Option.some.inj hP; subst hx_
    have hP : some (([], r112.2)) = some r := hK106
    obtain rfl := Option.some.inj hP
    refine ret2 E rfl rfl rfl ?_
    exact ⟨_, rfl, none, 0, rfl, H.sel [7] rfl⟩
   replace E := E_; clear E_
   have h126 : (r112.2 : Int) = 0 := bne_eq_false_iff_eq.1 hb_
   clear hb_; replace hP := ite_t h126 hP
   refine c_false E rfl ?_
   refine wp_skip ?_
   refine th_n ?_
   refine wp_region_lit ?_
   refine vn tbok 2 [] [(33, .slice A66 (List.length out65) c67), (34, .slice A121 (List.length r112.1) c122)] [] E (by kernel_rfl) (by kernel_rfl) trivial ?_
   clear E; intro a E
   refine h_buildSlice (ps := [(0, .slice A121 (List.length r112.1) c122)]) (cs := [.slice A121 (List.length r112.1) c122]) H E rfl rfl tbok rfl rfl (by kernel_rfl) ?_
   intro w128 g127 a hc129 hg131 H_ E_
   replace E := E_ _ rfl; clear E_
   replace H := H_; clear H_; try dsimp only [setn, addE, goneL] at H
   have hk132 := H.rcap 6 rfl
   replace H := H.frz 6 rfl; try dsimp only [setn, addE, goneL] at H
   obtain ⟨g133, hP⟩ := ask_inv hP
   refine h_append (cSl (cSl (cInt .i64))) (xs := out65) (ys := ([r112.1] : List (List (List Int)))) ([] : List (List Int)) H 5 rfl E rfl rfl tbok rfl rfl rfl rfl rfl (fun _ _ => kSl_nil) rfl rfl (fun _ HF_ => HF_.srcB 7 rfl ⟨_, _, rfl, ⟨_, _, rfl, hk132, (HF_.roC 6 rfl)⟩, rfl⟩) g133 ?_
   intro w134 A135 c136 a hc137 hA138 H_ E_
   replace E := E_ _ rfl; clear E_
   replace H := H_; clear H_; try dsimp only [setn, addE, goneL] at H
   refine vn tbok 1 [] [(7, .slice A135 (List.length (out65 ++ ([r112.1] : List (List (List Int))))) c136)] [] E (by kernel_rfl) (by kernel_rfl) trivial ?_
   clear E; intro a E
   refine wpList_nil ?_
   refine bl_n ?_
   refine th_n ?_
   refine wp_region_lit ?_
   obtain ⟨g139, hP⟩ := ask_inv hP
   refine vn tbok 2 [.int .i64 (x68 + 1)] [(20, .int .i64 (x68 + 1))] [IntKind.i64.wrap (x68 + 1) = x68 + 1] E (by kernel_rfl) (by kernel_rfl) (wrap_in g139) ?_
   clear E; intro a E
   refine wpList_nil ?_
   exact th_n ⟨m103, Nat.lt_succ_self _, out65 ++ ([r112.1] : List (List (List Int))), x68 + 1, A135, c136, E.pick _ ⟨rfl, rfl, rfl, rfl, rfl, trivial⟩, H.sel [0, 1, 2, 3, 4, 5] rfl, hP⟩
  replace E := E_; clear E_
  have h140 : ¬ (x68 < (((List.length aAccept) : Nat) : Int)) := of_decide_eq_false hb_
  clear hb_; replace hP := ite_f h140 hP
  refine c_false E rfl ?_
  refine wp_exit ?_
  refine th_exit ?_
  have hx_ := Option.some.inj hP
  refine th_exit (.inl ⟨0, rfl, ?_⟩)
  exact ⟨rfl, out65, A66, c67, E.pick _ ⟨rfl, trivial⟩, H.sel [5] rfl, hx_.symm⟩
 clear E H hL105; intro i_ a w108 hM_
 obtain ⟨rfl, x110, A101, c102, E, H, hx_⟩ := hM_
 subst hx_; have hP := elim_l hK106
 clear hK106
 refine bl_hit ?_
 refine th_n ?_
 refine wp_seq ?_
 refine wp_region_lit ?_
 refine vn tbok 3 [] [(4, .slice A101 (List.length x110) c102), (5, .int .i64 0)] [] E (by kernel_rfl) (by kernel_rfl) trivial ?_
 clear E; intro a E
 refine wpList_nil ?_
 refine th_n ?_
 refine wp_ret ?_
 obtain rfl := Option.some.inj hP
 refine ret2 E rfl rfl rfl ?_
 exact ⟨_, rfl, A101, c102, rfl, H.sel [0] rfl⟩

end Go.V
