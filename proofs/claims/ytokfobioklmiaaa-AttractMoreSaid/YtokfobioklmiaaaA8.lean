/- Plain functions, and the calls that give them. -/
import Derived.Test.YtokfobioklmiaaaA7
set_option linter.all false
set_option linter.unusedVariables false
set_option linter.unnecessarySimpa false
set_option linter.unusedSimpArgs false
namespace Go.V
open Go Go.Proofs
/-! rejoinder/rejoinderlaw23.AttractVerdict -/
def law23_AttractVerdict_l0 (N : Nat) (aProps : Int) (aAccept : List Bool) (aGuard : List Int) (aNodes : List Nd) (s : Int × Int) (r54 : (List Int) × Int) : Nat → Int → Option (Unit ⊕ Bool)
  | 0, _ => none
  | m255 + 1, q173 =>
    if q173 < (((List.length r54.1) : Nat) : Int) then
      ask (idx q173 (List.length r54.1)) <|
      if (List.getD r54.1 (Int.toNat q173) 0) < (-1) then
        some (Sum.inr false)
      else
        if (((List.length r54.1) : Nat) : Int) ≤ (List.getD r54.1 (Int.toNat q173) 0) then
          some (Sum.inr false)
        else
          ask (idx q173 (List.length aAccept)) <|
          if (((List.getD r54.1 (Int.toNat q173) 0) : Int) == 0) = (List.getD aAccept (Int.toNat q173) false) then
            Option.bind (board_Goes N aProps aAccept aGuard aNodes (s.1, s.2) q173) fun r283 =>
            if (r283.2 : Int) = 0 then
              if ((((List.length r283.1) : Nat) : Int) : Int) = 0 then
                some (Sum.inr false)
              else
                if 0 < (List.getD r54.1 (Int.toNat q173) 0) then
                  Option.bind (law23_falls N r54.1 r283.1 (List.getD r54.1 (Int.toNat q173) 0)) fun r300 =>
                  if r300 = true then
                    if (List.getD r54.1 (Int.toNat q173) 0) < 0 then
                      Option.bind (law23_stays N r54.1 r283.1) fun r312 =>
                      if r312 = true then
                        ask (in64 (q173 + 1)) <|
                        law23_AttractVerdict_l0 N aProps aAccept aGuard aNodes s r54 m255 (q173 + 1)
                      else
                        some (Sum.inr false)
                    else
                      ask (in64 (q173 + 1)) <|
                      law23_AttractVerdict_l0 N aProps aAccept aGuard aNodes s r54 m255 (q173 + 1)
                  else
                    some (Sum.inr false)
                else
                  if (List.getD r54.1 (Int.toNat q173) 0) < 0 then
                    Option.bind (law23_stays N r54.1 r283.1) fun r328 =>
                    if r328 = true then
                      ask (in64 (q173 + 1)) <|
                      law23_AttractVerdict_l0 N aProps aAccept aGuard aNodes s r54 m255 (q173 + 1)
                    else
                      some (Sum.inr false)
                  else
                    ask (in64 (q173 + 1)) <|
                    law23_AttractVerdict_l0 N aProps aAccept aGuard aNodes s r54 m255 (q173 + 1)
            else
              some (Sum.inr false)
          else
            some (Sum.inr false)
    else
      some (Sum.inl ())
def law23_AttractVerdict (N : Nat) (aProps : Int) (aAccept : List Bool) (aGuard : List Int) (aNodes : List Nd) (s : Int × Int) : Option Bool :=
  Option.bind (law23_awake N) fun r23 =>
  Option.bind (law19_Large N aProps aAccept aGuard aNodes) fun r32 =>
  if r32 = true then
    some r23
  else
    Option.bind (board_Check N aProps aAccept aGuard aNodes (s.1, s.2)) fun r43 =>
    if (r43 : Int) = 0 then
      Option.bind (attract_Ranks N aProps aAccept aGuard aNodes (s.1, s.2)) fun r54 =>
      Option.bind (attract_Wins N aProps aAccept aGuard aNodes (s.1, s.2)) fun r66 =>
      Option.bind (law19_Real N aProps aAccept aGuard aNodes) fun r75 =>
      if r75 = true then
        if (r54.2 : Int) = 0 then
          if (r66.2 : Int) = 0 then
            if ((((List.length r54.1) : Nat) : Int) : Int) = (((List.length aAccept) : Nat) : Int) then
              ask (idx (0 : Int) (List.length r54.1)) <|
              if r66.1 = (decide (0 ≤ (List.getD r54.1 (Int.toNat (0 : Int)) 0))) then
                Option.bind (law23_AttractVerdict_l0 N aProps aAccept aGuard aNodes s r54 N 0) fun x256 =>
                Sum.elim (fun x261 =>
                  some r23)
                 (fun x343 =>
                  some x343) x256
              else
                some false
            else
              some false
          else
            some false
        else
          some false
      else
        some false
    else
      some r23
set_option maxRecDepth 100000 in
set_option maxHeartbeats 4000000 in
theorem law23_AttractVerdict_calls {N : Nat} {S Fa : Nat → Prop} {w0 : World} {r : Bool} (A1 : Option Addr) (c2 : Nat) (A5 : Option Addr) (c6 : Nat) (A9 : Option Addr) (c10 : Nat) (aProps : Int) (aAccept : List Bool) (aGuard : List Int) (aNodes : List Nd) (s : Int × Int) (hk3 : List.length aAccept ≤ c2) (hk7 : List.length aGuard ≤ c6) (hk11 : List.length aNodes ≤ c10) (H : Hp S Fa w0 w0 [.ro false cBool A1 aAccept, .ro false (cInt .i64) A5 aGuard, .ro false cNode A9 aNodes]) (hP : law23_AttractVerdict N aProps aAccept aGuard aNodes s = some r) :
    Calls Try.prog 4 #[.agg #[.int .i64 aProps, .slice A1 (List.length aAccept) c2, .slice A5 (List.length aGuard) c6, .slice A9 (List.length aNodes) c10], .agg #[.int .u8 s.1, .int .u8 s.2]] w0 fun e w' => ∃ v, e = .returned v ∧ v = .bool r ∧ Hp S Fa w0 w' [] := by
 refine enterV (n := 138) Try.func4 rfl rfl rfl ?_
 intro a E
 replace E := E.pick [(0, .agg #[.int .i64 aProps, .slice A1 (List.length aAccept) c2, .slice A5 (List.length aGuard) c6, .slice A9 (List.length aNodes) c10]), (1, .agg #[.int .u8 s.1, .int .u8 s.2])] ⟨rfl, rfl, trivial⟩
 rw [law23_AttractVerdict] at hP
 refine wp_seq ?_
 refine wp_region_lit ?_
 refine h_box H E rfl rfl rfl ?_
 intro w14 g13 a hc15 hg17 H_ E_
 replace E := E_ _ rfl; clear E_
 replace H := H_; clear H_; try dsimp only [setn, addE, goneL] at H
 refine h_box H E rfl rfl rfl ?_
 intro w19 g18 a hc20 hg22 H_ E_
 replace E := E_ _ rfl; clear E_
 replace H := H_; clear H_; try dsimp only [setn, addE, goneL] at H
 refine vr tbok 1 [] [(2, .pointer (some ⟨g13, 0, none⟩)), (3, .pointer (some ⟨g18, 0, none⟩))] [] E (by kernel_rfl) trivial ?_
 clear E; intro a E
 refine wpList_nil ?_
 refine th_n ?_
 refine wp_seq ?_
 refine wp_region_lit ?_
 obtain ⟨r23, h24, hP⟩ := bind_inv hP
 obtain ⟨Fa25, Hc26, hb27⟩ := H.call [] [] rfl rfl trivial
 refine e_call E rfl rfl Try.func7 rfl rfl rfl (law23_awake_calls    Hc26 h24) ?_
 rintro v28 w29 a ⟨rfl, HR30⟩ E_
 replace E := E_ _ rfl; clear E_
 obtain ⟨H_, hc31⟩ := hb27 _ _ HR30 rfl
 replace H := H_; clear H_; try dsimp only [setn, addE, goneL] at H
 refine vr tbok 1 [] [(2, .pointer (some ⟨g13, 0, none⟩)), (3, .pointer (some ⟨g18, 0, none⟩)), (5, .bool r23)] [] E (by kernel_rfl) trivial ?_
 clear E; intro a E
 refine wpList_nil ?_
 refine th_n ?_
 refine wp_seq ?_
 refine wp_seq ?_
 refine wp_region_lit ?_
 refine vr tbok 1 [.agg #[.int .i64 aProps, .slice A1 (List.length aAccept) c2, .slice A5 (List.length aGuard) c6, .slice A9 (List.length aNodes) c10]] [(2, .pointer (some ⟨g13, 0, none⟩)), (3, .pointer (some ⟨g18, 0, none⟩)), (5, .bool r23), (14, .agg #[.int .i64 aProps, .slice A1 (List.length aAccept) c2, .slice A5 (List.length aGuard) c6, .slice A9 (List.length aNodes) c10])] [cellsAt w29 g13 (0) [.int .i64 aProps, .slice A1 (List.length aAccept) c2, .slice A5 (List.length aGuard) c6, .slice A9 (List.length aNodes) c10]] E (by kernel_rfl) ((H.box 3 rfl).sub 0 _ rfl) ?_
 clear E; intro a E
 obtain ⟨r32, h33, hP⟩ := bind_inv hP
 obtain ⟨Fa34, Hc35, hb36⟩ := H.call [] [(0, false), (1, false), (2, false)] rfl rfl trivial
 refine e_call E rfl rfl Try.func8 rfl rfl rfl (law19_Large_calls A1 c2 A5 c6 A9 c10 aProps aAccept aGuard aNodes hk3 hk7 hk11 Hc35 h33) ?_
 rintro v37 w38 a ⟨rfl, HR39⟩ E_
 replace E := E_ _ rfl; clear E_
 obtain ⟨H_, hc40⟩ := hb36 _ _ HR39 rfl
 replace H := H_; clear H_; try dsimp only [setn, addE, goneL] at H
 refine vr tbok 1 [] [(2, .pointer (some ⟨g13, 0, none⟩)), (3, .pointer (some ⟨g18, 0, none⟩)), (5, .bool r23), (16, .bool r32)] [] E (by kernel_rfl) trivial ?_
 clear E; intro a E
 refine E.cases (t := 16) rfl (fun hb_ E_ => ?_) (fun hb_ E_ => ?_)
 ·
  replace E := E_; clear E_
  have h41 : r32 = true := hb_
  clear hb_; replace hP := ite_t h41 hP
  refine vr tbok 5 [] [(2, .pointer (some ⟨g13, 0, none⟩)), (3, .pointer (some ⟨g18, 0, none⟩)), (5, .bool r23), (21, .bool true)] [] E (by kernel_rfl) trivial ?_
  clear E; intro a E
  refine wpList_nil ?_
  refine th_n ?_
  refine c_true E rfl ?_
  refine wp_seq ?_
  refine wp_region_lit ?_
  refine vr tbok 2 [] [(4, .bool r23)] [] E (by kernel_rfl) trivial ?_
  clear E; intro a E
  refine wpList_nil ?_
  refine th_n ?_
  refine wp_ret ?_
  refine th_ret ?_
  obtain rfl := Option.some.inj hP
  refine ret1 E rfl rfl ?_
  exact ⟨_, rfl, rfl, H.sel [] rfl⟩
 ·
  replace E := E_; clear E_
  have h42 : ¬ (r32 = true) := (ne_true_of_eq_false hb_)
  clear hb_; replace hP := ite_f h42 hP
  refine vr tbok 2 [.agg #[.int .i64 aProps, .slice A1 (List.length aAccept) c2, .slice A5 (List.length aGuard) c6, .slice A9 (List.length aNodes) c10], .agg #[.int .u8 s.1, .int .u8 s.2]] [(2, .pointer (some ⟨g13, 0, none⟩)), (3, .pointer (some ⟨g18, 0, none⟩)), (5, .bool r23), (16, .bool false), (17, .agg #[.int .i64 aProps, .slice A1 (List.length aAccept) c2, .slice A5 (List.length aGuard) c6, .slice A9 (List.length aNodes) c10]), (18, .agg #[.int .u8 s.1, .int .u8 s.2])] [cellsAt w38 g13 (0) [.int .i64 aProps, .slice A1 (List.length aAccept) c2, .slice A5 (List.length aGuard) c6, .slice A9 (List.length aNodes) c10], cellsAt w38 g18 (0) [.int .u8 s.1, .int .u8 s.2]] E (by kernel_rfl) ⟨(H.box 3 rfl).sub 0 _ rfl, (H.box 4 rfl).sub 0 _ rfl⟩ ?_
  clear E; intro a E
  obtain ⟨r43, h44, hP⟩ := bind_inv hP
  obtain ⟨Fa45, Hc46, hb47⟩ := H.call [] [(0, false), (1, false), (2, false)] rfl rfl trivial
  refine e_call E rfl rfl Try.func9 rfl rfl rfl (board_Check_calls A1 c2 A5 c6 A9 c10 aProps aAccept aGuard aNodes (s.1, s.2) hk3 hk7 hk11 Hc46 h44) ?_
  rintro v48 w49 a ⟨rfl, HR50⟩ E_
  replace E := E_ _ rfl; clear E_
  obtain ⟨H_, hc51⟩ := hb47 _ _ HR50 rfl
  replace H := H_; clear H_; try dsimp only [setn, addE, goneL] at H
  refine vr tbok 2 [] [(2, .pointer (some ⟨g13, 0, none⟩)), (3, .pointer (some ⟨g18, 0, none⟩)), (5, .bool r23), (21, .bool ((r43 : Int) != 0))] [] E (by kernel_rfl) trivial ?_
  clear E; intro a E
  refine wpList_nil ?_
  refine th_n ?_
  refine E.cases (t := 21) rfl (fun hb_ E_ => ?_) (fun hb_ E_ => ?_)
  ·
   replace E := E_; clear E_
   have h52 : ¬ ((r43 : Int) = 0) := bne_iff_ne.1 hb_
   clear hb_; replace hP := ite_f h52 hP
   refine c_true E rfl ?_
   refine wp_seq ?_
   refine wp_region_lit ?_
   refine vr tbok 2 [] [(4, .bool r23)] [] E (by kernel_rfl) trivial ?_
   clear E; intro a E
   refine wpList_nil ?_
   refine th_n ?_
   refine wp_ret ?_
   refine th_ret ?_
   obtain rfl := Option.some.inj hP
   refine ret1 E rfl rfl ?_
   exact ⟨_, rfl, rfl, H.sel [] rfl⟩
  ·
   replace E := E_; clear E_
   have h53 : (r43 : Int) = 0 := bne_eq_false_iff_eq.1 hb_
   clear hb_; replace hP := ite_t h53 hP
   refine c_false E rfl ?_
   refine wp_skip ?_
   refine th_n ?_
   refine wp_seq ?_
   refine wp_region_lit ?_
   refine vr tbok 2 [.agg #[.int .i64 aProps, .slice A1 (List.length aAccept) c2, .slice A5 (List.length aGuard) c6, .slice A9 (List.length aNodes) c10], .agg #[.int .u8 s.1, .int .u8 s.2]] [(2, .pointer (some ⟨g13, 0, none⟩)), (3, .pointer (some ⟨g18, 0, none⟩)), (5, .bool r23), (24, .agg #[.int .i64 aProps, .slice A1 (List.length aAccept) c2, .slice A5 (List.length aGuard) c6, .slice A9 (List.length aNodes) c10]), (25, .agg #[.int .u8 s.1, .int .u8 s.2])] [cellsAt w49 g13 (0) [.int .i64 aProps, .slice A1 (List.length aAccept) c2, .slice A5 (List.length aGuard) c6, .slice A9 (List.length aNodes) c10], cellsAt w49 g18 (0) [.int .u8 s.1, .int .u8 s.2]] E (by kernel_rfl) ⟨(H.box 3 rfl).sub 0 _ rfl, (H.box 4 rfl).sub 0 _ rfl⟩ ?_
   clear E; intro a E
   obtain ⟨r54, h55, hP⟩ := bind_inv hP
   obtain ⟨Fa56, Hc57, hb58⟩ := H.call [] [(0, false), (1, false), (2, false)] rfl rfl trivial
   refine e_call E rfl rfl Try.func11 rfl rfl rfl (attract_Ranks_calls A1 c2 A5 c6 A9 c10 aProps aAccept aGuard aNodes (s.1, s.2) hk3 hk7 hk11 Hc57 h55) ?_
   rintro v59 w60 a ⟨A63, c64, rfl, HR61⟩ E_
   replace E := E_ _ rfl; clear E_
   obtain ⟨H_, hc62⟩ := hb58 _ _ HR61 rfl
   replace H := H_; clear H_; try dsimp only [setn, addE, goneL] at H
   refine vr tbok 5 [] [(2, .pointer (some ⟨g13, 0, none⟩)), (3, .pointer (some ⟨g18, 0, none⟩)), (5, .bool r23), (6, .slice A63 (List.length r54.1) c64), (7, .int .i64 r54.2)] [] E (by kernel_rfl) trivial ?_
   clear E; intro a E
   refine wpList_nil ?_
   refine th_n ?_
   refine wp_seq ?_
   refine wp_region_lit ?_
   refine vr tbok 2 [.agg #[.int .i64 aProps, .slice A1 (List.length aAccept) c2, .slice A5 (List.length aGuard) c6, .slice A9 (List.length aNodes) c10], .agg #[.int .u8 s.1, .int .u8 s.2]] [(2, .pointer (some ⟨g13, 0, none⟩)), (3, .pointer (some ⟨g18, 0, none⟩)), (5, .bool r23), (6, .slice A63 (List.length r54.1) c64), (7, .int .i64 r54.2), (30, .agg #[.int .i64 aProps, .slice A1 (List.length aAccept) c2, .slice A5 (List.length aGuard) c6, .slice A9 (List.length aNodes) c10]), (31, .agg #[.int .u8 s.1, .int .u8 s.2])] [cellsAt w60 g13 (0) [.int .i64 aProps, .slice A1 (List.length aAccept) c2, .slice A5 (List.length aGuard) c6, .slice A9 (List.length aNodes) c10], cellsAt w60 g18 (0) [.int .u8 s.1, .int .u8 s.2]] E (by kernel_rfl) ⟨(H.box 3 rfl).sub 0 _ rfl, (H.box 4 rfl).sub 0 _ rfl⟩ ?_
   clear E; intro a E
   obtain ⟨r66, h67, hP⟩ := bind_inv hP
   obtain ⟨Fa68, Hc69, hb70⟩ := H.call [] [(0, false), (1, false), (2, false)] rfl rfl trivial
   refine e_call E rfl rfl Try.func12 rfl rfl rfl (attract_Wins_calls A1 c2 A5 c6 A9 c10 aProps aAccept aGuard aNodes (s.1, s.2) hk3 hk7 hk11 Hc69 h67) ?_
   rintro v71 w72 a ⟨rfl, HR73⟩ E_
   replace E := E_ _ rfl; clear E_
   obtain ⟨H_, hc74⟩ := hb70 _ _ HR73 rfl
   replace H := H_; clear H_; try dsimp only [setn, addE, goneL] at H
   refine vr tbok 5 [] [(2, .pointer (some ⟨g13, 0, none⟩)), (3, .pointer (some ⟨g18, 0, none⟩)), (5, .bool r23), (6, .slice A63 (List.length r54.1) c64), (7, .int .i64 r54.2), (8, .bool r66.1), (9, .int .i64 r66.2)] [] E (by kernel_rfl) trivial ?_
   clear E; intro a E
   refine wpList_nil ?_
   refine th_n ?_
   refine wp_seq ?_
   refine wp_seq ?_
   refine wp_region_lit ?_
   refine vr tbok 1 [.agg #[.int .i64 aProps, .slice A1 (List.length aAccept) c2, .slice A5 (List.length aGuard) c6, .slice A9 (List.length aNodes) c10]] [(2, .pointer (some ⟨g13, 0, none⟩)), (3, .pointer (some ⟨g18, 0, none⟩)), (5, .bool r23), (6, .slice A63 (List.length r54.1) c64), (7, .int .i64 r54.2), (8, .bool r66.1), (9, .int .i64 r66.2), (35, .agg #[.int .i64 aProps, .slice A1 (List.length aAccept) c2, .slice A5 (List.length aGuard) c6, .slice A9 (List.length aNodes) c10])] [cellsAt w72 g13 (0) [.int .i64 aProps, .slice A1 (List.length aAccept) c2, .slice A5 (List.length aGuard) c6, .slice A9 (List.length aNodes) c10]] E (by kernel_rfl) ((H.box 3 rfl).sub 0 _ rfl) ?_
   clear E; intro a E
   obtain ⟨r75, h76, hP⟩ := bind_inv hP
   obtain ⟨Fa77, Hc78, hb79⟩ := H.call [] [(0, false), (1, false), (2, false)] rfl rfl trivial
   refine e_call E rfl rfl Try.func13 rfl rfl rfl (law19_Real_calls A1 c2 A5 c6 A9 c10 aProps aAccept aGuard aNodes hk3 hk7 hk11 Hc78 h76) ?_
   rintro v80 w81 a ⟨rfl, HR82⟩ E_
   replace E := E_ _ rfl; clear E_
   obtain ⟨H_, hc83⟩ := hb79 _ _ HR82 rfl
   replace H := H_; clear H_; try dsimp only [setn, addE, goneL] at H
   refine vr tbok 2 [] [(2, .pointer (some ⟨g13, 0, none⟩)), (3, .pointer (some ⟨g18, 0, none⟩)), (5, .bool r23), (6, .slice A63 (List.length r54.1) c64), (7, .int .i64 r54.2), (8, .bool r66.1), (9, .int .i64 r66.2), (38, .bool (!r75))] [] E (by kernel_rfl) trivial ?_
   clear E; intro a E
   refine E.cases (t := 38) rfl (fun hb_ E_ => ?_) (fun hb_ E_ => ?_)
   ·
    replace E := E_; clear E_
    have h84 : ¬ (r75 = true) := (ne_true_of_eq_false (not_t hb_))
    clear hb_; replace hP := ite_f h84 hP
    refine vr tbok 23 [] [(2, .pointer (some ⟨g13, 0, none⟩)), (3, .pointer (some ⟨g18, 0, none⟩)), (5, .bool r23), (6, .slice A63 (List.length r54.1) c64), (61, .bool true)] [] E (by kernel_rfl) trivial ?_
    clear E; intro a E
    refine wpList_nil ?_
    refine th_n ?_
    refine c_true E rfl ?_
    refine wp_seq ?_
    refine wp_region_lit ?_
    refine vr tbok 1 [] [(4, .bool false)] [] E (by kernel_rfl) trivial ?_
    clear E; intro a E
    refine wpList_nil ?_
    refine th_n ?_
    refine wp_ret ?_
    refine th_ret ?_
    obtain rfl := Option.some.inj hP
    refine ret1 E rfl rfl ?_
    exact ⟨_, rfl, rfl, H.sel [] rfl⟩
   ·
    replace E := E_; clear E_
    have h85 : r75 = true := (not_f hb_)
    clear hb_; replace hP := ite_t h85 hP
    refine vr tbok 4 [] [(2, .pointer (some ⟨g13, 0, none⟩)), (3, .pointer (some ⟨g18, 0, none⟩)), (5, .bool r23), (6, .slice A63 (List.length r54.1) c64), (8, .bool r66.1), (9, .int .i64 r66.2), (42, .bool ((r54.2 : Int) != 0))] [] E (by kernel_rfl) trivial ?_
    clear E; intro a E
    refine E.cases (t := 42) rfl (fun hb_ E_ => ?_) (fun hb_ E_ => ?_)
    ·
     replace E := E_; clear E_
     have h86 : ¬ ((r54.2 : Int) = 0) := bne_iff_ne.1 hb_
     clear hb_; replace hP := ite_f h86 hP
     refine vr tbok 19 [] [(2, .pointer (some ⟨g13, 0, none⟩)), (3, .pointer (some ⟨g18, 0, none⟩)), (5, .bool r23), (6, .slice A63 (List.length r54.1) c64), (61, .bool true)] [] E (by kernel_rfl) trivial ?_
     clear E; intro a E
     refine wpList_nil ?_
     refine th_n ?_
     refine c_true E rfl ?_
     refine wp_seq ?_
     refine wp_region_lit ?_
     refine vr tbok 1 [] [(4, .bool false)] [] E (by kernel_rfl) trivial ?_
     clear E; intro a E
     refine wpList_nil ?_
     refine th_n ?_
     refine wp_ret ?_
     refine th_ret ?_
     obtain rfl := Option.some.inj hP
     refine ret1 E rfl rfl ?_
     exact ⟨_, rfl, rfl, H.sel [] rfl⟩
    ·
     replace E := E_; clear E_
     have h87 : (r54.2 : Int) = 0 := bne_eq_false_iff_eq.1 hb_
     clear hb_; replace hP := ite_t h87 hP
     refine vr tbok 4 [] [(2, .pointer (some ⟨g13, 0, none⟩)), (3, .pointer (some ⟨g18, 0, none⟩)), (5, .bool r23), (6, .slice A63 (List.length r54.1) c64), (8, .bool r66.1), (46, .bool ((r66.2 : Int) != 0))] [] E (by kernel_rfl) trivial ?_
     clear E; intro a E
     refine E.cases (t := 46) rfl (fun hb_ E_ => ?_) (fun hb_ E_ => ?_)
     ·
      replace E := E_; clear E_
      have h88 : ¬ ((r66.2 : Int) = 0) := bne_iff_ne.1 hb_
      clear hb_; replace hP := ite_f h88 hP
      refine vr tbok 15 [] [(2, .pointer (some ⟨g13, 0, none⟩)), (3, .pointer (some ⟨g18, 0, none⟩)), (5, .bool r23), (6, .slice A63 (List.length r54.1) c64), (61, .bool true)] [] E (by kernel_rfl) trivial ?_
      clear E; intro a E
      refine wpList_nil ?_
      refine th_n ?_
      refine c_true E rfl ?_
      refine wp_seq ?_
      refine wp_region_lit ?_
      refine vr tbok 1 [] [(4, .bool false)] [] E (by kernel_rfl) trivial ?_
      clear E; intro a E
      refine wpList_nil ?_
      refine th_n ?_
      refine wp_ret ?_
      refine th_ret ?_
      obtain rfl := Option.some.inj hP
      refine ret1 E rfl rfl ?_
      exact ⟨_, rfl, rfl, H.sel [] rfl⟩
     ·
      replace E := E_; clear E_
      have h89 : (r66.2 : Int) = 0 := bne_eq_false_iff_eq.1 hb_
      clear hb_; replace hP := ite_t h89 hP
      refine vr tbok 8 [.slice A1 (List.length aAccept) c2] [(2, .pointer (some ⟨g13, 0, none⟩)), (3, .pointer (some ⟨g18, 0, none⟩)), (5, .bool r23), (6, .slice A63 (List.length r54.1) c64), (8, .bool r66.1), (54, .bool (((((List.length r54.1) : Nat) : Int) : Int) != (((List.length aAccept) : Nat) : Int)))] [World.cell? w81 ⟨g13, 1, none⟩ = some (.slice A1 (List.length aAccept) c2)] E (by kernel_rfl) ((H.box 3 rfl).cell (j := 1) rfl) ?_
      clear E; intro a E
      refine E.cases (t := 54) rfl (fun hb_ E_ => ?_) (fun hb_ E_ => ?_)
      ·
       replace E := E_; clear E_
       have h90 : ¬ (((((List.length r54.1) : Nat) : Int) : Int) = (((List.length aAccept) : Nat) : Int)) := bne_iff_ne.1 hb_
       clear hb_; replace hP := ite_f h90 hP
       refine vr tbok 7 [] [(2, .pointer (some ⟨g13, 0, none⟩)), (3, .pointer (some ⟨g18, 0, none⟩)), (5, .bool r23), (6, .slice A63 (List.length r54.1) c64), (61, .bool true)] [] E (by kernel_rfl) trivial ?_
       clear E; intro a E
       refine wpList_nil ?_
       refine th_n ?_
       refine c_true E rfl ?_
       refine wp_seq ?_
       refine wp_region_lit ?_
       refine vr tbok 1 [] [(4, .bool false)] [] E (by kernel_rfl) trivial ?_
       clear E; intro a E
       refine wpList_nil ?_
       refine th_n ?_
       refine wp_ret ?_
       refine th_ret ?_
       obtain rfl := Option.some.inj hP
       refine ret1 E rfl rfl ?_
       exact ⟨_, rfl, rfl, H.sel [] rfl⟩
      ·
       replace E := E_; clear E_
       have h91 : ((((List.length r54.1) : Nat) : Int) : Int) = (((List.length aAccept) : Nat) : Int) := bne_eq_false_iff_eq.1 hb_
       clear hb_; replace hP := ite_t h91 hP
       obtain ⟨g92, hP⟩ := ask_inv hP
       obtain ⟨b93, e_b93⟩ := H.raddr 5 rfl (idx_pos g92)
       subst e_b93
       refine vr tbok 7 [.int .i64 (List.getD r54.1 (Int.toNat (0 : Int)) 0)] [(2, .pointer (some ⟨g13, 0, none⟩)), (3, .pointer (some ⟨g18, 0, none⟩)), (5, .bool r23), (6, .slice (some ⟨b93, 0, none⟩) (List.length r54.1) c64), (61, .bool (!(r66.1 == (decide (0 ≤ (List.getD r54.1 (Int.toNat (0 : Int)) 0))))))] [0 ≤ (0 : Int) ∧ (0 : Int) < (((List.length r54.1) : Nat) : Int), World.cell? w81 ⟨b93, 0 + (Int.toNat (0 : Int)) * 1, none⟩ = some (.int .i64 (List.getD r54.1 (Int.toNat (0 : Int)) 0))] E (by kernel_rfl) ⟨g92, Rds.at1 (H.rd 5 rds_row) 0 g92⟩ ?_
       clear E; intro a E
       refine wpList_nil ?_
       refine th_n ?_
       refine E.cases (t := 61) rfl (fun hb_ E_ => ?_) (fun hb_ E_ => ?_)
       ·
        replace E := E_; clear E_
        have h95 : ¬ (r66.1 = (decide (0 ≤ (List.getD r54.1 (Int.toNat (0 : Int)) 0)))) := (by simpa using hb_)
        clear hb_; replace hP := ite_f h95 hP
        refine c_true E rfl ?_
        refine wp_seq ?_
        refine wp_region_lit ?_
        refine vr tbok 1 [] [(4, .bool false)] [] E (by kernel_rfl) trivial ?_
        clear E; intro a E
        refine wpList_nil ?_
        refine th_n ?_
        refine wp_ret ?_
        refine th_ret ?_
        obtain rfl := Option.some.inj hP
        refine ret1 E rfl rfl ?_
        exact ⟨_, rfl, rfl, H.sel [] rfl⟩
       ·
        replace E := E_; clear E_
        have h96 : r66.1 = (decide (0 ≤ (List.getD r54.1 (Int.toNat (0 : Int)) 0))) := (by simpa using hb_)
        clear hb_; replace hP := ite_t h96 hP
        refine c_false E rfl ?_
        refine wp_skip ?_
        refine th_n ?_
        refine wp_seq ?_
        refine wp_seq ?_
        refine wp_region_lit ?_
        refine vr tbok 1 [] [(2, .pointer (some ⟨g13, 0, none⟩)), (3, .pointer (some ⟨g18, 0, none⟩)), (5, .bool r23), (6, .slice (some ⟨b93, 0, none⟩) (List.length r54.1) c64), (10, .int .i64 0)] [] E (by kernel_rfl) trivial ?_
        clear E; intro a E
        refine wpList_nil ?_
        refine th_n ?_
        refine wp_block ?_
        obtain ⟨x256, hL257, hK258⟩ := bind_inv hP
        clear hP
        refine loop_cut (fun i_ a w_ => (i_ = 0 ∧ ∃ (x261 : Unit), Fr a 138 [(5, .bool r23)] ∧ Hp S Fa w0 w_ [] ∧ x256 = Sum.inl x261)) ?_ ?_
        ·
         refine loopV (fun m260 a w259 => ∃ (q173 : Int), Fr a 138 [(2, .pointer (some ⟨g13, 0, none⟩)), (3, .pointer (some ⟨g18, 0, none⟩)), (5, .bool r23), (6, .slice (some ⟨b93, 0, none⟩) (List.length r54.1) c64), (10, .int .i64 q173)] ∧ Hp S Fa w0 w259 [.ro false cBool A1 aAccept, .ro false (cInt .i64) A5 aGuard, .ro false cNode A9 aNodes, .box g13 26 [.int .i64 aProps, .slice A1 (List.length aAccept) c2, .slice A5 (List.length aGuard) c6, .slice A9 (List.length aNodes) c10], .box g18 29 [.int .u8 s.1, .int .u8 s.2], .row true (cInt .i64) 3 (some ⟨b93, 0, none⟩) c64 r54.1] ∧ law23_AttractVerdict_l0 N aProps aAccept aGuard aNodes s r54 m260 q173 = some x256) N ?_ ?_
         ·
          exact ⟨0, E.pick _ ⟨rfl, rfl, rfl, rfl, rfl, trivial⟩, H.sel [0, 1, 2, 3, 4, 5] rfl, hL257⟩
         ·
          clear E H hL257; intro m260 a w259 hI_
          obtain ⟨q173, E, H, hP⟩ := hI_
          obtain ⟨m255, rfl⟩ : ∃ q_, m260 = q_ + 1 := by cases m260 with | zero => rw [law23_AttractVerdict_l0] at hP; cases hP | succ q_ => exact ⟨q_, rfl⟩
          rw [law23_AttractVerdict_l0] at hP
          refine wp_seq ?_
          refine wp_seq ?_
          refine wp_region_lit ?_
          refine vr tbok 4 [] [(2, .pointer (some ⟨g13, 0, none⟩)), (3, .pointer (some ⟨g18, 0, none⟩)), (5, .bool r23), (6, .slice (some ⟨b93, 0, none⟩) (List.length r54.1) c64), (10, .int .i64 q173), (65, .bool (decide (q173 < (((List.length r54.1) : Nat) : Int))))] [] E (by kernel_rfl) trivial ?_
          clear E; intro a E
          refine wpList_nil ?_
          refine th_n ?_
          refine E.cases (t := 65) rfl (fun hb_ E_ => ?_) (fun hb_ E_ => ?_)
          ·
           replace E := E_; clear E_
           have h262 : q173 < (((List.length r54.1) : Nat) : Int) := of_decide_eq_true hb_
           clear hb_; replace hP := ite_t h262 hP
           refine c_true E rfl ?_
           refine wp_skip ?_
           refine th_n ?_
           refine wp_seq ?_
           refine wp_block ?_
           refine wp_seq ?_
           refine wp_seq ?_
           obtain ⟨g263, hP⟩ := ask_inv hP
           by_cases h264 : (List.getD r54.1 (Int.toNat q173) 0) < (-1)
           ·
            replace hP := ite_t h264 hP
            have HR268 := H
            refine dr_start (S := fun w_ => Chg (atL []) w259 w_) (by kernel_rfl) ?_
            intro w265 hc266
            have HS267 : Chg (atL []) w259 w265 := hc266.mono (fun _ _ h_ => h_.elim)
            replace H := H.ext hc266
            refine dr tbok (by kernel_rfl) [0, 1, 2, 3, 4, 5] [.int .i64 (List.getD r54.1 (Int.toNat q173) 0)] [(2, .pointer (some ⟨g13, 0, none⟩)), (3, .pointer (some ⟨g18, 0, none⟩)), (5, .bool r23), (6, .slice (some ⟨b93, 0, none⟩) (List.length r54.1) c64), (10, .int .i64 q173), (73, .bool (decide ((List.getD r54.1 (Int.toNat q173) 0) < (-1))))] (fun w_ => [0 ≤ q173 ∧ q173 < (((List.length r54.1) : Nat) : Int), World.cell? w_ ⟨b93, 0 + (Int.toNat q173) * 1, none⟩ = some (.int .i64 (List.getD r54.1 (Int.toNat q173) 0))]) 21 E (fun _ _ => by kernel_rfl) (fun w_ hS_ => ⟨g263, Rds.at1 (HR268.rdk [] hS_ 5 rds_row rfl) 0 g263⟩) (by kernel_rfl) HS267 ?_
            clear E; intro a E
            replace E := E.same (t := 73) (u := .bool true) rfl (congrArg Value.bool (decide_eq_true h264))
            refine dr tbok (by kernel_rfl) [6, 7, 8, 9, 10, 11, 12, 13, 14, 15, 16, 17, 18, 19, 20, 21, 22, 23, 24, 25, 26] [] [(2, .pointer (some ⟨g13, 0, none⟩)), (3, .pointer (some ⟨g18, 0, none⟩)), (5, .bool r23), (6, .slice (some ⟨b93, 0, none⟩) (List.length r54.1) c64), (10, .int .i64 q173), (73, .bool true), (74, .tuple #[]), (75, .tuple #[]), (76, .tuple #[]), (77, .tuple #[]), (78, .tuple #[]), (79, .tuple #[]), (80, .tuple #[]), (83, .tuple #[]), (84, .tuple #[]), (85, .tuple #[]), (86, .tuple #[]), (87, .tuple #[]), (88, .tuple #[]), (89, .tuple #[]), (90, .tuple #[]), (91, .tuple #[]), (92, .tuple #[]), (93, .tuple #[]), (94, .bool true)] (fun w_ => []) 0 E (fun _ _ => by kernel_rfl) (fun w_ hS_ => trivial) (by kernel_rfl) HS267 ?_
            clear E; intro a E
            refine dr_done (by kernel_rfl) ?_
            clear HS267 HR268
            refine th_n ?_
            refine c_true E rfl ?_
            refine wp_seq ?_
            refine wp_region_lit ?_
            refine vr tbok 1 [] [(4, .bool false)] [] E (by kernel_rfl) trivial ?_
            clear E; intro a E
            refine wpList_nil ?_
            refine th_n ?_
            refine wp_ret ?_
            refine th_ret ?_
            refine bl_ret ?_
            refine th_ret ?_
            refine th_ret ?_
            refine .inr ⟨rfl, ?_⟩
            refine bl_ret ?_
            refine th_ret ?_
            have hx_ := Option.some.inj hP; subst hx_
            have hP : some (false) = some r := hK258
            obtain rfl := Option.some.inj hP
            refine ret1 E rfl rfl ?_
            exact ⟨_, rfl, rfl, H.sel [] rfl⟩
           ·
            replace hP := ite_f h264 hP
            by_cases h269 : (((List.length r54.1) : Nat) : Int) ≤ (List.getD r54.1 (Int.toNat q173) 0)
            ·
             replace hP := ite_t h269 hP
             have HR273 := H
             refine dr_start (S := fun w_ => Chg (atL []) w259 w_) (by kernel_rfl) ?_
             intro w270 hc271
             have HS272 : Chg (atL []) w259 w270 := hc271.mono (fun _ _ h_ => h_.elim)
             replace H := H.ext hc271
             refine dr tbok (by kernel_rfl) [0, 1, 2, 3, 4, 5] [.int .i64 (List.getD r54.1 (Int.toNat q173) 0)] [(2, .pointer (some ⟨g13, 0, none⟩)), (3, .pointer (some ⟨g18, 0, none⟩)), (5, .bool r23), (6, .slice (some ⟨b93, 0, none⟩) (List.length r54.1) c64), (10, .int .i64 q173), (73, .bool (decide ((List.getD r54.1 (Int.toNat q173) 0) < (-1))))] (fun w_ => [0 ≤ q173 ∧ q173 < (((List.length r54.1) : Nat) : Int), World.cell? w_ ⟨b93, 0 + (Int.toNat q173) * 1, none⟩ = some (.int .i64 (List.getD r54.1 (Int.toNat q173) 0))]) 21 E (fun _ _ => by kernel_rfl) (fun w_ hS_ => ⟨g263, Rds.at1 (HR273.rdk [] hS_ 5 rds_row rfl) 0 g263⟩) (by kernel_rfl) HS272 ?_
             clear E; intro a E
             replace E := E.same (t := 73) (u := .bool false) rfl (congrArg Value.bool (decide_eq_false h264))
             refine dr tbok (by kernel_rfl) [6, 7, 8, 9, 10, 11, 12, 13, 14] [.int .i64 (List.getD r54.1 (Int.toNat q173) 0)] [(2, .pointer (some ⟨g13, 0, none⟩)), (3, .pointer (some ⟨g18, 0, none⟩)), (5, .bool r23), (6, .slice (some ⟨b93, 0, none⟩) (List.length r54.1) c64), (10, .int .i64 q173), (73, .bool false), (74, .slice (some ⟨b93, 0, none⟩) (List.length r54.1) c64), (75, .int .i64 q173), (76, .pointer (some ⟨b93, 0 + (Int.toNat q173) * 1, none⟩)), (77, .int .i64 (List.getD r54.1 (Int.toNat q173) 0)), (78, .slice (some ⟨b93, 0, none⟩) (List.length r54.1) c64), (79, .int .i64 (((List.length r54.1) : Nat) : Int)), (80, .bool (decide ((((List.length r54.1) : Nat) : Int) ≤ (List.getD r54.1 (Int.toNat q173) 0)))), (82, .bool (decide ((((List.length r54.1) : Nat) : Int) ≤ (List.getD r54.1 (Int.toNat q173) 0))))] (fun w_ => [0 ≤ q173 ∧ q173 < (((List.length r54.1) : Nat) : Int), World.cell? w_ ⟨b93, 0 + (Int.toNat q173) * 1, none⟩ = some (.int .i64 (List.getD r54.1 (Int.toNat q173) 0))]) 12 E (fun _ _ => by kernel_rfl) (fun w_ hS_ => ⟨g263, Rds.at1 (HR273.rdk [] hS_ 5 rds_row rfl) 0 g263⟩) (by kernel_rfl) HS272 ?_
             clear E; intro a E
             replace E := E.same (t := 82) (u := .bool true) rfl (congrArg Value.bool (decide_eq_true h269))
             refine dr tbok (by kernel_rfl) [15, 16, 17, 18, 19, 20, 21, 22, 23, 24, 25, 26] [] [(2, .pointer (some ⟨g13, 0, none⟩)), (3, .pointer (some ⟨g18, 0, none⟩)), (5, .bool r23), (6, .slice (some ⟨b93, 0, none⟩) (List.length r54.1) c64), (10, .int .i64 q173), (73, .bool false), (74, .slice (some ⟨b93, 0, none⟩) (List.length r54.1) c64), (75, .int .i64 q173), (76, .pointer (some ⟨b93, 0 + (Int.toNat q173) * 1, none⟩)), (77, .int .i64 (List.getD r54.1 (Int.toNat q173) 0)), (78, .slice (some ⟨b93, 0, none⟩) (List.length r54.1) c64), (79, .int .i64 (((List.length r54.1) : Nat) : Int)), (80, .bool (decide ((((List.length r54.1) : Nat) : Int) ≤ (List.getD r54.1 (Int.toNat q173) 0)))), (82, .bool true), (83, .tuple #[]), (84, .tuple #[]), (85, .tuple #[]), (86, .tuple #[]), (87, .tuple #[]), (88, .tuple #[]), (89, .tuple #[]), (90, .tuple #[]), (91, .tuple #[]), (92, .tuple #[]), (93, .tuple #[]), (94, .bool true)] (fun w_ => []) 0 E (fun _ _ => by kernel_rfl) (fun w_ hS_ => trivial) (by kernel_rfl) HS272 ?_
             clear E; intro a E
             refine dr_done (by kernel_rfl) ?_
             clear HS272 HR273
             refine th_n ?_
             refine c_true E rfl ?_
             refine wp_seq ?_
             refine wp_region_lit ?_
             refine vr tbok 1 [] [(4, .bool false)] [] E (by kernel_rfl) trivial ?_
             clear E; intro a E
             refine wpList_nil ?_
             refine th_n ?_
             refine wp_ret ?_
             refine th_ret ?_
             refine bl_ret ?_
             refine th_ret ?_
             refine th_ret ?_
             refine .inr ⟨rfl, ?_⟩
             refine bl_ret ?_
             refine th_ret ?_
             have hx_ := Option.some.inj hP; subst hx_
             have hP : some (false) = some r := hK258
             obtain rfl := Option.some.inj hP
             refine ret1 E rfl rfl ?_
             exact ⟨_, rfl, rfl, H.sel [] rfl⟩
            ·
             replace hP := ite_f h269 hP
             obtain ⟨g274, hP⟩ := ask_inv hP
             obtain ⟨b275, o276, e_b275⟩ := (H.rd 0 rds_ro).addr (idx_pos g274)
             subst e_b275
             have HR280 := H
             refine dr_start (S := fun w_ => Chg (atL []) w259 w_) (by kernel_rfl) ?_
             intro w277 hc278
             have HS279 : Chg (atL []) w259 w277 := hc278.mono (fun _ _ h_ => h_.elim)
             replace H := H.ext hc278
             refine dr tbok (by kernel_rfl) [0, 1, 2, 3, 4, 5] [.int .i64 (List.getD r54.1 (Int.toNat q173) 0)] [(2, .pointer (some ⟨g13, 0, none⟩)), (3, .pointer (some ⟨g18, 0, none⟩)), (5, .bool r23), (6, .slice (some ⟨b93, 0, none⟩) (List.length r54.1) c64), (10, .int .i64 q173), (73, .bool (decide ((List.getD r54.1 (Int.toNat q173) 0) < (-1))))] (fun w_ => [0 ≤ q173 ∧ q173 < (((List.length r54.1) : Nat) : Int), World.cell? w_ ⟨b93, 0 + (Int.toNat q173) * 1, none⟩ = some (.int .i64 (List.getD r54.1 (Int.toNat q173) 0))]) 21 E (fun _ _ => by kernel_rfl) (fun w_ hS_ => ⟨g263, Rds.at1 (HR280.rdk [] hS_ 5 rds_row rfl) 0 g263⟩) (by kernel_rfl) HS279 ?_
             clear E; intro a E
             replace E := E.same (t := 73) (u := .bool false) rfl (congrArg Value.bool (decide_eq_false h264))
             refine dr tbok (by kernel_rfl) [6, 7, 8, 9, 10, 11, 12, 13, 14] [.int .i64 (List.getD r54.1 (Int.toNat q173) 0)] [(2, .pointer (some ⟨g13, 0, none⟩)), (3, .pointer (some ⟨g18, 0, none⟩)), (5, .bool r23), (6, .slice (some ⟨b93, 0, none⟩) (List.length r54.1) c64), (10, .int .i64 q173), (73, .bool false), (74, .slice (some ⟨b93, 0, none⟩) (List.length r54.1) c64), (75, .int .i64 q173), (76, .pointer (some ⟨b93, 0 + (Int.toNat q173) * 1, none⟩)), (77, .int .i64 (List.getD r54.1 (Int.toNat q173) 0)), (78, .slice (some ⟨b93, 0, none⟩) (List.length r54.1) c64), (79, .int .i64 (((List.length r54.1) : Nat) : Int)), (80, .bool (decide ((((List.length r54.1) : Nat) : Int) ≤ (List.getD r54.1 (Int.toNat q173) 0)))), (82, .bool (decide ((((List.length r54.1) : Nat) : Int) ≤ (List.getD r54.1 (Int.toNat q173) 0))))] (fun w_ => [0 ≤ q173 ∧ q173 < (((List.length r54.1) : Nat) : Int), World.cell? w_ ⟨b93, 0 + (Int.toNat q173) * 1, none⟩ = some (.int .i64 (List.getD r54.1 (Int.toNat q173) 0))]) 12 E (fun _ _ => by kernel_rfl) (fun w_ hS_ => ⟨g263, Rds.at1 (HR280.rdk [] hS_ 5 rds_row rfl) 0 g263⟩) (by kernel_rfl) HS279 ?_
             clear E; intro a E
             replace E := E.same (t := 82) (u := .bool false) rfl (congrArg Value.bool (decide_eq_false h269))
             refine dr tbok (by kernel_rfl) [15, 16, 17, 18, 19, 20, 21, 22, 23, 24, 25, 26] [.int .i64 (List.getD r54.1 (Int.toNat q173) 0), .slice (some ⟨b275, o276, none⟩) (List.length aAccept) c2, .bool (List.getD aAccept (Int.toNat q173) false)] [(2, .pointer (some ⟨g13, 0, none⟩)), (3, .pointer (some ⟨g18, 0, none⟩)), (5, .bool r23), (6, .slice (some ⟨b93, 0, none⟩) (List.length r54.1) c64), (10, .int .i64 q173), (73, .bool false), (74, .slice (some ⟨b93, 0, none⟩) (List.length r54.1) c64), (75, .int .i64 q173), (76, .pointer (some ⟨b93, 0 + (Int.toNat q173) * 1, none⟩)), (77, .int .i64 (List.getD r54.1 (Int.toNat q173) 0)), (78, .slice (some ⟨b93, 0, none⟩) (List.length r54.1) c64), (79, .int .i64 (((List.length r54.1) : Nat) : Int)), (80, .bool (decide ((((List.length r54.1) : Nat) : Int) ≤ (List.getD r54.1 (Int.toNat q173) 0)))), (82, .bool false), (83, .slice (some ⟨b93, 0, none⟩) (List.length r54.1) c64), (84, .int .i64 q173), (85, .pointer (some ⟨b93, 0 + (Int.toNat q173) * 1, none⟩)), (86, .int .i64 (List.getD r54.1 (Int.toNat q173) 0)), (87, .bool (((List.getD r54.1 (Int.toNat q173) 0) : Int) == 0)), (88, .pointer (some ⟨g13, 1, none⟩)), (89, .slice (some ⟨b275, o276, none⟩) (List.length aAccept) c2), (90, .int .i64 q173), (91, .pointer (some ⟨b275, o276 + (Int.toNat q173) * 1, none⟩)), (92, .bool (List.getD aAccept (Int.toNat q173) false)), (93, .bool (!((((List.getD r54.1 (Int.toNat q173) 0) : Int) == 0) == (List.getD aAccept (Int.toNat q173) false)))), (94, .bool (!((((List.getD r54.1 (Int.toNat q173) 0) : Int) == 0) == (List.getD aAccept (Int.toNat q173) false))))] (fun w_ => [0 ≤ q173 ∧ q173 < (((List.length r54.1) : Nat) : Int), World.cell? w_ ⟨b93, 0 + (Int.toNat q173) * 1, none⟩ = some (.int .i64 (List.getD r54.1 (Int.toNat q173) 0)), World.cell? w_ ⟨g13, 1, none⟩ = some (.slice (some ⟨b275, o276, none⟩) (List.length aAccept) c2), 0 ≤ q173 ∧ q173 < (((List.length aAccept) : Nat) : Int), World.cell? w_ ⟨b275, o276 + (Int.toNat q173) * 1, none⟩ = some (.bool (List.getD aAccept (Int.toNat q173) false))]) 0 E (fun _ _ => by kernel_rfl) (fun w_ hS_ => ⟨g263, Rds.at1 (HR280.rdk [] hS_ 5 rds_row rfl) 0 g263, (HR280.boxk [] hS_ 3 rfl rfl).cell (j := 1) rfl, g274, Rds.at1 (HR280.rdk [] hS_ 0 rds_ro rfl) false g274⟩) (by kernel_rfl) HS279 ?_
             clear E; intro a E
             refine dr_done (by kernel_rfl) ?_
             clear HS279 HR280
             refine th_n ?_
             refine E.cases (t := 94) rfl (fun hb_ E_ => ?_) (fun hb_ E_ => ?_)
             ·
              replace E := E_; clear E_
              have h281 : ¬ ((((List.getD r54.1 (Int.toNat q173) 0) : Int) == 0) = (List.getD aAccept (Int.toNat q173) false)) := (by simpa using hb_)
              clear hb_; replace hP := ite_f h281 hP
              refine c_true E rfl ?_
              refine wp_seq ?_
              refine wp_region_lit ?_
              refine vr tbok 1 [] [(4, .bool false)] [] E (by kernel_rfl) trivial ?_
              clear E; intro a E
              refine wpList_nil ?_
              refine th_n ?_
              refine wp_ret ?_
              refine th_ret ?_
              refine bl_ret ?_
              refine th_ret ?_
              refine th_ret ?_
              refine .inr ⟨rfl, ?_⟩
              refine bl_ret ?_
              refine th_ret ?_
              have hx_ := Option.some.inj hP; subst hx_
              have hP : some (false) = some r := hK258
              obtain rfl := Option.some.inj hP
              refine ret1 E rfl rfl ?_
              exact ⟨_, rfl, rfl, H.sel [] rfl⟩
             ·
              replace E := E_; clear E_
              have h282 : (((List.getD r54.1 (Int.toNat q173) 0) : Int) == 0) = (List.getD aAccept (Int.toNat q173) false) := (by simpa using hb_)
              clear hb_; replace hP := ite_t h282 hP
              refine c_false E rfl ?_
              refine wp_skip ?_
              refine th_n ?_
              refine wp_seq ?_
              refine wp_region_lit ?_
              refine vr tbok 3 [.agg #[.int .i64 aProps, .slice (some ⟨b275, o276, none⟩) (List.length aAccept) c2, .slice A5 (List.length aGuard) c6, .slice A9 (List.length aNodes) c10], .agg #[.int .u8 s.1, .int .u8 s.2]] [(2, .pointer (some ⟨g13, 0, none⟩)), (3, .pointer (some ⟨g18, 0, none⟩)), (5, .bool r23), (6, .slice (some ⟨b93, 0, none⟩) (List.length r54.1) c64), (10, .int .i64 q173), (74, .slice (some ⟨b93, 0, none⟩) (List.length r54.1) c64), (75, .int .i64 q173), (76, .pointer (some ⟨b93, 0 + (Int.toNat q173) * 1, none⟩)), (77, .int .i64 (List.getD r54.1 (Int.toNat q173) 0)), (78, .slice (some ⟨b93, 0, none⟩) (List.length r54.1) c64), (79, .int .i64 (((List.length r54.1) : Nat) : Int)), (80, .bool (decide ((((List.length r54.1) : Nat) : Int) ≤ (List.getD r54.1 (Int.toNat q173) 0)))), (83, .slice (some ⟨b93, 0, none⟩) (List.length r54.1) c64), (84, .int .i64 q173), (85, .pointer (some ⟨b93, 0 + (Int.toNat q173) * 1, none⟩)), (86, .int .i64 (List.getD r54.1 (Int.toNat q173) 0)), (87, .bool (((List.getD r54.1 (Int.toNat q173) 0) : Int) == 0)), (88, .pointer (some ⟨g13, 1, none⟩)), (89, .slice (some ⟨b275, o276, none⟩) (List.length aAccept) c2), (90, .int .i64 q173), (91, .pointer (some ⟨b275, o276 + (Int.toNat q173) * 1, none⟩)), (92, .bool (List.getD aAccept (Int.toNat q173) false)), (93, .bool (!((((List.getD r54.1 (Int.toNat q173) 0) : Int) == 0) == (List.getD aAccept (Int.toNat q173) false)))), (96, .agg #[.int .i64 aProps, .slice (some ⟨b275, o276, none⟩) (List.length aAccept) c2, .slice A5 (List.length aGuard) c6, .slice A9 (List.length aNodes) c10]), (97, .agg #[.int .u8 s.1, .int .u8 s.2]), (98, .int .i64 q173)] [cellsAt w277 g13 (0) [.int .i64 aProps, .slice (some ⟨b275, o276, none⟩) (List.length aAccept) c2, .slice A5 (List.length aGuard) c6, .slice A9 (List.length aNodes) c10], cellsAt w277 g18 (0) [.int .u8 s.1, .int .u8 s.2]] E (by kernel_rfl) ⟨(H.box 3 rfl).sub 0 _ rfl, (H.box 4 rfl).sub 0 _ rfl⟩ ?_
              clear E; intro a E
              obtain ⟨r283, h284, hP⟩ := bind_inv hP
              obtain ⟨Fa285, Hc286, hb287⟩ := H.call [] [(0, false), (1, false), (2, false)] rfl rfl trivial
              refine e_call E rfl rfl Try.func14 rfl rfl rfl (board_Goes_calls (some ⟨b275, o276, none⟩) c2 A5 c6 A9 c10 aProps aAccept aGuard aNodes (s.1, s.2) q173 hk3 hk7 hk11 Hc286 h284) ?_
              rintro v288 w289 a ⟨A292, c293, rfl, HR290⟩ E_
              replace E := E_ _ rfl; clear E_
              obtain ⟨H_, hc291⟩ := hb287 _ _ HR290 rfl
              replace H := H_; clear H_; try dsimp only [setn, addE, goneL] at H
              refine vr tbok 5 [] [(2, .pointer (some ⟨g13, 0, none⟩)), (3, .pointer (some ⟨g18, 0, none⟩)), (5, .bool r23), (6, .slice (some ⟨b93, 0, none⟩) (List.length r54.1) c64), (10, .int .i64 q173), (11, .slice A292 (List.length r283.1) c293), (12, .int .i64 r283.2), (74, .slice (some ⟨b93, 0, none⟩) (List.length r54.1) c64), (75, .int .i64 q173), (76, .pointer (some ⟨b93, 0 + (Int.toNat q173) * 1, none⟩)), (77, .int .i64 (List.getD r54.1 (Int.toNat q173) 0)), (78, .slice (some ⟨b93, 0, none⟩) (List.length r54.1) c64), (79, .int .i64 (((List.length r54.1) : Nat) : Int)), (80, .bool (decide ((((List.length r54.1) : Nat) : Int) ≤ (List.getD r54.1 (Int.toNat q173) 0)))), (83, .slice (some ⟨b93, 0, none⟩) (List.length r54.1) c64), (84, .int .i64 q173), (85, .pointer (some ⟨b93, 0 + (Int.toNat q173) * 1, none⟩)), (86, .int .i64 (List.getD r54.1 (Int.toNat q173) 0)), (87, .bool (((List.getD r54.1 (Int.toNat q173) 0) : Int) == 0)), (88, .pointer (some ⟨g13, 1, none⟩)), (89, .slice (some ⟨b275, o276, none⟩) (List.length aAccept) c2), (90, .int .i64 q173), (91, .pointer (some ⟨b275, o276 + (Int.toNat q173) * 1, none⟩)), (92, .bool (List.getD aAccept (Int.toNat q173) false)), (93, .bool (!((((List.getD r54.1 (Int.toNat q173) 0) : Int) == 0) == (List.getD aAccept (Int.toNat q173) false))))] [] E (by kernel_rfl) trivial ?_
              clear E; intro a E
              refine wpList_nil ?_
              refine th_n ?_
              refine wp_seq ?_
              refine wp_seq ?_
              refine wp_region_lit ?_
              refine vr tbok 3 [] [(2, .pointer (some ⟨g13, 0, none⟩)), (3, .pointer (some ⟨g18, 0, none⟩)), (5, .bool r23), (6, .slice (some ⟨b93, 0, none⟩) (List.length r54.1) c64), (10, .int .i64 q173), (11, .slice A292 (List.length r283.1) c293), (74, .slice (some ⟨b93, 0, none⟩) (List.length r54.1) c64), (75, .int .i64 q173), (76, .pointer (some ⟨b93, 0 + (Int.toNat q173) * 1, none⟩)), (77, .int .i64 (List.getD r54.1 (Int.toNat q173) 0)), (78, .slice (some ⟨b93, 0, none⟩) (List.length r54.1) c64), (79, .int .i64 (((List.length r54.1) : Nat) : Int)), (80, .bool (decide ((((List.length r54.1) : Nat) : Int) ≤ (List.getD r54.1 (Int.toNat q173) 0)))), (83, .slice (some ⟨b93, 0, none⟩) (List.length r54.1) c64), (84, .int .i64 q173), (85, .pointer (some ⟨b93, 0 + (Int.toNat q173) * 1, none⟩)), (86, .int .i64 (List.getD r54.1 (Int.toNat q173) 0)), (87, .bool (((List.getD r54.1 (Int.toNat q173) 0) : Int) == 0)), (88, .pointer (some ⟨g13, 1, none⟩)), (89, .slice (some ⟨b275, o276, none⟩) (List.length aAccept) c2), (90, .int .i64 q173), (91, .pointer (some ⟨b275, o276 + (Int.toNat q173) * 1, none⟩)), (92, .bool (List.getD aAccept (Int.toNat q173) false)), (93, .bool (!((((List.getD r54.1 (Int.toNat q173) 0) : Int) == 0) == (List.getD aAccept (Int.toNat q173) false)))), (104, .bool ((r283.2 : Int) != 0))] [] E (by kernel_rfl) trivial ?_
              clear E; intro a E
              refine E.cases (t := 104) rfl (fun hb_ E_ => ?_) (fun hb_ E_ => ?_)
              ·
               replace E := E_; clear E_
               have h295 : ¬ ((r283.2 : Int) = 0) := bne_iff_ne.1 hb_
               clear hb_; replace hP := ite_f h295 hP
               refine vr tbok 4 [] [(2, .pointer (some ⟨g13, 0, none⟩)), (3, .pointer (some ⟨g18, 0, none⟩)), (5, .bool r23), (6, .slice (some ⟨b93, 0, none⟩) (List.length r54.1) c64), (10, .int .i64 q173), (11, .slice A292 (List.length r283.1) c293), (74, .slice (some ⟨b93, 0, none⟩) (List.length r54.1) c64), (75, .int .i64 q173), (76, .pointer (some ⟨b93, 0 + (Int.toNat q173) * 1, none⟩)), (77, .int .i64 (List.getD r54.1 (Int.toNat q173) 0)), (78, .slice (some ⟨b93, 0, none⟩) (List.length r54.1) c64), (79, .int .i64 (((List.length r54.1) : Nat) : Int)), (80, .bool (decide ((((List.length r54.1) : Nat) : Int) ≤ (List.getD r54.1 (Int.toNat q173) 0)))), (83, .slice (some ⟨b93, 0, none⟩) (List.length r54.1) c64), (84, .int .i64 q173), (85, .pointer (some ⟨b93, 0 + (Int.toNat q173) * 1, none⟩)), (86, .int .i64 (List.getD r54.1 (Int.toNat q173) 0)), (87, .bool (((List.getD r54.1 (Int.toNat q173) 0) : Int) == 0)), (88, .pointer (some ⟨g13, 1, none⟩)), (89, .slice (some ⟨b275, o276, none⟩) (List.length aAccept) c2), (90, .int .i64 q173), (91, .pointer (some ⟨b275, o276 + (Int.toNat q173) * 1, none⟩)), (92, .bool (List.getD aAccept (Int.toNat q173) false)), (93, .bool (!((((List.getD r54.1 (Int.toNat q173) 0) : Int) == 0) == (List.getD aAccept (Int.toNat q173) false)))), (105, .tuple #[]), (106, .tuple #[]), (107, .tuple #[]), (108, .bool true)] [] E (by kernel_rfl) trivial ?_
               clear E; intro a E
               refine wpList_nil ?_
               refine th_n ?_
               refine c_true E rfl ?_
               refine wp_seq ?_
               refine wp_region_lit ?_
               refine vr tbok 1 [] [(4, .bool false)] [] E (by kernel_rfl) trivial ?_
               clear E; intro a E
               refine wpList_nil ?_
               refine th_n ?_
               refine wp_ret ?_
               refine th_ret ?_
               refine bl_ret ?_
               refine th_ret ?_
               refine th_ret ?_
               refine .inr ⟨rfl, ?_⟩
               refine bl_ret ?_
               refine th_ret ?_
               have hx_ := Option.some.inj hP; subst hx_
               have hP : some (false) = some r := hK258
               obtain rfl := Option.some.inj hP
               refine ret1 E rfl rfl ?_
               exact ⟨_, rfl, rfl, H.sel [] rfl⟩
              ·
               replace E := E_; clear E_
               have h296 : (r283.2 : Int) = 0 := bne_eq_false_iff_eq.1 hb_
               clear hb_; replace hP := ite_t h296 hP
               refine vr tbok 4 [] [(2, .pointer (some ⟨g13, 0, none⟩)), (3, .pointer (some ⟨g18, 0, none⟩)), (5, .bool r23), (6, .slice (some ⟨b93, 0, none⟩) (List.length r54.1) c64), (10, .int .i64 q173), (11, .slice A292 (List.length r283.1) c293), (74, .slice (some ⟨b93, 0, none⟩) (List.length r54.1) c64), (75, .int .i64 q173), (76, .pointer (some ⟨b93, 0 + (Int.toNat q173) * 1, none⟩)), (77, .int .i64 (List.getD r54.1 (Int.toNat q173) 0)), (78, .slice (some ⟨b93, 0, none⟩) (List.length r54.1) c64), (79, .int .i64 (((List.length r54.1) : Nat) : Int)), (80, .bool (decide ((((List.length r54.1) : Nat) : Int) ≤ (List.getD r54.1 (Int.toNat q173) 0)))), (83, .slice (some ⟨b93, 0, none⟩) (List.length r54.1) c64), (84, .int .i64 q173), (85, .pointer (some ⟨b93, 0 + (Int.toNat q173) * 1, none⟩)), (86, .int .i64 (List.getD r54.1 (Int.toNat q173) 0)), (87, .bool (((List.getD r54.1 (Int.toNat q173) 0) : Int) == 0)), (88, .pointer (some ⟨g13, 1, none⟩)), (89, .slice (some ⟨b275, o276, none⟩) (List.length aAccept) c2), (90, .int .i64 q173), (91, .pointer (some ⟨b275, o276 + (Int.toNat q173) * 1, none⟩)), (92, .bool (List.getD aAccept (Int.toNat q173) false)), (93, .bool (!((((List.getD r54.1 (Int.toNat q173) 0) : Int) == 0) == (List.getD aAccept (Int.toNat q173) false)))), (105, .slice A292 (List.length r283.1) c293), (106, .int .i64 (((List.length r283.1) : Nat) : Int)), (107, .bool (((((List.length r283.1) : Nat) : Int) : Int) == 0)), (108, .bool (((((List.length r283.1) : Nat) : Int) : Int) == 0))] [] E (by kernel_rfl) trivial ?_
               clear E; intro a E
               refine wpList_nil ?_
               refine th_n ?_
               refine E.cases (t := 108) rfl (fun hb_ E_ => ?_) (fun hb_ E_ => ?_)
               ·
                replace E := E_; clear E_
                have h297 : ((((List.length r283.1) : Nat) : Int) : Int) = 0 := eq_of_beq hb_
                clear hb_; replace hP := ite_t h297 hP
                refine c_true E rfl ?_
                refine wp_seq ?_
                refine wp_region_lit ?_
                refine vr tbok 1 [] [(4, .bool false)] [] E (by kernel_rfl) trivial ?_
                clear E; intro a E
                refine wpList_nil ?_
                refine th_n ?_
                refine wp_ret ?_
                refine th_ret ?_
                refine bl_ret ?_
                refine th_ret ?_
                refine th_ret ?_
                refine .inr ⟨rfl, ?_⟩
                refine bl_ret ?_
                refine th_ret ?_
                have hx_ := Option.some.inj hP; subst hx_
                have hP : some (false) = some r := hK258
                obtain rfl := Option.some.inj hP
                refine ret1 E rfl rfl ?_
                exact ⟨_, rfl, rfl, H.sel [] rfl⟩
               ·
                replace E := E_; clear E_
                have h298 : ¬ (((((List.length r283.1) : Nat) : Int) : Int) = 0) := ne_of_beq_false hb_
                clear hb_; replace hP := ite_f h298 hP
                refine c_false E rfl ?_
                refine wp_skip ?_
                refine th_n ?_
                refine wp_seq ?_
                refine wp_region_lit ?_
                refine vr tbok 6 [.int .i64 (List.getD r54.1 (Int.toNat q173) 0)] [(2, .pointer (some ⟨g13, 0, none⟩)), (3, .pointer (some ⟨g18, 0, none⟩)), (5, .bool r23), (6, .slice (some ⟨b93, 0, none⟩) (List.length r54.1) c64), (10, .int .i64 q173), (11, .slice A292 (List.length r283.1) c293), (74, .slice (some ⟨b93, 0, none⟩) (List.length r54.1) c64), (75, .int .i64 q173), (76, .pointer (some ⟨b93, 0 + (Int.toNat q173) * 1, none⟩)), (77, .int .i64 (List.getD r54.1 (Int.toNat q173) 0)), (78, .slice (some ⟨b93, 0, none⟩) (List.length r54.1) c64), (79, .int .i64 (((List.length r54.1) : Nat) : Int)), (80, .bool (decide ((((List.length r54.1) : Nat) : Int) ≤ (List.getD r54.1 (Int.toNat q173) 0)))), (83, .slice (some ⟨b93, 0, none⟩) (List.length r54.1) c64), (84, .int .i64 q173), (85, .pointer (some ⟨b93, 0 + (Int.toNat q173) * 1, none⟩)), (86, .int .i64 (List.getD r54.1 (Int.toNat q173) 0)), (87, .bool (((List.getD r54.1 (Int.toNat q173) 0) : Int) == 0)), (88, .pointer (some ⟨g13, 1, none⟩)), (89, .slice (some ⟨b275, o276, none⟩) (List.length aAccept) c2), (90, .int .i64 q173), (91, .pointer (some ⟨b275, o276 + (Int.toNat q173) * 1, none⟩)), (92, .bool (List.getD aAccept (Int.toNat q173) false)), (93, .bool (!((((List.getD r54.1 (Int.toNat q173) 0) : Int) == 0) == (List.getD aAccept (Int.toNat q173) false)))), (105, .slice A292 (List.length r283.1) c293), (106, .int .i64 (((List.length r283.1) : Nat) : Int)), (107, .bool (((((List.length r283.1) : Nat) : Int) : Int) == 0)), (114, .bool (decide (0 < (List.getD r54.1 (Int.toNat q173) 0))))] [0 ≤ q173 ∧ q173 < (((List.length r54.1) : Nat) : Int), World.cell? w289 ⟨b93, 0 + (Int.toNat q173) * 1, none⟩ = some (.int .i64 (List.getD r54.1 (Int.toNat q173) 0))] E (by kernel_rfl) ⟨g263, Rds.at1 (H.rd 5 rds_row) 0 g263⟩ ?_
                clear E; intro a E
                refine E.cases (t := 114) rfl (fun hb_ E_ => ?_) (fun hb_ E_ => ?_)
                ·
                 replace E := E_; clear E_
                 have h299 : 0 < (List.getD r54.1 (Int.toNat q173) 0) := of_decide_eq_true hb_
                 clear hb_; replace hP := ite_t h299 hP
                 refine vr tbok 6 [.int .i64 (List.getD r54.1 (Int.toNat q173) 0)] [(2, .pointer (some ⟨g13, 0, none⟩)), (3, .pointer (some ⟨g18, 0, none⟩)), (5, .bool r23), (6, .slice (some ⟨b93, 0, none⟩) (List.length r54.1) c64), (10, .int .i64 q173), (11, .slice A292 (List.length r283.1) c293), (74, .slice (some ⟨b93, 0, none⟩) (List.length r54.1) c64), (75, .int .i64 q173), (76, .pointer (some ⟨b93, 0 + (Int.toNat q173) * 1, none⟩)), (77, .int .i64 (List.getD r54.1 (Int.toNat q173) 0)), (78, .slice (some ⟨b93, 0, none⟩) (List.length r54.1) c64), (79, .int .i64 (((List.length r54.1) : Nat) : Int)), (80, .bool (decide ((((List.length r54.1) : Nat) : Int) ≤ (List.getD r54.1 (Int.toNat q173) 0)))), (83, .slice (some ⟨b93, 0, none⟩) (List.length r54.1) c64), (84, .int .i64 q173), (85, .pointer (some ⟨b93, 0 + (Int.toNat q173) * 1, none⟩)), (86, .int .i64 (List.getD r54.1 (Int.toNat q173) 0)), (87, .bool (((List.getD r54.1 (Int.toNat q173) 0) : Int) == 0)), (88, .pointer (some ⟨g13, 1, none⟩)), (89, .slice (some ⟨b275, o276, none⟩) (List.length aAccept) c2), (90, .int .i64 q173), (91, .pointer (some ⟨b275, o276 + (Int.toNat q173) * 1, none⟩)), (92, .bool (List.getD aAccept (Int.toNat q173) false)), (93, .bool (!((((List.getD r54.1 (Int.toNat q173) 0) : Int) == 0) == (List.getD aAccept (Int.toNat q173) false)))), (105, .slice A292 (List.length r283.1) c293), (106, .int .i64 (((List.length r283.1) : Nat) : Int)), (107, .bool (((((List.length r283.1) : Nat) : Int) : Int) == 0)), (114, .bool true), (115, .slice (some ⟨b93, 0, none⟩) (List.length r54.1) c64), (116, .slice A292 (List.length r283.1) c293), (117, .slice (some ⟨b93, 0, none⟩) (List.length r54.1) c64), (118, .int .i64 q173), (119, .pointer (some ⟨b93, 0 + (Int.toNat q173) * 1, none⟩)), (120, .int .i64 (List.getD r54.1 (Int.toNat q173) 0))] [0 ≤ q173 ∧ q173 < (((List.length r54.1) : Nat) : Int), World.cell? w289 ⟨b93, 0 + (Int.toNat q173) * 1, none⟩ = some (.int .i64 (List.getD r54.1 (Int.toNat q173) 0))] E (by kernel_rfl) ⟨g263, Rds.at1 (H.rd 5 rds_row) 0 g263⟩ ?_
                 clear E; intro a E
                 obtain ⟨r300, h301, hP⟩ := bind_inv hP
                 obtain ⟨Fa302, Hc303, hb304⟩ := H.call [] [(5, false), (6, false)] rfl rfl trivial
                 refine e_call E rfl rfl Try.func15 rfl rfl rfl (law23_falls_calls (some ⟨b93, 0, none⟩) c64 A292 c293 r54.1 r283.1 (List.getD r54.1 (Int.toNat q173) 0) (H.rcap 5 rfl) (H.rcap 6 rfl) Hc303 h301) ?_
                 rintro v305 w306 a ⟨rfl, HR307⟩ E_
                 replace E := E_ _ rfl; clear E_
                 obtain ⟨H_, hc308⟩ := hb304 _ _ HR307 rfl
                 replace H := H_; clear H_; try dsimp only [setn, addE, goneL] at H
                 refine vr tbok 3 [] [(2, .pointer (some ⟨g13, 0, none⟩)), (3, .pointer (some ⟨g18, 0, none⟩)), (5, .bool r23), (6, .slice (some ⟨b93, 0, none⟩) (List.length r54.1) c64), (10, .int .i64 q173), (11, .slice A292 (List.length r283.1) c293), (74, .slice (some ⟨b93, 0, none⟩) (List.length r54.1) c64), (75, .int .i64 q173), (76, .pointer (some ⟨b93, 0 + (Int.toNat q173) * 1, none⟩)), (77, .int .i64 (List.getD r54.1 (Int.toNat q173) 0)), (78, .slice (some ⟨b93, 0, none⟩) (List.length r54.1) c64), (79, .int .i64 (((List.length r54.1) : Nat) : Int)), (80, .bool (decide ((((List.length r54.1) : Nat) : Int) ≤ (List.getD r54.1 (Int.toNat q173) 0)))), (83, .slice (some ⟨b93, 0, none⟩) (List.length r54.1) c64), (84, .int .i64 q173), (85, .pointer (some ⟨b93, 0 + (Int.toNat q173) * 1, none⟩)), (86, .int .i64 (List.getD r54.1 (Int.toNat q173) 0)), (87, .bool (((List.getD r54.1 (Int.toNat q173) 0) : Int) == 0)), (88, .pointer (some ⟨g13, 1, none⟩)), (89, .slice (some ⟨b275, o276, none⟩) (List.length aAccept) c2), (90, .int .i64 q173), (91, .pointer (some ⟨b275, o276 + (Int.toNat q173) * 1, none⟩)), (92, .bool (List.getD aAccept (Int.toNat q173) false)), (93, .bool (!((((List.getD r54.1 (Int.toNat q173) 0) : Int) == 0) == (List.getD aAccept (Int.toNat q173) false)))), (105, .slice A292 (List.length r283.1) c293), (106, .int .i64 (((List.length r283.1) : Nat) : Int)), (107, .bool (((((List.length r283.1) : Nat) : Int) : Int) == 0)), (115, .slice (some ⟨b93, 0, none⟩) (List.length r54.1) c64), (116, .slice A292 (List.length r283.1) c293), (117, .slice (some ⟨b93, 0, none⟩) (List.length r54.1) c64), (118, .int .i64 q173), (119, .pointer (some ⟨b93, 0 + (Int.toNat q173) * 1, none⟩)), (120, .int .i64 (List.getD r54.1 (Int.toNat q173) 0)), (121, .bool r300), (122, .bool (!r300)), (124, .bool (!r300))] [] E (by kernel_rfl) trivial ?_
                 clear E; intro a E
                 refine E.cases (t := 124) rfl (fun hb_ E_ => ?_) (fun hb_ E_ => ?_)
                 ·
                  replace E := E_; clear E_
                  have h309 : ¬ (r300 = true) := (ne_true_of_eq_false (not_t hb_))
                  clear hb_; replace hP := ite_f h309 hP
                  refine vr tbok 12 [] [(2, .pointer (some ⟨g13, 0, none⟩)), (3, .pointer (some ⟨g18, 0, none⟩)), (5, .bool r23), (6, .slice (some ⟨b93, 0, none⟩) (List.length r54.1) c64), (10, .int .i64 q173), (74, .slice (some ⟨b93, 0, none⟩) (List.length r54.1) c64), (75, .int .i64 q173), (76, .pointer (some ⟨b93, 0 + (Int.toNat q173) * 1, none⟩)), (77, .int .i64 (List.getD r54.1 (Int.toNat q173) 0)), (78, .slice (some ⟨b93, 0, none⟩) (List.length r54.1) c64), (79, .int .i64 (((List.length r54.1) : Nat) : Int)), (80, .bool (decide ((((List.length r54.1) : Nat) : Int) ≤ (List.getD r54.1 (Int.toNat q173) 0)))), (83, .slice (some ⟨b93, 0, none⟩) (List.length r54.1) c64), (84, .int .i64 q173), (85, .pointer (some ⟨b93, 0 + (Int.toNat q173) * 1, none⟩)), (86, .int .i64 (List.getD r54.1 (Int.toNat q173) 0)), (87, .bool (((List.getD r54.1 (Int.toNat q173) 0) : Int) == 0)), (88, .pointer (some ⟨g13, 1, none⟩)), (89, .slice (some ⟨b275, o276, none⟩) (List.length aAccept) c2), (90, .int .i64 q173), (91, .pointer (some ⟨b275, o276 + (Int.toNat q173) * 1, none⟩)), (92, .bool (List.getD aAccept (Int.toNat q173) false)), (93, .bool (!((((List.getD r54.1 (Int.toNat q173) 0) : Int) == 0) == (List.getD aAccept (Int.toNat q173) false)))), (105, .slice A292 (List.length r283.1) c293), (106, .int .i64 (((List.length r283.1) : Nat) : Int)), (107, .bool (((((List.length r283.1) : Nat) : Int) : Int) == 0)), (115, .slice (some ⟨b93, 0, none⟩) (List.length r54.1) c64), (116, .slice A292 (List.length r283.1) c293), (117, .slice (some ⟨b93, 0, none⟩) (List.length r54.1) c64), (118, .int .i64 q173), (119, .pointer (some ⟨b93, 0 + (Int.toNat q173) * 1, none⟩)), (120, .int .i64 (List.getD r54.1 (Int.toNat q173) 0)), (121, .bool r300), (122, .bool (!r300)), (125, .tuple #[]), (126, .tuple #[]), (127, .tuple #[]), (128, .tuple #[]), (129, .tuple #[]), (130, .tuple #[]), (131, .tuple #[]), (132, .tuple #[]), (133, .tuple #[]), (134, .tuple #[]), (135, .tuple #[]), (136, .bool true)] [] E (by kernel_rfl) trivial ?_
                  clear E; intro a E
                  refine wpList_nil ?_
                  refine th_n ?_
                  refine c_true E rfl ?_
                  refine wp_seq ?_
                  refine wp_region_lit ?_
                  refine vr tbok 1 [] [(4, .bool false)] [] E (by kernel_rfl) trivial ?_
                  clear E; intro a E
                  refine wpList_nil ?_
                  refine th_n ?_
                  refine wp_ret ?_
                  refine bl_ret ?_
                  refine th_ret ?_
                  refine th_ret ?_
                  refine .inr ⟨rfl, ?_⟩
                  refine bl_ret ?_
                  refine th_ret ?_
                  have hx_ := Option.some.inj hP; subst hx_
                  have hP : some (false) = some r := hK258
                  obtain rfl := Option.some.inj hP
                  refine ret1 E rfl rfl ?_
                  exact ⟨_, rfl, rfl, H.sel [] rfl⟩
                 ·
                  replace E := E_; clear E_
                  have h310 : r300 = true := (not_f hb_)
                  clear hb_; replace hP := ite_t h310 hP
                  refine vr tbok 6 [.int .i64 (List.getD r54.1 (Int.toNat q173) 0)] [(2, .pointer (some ⟨g13, 0, none⟩)), (3, .pointer (some ⟨g18, 0, none⟩)), (5, .bool r23), (6, .slice (some ⟨b93, 0, none⟩) (List.length r54.1) c64), (10, .int .i64 q173), (11, .slice A292 (List.length r283.1) c293), (74, .slice (some ⟨b93, 0, none⟩) (List.length r54.1) c64), (75, .int .i64 q173), (76, .pointer (some ⟨b93, 0 + (Int.toNat q173) * 1, none⟩)), (77, .int .i64 (List.getD r54.1 (Int.toNat q173) 0)), (78, .slice (some ⟨b93, 0, none⟩) (List.length r54.1) c64), (79, .int .i64 (((List.length r54.1) : Nat) : Int)), (80, .bool (decide ((((List.length r54.1) : Nat) : Int) ≤ (List.getD r54.1 (Int.toNat q173) 0)))), (83, .slice (some ⟨b93, 0, none⟩) (List.length r54.1) c64), (84, .int .i64 q173), (85, .pointer (some ⟨b93, 0 + (Int.toNat q173) * 1, none⟩)), (86, .int .i64 (List.getD r54.1 (Int.toNat q173) 0)), (87, .bool (((List.getD r54.1 (Int.toNat q173) 0) : Int) == 0)), (88, .pointer (some ⟨g13, 1, none⟩)), (89, .slice (some ⟨b275, o276, none⟩) (List.length aAccept) c2), (90, .int .i64 q173), (91, .pointer (some ⟨b275, o276 + (Int.toNat q173) * 1, none⟩)), (92, .bool (List.getD aAccept (Int.toNat q173) false)), (93, .bool (!((((List.getD r54.1 (Int.toNat q173) 0) : Int) == 0) == (List.getD aAccept (Int.toNat q173) false)))), (105, .slice A292 (List.length r283.1) c293), (106, .int .i64 (((List.length r283.1) : Nat) : Int)), (107, .bool (((((List.length r283.1) : Nat) : Int) : Int) == 0)), (115, .slice (some ⟨b93, 0, none⟩) (List.length r54.1) c64), (116, .slice A292 (List.length r283.1) c293), (117, .slice (some ⟨b93, 0, none⟩) (List.length r54.1) c64), (118, .int .i64 q173), (119, .pointer (some ⟨b93, 0 + (Int.toNat q173) * 1, none⟩)), (120, .int .i64 (List.getD r54.1 (Int.toNat q173) 0)), (121, .bool r300), (122, .bool (!r300)), (124, .bool false), (125, .slice (some ⟨b93, 0, none⟩) (List.length r54.1) c64), (126, .int .i64 q173), (127, .pointer (some ⟨b93, 0 + (Int.toNat q173) * 1, none⟩)), (128, .int .i64 (List.getD r54.1 (Int.toNat q173) 0)), (129, .bool (decide ((List.getD r54.1 (Int.toNat q173) 0) < 0))), (130, .bool (decide ((List.getD r54.1 (Int.toNat q173) 0) < 0)))] [0 ≤ q173 ∧ q173 < (((List.length r54.1) : Nat) : Int), World.cell? w306 ⟨b93, 0 + (Int.toNat q173) * 1, none⟩ = some (.int .i64 (List.getD r54.1 (Int.toNat q173) 0))] E (by kernel_rfl) ⟨g263, Rds.at1 (H.rd 5 rds_row) 0 g263⟩ ?_
                  clear E; intro a E
                  refine E.cases (t := 130) rfl (fun hb_ E_ => ?_) (fun hb_ E_ => ?_)
                  ·
                   replace E := E_; clear E_
                   have h311 : (List.getD r54.1 (Int.toNat q173) 0) < 0 := of_decide_eq_true hb_
                   clear hb_; replace hP := ite_t h311 hP
                   refine vr tbok 2 [] [(2, .pointer (some ⟨g13, 0, none⟩)), (3, .pointer (some ⟨g18, 0, none⟩)), (5, .bool r23), (6, .slice (some ⟨b93, 0, none⟩) (List.length r54.1) c64), (10, .int .i64 q173), (74, .slice (some ⟨b93, 0, none⟩) (List.length r54.1) c64), (75, .int .i64 q173), (76, .pointer (some ⟨b93, 0 + (Int.toNat q173) * 1, none⟩)), (77, .int .i64 (List.getD r54.1 (Int.toNat q173) 0)), (78, .slice (some ⟨b93, 0, none⟩) (List.length r54.1) c64), (79, .int .i64 (((List.length r54.1) : Nat) : Int)), (80, .bool (decide ((((List.length r54.1) : Nat) : Int) ≤ (List.getD r54.1 (Int.toNat q173) 0)))), (83, .slice (some ⟨b93, 0, none⟩) (List.length r54.1) c64), (84, .int .i64 q173), (85, .pointer (some ⟨b93, 0 + (Int.toNat q173) * 1, none⟩)), (86, .int .i64 (List.getD r54.1 (Int.toNat q173) 0)), (87, .bool (((List.getD r54.1 (Int.toNat q173) 0) : Int) == 0)), (88, .pointer (some ⟨g13, 1, none⟩)), (89, .slice (some ⟨b275, o276, none⟩) (List.length aAccept) c2), (90, .int .i64 q173), (91, .pointer (some ⟨b275, o276 + (Int.toNat q173) * 1, none⟩)), (92, .bool (List.getD aAccept (Int.toNat q173) false)), (93, .bool (!((((List.getD r54.1 (Int.toNat q173) 0) : Int) == 0) == (List.getD aAccept (Int.toNat q173) false)))), (105, .slice A292 (List.length r283.1) c293), (106, .int .i64 (((List.length r283.1) : Nat) : Int)), (107, .bool (((((List.length r283.1) : Nat) : Int) : Int) == 0)), (115, .slice (some ⟨b93, 0, none⟩) (List.length r54.1) c64), (116, .slice A292 (List.length r283.1) c293), (117, .slice (some ⟨b93, 0, none⟩) (List.length r54.1) c64), (118, .int .i64 q173), (119, .pointer (some ⟨b93, 0 + (Int.toNat q173) * 1, none⟩)), (120, .int .i64 (List.getD r54.1 (Int.toNat q173) 0)), (121, .bool r300), (122, .bool (!r300)), (124, .bool false), (125, .slice (some ⟨b93, 0, none⟩) (List.length r54.1) c64), (126, .int .i64 q173), (127, .pointer (some ⟨b93, 0 + (Int.toNat q173) * 1, none⟩)), (128, .int .i64 (List.getD r54.1 (Int.toNat q173) 0)), (129, .bool (decide ((List.getD r54.1 (Int.toNat q173) 0) < 0))), (130, .bool true), (131, .slice (some ⟨b93, 0, none⟩) (List.length r54.1) c64), (132, .slice A292 (List.length r283.1) c293)] [] E (by kernel_rfl) trivial ?_
                   clear E; intro a E
                   obtain ⟨r312, h313, hP⟩ := bind_inv hP
                   obtain ⟨Fa314, Hc315, hb316⟩ := H.call [] [(5, false), (6, false)] rfl rfl trivial
                   refine e_call E rfl rfl Try.func16 rfl rfl rfl (law23_stays_calls (some ⟨b93, 0, none⟩) c64 A292 c293 r54.1 r283.1 (H.rcap 5 rfl) (H.rcap 6 rfl) Hc315 h313) ?_
                   rintro v317 w318 a ⟨rfl, HR319⟩ E_
                   replace E := E_ _ rfl; clear E_
                   obtain ⟨H_, hc320⟩ := hb316 _ _ HR319 rfl
                   replace H := H_; clear H_; try dsimp only [setn, addE, goneL] at H
                   refine vr tbok 3 [] [(2, .pointer (some ⟨g13, 0, none⟩)), (3, .pointer (some ⟨g18, 0, none⟩)), (5, .bool r23), (6, .slice (some ⟨b93, 0, none⟩) (List.length r54.1) c64), (10, .int .i64 q173), (74, .slice (some ⟨b93, 0, none⟩) (List.length r54.1) c64), (75, .int .i64 q173), (76, .pointer (some ⟨b93, 0 + (Int.toNat q173) * 1, none⟩)), (77, .int .i64 (List.getD r54.1 (Int.toNat q173) 0)), (78, .slice (some ⟨b93, 0, none⟩) (List.length r54.1) c64), (79, .int .i64 (((List.length r54.1) : Nat) : Int)), (80, .bool (decide ((((List.length r54.1) : Nat) : Int) ≤ (List.getD r54.1 (Int.toNat q173) 0)))), (83, .slice (some ⟨b93, 0, none⟩) (List.length r54.1) c64), (84, .int .i64 q173), (85, .pointer (some ⟨b93, 0 + (Int.toNat q173) * 1, none⟩)), (86, .int .i64 (List.getD r54.1 (Int.toNat q173) 0)), (87, .bool (((List.getD r54.1 (Int.toNat q173) 0) : Int) == 0)), (88, .pointer (some ⟨g13, 1, none⟩)), (89, .slice (some ⟨b275, o276, none⟩) (List.length aAccept) c2), (90, .int .i64 q173), (91, .pointer (some ⟨b275, o276 + (Int.toNat q173) * 1, none⟩)), (92, .bool (List.getD aAccept (Int.toNat q173) false)), (93, .bool (!((((List.getD r54.1 (Int.toNat q173) 0) : Int) == 0) == (List.getD aAccept (Int.toNat q173) false)))), (105, .slice A292 (List.length r283.1) c293), (106, .int .i64 (((List.length r283.1) : Nat) : Int)), (107, .bool (((((List.length r283.1) : Nat) : Int) : Int) == 0)), (115, .slice (some ⟨b93, 0, none⟩) (List.length r54.1) c64), (116, .slice A292 (List.length r283.1) c293), (117, .slice (some ⟨b93, 0, none⟩) (List.length r54.1) c64), (118, .int .i64 q173), (119, .pointer (some ⟨b93, 0 + (Int.toNat q173) * 1, none⟩)), (120, .int .i64 (List.getD r54.1 (Int.toNat q173) 0)), (121, .bool r300), (122, .bool (!r300)), (125, .slice (some ⟨b93, 0, none⟩) (List.length r54.1) c64), (126, .int .i64 q173), (127, .pointer (some ⟨b93, 0 + (Int.toNat q173) * 1, none⟩)), (128, .int .i64 (List.getD r54.1 (Int.toNat q173) 0)), (129, .bool (decide ((List.getD r54.1 (Int.toNat q173) 0) < 0))), (130, .bool true), (131, .slice (some ⟨b93, 0, none⟩) (List.length r54.1) c64), (132, .slice A292 (List.length r283.1) c293), (133, .bool r312), (134, .bool (!r312)), (135, .bool (!r312)), (136, .bool (!r312))] [] E (by kernel_rfl) trivial ?_
                   clear E; intro a E
                   refine wpList_nil ?_
                   refine th_n ?_
                   refine E.cases (t := 136) rfl (fun hb_ E_ => ?_) (fun hb_ E_ => ?_)
                   ·
                    replace E := E_; clear E_
                    have h321 : ¬ (r312 = true) := (ne_true_of_eq_false (not_t hb_))
                    clear hb_; replace hP := ite_f h321 hP
                    refine c_true E rfl ?_
                    refine wp_seq ?_
                    refine wp_region_lit ?_
                    refine vr tbok 1 [] [(4, .bool false)] [] E (by kernel_rfl) trivial ?_
                    clear E; intro a E
                    refine wpList_nil ?_
                    refine th_n ?_
                    refine wp_ret ?_
                    refine bl_ret ?_
                    refine th_ret ?_
                    refine th_ret ?_
                    refine .inr ⟨rfl, ?_⟩
                    refine bl_ret ?_
                    refine th_ret ?_
                    have hx_ := Option.some.inj hP; subst hx_
                    have hP : some (false) = some r := hK258
                    obtain rfl := Option.some.inj hP
                    refine ret1 E rfl rfl ?_
                    exact ⟨_, rfl, rfl, H.sel [] rfl⟩
                   ·
                    replace E := E_; clear E_
                    have h322 : r312 = true := (not_f hb_)
                    clear hb_; replace hP := ite_t h322 hP
                    refine c_false E rfl ?_
                    refine wp_skip ?_
                    refine bl_n ?_
                    refine th_n ?_
                    refine wp_region_lit ?_
                    obtain ⟨g323, hP⟩ := ask_inv hP
                    refine vr tbok 3 [.int .i64 (q173 + 1)] [(2, .pointer (some ⟨g13, 0, none⟩)), (3, .pointer (some ⟨g18, 0, none⟩)), (5, .bool r23), (6, .slice (some ⟨b93, 0, none⟩) (List.length r54.1) c64), (10, .int .i64 (q173 + 1)), (74, .slice (some ⟨b93, 0, none⟩) (List.length r54.1) c64), (75, .int .i64 q173), (76, .pointer (some ⟨b93, 0 + (Int.toNat q173) * 1, none⟩)), (77, .int .i64 (List.getD r54.1 (Int.toNat q173) 0)), (78, .slice (some ⟨b93, 0, none⟩) (List.length r54.1) c64), (79, .int .i64 (((List.length r54.1) : Nat) : Int)), (80, .bool (decide ((((List.length r54.1) : Nat) : Int) ≤ (List.getD r54.1 (Int.toNat q173) 0)))), (83, .slice (some ⟨b93, 0, none⟩) (List.length r54.1) c64), (84, .int .i64 q173), (85, .pointer (some ⟨b93, 0 + (Int.toNat q173) * 1, none⟩)), (86, .int .i64 (List.getD r54.1 (Int.toNat q173) 0)), (87, .bool (((List.getD r54.1 (Int.toNat q173) 0) : Int) == 0)), (88, .pointer (some ⟨g13, 1, none⟩)), (89, .slice (some ⟨b275, o276, none⟩) (List.length aAccept) c2), (90, .int .i64 q173), (91, .pointer (some ⟨b275, o276 + (Int.toNat q173) * 1, none⟩)), (92, .bool (List.getD aAccept (Int.toNat q173) false)), (93, .bool (!((((List.getD r54.1 (Int.toNat q173) 0) : Int) == 0) == (List.getD aAccept (Int.toNat q173) false)))), (105, .slice A292 (List.length r283.1) c293), (106, .int .i64 (((List.length r283.1) : Nat) : Int)), (107, .bool (((((List.length r283.1) : Nat) : Int) : Int) == 0)), (115, .slice (some ⟨b93, 0, none⟩) (List.length r54.1) c64), (116, .slice A292 (List.length r283.1) c293), (117, .slice (some ⟨b93, 0, none⟩) (List.length r54.1) c64), (118, .int .i64 q173), (119, .pointer (some ⟨b93, 0 + (Int.toNat q173) * 1, none⟩)), (120, .int .i64 (List.getD r54.1 (Int.toNat q173) 0)), (121, .bool r300), (122, .bool (!r300)), (125, .slice (some ⟨b93, 0, none⟩) (List.length r54.1) c64), (126, .int .i64 q173), (127, .pointer (some ⟨b93, 0 + (Int.toNat q173) * 1, none⟩)), (128, .int .i64 (List.getD r54.1 (Int.toNat q173) 0)), (129, .bool (decide ((List.getD r54.1 (Int.toNat q173) 0) < 0))), (130, .bool true), (131, .slice (some ⟨b93, 0, none⟩) (List.length r54.1) c64), (132, .slice A292 (List.length r283.1) c293), (133, .bool r312), (134, .bool (!r312)), (135, .bool (!r312))] [IntKind.i64.wrap (q173 + 1) = q173 + 1] E (by kernel_rfl) (wrap_in g323) ?_
                    clear E; intro a E
                    refine wpList_nil ?_
                    exact th_n ⟨m255, Nat.lt_succ_self _, q173 + 1, E.pick _ ⟨rfl, rfl, rfl, rfl, rfl, trivial⟩, H.sel [0, 1, 2, 3, 4, 5] rfl, hP⟩
                  ·
                   replace E := E_; clear E_
                   have h324 : ¬ ((List.getD r54.1 (Int.toNat q173) 0) < 0) := of_decide_eq_false hb_
                   clear hb_; replace hP := ite_f h324 hP
                   refine vr tbok 6 [] [(2, .pointer (some ⟨g13, 0, none⟩)), (3, .pointer (some ⟨g18, 0, none⟩)), (5, .bool r23), (6, .slice (some ⟨b93, 0, none⟩) (List.length r54.1) c64), (10, .int .i64 q173), (74, .slice (some ⟨b93, 0, none⟩) (List.length r54.1) c64), (75, .int .i64 q173), (76, .pointer (some ⟨b93, 0 + (Int.toNat q173) * 1, none⟩)), (77, .int .i64 (List.getD r54.1 (Int.toNat q173) 0)), (78, .slice (some ⟨b93, 0, none⟩) (List.length r54.1) c64), (79, .int .i64 (((List.length r54.1) : Nat) : Int)), (80, .bool (decide ((((List.length r54.1) : Nat) : Int) ≤ (List.getD r54.1 (Int.toNat q173) 0)))), (83, .slice (some ⟨b93, 0, none⟩) (List.length r54.1) c64), (84, .int .i64 q173), (85, .pointer (some ⟨b93, 0 + (Int.toNat q173) * 1, none⟩)), (86, .int .i64 (List.getD r54.1 (Int.toNat q173) 0)), (87, .bool (((List.getD r54.1 (Int.toNat q173) 0) : Int) == 0)), (88, .pointer (some ⟨g13, 1, none⟩)), (89, .slice (some ⟨b275, o276, none⟩) (List.length aAccept) c2), (90, .int .i64 q173), (91, .pointer (some ⟨b275, o276 + (Int.toNat q173) * 1, none⟩)), (92, .bool (List.getD aAccept (Int.toNat q173) false)), (93, .bool (!((((List.getD r54.1 (Int.toNat q173) 0) : Int) == 0) == (List.getD aAccept (Int.toNat q173) false)))), (105, .slice A292 (List.length r283.1) c293), (106, .int .i64 (((List.length r283.1) : Nat) : Int)), (107, .bool (((((List.length r283.1) : Nat) : Int) : Int) == 0)), (115, .slice (some ⟨b93, 0, none⟩) (List.length r54.1) c64), (116, .slice A292 (List.length r283.1) c293), (117, .slice (some ⟨b93, 0, none⟩) (List.length r54.1) c64), (118, .int .i64 q173), (119, .pointer (some ⟨b93, 0 + (Int.toNat q173) * 1, none⟩)), (120, .int .i64 (List.getD r54.1 (Int.toNat q173) 0)), (121, .bool r300), (122, .bool (!r300)), (125, .slice (some ⟨b93, 0, none⟩) (List.length r54.1) c64), (126, .int .i64 q173), (127, .pointer (some ⟨b93, 0 + (Int.toNat q173) * 1, none⟩)), (128, .int .i64 (List.getD r54.1 (Int.toNat q173) 0)), (129, .bool (decide ((List.getD r54.1 (Int.toNat q173) 0) < 0))), (130, .bool false), (131, .tuple #[]), (132, .tuple #[]), (133, .tuple #[]), (134, .tuple #[]), (135, .bool false), (136, .bool false)] [] E (by kernel_rfl) trivial ?_
                   clear E; intro a E
                   refine wpList_nil ?_
                   refine th_n ?_
                   refine c_false E rfl ?_
                   refine wp_skip ?_
                   refine bl_n ?_
                   refine th_n ?_
                   refine wp_region_lit ?_
                   obtain ⟨g325, hP⟩ := ask_inv hP
                   refine vr tbok 3 [.int .i64 (q173 + 1)] [(2, .pointer (some ⟨g13, 0, none⟩)), (3, .pointer (some ⟨g18, 0, none⟩)), (5, .bool r23), (6, .slice (some ⟨b93, 0, none⟩) (List.length r54.1) c64), (10, .int .i64 (q173 + 1)), (74, .slice (some ⟨b93, 0, none⟩) (List.length r54.1) c64), (75, .int .i64 q173), (76, .pointer (some ⟨b93, 0 + (Int.toNat q173) * 1, none⟩)), (77, .int .i64 (List.getD r54.1 (Int.toNat q173) 0)), (78, .slice (some ⟨b93, 0, none⟩) (List.length r54.1) c64), (79, .int .i64 (((List.length r54.1) : Nat) : Int)), (80, .bool (decide ((((List.length r54.1) : Nat) : Int) ≤ (List.getD r54.1 (Int.toNat q173) 0)))), (83, .slice (some ⟨b93, 0, none⟩) (List.length r54.1) c64), (84, .int .i64 q173), (85, .pointer (some ⟨b93, 0 + (Int.toNat q173) * 1, none⟩)), (86, .int .i64 (List.getD r54.1 (Int.toNat q173) 0)), (87, .bool (((List.getD r54.1 (Int.toNat q173) 0) : Int) == 0)), (88, .pointer (some ⟨g13, 1, none⟩)), (89, .slice (some ⟨b275, o276, none⟩) (List.length aAccept) c2), (90, .int .i64 q173), (91, .pointer (some ⟨b275, o276 + (Int.toNat q173) * 1, none⟩)), (92, .bool (List.getD aAccept (Int.toNat q173) false)), (93, .bool (!((((List.getD r54.1 (Int.toNat q173) 0) : Int) == 0) == (List.getD aAccept (Int.toNat q173) false)))), (105, .slice A292 (List.length r283.1) c293), (106, .int .i64 (((List.length r283.1) : Nat) : Int)), (107, .bool (((((List.length r283.1) : Nat) : Int) : Int) == 0)), (115, .slice (some ⟨b93, 0, none⟩) (List.length r54.1) c64), (116, .slice A292 (List.length r283.1) c293), (117, .slice (some ⟨b93, 0, none⟩) (List.length r54.1) c64), (118, .int .i64 q173), (119, .pointer (some ⟨b93, 0 + (Int.toNat q173) * 1, none⟩)), (120, .int .i64 (List.getD r54.1 (Int.toNat q173) 0)), (121, .bool r300), (122, .bool (!r300)), (125, .slice (some ⟨b93, 0, none⟩) (List.length r54.1) c64), (126, .int .i64 q173), (127, .pointer (some ⟨b93, 0 + (Int.toNat q173) * 1, none⟩)), (128, .int .i64 (List.getD r54.1 (Int.toNat q173) 0)), (129, .bool (decide ((List.getD r54.1 (Int.toNat q173) 0) < 0))), (130, .bool false), (131, .tuple #[]), (132, .tuple #[]), (133, .tuple #[]), (134, .tuple #[]), (135, .bool false)] [IntKind.i64.wrap (q173 + 1) = q173 + 1] E (by kernel_rfl) (wrap_in g325) ?_
                   clear E; intro a E
                   refine wpList_nil ?_
                   exact th_n ⟨m255, Nat.lt_succ_self _, q173 + 1, E.pick _ ⟨rfl, rfl, rfl, rfl, rfl, trivial⟩, H.sel [0, 1, 2, 3, 4, 5] rfl, hP⟩
                ·
                 replace E := E_; clear E_
                 have h326 : ¬ (0 < (List.getD r54.1 (Int.toNat q173) 0)) := of_decide_eq_false hb_
                 clear hb_; replace hP := ite_f h326 hP
                 refine vr tbok 16 [.int .i64 (List.getD r54.1 (Int.toNat q173) 0)] [(2, .pointer (some ⟨g13, 0, none⟩)), (3, .pointer (some ⟨g18, 0, none⟩)), (5, .bool r23), (6, .slice (some ⟨b93, 0, none⟩) (List.length r54.1) c64), (10, .int .i64 q173), (11, .slice A292 (List.length r283.1) c293), (74, .slice (some ⟨b93, 0, none⟩) (List.length r54.1) c64), (75, .int .i64 q173), (76, .pointer (some ⟨b93, 0 + (Int.toNat q173) * 1, none⟩)), (77, .int .i64 (List.getD r54.1 (Int.toNat q173) 0)), (78, .slice (some ⟨b93, 0, none⟩) (List.length r54.1) c64), (79, .int .i64 (((List.length r54.1) : Nat) : Int)), (80, .bool (decide ((((List.length r54.1) : Nat) : Int) ≤ (List.getD r54.1 (Int.toNat q173) 0)))), (83, .slice (some ⟨b93, 0, none⟩) (List.length r54.1) c64), (84, .int .i64 q173), (85, .pointer (some ⟨b93, 0 + (Int.toNat q173) * 1, none⟩)), (86, .int .i64 (List.getD r54.1 (Int.toNat q173) 0)), (87, .bool (((List.getD r54.1 (Int.toNat q173) 0) : Int) == 0)), (88, .pointer (some ⟨g13, 1, none⟩)), (89, .slice (some ⟨b275, o276, none⟩) (List.length aAccept) c2), (90, .int .i64 q173), (91, .pointer (some ⟨b275, o276 + (Int.toNat q173) * 1, none⟩)), (92, .bool (List.getD aAccept (Int.toNat q173) false)), (93, .bool (!((((List.getD r54.1 (Int.toNat q173) 0) : Int) == 0) == (List.getD aAccept (Int.toNat q173) false)))), (105, .slice A292 (List.length r283.1) c293), (106, .int .i64 (((List.length r283.1) : Nat) : Int)), (107, .bool (((((List.length r283.1) : Nat) : Int) : Int) == 0)), (115, .tuple #[]), (116, .tuple #[]), (117, .tuple #[]), (118, .tuple #[]), (119, .tuple #[]), (120, .tuple #[]), (121, .tuple #[]), (122, .tuple #[]), (124, .bool false), (125, .slice (some ⟨b93, 0, none⟩) (List.length r54.1) c64), (126, .int .i64 q173), (127, .pointer (some ⟨b93, 0 + (Int.toNat q173) * 1, none⟩)), (128, .int .i64 (List.getD r54.1 (Int.toNat q173) 0)), (129, .bool (decide ((List.getD r54.1 (Int.toNat q173) 0) < 0))), (130, .bool (decide ((List.getD r54.1 (Int.toNat q173) 0) < 0)))] [0 ≤ q173 ∧ q173 < (((List.length r54.1) : Nat) : Int), World.cell? w289 ⟨b93, 0 + (Int.toNat q173) * 1, none⟩ = some (.int .i64 (List.getD r54.1 (Int.toNat q173) 0))] E (by kernel_rfl) ⟨g263, Rds.at1 (H.rd 5 rds_row) 0 g263⟩ ?_
                 clear E; intro a E
                 refine E.cases (t := 130) rfl (fun hb_ E_ => ?_) (fun hb_ E_ => ?_)
                 ·
                  replace E := E_; clear E_
                  have h327 : (List.getD r54.1 (Int.toNat q173) 0) < 0 := of_decide_eq_true hb_
                  clear hb_; replace hP := ite_t h327 hP
                  refine vr tbok 2 [] [(2, .pointer (some ⟨g13, 0, none⟩)), (3, .pointer (some ⟨g18, 0, none⟩)), (5, .bool r23), (6, .slice (some ⟨b93, 0, none⟩) (List.length r54.1) c64), (10, .int .i64 q173), (74, .slice (some ⟨b93, 0, none⟩) (List.length r54.1) c64), (75, .int .i64 q173), (76, .pointer (some ⟨b93, 0 + (Int.toNat q173) * 1, none⟩)), (77, .int .i64 (List.getD r54.1 (Int.toNat q173) 0)), (78, .slice (some ⟨b93, 0, none⟩) (List.length r54.1) c64), (79, .int .i64 (((List.length r54.1) : Nat) : Int)), (80, .bool (decide ((((List.length r54.1) : Nat) : Int) ≤ (List.getD r54.1 (Int.toNat q173) 0)))), (83, .slice (some ⟨b93, 0, none⟩) (List.length r54.1) c64), (84, .int .i64 q173), (85, .pointer (some ⟨b93, 0 + (Int.toNat q173) * 1, none⟩)), (86, .int .i64 (List.getD r54.1 (Int.toNat q173) 0)), (87, .bool (((List.getD r54.1 (Int.toNat q173) 0) : Int) == 0)), (88, .pointer (some ⟨g13, 1, none⟩)), (89, .slice (some ⟨b275, o276, none⟩) (List.length aAccept) c2), (90, .int .i64 q173), (91, .pointer (some ⟨b275, o276 + (Int.toNat q173) * 1, none⟩)), (92, .bool (List.getD aAccept (Int.toNat q173) false)), (93, .bool (!((((List.getD r54.1 (Int.toNat q173) 0) : Int) == 0) == (List.getD aAccept (Int.toNat q173) false)))), (105, .slice A292 (List.length r283.1) c293), (106, .int .i64 (((List.length r283.1) : Nat) : Int)), (107, .bool (((((List.length r283.1) : Nat) : Int) : Int) == 0)), (115, .tuple #[]), (116, .tuple #[]), (117, .tuple #[]), (118, .tuple #[]), (119, .tuple #[]), (120, .tuple #[]), (121, .tuple #[]), (122, .tuple #[]), (124, .bool false), (125, .slice (some ⟨b93, 0, none⟩) (List.length r54.1) c64), (126, .int .i64 q173), (127, .pointer (some ⟨b93, 0 + (Int.toNat q173) * 1, none⟩)), (128, .int .i64 (List.getD r54.1 (Int.toNat q173) 0)), (129, .bool (decide ((List.getD r54.1 (Int.toNat q173) 0) < 0))), (130, .bool true), (131, .slice (some ⟨b93, 0, none⟩) (List.length r54.1) c64), (132, .slice A292 (List.length r283.1) c293)] [] E (by kernel_rfl) trivial ?_
                  clear E; intro a E
                  obtain ⟨r328, h329, hP⟩ := bind_inv hP
                  obtain ⟨Fa330, Hc331, hb332⟩ := H.call [] [(5, false), (6, false)] rfl rfl trivial
                  refine e_call E rfl rfl Try.func16 rfl rfl rfl (law23_stays_calls (some ⟨b93, 0, none⟩) c64 A292 c293 r54.1 r283.1 (H.rcap 5 rfl) (H.rcap 6 rfl) Hc331 h329) ?_
                  rintro v333 w334 a ⟨rfl, HR335⟩ E_
                  replace E := E_ _ rfl; clear E_
                  obtain ⟨H_, hc336⟩ := hb332 _ _ HR335 rfl
                  replace H := H_; clear H_; try dsimp only [setn, addE, goneL] at H
                  refine vr tbok 3 [] [(2, .pointer (some ⟨g13, 0, none⟩)), (3, .pointer (some ⟨g18, 0, none⟩)), (5, .bool r23), (6, .slice (some ⟨b93, 0, none⟩) (List.length r54.1) c64), (10, .int .i64 q173), (74, .slice (some ⟨b93, 0, none⟩) (List.length r54.1) c64), (75, .int .i64 q173), (76, .pointer (some ⟨b93, 0 + (Int.toNat q173) * 1, none⟩)), (77, .int .i64 (List.getD r54.1 (Int.toNat q173) 0)), (78, .slice (some ⟨b93, 0, none⟩) (List.length r54.1) c64), (79, .int .i64 (((List.length r54.1) : Nat) : Int)), (80, .bool (decide ((((List.length r54.1) : Nat) : Int) ≤ (List.getD r54.1 (Int.toNat q173) 0)))), (83, .slice (some ⟨b93, 0, none⟩) (List.length r54.1) c64), (84, .int .i64 q173), (85, .pointer (some ⟨b93, 0 + (Int.toNat q173) * 1, none⟩)), (86, .int .i64 (List.getD r54.1 (Int.toNat q173) 0)), (87, .bool (((List.getD r54.1 (Int.toNat q173) 0) : Int) == 0)), (88, .pointer (some ⟨g13, 1, none⟩)), (89, .slice (some ⟨b275, o276, none⟩) (List.length aAccept) c2), (90, .int .i64 q173), (91, .pointer (some ⟨b275, o276 + (Int.toNat q173) * 1, none⟩)), (92, .bool (List.getD aAccept (Int.toNat q173) false)), (93, .bool (!((((List.getD r54.1 (Int.toNat q173) 0) : Int) == 0) == (List.getD aAccept (Int.toNat q173) false)))), (105, .slice A292 (List.length r283.1) c293), (106, .int .i64 (((List.length r283.1) : Nat) : Int)), (107, .bool (((((List.length r283.1) : Nat) : Int) : Int) == 0)), (115, .tuple #[]), (116, .tuple #[]), (117, .tuple #[]), (118, .tuple #[]), (119, .tuple #[]), (120, .tuple #[]), (121, .tuple #[]), (122, .tuple #[]), (125, .slice (some ⟨b93, 0, none⟩) (List.length r54.1) c64), (126, .int .i64 q173), (127, .pointer (some ⟨b93, 0 + (Int.toNat q173) * 1, none⟩)), (128, .int .i64 (List.getD r54.1 (Int.toNat q173) 0)), (129, .bool (decide ((List.getD r54.1 (Int.toNat q173) 0) < 0))), (130, .bool true), (131, .slice (some ⟨b93, 0, none⟩) (List.length r54.1) c64), (132, .slice A292 (List.length r283.1) c293), (133, .bool r328), (134, .bool (!r328)), (135, .bool (!r328)), (136, .bool (!r328))] [] E (by kernel_rfl) trivial ?_
                  clear E; intro a E
                  refine wpList_nil ?_
                  refine th_n ?_
                  refine E.cases (t := 136) rfl (fun hb_ E_ => ?_) (fun hb_ E_ => ?_)
                  ·
                   replace E := E_; clear E_
                   have h337 : ¬ (r328 = true) := (ne_true_of_eq_false (not_t hb_))
                   clear hb_; replace hP := ite_f h337 hP
                   refine c_true E rfl ?_
                   refine wp_seq ?_
                   refine wp_region_lit ?_
                   refine vr tbok 1 [] [(4, .bool false)] [] E (by kernel_rfl) trivial ?_
                   clear E; intro a E
                   refine wpList_nil ?_
                   refine th_n ?_
                   refine wp_ret ?_
                   refine bl_ret ?_
                   refine th_ret ?_
                   refine th_ret ?_
                   refine .inr ⟨rfl, ?_⟩
                   refine bl_ret ?_
                   refine th_ret ?_
                   have hx_ := Option.some.inj hP; subst hx_
                   have hP : some (false) = some r := hK258
                   obtain rfl := Option.some.inj hP
                   refine ret1 E rfl rfl ?_
                   exact ⟨_, rfl, rfl, H.sel [] rfl⟩
                  ·
                   replace E := E_; clear E_
                   have h338 : r328 = true := (not_f hb_)
                   clear hb_; replace hP := ite_t h338 hP
                   refine c_false E rfl ?_
                   refine wp_skip ?_
                   refine bl_n ?_
                   refine th_n ?_
                   refine wp_region_lit ?_
                   obtain ⟨g339, hP⟩ := ask_inv hP
                   refine vr tbok 3 [.int .i64 (q173 + 1)] [(2, .pointer (some ⟨g13, 0, none⟩)), (3, .pointer (some ⟨g18, 0, none⟩)), (5, .bool r23), (6, .slice (some ⟨b93, 0, none⟩) (List.length r54.1) c64), (10, .int .i64 (q173 + 1)), (74, .slice (some ⟨b93, 0, none⟩) (List.length r54.1) c64), (75, .int .i64 q173), (76, .pointer (some ⟨b93, 0 + (Int.toNat q173) * 1, none⟩)), (77, .int .i64 (List.getD r54.1 (Int.toNat q173) 0)), (78, .slice (some ⟨b93, 0, none⟩) (List.length r54.1) c64), (79, .int .i64 (((List.length r54.1) : Nat) : Int)), (80, .bool (decide ((((List.length r54.1) : Nat) : Int) ≤ (List.getD r54.1 (Int.toNat q173) 0)))), (83, .slice (some ⟨b93, 0, none⟩) (List.length r54.1) c64), (84, .int .i64 q173), (85, .pointer (some ⟨b93, 0 + (Int.toNat q173) * 1, none⟩)), (86, .int .i64 (List.getD r54.1 (Int.toNat q173) 0)), (87, .bool (((List.getD r54.1 (Int.toNat q173) 0) : Int) == 0)), (88, .pointer (some ⟨g13, 1, none⟩)), (89, .slice (some ⟨b275, o276, none⟩) (List.length aAccept) c2), (90, .int .i64 q173), (91, .pointer (some ⟨b275, o276 + (Int.toNat q173) * 1, none⟩)), (92, .bool (List.getD aAccept (Int.toNat q173) false)), (93, .bool (!((((List.getD r54.1 (Int.toNat q173) 0) : Int) == 0) == (List.getD aAccept (Int.toNat q173) false)))), (105, .slice A292 (List.length r283.1) c293), (106, .int .i64 (((List.length r283.1) : Nat) : Int)), (107, .bool (((((List.length r283.1) : Nat) : Int) : Int) == 0)), (115, .tuple #[]), (116, .tuple #[]), (117, .tuple #[]), (118, .tuple #[]), (119, .tuple #[]), (120, .tuple #[]), (121, .tuple #[]), (122, .tuple #[]), (125, .slice (some ⟨b93, 0, none⟩) (List.length r54.1) c64), (126, .int .i64 q173), (127, .pointer (some ⟨b93, 0 + (Int.toNat q173) * 1, none⟩)), (128, .int .i64 (List.getD r54.1 (Int.toNat q173) 0)), (129, .bool (decide ((List.getD r54.1 (Int.toNat q173) 0) < 0))), (130, .bool true), (131, .slice (some ⟨b93, 0, none⟩) (List.length r54.1) c64), (132, .slice A292 (List.length r283.1) c293), (133, .bool r328), (134, .bool (!r328)), (135, .bool (!r328))] [IntKind.i64.wrap (q173 + 1) = q173 + 1] E (by kernel_rfl) (wrap_in g339) ?_
                   clear E; intro a E
                   refine wpList_nil ?_
                   exact th_n ⟨m255, Nat.lt_succ_self _, q173 + 1, E.pick _ ⟨rfl, rfl, rfl, rfl, rfl, trivial⟩, H.sel [0, 1, 2, 3, 4, 5] rfl, hP⟩
                 ·
                  replace E := E_; clear E_
                  have h340 : ¬ ((List.getD r54.1 (Int.toNat q173) 0) < 0) := of_decide_eq_false hb_
                  clear hb_; replace hP := ite_f h340 hP
                  refine vr tbok 6 [] [(2, .pointer (some ⟨g13, 0, none⟩)), (3, .pointer (some ⟨g18, 0, none⟩)), (5, .bool r23), (6, .slice (some ⟨b93, 0, none⟩) (List.length r54.1) c64), (10, .int .i64 q173), (74, .slice (some ⟨b93, 0, none⟩) (List.length r54.1) c64), (75, .int .i64 q173), (76, .pointer (some ⟨b93, 0 + (Int.toNat q173) * 1, none⟩)), (77, .int .i64 (List.getD r54.1 (Int.toNat q173) 0)), (78, .slice (some ⟨b93, 0, none⟩) (List.length r54.1) c64), (79, .int .i64 (((List.length r54.1) : Nat) : Int)), (80, .bool (decide ((((List.length r54.1) : Nat) : Int) ≤ (List.getD r54.1 (Int.toNat q173) 0)))), (83, .slice (some ⟨b93, 0, none⟩) (List.length r54.1) c64), (84, .int .i64 q173), (85, .pointer (some ⟨b93, 0 + (Int.toNat q173) * 1, none⟩)), (86, .int .i64 (List.getD r54.1 (Int.toNat q173) 0)), (87, .bool (((List.getD r54.1 (Int.toNat q173) 0) : Int) == 0)), (88, .pointer (some ⟨g13, 1, none⟩)), (89, .slice (some ⟨b275, o276, none⟩) (List.length aAccept) c2), (90, .int .i64 q173), (91, .pointer (some ⟨b275, o276 + (Int.toNat q173) * 1, none⟩)), (92, .bool (List.getD aAccept (Int.toNat q173) false)), (93, .bool (!((((List.getD r54.1 (Int.toNat q173) 0) : Int) == 0) == (List.getD aAccept (Int.toNat q173) false)))), (105, .slice A292 (List.length r283.1) c293), (106, .int .i64 (((List.length r283.1) : Nat) : Int)), (107, .bool (((((List.length r283.1) : Nat) : Int) : Int) == 0)), (115, .tuple #[]), (116, .tuple #[]), (117, .tuple #[]), (118, .tuple #[]), (119, .tuple #[]), (120, .tuple #[]), (121, .tuple #[]), (122, .tuple #[]), (125, .slice (some ⟨b93, 0, none⟩) (List.length r54.1) c64), (126, .int .i64 q173), (127, .pointer (some ⟨b93, 0 + (Int.toNat q173) * 1, none⟩)), (128, .int .i64 (List.getD r54.1 (Int.toNat q173) 0)), (129, .bool (decide ((List.getD r54.1 (Int.toNat q173) 0) < 0))), (130, .bool false), (131, .tuple #[]), (132, .tuple #[]), (133, .tuple #[]), (134, .tuple #[]), (135, .bool false), (136, .bool false)] [] E (by kernel_rfl) trivial ?_
                  clear E; intro a E
                  refine wpList_nil ?_
                  refine th_n ?_
                  refine c_false E rfl ?_
                  refine wp_skip ?_
                  refine bl_n ?_
                  refine th_n ?_
                  refine wp_region_lit ?_
                  obtain ⟨g341, hP⟩ := ask_inv hP
                  refine vr tbok 3 [.int .i64 (q173 + 1)] [(2, .pointer (some ⟨g13, 0, none⟩)), (3, .pointer (some ⟨g18, 0, none⟩)), (5, .bool r23), (6, .slice (some ⟨b93, 0, none⟩) (List.length r54.1) c64), (10, .int .i64 (q173 + 1)), (74, .slice (some ⟨b93, 0, none⟩) (List.length r54.1) c64), (75, .int .i64 q173), (76, .pointer (some ⟨b93, 0 + (Int.toNat q173) * 1, none⟩)), (77, .int .i64 (List.getD r54.1 (Int.toNat q173) 0)), (78, .slice (some ⟨b93, 0, none⟩) (List.length r54.1) c64), (79, .int .i64 (((List.length r54.1) : Nat) : Int)), (80, .bool (decide ((((List.length r54.1) : Nat) : Int) ≤ (List.getD r54.1 (Int.toNat q173) 0)))), (83, .slice (some ⟨b93, 0, none⟩) (List.length r54.1) c64), (84, .int .i64 q173), (85, .pointer (some ⟨b93, 0 + (Int.toNat q173) * 1, none⟩)), (86, .int .i64 (List.getD r54.1 (Int.toNat q173) 0)), (87, .bool (((List.getD r54.1 (Int.toNat q173) 0) : Int) == 0)), (88, .pointer (some ⟨g13, 1, none⟩)), (89, .slice (some ⟨b275, o276, none⟩) (List.length aAccept) c2), (90, .int .i64 q173), (91, .pointer (some ⟨b275, o276 + (Int.toNat q173) * 1, none⟩)), (92, .bool (List.getD aAccept (Int.toNat q173) false)), (93, .bool (!((((List.getD r54.1 (Int.toNat q173) 0) : Int) == 0) == (List.getD aAccept (Int.toNat q173) false)))), (105, .slice A292 (List.length r283.1) c293), (106, .int .i64 (((List.length r283.1) : Nat) : Int)), (107, .bool (((((List.length r283.1) : Nat) : Int) : Int) == 0)), (115, .tuple #[]), (116, .tuple #[]), (117, .tuple #[]), (118, .tuple #[]), (119, .tuple #[]), (120, .tuple #[]), (121, .tuple #[]), (122, .tuple #[]), (125, .slice (some ⟨b93, 0, none⟩) (List.length r54.1) c64), (126, .int .i64 q173), (127, .pointer (some ⟨b93, 0 + (Int.toNat q173) * 1, none⟩)), (128, .int .i64 (List.getD r54.1 (Int.toNat q173) 0)), (129, .bool (decide ((List.getD r54.1 (Int.toNat q173) 0) < 0))), (130, .bool false), (131, .tuple #[]), (132, .tuple #[]), (133, .tuple #[]), (134, .tuple #[]), (135, .bool false)] [IntKind.i64.wrap (q173 + 1) = q173 + 1] E (by kernel_rfl) (wrap_in g341) ?_
                  clear E; intro a E
                  refine wpList_nil ?_
                  exact th_n ⟨m255, Nat.lt_succ_self _, q173 + 1, E.pick _ ⟨rfl, rfl, rfl, rfl, rfl, trivial⟩, H.sel [0, 1, 2, 3, 4, 5] rfl, hP⟩
          ·
           replace E := E_; clear E_
           have h342 : ¬ (q173 < (((List.length r54.1) : Nat) : Int)) := of_decide_eq_false hb_
           clear hb_; replace hP := ite_f h342 hP
           refine c_false E rfl ?_
           refine wp_exit ?_
           refine th_exit ?_
           have hx_ := Option.some.inj hP
           refine th_exit (.inl ⟨0, rfl, ?_⟩)
           exact ⟨rfl, (), E.pick _ ⟨rfl, trivial⟩, H.sel [] rfl, hx_.symm⟩
        ·
         clear E H hL257; intro i_ a w259 hM_
         obtain ⟨rfl, x261, E, H, hx_⟩ := hM_
         subst hx_; have hP := elim_l hK258
         clear hK258
         refine bl_hit ?_
         refine th_n ?_
         refine wp_seq ?_
         refine wp_region_lit ?_
         refine vr tbok 2 [] [(4, .bool r23)] [] E (by kernel_rfl) trivial ?_
         clear E; intro a E
         refine wpList_nil ?_
         refine th_n ?_
         refine wp_ret ?_
         obtain rfl := Option.some.inj hP
         refine ret1 E rfl rfl ?_
         exact ⟨_, rfl, rfl, H.sel [] rfl⟩

end Go.V
