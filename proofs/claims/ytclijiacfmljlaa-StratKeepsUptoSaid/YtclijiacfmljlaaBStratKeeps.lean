/- Plain functions, and the calls that give them. -/
import Derived.Test.YtclijiacfmljlaaA8
set_option linter.all false
set_option linter.unusedVariables false
set_option linter.unnecessarySimpa false
set_option linter.unusedSimpArgs false
namespace Go.V
open Go Go.Proofs
/-! rejoinder/rejoinderlaw24.StratKeeps -/
def law24_StratKeeps_j0 (N : Nat) (s : Int × Int) (xWins : Bool) : Option Int :=
    if xWins = true then
      some s.1
    else
      some s.2
def law24_StratKeeps_j1 (N : Nat) (r44 : Bool) (r130 : (List Int) × Int) : Option Bool :=
    if r44 = true then
      if (r130.2 : Int) = 340 then
        some (((((List.length r130.1) : Nat) : Int) : Int) == 0)
      else
        some false
    else
      some false
def law24_StratKeeps_j2 (N : Nat) (aAccept : List Bool) (r44 : Bool) (r130 : (List Int) × Int) : Option Bool :=
    if r44 = true then
      ask (idx (List.getD r130.1 (Int.toNat ((((List.length r130.1) : Nat) : Int) - 1)) 0) (List.length aAccept)) <|
      some (!(List.getD aAccept (Int.toNat (List.getD r130.1 (Int.toNat ((((List.length r130.1) : Nat) : Int) - 1)) 0)) false))
    else
      some false
def law24_StratKeeps (N : Nat) (aProps : Int) (aAccept : List Bool) (aGuard : List Int) (aNodes : List Nd) (s : Int × Int) (xWins : Bool) (xRanks : List Int) (xReply : List (List Int)) (xChoice : List Int) (ll : List Int) : Option Bool :=
  Option.bind (law24_awake N) fun r44 =>
  Option.bind (law19_Large N aProps aAccept aGuard aNodes) fun r53 =>
  if r53 = true then
    some r44
  else
    Option.bind (law24_Large N xWins xRanks xReply xChoice) fun r64 =>
    if r64 = true then
      some r44
    else
      Option.bind (board_Check N aProps aAccept aGuard aNodes (s.1, s.2)) fun r75 =>
      if (r75 : Int) = 0 then
        Option.bind (strat_Check N aProps aAccept aGuard aNodes (s.1, s.2) xWins xRanks xReply xChoice) fun r86 =>
        Option.bind (law19_Real N aProps aAccept aGuard aNodes) fun r95 =>
        if r95 = true then
          if (r86.2 : Int) = 0 then
            Option.bind (law24_StratKeeps_j0 N s xWins) fun x111 =>
            Option.bind (law24_choices N x111 ll) fun r118 =>
            Option.bind (strat_Play N aProps aAccept aGuard aNodes (s.1, s.2) xWins xRanks xReply xChoice r118) fun r130 =>
            if r86.1 = true then
              if (r130.2 : Int) = 0 then
                if ((((List.length r130.1) : Nat) : Int) : Int) = 0 then
                  some false
                else
                  ask (in64 ((((List.length r130.1) : Nat) : Int) - 1)) <|
                  ask (idx ((((List.length r130.1) : Nat) : Int) - 1) (List.length r130.1)) <|
                  if (List.getD r130.1 (Int.toNat ((((List.length r130.1) : Nat) : Int) - 1)) 0) < 0 then
                    some false
                  else
                    if (((List.length aAccept) : Nat) : Int) ≤ (List.getD r130.1 (Int.toNat ((((List.length r130.1) : Nat) : Int) - 1)) 0) then
                      some false
                    else
                      if ((((List.length xRanks) : Nat) : Int) : Int) = (((List.length aAccept) : Nat) : Int) then
                        Option.bind (strat_Of N aProps aAccept aGuard aNodes (s.1, s.2)) fun r172 =>
                        if (r172.2 : Int) = 0 then
                          if r172.1.1 = xWins then
                            if xWins = true then
                              if r44 = true then
                                ask (idx (0 : Int) (List.length xRanks)) <|
                                if (((List.length r118) : Nat) : Int) < (List.getD xRanks (Int.toNat (0 : Int)) 0) then
                                  some true
                                else
                                  ask (idx (List.getD r130.1 (Int.toNat ((((List.length r130.1) : Nat) : Int) - 1)) 0) (List.length aAccept)) <|
                                  some (List.getD aAccept (Int.toNat (List.getD r130.1 (Int.toNat ((((List.length r130.1) : Nat) : Int) - 1)) 0)) false)
                              else
                                some false
                            else
                              Option.bind (law24_StratKeeps_j2 N aAccept r44 r130) fun x208 =>
                              some x208
                          else
                            some false
                        else
                          some false
                      else
                        some false
              else
                some false
            else
              Option.bind (law24_StratKeeps_j1 N r44 r130) fun x148 =>
              some x148
          else
            some false
        else
          some false
      else
        some r44
set_option maxRecDepth 100000 in
set_option maxHeartbeats 4000000 in
theorem law24_StratKeeps_calls {N : Nat} {S Fa : Nat → Prop} {w0 : World} {r : Bool} (A1 : Option Addr) (c2 : Nat) (A5 : Option Addr) (c6 : Nat) (A9 : Option Addr) (c10 : Nat) (A13 : Option Addr) (c14 : Nat) (A17 : Option Addr) (c18 : Nat) (A21 : Option Addr) (c22 : Nat) (A25 : Option Addr) (c26 : Nat) (aProps : Int) (aAccept : List Bool) (aGuard : List Int) (aNodes : List Nd) (s : Int × Int) (xWins : Bool) (xRanks : List Int) (xReply : List (List Int)) (xChoice : List Int) (ll : List Int) (hk3 : List.length aAccept ≤ c2) (hk7 : List.length aGuard ≤ c6) (hk11 : List.length aNodes ≤ c10) (hk15 : List.length xRanks ≤ c14) (hk19 : List.length xReply ≤ c18) (hk23 : List.length xChoice ≤ c22) (hk27 : List.length ll ≤ c26) (H : Hp S Fa w0 w0 [.ro false cBool A1 aAccept, .ro false (cInt .i64) A5 aGuard, .ro false cNode A9 aNodes, .ro false (cInt .i64) A13 xRanks, .ro false (cSl (cInt .u8)) A17 xReply, .ro false (cInt .u8) A21 xChoice, .ro false (cInt .i64) A25 ll]) (hP : law24_StratKeeps N aProps aAccept aGuard aNodes s xWins xRanks xReply xChoice ll = some r) :
    Calls Try.prog 5 #[.agg #[.int .i64 aProps, .slice A1 (List.length aAccept) c2, .slice A5 (List.length aGuard) c6, .slice A9 (List.length aNodes) c10], .agg #[.int .u8 s.1, .int .u8 s.2], .agg #[.bool xWins, .slice A13 (List.length xRanks) c14, .slice A17 (List.length xReply) c18, .slice A21 (List.length xChoice) c22], .slice A25 (List.length ll) c26] w0 fun e w' => ∃ v, e = .returned v ∧ v = .bool r ∧ Hp S Fa w0 w' [] := by
 refine enterV (n := 151) Try.func5 rfl rfl rfl ?_
 intro a E
 replace E := E.pick [(0, .agg #[.int .i64 aProps, .slice A1 (List.length aAccept) c2, .slice A5 (List.length aGuard) c6, .slice A9 (List.length aNodes) c10]), (1, .agg #[.int .u8 s.1, .int .u8 s.2]), (2, .agg #[.bool xWins, .slice A13 (List.length xRanks) c14, .slice A17 (List.length xReply) c18, .slice A21 (List.length xChoice) c22]), (3, .slice A25 (List.length ll) c26)] ⟨rfl, rfl, rfl, rfl, trivial⟩
 rw [law24_StratKeeps] at hP
 refine wp_seq ?_
 refine wp_region_lit ?_
 refine h_box H E rfl rfl rfl ?_
 intro w30 g29 a hc31 hg33 H_ E_
 replace E := E_ _ rfl; clear E_
 replace H := H_; clear H_; try dsimp only [setn, addE, goneL] at H
 refine h_box H E rfl rfl rfl ?_
 intro w35 g34 a hc36 hg38 H_ E_
 replace E := E_ _ rfl; clear E_
 replace H := H_; clear H_; try dsimp only [setn, addE, goneL] at H
 refine h_box H E rfl rfl rfl ?_
 intro w40 g39 a hc41 hg43 H_ E_
 replace E := E_ _ rfl; clear E_
 replace H := H_; clear H_; try dsimp only [setn, addE, goneL] at H
 refine vn tbok 1 [] [] [] E (by kernel_rfl) (by kernel_rfl) trivial ?_
 clear E; intro a E
 refine wpList_nil ?_
 refine th_n ?_
 refine wp_seq ?_
 refine wp_region_lit ?_
 obtain ⟨r44, h45, hP⟩ := bind_inv hP
 obtain ⟨Fa46, Hc47, hb48⟩ := H.call [] [] rfl rfl trivial
 refine e_call E rfl rfl Try.func24 rfl rfl rfl (law24_awake_calls    Hc47 h45) ?_
 rintro v49 w50 a ⟨rfl, HR51⟩ E_
 replace E := E_ _ rfl; clear E_
 obtain ⟨H_, hc52⟩ := hb48 _ _ HR51 rfl
 replace H := H_; clear H_; try dsimp only [setn, addE, goneL] at H
 refine vn tbok 1 [] [(9, .bool r44)] [] E (by kernel_rfl) (by kernel_rfl) trivial ?_
 clear E; intro a E
 refine wpList_nil ?_
 refine th_n ?_
 refine wp_seq ?_
 refine wp_seq ?_
 refine wp_region_lit ?_
 refine vn tbok 1 [.agg #[.int .i64 aProps, .slice A1 (List.length aAccept) c2, .slice A5 (List.length aGuard) c6, .slice A9 (List.length aNodes) c10]] [(20, .agg #[.int .i64 aProps, .slice A1 (List.length aAccept) c2, .slice A5 (List.length aGuard) c6, .slice A9 (List.length aNodes) c10])] [cellsAt w50 g29 (0) [.int .i64 aProps, .slice A1 (List.length aAccept) c2, .slice A5 (List.length aGuard) c6, .slice A9 (List.length aNodes) c10]] E (by kernel_rfl) (by kernel_rfl) ((H.box 7 rfl).sub 0 _ rfl) ?_
 clear E; intro a E
 obtain ⟨r53, h54, hP⟩ := bind_inv hP
 obtain ⟨Fa55, Hc56, hb57⟩ := H.call [] [(0, false), (1, false), (2, false)] rfl rfl trivial
 refine e_call E rfl rfl Try.func7 rfl rfl rfl (law19_Large_calls A1 c2 A5 c6 A9 c10 aProps aAccept aGuard aNodes hk3 hk7 hk11 Hc56 h54) ?_
 rintro v58 w59 a ⟨rfl, HR60⟩ E_
 replace E := E_ _ rfl; clear E_
 obtain ⟨H_, hc61⟩ := hb57 _ _ HR60 rfl
 replace H := H_; clear H_; try dsimp only [setn, addE, goneL] at H
 refine vn tbok 1 [] [(22, .bool r53)] [] E (by kernel_rfl) (by kernel_rfl) trivial ?_
 clear E; intro a E
 refine E.cases (t := 22) rfl (fun hb_ E_ => ?_) (fun hb_ E_ => ?_)
 ·
  replace E := E_; clear E_
  have h62 : r53 = true := hb_
  clear hb_; replace hP := ite_t h62 hP
  refine vn tbok 9 [] [(31, .bool true)] [] E (by kernel_rfl) (by kernel_rfl) trivial ?_
  clear E; intro a E
  refine wpList_nil ?_
  refine th_n ?_
  refine c_true E rfl ?_
  refine wp_seq ?_
  refine wp_region_lit ?_
  refine vn tbok 2 [] [(8, .bool r44)] [] E (by kernel_rfl) (by kernel_rfl) trivial ?_
  clear E; intro a E
  refine wpList_nil ?_
  refine th_n ?_
  refine wp_ret ?_
  refine th_ret ?_
  obtain rfl := Option.some.inj hP
  refine ret1 E rfl rfl ?_
  exact ⟨_, rfl, rfl, H.sel [] rfl⟩
 replace E := E_; clear E_
 have h63 : ¬ (r53 = true) := (ne_true_of_eq_false hb_)
 clear hb_; replace hP := ite_f h63 hP
 refine vn tbok 1 [.agg #[.bool xWins, .slice A13 (List.length xRanks) c14, .slice A17 (List.length xReply) c18, .slice A21 (List.length xChoice) c22]] [(23, .agg #[.bool xWins, .slice A13 (List.length xRanks) c14, .slice A17 (List.length xReply) c18, .slice A21 (List.length xChoice) c22])] [cellsAt w59 g39 (0) [.bool xWins, .slice A13 (List.length xRanks) c14, .slice A17 (List.length xReply) c18, .slice A21 (List.length xChoice) c22]] E (by kernel_rfl) (by kernel_rfl) ((H.box 9 rfl).sub 0 _ rfl) ?_
 clear E; intro a E
 obtain ⟨r64, h65, hP⟩ := bind_inv hP
 obtain ⟨Fa66, Hc67, hb68⟩ := H.call [] [(3, false), (4, false), (5, false)] rfl rfl trivial
 refine e_call E rfl rfl Try.func8 rfl rfl rfl (law24_Large_calls A13 c14 A17 c18 A21 c22 xWins xRanks xReply xChoice hk15 hk19 hk23 Hc67 h65) ?_
 rintro v69 w70 a ⟨rfl, HR71⟩ E_
 replace E := E_ _ rfl; clear E_
 obtain ⟨H_, hc72⟩ := hb68 _ _ HR71 rfl
 replace H := H_; clear H_; try dsimp only [setn, addE, goneL] at H
 refine vn tbok 2 [] [(26, .bool r64)] [] E (by kernel_rfl) (by kernel_rfl) trivial ?_
 clear E; intro a E
 refine E.cases (t := 26) rfl (fun hb_ E_ => ?_) (fun hb_ E_ => ?_)
 ·
  replace E := E_; clear E_
  have h73 : r64 = true := hb_
  clear hb_; replace hP := ite_t h73 hP
  refine vn tbok 5 [] [(31, .bool true)] [] E (by kernel_rfl) (by kernel_rfl) trivial ?_
  clear E; intro a E
  refine wpList_nil ?_
  refine th_n ?_
  refine c_true E rfl ?_
  refine wp_seq ?_
  refine wp_region_lit ?_
  refine vn tbok 2 [] [(8, .bool r44)] [] E (by kernel_rfl) (by kernel_rfl) trivial ?_
  clear E; intro a E
  refine wpList_nil ?_
  refine th_n ?_
  refine wp_ret ?_
  refine th_ret ?_
  obtain rfl := Option.some.inj hP
  refine ret1 E rfl rfl ?_
  exact ⟨_, rfl, rfl, H.sel [] rfl⟩
 replace E := E_; clear E_
 have h74 : ¬ (r64 = true) := (ne_true_of_eq_false hb_)
 clear hb_; replace hP := ite_f h74 hP
 refine vn tbok 2 [.agg #[.int .i64 aProps, .slice A1 (List.length aAccept) c2, .slice A5 (List.length aGuard) c6, .slice A9 (List.length aNodes) c10], .agg #[.int .u8 s.1, .int .u8 s.2]] [(27, .agg #[.int .i64 aProps, .slice A1 (List.length aAccept) c2, .slice A5 (List.length aGuard) c6, .slice A9 (List.length aNodes) c10]), (28, .agg #[.int .u8 s.1, .int .u8 s.2])] [cellsAt w70 g29 (0) [.int .i64 aProps, .slice A1 (List.length aAccept) c2, .slice A5 (List.length aGuard) c6, .slice A9 (List.length aNodes) c10], cellsAt w70 g34 (0) [.int .u8 s.1, .int .u8 s.2]] E (by kernel_rfl) (by kernel_rfl) ⟨(H.box 7 rfl).sub 0 _ rfl, (H.box 8 rfl).sub 0 _ rfl⟩ ?_
 clear E; intro a E
 obtain ⟨r75, h76, hP⟩ := bind_inv hP
 obtain ⟨Fa77, Hc78, hb79⟩ := H.call [] [(0, false), (1, false), (2, false)] rfl rfl trivial
 refine e_call E rfl rfl Try.func25 rfl rfl rfl (board_Check_calls A1 c2 A5 c6 A9 c10 aProps aAccept aGuard aNodes (s.1, s.2) hk3 hk7 hk11 Hc78 h76) ?_
 rintro v80 w81 a ⟨rfl, HR82⟩ E_
 replace E := E_ _ rfl; clear E_
 obtain ⟨H_, hc83⟩ := hb79 _ _ HR82 rfl
 replace H := H_; clear H_; try dsimp only [setn, addE, goneL] at H
 refine vn tbok 2 [] [(31, .bool ((r75 : Int) != 0))] [] E (by kernel_rfl) (by kernel_rfl) trivial ?_
 clear E; intro a E
 refine wpList_nil ?_
 refine th_n ?_
 refine E.cases (t := 31) rfl (fun hb_ E_ => ?_) (fun hb_ E_ => ?_)
 ·
  replace E := E_; clear E_
  have h84 : ¬ ((r75 : Int) = 0) := bne_iff_ne.1 hb_
  clear hb_; replace hP := ite_f h84 hP
  refine c_true E rfl ?_
  refine wp_seq ?_
  refine wp_region_lit ?_
  refine vn tbok 2 [] [(8, .bool r44)] [] E (by kernel_rfl) (by kernel_rfl) trivial ?_
  clear E; intro a E
  refine wpList_nil ?_
  refine th_n ?_
  refine wp_ret ?_
  refine th_ret ?_
  obtain rfl := Option.some.inj hP
  refine ret1 E rfl rfl ?_
  exact ⟨_, rfl, rfl, H.sel [] rfl⟩
 replace E := E_; clear E_
 have h85 : (r75 : Int) = 0 := bne_eq_false_iff_eq.1 hb_
 clear hb_; replace hP := ite_t h85 hP
 refine c_false E rfl ?_
 refine wp_skip ?_
 refine th_n ?_
 refine wp_seq ?_
 refine wp_region_lit ?_
 refine vn tbok 3 [.agg #[.int .i64 aProps, .slice A1 (List.length aAccept) c2, .slice A5 (List.length aGuard) c6, .slice A9 (List.length aNodes) c10], .agg #[.int .u8 s.1, .int .u8 s.2], .agg #[.bool xWins, .slice A13 (List.length xRanks) c14, .slice A17 (List.length xReply) c18, .slice A21 (List.length xChoice) c22]] [(34, .agg #[.int .i64 aProps, .slice A1 (List.length aAccept) c2, .slice A5 (List.length aGuard) c6, .slice A9 (List.length aNodes) c10]), (35, .agg #[.int .u8 s.1, .int .u8 s.2]), (36, .agg #[.bool xWins, .slice A13 (List.length xRanks) c14, .slice A17 (List.length xReply) c18, .slice A21 (List.length xChoice) c22])] [cellsAt w81 g29 (0) [.int .i64 aProps, .slice A1 (List.length aAccept) c2, .slice A5 (List.length aGuard) c6, .slice A9 (List.length aNodes) c10], cellsAt w81 g34 (0) [.int .u8 s.1, .int .u8 s.2], cellsAt w81 g39 (0) [.bool xWins, .slice A13 (List.length xRanks) c14, .slice A17 (List.length xReply) c18, .slice A21 (List.length xChoice) c22]] E (by kernel_rfl) (by kernel_rfl) ⟨(H.box 7 rfl).sub 0 _ rfl, (H.box 8 rfl).sub 0 _ rfl, (H.box 9 rfl).sub 0 _ rfl⟩ ?_
 clear E; intro a E
 obtain ⟨r86, h87, hP⟩ := bind_inv hP
 obtain ⟨Fa88, Hc89, hb90⟩ := H.call [] [(0, false), (1, false), (2, false), (3, false), (4, false), (5, false)] rfl rfl trivial
 refine e_call E rfl rfl Try.func15 rfl rfl rfl (strat_Check_calls A1 c2 A5 c6 A9 c10 A13 c14 A17 c18 A21 c22 aProps aAccept aGuard aNodes (s.1, s.2) xWins xRanks xReply xChoice hk3 hk7 hk11 hk15 hk19 hk23 Hc89 h87) ?_
 rintro v91 w92 a ⟨rfl, HR93⟩ E_
 replace E := E_ _ rfl; clear E_
 obtain ⟨H_, hc94⟩ := hb90 _ _ HR93 rfl
 replace H := H_; clear H_; try dsimp only [setn, addE, goneL] at H
 refine vn tbok 5 [] [(10, .bool r86.1), (11, .int .i64 r86.2)] [] E (by kernel_rfl) (by kernel_rfl) trivial ?_
 clear E; intro a E
 refine wpList_nil ?_
 refine th_n ?_
 refine wp_seq ?_
 refine wp_seq ?_
 refine wp_region_lit ?_
 refine vn tbok 1 [.agg #[.int .i64 aProps, .slice A1 (List.length aAccept) c2, .slice A5 (List.length aGuard) c6, .slice A9 (List.length aNodes) c10]] [(40, .agg #[.int .i64 aProps, .slice A1 (List.length aAccept) c2, .slice A5 (List.length aGuard) c6, .slice A9 (List.length aNodes) c10])] [cellsAt w92 g29 (0) [.int .i64 aProps, .slice A1 (List.length aAccept) c2, .slice A5 (List.length aGuard) c6, .slice A9 (List.length aNodes) c10]] E (by kernel_rfl) (by kernel_rfl) ((H.box 7 rfl).sub 0 _ rfl) ?_
 clear E; intro a E
 obtain ⟨r95, h96, hP⟩ := bind_inv hP
 obtain ⟨Fa97, Hc98, hb99⟩ := H.call [] [(0, false), (1, false), (2, false)] rfl rfl trivial
 refine e_call E rfl rfl Try.func26 rfl rfl rfl (law19_Real_calls A1 c2 A5 c6 A9 c10 aProps aAccept aGuard aNodes hk3 hk7 hk11 Hc98 h96) ?_
 rintro v100 w101 a ⟨rfl, HR102⟩ E_
 replace E := E_ _ rfl; clear E_
 obtain ⟨H_, hc103⟩ := hb99 _ _ HR102 rfl
 replace H := H_; clear H_; try dsimp only [setn, addE, goneL] at H
 refine vn tbok 2 [] [(43, .bool (!r95))] [] E (by kernel_rfl) (by kernel_rfl) trivial ?_
 clear E; intro a E
 refine E.cases (t := 43) rfl (fun hb_ E_ => ?_) (fun hb_ E_ => ?_)
 ·
  replace E := E_; clear E_
  have h104 : ¬ (r95 = true) := (ne_true_of_eq_false (not_t hb_))
  clear hb_; replace hP := ite_f h104 hP
  refine vn tbok 3 [] [(46, .bool true)] [] E (by kernel_rfl) (by kernel_rfl) trivial ?_
  clear E; intro a E
  refine wpList_nil ?_
  refine th_n ?_
  refine c_true E rfl ?_
  refine wp_seq ?_
  refine wp_region_lit ?_
  refine vn tbok 1 [] [(8, .bool false)] [] E (by kernel_rfl) (by kernel_rfl) trivial ?_
  clear E; intro a E
  refine wpList_nil ?_
  refine th_n ?_
  refine wp_ret ?_
  refine th_ret ?_
  obtain rfl := Option.some.inj hP
  refine ret1 E rfl rfl ?_
  exact ⟨_, rfl, rfl, H.sel [] rfl⟩
 replace E := E_; clear E_
 have h105 : r95 = true := (not_f hb_)
 clear hb_; replace hP := ite_t h105 hP
 refine vn tbok 3 [] [(46, .bool ((r86.2 : Int) != 0))] [] E (by kernel_rfl) (by kernel_rfl) trivial ?_
 clear E; intro a E
 refine wpList_nil ?_
 refine th_n ?_
 refine E.cases (t := 46) rfl (fun hb_ E_ => ?_) (fun hb_ E_ => ?_)
 ·
  replace E := E_; clear E_
  have h106 : ¬ ((r86.2 : Int) = 0) := bne_iff_ne.1 hb_
  clear hb_; replace hP := ite_f h106 hP
  refine c_true E rfl ?_
  refine wp_seq ?_
  refine wp_region_lit ?_
  refine vn tbok 1 [] [(8, .bool false)] [] E (by kernel_rfl) (by kernel_rfl) trivial ?_
  clear E; intro a E
  refine wpList_nil ?_
  refine th_n ?_
  refine wp_ret ?_
  refine th_ret ?_
  obtain rfl := Option.some.inj hP
  refine ret1 E rfl rfl ?_
  exact ⟨_, rfl, rfl, H.sel [] rfl⟩
 replace E := E_; clear E_
 have h107 : (r86.2 : Int) = 0 := bne_eq_false_iff_eq.1 hb_
 clear hb_; replace hP := ite_t h107 hP
 refine c_false E rfl ?_
 refine wp_skip ?_
 refine th_n ?_
 refine wp_seq ?_
 refine wp_region_lit ?_
 refine vn tbok 3 [.int .u8 s.2] [(12, .int .u8 s.2)] [World.cell? w101 ⟨g34, 1, none⟩ = some (.int .u8 s.2)] E (by kernel_rfl) (by kernel_rfl) ((H.box 8 rfl).cell (j := 1) rfl) ?_
 clear E; intro a E
 refine wpList_nil ?_
 refine th_n ?_
 refine wp_seq ?_
 refine wp_seq ?_
 refine wp_region_lit ?_
 refine vn tbok 2 [.bool xWins] [(50, .bool xWins)] [World.cell? w101 ⟨g39, 0, none⟩ = some (.bool xWins)] E (by kernel_rfl) (by kernel_rfl) ((H.box 9 rfl).cell (j := 0) rfl) ?_
 clear E; intro a E
 refine wpList_nil ?_
 refine th_n ?_
 obtain ⟨x111, h112, hK113⟩ := bind_inv hP
 clear hP
 refine meet_cut (fun a w115 => ∃ (x114 : Int), Fr a 151 [(3, .slice A25 (List.length ll) c26), (4, .pointer (some ⟨g29, 0, none⟩)), (5, .pointer (some ⟨g34, 0, none⟩)), (6, .pointer (some ⟨g39, 0, none⟩)), (9, .bool r44), (10, .bool r86.1), (12, .int .u8 x114)] ∧ Hp S Fa w0 w115 [.ro false (cInt .i64) A25 ll, .ro false cBool A1 aAccept, .ro false (cInt .i64) A5 aGuard, .ro false cNode A9 aNodes, .box g29 26 [.int .i64 aProps, .slice A1 (List.length aAccept) c2, .slice A5 (List.length aGuard) c6, .slice A9 (List.length aNodes) c10], .box g34 29 [.int .u8 s.1, .int .u8 s.2], .ro false (cInt .i64) A13 xRanks, .ro false (cSl (cInt .u8)) A17 xReply, .ro false (cInt .u8) A21 xChoice, .box g39 33 [.bool xWins, .slice A13 (List.length xRanks) c14, .slice A17 (List.length xReply) c18, .slice A21 (List.length xChoice) c22]] ∧ x111 = x114) ?_ ?_
 ·
  have hP := h112; clear h112; rw [law24_StratKeeps_j0] at hP
  refine E.cases (t := 50) rfl (fun hb_ E_ => ?_) (fun hb_ E_ => ?_)
  ·
   replace E := E_; clear E_
   have h116 : xWins = true := hb_
   clear hb_; replace hP := ite_t h116 hP
   refine c_true E rfl ?_
   refine wp_region_lit ?_
   refine vn tbok 3 [.int .u8 s.1] [(12, .int .u8 s.1)] [World.cell? w101 ⟨g34, 0, none⟩ = some (.int .u8 s.1)] E (by kernel_rfl) (by kernel_rfl) ((H.box 8 rfl).cell (j := 0) rfl) ?_
   clear E; intro a E
   refine wpList_nil ?_
   have hx_ := Option.some.inj hP
   exact .inl ⟨rfl, s.1, E.pick _ ⟨rfl, rfl, rfl, rfl, rfl, rfl, rfl, trivial⟩, H.sel [6, 0, 1, 2, 7, 8, 3, 4, 5, 9] rfl, hx_.symm⟩
  replace E := E_; clear E_
  have h117 : ¬ (xWins = true) := (ne_true_of_eq_false hb_)
  clear hb_; replace hP := ite_f h117 hP
  refine c_false E rfl ?_
  refine wp_skip ?_
  have hx_ := Option.some.inj hP
  exact .inl ⟨rfl, s.2, E.pick _ ⟨rfl, rfl, rfl, rfl, rfl, rfl, rfl, trivial⟩, H.sel [6, 0, 1, 2, 7, 8, 3, 4, 5, 9] rfl, hx_.symm⟩
 clear E H h112; rintro a w115 ⟨x114, E, H, hx_⟩
 subst hx_; have hP := hK113; clear hK113
 refine th_n ?_
 refine wp_seq ?_
 refine wp_region_lit ?_
 refine vn tbok 2 [] [(53, .int .u8 x111), (54, .slice A25 (List.length ll) c26)] [] E (by kernel_rfl) (by kernel_rfl) trivial ?_
 clear E; intro a E
 obtain ⟨r118, h119, hP⟩ := bind_inv hP
 obtain ⟨Fa120, Hc121, hb122⟩ := H.call [] [(0, false)] rfl rfl trivial
 refine e_call E rfl rfl Try.func27 rfl rfl rfl (law24_choices_calls A25 c26 x111 ll hk27 Hc121 h119) ?_
 rintro v123 w124 a ⟨A127, c128, rfl, HR125⟩ E_
 replace E := E_ _ rfl; clear E_
 obtain ⟨H_, hc126⟩ := hb122 _ _ HR125 rfl
 replace H := H_; clear H_; try dsimp only [setn, addE, goneL] at H
 refine vn tbok 1 [] [(13, .slice A127 (List.length r118) c128)] [] E (by kernel_rfl) (by kernel_rfl) trivial ?_
 clear E; intro a E
 refine wpList_nil ?_
 refine th_n ?_
 refine wp_seq ?_
 refine wp_region_lit ?_
 refine vn tbok 4 [.agg #[.int .i64 aProps, .slice A1 (List.length aAccept) c2, .slice A5 (List.length aGuard) c6, .slice A9 (List.length aNodes) c10], .agg #[.int .u8 s.1, .int .u8 s.2], .agg #[.bool xWins, .slice A13 (List.length xRanks) c14, .slice A17 (List.length xReply) c18, .slice A21 (List.length xChoice) c22]] [(57, .agg #[.int .i64 aProps, .slice A1 (List.length aAccept) c2, .slice A5 (List.length aGuard) c6, .slice A9 (List.length aNodes) c10]), (58, .agg #[.int .u8 s.1, .int .u8 s.2]), (59, .agg #[.bool xWins, .slice A13 (List.length xRanks) c14, .slice A17 (List.length xReply) c18, .slice A21 (List.length xChoice) c22]), (60, .slice A127 (List.length r118) c128)] [cellsAt w124 g29 (0) [.int .i64 aProps, .slice A1 (List.length aAccept) c2, .slice A5 (List.length aGuard) c6, .slice A9 (List.length aNodes) c10], cellsAt w124 g34 (0) [.int .u8 s.1, .int .u8 s.2], cellsAt w124 g39 (0) [.bool xWins, .slice A13 (List.length xRanks) c14, .slice A17 (List.length xReply) c18, .slice A21 (List.length xChoice) c22]] E (by kernel_rfl) (by kernel_rfl) ⟨(H.box 4 rfl).sub 0 _ rfl, (H.box 5 rfl).sub 0 _ rfl, (H.box 9 rfl).sub 0 _ rfl⟩ ?_
 clear E; intro a E
 obtain ⟨r130, h131, hP⟩ := bind_inv hP
 obtain ⟨Fa132, Hc133, hb134⟩ := H.call [] [(1, false), (2, false), (3, false), (6, false), (7, false), (8, false), (10, false)] rfl rfl trivial
 refine e_call E rfl rfl Try.func17 rfl rfl rfl (strat_Play_calls A1 c2 A5 c6 A9 c10 A13 c14 A17 c18 A21 c22 A127 c128 aProps aAccept aGuard aNodes (s.1, s.2) xWins xRanks xReply xChoice r118 hk3 hk7 hk11 hk15 hk19 hk23 (H.rcap 10 rfl) Hc133 h131) ?_
 rintro v135 w136 a ⟨A139, c140, rfl, HR137⟩ E_
 replace E := E_ _ rfl; clear E_
 obtain ⟨H_, hc138⟩ := hb134 _ _ HR137 rfl
 replace H := H_; clear H_; try dsimp only [setn, addE, goneL] at H
 refine vn tbok 5 [] [(14, .slice A139 (List.length r130.1) c140), (15, .int .i64 r130.2)] [] E (by kernel_rfl) (by kernel_rfl) trivial ?_
 clear E; intro a E
 refine wpList_nil ?_
 refine th_n ?_
 refine wp_seq ?_
 refine wp_seq ?_
 refine wp_region_lit ?_
 refine vn tbok 2 [] [(65, .bool (!r86.1))] [] E (by kernel_rfl) (by kernel_rfl) trivial ?_
 clear E; intro a E
 refine wpList_nil ?_
 refine th_n ?_
 refine E.cases (t := 65) rfl (fun hb_ E_ => ?_) (fun hb_ E_ => ?_)
 ·
  replace E := E_; clear E_
  have h142 : ¬ (r86.1 = true) := (ne_true_of_eq_false (not_t hb_))
  clear hb_; replace hP := ite_f h142 hP
  refine c_true E rfl ?_
  refine wp_seq ?_
  obtain ⟨x148, h149, hK150⟩ := bind_inv hP
  clear hP
  refine meet_cut (fun a w152 => ∃ (x151 : Bool), Fr a 151 [(8, .bool x151)] ∧ Hp S Fa w0 w152 [] ∧ x148 = x151) ?_ ?_
  ·
   have hP := h149; clear h149; rw [law24_StratKeeps_j1] at hP
   refine wp_region_lit ?_
   refine vn tbok 2 [] [(67, .bool r44)] [] E (by kernel_rfl) (by kernel_rfl) trivial ?_
   clear E; intro a E
   refine E.cases (t := 67) rfl (fun hb_ E_ => ?_) (fun hb_ E_ => ?_)
   ·
    replace E := E_; clear E_
    have h153 : r44 = true := hb_
    clear hb_; replace hP := ite_t h153 hP
    refine vn tbok 4 [] [(71, .bool ((r130.2 : Int) == 340))] [] E (by kernel_rfl) (by kernel_rfl) trivial ?_
    clear E; intro a E
    refine E.cases (t := 71) rfl (fun hb_ E_ => ?_) (fun hb_ E_ => ?_)
    ·
     replace E := E_; clear E_
     have h154 : (r130.2 : Int) = 340 := eq_of_beq hb_
     clear hb_; replace hP := ite_t h154 hP
     refine vn tbok 5 [] [(8, .bool (((((List.length r130.1) : Nat) : Int) : Int) == 0))] [] E (by kernel_rfl) (by kernel_rfl) trivial ?_
     clear E; intro a E
     refine wpList_nil ?_
     have hx_ := Option.some.inj hP
     exact .inl ⟨rfl, ((((List.length r130.1) : Nat) : Int) : Int) == 0, E.pick _ ⟨rfl, trivial⟩, H.sel [] rfl, hx_.symm⟩
    replace E := E_; clear E_
    have h155 : ¬ ((r130.2 : Int) = 340) := ne_of_beq_false hb_
    clear hb_; replace hP := ite_f h155 hP
    refine vn tbok 5 [] [(8, .bool false)] [] E (by kernel_rfl) (by kernel_rfl) trivial ?_
    clear E; intro a E
    refine wpList_nil ?_
    have hx_ := Option.some.inj hP
    exact .inl ⟨rfl, false, E.pick _ ⟨rfl, trivial⟩, H.sel [] rfl, hx_.symm⟩
   replace E := E_; clear E_
   have h156 : ¬ (r44 = true) := (ne_true_of_eq_false hb_)
   clear hb_; replace hP := ite_f h156 hP
   refine vn tbok 9 [] [(8, .bool false)] [] E (by kernel_rfl) (by kernel_rfl) trivial ?_
   clear E; intro a E
   refine wpList_nil ?_
   have hx_ := Option.some.inj hP
   exact .inl ⟨rfl, false, E.pick _ ⟨rfl, trivial⟩, H.sel [] rfl, hx_.symm⟩
  clear E H h149; rintro a w152 ⟨x151, E, H, hx_⟩
  subst hx_; have hP := hK150; clear hK150
  refine th_n ?_
  refine wp_ret ?_
  refine th_ret ?_
  obtain rfl := Option.some.inj hP
  refine ret1 E rfl rfl ?_
  exact ⟨_, rfl, rfl, H.sel [] rfl⟩
 replace E := E_; clear E_
 have h157 : r86.1 = true := (not_f hb_)
 clear hb_; replace hP := ite_t h157 hP
 refine c_false E rfl ?_
 refine wp_skip ?_
 refine th_n ?_
 refine wp_seq ?_
 refine wp_seq ?_
 refine wp_region_lit ?_
 refine vn tbok 3 [] [(78, .bool ((r130.2 : Int) != 0))] [] E (by kernel_rfl) (by kernel_rfl) trivial ?_
 clear E; intro a E
 refine E.cases (t := 78) rfl (fun hb_ E_ => ?_) (fun hb_ E_ => ?_)
 ·
  replace E := E_; clear E_
  have h158 : ¬ ((r130.2 : Int) = 0) := bne_iff_ne.1 hb_
  clear hb_; replace hP := ite_f h158 hP
  refine vn tbok 4 [] [(82, .bool true)] [] E (by kernel_rfl) (by kernel_rfl) trivial ?_
  clear E; intro a E
  refine wpList_nil ?_
  refine th_n ?_
  refine c_true E rfl ?_
  refine wp_seq ?_
  refine wp_region_lit ?_
  refine vn tbok 1 [] [(8, .bool false)] [] E (by kernel_rfl) (by kernel_rfl) trivial ?_
  clear E; intro a E
  refine wpList_nil ?_
  refine th_n ?_
  refine wp_ret ?_
  refine th_ret ?_
  obtain rfl := Option.some.inj hP
  refine ret1 E rfl rfl ?_
  exact ⟨_, rfl, rfl, H.sel [] rfl⟩
 replace E := E_; clear E_
 have h159 : (r130.2 : Int) = 0 := bne_eq_false_iff_eq.1 hb_
 clear hb_; replace hP := ite_t h159 hP
 refine vn tbok 4 [] [(82, .bool (((((List.length r130.1) : Nat) : Int) : Int) == 0))] [] E (by kernel_rfl) (by kernel_rfl) trivial ?_
 clear E; intro a E
 refine wpList_nil ?_
 refine th_n ?_
 refine E.cases (t := 82) rfl (fun hb_ E_ => ?_) (fun hb_ E_ => ?_)
 ·
  replace E := E_; clear E_
  have h160 : ((((List.length r130.1) : Nat) : Int) : Int) = 0 := eq_of_beq hb_
  clear hb_; replace hP := ite_t h160 hP
  refine c_true E rfl ?_
  refine wp_seq ?_
  refine wp_region_lit ?_
  refine vn tbok 1 [] [(8, .bool false)] [] E (by kernel_rfl) (by kernel_rfl) trivial ?_
  clear E; intro a E
  refine wpList_nil ?_
  refine th_n ?_
  refine wp_ret ?_
  refine th_ret ?_
  obtain rfl := Option.some.inj hP
  refine ret1 E rfl rfl ?_
  exact ⟨_, rfl, rfl, H.sel [] rfl⟩
 replace E := E_; clear E_
 have h161 : ¬ (((((List.length r130.1) : Nat) : Int) : Int) = 0) := ne_of_beq_false hb_
 clear hb_; replace hP := ite_f h161 hP
 refine c_false E rfl ?_
 refine wp_skip ?_
 refine th_n ?_
 refine wp_seq ?_
 refine wp_region_lit ?_
 obtain ⟨g162, hP⟩ := ask_inv hP
 obtain ⟨g163, hP⟩ := ask_inv hP
 obtain ⟨b164, e_b164⟩ := H.raddr 11 rfl (idx_pos g163)
 subst e_b164
 refine vn tbok 7 [.int .i64 ((((List.length r130.1) : Nat) : Int) - 1), .int .i64 (List.getD r130.1 (Int.toNat ((((List.length r130.1) : Nat) : Int) - 1)) 0)] [(16, .int .i64 (List.getD r130.1 (Int.toNat ((((List.length r130.1) : Nat) : Int) - 1)) 0))] [IntKind.i64.wrap ((((List.length r130.1) : Nat) : Int) - 1) = (((List.length r130.1) : Nat) : Int) - 1, 0 ≤ ((((List.length r130.1) : Nat) : Int) - 1) ∧ ((((List.length r130.1) : Nat) : Int) - 1) < (((List.length r130.1) : Nat) : Int), World.cell? w136 ⟨b164, 0 + (Int.toNat ((((List.length r130.1) : Nat) : Int) - 1)) * 1, none⟩ = some (.int .i64 (List.getD r130.1 (Int.toNat ((((List.length r130.1) : Nat) : Int) - 1)) 0))] E (by kernel_rfl) (by kernel_rfl) ⟨wrap_in g162, g163, Rds.at1 (H.rd 11 rds_row) 0 g163⟩ ?_
 clear E; intro a E
 refine wpList_nil ?_
 refine th_n ?_
 refine wp_seq ?_
 refine wp_seq ?_
 refine wp_region_lit ?_
 refine vn tbok 3 [] [(91, .bool (decide ((List.getD r130.1 (Int.toNat ((((List.length r130.1) : Nat) : Int) - 1)) 0) < 0)))] [] E (by kernel_rfl) (by kernel_rfl) trivial ?_
 clear E; intro a E
 refine E.cases (t := 91) rfl (fun hb_ E_ => ?_) (fun hb_ E_ => ?_)
 ·
  replace E := E_; clear E_
  have h166 : (List.getD r130.1 (Int.toNat ((((List.length r130.1) : Nat) : Int) - 1)) 0) < 0 := of_decide_eq_true hb_
  clear hb_; replace hP := ite_t h166 hP
  refine vn tbok 15 [] [(106, .bool true)] [] E (by kernel_rfl) (by kernel_rfl) trivial ?_
  clear E; intro a E
  refine wpList_nil ?_
  refine th_n ?_
  refine c_true E rfl ?_
  refine wp_seq ?_
  refine wp_region_lit ?_
  refine vn tbok 1 [] [(8, .bool false)] [] E (by kernel_rfl) (by kernel_rfl) trivial ?_
  clear E; intro a E
  refine wpList_nil ?_
  refine th_n ?_
  refine wp_ret ?_
  refine th_ret ?_
  obtain rfl := Option.some.inj hP
  refine ret1 E rfl rfl ?_
  exact ⟨_, rfl, rfl, H.sel [] rfl⟩
 replace E := E_; clear E_
 have h167 : ¬ ((List.getD r130.1 (Int.toNat ((((List.length r130.1) : Nat) : Int) - 1)) 0) < 0) := of_decide_eq_false hb_
 clear hb_; replace hP := ite_f h167 hP
 refine vn tbok 7 [.slice A1 (List.length aAccept) c2] [(98, .bool (decide ((((List.length aAccept) : Nat) : Int) ≤ (List.getD r130.1 (Int.toNat ((((List.length r130.1) : Nat) : Int) - 1)) 0))))] [World.cell? w136 ⟨g29, 1, none⟩ = some (.slice A1 (List.length aAccept) c2)] E (by kernel_rfl) (by kernel_rfl) ((H.box 4 rfl).cell (j := 1) rfl) ?_
 clear E; intro a E
 refine E.cases (t := 98) rfl (fun hb_ E_ => ?_) (fun hb_ E_ => ?_)
 ·
  replace E := E_; clear E_
  have h168 : (((List.length aAccept) : Nat) : Int) ≤ (List.getD r130.1 (Int.toNat ((((List.length r130.1) : Nat) : Int) - 1)) 0) := of_decide_eq_true hb_
  clear hb_; replace hP := ite_t h168 hP
  refine vn tbok 8 [] [(106, .bool true)] [] E (by kernel_rfl) (by kernel_rfl) trivial ?_
  clear E; intro a E
  refine wpList_nil ?_
  refine th_n ?_
  refine c_true E rfl ?_
  refine wp_seq ?_
  refine wp_region_lit ?_
  refine vn tbok 1 [] [(8, .bool false)] [] E (by kernel_rfl) (by kernel_rfl) trivial ?_
  clear E; intro a E
  refine wpList_nil ?_
  refine th_n ?_
  refine wp_ret ?_
  refine th_ret ?_
  obtain rfl := Option.some.inj hP
  refine ret1 E rfl rfl ?_
  exact ⟨_, rfl, rfl, H.sel [] rfl⟩
 replace E := E_; clear E_
 have h169 : ¬ ((((List.length aAccept) : Nat) : Int) ≤ (List.getD r130.1 (Int.toNat ((((List.length r130.1) : Nat) : Int) - 1)) 0)) := of_decide_eq_false hb_
 clear hb_; replace hP := ite_f h169 hP
 refine vn tbok 8 [.slice A13 (List.length xRanks) c14, .slice A1 (List.length aAccept) c2] [(106, .bool (((((List.length xRanks) : Nat) : Int) : Int) != (((List.length aAccept) : Nat) : Int)))] [World.cell? w136 ⟨g39, 1, none⟩ = some (.slice A13 (List.length xRanks) c14), World.cell? w136 ⟨g29, 1, none⟩ = some (.slice A1 (List.length aAccept) c2)] E (by kernel_rfl) (by kernel_rfl) ⟨(H.box 9 rfl).cell (j := 1) rfl, (H.box 4 rfl).cell (j := 1) rfl⟩ ?_
 clear E; intro a E
 refine wpList_nil ?_
 refine th_n ?_
 refine E.cases (t := 106) rfl (fun hb_ E_ => ?_) (fun hb_ E_ => ?_)
 ·
  replace E := E_; clear E_
  have h170 : ¬ (((((List.length xRanks) : Nat) : Int) : Int) = (((List.length aAccept) : Nat) : Int)) := bne_iff_ne.1 hb_
  clear hb_; replace hP := ite_f h170 hP
  refine c_true E rfl ?_
  refine wp_seq ?_
  refine wp_region_lit ?_
  refine vn tbok 1 [] [(8, .bool false)] [] E (by kernel_rfl) (by kernel_rfl) trivial ?_
  clear E; intro a E
  refine wpList_nil ?_
  refine th_n ?_
  refine wp_ret ?_
  refine th_ret ?_
  obtain rfl := Option.some.inj hP
  refine ret1 E rfl rfl ?_
  exact ⟨_, rfl, rfl, H.sel [] rfl⟩
 replace E := E_; clear E_
 have h171 : ((((List.length xRanks) : Nat) : Int) : Int) = (((List.length aAccept) : Nat) : Int) := bne_eq_false_iff_eq.1 hb_
 clear hb_; replace hP := ite_t h171 hP
 refine c_false E rfl ?_
 refine wp_skip ?_
 refine th_n ?_
 refine wp_seq ?_
 refine wp_region_lit ?_
 refine vn tbok 2 [.agg #[.int .i64 aProps, .slice A1 (List.length aAccept) c2, .slice A5 (List.length aGuard) c6, .slice A9 (List.length aNodes) c10], .agg #[.int .u8 s.1, .int .u8 s.2]] [(108, .agg #[.int .i64 aProps, .slice A1 (List.length aAccept) c2, .slice A5 (List.length aGuard) c6, .slice A9 (List.length aNodes) c10]), (109, .agg #[.int .u8 s.1, .int .u8 s.2])] [cellsAt w136 g29 (0) [.int .i64 aProps, .slice A1 (List.length aAccept) c2, .slice A5 (List.length aGuard) c6, .slice A9 (List.length aNodes) c10], cellsAt w136 g34 (0) [.int .u8 s.1, .int .u8 s.2]] E (by kernel_rfl) (by kernel_rfl) ⟨(H.box 4 rfl).sub 0 _ rfl, (H.box 5 rfl).sub 0 _ rfl⟩ ?_
 clear E; intro a E
 obtain ⟨r172, h173, hP⟩ := bind_inv hP
 obtain ⟨Fa174, Hc175, hb176⟩ := H.call [] [(1, false), (2, false), (3, false)] rfl rfl trivial
 refine e_call E rfl rfl Try.func12 rfl rfl rfl (strat_Of_calls A1 c2 A5 c6 A9 c10 aProps aAccept aGuard aNodes (s.1, s.2) hk3 hk7 hk11 Hc175 h173) ?_
 rintro v177 w178 a ⟨A181, c182, A184, c185, A187, c188, rfl, HR179⟩ E_
 replace E := E_ _ rfl; clear E_
 obtain ⟨H_, hc180⟩ := hb176 _ _ HR179 rfl
 replace H := H_; clear H_; try dsimp only [setn, addE, goneL] at H
 refine vn tbok 3 [] [(111, .agg #[.bool r172.1.1, .slice A181 (List.length r172.1.2.1) c182, .slice A184 (List.length r172.1.2.2.1) c185, .slice A187 (List.length r172.1.2.2.2) c188]), (112, .int .i64 r172.2)] [] E (by kernel_rfl) (by kernel_rfl) trivial ?_
 clear E; intro a E
 refine h_alloc H E rfl rfl tbok rfl ?_
 intro w191 g190 a hc192 hg194 H_ E_
 replace E := E_ _ rfl; clear E_
 replace H := H_; clear H_; try dsimp only [setn, addE, goneL] at H
 refine h_store (g := g190) (off := 0) H 15 rfl E rfl rfl rfl rfl tbok rfl rfl rfl rfl rfl ?_
 clear E; intro w195 a hc196 H_ E
 replace H := H_; clear H_; try dsimp only [setn, addE, goneL] at H
 refine vn tbok 1 [] [(18, .int .i64 r172.2)] [] E (by kernel_rfl) (by kernel_rfl) trivial ?_
 clear E; intro a E
 refine wpList_nil ?_
 refine th_n ?_
 refine wp_seq ?_
 refine wp_seq ?_
 refine wp_region_lit ?_
 refine vn tbok 3 [] [(115, .bool ((r172.2 : Int) != 0))] [] E (by kernel_rfl) (by kernel_rfl) trivial ?_
 clear E; intro a E
 refine E.cases (t := 115) rfl (fun hb_ E_ => ?_) (fun hb_ E_ => ?_)
 ·
  replace E := E_; clear E_
  have h197 : ¬ ((r172.2 : Int) = 0) := bne_iff_ne.1 hb_
  clear hb_; replace hP := ite_f h197 hP
  refine vn tbok 6 [] [(121, .bool true)] [] E (by kernel_rfl) (by kernel_rfl) trivial ?_
  clear E; intro a E
  refine wpList_nil ?_
  refine th_n ?_
  refine c_true E rfl ?_
  refine wp_seq ?_
  refine wp_region_lit ?_
  refine vr tbok 1 [] [(8, .bool false)] [] E (by kernel_rfl) trivial ?_
  clear E; intro a E
  refine wpList_nil ?_
  refine th_n ?_
  refine wp_ret ?_
  refine th_ret ?_
  obtain rfl := Option.some.inj hP
  refine ret1 E rfl rfl ?_
  exact ⟨_, rfl, rfl, H.sel [] rfl⟩
 replace E := E_; clear E_
 have h198 : (r172.2 : Int) = 0 := bne_eq_false_iff_eq.1 hb_
 clear hb_; replace hP := ite_t h198 hP
 refine vn tbok 6 [.bool r172.1.1, .bool xWins] [(121, .bool (!(r172.1.1 == xWins)))] [World.cell? w195 ⟨g190, 0, none⟩ = some (.bool r172.1.1), World.cell? w195 ⟨g39, 0, none⟩ = some (.bool xWins)] E (by kernel_rfl) (by kernel_rfl) ⟨(H.box 15 rfl).cell (j := 0) rfl, (H.box 9 rfl).cell (j := 0) rfl⟩ ?_
 clear E; intro a E
 refine wpList_nil ?_
 refine th_n ?_
 refine E.cases (t := 121) rfl (fun hb_ E_ => ?_) (fun hb_ E_ => ?_)
 ·
  replace E := E_; clear E_
  have h199 : ¬ (r172.1.1 = xWins) := (by simpa using hb_)
  clear hb_; replace hP := ite_f h199 hP
  refine c_true E rfl ?_
  refine wp_seq ?_
  refine wp_region_lit ?_
  refine vr tbok 1 [] [(8, .bool false)] [] E (by kernel_rfl) trivial ?_
  clear E; intro a E
  refine wpList_nil ?_
  refine th_n ?_
  refine wp_ret ?_
  refine th_ret ?_
  obtain rfl := Option.some.inj hP
  refine ret1 E rfl rfl ?_
  exact ⟨_, rfl, rfl, H.sel [] rfl⟩
 replace E := E_; clear E_
 have h200 : r172.1.1 = xWins := (by simpa using hb_)
 clear hb_; replace hP := ite_t h200 hP
 refine c_false E rfl ?_
 refine wp_skip ?_
 refine th_n ?_
 refine wp_seq ?_
 refine wp_seq ?_
 refine wp_region_lit ?_
 refine vn tbok 3 [.bool xWins] [(124, .bool (!xWins))] [World.cell? w195 ⟨g39, 0, none⟩ = some (.bool xWins)] E (by kernel_rfl) (by kernel_rfl) ((H.box 9 rfl).cell (j := 0) rfl) ?_
 clear E; intro a E
 refine wpList_nil ?_
 refine th_n ?_
 refine E.cases (t := 124) rfl (fun hb_ E_ => ?_) (fun hb_ E_ => ?_)
 ·
  replace E := E_; clear E_
  have h201 : ¬ (xWins = true) := (ne_true_of_eq_false (not_t hb_))
  clear hb_; replace hP := ite_f h201 hP
  refine c_true E rfl ?_
  refine wp_seq ?_
  obtain ⟨x208, h209, hK210⟩ := bind_inv hP
  clear hP
  refine meet_cut (fun a w212 => ∃ (x211 : Bool), Fr a 151 [(8, .bool x211)] ∧ Hp S Fa w0 w212 [] ∧ x208 = x211) ?_ ?_
  ·
   have hP := h209; clear h209; rw [law24_StratKeeps_j2] at hP
   refine wp_region_lit ?_
   refine vn tbok 2 [] [(126, .bool r44)] [] E (by kernel_rfl) (by kernel_rfl) trivial ?_
   clear E; intro a E
   refine E.cases (t := 126) rfl (fun hb_ E_ => ?_) (fun hb_ E_ => ?_)
   ·
    replace E := E_; clear E_
    have h213 : r44 = true := hb_
    clear hb_; replace hP := ite_t h213 hP
    obtain ⟨g214, hP⟩ := ask_inv hP
    obtain ⟨b215, o216, e_b215⟩ := (H.rd 1 rds_ro).addr (idx_pos g214)
    subst e_b215
    refine vr tbok 8 [.slice (some ⟨b215, o216, none⟩) (List.length aAccept) c2, .bool (List.getD aAccept (Int.toNat (List.getD r130.1 (Int.toNat ((((List.length r130.1) : Nat) : Int) - 1)) 0)) false)] [(8, .bool (!(List.getD aAccept (Int.toNat (List.getD r130.1 (Int.toNat ((((List.length r130.1) : Nat) : Int) - 1)) 0)) false)))] [World.cell? w195 ⟨g29, 1, none⟩ = some (.slice (some ⟨b215, o216, none⟩) (List.length aAccept) c2), 0 ≤ (List.getD r130.1 (Int.toNat ((((List.length r130.1) : Nat) : Int) - 1)) 0) ∧ (List.getD r130.1 (Int.toNat ((((List.length r130.1) : Nat) : Int) - 1)) 0) < (((List.length aAccept) : Nat) : Int), World.cell? w195 ⟨b215, o216 + (Int.toNat (List.getD r130.1 (Int.toNat ((((List.length r130.1) : Nat) : Int) - 1)) 0)) * 1, none⟩ = some (.bool (List.getD aAccept (Int.toNat (List.getD r130.1 (Int.toNat ((((List.length r130.1) : Nat) : Int) - 1)) 0)) false))] E (by kernel_rfl) ⟨(H.box 4 rfl).cell (j := 1) rfl, g214, Rds.at1 (H.rd 1 rds_ro) false g214⟩ ?_
    clear E; intro a E
    refine wpList_nil ?_
    have hx_ := Option.some.inj hP
    exact .inl ⟨rfl, !(List.getD aAccept (Int.toNat (List.getD r130.1 (Int.toNat ((((List.length r130.1) : Nat) : Int) - 1)) 0)) false), E.pick _ ⟨rfl, trivial⟩, H.sel [] rfl, hx_.symm⟩
   replace E := E_; clear E_
   have h217 : ¬ (r44 = true) := (ne_true_of_eq_false hb_)
   clear hb_; replace hP := ite_f h217 hP
   refine vr tbok 8 [] [(8, .bool false)] [] E (by kernel_rfl) trivial ?_
   clear E; intro a E
   refine wpList_nil ?_
   have hx_ := Option.some.inj hP
   exact .inl ⟨rfl, false, E.pick _ ⟨rfl, trivial⟩, H.sel [] rfl, hx_.symm⟩
  clear E H h209; rintro a w212 ⟨x211, E, H, hx_⟩
  subst hx_; have hP := hK210; clear hK210
  refine th_n ?_
  refine wp_ret ?_
  refine th_ret ?_
  obtain rfl := Option.some.inj hP
  refine ret1 E rfl rfl ?_
  exact ⟨_, rfl, rfl, H.sel [] rfl⟩
 replace E := E_; clear E_
 have h218 : xWins = true := (not_f hb_)
 clear hb_; replace hP := ite_t h218 hP
 refine c_false E rfl ?_
 refine wp_skip ?_
 refine th_n ?_
 refine wp_seq ?_
 refine wp_region_lit ?_
 refine vn tbok 2 [] [(135, .bool r44)] [] E (by kernel_rfl) (by kernel_rfl) trivial ?_
 clear E; intro a E
 refine E.cases (t := 135) rfl (fun hb_ E_ => ?_) (fun hb_ E_ => ?_)
 ·
  replace E := E_; clear E_
  have h219 : r44 = true := hb_
  clear hb_; replace hP := ite_t h219 hP
  obtain ⟨g220, hP⟩ := ask_inv hP
  obtain ⟨b221, o222, e_b221⟩ := (H.rd 6 rds_ro).addr (idx_pos g220)
  subst e_b221
  refine vn tbok 8 [.slice (some ⟨b221, o222, none⟩) (List.length xRanks) c14, .int .i64 (List.getD xRanks (Int.toNat (0 : Int)) 0)] [(143, .bool (decide ((((List.length r118) : Nat) : Int) < (List.getD xRanks (Int.toNat (0 : Int)) 0))))] [World.cell? w195 ⟨g39, 1, none⟩ = some (.slice (some ⟨b221, o222, none⟩) (List.length xRanks) c14), 0 ≤ (0 : Int) ∧ (0 : Int) < (((List.length xRanks) : Nat) : Int), World.cell? w195 ⟨b221, o222 + (Int.toNat (0 : Int)) * 1, none⟩ = some (.int .i64 (List.getD xRanks (Int.toNat (0 : Int)) 0))] E (by kernel_rfl) (by kernel_rfl) ⟨(H.box 9 rfl).cell (j := 1) rfl, g220, Rds.at1 (H.rd 6 rds_ro) 0 g220⟩ ?_
  clear E; intro a E
  refine E.cases (t := 143) rfl (fun hb_ E_ => ?_) (fun hb_ E_ => ?_)
  ·
   replace E := E_; clear E_
   have h223 : (((List.length r118) : Nat) : Int) < (List.getD xRanks (Int.toNat (0 : Int)) 0) := of_decide_eq_true hb_
   clear hb_; replace hP := ite_t h223 hP
   refine vr tbok 8 [] [(8, .bool true)] [] E (by kernel_rfl) trivial ?_
   clear E; intro a E
   refine wpList_nil ?_
   refine th_n ?_
   refine wp_ret ?_
   obtain rfl := Option.some.inj hP
   refine ret1 E rfl rfl ?_
   exact ⟨_, rfl, rfl, H.sel [] rfl⟩
  replace E := E_; clear E_
  have h224 : ¬ ((((List.length r118) : Nat) : Int) < (List.getD xRanks (Int.toNat (0 : Int)) 0)) := of_decide_eq_false hb_
  clear hb_; replace hP := ite_f h224 hP
  obtain ⟨g225, hP⟩ := ask_inv hP
  obtain ⟨b226, o227, e_b226⟩ := (H.rd 1 rds_ro).addr (idx_pos g225)
  subst e_b226
  refine vr tbok 8 [.slice (some ⟨b226, o227, none⟩) (List.length aAccept) c2, .bool (List.getD aAccept (Int.toNat (List.getD r130.1 (Int.toNat ((((List.length r130.1) : Nat) : Int) - 1)) 0)) false)] [(8, .bool (List.getD aAccept (Int.toNat (List.getD r130.1 (Int.toNat ((((List.length r130.1) : Nat) : Int) - 1)) 0)) false))] [World.cell? w195 ⟨g29, 1, none⟩ = some (.slice (some ⟨b226, o227, none⟩) (List.length aAccept) c2), 0 ≤ (List.getD r130.1 (Int.toNat ((((List.length r130.1) : Nat) : Int) - 1)) 0) ∧ (List.getD r130.1 (Int.toNat ((((List.length r130.1) : Nat) : Int) - 1)) 0) < (((List.length aAccept) : Nat) : Int), World.cell? w195 ⟨b226, o227 + (Int.toNat (List.getD r130.1 (Int.toNat ((((List.length r130.1) : Nat) : Int) - 1)) 0)) * 1, none⟩ = some (.bool (List.getD aAccept (Int.toNat (List.getD r130.1 (Int.toNat ((((List.length r130.1) : Nat) : Int) - 1)) 0)) false))] E (by kernel_rfl) ⟨(H.box 4 rfl).cell (j := 1) rfl, g225, Rds.at1 (H.rd 1 rds_ro) false g225⟩ ?_
  clear E; intro a E
  refine wpList_nil ?_
  refine th_n ?_
  refine wp_ret ?_
  obtain rfl := Option.some.inj hP
  refine ret1 E rfl rfl ?_
  exact ⟨_, rfl, rfl, H.sel [] rfl⟩
 replace E := E_; clear E_
 have h228 : ¬ (r44 = true) := (ne_true_of_eq_false hb_)
 clear hb_; replace hP := ite_f h228 hP
 refine vr tbok 16 [] [(8, .bool false)] [] E (by kernel_rfl) trivial ?_
 clear E; intro a E
 refine wpList_nil ?_
 refine th_n ?_
 refine wp_ret ?_
 obtain rfl := Option.some.inj hP
 refine ret1 E rfl rfl ?_
 exact ⟨_, rfl, rfl, H.sel [] rfl⟩

end Go.V
