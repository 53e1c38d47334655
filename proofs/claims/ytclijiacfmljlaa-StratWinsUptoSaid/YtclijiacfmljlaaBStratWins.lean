/- Plain functions, and the calls that give them. -/
import Derived.Test.YtclijiacfmljlaaA8
set_option linter.all false
set_option linter.unusedVariables false
set_option linter.unnecessarySimpa false
set_option linter.unusedSimpArgs false
namespace Go.V
open Go Go.Proofs
/-! rejoinder/rejoinderlaw24.StratWins -/
def law24_StratWins_j0 (N : Nat) (s : Int × Int) (r58 : (Bool × (List Int) × (List (List Int)) × (List Int)) × Int) : Option Int :=
    if r58.1.1 = true then
      some s.1
    else
      some s.2
def law24_StratWins_l1 (N : Nat) (aAccept : List Bool) (r58 : (Bool × (List Int) × (List (List Int)) × (List Int)) × Int) (r133 : (List Int) × Int) : Nat → Int → Option (Unit ⊕ Bool)
  | 0, _ => none
  | m294 + 1, i210 =>
    if i210 < (((List.length r133.1) : Nat) : Int) then
      ask (idx i210 (List.length r133.1)) <|
      if (List.getD r133.1 (Int.toNat i210) 0) < 0 then
        some (Sum.inr false)
      else
        if (((List.length aAccept) : Nat) : Int) ≤ (List.getD r133.1 (Int.toNat i210) 0) then
          some (Sum.inr false)
        else
          if r58.1.1 = true then
            if r58.1.1 = true then
              if 0 < i210 then
                ask (idx (List.getD r133.1 (Int.toNat i210) 0) (List.length r58.1.2.1)) <|
                ask (in64 (i210 - 1)) <|
                ask (idx (i210 - 1) (List.length r133.1)) <|
                ask (idx (List.getD r133.1 (Int.toNat (i210 - 1)) 0) (List.length r58.1.2.1)) <|
                if (List.getD r58.1.2.1 (Int.toNat (List.getD r133.1 (Int.toNat (i210 - 1)) 0)) 0) ≤ (List.getD r58.1.2.1 (Int.toNat (List.getD r133.1 (Int.toNat i210) 0)) 0) then
                  some (Sum.inr false)
                else
                  ask (in64 (i210 + 1)) <|
                  law24_StratWins_l1 N aAccept r58 r133 m294 (i210 + 1)
              else
                ask (in64 (i210 + 1)) <|
                law24_StratWins_l1 N aAccept r58 r133 m294 (i210 + 1)
            else
              ask (in64 (i210 + 1)) <|
              law24_StratWins_l1 N aAccept r58 r133 m294 (i210 + 1)
          else
            ask (idx (List.getD r133.1 (Int.toNat i210) 0) (List.length aAccept)) <|
            if (List.getD aAccept (Int.toNat (List.getD r133.1 (Int.toNat i210) 0)) false) = true then
              some (Sum.inr false)
            else
              ask (idx (List.getD r133.1 (Int.toNat i210) 0) (List.length r58.1.2.1)) <|
              if ((List.getD r58.1.2.1 (Int.toNat (List.getD r133.1 (Int.toNat i210) 0)) 0) : Int) = -1 then
                if r58.1.1 = true then
                  if 0 < i210 then
                    ask (in64 (i210 - 1)) <|
                    ask (idx (i210 - 1) (List.length r133.1)) <|
                    ask (idx (List.getD r133.1 (Int.toNat (i210 - 1)) 0) (List.length r58.1.2.1)) <|
                    if (List.getD r58.1.2.1 (Int.toNat (List.getD r133.1 (Int.toNat (i210 - 1)) 0)) 0) ≤ (List.getD r58.1.2.1 (Int.toNat (List.getD r133.1 (Int.toNat i210) 0)) 0) then
                      some (Sum.inr false)
                    else
                      ask (in64 (i210 + 1)) <|
                      law24_StratWins_l1 N aAccept r58 r133 m294 (i210 + 1)
                  else
                    ask (in64 (i210 + 1)) <|
                    law24_StratWins_l1 N aAccept r58 r133 m294 (i210 + 1)
                else
                  ask (in64 (i210 + 1)) <|
                  law24_StratWins_l1 N aAccept r58 r133 m294 (i210 + 1)
              else
                some (Sum.inr false)
    else
      some (Sum.inl ())
def law24_StratWins_j2 (N : Nat) (r27 : Bool) (r121 : List Int) (r133 : (List Int) × Int) : Option Bool :=
    if r27 = true then
      some (((((List.length r133.1) : Nat) : Int) : Int) == ((((List.length r121) : Nat) : Int) + 1))
    else
      some false
def law24_StratWins (N : Nat) (aProps : Int) (aAccept : List Bool) (aGuard : List Int) (aNodes : List Nd) (s : Int × Int) (ll : List Int) : Option Bool :=
  Option.bind (law24_awake N) fun r27 =>
  Option.bind (law19_Large N aProps aAccept aGuard aNodes) fun r36 =>
  if r36 = true then
    some r27
  else
    Option.bind (board_Check N aProps aAccept aGuard aNodes (s.1, s.2)) fun r47 =>
    if (r47 : Int) = 0 then
      Option.bind (strat_Of N aProps aAccept aGuard aNodes (s.1, s.2)) fun r58 =>
      Option.bind (strat_Check N aProps aAccept aGuard aNodes (s.1, s.2) r58.1.1 r58.1.2.1 r58.1.2.2.1 r58.1.2.2.2) fun r83 =>
      Option.bind (law19_Real N aProps aAccept aGuard aNodes) fun r92 =>
      if r92 = true then
        if (r58.2 : Int) = 0 then
          if (r83.2 : Int) = 0 then
            if r83.1 = true then
              if ((((List.length r58.1.2.1) : Nat) : Int) : Int) = (((List.length aAccept) : Nat) : Int) then
                Option.bind (law24_StratWins_j0 N s r58) fun x114 =>
                Option.bind (law24_choices N x114 ll) fun r121 =>
                Option.bind (strat_Play N aProps aAccept aGuard aNodes (s.1, s.2) r58.1.1 r58.1.2.1 r58.1.2.2.1 r58.1.2.2.2 r121) fun r133 =>
                if (r133.2 : Int) = 0 then
                  if ((((List.length r133.1) : Nat) : Int) : Int) = 0 then
                    some false
                  else
                    ask (idx (0 : Int) (List.length r133.1)) <|
                    if ((List.getD r133.1 (Int.toNat (0 : Int)) 0) : Int) = 0 then
                      ask (in64 ((((List.length r121) : Nat) : Int) + 1)) <|
                      if ((((List.length r121) : Nat) : Int) + 1) < (((List.length r133.1) : Nat) : Int) then
                        some false
                      else
                        Option.bind (law24_StratWins_l1 N aAccept r58 r133 N 0) fun x295 =>
                        Sum.elim (fun x300 =>
                          if r58.1.1 = true then
                            if r27 = true then
                              ask (idx (0 : Int) (List.length r58.1.2.1)) <|
                              if 1 ≤ (List.getD r58.1.2.1 (Int.toNat (0 : Int)) 0) then
                                if (List.getD r58.1.2.1 (Int.toNat (0 : Int)) 0) < (((List.length aAccept) : Nat) : Int) then
                                  if (((List.length r121) : Nat) : Int) < (List.getD r58.1.2.1 (Int.toNat (0 : Int)) 0) then
                                    some true
                                  else
                                    ask (in64 ((((List.length r133.1) : Nat) : Int) - 1)) <|
                                    ask (idx ((((List.length r133.1) : Nat) : Int) - 1) (List.length r133.1)) <|
                                    ask (idx (List.getD r133.1 (Int.toNat ((((List.length r133.1) : Nat) : Int) - 1)) 0) (List.length aAccept)) <|
                                    some (List.getD aAccept (Int.toNat (List.getD r133.1 (Int.toNat ((((List.length r133.1) : Nat) : Int) - 1)) 0)) false)
                                else
                                  some false
                              else
                                some false
                            else
                              some false
                          else
                            Option.bind (law24_StratWins_j2 N r27 r121 r133) fun x389 =>
                            some x389)
                         (fun x384 =>
                          some x384) x295
                    else
                      some false
                else
                  some false
              else
                some false
            else
              some false
          else
            some false
        else
          some false
      else
        some false
    else
      some r27
set_option maxRecDepth 100000 in
set_option maxHeartbeats 4000000 in
theorem law24_StratWins_calls {N : Nat} {S Fa : Nat → Prop} {w0 : World} {r : Bool} (A1 : Option Addr) (c2 : Nat) (A5 : Option Addr) (c6 : Nat) (A9 : Option Addr) (c10 : Nat) (A13 : Option Addr) (c14 : Nat) (aProps : Int) (aAccept : List Bool) (aGuard : List Int) (aNodes : List Nd) (s : Int × Int) (ll : List Int) (hk3 : List.length aAccept ≤ c2) (hk7 : List.length aGuard ≤ c6) (hk11 : List.length aNodes ≤ c10) (hk15 : List.length ll ≤ c14) (H : Hp S Fa w0 w0 [.ro false cBool A1 aAccept, .ro false (cInt .i64) A5 aGuard, .ro false cNode A9 aNodes, .ro false (cInt .i64) A13 ll]) (hP : law24_StratWins N aProps aAccept aGuard aNodes s ll = some r) :
    Calls Try.prog 4 #[.agg #[.int .i64 aProps, .slice A1 (List.length aAccept) c2, .slice A5 (List.length aGuard) c6, .slice A9 (List.length aNodes) c10], .agg #[.int .u8 s.1, .int .u8 s.2], .slice A13 (List.length ll) c14] w0 fun e w' => ∃ v, e = .returned v ∧ v = .bool r ∧ Hp S Fa w0 w' [] := by
 refine enterV (n := 224) Try.func4 rfl rfl rfl ?_
 intro a E
 replace E := E.pick [(0, .agg #[.int .i64 aProps, .slice A1 (List.length aAccept) c2, .slice A5 (List.length aGuard) c6, .slice A9 (List.length aNodes) c10]), (1, .agg #[.int .u8 s.1, .int .u8 s.2]), (2, .slice A13 (List.length ll) c14)] ⟨rfl, rfl, rfl, trivial⟩
 rw [law24_StratWins] at hP
 refine wp_seq ?_
 refine wp_region_lit ?_
 refine h_box H E rfl rfl rfl ?_
 intro w18 g17 a hc19 hg21 H_ E_
 replace E := E_ _ rfl; clear E_
 replace H := H_; clear H_; try dsimp only [setn, addE, goneL] at H
 refine h_box H E rfl rfl rfl ?_
 intro w23 g22 a hc24 hg26 H_ E_
 replace E := E_ _ rfl; clear E_
 replace H := H_; clear H_; try dsimp only [setn, addE, goneL] at H
 refine vn tbok 1 [] [] [] E (by kernel_rfl) (by kernel_rfl) trivial ?_
 clear E; intro a E
 refine wpList_nil ?_
 refine th_n ?_
 refine wp_seq ?_
 refine wp_region_lit ?_
 obtain ⟨r27, h28, hP⟩ := bind_inv hP
 obtain ⟨Fa29, Hc30, hb31⟩ := H.call [] [] rfl rfl trivial
 refine e_call E rfl rfl Try.func24 rfl rfl rfl (law24_awake_calls    Hc30 h28) ?_
 rintro v32 w33 a ⟨rfl, HR34⟩ E_
 replace E := E_ _ rfl; clear E_
 obtain ⟨H_, hc35⟩ := hb31 _ _ HR34 rfl
 replace H := H_; clear H_; try dsimp only [setn, addE, goneL] at H
 refine vn tbok 1 [] [(7, .bool r27)] [] E (by kernel_rfl) (by kernel_rfl) trivial ?_
 clear E; intro a E
 refine wpList_nil ?_
 refine th_n ?_
 refine wp_seq ?_
 refine wp_seq ?_
 refine wp_region_lit ?_
 refine vn tbok 1 [.agg #[.int .i64 aProps, .slice A1 (List.length aAccept) c2, .slice A5 (List.length aGuard) c6, .slice A9 (List.length aNodes) c10]] [(18, .agg #[.int .i64 aProps, .slice A1 (List.length aAccept) c2, .slice A5 (List.length aGuard) c6, .slice A9 (List.length aNodes) c10])] [cellsAt w33 g17 (0) [.int .i64 aProps, .slice A1 (List.length aAccept) c2, .slice A5 (List.length aGuard) c6, .slice A9 (List.length aNodes) c10]] E (by kernel_rfl) (by kernel_rfl) ((H.box 4 rfl).sub 0 _ rfl) ?_
 clear E; intro a E
 obtain ⟨r36, h37, hP⟩ := bind_inv hP
 obtain ⟨Fa38, Hc39, hb40⟩ := H.call [] [(0, false), (1, false), (2, false)] rfl rfl trivial
 refine e_call E rfl rfl Try.func7 rfl rfl rfl (law19_Large_calls A1 c2 A5 c6 A9 c10 aProps aAccept aGuard aNodes hk3 hk7 hk11 Hc39 h37) ?_
 rintro v41 w42 a ⟨rfl, HR43⟩ E_
 replace E := E_ _ rfl; clear E_
 obtain ⟨H_, hc44⟩ := hb40 _ _ HR43 rfl
 replace H := H_; clear H_; try dsimp only [setn, addE, goneL] at H
 refine vn tbok 1 [] [(20, .bool r36)] [] E (by kernel_rfl) (by kernel_rfl) trivial ?_
 clear E; intro a E
 refine E.cases (t := 20) rfl (fun hb_ E_ => ?_) (fun hb_ E_ => ?_)
 ·
  replace E := E_; clear E_
  have h45 : r36 = true := hb_
  clear hb_; replace hP := ite_t h45 hP
  refine vn tbok 5 [] [(25, .bool true)] [] E (by kernel_rfl) (by kernel_rfl) trivial ?_
  clear E; intro a E
  refine wpList_nil ?_
  refine th_n ?_
  refine c_true E rfl ?_
  refine wp_seq ?_
  refine wp_region_lit ?_
  refine vn tbok 2 [] [(6, .bool r27)] [] E (by kernel_rfl) (by kernel_rfl) trivial ?_
  clear E; intro a E
  refine wpList_nil ?_
  refine th_n ?_
  refine wp_ret ?_
  refine th_ret ?_
  obtain rfl := Option.some.inj hP
  refine ret1 E rfl rfl ?_
  exact ⟨_, rfl, rfl, H.sel [] rfl⟩
 replace E := E_; clear E_
 have h46 : ¬ (r36 = true) := (ne_true_of_eq_false hb_)
 clear hb_; replace hP := ite_f h46 hP
 refine vn tbok 2 [.agg #[.int .i64 aProps, .slice A1 (List.length aAccept) c2, .slice A5 (List.length aGuard) c6, .slice A9 (List.length aNodes) c10], .agg #[.int .u8 s.1, .int .u8 s.2]] [(21, .agg #[.int .i64 aProps, .slice A1 (List.length aAccept) c2, .slice A5 (List.length aGuard) c6, .slice A9 (List.length aNodes) c10]), (22, .agg #[.int .u8 s.1, .int .u8 s.2])] [cellsAt w42 g17 (0) [.int .i64 aProps, .slice A1 (List.length aAccept) c2, .slice A5 (List.length aGuard) c6, .slice A9 (List.length aNodes) c10], cellsAt w42 g22 (0) [.int .u8 s.1, .int .u8 s.2]] E (by kernel_rfl) (by kernel_rfl) ⟨(H.box 4 rfl).sub 0 _ rfl, (H.box 5 rfl).sub 0 _ rfl⟩ ?_
 clear E; intro a E
 obtain ⟨r47, h48, hP⟩ := bind_inv hP
 obtain ⟨Fa49, Hc50, hb51⟩ := H.call [] [(0, false), (1, false), (2, false)] rfl rfl trivial
 refine e_call E rfl rfl Try.func25 rfl rfl rfl (board_Check_calls A1 c2 A5 c6 A9 c10 aProps aAccept aGuard aNodes (s.1, s.2) hk3 hk7 hk11 Hc50 h48) ?_
 rintro v52 w53 a ⟨rfl, HR54⟩ E_
 replace E := E_ _ rfl; clear E_
 obtain ⟨H_, hc55⟩ := hb51 _ _ HR54 rfl
 replace H := H_; clear H_; try dsimp only [setn, addE, goneL] at H
 refine vn tbok 2 [] [(25, .bool ((r47 : Int) != 0))] [] E (by kernel_rfl) (by kernel_rfl) trivial ?_
 clear E; intro a E
 refine wpList_nil ?_
 refine th_n ?_
 refine E.cases (t := 25) rfl (fun hb_ E_ => ?_) (fun hb_ E_ => ?_)
 ·
  replace E := E_; clear E_
  have h56 : ¬ ((r47 : Int) = 0) := bne_iff_ne.1 hb_
  clear hb_; replace hP := ite_f h56 hP
  refine c_true E rfl ?_
  refine wp_seq ?_
  refine wp_region_lit ?_
  refine vn tbok 2 [] [(6, .bool r27)] [] E (by kernel_rfl) (by kernel_rfl) trivial ?_
  clear E; intro a E
  refine wpList_nil ?_
  refine th_n ?_
  refine wp_ret ?_
  refine th_ret ?_
  obtain rfl := Option.some.inj hP
  refine ret1 E rfl rfl ?_
  exact ⟨_, rfl, rfl, H.sel [] rfl⟩
 replace E := E_; clear E_
 have h57 : (r47 : Int) = 0 := bne_eq_false_iff_eq.1 hb_
 clear hb_; replace hP := ite_t h57 hP
 refine c_false E rfl ?_
 refine wp_skip ?_
 refine th_n ?_
 refine wp_seq ?_
 refine wp_region_lit ?_
 refine vn tbok 2 [.agg #[.int .i64 aProps, .slice A1 (List.length aAccept) c2, .slice A5 (List.length aGuard) c6, .slice A9 (List.length aNodes) c10], .agg #[.int .u8 s.1, .int .u8 s.2]] [(28, .agg #[.int .i64 aProps, .slice A1 (List.length aAccept) c2, .slice A5 (List.length aGuard) c6, .slice A9 (List.length aNodes) c10]), (29, .agg #[.int .u8 s.1, .int .u8 s.2])] [cellsAt w53 g17 (0) [.int .i64 aProps, .slice A1 (List.length aAccept) c2, .slice A5 (List.length aGuard) c6, .slice A9 (List.length aNodes) c10], cellsAt w53 g22 (0) [.int .u8 s.1, .int .u8 s.2]] E (by kernel_rfl) (by kernel_rfl) ⟨(H.box 4 rfl).sub 0 _ rfl, (H.box 5 rfl).sub 0 _ rfl⟩ ?_
 clear E; intro a E
 obtain ⟨r58, h59, hP⟩ := bind_inv hP
 obtain ⟨Fa60, Hc61, hb62⟩ := H.call [] [(0, false), (1, false), (2, false)] rfl rfl trivial
 refine e_call E rfl rfl Try.func12 rfl rfl rfl (strat_Of_calls A1 c2 A5 c6 A9 c10 aProps aAccept aGuard aNodes (s.1, s.2) hk3 hk7 hk11 Hc61 h59) ?_
 rintro v63 w64 a ⟨A67, c68, A70, c71, A73, c74, rfl, HR65⟩ E_
 replace E := E_ _ rfl; clear E_
 obtain ⟨H_, hc66⟩ := hb62 _ _ HR65 rfl
 replace H := H_; clear H_; try dsimp only [setn, addE, goneL] at H
 refine vn tbok 3 [] [(31, .agg #[.bool r58.1.1, .slice A67 (List.length r58.1.2.1) c68, .slice A70 (List.length r58.1.2.2.1) c71, .slice A73 (List.length r58.1.2.2.2) c74]), (32, .int .i64 r58.2)] [] E (by kernel_rfl) (by kernel_rfl) trivial ?_
 clear E; intro a E
 refine h_alloc H E rfl rfl tbok rfl ?_
 intro w77 g76 a hc78 hg80 H_ E_
 replace E := E_ _ rfl; clear E_
 replace H := H_; clear H_; try dsimp only [setn, addE, goneL] at H
 refine h_store (g := g76) (off := 0) H 9 rfl E rfl rfl rfl rfl tbok rfl rfl rfl rfl rfl ?_
 clear E; intro w81 a hc82 H_ E
 replace H := H_; clear H_; try dsimp only [setn, addE, goneL] at H
 refine vn tbok 1 [] [(9, .int .i64 r58.2)] [] E (by kernel_rfl) (by kernel_rfl) trivial ?_
 clear E; intro a E
 refine wpList_nil ?_
 refine th_n ?_
 refine wp_seq ?_
 refine wp_region_lit ?_
 refine vn tbok 3 [.agg #[.int .i64 aProps, .slice A1 (List.length aAccept) c2, .slice A5 (List.length aGuard) c6, .slice A9 (List.length aNodes) c10], .agg #[.int .u8 s.1, .int .u8 s.2], .agg #[.bool r58.1.1, .slice A67 (List.length r58.1.2.1) c68, .slice A70 (List.length r58.1.2.2.1) c71, .slice A73 (List.length r58.1.2.2.2) c74]] [(34, .agg #[.int .i64 aProps, .slice A1 (List.length aAccept) c2, .slice A5 (List.length aGuard) c6, .slice A9 (List.length aNodes) c10]), (35, .agg #[.int .u8 s.1, .int .u8 s.2]), (36, .agg #[.bool r58.1.1, .slice A67 (List.length r58.1.2.1) c68, .slice A70 (List.length r58.1.2.2.1) c71, .slice A73 (List.length r58.1.2.2.2) c74])] [cellsAt w81 g17 (0) [.int .i64 aProps, .slice A1 (List.length aAccept) c2, .slice A5 (List.length aGuard) c6, .slice A9 (List.length aNodes) c10], cellsAt w81 g22 (0) [.int .u8 s.1, .int .u8 s.2], cellsAt w81 g76 (0) [.bool r58.1.1, .slice A67 (List.length r58.1.2.1) c68, .slice A70 (List.length r58.1.2.2.1) c71, .slice A73 (List.length r58.1.2.2.2) c74]] E (by kernel_rfl) (by kernel_rfl) ⟨(H.box 4 rfl).sub 0 _ rfl, (H.box 5 rfl).sub 0 _ rfl, (H.box 9 rfl).sub 0 _ rfl⟩ ?_
 clear E; intro a E
 obtain ⟨r83, h84, hP⟩ := bind_inv hP
 obtain ⟨Fa85, Hc86, hb87⟩ := H.call [] [(0, false), (1, false), (2, false), (6, false), (7, false), (8, false)] rfl rfl trivial
 refine e_call E rfl rfl Try.func15 rfl rfl rfl (strat_Check_calls A1 c2 A5 c6 A9 c10 A67 c68 A70 c71 A73 c74 aProps aAccept aGuard aNodes (s.1, s.2) r58.1.1 r58.1.2.1 r58.1.2.2.1 r58.1.2.2.2 hk3 hk7 hk11 (H.rcap 6 rfl) (H.rcap 7 rfl) (H.rcap 8 rfl) Hc86 h84) ?_
 rintro v88 w89 a ⟨rfl, HR90⟩ E_
 replace E := E_ _ rfl; clear E_
 obtain ⟨H_, hc91⟩ := hb87 _ _ HR90 rfl
 replace H := H_; clear H_; try dsimp only [setn, addE, goneL] at H
 refine vn tbok 5 [] [(10, .bool r83.1), (11, .int .i64 r83.2)] [] E (by kernel_rfl) (by kernel_rfl) trivial ?_
 clear E; intro a E
 refine wpList_nil ?_
 refine th_n ?_
 refine wp_seq ?_
 refine wp_seq ?_
 refine wp_region_lit ?_
 refine vn tbok 1 [.agg #[.int .i64 aProps, .slice A1 (List.length aAccept) c2, .slice A5 (List.length aGuard) c6, .slice A9 (List.length aNodes) c10]] [(40, .agg #[.int .i64 aProps, .slice A1 (List.length aAccept) c2, .slice A5 (List.length aGuard) c6, .slice A9 (List.length aNodes) c10])] [cellsAt w89 g17 (0) [.int .i64 aProps, .slice A1 (List.length aAccept) c2, .slice A5 (List.length aGuard) c6, .slice A9 (List.length aNodes) c10]] E (by kernel_rfl) (by kernel_rfl) ((H.box 4 rfl).sub 0 _ rfl) ?_
 clear E; intro a E
 obtain ⟨r92, h93, hP⟩ := bind_inv hP
 obtain ⟨Fa94, Hc95, hb96⟩ := H.call [] [(0, false), (1, false), (2, false)] rfl rfl trivial
 refine e_call E rfl rfl Try.func26 rfl rfl rfl (law19_Real_calls A1 c2 A5 c6 A9 c10 aProps aAccept aGuard aNodes hk3 hk7 hk11 Hc95 h93) ?_
 rintro v97 w98 a ⟨rfl, HR99⟩ E_
 replace E := E_ _ rfl; clear E_
 obtain ⟨H_, hc100⟩ := hb96 _ _ HR99 rfl
 replace H := H_; clear H_; try dsimp only [setn, addE, goneL] at H
 refine vn tbok 2 [] [(43, .bool (!r92))] [] E (by kernel_rfl) (by kernel_rfl) trivial ?_
 clear E; intro a E
 refine E.cases (t := 43) rfl (fun hb_ E_ => ?_) (fun hb_ E_ => ?_)
 ·
  replace E := E_; clear E_
  have h101 : ¬ (r92 = true) := (ne_true_of_eq_false (not_t hb_))
  clear hb_; replace hP := ite_f h101 hP
  refine vn tbok 20 [] [(63, .bool true)] [] E (by kernel_rfl) (by kernel_rfl) trivial ?_
  clear E; intro a E
  refine wpList_nil ?_
  refine th_n ?_
  refine c_true E rfl ?_
  refine wp_seq ?_
  refine wp_region_lit ?_
  refine vn tbok 1 [] [(6, .bool false)] [] E (by kernel_rfl) (by kernel_rfl) trivial ?_
  clear E; intro a E
  refine wpList_nil ?_
  refine th_n ?_
  refine wp_ret ?_
  refine th_ret ?_
  obtain rfl := Option.some.inj hP
  refine ret1 E rfl rfl ?_
  exact ⟨_, rfl, rfl, H.sel [] rfl⟩
 replace E := E_; clear E_
 have h102 : r92 = true := (not_f hb_)
 clear hb_; replace hP := ite_t h102 hP
 refine vn tbok 4 [] [(47, .bool ((r58.2 : Int) != 0))] [] E (by kernel_rfl) (by kernel_rfl) trivial ?_
 clear E; intro a E
 refine E.cases (t := 47) rfl (fun hb_ E_ => ?_) (fun hb_ E_ => ?_)
 ·
  replace E := E_; clear E_
  have h103 : ¬ ((r58.2 : Int) = 0) := bne_iff_ne.1 hb_
  clear hb_; replace hP := ite_f h103 hP
  refine vn tbok 16 [] [(63, .bool true)] [] E (by kernel_rfl) (by kernel_rfl) trivial ?_
  clear E; intro a E
  refine wpList_nil ?_
  refine th_n ?_
  refine c_true E rfl ?_
  refine wp_seq ?_
  refine wp_region_lit ?_
  refine vr tbok 1 [] [(6, .bool false)] [] E (by kernel_rfl) trivial ?_
  clear E; intro a E
  refine wpList_nil ?_
  refine th_n ?_
  refine wp_ret ?_
  refine th_ret ?_
  obtain rfl := Option.some.inj hP
  refine ret1 E rfl rfl ?_
  exact ⟨_, rfl, rfl, H.sel [] rfl⟩
 replace E := E_; clear E_
 have h104 : (r58.2 : Int) = 0 := bne_eq_false_iff_eq.1 hb_
 clear hb_; replace hP := ite_t h104 hP
 refine vn tbok 4 [] [(51, .bool ((r83.2 : Int) != 0))] [] E (by kernel_rfl) (by kernel_rfl) trivial ?_
 clear E; intro a E
 refine E.cases (t := 51) rfl (fun hb_ E_ => ?_) (fun hb_ E_ => ?_)
 ·
  replace E := E_; clear E_
  have h105 : ¬ ((r83.2 : Int) = 0) := bne_iff_ne.1 hb_
  clear hb_; replace hP := ite_f h105 hP
  refine vn tbok 12 [] [(63, .bool true)] [] E (by kernel_rfl) (by kernel_rfl) trivial ?_
  clear E; intro a E
  refine wpList_nil ?_
  refine th_n ?_
  refine c_true E rfl ?_
  refine wp_seq ?_
  refine wp_region_lit ?_
  refine vr tbok 1 [] [(6, .bool false)] [] E (by kernel_rfl) trivial ?_
  clear E; intro a E
  refine wpList_nil ?_
  refine th_n ?_
  refine wp_ret ?_
  refine th_ret ?_
  obtain rfl := Option.some.inj hP
  refine ret1 E rfl rfl ?_
  exact ⟨_, rfl, rfl, H.sel [] rfl⟩
 replace E := E_; clear E_
 have h106 : (r83.2 : Int) = 0 := bne_eq_false_iff_eq.1 hb_
 clear hb_; replace hP := ite_t h106 hP
 refine vn tbok 4 [] [(55, .bool (!r83.1))] [] E (by kernel_rfl) (by kernel_rfl) trivial ?_
 clear E; intro a E
 refine E.cases (t := 55) rfl (fun hb_ E_ => ?_) (fun hb_ E_ => ?_)
 ·
  replace E := E_; clear E_
  have h107 : ¬ (r83.1 = true) := (ne_true_of_eq_false (not_t hb_))
  clear hb_; replace hP := ite_f h107 hP
  refine vn tbok 8 [] [(63, .bool true)] [] E (by kernel_rfl) (by kernel_rfl) trivial ?_
  clear E; intro a E
  refine wpList_nil ?_
  refine th_n ?_
  refine c_true E rfl ?_
  refine wp_seq ?_
  refine wp_region_lit ?_
  refine vr tbok 1 [] [(6, .bool false)] [] E (by kernel_rfl) trivial ?_
  clear E; intro a E
  refine wpList_nil ?_
  refine th_n ?_
  refine wp_ret ?_
  refine th_ret ?_
  obtain rfl := Option.some.inj hP
  refine ret1 E rfl rfl ?_
  exact ⟨_, rfl, rfl, H.sel [] rfl⟩
 replace E := E_; clear E_
 have h108 : r83.1 = true := (not_f hb_)
 clear hb_; replace hP := ite_t h108 hP
 refine vn tbok 8 [.slice A67 (List.length r58.1.2.1) c68, .slice A1 (List.length aAccept) c2] [(63, .bool (((((List.length r58.1.2.1) : Nat) : Int) : Int) != (((List.length aAccept) : Nat) : Int)))] [World.cell? w98 ⟨g76, 1, none⟩ = some (.slice A67 (List.length r58.1.2.1) c68), World.cell? w98 ⟨g17, 1, none⟩ = some (.slice A1 (List.length aAccept) c2)] E (by kernel_rfl) (by kernel_rfl) ⟨(H.box 9 rfl).cell (j := 1) rfl, (H.box 4 rfl).cell (j := 1) rfl⟩ ?_
 clear E; intro a E
 refine wpList_nil ?_
 refine th_n ?_
 refine E.cases (t := 63) rfl (fun hb_ E_ => ?_) (fun hb_ E_ => ?_)
 ·
  replace E := E_; clear E_
  have h109 : ¬ (((((List.length r58.1.2.1) : Nat) : Int) : Int) = (((List.length aAccept) : Nat) : Int)) := bne_iff_ne.1 hb_
  clear hb_; replace hP := ite_f h109 hP
  refine c_true E rfl ?_
  refine wp_seq ?_
  refine wp_region_lit ?_
  refine vr tbok 1 [] [(6, .bool false)] [] E (by kernel_rfl) trivial ?_
  clear E; intro a E
  refine wpList_nil ?_
  refine th_n ?_
  refine wp_ret ?_
  refine th_ret ?_
  obtain rfl := Option.some.inj hP
  refine ret1 E rfl rfl ?_
  exact ⟨_, rfl, rfl, H.sel [] rfl⟩
 replace E := E_; clear E_
 have h110 : ((((List.length r58.1.2.1) : Nat) : Int) : Int) = (((List.length aAccept) : Nat) : Int) := bne_eq_false_iff_eq.1 hb_
 clear hb_; replace hP := ite_t h110 hP
 refine c_false E rfl ?_
 refine wp_skip ?_
 refine th_n ?_
 refine wp_seq ?_
 refine wp_region_lit ?_
 refine vn tbok 3 [.int .u8 s.2] [(12, .int .u8 s.2)] [World.cell? w98 ⟨g22, 1, none⟩ = some (.int .u8 s.2)] E (by kernel_rfl) (by kernel_rfl) ((H.box 5 rfl).cell (j := 1) rfl) ?_
 clear E; intro a E
 refine wpList_nil ?_
 refine th_n ?_
 refine wp_seq ?_
 refine wp_seq ?_
 refine wp_region_lit ?_
 refine vn tbok 2 [.bool r58.1.1] [(67, .bool r58.1.1)] [World.cell? w98 ⟨g76, 0, none⟩ = some (.bool r58.1.1)] E (by kernel_rfl) (by kernel_rfl) ((H.box 9 rfl).cell (j := 0) rfl) ?_
 clear E; intro a E
 refine wpList_nil ?_
 refine th_n ?_
 obtain ⟨x114, h115, hK116⟩ := bind_inv hP
 clear hP
 refine meet_cut (fun a w118 => ∃ (x117 : Int), Fr a 224 [(2, .slice A13 (List.length ll) c14), (3, .pointer (some ⟨g17, 0, none⟩)), (4, .pointer (some ⟨g22, 0, none⟩)), (7, .bool r27), (8, .pointer (some ⟨g76, 0, none⟩)), (12, .int .u8 x117)] ∧ Hp S Fa w0 w118 [.ro false (cInt .i64) A13 ll, .ro false cBool A1 aAccept, .ro false (cInt .i64) A5 aGuard, .ro false cNode A9 aNodes, .box g17 26 [.int .i64 aProps, .slice A1 (List.length aAccept) c2, .slice A5 (List.length aGuard) c6, .slice A9 (List.length aNodes) c10], .box g22 29 [.int .u8 s.1, .int .u8 s.2], .row true (cInt .i64) 3 A67 c68 r58.1.2.1, .row true (cSl (cInt .u8)) 31 A70 c71 r58.1.2.2.1, .row true (cInt .u8) 27 A73 c74 r58.1.2.2.2, .box g76 33 [.bool r58.1.1, .slice A67 (List.length r58.1.2.1) c68, .slice A70 (List.length r58.1.2.2.1) c71, .slice A73 (List.length r58.1.2.2.2) c74]] ∧ x114 = x117) ?_ ?_
 ·
  have hP := h115; clear h115; rw [law24_StratWins_j0] at hP
  refine E.cases (t := 67) rfl (fun hb_ E_ => ?_) (fun hb_ E_ => ?_)
  ·
   replace E := E_; clear E_
   have h119 : r58.1.1 = true := hb_
   clear hb_; replace hP := ite_t h119 hP
   refine c_true E rfl ?_
   refine wp_region_lit ?_
   refine vn tbok 3 [.int .u8 s.1] [(12, .int .u8 s.1)] [World.cell? w98 ⟨g22, 0, none⟩ = some (.int .u8 s.1)] E (by kernel_rfl) (by kernel_rfl) ((H.box 5 rfl).cell (j := 0) rfl) ?_
   clear E; intro a E
   refine wpList_nil ?_
   have hx_ := Option.some.inj hP
   exact .inl ⟨rfl, s.1, E.pick _ ⟨rfl, rfl, rfl, rfl, rfl, rfl, trivial⟩, H.sel [3, 0, 1, 2, 4, 5, 6, 7, 8, 9] rfl, hx_.symm⟩
  replace E := E_; clear E_
  have h120 : ¬ (r58.1.1 = true) := (ne_true_of_eq_false hb_)
  clear hb_; replace hP := ite_f h120 hP
  refine c_false E rfl ?_
  refine wp_skip ?_
  have hx_ := Option.some.inj hP
  exact .inl ⟨rfl, s.2, E.pick _ ⟨rfl, rfl, rfl, rfl, rfl, rfl, trivial⟩, H.sel [3, 0, 1, 2, 4, 5, 6, 7, 8, 9] rfl, hx_.symm⟩
 clear E H h115; rintro a w118 ⟨x117, E, H, hx_⟩
 subst hx_; have hP := hK116; clear hK116
 refine th_n ?_
 refine wp_seq ?_
 refine wp_region_lit ?_
 refine vn tbok 2 [] [(70, .int .u8 x114), (71, .slice A13 (List.length ll) c14)] [] E (by kernel_rfl) (by kernel_rfl) trivial ?_
 clear E; intro a E
 obtain ⟨r121, h122, hP⟩ := bind_inv hP
 obtain ⟨Fa123, Hc124, hb125⟩ := H.call [] [(0, false)] rfl rfl trivial
 refine e_call E rfl rfl Try.func27 rfl rfl rfl (law24_choices_calls A13 c14 x114 ll hk15 Hc124 h122) ?_
 rintro v126 w127 a ⟨A130, c131, rfl, HR128⟩ E_
 replace E := E_ _ rfl; clear E_
 obtain ⟨H_, hc129⟩ := hb125 _ _ HR128 rfl
 replace H := H_; clear H_; try dsimp only [setn, addE, goneL] at H
 refine vn tbok 1 [] [(13, .slice A130 (List.length r121) c131)] [] E (by kernel_rfl) (by kernel_rfl) trivial ?_
 clear E; intro a E
 refine wpList_nil ?_
 refine th_n ?_
 refine wp_seq ?_
 refine wp_region_lit ?_
 refine vn tbok 4 [.agg #[.int .i64 aProps, .slice A1 (List.length aAccept) c2, .slice A5 (List.length aGuard) c6, .slice A9 (List.length aNodes) c10], .agg #[.int .u8 s.1, .int .u8 s.2], .agg #[.bool r58.1.1, .slice A67 (List.length r58.1.2.1) c68, .slice A70 (List.length r58.1.2.2.1) c71, .slice A73 (List.length r58.1.2.2.2) c74]] [(74, .agg #[.int .i64 aProps, .slice A1 (List.length aAccept) c2, .slice A5 (List.length aGuard) c6, .slice A9 (List.length aNodes) c10]), (75, .agg #[.int .u8 s.1, .int .u8 s.2]), (76, .agg #[.bool r58.1.1, .slice A67 (List.length r58.1.2.1) c68, .slice A70 (List.length r58.1.2.2.1) c71, .slice A73 (List.length r58.1.2.2.2) c74]), (77, .slice A130 (List.length r121) c131)] [cellsAt w127 g17 (0) [.int .i64 aProps, .slice A1 (List.length aAccept) c2, .slice A5 (List.length aGuard) c6, .slice A9 (List.length aNodes) c10], cellsAt w127 g22 (0) [.int .u8 s.1, .int .u8 s.2], cellsAt w127 g76 (0) [.bool r58.1.1, .slice A67 (List.length r58.1.2.1) c68, .slice A70 (List.length r58.1.2.2.1) c71, .slice A73 (List.length r58.1.2.2.2) c74]] E (by kernel_rfl) (by kernel_rfl) ⟨(H.box 4 rfl).sub 0 _ rfl, (H.box 5 rfl).sub 0 _ rfl, (H.box 9 rfl).sub 0 _ rfl⟩ ?_
 clear E; intro a E
 obtain ⟨r133, h134, hP⟩ := bind_inv hP
 obtain ⟨Fa135, Hc136, hb137⟩ := H.call [] [(1, false), (2, false), (3, false), (6, false), (7, false), (8, false), (10, false)] rfl rfl trivial
 refine e_call E rfl rfl Try.func17 rfl rfl rfl (strat_Play_calls A1 c2 A5 c6 A9 c10 A67 c68 A70 c71 A73 c74 A130 c131 aProps aAccept aGuard aNodes (s.1, s.2) r58.1.1 r58.1.2.1 r58.1.2.2.1 r58.1.2.2.2 r121 hk3 hk7 hk11 (H.rcap 6 rfl) (H.rcap 7 rfl) (H.rcap 8 rfl) (H.rcap 10 rfl) Hc136 h134) ?_
 rintro v138 w139 a ⟨A142, c143, rfl, HR140⟩ E_
 replace E := E_ _ rfl; clear E_
 obtain ⟨H_, hc141⟩ := hb137 _ _ HR140 rfl
 replace H := H_; clear H_; try dsimp only [setn, addE, goneL] at H
 refine vn tbok 5 [] [(14, .slice A142 (List.length r133.1) c143), (15, .int .i64 r133.2)] [] E (by kernel_rfl) (by kernel_rfl) trivial ?_
 clear E; intro a E
 refine wpList_nil ?_
 refine th_n ?_
 refine wp_seq ?_
 refine wp_seq ?_
 refine wp_region_lit ?_
 refine vn tbok 3 [] [(83, .bool ((r133.2 : Int) != 0))] [] E (by kernel_rfl) (by kernel_rfl) trivial ?_
 clear E; intro a E
 refine E.cases (t := 83) rfl (fun hb_ E_ => ?_) (fun hb_ E_ => ?_)
 ·
  replace E := E_; clear E_
  have h145 : ¬ ((r133.2 : Int) = 0) := bne_iff_ne.1 hb_
  clear hb_; replace hP := ite_f h145 hP
  refine vn tbok 18 [] [(101, .bool true)] [] E (by kernel_rfl) (by kernel_rfl) trivial ?_
  clear E; intro a E
  refine wpList_nil ?_
  refine th_n ?_
  refine c_true E rfl ?_
  refine wp_seq ?_
  refine wp_region_lit ?_
  refine vn tbok 1 [] [(6, .bool false)] [] E (by kernel_rfl) (by kernel_rfl) trivial ?_
  clear E; intro a E
  refine wpList_nil ?_
  refine th_n ?_
  refine wp_ret ?_
  refine th_ret ?_
  obtain rfl := Option.some.inj hP
  refine ret1 E rfl rfl ?_
  exact ⟨_, rfl, rfl, H.sel [] rfl⟩
 replace E := E_; clear E_
 have h146 : (r133.2 : Int) = 0 := bne_eq_false_iff_eq.1 hb_
 clear hb_; replace hP := ite_t h146 hP
 refine vn tbok 5 [] [(88, .bool (((((List.length r133.1) : Nat) : Int) : Int) == 0))] [] E (by kernel_rfl) (by kernel_rfl) trivial ?_
 clear E; intro a E
 refine E.cases (t := 88) rfl (fun hb_ E_ => ?_) (fun hb_ E_ => ?_)
 ·
  replace E := E_; clear E_
  have h147 : ((((List.length r133.1) : Nat) : Int) : Int) = 0 := eq_of_beq hb_
  clear hb_; replace hP := ite_t h147 hP
  refine vn tbok 13 [] [(101, .bool true)] [] E (by kernel_rfl) (by kernel_rfl) trivial ?_
  clear E; intro a E
  refine wpList_nil ?_
  refine th_n ?_
  refine c_true E rfl ?_
  refine wp_seq ?_
  refine wp_region_lit ?_
  refine vn tbok 1 [] [(6, .bool false)] [] E (by kernel_rfl) (by kernel_rfl) trivial ?_
  clear E; intro a E
  refine wpList_nil ?_
  refine th_n ?_
  refine wp_ret ?_
  refine th_ret ?_
  obtain rfl := Option.some.inj hP
  refine ret1 E rfl rfl ?_
  exact ⟨_, rfl, rfl, H.sel [] rfl⟩
 replace E := E_; clear E_
 have h148 : ¬ (((((List.length r133.1) : Nat) : Int) : Int) = 0) := ne_of_beq_false hb_
 clear hb_; replace hP := ite_f h148 hP
 obtain ⟨g149, hP⟩ := ask_inv hP
 obtain ⟨b150, e_b150⟩ := H.raddr 11 rfl (idx_pos g149)
 subst e_b150
 refine vn tbok 6 [.int .i64 (List.getD r133.1 (Int.toNat (0 : Int)) 0)] [(94, .bool (((List.getD r133.1 (Int.toNat (0 : Int)) 0) : Int) != 0))] [0 ≤ (0 : Int) ∧ (0 : Int) < (((List.length r133.1) : Nat) : Int), World.cell? w139 ⟨b150, 0 + (Int.toNat (0 : Int)) * 1, none⟩ = some (.int .i64 (List.getD r133.1 (Int.toNat (0 : Int)) 0))] E (by kernel_rfl) (by kernel_rfl) ⟨g149, Rds.at1 (H.rd 11 rds_row) 0 g149⟩ ?_
 clear E; intro a E
 refine E.cases (t := 94) rfl (fun hb_ E_ => ?_) (fun hb_ E_ => ?_)
 ·
  replace E := E_; clear E_
  have h152 : ¬ (((List.getD r133.1 (Int.toNat (0 : Int)) 0) : Int) = 0) := bne_iff_ne.1 hb_
  clear hb_; replace hP := ite_f h152 hP
  refine vn tbok 7 [] [(101, .bool true)] [] E (by kernel_rfl) (by kernel_rfl) trivial ?_
  clear E; intro a E
  refine wpList_nil ?_
  refine th_n ?_
  refine c_true E rfl ?_
  refine wp_seq ?_
  refine wp_region_lit ?_
  refine vn tbok 1 [] [(6, .bool false)] [] E (by kernel_rfl) (by kernel_rfl) trivial ?_
  clear E; intro a E
  refine wpList_nil ?_
  refine th_n ?_
  refine wp_ret ?_
  refine th_ret ?_
  obtain rfl := Option.some.inj hP
  refine ret1 E rfl rfl ?_
  exact ⟨_, rfl, rfl, H.sel [] rfl⟩
 replace E := E_; clear E_
 have h153 : ((List.getD r133.1 (Int.toNat (0 : Int)) 0) : Int) = 0 := bne_eq_false_iff_eq.1 hb_
 clear hb_; replace hP := ite_t h153 hP
 obtain ⟨g154, hP⟩ := ask_inv hP
 refine vn tbok 7 [.int .i64 ((((List.length r121) : Nat) : Int) + 1)] [(101, .bool (decide (((((List.length r121) : Nat) : Int) + 1) < (((List.length r133.1) : Nat) : Int))))] [IntKind.i64.wrap ((((List.length r121) : Nat) : Int) + 1) = (((List.length r121) : Nat) : Int) + 1] E (by kernel_rfl) (by kernel_rfl) (wrap_in g154) ?_
 clear E; intro a E
 refine wpList_nil ?_
 refine th_n ?_
 refine E.cases (t := 101) rfl (fun hb_ E_ => ?_) (fun hb_ E_ => ?_)
 ·
  replace E := E_; clear E_
  have h155 : ((((List.length r121) : Nat) : Int) + 1) < (((List.length r133.1) : Nat) : Int) := of_decide_eq_true hb_
  clear hb_; replace hP := ite_t h155 hP
  refine c_true E rfl ?_
  refine wp_seq ?_
  refine wp_region_lit ?_
  refine vn tbok 1 [] [(6, .bool false)] [] E (by kernel_rfl) (by kernel_rfl) trivial ?_
  clear E; intro a E
  refine wpList_nil ?_
  refine th_n ?_
  refine wp_ret ?_
  refine th_ret ?_
  obtain rfl := Option.some.inj hP
  refine ret1 E rfl rfl ?_
  exact ⟨_, rfl, rfl, H.sel [] rfl⟩
 replace E := E_; clear E_
 have h156 : ¬ (((((List.length r121) : Nat) : Int) + 1) < (((List.length r133.1) : Nat) : Int)) := of_decide_eq_false hb_
 clear hb_; replace hP := ite_f h156 hP
 refine c_false E rfl ?_
 refine wp_skip ?_
 refine th_n ?_
 refine wp_seq ?_
 refine wp_seq ?_
 refine wp_region_lit ?_
 refine vn tbok 1 [] [(16, .int .i64 0)] [] E (by kernel_rfl) (by kernel_rfl) trivial ?_
 clear E; intro a E
 refine wpList_nil ?_
 refine th_n ?_
 refine wp_block ?_
 obtain ⟨x295, hL296, hK297⟩ := bind_inv hP
 clear hP
 refine loop_cut (fun i_ a w_ => (i_ = 0 ∧ ∃ (x300 : Unit), Fr a 224 [(3, .pointer (some ⟨g17, 0, none⟩)), (7, .bool r27), (8, .pointer (some ⟨g76, 0, none⟩)), (13, .slice A130 (List.length r121) c131), (14, .slice (some ⟨b150, 0, none⟩) (List.length r133.1) c143)] ∧ Hp S Fa w0 w_ [.ro false cBool A1 aAccept, .ro false (cInt .i64) A5 aGuard, .ro false cNode A9 aNodes, .box g17 26 [.int .i64 aProps, .slice A1 (List.length aAccept) c2, .slice A5 (List.length aGuard) c6, .slice A9 (List.length aNodes) c10], .row true (cInt .i64) 3 A67 c68 r58.1.2.1, .row true (cSl (cInt .u8)) 31 A70 c71 r58.1.2.2.1, .row true (cInt .u8) 27 A73 c74 r58.1.2.2.2, .box g76 33 [.bool r58.1.1, .slice A67 (List.length r58.1.2.1) c68, .slice A70 (List.length r58.1.2.2.1) c71, .slice A73 (List.length r58.1.2.2.2) c74], .row true (cInt .u8) 27 A130 c131 r121, .row true (cInt .i64) 3 (some ⟨b150, 0, none⟩) c143 r133.1] ∧ x295 = Sum.inl x300)) ?_ ?_
 ·
  refine loopV (fun m299 a w298 => ∃ (i210 : Int), Fr a 224 [(3, .pointer (some ⟨g17, 0, none⟩)), (7, .bool r27), (8, .pointer (some ⟨g76, 0, none⟩)), (13, .slice A130 (List.length r121) c131), (14, .slice (some ⟨b150, 0, none⟩) (List.length r133.1) c143), (16, .int .i64 i210)] ∧ Hp S Fa w0 w298 [.ro false cBool A1 aAccept, .ro false (cInt .i64) A5 aGuard, .ro false cNode A9 aNodes, .box g17 26 [.int .i64 aProps, .slice A1 (List.length aAccept) c2, .slice A5 (List.length aGuard) c6, .slice A9 (List.length aNodes) c10], .row true (cInt .i64) 3 A67 c68 r58.1.2.1, .row true (cSl (cInt .u8)) 31 A70 c71 r58.1.2.2.1, .row true (cInt .u8) 27 A73 c74 r58.1.2.2.2, .box g76 33 [.bool r58.1.1, .slice A67 (List.length r58.1.2.1) c68, .slice A70 (List.length r58.1.2.2.1) c71, .slice A73 (List.length r58.1.2.2.2) c74], .row true (cInt .u8) 27 A130 c131 r121, .row true (cInt .i64) 3 (some ⟨b150, 0, none⟩) c143 r133.1] ∧ law24_StratWins_l1 N aAccept r58 r133 m299 i210 = some x295) N ?_ ?_
  ·
   exact ⟨0, E.pick _ ⟨rfl, rfl, rfl, rfl, rfl, rfl, trivial⟩, H.sel [1, 2, 3, 4, 6, 7, 8, 9, 10, 11] rfl, hL296⟩
  clear E H hL296; intro m299 a w298 hI_
  obtain ⟨i210, E, H, hP⟩ := hI_
  obtain ⟨m294, rfl⟩ : ∃ q_, m299 = q_ + 1 := by cases m299 with | zero => rw [law24_StratWins_l1] at hP; cases hP | succ q_ => exact ⟨q_, rfl⟩
  rw [law24_StratWins_l1] at hP
  refine wp_seq ?_
  refine wp_seq ?_
  refine wp_region_lit ?_
  refine vn tbok 4 [] [(105, .bool (decide (i210 < (((List.length r133.1) : Nat) : Int))))] [] E (by kernel_rfl) (by kernel_rfl) trivial ?_
  clear E; intro a E
  refine wpList_nil ?_
  refine th_n ?_
  refine E.cases (t := 105) rfl (fun hb_ E_ => ?_) (fun hb_ E_ => ?_)
  ·
   replace E := E_; clear E_
   have h301 : i210 < (((List.length r133.1) : Nat) : Int) := of_decide_eq_true hb_
   clear hb_; replace hP := ite_t h301 hP
   refine c_true E rfl ?_
   refine wp_skip ?_
   refine th_n ?_
   refine wp_seq ?_
   refine wp_block ?_
   refine wp_seq ?_
   refine wp_seq ?_
   obtain ⟨g302, hP⟩ := ask_inv hP
   by_cases h303 : (List.getD r133.1 (Int.toNat i210) 0) < 0
   ·
    replace hP := ite_t h303 hP
    have HR307 := H
    refine dr_start (S := fun w_ => Chg (atL []) w298 w_) (by kernel_rfl) ?_
    intro w304 hc305
    have HS306 : Chg (atL []) w298 w304 := hc305.mono (fun _ _ h_ => h_.elim)
    replace H := H.ext hc305
    refine dn tbok (by kernel_rfl) [0, 1, 2, 3, 4, 5] [.int .i64 (List.getD r133.1 (Int.toNat i210) 0)] [(113, .bool (decide ((List.getD r133.1 (Int.toNat i210) 0) < 0)))] (fun w_ => [0 ≤ i210 ∧ i210 < (((List.length r133.1) : Nat) : Int), World.cell? w_ ⟨b150, 0 + (Int.toNat i210) * 1, none⟩ = some (.int .i64 (List.getD r133.1 (Int.toNat i210) 0))]) 9 E (fun _ _ => by kernel_rfl) (by kernel_rfl) (fun w_ hS_ => ⟨g302, Rds.at1 (HR307.rdk [] hS_ 9 rds_row rfl) 0 g302⟩) (by kernel_rfl) HS306 ?_
    clear E; intro a E
    replace E := E.same (t := 113) (u := .bool true) rfl (congrArg Value.bool (decide_eq_true h303))
    refine dn tbok (by kernel_rfl) [6, 7, 8, 9, 10, 11, 12, 13, 14] [] [(122, .bool true)] (fun w_ => []) 0 E (fun _ _ => by kernel_rfl) (by kernel_rfl) (fun w_ hS_ => trivial) (by kernel_rfl) HS306 ?_
    clear E; intro a E
    refine dr_done (by kernel_rfl) ?_
    clear HS306 HR307
    refine th_n ?_
    refine c_true E rfl ?_
    refine wp_seq ?_
    refine wp_region_lit ?_
    refine vn tbok 1 [] [(6, .bool false)] [] E (by kernel_rfl) (by kernel_rfl) trivial ?_
    clear E; intro a E
    refine wpList_nil ?_
    refine th_n ?_
    refine wp_ret ?_
    refine th_ret ?_
    refine bl_ret ?_
    refine th_ret ?_
    refine th_ret ?_
    refine .inr ⟨rfl, ?_⟩
    refine bl_ret ?_
    refine th_ret ?_
    have hx_ := Option.some.inj hP; subst hx_
    have hP : some (false) = some r := hK297
    obtain rfl := Option.some.inj hP
    refine ret1 E rfl rfl ?_
    exact ⟨_, rfl, rfl, H.sel [] rfl⟩
   replace hP := ite_f h303 hP
   have HR311 := H
   refine dr_start (S := fun w_ => Chg (atL []) w298 w_) (by kernel_rfl) ?_
   intro w308 hc309
   have HS310 : Chg (atL []) w298 w308 := hc309.mono (fun _ _ h_ => h_.elim)
   replace H := H.ext hc309
   refine dn tbok (by kernel_rfl) [0, 1, 2, 3, 4, 5] [.int .i64 (List.getD r133.1 (Int.toNat i210) 0)] [(113, .bool (decide ((List.getD r133.1 (Int.toNat i210) 0) < 0)))] (fun w_ => [0 ≤ i210 ∧ i210 < (((List.length r133.1) : Nat) : Int), World.cell? w_ ⟨b150, 0 + (Int.toNat i210) * 1, none⟩ = some (.int .i64 (List.getD r133.1 (Int.toNat i210) 0))]) 9 E (fun _ _ => by kernel_rfl) (by kernel_rfl) (fun w_ hS_ => ⟨g302, Rds.at1 (HR311.rdk [] hS_ 9 rds_row rfl) 0 g302⟩) (by kernel_rfl) HS310 ?_
   clear E; intro a E
   replace E := E.same (t := 113) (u := .bool false) rfl (congrArg Value.bool (decide_eq_false h303))
   refine dn tbok (by kernel_rfl) [6, 7, 8, 9, 10, 11, 12, 13, 14] [.int .i64 (List.getD r133.1 (Int.toNat i210) 0), .slice A1 (List.length aAccept) c2] [(122, .bool (decide ((((List.length aAccept) : Nat) : Int) ≤ (List.getD r133.1 (Int.toNat i210) 0))))] (fun w_ => [0 ≤ i210 ∧ i210 < (((List.length r133.1) : Nat) : Int), World.cell? w_ ⟨b150, 0 + (Int.toNat i210) * 1, none⟩ = some (.int .i64 (List.getD r133.1 (Int.toNat i210) 0)), World.cell? w_ ⟨g17, 1, none⟩ = some (.slice A1 (List.length aAccept) c2)]) 0 E (fun _ _ => by kernel_rfl) (by kernel_rfl) (fun w_ hS_ => ⟨g302, Rds.at1 (HR311.rdk [] hS_ 9 rds_row rfl) 0 g302, (HR311.boxk [] hS_ 3 rfl rfl).cell (j := 1) rfl⟩) (by kernel_rfl) HS310 ?_
   clear E; intro a E
   refine dr_done (by kernel_rfl) ?_
   clear HS310 HR311
   refine th_n ?_
   refine E.cases (t := 122) rfl (fun hb_ E_ => ?_) (fun hb_ E_ => ?_)
   ·
    replace E := E_; clear E_
    have h312 : (((List.length aAccept) : Nat) : Int) ≤ (List.getD r133.1 (Int.toNat i210) 0) := of_decide_eq_true hb_
    clear hb_; replace hP := ite_t h312 hP
    refine c_true E rfl ?_
    refine wp_seq ?_
    refine wp_region_lit ?_
    refine vn tbok 1 [] [(6, .bool false)] [] E (by kernel_rfl) (by kernel_rfl) trivial ?_
    clear E; intro a E
    refine wpList_nil ?_
    refine th_n ?_
    refine wp_ret ?_
    refine th_ret ?_
    refine bl_ret ?_
    refine th_ret ?_
    refine th_ret ?_
    refine .inr ⟨rfl, ?_⟩
    refine bl_ret ?_
    refine th_ret ?_
    have hx_ := Option.some.inj hP; subst hx_
    have hP : some (false) = some r := hK297
    obtain rfl := Option.some.inj hP
    refine ret1 E rfl rfl ?_
    exact ⟨_, rfl, rfl, H.sel [] rfl⟩
   replace E := E_; clear E_
   have h313 : ¬ ((((List.length aAccept) : Nat) : Int) ≤ (List.getD r133.1 (Int.toNat i210) 0)) := of_decide_eq_false hb_
   clear hb_; replace hP := ite_f h313 hP
   refine c_false E rfl ?_
   refine wp_skip ?_
   refine th_n ?_
   refine wp_seq ?_
   refine wp_seq ?_
   by_cases h314 : r58.1.1 = true
   ·
    replace hP := ite_t h314 hP
    have HR318 := H
    refine dr_start (S := fun w_ => Chg (atL []) w308 w_) (by kernel_rfl) ?_
    intro w315 hc316
    have HS317 : Chg (atL []) w308 w315 := hc316.mono (fun _ _ h_ => h_.elim)
    replace H := H.ext hc316
    refine dn tbok (by kernel_rfl) [0, 1, 2, 3] [.bool r58.1.1] [(126, .bool (!r58.1.1))] (fun w_ => [World.cell? w_ ⟨g76, 0, none⟩ = some (.bool r58.1.1)]) 20 E (fun _ _ => by kernel_rfl) (by kernel_rfl) (fun w_ hS_ => ((HR318.boxk [] hS_ 7 rfl rfl).cell (j := 0) rfl)) (by kernel_rfl) HS317 ?_
    clear E; intro a E
    replace E := E.same (t := 126) (u := .bool false) rfl (congrArg Value.bool (not_t' (h314)))
    refine dn tbok (by kernel_rfl) [4, 5, 6, 7, 8, 9, 10, 11, 12, 13, 14, 15, 16, 17, 18, 19, 20, 21, 22, 23] [] [(146, .bool false)] (fun w_ => []) 0 E (fun _ _ => by kernel_rfl) (by kernel_rfl) (fun w_ hS_ => trivial) (by kernel_rfl) HS317 ?_
    clear E; intro a E
    refine dr_done (by kernel_rfl) ?_
    clear HS317 HR318
    refine th_n ?_
    refine c_false E rfl ?_
    refine wp_skip ?_
    refine th_n ?_
    refine wp_seq ?_
    by_cases h319 : r58.1.1 = true
    ·
     replace hP := ite_t h319 hP
     by_cases h320 : 0 < i210
     ·
      replace hP := ite_t h320 hP
      obtain ⟨g321, hP⟩ := ask_inv hP
      obtain ⟨b322, e_b322⟩ := H.raddr 4 rfl (idx_pos g321)
      subst e_b322
      obtain ⟨g324, hP⟩ := ask_inv hP
      obtain ⟨g325, hP⟩ := ask_inv hP
      obtain ⟨g326, hP⟩ := ask_inv hP
      have HR330 := H
      refine dr_start (S := fun w_ => Chg (atL []) w315 w_) (by kernel_rfl) ?_
      intro w327 hc328
      have HS329 : Chg (atL []) w315 w327 := hc328.mono (fun _ _ h_ => h_.elim)
      replace H := H.ext hc328
      refine dn tbok (by kernel_rfl) [0, 1, 2] [.bool r58.1.1] [(149, .bool r58.1.1)] (fun w_ => [World.cell? w_ ⟨g76, 0, none⟩ = some (.bool r58.1.1)]) 23 E (fun _ _ => by kernel_rfl) (by kernel_rfl) (fun w_ hS_ => ((HR330.boxk [] hS_ 7 rfl rfl).cell (j := 0) rfl)) (by kernel_rfl) HS329 ?_
      clear E; intro a E
      replace E := E.same (t := 149) (u := .bool true) rfl (congrArg Value.bool h319)
      refine dn tbok (by kernel_rfl) [3, 4, 5, 6] [] [(153, .bool (decide (0 < i210)))] (fun w_ => []) 19 E (fun _ _ => by kernel_rfl) (by kernel_rfl) (fun w_ hS_ => trivial) (by kernel_rfl) HS329 ?_
      clear E; intro a E
      replace E := E.same (t := 153) (u := .bool true) rfl (congrArg Value.bool (decide_eq_true h320))
      refine dn tbok (by kernel_rfl) [7, 8, 9, 10, 11, 12, 13, 14, 15, 16, 17, 18, 19, 20, 21, 22, 23, 24, 25] [.slice (some ⟨b322, 0, none⟩) (List.length r58.1.2.1) c68, .int .i64 (List.getD r133.1 (Int.toNat i210) 0), .int .i64 (List.getD r58.1.2.1 (Int.toNat (List.getD r133.1 (Int.toNat i210) 0)) 0), .slice (some ⟨b322, 0, none⟩) (List.length r58.1.2.1) c68, .int .i64 (i210 - 1), .int .i64 (List.getD r133.1 (Int.toNat (i210 - 1)) 0), .int .i64 (List.getD r58.1.2.1 (Int.toNat (List.getD r133.1 (Int.toNat (i210 - 1)) 0)) 0)] [(172, .bool (decide ((List.getD r58.1.2.1 (Int.toNat (List.getD r133.1 (Int.toNat (i210 - 1)) 0)) 0) ≤ (List.getD r58.1.2.1 (Int.toNat (List.getD r133.1 (Int.toNat i210) 0)) 0))))] (fun w_ => [World.cell? w_ ⟨g76, 1, none⟩ = some (.slice (some ⟨b322, 0, none⟩) (List.length r58.1.2.1) c68), 0 ≤ i210 ∧ i210 < (((List.length r133.1) : Nat) : Int), World.cell? w_ ⟨b150, 0 + (Int.toNat i210) * 1, none⟩ = some (.int .i64 (List.getD r133.1 (Int.toNat i210) 0)), 0 ≤ (List.getD r133.1 (Int.toNat i210) 0) ∧ (List.getD r133.1 (Int.toNat i210) 0) < (((List.length r58.1.2.1) : Nat) : Int), World.cell? w_ ⟨b322, 0 + (Int.toNat (List.getD r133.1 (Int.toNat i210) 0)) * 1, none⟩ = some (.int .i64 (List.getD r58.1.2.1 (Int.toNat (List.getD r133.1 (Int.toNat i210) 0)) 0)), World.cell? w_ ⟨g76, 1, none⟩ = some (.slice (some ⟨b322, 0, none⟩) (List.length r58.1.2.1) c68), IntKind.i64.wrap (i210 - 1) = i210 - 1, 0 ≤ (i210 - 1) ∧ (i210 - 1) < (((List.length r133.1) : Nat) : Int), World.cell? w_ ⟨b150, 0 + (Int.toNat (i210 - 1)) * 1, none⟩ = some (.int .i64 (List.getD r133.1 (Int.toNat (i210 - 1)) 0)), 0 ≤ (List.getD r133.1 (Int.toNat (i210 - 1)) 0) ∧ (List.getD r133.1 (Int.toNat (i210 - 1)) 0) < (((List.length r58.1.2.1) : Nat) : Int), World.cell? w_ ⟨b322, 0 + (Int.toNat (List.getD r133.1 (Int.toNat (i210 - 1)) 0)) * 1, none⟩ = some (.int .i64 (List.getD r58.1.2.1 (Int.toNat (List.getD r133.1 (Int.toNat (i210 - 1)) 0)) 0))]) 0 E (fun _ _ => by kernel_rfl) (by kernel_rfl) (fun w_ hS_ => ⟨(HR330.boxk [] hS_ 7 rfl rfl).cell (j := 1) rfl, g302, Rds.at1 (HR330.rdk [] hS_ 9 rds_row rfl) 0 g302, g321, Rds.at1 (HR330.rdk [] hS_ 4 rds_row rfl) 0 g321, (HR330.boxk [] hS_ 7 rfl rfl).cell (j := 1) rfl, wrap_in g324, g325, Rds.at1 (HR330.rdk [] hS_ 9 rds_row rfl) 0 g325, g326, Rds.at1 (HR330.rdk [] hS_ 4 rds_row rfl) 0 g326⟩) (by kernel_rfl) HS329 ?_
      clear E; intro a E
      refine dr_done (by kernel_rfl) ?_
      clear HS329 HR330
      refine th_n ?_
      refine E.cases (t := 172) rfl (fun hb_ E_ => ?_) (fun hb_ E_ => ?_)
      ·
       replace E := E_; clear E_
       have h331 : (List.getD r58.1.2.1 (Int.toNat (List.getD r133.1 (Int.toNat (i210 - 1)) 0)) 0) ≤ (List.getD r58.1.2.1 (Int.toNat (List.getD r133.1 (Int.toNat i210) 0)) 0) := of_decide_eq_true hb_
       clear hb_; replace hP := ite_t h331 hP
       refine c_true E rfl ?_
       refine wp_seq ?_
       refine wp_region_lit ?_
       refine vn tbok 1 [] [(6, .bool false)] [] E (by kernel_rfl) (by kernel_rfl) trivial ?_
       clear E; intro a E
       refine wpList_nil ?_
       refine th_n ?_
       refine wp_ret ?_
       refine bl_ret ?_
       refine th_ret ?_
       refine th_ret ?_
       refine .inr ⟨rfl, ?_⟩
       refine bl_ret ?_
       refine th_ret ?_
       have hx_ := Option.some.inj hP; subst hx_
       have hP : some (false) = some r := hK297
       obtain rfl := Option.some.inj hP
       refine ret1 E rfl rfl ?_
       exact ⟨_, rfl, rfl, H.sel [] rfl⟩
      replace E := E_; clear E_
      have h332 : ¬ ((List.getD r58.1.2.1 (Int.toNat (List.getD r133.1 (Int.toNat (i210 - 1)) 0)) 0) ≤ (List.getD r58.1.2.1 (Int.toNat (List.getD r133.1 (Int.toNat i210) 0)) 0)) := of_decide_eq_false hb_
      clear hb_; replace hP := ite_f h332 hP
      refine c_false E rfl ?_
      refine wp_skip ?_
      refine bl_n ?_
      refine th_n ?_
      refine wp_region_lit ?_
      obtain ⟨g333, hP⟩ := ask_inv hP
      refine vn tbok 3 [.int .i64 (i210 + 1)] [(16, .int .i64 (i210 + 1))] [IntKind.i64.wrap (i210 + 1) = i210 + 1] E (by kernel_rfl) (by kernel_rfl) (wrap_in g333) ?_
      clear E; intro a E
      refine wpList_nil ?_
      exact th_n ⟨m294, Nat.lt_succ_self _, i210 + 1, E.pick _ ⟨rfl, rfl, rfl, rfl, rfl, rfl, trivial⟩, H.sel [0, 1, 2, 3, 4, 5, 6, 7, 8, 9] rfl, hP⟩
     replace hP := ite_f h320 hP
     have HR337 := H
     refine dr_start (S := fun w_ => Chg (atL []) w315 w_) (by kernel_rfl) ?_
     intro w334 hc335
     have HS336 : Chg (atL []) w315 w334 := hc335.mono (fun _ _ h_ => h_.elim)
     replace H := H.ext hc335
     refine dn tbok (by kernel_rfl) [0, 1, 2] [.bool r58.1.1] [(149, .bool r58.1.1)] (fun w_ => [World.cell? w_ ⟨g76, 0, none⟩ = some (.bool r58.1.1)]) 23 E (fun _ _ => by kernel_rfl) (by kernel_rfl) (fun w_ hS_ => ((HR337.boxk [] hS_ 7 rfl rfl).cell (j := 0) rfl)) (by kernel_rfl) HS336 ?_
     clear E; intro a E
     replace E := E.same (t := 149) (u := .bool true) rfl (congrArg Value.bool h319)
     refine dn tbok (by kernel_rfl) [3, 4, 5, 6] [] [(153, .bool (decide (0 < i210)))] (fun w_ => []) 19 E (fun _ _ => by kernel_rfl) (by kernel_rfl) (fun w_ hS_ => trivial) (by kernel_rfl) HS336 ?_
     clear E; intro a E
     replace E := E.same (t := 153) (u := .bool false) rfl (congrArg Value.bool (decide_eq_false h320))
     refine dn tbok (by kernel_rfl) [7, 8, 9, 10, 11, 12, 13, 14, 15, 16, 17, 18, 19, 20, 21, 22, 23, 24, 25] [] [(172, .bool false)] (fun w_ => []) 0 E (fun _ _ => by kernel_rfl) (by kernel_rfl) (fun w_ hS_ => trivial) (by kernel_rfl) HS336 ?_
     clear E; intro a E
     refine dr_done (by kernel_rfl) ?_
     clear HS336 HR337
     refine th_n ?_
     refine c_false E rfl ?_
     refine wp_skip ?_
     refine bl_n ?_
     refine th_n ?_
     refine wp_region_lit ?_
     obtain ⟨g338, hP⟩ := ask_inv hP
     refine vn tbok 3 [.int .i64 (i210 + 1)] [(16, .int .i64 (i210 + 1))] [IntKind.i64.wrap (i210 + 1) = i210 + 1] E (by kernel_rfl) (by kernel_rfl) (wrap_in g338) ?_
     clear E; intro a E
     refine wpList_nil ?_
     exact th_n ⟨m294, Nat.lt_succ_self _, i210 + 1, E.pick _ ⟨rfl, rfl, rfl, rfl, rfl, rfl, trivial⟩, H.sel [0, 1, 2, 3, 4, 5, 6, 7, 8, 9] rfl, hP⟩
    replace hP := ite_f h319 hP
    have HR342 := H
    refine dr_start (S := fun w_ => Chg (atL []) w315 w_) (by kernel_rfl) ?_
    intro w339 hc340
    have HS341 : Chg (atL []) w315 w339 := hc340.mono (fun _ _ h_ => h_.elim)
    replace H := H.ext hc340
    refine dn tbok (by kernel_rfl) [0, 1, 2] [.bool r58.1.1] [(149, .bool r58.1.1)] (fun w_ => [World.cell? w_ ⟨g76, 0, none⟩ = some (.bool r58.1.1)]) 23 E (fun _ _ => by kernel_rfl) (by kernel_rfl) (fun w_ hS_ => ((HR342.boxk [] hS_ 7 rfl rfl).cell (j := 0) rfl)) (by kernel_rfl) HS341 ?_
    clear E; intro a E
    replace E := E.same (t := 149) (u := .bool false) rfl (congrArg Value.bool (eq_false_of_ne_true h319))
    refine dn tbok (by kernel_rfl) [3, 4, 5, 6, 7, 8, 9, 10, 11, 12, 13, 14, 15, 16, 17, 18, 19, 20, 21, 22, 23, 24, 25] [] [(172, .bool false)] (fun w_ => []) 0 E (fun _ _ => by kernel_rfl) (by kernel_rfl) (fun w_ hS_ => trivial) (by kernel_rfl) HS341 ?_
    clear E; intro a E
    refine dr_done (by kernel_rfl) ?_
    clear HS341 HR342
    refine th_n ?_
    refine c_false E rfl ?_
    refine wp_skip ?_
    refine bl_n ?_
    refine th_n ?_
    refine wp_region_lit ?_
    obtain ⟨g343, hP⟩ := ask_inv hP
    refine vn tbok 3 [.int .i64 (i210 + 1)] [(16, .int .i64 (i210 + 1))] [IntKind.i64.wrap (i210 + 1) = i210 + 1] E (by kernel_rfl) (by kernel_rfl) (wrap_in g343) ?_
    clear E; intro a E
    refine wpList_nil ?_
    exact th_n ⟨m294, Nat.lt_succ_self _, i210 + 1, E.pick _ ⟨rfl, rfl, rfl, rfl, rfl, rfl, trivial⟩, H.sel [0, 1, 2, 3, 4, 5, 6, 7, 8, 9] rfl, hP⟩
   replace hP := ite_f h314 hP
   obtain ⟨g344, hP⟩ := ask_inv hP
   obtain ⟨b345, o346, e_b345⟩ := (H.rd 0 rds_ro).addr (idx_pos g344)
   subst e_b345
   by_cases h347 : (List.getD aAccept (Int.toNat (List.getD r133.1 (Int.toNat i210) 0)) false) = true
   ·
    replace hP := ite_t h347 hP
    have HR351 := H
    refine dr_start (S := fun w_ => Chg (atL []) w308 w_) (by kernel_rfl) ?_
    intro w348 hc349
    have HS350 : Chg (atL []) w308 w348 := hc349.mono (fun _ _ h_ => h_.elim)
    replace H := H.ext hc349
    refine dn tbok (by kernel_rfl) [0, 1, 2, 3] [.bool r58.1.1] [(126, .bool (!r58.1.1))] (fun w_ => [World.cell? w_ ⟨g76, 0, none⟩ = some (.bool r58.1.1)]) 20 E (fun _ _ => by kernel_rfl) (by kernel_rfl) (fun w_ hS_ => ((HR351.boxk [] hS_ 7 rfl rfl).cell (j := 0) rfl)) (by kernel_rfl) HS350 ?_
    clear E; intro a E
    replace E := E.same (t := 126) (u := .bool true) rfl (congrArg Value.bool (not_f' ((eq_false_of_ne_true h314))))
    refine dn tbok (by kernel_rfl) [4, 5, 6, 7, 8, 9, 10, 11, 12] [.slice (some ⟨b345, o346, none⟩) (List.length aAccept) c2, .int .i64 (List.getD r133.1 (Int.toNat i210) 0), .bool (List.getD aAccept (Int.toNat (List.getD r133.1 (Int.toNat i210) 0)) false)] [(135, .bool (List.getD aAccept (Int.toNat (List.getD r133.1 (Int.toNat i210) 0)) false))] (fun w_ => [World.cell? w_ ⟨g17, 1, none⟩ = some (.slice (some ⟨b345, o346, none⟩) (List.length aAccept) c2), 0 ≤ i210 ∧ i210 < (((List.length r133.1) : Nat) : Int), World.cell? w_ ⟨b150, 0 + (Int.toNat i210) * 1, none⟩ = some (.int .i64 (List.getD r133.1 (Int.toNat i210) 0)), 0 ≤ (List.getD r133.1 (Int.toNat i210) 0) ∧ (List.getD r133.1 (Int.toNat i210) 0) < (((List.length aAccept) : Nat) : Int), World.cell? w_ ⟨b345, o346 + (Int.toNat (List.getD r133.1 (Int.toNat i210) 0)) * 1, none⟩ = some (.bool (List.getD aAccept (Int.toNat (List.getD r133.1 (Int.toNat i210) 0)) false))]) 11 E (fun _ _ => by kernel_rfl) (by kernel_rfl) (fun w_ hS_ => ⟨(HR351.boxk [] hS_ 3 rfl rfl).cell (j := 1) rfl, g302, Rds.at1 (HR351.rdk [] hS_ 9 rds_row rfl) 0 g302, g344, Rds.at1 (HR351.rdk [] hS_ 0 rds_ro rfl) false g344⟩) (by kernel_rfl) HS350 ?_
    clear E; intro a E
    replace E := E.same (t := 135) (u := .bool true) rfl (congrArg Value.bool h347)
    refine dn tbok (by kernel_rfl) [13, 14, 15, 16, 17, 18, 19, 20, 21, 22, 23] [] [(146, .bool true)] (fun w_ => []) 0 E (fun _ _ => by kernel_rfl) (by kernel_rfl) (fun w_ hS_ => trivial) (by kernel_rfl) HS350 ?_
    clear E; intro a E
    refine dr_done (by kernel_rfl) ?_
    clear HS350 HR351
    refine th_n ?_
    refine c_true E rfl ?_
    refine wp_seq ?_
    refine wp_region_lit ?_
    refine vn tbok 1 [] [(6, .bool false)] [] E (by kernel_rfl) (by kernel_rfl) trivial ?_
    clear E; intro a E
    refine wpList_nil ?_
    refine th_n ?_
    refine wp_ret ?_
    refine th_ret ?_
    refine bl_ret ?_
    refine th_ret ?_
    refine th_ret ?_
    refine .inr ⟨rfl, ?_⟩
    refine bl_ret ?_
    refine th_ret ?_
    have hx_ := Option.some.inj hP; subst hx_
    have hP : some (false) = some r := hK297
    obtain rfl := Option.some.inj hP
    refine ret1 E rfl rfl ?_
    exact ⟨_, rfl, rfl, H.sel [] rfl⟩
   replace hP := ite_f h347 hP
   obtain ⟨g352, hP⟩ := ask_inv hP
   obtain ⟨b353, e_b353⟩ := H.raddr 4 rfl (idx_pos g352)
   subst e_b353
   have HR358 := H
   refine dr_start (S := fun w_ => Chg (atL []) w308 w_) (by kernel_rfl) ?_
   intro w355 hc356
   have HS357 : Chg (atL []) w308 w355 := hc356.mono (fun _ _ h_ => h_.elim)
   replace H := H.ext hc356
   refine dn tbok (by kernel_rfl) [0, 1, 2, 3] [.bool r58.1.1] [(126, .bool (!r58.1.1))] (fun w_ => [World.cell? w_ ⟨g76, 0, none⟩ = some (.bool r58.1.1)]) 20 E (fun _ _ => by kernel_rfl) (by kernel_rfl) (fun w_ hS_ => ((HR358.boxk [] hS_ 7 rfl rfl).cell (j := 0) rfl)) (by kernel_rfl) HS357 ?_
   clear E; intro a E
   replace E := E.same (t := 126) (u := .bool true) rfl (congrArg Value.bool (not_f' ((eq_false_of_ne_true h314))))
   refine dn tbok (by kernel_rfl) [4, 5, 6, 7, 8, 9, 10, 11, 12] [.slice (some ⟨b345, o346, none⟩) (List.length aAccept) c2, .int .i64 (List.getD r133.1 (Int.toNat i210) 0), .bool (List.getD aAccept (Int.toNat (List.getD r133.1 (Int.toNat i210) 0)) false)] [(135, .bool (List.getD aAccept (Int.toNat (List.getD r133.1 (Int.toNat i210) 0)) false))] (fun w_ => [World.cell? w_ ⟨g17, 1, none⟩ = some (.slice (some ⟨b345, o346, none⟩) (List.length aAccept) c2), 0 ≤ i210 ∧ i210 < (((List.length r133.1) : Nat) : Int), World.cell? w_ ⟨b150, 0 + (Int.toNat i210) * 1, none⟩ = some (.int .i64 (List.getD r133.1 (Int.toNat i210) 0)), 0 ≤ (List.getD r133.1 (Int.toNat i210) 0) ∧ (List.getD r133.1 (Int.toNat i210) 0) < (((List.length aAccept) : Nat) : Int), World.cell? w_ ⟨b345, o346 + (Int.toNat (List.getD r133.1 (Int.toNat i210) 0)) * 1, none⟩ = some (.bool (List.getD aAccept (Int.toNat (List.getD r133.1 (Int.toNat i210) 0)) false))]) 11 E (fun _ _ => by kernel_rfl) (by kernel_rfl) (fun w_ hS_ => ⟨(HR358.boxk [] hS_ 3 rfl rfl).cell (j := 1) rfl, g302, Rds.at1 (HR358.rdk [] hS_ 9 rds_row rfl) 0 g302, g344, Rds.at1 (HR358.rdk [] hS_ 0 rds_ro rfl) false g344⟩) (by kernel_rfl) HS357 ?_
   clear E; intro a E
   replace E := E.same (t := 135) (u := .bool false) rfl (congrArg Value.bool (eq_false_of_ne_true h347))
   refine dn tbok (by kernel_rfl) [13, 14, 15, 16, 17, 18, 19, 20, 21, 22, 23] [.slice (some ⟨b353, 0, none⟩) (List.length r58.1.2.1) c68, .int .i64 (List.getD r133.1 (Int.toNat i210) 0), .int .i64 (List.getD r58.1.2.1 (Int.toNat (List.getD r133.1 (Int.toNat i210) 0)) 0)] [(146, .bool (((List.getD r58.1.2.1 (Int.toNat (List.getD r133.1 (Int.toNat i210) 0)) 0) : Int) != (-1)))] (fun w_ => [World.cell? w_ ⟨g76, 1, none⟩ = some (.slice (some ⟨b353, 0, none⟩) (List.length r58.1.2.1) c68), 0 ≤ i210 ∧ i210 < (((List.length r133.1) : Nat) : Int), World.cell? w_ ⟨b150, 0 + (Int.toNat i210) * 1, none⟩ = some (.int .i64 (List.getD r133.1 (Int.toNat i210) 0)), 0 ≤ (List.getD r133.1 (Int.toNat i210) 0) ∧ (List.getD r133.1 (Int.toNat i210) 0) < (((List.length r58.1.2.1) : Nat) : Int), World.cell? w_ ⟨b353, 0 + (Int.toNat (List.getD r133.1 (Int.toNat i210) 0)) * 1, none⟩ = some (.int .i64 (List.getD r58.1.2.1 (Int.toNat (List.getD r133.1 (Int.toNat i210) 0)) 0))]) 0 E (fun _ _ => by kernel_rfl) (by kernel_rfl) (fun w_ hS_ => ⟨(HR358.boxk [] hS_ 7 rfl rfl).cell (j := 1) rfl, g302, Rds.at1 (HR358.rdk [] hS_ 9 rds_row rfl) 0 g302, g352, Rds.at1 (HR358.rdk [] hS_ 4 rds_row rfl) 0 g352⟩) (by kernel_rfl) HS357 ?_
   clear E; intro a E
   refine dr_done (by kernel_rfl) ?_
   clear HS357 HR358
   refine th_n ?_
   refine E.cases (t := 146) rfl (fun hb_ E_ => ?_) (fun hb_ E_ => ?_)
   ·
    replace E := E_; clear E_
    have h359 : ¬ (((List.getD r58.1.2.1 (Int.toNat (List.getD r133.1 (Int.toNat i210) 0)) 0) : Int) = -1) := bne_iff_ne.1 hb_
    clear hb_; replace hP := ite_f h359 hP
    refine c_true E rfl ?_
    refine wp_seq ?_
    refine wp_region_lit ?_
    refine vn tbok 1 [] [(6, .bool false)] [] E (by kernel_rfl) (by kernel_rfl) trivial ?_
    clear E; intro a E
    refine wpList_nil ?_
    refine th_n ?_
    refine wp_ret ?_
    refine th_ret ?_
    refine bl_ret ?_
    refine th_ret ?_
    refine th_ret ?_
    refine .inr ⟨rfl, ?_⟩
    refine bl_ret ?_
    refine th_ret ?_
    have hx_ := Option.some.inj hP; subst hx_
    have hP : some (false) = some r := hK297
    obtain rfl := Option.some.inj hP
    refine ret1 E rfl rfl ?_
    exact ⟨_, rfl, rfl, H.sel [] rfl⟩
   replace E := E_; clear E_
   have h360 : ((List.getD r58.1.2.1 (Int.toNat (List.getD r133.1 (Int.toNat i210) 0)) 0) : Int) = -1 := bne_eq_false_iff_eq.1 hb_
   clear hb_; replace hP := ite_t h360 hP
   refine c_false E rfl ?_
   refine wp_skip ?_
   refine th_n ?_
   refine wp_seq ?_
   by_cases h361 : r58.1.1 = true
   ·
    replace hP := ite_t h361 hP
    by_cases h362 : 0 < i210
    ·
     replace hP := ite_t h362 hP
     obtain ⟨g363, hP⟩ := ask_inv hP
     obtain ⟨g364, hP⟩ := ask_inv hP
     obtain ⟨g365, hP⟩ := ask_inv hP
     have HR369 := H
     refine dr_start (S := fun w_ => Chg (atL []) w355 w_) (by kernel_rfl) ?_
     intro w366 hc367
     have HS368 : Chg (atL []) w355 w366 := hc367.mono (fun _ _ h_ => h_.elim)
     replace H := H.ext hc367
     refine dn tbok (by kernel_rfl) [0, 1, 2] [.bool r58.1.1] [(149, .bool r58.1.1)] (fun w_ => [World.cell? w_ ⟨g76, 0, none⟩ = some (.bool r58.1.1)]) 23 E (fun _ _ => by kernel_rfl) (by kernel_rfl) (fun w_ hS_ => ((HR369.boxk [] hS_ 7 rfl rfl).cell (j := 0) rfl)) (by kernel_rfl) HS368 ?_
     clear E; intro a E
     replace E := E.same (t := 149) (u := .bool true) rfl (congrArg Value.bool h361)
     refine dn tbok (by kernel_rfl) [3, 4, 5, 6] [] [(153, .bool (decide (0 < i210)))] (fun w_ => []) 19 E (fun _ _ => by kernel_rfl) (by kernel_rfl) (fun w_ hS_ => trivial) (by kernel_rfl) HS368 ?_
     clear E; intro a E
     replace E := E.same (t := 153) (u := .bool true) rfl (congrArg Value.bool (decide_eq_true h362))
     refine dn tbok (by kernel_rfl) [7, 8, 9, 10, 11, 12, 13, 14, 15, 16, 17, 18, 19, 20, 21, 22, 23, 24, 25] [.slice (some ⟨b353, 0, none⟩) (List.length r58.1.2.1) c68, .int .i64 (List.getD r133.1 (Int.toNat i210) 0), .int .i64 (List.getD r58.1.2.1 (Int.toNat (List.getD r133.1 (Int.toNat i210) 0)) 0), .slice (some ⟨b353, 0, none⟩) (List.length r58.1.2.1) c68, .int .i64 (i210 - 1), .int .i64 (List.getD r133.1 (Int.toNat (i210 - 1)) 0), .int .i64 (List.getD r58.1.2.1 (Int.toNat (List.getD r133.1 (Int.toNat (i210 - 1)) 0)) 0)] [(172, .bool (decide ((List.getD r58.1.2.1 (Int.toNat (List.getD r133.1 (Int.toNat (i210 - 1)) 0)) 0) ≤ (List.getD r58.1.2.1 (Int.toNat (List.getD r133.1 (Int.toNat i210) 0)) 0))))] (fun w_ => [World.cell? w_ ⟨g76, 1, none⟩ = some (.slice (some ⟨b353, 0, none⟩) (List.length r58.1.2.1) c68), 0 ≤ i210 ∧ i210 < (((List.length r133.1) : Nat) : Int), World.cell? w_ ⟨b150, 0 + (Int.toNat i210) * 1, none⟩ = some (.int .i64 (List.getD r133.1 (Int.toNat i210) 0)), 0 ≤ (List.getD r133.1 (Int.toNat i210) 0) ∧ (List.getD r133.1 (Int.toNat i210) 0) < (((List.length r58.1.2.1) : Nat) : Int), World.cell? w_ ⟨b353, 0 + (Int.toNat (List.getD r133.1 (Int.toNat i210) 0)) * 1, none⟩ = some (.int .i64 (List.getD r58.1.2.1 (Int.toNat (List.getD r133.1 (Int.toNat i210) 0)) 0)), World.cell? w_ ⟨g76, 1, none⟩ = some (.slice (some ⟨b353, 0, none⟩) (List.length r58.1.2.1) c68), IntKind.i64.wrap (i210 - 1) = i210 - 1, 0 ≤ (i210 - 1) ∧ (i210 - 1) < (((List.length r133.1) : Nat) : Int), World.cell? w_ ⟨b150, 0 + (Int.toNat (i210 - 1)) * 1, none⟩ = some (.int .i64 (List.getD r133.1 (Int.toNat (i210 - 1)) 0)), 0 ≤ (List.getD r133.1 (Int.toNat (i210 - 1)) 0) ∧ (List.getD r133.1 (Int.toNat (i210 - 1)) 0) < (((List.length r58.1.2.1) : Nat) : Int), World.cell? w_ ⟨b353, 0 + (Int.toNat (List.getD r133.1 (Int.toNat (i210 - 1)) 0)) * 1, none⟩ = some (.int .i64 (List.getD r58.1.2.1 (Int.toNat (List.getD r133.1 (Int.toNat (i210 - 1)) 0)) 0))]) 0 E (fun _ _ => by kernel_rfl) (by kernel_rfl) (fun w_ hS_ => ⟨(HR369.boxk [] hS_ 7 rfl rfl).cell (j := 1) rfl, g302, Rds.at1 (HR369.rdk [] hS_ 9 rds_row rfl) 0 g302, g352, Rds.at1 (HR369.rdk [] hS_ 4 rds_row rfl) 0 g352, (HR369.boxk [] hS_ 7 rfl rfl).cell (j := 1) rfl, wrap_in g363, g364, Rds.at1 (HR369.rdk [] hS_ 9 rds_row rfl) 0 g364, g365, Rds.at1 (HR369.rdk [] hS_ 4 rds_row rfl) 0 g365⟩) (by kernel_rfl) HS368 ?_
     clear E; intro a E
     refine dr_done (by kernel_rfl) ?_
     clear HS368 HR369
     refine th_n ?_
     refine E.cases (t := 172) rfl (fun hb_ E_ => ?_) (fun hb_ E_ => ?_)
     ·
      replace E := E_; clear E_
      have h370 : (List.getD r58.1.2.1 (Int.toNat (List.getD r133.1 (Int.toNat (i210 - 1)) 0)) 0) ≤ (List.getD r58.1.2.1 (Int.toNat (List.getD r133.1 (Int.toNat i210) 0)) 0) := of_decide_eq_true hb_
      clear hb_; replace hP := ite_t h370 hP
      refine c_true E rfl ?_
      refine wp_seq ?_
      refine wp_region_lit ?_
      refine vn tbok 1 [] [(6, .bool false)] [] E (by kernel_rfl) (by kernel_rfl) trivial ?_
      clear E; intro a E
      refine wpList_nil ?_
      refine th_n ?_
      refine wp_ret ?_
      refine bl_ret ?_
      refine th_ret ?_
      refine th_ret ?_
      refine .inr ⟨rfl, ?_⟩
      refine bl_ret ?_
      refine th_ret ?_
      have hx_ := Option.some.inj hP; subst hx_
      have hP : some (false) = some r := hK297
      obtain rfl := Option.some.inj hP
      refine ret1 E rfl rfl ?_
      exact ⟨_, rfl, rfl, H.sel [] rfl⟩
     replace E := E_; clear E_
     have h371 : ¬ ((List.getD r58.1.2.1 (Int.toNat (List.getD r133.1 (Int.toNat (i210 - 1)) 0)) 0) ≤ (List.getD r58.1.2.1 (Int.toNat (List.getD r133.1 (Int.toNat i210) 0)) 0)) := of_decide_eq_false hb_
     clear hb_; replace hP := ite_f h371 hP
     refine c_false E rfl ?_
     refine wp_skip ?_
     refine bl_n ?_
     refine th_n ?_
     refine wp_region_lit ?_
     obtain ⟨g372, hP⟩ := ask_inv hP
     refine vn tbok 3 [.int .i64 (i210 + 1)] [(16, .int .i64 (i210 + 1))] [IntKind.i64.wrap (i210 + 1) = i210 + 1] E (by kernel_rfl) (by kernel_rfl) (wrap_in g372) ?_
     clear E; intro a E
     refine wpList_nil ?_
     exact th_n ⟨m294, Nat.lt_succ_self _, i210 + 1, E.pick _ ⟨rfl, rfl, rfl, rfl, rfl, rfl, trivial⟩, H.sel [0, 1, 2, 3, 4, 5, 6, 7, 8, 9] rfl, hP⟩
    replace hP := ite_f h362 hP
    have HR376 := H
    refine dr_start (S := fun w_ => Chg (atL []) w355 w_) (by kernel_rfl) ?_
    intro w373 hc374
    have HS375 : Chg (atL []) w355 w373 := hc374.mono (fun _ _ h_ => h_.elim)
    replace H := H.ext hc374
    refine dn tbok (by kernel_rfl) [0, 1, 2] [.bool r58.1.1] [(149, .bool r58.1.1)] (fun w_ => [World.cell? w_ ⟨g76, 0, none⟩ = some (.bool r58.1.1)]) 23 E (fun _ _ => by kernel_rfl) (by kernel_rfl) (fun w_ hS_ => ((HR376.boxk [] hS_ 7 rfl rfl).cell (j := 0) rfl)) (by kernel_rfl) HS375 ?_
    clear E; intro a E
    replace E := E.same (t := 149) (u := .bool true) rfl (congrArg Value.bool h361)
    refine dn tbok (by kernel_rfl) [3, 4, 5, 6] [] [(153, .bool (decide (0 < i210)))] (fun w_ => []) 19 E (fun _ _ => by kernel_rfl) (by kernel_rfl) (fun w_ hS_ => trivial) (by kernel_rfl) HS375 ?_
    clear E; intro a E
    replace E := E.same (t := 153) (u := .bool false) rfl (congrArg Value.bool (decide_eq_false h362))
    refine dn tbok (by kernel_rfl) [7, 8, 9, 10, 11, 12, 13, 14, 15, 16, 17, 18, 19, 20, 21, 22, 23, 24, 25] [] [(172, .bool false)] (fun w_ => []) 0 E (fun _ _ => by kernel_rfl) (by kernel_rfl) (fun w_ hS_ => trivial) (by kernel_rfl) HS375 ?_
    clear E; intro a E
    refine dr_done (by kernel_rfl) ?_
    clear HS375 HR376
    refine th_n ?_
    refine c_false E rfl ?_
    refine wp_skip ?_
    refine bl_n ?_
    refine th_n ?_
    refine wp_region_lit ?_
    obtain ⟨g377, hP⟩ := ask_inv hP
    refine vn tbok 3 [.int .i64 (i210 + 1)] [(16, .int .i64 (i210 + 1))] [IntKind.i64.wrap (i210 + 1) = i210 + 1] E (by kernel_rfl) (by kernel_rfl) (wrap_in g377) ?_
    clear E; intro a E
    refine wpList_nil ?_
    exact th_n ⟨m294, Nat.lt_succ_self _, i210 + 1, E.pick _ ⟨rfl, rfl, rfl, rfl, rfl, rfl, trivial⟩, H.sel [0, 1, 2, 3, 4, 5, 6, 7, 8, 9] rfl, hP⟩
   replace hP := ite_f h361 hP
   have HR381 := H
   refine dr_start (S := fun w_ => Chg (atL []) w355 w_) (by kernel_rfl) ?_
   intro w378 hc379
   have HS380 : Chg (atL []) w355 w378 := hc379.mono (fun _ _ h_ => h_.elim)
   replace H := H.ext hc379
   refine dn tbok (by kernel_rfl) [0, 1, 2] [.bool r58.1.1] [(149, .bool r58.1.1)] (fun w_ => [World.cell? w_ ⟨g76, 0, none⟩ = some (.bool r58.1.1)]) 23 E (fun _ _ => by kernel_rfl) (by kernel_rfl) (fun w_ hS_ => ((HR381.boxk [] hS_ 7 rfl rfl).cell (j := 0) rfl)) (by kernel_rfl) HS380 ?_
   clear E; intro a E
   replace E := E.same (t := 149) (u := .bool false) rfl (congrArg Value.bool (eq_false_of_ne_true h361))
   refine dn tbok (by kernel_rfl) [3, 4, 5, 6, 7, 8, 9, 10, 11, 12, 13, 14, 15, 16, 17, 18, 19, 20, 21, 22, 23, 24, 25] [] [(172, .bool false)] (fun w_ => []) 0 E (fun _ _ => by kernel_rfl) (by kernel_rfl) (fun w_ hS_ => trivial) (by kernel_rfl) HS380 ?_
   clear E; intro a E
   refine dr_done (by kernel_rfl) ?_
   clear HS380 HR381
   refine th_n ?_
   refine c_false E rfl ?_
   refine wp_skip ?_
   refine bl_n ?_
   refine th_n ?_
   refine wp_region_lit ?_
   obtain ⟨g382, hP⟩ := ask_inv hP
   refine vn tbok 3 [.int .i64 (i210 + 1)] [(16, .int .i64 (i210 + 1))] [IntKind.i64.wrap (i210 + 1) = i210 + 1] E (by kernel_rfl) (by kernel_rfl) (wrap_in g382) ?_
   clear E; intro a E
   refine wpList_nil ?_
   exact th_n ⟨m294, Nat.lt_succ_self _, i210 + 1, E.pick _ ⟨rfl, rfl, rfl, rfl, rfl, rfl, trivial⟩, H.sel [0, 1, 2, 3, 4, 5, 6, 7, 8, 9] rfl, hP⟩
  replace E := E_; clear E_
  have h383 : ¬ (i210 < (((List.length r133.1) : Nat) : Int)) := of_decide_eq_false hb_
  clear hb_; replace hP := ite_f h383 hP
  refine c_false E rfl ?_
  refine wp_exit ?_
  refine th_exit ?_
  have hx_ := Option.some.inj hP
  refine th_exit (.inl ⟨0, rfl, ?_⟩)
  exact ⟨rfl, (), E.pick _ ⟨rfl, rfl, rfl, rfl, rfl, trivial⟩, H.sel [0, 1, 2, 3, 4, 5, 6, 7, 8, 9] rfl, hx_.symm⟩
 clear E H hL296; intro i_ a w298 hM_
 obtain ⟨rfl, x300, E, H, hx_⟩ := hM_
 subst hx_; have hP := elim_l hK297
 clear hK297
 refine bl_hit ?_
 refine th_n ?_
 refine wp_seq ?_
 refine wp_seq ?_
 refine wp_region_lit ?_
 refine vn tbok 3 [.bool r58.1.1] [(175, .bool (!r58.1.1))] [World.cell? w298 ⟨g76, 0, none⟩ = some (.bool r58.1.1)] E (by kernel_rfl) (by kernel_rfl) ((H.box 7 rfl).cell (j := 0) rfl) ?_
 clear E; intro a E
 refine wpList_nil ?_
 refine th_n ?_
 refine E.cases (t := 175) rfl (fun hb_ E_ => ?_) (fun hb_ E_ => ?_)
 ·
  replace E := E_; clear E_
  have h385 : ¬ (r58.1.1 = true) := (ne_true_of_eq_false (not_t hb_))
  clear hb_; replace hP := ite_f h385 hP
  refine c_true E rfl ?_
  refine wp_seq ?_
  obtain ⟨x389, h390, hK391⟩ := bind_inv hP
  clear hP
  refine meet_cut (fun a w393 => ∃ (x392 : Bool), Fr a 224 [(6, .bool x392)] ∧ Hp S Fa w0 w393 [] ∧ x389 = x392) ?_ ?_
  ·
   have hP := h390; clear h390; rw [law24_StratWins_j2] at hP
   refine wp_region_lit ?_
   refine vn tbok 2 [] [(177, .bool r27)] [] E (by kernel_rfl) (by kernel_rfl) trivial ?_
   clear E; intro a E
   refine E.cases (t := 177) rfl (fun hb_ E_ => ?_) (fun hb_ E_ => ?_)
   ·
    replace E := E_; clear E_
    have h394 : r27 = true := hb_
    clear hb_; replace hP := ite_t h394 hP
    refine vn tbok 8 [.int .i64 ((((List.length r121) : Nat) : Int) + 1)] [(6, .bool (((((List.length r133.1) : Nat) : Int) : Int) == ((((List.length r121) : Nat) : Int) + 1)))] [IntKind.i64.wrap ((((List.length r121) : Nat) : Int) + 1) = (((List.length r121) : Nat) : Int) + 1] E (by kernel_rfl) (by kernel_rfl) (wrap_in g154) ?_
    clear E; intro a E
    refine wpList_nil ?_
    have hx_ := Option.some.inj hP
    exact .inl ⟨rfl, ((((List.length r133.1) : Nat) : Int) : Int) == ((((List.length r121) : Nat) : Int) + 1), E.pick _ ⟨rfl, trivial⟩, H.sel [] rfl, hx_.symm⟩
   replace E := E_; clear E_
   have h395 : ¬ (r27 = true) := (ne_true_of_eq_false hb_)
   clear hb_; replace hP := ite_f h395 hP
   refine vn tbok 8 [] [(6, .bool false)] [] E (by kernel_rfl) (by kernel_rfl) trivial ?_
   clear E; intro a E
   refine wpList_nil ?_
   have hx_ := Option.some.inj hP
   exact .inl ⟨rfl, false, E.pick _ ⟨rfl, trivial⟩, H.sel [] rfl, hx_.symm⟩
  clear E H h390; rintro a w393 ⟨x392, E, H, hx_⟩
  subst hx_; have hP := hK391; clear hK391
  refine th_n ?_
  refine wp_ret ?_
  refine th_ret ?_
  obtain rfl := Option.some.inj hP
  refine ret1 E rfl rfl ?_
  exact ⟨_, rfl, rfl, H.sel [] rfl⟩
 replace E := E_; clear E_
 have h396 : r58.1.1 = true := (not_f hb_)
 clear hb_; replace hP := ite_t h396 hP
 refine c_false E rfl ?_
 refine wp_skip ?_
 refine th_n ?_
 refine wp_seq ?_
 by_cases h397 : r27 = true
 ·
  replace hP := ite_t h397 hP
  obtain ⟨g398, hP⟩ := ask_inv hP
  obtain ⟨b399, e_b399⟩ := H.raddr 4 rfl (idx_pos g398)
  subst e_b399
  by_cases h401 : 1 ≤ (List.getD r58.1.2.1 (Int.toNat (0 : Int)) 0)
  ·
   replace hP := ite_t h401 hP
   by_cases h402 : (List.getD r58.1.2.1 (Int.toNat (0 : Int)) 0) < (((List.length aAccept) : Nat) : Int)
   ·
    replace hP := ite_t h402 hP
    by_cases h403 : (((List.length r121) : Nat) : Int) < (List.getD r58.1.2.1 (Int.toNat (0 : Int)) 0)
    ·
     replace hP := ite_t h403 hP
     have HR407 := H
     refine dr_start (S := fun w_ => Chg (atL []) w298 w_) (by kernel_rfl) ?_
     intro w404 hc405
     have HS406 : Chg (atL []) w298 w404 := hc405.mono (fun _ _ h_ => h_.elim)
     replace H := H.ext hc405
     refine dn tbok (by kernel_rfl) [0, 1] [] [(186, .bool r27)] (fun w_ => []) 38 E (fun _ _ => by kernel_rfl) (by kernel_rfl) (fun w_ hS_ => trivial) (by kernel_rfl) HS406 ?_
     clear E; intro a E
     replace E := E.same (t := 186) (u := .bool true) rfl (congrArg Value.bool h397)
     refine dn tbok (by kernel_rfl) [2, 3, 4, 5, 6, 7, 8] [.slice (some ⟨b399, 0, none⟩) (List.length r58.1.2.1) c68, .int .i64 (List.getD r58.1.2.1 (Int.toNat (0 : Int)) 0)] [(193, .bool (decide (1 ≤ (List.getD r58.1.2.1 (Int.toNat (0 : Int)) 0))))] (fun w_ => [World.cell? w_ ⟨g76, 1, none⟩ = some (.slice (some ⟨b399, 0, none⟩) (List.length r58.1.2.1) c68), 0 ≤ (0 : Int) ∧ (0 : Int) < (((List.length r58.1.2.1) : Nat) : Int), World.cell? w_ ⟨b399, 0 + (Int.toNat (0 : Int)) * 1, none⟩ = some (.int .i64 (List.getD r58.1.2.1 (Int.toNat (0 : Int)) 0))]) 31 E (fun _ _ => by kernel_rfl) (by kernel_rfl) (fun w_ hS_ => ⟨(HR407.boxk [] hS_ 7 rfl rfl).cell (j := 1) rfl, g398, Rds.at1 (HR407.rdk [] hS_ 4 rds_row rfl) 0 g398⟩) (by kernel_rfl) HS406 ?_
     clear E; intro a E
     replace E := E.same (t := 193) (u := .bool true) rfl (congrArg Value.bool (decide_eq_true h401))
     refine dn tbok (by kernel_rfl) [9, 10, 11, 12, 13, 14, 15, 16, 17, 18] [.slice (some ⟨b399, 0, none⟩) (List.length r58.1.2.1) c68, .int .i64 (List.getD r58.1.2.1 (Int.toNat (0 : Int)) 0), .slice A1 (List.length aAccept) c2] [(203, .bool (decide ((List.getD r58.1.2.1 (Int.toNat (0 : Int)) 0) < (((List.length aAccept) : Nat) : Int))))] (fun w_ => [World.cell? w_ ⟨g76, 1, none⟩ = some (.slice (some ⟨b399, 0, none⟩) (List.length r58.1.2.1) c68), 0 ≤ (0 : Int) ∧ (0 : Int) < (((List.length r58.1.2.1) : Nat) : Int), World.cell? w_ ⟨b399, 0 + (Int.toNat (0 : Int)) * 1, none⟩ = some (.int .i64 (List.getD r58.1.2.1 (Int.toNat (0 : Int)) 0)), World.cell? w_ ⟨g17, 1, none⟩ = some (.slice A1 (List.length aAccept) c2)]) 21 E (fun _ _ => by kernel_rfl) (by kernel_rfl) (fun w_ hS_ => ⟨(HR407.boxk [] hS_ 7 rfl rfl).cell (j := 1) rfl, g398, Rds.at1 (HR407.rdk [] hS_ 4 rds_row rfl) 0 g398, (HR407.boxk [] hS_ 3 rfl rfl).cell (j := 1) rfl⟩) (by kernel_rfl) HS406 ?_
     clear E; intro a E
     replace E := E.same (t := 203) (u := .bool true) rfl (congrArg Value.bool (decide_eq_true h402))
     refine dn tbok (by kernel_rfl) [19, 20, 21, 22, 23, 24, 25, 26] [.slice (some ⟨b399, 0, none⟩) (List.length r58.1.2.1) c68, .int .i64 (List.getD r58.1.2.1 (Int.toNat (0 : Int)) 0)] [(211, .bool (decide ((((List.length r121) : Nat) : Int) < (List.getD r58.1.2.1 (Int.toNat (0 : Int)) 0))))] (fun w_ => [World.cell? w_ ⟨g76, 1, none⟩ = some (.slice (some ⟨b399, 0, none⟩) (List.length r58.1.2.1) c68), 0 ≤ (0 : Int) ∧ (0 : Int) < (((List.length r58.1.2.1) : Nat) : Int), World.cell? w_ ⟨b399, 0 + (Int.toNat (0 : Int)) * 1, none⟩ = some (.int .i64 (List.getD r58.1.2.1 (Int.toNat (0 : Int)) 0))]) 13 E (fun _ _ => by kernel_rfl) (by kernel_rfl) (fun w_ hS_ => ⟨(HR407.boxk [] hS_ 7 rfl rfl).cell (j := 1) rfl, g398, Rds.at1 (HR407.rdk [] hS_ 4 rds_row rfl) 0 g398⟩) (by kernel_rfl) HS406 ?_
     clear E; intro a E
     replace E := E.same (t := 211) (u := .bool true) rfl (congrArg Value.bool (decide_eq_true h403))
     refine dn tbok (by kernel_rfl) [27, 28, 29, 30, 31, 32, 33, 34, 35, 36, 37, 38, 39] [] [(6, .bool true)] (fun w_ => []) 0 E (fun _ _ => by kernel_rfl) (by kernel_rfl) (fun w_ hS_ => trivial) (by kernel_rfl) HS406 ?_
     clear E; intro a E
     refine dr_done (by kernel_rfl) ?_
     clear HS406 HR407
     refine th_n ?_
     refine wp_ret ?_
     obtain rfl := Option.some.inj hP
     refine ret1 E rfl rfl ?_
     exact ⟨_, rfl, rfl, H.sel [] rfl⟩
    replace hP := ite_f h403 hP
    obtain ⟨g408, hP⟩ := ask_inv hP
    obtain ⟨g409, hP⟩ := ask_inv hP
    obtain ⟨g410, hP⟩ := ask_inv hP
    obtain ⟨b411, o412, e_b411⟩ := (H.rd 0 rds_ro).addr (idx_pos g410)
    subst e_b411
    have HR416 := H
    refine dr_start (S := fun w_ => Chg (atL []) w298 w_) (by kernel_rfl) ?_
    intro w413 hc414
    have HS415 : Chg (atL []) w298 w413 := hc414.mono (fun _ _ h_ => h_.elim)
    replace H := H.ext hc414
    refine dn tbok (by kernel_rfl) [0, 1] [] [(186, .bool r27)] (fun w_ => []) 38 E (fun _ _ => by kernel_rfl) (by kernel_rfl) (fun w_ hS_ => trivial) (by kernel_rfl) HS415 ?_
    clear E; intro a E
    replace E := E.same (t := 186) (u := .bool true) rfl (congrArg Value.bool h397)
    refine dn tbok (by kernel_rfl) [2, 3, 4, 5, 6, 7, 8] [.slice (some ⟨b399, 0, none⟩) (List.length r58.1.2.1) c68, .int .i64 (List.getD r58.1.2.1 (Int.toNat (0 : Int)) 0)] [(193, .bool (decide (1 ≤ (List.getD r58.1.2.1 (Int.toNat (0 : Int)) 0))))] (fun w_ => [World.cell? w_ ⟨g76, 1, none⟩ = some (.slice (some ⟨b399, 0, none⟩) (List.length r58.1.2.1) c68), 0 ≤ (0 : Int) ∧ (0 : Int) < (((List.length r58.1.2.1) : Nat) : Int), World.cell? w_ ⟨b399, 0 + (Int.toNat (0 : Int)) * 1, none⟩ = some (.int .i64 (List.getD r58.1.2.1 (Int.toNat (0 : Int)) 0))]) 31 E (fun _ _ => by kernel_rfl) (by kernel_rfl) (fun w_ hS_ => ⟨(HR416.boxk [] hS_ 7 rfl rfl).cell (j := 1) rfl, g398, Rds.at1 (HR416.rdk [] hS_ 4 rds_row rfl) 0 g398⟩) (by kernel_rfl) HS415 ?_
    clear E; intro a E
    replace E := E.same (t := 193) (u := .bool true) rfl (congrArg Value.bool (decide_eq_true h401))
    refine dn tbok (by kernel_rfl) [9, 10, 11, 12, 13, 14, 15, 16, 17, 18] [.slice (some ⟨b399, 0, none⟩) (List.length r58.1.2.1) c68, .int .i64 (List.getD r58.1.2.1 (Int.toNat (0 : Int)) 0), .slice (some ⟨b411, o412, none⟩) (List.length aAccept) c2] [(203, .bool (decide ((List.getD r58.1.2.1 (Int.toNat (0 : Int)) 0) < (((List.length aAccept) : Nat) : Int))))] (fun w_ => [World.cell? w_ ⟨g76, 1, none⟩ = some (.slice (some ⟨b399, 0, none⟩) (List.length r58.1.2.1) c68), 0 ≤ (0 : Int) ∧ (0 : Int) < (((List.length r58.1.2.1) : Nat) : Int), World.cell? w_ ⟨b399, 0 + (Int.toNat (0 : Int)) * 1, none⟩ = some (.int .i64 (List.getD r58.1.2.1 (Int.toNat (0 : Int)) 0)), World.cell? w_ ⟨g17, 1, none⟩ = some (.slice (some ⟨b411, o412, none⟩) (List.length aAccept) c2)]) 21 E (fun _ _ => by kernel_rfl) (by kernel_rfl) (fun w_ hS_ => ⟨(HR416.boxk [] hS_ 7 rfl rfl).cell (j := 1) rfl, g398, Rds.at1 (HR416.rdk [] hS_ 4 rds_row rfl) 0 g398, (HR416.boxk [] hS_ 3 rfl rfl).cell (j := 1) rfl⟩) (by kernel_rfl) HS415 ?_
    clear E; intro a E
    replace E := E.same (t := 203) (u := .bool true) rfl (congrArg Value.bool (decide_eq_true h402))
    refine dn tbok (by kernel_rfl) [19, 20, 21, 22, 23, 24, 25, 26] [.slice (some ⟨b399, 0, none⟩) (List.length r58.1.2.1) c68, .int .i64 (List.getD r58.1.2.1 (Int.toNat (0 : Int)) 0)] [(211, .bool (decide ((((List.length r121) : Nat) : Int) < (List.getD r58.1.2.1 (Int.toNat (0 : Int)) 0))))] (fun w_ => [World.cell? w_ ⟨g76, 1, none⟩ = some (.slice (some ⟨b399, 0, none⟩) (List.length r58.1.2.1) c68), 0 ≤ (0 : Int) ∧ (0 : Int) < (((List.length r58.1.2.1) : Nat) : Int), World.cell? w_ ⟨b399, 0 + (Int.toNat (0 : Int)) * 1, none⟩ = some (.int .i64 (List.getD r58.1.2.1 (Int.toNat (0 : Int)) 0))]) 13 E (fun _ _ => by kernel_rfl) (by kernel_rfl) (fun w_ hS_ => ⟨(HR416.boxk [] hS_ 7 rfl rfl).cell (j := 1) rfl, g398, Rds.at1 (HR416.rdk [] hS_ 4 rds_row rfl) 0 g398⟩) (by kernel_rfl) HS415 ?_
    clear E; intro a E
    replace E := E.same (t := 211) (u := .bool false) rfl (congrArg Value.bool (decide_eq_false h403))
    refine dn tbok (by kernel_rfl) [27, 28, 29, 30, 31, 32, 33, 34, 35, 36, 37, 38, 39] [.slice (some ⟨b411, o412, none⟩) (List.length aAccept) c2, .int .i64 ((((List.length r133.1) : Nat) : Int) - 1), .int .i64 (List.getD r133.1 (Int.toNat ((((List.length r133.1) : Nat) : Int) - 1)) 0), .bool (List.getD aAccept (Int.toNat (List.getD r133.1 (Int.toNat ((((List.length r133.1) : Nat) : Int) - 1)) 0)) false)] [(6, .bool (List.getD aAccept (Int.toNat (List.getD r133.1 (Int.toNat ((((List.length r133.1) : Nat) : Int) - 1)) 0)) false))] (fun w_ => [World.cell? w_ ⟨g17, 1, none⟩ = some (.slice (some ⟨b411, o412, none⟩) (List.length aAccept) c2), IntKind.i64.wrap ((((List.length r133.1) : Nat) : Int) - 1) = (((List.length r133.1) : Nat) : Int) - 1, 0 ≤ ((((List.length r133.1) : Nat) : Int) - 1) ∧ ((((List.length r133.1) : Nat) : Int) - 1) < (((List.length r133.1) : Nat) : Int), World.cell? w_ ⟨b150, 0 + (Int.toNat ((((List.length r133.1) : Nat) : Int) - 1)) * 1, none⟩ = some (.int .i64 (List.getD r133.1 (Int.toNat ((((List.length r133.1) : Nat) : Int) - 1)) 0)), 0 ≤ (List.getD r133.1 (Int.toNat ((((List.length r133.1) : Nat) : Int) - 1)) 0) ∧ (List.getD r133.1 (Int.toNat ((((List.length r133.1) : Nat) : Int) - 1)) 0) < (((List.length aAccept) : Nat) : Int), World.cell? w_ ⟨b411, o412 + (Int.toNat (List.getD r133.1 (Int.toNat ((((List.length r133.1) : Nat) : Int) - 1)) 0)) * 1, none⟩ = some (.bool (List.getD aAccept (Int.toNat (List.getD r133.1 (Int.toNat ((((List.length r133.1) : Nat) : Int) - 1)) 0)) false))]) 0 E (fun _ _ => by kernel_rfl) (by kernel_rfl) (fun w_ hS_ => ⟨(HR416.boxk [] hS_ 3 rfl rfl).cell (j := 1) rfl, wrap_in g408, g409, Rds.at1 (HR416.rdk [] hS_ 9 rds_row rfl) 0 g409, g410, Rds.at1 (HR416.rdk [] hS_ 0 rds_ro rfl) false g410⟩) (by kernel_rfl) HS415 ?_
    clear E; intro a E
    refine dr_done (by kernel_rfl) ?_
    clear HS415 HR416
    refine th_n ?_
    refine wp_ret ?_
    obtain rfl := Option.some.inj hP
    refine ret1 E rfl rfl ?_
    exact ⟨_, rfl, rfl, H.sel [] rfl⟩
   replace hP := ite_f h402 hP
   have HR420 := H
   refine dr_start (S := fun w_ => Chg (atL []) w298 w_) (by kernel_rfl) ?_
   intro w417 hc418
   have HS419 : Chg (atL []) w298 w417 := hc418.mono (fun _ _ h_ => h_.elim)
   replace H := H.ext hc418
   refine dn tbok (by kernel_rfl) [0, 1] [] [(186, .bool r27)] (fun w_ => []) 38 E (fun _ _ => by kernel_rfl) (by kernel_rfl) (fun w_ hS_ => trivial) (by kernel_rfl) HS419 ?_
   clear E; intro a E
   replace E := E.same (t := 186) (u := .bool true) rfl (congrArg Value.bool h397)
   refine dn tbok (by kernel_rfl) [2, 3, 4, 5, 6, 7, 8] [.slice (some ⟨b399, 0, none⟩) (List.length r58.1.2.1) c68, .int .i64 (List.getD r58.1.2.1 (Int.toNat (0 : Int)) 0)] [(193, .bool (decide (1 ≤ (List.getD r58.1.2.1 (Int.toNat (0 : Int)) 0))))] (fun w_ => [World.cell? w_ ⟨g76, 1, none⟩ = some (.slice (some ⟨b399, 0, none⟩) (List.length r58.1.2.1) c68), 0 ≤ (0 : Int) ∧ (0 : Int) < (((List.length r58.1.2.1) : Nat) : Int), World.cell? w_ ⟨b399, 0 + (Int.toNat (0 : Int)) * 1, none⟩ = some (.int .i64 (List.getD r58.1.2.1 (Int.toNat (0 : Int)) 0))]) 31 E (fun _ _ => by kernel_rfl) (by kernel_rfl) (fun w_ hS_ => ⟨(HR420.boxk [] hS_ 7 rfl rfl).cell (j := 1) rfl, g398, Rds.at1 (HR420.rdk [] hS_ 4 rds_row rfl) 0 g398⟩) (by kernel_rfl) HS419 ?_
   clear E; intro a E
   replace E := E.same (t := 193) (u := .bool true) rfl (congrArg Value.bool (decide_eq_true h401))
   refine dn tbok (by kernel_rfl) [9, 10, 11, 12, 13, 14, 15, 16, 17, 18] [.slice (some ⟨b399, 0, none⟩) (List.length r58.1.2.1) c68, .int .i64 (List.getD r58.1.2.1 (Int.toNat (0 : Int)) 0), .slice A1 (List.length aAccept) c2] [(203, .bool (decide ((List.getD r58.1.2.1 (Int.toNat (0 : Int)) 0) < (((List.length aAccept) : Nat) : Int))))] (fun w_ => [World.cell? w_ ⟨g76, 1, none⟩ = some (.slice (some ⟨b399, 0, none⟩) (List.length r58.1.2.1) c68), 0 ≤ (0 : Int) ∧ (0 : Int) < (((List.length r58.1.2.1) : Nat) : Int), World.cell? w_ ⟨b399, 0 + (Int.toNat (0 : Int)) * 1, none⟩ = some (.int .i64 (List.getD r58.1.2.1 (Int.toNat (0 : Int)) 0)), World.cell? w_ ⟨g17, 1, none⟩ = some (.slice A1 (List.length aAccept) c2)]) 21 E (fun _ _ => by kernel_rfl) (by kernel_rfl) (fun w_ hS_ => ⟨(HR420.boxk [] hS_ 7 rfl rfl).cell (j := 1) rfl, g398, Rds.at1 (HR420.rdk [] hS_ 4 rds_row rfl) 0 g398, (HR420.boxk [] hS_ 3 rfl rfl).cell (j := 1) rfl⟩) (by kernel_rfl) HS419 ?_
   clear E; intro a E
   replace E := E.same (t := 203) (u := .bool false) rfl (congrArg Value.bool (decide_eq_false h402))
   refine dn tbok (by kernel_rfl) [19, 20, 21, 22, 23, 24, 25, 26, 27, 28, 29, 30, 31, 32, 33, 34, 35, 36, 37, 38, 39] [] [(6, .bool false)] (fun w_ => []) 0 E (fun _ _ => by kernel_rfl) (by kernel_rfl) (fun w_ hS_ => trivial) (by kernel_rfl) HS419 ?_
   clear E; intro a E
   refine dr_done (by kernel_rfl) ?_
   clear HS419 HR420
   refine th_n ?_
   refine wp_ret ?_
   obtain rfl := Option.some.inj hP
   refine ret1 E rfl rfl ?_
   exact ⟨_, rfl, rfl, H.sel [] rfl⟩
  replace hP := ite_f h401 hP
  have HR424 := H
  refine dr_start (S := fun w_ => Chg (atL []) w298 w_) (by kernel_rfl) ?_
  intro w421 hc422
  have HS423 : Chg (atL []) w298 w421 := hc422.mono (fun _ _ h_ => h_.elim)
  replace H := H.ext hc422
  refine dn tbok (by kernel_rfl) [0, 1] [] [(186, .bool r27)] (fun w_ => []) 38 E (fun _ _ => by kernel_rfl) (by kernel_rfl) (fun w_ hS_ => trivial) (by kernel_rfl) HS423 ?_
  clear E; intro a E
  replace E := E.same (t := 186) (u := .bool true) rfl (congrArg Value.bool h397)
  refine dn tbok (by kernel_rfl) [2, 3, 4, 5, 6, 7, 8] [.slice (some ⟨b399, 0, none⟩) (List.length r58.1.2.1) c68, .int .i64 (List.getD r58.1.2.1 (Int.toNat (0 : Int)) 0)] [(193, .bool (decide (1 ≤ (List.getD r58.1.2.1 (Int.toNat (0 : Int)) 0))))] (fun w_ => [World.cell? w_ ⟨g76, 1, none⟩ = some (.slice (some ⟨b399, 0, none⟩) (List.length r58.1.2.1) c68), 0 ≤ (0 : Int) ∧ (0 : Int) < (((List.length r58.1.2.1) : Nat) : Int), World.cell? w_ ⟨b399, 0 + (Int.toNat (0 : Int)) * 1, none⟩ = some (.int .i64 (List.getD r58.1.2.1 (Int.toNat (0 : Int)) 0))]) 31 E (fun _ _ => by kernel_rfl) (by kernel_rfl) (fun w_ hS_ => ⟨(HR424.boxk [] hS_ 7 rfl rfl).cell (j := 1) rfl, g398, Rds.at1 (HR424.rdk [] hS_ 4 rds_row rfl) 0 g398⟩) (by kernel_rfl) HS423 ?_
  clear E; intro a E
  replace E := E.same (t := 193) (u := .bool false) rfl (congrArg Value.bool (decide_eq_false h401))
  refine dn tbok (by kernel_rfl) [9, 10, 11, 12, 13, 14, 15, 16, 17, 18, 19, 20, 21, 22, 23, 24, 25, 26, 27, 28, 29, 30, 31, 32, 33, 34, 35, 36, 37, 38, 39] [] [(6, .bool false)] (fun w_ => []) 0 E (fun _ _ => by kernel_rfl) (by kernel_rfl) (fun w_ hS_ => trivial) (by kernel_rfl) HS423 ?_
  clear E; intro a E
  refine dr_done (by kernel_rfl) ?_
  clear HS423 HR424
  refine th_n ?_
  refine wp_ret ?_
  obtain rfl := Option.some.inj hP
  refine ret1 E rfl rfl ?_
  exact ⟨_, rfl, rfl, H.sel [] rfl⟩
 replace hP := ite_f h397 hP
 have HR428 := H
 refine dr_start (S := fun w_ => Chg (atL []) w298 w_) (by kernel_rfl) ?_
 intro w425 hc426
 have HS427 : Chg (atL []) w298 w425 := hc426.mono (fun _ _ h_ => h_.elim)
 replace H := H.ext hc426
 refine dn tbok (by kernel_rfl) [0, 1] [] [(186, .bool r27)] (fun w_ => []) 38 E (fun _ _ => by kernel_rfl) (by kernel_rfl) (fun w_ hS_ => trivial) (by kernel_rfl) HS427 ?_
 clear E; intro a E
 replace E := E.same (t := 186) (u := .bool false) rfl (congrArg Value.bool (eq_false_of_ne_true h397))
 refine dn tbok (by kernel_rfl) [2, 3, 4, 5, 6, 7, 8, 9, 10, 11, 12, 13, 14, 15, 16, 17, 18, 19, 20, 21, 22, 23, 24, 25, 26, 27, 28, 29, 30, 31, 32, 33, 34, 35, 36, 37, 38, 39] [] [(6, .bool false)] (fun w_ => []) 0 E (fun _ _ => by kernel_rfl) (by kernel_rfl) (fun w_ hS_ => trivial) (by kernel_rfl) HS427 ?_
 clear E; intro a E
 refine dr_done (by kernel_rfl) ?_
 clear HS427 HR428
 refine th_n ?_
 refine wp_ret ?_
 obtain rfl := Option.some.inj hP
 refine ret1 E rfl rfl ?_
 exact ⟨_, rfl, rfl, H.sel [] rfl⟩

end Go.V
