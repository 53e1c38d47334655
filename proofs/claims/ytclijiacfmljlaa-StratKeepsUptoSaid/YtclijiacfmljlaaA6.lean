/- Plain functions, and the calls that give them. -/
import Derived.Test.YtclijiacfmljlaaA5
set_option linter.all false
set_option linter.unusedVariables false
set_option linter.unnecessarySimpa false
set_option linter.unusedSimpArgs false
namespace Go.V
open Go Go.Proofs
/-! rejoinder/strat.Check -/
def strat_Check_l0 (N : Nat) (aProps : Int) (aAccept : List Bool) (aGuard : List Int) (aNodes : List Nd) (s : Int × Int) (xWins : Bool) (xRanks : List Int) (xReply : List (List Int)) (xChoice : List Int) : Nat → Int → Option (Unit ⊕ (Bool × Int))
  | 0, _ => none
  | m91 + 1, x76 =>
    if x76 < (((List.length aAccept) : Nat) : Int) then
      Option.bind (strat_state N aProps aAccept aGuard aNodes (s.1, s.2) xWins xRanks xReply xChoice x76) fun r99 =>
      if r99 = true then
        ask (in64 (x76 + 1)) <|
        strat_Check_l0 N aProps aAccept aGuard aNodes s xWins xRanks xReply xChoice m91 (x76 + 1)
      else
        some (Sum.inr (false, 0))
    else
      some (Sum.inl ())
def strat_Check (N : Nat) (aProps : Int) (aAccept : List Bool) (aGuard : List Int) (aNodes : List Nd) (s : Int × Int) (xWins : Bool) (xRanks : List Int) (xReply : List (List Int)) (xChoice : List Int) : Option (Bool × Int) :=
  Option.bind (board_Check N aProps aAccept aGuard aNodes (s.1, s.2)) fun r40 =>
  if (r40 : Int) = 0 then
    if ((((List.length xRanks) : Nat) : Int) : Int) = (((List.length aAccept) : Nat) : Int) then
      if ((((List.length xReply) : Nat) : Int) : Int) = (((List.length aAccept) : Nat) : Int) then
        if ((((List.length xChoice) : Nat) : Int) : Int) = (((List.length aAccept) : Nat) : Int) then
          ask (idx (0 : Int) (List.length xRanks)) <|
          if xWins = (decide (0 ≤ (List.getD xRanks (Int.toNat (0 : Int)) 0))) then
            Option.bind (strat_Check_l0 N aProps aAccept aGuard aNodes s xWins xRanks xReply xChoice N 0) fun x92 =>
            Sum.elim (fun x97 =>
              some (true, 0))
             (fun x112 =>
              some x112) x92
          else
            some (false, 0)
        else
          some (false, 0)
      else
        some (false, 0)
    else
      some (false, 0)
  else
    some (false, r40)
set_option maxRecDepth 100000 in
set_option maxHeartbeats 4000000 in
theorem strat_Check_calls {N : Nat} {S Fa : Nat → Prop} {w0 : World} {r : Bool × Int} (A1 : Option Addr) (c2 : Nat) (A5 : Option Addr) (c6 : Nat) (A9 : Option Addr) (c10 : Nat) (A13 : Option Addr) (c14 : Nat) (A17 : Option Addr) (c18 : Nat) (A21 : Option Addr) (c22 : Nat) (aProps : Int) (aAccept : List Bool) (aGuard : List Int) (aNodes : List Nd) (s : Int × Int) (xWins : Bool) (xRanks : List Int) (xReply : List (List Int)) (xChoice : List Int) (hk3 : List.length aAccept ≤ c2) (hk7 : List.length aGuard ≤ c6) (hk11 : List.length aNodes ≤ c10) (hk15 : List.length xRanks ≤ c14) (hk19 : List.length xReply ≤ c18) (hk23 : List.length xChoice ≤ c22) (H : Hp S Fa w0 w0 [.ro false cBool A1 aAccept, .ro false (cInt .i64) A5 aGuard, .ro false cNode A9 aNodes, .ro false (cInt .i64) A13 xRanks, .ro false (cSl (cInt .u8)) A17 xReply, .ro false (cInt .u8) A21 xChoice]) (hP : strat_Check N aProps aAccept aGuard aNodes s xWins xRanks xReply xChoice = some r) :
    Calls Try.prog 15 #[.agg #[.int .i64 aProps, .slice A1 (List.length aAccept) c2, .slice A5 (List.length aGuard) c6, .slice A9 (List.length aNodes) c10], .agg #[.int .u8 s.1, .int .u8 s.2], .agg #[.bool xWins, .slice A13 (List.length xRanks) c14, .slice A17 (List.length xReply) c18, .slice A21 (List.length xChoice) c22]] w0 fun e w' => ∃ v, e = .returned v ∧ v = .tuple #[.bool r.1, .int .i64 r.2] ∧ Hp S Fa w0 w' [] := by
 refine enterV (n := 60) Try.func15 rfl rfl rfl ?_
 intro a E
 replace E := E.pick [(0, .agg #[.int .i64 aProps, .slice A1 (List.length aAccept) c2, .slice A5 (List.length aGuard) c6, .slice A9 (List.length aNodes) c10]), (1, .agg #[.int .u8 s.1, .int .u8 s.2]), (2, .agg #[.bool xWins, .slice A13 (List.length xRanks) c14, .slice A17 (List.length xReply) c18, .slice A21 (List.length xChoice) c22])] ⟨rfl, rfl, rfl, trivial⟩
 rw [strat_Check] at hP
 refine wp_seq ?_
 refine wp_region_lit ?_
 refine h_box H E rfl rfl rfl ?_
 intro w26 g25 a hc27 hg29 H_ E_
 replace E := E_ _ rfl; clear E_
 replace H := H_; clear H_; try dsimp only [setn, addE, goneL] at H
 refine h_box H E rfl rfl rfl ?_
 intro w31 g30 a hc32 hg34 H_ E_
 replace E := E_ _ rfl; clear E_
 replace H := H_; clear H_; try dsimp only [setn, addE, goneL] at H
 refine h_box H E rfl rfl rfl ?_
 intro w36 g35 a hc37 hg39 H_ E_
 replace E := E_ _ rfl; clear E_
 replace H := H_; clear H_; try dsimp only [setn, addE, goneL] at H
 refine vn tbok 2 [] [] [] E (by kernel_rfl) (by kernel_rfl) trivial ?_
 clear E; intro a E
 refine wpList_nil ?_
 refine th_n ?_
 refine wp_seq ?_
 refine wp_seq ?_
 refine wp_region_lit ?_
 refine vn tbok 2 [.agg #[.int .i64 aProps, .slice A1 (List.length aAccept) c2, .slice A5 (List.length aGuard) c6, .slice A9 (List.length aNodes) c10], .agg #[.int .u8 s.1, .int .u8 s.2]] [(11, .agg #[.int .i64 aProps, .slice A1 (List.length aAccept) c2, .slice A5 (List.length aGuard) c6, .slice A9 (List.length aNodes) c10]), (12, .agg #[.int .u8 s.1, .int .u8 s.2])] [cellsAt w36 g25 (0) [.int .i64 aProps, .slice A1 (List.length aAccept) c2, .slice A5 (List.length aGuard) c6, .slice A9 (List.length aNodes) c10], cellsAt w36 g30 (0) [.int .u8 s.1, .int .u8 s.2]] E (by kernel_rfl) (by kernel_rfl) ⟨(H.box 6 rfl).sub 0 _ rfl, (H.box 7 rfl).sub 0 _ rfl⟩ ?_
 clear E; intro a E
 obtain ⟨r40, h41, hP⟩ := bind_inv hP
 obtain ⟨Fa42, Hc43, hb44⟩ := H.call [] [(0, false), (1, false), (2, false)] rfl rfl trivial
 refine e_call E rfl rfl Try.func25 rfl rfl rfl (board_Check_calls A1 c2 A5 c6 A9 c10 aProps aAccept aGuard aNodes (s.1, s.2) hk3 hk7 hk11 Hc43 h41) ?_
 rintro v45 w46 a ⟨rfl, HR47⟩ E_
 replace E := E_ _ rfl; clear E_
 obtain ⟨H_, hc48⟩ := hb44 _ _ HR47 rfl
 replace H := H_; clear H_; try dsimp only [setn, addE, goneL] at H
 refine vn tbok 1 [] [(8, .int .i64 r40)] [] E (by kernel_rfl) (by kernel_rfl) trivial ?_
 clear E; intro a E
 refine wpList_nil ?_
 refine th_n ?_
 refine wp_seq ?_
 refine wp_region_lit ?_
 refine vn tbok 2 [] [(15, .bool ((r40 : Int) != 0))] [] E (by kernel_rfl) (by kernel_rfl) trivial ?_
 clear E; intro a E
 refine wpList_nil ?_
 refine th_n ?_
 refine E.cases (t := 15) rfl (fun hb_ E_ => ?_) (fun hb_ E_ => ?_)
 ·
  replace E := E_; clear E_
  have h49 : ¬ ((r40 : Int) = 0) := bne_iff_ne.1 hb_
  clear hb_; replace hP := ite_f h49 hP
  refine c_true E rfl ?_
  refine wp_seq ?_
  refine wp_region_lit ?_
  refine vn tbok 3 [] [(6, .bool false), (7, .int .i64 r40)] [] E (by kernel_rfl) (by kernel_rfl) trivial ?_
  clear E; intro a E
  refine wpList_nil ?_
  refine th_n ?_
  refine wp_ret ?_
  refine th_ret ?_
  obtain rfl := Option.some.inj hP
  refine ret2 E rfl rfl rfl ?_
  exact ⟨_, rfl, rfl, H.sel [] rfl⟩
 replace E := E_; clear E_
 have h50 : (r40 : Int) = 0 := bne_eq_false_iff_eq.1 hb_
 clear hb_; replace hP := ite_t h50 hP
 refine c_false E rfl ?_
 refine wp_skip ?_
 refine th_n ?_
 refine wp_seq ?_
 refine wp_region_lit ?_
 refine vn tbok 4 [.slice A1 (List.length aAccept) c2] [(9, .int .i64 (((List.length aAccept) : Nat) : Int))] [World.cell? w46 ⟨g25, 1, none⟩ = some (.slice A1 (List.length aAccept) c2)] E (by kernel_rfl) (by kernel_rfl) ((H.box 6 rfl).cell (j := 1) rfl) ?_
 clear E; intro a E
 refine wpList_nil ?_
 refine th_n ?_
 refine wp_seq ?_
 refine wp_seq ?_
 by_cases h51 : ((((List.length xRanks) : Nat) : Int) : Int) = (((List.length aAccept) : Nat) : Int)
 ·
  replace hP := ite_t h51 hP
  by_cases h52 : ((((List.length xReply) : Nat) : Int) : Int) = (((List.length aAccept) : Nat) : Int)
  ·
   replace hP := ite_t h52 hP
   by_cases h53 : ((((List.length xChoice) : Nat) : Int) : Int) = (((List.length aAccept) : Nat) : Int)
   ·
    replace hP := ite_t h53 hP
    obtain ⟨g54, hP⟩ := ask_inv hP
    obtain ⟨b55, o56, e_b55⟩ := (H.rd 3 rds_ro).addr (idx_pos g54)
    subst e_b55
    have HR60 := H
    refine dr_start (S := fun w_ => Chg (atL []) w46 w_) (by kernel_rfl) ?_
    intro w57 hc58
    have HS59 : Chg (atL []) w46 w57 := hc58.mono (fun _ _ h_ => h_.elim)
    replace H := H.ext hc58
    refine dn tbok (by kernel_rfl) [0, 1, 2, 3, 4, 5] [.slice (some ⟨b55, o56, none⟩) (List.length xRanks) c14] [(25, .bool (((((List.length xRanks) : Nat) : Int) : Int) != (((List.length aAccept) : Nat) : Int)))] (fun w_ => [World.cell? w_ ⟨g35, 1, none⟩ = some (.slice (some ⟨b55, o56, none⟩) (List.length xRanks) c14)]) 23 E (fun _ _ => by kernel_rfl) (by kernel_rfl) (fun w_ hS_ => ((HR60.boxk [] hS_ 8 rfl rfl).cell (j := 1) rfl)) (by kernel_rfl) HS59 ?_
    clear E; intro a E
    replace E := E.same (t := 25) (u := .bool false) rfl (congrArg Value.bool (bne_eq_false_iff_eq.2 h51))
    refine dn tbok (by kernel_rfl) [6, 7, 8, 9, 10, 11, 12] [.slice A17 (List.length xReply) c18] [(32, .bool (((((List.length xReply) : Nat) : Int) : Int) != (((List.length aAccept) : Nat) : Int)))] (fun w_ => [World.cell? w_ ⟨g35, 2, none⟩ = some (.slice A17 (List.length xReply) c18)]) 16 E (fun _ _ => by kernel_rfl) (by kernel_rfl) (fun w_ hS_ => ((HR60.boxk [] hS_ 8 rfl rfl).cell (j := 2) rfl)) (by kernel_rfl) HS59 ?_
    clear E; intro a E
    replace E := E.same (t := 32) (u := .bool false) rfl (congrArg Value.bool (bne_eq_false_iff_eq.2 h52))
    refine dn tbok (by kernel_rfl) [13, 14, 15, 16, 17, 18, 19] [.slice A21 (List.length xChoice) c22] [(39, .bool (((((List.length xChoice) : Nat) : Int) : Int) != (((List.length aAccept) : Nat) : Int)))] (fun w_ => [World.cell? w_ ⟨g35, 3, none⟩ = some (.slice A21 (List.length xChoice) c22)]) 9 E (fun _ _ => by kernel_rfl) (by kernel_rfl) (fun w_ hS_ => ((HR60.boxk [] hS_ 8 rfl rfl).cell (j := 3) rfl)) (by kernel_rfl) HS59 ?_
    clear E; intro a E
    replace E := E.same (t := 39) (u := .bool false) rfl (congrArg Value.bool (bne_eq_false_iff_eq.2 h53))
    refine dn tbok (by kernel_rfl) [20, 21, 22, 23, 24, 25, 26, 27, 28] [.bool xWins, .slice (some ⟨b55, o56, none⟩) (List.length xRanks) c14, .int .i64 (List.getD xRanks (Int.toNat (0 : Int)) 0)] [(48, .bool (!(xWins == (decide (0 ≤ (List.getD xRanks (Int.toNat (0 : Int)) 0))))))] (fun w_ => [World.cell? w_ ⟨g35, 0, none⟩ = some (.bool xWins), World.cell? w_ ⟨g35, 1, none⟩ = some (.slice (some ⟨b55, o56, none⟩) (List.length xRanks) c14), 0 ≤ (0 : Int) ∧ (0 : Int) < (((List.length xRanks) : Nat) : Int), World.cell? w_ ⟨b55, o56 + (Int.toNat (0 : Int)) * 1, none⟩ = some (.int .i64 (List.getD xRanks (Int.toNat (0 : Int)) 0))]) 0 E (fun _ _ => by kernel_rfl) (by kernel_rfl) (fun w_ hS_ => ⟨(HR60.boxk [] hS_ 8 rfl rfl).cell (j := 0) rfl, (HR60.boxk [] hS_ 8 rfl rfl).cell (j := 1) rfl, g54, Rds.at1 (HR60.rdk [] hS_ 3 rds_ro rfl) 0 g54⟩) (by kernel_rfl) HS59 ?_
    clear E; intro a E
    refine dr_done (by kernel_rfl) ?_
    clear HS59 HR60
    refine th_n ?_
    refine E.cases (t := 48) rfl (fun hb_ E_ => ?_) (fun hb_ E_ => ?_)
    ·
     replace E := E_; clear E_
     have h61 : ¬ (xWins = (decide (0 ≤ (List.getD xRanks (Int.toNat (0 : Int)) 0)))) := (by simpa using hb_)
     clear hb_; replace hP := ite_f h61 hP
     refine c_true E rfl ?_
     refine wp_seq ?_
     refine wp_region_lit ?_
     refine vn tbok 2 [] [(6, .bool false), (7, .int .i64 0)] [] E (by kernel_rfl) (by kernel_rfl) trivial ?_
     clear E; intro a E
     refine wpList_nil ?_
     refine th_n ?_
     refine wp_ret ?_
     refine th_ret ?_
     obtain rfl := Option.some.inj hP
     refine ret2 E rfl rfl rfl ?_
     exact ⟨_, rfl, rfl, H.sel [] rfl⟩
    replace E := E_; clear E_
    have h62 : xWins = (decide (0 ≤ (List.getD xRanks (Int.toNat (0 : Int)) 0))) := (by simpa using hb_)
    clear hb_; replace hP := ite_t h62 hP
    refine c_false E rfl ?_
    refine wp_skip ?_
    refine th_n ?_
    refine wp_seq ?_
    refine wp_seq ?_
    refine wp_region_lit ?_
    refine vn tbok 2 [] [(49, .int .i64 (((List.length aAccept) : Nat) : Int)), (50, .int .i64 0)] [] E (by kernel_rfl) (by kernel_rfl) trivial ?_
    clear E; intro a E
    refine wpList_nil ?_
    refine th_n ?_
    refine wp_block ?_
    obtain ⟨x92, hL93, hK94⟩ := bind_inv hP
    clear hP
    refine loop_cut (fun i_ a w_ => (i_ = 0 ∧ ∃ (x97 : Unit), Fr a 60 [] ∧ Hp S Fa w0 w_ [] ∧ x92 = Sum.inl x97)) ?_ ?_
    ·
     refine loopV (fun m96 a w95 => ∃ (x76 : Int), Fr a 60 [(3, .pointer (some ⟨g25, 0, none⟩)), (4, .pointer (some ⟨g30, 0, none⟩)), (5, .pointer (some ⟨g35, 0, none⟩)), (49, .int .i64 (((List.length aAccept) : Nat) : Int)), (50, .int .i64 x76)] ∧ Hp S Fa w0 w95 [.ro false cBool A1 aAccept, .ro false (cInt .i64) A5 aGuard, .ro false cNode A9 aNodes, .box g25 26 [.int .i64 aProps, .slice A1 (List.length aAccept) c2, .slice A5 (List.length aGuard) c6, .slice A9 (List.length aNodes) c10], .box g30 29 [.int .u8 s.1, .int .u8 s.2], .ro false (cInt .i64) (some ⟨b55, o56, none⟩) xRanks, .ro false (cSl (cInt .u8)) A17 xReply, .ro false (cInt .u8) A21 xChoice, .box g35 33 [.bool xWins, .slice (some ⟨b55, o56, none⟩) (List.length xRanks) c14, .slice A17 (List.length xReply) c18, .slice A21 (List.length xChoice) c22]] ∧ strat_Check_l0 N aProps aAccept aGuard aNodes s xWins xRanks xReply xChoice m96 x76 = some x92) N ?_ ?_
     ·
      exact ⟨0, E.pick _ ⟨rfl, rfl, rfl, rfl, rfl, trivial⟩, H.sel [0, 1, 2, 6, 7, 3, 4, 5, 8] rfl, hL93⟩
     clear E H hL93; intro m96 a w95 hI_
     obtain ⟨x76, E, H, hP⟩ := hI_
     obtain ⟨m91, rfl⟩ : ∃ q_, m96 = q_ + 1 := by cases m96 with | zero => rw [strat_Check_l0] at hP; cases hP | succ q_ => exact ⟨q_, rfl⟩
     rw [strat_Check_l0] at hP
     refine wp_seq ?_
     refine wp_region_lit ?_
     refine vn tbok 1 [] [(51, .bool (decide (x76 < (((List.length aAccept) : Nat) : Int))))] [] E (by kernel_rfl) (by kernel_rfl) trivial ?_
     clear E; intro a E
     refine wpList_nil ?_
     refine th_n ?_
     refine wp_seq ?_
     refine E.cases (t := 51) rfl (fun hb_ E_ => ?_) (fun hb_ E_ => ?_)
     ·
      replace E := E_; clear E_
      have h98 : x76 < (((List.length aAccept) : Nat) : Int) := of_decide_eq_true hb_
      clear hb_; replace hP := ite_t h98 hP
      refine c_true E rfl ?_
      refine wp_skip ?_
      refine th_n ?_
      refine wp_seq ?_
      refine wp_block ?_
      refine wp_seq ?_
      refine wp_region_lit ?_
      refine vn tbok 2 [] [(10, .int .i64 x76)] [] E (by kernel_rfl) (by kernel_rfl) trivial ?_
      clear E; intro a E
      refine wpList_nil ?_
      refine th_n ?_
      refine wp_seq ?_
      refine wp_region_lit ?_
      refine vn tbok 4 [.agg #[.int .i64 aProps, .slice A1 (List.length aAccept) c2, .slice A5 (List.length aGuard) c6, .slice A9 (List.length aNodes) c10], .agg #[.int .u8 s.1, .int .u8 s.2], .agg #[.bool xWins, .slice (some ⟨b55, o56, none⟩) (List.length xRanks) c14, .slice A17 (List.length xReply) c18, .slice A21 (List.length xChoice) c22]] [(53, .agg #[.int .i64 aProps, .slice A1 (List.length aAccept) c2, .slice A5 (List.length aGuard) c6, .slice A9 (List.length aNodes) c10]), (54, .agg #[.int .u8 s.1, .int .u8 s.2]), (55, .agg #[.bool xWins, .slice (some ⟨b55, o56, none⟩) (List.length xRanks) c14, .slice A17 (List.length xReply) c18, .slice A21 (List.length xChoice) c22]), (56, .int .i64 x76)] [cellsAt w95 g25 (0) [.int .i64 aProps, .slice A1 (List.length aAccept) c2, .slice A5 (List.length aGuard) c6, .slice A9 (List.length aNodes) c10], cellsAt w95 g30 (0) [.int .u8 s.1, .int .u8 s.2], cellsAt w95 g35 (0) [.bool xWins, .slice (some ⟨b55, o56, none⟩) (List.length xRanks) c14, .slice A17 (List.length xReply) c18, .slice A21 (List.length xChoice) c22]] E (by kernel_rfl) (by kernel_rfl) ⟨(H.box 3 rfl).sub 0 _ rfl, (H.box 4 rfl).sub 0 _ rfl, (H.box 8 rfl).sub 0 _ rfl⟩ ?_
      clear E; intro a E
      obtain ⟨r99, h100, hP⟩ := bind_inv hP
      obtain ⟨Fa101, Hc102, hb103⟩ := H.call [] [(0, false), (1, false), (2, false), (5, false), (6, false), (7, false)] rfl rfl trivial
      refine e_call E rfl rfl Try.func43 rfl rfl rfl (strat_state_calls A1 c2 A5 c6 A9 c10 (some ⟨b55, o56, none⟩) c14 A17 c18 A21 c22 aProps aAccept aGuard aNodes (s.1, s.2) xWins xRanks xReply xChoice x76 hk3 hk7 hk11 hk15 hk19 hk23 Hc102 h100) ?_
      rintro v104 w105 a ⟨rfl, HR106⟩ E_
      replace E := E_ _ rfl; clear E_
      obtain ⟨H_, hc107⟩ := hb103 _ _ HR106 rfl
      replace H := H_; clear H_; try dsimp only [setn, addE, goneL] at H
      refine vn tbok 1 [] [(58, .bool (!r99))] [] E (by kernel_rfl) (by kernel_rfl) trivial ?_
      clear E; intro a E
      refine wpList_nil ?_
      refine th_n ?_
      refine E.cases (t := 58) rfl (fun hb_ E_ => ?_) (fun hb_ E_ => ?_)
      ·
       replace E := E_; clear E_
       have h108 : ¬ (r99 = true) := (ne_true_of_eq_false (not_t hb_))
       clear hb_; replace hP := ite_f h108 hP
       refine c_true E rfl ?_
       refine wp_seq ?_
       refine wp_region_lit ?_
       refine vn tbok 2 [] [(6, .bool false), (7, .int .i64 0)] [] E (by kernel_rfl) (by kernel_rfl) trivial ?_
       clear E; intro a E
       refine wpList_nil ?_
       refine th_n ?_
       refine wp_ret ?_
       refine bl_ret ?_
       refine th_ret ?_
       refine th_ret ?_
       refine .inr ⟨rfl, ?_⟩
       refine bl_ret ?_
       refine th_ret ?_
       have hx_ := Option.some.inj hP; subst hx_
       have hP : some ((false, 0)) = some r := hK94
       obtain rfl := Option.some.inj hP
       refine ret2 E rfl rfl rfl ?_
       exact ⟨_, rfl, rfl, H.sel [] rfl⟩
      replace E := E_; clear E_
      have h109 : r99 = true := (not_f hb_)
      clear hb_; replace hP := ite_t h109 hP
      refine c_false E rfl ?_
      refine wp_skip ?_
      refine bl_n ?_
      refine th_n ?_
      refine wp_region_lit ?_
      obtain ⟨g110, hP⟩ := ask_inv hP
      refine vn tbok 2 [.int .i64 (x76 + 1)] [(50, .int .i64 (x76 + 1))] [IntKind.i64.wrap (x76 + 1) = x76 + 1] E (by kernel_rfl) (by kernel_rfl) (wrap_in g110) ?_
      clear E; intro a E
      refine wpList_nil ?_
      exact th_n ⟨m91, Nat.lt_succ_self _, x76 + 1, E.pick _ ⟨rfl, rfl, rfl, rfl, rfl, trivial⟩, H.sel [0, 1, 2, 3, 4, 5, 6, 7, 8] rfl, hP⟩
     replace E := E_; clear E_
     have h111 : ¬ (x76 < (((List.length aAccept) : Nat) : Int)) := of_decide_eq_false hb_
     clear hb_; replace hP := ite_f h111 hP
     refine c_false E rfl ?_
     refine wp_exit ?_
     refine th_exit ?_
     have hx_ := Option.some.inj hP
     refine th_exit (.inl ⟨0, rfl, ?_⟩)
     exact ⟨rfl, (), E.pick _ trivial, H.sel [] rfl, hx_.symm⟩
    clear E H hL93; intro i_ a w95 hM_
    obtain ⟨rfl, x97, E, H, hx_⟩ := hM_
    subst hx_; have hP := elim_l hK94
    clear hK94
    refine bl_hit ?_
    refine th_n ?_
    refine wp_seq ?_
    refine wp_region_lit ?_
    refine vn tbok 2 [] [(6, .bool true), (7, .int .i64 0)] [] E (by kernel_rfl) (by kernel_rfl) trivial ?_
    clear E; intro a E
    refine wpList_nil ?_
    refine th_n ?_
    refine wp_ret ?_
    obtain rfl := Option.some.inj hP
    refine ret2 E rfl rfl rfl ?_
    exact ⟨_, rfl, rfl, H.sel [] rfl⟩
   replace hP := ite_f h53 hP
   have HR116 := H
   refine dr_start (S := fun w_ => Chg (atL []) w46 w_) (by kernel_rfl) ?_
   intro w113 hc114
   have HS115 : Chg (atL []) w46 w113 := hc114.mono (fun _ _ h_ => h_.elim)
   replace H := H.ext hc114
   refine dn tbok (by kernel_rfl) [0, 1, 2, 3, 4, 5] [.slice A13 (List.length xRanks) c14] [(25, .bool (((((List.length xRanks) : Nat) : Int) : Int) != (((List.length aAccept) : Nat) : Int)))] (fun w_ => [World.cell? w_ ⟨g35, 1, none⟩ = some (.slice A13 (List.length xRanks) c14)]) 23 E (fun _ _ => by kernel_rfl) (by kernel_rfl) (fun w_ hS_ => ((HR116.boxk [] hS_ 8 rfl rfl).cell (j := 1) rfl)) (by kernel_rfl) HS115 ?_
   clear E; intro a E
   replace E := E.same (t := 25) (u := .bool false) rfl (congrArg Value.bool (bne_eq_false_iff_eq.2 h51))
   refine dn tbok (by kernel_rfl) [6, 7, 8, 9, 10, 11, 12] [.slice A17 (List.length xReply) c18] [(32, .bool (((((List.length xReply) : Nat) : Int) : Int) != (((List.length aAccept) : Nat) : Int)))] (fun w_ => [World.cell? w_ ⟨g35, 2, none⟩ = some (.slice A17 (List.length xReply) c18)]) 16 E (fun _ _ => by kernel_rfl) (by kernel_rfl) (fun w_ hS_ => ((HR116.boxk [] hS_ 8 rfl rfl).cell (j := 2) rfl)) (by kernel_rfl) HS115 ?_
   clear E; intro a E
   replace E := E.same (t := 32) (u := .bool false) rfl (congrArg Value.bool (bne_eq_false_iff_eq.2 h52))
   refine dn tbok (by kernel_rfl) [13, 14, 15, 16, 17, 18, 19] [.slice A21 (List.length xChoice) c22] [(39, .bool (((((List.length xChoice) : Nat) : Int) : Int) != (((List.length aAccept) : Nat) : Int)))] (fun w_ => [World.cell? w_ ⟨g35, 3, none⟩ = some (.slice A21 (List.length xChoice) c22)]) 9 E (fun _ _ => by kernel_rfl) (by kernel_rfl) (fun w_ hS_ => ((HR116.boxk [] hS_ 8 rfl rfl).cell (j := 3) rfl)) (by kernel_rfl) HS115 ?_
   clear E; intro a E
   replace E := E.same (t := 39) (u := .bool true) rfl (congrArg Value.bool (bne_iff_ne.2 h53))
   refine dn tbok (by kernel_rfl) [20, 21, 22, 23, 24, 25, 26, 27, 28] [] [(48, .bool true)] (fun w_ => []) 0 E (fun _ _ => by kernel_rfl) (by kernel_rfl) (fun w_ hS_ => trivial) (by kernel_rfl) HS115 ?_
   clear E; intro a E
   refine dr_done (by kernel_rfl) ?_
   clear HS115 HR116
   refine th_n ?_
   refine c_true E rfl ?_
   refine wp_seq ?_
   refine wp_region_lit ?_
   refine vn tbok 2 [] [(6, .bool false), (7, .int .i64 0)] [] E (by kernel_rfl) (by kernel_rfl) trivial ?_
   clear E; intro a E
   refine wpList_nil ?_
   refine th_n ?_
   refine wp_ret ?_
   refine th_ret ?_
   obtain rfl := Option.some.inj hP
   refine ret2 E rfl rfl rfl ?_
   exact ⟨_, rfl, rfl, H.sel [] rfl⟩
  replace hP := ite_f h52 hP
  have HR120 := H
  refine dr_start (S := fun w_ => Chg (atL []) w46 w_) (by kernel_rfl) ?_
  intro w117 hc118
  have HS119 : Chg (atL []) w46 w117 := hc118.mono (fun _ _ h_ => h_.elim)
  replace H := H.ext hc118
  refine dn tbok (by kernel_rfl) [0, 1, 2, 3, 4, 5] [.slice A13 (List.length xRanks) c14] [(25, .bool (((((List.length xRanks) : Nat) : Int) : Int) != (((List.length aAccept) : Nat) : Int)))] (fun w_ => [World.cell? w_ ⟨g35, 1, none⟩ = some (.slice A13 (List.length xRanks) c14)]) 23 E (fun _ _ => by kernel_rfl) (by kernel_rfl) (fun w_ hS_ => ((HR120.boxk [] hS_ 8 rfl rfl).cell (j := 1) rfl)) (by kernel_rfl) HS119 ?_
  clear E; intro a E
  replace E := E.same (t := 25) (u := .bool false) rfl (congrArg Value.bool (bne_eq_false_iff_eq.2 h51))
  refine dn tbok (by kernel_rfl) [6, 7, 8, 9, 10, 11, 12] [.slice A17 (List.length xReply) c18] [(32, .bool (((((List.length xReply) : Nat) : Int) : Int) != (((List.length aAccept) : Nat) : Int)))] (fun w_ => [World.cell? w_ ⟨g35, 2, none⟩ = some (.slice A17 (List.length xReply) c18)]) 16 E (fun _ _ => by kernel_rfl) (by kernel_rfl) (fun w_ hS_ => ((HR120.boxk [] hS_ 8 rfl rfl).cell (j := 2) rfl)) (by kernel_rfl) HS119 ?_
  clear E; intro a E
  replace E := E.same (t := 32) (u := .bool true) rfl (congrArg Value.bool (bne_iff_ne.2 h52))
  refine dn tbok (by kernel_rfl) [13, 14, 15, 16, 17, 18, 19, 20, 21, 22, 23, 24, 25, 26, 27, 28] [] [(48, .bool true)] (fun w_ => []) 0 E (fun _ _ => by kernel_rfl) (by kernel_rfl) (fun w_ hS_ => trivial) (by kernel_rfl) HS119 ?_
  clear E; intro a E
  refine dr_done (by kernel_rfl) ?_
  clear HS119 HR120
  refine th_n ?_
  refine c_true E rfl ?_
  refine wp_seq ?_
  refine wp_region_lit ?_
  refine vn tbok 2 [] [(6, .bool false), (7, .int .i64 0)] [] E (by kernel_rfl) (by kernel_rfl) trivial ?_
  clear E; intro a E
  refine wpList_nil ?_
  refine th_n ?_
  refine wp_ret ?_
  refine th_ret ?_
  obtain rfl := Option.some.inj hP
  refine ret2 E rfl rfl rfl ?_
  exact ⟨_, rfl, rfl, H.sel [] rfl⟩
 replace hP := ite_f h51 hP
 have HR124 := H
 refine dr_start (S := fun w_ => Chg (atL []) w46 w_) (by kernel_rfl) ?_
 intro w121 hc122
 have HS123 : Chg (atL []) w46 w121 := hc122.mono (fun _ _ h_ => h_.elim)
 replace H := H.ext hc122
 refine dn tbok (by kernel_rfl) [0, 1, 2, 3, 4, 5] [.slice A13 (List.length xRanks) c14] [(25, .bool (((((List.length xRanks) : Nat) : Int) : Int) != (((List.length aAccept) : Nat) : Int)))] (fun w_ => [World.cell? w_ ⟨g35, 1, none⟩ = some (.slice A13 (List.length xRanks) c14)]) 23 E (fun _ _ => by kernel_rfl) (by kernel_rfl) (fun w_ hS_ => ((HR124.boxk [] hS_ 8 rfl rfl).cell (j := 1) rfl)) (by kernel_rfl) HS123 ?_
 clear E; intro a E
 replace E := E.same (t := 25) (u := .bool true) rfl (congrArg Value.bool (bne_iff_ne.2 h51))
 refine dn tbok (by kernel_rfl) [6, 7, 8, 9, 10, 11, 12, 13, 14, 15, 16, 17, 18, 19, 20, 21, 22, 23, 24, 25, 26, 27, 28] [] [(48, .bool true)] (fun w_ => []) 0 E (fun _ _ => by kernel_rfl) (by kernel_rfl) (fun w_ hS_ => trivial) (by kernel_rfl) HS123 ?_
 clear E; intro a E
 refine dr_done (by kernel_rfl) ?_
 clear HS123 HR124
 refine th_n ?_
 refine c_true E rfl ?_
 refine wp_seq ?_
 refine wp_region_lit ?_
 refine vn tbok 2 [] [(6, .bool false), (7, .int .i64 0)] [] E (by kernel_rfl) (by kernel_rfl) trivial ?_
 clear E; intro a E
 refine wpList_nil ?_
 refine th_n ?_
 refine wp_ret ?_
 refine th_ret ?_
 obtain rfl := Option.some.inj hP
 refine ret2 E rfl rfl rfl ?_
 exact ⟨_, rfl, rfl, H.sel [] rfl⟩

/-! rejoinder/strat.Play -/
def strat_Play_j1 (N : Nat) (s : Int × Int) (xWins : Bool) : Option Int :=
    if xWins = true then
      some s.1
    else
      some s.2
def strat_Play_l0 (N : Nat) (aProps : Int) (aAccept : List Bool) (aGuard : List Int) (aNodes : List Nd) (s : Int × Int) (xWins : Bool) (xReply : List (List Int)) (xChoice : List Int) (moves : List Int) : Nat → Int → (List Int) → Int → Option ((List Int) ⊕ ((List Int) × Int))
  | 0, _, _, _ => none
  | m349 + 1, q203, out204, x207 =>
    if x207 < (((List.length moves) : Nat) : Int) then
      ask (idx x207 (List.length moves)) <|
      ask (idx q203 (List.length aAccept)) <|
      if (List.getD aAccept (Int.toNat q203) false) = true then
        some (Sum.inl out204)
      else
        Option.bind (strat_Play_j1 N s xWins) fun x368 =>
        Option.bind (board_Number N x368 (List.getD moves (Int.toNat x207) 0)) fun r375 =>
        if (r375.2 : Int) = 0 then
          Option.bind (board_Goes N aProps aAccept aGuard aNodes (s.1, s.2) q203) fun r387 =>
          if xWins = true then
            ask (idx q203 (List.length xReply)) <|
            ask (idx r375.1 (List.length (List.getD xReply (Int.toNat q203) []))) <|
            Option.bind (board_Number N s.2 (List.getD (List.getD xReply (Int.toNat q203) []) (Int.toNat r375.1) 0)) fun r411 =>
            ask (idx r375.1 (List.length r387.1)) <|
            ask (idx r411.1 (List.length (List.getD r387.1 (Int.toNat r375.1) []))) <|
            ask (List.length out204 + List.length ([(List.getD (List.getD r387.1 (Int.toNat r375.1) []) (Int.toNat r411.1) 0)] : List Int) ≤ 1000000000) <|
            ask (in64 (x207 + 1)) <|
            strat_Play_l0 N aProps aAccept aGuard aNodes s xWins xReply xChoice moves m349 (List.getD (List.getD r387.1 (Int.toNat r375.1) []) (Int.toNat r411.1) 0) (out204 ++ ([(List.getD (List.getD r387.1 (Int.toNat r375.1) []) (Int.toNat r411.1) 0)] : List Int)) (x207 + 1)
          else
            ask (idx q203 (List.length xChoice)) <|
            Option.bind (board_Number N s.1 (List.getD xChoice (Int.toNat q203) 0)) fun r458 =>
            ask (idx r458.1 (List.length r387.1)) <|
            ask (idx r375.1 (List.length (List.getD r387.1 (Int.toNat r458.1) []))) <|
            ask (List.length out204 + List.length ([(List.getD (List.getD r387.1 (Int.toNat r458.1) []) (Int.toNat r375.1) 0)] : List Int) ≤ 1000000000) <|
            ask (in64 (x207 + 1)) <|
            strat_Play_l0 N aProps aAccept aGuard aNodes s xWins xReply xChoice moves m349 (List.getD (List.getD r387.1 (Int.toNat r458.1) []) (Int.toNat r375.1) 0) (out204 ++ ([(List.getD (List.getD r387.1 (Int.toNat r458.1) []) (Int.toNat r375.1) 0)] : List Int)) (x207 + 1)
        else
          some (Sum.inr ([], r375.2))
    else
      some (Sum.inl out204)
def strat_Play (N : Nat) (aProps : Int) (aAccept : List Bool) (aGuard : List Int) (aNodes : List Nd) (s : Int × Int) (xWins : Bool) (xRanks : List Int) (xReply : List (List Int)) (xChoice : List Int) (moves : List Int) : Option ((List Int) × Int) :=
  Option.bind (strat_Check N aProps aAccept aGuard aNodes (s.1, s.2) xWins xRanks xReply xChoice) fun r44 =>
  if (r44.2 : Int) = 0 then
    if r44.1 = true then
      if 1024 < (((List.length moves) : Nat) : Int) then
        some ([], 3)
      else
        Option.bind (strat_Play_l0 N aProps aAccept aGuard aNodes s xWins xReply xChoice moves N 0 ([0] : List Int) 0) fun x350 =>
        Sum.elim (fun x355 =>
          some (x355, 0))
         (fun x502 =>
          some x502) x350
    else
      some ([], 340)
  else
    some ([], r44.2)
set_option maxRecDepth 100000 in
set_option maxHeartbeats 4000000 in
theorem strat_Play_calls {N : Nat} {S Fa : Nat → Prop} {w0 : World} {r : (List Int) × Int} (A1 : Option Addr) (c2 : Nat) (A5 : Option Addr) (c6 : Nat) (A9 : Option Addr) (c10 : Nat) (A13 : Option Addr) (c14 : Nat) (A17 : Option Addr) (c18 : Nat) (A21 : Option Addr) (c22 : Nat) (A25 : Option Addr) (c26 : Nat) (aProps : Int) (aAccept : List Bool) (aGuard : List Int) (aNodes : List Nd) (s : Int × Int) (xWins : Bool) (xRanks : List Int) (xReply : List (List Int)) (xChoice : List Int) (moves : List Int) (hk3 : List.length aAccept ≤ c2) (hk7 : List.length aGuard ≤ c6) (hk11 : List.length aNodes ≤ c10) (hk15 : List.length xRanks ≤ c14) (hk19 : List.length xReply ≤ c18) (hk23 : List.length xChoice ≤ c22) (hk27 : List.length moves ≤ c26) (H : Hp S Fa w0 w0 [.ro false cBool A1 aAccept, .ro false (cInt .i64) A5 aGuard, .ro false cNode A9 aNodes, .ro false (cInt .i64) A13 xRanks, .ro false (cSl (cInt .u8)) A17 xReply, .ro false (cInt .u8) A21 xChoice, .ro false (cInt .u8) A25 moves]) (hP : strat_Play N aProps aAccept aGuard aNodes s xWins xRanks xReply xChoice moves = some r) :
    Calls Try.prog 17 #[.agg #[.int .i64 aProps, .slice A1 (List.length aAccept) c2, .slice A5 (List.length aGuard) c6, .slice A9 (List.length aNodes) c10], .agg #[.int .u8 s.1, .int .u8 s.2], .agg #[.bool xWins, .slice A13 (List.length xRanks) c14, .slice A17 (List.length xReply) c18, .slice A21 (List.length xChoice) c22], .slice A25 (List.length moves) c26] w0 fun e w' => ∃ v, e = .returned v ∧ ∃ (A503 : Option Addr) (c504 : Nat), v = .tuple #[.slice A503 (List.length r.1) c504, .int .i64 r.2] ∧ Hp S Fa w0 w' [.row true (cInt .i64) 3 A503 c504 r.1] := by
 refine enterV (n := 125) Try.func17 rfl rfl rfl ?_
 intro a E
 replace E := E.pick [(0, .agg #[.int .i64 aProps, .slice A1 (List.length aAccept) c2, .slice A5 (List.length aGuard) c6, .slice A9 (List.length aNodes) c10]), (1, .agg #[.int .u8 s.1, .int .u8 s.2]), (2, .agg #[.bool xWins, .slice A13 (List.length xRanks) c14, .slice A17 (List.length xReply) c18, .slice A21 (List.length xChoice) c22]), (3, .slice A25 (List.length moves) c26)] ⟨rfl, rfl, rfl, rfl, trivial⟩
 rw [strat_Play] at hP
 refine wp_seq ?_
 refine wp_region_lit ?_
 refine h_box H E rfl rfl rfl ?_
 intro w30 g29 a hc31 hg33 H_ E_
 replace E := E_ _ rfl; clear E_
 replace H := H_; clear H_; try dsimp only [setn, addE, goneL] at H
 refine h_box H E rfl rfl rfl ?_
 intro w35 g34 a hc36 hg38 H_ E_
 replace E := E_ _ rfl; clear E_
 replace H := H_; clear H_; try dsimp only [setn, addE, goneL] at H
 refine h_box H E rfl rfl rfl ?_
 intro w40 g39 a hc41 hg43 H_ E_
 replace E := E_ _ rfl; clear E_
 replace H := H_; clear H_; try dsimp only [setn, addE, goneL] at H
 refine vn tbok 2 [] [] [] E (by kernel_rfl) (by kernel_rfl) trivial ?_
 clear E; intro a E
 refine wpList_nil ?_
 refine th_n ?_
 refine wp_seq ?_
 refine wp_region_lit ?_
 refine vn tbok 3 [.agg #[.int .i64 aProps, .slice A1 (List.length aAccept) c2, .slice A5 (List.length aGuard) c6, .slice A9 (List.length aNodes) c10], .agg #[.int .u8 s.1, .int .u8 s.2], .agg #[.bool xWins, .slice A13 (List.length xRanks) c14, .slice A17 (List.length xReply) c18, .slice A21 (List.length xChoice) c22]] [(26, .agg #[.int .i64 aProps, .slice A1 (List.length aAccept) c2, .slice A5 (List.length aGuard) c6, .slice A9 (List.length aNodes) c10]), (27, .agg #[.int .u8 s.1, .int .u8 s.2]), (28, .agg #[.bool xWins, .slice A13 (List.length xRanks) c14, .slice A17 (List.length xReply) c18, .slice A21 (List.length xChoice) c22])] [cellsAt w40 g29 (0) [.int .i64 aProps, .slice A1 (List.length aAccept) c2, .slice A5 (List.length aGuard) c6, .slice A9 (List.length aNodes) c10], cellsAt w40 g34 (0) [.int .u8 s.1, .int .u8 s.2], cellsAt w40 g39 (0) [.bool xWins, .slice A13 (List.length xRanks) c14, .slice A17 (List.length xReply) c18, .slice A21 (List.length xChoice) c22]] E (by kernel_rfl) (by kernel_rfl) ⟨(H.box 7 rfl).sub 0 _ rfl, (H.box 8 rfl).sub 0 _ rfl, (H.box 9 rfl).sub 0 _ rfl⟩ ?_
 clear E; intro a E
 obtain ⟨r44, h45, hP⟩ := bind_inv hP
 obtain ⟨Fa46, Hc47, hb48⟩ := H.call [] [(0, false), (1, false), (2, false), (3, false), (4, false), (5, false)] rfl rfl trivial
 refine e_call E rfl rfl Try.func15 rfl rfl rfl (strat_Check_calls A1 c2 A5 c6 A9 c10 A13 c14 A17 c18 A21 c22 aProps aAccept aGuard aNodes (s.1, s.2) xWins xRanks xReply xChoice hk3 hk7 hk11 hk15 hk19 hk23 Hc47 h45) ?_
 rintro v49 w50 a ⟨rfl, HR51⟩ E_
 replace E := E_ _ rfl; clear E_
 obtain ⟨H_, hc52⟩ := hb48 _ _ HR51 rfl
 replace H := H_; clear H_; try dsimp only [setn, addE, goneL] at H
 refine vn tbok 5 [] [(10, .bool r44.1), (11, .int .i64 r44.2)] [] E (by kernel_rfl) (by kernel_rfl) trivial ?_
 clear E; intro a E
 refine wpList_nil ?_
 refine th_n ?_
 refine wp_seq ?_
 refine wp_block ?_
 refine wp_seq ?_
 refine wp_region_lit ?_
 refine vn tbok 3 [] [(32, .bool ((r44.2 : Int) != 0))] [] E (by kernel_rfl) (by kernel_rfl) trivial ?_
 clear E; intro a E
 refine wpList_nil ?_
 refine th_n ?_
 refine E.cases (t := 32) rfl (fun hb_ E_ => ?_) (fun hb_ E_ => ?_)
 ·
  replace E := E_; clear E_
  have h53 : ¬ ((r44.2 : Int) = 0) := bne_iff_ne.1 hb_
  clear hb_; replace hP := ite_f h53 hP
  refine c_true E rfl ?_
  refine wp_seq ?_
  refine wp_region_lit ?_
  refine vn tbok 3 [] [(8, .slice none 0 0), (9, .int .i64 r44.2)] [] E (by kernel_rfl) (by kernel_rfl) trivial ?_
  clear E; intro a E
  refine wpList_nil ?_
  refine th_n ?_
  refine wp_ret ?_
  refine bl_ret ?_
  refine th_ret ?_
  replace H := H.nilrow (cInt .i64) 3; try dsimp only [setn, addE, goneL] at H
  obtain rfl := Option.some.inj hP
  refine ret2 E rfl rfl rfl ?_
  exact ⟨_, rfl, none, 0, rfl, H.sel [10] rfl⟩
 replace E := E_; clear E_
 have h55 : (r44.2 : Int) = 0 := bne_eq_false_iff_eq.1 hb_
 clear hb_; replace hP := ite_t h55 hP
 refine c_false E rfl ?_
 refine wp_seq ?_
 refine wp_region_lit ?_
 refine vn tbok 3 [] [(36, .bool (!r44.1))] [] E (by kernel_rfl) (by kernel_rfl) trivial ?_
 clear E; intro a E
 refine wpList_nil ?_
 refine th_n ?_
 refine E.cases (t := 36) rfl (fun hb_ E_ => ?_) (fun hb_ E_ => ?_)
 ·
  replace E := E_; clear E_
  have h56 : ¬ (r44.1 = true) := (ne_true_of_eq_false (not_t hb_))
  clear hb_; replace hP := ite_f h56 hP
  refine c_true E rfl ?_
  refine wp_seq ?_
  refine wp_region_lit ?_
  refine vn tbok 2 [] [(8, .slice none 0 0), (9, .int .i64 340)] [] E (by kernel_rfl) (by kernel_rfl) trivial ?_
  clear E; intro a E
  refine wpList_nil ?_
  refine th_n ?_
  refine wp_ret ?_
  refine bl_ret ?_
  refine th_ret ?_
  replace H := H.nilrow (cInt .i64) 3; try dsimp only [setn, addE, goneL] at H
  obtain rfl := Option.some.inj hP
  refine ret2 E rfl rfl rfl ?_
  exact ⟨_, rfl, none, 0, rfl, H.sel [10] rfl⟩
 replace E := E_; clear E_
 have h58 : r44.1 = true := (not_f hb_)
 clear hb_; replace hP := ite_t h58 hP
 refine c_false E rfl ?_
 refine wp_seq ?_
 refine wp_region_lit ?_
 refine vn tbok 4 [] [(39, .bool (decide (1024 < (((List.length moves) : Nat) : Int))))] [] E (by kernel_rfl) (by kernel_rfl) trivial ?_
 clear E; intro a E
 refine wpList_nil ?_
 refine th_n ?_
 refine E.cases (t := 39) rfl (fun hb_ E_ => ?_) (fun hb_ E_ => ?_)
 ·
  replace E := E_; clear E_
  have h59 : 1024 < (((List.length moves) : Nat) : Int) := of_decide_eq_true hb_
  clear hb_; replace hP := ite_t h59 hP
  refine c_true E rfl ?_
  refine wp_seq ?_
  refine wp_region_lit ?_
  refine vn tbok 2 [] [(8, .slice none 0 0), (9, .int .i64 3)] [] E (by kernel_rfl) (by kernel_rfl) trivial ?_
  clear E; intro a E
  refine wpList_nil ?_
  refine th_n ?_
  refine wp_ret ?_
  refine bl_ret ?_
  refine th_ret ?_
  replace H := H.nilrow (cInt .i64) 3; try dsimp only [setn, addE, goneL] at H
  obtain rfl := Option.some.inj hP
  refine ret2 E rfl rfl rfl ?_
  exact ⟨_, rfl, none, 0, rfl, H.sel [10] rfl⟩
 replace E := E_; clear E_
 have h61 : ¬ (1024 < (((List.length moves) : Nat) : Int)) := of_decide_eq_false hb_
 clear hb_; replace hP := ite_f h61 hP
 refine c_false E rfl ?_
 refine wp_skip ?_
 refine bl_n ?_
 refine th_n ?_
 refine wp_seq ?_
 refine wp_region_lit ?_
 refine vn tbok 1 [] [(12, .int .i64 0)] [] E (by kernel_rfl) (by kernel_rfl) trivial ?_
 clear E; intro a E
 refine wpList_nil ?_
 refine th_n ?_
 refine wp_seq ?_
 refine wp_region_lit ?_
 refine vn tbok 1 [] [(43, .int .i64 0)] [] E (by kernel_rfl) (by kernel_rfl) trivial ?_
 clear E; intro a E
 refine h_buildSlice (ps := [(0, .int .i64 0)]) (cs := [.int .i64 0]) H E rfl rfl tbok rfl rfl (by kernel_rfl) ?_
 intro w63 g62 a hc64 hg66 H_ E_
 replace E := E_ _ rfl; clear E_
 replace H := H_; clear H_; try dsimp only [setn, addE, goneL] at H
 refine vn tbok 1 [] [(13, .slice (some ⟨g62, 0, none⟩) 1 1)] [] E (by kernel_rfl) (by kernel_rfl) trivial ?_
 clear E; intro a E
 refine wpList_nil ?_
 refine th_n ?_
 refine wp_seq ?_
 refine wp_seq ?_
 refine wp_region_lit ?_
 refine vn tbok 3 [] [(45, .slice A25 (List.length moves) c26), (46, .int .i64 (((List.length moves) : Nat) : Int)), (47, .int .i64 0)] [] E (by kernel_rfl) (by kernel_rfl) trivial ?_
 clear E; intro a E
 refine wpList_nil ?_
 refine th_n ?_
 refine wp_block ?_
 obtain ⟨x350, hL351, hK352⟩ := bind_inv hP
 clear hP
 replace H := H.boxRow (cInt .i64) true ([0] : List Int) 10 rfl (fun _ _ => ⟨_, _, rfl, rfl, rfl⟩) (Nat.le_of_ble_eq_true rfl); try dsimp only [setn, addE, goneL] at H
 replace H := H.rowx 10 rfl; try dsimp only [setn, addE, goneL] at H
 refine loop_cut (fun i_ a w_ => (i_ = 1 ∧ ∃ (x355 : List Int), ∃ (A347 : Option Addr) (c348 : Nat), Fr a 125 [(13, .slice A347 (List.length x355) c348)] ∧ Hp S Fa w0 w_ [.row true (cInt .i64) 3 A347 c348 x355] ∧ x350 = Sum.inl x355)) ?_ ?_
 ·
  refine loopV (fun m354 a w353 => ∃ (q203 : Int) (out204 : List Int) (x207 : Int), ∃ (A205 : Option Addr) (c206 : Nat), Fr a 125 [(4, .pointer (some ⟨g29, 0, none⟩)), (5, .pointer (some ⟨g34, 0, none⟩)), (6, .pointer (some ⟨g39, 0, none⟩)), (12, .int .i64 q203), (13, .slice A205 (List.length out204) c206), (45, .slice A25 (List.length moves) c26), (46, .int .i64 (((List.length moves) : Nat) : Int)), (47, .int .i64 x207)] ∧ Hp S Fa w0 w353 [.ro false cBool A1 aAccept, .ro false (cInt .i64) A5 aGuard, .ro false cNode A9 aNodes, .box g29 26 [.int .i64 aProps, .slice A1 (List.length aAccept) c2, .slice A5 (List.length aGuard) c6, .slice A9 (List.length aNodes) c10], .box g34 29 [.int .u8 s.1, .int .u8 s.2], .ro false (cInt .i64) A13 xRanks, .ro false (cSl (cInt .u8)) A17 xReply, .ro false (cInt .u8) A21 xChoice, .box g39 33 [.bool xWins, .slice A13 (List.length xRanks) c14, .slice A17 (List.length xReply) c18, .slice A21 (List.length xChoice) c22], .row true (cInt .i64) 3 A205 c206 out204, .ro false (cInt .u8) A25 moves] ∧ strat_Play_l0 N aProps aAccept aGuard aNodes s xWins xReply xChoice moves m354 q203 out204 x207 = some x350) N ?_ ?_
  ·
   exact ⟨0, ([0] : List Int), 0, (some ⟨g62, 0, none⟩), (List.length ([0] : List Int)), E.pick _ ⟨rfl, rfl, rfl, rfl, rfl, rfl, rfl, rfl, trivial⟩, H.sel [0, 1, 2, 7, 8, 3, 4, 5, 9, 10, 6] rfl, hL351⟩
  clear E H hL351; intro m354 a w353 hI_
  obtain ⟨q203, out204, x207, A205, c206, E, H, hP⟩ := hI_
  obtain ⟨m349, rfl⟩ : ∃ q_, m354 = q_ + 1 := by cases m354 with | zero => rw [strat_Play_l0] at hP; cases hP | succ q_ => exact ⟨q_, rfl⟩
  rw [strat_Play_l0] at hP
  refine wp_seq ?_
  refine wp_region_lit ?_
  refine vn tbok 1 [] [(48, .bool (decide (x207 < (((List.length moves) : Nat) : Int))))] [] E (by kernel_rfl) (by kernel_rfl) trivial ?_
  clear E; intro a E
  refine wpList_nil ?_
  refine th_n ?_
  refine wp_seq ?_
  refine E.cases (t := 48) rfl (fun hb_ E_ => ?_) (fun hb_ E_ => ?_)
  ·
   replace E := E_; clear E_
   have h356 : x207 < (((List.length moves) : Nat) : Int) := of_decide_eq_true hb_
   clear hb_; replace hP := ite_t h356 hP
   refine c_true E rfl ?_
   refine wp_skip ?_
   refine th_n ?_
   refine wp_seq ?_
   refine wp_block ?_
   refine wp_seq ?_
   refine wp_region_lit ?_
   obtain ⟨g357, hP⟩ := ask_inv hP
   obtain ⟨b358, o359, e_b358⟩ := (H.rd 10 rds_ro).addr (idx_pos g357)
   subst e_b358
   refine vn tbok 3 [.int .u8 (List.getD moves (Int.toNat x207) 0)] [(15, .int .u8 (List.getD moves (Int.toNat x207) 0))] [0 ≤ x207 ∧ x207 < (((List.length moves) : Nat) : Int), World.cell? w353 ⟨b358, o359 + (Int.toNat x207) * 1, none⟩ = some (.int .u8 (List.getD moves (Int.toNat x207) 0))] E (by kernel_rfl) (by kernel_rfl) ⟨g357, Rds.at1 (H.rd 10 rds_ro) 0 g357⟩ ?_
   clear E; intro a E
   refine wpList_nil ?_
   refine th_n ?_
   refine wp_seq ?_
   refine wp_seq ?_
   refine wp_region_lit ?_
   obtain ⟨g360, hP⟩ := ask_inv hP
   obtain ⟨b361, o362, e_b361⟩ := (H.rd 0 rds_ro).addr (idx_pos g360)
   subst e_b361
   refine vn tbok 5 [.slice (some ⟨b361, o362, none⟩) (List.length aAccept) c2, .bool (List.getD aAccept (Int.toNat q203) false)] [(55, .bool (List.getD aAccept (Int.toNat q203) false))] [World.cell? w353 ⟨g29, 1, none⟩ = some (.slice (some ⟨b361, o362, none⟩) (List.length aAccept) c2), 0 ≤ q203 ∧ q203 < (((List.length aAccept) : Nat) : Int), World.cell? w353 ⟨b361, o362 + (Int.toNat q203) * 1, none⟩ = some (.bool (List.getD aAccept (Int.toNat q203) false))] E (by kernel_rfl) (by kernel_rfl) ⟨(H.box 3 rfl).cell (j := 1) rfl, g360, Rds.at1 (H.rd 0 rds_ro) false g360⟩ ?_
   clear E; intro a E
   refine wpList_nil ?_
   refine th_n ?_
   refine E.cases (t := 55) rfl (fun hb_ E_ => ?_) (fun hb_ E_ => ?_)
   ·
    replace E := E_; clear E_
    have h363 : (List.getD aAccept (Int.toNat q203) false) = true := hb_
    clear hb_; replace hP := ite_t h363 hP
    refine c_true E rfl ?_
    refine wp_exit ?_
    refine th_exit ?_
    refine bl_miss rfl ?_
    refine th_exit ?_
    have hx_ := Option.some.inj hP
    refine th_exit (.inl ⟨1, rfl, ?_⟩)
    exact ⟨rfl, out204, A205, c206, E.pick _ ⟨rfl, trivial⟩, H.sel [9] rfl, hx_.symm⟩
   replace E := E_; clear E_
   have h364 : ¬ ((List.getD aAccept (Int.toNat q203) false) = true) := (ne_true_of_eq_false hb_)
   clear hb_; replace hP := ite_f h364 hP
   refine c_false E rfl ?_
   refine wp_skip ?_
   refine th_n ?_
   refine wp_seq ?_
   refine wp_region_lit ?_
   refine vn tbok 3 [.int .u8 s.2] [(16, .int .u8 s.2)] [World.cell? w353 ⟨g34, 1, none⟩ = some (.int .u8 s.2)] E (by kernel_rfl) (by kernel_rfl) ((H.box 4 rfl).cell (j := 1) rfl) ?_
   clear E; intro a E
   refine wpList_nil ?_
   refine th_n ?_
   refine wp_seq ?_
   refine wp_seq ?_
   refine wp_region_lit ?_
   refine vn tbok 2 [.bool xWins] [(59, .bool xWins)] [World.cell? w353 ⟨g39, 0, none⟩ = some (.bool xWins)] E (by kernel_rfl) (by kernel_rfl) ((H.box 8 rfl).cell (j := 0) rfl) ?_
   clear E; intro a E
   refine wpList_nil ?_
   refine th_n ?_
   obtain ⟨x368, h369, hK370⟩ := bind_inv hP
   clear hP
   refine meet_cut (fun a w372 => ∃ (x371 : Int), Fr a 125 [(4, .pointer (some ⟨g29, 0, none⟩)), (5, .pointer (some ⟨g34, 0, none⟩)), (6, .pointer (some ⟨g39, 0, none⟩)), (12, .int .i64 q203), (13, .slice A205 (List.length out204) c206), (15, .int .u8 (List.getD moves (Int.toNat x207) 0)), (16, .int .u8 x371), (45, .slice (some ⟨b358, o359, none⟩) (List.length moves) c26), (46, .int .i64 (((List.length moves) : Nat) : Int)), (47, .int .i64 x207)] ∧ Hp S Fa w0 w372 [.ro false cBool (some ⟨b361, o362, none⟩) aAccept, .ro false (cInt .i64) A5 aGuard, .ro false cNode A9 aNodes, .box g29 26 [.int .i64 aProps, .slice (some ⟨b361, o362, none⟩) (List.length aAccept) c2, .slice A5 (List.length aGuard) c6, .slice A9 (List.length aNodes) c10], .box g34 29 [.int .u8 s.1, .int .u8 s.2], .ro false (cInt .i64) A13 xRanks, .ro false (cSl (cInt .u8)) A17 xReply, .ro false (cInt .u8) A21 xChoice, .box g39 33 [.bool xWins, .slice A13 (List.length xRanks) c14, .slice A17 (List.length xReply) c18, .slice A21 (List.length xChoice) c22], .row true (cInt .i64) 3 A205 c206 out204, .ro false (cInt .u8) (some ⟨b358, o359, none⟩) moves] ∧ x368 = x371) ?_ ?_
   ·
    have hP := h369; clear h369; rw [strat_Play_j1] at hP
    refine E.cases (t := 59) rfl (fun hb_ E_ => ?_) (fun hb_ E_ => ?_)
    ·
     replace E := E_; clear E_
     have h373 : xWins = true := hb_
     clear hb_; replace hP := ite_t h373 hP
     refine c_true E rfl ?_
     refine wp_region_lit ?_
     refine vn tbok 3 [.int .u8 s.1] [(16, .int .u8 s.1)] [World.cell? w353 ⟨g34, 0, none⟩ = some (.int .u8 s.1)] E (by kernel_rfl) (by kernel_rfl) ((H.box 4 rfl).cell (j := 0) rfl) ?_
     clear E; intro a E
     refine wpList_nil ?_
     have hx_ := Option.some.inj hP
     exact .inl ⟨rfl, s.1, E.pick _ ⟨rfl, rfl, rfl, rfl, rfl, rfl, rfl, rfl, rfl, rfl, trivial⟩, H.sel [0, 1, 2, 3, 4, 5, 6, 7, 8, 9, 10] rfl, hx_.symm⟩
    replace E := E_; clear E_
    have h374 : ¬ (xWins = true) := (ne_true_of_eq_false hb_)
    clear hb_; replace hP := ite_f h374 hP
    refine c_false E rfl ?_
    refine wp_skip ?_
    have hx_ := Option.some.inj hP
    exact .inl ⟨rfl, s.2, E.pick _ ⟨rfl, rfl, rfl, rfl, rfl, rfl, rfl, rfl, rfl, rfl, trivial⟩, H.sel [0, 1, 2, 3, 4, 5, 6, 7, 8, 9, 10] rfl, hx_.symm⟩
   clear E H h369; rintro a w372 ⟨x371, E, H, hx_⟩
   subst hx_; have hP := hK370; clear hK370
   refine th_n ?_
   refine wp_seq ?_
   refine wp_region_lit ?_
   refine vn tbok 2 [] [(63, .int .u8 x368), (64, .int .u8 (List.getD moves (Int.toNat x207) 0))] [] E (by kernel_rfl) (by kernel_rfl) trivial ?_
   clear E; intro a E
   obtain ⟨r375, h376, hP⟩ := bind_inv hP
   obtain ⟨Fa377, Hc378, hb379⟩ := H.call [] [] rfl rfl trivial
   refine e_call E rfl rfl Try.func46 rfl rfl rfl (board_Number_calls  x368 (List.getD moves (Int.toNat x207) 0)  Hc378 h376) ?_
   rintro v380 w381 a ⟨rfl, HR382⟩ E_
   replace E := E_ _ rfl; clear E_
   obtain ⟨H_, hc383⟩ := hb379 _ _ HR382 rfl
   replace H := H_; clear H_; try dsimp only [setn, addE, goneL] at H
   refine vn tbok 5 [] [(17, .int .i64 r375.1), (18, .int .i64 r375.2)] [] E (by kernel_rfl) (by kernel_rfl) trivial ?_
   clear E; intro a E
   refine wpList_nil ?_
   refine th_n ?_
   refine wp_seq ?_
   refine wp_seq ?_
   refine wp_region_lit ?_
   refine vn tbok 2 [] [(69, .bool ((r375.2 : Int) != 0))] [] E (by kernel_rfl) (by kernel_rfl) trivial ?_
   clear E; intro a E
   refine wpList_nil ?_
   refine th_n ?_
   refine E.cases (t := 69) rfl (fun hb_ E_ => ?_) (fun hb_ E_ => ?_)
   ·
    replace E := E_; clear E_
    have h384 : ¬ ((r375.2 : Int) = 0) := bne_iff_ne.1 hb_
    clear hb_; replace hP := ite_f h384 hP
    refine c_true E rfl ?_
    refine wp_seq ?_
    refine wp_region_lit ?_
    refine vn tbok 3 [] [(8, .slice none 0 0), (9, .int .i64 r375.2)] [] E (by kernel_rfl) (by kernel_rfl) trivial ?_
    clear E; intro a E
    refine wpList_nil ?_
    refine th_n ?_
    refine wp_ret ?_
    refine th_ret ?_
    refine bl_ret ?_
    refine th_ret ?_
    refine th_ret ?_
    refine .inr ⟨rfl, ?_⟩
    refine bl_ret ?_
    refine th_ret ?_
    replace H := H.nilrow (cInt .i64) 3; try dsimp only [setn, addE, goneL] at H
    have hx_ := Option.some.inj hP; subst hx_
    have hP : some (([], r375.2)) = some r := hK352
    obtain rfl := Option.some.inj hP
    refine ret2 E rfl rfl rfl ?_
    exact ⟨_, rfl, none, 0, rfl, H.sel [11] rfl⟩
   replace E := E_; clear E_
   have h386 : (r375.2 : Int) = 0 := bne_eq_false_iff_eq.1 hb_
   clear hb_; replace hP := ite_t h386 hP
   refine c_false E rfl ?_
   refine wp_skip ?_
   refine th_n ?_
   refine wp_seq ?_
   refine wp_region_lit ?_
   refine vn tbok 3 [.agg #[.int .i64 aProps, .slice (some ⟨b361, o362, none⟩) (List.length aAccept) c2, .slice A5 (List.length aGuard) c6, .slice A9 (List.length aNodes) c10], .agg #[.int .u8 s.1, .int .u8 s.2]] [(72, .agg #[.int .i64 aProps, .slice (some ⟨b361, o362, none⟩) (List.length aAccept) c2, .slice A5 (List.length aGuard) c6, .slice A9 (List.length aNodes) c10]), (73, .agg #[.int .u8 s.1, .int .u8 s.2]), (74, .int .i64 q203)] [cellsAt w381 g29 (0) [.int .i64 aProps, .slice (some ⟨b361, o362, none⟩) (List.length aAccept) c2, .slice A5 (List.length aGuard) c6, .slice A9 (List.length aNodes) c10], cellsAt w381 g34 (0) [.int .u8 s.1, .int .u8 s.2]] E (by kernel_rfl) (by kernel_rfl) ⟨(H.box 3 rfl).sub 0 _ rfl, (H.box 4 rfl).sub 0 _ rfl⟩ ?_
   clear E; intro a E
   obtain ⟨r387, h388, hP⟩ := bind_inv hP
   obtain ⟨Fa389, Hc390, hb391⟩ := H.call [] [(0, false), (1, false), (2, false)] rfl rfl trivial
   refine e_call E rfl rfl Try.func34 rfl rfl rfl (board_Goes_calls (some ⟨b361, o362, none⟩) c2 A5 c6 A9 c10 aProps aAccept aGuard aNodes (s.1, s.2) q203 hk3 hk7 hk11 Hc390 h388) ?_
   rintro v392 w393 a ⟨A396, c397, rfl, HR394⟩ E_
   replace E := E_ _ rfl; clear E_
   obtain ⟨H_, hc395⟩ := hb391 _ _ HR394 rfl
   replace H := H_; clear H_; try dsimp only [setn, addE, goneL] at H
   refine vn tbok 5 [] [(19, .slice A396 (List.length r387.1) c397)] [] E (by kernel_rfl) (by kernel_rfl) trivial ?_
   clear E; intro a E
   refine wpList_nil ?_
   refine th_n ?_
   refine wp_seq ?_
   refine wp_seq ?_
   refine wp_region_lit ?_
   refine vn tbok 2 [.bool xWins] [(79, .bool xWins)] [World.cell? w393 ⟨g39, 0, none⟩ = some (.bool xWins)] E (by kernel_rfl) (by kernel_rfl) ((H.box 8 rfl).cell (j := 0) rfl) ?_
   clear E; intro a E
   refine wpList_nil ?_
   refine th_n ?_
   refine E.cases (t := 79) rfl (fun hb_ E_ => ?_) (fun hb_ E_ => ?_)
   ·
    replace E := E_; clear E_
    have h399 : xWins = true := hb_
    clear hb_; replace hP := ite_t h399 hP
    refine c_true E rfl ?_
    refine wp_seq ?_
    obtain ⟨g400, hP⟩ := ask_inv hP
    obtain ⟨b401, o402, e_b401⟩ := (H.rd 6 rds_ro).addr (idx_pos g400)
    subst e_b401
    obtain ⟨A403, c404, hl405, hk406, H⟩ := H.subSl 6 false (el_ro rfl) g400
    try dsimp only [addE] at H
    obtain ⟨g408, hP⟩ := ask_inv hP
    obtain ⟨b409, o410, e_b409⟩ := (H.rd 12 rds_ro).addr (idx_pos g408)
    subst e_b409
    obtain ⟨r411, h412, hP⟩ := bind_inv hP
    have HR423 := H
    refine dr_start (S := fun w_ => Chg (atL []) w393 w_) (by kernel_rfl) ?_
    intro w420 hc421
    have HS422 : Chg (atL []) w393 w420 := hc421.mono (fun _ _ h_ => h_.elim)
    replace H := H.ext hc421
    refine dn tbok (by kernel_rfl) [0, 1, 2, 3, 4, 5, 6, 7, 8, 9] [.int .u8 s.2, .slice (some ⟨b401, o402, none⟩) (List.length xReply) c18, .slice (some ⟨b409, o410, none⟩) (List.length (List.getD xReply (Int.toNat q203) [])) c404, .int .u8 (List.getD (List.getD xReply (Int.toNat q203) []) (Int.toNat r375.1) 0)] [(82, .int .u8 s.2), (90, .int .u8 (List.getD (List.getD xReply (Int.toNat q203) []) (Int.toNat r375.1) 0))] (fun w_ => [World.cell? w_ ⟨g34, 1, none⟩ = some (.int .u8 s.2), World.cell? w_ ⟨g39, 2, none⟩ = some (.slice (some ⟨b401, o402, none⟩) (List.length xReply) c18), 0 ≤ q203 ∧ q203 < (((List.length xReply) : Nat) : Int), World.cell? w_ ⟨b401, o402 + (Int.toNat q203) * 1, none⟩ = some (.slice (some ⟨b409, o410, none⟩) (List.length (List.getD xReply (Int.toNat q203) [])) c404), 0 ≤ r375.1 ∧ r375.1 < (((List.length (List.getD xReply (Int.toNat q203) [])) : Nat) : Int), World.cell? w_ ⟨b409, o410 + (Int.toNat r375.1) * 1, none⟩ = some (.int .u8 (List.getD (List.getD xReply (Int.toNat q203) []) (Int.toNat r375.1) 0))]) 6 E (fun _ _ => by kernel_rfl) (by kernel_rfl) (fun w_ hS_ => ⟨(HR423.boxk [] hS_ 4 rfl rfl).cell (j := 1) rfl, (HR423.boxk [] hS_ 8 rfl rfl).cell (j := 2) rfl, g400, hS_.cell (hl405) (HR423.blk [] 6 rds_ro (idx_pos g400) rfl), g408, Rds.at1 (HR423.rdk [] hS_ 12 rds_ro rfl) 0 g408⟩) (by kernel_rfl) HS422 ?_
    clear E; intro a E
    refine wpAnyH_all (rs := [10]) (by kernel_rfl) (by simp) ?_
    refine all1 ?_
    refine wpOp_of_list rfl ?_
    obtain ⟨Fa424, Hc425, hb426⟩ := H.call [] [] rfl rfl trivial
    refine e_call E rfl rfl Try.func46 rfl rfl rfl (board_Number_calls  s.2 (List.getD (List.getD xReply (Int.toNat q203) []) (Int.toNat r375.1) 0)  Hc425 h412) ?_
    rintro v427 w428 a ⟨rfl, HR429⟩ E_
    replace E := E_ _ rfl; clear E_
    obtain ⟨H_, hc430⟩ := hb426 _ _ HR429 rfl
    replace HS422 := HS422.ext (callS_ext hc430)
    replace H := H_; clear H_; try dsimp only [setn, addE, goneL] at H
    refine wpList_nil ?_
    refine th_n ⟨HS422, ?_⟩
    refine dn tbok (by kernel_rfl) [11, 12, 13, 14, 15] [] [(21, .int .i64 r411.1)] (fun w_ => []) 0 E (fun _ _ => by kernel_rfl) (by kernel_rfl) (fun w_ hS_ => trivial) (by kernel_rfl) HS422 ?_
    clear E; intro a E
    refine dr_done (by kernel_rfl) ?_
    clear HS422 HR423
    refine th_n ?_
    refine wp_region_lit ?_
    obtain ⟨g431, hP⟩ := ask_inv hP
    obtain ⟨b432, e_b432⟩ := H.raddr 11 rfl (idx_pos g431)
    subst e_b432
    obtain ⟨A434, c435, hl436, hk437, H⟩ := H.subSl 11 true (el_row rfl) g431
    try dsimp only [addE] at H
    obtain ⟨g439, hP⟩ := ask_inv hP
    obtain ⟨b440, o441, e_b440⟩ := (H.rd 13 rds_ro).addr (idx_pos g439)
    subst e_b440
    refine vn tbok 8 [.slice (some ⟨b440, o441, none⟩) (List.length (List.getD r387.1 (Int.toNat r375.1) [])) c435, .int .i64 (List.getD (List.getD r387.1 (Int.toNat r375.1) []) (Int.toNat r411.1) 0)] [(12, .int .i64 (List.getD (List.getD r387.1 (Int.toNat r375.1) []) (Int.toNat r411.1) 0))] [0 ≤ r375.1 ∧ r375.1 < (((List.length r387.1) : Nat) : Int), World.cell? w428 ⟨b432, 0 + (Int.toNat r375.1) * 1, none⟩ = some (.slice (some ⟨b440, o441, none⟩) (List.length (List.getD r387.1 (Int.toNat r375.1) [])) c435), 0 ≤ r411.1 ∧ r411.1 < (((List.length (List.getD r387.1 (Int.toNat r375.1) [])) : Nat) : Int), World.cell? w428 ⟨b440, o441 + (Int.toNat r411.1) * 1, none⟩ = some (.int .i64 (List.getD (List.getD r387.1 (Int.toNat r375.1) []) (Int.toNat r411.1) 0))] E (by kernel_rfl) (by kernel_rfl) ⟨g431, hl436, g439, Rds.at1 (H.rd 13 rds_ro) 0 g439⟩ ?_
    clear E; intro a E
    refine wpList_nil ?_
    refine th_n ?_
    refine wp_region_lit ?_
    refine vn tbok 2 [] [(119, .slice A205 (List.length out204) c206), (120, .int .i64 (List.getD (List.getD r387.1 (Int.toNat r375.1) []) (Int.toNat r411.1) 0))] [] E (by kernel_rfl) (by kernel_rfl) trivial ?_
    clear E; intro a E
    refine h_buildSlice (ps := [(0, .int .i64 (List.getD (List.getD r387.1 (Int.toNat r375.1) []) (Int.toNat r411.1) 0))]) (cs := [.int .i64 (List.getD (List.getD r387.1 (Int.toNat r375.1) []) (Int.toNat r411.1) 0)]) H E rfl rfl tbok rfl rfl (by kernel_rfl) ?_
    intro w443 g442 a hc444 hg446 H_ E_
    replace E := E_ _ rfl; clear E_
    replace H := H_; clear H_; try dsimp only [setn, addE, goneL] at H
    obtain ⟨g447, hP⟩ := ask_inv hP
    refine h_append (cInt .i64) (xs := out204) (ys := ([(List.getD (List.getD r387.1 (Int.toNat r375.1) []) (Int.toNat r411.1) 0)] : List Int)) (0 : Int) H 9 rfl E rfl rfl tbok rfl rfl rfl rfl rfl (fun _ _ => rfl) rfl rfl (fun _ HF_ => HF_.srcB 14 rfl (⟨_, _, rfl, rfl, rfl⟩)) g447 ?_
    intro w448 A449 c450 a hc451 hA452 H_ E_
    replace E := E_ _ rfl; clear E_
    replace H := H_; clear H_; try dsimp only [setn, addE, goneL] at H
    refine vn tbok 1 [] [(13, .slice A449 (List.length (out204 ++ ([(List.getD (List.getD r387.1 (Int.toNat r375.1) []) (Int.toNat r411.1) 0)] : List Int))) c450)] [] E (by kernel_rfl) (by kernel_rfl) trivial ?_
    clear E; intro a E
    refine wpList_nil ?_
    refine bl_n ?_
    refine th_n ?_
    refine wp_region_lit ?_
    obtain ⟨g453, hP⟩ := ask_inv hP
    refine vn tbok 2 [.int .i64 (x207 + 1)] [(47, .int .i64 (x207 + 1))] [IntKind.i64.wrap (x207 + 1) = x207 + 1] E (by kernel_rfl) (by kernel_rfl) (wrap_in g453) ?_
    clear E; intro a E
    refine wpList_nil ?_
    exact th_n ⟨m349, Nat.lt_succ_self _, (List.getD (List.getD r387.1 (Int.toNat r375.1) []) (Int.toNat r411.1) 0), out204 ++ ([(List.getD (List.getD r387.1 (Int.toNat r375.1) []) (Int.toNat r411.1) 0)] : List Int), x207 + 1, A449, c450, E.pick _ ⟨rfl, rfl, rfl, rfl, rfl, rfl, rfl, rfl, trivial⟩, H.sel [0, 1, 2, 3, 4, 5, 6, 7, 8, 9, 10] rfl, hP⟩
   replace E := E_; clear E_
   have h454 : ¬ (xWins = true) := (ne_true_of_eq_false hb_)
   clear hb_; replace hP := ite_f h454 hP
   refine c_false E rfl ?_
   refine wp_seq ?_
   obtain ⟨g455, hP⟩ := ask_inv hP
   obtain ⟨b456, o457, e_b456⟩ := (H.rd 7 rds_ro).addr (idx_pos g455)
   subst e_b456
   obtain ⟨r458, h459, hP⟩ := bind_inv hP
   have HR470 := H
   refine dr_start (S := fun w_ => Chg (atL []) w393 w_) (by kernel_rfl) ?_
   intro w467 hc468
   have HS469 : Chg (atL []) w393 w467 := hc468.mono (fun _ _ h_ => h_.elim)
   replace H := H.ext hc468
   refine dn tbok (by kernel_rfl) [0, 1, 2, 3, 4, 5, 6] [.int .u8 s.1, .slice (some ⟨b456, o457, none⟩) (List.length xChoice) c22, .int .u8 (List.getD xChoice (Int.toNat q203) 0)] [(103, .int .u8 s.1), (108, .int .u8 (List.getD xChoice (Int.toNat q203) 0))] (fun w_ => [World.cell? w_ ⟨g34, 0, none⟩ = some (.int .u8 s.1), World.cell? w_ ⟨g39, 3, none⟩ = some (.slice (some ⟨b456, o457, none⟩) (List.length xChoice) c22), 0 ≤ q203 ∧ q203 < (((List.length xChoice) : Nat) : Int), World.cell? w_ ⟨b456, o457 + (Int.toNat q203) * 1, none⟩ = some (.int .u8 (List.getD xChoice (Int.toNat q203) 0))]) 6 E (fun _ _ => by kernel_rfl) (by kernel_rfl) (fun w_ hS_ => ⟨(HR470.boxk [] hS_ 4 rfl rfl).cell (j := 0) rfl, (HR470.boxk [] hS_ 8 rfl rfl).cell (j := 3) rfl, g455, Rds.at1 (HR470.rdk [] hS_ 7 rds_ro rfl) 0 g455⟩) (by kernel_rfl) HS469 ?_
   clear E; intro a E
   refine wpAnyH_all (rs := [7]) (by kernel_rfl) (by simp) ?_
   refine all1 ?_
   refine wpOp_of_list rfl ?_
   obtain ⟨Fa471, Hc472, hb473⟩ := H.call [] [] rfl rfl trivial
   refine e_call E rfl rfl Try.func46 rfl rfl rfl (board_Number_calls  s.1 (List.getD xChoice (Int.toNat q203) 0)  Hc472 h459) ?_
   rintro v474 w475 a ⟨rfl, HR476⟩ E_
   replace E := E_ _ rfl; clear E_
   obtain ⟨H_, hc477⟩ := hb473 _ _ HR476 rfl
   replace HS469 := HS469.ext (callS_ext hc477)
   replace H := H_; clear H_; try dsimp only [setn, addE, goneL] at H
   refine wpList_nil ?_
   refine th_n ⟨HS469, ?_⟩
   refine dn tbok (by kernel_rfl) [8, 9, 10, 11, 12] [] [(23, .int .i64 r458.1)] (fun w_ => []) 0 E (fun _ _ => by kernel_rfl) (by kernel_rfl) (fun w_ hS_ => trivial) (by kernel_rfl) HS469 ?_
   clear E; intro a E
   refine dr_done (by kernel_rfl) ?_
   clear HS469 HR470
   refine th_n ?_
   refine wp_region_lit ?_
   obtain ⟨g478, hP⟩ := ask_inv hP
   obtain ⟨b479, e_b479⟩ := H.raddr 11 rfl (idx_pos g478)
   subst e_b479
   obtain ⟨A481, c482, hl483, hk484, H⟩ := H.subSl 11 true (el_row rfl) g478
   try dsimp only [addE] at H
   obtain ⟨g486, hP⟩ := ask_inv hP
   obtain ⟨b487, o488, e_b487⟩ := (H.rd 12 rds_ro).addr (idx_pos g486)
   subst e_b487
   refine vn tbok 8 [.slice (some ⟨b487, o488, none⟩) (List.length (List.getD r387.1 (Int.toNat r458.1) [])) c482, .int .i64 (List.getD (List.getD r387.1 (Int.toNat r458.1) []) (Int.toNat r375.1) 0)] [(12, .int .i64 (List.getD (List.getD r387.1 (Int.toNat r458.1) []) (Int.toNat r375.1) 0))] [0 ≤ r458.1 ∧ r458.1 < (((List.length r387.1) : Nat) : Int), World.cell? w475 ⟨b479, 0 + (Int.toNat r458.1) * 1, none⟩ = some (.slice (some ⟨b487, o488, none⟩) (List.length (List.getD r387.1 (Int.toNat r458.1) [])) c482), 0 ≤ r375.1 ∧ r375.1 < (((List.length (List.getD r387.1 (Int.toNat r458.1) [])) : Nat) : Int), World.cell? w475 ⟨b487, o488 + (Int.toNat r375.1) * 1, none⟩ = some (.int .i64 (List.getD (List.getD r387.1 (Int.toNat r458.1) []) (Int.toNat r375.1) 0))] E (by kernel_rfl) (by kernel_rfl) ⟨g478, hl483, g486, Rds.at1 (H.rd 12 rds_ro) 0 g486⟩ ?_
   clear E; intro a E
   refine wpList_nil ?_
   refine th_n ?_
   refine wp_region_lit ?_
   refine vn tbok 2 [] [(119, .slice A205 (List.length out204) c206), (120, .int .i64 (List.getD (List.getD r387.1 (Int.toNat r458.1) []) (Int.toNat r375.1) 0))] [] E (by kernel_rfl) (by kernel_rfl) trivial ?_
   clear E; intro a E
   refine h_buildSlice (ps := [(0, .int .i64 (List.getD (List.getD r387.1 (Int.toNat r458.1) []) (Int.toNat r375.1) 0))]) (cs := [.int .i64 (List.getD (List.getD r387.1 (Int.toNat r458.1) []) (Int.toNat r375.1) 0)]) H E rfl rfl tbok rfl rfl (by kernel_rfl) ?_
   intro w490 g489 a hc491 hg493 H_ E_
   replace E := E_ _ rfl; clear E_
   replace H := H_; clear H_; try dsimp only [setn, addE, goneL] at H
   obtain ⟨g494, hP⟩ := ask_inv hP
   refine h_append (cInt .i64) (xs := out204) (ys := ([(List.getD (List.getD r387.1 (Int.toNat r458.1) []) (Int.toNat r375.1) 0)] : List Int)) (0 : Int) H 9 rfl E rfl rfl tbok rfl rfl rfl rfl rfl (fun _ _ => rfl) rfl rfl (fun _ HF_ => HF_.srcB 13 rfl (⟨_, _, rfl, rfl, rfl⟩)) g494 ?_
   intro w495 A496 c497 a hc498 hA499 H_ E_
   replace E := E_ _ rfl; clear E_
   replace H := H_; clear H_; try dsimp only [setn, addE, goneL] at H
   refine vn tbok 1 [] [(13, .slice A496 (List.length (out204 ++ ([(List.getD (List.getD r387.1 (Int.toNat r458.1) []) (Int.toNat r375.1) 0)] : List Int))) c497)] [] E (by kernel_rfl) (by kernel_rfl) trivial ?_
   clear E; intro a E
   refine wpList_nil ?_
   refine bl_n ?_
   refine th_n ?_
   refine wp_region_lit ?_
   obtain ⟨g500, hP⟩ := ask_inv hP
   refine vn tbok 2 [.int .i64 (x207 + 1)] [(47, .int .i64 (x207 + 1))] [IntKind.i64.wrap (x207 + 1) = x207 + 1] E (by kernel_rfl) (by kernel_rfl) (wrap_in g500) ?_
   clear E; intro a E
   refine wpList_nil ?_
   exact th_n ⟨m349, Nat.lt_succ_self _, (List.getD (List.getD r387.1 (Int.toNat r458.1) []) (Int.toNat r375.1) 0), out204 ++ ([(List.getD (List.getD r387.1 (Int.toNat r458.1) []) (Int.toNat r375.1) 0)] : List Int), x207 + 1, A496, c497, E.pick _ ⟨rfl, rfl, rfl, rfl, rfl, rfl, rfl, rfl, trivial⟩, H.sel [0, 1, 2, 3, 4, 5, 6, 7, 8, 9, 10] rfl, hP⟩
  replace E := E_; clear E_
  have h501 : ¬ (x207 < (((List.length moves) : Nat) : Int)) := of_decide_eq_false hb_
  clear hb_; replace hP := ite_f h501 hP
  refine c_false E rfl ?_
  refine wp_exit ?_
  refine th_exit ?_
  have hx_ := Option.some.inj hP
  refine th_exit (.inl ⟨1, rfl, ?_⟩)
  exact ⟨rfl, out204, A205, c206, E.pick _ ⟨rfl, trivial⟩, H.sel [9] rfl, hx_.symm⟩
 clear E H hL351; intro i_ a w353 hM_
 obtain ⟨rfl, x355, A347, c348, E, H, hx_⟩ := hM_
 subst hx_; have hP := elim_l hK352
 clear hK352
 refine bl_hit ?_
 refine th_n ?_
 refine wp_seq ?_
 refine wp_region_lit ?_
 refine vn tbok 3 [] [(8, .slice A347 (List.length x355) c348), (9, .int .i64 0)] [] E (by kernel_rfl) (by kernel_rfl) trivial ?_
 clear E; intro a E
 refine wpList_nil ?_
 refine th_n ?_
 refine wp_ret ?_
 obtain rfl := Option.some.inj hP
 refine ret2 E rfl rfl rfl ?_
 exact ⟨_, rfl, A347, c348, rfl, H.sel [0] rfl⟩

end Go.V
