/- Plain functions, and the calls that give them. -/
import Derived.Test.YtckpjnoajnbmdaaA6
set_option linter.all false
set_option linter.unusedVariables false
set_option linter.unnecessarySimpa false
set_option linter.unusedSimpArgs false
namespace Go.V
open Go Go.Proofs
/-! rejoinder/strat.Check -/
def strat_Check_l0 (N : Nat) (aProps : Int) (aAccept : List Bool) (aGuard : List Int) (aNodes : List Nd) (s : Int × Int) (xWins : Bool) (xRanks : List Int) (xReply : List (List Int)) (xChoice : List Int) : Nat → Int → Option (Unit ⊕ (Bool × Int))
  | 0, _ => none
  | m91 + 1, x76 =>
    if x76 < (((List.length aAccept) : Nat) : Int) then
      Option.bind (strat_state N aProps aAccept aGuard aNodes (s.1, s.2) xWins xRanks xReply xChoice x76) fun r99 =>
      if r99 = true then
        ask (in64 (x76 + 1)) <|
        strat_Check_l0 N aProps aAccept aGuard aNodes s xWins xRanks xReply xChoice m91 (x76 + 1)
      else
        some (Sum.inr (false, 0))
    else
      some (Sum.inl ())
def strat_Check (N : Nat) (aProps : Int) (aAccept : List Bool) (aGuard : List Int) (aNodes : List Nd) (s : Int × Int) (xWins : Bool) (xRanks : List Int) (xReply : List (List Int)) (xChoice : List Int) : Option (Bool × Int) :=
  Option.bind (board_Check N aProps aAccept aGuard aNodes (s.1, s.2)) fun r40 =>
  if (r40 : Int) = 0 then
    if ((((List.length xRanks) : Nat) : Int) : Int) = (((List.length aAccept) : Nat) : Int) then
      if ((((List.length xReply) : Nat) : Int) : Int) = (((List.length aAccept) : Nat) : Int) then
        if ((((List.length xChoice) : Nat) : Int) : Int) = (((List.length aAccept) : Nat) : Int) then
          ask (idx (0 : Int) (List.length xRanks)) <|
          if xWins = (decide (0 ≤ (List.getD xRanks (Int.toNat (0 : Int)) 0))) then
            Option.bind (strat_Check_l0 N aProps aAccept aGuard aNodes s xWins xRanks xReply xChoice N 0) fun x92 =>
            Sum.elim (fun x97 =>
              some (true, 0))
             (fun x112 =>
              some x112) x92
          else
            some (false, 0)
        else
          some (false, 0)
      else
        some (false, 0)
    else
      some (false, 0)
  else
    some (false, r40)
set_option maxRecDepth 100000 in
set_option maxHeartbeats 4000000 in
theorem strat_Check_calls {N : Nat} {S Fa : Nat → Prop} {w0 : World} {r : Bool × Int} (A1 : Option Addr) (c2 : Nat) (A5 : Option Addr) (c6 : Nat) (A9 : Option Addr) (c10 : Nat) (A13 : Option Addr) (c14 : Nat) (A17 : Option Addr) (c18 : Nat) (A21 : Option Addr) (c22 : Nat) (aProps : Int) (aAccept : List Bool) (aGuard : List Int) (aNodes : List Nd) (s : Int × Int) (xWins : Bool) (xRanks : List Int) (xReply : List (List Int)) (xChoice : List Int) (hk3 : List.length aAccept ≤ c2) (hk7 : List.length aGuard ≤ c6) (hk11 : List.length aNodes ≤ c10) (hk15 : List.length xRanks ≤ c14) (hk19 : List.length xReply ≤ c18) (hk23 : List.length xChoice ≤ c22) (H : Hp S Fa w0 w0 [.ro false cBool A1 aAccept, .ro false (cInt .i64) A5 aGuard, .ro false cNode A9 aNodes, .ro false (cInt .i64) A13 xRanks, .ro false (cSl (cInt .u8)) A17 xReply, .ro false (cInt .u8) A21 xChoice]) (hP : strat_Check N aProps aAccept aGuard aNodes s xWins xRanks xReply xChoice = some r) :
    Calls Try.prog 41 #[.agg #[.int .i64 aProps, .slice A1 (List.length aAccept) c2, .slice A5 (List.length aGuard) c6, .slice A9 (List.length aNodes) c10], .agg #[.int .u8 s.1, .int .u8 s.2], .agg #[.bool xWins, .slice A13 (List.length xRanks) c14, .slice A17 (List.length xReply) c18, .slice A21 (List.length xChoice) c22]] w0 fun e w' => ∃ v, e = .returned v ∧ v = .tuple #[.bool r.1, .int .i64 r.2] ∧ Hp S Fa w0 w' [] := by
 refine enterV (n := 60) Try.func41 rfl rfl rfl ?_
 intro a E
 replace E := E.pick [(0, .agg #[.int .i64 aProps, .slice A1 (List.length aAccept) c2, .slice A5 (List.length aGuard) c6, .slice A9 (List.length aNodes) c10]), (1, .agg #[.int .u8 s.1, .int .u8 s.2]), (2, .agg #[.bool xWins, .slice A13 (List.length xRanks) c14, .slice A17 (List.length xReply) c18, .slice A21 (List.length xChoice) c22])] ⟨rfl, rfl, rfl, trivial⟩
 rw [strat_Check] at hP
 refine wp_seq ?_
 refine wp_region_lit ?_
 refine h_box H E rfl rfl rfl ?_
 intro w26 g25 a hc27 hg29 H_ E_
 replace E := E_ _ rfl; clear E_
 replace H := H_; clear H_; try dsimp only [setn, addE, goneL] at H
 refine h_box H E rfl rfl rfl ?_
 intro w31 g30 a hc32 hg34 H_ E_
 replace E := E_ _ rfl; clear E_
 replace H := H_; clear H_; try dsimp only [setn, addE, goneL] at H
 refine h_box H E rfl rfl rfl ?_
 intro w36 g35 a hc37 hg39 H_ E_
 replace E := E_ _ rfl; clear E_
 replace H := H_; clear H_; try dsimp only [setn, addE, goneL] at H
 refine vr tbok 2 [] [(3, .pointer (some ⟨g25, 0, none⟩)), (4, .pointer (some ⟨g30, 0, none⟩)), (5, .pointer (some ⟨g35, 0, none⟩))] [] E (by kernel_rfl) trivial ?_
 clear E; intro a E
 refine wpList_nil ?_
 refine th_n ?_
 refine wp_seq ?_
 refine wp_seq ?_
 refine wp_region_lit ?_
 refine vr tbok 2 [.agg #[.int .i64 aProps, .slice A1 (List.length aAccept) c2, .slice A5 (List.length aGuard) c6, .slice A9 (List.length aNodes) c10], .agg #[.int .u8 s.1, .int .u8 s.2]] [(3, .pointer (some ⟨g25, 0, none⟩)), (4, .pointer (some ⟨g30, 0, none⟩)), (5, .pointer (some ⟨g35, 0, none⟩)), (11, .agg #[.int .i64 aProps, .slice A1 (List.length aAccept) c2, .slice A5 (List.length aGuard) c6, .slice A9 (List.length aNodes) c10]), (12, .agg #[.int .u8 s.1, .int .u8 s.2])] [cellsAt w36 g25 (0) [.int .i64 aProps, .slice A1 (List.length aAccept) c2, .slice A5 (List.length aGuard) c6, .slice A9 (List.length aNodes) c10], cellsAt w36 g30 (0) [.int .u8 s.1, .int .u8 s.2]] E (by kernel_rfl) ⟨(H.box 6 rfl).sub 0 _ rfl, (H.box 7 rfl).sub 0 _ rfl⟩ ?_
 clear E; intro a E
 obtain ⟨r40, h41, hP⟩ := bind_inv hP
 obtain ⟨Fa42, Hc43, hb44⟩ := H.call [] [(0, false), (1, false), (2, false)] rfl rfl trivial
 refine e_call E rfl rfl Try.func23 rfl rfl rfl (board_Check_calls A1 c2 A5 c6 A9 c10 aProps aAccept aGuard aNodes (s.1, s.2) hk3 hk7 hk11 Hc43 h41) ?_
 rintro v45 w46 a ⟨rfl, HR47⟩ E_
 replace E := E_ _ rfl; clear E_
 obtain ⟨H_, hc48⟩ := hb44 _ _ HR47 rfl
 replace H := H_; clear H_; try dsimp only [setn, addE, goneL] at H
 refine vr tbok 1 [] [(3, .pointer (some ⟨g25, 0, none⟩)), (4, .pointer (some ⟨g30, 0, none⟩)), (5, .pointer (some ⟨g35, 0, none⟩)), (8, .int .i64 r40)] [] E (by kernel_rfl) trivial ?_
 clear E; intro a E
 refine wpList_nil ?_
 refine th_n ?_
 refine wp_seq ?_
 refine wp_region_lit ?_
 refine vr tbok 2 [] [(3, .pointer (some ⟨g25, 0, none⟩)), (4, .pointer (some ⟨g30, 0, none⟩)), (5, .pointer (some ⟨g35, 0, none⟩)), (8, .int .i64 r40), (15, .bool ((r40 : Int) != 0))] [] E (by kernel_rfl) trivial ?_
 clear E; intro a E
 refine wpList_nil ?_
 refine th_n ?_
 refine E.cases (t := 15) rfl (fun hb_ E_ => ?_) (fun hb_ E_ => ?_)
 ·
  replace E := E_; clear E_
  have h49 : ¬ ((r40 : Int) = 0) := bne_iff_ne.1 hb_
  clear hb_; replace hP := ite_f h49 hP
  refine c_true E rfl ?_
  refine wp_seq ?_
  refine wp_region_lit ?_
  refine vr tbok 3 [] [(6, .bool false), (7, .int .i64 r40)] [] E (by kernel_rfl) trivial ?_
  clear E; intro a E
  refine wpList_nil ?_
  refine th_n ?_
  refine wp_ret ?_
  refine th_ret ?_
  obtain rfl := Option.some.inj hP
  refine ret2 E rfl rfl rfl ?_
  exact ⟨_, rfl, rfl, H.sel [] rfl⟩
 replace E := E_; clear E_
 have h50 : (r40 : Int) = 0 := bne_eq_false_iff_eq.1 hb_
 clear hb_; replace hP := ite_t h50 hP
 refine c_false E rfl ?_
 refine wp_skip ?_
 refine th_n ?_
 refine wp_seq ?_
 refine wp_region_lit ?_
 refine vr tbok 4 [.slice A1 (List.length aAccept) c2] [(3, .pointer (some ⟨g25, 0, none⟩)), (4, .pointer (some ⟨g30, 0, none⟩)), (5, .pointer (some ⟨g35, 0, none⟩)), (9, .int .i64 (((List.length aAccept) : Nat) : Int))] [World.cell? w46 ⟨g25, 1, none⟩ = some (.slice A1 (List.length aAccept) c2)] E (by kernel_rfl) ((H.box 6 rfl).cell (j := 1) rfl) ?_
 clear E; intro a E
 refine wpList_nil ?_
 refine th_n ?_
 refine wp_seq ?_
 refine wp_seq ?_
 by_cases h51 : ((((List.length xRanks) : Nat) : Int) : Int) = (((List.length aAccept) : Nat) : Int)
 ·
  replace hP := ite_t h51 hP
  by_cases h52 : ((((List.length xReply) : Nat) : Int) : Int) = (((List.length aAccept) : Nat) : Int)
  ·
   replace hP := ite_t h52 hP
   by_cases h53 : ((((List.length xChoice) : Nat) : Int) : Int) = (((List.length aAccept) : Nat) : Int)
   ·
    replace hP := ite_t h53 hP
    obtain ⟨g54, hP⟩ := ask_inv hP
    obtain ⟨b55, o56, e_b55⟩ := (H.rd 3 rds_ro).addr (idx_pos g54)
    subst e_b55
    have HR60 := H
    refine dr_start (S := fun w_ => Chg (atL []) w46 w_) (by kernel_rfl) ?_
    intro w57 hc58
    have HS59 : Chg (atL []) w46 w57 := hc58.mono (fun _ _ h_ => h_.elim)
    replace H := H.ext hc58
    refine dr tbok (by kernel_rfl) [0, 1, 2, 3, 4, 5] [.slice (some ⟨b55, o56, none⟩) (List.length xRanks) c14] [(3, .pointer (some ⟨g25, 0, none⟩)), (4, .pointer (some ⟨g30, 0, none⟩)), (5, .pointer (some ⟨g35, 0, none⟩)), (9, .int .i64 (((List.length aAccept) : Nat) : Int)), (25, .bool (((((List.length xRanks) : Nat) : Int) : Int) != (((List.length aAccept) : Nat) : Int)))] (fun w_ => [World.cell? w_ ⟨g35, 1, none⟩ = some (.slice (some ⟨b55, o56, none⟩) (List.length xRanks) c14)]) 23 E (fun _ _ => by kernel_rfl) (fun w_ hS_ => ((HR60.boxk [] hS_ 8 rfl rfl).cell (j := 1) rfl)) (by kernel_rfl) HS59 ?_
    clear E; intro a E
    replace E := E.same (t := 25) (u := .bool false) rfl (congrArg Value.bool (bne_eq_false_iff_eq.2 h51))
    refine dr tbok (by kernel_rfl) [6, 7, 8, 9, 10, 11, 12] [.slice A17 (List.length xReply) c18] [(3, .pointer (some ⟨g25, 0, none⟩)), (4, .pointer (some ⟨g30, 0, none⟩)), (5, .pointer (some ⟨g35, 0, none⟩)), (9, .int .i64 (((List.length aAccept) : Nat) : Int)), (25, .bool false), (32, .bool (((((List.length xReply) : Nat) : Int) : Int) != (((List.length aAccept) : Nat) : Int)))] (fun w_ => [World.cell? w_ ⟨g35, 2, none⟩ = some (.slice A17 (List.length xReply) c18)]) 16 E (fun _ _ => by kernel_rfl) (fun w_ hS_ => ((HR60.boxk [] hS_ 8 rfl rfl).cell (j := 2) rfl)) (by kernel_rfl) HS59 ?_
    clear E; intro a E
    replace E := E.same (t := 32) (u := .bool false) rfl (congrArg Value.bool (bne_eq_false_iff_eq.2 h52))
    refine dr tbok (by kernel_rfl) [13, 14, 15, 16, 17, 18, 19] [.slice A21 (List.length xChoice) c22] [(3, .pointer (some ⟨g25, 0, none⟩)), (4, .pointer (some ⟨g30, 0, none⟩)), (5, .pointer (some ⟨g35, 0, none⟩)), (9, .int .i64 (((List.length aAccept) : Nat) : Int)), (25, .bool false), (32, .bool false), (39, .bool (((((List.length xChoice) : Nat) : Int) : Int) != (((List.length aAccept) : Nat) : Int)))] (fun w_ => [World.cell? w_ ⟨g35, 3, none⟩ = some (.slice A21 (List.length xChoice) c22)]) 9 E (fun _ _ => by kernel_rfl) (fun w_ hS_ => ((HR60.boxk [] hS_ 8 rfl rfl).cell (j := 3) rfl)) (by kernel_rfl) HS59 ?_
    clear E; intro a E
    replace E := E.same (t := 39) (u := .bool false) rfl (congrArg Value.bool (bne_eq_false_iff_eq.2 h53))
    refine dr tbok (by kernel_rfl) [20, 21, 22, 23, 24, 25, 26, 27, 28] [.bool xWins, .slice (some ⟨b55, o56, none⟩) (List.length xRanks) c14, .int .i64 (List.getD xRanks (Int.toNat (0 : Int)) 0)] [(3, .pointer (some ⟨g25, 0, none⟩)), (4, .pointer (some ⟨g30, 0, none⟩)), (5, .pointer (some ⟨g35, 0, none⟩)), (9, .int .i64 (((List.length aAccept) : Nat) : Int)), (25, .bool false), (32, .bool false), (39, .bool false), (48, .bool (!(xWins == (decide (0 ≤ (List.getD xRanks (Int.toNat (0 : Int)) 0))))))] (fun w_ => [World.cell? w_ ⟨g35, 0, none⟩ = some (.bool xWins), World.cell? w_ ⟨g35, 1, none⟩ = some (.slice (some ⟨b55, o56, none⟩) (List.length xRanks) c14), 0 ≤ (0 : Int) ∧ (0 : Int) < (((List.length xRanks) : Nat) : Int), World.cell? w_ ⟨b55, o56 + (Int.toNat (0 : Int)) * 1, none⟩ = some (.int .i64 (List.getD xRanks (Int.toNat (0 : Int)) 0))]) 0 E (fun _ _ => by kernel_rfl) (fun w_ hS_ => ⟨(HR60.boxk [] hS_ 8 rfl rfl).cell (j := 0) rfl, (HR60.boxk [] hS_ 8 rfl rfl).cell (j := 1) rfl, g54, Rds.at1 (HR60.rdk [] hS_ 3 rds_ro rfl) 0 g54⟩) (by kernel_rfl) HS59 ?_
    clear E; intro a E
    refine dr_done (by kernel_rfl) ?_
    clear HS59 HR60
    refine th_n ?_
    refine E.cases (t := 48) rfl (fun hb_ E_ => ?_) (fun hb_ E_ => ?_)
    ·
     replace E := E_; clear E_
     have h61 : ¬ (xWins = (decide (0 ≤ (List.getD xRanks (Int.toNat (0 : Int)) 0)))) := (by simpa using hb_)
     clear hb_; replace hP := ite_f h61 hP
     refine c_true E rfl ?_
     refine wp_seq ?_
     refine wp_region_lit ?_
     refine vr tbok 2 [] [(6, .bool false), (7, .int .i64 0)] [] E (by kernel_rfl) trivial ?_
     clear E; intro a E
     refine wpList_nil ?_
     refine th_n ?_
     refine wp_ret ?_
     refine th_ret ?_
     obtain rfl := Option.some.inj hP
     refine ret2 E rfl rfl rfl ?_
     exact ⟨_, rfl, rfl, H.sel [] rfl⟩
    replace E := E_; clear E_
    have h62 : xWins = (decide (0 ≤ (List.getD xRanks (Int.toNat (0 : Int)) 0))) := (by simpa using hb_)
    clear hb_; replace hP := ite_t h62 hP
    refine c_false E rfl ?_
    refine wp_skip ?_
    refine th_n ?_
    refine wp_seq ?_
    refine wp_seq ?_
    refine wp_region_lit ?_
    refine vr tbok 2 [] [(3, .pointer (some ⟨g25, 0, none⟩)), (4, .pointer (some ⟨g30, 0, none⟩)), (5, .pointer (some ⟨g35, 0, none⟩)), (49, .int .i64 (((List.length aAccept) : Nat) : Int)), (50, .int .i64 0)] [] E (by kernel_rfl) trivial ?_
    clear E; intro a E
    refine wpList_nil ?_
    refine th_n ?_
    refine wp_block ?_
    obtain ⟨x92, hL93, hK94⟩ := bind_inv hP
    clear hP
    refine loop_cut (fun i_ a w_ => (i_ = 0 ∧ ∃ (x97 : Unit), Fr a 60 [] ∧ Hp S Fa w0 w_ [] ∧ x92 = Sum.inl x97)) ?_ ?_
    ·
     refine loopV (fun m96 a w95 => ∃ (x76 : Int), Fr a 60 [(3, .pointer (some ⟨g25, 0, none⟩)), (4, .pointer (some ⟨g30, 0, none⟩)), (5, .pointer (some ⟨g35, 0, none⟩)), (49, .int .i64 (((List.length aAccept) : Nat) : Int)), (50, .int .i64 x76)] ∧ Hp S Fa w0 w95 [.ro false cBool A1 aAccept, .ro false (cInt .i64) A5 aGuard, .ro false cNode A9 aNodes, .box g25 26 [.int .i64 aProps, .slice A1 (List.length aAccept) c2, .slice A5 (List.length aGuard) c6, .slice A9 (List.length aNodes) c10], .box g30 29 [.int .u8 s.1, .int .u8 s.2], .ro false (cInt .i64) (some ⟨b55, o56, none⟩) xRanks, .ro false (cSl (cInt .u8)) A17 xReply, .ro false (cInt .u8) A21 xChoice, .box g35 33 [.bool xWins, .slice (some ⟨b55, o56, none⟩) (List.length xRanks) c14, .slice A17 (List.length xReply) c18, .slice A21 (List.length xChoice) c22]] ∧ strat_Check_l0 N aProps aAccept aGuard aNodes s xWins xRanks xReply xChoice m96 x76 = some x92) N ?_ ?_
     ·
      exact ⟨0, E.pick _ ⟨rfl, rfl, rfl, rfl, rfl, trivial⟩, H.sel [0, 1, 2, 6, 7, 3, 4, 5, 8] rfl, hL93⟩
     clear E H hL93; intro m96 a w95 hI_
     obtain ⟨x76, E, H, hP⟩ := hI_
     obtain ⟨m91, rfl⟩ : ∃ q_, m96 = q_ + 1 := by cases m96 with | zero => rw [strat_Check_l0] at hP; cases hP | succ q_ => exact ⟨q_, rfl⟩
     rw [strat_Check_l0] at hP
     refine wp_seq ?_
     refine wp_region_lit ?_
     refine vr tbok 1 [] [(3, .pointer (some ⟨g25, 0, none⟩)), (4, .pointer (some ⟨g30, 0, none⟩)), (5, .pointer (some ⟨g35, 0, none⟩)), (49, .int .i64 (((List.length aAccept) : Nat) : Int)), (50, .int .i64 x76), (51, .bool (decide (x76 < (((List.length aAccept) : Nat) : Int))))] [] E (by kernel_rfl) trivial ?_
     clear E; intro a E
     refine wpList_nil ?_
     refine th_n ?_
     refine wp_seq ?_
     refine E.cases (t := 51) rfl (fun hb_ E_ => ?_) (fun hb_ E_ => ?_)
     ·
      replace E := E_; clear E_
      have h98 : x76 < (((List.length aAccept) : Nat) : Int) := of_decide_eq_true hb_
      clear hb_; replace hP := ite_t h98 hP
      refine c_true E rfl ?_
      refine wp_skip ?_
      refine th_n ?_
      refine wp_seq ?_
      refine wp_block ?_
      refine wp_seq ?_
      refine wp_region_lit ?_
      refine vr tbok 2 [] [(3, .pointer (some ⟨g25, 0, none⟩)), (4, .pointer (some ⟨g30, 0, none⟩)), (5, .pointer (some ⟨g35, 0, none⟩)), (10, .int .i64 x76), (49, .int .i64 (((List.length aAccept) : Nat) : Int)), (50, .int .i64 x76)] [] E (by kernel_rfl) trivial ?_
      clear E; intro a E
      refine wpList_nil ?_
      refine th_n ?_
      refine wp_seq ?_
      refine wp_region_lit ?_
      refine vr tbok 4 [.agg #[.int .i64 aProps, .slice A1 (List.length aAccept) c2, .slice A5 (List.length aGuard) c6, .slice A9 (List.length aNodes) c10], .agg #[.int .u8 s.1, .int .u8 s.2], .agg #[.bool xWins, .slice (some ⟨b55, o56, none⟩) (List.length xRanks) c14, .slice A17 (List.length xReply) c18, .slice A21 (List.length xChoice) c22]] [(3, .pointer (some ⟨g25, 0, none⟩)), (4, .pointer (some ⟨g30, 0, none⟩)), (5, .pointer (some ⟨g35, 0, none⟩)), (49, .int .i64 (((List.length aAccept) : Nat) : Int)), (50, .int .i64 x76), (53, .agg #[.int .i64 aProps, .slice A1 (List.length aAccept) c2, .slice A5 (List.length aGuard) c6, .slice A9 (List.length aNodes) c10]), (54, .agg #[.int .u8 s.1, .int .u8 s.2]), (55, .agg #[.bool xWins, .slice (some ⟨b55, o56, none⟩) (List.length xRanks) c14, .slice A17 (List.length xReply) c18, .slice A21 (List.length xChoice) c22]), (56, .int .i64 x76)] [cellsAt w95 g25 (0) [.int .i64 aProps, .slice A1 (List.length aAccept) c2, .slice A5 (List.length aGuard) c6, .slice A9 (List.length aNodes) c10], cellsAt w95 g30 (0) [.int .u8 s.1, .int .u8 s.2], cellsAt w95 g35 (0) [.bool xWins, .slice (some ⟨b55, o56, none⟩) (List.length xRanks) c14, .slice A17 (List.length xReply) c18, .slice A21 (List.length xChoice) c22]] E (by kernel_rfl) ⟨(H.box 3 rfl).sub 0 _ rfl, (H.box 4 rfl).sub 0 _ rfl, (H.box 8 rfl).sub 0 _ rfl⟩ ?_
      clear E; intro a E
      obtain ⟨r99, h100, hP⟩ := bind_inv hP
      obtain ⟨Fa101, Hc102, hb103⟩ := H.call [] [(0, false), (1, false), (2, false), (5, false), (6, false), (7, false)] rfl rfl trivial
      refine e_call E rfl rfl Try.func67 rfl rfl rfl (strat_state_calls A1 c2 A5 c6 A9 c10 (some ⟨b55, o56, none⟩) c14 A17 c18 A21 c22 aProps aAccept aGuard aNodes (s.1, s.2) xWins xRanks xReply xChoice x76 hk3 hk7 hk11 hk15 hk19 hk23 Hc102 h100) ?_
      rintro v104 w105 a ⟨rfl, HR106⟩ E_
      replace E := E_ _ rfl; clear E_
      obtain ⟨H_, hc107⟩ := hb103 _ _ HR106 rfl
      replace H := H_; clear H_; try dsimp only [setn, addE, goneL] at H
      refine vr tbok 1 [] [(3, .pointer (some ⟨g25, 0, none⟩)), (4, .pointer (some ⟨g30, 0, none⟩)), (5, .pointer (some ⟨g35, 0, none⟩)), (49, .int .i64 (((List.length aAccept) : Nat) : Int)), (50, .int .i64 x76), (58, .bool (!r99))] [] E (by kernel_rfl) trivial ?_
      clear E; intro a E
      refine wpList_nil ?_
      refine th_n ?_
      refine E.cases (t := 58) rfl (fun hb_ E_ => ?_) (fun hb_ E_ => ?_)
      ·
       replace E := E_; clear E_
       have h108 : ¬ (r99 = true) := (ne_true_of_eq_false (not_t hb_))
       clear hb_; replace hP := ite_f h108 hP
       refine c_true E rfl ?_
       refine wp_seq ?_
       refine wp_region_lit ?_
       refine vr tbok 2 [] [(6, .bool false), (7, .int .i64 0)] [] E (by kernel_rfl) trivial ?_
       clear E; intro a E
       refine wpList_nil ?_
       refine th_n ?_
       refine wp_ret ?_
       refine bl_ret ?_
       refine th_ret ?_
       refine th_ret ?_
       refine .inr ⟨rfl, ?_⟩
       refine bl_ret ?_
       refine th_ret ?_
       have hx_ := Option.some.inj hP; subst hx_
       have hP : some ((false, 0)) = some r := hK94
       obtain rfl := Option.some.inj hP
       refine ret2 E rfl rfl rfl ?_
       exact ⟨_, rfl, rfl, H.sel [] rfl⟩
      replace E := E_; clear E_
      have h109 : r99 = true := (not_f hb_)
      clear hb_; replace hP := ite_t h109 hP
      refine c_false E rfl ?_
      refine wp_skip ?_
      refine bl_n ?_
      refine th_n ?_
      refine wp_region_lit ?_
      obtain ⟨g110, hP⟩ := ask_inv hP
      refine vr tbok 2 [.int .i64 (x76 + 1)] [(3, .pointer (some ⟨g25, 0, none⟩)), (4, .pointer (some ⟨g30, 0, none⟩)), (5, .pointer (some ⟨g35, 0, none⟩)), (49, .int .i64 (((List.length aAccept) : Nat) : Int)), (50, .int .i64 (x76 + 1))] [IntKind.i64.wrap (x76 + 1) = x76 + 1] E (by kernel_rfl) (wrap_in g110) ?_
      clear E; intro a E
      refine wpList_nil ?_
      exact th_n ⟨m91, Nat.lt_succ_self _, x76 + 1, E.pick _ ⟨rfl, rfl, rfl, rfl, rfl, trivial⟩, H.sel [0, 1, 2, 3, 4, 5, 6, 7, 8] rfl, hP⟩
     replace E := E_; clear E_
     have h111 : ¬ (x76 < (((List.length aAccept) : Nat) : Int)) := of_decide_eq_false hb_
     clear hb_; replace hP := ite_f h111 hP
     refine c_false E rfl ?_
     refine wp_exit ?_
     refine th_exit ?_
     have hx_ := Option.some.inj hP
     refine th_exit (.inl ⟨0, rfl, ?_⟩)
     exact ⟨rfl, (), E.pick _ trivial, H.sel [] rfl, hx_.symm⟩
    clear E H hL93; intro i_ a w95 hM_
    obtain ⟨rfl, x97, E, H, hx_⟩ := hM_
    subst hx_; have hP := elim_l hK94
    clear hK94
    refine bl_hit ?_
    refine th_n ?_
    refine wp_seq ?_
    refine wp_region_lit ?_
    refine vr tbok 2 [] [(6, .bool true), (7, .int .i64 0)] [] E (by kernel_rfl) trivial ?_
    clear E; intro a E
    refine wpList_nil ?_
    refine th_n ?_
    refine wp_ret ?_
    obtain rfl := Option.some.inj hP
    refine ret2 E rfl rfl rfl ?_
    exact ⟨_, rfl, rfl, H.sel [] rfl⟩
   replace hP := ite_f h53 hP
   have HR116 := H
   refine dr_start (S := fun w_ => Chg (atL []) w46 w_) (by kernel_rfl) ?_
   intro w113 hc114
   have HS115 : Chg (atL []) w46 w113 := hc114.mono (fun _ _ h_ => h_.elim)
   replace H := H.ext hc114
   refine dr tbok (by kernel_rfl) [0, 1, 2, 3, 4, 5] [.slice A13 (List.length xRanks) c14] [(3, .pointer (some ⟨g25, 0, none⟩)), (4, .pointer (some ⟨g30, 0, none⟩)), (5, .pointer (some ⟨g35, 0, none⟩)), (9, .int .i64 (((List.length aAccept) : Nat) : Int)), (25, .bool (((((List.length xRanks) : Nat) : Int) : Int) != (((List.length aAccept) : Nat) : Int)))] (fun w_ => [World.cell? w_ ⟨g35, 1, none⟩ = some (.slice A13 (List.length xRanks) c14)]) 23 E (fun _ _ => by kernel_rfl) (fun w_ hS_ => ((HR116.boxk [] hS_ 8 rfl rfl).cell (j := 1) rfl)) (by kernel_rfl) HS115 ?_
   clear E; intro a E
   replace E := E.same (t := 25) (u := .bool false) rfl (congrArg Value.bool (bne_eq_false_iff_eq.2 h51))
   refine dr tbok (by kernel_rfl) [6, 7, 8, 9, 10, 11, 12] [.slice A17 (List.length xReply) c18] [(3, .pointer (some ⟨g25, 0, none⟩)), (4, .pointer (some ⟨g30, 0, none⟩)), (5, .pointer (some ⟨g35, 0, none⟩)), (9, .int .i64 (((List.length aAccept) : Nat) : Int)), (25, .bool false), (32, .bool (((((List.length xReply) : Nat) : Int) : Int) != (((List.length aAccept) : Nat) : Int)))] (fun w_ => [World.cell? w_ ⟨g35, 2, none⟩ = some (.slice A17 (List.length xReply) c18)]) 16 E (fun _ _ => by kernel_rfl) (fun w_ hS_ => ((HR116.boxk [] hS_ 8 rfl rfl).cell (j := 2) rfl)) (by kernel_rfl) HS115 ?_
   clear E; intro a E
   replace E := E.same (t := 32) (u := .bool false) rfl (congrArg Value.bool (bne_eq_false_iff_eq.2 h52))
   refine dr tbok (by kernel_rfl) [13, 14, 15, 16, 17, 18, 19] [.slice A21 (List.length xChoice) c22] [(3, .pointer (some ⟨g25, 0, none⟩)), (4, .pointer (some ⟨g30, 0, none⟩)), (5, .pointer (some ⟨g35, 0, none⟩)), (9, .int .i64 (((List.length aAccept) : Nat) : Int)), (25, .bool false), (32, .bool false), (39, .bool (((((List.length xChoice) : Nat) : Int) : Int) != (((List.length aAccept) : Nat) : Int)))] (fun w_ => [World.cell? w_ ⟨g35, 3, none⟩ = some (.slice A21 (List.length xChoice) c22)]) 9 E (fun _ _ => by kernel_rfl) (fun w_ hS_ => ((HR116.boxk [] hS_ 8 rfl rfl).cell (j := 3) rfl)) (by kernel_rfl) HS115 ?_
   clear E; intro a E
   replace E := E.same (t := 39) (u := .bool true) rfl (congrArg Value.bool (bne_iff_ne.2 h53))
   refine dr tbok (by kernel_rfl) [20, 21, 22, 23, 24, 25, 26, 27, 28] [] [(3, .pointer (some ⟨g25, 0, none⟩)), (4, .pointer (some ⟨g30, 0, none⟩)), (5, .pointer (some ⟨g35, 0, none⟩)), (9, .int .i64 (((List.length aAccept) : Nat) : Int)), (25, .bool false), (32, .bool false), (39, .bool true), (48, .bool true)] (fun w_ => []) 0 E (fun _ _ => by kernel_rfl) (fun w_ hS_ => trivial) (by kernel_rfl) HS115 ?_
   clear E; intro a E
   refine dr_done (by kernel_rfl) ?_
   clear HS115 HR116
   refine th_n ?_
   refine c_true E rfl ?_
   refine wp_seq ?_
   refine wp_region_lit ?_
   refine vr tbok 2 [] [(6, .bool false), (7, .int .i64 0)] [] E (by kernel_rfl) trivial ?_
   clear E; intro a E
   refine wpList_nil ?_
   refine th_n ?_
   refine wp_ret ?_
   refine th_ret ?_
   obtain rfl := Option.some.inj hP
   refine ret2 E rfl rfl rfl ?_
   exact ⟨_, rfl, rfl, H.sel [] rfl⟩
  replace hP := ite_f h52 hP
  have HR120 := H
  refine dr_start (S := fun w_ => Chg (atL []) w46 w_) (by kernel_rfl) ?_
  intro w117 hc118
  have HS119 : Chg (atL []) w46 w117 := hc118.mono (fun _ _ h_ => h_.elim)
  replace H := H.ext hc118
  refine dr tbok (by kernel_rfl) [0, 1, 2, 3, 4, 5] [.slice A13 (List.length xRanks) c14] [(3, .pointer (some ⟨g25, 0, none⟩)), (4, .pointer (some ⟨g30, 0, none⟩)), (5, .pointer (some ⟨g35, 0, none⟩)), (9, .int .i64 (((List.length aAccept) : Nat) : Int)), (25, .bool (((((List.length xRanks) : Nat) : Int) : Int) != (((List.length aAccept) : Nat) : Int)))] (fun w_ => [World.cell? w_ ⟨g35, 1, none⟩ = some (.slice A13 (List.length xRanks) c14)]) 23 E (fun _ _ => by kernel_rfl) (fun w_ hS_ => ((HR120.boxk [] hS_ 8 rfl rfl).cell (j := 1) rfl)) (by kernel_rfl) HS119 ?_
  clear E; intro a E
  replace E := E.same (t := 25) (u := .bool false) rfl (congrArg Value.bool (bne_eq_false_iff_eq.2 h51))
  refine dr tbok (by kernel_rfl) [6, 7, 8, 9, 10, 11, 12] [.slice A17 (List.length xReply) c18] [(3, .pointer (some ⟨g25, 0, none⟩)), (4, .pointer (some ⟨g30, 0, none⟩)), (5, .pointer (some ⟨g35, 0, none⟩)), (9, .int .i64 (((List.length aAccept) : Nat) : Int)), (25, .bool false), (32, .bool (((((List.length xReply) : Nat) : Int) : Int) != (((List.length aAccept) : Nat) : Int)))] (fun w_ => [World.cell? w_ ⟨g35, 2, none⟩ = some (.slice A17 (List.length xReply) c18)]) 16 E (fun _ _ => by kernel_rfl) (fun w_ hS_ => ((HR120.boxk [] hS_ 8 rfl rfl).cell (j := 2) rfl)) (by kernel_rfl) HS119 ?_
  clear E; intro a E
  replace E := E.same (t := 32) (u := .bool true) rfl (congrArg Value.bool (bne_iff_ne.2 h52))
  refine dr tbok (by kernel_rfl) [13, 14, 15, 16, 17, 18, 19, 20, 21, 22, 23, 24, 25, 26, 27, 28] [] [(3, .pointer (some ⟨g25, 0, none⟩)), (4, .pointer (some ⟨g30, 0, none⟩)), (5, .pointer (some ⟨g35, 0, none⟩)), (9, .int .i64 (((List.length aAccept) : Nat) : Int)), (25, .bool false), (32, .bool true), (48, .bool true)] (fun w_ => []) 0 E (fun _ _ => by kernel_rfl) (fun w_ hS_ => trivial) (by kernel_rfl) HS119 ?_
  clear E; intro a E
  refine dr_done (by kernel_rfl) ?_
  clear HS119 HR120
  refine th_n ?_
  refine c_true E rfl ?_
  refine wp_seq ?_
  refine wp_region_lit ?_
  refine vr tbok 2 [] [(6, .bool false), (7, .int .i64 0)] [] E (by kernel_rfl) trivial ?_
  clear E; intro a E
  refine wpList_nil ?_
  refine th_n ?_
  refine wp_ret ?_
  refine th_ret ?_
  obtain rfl := Option.some.inj hP
  refine ret2 E rfl rfl rfl ?_
  exact ⟨_, rfl, rfl, H.sel [] rfl⟩
 replace hP := ite_f h51 hP
 have HR124 := H
 refine dr_start (S := fun w_ => Chg (atL []) w46 w_) (by kernel_rfl) ?_
 intro w121 hc122
 have HS123 : Chg (atL []) w46 w121 := hc122.mono (fun _ _ h_ => h_.elim)
 replace H := H.ext hc122
 refine dr tbok (by kernel_rfl) [0, 1, 2, 3, 4, 5] [.slice A13 (List.length xRanks) c14] [(3, .pointer (some ⟨g25, 0, none⟩)), (4, .pointer (some ⟨g30, 0, none⟩)), (5, .pointer (some ⟨g35, 0, none⟩)), (9, .int .i64 (((List.length aAccept) : Nat) : Int)), (25, .bool (((((List.length xRanks) : Nat) : Int) : Int) != (((List.length aAccept) : Nat) : Int)))] (fun w_ => [World.cell? w_ ⟨g35, 1, none⟩ = some (.slice A13 (List.length xRanks) c14)]) 23 E (fun _ _ => by kernel_rfl) (fun w_ hS_ => ((HR124.boxk [] hS_ 8 rfl rfl).cell (j := 1) rfl)) (by kernel_rfl) HS123 ?_
 clear E; intro a E
 replace E := E.same (t := 25) (u := .bool true) rfl (congrArg Value.bool (bne_iff_ne.2 h51))
 refine dr tbok (by kernel_rfl) [6, 7, 8, 9, 10, 11, 12, 13, 14, 15, 16, 17, 18, 19, 20, 21, 22, 23, 24, 25, 26, 27, 28] [] [(3, .pointer (some ⟨g25, 0, none⟩)), (4, .pointer (some ⟨g30, 0, none⟩)), (5, .pointer (some ⟨g35, 0, none⟩)), (9, .int .i64 (((List.length aAccept) : Nat) : Int)), (25, .bool true), (48, .bool true)] (fun w_ => []) 0 E (fun _ _ => by kernel_rfl) (fun w_ hS_ => trivial) (by kernel_rfl) HS123 ?_
 clear E; intro a E
 refine dr_done (by kernel_rfl) ?_
 clear HS123 HR124
 refine th_n ?_
 refine c_true E rfl ?_
 refine wp_seq ?_
 refine wp_region_lit ?_
 refine vr tbok 2 [] [(6, .bool false), (7, .int .i64 0)] [] E (by kernel_rfl) trivial ?_
 clear E; intro a E
 refine wpList_nil ?_
 refine th_n ?_
 refine wp_ret ?_
 refine th_ret ?_
 obtain rfl := Option.some.inj hP
 refine ret2 E rfl rfl rfl ?_
 exact ⟨_, rfl, rfl, H.sel [] rfl⟩

/-! slices.Clone[[]int,int] -/
def slices_Clone_int_int_some (N : Nat) (s : List Int) : Option (List Int) :=
  ask (List.length ([] : List Int) + List.length s ≤ 1000000000) <|
  some (([] : List Int) ++ s)
def slices_Clone_int_int_nil (N : Nat) : Option (List Int) :=
  some []
def slices_Clone_int_int (N : Nat) (xs : List Int) : Option (List Int) := slices_Clone_int_int_some N xs
set_option maxRecDepth 100000 in
set_option maxHeartbeats 4000000 in
theorem slices_Clone_int_int_some_calls {N : Nat} {S Fa : Nat → Prop} {w0 : World} {r : List Int} (A1 : Addr) (c2 : Nat) (s : List Int) (hk3 : List.length s ≤ c2) (H : Hp S Fa w0 w0 [.ro false (cInt .i64) (some A1) s]) (hP : slices_Clone_int_int_some N s = some r) :
    Calls Try.prog 43 #[.slice (some A1) (List.length s) c2] w0 fun e w' => ∃ v, e = .returned v ∧ ∃ (A16 : Option Addr) (c17 : Nat), v = .slice A16 (List.length r) c17 ∧ Hp S Fa w0 w' [.row true (cInt .i64) 3 A16 c17 r] := by
 refine enterV (n := 8) Try.func43 rfl rfl rfl ?_
 intro a E
 replace E := E.pick [(0, .slice (some A1) (List.length s) c2)] ⟨rfl, trivial⟩
 rw [slices_Clone_int_int_some] at hP
 refine wp_seq ?_
 refine wp_region_lit ?_
 refine vr tbok 1 [] [(0, .slice (some A1) (List.length s) c2)] [] E (by kernel_rfl) trivial ?_
 clear E; intro a E
 refine wpList_nil ?_
 refine th_n ?_
 refine wp_seq ?_
 refine wp_seq ?_
 refine wp_region_lit ?_
 refine vr tbok 1 [] [(0, .slice (some A1) (List.length s) c2), (3, .slice (some A1) (List.length s) c2)] [] E (by kernel_rfl) trivial ?_
 clear E; intro a E
 refine e_eqNil E rfl rfl tbok rfl rfl rfl rfl ?_
 clear E; intro a E
 refine wpList_nil ?_
 refine th_n ?_
 refine c_false E rfl ?_
 refine wp_skip ?_
 refine th_n ?_
 refine wp_seq ?_
 refine wp_region_lit ?_
 refine h_buildSlice (ps := []) (cs := []) H E rfl rfl tbok rfl rfl (by kernel_rfl) ?_
 intro w6 g5 a hc7 hg9 H_ E_
 replace E := E_ _ rfl; clear E_
 replace H := H_; clear H_; try dsimp only [setn, addE, goneL] at H
 refine vr tbok 1 [] [(5, .slice (some ⟨g5, 0, none⟩) 0 0), (6, .slice (some A1) (List.length s) c2)] [] E (by kernel_rfl) trivial ?_
 clear E; intro a E
 replace H := H.boxRow (cInt .i64) true ([] : List Int) 1 rfl (fun _ _ => rfl) (Nat.le_of_ble_eq_true rfl); try dsimp only [setn, addE, goneL] at H
 replace H := H.rowx 1 rfl; try dsimp only [setn, addE, goneL] at H
 obtain ⟨g10, hP⟩ := ask_inv hP
 refine h_append (cInt .i64) (xs := ([] : List Int)) (ys := s) (0 : Int) H 1 rfl E rfl rfl tbok rfl rfl rfl rfl rfl (fun _ _ => rfl) rfl rfl (fun _ HF_ => HF_.srcF flat_plain 0 rds_ro) g10 ?_
 intro w11 A12 c13 a hc14 hA15 H_ E_
 replace E := E_ _ rfl; clear E_
 replace H := H_; clear H_; try dsimp only [setn, addE, goneL] at H
 refine vr tbok 1 [] [(2, .slice A12 (List.length (([] : List Int) ++ s)) c13)] [] E (by kernel_rfl) trivial ?_
 clear E; intro a E
 refine wpList_nil ?_
 refine th_n ?_
 refine wp_ret ?_
 obtain rfl := Option.some.inj hP
 refine ret1 E rfl rfl ?_
 exact ⟨_, rfl, A12, c13, rfl, H.sel [1] rfl⟩

set_option maxRecDepth 100000 in
set_option maxHeartbeats 4000000 in
theorem slices_Clone_int_int_nil_callsC {N : Nat} {S Fa : Nat → Prop} {w0 : World} {r : List Int} (c0 : Nat) (H : Hp S Fa w0 w0 []) (hP : slices_Clone_int_int_nil N  = some r) :
    Calls Try.prog 43 #[.slice none 0 c0] w0 fun e w' => ∃ v, e = .returned v ∧ ∃ (A2 : Option Addr) (c3 : Nat), v = .slice A2 (List.length r) c3 ∧ Hp S Fa w0 w' [.row true (cInt .i64) 3 A2 c3 r] := by
 refine enterV (n := 8) Try.func43 rfl rfl rfl ?_
 intro a E
 replace E := E.pick [(0, .slice none 0 c0)] ⟨rfl, trivial⟩
 rw [slices_Clone_int_int_nil] at hP
 refine wp_seq ?_
 refine wp_region_lit ?_
 refine vr tbok 1 [] [(0, .slice none 0 c0)] [] E (by kernel_rfl) trivial ?_
 clear E; intro a E
 refine wpList_nil ?_
 refine th_n ?_
 refine wp_seq ?_
 refine wp_seq ?_
 refine wp_region_lit ?_
 refine vr tbok 1 [] [(0, .slice none 0 c0), (3, .slice none 0 c0)] [] E (by kernel_rfl) trivial ?_
 clear E; intro a E
 refine e_eqNil E rfl rfl tbok rfl rfl rfl rfl ?_
 clear E; intro a E
 refine wpList_nil ?_
 refine th_n ?_
 refine c_true E rfl ?_
 refine wp_seq ?_
 refine wp_region_lit ?_
 refine vr tbok 1 [] [(2, .slice none 0 0)] [] E (by kernel_rfl) trivial ?_
 clear E; intro a E
 refine wpList_nil ?_
 refine th_n ?_
 refine wp_ret ?_
 refine th_ret ?_
 replace H := H.nilrow (cInt .i64) 3; try dsimp only [setn, addE, goneL] at H
 obtain rfl := Option.some.inj hP
 refine ret1 E rfl rfl ?_
 exact ⟨_, rfl, none, 0, rfl, H.sel [0] rfl⟩

theorem slices_Clone_int_int_calls {N : Nat} {S Fa : Nat → Prop} {w0 : World} {r : List Int} (A1 : Option Addr) (c2 : Nat) (xs : List Int) (hk : List.length xs ≤ c2) (H : Hp S Fa w0 w0 [.ro false (cInt .i64) A1 xs]) (hP : slices_Clone_int_int N xs = some r) :
    Calls Try.prog 43 #[.slice A1 (List.length xs) c2] w0 fun e w' => ∃ v, e = .returned v ∧ ∃ (A9 : Option Addr) (c9 : Nat), v = .slice A9 (List.length r) c9 ∧ Hp S Fa w0 w' [.row true (cInt .i64) 3 A9 c9 r] := by
  cases A1 with
  | some ad => exact slices_Clone_int_int_some_calls ad c2 xs hk H hP
  | none =>
    obtain rfl := (H.rd 0 rds_ro).nil
    have h2 : c2 = c2 := rfl
    rw [slices_Clone_int_int, slices_Clone_int_int_some] at hP
    obtain ⟨_, hr⟩ := ask_inv hP
    obtain rfl : [] = r := Option.some.inj hr
    exact slices_Clone_int_int_nil_callsC (N := N) c2 (H.sel [] rfl) rfl

/-! slices.Clone[[]rejoinder/api.Node,rejoinder/api.Node] -/
def slices_Clone_api_Node_api_Node_some (N : Nat) (s : List Nd) : Option (List Nd) :=
  ask (List.length ([] : List Nd) + List.length s ≤ 1000000000) <|
  some (([] : List Nd) ++ s)
def slices_Clone_api_Node_api_Node_nil (N : Nat) : Option (List Nd) :=
  some []
def slices_Clone_api_Node_api_Node (N : Nat) (xs : List Nd) : Option (List Nd) := slices_Clone_api_Node_api_Node_some N xs
set_option maxRecDepth 100000 in
set_option maxHeartbeats 4000000 in
theorem slices_Clone_api_Node_api_Node_some_calls {N : Nat} {S Fa : Nat → Prop} {w0 : World} {r : List Nd} (A1 : Addr) (c2 : Nat) (s : List Nd) (hk3 : List.length s ≤ c2) (H : Hp S Fa w0 w0 [.ro false cNode (some A1) s]) (hP : slices_Clone_api_Node_api_Node_some N s = some r) :
    Calls Try.prog 44 #[.slice (some A1) (List.length s) c2] w0 fun e w' => ∃ v, e = .returned v ∧ ∃ (A16 : Option Addr) (c17 : Nat), v = .slice A16 (List.length r) c17 ∧ Hp S Fa w0 w' [.row true cNode 90 A16 c17 r] := by
 refine enterV (n := 8) Try.func44 rfl rfl rfl ?_
 intro a E
 replace E := E.pick [(0, .slice (some A1) (List.length s) c2)] ⟨rfl, trivial⟩
 rw [slices_Clone_api_Node_api_Node_some] at hP
 refine wp_seq ?_
 refine wp_region_lit ?_
 refine vr tbok 1 [] [(0, .slice (some A1) (List.length s) c2)] [] E (by kernel_rfl) trivial ?_
 clear E; intro a E
 refine wpList_nil ?_
 refine th_n ?_
 refine wp_seq ?_
 refine wp_seq ?_
 refine wp_region_lit ?_
 refine vr tbok 1 [] [(0, .slice (some A1) (List.length s) c2), (3, .slice (some A1) (List.length s) c2)] [] E (by kernel_rfl) trivial ?_
 clear E; intro a E
 refine e_eqNil E rfl rfl tbok rfl rfl rfl rfl ?_
 clear E; intro a E
 refine wpList_nil ?_
 refine th_n ?_
 refine c_false E rfl ?_
 refine wp_skip ?_
 refine th_n ?_
 refine wp_seq ?_
 refine wp_region_lit ?_
 refine h_buildSlice (ps := []) (cs := []) H E rfl rfl tbok rfl rfl (by kernel_rfl) ?_
 intro w6 g5 a hc7 hg9 H_ E_
 replace E := E_ _ rfl; clear E_
 replace H := H_; clear H_; try dsimp only [setn, addE, goneL] at H
 refine vr tbok 1 [] [(5, .slice (some ⟨g5, 0, none⟩) 0 0), (6, .slice (some A1) (List.length s) c2)] [] E (by kernel_rfl) trivial ?_
 clear E; intro a E
 replace H := H.boxRow cNode true ([] : List Nd) 1 rfl (fun _ _ => rfl) (Nat.le_of_ble_eq_true rfl); try dsimp only [setn, addE, goneL] at H
 replace H := H.rowx 1 rfl; try dsimp only [setn, addE, goneL] at H
 obtain ⟨g10, hP⟩ := ask_inv hP
 refine h_append cNode (xs := ([] : List Nd)) (ys := s) ((default : Nd) : Nd) H 1 rfl E rfl rfl tbok rfl rfl rfl rfl rfl (fun _ _ => rfl) rfl rfl (fun _ HF_ => HF_.srcF flat_plain 0 rds_ro) g10 ?_
 intro w11 A12 c13 a hc14 hA15 H_ E_
 replace E := E_ _ rfl; clear E_
 replace H := H_; clear H_; try dsimp only [setn, addE, goneL] at H
 refine vr tbok 1 [] [(2, .slice A12 (List.length (([] : List Nd) ++ s)) c13)] [] E (by kernel_rfl) trivial ?_
 clear E; intro a E
 refine wpList_nil ?_
 refine th_n ?_
 refine wp_ret ?_
 obtain rfl := Option.some.inj hP
 refine ret1 E rfl rfl ?_
 exact ⟨_, rfl, A12, c13, rfl, H.sel [1] rfl⟩

set_option maxRecDepth 100000 in
set_option maxHeartbeats 4000000 in
theorem slices_Clone_api_Node_api_Node_nil_callsC {N : Nat} {S Fa : Nat → Prop} {w0 : World} {r : List Nd} (c0 : Nat) (H : Hp S Fa w0 w0 []) (hP : slices_Clone_api_Node_api_Node_nil N  = some r) :
    Calls Try.prog 44 #[.slice none 0 c0] w0 fun e w' => ∃ v, e = .returned v ∧ ∃ (A2 : Option Addr) (c3 : Nat), v = .slice A2 (List.length r) c3 ∧ Hp S Fa w0 w' [.row true cNode 90 A2 c3 r] := by
 refine enterV (n := 8) Try.func44 rfl rfl rfl ?_
 intro a E
 replace E := E.pick [(0, .slice none 0 c0)] ⟨rfl, trivial⟩
 rw [slices_Clone_api_Node_api_Node_nil] at hP
 refine wp_seq ?_
 refine wp_region_lit ?_
 refine vr tbok 1 [] [(0, .slice none 0 c0)] [] E (by kernel_rfl) trivial ?_
 clear E; intro a E
 refine wpList_nil ?_
 refine th_n ?_
 refine wp_seq ?_
 refine wp_seq ?_
 refine wp_region_lit ?_
 refine vr tbok 1 [] [(0, .slice none 0 c0), (3, .slice none 0 c0)] [] E (by kernel_rfl) trivial ?_
 clear E; intro a E
 refine e_eqNil E rfl rfl tbok rfl rfl rfl rfl ?_
 clear E; intro a E
 refine wpList_nil ?_
 refine th_n ?_
 refine c_true E rfl ?_
 refine wp_seq ?_
 refine wp_region_lit ?_
 refine vr tbok 1 [] [(2, .slice none 0 0)] [] E (by kernel_rfl) trivial ?_
 clear E; intro a E
 refine wpList_nil ?_
 refine th_n ?_
 refine wp_ret ?_
 refine th_ret ?_
 replace H := H.nilrow cNode 90; try dsimp only [setn, addE, goneL] at H
 obtain rfl := Option.some.inj hP
 refine ret1 E rfl rfl ?_
 exact ⟨_, rfl, none, 0, rfl, H.sel [0] rfl⟩

theorem slices_Clone_api_Node_api_Node_calls {N : Nat} {S Fa : Nat → Prop} {w0 : World} {r : List Nd} (A1 : Option Addr) (c2 : Nat) (xs : List Nd) (hk : List.length xs ≤ c2) (H : Hp S Fa w0 w0 [.ro false cNode A1 xs]) (hP : slices_Clone_api_Node_api_Node N xs = some r) :
    Calls Try.prog 44 #[.slice A1 (List.length xs) c2] w0 fun e w' => ∃ v, e = .returned v ∧ ∃ (A9 : Option Addr) (c9 : Nat), v = .slice A9 (List.length r) c9 ∧ Hp S Fa w0 w' [.row true cNode 90 A9 c9 r] := by
  cases A1 with
  | some ad => exact slices_Clone_api_Node_api_Node_some_calls ad c2 xs hk H hP
  | none =>
    obtain rfl := (H.rd 0 rds_ro).nil
    have h2 : c2 = c2 := rfl
    rw [slices_Clone_api_Node_api_Node, slices_Clone_api_Node_api_Node_some] at hP
    obtain ⟨_, hr⟩ := ask_inv hP
    obtain rfl : [] = r := Option.some.inj hr
    exact slices_Clone_api_Node_api_Node_nil_callsC (N := N) c2 (H.sel [] rfl) rfl

/-! slices.Clone[[]rejoinder/api.Letter,rejoinder/api.Letter] -/
def slices_Clone_api_Letter_api_Letter_some (N : Nat) (s : List Int) : Option (List Int) :=
  ask (List.length ([] : List Int) + List.length s ≤ 1000000000) <|
  some (([] : List Int) ++ s)
def slices_Clone_api_Letter_api_Letter_nil (N : Nat) : Option (List Int) :=
  some []
def slices_Clone_api_Letter_api_Letter (N : Nat) (xs : List Int) : Option (List Int) := slices_Clone_api_Letter_api_Letter_some N xs
set_option maxRecDepth 100000 in
set_option maxHeartbeats 4000000 in
theorem slices_Clone_api_Letter_api_Letter_some_calls {N : Nat} {S Fa : Nat → Prop} {w0 : World} {r : List Int} (A1 : Addr) (c2 : Nat) (s : List Int) (hk3 : List.length s ≤ c2) (H : Hp S Fa w0 w0 [.ro false (cInt .u8) (some A1) s]) (hP : slices_Clone_api_Letter_api_Letter_some N s = some r) :
    Calls Try.prog 45 #[.slice (some A1) (List.length s) c2] w0 fun e w' => ∃ v, e = .returned v ∧ ∃ (A16 : Option Addr) (c17 : Nat), v = .slice A16 (List.length r) c17 ∧ Hp S Fa w0 w' [.row true (cInt .u8) 27 A16 c17 r] := by
 refine enterV (n := 8) Try.func45 rfl rfl rfl ?_
 intro a E
 replace E := E.pick [(0, .slice (some A1) (List.length s) c2)] ⟨rfl, trivial⟩
 rw [slices_Clone_api_Letter_api_Letter_some] at hP
 refine wp_seq ?_
 refine wp_region_lit ?_
 refine vr tbok 1 [] [(0, .slice (some A1) (List.length s) c2)] [] E (by kernel_rfl) trivial ?_
 clear E; intro a E
 refine wpList_nil ?_
 refine th_n ?_
 refine wp_seq ?_
 refine wp_seq ?_
 refine wp_region_lit ?_
 refine vr tbok 1 [] [(0, .slice (some A1) (List.length s) c2), (3, .slice (some A1) (List.length s) c2)] [] E (by kernel_rfl) trivial ?_
 clear E; intro a E
 refine e_eqNil E rfl rfl tbok rfl rfl rfl rfl ?_
 clear E; intro a E
 refine wpList_nil ?_
 refine th_n ?_
 refine c_false E rfl ?_
 refine wp_skip ?_
 refine th_n ?_
 refine wp_seq ?_
 refine wp_region_lit ?_
 refine h_buildSlice (ps := []) (cs := []) H E rfl rfl tbok rfl rfl (by kernel_rfl) ?_
 intro w6 g5 a hc7 hg9 H_ E_
 replace E := E_ _ rfl; clear E_
 replace H := H_; clear H_; try dsimp only [setn, addE, goneL] at H
 refine vr tbok 1 [] [(5, .slice (some ⟨g5, 0, none⟩) 0 0), (6, .slice (some A1) (List.length s) c2)] [] E (by kernel_rfl) trivial ?_
 clear E; intro a E
 replace H := H.boxRow (cInt .u8) true ([] : List Int) 1 rfl (fun _ _ => rfl) (Nat.le_of_ble_eq_true rfl); try dsimp only [setn, addE, goneL] at H
 replace H := H.rowx 1 rfl; try dsimp only [setn, addE, goneL] at H
 obtain ⟨g10, hP⟩ := ask_inv hP
 refine h_append (cInt .u8) (xs := ([] : List Int)) (ys := s) (0 : Int) H 1 rfl E rfl rfl tbok rfl rfl rfl rfl rfl (fun _ _ => rfl) rfl rfl (fun _ HF_ => HF_.srcF flat_plain 0 rds_ro) g10 ?_
 intro w11 A12 c13 a hc14 hA15 H_ E_
 replace E := E_ _ rfl; clear E_
 replace H := H_; clear H_; try dsimp only [setn, addE, goneL] at H
 refine vr tbok 1 [] [(2, .slice A12 (List.length (([] : List Int) ++ s)) c13)] [] E (by kernel_rfl) trivial ?_
 clear E; intro a E
 refine wpList_nil ?_
 refine th_n ?_
 refine wp_ret ?_
 obtain rfl := Option.some.inj hP
 refine ret1 E rfl rfl ?_
 exact ⟨_, rfl, A12, c13, rfl, H.sel [1] rfl⟩

set_option maxRecDepth 100000 in
set_option maxHeartbeats 4000000 in
theorem slices_Clone_api_Letter_api_Letter_nil_callsC {N : Nat} {S Fa : Nat → Prop} {w0 : World} {r : List Int} (c0 : Nat) (H : Hp S Fa w0 w0 []) (hP : slices_Clone_api_Letter_api_Letter_nil N  = some r) :
    Calls Try.prog 45 #[.slice none 0 c0] w0 fun e w' => ∃ v, e = .returned v ∧ ∃ (A2 : Option Addr) (c3 : Nat), v = .slice A2 (List.length r) c3 ∧ Hp S Fa w0 w' [.row true (cInt .u8) 27 A2 c3 r] := by
 refine enterV (n := 8) Try.func45 rfl rfl rfl ?_
 intro a E
 replace E := E.pick [(0, .slice none 0 c0)] ⟨rfl, trivial⟩
 rw [slices_Clone_api_Letter_api_Letter_nil] at hP
 refine wp_seq ?_
 refine wp_region_lit ?_
 refine vr tbok 1 [] [(0, .slice none 0 c0)] [] E (by kernel_rfl) trivial ?_
 clear E; intro a E
 refine wpList_nil ?_
 refine th_n ?_
 refine wp_seq ?_
 refine wp_seq ?_
 refine wp_region_lit ?_
 refine vr tbok 1 [] [(0, .slice none 0 c0), (3, .slice none 0 c0)] [] E (by kernel_rfl) trivial ?_
 clear E; intro a E
 refine e_eqNil E rfl rfl tbok rfl rfl rfl rfl ?_
 clear E; intro a E
 refine wpList_nil ?_
 refine th_n ?_
 refine c_true E rfl ?_
 refine wp_seq ?_
 refine wp_region_lit ?_
 refine vr tbok 1 [] [(2, .slice none 0 0)] [] E (by kernel_rfl) trivial ?_
 clear E; intro a E
 refine wpList_nil ?_
 refine th_n ?_
 refine wp_ret ?_
 refine th_ret ?_
 replace H := H.nilrow (cInt .u8) 27; try dsimp only [setn, addE, goneL] at H
 obtain rfl := Option.some.inj hP
 refine ret1 E rfl rfl ?_
 exact ⟨_, rfl, none, 0, rfl, H.sel [0] rfl⟩

theorem slices_Clone_api_Letter_api_Letter_calls {N : Nat} {S Fa : Nat → Prop} {w0 : World} {r : List Int} (A1 : Option Addr) (c2 : Nat) (xs : List Int) (hk : List.length xs ≤ c2) (H : Hp S Fa w0 w0 [.ro false (cInt .u8) A1 xs]) (hP : slices_Clone_api_Letter_api_Letter N xs = some r) :
    Calls Try.prog 45 #[.slice A1 (List.length xs) c2] w0 fun e w' => ∃ v, e = .returned v ∧ ∃ (A9 : Option Addr) (c9 : Nat), v = .slice A9 (List.length r) c9 ∧ Hp S Fa w0 w' [.row true (cInt .u8) 27 A9 c9 r] := by
  cases A1 with
  | some ad => exact slices_Clone_api_Letter_api_Letter_some_calls ad c2 xs hk H hP
  | none =>
    obtain rfl := (H.rd 0 rds_ro).nil
    have h2 : c2 = c2 := rfl
    rw [slices_Clone_api_Letter_api_Letter, slices_Clone_api_Letter_api_Letter_some] at hP
    obtain ⟨_, hr⟩ := ask_inv hP
    obtain rfl : [] = r := Option.some.inj hr
    exact slices_Clone_api_Letter_api_Letter_nil_callsC (N := N) c2 (H.sel [] rfl) rfl

/-! rejoinder/play.New -/
def play_New_l0 (N : Nat) (xReply : List (List Int)) : Nat → (List (List Int)) → Int → Option (List (List Int))
  | 0, _, _ => none
  | m401 + 1, r353, x356 =>
    if x356 < (((List.length xReply) : Nat) : Int) then
      ask (idx x356 (List.length xReply)) <|
      Option.bind (slices_Clone_api_Letter_api_Letter N (List.getD xReply (Int.toNat x356) [])) fun r418 =>
      ask (List.length r353 + List.length ([r418] : List (List Int)) ≤ 1000000000) <|
      ask (in64 (x356 + 1)) <|
      play_New_l0 N xReply m401 (r353 ++ ([r418] : List (List Int))) (x356 + 1)
    else
      some r353
def play_New (N : Nat) (aProps : Int) (aAccept : List Bool) (aGuard : List Int) (aNodes : List Nd) (s : Int × Int) (xWins : Bool) (xRanks : List Int) (xReply : List (List Int)) (xChoice : List Int) : Option (Int ⊕ ((List Bool) × (List Int) × (List Nd) × (List Int) × (List (List Int)) × (List Int) × Int)) :=
  Option.bind (strat_Check N aProps aAccept aGuard aNodes (s.1, s.2) xWins xRanks xReply xChoice) fun r168 =>
  if (r168.2 : Int) = 0 then
    if r168.1 = true then
      Option.bind (slices_Clone_bool_bool N aAccept) fun r186 =>
      Option.bind (slices_Clone_int_int N aGuard) fun r198 =>
      Option.bind (slices_Clone_api_Node_api_Node N aNodes) fun r210 =>
      Option.bind (slices_Clone_int_int N xRanks) fun r260 =>
      Option.bind (slices_Clone_api_Letter_api_Letter N xChoice) fun r272 =>
      Option.bind (play_New_l0 N xReply N [] 0) fun x402 =>
      some (Sum.inr (r186, r198, r210, r260, x402, r272, 0))
    else
      some (Sum.inl 340)
  else
    some (Sum.inl r168.2)
set_option maxRecDepth 100000 in
set_option maxHeartbeats 4000000 in
theorem play_New_calls {N : Nat} {S Fa : Nat → Prop} {w0 : World} {r : Int ⊕ ((List Bool) × (List Int) × (List Nd) × (List Int) × (List (List Int)) × (List Int) × Int)} (A1 : Option Addr) (c2 : Nat) (A5 : Option Addr) (c6 : Nat) (A9 : Option Addr) (c10 : Nat) (A13 : Option Addr) (c14 : Nat) (A17 : Option Addr) (c18 : Nat) (A21 : Option Addr) (c22 : Nat) (aProps : Int) (aAccept : List Bool) (aGuard : List Int) (aNodes : List Nd) (s : Int × Int) (xWins : Bool) (xRanks : List Int) (xReply : List (List Int)) (xChoice : List Int) (hk3 : List.length aAccept ≤ c2) (hk7 : List.length aGuard ≤ c6) (hk11 : List.length aNodes ≤ c10) (hk15 : List.length xRanks ≤ c14) (hk19 : List.length xReply ≤ c18) (hk23 : List.length xChoice ≤ c22) (H : Hp S Fa w0 w0 [.ro false cBool A1 aAccept, .ro false (cInt .i64) A5 aGuard, .ro false cNode A9 aNodes, .ro false (cInt .i64) A13 xRanks, .ro false (cSl (cInt .u8)) A17 xReply, .ro false (cInt .u8) A21 xChoice]) (hP : play_New N aProps aAccept aGuard aNodes s xWins xRanks xReply xChoice = some r) :
    Calls Try.prog 13 #[.agg #[.int .i64 aProps, .slice A1 (List.length aAccept) c2, .slice A5 (List.length aGuard) c6, .slice A9 (List.length aNodes) c10], .agg #[.int .u8 s.1, .int .u8 s.2], .agg #[.bool xWins, .slice A13 (List.length xRanks) c14, .slice A17 (List.length xReply) c18, .slice A21 (List.length xChoice) c22]] w0 fun e w' => ∃ v, e = .returned v ∧ ((∃ (x_ : Int), r = Sum.inl x_ ∧ v = .tuple #[.pointer none, .int .i64 x_] ∧ Hp S Fa w0 w' []) ∨ (∃ (x_ : (List Bool) × (List Int) × (List Nd) × (List Int) × (List (List Int)) × (List Int) × Int) (g27 : Nat) (A30 : Option Addr) (c31 : Nat) (A34 : Option Addr) (c35 : Nat) (A38 : Option Addr) (c39 : Nat) (A42 : Option Addr) (c43 : Nat) (A46 : Option Addr) (c47 : Nat) (A50 : Option Addr) (c51 : Nat), r = Sum.inr x_ ∧ v = .tuple #[.pointer (some ⟨g27, 0, none⟩), .int .i64 x_.2.2.2.2.2.2] ∧ Hp S Fa w0 w' [.box g27 74 [.int .i64 aProps, .slice A30 (List.length x_.1) c31, .slice A34 (List.length x_.2.1) c35, .slice A38 (List.length x_.2.2.1) c39, .int .u8 s.1, .int .u8 s.2, .bool xWins, .slice A42 (List.length x_.2.2.2.1) c43, .slice A46 (List.length x_.2.2.2.2.1) c47, .slice A50 (List.length x_.2.2.2.2.2.1) c51, .int .i64 0, .slice none 0 0, .bool true], .row true cBool 4 A30 c31 x_.1, .row true (cInt .i64) 3 A34 c35 x_.2.1, .row true cNode 90 A38 c39 x_.2.2.1, .row true (cInt .i64) 3 A42 c43 x_.2.2.2.1, .row true (cSl (cInt .u8)) 31 A46 c47 x_.2.2.2.2.1, .row true (cInt .u8) 27 A50 c51 x_.2.2.2.2.2.1])) := by
 refine enterV (n := 77) Try.func13 rfl rfl rfl ?_
 intro a E
 replace E := E.pick [(0, .agg #[.int .i64 aProps, .slice A1 (List.length aAccept) c2, .slice A5 (List.length aGuard) c6, .slice A9 (List.length aNodes) c10]), (1, .agg #[.int .u8 s.1, .int .u8 s.2]), (2, .agg #[.bool xWins, .slice A13 (List.length xRanks) c14, .slice A17 (List.length xReply) c18, .slice A21 (List.length xChoice) c22])] ⟨rfl, rfl, rfl, trivial⟩
 rw [play_New] at hP
 refine wp_seq ?_
 refine wp_region_lit ?_
 refine h_box H E rfl rfl rfl ?_
 intro w154 g153 a hc155 hg157 H_ E_
 replace E := E_ _ rfl; clear E_
 replace H := H_; clear H_; try dsimp only [setn, addE, goneL] at H
 refine h_box H E rfl rfl rfl ?_
 intro w159 g158 a hc160 hg162 H_ E_
 replace E := E_ _ rfl; clear E_
 replace H := H_; clear H_; try dsimp only [setn, addE, goneL] at H
 refine h_box H E rfl rfl rfl ?_
 intro w164 g163 a hc165 hg167 H_ E_
 replace E := E_ _ rfl; clear E_
 replace H := H_; clear H_; try dsimp only [setn, addE, goneL] at H
 refine vr tbok 2 [] [(3, .pointer (some ⟨g153, 0, none⟩)), (4, .pointer (some ⟨g158, 0, none⟩)), (5, .pointer (some ⟨g163, 0, none⟩))] [] E (by kernel_rfl) trivial ?_
 clear E; intro a E
 refine wpList_nil ?_
 refine th_n ?_
 refine wp_seq ?_
 refine wp_region_lit ?_
 refine vr tbok 3 [.agg #[.int .i64 aProps, .slice A1 (List.length aAccept) c2, .slice A5 (List.length aGuard) c6, .slice A9 (List.length aNodes) c10], .agg #[.int .u8 s.1, .int .u8 s.2], .agg #[.bool xWins, .slice A13 (List.length xRanks) c14, .slice A17 (List.length xReply) c18, .slice A21 (List.length xChoice) c22]] [(3, .pointer (some ⟨g153, 0, none⟩)), (4, .pointer (some ⟨g158, 0, none⟩)), (5, .pointer (some ⟨g163, 0, none⟩)), (14, .agg #[.int .i64 aProps, .slice A1 (List.length aAccept) c2, .slice A5 (List.length aGuard) c6, .slice A9 (List.length aNodes) c10]), (15, .agg #[.int .u8 s.1, .int .u8 s.2]), (16, .agg #[.bool xWins, .slice A13 (List.length xRanks) c14, .slice A17 (List.length xReply) c18, .slice A21 (List.length xChoice) c22])] [cellsAt w164 g153 (0) [.int .i64 aProps, .slice A1 (List.length aAccept) c2, .slice A5 (List.length aGuard) c6, .slice A9 (List.length aNodes) c10], cellsAt w164 g158 (0) [.int .u8 s.1, .int .u8 s.2], cellsAt w164 g163 (0) [.bool xWins, .slice A13 (List.length xRanks) c14, .slice A17 (List.length xReply) c18, .slice A21 (List.length xChoice) c22]] E (by kernel_rfl) ⟨(H.box 6 rfl).sub 0 _ rfl, (H.box 7 rfl).sub 0 _ rfl, (H.box 8 rfl).sub 0 _ rfl⟩ ?_
 clear E; intro a E
 obtain ⟨r168, h169, hP⟩ := bind_inv hP
 obtain ⟨Fa170, Hc171, hb172⟩ := H.call [] [(0, false), (1, false), (2, false), (3, false), (4, false), (5, false)] rfl rfl trivial
 refine e_call E rfl rfl Try.func41 rfl rfl rfl (strat_Check_calls A1 c2 A5 c6 A9 c10 A13 c14 A17 c18 A21 c22 aProps aAccept aGuard aNodes (s.1, s.2) xWins xRanks xReply xChoice hk3 hk7 hk11 hk15 hk19 hk23 Hc171 h169) ?_
 rintro v173 w174 a ⟨rfl, HR175⟩ E_
 replace E := E_ _ rfl; clear E_
 obtain ⟨H_, hc176⟩ := hb172 _ _ HR175 rfl
 replace H := H_; clear H_; try dsimp only [setn, addE, goneL] at H
 refine vr tbok 5 [] [(3, .pointer (some ⟨g153, 0, none⟩)), (4, .pointer (some ⟨g158, 0, none⟩)), (5, .pointer (some ⟨g163, 0, none⟩)), (8, .bool r168.1), (9, .int .i64 r168.2)] [] E (by kernel_rfl) trivial ?_
 clear E; intro a E
 refine wpList_nil ?_
 refine th_n ?_
 refine wp_seq ?_
 refine wp_seq ?_
 refine wp_region_lit ?_
 refine vr tbok 2 [] [(3, .pointer (some ⟨g153, 0, none⟩)), (4, .pointer (some ⟨g158, 0, none⟩)), (5, .pointer (some ⟨g163, 0, none⟩)), (8, .bool r168.1), (9, .int .i64 r168.2), (21, .bool ((r168.2 : Int) != 0))] [] E (by kernel_rfl) trivial ?_
 clear E; intro a E
 refine wpList_nil ?_
 refine th_n ?_
 refine E.cases (t := 21) rfl (fun hb_ E_ => ?_) (fun hb_ E_ => ?_)
 ·
  replace E := E_; clear E_
  have h177 : ¬ ((r168.2 : Int) = 0) := bne_iff_ne.1 hb_
  clear hb_; replace hP := ite_f h177 hP
  refine c_true E rfl ?_
  refine wp_seq ?_
  refine wp_region_lit ?_
  refine vr tbok 3 [] [(6, .pointer none), (7, .int .i64 r168.2)] [] E (by kernel_rfl) trivial ?_
  clear E; intro a E
  refine wpList_nil ?_
  refine th_n ?_
  refine wp_ret ?_
  refine th_ret ?_
  obtain rfl := Option.some.inj hP
  refine ret2 E rfl rfl rfl ?_
  exact ⟨_, rfl, .inl ⟨r168.2, rfl, rfl, H.sel [] rfl⟩⟩
 replace E := E_; clear E_
 have h178 : (r168.2 : Int) = 0 := bne_eq_false_iff_eq.1 hb_
 clear hb_; replace hP := ite_t h178 hP
 refine c_false E rfl ?_
 refine wp_skip ?_
 refine th_n ?_
 refine wp_seq ?_
 refine wp_seq ?_
 refine wp_region_lit ?_
 refine vr tbok 2 [] [(3, .pointer (some ⟨g153, 0, none⟩)), (4, .pointer (some ⟨g158, 0, none⟩)), (5, .pointer (some ⟨g163, 0, none⟩)), (24, .bool (!r168.1))] [] E (by kernel_rfl) trivial ?_
 clear E; intro a E
 refine wpList_nil ?_
 refine th_n ?_
 refine E.cases (t := 24) rfl (fun hb_ E_ => ?_) (fun hb_ E_ => ?_)
 ·
  replace E := E_; clear E_
  have h179 : ¬ (r168.1 = true) := (ne_true_of_eq_false (not_t hb_))
  clear hb_; replace hP := ite_f h179 hP
  refine c_true E rfl ?_
  refine wp_seq ?_
  refine wp_region_lit ?_
  refine vr tbok 2 [] [(6, .pointer none), (7, .int .i64 340)] [] E (by kernel_rfl) trivial ?_
  clear E; intro a E
  refine wpList_nil ?_
  refine th_n ?_
  refine wp_ret ?_
  refine th_ret ?_
  obtain rfl := Option.some.inj hP
  refine ret2 E rfl rfl rfl ?_
  exact ⟨_, rfl, .inl ⟨340, rfl, rfl, H.sel [] rfl⟩⟩
 replace E := E_; clear E_
 have h180 : r168.1 = true := (not_f hb_)
 clear hb_; replace hP := ite_t h180 hP
 refine c_false E rfl ?_
 refine wp_skip ?_
 refine th_n ?_
 refine wp_seq ?_
 refine wp_region_lit ?_
 refine vr tbok 1 [.agg #[.int .u8 s.1, .int .u8 s.2]] [(3, .pointer (some ⟨g153, 0, none⟩)), (5, .pointer (some ⟨g163, 0, none⟩)), (25, .agg #[.int .u8 s.1, .int .u8 s.2])] [cellsAt w174 g158 (0) [.int .u8 s.1, .int .u8 s.2]] E (by kernel_rfl) ((H.box 7 rfl).sub 0 _ rfl) ?_
 clear E; intro a E
 refine e_build (ps := [(1, .agg #[.int .u8 s.1, .int .u8 s.2]), (5, .bool true)]) (v := .agg #[.int .i64 0, .slice none 0 0, .slice none 0 0, .slice none 0 0, .int .u8 s.1, .int .u8 s.2, .bool false, .slice none 0 0, .slice none 0 0, .slice none 0 0, .int .i64 0, .slice none 0 0, .bool true]) E rfl rfl tbok rfl (by kernel_rfl) rfl ?_
 clear E; intro a E
 refine h_box H E rfl rfl rfl ?_
 intro w182 g181 a hc183 hg185 H_ E_
 replace E := E_ _ rfl; clear E_
 replace H := H_; clear H_; try dsimp only [setn, addE, goneL] at H
 refine vr tbok 1 [] [(3, .pointer (some ⟨g153, 0, none⟩)), (5, .pointer (some ⟨g163, 0, none⟩)), (10, .pointer (some ⟨g181, 0, none⟩))] [] E (by kernel_rfl) trivial ?_
 clear E; intro a E
 refine wpList_nil ?_
 refine th_n ?_
 refine wp_seq ?_
 obtain ⟨r186, h187, hP⟩ := bind_inv hP
 obtain ⟨r198, h199, hP⟩ := bind_inv hP
 obtain ⟨r210, h211, hP⟩ := bind_inv hP
 have HR227 := H
 refine dr_start (S := fun w_ => Chg (atL [.box g181 74 [.int .i64 0, .slice none 0 0, .slice none 0 0, .slice none 0 0, .int .u8 s.1, .int .u8 s.2, .bool false, .slice none 0 0, .slice none 0 0, .slice none 0 0, .int .i64 0, .slice none 0 0, .bool true]]) w182 w_) (by kernel_rfl) ?_
 intro w224 hc225
 have HS226 : Chg (atL [.box g181 74 [.int .i64 0, .slice none 0 0, .slice none 0 0, .slice none 0 0, .int .u8 s.1, .int .u8 s.2, .bool false, .slice none 0 0, .slice none 0 0, .slice none 0 0, .int .i64 0, .slice none 0 0, .bool true]]) w182 w224 := hc225.mono (fun _ _ h_ => h_.elim)
 replace H := H.ext hc225
 refine dr tbok (by kernel_rfl) [0, 1, 2, 3, 4, 6, 7, 9, 10] [.int .i64 aProps, .slice A1 (List.length aAccept) c2, .slice A5 (List.length aGuard) c6, .slice A9 (List.length aNodes) c10] [(5, .pointer (some ⟨g163, 0, none⟩)), (10, .pointer (some ⟨g181, 0, none⟩)), (28, .pointer (some ⟨g181, 0, none⟩)), (30, .int .i64 aProps), (32, .slice A1 (List.length aAccept) c2), (35, .slice A5 (List.length aGuard) c6), (38, .slice A9 (List.length aNodes) c10)] (fun w_ => [World.cell? w_ ⟨g153, 0, none⟩ = some (.int .i64 aProps), World.cell? w_ ⟨g153, 1, none⟩ = some (.slice A1 (List.length aAccept) c2), World.cell? w_ ⟨g153, 2, none⟩ = some (.slice A5 (List.length aGuard) c6), World.cell? w_ ⟨g153, 3, none⟩ = some (.slice A9 (List.length aNodes) c10)]) 7 E (fun _ _ => by kernel_rfl) (fun w_ hS_ => ⟨(HR227.boxk [9] hS_ 6 rfl rfl).cell (j := 0) rfl, (HR227.boxk [9] hS_ 6 rfl rfl).cell (j := 1) rfl, (HR227.boxk [9] hS_ 6 rfl rfl).cell (j := 2) rfl, (HR227.boxk [9] hS_ 6 rfl rfl).cell (j := 3) rfl⟩) (by kernel_rfl) HS226 ?_
 clear E; intro a E
 refine wpAnyH_all (rs := [5]) (by kernel_rfl) (by simp) ?_
 refine all1 ?_
 refine wpOp_of_list rfl ?_
 obtain ⟨Fa228, Hc229, hb230⟩ := H.call [] [(0, false)] rfl rfl trivial
 refine e_call E rfl rfl Try.func42 rfl rfl rfl (slices_Clone_bool_bool_calls A1 c2 aAccept hk3 Hc229 h187) ?_
 rintro v231 w232 a ⟨A235, c236, rfl, HR233⟩ E_
 replace E := E_ _ rfl; clear E_
 obtain ⟨H_, hc234⟩ := hb230 _ _ HR233 rfl
 replace HS226 := HS226.ext (callS_ext hc234)
 replace H := H_; clear H_; try dsimp only [setn, addE, goneL] at H
 refine wpList_nil ?_
 refine th_n ⟨HS226, ?_⟩
 refine wpAnyH_all (rs := [8]) (by kernel_rfl) (by simp) ?_
 refine all1 ?_
 refine wpOp_of_list rfl ?_
 obtain ⟨Fa238, Hc239, hb240⟩ := H.call [] [(1, false)] rfl rfl trivial
 refine e_call E rfl rfl Try.func43 rfl rfl rfl (slices_Clone_int_int_calls A5 c6 aGuard hk7 Hc239 h199) ?_
 rintro v241 w242 a ⟨A245, c246, rfl, HR243⟩ E_
 replace E := E_ _ rfl; clear E_
 obtain ⟨H_, hc244⟩ := hb240 _ _ HR243 rfl
 replace HS226 := HS226.ext (callS_ext hc244)
 replace H := H_; clear H_; try dsimp only [setn, addE, goneL] at H
 refine wpList_nil ?_
 refine th_n ⟨HS226, ?_⟩
 refine wpAnyH_all (rs := [11]) (by kernel_rfl) (by simp) ?_
 refine all1 ?_
 refine wpOp_of_list rfl ?_
 obtain ⟨Fa248, Hc249, hb250⟩ := H.call [] [(2, false)] rfl rfl trivial
 refine e_call E rfl rfl Try.func44 rfl rfl rfl (slices_Clone_api_Node_api_Node_calls A9 c10 aNodes hk11 Hc249 h211) ?_
 rintro v251 w252 a ⟨A255, c256, rfl, HR253⟩ E_
 replace E := E_ _ rfl; clear E_
 obtain ⟨H_, hc254⟩ := hb250 _ _ HR253 rfl
 replace HS226 := HS226.ext (callS_ext hc254)
 replace H := H_; clear H_; try dsimp only [setn, addE, goneL] at H
 refine wpList_nil ?_
 refine th_n ⟨HS226, ?_⟩
 refine wpAnyH_all (rs := [12]) (by kernel_rfl) (by simp) ?_
 refine all1 ?_
 refine wpOp_of_list rfl ?_
 refine e_build (ps := [(0, .int .i64 aProps), (1, .slice A235 (List.length r186) c236), (2, .slice A245 (List.length r198) c246), (3, .slice A255 (List.length r210) c256)]) (v := .agg #[.int .i64 aProps, .slice A235 (List.length r186) c236, .slice A245 (List.length r198) c246, .slice A255 (List.length r210) c256]) E rfl rfl tbok rfl (by kernel_rfl) rfl ?_
 clear E; intro a E
 refine wpList_nil ?_
 refine th_n ⟨HS226, ?_⟩
 refine dr tbok (by kernel_rfl) [13, 14] [] [(5, .pointer (some ⟨g163, 0, none⟩)), (10, .pointer (some ⟨g181, 0, none⟩)), (40, .agg #[.int .i64 aProps, .slice A235 (List.length r186) c236, .slice A245 (List.length r198) c246, .slice A255 (List.length r210) c256]), (42, .pointer (some ⟨g181, 0, none⟩))] (fun w_ => []) 1 E (fun _ _ => by kernel_rfl) (fun w_ hS_ => trivial) (by kernel_rfl) HS226 ?_
 clear E; intro a E
 refine wpAnyH_all (rs := [15]) (by kernel_rfl) (by simp) ?_
 refine all1 ?_
 refine wpOp_of_list rfl ?_
 refine h_store (g := g181) (off := 0) H 9 rfl E rfl rfl rfl rfl tbok rfl rfl rfl rfl rfl ?_
 clear E; intro w258 a hc259 H_ E
 replace HS226 := HS226.trans hc259 (fun k_ hk_ h_ => (fun _ _ h_ => Or.inl h_) k_ hk_ h_)
 replace H := H_; clear H_; try dsimp only [setn, addE, goneL] at H
 refine wpList_nil ?_
 refine th_n ⟨HS226, ?_⟩
 refine dr_done (by kernel_rfl) ?_
 clear HS226 HR227
 refine th_n ?_
 refine wp_seq ?_
 obtain ⟨r260, h261, hP⟩ := bind_inv hP
 obtain ⟨r272, h273, hP⟩ := bind_inv hP
 have HR289 := H
 refine dr_start (S := fun w_ => Chg (atL [.box g181 74 [.int .i64 aProps, .slice A235 (List.length r186) c236, .slice A245 (List.length r198) c246, .slice A255 (List.length r210) c256, .int .u8 s.1, .int .u8 s.2, .bool false, .slice none 0 0, .slice none 0 0, .slice none 0 0, .int .i64 0, .slice none 0 0, .bool true]]) w258 w_) (by kernel_rfl) ?_
 intro w286 hc287
 have HS288 : Chg (atL [.box g181 74 [.int .i64 aProps, .slice A235 (List.length r186) c236, .slice A245 (List.length r198) c246, .slice A255 (List.length r210) c256, .int .u8 s.1, .int .u8 s.2, .bool false, .slice none 0 0, .slice none 0 0, .slice none 0 0, .int .i64 0, .slice none 0 0, .bool true]]) w258 w286 := hc287.mono (fun _ _ h_ => h_.elim)
 replace H := H.ext hc287
 refine dr tbok (by kernel_rfl) [0, 1, 2, 3, 4, 6, 7] [.bool xWins, .slice A13 (List.length xRanks) c14, .slice A21 (List.length xChoice) c22] [(5, .pointer (some ⟨g163, 0, none⟩)), (10, .pointer (some ⟨g181, 0, none⟩)), (43, .pointer (some ⟨g181, 0, none⟩)), (45, .bool xWins), (47, .slice A13 (List.length xRanks) c14), (50, .slice A21 (List.length xChoice) c22)] (fun w_ => [World.cell? w_ ⟨g163, 0, none⟩ = some (.bool xWins), World.cell? w_ ⟨g163, 1, none⟩ = some (.slice A13 (List.length xRanks) c14), World.cell? w_ ⟨g163, 3, none⟩ = some (.slice A21 (List.length xChoice) c22)]) 6 E (fun _ _ => by kernel_rfl) (fun w_ hS_ => ⟨(HR289.boxk [9] hS_ 8 rfl rfl).cell (j := 0) rfl, (HR289.boxk [9] hS_ 8 rfl rfl).cell (j := 1) rfl, (HR289.boxk [9] hS_ 8 rfl rfl).cell (j := 3) rfl⟩) (by kernel_rfl) HS288 ?_
 clear E; intro a E
 refine wpAnyH_all (rs := [5]) (by kernel_rfl) (by simp) ?_
 refine all1 ?_
 refine wpOp_of_list rfl ?_
 obtain ⟨Fa290, Hc291, hb292⟩ := H.call [] [(3, false)] rfl rfl trivial
 refine e_call E rfl rfl Try.func43 rfl rfl rfl (slices_Clone_int_int_calls A13 c14 xRanks hk15 Hc291 h261) ?_
 rintro v293 w294 a ⟨A297, c298, rfl, HR295⟩ E_
 replace E := E_ _ rfl; clear E_
 obtain ⟨H_, hc296⟩ := hb292 _ _ HR295 rfl
 replace HS288 := HS288.ext (callS_ext hc296)
 replace H := H_; clear H_; try dsimp only [setn, addE, goneL] at H
 refine wpList_nil ?_
 refine th_n ⟨HS288, ?_⟩
 refine wpAnyH_all (rs := [8]) (by kernel_rfl) (by simp) ?_
 refine all1 ?_
 refine wpOp_of_list rfl ?_
 obtain ⟨Fa300, Hc301, hb302⟩ := H.call [] [(5, false)] rfl rfl trivial
 refine e_call E rfl rfl Try.func45 rfl rfl rfl (slices_Clone_api_Letter_api_Letter_calls A21 c22 xChoice hk23 Hc301 h273) ?_
 rintro v303 w304 a ⟨A307, c308, rfl, HR305⟩ E_
 replace E := E_ _ rfl; clear E_
 obtain ⟨H_, hc306⟩ := hb302 _ _ HR305 rfl
 replace HS288 := HS288.ext (callS_ext hc306)
 replace H := H_; clear H_; try dsimp only [setn, addE, goneL] at H
 refine wpList_nil ?_
 refine th_n ⟨HS288, ?_⟩
 refine wpAnyH_all (rs := [9]) (by kernel_rfl) (by simp) ?_
 refine all1 ?_
 refine wpOp_of_list rfl ?_
 refine e_build (ps := [(0, .bool xWins), (1, .slice A297 (List.length r260) c298), (3, .slice A307 (List.length r272) c308)]) (v := .agg #[.bool xWins, .slice A297 (List.length r260) c298, .slice none 0 0, .slice A307 (List.length r272) c308]) E rfl rfl tbok rfl (by kernel_rfl) rfl ?_
 clear E; intro a E
 refine wpList_nil ?_
 refine th_n ⟨HS288, ?_⟩
 refine dr tbok (by kernel_rfl) [10, 11] [] [(5, .pointer (some ⟨g163, 0, none⟩)), (10, .pointer (some ⟨g181, 0, none⟩)), (52, .agg #[.bool xWins, .slice A297 (List.length r260) c298, .slice none 0 0, .slice A307 (List.length r272) c308]), (54, .pointer (some ⟨g181, 6, none⟩))] (fun w_ => []) 1 E (fun _ _ => by kernel_rfl) (fun w_ hS_ => trivial) (by kernel_rfl) HS288 ?_
 clear E; intro a E
 refine wpAnyH_all (rs := [12]) (by kernel_rfl) (by simp) ?_
 refine all1 ?_
 refine wpOp_of_list rfl ?_
 refine h_store (g := g181) (off := 6) H 9 rfl E rfl rfl rfl rfl tbok rfl rfl rfl rfl rfl ?_
 clear E; intro w310 a hc311 H_ E
 replace HS288 := HS288.trans hc311 (fun k_ hk_ h_ => (fun _ _ h_ => Or.inl h_) k_ hk_ h_)
 replace H := H_; clear H_; try dsimp only [setn, addE, goneL] at H
 refine wpList_nil ?_
 refine th_n ⟨HS288, ?_⟩
 refine dr_done (by kernel_rfl) ?_
 clear HS288 HR289
 refine th_n ?_
 refine wp_seq ?_
 refine wp_seq ?_
 refine wp_region_lit ?_
 refine vr tbok 4 [.slice A17 (List.length xReply) c18] [(10, .pointer (some ⟨g181, 0, none⟩)), (56, .slice A17 (List.length xReply) c18), (57, .int .i64 (((List.length xReply) : Nat) : Int)), (58, .int .i64 0)] [World.cell? w310 ⟨g163, 2, none⟩ = some (.slice A17 (List.length xReply) c18)] E (by kernel_rfl) ((H.box 8 rfl).cell (j := 2) rfl) ?_
 clear E; intro a E
 refine wpList_nil ?_
 refine th_n ?_
 refine wp_block ?_
 obtain ⟨x402, hL403, hK404⟩ := bind_inv hP
 clear hP
 replace H := H.nilrow (cSl (cInt .u8)) 31; try dsimp only [setn, addE, goneL] at H
 refine loop_cut (fun i_ a w_ => (i_ = 0 ∧ ∃ (x408 : List (List Int)), ∃ (A399 : Option Addr) (c400 : Nat), Fr a 77 [(10, .pointer (some ⟨g181, 0, none⟩))] ∧ Hp S Fa w0 w_ [.box g181 74 [.int .i64 aProps, .slice A235 (List.length r186) c236, .slice A245 (List.length r198) c246, .slice A255 (List.length r210) c256, .int .u8 s.1, .int .u8 s.2, .bool xWins, .slice A297 (List.length r260) c298, .slice A399 (List.length x408) c400, .slice A307 (List.length r272) c308, .int .i64 0, .slice none 0 0, .bool true], .row true cBool 4 A235 c236 r186, .row true (cInt .i64) 3 A245 c246 r198, .row true cNode 90 A255 c256 r210, .row true (cInt .i64) 3 A297 c298 r260, .row true (cSl (cInt .u8)) 31 A399 c400 x408, .row true (cInt .u8) 27 A307 c308 r272] ∧ x402 = x408)) ?_ ?_
 ·
  refine loopV (fun m407 a w406 => ∃ (r353 : List (List Int)) (x356 : Int), ∃ (A354 : Option Addr) (c355 : Nat), Fr a 77 [(10, .pointer (some ⟨g181, 0, none⟩)), (56, .slice A17 (List.length xReply) c18), (57, .int .i64 (((List.length xReply) : Nat) : Int)), (58, .int .i64 x356)] ∧ Hp S Fa w0 w406 [.box g181 74 [.int .i64 aProps, .slice A235 (List.length r186) c236, .slice A245 (List.length r198) c246, .slice A255 (List.length r210) c256, .int .u8 s.1, .int .u8 s.2, .bool xWins, .slice A297 (List.length r260) c298, .slice A354 (List.length r353) c355, .slice A307 (List.length r272) c308, .int .i64 0, .slice none 0 0, .bool true], .row true cBool 4 A235 c236 r186, .row true (cInt .i64) 3 A245 c246 r198, .row true cNode 90 A255 c256 r210, .row true (cInt .i64) 3 A297 c298 r260, .row true (cSl (cInt .u8)) 31 A354 c355 r353, .row true (cInt .u8) 27 A307 c308 r272, .ro false (cSl (cInt .u8)) A17 xReply] ∧ play_New_l0 N xReply m407 r353 x356 = some x402) N ?_ ?_
  ·
   exact ⟨[], 0, none, 0, E.pick _ ⟨rfl, rfl, rfl, rfl, trivial⟩, H.sel [9, 10, 11, 12, 13, 15, 14, 4] rfl, hL403⟩
  clear E H hL403; intro m407 a w406 hI_
  obtain ⟨r353, x356, A354, c355, E, H, hP⟩ := hI_
  obtain ⟨m401, rfl⟩ : ∃ q_, m407 = q_ + 1 := by cases m407 with | zero => rw [play_New_l0] at hP; cases hP | succ q_ => exact ⟨q_, rfl⟩
  rw [play_New_l0] at hP
  refine wp_seq ?_
  refine wp_region_lit ?_
  refine vr tbok 1 [] [(10, .pointer (some ⟨g181, 0, none⟩)), (56, .slice A17 (List.length xReply) c18), (57, .int .i64 (((List.length xReply) : Nat) : Int)), (58, .int .i64 x356), (59, .bool (decide (x356 < (((List.length xReply) : Nat) : Int))))] [] E (by kernel_rfl) trivial ?_
  clear E; intro a E
  refine wpList_nil ?_
  refine th_n ?_
  refine wp_seq ?_
  refine E.cases (t := 59) rfl (fun hb_ E_ => ?_) (fun hb_ E_ => ?_)
  ·
   replace E := E_; clear E_
   have h409 : x356 < (((List.length xReply) : Nat) : Int) := of_decide_eq_true hb_
   clear hb_; replace hP := ite_t h409 hP
   refine c_true E rfl ?_
   refine wp_skip ?_
   refine th_n ?_
   refine wp_seq ?_
   refine wp_block ?_
   refine wp_seq ?_
   refine wp_region_lit ?_
   obtain ⟨g410, hP⟩ := ask_inv hP
   obtain ⟨b411, o412, e_b411⟩ := (H.rd 7 rds_ro).addr (idx_pos g410)
   subst e_b411
   obtain ⟨A413, c414, hl415, hk416, H⟩ := H.subSl 7 false (el_ro rfl) g410
   try dsimp only [addE] at H
   refine vr tbok 3 [.slice A413 (List.length (List.getD xReply (Int.toNat x356) [])) c414] [(10, .pointer (some ⟨g181, 0, none⟩)), (12, .slice A413 (List.length (List.getD xReply (Int.toNat x356) [])) c414), (56, .slice (some ⟨b411, o412, none⟩) (List.length xReply) c18), (57, .int .i64 (((List.length xReply) : Nat) : Int)), (58, .int .i64 x356)] [0 ≤ x356 ∧ x356 < (((List.length xReply) : Nat) : Int), World.cell? w406 ⟨b411, o412 + (Int.toNat x356) * 1, none⟩ = some (.slice A413 (List.length (List.getD xReply (Int.toNat x356) [])) c414)] E (by kernel_rfl) ⟨g410, hl415⟩ ?_
   clear E; intro a E
   refine wpList_nil ?_
   refine th_n ?_
   obtain ⟨r418, h419, hP⟩ := bind_inv hP
   obtain ⟨g436, hP⟩ := ask_inv hP
   refine meet_cut (fun a w446 => ∃ (A444 : Option Addr) (c445 : Nat), Fr a 77 [(10, .pointer (some ⟨g181, 0, none⟩)), (56, .slice (some ⟨b411, o412, none⟩) (List.length xReply) c18), (57, .int .i64 (((List.length xReply) : Nat) : Int)), (58, .int .i64 x356)] ∧ Hp S Fa w0 w446 [.box g181 74 [.int .i64 aProps, .slice A235 (List.length r186) c236, .slice A245 (List.length r198) c246, .slice A255 (List.length r210) c256, .int .u8 s.1, .int .u8 s.2, .bool xWins, .slice A297 (List.length r260) c298, .slice A444 (List.length (r353 ++ ([r418] : List (List Int)))) c445, .slice A307 (List.length r272) c308, .int .i64 0, .slice none 0 0, .bool true], .row true cBool 4 A235 c236 r186, .row true (cInt .i64) 3 A245 c246 r198, .row true cNode 90 A255 c256 r210, .row true (cInt .i64) 3 A297 c298 r260, .row true (cSl (cInt .u8)) 31 A444 c445 (r353 ++ ([r418] : List (List Int))), .row true (cInt .u8) 27 A307 c308 r272, .ro false (cSl (cInt .u8)) (some ⟨b411, o412, none⟩) xReply]) ?_ ?_
   ·
    have HR450 := H
    refine dr_start (S := fun w_ => Chg (atL [.box g181 74 [.int .i64 aProps, .slice A235 (List.length r186) c236, .slice A245 (List.length r198) c246, .slice A255 (List.length r210) c256, .int .u8 s.1, .int .u8 s.2, .bool xWins, .slice A297 (List.length r260) c298, .slice A354 (List.length r353) c355, .slice A307 (List.length r272) c308, .int .i64 0, .slice none 0 0, .bool true], .row true (cSl (cInt .u8)) 31 A354 c355 r353]) w406 w_) (by kernel_rfl) ?_
    intro w447 hc448
    have HS449 : Chg (atL [.box g181 74 [.int .i64 aProps, .slice A235 (List.length r186) c236, .slice A245 (List.length r198) c246, .slice A255 (List.length r210) c256, .int .u8 s.1, .int .u8 s.2, .bool xWins, .slice A297 (List.length r260) c298, .slice A354 (List.length r353) c355, .slice A307 (List.length r272) c308, .int .i64 0, .slice none 0 0, .bool true], .row true (cSl (cInt .u8)) 31 A354 c355 r353]) w406 w447 := hc448.mono (fun _ _ h_ => h_.elim)
    replace H := H.ext hc448
    refine dr tbok (by kernel_rfl) [0, 1, 2, 3, 4, 6] [] [(10, .pointer (some ⟨g181, 0, none⟩)), (56, .slice (some ⟨b411, o412, none⟩) (List.length xReply) c18), (57, .int .i64 (((List.length xReply) : Nat) : Int)), (58, .int .i64 x356), (62, .pointer (some ⟨g181, 0, none⟩)), (66, .pointer (some ⟨g181, 8, none⟩)), (68, .slice A413 (List.length (List.getD xReply (Int.toNat x356) [])) c414)] (fun w_ => []) 8 E (fun _ _ => by kernel_rfl) (fun w_ hS_ => trivial) (by kernel_rfl) HS449 ?_
    clear E; intro a E
    refine wpAnyH_all (rs := [5, 7]) (by kernel_rfl) (by simp) ?_
    refine all2 ?_ ?_
    ·
     refine wpOp_of_list rfl ?_
     refine vr tbok 1 [.slice A354 (List.length r353) c355] [(10, .pointer (some ⟨g181, 0, none⟩)), (56, .slice (some ⟨b411, o412, none⟩) (List.length xReply) c18), (57, .int .i64 (((List.length xReply) : Nat) : Int)), (58, .int .i64 x356), (62, .pointer (some ⟨g181, 0, none⟩)), (66, .pointer (some ⟨g181, 8, none⟩)), (67, .slice A354 (List.length r353) c355), (68, .slice A413 (List.length (List.getD xReply (Int.toNat x356) [])) c414)] [World.cell? w447 ⟨g181, 8, none⟩ = some (.slice A354 (List.length r353) c355)] E (by kernel_rfl) ((H.box 0 rfl).cell (j := 8) rfl) ?_
     clear E; intro a E
     refine wpList_nil ?_
     refine th_n ⟨HS449, ?_⟩
     refine wpAnyH_all (rs := [7]) (by kernel_rfl) (by simp) ?_
     refine all1 ?_
     refine wpOp_of_list rfl ?_
     obtain ⟨Fa451, Hc452, hb453⟩ := H.call [] [(8, false)] rfl rfl trivial
     refine e_call E rfl rfl Try.func45 rfl rfl rfl (slices_Clone_api_Letter_api_Letter_calls A413 c414 (List.getD xReply (Int.toNat x356) []) hk416 Hc452 h419) ?_
     rintro v454 w455 a ⟨A458, c459, rfl, HR456⟩ E_
     replace E := E_ _ rfl; clear E_
     obtain ⟨H_, hc457⟩ := hb453 _ _ HR456 rfl
     replace HS449 := HS449.ext (callS_ext hc457)
     replace H := H_; clear H_; try dsimp only [setn, addE, goneL] at H
     refine wpList_nil ?_
     refine th_n ⟨HS449, ?_⟩
     refine wpAnyH_all (rs := [8]) (by kernel_rfl) (by simp) ?_
     refine all1 ?_
     refine wpOp_of_list rfl ?_
     refine h_buildSlice (ps := [(0, .slice A458 (List.length r418) c459)]) (cs := [.slice A458 (List.length r418) c459]) H E rfl rfl tbok rfl rfl (by kernel_rfl) ?_
     intro w462 g461 a hc463 hg465 H_ E_
     replace E := E_ _ rfl; clear E_
     have hin466 : ∀ q_, q_ < w406.heap.size → q_ = g461 → (atL [.box g181 74 [.int .i64 aProps, .slice A235 (List.length r186) c236, .slice A245 (List.length r198) c246, .slice A255 (List.length r210) c256, .int .u8 s.1, .int .u8 s.2, .bool xWins, .slice A297 (List.length r260) c298, .slice A354 (List.length r353) c355, .slice A307 (List.length r272) c308, .int .i64 0, .slice none 0 0, .bool true], .row true (cSl (cInt .u8)) 31 A354 c355 r353]) q_ := fun q_ h1_ h2_ => by have hs_ := HS449.size; have h4_ : q_ = g461 := h2_; exfalso; omega
     replace HS449 := HS449.ext hc463
     replace H := H_; clear H_; try dsimp only [setn, addE, goneL] at H
     refine wpList_nil ?_
     refine th_n ⟨HS449, ?_⟩
     refine wpAnyH_all (rs := [9]) (by kernel_rfl) (by simp) ?_
     refine all1 ?_
     refine wpOp_of_list rfl ?_
     have hk467 := H.rcap 9 rfl
     replace H := H.frz 9 rfl; try dsimp only [setn, addE, goneL] at H
     refine h_append (cSl (cInt .u8)) (xs := r353) (ys := ([r418] : List (List Int))) ([] : List Int) H 5 rfl E rfl rfl tbok rfl rfl rfl rfl rfl (fun _ _ => kSl_nil) rfl rfl (fun _ HF_ => HF_.srcB 10 rfl ⟨_, _, rfl, ⟨_, _, rfl, hk467, (HF_.roC 9 rfl)⟩, rfl⟩) g436 ?_
     intro w468 A469 c470 a hc471 hA472 H_ E_
     replace E := E_ _ rfl; clear E_
     have hin473 : ∀ q_, q_ < w406.heap.size → At A469 q_ → (atL [.box g181 74 [.int .i64 aProps, .slice A235 (List.length r186) c236, .slice A245 (List.length r198) c246, .slice A255 (List.length r210) c256, .int .u8 s.1, .int .u8 s.2, .bool xWins, .slice A297 (List.length r260) c298, .slice A354 (List.length r353) c355, .slice A307 (List.length r272) c308, .int .i64 0, .slice none 0 0, .bool true], .row true (cSl (cInt .u8)) 31 A354 c355 r353]) q_ := fun q_ h1_ h2_ => (hA472 q_ h2_).elim ((fun _ _ h_ => Or.inr (Or.inl h_)) q_ h1_) (fun h3_ => by have hs_ := HS449.size; exfalso; omega)
     replace HS449 := HS449.trans hc471 (fun k_ hk_ h_ => (fun _ _ h_ => Or.inr (Or.inl h_)) k_ hk_ h_)
     replace H := H_; clear H_; try dsimp only [setn, addE, goneL] at H
     refine wpList_nil ?_
     refine th_n ⟨HS449, ?_⟩
     refine dr tbok (by kernel_rfl) [10, 11, 12] [] [(10, .pointer (some ⟨g181, 0, none⟩)), (56, .slice (some ⟨b411, o412, none⟩) (List.length xReply) c18), (57, .int .i64 (((List.length xReply) : Nat) : Int)), (58, .int .i64 x356), (71, .slice A469 (List.length (r353 ++ ([r418] : List (List Int)))) c470), (74, .pointer (some ⟨g181, 8, none⟩))] (fun w_ => []) 1 E (fun _ _ => by kernel_rfl) (fun w_ hS_ => trivial) (by kernel_rfl) HS449 ?_
     clear E; intro a E
     refine wpAnyH_all (rs := [13]) (by kernel_rfl) (by simp) ?_
     refine all1 ?_
     refine wpOp_of_list rfl ?_
     refine h_store (g := g181) (off := 8) H 0 rfl E rfl rfl rfl rfl tbok rfl rfl rfl rfl rfl ?_
     clear E; intro w474 a hc475 H_ E
     replace HS449 := HS449.trans hc475 (fun k_ hk_ h_ => (fun _ _ h_ => Or.inl h_) k_ hk_ h_)
     replace H := H_; clear H_; try dsimp only [setn, addE, goneL] at H
     refine wpList_nil ?_
     refine th_n ⟨HS449, ?_⟩
     refine dr_done (by kernel_rfl) ?_
     exact .inl ⟨rfl, A469, c470, E.pick _ ⟨rfl, rfl, rfl, rfl, trivial⟩, H.sel [0, 1, 2, 3, 4, 5, 6, 7] rfl⟩
    refine wpOp_of_list rfl ?_
    obtain ⟨Fa476, Hc477, hb478⟩ := H.call [] [(8, false)] rfl rfl trivial
    refine e_call E rfl rfl Try.func45 rfl rfl rfl (slices_Clone_api_Letter_api_Letter_calls A413 c414 (List.getD xReply (Int.toNat x356) []) hk416 Hc477 h419) ?_
    rintro v479 w480 a ⟨A483, c484, rfl, HR481⟩ E_
    replace E := E_ _ rfl; clear E_
    obtain ⟨H_, hc482⟩ := hb478 _ _ HR481 rfl
    replace HS449 := HS449.ext (callS_ext hc482)
    replace H := H_; clear H_; try dsimp only [setn, addE, goneL] at H
    refine wpList_nil ?_
    refine th_n ⟨HS449, ?_⟩
    refine wpAnyH_all (rs := [5, 8]) (by kernel_rfl) (by simp) ?_
    refine all2 ?_ ?_
    ·
     refine wpOp_of_list rfl ?_
     refine vr tbok 1 [.slice A354 (List.length r353) c355] [(10, .pointer (some ⟨g181, 0, none⟩)), (56, .slice (some ⟨b411, o412, none⟩) (List.length xReply) c18), (57, .int .i64 (((List.length xReply) : Nat) : Int)), (58, .int .i64 x356), (62, .pointer (some ⟨g181, 0, none⟩)), (66, .pointer (some ⟨g181, 8, none⟩)), (67, .slice A354 (List.length r353) c355), (69, .slice A483 (List.length r418) c484)] [World.cell? w480 ⟨g181, 8, none⟩ = some (.slice A354 (List.length r353) c355)] E (by kernel_rfl) ((H.box 0 rfl).cell (j := 8) rfl) ?_
     clear E; intro a E
     refine wpList_nil ?_
     refine th_n ⟨HS449, ?_⟩
     refine wpAnyH_all (rs := [8]) (by kernel_rfl) (by simp) ?_
     refine all1 ?_
     refine wpOp_of_list rfl ?_
     refine h_buildSlice (ps := [(0, .slice A483 (List.length r418) c484)]) (cs := [.slice A483 (List.length r418) c484]) H E rfl rfl tbok rfl rfl (by kernel_rfl) ?_
     intro w487 g486 a hc488 hg490 H_ E_
     replace E := E_ _ rfl; clear E_
     have hin491 : ∀ q_, q_ < w406.heap.size → q_ = g486 → (atL [.box g181 74 [.int .i64 aProps, .slice A235 (List.length r186) c236, .slice A245 (List.length r198) c246, .slice A255 (List.length r210) c256, .int .u8 s.1, .int .u8 s.2, .bool xWins, .slice A297 (List.length r260) c298, .slice A354 (List.length r353) c355, .slice A307 (List.length r272) c308, .int .i64 0, .slice none 0 0, .bool true], .row true (cSl (cInt .u8)) 31 A354 c355 r353]) q_ := fun q_ h1_ h2_ => by have hs_ := HS449.size; have h4_ : q_ = g486 := h2_; exfalso; omega
     replace HS449 := HS449.ext hc488
     replace H := H_; clear H_; try dsimp only [setn, addE, goneL] at H
     refine wpList_nil ?_
     refine th_n ⟨HS449, ?_⟩
     refine wpAnyH_all (rs := [9]) (by kernel_rfl) (by simp) ?_
     refine all1 ?_
     refine wpOp_of_list rfl ?_
     have hk492 := H.rcap 9 rfl
     replace H := H.frz 9 rfl; try dsimp only [setn, addE, goneL] at H
     refine h_append (cSl (cInt .u8)) (xs := r353) (ys := ([r418] : List (List Int))) ([] : List Int) H 5 rfl E rfl rfl tbok rfl rfl rfl rfl rfl (fun _ _ => kSl_nil) rfl rfl (fun _ HF_ => HF_.srcB 10 rfl ⟨_, _, rfl, ⟨_, _, rfl, hk492, (HF_.roC 9 rfl)⟩, rfl⟩) g436 ?_
     intro w493 A494 c495 a hc496 hA497 H_ E_
     replace E := E_ _ rfl; clear E_
     have hin498 : ∀ q_, q_ < w406.heap.size → At A494 q_ → (atL [.box g181 74 [.int .i64 aProps, .slice A235 (List.length r186) c236, .slice A245 (List.length r198) c246, .slice A255 (List.length r210) c256, .int .u8 s.1, .int .u8 s.2, .bool xWins, .slice A297 (List.length r260) c298, .slice A354 (List.length r353) c355, .slice A307 (List.length r272) c308, .int .i64 0, .slice none 0 0, .bool true], .row true (cSl (cInt .u8)) 31 A354 c355 r353]) q_ := fun q_ h1_ h2_ => (hA497 q_ h2_).elim ((fun _ _ h_ => Or.inr (Or.inl h_)) q_ h1_) (fun h3_ => by have hs_ := HS449.size; exfalso; omega)
     replace HS449 := HS449.trans hc496 (fun k_ hk_ h_ => (fun _ _ h_ => Or.inr (Or.inl h_)) k_ hk_ h_)
     replace H := H_; clear H_; try dsimp only [setn, addE, goneL] at H
     refine wpList_nil ?_
     refine th_n ⟨HS449, ?_⟩
     refine dr tbok (by kernel_rfl) [10, 11, 12] [] [(10, .pointer (some ⟨g181, 0, none⟩)), (56, .slice (some ⟨b411, o412, none⟩) (List.length xReply) c18), (57, .int .i64 (((List.length xReply) : Nat) : Int)), (58, .int .i64 x356), (71, .slice A494 (List.length (r353 ++ ([r418] : List (List Int)))) c495), (74, .pointer (some ⟨g181, 8, none⟩))] (fun w_ => []) 1 E (fun _ _ => by kernel_rfl) (fun w_ hS_ => trivial) (by kernel_rfl) HS449 ?_
     clear E; intro a E
     refine wpAnyH_all (rs := [13]) (by kernel_rfl) (by simp) ?_
     refine all1 ?_
     refine wpOp_of_list rfl ?_
     refine h_store (g := g181) (off := 8) H 0 rfl E rfl rfl rfl rfl tbok rfl rfl rfl rfl rfl ?_
     clear E; intro w499 a hc500 H_ E
     replace HS449 := HS449.trans hc500 (fun k_ hk_ h_ => (fun _ _ h_ => Or.inl h_) k_ hk_ h_)
     replace H := H_; clear H_; try dsimp only [setn, addE, goneL] at H
     refine wpList_nil ?_
     refine th_n ⟨HS449, ?_⟩
     refine dr_done (by kernel_rfl) ?_
     exact .inl ⟨rfl, A494, c495, E.pick _ ⟨rfl, rfl, rfl, rfl, trivial⟩, H.sel [0, 1, 2, 3, 4, 5, 6, 7] rfl⟩
    refine wpOp_of_list rfl ?_
    refine h_buildSlice (ps := [(0, .slice A483 (List.length r418) c484)]) (cs := [.slice A483 (List.length r418) c484]) H E rfl rfl tbok rfl rfl (by kernel_rfl) ?_
    intro w502 g501 a hc503 hg505 H_ E_
    replace E := E_ _ rfl; clear E_
    have hin506 : ∀ q_, q_ < w406.heap.size → q_ = g501 → (atL [.box g181 74 [.int .i64 aProps, .slice A235 (List.length r186) c236, .slice A245 (List.length r198) c246, .slice A255 (List.length r210) c256, .int .u8 s.1, .int .u8 s.2, .bool xWins, .slice A297 (List.length r260) c298, .slice A354 (List.length r353) c355, .slice A307 (List.length r272) c308, .int .i64 0, .slice none 0 0, .bool true], .row true (cSl (cInt .u8)) 31 A354 c355 r353]) q_ := fun q_ h1_ h2_ => by have hs_ := HS449.size; have h4_ : q_ = g501 := h2_; exfalso; omega
    replace HS449 := HS449.ext hc503
    replace H := H_; clear H_; try dsimp only [setn, addE, goneL] at H
    refine wpList_nil ?_
    refine th_n ⟨HS449, ?_⟩
    refine wpAnyH_all (rs := [5]) (by kernel_rfl) (by simp) ?_
    refine all1 ?_
    refine wpOp_of_list rfl ?_
    refine vr tbok 1 [.slice A354 (List.length r353) c355] [(10, .pointer (some ⟨g181, 0, none⟩)), (56, .slice (some ⟨b411, o412, none⟩) (List.length xReply) c18), (57, .int .i64 (((List.length xReply) : Nat) : Int)), (58, .int .i64 x356), (62, .pointer (some ⟨g181, 0, none⟩)), (66, .pointer (some ⟨g181, 8, none⟩)), (67, .slice A354 (List.length r353) c355), (70, .slice (some ⟨g501, 0, none⟩) 1 1)] [World.cell? w502 ⟨g181, 8, none⟩ = some (.slice A354 (List.length r353) c355)] E (by kernel_rfl) ((H.box 0 rfl).cell (j := 8) rfl) ?_
    clear E; intro a E
    refine wpList_nil ?_
    refine th_n ⟨HS449, ?_⟩
    refine wpAnyH_all (rs := [9]) (by kernel_rfl) (by simp) ?_
    refine all1 ?_
    refine wpOp_of_list rfl ?_
    have hk507 := H.rcap 9 rfl
    replace H := H.frz 9 rfl; try dsimp only [setn, addE, goneL] at H
    refine h_append (cSl (cInt .u8)) (xs := r353) (ys := ([r418] : List (List Int))) ([] : List Int) H 5 rfl E rfl rfl tbok rfl rfl rfl rfl rfl (fun _ _ => kSl_nil) rfl rfl (fun _ HF_ => HF_.srcB 10 rfl ⟨_, _, rfl, ⟨_, _, rfl, hk507, (HF_.roC 9 rfl)⟩, rfl⟩) g436 ?_
    intro w508 A509 c510 a hc511 hA512 H_ E_
    replace E := E_ _ rfl; clear E_
    have hin513 : ∀ q_, q_ < w406.heap.size → At A509 q_ → (atL [.box g181 74 [.int .i64 aProps, .slice A235 (List.length r186) c236, .slice A245 (List.length r198) c246, .slice A255 (List.length r210) c256, .int .u8 s.1, .int .u8 s.2, .bool xWins, .slice A297 (List.length r260) c298, .slice A354 (List.length r353) c355, .slice A307 (List.length r272) c308, .int .i64 0, .slice none 0 0, .bool true], .row true (cSl (cInt .u8)) 31 A354 c355 r353]) q_ := fun q_ h1_ h2_ => (hA512 q_ h2_).elim ((fun _ _ h_ => Or.inr (Or.inl h_)) q_ h1_) (fun h3_ => by have hs_ := HS449.size; exfalso; omega)
    replace HS449 := HS449.trans hc511 (fun k_ hk_ h_ => (fun _ _ h_ => Or.inr (Or.inl h_)) k_ hk_ h_)
    replace H := H_; clear H_; try dsimp only [setn, addE, goneL] at H
    refine wpList_nil ?_
    refine th_n ⟨HS449, ?_⟩
    refine dr tbok (by kernel_rfl) [10, 11, 12] [] [(10, .pointer (some ⟨g181, 0, none⟩)), (56, .slice (some ⟨b411, o412, none⟩) (List.length xReply) c18), (57, .int .i64 (((List.length xReply) : Nat) : Int)), (58, .int .i64 x356), (71, .slice A509 (List.length (r353 ++ ([r418] : List (List Int)))) c510), (74, .pointer (some ⟨g181, 8, none⟩))] (fun w_ => []) 1 E (fun _ _ => by kernel_rfl) (fun w_ hS_ => trivial) (by kernel_rfl) HS449 ?_
    clear E; intro a E
    refine wpAnyH_all (rs := [13]) (by kernel_rfl) (by simp) ?_
    refine all1 ?_
    refine wpOp_of_list rfl ?_
    refine h_store (g := g181) (off := 8) H 0 rfl E rfl rfl rfl rfl tbok rfl rfl rfl rfl rfl ?_
    clear E; intro w514 a hc515 H_ E
    replace HS449 := HS449.trans hc515 (fun k_ hk_ h_ => (fun _ _ h_ => Or.inl h_) k_ hk_ h_)
    replace H := H_; clear H_; try dsimp only [setn, addE, goneL] at H
    refine wpList_nil ?_
    refine th_n ⟨HS449, ?_⟩
    refine dr_done (by kernel_rfl) ?_
    exact .inl ⟨rfl, A509, c510, E.pick _ ⟨rfl, rfl, rfl, rfl, trivial⟩, H.sel [0, 1, 2, 3, 4, 5, 6, 7] rfl⟩
   clear E H; rintro a w446 ⟨A444, c445, E, H⟩
   refine bl_n ?_
   refine th_n ?_
   refine wp_region_lit ?_
   obtain ⟨g516, hP⟩ := ask_inv hP
   refine vr tbok 2 [.int .i64 (x356 + 1)] [(10, .pointer (some ⟨g181, 0, none⟩)), (56, .slice (some ⟨b411, o412, none⟩) (List.length xReply) c18), (57, .int .i64 (((List.length xReply) : Nat) : Int)), (58, .int .i64 (x356 + 1))] [IntKind.i64.wrap (x356 + 1) = x356 + 1] E (by kernel_rfl) (wrap_in g516) ?_
   clear E; intro a E
   refine wpList_nil ?_
   exact th_n ⟨m401, Nat.lt_succ_self _, r353 ++ ([r418] : List (List Int)), x356 + 1, A444, c445, E.pick _ ⟨rfl, rfl, rfl, rfl, trivial⟩, H.sel [0, 1, 2, 3, 4, 5, 6, 7] rfl, hP⟩
  replace E := E_; clear E_
  have h517 : ¬ (x356 < (((List.length xReply) : Nat) : Int)) := of_decide_eq_false hb_
  clear hb_; replace hP := ite_f h517 hP
  refine c_false E rfl ?_
  refine wp_exit ?_
  refine th_exit ?_
  have hx_ := Option.some.inj hP
  refine th_exit (.inl ⟨0, rfl, ?_⟩)
  exact ⟨rfl, r353, A354, c355, E.pick _ ⟨rfl, trivial⟩, H.sel [0, 1, 2, 3, 4, 5, 6] rfl, hx_.symm⟩
 clear E H hL403; intro i_ a w406 hM_
 obtain ⟨rfl, x408, A399, c400, E, H, hx_⟩ := hM_
 subst hx_; have hP := hK404; clear hK404
 refine bl_hit ?_
 refine th_n ?_
 refine wp_seq ?_
 refine wp_region_lit ?_
 refine vr tbok 3 [] [(6, .pointer (some ⟨g181, 0, none⟩)), (7, .int .i64 0)] [] E (by kernel_rfl) trivial ?_
 clear E; intro a E
 refine wpList_nil ?_
 refine th_n ?_
 refine wp_ret ?_
 obtain rfl := Option.some.inj hP
 refine ret2 E rfl rfl rfl ?_
 exact ⟨_, rfl, .inr (⟨(r186, r198, r210, r260, x402, r272, 0), g181, A235, c236, A245, c246, A255, c256, A297, c298, A399, c400, A307, c308, rfl, rfl, H.sel [0, 1, 2, 3, 4, 5, 6] rfl⟩)⟩

end Go.V
