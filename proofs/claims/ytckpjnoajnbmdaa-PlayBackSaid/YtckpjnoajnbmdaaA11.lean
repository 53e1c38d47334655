/- Plain functions, and the calls that give them. -/
import Derived.Test.YtckpjnoajnbmdaaA10
set_option linter.all false
set_option linter.unusedVariables false
set_option linter.unnecessarySimpa false
set_option linter.unusedSimpArgs false
namespace Go.V
open Go Go.Proofs
/-! rejoinder/rejoinderlaw19.Real -/
def law19_Real (N : Nat) (aProps : Int) (aAccept : List Bool) (aGuard : List Int) (aNodes : List Nd) : Option Bool :=
  if 0 < (((List.length aAccept) : Nat) : Int) then
    some (((((List.length aGuard) : Nat) : Int) : Int) == (((List.length aAccept) : Nat) : Int))
  else
    some false
set_option maxRecDepth 100000 in
set_option maxHeartbeats 4000000 in
theorem law19_Real_calls {N : Nat} {S Fa : Nat → Prop} {w0 : World} {r : Bool} (A1 : Option Addr) (c2 : Nat) (A5 : Option Addr) (c6 : Nat) (A9 : Option Addr) (c10 : Nat) (aProps : Int) (aAccept : List Bool) (aGuard : List Int) (aNodes : List Nd) (hk3 : List.length aAccept ≤ c2) (hk7 : List.length aGuard ≤ c6) (hk11 : List.length aNodes ≤ c10) (H : Hp S Fa w0 w0 [.ro false cBool A1 aAccept, .ro false (cInt .i64) A5 aGuard, .ro false cNode A9 aNodes]) (hP : law19_Real N aProps aAccept aGuard aNodes = some r) :
    Calls Try.prog 25 #[.agg #[.int .i64 aProps, .slice A1 (List.length aAccept) c2, .slice A5 (List.length aGuard) c6, .slice A9 (List.length aNodes) c10]] w0 fun e w' => ∃ v, e = .returned v ∧ v = .bool r ∧ Hp S Fa w0 w' [] := by
 refine enterV (n := 16) Try.func25 rfl rfl rfl ?_
 intro a E
 replace E := E.pick [(0, .agg #[.int .i64 aProps, .slice A1 (List.length aAccept) c2, .slice A5 (List.length aGuard) c6, .slice A9 (List.length aNodes) c10])] ⟨rfl, trivial⟩
 rw [law19_Real] at hP
 refine wp_seq ?_
 refine wp_region_lit ?_
 refine h_box H E rfl rfl rfl ?_
 intro w14 g13 a hc15 hg17 H_ E_
 replace E := E_ _ rfl; clear E_
 replace H := H_; clear H_; try dsimp only [setn, addE, goneL] at H
 refine vr tbok 1 [] [(1, .pointer (some ⟨g13, 0, none⟩))] [] E (by kernel_rfl) trivial ?_
 clear E; intro a E
 refine wpList_nil ?_
 refine th_n ?_
 refine wp_seq ?_
 refine wp_region_lit ?_
 refine vr tbok 5 [.slice A1 (List.length aAccept) c2] [(1, .pointer (some ⟨g13, 0, none⟩)), (7, .bool (decide (0 < (((List.length aAccept) : Nat) : Int))))] [World.cell? w14 ⟨g13, 1, none⟩ = some (.slice A1 (List.length aAccept) c2)] E (by kernel_rfl) ((H.box 3 rfl).cell (j := 1) rfl) ?_
 clear E; intro a E
 refine E.cases (t := 7) rfl (fun hb_ E_ => ?_) (fun hb_ E_ => ?_)
 ·
  replace E := E_; clear E_
  have h18 : 0 < (((List.length aAccept) : Nat) : Int) := of_decide_eq_true hb_
  clear hb_; replace hP := ite_t h18 hP
  refine vr tbok 9 [.slice A5 (List.length aGuard) c6, .slice A1 (List.length aAccept) c2] [(2, .bool (((((List.length aGuard) : Nat) : Int) : Int) == (((List.length aAccept) : Nat) : Int)))] [World.cell? w14 ⟨g13, 2, none⟩ = some (.slice A5 (List.length aGuard) c6), World.cell? w14 ⟨g13, 1, none⟩ = some (.slice A1 (List.length aAccept) c2)] E (by kernel_rfl) ⟨(H.box 3 rfl).cell (j := 2) rfl, (H.box 3 rfl).cell (j := 1) rfl⟩ ?_
  clear E; intro a E
  refine wpList_nil ?_
  refine th_n ?_
  refine wp_ret ?_
  obtain rfl := Option.some.inj hP
  refine ret1 E rfl rfl ?_
  exact ⟨_, rfl, rfl, H.sel [] rfl⟩
 replace E := E_; clear E_
 have h19 : ¬ (0 < (((List.length aAccept) : Nat) : Int)) := of_decide_eq_false hb_
 clear hb_; replace hP := ite_f h19 hP
 refine vr tbok 9 [] [(2, .bool false)] [] E (by kernel_rfl) trivial ?_
 clear E; intro a E
 refine wpList_nil ?_
 refine th_n ?_
 refine wp_ret ?_
 obtain rfl := Option.some.inj hP
 refine ret1 E rfl rfl ?_
 exact ⟨_, rfl, rfl, H.sel [] rfl⟩

/-! (*rejoinder/play.Referee).Back -/
def play_Referee_Back (N : Nat) (raProps : Int) (raAccept : List Bool) (raGuard : List Int) (raNodes : List Nd) (rs : Int × Int) (rxWins : Bool) (rxRanks : List Int) (rxReply : List (List Int)) (rxChoice : List Int) (rq : Int) (rrounds : List (Int × Int)) (rmade : Bool) : Option (Int × Int × (List (Int × Int))) :=
  Option.bind (play_Referee_none N raProps raAccept raGuard raNodes (rs.1, rs.2) rxWins rxRanks rxReply rxChoice rq rrounds rmade) fun r135 =>
  if r135 = true then
    some (1, rq, rrounds)
  else
    if ((((List.length rrounds) : Nat) : Int) : Int) = 0 then
      some (6, rq, rrounds)
    else
      ask (in64 ((((List.length rrounds) : Nat) : Int) - 1)) <|
      ask (idx ((((List.length rrounds) : Nat) : Int) - 1) (List.length rrounds)) <|
      ask (0 ≤ ((((List.length rrounds) : Nat) : Int) - 1) ∧ ((((List.length rrounds) : Nat) : Int) - 1) ≤ (((List.length rrounds) : Nat) : Int)) <|
      some (0, (List.getD rrounds (Int.toNat ((((List.length rrounds) : Nat) : Int) - 1)) (0, 0)).2, List.take (Int.toNat ((((List.length rrounds) : Nat) : Int) - 1)) rrounds)
set_option maxRecDepth 100000 in
set_option maxHeartbeats 4000000 in
theorem play_Referee_Back_calls {N : Nat} {S Fa : Nat → Prop} {w0 : World} {r : Int × Int × (List (Int × Int))} (g1 : Nat) (A3 : Option Addr) (c4 : Nat) (A7 : Option Addr) (c8 : Nat) (A11 : Option Addr) (c12 : Nat) (A15 : Option Addr) (c16 : Nat) (A19 : Option Addr) (c20 : Nat) (A23 : Option Addr) (c24 : Nat) (A27 : Option Addr) (c28 : Nat) (raProps : Int) (raAccept : List Bool) (raGuard : List Int) (raNodes : List Nd) (rs : Int × Int) (rxWins : Bool) (rxRanks : List Int) (rxReply : List (List Int)) (rxChoice : List Int) (rq : Int) (rrounds : List (Int × Int)) (rmade : Bool) (hk5 : List.length raAccept ≤ c4) (hk9 : List.length raGuard ≤ c8) (hk13 : List.length raNodes ≤ c12) (hk17 : List.length rxRanks ≤ c16) (hk21 : List.length rxReply ≤ c20) (hk25 : List.length rxChoice ≤ c24) (H : Hp S Fa w0 w0 [.box g1 74 [.int .i64 raProps, .slice A3 (List.length raAccept) c4, .slice A7 (List.length raGuard) c8, .slice A11 (List.length raNodes) c12, .int .u8 rs.1, .int .u8 rs.2, .bool rxWins, .slice A15 (List.length rxRanks) c16, .slice A19 (List.length rxReply) c20, .slice A23 (List.length rxChoice) c24, .int .i64 rq, .slice A27 (List.length rrounds) c28, .bool rmade], .row true cS98 99 A27 c28 rrounds, .ro false cBool A3 raAccept, .ro false (cInt .i64) A7 raGuard, .ro false cNode A11 raNodes, .ro false (cInt .i64) A15 rxRanks, .ro false (cSl (cInt .u8)) A19 rxReply, .ro false (cInt .u8) A23 rxChoice]) (hP : play_Referee_Back N raProps raAccept raGuard raNodes rs rxWins rxRanks rxReply rxChoice rq rrounds rmade = some r) :
    Calls Try.prog 31 #[.pointer (some ⟨g1, 0, none⟩)] w0 fun e w' => ∃ v, e = .returned v ∧ (∃ (x_ : Int × Int × (List (Int × Int))) (A33 : Option Addr) (c34 : Nat), r = x_ ∧ v = .int .i64 x_.1 ∧ Hp S Fa w0 w' [.box g1 74 [.int .i64 raProps, .slice A3 (List.length raAccept) c4, .slice A7 (List.length raGuard) c8, .slice A11 (List.length raNodes) c12, .int .u8 rs.1, .int .u8 rs.2, .bool rxWins, .slice A15 (List.length rxRanks) c16, .slice A19 (List.length rxReply) c20, .slice A23 (List.length rxChoice) c24, .int .i64 x_.2.1, .slice A33 (List.length x_.2.2) c34, .bool rmade], .row true cS98 99 A33 c34 x_.2.2]) := by
 refine enterV (n := 35) Try.func31 rfl rfl rfl ?_
 intro a E
 replace E := E.pick [(0, .pointer (some ⟨g1, 0, none⟩))] ⟨rfl, trivial⟩
 rw [play_Referee_Back] at hP
 refine wp_seq ?_
 refine wp_region_lit ?_
 refine vr tbok 1 [] [(0, .pointer (some ⟨g1, 0, none⟩))] [] E (by kernel_rfl) trivial ?_
 clear E; intro a E
 refine wpList_nil ?_
 refine th_n ?_
 refine wp_seq ?_
 refine wp_seq ?_
 refine wp_region_lit ?_
 refine vr tbok 1 [] [(0, .pointer (some ⟨g1, 0, none⟩)), (4, .pointer (some ⟨g1, 0, none⟩))] [] E (by kernel_rfl) trivial ?_
 clear E; intro a E
 obtain ⟨r135, h136, hP⟩ := bind_inv hP
 obtain ⟨Fa137, Hc138, hb139⟩ := H.call [0, 1] [(2, false), (3, false), (4, false), (5, false), (6, false), (7, false)] rfl rfl ⟨flat_plain, trivial⟩
 refine e_call E rfl rfl Try.func60 rfl rfl rfl (play_Referee_none_calls g1 A3 c4 A7 c8 A11 c12 A15 c16 A19 c20 A23 c24 A27 c28 raProps raAccept raGuard raNodes (rs.1, rs.2) rxWins rxRanks rxReply rxChoice rq rrounds rmade hk5 hk9 hk13 hk17 hk21 hk25 Hc138 h136) ?_
 intro v145 w144 a hR146 E_
 obtain ⟨x_, hr_, rfl, HR148⟩ := hR146
 subst hr_
 replace E := E_ _ rfl; clear E_
 obtain ⟨H_, hc147⟩ := hb139 _ _ HR148 rfl
 replace H := H_; clear H_; try dsimp only [setn, addE, goneL] at H
 refine wpList_nil ?_
 refine th_n ?_
 refine E.cases (t := 5) rfl (fun hb_ E_ => ?_) (fun hb_ E_ => ?_)
 ·
  replace E := E_; clear E_
  have h151 : r135 = true := hb_
  clear hb_; replace hP := ite_t h151 hP
  refine c_true E rfl ?_
  refine wp_seq ?_
  refine wp_region_lit ?_
  refine vr tbok 1 [] [(2, .int .i64 1)] [] E (by kernel_rfl) trivial ?_
  clear E; intro a E
  refine wpList_nil ?_
  refine th_n ?_
  refine wp_ret ?_
  refine th_ret ?_
  obtain rfl := Option.some.inj hP
  refine ret1 E rfl rfl ?_
  exact ⟨_, rfl, ⟨(1, rq, rrounds), A27, c28, rfl, rfl, H.sel [9, 8] rfl⟩⟩
 replace E := E_; clear E_
 have h152 : ¬ (r135 = true) := (ne_true_of_eq_false hb_)
 clear hb_; replace hP := ite_f h152 hP
 refine c_false E rfl ?_
 refine wp_skip ?_
 refine th_n ?_
 refine wp_seq ?_
 refine wp_region_lit ?_
 refine vr tbok 6 [.slice A27 (List.length rrounds) c28] [(0, .pointer (some ⟨g1, 0, none⟩)), (3, .int .i64 (((List.length rrounds) : Nat) : Int))] [World.cell? w144 ⟨g1, 11, none⟩ = some (.slice A27 (List.length rrounds) c28)] E (by kernel_rfl) ((H.box 9 rfl).cell (j := 11) rfl) ?_
 clear E; intro a E
 refine wpList_nil ?_
 refine th_n ?_
 refine wp_seq ?_
 refine wp_seq ?_
 refine wp_region_lit ?_
 refine vr tbok 2 [] [(0, .pointer (some ⟨g1, 0, none⟩)), (3, .int .i64 (((List.length rrounds) : Nat) : Int)), (12, .bool (((((List.length rrounds) : Nat) : Int) : Int) == 0))] [] E (by kernel_rfl) trivial ?_
 clear E; intro a E
 refine wpList_nil ?_
 refine th_n ?_
 refine E.cases (t := 12) rfl (fun hb_ E_ => ?_) (fun hb_ E_ => ?_)
 ·
  replace E := E_; clear E_
  have h153 : ((((List.length rrounds) : Nat) : Int) : Int) = 0 := eq_of_beq hb_
  clear hb_; replace hP := ite_t h153 hP
  refine c_true E rfl ?_
  refine wp_seq ?_
  refine wp_region_lit ?_
  refine vr tbok 1 [] [(2, .int .i64 6)] [] E (by kernel_rfl) trivial ?_
  clear E; intro a E
  refine wpList_nil ?_
  refine th_n ?_
  refine wp_ret ?_
  refine th_ret ?_
  obtain rfl := Option.some.inj hP
  refine ret1 E rfl rfl ?_
  exact ⟨_, rfl, ⟨(6, rq, rrounds), A27, c28, rfl, rfl, H.sel [9, 8] rfl⟩⟩
 replace E := E_; clear E_
 have h154 : ¬ (((((List.length rrounds) : Nat) : Int) : Int) = 0) := ne_of_beq_false hb_
 clear hb_; replace hP := ite_f h154 hP
 refine c_false E rfl ?_
 refine wp_skip ?_
 refine th_n ?_
 refine wp_seq ?_
 obtain ⟨g155, hP⟩ := ask_inv hP
 obtain ⟨g156, hP⟩ := ask_inv hP
 obtain ⟨b157, e_b157⟩ := H.raddr 8 rfl (idx_pos g156)
 subst e_b157
 obtain ⟨g159, hP⟩ := ask_inv hP
 refine meet_cut (fun a w164 => Fr a 35 [] ∧ Hp S Fa w0 w164 [.ro false cBool A3 raAccept, .ro false (cInt .i64) A7 raGuard, .ro false cNode A11 raNodes, .ro false (cInt .i64) A15 rxRanks, .ro false (cSl (cInt .u8)) A19 rxReply, .ro false (cInt .u8) A23 rxChoice, .row true cS98 99 (some ⟨b157, 0, none⟩) c28 (List.take (Int.toNat ((((List.length rrounds) : Nat) : Int) - 1)) rrounds), .box g1 74 [.int .i64 raProps, .slice A3 (List.length raAccept) c4, .slice A7 (List.length raGuard) c8, .slice A11 (List.length raNodes) c12, .int .u8 rs.1, .int .u8 rs.2, .bool rxWins, .slice A15 (List.length rxRanks) c16, .slice A19 (List.length rxReply) c20, .slice A23 (List.length rxChoice) c24, .int .i64 ((List.getD rrounds (Int.toNat ((((List.length rrounds) : Nat) : Int) - 1)) (0, 0)).2), .slice (some ⟨b157, 0, none⟩) (List.length (List.take (Int.toNat ((((List.length rrounds) : Nat) : Int) - 1)) rrounds)) c28, .bool rmade]]) ?_ ?_
 ·
  have HR168 := H
  refine dr_start (S := fun w_ => Chg (atL [.box g1 74 [.int .i64 raProps, .slice A3 (List.length raAccept) c4, .slice A7 (List.length raGuard) c8, .slice A11 (List.length raNodes) c12, .int .u8 rs.1, .int .u8 rs.2, .bool rxWins, .slice A15 (List.length rxRanks) c16, .slice A19 (List.length rxReply) c20, .slice A23 (List.length rxChoice) c24, .int .i64 rq, .slice (some ⟨b157, 0, none⟩) (List.length rrounds) c28, .bool rmade]]) w144 w_) (by kernel_rfl) ?_
  intro w165 hc166
  have HS167 : Chg (atL [.box g1 74 [.int .i64 raProps, .slice A3 (List.length raAccept) c4, .slice A7 (List.length raGuard) c8, .slice A11 (List.length raNodes) c12, .int .u8 rs.1, .int .u8 rs.2, .bool rxWins, .slice A15 (List.length rxRanks) c16, .slice A19 (List.length rxReply) c20, .slice A23 (List.length rxChoice) c24, .int .i64 rq, .slice (some ⟨b157, 0, none⟩) (List.length rrounds) c28, .bool rmade]]) w144 w165 := hc166.mono (fun _ _ h_ => h_.elim)
  replace H := H.ext hc166
  refine dr tbok (by kernel_rfl) [0, 1, 2, 3, 4, 6, 7, 11, 12, 13, 15, 16] [.int .i64 ((((List.length rrounds) : Nat) : Int) - 1), .int .i64 ((((List.length rrounds) : Nat) : Int) - 1)] [(13, .pointer (some ⟨g1, 0, none⟩)), (14, .pointer (some ⟨g1, 0, none⟩)), (17, .pointer (some ⟨g1, 11, none⟩)), (20, .int .i64 ((((List.length rrounds) : Nat) : Int) - 1)), (26, .pointer (some ⟨g1, 11, none⟩)), (29, .int .i64 ((((List.length rrounds) : Nat) : Int) - 1))] (fun w_ => [IntKind.i64.wrap ((((List.length rrounds) : Nat) : Int) - 1) = (((List.length rrounds) : Nat) : Int) - 1, IntKind.i64.wrap ((((List.length rrounds) : Nat) : Int) - 1) = (((List.length rrounds) : Nat) : Int) - 1]) 12 E (fun _ _ => by kernel_rfl) (fun w_ hS_ => ⟨wrap_in g155, wrap_in g155⟩) (by kernel_rfl) HS167 ?_
  clear E; intro a E
  refine wpAnyH_all (rs := [5, 14]) (by kernel_rfl) (by simp) ?_
  refine all2 ?_ ?_
  ·
   refine wpOp_of_list rfl ?_
   refine vr tbok 1 [.slice (some ⟨b157, 0, none⟩) (List.length rrounds) c28] [(13, .pointer (some ⟨g1, 0, none⟩)), (14, .pointer (some ⟨g1, 0, none⟩)), (17, .pointer (some ⟨g1, 11, none⟩)), (18, .slice (some ⟨b157, 0, none⟩) (List.length rrounds) c28), (20, .int .i64 ((((List.length rrounds) : Nat) : Int) - 1)), (26, .pointer (some ⟨g1, 11, none⟩)), (29, .int .i64 ((((List.length rrounds) : Nat) : Int) - 1))] [World.cell? w165 ⟨g1, 11, none⟩ = some (.slice (some ⟨b157, 0, none⟩) (List.length rrounds) c28)] E (by kernel_rfl) ((H.box 9 rfl).cell (j := 11) rfl) ?_
   clear E; intro a E
   refine wpList_nil ?_
   refine th_n ⟨HS167, ?_⟩
   refine dr tbok (by kernel_rfl) [8, 9, 10] [.int .i64 ((List.getD rrounds (Int.toNat ((((List.length rrounds) : Nat) : Int) - 1)) (0, 0)).2)] [(13, .pointer (some ⟨g1, 0, none⟩)), (14, .pointer (some ⟨g1, 0, none⟩)), (23, .int .i64 ((List.getD rrounds (Int.toNat ((((List.length rrounds) : Nat) : Int) - 1)) (0, 0)).2)), (26, .pointer (some ⟨g1, 11, none⟩)), (29, .int .i64 ((((List.length rrounds) : Nat) : Int) - 1))] (fun w_ => [0 ≤ ((((List.length rrounds) : Nat) : Int) - 1) ∧ ((((List.length rrounds) : Nat) : Int) - 1) < (((List.length rrounds) : Nat) : Int), World.cell? w_ ⟨b157, 0 + (Int.toNat ((((List.length rrounds) : Nat) : Int) - 1)) * 2 + 1, none⟩ = some (.int .i64 ((List.getD rrounds (Int.toNat ((((List.length rrounds) : Nat) : Int) - 1)) (0, 0)).2))]) 8 E (fun _ _ => by kernel_rfl) (fun w_ hS_ => ⟨g156, Rds.atF (HR168.rdk [9] hS_ 8 rds_row rfl) (0, 0) g156 1 rfl⟩) (by kernel_rfl) HS167 ?_
   clear E; intro a E
   refine wpAnyH_all (rs := [14]) (by kernel_rfl) (by simp) ?_
   refine all1 ?_
   refine wpOp_of_list rfl ?_
   refine vr tbok 1 [.slice (some ⟨b157, 0, none⟩) (List.length rrounds) c28] [(13, .pointer (some ⟨g1, 0, none⟩)), (14, .pointer (some ⟨g1, 0, none⟩)), (23, .int .i64 ((List.getD rrounds (Int.toNat ((((List.length rrounds) : Nat) : Int) - 1)) (0, 0)).2)), (26, .pointer (some ⟨g1, 11, none⟩)), (27, .slice (some ⟨b157, 0, none⟩) (List.length rrounds) c28), (29, .int .i64 ((((List.length rrounds) : Nat) : Int) - 1))] [World.cell? w165 ⟨g1, 11, none⟩ = some (.slice (some ⟨b157, 0, none⟩) (List.length rrounds) c28)] E (by kernel_rfl) ((H.box 9 rfl).cell (j := 11) rfl) ?_
   clear E; intro a E
   refine wpList_nil ?_
   refine th_n ⟨HS167, ?_⟩
   refine dr tbok (by kernel_rfl) [18, 19] [] [(14, .pointer (some ⟨g1, 0, none⟩)), (23, .int .i64 ((List.getD rrounds (Int.toNat ((((List.length rrounds) : Nat) : Int) - 1)) (0, 0)).2)), (27, .slice (some ⟨b157, 0, none⟩) (List.length rrounds) c28), (29, .int .i64 ((((List.length rrounds) : Nat) : Int) - 1)), (32, .pointer (some ⟨g1, 10, none⟩))] (fun w_ => []) 5 E (fun _ _ => by kernel_rfl) (fun w_ hS_ => trivial) (by kernel_rfl) HS167 ?_
   clear E; intro a E
   refine wpAnyH_all (rs := [17, 20]) (by kernel_rfl) (by simp) ?_
   refine all2 ?_ ?_
   ·
    refine wpOp_of_list rfl ?_
    refine vr tbok 1 [] [(14, .pointer (some ⟨g1, 0, none⟩)), (23, .int .i64 ((List.getD rrounds (Int.toNat ((((List.length rrounds) : Nat) : Int) - 1)) (0, 0)).2)), (27, .slice (some ⟨b157, 0, none⟩) (List.length rrounds) c28), (29, .int .i64 ((((List.length rrounds) : Nat) : Int) - 1)), (30, .slice (some ⟨b157, 0, none⟩) (Int.toNat ((((List.length rrounds) : Nat) : Int) - 1)) c28), (32, .pointer (some ⟨g1, 10, none⟩))] [0 ≤ ((((List.length rrounds) : Nat) : Int) - 1) ∧ ((((List.length rrounds) : Nat) : Int) - 1) ≤ ((c28 : Nat) : Int)] E (by kernel_rfl) (cut_le g159 (H.rcap 8 rfl)) ?_
    clear E; intro a E
    replace H := H.cutRow 8 rfl (Int.toNat ((((List.length rrounds) : Nat) : Int) - 1)); try dsimp only [setn, addE, goneL] at H
    replace E := E.same (t := 30) (u := .slice (some ⟨b157, 0, none⟩) (List.length (List.take (Int.toNat ((((List.length rrounds) : Nat) : Int) - 1)) rrounds)) c28) rfl (congrArg (fun n_ => Value.slice (some ⟨b157, 0, none⟩) n_ c28) (take_len g159))
    refine wpList_nil ?_
    refine th_n ⟨HS167, ?_⟩
    refine wpAnyH_all (rs := [20]) (by kernel_rfl) (by simp) ?_
    refine all1 ?_
    refine wpOp_of_list rfl ?_
    refine h_store (g := g1) (off := 10) H 9 rfl E rfl rfl rfl rfl tbok rfl rfl rfl rfl rfl ?_
    clear E; intro w169 a hc170 H_ E
    replace HS167 := HS167.trans hc170 (fun k_ hk_ h_ => (fun _ _ h_ => Or.inl h_) k_ hk_ h_)
    replace H := H_; clear H_; try dsimp only [setn, addE, goneL] at H
    refine wpList_nil ?_
    refine th_n ⟨HS167, ?_⟩
    refine dr tbok (by kernel_rfl) [21, 22] [] [(30, .slice (some ⟨b157, 0, none⟩) (List.length (List.take (Int.toNat ((((List.length rrounds) : Nat) : Int) - 1)) rrounds)) c28), (34, .pointer (some ⟨g1, 11, none⟩))] (fun w_ => []) 1 E (fun _ _ => by kernel_rfl) (fun w_ hS_ => trivial) (by kernel_rfl) HS167 ?_
    clear E; intro a E
    refine wpAnyH_all (rs := [23]) (by kernel_rfl) (by simp) ?_
    refine all1 ?_
    refine wpOp_of_list rfl ?_
    refine h_store (g := g1) (off := 11) H 9 rfl E rfl rfl rfl rfl tbok rfl rfl rfl rfl rfl ?_
    clear E; intro w171 a hc172 H_ E
    replace HS167 := HS167.trans hc172 (fun k_ hk_ h_ => (fun _ _ h_ => Or.inl h_) k_ hk_ h_)
    replace H := H_; clear H_; try dsimp only [setn, addE, goneL] at H
    refine wpList_nil ?_
    refine th_n ⟨HS167, ?_⟩
    refine dr_done (by kernel_rfl) ?_
    exact .inl ⟨rfl, E.pick _ trivial, H.sel [2, 3, 4, 5, 6, 7, 8, 9] rfl⟩
   refine wpOp_of_list rfl ?_
   refine h_store (g := g1) (off := 10) H 9 rfl E rfl rfl rfl rfl tbok rfl rfl rfl rfl rfl ?_
   clear E; intro w173 a hc174 H_ E
   replace HS167 := HS167.trans hc174 (fun k_ hk_ h_ => (fun _ _ h_ => Or.inl h_) k_ hk_ h_)
   replace H := H_; clear H_; try dsimp only [setn, addE, goneL] at H
   refine wpList_nil ?_
   refine th_n ⟨HS167, ?_⟩
   refine wpAnyH_all (rs := [17]) (by kernel_rfl) (by simp) ?_
   refine all1 ?_
   refine wpOp_of_list rfl ?_
   refine vr tbok 1 [] [(14, .pointer (some ⟨g1, 0, none⟩)), (23, .int .i64 ((List.getD rrounds (Int.toNat ((((List.length rrounds) : Nat) : Int) - 1)) (0, 0)).2)), (27, .slice (some ⟨b157, 0, none⟩) (List.length rrounds) c28), (29, .int .i64 ((((List.length rrounds) : Nat) : Int) - 1)), (30, .slice (some ⟨b157, 0, none⟩) (Int.toNat ((((List.length rrounds) : Nat) : Int) - 1)) c28), (32, .pointer (some ⟨g1, 10, none⟩))] [0 ≤ ((((List.length rrounds) : Nat) : Int) - 1) ∧ ((((List.length rrounds) : Nat) : Int) - 1) ≤ ((c28 : Nat) : Int)] E (by kernel_rfl) (cut_le g159 (H.rcap 8 rfl)) ?_
   clear E; intro a E
   replace H := H.cutRow 8 rfl (Int.toNat ((((List.length rrounds) : Nat) : Int) - 1)); try dsimp only [setn, addE, goneL] at H
   replace E := E.same (t := 30) (u := .slice (some ⟨b157, 0, none⟩) (List.length (List.take (Int.toNat ((((List.length rrounds) : Nat) : Int) - 1)) rrounds)) c28) rfl (congrArg (fun n_ => Value.slice (some ⟨b157, 0, none⟩) n_ c28) (take_len g159))
   refine wpList_nil ?_
   refine th_n ⟨HS167, ?_⟩
   refine dr tbok (by kernel_rfl) [21, 22] [] [(30, .slice (some ⟨b157, 0, none⟩) (List.length (List.take (Int.toNat ((((List.length rrounds) : Nat) : Int) - 1)) rrounds)) c28), (34, .pointer (some ⟨g1, 11, none⟩))] (fun w_ => []) 1 E (fun _ _ => by kernel_rfl) (fun w_ hS_ => trivial) (by kernel_rfl) HS167 ?_
   clear E; intro a E
   refine wpAnyH_all (rs := [23]) (by kernel_rfl) (by simp) ?_
   refine all1 ?_
   refine wpOp_of_list rfl ?_
   refine h_store (g := g1) (off := 11) H 9 rfl E rfl rfl rfl rfl tbok rfl rfl rfl rfl rfl ?_
   clear E; intro w175 a hc176 H_ E
   replace HS167 := HS167.trans hc176 (fun k_ hk_ h_ => (fun _ _ h_ => Or.inl h_) k_ hk_ h_)
   replace H := H_; clear H_; try dsimp only [setn, addE, goneL] at H
   refine wpList_nil ?_
   refine th_n ⟨HS167, ?_⟩
   refine dr_done (by kernel_rfl) ?_
   exact .inl ⟨rfl, E.pick _ trivial, H.sel [2, 3, 4, 5, 6, 7, 8, 9] rfl⟩
  refine wpOp_of_list rfl ?_
  refine vr tbok 1 [.slice (some ⟨b157, 0, none⟩) (List.length rrounds) c28] [(13, .pointer (some ⟨g1, 0, none⟩)), (14, .pointer (some ⟨g1, 0, none⟩)), (17, .pointer (some ⟨g1, 11, none⟩)), (20, .int .i64 ((((List.length rrounds) : Nat) : Int) - 1)), (26, .pointer (some ⟨g1, 11, none⟩)), (27, .slice (some ⟨b157, 0, none⟩) (List.length rrounds) c28), (29, .int .i64 ((((List.length rrounds) : Nat) : Int) - 1))] [World.cell? w165 ⟨g1, 11, none⟩ = some (.slice (some ⟨b157, 0, none⟩) (List.length rrounds) c28)] E (by kernel_rfl) ((H.box 9 rfl).cell (j := 11) rfl) ?_
  clear E; intro a E
  refine wpList_nil ?_
  refine th_n ⟨HS167, ?_⟩
  refine wpAnyH_all (rs := [5, 17]) (by kernel_rfl) (by simp) ?_
  refine all2 ?_ ?_
  ·
   refine wpOp_of_list rfl ?_
   refine vr tbok 1 [.slice (some ⟨b157, 0, none⟩) (List.length rrounds) c28] [(13, .pointer (some ⟨g1, 0, none⟩)), (14, .pointer (some ⟨g1, 0, none⟩)), (17, .pointer (some ⟨g1, 11, none⟩)), (18, .slice (some ⟨b157, 0, none⟩) (List.length rrounds) c28), (20, .int .i64 ((((List.length rrounds) : Nat) : Int) - 1)), (27, .slice (some ⟨b157, 0, none⟩) (List.length rrounds) c28), (29, .int .i64 ((((List.length rrounds) : Nat) : Int) - 1))] [World.cell? w165 ⟨g1, 11, none⟩ = some (.slice (some ⟨b157, 0, none⟩) (List.length rrounds) c28)] E (by kernel_rfl) ((H.box 9 rfl).cell (j := 11) rfl) ?_
   clear E; intro a E
   refine wpList_nil ?_
   refine th_n ⟨HS167, ?_⟩
   refine dr tbok (by kernel_rfl) [8, 9, 10, 18, 19] [.int .i64 ((List.getD rrounds (Int.toNat ((((List.length rrounds) : Nat) : Int) - 1)) (0, 0)).2)] [(14, .pointer (some ⟨g1, 0, none⟩)), (23, .int .i64 ((List.getD rrounds (Int.toNat ((((List.length rrounds) : Nat) : Int) - 1)) (0, 0)).2)), (27, .slice (some ⟨b157, 0, none⟩) (List.length rrounds) c28), (29, .int .i64 ((((List.length rrounds) : Nat) : Int) - 1)), (32, .pointer (some ⟨g1, 10, none⟩))] (fun w_ => [0 ≤ ((((List.length rrounds) : Nat) : Int) - 1) ∧ ((((List.length rrounds) : Nat) : Int) - 1) < (((List.length rrounds) : Nat) : Int), World.cell? w_ ⟨b157, 0 + (Int.toNat ((((List.length rrounds) : Nat) : Int) - 1)) * 2 + 1, none⟩ = some (.int .i64 ((List.getD rrounds (Int.toNat ((((List.length rrounds) : Nat) : Int) - 1)) (0, 0)).2))]) 5 E (fun _ _ => by kernel_rfl) (fun w_ hS_ => ⟨g156, Rds.atF (HR168.rdk [9] hS_ 8 rds_row rfl) (0, 0) g156 1 rfl⟩) (by kernel_rfl) HS167 ?_
   clear E; intro a E
   refine wpAnyH_all (rs := [17, 20]) (by kernel_rfl) (by simp) ?_
   refine all2 ?_ ?_
   ·
    refine wpOp_of_list rfl ?_
    refine vr tbok 1 [] [(14, .pointer (some ⟨g1, 0, none⟩)), (23, .int .i64 ((List.getD rrounds (Int.toNat ((((List.length rrounds) : Nat) : Int) - 1)) (0, 0)).2)), (27, .slice (some ⟨b157, 0, none⟩) (List.length rrounds) c28), (29, .int .i64 ((((List.length rrounds) : Nat) : Int) - 1)), (30, .slice (some ⟨b157, 0, none⟩) (Int.toNat ((((List.length rrounds) : Nat) : Int) - 1)) c28), (32, .pointer (some ⟨g1, 10, none⟩))] [0 ≤ ((((List.length rrounds) : Nat) : Int) - 1) ∧ ((((List.length rrounds) : Nat) : Int) - 1) ≤ ((c28 : Nat) : Int)] E (by kernel_rfl) (cut_le g159 (H.rcap 8 rfl)) ?_
    clear E; intro a E
    replace H := H.cutRow 8 rfl (Int.toNat ((((List.length rrounds) : Nat) : Int) - 1)); try dsimp only [setn, addE, goneL] at H
    replace E := E.same (t := 30) (u := .slice (some ⟨b157, 0, none⟩) (List.length (List.take (Int.toNat ((((List.length rrounds) : Nat) : Int) - 1)) rrounds)) c28) rfl (congrArg (fun n_ => Value.slice (some ⟨b157, 0, none⟩) n_ c28) (take_len g159))
    refine wpList_nil ?_
    refine th_n ⟨HS167, ?_⟩
    refine wpAnyH_all (rs := [20]) (by kernel_rfl) (by simp) ?_
    refine all1 ?_
    refine wpOp_of_list rfl ?_
    refine h_store (g := g1) (off := 10) H 9 rfl E rfl rfl rfl rfl tbok rfl rfl rfl rfl rfl ?_
    clear E; intro w177 a hc178 H_ E
    replace HS167 := HS167.trans hc178 (fun k_ hk_ h_ => (fun _ _ h_ => Or.inl h_) k_ hk_ h_)
    replace H := H_; clear H_; try dsimp only [setn, addE, goneL] at H
    refine wpList_nil ?_
    refine th_n ⟨HS167, ?_⟩
    refine dr tbok (by kernel_rfl) [21, 22] [] [(30, .slice (some ⟨b157, 0, none⟩) (List.length (List.take (Int.toNat ((((List.length rrounds) : Nat) : Int) - 1)) rrounds)) c28), (34, .pointer (some ⟨g1, 11, none⟩))] (fun w_ => []) 1 E (fun _ _ => by kernel_rfl) (fun w_ hS_ => trivial) (by kernel_rfl) HS167 ?_
    clear E; intro a E
    refine wpAnyH_all (rs := [23]) (by kernel_rfl) (by simp) ?_
    refine all1 ?_
    refine wpOp_of_list rfl ?_
    refine h_store (g := g1) (off := 11) H 9 rfl E rfl rfl rfl rfl tbok rfl rfl rfl rfl rfl ?_
    clear E; intro w179 a hc180 H_ E
    replace HS167 := HS167.trans hc180 (fun k_ hk_ h_ => (fun _ _ h_ => Or.inl h_) k_ hk_ h_)
    replace H := H_; clear H_; try dsimp only [setn, addE, goneL] at H
    refine wpList_nil ?_
    refine th_n ⟨HS167, ?_⟩
    refine dr_done (by kernel_rfl) ?_
    exact .inl ⟨rfl, E.pick _ trivial, H.sel [2, 3, 4, 5, 6, 7, 8, 9] rfl⟩
   refine wpOp_of_list rfl ?_
   refine h_store (g := g1) (off := 10) H 9 rfl E rfl rfl rfl rfl tbok rfl rfl rfl rfl rfl ?_
   clear E; intro w181 a hc182 H_ E
   replace HS167 := HS167.trans hc182 (fun k_ hk_ h_ => (fun _ _ h_ => Or.inl h_) k_ hk_ h_)
   replace H := H_; clear H_; try dsimp only [setn, addE, goneL] at H
   refine wpList_nil ?_
   refine th_n ⟨HS167, ?_⟩
   refine wpAnyH_all (rs := [17]) (by kernel_rfl) (by simp) ?_
   refine all1 ?_
   refine wpOp_of_list rfl ?_
   refine vr tbok 1 [] [(14, .pointer (some ⟨g1, 0, none⟩)), (23, .int .i64 ((List.getD rrounds (Int.toNat ((((List.length rrounds) : Nat) : Int) - 1)) (0, 0)).2)), (27, .slice (some ⟨b157, 0, none⟩) (List.length rrounds) c28), (29, .int .i64 ((((List.length rrounds) : Nat) : Int) - 1)), (30, .slice (some ⟨b157, 0, none⟩) (Int.toNat ((((List.length rrounds) : Nat) : Int) - 1)) c28), (32, .pointer (some ⟨g1, 10, none⟩))] [0 ≤ ((((List.length rrounds) : Nat) : Int) - 1) ∧ ((((List.length rrounds) : Nat) : Int) - 1) ≤ ((c28 : Nat) : Int)] E (by kernel_rfl) (cut_le g159 (H.rcap 8 rfl)) ?_
   clear E; intro a E
   replace H := H.cutRow 8 rfl (Int.toNat ((((List.length rrounds) : Nat) : Int) - 1)); try dsimp only [setn, addE, goneL] at H
   replace E := E.same (t := 30) (u := .slice (some ⟨b157, 0, none⟩) (List.length (List.take (Int.toNat ((((List.length rrounds) : Nat) : Int) - 1)) rrounds)) c28) rfl (congrArg (fun n_ => Value.slice (some ⟨b157, 0, none⟩) n_ c28) (take_len g159))
   refine wpList_nil ?_
   refine th_n ⟨HS167, ?_⟩
   refine dr tbok (by kernel_rfl) [21, 22] [] [(30, .slice (some ⟨b157, 0, none⟩) (List.length (List.take (Int.toNat ((((List.length rrounds) : Nat) : Int) - 1)) rrounds)) c28), (34, .pointer (some ⟨g1, 11, none⟩))] (fun w_ => []) 1 E (fun _ _ => by kernel_rfl) (fun w_ hS_ => trivial) (by kernel_rfl) HS167 ?_
   clear E; intro a E
   refine wpAnyH_all (rs := [23]) (by kernel_rfl) (by simp) ?_
   refine all1 ?_
   refine wpOp_of_list rfl ?_
   refine h_store (g := g1) (off := 11) H 9 rfl E rfl rfl rfl rfl tbok rfl rfl rfl rfl rfl ?_
   clear E; intro w183 a hc184 H_ E
   replace HS167 := HS167.trans hc184 (fun k_ hk_ h_ => (fun _ _ h_ => Or.inl h_) k_ hk_ h_)
   replace H := H_; clear H_; try dsimp only [setn, addE, goneL] at H
   refine wpList_nil ?_
   refine th_n ⟨HS167, ?_⟩
   refine dr_done (by kernel_rfl) ?_
   exact .inl ⟨rfl, E.pick _ trivial, H.sel [2, 3, 4, 5, 6, 7, 8, 9] rfl⟩
  refine wpOp_of_list rfl ?_
  refine vr tbok 1 [] [(13, .pointer (some ⟨g1, 0, none⟩)), (14, .pointer (some ⟨g1, 0, none⟩)), (17, .pointer (some ⟨g1, 11, none⟩)), (20, .int .i64 ((((List.length rrounds) : Nat) : Int) - 1)), (26, .pointer (some ⟨g1, 11, none⟩)), (27, .slice (some ⟨b157, 0, none⟩) (List.length rrounds) c28), (29, .int .i64 ((((List.length rrounds) : Nat) : Int) - 1)), (30, .slice (some ⟨b157, 0, none⟩) (Int.toNat ((((List.length rrounds) : Nat) : Int) - 1)) c28)] [0 ≤ ((((List.length rrounds) : Nat) : Int) - 1) ∧ ((((List.length rrounds) : Nat) : Int) - 1) ≤ ((c28 : Nat) : Int)] E (by kernel_rfl) (cut_le g159 (H.rcap 8 rfl)) ?_
  clear E; intro a E
  replace H := H.cutRow 8 rfl (Int.toNat ((((List.length rrounds) : Nat) : Int) - 1)); try dsimp only [setn, addE, goneL] at H
  replace E := E.same (t := 30) (u := .slice (some ⟨b157, 0, none⟩) (List.length (List.take (Int.toNat ((((List.length rrounds) : Nat) : Int) - 1)) rrounds)) c28) rfl (congrArg (fun n_ => Value.slice (some ⟨b157, 0, none⟩) n_ c28) (take_len g159))
  refine wpList_nil ?_
  refine th_n ⟨HS167, ?_⟩
  refine wpAnyH_all (rs := [5]) (by kernel_rfl) (by simp) ?_
  refine all1 ?_
  refine wpOp_of_list rfl ?_
  refine vr tbok 1 [.slice (some ⟨b157, 0, none⟩) (List.length rrounds) c28] [(13, .pointer (some ⟨g1, 0, none⟩)), (14, .pointer (some ⟨g1, 0, none⟩)), (17, .pointer (some ⟨g1, 11, none⟩)), (18, .slice (some ⟨b157, 0, none⟩) (List.length rrounds) c28), (20, .int .i64 ((((List.length rrounds) : Nat) : Int) - 1)), (30, .slice (some ⟨b157, 0, none⟩) (List.length (List.take (Int.toNat ((((List.length rrounds) : Nat) : Int) - 1)) rrounds)) c28)] [World.cell? w165 ⟨g1, 11, none⟩ = some (.slice (some ⟨b157, 0, none⟩) (List.length rrounds) c28)] E (by kernel_rfl) ((H.box 9 rfl).cell (j := 11) rfl) ?_
  clear E; intro a E
  refine wpList_nil ?_
  refine th_n ⟨HS167, ?_⟩
  refine dr tbok (by kernel_rfl) [8, 9, 10, 18, 19] [.int .i64 ((List.getD rrounds (Int.toNat ((((List.length rrounds) : Nat) : Int) - 1)) (0, 0)).2)] [(14, .pointer (some ⟨g1, 0, none⟩)), (23, .int .i64 ((List.getD rrounds (Int.toNat ((((List.length rrounds) : Nat) : Int) - 1)) (0, 0)).2)), (30, .slice (some ⟨b157, 0, none⟩) (List.length (List.take (Int.toNat ((((List.length rrounds) : Nat) : Int) - 1)) rrounds)) c28), (32, .pointer (some ⟨g1, 10, none⟩))] (fun w_ => [0 ≤ ((((List.length rrounds) : Nat) : Int) - 1) ∧ ((((List.length rrounds) : Nat) : Int) - 1) < (((List.length rrounds) : Nat) : Int), World.cell? w_ ⟨b157, 0 + (Int.toNat ((((List.length rrounds) : Nat) : Int) - 1)) * 2 + 1, none⟩ = some (.int .i64 ((List.getD rrounds (Int.toNat ((((List.length rrounds) : Nat) : Int) - 1)) (0, 0)).2))]) 4 E (fun _ _ => by kernel_rfl) (fun w_ hS_ => ⟨g156, Rds.atF (HR168.rdk [9] hS_ 8 rds_row rfl) (0, 0) g156 1 rfl⟩) (by kernel_rfl) HS167 ?_
  clear E; intro a E
  refine wpAnyH_all (rs := [20]) (by kernel_rfl) (by simp) ?_
  refine all1 ?_
  refine wpOp_of_list rfl ?_
  refine h_store (g := g1) (off := 10) H 9 rfl E rfl rfl rfl rfl tbok rfl rfl rfl rfl rfl ?_
  clear E; intro w185 a hc186 H_ E
  replace HS167 := HS167.trans hc186 (fun k_ hk_ h_ => (fun _ _ h_ => Or.inl h_) k_ hk_ h_)
  replace H := H_; clear H_; try dsimp only [setn, addE, goneL] at H
  refine wpList_nil ?_
  refine th_n ⟨HS167, ?_⟩
  refine dr tbok (by kernel_rfl) [21, 22] [] [(30, .slice (some ⟨b157, 0, none⟩) (List.length (List.take (Int.toNat ((((List.length rrounds) : Nat) : Int) - 1)) rrounds)) c28), (34, .pointer (some ⟨g1, 11, none⟩))] (fun w_ => []) 1 E (fun _ _ => by kernel_rfl) (fun w_ hS_ => trivial) (by kernel_rfl) HS167 ?_
  clear E; intro a E
  refine wpAnyH_all (rs := [23]) (by kernel_rfl) (by simp) ?_
  refine all1 ?_
  refine wpOp_of_list rfl ?_
  refine h_store (g := g1) (off := 11) H 9 rfl E rfl rfl rfl rfl tbok rfl rfl rfl rfl rfl ?_
  clear E; intro w187 a hc188 H_ E
  replace HS167 := HS167.trans hc188 (fun k_ hk_ h_ => (fun _ _ h_ => Or.inl h_) k_ hk_ h_)
  replace H := H_; clear H_; try dsimp only [setn, addE, goneL] at H
  refine wpList_nil ?_
  refine th_n ⟨HS167, ?_⟩
  refine dr_done (by kernel_rfl) ?_
  exact .inl ⟨rfl, E.pick _ trivial, H.sel [2, 3, 4, 5, 6, 7, 8, 9] rfl⟩
 clear E H; rintro a w164 ⟨E, H⟩
 refine th_n ?_
 refine wp_seq ?_
 refine wp_region_lit ?_
 refine vr tbok 1 [] [(2, .int .i64 0)] [] E (by kernel_rfl) trivial ?_
 clear E; intro a E
 refine wpList_nil ?_
 refine th_n ?_
 refine wp_ret ?_
 obtain rfl := Option.some.inj hP
 refine ret1 E rfl rfl ?_
 exact ⟨_, rfl, ⟨(0, (List.getD rrounds (Int.toNat ((((List.length rrounds) : Nat) : Int) - 1)) (0, 0)).2, List.take (Int.toNat ((((List.length rrounds) : Nat) : Int) - 1)) rrounds), (some ⟨b157, 0, none⟩), c28, rfl, rfl, H.sel [7, 6] rfl⟩⟩

end Go.V
