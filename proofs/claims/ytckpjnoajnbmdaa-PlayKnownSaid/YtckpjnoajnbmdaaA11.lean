/- Plain functions, and the calls that give them. -/
import Derived.Test.YtckpjnoajnbmdaaA10
set_option linter.all false
set_option linter.unusedVariables false
set_option linter.unnecessarySimpa false
set_option linter.unusedSimpArgs false
namespace Go.V
open Go Go.Proofs
/-! (*rejoinder/play.Referee).Back -/
def play_Referee_Back (N : Nat) (raProps : Int) (raAccept : List Bool) (raGuard : List Int) (raNodes : List Nd) (rs : Int × Int) (rxWins : Bool) (rxRanks : List Int) (rxReply : List (List Int)) (rxChoice : List Int) (rq : Int) (rrounds : List (Int × Int)) (rmade : Bool) : Option (Int × Int × (List (Int × Int))) :=
  Option.bind (play_Referee_none N raProps raAccept raGuard raNodes (rs.1, rs.2) rxWins rxRanks rxReply rxChoice rq rrounds rmade) fun r135 =>
  if r135 = true then
    some (1, rq, rrounds)
  else
    if ((((List.length rrounds) : Nat) : Int) : Int) = 0 then
      some (6, rq, rrounds)
    else
      ask (in64 ((((List.length rrounds) : Nat) : Int) - 1)) <|
      ask (idx ((((List.length rrounds) : Nat) : Int) - 1) (List.length rrounds)) <|
      ask (0 ≤ ((((List.length rrounds) : Nat) : Int) - 1) ∧ ((((List.length rrounds) : Nat) : Int) - 1) ≤ (((List.length rrounds) : Nat) : Int)) <|
      some (0, (List.getD rrounds (Int.toNat ((((List.length rrounds) : Nat) : Int) - 1)) (0, 0)).2, List.take (Int.toNat ((((List.length rrounds) : Nat) : Int) - 1)) rrounds)
set_option maxRecDepth 100000 in
set_option maxHeartbeats 4000000 in
theorem play_Referee_Back_calls {N : Nat} {S Fa : Nat → Prop} {w0 : World} {r : Int × Int × (List (Int × Int))} (g1 : Nat) (A3 : Option Addr) (c4 : Nat) (A7 : Option Addr) (c8 : Nat) (A11 : Option Addr) (c12 : Nat) (A15 : Option Addr) (c16 : Nat) (A19 : Option Addr) (c20 : Nat) (A23 : Option Addr) (c24 : Nat) (A27 : Option Addr) (c28 : Nat) (raProps : Int) (raAccept : List Bool) (raGuard : List Int) (raNodes : List Nd) (rs : Int × Int) (rxWins : Bool) (rxRanks : List Int) (rxReply : List (List Int)) (rxChoice : List Int) (rq : Int) (rrounds : List (Int × Int)) (rmade : Bool) (hk5 : List.length raAccept ≤ c4) (hk9 : List.length raGuard ≤ c8) (hk13 : List.length raNodes ≤ c12) (hk17 : List.length rxRanks ≤ c16) (hk21 : List.length rxReply ≤ c20) (hk25 : List.length rxChoice ≤ c24) (H : Hp S Fa w0 w0 [.box g1 74 [.int .i64 raProps, .slice A3 (List.length raAccept) c4, .slice A7 (List.length raGuard) c8, .slice A11 (List.length raNodes) c12, .int .u8 rs.1, .int .u8 rs.2, .bool rxWins, .slice A15 (List.length rxRanks) c16, .slice A19 (List.length rxReply) c20, .slice A23 (List.length rxChoice) c24, .int .i64 rq, .slice A27 (List.length rrounds) c28, .bool rmade], .row true cS98 99 A27 c28 rrounds, .ro false cBool A3 raAccept, .ro false (cInt .i64) A7 raGuard, .ro false cNode A11 raNodes, .ro false (cInt .i64) A15 rxRanks, .ro false (cSl (cInt .u8)) A19 rxReply, .ro false (cInt .u8) A23 rxChoice]) (hP : play_Referee_Back N raProps raAccept raGuard raNodes rs rxWins rxRanks rxReply rxChoice rq rrounds rmade = some r) :
    Calls Try.prog 31 #[.pointer (some ⟨g1, 0, none⟩)] w0 fun e w' => ∃ v, e = .returned v ∧ (∃ (x_ : Int × Int × (List (Int × Int))) (A33 : Option Addr) (c34 : Nat), r = x_ ∧ v = .int .i64 x_.1 ∧ Hp S Fa w0 w' [.box g1 74 [.int .i64 raProps, .slice A3 (List.length raAccept) c4, .slice A7 (List.length raGuard) c8, .slice A11 (List.length raNodes) c12, .int .u8 rs.1, .int .u8 rs.2, .bool rxWins, .slice A15 (List.length rxRanks) c16, .slice A19 (List.length rxReply) c20, .slice A23 (List.length rxChoice) c24, .int .i64 x_.2.1, .slice A33 (List.length x_.2.2) c34, .bool rmade], .row true cS98 99 A33 c34 x_.2.2]) := by
 refine enterV (n := 35) Try.func31 rfl rfl rfl ?_
 intro a E
 replace E := E.pick [(0, .pointer (some ⟨g1, 0, none⟩))] ⟨rfl, trivial⟩
 rw [play_Referee_Back] at hP
 refine wp_seq ?_
 refine wp_region_lit ?_
 refine vr tbok 1 [] [(0, .pointer (some ⟨g1, 0, none⟩))] [] E (by kernel_rfl) trivial ?_
 clear E; intro a E
 refine wpList_nil ?_
 refine th_n ?_
 refine wp_seq ?_
 refine wp_seq ?_
 refine wp_region_lit ?_
 refine vr tbok 1 [] [(0, .pointer (some ⟨g1, 0, none⟩)), (4, .pointer (some ⟨g1, 0, none⟩))] [] E (by kernel_rfl) trivial ?_
 clear E; intro a E
 obtain ⟨r135, h136, hP⟩ := bind_inv hP
 obtain ⟨Fa137, Hc138, hb139⟩ := H.call [0, 1] [(2, false), (3, false), (4, false), (5, false), (6, false), (7, false)] rfl rfl ⟨flat_plain, trivial⟩
 refine e_call E rfl rfl Try.func60 rfl rfl rfl (play_Referee_none_calls g1 A3 c4 A7 c8 A11 c12 A15 c16 A19 c20 A23 c24 A27 c28 raProps raAccept raGuard raNodes (rs.1, rs.2) rxWins rxRanks rxReply rxChoice rq rrounds rmade hk5 hk9 hk13 hk17 hk21 hk25 Hc138 h136) ?_
 intro v145 w144 a hR146 E_
 obtain ⟨x_, hr_, rfl, HR148⟩ := hR146
 subst hr_
 replace E := E_ _ rfl; clear E_
 obtain ⟨H_, hc147⟩ := hb139 _ _ HR148 rfl
 replace H := H_; clear H_; try dsimp only [setn, addE, goneL] at H
 refine wpList_nil ?_
 refine th_n ?_
 refine E.cases (t := 5) rfl (fun hb_ E_ => ?_) (fun hb_ E_ => ?_)
 ·
  replace E := E_; clear E_
  have h151 : r135 = true := hb_
  clear hb_; replace hP := ite_t h151 hP
  refine c_true E rfl ?_
  refine wp_seq ?_
  refine wp_region_lit ?_
  refine vr tbok 1 [] [(2, .int .i64 1)] [] E (by kernel_rfl) trivial ?_
  clear E; intro a E
  refine wpList_nil ?_
  refine th_n ?_
  refine wp_ret ?_
  refine th_ret ?_
  obtain rfl := Option.some.inj hP
  refine ret1 E rfl rfl ?_
  exact ⟨_, rfl, ⟨(1, rq, rrounds), A27, c28, rfl, rfl, H.sel [9, 8] rfl⟩⟩
 ·
  replace E := E_; clear E_
  have h152 : ¬ (r135 = true) := (ne_true_of_eq_false hb_)
  clear hb_; replace hP := ite_f h152 hP
  refine c_false E rfl ?_
  refine wp_skip ?_
  refine th_n ?_
  refine wp_seq ?_
  refine wp_region_lit ?_
  refine vr tbok 6 [.slice A27 (List.length rrounds) c28] [(0, .pointer (some ⟨g1, 0, none⟩)), (3, .int .i64 (((List.length rrounds) : Nat) : Int))] [World.cell? w144 ⟨g1, 11, none⟩ = some (.slice A27 (List.length rrounds) c28)] E (by kernel_rfl) ((H.box 9 rfl).cell (j := 11) rfl) ?_
  clear E; intro a E
  refine wpList_nil ?_
  refine th_n ?_
  refine wp_seq ?_
  refine wp_seq ?_
  refine wp_region_lit ?_
  refine vr tbok 2 [] [(0, .pointer (some ⟨g1, 0, none⟩)), (3, .int .i64 (((List.length rrounds) : Nat) : Int)), (12, .bool (((((List.length rrounds) : Nat) : Int) : Int) == 0))] [] E (by kernel_rfl) trivial ?_
  clear E; intro a E
  refine wpList_nil ?_
  refine th_n ?_
  refine E.cases (t := 12) rfl (fun hb_ E_ => ?_) (fun hb_ E_ => ?_)
  ·
   replace E := E_; clear E_
   have h153 : ((((List.length rrounds) : Nat) : Int) : Int) = 0 := eq_of_beq hb_
   clear hb_; replace hP := ite_t h153 hP
   refine c_true E rfl ?_
   refine wp_seq ?_
   refine wp_region_lit ?_
   refine vr tbok 1 [] [(2, .int .i64 6)] [] E (by kernel_rfl) trivial ?_
   clear E; intro a E
   refine wpList_nil ?_
   refine th_n ?_
   refine wp_ret ?_
   refine th_ret ?_
   obtain rfl := Option.some.inj hP
   refine ret1 E rfl rfl ?_
   exact ⟨_, rfl, ⟨(6, rq, rrounds), A27, c28, rfl, rfl, H.sel [9, 8] rfl⟩⟩
  ·
   replace E := E_; clear E_
   have h154 : ¬ (((((List.length rrounds) : Nat) : Int) : Int) = 0) := ne_of_beq_false hb_
   clear hb_; replace hP := ite_f h154 hP
   refine c_false E rfl ?_
   refine wp_skip ?_
   refine th_n ?_
   refine wp_seq ?_
   obtain ⟨g155, hP⟩ := ask_inv hP
   obtain ⟨g156, hP⟩ := ask_inv hP
   obtain ⟨b157, e_b157⟩ := H.raddr 8 rfl (idx_pos g156)
   subst e_b157
   obtain ⟨g159, hP⟩ := ask_inv hP
   refine meet_cut (fun a w164 => Fr a 35 [] ∧ Hp S Fa w0 w164 [.ro false cBool A3 raAccept, .ro false (cInt .i64) A7 raGuard, .ro false cNode A11 raNodes, .ro false (cInt .i64) A15 rxRanks, .ro false (cSl (cInt .u8)) A19 rxReply, .ro false (cInt .u8) A23 rxChoice, .row true cS98 99 (some ⟨b157, 0, none⟩) c28 (List.take (Int.toNat ((((List.length rrounds) : Nat) : Int) - 1)) rrounds), .box g1 74 [.int .i64 raProps, .slice A3 (List.length raAccept) c4, .slice A7 (List.length raGuard) c8, .slice A11 (List.length raNodes) c12, .int .u8 rs.1, .int .u8 rs.2, .bool rxWins, .slice A15 (List.length rxRanks) c16, .slice A19 (List.length rxReply) c20, .slice A23 (List.length rxChoice) c24, .int .i64 ((List.getD rrounds (Int.toNat ((((List.length rrounds) : Nat) : Int) - 1)) (0, 0)).2), .slice (some ⟨b157, 0, none⟩) (List.length (List.take (Int.toNat ((((List.length rrounds) : Nat) : Int) - 1)) rrounds)) c28, .bool rmade]]) ?_ ?_
   ·
    have HR168 := H
    refine dr_start (S := fun w_ => Chg (atL [.box g1 74 [.int .i64 raProps, .slice A3 (List.length raAccept) c4, .slice A7 (List.length raGuard) c8, .slice A11 (List.length raNodes) c12, .int .u8 rs.1, .int .u8 rs.2, .bool rxWins, .slice A15 (List.length rxRanks) c16, .slice A19 (List.length rxReply) c20, .slice A23 (List.length rxChoice) c24, .int .i64 rq, .slice (some ⟨b157, 0, none⟩) (List.length rrounds) c28, .bool rmade]]) w144 w_) (by kernel_rfl) ?_
    intro w165 hc166
    have HS167 : Chg (atL [.box g1 74 [.int .i64 raProps, .slice A3 (List.length raAccept) c4, .slice A7 (List.length raGuard) c8, .slice A11 (List.length raNodes) c12, .int .u8 rs.1, .int .u8 rs.2, .bool rxWins, .slice A15 (List.length rxRanks) c16, .slice A19 (List.length rxReply) c20, .slice A23 (List.length rxChoice) c24, .int .i64 rq, .slice (some ⟨b157, 0, none⟩) (List.length rrounds) c28, .bool rmade]]) w144 w165 := hc166.mono (fun _ _ h_ => h_.elim)
    replace H := H.ext hc166
    refine dr tbok (by kernel_rfl) [0, 1, 2, 3, 4, 6, 7, 11, 12, 13, 15, 16] [.int .i64 ((((List.length rrounds) : Nat) : Int) - 1), .int .i64 ((((List.length rrounds) : Nat) : Int) - 1)] [(13, .pointer (some ⟨g1, 0, none⟩)), (14, .pointer (some ⟨g1, 0, none⟩)), (17, .pointer (some ⟨g1, 11, none⟩)), (20, .int .i64 ((((List.length rrounds) : Nat) : Int) - 1)), (26, .pointer (some ⟨g1, 11, none⟩)), (29, .int .i64 ((((List.length rrounds) : Nat) : Int) - 1))] (fun w_ => [IntKind.i64.wrap ((((List.length rrounds) : Nat) : Int) - 1) = (((List.length rrounds) : Nat) : Int) - 1, IntKind.i64.wrap ((((List.length rrounds) : Nat) : Int) - 1) = (((List.length rrounds) : Nat) : Int) - 1]) 12 E (fun _ _ => by kernel_rfl) (fun w_ hS_ => ⟨wrap_in g155, wrap_in g155⟩) (by kernel_rfl) HS167 ?_
    clear E; intro a E
    refine wpAnyH_all (rs := [5, 14]) (by kernel_rfl) (by simp) ?_
    refine all2 ?_ ?_
    ·
     refine wpOp_of_list rfl ?_
     refine vr tbok 1 [.slice (some ⟨b157, 0, none⟩) (List.length rrounds) c28] [(13, .pointer (some ⟨g1, 0, none⟩)), (14, .pointer (some ⟨g1, 0, none⟩)), (17, .pointer (some ⟨g1, 11, none⟩)), (18, .slice (some ⟨b157, 0, none⟩) (List.length rrounds) c28), (20, .int .i64 ((((List.length rrounds) : Nat) : Int) - 1)), (26, .pointer (some ⟨g1, 11, none⟩)), (29, .int .i64 ((((List.length rrounds) : Nat) : Int) - 1))] [World.cell? w165 ⟨g1, 11, none⟩ = some (.slice (some ⟨b157, 0, none⟩) (List.length rrounds) c28)] E (by kernel_rfl) ((H.box 9 rfl).cell (j := 11) rfl) ?_
     clear E; intro a E
     refine wpList_nil ?_
     refine th_n ⟨HS167, ?_⟩
     refine dr tbok (by kernel_rfl) [8, 9, 10] [.int .i64 ((List.getD rrounds (Int.toNat ((((List.length rrounds) : Nat) : Int) - 1)) (0, 0)).2)] [(13, .pointer (some ⟨g1, 0, none⟩)), (14, .pointer (some ⟨g1, 0, none⟩)), (23, .int .i64 ((List.getD rrounds (Int.toNat ((((List.length rrounds) : Nat) : Int) - 1)) (0, 0)).2)), (26, .pointer (some ⟨g1, 11, none⟩)), (29, .int .i64 ((((List.length rrounds) : Nat) : Int) - 1))] (fun w_ => [0 ≤ ((((List.length rrounds) : Nat) : Int) - 1) ∧ ((((List.length rrounds) : Nat) : Int) - 1) < (((List.length rrounds) : Nat) : Int), World.cell? w_ ⟨b157, 0 + (Int.toNat ((((List.length rrounds) : Nat) : Int) - 1)) * 2 + 1, none⟩ = some (.int .i64 ((List.getD rrounds (Int.toNat ((((List.length rrounds) : Nat) : Int) - 1)) (0, 0)).2))]) 8 E (fun _ _ => by kernel_rfl) (fun w_ hS_ => ⟨g156, Rds.atF (HR168.rdk [9] hS_ 8 rds_row rfl) (0, 0) g156 1 rfl⟩) (by kernel_rfl) HS167 ?_
     clear E; intro a E
     refine wpAnyH_all (rs := [14]) (by kernel_rfl) (by simp) ?_
     refine all1 ?_
     ·
      refine wpOp_of_list rfl ?_
      refine vr tbok 1 [.slice (some ⟨b157, 0, none⟩) (List.length rrounds) c28] [(13, .pointer (some ⟨g1, 0, none⟩)), (14, .pointer (some ⟨g1, 0, none⟩)), (23, .int .i64 ((List.getD rrounds (Int.toNat ((((List.length rrounds) : Nat) : Int) - 1)) (0, 0)).2)), (26, .pointer (some ⟨g1, 11, none⟩)), (27, .slice (some ⟨b157, 0, none⟩) (List.length rrounds) c28), (29, .int .i64 ((((List.length rrounds) : Nat) : Int) - 1))] [World.cell? w165 ⟨g1, 11, none⟩ = some (.slice (some ⟨b157, 0, none⟩) (List.length rrounds) c28)] E (by kernel_rfl) ((H.box 9 rfl).cell (j := 11) rfl) ?_
      clear E; intro a E
      refine wpList_nil ?_
      refine th_n ⟨HS167, ?_⟩
      refine dr tbok (by kernel_rfl) [18, 19] [] [(14, .pointer (some ⟨g1, 0, none⟩)), (23, .int .i64 ((List.getD rrounds (Int.toNat ((((List.length rrounds) : Nat) : Int) - 1)) (0, 0)).2)), (27, .slice (some ⟨b157, 0, none⟩) (List.length rrounds) c28), (29, .int .i64 ((((List.length rrounds) : Nat) : Int) - 1)), (32, .pointer (some ⟨g1, 10, none⟩))] (fun w_ => []) 5 E (fun _ _ => by kernel_rfl) (fun w_ hS_ => trivial) (by kernel_rfl) HS167 ?_
      clear E; intro a E
      refine wpAnyH_all (rs := [17, 20]) (by kernel_rfl) (by simp) ?_
      refine all2 ?_ ?_
      ·
       refine wpOp_of_list rfl ?_
       refine vr tbok 1 [] [(14, .pointer (some ⟨g1, 0, none⟩)), (23, .int .i64 ((List.getD rrounds (Int.toNat ((((List.length rrounds) : Nat) : Int) - 1)) (0, 0)).2)), (27, .slice (some ⟨b157, 0, none⟩) (List.length rrounds) c28), (29, .int .i64 ((((List.length rrounds) : Nat) : Int) - 1)), (30, .slice (some ⟨b157, 0, none⟩) (Int.toNat ((((List.length rrounds) : Nat) : Int) - 1)) c28), (32, .pointer (some ⟨g1, 10, none⟩))] [0 ≤ ((((List.length rrounds) : Nat) : Int) - 1) ∧ ((((List.length rrounds) : Nat) : Int) - 1) ≤ ((c28 : Nat) : Int)] E (by kernel_rfl) (cut_le g159 (H.rcap 8 rfl)) ?_
       clear E; intro a E
       replace H := H.cutRow 8 rfl (Int.toNat ((((List.length rrounds) : Nat) : Int) - 1)); try dsimp only [setn, addE, goneL] at H
       replace E := E.same (t := 30) (u := .slice (some ⟨b157, 0, none⟩) (List.length (List.take (Int.toNat ((((List.length rrounds) : Nat) : Int) - 1)) rrounds)) c28) rfl (congrArg (fun n_ => Value.slice (some ⟨b157, 0, none⟩) n_ c28) (take_len g159))
       refine wpList_nil ?_
       refine th_n ⟨HS167, ?_⟩
       refine wpAnyH_all (rs := [20]) (by kernel_rfl) (by simp) ?_
       refine all1 ?_
       ·
        refine wpOp_of_list rfl ?_
        refine h_store (g := g1) (off := 10) H 9 rfl E rfl rfl rfl rfl tbok rfl rfl rfl rfl rfl ?_
        clear E; intro w169 a hc170 H_ E
        replace HS167 := HS167.trans hc170 (fun k_ hk_ h_ => (fun _ _ h_ => Or.inl h_) k_ hk_ h_)
        replace H := H_; clear H_; try dsimp only [setn, addE, goneL] at H
        refine wpList_nil ?_
        refine th_n ⟨HS167, ?_⟩
        refine dr tbok (by kernel_rfl) [21, 22] [] [(30, .slice (some ⟨b157, 0, none⟩) (List.length (List.take (Int.toNat ((((List.length rrounds) : Nat) : Int) - 1)) rrounds)) c28), (34, .pointer (some ⟨g1, 11, none⟩))] (fun w_ => []) 1 E (fun _ _ => by kernel_rfl) (fun w_ hS_ => trivial) (by kernel_rfl) HS167 ?_
        clear E; intro a E
        refine wpAnyH_all (rs := [23]) (by kernel_rfl) (by simp) ?_
        refine all1 ?_
        ·
         refine wpOp_of_list rfl ?_
         refine h_store (g := g1) (off := 11) H 9 rfl E rfl rfl rfl rfl tbok rfl rfl rfl rfl rfl ?_
         clear E; intro w171 a hc172 H_ E
         replace HS167 := HS167.trans hc172 (fun k_ hk_ h_ => (fun _ _ h_ => Or.inl h_) k_ hk_ h_)
         replace H := H_; clear H_; try dsimp only [setn, addE, goneL] at H
         refine wpList_nil ?_
         refine th_n ⟨HS167, ?_⟩
         refine dr_done (by kernel_rfl) ?_
         exact .inl ⟨rfl, E.pick _ trivial, H.sel [2, 3, 4, 5, 6, 7, 8, 9] rfl⟩
      ·
       refine wpOp_of_list rfl ?_
       refine h_store (g := g1) (off := 10) H 9 rfl E rfl rfl rfl rfl tbok rfl rfl rfl rfl rfl ?_
       clear E; intro w173 a hc174 H_ E
       replace HS167 := HS167.trans hc174 (fun k_ hk_ h_ => (fun _ _ h_ => Or.inl h_) k_ hk_ h_)
       replace H := H_; clear H_; try dsimp only [setn, addE, goneL] at H
       refine wpList_nil ?_
       refine th_n ⟨HS167, ?_⟩
       refine wpAnyH_all (rs := [17]) (by kernel_rfl) (by simp) ?_
       refine all1 ?_
       ·
        refine wpOp_of_list rfl ?_
        refine vr tbok 1 [] [(14, .pointer (some ⟨g1, 0, none⟩)), (23, .int .i64 ((List.getD rrounds (Int.toNat ((((List.length rrounds) : Nat) : Int) - 1)) (0, 0)).2)), (27, .slice (some ⟨b157, 0, none⟩) (List.length rrounds) c28), (29, .int .i64 ((((List.length rrounds) : Nat) : Int) - 1)), (30, .slice (some ⟨b157, 0, none⟩) (Int.toNat ((((List.length rrounds) : Nat) : Int) - 1)) c28), (32, .pointer (some ⟨g1, 10, none⟩))] [0 ≤ ((((List.length rrounds) : Nat) : Int) - 1) ∧ ((((List.length rrounds) : Nat) : Int) - 1) ≤ ((c28 : Nat) : Int)] E (by kernel_rfl) (cut_le g159 (H.rcap 8 rfl)) ?_
        clear E; intro a E
        replace H := H.cutRow 8 rfl (Int.toNat ((((List.length rrounds) : Nat) : Int) - 1)); try dsimp only [setn, addE, goneL] at H
        replace E := E.same (t := 30) (u := .slice (some ⟨b157, 0, none⟩) (List.length (List.take (Int.toNat ((((List.length rrounds) : Nat) : Int) - 1)) rrounds)) c28) rfl (congrArg (fun n_ => Value.slice (some ⟨b157, 0, none⟩) n_ c28) (take_len g159))
        refine wpList_nil ?_
        refine th_n ⟨HS167, ?_⟩
        refine dr tbok (by kernel_rfl) [21, 22] [] [(30, .slice (some ⟨b157, 0, none⟩) (List.length (List.take (Int.toNat ((((List.length rrounds) : Nat) : Int) - 1)) rrounds)) c28), (34, .pointer (some ⟨g1, 11, none⟩))] (fun w_ => []) 1 E (fun _ _ => by kernel_rfl) (fun w_ hS_ => trivial) (by kernel_rfl) HS167 ?_
        clear E; intro a E
        refine wpAnyH_all (rs := [23]) (by kernel_rfl) (by simp) ?_
        refine all1 ?_
        ·
         refine wpOp_of_list rfl ?_
         refine h_store (g := g1) (off := 11) H 9 rfl E rfl rfl rfl rfl tbok rfl rfl rfl rfl rfl ?_
         clear E; intro w175 a hc176 H_ E
         replace HS167 := HS167.trans hc176 (fun k_ hk_ h_ => (fun _ _ h_ => Or.inl h_) k_ hk_ h_)
         replace H := H_; clear H_; try dsimp only [setn, addE, goneL] at H
         refine wpList_nil ?_
         refine th_n ⟨HS167, ?_⟩
         refine dr_done (by kernel_rfl) ?_
         exact .inl ⟨rfl, E.pick _ trivial, H.sel [2, 3, 4, 5, 6, 7, 8, 9] rfl⟩
    ·
     refine wpOp_of_list rfl ?_
     refine vr tbok 1 [.slice (some ⟨b157, 0, none⟩) (List.length rrounds) c28] [(13, .pointer (some ⟨g1, 0, none⟩)), (14, .pointer (some ⟨g1, 0, none⟩)), (17, .pointer (some ⟨g1, 11, none⟩)), (20, .int .i64 ((((List.length rrounds) : Nat) : Int) - 1)), (26, .pointer (some ⟨g1, 11, none⟩)), (27, .slice (some ⟨b157, 0, none⟩) (List.length rrounds) c28), (29, .int .i64 ((((List.length rrounds) : Nat) : Int) - 1))] [World.cell? w165 ⟨g1, 11, none⟩ = some (.slice (some ⟨b157, 0, none⟩) (List.length rrounds) c28)] E (by kernel_rfl) ((H.box 9 rfl).cell (j := 11) rfl) ?_
     clear E; intro a E
     refine wpList_nil ?_
     refine th_n ⟨HS167, ?_⟩
     refine wpAnyH_all (rs := [5, 17]) (by kernel_rfl) (by simp) ?_
     refine all2 ?_ ?_
     ·
      refine wpOp_of_list rfl ?_
      refine vr tbok 1 [.slice (some ⟨b157, 0, none⟩) (List.length rrounds) c28] [(13, .pointer (some ⟨g1, 0, none⟩)), (14, .pointer (some ⟨g1, 0, none⟩)), (17, .pointer (some ⟨g1, 11, none⟩)), (18, .slice (some ⟨b157, 0, none⟩) (List.length rrounds) c28), (20, .int .i64 ((((List.length rrounds) : Nat) : Int) - 1)), (27, .slice (some ⟨b157, 0, none⟩) (List.length rrounds) c28), (29, .int .i64 ((((List.length rrounds) : Nat) : Int) - 1))] [World.cell? w165 ⟨g1, 11, none⟩ = some (.slice (some ⟨b157, 0, none⟩) (List.length rrounds) c28)] E (by kernel_rfl) ((H.box 9 rfl).cell (j := 11) rfl) ?_
      clear E; intro a E
      refine wpList_nil ?_
      refine th_n ⟨HS167, ?_⟩
      refine dr tbok (by kernel_rfl) [8, 9, 10, 18, 19] [.int .i64 ((List.getD rrounds (Int.toNat ((((List.length rrounds) : Nat) : Int) - 1)) (0, 0)).2)] [(14, .pointer (some ⟨g1, 0, none⟩)), (23, .int .i64 ((List.getD rrounds (Int.toNat ((((List.length rrounds) : Nat) : Int) - 1)) (0, 0)).2)), (27, .slice (some ⟨b157, 0, none⟩) (List.length rrounds) c28), (29, .int .i64 ((((List.length rrounds) : Nat) : Int) - 1)), (32, .pointer (some ⟨g1, 10, none⟩))] (fun w_ => [0 ≤ ((((List.length rrounds) : Nat) : Int) - 1) ∧ ((((List.length rrounds) : Nat) : Int) - 1) < (((List.length rrounds) : Nat) : Int), World.cell? w_ ⟨b157, 0 + (Int.toNat ((((List.length rrounds) : Nat) : Int) - 1)) * 2 + 1, none⟩ = some (.int .i64 ((List.getD rrounds (Int.toNat ((((List.length rrounds) : Nat) : Int) - 1)) (0, 0)).2))]) 5 E (fun _ _ => by kernel_rfl) (fun w_ hS_ => ⟨g156, Rds.atF (HR168.rdk [9] hS_ 8 rds_row rfl) (0, 0) g156 1 rfl⟩) (by kernel_rfl) HS167 ?_
      clear E; intro a E
      refine wpAnyH_all (rs := [17, 20]) (by kernel_rfl) (by simp) ?_
      refine all2 ?_ ?_
      ·
       refine wpOp_of_list rfl ?_
       refine vr tbok 1 [] [(14, .pointer (some ⟨g1, 0, none⟩)), (23, .int .i64 ((List.getD rrounds (Int.toNat ((((List.length rrounds) : Nat) : Int) - 1)) (0, 0)).2)), (27, .slice (some ⟨b157, 0, none⟩) (List.length rrounds) c28), (29, .int .i64 ((((List.length rrounds) : Nat) : Int) - 1)), (30, .slice (some ⟨b157, 0, none⟩) (Int.toNat ((((List.length rrounds) : Nat) : Int) - 1)) c28), (32, .pointer (some ⟨g1, 10, none⟩))] [0 ≤ ((((List.length rrounds) : Nat) : Int) - 1) ∧ ((((List.length rrounds) : Nat) : Int) - 1) ≤ ((c28 : Nat) : Int)] E (by kernel_rfl) (cut_le g159 (H.rcap 8 rfl)) ?_
       clear E; intro a E
       replace H := H.cutRow 8 rfl (Int.toNat ((((List.length rrounds) : Nat) : Int) - 1)); try dsimp only [setn, addE, goneL] at H
       replace E := E.same (t := 30) (u := .slice (some ⟨b157, 0, none⟩) (List.length (List.take (Int.toNat ((((List.length rrounds) : Nat) : Int) - 1)) rrounds)) c28) rfl (congrArg (fun n_ => Value.slice (some ⟨b157, 0, none⟩) n_ c28) (take_len g159))
       refine wpList_nil ?_
       refine th_n ⟨HS167, ?_⟩
       refine wpAnyH_all (rs := [20]) (by kernel_rfl) (by simp) ?_
       refine all1 ?_
       ·
        refine wpOp_of_list rfl ?_
        refine h_store (g := g1) (off := 10) H 9 rfl E rfl rfl rfl rfl tbok rfl rfl rfl rfl rfl ?_
        clear E; intro w177 a hc178 H_ E
        replace HS167 := HS167.trans hc178 (fun k_ hk_ h_ => (fun _ _ h_ => Or.inl h_) k_ hk_ h_)
        replace H := H_; clear H_; try dsimp only [setn, addE, goneL] at H
        refine wpList_nil ?_
        refine th_n ⟨HS167, ?_⟩
        refine dr tbok (by kernel_rfl) [21, 22] [] [(30, .slice (some ⟨b157, 0, none⟩) (List.length (List.take (Int.toNat ((((List.length rrounds) : Nat) : Int) - 1)) rrounds)) c28), (34, .pointer (some ⟨g1, 11, none⟩))] (fun w_ => []) 1 E (fun _ _ => by kernel_rfl) (fun w_ hS_ => trivial) (by kernel_rfl) HS167 ?_
        clear E; intro a E
        refine wpAnyH_all (rs := [23]) (by kernel_rfl) (by simp) ?_
        refine all1 ?_
        ·
         refine wpOp_of_list rfl ?_
         refine h_store (g := g1) (off := 11) H 9 rfl E rfl rfl rfl rfl tbok rfl rfl rfl rfl rfl ?_
         clear E; intro w179 a hc180 H_ E
         replace HS167 := HS167.trans hc180 (fun k_ hk_ h_ => (fun _ _ h_ => Or.inl h_) k_ hk_ h_)
         replace H := H_; clear H_; try dsimp only [setn, addE, goneL] at H
         refine wpList_nil ?_
         refine th_n ⟨HS167, ?_⟩
         refine dr_done (by kernel_rfl) ?_
         exact .inl ⟨rfl, E.pick _ trivial, H.sel [2, 3, 4, 5, 6, 7, 8, 9] rfl⟩
      ·
       refine wpOp_of_list rfl ?_
       refine h_store (g := g1) (off := 10) H 9 rfl E rfl rfl rfl rfl tbok rfl rfl rfl rfl rfl ?_
       clear E; intro w181 a hc182 H_ E
       replace HS167 := HS167.trans hc182 (fun k_ hk_ h_ => (fun _ _ h_ => Or.inl h_) k_ hk_ h_)
       replace H := H_; clear H_; try dsimp only [setn, addE, goneL] at H
       refine wpList_nil ?_
       refine th_n ⟨HS167, ?_⟩
       refine wpAnyH_all (rs := [17]) (by kernel_rfl) (by simp) ?_
       refine all1 ?_
       ·
        refine wpOp_of_list rfl ?_
        refine vr tbok 1 [] [(14, .pointer (some ⟨g1, 0, none⟩)), (23, .int .i64 ((List.getD rrounds (Int.toNat ((((List.length rrounds) : Nat) : Int) - 1)) (0, 0)).2)), (27, .slice (some ⟨b157, 0, none⟩) (List.length rrounds) c28), (29, .int .i64 ((((List.length rrounds) : Nat) : Int) - 1)), (30, .slice (some ⟨b157, 0, none⟩) (Int.toNat ((((List.length rrounds) : Nat) : Int) - 1)) c28), (32, .pointer (some ⟨g1, 10, none⟩))] [0 ≤ ((((List.length rrounds) : Nat) : Int) - 1) ∧ ((((List.length rrounds) : Nat) : Int) - 1) ≤ ((c28 : Nat) : Int)] E (by kernel_rfl) (cut_le g159 (H.rcap 8 rfl)) ?_
        clear E; intro a E
        replace H := H.cutRow 8 rfl (Int.toNat ((((List.length rrounds) : Nat) : Int) - 1)); try dsimp only [setn, addE, goneL] at H
        replace E := E.same (t := 30) (u := .slice (some ⟨b157, 0, none⟩) (List.length (List.take (Int.toNat ((((List.length rrounds) : Nat) : Int) - 1)) rrounds)) c28) rfl (congrArg (fun n_ => Value.slice (some ⟨b157, 0, none⟩) n_ c28) (take_len g159))
        refine wpList_nil ?_
        refine th_n ⟨HS167, ?_⟩
        refine dr tbok (by kernel_rfl) [21, 22] [] [(30, .slice (some ⟨b157, 0, none⟩) (List.length (List.take (Int.toNat ((((List.length rrounds) : Nat) : Int) - 1)) rrounds)) c28), (34, .pointer (some ⟨g1, 11, none⟩))] (fun w_ => []) 1 E (fun _ _ => by kernel_rfl) (fun w_ hS_ => trivial) (by kernel_rfl) HS167 ?_
        clear E; intro a E
        refine wpAnyH_all (rs := [23]) (by kernel_rfl) (by simp) ?_
        refine all1 ?_
        ·
         refine wpOp_of_list rfl ?_
         refine h_store (g := g1) (off := 11) H 9 rfl E rfl rfl rfl rfl tbok rfl rfl rfl rfl rfl ?_
         clear E; intro w183 a hc184 H_ E
         replace HS167 := HS167.trans hc184 (fun k_ hk_ h_ => (fun _ _ h_ => Or.inl h_) k_ hk_ h_)
         replace H := H_; clear H_; try dsimp only [setn, addE, goneL] at H
         refine wpList_nil ?_
         refine th_n ⟨HS167, ?_⟩
         refine dr_done (by kernel_rfl) ?_
         exact .inl ⟨rfl, E.pick _ trivial, H.sel [2, 3, 4, 5, 6, 7, 8, 9] rfl⟩
     ·
      refine wpOp_of_list rfl ?_
      refine vr tbok 1 [] [(13, .pointer (some ⟨g1, 0, none⟩)), (14, .pointer (some ⟨g1, 0, none⟩)), (17, .pointer (some ⟨g1, 11, none⟩)), (20, .int .i64 ((((List.length rrounds) : Nat) : Int) - 1)), (26, .pointer (some ⟨g1, 11, none⟩)), (27, .slice (some ⟨b157, 0, none⟩) (List.length rrounds) c28), (29, .int .i64 ((((List.length rrounds) : Nat) : Int) - 1)), (30, .slice (some ⟨b157, 0, none⟩) (Int.toNat ((((List.length rrounds) : Nat) : Int) - 1)) c28)] [0 ≤ ((((List.length rrounds) : Nat) : Int) - 1) ∧ ((((List.length rrounds) : Nat) : Int) - 1) ≤ ((c28 : Nat) : Int)] E (by kernel_rfl) (cut_le g159 (H.rcap 8 rfl)) ?_
      clear E; intro a E
      replace H := H.cutRow 8 rfl (Int.toNat ((((List.length rrounds) : Nat) : Int) - 1)); try dsimp only [setn, addE, goneL] at H
      replace E := E.same (t := 30) (u := .slice (some ⟨b157, 0, none⟩) (List.length (List.take (Int.toNat ((((List.length rrounds) : Nat) : Int) - 1)) rrounds)) c28) rfl (congrArg (fun n_ => Value.slice (some ⟨b157, 0, none⟩) n_ c28) (take_len g159))
      refine wpList_nil ?_
      refine th_n ⟨HS167, ?_⟩
      refine wpAnyH_all (rs := [5]) (by kernel_rfl) (by simp) ?_
      refine all1 ?_
      ·
       refine wpOp_of_list rfl ?_
       refine vr tbok 1 [.slice (some ⟨b157, 0, none⟩) (List.length rrounds) c28] [(13, .pointer (some ⟨g1, 0, none⟩)), (14, .pointer (some ⟨g1, 0, none⟩)), (17, .pointer (some ⟨g1, 11, none⟩)), (18, .slice (some ⟨b157, 0, none⟩) (List.length rrounds) c28), (20, .int .i64 ((((List.length rrounds) : Nat) : Int) - 1)), (30, .slice (some ⟨b157, 0, none⟩) (List.length (List.take (Int.toNat ((((List.length rrounds) : Nat) : Int) - 1)) rrounds)) c28)] [World.cell? w165 ⟨g1, 11, none⟩ = some (.slice (some ⟨b157, 0, none⟩) (List.length rrounds) c28)] E (by kernel_rfl) ((H.box 9 rfl).cell (j := 11) rfl) ?_
       clear E; intro a E
       refine wpList_nil ?_
       refine th_n ⟨HS167, ?_⟩
       refine dr tbok (by kernel_rfl) [8, 9, 10, 18, 19] [.int .i64 ((List.getD rrounds (Int.toNat ((((List.length rrounds) : Nat) : Int) - 1)) (0, 0)).2)] [(14, .pointer (some ⟨g1, 0, none⟩)), (23, .int .i64 ((List.getD rrounds (Int.toNat ((((List.length rrounds) : Nat) : Int) - 1)) (0, 0)).2)), (30, .slice (some ⟨b157, 0, none⟩) (List.length (List.take (Int.toNat ((((List.length rrounds) : Nat) : Int) - 1)) rrounds)) c28), (32, .pointer (some ⟨g1, 10, none⟩))] (fun w_ => [0 ≤ ((((List.length rrounds) : Nat) : Int) - 1) ∧ ((((List.length rrounds) : Nat) : Int) - 1) < (((List.length rrounds) : Nat) : Int), World.cell? w_ ⟨b157, 0 + (Int.toNat ((((List.length rrounds) : Nat) : Int) - 1)) * 2 + 1, none⟩ = some (.int .i64 ((List.getD rrounds (Int.toNat ((((List.length rrounds) : Nat) : Int) - 1)) (0, 0)).2))]) 4 E (fun _ _ => by kernel_rfl) (fun w_ hS_ => ⟨g156, Rds.atF (HR168.rdk [9] hS_ 8 rds_row rfl) (0, 0) g156 1 rfl⟩) (by kernel_rfl) HS167 ?_
       clear E; intro a E
       refine wpAnyH_all (rs := [20]) (by kernel_rfl) (by simp) ?_
       refine all1 ?_
       ·
        refine wpOp_of_list rfl ?_
        refine h_store (g := g1) (off := 10) H 9 rfl E rfl rfl rfl rfl tbok rfl rfl rfl rfl rfl ?_
        clear E; intro w185 a hc186 H_ E
        replace HS167 := HS167.trans hc186 (fun k_ hk_ h_ => (fun _ _ h_ => Or.inl h_) k_ hk_ h_)
        replace H := H_; clear H_; try dsimp only [setn, addE, goneL] at H
        refine wpList_nil ?_
        refine th_n ⟨HS167, ?_⟩
        refine dr tbok (by kernel_rfl) [21, 22] [] [(30, .slice (some ⟨b157, 0, none⟩) (List.length (List.take (Int.toNat ((((List.length rrounds) : Nat) : Int) - 1)) rrounds)) c28), (34, .pointer (some ⟨g1, 11, none⟩))] (fun w_ => []) 1 E (fun _ _ => by kernel_rfl) (fun w_ hS_ => trivial) (by kernel_rfl) HS167 ?_
        clear E; intro a E
        refine wpAnyH_all (rs := [23]) (by kernel_rfl) (by simp) ?_
        refine all1 ?_
        ·
         refine wpOp_of_list rfl ?_
         refine h_store (g := g1) (off := 11) H 9 rfl E rfl rfl rfl rfl tbok rfl rfl rfl rfl rfl ?_
         clear E; intro w187 a hc188 H_ E
         replace HS167 := HS167.trans hc188 (fun k_ hk_ h_ => (fun _ _ h_ => Or.inl h_) k_ hk_ h_)
         replace H := H_; clear H_; try dsimp only [setn, addE, goneL] at H
         refine wpList_nil ?_
         refine th_n ⟨HS167, ?_⟩
         refine dr_done (by kernel_rfl) ?_
         exact .inl ⟨rfl, E.pick _ trivial, H.sel [2, 3, 4, 5, 6, 7, 8, 9] rfl⟩
   ·
    clear E H; rintro a w164 ⟨E, H⟩
    refine th_n ?_
    refine wp_seq ?_
    refine wp_region_lit ?_
    refine vr tbok 1 [] [(2, .int .i64 0)] [] E (by kernel_rfl) trivial ?_
    clear E; intro a E
    refine wpList_nil ?_
    refine th_n ?_
    refine wp_ret ?_
    obtain rfl := Option.some.inj hP
    refine ret1 E rfl rfl ?_
    exact ⟨_, rfl, ⟨(0, (List.getD rrounds (Int.toNat ((((List.length rrounds) : Nat) : Int) - 1)) (0, 0)).2, List.take (Int.toNat ((((List.length rrounds) : Nat) : Int) - 1)) rrounds), (some ⟨b157, 0, none⟩), c28, rfl, rfl, H.sel [7, 6] rfl⟩⟩

/-! (*rejoinder/play.Referee).Rank -/
def play_Referee_Rank (N : Nat) (raProps : Int) (raAccept : List Bool) (raGuard : List Int) (raNodes : List Nd) (rs : Int × Int) (rxWins : Bool) (rxRanks : List Int) (rxReply : List (List Int)) (rxChoice : List Int) (rq : Int) (rrounds : List (Int × Int)) (rmade : Bool) : Option Int :=
  Option.bind (play_Referee_none N raProps raAccept raGuard raNodes (rs.1, rs.2) rxWins rxRanks rxReply rxChoice rq rrounds rmade) fun r131 =>
  if r131 = true then
    some 0
  else
    ask (idx rq (List.length rxRanks)) <|
    some (List.getD rxRanks (Int.toNat rq) 0)
set_option maxRecDepth 100000 in
set_option maxHeartbeats 4000000 in
theorem play_Referee_Rank_calls {N : Nat} {S Fa : Nat → Prop} {w0 : World} {r : Int} (g1 : Nat) (A3 : Option Addr) (c4 : Nat) (A7 : Option Addr) (c8 : Nat) (A11 : Option Addr) (c12 : Nat) (A15 : Option Addr) (c16 : Nat) (A19 : Option Addr) (c20 : Nat) (A23 : Option Addr) (c24 : Nat) (A27 : Option Addr) (c28 : Nat) (raProps : Int) (raAccept : List Bool) (raGuard : List Int) (raNodes : List Nd) (rs : Int × Int) (rxWins : Bool) (rxRanks : List Int) (rxReply : List (List Int)) (rxChoice : List Int) (rq : Int) (rrounds : List (Int × Int)) (rmade : Bool) (hk5 : List.length raAccept ≤ c4) (hk9 : List.length raGuard ≤ c8) (hk13 : List.length raNodes ≤ c12) (hk17 : List.length rxRanks ≤ c16) (hk21 : List.length rxReply ≤ c20) (hk25 : List.length rxChoice ≤ c24) (H : Hp S Fa w0 w0 [.box g1 74 [.int .i64 raProps, .slice A3 (List.length raAccept) c4, .slice A7 (List.length raGuard) c8, .slice A11 (List.length raNodes) c12, .int .u8 rs.1, .int .u8 rs.2, .bool rxWins, .slice A15 (List.length rxRanks) c16, .slice A19 (List.length rxReply) c20, .slice A23 (List.length rxChoice) c24, .int .i64 rq, .slice A27 (List.length rrounds) c28, .bool rmade], .row true cS98 99 A27 c28 rrounds, .ro false cBool A3 raAccept, .ro false (cInt .i64) A7 raGuard, .ro false cNode A11 raNodes, .ro false (cInt .i64) A15 rxRanks, .ro false (cSl (cInt .u8)) A19 rxReply, .ro false (cInt .u8) A23 rxChoice]) (hP : play_Referee_Rank N raProps raAccept raGuard raNodes rs rxWins rxRanks rxReply rxChoice rq rrounds rmade = some r) :
    Calls Try.prog 26 #[.pointer (some ⟨g1, 0, none⟩)] w0 fun e w' => ∃ v, e = .returned v ∧ (∃ (x_ : Int), r = x_ ∧ v = .int .i64 x_ ∧ Hp S Fa w0 w' [.row true cS98 99 A27 c28 rrounds, .box g1 74 [.int .i64 raProps, .slice A3 (List.length raAccept) c4, .slice A7 (List.length raGuard) c8, .slice A11 (List.length raNodes) c12, .int .u8 rs.1, .int .u8 rs.2, .bool rxWins, .slice A15 (List.length rxRanks) c16, .slice A19 (List.length rxReply) c20, .slice A23 (List.length rxChoice) c24, .int .i64 rq, .slice A27 (List.length rrounds) c28, .bool rmade]]) := by
 refine enterV (n := 16) Try.func26 rfl rfl rfl ?_
 intro a E
 replace E := E.pick [(0, .pointer (some ⟨g1, 0, none⟩))] ⟨rfl, trivial⟩
 rw [play_Referee_Rank] at hP
 refine wp_seq ?_
 refine wp_region_lit ?_
 refine vr tbok 1 [] [(0, .pointer (some ⟨g1, 0, none⟩))] [] E (by kernel_rfl) trivial ?_
 clear E; intro a E
 refine wpList_nil ?_
 refine th_n ?_
 refine wp_seq ?_
 refine wp_seq ?_
 refine wp_region_lit ?_
 refine vr tbok 1 [] [(0, .pointer (some ⟨g1, 0, none⟩)), (3, .pointer (some ⟨g1, 0, none⟩))] [] E (by kernel_rfl) trivial ?_
 clear E; intro a E
 obtain ⟨r131, h132, hP⟩ := bind_inv hP
 obtain ⟨Fa133, Hc134, hb135⟩ := H.call [0, 1] [(2, false), (3, false), (4, false), (5, false), (6, false), (7, false)] rfl rfl ⟨flat_plain, trivial⟩
 refine e_call E rfl rfl Try.func60 rfl rfl rfl (play_Referee_none_calls g1 A3 c4 A7 c8 A11 c12 A15 c16 A19 c20 A23 c24 A27 c28 raProps raAccept raGuard raNodes (rs.1, rs.2) rxWins rxRanks rxReply rxChoice rq rrounds rmade hk5 hk9 hk13 hk17 hk21 hk25 Hc134 h132) ?_
 intro v141 w140 a hR142 E_
 obtain ⟨x_, hr_, rfl, HR144⟩ := hR142
 subst hr_
 replace E := E_ _ rfl; clear E_
 obtain ⟨H_, hc143⟩ := hb135 _ _ HR144 rfl
 replace H := H_; clear H_; try dsimp only [setn, addE, goneL] at H
 refine wpList_nil ?_
 refine th_n ?_
 refine E.cases (t := 4) rfl (fun hb_ E_ => ?_) (fun hb_ E_ => ?_)
 ·
  replace E := E_; clear E_
  have h147 : r131 = true := hb_
  clear hb_; replace hP := ite_t h147 hP
  refine c_true E rfl ?_
  refine wp_seq ?_
  refine wp_region_lit ?_
  refine vr tbok 1 [] [(2, .int .i64 0)] [] E (by kernel_rfl) trivial ?_
  clear E; intro a E
  refine wpList_nil ?_
  refine th_n ?_
  refine wp_ret ?_
  refine th_ret ?_
  obtain rfl := Option.some.inj hP
  refine ret1 E rfl rfl ?_
  exact ⟨_, rfl, ⟨0, rfl, rfl, H.sel [8, 9] rfl⟩⟩
 ·
  replace E := E_; clear E_
  have h148 : ¬ (r131 = true) := (ne_true_of_eq_false hb_)
  clear hb_; replace hP := ite_f h148 hP
  refine c_false E rfl ?_
  refine wp_skip ?_
  refine th_n ?_
  refine wp_seq ?_
  obtain ⟨g149, hP⟩ := ask_inv hP
  obtain ⟨b150, o151, e_b150⟩ := (H.rd 5 rds_ro).addr (idx_pos g149)
  subst e_b150
  have HR155 := H
  refine dr_start (S := fun w_ => Chg (atL []) w140 w_) (by kernel_rfl) ?_
  intro w152 hc153
  have HS154 : Chg (atL []) w140 w152 := hc153.mono (fun _ _ h_ => h_.elim)
  replace H := H.ext hc153
  refine dr tbok (by kernel_rfl) [0, 1, 2, 3, 4, 5, 6, 7, 8, 9, 10, 11] [.slice (some ⟨b150, o151, none⟩) (List.length rxRanks) c16, .int .i64 rq, .int .i64 (List.getD rxRanks (Int.toNat rq) 0)] [(2, .int .i64 (List.getD rxRanks (Int.toNat rq) 0))] (fun w_ => [World.cell? w_ ⟨g1, 7, none⟩ = some (.slice (some ⟨b150, o151, none⟩) (List.length rxRanks) c16), World.cell? w_ ⟨g1, 10, none⟩ = some (.int .i64 rq), 0 ≤ rq ∧ rq < (((List.length rxRanks) : Nat) : Int), World.cell? w_ ⟨b150, o151 + (Int.toNat rq) * 1, none⟩ = some (.int .i64 (List.getD rxRanks (Int.toNat rq) 0))]) 0 E (fun _ _ => by kernel_rfl) (fun w_ hS_ => ⟨(HR155.boxk [] hS_ 9 rfl rfl).cell (j := 7) rfl, (HR155.boxk [] hS_ 9 rfl rfl).cell (j := 10) rfl, g149, Rds.at1 (HR155.rdk [] hS_ 5 rds_ro rfl) 0 g149⟩) (by kernel_rfl) HS154 ?_
  clear E; intro a E
  refine dr_done (by kernel_rfl) ?_
  clear HS154 HR155
  refine th_n ?_
  refine wp_ret ?_
  obtain rfl := Option.some.inj hP
  refine ret1 E rfl rfl ?_
  exact ⟨_, rfl, ⟨(List.getD rxRanks (Int.toNat rq) 0), rfl, rfl, H.sel [8, 9] rfl⟩⟩

/-! (*rejoinder/play.Referee).State -/
def play_Referee_State (N : Nat) (raProps : Int) (raAccept : List Bool) (raGuard : List Int) (raNodes : List Nd) (rs : Int × Int) (rxWins : Bool) (rxRanks : List Int) (rxReply : List (List Int)) (rxChoice : List Int) (rq : Int) (rrounds : List (Int × Int)) (rmade : Bool) : Option Int :=
  Option.bind (play_Referee_none N raProps raAccept raGuard raNodes (rs.1, rs.2) rxWins rxRanks rxReply rxChoice rq rrounds rmade) fun r131 =>
  if r131 = true then
    some 0
  else
    some rq
set_option maxRecDepth 100000 in
set_option maxHeartbeats 4000000 in
theorem play_Referee_State_calls {N : Nat} {S Fa : Nat → Prop} {w0 : World} {r : Int} (g1 : Nat) (A3 : Option Addr) (c4 : Nat) (A7 : Option Addr) (c8 : Nat) (A11 : Option Addr) (c12 : Nat) (A15 : Option Addr) (c16 : Nat) (A19 : Option Addr) (c20 : Nat) (A23 : Option Addr) (c24 : Nat) (A27 : Option Addr) (c28 : Nat) (raProps : Int) (raAccept : List Bool) (raGuard : List Int) (raNodes : List Nd) (rs : Int × Int) (rxWins : Bool) (rxRanks : List Int) (rxReply : List (List Int)) (rxChoice : List Int) (rq : Int) (rrounds : List (Int × Int)) (rmade : Bool) (hk5 : List.length raAccept ≤ c4) (hk9 : List.length raGuard ≤ c8) (hk13 : List.length raNodes ≤ c12) (hk17 : List.length rxRanks ≤ c16) (hk21 : List.length rxReply ≤ c20) (hk25 : List.length rxChoice ≤ c24) (H : Hp S Fa w0 w0 [.box g1 74 [.int .i64 raProps, .slice A3 (List.length raAccept) c4, .slice A7 (List.length raGuard) c8, .slice A11 (List.length raNodes) c12, .int .u8 rs.1, .int .u8 rs.2, .bool rxWins, .slice A15 (List.length rxRanks) c16, .slice A19 (List.length rxReply) c20, .slice A23 (List.length rxChoice) c24, .int .i64 rq, .slice A27 (List.length rrounds) c28, .bool rmade], .row true cS98 99 A27 c28 rrounds, .ro false cBool A3 raAccept, .ro false (cInt .i64) A7 raGuard, .ro false cNode A11 raNodes, .ro false (cInt .i64) A15 rxRanks, .ro false (cSl (cInt .u8)) A19 rxReply, .ro false (cInt .u8) A23 rxChoice]) (hP : play_Referee_State N raProps raAccept raGuard raNodes rs rxWins rxRanks rxReply rxChoice rq rrounds rmade = some r) :
    Calls Try.prog 28 #[.pointer (some ⟨g1, 0, none⟩)] w0 fun e w' => ∃ v, e = .returned v ∧ (∃ (x_ : Int), r = x_ ∧ v = .int .i64 x_ ∧ Hp S Fa w0 w' [.row true cS98 99 A27 c28 rrounds, .box g1 74 [.int .i64 raProps, .slice A3 (List.length raAccept) c4, .slice A7 (List.length raGuard) c8, .slice A11 (List.length raNodes) c12, .int .u8 rs.1, .int .u8 rs.2, .bool rxWins, .slice A15 (List.length rxRanks) c16, .slice A19 (List.length rxReply) c20, .slice A23 (List.length rxChoice) c24, .int .i64 rq, .slice A27 (List.length rrounds) c28, .bool rmade]]) := by
 refine enterV (n := 9) Try.func28 rfl rfl rfl ?_
 intro a E
 replace E := E.pick [(0, .pointer (some ⟨g1, 0, none⟩))] ⟨rfl, trivial⟩
 rw [play_Referee_State] at hP
 refine wp_seq ?_
 refine wp_region_lit ?_
 refine vr tbok 1 [] [(0, .pointer (some ⟨g1, 0, none⟩))] [] E (by kernel_rfl) trivial ?_
 clear E; intro a E
 refine wpList_nil ?_
 refine th_n ?_
 refine wp_seq ?_
 refine wp_seq ?_
 refine wp_region_lit ?_
 refine vr tbok 1 [] [(0, .pointer (some ⟨g1, 0, none⟩)), (3, .pointer (some ⟨g1, 0, none⟩))] [] E (by kernel_rfl) trivial ?_
 clear E; intro a E
 obtain ⟨r131, h132, hP⟩ := bind_inv hP
 obtain ⟨Fa133, Hc134, hb135⟩ := H.call [0, 1] [(2, false), (3, false), (4, false), (5, false), (6, false), (7, false)] rfl rfl ⟨flat_plain, trivial⟩
 refine e_call E rfl rfl Try.func60 rfl rfl rfl (play_Referee_none_calls g1 A3 c4 A7 c8 A11 c12 A15 c16 A19 c20 A23 c24 A27 c28 raProps raAccept raGuard raNodes (rs.1, rs.2) rxWins rxRanks rxReply rxChoice rq rrounds rmade hk5 hk9 hk13 hk17 hk21 hk25 Hc134 h132) ?_
 intro v141 w140 a hR142 E_
 obtain ⟨x_, hr_, rfl, HR144⟩ := hR142
 subst hr_
 replace E := E_ _ rfl; clear E_
 obtain ⟨H_, hc143⟩ := hb135 _ _ HR144 rfl
 replace H := H_; clear H_; try dsimp only [setn, addE, goneL] at H
 refine wpList_nil ?_
 refine th_n ?_
 refine E.cases (t := 4) rfl (fun hb_ E_ => ?_) (fun hb_ E_ => ?_)
 ·
  replace E := E_; clear E_
  have h147 : r131 = true := hb_
  clear hb_; replace hP := ite_t h147 hP
  refine c_true E rfl ?_
  refine wp_seq ?_
  refine wp_region_lit ?_
  refine vr tbok 1 [] [(2, .int .i64 0)] [] E (by kernel_rfl) trivial ?_
  clear E; intro a E
  refine wpList_nil ?_
  refine th_n ?_
  refine wp_ret ?_
  refine th_ret ?_
  obtain rfl := Option.some.inj hP
  refine ret1 E rfl rfl ?_
  exact ⟨_, rfl, ⟨0, rfl, rfl, H.sel [8, 9] rfl⟩⟩
 ·
  replace E := E_; clear E_
  have h148 : ¬ (r131 = true) := (ne_true_of_eq_false hb_)
  clear hb_; replace hP := ite_f h148 hP
  refine c_false E rfl ?_
  refine wp_skip ?_
  refine th_n ?_
  refine wp_seq ?_
  refine wp_region_lit ?_
  refine vr tbok 5 [.int .i64 rq] [(2, .int .i64 rq)] [World.cell? w140 ⟨g1, 10, none⟩ = some (.int .i64 rq)] E (by kernel_rfl) ((H.box 9 rfl).cell (j := 10) rfl) ?_
  clear E; intro a E
  refine wpList_nil ?_
  refine th_n ?_
  refine wp_ret ?_
  obtain rfl := Option.some.inj hP
  refine ret1 E rfl rfl ?_
  exact ⟨_, rfl, ⟨rq, rfl, rfl, H.sel [8, 9] rfl⟩⟩

/-! (*rejoinder/play.Referee).Trace -/
def play_Referee_Trace_l0 (N : Nat) (rrounds : List (Int × Int)) : Nat → (List Int) → Int → Option (List Int)
  | 0, _, _ => none
  | m211 + 1, out178, x181 =>
    if x181 < (((List.length rrounds) : Nat) : Int) then
      ask (idx x181 (List.length rrounds)) <|
      ask (List.length out178 + List.length ([(List.getD rrounds (Int.toNat x181) (0, 0)).1] : List Int) ≤ 1000000000) <|
      ask (in64 (x181 + 1)) <|
      play_Referee_Trace_l0 N rrounds m211 (out178 ++ ([(List.getD rrounds (Int.toNat x181) (0, 0)).1] : List Int)) (x181 + 1)
    else
      some out178
def play_Referee_Trace (N : Nat) (raProps : Int) (raAccept : List Bool) (raGuard : List Int) (raNodes : List Nd) (rs : Int × Int) (rxWins : Bool) (rxRanks : List Int) (rxReply : List (List Int)) (rxChoice : List Int) (rq : Int) (rrounds : List (Int × Int)) (rmade : Bool) : Option (List Int) :=
  Option.bind (play_Referee_none N raProps raAccept raGuard raNodes (rs.1, rs.2) rxWins rxRanks rxReply rxChoice rq rrounds rmade) fun r134 =>
  if r134 = true then
    some []
  else
    Option.bind (play_Referee_Trace_l0 N rrounds N [] 0) fun x212 =>
    some x212
set_option maxRecDepth 100000 in
set_option maxHeartbeats 4000000 in
theorem play_Referee_Trace_calls {N : Nat} {S Fa : Nat → Prop} {w0 : World} {r : List Int} (g1 : Nat) (A3 : Option Addr) (c4 : Nat) (A7 : Option Addr) (c8 : Nat) (A11 : Option Addr) (c12 : Nat) (A15 : Option Addr) (c16 : Nat) (A19 : Option Addr) (c20 : Nat) (A23 : Option Addr) (c24 : Nat) (A27 : Option Addr) (c28 : Nat) (raProps : Int) (raAccept : List Bool) (raGuard : List Int) (raNodes : List Nd) (rs : Int × Int) (rxWins : Bool) (rxRanks : List Int) (rxReply : List (List Int)) (rxChoice : List Int) (rq : Int) (rrounds : List (Int × Int)) (rmade : Bool) (hk5 : List.length raAccept ≤ c4) (hk9 : List.length raGuard ≤ c8) (hk13 : List.length raNodes ≤ c12) (hk17 : List.length rxRanks ≤ c16) (hk21 : List.length rxReply ≤ c20) (hk25 : List.length rxChoice ≤ c24) (H : Hp S Fa w0 w0 [.box g1 74 [.int .i64 raProps, .slice A3 (List.length raAccept) c4, .slice A7 (List.length raGuard) c8, .slice A11 (List.length raNodes) c12, .int .u8 rs.1, .int .u8 rs.2, .bool rxWins, .slice A15 (List.length rxRanks) c16, .slice A19 (List.length rxReply) c20, .slice A23 (List.length rxChoice) c24, .int .i64 rq, .slice A27 (List.length rrounds) c28, .bool rmade], .row true cS98 99 A27 c28 rrounds, .ro false cBool A3 raAccept, .ro false (cInt .i64) A7 raGuard, .ro false cNode A11 raNodes, .ro false (cInt .i64) A15 rxRanks, .ro false (cSl (cInt .u8)) A19 rxReply, .ro false (cInt .u8) A23 rxChoice]) (hP : play_Referee_Trace N raProps raAccept raGuard raNodes rs rxWins rxRanks rxReply rxChoice rq rrounds rmade = some r) :
    Calls Try.prog 30 #[.pointer (some ⟨g1, 0, none⟩)] w0 fun e w' => ∃ v, e = .returned v ∧ (∃ (x_ : List Int) (A32 : Option Addr) (c33 : Nat), r = x_ ∧ v = .slice A32 (List.length x_) c33 ∧ Hp S Fa w0 w' [.row true (cInt .u8) 27 A32 c33 x_, .row true cS98 99 A27 c28 rrounds, .box g1 74 [.int .i64 raProps, .slice A3 (List.length raAccept) c4, .slice A7 (List.length raGuard) c8, .slice A11 (List.length raNodes) c12, .int .u8 rs.1, .int .u8 rs.2, .bool rxWins, .slice A15 (List.length rxRanks) c16, .slice A19 (List.length rxReply) c20, .slice A23 (List.length rxChoice) c24, .int .i64 rq, .slice A27 (List.length rrounds) c28, .bool rmade]]) := by
 refine enterV (n := 25) Try.func30 rfl rfl rfl ?_
 intro a E
 replace E := E.pick [(0, .pointer (some ⟨g1, 0, none⟩))] ⟨rfl, trivial⟩
 rw [play_Referee_Trace] at hP
 refine wp_seq ?_
 refine wp_region_lit ?_
 refine vr tbok 1 [] [(0, .pointer (some ⟨g1, 0, none⟩))] [] E (by kernel_rfl) trivial ?_
 clear E; intro a E
 refine wpList_nil ?_
 refine th_n ?_
 refine wp_seq ?_
 refine wp_region_lit ?_
 refine vr tbok 1 [] [(0, .pointer (some ⟨g1, 0, none⟩)), (3, .slice none 0 0)] [] E (by kernel_rfl) trivial ?_
 clear E; intro a E
 refine wpList_nil ?_
 refine th_n ?_
 refine wp_seq ?_
 refine wp_seq ?_
 refine wp_region_lit ?_
 refine vr tbok 1 [] [(0, .pointer (some ⟨g1, 0, none⟩)), (3, .slice none 0 0), (6, .pointer (some ⟨g1, 0, none⟩))] [] E (by kernel_rfl) trivial ?_
 clear E; intro a E
 obtain ⟨r134, h135, hP⟩ := bind_inv hP
 obtain ⟨Fa136, Hc137, hb138⟩ := H.call [0, 1] [(2, false), (3, false), (4, false), (5, false), (6, false), (7, false)] rfl rfl ⟨flat_plain, trivial⟩
 refine e_call E rfl rfl Try.func60 rfl rfl rfl (play_Referee_none_calls g1 A3 c4 A7 c8 A11 c12 A15 c16 A19 c20 A23 c24 A27 c28 raProps raAccept raGuard raNodes (rs.1, rs.2) rxWins rxRanks rxReply rxChoice rq rrounds rmade hk5 hk9 hk13 hk17 hk21 hk25 Hc137 h135) ?_
 intro v144 w143 a hR145 E_
 obtain ⟨x_, hr_, rfl, HR147⟩ := hR145
 subst hr_
 replace E := E_ _ rfl; clear E_
 obtain ⟨H_, hc146⟩ := hb138 _ _ HR147 rfl
 replace H := H_; clear H_; try dsimp only [setn, addE, goneL] at H
 refine wpList_nil ?_
 refine th_n ?_
 refine E.cases (t := 7) rfl (fun hb_ E_ => ?_) (fun hb_ E_ => ?_)
 ·
  replace E := E_; clear E_
  have h150 : r134 = true := hb_
  clear hb_; replace hP := ite_t h150 hP
  refine c_true E rfl ?_
  refine wp_seq ?_
  refine wp_region_lit ?_
  refine vr tbok 2 [] [(2, .slice none 0 0)] [] E (by kernel_rfl) trivial ?_
  clear E; intro a E
  refine wpList_nil ?_
  refine th_n ?_
  refine wp_ret ?_
  refine th_ret ?_
  replace H := H.nilrow (cInt .u8) 27; try dsimp only [setn, addE, goneL] at H
  obtain rfl := Option.some.inj hP
  refine ret1 E rfl rfl ?_
  exact ⟨_, rfl, ⟨[], none, 0, rfl, rfl, H.sel [10, 8, 9] rfl⟩⟩
 ·
  replace E := E_; clear E_
  have h152 : ¬ (r134 = true) := (ne_true_of_eq_false hb_)
  clear hb_; replace hP := ite_f h152 hP
  refine c_false E rfl ?_
  refine wp_skip ?_
  refine th_n ?_
  refine wp_seq ?_
  refine wp_seq ?_
  refine wp_region_lit ?_
  refine vr tbok 6 [.slice A27 (List.length rrounds) c28] [(3, .slice none 0 0), (12, .slice A27 (List.length rrounds) c28), (13, .int .i64 (((List.length rrounds) : Nat) : Int)), (14, .int .i64 0)] [World.cell? w143 ⟨g1, 11, none⟩ = some (.slice A27 (List.length rrounds) c28)] E (by kernel_rfl) ((H.box 9 rfl).cell (j := 11) rfl) ?_
  clear E; intro a E
  refine wpList_nil ?_
  refine th_n ?_
  refine wp_block ?_
  obtain ⟨x212, hL213, hK214⟩ := bind_inv hP
  clear hP
  replace H := H.nilrow (cInt .u8) 27; try dsimp only [setn, addE, goneL] at H
  refine loop_cut (fun i_ a w_ => (i_ = 0 ∧ ∃ (x218 : List Int), ∃ (A209 : Option Addr) (c210 : Nat), Fr a 25 [(3, .slice A209 (List.length x218) c210)] ∧ Hp S Fa w0 w_ [.row true (cInt .u8) 27 A209 c210 x218, .ro false cBool A3 raAccept, .ro false (cInt .i64) A7 raGuard, .ro false cNode A11 raNodes, .ro false (cInt .i64) A15 rxRanks, .ro false (cSl (cInt .u8)) A19 rxReply, .ro false (cInt .u8) A23 rxChoice, .row true cS98 99 A27 c28 rrounds, .box g1 74 [.int .i64 raProps, .slice A3 (List.length raAccept) c4, .slice A7 (List.length raGuard) c8, .slice A11 (List.length raNodes) c12, .int .u8 rs.1, .int .u8 rs.2, .bool rxWins, .slice A15 (List.length rxRanks) c16, .slice A19 (List.length rxReply) c20, .slice A23 (List.length rxChoice) c24, .int .i64 rq, .slice A27 (List.length rrounds) c28, .bool rmade]] ∧ x212 = x218)) ?_ ?_
  ·
   refine loopV (fun m217 a w216 => ∃ (out178 : List Int) (x181 : Int), ∃ (A179 : Option Addr) (c180 : Nat), Fr a 25 [(3, .slice A179 (List.length out178) c180), (12, .slice A27 (List.length rrounds) c28), (13, .int .i64 (((List.length rrounds) : Nat) : Int)), (14, .int .i64 x181)] ∧ Hp S Fa w0 w216 [.row true (cInt .u8) 27 A179 c180 out178, .row true cS98 99 A27 c28 rrounds, .ro false cBool A3 raAccept, .ro false (cInt .i64) A7 raGuard, .ro false cNode A11 raNodes, .ro false (cInt .i64) A15 rxRanks, .ro false (cSl (cInt .u8)) A19 rxReply, .ro false (cInt .u8) A23 rxChoice, .box g1 74 [.int .i64 raProps, .slice A3 (List.length raAccept) c4, .slice A7 (List.length raGuard) c8, .slice A11 (List.length raNodes) c12, .int .u8 rs.1, .int .u8 rs.2, .bool rxWins, .slice A15 (List.length rxRanks) c16, .slice A19 (List.length rxReply) c20, .slice A23 (List.length rxChoice) c24, .int .i64 rq, .slice A27 (List.length rrounds) c28, .bool rmade]] ∧ play_Referee_Trace_l0 N rrounds m217 out178 x181 = some x212) N ?_ ?_
   ·
    exact ⟨[], 0, none, 0, E.pick _ ⟨rfl, rfl, rfl, rfl, trivial⟩, H.sel [10, 8, 2, 3, 4, 5, 6, 7, 9] rfl, hL213⟩
   ·
    clear E H hL213; intro m217 a w216 hI_
    obtain ⟨out178, x181, A179, c180, E, H, hP⟩ := hI_
    obtain ⟨m211, rfl⟩ : ∃ q_, m217 = q_ + 1 := by cases m217 with | zero => rw [play_Referee_Trace_l0] at hP; cases hP | succ q_ => exact ⟨q_, rfl⟩
    rw [play_Referee_Trace_l0] at hP
    refine wp_seq ?_
    refine wp_region_lit ?_
    refine vr tbok 1 [] [(3, .slice A179 (List.length out178) c180), (12, .slice A27 (List.length rrounds) c28), (13, .int .i64 (((List.length rrounds) : Nat) : Int)), (14, .int .i64 x181), (15, .bool (decide (x181 < (((List.length rrounds) : Nat) : Int))))] [] E (by kernel_rfl) trivial ?_
    clear E; intro a E
    refine wpList_nil ?_
    refine th_n ?_
    refine wp_seq ?_
    refine E.cases (t := 15) rfl (fun hb_ E_ => ?_) (fun hb_ E_ => ?_)
    ·
     replace E := E_; clear E_
     have h219 : x181 < (((List.length rrounds) : Nat) : Int) := of_decide_eq_true hb_
     clear hb_; replace hP := ite_t h219 hP
     refine c_true E rfl ?_
     refine wp_skip ?_
     refine th_n ?_
     refine wp_seq ?_
     refine wp_block ?_
     refine wp_seq ?_
     refine wp_region_lit ?_
     obtain ⟨g220, hP⟩ := ask_inv hP
     obtain ⟨b221, e_b221⟩ := H.raddr 1 rfl (idx_pos g220)
     subst e_b221
     refine vr tbok 2 [.agg #[.int .u8 ((List.getD rrounds (Int.toNat x181) (0, 0)).1), .int .i64 ((List.getD rrounds (Int.toNat x181) (0, 0)).2)]] [(3, .slice A179 (List.length out178) c180), (12, .slice (some ⟨b221, 0, none⟩) (List.length rrounds) c28), (13, .int .i64 (((List.length rrounds) : Nat) : Int)), (14, .int .i64 x181), (17, .agg #[.int .u8 ((List.getD rrounds (Int.toNat x181) (0, 0)).1), .int .i64 ((List.getD rrounds (Int.toNat x181) (0, 0)).2)])] [0 ≤ x181 ∧ x181 < (((List.length rrounds) : Nat) : Int), cellsAt w216 b221 (0 + (Int.toNat x181) * 2) [.int .u8 ((List.getD rrounds (Int.toNat x181) (0, 0)).1), .int .i64 ((List.getD rrounds (Int.toNat x181) (0, 0)).2)]] E (by kernel_rfl) ⟨g220, Rds.atP (H.rd 1 rds_row) (0, 0) g220⟩ ?_
     clear E; intro a E
     refine h_alloc H E rfl rfl tbok rfl ?_
     intro w224 g223 a hc225 hg227 H_ E_
     replace E := E_ _ rfl; clear E_
     replace H := H_; clear H_; try dsimp only [setn, addE, goneL] at H
     refine h_store (g := g223) (off := 0) H 9 rfl E rfl rfl rfl rfl tbok rfl rfl rfl rfl rfl ?_
     clear E; intro w228 a hc229 H_ E
     replace H := H_; clear H_; try dsimp only [setn, addE, goneL] at H
     refine wpList_nil ?_
     refine th_n ?_
     refine wp_region_lit ?_
     refine vr tbok 3 [.int .u8 ((List.getD rrounds (Int.toNat x181) (0, 0)).1)] [(12, .slice (some ⟨b221, 0, none⟩) (List.length rrounds) c28), (13, .int .i64 (((List.length rrounds) : Nat) : Int)), (14, .int .i64 x181), (18, .slice A179 (List.length out178) c180), (20, .int .u8 ((List.getD rrounds (Int.toNat x181) (0, 0)).1))] [World.cell? w228 ⟨g223, 0, none⟩ = some (.int .u8 ((List.getD rrounds (Int.toNat x181) (0, 0)).1))] E (by kernel_rfl) ((H.box 9 rfl).cell (j := 0) rfl) ?_
     clear E; intro a E
     refine h_buildSlice (ps := [(0, .int .u8 ((List.getD rrounds (Int.toNat x181) (0, 0)).1))]) (cs := [.int .u8 ((List.getD rrounds (Int.toNat x181) (0, 0)).1)]) H E rfl rfl tbok rfl rfl (by kernel_rfl) ?_
     intro w231 g230 a hc232 hg234 H_ E_
     replace E := E_ _ rfl; clear E_
     replace H := H_; clear H_; try dsimp only [setn, addE, goneL] at H
     obtain ⟨g235, hP⟩ := ask_inv hP
     refine h_append (cInt .u8) (xs := out178) (ys := ([(List.getD rrounds (Int.toNat x181) (0, 0)).1] : List Int)) (0 : Int) H 0 rfl E rfl rfl tbok rfl rfl rfl rfl rfl (fun _ _ => rfl) rfl rfl (fun _ HF_ => HF_.srcB 10 rfl (⟨_, _, rfl, rfl, rfl⟩)) g235 ?_
     intro w236 A237 c238 a hc239 hA240 H_ E_
     replace E := E_ _ rfl; clear E_
     replace H := H_; clear H_; try dsimp only [setn, addE, goneL] at H
     refine vr tbok 1 [] [(3, .slice A237 (List.length (out178 ++ ([(List.getD rrounds (Int.toNat x181) (0, 0)).1] : List Int))) c238), (12, .slice (some ⟨b221, 0, none⟩) (List.length rrounds) c28), (13, .int .i64 (((List.length rrounds) : Nat) : Int)), (14, .int .i64 x181)] [] E (by kernel_rfl) trivial ?_
     clear E; intro a E
     refine wpList_nil ?_
     refine bl_n ?_
     refine th_n ?_
     refine wp_region_lit ?_
     obtain ⟨g241, hP⟩ := ask_inv hP
     refine vr tbok 2 [.int .i64 (x181 + 1)] [(3, .slice A237 (List.length (out178 ++ ([(List.getD rrounds (Int.toNat x181) (0, 0)).1] : List Int))) c238), (12, .slice (some ⟨b221, 0, none⟩) (List.length rrounds) c28), (13, .int .i64 (((List.length rrounds) : Nat) : Int)), (14, .int .i64 (x181 + 1))] [IntKind.i64.wrap (x181 + 1) = x181 + 1] E (by kernel_rfl) (wrap_in g241) ?_
     clear E; intro a E
     refine wpList_nil ?_
     exact th_n ⟨m211, Nat.lt_succ_self _, out178 ++ ([(List.getD rrounds (Int.toNat x181) (0, 0)).1] : List Int), x181 + 1, A237, c238, E.pick _ ⟨rfl, rfl, rfl, rfl, trivial⟩, H.sel [0, 1, 2, 3, 4, 5, 6, 7, 8] rfl, hP⟩
    ·
     replace E := E_; clear E_
     have h242 : ¬ (x181 < (((List.length rrounds) : Nat) : Int)) := of_decide_eq_false hb_
     clear hb_; replace hP := ite_f h242 hP
     refine c_false E rfl ?_
     refine wp_exit ?_
     refine th_exit ?_
     have hx_ := Option.some.inj hP
     refine th_exit (.inl ⟨0, rfl, ?_⟩)
     exact ⟨rfl, out178, A179, c180, E.pick _ ⟨rfl, trivial⟩, H.sel [0, 2, 3, 4, 5, 6, 7, 1, 8] rfl, hx_.symm⟩
  ·
   clear E H hL213; intro i_ a w216 hM_
   obtain ⟨rfl, x218, A209, c210, E, H, hx_⟩ := hM_
   subst hx_; have hP := hK214; clear hK214
   refine bl_hit ?_
   refine th_n ?_
   refine wp_seq ?_
   refine wp_region_lit ?_
   refine vr tbok 2 [] [(2, .slice A209 (List.length x212) c210)] [] E (by kernel_rfl) trivial ?_
   clear E; intro a E
   refine wpList_nil ?_
   refine th_n ?_
   refine wp_ret ?_
   obtain rfl := Option.some.inj hP
   refine ret1 E rfl rfl ?_
   exact ⟨_, rfl, ⟨x212, A209, c210, rfl, rfl, H.sel [0, 7, 8] rfl⟩⟩

/-! rejoinder/rejoinderkit.SameLetters -/
def kit_SameLetters_l0 (N : Nat) (aa : List Int) (b : List Int) : Nat → Int → Option (Unit ⊕ Bool)
  | 0, _ => none
  | m41 + 1, i25 =>
    if i25 < (((List.length aa) : Nat) : Int) then
      ask (idx i25 (List.length aa)) <|
      ask (idx i25 (List.length b)) <|
      if ((List.getD aa (Int.toNat i25) 0) : Int) = (List.getD b (Int.toNat i25) 0) then
        ask (in64 (i25 + 1)) <|
        kit_SameLetters_l0 N aa b m41 (i25 + 1)
      else
        some (Sum.inr false)
    else
      some (Sum.inl ())
def kit_SameLetters (N : Nat) (aa : List Int) (b : List Int) : Option Bool :=
  if ((((List.length aa) : Nat) : Int) : Int) = (((List.length b) : Nat) : Int) then
    Option.bind (kit_SameLetters_l0 N aa b N 0) fun x42 =>
    Sum.elim (fun x47 =>
      some true)
     (fun x63 =>
      some x63) x42
  else
    some false
set_option maxRecDepth 100000 in
set_option maxHeartbeats 4000000 in
theorem kit_SameLetters_calls {N : Nat} {S Fa : Nat → Prop} {w0 : World} {r : Bool} (A1 : Option Addr) (c2 : Nat) (A5 : Option Addr) (c6 : Nat) (aa : List Int) (b : List Int) (hk3 : List.length aa ≤ c2) (hk7 : List.length b ≤ c6) (H : Hp S Fa w0 w0 [.ro false (cInt .u8) A1 aa, .ro false (cInt .u8) A5 b]) (hP : kit_SameLetters N aa b = some r) :
    Calls Try.prog 32 #[.slice A1 (List.length aa) c2, .slice A5 (List.length b) c6] w0 fun e w' => ∃ v, e = .returned v ∧ v = .bool r ∧ Hp S Fa w0 w' [] := by
 refine enterV (n := 26) Try.func32 rfl rfl rfl ?_
 intro a E
 replace E := E.pick [(0, .slice A1 (List.length aa) c2), (1, .slice A5 (List.length b) c6)] ⟨rfl, rfl, trivial⟩
 rw [kit_SameLetters] at hP
 refine wp_seq ?_
 refine wp_region_lit ?_
 refine vr tbok 1 [] [(0, .slice A1 (List.length aa) c2), (1, .slice A5 (List.length b) c6)] [] E (by kernel_rfl) trivial ?_
 clear E; intro a E
 refine wpList_nil ?_
 refine th_n ?_
 refine wp_seq ?_
 refine wp_seq ?_
 refine wp_region_lit ?_
 refine vr tbok 5 [] [(0, .slice A1 (List.length aa) c2), (1, .slice A5 (List.length b) c6), (10, .bool (((((List.length aa) : Nat) : Int) : Int) != (((List.length b) : Nat) : Int)))] [] E (by kernel_rfl) trivial ?_
 clear E; intro a E
 refine wpList_nil ?_
 refine th_n ?_
 refine E.cases (t := 10) rfl (fun hb_ E_ => ?_) (fun hb_ E_ => ?_)
 ·
  replace E := E_; clear E_
  have h9 : ¬ (((((List.length aa) : Nat) : Int) : Int) = (((List.length b) : Nat) : Int)) := bne_iff_ne.1 hb_
  clear hb_; replace hP := ite_f h9 hP
  refine c_true E rfl ?_
  refine wp_seq ?_
  refine wp_region_lit ?_
  refine vr tbok 1 [] [(4, .bool false)] [] E (by kernel_rfl) trivial ?_
  clear E; intro a E
  refine wpList_nil ?_
  refine th_n ?_
  refine wp_ret ?_
  refine th_ret ?_
  obtain rfl := Option.some.inj hP
  refine ret1 E rfl rfl ?_
  exact ⟨_, rfl, rfl, H.sel [] rfl⟩
 ·
  replace E := E_; clear E_
  have h10 : ((((List.length aa) : Nat) : Int) : Int) = (((List.length b) : Nat) : Int) := bne_eq_false_iff_eq.1 hb_
  clear hb_; replace hP := ite_t h10 hP
  refine c_false E rfl ?_
  refine wp_skip ?_
  refine th_n ?_
  refine wp_seq ?_
  refine wp_seq ?_
  refine wp_region_lit ?_
  refine vr tbok 1 [] [(0, .slice A1 (List.length aa) c2), (1, .slice A5 (List.length b) c6), (5, .int .i64 0)] [] E (by kernel_rfl) trivial ?_
  clear E; intro a E
  refine wpList_nil ?_
  refine th_n ?_
  refine wp_block ?_
  obtain ⟨x42, hL43, hK44⟩ := bind_inv hP
  clear hP
  refine loop_cut (fun i_ a w_ => (i_ = 0 ∧ ∃ (x47 : Unit), Fr a 26 [] ∧ Hp S Fa w0 w_ [] ∧ x42 = Sum.inl x47)) ?_ ?_
  ·
   refine loopV (fun m46 a w45 => ∃ (i25 : Int), Fr a 26 [(0, .slice A1 (List.length aa) c2), (1, .slice A5 (List.length b) c6), (5, .int .i64 i25)] ∧ Hp S Fa w0 w45 [.ro false (cInt .u8) A1 aa, .ro false (cInt .u8) A5 b] ∧ kit_SameLetters_l0 N aa b m46 i25 = some x42) N ?_ ?_
   ·
    exact ⟨0, E.pick _ ⟨rfl, rfl, rfl, trivial⟩, H.sel [0, 1] rfl, hL43⟩
   ·
    clear E H hL43; intro m46 a w45 hI_
    obtain ⟨i25, E, H, hP⟩ := hI_
    obtain ⟨m41, rfl⟩ : ∃ q_, m46 = q_ + 1 := by cases m46 with | zero => rw [kit_SameLetters_l0] at hP; cases hP | succ q_ => exact ⟨q_, rfl⟩
    rw [kit_SameLetters_l0] at hP
    refine wp_seq ?_
    refine wp_seq ?_
    refine wp_region_lit ?_
    refine vr tbok 4 [] [(0, .slice A1 (List.length aa) c2), (1, .slice A5 (List.length b) c6), (5, .int .i64 i25), (14, .bool (decide (i25 < (((List.length aa) : Nat) : Int))))] [] E (by kernel_rfl) trivial ?_
    clear E; intro a E
    refine wpList_nil ?_
    refine th_n ?_
    refine E.cases (t := 14) rfl (fun hb_ E_ => ?_) (fun hb_ E_ => ?_)
    ·
     replace E := E_; clear E_
     have h48 : i25 < (((List.length aa) : Nat) : Int) := of_decide_eq_true hb_
     clear hb_; replace hP := ite_t h48 hP
     refine c_true E rfl ?_
     refine wp_skip ?_
     refine th_n ?_
     refine wp_seq ?_
     refine wp_block ?_
     refine wp_seq ?_
     obtain ⟨g49, hP⟩ := ask_inv hP
     obtain ⟨b50, o51, e_b50⟩ := (H.rd 0 rds_ro).addr (idx_pos g49)
     subst e_b50
     obtain ⟨g52, hP⟩ := ask_inv hP
     obtain ⟨b53, o54, e_b53⟩ := (H.rd 1 rds_ro).addr (idx_pos g52)
     subst e_b53
     have HR58 := H
     refine dr_start (S := fun w_ => Chg (atL []) w45 w_) (by kernel_rfl) ?_
     intro w55 hc56
     have HS57 : Chg (atL []) w45 w55 := hc56.mono (fun _ _ h_ => h_.elim)
     replace H := H.ext hc56
     refine dr tbok (by kernel_rfl) [0, 1, 2, 3, 4, 5, 6, 7, 8] [.int .u8 (List.getD aa (Int.toNat i25) 0), .int .u8 (List.getD b (Int.toNat i25) 0)] [(0, .slice (some ⟨b50, o51, none⟩) (List.length aa) c2), (1, .slice (some ⟨b53, o54, none⟩) (List.length b) c6), (5, .int .i64 i25), (25, .bool (((List.getD aa (Int.toNat i25) 0) : Int) != (List.getD b (Int.toNat i25) 0)))] (fun w_ => [0 ≤ i25 ∧ i25 < (((List.length aa) : Nat) : Int), World.cell? w_ ⟨b50, o51 + (Int.toNat i25) * 1, none⟩ = some (.int .u8 (List.getD aa (Int.toNat i25) 0)), 0 ≤ i25 ∧ i25 < (((List.length b) : Nat) : Int), World.cell? w_ ⟨b53, o54 + (Int.toNat i25) * 1, none⟩ = some (.int .u8 (List.getD b (Int.toNat i25) 0))]) 0 E (fun _ _ => by kernel_rfl) (fun w_ hS_ => ⟨g49, Rds.at1 (HR58.rdk [] hS_ 0 rds_ro rfl) 0 g49, g52, Rds.at1 (HR58.rdk [] hS_ 1 rds_ro rfl) 0 g52⟩) (by kernel_rfl) HS57 ?_
     clear E; intro a E
     refine dr_done (by kernel_rfl) ?_
     clear HS57 HR58
     refine th_n ?_
     refine E.cases (t := 25) rfl (fun hb_ E_ => ?_) (fun hb_ E_ => ?_)
     ·
      replace E := E_; clear E_
      have h59 : ¬ (((List.getD aa (Int.toNat i25) 0) : Int) = (List.getD b (Int.toNat i25) 0)) := bne_iff_ne.1 hb_
      clear hb_; replace hP := ite_f h59 hP
      refine c_true E rfl ?_
      refine wp_seq ?_
      refine wp_region_lit ?_
      refine vr tbok 1 [] [(4, .bool false)] [] E (by kernel_rfl) trivial ?_
      clear E; intro a E
      refine wpList_nil ?_
      refine th_n ?_
      refine wp_ret ?_
      refine bl_ret ?_
      refine th_ret ?_
      refine th_ret ?_
      refine .inr ⟨rfl, ?_⟩
      refine bl_ret ?_
      refine th_ret ?_
      have hx_ := Option.some.inj hP; subst hx_
      have hP : some (false) = some r := hK44
      obtain rfl := Option.some.inj hP
      refine ret1 E rfl rfl ?_
      exact ⟨_, rfl, rfl, H.sel [] rfl⟩
     ·
      replace E := E_; clear E_
      have h60 : ((List.getD aa (Int.toNat i25) 0) : Int) = (List.getD b (Int.toNat i25) 0) := bne_eq_false_iff_eq.1 hb_
      clear hb_; replace hP := ite_t h60 hP
      refine c_false E rfl ?_
      refine wp_skip ?_
      refine bl_n ?_
      refine th_n ?_
      refine wp_region_lit ?_
      obtain ⟨g61, hP⟩ := ask_inv hP
      refine vr tbok 3 [.int .i64 (i25 + 1)] [(0, .slice (some ⟨b50, o51, none⟩) (List.length aa) c2), (1, .slice (some ⟨b53, o54, none⟩) (List.length b) c6), (5, .int .i64 (i25 + 1))] [IntKind.i64.wrap (i25 + 1) = i25 + 1] E (by kernel_rfl) (wrap_in g61) ?_
      clear E; intro a E
      refine wpList_nil ?_
      exact th_n ⟨m41, Nat.lt_succ_self _, i25 + 1, E.pick _ ⟨rfl, rfl, rfl, trivial⟩, H.sel [0, 1] rfl, hP⟩
    ·
     replace E := E_; clear E_
     have h62 : ¬ (i25 < (((List.length aa) : Nat) : Int)) := of_decide_eq_false hb_
     clear hb_; replace hP := ite_f h62 hP
     refine c_false E rfl ?_
     refine wp_exit ?_
     refine th_exit ?_
     have hx_ := Option.some.inj hP
     refine th_exit (.inl ⟨0, rfl, ?_⟩)
     exact ⟨rfl, (), E.pick _ trivial, H.sel [] rfl, hx_.symm⟩
  ·
   clear E H hL43; intro i_ a w45 hM_
   obtain ⟨rfl, x47, E, H, hx_⟩ := hM_
   subst hx_; have hP := elim_l hK44
   clear hK44
   refine bl_hit ?_
   refine th_n ?_
   refine wp_seq ?_
   refine wp_region_lit ?_
   refine vr tbok 1 [] [(4, .bool true)] [] E (by kernel_rfl) trivial ?_
   clear E; intro a E
   refine wpList_nil ?_
   refine th_n ?_
   refine wp_ret ?_
   obtain rfl := Option.some.inj hP
   refine ret1 E rfl rfl ?_
   exact ⟨_, rfl, rfl, H.sel [] rfl⟩

end Go.V
