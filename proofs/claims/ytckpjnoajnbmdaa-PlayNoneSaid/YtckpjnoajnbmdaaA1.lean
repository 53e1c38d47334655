/- Plain functions, and the calls that give them. -/
import Derived.Test.YtckpjnoajnbmdaaA0
set_option linter.all false
set_option linter.unusedVariables false
set_option linter.unnecessarySimpa false
set_option linter.unusedSimpArgs false
namespace Go.V
open Go Go.Proofs
/-! (*rejoinder/play.Referee).none -/
def play_Referee_none (N : Nat) (raProps : Int) (raAccept : List Bool) (raGuard : List Int) (raNodes : List Nd) (rs : Int × Int) (rxWins : Bool) (rxRanks : List Int) (rxReply : List (List Int)) (rxChoice : List Int) (rq : Int) (rrounds : List (Int × Int)) (rmade : Bool) : Option Bool :=
  some (!rmade)
set_option maxRecDepth 100000 in
set_option maxHeartbeats 4000000 in
theorem play_Referee_none_calls {N : Nat} {S Fa : Nat → Prop} {w0 : World} {r : Bool} (g1 : Nat) (A3 : Option Addr) (c4 : Nat) (A7 : Option Addr) (c8 : Nat) (A11 : Option Addr) (c12 : Nat) (A15 : Option Addr) (c16 : Nat) (A19 : Option Addr) (c20 : Nat) (A23 : Option Addr) (c24 : Nat) (A27 : Option Addr) (c28 : Nat) (raProps : Int) (raAccept : List Bool) (raGuard : List Int) (raNodes : List Nd) (rs : Int × Int) (rxWins : Bool) (rxRanks : List Int) (rxReply : List (List Int)) (rxChoice : List Int) (rq : Int) (rrounds : List (Int × Int)) (rmade : Bool) (hk5 : List.length raAccept ≤ c4) (hk9 : List.length raGuard ≤ c8) (hk13 : List.length raNodes ≤ c12) (hk17 : List.length rxRanks ≤ c16) (hk21 : List.length rxReply ≤ c20) (hk25 : List.length rxChoice ≤ c24) (H : Hp S Fa w0 w0 [.box g1 74 [.int .i64 raProps, .slice A3 (List.length raAccept) c4, .slice A7 (List.length raGuard) c8, .slice A11 (List.length raNodes) c12, .int .u8 rs.1, .int .u8 rs.2, .bool rxWins, .slice A15 (List.length rxRanks) c16, .slice A19 (List.length rxReply) c20, .slice A23 (List.length rxChoice) c24, .int .i64 rq, .slice A27 (List.length rrounds) c28, .bool rmade], .row true cS98 99 A27 c28 rrounds, .ro false cBool A3 raAccept, .ro false (cInt .i64) A7 raGuard, .ro false cNode A11 raNodes, .ro false (cInt .i64) A15 rxRanks, .ro false (cSl (cInt .u8)) A19 rxReply, .ro false (cInt .u8) A23 rxChoice]) (hP : play_Referee_none N raProps raAccept raGuard raNodes rs rxWins rxRanks rxReply rxChoice rq rrounds rmade = some r) :
    Calls Try.prog 60 #[.pointer (some ⟨g1, 0, none⟩)] w0 fun e w' => ∃ v, e = .returned v ∧ (∃ (x_ : Bool), r = x_ ∧ v = .bool x_ ∧ Hp S Fa w0 w' [.row true cS98 99 A27 c28 rrounds, .box g1 74 [.int .i64 raProps, .slice A3 (List.length raAccept) c4, .slice A7 (List.length raGuard) c8, .slice A11 (List.length raNodes) c12, .int .u8 rs.1, .int .u8 rs.2, .bool rxWins, .slice A15 (List.length rxRanks) c16, .slice A19 (List.length rxReply) c20, .slice A23 (List.length rxChoice) c24, .int .i64 rq, .slice A27 (List.length rrounds) c28, .bool rmade]]) := by
 refine enterV (n := 12) Try.func60 rfl rfl rfl ?_
 intro a E
 replace E := E.pick [(0, .pointer (some ⟨g1, 0, none⟩))] ⟨rfl, trivial⟩
 rw [play_Referee_none] at hP
 refine wp_seq ?_
 refine wp_region_lit ?_
 refine vr tbok 1 [] [(0, .pointer (some ⟨g1, 0, none⟩))] [] E (by kernel_rfl) trivial ?_
 clear E; intro a E
 refine wpList_nil ?_
 refine th_n ?_
 refine wp_seq ?_
 refine wp_region_lit ?_
 refine vr tbok 10 [.bool rmade] [(2, .bool (!rmade))] [World.cell? w0 ⟨g1, 12, none⟩ = some (.bool rmade)] E (by kernel_rfl) ((H.box 0 rfl).cell (j := 12) rfl) ?_
 clear E; intro a E
 refine wpList_nil ?_
 refine th_n ?_
 refine wp_ret ?_
 obtain rfl := Option.some.inj hP
 refine ret1 E rfl rfl ?_
 exact ⟨_, rfl, ⟨!rmade, rfl, rfl, H.sel [1, 0] rfl⟩⟩

/-! (*rejoinder/play.Referee).Over -/
def play_Referee_Over (N : Nat) (raProps : Int) (raAccept : List Bool) (raGuard : List Int) (raNodes : List Nd) (rs : Int × Int) (rxWins : Bool) (rxRanks : List Int) (rxReply : List (List Int)) (rxChoice : List Int) (rq : Int) (rrounds : List (Int × Int)) (rmade : Bool) : Option Bool :=
  Option.bind (play_Referee_none N raProps raAccept raGuard raNodes (rs.1, rs.2) rxWins rxRanks rxReply rxChoice rq rrounds rmade) fun r131 =>
  if r131 = true then
    some false
  else
    ask (idx rq (List.length raAccept)) <|
    some (List.getD raAccept (Int.toNat rq) false)
set_option maxRecDepth 100000 in
set_option maxHeartbeats 4000000 in
theorem play_Referee_Over_calls {N : Nat} {S Fa : Nat → Prop} {w0 : World} {r : Bool} (g1 : Nat) (A3 : Option Addr) (c4 : Nat) (A7 : Option Addr) (c8 : Nat) (A11 : Option Addr) (c12 : Nat) (A15 : Option Addr) (c16 : Nat) (A19 : Option Addr) (c20 : Nat) (A23 : Option Addr) (c24 : Nat) (A27 : Option Addr) (c28 : Nat) (raProps : Int) (raAccept : List Bool) (raGuard : List Int) (raNodes : List Nd) (rs : Int × Int) (rxWins : Bool) (rxRanks : List Int) (rxReply : List (List Int)) (rxChoice : List Int) (rq : Int) (rrounds : List (Int × Int)) (rmade : Bool) (hk5 : List.length raAccept ≤ c4) (hk9 : List.length raGuard ≤ c8) (hk13 : List.length raNodes ≤ c12) (hk17 : List.length rxRanks ≤ c16) (hk21 : List.length rxReply ≤ c20) (hk25 : List.length rxChoice ≤ c24) (H : Hp S Fa w0 w0 [.box g1 74 [.int .i64 raProps, .slice A3 (List.length raAccept) c4, .slice A7 (List.length raGuard) c8, .slice A11 (List.length raNodes) c12, .int .u8 rs.1, .int .u8 rs.2, .bool rxWins, .slice A15 (List.length rxRanks) c16, .slice A19 (List.length rxReply) c20, .slice A23 (List.length rxChoice) c24, .int .i64 rq, .slice A27 (List.length rrounds) c28, .bool rmade], .row true cS98 99 A27 c28 rrounds, .ro false cBool A3 raAccept, .ro false (cInt .i64) A7 raGuard, .ro false cNode A11 raNodes, .ro false (cInt .i64) A15 rxRanks, .ro false (cSl (cInt .u8)) A19 rxReply, .ro false (cInt .u8) A23 rxChoice]) (hP : play_Referee_Over N raProps raAccept raGuard raNodes rs rxWins rxRanks rxReply rxChoice rq rrounds rmade = some r) :
    Calls Try.prog 27 #[.pointer (some ⟨g1, 0, none⟩)] w0 fun e w' => ∃ v, e = .returned v ∧ (∃ (x_ : Bool), r = x_ ∧ v = .bool x_ ∧ Hp S Fa w0 w' [.row true cS98 99 A27 c28 rrounds, .box g1 74 [.int .i64 raProps, .slice A3 (List.length raAccept) c4, .slice A7 (List.length raGuard) c8, .slice A11 (List.length raNodes) c12, .int .u8 rs.1, .int .u8 rs.2, .bool rxWins, .slice A15 (List.length rxRanks) c16, .slice A19 (List.length rxReply) c20, .slice A23 (List.length rxChoice) c24, .int .i64 rq, .slice A27 (List.length rrounds) c28, .bool rmade]]) := by
 refine enterV (n := 19) Try.func27 rfl rfl rfl ?_
 intro a E
 replace E := E.pick [(0, .pointer (some ⟨g1, 0, none⟩))] ⟨rfl, trivial⟩
 rw [play_Referee_Over] at hP
 refine wp_seq ?_
 refine wp_region_lit ?_
 refine vr tbok 1 [] [(0, .pointer (some ⟨g1, 0, none⟩))] [] E (by kernel_rfl) trivial ?_
 clear E; intro a E
 refine wpList_nil ?_
 refine th_n ?_
 refine wp_seq ?_
 obtain ⟨r131, h132, hP⟩ := bind_inv hP
 by_cases h147 : r131 = true
 ·
  replace hP := ite_t h147 hP
  have HR151 := H
  refine dr_start (S := fun w_ => Chg (atL [.box g1 74 [.int .i64 raProps, .slice A3 (List.length raAccept) c4, .slice A7 (List.length raGuard) c8, .slice A11 (List.length raNodes) c12, .int .u8 rs.1, .int .u8 rs.2, .bool rxWins, .slice A15 (List.length rxRanks) c16, .slice A19 (List.length rxReply) c20, .slice A23 (List.length rxChoice) c24, .int .i64 rq, .slice A27 (List.length rrounds) c28, .bool rmade], .row true cS98 99 A27 c28 rrounds]) w0 w_) (by kernel_rfl) ?_
  intro w148 hc149
  have HS150 : Chg (atL [.box g1 74 [.int .i64 raProps, .slice A3 (List.length raAccept) c4, .slice A7 (List.length raGuard) c8, .slice A11 (List.length raNodes) c12, .int .u8 rs.1, .int .u8 rs.2, .bool rxWins, .slice A15 (List.length rxRanks) c16, .slice A19 (List.length rxReply) c20, .slice A23 (List.length rxChoice) c24, .int .i64 rq, .slice A27 (List.length rrounds) c28, .bool rmade], .row true cS98 99 A27 c28 rrounds]) w0 w148 := hc149.mono (fun _ _ h_ => h_.elim)
  replace H := H.ext hc149
  refine dr tbok (by kernel_rfl) [0] [] [(0, .pointer (some ⟨g1, 0, none⟩)), (3, .pointer (some ⟨g1, 0, none⟩))] (fun w_ => []) 16 E (fun _ _ => by kernel_rfl) (fun w_ hS_ => trivial) (by kernel_rfl) HS150 ?_
  clear E; intro a E
  refine wpAnyH_all (rs := [1]) (by kernel_rfl) (by simp) ?_
  refine all1 ?_
  ·
   refine wpOp_of_list rfl ?_
   obtain ⟨Fa152, Hc153, hb154⟩ := H.call [0, 1] [(2, false), (3, false), (4, false), (5, false), (6, false), (7, false)] rfl rfl ⟨flat_plain, trivial⟩
   refine e_call E rfl rfl Try.func60 rfl rfl rfl (play_Referee_none_calls g1 A3 c4 A7 c8 A11 c12 A15 c16 A19 c20 A23 c24 A27 c28 raProps raAccept raGuard raNodes (rs.1, rs.2) rxWins rxRanks rxReply rxChoice rq rrounds rmade hk5 hk9 hk13 hk17 hk21 hk25 Hc153 h132) ?_
   intro v160 w159 a hR161 E_
   obtain ⟨x_, hr_, rfl, HR163⟩ := hR161
   subst hr_
   replace E := E_ _ rfl; clear E_
   obtain ⟨H_, hc162⟩ := hb154 _ _ HR163 rfl
   replace HS150 := HS150.trans hc162 (fun k_ hk_ h_ => h_.elim (fun h_ => by have hs_ := HS150.size; exfalso; omega) (fun h_ => h_.elim (fun h_ => (fun _ _ h_ => Or.inl h_) k_ hk_ h_) (fun h_ => h_.elim (fun h_ => (fun _ _ h_ => Or.inr (Or.inl h_)) k_ hk_ h_) (fun h_ => h_.elim))))
   replace H := H_; clear H_; try dsimp only [setn, addE, goneL] at H
   refine wpList_nil ?_
   refine th_n ⟨HS150, ?_⟩
   refine dr tbok (by kernel_rfl) [2, 3] [] [(0, .pointer (some ⟨g1, 0, none⟩)), (6, .bool (!r131))] (fun w_ => []) 13 E (fun _ _ => by kernel_rfl) (fun w_ hS_ => trivial) (by kernel_rfl) HS150 ?_
   clear E; intro a E
   replace E := E.same (t := 6) (u := .bool false) rfl (congrArg Value.bool (not_t' (h147)))
   refine dr tbok (by kernel_rfl) [4, 5, 6, 7, 8, 9, 10, 11, 12, 13, 14, 15, 16] [] [(2, .bool false), (6, .bool false)] (fun w_ => []) 0 E (fun _ _ => by kernel_rfl) (fun w_ hS_ => trivial) (by kernel_rfl) HS150 ?_
   clear E; intro a E
   refine dr_done (by kernel_rfl) ?_
   clear HS150 HR151
   refine th_n ?_
   refine wp_ret ?_
   obtain rfl := Option.some.inj hP
   refine ret1 E rfl rfl ?_
   exact ⟨_, rfl, ⟨false, rfl, rfl, H.sel [8, 9] rfl⟩⟩
 ·
  replace hP := ite_f h147 hP
  obtain ⟨g166, hP⟩ := ask_inv hP
  obtain ⟨b167, o168, e_b167⟩ := (H.rd 2 rds_ro).addr (idx_pos g166)
  subst e_b167
  refine meet_cut (fun a w169 => Fr a 19 [(2, .bool (List.getD raAccept (Int.toNat rq) false))] ∧ Hp S Fa w0 w169 [.ro false cBool (some ⟨b167, o168, none⟩) raAccept, .ro false (cInt .i64) A7 raGuard, .ro false cNode A11 raNodes, .ro false (cInt .i64) A15 rxRanks, .ro false (cSl (cInt .u8)) A19 rxReply, .ro false (cInt .u8) A23 rxChoice, .row true cS98 99 A27 c28 rrounds, .box g1 74 [.int .i64 raProps, .slice (some ⟨b167, o168, none⟩) (List.length raAccept) c4, .slice A7 (List.length raGuard) c8, .slice A11 (List.length raNodes) c12, .int .u8 rs.1, .int .u8 rs.2, .bool rxWins, .slice A15 (List.length rxRanks) c16, .slice A19 (List.length rxReply) c20, .slice A23 (List.length rxChoice) c24, .int .i64 rq, .slice A27 (List.length rrounds) c28, .bool rmade]]) ?_ ?_
  ·
   have HR173 := H
   refine dr_start (S := fun w_ => Chg (atL [.box g1 74 [.int .i64 raProps, .slice (some ⟨b167, o168, none⟩) (List.length raAccept) c4, .slice A7 (List.length raGuard) c8, .slice A11 (List.length raNodes) c12, .int .u8 rs.1, .int .u8 rs.2, .bool rxWins, .slice A15 (List.length rxRanks) c16, .slice A19 (List.length rxReply) c20, .slice A23 (List.length rxChoice) c24, .int .i64 rq, .slice A27 (List.length rrounds) c28, .bool rmade], .row true cS98 99 A27 c28 rrounds]) w0 w_) (by kernel_rfl) ?_
   intro w170 hc171
   have HS172 : Chg (atL [.box g1 74 [.int .i64 raProps, .slice (some ⟨b167, o168, none⟩) (List.length raAccept) c4, .slice A7 (List.length raGuard) c8, .slice A11 (List.length raNodes) c12, .int .u8 rs.1, .int .u8 rs.2, .bool rxWins, .slice A15 (List.length rxRanks) c16, .slice A19 (List.length rxReply) c20, .slice A23 (List.length rxChoice) c24, .int .i64 rq, .slice A27 (List.length rrounds) c28, .bool rmade], .row true cS98 99 A27 c28 rrounds]) w0 w170 := hc171.mono (fun _ _ h_ => h_.elim)
   replace H := H.ext hc171
   refine dr tbok (by kernel_rfl) [0] [] [(0, .pointer (some ⟨g1, 0, none⟩)), (3, .pointer (some ⟨g1, 0, none⟩))] (fun w_ => []) 16 E (fun _ _ => by kernel_rfl) (fun w_ hS_ => trivial) (by kernel_rfl) HS172 ?_
   clear E; intro a E
   refine wpAnyH_all (rs := [1]) (by kernel_rfl) (by simp) ?_
   refine all1 ?_
   ·
    refine wpOp_of_list rfl ?_
    obtain ⟨Fa174, Hc175, hb176⟩ := H.call [0, 1] [(2, false), (3, false), (4, false), (5, false), (6, false), (7, false)] rfl rfl ⟨flat_plain, trivial⟩
    refine e_call E rfl rfl Try.func60 rfl rfl rfl (play_Referee_none_calls g1 (some ⟨b167, o168, none⟩) c4 A7 c8 A11 c12 A15 c16 A19 c20 A23 c24 A27 c28 raProps raAccept raGuard raNodes (rs.1, rs.2) rxWins rxRanks rxReply rxChoice rq rrounds rmade hk5 hk9 hk13 hk17 hk21 hk25 Hc175 h132) ?_
    intro v182 w181 a hR183 E_
    obtain ⟨x_, hr_, rfl, HR185⟩ := hR183
    subst hr_
    replace E := E_ _ rfl; clear E_
    obtain ⟨H_, hc184⟩ := hb176 _ _ HR185 rfl
    replace HS172 := HS172.trans hc184 (fun k_ hk_ h_ => h_.elim (fun h_ => by have hs_ := HS172.size; exfalso; omega) (fun h_ => h_.elim (fun h_ => (fun _ _ h_ => Or.inl h_) k_ hk_ h_) (fun h_ => h_.elim (fun h_ => (fun _ _ h_ => Or.inr (Or.inl h_)) k_ hk_ h_) (fun h_ => h_.elim))))
    replace H := H_; clear H_; try dsimp only [setn, addE, goneL] at H
    refine wpList_nil ?_
    refine th_n ⟨HS172, ?_⟩
    refine dr tbok (by kernel_rfl) [2, 3] [] [(0, .pointer (some ⟨g1, 0, none⟩)), (6, .bool (!r131))] (fun w_ => []) 13 E (fun _ _ => by kernel_rfl) (fun w_ hS_ => trivial) (by kernel_rfl) HS172 ?_
    clear E; intro a E
    replace E := E.same (t := 6) (u := .bool true) rfl (congrArg Value.bool (not_f' ((eq_false_of_ne_true h147))))
    refine dr tbok (by kernel_rfl) [4, 5, 6, 7, 9, 10, 11] [] [(6, .bool true), (10, .pointer (some ⟨g1, 1, none⟩)), (14, .pointer (some ⟨g1, 10, none⟩))] (fun w_ => []) 6 E (fun _ _ => by kernel_rfl) (fun w_ hS_ => trivial) (by kernel_rfl) HS172 ?_
    clear E; intro a E
    refine wpAnyH_all (rs := [8, 12]) (by kernel_rfl) (by simp) ?_
    refine all2 ?_ ?_
    ·
     refine wpOp_of_list rfl ?_
     refine vr tbok 1 [.slice (some ⟨b167, o168, none⟩) (List.length raAccept) c4] [(6, .bool true), (10, .pointer (some ⟨g1, 1, none⟩)), (11, .slice (some ⟨b167, o168, none⟩) (List.length raAccept) c4), (14, .pointer (some ⟨g1, 10, none⟩))] [World.cell? w181 ⟨g1, 1, none⟩ = some (.slice (some ⟨b167, o168, none⟩) (List.length raAccept) c4)] E (by kernel_rfl) ((H.box 9 rfl).cell (j := 1) rfl) ?_
     clear E; intro a E
     refine wpList_nil ?_
     refine th_n ⟨HS172, ?_⟩
     refine wpAnyH_all (rs := [12]) (by kernel_rfl) (by simp) ?_
     refine all1 ?_
     ·
      refine wpOp_of_list rfl ?_
      refine vr tbok 1 [.int .i64 rq] [(6, .bool true), (11, .slice (some ⟨b167, o168, none⟩) (List.length raAccept) c4), (14, .pointer (some ⟨g1, 10, none⟩)), (15, .int .i64 rq)] [World.cell? w181 ⟨g1, 10, none⟩ = some (.int .i64 rq)] E (by kernel_rfl) ((H.box 9 rfl).cell (j := 10) rfl) ?_
      clear E; intro a E
      refine wpList_nil ?_
      refine th_n ⟨HS172, ?_⟩
      refine dr tbok (by kernel_rfl) [13, 14, 15, 16] [.bool (List.getD raAccept (Int.toNat rq) false)] [(2, .bool (List.getD raAccept (Int.toNat rq) false)), (6, .bool true)] (fun w_ => [0 ≤ rq ∧ rq < (((List.length raAccept) : Nat) : Int), World.cell? w_ ⟨b167, o168 + (Int.toNat rq) * 1, none⟩ = some (.bool (List.getD raAccept (Int.toNat rq) false))]) 0 E (fun _ _ => by kernel_rfl) (fun w_ hS_ => ⟨g166, Rds.at1 (HR173.rdk [0, 1] hS_ 2 rds_ro rfl) false g166⟩) (by kernel_rfl) HS172 ?_
      clear E; intro a E
      refine dr_done (by kernel_rfl) ?_
      exact .inl ⟨rfl, E.pick _ ⟨rfl, trivial⟩, H.sel [2, 3, 4, 5, 6, 7, 8, 9] rfl⟩
    ·
     refine wpOp_of_list rfl ?_
     refine vr tbok 1 [.int .i64 rq] [(6, .bool true), (10, .pointer (some ⟨g1, 1, none⟩)), (14, .pointer (some ⟨g1, 10, none⟩)), (15, .int .i64 rq)] [World.cell? w181 ⟨g1, 10, none⟩ = some (.int .i64 rq)] E (by kernel_rfl) ((H.box 9 rfl).cell (j := 10) rfl) ?_
     clear E; intro a E
     refine wpList_nil ?_
     refine th_n ⟨HS172, ?_⟩
     refine wpAnyH_all (rs := [8]) (by kernel_rfl) (by simp) ?_
     refine all1 ?_
     ·
      refine wpOp_of_list rfl ?_
      refine vr tbok 1 [.slice (some ⟨b167, o168, none⟩) (List.length raAccept) c4] [(6, .bool true), (10, .pointer (some ⟨g1, 1, none⟩)), (11, .slice (some ⟨b167, o168, none⟩) (List.length raAccept) c4), (15, .int .i64 rq)] [World.cell? w181 ⟨g1, 1, none⟩ = some (.slice (some ⟨b167, o168, none⟩) (List.length raAccept) c4)] E (by kernel_rfl) ((H.box 9 rfl).cell (j := 1) rfl) ?_
      clear E; intro a E
      refine wpList_nil ?_
      refine th_n ⟨HS172, ?_⟩
      refine dr tbok (by kernel_rfl) [13, 14, 15, 16] [.bool (List.getD raAccept (Int.toNat rq) false)] [(2, .bool (List.getD raAccept (Int.toNat rq) false)), (6, .bool true)] (fun w_ => [0 ≤ rq ∧ rq < (((List.length raAccept) : Nat) : Int), World.cell? w_ ⟨b167, o168 + (Int.toNat rq) * 1, none⟩ = some (.bool (List.getD raAccept (Int.toNat rq) false))]) 0 E (fun _ _ => by kernel_rfl) (fun w_ hS_ => ⟨g166, Rds.at1 (HR173.rdk [0, 1] hS_ 2 rds_ro rfl) false g166⟩) (by kernel_rfl) HS172 ?_
      clear E; intro a E
      refine dr_done (by kernel_rfl) ?_
      exact .inl ⟨rfl, E.pick _ ⟨rfl, trivial⟩, H.sel [2, 3, 4, 5, 6, 7, 8, 9] rfl⟩
  ·
   clear E H; rintro a w169 ⟨E, H⟩
   refine th_n ?_
   refine wp_ret ?_
   obtain rfl := Option.some.inj hP
   refine ret1 E rfl rfl ?_
   exact ⟨_, rfl, ⟨(List.getD raAccept (Int.toNat rq) false), rfl, rfl, H.sel [6, 7] rfl⟩⟩

/-! slices.Reverse[[]rejoinder/api.Letter,rejoinder/api.Letter] -/
def slices_Reverse_api_Letter_api_Letter_l0 (N : Nat) : Nat → (List Int) → Int → Int → Option (List Int)
  | 0, _, _, _ => none
  | m45 + 1, s19, i23, j24 =>
    if i23 < j24 then
      ask (idx j24 (List.length s19)) <|
      ask (idx i23 (List.length s19)) <|
      ask (idx j24 (List.length (List.set s19 (Int.toNat i23) (List.getD s19 (Int.toNat j24) 0)))) <|
      ask (in64 (i23 + 1)) <|
      ask (in64 (j24 - 1)) <|
      slices_Reverse_api_Letter_api_Letter_l0 N m45 (List.set (List.set s19 (Int.toNat i23) (List.getD s19 (Int.toNat j24) 0)) (Int.toNat j24) (List.getD s19 (Int.toNat i23) 0)) (i23 + 1) (j24 - 1)
    else
      some s19
def slices_Reverse_api_Letter_api_Letter (N : Nat) (s : List Int) : Option (List Int) :=
  ask (in64 ((((List.length s) : Nat) : Int) - 1)) <|
  Option.bind (slices_Reverse_api_Letter_api_Letter_l0 N N s 0 ((((List.length s) : Nat) : Int) - 1)) fun x46 =>
  some x46
set_option maxRecDepth 100000 in
set_option maxHeartbeats 4000000 in
theorem slices_Reverse_api_Letter_api_Letter_calls {N : Nat} {S Fa : Nat → Prop} {w0 : World} {r : List Int} (A1 : Option Addr) (c2 : Nat) (s : List Int) (H : Hp S Fa w0 w0 [.row true (cInt .u8) 27 A1 c2 s]) (hP : slices_Reverse_api_Letter_api_Letter N s = some r) :
    Calls Try.prog 93 #[.slice A1 (List.length s) c2] w0 fun e w' => ∃ v, e = .returned v ∧ v = .tuple #[] ∧ List.length r = List.length s ∧ Hp S Fa w0 w' [.row true (cInt .u8) 27 A1 c2 r] := by
 refine enterV (n := 28) Try.func93 rfl rfl rfl ?_
 intro a E
 replace E := E.pick [(0, .slice A1 (List.length s) c2)] ⟨rfl, trivial⟩
 rw [slices_Reverse_api_Letter_api_Letter] at hP
 refine wp_seq ?_
 refine wp_region_lit ?_
 obtain ⟨g4, hP⟩ := ask_inv hP
 refine vr tbok 5 [.int .i64 ((((List.length s) : Nat) : Int) - 1)] [(0, .slice A1 (List.length s) c2), (2, .int .i64 0), (3, .int .i64 ((((List.length s) : Nat) : Int) - 1))] [IntKind.i64.wrap ((((List.length s) : Nat) : Int) - 1) = (((List.length s) : Nat) : Int) - 1] E (by kernel_rfl) (wrap_in g4) ?_
 clear E; intro a E
 refine wpList_nil ?_
 refine th_n ?_
 refine wp_block ?_
 obtain ⟨x46, hL47, hK48⟩ := bind_inv hP
 clear hP
 refine loop_cut (fun i_ a w_ => (i_ = 0 ∧ ∃ (x51 : List Int), Fr a 28 [] ∧ Hp S Fa w0 w_ [.row true (cInt .u8) 27 A1 c2 x51] ∧ List.length x51 = List.length s ∧ x46 = x51)) ?_ ?_
 ·
  refine loopV (fun m50 a w49 => ∃ (s19 : List Int) (i23 : Int) (j24 : Int), Fr a 28 [(0, .slice A1 (List.length s19) c2), (2, .int .i64 i23), (3, .int .i64 j24)] ∧ Hp S Fa w0 w49 [.row true (cInt .u8) 27 A1 c2 s19] ∧ List.length s19 = List.length s ∧ slices_Reverse_api_Letter_api_Letter_l0 N m50 s19 i23 j24 = some x46) N ?_ ?_
  ·
   exact ⟨s, 0, (((List.length s) : Nat) : Int) - 1, E.pick _ ⟨rfl, rfl, rfl, trivial⟩, H.sel [0] rfl, rfl, hL47⟩
  ·
   clear E H hL47; intro m50 a w49 hI_
   obtain ⟨s19, i23, j24, E, H, hl22, hP⟩ := hI_
   obtain ⟨m45, rfl⟩ : ∃ q_, m50 = q_ + 1 := by cases m50 with | zero => rw [slices_Reverse_api_Letter_api_Letter_l0] at hP; cases hP | succ q_ => exact ⟨q_, rfl⟩
   rw [slices_Reverse_api_Letter_api_Letter_l0] at hP
   refine wp_seq ?_
   refine wp_seq ?_
   refine wp_region_lit ?_
   refine vr tbok 3 [] [(0, .slice A1 (List.length s19) c2), (2, .int .i64 i23), (3, .int .i64 j24), (9, .bool (decide (i23 < j24)))] [] E (by kernel_rfl) trivial ?_
   clear E; intro a E
   refine wpList_nil ?_
   refine th_n ?_
   refine E.cases (t := 9) rfl (fun hb_ E_ => ?_) (fun hb_ E_ => ?_)
   ·
    replace E := E_; clear E_
    have h52 : i23 < j24 := of_decide_eq_true hb_
    clear hb_; replace hP := ite_t h52 hP
    refine c_true E rfl ?_
    refine wp_skip ?_
    refine th_n ?_
    refine wp_seq ?_
    refine wp_block ?_
    obtain ⟨g53, hP⟩ := ask_inv hP
    obtain ⟨b54, e_b54⟩ := H.raddr 0 rfl (idx_pos g53)
    subst e_b54
    obtain ⟨g56, hP⟩ := ask_inv hP
    obtain ⟨g60, hP⟩ := ask_inv hP
    refine meet_cut (fun a w64 => Fr a 28 [(0, .slice (some ⟨b54, 0, none⟩) (List.length (List.set (List.set s19 (Int.toNat i23) (List.getD s19 (Int.toNat j24) 0)) (Int.toNat j24) (List.getD s19 (Int.toNat i23) 0))) c2), (2, .int .i64 i23), (3, .int .i64 j24)] ∧ Hp S Fa w0 w64 [.row true (cInt .u8) 27 (some ⟨b54, 0, none⟩) c2 (List.set (List.set s19 (Int.toNat i23) (List.getD s19 (Int.toNat j24) 0)) (Int.toNat j24) (List.getD s19 (Int.toNat i23) 0))]) ?_ ?_
    ·
     have HR68 := H
     refine dr_start (S := fun w_ => Chg (atL [.row true (cInt .u8) 27 (some ⟨b54, 0, none⟩) c2 s19]) w49 w_) (by kernel_rfl) ?_
     intro w65 hc66
     have HS67 : Chg (atL [.row true (cInt .u8) 27 (some ⟨b54, 0, none⟩) c2 s19]) w49 w65 := hc66.mono (fun _ _ h_ => h_.elim)
     replace H := H.ext hc66
     refine dr tbok (by kernel_rfl) [0, 1, 2, 3, 4, 5, 8, 9] [] [(0, .slice (some ⟨b54, 0, none⟩) (List.length s19) c2), (2, .int .i64 i23), (3, .int .i64 j24), (14, .slice (some ⟨b54, 0, none⟩) (List.length s19) c2), (15, .int .i64 i23), (16, .slice (some ⟨b54, 0, none⟩) (List.length s19) c2), (17, .int .i64 j24), (18, .slice (some ⟨b54, 0, none⟩) (List.length s19) c2), (19, .int .i64 j24), (22, .slice (some ⟨b54, 0, none⟩) (List.length s19) c2), (23, .int .i64 i23)] (fun w_ => []) 8 E (fun _ _ => by kernel_rfl) (fun w_ hS_ => trivial) (by kernel_rfl) HS67 ?_
     clear E; intro a E
     refine wpAnyH_all (rs := [6, 10]) (by kernel_rfl) (by simp) ?_
     refine all2 ?_ ?_
     ·
      refine wpOp_of_list rfl ?_
      refine vr tbok 1 [] [(0, .slice (some ⟨b54, 0, none⟩) (List.length s19) c2), (2, .int .i64 i23), (3, .int .i64 j24), (14, .slice (some ⟨b54, 0, none⟩) (List.length s19) c2), (15, .int .i64 i23), (16, .slice (some ⟨b54, 0, none⟩) (List.length s19) c2), (17, .int .i64 j24), (18, .slice (some ⟨b54, 0, none⟩) (List.length s19) c2), (19, .int .i64 j24), (20, .pointer (some ⟨b54, 0 + (Int.toNat j24) * 1, none⟩)), (22, .slice (some ⟨b54, 0, none⟩) (List.length s19) c2), (23, .int .i64 i23)] [0 ≤ j24 ∧ j24 < (((List.length s19) : Nat) : Int)] E (by kernel_rfl) (g53) ?_
      clear E; intro a E
      refine wpList_nil ?_
      refine th_n ⟨HS67, ?_⟩
      refine wpAnyH_all (rs := [7, 10]) (by kernel_rfl) (by simp) ?_
      refine all2 ?_ ?_
      ·
       refine wpOp_of_list rfl ?_
       refine vr tbok 1 [.int .u8 (List.getD s19 (Int.toNat j24) 0)] [(0, .slice (some ⟨b54, 0, none⟩) (List.length s19) c2), (2, .int .i64 i23), (3, .int .i64 j24), (14, .slice (some ⟨b54, 0, none⟩) (List.length s19) c2), (15, .int .i64 i23), (16, .slice (some ⟨b54, 0, none⟩) (List.length s19) c2), (17, .int .i64 j24), (20, .pointer (some ⟨b54, 0 + (Int.toNat j24) * 1, none⟩)), (21, .int .u8 (List.getD s19 (Int.toNat j24) 0)), (22, .slice (some ⟨b54, 0, none⟩) (List.length s19) c2), (23, .int .i64 i23)] [World.cell? w65 ⟨b54, 0 + (Int.toNat j24) * 1, none⟩ = some (.int .u8 (List.getD s19 (Int.toNat j24) 0))] E (by kernel_rfl) (Rds.at1 (H.rd 0 rds_row) 0 g53) ?_
       clear E; intro a E
       refine wpList_nil ?_
       refine th_n ⟨HS67, ?_⟩
       refine wpAnyH_all (rs := [10]) (by kernel_rfl) (by simp) ?_
       refine all1 ?_
       ·
        refine wpOp_of_list rfl ?_
        refine vr tbok 1 [] [(0, .slice (some ⟨b54, 0, none⟩) (List.length s19) c2), (2, .int .i64 i23), (3, .int .i64 j24), (14, .slice (some ⟨b54, 0, none⟩) (List.length s19) c2), (15, .int .i64 i23), (16, .slice (some ⟨b54, 0, none⟩) (List.length s19) c2), (17, .int .i64 j24), (21, .int .u8 (List.getD s19 (Int.toNat j24) 0)), (22, .slice (some ⟨b54, 0, none⟩) (List.length s19) c2), (23, .int .i64 i23), (24, .pointer (some ⟨b54, 0 + (Int.toNat i23) * 1, none⟩))] [0 ≤ i23 ∧ i23 < (((List.length s19) : Nat) : Int)] E (by kernel_rfl) (g56) ?_
        clear E; intro a E
        refine wpList_nil ?_
        refine th_n ⟨HS67, ?_⟩
        refine wpAnyH_all (rs := [11]) (by kernel_rfl) (by simp) ?_
        refine all1 ?_
        ·
         refine wpOp_of_list rfl ?_
         refine vr tbok 1 [.int .u8 (List.getD s19 (Int.toNat i23) 0)] [(0, .slice (some ⟨b54, 0, none⟩) (List.length s19) c2), (2, .int .i64 i23), (3, .int .i64 j24), (14, .slice (some ⟨b54, 0, none⟩) (List.length s19) c2), (15, .int .i64 i23), (16, .slice (some ⟨b54, 0, none⟩) (List.length s19) c2), (17, .int .i64 j24), (21, .int .u8 (List.getD s19 (Int.toNat j24) 0)), (24, .pointer (some ⟨b54, 0 + (Int.toNat i23) * 1, none⟩)), (25, .int .u8 (List.getD s19 (Int.toNat i23) 0))] [World.cell? w65 ⟨b54, 0 + (Int.toNat i23) * 1, none⟩ = some (.int .u8 (List.getD s19 (Int.toNat i23) 0))] E (by kernel_rfl) (Rds.at1 (H.rd 0 rds_row) 0 g56) ?_
         clear E; intro a E
         refine wpList_nil ?_
         refine th_n ⟨HS67, ?_⟩
         refine wpAnyH_all (rs := [12]) (by kernel_rfl) (by simp) ?_
         refine all1 ?_
         ·
          refine wpOp_of_list rfl ?_
          refine vr tbok 1 [] [(0, .slice (some ⟨b54, 0, none⟩) (List.length s19) c2), (2, .int .i64 i23), (3, .int .i64 j24), (14, .slice (some ⟨b54, 0, none⟩) (List.length s19) c2), (15, .int .i64 i23), (16, .slice (some ⟨b54, 0, none⟩) (List.length s19) c2), (17, .int .i64 j24), (21, .int .u8 (List.getD s19 (Int.toNat j24) 0)), (25, .int .u8 (List.getD s19 (Int.toNat i23) 0)), (26, .pointer (some ⟨b54, 0 + (Int.toNat i23) * 1, none⟩))] [0 ≤ i23 ∧ i23 < (((List.length s19) : Nat) : Int)] E (by kernel_rfl) (g56) ?_
          clear E; intro a E
          refine wpList_nil ?_
          refine th_n ⟨HS67, ?_⟩
          refine wpAnyH_all (rs := [13]) (by kernel_rfl) (by simp) ?_
          refine all1 ?_
          ·
           refine wpOp_of_list rfl ?_
           refine h_set (g := b54) (i := i23) (List.getD s19 (Int.toNat j24) 0) H 0 rfl E rfl rfl rfl rfl tbok rfl (fun _ HF_ => rfl) rfl g56 rfl ?_
           clear E; intro w69 a hc70 H_ E
           replace HS67 := HS67.trans hc70 (fun k_ hk_ h_ => (fun _ _ h_ => Or.inl h_) k_ hk_ h_)
           replace H := H_; clear H_; try dsimp only [setn, addE, goneL] at H
           have hn71 : (List.length s19) = (List.length (List.set s19 (Int.toNat i23) (List.getD s19 (Int.toNat j24) 0))) := by simp only [List.length_set]
           replace E := E.same (t := 0) (u := .slice (some ⟨b54, 0, none⟩) (List.length (List.set s19 (Int.toNat i23) (List.getD s19 (Int.toNat j24) 0))) c2) rfl (congrArg (fun n_ => Value.slice (some ⟨b54, 0, none⟩) n_ c2) hn71)
           replace E := E.same (t := 14) (u := .slice (some ⟨b54, 0, none⟩) (List.length (List.set s19 (Int.toNat i23) (List.getD s19 (Int.toNat j24) 0))) c2) rfl (congrArg (fun n_ => Value.slice (some ⟨b54, 0, none⟩) n_ c2) hn71)
           replace E := E.same (t := 16) (u := .slice (some ⟨b54, 0, none⟩) (List.length (List.set s19 (Int.toNat i23) (List.getD s19 (Int.toNat j24) 0))) c2) rfl (congrArg (fun n_ => Value.slice (some ⟨b54, 0, none⟩) n_ c2) hn71)
           refine wpList_nil ?_
           refine th_n ⟨HS67, ?_⟩
           refine wpAnyH_all (rs := [14]) (by kernel_rfl) (by simp) ?_
           refine all1 ?_
           ·
            refine wpOp_of_list rfl ?_
            refine vr tbok 1 [] [(0, .slice (some ⟨b54, 0, none⟩) (List.length (List.set s19 (Int.toNat i23) (List.getD s19 (Int.toNat j24) 0))) c2), (2, .int .i64 i23), (3, .int .i64 j24), (16, .slice (some ⟨b54, 0, none⟩) (List.length (List.set s19 (Int.toNat i23) (List.getD s19 (Int.toNat j24) 0))) c2), (17, .int .i64 j24), (25, .int .u8 (List.getD s19 (Int.toNat i23) 0)), (27, .pointer (some ⟨b54, 0 + (Int.toNat j24) * 1, none⟩))] [0 ≤ j24 ∧ j24 < (((List.length (List.set s19 (Int.toNat i23) (List.getD s19 (Int.toNat j24) 0))) : Nat) : Int)] E (by kernel_rfl) (g60) ?_
            clear E; intro a E
            refine wpList_nil ?_
            refine th_n ⟨HS67, ?_⟩
            refine wpAnyH_all (rs := [15]) (by kernel_rfl) (by simp) ?_
            refine all1 ?_
            ·
             refine wpOp_of_list rfl ?_
             refine h_set (g := b54) (i := j24) (List.getD s19 (Int.toNat i23) 0) H 0 rfl E rfl rfl rfl rfl tbok rfl (fun _ HF_ => rfl) rfl g60 rfl ?_
             clear E; intro w72 a hc73 H_ E
             replace HS67 := HS67.trans hc73 (fun k_ hk_ h_ => (fun _ _ h_ => Or.inl h_) k_ hk_ h_)
             replace H := H_; clear H_; try dsimp only [setn, addE, goneL] at H
             have hn74 : (List.length (List.set s19 (Int.toNat i23) (List.getD s19 (Int.toNat j24) 0))) = (List.length (List.set (List.set s19 (Int.toNat i23) (List.getD s19 (Int.toNat j24) 0)) (Int.toNat j24) (List.getD s19 (Int.toNat i23) 0))) := by simp only [List.length_set]
             replace E := E.same (t := 0) (u := .slice (some ⟨b54, 0, none⟩) (List.length (List.set (List.set s19 (Int.toNat i23) (List.getD s19 (Int.toNat j24) 0)) (Int.toNat j24) (List.getD s19 (Int.toNat i23) 0))) c2) rfl (congrArg (fun n_ => Value.slice (some ⟨b54, 0, none⟩) n_ c2) hn74)
             replace E := E.same (t := 16) (u := .slice (some ⟨b54, 0, none⟩) (List.length (List.set (List.set s19 (Int.toNat i23) (List.getD s19 (Int.toNat j24) 0)) (Int.toNat j24) (List.getD s19 (Int.toNat i23) 0))) c2) rfl (congrArg (fun n_ => Value.slice (some ⟨b54, 0, none⟩) n_ c2) hn74)
             refine wpList_nil ?_
             refine th_n ⟨HS67, ?_⟩
             refine dr_done (by kernel_rfl) ?_
             exact .inl ⟨rfl, E.pick _ ⟨rfl, rfl, rfl, trivial⟩, H.sel [0] rfl⟩
      ·
       refine wpOp_of_list rfl ?_
       refine vr tbok 1 [] [(0, .slice (some ⟨b54, 0, none⟩) (List.length s19) c2), (2, .int .i64 i23), (3, .int .i64 j24), (14, .slice (some ⟨b54, 0, none⟩) (List.length s19) c2), (15, .int .i64 i23), (16, .slice (some ⟨b54, 0, none⟩) (List.length s19) c2), (17, .int .i64 j24), (20, .pointer (some ⟨b54, 0 + (Int.toNat j24) * 1, none⟩)), (22, .slice (some ⟨b54, 0, none⟩) (List.length s19) c2), (23, .int .i64 i23), (24, .pointer (some ⟨b54, 0 + (Int.toNat i23) * 1, none⟩))] [0 ≤ i23 ∧ i23 < (((List.length s19) : Nat) : Int)] E (by kernel_rfl) (g56) ?_
       clear E; intro a E
       refine wpList_nil ?_
       refine th_n ⟨HS67, ?_⟩
       refine wpAnyH_all (rs := [7, 11]) (by kernel_rfl) (by simp) ?_
       refine all2 ?_ ?_
       ·
        refine wpOp_of_list rfl ?_
        refine vr tbok 1 [.int .u8 (List.getD s19 (Int.toNat j24) 0)] [(0, .slice (some ⟨b54, 0, none⟩) (List.length s19) c2), (2, .int .i64 i23), (3, .int .i64 j24), (14, .slice (some ⟨b54, 0, none⟩) (List.length s19) c2), (15, .int .i64 i23), (16, .slice (some ⟨b54, 0, none⟩) (List.length s19) c2), (17, .int .i64 j24), (20, .pointer (some ⟨b54, 0 + (Int.toNat j24) * 1, none⟩)), (21, .int .u8 (List.getD s19 (Int.toNat j24) 0)), (24, .pointer (some ⟨b54, 0 + (Int.toNat i23) * 1, none⟩))] [World.cell? w65 ⟨b54, 0 + (Int.toNat j24) * 1, none⟩ = some (.int .u8 (List.getD s19 (Int.toNat j24) 0))] E (by kernel_rfl) (Rds.at1 (H.rd 0 rds_row) 0 g53) ?_
        clear E; intro a E
        refine wpList_nil ?_
        refine th_n ⟨HS67, ?_⟩
        refine wpAnyH_all (rs := [11]) (by kernel_rfl) (by simp) ?_
        refine all1 ?_
        ·
         refine wpOp_of_list rfl ?_
         refine vr tbok 1 [.int .u8 (List.getD s19 (Int.toNat i23) 0)] [(0, .slice (some ⟨b54, 0, none⟩) (List.length s19) c2), (2, .int .i64 i23), (3, .int .i64 j24), (14, .slice (some ⟨b54, 0, none⟩) (List.length s19) c2), (15, .int .i64 i23), (16, .slice (some ⟨b54, 0, none⟩) (List.length s19) c2), (17, .int .i64 j24), (21, .int .u8 (List.getD s19 (Int.toNat j24) 0)), (24, .pointer (some ⟨b54, 0 + (Int.toNat i23) * 1, none⟩)), (25, .int .u8 (List.getD s19 (Int.toNat i23) 0))] [World.cell? w65 ⟨b54, 0 + (Int.toNat i23) * 1, none⟩ = some (.int .u8 (List.getD s19 (Int.toNat i23) 0))] E (by kernel_rfl) (Rds.at1 (H.rd 0 rds_row) 0 g56) ?_
         clear E; intro a E
         refine wpList_nil ?_
         refine th_n ⟨HS67, ?_⟩
         refine wpAnyH_all (rs := [12]) (by kernel_rfl) (by simp) ?_
         refine all1 ?_
         ·
          refine wpOp_of_list rfl ?_
          refine vr tbok 1 [] [(0, .slice (some ⟨b54, 0, none⟩) (List.length s19) c2), (2, .int .i64 i23), (3, .int .i64 j24), (14, .slice (some ⟨b54, 0, none⟩) (List.length s19) c2), (15, .int .i64 i23), (16, .slice (some ⟨b54, 0, none⟩) (List.length s19) c2), (17, .int .i64 j24), (21, .int .u8 (List.getD s19 (Int.toNat j24) 0)), (25, .int .u8 (List.getD s19 (Int.toNat i23) 0)), (26, .pointer (some ⟨b54, 0 + (Int.toNat i23) * 1, none⟩))] [0 ≤ i23 ∧ i23 < (((List.length s19) : Nat) : Int)] E (by kernel_rfl) (g56) ?_
          clear E; intro a E
          refine wpList_nil ?_
          refine th_n ⟨HS67, ?_⟩
          refine wpAnyH_all (rs := [13]) (by kernel_rfl) (by simp) ?_
          refine all1 ?_
          ·
           refine wpOp_of_list rfl ?_
           refine h_set (g := b54) (i := i23) (List.getD s19 (Int.toNat j24) 0) H 0 rfl E rfl rfl rfl rfl tbok rfl (fun _ HF_ => rfl) rfl g56 rfl ?_
           clear E; intro w75 a hc76 H_ E
           replace HS67 := HS67.trans hc76 (fun k_ hk_ h_ => (fun _ _ h_ => Or.inl h_) k_ hk_ h_)
           replace H := H_; clear H_; try dsimp only [setn, addE, goneL] at H
           have hn77 : (List.length s19) = (List.length (List.set s19 (Int.toNat i23) (List.getD s19 (Int.toNat j24) 0))) := by simp only [List.length_set]
           replace E := E.same (t := 0) (u := .slice (some ⟨b54, 0, none⟩) (List.length (List.set s19 (Int.toNat i23) (List.getD s19 (Int.toNat j24) 0))) c2) rfl (congrArg (fun n_ => Value.slice (some ⟨b54, 0, none⟩) n_ c2) hn77)
           replace E := E.same (t := 14) (u := .slice (some ⟨b54, 0, none⟩) (List.length (List.set s19 (Int.toNat i23) (List.getD s19 (Int.toNat j24) 0))) c2) rfl (congrArg (fun n_ => Value.slice (some ⟨b54, 0, none⟩) n_ c2) hn77)
           replace E := E.same (t := 16) (u := .slice (some ⟨b54, 0, none⟩) (List.length (List.set s19 (Int.toNat i23) (List.getD s19 (Int.toNat j24) 0))) c2) rfl (congrArg (fun n_ => Value.slice (some ⟨b54, 0, none⟩) n_ c2) hn77)
           refine wpList_nil ?_
           refine th_n ⟨HS67, ?_⟩
           refine wpAnyH_all (rs := [14]) (by kernel_rfl) (by simp) ?_
           refine all1 ?_
           ·
            refine wpOp_of_list rfl ?_
            refine vr tbok 1 [] [(0, .slice (some ⟨b54, 0, none⟩) (List.length (List.set s19 (Int.toNat i23) (List.getD s19 (Int.toNat j24) 0))) c2), (2, .int .i64 i23), (3, .int .i64 j24), (16, .slice (some ⟨b54, 0, none⟩) (List.length (List.set s19 (Int.toNat i23) (List.getD s19 (Int.toNat j24) 0))) c2), (17, .int .i64 j24), (25, .int .u8 (List.getD s19 (Int.toNat i23) 0)), (27, .pointer (some ⟨b54, 0 + (Int.toNat j24) * 1, none⟩))] [0 ≤ j24 ∧ j24 < (((List.length (List.set s19 (Int.toNat i23) (List.getD s19 (Int.toNat j24) 0))) : Nat) : Int)] E (by kernel_rfl) (g60) ?_
            clear E; intro a E
            refine wpList_nil ?_
            refine th_n ⟨HS67, ?_⟩
            refine wpAnyH_all (rs := [15]) (by kernel_rfl) (by simp) ?_
            refine all1 ?_
            ·
             refine wpOp_of_list rfl ?_
             refine h_set (g := b54) (i := j24) (List.getD s19 (Int.toNat i23) 0) H 0 rfl E rfl rfl rfl rfl tbok rfl (fun _ HF_ => rfl) rfl g60 rfl ?_
             clear E; intro w78 a hc79 H_ E
             replace HS67 := HS67.trans hc79 (fun k_ hk_ h_ => (fun _ _ h_ => Or.inl h_) k_ hk_ h_)
             replace H := H_; clear H_; try dsimp only [setn, addE, goneL] at H
             have hn80 : (List.length (List.set s19 (Int.toNat i23) (List.getD s19 (Int.toNat j24) 0))) = (List.length (List.set (List.set s19 (Int.toNat i23) (List.getD s19 (Int.toNat j24) 0)) (Int.toNat j24) (List.getD s19 (Int.toNat i23) 0))) := by simp only [List.length_set]
             replace E := E.same (t := 0) (u := .slice (some ⟨b54, 0, none⟩) (List.length (List.set (List.set s19 (Int.toNat i23) (List.getD s19 (Int.toNat j24) 0)) (Int.toNat j24) (List.getD s19 (Int.toNat i23) 0))) c2) rfl (congrArg (fun n_ => Value.slice (some ⟨b54, 0, none⟩) n_ c2) hn80)
             replace E := E.same (t := 16) (u := .slice (some ⟨b54, 0, none⟩) (List.length (List.set (List.set s19 (Int.toNat i23) (List.getD s19 (Int.toNat j24) 0)) (Int.toNat j24) (List.getD s19 (Int.toNat i23) 0))) c2) rfl (congrArg (fun n_ => Value.slice (some ⟨b54, 0, none⟩) n_ c2) hn80)
             refine wpList_nil ?_
             refine th_n ⟨HS67, ?_⟩
             refine dr_done (by kernel_rfl) ?_
             exact .inl ⟨rfl, E.pick _ ⟨rfl, rfl, rfl, trivial⟩, H.sel [0] rfl⟩
       ·
        refine wpOp_of_list rfl ?_
        refine vr tbok 1 [.int .u8 (List.getD s19 (Int.toNat i23) 0)] [(0, .slice (some ⟨b54, 0, none⟩) (List.length s19) c2), (2, .int .i64 i23), (3, .int .i64 j24), (14, .slice (some ⟨b54, 0, none⟩) (List.length s19) c2), (15, .int .i64 i23), (16, .slice (some ⟨b54, 0, none⟩) (List.length s19) c2), (17, .int .i64 j24), (20, .pointer (some ⟨b54, 0 + (Int.toNat j24) * 1, none⟩)), (24, .pointer (some ⟨b54, 0 + (Int.toNat i23) * 1, none⟩)), (25, .int .u8 (List.getD s19 (Int.toNat i23) 0))] [World.cell? w65 ⟨b54, 0 + (Int.toNat i23) * 1, none⟩ = some (.int .u8 (List.getD s19 (Int.toNat i23) 0))] E (by kernel_rfl) (Rds.at1 (H.rd 0 rds_row) 0 g56) ?_
        clear E; intro a E
        refine wpList_nil ?_
        refine th_n ⟨HS67, ?_⟩
        refine wpAnyH_all (rs := [7]) (by kernel_rfl) (by simp) ?_
        refine all1 ?_
        ·
         refine wpOp_of_list rfl ?_
         refine vr tbok 1 [.int .u8 (List.getD s19 (Int.toNat j24) 0)] [(0, .slice (some ⟨b54, 0, none⟩) (List.length s19) c2), (2, .int .i64 i23), (3, .int .i64 j24), (14, .slice (some ⟨b54, 0, none⟩) (List.length s19) c2), (15, .int .i64 i23), (16, .slice (some ⟨b54, 0, none⟩) (List.length s19) c2), (17, .int .i64 j24), (20, .pointer (some ⟨b54, 0 + (Int.toNat j24) * 1, none⟩)), (21, .int .u8 (List.getD s19 (Int.toNat j24) 0)), (25, .int .u8 (List.getD s19 (Int.toNat i23) 0))] [World.cell? w65 ⟨b54, 0 + (Int.toNat j24) * 1, none⟩ = some (.int .u8 (List.getD s19 (Int.toNat j24) 0))] E (by kernel_rfl) (Rds.at1 (H.rd 0 rds_row) 0 g53) ?_
         clear E; intro a E
         refine wpList_nil ?_
         refine th_n ⟨HS67, ?_⟩
         refine wpAnyH_all (rs := [12]) (by kernel_rfl) (by simp) ?_
         refine all1 ?_
         ·
          refine wpOp_of_list rfl ?_
          refine vr tbok 1 [] [(0, .slice (some ⟨b54, 0, none⟩) (List.length s19) c2), (2, .int .i64 i23), (3, .int .i64 j24), (14, .slice (some ⟨b54, 0, none⟩) (List.length s19) c2), (15, .int .i64 i23), (16, .slice (some ⟨b54, 0, none⟩) (List.length s19) c2), (17, .int .i64 j24), (21, .int .u8 (List.getD s19 (Int.toNat j24) 0)), (25, .int .u8 (List.getD s19 (Int.toNat i23) 0)), (26, .pointer (some ⟨b54, 0 + (Int.toNat i23) * 1, none⟩))] [0 ≤ i23 ∧ i23 < (((List.length s19) : Nat) : Int)] E (by kernel_rfl) (g56) ?_
          clear E; intro a E
          refine wpList_nil ?_
          refine th_n ⟨HS67, ?_⟩
          refine wpAnyH_all (rs := [13]) (by kernel_rfl) (by simp) ?_
          refine all1 ?_
          ·
           refine wpOp_of_list rfl ?_
           refine h_set (g := b54) (i := i23) (List.getD s19 (Int.toNat j24) 0) H 0 rfl E rfl rfl rfl rfl tbok rfl (fun _ HF_ => rfl) rfl g56 rfl ?_
           clear E; intro w81 a hc82 H_ E
           replace HS67 := HS67.trans hc82 (fun k_ hk_ h_ => (fun _ _ h_ => Or.inl h_) k_ hk_ h_)
           replace H := H_; clear H_; try dsimp only [setn, addE, goneL] at H
           have hn83 : (List.length s19) = (List.length (List.set s19 (Int.toNat i23) (List.getD s19 (Int.toNat j24) 0))) := by simp only [List.length_set]
           replace E := E.same (t := 0) (u := .slice (some ⟨b54, 0, none⟩) (List.length (List.set s19 (Int.toNat i23) (List.getD s19 (Int.toNat j24) 0))) c2) rfl (congrArg (fun n_ => Value.slice (some ⟨b54, 0, none⟩) n_ c2) hn83)
           replace E := E.same (t := 14) (u := .slice (some ⟨b54, 0, none⟩) (List.length (List.set s19 (Int.toNat i23) (List.getD s19 (Int.toNat j24) 0))) c2) rfl (congrArg (fun n_ => Value.slice (some ⟨b54, 0, none⟩) n_ c2) hn83)
           replace E := E.same (t := 16) (u := .slice (some ⟨b54, 0, none⟩) (List.length (List.set s19 (Int.toNat i23) (List.getD s19 (Int.toNat j24) 0))) c2) rfl (congrArg (fun n_ => Value.slice (some ⟨b54, 0, none⟩) n_ c2) hn83)
           refine wpList_nil ?_
           refine th_n ⟨HS67, ?_⟩
           refine wpAnyH_all (rs := [14]) (by kernel_rfl) (by simp) ?_
           refine all1 ?_
           ·
            refine wpOp_of_list rfl ?_
            refine vr tbok 1 [] [(0, .slice (some ⟨b54, 0, none⟩) (List.length (List.set s19 (Int.toNat i23) (List.getD s19 (Int.toNat j24) 0))) c2), (2, .int .i64 i23), (3, .int .i64 j24), (16, .slice (some ⟨b54, 0, none⟩) (List.length (List.set s19 (Int.toNat i23) (List.getD s19 (Int.toNat j24) 0))) c2), (17, .int .i64 j24), (25, .int .u8 (List.getD s19 (Int.toNat i23) 0)), (27, .pointer (some ⟨b54, 0 + (Int.toNat j24) * 1, none⟩))] [0 ≤ j24 ∧ j24 < (((List.length (List.set s19 (Int.toNat i23) (List.getD s19 (Int.toNat j24) 0))) : Nat) : Int)] E (by kernel_rfl) (g60) ?_
            clear E; intro a E
            refine wpList_nil ?_
            refine th_n ⟨HS67, ?_⟩
            refine wpAnyH_all (rs := [15]) (by kernel_rfl) (by simp) ?_
            refine all1 ?_
            ·
             refine wpOp_of_list rfl ?_
             refine h_set (g := b54) (i := j24) (List.getD s19 (Int.toNat i23) 0) H 0 rfl E rfl rfl rfl rfl tbok rfl (fun _ HF_ => rfl) rfl g60 rfl ?_
             clear E; intro w84 a hc85 H_ E
             replace HS67 := HS67.trans hc85 (fun k_ hk_ h_ => (fun _ _ h_ => Or.inl h_) k_ hk_ h_)
             replace H := H_; clear H_; try dsimp only [setn, addE, goneL] at H
             have hn86 : (List.length (List.set s19 (Int.toNat i23) (List.getD s19 (Int.toNat j24) 0))) = (List.length (List.set (List.set s19 (Int.toNat i23) (List.getD s19 (Int.toNat j24) 0)) (Int.toNat j24) (List.getD s19 (Int.toNat i23) 0))) := by simp only [List.length_set]
             replace E := E.same (t := 0) (u := .slice (some ⟨b54, 0, none⟩) (List.length (List.set (List.set s19 (Int.toNat i23) (List.getD s19 (Int.toNat j24) 0)) (Int.toNat j24) (List.getD s19 (Int.toNat i23) 0))) c2) rfl (congrArg (fun n_ => Value.slice (some ⟨b54, 0, none⟩) n_ c2) hn86)
             replace E := E.same (t := 16) (u := .slice (some ⟨b54, 0, none⟩) (List.length (List.set (List.set s19 (Int.toNat i23) (List.getD s19 (Int.toNat j24) 0)) (Int.toNat j24) (List.getD s19 (Int.toNat i23) 0))) c2) rfl (congrArg (fun n_ => Value.slice (some ⟨b54, 0, none⟩) n_ c2) hn86)
             refine wpList_nil ?_
             refine th_n ⟨HS67, ?_⟩
             refine dr_done (by kernel_rfl) ?_
             exact .inl ⟨rfl, E.pick _ ⟨rfl, rfl, rfl, trivial⟩, H.sel [0] rfl⟩
     ·
      refine wpOp_of_list rfl ?_
      refine vr tbok 1 [] [(0, .slice (some ⟨b54, 0, none⟩) (List.length s19) c2), (2, .int .i64 i23), (3, .int .i64 j24), (14, .slice (some ⟨b54, 0, none⟩) (List.length s19) c2), (15, .int .i64 i23), (16, .slice (some ⟨b54, 0, none⟩) (List.length s19) c2), (17, .int .i64 j24), (18, .slice (some ⟨b54, 0, none⟩) (List.length s19) c2), (19, .int .i64 j24), (22, .slice (some ⟨b54, 0, none⟩) (List.length s19) c2), (23, .int .i64 i23), (24, .pointer (some ⟨b54, 0 + (Int.toNat i23) * 1, none⟩))] [0 ≤ i23 ∧ i23 < (((List.length s19) : Nat) : Int)] E (by kernel_rfl) (g56) ?_
      clear E; intro a E
      refine wpList_nil ?_
      refine th_n ⟨HS67, ?_⟩
      refine wpAnyH_all (rs := [6, 11]) (by kernel_rfl) (by simp) ?_
      refine all2 ?_ ?_
      ·
       refine wpOp_of_list rfl ?_
       refine vr tbok 1 [] [(0, .slice (some ⟨b54, 0, none⟩) (List.length s19) c2), (2, .int .i64 i23), (3, .int .i64 j24), (14, .slice (some ⟨b54, 0, none⟩) (List.length s19) c2), (15, .int .i64 i23), (16, .slice (some ⟨b54, 0, none⟩) (List.length s19) c2), (17, .int .i64 j24), (18, .slice (some ⟨b54, 0, none⟩) (List.length s19) c2), (19, .int .i64 j24), (20, .pointer (some ⟨b54, 0 + (Int.toNat j24) * 1, none⟩)), (24, .pointer (some ⟨b54, 0 + (Int.toNat i23) * 1, none⟩))] [0 ≤ j24 ∧ j24 < (((List.length s19) : Nat) : Int)] E (by kernel_rfl) (g53) ?_
       clear E; intro a E
       refine wpList_nil ?_
       refine th_n ⟨HS67, ?_⟩
       refine wpAnyH_all (rs := [7, 11]) (by kernel_rfl) (by simp) ?_
       refine all2 ?_ ?_
       ·
        refine wpOp_of_list rfl ?_
        refine vr tbok 1 [.int .u8 (List.getD s19 (Int.toNat j24) 0)] [(0, .slice (some ⟨b54, 0, none⟩) (List.length s19) c2), (2, .int .i64 i23), (3, .int .i64 j24), (14, .slice (some ⟨b54, 0, none⟩) (List.length s19) c2), (15, .int .i64 i23), (16, .slice (some ⟨b54, 0, none⟩) (List.length s19) c2), (17, .int .i64 j24), (20, .pointer (some ⟨b54, 0 + (Int.toNat j24) * 1, none⟩)), (21, .int .u8 (List.getD s19 (Int.toNat j24) 0)), (24, .pointer (some ⟨b54, 0 + (Int.toNat i23) * 1, none⟩))] [World.cell? w65 ⟨b54, 0 + (Int.toNat j24) * 1, none⟩ = some (.int .u8 (List.getD s19 (Int.toNat j24) 0))] E (by kernel_rfl) (Rds.at1 (H.rd 0 rds_row) 0 g53) ?_
        clear E; intro a E
        refine wpList_nil ?_
        refine th_n ⟨HS67, ?_⟩
        refine wpAnyH_all (rs := [11]) (by kernel_rfl) (by simp) ?_
        refine all1 ?_
        ·
         refine wpOp_of_list rfl ?_
         refine vr tbok 1 [.int .u8 (List.getD s19 (Int.toNat i23) 0)] [(0, .slice (some ⟨b54, 0, none⟩) (List.length s19) c2), (2, .int .i64 i23), (3, .int .i64 j24), (14, .slice (some ⟨b54, 0, none⟩) (List.length s19) c2), (15, .int .i64 i23), (16, .slice (some ⟨b54, 0, none⟩) (List.length s19) c2), (17, .int .i64 j24), (21, .int .u8 (List.getD s19 (Int.toNat j24) 0)), (24, .pointer (some ⟨b54, 0 + (Int.toNat i23) * 1, none⟩)), (25, .int .u8 (List.getD s19 (Int.toNat i23) 0))] [World.cell? w65 ⟨b54, 0 + (Int.toNat i23) * 1, none⟩ = some (.int .u8 (List.getD s19 (Int.toNat i23) 0))] E (by kernel_rfl) (Rds.at1 (H.rd 0 rds_row) 0 g56) ?_
         clear E; intro a E
         refine wpList_nil ?_
         refine th_n ⟨HS67, ?_⟩
         refine wpAnyH_all (rs := [12]) (by kernel_rfl) (by simp) ?_
         refine all1 ?_
         ·
          refine wpOp_of_list rfl ?_
          refine vr tbok 1 [] [(0, .slice (some ⟨b54, 0, none⟩) (List.length s19) c2), (2, .int .i64 i23), (3, .int .i64 j24), (14, .slice (some ⟨b54, 0, none⟩) (List.length s19) c2), (15, .int .i64 i23), (16, .slice (some ⟨b54, 0, none⟩) (List.length s19) c2), (17, .int .i64 j24), (21, .int .u8 (List.getD s19 (Int.toNat j24) 0)), (25, .int .u8 (List.getD s19 (Int.toNat i23) 0)), (26, .pointer (some ⟨b54, 0 + (Int.toNat i23) * 1, none⟩))] [0 ≤ i23 ∧ i23 < (((List.length s19) : Nat) : Int)] E (by kernel_rfl) (g56) ?_
          clear E; intro a E
          refine wpList_nil ?_
          refine th_n ⟨HS67, ?_⟩
          refine wpAnyH_all (rs := [13]) (by kernel_rfl) (by simp) ?_
          refine all1 ?_
          ·
           refine wpOp_of_list rfl ?_
           refine h_set (g := b54) (i := i23) (List.getD s19 (Int.toNat j24) 0) H 0 rfl E rfl rfl rfl rfl tbok rfl (fun _ HF_ => rfl) rfl g56 rfl ?_
           clear E; intro w87 a hc88 H_ E
           replace HS67 := HS67.trans hc88 (fun k_ hk_ h_ => (fun _ _ h_ => Or.inl h_) k_ hk_ h_)
           replace H := H_; clear H_; try dsimp only [setn, addE, goneL] at H
           have hn89 : (List.length s19) = (List.length (List.set s19 (Int.toNat i23) (List.getD s19 (Int.toNat j24) 0))) := by simp only [List.length_set]
           replace E := E.same (t := 0) (u := .slice (some ⟨b54, 0, none⟩) (List.length (List.set s19 (Int.toNat i23) (List.getD s19 (Int.toNat j24) 0))) c2) rfl (congrArg (fun n_ => Value.slice (some ⟨b54, 0, none⟩) n_ c2) hn89)
           replace E := E.same (t := 14) (u := .slice (some ⟨b54, 0, none⟩) (List.length (List.set s19 (Int.toNat i23) (List.getD s19 (Int.toNat j24) 0))) c2) rfl (congrArg (fun n_ => Value.slice (some ⟨b54, 0, none⟩) n_ c2) hn89)
           replace E := E.same (t := 16) (u := .slice (some ⟨b54, 0, none⟩) (List.length (List.set s19 (Int.toNat i23) (List.getD s19 (Int.toNat j24) 0))) c2) rfl (congrArg (fun n_ => Value.slice (some ⟨b54, 0, none⟩) n_ c2) hn89)
           refine wpList_nil ?_
           refine th_n ⟨HS67, ?_⟩
           refine wpAnyH_all (rs := [14]) (by kernel_rfl) (by simp) ?_
           refine all1 ?_
           ·
            refine wpOp_of_list rfl ?_
            refine vr tbok 1 [] [(0, .slice (some ⟨b54, 0, none⟩) (List.length (List.set s19 (Int.toNat i23) (List.getD s19 (Int.toNat j24) 0))) c2), (2, .int .i64 i23), (3, .int .i64 j24), (16, .slice (some ⟨b54, 0, none⟩) (List.length (List.set s19 (Int.toNat i23) (List.getD s19 (Int.toNat j24) 0))) c2), (17, .int .i64 j24), (25, .int .u8 (List.getD s19 (Int.toNat i23) 0)), (27, .pointer (some ⟨b54, 0 + (Int.toNat j24) * 1, none⟩))] [0 ≤ j24 ∧ j24 < (((List.length (List.set s19 (Int.toNat i23) (List.getD s19 (Int.toNat j24) 0))) : Nat) : Int)] E (by kernel_rfl) (g60) ?_
            clear E; intro a E
            refine wpList_nil ?_
            refine th_n ⟨HS67, ?_⟩
            refine wpAnyH_all (rs := [15]) (by kernel_rfl) (by simp) ?_
            refine all1 ?_
            ·
             refine wpOp_of_list rfl ?_
             refine h_set (g := b54) (i := j24) (List.getD s19 (Int.toNat i23) 0) H 0 rfl E rfl rfl rfl rfl tbok rfl (fun _ HF_ => rfl) rfl g60 rfl ?_
             clear E; intro w90 a hc91 H_ E
             replace HS67 := HS67.trans hc91 (fun k_ hk_ h_ => (fun _ _ h_ => Or.inl h_) k_ hk_ h_)
             replace H := H_; clear H_; try dsimp only [setn, addE, goneL] at H
             have hn92 : (List.length (List.set s19 (Int.toNat i23) (List.getD s19 (Int.toNat j24) 0))) = (List.length (List.set (List.set s19 (Int.toNat i23) (List.getD s19 (Int.toNat j24) 0)) (Int.toNat j24) (List.getD s19 (Int.toNat i23) 0))) := by simp only [List.length_set]
             replace E := E.same (t := 0) (u := .slice (some ⟨b54, 0, none⟩) (List.length (List.set (List.set s19 (Int.toNat i23) (List.getD s19 (Int.toNat j24) 0)) (Int.toNat j24) (List.getD s19 (Int.toNat i23) 0))) c2) rfl (congrArg (fun n_ => Value.slice (some ⟨b54, 0, none⟩) n_ c2) hn92)
             replace E := E.same (t := 16) (u := .slice (some ⟨b54, 0, none⟩) (List.length (List.set (List.set s19 (Int.toNat i23) (List.getD s19 (Int.toNat j24) 0)) (Int.toNat j24) (List.getD s19 (Int.toNat i23) 0))) c2) rfl (congrArg (fun n_ => Value.slice (some ⟨b54, 0, none⟩) n_ c2) hn92)
             refine wpList_nil ?_
             refine th_n ⟨HS67, ?_⟩
             refine dr_done (by kernel_rfl) ?_
             exact .inl ⟨rfl, E.pick _ ⟨rfl, rfl, rfl, trivial⟩, H.sel [0] rfl⟩
       ·
        refine wpOp_of_list rfl ?_
        refine vr tbok 1 [.int .u8 (List.getD s19 (Int.toNat i23) 0)] [(0, .slice (some ⟨b54, 0, none⟩) (List.length s19) c2), (2, .int .i64 i23), (3, .int .i64 j24), (14, .slice (some ⟨b54, 0, none⟩) (List.length s19) c2), (15, .int .i64 i23), (16, .slice (some ⟨b54, 0, none⟩) (List.length s19) c2), (17, .int .i64 j24), (20, .pointer (some ⟨b54, 0 + (Int.toNat j24) * 1, none⟩)), (24, .pointer (some ⟨b54, 0 + (Int.toNat i23) * 1, none⟩)), (25, .int .u8 (List.getD s19 (Int.toNat i23) 0))] [World.cell? w65 ⟨b54, 0 + (Int.toNat i23) * 1, none⟩ = some (.int .u8 (List.getD s19 (Int.toNat i23) 0))] E (by kernel_rfl) (Rds.at1 (H.rd 0 rds_row) 0 g56) ?_
        clear E; intro a E
        refine wpList_nil ?_
        refine th_n ⟨HS67, ?_⟩
        refine wpAnyH_all (rs := [7]) (by kernel_rfl) (by simp) ?_
        refine all1 ?_
        ·
         refine wpOp_of_list rfl ?_
         refine vr tbok 1 [.int .u8 (List.getD s19 (Int.toNat j24) 0)] [(0, .slice (some ⟨b54, 0, none⟩) (List.length s19) c2), (2, .int .i64 i23), (3, .int .i64 j24), (14, .slice (some ⟨b54, 0, none⟩) (List.length s19) c2), (15, .int .i64 i23), (16, .slice (some ⟨b54, 0, none⟩) (List.length s19) c2), (17, .int .i64 j24), (20, .pointer (some ⟨b54, 0 + (Int.toNat j24) * 1, none⟩)), (21, .int .u8 (List.getD s19 (Int.toNat j24) 0)), (25, .int .u8 (List.getD s19 (Int.toNat i23) 0))] [World.cell? w65 ⟨b54, 0 + (Int.toNat j24) * 1, none⟩ = some (.int .u8 (List.getD s19 (Int.toNat j24) 0))] E (by kernel_rfl) (Rds.at1 (H.rd 0 rds_row) 0 g53) ?_
         clear E; intro a E
         refine wpList_nil ?_
         refine th_n ⟨HS67, ?_⟩
         refine wpAnyH_all (rs := [12]) (by kernel_rfl) (by simp) ?_
         refine all1 ?_
         ·
          refine wpOp_of_list rfl ?_
          refine vr tbok 1 [] [(0, .slice (some ⟨b54, 0, none⟩) (List.length s19) c2), (2, .int .i64 i23), (3, .int .i64 j24), (14, .slice (some ⟨b54, 0, none⟩) (List.length s19) c2), (15, .int .i64 i23), (16, .slice (some ⟨b54, 0, none⟩) (List.length s19) c2), (17, .int .i64 j24), (21, .int .u8 (List.getD s19 (Int.toNat j24) 0)), (25, .int .u8 (List.getD s19 (Int.toNat i23) 0)), (26, .pointer (some ⟨b54, 0 + (Int.toNat i23) * 1, none⟩))] [0 ≤ i23 ∧ i23 < (((List.length s19) : Nat) : Int)] E (by kernel_rfl) (g56) ?_
          clear E; intro a E
          refine wpList_nil ?_
          refine th_n ⟨HS67, ?_⟩
          refine wpAnyH_all (rs := [13]) (by kernel_rfl) (by simp) ?_
          refine all1 ?_
          ·
           refine wpOp_of_list rfl ?_
           refine h_set (g := b54) (i := i23) (List.getD s19 (Int.toNat j24) 0) H 0 rfl E rfl rfl rfl rfl tbok rfl (fun _ HF_ => rfl) rfl g56 rfl ?_
           clear E; intro w93 a hc94 H_ E
           replace HS67 := HS67.trans hc94 (fun k_ hk_ h_ => (fun _ _ h_ => Or.inl h_) k_ hk_ h_)
           replace H := H_; clear H_; try dsimp only [setn, addE, goneL] at H
           have hn95 : (List.length s19) = (List.length (List.set s19 (Int.toNat i23) (List.getD s19 (Int.toNat j24) 0))) := by simp only [List.length_set]
           replace E := E.same (t := 0) (u := .slice (some ⟨b54, 0, none⟩) (List.length (List.set s19 (Int.toNat i23) (List.getD s19 (Int.toNat j24) 0))) c2) rfl (congrArg (fun n_ => Value.slice (some ⟨b54, 0, none⟩) n_ c2) hn95)
           replace E := E.same (t := 14) (u := .slice (some ⟨b54, 0, none⟩) (List.length (List.set s19 (Int.toNat i23) (List.getD s19 (Int.toNat j24) 0))) c2) rfl (congrArg (fun n_ => Value.slice (some ⟨b54, 0, none⟩) n_ c2) hn95)
           replace E := E.same (t := 16) (u := .slice (some ⟨b54, 0, none⟩) (List.length (List.set s19 (Int.toNat i23) (List.getD s19 (Int.toNat j24) 0))) c2) rfl (congrArg (fun n_ => Value.slice (some ⟨b54, 0, none⟩) n_ c2) hn95)
           refine wpList_nil ?_
           refine th_n ⟨HS67, ?_⟩
           refine wpAnyH_all (rs := [14]) (by kernel_rfl) (by simp) ?_
           refine all1 ?_
           ·
            refine wpOp_of_list rfl ?_
            refine vr tbok 1 [] [(0, .slice (some ⟨b54, 0, none⟩) (List.length (List.set s19 (Int.toNat i23) (List.getD s19 (Int.toNat j24) 0))) c2), (2, .int .i64 i23), (3, .int .i64 j24), (16, .slice (some ⟨b54, 0, none⟩) (List.length (List.set s19 (Int.toNat i23) (List.getD s19 (Int.toNat j24) 0))) c2), (17, .int .i64 j24), (25, .int .u8 (List.getD s19 (Int.toNat i23) 0)), (27, .pointer (some ⟨b54, 0 + (Int.toNat j24) * 1, none⟩))] [0 ≤ j24 ∧ j24 < (((List.length (List.set s19 (Int.toNat i23) (List.getD s19 (Int.toNat j24) 0))) : Nat) : Int)] E (by kernel_rfl) (g60) ?_
            clear E; intro a E
            refine wpList_nil ?_
            refine th_n ⟨HS67, ?_⟩
            refine wpAnyH_all (rs := [15]) (by kernel_rfl) (by simp) ?_
            refine all1 ?_
            ·
             refine wpOp_of_list rfl ?_
             refine h_set (g := b54) (i := j24) (List.getD s19 (Int.toNat i23) 0) H 0 rfl E rfl rfl rfl rfl tbok rfl (fun _ HF_ => rfl) rfl g60 rfl ?_
             clear E; intro w96 a hc97 H_ E
             replace HS67 := HS67.trans hc97 (fun k_ hk_ h_ => (fun _ _ h_ => Or.inl h_) k_ hk_ h_)
             replace H := H_; clear H_; try dsimp only [setn, addE, goneL] at H
             have hn98 : (List.length (List.set s19 (Int.toNat i23) (List.getD s19 (Int.toNat j24) 0))) = (List.length (List.set (List.set s19 (Int.toNat i23) (List.getD s19 (Int.toNat j24) 0)) (Int.toNat j24) (List.getD s19 (Int.toNat i23) 0))) := by simp only [List.length_set]
             replace E := E.same (t := 0) (u := .slice (some ⟨b54, 0, none⟩) (List.length (List.set (List.set s19 (Int.toNat i23) (List.getD s19 (Int.toNat j24) 0)) (Int.toNat j24) (List.getD s19 (Int.toNat i23) 0))) c2) rfl (congrArg (fun n_ => Value.slice (some ⟨b54, 0, none⟩) n_ c2) hn98)
             replace E := E.same (t := 16) (u := .slice (some ⟨b54, 0, none⟩) (List.length (List.set (List.set s19 (Int.toNat i23) (List.getD s19 (Int.toNat j24) 0)) (Int.toNat j24) (List.getD s19 (Int.toNat i23) 0))) c2) rfl (congrArg (fun n_ => Value.slice (some ⟨b54, 0, none⟩) n_ c2) hn98)
             refine wpList_nil ?_
             refine th_n ⟨HS67, ?_⟩
             refine dr_done (by kernel_rfl) ?_
             exact .inl ⟨rfl, E.pick _ ⟨rfl, rfl, rfl, trivial⟩, H.sel [0] rfl⟩
      ·
       refine wpOp_of_list rfl ?_
       refine vr tbok 1 [.int .u8 (List.getD s19 (Int.toNat i23) 0)] [(0, .slice (some ⟨b54, 0, none⟩) (List.length s19) c2), (2, .int .i64 i23), (3, .int .i64 j24), (14, .slice (some ⟨b54, 0, none⟩) (List.length s19) c2), (15, .int .i64 i23), (16, .slice (some ⟨b54, 0, none⟩) (List.length s19) c2), (17, .int .i64 j24), (18, .slice (some ⟨b54, 0, none⟩) (List.length s19) c2), (19, .int .i64 j24), (24, .pointer (some ⟨b54, 0 + (Int.toNat i23) * 1, none⟩)), (25, .int .u8 (List.getD s19 (Int.toNat i23) 0))] [World.cell? w65 ⟨b54, 0 + (Int.toNat i23) * 1, none⟩ = some (.int .u8 (List.getD s19 (Int.toNat i23) 0))] E (by kernel_rfl) (Rds.at1 (H.rd 0 rds_row) 0 g56) ?_
       clear E; intro a E
       refine wpList_nil ?_
       refine th_n ⟨HS67, ?_⟩
       refine wpAnyH_all (rs := [6]) (by kernel_rfl) (by simp) ?_
       refine all1 ?_
       ·
        refine wpOp_of_list rfl ?_
        refine vr tbok 1 [] [(0, .slice (some ⟨b54, 0, none⟩) (List.length s19) c2), (2, .int .i64 i23), (3, .int .i64 j24), (14, .slice (some ⟨b54, 0, none⟩) (List.length s19) c2), (15, .int .i64 i23), (16, .slice (some ⟨b54, 0, none⟩) (List.length s19) c2), (17, .int .i64 j24), (18, .slice (some ⟨b54, 0, none⟩) (List.length s19) c2), (19, .int .i64 j24), (20, .pointer (some ⟨b54, 0 + (Int.toNat j24) * 1, none⟩)), (25, .int .u8 (List.getD s19 (Int.toNat i23) 0))] [0 ≤ j24 ∧ j24 < (((List.length s19) : Nat) : Int)] E (by kernel_rfl) (g53) ?_
        clear E; intro a E
        refine wpList_nil ?_
        refine th_n ⟨HS67, ?_⟩
        refine wpAnyH_all (rs := [7]) (by kernel_rfl) (by simp) ?_
        refine all1 ?_
        ·
         refine wpOp_of_list rfl ?_
         refine vr tbok 1 [.int .u8 (List.getD s19 (Int.toNat j24) 0)] [(0, .slice (some ⟨b54, 0, none⟩) (List.length s19) c2), (2, .int .i64 i23), (3, .int .i64 j24), (14, .slice (some ⟨b54, 0, none⟩) (List.length s19) c2), (15, .int .i64 i23), (16, .slice (some ⟨b54, 0, none⟩) (List.length s19) c2), (17, .int .i64 j24), (20, .pointer (some ⟨b54, 0 + (Int.toNat j24) * 1, none⟩)), (21, .int .u8 (List.getD s19 (Int.toNat j24) 0)), (25, .int .u8 (List.getD s19 (Int.toNat i23) 0))] [World.cell? w65 ⟨b54, 0 + (Int.toNat j24) * 1, none⟩ = some (.int .u8 (List.getD s19 (Int.toNat j24) 0))] E (by kernel_rfl) (Rds.at1 (H.rd 0 rds_row) 0 g53) ?_
         clear E; intro a E
         refine wpList_nil ?_
         refine th_n ⟨HS67, ?_⟩
         refine wpAnyH_all (rs := [12]) (by kernel_rfl) (by simp) ?_
         refine all1 ?_
         ·
          refine wpOp_of_list rfl ?_
          refine vr tbok 1 [] [(0, .slice (some ⟨b54, 0, none⟩) (List.length s19) c2), (2, .int .i64 i23), (3, .int .i64 j24), (14, .slice (some ⟨b54, 0, none⟩) (List.length s19) c2), (15, .int .i64 i23), (16, .slice (some ⟨b54, 0, none⟩) (List.length s19) c2), (17, .int .i64 j24), (21, .int .u8 (List.getD s19 (Int.toNat j24) 0)), (25, .int .u8 (List.getD s19 (Int.toNat i23) 0)), (26, .pointer (some ⟨b54, 0 + (Int.toNat i23) * 1, none⟩))] [0 ≤ i23 ∧ i23 < (((List.length s19) : Nat) : Int)] E (by kernel_rfl) (g56) ?_
          clear E; intro a E
          refine wpList_nil ?_
          refine th_n ⟨HS67, ?_⟩
          refine wpAnyH_all (rs := [13]) (by kernel_rfl) (by simp) ?_
          refine all1 ?_
          ·
           refine wpOp_of_list rfl ?_
           refine h_set (g := b54) (i := i23) (List.getD s19 (Int.toNat j24) 0) H 0 rfl E rfl rfl rfl rfl tbok rfl (fun _ HF_ => rfl) rfl g56 rfl ?_
           clear E; intro w99 a hc100 H_ E
           replace HS67 := HS67.trans hc100 (fun k_ hk_ h_ => (fun _ _ h_ => Or.inl h_) k_ hk_ h_)
           replace H := H_; clear H_; try dsimp only [setn, addE, goneL] at H
           have hn101 : (List.length s19) = (List.length (List.set s19 (Int.toNat i23) (List.getD s19 (Int.toNat j24) 0))) := by simp only [List.length_set]
           replace E := E.same (t := 0) (u := .slice (some ⟨b54, 0, none⟩) (List.length (List.set s19 (Int.toNat i23) (List.getD s19 (Int.toNat j24) 0))) c2) rfl (congrArg (fun n_ => Value.slice (some ⟨b54, 0, none⟩) n_ c2) hn101)
           replace E := E.same (t := 14) (u := .slice (some ⟨b54, 0, none⟩) (List.length (List.set s19 (Int.toNat i23) (List.getD s19 (Int.toNat j24) 0))) c2) rfl (congrArg (fun n_ => Value.slice (some ⟨b54, 0, none⟩) n_ c2) hn101)
           replace E := E.same (t := 16) (u := .slice (some ⟨b54, 0, none⟩) (List.length (List.set s19 (Int.toNat i23) (List.getD s19 (Int.toNat j24) 0))) c2) rfl (congrArg (fun n_ => Value.slice (some ⟨b54, 0, none⟩) n_ c2) hn101)
           refine wpList_nil ?_
           refine th_n ⟨HS67, ?_⟩
           refine wpAnyH_all (rs := [14]) (by kernel_rfl) (by simp) ?_
           refine all1 ?_
           ·
            refine wpOp_of_list rfl ?_
            refine vr tbok 1 [] [(0, .slice (some ⟨b54, 0, none⟩) (List.length (List.set s19 (Int.toNat i23) (List.getD s19 (Int.toNat j24) 0))) c2), (2, .int .i64 i23), (3, .int .i64 j24), (16, .slice (some ⟨b54, 0, none⟩) (List.length (List.set s19 (Int.toNat i23) (List.getD s19 (Int.toNat j24) 0))) c2), (17, .int .i64 j24), (25, .int .u8 (List.getD s19 (Int.toNat i23) 0)), (27, .pointer (some ⟨b54, 0 + (Int.toNat j24) * 1, none⟩))] [0 ≤ j24 ∧ j24 < (((List.length (List.set s19 (Int.toNat i23) (List.getD s19 (Int.toNat j24) 0))) : Nat) : Int)] E (by kernel_rfl) (g60) ?_
            clear E; intro a E
            refine wpList_nil ?_
            refine th_n ⟨HS67, ?_⟩
            refine wpAnyH_all (rs := [15]) (by kernel_rfl) (by simp) ?_
            refine all1 ?_
            ·
             refine wpOp_of_list rfl ?_
             refine h_set (g := b54) (i := j24) (List.getD s19 (Int.toNat i23) 0) H 0 rfl E rfl rfl rfl rfl tbok rfl (fun _ HF_ => rfl) rfl g60 rfl ?_
             clear E; intro w102 a hc103 H_ E
             replace HS67 := HS67.trans hc103 (fun k_ hk_ h_ => (fun _ _ h_ => Or.inl h_) k_ hk_ h_)
             replace H := H_; clear H_; try dsimp only [setn, addE, goneL] at H
             have hn104 : (List.length (List.set s19 (Int.toNat i23) (List.getD s19 (Int.toNat j24) 0))) = (List.length (List.set (List.set s19 (Int.toNat i23) (List.getD s19 (Int.toNat j24) 0)) (Int.toNat j24) (List.getD s19 (Int.toNat i23) 0))) := by simp only [List.length_set]
             replace E := E.same (t := 0) (u := .slice (some ⟨b54, 0, none⟩) (List.length (List.set (List.set s19 (Int.toNat i23) (List.getD s19 (Int.toNat j24) 0)) (Int.toNat j24) (List.getD s19 (Int.toNat i23) 0))) c2) rfl (congrArg (fun n_ => Value.slice (some ⟨b54, 0, none⟩) n_ c2) hn104)
             replace E := E.same (t := 16) (u := .slice (some ⟨b54, 0, none⟩) (List.length (List.set (List.set s19 (Int.toNat i23) (List.getD s19 (Int.toNat j24) 0)) (Int.toNat j24) (List.getD s19 (Int.toNat i23) 0))) c2) rfl (congrArg (fun n_ => Value.slice (some ⟨b54, 0, none⟩) n_ c2) hn104)
             refine wpList_nil ?_
             refine th_n ⟨HS67, ?_⟩
             refine dr_done (by kernel_rfl) ?_
             exact .inl ⟨rfl, E.pick _ ⟨rfl, rfl, rfl, trivial⟩, H.sel [0] rfl⟩
    ·
     clear E H; rintro a w64 ⟨E, H⟩
     refine bl_n ?_
     refine th_n ?_
     refine wp_region_lit ?_
     obtain ⟨g105, hP⟩ := ask_inv hP
     obtain ⟨g106, hP⟩ := ask_inv hP
     refine vr tbok 6 [.int .i64 (i23 + 1), .int .i64 (j24 - 1)] [(0, .slice (some ⟨b54, 0, none⟩) (List.length (List.set (List.set s19 (Int.toNat i23) (List.getD s19 (Int.toNat j24) 0)) (Int.toNat j24) (List.getD s19 (Int.toNat i23) 0))) c2), (2, .int .i64 (i23 + 1)), (3, .int .i64 (j24 - 1))] [IntKind.i64.wrap (i23 + 1) = i23 + 1, IntKind.i64.wrap (j24 - 1) = j24 - 1] E (by kernel_rfl) ⟨wrap_in g105, wrap_in g106⟩ ?_
     clear E; intro a E
     refine wpList_nil ?_
     exact th_n ⟨m45, Nat.lt_succ_self _, List.set (List.set s19 (Int.toNat i23) (List.getD s19 (Int.toNat j24) 0)) (Int.toNat j24) (List.getD s19 (Int.toNat i23) 0), i23 + 1, j24 - 1, E.pick _ ⟨rfl, rfl, rfl, trivial⟩, H.sel [0] rfl, (Eq.trans List.length_set (Eq.trans List.length_set hl22)), hP⟩
   ·
    replace E := E_; clear E_
    have h107 : ¬ (i23 < j24) := of_decide_eq_false hb_
    clear hb_; replace hP := ite_f h107 hP
    refine c_false E rfl ?_
    refine wp_exit ?_
    refine th_exit ?_
    have hx_ := Option.some.inj hP
    refine th_exit (.inl ⟨0, rfl, ?_⟩)
    exact ⟨rfl, s19, E.pick _ trivial, H.sel [0] rfl, hl22, hx_.symm⟩
 ·
  clear E H hL47; intro i_ a w49 hM_
  obtain ⟨rfl, x51, E, H, hl44, hx_⟩ := hM_
  subst hx_; have hP := hK48; clear hK48
  refine bl_hit ?_
  obtain rfl := Option.some.inj hP
  refine bodyPost_end (v := .tuple #[]) (by simp [results, Try.f93]) E.nodef ?_
  exact ⟨_, rfl, rfl, hl44, H.sel [0] rfl⟩

end Go.V
