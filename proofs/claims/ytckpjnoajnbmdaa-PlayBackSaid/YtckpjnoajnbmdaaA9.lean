/- Plain functions, and the calls that give them. -/
import Derived.Test.YtckpjnoajnbmdaaA8
set_option linter.all false
set_option linter.unusedVariables false
set_option linter.unnecessarySimpa false
set_option linter.unusedSimpArgs false
namespace Go.V
open Go Go.Proofs
/-! (*rejoinder/play.Referee).letter -/
def play_Referee_letter (N : Nat) (raProps : Int) (raAccept : List Bool) (raGuard : List Int) (raNodes : List Nd) (rs : Int × Int) (rxWins : Bool) (rxRanks : List Int) (rxReply : List (List Int)) (rxChoice : List Int) (rq : Int) (rrounds : List (Int × Int)) (rmade : Bool) (mm : Int) : Option Int :=
  if rxWins = true then
    Option.bind (board_Number N rs.1 mm) fun r140 =>
    ask (idx rq (List.length rxReply)) <|
    ask (idx r140.1 (List.length (List.getD rxReply (Int.toNat rq) []))) <|
    some (orV .u8 mm (List.getD (List.getD rxReply (Int.toNat rq) []) (Int.toNat r140.1) 0))
  else
    ask (idx rq (List.length rxChoice)) <|
    some (orV .u8 mm (List.getD rxChoice (Int.toNat rq) 0))
set_option maxRecDepth 100000 in
set_option maxHeartbeats 4000000 in
theorem play_Referee_letter_calls {N : Nat} {S Fa : Nat → Prop} {w0 : World} {r : Int} (g1 : Nat) (A3 : Option Addr) (c4 : Nat) (A7 : Option Addr) (c8 : Nat) (A11 : Option Addr) (c12 : Nat) (A15 : Option Addr) (c16 : Nat) (A19 : Option Addr) (c20 : Nat) (A23 : Option Addr) (c24 : Nat) (A27 : Option Addr) (c28 : Nat) (raProps : Int) (raAccept : List Bool) (raGuard : List Int) (raNodes : List Nd) (rs : Int × Int) (rxWins : Bool) (rxRanks : List Int) (rxReply : List (List Int)) (rxChoice : List Int) (rq : Int) (rrounds : List (Int × Int)) (rmade : Bool) (mm : Int) (hk5 : List.length raAccept ≤ c4) (hk9 : List.length raGuard ≤ c8) (hk13 : List.length raNodes ≤ c12) (hk17 : List.length rxRanks ≤ c16) (hk21 : List.length rxReply ≤ c20) (hk25 : List.length rxChoice ≤ c24) (H : Hp S Fa w0 w0 [.box g1 74 [.int .i64 raProps, .slice A3 (List.length raAccept) c4, .slice A7 (List.length raGuard) c8, .slice A11 (List.length raNodes) c12, .int .u8 rs.1, .int .u8 rs.2, .bool rxWins, .slice A15 (List.length rxRanks) c16, .slice A19 (List.length rxReply) c20, .slice A23 (List.length rxChoice) c24, .int .i64 rq, .slice A27 (List.length rrounds) c28, .bool rmade], .row true cS98 99 A27 c28 rrounds, .ro false cBool A3 raAccept, .ro false (cInt .i64) A7 raGuard, .ro false cNode A11 raNodes, .ro false (cInt .i64) A15 rxRanks, .ro false (cSl (cInt .u8)) A19 rxReply, .ro false (cInt .u8) A23 rxChoice]) (hP : play_Referee_letter N raProps raAccept raGuard raNodes rs rxWins rxRanks rxReply rxChoice rq rrounds rmade mm = some r) :
    Calls Try.prog 61 #[.pointer (some ⟨g1, 0, none⟩), .int .u8 mm] w0 fun e w' => ∃ v, e = .returned v ∧ (∃ (x_ : Int), r = x_ ∧ v = .int .u8 x_ ∧ Hp S Fa w0 w' [.row true cS98 99 A27 c28 rrounds, .box g1 74 [.int .i64 raProps, .slice A3 (List.length raAccept) c4, .slice A7 (List.length raGuard) c8, .slice A11 (List.length raNodes) c12, .int .u8 rs.1, .int .u8 rs.2, .bool rxWins, .slice A15 (List.length rxRanks) c16, .slice A19 (List.length rxReply) c20, .slice A23 (List.length rxChoice) c24, .int .i64 rq, .slice A27 (List.length rrounds) c28, .bool rmade]]) := by
 refine enterV (n := 52) Try.func61 rfl rfl rfl ?_
 intro a E
 replace E := E.pick [(0, .pointer (some ⟨g1, 0, none⟩)), (1, .int .u8 mm)] ⟨rfl, rfl, trivial⟩
 rw [play_Referee_letter] at hP
 refine wp_seq ?_
 refine wp_region_lit ?_
 refine vr tbok 1 [] [(0, .pointer (some ⟨g1, 0, none⟩)), (1, .int .u8 mm)] [] E (by kernel_rfl) trivial ?_
 clear E; intro a E
 refine wpList_nil ?_
 refine th_n ?_
 refine wp_seq ?_
 refine wp_seq ?_
 refine wp_region_lit ?_
 refine vr tbok 6 [.bool rxWins] [(0, .pointer (some ⟨g1, 0, none⟩)), (1, .int .u8 mm), (12, .bool (!rxWins))] [World.cell? w0 ⟨g1, 6, none⟩ = some (.bool rxWins)] E (by kernel_rfl) ((H.box 0 rfl).cell (j := 6) rfl) ?_
 clear E; intro a E
 refine wpList_nil ?_
 refine th_n ?_
 refine E.cases (t := 12) rfl (fun hb_ E_ => ?_) (fun hb_ E_ => ?_)
 ·
  replace E := E_; clear E_
  have h131 : ¬ (rxWins = true) := (ne_true_of_eq_false (not_t hb_))
  clear hb_; replace hP := ite_f h131 hP
  refine c_true E rfl ?_
  refine wp_seq ?_
  obtain ⟨g132, hP⟩ := ask_inv hP
  obtain ⟨b133, o134, e_b133⟩ := (H.rd 7 rds_ro).addr (idx_pos g132)
  subst e_b133
  have HR138 := H
  refine dr_start (S := fun w_ => Chg (atL []) w0 w_) (by kernel_rfl) ?_
  intro w135 hc136
  have HS137 : Chg (atL []) w0 w135 := hc136.mono (fun _ _ h_ => h_.elim)
  replace H := H.ext hc136
  refine dr tbok (by kernel_rfl) [0, 1, 2, 3, 4, 5, 6, 7, 8, 9, 10, 11, 12, 13] [.slice (some ⟨b133, o134, none⟩) (List.length rxChoice) c24, .int .i64 rq, .int .u8 (List.getD rxChoice (Int.toNat rq) 0), .int .u8 (orV .u8 mm (List.getD rxChoice (Int.toNat rq) 0))] [(4, .int .u8 (orV .u8 mm (List.getD rxChoice (Int.toNat rq) 0)))] (fun w_ => [World.cell? w_ ⟨g1, 9, none⟩ = some (.slice (some ⟨b133, o134, none⟩) (List.length rxChoice) c24), World.cell? w_ ⟨g1, 10, none⟩ = some (.int .i64 rq), 0 ≤ rq ∧ rq < (((List.length rxChoice) : Nat) : Int), World.cell? w_ ⟨b133, o134 + (Int.toNat rq) * 1, none⟩ = some (.int .u8 (List.getD rxChoice (Int.toNat rq) 0)), IntKind.u8.wrap (BitVec.ofInt (IntKind.bits .u8) mm ||| BitVec.ofInt (IntKind.bits .u8) (List.getD rxChoice (Int.toNat rq) 0)).toNat = orV .u8 mm (List.getD rxChoice (Int.toNat rq) 0)]) 0 E (fun _ _ => by kernel_rfl) (fun w_ hS_ => ⟨(HR138.boxk [] hS_ 0 rfl rfl).cell (j := 9) rfl, (HR138.boxk [] hS_ 0 rfl rfl).cell (j := 10) rfl, g132, Rds.at1 (HR138.rdk [] hS_ 7 rds_ro rfl) 0 g132, rfl⟩) (by kernel_rfl) HS137 ?_
  clear E; intro a E
  refine dr_done (by kernel_rfl) ?_
  clear HS137 HR138
  refine th_n ?_
  refine wp_ret ?_
  refine th_ret ?_
  obtain rfl := Option.some.inj hP
  refine ret1 E rfl rfl ?_
  exact ⟨_, rfl, ⟨orV .u8 mm (List.getD rxChoice (Int.toNat rq) 0), rfl, rfl, H.sel [1, 0] rfl⟩⟩
 replace E := E_; clear E_
 have h139 : rxWins = true := (not_f hb_)
 clear hb_; replace hP := ite_t h139 hP
 refine c_false E rfl ?_
 refine wp_skip ?_
 refine th_n ?_
 refine wp_seq ?_
 refine wp_region_lit ?_
 refine vr tbok 6 [.int .u8 rs.1] [(0, .pointer (some ⟨g1, 0, none⟩)), (1, .int .u8 mm), (31, .int .u8 rs.1), (32, .int .u8 mm)] [World.cell? w0 ⟨g1, 4, none⟩ = some (.int .u8 rs.1)] E (by kernel_rfl) ((H.box 0 rfl).cell (j := 4) rfl) ?_
 clear E; intro a E
 obtain ⟨r140, h141, hP⟩ := bind_inv hP
 obtain ⟨Fa142, Hc143, hb144⟩ := H.call [] [] rfl rfl trivial
 refine e_call E rfl rfl Try.func84 rfl rfl rfl (board_Number_calls  rs.1 mm  Hc143 h141) ?_
 rintro v145 w146 a ⟨rfl, HR147⟩ E_
 replace E := E_ _ rfl; clear E_
 obtain ⟨H_, hc148⟩ := hb144 _ _ HR147 rfl
 replace H := H_; clear H_; try dsimp only [setn, addE, goneL] at H
 refine vr tbok 5 [] [(0, .pointer (some ⟨g1, 0, none⟩)), (1, .int .u8 mm), (5, .int .i64 r140.1)] [] E (by kernel_rfl) trivial ?_
 clear E; intro a E
 refine wpList_nil ?_
 refine th_n ?_
 refine wp_seq ?_
 obtain ⟨g149, hP⟩ := ask_inv hP
 obtain ⟨b150, o151, e_b150⟩ := (H.rd 6 rds_ro).addr (idx_pos g149)
 subst e_b150
 obtain ⟨A152, c153, hl154, hk155, H⟩ := H.subSl 6 false (el_ro rfl) g149
 try dsimp only [addE] at H
 obtain ⟨g157, hP⟩ := ask_inv hP
 obtain ⟨b158, o159, e_b158⟩ := (H.rd 8 rds_ro).addr (idx_pos g157)
 subst e_b158
 have HR163 := H
 refine dr_start (S := fun w_ => Chg (atL []) w146 w_) (by kernel_rfl) ?_
 intro w160 hc161
 have HS162 : Chg (atL []) w146 w160 := hc161.mono (fun _ _ h_ => h_.elim)
 replace H := H.ext hc161
 refine dr tbok (by kernel_rfl) [0, 1, 2, 3, 4, 5, 6, 7, 8, 9, 10, 11, 12, 13, 14, 15, 16] [.slice (some ⟨b150, o151, none⟩) (List.length rxReply) c20, .int .i64 rq, .slice (some ⟨b158, o159, none⟩) (List.length (List.getD rxReply (Int.toNat rq) [])) c153, .int .u8 (List.getD (List.getD rxReply (Int.toNat rq) []) (Int.toNat r140.1) 0), .int .u8 (orV .u8 mm (List.getD (List.getD rxReply (Int.toNat rq) []) (Int.toNat r140.1) 0))] [(4, .int .u8 (orV .u8 mm (List.getD (List.getD rxReply (Int.toNat rq) []) (Int.toNat r140.1) 0)))] (fun w_ => [World.cell? w_ ⟨g1, 8, none⟩ = some (.slice (some ⟨b150, o151, none⟩) (List.length rxReply) c20), World.cell? w_ ⟨g1, 10, none⟩ = some (.int .i64 rq), 0 ≤ rq ∧ rq < (((List.length rxReply) : Nat) : Int), World.cell? w_ ⟨b150, o151 + (Int.toNat rq) * 1, none⟩ = some (.slice (some ⟨b158, o159, none⟩) (List.length (List.getD rxReply (Int.toNat rq) [])) c153), 0 ≤ r140.1 ∧ r140.1 < (((List.length (List.getD rxReply (Int.toNat rq) [])) : Nat) : Int), World.cell? w_ ⟨b158, o159 + (Int.toNat r140.1) * 1, none⟩ = some (.int .u8 (List.getD (List.getD rxReply (Int.toNat rq) []) (Int.toNat r140.1) 0)), IntKind.u8.wrap (BitVec.ofInt (IntKind.bits .u8) mm ||| BitVec.ofInt (IntKind.bits .u8) (List.getD (List.getD rxReply (Int.toNat rq) []) (Int.toNat r140.1) 0)).toNat = orV .u8 mm (List.getD (List.getD rxReply (Int.toNat rq) []) (Int.toNat r140.1) 0)]) 0 E (fun _ _ => by kernel_rfl) (fun w_ hS_ => ⟨(HR163.boxk [] hS_ 0 rfl rfl).cell (j := 8) rfl, (HR163.boxk [] hS_ 0 rfl rfl).cell (j := 10) rfl, g149, hS_.cell (hl154) (HR163.blk [] 6 rds_ro (idx_pos g149) rfl), g157, Rds.at1 (HR163.rdk [] hS_ 8 rds_ro rfl) 0 g157, rfl⟩) (by kernel_rfl) HS162 ?_
 clear E; intro a E
 refine dr_done (by kernel_rfl) ?_
 clear HS162 HR163
 refine th_n ?_
 refine wp_ret ?_
 obtain rfl := Option.some.inj hP
 refine ret1 E rfl rfl ?_
 exact ⟨_, rfl, ⟨orV .u8 mm (List.getD (List.getD rxReply (Int.toNat rq) []) (Int.toNat r140.1) 0), rfl, rfl, H.sel [1, 0] rfl⟩⟩

/-! (*rejoinder/play.Referee).Move -/
def play_Referee_Move_j0 (N : Nat) (rs : Int × Int) (rxWins : Bool) : Option Int :=
    if rxWins = true then
      some rs.1
    else
      some rs.2
def play_Referee_Move (N : Nat) (raProps : Int) (raAccept : List Bool) (raGuard : List Int) (raNodes : List Nd) (rs : Int × Int) (rxWins : Bool) (rxRanks : List Int) (rxReply : List (List Int)) (rxChoice : List Int) (rq : Int) (rrounds : List (Int × Int)) (rmade : Bool) (raw : Int) : Option (Int × Int × Int × (List (Int × Int))) :=
  Option.bind (play_Referee_none N raProps raAccept raGuard raNodes (rs.1, rs.2) rxWins rxRanks rxReply rxChoice rq rrounds rmade) fun r136 =>
  if r136 = true then
    some (0, 1, rq, rrounds)
  else
    Option.bind (play_Referee_Move_j0 N rs rxWins) fun x157 =>
    Option.bind (play_Referee_Over N raProps raAccept raGuard raNodes (rs.1, rs.2) rxWins rxRanks rxReply rxChoice rq rrounds rmade) fun r164 =>
    if r164 = true then
      some (0, 351, rq, rrounds)
    else
      if (andNotV .u64 raw (IntKind.u64.wrap x157) : Int) = 0 then
        if 1024 ≤ (((List.length rrounds) : Nat) : Int) then
          some (0, 3, rq, rrounds)
        else
          Option.bind (play_Referee_letter N raProps raAccept raGuard raNodes (rs.1, rs.2) rxWins rxRanks rxReply rxChoice rq rrounds rmade (IntKind.u8.wrap raw)) fun r186 =>
          ask (List.length rrounds + List.length ([(r186, rq)] : List (Int × Int)) ≤ 1000000000) <|
          ask (idx rq (List.length raGuard)) <|
          Option.bind (guard_Go N raNodes (List.getD raGuard (Int.toNat rq) 0) r186) fun r281 =>
          some (r186, 0, r281.1, rrounds ++ ([(r186, rq)] : List (Int × Int)))
      else
        some (0, 14, rq, rrounds)
set_option maxRecDepth 100000 in
set_option maxHeartbeats 4000000 in
theorem play_Referee_Move_calls {N : Nat} {S Fa : Nat → Prop} {w0 : World} {r : Int × Int × Int × (List (Int × Int))} (g1 : Nat) (A3 : Option Addr) (c4 : Nat) (A7 : Option Addr) (c8 : Nat) (A11 : Option Addr) (c12 : Nat) (A15 : Option Addr) (c16 : Nat) (A19 : Option Addr) (c20 : Nat) (A23 : Option Addr) (c24 : Nat) (A27 : Option Addr) (c28 : Nat) (raProps : Int) (raAccept : List Bool) (raGuard : List Int) (raNodes : List Nd) (rs : Int × Int) (rxWins : Bool) (rxRanks : List Int) (rxReply : List (List Int)) (rxChoice : List Int) (rq : Int) (rrounds : List (Int × Int)) (rmade : Bool) (raw : Int) (hk5 : List.length raAccept ≤ c4) (hk9 : List.length raGuard ≤ c8) (hk13 : List.length raNodes ≤ c12) (hk17 : List.length rxRanks ≤ c16) (hk21 : List.length rxReply ≤ c20) (hk25 : List.length rxChoice ≤ c24) (H : Hp S Fa w0 w0 [.box g1 74 [.int .i64 raProps, .slice A3 (List.length raAccept) c4, .slice A7 (List.length raGuard) c8, .slice A11 (List.length raNodes) c12, .int .u8 rs.1, .int .u8 rs.2, .bool rxWins, .slice A15 (List.length rxRanks) c16, .slice A19 (List.length rxReply) c20, .slice A23 (List.length rxChoice) c24, .int .i64 rq, .slice A27 (List.length rrounds) c28, .bool rmade], .row true cS98 99 A27 c28 rrounds, .ro false cBool A3 raAccept, .ro false (cInt .i64) A7 raGuard, .ro false cNode A11 raNodes, .ro false (cInt .i64) A15 rxRanks, .ro false (cSl (cInt .u8)) A19 rxReply, .ro false (cInt .u8) A23 rxChoice]) (hP : play_Referee_Move N raProps raAccept raGuard raNodes rs rxWins rxRanks rxReply rxChoice rq rrounds rmade raw = some r) :
    Calls Try.prog 29 #[.pointer (some ⟨g1, 0, none⟩), .int .u64 raw] w0 fun e w' => ∃ v, e = .returned v ∧ (∃ (x_ : Int × Int × Int × (List (Int × Int))) (A34 : Option Addr) (c35 : Nat), r = x_ ∧ v = .tuple #[.int .u8 x_.1, .int .i64 x_.2.1] ∧ Hp S Fa w0 w' [.box g1 74 [.int .i64 raProps, .slice A3 (List.length raAccept) c4, .slice A7 (List.length raGuard) c8, .slice A11 (List.length raNodes) c12, .int .u8 rs.1, .int .u8 rs.2, .bool rxWins, .slice A15 (List.length rxRanks) c16, .slice A19 (List.length rxReply) c20, .slice A23 (List.length rxChoice) c24, .int .i64 x_.2.2.1, .slice A34 (List.length x_.2.2.2) c35, .bool rmade], .row true cS98 99 A34 c35 x_.2.2.2]) := by
 refine enterV (n := 85) Try.func29 rfl rfl rfl ?_
 intro a E
 replace E := E.pick [(0, .pointer (some ⟨g1, 0, none⟩)), (1, .int .u64 raw)] ⟨rfl, rfl, trivial⟩
 rw [play_Referee_Move] at hP
 refine wp_seq ?_
 refine wp_region_lit ?_
 refine vr tbok 2 [] [(0, .pointer (some ⟨g1, 0, none⟩)), (1, .int .u64 raw)] [] E (by kernel_rfl) trivial ?_
 clear E; intro a E
 refine wpList_nil ?_
 refine th_n ?_
 refine wp_seq ?_
 refine wp_seq ?_
 refine wp_region_lit ?_
 refine vr tbok 1 [] [(0, .pointer (some ⟨g1, 0, none⟩)), (1, .int .u64 raw), (8, .pointer (some ⟨g1, 0, none⟩))] [] E (by kernel_rfl) trivial ?_
 clear E; intro a E
 obtain ⟨r136, h137, hP⟩ := bind_inv hP
 obtain ⟨Fa138, Hc139, hb140⟩ := H.call [0, 1] [(2, false), (3, false), (4, false), (5, false), (6, false), (7, false)] rfl rfl ⟨flat_plain, trivial⟩
 refine e_call E rfl rfl Try.func60 rfl rfl rfl (play_Referee_none_calls g1 A3 c4 A7 c8 A11 c12 A15 c16 A19 c20 A23 c24 A27 c28 raProps raAccept raGuard raNodes (rs.1, rs.2) rxWins rxRanks rxReply rxChoice rq rrounds rmade hk5 hk9 hk13 hk17 hk21 hk25 Hc139 h137) ?_
 intro v146 w145 a hR147 E_
 obtain ⟨x_, hr_, rfl, HR149⟩ := hR147
 subst hr_
 replace E := E_ _ rfl; clear E_
 obtain ⟨H_, hc148⟩ := hb140 _ _ HR149 rfl
 replace H := H_; clear H_; try dsimp only [setn, addE, goneL] at H
 refine wpList_nil ?_
 refine th_n ?_
 refine E.cases (t := 9) rfl (fun hb_ E_ => ?_) (fun hb_ E_ => ?_)
 ·
  replace E := E_; clear E_
  have h152 : r136 = true := hb_
  clear hb_; replace hP := ite_t h152 hP
  refine c_true E rfl ?_
  refine wp_seq ?_
  refine wp_region_lit ?_
  refine vr tbok 2 [] [(4, .int .u8 0), (5, .int .i64 1)] [] E (by kernel_rfl) trivial ?_
  clear E; intro a E
  refine wpList_nil ?_
  refine th_n ?_
  refine wp_ret ?_
  refine th_ret ?_
  obtain rfl := Option.some.inj hP
  refine ret2 E rfl rfl rfl ?_
  exact ⟨_, rfl, ⟨(0, 1, rq, rrounds), A27, c28, rfl, rfl, H.sel [9, 8] rfl⟩⟩
 replace E := E_; clear E_
 have h153 : ¬ (r136 = true) := (ne_true_of_eq_false hb_)
 clear hb_; replace hP := ite_f h153 hP
 refine c_false E rfl ?_
 refine wp_skip ?_
 refine th_n ?_
 refine wp_seq ?_
 refine wp_region_lit ?_
 refine vr tbok 6 [.int .u8 rs.2] [(0, .pointer (some ⟨g1, 0, none⟩)), (1, .int .u64 raw), (6, .int .u8 rs.2)] [World.cell? w145 ⟨g1, 5, none⟩ = some (.int .u8 rs.2)] E (by kernel_rfl) ((H.box 9 rfl).cell (j := 5) rfl) ?_
 clear E; intro a E
 refine wpList_nil ?_
 refine th_n ?_
 refine wp_seq ?_
 refine wp_seq ?_
 refine wp_region_lit ?_
 refine vr tbok 5 [.bool rxWins] [(0, .pointer (some ⟨g1, 0, none⟩)), (1, .int .u64 raw), (6, .int .u8 rs.2), (19, .bool rxWins)] [World.cell? w145 ⟨g1, 6, none⟩ = some (.bool rxWins)] E (by kernel_rfl) ((H.box 9 rfl).cell (j := 6) rfl) ?_
 clear E; intro a E
 refine wpList_nil ?_
 refine th_n ?_
 obtain ⟨x157, h158, hK159⟩ := bind_inv hP
 clear hP
 refine meet_cut (fun a w161 => ∃ (x160 : Int), Fr a 85 [(0, .pointer (some ⟨g1, 0, none⟩)), (1, .int .u64 raw), (6, .int .u8 x160)] ∧ Hp S Fa w0 w161 [.ro false cBool A3 raAccept, .ro false (cInt .i64) A7 raGuard, .ro false cNode A11 raNodes, .ro false (cInt .i64) A15 rxRanks, .ro false (cSl (cInt .u8)) A19 rxReply, .ro false (cInt .u8) A23 rxChoice, .row true cS98 99 A27 c28 rrounds, .box g1 74 [.int .i64 raProps, .slice A3 (List.length raAccept) c4, .slice A7 (List.length raGuard) c8, .slice A11 (List.length raNodes) c12, .int .u8 rs.1, .int .u8 rs.2, .bool rxWins, .slice A15 (List.length rxRanks) c16, .slice A19 (List.length rxReply) c20, .slice A23 (List.length rxChoice) c24, .int .i64 rq, .slice A27 (List.length rrounds) c28, .bool rmade]] ∧ x157 = x160) ?_ ?_
 ·
  have hP := h158; clear h158; rw [play_Referee_Move_j0] at hP
  refine E.cases (t := 19) rfl (fun hb_ E_ => ?_) (fun hb_ E_ => ?_)
  ·
   replace E := E_; clear E_
   have h162 : rxWins = true := hb_
   clear hb_; replace hP := ite_t h162 hP
   refine c_true E rfl ?_
   refine wp_region_lit ?_
   refine vr tbok 6 [.int .u8 rs.1] [(0, .pointer (some ⟨g1, 0, none⟩)), (1, .int .u64 raw), (6, .int .u8 rs.1)] [World.cell? w145 ⟨g1, 4, none⟩ = some (.int .u8 rs.1)] E (by kernel_rfl) ((H.box 9 rfl).cell (j := 4) rfl) ?_
   clear E; intro a E
   refine wpList_nil ?_
   have hx_ := Option.some.inj hP
   exact .inl ⟨rfl, rs.1, E.pick _ ⟨rfl, rfl, rfl, trivial⟩, H.sel [2, 3, 4, 5, 6, 7, 8, 9] rfl, hx_.symm⟩
  replace E := E_; clear E_
  have h163 : ¬ (rxWins = true) := (ne_true_of_eq_false hb_)
  clear hb_; replace hP := ite_f h163 hP
  refine c_false E rfl ?_
  refine wp_skip ?_
  have hx_ := Option.some.inj hP
  exact .inl ⟨rfl, rs.2, E.pick _ ⟨rfl, rfl, rfl, trivial⟩, H.sel [2, 3, 4, 5, 6, 7, 8, 9] rfl, hx_.symm⟩
 clear E H h158; rintro a w161 ⟨x160, E, H, hx_⟩
 subst hx_; have hP := hK159; clear hK159
 refine th_n ?_
 refine wp_seq ?_
 refine wp_block ?_
 refine wp_seq ?_
 refine wp_region_lit ?_
 refine vr tbok 1 [] [(0, .pointer (some ⟨g1, 0, none⟩)), (1, .int .u64 raw), (6, .int .u8 x157), (26, .pointer (some ⟨g1, 0, none⟩))] [] E (by kernel_rfl) trivial ?_
 clear E; intro a E
 obtain ⟨r164, h165, hP⟩ := bind_inv hP
 obtain ⟨Fa166, Hc167, hb168⟩ := H.call [7, 6] [(0, false), (1, false), (2, false), (3, false), (4, false), (5, false)] rfl rfl ⟨flat_plain, trivial⟩
 refine e_call E rfl rfl Try.func27 rfl rfl rfl (play_Referee_Over_calls g1 A3 c4 A7 c8 A11 c12 A15 c16 A19 c20 A23 c24 A27 c28 raProps raAccept raGuard raNodes (rs.1, rs.2) rxWins rxRanks rxReply rxChoice rq rrounds rmade hk5 hk9 hk13 hk17 hk21 hk25 Hc167 h165) ?_
 intro v174 w173 a hR175 E_
 obtain ⟨x_, hr_, rfl, HR177⟩ := hR175
 subst hr_
 replace E := E_ _ rfl; clear E_
 obtain ⟨H_, hc176⟩ := hb168 _ _ HR177 rfl
 replace H := H_; clear H_; try dsimp only [setn, addE, goneL] at H
 refine vr tbok 1 [] [(0, .pointer (some ⟨g1, 0, none⟩)), (1, .int .u64 raw), (6, .int .u8 x157), (25, .bool r164)] [] E (by kernel_rfl) trivial ?_
 clear E; intro a E
 refine wpList_nil ?_
 refine th_n ?_
 refine E.cases (t := 25) rfl (fun hb_ E_ => ?_) (fun hb_ E_ => ?_)
 ·
  replace E := E_; clear E_
  have h180 : r164 = true := hb_
  clear hb_; replace hP := ite_t h180 hP
  refine c_true E rfl ?_
  refine wp_seq ?_
  refine wp_region_lit ?_
  refine vr tbok 2 [] [(4, .int .u8 0), (5, .int .i64 351)] [] E (by kernel_rfl) trivial ?_
  clear E; intro a E
  refine wpList_nil ?_
  refine th_n ?_
  refine wp_ret ?_
  refine bl_ret ?_
  refine th_ret ?_
  obtain rfl := Option.some.inj hP
  refine ret2 E rfl rfl rfl ?_
  exact ⟨_, rfl, ⟨(0, 351, rq, rrounds), A27, c28, rfl, rfl, H.sel [9, 8] rfl⟩⟩
 replace E := E_; clear E_
 have h181 : ¬ (r164 = true) := (ne_true_of_eq_false hb_)
 clear hb_; replace hP := ite_f h181 hP
 refine c_false E rfl ?_
 refine wp_seq ?_
 refine wp_region_lit ?_
 refine vr tbok 6 [.int .u64 (IntKind.u64.wrap x157), .int .u64 (andNotV .u64 raw (IntKind.u64.wrap x157))] [(0, .pointer (some ⟨g1, 0, none⟩)), (1, .int .u64 raw), (28, .bool ((andNotV .u64 raw (IntKind.u64.wrap x157) : Int) != 0))] [IntKind.u64.wrap x157 = (IntKind.u64.wrap x157), IntKind.u64.wrap (BitVec.ofInt (IntKind.bits .u64) raw &&& ~~~ BitVec.ofInt (IntKind.bits .u64) (IntKind.u64.wrap x157)).toNat = andNotV .u64 raw (IntKind.u64.wrap x157)] E (by kernel_rfl) ⟨rfl, rfl⟩ ?_
 clear E; intro a E
 refine wpList_nil ?_
 refine th_n ?_
 refine E.cases (t := 28) rfl (fun hb_ E_ => ?_) (fun hb_ E_ => ?_)
 ·
  replace E := E_; clear E_
  have h182 : ¬ ((andNotV .u64 raw (IntKind.u64.wrap x157) : Int) = 0) := bne_iff_ne.1 hb_
  clear hb_; replace hP := ite_f h182 hP
  refine c_true E rfl ?_
  refine wp_seq ?_
  refine wp_region_lit ?_
  refine vr tbok 2 [] [(4, .int .u8 0), (5, .int .i64 14)] [] E (by kernel_rfl) trivial ?_
  clear E; intro a E
  refine wpList_nil ?_
  refine th_n ?_
  refine wp_ret ?_
  refine bl_ret ?_
  refine th_ret ?_
  obtain rfl := Option.some.inj hP
  refine ret2 E rfl rfl rfl ?_
  exact ⟨_, rfl, ⟨(0, 14, rq, rrounds), A27, c28, rfl, rfl, H.sel [9, 8] rfl⟩⟩
 replace E := E_; clear E_
 have h183 : (andNotV .u64 raw (IntKind.u64.wrap x157) : Int) = 0 := bne_eq_false_iff_eq.1 hb_
 clear hb_; replace hP := ite_t h183 hP
 refine c_false E rfl ?_
 refine wp_seq ?_
 refine wp_region_lit ?_
 refine vr tbok 7 [.slice A27 (List.length rrounds) c28] [(0, .pointer (some ⟨g1, 0, none⟩)), (1, .int .u64 raw), (34, .bool (decide (1024 ≤ (((List.length rrounds) : Nat) : Int))))] [World.cell? w173 ⟨g1, 11, none⟩ = some (.slice A27 (List.length rrounds) c28)] E (by kernel_rfl) ((H.box 9 rfl).cell (j := 11) rfl) ?_
 clear E; intro a E
 refine wpList_nil ?_
 refine th_n ?_
 refine E.cases (t := 34) rfl (fun hb_ E_ => ?_) (fun hb_ E_ => ?_)
 ·
  replace E := E_; clear E_
  have h184 : 1024 ≤ (((List.length rrounds) : Nat) : Int) := of_decide_eq_true hb_
  clear hb_; replace hP := ite_t h184 hP
  refine c_true E rfl ?_
  refine wp_seq ?_
  refine wp_region_lit ?_
  refine vr tbok 2 [] [(4, .int .u8 0), (5, .int .i64 3)] [] E (by kernel_rfl) trivial ?_
  clear E; intro a E
  refine wpList_nil ?_
  refine th_n ?_
  refine wp_ret ?_
  refine bl_ret ?_
  refine th_ret ?_
  obtain rfl := Option.some.inj hP
  refine ret2 E rfl rfl rfl ?_
  exact ⟨_, rfl, ⟨(0, 3, rq, rrounds), A27, c28, rfl, rfl, H.sel [9, 8] rfl⟩⟩
 replace E := E_; clear E_
 have h185 : ¬ (1024 ≤ (((List.length rrounds) : Nat) : Int)) := of_decide_eq_false hb_
 clear hb_; replace hP := ite_f h185 hP
 refine c_false E rfl ?_
 refine wp_skip ?_
 refine bl_n ?_
 refine th_n ?_
 refine wp_seq ?_
 refine wp_region_lit ?_
 refine vr tbok 3 [.int .u8 (IntKind.u8.wrap raw)] [(0, .pointer (some ⟨g1, 0, none⟩)), (41, .pointer (some ⟨g1, 0, none⟩)), (43, .int .u8 (IntKind.u8.wrap raw))] [IntKind.u8.wrap raw = (IntKind.u8.wrap raw)] E (by kernel_rfl) (rfl) ?_
 clear E; intro a E
 obtain ⟨r186, h187, hP⟩ := bind_inv hP
 obtain ⟨Fa188, Hc189, hb190⟩ := H.call [9, 8] [(0, false), (1, false), (2, false), (3, false), (4, false), (5, false)] rfl rfl ⟨flat_plain, trivial⟩
 refine e_call E rfl rfl Try.func61 rfl rfl rfl (play_Referee_letter_calls g1 A3 c4 A7 c8 A11 c12 A15 c16 A19 c20 A23 c24 A27 c28 raProps raAccept raGuard raNodes (rs.1, rs.2) rxWins rxRanks rxReply rxChoice rq rrounds rmade (IntKind.u8.wrap raw) hk5 hk9 hk13 hk17 hk21 hk25 Hc189 h187) ?_
 intro v196 w195 a hR197 E_
 obtain ⟨x_, hr_, rfl, HR199⟩ := hR197
 subst hr_
 replace E := E_ _ rfl; clear E_
 obtain ⟨H_, hc198⟩ := hb190 _ _ HR199 rfl
 replace H := H_; clear H_; try dsimp only [setn, addE, goneL] at H
 refine vr tbok 1 [] [(0, .pointer (some ⟨g1, 0, none⟩)), (7, .int .u8 r186)] [] E (by kernel_rfl) trivial ?_
 clear E; intro a E
 refine wpList_nil ?_
 refine th_n ?_
 refine wp_seq ?_
 obtain ⟨g207, hP⟩ := ask_inv hP
 refine meet_cut (fun a w217 => ∃ (A215 : Option Addr) (c216 : Nat), Fr a 85 [(0, .pointer (some ⟨g1, 0, none⟩)), (7, .int .u8 r186)] ∧ Hp S Fa w0 w217 [.box g1 74 [.int .i64 raProps, .slice A3 (List.length raAccept) c4, .slice A7 (List.length raGuard) c8, .slice A11 (List.length raNodes) c12, .int .u8 rs.1, .int .u8 rs.2, .bool rxWins, .slice A15 (List.length rxRanks) c16, .slice A19 (List.length rxReply) c20, .slice A23 (List.length rxChoice) c24, .int .i64 rq, .slice A215 (List.length (rrounds ++ ([(r186, rq)] : List (Int × Int)))) c216, .bool rmade], .ro false cBool A3 raAccept, .ro false (cInt .i64) A7 raGuard, .ro false cNode A11 raNodes, .ro false (cInt .i64) A15 rxRanks, .ro false (cSl (cInt .u8)) A19 rxReply, .ro false (cInt .u8) A23 rxChoice, .row true cS98 99 A215 c216 (rrounds ++ ([(r186, rq)] : List (Int × Int)))]) ?_ ?_
 ·
  have HR221 := H
  refine dr_start (S := fun w_ => Chg (atL [.row true cS98 99 A27 c28 rrounds, .box g1 74 [.int .i64 raProps, .slice A3 (List.length raAccept) c4, .slice A7 (List.length raGuard) c8, .slice A11 (List.length raNodes) c12, .int .u8 rs.1, .int .u8 rs.2, .bool rxWins, .slice A15 (List.length rxRanks) c16, .slice A19 (List.length rxReply) c20, .slice A23 (List.length rxChoice) c24, .int .i64 rq, .slice A27 (List.length rrounds) c28, .bool rmade]]) w195 w_) (by kernel_rfl) ?_
  intro w218 hc219
  have HS220 : Chg (atL [.row true cS98 99 A27 c28 rrounds, .box g1 74 [.int .i64 raProps, .slice A3 (List.length raAccept) c4, .slice A7 (List.length raGuard) c8, .slice A11 (List.length raNodes) c12, .int .u8 rs.1, .int .u8 rs.2, .bool rxWins, .slice A15 (List.length rxRanks) c16, .slice A19 (List.length rxReply) c20, .slice A23 (List.length rxChoice) c24, .int .i64 rq, .slice A27 (List.length rrounds) c28, .bool rmade]]) w195 w218 := hc219.mono (fun _ _ h_ => h_.elim)
  replace H := H.ext hc219
  refine dr tbok (by kernel_rfl) [0, 1, 2, 3, 5, 6, 7, 8] [] [(0, .pointer (some ⟨g1, 0, none⟩)), (7, .int .u8 r186), (45, .pointer (some ⟨g1, 0, none⟩)), (48, .pointer (some ⟨g1, 11, none⟩)), (50, .int .u8 r186), (53, .pointer (some ⟨g1, 10, none⟩))] (fun w_ => []) 8 E (fun _ _ => by kernel_rfl) (fun w_ hS_ => trivial) (by kernel_rfl) HS220 ?_
  clear E; intro a E
  refine wpAnyH_all (rs := [4, 9]) (by kernel_rfl) (by simp) ?_
  refine all2 ?_ ?_
  ·
   refine wpOp_of_list rfl ?_
   refine vr tbok 1 [.slice A27 (List.length rrounds) c28] [(0, .pointer (some ⟨g1, 0, none⟩)), (7, .int .u8 r186), (45, .pointer (some ⟨g1, 0, none⟩)), (48, .pointer (some ⟨g1, 11, none⟩)), (49, .slice A27 (List.length rrounds) c28), (50, .int .u8 r186), (53, .pointer (some ⟨g1, 10, none⟩))] [World.cell? w218 ⟨g1, 11, none⟩ = some (.slice A27 (List.length rrounds) c28)] E (by kernel_rfl) ((H.box 11 rfl).cell (j := 11) rfl) ?_
   clear E; intro a E
   refine wpList_nil ?_
   refine th_n ⟨HS220, ?_⟩
   refine wpAnyH_all (rs := [9]) (by kernel_rfl) (by simp) ?_
   refine all1 ?_
   refine wpOp_of_list rfl ?_
   refine vr tbok 1 [.int .i64 rq] [(0, .pointer (some ⟨g1, 0, none⟩)), (7, .int .u8 r186), (45, .pointer (some ⟨g1, 0, none⟩)), (49, .slice A27 (List.length rrounds) c28), (50, .int .u8 r186), (53, .pointer (some ⟨g1, 10, none⟩)), (54, .int .i64 rq)] [World.cell? w218 ⟨g1, 10, none⟩ = some (.int .i64 rq)] E (by kernel_rfl) ((H.box 11 rfl).cell (j := 10) rfl) ?_
   clear E; intro a E
   refine wpList_nil ?_
   refine th_n ⟨HS220, ?_⟩
   refine wpAnyH_all (rs := [10]) (by kernel_rfl) (by simp) ?_
   refine all1 ?_
   refine wpOp_of_list rfl ?_
   refine e_build (ps := [(0, .int .u8 r186), (1, .int .i64 rq)]) (v := .agg #[.int .u8 r186, .int .i64 rq]) E rfl rfl tbok rfl (by kernel_rfl) rfl ?_
   clear E; intro a E
   refine wpList_nil ?_
   refine th_n ⟨HS220, ?_⟩
   refine wpAnyH_all (rs := [11]) (by kernel_rfl) (by simp) ?_
   refine all1 ?_
   refine wpOp_of_list rfl ?_
   refine h_buildSlice (ps := [(0, .agg #[.int .u8 r186, .int .i64 rq])]) (cs := [.int .u8 r186, .int .i64 rq]) H E rfl rfl tbok rfl rfl (by kernel_rfl) ?_
   intro w223 g222 a hc224 hg226 H_ E_
   replace E := E_ _ rfl; clear E_
   have hin227 : ∀ q_, q_ < w195.heap.size → q_ = g222 → (atL [.row true cS98 99 A27 c28 rrounds, .box g1 74 [.int .i64 raProps, .slice A3 (List.length raAccept) c4, .slice A7 (List.length raGuard) c8, .slice A11 (List.length raNodes) c12, .int .u8 rs.1, .int .u8 rs.2, .bool rxWins, .slice A15 (List.length rxRanks) c16, .slice A19 (List.length rxReply) c20, .slice A23 (List.length rxChoice) c24, .int .i64 rq, .slice A27 (List.length rrounds) c28, .bool rmade]]) q_ := fun q_ h1_ h2_ => by have hs_ := HS220.size; have h4_ : q_ = g222 := h2_; exfalso; omega
   replace HS220 := HS220.ext hc224
   replace H := H_; clear H_; try dsimp only [setn, addE, goneL] at H
   refine wpList_nil ?_
   refine th_n ⟨HS220, ?_⟩
   refine wpAnyH_all (rs := [12]) (by kernel_rfl) (by simp) ?_
   refine all1 ?_
   refine wpOp_of_list rfl ?_
   refine h_append cS98 (xs := rrounds) (ys := ([(r186, rq)] : List (Int × Int))) ((0, 0) : Int × Int) H 10 rfl E rfl rfl tbok rfl rfl rfl rfl rfl (fun _ _ => rfl) rfl rfl (fun _ HF_ => HF_.srcB 12 rfl (⟨_, _, rfl, rfl, rfl⟩)) g207 ?_
   intro w228 A229 c230 a hc231 hA232 H_ E_
   replace E := E_ _ rfl; clear E_
   have hin233 : ∀ q_, q_ < w195.heap.size → At A229 q_ → (atL [.row true cS98 99 A27 c28 rrounds, .box g1 74 [.int .i64 raProps, .slice A3 (List.length raAccept) c4, .slice A7 (List.length raGuard) c8, .slice A11 (List.length raNodes) c12, .int .u8 rs.1, .int .u8 rs.2, .bool rxWins, .slice A15 (List.length rxRanks) c16, .slice A19 (List.length rxReply) c20, .slice A23 (List.length rxChoice) c24, .int .i64 rq, .slice A27 (List.length rrounds) c28, .bool rmade]]) q_ := fun q_ h1_ h2_ => (hA232 q_ h2_).elim ((fun _ _ h_ => Or.inl h_) q_ h1_) (fun h3_ => by have hs_ := HS220.size; exfalso; omega)
   replace HS220 := HS220.trans hc231 (fun k_ hk_ h_ => (fun _ _ h_ => Or.inl h_) k_ hk_ h_)
   replace H := H_; clear H_; try dsimp only [setn, addE, goneL] at H
   refine wpList_nil ?_
   refine th_n ⟨HS220, ?_⟩
   refine dr tbok (by kernel_rfl) [13, 14] [] [(0, .pointer (some ⟨g1, 0, none⟩)), (7, .int .u8 r186), (57, .slice A229 (List.length (rrounds ++ ([(r186, rq)] : List (Int × Int)))) c230), (59, .pointer (some ⟨g1, 11, none⟩))] (fun w_ => []) 1 E (fun _ _ => by kernel_rfl) (fun w_ hS_ => trivial) (by kernel_rfl) HS220 ?_
   clear E; intro a E
   refine wpAnyH_all (rs := [15]) (by kernel_rfl) (by simp) ?_
   refine all1 ?_
   refine wpOp_of_list rfl ?_
   refine h_store (g := g1) (off := 11) H 11 rfl E rfl rfl rfl rfl tbok rfl rfl rfl rfl rfl ?_
   clear E; intro w234 a hc235 H_ E
   replace HS220 := HS220.trans hc235 (fun k_ hk_ h_ => (fun _ _ h_ => Or.inr (Or.inl h_)) k_ hk_ h_)
   replace H := H_; clear H_; try dsimp only [setn, addE, goneL] at H
   refine wpList_nil ?_
   refine th_n ⟨HS220, ?_⟩
   refine dr_done (by kernel_rfl) ?_
   exact .inl ⟨rfl, A229, c230, E.pick _ ⟨rfl, rfl, trivial⟩, H.sel [11, 0, 1, 2, 3, 4, 5, 10] rfl⟩
  refine wpOp_of_list rfl ?_
  refine vr tbok 1 [.int .i64 rq] [(0, .pointer (some ⟨g1, 0, none⟩)), (7, .int .u8 r186), (45, .pointer (some ⟨g1, 0, none⟩)), (48, .pointer (some ⟨g1, 11, none⟩)), (50, .int .u8 r186), (53, .pointer (some ⟨g1, 10, none⟩)), (54, .int .i64 rq)] [World.cell? w218 ⟨g1, 10, none⟩ = some (.int .i64 rq)] E (by kernel_rfl) ((H.box 11 rfl).cell (j := 10) rfl) ?_
  clear E; intro a E
  refine wpList_nil ?_
  refine th_n ⟨HS220, ?_⟩
  refine wpAnyH_all (rs := [4, 10]) (by kernel_rfl) (by simp) ?_
  refine all2 ?_ ?_
  ·
   refine wpOp_of_list rfl ?_
   refine vr tbok 1 [.slice A27 (List.length rrounds) c28] [(0, .pointer (some ⟨g1, 0, none⟩)), (7, .int .u8 r186), (45, .pointer (some ⟨g1, 0, none⟩)), (48, .pointer (some ⟨g1, 11, none⟩)), (49, .slice A27 (List.length rrounds) c28), (50, .int .u8 r186), (54, .int .i64 rq)] [World.cell? w218 ⟨g1, 11, none⟩ = some (.slice A27 (List.length rrounds) c28)] E (by kernel_rfl) ((H.box 11 rfl).cell (j := 11) rfl) ?_
   clear E; intro a E
   refine wpList_nil ?_
   refine th_n ⟨HS220, ?_⟩
   refine wpAnyH_all (rs := [10]) (by kernel_rfl) (by simp) ?_
   refine all1 ?_
   refine wpOp_of_list rfl ?_
   refine e_build (ps := [(0, .int .u8 r186), (1, .int .i64 rq)]) (v := .agg #[.int .u8 r186, .int .i64 rq]) E rfl rfl tbok rfl (by kernel_rfl) rfl ?_
   clear E; intro a E
   refine wpList_nil ?_
   refine th_n ⟨HS220, ?_⟩
   refine wpAnyH_all (rs := [11]) (by kernel_rfl) (by simp) ?_
   refine all1 ?_
   refine wpOp_of_list rfl ?_
   refine h_buildSlice (ps := [(0, .agg #[.int .u8 r186, .int .i64 rq])]) (cs := [.int .u8 r186, .int .i64 rq]) H E rfl rfl tbok rfl rfl (by kernel_rfl) ?_
   intro w237 g236 a hc238 hg240 H_ E_
   replace E := E_ _ rfl; clear E_
   have hin241 : ∀ q_, q_ < w195.heap.size → q_ = g236 → (atL [.row true cS98 99 A27 c28 rrounds, .box g1 74 [.int .i64 raProps, .slice A3 (List.length raAccept) c4, .slice A7 (List.length raGuard) c8, .slice A11 (List.length raNodes) c12, .int .u8 rs.1, .int .u8 rs.2, .bool rxWins, .slice A15 (List.length rxRanks) c16, .slice A19 (List.length rxReply) c20, .slice A23 (List.length rxChoice) c24, .int .i64 rq, .slice A27 (List.length rrounds) c28, .bool rmade]]) q_ := fun q_ h1_ h2_ => by have hs_ := HS220.size; have h4_ : q_ = g236 := h2_; exfalso; omega
   replace HS220 := HS220.ext hc238
   replace H := H_; clear H_; try dsimp only [setn, addE, goneL] at H
   refine wpList_nil ?_
   refine th_n ⟨HS220, ?_⟩
   refine wpAnyH_all (rs := [12]) (by kernel_rfl) (by simp) ?_
   refine all1 ?_
   refine wpOp_of_list rfl ?_
   refine h_append cS98 (xs := rrounds) (ys := ([(r186, rq)] : List (Int × Int))) ((0, 0) : Int × Int) H 10 rfl E rfl rfl tbok rfl rfl rfl rfl rfl (fun _ _ => rfl) rfl rfl (fun _ HF_ => HF_.srcB 12 rfl (⟨_, _, rfl, rfl, rfl⟩)) g207 ?_
   intro w242 A243 c244 a hc245 hA246 H_ E_
   replace E := E_ _ rfl; clear E_
   have hin247 : ∀ q_, q_ < w195.heap.size → At A243 q_ → (atL [.row true cS98 99 A27 c28 rrounds, .box g1 74 [.int .i64 raProps, .slice A3 (List.length raAccept) c4, .slice A7 (List.length raGuard) c8, .slice A11 (List.length raNodes) c12, .int .u8 rs.1, .int .u8 rs.2, .bool rxWins, .slice A15 (List.length rxRanks) c16, .slice A19 (List.length rxReply) c20, .slice A23 (List.length rxChoice) c24, .int .i64 rq, .slice A27 (List.length rrounds) c28, .bool rmade]]) q_ := fun q_ h1_ h2_ => (hA246 q_ h2_).elim ((fun _ _ h_ => Or.inl h_) q_ h1_) (fun h3_ => by have hs_ := HS220.size; exfalso; omega)
   replace HS220 := HS220.trans hc245 (fun k_ hk_ h_ => (fun _ _ h_ => Or.inl h_) k_ hk_ h_)
   replace H := H_; clear H_; try dsimp only [setn, addE, goneL] at H
   refine wpList_nil ?_
   refine th_n ⟨HS220, ?_⟩
   refine dr tbok (by kernel_rfl) [13, 14] [] [(0, .pointer (some ⟨g1, 0, none⟩)), (7, .int .u8 r186), (57, .slice A243 (List.length (rrounds ++ ([(r186, rq)] : List (Int × Int)))) c244), (59, .pointer (some ⟨g1, 11, none⟩))] (fun w_ => []) 1 E (fun _ _ => by kernel_rfl) (fun w_ hS_ => trivial) (by kernel_rfl) HS220 ?_
   clear E; intro a E
   refine wpAnyH_all (rs := [15]) (by kernel_rfl) (by simp) ?_
   refine all1 ?_
   refine wpOp_of_list rfl ?_
   refine h_store (g := g1) (off := 11) H 11 rfl E rfl rfl rfl rfl tbok rfl rfl rfl rfl rfl ?_
   clear E; intro w248 a hc249 H_ E
   replace HS220 := HS220.trans hc249 (fun k_ hk_ h_ => (fun _ _ h_ => Or.inr (Or.inl h_)) k_ hk_ h_)
   replace H := H_; clear H_; try dsimp only [setn, addE, goneL] at H
   refine wpList_nil ?_
   refine th_n ⟨HS220, ?_⟩
   refine dr_done (by kernel_rfl) ?_
   exact .inl ⟨rfl, A243, c244, E.pick _ ⟨rfl, rfl, trivial⟩, H.sel [11, 0, 1, 2, 3, 4, 5, 10] rfl⟩
  refine wpOp_of_list rfl ?_
  refine e_build (ps := [(0, .int .u8 r186), (1, .int .i64 rq)]) (v := .agg #[.int .u8 r186, .int .i64 rq]) E rfl rfl tbok rfl (by kernel_rfl) rfl ?_
  clear E; intro a E
  refine wpList_nil ?_
  refine th_n ⟨HS220, ?_⟩
  refine wpAnyH_all (rs := [4, 11]) (by kernel_rfl) (by simp) ?_
  refine all2 ?_ ?_
  ·
   refine wpOp_of_list rfl ?_
   refine vr tbok 1 [.slice A27 (List.length rrounds) c28] [(0, .pointer (some ⟨g1, 0, none⟩)), (7, .int .u8 r186), (45, .pointer (some ⟨g1, 0, none⟩)), (48, .pointer (some ⟨g1, 11, none⟩)), (49, .slice A27 (List.length rrounds) c28), (55, .agg #[.int .u8 r186, .int .i64 rq])] [World.cell? w218 ⟨g1, 11, none⟩ = some (.slice A27 (List.length rrounds) c28)] E (by kernel_rfl) ((H.box 11 rfl).cell (j := 11) rfl) ?_
   clear E; intro a E
   refine wpList_nil ?_
   refine th_n ⟨HS220, ?_⟩
   refine wpAnyH_all (rs := [11]) (by kernel_rfl) (by simp) ?_
   refine all1 ?_
   refine wpOp_of_list rfl ?_
   refine h_buildSlice (ps := [(0, .agg #[.int .u8 r186, .int .i64 rq])]) (cs := [.int .u8 r186, .int .i64 rq]) H E rfl rfl tbok rfl rfl (by kernel_rfl) ?_
   intro w251 g250 a hc252 hg254 H_ E_
   replace E := E_ _ rfl; clear E_
   have hin255 : ∀ q_, q_ < w195.heap.size → q_ = g250 → (atL [.row true cS98 99 A27 c28 rrounds, .box g1 74 [.int .i64 raProps, .slice A3 (List.length raAccept) c4, .slice A7 (List.length raGuard) c8, .slice A11 (List.length raNodes) c12, .int .u8 rs.1, .int .u8 rs.2, .bool rxWins, .slice A15 (List.length rxRanks) c16, .slice A19 (List.length rxReply) c20, .slice A23 (List.length rxChoice) c24, .int .i64 rq, .slice A27 (List.length rrounds) c28, .bool rmade]]) q_ := fun q_ h1_ h2_ => by have hs_ := HS220.size; have h4_ : q_ = g250 := h2_; exfalso; omega
   replace HS220 := HS220.ext hc252
   replace H := H_; clear H_; try dsimp only [setn, addE, goneL] at H
   refine wpList_nil ?_
   refine th_n ⟨HS220, ?_⟩
   refine wpAnyH_all (rs := [12]) (by kernel_rfl) (by simp) ?_
   refine all1 ?_
   refine wpOp_of_list rfl ?_
   refine h_append cS98 (xs := rrounds) (ys := ([(r186, rq)] : List (Int × Int))) ((0, 0) : Int × Int) H 10 rfl E rfl rfl tbok rfl rfl rfl rfl rfl (fun _ _ => rfl) rfl rfl (fun _ HF_ => HF_.srcB 12 rfl (⟨_, _, rfl, rfl, rfl⟩)) g207 ?_
   intro w256 A257 c258 a hc259 hA260 H_ E_
   replace E := E_ _ rfl; clear E_
   have hin261 : ∀ q_, q_ < w195.heap.size → At A257 q_ → (atL [.row true cS98 99 A27 c28 rrounds, .box g1 74 [.int .i64 raProps, .slice A3 (List.length raAccept) c4, .slice A7 (List.length raGuard) c8, .slice A11 (List.length raNodes) c12, .int .u8 rs.1, .int .u8 rs.2, .bool rxWins, .slice A15 (List.length rxRanks) c16, .slice A19 (List.length rxReply) c20, .slice A23 (List.length rxChoice) c24, .int .i64 rq, .slice A27 (List.length rrounds) c28, .bool rmade]]) q_ := fun q_ h1_ h2_ => (hA260 q_ h2_).elim ((fun _ _ h_ => Or.inl h_) q_ h1_) (fun h3_ => by have hs_ := HS220.size; exfalso; omega)
   replace HS220 := HS220.trans hc259 (fun k_ hk_ h_ => (fun _ _ h_ => Or.inl h_) k_ hk_ h_)
   replace H := H_; clear H_; try dsimp only [setn, addE, goneL] at H
   refine wpList_nil ?_
   refine th_n ⟨HS220, ?_⟩
   refine dr tbok (by kernel_rfl) [13, 14] [] [(0, .pointer (some ⟨g1, 0, none⟩)), (7, .int .u8 r186), (57, .slice A257 (List.length (rrounds ++ ([(r186, rq)] : List (Int × Int)))) c258), (59, .pointer (some ⟨g1, 11, none⟩))] (fun w_ => []) 1 E (fun _ _ => by kernel_rfl) (fun w_ hS_ => trivial) (by kernel_rfl) HS220 ?_
   clear E; intro a E
   refine wpAnyH_all (rs := [15]) (by kernel_rfl) (by simp) ?_
   refine all1 ?_
   refine wpOp_of_list rfl ?_
   refine h_store (g := g1) (off := 11) H 11 rfl E rfl rfl rfl rfl tbok rfl rfl rfl rfl rfl ?_
   clear E; intro w262 a hc263 H_ E
   replace HS220 := HS220.trans hc263 (fun k_ hk_ h_ => (fun _ _ h_ => Or.inr (Or.inl h_)) k_ hk_ h_)
   replace H := H_; clear H_; try dsimp only [setn, addE, goneL] at H
   refine wpList_nil ?_
   refine th_n ⟨HS220, ?_⟩
   refine dr_done (by kernel_rfl) ?_
   exact .inl ⟨rfl, A257, c258, E.pick _ ⟨rfl, rfl, trivial⟩, H.sel [11, 0, 1, 2, 3, 4, 5, 10] rfl⟩
  refine wpOp_of_list rfl ?_
  refine h_buildSlice (ps := [(0, .agg #[.int .u8 r186, .int .i64 rq])]) (cs := [.int .u8 r186, .int .i64 rq]) H E rfl rfl tbok rfl rfl (by kernel_rfl) ?_
  intro w265 g264 a hc266 hg268 H_ E_
  replace E := E_ _ rfl; clear E_
  have hin269 : ∀ q_, q_ < w195.heap.size → q_ = g264 → (atL [.row true cS98 99 A27 c28 rrounds, .box g1 74 [.int .i64 raProps, .slice A3 (List.length raAccept) c4, .slice A7 (List.length raGuard) c8, .slice A11 (List.length raNodes) c12, .int .u8 rs.1, .int .u8 rs.2, .bool rxWins, .slice A15 (List.length rxRanks) c16, .slice A19 (List.length rxReply) c20, .slice A23 (List.length rxChoice) c24, .int .i64 rq, .slice A27 (List.length rrounds) c28, .bool rmade]]) q_ := fun q_ h1_ h2_ => by have hs_ := HS220.size; have h4_ : q_ = g264 := h2_; exfalso; omega
  replace HS220 := HS220.ext hc266
  replace H := H_; clear H_; try dsimp only [setn, addE, goneL] at H
  refine wpList_nil ?_
  refine th_n ⟨HS220, ?_⟩
  refine wpAnyH_all (rs := [4]) (by kernel_rfl) (by simp) ?_
  refine all1 ?_
  refine wpOp_of_list rfl ?_
  refine vr tbok 1 [.slice A27 (List.length rrounds) c28] [(0, .pointer (some ⟨g1, 0, none⟩)), (7, .int .u8 r186), (45, .pointer (some ⟨g1, 0, none⟩)), (48, .pointer (some ⟨g1, 11, none⟩)), (49, .slice A27 (List.length rrounds) c28), (56, .slice (some ⟨g264, 0, none⟩) 1 1)] [World.cell? w265 ⟨g1, 11, none⟩ = some (.slice A27 (List.length rrounds) c28)] E (by kernel_rfl) ((H.box 11 rfl).cell (j := 11) rfl) ?_
  clear E; intro a E
  refine wpList_nil ?_
  refine th_n ⟨HS220, ?_⟩
  refine wpAnyH_all (rs := [12]) (by kernel_rfl) (by simp) ?_
  refine all1 ?_
  refine wpOp_of_list rfl ?_
  refine h_append cS98 (xs := rrounds) (ys := ([(r186, rq)] : List (Int × Int))) ((0, 0) : Int × Int) H 10 rfl E rfl rfl tbok rfl rfl rfl rfl rfl (fun _ _ => rfl) rfl rfl (fun _ HF_ => HF_.srcB 12 rfl (⟨_, _, rfl, rfl, rfl⟩)) g207 ?_
  intro w270 A271 c272 a hc273 hA274 H_ E_
  replace E := E_ _ rfl; clear E_
  have hin275 : ∀ q_, q_ < w195.heap.size → At A271 q_ → (atL [.row true cS98 99 A27 c28 rrounds, .box g1 74 [.int .i64 raProps, .slice A3 (List.length raAccept) c4, .slice A7 (List.length raGuard) c8, .slice A11 (List.length raNodes) c12, .int .u8 rs.1, .int .u8 rs.2, .bool rxWins, .slice A15 (List.length rxRanks) c16, .slice A19 (List.length rxReply) c20, .slice A23 (List.length rxChoice) c24, .int .i64 rq, .slice A27 (List.length rrounds) c28, .bool rmade]]) q_ := fun q_ h1_ h2_ => (hA274 q_ h2_).elim ((fun _ _ h_ => Or.inl h_) q_ h1_) (fun h3_ => by have hs_ := HS220.size; exfalso; omega)
  replace HS220 := HS220.trans hc273 (fun k_ hk_ h_ => (fun _ _ h_ => Or.inl h_) k_ hk_ h_)
  replace H := H_; clear H_; try dsimp only [setn, addE, goneL] at H
  refine wpList_nil ?_
  refine th_n ⟨HS220, ?_⟩
  refine dr tbok (by kernel_rfl) [13, 14] [] [(0, .pointer (some ⟨g1, 0, none⟩)), (7, .int .u8 r186), (57, .slice A271 (List.length (rrounds ++ ([(r186, rq)] : List (Int × Int)))) c272), (59, .pointer (some ⟨g1, 11, none⟩))] (fun w_ => []) 1 E (fun _ _ => by kernel_rfl) (fun w_ hS_ => trivial) (by kernel_rfl) HS220 ?_
  clear E; intro a E
  refine wpAnyH_all (rs := [15]) (by kernel_rfl) (by simp) ?_
  refine all1 ?_
  refine wpOp_of_list rfl ?_
  refine h_store (g := g1) (off := 11) H 11 rfl E rfl rfl rfl rfl tbok rfl rfl rfl rfl rfl ?_
  clear E; intro w276 a hc277 H_ E
  replace HS220 := HS220.trans hc277 (fun k_ hk_ h_ => (fun _ _ h_ => Or.inr (Or.inl h_)) k_ hk_ h_)
  replace H := H_; clear H_; try dsimp only [setn, addE, goneL] at H
  refine wpList_nil ?_
  refine th_n ⟨HS220, ?_⟩
  refine dr_done (by kernel_rfl) ?_
  exact .inl ⟨rfl, A271, c272, E.pick _ ⟨rfl, rfl, trivial⟩, H.sel [11, 0, 1, 2, 3, 4, 5, 10] rfl⟩
 clear E H; rintro a w217 ⟨A215, c216, E, H⟩
 refine th_n ?_
 refine wp_seq ?_
 obtain ⟨g278, hP⟩ := ask_inv hP
 obtain ⟨b279, o280, e_b279⟩ := (H.rd 2 rds_ro).addr (idx_pos g278)
 subst e_b279
 obtain ⟨r281, h282, hP⟩ := bind_inv hP
 refine meet_cut (fun a w292 => Fr a 85 [(7, .int .u8 r186)] ∧ Hp S Fa w0 w292 [.ro false cBool A3 raAccept, .ro false (cInt .i64) (some ⟨b279, o280, none⟩) raGuard, .ro false cNode A11 raNodes, .ro false (cInt .i64) A15 rxRanks, .ro false (cSl (cInt .u8)) A19 rxReply, .ro false (cInt .u8) A23 rxChoice, .row true cS98 99 A215 c216 (rrounds ++ ([(r186, rq)] : List (Int × Int))), .box g1 74 [.int .i64 raProps, .slice A3 (List.length raAccept) c4, .slice (some ⟨b279, o280, none⟩) (List.length raGuard) c8, .slice A11 (List.length raNodes) c12, .int .u8 rs.1, .int .u8 rs.2, .bool rxWins, .slice A15 (List.length rxRanks) c16, .slice A19 (List.length rxReply) c20, .slice A23 (List.length rxChoice) c24, .int .i64 r281.1, .slice A215 (List.length (rrounds ++ ([(r186, rq)] : List (Int × Int)))) c216, .bool rmade]]) ?_ ?_
 ·
  have HR296 := H
  refine dr_start (S := fun w_ => Chg (atL [.box g1 74 [.int .i64 raProps, .slice A3 (List.length raAccept) c4, .slice (some ⟨b279, o280, none⟩) (List.length raGuard) c8, .slice A11 (List.length raNodes) c12, .int .u8 rs.1, .int .u8 rs.2, .bool rxWins, .slice A15 (List.length rxRanks) c16, .slice A19 (List.length rxReply) c20, .slice A23 (List.length rxChoice) c24, .int .i64 rq, .slice A215 (List.length (rrounds ++ ([(r186, rq)] : List (Int × Int)))) c216, .bool rmade]]) w217 w_) (by kernel_rfl) ?_
  intro w293 hc294
  have HS295 : Chg (atL [.box g1 74 [.int .i64 raProps, .slice A3 (List.length raAccept) c4, .slice (some ⟨b279, o280, none⟩) (List.length raGuard) c8, .slice A11 (List.length raNodes) c12, .int .u8 rs.1, .int .u8 rs.2, .bool rxWins, .slice A15 (List.length rxRanks) c16, .slice A19 (List.length rxReply) c20, .slice A23 (List.length rxChoice) c24, .int .i64 rq, .slice A215 (List.length (rrounds ++ ([(r186, rq)] : List (Int × Int)))) c216, .bool rmade]]) w217 w293 := hc294.mono (fun _ _ h_ => h_.elim)
  replace H := H.ext hc294
  refine dr tbok (by kernel_rfl) [0, 1, 2, 3, 4, 6, 7, 8, 9, 11, 12, 13, 17] [] [(7, .int .u8 r186), (61, .pointer (some ⟨g1, 0, none⟩)), (65, .pointer (some ⟨g1, 3, none⟩)), (70, .pointer (some ⟨g1, 2, none⟩)), (74, .pointer (some ⟨g1, 10, none⟩)), (78, .int .u8 r186)] (fun w_ => []) 12 E (fun _ _ => by kernel_rfl) (fun w_ hS_ => trivial) (by kernel_rfl) HS295 ?_
  clear E; intro a E
  refine wpAnyH_all (rs := [5, 10, 14]) (by kernel_rfl) (by simp) ?_
  refine all3 ?_ ?_ ?_
  ·
   refine wpOp_of_list rfl ?_
   refine vr tbok 1 [.slice A11 (List.length raNodes) c12] [(7, .int .u8 r186), (61, .pointer (some ⟨g1, 0, none⟩)), (65, .pointer (some ⟨g1, 3, none⟩)), (66, .slice A11 (List.length raNodes) c12), (70, .pointer (some ⟨g1, 2, none⟩)), (74, .pointer (some ⟨g1, 10, none⟩)), (78, .int .u8 r186)] [World.cell? w293 ⟨g1, 3, none⟩ = some (.slice A11 (List.length raNodes) c12)] E (by kernel_rfl) ((H.box 0 rfl).cell (j := 3) rfl) ?_
   clear E; intro a E
   refine wpList_nil ?_
   refine th_n ⟨HS295, ?_⟩
   refine wpAnyH_all (rs := [10, 14]) (by kernel_rfl) (by simp) ?_
   refine all2 ?_ ?_
   ·
    refine wpOp_of_list rfl ?_
    refine vr tbok 1 [.slice (some ⟨b279, o280, none⟩) (List.length raGuard) c8] [(7, .int .u8 r186), (61, .pointer (some ⟨g1, 0, none⟩)), (66, .slice A11 (List.length raNodes) c12), (70, .pointer (some ⟨g1, 2, none⟩)), (71, .slice (some ⟨b279, o280, none⟩) (List.length raGuard) c8), (74, .pointer (some ⟨g1, 10, none⟩)), (78, .int .u8 r186)] [World.cell? w293 ⟨g1, 2, none⟩ = some (.slice (some ⟨b279, o280, none⟩) (List.length raGuard) c8)] E (by kernel_rfl) ((H.box 0 rfl).cell (j := 2) rfl) ?_
    clear E; intro a E
    refine wpList_nil ?_
    refine th_n ⟨HS295, ?_⟩
    refine wpAnyH_all (rs := [14]) (by kernel_rfl) (by simp) ?_
    refine all1 ?_
    refine wpOp_of_list rfl ?_
    refine vr tbok 1 [.int .i64 rq] [(7, .int .u8 r186), (61, .pointer (some ⟨g1, 0, none⟩)), (66, .slice A11 (List.length raNodes) c12), (71, .slice (some ⟨b279, o280, none⟩) (List.length raGuard) c8), (74, .pointer (some ⟨g1, 10, none⟩)), (75, .int .i64 rq), (78, .int .u8 r186)] [World.cell? w293 ⟨g1, 10, none⟩ = some (.int .i64 rq)] E (by kernel_rfl) ((H.box 0 rfl).cell (j := 10) rfl) ?_
    clear E; intro a E
    refine wpList_nil ?_
    refine th_n ⟨HS295, ?_⟩
    refine dr tbok (by kernel_rfl) [15, 16] [.int .i64 (List.getD raGuard (Int.toNat rq) 0)] [(7, .int .u8 r186), (61, .pointer (some ⟨g1, 0, none⟩)), (66, .slice A11 (List.length raNodes) c12), (77, .int .i64 (List.getD raGuard (Int.toNat rq) 0)), (78, .int .u8 r186)] (fun w_ => [0 ≤ rq ∧ rq < (((List.length raGuard) : Nat) : Int), World.cell? w_ ⟨b279, o280 + (Int.toNat rq) * 1, none⟩ = some (.int .i64 (List.getD raGuard (Int.toNat rq) 0))]) 7 E (fun _ _ => by kernel_rfl) (fun w_ hS_ => ⟨g278, Rds.at1 (HR296.rdk [0] hS_ 2 rds_ro rfl) 0 g278⟩) (by kernel_rfl) HS295 ?_
    clear E; intro a E
    refine wpAnyH_all (rs := [18]) (by kernel_rfl) (by simp) ?_
    refine all1 ?_
    refine wpOp_of_list rfl ?_
    obtain ⟨Fa297, Hc298, hb299⟩ := H.call [] [(3, false)] rfl rfl trivial
    refine e_call E rfl rfl Try.func62 rfl rfl rfl (guard_Go_calls A11 c12 raNodes (List.getD raGuard (Int.toNat rq) 0) r186 hk13 Hc298 h282) ?_
    rintro v300 w301 a ⟨rfl, HR302⟩ E_
    replace E := E_ _ rfl; clear E_
    obtain ⟨H_, hc303⟩ := hb299 _ _ HR302 rfl
    replace HS295 := HS295.ext (callS_ext hc303)
    replace H := H_; clear H_; try dsimp only [setn, addE, goneL] at H
    refine wpList_nil ?_
    refine th_n ⟨HS295, ?_⟩
    refine dr tbok (by kernel_rfl) [19, 20, 21, 22, 23] [] [(7, .int .u8 r186), (80, .int .i64 r281.1), (83, .pointer (some ⟨g1, 10, none⟩))] (fun w_ => []) 1 E (fun _ _ => by kernel_rfl) (fun w_ hS_ => trivial) (by kernel_rfl) HS295 ?_
    clear E; intro a E
    refine wpAnyH_all (rs := [24]) (by kernel_rfl) (by simp) ?_
    refine all1 ?_
    refine wpOp_of_list rfl ?_
    refine h_store (g := g1) (off := 10) H 0 rfl E rfl rfl rfl rfl tbok rfl rfl rfl rfl rfl ?_
    clear E; intro w304 a hc305 H_ E
    replace HS295 := HS295.trans hc305 (fun k_ hk_ h_ => (fun _ _ h_ => Or.inl h_) k_ hk_ h_)
    replace H := H_; clear H_; try dsimp only [setn, addE, goneL] at H
    refine wpList_nil ?_
    refine th_n ⟨HS295, ?_⟩
    refine dr_done (by kernel_rfl) ?_
    exact .inl ⟨rfl, E.pick _ ⟨rfl, trivial⟩, H.sel [1, 2, 3, 4, 5, 6, 7, 0] rfl⟩
   refine wpOp_of_list rfl ?_
   refine vr tbok 1 [.int .i64 rq] [(7, .int .u8 r186), (61, .pointer (some ⟨g1, 0, none⟩)), (66, .slice A11 (List.length raNodes) c12), (70, .pointer (some ⟨g1, 2, none⟩)), (74, .pointer (some ⟨g1, 10, none⟩)), (75, .int .i64 rq), (78, .int .u8 r186)] [World.cell? w293 ⟨g1, 10, none⟩ = some (.int .i64 rq)] E (by kernel_rfl) ((H.box 0 rfl).cell (j := 10) rfl) ?_
   clear E; intro a E
   refine wpList_nil ?_
   refine th_n ⟨HS295, ?_⟩
   refine wpAnyH_all (rs := [10]) (by kernel_rfl) (by simp) ?_
   refine all1 ?_
   refine wpOp_of_list rfl ?_
   refine vr tbok 1 [.slice (some ⟨b279, o280, none⟩) (List.length raGuard) c8] [(7, .int .u8 r186), (61, .pointer (some ⟨g1, 0, none⟩)), (66, .slice A11 (List.length raNodes) c12), (70, .pointer (some ⟨g1, 2, none⟩)), (71, .slice (some ⟨b279, o280, none⟩) (List.length raGuard) c8), (75, .int .i64 rq), (78, .int .u8 r186)] [World.cell? w293 ⟨g1, 2, none⟩ = some (.slice (some ⟨b279, o280, none⟩) (List.length raGuard) c8)] E (by kernel_rfl) ((H.box 0 rfl).cell (j := 2) rfl) ?_
   clear E; intro a E
   refine wpList_nil ?_
   refine th_n ⟨HS295, ?_⟩
   refine dr tbok (by kernel_rfl) [15, 16] [.int .i64 (List.getD raGuard (Int.toNat rq) 0)] [(7, .int .u8 r186), (61, .pointer (some ⟨g1, 0, none⟩)), (66, .slice A11 (List.length raNodes) c12), (77, .int .i64 (List.getD raGuard (Int.toNat rq) 0)), (78, .int .u8 r186)] (fun w_ => [0 ≤ rq ∧ rq < (((List.length raGuard) : Nat) : Int), World.cell? w_ ⟨b279, o280 + (Int.toNat rq) * 1, none⟩ = some (.int .i64 (List.getD raGuard (Int.toNat rq) 0))]) 7 E (fun _ _ => by kernel_rfl) (fun w_ hS_ => ⟨g278, Rds.at1 (HR296.rdk [0] hS_ 2 rds_ro rfl) 0 g278⟩) (by kernel_rfl) HS295 ?_
   clear E; intro a E
   refine wpAnyH_all (rs := [18]) (by kernel_rfl) (by simp) ?_
   refine all1 ?_
   refine wpOp_of_list rfl ?_
   obtain ⟨Fa306, Hc307, hb308⟩ := H.call [] [(3, false)] rfl rfl trivial
   refine e_call E rfl rfl Try.func62 rfl rfl rfl (guard_Go_calls A11 c12 raNodes (List.getD raGuard (Int.toNat rq) 0) r186 hk13 Hc307 h282) ?_
   rintro v309 w310 a ⟨rfl, HR311⟩ E_
   replace E := E_ _ rfl; clear E_
   obtain ⟨H_, hc312⟩ := hb308 _ _ HR311 rfl
   replace HS295 := HS295.ext (callS_ext hc312)
   replace H := H_; clear H_; try dsimp only [setn, addE, goneL] at H
   refine wpList_nil ?_
   refine th_n ⟨HS295, ?_⟩
   refine dr tbok (by kernel_rfl) [19, 20, 21, 22, 23] [] [(7, .int .u8 r186), (80, .int .i64 r281.1), (83, .pointer (some ⟨g1, 10, none⟩))] (fun w_ => []) 1 E (fun _ _ => by kernel_rfl) (fun w_ hS_ => trivial) (by kernel_rfl) HS295 ?_
   clear E; intro a E
   refine wpAnyH_all (rs := [24]) (by kernel_rfl) (by simp) ?_
   refine all1 ?_
   refine wpOp_of_list rfl ?_
   refine h_store (g := g1) (off := 10) H 0 rfl E rfl rfl rfl rfl tbok rfl rfl rfl rfl rfl ?_
   clear E; intro w313 a hc314 H_ E
   replace HS295 := HS295.trans hc314 (fun k_ hk_ h_ => (fun _ _ h_ => Or.inl h_) k_ hk_ h_)
   replace H := H_; clear H_; try dsimp only [setn, addE, goneL] at H
   refine wpList_nil ?_
   refine th_n ⟨HS295, ?_⟩
   refine dr_done (by kernel_rfl) ?_
   exact .inl ⟨rfl, E.pick _ ⟨rfl, trivial⟩, H.sel [1, 2, 3, 4, 5, 6, 7, 0] rfl⟩
  ·
   refine wpOp_of_list rfl ?_
   refine vr tbok 1 [.slice (some ⟨b279, o280, none⟩) (List.length raGuard) c8] [(7, .int .u8 r186), (61, .pointer (some ⟨g1, 0, none⟩)), (65, .pointer (some ⟨g1, 3, none⟩)), (70, .pointer (some ⟨g1, 2, none⟩)), (71, .slice (some ⟨b279, o280, none⟩) (List.length raGuard) c8), (74, .pointer (some ⟨g1, 10, none⟩)), (78, .int .u8 r186)] [World.cell? w293 ⟨g1, 2, none⟩ = some (.slice (some ⟨b279, o280, none⟩) (List.length raGuard) c8)] E (by kernel_rfl) ((H.box 0 rfl).cell (j := 2) rfl) ?_
   clear E; intro a E
   refine wpList_nil ?_
   refine th_n ⟨HS295, ?_⟩
   refine wpAnyH_all (rs := [5, 14]) (by kernel_rfl) (by simp) ?_
   refine all2 ?_ ?_
   ·
    refine wpOp_of_list rfl ?_
    refine vr tbok 1 [.slice A11 (List.length raNodes) c12] [(7, .int .u8 r186), (61, .pointer (some ⟨g1, 0, none⟩)), (65, .pointer (some ⟨g1, 3, none⟩)), (66, .slice A11 (List.length raNodes) c12), (71, .slice (some ⟨b279, o280, none⟩) (List.length raGuard) c8), (74, .pointer (some ⟨g1, 10, none⟩)), (78, .int .u8 r186)] [World.cell? w293 ⟨g1, 3, none⟩ = some (.slice A11 (List.length raNodes) c12)] E (by kernel_rfl) ((H.box 0 rfl).cell (j := 3) rfl) ?_
    clear E; intro a E
    refine wpList_nil ?_
    refine th_n ⟨HS295, ?_⟩
    refine wpAnyH_all (rs := [14]) (by kernel_rfl) (by simp) ?_
    refine all1 ?_
    refine wpOp_of_list rfl ?_
    refine vr tbok 1 [.int .i64 rq] [(7, .int .u8 r186), (61, .pointer (some ⟨g1, 0, none⟩)), (66, .slice A11 (List.length raNodes) c12), (71, .slice (some ⟨b279, o280, none⟩) (List.length raGuard) c8), (74, .pointer (some ⟨g1, 10, none⟩)), (75, .int .i64 rq), (78, .int .u8 r186)] [World.cell? w293 ⟨g1, 10, none⟩ = some (.int .i64 rq)] E (by kernel_rfl) ((H.box 0 rfl).cell (j := 10) rfl) ?_
    clear E; intro a E
    refine wpList_nil ?_
    refine th_n ⟨HS295, ?_⟩
    refine dr tbok (by kernel_rfl) [15, 16] [.int .i64 (List.getD raGuard (Int.toNat rq) 0)] [(7, .int .u8 r186), (61, .pointer (some ⟨g1, 0, none⟩)), (66, .slice A11 (List.length raNodes) c12), (77, .int .i64 (List.getD raGuard (Int.toNat rq) 0)), (78, .int .u8 r186)] (fun w_ => [0 ≤ rq ∧ rq < (((List.length raGuard) : Nat) : Int), World.cell? w_ ⟨b279, o280 + (Int.toNat rq) * 1, none⟩ = some (.int .i64 (List.getD raGuard (Int.toNat rq) 0))]) 7 E (fun _ _ => by kernel_rfl) (fun w_ hS_ => ⟨g278, Rds.at1 (HR296.rdk [0] hS_ 2 rds_ro rfl) 0 g278⟩) (by kernel_rfl) HS295 ?_
    clear E; intro a E
    refine wpAnyH_all (rs := [18]) (by kernel_rfl) (by simp) ?_
    refine all1 ?_
    refine wpOp_of_list rfl ?_
    obtain ⟨Fa315, Hc316, hb317⟩ := H.call [] [(3, false)] rfl rfl trivial
    refine e_call E rfl rfl Try.func62 rfl rfl rfl (guard_Go_calls A11 c12 raNodes (List.getD raGuard (Int.toNat rq) 0) r186 hk13 Hc316 h282) ?_
    rintro v318 w319 a ⟨rfl, HR320⟩ E_
    replace E := E_ _ rfl; clear E_
    obtain ⟨H_, hc321⟩ := hb317 _ _ HR320 rfl
    replace HS295 := HS295.ext (callS_ext hc321)
    replace H := H_; clear H_; try dsimp only [setn, addE, goneL] at H
    refine wpList_nil ?_
    refine th_n ⟨HS295, ?_⟩
    refine dr tbok (by kernel_rfl) [19, 20, 21, 22, 23] [] [(7, .int .u8 r186), (80, .int .i64 r281.1), (83, .pointer (some ⟨g1, 10, none⟩))] (fun w_ => []) 1 E (fun _ _ => by kernel_rfl) (fun w_ hS_ => trivial) (by kernel_rfl) HS295 ?_
    clear E; intro a E
    refine wpAnyH_all (rs := [24]) (by kernel_rfl) (by simp) ?_
    refine all1 ?_
    refine wpOp_of_list rfl ?_
    refine h_store (g := g1) (off := 10) H 0 rfl E rfl rfl rfl rfl tbok rfl rfl rfl rfl rfl ?_
    clear E; intro w322 a hc323 H_ E
    replace HS295 := HS295.trans hc323 (fun k_ hk_ h_ => (fun _ _ h_ => Or.inl h_) k_ hk_ h_)
    replace H := H_; clear H_; try dsimp only [setn, addE, goneL] at H
    refine wpList_nil ?_
    refine th_n ⟨HS295, ?_⟩
    refine dr_done (by kernel_rfl) ?_
    exact .inl ⟨rfl, E.pick _ ⟨rfl, trivial⟩, H.sel [1, 2, 3, 4, 5, 6, 7, 0] rfl⟩
   refine wpOp_of_list rfl ?_
   refine vr tbok 1 [.int .i64 rq] [(7, .int .u8 r186), (61, .pointer (some ⟨g1, 0, none⟩)), (65, .pointer (some ⟨g1, 3, none⟩)), (71, .slice (some ⟨b279, o280, none⟩) (List.length raGuard) c8), (74, .pointer (some ⟨g1, 10, none⟩)), (75, .int .i64 rq), (78, .int .u8 r186)] [World.cell? w293 ⟨g1, 10, none⟩ = some (.int .i64 rq)] E (by kernel_rfl) ((H.box 0 rfl).cell (j := 10) rfl) ?_
   clear E; intro a E
   refine wpList_nil ?_
   refine th_n ⟨HS295, ?_⟩
   refine dr tbok (by kernel_rfl) [15, 16] [.int .i64 (List.getD raGuard (Int.toNat rq) 0)] [(7, .int .u8 r186), (61, .pointer (some ⟨g1, 0, none⟩)), (65, .pointer (some ⟨g1, 3, none⟩)), (77, .int .i64 (List.getD raGuard (Int.toNat rq) 0)), (78, .int .u8 r186)] (fun w_ => [0 ≤ rq ∧ rq < (((List.length raGuard) : Nat) : Int), World.cell? w_ ⟨b279, o280 + (Int.toNat rq) * 1, none⟩ = some (.int .i64 (List.getD raGuard (Int.toNat rq) 0))]) 8 E (fun _ _ => by kernel_rfl) (fun w_ hS_ => ⟨g278, Rds.at1 (HR296.rdk [0] hS_ 2 rds_ro rfl) 0 g278⟩) (by kernel_rfl) HS295 ?_
   clear E; intro a E
   refine wpAnyH_all (rs := [5]) (by kernel_rfl) (by simp) ?_
   refine all1 ?_
   refine wpOp_of_list rfl ?_
   refine vr tbok 1 [.slice A11 (List.length raNodes) c12] [(7, .int .u8 r186), (61, .pointer (some ⟨g1, 0, none⟩)), (65, .pointer (some ⟨g1, 3, none⟩)), (66, .slice A11 (List.length raNodes) c12), (77, .int .i64 (List.getD raGuard (Int.toNat rq) 0)), (78, .int .u8 r186)] [World.cell? w293 ⟨g1, 3, none⟩ = some (.slice A11 (List.length raNodes) c12)] E (by kernel_rfl) ((H.box 0 rfl).cell (j := 3) rfl) ?_
   clear E; intro a E
   refine wpList_nil ?_
   refine th_n ⟨HS295, ?_⟩
   refine wpAnyH_all (rs := [18]) (by kernel_rfl) (by simp) ?_
   refine all1 ?_
   refine wpOp_of_list rfl ?_
   obtain ⟨Fa324, Hc325, hb326⟩ := H.call [] [(3, false)] rfl rfl trivial
   refine e_call E rfl rfl Try.func62 rfl rfl rfl (guard_Go_calls A11 c12 raNodes (List.getD raGuard (Int.toNat rq) 0) r186 hk13 Hc325 h282) ?_
   rintro v327 w328 a ⟨rfl, HR329⟩ E_
   replace E := E_ _ rfl; clear E_
   obtain ⟨H_, hc330⟩ := hb326 _ _ HR329 rfl
   replace HS295 := HS295.ext (callS_ext hc330)
   replace H := H_; clear H_; try dsimp only [setn, addE, goneL] at H
   refine wpList_nil ?_
   refine th_n ⟨HS295, ?_⟩
   refine dr tbok (by kernel_rfl) [19, 20, 21, 22, 23] [] [(7, .int .u8 r186), (80, .int .i64 r281.1), (83, .pointer (some ⟨g1, 10, none⟩))] (fun w_ => []) 1 E (fun _ _ => by kernel_rfl) (fun w_ hS_ => trivial) (by kernel_rfl) HS295 ?_
   clear E; intro a E
   refine wpAnyH_all (rs := [24]) (by kernel_rfl) (by simp) ?_
   refine all1 ?_
   refine wpOp_of_list rfl ?_
   refine h_store (g := g1) (off := 10) H 0 rfl E rfl rfl rfl rfl tbok rfl rfl rfl rfl rfl ?_
   clear E; intro w331 a hc332 H_ E
   replace HS295 := HS295.trans hc332 (fun k_ hk_ h_ => (fun _ _ h_ => Or.inl h_) k_ hk_ h_)
   replace H := H_; clear H_; try dsimp only [setn, addE, goneL] at H
   refine wpList_nil ?_
   refine th_n ⟨HS295, ?_⟩
   refine dr_done (by kernel_rfl) ?_
   exact .inl ⟨rfl, E.pick _ ⟨rfl, trivial⟩, H.sel [1, 2, 3, 4, 5, 6, 7, 0] rfl⟩
  refine wpOp_of_list rfl ?_
  refine vr tbok 1 [.int .i64 rq] [(7, .int .u8 r186), (61, .pointer (some ⟨g1, 0, none⟩)), (65, .pointer (some ⟨g1, 3, none⟩)), (70, .pointer (some ⟨g1, 2, none⟩)), (74, .pointer (some ⟨g1, 10, none⟩)), (75, .int .i64 rq), (78, .int .u8 r186)] [World.cell? w293 ⟨g1, 10, none⟩ = some (.int .i64 rq)] E (by kernel_rfl) ((H.box 0 rfl).cell (j := 10) rfl) ?_
  clear E; intro a E
  refine wpList_nil ?_
  refine th_n ⟨HS295, ?_⟩
  refine wpAnyH_all (rs := [5, 10]) (by kernel_rfl) (by simp) ?_
  refine all2 ?_ ?_
  ·
   refine wpOp_of_list rfl ?_
   refine vr tbok 1 [.slice A11 (List.length raNodes) c12] [(7, .int .u8 r186), (61, .pointer (some ⟨g1, 0, none⟩)), (65, .pointer (some ⟨g1, 3, none⟩)), (66, .slice A11 (List.length raNodes) c12), (70, .pointer (some ⟨g1, 2, none⟩)), (75, .int .i64 rq), (78, .int .u8 r186)] [World.cell? w293 ⟨g1, 3, none⟩ = some (.slice A11 (List.length raNodes) c12)] E (by kernel_rfl) ((H.box 0 rfl).cell (j := 3) rfl) ?_
   clear E; intro a E
   refine wpList_nil ?_
   refine th_n ⟨HS295, ?_⟩
   refine wpAnyH_all (rs := [10]) (by kernel_rfl) (by simp) ?_
   refine all1 ?_
   refine wpOp_of_list rfl ?_
   refine vr tbok 1 [.slice (some ⟨b279, o280, none⟩) (List.length raGuard) c8] [(7, .int .u8 r186), (61, .pointer (some ⟨g1, 0, none⟩)), (66, .slice A11 (List.length raNodes) c12), (70, .pointer (some ⟨g1, 2, none⟩)), (71, .slice (some ⟨b279, o280, none⟩) (List.length raGuard) c8), (75, .int .i64 rq), (78, .int .u8 r186)] [World.cell? w293 ⟨g1, 2, none⟩ = some (.slice (some ⟨b279, o280, none⟩) (List.length raGuard) c8)] E (by kernel_rfl) ((H.box 0 rfl).cell (j := 2) rfl) ?_
   clear E; intro a E
   refine wpList_nil ?_
   refine th_n ⟨HS295, ?_⟩
   refine dr tbok (by kernel_rfl) [15, 16] [.int .i64 (List.getD raGuard (Int.toNat rq) 0)] [(7, .int .u8 r186), (61, .pointer (some ⟨g1, 0, none⟩)), (66, .slice A11 (List.length raNodes) c12), (77, .int .i64 (List.getD raGuard (Int.toNat rq) 0)), (78, .int .u8 r186)] (fun w_ => [0 ≤ rq ∧ rq < (((List.length raGuard) : Nat) : Int), World.cell? w_ ⟨b279, o280 + (Int.toNat rq) * 1, none⟩ = some (.int .i64 (List.getD raGuard (Int.toNat rq) 0))]) 7 E (fun _ _ => by kernel_rfl) (fun w_ hS_ => ⟨g278, Rds.at1 (HR296.rdk [0] hS_ 2 rds_ro rfl) 0 g278⟩) (by kernel_rfl) HS295 ?_
   clear E; intro a E
   refine wpAnyH_all (rs := [18]) (by kernel_rfl) (by simp) ?_
   refine all1 ?_
   refine wpOp_of_list rfl ?_
   obtain ⟨Fa333, Hc334, hb335⟩ := H.call [] [(3, false)] rfl rfl trivial
   refine e_call E rfl rfl Try.func62 rfl rfl rfl (guard_Go_calls A11 c12 raNodes (List.getD raGuard (Int.toNat rq) 0) r186 hk13 Hc334 h282) ?_
   rintro v336 w337 a ⟨rfl, HR338⟩ E_
   replace E := E_ _ rfl; clear E_
   obtain ⟨H_, hc339⟩ := hb335 _ _ HR338 rfl
   replace HS295 := HS295.ext (callS_ext hc339)
   replace H := H_; clear H_; try dsimp only [setn, addE, goneL] at H
   refine wpList_nil ?_
   refine th_n ⟨HS295, ?_⟩
   refine dr tbok (by kernel_rfl) [19, 20, 21, 22, 23] [] [(7, .int .u8 r186), (80, .int .i64 r281.1), (83, .pointer (some ⟨g1, 10, none⟩))] (fun w_ => []) 1 E (fun _ _ => by kernel_rfl) (fun w_ hS_ => trivial) (by kernel_rfl) HS295 ?_
   clear E; intro a E
   refine wpAnyH_all (rs := [24]) (by kernel_rfl) (by simp) ?_
   refine all1 ?_
   refine wpOp_of_list rfl ?_
   refine h_store (g := g1) (off := 10) H 0 rfl E rfl rfl rfl rfl tbok rfl rfl rfl rfl rfl ?_
   clear E; intro w340 a hc341 H_ E
   replace HS295 := HS295.trans hc341 (fun k_ hk_ h_ => (fun _ _ h_ => Or.inl h_) k_ hk_ h_)
   replace H := H_; clear H_; try dsimp only [setn, addE, goneL] at H
   refine wpList_nil ?_
   refine th_n ⟨HS295, ?_⟩
   refine dr_done (by kernel_rfl) ?_
   exact .inl ⟨rfl, E.pick _ ⟨rfl, trivial⟩, H.sel [1, 2, 3, 4, 5, 6, 7, 0] rfl⟩
  refine wpOp_of_list rfl ?_
  refine vr tbok 1 [.slice (some ⟨b279, o280, none⟩) (List.length raGuard) c8] [(7, .int .u8 r186), (61, .pointer (some ⟨g1, 0, none⟩)), (65, .pointer (some ⟨g1, 3, none⟩)), (70, .pointer (some ⟨g1, 2, none⟩)), (71, .slice (some ⟨b279, o280, none⟩) (List.length raGuard) c8), (75, .int .i64 rq), (78, .int .u8 r186)] [World.cell? w293 ⟨g1, 2, none⟩ = some (.slice (some ⟨b279, o280, none⟩) (List.length raGuard) c8)] E (by kernel_rfl) ((H.box 0 rfl).cell (j := 2) rfl) ?_
  clear E; intro a E
  refine wpList_nil ?_
  refine th_n ⟨HS295, ?_⟩
  refine dr tbok (by kernel_rfl) [15, 16] [.int .i64 (List.getD raGuard (Int.toNat rq) 0)] [(7, .int .u8 r186), (61, .pointer (some ⟨g1, 0, none⟩)), (65, .pointer (some ⟨g1, 3, none⟩)), (77, .int .i64 (List.getD raGuard (Int.toNat rq) 0)), (78, .int .u8 r186)] (fun w_ => [0 ≤ rq ∧ rq < (((List.length raGuard) : Nat) : Int), World.cell? w_ ⟨b279, o280 + (Int.toNat rq) * 1, none⟩ = some (.int .i64 (List.getD raGuard (Int.toNat rq) 0))]) 8 E (fun _ _ => by kernel_rfl) (fun w_ hS_ => ⟨g278, Rds.at1 (HR296.rdk [0] hS_ 2 rds_ro rfl) 0 g278⟩) (by kernel_rfl) HS295 ?_
  clear E; intro a E
  refine wpAnyH_all (rs := [5]) (by kernel_rfl) (by simp) ?_
  refine all1 ?_
  refine wpOp_of_list rfl ?_
  refine vr tbok 1 [.slice A11 (List.length raNodes) c12] [(7, .int .u8 r186), (61, .pointer (some ⟨g1, 0, none⟩)), (65, .pointer (some ⟨g1, 3, none⟩)), (66, .slice A11 (List.length raNodes) c12), (77, .int .i64 (List.getD raGuard (Int.toNat rq) 0)), (78, .int .u8 r186)] [World.cell? w293 ⟨g1, 3, none⟩ = some (.slice A11 (List.length raNodes) c12)] E (by kernel_rfl) ((H.box 0 rfl).cell (j := 3) rfl) ?_
  clear E; intro a E
  refine wpList_nil ?_
  refine th_n ⟨HS295, ?_⟩
  refine wpAnyH_all (rs := [18]) (by kernel_rfl) (by simp) ?_
  refine all1 ?_
  refine wpOp_of_list rfl ?_
  obtain ⟨Fa342, Hc343, hb344⟩ := H.call [] [(3, false)] rfl rfl trivial
  refine e_call E rfl rfl Try.func62 rfl rfl rfl (guard_Go_calls A11 c12 raNodes (List.getD raGuard (Int.toNat rq) 0) r186 hk13 Hc343 h282) ?_
  rintro v345 w346 a ⟨rfl, HR347⟩ E_
  replace E := E_ _ rfl; clear E_
  obtain ⟨H_, hc348⟩ := hb344 _ _ HR347 rfl
  replace HS295 := HS295.ext (callS_ext hc348)
  replace H := H_; clear H_; try dsimp only [setn, addE, goneL] at H
  refine wpList_nil ?_
  refine th_n ⟨HS295, ?_⟩
  refine dr tbok (by kernel_rfl) [19, 20, 21, 22, 23] [] [(7, .int .u8 r186), (80, .int .i64 r281.1), (83, .pointer (some ⟨g1, 10, none⟩))] (fun w_ => []) 1 E (fun _ _ => by kernel_rfl) (fun w_ hS_ => trivial) (by kernel_rfl) HS295 ?_
  clear E; intro a E
  refine wpAnyH_all (rs := [24]) (by kernel_rfl) (by simp) ?_
  refine all1 ?_
  refine wpOp_of_list rfl ?_
  refine h_store (g := g1) (off := 10) H 0 rfl E rfl rfl rfl rfl tbok rfl rfl rfl rfl rfl ?_
  clear E; intro w349 a hc350 H_ E
  replace HS295 := HS295.trans hc350 (fun k_ hk_ h_ => (fun _ _ h_ => Or.inl h_) k_ hk_ h_)
  replace H := H_; clear H_; try dsimp only [setn, addE, goneL] at H
  refine wpList_nil ?_
  refine th_n ⟨HS295, ?_⟩
  refine dr_done (by kernel_rfl) ?_
  exact .inl ⟨rfl, E.pick _ ⟨rfl, trivial⟩, H.sel [1, 2, 3, 4, 5, 6, 7, 0] rfl⟩
 clear E H; rintro a w292 ⟨E, H⟩
 refine th_n ?_
 refine wp_seq ?_
 refine wp_region_lit ?_
 refine vr tbok 3 [] [(4, .int .u8 r186), (5, .int .i64 0)] [] E (by kernel_rfl) trivial ?_
 clear E; intro a E
 refine wpList_nil ?_
 refine th_n ?_
 refine wp_ret ?_
 obtain rfl := Option.some.inj hP
 refine ret2 E rfl rfl rfl ?_
 exact ⟨_, rfl, ⟨(r186, 0, r281.1, rrounds ++ ([(r186, rq)] : List (Int × Int))), A215, c216, rfl, rfl, H.sel [7, 6] rfl⟩⟩

end Go.V
