/- Plain functions, and the calls that give them. -/
import Derived.Test.YtckpjnoajnbmdaaA9
set_option linter.all false
set_option linter.unusedVariables false
set_option linter.unnecessarySimpa false
set_option linter.unusedSimpArgs false
namespace Go.V
open Go Go.Proofs
/-! (*rejoinder/play.Referee).Trace -/
def play_Referee_Trace_l0 (N : Nat) (rrounds : List (Int × Int)) : Nat → (List Int) → Int → Option (List Int)
  | 0, _, _ => none
  | m211 + 1, out178, x181 =>
    if x181 < (((List.length rrounds) : Nat) : Int) then
      ask (idx x181 (List.length rrounds)) <|
      ask (List.length out178 + List.length ([(List.getD rrounds (Int.toNat x181) (0, 0)).1] : List Int) ≤ 1000000000) <|
      ask (in64 (x181 + 1)) <|
      play_Referee_Trace_l0 N rrounds m211 (out178 ++ ([(List.getD rrounds (Int.toNat x181) (0, 0)).1] : List Int)) (x181 + 1)
    else
      some out178
def play_Referee_Trace (N : Nat) (raProps : Int) (raAccept : List Bool) (raGuard : List Int) (raNodes : List Nd) (rs : Int × Int) (rxWins : Bool) (rxRanks : List Int) (rxReply : List (List Int)) (rxChoice : List Int) (rq : Int) (rrounds : List (Int × Int)) (rmade : Bool) : Option (List Int) :=
  Option.bind (play_Referee_none N raProps raAccept raGuard raNodes (rs.1, rs.2) rxWins rxRanks rxReply rxChoice rq rrounds rmade) fun r134 =>
  if r134 = true then
    some []
  else
    Option.bind (play_Referee_Trace_l0 N rrounds N [] 0) fun x212 =>
    some x212
set_option maxRecDepth 100000 in
set_option maxHeartbeats 4000000 in
theorem play_Referee_Trace_calls {N : Nat} {S Fa : Nat → Prop} {w0 : World} {r : List Int} (g1 : Nat) (A3 : Option Addr) (c4 : Nat) (A7 : Option Addr) (c8 : Nat) (A11 : Option Addr) (c12 : Nat) (A15 : Option Addr) (c16 : Nat) (A19 : Option Addr) (c20 : Nat) (A23 : Option Addr) (c24 : Nat) (A27 : Option Addr) (c28 : Nat) (raProps : Int) (raAccept : List Bool) (raGuard : List Int) (raNodes : List Nd) (rs : Int × Int) (rxWins : Bool) (rxRanks : List Int) (rxReply : List (List Int)) (rxChoice : List Int) (rq : Int) (rrounds : List (Int × Int)) (rmade : Bool) (hk5 : List.length raAccept ≤ c4) (hk9 : List.length raGuard ≤ c8) (hk13 : List.length raNodes ≤ c12) (hk17 : List.length rxRanks ≤ c16) (hk21 : List.length rxReply ≤ c20) (hk25 : List.length rxChoice ≤ c24) (H : Hp S Fa w0 w0 [.box g1 74 [.int .i64 raProps, .slice A3 (List.length raAccept) c4, .slice A7 (List.length raGuard) c8, .slice A11 (List.length raNodes) c12, .int .u8 rs.1, .int .u8 rs.2, .bool rxWins, .slice A15 (List.length rxRanks) c16, .slice A19 (List.length rxReply) c20, .slice A23 (List.length rxChoice) c24, .int .i64 rq, .slice A27 (List.length rrounds) c28, .bool rmade], .row true cS98 99 A27 c28 rrounds, .ro false cBool A3 raAccept, .ro false (cInt .i64) A7 raGuard, .ro false cNode A11 raNodes, .ro false (cInt .i64) A15 rxRanks, .ro false (cSl (cInt .u8)) A19 rxReply, .ro false (cInt .u8) A23 rxChoice]) (hP : play_Referee_Trace N raProps raAccept raGuard raNodes rs rxWins rxRanks rxReply rxChoice rq rrounds rmade = some r) :
    Calls Try.prog 30 #[.pointer (some ⟨g1, 0, none⟩)] w0 fun e w' => ∃ v, e = .returned v ∧ (∃ (x_ : List Int) (A32 : Option Addr) (c33 : Nat), r = x_ ∧ v = .slice A32 (List.length x_) c33 ∧ Hp S Fa w0 w' [.row true (cInt .u8) 27 A32 c33 x_, .row true cS98 99 A27 c28 rrounds, .box g1 74 [.int .i64 raProps, .slice A3 (List.length raAccept) c4, .slice A7 (List.length raGuard) c8, .slice A11 (List.length raNodes) c12, .int .u8 rs.1, .int .u8 rs.2, .bool rxWins, .slice A15 (List.length rxRanks) c16, .slice A19 (List.length rxReply) c20, .slice A23 (List.length rxChoice) c24, .int .i64 rq, .slice A27 (List.length rrounds) c28, .bool rmade]]) := by
 refine enterV (n := 25) Try.func30 rfl rfl rfl ?_
 intro a E
 replace E := E.pick [(0, .pointer (some ⟨g1, 0, none⟩))] ⟨rfl, trivial⟩
 rw [play_Referee_Trace] at hP
 refine wp_seq ?_
 refine wp_region_lit ?_
 refine vr tbok 1 [] [(0, .pointer (some ⟨g1, 0, none⟩))] [] E (by kernel_rfl) trivial ?_
 clear E; intro a E
 refine wpList_nil ?_
 refine th_n ?_
 refine wp_seq ?_
 refine wp_region_lit ?_
 refine vr tbok 1 [] [(0, .pointer (some ⟨g1, 0, none⟩)), (3, .slice none 0 0)] [] E (by kernel_rfl) trivial ?_
 clear E; intro a E
 refine wpList_nil ?_
 refine th_n ?_
 refine wp_seq ?_
 refine wp_seq ?_
 refine wp_region_lit ?_
 refine vr tbok 1 [] [(0, .pointer (some ⟨g1, 0, none⟩)), (3, .slice none 0 0), (6, .pointer (some ⟨g1, 0, none⟩))] [] E (by kernel_rfl) trivial ?_
 clear E; intro a E
 obtain ⟨r134, h135, hP⟩ := bind_inv hP
 obtain ⟨Fa136, Hc137, hb138⟩ := H.call [0, 1] [(2, false), (3, false), (4, false), (5, false), (6, false), (7, false)] rfl rfl ⟨flat_plain, trivial⟩
 refine e_call E rfl rfl Try.func60 rfl rfl rfl (play_Referee_none_calls g1 A3 c4 A7 c8 A11 c12 A15 c16 A19 c20 A23 c24 A27 c28 raProps raAccept raGuard raNodes (rs.1, rs.2) rxWins rxRanks rxReply rxChoice rq rrounds rmade hk5 hk9 hk13 hk17 hk21 hk25 Hc137 h135) ?_
 intro v144 w143 a hR145 E_
 obtain ⟨x_, hr_, rfl, HR147⟩ := hR145
 subst hr_
 replace E := E_ _ rfl; clear E_
 obtain ⟨H_, hc146⟩ := hb138 _ _ HR147 rfl
 replace H := H_; clear H_; try dsimp only [setn, addE, goneL] at H
 refine wpList_nil ?_
 refine th_n ?_
 refine E.cases (t := 7) rfl (fun hb_ E_ => ?_) (fun hb_ E_ => ?_)
 ·
  replace E := E_; clear E_
  have h150 : r134 = true := hb_
  clear hb_; replace hP := ite_t h150 hP
  refine c_true E rfl ?_
  refine wp_seq ?_
  refine wp_region_lit ?_
  refine vr tbok 2 [] [(2, .slice none 0 0)] [] E (by kernel_rfl) trivial ?_
  clear E; intro a E
  refine wpList_nil ?_
  refine th_n ?_
  refine wp_ret ?_
  refine th_ret ?_
  replace H := H.nilrow (cInt .u8) 27; try dsimp only [setn, addE, goneL] at H
  obtain rfl := Option.some.inj hP
  refine ret1 E rfl rfl ?_
  exact ⟨_, rfl, ⟨[], none, 0, rfl, rfl, H.sel [10, 8, 9] rfl⟩⟩
 replace E := E_; clear E_
 have h152 : ¬ (r134 = true) := (ne_true_of_eq_false hb_)
 clear hb_; replace hP := ite_f h152 hP
 refine c_false E rfl ?_
 refine wp_skip ?_
 refine th_n ?_
 refine wp_seq ?_
 refine wp_seq ?_
 refine wp_region_lit ?_
 refine vr tbok 6 [.slice A27 (List.length rrounds) c28] [(3, .slice none 0 0), (12, .slice A27 (List.length rrounds) c28), (13, .int .i64 (((List.length rrounds) : Nat) : Int)), (14, .int .i64 0)] [World.cell? w143 ⟨g1, 11, none⟩ = some (.slice A27 (List.length rrounds) c28)] E (by kernel_rfl) ((H.box 9 rfl).cell (j := 11) rfl) ?_
 clear E; intro a E
 refine wpList_nil ?_
 refine th_n ?_
 refine wp_block ?_
 obtain ⟨x212, hL213, hK214⟩ := bind_inv hP
 clear hP
 replace H := H.nilrow (cInt .u8) 27; try dsimp only [setn, addE, goneL] at H
 refine loop_cut (fun i_ a w_ => (i_ = 0 ∧ ∃ (x218 : List Int), ∃ (A209 : Option Addr) (c210 : Nat), Fr a 25 [(3, .slice A209 (List.length x218) c210)] ∧ Hp S Fa w0 w_ [.row true (cInt .u8) 27 A209 c210 x218, .ro false cBool A3 raAccept, .ro false (cInt .i64) A7 raGuard, .ro false cNode A11 raNodes, .ro false (cInt .i64) A15 rxRanks, .ro false (cSl (cInt .u8)) A19 rxReply, .ro false (cInt .u8) A23 rxChoice, .row true cS98 99 A27 c28 rrounds, .box g1 74 [.int .i64 raProps, .slice A3 (List.length raAccept) c4, .slice A7 (List.length raGuard) c8, .slice A11 (List.length raNodes) c12, .int .u8 rs.1, .int .u8 rs.2, .bool rxWins, .slice A15 (List.length rxRanks) c16, .slice A19 (List.length rxReply) c20, .slice A23 (List.length rxChoice) c24, .int .i64 rq, .slice A27 (List.length rrounds) c28, .bool rmade]] ∧ x212 = x218)) ?_ ?_
 ·
  refine loopV (fun m217 a w216 => ∃ (out178 : List Int) (x181 : Int), ∃ (A179 : Option Addr) (c180 : Nat), Fr a 25 [(3, .slice A179 (List.length out178) c180), (12, .slice A27 (List.length rrounds) c28), (13, .int .i64 (((List.length rrounds) : Nat) : Int)), (14, .int .i64 x181)] ∧ Hp S Fa w0 w216 [.row true (cInt .u8) 27 A179 c180 out178, .row true cS98 99 A27 c28 rrounds, .ro false cBool A3 raAccept, .ro false (cInt .i64) A7 raGuard, .ro false cNode A11 raNodes, .ro false (cInt .i64) A15 rxRanks, .ro false (cSl (cInt .u8)) A19 rxReply, .ro false (cInt .u8) A23 rxChoice, .box g1 74 [.int .i64 raProps, .slice A3 (List.length raAccept) c4, .slice A7 (List.length raGuard) c8, .slice A11 (List.length raNodes) c12, .int .u8 rs.1, .int .u8 rs.2, .bool rxWins, .slice A15 (List.length rxRanks) c16, .slice A19 (List.length rxReply) c20, .slice A23 (List.length rxChoice) c24, .int .i64 rq, .slice A27 (List.length rrounds) c28, .bool rmade]] ∧ play_Referee_Trace_l0 N rrounds m217 out178 x181 = some x212) N ?_ ?_
  ·
   exact ⟨[], 0, none, 0, E.pick _ ⟨rfl, rfl, rfl, rfl, trivial⟩, H.sel [10, 8, 2, 3, 4, 5, 6, 7, 9] rfl, hL213⟩
  clear E H hL213; intro m217 a w216 hI_
  obtain ⟨out178, x181, A179, c180, E, H, hP⟩ := hI_
  obtain ⟨m211, rfl⟩ : ∃ q_, m217 = q_ + 1 := by cases m217 with | zero => rw [play_Referee_Trace_l0] at hP; cases hP | succ q_ => exact ⟨q_, rfl⟩
  rw [play_Referee_Trace_l0] at hP
  refine wp_seq ?_
  refine wp_region_lit ?_
  refine vr tbok 1 [] [(3, .slice A179 (List.length out178) c180), (12, .slice A27 (List.length rrounds) c28), (13, .int .i64 (((List.length rrounds) : Nat) : Int)), (14, .int .i64 x181), (15, .bool (decide (x181 < (((List.length rrounds) : Nat) : Int))))] [] E (by kernel_rfl) trivial ?_
  clear E; intro a E
  refine wpList_nil ?_
  refine th_n ?_
  refine wp_seq ?_
  refine E.cases (t := 15) rfl (fun hb_ E_ => ?_) (fun hb_ E_ => ?_)
  ·
   replace E := E_; clear E_
   have h219 : x181 < (((List.length rrounds) : Nat) : Int) := of_decide_eq_true hb_
   clear hb_; replace hP := ite_t h219 hP
   refine c_true E rfl ?_
   refine wp_skip ?_
   refine th_n ?_
   refine wp_seq ?_
   refine wp_block ?_
   refine wp_seq ?_
   refine wp_region_lit ?_
   obtain ⟨g220, hP⟩ := ask_inv hP
   obtain ⟨b221, e_b221⟩ := H.raddr 1 rfl (idx_pos g220)
   subst e_b221
   refine vr tbok 2 [.agg #[.int .u8 ((List.getD rrounds (Int.toNat x181) (0, 0)).1), .int .i64 ((List.getD rrounds (Int.toNat x181) (0, 0)).2)]] [(3, .slice A179 (List.length out178) c180), (12, .slice (some ⟨b221, 0, none⟩) (List.length rrounds) c28), (13, .int .i64 (((List.length rrounds) : Nat) : Int)), (14, .int .i64 x181), (17, .agg #[.int .u8 ((List.getD rrounds (Int.toNat x181) (0, 0)).1), .int .i64 ((List.getD rrounds (Int.toNat x181) (0, 0)).2)])] [0 ≤ x181 ∧ x181 < (((List.length rrounds) : Nat) : Int), cellsAt w216 b221 (0 + (Int.toNat x181) * 2) [.int .u8 ((List.getD rrounds (Int.toNat x181) (0, 0)).1), .int .i64 ((List.getD rrounds (Int.toNat x181) (0, 0)).2)]] E (by kernel_rfl) ⟨g220, Rds.atP (H.rd 1 rds_row) (0, 0) g220⟩ ?_
   clear E; intro a E
   refine h_alloc H E rfl rfl tbok rfl ?_
   intro w224 g223 a hc225 hg227 H_ E_
   replace E := E_ _ rfl; clear E_
   replace H := H_; clear H_; try dsimp only [setn, addE, goneL] at H
   refine h_store (g := g223) (off := 0) H 9 rfl E rfl rfl rfl rfl tbok rfl rfl rfl rfl rfl ?_
   clear E; intro w228 a hc229 H_ E
   replace H := H_; clear H_; try dsimp only [setn, addE, goneL] at H
   refine wpList_nil ?_
   refine th_n ?_
   refine wp_region_lit ?_
   refine vr tbok 3 [.int .u8 ((List.getD rrounds (Int.toNat x181) (0, 0)).1)] [(12, .slice (some ⟨b221, 0, none⟩) (List.length rrounds) c28), (13, .int .i64 (((List.length rrounds) : Nat) : Int)), (14, .int .i64 x181), (18, .slice A179 (List.length out178) c180), (20, .int .u8 ((List.getD rrounds (Int.toNat x181) (0, 0)).1))] [World.cell? w228 ⟨g223, 0, none⟩ = some (.int .u8 ((List.getD rrounds (Int.toNat x181) (0, 0)).1))] E (by kernel_rfl) ((H.box 9 rfl).cell (j := 0) rfl) ?_
   clear E; intro a E
   refine h_buildSlice (ps := [(0, .int .u8 ((List.getD rrounds (Int.toNat x181) (0, 0)).1))]) (cs := [.int .u8 ((List.getD rrounds (Int.toNat x181) (0, 0)).1)]) H E rfl rfl tbok rfl rfl (by kernel_rfl) ?_
   intro w231 g230 a hc232 hg234 H_ E_
   replace E := E_ _ rfl; clear E_
   replace H := H_; clear H_; try dsimp only [setn, addE, goneL] at H
   obtain ⟨g235, hP⟩ := ask_inv hP
   refine h_append (cInt .u8) (xs := out178) (ys := ([(List.getD rrounds (Int.toNat x181) (0, 0)).1] : List Int)) (0 : Int) H 0 rfl E rfl rfl tbok rfl rfl rfl rfl rfl (fun _ _ => rfl) rfl rfl (fun _ HF_ => HF_.srcB 10 rfl (⟨_, _, rfl, rfl, rfl⟩)) g235 ?_
   intro w236 A237 c238 a hc239 hA240 H_ E_
   replace E := E_ _ rfl; clear E_
   replace H := H_; clear H_; try dsimp only [setn, addE, goneL] at H
   refine vr tbok 1 [] [(3, .slice A237 (List.length (out178 ++ ([(List.getD rrounds (Int.toNat x181) (0, 0)).1] : List Int))) c238), (12, .slice (some ⟨b221, 0, none⟩) (List.length rrounds) c28), (13, .int .i64 (((List.length rrounds) : Nat) : Int)), (14, .int .i64 x181)] [] E (by kernel_rfl) trivial ?_
   clear E; intro a E
   refine wpList_nil ?_
   refine bl_n ?_
   refine th_n ?_
   refine wp_region_lit ?_
   obtain ⟨g241, hP⟩ := ask_inv hP
   refine vr tbok 2 [.int .i64 (x181 + 1)] [(3, .slice A237 (List.length (out178 ++ ([(List.getD rrounds (Int.toNat x181) (0, 0)).1] : List Int))) c238), (12, .slice (some ⟨b221, 0, none⟩) (List.length rrounds) c28), (13, .int .i64 (((List.length rrounds) : Nat) : Int)), (14, .int .i64 (x181 + 1))] [IntKind.i64.wrap (x181 + 1) = x181 + 1] E (by kernel_rfl) (wrap_in g241) ?_
   clear E; intro a E
   refine wpList_nil ?_
   exact th_n ⟨m211, Nat.lt_succ_self _, out178 ++ ([(List.getD rrounds (Int.toNat x181) (0, 0)).1] : List Int), x181 + 1, A237, c238, E.pick _ ⟨rfl, rfl, rfl, rfl, trivial⟩, H.sel [0, 1, 2, 3, 4, 5, 6, 7, 8] rfl, hP⟩
  replace E := E_; clear E_
  have h242 : ¬ (x181 < (((List.length rrounds) : Nat) : Int)) := of_decide_eq_false hb_
  clear hb_; replace hP := ite_f h242 hP
  refine c_false E rfl ?_
  refine wp_exit ?_
  refine th_exit ?_
  have hx_ := Option.some.inj hP
  refine th_exit (.inl ⟨0, rfl, ?_⟩)
  exact ⟨rfl, out178, A179, c180, E.pick _ ⟨rfl, trivial⟩, H.sel [0, 2, 3, 4, 5, 6, 7, 1, 8] rfl, hx_.symm⟩
 clear E H hL213; intro i_ a w216 hM_
 obtain ⟨rfl, x218, A209, c210, E, H, hx_⟩ := hM_
 subst hx_; have hP := hK214; clear hK214
 refine bl_hit ?_
 refine th_n ?_
 refine wp_seq ?_
 refine wp_region_lit ?_
 refine vr tbok 2 [] [(2, .slice A209 (List.length x212) c210)] [] E (by kernel_rfl) trivial ?_
 clear E; intro a E
 refine wpList_nil ?_
 refine th_n ?_
 refine wp_ret ?_
 obtain rfl := Option.some.inj hP
 refine ret1 E rfl rfl ?_
 exact ⟨_, rfl, ⟨x212, A209, c210, rfl, rfl, H.sel [0, 7, 8] rfl⟩⟩

/-! rejoinder/rejoinderkit.SameLetters -/
def kit_SameLetters_l0 (N : Nat) (aa : List Int) (b : List Int) : Nat → Int → Option (Unit ⊕ Bool)
  | 0, _ => none
  | m41 + 1, i25 =>
    if i25 < (((List.length aa) : Nat) : Int) then
      ask (idx i25 (List.length aa)) <|
      ask (idx i25 (List.length b)) <|
      if ((List.getD aa (Int.toNat i25) 0) : Int) = (List.getD b (Int.toNat i25) 0) then
        ask (in64 (i25 + 1)) <|
        kit_SameLetters_l0 N aa b m41 (i25 + 1)
      else
        some (Sum.inr false)
    else
      some (Sum.inl ())
def kit_SameLetters (N : Nat) (aa : List Int) (b : List Int) : Option Bool :=
  if ((((List.length aa) : Nat) : Int) : Int) = (((List.length b) : Nat) : Int) then
    Option.bind (kit_SameLetters_l0 N aa b N 0) fun x42 =>
    Sum.elim (fun x47 =>
      some true)
     (fun x63 =>
      some x63) x42
  else
    some false
set_option maxRecDepth 100000 in
set_option maxHeartbeats 4000000 in
theorem kit_SameLetters_calls {N : Nat} {S Fa : Nat → Prop} {w0 : World} {r : Bool} (A1 : Option Addr) (c2 : Nat) (A5 : Option Addr) (c6 : Nat) (aa : List Int) (b : List Int) (hk3 : List.length aa ≤ c2) (hk7 : List.length b ≤ c6) (H : Hp S Fa w0 w0 [.ro false (cInt .u8) A1 aa, .ro false (cInt .u8) A5 b]) (hP : kit_SameLetters N aa b = some r) :
    Calls Try.prog 32 #[.slice A1 (List.length aa) c2, .slice A5 (List.length b) c6] w0 fun e w' => ∃ v, e = .returned v ∧ v = .bool r ∧ Hp S Fa w0 w' [] := by
 refine enterV (n := 26) Try.func32 rfl rfl rfl ?_
 intro a E
 replace E := E.pick [(0, .slice A1 (List.length aa) c2), (1, .slice A5 (List.length b) c6)] ⟨rfl, rfl, trivial⟩
 rw [kit_SameLetters] at hP
 refine wp_seq ?_
 refine wp_region_lit ?_
 refine vr tbok 1 [] [(0, .slice A1 (List.length aa) c2), (1, .slice A5 (List.length b) c6)] [] E (by kernel_rfl) trivial ?_
 clear E; intro a E
 refine wpList_nil ?_
 refine th_n ?_
 refine wp_seq ?_
 refine wp_seq ?_
 refine wp_region_lit ?_
 refine vr tbok 5 [] [(0, .slice A1 (List.length aa) c2), (1, .slice A5 (List.length b) c6), (10, .bool (((((List.length aa) : Nat) : Int) : Int) != (((List.length b) : Nat) : Int)))] [] E (by kernel_rfl) trivial ?_
 clear E; intro a E
 refine wpList_nil ?_
 refine th_n ?_
 refine E.cases (t := 10) rfl (fun hb_ E_ => ?_) (fun hb_ E_ => ?_)
 ·
  replace E := E_; clear E_
  have h9 : ¬ (((((List.length aa) : Nat) : Int) : Int) = (((List.length b) : Nat) : Int)) := bne_iff_ne.1 hb_
  clear hb_; replace hP := ite_f h9 hP
  refine c_true E rfl ?_
  refine wp_seq ?_
  refine wp_region_lit ?_
  refine vr tbok 1 [] [(4, .bool false)] [] E (by kernel_rfl) trivial ?_
  clear E; intro a E
  refine wpList_nil ?_
  refine th_n ?_
  refine wp_ret ?_
  refine th_ret ?_
  obtain rfl := Option.some.inj hP
  refine ret1 E rfl rfl ?_
  exact ⟨_, rfl, rfl, H.sel [] rfl⟩
 replace E := E_; clear E_
 have h10 : ((((List.length aa) : Nat) : Int) : Int) = (((List.length b) : Nat) : Int) := bne_eq_false_iff_eq.1 hb_
 clear hb_; replace hP := ite_t h10 hP
 refine c_false E rfl ?_
 refine wp_skip ?_
 refine th_n ?_
 refine wp_seq ?_
 refine wp_seq ?_
 refine wp_region_lit ?_
 refine vr tbok 1 [] [(0, .slice A1 (List.length aa) c2), (1, .slice A5 (List.length b) c6), (5, .int .i64 0)] [] E (by kernel_rfl) trivial ?_
 clear E; intro a E
 refine wpList_nil ?_
 refine th_n ?_
 refine wp_block ?_
 obtain ⟨x42, hL43, hK44⟩ := bind_inv hP
 clear hP
 refine loop_cut (fun i_ a w_ => (i_ = 0 ∧ ∃ (x47 : Unit), Fr a 26 [] ∧ Hp S Fa w0 w_ [] ∧ x42 = Sum.inl x47)) ?_ ?_
 ·
  refine loopV (fun m46 a w45 => ∃ (i25 : Int), Fr a 26 [(0, .slice A1 (List.length aa) c2), (1, .slice A5 (List.length b) c6), (5, .int .i64 i25)] ∧ Hp S Fa w0 w45 [.ro false (cInt .u8) A1 aa, .ro false (cInt .u8) A5 b] ∧ kit_SameLetters_l0 N aa b m46 i25 = some x42) N ?_ ?_
  ·
   exact ⟨0, E.pick _ ⟨rfl, rfl, rfl, trivial⟩, H.sel [0, 1] rfl, hL43⟩
  clear E H hL43; intro m46 a w45 hI_
  obtain ⟨i25, E, H, hP⟩ := hI_
  obtain ⟨m41, rfl⟩ : ∃ q_, m46 = q_ + 1 := by cases m46 with | zero => rw [kit_SameLetters_l0] at hP; cases hP | succ q_ => exact ⟨q_, rfl⟩
  rw [kit_SameLetters_l0] at hP
  refine wp_seq ?_
  refine wp_seq ?_
  refine wp_region_lit ?_
  refine vr tbok 4 [] [(0, .slice A1 (List.length aa) c2), (1, .slice A5 (List.length b) c6), (5, .int .i64 i25), (14, .bool (decide (i25 < (((List.length aa) : Nat) : Int))))] [] E (by kernel_rfl) trivial ?_
  clear E; intro a E
  refine wpList_nil ?_
  refine th_n ?_
  refine E.cases (t := 14) rfl (fun hb_ E_ => ?_) (fun hb_ E_ => ?_)
  ·
   replace E := E_; clear E_
   have h48 : i25 < (((List.length aa) : Nat) : Int) := of_decide_eq_true hb_
   clear hb_; replace hP := ite_t h48 hP
   refine c_true E rfl ?_
   refine wp_skip ?_
   refine th_n ?_
   refine wp_seq ?_
   refine wp_block ?_
   refine wp_seq ?_
   obtain ⟨g49, hP⟩ := ask_inv hP
   obtain ⟨b50, o51, e_b50⟩ := (H.rd 0 rds_ro).addr (idx_pos g49)
   subst e_b50
   obtain ⟨g52, hP⟩ := ask_inv hP
   obtain ⟨b53, o54, e_b53⟩ := (H.rd 1 rds_ro).addr (idx_pos g52)
   subst e_b53
   have HR58 := H
   refine dr_start (S := fun w_ => Chg (atL []) w45 w_) (by kernel_rfl) ?_
   intro w55 hc56
   have HS57 : Chg (atL []) w45 w55 := hc56.mono (fun _ _ h_ => h_.elim)
   replace H := H.ext hc56
   refine dr tbok (by kernel_rfl) [0, 1, 2, 3, 4, 5, 6, 7, 8] [.int .u8 (List.getD aa (Int.toNat i25) 0), .int .u8 (List.getD b (Int.toNat i25) 0)] [(0, .slice (some ⟨b50, o51, none⟩) (List.length aa) c2), (1, .slice (some ⟨b53, o54, none⟩) (List.length b) c6), (5, .int .i64 i25), (25, .bool (((List.getD aa (Int.toNat i25) 0) : Int) != (List.getD b (Int.toNat i25) 0)))] (fun w_ => [0 ≤ i25 ∧ i25 < (((List.length aa) : Nat) : Int), World.cell? w_ ⟨b50, o51 + (Int.toNat i25) * 1, none⟩ = some (.int .u8 (List.getD aa (Int.toNat i25) 0)), 0 ≤ i25 ∧ i25 < (((List.length b) : Nat) : Int), World.cell? w_ ⟨b53, o54 + (Int.toNat i25) * 1, none⟩ = some (.int .u8 (List.getD b (Int.toNat i25) 0))]) 0 E (fun _ _ => by kernel_rfl) (fun w_ hS_ => ⟨g49, Rds.at1 (HR58.rdk [] hS_ 0 rds_ro rfl) 0 g49, g52, Rds.at1 (HR58.rdk [] hS_ 1 rds_ro rfl) 0 g52⟩) (by kernel_rfl) HS57 ?_
   clear E; intro a E
   refine dr_done (by kernel_rfl) ?_
   clear HS57 HR58
   refine th_n ?_
   refine E.cases (t := 25) rfl (fun hb_ E_ => ?_) (fun hb_ E_ => ?_)
   ·
    replace E := E_; clear E_
    have h59 : ¬ (((List.getD aa (Int.toNat i25) 0) : Int) = (List.getD b (Int.toNat i25) 0)) := bne_iff_ne.1 hb_
    clear hb_; replace hP := ite_f h59 hP
    refine c_true E rfl ?_
    refine wp_seq ?_
    refine wp_region_lit ?_
    refine vr tbok 1 [] [(4, .bool false)] [] E (by kernel_rfl) trivial ?_
    clear E; intro a E
    refine wpList_nil ?_
    refine th_n ?_
    refine wp_ret ?_
    refine bl_ret ?_
    refine th_ret ?_
    refine th_ret ?_
    refine .inr ⟨rfl, ?_⟩
    refine bl_ret ?_
    refine th_ret ?_
    have hx_ := Option.some.inj hP; subst hx_
    have hP : some (false) = some r := hK44
    obtain rfl := Option.some.inj hP
    refine ret1 E rfl rfl ?_
    exact ⟨_, rfl, rfl, H.sel [] rfl⟩
   replace E := E_; clear E_
   have h60 : ((List.getD aa (Int.toNat i25) 0) : Int) = (List.getD b (Int.toNat i25) 0) := bne_eq_false_iff_eq.1 hb_
   clear hb_; replace hP := ite_t h60 hP
   refine c_false E rfl ?_
   refine wp_skip ?_
   refine bl_n ?_
   refine th_n ?_
   refine wp_region_lit ?_
   obtain ⟨g61, hP⟩ := ask_inv hP
   refine vr tbok 3 [.int .i64 (i25 + 1)] [(0, .slice (some ⟨b50, o51, none⟩) (List.length aa) c2), (1, .slice (some ⟨b53, o54, none⟩) (List.length b) c6), (5, .int .i64 (i25 + 1))] [IntKind.i64.wrap (i25 + 1) = i25 + 1] E (by kernel_rfl) (wrap_in g61) ?_
   clear E; intro a E
   refine wpList_nil ?_
   exact th_n ⟨m41, Nat.lt_succ_self _, i25 + 1, E.pick _ ⟨rfl, rfl, rfl, trivial⟩, H.sel [0, 1] rfl, hP⟩
  replace E := E_; clear E_
  have h62 : ¬ (i25 < (((List.length aa) : Nat) : Int)) := of_decide_eq_false hb_
  clear hb_; replace hP := ite_f h62 hP
  refine c_false E rfl ?_
  refine wp_exit ?_
  refine th_exit ?_
  have hx_ := Option.some.inj hP
  refine th_exit (.inl ⟨0, rfl, ?_⟩)
  exact ⟨rfl, (), E.pick _ trivial, H.sel [] rfl, hx_.symm⟩
 clear E H hL43; intro i_ a w45 hM_
 obtain ⟨rfl, x47, E, H, hx_⟩ := hM_
 subst hx_; have hP := elim_l hK44
 clear hK44
 refine bl_hit ?_
 refine th_n ?_
 refine wp_seq ?_
 refine wp_region_lit ?_
 refine vr tbok 1 [] [(4, .bool true)] [] E (by kernel_rfl) trivial ?_
 clear E; intro a E
 refine wpList_nil ?_
 refine th_n ?_
 refine wp_ret ?_
 obtain rfl := Option.some.inj hP
 refine ret1 E rfl rfl ?_
 exact ⟨_, rfl, rfl, H.sel [] rfl⟩

/-! rejoinder/rejoinderlaw25.awake -/
def law25_awake_f1 (N : Nat) : Option Unit :=
    some ()
def law25_awake_f0 (N : Nat) : Option Unit :=
    Option.bind (law25_awake_f1 N) fun x78 =>
    some ()
def law25_awake_f3 (N : Nat) : Option Unit :=
    some ()
def law25_awake_f2 (N : Nat) : Option Unit :=
    Option.bind (law25_awake_f3 N) fun x90 =>
    some ()
def law25_awake (N : Nat) : Option Bool :=
  Option.bind (law23_Until N) fun r1 =>
  Option.bind (law25_begun N r1.1 r1.2.1 r1.2.2.1 r1.2.2.2 (1, 2)) fun r19 =>
  Sum.elim (fun x59 =>
    if x59.2.2.2.2 = true then
      Option.bind (law25_awake_f0 N) fun x75 =>
      Option.bind (law25_awake_f2 N) fun x87 =>
      some false
    else
      some false)
   (fun x60 =>
    if x60.2.2.2.2.2.2.2.2.2.2.2 = true then
      Option.bind (play_Referee_State N r1.1 x60.1 x60.2.1 x60.2.2.1 (1, 2) x60.2.2.2.1 x60.2.2.2.2.1 x60.2.2.2.2.2.1 x60.2.2.2.2.2.2.1 0 [] true) fun r117 =>
      if (r117 : Int) = 0 then
        Option.bind (play_Referee_Rank N r1.1 x60.1 x60.2.1 x60.2.2.1 (1, 2) x60.2.2.2.1 x60.2.2.2.2.1 x60.2.2.2.2.2.1 x60.2.2.2.2.2.2.1 0 [] true) fun r135 =>
        if (r135 : Int) = 1 then
          Option.bind (play_Referee_Over N r1.1 x60.1 x60.2.1 x60.2.2.1 (1, 2) x60.2.2.2.1 x60.2.2.2.2.1 x60.2.2.2.2.2.1 x60.2.2.2.2.2.2.1 0 [] true) fun r153 =>
          if r153 = true then
            some false
          else
            Option.bind (play_Referee_Move N r1.1 x60.1 x60.2.1 x60.2.2.1 (1, 2) x60.2.2.2.1 x60.2.2.2.2.1 x60.2.2.2.2.2.1 x60.2.2.2.2.2.2.1 0 [] true 1) fun r171 =>
            if (r171.1 : Int) = 3 then
              if (r171.2.1 : Int) = 0 then
                Option.bind (play_Referee_State N r1.1 x60.1 x60.2.1 x60.2.2.1 (1, 2) x60.2.2.2.1 x60.2.2.2.2.1 x60.2.2.2.2.2.1 x60.2.2.2.2.2.2.1 r171.2.2.1 r171.2.2.2 true) fun r191 =>
                if (r191 : Int) = 2 then
                  Option.bind (play_Referee_Rank N r1.1 x60.1 x60.2.1 x60.2.2.1 (1, 2) x60.2.2.2.1 x60.2.2.2.2.1 x60.2.2.2.2.2.1 x60.2.2.2.2.2.2.1 r171.2.2.1 r171.2.2.2 true) fun r208 =>
                  if (r208 : Int) = 0 then
                    Option.bind (play_Referee_Over N r1.1 x60.1 x60.2.1 x60.2.2.1 (1, 2) x60.2.2.2.1 x60.2.2.2.2.1 x60.2.2.2.2.2.1 x60.2.2.2.2.2.2.1 r171.2.2.1 r171.2.2.2 true) fun r225 =>
                    if r225 = true then
                      Option.bind (play_Referee_Trace N r1.1 x60.1 x60.2.1 x60.2.2.1 (1, 2) x60.2.2.2.1 x60.2.2.2.2.1 x60.2.2.2.2.2.1 x60.2.2.2.2.2.2.1 r171.2.2.1 r171.2.2.2 true) fun r242 =>
                      Option.bind (kit_SameLetters N r242 ([3] : List Int)) fun r266 =>
                      some r266
                    else
                      some false
                  else
                    some false
                else
                  some false
              else
                some false
            else
              some false
        else
          some false
      else
        some false
    else
      some false) r19
set_option maxRecDepth 100000 in
set_option maxHeartbeats 4000000 in
theorem law25_awake_calls {N : Nat} {S Fa : Nat → Prop} {w0 : World} {r : Bool} (H : Hp S Fa w0 w0 []) (hP : law25_awake N  = some r) :
    Calls Try.prog 22 #[] w0 fun e w' => ∃ v, e = .returned v ∧ v = .bool r ∧ Hp S Fa w0 w' [] := by
 refine enterV (n := 60) Try.func22 rfl rfl rfl ?_
 intro a E
 replace E := E.pick [] trivial
 rw [law25_awake] at hP
 refine wp_seq ?_
 refine wp_region_lit ?_
 refine vr tbok 1 [] [] [] E (by kernel_rfl) trivial ?_
 clear E; intro a E
 refine wpList_nil ?_
 refine th_n ?_
 refine wp_seq ?_
 refine wp_region_lit ?_
 obtain ⟨r1, h2, hP⟩ := bind_inv hP
 obtain ⟨Fa3, Hc4, hb5⟩ := H.call [] [] rfl rfl trivial
 refine e_call E rfl rfl Try.func34 rfl rfl rfl (law23_Until_calls    Hc4 h2) ?_
 rintro v6 w7 a ⟨A10, c11, A13, c14, A16, c17, rfl, HR8⟩ E_
 replace E := E_ _ rfl; clear E_
 obtain ⟨H_, hc9⟩ := hb5 _ _ HR8 rfl
 replace H := H_; clear H_; try dsimp only [setn, addE, goneL] at H
 refine e_build (ps := [(0, .int .u8 1), (1, .int .u8 2)]) (v := .agg #[.int .u8 1, .int .u8 2]) E rfl rfl tbok rfl (by kernel_rfl) rfl ?_
 clear E; intro a E
 obtain ⟨r19, h20, hP⟩ := bind_inv hP
 obtain ⟨Fa21, Hc22, hb23⟩ := H.call [] [(0, false), (1, false), (2, false)] rfl rfl trivial
 refine e_call E rfl rfl Try.func24 rfl rfl rfl (law25_begun_calls A10 c11 A13 c14 A16 c17 r1.1 r1.2.1 r1.2.2.1 r1.2.2.2 (1, 2) (H.rcap 0 rfl) (H.rcap 1 rfl) (H.rcap 2 rfl) Hc22 h20) ?_
 intro v29 w28 a hR30 E_
 rcases hR30 with ⟨x_, A32, c33, A34, c35, A36, c37, hr_, rfl, HR38⟩ | ⟨x_, g39, A40, c41, A42, c43, A44, c45, A46, c47, A48, c49, A50, c51, A52, c53, A54, c55, A56, c57, hr_, rfl, HR58⟩
 ·
  subst hr_; have hP := elim_l hP
  obtain ⟨x59, hxx_⟩ : ∃ y_, y_ = x_ := ⟨_, rfl⟩; subst hxx_
  replace E := E_ _ rfl; clear E_
  obtain ⟨H_, hc31⟩ := hb23 _ _ HR38 rfl
  replace H := H_; clear H_; try dsimp only [setn, addE, goneL] at H
  refine vr tbok 4 [] [(10, .pointer none), (11, .agg #[.bool x59.1, .slice A32 (List.length x59.2.1) c33, .slice A34 (List.length x59.2.2.1) c35, .slice A36 (List.length x59.2.2.2.1) c37]), (12, .bool x59.2.2.2.2)] [] E (by kernel_rfl) trivial ?_
  clear E; intro a E
  refine h_alloc H E rfl rfl tbok rfl ?_
  intro w65 g64 a hc66 hg68 H_ E_
  replace E := E_ _ rfl; clear E_
  replace H := H_; clear H_; try dsimp only [setn, addE, goneL] at H
  refine vr tbok 1 [] [(1, .pointer none), (2, .pointer (some ⟨g64, 0, none⟩)), (11, .agg #[.bool x59.1, .slice A32 (List.length x59.2.1) c33, .slice A34 (List.length x59.2.2.1) c35, .slice A36 (List.length x59.2.2.2.1) c37]), (12, .bool x59.2.2.2.2)] [] E (by kernel_rfl) trivial ?_
  clear E; intro a E
  refine h_store (g := g64) (off := 0) H 6 rfl E rfl rfl rfl rfl tbok rfl rfl rfl rfl rfl ?_
  clear E; intro w69 a hc70 H_ E
  replace H := H_; clear H_; try dsimp only [setn, addE, goneL] at H
  refine vr tbok 1 [] [(1, .pointer none), (3, .bool x59.2.2.2.2)] [] E (by kernel_rfl) trivial ?_
  clear E; intro a E
  refine wpList_nil ?_
  refine th_n ?_
  refine wp_seq ?_
  refine wp_seq ?_
  refine wp_region_lit ?_
  refine vr tbok 3 [] [(1, .pointer none), (15, .bool (!x59.2.2.2.2))] [] E (by kernel_rfl) trivial ?_
  clear E; intro a E
  refine E.cases (t := 15) rfl (fun hb_ E_ => ?_) (fun hb_ E_ => ?_)
  ·
   replace E := E_; clear E_
   have h71 : ¬ (x59.2.2.2.2 = true) := (ne_true_of_eq_false (not_t hb_))
   clear hb_; replace hP := ite_f h71 hP
   refine vr tbok 13 [] [(1, .pointer none), (28, .bool true)] [] E (by kernel_rfl) trivial ?_
   clear E; intro a E
   refine wpList_nil ?_
   refine th_n ?_
   refine c_true E rfl ?_
   refine wp_seq ?_
   refine wp_region_lit ?_
   refine vr tbok 1 [] [(0, .bool false)] [] E (by kernel_rfl) trivial ?_
   clear E; intro a E
   refine wpList_nil ?_
   refine th_n ?_
   refine wp_ret ?_
   refine th_ret ?_
   obtain rfl := Option.some.inj hP
   refine ret1 E rfl rfl ?_
   exact ⟨_, rfl, rfl, H.sel [] rfl⟩
  replace E := E_; clear E_
  have h72 : x59.2.2.2.2 = true := (not_f hb_)
  clear hb_; replace hP := ite_t h72 hP
  refine vr tbok 1 [] [(1, .pointer none), (15, .bool false), (16, .pointer none)] [] E (by kernel_rfl) trivial ?_
  clear E; intro a E
  obtain ⟨x75, h76, hP⟩ := bind_inv hP
  refine e_call (R := fun v_ w_ => ∃ (x77 : Unit), v_ = .int .i64 0 ∧ Hp S Fa w0 w_ [] ∧ x75 = x77) E rfl rfl Try.func28 rfl rfl rfl ?_ ?_
  ·
   clear E hP; have hP := h76; clear h76; rw [law25_awake_f0] at hP
   refine enterV (n := 9) Try.func28 rfl rfl rfl ?_
   intro a E
   replace E := E.pick [(0, .pointer none)] ⟨rfl, trivial⟩
   refine wp_seq ?_
   refine wp_region_lit ?_
   refine vr tbok 1 [] [(0, .pointer none)] [] E (by kernel_rfl) trivial ?_
   clear E; intro a E
   refine wpList_nil ?_
   refine th_n ?_
   refine wp_seq ?_
   refine wp_seq ?_
   refine wp_region_lit ?_
   refine vr tbok 1 [] [(0, .pointer none), (3, .pointer none)] [] E (by kernel_rfl) trivial ?_
   clear E; intro a E
   obtain ⟨x78, h79, hP⟩ := bind_inv hP
   refine e_call (R := fun v_ w_ => ∃ (x80 : Unit), v_ = .bool true ∧ Hp S Fa w0 w_ [] ∧ x78 = x80) E rfl rfl Try.func60 rfl rfl rfl ?_ ?_
   ·
    clear E hP; have hP := h79; clear h79; rw [law25_awake_f1] at hP
    refine enterV (n := 12) Try.func60 rfl rfl rfl ?_
    intro a E
    replace E := E.pick [(0, .pointer none)] ⟨rfl, trivial⟩
    refine wp_seq ?_
    refine wp_region_lit ?_
    refine vr tbok 1 [] [(0, .pointer none)] [] E (by kernel_rfl) trivial ?_
    clear E; intro a E
    refine wpList_nil ?_
    refine th_n ?_
    refine wp_seq ?_
    refine wp_region_lit ?_
    refine vr tbok 10 [] [(2, .bool true)] [] E (by kernel_rfl) trivial ?_
    clear E; intro a E
    refine wpList_nil ?_
    refine th_n ?_
    refine wp_ret ?_
    have hx_ := Option.some.inj hP
    refine ret1 E rfl rfl ?_
    exact ⟨_, rfl, (), rfl, H.sel [] rfl, hx_.symm⟩
   clear H
   rintro v82 w81 a ⟨x80, rfl, H, hx_⟩ E_
   subst hx_
   replace E := E_ _ rfl; clear E_
   refine wpList_nil ?_
   refine th_n ?_
   refine c_true E rfl ?_
   refine wp_seq ?_
   refine wp_region_lit ?_
   refine vr tbok 1 [] [(2, .int .i64 0)] [] E (by kernel_rfl) trivial ?_
   clear E; intro a E
   refine wpList_nil ?_
   refine th_n ?_
   refine wp_ret ?_
   refine th_ret ?_
   have hx_ := Option.some.inj hP
   refine ret1 E rfl rfl ?_
   exact ⟨_, rfl, (), rfl, H.sel [] rfl, hx_.symm⟩
  clear H
  rintro v84 w83 a ⟨x77, rfl, H, hx_⟩ E_
  subst hx_
  replace E := E_ _ rfl; clear E_
  refine vr tbok 4 [] [(1, .pointer none), (20, .bool false), (21, .pointer none)] [] E (by kernel_rfl) trivial ?_
  clear E; intro a E
  obtain ⟨x87, h88, hP⟩ := bind_inv hP
  refine e_call (R := fun v_ w_ => ∃ (x89 : Unit), v_ = .int .i64 0 ∧ Hp S Fa w0 w_ [] ∧ x87 = x89) E rfl rfl Try.func26 rfl rfl rfl ?_ ?_
  ·
   clear E hP; have hP := h88; clear h88; rw [law25_awake_f2] at hP
   refine enterV (n := 16) Try.func26 rfl rfl rfl ?_
   intro a E
   replace E := E.pick [(0, .pointer none)] ⟨rfl, trivial⟩
   refine wp_seq ?_
   refine wp_region_lit ?_
   refine vr tbok 1 [] [(0, .pointer none)] [] E (by kernel_rfl) trivial ?_
   clear E; intro a E
   refine wpList_nil ?_
   refine th_n ?_
   refine wp_seq ?_
   refine wp_seq ?_
   refine wp_region_lit ?_
   refine vr tbok 1 [] [(0, .pointer none), (3, .pointer none)] [] E (by kernel_rfl) trivial ?_
   clear E; intro a E
   obtain ⟨x90, h91, hP⟩ := bind_inv hP
   refine e_call (R := fun v_ w_ => ∃ (x92 : Unit), v_ = .bool true ∧ Hp S Fa w0 w_ [] ∧ x90 = x92) E rfl rfl Try.func60 rfl rfl rfl ?_ ?_
   ·
    clear E hP; have hP := h91; clear h91; rw [law25_awake_f3] at hP
    refine enterV (n := 12) Try.func60 rfl rfl rfl ?_
    intro a E
    replace E := E.pick [(0, .pointer none)] ⟨rfl, trivial⟩
    refine wp_seq ?_
    refine wp_region_lit ?_
    refine vr tbok 1 [] [(0, .pointer none)] [] E (by kernel_rfl) trivial ?_
    clear E; intro a E
    refine wpList_nil ?_
    refine th_n ?_
    refine wp_seq ?_
    refine wp_region_lit ?_
    refine vr tbok 10 [] [(2, .bool true)] [] E (by kernel_rfl) trivial ?_
    clear E; intro a E
    refine wpList_nil ?_
    refine th_n ?_
    refine wp_ret ?_
    have hx_ := Option.some.inj hP
    refine ret1 E rfl rfl ?_
    exact ⟨_, rfl, (), rfl, H.sel [] rfl, hx_.symm⟩
   clear H
   rintro v94 w93 a ⟨x92, rfl, H, hx_⟩ E_
   subst hx_
   replace E := E_ _ rfl; clear E_
   refine wpList_nil ?_
   refine th_n ?_
   refine c_true E rfl ?_
   refine wp_seq ?_
   refine wp_region_lit ?_
   refine vr tbok 1 [] [(2, .int .i64 0)] [] E (by kernel_rfl) trivial ?_
   clear E; intro a E
   refine wpList_nil ?_
   refine th_n ?_
   refine wp_ret ?_
   refine th_ret ?_
   have hx_ := Option.some.inj hP
   refine ret1 E rfl rfl ?_
   exact ⟨_, rfl, (), rfl, H.sel [] rfl, hx_.symm⟩
  clear H
  rintro v96 w95 a ⟨x89, rfl, H, hx_⟩ E_
  subst hx_
  replace E := E_ _ rfl; clear E_
  refine vr tbok 6 [] [(1, .pointer none), (28, .bool true)] [] E (by kernel_rfl) trivial ?_
  clear E; intro a E
  refine wpList_nil ?_
  refine th_n ?_
  refine c_true E rfl ?_
  refine wp_seq ?_
  refine wp_region_lit ?_
  refine vr tbok 1 [] [(0, .bool false)] [] E (by kernel_rfl) trivial ?_
  clear E; intro a E
  refine wpList_nil ?_
  refine th_n ?_
  refine wp_ret ?_
  refine th_ret ?_
  obtain rfl := Option.some.inj hP
  refine ret1 E rfl rfl ?_
  exact ⟨_, rfl, rfl, H.sel [] rfl⟩
 subst hr_; have hP := (elim_r hP)
 obtain ⟨x60, hxx_⟩ : ∃ y_, y_ = x_ := ⟨_, rfl⟩; subst hxx_
 replace E := E_ _ rfl; clear E_
 obtain ⟨H_, hc31⟩ := hb23 _ _ HR58 rfl
 replace H := H_; clear H_; try dsimp only [setn, addE, goneL] at H
 refine vr tbok 4 [] [(10, .pointer (some ⟨g39, 0, none⟩)), (11, .agg #[.bool x60.2.2.2.2.2.2.2.1, .slice A52 (List.length x60.2.2.2.2.2.2.2.2.1) c53, .slice A54 (List.length x60.2.2.2.2.2.2.2.2.2.1) c55, .slice A56 (List.length x60.2.2.2.2.2.2.2.2.2.2.1) c57]), (12, .bool x60.2.2.2.2.2.2.2.2.2.2.2)] [] E (by kernel_rfl) trivial ?_
 clear E; intro a E
 refine h_alloc H E rfl rfl tbok rfl ?_
 intro w108 g107 a hc109 hg111 H_ E_
 replace E := E_ _ rfl; clear E_
 replace H := H_; clear H_; try dsimp only [setn, addE, goneL] at H
 refine vr tbok 1 [] [(1, .pointer (some ⟨g39, 0, none⟩)), (2, .pointer (some ⟨g107, 0, none⟩)), (11, .agg #[.bool x60.2.2.2.2.2.2.2.1, .slice A52 (List.length x60.2.2.2.2.2.2.2.2.1) c53, .slice A54 (List.length x60.2.2.2.2.2.2.2.2.2.1) c55, .slice A56 (List.length x60.2.2.2.2.2.2.2.2.2.2.1) c57]), (12, .bool x60.2.2.2.2.2.2.2.2.2.2.2)] [] E (by kernel_rfl) trivial ?_
 clear E; intro a E
 refine h_store (g := g107) (off := 0) H 13 rfl E rfl rfl rfl rfl tbok rfl rfl rfl rfl rfl ?_
 clear E; intro w112 a hc113 H_ E
 replace H := H_; clear H_; try dsimp only [setn, addE, goneL] at H
 refine vr tbok 1 [] [(1, .pointer (some ⟨g39, 0, none⟩)), (3, .bool x60.2.2.2.2.2.2.2.2.2.2.2)] [] E (by kernel_rfl) trivial ?_
 clear E; intro a E
 refine wpList_nil ?_
 refine th_n ?_
 refine wp_seq ?_
 refine wp_seq ?_
 refine wp_region_lit ?_
 refine vr tbok 3 [] [(1, .pointer (some ⟨g39, 0, none⟩)), (15, .bool (!x60.2.2.2.2.2.2.2.2.2.2.2))] [] E (by kernel_rfl) trivial ?_
 clear E; intro a E
 refine E.cases (t := 15) rfl (fun hb_ E_ => ?_) (fun hb_ E_ => ?_)
 ·
  replace E := E_; clear E_
  have h114 : ¬ (x60.2.2.2.2.2.2.2.2.2.2.2 = true) := (ne_true_of_eq_false (not_t hb_))
  clear hb_; replace hP := ite_f h114 hP
  refine vr tbok 13 [] [(1, .pointer (some ⟨g39, 0, none⟩)), (28, .bool true)] [] E (by kernel_rfl) trivial ?_
  clear E; intro a E
  refine wpList_nil ?_
  refine th_n ?_
  refine c_true E rfl ?_
  refine wp_seq ?_
  refine wp_region_lit ?_
  refine vr tbok 1 [] [(0, .bool false)] [] E (by kernel_rfl) trivial ?_
  clear E; intro a E
  refine wpList_nil ?_
  refine th_n ?_
  refine wp_ret ?_
  refine th_ret ?_
  obtain rfl := Option.some.inj hP
  refine ret1 E rfl rfl ?_
  exact ⟨_, rfl, rfl, H.sel [] rfl⟩
 replace E := E_; clear E_
 have h115 : x60.2.2.2.2.2.2.2.2.2.2.2 = true := (not_f hb_)
 clear hb_; replace hP := ite_t h115 hP
 refine vr tbok 1 [] [(1, .pointer (some ⟨g39, 0, none⟩)), (15, .bool false), (16, .pointer (some ⟨g39, 0, none⟩))] [] E (by kernel_rfl) trivial ?_
 clear E; intro a E
 replace H := H.nilrow cS98 99; try dsimp only [setn, addE, goneL] at H
 obtain ⟨r117, h118, hP⟩ := bind_inv hP
 obtain ⟨Fa119, Hc120, hb121⟩ := H.call [3, 14] [(4, false), (5, false), (6, false), (7, false), (8, false), (9, false)] rfl rfl ⟨flat_plain, trivial⟩
 refine e_call E rfl rfl Try.func28 rfl rfl rfl (play_Referee_State_calls g39 A40 c41 A42 c43 A44 c45 A46 c47 A48 c49 A50 c51 none 0 r1.1 x60.1 x60.2.1 x60.2.2.1 (1, 2) x60.2.2.2.1 x60.2.2.2.2.1 x60.2.2.2.2.2.1 x60.2.2.2.2.2.2.1 0 [] true (H.rcap 4 rfl) (H.rcap 5 rfl) (H.rcap 6 rfl) (H.rcap 7 rfl) (H.rcap 8 rfl) (H.rcap 9 rfl) Hc120 h118) ?_
 intro v127 w126 a hR128 E_
 obtain ⟨x_, hr_, rfl, HR130⟩ := hR128
 subst hr_
 replace E := E_ _ rfl; clear E_
 obtain ⟨H_, hc129⟩ := hb121 _ _ HR130 rfl
 replace H := H_; clear H_; try dsimp only [setn, addE, goneL] at H
 refine vr tbok 3 [] [(1, .pointer (some ⟨g39, 0, none⟩)), (20, .bool ((r117 : Int) != 0))] [] E (by kernel_rfl) trivial ?_
 clear E; intro a E
 refine E.cases (t := 20) rfl (fun hb_ E_ => ?_) (fun hb_ E_ => ?_)
 ·
  replace E := E_; clear E_
  have h133 : ¬ ((r117 : Int) = 0) := bne_iff_ne.1 hb_
  clear hb_; replace hP := ite_f h133 hP
  refine vr tbok 8 [] [(1, .pointer (some ⟨g39, 0, none⟩)), (28, .bool true)] [] E (by kernel_rfl) trivial ?_
  clear E; intro a E
  refine wpList_nil ?_
  refine th_n ?_
  refine c_true E rfl ?_
  refine wp_seq ?_
  refine wp_region_lit ?_
  refine vr tbok 1 [] [(0, .bool false)] [] E (by kernel_rfl) trivial ?_
  clear E; intro a E
  refine wpList_nil ?_
  refine th_n ?_
  refine wp_ret ?_
  refine th_ret ?_
  obtain rfl := Option.some.inj hP
  refine ret1 E rfl rfl ?_
  exact ⟨_, rfl, rfl, H.sel [] rfl⟩
 replace E := E_; clear E_
 have h134 : (r117 : Int) = 0 := bne_eq_false_iff_eq.1 hb_
 clear hb_; replace hP := ite_t h134 hP
 refine vr tbok 1 [] [(1, .pointer (some ⟨g39, 0, none⟩)), (20, .bool false), (21, .pointer (some ⟨g39, 0, none⟩))] [] E (by kernel_rfl) trivial ?_
 clear E; intro a E
 obtain ⟨r135, h136, hP⟩ := bind_inv hP
 obtain ⟨Fa137, Hc138, hb139⟩ := H.call [16, 15] [(4, false), (5, false), (6, false), (7, false), (8, false), (9, false)] rfl rfl ⟨flat_plain, trivial⟩
 refine e_call E rfl rfl Try.func26 rfl rfl rfl (play_Referee_Rank_calls g39 A40 c41 A42 c43 A44 c45 A46 c47 A48 c49 A50 c51 none 0 r1.1 x60.1 x60.2.1 x60.2.2.1 (1, 2) x60.2.2.2.1 x60.2.2.2.2.1 x60.2.2.2.2.2.1 x60.2.2.2.2.2.2.1 0 [] true (H.rcap 4 rfl) (H.rcap 5 rfl) (H.rcap 6 rfl) (H.rcap 7 rfl) (H.rcap 8 rfl) (H.rcap 9 rfl) Hc138 h136) ?_
 intro v145 w144 a hR146 E_
 obtain ⟨x_, hr_, rfl, HR148⟩ := hR146
 subst hr_
 replace E := E_ _ rfl; clear E_
 obtain ⟨H_, hc147⟩ := hb139 _ _ HR148 rfl
 replace H := H_; clear H_; try dsimp only [setn, addE, goneL] at H
 refine vr tbok 3 [] [(1, .pointer (some ⟨g39, 0, none⟩)), (25, .bool ((r135 : Int) != 1))] [] E (by kernel_rfl) trivial ?_
 clear E; intro a E
 refine E.cases (t := 25) rfl (fun hb_ E_ => ?_) (fun hb_ E_ => ?_)
 ·
  replace E := E_; clear E_
  have h151 : ¬ ((r135 : Int) = 1) := bne_iff_ne.1 hb_
  clear hb_; replace hP := ite_f h151 hP
  refine vr tbok 3 [] [(1, .pointer (some ⟨g39, 0, none⟩)), (28, .bool true)] [] E (by kernel_rfl) trivial ?_
  clear E; intro a E
  refine wpList_nil ?_
  refine th_n ?_
  refine c_true E rfl ?_
  refine wp_seq ?_
  refine wp_region_lit ?_
  refine vr tbok 1 [] [(0, .bool false)] [] E (by kernel_rfl) trivial ?_
  clear E; intro a E
  refine wpList_nil ?_
  refine th_n ?_
  refine wp_ret ?_
  refine th_ret ?_
  obtain rfl := Option.some.inj hP
  refine ret1 E rfl rfl ?_
  exact ⟨_, rfl, rfl, H.sel [] rfl⟩
 replace E := E_; clear E_
 have h152 : (r135 : Int) = 1 := bne_eq_false_iff_eq.1 hb_
 clear hb_; replace hP := ite_t h152 hP
 refine vr tbok 1 [] [(1, .pointer (some ⟨g39, 0, none⟩)), (25, .bool false), (26, .pointer (some ⟨g39, 0, none⟩))] [] E (by kernel_rfl) trivial ?_
 clear E; intro a E
 obtain ⟨r153, h154, hP⟩ := bind_inv hP
 obtain ⟨Fa155, Hc156, hb157⟩ := H.call [18, 17] [(4, false), (5, false), (6, false), (7, false), (8, false), (9, false)] rfl rfl ⟨flat_plain, trivial⟩
 refine e_call E rfl rfl Try.func27 rfl rfl rfl (play_Referee_Over_calls g39 A40 c41 A42 c43 A44 c45 A46 c47 A48 c49 A50 c51 none 0 r1.1 x60.1 x60.2.1 x60.2.2.1 (1, 2) x60.2.2.2.1 x60.2.2.2.2.1 x60.2.2.2.2.2.1 x60.2.2.2.2.2.2.1 0 [] true (H.rcap 4 rfl) (H.rcap 5 rfl) (H.rcap 6 rfl) (H.rcap 7 rfl) (H.rcap 8 rfl) (H.rcap 9 rfl) Hc156 h154) ?_
 intro v163 w162 a hR164 E_
 obtain ⟨x_, hr_, rfl, HR166⟩ := hR164
 subst hr_
 replace E := E_ _ rfl; clear E_
 obtain ⟨H_, hc165⟩ := hb157 _ _ HR166 rfl
 replace H := H_; clear H_; try dsimp only [setn, addE, goneL] at H
 refine vr tbok 1 [] [(1, .pointer (some ⟨g39, 0, none⟩)), (28, .bool r153)] [] E (by kernel_rfl) trivial ?_
 clear E; intro a E
 refine wpList_nil ?_
 refine th_n ?_
 refine E.cases (t := 28) rfl (fun hb_ E_ => ?_) (fun hb_ E_ => ?_)
 ·
  replace E := E_; clear E_
  have h169 : r153 = true := hb_
  clear hb_; replace hP := ite_t h169 hP
  refine c_true E rfl ?_
  refine wp_seq ?_
  refine wp_region_lit ?_
  refine vr tbok 1 [] [(0, .bool false)] [] E (by kernel_rfl) trivial ?_
  clear E; intro a E
  refine wpList_nil ?_
  refine th_n ?_
  refine wp_ret ?_
  refine th_ret ?_
  obtain rfl := Option.some.inj hP
  refine ret1 E rfl rfl ?_
  exact ⟨_, rfl, rfl, H.sel [] rfl⟩
 replace E := E_; clear E_
 have h170 : ¬ (r153 = true) := (ne_true_of_eq_false hb_)
 clear hb_; replace hP := ite_f h170 hP
 refine c_false E rfl ?_
 refine wp_skip ?_
 refine th_n ?_
 refine wp_seq ?_
 refine wp_region_lit ?_
 refine vr tbok 1 [] [(1, .pointer (some ⟨g39, 0, none⟩)), (30, .pointer (some ⟨g39, 0, none⟩))] [] E (by kernel_rfl) trivial ?_
 clear E; intro a E
 obtain ⟨r171, h172, hP⟩ := bind_inv hP
 obtain ⟨Fa173, Hc174, hb175⟩ := H.call [20, 19] [(4, false), (5, false), (6, false), (7, false), (8, false), (9, false)] rfl rfl ⟨flat_plain, trivial⟩
 refine e_call E rfl rfl Try.func29 rfl rfl rfl (play_Referee_Move_calls g39 A40 c41 A42 c43 A44 c45 A46 c47 A48 c49 A50 c51 none 0 r1.1 x60.1 x60.2.1 x60.2.2.1 (1, 2) x60.2.2.2.1 x60.2.2.2.2.1 x60.2.2.2.2.2.1 x60.2.2.2.2.2.2.1 0 [] true 1 (H.rcap 4 rfl) (H.rcap 5 rfl) (H.rcap 6 rfl) (H.rcap 7 rfl) (H.rcap 8 rfl) (H.rcap 9 rfl) Hc174 h172) ?_
 intro v181 w180 a hR182 E_
 obtain ⟨x_, A185, c186, hr_, rfl, HR184⟩ := hR182
 subst hr_
 replace E := E_ _ rfl; clear E_
 obtain ⟨H_, hc183⟩ := hb175 _ _ HR184 rfl
 replace H := H_; clear H_; try dsimp only [setn, addE, goneL] at H
 refine vr tbok 5 [] [(1, .pointer (some ⟨g39, 0, none⟩)), (4, .int .u8 r171.1), (5, .int .i64 r171.2.1)] [] E (by kernel_rfl) trivial ?_
 clear E; intro a E
 refine wpList_nil ?_
 refine th_n ?_
 refine wp_seq ?_
 refine wp_region_lit ?_
 refine vr tbok 3 [] [(1, .pointer (some ⟨g39, 0, none⟩)), (5, .int .i64 r171.2.1), (36, .bool ((r171.1 : Int) == 3))] [] E (by kernel_rfl) trivial ?_
 clear E; intro a E
 refine E.cases (t := 36) rfl (fun hb_ E_ => ?_) (fun hb_ E_ => ?_)
 ·
  replace E := E_; clear E_
  have h189 : (r171.1 : Int) = 3 := eq_of_beq hb_
  clear hb_; replace hP := ite_t h189 hP
  refine vr tbok 4 [] [(1, .pointer (some ⟨g39, 0, none⟩)), (40, .bool ((r171.2.1 : Int) == 0))] [] E (by kernel_rfl) trivial ?_
  clear E; intro a E
  refine E.cases (t := 40) rfl (fun hb_ E_ => ?_) (fun hb_ E_ => ?_)
  ·
   replace E := E_; clear E_
   have h190 : (r171.2.1 : Int) = 0 := eq_of_beq hb_
   clear hb_; replace hP := ite_t h190 hP
   refine vr tbok 1 [] [(1, .pointer (some ⟨g39, 0, none⟩)), (40, .bool true), (41, .pointer (some ⟨g39, 0, none⟩))] [] E (by kernel_rfl) trivial ?_
   clear E; intro a E
   obtain ⟨r191, h192, hP⟩ := bind_inv hP
   obtain ⟨Fa193, Hc194, hb195⟩ := H.call [21, 22] [(4, false), (5, false), (6, false), (7, false), (8, false), (9, false)] rfl rfl ⟨flat_plain, trivial⟩
   refine e_call E rfl rfl Try.func28 rfl rfl rfl (play_Referee_State_calls g39 A40 c41 A42 c43 A44 c45 A46 c47 A48 c49 A50 c51 A185 c186 r1.1 x60.1 x60.2.1 x60.2.2.1 (1, 2) x60.2.2.2.1 x60.2.2.2.2.1 x60.2.2.2.2.2.1 x60.2.2.2.2.2.2.1 r171.2.2.1 r171.2.2.2 true (H.rcap 4 rfl) (H.rcap 5 rfl) (H.rcap 6 rfl) (H.rcap 7 rfl) (H.rcap 8 rfl) (H.rcap 9 rfl) Hc194 h192) ?_
   intro v201 w200 a hR202 E_
   obtain ⟨x_, hr_, rfl, HR204⟩ := hR202
   subst hr_
   replace E := E_ _ rfl; clear E_
   obtain ⟨H_, hc203⟩ := hb195 _ _ HR204 rfl
   replace H := H_; clear H_; try dsimp only [setn, addE, goneL] at H
   refine vr tbok 3 [] [(1, .pointer (some ⟨g39, 0, none⟩)), (45, .bool ((r191 : Int) == 2))] [] E (by kernel_rfl) trivial ?_
   clear E; intro a E
   refine E.cases (t := 45) rfl (fun hb_ E_ => ?_) (fun hb_ E_ => ?_)
   ·
    replace E := E_; clear E_
    have h207 : (r191 : Int) = 2 := eq_of_beq hb_
    clear hb_; replace hP := ite_t h207 hP
    refine vr tbok 1 [] [(1, .pointer (some ⟨g39, 0, none⟩)), (45, .bool true), (46, .pointer (some ⟨g39, 0, none⟩))] [] E (by kernel_rfl) trivial ?_
    clear E; intro a E
    obtain ⟨r208, h209, hP⟩ := bind_inv hP
    obtain ⟨Fa210, Hc211, hb212⟩ := H.call [24, 23] [(4, false), (5, false), (6, false), (7, false), (8, false), (9, false)] rfl rfl ⟨flat_plain, trivial⟩
    refine e_call E rfl rfl Try.func26 rfl rfl rfl (play_Referee_Rank_calls g39 A40 c41 A42 c43 A44 c45 A46 c47 A48 c49 A50 c51 A185 c186 r1.1 x60.1 x60.2.1 x60.2.2.1 (1, 2) x60.2.2.2.1 x60.2.2.2.2.1 x60.2.2.2.2.2.1 x60.2.2.2.2.2.2.1 r171.2.2.1 r171.2.2.2 true (H.rcap 4 rfl) (H.rcap 5 rfl) (H.rcap 6 rfl) (H.rcap 7 rfl) (H.rcap 8 rfl) (H.rcap 9 rfl) Hc211 h209) ?_
    intro v218 w217 a hR219 E_
    obtain ⟨x_, hr_, rfl, HR221⟩ := hR219
    subst hr_
    replace E := E_ _ rfl; clear E_
    obtain ⟨H_, hc220⟩ := hb212 _ _ HR221 rfl
    replace H := H_; clear H_; try dsimp only [setn, addE, goneL] at H
    refine vr tbok 3 [] [(1, .pointer (some ⟨g39, 0, none⟩)), (50, .bool ((r208 : Int) == 0))] [] E (by kernel_rfl) trivial ?_
    clear E; intro a E
    refine E.cases (t := 50) rfl (fun hb_ E_ => ?_) (fun hb_ E_ => ?_)
    ·
     replace E := E_; clear E_
     have h224 : (r208 : Int) = 0 := eq_of_beq hb_
     clear hb_; replace hP := ite_t h224 hP
     refine vr tbok 1 [] [(1, .pointer (some ⟨g39, 0, none⟩)), (50, .bool true), (51, .pointer (some ⟨g39, 0, none⟩))] [] E (by kernel_rfl) trivial ?_
     clear E; intro a E
     obtain ⟨r225, h226, hP⟩ := bind_inv hP
     obtain ⟨Fa227, Hc228, hb229⟩ := H.call [26, 25] [(4, false), (5, false), (6, false), (7, false), (8, false), (9, false)] rfl rfl ⟨flat_plain, trivial⟩
     refine e_call E rfl rfl Try.func27 rfl rfl rfl (play_Referee_Over_calls g39 A40 c41 A42 c43 A44 c45 A46 c47 A48 c49 A50 c51 A185 c186 r1.1 x60.1 x60.2.1 x60.2.2.1 (1, 2) x60.2.2.2.1 x60.2.2.2.2.1 x60.2.2.2.2.2.1 x60.2.2.2.2.2.2.1 r171.2.2.1 r171.2.2.2 true (H.rcap 4 rfl) (H.rcap 5 rfl) (H.rcap 6 rfl) (H.rcap 7 rfl) (H.rcap 8 rfl) (H.rcap 9 rfl) Hc228 h226) ?_
     intro v235 w234 a hR236 E_
     obtain ⟨x_, hr_, rfl, HR238⟩ := hR236
     subst hr_
     replace E := E_ _ rfl; clear E_
     obtain ⟨H_, hc237⟩ := hb229 _ _ HR238 rfl
     replace H := H_; clear H_; try dsimp only [setn, addE, goneL] at H
     refine vr tbok 2 [] [(1, .pointer (some ⟨g39, 0, none⟩)), (54, .bool r225)] [] E (by kernel_rfl) trivial ?_
     clear E; intro a E
     refine E.cases (t := 54) rfl (fun hb_ E_ => ?_) (fun hb_ E_ => ?_)
     ·
      replace E := E_; clear E_
      have h241 : r225 = true := hb_
      clear hb_; replace hP := ite_t h241 hP
      refine vr tbok 1 [] [(54, .bool true), (55, .pointer (some ⟨g39, 0, none⟩))] [] E (by kernel_rfl) trivial ?_
      clear E; intro a E
      obtain ⟨r242, h243, hP⟩ := bind_inv hP
      obtain ⟨Fa244, Hc245, hb246⟩ := H.call [28, 27] [(4, false), (5, false), (6, false), (7, false), (8, false), (9, false)] rfl rfl ⟨flat_plain, trivial⟩
      refine e_call E rfl rfl Try.func30 rfl rfl rfl (play_Referee_Trace_calls g39 A40 c41 A42 c43 A44 c45 A46 c47 A48 c49 A50 c51 A185 c186 r1.1 x60.1 x60.2.1 x60.2.2.1 (1, 2) x60.2.2.2.1 x60.2.2.2.2.1 x60.2.2.2.2.2.1 x60.2.2.2.2.2.2.1 r171.2.2.1 r171.2.2.2 true (H.rcap 4 rfl) (H.rcap 5 rfl) (H.rcap 6 rfl) (H.rcap 7 rfl) (H.rcap 8 rfl) (H.rcap 9 rfl) Hc245 h243) ?_
      intro v252 w251 a hR253 E_
      obtain ⟨x_, A256, c257, hr_, rfl, HR255⟩ := hR253
      subst hr_
      replace E := E_ _ rfl; clear E_
      obtain ⟨H_, hc254⟩ := hb246 _ _ HR255 rfl
      replace H := H_; clear H_; try dsimp only [setn, addE, goneL] at H
      refine h_buildSlice (ps := [(0, .int .u8 3)]) (cs := [.int .u8 3]) H E rfl rfl tbok rfl rfl (by kernel_rfl) ?_
      intro w262 g261 a hc263 hg265 H_ E_
      replace E := E_ _ rfl; clear E_
      replace H := H_; clear H_; try dsimp only [setn, addE, goneL] at H
      replace H := H.boxRow (cInt .u8) true ([3] : List Int) 32 rfl (fun _ _ => ⟨_, _, rfl, rfl, rfl⟩) (Nat.le_of_ble_eq_true rfl); try dsimp only [setn, addE, goneL] at H
      obtain ⟨r266, h267, hP⟩ := bind_inv hP
      obtain ⟨Fa268, Hc269, hb270⟩ := H.call [] [(29, false), (32, false)] rfl rfl trivial
      refine e_call E rfl rfl Try.func32 rfl rfl rfl (kit_SameLetters_calls A256 c257 (some ⟨g261, 0, none⟩) 1 r242 ([3] : List Int) (H.rcap 29 rfl) (H.rcapx 32 rfl) Hc269 h267) ?_
      rintro v271 w272 a ⟨rfl, HR273⟩ E_
      replace E := E_ _ rfl; clear E_
      obtain ⟨H_, hc274⟩ := hb270 _ _ HR273 rfl
      replace H := H_; clear H_; try dsimp only [setn, addE, goneL] at H
      refine vr tbok 2 [] [(0, .bool r266)] [] E (by kernel_rfl) trivial ?_
      clear E; intro a E
      refine wpList_nil ?_
      refine th_n ?_
      refine wp_ret ?_
      obtain rfl := Option.some.inj hP
      refine ret1 E rfl rfl ?_
      exact ⟨_, rfl, rfl, H.sel [] rfl⟩
     replace E := E_; clear E_
     have h275 : ¬ (r225 = true) := (ne_true_of_eq_false hb_)
     clear hb_; replace hP := ite_f h275 hP
     refine vr tbok 6 [] [(0, .bool false)] [] E (by kernel_rfl) trivial ?_
     clear E; intro a E
     refine wpList_nil ?_
     refine th_n ?_
     refine wp_ret ?_
     obtain rfl := Option.some.inj hP
     refine ret1 E rfl rfl ?_
     exact ⟨_, rfl, rfl, H.sel [] rfl⟩
    replace E := E_; clear E_
    have h276 : ¬ ((r208 : Int) = 0) := ne_of_beq_false hb_
    clear hb_; replace hP := ite_f h276 hP
    refine vr tbok 10 [] [(0, .bool false)] [] E (by kernel_rfl) trivial ?_
    clear E; intro a E
    refine wpList_nil ?_
    refine th_n ?_
    refine wp_ret ?_
    obtain rfl := Option.some.inj hP
    refine ret1 E rfl rfl ?_
    exact ⟨_, rfl, rfl, H.sel [] rfl⟩
   replace E := E_; clear E_
   have h277 : ¬ ((r191 : Int) = 2) := ne_of_beq_false hb_
   clear hb_; replace hP := ite_f h277 hP
   refine vr tbok 15 [] [(0, .bool false)] [] E (by kernel_rfl) trivial ?_
   clear E; intro a E
   refine wpList_nil ?_
   refine th_n ?_
   refine wp_ret ?_
   obtain rfl := Option.some.inj hP
   refine ret1 E rfl rfl ?_
   exact ⟨_, rfl, rfl, H.sel [] rfl⟩
  replace E := E_; clear E_
  have h278 : ¬ ((r171.2.1 : Int) = 0) := ne_of_beq_false hb_
  clear hb_; replace hP := ite_f h278 hP
  refine vr tbok 20 [] [(0, .bool false)] [] E (by kernel_rfl) trivial ?_
  clear E; intro a E
  refine wpList_nil ?_
  refine th_n ?_
  refine wp_ret ?_
  obtain rfl := Option.some.inj hP
  refine ret1 E rfl rfl ?_
  exact ⟨_, rfl, rfl, H.sel [] rfl⟩
 replace E := E_; clear E_
 have h279 : ¬ ((r171.1 : Int) = 3) := ne_of_beq_false hb_
 clear hb_; replace hP := ite_f h279 hP
 refine vr tbok 24 [] [(0, .bool false)] [] E (by kernel_rfl) trivial ?_
 clear E; intro a E
 refine wpList_nil ?_
 refine th_n ?_
 refine wp_ret ?_
 obtain rfl := Option.some.inj hP
 refine ret1 E rfl rfl ?_
 exact ⟨_, rfl, rfl, H.sel [] rfl⟩

/-! rejoinder/rejoinderlaw19.Large -/
def law19_Large (N : Nat) (aProps : Int) (aAccept : List Bool) (aGuard : List Int) (aNodes : List Nd) : Option Bool :=
  if 3 < aProps then
    if aProps ≤ 8 then
      some true
    else
      if 10 < (((List.length aAccept) : Nat) : Int) then
        if (((List.length aAccept) : Nat) : Int) ≤ 256 then
          some true
        else
          if 259 < (((List.length aAccept) : Nat) : Int) then
            some true
          else
            if 40 < (((List.length aNodes) : Nat) : Int) then
              some true
            else
              some (decide (300 < (((List.length aGuard) : Nat) : Int)))
      else
        if 259 < (((List.length aAccept) : Nat) : Int) then
          some true
        else
          if 40 < (((List.length aNodes) : Nat) : Int) then
            some true
          else
            some (decide (300 < (((List.length aGuard) : Nat) : Int)))
  else
    if 10 < (((List.length aAccept) : Nat) : Int) then
      if (((List.length aAccept) : Nat) : Int) ≤ 256 then
        some true
      else
        if 259 < (((List.length aAccept) : Nat) : Int) then
          some true
        else
          if 40 < (((List.length aNodes) : Nat) : Int) then
            some true
          else
            some (decide (300 < (((List.length aGuard) : Nat) : Int)))
    else
      if 259 < (((List.length aAccept) : Nat) : Int) then
        some true
      else
        if 40 < (((List.length aNodes) : Nat) : Int) then
          some true
        else
          some (decide (300 < (((List.length aGuard) : Nat) : Int)))
set_option maxRecDepth 100000 in
set_option maxHeartbeats 4000000 in
theorem law19_Large_calls {N : Nat} {S Fa : Nat → Prop} {w0 : World} {r : Bool} (A1 : Option Addr) (c2 : Nat) (A5 : Option Addr) (c6 : Nat) (A9 : Option Addr) (c10 : Nat) (aProps : Int) (aAccept : List Bool) (aGuard : List Int) (aNodes : List Nd) (hk3 : List.length aAccept ≤ c2) (hk7 : List.length aGuard ≤ c6) (hk11 : List.length aNodes ≤ c10) (H : Hp S Fa w0 w0 [.ro false cBool A1 aAccept, .ro false (cInt .i64) A5 aGuard, .ro false cNode A9 aNodes]) (hP : law19_Large N aProps aAccept aGuard aNodes = some r) :
    Calls Try.prog 8 #[.agg #[.int .i64 aProps, .slice A1 (List.length aAccept) c2, .slice A5 (List.length aGuard) c6, .slice A9 (List.length aNodes) c10]] w0 fun e w' => ∃ v, e = .returned v ∧ v = .bool r ∧ Hp S Fa w0 w' [] := by
 refine enterV (n := 41) Try.func8 rfl rfl rfl ?_
 intro a E
 replace E := E.pick [(0, .agg #[.int .i64 aProps, .slice A1 (List.length aAccept) c2, .slice A5 (List.length aGuard) c6, .slice A9 (List.length aNodes) c10])] ⟨rfl, trivial⟩
 rw [law19_Large] at hP
 refine wp_seq ?_
 refine wp_region_lit ?_
 refine h_box H E rfl rfl rfl ?_
 intro w14 g13 a hc15 hg17 H_ E_
 replace E := E_ _ rfl; clear E_
 replace H := H_; clear H_; try dsimp only [setn, addE, goneL] at H
 refine vr tbok 1 [] [(1, .pointer (some ⟨g13, 0, none⟩))] [] E (by kernel_rfl) trivial ?_
 clear E; intro a E
 refine wpList_nil ?_
 refine th_n ?_
 refine wp_seq ?_
 refine wp_region_lit ?_
 refine vr tbok 4 [.int .i64 aProps] [(1, .pointer (some ⟨g13, 0, none⟩)), (6, .bool (decide (3 < aProps)))] [World.cell? w14 ⟨g13, 0, none⟩ = some (.int .i64 aProps)] E (by kernel_rfl) ((H.box 3 rfl).cell (j := 0) rfl) ?_
 clear E; intro a E
 refine E.cases (t := 6) rfl (fun hb_ E_ => ?_) (fun hb_ E_ => ?_)
 ·
  replace E := E_; clear E_
  have h18 : 3 < aProps := of_decide_eq_true hb_
  clear hb_; replace hP := ite_t h18 hP
  refine vr tbok 5 [.int .i64 aProps] [(1, .pointer (some ⟨g13, 0, none⟩)), (11, .bool (decide (aProps ≤ 8)))] [World.cell? w14 ⟨g13, 0, none⟩ = some (.int .i64 aProps)] E (by kernel_rfl) ((H.box 3 rfl).cell (j := 0) rfl) ?_
  clear E; intro a E
  refine E.cases (t := 11) rfl (fun hb_ E_ => ?_) (fun hb_ E_ => ?_)
  ·
   replace E := E_; clear E_
   have h19 : aProps ≤ 8 := of_decide_eq_true hb_
   clear hb_; replace hP := ite_t h19 hP
   refine vr tbok 30 [] [(2, .bool true)] [] E (by kernel_rfl) trivial ?_
   clear E; intro a E
   refine wpList_nil ?_
   refine th_n ?_
   refine wp_ret ?_
   obtain rfl := Option.some.inj hP
   refine ret1 E rfl rfl ?_
   exact ⟨_, rfl, rfl, H.sel [] rfl⟩
  replace E := E_; clear E_
  have h20 : ¬ (aProps ≤ 8) := of_decide_eq_false hb_
  clear hb_; replace hP := ite_f h20 hP
  refine vr tbok 5 [.slice A1 (List.length aAccept) c2] [(1, .pointer (some ⟨g13, 0, none⟩)), (11, .bool false), (16, .bool (decide (10 < (((List.length aAccept) : Nat) : Int))))] [World.cell? w14 ⟨g13, 1, none⟩ = some (.slice A1 (List.length aAccept) c2)] E (by kernel_rfl) ((H.box 3 rfl).cell (j := 1) rfl) ?_
  clear E; intro a E
  refine E.cases (t := 16) rfl (fun hb_ E_ => ?_) (fun hb_ E_ => ?_)
  ·
   replace E := E_; clear E_
   have h21 : 10 < (((List.length aAccept) : Nat) : Int) := of_decide_eq_true hb_
   clear hb_; replace hP := ite_t h21 hP
   refine vr tbok 7 [.slice A1 (List.length aAccept) c2] [(1, .pointer (some ⟨g13, 0, none⟩)), (23, .bool (decide ((((List.length aAccept) : Nat) : Int) ≤ 256)))] [World.cell? w14 ⟨g13, 1, none⟩ = some (.slice A1 (List.length aAccept) c2)] E (by kernel_rfl) ((H.box 3 rfl).cell (j := 1) rfl) ?_
   clear E; intro a E
   refine E.cases (t := 23) rfl (fun hb_ E_ => ?_) (fun hb_ E_ => ?_)
   ·
    replace E := E_; clear E_
    have h22 : (((List.length aAccept) : Nat) : Int) ≤ 256 := of_decide_eq_true hb_
    clear hb_; replace hP := ite_t h22 hP
    refine vr tbok 18 [] [(2, .bool true)] [] E (by kernel_rfl) trivial ?_
    clear E; intro a E
    refine wpList_nil ?_
    refine th_n ?_
    refine wp_ret ?_
    obtain rfl := Option.some.inj hP
    refine ret1 E rfl rfl ?_
    exact ⟨_, rfl, rfl, H.sel [] rfl⟩
   replace E := E_; clear E_
   have h23 : ¬ ((((List.length aAccept) : Nat) : Int) ≤ 256) := of_decide_eq_false hb_
   clear hb_; replace hP := ite_f h23 hP
   refine vr tbok 6 [.slice A1 (List.length aAccept) c2] [(1, .pointer (some ⟨g13, 0, none⟩)), (29, .bool (decide (259 < (((List.length aAccept) : Nat) : Int))))] [World.cell? w14 ⟨g13, 1, none⟩ = some (.slice A1 (List.length aAccept) c2)] E (by kernel_rfl) ((H.box 3 rfl).cell (j := 1) rfl) ?_
   clear E; intro a E
   refine E.cases (t := 29) rfl (fun hb_ E_ => ?_) (fun hb_ E_ => ?_)
   ·
    replace E := E_; clear E_
    have h24 : 259 < (((List.length aAccept) : Nat) : Int) := of_decide_eq_true hb_
    clear hb_; replace hP := ite_t h24 hP
    refine vr tbok 12 [] [(2, .bool true)] [] E (by kernel_rfl) trivial ?_
    clear E; intro a E
    refine wpList_nil ?_
    refine th_n ?_
    refine wp_ret ?_
    obtain rfl := Option.some.inj hP
    refine ret1 E rfl rfl ?_
    exact ⟨_, rfl, rfl, H.sel [] rfl⟩
   replace E := E_; clear E_
   have h25 : ¬ (259 < (((List.length aAccept) : Nat) : Int)) := of_decide_eq_false hb_
   clear hb_; replace hP := ite_f h25 hP
   refine vr tbok 6 [.slice A9 (List.length aNodes) c10] [(1, .pointer (some ⟨g13, 0, none⟩)), (35, .bool (decide (40 < (((List.length aNodes) : Nat) : Int))))] [World.cell? w14 ⟨g13, 3, none⟩ = some (.slice A9 (List.length aNodes) c10)] E (by kernel_rfl) ((H.box 3 rfl).cell (j := 3) rfl) ?_
   clear E; intro a E
   refine E.cases (t := 35) rfl (fun hb_ E_ => ?_) (fun hb_ E_ => ?_)
   ·
    replace E := E_; clear E_
    have h26 : 40 < (((List.length aNodes) : Nat) : Int) := of_decide_eq_true hb_
    clear hb_; replace hP := ite_t h26 hP
    refine vr tbok 6 [] [(2, .bool true)] [] E (by kernel_rfl) trivial ?_
    clear E; intro a E
    refine wpList_nil ?_
    refine th_n ?_
    refine wp_ret ?_
    obtain rfl := Option.some.inj hP
    refine ret1 E rfl rfl ?_
    exact ⟨_, rfl, rfl, H.sel [] rfl⟩
   replace E := E_; clear E_
   have h27 : ¬ (40 < (((List.length aNodes) : Nat) : Int)) := of_decide_eq_false hb_
   clear hb_; replace hP := ite_f h27 hP
   refine vr tbok 6 [.slice A5 (List.length aGuard) c6] [(2, .bool (decide (300 < (((List.length aGuard) : Nat) : Int))))] [World.cell? w14 ⟨g13, 2, none⟩ = some (.slice A5 (List.length aGuard) c6)] E (by kernel_rfl) ((H.box 3 rfl).cell (j := 2) rfl) ?_
   clear E; intro a E
   refine wpList_nil ?_
   refine th_n ?_
   refine wp_ret ?_
   obtain rfl := Option.some.inj hP
   refine ret1 E rfl rfl ?_
   exact ⟨_, rfl, rfl, H.sel [] rfl⟩
  replace E := E_; clear E_
  have h28 : ¬ (10 < (((List.length aAccept) : Nat) : Int)) := of_decide_eq_false hb_
  clear hb_; replace hP := ite_f h28 hP
  refine vr tbok 13 [.slice A1 (List.length aAccept) c2] [(1, .pointer (some ⟨g13, 0, none⟩)), (29, .bool (decide (259 < (((List.length aAccept) : Nat) : Int))))] [World.cell? w14 ⟨g13, 1, none⟩ = some (.slice A1 (List.length aAccept) c2)] E (by kernel_rfl) ((H.box 3 rfl).cell (j := 1) rfl) ?_
  clear E; intro a E
  refine E.cases (t := 29) rfl (fun hb_ E_ => ?_) (fun hb_ E_ => ?_)
  ·
   replace E := E_; clear E_
   have h29 : 259 < (((List.length aAccept) : Nat) : Int) := of_decide_eq_true hb_
   clear hb_; replace hP := ite_t h29 hP
   refine vr tbok 12 [] [(2, .bool true)] [] E (by kernel_rfl) trivial ?_
   clear E; intro a E
   refine wpList_nil ?_
   refine th_n ?_
   refine wp_ret ?_
   obtain rfl := Option.some.inj hP
   refine ret1 E rfl rfl ?_
   exact ⟨_, rfl, rfl, H.sel [] rfl⟩
  replace E := E_; clear E_
  have h30 : ¬ (259 < (((List.length aAccept) : Nat) : Int)) := of_decide_eq_false hb_
  clear hb_; replace hP := ite_f h30 hP
  refine vr tbok 6 [.slice A9 (List.length aNodes) c10] [(1, .pointer (some ⟨g13, 0, none⟩)), (35, .bool (decide (40 < (((List.length aNodes) : Nat) : Int))))] [World.cell? w14 ⟨g13, 3, none⟩ = some (.slice A9 (List.length aNodes) c10)] E (by kernel_rfl) ((H.box 3 rfl).cell (j := 3) rfl) ?_
  clear E; intro a E
  refine E.cases (t := 35) rfl (fun hb_ E_ => ?_) (fun hb_ E_ => ?_)
  ·
   replace E := E_; clear E_
   have h31 : 40 < (((List.length aNodes) : Nat) : Int) := of_decide_eq_true hb_
   clear hb_; replace hP := ite_t h31 hP
   refine vr tbok 6 [] [(2, .bool true)] [] E (by kernel_rfl) trivial ?_
   clear E; intro a E
   refine wpList_nil ?_
   refine th_n ?_
   refine wp_ret ?_
   obtain rfl := Option.some.inj hP
   refine ret1 E rfl rfl ?_
   exact ⟨_, rfl, rfl, H.sel [] rfl⟩
  replace E := E_; clear E_
  have h32 : ¬ (40 < (((List.length aNodes) : Nat) : Int)) := of_decide_eq_false hb_
  clear hb_; replace hP := ite_f h32 hP
  refine vr tbok 6 [.slice A5 (List.length aGuard) c6] [(2, .bool (decide (300 < (((List.length aGuard) : Nat) : Int))))] [World.cell? w14 ⟨g13, 2, none⟩ = some (.slice A5 (List.length aGuard) c6)] E (by kernel_rfl) ((H.box 3 rfl).cell (j := 2) rfl) ?_
  clear E; intro a E
  refine wpList_nil ?_
  refine th_n ?_
  refine wp_ret ?_
  obtain rfl := Option.some.inj hP
  refine ret1 E rfl rfl ?_
  exact ⟨_, rfl, rfl, H.sel [] rfl⟩
 replace E := E_; clear E_
 have h33 : ¬ (3 < aProps) := of_decide_eq_false hb_
 clear hb_; replace hP := ite_f h33 hP
 refine vr tbok 10 [.slice A1 (List.length aAccept) c2] [(1, .pointer (some ⟨g13, 0, none⟩)), (11, .bool false), (16, .bool (decide (10 < (((List.length aAccept) : Nat) : Int))))] [World.cell? w14 ⟨g13, 1, none⟩ = some (.slice A1 (List.length aAccept) c2)] E (by kernel_rfl) ((H.box 3 rfl).cell (j := 1) rfl) ?_
 clear E; intro a E
 refine E.cases (t := 16) rfl (fun hb_ E_ => ?_) (fun hb_ E_ => ?_)
 ·
  replace E := E_; clear E_
  have h34 : 10 < (((List.length aAccept) : Nat) : Int) := of_decide_eq_true hb_
  clear hb_; replace hP := ite_t h34 hP
  refine vr tbok 7 [.slice A1 (List.length aAccept) c2] [(1, .pointer (some ⟨g13, 0, none⟩)), (23, .bool (decide ((((List.length aAccept) : Nat) : Int) ≤ 256)))] [World.cell? w14 ⟨g13, 1, none⟩ = some (.slice A1 (List.length aAccept) c2)] E (by kernel_rfl) ((H.box 3 rfl).cell (j := 1) rfl) ?_
  clear E; intro a E
  refine E.cases (t := 23) rfl (fun hb_ E_ => ?_) (fun hb_ E_ => ?_)
  ·
   replace E := E_; clear E_
   have h35 : (((List.length aAccept) : Nat) : Int) ≤ 256 := of_decide_eq_true hb_
   clear hb_; replace hP := ite_t h35 hP
   refine vr tbok 18 [] [(2, .bool true)] [] E (by kernel_rfl) trivial ?_
   clear E; intro a E
   refine wpList_nil ?_
   refine th_n ?_
   refine wp_ret ?_
   obtain rfl := Option.some.inj hP
   refine ret1 E rfl rfl ?_
   exact ⟨_, rfl, rfl, H.sel [] rfl⟩
  replace E := E_; clear E_
  have h36 : ¬ ((((List.length aAccept) : Nat) : Int) ≤ 256) := of_decide_eq_false hb_
  clear hb_; replace hP := ite_f h36 hP
  refine vr tbok 6 [.slice A1 (List.length aAccept) c2] [(1, .pointer (some ⟨g13, 0, none⟩)), (29, .bool (decide (259 < (((List.length aAccept) : Nat) : Int))))] [World.cell? w14 ⟨g13, 1, none⟩ = some (.slice A1 (List.length aAccept) c2)] E (by kernel_rfl) ((H.box 3 rfl).cell (j := 1) rfl) ?_
  clear E; intro a E
  refine E.cases (t := 29) rfl (fun hb_ E_ => ?_) (fun hb_ E_ => ?_)
  ·
   replace E := E_; clear E_
   have h37 : 259 < (((List.length aAccept) : Nat) : Int) := of_decide_eq_true hb_
   clear hb_; replace hP := ite_t h37 hP
   refine vr tbok 12 [] [(2, .bool true)] [] E (by kernel_rfl) trivial ?_
   clear E; intro a E
   refine wpList_nil ?_
   refine th_n ?_
   refine wp_ret ?_
   obtain rfl := Option.some.inj hP
   refine ret1 E rfl rfl ?_
   exact ⟨_, rfl, rfl, H.sel [] rfl⟩
  replace E := E_; clear E_
  have h38 : ¬ (259 < (((List.length aAccept) : Nat) : Int)) := of_decide_eq_false hb_
  clear hb_; replace hP := ite_f h38 hP
  refine vr tbok 6 [.slice A9 (List.length aNodes) c10] [(1, .pointer (some ⟨g13, 0, none⟩)), (35, .bool (decide (40 < (((List.length aNodes) : Nat) : Int))))] [World.cell? w14 ⟨g13, 3, none⟩ = some (.slice A9 (List.length aNodes) c10)] E (by kernel_rfl) ((H.box 3 rfl).cell (j := 3) rfl) ?_
  clear E; intro a E
  refine E.cases (t := 35) rfl (fun hb_ E_ => ?_) (fun hb_ E_ => ?_)
  ·
   replace E := E_; clear E_
   have h39 : 40 < (((List.length aNodes) : Nat) : Int) := of_decide_eq_true hb_
   clear hb_; replace hP := ite_t h39 hP
   refine vr tbok 6 [] [(2, .bool true)] [] E (by kernel_rfl) trivial ?_
   clear E; intro a E
   refine wpList_nil ?_
   refine th_n ?_
   refine wp_ret ?_
   obtain rfl := Option.some.inj hP
   refine ret1 E rfl rfl ?_
   exact ⟨_, rfl, rfl, H.sel [] rfl⟩
  replace E := E_; clear E_
  have h40 : ¬ (40 < (((List.length aNodes) : Nat) : Int)) := of_decide_eq_false hb_
  clear hb_; replace hP := ite_f h40 hP
  refine vr tbok 6 [.slice A5 (List.length aGuard) c6] [(2, .bool (decide (300 < (((List.length aGuard) : Nat) : Int))))] [World.cell? w14 ⟨g13, 2, none⟩ = some (.slice A5 (List.length aGuard) c6)] E (by kernel_rfl) ((H.box 3 rfl).cell (j := 2) rfl) ?_
  clear E; intro a E
  refine wpList_nil ?_
  refine th_n ?_
  refine wp_ret ?_
  obtain rfl := Option.some.inj hP
  refine ret1 E rfl rfl ?_
  exact ⟨_, rfl, rfl, H.sel [] rfl⟩
 replace E := E_; clear E_
 have h41 : ¬ (10 < (((List.length aAccept) : Nat) : Int)) := of_decide_eq_false hb_
 clear hb_; replace hP := ite_f h41 hP
 refine vr tbok 13 [.slice A1 (List.length aAccept) c2] [(1, .pointer (some ⟨g13, 0, none⟩)), (29, .bool (decide (259 < (((List.length aAccept) : Nat) : Int))))] [World.cell? w14 ⟨g13, 1, none⟩ = some (.slice A1 (List.length aAccept) c2)] E (by kernel_rfl) ((H.box 3 rfl).cell (j := 1) rfl) ?_
 clear E; intro a E
 refine E.cases (t := 29) rfl (fun hb_ E_ => ?_) (fun hb_ E_ => ?_)
 ·
  replace E := E_; clear E_
  have h42 : 259 < (((List.length aAccept) : Nat) : Int) := of_decide_eq_true hb_
  clear hb_; replace hP := ite_t h42 hP
  refine vr tbok 12 [] [(2, .bool true)] [] E (by kernel_rfl) trivial ?_
  clear E; intro a E
  refine wpList_nil ?_
  refine th_n ?_
  refine wp_ret ?_
  obtain rfl := Option.some.inj hP
  refine ret1 E rfl rfl ?_
  exact ⟨_, rfl, rfl, H.sel [] rfl⟩
 replace E := E_; clear E_
 have h43 : ¬ (259 < (((List.length aAccept) : Nat) : Int)) := of_decide_eq_false hb_
 clear hb_; replace hP := ite_f h43 hP
 refine vr tbok 6 [.slice A9 (List.length aNodes) c10] [(1, .pointer (some ⟨g13, 0, none⟩)), (35, .bool (decide (40 < (((List.length aNodes) : Nat) : Int))))] [World.cell? w14 ⟨g13, 3, none⟩ = some (.slice A9 (List.length aNodes) c10)] E (by kernel_rfl) ((H.box 3 rfl).cell (j := 3) rfl) ?_
 clear E; intro a E
 refine E.cases (t := 35) rfl (fun hb_ E_ => ?_) (fun hb_ E_ => ?_)
 ·
  replace E := E_; clear E_
  have h44 : 40 < (((List.length aNodes) : Nat) : Int) := of_decide_eq_true hb_
  clear hb_; replace hP := ite_t h44 hP
  refine vr tbok 6 [] [(2, .bool true)] [] E (by kernel_rfl) trivial ?_
  clear E; intro a E
  refine wpList_nil ?_
  refine th_n ?_
  refine wp_ret ?_
  obtain rfl := Option.some.inj hP
  refine ret1 E rfl rfl ?_
  exact ⟨_, rfl, rfl, H.sel [] rfl⟩
 replace E := E_; clear E_
 have h45 : ¬ (40 < (((List.length aNodes) : Nat) : Int)) := of_decide_eq_false hb_
 clear hb_; replace hP := ite_f h45 hP
 refine vr tbok 6 [.slice A5 (List.length aGuard) c6] [(2, .bool (decide (300 < (((List.length aGuard) : Nat) : Int))))] [World.cell? w14 ⟨g13, 2, none⟩ = some (.slice A5 (List.length aGuard) c6)] E (by kernel_rfl) ((H.box 3 rfl).cell (j := 2) rfl) ?_
 clear E; intro a E
 refine wpList_nil ?_
 refine th_n ?_
 refine wp_ret ?_
 obtain rfl := Option.some.inj hP
 refine ret1 E rfl rfl ?_
 exact ⟨_, rfl, rfl, H.sel [] rfl⟩

end Go.V
