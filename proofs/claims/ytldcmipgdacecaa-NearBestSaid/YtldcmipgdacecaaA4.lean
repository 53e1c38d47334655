/- Plain functions, and the calls that give them. -/
import Derived.Test.YtldcmipgdacecaaA3
set_option linter.all false
set_option linter.unusedVariables false
set_option linter.unnecessarySimpa false
set_option linter.unusedSimpArgs false
namespace Go.V
open Go Go.Proofs
/-! rejoinder/canon.Run -/
def canon_Run_l0 (N : Nat) (aGuard : List Int) (aNodes : List Nd) (t : List Int) : Nat → Int → Int → Option Int
  | 0, _, _ => none
  | m104 + 1, q72, x73 =>
    if x73 < (((List.length t) : Nat) : Int) then
      ask (idx x73 (List.length t)) <|
      ask (idx q72 (List.length aGuard)) <|
      Option.bind (guard_Go N aNodes (List.getD aGuard (Int.toNat q72) 0) (List.getD t (Int.toNat x73) 0)) fun r118 =>
      ask (in64 (x73 + 1)) <|
      canon_Run_l0 N aGuard aNodes t m104 r118.1 (x73 + 1)
    else
      some q72
def canon_Run (N : Nat) (aProps : Int) (aAccept : List Bool) (aGuard : List Int) (aNodes : List Nd) (t : List Int) : Option (Int × Int) :=
  Option.bind (guard_Check N aProps aAccept aGuard aNodes) fun r22 =>
  if (r22 : Int) = 0 then
    Option.bind (letter_Trace N aProps t) fun r33 =>
    if (r33 : Int) = 0 then
      Option.bind (canon_Run_l0 N aGuard aNodes t N 0 0) fun x105 =>
      some (x105, 0)
    else
      some (0, r33)
  else
    some (0, r22)
set_option maxRecDepth 100000 in
set_option maxHeartbeats 4000000 in
theorem canon_Run_calls {N : Nat} {S Fa : Nat → Prop} {w0 : World} {r : Int × Int} (A1 : Option Addr) (c2 : Nat) (A5 : Option Addr) (c6 : Nat) (A9 : Option Addr) (c10 : Nat) (A13 : Option Addr) (c14 : Nat) (aProps : Int) (aAccept : List Bool) (aGuard : List Int) (aNodes : List Nd) (t : List Int) (hk3 : List.length aAccept ≤ c2) (hk7 : List.length aGuard ≤ c6) (hk11 : List.length aNodes ≤ c10) (hk15 : List.length t ≤ c14) (H : Hp S Fa w0 w0 [.ro false cBool A1 aAccept, .ro false (cInt .i64) A5 aGuard, .ro false cNode A9 aNodes, .ro false (cInt .u8) A13 t]) (hP : canon_Run N aProps aAccept aGuard aNodes t = some r) :
    Calls Try.prog 43 #[.agg #[.int .i64 aProps, .slice A1 (List.length aAccept) c2, .slice A5 (List.length aGuard) c6, .slice A9 (List.length aNodes) c10], .slice A13 (List.length t) c14] w0 fun e w' => ∃ v, e = .returned v ∧ v = .tuple #[.int .i64 r.1, .int .i64 r.2] ∧ Hp S Fa w0 w' [] := by
 refine enterV (n := 43) Try.func43 rfl rfl rfl ?_
 intro a E
 replace E := E.pick [(0, .agg #[.int .i64 aProps, .slice A1 (List.length aAccept) c2, .slice A5 (List.length aGuard) c6, .slice A9 (List.length aNodes) c10]), (1, .slice A13 (List.length t) c14)] ⟨rfl, rfl, trivial⟩
 rw [canon_Run] at hP
 refine wp_seq ?_
 refine wp_region_lit ?_
 refine h_box H E rfl rfl rfl ?_
 intro w18 g17 a hc19 hg21 H_ E_
 replace E := E_ _ rfl; clear E_
 replace H := H_; clear H_; try dsimp only [setn, addE, goneL] at H
 refine vn tbok 2 [] [] [] E (by kernel_rfl) (by kernel_rfl) trivial ?_
 clear E; intro a E
 refine wpList_nil ?_
 refine th_n ?_
 refine wp_seq ?_
 refine wp_seq ?_
 refine wp_region_lit ?_
 refine vn tbok 1 [.agg #[.int .i64 aProps, .slice A1 (List.length aAccept) c2, .slice A5 (List.length aGuard) c6, .slice A9 (List.length aNodes) c10]] [(11, .agg #[.int .i64 aProps, .slice A1 (List.length aAccept) c2, .slice A5 (List.length aGuard) c6, .slice A9 (List.length aNodes) c10])] [cellsAt w18 g17 (0) [.int .i64 aProps, .slice A1 (List.length aAccept) c2, .slice A5 (List.length aGuard) c6, .slice A9 (List.length aNodes) c10]] E (by kernel_rfl) (by kernel_rfl) ((H.box 4 rfl).sub 0 _ rfl) ?_
 clear E; intro a E
 obtain ⟨r22, h23, hP⟩ := bind_inv hP
 obtain ⟨Fa24, Hc25, hb26⟩ := H.call [] [(0, false), (1, false), (2, false)] rfl rfl trivial
 refine e_call E rfl rfl Try.func49 rfl rfl rfl (guard_Check_calls A1 c2 A5 c6 A9 c10 aProps aAccept aGuard aNodes hk3 hk7 hk11 Hc25 h23) ?_
 rintro v27 w28 a ⟨rfl, HR29⟩ E_
 replace E := E_ _ rfl; clear E_
 obtain ⟨H_, hc30⟩ := hb26 _ _ HR29 rfl
 replace H := H_; clear H_; try dsimp only [setn, addE, goneL] at H
 refine vn tbok 1 [] [(6, .int .i64 r22)] [] E (by kernel_rfl) (by kernel_rfl) trivial ?_
 clear E; intro a E
 refine wpList_nil ?_
 refine th_n ?_
 refine wp_seq ?_
 refine wp_region_lit ?_
 refine vn tbok 2 [] [(14, .bool ((r22 : Int) != 0))] [] E (by kernel_rfl) (by kernel_rfl) trivial ?_
 clear E; intro a E
 refine wpList_nil ?_
 refine th_n ?_
 refine E.cases (t := 14) rfl (fun hb_ E_ => ?_) (fun hb_ E_ => ?_)
 ·
  replace E := E_; clear E_
  have h31 : ¬ ((r22 : Int) = 0) := bne_iff_ne.1 hb_
  clear hb_; replace hP := ite_f h31 hP
  refine c_true E rfl ?_
  refine wp_seq ?_
  refine wp_region_lit ?_
  refine vn tbok 3 [] [(4, .int .i64 0), (5, .int .i64 r22)] [] E (by kernel_rfl) (by kernel_rfl) trivial ?_
  clear E; intro a E
  refine wpList_nil ?_
  refine th_n ?_
  refine wp_ret ?_
  refine th_ret ?_
  obtain rfl := Option.some.inj hP
  refine ret2 E rfl rfl rfl ?_
  exact ⟨_, rfl, rfl, H.sel [] rfl⟩
 replace E := E_; clear E_
 have h32 : (r22 : Int) = 0 := bne_eq_false_iff_eq.1 hb_
 clear hb_; replace hP := ite_t h32 hP
 refine c_false E rfl ?_
 refine wp_skip ?_
 refine th_n ?_
 refine wp_seq ?_
 refine wp_seq ?_
 refine wp_region_lit ?_
 refine vn tbok 3 [.int .i64 aProps] [(17, .int .i64 aProps), (18, .slice A13 (List.length t) c14)] [World.cell? w28 ⟨g17, 0, none⟩ = some (.int .i64 aProps)] E (by kernel_rfl) (by kernel_rfl) ((H.box 4 rfl).cell (j := 0) rfl) ?_
 clear E; intro a E
 obtain ⟨r33, h34, hP⟩ := bind_inv hP
 obtain ⟨Fa35, Hc36, hb37⟩ := H.call [] [(3, false)] rfl rfl trivial
 refine e_call E rfl rfl Try.func26 rfl rfl rfl (letter_Trace_calls A13 c14 aProps t hk15 Hc36 h34) ?_
 rintro v38 w39 a ⟨rfl, HR40⟩ E_
 replace E := E_ _ rfl; clear E_
 obtain ⟨H_, hc41⟩ := hb37 _ _ HR40 rfl
 replace H := H_; clear H_; try dsimp only [setn, addE, goneL] at H
 refine vn tbok 1 [] [(7, .int .i64 r33)] [] E (by kernel_rfl) (by kernel_rfl) trivial ?_
 clear E; intro a E
 refine wpList_nil ?_
 refine th_n ?_
 refine wp_seq ?_
 refine wp_region_lit ?_
 refine vn tbok 2 [] [(21, .bool ((r33 : Int) != 0))] [] E (by kernel_rfl) (by kernel_rfl) trivial ?_
 clear E; intro a E
 refine wpList_nil ?_
 refine th_n ?_
 refine E.cases (t := 21) rfl (fun hb_ E_ => ?_) (fun hb_ E_ => ?_)
 ·
  replace E := E_; clear E_
  have h42 : ¬ ((r33 : Int) = 0) := bne_iff_ne.1 hb_
  clear hb_; replace hP := ite_f h42 hP
  refine c_true E rfl ?_
  refine wp_seq ?_
  refine wp_region_lit ?_
  refine vn tbok 3 [] [(4, .int .i64 0), (5, .int .i64 r33)] [] E (by kernel_rfl) (by kernel_rfl) trivial ?_
  clear E; intro a E
  refine wpList_nil ?_
  refine th_n ?_
  refine wp_ret ?_
  refine th_ret ?_
  obtain rfl := Option.some.inj hP
  refine ret2 E rfl rfl rfl ?_
  exact ⟨_, rfl, rfl, H.sel [] rfl⟩
 replace E := E_; clear E_
 have h43 : (r33 : Int) = 0 := bne_eq_false_iff_eq.1 hb_
 clear hb_; replace hP := ite_t h43 hP
 refine c_false E rfl ?_
 refine wp_skip ?_
 refine th_n ?_
 refine wp_seq ?_
 refine wp_region_lit ?_
 refine vn tbok 1 [] [(8, .int .i64 0)] [] E (by kernel_rfl) (by kernel_rfl) trivial ?_
 clear E; intro a E
 refine wpList_nil ?_
 refine th_n ?_
 refine wp_seq ?_
 refine wp_seq ?_
 refine wp_region_lit ?_
 refine vn tbok 3 [] [(23, .slice A13 (List.length t) c14), (24, .int .i64 (((List.length t) : Nat) : Int)), (25, .int .i64 0)] [] E (by kernel_rfl) (by kernel_rfl) trivial ?_
 clear E; intro a E
 refine wpList_nil ?_
 refine th_n ?_
 refine wp_block ?_
 obtain ⟨x105, hL106, hK107⟩ := bind_inv hP
 clear hP
 refine loop_cut (fun i_ a w_ => (i_ = 0 ∧ ∃ (x110 : Int), Fr a 43 [(8, .int .i64 x110)] ∧ Hp S Fa w0 w_ [] ∧ x105 = x110)) ?_ ?_
 ·
  refine loopV (fun m109 a w108 => ∃ (q72 : Int) (x73 : Int), Fr a 43 [(2, .pointer (some ⟨g17, 0, none⟩)), (8, .int .i64 q72), (23, .slice A13 (List.length t) c14), (24, .int .i64 (((List.length t) : Nat) : Int)), (25, .int .i64 x73)] ∧ Hp S Fa w0 w108 [.ro false cBool A1 aAccept, .ro false (cInt .i64) A5 aGuard, .ro false cNode A9 aNodes, .box g17 34 [.int .i64 aProps, .slice A1 (List.length aAccept) c2, .slice A5 (List.length aGuard) c6, .slice A9 (List.length aNodes) c10], .ro false (cInt .u8) A13 t] ∧ canon_Run_l0 N aGuard aNodes t m109 q72 x73 = some x105) N ?_ ?_
  ·
   exact ⟨0, 0, E.pick _ ⟨rfl, rfl, rfl, rfl, rfl, trivial⟩, H.sel [0, 1, 2, 4, 3] rfl, hL106⟩
  clear E H hL106; intro m109 a w108 hI_
  obtain ⟨q72, x73, E, H, hP⟩ := hI_
  obtain ⟨m104, rfl⟩ : ∃ q_, m109 = q_ + 1 := by cases m109 with | zero => rw [canon_Run_l0] at hP; cases hP | succ q_ => exact ⟨q_, rfl⟩
  rw [canon_Run_l0] at hP
  refine wp_seq ?_
  refine wp_region_lit ?_
  refine vn tbok 1 [] [(26, .bool (decide (x73 < (((List.length t) : Nat) : Int))))] [] E (by kernel_rfl) (by kernel_rfl) trivial ?_
  clear E; intro a E
  refine wpList_nil ?_
  refine th_n ?_
  refine wp_seq ?_
  refine E.cases (t := 26) rfl (fun hb_ E_ => ?_) (fun hb_ E_ => ?_)
  ·
   replace E := E_; clear E_
   have h111 : x73 < (((List.length t) : Nat) : Int) := of_decide_eq_true hb_
   clear hb_; replace hP := ite_t h111 hP
   refine c_true E rfl ?_
   refine wp_skip ?_
   refine th_n ?_
   refine wp_seq ?_
   refine wp_block ?_
   refine wp_seq ?_
   refine wp_region_lit ?_
   obtain ⟨g112, hP⟩ := ask_inv hP
   obtain ⟨b113, o114, e_b113⟩ := (H.rd 4 rds_ro).addr (idx_pos g112)
   subst e_b113
   refine vn tbok 3 [.int .u8 (List.getD t (Int.toNat x73) 0)] [(10, .int .u8 (List.getD t (Int.toNat x73) 0))] [0 ≤ x73 ∧ x73 < (((List.length t) : Nat) : Int), World.cell? w108 ⟨b113, o114 + (Int.toNat x73) * 1, none⟩ = some (.int .u8 (List.getD t (Int.toNat x73) 0))] E (by kernel_rfl) (by kernel_rfl) ⟨g112, Rds.at1 (H.rd 4 rds_ro) 0 g112⟩ ?_
   clear E; intro a E
   refine wpList_nil ?_
   refine th_n ?_
   obtain ⟨g115, hP⟩ := ask_inv hP
   obtain ⟨b116, o117, e_b116⟩ := (H.rd 1 rds_ro).addr (idx_pos g115)
   subst e_b116
   obtain ⟨r118, h119, hP⟩ := bind_inv hP
   have HR130 := H
   refine dr_start (S := fun w_ => Chg (atL []) w108 w_) (by kernel_rfl) ?_
   intro w127 hc128
   have HS129 : Chg (atL []) w108 w127 := hc128.mono (fun _ _ h_ => h_.elim)
   replace H := H.ext hc128
   refine dn tbok (by kernel_rfl) [0, 1, 2, 3, 4, 5, 6, 7] [.slice A9 (List.length aNodes) c10, .slice (some ⟨b116, o117, none⟩) (List.length aGuard) c6, .int .i64 (List.getD aGuard (Int.toNat q72) 0)] [(31, .slice A9 (List.length aNodes) c10), (36, .int .i64 (List.getD aGuard (Int.toNat q72) 0)), (37, .int .u8 (List.getD t (Int.toNat x73) 0))] (fun w_ => [World.cell? w_ ⟨g17, 3, none⟩ = some (.slice A9 (List.length aNodes) c10), World.cell? w_ ⟨g17, 2, none⟩ = some (.slice (some ⟨b116, o117, none⟩) (List.length aGuard) c6), 0 ≤ q72 ∧ q72 < (((List.length aGuard) : Nat) : Int), World.cell? w_ ⟨b116, o117 + (Int.toNat q72) * 1, none⟩ = some (.int .i64 (List.getD aGuard (Int.toNat q72) 0))]) 5 E (fun _ _ => by kernel_rfl) (by kernel_rfl) (fun w_ hS_ => ⟨(HR130.boxk [] hS_ 3 rfl rfl).cell (j := 3) rfl, (HR130.boxk [] hS_ 3 rfl rfl).cell (j := 2) rfl, g115, Rds.at1 (HR130.rdk [] hS_ 1 rds_ro rfl) 0 g115⟩) (by kernel_rfl) HS129 ?_
   clear E; intro a E
   refine wpAnyH_all (rs := [8]) (by kernel_rfl) (by simp) ?_
   refine all1 ?_
   refine wpOp_of_list rfl ?_
   obtain ⟨Fa131, Hc132, hb133⟩ := H.call [] [(2, false)] rfl rfl trivial
   refine e_call E rfl rfl Try.func56 rfl rfl rfl (guard_Go_calls A9 c10 aNodes (List.getD aGuard (Int.toNat q72) 0) (List.getD t (Int.toNat x73) 0) hk11 Hc132 h119) ?_
   rintro v134 w135 a ⟨rfl, HR136⟩ E_
   replace E := E_ _ rfl; clear E_
   obtain ⟨H_, hc137⟩ := hb133 _ _ HR136 rfl
   replace HS129 := HS129.ext (callS_ext hc137)
   replace H := H_; clear H_; try dsimp only [setn, addE, goneL] at H
   refine wpList_nil ?_
   refine th_n ⟨HS129, ?_⟩
   refine dn tbok (by kernel_rfl) [9, 10, 11, 12] [] [(8, .int .i64 r118.1)] (fun w_ => []) 0 E (fun _ _ => by kernel_rfl) (by kernel_rfl) (fun w_ hS_ => trivial) (by kernel_rfl) HS129 ?_
   clear E; intro a E
   refine dr_done (by kernel_rfl) ?_
   clear HS129 HR130
   refine bl_n ?_
   refine th_n ?_
   refine wp_region_lit ?_
   obtain ⟨g138, hP⟩ := ask_inv hP
   refine vn tbok 2 [.int .i64 (x73 + 1)] [(25, .int .i64 (x73 + 1))] [IntKind.i64.wrap (x73 + 1) = x73 + 1] E (by kernel_rfl) (by kernel_rfl) (wrap_in g138) ?_
   clear E; intro a E
   refine wpList_nil ?_
   exact th_n ⟨m104, Nat.lt_succ_self _, r118.1, x73 + 1, E.pick _ ⟨rfl, rfl, rfl, rfl, rfl, trivial⟩, H.sel [0, 1, 2, 3, 4] rfl, hP⟩
  replace E := E_; clear E_
  have h139 : ¬ (x73 < (((List.length t) : Nat) : Int)) := of_decide_eq_false hb_
  clear hb_; replace hP := ite_f h139 hP
  refine c_false E rfl ?_
  refine wp_exit ?_
  refine th_exit ?_
  have hx_ := Option.some.inj hP
  refine th_exit (.inl ⟨0, rfl, ?_⟩)
  exact ⟨rfl, q72, E.pick _ ⟨rfl, trivial⟩, H.sel [] rfl, hx_.symm⟩
 clear E H hL106; intro i_ a w108 hM_
 obtain ⟨rfl, x110, E, H, hx_⟩ := hM_
 subst hx_; have hP := hK107; clear hK107
 refine bl_hit ?_
 refine th_n ?_
 refine wp_seq ?_
 refine wp_region_lit ?_
 refine vn tbok 3 [] [(4, .int .i64 x105), (5, .int .i64 0)] [] E (by kernel_rfl) (by kernel_rfl) trivial ?_
 clear E; intro a E
 refine wpList_nil ?_
 refine th_n ?_
 refine wp_ret ?_
 obtain rfl := Option.some.inj hP
 refine ret2 E rfl rfl rfl ?_
 exact ⟨_, rfl, rfl, H.sel [] rfl⟩

/-! rejoinder/rejoinderlaw28.accepts -/
def law28_accepts (N : Nat) (aProps : Int) (aAccept : List Bool) (aGuard : List Int) (aNodes : List Nd) (t : List Int) : Option Bool :=
  Option.bind (canon_Run N aProps aAccept aGuard aNodes t) fun r22 =>
  if (r22.2 : Int) = 0 then
    if 0 ≤ r22.1 then
      if r22.1 < (((List.length aAccept) : Nat) : Int) then
        ask (idx r22.1 (List.length aAccept)) <|
        some (List.getD aAccept (Int.toNat r22.1) false)
      else
        some false
    else
      some false
  else
    some false
set_option maxRecDepth 100000 in
set_option maxHeartbeats 4000000 in
theorem law28_accepts_calls {N : Nat} {S Fa : Nat → Prop} {w0 : World} {r : Bool} (A1 : Option Addr) (c2 : Nat) (A5 : Option Addr) (c6 : Nat) (A9 : Option Addr) (c10 : Nat) (A13 : Option Addr) (c14 : Nat) (aProps : Int) (aAccept : List Bool) (aGuard : List Int) (aNodes : List Nd) (t : List Int) (hk3 : List.length aAccept ≤ c2) (hk7 : List.length aGuard ≤ c6) (hk11 : List.length aNodes ≤ c10) (hk15 : List.length t ≤ c14) (H : Hp S Fa w0 w0 [.ro false cBool A1 aAccept, .ro false (cInt .i64) A5 aGuard, .ro false cNode A9 aNodes, .ro false (cInt .u8) A13 t]) (hP : law28_accepts N aProps aAccept aGuard aNodes t = some r) :
    Calls Try.prog 24 #[.agg #[.int .i64 aProps, .slice A1 (List.length aAccept) c2, .slice A5 (List.length aGuard) c6, .slice A9 (List.length aNodes) c10], .slice A13 (List.length t) c14] w0 fun e w' => ∃ v, e = .returned v ∧ v = .bool r ∧ Hp S Fa w0 w' [] := by
 refine enterV (n := 33) Try.func24 rfl rfl rfl ?_
 intro a E
 replace E := E.pick [(0, .agg #[.int .i64 aProps, .slice A1 (List.length aAccept) c2, .slice A5 (List.length aGuard) c6, .slice A9 (List.length aNodes) c10]), (1, .slice A13 (List.length t) c14)] ⟨rfl, rfl, trivial⟩
 rw [law28_accepts] at hP
 refine wp_seq ?_
 refine wp_region_lit ?_
 refine h_box H E rfl rfl rfl ?_
 intro w18 g17 a hc19 hg21 H_ E_
 replace E := E_ _ rfl; clear E_
 replace H := H_; clear H_; try dsimp only [setn, addE, goneL] at H
 refine vn tbok 1 [] [] [] E (by kernel_rfl) (by kernel_rfl) trivial ?_
 clear E; intro a E
 refine wpList_nil ?_
 refine th_n ?_
 refine wp_seq ?_
 refine wp_region_lit ?_
 refine vn tbok 2 [.agg #[.int .i64 aProps, .slice A1 (List.length aAccept) c2, .slice A5 (List.length aGuard) c6, .slice A9 (List.length aNodes) c10]] [(8, .agg #[.int .i64 aProps, .slice A1 (List.length aAccept) c2, .slice A5 (List.length aGuard) c6, .slice A9 (List.length aNodes) c10]), (9, .slice A13 (List.length t) c14)] [cellsAt w18 g17 (0) [.int .i64 aProps, .slice A1 (List.length aAccept) c2, .slice A5 (List.length aGuard) c6, .slice A9 (List.length aNodes) c10]] E (by kernel_rfl) (by kernel_rfl) ((H.box 4 rfl).sub 0 _ rfl) ?_
 clear E; intro a E
 obtain ⟨r22, h23, hP⟩ := bind_inv hP
 obtain ⟨Fa24, Hc25, hb26⟩ := H.call [] [(0, false), (1, false), (2, false), (3, false)] rfl rfl trivial
 refine e_call E rfl rfl Try.func43 rfl rfl rfl (canon_Run_calls A1 c2 A5 c6 A9 c10 A13 c14 aProps aAccept aGuard aNodes t hk3 hk7 hk11 hk15 Hc25 h23) ?_
 rintro v27 w28 a ⟨rfl, HR29⟩ E_
 replace E := E_ _ rfl; clear E_
 obtain ⟨H_, hc30⟩ := hb26 _ _ HR29 rfl
 replace H := H_; clear H_; try dsimp only [setn, addE, goneL] at H
 refine vn tbok 5 [] [(5, .int .i64 r22.1), (6, .int .i64 r22.2)] [] E (by kernel_rfl) (by kernel_rfl) trivial ?_
 clear E; intro a E
 refine wpList_nil ?_
 refine th_n ?_
 refine wp_seq ?_
 refine wp_region_lit ?_
 refine vn tbok 3 [] [(15, .bool ((r22.2 : Int) == 0))] [] E (by kernel_rfl) (by kernel_rfl) trivial ?_
 clear E; intro a E
 refine E.cases (t := 15) rfl (fun hb_ E_ => ?_) (fun hb_ E_ => ?_)
 ·
  replace E := E_; clear E_
  have h31 : (r22.2 : Int) = 0 := eq_of_beq hb_
  clear hb_; replace hP := ite_t h31 hP
  refine vn tbok 4 [] [(19, .bool (decide (0 ≤ r22.1)))] [] E (by kernel_rfl) (by kernel_rfl) trivial ?_
  clear E; intro a E
  refine E.cases (t := 19) rfl (fun hb_ E_ => ?_) (fun hb_ E_ => ?_)
  ·
   replace E := E_; clear E_
   have h32 : 0 ≤ r22.1 := of_decide_eq_true hb_
   clear hb_; replace hP := ite_t h32 hP
   refine vn tbok 7 [.slice A1 (List.length aAccept) c2] [(26, .bool (decide (r22.1 < (((List.length aAccept) : Nat) : Int))))] [World.cell? w28 ⟨g17, 1, none⟩ = some (.slice A1 (List.length aAccept) c2)] E (by kernel_rfl) (by kernel_rfl) ((H.box 4 rfl).cell (j := 1) rfl) ?_
   clear E; intro a E
   refine E.cases (t := 26) rfl (fun hb_ E_ => ?_) (fun hb_ E_ => ?_)
   ·
    replace E := E_; clear E_
    have h33 : r22.1 < (((List.length aAccept) : Nat) : Int) := of_decide_eq_true hb_
    clear hb_; replace hP := ite_t h33 hP
    obtain ⟨g34, hP⟩ := ask_inv hP
    obtain ⟨b35, o36, e_b35⟩ := (H.rd 0 rds_ro).addr (idx_pos g34)
    subst e_b35
    refine vn tbok 7 [.slice (some ⟨b35, o36, none⟩) (List.length aAccept) c2, .bool (List.getD aAccept (Int.toNat r22.1) false)] [(4, .bool (List.getD aAccept (Int.toNat r22.1) false))] [World.cell? w28 ⟨g17, 1, none⟩ = some (.slice (some ⟨b35, o36, none⟩) (List.length aAccept) c2), 0 ≤ r22.1 ∧ r22.1 < (((List.length aAccept) : Nat) : Int), World.cell? w28 ⟨b35, o36 + (Int.toNat r22.1) * 1, none⟩ = some (.bool (List.getD aAccept (Int.toNat r22.1) false))] E (by kernel_rfl) (by kernel_rfl) ⟨(H.box 4 rfl).cell (j := 1) rfl, g34, Rds.at1 (H.rd 0 rds_ro) false g34⟩ ?_
    clear E; intro a E
    refine wpList_nil ?_
    refine th_n ?_
    refine wp_ret ?_
    obtain rfl := Option.some.inj hP
    refine ret1 E rfl rfl ?_
    exact ⟨_, rfl, rfl, H.sel [] rfl⟩
   replace E := E_; clear E_
   have h37 : ¬ (r22.1 < (((List.length aAccept) : Nat) : Int)) := of_decide_eq_false hb_
   clear hb_; replace hP := ite_f h37 hP
   refine vn tbok 7 [] [(4, .bool false)] [] E (by kernel_rfl) (by kernel_rfl) trivial ?_
   clear E; intro a E
   refine wpList_nil ?_
   refine th_n ?_
   refine wp_ret ?_
   obtain rfl := Option.some.inj hP
   refine ret1 E rfl rfl ?_
   exact ⟨_, rfl, rfl, H.sel [] rfl⟩
  replace E := E_; clear E_
  have h38 : ¬ (0 ≤ r22.1) := of_decide_eq_false hb_
  clear hb_; replace hP := ite_f h38 hP
  refine vn tbok 14 [] [(4, .bool false)] [] E (by kernel_rfl) (by kernel_rfl) trivial ?_
  clear E; intro a E
  refine wpList_nil ?_
  refine th_n ?_
  refine wp_ret ?_
  obtain rfl := Option.some.inj hP
  refine ret1 E rfl rfl ?_
  exact ⟨_, rfl, rfl, H.sel [] rfl⟩
 replace E := E_; clear E_
 have h39 : ¬ ((r22.2 : Int) = 0) := ne_of_beq_false hb_
 clear hb_; replace hP := ite_f h39 hP
 refine vn tbok 18 [] [(4, .bool false)] [] E (by kernel_rfl) (by kernel_rfl) trivial ?_
 clear E; intro a E
 refine wpList_nil ?_
 refine th_n ?_
 refine wp_ret ?_
 obtain rfl := Option.some.inj hP
 refine ret1 E rfl rfl ?_
 exact ⟨_, rfl, rfl, H.sel [] rfl⟩

/-! rejoinder/rejoinderlaw28.before -/
def law28_before_l0 (N : Nat) (aa : List Int) (b : List Int) : Nat → Int → Option (Unit ⊕ Bool)
  | 0, _ => none
  | m51 + 1, i29 =>
    if i29 < (((List.length aa) : Nat) : Int) then
      if i29 < (((List.length b) : Nat) : Int) then
        ask (idx i29 (List.length aa)) <|
        ask (idx i29 (List.length b)) <|
        if ((List.getD aa (Int.toNat i29) 0) : Int) = (List.getD b (Int.toNat i29) 0) then
          ask (in64 (i29 + 1)) <|
          law28_before_l0 N aa b m51 (i29 + 1)
        else
          some (Sum.inr (decide ((List.getD aa (Int.toNat i29) 0) < (List.getD b (Int.toNat i29) 0))))
      else
        some (Sum.inl ())
    else
      some (Sum.inl ())
def law28_before (N : Nat) (aa : List Int) (b : List Int) : Option Bool :=
  Option.bind (law28_before_l0 N aa b N 0) fun x52 =>
  Sum.elim (fun x57 =>
    some false)
   (fun x79 =>
    some x79) x52
set_option maxRecDepth 100000 in
set_option maxHeartbeats 4000000 in
theorem law28_before_calls {N : Nat} {S Fa : Nat → Prop} {w0 : World} {r : Bool} (A1 : Option Addr) (c2 : Nat) (A5 : Option Addr) (c6 : Nat) (aa : List Int) (b : List Int) (hk3 : List.length aa ≤ c2) (hk7 : List.length b ≤ c6) (H : Hp S Fa w0 w0 [.ro false (cInt .u8) A1 aa, .ro false (cInt .u8) A5 b]) (hP : law28_before N aa b = some r) :
    Calls Try.prog 25 #[.slice A1 (List.length aa) c2, .slice A5 (List.length b) c6] w0 fun e w' => ∃ v, e = .returned v ∧ v = .bool r ∧ Hp S Fa w0 w' [] := by
 refine enterV (n := 36) Try.func25 rfl rfl rfl ?_
 intro a E
 replace E := E.pick [(0, .slice A1 (List.length aa) c2), (1, .slice A5 (List.length b) c6)] ⟨rfl, rfl, trivial⟩
 rw [law28_before] at hP
 refine wp_seq ?_
 refine wp_region_lit ?_
 refine vn tbok 1 [] [] [] E (by kernel_rfl) (by kernel_rfl) trivial ?_
 clear E; intro a E
 refine wpList_nil ?_
 refine th_n ?_
 refine wp_seq ?_
 refine wp_seq ?_
 refine wp_region_lit ?_
 refine vn tbok 1 [] [(5, .int .i64 0)] [] E (by kernel_rfl) (by kernel_rfl) trivial ?_
 clear E; intro a E
 refine wpList_nil ?_
 refine th_n ?_
 refine wp_block ?_
 obtain ⟨x52, hL53, hK54⟩ := bind_inv hP
 clear hP
 refine loop_cut (fun i_ a w_ => (i_ = 0 ∧ ∃ (x57 : Unit), Fr a 36 [] ∧ Hp S Fa w0 w_ [] ∧ x52 = Sum.inl x57)) ?_ ?_
 ·
  refine loopV (fun m56 a w55 => ∃ (i29 : Int), Fr a 36 [(0, .slice A1 (List.length aa) c2), (1, .slice A5 (List.length b) c6), (5, .int .i64 i29)] ∧ Hp S Fa w0 w55 [.ro false (cInt .u8) A1 aa, .ro false (cInt .u8) A5 b] ∧ law28_before_l0 N aa b m56 i29 = some x52) N ?_ ?_
  ·
   exact ⟨0, E.pick _ ⟨rfl, rfl, rfl, trivial⟩, H.sel [0, 1] rfl, hL53⟩
  clear E H hL53; intro m56 a w55 hI_
  obtain ⟨i29, E, H, hP⟩ := hI_
  obtain ⟨m51, rfl⟩ : ∃ q_, m56 = q_ + 1 := by cases m56 with | zero => rw [law28_before_l0] at hP; cases hP | succ q_ => exact ⟨q_, rfl⟩
  rw [law28_before_l0] at hP
  refine wp_seq ?_
  refine wp_seq ?_
  refine wp_region_lit ?_
  refine vn tbok 5 [] [(10, .bool (decide (i29 < (((List.length aa) : Nat) : Int))))] [] E (by kernel_rfl) (by kernel_rfl) trivial ?_
  clear E; intro a E
  refine E.cases (t := 10) rfl (fun hb_ E_ => ?_) (fun hb_ E_ => ?_)
  ·
   replace E := E_; clear E_
   have h58 : i29 < (((List.length aa) : Nat) : Int) := of_decide_eq_true hb_
   clear hb_; replace hP := ite_t h58 hP
   refine vn tbok 5 [] [(15, .bool (decide (i29 < (((List.length b) : Nat) : Int))))] [] E (by kernel_rfl) (by kernel_rfl) trivial ?_
   clear E; intro a E
   refine wpList_nil ?_
   refine th_n ?_
   refine E.cases (t := 15) rfl (fun hb_ E_ => ?_) (fun hb_ E_ => ?_)
   ·
    replace E := E_; clear E_
    have h59 : i29 < (((List.length b) : Nat) : Int) := of_decide_eq_true hb_
    clear hb_; replace hP := ite_t h59 hP
    refine c_true E rfl ?_
    refine wp_skip ?_
    refine th_n ?_
    refine wp_seq ?_
    refine wp_block ?_
    refine wp_seq ?_
    obtain ⟨g60, hP⟩ := ask_inv hP
    obtain ⟨b61, o62, e_b61⟩ := (H.rd 0 rds_ro).addr (idx_pos g60)
    subst e_b61
    obtain ⟨g63, hP⟩ := ask_inv hP
    obtain ⟨b64, o65, e_b64⟩ := (H.rd 1 rds_ro).addr (idx_pos g63)
    subst e_b64
    have HR69 := H
    refine dr_start (S := fun w_ => Chg (atL []) w55 w_) (by kernel_rfl) ?_
    intro w66 hc67
    have HS68 : Chg (atL []) w55 w66 := hc67.mono (fun _ _ h_ => h_.elim)
    replace H := H.ext hc67
    refine dn tbok (by kernel_rfl) [0, 1, 2, 3, 4, 5, 6, 7, 8] [.int .u8 (List.getD aa (Int.toNat i29) 0), .int .u8 (List.getD b (Int.toNat i29) 0)] [(26, .bool (((List.getD aa (Int.toNat i29) 0) : Int) != (List.getD b (Int.toNat i29) 0)))] (fun w_ => [0 ≤ i29 ∧ i29 < (((List.length aa) : Nat) : Int), World.cell? w_ ⟨b61, o62 + (Int.toNat i29) * 1, none⟩ = some (.int .u8 (List.getD aa (Int.toNat i29) 0)), 0 ≤ i29 ∧ i29 < (((List.length b) : Nat) : Int), World.cell? w_ ⟨b64, o65 + (Int.toNat i29) * 1, none⟩ = some (.int .u8 (List.getD b (Int.toNat i29) 0))]) 0 E (fun _ _ => by kernel_rfl) (by kernel_rfl) (fun w_ hS_ => ⟨g60, Rds.at1 (HR69.rdk [] hS_ 0 rds_ro rfl) 0 g60, g63, Rds.at1 (HR69.rdk [] hS_ 1 rds_ro rfl) 0 g63⟩) (by kernel_rfl) HS68 ?_
    clear E; intro a E
    refine dr_done (by kernel_rfl) ?_
    clear HS68 HR69
    refine th_n ?_
    refine E.cases (t := 26) rfl (fun hb_ E_ => ?_) (fun hb_ E_ => ?_)
    ·
     replace E := E_; clear E_
     have h70 : ¬ (((List.getD aa (Int.toNat i29) 0) : Int) = (List.getD b (Int.toNat i29) 0)) := bne_iff_ne.1 hb_
     clear hb_; replace hP := ite_f h70 hP
     refine c_true E rfl ?_
     refine wp_seq ?_
     have HR74 := H
     refine dr_start (S := fun w_ => Chg (atL []) w66 w_) (by kernel_rfl) ?_
     intro w71 hc72
     have HS73 : Chg (atL []) w66 w71 := hc72.mono (fun _ _ h_ => h_.elim)
     replace H := H.ext hc72
     refine dn tbok (by kernel_rfl) [0, 1, 2, 3, 4, 5, 6, 7, 8, 9] [.int .u8 (List.getD aa (Int.toNat i29) 0), .int .u8 (List.getD b (Int.toNat i29) 0)] [(4, .bool (decide ((List.getD aa (Int.toNat i29) 0) < (List.getD b (Int.toNat i29) 0))))] (fun w_ => [0 ≤ i29 ∧ i29 < (((List.length aa) : Nat) : Int), World.cell? w_ ⟨b61, o62 + (Int.toNat i29) * 1, none⟩ = some (.int .u8 (List.getD aa (Int.toNat i29) 0)), 0 ≤ i29 ∧ i29 < (((List.length b) : Nat) : Int), World.cell? w_ ⟨b64, o65 + (Int.toNat i29) * 1, none⟩ = some (.int .u8 (List.getD b (Int.toNat i29) 0))]) 0 E (fun _ _ => by kernel_rfl) (by kernel_rfl) (fun w_ hS_ => ⟨g60, Rds.at1 (HR74.rdk [] hS_ 0 rds_ro rfl) 0 g60, g63, Rds.at1 (HR74.rdk [] hS_ 1 rds_ro rfl) 0 g63⟩) (by kernel_rfl) HS73 ?_
     clear E; intro a E
     refine dr_done (by kernel_rfl) ?_
     clear HS73 HR74
     refine th_n ?_
     refine wp_ret ?_
     refine bl_ret ?_
     refine th_ret ?_
     refine th_ret ?_
     refine .inr ⟨rfl, ?_⟩
     refine bl_ret ?_
     refine th_ret ?_
     have hx_ := Option.some.inj hP; subst hx_
     have hP : some (decide ((List.getD aa (Int.toNat i29) 0) < (List.getD b (Int.toNat i29) 0))) = some r := hK54
     obtain rfl := Option.some.inj hP
     refine ret1 E rfl rfl ?_
     exact ⟨_, rfl, rfl, H.sel [] rfl⟩
    replace E := E_; clear E_
    have h75 : ((List.getD aa (Int.toNat i29) 0) : Int) = (List.getD b (Int.toNat i29) 0) := bne_eq_false_iff_eq.1 hb_
    clear hb_; replace hP := ite_t h75 hP
    refine c_false E rfl ?_
    refine wp_skip ?_
    refine bl_n ?_
    refine th_n ?_
    refine wp_region_lit ?_
    obtain ⟨g76, hP⟩ := ask_inv hP
    refine vn tbok 3 [.int .i64 (i29 + 1)] [(5, .int .i64 (i29 + 1))] [IntKind.i64.wrap (i29 + 1) = i29 + 1] E (by kernel_rfl) (by kernel_rfl) (wrap_in g76) ?_
    clear E; intro a E
    refine wpList_nil ?_
    exact th_n ⟨m51, Nat.lt_succ_self _, i29 + 1, E.pick _ ⟨rfl, rfl, rfl, trivial⟩, H.sel [0, 1] rfl, hP⟩
   replace E := E_; clear E_
   have h77 : ¬ (i29 < (((List.length b) : Nat) : Int)) := of_decide_eq_false hb_
   clear hb_; replace hP := ite_f h77 hP
   refine c_false E rfl ?_
   refine wp_exit ?_
   refine th_exit ?_
   have hx_ := Option.some.inj hP
   refine th_exit (.inl ⟨0, rfl, ?_⟩)
   exact ⟨rfl, (), E.pick _ trivial, H.sel [] rfl, hx_.symm⟩
  replace E := E_; clear E_
  have h78 : ¬ (i29 < (((List.length aa) : Nat) : Int)) := of_decide_eq_false hb_
  clear hb_; replace hP := ite_f h78 hP
  refine vn tbok 5 [] [(15, .bool false)] [] E (by kernel_rfl) (by kernel_rfl) trivial ?_
  clear E; intro a E
  refine wpList_nil ?_
  refine th_n ?_
  refine c_false E rfl ?_
  refine wp_exit ?_
  refine th_exit ?_
  have hx_ := Option.some.inj hP
  refine th_exit (.inl ⟨0, rfl, ?_⟩)
  exact ⟨rfl, (), E.pick _ trivial, H.sel [] rfl, hx_.symm⟩
 clear E H hL53; intro i_ a w55 hM_
 obtain ⟨rfl, x57, E, H, hx_⟩ := hM_
 subst hx_; have hP := elim_l hK54
 clear hK54
 refine bl_hit ?_
 refine th_n ?_
 refine wp_seq ?_
 refine wp_region_lit ?_
 refine vn tbok 1 [] [(4, .bool false)] [] E (by kernel_rfl) (by kernel_rfl) trivial ?_
 clear E; intro a E
 refine wpList_nil ?_
 refine th_n ?_
 refine wp_ret ?_
 obtain rfl := Option.some.inj hP
 refine ret1 E rfl rfl ?_
 exact ⟨_, rfl, rfl, H.sel [] rfl⟩

end Go.V
