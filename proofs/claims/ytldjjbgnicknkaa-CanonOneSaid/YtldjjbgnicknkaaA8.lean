/- Plain functions, and the calls that give them. -/
import Derived.Test.YtldjjbgnicknkaaA7
set_option linter.all false
set_option linter.unusedVariables false
set_option linter.unnecessarySimpa false
set_option linter.unusedSimpArgs false
namespace Go.V
open Go Go.Proofs
/-! rejoinder/canon.Run -/
def canon_Run_l0 (N : Nat) (aGuard : List Int) (aNodes : List Nd) (t : List Int) : Nat → Int → Int → Option Int
  | 0, _, _ => none
  | m104 + 1, q72, x73 =>
    if x73 < (((List.length t) : Nat) : Int) then
      ask (idx x73 (List.length t)) <|
      ask (idx q72 (List.length aGuard)) <|
      Option.bind (guard_Go N aNodes (List.getD aGuard (Int.toNat q72) 0) (List.getD t (Int.toNat x73) 0)) fun r118 =>
      ask (in64 (x73 + 1)) <|
      canon_Run_l0 N aGuard aNodes t m104 r118.1 (x73 + 1)
    else
      some q72
def canon_Run (N : Nat) (aProps : Int) (aAccept : List Bool) (aGuard : List Int) (aNodes : List Nd) (t : List Int) : Option (Int × Int) :=
  Option.bind (guard_Check N aProps aAccept aGuard aNodes) fun r22 =>
  if (r22 : Int) = 0 then
    Option.bind (letter_Trace N aProps t) fun r33 =>
    if (r33 : Int) = 0 then
      Option.bind (canon_Run_l0 N aGuard aNodes t N 0 0) fun x105 =>
      some (x105, 0)
    else
      some (0, r33)
  else
    some (0, r22)
set_option maxRecDepth 100000 in
set_option maxHeartbeats 4000000 in
theorem canon_Run_calls {N : Nat} {S Fa : Nat → Prop} {w0 : World} {r : Int × Int} (A1 : Option Addr) (c2 : Nat) (A5 : Option Addr) (c6 : Nat) (A9 : Option Addr) (c10 : Nat) (A13 : Option Addr) (c14 : Nat) (aProps : Int) (aAccept : List Bool) (aGuard : List Int) (aNodes : List Nd) (t : List Int) (hk3 : List.length aAccept ≤ c2) (hk7 : List.length aGuard ≤ c6) (hk11 : List.length aNodes ≤ c10) (hk15 : List.length t ≤ c14) (H : Hp S Fa w0 w0 [.ro false cBool A1 aAccept, .ro false (cInt .i64) A5 aGuard, .ro false cNode A9 aNodes, .ro false (cInt .u8) A13 t]) (hP : canon_Run N aProps aAccept aGuard aNodes t = some r) :
    Calls Try.prog 12 #[.agg #[.int .i64 aProps, .slice A1 (List.length aAccept) c2, .slice A5 (List.length aGuard) c6, .slice A9 (List.length aNodes) c10], .slice A13 (List.length t) c14] w0 fun e w' => ∃ v, e = .returned v ∧ v = .tuple #[.int .i64 r.1, .int .i64 r.2] ∧ Hp S Fa w0 w' [] := by
 refine enterV (n := 43) Try.func12 rfl rfl rfl ?_
 intro a E
 replace E := E.pick [(0, .agg #[.int .i64 aProps, .slice A1 (List.length aAccept) c2, .slice A5 (List.length aGuard) c6, .slice A9 (List.length aNodes) c10]), (1, .slice A13 (List.length t) c14)] ⟨rfl, rfl, trivial⟩
 rw [canon_Run] at hP
 refine wp_seq ?_
 refine wp_region_lit ?_
 refine h_box H E rfl rfl rfl ?_
 intro w18 g17 a hc19 hg21 H_ E_
 replace E := E_ _ rfl; clear E_
 replace H := H_; clear H_; try dsimp only [setn, addE, goneL] at H
 refine vr tbok 2 [] [(1, .slice A13 (List.length t) c14), (2, .pointer (some ⟨g17, 0, none⟩))] [] E (by kernel_rfl) trivial ?_
 clear E; intro a E
 refine wpList_nil ?_
 refine th_n ?_
 refine wp_seq ?_
 refine wp_seq ?_
 refine wp_region_lit ?_
 refine vr tbok 1 [.agg #[.int .i64 aProps, .slice A1 (List.length aAccept) c2, .slice A5 (List.length aGuard) c6, .slice A9 (List.length aNodes) c10]] [(1, .slice A13 (List.length t) c14), (2, .pointer (some ⟨g17, 0, none⟩)), (11, .agg #[.int .i64 aProps, .slice A1 (List.length aAccept) c2, .slice A5 (List.length aGuard) c6, .slice A9 (List.length aNodes) c10])] [cellsAt w18 g17 (0) [.int .i64 aProps, .slice A1 (List.length aAccept) c2, .slice A5 (List.length aGuard) c6, .slice A9 (List.length aNodes) c10]] E (by kernel_rfl) ((H.box 4 rfl).sub 0 _ rfl) ?_
 clear E; intro a E
 obtain ⟨r22, h23, hP⟩ := bind_inv hP
 obtain ⟨Fa24, Hc25, hb26⟩ := H.call [] [(0, false), (1, false), (2, false)] rfl rfl trivial
 refine e_call E rfl rfl Try.func28 rfl rfl rfl (guard_Check_calls A1 c2 A5 c6 A9 c10 aProps aAccept aGuard aNodes hk3 hk7 hk11 Hc25 h23) ?_
 rintro v27 w28 a ⟨rfl, HR29⟩ E_
 replace E := E_ _ rfl; clear E_
 obtain ⟨H_, hc30⟩ := hb26 _ _ HR29 rfl
 replace H := H_; clear H_; try dsimp only [setn, addE, goneL] at H
 refine vr tbok 1 [] [(1, .slice A13 (List.length t) c14), (2, .pointer (some ⟨g17, 0, none⟩)), (6, .int .i64 r22)] [] E (by kernel_rfl) trivial ?_
 clear E; intro a E
 refine wpList_nil ?_
 refine th_n ?_
 refine wp_seq ?_
 refine wp_region_lit ?_
 refine vr tbok 2 [] [(1, .slice A13 (List.length t) c14), (2, .pointer (some ⟨g17, 0, none⟩)), (6, .int .i64 r22), (14, .bool ((r22 : Int) != 0))] [] E (by kernel_rfl) trivial ?_
 clear E; intro a E
 refine wpList_nil ?_
 refine th_n ?_
 refine E.cases (t := 14) rfl (fun hb_ E_ => ?_) (fun hb_ E_ => ?_)
 ·
  replace E := E_; clear E_
  have h31 : ¬ ((r22 : Int) = 0) := bne_iff_ne.1 hb_
  clear hb_; replace hP := ite_f h31 hP
  refine c_true E rfl ?_
  refine wp_seq ?_
  refine wp_region_lit ?_
  refine vr tbok 3 [] [(4, .int .i64 0), (5, .int .i64 r22)] [] E (by kernel_rfl) trivial ?_
  clear E; intro a E
  refine wpList_nil ?_
  refine th_n ?_
  refine wp_ret ?_
  refine th_ret ?_
  obtain rfl := Option.some.inj hP
  refine ret2 E rfl rfl rfl ?_
  exact ⟨_, rfl, rfl, H.sel [] rfl⟩
 replace E := E_; clear E_
 have h32 : (r22 : Int) = 0 := bne_eq_false_iff_eq.1 hb_
 clear hb_; replace hP := ite_t h32 hP
 refine c_false E rfl ?_
 refine wp_skip ?_
 refine th_n ?_
 refine wp_seq ?_
 refine wp_seq ?_
 refine wp_region_lit ?_
 refine vr tbok 3 [.int .i64 aProps] [(1, .slice A13 (List.length t) c14), (2, .pointer (some ⟨g17, 0, none⟩)), (17, .int .i64 aProps), (18, .slice A13 (List.length t) c14)] [World.cell? w28 ⟨g17, 0, none⟩ = some (.int .i64 aProps)] E (by kernel_rfl) ((H.box 4 rfl).cell (j := 0) rfl) ?_
 clear E; intro a E
 obtain ⟨r33, h34, hP⟩ := bind_inv hP
 obtain ⟨Fa35, Hc36, hb37⟩ := H.call [] [(3, false)] rfl rfl trivial
 refine e_call E rfl rfl Try.func34 rfl rfl rfl (letter_Trace_calls A13 c14 aProps t hk15 Hc36 h34) ?_
 rintro v38 w39 a ⟨rfl, HR40⟩ E_
 replace E := E_ _ rfl; clear E_
 obtain ⟨H_, hc41⟩ := hb37 _ _ HR40 rfl
 replace H := H_; clear H_; try dsimp only [setn, addE, goneL] at H
 refine vr tbok 1 [] [(1, .slice A13 (List.length t) c14), (2, .pointer (some ⟨g17, 0, none⟩)), (7, .int .i64 r33)] [] E (by kernel_rfl) trivial ?_
 clear E; intro a E
 refine wpList_nil ?_
 refine th_n ?_
 refine wp_seq ?_
 refine wp_region_lit ?_
 refine vr tbok 2 [] [(1, .slice A13 (List.length t) c14), (2, .pointer (some ⟨g17, 0, none⟩)), (7, .int .i64 r33), (21, .bool ((r33 : Int) != 0))] [] E (by kernel_rfl) trivial ?_
 clear E; intro a E
 refine wpList_nil ?_
 refine th_n ?_
 refine E.cases (t := 21) rfl (fun hb_ E_ => ?_) (fun hb_ E_ => ?_)
 ·
  replace E := E_; clear E_
  have h42 : ¬ ((r33 : Int) = 0) := bne_iff_ne.1 hb_
  clear hb_; replace hP := ite_f h42 hP
  refine c_true E rfl ?_
  refine wp_seq ?_
  refine wp_region_lit ?_
  refine vr tbok 3 [] [(4, .int .i64 0), (5, .int .i64 r33)] [] E (by kernel_rfl) trivial ?_
  clear E; intro a E
  refine wpList_nil ?_
  refine th_n ?_
  refine wp_ret ?_
  refine th_ret ?_
  obtain rfl := Option.some.inj hP
  refine ret2 E rfl rfl rfl ?_
  exact ⟨_, rfl, rfl, H.sel [] rfl⟩
 replace E := E_; clear E_
 have h43 : (r33 : Int) = 0 := bne_eq_false_iff_eq.1 hb_
 clear hb_; replace hP := ite_t h43 hP
 refine c_false E rfl ?_
 refine wp_skip ?_
 refine th_n ?_
 refine wp_seq ?_
 refine wp_region_lit ?_
 refine vr tbok 1 [] [(1, .slice A13 (List.length t) c14), (2, .pointer (some ⟨g17, 0, none⟩)), (8, .int .i64 0)] [] E (by kernel_rfl) trivial ?_
 clear E; intro a E
 refine wpList_nil ?_
 refine th_n ?_
 refine wp_seq ?_
 refine wp_seq ?_
 refine wp_region_lit ?_
 refine vr tbok 3 [] [(2, .pointer (some ⟨g17, 0, none⟩)), (8, .int .i64 0), (23, .slice A13 (List.length t) c14), (24, .int .i64 (((List.length t) : Nat) : Int)), (25, .int .i64 0)] [] E (by kernel_rfl) trivial ?_
 clear E; intro a E
 refine wpList_nil ?_
 refine th_n ?_
 refine wp_block ?_
 obtain ⟨x105, hL106, hK107⟩ := bind_inv hP
 clear hP
 refine loop_cut (fun i_ a w_ => (i_ = 0 ∧ ∃ (x110 : Int), Fr a 43 [(8, .int .i64 x110)] ∧ Hp S Fa w0 w_ [] ∧ x105 = x110)) ?_ ?_
 ·
  refine loopV (fun m109 a w108 => ∃ (q72 : Int) (x73 : Int), Fr a 43 [(2, .pointer (some ⟨g17, 0, none⟩)), (8, .int .i64 q72), (23, .slice A13 (List.length t) c14), (24, .int .i64 (((List.length t) : Nat) : Int)), (25, .int .i64 x73)] ∧ Hp S Fa w0 w108 [.ro false cBool A1 aAccept, .ro false (cInt .i64) A5 aGuard, .ro false cNode A9 aNodes, .box g17 26 [.int .i64 aProps, .slice A1 (List.length aAccept) c2, .slice A5 (List.length aGuard) c6, .slice A9 (List.length aNodes) c10], .ro false (cInt .u8) A13 t] ∧ canon_Run_l0 N aGuard aNodes t m109 q72 x73 = some x105) N ?_ ?_
  ·
   exact ⟨0, 0, E.pick _ ⟨rfl, rfl, rfl, rfl, rfl, trivial⟩, H.sel [0, 1, 2, 4, 3] rfl, hL106⟩
  clear E H hL106; intro m109 a w108 hI_
  obtain ⟨q72, x73, E, H, hP⟩ := hI_
  obtain ⟨m104, rfl⟩ : ∃ q_, m109 = q_ + 1 := by cases m109 with | zero => rw [canon_Run_l0] at hP; cases hP | succ q_ => exact ⟨q_, rfl⟩
  rw [canon_Run_l0] at hP
  refine wp_seq ?_
  refine wp_region_lit ?_
  refine vr tbok 1 [] [(2, .pointer (some ⟨g17, 0, none⟩)), (8, .int .i64 q72), (23, .slice A13 (List.length t) c14), (24, .int .i64 (((List.length t) : Nat) : Int)), (25, .int .i64 x73), (26, .bool (decide (x73 < (((List.length t) : Nat) : Int))))] [] E (by kernel_rfl) trivial ?_
  clear E; intro a E
  refine wpList_nil ?_
  refine th_n ?_
  refine wp_seq ?_
  refine E.cases (t := 26) rfl (fun hb_ E_ => ?_) (fun hb_ E_ => ?_)
  ·
   replace E := E_; clear E_
   have h111 : x73 < (((List.length t) : Nat) : Int) := of_decide_eq_true hb_
   clear hb_; replace hP := ite_t h111 hP
   refine c_true E rfl ?_
   refine wp_skip ?_
   refine th_n ?_
   refine wp_seq ?_
   refine wp_block ?_
   refine wp_seq ?_
   refine wp_region_lit ?_
   obtain ⟨g112, hP⟩ := ask_inv hP
   obtain ⟨b113, o114, e_b113⟩ := (H.rd 4 rds_ro).addr (idx_pos g112)
   subst e_b113
   refine vr tbok 3 [.int .u8 (List.getD t (Int.toNat x73) 0)] [(2, .pointer (some ⟨g17, 0, none⟩)), (8, .int .i64 q72), (10, .int .u8 (List.getD t (Int.toNat x73) 0)), (23, .slice (some ⟨b113, o114, none⟩) (List.length t) c14), (24, .int .i64 (((List.length t) : Nat) : Int)), (25, .int .i64 x73)] [0 ≤ x73 ∧ x73 < (((List.length t) : Nat) : Int), World.cell? w108 ⟨b113, o114 + (Int.toNat x73) * 1, none⟩ = some (.int .u8 (List.getD t (Int.toNat x73) 0))] E (by kernel_rfl) ⟨g112, Rds.at1 (H.rd 4 rds_ro) 0 g112⟩ ?_
   clear E; intro a E
   refine wpList_nil ?_
   refine th_n ?_
   obtain ⟨g115, hP⟩ := ask_inv hP
   obtain ⟨b116, o117, e_b116⟩ := (H.rd 1 rds_ro).addr (idx_pos g115)
   subst e_b116
   obtain ⟨r118, h119, hP⟩ := bind_inv hP
   have HR130 := H
   refine dr_start (S := fun w_ => Chg (atL []) w108 w_) (by kernel_rfl) ?_
   intro w127 hc128
   have HS129 : Chg (atL []) w108 w127 := hc128.mono (fun _ _ h_ => h_.elim)
   replace H := H.ext hc128
   refine dr tbok (by kernel_rfl) [0, 1, 2, 3, 4, 5, 6, 7] [.slice A9 (List.length aNodes) c10, .slice (some ⟨b116, o117, none⟩) (List.length aGuard) c6, .int .i64 (List.getD aGuard (Int.toNat q72) 0)] [(2, .pointer (some ⟨g17, 0, none⟩)), (8, .int .i64 q72), (23, .slice (some ⟨b113, o114, none⟩) (List.length t) c14), (24, .int .i64 (((List.length t) : Nat) : Int)), (25, .int .i64 x73), (31, .slice A9 (List.length aNodes) c10), (36, .int .i64 (List.getD aGuard (Int.toNat q72) 0)), (37, .int .u8 (List.getD t (Int.toNat x73) 0))] (fun w_ => [World.cell? w_ ⟨g17, 3, none⟩ = some (.slice A9 (List.length aNodes) c10), World.cell? w_ ⟨g17, 2, none⟩ = some (.slice (some ⟨b116, o117, none⟩) (List.length aGuard) c6), 0 ≤ q72 ∧ q72 < (((List.length aGuard) : Nat) : Int), World.cell? w_ ⟨b116, o117 + (Int.toNat q72) * 1, none⟩ = some (.int .i64 (List.getD aGuard (Int.toNat q72) 0))]) 5 E (fun _ _ => by kernel_rfl) (fun w_ hS_ => ⟨(HR130.boxk [] hS_ 3 rfl rfl).cell (j := 3) rfl, (HR130.boxk [] hS_ 3 rfl rfl).cell (j := 2) rfl, g115, Rds.at1 (HR130.rdk [] hS_ 1 rds_ro rfl) 0 g115⟩) (by kernel_rfl) HS129 ?_
   clear E; intro a E
   refine wpAnyH_all (rs := [8]) (by kernel_rfl) (by simp) ?_
   refine all1 ?_
   refine wpOp_of_list rfl ?_
   obtain ⟨Fa131, Hc132, hb133⟩ := H.call [] [(2, false)] rfl rfl trivial
   refine e_call E rfl rfl Try.func30 rfl rfl rfl (guard_Go_calls A9 c10 aNodes (List.getD aGuard (Int.toNat q72) 0) (List.getD t (Int.toNat x73) 0) hk11 Hc132 h119) ?_
   rintro v134 w135 a ⟨rfl, HR136⟩ E_
   replace E := E_ _ rfl; clear E_
   obtain ⟨H_, hc137⟩ := hb133 _ _ HR136 rfl
   replace HS129 := HS129.ext (callS_ext hc137)
   replace H := H_; clear H_; try dsimp only [setn, addE, goneL] at H
   refine wpList_nil ?_
   refine th_n ⟨HS129, ?_⟩
   refine dr tbok (by kernel_rfl) [9, 10, 11, 12] [] [(2, .pointer (some ⟨g17, 0, none⟩)), (8, .int .i64 r118.1), (23, .slice (some ⟨b113, o114, none⟩) (List.length t) c14), (24, .int .i64 (((List.length t) : Nat) : Int)), (25, .int .i64 x73)] (fun w_ => []) 0 E (fun _ _ => by kernel_rfl) (fun w_ hS_ => trivial) (by kernel_rfl) HS129 ?_
   clear E; intro a E
   refine dr_done (by kernel_rfl) ?_
   clear HS129 HR130
   refine bl_n ?_
   refine th_n ?_
   refine wp_region_lit ?_
   obtain ⟨g138, hP⟩ := ask_inv hP
   refine vr tbok 2 [.int .i64 (x73 + 1)] [(2, .pointer (some ⟨g17, 0, none⟩)), (8, .int .i64 r118.1), (23, .slice (some ⟨b113, o114, none⟩) (List.length t) c14), (24, .int .i64 (((List.length t) : Nat) : Int)), (25, .int .i64 (x73 + 1))] [IntKind.i64.wrap (x73 + 1) = x73 + 1] E (by kernel_rfl) (wrap_in g138) ?_
   clear E; intro a E
   refine wpList_nil ?_
   exact th_n ⟨m104, Nat.lt_succ_self _, r118.1, x73 + 1, E.pick _ ⟨rfl, rfl, rfl, rfl, rfl, trivial⟩, H.sel [0, 1, 2, 3, 4] rfl, hP⟩
  replace E := E_; clear E_
  have h139 : ¬ (x73 < (((List.length t) : Nat) : Int)) := of_decide_eq_false hb_
  clear hb_; replace hP := ite_f h139 hP
  refine c_false E rfl ?_
  refine wp_exit ?_
  refine th_exit ?_
  have hx_ := Option.some.inj hP
  refine th_exit (.inl ⟨0, rfl, ?_⟩)
  exact ⟨rfl, q72, E.pick _ ⟨rfl, trivial⟩, H.sel [] rfl, hx_.symm⟩
 clear E H hL106; intro i_ a w108 hM_
 obtain ⟨rfl, x110, E, H, hx_⟩ := hM_
 subst hx_; have hP := hK107; clear hK107
 refine bl_hit ?_
 refine th_n ?_
 refine wp_seq ?_
 refine wp_region_lit ?_
 refine vr tbok 3 [] [(4, .int .i64 x105), (5, .int .i64 0)] [] E (by kernel_rfl) trivial ?_
 clear E; intro a E
 refine wpList_nil ?_
 refine th_n ?_
 refine wp_ret ?_
 obtain rfl := Option.some.inj hP
 refine ret2 E rfl rfl rfl ?_
 exact ⟨_, rfl, rfl, H.sel [] rfl⟩

/-! rejoinder/canon.Is -/
def canon_Is (N : Nat) (aProps : Int) (aAccept : List Bool) (aGuard : List Int) (aNodes : List Nd) : Option (Bool × Int) :=
  Option.bind (canon_Min N aProps aAccept aGuard aNodes) fun r18 =>
  if (r18.2 : Int) = 0 then
    Option.bind (canon_Same N r18.1.1 r18.1.2.1 r18.1.2.2.1 r18.1.2.2.2 aProps aAccept aGuard aNodes) fun r44 =>
    some (r44, r18.2)
  else
    some (false, r18.2)
set_option maxRecDepth 100000 in
set_option maxHeartbeats 4000000 in
theorem canon_Is_calls {N : Nat} {S Fa : Nat → Prop} {w0 : World} {r : Bool × Int} (A1 : Option Addr) (c2 : Nat) (A5 : Option Addr) (c6 : Nat) (A9 : Option Addr) (c10 : Nat) (aProps : Int) (aAccept : List Bool) (aGuard : List Int) (aNodes : List Nd) (hk3 : List.length aAccept ≤ c2) (hk7 : List.length aGuard ≤ c6) (hk11 : List.length aNodes ≤ c10) (H : Hp S Fa w0 w0 [.ro false cBool A1 aAccept, .ro false (cInt .i64) A5 aGuard, .ro false cNode A9 aNodes]) (hP : canon_Is N aProps aAccept aGuard aNodes = some r) :
    Calls Try.prog 19 #[.agg #[.int .i64 aProps, .slice A1 (List.length aAccept) c2, .slice A5 (List.length aGuard) c6, .slice A9 (List.length aNodes) c10]] w0 fun e w' => ∃ v, e = .returned v ∧ v = .tuple #[.bool r.1, .int .i64 r.2] ∧ Hp S Fa w0 w' [] := by
 refine enterV (n := 19) Try.func19 rfl rfl rfl ?_
 intro a E
 replace E := E.pick [(0, .agg #[.int .i64 aProps, .slice A1 (List.length aAccept) c2, .slice A5 (List.length aGuard) c6, .slice A9 (List.length aNodes) c10])] ⟨rfl, trivial⟩
 rw [canon_Is] at hP
 refine wp_seq ?_
 refine wp_region_lit ?_
 refine h_box H E rfl rfl rfl ?_
 intro w14 g13 a hc15 hg17 H_ E_
 replace E := E_ _ rfl; clear E_
 replace H := H_; clear H_; try dsimp only [setn, addE, goneL] at H
 refine vr tbok 2 [] [(1, .pointer (some ⟨g13, 0, none⟩))] [] E (by kernel_rfl) trivial ?_
 clear E; intro a E
 refine wpList_nil ?_
 refine th_n ?_
 refine wp_seq ?_
 refine wp_region_lit ?_
 refine vr tbok 1 [.agg #[.int .i64 aProps, .slice A1 (List.length aAccept) c2, .slice A5 (List.length aGuard) c6, .slice A9 (List.length aNodes) c10]] [(1, .pointer (some ⟨g13, 0, none⟩)), (7, .agg #[.int .i64 aProps, .slice A1 (List.length aAccept) c2, .slice A5 (List.length aGuard) c6, .slice A9 (List.length aNodes) c10])] [cellsAt w14 g13 (0) [.int .i64 aProps, .slice A1 (List.length aAccept) c2, .slice A5 (List.length aGuard) c6, .slice A9 (List.length aNodes) c10]] E (by kernel_rfl) ((H.box 3 rfl).sub 0 _ rfl) ?_
 clear E; intro a E
 obtain ⟨r18, h19, hP⟩ := bind_inv hP
 obtain ⟨Fa20, Hc21, hb22⟩ := H.call [] [(0, false), (1, false), (2, false)] rfl rfl trivial
 refine e_call E rfl rfl Try.func17 rfl rfl rfl (canon_Min_calls A1 c2 A5 c6 A9 c10 aProps aAccept aGuard aNodes hk3 hk7 hk11 Hc21 h19) ?_
 rintro v23 w24 a ⟨A27, c28, A30, c31, A33, c34, rfl, HR25⟩ E_
 replace E := E_ _ rfl; clear E_
 obtain ⟨H_, hc26⟩ := hb22 _ _ HR25 rfl
 replace H := H_; clear H_; try dsimp only [setn, addE, goneL] at H
 refine vr tbok 3 [] [(1, .pointer (some ⟨g13, 0, none⟩)), (9, .agg #[.int .i64 r18.1.1, .slice A27 (List.length r18.1.2.1) c28, .slice A30 (List.length r18.1.2.2.1) c31, .slice A33 (List.length r18.1.2.2.2) c34]), (10, .int .i64 r18.2)] [] E (by kernel_rfl) trivial ?_
 clear E; intro a E
 refine h_alloc H E rfl rfl tbok rfl ?_
 intro w37 g36 a hc38 hg40 H_ E_
 replace E := E_ _ rfl; clear E_
 replace H := H_; clear H_; try dsimp only [setn, addE, goneL] at H
 refine h_store (g := g36) (off := 0) H 7 rfl E rfl rfl rfl rfl tbok rfl rfl rfl rfl rfl ?_
 clear E; intro w41 a hc42 H_ E
 replace H := H_; clear H_; try dsimp only [setn, addE, goneL] at H
 refine vr tbok 1 [] [(1, .pointer (some ⟨g13, 0, none⟩)), (4, .pointer (some ⟨g36, 0, none⟩)), (5, .int .i64 r18.2)] [] E (by kernel_rfl) trivial ?_
 clear E; intro a E
 refine wpList_nil ?_
 refine th_n ?_
 refine wp_seq ?_
 refine wp_region_lit ?_
 refine vr tbok 3 [] [(1, .pointer (some ⟨g13, 0, none⟩)), (4, .pointer (some ⟨g36, 0, none⟩)), (5, .int .i64 r18.2), (13, .bool ((r18.2 : Int) == 0))] [] E (by kernel_rfl) trivial ?_
 clear E; intro a E
 refine E.cases (t := 13) rfl (fun hb_ E_ => ?_) (fun hb_ E_ => ?_)
 ·
  replace E := E_; clear E_
  have h43 : (r18.2 : Int) = 0 := eq_of_beq hb_
  clear hb_; replace hP := ite_t h43 hP
  refine vr tbok 2 [.agg #[.int .i64 r18.1.1, .slice A27 (List.length r18.1.2.1) c28, .slice A30 (List.length r18.1.2.2.1) c31, .slice A33 (List.length r18.1.2.2.2) c34], .agg #[.int .i64 aProps, .slice A1 (List.length aAccept) c2, .slice A5 (List.length aGuard) c6, .slice A9 (List.length aNodes) c10]] [(5, .int .i64 r18.2), (13, .bool true), (14, .agg #[.int .i64 r18.1.1, .slice A27 (List.length r18.1.2.1) c28, .slice A30 (List.length r18.1.2.2.1) c31, .slice A33 (List.length r18.1.2.2.2) c34]), (15, .agg #[.int .i64 aProps, .slice A1 (List.length aAccept) c2, .slice A5 (List.length aGuard) c6, .slice A9 (List.length aNodes) c10])] [cellsAt w41 g36 (0) [.int .i64 r18.1.1, .slice A27 (List.length r18.1.2.1) c28, .slice A30 (List.length r18.1.2.2.1) c31, .slice A33 (List.length r18.1.2.2.2) c34], cellsAt w41 g13 (0) [.int .i64 aProps, .slice A1 (List.length aAccept) c2, .slice A5 (List.length aGuard) c6, .slice A9 (List.length aNodes) c10]] E (by kernel_rfl) ⟨(H.box 7 rfl).sub 0 _ rfl, (H.box 3 rfl).sub 0 _ rfl⟩ ?_
  clear E; intro a E
  obtain ⟨r44, h45, hP⟩ := bind_inv hP
  obtain ⟨Fa46, Hc47, hb48⟩ := H.call [] [(4, false), (5, false), (6, false), (0, false), (1, false), (2, false)] rfl rfl trivial
  refine e_call E rfl rfl Try.func22 rfl rfl rfl (canon_Same_calls A27 c28 A30 c31 A33 c34 A1 c2 A5 c6 A9 c10 r18.1.1 r18.1.2.1 r18.1.2.2.1 r18.1.2.2.2 aProps aAccept aGuard aNodes (H.rcap 4 rfl) (H.rcap 5 rfl) (H.rcap 6 rfl) hk3 hk7 hk11 Hc47 h45) ?_
  rintro v49 w50 a ⟨rfl, HR51⟩ E_
  replace E := E_ _ rfl; clear E_
  obtain ⟨H_, hc52⟩ := hb48 _ _ HR51 rfl
  replace H := H_; clear H_; try dsimp only [setn, addE, goneL] at H
  refine vr tbok 4 [] [(2, .bool r44), (3, .int .i64 r18.2)] [] E (by kernel_rfl) trivial ?_
  clear E; intro a E
  refine wpList_nil ?_
  refine th_n ?_
  refine wp_ret ?_
  obtain rfl := Option.some.inj hP
  refine ret2 E rfl rfl rfl ?_
  exact ⟨_, rfl, rfl, H.sel [] rfl⟩
 replace E := E_; clear E_
 have h53 : ¬ ((r18.2 : Int) = 0) := ne_of_beq_false hb_
 clear hb_; replace hP := ite_f h53 hP
 refine vr tbok 7 [] [(2, .bool false), (3, .int .i64 r18.2)] [] E (by kernel_rfl) trivial ?_
 clear E; intro a E
 refine wpList_nil ?_
 refine th_n ?_
 refine wp_ret ?_
 obtain rfl := Option.some.inj hP
 refine ret2 E rfl rfl rfl ?_
 exact ⟨_, rfl, rfl, H.sel [] rfl⟩

end Go.V
