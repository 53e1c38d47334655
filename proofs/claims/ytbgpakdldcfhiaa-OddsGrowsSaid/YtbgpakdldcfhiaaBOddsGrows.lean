/- Plain functions, and the calls that give them. -/
import Derived.Test.YtbgpakdldcfhiaaA4
set_option linter.all false
set_option linter.unusedVariables false
set_option linter.unnecessarySimpa false
set_option linter.unusedSimpArgs false
namespace Go.V
open Go Go.Proofs
/-! rejoinder/rejoinderlaw27.OddsGrows -/
def law27_OddsGrows_j0 (N : Nat) (aProps : Int) (aAccept : List Bool) (aGuard : List Int) (aNodes : List Nd) (bits : List Int) : Option Bool :=
    Option.bind (law16_Small N aProps aAccept aGuard aNodes) fun r48 =>
    if r48 = true then
      some (decide (12 < (((List.length bits) : Nat) : Int)))
    else
      some true
def law27_OddsGrows_j1 (N : Nat) (r82 : Nat × Int) (r92 : Nat × Int) (r101 : (List Nat) × Int) : Option Bool :=
    if (r82.2 : Int) = r92.2 then
      some ((r92.2 : Int) != r101.2)
    else
      some true
def law27_OddsGrows_j3 (N : Nat) (r101 : (List Nat) × Int) (i144 : Int) : Option Bool :=
    ask (idx i144 (List.length r101.1)) <|
    if (fGe (List.getD r101.1 (Int.toNat i144) 0) 0) = true then
      Option.bind (math_Signbit N (List.getD r101.1 (Int.toNat i144) 0)) fun r198 =>
      some r198
    else
      some true
def law27_OddsGrows_l2 (N : Nat) (r101 : (List Nat) × Int) : Nat → Int → Option (Unit ⊕ Bool)
  | 0, _ => none
  | m165 + 1, i144 =>
    if i144 < (((List.length r101.1) : Nat) : Int) then
      Option.bind (law27_OddsGrows_j3 N r101 i144) fun x188 =>
      if x188 = true then
        some (Sum.inr false)
      else
        ask (in64 (i144 + 1)) <|
        law27_OddsGrows_l2 N r101 m165 (i144 + 1)
    else
      some (Sum.inl ())
def law27_OddsGrows_j4 (N : Nat) (r22 : Bool) (r82 : Nat × Int) (r92 : Nat × Int) : Option Bool :=
    if r22 = true then
      if (fGe r82.1 0) = true then
        if (fGe r92.1 r82.1) = true then
          Option.bind (math_Signbit N r82.1) fun r236 =>
          some (!r236)
        else
          some false
      else
        some false
    else
      some false
def law27_OddsGrows (N : Nat) (aProps : Int) (aAccept : List Bool) (aGuard : List Int) (aNodes : List Nd) (bits : List Int) (n : Int) : Option Bool :=
  Option.bind (law27_awake N) fun r22 =>
  Option.bind (law27_OddsGrows_j0 N aProps aAccept aGuard aNodes bits) fun x43 =>
  if x43 = true then
    some r22
  else
    Option.bind (kit_Pick N n 40) fun r61 =>
    Option.bind (law27_reals N bits) fun r70 =>
    Option.bind (odds_Within N aProps aAccept aGuard aNodes r70 r61) fun r82 =>
    ask (in64 (r61 + 1)) <|
    Option.bind (odds_Within N aProps aAccept aGuard aNodes r70 (r61 + 1)) fun r92 =>
    Option.bind (odds_After N aProps aAccept aGuard aNodes r70 r61) fun r101 =>
    Option.bind (law27_OddsGrows_j1 N r82 r92 r101) fun x116 =>
    if x116 = true then
      some false
    else
      Option.bind (law27_OddsGrows_l2 N r101 N 0) fun x166 =>
      Sum.elim (fun x171 =>
        Option.bind (law27_OddsGrows_j4 N r22 r82 r92) fun x228 =>
        some x228)
       (fun x211 =>
        some x211) x166
set_option maxRecDepth 100000 in
set_option maxHeartbeats 4000000 in
theorem law27_OddsGrows_calls {N : Nat} {S Fa : Nat → Prop} {w0 : World} {r : Bool} (A1 : Option Addr) (c2 : Nat) (A5 : Option Addr) (c6 : Nat) (A9 : Option Addr) (c10 : Nat) (A13 : Option Addr) (c14 : Nat) (aProps : Int) (aAccept : List Bool) (aGuard : List Int) (aNodes : List Nd) (bits : List Int) (n : Int) (hk3 : List.length aAccept ≤ c2) (hk7 : List.length aGuard ≤ c6) (hk11 : List.length aNodes ≤ c10) (hk15 : List.length bits ≤ c14) (H : Hp S Fa w0 w0 [.ro false cBool A1 aAccept, .ro false (cInt .i64) A5 aGuard, .ro false cNode A9 aNodes, .ro false (cInt .u64) A13 bits]) (hP : law27_OddsGrows N aProps aAccept aGuard aNodes bits n = some r) :
    Calls Try.prog 3 #[.agg #[.int .i64 aProps, .slice A1 (List.length aAccept) c2, .slice A5 (List.length aGuard) c6, .slice A9 (List.length aNodes) c10], .slice A13 (List.length bits) c14, .int .i64 n] w0 fun e w' => ∃ v, e = .returned v ∧ v = .bool r ∧ Hp S Fa w0 w' [] := by
 refine enterV (n := 94) Try.func3 rfl rfl rfl ?_
 intro a E
 replace E := E.pick [(0, .agg #[.int .i64 aProps, .slice A1 (List.length aAccept) c2, .slice A5 (List.length aGuard) c6, .slice A9 (List.length aNodes) c10]), (1, .slice A13 (List.length bits) c14), (2, .int .i64 n)] ⟨rfl, rfl, rfl, trivial⟩
 rw [law27_OddsGrows] at hP
 refine wp_seq ?_
 refine wp_region_lit ?_
 refine h_box H E rfl rfl rfl ?_
 intro w18 g17 a hc19 hg21 H_ E_
 replace E := E_ _ rfl; clear E_
 replace H := H_; clear H_; try dsimp only [setn, addE, goneL] at H
 refine vr tbok 1 [] [(1, .slice A13 (List.length bits) c14), (2, .int .i64 n), (3, .pointer (some ⟨g17, 0, none⟩))] [] E (by kernel_rfl) trivial ?_
 clear E; intro a E
 refine wpList_nil ?_
 refine th_n ?_
 refine wp_seq ?_
 refine wp_region_lit ?_
 obtain ⟨r22, h23, hP⟩ := bind_inv hP
 obtain ⟨Fa24, Hc25, hb26⟩ := H.call [] [] rfl rfl trivial
 refine e_call E rfl rfl Try.func7 rfl rfl rfl (law27_awake_calls    Hc25 h23) ?_
 rintro v27 w28 a ⟨rfl, HR29⟩ E_
 replace E := E_ _ rfl; clear E_
 obtain ⟨H_, hc30⟩ := hb26 _ _ HR29 rfl
 replace H := H_; clear H_; try dsimp only [setn, addE, goneL] at H
 refine vr tbok 1 [] [(1, .slice A13 (List.length bits) c14), (2, .int .i64 n), (3, .pointer (some ⟨g17, 0, none⟩)), (7, .bool r22)] [] E (by kernel_rfl) trivial ?_
 clear E; intro a E
 refine wpList_nil ?_
 refine th_n ?_
 refine wp_seq ?_
 refine wp_seq ?_
 obtain ⟨x43, h44, hK45⟩ := bind_inv hP
 clear hP
 refine meet_cut (fun a w47 => ∃ (x46 : Bool), Fr a 94 [(1, .slice A13 (List.length bits) c14), (2, .int .i64 n), (3, .pointer (some ⟨g17, 0, none⟩)), (7, .bool r22), (24, .bool x46)] ∧ Hp S Fa w0 w47 [.ro false (cInt .u64) A13 bits, .ro false cBool A1 aAccept, .ro false (cInt .i64) A5 aGuard, .ro false cNode A9 aNodes, .box g17 26 [.int .i64 aProps, .slice A1 (List.length aAccept) c2, .slice A5 (List.length aGuard) c6, .slice A9 (List.length aNodes) c10]] ∧ x43 = x46) ?_ ?_
 ·
  have hP := h44; clear h44; rw [law27_OddsGrows_j0] at hP
  refine wp_region_lit ?_
  refine vr tbok 1 [.agg #[.int .i64 aProps, .slice A1 (List.length aAccept) c2, .slice A5 (List.length aGuard) c6, .slice A9 (List.length aNodes) c10]] [(1, .slice A13 (List.length bits) c14), (2, .int .i64 n), (3, .pointer (some ⟨g17, 0, none⟩)), (7, .bool r22), (17, .agg #[.int .i64 aProps, .slice A1 (List.length aAccept) c2, .slice A5 (List.length aGuard) c6, .slice A9 (List.length aNodes) c10])] [cellsAt w28 g17 (0) [.int .i64 aProps, .slice A1 (List.length aAccept) c2, .slice A5 (List.length aGuard) c6, .slice A9 (List.length aNodes) c10]] E (by kernel_rfl) ((H.box 4 rfl).sub 0 _ rfl) ?_
  clear E; intro a E
  obtain ⟨r48, h49, hP⟩ := bind_inv hP
  obtain ⟨Fa50, Hc51, hb52⟩ := H.call [] [(0, false), (1, false), (2, false)] rfl rfl trivial
  refine e_call E rfl rfl Try.func8 rfl rfl rfl (law16_Small_calls A1 c2 A5 c6 A9 c10 aProps aAccept aGuard aNodes hk3 hk7 hk11 Hc51 h49) ?_
  rintro v53 w54 a ⟨rfl, HR55⟩ E_
  replace E := E_ _ rfl; clear E_
  obtain ⟨H_, hc56⟩ := hb52 _ _ HR55 rfl
  replace H := H_; clear H_; try dsimp only [setn, addE, goneL] at H
  refine vr tbok 2 [] [(1, .slice A13 (List.length bits) c14), (2, .int .i64 n), (3, .pointer (some ⟨g17, 0, none⟩)), (7, .bool r22), (20, .bool (!r48))] [] E (by kernel_rfl) trivial ?_
  clear E; intro a E
  refine E.cases (t := 20) rfl (fun hb_ E_ => ?_) (fun hb_ E_ => ?_)
  ·
   replace E := E_; clear E_
   have h57 : ¬ (r48 = true) := (ne_true_of_eq_false (not_t hb_))
   clear hb_; replace hP := ite_f h57 hP
   refine vr tbok 4 [] [(1, .slice A13 (List.length bits) c14), (2, .int .i64 n), (3, .pointer (some ⟨g17, 0, none⟩)), (7, .bool r22), (24, .bool true)] [] E (by kernel_rfl) trivial ?_
   clear E; intro a E
   refine wpList_nil ?_
   have hx_ := Option.some.inj hP
   exact .inl ⟨rfl, true, E.pick _ ⟨rfl, rfl, rfl, rfl, rfl, trivial⟩, H.sel [3, 0, 1, 2, 4] rfl, hx_.symm⟩
  replace E := E_; clear E_
  have h58 : r48 = true := (not_f hb_)
  clear hb_; replace hP := ite_t h58 hP
  refine vr tbok 4 [] [(1, .slice A13 (List.length bits) c14), (2, .int .i64 n), (3, .pointer (some ⟨g17, 0, none⟩)), (7, .bool r22), (24, .bool (decide (12 < (((List.length bits) : Nat) : Int))))] [] E (by kernel_rfl) trivial ?_
  clear E; intro a E
  refine wpList_nil ?_
  have hx_ := Option.some.inj hP
  exact .inl ⟨rfl, decide (12 < (((List.length bits) : Nat) : Int)), E.pick _ ⟨rfl, rfl, rfl, rfl, rfl, trivial⟩, H.sel [3, 0, 1, 2, 4] rfl, hx_.symm⟩
 clear E H h44; rintro a w47 ⟨x46, E, H, hx_⟩
 subst hx_; have hP := hK45; clear hK45
 refine th_n ?_
 refine E.cases (t := 24) rfl (fun hb_ E_ => ?_) (fun hb_ E_ => ?_)
 ·
  replace E := E_; clear E_
  have h59 : x43 = true := hb_
  clear hb_; replace hP := ite_t h59 hP
  refine c_true E rfl ?_
  refine wp_seq ?_
  refine wp_region_lit ?_
  refine vr tbok 2 [] [(6, .bool r22)] [] E (by kernel_rfl) trivial ?_
  clear E; intro a E
  refine wpList_nil ?_
  refine th_n ?_
  refine wp_ret ?_
  refine th_ret ?_
  obtain rfl := Option.some.inj hP
  refine ret1 E rfl rfl ?_
  exact ⟨_, rfl, rfl, H.sel [] rfl⟩
 replace E := E_; clear E_
 have h60 : ¬ (x43 = true) := (ne_true_of_eq_false hb_)
 clear hb_; replace hP := ite_f h60 hP
 refine c_false E rfl ?_
 refine wp_skip ?_
 refine th_n ?_
 refine wp_seq ?_
 refine wp_region_lit ?_
 refine vr tbok 1 [] [(1, .slice A13 (List.length bits) c14), (3, .pointer (some ⟨g17, 0, none⟩)), (7, .bool r22), (26, .int .i64 n)] [] E (by kernel_rfl) trivial ?_
 clear E; intro a E
 obtain ⟨r61, h62, hP⟩ := bind_inv hP
 obtain ⟨Fa63, Hc64, hb65⟩ := H.call [] [] rfl rfl trivial
 refine e_call E rfl rfl Try.func9 rfl rfl rfl (kit_Pick_calls  n 40  Hc64 h62) ?_
 rintro v66 w67 a ⟨rfl, HR68⟩ E_
 replace E := E_ _ rfl; clear E_
 obtain ⟨H_, hc69⟩ := hb65 _ _ HR68 rfl
 replace H := H_; clear H_; try dsimp only [setn, addE, goneL] at H
 refine vr tbok 1 [] [(1, .slice A13 (List.length bits) c14), (2, .int .i64 r61), (3, .pointer (some ⟨g17, 0, none⟩)), (7, .bool r22)] [] E (by kernel_rfl) trivial ?_
 clear E; intro a E
 refine wpList_nil ?_
 refine th_n ?_
 refine wp_seq ?_
 refine wp_region_lit ?_
 refine vr tbok 1 [] [(2, .int .i64 r61), (3, .pointer (some ⟨g17, 0, none⟩)), (7, .bool r22), (28, .slice A13 (List.length bits) c14)] [] E (by kernel_rfl) trivial ?_
 clear E; intro a E
 obtain ⟨r70, h71, hP⟩ := bind_inv hP
 obtain ⟨Fa72, Hc73, hb74⟩ := H.call [] [(0, false)] rfl rfl trivial
 refine e_call E rfl rfl Try.func10 rfl rfl rfl (law27_reals_calls A13 c14 bits hk15 Hc73 h71) ?_
 rintro v75 w76 a ⟨A79, c80, rfl, HR77⟩ E_
 replace E := E_ _ rfl; clear E_
 obtain ⟨H_, hc78⟩ := hb74 _ _ HR77 rfl
 replace H := H_; clear H_; try dsimp only [setn, addE, goneL] at H
 refine vr tbok 1 [] [(2, .int .i64 r61), (3, .pointer (some ⟨g17, 0, none⟩)), (7, .bool r22), (8, .slice A79 (List.length r70) c80)] [] E (by kernel_rfl) trivial ?_
 clear E; intro a E
 refine wpList_nil ?_
 refine th_n ?_
 refine wp_seq ?_
 refine wp_region_lit ?_
 refine vr tbok 3 [.agg #[.int .i64 aProps, .slice A1 (List.length aAccept) c2, .slice A5 (List.length aGuard) c6, .slice A9 (List.length aNodes) c10]] [(2, .int .i64 r61), (3, .pointer (some ⟨g17, 0, none⟩)), (7, .bool r22), (8, .slice A79 (List.length r70) c80), (31, .agg #[.int .i64 aProps, .slice A1 (List.length aAccept) c2, .slice A5 (List.length aGuard) c6, .slice A9 (List.length aNodes) c10]), (32, .slice A79 (List.length r70) c80), (33, .int .i64 r61)] [cellsAt w76 g17 (0) [.int .i64 aProps, .slice A1 (List.length aAccept) c2, .slice A5 (List.length aGuard) c6, .slice A9 (List.length aNodes) c10]] E (by kernel_rfl) ((H.box 4 rfl).sub 0 _ rfl) ?_
 clear E; intro a E
 obtain ⟨r82, h83, hP⟩ := bind_inv hP
 obtain ⟨Fa84, Hc85, hb86⟩ := H.call [] [(1, false), (2, false), (3, false), (5, false)] rfl rfl trivial
 refine e_call E rfl rfl Try.func11 rfl rfl rfl (odds_Within_calls A1 c2 A5 c6 A9 c10 A79 c80 aProps aAccept aGuard aNodes r70 r61 hk3 hk7 hk11 (H.rcap 5 rfl) Hc85 h83) ?_
 rintro v87 w88 a ⟨rfl, HR89⟩ E_
 replace E := E_ _ rfl; clear E_
 obtain ⟨H_, hc90⟩ := hb86 _ _ HR89 rfl
 replace H := H_; clear H_; try dsimp only [setn, addE, goneL] at H
 refine vr tbok 5 [] [(2, .int .i64 r61), (3, .pointer (some ⟨g17, 0, none⟩)), (7, .bool r22), (8, .slice A79 (List.length r70) c80), (9, .float .f64 r82.1), (10, .int .i64 r82.2)] [] E (by kernel_rfl) trivial ?_
 clear E; intro a E
 refine wpList_nil ?_
 refine th_n ?_
 refine wp_seq ?_
 refine wp_region_lit ?_
 obtain ⟨g91, hP⟩ := ask_inv hP
 refine vr tbok 4 [.agg #[.int .i64 aProps, .slice A1 (List.length aAccept) c2, .slice A5 (List.length aGuard) c6, .slice A9 (List.length aNodes) c10], .int .i64 (r61 + 1)] [(2, .int .i64 r61), (3, .pointer (some ⟨g17, 0, none⟩)), (7, .bool r22), (8, .slice A79 (List.length r70) c80), (9, .float .f64 r82.1), (10, .int .i64 r82.2), (38, .agg #[.int .i64 aProps, .slice A1 (List.length aAccept) c2, .slice A5 (List.length aGuard) c6, .slice A9 (List.length aNodes) c10]), (39, .slice A79 (List.length r70) c80), (41, .int .i64 (r61 + 1))] [cellsAt w88 g17 (0) [.int .i64 aProps, .slice A1 (List.length aAccept) c2, .slice A5 (List.length aGuard) c6, .slice A9 (List.length aNodes) c10], IntKind.i64.wrap (r61 + 1) = r61 + 1] E (by kernel_rfl) ⟨(H.box 4 rfl).sub 0 _ rfl, wrap_in g91⟩ ?_
 clear E; intro a E
 obtain ⟨r92, h93, hP⟩ := bind_inv hP
 obtain ⟨Fa94, Hc95, hb96⟩ := H.call [] [(1, false), (2, false), (3, false), (5, false)] rfl rfl trivial
 refine e_call E rfl rfl Try.func11 rfl rfl rfl (odds_Within_calls A1 c2 A5 c6 A9 c10 A79 c80 aProps aAccept aGuard aNodes r70 (r61 + 1) hk3 hk7 hk11 (H.rcap 5 rfl) Hc95 h93) ?_
 rintro v97 w98 a ⟨rfl, HR99⟩ E_
 replace E := E_ _ rfl; clear E_
 obtain ⟨H_, hc100⟩ := hb96 _ _ HR99 rfl
 replace H := H_; clear H_; try dsimp only [setn, addE, goneL] at H
 refine vr tbok 5 [] [(2, .int .i64 r61), (3, .pointer (some ⟨g17, 0, none⟩)), (7, .bool r22), (8, .slice A79 (List.length r70) c80), (9, .float .f64 r82.1), (10, .int .i64 r82.2), (11, .float .f64 r92.1), (12, .int .i64 r92.2)] [] E (by kernel_rfl) trivial ?_
 clear E; intro a E
 refine wpList_nil ?_
 refine th_n ?_
 refine wp_seq ?_
 refine wp_region_lit ?_
 refine vr tbok 3 [.agg #[.int .i64 aProps, .slice A1 (List.length aAccept) c2, .slice A5 (List.length aGuard) c6, .slice A9 (List.length aNodes) c10]] [(7, .bool r22), (9, .float .f64 r82.1), (10, .int .i64 r82.2), (11, .float .f64 r92.1), (12, .int .i64 r92.2), (46, .agg #[.int .i64 aProps, .slice A1 (List.length aAccept) c2, .slice A5 (List.length aGuard) c6, .slice A9 (List.length aNodes) c10]), (47, .slice A79 (List.length r70) c80), (48, .int .i64 r61)] [cellsAt w98 g17 (0) [.int .i64 aProps, .slice A1 (List.length aAccept) c2, .slice A5 (List.length aGuard) c6, .slice A9 (List.length aNodes) c10]] E (by kernel_rfl) ((H.box 4 rfl).sub 0 _ rfl) ?_
 clear E; intro a E
 obtain ⟨r101, h102, hP⟩ := bind_inv hP
 obtain ⟨Fa103, Hc104, hb105⟩ := H.call [] [(1, false), (2, false), (3, false), (5, false)] rfl rfl trivial
 refine e_call E rfl rfl Try.func12 rfl rfl rfl (odds_After_calls A1 c2 A5 c6 A9 c10 A79 c80 aProps aAccept aGuard aNodes r70 r61 hk3 hk7 hk11 (H.rcap 5 rfl) Hc104 h102) ?_
 rintro v106 w107 a ⟨A110, c111, rfl, HR108⟩ E_
 replace E := E_ _ rfl; clear E_
 obtain ⟨H_, hc109⟩ := hb105 _ _ HR108 rfl
 replace H := H_; clear H_; try dsimp only [setn, addE, goneL] at H
 refine vr tbok 5 [] [(7, .bool r22), (9, .float .f64 r82.1), (10, .int .i64 r82.2), (11, .float .f64 r92.1), (12, .int .i64 r92.2), (13, .slice A110 (List.length r101.1) c111), (14, .int .i64 r101.2)] [] E (by kernel_rfl) trivial ?_
 clear E; intro a E
 refine wpList_nil ?_
 refine th_n ?_
 refine wp_seq ?_
 refine wp_seq ?_
 obtain ⟨x116, h117, hK118⟩ := bind_inv hP
 clear hP
 refine meet_cut (fun a w120 => ∃ (x119 : Bool), Fr a 94 [(7, .bool r22), (9, .float .f64 r82.1), (11, .float .f64 r92.1), (13, .slice A110 (List.length r101.1) c111), (59, .bool x119)] ∧ Hp S Fa w0 w120 [.row true cFl 33 A110 c111 r101.1] ∧ x116 = x119) ?_ ?_
 ·
  have hP := h117; clear h117; rw [law27_OddsGrows_j1] at hP
  refine wp_region_lit ?_
  refine vr tbok 4 [] [(7, .bool r22), (9, .float .f64 r82.1), (11, .float .f64 r92.1), (12, .int .i64 r92.2), (13, .slice A110 (List.length r101.1) c111), (14, .int .i64 r101.2), (55, .bool ((r82.2 : Int) != r92.2))] [] E (by kernel_rfl) trivial ?_
  clear E; intro a E
  refine E.cases (t := 55) rfl (fun hb_ E_ => ?_) (fun hb_ E_ => ?_)
  ·
   replace E := E_; clear E_
   have h121 : ¬ ((r82.2 : Int) = r92.2) := bne_iff_ne.1 hb_
   clear hb_; replace hP := ite_f h121 hP
   refine vr tbok 4 [] [(7, .bool r22), (9, .float .f64 r82.1), (11, .float .f64 r92.1), (13, .slice A110 (List.length r101.1) c111), (59, .bool true)] [] E (by kernel_rfl) trivial ?_
   clear E; intro a E
   refine wpList_nil ?_
   have hx_ := Option.some.inj hP
   exact .inl ⟨rfl, true, E.pick _ ⟨rfl, rfl, rfl, rfl, rfl, trivial⟩, H.sel [6] rfl, hx_.symm⟩
  replace E := E_; clear E_
  have h122 : (r82.2 : Int) = r92.2 := bne_eq_false_iff_eq.1 hb_
  clear hb_; replace hP := ite_t h122 hP
  refine vr tbok 4 [] [(7, .bool r22), (9, .float .f64 r82.1), (11, .float .f64 r92.1), (13, .slice A110 (List.length r101.1) c111), (59, .bool ((r92.2 : Int) != r101.2))] [] E (by kernel_rfl) trivial ?_
  clear E; intro a E
  refine wpList_nil ?_
  have hx_ := Option.some.inj hP
  exact .inl ⟨rfl, (r92.2 : Int) != r101.2, E.pick _ ⟨rfl, rfl, rfl, rfl, rfl, trivial⟩, H.sel [6] rfl, hx_.symm⟩
 clear E H h117; rintro a w120 ⟨x119, E, H, hx_⟩
 subst hx_; have hP := hK118; clear hK118
 refine th_n ?_
 refine E.cases (t := 59) rfl (fun hb_ E_ => ?_) (fun hb_ E_ => ?_)
 ·
  replace E := E_; clear E_
  have h123 : x116 = true := hb_
  clear hb_; replace hP := ite_t h123 hP
  refine c_true E rfl ?_
  refine wp_seq ?_
  refine wp_region_lit ?_
  refine vr tbok 1 [] [(6, .bool false)] [] E (by kernel_rfl) trivial ?_
  clear E; intro a E
  refine wpList_nil ?_
  refine th_n ?_
  refine wp_ret ?_
  refine th_ret ?_
  obtain rfl := Option.some.inj hP
  refine ret1 E rfl rfl ?_
  exact ⟨_, rfl, rfl, H.sel [] rfl⟩
 replace E := E_; clear E_
 have h124 : ¬ (x116 = true) := (ne_true_of_eq_false hb_)
 clear hb_; replace hP := ite_f h124 hP
 refine c_false E rfl ?_
 refine wp_skip ?_
 refine th_n ?_
 refine wp_seq ?_
 refine wp_seq ?_
 refine wp_region_lit ?_
 refine vr tbok 1 [] [(7, .bool r22), (9, .float .f64 r82.1), (11, .float .f64 r92.1), (13, .slice A110 (List.length r101.1) c111), (15, .int .i64 0)] [] E (by kernel_rfl) trivial ?_
 clear E; intro a E
 refine wpList_nil ?_
 refine th_n ?_
 refine wp_block ?_
 obtain ⟨x166, hL167, hK168⟩ := bind_inv hP
 clear hP
 refine loop_cut (fun i_ a w_ => (i_ = 0 ∧ ∃ (x171 : Unit), Fr a 94 [(7, .bool r22), (9, .float .f64 r82.1), (11, .float .f64 r92.1)] ∧ Hp S Fa w0 w_ [] ∧ x166 = Sum.inl x171)) ?_ ?_
 ·
  refine loopV (fun m170 a w169 => ∃ (i144 : Int), Fr a 94 [(7, .bool r22), (9, .float .f64 r82.1), (11, .float .f64 r92.1), (13, .slice A110 (List.length r101.1) c111), (15, .int .i64 i144)] ∧ Hp S Fa w0 w169 [.row true cFl 33 A110 c111 r101.1] ∧ law27_OddsGrows_l2 N r101 m170 i144 = some x166) N ?_ ?_
  ·
   exact ⟨0, E.pick _ ⟨rfl, rfl, rfl, rfl, rfl, trivial⟩, H.sel [0] rfl, hL167⟩
  clear E H hL167; intro m170 a w169 hI_
  obtain ⟨i144, E, H, hP⟩ := hI_
  obtain ⟨m165, rfl⟩ : ∃ q_, m170 = q_ + 1 := by cases m170 with | zero => rw [law27_OddsGrows_l2] at hP; cases hP | succ q_ => exact ⟨q_, rfl⟩
  rw [law27_OddsGrows_l2] at hP
  refine wp_seq ?_
  refine wp_seq ?_
  refine wp_region_lit ?_
  refine vr tbok 4 [] [(7, .bool r22), (9, .float .f64 r82.1), (11, .float .f64 r92.1), (13, .slice A110 (List.length r101.1) c111), (15, .int .i64 i144), (63, .bool (decide (i144 < (((List.length r101.1) : Nat) : Int))))] [] E (by kernel_rfl) trivial ?_
  clear E; intro a E
  refine wpList_nil ?_
  refine th_n ?_
  refine E.cases (t := 63) rfl (fun hb_ E_ => ?_) (fun hb_ E_ => ?_)
  ·
   replace E := E_; clear E_
   have h172 : i144 < (((List.length r101.1) : Nat) : Int) := of_decide_eq_true hb_
   clear hb_; replace hP := ite_t h172 hP
   refine c_true E rfl ?_
   refine wp_skip ?_
   refine th_n ?_
   refine wp_seq ?_
   refine wp_block ?_
   refine wp_seq ?_
   obtain ⟨x188, h189, hK190⟩ := bind_inv hP
   clear hP
   refine meet_cut (fun a w192 => ∃ (x191 : Bool), Fr a 94 [(7, .bool r22), (9, .float .f64 r82.1), (11, .float .f64 r92.1), (13, .slice A110 (List.length r101.1) c111), (15, .int .i64 i144), (78, .bool x191)] ∧ Hp S Fa w0 w192 [.row true cFl 33 A110 c111 r101.1] ∧ x188 = x191) ?_ ?_
   ·
    have hP := h189; clear h189; rw [law27_OddsGrows_j3] at hP
    refine wp_region_lit ?_
    obtain ⟨g193, hP⟩ := ask_inv hP
    obtain ⟨b194, e_b194⟩ := H.raddr 0 rfl (idx_pos g193)
    subst e_b194
    refine vr tbok 7 [.float .f64 (List.getD r101.1 (Int.toNat i144) 0)] [(7, .bool r22), (9, .float .f64 r82.1), (11, .float .f64 r92.1), (13, .slice (some ⟨b194, 0, none⟩) (List.length r101.1) c111), (15, .int .i64 i144), (72, .bool (!(fGe (List.getD r101.1 (Int.toNat i144) 0) 0)))] [0 ≤ i144 ∧ i144 < (((List.length r101.1) : Nat) : Int), World.cell? w169 ⟨b194, 0 + (Int.toNat i144) * 1, none⟩ = some (.float .f64 (List.getD r101.1 (Int.toNat i144) 0))] E (by kernel_rfl) ⟨g193, Rds.at1 (H.rd 0 rds_row) 0 g193⟩ ?_
    clear E; intro a E
    refine E.cases (t := 72) rfl (fun hb_ E_ => ?_) (fun hb_ E_ => ?_)
    ·
     replace E := E_; clear E_
     have h196 : ¬ ((fGe (List.getD r101.1 (Int.toNat i144) 0) 0) = true) := (ne_true_of_eq_false (not_t hb_))
     clear hb_; replace hP := ite_f h196 hP
     refine vr tbok 6 [] [(7, .bool r22), (9, .float .f64 r82.1), (11, .float .f64 r92.1), (13, .slice (some ⟨b194, 0, none⟩) (List.length r101.1) c111), (15, .int .i64 i144), (78, .bool true)] [] E (by kernel_rfl) trivial ?_
     clear E; intro a E
     refine wpList_nil ?_
     have hx_ := Option.some.inj hP
     exact .inl ⟨rfl, true, E.pick _ ⟨rfl, rfl, rfl, rfl, rfl, rfl, trivial⟩, H.sel [0] rfl, hx_.symm⟩
    replace E := E_; clear E_
    have h197 : (fGe (List.getD r101.1 (Int.toNat i144) 0) 0) = true := (not_f hb_)
    clear hb_; replace hP := ite_t h197 hP
    refine vr tbok 4 [.float .f64 (List.getD r101.1 (Int.toNat i144) 0)] [(7, .bool r22), (9, .float .f64 r82.1), (11, .float .f64 r92.1), (13, .slice (some ⟨b194, 0, none⟩) (List.length r101.1) c111), (15, .int .i64 i144), (72, .bool false), (76, .float .f64 (List.getD r101.1 (Int.toNat i144) 0))] [0 ≤ i144 ∧ i144 < (((List.length r101.1) : Nat) : Int), World.cell? w169 ⟨b194, 0 + (Int.toNat i144) * 1, none⟩ = some (.float .f64 (List.getD r101.1 (Int.toNat i144) 0))] E (by kernel_rfl) ⟨g193, Rds.at1 (H.rd 0 rds_row) 0 g193⟩ ?_
    clear E; intro a E
    obtain ⟨r198, h199, hP⟩ := bind_inv hP
    obtain ⟨Fa200, Hc201, hb202⟩ := H.call [] [] rfl rfl trivial
    refine e_call E rfl rfl Try.func13 rfl rfl rfl (math_Signbit_calls  (List.getD r101.1 (Int.toNat i144) 0)  Hc201 h199) ?_
    rintro v203 w204 a ⟨rfl, HR205⟩ E_
    replace E := E_ _ rfl; clear E_
    obtain ⟨H_, hc206⟩ := hb202 _ _ HR205 rfl
    replace H := H_; clear H_; try dsimp only [setn, addE, goneL] at H
    refine vr tbok 1 [] [(7, .bool r22), (9, .float .f64 r82.1), (11, .float .f64 r92.1), (13, .slice (some ⟨b194, 0, none⟩) (List.length r101.1) c111), (15, .int .i64 i144), (78, .bool r198)] [] E (by kernel_rfl) trivial ?_
    clear E; intro a E
    refine wpList_nil ?_
    have hx_ := Option.some.inj hP
    exact .inl ⟨rfl, r198, E.pick _ ⟨rfl, rfl, rfl, rfl, rfl, rfl, trivial⟩, H.sel [0] rfl, hx_.symm⟩
   clear E H h189; rintro a w192 ⟨x191, E, H, hx_⟩
   subst hx_; have hP := hK190; clear hK190
   refine th_n ?_
   refine E.cases (t := 78) rfl (fun hb_ E_ => ?_) (fun hb_ E_ => ?_)
   ·
    replace E := E_; clear E_
    have h207 : x188 = true := hb_
    clear hb_; replace hP := ite_t h207 hP
    refine c_true E rfl ?_
    refine wp_seq ?_
    refine wp_region_lit ?_
    refine vr tbok 1 [] [(6, .bool false)] [] E (by kernel_rfl) trivial ?_
    clear E; intro a E
    refine wpList_nil ?_
    refine th_n ?_
    refine wp_ret ?_
    refine bl_ret ?_
    refine th_ret ?_
    refine th_ret ?_
    refine .inr ⟨rfl, ?_⟩
    refine bl_ret ?_
    refine th_ret ?_
    have hx_ := Option.some.inj hP; subst hx_
    have hP : some (false) = some r := hK168
    obtain rfl := Option.some.inj hP
    refine ret1 E rfl rfl ?_
    exact ⟨_, rfl, rfl, H.sel [] rfl⟩
   replace E := E_; clear E_
   have h208 : ¬ (x188 = true) := (ne_true_of_eq_false hb_)
   clear hb_; replace hP := ite_f h208 hP
   refine c_false E rfl ?_
   refine wp_skip ?_
   refine bl_n ?_
   refine th_n ?_
   refine wp_region_lit ?_
   obtain ⟨g209, hP⟩ := ask_inv hP
   refine vr tbok 3 [.int .i64 (i144 + 1)] [(7, .bool r22), (9, .float .f64 r82.1), (11, .float .f64 r92.1), (13, .slice A110 (List.length r101.1) c111), (15, .int .i64 (i144 + 1))] [IntKind.i64.wrap (i144 + 1) = i144 + 1] E (by kernel_rfl) (wrap_in g209) ?_
   clear E; intro a E
   refine wpList_nil ?_
   exact th_n ⟨m165, Nat.lt_succ_self _, i144 + 1, E.pick _ ⟨rfl, rfl, rfl, rfl, rfl, trivial⟩, H.sel [0] rfl, hP⟩
  replace E := E_; clear E_
  have h210 : ¬ (i144 < (((List.length r101.1) : Nat) : Int)) := of_decide_eq_false hb_
  clear hb_; replace hP := ite_f h210 hP
  refine c_false E rfl ?_
  refine wp_exit ?_
  refine th_exit ?_
  have hx_ := Option.some.inj hP
  refine th_exit (.inl ⟨0, rfl, ?_⟩)
  exact ⟨rfl, (), E.pick _ ⟨rfl, rfl, rfl, trivial⟩, H.sel [] rfl, hx_.symm⟩
 clear E H hL167; intro i_ a w169 hM_
 obtain ⟨rfl, x171, E, H, hx_⟩ := hM_
 subst hx_; have hP := elim_l hK168
 clear hK168
 refine bl_hit ?_
 refine th_n ?_
 refine wp_seq ?_
 obtain ⟨x228, h229, hK230⟩ := bind_inv hP
 clear hP
 refine meet_cut (fun a w232 => ∃ (x231 : Bool), Fr a 94 [(6, .bool x231)] ∧ Hp S Fa w0 w232 [] ∧ x228 = x231) ?_ ?_
 ·
  have hP := h229; clear h229; rw [law27_OddsGrows_j4] at hP
  refine wp_region_lit ?_
  refine vr tbok 2 [] [(9, .float .f64 r82.1), (11, .float .f64 r92.1), (80, .bool r22)] [] E (by kernel_rfl) trivial ?_
  clear E; intro a E
  refine E.cases (t := 80) rfl (fun hb_ E_ => ?_) (fun hb_ E_ => ?_)
  ·
   replace E := E_; clear E_
   have h233 : r22 = true := hb_
   clear hb_; replace hP := ite_t h233 hP
   refine vr tbok 4 [] [(9, .float .f64 r82.1), (11, .float .f64 r92.1), (84, .bool (fGe r82.1 0))] [] E (by kernel_rfl) trivial ?_
   clear E; intro a E
   refine E.cases (t := 84) rfl (fun hb_ E_ => ?_) (fun hb_ E_ => ?_)
   ·
    replace E := E_; clear E_
    have h234 : (fGe r82.1 0) = true := hb_
    clear hb_; replace hP := ite_t h234 hP
    refine vr tbok 5 [] [(9, .float .f64 r82.1), (89, .bool (fGe r92.1 r82.1))] [] E (by kernel_rfl) trivial ?_
    clear E; intro a E
    refine E.cases (t := 89) rfl (fun hb_ E_ => ?_) (fun hb_ E_ => ?_)
    ·
     replace E := E_; clear E_
     have h235 : (fGe r92.1 r82.1) = true := hb_
     clear hb_; replace hP := ite_t h235 hP
     refine vr tbok 1 [] [(89, .bool true), (90, .float .f64 r82.1)] [] E (by kernel_rfl) trivial ?_
     clear E; intro a E
     obtain ⟨r236, h237, hP⟩ := bind_inv hP
     obtain ⟨Fa238, Hc239, hb240⟩ := H.call [] [] rfl rfl trivial
     refine e_call E rfl rfl Try.func13 rfl rfl rfl (math_Signbit_calls  r82.1  Hc239 h237) ?_
     rintro v241 w242 a ⟨rfl, HR243⟩ E_
     replace E := E_ _ rfl; clear E_
     obtain ⟨H_, hc244⟩ := hb240 _ _ HR243 rfl
     replace H := H_; clear H_; try dsimp only [setn, addE, goneL] at H
     refine vr tbok 3 [] [(6, .bool (!r236))] [] E (by kernel_rfl) trivial ?_
     clear E; intro a E
     refine wpList_nil ?_
     have hx_ := Option.some.inj hP
     exact .inl ⟨rfl, !r236, E.pick _ ⟨rfl, trivial⟩, H.sel [] rfl, hx_.symm⟩
    replace E := E_; clear E_
    have h245 : ¬ ((fGe r92.1 r82.1) = true) := (ne_true_of_eq_false hb_)
    clear hb_; replace hP := ite_f h245 hP
    refine vr tbok 5 [] [(6, .bool false)] [] E (by kernel_rfl) trivial ?_
    clear E; intro a E
    refine wpList_nil ?_
    have hx_ := Option.some.inj hP
    exact .inl ⟨rfl, false, E.pick _ ⟨rfl, trivial⟩, H.sel [] rfl, hx_.symm⟩
   replace E := E_; clear E_
   have h246 : ¬ ((fGe r82.1 0) = true) := (ne_true_of_eq_false hb_)
   clear hb_; replace hP := ite_f h246 hP
   refine vr tbok 10 [] [(6, .bool false)] [] E (by kernel_rfl) trivial ?_
   clear E; intro a E
   refine wpList_nil ?_
   have hx_ := Option.some.inj hP
   exact .inl ⟨rfl, false, E.pick _ ⟨rfl, trivial⟩, H.sel [] rfl, hx_.symm⟩
  replace E := E_; clear E_
  have h247 : ¬ (r22 = true) := (ne_true_of_eq_false hb_)
  clear hb_; replace hP := ite_f h247 hP
  refine vr tbok 14 [] [(6, .bool false)] [] E (by kernel_rfl) trivial ?_
  clear E; intro a E
  refine wpList_nil ?_
  have hx_ := Option.some.inj hP
  exact .inl ⟨rfl, false, E.pick _ ⟨rfl, trivial⟩, H.sel [] rfl, hx_.symm⟩
 clear E H h229; rintro a w232 ⟨x231, E, H, hx_⟩
 subst hx_; have hP := hK230; clear hK230
 refine th_n ?_
 refine wp_ret ?_
 obtain rfl := Option.some.inj hP
 refine ret1 E rfl rfl ?_
 exact ⟨_, rfl, rfl, H.sel [] rfl⟩

end Go.V
