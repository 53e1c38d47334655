/- Plain functions, and the calls that give them. -/
import Derived.Test.YtbgpakdldcfhiaaA3
set_option linter.all false
set_option linter.unusedVariables false
set_option linter.unnecessarySimpa false
set_option linter.unusedSimpArgs false
namespace Go.V
open Go Go.Proofs
/-! rejoinder/odds.After -/
def odds_After (N : Nat) (aProps : Int) (aAccept : List Bool) (aGuard : List Int) (aNodes : List Nd) (p : List Nat) (n : Int) : Option ((List Nat) × Int) :=
  Option.bind (odds_asked N aProps aAccept aGuard aNodes p n) fun r22 =>
  if (r22 : Int) = 0 then
    Option.bind (odds_run N aProps aAccept aGuard aNodes p n false) fun r34 =>
    some (r34.1, 0)
  else
    some ([], r22)
set_option maxRecDepth 100000 in
set_option maxHeartbeats 4000000 in
theorem odds_After_calls {N : Nat} {S Fa : Nat → Prop} {w0 : World} {r : (List Nat) × Int} (A1 : Option Addr) (c2 : Nat) (A5 : Option Addr) (c6 : Nat) (A9 : Option Addr) (c10 : Nat) (A13 : Option Addr) (c14 : Nat) (aProps : Int) (aAccept : List Bool) (aGuard : List Int) (aNodes : List Nd) (p : List Nat) (n : Int) (hk3 : List.length aAccept ≤ c2) (hk7 : List.length aGuard ≤ c6) (hk11 : List.length aNodes ≤ c10) (hk15 : List.length p ≤ c14) (H : Hp S Fa w0 w0 [.ro false cBool A1 aAccept, .ro false (cInt .i64) A5 aGuard, .ro false cNode A9 aNodes, .ro false cFl A13 p]) (hP : odds_After N aProps aAccept aGuard aNodes p n = some r) :
    Calls Try.prog 12 #[.agg #[.int .i64 aProps, .slice A1 (List.length aAccept) c2, .slice A5 (List.length aGuard) c6, .slice A9 (List.length aNodes) c10], .slice A13 (List.length p) c14, .int .i64 n] w0 fun e w' => ∃ v, e = .returned v ∧ ∃ (A46 : Option Addr) (c47 : Nat), v = .tuple #[.slice A46 (List.length r.1) c47, .int .i64 r.2] ∧ Hp S Fa w0 w' [.row true cFl 33 A46 c47 r.1] := by
 refine enterV (n := 26) Try.func12 rfl rfl rfl ?_
 intro a E
 replace E := E.pick [(0, .agg #[.int .i64 aProps, .slice A1 (List.length aAccept) c2, .slice A5 (List.length aGuard) c6, .slice A9 (List.length aNodes) c10]), (1, .slice A13 (List.length p) c14), (2, .int .i64 n)] ⟨rfl, rfl, rfl, trivial⟩
 rw [odds_After] at hP
 refine wp_seq ?_
 refine wp_region_lit ?_
 refine h_box H E rfl rfl rfl ?_
 intro w18 g17 a hc19 hg21 H_ E_
 replace E := E_ _ rfl; clear E_
 replace H := H_; clear H_; try dsimp only [setn, addE, goneL] at H
 refine vr tbok 2 [] [(1, .slice A13 (List.length p) c14), (2, .int .i64 n), (3, .pointer (some ⟨g17, 0, none⟩))] [] E (by kernel_rfl) trivial ?_
 clear E; intro a E
 refine wpList_nil ?_
 refine th_n ?_
 refine wp_seq ?_
 refine wp_seq ?_
 refine wp_region_lit ?_
 refine vr tbok 3 [.agg #[.int .i64 aProps, .slice A1 (List.length aAccept) c2, .slice A5 (List.length aGuard) c6, .slice A9 (List.length aNodes) c10]] [(1, .slice A13 (List.length p) c14), (2, .int .i64 n), (3, .pointer (some ⟨g17, 0, none⟩)), (11, .agg #[.int .i64 aProps, .slice A1 (List.length aAccept) c2, .slice A5 (List.length aGuard) c6, .slice A9 (List.length aNodes) c10]), (12, .slice A13 (List.length p) c14), (13, .int .i64 n)] [cellsAt w18 g17 (0) [.int .i64 aProps, .slice A1 (List.length aAccept) c2, .slice A5 (List.length aGuard) c6, .slice A9 (List.length aNodes) c10]] E (by kernel_rfl) ((H.box 4 rfl).sub 0 _ rfl) ?_
 clear E; intro a E
 obtain ⟨r22, h23, hP⟩ := bind_inv hP
 obtain ⟨Fa24, Hc25, hb26⟩ := H.call [] [(0, false), (1, false), (2, false), (3, false)] rfl rfl trivial
 refine e_call E rfl rfl Try.func21 rfl rfl rfl (odds_asked_calls A1 c2 A5 c6 A9 c10 A13 c14 aProps aAccept aGuard aNodes p n hk3 hk7 hk11 hk15 Hc25 h23) ?_
 rintro v27 w28 a ⟨rfl, HR29⟩ E_
 replace E := E_ _ rfl; clear E_
 obtain ⟨H_, hc30⟩ := hb26 _ _ HR29 rfl
 replace H := H_; clear H_; try dsimp only [setn, addE, goneL] at H
 refine vr tbok 1 [] [(1, .slice A13 (List.length p) c14), (2, .int .i64 n), (3, .pointer (some ⟨g17, 0, none⟩)), (8, .int .i64 r22)] [] E (by kernel_rfl) trivial ?_
 clear E; intro a E
 refine wpList_nil ?_
 refine th_n ?_
 refine wp_seq ?_
 refine wp_region_lit ?_
 refine vr tbok 2 [] [(1, .slice A13 (List.length p) c14), (2, .int .i64 n), (3, .pointer (some ⟨g17, 0, none⟩)), (8, .int .i64 r22), (16, .bool ((r22 : Int) != 0))] [] E (by kernel_rfl) trivial ?_
 clear E; intro a E
 refine wpList_nil ?_
 refine th_n ?_
 refine E.cases (t := 16) rfl (fun hb_ E_ => ?_) (fun hb_ E_ => ?_)
 ·
  replace E := E_; clear E_
  have h31 : ¬ ((r22 : Int) = 0) := bne_iff_ne.1 hb_
  clear hb_; replace hP := ite_f h31 hP
  refine c_true E rfl ?_
  refine wp_seq ?_
  refine wp_region_lit ?_
  refine vr tbok 3 [] [(6, .slice none 0 0), (7, .int .i64 r22)] [] E (by kernel_rfl) trivial ?_
  clear E; intro a E
  refine wpList_nil ?_
  refine th_n ?_
  refine wp_ret ?_
  refine th_ret ?_
  replace H := H.nilrow cFl 33; try dsimp only [setn, addE, goneL] at H
  obtain rfl := Option.some.inj hP
  refine ret2 E rfl rfl rfl ?_
  exact ⟨_, rfl, none, 0, rfl, H.sel [5] rfl⟩
 replace E := E_; clear E_
 have h33 : (r22 : Int) = 0 := bne_eq_false_iff_eq.1 hb_
 clear hb_; replace hP := ite_t h33 hP
 refine c_false E rfl ?_
 refine wp_skip ?_
 refine th_n ?_
 refine wp_seq ?_
 refine wp_region_lit ?_
 refine vr tbok 3 [.agg #[.int .i64 aProps, .slice A1 (List.length aAccept) c2, .slice A5 (List.length aGuard) c6, .slice A9 (List.length aNodes) c10]] [(19, .agg #[.int .i64 aProps, .slice A1 (List.length aAccept) c2, .slice A5 (List.length aGuard) c6, .slice A9 (List.length aNodes) c10]), (20, .slice A13 (List.length p) c14), (21, .int .i64 n)] [cellsAt w28 g17 (0) [.int .i64 aProps, .slice A1 (List.length aAccept) c2, .slice A5 (List.length aGuard) c6, .slice A9 (List.length aNodes) c10]] E (by kernel_rfl) ((H.box 4 rfl).sub 0 _ rfl) ?_
 clear E; intro a E
 obtain ⟨r34, h35, hP⟩ := bind_inv hP
 obtain ⟨Fa36, Hc37, hb38⟩ := H.call [] [(0, false), (1, false), (2, false), (3, false)] rfl rfl trivial
 refine e_call E rfl rfl Try.func22 rfl rfl rfl (odds_run_calls A1 c2 A5 c6 A9 c10 A13 c14 aProps aAccept aGuard aNodes p n false hk3 hk7 hk11 hk15 Hc37 h35) ?_
 rintro v39 w40 a ⟨A43, c44, rfl, HR41⟩ E_
 replace E := E_ _ rfl; clear E_
 obtain ⟨H_, hc42⟩ := hb38 _ _ HR41 rfl
 replace H := H_; clear H_; try dsimp only [setn, addE, goneL] at H
 refine vr tbok 5 [] [(9, .slice A43 (List.length r34.1) c44)] [] E (by kernel_rfl) trivial ?_
 clear E; intro a E
 refine wpList_nil ?_
 refine th_n ?_
 refine wp_seq ?_
 refine wp_region_lit ?_
 refine vr tbok 3 [] [(6, .slice A43 (List.length r34.1) c44), (7, .int .i64 0)] [] E (by kernel_rfl) trivial ?_
 clear E; intro a E
 refine wpList_nil ?_
 refine th_n ?_
 refine wp_ret ?_
 obtain rfl := Option.some.inj hP
 refine ret2 E rfl rfl rfl ?_
 exact ⟨_, rfl, A43, c44, rfl, H.sel [5] rfl⟩

/-! rejoinder/odds.Accept -/
def odds_Accept_l0 (N : Nat) (aAccept : List Bool) (r22 : (List Nat) × Int) : Nat → Nat → Int → Option Nat
  | 0, _, _ => none
  | m63 + 1, s46, x47 =>
    if x47 < (((List.length r22.1) : Nat) : Int) then
      ask (idx x47 (List.length r22.1)) <|
      ask (idx x47 (List.length aAccept)) <|
      if (List.getD aAccept (Int.toNat x47) false) = true then
        Option.bind (fAdd s46 (List.getD r22.1 (Int.toNat x47) 0)) fun f78 =>
        ask (in64 (x47 + 1)) <|
        odds_Accept_l0 N aAccept r22 m63 f78 (x47 + 1)
      else
        ask (in64 (x47 + 1)) <|
        odds_Accept_l0 N aAccept r22 m63 s46 (x47 + 1)
    else
      some s46
def odds_Accept (N : Nat) (aProps : Int) (aAccept : List Bool) (aGuard : List Int) (aNodes : List Nd) (p : List Nat) (n : Int) : Option (Nat × Int) :=
  Option.bind (odds_After N aProps aAccept aGuard aNodes p n) fun r22 =>
  Option.bind (odds_Accept_l0 N aAccept r22 N 0 0) fun x64 =>
  some (x64, r22.2)
set_option maxRecDepth 100000 in
set_option maxHeartbeats 4000000 in
theorem odds_Accept_calls {N : Nat} {S Fa : Nat → Prop} {w0 : World} {r : Nat × Int} (A1 : Option Addr) (c2 : Nat) (A5 : Option Addr) (c6 : Nat) (A9 : Option Addr) (c10 : Nat) (A13 : Option Addr) (c14 : Nat) (aProps : Int) (aAccept : List Bool) (aGuard : List Int) (aNodes : List Nd) (p : List Nat) (n : Int) (hk3 : List.length aAccept ≤ c2) (hk7 : List.length aGuard ≤ c6) (hk11 : List.length aNodes ≤ c10) (hk15 : List.length p ≤ c14) (H : Hp S Fa w0 w0 [.ro false cBool A1 aAccept, .ro false (cInt .i64) A5 aGuard, .ro false cNode A9 aNodes, .ro false cFl A13 p]) (hP : odds_Accept N aProps aAccept aGuard aNodes p n = some r) :
    Calls Try.prog 16 #[.agg #[.int .i64 aProps, .slice A1 (List.length aAccept) c2, .slice A5 (List.length aGuard) c6, .slice A9 (List.length aNodes) c10], .slice A13 (List.length p) c14, .int .i64 n] w0 fun e w' => ∃ v, e = .returned v ∧ v = .tuple #[.float .f64 r.1, .int .i64 r.2] ∧ Hp S Fa w0 w' [] := by
 refine enterV (n := 38) Try.func16 rfl rfl rfl ?_
 intro a E
 replace E := E.pick [(0, .agg #[.int .i64 aProps, .slice A1 (List.length aAccept) c2, .slice A5 (List.length aGuard) c6, .slice A9 (List.length aNodes) c10]), (1, .slice A13 (List.length p) c14), (2, .int .i64 n)] ⟨rfl, rfl, rfl, trivial⟩
 rw [odds_Accept] at hP
 refine wp_seq ?_
 refine wp_region_lit ?_
 refine h_box H E rfl rfl rfl ?_
 intro w18 g17 a hc19 hg21 H_ E_
 replace E := E_ _ rfl; clear E_
 replace H := H_; clear H_; try dsimp only [setn, addE, goneL] at H
 refine vr tbok 2 [] [(1, .slice A13 (List.length p) c14), (2, .int .i64 n), (3, .pointer (some ⟨g17, 0, none⟩))] [] E (by kernel_rfl) trivial ?_
 clear E; intro a E
 refine wpList_nil ?_
 refine th_n ?_
 refine wp_seq ?_
 refine wp_region_lit ?_
 refine vr tbok 3 [.agg #[.int .i64 aProps, .slice A1 (List.length aAccept) c2, .slice A5 (List.length aGuard) c6, .slice A9 (List.length aNodes) c10]] [(3, .pointer (some ⟨g17, 0, none⟩)), (14, .agg #[.int .i64 aProps, .slice A1 (List.length aAccept) c2, .slice A5 (List.length aGuard) c6, .slice A9 (List.length aNodes) c10]), (15, .slice A13 (List.length p) c14), (16, .int .i64 n)] [cellsAt w18 g17 (0) [.int .i64 aProps, .slice A1 (List.length aAccept) c2, .slice A5 (List.length aGuard) c6, .slice A9 (List.length aNodes) c10]] E (by kernel_rfl) ((H.box 4 rfl).sub 0 _ rfl) ?_
 clear E; intro a E
 obtain ⟨r22, h23, hP⟩ := bind_inv hP
 obtain ⟨Fa24, Hc25, hb26⟩ := H.call [] [(0, false), (1, false), (2, false), (3, false)] rfl rfl trivial
 refine e_call E rfl rfl Try.func12 rfl rfl rfl (odds_After_calls A1 c2 A5 c6 A9 c10 A13 c14 aProps aAccept aGuard aNodes p n hk3 hk7 hk11 hk15 Hc25 h23) ?_
 rintro v27 w28 a ⟨A31, c32, rfl, HR29⟩ E_
 replace E := E_ _ rfl; clear E_
 obtain ⟨H_, hc30⟩ := hb26 _ _ HR29 rfl
 replace H := H_; clear H_; try dsimp only [setn, addE, goneL] at H
 refine vr tbok 5 [] [(3, .pointer (some ⟨g17, 0, none⟩)), (8, .slice A31 (List.length r22.1) c32), (9, .int .i64 r22.2)] [] E (by kernel_rfl) trivial ?_
 clear E; intro a E
 refine wpList_nil ?_
 refine th_n ?_
 refine wp_seq ?_
 refine wp_region_lit ?_
 refine vr tbok 1 [] [(3, .pointer (some ⟨g17, 0, none⟩)), (8, .slice A31 (List.length r22.1) c32), (9, .int .i64 r22.2), (10, .float .f64 0)] [] E (by kernel_rfl) trivial ?_
 clear E; intro a E
 refine wpList_nil ?_
 refine th_n ?_
 refine wp_seq ?_
 refine wp_seq ?_
 refine wp_region_lit ?_
 refine vr tbok 3 [] [(3, .pointer (some ⟨g17, 0, none⟩)), (9, .int .i64 r22.2), (10, .float .f64 0), (20, .slice A31 (List.length r22.1) c32), (21, .int .i64 (((List.length r22.1) : Nat) : Int)), (22, .int .i64 0)] [] E (by kernel_rfl) trivial ?_
 clear E; intro a E
 refine wpList_nil ?_
 refine th_n ?_
 refine wp_block ?_
 obtain ⟨x64, hL65, hK66⟩ := bind_inv hP
 clear hP
 refine loop_cut (fun i_ a w_ => (i_ = 0 ∧ ∃ (x69 : Nat), Fr a 38 [(9, .int .i64 r22.2), (10, .float .f64 x69)] ∧ Hp S Fa w0 w_ [] ∧ x64 = x69)) ?_ ?_
 ·
  refine loopV (fun m68 a w67 => ∃ (s46 : Nat) (x47 : Int), Fr a 38 [(3, .pointer (some ⟨g17, 0, none⟩)), (9, .int .i64 r22.2), (10, .float .f64 s46), (20, .slice A31 (List.length r22.1) c32), (21, .int .i64 (((List.length r22.1) : Nat) : Int)), (22, .int .i64 x47)] ∧ Hp S Fa w0 w67 [.ro false cBool A1 aAccept, .ro false (cInt .i64) A5 aGuard, .ro false cNode A9 aNodes, .box g17 26 [.int .i64 aProps, .slice A1 (List.length aAccept) c2, .slice A5 (List.length aGuard) c6, .slice A9 (List.length aNodes) c10], .row true cFl 33 A31 c32 r22.1] ∧ odds_Accept_l0 N aAccept r22 m68 s46 x47 = some x64) N ?_ ?_
  ·
   exact ⟨0, 0, E.pick _ ⟨rfl, rfl, rfl, rfl, rfl, rfl, trivial⟩, H.sel [0, 1, 2, 4, 5] rfl, hL65⟩
  clear E H hL65; intro m68 a w67 hI_
  obtain ⟨s46, x47, E, H, hP⟩ := hI_
  obtain ⟨m63, rfl⟩ : ∃ q_, m68 = q_ + 1 := by cases m68 with | zero => rw [odds_Accept_l0] at hP; cases hP | succ q_ => exact ⟨q_, rfl⟩
  rw [odds_Accept_l0] at hP
  refine wp_seq ?_
  refine wp_region_lit ?_
  refine vr tbok 1 [] [(3, .pointer (some ⟨g17, 0, none⟩)), (9, .int .i64 r22.2), (10, .float .f64 s46), (20, .slice A31 (List.length r22.1) c32), (21, .int .i64 (((List.length r22.1) : Nat) : Int)), (22, .int .i64 x47), (23, .bool (decide (x47 < (((List.length r22.1) : Nat) : Int))))] [] E (by kernel_rfl) trivial ?_
  clear E; intro a E
  refine wpList_nil ?_
  refine th_n ?_
  refine wp_seq ?_
  refine E.cases (t := 23) rfl (fun hb_ E_ => ?_) (fun hb_ E_ => ?_)
  ·
   replace E := E_; clear E_
   have h70 : x47 < (((List.length r22.1) : Nat) : Int) := of_decide_eq_true hb_
   clear hb_; replace hP := ite_t h70 hP
   refine c_true E rfl ?_
   refine wp_skip ?_
   refine th_n ?_
   refine wp_seq ?_
   refine wp_block ?_
   refine wp_seq ?_
   refine wp_region_lit ?_
   obtain ⟨g71, hP⟩ := ask_inv hP
   obtain ⟨b72, e_b72⟩ := H.raddr 4 rfl (idx_pos g71)
   subst e_b72
   refine vr tbok 5 [.float .f64 (List.getD r22.1 (Int.toNat x47) 0)] [(3, .pointer (some ⟨g17, 0, none⟩)), (9, .int .i64 r22.2), (10, .float .f64 s46), (11, .int .i64 x47), (12, .float .f64 (List.getD r22.1 (Int.toNat x47) 0)), (20, .slice (some ⟨b72, 0, none⟩) (List.length r22.1) c32), (21, .int .i64 (((List.length r22.1) : Nat) : Int)), (22, .int .i64 x47)] [0 ≤ x47 ∧ x47 < (((List.length r22.1) : Nat) : Int), World.cell? w67 ⟨b72, 0 + (Int.toNat x47) * 1, none⟩ = some (.float .f64 (List.getD r22.1 (Int.toNat x47) 0))] E (by kernel_rfl) ⟨g71, Rds.at1 (H.rd 4 rds_row) 0 g71⟩ ?_
   clear E; intro a E
   refine wpList_nil ?_
   refine th_n ?_
   refine wp_seq ?_
   refine wp_region_lit ?_
   obtain ⟨g74, hP⟩ := ask_inv hP
   obtain ⟨b75, o76, e_b75⟩ := (H.rd 0 rds_ro).addr (idx_pos g74)
   subst e_b75
   refine vr tbok 5 [.slice (some ⟨b75, o76, none⟩) (List.length aAccept) c2, .bool (List.getD aAccept (Int.toNat x47) false)] [(3, .pointer (some ⟨g17, 0, none⟩)), (9, .int .i64 r22.2), (10, .float .f64 s46), (12, .float .f64 (List.getD r22.1 (Int.toNat x47) 0)), (20, .slice (some ⟨b72, 0, none⟩) (List.length r22.1) c32), (21, .int .i64 (((List.length r22.1) : Nat) : Int)), (22, .int .i64 x47), (31, .bool (List.getD aAccept (Int.toNat x47) false))] [World.cell? w67 ⟨g17, 1, none⟩ = some (.slice (some ⟨b75, o76, none⟩) (List.length aAccept) c2), 0 ≤ x47 ∧ x47 < (((List.length aAccept) : Nat) : Int), World.cell? w67 ⟨b75, o76 + (Int.toNat x47) * 1, none⟩ = some (.bool (List.getD aAccept (Int.toNat x47) false))] E (by kernel_rfl) ⟨(H.box 3 rfl).cell (j := 1) rfl, g74, Rds.at1 (H.rd 0 rds_ro) false g74⟩ ?_
   clear E; intro a E
   refine wpList_nil ?_
   refine th_n ?_
   refine E.cases (t := 31) rfl (fun hb_ E_ => ?_) (fun hb_ E_ => ?_)
   ·
    replace E := E_; clear E_
    have h77 : (List.getD aAccept (Int.toNat x47) false) = true := hb_
    clear hb_; replace hP := ite_t h77 hP
    refine c_true E rfl ?_
    refine wp_region_lit ?_
    obtain ⟨f78, h79, hP⟩ := bind_inv hP
    refine vr tbok 4 [.float .f64 f78] [(3, .pointer (some ⟨g17, 0, none⟩)), (9, .int .i64 r22.2), (10, .float .f64 f78), (20, .slice (some ⟨b72, 0, none⟩) (List.length r22.1) c32), (21, .int .i64 (((List.length r22.1) : Nat) : Int)), (22, .int .i64 x47)] [fAdd s46 (List.getD r22.1 (Int.toNat x47) 0) = some f78] E (by kernel_rfl) (h79) ?_
    clear E; intro a E
    refine wpList_nil ?_
    refine bl_n ?_
    refine th_n ?_
    refine wp_region_lit ?_
    obtain ⟨g80, hP⟩ := ask_inv hP
    refine vr tbok 2 [.int .i64 (x47 + 1)] [(3, .pointer (some ⟨g17, 0, none⟩)), (9, .int .i64 r22.2), (10, .float .f64 f78), (20, .slice (some ⟨b72, 0, none⟩) (List.length r22.1) c32), (21, .int .i64 (((List.length r22.1) : Nat) : Int)), (22, .int .i64 (x47 + 1))] [IntKind.i64.wrap (x47 + 1) = x47 + 1] E (by kernel_rfl) (wrap_in g80) ?_
    clear E; intro a E
    refine wpList_nil ?_
    exact th_n ⟨m63, Nat.lt_succ_self _, f78, x47 + 1, E.pick _ ⟨rfl, rfl, rfl, rfl, rfl, rfl, trivial⟩, H.sel [0, 1, 2, 3, 4] rfl, hP⟩
   replace E := E_; clear E_
   have h81 : ¬ ((List.getD aAccept (Int.toNat x47) false) = true) := (ne_true_of_eq_false hb_)
   clear hb_; replace hP := ite_f h81 hP
   refine c_false E rfl ?_
   refine wp_skip ?_
   refine bl_n ?_
   refine th_n ?_
   refine wp_region_lit ?_
   obtain ⟨g82, hP⟩ := ask_inv hP
   refine vr tbok 2 [.int .i64 (x47 + 1)] [(3, .pointer (some ⟨g17, 0, none⟩)), (9, .int .i64 r22.2), (10, .float .f64 s46), (20, .slice (some ⟨b72, 0, none⟩) (List.length r22.1) c32), (21, .int .i64 (((List.length r22.1) : Nat) : Int)), (22, .int .i64 (x47 + 1))] [IntKind.i64.wrap (x47 + 1) = x47 + 1] E (by kernel_rfl) (wrap_in g82) ?_
   clear E; intro a E
   refine wpList_nil ?_
   exact th_n ⟨m63, Nat.lt_succ_self _, s46, x47 + 1, E.pick _ ⟨rfl, rfl, rfl, rfl, rfl, rfl, trivial⟩, H.sel [0, 1, 2, 3, 4] rfl, hP⟩
  replace E := E_; clear E_
  have h83 : ¬ (x47 < (((List.length r22.1) : Nat) : Int)) := of_decide_eq_false hb_
  clear hb_; replace hP := ite_f h83 hP
  refine c_false E rfl ?_
  refine wp_exit ?_
  refine th_exit ?_
  have hx_ := Option.some.inj hP
  refine th_exit (.inl ⟨0, rfl, ?_⟩)
  exact ⟨rfl, s46, E.pick _ ⟨rfl, rfl, trivial⟩, H.sel [] rfl, hx_.symm⟩
 clear E H hL65; intro i_ a w67 hM_
 obtain ⟨rfl, x69, E, H, hx_⟩ := hM_
 subst hx_; have hP := hK66; clear hK66
 refine bl_hit ?_
 refine th_n ?_
 refine wp_seq ?_
 refine wp_region_lit ?_
 refine vr tbok 4 [] [(6, .float .f64 x64), (7, .int .i64 r22.2)] [] E (by kernel_rfl) trivial ?_
 clear E; intro a E
 refine wpList_nil ?_
 refine th_n ?_
 refine wp_ret ?_
 obtain rfl := Option.some.inj hP
 refine ret2 E rfl rfl rfl ?_
 exact ⟨_, rfl, rfl, H.sel [] rfl⟩

/-! rejoinder/odds.Within -/
def odds_Within (N : Nat) (aProps : Int) (aAccept : List Bool) (aGuard : List Int) (aNodes : List Nd) (p : List Nat) (n : Int) : Option (Nat × Int) :=
  Option.bind (odds_asked N aProps aAccept aGuard aNodes p n) fun r22 =>
  if (r22 : Int) = 0 then
    Option.bind (odds_run N aProps aAccept aGuard aNodes p n true) fun r33 =>
    some (r33.2, 0)
  else
    some (0, r22)
set_option maxRecDepth 100000 in
set_option maxHeartbeats 4000000 in
theorem odds_Within_calls {N : Nat} {S Fa : Nat → Prop} {w0 : World} {r : Nat × Int} (A1 : Option Addr) (c2 : Nat) (A5 : Option Addr) (c6 : Nat) (A9 : Option Addr) (c10 : Nat) (A13 : Option Addr) (c14 : Nat) (aProps : Int) (aAccept : List Bool) (aGuard : List Int) (aNodes : List Nd) (p : List Nat) (n : Int) (hk3 : List.length aAccept ≤ c2) (hk7 : List.length aGuard ≤ c6) (hk11 : List.length aNodes ≤ c10) (hk15 : List.length p ≤ c14) (H : Hp S Fa w0 w0 [.ro false cBool A1 aAccept, .ro false (cInt .i64) A5 aGuard, .ro false cNode A9 aNodes, .ro false cFl A13 p]) (hP : odds_Within N aProps aAccept aGuard aNodes p n = some r) :
    Calls Try.prog 11 #[.agg #[.int .i64 aProps, .slice A1 (List.length aAccept) c2, .slice A5 (List.length aGuard) c6, .slice A9 (List.length aNodes) c10], .slice A13 (List.length p) c14, .int .i64 n] w0 fun e w' => ∃ v, e = .returned v ∧ v = .tuple #[.float .f64 r.1, .int .i64 r.2] ∧ Hp S Fa w0 w' [] := by
 refine enterV (n := 26) Try.func11 rfl rfl rfl ?_
 intro a E
 replace E := E.pick [(0, .agg #[.int .i64 aProps, .slice A1 (List.length aAccept) c2, .slice A5 (List.length aGuard) c6, .slice A9 (List.length aNodes) c10]), (1, .slice A13 (List.length p) c14), (2, .int .i64 n)] ⟨rfl, rfl, rfl, trivial⟩
 rw [odds_Within] at hP
 refine wp_seq ?_
 refine wp_region_lit ?_
 refine h_box H E rfl rfl rfl ?_
 intro w18 g17 a hc19 hg21 H_ E_
 replace E := E_ _ rfl; clear E_
 replace H := H_; clear H_; try dsimp only [setn, addE, goneL] at H
 refine vr tbok 2 [] [(1, .slice A13 (List.length p) c14), (2, .int .i64 n), (3, .pointer (some ⟨g17, 0, none⟩))] [] E (by kernel_rfl) trivial ?_
 clear E; intro a E
 refine wpList_nil ?_
 refine th_n ?_
 refine wp_seq ?_
 refine wp_seq ?_
 refine wp_region_lit ?_
 refine vr tbok 3 [.agg #[.int .i64 aProps, .slice A1 (List.length aAccept) c2, .slice A5 (List.length aGuard) c6, .slice A9 (List.length aNodes) c10]] [(1, .slice A13 (List.length p) c14), (2, .int .i64 n), (3, .pointer (some ⟨g17, 0, none⟩)), (11, .agg #[.int .i64 aProps, .slice A1 (List.length aAccept) c2, .slice A5 (List.length aGuard) c6, .slice A9 (List.length aNodes) c10]), (12, .slice A13 (List.length p) c14), (13, .int .i64 n)] [cellsAt w18 g17 (0) [.int .i64 aProps, .slice A1 (List.length aAccept) c2, .slice A5 (List.length aGuard) c6, .slice A9 (List.length aNodes) c10]] E (by kernel_rfl) ((H.box 4 rfl).sub 0 _ rfl) ?_
 clear E; intro a E
 obtain ⟨r22, h23, hP⟩ := bind_inv hP
 obtain ⟨Fa24, Hc25, hb26⟩ := H.call [] [(0, false), (1, false), (2, false), (3, false)] rfl rfl trivial
 refine e_call E rfl rfl Try.func21 rfl rfl rfl (odds_asked_calls A1 c2 A5 c6 A9 c10 A13 c14 aProps aAccept aGuard aNodes p n hk3 hk7 hk11 hk15 Hc25 h23) ?_
 rintro v27 w28 a ⟨rfl, HR29⟩ E_
 replace E := E_ _ rfl; clear E_
 obtain ⟨H_, hc30⟩ := hb26 _ _ HR29 rfl
 replace H := H_; clear H_; try dsimp only [setn, addE, goneL] at H
 refine vr tbok 1 [] [(1, .slice A13 (List.length p) c14), (2, .int .i64 n), (3, .pointer (some ⟨g17, 0, none⟩)), (8, .int .i64 r22)] [] E (by kernel_rfl) trivial ?_
 clear E; intro a E
 refine wpList_nil ?_
 refine th_n ?_
 refine wp_seq ?_
 refine wp_region_lit ?_
 refine vr tbok 2 [] [(1, .slice A13 (List.length p) c14), (2, .int .i64 n), (3, .pointer (some ⟨g17, 0, none⟩)), (8, .int .i64 r22), (16, .bool ((r22 : Int) != 0))] [] E (by kernel_rfl) trivial ?_
 clear E; intro a E
 refine wpList_nil ?_
 refine th_n ?_
 refine E.cases (t := 16) rfl (fun hb_ E_ => ?_) (fun hb_ E_ => ?_)
 ·
  replace E := E_; clear E_
  have h31 : ¬ ((r22 : Int) = 0) := bne_iff_ne.1 hb_
  clear hb_; replace hP := ite_f h31 hP
  refine c_true E rfl ?_
  refine wp_seq ?_
  refine wp_region_lit ?_
  refine vr tbok 3 [] [(6, .float .f64 0), (7, .int .i64 r22)] [] E (by kernel_rfl) trivial ?_
  clear E; intro a E
  refine wpList_nil ?_
  refine th_n ?_
  refine wp_ret ?_
  refine th_ret ?_
  obtain rfl := Option.some.inj hP
  refine ret2 E rfl rfl rfl ?_
  exact ⟨_, rfl, rfl, H.sel [] rfl⟩
 replace E := E_; clear E_
 have h32 : (r22 : Int) = 0 := bne_eq_false_iff_eq.1 hb_
 clear hb_; replace hP := ite_t h32 hP
 refine c_false E rfl ?_
 refine wp_skip ?_
 refine th_n ?_
 refine wp_seq ?_
 refine wp_region_lit ?_
 refine vr tbok 3 [.agg #[.int .i64 aProps, .slice A1 (List.length aAccept) c2, .slice A5 (List.length aGuard) c6, .slice A9 (List.length aNodes) c10]] [(19, .agg #[.int .i64 aProps, .slice A1 (List.length aAccept) c2, .slice A5 (List.length aGuard) c6, .slice A9 (List.length aNodes) c10]), (20, .slice A13 (List.length p) c14), (21, .int .i64 n)] [cellsAt w28 g17 (0) [.int .i64 aProps, .slice A1 (List.length aAccept) c2, .slice A5 (List.length aGuard) c6, .slice A9 (List.length aNodes) c10]] E (by kernel_rfl) ((H.box 4 rfl).sub 0 _ rfl) ?_
 clear E; intro a E
 obtain ⟨r33, h34, hP⟩ := bind_inv hP
 obtain ⟨Fa35, Hc36, hb37⟩ := H.call [] [(0, false), (1, false), (2, false), (3, false)] rfl rfl trivial
 refine e_call E rfl rfl Try.func22 rfl rfl rfl (odds_run_calls A1 c2 A5 c6 A9 c10 A13 c14 aProps aAccept aGuard aNodes p n true hk3 hk7 hk11 hk15 Hc36 h34) ?_
 rintro v38 w39 a ⟨A42, c43, rfl, HR40⟩ E_
 replace E := E_ _ rfl; clear E_
 obtain ⟨H_, hc41⟩ := hb37 _ _ HR40 rfl
 replace H := H_; clear H_; try dsimp only [setn, addE, goneL] at H
 refine vr tbok 5 [] [(10, .float .f64 r33.2)] [] E (by kernel_rfl) trivial ?_
 clear E; intro a E
 refine wpList_nil ?_
 refine th_n ?_
 refine wp_seq ?_
 refine wp_region_lit ?_
 refine vr tbok 3 [] [(6, .float .f64 r33.2), (7, .int .i64 0)] [] E (by kernel_rfl) trivial ?_
 clear E; intro a E
 refine wpList_nil ?_
 refine th_n ?_
 refine wp_ret ?_
 obtain rfl := Option.some.inj hP
 refine ret2 E rfl rfl rfl ?_
 exact ⟨_, rfl, rfl, H.sel [] rfl⟩

/-! rejoinder/rejoinderlaw27.awake -/
def law27_awake (N : Nat) : Option Bool :=
  Option.bind (law27_ending N) fun r1 =>
  Option.bind (odds_Accept N r1.1 r1.2.1 r1.2.2.1 r1.2.2.2 ([4598175219545276416] : List Nat) 2) fun r24 =>
  Option.bind (law27_ending N) fun r33 =>
  Option.bind (odds_Within N r33.1 r33.2.1 r33.2.2.1 r33.2.2.2 ([4598175219545276416] : List Nat) 2) fun r56 =>
  if (r24.2 : Int) = 0 then
    if (r56.2 : Int) = 0 then
      if (fEq r24.1 4598175219545276416) = true then
        some (fEq r56.1 4601552919265804288)
      else
        some false
    else
      some false
  else
    some false
set_option maxRecDepth 100000 in
set_option maxHeartbeats 4000000 in
theorem law27_awake_calls {N : Nat} {S Fa : Nat → Prop} {w0 : World} {r : Bool} (H : Hp S Fa w0 w0 []) (hP : law27_awake N  = some r) :
    Calls Try.prog 7 #[] w0 fun e w' => ∃ v, e = .returned v ∧ v = .bool r ∧ Hp S Fa w0 w' [] := by
 refine enterV (n := 31) Try.func7 rfl rfl rfl ?_
 intro a E
 replace E := E.pick [] trivial
 rw [law27_awake] at hP
 refine wp_seq ?_
 refine wp_region_lit ?_
 refine vr tbok 1 [] [] [] E (by kernel_rfl) trivial ?_
 clear E; intro a E
 refine wpList_nil ?_
 refine th_n ?_
 refine wp_seq ?_
 refine wp_region_lit ?_
 obtain ⟨r1, h2, hP⟩ := bind_inv hP
 obtain ⟨Fa3, Hc4, hb5⟩ := H.call [] [] rfl rfl trivial
 refine e_call E rfl rfl Try.func14 rfl rfl rfl (law27_ending_calls    Hc4 h2) ?_
 rintro v6 w7 a ⟨A10, c11, A13, c14, A16, c17, rfl, HR8⟩ E_
 replace E := E_ _ rfl; clear E_
 obtain ⟨H_, hc9⟩ := hb5 _ _ HR8 rfl
 replace H := H_; clear H_; try dsimp only [setn, addE, goneL] at H
 refine h_buildSlice (ps := [(0, .float .f64 4598175219545276416)]) (cs := [.float .f64 4598175219545276416]) H E rfl rfl tbok rfl rfl (by kernel_rfl) ?_
 intro w20 g19 a hc21 hg23 H_ E_
 replace E := E_ _ rfl; clear E_
 replace H := H_; clear H_; try dsimp only [setn, addE, goneL] at H
 replace H := H.boxRow cFl true ([4598175219545276416] : List Nat) 3 rfl (fun _ _ => ⟨_, _, rfl, rfl, rfl⟩) (Nat.le_of_ble_eq_true rfl); try dsimp only [setn, addE, goneL] at H
 obtain ⟨r24, h25, hP⟩ := bind_inv hP
 obtain ⟨Fa26, Hc27, hb28⟩ := H.call [] [(0, false), (1, false), (2, false), (3, false)] rfl rfl trivial
 refine e_call E rfl rfl Try.func16 rfl rfl rfl (odds_Accept_calls A10 c11 A13 c14 A16 c17 (some ⟨g19, 0, none⟩) 1 r1.1 r1.2.1 r1.2.2.1 r1.2.2.2 ([4598175219545276416] : List Nat) 2 (H.rcap 0 rfl) (H.rcap 1 rfl) (H.rcap 2 rfl) (H.rcapx 3 rfl) Hc27 h25) ?_
 rintro v29 w30 a ⟨rfl, HR31⟩ E_
 replace E := E_ _ rfl; clear E_
 obtain ⟨H_, hc32⟩ := hb28 _ _ HR31 rfl
 replace H := H_; clear H_; try dsimp only [setn, addE, goneL] at H
 refine vr tbok 5 [] [(1, .float .f64 r24.1), (2, .int .i64 r24.2)] [] E (by kernel_rfl) trivial ?_
 clear E; intro a E
 refine wpList_nil ?_
 refine th_n ?_
 refine wp_seq ?_
 refine wp_region_lit ?_
 obtain ⟨r33, h34, hP⟩ := bind_inv hP
 obtain ⟨Fa35, Hc36, hb37⟩ := H.call [] [] rfl rfl trivial
 refine e_call E rfl rfl Try.func14 rfl rfl rfl (law27_ending_calls    Hc36 h34) ?_
 rintro v38 w39 a ⟨A42, c43, A45, c46, A48, c49, rfl, HR40⟩ E_
 replace E := E_ _ rfl; clear E_
 obtain ⟨H_, hc41⟩ := hb37 _ _ HR40 rfl
 replace H := H_; clear H_; try dsimp only [setn, addE, goneL] at H
 refine h_buildSlice (ps := [(0, .float .f64 4598175219545276416)]) (cs := [.float .f64 4598175219545276416]) H E rfl rfl tbok rfl rfl (by kernel_rfl) ?_
 intro w52 g51 a hc53 hg55 H_ E_
 replace E := E_ _ rfl; clear E_
 replace H := H_; clear H_; try dsimp only [setn, addE, goneL] at H
 replace H := H.boxRow cFl true ([4598175219545276416] : List Nat) 7 rfl (fun _ _ => ⟨_, _, rfl, rfl, rfl⟩) (Nat.le_of_ble_eq_true rfl); try dsimp only [setn, addE, goneL] at H
 obtain ⟨r56, h57, hP⟩ := bind_inv hP
 obtain ⟨Fa58, Hc59, hb60⟩ := H.call [] [(4, false), (5, false), (6, false), (7, false)] rfl rfl trivial
 refine e_call E rfl rfl Try.func11 rfl rfl rfl (odds_Within_calls A42 c43 A45 c46 A48 c49 (some ⟨g51, 0, none⟩) 1 r33.1 r33.2.1 r33.2.2.1 r33.2.2.2 ([4598175219545276416] : List Nat) 2 (H.rcap 4 rfl) (H.rcap 5 rfl) (H.rcap 6 rfl) (H.rcapx 7 rfl) Hc59 h57) ?_
 rintro v61 w62 a ⟨rfl, HR63⟩ E_
 replace E := E_ _ rfl; clear E_
 obtain ⟨H_, hc64⟩ := hb60 _ _ HR63 rfl
 replace H := H_; clear H_; try dsimp only [setn, addE, goneL] at H
 refine vr tbok 5 [] [(1, .float .f64 r24.1), (2, .int .i64 r24.2), (3, .float .f64 r56.1), (4, .int .i64 r56.2)] [] E (by kernel_rfl) trivial ?_
 clear E; intro a E
 refine wpList_nil ?_
 refine th_n ?_
 refine wp_seq ?_
 refine wp_region_lit ?_
 refine vr tbok 3 [] [(1, .float .f64 r24.1), (3, .float .f64 r56.1), (4, .int .i64 r56.2), (19, .bool ((r24.2 : Int) == 0))] [] E (by kernel_rfl) trivial ?_
 clear E; intro a E
 refine E.cases (t := 19) rfl (fun hb_ E_ => ?_) (fun hb_ E_ => ?_)
 ·
  replace E := E_; clear E_
  have h65 : (r24.2 : Int) = 0 := eq_of_beq hb_
  clear hb_; replace hP := ite_t h65 hP
  refine vr tbok 4 [] [(1, .float .f64 r24.1), (3, .float .f64 r56.1), (23, .bool ((r56.2 : Int) == 0))] [] E (by kernel_rfl) trivial ?_
  clear E; intro a E
  refine E.cases (t := 23) rfl (fun hb_ E_ => ?_) (fun hb_ E_ => ?_)
  ·
   replace E := E_; clear E_
   have h66 : (r56.2 : Int) = 0 := eq_of_beq hb_
   clear hb_; replace hP := ite_t h66 hP
   refine vr tbok 4 [] [(3, .float .f64 r56.1), (27, .bool (fEq r24.1 4598175219545276416))] [] E (by kernel_rfl) trivial ?_
   clear E; intro a E
   refine E.cases (t := 27) rfl (fun hb_ E_ => ?_) (fun hb_ E_ => ?_)
   ·
    replace E := E_; clear E_
    have h67 : (fEq r24.1 4598175219545276416) = true := hb_
    clear hb_; replace hP := ite_t h67 hP
    refine vr tbok 4 [] [(0, .bool (fEq r56.1 4601552919265804288))] [] E (by kernel_rfl) trivial ?_
    clear E; intro a E
    refine wpList_nil ?_
    refine th_n ?_
    refine wp_ret ?_
    obtain rfl := Option.some.inj hP
    refine ret1 E rfl rfl ?_
    exact ⟨_, rfl, rfl, H.sel [] rfl⟩
   replace E := E_; clear E_
   have h68 : ¬ ((fEq r24.1 4598175219545276416) = true) := (ne_true_of_eq_false hb_)
   clear hb_; replace hP := ite_f h68 hP
   refine vr tbok 4 [] [(0, .bool false)] [] E (by kernel_rfl) trivial ?_
   clear E; intro a E
   refine wpList_nil ?_
   refine th_n ?_
   refine wp_ret ?_
   obtain rfl := Option.some.inj hP
   refine ret1 E rfl rfl ?_
   exact ⟨_, rfl, rfl, H.sel [] rfl⟩
  replace E := E_; clear E_
  have h69 : ¬ ((r56.2 : Int) = 0) := ne_of_beq_false hb_
  clear hb_; replace hP := ite_f h69 hP
  refine vr tbok 8 [] [(0, .bool false)] [] E (by kernel_rfl) trivial ?_
  clear E; intro a E
  refine wpList_nil ?_
  refine th_n ?_
  refine wp_ret ?_
  obtain rfl := Option.some.inj hP
  refine ret1 E rfl rfl ?_
  exact ⟨_, rfl, rfl, H.sel [] rfl⟩
 replace E := E_; clear E_
 have h70 : ¬ ((r24.2 : Int) = 0) := ne_of_beq_false hb_
 clear hb_; replace hP := ite_f h70 hP
 refine vr tbok 12 [] [(0, .bool false)] [] E (by kernel_rfl) trivial ?_
 clear E; intro a E
 refine wpList_nil ?_
 refine th_n ?_
 refine wp_ret ?_
 obtain rfl := Option.some.inj hP
 refine ret1 E rfl rfl ?_
 exact ⟨_, rfl, rfl, H.sel [] rfl⟩

/-! rejoinder/rejoinderlaw16.Small -/
def law16_Small (N : Nat) (aProps : Int) (aAccept : List Bool) (aGuard : List Int) (aNodes : List Nd) : Option Bool :=
  if (((List.length aAccept) : Nat) : Int) ≤ 24 then
    if aProps ≤ 4 then
      if (((List.length aNodes) : Nat) : Int) ≤ 400 then
        some (decide ((((List.length aGuard) : Nat) : Int) ≤ 300))
      else
        some false
    else
      some false
  else
    some false
set_option maxRecDepth 100000 in
set_option maxHeartbeats 4000000 in
theorem law16_Small_calls {N : Nat} {S Fa : Nat → Prop} {w0 : World} {r : Bool} (A1 : Option Addr) (c2 : Nat) (A5 : Option Addr) (c6 : Nat) (A9 : Option Addr) (c10 : Nat) (aProps : Int) (aAccept : List Bool) (aGuard : List Int) (aNodes : List Nd) (hk3 : List.length aAccept ≤ c2) (hk7 : List.length aGuard ≤ c6) (hk11 : List.length aNodes ≤ c10) (H : Hp S Fa w0 w0 [.ro false cBool A1 aAccept, .ro false (cInt .i64) A5 aGuard, .ro false cNode A9 aNodes]) (hP : law16_Small N aProps aAccept aGuard aNodes = some r) :
    Calls Try.prog 8 #[.agg #[.int .i64 aProps, .slice A1 (List.length aAccept) c2, .slice A5 (List.length aGuard) c6, .slice A9 (List.length aNodes) c10]] w0 fun e w' => ∃ v, e = .returned v ∧ v = .bool r ∧ Hp S Fa w0 w' [] := by
 refine enterV (n := 24) Try.func8 rfl rfl rfl ?_
 intro a E
 replace E := E.pick [(0, .agg #[.int .i64 aProps, .slice A1 (List.length aAccept) c2, .slice A5 (List.length aGuard) c6, .slice A9 (List.length aNodes) c10])] ⟨rfl, trivial⟩
 rw [law16_Small] at hP
 refine wp_seq ?_
 refine wp_region_lit ?_
 refine h_box H E rfl rfl rfl ?_
 intro w14 g13 a hc15 hg17 H_ E_
 replace E := E_ _ rfl; clear E_
 replace H := H_; clear H_; try dsimp only [setn, addE, goneL] at H
 refine vr tbok 1 [] [(1, .pointer (some ⟨g13, 0, none⟩))] [] E (by kernel_rfl) trivial ?_
 clear E; intro a E
 refine wpList_nil ?_
 refine th_n ?_
 refine wp_seq ?_
 refine wp_region_lit ?_
 refine vr tbok 5 [.slice A1 (List.length aAccept) c2] [(1, .pointer (some ⟨g13, 0, none⟩)), (7, .bool (decide ((((List.length aAccept) : Nat) : Int) ≤ 24)))] [World.cell? w14 ⟨g13, 1, none⟩ = some (.slice A1 (List.length aAccept) c2)] E (by kernel_rfl) ((H.box 3 rfl).cell (j := 1) rfl) ?_
 clear E; intro a E
 refine E.cases (t := 7) rfl (fun hb_ E_ => ?_) (fun hb_ E_ => ?_)
 ·
  replace E := E_; clear E_
  have h18 : (((List.length aAccept) : Nat) : Int) ≤ 24 := of_decide_eq_true hb_
  clear hb_; replace hP := ite_t h18 hP
  refine vr tbok 5 [.int .i64 aProps] [(1, .pointer (some ⟨g13, 0, none⟩)), (12, .bool (decide (aProps ≤ 4)))] [World.cell? w14 ⟨g13, 0, none⟩ = some (.int .i64 aProps)] E (by kernel_rfl) ((H.box 3 rfl).cell (j := 0) rfl) ?_
  clear E; intro a E
  refine E.cases (t := 12) rfl (fun hb_ E_ => ?_) (fun hb_ E_ => ?_)
  ·
   replace E := E_; clear E_
   have h19 : aProps ≤ 4 := of_decide_eq_true hb_
   clear hb_; replace hP := ite_t h19 hP
   refine vr tbok 6 [.slice A9 (List.length aNodes) c10] [(1, .pointer (some ⟨g13, 0, none⟩)), (18, .bool (decide ((((List.length aNodes) : Nat) : Int) ≤ 400)))] [World.cell? w14 ⟨g13, 3, none⟩ = some (.slice A9 (List.length aNodes) c10)] E (by kernel_rfl) ((H.box 3 rfl).cell (j := 3) rfl) ?_
   clear E; intro a E
   refine E.cases (t := 18) rfl (fun hb_ E_ => ?_) (fun hb_ E_ => ?_)
   ·
    replace E := E_; clear E_
    have h20 : (((List.length aNodes) : Nat) : Int) ≤ 400 := of_decide_eq_true hb_
    clear hb_; replace hP := ite_t h20 hP
    refine vr tbok 6 [.slice A5 (List.length aGuard) c6] [(2, .bool (decide ((((List.length aGuard) : Nat) : Int) ≤ 300)))] [World.cell? w14 ⟨g13, 2, none⟩ = some (.slice A5 (List.length aGuard) c6)] E (by kernel_rfl) ((H.box 3 rfl).cell (j := 2) rfl) ?_
    clear E; intro a E
    refine wpList_nil ?_
    refine th_n ?_
    refine wp_ret ?_
    obtain rfl := Option.some.inj hP
    refine ret1 E rfl rfl ?_
    exact ⟨_, rfl, rfl, H.sel [] rfl⟩
   replace E := E_; clear E_
   have h21 : ¬ ((((List.length aNodes) : Nat) : Int) ≤ 400) := of_decide_eq_false hb_
   clear hb_; replace hP := ite_f h21 hP
   refine vr tbok 6 [] [(2, .bool false)] [] E (by kernel_rfl) trivial ?_
   clear E; intro a E
   refine wpList_nil ?_
   refine th_n ?_
   refine wp_ret ?_
   obtain rfl := Option.some.inj hP
   refine ret1 E rfl rfl ?_
   exact ⟨_, rfl, rfl, H.sel [] rfl⟩
  replace E := E_; clear E_
  have h22 : ¬ (aProps ≤ 4) := of_decide_eq_false hb_
  clear hb_; replace hP := ite_f h22 hP
  refine vr tbok 12 [] [(2, .bool false)] [] E (by kernel_rfl) trivial ?_
  clear E; intro a E
  refine wpList_nil ?_
  refine th_n ?_
  refine wp_ret ?_
  obtain rfl := Option.some.inj hP
  refine ret1 E rfl rfl ?_
  exact ⟨_, rfl, rfl, H.sel [] rfl⟩
 replace E := E_; clear E_
 have h23 : ¬ ((((List.length aAccept) : Nat) : Int) ≤ 24) := of_decide_eq_false hb_
 clear hb_; replace hP := ite_f h23 hP
 refine vr tbok 17 [] [(2, .bool false)] [] E (by kernel_rfl) trivial ?_
 clear E; intro a E
 refine wpList_nil ?_
 refine th_n ?_
 refine wp_ret ?_
 obtain rfl := Option.some.inj hP
 refine ret1 E rfl rfl ?_
 exact ⟨_, rfl, rfl, H.sel [] rfl⟩

/-! rejoinder/rejoinderkit.Pick -/
def kit_Pick (N : Nat) (x : Int) (n : Int) : Option Int :=
  if n < 1 then
    some 0
  else
    ask (n ≠ 0) <|
    if (Int.tmod x n) < 0 then
      ask (in64 ((Int.tmod x n) + n)) <|
      some ((Int.tmod x n) + n)
    else
      some (Int.tmod x n)
set_option maxRecDepth 100000 in
set_option maxHeartbeats 4000000 in
theorem kit_Pick_calls {N : Nat} {S Fa : Nat → Prop} {w0 : World} {r : Int} (x : Int) (n : Int) (H : Hp S Fa w0 w0 []) (hP : kit_Pick N x n = some r) :
    Calls Try.prog 9 #[.int .i64 x, .int .i64 n] w0 fun e w' => ∃ v, e = .returned v ∧ v = .int .i64 r ∧ Hp S Fa w0 w' [] := by
 refine enterV (n := 16) Try.func9 rfl rfl rfl ?_
 intro a E
 replace E := E.pick [(0, .int .i64 x), (1, .int .i64 n)] ⟨rfl, rfl, trivial⟩
 rw [kit_Pick] at hP
 refine wp_seq ?_
 refine wp_region_lit ?_
 refine vr tbok 1 [] [(0, .int .i64 x), (1, .int .i64 n)] [] E (by kernel_rfl) trivial ?_
 clear E; intro a E
 refine wpList_nil ?_
 refine th_n ?_
 refine wp_seq ?_
 refine wp_seq ?_
 refine wp_region_lit ?_
 refine vr tbok 2 [] [(0, .int .i64 x), (1, .int .i64 n), (6, .bool (decide (n < 1)))] [] E (by kernel_rfl) trivial ?_
 clear E; intro a E
 refine wpList_nil ?_
 refine th_n ?_
 refine E.cases (t := 6) rfl (fun hb_ E_ => ?_) (fun hb_ E_ => ?_)
 ·
  replace E := E_; clear E_
  have h1 : n < 1 := of_decide_eq_true hb_
  clear hb_; replace hP := ite_t h1 hP
  refine c_true E rfl ?_
  refine wp_seq ?_
  refine wp_region_lit ?_
  refine vr tbok 1 [] [(4, .int .i64 0)] [] E (by kernel_rfl) trivial ?_
  clear E; intro a E
  refine wpList_nil ?_
  refine th_n ?_
  refine wp_ret ?_
  refine th_ret ?_
  obtain rfl := Option.some.inj hP
  refine ret1 E rfl rfl ?_
  exact ⟨_, rfl, rfl, H.sel [] rfl⟩
 replace E := E_; clear E_
 have h2 : ¬ (n < 1) := of_decide_eq_false hb_
 clear hb_; replace hP := ite_f h2 hP
 refine c_false E rfl ?_
 refine wp_skip ?_
 refine th_n ?_
 refine wp_seq ?_
 refine wp_region_lit ?_
 obtain ⟨g3, hP⟩ := ask_inv hP
 refine vr tbok 4 [.int .i64 (Int.tmod x n)] [(0, .int .i64 (Int.tmod x n)), (1, .int .i64 n)] [(n : Int) ≠ 0 ∧ Int.tmod x n = Int.tmod x n] E (by kernel_rfl) (⟨g3, rfl⟩) ?_
 clear E; intro a E
 refine wpList_nil ?_
 refine th_n ?_
 refine wp_seq ?_
 refine wp_seq ?_
 refine wp_region_lit ?_
 refine vr tbok 2 [] [(0, .int .i64 (Int.tmod x n)), (1, .int .i64 n), (11, .bool (decide ((Int.tmod x n) < 0)))] [] E (by kernel_rfl) trivial ?_
 clear E; intro a E
 refine wpList_nil ?_
 refine th_n ?_
 refine E.cases (t := 11) rfl (fun hb_ E_ => ?_) (fun hb_ E_ => ?_)
 ·
  replace E := E_; clear E_
  have h4 : (Int.tmod x n) < 0 := of_decide_eq_true hb_
  clear hb_; replace hP := ite_t h4 hP
  refine c_true E rfl ?_
  refine wp_region_lit ?_
  obtain ⟨g5, hP⟩ := ask_inv hP
  refine vr tbok 4 [.int .i64 ((Int.tmod x n) + n)] [(0, .int .i64 ((Int.tmod x n) + n))] [IntKind.i64.wrap ((Int.tmod x n) + n) = (Int.tmod x n) + n] E (by kernel_rfl) (wrap_in g5) ?_
  clear E; intro a E
  refine wpList_nil ?_
  refine th_n ?_
  refine wp_seq ?_
  refine wp_region_lit ?_
  refine vr tbok 2 [] [(4, .int .i64 ((Int.tmod x n) + n))] [] E (by kernel_rfl) trivial ?_
  clear E; intro a E
  refine wpList_nil ?_
  refine th_n ?_
  refine wp_ret ?_
  obtain rfl := Option.some.inj hP
  refine ret1 E rfl rfl ?_
  exact ⟨_, rfl, rfl, H.sel [] rfl⟩
 replace E := E_; clear E_
 have h6 : ¬ ((Int.tmod x n) < 0) := of_decide_eq_false hb_
 clear hb_; replace hP := ite_f h6 hP
 refine c_false E rfl ?_
 refine wp_skip ?_
 refine th_n ?_
 refine wp_seq ?_
 refine wp_region_lit ?_
 refine vr tbok 2 [] [(4, .int .i64 (Int.tmod x n))] [] E (by kernel_rfl) trivial ?_
 clear E; intro a E
 refine wpList_nil ?_
 refine th_n ?_
 refine wp_ret ?_
 obtain rfl := Option.some.inj hP
 refine ret1 E rfl rfl ?_
 exact ⟨_, rfl, rfl, H.sel [] rfl⟩

/-! rejoinder/rejoinderlaw27.reals -/
def law27_reals_l0 (N : Nat) (b : List Int) : Nat → (List Nat) → Int → Option (List Nat)
  | 0, _, _ => none
  | m49 + 1, out23, i26 =>
    if i26 < (((List.length b) : Nat) : Int) then
      ask (idx i26 (List.length b)) <|
      ask (List.length out23 + List.length ([(Int.toNat (List.getD b (Int.toNat i26) 0))] : List Nat) ≤ 1000000000) <|
      ask (in64 (i26 + 1)) <|
      law27_reals_l0 N b m49 (out23 ++ ([(Int.toNat (List.getD b (Int.toNat i26) 0))] : List Nat)) (i26 + 1)
    else
      some out23
def law27_reals (N : Nat) (b : List Int) : Option (List Nat) :=
  Option.bind (law27_reals_l0 N b N [] 0) fun x50 =>
  some x50
set_option maxRecDepth 100000 in
set_option maxHeartbeats 4000000 in
theorem law27_reals_calls {N : Nat} {S Fa : Nat → Prop} {w0 : World} {r : List Nat} (A1 : Option Addr) (c2 : Nat) (b : List Int) (hk3 : List.length b ≤ c2) (H : Hp S Fa w0 w0 [.ro false (cInt .u64) A1 b]) (hP : law27_reals N b = some r) :
    Calls Try.prog 10 #[.slice A1 (List.length b) c2] w0 fun e w' => ∃ v, e = .returned v ∧ ∃ (A74 : Option Addr) (c75 : Nat), v = .slice A74 (List.length r) c75 ∧ Hp S Fa w0 w' [.row true cFl 33 A74 c75 r] := by
 refine enterV (n := 20) Try.func10 rfl rfl rfl ?_
 intro a E
 replace E := E.pick [(0, .slice A1 (List.length b) c2)] ⟨rfl, trivial⟩
 rw [law27_reals] at hP
 refine wp_seq ?_
 refine wp_region_lit ?_
 refine vr tbok 1 [] [(0, .slice A1 (List.length b) c2)] [] E (by kernel_rfl) trivial ?_
 clear E; intro a E
 refine wpList_nil ?_
 refine th_n ?_
 refine wp_seq ?_
 refine wp_region_lit ?_
 refine vr tbok 1 [] [(0, .slice A1 (List.length b) c2), (3, .slice none 0 0)] [] E (by kernel_rfl) trivial ?_
 clear E; intro a E
 refine wpList_nil ?_
 refine th_n ?_
 refine wp_seq ?_
 refine wp_seq ?_
 refine wp_region_lit ?_
 refine vr tbok 1 [] [(0, .slice A1 (List.length b) c2), (3, .slice none 0 0), (4, .int .i64 0)] [] E (by kernel_rfl) trivial ?_
 clear E; intro a E
 refine wpList_nil ?_
 refine th_n ?_
 refine wp_block ?_
 obtain ⟨x50, hL51, hK52⟩ := bind_inv hP
 clear hP
 replace H := H.nilrow cFl 33; try dsimp only [setn, addE, goneL] at H
 refine loop_cut (fun i_ a w_ => (i_ = 0 ∧ ∃ (x56 : List Nat), ∃ (A47 : Option Addr) (c48 : Nat), Fr a 20 [(3, .slice A47 (List.length x56) c48)] ∧ Hp S Fa w0 w_ [.row true cFl 33 A47 c48 x56] ∧ x50 = x56)) ?_ ?_
 ·
  refine loopV (fun m55 a w54 => ∃ (out23 : List Nat) (i26 : Int), ∃ (A24 : Option Addr) (c25 : Nat), Fr a 20 [(0, .slice A1 (List.length b) c2), (3, .slice A24 (List.length out23) c25), (4, .int .i64 i26)] ∧ Hp S Fa w0 w54 [.ro false (cInt .u64) A1 b, .row true cFl 33 A24 c25 out23] ∧ law27_reals_l0 N b m55 out23 i26 = some x50) N ?_ ?_
  ·
   exact ⟨[], 0, none, 0, E.pick _ ⟨rfl, rfl, rfl, trivial⟩, H.sel [0, 1] rfl, hL51⟩
  clear E H hL51; intro m55 a w54 hI_
  obtain ⟨out23, i26, A24, c25, E, H, hP⟩ := hI_
  obtain ⟨m49, rfl⟩ : ∃ q_, m55 = q_ + 1 := by cases m55 with | zero => rw [law27_reals_l0] at hP; cases hP | succ q_ => exact ⟨q_, rfl⟩
  rw [law27_reals_l0] at hP
  refine wp_seq ?_
  refine wp_seq ?_
  refine wp_region_lit ?_
  refine vr tbok 4 [] [(0, .slice A1 (List.length b) c2), (3, .slice A24 (List.length out23) c25), (4, .int .i64 i26), (8, .bool (decide (i26 < (((List.length b) : Nat) : Int))))] [] E (by kernel_rfl) trivial ?_
  clear E; intro a E
  refine wpList_nil ?_
  refine th_n ?_
  refine E.cases (t := 8) rfl (fun hb_ E_ => ?_) (fun hb_ E_ => ?_)
  ·
   replace E := E_; clear E_
   have h57 : i26 < (((List.length b) : Nat) : Int) := of_decide_eq_true hb_
   clear hb_; replace hP := ite_t h57 hP
   refine c_true E rfl ?_
   refine wp_skip ?_
   refine th_n ?_
   refine wp_seq ?_
   refine wp_block ?_
   refine wp_region_lit ?_
   obtain ⟨g58, hP⟩ := ask_inv hP
   obtain ⟨b59, o60, e_b59⟩ := (H.rd 0 rds_ro).addr (idx_pos g58)
   subst e_b59
   refine vr tbok 5 [.int .u64 (List.getD b (Int.toNat i26) 0)] [(0, .slice (some ⟨b59, o60, none⟩) (List.length b) c2), (4, .int .i64 i26), (11, .slice A24 (List.length out23) c25), (15, .int .u64 (List.getD b (Int.toNat i26) 0))] [0 ≤ i26 ∧ i26 < (((List.length b) : Nat) : Int), World.cell? w54 ⟨b59, o60 + (Int.toNat i26) * 1, none⟩ = some (.int .u64 (List.getD b (Int.toNat i26) 0))] E (by kernel_rfl) ⟨g58, Rds.at1 (H.rd 0 rds_ro) 0 g58⟩ ?_
   clear E; intro a E
   refine e_ext1 (x := .int .u64 (List.getD b (Int.toNat i26) 0)) (v := .float .f64 (Int.toNat (List.getD b (Int.toNat i26) 0))) E rfl rfl Try.func20 rfl rfl (by kernel_rfl) (by kernel_rfl) rfl run_ffrom rfl ?_
   clear E; intro a E
   refine h_buildSlice (ps := [(0, .float .f64 (Int.toNat (List.getD b (Int.toNat i26) 0)))]) (cs := [.float .f64 (Int.toNat (List.getD b (Int.toNat i26) 0))]) H E rfl rfl tbok rfl rfl (by kernel_rfl) ?_
   intro w62 g61 a hc63 hg65 H_ E_
   replace E := E_ _ rfl; clear E_
   replace H := H_; clear H_; try dsimp only [setn, addE, goneL] at H
   obtain ⟨g66, hP⟩ := ask_inv hP
   refine h_append cFl (xs := out23) (ys := ([(Int.toNat (List.getD b (Int.toNat i26) 0))] : List Nat)) (0 : Nat) H 1 rfl E rfl rfl tbok rfl rfl rfl rfl rfl (fun _ _ => rfl) rfl rfl (fun _ HF_ => HF_.srcB 2 rfl (⟨_, _, rfl, rfl, rfl⟩)) g66 ?_
   intro w67 A68 c69 a hc70 hA71 H_ E_
   replace E := E_ _ rfl; clear E_
   replace H := H_; clear H_; try dsimp only [setn, addE, goneL] at H
   refine vr tbok 1 [] [(0, .slice (some ⟨b59, o60, none⟩) (List.length b) c2), (3, .slice A68 (List.length (out23 ++ ([(Int.toNat (List.getD b (Int.toNat i26) 0))] : List Nat))) c69), (4, .int .i64 i26)] [] E (by kernel_rfl) trivial ?_
   clear E; intro a E
   refine wpList_nil ?_
   refine bl_n ?_
   refine th_n ?_
   refine wp_region_lit ?_
   obtain ⟨g72, hP⟩ := ask_inv hP
   refine vr tbok 3 [.int .i64 (i26 + 1)] [(0, .slice (some ⟨b59, o60, none⟩) (List.length b) c2), (3, .slice A68 (List.length (out23 ++ ([(Int.toNat (List.getD b (Int.toNat i26) 0))] : List Nat))) c69), (4, .int .i64 (i26 + 1))] [IntKind.i64.wrap (i26 + 1) = i26 + 1] E (by kernel_rfl) (wrap_in g72) ?_
   clear E; intro a E
   refine wpList_nil ?_
   exact th_n ⟨m49, Nat.lt_succ_self _, out23 ++ ([(Int.toNat (List.getD b (Int.toNat i26) 0))] : List Nat), i26 + 1, A68, c69, E.pick _ ⟨rfl, rfl, rfl, trivial⟩, H.sel [0, 1] rfl, hP⟩
  replace E := E_; clear E_
  have h73 : ¬ (i26 < (((List.length b) : Nat) : Int)) := of_decide_eq_false hb_
  clear hb_; replace hP := ite_f h73 hP
  refine c_false E rfl ?_
  refine wp_exit ?_
  refine th_exit ?_
  have hx_ := Option.some.inj hP
  refine th_exit (.inl ⟨0, rfl, ?_⟩)
  exact ⟨rfl, out23, A24, c25, E.pick _ ⟨rfl, trivial⟩, H.sel [1] rfl, hx_.symm⟩
 clear E H hL51; intro i_ a w54 hM_
 obtain ⟨rfl, x56, A47, c48, E, H, hx_⟩ := hM_
 subst hx_; have hP := hK52; clear hK52
 refine bl_hit ?_
 refine th_n ?_
 refine wp_seq ?_
 refine wp_region_lit ?_
 refine vr tbok 2 [] [(2, .slice A47 (List.length x50) c48)] [] E (by kernel_rfl) trivial ?_
 clear E; intro a E
 refine wpList_nil ?_
 refine th_n ?_
 refine wp_ret ?_
 obtain rfl := Option.some.inj hP
 refine ret1 E rfl rfl ?_
 exact ⟨_, rfl, A47, c48, rfl, H.sel [0] rfl⟩

/-! math.Signbit -/
def math_Signbit (N : Nat) (x : Nat) : Option Bool :=
  ask (in64 ((x : Nat) : Int)) <|
  some (decide (((x : Nat) : Int) < 0))
set_option maxRecDepth 100000 in
set_option maxHeartbeats 4000000 in
theorem math_Signbit_calls {N : Nat} {S Fa : Nat → Prop} {w0 : World} {r : Bool} (x : Nat) (H : Hp S Fa w0 w0 []) (hP : math_Signbit N x = some r) :
    Calls Try.prog 13 #[.float .f64 x] w0 fun e w' => ∃ v, e = .returned v ∧ v = .bool r ∧ Hp S Fa w0 w' [] := by
 refine enterV (n := 7) Try.func13 rfl rfl rfl ?_
 intro a E
 replace E := E.pick [(0, .float .f64 x)] ⟨rfl, trivial⟩
 rw [math_Signbit] at hP
 refine wp_seq ?_
 refine wp_region_lit ?_
 refine vr tbok 1 [] [(0, .float .f64 x)] [] E (by kernel_rfl) trivial ?_
 clear E; intro a E
 refine wpList_nil ?_
 refine th_n ?_
 refine wp_seq ?_
 refine wp_region_lit ?_
 refine vr tbok 1 [] [(3, .float .f64 x)] [] E (by kernel_rfl) trivial ?_
 clear E; intro a E
 refine e_ext1 (x := .float .f64 x) (v := .int .u64 ((x : Nat) : Int)) E rfl rfl Try.func23 rfl rfl (by kernel_rfl) (by kernel_rfl) rfl run_fbits rfl ?_
 clear E; intro a E
 obtain ⟨g1, hP⟩ := ask_inv hP
 refine vr tbok 3 [.int .i64 ((x : Nat) : Int)] [(2, .bool (decide (((x : Nat) : Int) < 0)))] [IntKind.i64.wrap ((x : Nat) : Int) = ((x : Nat) : Int)] E (by kernel_rfl) (wrap_in g1) ?_
 clear E; intro a E
 refine wpList_nil ?_
 refine th_n ?_
 refine wp_ret ?_
 obtain rfl := Option.some.inj hP
 refine ret1 E rfl rfl ?_
 exact ⟨_, rfl, rfl, H.sel [] rfl⟩

end Go.V
