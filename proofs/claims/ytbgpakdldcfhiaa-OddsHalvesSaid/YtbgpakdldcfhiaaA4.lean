/- Plain functions, and the calls that give them. -/
import Derived.Test.YtbgpakdldcfhiaaA3
set_option linter.all false
set_option linter.unusedVariables false
set_option linter.unnecessarySimpa false
set_option linter.unusedSimpArgs false
namespace Go.V
open Go Go.Proofs
/-! rejoinder/odds.After -/
def odds_After (N : Nat) (aProps : Int) (aAccept : List Bool) (aGuard : List Int) (aNodes : List Nd) (p : List Nat) (n : Int) : Option ((List Nat) × Int) :=
  Option.bind (odds_asked N aProps aAccept aGuard aNodes p n) fun r22 =>
  if (r22 : Int) = 0 then
    Option.bind (odds_run N aProps aAccept aGuard aNodes p n false) fun r34 =>
    some (r34.1, 0)
  else
    some ([], r22)
set_option maxRecDepth 100000 in
set_option maxHeartbeats 4000000 in
theorem odds_After_calls {N : Nat} {S Fa : Nat → Prop} {w0 : World} {r : (List Nat) × Int} (A1 : Option Addr) (c2 : Nat) (A5 : Option Addr) (c6 : Nat) (A9 : Option Addr) (c10 : Nat) (A13 : Option Addr) (c14 : Nat) (aProps : Int) (aAccept : List Bool) (aGuard : List Int) (aNodes : List Nd) (p : List Nat) (n : Int) (hk3 : List.length aAccept ≤ c2) (hk7 : List.length aGuard ≤ c6) (hk11 : List.length aNodes ≤ c10) (hk15 : List.length p ≤ c14) (H : Hp S Fa w0 w0 [.ro false cBool A1 aAccept, .ro false (cInt .i64) A5 aGuard, .ro false cNode A9 aNodes, .ro false cFl A13 p]) (hP : odds_After N aProps aAccept aGuard aNodes p n = some r) :
    Calls Try.prog 12 #[.agg #[.int .i64 aProps, .slice A1 (List.length aAccept) c2, .slice A5 (List.length aGuard) c6, .slice A9 (List.length aNodes) c10], .slice A13 (List.length p) c14, .int .i64 n] w0 fun e w' => ∃ v, e = .returned v ∧ ∃ (A46 : Option Addr) (c47 : Nat), v = .tuple #[.slice A46 (List.length r.1) c47, .int .i64 r.2] ∧ Hp S Fa w0 w' [.row true cFl 33 A46 c47 r.1] := by
 refine enterV (n := 26) Try.func12 rfl rfl rfl ?_
 intro a E
 replace E := E.pick [(0, .agg #[.int .i64 aProps, .slice A1 (List.length aAccept) c2, .slice A5 (List.length aGuard) c6, .slice A9 (List.length aNodes) c10]), (1, .slice A13 (List.length p) c14), (2, .int .i64 n)] ⟨rfl, rfl, rfl, trivial⟩
 rw [odds_After] at hP
 refine wp_seq ?_
 refine wp_region_lit ?_
 refine h_box H E rfl rfl rfl ?_
 intro w18 g17 a hc19 hg21 H_ E_
 replace E := E_ _ rfl; clear E_
 replace H := H_; clear H_; try dsimp only [setn, addE, goneL] at H
 refine vr tbok 2 [] [(1, .slice A13 (List.length p) c14), (2, .int .i64 n), (3, .pointer (some ⟨g17, 0, none⟩))] [] E (by kernel_rfl) trivial ?_
 clear E; intro a E
 refine wpList_nil ?_
 refine th_n ?_
 refine wp_seq ?_
 refine wp_seq ?_
 refine wp_region_lit ?_
 refine vr tbok 3 [.agg #[.int .i64 aProps, .slice A1 (List.length aAccept) c2, .slice A5 (List.length aGuard) c6, .slice A9 (List.length aNodes) c10]] [(1, .slice A13 (List.length p) c14), (2, .int .i64 n), (3, .pointer (some ⟨g17, 0, none⟩)), (11, .agg #[.int .i64 aProps, .slice A1 (List.length aAccept) c2, .slice A5 (List.length aGuard) c6, .slice A9 (List.length aNodes) c10]), (12, .slice A13 (List.length p) c14), (13, .int .i64 n)] [cellsAt w18 g17 (0) [.int .i64 aProps, .slice A1 (List.length aAccept) c2, .slice A5 (List.length aGuard) c6, .slice A9 (List.length aNodes) c10]] E (by kernel_rfl) ((H.box 4 rfl).sub 0 _ rfl) ?_
 clear E; intro a E
 obtain ⟨r22, h23, hP⟩ := bind_inv hP
 obtain ⟨Fa24, Hc25, hb26⟩ := H.call [] [(0, false), (1, false), (2, false), (3, false)] rfl rfl trivial
 refine e_call E rfl rfl Try.func21 rfl rfl rfl (odds_asked_calls A1 c2 A5 c6 A9 c10 A13 c14 aProps aAccept aGuard aNodes p n hk3 hk7 hk11 hk15 Hc25 h23) ?_
 rintro v27 w28 a ⟨rfl, HR29⟩ E_
 replace E := E_ _ rfl; clear E_
 obtain ⟨H_, hc30⟩ := hb26 _ _ HR29 rfl
 replace H := H_; clear H_; try dsimp only [setn, addE, goneL] at H
 refine vr tbok 1 [] [(1, .slice A13 (List.length p) c14), (2, .int .i64 n), (3, .pointer (some ⟨g17, 0, none⟩)), (8, .int .i64 r22)] [] E (by kernel_rfl) trivial ?_
 clear E; intro a E
 refine wpList_nil ?_
 refine th_n ?_
 refine wp_seq ?_
 refine wp_region_lit ?_
 refine vr tbok 2 [] [(1, .slice A13 (List.length p) c14), (2, .int .i64 n), (3, .pointer (some ⟨g17, 0, none⟩)), (8, .int .i64 r22), (16, .bool ((r22 : Int) != 0))] [] E (by kernel_rfl) trivial ?_
 clear E; intro a E
 refine wpList_nil ?_
 refine th_n ?_
 refine E.cases (t := 16) rfl (fun hb_ E_ => ?_) (fun hb_ E_ => ?_)
 ·
  replace E := E_; clear E_
  have h31 : ¬ ((r22 : Int) = 0) := bne_iff_ne.1 hb_
  clear hb_; replace hP := ite_f h31 hP
  refine c_true E rfl ?_
  refine wp_seq ?_
  refine wp_region_lit ?_
  refine vr tbok 3 [] [(6, .slice none 0 0), (7, .int .i64 r22)] [] E (by kernel_rfl) trivial ?_
  clear E; intro a E
  refine wpList_nil ?_
  refine th_n ?_
  refine wp_ret ?_
  refine th_ret ?_
  replace H := H.nilrow cFl 33; try dsimp only [setn, addE, goneL] at H
  obtain rfl := Option.some.inj hP
  refine ret2 E rfl rfl rfl ?_
  exact ⟨_, rfl, none, 0, rfl, H.sel [5] rfl⟩
 replace E := E_; clear E_
 have h33 : (r22 : Int) = 0 := bne_eq_false_iff_eq.1 hb_
 clear hb_; replace hP := ite_t h33 hP
 refine c_false E rfl ?_
 refine wp_skip ?_
 refine th_n ?_
 refine wp_seq ?_
 refine wp_region_lit ?_
 refine vr tbok 3 [.agg #[.int .i64 aProps, .slice A1 (List.length aAccept) c2, .slice A5 (List.length aGuard) c6, .slice A9 (List.length aNodes) c10]] [(19, .agg #[.int .i64 aProps, .slice A1 (List.length aAccept) c2, .slice A5 (List.length aGuard) c6, .slice A9 (List.length aNodes) c10]), (20, .slice A13 (List.length p) c14), (21, .int .i64 n)] [cellsAt w28 g17 (0) [.int .i64 aProps, .slice A1 (List.length aAccept) c2, .slice A5 (List.length aGuard) c6, .slice A9 (List.length aNodes) c10]] E (by kernel_rfl) ((H.box 4 rfl).sub 0 _ rfl) ?_
 clear E; intro a E
 obtain ⟨r34, h35, hP⟩ := bind_inv hP
 obtain ⟨Fa36, Hc37, hb38⟩ := H.call [] [(0, false), (1, false), (2, false), (3, false)] rfl rfl trivial
 refine e_call E rfl rfl Try.func22 rfl rfl rfl (odds_run_calls A1 c2 A5 c6 A9 c10 A13 c14 aProps aAccept aGuard aNodes p n false hk3 hk7 hk11 hk15 Hc37 h35) ?_
 rintro v39 w40 a ⟨A43, c44, rfl, HR41⟩ E_
 replace E := E_ _ rfl; clear E_
 obtain ⟨H_, hc42⟩ := hb38 _ _ HR41 rfl
 replace H := H_; clear H_; try dsimp only [setn, addE, goneL] at H
 refine vr tbok 5 [] [(9, .slice A43 (List.length r34.1) c44)] [] E (by kernel_rfl) trivial ?_
 clear E; intro a E
 refine wpList_nil ?_
 refine th_n ?_
 refine wp_seq ?_
 refine wp_region_lit ?_
 refine vr tbok 3 [] [(6, .slice A43 (List.length r34.1) c44), (7, .int .i64 0)] [] E (by kernel_rfl) trivial ?_
 clear E; intro a E
 refine wpList_nil ?_
 refine th_n ?_
 refine wp_ret ?_
 obtain rfl := Option.some.inj hP
 refine ret2 E rfl rfl rfl ?_
 exact ⟨_, rfl, A43, c44, rfl, H.sel [5] rfl⟩

/-! rejoinder/odds.Accept -/
def odds_Accept_l0 (N : Nat) (aAccept : List Bool) (r22 : (List Nat) × Int) : Nat → Nat → Int → Option Nat
  | 0, _, _ => none
  | m63 + 1, s46, x47 =>
    if x47 < (((List.length r22.1) : Nat) : Int) then
      ask (idx x47 (List.length r22.1)) <|
      ask (idx x47 (List.length aAccept)) <|
      if (List.getD aAccept (Int.toNat x47) false) = true then
        Option.bind (fAdd s46 (List.getD r22.1 (Int.toNat x47) 0)) fun f78 =>
        ask (in64 (x47 + 1)) <|
        odds_Accept_l0 N aAccept r22 m63 f78 (x47 + 1)
      else
        ask (in64 (x47 + 1)) <|
        odds_Accept_l0 N aAccept r22 m63 s46 (x47 + 1)
    else
      some s46
def odds_Accept (N : Nat) (aProps : Int) (aAccept : List Bool) (aGuard : List Int) (aNodes : List Nd) (p : List Nat) (n : Int) : Option (Nat × Int) :=
  Option.bind (odds_After N aProps aAccept aGuard aNodes p n) fun r22 =>
  Option.bind (odds_Accept_l0 N aAccept r22 N 0 0) fun x64 =>
  some (x64, r22.2)
set_option maxRecDepth 100000 in
set_option maxHeartbeats 4000000 in
theorem odds_Accept_calls {N : Nat} {S Fa : Nat → Prop} {w0 : World} {r : Nat × Int} (A1 : Option Addr) (c2 : Nat) (A5 : Option Addr) (c6 : Nat) (A9 : Option Addr) (c10 : Nat) (A13 : Option Addr) (c14 : Nat) (aProps : Int) (aAccept : List Bool) (aGuard : List Int) (aNodes : List Nd) (p : List Nat) (n : Int) (hk3 : List.length aAccept ≤ c2) (hk7 : List.length aGuard ≤ c6) (hk11 : List.length aNodes ≤ c10) (hk15 : List.length p ≤ c14) (H : Hp S Fa w0 w0 [.ro false cBool A1 aAccept, .ro false (cInt .i64) A5 aGuard, .ro false cNode A9 aNodes, .ro false cFl A13 p]) (hP : odds_Accept N aProps aAccept aGuard aNodes p n = some r) :
    Calls Try.prog 16 #[.agg #[.int .i64 aProps, .slice A1 (List.length aAccept) c2, .slice A5 (List.length aGuard) c6, .slice A9 (List.length aNodes) c10], .slice A13 (List.length p) c14, .int .i64 n] w0 fun e w' => ∃ v, e = .returned v ∧ v = .tuple #[.float .f64 r.1, .int .i64 r.2] ∧ Hp S Fa w0 w' [] := by
 refine enterV (n := 38) Try.func16 rfl rfl rfl ?_
 intro a E
 replace E := E.pick [(0, .agg #[.int .i64 aProps, .slice A1 (List.length aAccept) c2, .slice A5 (List.length aGuard) c6, .slice A9 (List.length aNodes) c10]), (1, .slice A13 (List.length p) c14), (2, .int .i64 n)] ⟨rfl, rfl, rfl, trivial⟩
 rw [odds_Accept] at hP
 refine wp_seq ?_
 refine wp_region_lit ?_
 refine h_box H E rfl rfl rfl ?_
 intro w18 g17 a hc19 hg21 H_ E_
 replace E := E_ _ rfl; clear E_
 replace H := H_; clear H_; try dsimp only [setn, addE, goneL] at H
 refine vr tbok 2 [] [(1, .slice A13 (List.length p) c14), (2, .int .i64 n), (3, .pointer (some ⟨g17, 0, none⟩))] [] E (by kernel_rfl) trivial ?_
 clear E; intro a E
 refine wpList_nil ?_
 refine th_n ?_
 refine wp_seq ?_
 refine wp_region_lit ?_
 refine vr tbok 3 [.agg #[.int .i64 aProps, .slice A1 (List.length aAccept) c2, .slice A5 (List.length aGuard) c6, .slice A9 (List.length aNodes) c10]] [(3, .pointer (some ⟨g17, 0, none⟩)), (14, .agg #[.int .i64 aProps, .slice A1 (List.length aAccept) c2, .slice A5 (List.length aGuard) c6, .slice A9 (List.length aNodes) c10]), (15, .slice A13 (List.length p) c14), (16, .int .i64 n)] [cellsAt w18 g17 (0) [.int .i64 aProps, .slice A1 (List.length aAccept) c2, .slice A5 (List.length aGuard) c6, .slice A9 (List.length aNodes) c10]] E (by kernel_rfl) ((H.box 4 rfl).sub 0 _ rfl) ?_
 clear E; intro a E
 obtain ⟨r22, h23, hP⟩ := bind_inv hP
 obtain ⟨Fa24, Hc25, hb26⟩ := H.call [] [(0, false), (1, false), (2, false), (3, false)] rfl rfl trivial
 refine e_call E rfl rfl Try.func12 rfl rfl rfl (odds_After_calls A1 c2 A5 c6 A9 c10 A13 c14 aProps aAccept aGuard aNodes p n hk3 hk7 hk11 hk15 Hc25 h23) ?_
 rintro v27 w28 a ⟨A31, c32, rfl, HR29⟩ E_
 replace E := E_ _ rfl; clear E_
 obtain ⟨H_, hc30⟩ := hb26 _ _ HR29 rfl
 replace H := H_; clear H_; try dsimp only [setn, addE, goneL] at H
 refine vr tbok 5 [] [(3, .pointer (some ⟨g17, 0, none⟩)), (8, .slice A31 (List.length r22.1) c32), (9, .int .i64 r22.2)] [] E (by kernel_rfl) trivial ?_
 clear E; intro a E
 refine wpList_nil ?_
 refine th_n ?_
 refine wp_seq ?_
 refine wp_region_lit ?_
 refine vr tbok 1 [] [(3, .pointer (some ⟨g17, 0, none⟩)), (8, .slice A31 (List.length r22.1) c32), (9, .int .i64 r22.2), (10, .float .f64 0)] [] E (by kernel_rfl) trivial ?_
 clear E; intro a E
 refine wpList_nil ?_
 refine th_n ?_
 refine wp_seq ?_
 refine wp_seq ?_
 refine wp_region_lit ?_
 refine vr tbok 3 [] [(3, .pointer (some ⟨g17, 0, none⟩)), (9, .int .i64 r22.2), (10, .float .f64 0), (20, .slice A31 (List.length r22.1) c32), (21, .int .i64 (((List.length r22.1) : Nat) : Int)), (22, .int .i64 0)] [] E (by kernel_rfl) trivial ?_
 clear E; intro a E
 refine wpList_nil ?_
 refine th_n ?_
 refine wp_block ?_
 obtain ⟨x64, hL65, hK66⟩ := bind_inv hP
 clear hP
 refine loop_cut (fun i_ a w_ => (i_ = 0 ∧ ∃ (x69 : Nat), Fr a 38 [(9, .int .i64 r22.2), (10, .float .f64 x69)] ∧ Hp S Fa w0 w_ [] ∧ x64 = x69)) ?_ ?_
 ·
  refine loopV (fun m68 a w67 => ∃ (s46 : Nat) (x47 : Int), Fr a 38 [(3, .pointer (some ⟨g17, 0, none⟩)), (9, .int .i64 r22.2), (10, .float .f64 s46), (20, .slice A31 (List.length r22.1) c32), (21, .int .i64 (((List.length r22.1) : Nat) : Int)), (22, .int .i64 x47)] ∧ Hp S Fa w0 w67 [.ro false cBool A1 aAccept, .ro false (cInt .i64) A5 aGuard, .ro false cNode A9 aNodes, .box g17 26 [.int .i64 aProps, .slice A1 (List.length aAccept) c2, .slice A5 (List.length aGuard) c6, .slice A9 (List.length aNodes) c10], .row true cFl 33 A31 c32 r22.1] ∧ odds_Accept_l0 N aAccept r22 m68 s46 x47 = some x64) N ?_ ?_
  ·
   exact ⟨0, 0, E.pick _ ⟨rfl, rfl, rfl, rfl, rfl, rfl, trivial⟩, H.sel [0, 1, 2, 4, 5] rfl, hL65⟩
  clear E H hL65; intro m68 a w67 hI_
  obtain ⟨s46, x47, E, H, hP⟩ := hI_
  obtain ⟨m63, rfl⟩ : ∃ q_, m68 = q_ + 1 := by cases m68 with | zero => rw [odds_Accept_l0] at hP; cases hP | succ q_ => exact ⟨q_, rfl⟩
  rw [odds_Accept_l0] at hP
  refine wp_seq ?_
  refine wp_region_lit ?_
  refine vr tbok 1 [] [(3, .pointer (some ⟨g17, 0, none⟩)), (9, .int .i64 r22.2), (10, .float .f64 s46), (20, .slice A31 (List.length r22.1) c32), (21, .int .i64 (((List.length r22.1) : Nat) : Int)), (22, .int .i64 x47), (23, .bool (decide (x47 < (((List.length r22.1) : Nat) : Int))))] [] E (by kernel_rfl) trivial ?_
  clear E; intro a E
  refine wpList_nil ?_
  refine th_n ?_
  refine wp_seq ?_
  refine E.cases (t := 23) rfl (fun hb_ E_ => ?_) (fun hb_ E_ => ?_)
  ·
   replace E := E_; clear E_
   have h70 : x47 < (((List.length r22.1) : Nat) : Int) := of_decide_eq_true hb_
   clear hb_; replace hP := ite_t h70 hP
   refine c_true E rfl ?_
   refine wp_skip ?_
   refine th_n ?_
   refine wp_seq ?_
   refine wp_block ?_
   refine wp_seq ?_
   refine wp_region_lit ?_
   obtain ⟨g71, hP⟩ := ask_inv hP
   obtain ⟨b72, e_b72⟩ := H.raddr 4 rfl (idx_pos g71)
   subst e_b72
   refine vr tbok 5 [.float .f64 (List.getD r22.1 (Int.toNat x47) 0)] [(3, .pointer (some ⟨g17, 0, none⟩)), (9, .int .i64 r22.2), (10, .float .f64 s46), (11, .int .i64 x47), (12, .float .f64 (List.getD r22.1 (Int.toNat x47) 0)), (20, .slice (some ⟨b72, 0, none⟩) (List.length r22.1) c32), (21, .int .i64 (((List.length r22.1) : Nat) : Int)), (22, .int .i64 x47)] [0 ≤ x47 ∧ x47 < (((List.length r22.1) : Nat) : Int), World.cell? w67 ⟨b72, 0 + (Int.toNat x47) * 1, none⟩ = some (.float .f64 (List.getD r22.1 (Int.toNat x47) 0))] E (by kernel_rfl) ⟨g71, Rds.at1 (H.rd 4 rds_row) 0 g71⟩ ?_
   clear E; intro a E
   refine wpList_nil ?_
   refine th_n ?_
   refine wp_seq ?_
   refine wp_region_lit ?_
   obtain ⟨g74, hP⟩ := ask_inv hP
   obtain ⟨b75, o76, e_b75⟩ := (H.rd 0 rds_ro).addr (idx_pos g74)
   subst e_b75
   refine vr tbok 5 [.slice (some ⟨b75, o76, none⟩) (List.length aAccept) c2, .bool (List.getD aAccept (Int.toNat x47) false)] [(3, .pointer (some ⟨g17, 0, none⟩)), (9, .int .i64 r22.2), (10, .float .f64 s46), (12, .float .f64 (List.getD r22.1 (Int.toNat x47) 0)), (20, .slice (some ⟨b72, 0, none⟩) (List.length r22.1) c32), (21, .int .i64 (((List.length r22.1) : Nat) : Int)), (22, .int .i64 x47), (31, .bool (List.getD aAccept (Int.toNat x47) false))] [World.cell? w67 ⟨g17, 1, none⟩ = some (.slice (some ⟨b75, o76, none⟩) (List.length aAccept) c2), 0 ≤ x47 ∧ x47 < (((List.length aAccept) : Nat) : Int), World.cell? w67 ⟨b75, o76 + (Int.toNat x47) * 1, none⟩ = some (.bool (List.getD aAccept (Int.toNat x47) false))] E (by kernel_rfl) ⟨(H.box 3 rfl).cell (j := 1) rfl, g74, Rds.at1 (H.rd 0 rds_ro) false g74⟩ ?_
   clear E; intro a E
   refine wpList_nil ?_
   refine th_n ?_
   refine E.cases (t := 31) rfl (fun hb_ E_ => ?_) (fun hb_ E_ => ?_)
   ·
    replace E := E_; clear E_
    have h77 : (List.getD aAccept (Int.toNat x47) false) = true := hb_
    clear hb_; replace hP := ite_t h77 hP
    refine c_true E rfl ?_
    refine wp_region_lit ?_
    obtain ⟨f78, h79, hP⟩ := bind_inv hP
    refine vr tbok 4 [.float .f64 f78] [(3, .pointer (some ⟨g17, 0, none⟩)), (9, .int .i64 r22.2), (10, .float .f64 f78), (20, .slice (some ⟨b72, 0, none⟩) (List.length r22.1) c32), (21, .int .i64 (((List.length r22.1) : Nat) : Int)), (22, .int .i64 x47)] [fAdd s46 (List.getD r22.1 (Int.toNat x47) 0) = some f78] E (by kernel_rfl) (h79) ?_
    clear E; intro a E
    refine wpList_nil ?_
    refine bl_n ?_
    refine th_n ?_
    refine wp_region_lit ?_
    obtain ⟨g80, hP⟩ := ask_inv hP
    refine vr tbok 2 [.int .i64 (x47 + 1)] [(3, .pointer (some ⟨g17, 0, none⟩)), (9, .int .i64 r22.2), (10, .float .f64 f78), (20, .slice (some ⟨b72, 0, none⟩) (List.length r22.1) c32), (21, .int .i64 (((List.length r22.1) : Nat) : Int)), (22, .int .i64 (x47 + 1))] [IntKind.i64.wrap (x47 + 1) = x47 + 1] E (by kernel_rfl) (wrap_in g80) ?_
    clear E; intro a E
    refine wpList_nil ?_
    exact th_n ⟨m63, Nat.lt_succ_self _, f78, x47 + 1, E.pick _ ⟨rfl, rfl, rfl, rfl, rfl, rfl, trivial⟩, H.sel [0, 1, 2, 3, 4] rfl, hP⟩
   replace E := E_; clear E_
   have h81 : ¬ ((List.getD aAccept (Int.toNat x47) false) = true) := (ne_true_of_eq_false hb_)
   clear hb_; replace hP := ite_f h81 hP
   refine c_false E rfl ?_
   refine wp_skip ?_
   refine bl_n ?_
   refine th_n ?_
   refine wp_region_lit ?_
   obtain ⟨g82, hP⟩ := ask_inv hP
   refine vr tbok 2 [.int .i64 (x47 + 1)] [(3, .pointer (some ⟨g17, 0, none⟩)), (9, .int .i64 r22.2), (10, .float .f64 s46), (20, .slice (some ⟨b72, 0, none⟩) (List.length r22.1) c32), (21, .int .i64 (((List.length r22.1) : Nat) : Int)), (22, .int .i64 (x47 + 1))] [IntKind.i64.wrap (x47 + 1) = x47 + 1] E (by kernel_rfl) (wrap_in g82) ?_
   clear E; intro a E
   refine wpList_nil ?_
   exact th_n ⟨m63, Nat.lt_succ_self _, s46, x47 + 1, E.pick _ ⟨rfl, rfl, rfl, rfl, rfl, rfl, trivial⟩, H.sel [0, 1, 2, 3, 4] rfl, hP⟩
  replace E := E_; clear E_
  have h83 : ¬ (x47 < (((List.length r22.1) : Nat) : Int)) := of_decide_eq_false hb_
  clear hb_; replace hP := ite_f h83 hP
  refine c_false E rfl ?_
  refine wp_exit ?_
  refine th_exit ?_
  have hx_ := Option.some.inj hP
  refine th_exit (.inl ⟨0, rfl, ?_⟩)
  exact ⟨rfl, s46, E.pick _ ⟨rfl, rfl, trivial⟩, H.sel [] rfl, hx_.symm⟩
 clear E H hL65; intro i_ a w67 hM_
 obtain ⟨rfl, x69, E, H, hx_⟩ := hM_
 subst hx_; have hP := hK66; clear hK66
 refine bl_hit ?_
 refine th_n ?_
 refine wp_seq ?_
 refine wp_region_lit ?_
 refine vr tbok 4 [] [(6, .float .f64 x64), (7, .int .i64 r22.2)] [] E (by kernel_rfl) trivial ?_
 clear E; intro a E
 refine wpList_nil ?_
 refine th_n ?_
 refine wp_ret ?_
 obtain rfl := Option.some.inj hP
 refine ret2 E rfl rfl rfl ?_
 exact ⟨_, rfl, rfl, H.sel [] rfl⟩

/-! rejoinder/odds.Within -/
def odds_Within (N : Nat) (aProps : Int) (aAccept : List Bool) (aGuard : List Int) (aNodes : List Nd) (p : List Nat) (n : Int) : Option (Nat × Int) :=
  Option.bind (odds_asked N aProps aAccept aGuard aNodes p n) fun r22 =>
  if (r22 : Int) = 0 then
    Option.bind (odds_run N aProps aAccept aGuard aNodes p n true) fun r33 =>
    some (r33.2, 0)
  else
    some (0, r22)
set_option maxRecDepth 100000 in
set_option maxHeartbeats 4000000 in
theorem odds_Within_calls {N : Nat} {S Fa : Nat → Prop} {w0 : World} {r : Nat × Int} (A1 : Option Addr) (c2 : Nat) (A5 : Option Addr) (c6 : Nat) (A9 : Option Addr) (c10 : Nat) (A13 : Option Addr) (c14 : Nat) (aProps : Int) (aAccept : List Bool) (aGuard : List Int) (aNodes : List Nd) (p : List Nat) (n : Int) (hk3 : List.length aAccept ≤ c2) (hk7 : List.length aGuard ≤ c6) (hk11 : List.length aNodes ≤ c10) (hk15 : List.length p ≤ c14) (H : Hp S Fa w0 w0 [.ro false cBool A1 aAccept, .ro false (cInt .i64) A5 aGuard, .ro false cNode A9 aNodes, .ro false cFl A13 p]) (hP : odds_Within N aProps aAccept aGuard aNodes p n = some r) :
    Calls Try.prog 11 #[.agg #[.int .i64 aProps, .slice A1 (List.length aAccept) c2, .slice A5 (List.length aGuard) c6, .slice A9 (List.length aNodes) c10], .slice A13 (List.length p) c14, .int .i64 n] w0 fun e w' => ∃ v, e = .returned v ∧ v = .tuple #[.float .f64 r.1, .int .i64 r.2] ∧ Hp S Fa w0 w' [] := by
 refine enterV (n := 26) Try.func11 rfl rfl rfl ?_
 intro a E
 replace E := E.pick [(0, .agg #[.int .i64 aProps, .slice A1 (List.length aAccept) c2, .slice A5 (List.length aGuard) c6, .slice A9 (List.length aNodes) c10]), (1, .slice A13 (List.length p) c14), (2, .int .i64 n)] ⟨rfl, rfl, rfl, trivial⟩
 rw [odds_Within] at hP
 refine wp_seq ?_
 refine wp_region_lit ?_
 refine h_box H E rfl rfl rfl ?_
 intro w18 g17 a hc19 hg21 H_ E_
 replace E := E_ _ rfl; clear E_
 replace H := H_; clear H_; try dsimp only [setn, addE, goneL] at H
 refine vr tbok 2 [] [(1, .slice A13 (List.length p) c14), (2, .int .i64 n), (3, .pointer (some ⟨g17, 0, none⟩))] [] E (by kernel_rfl) trivial ?_
 clear E; intro a E
 refine wpList_nil ?_
 refine th_n ?_
 refine wp_seq ?_
 refine wp_seq ?_
 refine wp_region_lit ?_
 refine vr tbok 3 [.agg #[.int .i64 aProps, .slice A1 (List.length aAccept) c2, .slice A5 (List.length aGuard) c6, .slice A9 (List.length aNodes) c10]] [(1, .slice A13 (List.length p) c14), (2, .int .i64 n), (3, .pointer (some ⟨g17, 0, none⟩)), (11, .agg #[.int .i64 aProps, .slice A1 (List.length aAccept) c2, .slice A5 (List.length aGuard) c6, .slice A9 (List.length aNodes) c10]), (12, .slice A13 (List.length p) c14), (13, .int .i64 n)] [cellsAt w18 g17 (0) [.int .i64 aProps, .slice A1 (List.length aAccept) c2, .slice A5 (List.length aGuard) c6, .slice A9 (List.length aNodes) c10]] E (by kernel_rfl) ((H.box 4 rfl).sub 0 _ rfl) ?_
 clear E; intro a E
 obtain ⟨r22, h23, hP⟩ := bind_inv hP
 obtain ⟨Fa24, Hc25, hb26⟩ := H.call [] [(0, false), (1, false), (2, false), (3, false)] rfl rfl trivial
 refine e_call E rfl rfl Try.func21 rfl rfl rfl (odds_asked_calls A1 c2 A5 c6 A9 c10 A13 c14 aProps aAccept aGuard aNodes p n hk3 hk7 hk11 hk15 Hc25 h23) ?_
 rintro v27 w28 a ⟨rfl, HR29⟩ E_
 replace E := E_ _ rfl; clear E_
 obtain ⟨H_, hc30⟩ := hb26 _ _ HR29 rfl
 replace H := H_; clear H_; try dsimp only [setn, addE, goneL] at H
 refine vr tbok 1 [] [(1, .slice A13 (List.length p) c14), (2, .int .i64 n), (3, .pointer (some ⟨g17, 0, none⟩)), (8, .int .i64 r22)] [] E (by kernel_rfl) trivial ?_
 clear E; intro a E
 refine wpList_nil ?_
 refine th_n ?_
 refine wp_seq ?_
 refine wp_region_lit ?_
 refine vr tbok 2 [] [(1, .slice A13 (List.length p) c14), (2, .int .i64 n), (3, .pointer (some ⟨g17, 0, none⟩)), (8, .int .i64 r22), (16, .bool ((r22 : Int) != 0))] [] E (by kernel_rfl) trivial ?_
 clear E; intro a E
 refine wpList_nil ?_
 refine th_n ?_
 refine E.cases (t := 16) rfl (fun hb_ E_ => ?_) (fun hb_ E_ => ?_)
 ·
  replace E := E_; clear E_
  have h31 : ¬ ((r22 : Int) = 0) := bne_iff_ne.1 hb_
  clear hb_; replace hP := ite_f h31 hP
  refine c_true E rfl ?_
  refine wp_seq ?_
  refine wp_region_lit ?_
  refine vr tbok 3 [] [(6, .float .f64 0), (7, .int .i64 r22)] [] E (by kernel_rfl) trivial ?_
  clear E; intro a E
  refine wpList_nil ?_
  refine th_n ?_
  refine wp_ret ?_
  refine th_ret ?_
  obtain rfl := Option.some.inj hP
  refine ret2 E rfl rfl rfl ?_
  exact ⟨_, rfl, rfl, H.sel [] rfl⟩
 replace E := E_; clear E_
 have h32 : (r22 : Int) = 0 := bne_eq_false_iff_eq.1 hb_
 clear hb_; replace hP := ite_t h32 hP
 refine c_false E rfl ?_
 refine wp_skip ?_
 refine th_n ?_
 refine wp_seq ?_
 refine wp_region_lit ?_
 refine vr tbok 3 [.agg #[.int .i64 aProps, .slice A1 (List.length aAccept) c2, .slice A5 (List.length aGuard) c6, .slice A9 (List.length aNodes) c10]] [(19, .agg #[.int .i64 aProps, .slice A1 (List.length aAccept) c2, .slice A5 (List.length aGuard) c6, .slice A9 (List.length aNodes) c10]), (20, .slice A13 (List.length p) c14), (21, .int .i64 n)] [cellsAt w28 g17 (0) [.int .i64 aProps, .slice A1 (List.length aAccept) c2, .slice A5 (List.length aGuard) c6, .slice A9 (List.length aNodes) c10]] E (by kernel_rfl) ((H.box 4 rfl).sub 0 _ rfl) ?_
 clear E; intro a E
 obtain ⟨r33, h34, hP⟩ := bind_inv hP
 obtain ⟨Fa35, Hc36, hb37⟩ := H.call [] [(0, false), (1, false), (2, false), (3, false)] rfl rfl trivial
 refine e_call E rfl rfl Try.func22 rfl rfl rfl (odds_run_calls A1 c2 A5 c6 A9 c10 A13 c14 aProps aAccept aGuard aNodes p n true hk3 hk7 hk11 hk15 Hc36 h34) ?_
 rintro v38 w39 a ⟨A42, c43, rfl, HR40⟩ E_
 replace E := E_ _ rfl; clear E_
 obtain ⟨H_, hc41⟩ := hb37 _ _ HR40 rfl
 replace H := H_; clear H_; try dsimp only [setn, addE, goneL] at H
 refine vr tbok 5 [] [(10, .float .f64 r33.2)] [] E (by kernel_rfl) trivial ?_
 clear E; intro a E
 refine wpList_nil ?_
 refine th_n ?_
 refine wp_seq ?_
 refine wp_region_lit ?_
 refine vr tbok 3 [] [(6, .float .f64 r33.2), (7, .int .i64 0)] [] E (by kernel_rfl) trivial ?_
 clear E; intro a E
 refine wpList_nil ?_
 refine th_n ?_
 refine wp_ret ?_
 obtain rfl := Option.some.inj hP
 refine ret2 E rfl rfl rfl ?_
 exact ⟨_, rfl, rfl, H.sel [] rfl⟩

/-! rejoinder/rejoinderlaw27.awake -/
def law27_awake (N : Nat) : Option Bool :=
  Option.bind (law27_ending N) fun r1 =>
  Option.bind (odds_Accept N r1.1 r1.2.1 r1.2.2.1 r1.2.2.2 ([4598175219545276416] : List Nat) 2) fun r24 =>
  Option.bind (law27_ending N) fun r33 =>
  Option.bind (odds_Within N r33.1 r33.2.1 r33.2.2.1 r33.2.2.2 ([4598175219545276416] : List Nat) 2) fun r56 =>
  if (r24.2 : Int) = 0 then
    if (r56.2 : Int) = 0 then
      if (fEq r24.1 4598175219545276416) = true then
        some (fEq r56.1 4601552919265804288)
      else
        some false
    else
      some false
  else
    some false
set_option maxRecDepth 100000 in
set_option maxHeartbeats 4000000 in
theorem law27_awake_calls {N : Nat} {S Fa : Nat → Prop} {w0 : World} {r : Bool} (H : Hp S Fa w0 w0 []) (hP : law27_awake N  = some r) :
    Calls Try.prog 7 #[] w0 fun e w' => ∃ v, e = .returned v ∧ v = .bool r ∧ Hp S Fa w0 w' [] := by
 refine enterV (n := 31) Try.func7 rfl rfl rfl ?_
 intro a E
 replace E := E.pick [] trivial
 rw [law27_awake] at hP
 refine wp_seq ?_
 refine wp_region_lit ?_
 refine vr tbok 1 [] [] [] E (by kernel_rfl) trivial ?_
 clear E; intro a E
 refine wpList_nil ?_
 refine th_n ?_
 refine wp_seq ?_
 refine wp_region_lit ?_
 obtain ⟨r1, h2, hP⟩ := bind_inv hP
 obtain ⟨Fa3, Hc4, hb5⟩ := H.call [] [] rfl rfl trivial
 refine e_call E rfl rfl Try.func14 rfl rfl rfl (law27_ending_calls    Hc4 h2) ?_
 rintro v6 w7 a ⟨A10, c11, A13, c14, A16, c17, rfl, HR8⟩ E_
 replace E := E_ _ rfl; clear E_
 obtain ⟨H_, hc9⟩ := hb5 _ _ HR8 rfl
 replace H := H_; clear H_; try dsimp only [setn, addE, goneL] at H
 refine h_buildSlice (ps := [(0, .float .f64 4598175219545276416)]) (cs := [.float .f64 4598175219545276416]) H E rfl rfl tbok rfl rfl (by kernel_rfl) ?_
 intro w20 g19 a hc21 hg23 H_ E_
 replace E := E_ _ rfl; clear E_
 replace H := H_; clear H_; try dsimp only [setn, addE, goneL] at H
 replace H := H.boxRow cFl true ([4598175219545276416] : List Nat) 3 rfl (fun _ _ => ⟨_, _, rfl, rfl, rfl⟩) (Nat.le_of_ble_eq_true rfl); try dsimp only [setn, addE, goneL] at H
 obtain ⟨r24, h25, hP⟩ := bind_inv hP
 obtain ⟨Fa26, Hc27, hb28⟩ := H.call [] [(0, false), (1, false), (2, false), (3, false)] rfl rfl trivial
 refine e_call E rfl rfl Try.func16 rfl rfl rfl (odds_Accept_calls A10 c11 A13 c14 A16 c17 (some ⟨g19, 0, none⟩) 1 r1.1 r1.2.1 r1.2.2.1 r1.2.2.2 ([4598175219545276416] : List Nat) 2 (H.rcap 0 rfl) (H.rcap 1 rfl) (H.rcap 2 rfl) (H.rcapx 3 rfl) Hc27 h25) ?_
 rintro v29 w30 a ⟨rfl, HR31⟩ E_
 replace E := E_ _ rfl; clear E_
 obtain ⟨H_, hc32⟩ := hb28 _ _ HR31 rfl
 replace H := H_; clear H_; try dsimp only [setn, addE, goneL] at H
 refine vr tbok 5 [] [(1, .float .f64 r24.1), (2, .int .i64 r24.2)] [] E (by kernel_rfl) trivial ?_
 clear E; intro a E
 refine wpList_nil ?_
 refine th_n ?_
 refine wp_seq ?_
 refine wp_region_lit ?_
 obtain ⟨r33, h34, hP⟩ := bind_inv hP
 obtain ⟨Fa35, Hc36, hb37⟩ := H.call [] [] rfl rfl trivial
 refine e_call E rfl rfl Try.func14 rfl rfl rfl (law27_ending_calls    Hc36 h34) ?_
 rintro v38 w39 a ⟨A42, c43, A45, c46, A48, c49, rfl, HR40⟩ E_
 replace E := E_ _ rfl; clear E_
 obtain ⟨H_, hc41⟩ := hb37 _ _ HR40 rfl
 replace H := H_; clear H_; try dsimp only [setn, addE, goneL] at H
 refine h_buildSlice (ps := [(0, .float .f64 4598175219545276416)]) (cs := [.float .f64 4598175219545276416]) H E rfl rfl tbok rfl rfl (by kernel_rfl) ?_
 intro w52 g51 a hc53 hg55 H_ E_
 replace E := E_ _ rfl; clear E_
 replace H := H_; clear H_; try dsimp only [setn, addE, goneL] at H
 replace H := H.boxRow cFl true ([4598175219545276416] : List Nat) 7 rfl (fun _ _ => ⟨_, _, rfl, rfl, rfl⟩) (Nat.le_of_ble_eq_true rfl); try dsimp only [setn, addE, goneL] at H
 obtain ⟨r56, h57, hP⟩ := bind_inv hP
 obtain ⟨Fa58, Hc59, hb60⟩ := H.call [] [(4, false), (5, false), (6, false), (7, false)] rfl rfl trivial
 refine e_call E rfl rfl Try.func11 rfl rfl rfl (odds_Within_calls A42 c43 A45 c46 A48 c49 (some ⟨g51, 0, none⟩) 1 r33.1 r33.2.1 r33.2.2.1 r33.2.2.2 ([4598175219545276416] : List Nat) 2 (H.rcap 4 rfl) (H.rcap 5 rfl) (H.rcap 6 rfl) (H.rcapx 7 rfl) Hc59 h57) ?_
 rintro v61 w62 a ⟨rfl, HR63⟩ E_
 replace E := E_ _ rfl; clear E_
 obtain ⟨H_, hc64⟩ := hb60 _ _ HR63 rfl
 replace H := H_; clear H_; try dsimp only [setn, addE, goneL] at H
 refine vr tbok 5 [] [(1, .float .f64 r24.1), (2, .int .i64 r24.2), (3, .float .f64 r56.1), (4, .int .i64 r56.2)] [] E (by kernel_rfl) trivial ?_
 clear E; intro a E
 refine wpList_nil ?_
 refine th_n ?_
 refine wp_seq ?_
 refine wp_region_lit ?_
 refine vr tbok 3 [] [(1, .float .f64 r24.1), (3, .float .f64 r56.1), (4, .int .i64 r56.2), (19, .bool ((r24.2 : Int) == 0))] [] E (by kernel_rfl) trivial ?_
 clear E; intro a E
 refine E.cases (t := 19) rfl (fun hb_ E_ => ?_) (fun hb_ E_ => ?_)
 ·
  replace E := E_; clear E_
  have h65 : (r24.2 : Int) = 0 := eq_of_beq hb_
  clear hb_; replace hP := ite_t h65 hP
  refine vr tbok 4 [] [(1, .float .f64 r24.1), (3, .float .f64 r56.1), (23, .bool ((r56.2 : Int) == 0))] [] E (by kernel_rfl) trivial ?_
  clear E; intro a E
  refine E.cases (t := 23) rfl (fun hb_ E_ => ?_) (fun hb_ E_ => ?_)
  ·
   replace E := E_; clear E_
   have h66 : (r56.2 : Int) = 0 := eq_of_beq hb_
   clear hb_; replace hP := ite_t h66 hP
   refine vr tbok 4 [] [(3, .float .f64 r56.1), (27, .bool (fEq r24.1 4598175219545276416))] [] E (by kernel_rfl) trivial ?_
   clear E; intro a E
   refine E.cases (t := 27) rfl (fun hb_ E_ => ?_) (fun hb_ E_ => ?_)
   ·
    replace E := E_; clear E_
    have h67 : (fEq r24.1 4598175219545276416) = true := hb_
    clear hb_; replace hP := ite_t h67 hP
    refine vr tbok 4 [] [(0, .bool (fEq r56.1 4601552919265804288))] [] E (by kernel_rfl) trivial ?_
    clear E; intro a E
    refine wpList_nil ?_
    refine th_n ?_
    refine wp_ret ?_
    obtain rfl := Option.some.inj hP
    refine ret1 E rfl rfl ?_
    exact ⟨_, rfl, rfl, H.sel [] rfl⟩
   replace E := E_; clear E_
   have h68 : ¬ ((fEq r24.1 4598175219545276416) = true) := (ne_true_of_eq_false hb_)
   clear hb_; replace hP := ite_f h68 hP
   refine vr tbok 4 [] [(0, .bool false)] [] E (by kernel_rfl) trivial ?_
   clear E; intro a E
   refine wpList_nil ?_
   refine th_n ?_
   refine wp_ret ?_
   obtain rfl := Option.some.inj hP
   refine ret1 E rfl rfl ?_
   exact ⟨_, rfl, rfl, H.sel [] rfl⟩
  replace E := E_; clear E_
  have h69 : ¬ ((r56.2 : Int) = 0) := ne_of_beq_false hb_
  clear hb_; replace hP := ite_f h69 hP
  refine vr tbok 8 [] [(0, .bool false)] [] E (by kernel_rfl) trivial ?_
  clear E; intro a E
  refine wpList_nil ?_
  refine th_n ?_
  refine wp_ret ?_
  obtain rfl := Option.some.inj hP
  refine ret1 E rfl rfl ?_
  exact ⟨_, rfl, rfl, H.sel [] rfl⟩
 replace E := E_; clear E_
 have h70 : ¬ ((r24.2 : Int) = 0) := ne_of_beq_false hb_
 clear hb_; replace hP := ite_f h70 hP
 refine vr tbok 12 [] [(0, .bool false)] [] E (by kernel_rfl) trivial ?_
 clear E; intro a E
 refine wpList_nil ?_
 refine th_n ?_
 refine wp_ret ?_
 obtain rfl := Option.some.inj hP
 refine ret1 E rfl rfl ?_
 exact ⟨_, rfl, rfl, H.sel [] rfl⟩

/-! rejoinder/rejoinderlaw16.Small -/
def law16_Small (N : Nat) (aProps : Int) (aAccept : List Bool) (aGuard : List Int) (aNodes : List Nd) : Option Bool :=
  if (((List.length aAccept) : Nat) : Int) ≤ 24 then
    if aProps ≤ 4 then
      if (((List.length aNodes) : Nat) : Int) ≤ 400 then
        some (decide ((((List.length aGuard) : Nat) : Int) ≤ 300))
      else
        some false
    else
      some false
  else
    some false
set_option maxRecDepth 100000 in
set_option maxHeartbeats 4000000 in
theorem law16_Small_calls {N : Nat} {S Fa : Nat → Prop} {w0 : World} {r : Bool} (A1 : Option Addr) (c2 : Nat) (A5 : Option Addr) (c6 : Nat) (A9 : Option Addr) (c10 : Nat) (aProps : Int) (aAccept : List Bool) (aGuard : List Int) (aNodes : List Nd) (hk3 : List.length aAccept ≤ c2) (hk7 : List.length aGuard ≤ c6) (hk11 : List.length aNodes ≤ c10) (H : Hp S Fa w0 w0 [.ro false cBool A1 aAccept, .ro false (cInt .i64) A5 aGuard, .ro false cNode A9 aNodes]) (hP : law16_Small N aProps aAccept aGuard aNodes = some r) :
    Calls Try.prog 8 #[.agg #[.int .i64 aProps, .slice A1 (List.length aAccept) c2, .slice A5 (List.length aGuard) c6, .slice A9 (List.length aNodes) c10]] w0 fun e w' => ∃ v, e = .returned v ∧ v = .bool r ∧ Hp S Fa w0 w' [] := by
 refine enterV (n := 24) Try.func8 rfl rfl rfl ?_
 intro a E
 replace E := E.pick [(0, .agg #[.int .i64 aProps, .slice A1 (List.length aAccept) c2, .slice A5 (List.length aGuard) c6, .slice A9 (List.length aNodes) c10])] ⟨rfl, trivial⟩
 rw [law16_Small] at hP
 refine wp_seq ?_
 refine wp_region_lit ?_
 refine h_box H E rfl rfl rfl ?_
 intro w14 g13 a hc15 hg17 H_ E_
 replace E := E_ _ rfl; clear E_
 replace H := H_; clear H_; try dsimp only [setn, addE, goneL] at H
 refine vr tbok 1 [] [(1, .pointer (some ⟨g13, 0, none⟩))] [] E (by kernel_rfl) trivial ?_
 clear E; intro a E
 refine wpList_nil ?_
 refine th_n ?_
 refine wp_seq ?_
 refine wp_region_lit ?_
 refine vr tbok 5 [.slice A1 (List.length aAccept) c2] [(1, .pointer (some ⟨g13, 0, none⟩)), (7, .bool (decide ((((List.length aAccept) : Nat) : Int) ≤ 24)))] [World.cell? w14 ⟨g13, 1, none⟩ = some (.slice A1 (List.length aAccept) c2)] E (by kernel_rfl) ((H.box 3 rfl).cell (j := 1) rfl) ?_
 clear E; intro a E
 refine E.cases (t := 7) rfl (fun hb_ E_ => ?_) (fun hb_ E_ => ?_)
 ·
  replace E := E_; clear E_
  have h18 : (((List.length aAccept) : Nat) : Int) ≤ 24 := of_decide_eq_true hb_
  clear hb_; replace hP := ite_t h18 hP
  refine vr tbok 5 [.int .i64 aProps] [(1, .pointer (some ⟨g13, 0, none⟩)), (12, .bool (decide (aProps ≤ 4)))] [World.cell? w14 ⟨g13, 0, none⟩ = some (.int .i64 aProps)] E (by kernel_rfl) ((H.box 3 rfl).cell (j := 0) rfl) ?_
  clear E; intro a E
  refine E.cases (t := 12) rfl (fun hb_ E_ => ?_) (fun hb_ E_ => ?_)
  ·
   replace E := E_; clear E_
   have h19 : aProps ≤ 4 := of_decide_eq_true hb_
   clear hb_; replace hP := ite_t h19 hP
   refine vr tbok 6 [.slice A9 (List.length aNodes) c10] [(1, .pointer (some ⟨g13, 0, none⟩)), (18, .bool (decide ((((List.length aNodes) : Nat) : Int) ≤ 400)))] [World.cell? w14 ⟨g13, 3, none⟩ = some (.slice A9 (List.length aNodes) c10)] E (by kernel_rfl) ((H.box 3 rfl).cell (j := 3) rfl) ?_
   clear E; intro a E
   refine E.cases (t := 18) rfl (fun hb_ E_ => ?_) (fun hb_ E_ => ?_)
   ·
    replace E := E_; clear E_
    have h20 : (((List.length aNodes) : Nat) : Int) ≤ 400 := of_decide_eq_true hb_
    clear hb_; replace hP := ite_t h20 hP
    refine vr tbok 6 [.slice A5 (List.length aGuard) c6] [(2, .bool (decide ((((List.length aGuard) : Nat) : Int) ≤ 300)))] [World.cell? w14 ⟨g13, 2, none⟩ = some (.slice A5 (List.length aGuard) c6)] E (by kernel_rfl) ((H.box 3 rfl).cell (j := 2) rfl) ?_
    clear E; intro a E
    refine wpList_nil ?_
    refine th_n ?_
    refine wp_ret ?_
    obtain rfl := Option.some.inj hP
    refine ret1 E rfl rfl ?_
    exact ⟨_, rfl, rfl, H.sel [] rfl⟩
   replace E := E_; clear E_
   have h21 : ¬ ((((List.length aNodes) : Nat) : Int) ≤ 400) := of_decide_eq_false hb_
   clear hb_; replace hP := ite_f h21 hP
   refine vr tbok 6 [] [(2, .bool false)] [] E (by kernel_rfl) trivial ?_
   clear E; intro a E
   refine wpList_nil ?_
   refine th_n ?_
   refine wp_ret ?_
   obtain rfl := Option.some.inj hP
   refine ret1 E rfl rfl ?_
   exact ⟨_, rfl, rfl, H.sel [] rfl⟩
  replace E := E_; clear E_
  have h22 : ¬ (aProps ≤ 4) := of_decide_eq_false hb_
  clear hb_; replace hP := ite_f h22 hP
  refine vr tbok 12 [] [(2, .bool false)] [] E (by kernel_rfl) trivial ?_
  clear E; intro a E
  refine wpList_nil ?_
  refine th_n ?_
  refine wp_ret ?_
  obtain rfl := Option.some.inj hP
  refine ret1 E rfl rfl ?_
  exact ⟨_, rfl, rfl, H.sel [] rfl⟩
 replace E := E_; clear E_
 have h23 : ¬ ((((List.length aAccept) : Nat) : Int) ≤ 24) := of_decide_eq_false hb_
 clear hb_; replace hP := ite_f h23 hP
 refine vr tbok 17 [] [(2, .bool false)] [] E (by kernel_rfl) trivial ?_
 clear E; intro a E
 refine wpList_nil ?_
 refine th_n ?_
 refine wp_ret ?_
 obtain rfl := Option.some.inj hP
 refine ret1 E rfl rfl ?_
 exact ⟨_, rfl, rfl, H.sel [] rfl⟩

/-! rejoinder/rejoinderkit.Pick -/
def kit_Pick (N : Nat) (x : Int) (n : Int) : Option Int :=
  if n < 1 then
    some 0
  else
    ask (n ≠ 0) <|
    if (Int.tmod x n) < 0 then
      ask (in64 ((Int.tmod x n) + n)) <|
      some ((Int.tmod x n) + n)
    else
      some (Int.tmod x n)
set_option maxRecDepth 100000 in
set_option maxHeartbeats 4000000 in
theorem kit_Pick_calls {N : Nat} {S Fa : Nat → Prop} {w0 : World} {r : Int} (x : Int) (n : Int) (H : Hp S Fa w0 w0 []) (hP : kit_Pick N x n = some r) :
    Calls Try.prog 9 #[.int .i64 x, .int .i64 n] w0 fun e w' => ∃ v, e = .returned v ∧ v = .int .i64 r ∧ Hp S Fa w0 w' [] := by
 refine enterV (n := 16) Try.func9 rfl rfl rfl ?_
 intro a E
 replace E := E.pick [(0, .int .i64 x), (1, .int .i64 n)] ⟨rfl, rfl, trivial⟩
 rw [kit_Pick] at hP
 refine wp_seq ?_
 refine wp_region_lit ?_
 refine vr tbok 1 [] [(0, .int .i64 x), (1, .int .i64 n)] [] E (by kernel_rfl) trivial ?_
 clear E; intro a E
 refine wpList_nil ?_
 refine th_n ?_
 refine wp_seq ?_
 refine wp_seq ?_
 refine wp_region_lit ?_
 refine vr tbok 2 [] [(0, .int .i64 x), (1, .int .i64 n), (6, .bool (decide (n < 1)))] [] E (by kernel_rfl) trivial ?_
 clear E; intro a E
 refine wpList_nil ?_
 refine th_n ?_
 refine E.cases (t := 6) rfl (fun hb_ E_ => ?_) (fun hb_ E_ => ?_)
 ·
  replace E := E_; clear E_
  have h1 : n < 1 := of_decide_eq_true hb_
  clear hb_; replace hP := ite_t h1 hP
  refine c_true E rfl ?_
  refine wp_seq ?_
  refine wp_region_lit ?_
  refine vr tbok 1 [] [(4, .int .i64 0)] [] E (by kernel_rfl) trivial ?_
  clear E; intro a E
  refine wpList_nil ?_
  refine th_n ?_
  refine wp_ret ?_
  refine th_ret ?_
  obtain rfl := Option.some.inj hP
  refine ret1 E rfl rfl ?_
  exact ⟨_, rfl, rfl, H.sel [] rfl⟩
 replace E := E_; clear E_
 have h2 : ¬ (n < 1) := of_decide_eq_false hb_
 clear hb_; replace hP := ite_f h2 hP
 refine c_false E rfl ?_
 refine wp_skip ?_
 refine th_n ?_
 refine wp_seq ?_
 refine wp_region_lit ?_
 obtain ⟨g3, hP⟩ := ask_inv hP
 refine vr tbok 4 [.int .i64 (Int.tmod x n)] [(0, .int .i64 (Int.tmod x n)), (1, .int .i64 n)] [(n : Int) ≠ 0 ∧ Int.tmod x n = Int.tmod x n] E (by kernel_rfl) (⟨g3, rfl⟩) ?_
 clear E; intro a E
 refine wpList_nil ?_
 refine th_n ?_
 refine wp_seq ?_
 refine wp_seq ?_
 refine wp_region_lit ?_
 refine vr tbok 2 [] [(0, .int .i64 (Int.tmod x n)), (1, .int .i64 n), (11, .bool (decide ((Int.tmod x n) < 0)))] [] E (by kernel_rfl) trivial ?_
 clear E; intro a E
 refine wpList_nil ?_
 refine th_n ?_
 refine E.cases (t := 11) rfl (fun hb_ E_ => ?_) (fun hb_ E_ => ?_)
 ·
  replace E := E_; clear E_
  have h4 : (Int.tmod x n) < 0 := of_decide_eq_true hb_
  clear hb_; replace hP := ite_t h4 hP
  refine c_true E rfl ?_
  refine wp_region_lit ?_
  obtain ⟨g5, hP⟩ := ask_inv hP
  refine vr tbok 4 [.int .i64 ((Int.tmod x n) + n)] [(0, .int .i64 ((Int.tmod x n) + n))] [IntKind.i64.wrap ((Int.tmod x n) + n) = (Int.tmod x n) + n] E (by kernel_rfl) (wrap_in g5) ?_
  clear E; intro a E
  refine wpList_nil ?_
  refine th_n ?_
  refine wp_seq ?_
  refine wp_region_lit ?_
  refine vr tbok 2 [] [(4, .int .i64 ((Int.tmod x n) + n))] [] E (by kernel_rfl) trivial ?_
  clear E; intro a E
  refine wpList_nil ?_
  refine th_n ?_
  refine wp_ret ?_
  obtain rfl := Option.some.inj hP
  refine ret1 E rfl rfl ?_
  exact ⟨_, rfl, rfl, H.sel [] rfl⟩
 replace E := E_; clear E_
 have h6 : ¬ ((Int.tmod x n) < 0) := of_decide_eq_false hb_
 clear hb_; replace hP := ite_f h6 hP
 refine c_false E rfl ?_
 refine wp_skip ?_
 refine th_n ?_
 refine wp_seq ?_
 refine wp_region_lit ?_
 refine vr tbok 2 [] [(4, .int .i64 (Int.tmod x n))] [] E (by kernel_rfl) trivial ?_
 clear E; intro a E
 refine wpList_nil ?_
 refine th_n ?_
 refine wp_ret ?_
 obtain rfl := Option.some.inj hP
 refine ret1 E rfl rfl ?_
 exact ⟨_, rfl, rfl, H.sel [] rfl⟩

/-! rejoinder/lang.table -/
def lang_table_l0 (N : Nat) (aProps : Int) (aGuard : List Int) (aNodes : List Nd) : Nat → (List (List Int)) → Int → Option ((List (List Int)) ⊕ ((List (List Int)) × Int))
  | 0, _, _ => none
  | m104 + 1, out63, x66 =>
    if x66 < (((List.length aGuard) : Nat) : Int) then
      ask (idx x66 (List.length aGuard)) <|
      Option.bind (guard_Table N aProps aNodes (List.getD aGuard (Int.toNat x66) 0)) fun r116 =>
      if (r116.2 : Int) = 0 then
        ask (List.length out63 + List.length ([r116.1] : List (List Int)) ≤ 1000000000) <|
        ask (in64 (x66 + 1)) <|
        lang_table_l0 N aProps aGuard aNodes m104 (out63 ++ ([r116.1] : List (List Int))) (x66 + 1)
      else
        some (Sum.inr ([], r116.2))
    else
      some (Sum.inl out63)
def lang_table (N : Nat) (aProps : Int) (aAccept : List Bool) (aGuard : List Int) (aNodes : List Nd) : Option ((List (List Int)) × Int) :=
  Option.bind (guard_Check N aProps aAccept aGuard aNodes) fun r18 =>
  if (r18 : Int) = 0 then
    Option.bind (lang_table_l0 N aProps aGuard aNodes N [] 0) fun x105 =>
    Sum.elim (fun x111 =>
      some (x111, 0))
     (fun x145 =>
      some x145) x105
  else
    some ([], r18)
set_option maxRecDepth 100000 in
set_option maxHeartbeats 4000000 in
theorem lang_table_calls {N : Nat} {S Fa : Nat → Prop} {w0 : World} {r : (List (List Int)) × Int} (A1 : Option Addr) (c2 : Nat) (A5 : Option Addr) (c6 : Nat) (A9 : Option Addr) (c10 : Nat) (aProps : Int) (aAccept : List Bool) (aGuard : List Int) (aNodes : List Nd) (hk3 : List.length aAccept ≤ c2) (hk7 : List.length aGuard ≤ c6) (hk11 : List.length aNodes ≤ c10) (H : Hp S Fa w0 w0 [.ro false cBool A1 aAccept, .ro false (cInt .i64) A5 aGuard, .ro false cNode A9 aNodes]) (hP : lang_table N aProps aAccept aGuard aNodes = some r) :
    Calls Try.prog 29 #[.agg #[.int .i64 aProps, .slice A1 (List.length aAccept) c2, .slice A5 (List.length aGuard) c6, .slice A9 (List.length aNodes) c10]] w0 fun e w' => ∃ v, e = .returned v ∧ ∃ (A146 : Option Addr) (c147 : Nat), v = .tuple #[.slice A146 (List.length r.1) c147, .int .i64 r.2] ∧ Hp S Fa w0 w' [.row true (cSl (cInt .i64)) 23 A146 c147 r.1] := by
 refine enterV (n := 40) Try.func29 rfl rfl rfl ?_
 intro a E
 replace E := E.pick [(0, .agg #[.int .i64 aProps, .slice A1 (List.length aAccept) c2, .slice A5 (List.length aGuard) c6, .slice A9 (List.length aNodes) c10])] ⟨rfl, trivial⟩
 rw [lang_table] at hP
 refine wp_seq ?_
 refine wp_region_lit ?_
 refine h_box H E rfl rfl rfl ?_
 intro w14 g13 a hc15 hg17 H_ E_
 replace E := E_ _ rfl; clear E_
 replace H := H_; clear H_; try dsimp only [setn, addE, goneL] at H
 refine vr tbok 2 [] [(1, .pointer (some ⟨g13, 0, none⟩))] [] E (by kernel_rfl) trivial ?_
 clear E; intro a E
 refine wpList_nil ?_
 refine th_n ?_
 refine wp_seq ?_
 refine wp_seq ?_
 refine wp_region_lit ?_
 refine vr tbok 1 [.agg #[.int .i64 aProps, .slice A1 (List.length aAccept) c2, .slice A5 (List.length aGuard) c6, .slice A9 (List.length aNodes) c10]] [(1, .pointer (some ⟨g13, 0, none⟩)), (10, .agg #[.int .i64 aProps, .slice A1 (List.length aAccept) c2, .slice A5 (List.length aGuard) c6, .slice A9 (List.length aNodes) c10])] [cellsAt w14 g13 (0) [.int .i64 aProps, .slice A1 (List.length aAccept) c2, .slice A5 (List.length aGuard) c6, .slice A9 (List.length aNodes) c10]] E (by kernel_rfl) ((H.box 3 rfl).sub 0 _ rfl) ?_
 clear E; intro a E
 obtain ⟨r18, h19, hP⟩ := bind_inv hP
 obtain ⟨Fa20, Hc21, hb22⟩ := H.call [] [(0, false), (1, false), (2, false)] rfl rfl trivial
 refine e_call E rfl rfl Try.func26 rfl rfl rfl (guard_Check_calls A1 c2 A5 c6 A9 c10 aProps aAccept aGuard aNodes hk3 hk7 hk11 Hc21 h19) ?_
 rintro v23 w24 a ⟨rfl, HR25⟩ E_
 replace E := E_ _ rfl; clear E_
 obtain ⟨H_, hc26⟩ := hb22 _ _ HR25 rfl
 replace H := H_; clear H_; try dsimp only [setn, addE, goneL] at H
 refine vr tbok 1 [] [(1, .pointer (some ⟨g13, 0, none⟩)), (4, .int .i64 r18)] [] E (by kernel_rfl) trivial ?_
 clear E; intro a E
 refine wpList_nil ?_
 refine th_n ?_
 refine wp_seq ?_
 refine wp_region_lit ?_
 refine vr tbok 2 [] [(1, .pointer (some ⟨g13, 0, none⟩)), (4, .int .i64 r18), (13, .bool ((r18 : Int) != 0))] [] E (by kernel_rfl) trivial ?_
 clear E; intro a E
 refine wpList_nil ?_
 refine th_n ?_
 refine E.cases (t := 13) rfl (fun hb_ E_ => ?_) (fun hb_ E_ => ?_)
 ·
  replace E := E_; clear E_
  have h27 : ¬ ((r18 : Int) = 0) := bne_iff_ne.1 hb_
  clear hb_; replace hP := ite_f h27 hP
  refine c_true E rfl ?_
  refine wp_seq ?_
  refine wp_region_lit ?_
  refine vr tbok 3 [] [(2, .slice none 0 0), (3, .int .i64 r18)] [] E (by kernel_rfl) trivial ?_
  clear E; intro a E
  refine wpList_nil ?_
  refine th_n ?_
  refine wp_ret ?_
  refine th_ret ?_
  replace H := H.nilrow (cSl (cInt .i64)) 23; try dsimp only [setn, addE, goneL] at H
  obtain rfl := Option.some.inj hP
  refine ret2 E rfl rfl rfl ?_
  exact ⟨_, rfl, none, 0, rfl, H.sel [4] rfl⟩
 replace E := E_; clear E_
 have h29 : (r18 : Int) = 0 := bne_eq_false_iff_eq.1 hb_
 clear hb_; replace hP := ite_t h29 hP
 refine c_false E rfl ?_
 refine wp_skip ?_
 refine th_n ?_
 refine wp_seq ?_
 refine wp_region_lit ?_
 refine vr tbok 1 [] [(1, .pointer (some ⟨g13, 0, none⟩)), (5, .slice none 0 0)] [] E (by kernel_rfl) trivial ?_
 clear E; intro a E
 refine wpList_nil ?_
 refine th_n ?_
 refine wp_seq ?_
 refine wp_seq ?_
 refine wp_region_lit ?_
 refine vr tbok 4 [.slice A5 (List.length aGuard) c6] [(1, .pointer (some ⟨g13, 0, none⟩)), (5, .slice none 0 0), (16, .slice A5 (List.length aGuard) c6), (17, .int .i64 (((List.length aGuard) : Nat) : Int)), (18, .int .i64 0)] [World.cell? w24 ⟨g13, 2, none⟩ = some (.slice A5 (List.length aGuard) c6)] E (by kernel_rfl) ((H.box 3 rfl).cell (j := 2) rfl) ?_
 clear E; intro a E
 refine wpList_nil ?_
 refine th_n ?_
 refine wp_block ?_
 obtain ⟨x105, hL106, hK107⟩ := bind_inv hP
 clear hP
 replace H := H.nilrow (cSl (cInt .i64)) 23; try dsimp only [setn, addE, goneL] at H
 refine loop_cut (fun i_ a w_ => (i_ = 0 ∧ ∃ (x111 : List (List Int)), ∃ (A102 : Option Addr) (c103 : Nat), Fr a 40 [(5, .slice A102 (List.length x111) c103)] ∧ Hp S Fa w0 w_ [.row true (cSl (cInt .i64)) 23 A102 c103 x111] ∧ x105 = Sum.inl x111)) ?_ ?_
 ·
  refine loopV (fun m110 a w109 => ∃ (out63 : List (List Int)) (x66 : Int), ∃ (A64 : Option Addr) (c65 : Nat), Fr a 40 [(1, .pointer (some ⟨g13, 0, none⟩)), (5, .slice A64 (List.length out63) c65), (16, .slice A5 (List.length aGuard) c6), (17, .int .i64 (((List.length aGuard) : Nat) : Int)), (18, .int .i64 x66)] ∧ Hp S Fa w0 w109 [.ro false cBool A1 aAccept, .ro false (cInt .i64) A5 aGuard, .ro false cNode A9 aNodes, .box g13 26 [.int .i64 aProps, .slice A1 (List.length aAccept) c2, .slice A5 (List.length aGuard) c6, .slice A9 (List.length aNodes) c10], .row true (cSl (cInt .i64)) 23 A64 c65 out63] ∧ lang_table_l0 N aProps aGuard aNodes m110 out63 x66 = some x105) N ?_ ?_
  ·
   exact ⟨[], 0, none, 0, E.pick _ ⟨rfl, rfl, rfl, rfl, rfl, trivial⟩, H.sel [0, 1, 2, 3, 4] rfl, hL106⟩
  clear E H hL106; intro m110 a w109 hI_
  obtain ⟨out63, x66, A64, c65, E, H, hP⟩ := hI_
  obtain ⟨m104, rfl⟩ : ∃ q_, m110 = q_ + 1 := by cases m110 with | zero => rw [lang_table_l0] at hP; cases hP | succ q_ => exact ⟨q_, rfl⟩
  rw [lang_table_l0] at hP
  refine wp_seq ?_
  refine wp_region_lit ?_
  refine vr tbok 1 [] [(1, .pointer (some ⟨g13, 0, none⟩)), (5, .slice A64 (List.length out63) c65), (16, .slice A5 (List.length aGuard) c6), (17, .int .i64 (((List.length aGuard) : Nat) : Int)), (18, .int .i64 x66), (19, .bool (decide (x66 < (((List.length aGuard) : Nat) : Int))))] [] E (by kernel_rfl) trivial ?_
  clear E; intro a E
  refine wpList_nil ?_
  refine th_n ?_
  refine wp_seq ?_
  refine E.cases (t := 19) rfl (fun hb_ E_ => ?_) (fun hb_ E_ => ?_)
  ·
   replace E := E_; clear E_
   have h112 : x66 < (((List.length aGuard) : Nat) : Int) := of_decide_eq_true hb_
   clear hb_; replace hP := ite_t h112 hP
   refine c_true E rfl ?_
   refine wp_skip ?_
   refine th_n ?_
   refine wp_seq ?_
   refine wp_block ?_
   refine wp_seq ?_
   refine wp_region_lit ?_
   obtain ⟨g113, hP⟩ := ask_inv hP
   obtain ⟨b114, o115, e_b114⟩ := (H.rd 1 rds_ro).addr (idx_pos g113)
   subst e_b114
   refine vr tbok 3 [.int .i64 (List.getD aGuard (Int.toNat x66) 0)] [(1, .pointer (some ⟨g13, 0, none⟩)), (5, .slice A64 (List.length out63) c65), (7, .int .i64 (List.getD aGuard (Int.toNat x66) 0)), (16, .slice (some ⟨b114, o115, none⟩) (List.length aGuard) c6), (17, .int .i64 (((List.length aGuard) : Nat) : Int)), (18, .int .i64 x66)] [0 ≤ x66 ∧ x66 < (((List.length aGuard) : Nat) : Int), World.cell? w109 ⟨b114, o115 + (Int.toNat x66) * 1, none⟩ = some (.int .i64 (List.getD aGuard (Int.toNat x66) 0))] E (by kernel_rfl) ⟨g113, Rds.at1 (H.rd 1 rds_ro) 0 g113⟩ ?_
   clear E; intro a E
   refine wpList_nil ?_
   refine th_n ?_
   refine wp_seq ?_
   refine wp_region_lit ?_
   refine vr tbok 5 [.int .i64 aProps, .slice A9 (List.length aNodes) c10] [(1, .pointer (some ⟨g13, 0, none⟩)), (5, .slice A64 (List.length out63) c65), (16, .slice (some ⟨b114, o115, none⟩) (List.length aGuard) c6), (17, .int .i64 (((List.length aGuard) : Nat) : Int)), (18, .int .i64 x66), (24, .int .i64 aProps), (26, .slice A9 (List.length aNodes) c10), (27, .int .i64 (List.getD aGuard (Int.toNat x66) 0))] [World.cell? w109 ⟨g13, 0, none⟩ = some (.int .i64 aProps), World.cell? w109 ⟨g13, 3, none⟩ = some (.slice A9 (List.length aNodes) c10)] E (by kernel_rfl) ⟨(H.box 3 rfl).cell (j := 0) rfl, (H.box 3 rfl).cell (j := 3) rfl⟩ ?_
   clear E; intro a E
   obtain ⟨r116, h117, hP⟩ := bind_inv hP
   obtain ⟨Fa118, Hc119, hb120⟩ := H.call [] [(2, false)] rfl rfl trivial
   refine e_call E rfl rfl Try.func31 rfl rfl rfl (guard_Table_calls A9 c10 aProps aNodes (List.getD aGuard (Int.toNat x66) 0) hk11 Hc119 h117) ?_
   rintro v121 w122 a ⟨A125, c126, rfl, HR123⟩ E_
   replace E := E_ _ rfl; clear E_
   obtain ⟨H_, hc124⟩ := hb120 _ _ HR123 rfl
   replace H := H_; clear H_; try dsimp only [setn, addE, goneL] at H
   refine vr tbok 5 [] [(1, .pointer (some ⟨g13, 0, none⟩)), (5, .slice A64 (List.length out63) c65), (8, .slice A125 (List.length r116.1) c126), (9, .int .i64 r116.2), (16, .slice (some ⟨b114, o115, none⟩) (List.length aGuard) c6), (17, .int .i64 (((List.length aGuard) : Nat) : Int)), (18, .int .i64 x66)] [] E (by kernel_rfl) trivial ?_
   clear E; intro a E
   refine wpList_nil ?_
   refine th_n ?_
   refine wp_seq ?_
   refine wp_seq ?_
   refine wp_region_lit ?_
   refine vr tbok 2 [] [(1, .pointer (some ⟨g13, 0, none⟩)), (5, .slice A64 (List.length out63) c65), (8, .slice A125 (List.length r116.1) c126), (9, .int .i64 r116.2), (16, .slice (some ⟨b114, o115, none⟩) (List.length aGuard) c6), (17, .int .i64 (((List.length aGuard) : Nat) : Int)), (18, .int .i64 x66), (32, .bool ((r116.2 : Int) != 0))] [] E (by kernel_rfl) trivial ?_
   clear E; intro a E
   refine wpList_nil ?_
   refine th_n ?_
   refine E.cases (t := 32) rfl (fun hb_ E_ => ?_) (fun hb_ E_ => ?_)
   ·
    replace E := E_; clear E_
    have h128 : ¬ ((r116.2 : Int) = 0) := bne_iff_ne.1 hb_
    clear hb_; replace hP := ite_f h128 hP
    refine c_true E rfl ?_
    refine wp_seq ?_
    refine wp_region_lit ?_
    refine vr tbok 3 [] [(2, .slice none 0 0), (3, .int .i64 r116.2)] [] E (by kernel_rfl) trivial ?_
    clear E; intro a E
    refine wpList_nil ?_
    refine th_n ?_
    refine wp_ret ?_
    refine th_ret ?_
    refine bl_ret ?_
    refine th_ret ?_
    refine th_ret ?_
    refine .inr ⟨rfl, ?_⟩
    refine bl_ret ?_
    refine th_ret ?_
    replace H := H.nilrow (cSl (cInt .i64)) 23; try dsimp only [setn, addE, goneL] at H
    have hx_ := Option.some.inj hP; subst hx_
    have hP : some (([], r116.2)) = some r := hK107
    obtain rfl := Option.some.inj hP
    refine ret2 E rfl rfl rfl ?_
    exact ⟨_, rfl, none, 0, rfl, H.sel [6] rfl⟩
   replace E := E_; clear E_
   have h130 : (r116.2 : Int) = 0 := bne_eq_false_iff_eq.1 hb_
   clear hb_; replace hP := ite_t h130 hP
   refine c_false E rfl ?_
   refine wp_skip ?_
   refine th_n ?_
   refine wp_region_lit ?_
   refine vr tbok 2 [] [(1, .pointer (some ⟨g13, 0, none⟩)), (16, .slice (some ⟨b114, o115, none⟩) (List.length aGuard) c6), (17, .int .i64 (((List.length aGuard) : Nat) : Int)), (18, .int .i64 x66), (34, .slice A64 (List.length out63) c65), (35, .slice A125 (List.length r116.1) c126)] [] E (by kernel_rfl) trivial ?_
   clear E; intro a E
   refine h_buildSlice (ps := [(0, .slice A125 (List.length r116.1) c126)]) (cs := [.slice A125 (List.length r116.1) c126]) H E rfl rfl tbok rfl rfl (by kernel_rfl) ?_
   intro w132 g131 a hc133 hg135 H_ E_
   replace E := E_ _ rfl; clear E_
   replace H := H_; clear H_; try dsimp only [setn, addE, goneL] at H
   have hk136 := H.rcap 5 rfl
   replace H := H.frz 5 rfl; try dsimp only [setn, addE, goneL] at H
   obtain ⟨g137, hP⟩ := ask_inv hP
   refine h_append (cSl (cInt .i64)) (xs := out63) (ys := ([r116.1] : List (List Int))) ([] : List Int) H 4 rfl E rfl rfl tbok rfl rfl rfl rfl rfl (fun _ _ => kSl_nil) rfl rfl (fun _ HF_ => HF_.srcB 6 rfl ⟨_, _, rfl, ⟨_, _, rfl, hk136, (HF_.roC 5 rfl)⟩, rfl⟩) g137 ?_
   intro w138 A139 c140 a hc141 hA142 H_ E_
   replace E := E_ _ rfl; clear E_
   replace H := H_; clear H_; try dsimp only [setn, addE, goneL] at H
   refine vr tbok 1 [] [(1, .pointer (some ⟨g13, 0, none⟩)), (5, .slice A139 (List.length (out63 ++ ([r116.1] : List (List Int)))) c140), (16, .slice (some ⟨b114, o115, none⟩) (List.length aGuard) c6), (17, .int .i64 (((List.length aGuard) : Nat) : Int)), (18, .int .i64 x66)] [] E (by kernel_rfl) trivial ?_
   clear E; intro a E
   refine wpList_nil ?_
   refine bl_n ?_
   refine th_n ?_
   refine wp_region_lit ?_
   obtain ⟨g143, hP⟩ := ask_inv hP
   refine vr tbok 2 [.int .i64 (x66 + 1)] [(1, .pointer (some ⟨g13, 0, none⟩)), (5, .slice A139 (List.length (out63 ++ ([r116.1] : List (List Int)))) c140), (16, .slice (some ⟨b114, o115, none⟩) (List.length aGuard) c6), (17, .int .i64 (((List.length aGuard) : Nat) : Int)), (18, .int .i64 (x66 + 1))] [IntKind.i64.wrap (x66 + 1) = x66 + 1] E (by kernel_rfl) (wrap_in g143) ?_
   clear E; intro a E
   refine wpList_nil ?_
   exact th_n ⟨m104, Nat.lt_succ_self _, out63 ++ ([r116.1] : List (List Int)), x66 + 1, A139, c140, E.pick _ ⟨rfl, rfl, rfl, rfl, rfl, trivial⟩, H.sel [0, 1, 2, 3, 4] rfl, hP⟩
  replace E := E_; clear E_
  have h144 : ¬ (x66 < (((List.length aGuard) : Nat) : Int)) := of_decide_eq_false hb_
  clear hb_; replace hP := ite_f h144 hP
  refine c_false E rfl ?_
  refine wp_exit ?_
  refine th_exit ?_
  have hx_ := Option.some.inj hP
  refine th_exit (.inl ⟨0, rfl, ?_⟩)
  exact ⟨rfl, out63, A64, c65, E.pick _ ⟨rfl, trivial⟩, H.sel [4] rfl, hx_.symm⟩
 clear E H hL106; intro i_ a w109 hM_
 obtain ⟨rfl, x111, A102, c103, E, H, hx_⟩ := hM_
 subst hx_; have hP := elim_l hK107
 clear hK107
 refine bl_hit ?_
 refine th_n ?_
 refine wp_seq ?_
 refine wp_region_lit ?_
 refine vr tbok 3 [] [(2, .slice A102 (List.length x111) c103), (3, .int .i64 0)] [] E (by kernel_rfl) trivial ?_
 clear E; intro a E
 refine wpList_nil ?_
 refine th_n ?_
 refine wp_ret ?_
 obtain rfl := Option.some.inj hP
 refine ret2 E rfl rfl rfl ?_
 exact ⟨_, rfl, A102, c103, rfl, H.sel [0] rfl⟩

/-! (rejoinder/lang.count).add -/
def lang_count_add (N : Nat) (c : Int × Bool) (d : Int × Bool) : Option (Int × Bool) :=
  ask (0 ≤ c.1 ∧ 0 ≤ d.1 ∧ 0 ≤ (0 : Int) ∧ (0 : Int) ≤ 1) <|
  if c.2 = true then
    some ((c.1 + d.1 + (0 : Int)) % 18446744073709551616, true)
  else
    if d.2 = true then
      some ((c.1 + d.1 + (0 : Int)) % 18446744073709551616, true)
    else
      some ((c.1 + d.1 + (0 : Int)) % 18446744073709551616, ((c.1 + d.1 + (0 : Int)) / 18446744073709551616 : Int) == 1)
set_option maxRecDepth 100000 in
set_option maxHeartbeats 4000000 in
theorem lang_count_add_calls {N : Nat} {S Fa : Nat → Prop} {w0 : World} {r : Int × Bool} (c : Int × Bool) (d : Int × Bool) (H : Hp S Fa w0 w0 []) (hP : lang_count_add N c d = some r) :
    Calls Try.prog 35 #[.agg #[.int .u64 c.1, .bool c.2], .agg #[.int .u64 d.1, .bool d.2]] w0 fun e w' => ∃ v, e = .returned v ∧ v = .agg #[.int .u64 r.1, .bool r.2] ∧ Hp S Fa w0 w' [] := by
 refine enterV (n := 27) Try.func35 rfl rfl rfl ?_
 intro a E
 replace E := E.pick [(0, .agg #[.int .u64 c.1, .bool c.2]), (1, .agg #[.int .u64 d.1, .bool d.2])] ⟨rfl, rfl, trivial⟩
 rw [lang_count_add] at hP
 refine wp_seq ?_
 refine wp_region_lit ?_
 refine h_box H E rfl rfl rfl ?_
 intro w2 g1 a hc3 hg5 H_ E_
 replace E := E_ _ rfl; clear E_
 replace H := H_; clear H_; try dsimp only [setn, addE, goneL] at H
 refine h_box H E rfl rfl rfl ?_
 intro w7 g6 a hc8 hg10 H_ E_
 replace E := E_ _ rfl; clear E_
 replace H := H_; clear H_; try dsimp only [setn, addE, goneL] at H
 refine h_alloc H E rfl rfl tbok rfl ?_
 intro w12 g11 a hc13 hg15 H_ E_
 replace E := E_ _ rfl; clear E_
 replace H := H_; clear H_; try dsimp only [setn, addE, goneL] at H
 refine wpList_nil ?_
 refine th_n ?_
 refine wp_seq ?_
 refine wp_region_lit ?_
 refine vr tbok 4 [.int .u64 c.1, .int .u64 d.1] [(2, .pointer (some ⟨g1, 0, none⟩)), (3, .pointer (some ⟨g6, 0, none⟩)), (4, .pointer (some ⟨g11, 0, none⟩)), (9, .int .u64 c.1), (11, .int .u64 d.1)] [World.cell? w12 ⟨g1, 0, none⟩ = some (.int .u64 c.1), World.cell? w12 ⟨g6, 0, none⟩ = some (.int .u64 d.1)] E (by kernel_rfl) ⟨(H.box 0 rfl).cell (j := 0) rfl, (H.box 1 rfl).cell (j := 0) rfl⟩ ?_
 clear E; intro a E
 obtain ⟨g16, hP⟩ := ask_inv hP
 refine e_add64 (x := c.1) (y := d.1) (c := (0 : Int)) E rfl rfl Try.func36 rfl rfl (by kernel_rfl) (by kernel_rfl) rfl g16 rfl ?_
 clear E; intro a E
 refine vr tbok 5 [] [(2, .pointer (some ⟨g1, 0, none⟩)), (3, .pointer (some ⟨g6, 0, none⟩)), (4, .pointer (some ⟨g11, 0, none⟩)), (5, .int .u64 ((c.1 + d.1 + (0 : Int)) % 18446744073709551616)), (6, .int .u64 ((c.1 + d.1 + (0 : Int)) / 18446744073709551616))] [] E (by kernel_rfl) trivial ?_
 clear E; intro a E
 refine wpList_nil ?_
 refine th_n ?_
 refine wp_seq ?_
 refine wp_region_lit ?_
 refine vr tbok 4 [.bool c.2] [(3, .pointer (some ⟨g6, 0, none⟩)), (4, .pointer (some ⟨g11, 0, none⟩)), (6, .int .u64 ((c.1 + d.1 + (0 : Int)) / 18446744073709551616)), (15, .int .u64 ((c.1 + d.1 + (0 : Int)) % 18446744073709551616)), (18, .bool c.2)] [World.cell? w12 ⟨g1, 1, none⟩ = some (.bool c.2)] E (by kernel_rfl) ((H.box 0 rfl).cell (j := 1) rfl) ?_
 clear E; intro a E
 refine E.cases (t := 18) rfl (fun hb_ E_ => ?_) (fun hb_ E_ => ?_)
 ·
  replace E := E_; clear E_
  have h17 : c.2 = true := hb_
  clear hb_; replace hP := ite_t h17 hP
  refine vr tbok 7 [] [(4, .pointer (some ⟨g11, 0, none⟩)), (15, .int .u64 ((c.1 + d.1 + (0 : Int)) % 18446744073709551616)), (25, .bool true)] [] E (by kernel_rfl) trivial ?_
  clear E; intro a E
  refine e_build (ps := [(0, .int .u64 ((c.1 + d.1 + (0 : Int)) % 18446744073709551616)), (1, .bool true)]) (v := .agg #[.int .u64 ((c.1 + d.1 + (0 : Int)) % 18446744073709551616), .bool true]) E rfl rfl tbok rfl (by kernel_rfl) rfl ?_
  clear E; intro a E
  refine h_store (g := g11) (off := 0) H 2 rfl E rfl rfl rfl rfl tbok rfl rfl rfl rfl rfl ?_
  clear E; intro w18 a hc19 H_ E
  replace H := H_; clear H_; try dsimp only [setn, addE, goneL] at H
  refine wpList_nil ?_
  refine th_n ?_
  refine wp_ret ?_
  obtain rfl := Option.some.inj hP
  refine retV E [.cell 4 70] [.agg #[.int .u64 ((c.1 + d.1 + (0 : Int)) % 18446744073709551616), .bool true]] rfl ⟨⟨_, rfl, run_loadBx tbok (H.box 2 rfl) rfl rfl rfl 0 rfl rfl⟩, trivial⟩ (.inl rfl) ?_
  exact ⟨_, rfl, rfl, H.sel [] rfl⟩
 replace E := E_; clear E_
 have h20 : ¬ (c.2 = true) := (ne_true_of_eq_false hb_)
 clear hb_; replace hP := ite_f h20 hP
 refine vr tbok 4 [.bool d.2] [(4, .pointer (some ⟨g11, 0, none⟩)), (6, .int .u64 ((c.1 + d.1 + (0 : Int)) / 18446744073709551616)), (15, .int .u64 ((c.1 + d.1 + (0 : Int)) % 18446744073709551616)), (22, .bool d.2)] [World.cell? w12 ⟨g6, 1, none⟩ = some (.bool d.2)] E (by kernel_rfl) ((H.box 1 rfl).cell (j := 1) rfl) ?_
 clear E; intro a E
 refine E.cases (t := 22) rfl (fun hb_ E_ => ?_) (fun hb_ E_ => ?_)
 ·
  replace E := E_; clear E_
  have h21 : d.2 = true := hb_
  clear hb_; replace hP := ite_t h21 hP
  refine vr tbok 3 [] [(4, .pointer (some ⟨g11, 0, none⟩)), (15, .int .u64 ((c.1 + d.1 + (0 : Int)) % 18446744073709551616)), (25, .bool true)] [] E (by kernel_rfl) trivial ?_
  clear E; intro a E
  refine e_build (ps := [(0, .int .u64 ((c.1 + d.1 + (0 : Int)) % 18446744073709551616)), (1, .bool true)]) (v := .agg #[.int .u64 ((c.1 + d.1 + (0 : Int)) % 18446744073709551616), .bool true]) E rfl rfl tbok rfl (by kernel_rfl) rfl ?_
  clear E; intro a E
  refine h_store (g := g11) (off := 0) H 2 rfl E rfl rfl rfl rfl tbok rfl rfl rfl rfl rfl ?_
  clear E; intro w22 a hc23 H_ E
  replace H := H_; clear H_; try dsimp only [setn, addE, goneL] at H
  refine wpList_nil ?_
  refine th_n ?_
  refine wp_ret ?_
  obtain rfl := Option.some.inj hP
  refine retV E [.cell 4 70] [.agg #[.int .u64 ((c.1 + d.1 + (0 : Int)) % 18446744073709551616), .bool true]] rfl ⟨⟨_, rfl, run_loadBx tbok (H.box 2 rfl) rfl rfl rfl 0 rfl rfl⟩, trivial⟩ (.inl rfl) ?_
  exact ⟨_, rfl, rfl, H.sel [] rfl⟩
 replace E := E_; clear E_
 have h24 : ¬ (d.2 = true) := (ne_true_of_eq_false hb_)
 clear hb_; replace hP := ite_f h24 hP
 refine vr tbok 3 [] [(4, .pointer (some ⟨g11, 0, none⟩)), (15, .int .u64 ((c.1 + d.1 + (0 : Int)) % 18446744073709551616)), (25, .bool (((c.1 + d.1 + (0 : Int)) / 18446744073709551616 : Int) == 1))] [] E (by kernel_rfl) trivial ?_
 clear E; intro a E
 refine e_build (ps := [(0, .int .u64 ((c.1 + d.1 + (0 : Int)) % 18446744073709551616)), (1, .bool (((c.1 + d.1 + (0 : Int)) / 18446744073709551616 : Int) == 1))]) (v := .agg #[.int .u64 ((c.1 + d.1 + (0 : Int)) % 18446744073709551616), .bool (((c.1 + d.1 + (0 : Int)) / 18446744073709551616 : Int) == 1)]) E rfl rfl tbok rfl (by kernel_rfl) rfl ?_
 clear E; intro a E
 refine h_store (g := g11) (off := 0) H 2 rfl E rfl rfl rfl rfl tbok rfl rfl rfl rfl rfl ?_
 clear E; intro w25 a hc26 H_ E
 replace H := H_; clear H_; try dsimp only [setn, addE, goneL] at H
 refine wpList_nil ?_
 refine th_n ?_
 refine wp_ret ?_
 obtain rfl := Option.some.inj hP
 refine retV E [.cell 4 70] [.agg #[.int .u64 ((c.1 + d.1 + (0 : Int)) % 18446744073709551616), .bool (((c.1 + d.1 + (0 : Int)) / 18446744073709551616 : Int) == 1)]] rfl ⟨⟨_, rfl, run_loadBx tbok (H.box 2 rfl) rfl rfl rfl 0 rfl rfl⟩, trivial⟩ (.inl rfl) ?_
 exact ⟨_, rfl, rfl, H.sel [] rfl⟩

end Go.V
