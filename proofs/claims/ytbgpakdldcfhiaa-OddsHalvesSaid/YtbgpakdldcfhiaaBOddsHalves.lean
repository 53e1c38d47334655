/- Plain functions, and the calls that give them. -/
import Derived.Test.YtbgpakdldcfhiaaA5
set_option linter.all false
set_option linter.unusedVariables false
set_option linter.unnecessarySimpa false
set_option linter.unusedSimpArgs false
namespace Go.V
open Go Go.Proofs
/-! rejoinder/rejoinderlaw27.OddsHalves -/
def law27_OddsHalves_j0 (N : Nat) (aProps : Int) : Option Bool :=
    if aProps < 0 then
      some true
    else
      some (decide (4 < aProps))
def law27_OddsHalves_j1 (N : Nat) (r65 : Nat × Int) (r85 : Int × Int) : Option Bool :=
    if (r65.2 : Int) = 0 then
      some ((r85.2 : Int) != 0)
    else
      some true
def law27_OddsHalves_j2 (N : Nat) (r18 : Bool) (r65 : Nat × Int) : Option Bool :=
    if r18 = true then
      some (fEq r65.1 0)
    else
      some false
def law27_OddsHalves_j3 (N : Nat) (aProps : Int) (r18 : Bool) (r38 : Int) (r65 : Nat × Int) (r85 : Int × Int) : Option Bool :=
    if r18 = true then
      ask (in64 (r38 * aProps)) <|
      ask (0 ≤ (r38 * aProps)) <|
      Option.bind (fDiv (FloatKind.nearest .f64 r85.1) (FloatKind.nearest .f64 (shlV .u64 1 (r38 * aProps)))) fun f142 =>
      if (fEq r65.1 f142) = true then
        Option.bind (math_Signbit N r65.1) fun r145 =>
        some (!r145)
      else
        some false
    else
      some false
def law27_OddsHalves (N : Nat) (aProps : Int) (aAccept : List Bool) (aGuard : List Int) (aNodes : List Nd) (n : Int) : Option Bool :=
  Option.bind (law27_awake N) fun r18 =>
  Option.bind (law16_Small N aProps aAccept aGuard aNodes) fun r27 =>
  if r27 = true then
    Option.bind (kit_Pick N n 13) fun r38 =>
    Option.bind (law27_OddsHalves_j0 N aProps) fun x55 =>
    if x55 = true then
      some r18
    else
      ask (0 ≤ aProps ∧ aProps ≤ ((4 : Nat) : Int)) <|
      Option.bind (odds_Accept N aProps aAccept aGuard aNodes (List.take (Int.toNat aProps) ([4602678819172646912, 4602678819172646912, 4602678819172646912, 4602678819172646912] : List Nat)) r38) fun r65 =>
      Option.bind (lang_Count N aProps aAccept aGuard aNodes r38) fun r85 =>
      Option.bind (law27_OddsHalves_j1 N r65 r85) fun x97 =>
      if x97 = true then
        Option.bind (law27_OddsHalves_j2 N r18 r65) fun x108 =>
        some x108
      else
        Option.bind (law27_OddsHalves_j3 N aProps r18 r38 r65 r85) fun x134 =>
        some x134
  else
    some r18
set_option maxRecDepth 100000 in
set_option maxHeartbeats 4000000 in
theorem law27_OddsHalves_calls {N : Nat} {S Fa : Nat → Prop} {w0 : World} {r : Bool} (A1 : Option Addr) (c2 : Nat) (A5 : Option Addr) (c6 : Nat) (A9 : Option Addr) (c10 : Nat) (aProps : Int) (aAccept : List Bool) (aGuard : List Int) (aNodes : List Nd) (n : Int) (hk3 : List.length aAccept ≤ c2) (hk7 : List.length aGuard ≤ c6) (hk11 : List.length aNodes ≤ c10) (H : Hp S Fa w0 w0 [.ro false cBool A1 aAccept, .ro false (cInt .i64) A5 aGuard, .ro false cNode A9 aNodes]) (hP : law27_OddsHalves N aProps aAccept aGuard aNodes n = some r) :
    Calls Try.prog 6 #[.agg #[.int .i64 aProps, .slice A1 (List.length aAccept) c2, .slice A5 (List.length aGuard) c6, .slice A9 (List.length aNodes) c10], .int .i64 n] w0 fun e w' => ∃ v, e = .returned v ∧ v = .bool r ∧ Hp S Fa w0 w' [] := by
 refine enterV (n := 74) Try.func6 rfl rfl rfl ?_
 intro a E
 replace E := E.pick [(0, .agg #[.int .i64 aProps, .slice A1 (List.length aAccept) c2, .slice A5 (List.length aGuard) c6, .slice A9 (List.length aNodes) c10]), (1, .int .i64 n)] ⟨rfl, rfl, trivial⟩
 rw [law27_OddsHalves] at hP
 refine wp_seq ?_
 refine wp_region_lit ?_
 refine h_box H E rfl rfl rfl ?_
 intro w14 g13 a hc15 hg17 H_ E_
 replace E := E_ _ rfl; clear E_
 replace H := H_; clear H_; try dsimp only [setn, addE, goneL] at H
 refine vr tbok 1 [] [(1, .int .i64 n), (2, .pointer (some ⟨g13, 0, none⟩))] [] E (by kernel_rfl) trivial ?_
 clear E; intro a E
 refine wpList_nil ?_
 refine th_n ?_
 refine wp_seq ?_
 refine wp_region_lit ?_
 obtain ⟨r18, h19, hP⟩ := bind_inv hP
 obtain ⟨Fa20, Hc21, hb22⟩ := H.call [] [] rfl rfl trivial
 refine e_call E rfl rfl Try.func7 rfl rfl rfl (law27_awake_calls    Hc21 h19) ?_
 rintro v23 w24 a ⟨rfl, HR25⟩ E_
 replace E := E_ _ rfl; clear E_
 obtain ⟨H_, hc26⟩ := hb22 _ _ HR25 rfl
 replace H := H_; clear H_; try dsimp only [setn, addE, goneL] at H
 refine vr tbok 1 [] [(1, .int .i64 n), (2, .pointer (some ⟨g13, 0, none⟩)), (5, .bool r18)] [] E (by kernel_rfl) trivial ?_
 clear E; intro a E
 refine wpList_nil ?_
 refine th_n ?_
 refine wp_seq ?_
 refine wp_seq ?_
 refine wp_region_lit ?_
 refine vr tbok 1 [.agg #[.int .i64 aProps, .slice A1 (List.length aAccept) c2, .slice A5 (List.length aGuard) c6, .slice A9 (List.length aNodes) c10]] [(1, .int .i64 n), (2, .pointer (some ⟨g13, 0, none⟩)), (5, .bool r18), (12, .agg #[.int .i64 aProps, .slice A1 (List.length aAccept) c2, .slice A5 (List.length aGuard) c6, .slice A9 (List.length aNodes) c10])] [cellsAt w24 g13 (0) [.int .i64 aProps, .slice A1 (List.length aAccept) c2, .slice A5 (List.length aGuard) c6, .slice A9 (List.length aNodes) c10]] E (by kernel_rfl) ((H.box 3 rfl).sub 0 _ rfl) ?_
 clear E; intro a E
 obtain ⟨r27, h28, hP⟩ := bind_inv hP
 obtain ⟨Fa29, Hc30, hb31⟩ := H.call [] [(0, false), (1, false), (2, false)] rfl rfl trivial
 refine e_call E rfl rfl Try.func8 rfl rfl rfl (law16_Small_calls A1 c2 A5 c6 A9 c10 aProps aAccept aGuard aNodes hk3 hk7 hk11 Hc30 h28) ?_
 rintro v32 w33 a ⟨rfl, HR34⟩ E_
 replace E := E_ _ rfl; clear E_
 obtain ⟨H_, hc35⟩ := hb31 _ _ HR34 rfl
 replace H := H_; clear H_; try dsimp only [setn, addE, goneL] at H
 refine vr tbok 1 [] [(1, .int .i64 n), (2, .pointer (some ⟨g13, 0, none⟩)), (5, .bool r18), (14, .bool (!r27))] [] E (by kernel_rfl) trivial ?_
 clear E; intro a E
 refine wpList_nil ?_
 refine th_n ?_
 refine E.cases (t := 14) rfl (fun hb_ E_ => ?_) (fun hb_ E_ => ?_)
 ·
  replace E := E_; clear E_
  have h36 : ¬ (r27 = true) := (ne_true_of_eq_false (not_t hb_))
  clear hb_; replace hP := ite_f h36 hP
  refine c_true E rfl ?_
  refine wp_seq ?_
  refine wp_region_lit ?_
  refine vr tbok 2 [] [(4, .bool r18)] [] E (by kernel_rfl) trivial ?_
  clear E; intro a E
  refine wpList_nil ?_
  refine th_n ?_
  refine wp_ret ?_
  refine th_ret ?_
  obtain rfl := Option.some.inj hP
  refine ret1 E rfl rfl ?_
  exact ⟨_, rfl, rfl, H.sel [] rfl⟩
 replace E := E_; clear E_
 have h37 : r27 = true := (not_f hb_)
 clear hb_; replace hP := ite_t h37 hP
 refine c_false E rfl ?_
 refine wp_skip ?_
 refine th_n ?_
 refine wp_seq ?_
 refine wp_region_lit ?_
 refine vr tbok 1 [] [(2, .pointer (some ⟨g13, 0, none⟩)), (5, .bool r18), (16, .int .i64 n)] [] E (by kernel_rfl) trivial ?_
 clear E; intro a E
 obtain ⟨r38, h39, hP⟩ := bind_inv hP
 obtain ⟨Fa40, Hc41, hb42⟩ := H.call [] [] rfl rfl trivial
 refine e_call E rfl rfl Try.func9 rfl rfl rfl (kit_Pick_calls  n 13  Hc41 h39) ?_
 rintro v43 w44 a ⟨rfl, HR45⟩ E_
 replace E := E_ _ rfl; clear E_
 obtain ⟨H_, hc46⟩ := hb42 _ _ HR45 rfl
 replace H := H_; clear H_; try dsimp only [setn, addE, goneL] at H
 refine vr tbok 1 [] [(1, .int .i64 r38), (2, .pointer (some ⟨g13, 0, none⟩)), (5, .bool r18)] [] E (by kernel_rfl) trivial ?_
 clear E; intro a E
 refine wpList_nil ?_
 refine th_n ?_
 refine wp_seq ?_
 refine wp_region_lit ?_
 refine h_buildSlice (ps := [(0, .float .f64 4602678819172646912), (1, .float .f64 4602678819172646912), (2, .float .f64 4602678819172646912), (3, .float .f64 4602678819172646912)]) (cs := [.float .f64 4602678819172646912, .float .f64 4602678819172646912, .float .f64 4602678819172646912, .float .f64 4602678819172646912]) H E rfl rfl tbok rfl rfl (by kernel_rfl) ?_
 intro w48 g47 a hc49 hg51 H_ E_
 replace E := E_ _ rfl; clear E_
 replace H := H_; clear H_; try dsimp only [setn, addE, goneL] at H
 refine vr tbok 1 [] [(1, .int .i64 r38), (2, .pointer (some ⟨g13, 0, none⟩)), (5, .bool r18), (6, .slice (some ⟨g47, 0, none⟩) 4 4)] [] E (by kernel_rfl) trivial ?_
 clear E; intro a E
 refine wpList_nil ?_
 refine th_n ?_
 refine wp_seq ?_
 refine wp_seq ?_
 obtain ⟨x55, h56, hK57⟩ := bind_inv hP
 clear hP
 refine meet_cut (fun a w59 => ∃ (x58 : Bool), Fr a 74 [(1, .int .i64 r38), (2, .pointer (some ⟨g13, 0, none⟩)), (5, .bool r18), (6, .slice (some ⟨g47, 0, none⟩) 4 4), (26, .bool x58)] ∧ Hp S Fa w0 w59 [.ro false cBool A1 aAccept, .ro false (cInt .i64) A5 aGuard, .ro false cNode A9 aNodes, .box g13 26 [.int .i64 aProps, .slice A1 (List.length aAccept) c2, .slice A5 (List.length aGuard) c6, .slice A9 (List.length aNodes) c10], .box g47 33 [.float .f64 4602678819172646912, .float .f64 4602678819172646912, .float .f64 4602678819172646912, .float .f64 4602678819172646912]] ∧ x55 = x58) ?_ ?_
 ·
  have hP := h56; clear h56; rw [law27_OddsHalves_j0] at hP
  refine wp_region_lit ?_
  refine vr tbok 4 [.int .i64 aProps] [(1, .int .i64 r38), (2, .pointer (some ⟨g13, 0, none⟩)), (5, .bool r18), (6, .slice (some ⟨g47, 0, none⟩) 4 4), (22, .bool (decide (aProps < 0)))] [World.cell? w48 ⟨g13, 0, none⟩ = some (.int .i64 aProps)] E (by kernel_rfl) ((H.box 3 rfl).cell (j := 0) rfl) ?_
  clear E; intro a E
  refine E.cases (t := 22) rfl (fun hb_ E_ => ?_) (fun hb_ E_ => ?_)
  ·
   replace E := E_; clear E_
   have h60 : aProps < 0 := of_decide_eq_true hb_
   clear hb_; replace hP := ite_t h60 hP
   refine vr tbok 4 [] [(1, .int .i64 r38), (2, .pointer (some ⟨g13, 0, none⟩)), (5, .bool r18), (6, .slice (some ⟨g47, 0, none⟩) 4 4), (26, .bool true)] [] E (by kernel_rfl) trivial ?_
   clear E; intro a E
   refine wpList_nil ?_
   have hx_ := Option.some.inj hP
   exact .inl ⟨rfl, true, E.pick _ ⟨rfl, rfl, rfl, rfl, rfl, trivial⟩, H.sel [0, 1, 2, 3, 4] rfl, hx_.symm⟩
  replace E := E_; clear E_
  have h61 : ¬ (aProps < 0) := of_decide_eq_false hb_
  clear hb_; replace hP := ite_f h61 hP
  refine vr tbok 4 [.int .i64 aProps] [(1, .int .i64 r38), (2, .pointer (some ⟨g13, 0, none⟩)), (5, .bool r18), (6, .slice (some ⟨g47, 0, none⟩) 4 4), (26, .bool (decide (4 < aProps)))] [World.cell? w48 ⟨g13, 0, none⟩ = some (.int .i64 aProps)] E (by kernel_rfl) ((H.box 3 rfl).cell (j := 0) rfl) ?_
  clear E; intro a E
  refine wpList_nil ?_
  have hx_ := Option.some.inj hP
  exact .inl ⟨rfl, decide (4 < aProps), E.pick _ ⟨rfl, rfl, rfl, rfl, rfl, trivial⟩, H.sel [0, 1, 2, 3, 4] rfl, hx_.symm⟩
 clear E H h56; rintro a w59 ⟨x58, E, H, hx_⟩
 subst hx_; have hP := hK57; clear hK57
 refine th_n ?_
 refine E.cases (t := 26) rfl (fun hb_ E_ => ?_) (fun hb_ E_ => ?_)
 ·
  replace E := E_; clear E_
  have h62 : x55 = true := hb_
  clear hb_; replace hP := ite_t h62 hP
  refine c_true E rfl ?_
  refine wp_seq ?_
  refine wp_region_lit ?_
  refine vr tbok 2 [] [(4, .bool r18)] [] E (by kernel_rfl) trivial ?_
  clear E; intro a E
  refine wpList_nil ?_
  refine th_n ?_
  refine wp_ret ?_
  refine th_ret ?_
  obtain rfl := Option.some.inj hP
  refine ret1 E rfl rfl ?_
  exact ⟨_, rfl, rfl, H.sel [] rfl⟩
 replace E := E_; clear E_
 have h63 : ¬ (x55 = true) := (ne_true_of_eq_false hb_)
 clear hb_; replace hP := ite_f h63 hP
 refine c_false E rfl ?_
 refine wp_skip ?_
 refine th_n ?_
 refine wp_seq ?_
 obtain ⟨g64, hP⟩ := ask_inv hP
 obtain ⟨r65, h66, hP⟩ := bind_inv hP
 have HR77 := H
 refine dr_start (S := fun w_ => Chg (atL []) w59 w_) (by kernel_rfl) ?_
 intro w74 hc75
 have HS76 : Chg (atL []) w59 w74 := hc75.mono (fun _ _ h_ => h_.elim)
 replace H := H.ext hc75
 refine dr tbok (by kernel_rfl) [0, 1, 2, 3, 5] [.agg #[.int .i64 aProps, .slice A1 (List.length aAccept) c2, .slice A5 (List.length aGuard) c6, .slice A9 (List.length aNodes) c10], .int .i64 aProps] [(1, .int .i64 r38), (2, .pointer (some ⟨g13, 0, none⟩)), (5, .bool r18), (29, .agg #[.int .i64 aProps, .slice A1 (List.length aAccept) c2, .slice A5 (List.length aGuard) c6, .slice A9 (List.length aNodes) c10]), (30, .slice (some ⟨g47, 0, none⟩) 4 4), (32, .int .i64 aProps), (34, .int .i64 r38)] (fun w_ => [cellsAt w_ g13 (0) [.int .i64 aProps, .slice A1 (List.length aAccept) c2, .slice A5 (List.length aGuard) c6, .slice A9 (List.length aNodes) c10], World.cell? w_ ⟨g13, 0, none⟩ = some (.int .i64 aProps)]) 7 E (fun _ _ => by kernel_rfl) (fun w_ hS_ => ⟨(HR77.boxk [] hS_ 3 rfl rfl).sub 0 _ rfl, (HR77.boxk [] hS_ 3 rfl rfl).cell (j := 0) rfl⟩) (by kernel_rfl) HS76 ?_
 clear E; intro a E
 refine wpAnyH_all (rs := [4]) (by kernel_rfl) (by simp) ?_
 refine all1 ?_
 refine wpOp_of_list rfl ?_
 replace H := H.boxRow cFl true ([4602678819172646912, 4602678819172646912, 4602678819172646912, 4602678819172646912] : List Nat) 4 rfl (fun _ _ => ⟨_, _, rfl, rfl, ⟨_, _, rfl, rfl, ⟨_, _, rfl, rfl, ⟨_, _, rfl, rfl, rfl⟩⟩⟩⟩) (Nat.le_of_ble_eq_true rfl); try dsimp only [setn, addE, goneL] at H
 refine vr tbok 1 [] [(1, .int .i64 r38), (2, .pointer (some ⟨g13, 0, none⟩)), (5, .bool r18), (29, .agg #[.int .i64 aProps, .slice A1 (List.length aAccept) c2, .slice A5 (List.length aGuard) c6, .slice A9 (List.length aNodes) c10]), (30, .slice (some ⟨g47, 0, none⟩) 4 4), (32, .int .i64 aProps), (33, .slice (some ⟨g47, 0, none⟩) (Int.toNat aProps) 4), (34, .int .i64 r38)] [0 ≤ aProps ∧ aProps ≤ ((4 : Nat) : Int)] E (by kernel_rfl) (cut_le g64 (H.rcapx 4 rfl)) ?_
 clear E; intro a E
 replace H := H.cutRowx 4 rfl (Int.toNat aProps); try dsimp only [setn, addE, goneL] at H
 replace E := E.same (t := 33) (u := .slice (some ⟨g47, 0, none⟩) (List.length (List.take (Int.toNat aProps) ([4602678819172646912, 4602678819172646912, 4602678819172646912, 4602678819172646912] : List Nat))) 4) rfl (congrArg (fun n_ => Value.slice (some ⟨g47, 0, none⟩) n_ 4) (take_len g64))
 refine wpList_nil ?_
 refine th_n ⟨HS76, ?_⟩
 refine wpAnyH_all (rs := [6]) (by kernel_rfl) (by simp) ?_
 refine all1 ?_
 refine wpOp_of_list rfl ?_
 obtain ⟨Fa78, Hc79, hb80⟩ := H.call [] [(0, false), (1, false), (2, false), (4, false)] rfl rfl trivial
 refine e_call E rfl rfl Try.func16 rfl rfl rfl (odds_Accept_calls A1 c2 A5 c6 A9 c10 (some ⟨g47, 0, none⟩) 4 aProps aAccept aGuard aNodes (List.take (Int.toNat aProps) ([4602678819172646912, 4602678819172646912, 4602678819172646912, 4602678819172646912] : List Nat)) r38 hk3 hk7 hk11 (H.rcapx 4 rfl) Hc79 h66) ?_
 rintro v81 w82 a ⟨rfl, HR83⟩ E_
 replace E := E_ _ rfl; clear E_
 obtain ⟨H_, hc84⟩ := hb80 _ _ HR83 rfl
 replace HS76 := HS76.ext (callS_ext hc84)
 replace H := H_; clear H_; try dsimp only [setn, addE, goneL] at H
 refine wpList_nil ?_
 refine th_n ⟨HS76, ?_⟩
 refine dr tbok (by kernel_rfl) [7, 8, 9, 10, 11] [] [(1, .int .i64 r38), (2, .pointer (some ⟨g13, 0, none⟩)), (5, .bool r18), (7, .float .f64 r65.1), (8, .int .i64 r65.2)] (fun w_ => []) 0 E (fun _ _ => by kernel_rfl) (fun w_ hS_ => trivial) (by kernel_rfl) HS76 ?_
 clear E; intro a E
 refine dr_done (by kernel_rfl) ?_
 clear HS76 HR77
 refine th_n ?_
 refine wp_seq ?_
 refine wp_region_lit ?_
 refine vr tbok 2 [.agg #[.int .i64 aProps, .slice A1 (List.length aAccept) c2, .slice A5 (List.length aGuard) c6, .slice A9 (List.length aNodes) c10]] [(1, .int .i64 r38), (2, .pointer (some ⟨g13, 0, none⟩)), (5, .bool r18), (7, .float .f64 r65.1), (8, .int .i64 r65.2), (39, .agg #[.int .i64 aProps, .slice A1 (List.length aAccept) c2, .slice A5 (List.length aGuard) c6, .slice A9 (List.length aNodes) c10]), (40, .int .i64 r38)] [cellsAt w82 g13 (0) [.int .i64 aProps, .slice A1 (List.length aAccept) c2, .slice A5 (List.length aGuard) c6, .slice A9 (List.length aNodes) c10]] E (by kernel_rfl) ((H.box 3 rfl).sub 0 _ rfl) ?_
 clear E; intro a E
 obtain ⟨r85, h86, hP⟩ := bind_inv hP
 obtain ⟨Fa87, Hc88, hb89⟩ := H.call [] [(0, false), (1, false), (2, false)] rfl rfl trivial
 refine e_call E rfl rfl Try.func19 rfl rfl rfl (lang_Count_calls A1 c2 A5 c6 A9 c10 aProps aAccept aGuard aNodes r38 hk3 hk7 hk11 Hc88 h86) ?_
 rintro v90 w91 a ⟨rfl, HR92⟩ E_
 replace E := E_ _ rfl; clear E_
 obtain ⟨H_, hc93⟩ := hb89 _ _ HR92 rfl
 replace H := H_; clear H_; try dsimp only [setn, addE, goneL] at H
 refine vr tbok 5 [] [(1, .int .i64 r38), (2, .pointer (some ⟨g13, 0, none⟩)), (5, .bool r18), (7, .float .f64 r65.1), (8, .int .i64 r65.2), (9, .int .u64 r85.1), (10, .int .i64 r85.2)] [] E (by kernel_rfl) trivial ?_
 clear E; intro a E
 refine wpList_nil ?_
 refine th_n ?_
 refine wp_seq ?_
 refine wp_seq ?_
 obtain ⟨x97, h98, hK99⟩ := bind_inv hP
 clear hP
 refine meet_cut (fun a w101 => ∃ (x100 : Bool), Fr a 74 [(1, .int .i64 r38), (2, .pointer (some ⟨g13, 0, none⟩)), (5, .bool r18), (7, .float .f64 r65.1), (9, .int .u64 r85.1), (49, .bool x100)] ∧ Hp S Fa w0 w101 [.ro false cBool A1 aAccept, .ro false (cInt .i64) A5 aGuard, .ro false cNode A9 aNodes, .box g13 26 [.int .i64 aProps, .slice A1 (List.length aAccept) c2, .slice A5 (List.length aGuard) c6, .slice A9 (List.length aNodes) c10]] ∧ x97 = x100) ?_ ?_
 ·
  have hP := h98; clear h98; rw [law27_OddsHalves_j1] at hP
  refine wp_region_lit ?_
  refine vr tbok 3 [] [(1, .int .i64 r38), (2, .pointer (some ⟨g13, 0, none⟩)), (5, .bool r18), (7, .float .f64 r65.1), (9, .int .u64 r85.1), (10, .int .i64 r85.2), (46, .bool ((r65.2 : Int) != 0))] [] E (by kernel_rfl) trivial ?_
  clear E; intro a E
  refine E.cases (t := 46) rfl (fun hb_ E_ => ?_) (fun hb_ E_ => ?_)
  ·
   replace E := E_; clear E_
   have h102 : ¬ ((r65.2 : Int) = 0) := bne_iff_ne.1 hb_
   clear hb_; replace hP := ite_f h102 hP
   refine vr tbok 3 [] [(1, .int .i64 r38), (2, .pointer (some ⟨g13, 0, none⟩)), (5, .bool r18), (7, .float .f64 r65.1), (9, .int .u64 r85.1), (49, .bool true)] [] E (by kernel_rfl) trivial ?_
   clear E; intro a E
   refine wpList_nil ?_
   have hx_ := Option.some.inj hP
   exact .inl ⟨rfl, true, E.pick _ ⟨rfl, rfl, rfl, rfl, rfl, rfl, trivial⟩, H.sel [0, 1, 2, 3] rfl, hx_.symm⟩
  replace E := E_; clear E_
  have h103 : (r65.2 : Int) = 0 := bne_eq_false_iff_eq.1 hb_
  clear hb_; replace hP := ite_t h103 hP
  refine vr tbok 3 [] [(1, .int .i64 r38), (2, .pointer (some ⟨g13, 0, none⟩)), (5, .bool r18), (7, .float .f64 r65.1), (9, .int .u64 r85.1), (49, .bool ((r85.2 : Int) != 0))] [] E (by kernel_rfl) trivial ?_
  clear E; intro a E
  refine wpList_nil ?_
  have hx_ := Option.some.inj hP
  exact .inl ⟨rfl, (r85.2 : Int) != 0, E.pick _ ⟨rfl, rfl, rfl, rfl, rfl, rfl, trivial⟩, H.sel [0, 1, 2, 3] rfl, hx_.symm⟩
 clear E H h98; rintro a w101 ⟨x100, E, H, hx_⟩
 subst hx_; have hP := hK99; clear hK99
 refine th_n ?_
 refine E.cases (t := 49) rfl (fun hb_ E_ => ?_) (fun hb_ E_ => ?_)
 ·
  replace E := E_; clear E_
  have h104 : x97 = true := hb_
  clear hb_; replace hP := ite_t h104 hP
  refine c_true E rfl ?_
  refine wp_seq ?_
  obtain ⟨x108, h109, hK110⟩ := bind_inv hP
  clear hP
  refine meet_cut (fun a w112 => ∃ (x111 : Bool), Fr a 74 [(4, .bool x111)] ∧ Hp S Fa w0 w112 [] ∧ x108 = x111) ?_ ?_
  ·
   have hP := h109; clear h109; rw [law27_OddsHalves_j2] at hP
   refine wp_region_lit ?_
   refine vr tbok 2 [] [(7, .float .f64 r65.1), (51, .bool r18)] [] E (by kernel_rfl) trivial ?_
   clear E; intro a E
   refine E.cases (t := 51) rfl (fun hb_ E_ => ?_) (fun hb_ E_ => ?_)
   ·
    replace E := E_; clear E_
    have h113 : r18 = true := hb_
    clear hb_; replace hP := ite_t h113 hP
    refine vr tbok 4 [] [(4, .bool (fEq r65.1 0))] [] E (by kernel_rfl) trivial ?_
    clear E; intro a E
    refine wpList_nil ?_
    have hx_ := Option.some.inj hP
    exact .inl ⟨rfl, (fEq r65.1 0), E.pick _ ⟨rfl, trivial⟩, H.sel [] rfl, hx_.symm⟩
   replace E := E_; clear E_
   have h114 : ¬ (r18 = true) := (ne_true_of_eq_false hb_)
   clear hb_; replace hP := ite_f h114 hP
   refine vr tbok 4 [] [(4, .bool false)] [] E (by kernel_rfl) trivial ?_
   clear E; intro a E
   refine wpList_nil ?_
   have hx_ := Option.some.inj hP
   exact .inl ⟨rfl, false, E.pick _ ⟨rfl, trivial⟩, H.sel [] rfl, hx_.symm⟩
  clear E H h109; rintro a w112 ⟨x111, E, H, hx_⟩
  subst hx_; have hP := hK110; clear hK110
  refine th_n ?_
  refine wp_ret ?_
  refine th_ret ?_
  obtain rfl := Option.some.inj hP
  refine ret1 E rfl rfl ?_
  exact ⟨_, rfl, rfl, H.sel [] rfl⟩
 replace E := E_; clear E_
 have h115 : ¬ (x97 = true) := (ne_true_of_eq_false hb_)
 clear hb_; replace hP := ite_f h115 hP
 refine c_false E rfl ?_
 refine wp_skip ?_
 refine th_n ?_
 refine wp_seq ?_
 obtain ⟨x134, h135, hK136⟩ := bind_inv hP
 clear hP
 refine meet_cut (fun a w138 => ∃ (x137 : Bool), Fr a 74 [(4, .bool x137)] ∧ Hp S Fa w0 w138 [] ∧ x134 = x137) ?_ ?_
 ·
  have hP := h135; clear h135; rw [law27_OddsHalves_j3] at hP
  refine wp_region_lit ?_
  refine vr tbok 2 [] [(1, .int .i64 r38), (2, .pointer (some ⟨g13, 0, none⟩)), (7, .float .f64 r65.1), (9, .int .u64 r85.1), (56, .bool r18)] [] E (by kernel_rfl) trivial ?_
  clear E; intro a E
  refine E.cases (t := 56) rfl (fun hb_ E_ => ?_) (fun hb_ E_ => ?_)
  ·
   replace E := E_; clear E_
   have h139 : r18 = true := hb_
   clear hb_; replace hP := ite_t h139 hP
   obtain ⟨g140, hP⟩ := ask_inv hP
   obtain ⟨g141, hP⟩ := ask_inv hP
   obtain ⟨f142, h143, hP⟩ := bind_inv hP
   refine vr tbok 13 [.float .f64 (FloatKind.nearest .f64 r85.1), .int .i64 aProps, .int .i64 (r38 * aProps), .int .u64 (shlV .u64 1 (r38 * aProps)), .float .f64 (FloatKind.nearest .f64 (shlV .u64 1 (r38 * aProps))), .float .f64 f142] [(7, .float .f64 r65.1), (69, .bool (fEq r65.1 f142))] [FloatKind.nearest .f64 r85.1 = (FloatKind.nearest .f64 r85.1), World.cell? w101 ⟨g13, 0, none⟩ = some (.int .i64 aProps), IntKind.i64.wrap (r38 * aProps) = r38 * aProps, 0 ≤ (r38 * aProps) ∧ IntKind.u64.wrap (1 * 2 ^ (min (Int.toNat (r38 * aProps)) (IntKind.bits .u64))) = shlV .u64 1 (r38 * aProps), FloatKind.nearest .f64 (shlV .u64 1 (r38 * aProps)) = (FloatKind.nearest .f64 (shlV .u64 1 (r38 * aProps))), fDiv (FloatKind.nearest .f64 r85.1) (FloatKind.nearest .f64 (shlV .u64 1 (r38 * aProps))) = some f142] E (by kernel_rfl) ⟨rfl, (H.box 3 rfl).cell (j := 0) rfl, wrap_in g140, ⟨g141, rfl⟩, rfl, h143⟩ ?_
   clear E; intro a E
   refine E.cases (t := 69) rfl (fun hb_ E_ => ?_) (fun hb_ E_ => ?_)
   ·
    replace E := E_; clear E_
    have h144 : (fEq r65.1 f142) = true := hb_
    clear hb_; replace hP := ite_t h144 hP
    refine vr tbok 1 [] [(69, .bool true), (70, .float .f64 r65.1)] [] E (by kernel_rfl) trivial ?_
    clear E; intro a E
    obtain ⟨r145, h146, hP⟩ := bind_inv hP
    obtain ⟨Fa147, Hc148, hb149⟩ := H.call [] [] rfl rfl trivial
    refine e_call E rfl rfl Try.func13 rfl rfl rfl (math_Signbit_calls  r65.1  Hc148 h146) ?_
    rintro v150 w151 a ⟨rfl, HR152⟩ E_
    replace E := E_ _ rfl; clear E_
    obtain ⟨H_, hc153⟩ := hb149 _ _ HR152 rfl
    replace H := H_; clear H_; try dsimp only [setn, addE, goneL] at H
    refine vr tbok 3 [] [(4, .bool (!r145))] [] E (by kernel_rfl) trivial ?_
    clear E; intro a E
    refine wpList_nil ?_
    have hx_ := Option.some.inj hP
    exact .inl ⟨rfl, !r145, E.pick _ ⟨rfl, trivial⟩, H.sel [] rfl, hx_.symm⟩
   replace E := E_; clear E_
   have h154 : ¬ ((fEq r65.1 f142) = true) := (ne_true_of_eq_false hb_)
   clear hb_; replace hP := ite_f h154 hP
   refine vr tbok 5 [] [(4, .bool false)] [] E (by kernel_rfl) trivial ?_
   clear E; intro a E
   refine wpList_nil ?_
   have hx_ := Option.some.inj hP
   exact .inl ⟨rfl, false, E.pick _ ⟨rfl, trivial⟩, H.sel [] rfl, hx_.symm⟩
  replace E := E_; clear E_
  have h155 : ¬ (r18 = true) := (ne_true_of_eq_false hb_)
  clear hb_; replace hP := ite_f h155 hP
  refine vr tbok 18 [] [(4, .bool false)] [] E (by kernel_rfl) trivial ?_
  clear E; intro a E
  refine wpList_nil ?_
  have hx_ := Option.some.inj hP
  exact .inl ⟨rfl, false, E.pick _ ⟨rfl, trivial⟩, H.sel [] rfl, hx_.symm⟩
 clear E H h135; rintro a w138 ⟨x137, E, H, hx_⟩
 subst hx_; have hP := hK136; clear hK136
 refine th_n ?_
 refine wp_ret ?_
 obtain rfl := Option.some.inj hP
 refine ret1 E rfl rfl ?_
 exact ⟨_, rfl, rfl, H.sel [] rfl⟩

end Go.V
