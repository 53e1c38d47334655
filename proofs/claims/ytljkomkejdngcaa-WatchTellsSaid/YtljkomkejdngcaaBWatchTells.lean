/- Plain functions, and the calls that give them. -/
import Derived.Test.YtljkomkejdngcaaA10
set_option linter.all false
set_option linter.unusedVariables false
set_option linter.unnecessarySimpa false
set_option linter.unusedSimpArgs false
namespace Go.V
open Go Go.Proofs
/-! rejoinder/rejoinderlaw21.WatchTells -/
def law21_WatchTells_j0 (N : Nat) (aProps : Int) (aAccept : List Bool) (aGuard : List Int) (aNodes : List Nd) (t : List Int) : Option Bool :=
    Option.bind (law16_Small N aProps aAccept aGuard aNodes) fun r43 =>
    if r43 = true then
      if 60 < (((List.length t) : Nat) : Int) then
        if (((List.length t) : Nat) : Int) ≤ 1024 then
          some true
        else
          some (decide (1033 < (((List.length t) : Nat) : Int)))
      else
        some (decide (1033 < (((List.length t) : Nat) : Int)))
    else
      some true
def law21_WatchTells_j1 (N : Nat) (r97 : (List Int) × Int) (r109 : (List Int) × Int) (r121 : (List Int) × Int) (r133 : (List Int) × Int) (r146 : (List Int) × Int) : Option Bool :=
    Option.bind (law21_same N r97.1 r121.1) fun r201 =>
    if r201 = true then
      Option.bind (law21_same N r109.1 r121.1) fun r212 =>
      if r212 = true then
        if (r97.2 : Int) = r121.2 then
          if (r109.2 : Int) = r97.2 then
            Option.bind (law21_same N r133.1 r146.1) fun r227 =>
            if r227 = true then
              some ((r133.2 : Int) != r146.2)
            else
              some true
          else
            some true
        else
          some true
      else
        some true
    else
      some true
def law21_WatchTells_l2 (N : Nat) : Nat → (List Int) → Int → Option Unit
  | 0, _, _ => none
  | m261 + 1, x248, k251 =>
    if k251 < (((List.length x248) : Nat) : Int) then
      ask (idx k251 (List.length x248)) <|
      ask (in64 (k251 + 1)) <|
      law21_WatchTells_l2 N m261 (List.set x248 (Int.toNat k251) 9) (k251 + 1)
    else
      some ()
def law21_WatchTells_j3 (N : Nat) (aProps : Int) (aAccept : List Bool) (aGuard : List Int) (aNodes : List Nd) (t : List Int) (r60 : Int × (List Bool × List Bool) × (List Int × List Int) × (List Nd × List Nd)) (r78 : List Int × List Int) (r109 : (List Int) × Int) (r121 : (List Int) × Int) : Option Bool :=
    Option.bind (law21_same N r109.1 r121.1) fun r314 =>
    if r314 = true then
      Option.bind (kit_KeptAuto N r60.1 r60.2.1.1 r60.2.1.2 r60.2.2.1.1 r60.2.2.1.2 r60.2.2.2.1 r60.2.2.2.2 aProps aAccept aGuard aNodes) fun r324 =>
      if r324 = true then
        Option.bind (kit_KeptLetters N r78.1 r78.2 t) fun r334 =>
        some r334
      else
        some false
    else
      some false
def law21_WatchTells (N : Nat) (aProps : Int) (aAccept : List Bool) (aGuard : List Int) (aNodes : List Nd) (t : List Int) : Option Bool :=
  Option.bind (law21_WatchTells_j0 N aProps aAccept aGuard aNodes t) fun x38 =>
  if x38 = true then
    some true
  else
    Option.bind (kit_LentAuto N aProps aAccept aGuard aNodes) fun r60 =>
    Option.bind (kit_LentLetters N t) fun r78 =>
    Option.bind (watch_All N r60.1 r60.2.1.1 r60.2.2.1.1 r60.2.2.2.1 r78.1) fun r97 =>
    Option.bind (watch_All N r60.1 r60.2.1.1 r60.2.2.1.1 r60.2.2.2.1 r78.1) fun r109 =>
    Option.bind (ref21_All N aProps aAccept aGuard aNodes t) fun r121 =>
    Option.bind (watch_Told N r60.1 r60.2.1.1 r60.2.2.1.1 r60.2.2.2.1) fun r133 =>
    Option.bind (ref21_Told N aProps aAccept aGuard aNodes) fun r146 =>
    Option.bind (law21_WatchTells_j1 N r97 r109 r121 r133 r146) fun x196 =>
    if x196 = true then
      some false
    else
      Option.bind (law21_WatchTells_l2 N N r97.1 0) fun x262 =>
      Option.bind (law21_WatchTells_j3 N aProps aAccept aGuard aNodes t r60 r78 r109 r121) fun x309 =>
      some x309
set_option maxRecDepth 100000 in
set_option maxHeartbeats 4000000 in
theorem law21_WatchTells_calls {N : Nat} {S Fa : Nat → Prop} {w0 : World} {r : Bool} (A1 : Option Addr) (c2 : Nat) (A5 : Option Addr) (c6 : Nat) (A9 : Option Addr) (c10 : Nat) (A13 : Option Addr) (c14 : Nat) (aProps : Int) (aAccept : List Bool) (aGuard : List Int) (aNodes : List Nd) (t : List Int) (hk3 : List.length aAccept ≤ c2) (hk7 : List.length aGuard ≤ c6) (hk11 : List.length aNodes ≤ c10) (hk15 : List.length t ≤ c14) (H : Hp S Fa w0 w0 [.ro false cBool A1 aAccept, .ro false (cInt .i64) A5 aGuard, .ro false cNode A9 aNodes, .ro false (cInt .u8) A13 t]) (hP : law21_WatchTells N aProps aAccept aGuard aNodes t = some r) :
    Calls Try.prog 4 #[.agg #[.int .i64 aProps, .slice A1 (List.length aAccept) c2, .slice A5 (List.length aGuard) c6, .slice A9 (List.length aNodes) c10], .slice A13 (List.length t) c14] w0 fun e w' => ∃ v, e = .returned v ∧ v = .bool r ∧ Hp S Fa w0 w' [] := by
 refine enterV (n := 121) Try.func4 rfl rfl rfl ?_
 intro a E
 replace E := E.pick [(0, .agg #[.int .i64 aProps, .slice A1 (List.length aAccept) c2, .slice A5 (List.length aGuard) c6, .slice A9 (List.length aNodes) c10]), (1, .slice A13 (List.length t) c14)] ⟨rfl, rfl, trivial⟩
 rw [law21_WatchTells] at hP
 refine wp_seq ?_
 refine wp_region_lit ?_
 refine h_box H E rfl rfl rfl ?_
 intro w18 g17 a hc19 hg21 H_ E_
 replace E := E_ _ rfl; clear E_
 replace H := H_; clear H_; try dsimp only [setn, addE, goneL] at H
 refine vn tbok 1 [] [] [] E (by kernel_rfl) (by kernel_rfl) trivial ?_
 clear E; intro a E
 refine wpList_nil ?_
 refine th_n ?_
 refine wp_seq ?_
 refine wp_seq ?_
 obtain ⟨x38, h39, hK40⟩ := bind_inv hP
 clear hP
 refine meet_cut (fun a w42 => ∃ (x41 : Bool), Fr a 121 [(1, .slice A13 (List.length t) c14), (2, .pointer (some ⟨g17, 0, none⟩)), (35, .bool x41)] ∧ Hp S Fa w0 w42 [.ro false (cInt .u8) A13 t, .ro false cBool A1 aAccept, .ro false (cInt .i64) A5 aGuard, .ro false cNode A9 aNodes, .box g17 43 [.int .i64 aProps, .slice A1 (List.length aAccept) c2, .slice A5 (List.length aGuard) c6, .slice A9 (List.length aNodes) c10]] ∧ x38 = x41) ?_ ?_
 ·
  have hP := h39; clear h39; rw [law21_WatchTells_j0] at hP
  refine wp_region_lit ?_
  refine vn tbok 1 [.agg #[.int .i64 aProps, .slice A1 (List.length aAccept) c2, .slice A5 (List.length aGuard) c6, .slice A9 (List.length aNodes) c10]] [(18, .agg #[.int .i64 aProps, .slice A1 (List.length aAccept) c2, .slice A5 (List.length aGuard) c6, .slice A9 (List.length aNodes) c10])] [cellsAt w18 g17 (0) [.int .i64 aProps, .slice A1 (List.length aAccept) c2, .slice A5 (List.length aGuard) c6, .slice A9 (List.length aNodes) c10]] E (by kernel_rfl) (by kernel_rfl) ((H.box 4 rfl).sub 0 _ rfl) ?_
  clear E; intro a E
  obtain ⟨r43, h44, hP⟩ := bind_inv hP
  obtain ⟨Fa45, Hc46, hb47⟩ := H.call [] [(0, false), (1, false), (2, false)] rfl rfl trivial
  refine e_call E rfl rfl Try.func16 rfl rfl rfl (law16_Small_calls A1 c2 A5 c6 A9 c10 aProps aAccept aGuard aNodes hk3 hk7 hk11 Hc46 h44) ?_
  rintro v48 w49 a ⟨rfl, HR50⟩ E_
  replace E := E_ _ rfl; clear E_
  obtain ⟨H_, hc51⟩ := hb47 _ _ HR50 rfl
  replace H := H_; clear H_; try dsimp only [setn, addE, goneL] at H
  refine vn tbok 2 [] [(21, .bool (!r43))] [] E (by kernel_rfl) (by kernel_rfl) trivial ?_
  clear E; intro a E
  refine E.cases (t := 21) rfl (fun hb_ E_ => ?_) (fun hb_ E_ => ?_)
  ·
   replace E := E_; clear E_
   have h52 : ¬ (r43 = true) := (ne_true_of_eq_false (not_t hb_))
   clear hb_; replace hP := ite_f h52 hP
   refine vn tbok 14 [] [(35, .bool true)] [] E (by kernel_rfl) (by kernel_rfl) trivial ?_
   clear E; intro a E
   refine wpList_nil ?_
   have hx_ := Option.some.inj hP
   exact .inl ⟨rfl, true, E.pick _ ⟨rfl, rfl, rfl, trivial⟩, H.sel [3, 0, 1, 2, 4] rfl, hx_.symm⟩
  replace E := E_; clear E_
  have h53 : r43 = true := (not_f hb_)
  clear hb_; replace hP := ite_t h53 hP
  refine vn tbok 4 [] [(25, .bool (decide (60 < (((List.length t) : Nat) : Int))))] [] E (by kernel_rfl) (by kernel_rfl) trivial ?_
  clear E; intro a E
  refine E.cases (t := 25) rfl (fun hb_ E_ => ?_) (fun hb_ E_ => ?_)
  ·
   replace E := E_; clear E_
   have h54 : 60 < (((List.length t) : Nat) : Int) := of_decide_eq_true hb_
   clear hb_; replace hP := ite_t h54 hP
   refine vn tbok 6 [] [(31, .bool (decide ((((List.length t) : Nat) : Int) ≤ 1024)))] [] E (by kernel_rfl) (by kernel_rfl) trivial ?_
   clear E; intro a E
   refine E.cases (t := 31) rfl (fun hb_ E_ => ?_) (fun hb_ E_ => ?_)
   ·
    replace E := E_; clear E_
    have h55 : (((List.length t) : Nat) : Int) ≤ 1024 := of_decide_eq_true hb_
    clear hb_; replace hP := ite_t h55 hP
    refine vn tbok 4 [] [(35, .bool true)] [] E (by kernel_rfl) (by kernel_rfl) trivial ?_
    clear E; intro a E
    refine wpList_nil ?_
    have hx_ := Option.some.inj hP
    exact .inl ⟨rfl, true, E.pick _ ⟨rfl, rfl, rfl, trivial⟩, H.sel [3, 0, 1, 2, 4] rfl, hx_.symm⟩
   replace E := E_; clear E_
   have h56 : ¬ ((((List.length t) : Nat) : Int) ≤ 1024) := of_decide_eq_false hb_
   clear hb_; replace hP := ite_f h56 hP
   refine vn tbok 4 [] [(35, .bool (decide (1033 < (((List.length t) : Nat) : Int))))] [] E (by kernel_rfl) (by kernel_rfl) trivial ?_
   clear E; intro a E
   refine wpList_nil ?_
   have hx_ := Option.some.inj hP
   exact .inl ⟨rfl, decide (1033 < (((List.length t) : Nat) : Int)), E.pick _ ⟨rfl, rfl, rfl, trivial⟩, H.sel [3, 0, 1, 2, 4] rfl, hx_.symm⟩
  replace E := E_; clear E_
  have h57 : ¬ (60 < (((List.length t) : Nat) : Int)) := of_decide_eq_false hb_
  clear hb_; replace hP := ite_f h57 hP
  refine vn tbok 10 [] [(35, .bool (decide (1033 < (((List.length t) : Nat) : Int))))] [] E (by kernel_rfl) (by kernel_rfl) trivial ?_
  clear E; intro a E
  refine wpList_nil ?_
  have hx_ := Option.some.inj hP
  exact .inl ⟨rfl, decide (1033 < (((List.length t) : Nat) : Int)), E.pick _ ⟨rfl, rfl, rfl, trivial⟩, H.sel [3, 0, 1, 2, 4] rfl, hx_.symm⟩
 clear E H h39; rintro a w42 ⟨x41, E, H, hx_⟩
 subst hx_; have hP := hK40; clear hK40
 refine th_n ?_
 refine E.cases (t := 35) rfl (fun hb_ E_ => ?_) (fun hb_ E_ => ?_)
 ·
  replace E := E_; clear E_
  have h58 : x38 = true := hb_
  clear hb_; replace hP := ite_t h58 hP
  refine c_true E rfl ?_
  refine wp_seq ?_
  refine wp_region_lit ?_
  refine vn tbok 1 [] [(4, .bool true)] [] E (by kernel_rfl) (by kernel_rfl) trivial ?_
  clear E; intro a E
  refine wpList_nil ?_
  refine th_n ?_
  refine wp_ret ?_
  refine th_ret ?_
  obtain rfl := Option.some.inj hP
  refine ret1 E rfl rfl ?_
  exact ⟨_, rfl, rfl, H.sel [] rfl⟩
 replace E := E_; clear E_
 have h59 : ¬ (x38 = true) := (ne_true_of_eq_false hb_)
 clear hb_; replace hP := ite_f h59 hP
 refine c_false E rfl ?_
 refine wp_skip ?_
 refine th_n ?_
 refine wp_seq ?_
 refine wp_region_lit ?_
 refine vn tbok 1 [.agg #[.int .i64 aProps, .slice A1 (List.length aAccept) c2, .slice A5 (List.length aGuard) c6, .slice A9 (List.length aNodes) c10]] [(36, .agg #[.int .i64 aProps, .slice A1 (List.length aAccept) c2, .slice A5 (List.length aGuard) c6, .slice A9 (List.length aNodes) c10])] [cellsAt w42 g17 (0) [.int .i64 aProps, .slice A1 (List.length aAccept) c2, .slice A5 (List.length aGuard) c6, .slice A9 (List.length aNodes) c10]] E (by kernel_rfl) (by kernel_rfl) ((H.box 4 rfl).sub 0 _ rfl) ?_
 clear E; intro a E
 obtain ⟨r60, h61, hP⟩ := bind_inv hP
 obtain ⟨Fa62, Hc63, hb64⟩ := H.call [] [(1, false), (2, false), (3, false)] rfl rfl trivial
 refine e_call E rfl rfl Try.func17 rfl rfl rfl (kit_LentAuto_calls A1 c2 A5 c6 A9 c10 aProps aAccept aGuard aNodes hk3 hk7 hk11 Hc63 h61) ?_
 rintro v65 w66 a ⟨A69, c70, A72, c73, A75, c76, rfl, HR67⟩ E_
 replace E := E_ _ rfl; clear E_
 obtain ⟨H_, hc68⟩ := hb64 _ _ HR67 rfl
 replace H := H_; clear H_; try dsimp only [setn, addE, goneL] at H
 refine vn tbok 1 [] [(38, .slice A13 (List.length t) c14)] [] E (by kernel_rfl) (by kernel_rfl) trivial ?_
 clear E; intro a E
 obtain ⟨r78, h79, hP⟩ := bind_inv hP
 obtain ⟨Fa80, Hc81, hb82⟩ := H.call [] [(0, false)] rfl rfl trivial
 refine e_call E rfl rfl Try.func18 rfl rfl rfl (kit_LentLetters_calls A13 c14 t hk15 Hc81 h79) ?_
 rintro v83 w84 a ⟨A87, c88, rfl, HR85⟩ E_
 replace E := E_ _ rfl; clear E_
 obtain ⟨H_, hc86⟩ := hb82 _ _ HR85 rfl
 replace H := H_; clear H_; try dsimp only [setn, addE, goneL] at H
 refine h_alloc H E rfl rfl tbok rfl ?_
 intro w91 g90 a hc92 hg94 H_ E_
 replace E := E_ _ rfl; clear E_
 replace H := H_; clear H_; try dsimp only [setn, addE, goneL] at H
 refine h_store (g := g90) (off := 0) H 9 rfl E rfl rfl rfl rfl tbok rfl rfl rfl rfl rfl ?_
 clear E; intro w95 a hc96 H_ E
 replace H := H_; clear H_; try dsimp only [setn, addE, goneL] at H
 refine vn tbok 1 [] [(6, .slice A87 (List.length r78.1) c88)] [] E (by kernel_rfl) (by kernel_rfl) trivial ?_
 clear E; intro a E
 refine wpList_nil ?_
 refine th_n ?_
 refine wp_seq ?_
 refine wp_region_lit ?_
 refine vn tbok 2 [.agg #[.int .i64 r60.1, .slice A69 (List.length r60.2.1.1) c70, .slice A72 (List.length r60.2.2.1.1) c73, .slice A75 (List.length r60.2.2.2.1) c76]] [(41, .agg #[.int .i64 r60.1, .slice A69 (List.length r60.2.1.1) c70, .slice A72 (List.length r60.2.2.1.1) c73, .slice A75 (List.length r60.2.2.2.1) c76]), (42, .slice A87 (List.length r78.1) c88)] [cellsAt w95 g90 (0) [.int .i64 r60.1, .slice A69 (List.length r60.2.1.1) c70, .slice A72 (List.length r60.2.2.1.1) c73, .slice A75 (List.length r60.2.2.2.1) c76]] E (by kernel_rfl) (by kernel_rfl) ((H.box 9 rfl).sub 0 _ rfl) ?_
 clear E; intro a E
 obtain ⟨r97, h98, hP⟩ := bind_inv hP
 obtain ⟨Fa99, Hc100, hb101⟩ := H.call [] [(5, false), (6, false), (7, false), (8, false)] rfl rfl trivial
 refine e_call E rfl rfl Try.func19 rfl rfl rfl (watch_All_calls A69 c70 A72 c73 A75 c76 A87 c88 r60.1 r60.2.1.1 r60.2.2.1.1 r60.2.2.2.1 r78.1 (H.rcapx 5 rfl) (H.rcapx 6 rfl) (H.rcapx 7 rfl) (H.rcapx 8 rfl) Hc100 h98) ?_
 rintro v102 w103 a ⟨A106, c107, rfl, HR104⟩ E_
 replace E := E_ _ rfl; clear E_
 obtain ⟨H_, hc105⟩ := hb101 _ _ HR104 rfl
 replace H := H_; clear H_; try dsimp only [setn, addE, goneL] at H
 refine vn tbok 5 [] [(7, .slice A106 (List.length r97.1) c107), (8, .int .i64 r97.2)] [] E (by kernel_rfl) (by kernel_rfl) trivial ?_
 clear E; intro a E
 refine wpList_nil ?_
 refine th_n ?_
 refine wp_seq ?_
 refine wp_region_lit ?_
 refine vn tbok 2 [.agg #[.int .i64 r60.1, .slice A69 (List.length r60.2.1.1) c70, .slice A72 (List.length r60.2.2.1.1) c73, .slice A75 (List.length r60.2.2.2.1) c76]] [(47, .agg #[.int .i64 r60.1, .slice A69 (List.length r60.2.1.1) c70, .slice A72 (List.length r60.2.2.1.1) c73, .slice A75 (List.length r60.2.2.2.1) c76]), (48, .slice A87 (List.length r78.1) c88)] [cellsAt w103 g90 (0) [.int .i64 r60.1, .slice A69 (List.length r60.2.1.1) c70, .slice A72 (List.length r60.2.2.1.1) c73, .slice A75 (List.length r60.2.2.2.1) c76]] E (by kernel_rfl) (by kernel_rfl) ((H.box 9 rfl).sub 0 _ rfl) ?_
 clear E; intro a E
 obtain ⟨r109, h110, hP⟩ := bind_inv hP
 obtain ⟨Fa111, Hc112, hb113⟩ := H.call [] [(5, false), (6, false), (7, false), (8, false)] rfl rfl trivial
 refine e_call E rfl rfl Try.func19 rfl rfl rfl (watch_All_calls A69 c70 A72 c73 A75 c76 A87 c88 r60.1 r60.2.1.1 r60.2.2.1.1 r60.2.2.2.1 r78.1 (H.rcapx 5 rfl) (H.rcapx 6 rfl) (H.rcapx 7 rfl) (H.rcapx 8 rfl) Hc112 h110) ?_
 rintro v114 w115 a ⟨A118, c119, rfl, HR116⟩ E_
 replace E := E_ _ rfl; clear E_
 obtain ⟨H_, hc117⟩ := hb113 _ _ HR116 rfl
 replace H := H_; clear H_; try dsimp only [setn, addE, goneL] at H
 refine vn tbok 5 [] [(9, .slice A118 (List.length r109.1) c119), (10, .int .i64 r109.2)] [] E (by kernel_rfl) (by kernel_rfl) trivial ?_
 clear E; intro a E
 refine wpList_nil ?_
 refine th_n ?_
 refine wp_seq ?_
 refine wp_region_lit ?_
 refine vn tbok 2 [.agg #[.int .i64 aProps, .slice A1 (List.length aAccept) c2, .slice A5 (List.length aGuard) c6, .slice A9 (List.length aNodes) c10]] [(53, .agg #[.int .i64 aProps, .slice A1 (List.length aAccept) c2, .slice A5 (List.length aGuard) c6, .slice A9 (List.length aNodes) c10]), (54, .slice A13 (List.length t) c14)] [cellsAt w115 g17 (0) [.int .i64 aProps, .slice A1 (List.length aAccept) c2, .slice A5 (List.length aGuard) c6, .slice A9 (List.length aNodes) c10]] E (by kernel_rfl) (by kernel_rfl) ((H.box 4 rfl).sub 0 _ rfl) ?_
 clear E; intro a E
 obtain ⟨r121, h122, hP⟩ := bind_inv hP
 obtain ⟨Fa123, Hc124, hb125⟩ := H.call [] [(1, false), (2, false), (3, false), (0, false)] rfl rfl trivial
 refine e_call E rfl rfl Try.func20 rfl rfl rfl (ref21_All_calls A1 c2 A5 c6 A9 c10 A13 c14 aProps aAccept aGuard aNodes t hk3 hk7 hk11 hk15 Hc124 h122) ?_
 rintro v126 w127 a ⟨A130, c131, rfl, HR128⟩ E_
 replace E := E_ _ rfl; clear E_
 obtain ⟨H_, hc129⟩ := hb125 _ _ HR128 rfl
 replace H := H_; clear H_; try dsimp only [setn, addE, goneL] at H
 refine vn tbok 5 [] [(11, .slice A130 (List.length r121.1) c131), (12, .int .i64 r121.2)] [] E (by kernel_rfl) (by kernel_rfl) trivial ?_
 clear E; intro a E
 refine wpList_nil ?_
 refine th_n ?_
 refine wp_seq ?_
 refine wp_region_lit ?_
 refine vn tbok 1 [.agg #[.int .i64 r60.1, .slice A69 (List.length r60.2.1.1) c70, .slice A72 (List.length r60.2.2.1.1) c73, .slice A75 (List.length r60.2.2.2.1) c76]] [(59, .agg #[.int .i64 r60.1, .slice A69 (List.length r60.2.1.1) c70, .slice A72 (List.length r60.2.2.1.1) c73, .slice A75 (List.length r60.2.2.2.1) c76])] [cellsAt w127 g90 (0) [.int .i64 r60.1, .slice A69 (List.length r60.2.1.1) c70, .slice A72 (List.length r60.2.2.1.1) c73, .slice A75 (List.length r60.2.2.2.1) c76]] E (by kernel_rfl) (by kernel_rfl) ((H.box 9 rfl).sub 0 _ rfl) ?_
 clear E; intro a E
 obtain ⟨r133, h134, hP⟩ := bind_inv hP
 obtain ⟨Fa135, Hc136, hb137⟩ := H.call [] [(5, false), (6, false), (7, false)] rfl rfl trivial
 refine e_call E rfl rfl Try.func21 rfl rfl rfl (watch_Told_calls A69 c70 A72 c73 A75 c76 r60.1 r60.2.1.1 r60.2.2.1.1 r60.2.2.2.1 (H.rcapx 5 rfl) (H.rcapx 6 rfl) (H.rcapx 7 rfl) Hc136 h134) ?_
 rintro v138 w139 a ⟨A142, c143, rfl, hk145, HR140⟩ E_
 replace E := E_ _ rfl; clear E_
 obtain ⟨H_, hc141⟩ := hb137 _ _ HR140 rfl
 replace H := H_; clear H_; try dsimp only [setn, addE, goneL] at H
 refine vn tbok 5 [] [(13, .slice A142 (List.length r133.1) c143), (14, .int .i64 r133.2)] [] E (by kernel_rfl) (by kernel_rfl) trivial ?_
 clear E; intro a E
 refine wpList_nil ?_
 refine th_n ?_
 refine wp_seq ?_
 refine wp_region_lit ?_
 refine vn tbok 1 [.agg #[.int .i64 aProps, .slice A1 (List.length aAccept) c2, .slice A5 (List.length aGuard) c6, .slice A9 (List.length aNodes) c10]] [(64, .agg #[.int .i64 aProps, .slice A1 (List.length aAccept) c2, .slice A5 (List.length aGuard) c6, .slice A9 (List.length aNodes) c10])] [cellsAt w139 g17 (0) [.int .i64 aProps, .slice A1 (List.length aAccept) c2, .slice A5 (List.length aGuard) c6, .slice A9 (List.length aNodes) c10]] E (by kernel_rfl) (by kernel_rfl) ((H.box 4 rfl).sub 0 _ rfl) ?_
 clear E; intro a E
 obtain ⟨r146, h147, hP⟩ := bind_inv hP
 obtain ⟨Fa148, Hc149, hb150⟩ := H.call [] [(1, false), (2, false), (3, false)] rfl rfl trivial
 refine e_call E rfl rfl Try.func22 rfl rfl rfl (ref21_Told_calls A1 c2 A5 c6 A9 c10 aProps aAccept aGuard aNodes hk3 hk7 hk11 Hc149 h147) ?_
 rintro v151 w152 a ⟨A155, c156, rfl, HR153⟩ E_
 replace E := E_ _ rfl; clear E_
 obtain ⟨H_, hc154⟩ := hb150 _ _ HR153 rfl
 replace H := H_; clear H_; try dsimp only [setn, addE, goneL] at H
 refine vn tbok 5 [] [(15, .slice A155 (List.length r146.1) c156), (16, .int .i64 r146.2)] [] E (by kernel_rfl) (by kernel_rfl) trivial ?_
 clear E; intro a E
 refine wpList_nil ?_
 refine th_n ?_
 refine wp_seq ?_
 refine wp_seq ?_
 obtain ⟨x196, h197, hK198⟩ := bind_inv hP
 clear hP
 refine meet_cut (fun a w200 => ∃ (x199 : Bool), Fr a 121 [(1, .slice A13 (List.length t) c14), (2, .pointer (some ⟨g17, 0, none⟩)), (5, .pointer (some ⟨g90, 0, none⟩)), (6, .slice A87 (List.length r78.1) c88), (7, .slice A106 (List.length r97.1) c107), (9, .slice A118 (List.length r109.1) c119), (11, .slice A130 (List.length r121.1) c131), (98, .bool x199)] ∧ Hp S Fa w0 w200 [.ro false (cInt .u8) A13 t, .ro false cBool A1 aAccept, .ro false (cInt .i64) A5 aGuard, .ro false cNode A9 aNodes, .box g17 43 [.int .i64 aProps, .slice A1 (List.length aAccept) c2, .slice A5 (List.length aGuard) c6, .slice A9 (List.length aNodes) c10], .rowx true cBool 4 A69 c70 r60.2.1.1 r60.2.1.2, .rowx true (cInt .i64) 3 A72 c73 r60.2.2.1.1 r60.2.2.1.2, .rowx true cNode 75 A75 c76 r60.2.2.2.1 r60.2.2.2.2, .box g90 43 [.int .i64 r60.1, .slice A69 (List.length r60.2.1.1) c70, .slice A72 (List.length r60.2.2.1.1) c73, .slice A75 (List.length r60.2.2.2.1) c76], .rowx true (cInt .u8) 22 A87 c88 r78.1 r78.2, .row true (cInt .u8) 29 A106 c107 r97.1, .row true (cInt .u8) 29 A118 c119 r109.1, .row true (cInt .u8) 29 A130 c131 r121.1] ∧ x196 = x199) ?_ ?_
 ·
  have hP := h197; clear h197; rw [law21_WatchTells_j1] at hP
  refine wp_region_lit ?_
  refine vn tbok 2 [] [(68, .slice A106 (List.length r97.1) c107), (69, .slice A130 (List.length r121.1) c131)] [] E (by kernel_rfl) (by kernel_rfl) trivial ?_
  clear E; intro a E
  obtain ⟨r201, h202, hP⟩ := bind_inv hP
  obtain ⟨Fa203, Hc204, hb205⟩ := H.call [] [(10, false), (12, false)] rfl rfl trivial
  refine e_call E rfl rfl Try.func23 rfl rfl rfl (law21_same_calls A106 c107 A130 c131 r97.1 r121.1 (H.rcap 10 rfl) (H.rcap 12 rfl) Hc204 h202) ?_
  rintro v206 w207 a ⟨rfl, HR208⟩ E_
  replace E := E_ _ rfl; clear E_
  obtain ⟨H_, hc209⟩ := hb205 _ _ HR208 rfl
  replace H := H_; clear H_; try dsimp only [setn, addE, goneL] at H
  refine vn tbok 2 [] [(72, .bool (!r201))] [] E (by kernel_rfl) (by kernel_rfl) trivial ?_
  clear E; intro a E
  refine E.cases (t := 72) rfl (fun hb_ E_ => ?_) (fun hb_ E_ => ?_)
  ·
   replace E := E_; clear E_
   have h210 : ¬ (r201 = true) := (ne_true_of_eq_false (not_t hb_))
   clear hb_; replace hP := ite_f h210 hP
   refine vn tbok 26 [] [(98, .bool true)] [] E (by kernel_rfl) (by kernel_rfl) trivial ?_
   clear E; intro a E
   refine wpList_nil ?_
   have hx_ := Option.some.inj hP
   exact .inl ⟨rfl, true, E.pick _ ⟨rfl, rfl, rfl, rfl, rfl, rfl, rfl, rfl, trivial⟩, H.sel [0, 1, 2, 3, 4, 5, 6, 7, 9, 8, 10, 11, 12] rfl, hx_.symm⟩
  replace E := E_; clear E_
  have h211 : r201 = true := (not_f hb_)
  clear hb_; replace hP := ite_t h211 hP
  refine vn tbok 2 [] [(73, .slice A118 (List.length r109.1) c119), (74, .slice A130 (List.length r121.1) c131)] [] E (by kernel_rfl) (by kernel_rfl) trivial ?_
  clear E; intro a E
  obtain ⟨r212, h213, hP⟩ := bind_inv hP
  obtain ⟨Fa214, Hc215, hb216⟩ := H.call [] [(11, false), (12, false)] rfl rfl trivial
  refine e_call E rfl rfl Try.func23 rfl rfl rfl (law21_same_calls A118 c119 A130 c131 r109.1 r121.1 (H.rcap 11 rfl) (H.rcap 12 rfl) Hc215 h213) ?_
  rintro v217 w218 a ⟨rfl, HR219⟩ E_
  replace E := E_ _ rfl; clear E_
  obtain ⟨H_, hc220⟩ := hb216 _ _ HR219 rfl
  replace H := H_; clear H_; try dsimp only [setn, addE, goneL] at H
  refine vn tbok 3 [] [(78, .bool (!r212))] [] E (by kernel_rfl) (by kernel_rfl) trivial ?_
  clear E; intro a E
  refine E.cases (t := 78) rfl (fun hb_ E_ => ?_) (fun hb_ E_ => ?_)
  ·
   replace E := E_; clear E_
   have h221 : ¬ (r212 = true) := (ne_true_of_eq_false (not_t hb_))
   clear hb_; replace hP := ite_f h221 hP
   refine vn tbok 20 [] [(98, .bool true)] [] E (by kernel_rfl) (by kernel_rfl) trivial ?_
   clear E; intro a E
   refine wpList_nil ?_
   have hx_ := Option.some.inj hP
   exact .inl ⟨rfl, true, E.pick _ ⟨rfl, rfl, rfl, rfl, rfl, rfl, rfl, rfl, trivial⟩, H.sel [0, 1, 2, 3, 4, 5, 6, 7, 9, 8, 10, 11, 12] rfl, hx_.symm⟩
  replace E := E_; clear E_
  have h222 : r212 = true := (not_f hb_)
  clear hb_; replace hP := ite_t h222 hP
  refine vn tbok 5 [] [(83, .bool ((r97.2 : Int) != r121.2))] [] E (by kernel_rfl) (by kernel_rfl) trivial ?_
  clear E; intro a E
  refine E.cases (t := 83) rfl (fun hb_ E_ => ?_) (fun hb_ E_ => ?_)
  ·
   replace E := E_; clear E_
   have h223 : ¬ ((r97.2 : Int) = r121.2) := bne_iff_ne.1 hb_
   clear hb_; replace hP := ite_f h223 hP
   refine vn tbok 15 [] [(98, .bool true)] [] E (by kernel_rfl) (by kernel_rfl) trivial ?_
   clear E; intro a E
   refine wpList_nil ?_
   have hx_ := Option.some.inj hP
   exact .inl ⟨rfl, true, E.pick _ ⟨rfl, rfl, rfl, rfl, rfl, rfl, rfl, rfl, trivial⟩, H.sel [0, 1, 2, 3, 4, 5, 6, 7, 9, 8, 10, 11, 12] rfl, hx_.symm⟩
  replace E := E_; clear E_
  have h224 : (r97.2 : Int) = r121.2 := bne_eq_false_iff_eq.1 hb_
  clear hb_; replace hP := ite_t h224 hP
  refine vn tbok 5 [] [(88, .bool ((r109.2 : Int) != r97.2))] [] E (by kernel_rfl) (by kernel_rfl) trivial ?_
  clear E; intro a E
  refine E.cases (t := 88) rfl (fun hb_ E_ => ?_) (fun hb_ E_ => ?_)
  ·
   replace E := E_; clear E_
   have h225 : ¬ ((r109.2 : Int) = r97.2) := bne_iff_ne.1 hb_
   clear hb_; replace hP := ite_f h225 hP
   refine vn tbok 10 [] [(98, .bool true)] [] E (by kernel_rfl) (by kernel_rfl) trivial ?_
   clear E; intro a E
   refine wpList_nil ?_
   have hx_ := Option.some.inj hP
   exact .inl ⟨rfl, true, E.pick _ ⟨rfl, rfl, rfl, rfl, rfl, rfl, rfl, rfl, trivial⟩, H.sel [0, 1, 2, 3, 4, 5, 6, 7, 9, 8, 10, 11, 12] rfl, hx_.symm⟩
  replace E := E_; clear E_
  have h226 : (r109.2 : Int) = r97.2 := bne_eq_false_iff_eq.1 hb_
  clear hb_; replace hP := ite_t h226 hP
  refine vn tbok 2 [] [(89, .slice A142 (List.length r133.1) c143), (90, .slice A155 (List.length r146.1) c156)] [] E (by kernel_rfl) (by kernel_rfl) trivial ?_
  clear E; intro a E
  obtain ⟨r227, h228, hP⟩ := bind_inv hP
  obtain ⟨Fa229, Hc230, hb231⟩ := H.call [] [(13, false), (14, false)] rfl rfl trivial
  refine e_call E rfl rfl Try.func23 rfl rfl rfl (law21_same_calls A142 c143 A155 c156 r133.1 r146.1 hk145 (H.rcap 14 rfl) Hc230 h228) ?_
  rintro v232 w233 a ⟨rfl, HR234⟩ E_
  replace E := E_ _ rfl; clear E_
  obtain ⟨H_, hc235⟩ := hb231 _ _ HR234 rfl
  replace H := H_; clear H_; try dsimp only [setn, addE, goneL] at H
  refine vn tbok 3 [] [(94, .bool (!r227))] [] E (by kernel_rfl) (by kernel_rfl) trivial ?_
  clear E; intro a E
  refine E.cases (t := 94) rfl (fun hb_ E_ => ?_) (fun hb_ E_ => ?_)
  ·
   replace E := E_; clear E_
   have h236 : ¬ (r227 = true) := (ne_true_of_eq_false (not_t hb_))
   clear hb_; replace hP := ite_f h236 hP
   refine vr tbok 4 [] [(1, .slice A13 (List.length t) c14), (2, .pointer (some ⟨g17, 0, none⟩)), (5, .pointer (some ⟨g90, 0, none⟩)), (6, .slice A87 (List.length r78.1) c88), (7, .slice A106 (List.length r97.1) c107), (9, .slice A118 (List.length r109.1) c119), (11, .slice A130 (List.length r121.1) c131), (98, .bool true)] [] E (by kernel_rfl) trivial ?_
   clear E; intro a E
   refine wpList_nil ?_
   have hx_ := Option.some.inj hP
   exact .inl ⟨rfl, true, E.pick _ ⟨rfl, rfl, rfl, rfl, rfl, rfl, rfl, rfl, trivial⟩, H.sel [0, 1, 2, 3, 4, 5, 6, 7, 9, 8, 10, 11, 12] rfl, hx_.symm⟩
  replace E := E_; clear E_
  have h237 : r227 = true := (not_f hb_)
  clear hb_; replace hP := ite_t h237 hP
  refine vr tbok 4 [] [(1, .slice A13 (List.length t) c14), (2, .pointer (some ⟨g17, 0, none⟩)), (5, .pointer (some ⟨g90, 0, none⟩)), (6, .slice A87 (List.length r78.1) c88), (7, .slice A106 (List.length r97.1) c107), (9, .slice A118 (List.length r109.1) c119), (11, .slice A130 (List.length r121.1) c131), (98, .bool ((r133.2 : Int) != r146.2))] [] E (by kernel_rfl) trivial ?_
  clear E; intro a E
  refine wpList_nil ?_
  have hx_ := Option.some.inj hP
  exact .inl ⟨rfl, (r133.2 : Int) != r146.2, E.pick _ ⟨rfl, rfl, rfl, rfl, rfl, rfl, rfl, rfl, trivial⟩, H.sel [0, 1, 2, 3, 4, 5, 6, 7, 9, 8, 10, 11, 12] rfl, hx_.symm⟩
 clear E H h197; rintro a w200 ⟨x199, E, H, hx_⟩
 subst hx_; have hP := hK198; clear hK198
 refine th_n ?_
 refine E.cases (t := 98) rfl (fun hb_ E_ => ?_) (fun hb_ E_ => ?_)
 ·
  replace E := E_; clear E_
  have h238 : x196 = true := hb_
  clear hb_; replace hP := ite_t h238 hP
  refine c_true E rfl ?_
  refine wp_seq ?_
  refine wp_region_lit ?_
  refine vn tbok 1 [] [(4, .bool false)] [] E (by kernel_rfl) (by kernel_rfl) trivial ?_
  clear E; intro a E
  refine wpList_nil ?_
  refine th_n ?_
  refine wp_ret ?_
  refine th_ret ?_
  obtain rfl := Option.some.inj hP
  refine ret1 E rfl rfl ?_
  exact ⟨_, rfl, rfl, H.sel [] rfl⟩
 replace E := E_; clear E_
 have h239 : ¬ (x196 = true) := (ne_true_of_eq_false hb_)
 clear hb_; replace hP := ite_f h239 hP
 refine c_false E rfl ?_
 refine wp_skip ?_
 refine th_n ?_
 refine wp_seq ?_
 refine wp_seq ?_
 refine wp_region_lit ?_
 refine vn tbok 1 [] [(17, .int .i64 0)] [] E (by kernel_rfl) (by kernel_rfl) trivial ?_
 clear E; intro a E
 refine wpList_nil ?_
 refine th_n ?_
 refine wp_block ?_
 obtain ⟨x262, hL263, hK264⟩ := bind_inv hP
 clear hP
 refine loop_cut (fun i_ a w_ => (i_ = 0 ∧ ∃ (x267 : Unit), Fr a 121 [(1, .slice A13 (List.length t) c14), (2, .pointer (some ⟨g17, 0, none⟩)), (5, .pointer (some ⟨g90, 0, none⟩)), (6, .slice A87 (List.length r78.1) c88), (9, .slice A118 (List.length r109.1) c119), (11, .slice A130 (List.length r121.1) c131)] ∧ Hp S Fa w0 w_ [.ro false (cInt .u8) A13 t, .ro false cBool A1 aAccept, .ro false (cInt .i64) A5 aGuard, .ro false cNode A9 aNodes, .box g17 43 [.int .i64 aProps, .slice A1 (List.length aAccept) c2, .slice A5 (List.length aGuard) c6, .slice A9 (List.length aNodes) c10], .rowx true cBool 4 A69 c70 r60.2.1.1 r60.2.1.2, .rowx true (cInt .i64) 3 A72 c73 r60.2.2.1.1 r60.2.2.1.2, .rowx true cNode 75 A75 c76 r60.2.2.2.1 r60.2.2.2.2, .box g90 43 [.int .i64 r60.1, .slice A69 (List.length r60.2.1.1) c70, .slice A72 (List.length r60.2.2.1.1) c73, .slice A75 (List.length r60.2.2.2.1) c76], .rowx true (cInt .u8) 22 A87 c88 r78.1 r78.2, .row true (cInt .u8) 29 A118 c119 r109.1, .row true (cInt .u8) 29 A130 c131 r121.1] ∧ x262 = x267)) ?_ ?_
 ·
  refine loopV (fun m266 a w265 => ∃ (x248 : List Int) (k251 : Int), ∃ (A249 : Option Addr) (c250 : Nat), Fr a 121 [(1, .slice A13 (List.length t) c14), (2, .pointer (some ⟨g17, 0, none⟩)), (5, .pointer (some ⟨g90, 0, none⟩)), (6, .slice A87 (List.length r78.1) c88), (7, .slice A249 (List.length x248) c250), (9, .slice A118 (List.length r109.1) c119), (11, .slice A130 (List.length r121.1) c131), (17, .int .i64 k251)] ∧ Hp S Fa w0 w265 [.ro false (cInt .u8) A13 t, .ro false cBool A1 aAccept, .ro false (cInt .i64) A5 aGuard, .ro false cNode A9 aNodes, .box g17 43 [.int .i64 aProps, .slice A1 (List.length aAccept) c2, .slice A5 (List.length aGuard) c6, .slice A9 (List.length aNodes) c10], .rowx true cBool 4 A69 c70 r60.2.1.1 r60.2.1.2, .rowx true (cInt .i64) 3 A72 c73 r60.2.2.1.1 r60.2.2.1.2, .rowx true cNode 75 A75 c76 r60.2.2.2.1 r60.2.2.2.2, .box g90 43 [.int .i64 r60.1, .slice A69 (List.length r60.2.1.1) c70, .slice A72 (List.length r60.2.2.1.1) c73, .slice A75 (List.length r60.2.2.2.1) c76], .rowx true (cInt .u8) 22 A87 c88 r78.1 r78.2, .row true (cInt .u8) 29 A249 c250 x248, .row true (cInt .u8) 29 A118 c119 r109.1, .row true (cInt .u8) 29 A130 c131 r121.1] ∧ law21_WatchTells_l2 N m266 x248 k251 = some x262) N ?_ ?_
  ·
   exact ⟨r97.1, 0, A106, c107, E.pick _ ⟨rfl, rfl, rfl, rfl, rfl, rfl, rfl, rfl, trivial⟩, H.sel [0, 1, 2, 3, 4, 5, 6, 7, 8, 9, 10, 11, 12] rfl, hL263⟩
  clear E H hL263; intro m266 a w265 hI_
  obtain ⟨x248, k251, A249, c250, E, H, hP⟩ := hI_
  obtain ⟨m261, rfl⟩ : ∃ q_, m266 = q_ + 1 := by cases m266 with | zero => rw [law21_WatchTells_l2] at hP; cases hP | succ q_ => exact ⟨q_, rfl⟩
  rw [law21_WatchTells_l2] at hP
  refine wp_seq ?_
  refine wp_seq ?_
  refine wp_region_lit ?_
  refine vn tbok 4 [] [(102, .bool (decide (k251 < (((List.length x248) : Nat) : Int))))] [] E (by kernel_rfl) (by kernel_rfl) trivial ?_
  clear E; intro a E
  refine wpList_nil ?_
  refine th_n ?_
  refine E.cases (t := 102) rfl (fun hb_ E_ => ?_) (fun hb_ E_ => ?_)
  ·
   replace E := E_; clear E_
   have h268 : k251 < (((List.length x248) : Nat) : Int) := of_decide_eq_true hb_
   clear hb_; replace hP := ite_t h268 hP
   refine c_true E rfl ?_
   refine wp_skip ?_
   refine th_n ?_
   refine wp_seq ?_
   refine wp_block ?_
   refine wp_region_lit ?_
   obtain ⟨g269, hP⟩ := ask_inv hP
   obtain ⟨b270, e_b270⟩ := H.raddr 10 rfl (idx_pos g269)
   subst e_b270
   refine vn tbok 3 [] [(107, .pointer (some ⟨b270, 0 + (Int.toNat k251) * 1, none⟩))] [0 ≤ k251 ∧ k251 < (((List.length x248) : Nat) : Int)] E (by kernel_rfl) (by kernel_rfl) (g269) ?_
   clear E; intro a E
   refine h_set (g := b270) (i := k251) 9 H 10 rfl E rfl rfl rfl rfl tbok rfl (fun _ HF_ => rfl) rfl g269 rfl ?_
   clear E; intro w272 a hc273 H_ E
   replace H := H_; clear H_; try dsimp only [setn, addE, goneL] at H
   have hn274 : (List.length x248) = (List.length (List.set x248 (Int.toNat k251) 9)) := by simp only [List.length_set]
   replace E := E.same (t := 7) (u := .slice (some ⟨b270, 0, none⟩) (List.length (List.set x248 (Int.toNat k251) 9)) c250) rfl (congrArg (fun n_ => Value.slice (some ⟨b270, 0, none⟩) n_ c250) hn274)
   refine wpList_nil ?_
   refine bl_n ?_
   refine th_n ?_
   refine wp_region_lit ?_
   obtain ⟨g275, hP⟩ := ask_inv hP
   refine vn tbok 3 [.int .i64 (k251 + 1)] [(17, .int .i64 (k251 + 1))] [IntKind.i64.wrap (k251 + 1) = k251 + 1] E (by kernel_rfl) (by kernel_rfl) (wrap_in g275) ?_
   clear E; intro a E
   refine wpList_nil ?_
   exact th_n ⟨m261, Nat.lt_succ_self _, List.set x248 (Int.toNat k251) 9, k251 + 1, (some ⟨b270, 0, none⟩), c250, E.pick _ ⟨rfl, rfl, rfl, rfl, rfl, rfl, rfl, rfl, trivial⟩, H.sel [0, 1, 2, 3, 4, 5, 6, 7, 8, 9, 10, 11, 12] rfl, hP⟩
  replace E := E_; clear E_
  have h276 : ¬ (k251 < (((List.length x248) : Nat) : Int)) := of_decide_eq_false hb_
  clear hb_; replace hP := ite_f h276 hP
  refine c_false E rfl ?_
  refine wp_exit ?_
  refine th_exit ?_
  have hx_ := Option.some.inj hP
  refine th_exit (.inl ⟨0, rfl, ?_⟩)
  exact ⟨rfl, (), E.pick _ ⟨rfl, rfl, rfl, rfl, rfl, rfl, trivial⟩, H.sel [0, 1, 2, 3, 4, 5, 6, 7, 8, 9, 11, 12] rfl, hx_.symm⟩
 clear E H hL263; intro i_ a w265 hM_
 obtain ⟨rfl, x267, E, H, hx_⟩ := hM_
 subst hx_; have hP := hK264; clear hK264
 refine bl_hit ?_
 refine th_n ?_
 refine wp_seq ?_
 obtain ⟨x309, h310, hK311⟩ := bind_inv hP
 clear hP
 refine meet_cut (fun a w313 => ∃ (x312 : Bool), Fr a 121 [(4, .bool x312)] ∧ Hp S Fa w0 w313 [] ∧ x309 = x312) ?_ ?_
 ·
  have hP := h310; clear h310; rw [law21_WatchTells_j3] at hP
  refine wp_region_lit ?_
  refine vn tbok 2 [] [(108, .slice A118 (List.length r109.1) c119), (109, .slice A130 (List.length r121.1) c131)] [] E (by kernel_rfl) (by kernel_rfl) trivial ?_
  clear E; intro a E
  obtain ⟨r314, h315, hP⟩ := bind_inv hP
  obtain ⟨Fa316, Hc317, hb318⟩ := H.call [] [(10, false), (11, false)] rfl rfl trivial
  refine e_call E rfl rfl Try.func23 rfl rfl rfl (law21_same_calls A118 c119 A130 c131 r109.1 r121.1 (H.rcap 10 rfl) (H.rcap 11 rfl) Hc317 h315) ?_
  rintro v319 w320 a ⟨rfl, HR321⟩ E_
  replace E := E_ _ rfl; clear E_
  obtain ⟨H_, hc322⟩ := hb318 _ _ HR321 rfl
  replace H := H_; clear H_; try dsimp only [setn, addE, goneL] at H
  refine vn tbok 1 [] [(111, .bool r314)] [] E (by kernel_rfl) (by kernel_rfl) trivial ?_
  clear E; intro a E
  refine E.cases (t := 111) rfl (fun hb_ E_ => ?_) (fun hb_ E_ => ?_)
  ·
   replace E := E_; clear E_
   have h323 : r314 = true := hb_
   clear hb_; replace hP := ite_t h323 hP
   refine vn tbok 2 [.agg #[.int .i64 r60.1, .slice A69 (List.length r60.2.1.1) c70, .slice A72 (List.length r60.2.2.1.1) c73, .slice A75 (List.length r60.2.2.2.1) c76], .agg #[.int .i64 aProps, .slice A1 (List.length aAccept) c2, .slice A5 (List.length aGuard) c6, .slice A9 (List.length aNodes) c10]] [(112, .agg #[.int .i64 r60.1, .slice A69 (List.length r60.2.1.1) c70, .slice A72 (List.length r60.2.2.1.1) c73, .slice A75 (List.length r60.2.2.2.1) c76]), (113, .agg #[.int .i64 aProps, .slice A1 (List.length aAccept) c2, .slice A5 (List.length aGuard) c6, .slice A9 (List.length aNodes) c10])] [cellsAt w320 g90 (0) [.int .i64 r60.1, .slice A69 (List.length r60.2.1.1) c70, .slice A72 (List.length r60.2.2.1.1) c73, .slice A75 (List.length r60.2.2.2.1) c76], cellsAt w320 g17 (0) [.int .i64 aProps, .slice A1 (List.length aAccept) c2, .slice A5 (List.length aGuard) c6, .slice A9 (List.length aNodes) c10]] E (by kernel_rfl) (by kernel_rfl) ⟨(H.box 8 rfl).sub 0 _ rfl, (H.box 4 rfl).sub 0 _ rfl⟩ ?_
   clear E; intro a E
   obtain ⟨r324, h325, hP⟩ := bind_inv hP
   obtain ⟨Fa326, Hc327, hb328⟩ := H.call [] [(5, false), (5, true), (6, false), (6, true), (7, false), (7, true), (1, false), (2, false), (3, false)] rfl rfl trivial
   refine e_call E rfl rfl Try.func24 rfl rfl rfl (kit_KeptAuto_calls A69 c70 A72 c73 A75 c76 A1 c2 A5 c6 A9 c10 r60.1 r60.2.1.1 r60.2.1.2 r60.2.2.1.1 r60.2.2.1.2 r60.2.2.2.1 r60.2.2.2.2 aProps aAccept aGuard aNodes (H.rcapE 5 rfl) (H.rcapE 6 rfl) (H.rcapE 7 rfl) hk3 hk7 hk11 Hc327 h325) ?_
   rintro v329 w330 a ⟨rfl, HR331⟩ E_
   replace E := E_ _ rfl; clear E_
   obtain ⟨H_, hc332⟩ := hb328 _ _ HR331 rfl
   replace H := H_; clear H_; try dsimp only [setn, addE, goneL] at H
   refine vn tbok 2 [] [(116, .bool r324)] [] E (by kernel_rfl) (by kernel_rfl) trivial ?_
   clear E; intro a E
   refine E.cases (t := 116) rfl (fun hb_ E_ => ?_) (fun hb_ E_ => ?_)
   ·
    replace E := E_; clear E_
    have h333 : r324 = true := hb_
    clear hb_; replace hP := ite_t h333 hP
    refine vn tbok 2 [] [(117, .slice A87 (List.length r78.1) c88), (118, .slice A13 (List.length t) c14)] [] E (by kernel_rfl) (by kernel_rfl) trivial ?_
    clear E; intro a E
    obtain ⟨r334, h335, hP⟩ := bind_inv hP
    obtain ⟨Fa336, Hc337, hb338⟩ := H.call [] [(9, false), (9, true), (0, false)] rfl rfl trivial
    refine e_call E rfl rfl Try.func25 rfl rfl rfl (kit_KeptLetters_calls A87 c88 A13 c14 r78.1 r78.2 t (H.rcapE 9 rfl) hk15 Hc337 h335) ?_
    rintro v339 w340 a ⟨rfl, HR341⟩ E_
    replace E := E_ _ rfl; clear E_
    obtain ⟨H_, hc342⟩ := hb338 _ _ HR341 rfl
    replace H := H_; clear H_; try dsimp only [setn, addE, goneL] at H
    refine vn tbok 2 [] [(4, .bool r334)] [] E (by kernel_rfl) (by kernel_rfl) trivial ?_
    clear E; intro a E
    refine wpList_nil ?_
    have hx_ := Option.some.inj hP
    exact .inl ⟨rfl, r334, E.pick _ ⟨rfl, trivial⟩, H.sel [] rfl, hx_.symm⟩
   replace E := E_; clear E_
   have h343 : ¬ (r324 = true) := (ne_true_of_eq_false hb_)
   clear hb_; replace hP := ite_f h343 hP
   refine vn tbok 5 [] [(4, .bool false)] [] E (by kernel_rfl) (by kernel_rfl) trivial ?_
   clear E; intro a E
   refine wpList_nil ?_
   have hx_ := Option.some.inj hP
   exact .inl ⟨rfl, false, E.pick _ ⟨rfl, trivial⟩, H.sel [] rfl, hx_.symm⟩
  replace E := E_; clear E_
  have h344 : ¬ (r314 = true) := (ne_true_of_eq_false hb_)
  clear hb_; replace hP := ite_f h344 hP
  refine vn tbok 10 [] [(4, .bool false)] [] E (by kernel_rfl) (by kernel_rfl) trivial ?_
  clear E; intro a E
  refine wpList_nil ?_
  have hx_ := Option.some.inj hP
  exact .inl ⟨rfl, false, E.pick _ ⟨rfl, trivial⟩, H.sel [] rfl, hx_.symm⟩
 clear E H h310; rintro a w313 ⟨x312, E, H, hx_⟩
 subst hx_; have hP := hK311; clear hK311
 refine th_n ?_
 refine wp_ret ?_
 obtain rfl := Option.some.inj hP
 refine ret1 E rfl rfl ?_
 exact ⟨_, rfl, rfl, H.sel [] rfl⟩

end Go.V
