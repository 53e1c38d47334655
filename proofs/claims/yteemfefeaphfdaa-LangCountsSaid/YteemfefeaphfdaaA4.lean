/- Plain functions, and the calls that give them. -/
import Derived.Test.YteemfefeaphfdaaA3
set_option linter.all false
set_option linter.unusedVariables false
set_option linter.unnecessarySimpa false
set_option linter.unusedSimpArgs false
namespace Go.V
open Go Go.Proofs
/-! rejoinder/rejoinderlaw19.awake -/
def law19_awake (N : Nat) : Option Bool :=
  Option.bind (law19_Finally N) fun r1 =>
  Option.bind (lang_Accepts N r1.1 r1.2.1 r1.2.2.1 r1.2.2.2 ([0, 1] : List Int)) fun r24 =>
  Option.bind (law19_Finally N) fun r33 =>
  Option.bind (lang_Shortest N r33.1 r33.2.1 r33.2.2.1 r33.2.2.2) fun r51 =>
  Option.bind (law19_Finally N) fun r63 =>
  Option.bind (lang_Count N r63.1 r63.2.1 r63.2.2.1 r63.2.2.2 3) fun r81 =>
  if r24.1 = true then
    if (r24.2 : Int) = 0 then
      Option.bind (kit_SameLetters N r51.1 ([1] : List Int)) fun r97 =>
      if r97 = true then
        if r51.2.1 = true then
          if (r51.2.2 : Int) = 0 then
            if (r81.1 : Int) = 7 then
              some ((r81.2 : Int) == 0)
            else
              some false
          else
            some false
        else
          some false
      else
        some false
    else
      some false
  else
    some false
set_option maxRecDepth 100000 in
set_option maxHeartbeats 4000000 in
theorem law19_awake_calls {N : Nat} {S Fa : Nat → Prop} {w0 : World} {r : Bool} (H : Hp S Fa w0 w0 []) (hP : law19_awake N  = some r) :
    Calls Try.prog 7 #[] w0 fun e w' => ∃ v, e = .returned v ∧ v = .bool r ∧ Hp S Fa w0 w' [] := by
 refine enterV (n := 50) Try.func7 rfl rfl rfl ?_
 intro a E
 replace E := E.pick [] trivial
 rw [law19_awake] at hP
 refine wp_seq ?_
 refine wp_region_lit ?_
 refine vn tbok 1 [] [] [] E (by kernel_rfl) (by kernel_rfl) trivial ?_
 clear E; intro a E
 refine wpList_nil ?_
 refine th_n ?_
 refine wp_seq ?_
 refine wp_region_lit ?_
 obtain ⟨r1, h2, hP⟩ := bind_inv hP
 obtain ⟨Fa3, Hc4, hb5⟩ := H.call [] [] rfl rfl trivial
 refine e_call E rfl rfl Try.func34 rfl rfl rfl (law19_Finally_calls    Hc4 h2) ?_
 rintro v6 w7 a ⟨A10, c11, A13, c14, A16, c17, rfl, HR8⟩ E_
 replace E := E_ _ rfl; clear E_
 obtain ⟨H_, hc9⟩ := hb5 _ _ HR8 rfl
 replace H := H_; clear H_; try dsimp only [setn, addE, goneL] at H
 refine h_buildSlice (ps := [(0, .int .u8 0), (1, .int .u8 1)]) (cs := [.int .u8 0, .int .u8 1]) H E rfl rfl tbok rfl rfl (by kernel_rfl) ?_
 intro w20 g19 a hc21 hg23 H_ E_
 replace E := E_ _ rfl; clear E_
 replace H := H_; clear H_; try dsimp only [setn, addE, goneL] at H
 replace H := H.boxRow (cInt .u8) true ([0, 1] : List Int) 3 rfl (fun _ _ => ⟨_, _, rfl, rfl, ⟨_, _, rfl, rfl, rfl⟩⟩) (Nat.le_of_ble_eq_true rfl); try dsimp only [setn, addE, goneL] at H
 obtain ⟨r24, h25, hP⟩ := bind_inv hP
 obtain ⟨Fa26, Hc27, hb28⟩ := H.call [] [(0, false), (1, false), (2, false), (3, false)] rfl rfl trivial
 refine e_call E rfl rfl Try.func12 rfl rfl rfl (lang_Accepts_calls A10 c11 A13 c14 A16 c17 (some ⟨g19, 0, none⟩) 2 r1.1 r1.2.1 r1.2.2.1 r1.2.2.2 ([0, 1] : List Int) (H.rcap 0 rfl) (H.rcap 1 rfl) (H.rcap 2 rfl) (H.rcapx 3 rfl) Hc27 h25) ?_
 rintro v29 w30 a ⟨rfl, HR31⟩ E_
 replace E := E_ _ rfl; clear E_
 obtain ⟨H_, hc32⟩ := hb28 _ _ HR31 rfl
 replace H := H_; clear H_; try dsimp only [setn, addE, goneL] at H
 refine vn tbok 5 [] [(1, .bool r24.1), (2, .int .i64 r24.2)] [] E (by kernel_rfl) (by kernel_rfl) trivial ?_
 clear E; intro a E
 refine wpList_nil ?_
 refine th_n ?_
 refine wp_seq ?_
 refine wp_region_lit ?_
 obtain ⟨r33, h34, hP⟩ := bind_inv hP
 obtain ⟨Fa35, Hc36, hb37⟩ := H.call [] [] rfl rfl trivial
 refine e_call E rfl rfl Try.func34 rfl rfl rfl (law19_Finally_calls    Hc36 h34) ?_
 rintro v38 w39 a ⟨A42, c43, A45, c46, A48, c49, rfl, HR40⟩ E_
 replace E := E_ _ rfl; clear E_
 obtain ⟨H_, hc41⟩ := hb37 _ _ HR40 rfl
 replace H := H_; clear H_; try dsimp only [setn, addE, goneL] at H
 obtain ⟨r51, h52, hP⟩ := bind_inv hP
 obtain ⟨Fa53, Hc54, hb55⟩ := H.call [] [(4, false), (5, false), (6, false)] rfl rfl trivial
 refine e_call E rfl rfl Try.func13 rfl rfl rfl (lang_Shortest_calls A42 c43 A45 c46 A48 c49 r33.1 r33.2.1 r33.2.2.1 r33.2.2.2 (H.rcap 4 rfl) (H.rcap 5 rfl) (H.rcap 6 rfl) Hc54 h52) ?_
 rintro v56 w57 a ⟨A60, c61, rfl, HR58⟩ E_
 replace E := E_ _ rfl; clear E_
 obtain ⟨H_, hc59⟩ := hb55 _ _ HR58 rfl
 replace H := H_; clear H_; try dsimp only [setn, addE, goneL] at H
 refine vn tbok 7 [] [(3, .slice A60 (List.length r51.1) c61), (4, .bool r51.2.1), (5, .int .i64 r51.2.2)] [] E (by kernel_rfl) (by kernel_rfl) trivial ?_
 clear E; intro a E
 refine wpList_nil ?_
 refine th_n ?_
 refine wp_seq ?_
 refine wp_region_lit ?_
 obtain ⟨r63, h64, hP⟩ := bind_inv hP
 obtain ⟨Fa65, Hc66, hb67⟩ := H.call [] [] rfl rfl trivial
 refine e_call E rfl rfl Try.func34 rfl rfl rfl (law19_Finally_calls    Hc66 h64) ?_
 rintro v68 w69 a ⟨A72, c73, A75, c76, A78, c79, rfl, HR70⟩ E_
 replace E := E_ _ rfl; clear E_
 obtain ⟨H_, hc71⟩ := hb67 _ _ HR70 rfl
 replace H := H_; clear H_; try dsimp only [setn, addE, goneL] at H
 obtain ⟨r81, h82, hP⟩ := bind_inv hP
 obtain ⟨Fa83, Hc84, hb85⟩ := H.call [] [(8, false), (9, false), (10, false)] rfl rfl trivial
 refine e_call E rfl rfl Try.func17 rfl rfl rfl (lang_Count_calls A72 c73 A75 c76 A78 c79 r63.1 r63.2.1 r63.2.2.1 r63.2.2.2 3 (H.rcap 8 rfl) (H.rcap 9 rfl) (H.rcap 10 rfl) Hc84 h82) ?_
 rintro v86 w87 a ⟨rfl, HR88⟩ E_
 replace E := E_ _ rfl; clear E_
 obtain ⟨H_, hc89⟩ := hb85 _ _ HR88 rfl
 replace H := H_; clear H_; try dsimp only [setn, addE, goneL] at H
 refine vn tbok 5 [] [(6, .int .u64 r81.1), (7, .int .i64 r81.2)] [] E (by kernel_rfl) (by kernel_rfl) trivial ?_
 clear E; intro a E
 refine wpList_nil ?_
 refine th_n ?_
 refine wp_seq ?_
 refine wp_region_lit ?_
 refine vn tbok 2 [] [(26, .bool r24.1)] [] E (by kernel_rfl) (by kernel_rfl) trivial ?_
 clear E; intro a E
 refine E.cases (t := 26) rfl (fun hb_ E_ => ?_) (fun hb_ E_ => ?_)
 ·
  replace E := E_; clear E_
  have h90 : r24.1 = true := hb_
  clear hb_; replace hP := ite_t h90 hP
  refine vn tbok 4 [] [(30, .bool ((r24.2 : Int) == 0))] [] E (by kernel_rfl) (by kernel_rfl) trivial ?_
  clear E; intro a E
  refine E.cases (t := 30) rfl (fun hb_ E_ => ?_) (fun hb_ E_ => ?_)
  ·
   replace E := E_; clear E_
   have h91 : (r24.2 : Int) = 0 := eq_of_beq hb_
   clear hb_; replace hP := ite_t h91 hP
   refine vn tbok 1 [] [(31, .slice A60 (List.length r51.1) c61)] [] E (by kernel_rfl) (by kernel_rfl) trivial ?_
   clear E; intro a E
   refine h_buildSlice (ps := [(0, .int .u8 1)]) (cs := [.int .u8 1]) H E rfl rfl tbok rfl rfl (by kernel_rfl) ?_
   intro w93 g92 a hc94 hg96 H_ E_
   replace E := E_ _ rfl; clear E_
   replace H := H_; clear H_; try dsimp only [setn, addE, goneL] at H
   replace H := H.boxRow (cInt .u8) true ([1] : List Int) 11 rfl (fun _ _ => ⟨_, _, rfl, rfl, rfl⟩) (Nat.le_of_ble_eq_true rfl); try dsimp only [setn, addE, goneL] at H
   obtain ⟨r97, h98, hP⟩ := bind_inv hP
   obtain ⟨Fa99, Hc100, hb101⟩ := H.call [] [(7, false), (11, false)] rfl rfl trivial
   refine e_call E rfl rfl Try.func28 rfl rfl rfl (kit_SameLetters_calls A60 c61 (some ⟨g92, 0, none⟩) 1 r51.1 ([1] : List Int) (H.rcap 7 rfl) (H.rcapx 11 rfl) Hc100 h98) ?_
   rintro v102 w103 a ⟨rfl, HR104⟩ E_
   replace E := E_ _ rfl; clear E_
   obtain ⟨H_, hc105⟩ := hb101 _ _ HR104 rfl
   replace H := H_; clear H_; try dsimp only [setn, addE, goneL] at H
   refine vn tbok 2 [] [(35, .bool r97)] [] E (by kernel_rfl) (by kernel_rfl) trivial ?_
   clear E; intro a E
   refine E.cases (t := 35) rfl (fun hb_ E_ => ?_) (fun hb_ E_ => ?_)
   ·
    replace E := E_; clear E_
    have h106 : r97 = true := hb_
    clear hb_; replace hP := ite_t h106 hP
    refine vn tbok 3 [] [(38, .bool r51.2.1)] [] E (by kernel_rfl) (by kernel_rfl) trivial ?_
    clear E; intro a E
    refine E.cases (t := 38) rfl (fun hb_ E_ => ?_) (fun hb_ E_ => ?_)
    ·
     replace E := E_; clear E_
     have h107 : r51.2.1 = true := hb_
     clear hb_; replace hP := ite_t h107 hP
     refine vn tbok 4 [] [(42, .bool ((r51.2.2 : Int) == 0))] [] E (by kernel_rfl) (by kernel_rfl) trivial ?_
     clear E; intro a E
     refine E.cases (t := 42) rfl (fun hb_ E_ => ?_) (fun hb_ E_ => ?_)
     ·
      replace E := E_; clear E_
      have h108 : (r51.2.2 : Int) = 0 := eq_of_beq hb_
      clear hb_; replace hP := ite_t h108 hP
      refine vn tbok 4 [] [(46, .bool ((r81.1 : Int) == 7))] [] E (by kernel_rfl) (by kernel_rfl) trivial ?_
      clear E; intro a E
      refine E.cases (t := 46) rfl (fun hb_ E_ => ?_) (fun hb_ E_ => ?_)
      ·
       replace E := E_; clear E_
       have h109 : (r81.1 : Int) = 7 := eq_of_beq hb_
       clear hb_; replace hP := ite_t h109 hP
       refine vn tbok 4 [] [(0, .bool ((r81.2 : Int) == 0))] [] E (by kernel_rfl) (by kernel_rfl) trivial ?_
       clear E; intro a E
       refine wpList_nil ?_
       refine th_n ?_
       refine wp_ret ?_
       obtain rfl := Option.some.inj hP
       refine ret1 E rfl rfl ?_
       exact ⟨_, rfl, rfl, H.sel [] rfl⟩
      replace E := E_; clear E_
      have h110 : ¬ ((r81.1 : Int) = 7) := ne_of_beq_false hb_
      clear hb_; replace hP := ite_f h110 hP
      refine vn tbok 4 [] [(0, .bool false)] [] E (by kernel_rfl) (by kernel_rfl) trivial ?_
      clear E; intro a E
      refine wpList_nil ?_
      refine th_n ?_
      refine wp_ret ?_
      obtain rfl := Option.some.inj hP
      refine ret1 E rfl rfl ?_
      exact ⟨_, rfl, rfl, H.sel [] rfl⟩
     replace E := E_; clear E_
     have h111 : ¬ ((r51.2.2 : Int) = 0) := ne_of_beq_false hb_
     clear hb_; replace hP := ite_f h111 hP
     refine vn tbok 8 [] [(0, .bool false)] [] E (by kernel_rfl) (by kernel_rfl) trivial ?_
     clear E; intro a E
     refine wpList_nil ?_
     refine th_n ?_
     refine wp_ret ?_
     obtain rfl := Option.some.inj hP
     refine ret1 E rfl rfl ?_
     exact ⟨_, rfl, rfl, H.sel [] rfl⟩
    replace E := E_; clear E_
    have h112 : ¬ (r51.2.1 = true) := (ne_true_of_eq_false hb_)
    clear hb_; replace hP := ite_f h112 hP
    refine vn tbok 12 [] [(0, .bool false)] [] E (by kernel_rfl) (by kernel_rfl) trivial ?_
    clear E; intro a E
    refine wpList_nil ?_
    refine th_n ?_
    refine wp_ret ?_
    obtain rfl := Option.some.inj hP
    refine ret1 E rfl rfl ?_
    exact ⟨_, rfl, rfl, H.sel [] rfl⟩
   replace E := E_; clear E_
   have h113 : ¬ (r97 = true) := (ne_true_of_eq_false hb_)
   clear hb_; replace hP := ite_f h113 hP
   refine vn tbok 15 [] [(0, .bool false)] [] E (by kernel_rfl) (by kernel_rfl) trivial ?_
   clear E; intro a E
   refine wpList_nil ?_
   refine th_n ?_
   refine wp_ret ?_
   obtain rfl := Option.some.inj hP
   refine ret1 E rfl rfl ?_
   exact ⟨_, rfl, rfl, H.sel [] rfl⟩
  replace E := E_; clear E_
  have h114 : ¬ ((r24.2 : Int) = 0) := ne_of_beq_false hb_
  clear hb_; replace hP := ite_f h114 hP
  refine vn tbok 20 [] [(0, .bool false)] [] E (by kernel_rfl) (by kernel_rfl) trivial ?_
  clear E; intro a E
  refine wpList_nil ?_
  refine th_n ?_
  refine wp_ret ?_
  obtain rfl := Option.some.inj hP
  refine ret1 E rfl rfl ?_
  exact ⟨_, rfl, rfl, H.sel [] rfl⟩
 replace E := E_; clear E_
 have h115 : ¬ (r24.1 = true) := (ne_true_of_eq_false hb_)
 clear hb_; replace hP := ite_f h115 hP
 refine vn tbok 24 [] [(0, .bool false)] [] E (by kernel_rfl) (by kernel_rfl) trivial ?_
 clear E; intro a E
 refine wpList_nil ?_
 refine th_n ?_
 refine wp_ret ?_
 obtain rfl := Option.some.inj hP
 refine ret1 E rfl rfl ?_
 exact ⟨_, rfl, rfl, H.sel [] rfl⟩

/-! rejoinder/rejoinderlaw19.Large -/
def law19_Large (N : Nat) (aProps : Int) (aAccept : List Bool) (aGuard : List Int) (aNodes : List Nd) : Option Bool :=
  if 3 < aProps then
    if aProps ≤ 8 then
      some true
    else
      if 10 < (((List.length aAccept) : Nat) : Int) then
        if (((List.length aAccept) : Nat) : Int) ≤ 256 then
          some true
        else
          if 259 < (((List.length aAccept) : Nat) : Int) then
            some true
          else
            if 40 < (((List.length aNodes) : Nat) : Int) then
              some true
            else
              some (decide (300 < (((List.length aGuard) : Nat) : Int)))
      else
        if 259 < (((List.length aAccept) : Nat) : Int) then
          some true
        else
          if 40 < (((List.length aNodes) : Nat) : Int) then
            some true
          else
            some (decide (300 < (((List.length aGuard) : Nat) : Int)))
  else
    if 10 < (((List.length aAccept) : Nat) : Int) then
      if (((List.length aAccept) : Nat) : Int) ≤ 256 then
        some true
      else
        if 259 < (((List.length aAccept) : Nat) : Int) then
          some true
        else
          if 40 < (((List.length aNodes) : Nat) : Int) then
            some true
          else
            some (decide (300 < (((List.length aGuard) : Nat) : Int)))
    else
      if 259 < (((List.length aAccept) : Nat) : Int) then
        some true
      else
        if 40 < (((List.length aNodes) : Nat) : Int) then
          some true
        else
          some (decide (300 < (((List.length aGuard) : Nat) : Int)))
set_option maxRecDepth 100000 in
set_option maxHeartbeats 4000000 in
theorem law19_Large_calls {N : Nat} {S Fa : Nat → Prop} {w0 : World} {r : Bool} (A1 : Option Addr) (c2 : Nat) (A5 : Option Addr) (c6 : Nat) (A9 : Option Addr) (c10 : Nat) (aProps : Int) (aAccept : List Bool) (aGuard : List Int) (aNodes : List Nd) (hk3 : List.length aAccept ≤ c2) (hk7 : List.length aGuard ≤ c6) (hk11 : List.length aNodes ≤ c10) (H : Hp S Fa w0 w0 [.ro false cBool A1 aAccept, .ro false (cInt .i64) A5 aGuard, .ro false cNode A9 aNodes]) (hP : law19_Large N aProps aAccept aGuard aNodes = some r) :
    Calls Try.prog 8 #[.agg #[.int .i64 aProps, .slice A1 (List.length aAccept) c2, .slice A5 (List.length aGuard) c6, .slice A9 (List.length aNodes) c10]] w0 fun e w' => ∃ v, e = .returned v ∧ v = .bool r ∧ Hp S Fa w0 w' [] := by
 refine enterV (n := 41) Try.func8 rfl rfl rfl ?_
 intro a E
 replace E := E.pick [(0, .agg #[.int .i64 aProps, .slice A1 (List.length aAccept) c2, .slice A5 (List.length aGuard) c6, .slice A9 (List.length aNodes) c10])] ⟨rfl, trivial⟩
 rw [law19_Large] at hP
 refine wp_seq ?_
 refine wp_region_lit ?_
 refine h_box H E rfl rfl rfl ?_
 intro w14 g13 a hc15 hg17 H_ E_
 replace E := E_ _ rfl; clear E_
 replace H := H_; clear H_; try dsimp only [setn, addE, goneL] at H
 refine vn tbok 1 [] [] [] E (by kernel_rfl) (by kernel_rfl) trivial ?_
 clear E; intro a E
 refine wpList_nil ?_
 refine th_n ?_
 refine wp_seq ?_
 refine wp_region_lit ?_
 refine vn tbok 4 [.int .i64 aProps] [(6, .bool (decide (3 < aProps)))] [World.cell? w14 ⟨g13, 0, none⟩ = some (.int .i64 aProps)] E (by kernel_rfl) (by kernel_rfl) ((H.box 3 rfl).cell (j := 0) rfl) ?_
 clear E; intro a E
 refine E.cases (t := 6) rfl (fun hb_ E_ => ?_) (fun hb_ E_ => ?_)
 ·
  replace E := E_; clear E_
  have h18 : 3 < aProps := of_decide_eq_true hb_
  clear hb_; replace hP := ite_t h18 hP
  refine vn tbok 5 [.int .i64 aProps] [(11, .bool (decide (aProps ≤ 8)))] [World.cell? w14 ⟨g13, 0, none⟩ = some (.int .i64 aProps)] E (by kernel_rfl) (by kernel_rfl) ((H.box 3 rfl).cell (j := 0) rfl) ?_
  clear E; intro a E
  refine E.cases (t := 11) rfl (fun hb_ E_ => ?_) (fun hb_ E_ => ?_)
  ·
   replace E := E_; clear E_
   have h19 : aProps ≤ 8 := of_decide_eq_true hb_
   clear hb_; replace hP := ite_t h19 hP
   refine vn tbok 30 [] [(2, .bool true)] [] E (by kernel_rfl) (by kernel_rfl) trivial ?_
   clear E; intro a E
   refine wpList_nil ?_
   refine th_n ?_
   refine wp_ret ?_
   obtain rfl := Option.some.inj hP
   refine ret1 E rfl rfl ?_
   exact ⟨_, rfl, rfl, H.sel [] rfl⟩
  replace E := E_; clear E_
  have h20 : ¬ (aProps ≤ 8) := of_decide_eq_false hb_
  clear hb_; replace hP := ite_f h20 hP
  refine vn tbok 5 [.slice A1 (List.length aAccept) c2] [(16, .bool (decide (10 < (((List.length aAccept) : Nat) : Int))))] [World.cell? w14 ⟨g13, 1, none⟩ = some (.slice A1 (List.length aAccept) c2)] E (by kernel_rfl) (by kernel_rfl) ((H.box 3 rfl).cell (j := 1) rfl) ?_
  clear E; intro a E
  refine E.cases (t := 16) rfl (fun hb_ E_ => ?_) (fun hb_ E_ => ?_)
  ·
   replace E := E_; clear E_
   have h21 : 10 < (((List.length aAccept) : Nat) : Int) := of_decide_eq_true hb_
   clear hb_; replace hP := ite_t h21 hP
   refine vn tbok 7 [.slice A1 (List.length aAccept) c2] [(23, .bool (decide ((((List.length aAccept) : Nat) : Int) ≤ 256)))] [World.cell? w14 ⟨g13, 1, none⟩ = some (.slice A1 (List.length aAccept) c2)] E (by kernel_rfl) (by kernel_rfl) ((H.box 3 rfl).cell (j := 1) rfl) ?_
   clear E; intro a E
   refine E.cases (t := 23) rfl (fun hb_ E_ => ?_) (fun hb_ E_ => ?_)
   ·
    replace E := E_; clear E_
    have h22 : (((List.length aAccept) : Nat) : Int) ≤ 256 := of_decide_eq_true hb_
    clear hb_; replace hP := ite_t h22 hP
    refine vn tbok 18 [] [(2, .bool true)] [] E (by kernel_rfl) (by kernel_rfl) trivial ?_
    clear E; intro a E
    refine wpList_nil ?_
    refine th_n ?_
    refine wp_ret ?_
    obtain rfl := Option.some.inj hP
    refine ret1 E rfl rfl ?_
    exact ⟨_, rfl, rfl, H.sel [] rfl⟩
   replace E := E_; clear E_
   have h23 : ¬ ((((List.length aAccept) : Nat) : Int) ≤ 256) := of_decide_eq_false hb_
   clear hb_; replace hP := ite_f h23 hP
   refine vn tbok 6 [.slice A1 (List.length aAccept) c2] [(29, .bool (decide (259 < (((List.length aAccept) : Nat) : Int))))] [World.cell? w14 ⟨g13, 1, none⟩ = some (.slice A1 (List.length aAccept) c2)] E (by kernel_rfl) (by kernel_rfl) ((H.box 3 rfl).cell (j := 1) rfl) ?_
   clear E; intro a E
   refine E.cases (t := 29) rfl (fun hb_ E_ => ?_) (fun hb_ E_ => ?_)
   ·
    replace E := E_; clear E_
    have h24 : 259 < (((List.length aAccept) : Nat) : Int) := of_decide_eq_true hb_
    clear hb_; replace hP := ite_t h24 hP
    refine vn tbok 12 [] [(2, .bool true)] [] E (by kernel_rfl) (by kernel_rfl) trivial ?_
    clear E; intro a E
    refine wpList_nil ?_
    refine th_n ?_
    refine wp_ret ?_
    obtain rfl := Option.some.inj hP
    refine ret1 E rfl rfl ?_
    exact ⟨_, rfl, rfl, H.sel [] rfl⟩
   replace E := E_; clear E_
   have h25 : ¬ (259 < (((List.length aAccept) : Nat) : Int)) := of_decide_eq_false hb_
   clear hb_; replace hP := ite_f h25 hP
   refine vn tbok 6 [.slice A9 (List.length aNodes) c10] [(35, .bool (decide (40 < (((List.length aNodes) : Nat) : Int))))] [World.cell? w14 ⟨g13, 3, none⟩ = some (.slice A9 (List.length aNodes) c10)] E (by kernel_rfl) (by kernel_rfl) ((H.box 3 rfl).cell (j := 3) rfl) ?_
   clear E; intro a E
   refine E.cases (t := 35) rfl (fun hb_ E_ => ?_) (fun hb_ E_ => ?_)
   ·
    replace E := E_; clear E_
    have h26 : 40 < (((List.length aNodes) : Nat) : Int) := of_decide_eq_true hb_
    clear hb_; replace hP := ite_t h26 hP
    refine vn tbok 6 [] [(2, .bool true)] [] E (by kernel_rfl) (by kernel_rfl) trivial ?_
    clear E; intro a E
    refine wpList_nil ?_
    refine th_n ?_
    refine wp_ret ?_
    obtain rfl := Option.some.inj hP
    refine ret1 E rfl rfl ?_
    exact ⟨_, rfl, rfl, H.sel [] rfl⟩
   replace E := E_; clear E_
   have h27 : ¬ (40 < (((List.length aNodes) : Nat) : Int)) := of_decide_eq_false hb_
   clear hb_; replace hP := ite_f h27 hP
   refine vn tbok 6 [.slice A5 (List.length aGuard) c6] [(2, .bool (decide (300 < (((List.length aGuard) : Nat) : Int))))] [World.cell? w14 ⟨g13, 2, none⟩ = some (.slice A5 (List.length aGuard) c6)] E (by kernel_rfl) (by kernel_rfl) ((H.box 3 rfl).cell (j := 2) rfl) ?_
   clear E; intro a E
   refine wpList_nil ?_
   refine th_n ?_
   refine wp_ret ?_
   obtain rfl := Option.some.inj hP
   refine ret1 E rfl rfl ?_
   exact ⟨_, rfl, rfl, H.sel [] rfl⟩
  replace E := E_; clear E_
  have h28 : ¬ (10 < (((List.length aAccept) : Nat) : Int)) := of_decide_eq_false hb_
  clear hb_; replace hP := ite_f h28 hP
  refine vn tbok 13 [.slice A1 (List.length aAccept) c2] [(29, .bool (decide (259 < (((List.length aAccept) : Nat) : Int))))] [World.cell? w14 ⟨g13, 1, none⟩ = some (.slice A1 (List.length aAccept) c2)] E (by kernel_rfl) (by kernel_rfl) ((H.box 3 rfl).cell (j := 1) rfl) ?_
  clear E; intro a E
  refine E.cases (t := 29) rfl (fun hb_ E_ => ?_) (fun hb_ E_ => ?_)
  ·
   replace E := E_; clear E_
   have h29 : 259 < (((List.length aAccept) : Nat) : Int) := of_decide_eq_true hb_
   clear hb_; replace hP := ite_t h29 hP
   refine vn tbok 12 [] [(2, .bool true)] [] E (by kernel_rfl) (by kernel_rfl) trivial ?_
   clear E; intro a E
   refine wpList_nil ?_
   refine th_n ?_
   refine wp_ret ?_
   obtain rfl := Option.some.inj hP
   refine ret1 E rfl rfl ?_
   exact ⟨_, rfl, rfl, H.sel [] rfl⟩
  replace E := E_; clear E_
  have h30 : ¬ (259 < (((List.length aAccept) : Nat) : Int)) := of_decide_eq_false hb_
  clear hb_; replace hP := ite_f h30 hP
  refine vn tbok 6 [.slice A9 (List.length aNodes) c10] [(35, .bool (decide (40 < (((List.length aNodes) : Nat) : Int))))] [World.cell? w14 ⟨g13, 3, none⟩ = some (.slice A9 (List.length aNodes) c10)] E (by kernel_rfl) (by kernel_rfl) ((H.box 3 rfl).cell (j := 3) rfl) ?_
  clear E; intro a E
  refine E.cases (t := 35) rfl (fun hb_ E_ => ?_) (fun hb_ E_ => ?_)
  ·
   replace E := E_; clear E_
   have h31 : 40 < (((List.length aNodes) : Nat) : Int) := of_decide_eq_true hb_
   clear hb_; replace hP := ite_t h31 hP
   refine vn tbok 6 [] [(2, .bool true)] [] E (by kernel_rfl) (by kernel_rfl) trivial ?_
   clear E; intro a E
   refine wpList_nil ?_
   refine th_n ?_
   refine wp_ret ?_
   obtain rfl := Option.some.inj hP
   refine ret1 E rfl rfl ?_
   exact ⟨_, rfl, rfl, H.sel [] rfl⟩
  replace E := E_; clear E_
  have h32 : ¬ (40 < (((List.length aNodes) : Nat) : Int)) := of_decide_eq_false hb_
  clear hb_; replace hP := ite_f h32 hP
  refine vn tbok 6 [.slice A5 (List.length aGuard) c6] [(2, .bool (decide (300 < (((List.length aGuard) : Nat) : Int))))] [World.cell? w14 ⟨g13, 2, none⟩ = some (.slice A5 (List.length aGuard) c6)] E (by kernel_rfl) (by kernel_rfl) ((H.box 3 rfl).cell (j := 2) rfl) ?_
  clear E; intro a E
  refine wpList_nil ?_
  refine th_n ?_
  refine wp_ret ?_
  obtain rfl := Option.some.inj hP
  refine ret1 E rfl rfl ?_
  exact ⟨_, rfl, rfl, H.sel [] rfl⟩
 replace E := E_; clear E_
 have h33 : ¬ (3 < aProps) := of_decide_eq_false hb_
 clear hb_; replace hP := ite_f h33 hP
 refine vn tbok 10 [.slice A1 (List.length aAccept) c2] [(11, .bool false), (16, .bool (decide (10 < (((List.length aAccept) : Nat) : Int))))] [World.cell? w14 ⟨g13, 1, none⟩ = some (.slice A1 (List.length aAccept) c2)] E (by kernel_rfl) (by kernel_rfl) ((H.box 3 rfl).cell (j := 1) rfl) ?_
 clear E; intro a E
 refine E.cases (t := 16) rfl (fun hb_ E_ => ?_) (fun hb_ E_ => ?_)
 ·
  replace E := E_; clear E_
  have h34 : 10 < (((List.length aAccept) : Nat) : Int) := of_decide_eq_true hb_
  clear hb_; replace hP := ite_t h34 hP
  refine vn tbok 7 [.slice A1 (List.length aAccept) c2] [(23, .bool (decide ((((List.length aAccept) : Nat) : Int) ≤ 256)))] [World.cell? w14 ⟨g13, 1, none⟩ = some (.slice A1 (List.length aAccept) c2)] E (by kernel_rfl) (by kernel_rfl) ((H.box 3 rfl).cell (j := 1) rfl) ?_
  clear E; intro a E
  refine E.cases (t := 23) rfl (fun hb_ E_ => ?_) (fun hb_ E_ => ?_)
  ·
   replace E := E_; clear E_
   have h35 : (((List.length aAccept) : Nat) : Int) ≤ 256 := of_decide_eq_true hb_
   clear hb_; replace hP := ite_t h35 hP
   refine vn tbok 18 [] [(2, .bool true)] [] E (by kernel_rfl) (by kernel_rfl) trivial ?_
   clear E; intro a E
   refine wpList_nil ?_
   refine th_n ?_
   refine wp_ret ?_
   obtain rfl := Option.some.inj hP
   refine ret1 E rfl rfl ?_
   exact ⟨_, rfl, rfl, H.sel [] rfl⟩
  replace E := E_; clear E_
  have h36 : ¬ ((((List.length aAccept) : Nat) : Int) ≤ 256) := of_decide_eq_false hb_
  clear hb_; replace hP := ite_f h36 hP
  refine vn tbok 6 [.slice A1 (List.length aAccept) c2] [(29, .bool (decide (259 < (((List.length aAccept) : Nat) : Int))))] [World.cell? w14 ⟨g13, 1, none⟩ = some (.slice A1 (List.length aAccept) c2)] E (by kernel_rfl) (by kernel_rfl) ((H.box 3 rfl).cell (j := 1) rfl) ?_
  clear E; intro a E
  refine E.cases (t := 29) rfl (fun hb_ E_ => ?_) (fun hb_ E_ => ?_)
  ·
   replace E := E_; clear E_
   have h37 : 259 < (((List.length aAccept) : Nat) : Int) := of_decide_eq_true hb_
   clear hb_; replace hP := ite_t h37 hP
   refine vn tbok 12 [] [(2, .bool true)] [] E (by kernel_rfl) (by kernel_rfl) trivial ?_
   clear E; intro a E
   refine wpList_nil ?_
   refine th_n ?_
   refine wp_ret ?_
   obtain rfl := Option.some.inj hP
   refine ret1 E rfl rfl ?_
   exact ⟨_, rfl, rfl, H.sel [] rfl⟩
  replace E := E_; clear E_
  have h38 : ¬ (259 < (((List.length aAccept) : Nat) : Int)) := of_decide_eq_false hb_
  clear hb_; replace hP := ite_f h38 hP
  refine vn tbok 6 [.slice A9 (List.length aNodes) c10] [(35, .bool (decide (40 < (((List.length aNodes) : Nat) : Int))))] [World.cell? w14 ⟨g13, 3, none⟩ = some (.slice A9 (List.length aNodes) c10)] E (by kernel_rfl) (by kernel_rfl) ((H.box 3 rfl).cell (j := 3) rfl) ?_
  clear E; intro a E
  refine E.cases (t := 35) rfl (fun hb_ E_ => ?_) (fun hb_ E_ => ?_)
  ·
   replace E := E_; clear E_
   have h39 : 40 < (((List.length aNodes) : Nat) : Int) := of_decide_eq_true hb_
   clear hb_; replace hP := ite_t h39 hP
   refine vn tbok 6 [] [(2, .bool true)] [] E (by kernel_rfl) (by kernel_rfl) trivial ?_
   clear E; intro a E
   refine wpList_nil ?_
   refine th_n ?_
   refine wp_ret ?_
   obtain rfl := Option.some.inj hP
   refine ret1 E rfl rfl ?_
   exact ⟨_, rfl, rfl, H.sel [] rfl⟩
  replace E := E_; clear E_
  have h40 : ¬ (40 < (((List.length aNodes) : Nat) : Int)) := of_decide_eq_false hb_
  clear hb_; replace hP := ite_f h40 hP
  refine vn tbok 6 [.slice A5 (List.length aGuard) c6] [(2, .bool (decide (300 < (((List.length aGuard) : Nat) : Int))))] [World.cell? w14 ⟨g13, 2, none⟩ = some (.slice A5 (List.length aGuard) c6)] E (by kernel_rfl) (by kernel_rfl) ((H.box 3 rfl).cell (j := 2) rfl) ?_
  clear E; intro a E
  refine wpList_nil ?_
  refine th_n ?_
  refine wp_ret ?_
  obtain rfl := Option.some.inj hP
  refine ret1 E rfl rfl ?_
  exact ⟨_, rfl, rfl, H.sel [] rfl⟩
 replace E := E_; clear E_
 have h41 : ¬ (10 < (((List.length aAccept) : Nat) : Int)) := of_decide_eq_false hb_
 clear hb_; replace hP := ite_f h41 hP
 refine vn tbok 13 [.slice A1 (List.length aAccept) c2] [(29, .bool (decide (259 < (((List.length aAccept) : Nat) : Int))))] [World.cell? w14 ⟨g13, 1, none⟩ = some (.slice A1 (List.length aAccept) c2)] E (by kernel_rfl) (by kernel_rfl) ((H.box 3 rfl).cell (j := 1) rfl) ?_
 clear E; intro a E
 refine E.cases (t := 29) rfl (fun hb_ E_ => ?_) (fun hb_ E_ => ?_)
 ·
  replace E := E_; clear E_
  have h42 : 259 < (((List.length aAccept) : Nat) : Int) := of_decide_eq_true hb_
  clear hb_; replace hP := ite_t h42 hP
  refine vn tbok 12 [] [(2, .bool true)] [] E (by kernel_rfl) (by kernel_rfl) trivial ?_
  clear E; intro a E
  refine wpList_nil ?_
  refine th_n ?_
  refine wp_ret ?_
  obtain rfl := Option.some.inj hP
  refine ret1 E rfl rfl ?_
  exact ⟨_, rfl, rfl, H.sel [] rfl⟩
 replace E := E_; clear E_
 have h43 : ¬ (259 < (((List.length aAccept) : Nat) : Int)) := of_decide_eq_false hb_
 clear hb_; replace hP := ite_f h43 hP
 refine vn tbok 6 [.slice A9 (List.length aNodes) c10] [(35, .bool (decide (40 < (((List.length aNodes) : Nat) : Int))))] [World.cell? w14 ⟨g13, 3, none⟩ = some (.slice A9 (List.length aNodes) c10)] E (by kernel_rfl) (by kernel_rfl) ((H.box 3 rfl).cell (j := 3) rfl) ?_
 clear E; intro a E
 refine E.cases (t := 35) rfl (fun hb_ E_ => ?_) (fun hb_ E_ => ?_)
 ·
  replace E := E_; clear E_
  have h44 : 40 < (((List.length aNodes) : Nat) : Int) := of_decide_eq_true hb_
  clear hb_; replace hP := ite_t h44 hP
  refine vn tbok 6 [] [(2, .bool true)] [] E (by kernel_rfl) (by kernel_rfl) trivial ?_
  clear E; intro a E
  refine wpList_nil ?_
  refine th_n ?_
  refine wp_ret ?_
  obtain rfl := Option.some.inj hP
  refine ret1 E rfl rfl ?_
  exact ⟨_, rfl, rfl, H.sel [] rfl⟩
 replace E := E_; clear E_
 have h45 : ¬ (40 < (((List.length aNodes) : Nat) : Int)) := of_decide_eq_false hb_
 clear hb_; replace hP := ite_f h45 hP
 refine vn tbok 6 [.slice A5 (List.length aGuard) c6] [(2, .bool (decide (300 < (((List.length aGuard) : Nat) : Int))))] [World.cell? w14 ⟨g13, 2, none⟩ = some (.slice A5 (List.length aGuard) c6)] E (by kernel_rfl) (by kernel_rfl) ((H.box 3 rfl).cell (j := 2) rfl) ?_
 clear E; intro a E
 refine wpList_nil ?_
 refine th_n ?_
 refine wp_ret ?_
 obtain rfl := Option.some.inj hP
 refine ret1 E rfl rfl ?_
 exact ⟨_, rfl, rfl, H.sel [] rfl⟩

/-! rejoinder/rejoinderlaw19.Real -/
def law19_Real (N : Nat) (aProps : Int) (aAccept : List Bool) (aGuard : List Int) (aNodes : List Nd) : Option Bool :=
  if 0 < (((List.length aAccept) : Nat) : Int) then
    some (((((List.length aGuard) : Nat) : Int) : Int) == (((List.length aAccept) : Nat) : Int))
  else
    some false
set_option maxRecDepth 100000 in
set_option maxHeartbeats 4000000 in
theorem law19_Real_calls {N : Nat} {S Fa : Nat → Prop} {w0 : World} {r : Bool} (A1 : Option Addr) (c2 : Nat) (A5 : Option Addr) (c6 : Nat) (A9 : Option Addr) (c10 : Nat) (aProps : Int) (aAccept : List Bool) (aGuard : List Int) (aNodes : List Nd) (hk3 : List.length aAccept ≤ c2) (hk7 : List.length aGuard ≤ c6) (hk11 : List.length aNodes ≤ c10) (H : Hp S Fa w0 w0 [.ro false cBool A1 aAccept, .ro false (cInt .i64) A5 aGuard, .ro false cNode A9 aNodes]) (hP : law19_Real N aProps aAccept aGuard aNodes = some r) :
    Calls Try.prog 11 #[.agg #[.int .i64 aProps, .slice A1 (List.length aAccept) c2, .slice A5 (List.length aGuard) c6, .slice A9 (List.length aNodes) c10]] w0 fun e w' => ∃ v, e = .returned v ∧ v = .bool r ∧ Hp S Fa w0 w' [] := by
 refine enterV (n := 16) Try.func11 rfl rfl rfl ?_
 intro a E
 replace E := E.pick [(0, .agg #[.int .i64 aProps, .slice A1 (List.length aAccept) c2, .slice A5 (List.length aGuard) c6, .slice A9 (List.length aNodes) c10])] ⟨rfl, trivial⟩
 rw [law19_Real] at hP
 refine wp_seq ?_
 refine wp_region_lit ?_
 refine h_box H E rfl rfl rfl ?_
 intro w14 g13 a hc15 hg17 H_ E_
 replace E := E_ _ rfl; clear E_
 replace H := H_; clear H_; try dsimp only [setn, addE, goneL] at H
 refine vn tbok 1 [] [] [] E (by kernel_rfl) (by kernel_rfl) trivial ?_
 clear E; intro a E
 refine wpList_nil ?_
 refine th_n ?_
 refine wp_seq ?_
 refine wp_region_lit ?_
 refine vn tbok 5 [.slice A1 (List.length aAccept) c2] [(7, .bool (decide (0 < (((List.length aAccept) : Nat) : Int))))] [World.cell? w14 ⟨g13, 1, none⟩ = some (.slice A1 (List.length aAccept) c2)] E (by kernel_rfl) (by kernel_rfl) ((H.box 3 rfl).cell (j := 1) rfl) ?_
 clear E; intro a E
 refine E.cases (t := 7) rfl (fun hb_ E_ => ?_) (fun hb_ E_ => ?_)
 ·
  replace E := E_; clear E_
  have h18 : 0 < (((List.length aAccept) : Nat) : Int) := of_decide_eq_true hb_
  clear hb_; replace hP := ite_t h18 hP
  refine vn tbok 9 [.slice A5 (List.length aGuard) c6, .slice A1 (List.length aAccept) c2] [(2, .bool (((((List.length aGuard) : Nat) : Int) : Int) == (((List.length aAccept) : Nat) : Int)))] [World.cell? w14 ⟨g13, 2, none⟩ = some (.slice A5 (List.length aGuard) c6), World.cell? w14 ⟨g13, 1, none⟩ = some (.slice A1 (List.length aAccept) c2)] E (by kernel_rfl) (by kernel_rfl) ⟨(H.box 3 rfl).cell (j := 2) rfl, (H.box 3 rfl).cell (j := 1) rfl⟩ ?_
  clear E; intro a E
  refine wpList_nil ?_
  refine th_n ?_
  refine wp_ret ?_
  obtain rfl := Option.some.inj hP
  refine ret1 E rfl rfl ?_
  exact ⟨_, rfl, rfl, H.sel [] rfl⟩
 replace E := E_; clear E_
 have h19 : ¬ (0 < (((List.length aAccept) : Nat) : Int)) := of_decide_eq_false hb_
 clear hb_; replace hP := ite_f h19 hP
 refine vn tbok 9 [] [(2, .bool false)] [] E (by kernel_rfl) (by kernel_rfl) trivial ?_
 clear E; intro a E
 refine wpList_nil ?_
 refine th_n ?_
 refine wp_ret ?_
 obtain rfl := Option.some.inj hP
 refine ret1 E rfl rfl ?_
 exact ⟨_, rfl, rfl, H.sel [] rfl⟩

/-! rejoinder/lang.Words -/
def lang_Words_l0 (N : Nat) (aProps : Int) (aAccept : List Bool) (aGuard : List Int) (aNodes : List Nd) (most : Int) (r18 : (List (List Int)) × Int) : Nat → (List (List (Int × Bool))) → Int → Bool → Int → Option ((List (List (Int × Bool))) × Int × Bool)
  | 0, _, _, _, _ => none
  | m205 + 1, left126, total129, total130, n131 =>
    if n131 ≤ most then
      Option.bind (lang_counts N aProps aAccept aGuard aNodes r18.1 n131) fun r214 =>
      ask (List.length left126 + List.length ([r214] : List (List (Int × Bool))) ≤ 1000000000) <|
      ask (idx n131 (List.length (left126 ++ ([r214] : List (List (Int × Bool)))))) <|
      ask (idx (0 : Int) (List.length (List.getD (left126 ++ ([r214] : List (List (Int × Bool)))) (Int.toNat n131) []))) <|
      Option.bind (lang_count_add N (total129, total130) (List.getD (List.getD (left126 ++ ([r214] : List (List (Int × Bool)))) (Int.toNat n131) []) (Int.toNat (0 : Int)) (0, false))) fun r323 =>
      ask (in64 (n131 + 1)) <|
      lang_Words_l0 N aProps aAccept aGuard aNodes most r18 m205 (left126 ++ ([r214] : List (List (Int × Bool)))) r323.1 r323.2 (n131 + 1)
    else
      some (left126, total129, total130)
def lang_Words_l9 (N : Nat) (r18 : (List (List Int)) × Int) (x206 : (List (List (Int × Bool))) × Int × Bool) (n416 : Int) (x30230 : Int) (x40496 : Int) (x42965 : Int) : Nat → Int → Option Unit
  | 0, _ => none
  | m43593 + 1, x43554 =>
    if x43554 < (((List.length (List.getD r18.1 (Int.toNat (List.getD (List.getD r18.1 (Int.toNat (List.getD (List.getD r18.1 (Int.toNat (List.getD (List.getD r18.1 (Int.toNat (0 : Int)) []) (Int.toNat x30230) 0)) []) (Int.toNat x40496) 0)) []) (Int.toNat x42965) 0)) [])) : Nat) : Int) then
      ask (idx x43554 (List.length (List.getD r18.1 (Int.toNat (List.getD (List.getD r18.1 (Int.toNat (List.getD (List.getD r18.1 (Int.toNat (List.getD (List.getD r18.1 (Int.toNat (0 : Int)) []) (Int.toNat x30230) 0)) []) (Int.toNat x40496) 0)) []) (Int.toNat x42965) 0)) []))) <|
      ask (in64 ((((n416 - 1) - 1) - 1) - 1)) <|
      ask (idx ((((n416 - 1) - 1) - 1) - 1) (List.length x206.1)) <|
      ask (idx (List.getD (List.getD r18.1 (Int.toNat (List.getD (List.getD r18.1 (Int.toNat (List.getD (List.getD r18.1 (Int.toNat (List.getD (List.getD r18.1 (Int.toNat (0 : Int)) []) (Int.toNat x30230) 0)) []) (Int.toNat x40496) 0)) []) (Int.toNat x42965) 0)) []) (Int.toNat x43554) 0) (List.length (List.getD x206.1 (Int.toNat ((((n416 - 1) - 1) - 1) - 1)) []))) <|
      if 0 < ((List.getD (List.getD x206.1 (Int.toNat ((((n416 - 1) - 1) - 1) - 1)) []) (Int.toNat (List.getD (List.getD r18.1 (Int.toNat (List.getD (List.getD r18.1 (Int.toNat (List.getD (List.getD r18.1 (Int.toNat (List.getD (List.getD r18.1 (Int.toNat (0 : Int)) []) (Int.toNat x30230) 0)) []) (Int.toNat x40496) 0)) []) (Int.toNat x42965) 0)) []) (Int.toNat x43554) 0)) (0, false)).1) then
        none
      else
        ask (in64 (x43554 + 1)) <|
        lang_Words_l9 N r18 x206 n416 x30230 x40496 x42965 m43593 (x43554 + 1)
    else
      some ()
def lang_Words_f8 (N : Nat) (r18 : (List (List Int)) × Int) (x206 : (List (List (Int × Bool))) × Int × Bool) (n416 : Int) (x30230 : Int) (x40496 : Int) (x42962 : List (List Int)) (x42965 : Int) : Option (List (List Int)) :=
    if (((n416 - 1) - 1) - 1 : Int) = 0 then
      ask (List.length ([] : List Int) + List.length (((([] : List Int) ++ ([IntKind.u8.wrap x30230] : List Int)) ++ ([IntKind.u8.wrap x40496] : List Int)) ++ ([IntKind.u8.wrap x42965] : List Int)) ≤ 1000000000) <|
      ask (List.length x42962 + List.length ([([] : List Int) ++ (((([] : List Int) ++ ([IntKind.u8.wrap x30230] : List Int)) ++ ([IntKind.u8.wrap x40496] : List Int)) ++ ([IntKind.u8.wrap x42965] : List Int))] : List (List Int)) ≤ 1000000000) <|
      some (x42962 ++ ([([] : List Int) ++ (((([] : List Int) ++ ([IntKind.u8.wrap x30230] : List Int)) ++ ([IntKind.u8.wrap x40496] : List Int)) ++ ([IntKind.u8.wrap x42965] : List Int))] : List (List Int)))
    else
      ask (idx (List.getD (List.getD r18.1 (Int.toNat (List.getD (List.getD r18.1 (Int.toNat (List.getD (List.getD r18.1 (Int.toNat (0 : Int)) []) (Int.toNat x30230) 0)) []) (Int.toNat x40496) 0)) []) (Int.toNat x42965) 0) (List.length r18.1)) <|
      Option.bind (lang_Words_l9 N r18 x206 n416 x30230 x40496 x42965 N 0) fun x43594 =>
      some x42962
def lang_Words_l7 (N : Nat) (r18 : (List (List Int)) × Int) (x206 : (List (List (Int × Bool))) × Int × Bool) (n416 : Int) (x30230 : Int) (x40496 : Int) : Nat → (List (List Int)) → Int → Option (List (List Int))
  | 0, _, _ => none
  | m43267 + 1, x42962, x42965 =>
    if x42965 < (((List.length (List.getD r18.1 (Int.toNat (List.getD (List.getD r18.1 (Int.toNat (List.getD (List.getD r18.1 (Int.toNat (0 : Int)) []) (Int.toNat x30230) 0)) []) (Int.toNat x40496) 0)) [])) : Nat) : Int) then
      ask (idx x42965 (List.length (List.getD r18.1 (Int.toNat (List.getD (List.getD r18.1 (Int.toNat (List.getD (List.getD r18.1 (Int.toNat (0 : Int)) []) (Int.toNat x30230) 0)) []) (Int.toNat x40496) 0)) []))) <|
      ask (in64 (((n416 - 1) - 1) - 1)) <|
      ask (idx (((n416 - 1) - 1) - 1) (List.length x206.1)) <|
      ask (idx (List.getD (List.getD r18.1 (Int.toNat (List.getD (List.getD r18.1 (Int.toNat (List.getD (List.getD r18.1 (Int.toNat (0 : Int)) []) (Int.toNat x30230) 0)) []) (Int.toNat x40496) 0)) []) (Int.toNat x42965) 0) (List.length (List.getD x206.1 (Int.toNat (((n416 - 1) - 1) - 1)) []))) <|
      if 0 < ((List.getD (List.getD x206.1 (Int.toNat (((n416 - 1) - 1) - 1)) []) (Int.toNat (List.getD (List.getD r18.1 (Int.toNat (List.getD (List.getD r18.1 (Int.toNat (List.getD (List.getD r18.1 (Int.toNat (0 : Int)) []) (Int.toNat x30230) 0)) []) (Int.toNat x40496) 0)) []) (Int.toNat x42965) 0)) (0, false)).1) then
        ask (List.length ((([] : List Int) ++ ([IntKind.u8.wrap x30230] : List Int)) ++ ([IntKind.u8.wrap x40496] : List Int)) + List.length ([IntKind.u8.wrap x42965] : List Int) ≤ 1000000000) <|
        Option.bind (lang_Words_f8 N r18 x206 n416 x30230 x40496 x42962 x42965) fun x43419 =>
        ask (in64 (x42965 + 1)) <|
        lang_Words_l7 N r18 x206 n416 x30230 x40496 m43267 x43419 (x42965 + 1)
      else
        ask (in64 (x42965 + 1)) <|
        lang_Words_l7 N r18 x206 n416 x30230 x40496 m43267 x42962 (x42965 + 1)
    else
      some x42962
def lang_Words_f6 (N : Nat) (r18 : (List (List Int)) × Int) (x206 : (List (List (Int × Bool))) × Int × Bool) (n416 : Int) (x30230 : Int) (x40493 : List (List Int)) (x40496 : Int) : Option (List (List Int)) :=
    if ((n416 - 1) - 1 : Int) = 0 then
      ask (List.length ([] : List Int) + List.length ((([] : List Int) ++ ([IntKind.u8.wrap x30230] : List Int)) ++ ([IntKind.u8.wrap x40496] : List Int)) ≤ 1000000000) <|
      ask (List.length x40493 + List.length ([([] : List Int) ++ ((([] : List Int) ++ ([IntKind.u8.wrap x30230] : List Int)) ++ ([IntKind.u8.wrap x40496] : List Int))] : List (List Int)) ≤ 1000000000) <|
      some (x40493 ++ ([([] : List Int) ++ ((([] : List Int) ++ ([IntKind.u8.wrap x30230] : List Int)) ++ ([IntKind.u8.wrap x40496] : List Int))] : List (List Int)))
    else
      ask (idx (List.getD (List.getD r18.1 (Int.toNat (List.getD (List.getD r18.1 (Int.toNat (0 : Int)) []) (Int.toNat x30230) 0)) []) (Int.toNat x40496) 0) (List.length r18.1)) <|
      Option.bind (lang_Words_l7 N r18 x206 n416 x30230 x40496 N x40493 0) fun x43268 =>
      some x43268
def lang_Words_l5 (N : Nat) (r18 : (List (List Int)) × Int) (x206 : (List (List (Int × Bool))) × Int × Bool) (n416 : Int) (x30230 : Int) : Nat → (List (List Int)) → Int → Option (List (List Int))
  | 0, _, _ => none
  | m41891 + 1, x40493, x40496 =>
    if x40496 < (((List.length (List.getD r18.1 (Int.toNat (List.getD (List.getD r18.1 (Int.toNat (0 : Int)) []) (Int.toNat x30230) 0)) [])) : Nat) : Int) then
      ask (idx x40496 (List.length (List.getD r18.1 (Int.toNat (List.getD (List.getD r18.1 (Int.toNat (0 : Int)) []) (Int.toNat x30230) 0)) []))) <|
      ask (in64 ((n416 - 1) - 1)) <|
      ask (idx ((n416 - 1) - 1) (List.length x206.1)) <|
      ask (idx (List.getD (List.getD r18.1 (Int.toNat (List.getD (List.getD r18.1 (Int.toNat (0 : Int)) []) (Int.toNat x30230) 0)) []) (Int.toNat x40496) 0) (List.length (List.getD x206.1 (Int.toNat ((n416 - 1) - 1)) []))) <|
      if 0 < ((List.getD (List.getD x206.1 (Int.toNat ((n416 - 1) - 1)) []) (Int.toNat (List.getD (List.getD r18.1 (Int.toNat (List.getD (List.getD r18.1 (Int.toNat (0 : Int)) []) (Int.toNat x30230) 0)) []) (Int.toNat x40496) 0)) (0, false)).1) then
        ask (List.length (([] : List Int) ++ ([IntKind.u8.wrap x30230] : List Int)) + List.length ([IntKind.u8.wrap x40496] : List Int) ≤ 1000000000) <|
        Option.bind (lang_Words_f6 N r18 x206 n416 x30230 x40493 x40496) fun x42568 =>
        ask (in64 (x40496 + 1)) <|
        lang_Words_l5 N r18 x206 n416 x30230 m41891 x42568 (x40496 + 1)
      else
        ask (in64 (x40496 + 1)) <|
        lang_Words_l5 N r18 x206 n416 x30230 m41891 x40493 (x40496 + 1)
    else
      some x40493
def lang_Words_f4 (N : Nat) (r18 : (List (List Int)) × Int) (x206 : (List (List (Int × Bool))) × Int × Bool) (n416 : Int) (x30227 : List (List Int)) (x30230 : Int) : Option (List (List Int)) :=
    if (n416 - 1 : Int) = 0 then
      ask (List.length ([] : List Int) + List.length (([] : List Int) ++ ([IntKind.u8.wrap x30230] : List Int)) ≤ 1000000000) <|
      ask (List.length x30227 + List.length ([([] : List Int) ++ (([] : List Int) ++ ([IntKind.u8.wrap x30230] : List Int))] : List (List Int)) ≤ 1000000000) <|
      some (x30227 ++ ([([] : List Int) ++ (([] : List Int) ++ ([IntKind.u8.wrap x30230] : List Int))] : List (List Int)))
    else
      ask (idx (List.getD (List.getD r18.1 (Int.toNat (0 : Int)) []) (Int.toNat x30230) 0) (List.length r18.1)) <|
      Option.bind (lang_Words_l5 N r18 x206 n416 x30230 N x30227 0) fun x41892 =>
      some x41892
def lang_Words_l3 (N : Nat) (r18 : (List (List Int)) × Int) (x206 : (List (List (Int × Bool))) × Int × Bool) (n416 : Int) : Nat → (List (List Int)) → Int → Option (List (List Int))
  | 0, _, _ => none
  | m36151 + 1, x30227, x30230 =>
    if x30230 < (((List.length (List.getD r18.1 (Int.toNat (0 : Int)) [])) : Nat) : Int) then
      ask (idx x30230 (List.length (List.getD r18.1 (Int.toNat (0 : Int)) []))) <|
      ask (in64 (n416 - 1)) <|
      ask (idx (n416 - 1) (List.length x206.1)) <|
      ask (idx (List.getD (List.getD r18.1 (Int.toNat (0 : Int)) []) (Int.toNat x30230) 0) (List.length (List.getD x206.1 (Int.toNat (n416 - 1)) []))) <|
      if 0 < ((List.getD (List.getD x206.1 (Int.toNat (n416 - 1)) []) (Int.toNat (List.getD (List.getD r18.1 (Int.toNat (0 : Int)) []) (Int.toNat x30230) 0)) (0, false)).1) then
        ask (List.length ([] : List Int) + List.length ([IntKind.u8.wrap x30230] : List Int) ≤ 1000000000) <|
        Option.bind (lang_Words_f4 N r18 x206 n416 x30227 x30230) fun x39006 =>
        ask (in64 (x30230 + 1)) <|
        lang_Words_l3 N r18 x206 n416 m36151 x39006 (x30230 + 1)
      else
        ask (in64 (x30230 + 1)) <|
        lang_Words_l3 N r18 x206 n416 m36151 x30227 (x30230 + 1)
    else
      some x30227
def lang_Words_f2 (N : Nat) (r18 : (List (List Int)) × Int) (x206 : (List (List (Int × Bool))) × Int × Bool) (out413 : List (List Int)) (n416 : Int) : Option (List (List Int)) :=
    if (n416 : Int) = 0 then
      ask (List.length ([] : List Int) + List.length ([] : List Int) ≤ 1000000000) <|
      ask (List.length out413 + List.length ([([] : List Int) ++ ([] : List Int)] : List (List Int)) ≤ 1000000000) <|
      some (out413 ++ ([([] : List Int) ++ ([] : List Int)] : List (List Int)))
    else
      ask (idx (0 : Int) (List.length r18.1)) <|
      Option.bind (lang_Words_l3 N r18 x206 n416 N out413 0) fun x36152 =>
      some x36152
def lang_Words_l1 (N : Nat) (most : Int) (r18 : (List (List Int)) × Int) (x206 : (List (List (Int × Bool))) × Int × Bool) : Nat → (List (List Int)) → Int → Option (List (List Int))
  | 0, _, _ => none
  | m12316 + 1, out413, n416 =>
    if n416 ≤ most then
      ask (idx n416 (List.length x206.1)) <|
      ask (idx (0 : Int) (List.length (List.getD x206.1 (Int.toNat n416) []))) <|
      if 0 < ((List.getD (List.getD x206.1 (Int.toNat n416) []) (Int.toNat (0 : Int)) (0, false)).1) then
        Option.bind (lang_Words_f2 N r18 x206 out413 n416) fun x24212 =>
        ask (in64 (n416 + 1)) <|
        lang_Words_l1 N most r18 x206 m12316 x24212 (n416 + 1)
      else
        ask (in64 (n416 + 1)) <|
        lang_Words_l1 N most r18 x206 m12316 out413 (n416 + 1)
    else
      some out413
def lang_Words (N : Nat) (aProps : Int) (aAccept : List Bool) (aGuard : List Int) (aNodes : List Nd) (most : Int) : Option ((List (List Int)) × Int) :=
  Option.bind (lang_table N aProps aAccept aGuard aNodes) fun r18 =>
  if (r18.2 : Int) = 0 then
    if most < 0 then
      some ([], 2)
    else
      if 3 < most then
        some ([], 2)
      else
        Option.bind (lang_Words_l0 N aProps aAccept aGuard aNodes most r18 N [] 0 false 0) fun x206 =>
        if x206.2.2 = true then
          some ([], 15)
        else
          if 4096 < x206.2.1 then
            some ([], 15)
          else
            Option.bind (lang_Words_l1 N most r18 x206 N [] 0) fun x12317 =>
            some (x12317, 0)
  else
    some ([], r18.2)
set_option maxRecDepth 100000 in
set_option maxHeartbeats 4000000 in
theorem lang_Words_calls {N : Nat} {S Fa : Nat → Prop} {w0 : World} {r : (List (List Int)) × Int} (A1 : Option Addr) (c2 : Nat) (A5 : Option Addr) (c6 : Nat) (A9 : Option Addr) (c10 : Nat) (aProps : Int) (aAccept : List Bool) (aGuard : List Int) (aNodes : List Nd) (most : Int) (hk3 : List.length aAccept ≤ c2) (hk7 : List.length aGuard ≤ c6) (hk11 : List.length aNodes ≤ c10) (H : Hp S Fa w0 w0 [.ro false cBool A1 aAccept, .ro false (cInt .i64) A5 aGuard, .ro false cNode A9 aNodes]) (hP : lang_Words N aProps aAccept aGuard aNodes most = some r) :
    Calls Try.prog 16 #[.agg #[.int .i64 aProps, .slice A1 (List.length aAccept) c2, .slice A5 (List.length aGuard) c6, .slice A9 (List.length aNodes) c10], .int .i64 most] w0 fun e w' => ∃ v, e = .returned v ∧ ∃ (A57156 : Option Addr) (c57157 : Nat), v = .tuple #[.slice A57156 (List.length r.1) c57157, .int .i64 r.2] ∧ Hp S Fa w0 w' [.row true (cSl (cInt .u8)) 27 A57156 c57157 r.1] := by
 refine enterV (n := 74) Try.func16 rfl rfl rfl ?_
 intro a E
 replace E := E.pick [(0, .agg #[.int .i64 aProps, .slice A1 (List.length aAccept) c2, .slice A5 (List.length aGuard) c6, .slice A9 (List.length aNodes) c10]), (1, .int .i64 most)] ⟨rfl, rfl, trivial⟩
 rw [lang_Words] at hP
 refine wp_seq ?_
 refine wp_region_lit ?_
 refine h_box H E rfl rfl rfl ?_
 intro w14 g13 a hc15 hg17 H_ E_
 replace E := E_ _ rfl; clear E_
 replace H := H_; clear H_; try dsimp only [setn, addE, goneL] at H
 refine vn tbok 2 [] [] [] E (by kernel_rfl) (by kernel_rfl) trivial ?_
 clear E; intro a E
 refine wpList_nil ?_
 refine th_n ?_
 refine wp_seq ?_
 refine wp_region_lit ?_
 refine vn tbok 1 [.agg #[.int .i64 aProps, .slice A1 (List.length aAccept) c2, .slice A5 (List.length aGuard) c6, .slice A9 (List.length aNodes) c10]] [(15, .agg #[.int .i64 aProps, .slice A1 (List.length aAccept) c2, .slice A5 (List.length aGuard) c6, .slice A9 (List.length aNodes) c10])] [cellsAt w14 g13 (0) [.int .i64 aProps, .slice A1 (List.length aAccept) c2, .slice A5 (List.length aGuard) c6, .slice A9 (List.length aNodes) c10]] E (by kernel_rfl) (by kernel_rfl) ((H.box 3 rfl).sub 0 _ rfl) ?_
 clear E; intro a E
 obtain ⟨r18, h19, hP⟩ := bind_inv hP
 obtain ⟨Fa20, Hc21, hb22⟩ := H.call [] [(0, false), (1, false), (2, false)] rfl rfl trivial
 refine e_call E rfl rfl Try.func41 rfl rfl rfl (lang_table_calls A1 c2 A5 c6 A9 c10 aProps aAccept aGuard aNodes hk3 hk7 hk11 Hc21 h19) ?_
 rintro v23 w24 a ⟨A27, c28, rfl, HR25⟩ E_
 replace E := E_ _ rfl; clear E_
 obtain ⟨H_, hc26⟩ := hb22 _ _ HR25 rfl
 replace H := H_; clear H_; try dsimp only [setn, addE, goneL] at H
 refine vn tbok 3 [] [(17, .slice A27 (List.length r18.1) c28), (18, .int .i64 r18.2)] [] E (by kernel_rfl) (by kernel_rfl) trivial ?_
 clear E; intro a E
 refine h_alloc H E rfl rfl tbok rfl ?_
 intro w31 g30 a hc32 hg34 H_ E_
 replace E := E_ _ rfl; clear E_
 replace H := H_; clear H_; try dsimp only [setn, addE, goneL] at H
 refine h_store (g := g30) (off := 0) H 5 rfl E rfl rfl rfl rfl tbok rfl rfl rfl rfl rfl ?_
 clear E; intro w35 a hc36 H_ E
 replace H := H_; clear H_; try dsimp only [setn, addE, goneL] at H
 refine vn tbok 1 [] [(7, .int .i64 r18.2)] [] E (by kernel_rfl) (by kernel_rfl) trivial ?_
 clear E; intro a E
 refine wpList_nil ?_
 refine th_n ?_
 refine wp_seq ?_
 refine wp_seq ?_
 refine wp_region_lit ?_
 refine vn tbok 2 [] [(20, .bool ((r18.2 : Int) != 0))] [] E (by kernel_rfl) (by kernel_rfl) trivial ?_
 clear E; intro a E
 refine wpList_nil ?_
 refine th_n ?_
 refine E.cases (t := 20) rfl (fun hb_ E_ => ?_) (fun hb_ E_ => ?_)
 ·
  replace E := E_; clear E_
  have h37 : ¬ ((r18.2 : Int) = 0) := bne_iff_ne.1 hb_
  clear hb_; replace hP := ite_f h37 hP
  refine c_true E rfl ?_
  refine wp_seq ?_
  refine wp_region_lit ?_
  refine vn tbok 3 [] [(4, .slice none 0 0), (5, .int .i64 r18.2)] [] E (by kernel_rfl) (by kernel_rfl) trivial ?_
  clear E; intro a E
  refine wpList_nil ?_
  refine th_n ?_
  refine wp_ret ?_
  refine th_ret ?_
  replace H := H.nilrow (cSl (cInt .u8)) 27; try dsimp only [setn, addE, goneL] at H
  obtain rfl := Option.some.inj hP
  refine ret2 E rfl rfl rfl ?_
  exact ⟨_, rfl, none, 0, rfl, H.sel [6] rfl⟩
 replace E := E_; clear E_
 have h39 : (r18.2 : Int) = 0 := bne_eq_false_iff_eq.1 hb_
 clear hb_; replace hP := ite_t h39 hP
 refine c_false E rfl ?_
 refine wp_skip ?_
 refine th_n ?_
 refine wp_seq ?_
 refine wp_seq ?_
 refine wp_region_lit ?_
 refine vn tbok 3 [] [(24, .bool (decide (most < 0)))] [] E (by kernel_rfl) (by kernel_rfl) trivial ?_
 clear E; intro a E
 refine E.cases (t := 24) rfl (fun hb_ E_ => ?_) (fun hb_ E_ => ?_)
 ·
  replace E := E_; clear E_
  have h40 : most < 0 := of_decide_eq_true hb_
  clear hb_; replace hP := ite_t h40 hP
  refine vn tbok 3 [] [(27, .bool true)] [] E (by kernel_rfl) (by kernel_rfl) trivial ?_
  clear E; intro a E
  refine wpList_nil ?_
  refine th_n ?_
  refine c_true E rfl ?_
  refine wp_seq ?_
  refine wp_region_lit ?_
  refine vn tbok 2 [] [(4, .slice none 0 0), (5, .int .i64 2)] [] E (by kernel_rfl) (by kernel_rfl) trivial ?_
  clear E; intro a E
  refine wpList_nil ?_
  refine th_n ?_
  refine wp_ret ?_
  refine th_ret ?_
  replace H := H.nilrow (cSl (cInt .u8)) 27; try dsimp only [setn, addE, goneL] at H
  obtain rfl := Option.some.inj hP
  refine ret2 E rfl rfl rfl ?_
  exact ⟨_, rfl, none, 0, rfl, H.sel [6] rfl⟩
 replace E := E_; clear E_
 have h42 : ¬ (most < 0) := of_decide_eq_false hb_
 clear hb_; replace hP := ite_f h42 hP
 refine vn tbok 3 [] [(27, .bool (decide (3 < most)))] [] E (by kernel_rfl) (by kernel_rfl) trivial ?_
 clear E; intro a E
 refine wpList_nil ?_
 refine th_n ?_
 refine E.cases (t := 27) rfl (fun hb_ E_ => ?_) (fun hb_ E_ => ?_)
 ·
  replace E := E_; clear E_
  have h43 : 3 < most := of_decide_eq_true hb_
  clear hb_; replace hP := ite_t h43 hP
  refine c_true E rfl ?_
  refine wp_seq ?_
  refine wp_region_lit ?_
  refine vn tbok 2 [] [(4, .slice none 0 0), (5, .int .i64 2)] [] E (by kernel_rfl) (by kernel_rfl) trivial ?_
  clear E; intro a E
  refine wpList_nil ?_
  refine th_n ?_
  refine wp_ret ?_
  refine th_ret ?_
  replace H := H.nilrow (cSl (cInt .u8)) 27; try dsimp only [setn, addE, goneL] at H
  obtain rfl := Option.some.inj hP
  refine ret2 E rfl rfl rfl ?_
  exact ⟨_, rfl, none, 0, rfl, H.sel [6] rfl⟩
 replace E := E_; clear E_
 have h45 : ¬ (3 < most) := of_decide_eq_false hb_
 clear hb_; replace hP := ite_f h45 hP
 refine c_false E rfl ?_
 refine wp_skip ?_
 refine th_n ?_
 refine wp_seq ?_
 refine wp_region_lit ?_
 refine h_alloc H E rfl rfl tbok rfl ?_
 intro w47 g46 a hc48 hg50 H_ E_
 replace E := E_ _ rfl; clear E_
 replace H := H_; clear H_; try dsimp only [setn, addE, goneL] at H
 refine wpList_nil ?_
 refine th_n ?_
 refine wp_seq ?_
 refine wp_region_lit ?_
 refine e_build (ps := []) (v := .agg #[.int .u64 0, .bool false]) E rfl rfl tbok rfl (by kernel_rfl) rfl ?_
 clear E; intro a E
 refine h_alloc H E rfl rfl tbok rfl ?_
 intro w52 g51 a hc53 hg55 H_ E_
 replace E := E_ _ rfl; clear E_
 replace H := H_; clear H_; try dsimp only [setn, addE, goneL] at H
 refine h_store (g := g51) (off := 0) H 7 rfl E rfl rfl rfl rfl tbok rfl rfl rfl rfl rfl ?_
 clear E; intro w56 a hc57 H_ E
 replace H := H_; clear H_; try dsimp only [setn, addE, goneL] at H
 refine wpList_nil ?_
 refine th_n ?_
 refine wp_seq ?_
 refine wp_seq ?_
 refine wp_region_lit ?_
 refine vn tbok 1 [] [(10, .int .i64 0)] [] E (by kernel_rfl) (by kernel_rfl) trivial ?_
 clear E; intro a E
 refine wpList_nil ?_
 refine th_n ?_
 refine wp_block ?_
 obtain ⟨x206, hL207, hK208⟩ := bind_inv hP
 clear hP
 replace H := H.nilrow (cSl cS74) 76; try dsimp only [setn, addE, goneL] at H
 refine loop_cut (fun i_ a w_ => (i_ = 0 ∧ ∃ (x212 : (List (List (Int × Bool))) × Int × Bool), ∃ (A201 : Option Addr) (c202 : Nat), Fr a 74 [(1, .int .i64 most), (6, .pointer (some ⟨g30, 0, none⟩)), (8, .pointer (some ⟨g46, 0, none⟩)), (9, .pointer (some ⟨g51, 0, none⟩))] ∧ Hp S Fa w0 w_ [.row true (cSl (cInt .i64)) 23 A27 c28 r18.1, .box g30 69 [.slice A27 (List.length r18.1) c28], .box g46 73 [.slice A201 (List.length x212.1) c202], .row true (cSl cS74) 76 A201 c202 x212.1, .box g51 75 [.int .u64 x212.2.1, .bool x212.2.2]] ∧ x206 = x212)) ?_ ?_
 ·
  refine loopV (fun m211 a w210 => ∃ (left126 : List (List (Int × Bool))) (total129 : Int) (total130 : Bool) (n131 : Int), ∃ (A127 : Option Addr) (c128 : Nat), Fr a 74 [(1, .int .i64 most), (2, .pointer (some ⟨g13, 0, none⟩)), (6, .pointer (some ⟨g30, 0, none⟩)), (8, .pointer (some ⟨g46, 0, none⟩)), (9, .pointer (some ⟨g51, 0, none⟩)), (10, .int .i64 n131)] ∧ Hp S Fa w0 w210 [.ro false cBool A1 aAccept, .ro false (cInt .i64) A5 aGuard, .ro false cNode A9 aNodes, .box g13 26 [.int .i64 aProps, .slice A1 (List.length aAccept) c2, .slice A5 (List.length aGuard) c6, .slice A9 (List.length aNodes) c10], .row true (cSl (cInt .i64)) 23 A27 c28 r18.1, .box g30 69 [.slice A27 (List.length r18.1) c28], .box g46 73 [.slice A127 (List.length left126) c128], .row true (cSl cS74) 76 A127 c128 left126, .box g51 75 [.int .u64 total129, .bool total130]] ∧ lang_Words_l0 N aProps aAccept aGuard aNodes most r18 m211 left126 total129 total130 n131 = some x206) N ?_ ?_
  ·
   exact ⟨[], 0, false, 0, none, 0, E.pick _ ⟨rfl, rfl, rfl, rfl, rfl, rfl, trivial⟩, H.sel [0, 1, 2, 3, 4, 5, 6, 8, 7] rfl, hL207⟩
  clear E H hL207; intro m211 a w210 hI_
  obtain ⟨left126, total129, total130, n131, A127, c128, E, H, hP⟩ := hI_
  obtain ⟨m205, rfl⟩ : ∃ q_, m211 = q_ + 1 := by cases m211 with | zero => rw [lang_Words_l0] at hP; cases hP | succ q_ => exact ⟨q_, rfl⟩
  rw [lang_Words_l0] at hP
  refine wp_seq ?_
  refine wp_seq ?_
  refine wp_region_lit ?_
  refine vn tbok 3 [] [(31, .bool (decide (n131 ≤ most)))] [] E (by kernel_rfl) (by kernel_rfl) trivial ?_
  clear E; intro a E
  refine wpList_nil ?_
  refine th_n ?_
  refine E.cases (t := 31) rfl (fun hb_ E_ => ?_) (fun hb_ E_ => ?_)
  ·
   replace E := E_; clear E_
   have h213 : n131 ≤ most := of_decide_eq_true hb_
   clear hb_; replace hP := ite_t h213 hP
   refine c_true E rfl ?_
   refine wp_skip ?_
   refine th_n ?_
   refine wp_seq ?_
   refine wp_block ?_
   refine wp_seq ?_
   obtain ⟨r214, h215, hP⟩ := bind_inv hP
   obtain ⟨g232, hP⟩ := ask_inv hP
   refine meet_cut (fun a w242 => ∃ (A240 : Option Addr) (c241 : Nat), Fr a 74 [(1, .int .i64 most), (2, .pointer (some ⟨g13, 0, none⟩)), (6, .pointer (some ⟨g30, 0, none⟩)), (8, .pointer (some ⟨g46, 0, none⟩)), (9, .pointer (some ⟨g51, 0, none⟩)), (10, .int .i64 n131)] ∧ Hp S Fa w0 w242 [.ro false cBool A1 aAccept, .ro false (cInt .i64) A5 aGuard, .ro false cNode A9 aNodes, .box g13 26 [.int .i64 aProps, .slice A1 (List.length aAccept) c2, .slice A5 (List.length aGuard) c6, .slice A9 (List.length aNodes) c10], .row true (cSl (cInt .i64)) 23 A27 c28 r18.1, .box g30 69 [.slice A27 (List.length r18.1) c28], .box g46 73 [.slice A240 (List.length (left126 ++ ([r214] : List (List (Int × Bool))))) c241], .row true (cSl cS74) 76 A240 c241 (left126 ++ ([r214] : List (List (Int × Bool)))), .box g51 75 [.int .u64 total129, .bool total130]]) ?_ ?_
   ·
    have HR246 := H
    refine dr_start (S := fun w_ => Chg (atL [.box g46 73 [.slice A127 (List.length left126) c128], .row true (cSl cS74) 76 A127 c128 left126]) w210 w_) (by kernel_rfl) ?_
    intro w243 hc244
    have HS245 : Chg (atL [.box g46 73 [.slice A127 (List.length left126) c128], .row true (cSl cS74) 76 A127 c128 left126]) w210 w243 := hc244.mono (fun _ _ h_ => h_.elim)
    replace H := H.ext hc244
    refine dn tbok (by kernel_rfl) [1, 2, 3] [.agg #[.int .i64 aProps, .slice A1 (List.length aAccept) c2, .slice A5 (List.length aGuard) c6, .slice A9 (List.length aNodes) c10], .slice A27 (List.length r18.1) c28] [(35, .agg #[.int .i64 aProps, .slice A1 (List.length aAccept) c2, .slice A5 (List.length aGuard) c6, .slice A9 (List.length aNodes) c10]), (36, .slice A27 (List.length r18.1) c28), (37, .int .i64 n131)] (fun w_ => [cellsAt w_ g13 (0) [.int .i64 aProps, .slice A1 (List.length aAccept) c2, .slice A5 (List.length aGuard) c6, .slice A9 (List.length aNodes) c10], World.cell? w_ ⟨g30, 0, none⟩ = some (.slice A27 (List.length r18.1) c28)]) 5 E (fun _ _ => by kernel_rfl) (by kernel_rfl) (fun w_ hS_ => ⟨(HR246.boxk [6, 7] hS_ 3 rfl rfl).sub 0 _ rfl, (HR246.boxk [6, 7] hS_ 5 rfl rfl).cell (j := 0) rfl⟩) (by kernel_rfl) HS245 ?_
    clear E; intro a E
    refine wpAnyH_all (rs := [0, 4]) (by kernel_rfl) (by simp) ?_
    refine all2 ?_ ?_
    ·
     refine wpOp_of_list rfl ?_
     refine vn tbok 1 [.slice A127 (List.length left126) c128] [(34, .slice A127 (List.length left126) c128)] [World.cell? w243 ⟨g46, 0, none⟩ = some (.slice A127 (List.length left126) c128)] E (by kernel_rfl) (by kernel_rfl) ((H.box 6 rfl).cell (j := 0) rfl) ?_
     clear E; intro a E
     refine wpList_nil ?_
     refine th_n ⟨HS245, ?_⟩
     refine wpAnyH_all (rs := [4]) (by kernel_rfl) (by simp) ?_
     refine all1 ?_
     refine wpOp_of_list rfl ?_
     obtain ⟨Fa247, Hc248, hb249⟩ := H.call [] [(0, false), (1, false), (2, false), (4, false)] rfl rfl trivial
     refine e_call E rfl rfl Try.func43 rfl rfl rfl (lang_counts_calls A1 c2 A5 c6 A9 c10 A27 c28 aProps aAccept aGuard aNodes r18.1 n131 hk3 hk7 hk11 (H.rcap 4 rfl) Hc248 h215) ?_
     rintro v250 w251 a ⟨A254, c255, rfl, HR252⟩ E_
     replace E := E_ _ rfl; clear E_
     obtain ⟨H_, hc253⟩ := hb249 _ _ HR252 rfl
     replace HS245 := HS245.ext (callS_ext hc253)
     replace H := H_; clear H_; try dsimp only [setn, addE, goneL] at H
     refine wpList_nil ?_
     refine th_n ⟨HS245, ?_⟩
     refine wpAnyH_all (rs := [5]) (by kernel_rfl) (by simp) ?_
     refine all1 ?_
     refine wpOp_of_list rfl ?_
     refine h_buildSlice (ps := [(0, .slice A254 (List.length r214) c255)]) (cs := [.slice A254 (List.length r214) c255]) H E rfl rfl tbok rfl rfl (by kernel_rfl) ?_
     intro w258 g257 a hc259 hg261 H_ E_
     replace E := E_ _ rfl; clear E_
     have hin262 : ∀ q_, q_ < w210.heap.size → q_ = g257 → (atL [.box g46 73 [.slice A127 (List.length left126) c128], .row true (cSl cS74) 76 A127 c128 left126]) q_ := fun q_ h1_ h2_ => by have hs_ := HS245.size; have h4_ : q_ = g257 := h2_; exfalso; omega
     replace HS245 := HS245.ext hc259
     replace H := H_; clear H_; try dsimp only [setn, addE, goneL] at H
     refine wpList_nil ?_
     refine th_n ⟨HS245, ?_⟩
     refine wpAnyH_all (rs := [6]) (by kernel_rfl) (by simp) ?_
     refine all1 ?_
     refine wpOp_of_list rfl ?_
     have hk263 := H.rcap 9 rfl
     replace H := H.frz 9 rfl; try dsimp only [setn, addE, goneL] at H
     refine h_append (cSl cS74) (xs := left126) (ys := ([r214] : List (List (Int × Bool)))) ([] : List (Int × Bool)) H 7 rfl E rfl rfl tbok rfl rfl rfl rfl rfl (fun _ _ => kSl_nil) rfl rfl (fun _ HF_ => HF_.srcB 10 rfl ⟨_, _, rfl, ⟨_, _, rfl, hk263, (HF_.roC 9 rfl)⟩, rfl⟩) g232 ?_
     intro w264 A265 c266 a hc267 hA268 H_ E_
     replace E := E_ _ rfl; clear E_
     have hin269 : ∀ q_, q_ < w210.heap.size → At A265 q_ → (atL [.box g46 73 [.slice A127 (List.length left126) c128], .row true (cSl cS74) 76 A127 c128 left126]) q_ := fun q_ h1_ h2_ => (hA268 q_ h2_).elim ((fun _ _ h_ => Or.inr (Or.inl h_)) q_ h1_) (fun h3_ => by have hs_ := HS245.size; exfalso; omega)
     replace HS245 := HS245.trans hc267 (fun k_ hk_ h_ => (fun _ _ h_ => Or.inr (Or.inl h_)) k_ hk_ h_)
     replace H := H_; clear H_; try dsimp only [setn, addE, goneL] at H
     refine wpList_nil ?_
     refine th_n ⟨HS245, ?_⟩
     refine wpAnyH_all (rs := [7]) (by kernel_rfl) (by simp) ?_
     refine all1 ?_
     refine wpOp_of_list rfl ?_
     refine h_store (g := g46) (off := 0) H 6 rfl E rfl rfl rfl rfl tbok rfl rfl rfl rfl rfl ?_
     clear E; intro w270 a hc271 H_ E
     replace HS245 := HS245.trans hc271 (fun k_ hk_ h_ => (fun _ _ h_ => Or.inl h_) k_ hk_ h_)
     replace H := H_; clear H_; try dsimp only [setn, addE, goneL] at H
     refine wpList_nil ?_
     refine th_n ⟨HS245, ?_⟩
     refine dr_done (by kernel_rfl) ?_
     exact .inl ⟨rfl, A265, c266, E.pick _ ⟨rfl, rfl, rfl, rfl, rfl, rfl, trivial⟩, H.sel [0, 1, 2, 3, 4, 5, 6, 7, 8] rfl⟩
    refine wpOp_of_list rfl ?_
    obtain ⟨Fa272, Hc273, hb274⟩ := H.call [] [(0, false), (1, false), (2, false), (4, false)] rfl rfl trivial
    refine e_call E rfl rfl Try.func43 rfl rfl rfl (lang_counts_calls A1 c2 A5 c6 A9 c10 A27 c28 aProps aAccept aGuard aNodes r18.1 n131 hk3 hk7 hk11 (H.rcap 4 rfl) Hc273 h215) ?_
    rintro v275 w276 a ⟨A279, c280, rfl, HR277⟩ E_
    replace E := E_ _ rfl; clear E_
    obtain ⟨H_, hc278⟩ := hb274 _ _ HR277 rfl
    replace HS245 := HS245.ext (callS_ext hc278)
    replace H := H_; clear H_; try dsimp only [setn, addE, goneL] at H
    refine wpList_nil ?_
    refine th_n ⟨HS245, ?_⟩
    refine wpAnyH_all (rs := [0, 5]) (by kernel_rfl) (by simp) ?_
    refine all2 ?_ ?_
    ·
     refine wpOp_of_list rfl ?_
     refine vn tbok 1 [.slice A127 (List.length left126) c128] [(34, .slice A127 (List.length left126) c128)] [World.cell? w276 ⟨g46, 0, none⟩ = some (.slice A127 (List.length left126) c128)] E (by kernel_rfl) (by kernel_rfl) ((H.box 6 rfl).cell (j := 0) rfl) ?_
     clear E; intro a E
     refine wpList_nil ?_
     refine th_n ⟨HS245, ?_⟩
     refine wpAnyH_all (rs := [5]) (by kernel_rfl) (by simp) ?_
     refine all1 ?_
     refine wpOp_of_list rfl ?_
     refine h_buildSlice (ps := [(0, .slice A279 (List.length r214) c280)]) (cs := [.slice A279 (List.length r214) c280]) H E rfl rfl tbok rfl rfl (by kernel_rfl) ?_
     intro w283 g282 a hc284 hg286 H_ E_
     replace E := E_ _ rfl; clear E_
     have hin287 : ∀ q_, q_ < w210.heap.size → q_ = g282 → (atL [.box g46 73 [.slice A127 (List.length left126) c128], .row true (cSl cS74) 76 A127 c128 left126]) q_ := fun q_ h1_ h2_ => by have hs_ := HS245.size; have h4_ : q_ = g282 := h2_; exfalso; omega
     replace HS245 := HS245.ext hc284
     replace H := H_; clear H_; try dsimp only [setn, addE, goneL] at H
     refine wpList_nil ?_
     refine th_n ⟨HS245, ?_⟩
     refine wpAnyH_all (rs := [6]) (by kernel_rfl) (by simp) ?_
     refine all1 ?_
     refine wpOp_of_list rfl ?_
     have hk288 := H.rcap 9 rfl
     replace H := H.frz 9 rfl; try dsimp only [setn, addE, goneL] at H
     refine h_append (cSl cS74) (xs := left126) (ys := ([r214] : List (List (Int × Bool)))) ([] : List (Int × Bool)) H 7 rfl E rfl rfl tbok rfl rfl rfl rfl rfl (fun _ _ => kSl_nil) rfl rfl (fun _ HF_ => HF_.srcB 10 rfl ⟨_, _, rfl, ⟨_, _, rfl, hk288, (HF_.roC 9 rfl)⟩, rfl⟩) g232 ?_
     intro w289 A290 c291 a hc292 hA293 H_ E_
     replace E := E_ _ rfl; clear E_
     have hin294 : ∀ q_, q_ < w210.heap.size → At A290 q_ → (atL [.box g46 73 [.slice A127 (List.length left126) c128], .row true (cSl cS74) 76 A127 c128 left126]) q_ := fun q_ h1_ h2_ => (hA293 q_ h2_).elim ((fun _ _ h_ => Or.inr (Or.inl h_)) q_ h1_) (fun h3_ => by have hs_ := HS245.size; exfalso; omega)
     replace HS245 := HS245.trans hc292 (fun k_ hk_ h_ => (fun _ _ h_ => Or.inr (Or.inl h_)) k_ hk_ h_)
     replace H := H_; clear H_; try dsimp only [setn, addE, goneL] at H
     refine wpList_nil ?_
     refine th_n ⟨HS245, ?_⟩
     refine wpAnyH_all (rs := [7]) (by kernel_rfl) (by simp) ?_
     refine all1 ?_
     refine wpOp_of_list rfl ?_
     refine h_store (g := g46) (off := 0) H 6 rfl E rfl rfl rfl rfl tbok rfl rfl rfl rfl rfl ?_
     clear E; intro w295 a hc296 H_ E
     replace HS245 := HS245.trans hc296 (fun k_ hk_ h_ => (fun _ _ h_ => Or.inl h_) k_ hk_ h_)
     replace H := H_; clear H_; try dsimp only [setn, addE, goneL] at H
     refine wpList_nil ?_
     refine th_n ⟨HS245, ?_⟩
     refine dr_done (by kernel_rfl) ?_
     exact .inl ⟨rfl, A290, c291, E.pick _ ⟨rfl, rfl, rfl, rfl, rfl, rfl, trivial⟩, H.sel [0, 1, 2, 3, 4, 5, 6, 7, 8] rfl⟩
    refine wpOp_of_list rfl ?_
    refine h_buildSlice (ps := [(0, .slice A279 (List.length r214) c280)]) (cs := [.slice A279 (List.length r214) c280]) H E rfl rfl tbok rfl rfl (by kernel_rfl) ?_
    intro w298 g297 a hc299 hg301 H_ E_
    replace E := E_ _ rfl; clear E_
    have hin302 : ∀ q_, q_ < w210.heap.size → q_ = g297 → (atL [.box g46 73 [.slice A127 (List.length left126) c128], .row true (cSl cS74) 76 A127 c128 left126]) q_ := fun q_ h1_ h2_ => by have hs_ := HS245.size; have h4_ : q_ = g297 := h2_; exfalso; omega
    replace HS245 := HS245.ext hc299
    replace H := H_; clear H_; try dsimp only [setn, addE, goneL] at H
    refine wpList_nil ?_
    refine th_n ⟨HS245, ?_⟩
    refine wpAnyH_all (rs := [0]) (by kernel_rfl) (by simp) ?_
    refine all1 ?_
    refine wpOp_of_list rfl ?_
    refine vn tbok 1 [.slice A127 (List.length left126) c128] [(34, .slice A127 (List.length left126) c128)] [World.cell? w298 ⟨g46, 0, none⟩ = some (.slice A127 (List.length left126) c128)] E (by kernel_rfl) (by kernel_rfl) ((H.box 6 rfl).cell (j := 0) rfl) ?_
    clear E; intro a E
    refine wpList_nil ?_
    refine th_n ⟨HS245, ?_⟩
    refine wpAnyH_all (rs := [6]) (by kernel_rfl) (by simp) ?_
    refine all1 ?_
    refine wpOp_of_list rfl ?_
    have hk303 := H.rcap 9 rfl
    replace H := H.frz 9 rfl; try dsimp only [setn, addE, goneL] at H
    refine h_append (cSl cS74) (xs := left126) (ys := ([r214] : List (List (Int × Bool)))) ([] : List (Int × Bool)) H 7 rfl E rfl rfl tbok rfl rfl rfl rfl rfl (fun _ _ => kSl_nil) rfl rfl (fun _ HF_ => HF_.srcB 10 rfl ⟨_, _, rfl, ⟨_, _, rfl, hk303, (HF_.roC 9 rfl)⟩, rfl⟩) g232 ?_
    intro w304 A305 c306 a hc307 hA308 H_ E_
    replace E := E_ _ rfl; clear E_
    have hin309 : ∀ q_, q_ < w210.heap.size → At A305 q_ → (atL [.box g46 73 [.slice A127 (List.length left126) c128], .row true (cSl cS74) 76 A127 c128 left126]) q_ := fun q_ h1_ h2_ => (hA308 q_ h2_).elim ((fun _ _ h_ => Or.inr (Or.inl h_)) q_ h1_) (fun h3_ => by have hs_ := HS245.size; exfalso; omega)
    replace HS245 := HS245.trans hc307 (fun k_ hk_ h_ => (fun _ _ h_ => Or.inr (Or.inl h_)) k_ hk_ h_)
    replace H := H_; clear H_; try dsimp only [setn, addE, goneL] at H
    refine wpList_nil ?_
    refine th_n ⟨HS245, ?_⟩
    refine wpAnyH_all (rs := [7]) (by kernel_rfl) (by simp) ?_
    refine all1 ?_
    refine wpOp_of_list rfl ?_
    refine h_store (g := g46) (off := 0) H 6 rfl E rfl rfl rfl rfl tbok rfl rfl rfl rfl rfl ?_
    clear E; intro w310 a hc311 H_ E
    replace HS245 := HS245.trans hc311 (fun k_ hk_ h_ => (fun _ _ h_ => Or.inl h_) k_ hk_ h_)
    replace H := H_; clear H_; try dsimp only [setn, addE, goneL] at H
    refine wpList_nil ?_
    refine th_n ⟨HS245, ?_⟩
    refine dr_done (by kernel_rfl) ?_
    exact .inl ⟨rfl, A305, c306, E.pick _ ⟨rfl, rfl, rfl, rfl, rfl, rfl, trivial⟩, H.sel [0, 1, 2, 3, 4, 5, 6, 7, 8] rfl⟩
   clear E H; rintro a w242 ⟨A240, c241, E, H⟩
   refine th_n ?_
   obtain ⟨g312, hP⟩ := ask_inv hP
   obtain ⟨b313, e_b313⟩ := H.raddr 7 rfl (idx_pos g312)
   subst e_b313
   obtain ⟨A315, c316, hl317, hk318, H⟩ := H.subSl 7 true (el_row rfl) g312
   try dsimp only [addE] at H
   obtain ⟨g320, hP⟩ := ask_inv hP
   obtain ⟨b321, o322, e_b321⟩ := (H.rd 9 rds_ro).addr (idx_pos g320)
   subst e_b321
   obtain ⟨r323, h324, hP⟩ := bind_inv hP
   have HR337 := H
   refine dr_start (S := fun w_ => Chg (atL [.box g51 75 [.int .u64 total129, .bool total130]]) w242 w_) (by kernel_rfl) ?_
   intro w334 hc335
   have HS336 : Chg (atL [.box g51 75 [.int .u64 total129, .bool total130]]) w242 w334 := hc335.mono (fun _ _ h_ => h_.elim)
   replace H := H.ext hc335
   refine dn tbok (by kernel_rfl) [1, 2, 3, 4, 5, 6] [.slice (some ⟨b313, 0, none⟩) (List.length (left126 ++ ([r214] : List (List (Int × Bool))))) c241, .slice (some ⟨b321, o322, none⟩) (List.length (List.getD (left126 ++ ([r214] : List (List (Int × Bool)))) (Int.toNat n131) [])) c316, .agg #[.int .u64 ((List.getD (List.getD (left126 ++ ([r214] : List (List (Int × Bool)))) (Int.toNat n131) []) (Int.toNat (0 : Int)) (0, false)).1), .bool ((List.getD (List.getD (left126 ++ ([r214] : List (List (Int × Bool)))) (Int.toNat n131) []) (Int.toNat (0 : Int)) (0, false)).2)]] [(47, .agg #[.int .u64 ((List.getD (List.getD (left126 ++ ([r214] : List (List (Int × Bool)))) (Int.toNat n131) []) (Int.toNat (0 : Int)) (0, false)).1), .bool ((List.getD (List.getD (left126 ++ ([r214] : List (List (Int × Bool)))) (Int.toNat n131) []) (Int.toNat (0 : Int)) (0, false)).2)])] (fun w_ => [World.cell? w_ ⟨g46, 0, none⟩ = some (.slice (some ⟨b313, 0, none⟩) (List.length (left126 ++ ([r214] : List (List (Int × Bool))))) c241), 0 ≤ n131 ∧ n131 < (((List.length (left126 ++ ([r214] : List (List (Int × Bool))))) : Nat) : Int), World.cell? w_ ⟨b313, 0 + (Int.toNat n131) * 1, none⟩ = some (.slice (some ⟨b321, o322, none⟩) (List.length (List.getD (left126 ++ ([r214] : List (List (Int × Bool)))) (Int.toNat n131) [])) c316), 0 ≤ (0 : Int) ∧ (0 : Int) < (((List.length (List.getD (left126 ++ ([r214] : List (List (Int × Bool)))) (Int.toNat n131) [])) : Nat) : Int), cellsAt w_ b321 (o322 + (Int.toNat (0 : Int)) * 2) [.int .u64 ((List.getD (List.getD (left126 ++ ([r214] : List (List (Int × Bool)))) (Int.toNat n131) []) (Int.toNat (0 : Int)) (0, false)).1), .bool ((List.getD (List.getD (left126 ++ ([r214] : List (List (Int × Bool)))) (Int.toNat n131) []) (Int.toNat (0 : Int)) (0, false)).2)]]) 3 E (fun _ _ => by kernel_rfl) (by kernel_rfl) (fun w_ hS_ => ⟨(HR337.boxk [8] hS_ 6 rfl rfl).cell (j := 0) rfl, g312, hS_.cell (hl317) (HR337.blk [8] 7 rds_row (idx_pos g312) rfl), g320, Rds.atP (HR337.rdk [8] hS_ 9 rds_ro rfl) (0, false) g320⟩) (by kernel_rfl) HS336 ?_
   clear E; intro a E
   refine wpAnyH_all (rs := [0]) (by kernel_rfl) (by simp) ?_
   refine all1 ?_
   refine wpOp_of_list rfl ?_
   refine vn tbok 1 [.agg #[.int .u64 total129, .bool total130]] [(41, .agg #[.int .u64 total129, .bool total130])] [cellsAt w334 g51 (0) [.int .u64 total129, .bool total130]] E (by kernel_rfl) (by kernel_rfl) ((H.box 8 rfl).sub 0 _ rfl) ?_
   clear E; intro a E
   refine wpList_nil ?_
   refine th_n ⟨HS336, ?_⟩
   refine wpAnyH_all (rs := [7]) (by kernel_rfl) (by simp) ?_
   refine all1 ?_
   refine wpOp_of_list rfl ?_
   obtain ⟨Fa338, Hc339, hb340⟩ := H.call [] [] rfl rfl trivial
   refine e_call E rfl rfl Try.func44 rfl rfl rfl (lang_count_add_calls  (total129, total130) (List.getD (List.getD (left126 ++ ([r214] : List (List (Int × Bool)))) (Int.toNat n131) []) (Int.toNat (0 : Int)) (0, false))  Hc339 h324) ?_
   rintro v341 w342 a ⟨rfl, HR343⟩ E_
   replace E := E_ _ rfl; clear E_
   obtain ⟨H_, hc344⟩ := hb340 _ _ HR343 rfl
   replace HS336 := HS336.ext (callS_ext hc344)
   replace H := H_; clear H_; try dsimp only [setn, addE, goneL] at H
   refine wpList_nil ?_
   refine th_n ⟨HS336, ?_⟩
   refine wpAnyH_all (rs := [8]) (by kernel_rfl) (by simp) ?_
   refine all1 ?_
   refine wpOp_of_list rfl ?_
   refine h_store (g := g51) (off := 0) H 8 rfl E rfl rfl rfl rfl tbok rfl rfl rfl rfl rfl ?_
   clear E; intro w345 a hc346 H_ E
   replace HS336 := HS336.trans hc346 (fun k_ hk_ h_ => (fun _ _ h_ => Or.inl h_) k_ hk_ h_)
   replace H := H_; clear H_; try dsimp only [setn, addE, goneL] at H
   refine wpList_nil ?_
   refine th_n ⟨HS336, ?_⟩
   refine dr_done (by kernel_rfl) ?_
   clear HS336 HR337
   refine bl_n ?_
   refine th_n ?_
   refine wp_region_lit ?_
   obtain ⟨g347, hP⟩ := ask_inv hP
   refine vn tbok 3 [.int .i64 (n131 + 1)] [(10, .int .i64 (n131 + 1))] [IntKind.i64.wrap (n131 + 1) = n131 + 1] E (by kernel_rfl) (by kernel_rfl) (wrap_in g347) ?_
   clear E; intro a E
   refine wpList_nil ?_
   exact th_n ⟨m205, Nat.lt_succ_self _, left126 ++ ([r214] : List (List (Int × Bool))), r323.1, r323.2, n131 + 1, (some ⟨b313, 0, none⟩), c241, E.pick _ ⟨rfl, rfl, rfl, rfl, rfl, rfl, trivial⟩, H.sel [0, 1, 2, 3, 4, 5, 6, 7, 8] rfl, hP⟩
  replace E := E_; clear E_
  have h348 : ¬ (n131 ≤ most) := of_decide_eq_false hb_
  clear hb_; replace hP := ite_f h348 hP
  refine c_false E rfl ?_
  refine wp_exit ?_
  refine th_exit ?_
  have hx_ := Option.some.inj hP
  refine th_exit (.inl ⟨0, rfl, ?_⟩)
  exact ⟨rfl, (left126, total129, total130), A127, c128, E.pick _ ⟨rfl, rfl, rfl, rfl, trivial⟩, H.sel [4, 5, 6, 7, 8] rfl, hx_.symm⟩
 clear E H hL207; intro i_ a w210 hM_
 obtain ⟨rfl, x212, A201, c202, E, H, hx_⟩ := hM_
 subst hx_; have hP := hK208; clear hK208
 refine bl_hit ?_
 refine th_n ?_
 refine wp_seq ?_
 refine wp_seq ?_
 refine wp_region_lit ?_
 refine vn tbok 3 [.bool x206.2.2] [(51, .bool x206.2.2)] [World.cell? w210 ⟨g51, 1, none⟩ = some (.bool x206.2.2)] E (by kernel_rfl) (by kernel_rfl) ((H.box 4 rfl).cell (j := 1) rfl) ?_
 clear E; intro a E
 refine E.cases (t := 51) rfl (fun hb_ E_ => ?_) (fun hb_ E_ => ?_)
 ·
  replace E := E_; clear E_
  have h349 : x206.2.2 = true := hb_
  clear hb_; replace hP := ite_t h349 hP
  refine vn tbok 4 [] [(55, .bool true)] [] E (by kernel_rfl) (by kernel_rfl) trivial ?_
  clear E; intro a E
  refine wpList_nil ?_
  refine th_n ?_
  refine c_true E rfl ?_
  refine wp_seq ?_
  refine wp_region_lit ?_
  refine vn tbok 2 [] [(4, .slice none 0 0), (5, .int .i64 15)] [] E (by kernel_rfl) (by kernel_rfl) trivial ?_
  clear E; intro a E
  refine wpList_nil ?_
  refine th_n ?_
  refine wp_ret ?_
  refine th_ret ?_
  replace H := H.nilrow (cSl (cInt .u8)) 27; try dsimp only [setn, addE, goneL] at H
  obtain rfl := Option.some.inj hP
  refine ret2 E rfl rfl rfl ?_
  exact ⟨_, rfl, none, 0, rfl, H.sel [5] rfl⟩
 replace E := E_; clear E_
 have h351 : ¬ (x206.2.2 = true) := (ne_true_of_eq_false hb_)
 clear hb_; replace hP := ite_f h351 hP
 refine vn tbok 4 [.int .u64 x206.2.1] [(55, .bool (decide (4096 < x206.2.1)))] [World.cell? w210 ⟨g51, 0, none⟩ = some (.int .u64 x206.2.1)] E (by kernel_rfl) (by kernel_rfl) ((H.box 4 rfl).cell (j := 0) rfl) ?_
 clear E; intro a E
 refine wpList_nil ?_
 refine th_n ?_
 refine E.cases (t := 55) rfl (fun hb_ E_ => ?_) (fun hb_ E_ => ?_)
 ·
  replace E := E_; clear E_
  have h352 : 4096 < x206.2.1 := of_decide_eq_true hb_
  clear hb_; replace hP := ite_t h352 hP
  refine c_true E rfl ?_
  refine wp_seq ?_
  refine wp_region_lit ?_
  refine vn tbok 2 [] [(4, .slice none 0 0), (5, .int .i64 15)] [] E (by kernel_rfl) (by kernel_rfl) trivial ?_
  clear E; intro a E
  refine wpList_nil ?_
  refine th_n ?_
  refine wp_ret ?_
  refine th_ret ?_
  replace H := H.nilrow (cSl (cInt .u8)) 27; try dsimp only [setn, addE, goneL] at H
  obtain rfl := Option.some.inj hP
  refine ret2 E rfl rfl rfl ?_
  exact ⟨_, rfl, none, 0, rfl, H.sel [5] rfl⟩
 replace E := E_; clear E_
 have h354 : ¬ (4096 < x206.2.1) := of_decide_eq_false hb_
 clear hb_; replace hP := ite_f h354 hP
 refine c_false E rfl ?_
 refine wp_skip ?_
 refine th_n ?_
 refine wp_seq ?_
 refine wp_region_lit ?_
 refine h_alloc H E rfl rfl tbok rfl ?_
 intro w356 g355 a hc357 hg359 H_ E_
 replace E := E_ _ rfl; clear E_
 replace H := H_; clear H_; try dsimp only [setn, addE, goneL] at H
 refine wpList_nil ?_
 refine th_n ?_
 refine wp_seq ?_
 refine wp_region_lit ?_
 refine h_alloc H E rfl rfl tbok rfl ?_
 intro w361 g360 a hc362 hg364 H_ E_
 replace E := E_ _ rfl; clear E_
 replace H := H_; clear H_; try dsimp only [setn, addE, goneL] at H
 refine wpList_nil ?_
 refine th_n ?_
 refine wp_seq ?_
 refine wp_region_lit ?_
 refine e_makeFunc (vs := [.pointer (some ⟨g355, 0, none⟩), .pointer (some ⟨g30, 0, none⟩), .pointer (some ⟨g46, 0, none⟩), .pointer (some ⟨g360, 0, none⟩)]) E rfl rfl rfl rfl ?_
 clear E; intro a E
 refine h_store (g := g360) (off := 0) H 6 rfl E rfl rfl rfl rfl tbok rfl rfl rfl rfl rfl ?_
 clear E; intro w365 a hc366 H_ E
 replace H := H_; clear H_; try dsimp only [setn, addE, goneL] at H
 refine wpList_nil ?_
 refine th_n ?_
 refine wp_seq ?_
 refine wp_seq ?_
 refine wp_region_lit ?_
 refine vn tbok 1 [] [(13, .int .i64 0)] [] E (by kernel_rfl) (by kernel_rfl) trivial ?_
 clear E; intro a E
 refine wpList_nil ?_
 refine th_n ?_
 refine wp_block ?_
 obtain ⟨x12317, hL12318, hK12319⟩ := bind_inv hP
 clear hP
 replace H := H.nilrow (cSl (cInt .u8)) 27; try dsimp only [setn, addE, goneL] at H
 refine loop_cut (fun i_ a w_ => (i_ = 2 ∧ ∃ (x12323 : List (List Int)), ∃ (A12314 : Option Addr) (c12315 : Nat), Fr a 74 [(11, .pointer (some ⟨g355, 0, none⟩))] ∧ Hp S Fa w0 w_ [.box g355 39 [.slice A12314 (List.length x12323) c12315], .row true (cSl (cInt .u8)) 27 A12314 c12315 x12323] ∧ x12317 = x12323)) ?_ ?_
 ·
  refine loopV (fun m12322 a w12321 => ∃ (out413 : List (List Int)) (n416 : Int), ∃ (A414 : Option Addr) (c415 : Nat), Fr a 74 [(1, .int .i64 most), (8, .pointer (some ⟨g46, 0, none⟩)), (11, .pointer (some ⟨g355, 0, none⟩)), (12, .pointer (some ⟨g360, 0, none⟩)), (13, .int .i64 n416)] ∧ Hp S Fa w0 w12321 [.row true (cSl cS74) 76 A201 c202 x206.1, .box g46 73 [.slice A201 (List.length x206.1) c202], .box g355 39 [.slice A414 (List.length out413) c415], .row true (cSl (cInt .u8)) 27 A414 c415 out413, .row true (cSl (cInt .i64)) 23 A27 c28 r18.1, .box g30 69 [.slice A27 (List.length r18.1) c28], .box g360 79 [.func (.func 45) #[] #[.pointer (some ⟨g355, 0, none⟩), .pointer (some ⟨g30, 0, none⟩), .pointer (some ⟨g46, 0, none⟩), .pointer (some ⟨g360, 0, none⟩)]]] ∧ lang_Words_l1 N most r18 x206 m12322 out413 n416 = some x12317) N ?_ ?_
  ·
   exact ⟨[], 0, none, 0, E.pick _ ⟨rfl, rfl, rfl, rfl, rfl, trivial⟩, H.sel [3, 2, 5, 7, 0, 1, 6] rfl, hL12318⟩
  clear E H hL12318; intro m12322 a w12321 hI_
  obtain ⟨out413, n416, A414, c415, E, H, hP⟩ := hI_
  obtain ⟨m12316, rfl⟩ : ∃ q_, m12322 = q_ + 1 := by cases m12322 with | zero => rw [lang_Words_l1] at hP; cases hP | succ q_ => exact ⟨q_, rfl⟩
  rw [lang_Words_l1] at hP
  refine wp_seq ?_
  refine wp_seq ?_
  refine wp_region_lit ?_
  refine vn tbok 3 [] [(59, .bool (decide (n416 ≤ most)))] [] E (by kernel_rfl) (by kernel_rfl) trivial ?_
  clear E; intro a E
  refine wpList_nil ?_
  refine th_n ?_
  refine E.cases (t := 59) rfl (fun hb_ E_ => ?_) (fun hb_ E_ => ?_)
  ·
   replace E := E_; clear E_
   have h12324 : n416 ≤ most := of_decide_eq_true hb_
   clear hb_; replace hP := ite_t h12324 hP
   refine c_true E rfl ?_
   refine wp_skip ?_
   refine th_n ?_
   refine wp_seq ?_
   refine wp_block ?_
   refine wp_seq ?_
   refine wp_region_lit ?_
   obtain ⟨g12325, hP⟩ := ask_inv hP
   obtain ⟨b12326, e_b12326⟩ := H.raddr 0 rfl (idx_pos g12325)
   subst e_b12326
   obtain ⟨A12328, c12329, hl12330, hk12331, H⟩ := H.subSl 0 true (el_row rfl) g12325
   try dsimp only [addE] at H
   obtain ⟨g12333, hP⟩ := ask_inv hP
   obtain ⟨b12334, o12335, e_b12334⟩ := (H.rd 7 rds_ro).addr (idx_pos g12333)
   subst e_b12334
   refine vn tbok 8 [.slice (some ⟨b12326, 0, none⟩) (List.length x206.1) c202, .slice (some ⟨b12334, o12335, none⟩) (List.length (List.getD x206.1 (Int.toNat n416) [])) c12329, .int .u64 ((List.getD (List.getD x206.1 (Int.toNat n416) []) (Int.toNat (0 : Int)) (0, false)).1)] [(69, .bool (decide (0 < ((List.getD (List.getD x206.1 (Int.toNat n416) []) (Int.toNat (0 : Int)) (0, false)).1))))] [World.cell? w12321 ⟨g46, 0, none⟩ = some (.slice (some ⟨b12326, 0, none⟩) (List.length x206.1) c202), 0 ≤ n416 ∧ n416 < (((List.length x206.1) : Nat) : Int), World.cell? w12321 ⟨b12326, 0 + (Int.toNat n416) * 1, none⟩ = some (.slice (some ⟨b12334, o12335, none⟩) (List.length (List.getD x206.1 (Int.toNat n416) [])) c12329), 0 ≤ (0 : Int) ∧ (0 : Int) < (((List.length (List.getD x206.1 (Int.toNat n416) [])) : Nat) : Int), World.cell? w12321 ⟨b12334, o12335 + (Int.toNat (0 : Int)) * 2, none⟩ = some (.int .u64 ((List.getD (List.getD x206.1 (Int.toNat n416) []) (Int.toNat (0 : Int)) (0, false)).1))] E (by kernel_rfl) (by kernel_rfl) ⟨(H.box 1 rfl).cell (j := 0) rfl, g12325, hl12330, g12333, (Rds.atP (H.rd 7 rds_ro) (0, false) g12333).1⟩ ?_
   clear E; intro a E
   refine wpList_nil ?_
   refine th_n ?_
   refine E.cases (t := 69) rfl (fun hb_ E_ => ?_) (fun hb_ E_ => ?_)
   ·
    replace E := E_; clear E_
    have h12336 : 0 < ((List.getD (List.getD x206.1 (Int.toNat n416) []) (Int.toNat (0 : Int)) (0, false)).1) := of_decide_eq_true hb_
    clear hb_; replace hP := ite_t h12336 hP
    refine c_true E rfl ?_
    refine wp_region_lit ?_
    refine vn tbok 2 [.func (.func 45) #[] #[.pointer (some ⟨g355, 0, none⟩), .pointer (some ⟨g30, 0, none⟩), .pointer (some ⟨g46, 0, none⟩), .pointer (some ⟨g360, 0, none⟩)]] [(70, .func (.func 45) #[] #[.pointer (some ⟨g355, 0, none⟩), .pointer (some ⟨g30, 0, none⟩), .pointer (some ⟨g46, 0, none⟩), .pointer (some ⟨g360, 0, none⟩)]), (71, .int .i64 n416)] [World.cell? w12321 ⟨g360, 0, none⟩ = some (.func (.func 45) #[] #[.pointer (some ⟨g355, 0, none⟩), .pointer (some ⟨g30, 0, none⟩), .pointer (some ⟨g46, 0, none⟩), .pointer (some ⟨g360, 0, none⟩)])] E (by kernel_rfl) (by kernel_rfl) ((H.box 6 rfl).cell (j := 0) rfl) ?_
    clear E; intro a E
    obtain ⟨x24212, h24213, hP⟩ := bind_inv hP
    refine e_callv (R := fun v_ w_ => ∃ (x24214 : List (List Int)) (A24210 : Option Addr) (c24211 : Nat), v_ = .tuple #[] ∧ Hp S Fa w0 w_ [.row true (cSl cS74) 76 (some ⟨b12326, 0, none⟩) c202 x206.1, .box g46 73 [.slice (some ⟨b12326, 0, none⟩) (List.length x206.1) c202], .box g355 39 [.slice A24210 (List.length x24214) c24211], .row true (cSl (cInt .u8)) 27 A24210 c24211 x24214, .row true (cSl (cInt .i64)) 23 A27 c28 r18.1, .box g30 69 [.slice A27 (List.length r18.1) c28], .box g360 79 [.func (.func 45) #[] #[.pointer (some ⟨g355, 0, none⟩), .pointer (some ⟨g30, 0, none⟩), .pointer (some ⟨g46, 0, none⟩), .pointer (some ⟨g360, 0, none⟩)]]] ∧ x24212 = x24214) E rfl rfl rfl Try.func45 rfl rfl rfl ?_ ?_
    ·
     clear E hP; have hP := h24213; clear h24213; rw [lang_Words_f2] at hP
     refine enterV (n := 50) Try.func45 rfl rfl rfl ?_
     intro a E
     replace E := E.pick [(0, .int .i64 0), (1, .int .i64 n416), (2, .slice none 0 0), (3, .pointer (some ⟨g355, 0, none⟩)), (4, .pointer (some ⟨g30, 0, none⟩)), (5, .pointer (some ⟨g46, 0, none⟩)), (6, .pointer (some ⟨g360, 0, none⟩))] ⟨rfl, rfl, rfl, rfl, rfl, rfl, rfl, trivial⟩
     refine wp_seq ?_
     refine wp_seq ?_
     refine wp_region_lit ?_
     refine vn tbok 2 [] [(13, .bool ((n416 : Int) == 0))] [] E (by kernel_rfl) (by kernel_rfl) trivial ?_
     clear E; intro a E
     refine wpList_nil ?_
     refine th_n ?_
     refine E.cases (t := 13) rfl (fun hb_ E_ => ?_) (fun hb_ E_ => ?_)
     ·
      replace E := E_; clear E_
      have h24215 : (n416 : Int) = 0 := eq_of_beq hb_
      clear hb_; replace hP := ite_t h24215 hP
      refine c_true E rfl ?_
      refine wp_seq ?_
      obtain ⟨g24217, hP⟩ := ask_inv hP
      obtain ⟨g24229, hP⟩ := ask_inv hP
      refine meet_cut (fun a w24239 => ∃ (A24237 : Option Addr) (c24238 : Nat), Fr a 50 [] ∧ Hp S Fa w0 w24239 [.row true (cSl cS74) 76 (some ⟨b12326, 0, none⟩) c202 x206.1, .box g46 73 [.slice (some ⟨b12326, 0, none⟩) (List.length x206.1) c202], .box g355 39 [.slice A24237 (List.length (out413 ++ ([([] : List Int) ++ ([] : List Int)] : List (List Int)))) c24238], .row true (cSl (cInt .u8)) 27 A24237 c24238 (out413 ++ ([([] : List Int) ++ ([] : List Int)] : List (List Int))), .row true (cSl (cInt .i64)) 23 A27 c28 r18.1, .box g30 69 [.slice A27 (List.length r18.1) c28], .box g360 79 [.func (.func 45) #[] #[.pointer (some ⟨g355, 0, none⟩), .pointer (some ⟨g30, 0, none⟩), .pointer (some ⟨g46, 0, none⟩), .pointer (some ⟨g360, 0, none⟩)]]]) ?_ ?_
      ·
       have HR24243 := H
       refine dr_start (S := fun w_ => Chg (atL [.box g355 39 [.slice A414 (List.length out413) c415], .row true (cSl (cInt .u8)) 27 A414 c415 out413]) w12321 w_) (by kernel_rfl) ?_
       intro w24240 hc24241
       have HS24242 : Chg (atL [.box g355 39 [.slice A414 (List.length out413) c415], .row true (cSl (cInt .u8)) 27 A414 c415 out413]) w12321 w24240 := hc24241.mono (fun _ _ h_ => h_.elim)
       replace H := H.ext hc24241
       refine dn tbok (by kernel_rfl) [1] [] [(15, .slice none 0 0)] (fun w_ => []) 5 E (fun _ _ => by kernel_rfl) (by kernel_rfl) (fun w_ hS_ => trivial) (by kernel_rfl) HS24242 ?_
       clear E; intro a E
       refine wpAnyH_all (rs := [0, 2]) (by kernel_rfl) (by simp) ?_
       refine all2 ?_ ?_
       ·
        refine wpOp_of_list rfl ?_
        refine vn tbok 1 [.slice A414 (List.length out413) c415] [(14, .slice A414 (List.length out413) c415)] [World.cell? w24240 ⟨g355, 0, none⟩ = some (.slice A414 (List.length out413) c415)] E (by kernel_rfl) (by kernel_rfl) ((H.box 2 rfl).cell (j := 0) rfl) ?_
        clear E; intro a E
        refine wpList_nil ?_
        refine th_n ⟨HS24242, ?_⟩
        refine wpAnyH_all (rs := [2]) (by kernel_rfl) (by simp) ?_
        refine all1 ?_
        refine wpOp_of_list rfl ?_
        replace H := H.nilrow (cInt .u8) 52; try dsimp only [setn, addE, goneL] at H
        refine h_append (cInt .u8) (xs := ([] : List Int)) (ys := ([] : List Int)) (0 : Int) H 8 rfl E rfl rfl tbok rfl rfl rfl rfl rfl (fun _ _ => rfl) rfl rfl (fun _ _ => Src.nil) g24217 ?_
        intro w24245 A24246 c24247 a hc24248 hA24249 H_ E_
        replace E := E_ _ rfl; clear E_
        have hin24250 : ∀ q_, q_ < w12321.heap.size → At A24246 q_ → (atL [.box g355 39 [.slice A414 (List.length out413) c415], .row true (cSl (cInt .u8)) 27 A414 c415 out413]) q_ := fun q_ h1_ h2_ => (hA24249 q_ h2_).elim ((fun q_ _ h_ => absurd h_ (At.nil q_)) q_ h1_) (fun h3_ => by have hs_ := HS24242.size; exfalso; omega)
        replace HS24242 := HS24242.trans hc24248 (fun k_ hk_ h_ => (fun q_ _ h_ => absurd h_ (At.nil q_)) k_ hk_ h_)
        replace H := H_; clear H_; try dsimp only [setn, addE, goneL] at H
        refine wpList_nil ?_
        refine th_n ⟨HS24242, ?_⟩
        refine wpAnyH_all (rs := [3]) (by kernel_rfl) (by simp) ?_
        refine all1 ?_
        refine wpOp_of_list rfl ?_
        refine h_buildSlice (ps := [(0, .slice A24246 (List.length (([] : List Int) ++ ([] : List Int))) c24247)]) (cs := [.slice A24246 (List.length (([] : List Int) ++ ([] : List Int))) c24247]) H E rfl rfl tbok rfl rfl (by kernel_rfl) ?_
        intro w24252 g24251 a hc24253 hg24255 H_ E_
        replace E := E_ _ rfl; clear E_
        have hin24256 : ∀ q_, q_ < w12321.heap.size → q_ = g24251 → (atL [.box g355 39 [.slice A414 (List.length out413) c415], .row true (cSl (cInt .u8)) 27 A414 c415 out413]) q_ := fun q_ h1_ h2_ => by have hs_ := HS24242.size; have h4_ : q_ = g24251 := h2_; exfalso; omega
        replace HS24242 := HS24242.ext hc24253
        replace H := H_; clear H_; try dsimp only [setn, addE, goneL] at H
        refine wpList_nil ?_
        refine th_n ⟨HS24242, ?_⟩
        refine wpAnyH_all (rs := [4]) (by kernel_rfl) (by simp) ?_
        refine all1 ?_
        refine wpOp_of_list rfl ?_
        have hk24257 := H.rcap 8 rfl
        replace H := H.frz 8 rfl; try dsimp only [setn, addE, goneL] at H
        refine h_append (cSl (cInt .u8)) (xs := out413) (ys := ([([] : List Int) ++ ([] : List Int)] : List (List Int))) ([] : List Int) H 3 rfl E rfl rfl tbok rfl rfl rfl rfl rfl (fun _ _ => kSl_nil) rfl rfl (fun _ HF_ => HF_.srcB 9 rfl ⟨_, _, rfl, ⟨_, _, rfl, hk24257, (HF_.roC 8 rfl)⟩, rfl⟩) g24229 ?_
        intro w24258 A24259 c24260 a hc24261 hA24262 H_ E_
        replace E := E_ _ rfl; clear E_
        have hin24263 : ∀ q_, q_ < w12321.heap.size → At A24259 q_ → (atL [.box g355 39 [.slice A414 (List.length out413) c415], .row true (cSl (cInt .u8)) 27 A414 c415 out413]) q_ := fun q_ h1_ h2_ => (hA24262 q_ h2_).elim ((fun _ _ h_ => Or.inr (Or.inl h_)) q_ h1_) (fun h3_ => by have hs_ := HS24242.size; exfalso; omega)
        replace HS24242 := HS24242.trans hc24261 (fun k_ hk_ h_ => (fun _ _ h_ => Or.inr (Or.inl h_)) k_ hk_ h_)
        replace H := H_; clear H_; try dsimp only [setn, addE, goneL] at H
        refine wpList_nil ?_
        refine th_n ⟨HS24242, ?_⟩
        refine wpAnyH_all (rs := [5]) (by kernel_rfl) (by simp) ?_
        refine all1 ?_
        refine wpOp_of_list rfl ?_
        refine h_store (g := g355) (off := 0) H 2 rfl E rfl rfl rfl rfl tbok rfl rfl rfl rfl rfl ?_
        clear E; intro w24264 a hc24265 H_ E
        replace HS24242 := HS24242.trans hc24265 (fun k_ hk_ h_ => (fun _ _ h_ => Or.inl h_) k_ hk_ h_)
        replace H := H_; clear H_; try dsimp only [setn, addE, goneL] at H
        refine wpList_nil ?_
        refine th_n ⟨HS24242, ?_⟩
        refine dr_done (by kernel_rfl) ?_
        exact .inl ⟨rfl, A24259, c24260, E.pick _ trivial, H.sel [0, 1, 2, 3, 4, 5, 6] rfl⟩
       refine wpOp_of_list rfl ?_
       replace H := H.nilrow (cInt .u8) 52; try dsimp only [setn, addE, goneL] at H
       refine h_append (cInt .u8) (xs := ([] : List Int)) (ys := ([] : List Int)) (0 : Int) H 8 rfl E rfl rfl tbok rfl rfl rfl rfl rfl (fun _ _ => rfl) rfl rfl (fun _ _ => Src.nil) g24217 ?_
       intro w24267 A24268 c24269 a hc24270 hA24271 H_ E_
       replace E := E_ _ rfl; clear E_
       have hin24272 : ∀ q_, q_ < w12321.heap.size → At A24268 q_ → (atL [.box g355 39 [.slice A414 (List.length out413) c415], .row true (cSl (cInt .u8)) 27 A414 c415 out413]) q_ := fun q_ h1_ h2_ => (hA24271 q_ h2_).elim ((fun q_ _ h_ => absurd h_ (At.nil q_)) q_ h1_) (fun h3_ => by have hs_ := HS24242.size; exfalso; omega)
       replace HS24242 := HS24242.trans hc24270 (fun k_ hk_ h_ => (fun q_ _ h_ => absurd h_ (At.nil q_)) k_ hk_ h_)
       replace H := H_; clear H_; try dsimp only [setn, addE, goneL] at H
       refine wpList_nil ?_
       refine th_n ⟨HS24242, ?_⟩
       refine wpAnyH_all (rs := [0, 3]) (by kernel_rfl) (by simp) ?_
       refine all2 ?_ ?_
       ·
        refine wpOp_of_list rfl ?_
        refine vn tbok 1 [.slice A414 (List.length out413) c415] [(14, .slice A414 (List.length out413) c415)] [World.cell? w24267 ⟨g355, 0, none⟩ = some (.slice A414 (List.length out413) c415)] E (by kernel_rfl) (by kernel_rfl) ((H.box 2 rfl).cell (j := 0) rfl) ?_
        clear E; intro a E
        refine wpList_nil ?_
        refine th_n ⟨HS24242, ?_⟩
        refine wpAnyH_all (rs := [3]) (by kernel_rfl) (by simp) ?_
        refine all1 ?_
        refine wpOp_of_list rfl ?_
        refine h_buildSlice (ps := [(0, .slice A24268 (List.length (([] : List Int) ++ ([] : List Int))) c24269)]) (cs := [.slice A24268 (List.length (([] : List Int) ++ ([] : List Int))) c24269]) H E rfl rfl tbok rfl rfl (by kernel_rfl) ?_
        intro w24274 g24273 a hc24275 hg24277 H_ E_
        replace E := E_ _ rfl; clear E_
        have hin24278 : ∀ q_, q_ < w12321.heap.size → q_ = g24273 → (atL [.box g355 39 [.slice A414 (List.length out413) c415], .row true (cSl (cInt .u8)) 27 A414 c415 out413]) q_ := fun q_ h1_ h2_ => by have hs_ := HS24242.size; have h4_ : q_ = g24273 := h2_; exfalso; omega
        replace HS24242 := HS24242.ext hc24275
        replace H := H_; clear H_; try dsimp only [setn, addE, goneL] at H
        refine wpList_nil ?_
        refine th_n ⟨HS24242, ?_⟩
        refine wpAnyH_all (rs := [4]) (by kernel_rfl) (by simp) ?_
        refine all1 ?_
        refine wpOp_of_list rfl ?_
        have hk24279 := H.rcap 8 rfl
        replace H := H.frz 8 rfl; try dsimp only [setn, addE, goneL] at H
        refine h_append (cSl (cInt .u8)) (xs := out413) (ys := ([([] : List Int) ++ ([] : List Int)] : List (List Int))) ([] : List Int) H 3 rfl E rfl rfl tbok rfl rfl rfl rfl rfl (fun _ _ => kSl_nil) rfl rfl (fun _ HF_ => HF_.srcB 9 rfl ⟨_, _, rfl, ⟨_, _, rfl, hk24279, (HF_.roC 8 rfl)⟩, rfl⟩) g24229 ?_
        intro w24280 A24281 c24282 a hc24283 hA24284 H_ E_
        replace E := E_ _ rfl; clear E_
        have hin24285 : ∀ q_, q_ < w12321.heap.size → At A24281 q_ → (atL [.box g355 39 [.slice A414 (List.length out413) c415], .row true (cSl (cInt .u8)) 27 A414 c415 out413]) q_ := fun q_ h1_ h2_ => (hA24284 q_ h2_).elim ((fun _ _ h_ => Or.inr (Or.inl h_)) q_ h1_) (fun h3_ => by have hs_ := HS24242.size; exfalso; omega)
        replace HS24242 := HS24242.trans hc24283 (fun k_ hk_ h_ => (fun _ _ h_ => Or.inr (Or.inl h_)) k_ hk_ h_)
        replace H := H_; clear H_; try dsimp only [setn, addE, goneL] at H
        refine wpList_nil ?_
        refine th_n ⟨HS24242, ?_⟩
        refine wpAnyH_all (rs := [5]) (by kernel_rfl) (by simp) ?_
        refine all1 ?_
        refine wpOp_of_list rfl ?_
        refine h_store (g := g355) (off := 0) H 2 rfl E rfl rfl rfl rfl tbok rfl rfl rfl rfl rfl ?_
        clear E; intro w24286 a hc24287 H_ E
        replace HS24242 := HS24242.trans hc24287 (fun k_ hk_ h_ => (fun _ _ h_ => Or.inl h_) k_ hk_ h_)
        replace H := H_; clear H_; try dsimp only [setn, addE, goneL] at H
        refine wpList_nil ?_
        refine th_n ⟨HS24242, ?_⟩
        refine dr_done (by kernel_rfl) ?_
        exact .inl ⟨rfl, A24281, c24282, E.pick _ trivial, H.sel [0, 1, 2, 3, 4, 5, 6] rfl⟩
       refine wpOp_of_list rfl ?_
       refine h_buildSlice (ps := [(0, .slice A24268 (List.length (([] : List Int) ++ ([] : List Int))) c24269)]) (cs := [.slice A24268 (List.length (([] : List Int) ++ ([] : List Int))) c24269]) H E rfl rfl tbok rfl rfl (by kernel_rfl) ?_
       intro w24289 g24288 a hc24290 hg24292 H_ E_
       replace E := E_ _ rfl; clear E_
       have hin24293 : ∀ q_, q_ < w12321.heap.size → q_ = g24288 → (atL [.box g355 39 [.slice A414 (List.length out413) c415], .row true (cSl (cInt .u8)) 27 A414 c415 out413]) q_ := fun q_ h1_ h2_ => by have hs_ := HS24242.size; have h4_ : q_ = g24288 := h2_; exfalso; omega
       replace HS24242 := HS24242.ext hc24290
       replace H := H_; clear H_; try dsimp only [setn, addE, goneL] at H
       refine wpList_nil ?_
       refine th_n ⟨HS24242, ?_⟩
       refine wpAnyH_all (rs := [0]) (by kernel_rfl) (by simp) ?_
       refine all1 ?_
       refine wpOp_of_list rfl ?_
       refine vn tbok 1 [.slice A414 (List.length out413) c415] [(14, .slice A414 (List.length out413) c415)] [World.cell? w24289 ⟨g355, 0, none⟩ = some (.slice A414 (List.length out413) c415)] E (by kernel_rfl) (by kernel_rfl) ((H.box 2 rfl).cell (j := 0) rfl) ?_
       clear E; intro a E
       refine wpList_nil ?_
       refine th_n ⟨HS24242, ?_⟩
       refine wpAnyH_all (rs := [4]) (by kernel_rfl) (by simp) ?_
       refine all1 ?_
       refine wpOp_of_list rfl ?_
       have hk24294 := H.rcap 8 rfl
       replace H := H.frz 8 rfl; try dsimp only [setn, addE, goneL] at H
       refine h_append (cSl (cInt .u8)) (xs := out413) (ys := ([([] : List Int) ++ ([] : List Int)] : List (List Int))) ([] : List Int) H 3 rfl E rfl rfl tbok rfl rfl rfl rfl rfl (fun _ _ => kSl_nil) rfl rfl (fun _ HF_ => HF_.srcB 9 rfl ⟨_, _, rfl, ⟨_, _, rfl, hk24294, (HF_.roC 8 rfl)⟩, rfl⟩) g24229 ?_
       intro w24295 A24296 c24297 a hc24298 hA24299 H_ E_
       replace E := E_ _ rfl; clear E_
       have hin24300 : ∀ q_, q_ < w12321.heap.size → At A24296 q_ → (atL [.box g355 39 [.slice A414 (List.length out413) c415], .row true (cSl (cInt .u8)) 27 A414 c415 out413]) q_ := fun q_ h1_ h2_ => (hA24299 q_ h2_).elim ((fun _ _ h_ => Or.inr (Or.inl h_)) q_ h1_) (fun h3_ => by have hs_ := HS24242.size; exfalso; omega)
       replace HS24242 := HS24242.trans hc24298 (fun k_ hk_ h_ => (fun _ _ h_ => Or.inr (Or.inl h_)) k_ hk_ h_)
       replace H := H_; clear H_; try dsimp only [setn, addE, goneL] at H
       refine wpList_nil ?_
       refine th_n ⟨HS24242, ?_⟩
       refine wpAnyH_all (rs := [5]) (by kernel_rfl) (by simp) ?_
       refine all1 ?_
       refine wpOp_of_list rfl ?_
       refine h_store (g := g355) (off := 0) H 2 rfl E rfl rfl rfl rfl tbok rfl rfl rfl rfl rfl ?_
       clear E; intro w24301 a hc24302 H_ E
       replace HS24242 := HS24242.trans hc24302 (fun k_ hk_ h_ => (fun _ _ h_ => Or.inl h_) k_ hk_ h_)
       replace H := H_; clear H_; try dsimp only [setn, addE, goneL] at H
       refine wpList_nil ?_
       refine th_n ⟨HS24242, ?_⟩
       refine dr_done (by kernel_rfl) ?_
       exact .inl ⟨rfl, A24296, c24297, E.pick _ trivial, H.sel [0, 1, 2, 3, 4, 5, 6] rfl⟩
      clear E H; rintro a w24239 ⟨A24237, c24238, E, H⟩
      refine th_n ?_
      refine wp_ret ?_
      refine th_ret ?_
      have hx_ := Option.some.inj hP
      refine bodyPost_ret (v := .tuple #[]) (by simp [results, Try.f45]) E.nodef ?_
      exact ⟨_, rfl, out413 ++ ([([] : List Int) ++ ([] : List Int)] : List (List Int)), A24237, c24238, rfl, H.sel [0, 1, 2, 3, 4, 5, 6] rfl, hx_.symm⟩
     replace E := E_; clear E_
     have h24303 : ¬ ((n416 : Int) = 0) := ne_of_beq_false hb_
     clear hb_; replace hP := ite_f h24303 hP
     refine c_false E rfl ?_
     refine wp_skip ?_
     refine th_n ?_
     refine wp_seq ?_
     refine wp_region_lit ?_
     obtain ⟨g24304, hP⟩ := ask_inv hP
     obtain ⟨b24305, e_b24305⟩ := H.raddr 4 rfl (idx_pos g24304)
     subst e_b24305
     obtain ⟨A24307, c24308, hl24309, hk24310, H⟩ := H.subSl 4 true (el_row rfl) g24304
     try dsimp only [addE] at H
     refine vn tbok 6 [.slice (some ⟨b24305, 0, none⟩) (List.length r18.1) c28, .slice A24307 (List.length (List.getD r18.1 (Int.toNat (0 : Int)) [])) c24308] [(22, .slice A24307 (List.length (List.getD r18.1 (Int.toNat (0 : Int)) [])) c24308), (23, .int .i64 (((List.length (List.getD r18.1 (Int.toNat (0 : Int)) [])) : Nat) : Int)), (24, .int .i64 0)] [World.cell? w12321 ⟨g30, 0, none⟩ = some (.slice (some ⟨b24305, 0, none⟩) (List.length r18.1) c28), 0 ≤ (0 : Int) ∧ (0 : Int) < (((List.length r18.1) : Nat) : Int), World.cell? w12321 ⟨b24305, 0 + (Int.toNat (0 : Int)) * 1, none⟩ = some (.slice A24307 (List.length (List.getD r18.1 (Int.toNat (0 : Int)) [])) c24308)] E (by kernel_rfl) (by kernel_rfl) ⟨(H.box 5 rfl).cell (j := 0) rfl, g24304, hl24309⟩ ?_
     clear E; intro a E
     refine wpList_nil ?_
     refine th_n ?_
     refine wp_block ?_
     obtain ⟨x36152, hL36153, hK36154⟩ := bind_inv hP
     clear hP
     refine loop_cut (fun i_ a w_ => (i_ = 0 ∧ ∃ (x36157 : List (List Int)), ∃ (A36149 : Option Addr) (c36150 : Nat), Fr a 50 [] ∧ Hp S Fa w0 w_ [.row true (cSl cS74) 76 (some ⟨b12326, 0, none⟩) c202 x206.1, .box g46 73 [.slice (some ⟨b12326, 0, none⟩) (List.length x206.1) c202], .box g355 39 [.slice A36149 (List.length x36157) c36150], .row true (cSl (cInt .u8)) 27 A36149 c36150 x36157, .row true (cSl (cInt .i64)) 23 (some ⟨b24305, 0, none⟩) c28 r18.1, .box g30 69 [.slice (some ⟨b24305, 0, none⟩) (List.length r18.1) c28], .box g360 79 [.func (.func 45) #[] #[.pointer (some ⟨g355, 0, none⟩), .pointer (some ⟨g30, 0, none⟩), .pointer (some ⟨g46, 0, none⟩), .pointer (some ⟨g360, 0, none⟩)]]] ∧ x36152 = x36157)) ?_ ?_
     ·
      refine loopV (fun m36156 a w36155 => ∃ (x30227 : List (List Int)) (x30230 : Int), ∃ (A30228 : Option Addr) (c30229 : Nat), Fr a 50 [(1, .int .i64 n416), (2, .slice none 0 0), (5, .pointer (some ⟨g46, 0, none⟩)), (6, .pointer (some ⟨g360, 0, none⟩)), (22, .slice A24307 (List.length (List.getD r18.1 (Int.toNat (0 : Int)) [])) c24308), (23, .int .i64 (((List.length (List.getD r18.1 (Int.toNat (0 : Int)) [])) : Nat) : Int)), (24, .int .i64 x30230)] ∧ Hp S Fa w0 w36155 [.row true (cSl cS74) 76 (some ⟨b12326, 0, none⟩) c202 x206.1, .box g46 73 [.slice (some ⟨b12326, 0, none⟩) (List.length x206.1) c202], .box g355 39 [.slice A30228 (List.length x30227) c30229], .row true (cSl (cInt .u8)) 27 A30228 c30229 x30227, .row true (cSl (cInt .i64)) 23 (some ⟨b24305, 0, none⟩) c28 r18.1, .box g30 69 [.slice (some ⟨b24305, 0, none⟩) (List.length r18.1) c28], .box g360 79 [.func (.func 45) #[] #[.pointer (some ⟨g355, 0, none⟩), .pointer (some ⟨g30, 0, none⟩), .pointer (some ⟨g46, 0, none⟩), .pointer (some ⟨g360, 0, none⟩)]], .ro true (cInt .i64) A24307 (List.getD r18.1 (Int.toNat (0 : Int)) [])] ∧ lang_Words_l3 N r18 x206 n416 m36156 x30227 x30230 = some x36152) N ?_ ?_
      ·
       exact ⟨out413, 0, A414, c415, E.pick _ ⟨rfl, rfl, rfl, rfl, rfl, rfl, rfl, trivial⟩, H.sel [0, 1, 2, 3, 4, 5, 6, 8] rfl, hL36153⟩
      clear E H hL36153; intro m36156 a w36155 hI_
      obtain ⟨x30227, x30230, A30228, c30229, E, H, hP⟩ := hI_
      obtain ⟨m36151, rfl⟩ : ∃ q_, m36156 = q_ + 1 := by cases m36156 with | zero => rw [lang_Words_l3] at hP; cases hP | succ q_ => exact ⟨q_, rfl⟩
      rw [lang_Words_l3] at hP
      refine wp_seq ?_
      refine wp_region_lit ?_
      refine vn tbok 1 [] [(25, .bool (decide (x30230 < (((List.length (List.getD r18.1 (Int.toNat (0 : Int)) [])) : Nat) : Int))))] [] E (by kernel_rfl) (by kernel_rfl) trivial ?_
      clear E; intro a E
      refine wpList_nil ?_
      refine th_n ?_
      refine wp_seq ?_
      refine E.cases (t := 25) rfl (fun hb_ E_ => ?_) (fun hb_ E_ => ?_)
      ·
       replace E := E_; clear E_
       have h36158 : x30230 < (((List.length (List.getD r18.1 (Int.toNat (0 : Int)) [])) : Nat) : Int) := of_decide_eq_true hb_
       clear hb_; replace hP := ite_t h36158 hP
       refine c_true E rfl ?_
       refine wp_skip ?_
       refine th_n ?_
       refine wp_seq ?_
       refine wp_block ?_
       refine wp_seq ?_
       refine wp_region_lit ?_
       obtain ⟨g36159, hP⟩ := ask_inv hP
       obtain ⟨b36160, o36161, e_b36160⟩ := (H.rd 7 rds_ro).addr (idx_pos g36159)
       subst e_b36160
       refine vn tbok 5 [.int .i64 (List.getD (List.getD r18.1 (Int.toNat (0 : Int)) []) (Int.toNat x30230) 0)] [(10, .int .i64 x30230), (11, .int .i64 (List.getD (List.getD r18.1 (Int.toNat (0 : Int)) []) (Int.toNat x30230) 0))] [0 ≤ x30230 ∧ x30230 < (((List.length (List.getD r18.1 (Int.toNat (0 : Int)) [])) : Nat) : Int), World.cell? w36155 ⟨b36160, o36161 + (Int.toNat x30230) * 1, none⟩ = some (.int .i64 (List.getD (List.getD r18.1 (Int.toNat (0 : Int)) []) (Int.toNat x30230) 0))] E (by kernel_rfl) (by kernel_rfl) ⟨g36159, Rds.at1 (H.rd 7 rds_ro) 0 g36159⟩ ?_
       clear E; intro a E
       refine wpList_nil ?_
       refine th_n ?_
       refine wp_seq ?_
       refine wp_region_lit ?_
       obtain ⟨g36162, hP⟩ := ask_inv hP
       obtain ⟨g36163, hP⟩ := ask_inv hP
       obtain ⟨A36164, c36165, hl36166, hk36167, H⟩ := H.subSl 0 true (el_row rfl) g36163
       try dsimp only [addE] at H
       obtain ⟨g36169, hP⟩ := ask_inv hP
       obtain ⟨b36170, o36171, e_b36170⟩ := (H.rd 8 rds_ro).addr (idx_pos g36169)
       subst e_b36170
       refine vn tbok 10 [.slice (some ⟨b12326, 0, none⟩) (List.length x206.1) c202, .int .i64 (n416 - 1), .slice (some ⟨b36170, o36171, none⟩) (List.length (List.getD x206.1 (Int.toNat (n416 - 1)) [])) c36165, .int .u64 ((List.getD (List.getD x206.1 (Int.toNat (n416 - 1)) []) (Int.toNat (List.getD (List.getD r18.1 (Int.toNat (0 : Int)) []) (Int.toNat x30230) 0)) (0, false)).1)] [(38, .bool (decide (0 < ((List.getD (List.getD x206.1 (Int.toNat (n416 - 1)) []) (Int.toNat (List.getD (List.getD r18.1 (Int.toNat (0 : Int)) []) (Int.toNat x30230) 0)) (0, false)).1))))] [World.cell? w36155 ⟨g46, 0, none⟩ = some (.slice (some ⟨b12326, 0, none⟩) (List.length x206.1) c202), IntKind.i64.wrap (n416 - 1) = n416 - 1, 0 ≤ (n416 - 1) ∧ (n416 - 1) < (((List.length x206.1) : Nat) : Int), World.cell? w36155 ⟨b12326, 0 + (Int.toNat (n416 - 1)) * 1, none⟩ = some (.slice (some ⟨b36170, o36171, none⟩) (List.length (List.getD x206.1 (Int.toNat (n416 - 1)) [])) c36165), 0 ≤ (List.getD (List.getD r18.1 (Int.toNat (0 : Int)) []) (Int.toNat x30230) 0) ∧ (List.getD (List.getD r18.1 (Int.toNat (0 : Int)) []) (Int.toNat x30230) 0) < (((List.length (List.getD x206.1 (Int.toNat (n416 - 1)) [])) : Nat) : Int), World.cell? w36155 ⟨b36170, o36171 + (Int.toNat (List.getD (List.getD r18.1 (Int.toNat (0 : Int)) []) (Int.toNat x30230) 0)) * 2, none⟩ = some (.int .u64 ((List.getD (List.getD x206.1 (Int.toNat (n416 - 1)) []) (Int.toNat (List.getD (List.getD r18.1 (Int.toNat (0 : Int)) []) (Int.toNat x30230) 0)) (0, false)).1))] E (by kernel_rfl) (by kernel_rfl) ⟨(H.box 1 rfl).cell (j := 0) rfl, wrap_in g36162, g36163, hl36166, g36169, (Rds.atP (H.rd 8 rds_ro) (0, false) g36169).1⟩ ?_
       clear E; intro a E
       refine wpList_nil ?_
       refine th_n ?_
       refine E.cases (t := 38) rfl (fun hb_ E_ => ?_) (fun hb_ E_ => ?_)
       ·
        replace E := E_; clear E_
        have h36172 : 0 < ((List.getD (List.getD x206.1 (Int.toNat (n416 - 1)) []) (Int.toNat (List.getD (List.getD r18.1 (Int.toNat (0 : Int)) []) (Int.toNat x30230) 0)) (0, false)).1) := of_decide_eq_true hb_
        clear hb_; replace hP := ite_t h36172 hP
        refine c_true E rfl ?_
        obtain ⟨g36179, hP⟩ := ask_inv hP
        obtain ⟨x39006, h39007, hP⟩ := bind_inv hP
        have HR46274 := H
        refine dr_start (S := fun w_ => Chg (atL [.box g355 39 [.slice A30228 (List.length x30227) c30229], .row true (cSl (cInt .u8)) 27 A30228 c30229 x30227]) w36155 w_) (by kernel_rfl) ?_
        intro w46271 hc46272
        have HS46273 : Chg (atL [.box g355 39 [.slice A30228 (List.length x30227) c30229], .row true (cSl (cInt .u8)) 27 A30228 c30229 x30227]) w36155 w46271 := hc46272.mono (fun _ _ h_ => h_.elim)
        replace H := H.ext hc46272
        refine dn tbok (by kernel_rfl) [0, 1, 2, 3, 4, 5, 6] [.func (.func 45) #[] #[.pointer (some ⟨g355, 0, none⟩), .pointer (some ⟨g30, 0, none⟩), .pointer (some ⟨g46, 0, none⟩), .pointer (some ⟨g360, 0, none⟩)], .int .i64 (n416 - 1), .int .u8 (IntKind.u8.wrap x30230)] [(39, .func (.func 45) #[] #[.pointer (some ⟨g355, 0, none⟩), .pointer (some ⟨g30, 0, none⟩), .pointer (some ⟨g46, 0, none⟩), .pointer (some ⟨g360, 0, none⟩)]), (40, .int .i64 (List.getD (List.getD r18.1 (Int.toNat (0 : Int)) []) (Int.toNat x30230) 0)), (42, .int .i64 (n416 - 1)), (43, .slice none 0 0), (45, .int .u8 (IntKind.u8.wrap x30230))] (fun w_ => [World.cell? w_ ⟨g360, 0, none⟩ = some (.func (.func 45) #[] #[.pointer (some ⟨g355, 0, none⟩), .pointer (some ⟨g30, 0, none⟩), .pointer (some ⟨g46, 0, none⟩), .pointer (some ⟨g360, 0, none⟩)]), IntKind.i64.wrap (n416 - 1) = n416 - 1, IntKind.u8.wrap x30230 = (IntKind.u8.wrap x30230)]) 3 E (fun _ _ => by kernel_rfl) (by kernel_rfl) (fun w_ hS_ => ⟨(HR46274.boxk [2, 3] hS_ 6 rfl rfl).cell (j := 0) rfl, wrap_in g36162, rfl⟩) (by kernel_rfl) HS46273 ?_
        clear E; intro a E
        refine wpAnyH_all (rs := [7]) (by kernel_rfl) (by simp) ?_
        refine all1 ?_
        refine wpOp_of_list rfl ?_
        refine h_buildSlice (ps := [(0, .int .u8 (IntKind.u8.wrap x30230))]) (cs := [.int .u8 (IntKind.u8.wrap x30230)]) H E rfl rfl tbok rfl rfl (by kernel_rfl) ?_
        intro w46276 g46275 a hc46277 hg46279 H_ E_
        replace E := E_ _ rfl; clear E_
        have hin46280 : ∀ q_, q_ < w36155.heap.size → q_ = g46275 → (atL [.box g355 39 [.slice A30228 (List.length x30227) c30229], .row true (cSl (cInt .u8)) 27 A30228 c30229 x30227]) q_ := fun q_ h1_ h2_ => by have hs_ := HS46273.size; have h4_ : q_ = g46275 := h2_; exfalso; omega
        replace HS46273 := HS46273.ext hc46277
        replace H := H_; clear H_; try dsimp only [setn, addE, goneL] at H
        refine wpList_nil ?_
        refine th_n ⟨HS46273, ?_⟩
        refine wpAnyH_all (rs := [8]) (by kernel_rfl) (by simp) ?_
        refine all1 ?_
        refine wpOp_of_list rfl ?_
        replace H := H.nilrow (cInt .u8) 52; try dsimp only [setn, addE, goneL] at H
        refine h_append (cInt .u8) (xs := ([] : List Int)) (ys := ([IntKind.u8.wrap x30230] : List Int)) (0 : Int) H 10 rfl E rfl rfl tbok rfl rfl rfl rfl rfl (fun _ _ => rfl) rfl rfl (fun _ HF_ => HF_.srcB 9 rfl (⟨_, _, rfl, rfl, rfl⟩)) g36179 ?_
        intro w46282 A46283 c46284 a hc46285 hA46286 H_ E_
        replace E := E_ _ rfl; clear E_
        have hin46287 : ∀ q_, q_ < w36155.heap.size → At A46283 q_ → (atL [.box g355 39 [.slice A30228 (List.length x30227) c30229], .row true (cSl (cInt .u8)) 27 A30228 c30229 x30227]) q_ := fun q_ h1_ h2_ => (hA46286 q_ h2_).elim ((fun q_ _ h_ => absurd h_ (At.nil q_)) q_ h1_) (fun h3_ => by have hs_ := HS46273.size; exfalso; omega)
        replace HS46273 := HS46273.trans hc46285 (fun k_ hk_ h_ => (fun q_ _ h_ => absurd h_ (At.nil q_)) k_ hk_ h_)
        replace H := H_; clear H_; try dsimp only [setn, addE, goneL] at H
        refine wpList_nil ?_
        refine th_n ⟨HS46273, ?_⟩
        refine wpAnyH_all (rs := [9]) (by kernel_rfl) (by simp) ?_
        refine all1 ?_
        refine wpOp_of_list rfl ?_
        refine e_callv (R := fun v_ w_ => ∃ (x49333 : List (List Int)) (A49330 : Option Addr) (c49331 : Nat), v_ = .tuple #[] ∧ Hp S Fa w0 w_ [.row true (cSl cS74) 76 (some ⟨b12326, 0, none⟩) c202 x206.1, .box g46 73 [.slice (some ⟨b12326, 0, none⟩) (List.length x206.1) c202], .box g355 39 [.slice A49330 (List.length x49333) c49331], .row true (cSl (cInt .u8)) 27 A49330 c49331 x49333, .row true (cSl (cInt .i64)) 23 (some ⟨b24305, 0, none⟩) c28 r18.1, .box g30 69 [.slice (some ⟨b24305, 0, none⟩) (List.length r18.1) c28], .box g360 79 [.func (.func 45) #[] #[.pointer (some ⟨g355, 0, none⟩), .pointer (some ⟨g30, 0, none⟩), .pointer (some ⟨g46, 0, none⟩), .pointer (some ⟨g360, 0, none⟩)]], .ro true (cInt .i64) (some ⟨b36160, o36161, none⟩) (List.getD r18.1 (Int.toNat (0 : Int)) []), .box g46275 52 [.int .u8 (IntKind.u8.wrap x30230)], .row true (cInt .u8) 52 A46283 c46284 (([] : List Int) ++ ([IntKind.u8.wrap x30230] : List Int))] ∧ (∀ q_, q_ < w36155.heap.size → At A49330 q_ → (atL [.box g355 39 [.slice A30228 (List.length x30227) c30229], .row true (cSl (cInt .u8)) 27 A30228 c30229 x30227]) q_) ∧ Chg (atL [.box g355 39 [.slice A30228 (List.length x30227) c30229], .row true (cSl (cInt .u8)) 27 A30228 c30229 x30227]) w36155 w_ ∧ x39006 = x49333) E rfl rfl rfl Try.func45 rfl rfl rfl ?_ ?_
        ·
         clear E hP; have hP := h39007; clear h39007; rw [lang_Words_f4] at hP
         refine enterV (n := 50) Try.func45 rfl rfl rfl ?_
         intro a E
         replace E := E.pick [(0, .int .i64 (List.getD (List.getD r18.1 (Int.toNat (0 : Int)) []) (Int.toNat x30230) 0)), (1, .int .i64 (n416 - 1)), (2, .slice A46283 (List.length (([] : List Int) ++ ([IntKind.u8.wrap x30230] : List Int))) c46284), (3, .pointer (some ⟨g355, 0, none⟩)), (4, .pointer (some ⟨g30, 0, none⟩)), (5, .pointer (some ⟨g46, 0, none⟩)), (6, .pointer (some ⟨g360, 0, none⟩))] ⟨rfl, rfl, rfl, rfl, rfl, rfl, rfl, trivial⟩
         refine wp_seq ?_
         refine wp_seq ?_
         refine wp_region_lit ?_
         refine vn tbok 2 [] [(13, .bool ((n416 - 1 : Int) == 0))] [] E (by kernel_rfl) (by kernel_rfl) trivial ?_
         clear E; intro a E
         refine wpList_nil ?_
         refine th_n ?_
         refine E.cases (t := 13) rfl (fun hb_ E_ => ?_) (fun hb_ E_ => ?_)
         ·
          replace E := E_; clear E_
          have h49334 : (n416 - 1 : Int) = 0 := eq_of_beq hb_
          clear hb_; replace hP := ite_t h49334 hP
          refine c_true E rfl ?_
          refine wp_seq ?_
          obtain ⟨g49336, hP⟩ := ask_inv hP
          obtain ⟨g49350, hP⟩ := ask_inv hP
          refine meet_cut (fun a w49362 => ∃ (A49359 : Option Addr) (c49360 : Nat), Fr a 50 [] ∧ Hp S Fa w0 w49362 [.row true (cSl cS74) 76 (some ⟨b12326, 0, none⟩) c202 x206.1, .box g46 73 [.slice (some ⟨b12326, 0, none⟩) (List.length x206.1) c202], .box g355 39 [.slice A49359 (List.length (x30227 ++ ([([] : List Int) ++ (([] : List Int) ++ ([IntKind.u8.wrap x30230] : List Int))] : List (List Int)))) c49360], .row true (cSl (cInt .u8)) 27 A49359 c49360 (x30227 ++ ([([] : List Int) ++ (([] : List Int) ++ ([IntKind.u8.wrap x30230] : List Int))] : List (List Int))), .row true (cSl (cInt .i64)) 23 (some ⟨b24305, 0, none⟩) c28 r18.1, .box g30 69 [.slice (some ⟨b24305, 0, none⟩) (List.length r18.1) c28], .box g360 79 [.func (.func 45) #[] #[.pointer (some ⟨g355, 0, none⟩), .pointer (some ⟨g30, 0, none⟩), .pointer (some ⟨g46, 0, none⟩), .pointer (some ⟨g360, 0, none⟩)]], .ro true (cInt .i64) (some ⟨b36160, o36161, none⟩) (List.getD r18.1 (Int.toNat (0 : Int)) []), .box g46275 52 [.int .u8 (IntKind.u8.wrap x30230)], .row true (cInt .u8) 52 A46283 c46284 (([] : List Int) ++ ([IntKind.u8.wrap x30230] : List Int))] ∧ (∀ q_, q_ < w36155.heap.size → At A49359 q_ → (atL [.box g355 39 [.slice A30228 (List.length x30227) c30229], .row true (cSl (cInt .u8)) 27 A30228 c30229 x30227]) q_) ∧ Chg (atL [.box g355 39 [.slice A30228 (List.length x30227) c30229], .row true (cSl (cInt .u8)) 27 A30228 c30229 x30227]) w36155 w49362) ?_ ?_
          ·
           have HR49366 := H
           refine dr_start (S := fun w_ => Chg (atL [.box g355 39 [.slice A30228 (List.length x30227) c30229], .row true (cSl (cInt .u8)) 27 A30228 c30229 x30227]) w46282 w_) (by kernel_rfl) ?_
           intro w49363 hc49364
           have HS49365 : Chg (atL [.box g355 39 [.slice A30228 (List.length x30227) c30229], .row true (cSl (cInt .u8)) 27 A30228 c30229 x30227]) w46282 w49363 := hc49364.mono (fun _ _ h_ => h_.elim)
           replace HS46273 := HS46273.ext hc49364
           replace H := H.ext hc49364
           refine dn tbok (by kernel_rfl) [1] [] [(15, .slice A46283 (List.length (([] : List Int) ++ ([IntKind.u8.wrap x30230] : List Int))) c46284)] (fun w_ => []) 5 E (fun _ _ => by kernel_rfl) (by kernel_rfl) (fun w_ hS_ => trivial) (by kernel_rfl) HS49365 ?_
           clear E; intro a E
           refine wpAnyH_all (rs := [0, 2]) (by kernel_rfl) (by simp) ?_
           refine all2 ?_ ?_
           ·
            refine wpOp_of_list rfl ?_
            refine vn tbok 1 [.slice A30228 (List.length x30227) c30229] [(14, .slice A30228 (List.length x30227) c30229)] [World.cell? w49363 ⟨g355, 0, none⟩ = some (.slice A30228 (List.length x30227) c30229)] E (by kernel_rfl) (by kernel_rfl) ((H.box 2 rfl).cell (j := 0) rfl) ?_
            clear E; intro a E
            refine wpList_nil ?_
            refine th_n ⟨HS49365, ?_⟩
            refine wpAnyH_all (rs := [2]) (by kernel_rfl) (by simp) ?_
            refine all1 ?_
            refine wpOp_of_list rfl ?_
            replace H := H.nilrow (cInt .u8) 52; try dsimp only [setn, addE, goneL] at H
            refine h_append (cInt .u8) (xs := ([] : List Int)) (ys := (([] : List Int) ++ ([IntKind.u8.wrap x30230] : List Int))) (0 : Int) H 11 rfl E rfl rfl tbok rfl rfl rfl rfl rfl (fun _ _ => rfl) rfl rfl (fun _ HF_ => HF_.srcF flat_plain 10 rds_row) g49336 ?_
            intro w49368 A49369 c49370 a hc49371 hA49372 H_ E_
            replace E := E_ _ rfl; clear E_
            have hin49373 : ∀ q_, q_ < w36155.heap.size → At A49369 q_ → (atL [.box g355 39 [.slice A30228 (List.length x30227) c30229], .row true (cSl (cInt .u8)) 27 A30228 c30229 x30227]) q_ := fun q_ h1_ h2_ => (hA49372 q_ h2_).elim ((fun q_ _ h_ => absurd h_ (At.nil q_)) q_ h1_) (fun h3_ => by have hs_ := HS46273.size; exfalso; omega)
            have hin49374 : ∀ q_, q_ < w46282.heap.size → At A49369 q_ → (atL [.box g355 39 [.slice A30228 (List.length x30227) c30229], .row true (cSl (cInt .u8)) 27 A30228 c30229 x30227]) q_ := fun q_ h1_ h2_ => (hA49372 q_ h2_).elim ((fun q_ _ h_ => absurd h_ (At.nil q_)) q_ h1_) (fun h3_ => by have hs_ := HS49365.size; exfalso; omega)
            replace HS46273 := HS46273.trans hc49371 (fun k_ hk_ h_ => (fun q_ _ h_ => absurd h_ (At.nil q_)) k_ hk_ h_)
            replace HS49365 := HS49365.trans hc49371 (fun k_ hk_ h_ => (fun q_ _ h_ => absurd h_ (At.nil q_)) k_ hk_ h_)
            replace H := H_; clear H_; try dsimp only [setn, addE, goneL] at H
            refine wpList_nil ?_
            refine th_n ⟨HS49365, ?_⟩
            refine wpAnyH_all (rs := [3]) (by kernel_rfl) (by simp) ?_
            refine all1 ?_
            refine wpOp_of_list rfl ?_
            refine h_buildSlice (ps := [(0, .slice A49369 (List.length (([] : List Int) ++ (([] : List Int) ++ ([IntKind.u8.wrap x30230] : List Int)))) c49370)]) (cs := [.slice A49369 (List.length (([] : List Int) ++ (([] : List Int) ++ ([IntKind.u8.wrap x30230] : List Int)))) c49370]) H E rfl rfl tbok rfl rfl (by kernel_rfl) ?_
            intro w49376 g49375 a hc49377 hg49379 H_ E_
            replace E := E_ _ rfl; clear E_
            have hin49380 : ∀ q_, q_ < w36155.heap.size → q_ = g49375 → (atL [.box g355 39 [.slice A30228 (List.length x30227) c30229], .row true (cSl (cInt .u8)) 27 A30228 c30229 x30227]) q_ := fun q_ h1_ h2_ => by have hs_ := HS46273.size; have h4_ : q_ = g49375 := h2_; exfalso; omega
            have hin49381 : ∀ q_, q_ < w46282.heap.size → q_ = g49375 → (atL [.box g355 39 [.slice A30228 (List.length x30227) c30229], .row true (cSl (cInt .u8)) 27 A30228 c30229 x30227]) q_ := fun q_ h1_ h2_ => by have hs_ := HS49365.size; have h4_ : q_ = g49375 := h2_; exfalso; omega
            replace HS46273 := HS46273.ext hc49377
            replace HS49365 := HS49365.ext hc49377
            replace H := H_; clear H_; try dsimp only [setn, addE, goneL] at H
            refine wpList_nil ?_
            refine th_n ⟨HS49365, ?_⟩
            refine wpAnyH_all (rs := [4]) (by kernel_rfl) (by simp) ?_
            refine all1 ?_
            refine wpOp_of_list rfl ?_
            have hk49382 := H.rcap 11 rfl
            replace H := H.frz 11 rfl; try dsimp only [setn, addE, goneL] at H
            refine h_append (cSl (cInt .u8)) (xs := x30227) (ys := ([([] : List Int) ++ (([] : List Int) ++ ([IntKind.u8.wrap x30230] : List Int))] : List (List Int))) ([] : List Int) H 3 rfl E rfl rfl tbok rfl rfl rfl rfl rfl (fun _ _ => kSl_nil) rfl rfl (fun _ HF_ => HF_.srcB 12 rfl ⟨_, _, rfl, ⟨_, _, rfl, hk49382, (HF_.roC 11 rfl)⟩, rfl⟩) g49350 ?_
            intro w49383 A49384 c49385 a hc49386 hA49387 H_ E_
            replace E := E_ _ rfl; clear E_
            have hin49388 : ∀ q_, q_ < w36155.heap.size → At A49384 q_ → (atL [.box g355 39 [.slice A30228 (List.length x30227) c30229], .row true (cSl (cInt .u8)) 27 A30228 c30229 x30227]) q_ := fun q_ h1_ h2_ => (hA49387 q_ h2_).elim ((fun _ _ h_ => Or.inr (Or.inl h_)) q_ h1_) (fun h3_ => by have hs_ := HS46273.size; exfalso; omega)
            have hin49389 : ∀ q_, q_ < w46282.heap.size → At A49384 q_ → (atL [.box g355 39 [.slice A30228 (List.length x30227) c30229], .row true (cSl (cInt .u8)) 27 A30228 c30229 x30227]) q_ := fun q_ h1_ h2_ => (hA49387 q_ h2_).elim ((fun _ _ h_ => Or.inr (Or.inl h_)) q_ h1_) (fun h3_ => by have hs_ := HS49365.size; exfalso; omega)
            replace HS46273 := HS46273.trans hc49386 (fun k_ hk_ h_ => (fun _ _ h_ => Or.inr (Or.inl h_)) k_ hk_ h_)
            replace HS49365 := HS49365.trans hc49386 (fun k_ hk_ h_ => (fun _ _ h_ => Or.inr (Or.inl h_)) k_ hk_ h_)
            replace H := H_; clear H_; try dsimp only [setn, addE, goneL] at H
            refine wpList_nil ?_
            refine th_n ⟨HS49365, ?_⟩
            refine wpAnyH_all (rs := [5]) (by kernel_rfl) (by simp) ?_
            refine all1 ?_
            refine wpOp_of_list rfl ?_
            refine h_store (g := g355) (off := 0) H 2 rfl E rfl rfl rfl rfl tbok rfl rfl rfl rfl rfl ?_
            clear E; intro w49390 a hc49391 H_ E
            replace HS46273 := HS46273.trans hc49391 (fun k_ hk_ h_ => (fun _ _ h_ => Or.inl h_) k_ hk_ h_)
            replace HS49365 := HS49365.trans hc49391 (fun k_ hk_ h_ => (fun _ _ h_ => Or.inl h_) k_ hk_ h_)
            replace H := H_; clear H_; try dsimp only [setn, addE, goneL] at H
            refine wpList_nil ?_
            refine th_n ⟨HS49365, ?_⟩
            refine dr_done (by kernel_rfl) ?_
            exact .inl ⟨rfl, A49384, c49385, E.pick _ trivial, H.sel [0, 1, 2, 3, 4, 5, 6, 7, 9, 10] rfl, hin49388, HS46273⟩
           refine wpOp_of_list rfl ?_
           replace H := H.nilrow (cInt .u8) 52; try dsimp only [setn, addE, goneL] at H
           refine h_append (cInt .u8) (xs := ([] : List Int)) (ys := (([] : List Int) ++ ([IntKind.u8.wrap x30230] : List Int))) (0 : Int) H 11 rfl E rfl rfl tbok rfl rfl rfl rfl rfl (fun _ _ => rfl) rfl rfl (fun _ HF_ => HF_.srcF flat_plain 10 rds_row) g49336 ?_
           intro w49393 A49394 c49395 a hc49396 hA49397 H_ E_
           replace E := E_ _ rfl; clear E_
           have hin49398 : ∀ q_, q_ < w36155.heap.size → At A49394 q_ → (atL [.box g355 39 [.slice A30228 (List.length x30227) c30229], .row true (cSl (cInt .u8)) 27 A30228 c30229 x30227]) q_ := fun q_ h1_ h2_ => (hA49397 q_ h2_).elim ((fun q_ _ h_ => absurd h_ (At.nil q_)) q_ h1_) (fun h3_ => by have hs_ := HS46273.size; exfalso; omega)
           have hin49399 : ∀ q_, q_ < w46282.heap.size → At A49394 q_ → (atL [.box g355 39 [.slice A30228 (List.length x30227) c30229], .row true (cSl (cInt .u8)) 27 A30228 c30229 x30227]) q_ := fun q_ h1_ h2_ => (hA49397 q_ h2_).elim ((fun q_ _ h_ => absurd h_ (At.nil q_)) q_ h1_) (fun h3_ => by have hs_ := HS49365.size; exfalso; omega)
           replace HS46273 := HS46273.trans hc49396 (fun k_ hk_ h_ => (fun q_ _ h_ => absurd h_ (At.nil q_)) k_ hk_ h_)
           replace HS49365 := HS49365.trans hc49396 (fun k_ hk_ h_ => (fun q_ _ h_ => absurd h_ (At.nil q_)) k_ hk_ h_)
           replace H := H_; clear H_; try dsimp only [setn, addE, goneL] at H
           refine wpList_nil ?_
           refine th_n ⟨HS49365, ?_⟩
           refine wpAnyH_all (rs := [0, 3]) (by kernel_rfl) (by simp) ?_
           refine all2 ?_ ?_
           ·
            refine wpOp_of_list rfl ?_
            refine vn tbok 1 [.slice A30228 (List.length x30227) c30229] [(14, .slice A30228 (List.length x30227) c30229)] [World.cell? w49393 ⟨g355, 0, none⟩ = some (.slice A30228 (List.length x30227) c30229)] E (by kernel_rfl) (by kernel_rfl) ((H.box 2 rfl).cell (j := 0) rfl) ?_
            clear E; intro a E
            refine wpList_nil ?_
            refine th_n ⟨HS49365, ?_⟩
            refine wpAnyH_all (rs := [3]) (by kernel_rfl) (by simp) ?_
            refine all1 ?_
            refine wpOp_of_list rfl ?_
            refine h_buildSlice (ps := [(0, .slice A49394 (List.length (([] : List Int) ++ (([] : List Int) ++ ([IntKind.u8.wrap x30230] : List Int)))) c49395)]) (cs := [.slice A49394 (List.length (([] : List Int) ++ (([] : List Int) ++ ([IntKind.u8.wrap x30230] : List Int)))) c49395]) H E rfl rfl tbok rfl rfl (by kernel_rfl) ?_
            intro w49401 g49400 a hc49402 hg49404 H_ E_
            replace E := E_ _ rfl; clear E_
            have hin49405 : ∀ q_, q_ < w36155.heap.size → q_ = g49400 → (atL [.box g355 39 [.slice A30228 (List.length x30227) c30229], .row true (cSl (cInt .u8)) 27 A30228 c30229 x30227]) q_ := fun q_ h1_ h2_ => by have hs_ := HS46273.size; have h4_ : q_ = g49400 := h2_; exfalso; omega
            have hin49406 : ∀ q_, q_ < w46282.heap.size → q_ = g49400 → (atL [.box g355 39 [.slice A30228 (List.length x30227) c30229], .row true (cSl (cInt .u8)) 27 A30228 c30229 x30227]) q_ := fun q_ h1_ h2_ => by have hs_ := HS49365.size; have h4_ : q_ = g49400 := h2_; exfalso; omega
            replace HS46273 := HS46273.ext hc49402
            replace HS49365 := HS49365.ext hc49402
            replace H := H_; clear H_; try dsimp only [setn, addE, goneL] at H
            refine wpList_nil ?_
            refine th_n ⟨HS49365, ?_⟩
            refine wpAnyH_all (rs := [4]) (by kernel_rfl) (by simp) ?_
            refine all1 ?_
            refine wpOp_of_list rfl ?_
            have hk49407 := H.rcap 11 rfl
            replace H := H.frz 11 rfl; try dsimp only [setn, addE, goneL] at H
            refine h_append (cSl (cInt .u8)) (xs := x30227) (ys := ([([] : List Int) ++ (([] : List Int) ++ ([IntKind.u8.wrap x30230] : List Int))] : List (List Int))) ([] : List Int) H 3 rfl E rfl rfl tbok rfl rfl rfl rfl rfl (fun _ _ => kSl_nil) rfl rfl (fun _ HF_ => HF_.srcB 12 rfl ⟨_, _, rfl, ⟨_, _, rfl, hk49407, (HF_.roC 11 rfl)⟩, rfl⟩) g49350 ?_
            intro w49408 A49409 c49410 a hc49411 hA49412 H_ E_
            replace E := E_ _ rfl; clear E_
            have hin49413 : ∀ q_, q_ < w36155.heap.size → At A49409 q_ → (atL [.box g355 39 [.slice A30228 (List.length x30227) c30229], .row true (cSl (cInt .u8)) 27 A30228 c30229 x30227]) q_ := fun q_ h1_ h2_ => (hA49412 q_ h2_).elim ((fun _ _ h_ => Or.inr (Or.inl h_)) q_ h1_) (fun h3_ => by have hs_ := HS46273.size; exfalso; omega)
            have hin49414 : ∀ q_, q_ < w46282.heap.size → At A49409 q_ → (atL [.box g355 39 [.slice A30228 (List.length x30227) c30229], .row true (cSl (cInt .u8)) 27 A30228 c30229 x30227]) q_ := fun q_ h1_ h2_ => (hA49412 q_ h2_).elim ((fun _ _ h_ => Or.inr (Or.inl h_)) q_ h1_) (fun h3_ => by have hs_ := HS49365.size; exfalso; omega)
            replace HS46273 := HS46273.trans hc49411 (fun k_ hk_ h_ => (fun _ _ h_ => Or.inr (Or.inl h_)) k_ hk_ h_)
            replace HS49365 := HS49365.trans hc49411 (fun k_ hk_ h_ => (fun _ _ h_ => Or.inr (Or.inl h_)) k_ hk_ h_)
            replace H := H_; clear H_; try dsimp only [setn, addE, goneL] at H
            refine wpList_nil ?_
            refine th_n ⟨HS49365, ?_⟩
            refine wpAnyH_all (rs := [5]) (by kernel_rfl) (by simp) ?_
            refine all1 ?_
            refine wpOp_of_list rfl ?_
            refine h_store (g := g355) (off := 0) H 2 rfl E rfl rfl rfl rfl tbok rfl rfl rfl rfl rfl ?_
            clear E; intro w49415 a hc49416 H_ E
            replace HS46273 := HS46273.trans hc49416 (fun k_ hk_ h_ => (fun _ _ h_ => Or.inl h_) k_ hk_ h_)
            replace HS49365 := HS49365.trans hc49416 (fun k_ hk_ h_ => (fun _ _ h_ => Or.inl h_) k_ hk_ h_)
            replace H := H_; clear H_; try dsimp only [setn, addE, goneL] at H
            refine wpList_nil ?_
            refine th_n ⟨HS49365, ?_⟩
            refine dr_done (by kernel_rfl) ?_
            exact .inl ⟨rfl, A49409, c49410, E.pick _ trivial, H.sel [0, 1, 2, 3, 4, 5, 6, 7, 9, 10] rfl, hin49413, HS46273⟩
           refine wpOp_of_list rfl ?_
           refine h_buildSlice (ps := [(0, .slice A49394 (List.length (([] : List Int) ++ (([] : List Int) ++ ([IntKind.u8.wrap x30230] : List Int)))) c49395)]) (cs := [.slice A49394 (List.length (([] : List Int) ++ (([] : List Int) ++ ([IntKind.u8.wrap x30230] : List Int)))) c49395]) H E rfl rfl tbok rfl rfl (by kernel_rfl) ?_
           intro w49418 g49417 a hc49419 hg49421 H_ E_
           replace E := E_ _ rfl; clear E_
           have hin49422 : ∀ q_, q_ < w36155.heap.size → q_ = g49417 → (atL [.box g355 39 [.slice A30228 (List.length x30227) c30229], .row true (cSl (cInt .u8)) 27 A30228 c30229 x30227]) q_ := fun q_ h1_ h2_ => by have hs_ := HS46273.size; have h4_ : q_ = g49417 := h2_; exfalso; omega
           have hin49423 : ∀ q_, q_ < w46282.heap.size → q_ = g49417 → (atL [.box g355 39 [.slice A30228 (List.length x30227) c30229], .row true (cSl (cInt .u8)) 27 A30228 c30229 x30227]) q_ := fun q_ h1_ h2_ => by have hs_ := HS49365.size; have h4_ : q_ = g49417 := h2_; exfalso; omega
           replace HS46273 := HS46273.ext hc49419
           replace HS49365 := HS49365.ext hc49419
           replace H := H_; clear H_; try dsimp only [setn, addE, goneL] at H
           refine wpList_nil ?_
           refine th_n ⟨HS49365, ?_⟩
           refine wpAnyH_all (rs := [0]) (by kernel_rfl) (by simp) ?_
           refine all1 ?_
           refine wpOp_of_list rfl ?_
           refine vn tbok 1 [.slice A30228 (List.length x30227) c30229] [(14, .slice A30228 (List.length x30227) c30229)] [World.cell? w49418 ⟨g355, 0, none⟩ = some (.slice A30228 (List.length x30227) c30229)] E (by kernel_rfl) (by kernel_rfl) ((H.box 2 rfl).cell (j := 0) rfl) ?_
           clear E; intro a E
           refine wpList_nil ?_
           refine th_n ⟨HS49365, ?_⟩
           refine wpAnyH_all (rs := [4]) (by kernel_rfl) (by simp) ?_
           refine all1 ?_
           refine wpOp_of_list rfl ?_
           have hk49424 := H.rcap 11 rfl
           replace H := H.frz 11 rfl; try dsimp only [setn, addE, goneL] at H
           refine h_append (cSl (cInt .u8)) (xs := x30227) (ys := ([([] : List Int) ++ (([] : List Int) ++ ([IntKind.u8.wrap x30230] : List Int))] : List (List Int))) ([] : List Int) H 3 rfl E rfl rfl tbok rfl rfl rfl rfl rfl (fun _ _ => kSl_nil) rfl rfl (fun _ HF_ => HF_.srcB 12 rfl ⟨_, _, rfl, ⟨_, _, rfl, hk49424, (HF_.roC 11 rfl)⟩, rfl⟩) g49350 ?_
           intro w49425 A49426 c49427 a hc49428 hA49429 H_ E_
           replace E := E_ _ rfl; clear E_
           have hin49430 : ∀ q_, q_ < w36155.heap.size → At A49426 q_ → (atL [.box g355 39 [.slice A30228 (List.length x30227) c30229], .row true (cSl (cInt .u8)) 27 A30228 c30229 x30227]) q_ := fun q_ h1_ h2_ => (hA49429 q_ h2_).elim ((fun _ _ h_ => Or.inr (Or.inl h_)) q_ h1_) (fun h3_ => by have hs_ := HS46273.size; exfalso; omega)
           have hin49431 : ∀ q_, q_ < w46282.heap.size → At A49426 q_ → (atL [.box g355 39 [.slice A30228 (List.length x30227) c30229], .row true (cSl (cInt .u8)) 27 A30228 c30229 x30227]) q_ := fun q_ h1_ h2_ => (hA49429 q_ h2_).elim ((fun _ _ h_ => Or.inr (Or.inl h_)) q_ h1_) (fun h3_ => by have hs_ := HS49365.size; exfalso; omega)
           replace HS46273 := HS46273.trans hc49428 (fun k_ hk_ h_ => (fun _ _ h_ => Or.inr (Or.inl h_)) k_ hk_ h_)
           replace HS49365 := HS49365.trans hc49428 (fun k_ hk_ h_ => (fun _ _ h_ => Or.inr (Or.inl h_)) k_ hk_ h_)
           replace H := H_; clear H_; try dsimp only [setn, addE, goneL] at H
           refine wpList_nil ?_
           refine th_n ⟨HS49365, ?_⟩
           refine wpAnyH_all (rs := [5]) (by kernel_rfl) (by simp) ?_
           refine all1 ?_
           refine wpOp_of_list rfl ?_
           refine h_store (g := g355) (off := 0) H 2 rfl E rfl rfl rfl rfl tbok rfl rfl rfl rfl rfl ?_
           clear E; intro w49432 a hc49433 H_ E
           replace HS46273 := HS46273.trans hc49433 (fun k_ hk_ h_ => (fun _ _ h_ => Or.inl h_) k_ hk_ h_)
           replace HS49365 := HS49365.trans hc49433 (fun k_ hk_ h_ => (fun _ _ h_ => Or.inl h_) k_ hk_ h_)
           replace H := H_; clear H_; try dsimp only [setn, addE, goneL] at H
           refine wpList_nil ?_
           refine th_n ⟨HS49365, ?_⟩
           refine dr_done (by kernel_rfl) ?_
           exact .inl ⟨rfl, A49426, c49427, E.pick _ trivial, H.sel [0, 1, 2, 3, 4, 5, 6, 7, 9, 10] rfl, hin49430, HS46273⟩
          clear E H HS46273; rintro a w49362 ⟨A49359, c49360, E, H, hin49361, HS46273⟩
          refine th_n ?_
          refine wp_ret ?_
          refine th_ret ?_
          have hx_ := Option.some.inj hP
          refine bodyPost_ret (v := .tuple #[]) (by simp [results, Try.f45]) E.nodef ?_
          exact ⟨_, rfl, x30227 ++ ([([] : List Int) ++ (([] : List Int) ++ ([IntKind.u8.wrap x30230] : List Int))] : List (List Int)), A49359, c49360, rfl, H.sel [0, 1, 2, 3, 4, 5, 6, 7, 8, 9] rfl, hin49361, HS46273, hx_.symm⟩
         replace E := E_; clear E_
         have h49434 : ¬ ((n416 - 1 : Int) = 0) := ne_of_beq_false hb_
         clear hb_; replace hP := ite_f h49434 hP
         refine c_false E rfl ?_
         refine wp_skip ?_
         refine th_n ?_
         refine wp_seq ?_
         refine wp_region_lit ?_
         obtain ⟨g49435, hP⟩ := ask_inv hP
         obtain ⟨A49436, c49437, hl49438, hk49439, H⟩ := H.subSl 4 true (el_row rfl) g49435
         try dsimp only [addE] at H
         refine vn tbok 6 [.slice (some ⟨b24305, 0, none⟩) (List.length r18.1) c28, .slice A49436 (List.length (List.getD r18.1 (Int.toNat (List.getD (List.getD r18.1 (Int.toNat (0 : Int)) []) (Int.toNat x30230) 0)) [])) c49437] [(22, .slice A49436 (List.length (List.getD r18.1 (Int.toNat (List.getD (List.getD r18.1 (Int.toNat (0 : Int)) []) (Int.toNat x30230) 0)) [])) c49437), (23, .int .i64 (((List.length (List.getD r18.1 (Int.toNat (List.getD (List.getD r18.1 (Int.toNat (0 : Int)) []) (Int.toNat x30230) 0)) [])) : Nat) : Int)), (24, .int .i64 0)] [World.cell? w46282 ⟨g30, 0, none⟩ = some (.slice (some ⟨b24305, 0, none⟩) (List.length r18.1) c28), 0 ≤ (List.getD (List.getD r18.1 (Int.toNat (0 : Int)) []) (Int.toNat x30230) 0) ∧ (List.getD (List.getD r18.1 (Int.toNat (0 : Int)) []) (Int.toNat x30230) 0) < (((List.length r18.1) : Nat) : Int), World.cell? w46282 ⟨b24305, 0 + (Int.toNat (List.getD (List.getD r18.1 (Int.toNat (0 : Int)) []) (Int.toNat x30230) 0)) * 1, none⟩ = some (.slice A49436 (List.length (List.getD r18.1 (Int.toNat (List.getD (List.getD r18.1 (Int.toNat (0 : Int)) []) (Int.toNat x30230) 0)) [])) c49437)] E (by kernel_rfl) (by kernel_rfl) ⟨(H.box 5 rfl).cell (j := 0) rfl, g49435, hl49438⟩ ?_
         clear E; intro a E
         refine wpList_nil ?_
         refine th_n ?_
         refine wp_block ?_
         obtain ⟨x41892, hL52448, hK52449⟩ := bind_inv hP
         clear hP
         refine loop_cut (fun i_ a w_ => (i_ = 0 ∧ ∃ (x52452 : List (List Int)), ∃ (A52444 : Option Addr) (c52445 : Nat), Fr a 50 [] ∧ Hp S Fa w0 w_ [.row true (cSl cS74) 76 (some ⟨b12326, 0, none⟩) c202 x206.1, .box g46 73 [.slice (some ⟨b12326, 0, none⟩) (List.length x206.1) c202], .box g355 39 [.slice A52444 (List.length x52452) c52445], .row true (cSl (cInt .u8)) 27 A52444 c52445 x52452, .row true (cSl (cInt .i64)) 23 (some ⟨b24305, 0, none⟩) c28 r18.1, .box g30 69 [.slice (some ⟨b24305, 0, none⟩) (List.length r18.1) c28], .box g360 79 [.func (.func 45) #[] #[.pointer (some ⟨g355, 0, none⟩), .pointer (some ⟨g30, 0, none⟩), .pointer (some ⟨g46, 0, none⟩), .pointer (some ⟨g360, 0, none⟩)]], .ro true (cInt .i64) (some ⟨b36160, o36161, none⟩) (List.getD r18.1 (Int.toNat (0 : Int)) []), .box g46275 52 [.int .u8 (IntKind.u8.wrap x30230)], .row true (cInt .u8) 52 A46283 c46284 (([] : List Int) ++ ([IntKind.u8.wrap x30230] : List Int))] ∧ (∀ q_, q_ < w36155.heap.size → At A52444 q_ → (atL [.box g355 39 [.slice A30228 (List.length x30227) c30229], .row true (cSl (cInt .u8)) 27 A30228 c30229 x30227]) q_) ∧ Chg (atL [.box g355 39 [.slice A30228 (List.length x30227) c30229], .row true (cSl (cInt .u8)) 27 A30228 c30229 x30227]) w36155 w_ ∧ x41892 = x52452)) ?_ ?_
         ·
          refine loopV (fun m52451 a w52450 => ∃ (x40493 : List (List Int)) (x40496 : Int), ∃ (A50939 : Option Addr) (c50940 : Nat), Fr a 50 [(1, .int .i64 (n416 - 1)), (2, .slice A46283 (List.length (([] : List Int) ++ ([IntKind.u8.wrap x30230] : List Int))) c46284), (5, .pointer (some ⟨g46, 0, none⟩)), (6, .pointer (some ⟨g360, 0, none⟩)), (22, .slice A49436 (List.length (List.getD r18.1 (Int.toNat (List.getD (List.getD r18.1 (Int.toNat (0 : Int)) []) (Int.toNat x30230) 0)) [])) c49437), (23, .int .i64 (((List.length (List.getD r18.1 (Int.toNat (List.getD (List.getD r18.1 (Int.toNat (0 : Int)) []) (Int.toNat x30230) 0)) [])) : Nat) : Int)), (24, .int .i64 x40496)] ∧ Hp S Fa w0 w52450 [.row true (cInt .u8) 52 A46283 c46284 (([] : List Int) ++ ([IntKind.u8.wrap x30230] : List Int)), .row true (cSl cS74) 76 (some ⟨b12326, 0, none⟩) c202 x206.1, .box g46 73 [.slice (some ⟨b12326, 0, none⟩) (List.length x206.1) c202], .box g355 39 [.slice A50939 (List.length x40493) c50940], .row true (cSl (cInt .u8)) 27 A50939 c50940 x40493, .row true (cSl (cInt .i64)) 23 (some ⟨b24305, 0, none⟩) c28 r18.1, .box g30 69 [.slice (some ⟨b24305, 0, none⟩) (List.length r18.1) c28], .box g360 79 [.func (.func 45) #[] #[.pointer (some ⟨g355, 0, none⟩), .pointer (some ⟨g30, 0, none⟩), .pointer (some ⟨g46, 0, none⟩), .pointer (some ⟨g360, 0, none⟩)]], .ro true (cInt .i64) A49436 (List.getD r18.1 (Int.toNat (List.getD (List.getD r18.1 (Int.toNat (0 : Int)) []) (Int.toNat x30230) 0)) []), .ro true (cInt .i64) (some ⟨b36160, o36161, none⟩) (List.getD r18.1 (Int.toNat (0 : Int)) []), .box g46275 52 [.int .u8 (IntKind.u8.wrap x30230)]] ∧ (∀ q_, q_ < w36155.heap.size → At A50939 q_ → (atL [.box g355 39 [.slice A30228 (List.length x30227) c30229], .row true (cSl (cInt .u8)) 27 A30228 c30229 x30227]) q_) ∧ Chg (atL [.box g355 39 [.slice A30228 (List.length x30227) c30229], .row true (cSl (cInt .u8)) 27 A30228 c30229 x30227]) w36155 w52450 ∧ lang_Words_l5 N r18 x206 n416 x30230 m52451 x40493 x40496 = some x41892) N ?_ ?_
          ·
           exact ⟨x30227, 0, A30228, c30229, E.pick _ ⟨rfl, rfl, rfl, rfl, rfl, rfl, rfl, trivial⟩, H.sel [10, 0, 1, 2, 3, 4, 5, 6, 11, 7, 9] rfl, (fun _ _ h_ => Or.inr (Or.inl h_)), HS46273, hL52448⟩
          clear E H hL52448 HS46273; intro m52451 a w52450 hI_
          obtain ⟨x40493, x40496, A50939, c50940, E, H, hin50941, HS46273, hP⟩ := hI_
          obtain ⟨m41891, rfl⟩ : ∃ q_, m52451 = q_ + 1 := by cases m52451 with | zero => rw [lang_Words_l5] at hP; cases hP | succ q_ => exact ⟨q_, rfl⟩
          rw [lang_Words_l5] at hP
          refine wp_seq ?_
          refine wp_region_lit ?_
          refine vn tbok 1 [] [(25, .bool (decide (x40496 < (((List.length (List.getD r18.1 (Int.toNat (List.getD (List.getD r18.1 (Int.toNat (0 : Int)) []) (Int.toNat x30230) 0)) [])) : Nat) : Int))))] [] E (by kernel_rfl) (by kernel_rfl) trivial ?_
          clear E; intro a E
          refine wpList_nil ?_
          refine th_n ?_
          refine wp_seq ?_
          refine E.cases (t := 25) rfl (fun hb_ E_ => ?_) (fun hb_ E_ => ?_)
          ·
           replace E := E_; clear E_
           have h52453 : x40496 < (((List.length (List.getD r18.1 (Int.toNat (List.getD (List.getD r18.1 (Int.toNat (0 : Int)) []) (Int.toNat x30230) 0)) [])) : Nat) : Int) := of_decide_eq_true hb_
           clear hb_; replace hP := ite_t h52453 hP
           refine c_true E rfl ?_
           refine wp_skip ?_
           refine th_n ?_
           refine wp_seq ?_
           refine wp_block ?_
           refine wp_seq ?_
           refine wp_region_lit ?_
           obtain ⟨g52454, hP⟩ := ask_inv hP
           obtain ⟨b52455, o52456, e_b52455⟩ := (H.rd 8 rds_ro).addr (idx_pos g52454)
           subst e_b52455
           refine vn tbok 5 [.int .i64 (List.getD (List.getD r18.1 (Int.toNat (List.getD (List.getD r18.1 (Int.toNat (0 : Int)) []) (Int.toNat x30230) 0)) []) (Int.toNat x40496) 0)] [(10, .int .i64 x40496), (11, .int .i64 (List.getD (List.getD r18.1 (Int.toNat (List.getD (List.getD r18.1 (Int.toNat (0 : Int)) []) (Int.toNat x30230) 0)) []) (Int.toNat x40496) 0))] [0 ≤ x40496 ∧ x40496 < (((List.length (List.getD r18.1 (Int.toNat (List.getD (List.getD r18.1 (Int.toNat (0 : Int)) []) (Int.toNat x30230) 0)) [])) : Nat) : Int), World.cell? w52450 ⟨b52455, o52456 + (Int.toNat x40496) * 1, none⟩ = some (.int .i64 (List.getD (List.getD r18.1 (Int.toNat (List.getD (List.getD r18.1 (Int.toNat (0 : Int)) []) (Int.toNat x30230) 0)) []) (Int.toNat x40496) 0))] E (by kernel_rfl) (by kernel_rfl) ⟨g52454, Rds.at1 (H.rd 8 rds_ro) 0 g52454⟩ ?_
           clear E; intro a E
           refine wpList_nil ?_
           refine th_n ?_
           refine wp_seq ?_
           refine wp_region_lit ?_
           obtain ⟨g52457, hP⟩ := ask_inv hP
           obtain ⟨g52458, hP⟩ := ask_inv hP
           obtain ⟨A52459, c52460, hl52461, hk52462, H⟩ := H.subSl 1 true (el_row rfl) g52458
           try dsimp only [addE] at H
           obtain ⟨g52464, hP⟩ := ask_inv hP
           obtain ⟨b52465, o52466, e_b52465⟩ := (H.rd 11 rds_ro).addr (idx_pos g52464)
           subst e_b52465
           refine vn tbok 10 [.slice (some ⟨b12326, 0, none⟩) (List.length x206.1) c202, .int .i64 ((n416 - 1) - 1), .slice (some ⟨b52465, o52466, none⟩) (List.length (List.getD x206.1 (Int.toNat ((n416 - 1) - 1)) [])) c52460, .int .u64 ((List.getD (List.getD x206.1 (Int.toNat ((n416 - 1) - 1)) []) (Int.toNat (List.getD (List.getD r18.1 (Int.toNat (List.getD (List.getD r18.1 (Int.toNat (0 : Int)) []) (Int.toNat x30230) 0)) []) (Int.toNat x40496) 0)) (0, false)).1)] [(38, .bool (decide (0 < ((List.getD (List.getD x206.1 (Int.toNat ((n416 - 1) - 1)) []) (Int.toNat (List.getD (List.getD r18.1 (Int.toNat (List.getD (List.getD r18.1 (Int.toNat (0 : Int)) []) (Int.toNat x30230) 0)) []) (Int.toNat x40496) 0)) (0, false)).1))))] [World.cell? w52450 ⟨g46, 0, none⟩ = some (.slice (some ⟨b12326, 0, none⟩) (List.length x206.1) c202), IntKind.i64.wrap ((n416 - 1) - 1) = (n416 - 1) - 1, 0 ≤ ((n416 - 1) - 1) ∧ ((n416 - 1) - 1) < (((List.length x206.1) : Nat) : Int), World.cell? w52450 ⟨b12326, 0 + (Int.toNat ((n416 - 1) - 1)) * 1, none⟩ = some (.slice (some ⟨b52465, o52466, none⟩) (List.length (List.getD x206.1 (Int.toNat ((n416 - 1) - 1)) [])) c52460), 0 ≤ (List.getD (List.getD r18.1 (Int.toNat (List.getD (List.getD r18.1 (Int.toNat (0 : Int)) []) (Int.toNat x30230) 0)) []) (Int.toNat x40496) 0) ∧ (List.getD (List.getD r18.1 (Int.toNat (List.getD (List.getD r18.1 (Int.toNat (0 : Int)) []) (Int.toNat x30230) 0)) []) (Int.toNat x40496) 0) < (((List.length (List.getD x206.1 (Int.toNat ((n416 - 1) - 1)) [])) : Nat) : Int), World.cell? w52450 ⟨b52465, o52466 + (Int.toNat (List.getD (List.getD r18.1 (Int.toNat (List.getD (List.getD r18.1 (Int.toNat (0 : Int)) []) (Int.toNat x30230) 0)) []) (Int.toNat x40496) 0)) * 2, none⟩ = some (.int .u64 ((List.getD (List.getD x206.1 (Int.toNat ((n416 - 1) - 1)) []) (Int.toNat (List.getD (List.getD r18.1 (Int.toNat (List.getD (List.getD r18.1 (Int.toNat (0 : Int)) []) (Int.toNat x30230) 0)) []) (Int.toNat x40496) 0)) (0, false)).1))] E (by kernel_rfl) (by kernel_rfl) ⟨(H.box 2 rfl).cell (j := 0) rfl, wrap_in g52457, g52458, hl52461, g52464, (Rds.atP (H.rd 11 rds_ro) (0, false) g52464).1⟩ ?_
           clear E; intro a E
           refine wpList_nil ?_
           refine th_n ?_
           refine E.cases (t := 38) rfl (fun hb_ E_ => ?_) (fun hb_ E_ => ?_)
           ·
            replace E := E_; clear E_
            have h52467 : 0 < ((List.getD (List.getD x206.1 (Int.toNat ((n416 - 1) - 1)) []) (Int.toNat (List.getD (List.getD r18.1 (Int.toNat (List.getD (List.getD r18.1 (Int.toNat (0 : Int)) []) (Int.toNat x30230) 0)) []) (Int.toNat x40496) 0)) (0, false)).1) := of_decide_eq_true hb_
            clear hb_; replace hP := ite_t h52467 hP
            refine c_true E rfl ?_
            obtain ⟨g52474, hP⟩ := ask_inv hP
            obtain ⟨x42568, h53177, hP⟩ := bind_inv hP
            have HR54721 := H
            refine dr_start (S := fun w_ => Chg (atL [.row true (cInt .u8) 52 A46283 c46284 (([] : List Int) ++ ([IntKind.u8.wrap x30230] : List Int)), .box g355 39 [.slice A50939 (List.length x40493) c50940], .row true (cSl (cInt .u8)) 27 A50939 c50940 x40493]) w52450 w_) (by kernel_rfl) ?_
            intro w54718 hc54719
            have HS54720 : Chg (atL [.row true (cInt .u8) 52 A46283 c46284 (([] : List Int) ++ ([IntKind.u8.wrap x30230] : List Int)), .box g355 39 [.slice A50939 (List.length x40493) c50940], .row true (cSl (cInt .u8)) 27 A50939 c50940 x40493]) w52450 w54718 := hc54719.mono (fun _ _ h_ => h_.elim)
            replace HS46273 := HS46273.ext hc54719
            replace H := H.ext hc54719
            refine dn tbok (by kernel_rfl) [0, 1, 2, 3, 4, 5, 6] [.func (.func 45) #[] #[.pointer (some ⟨g355, 0, none⟩), .pointer (some ⟨g30, 0, none⟩), .pointer (some ⟨g46, 0, none⟩), .pointer (some ⟨g360, 0, none⟩)], .int .i64 ((n416 - 1) - 1), .int .u8 (IntKind.u8.wrap x40496)] [(39, .func (.func 45) #[] #[.pointer (some ⟨g355, 0, none⟩), .pointer (some ⟨g30, 0, none⟩), .pointer (some ⟨g46, 0, none⟩), .pointer (some ⟨g360, 0, none⟩)]), (40, .int .i64 (List.getD (List.getD r18.1 (Int.toNat (List.getD (List.getD r18.1 (Int.toNat (0 : Int)) []) (Int.toNat x30230) 0)) []) (Int.toNat x40496) 0)), (42, .int .i64 ((n416 - 1) - 1)), (43, .slice A46283 (List.length (([] : List Int) ++ ([IntKind.u8.wrap x30230] : List Int))) c46284), (45, .int .u8 (IntKind.u8.wrap x40496))] (fun w_ => [World.cell? w_ ⟨g360, 0, none⟩ = some (.func (.func 45) #[] #[.pointer (some ⟨g355, 0, none⟩), .pointer (some ⟨g30, 0, none⟩), .pointer (some ⟨g46, 0, none⟩), .pointer (some ⟨g360, 0, none⟩)]), IntKind.i64.wrap ((n416 - 1) - 1) = (n416 - 1) - 1, IntKind.u8.wrap x40496 = (IntKind.u8.wrap x40496)]) 3 E (fun _ _ => by kernel_rfl) (by kernel_rfl) (fun w_ hS_ => ⟨(HR54721.boxk [0, 3, 4] hS_ 7 rfl rfl).cell (j := 0) rfl, wrap_in g52457, rfl⟩) (by kernel_rfl) HS54720 ?_
            clear E; intro a E
            refine wpAnyH_all (rs := [7]) (by kernel_rfl) (by simp) ?_
            refine all1 ?_
            refine wpOp_of_list rfl ?_
            refine h_buildSlice (ps := [(0, .int .u8 (IntKind.u8.wrap x40496))]) (cs := [.int .u8 (IntKind.u8.wrap x40496)]) H E rfl rfl tbok rfl rfl (by kernel_rfl) ?_
            intro w54723 g54722 a hc54724 hg54726 H_ E_
            replace E := E_ _ rfl; clear E_
            have hin54727 : ∀ q_, q_ < w36155.heap.size → q_ = g54722 → (atL [.box g355 39 [.slice A30228 (List.length x30227) c30229], .row true (cSl (cInt .u8)) 27 A30228 c30229 x30227]) q_ := fun q_ h1_ h2_ => by have hs_ := HS46273.size; have h4_ : q_ = g54722 := h2_; exfalso; omega
            have hin54728 : ∀ q_, q_ < w52450.heap.size → q_ = g54722 → (atL [.row true (cInt .u8) 52 A46283 c46284 (([] : List Int) ++ ([IntKind.u8.wrap x30230] : List Int)), .box g355 39 [.slice A50939 (List.length x40493) c50940], .row true (cSl (cInt .u8)) 27 A50939 c50940 x40493]) q_ := fun q_ h1_ h2_ => by have hs_ := HS54720.size; have h4_ : q_ = g54722 := h2_; exfalso; omega
            replace HS46273 := HS46273.ext hc54724
            replace HS54720 := HS54720.ext hc54724
            replace H := H_; clear H_; try dsimp only [setn, addE, goneL] at H
            refine wpList_nil ?_
            refine th_n ⟨HS54720, ?_⟩
            refine wpAnyH_all (rs := [8]) (by kernel_rfl) (by simp) ?_
            refine all1 ?_
            refine wpOp_of_list rfl ?_
            refine h_appendC (cInt .u8) (xs := (([] : List Int) ++ ([IntKind.u8.wrap x30230] : List Int))) (ys := ([IntKind.u8.wrap x40496] : List Int)) (0 : Int) H 0 rfl E rfl rfl tbok rfl rfl rfl rfl rfl (fun _ _ => rfl) rfl rfl (fun _ HF_ => HF_.srcB 12 rfl (⟨_, _, rfl, rfl, rfl⟩)) g52474 ?_
            intro w54733 A54734 c54735 x54736 A54737 c54738 a hc54739 hA54740 hO54741 H_ E_
            replace E := E_ _ rfl; clear E_
            have hin54743 : ∀ q_, q_ < w36155.heap.size → At A54737 q_ → (atL [.box g355 39 [.slice A30228 (List.length x30227) c30229], .row true (cSl (cInt .u8)) 27 A30228 c30229 x30227]) q_ := fun q_ h1_ h2_ => (hA54740 q_ h2_).elim (hin46287 q_ h1_) (fun h3_ => by have hs_ := HS46273.size; exfalso; omega)
            have hin54744 : ∀ q_, q_ < w52450.heap.size → At A54737 q_ → (atL [.row true (cInt .u8) 52 A46283 c46284 (([] : List Int) ++ ([IntKind.u8.wrap x30230] : List Int)), .box g355 39 [.slice A50939 (List.length x40493) c50940], .row true (cSl (cInt .u8)) 27 A50939 c50940 x40493]) q_ := fun q_ h1_ h2_ => (hA54740 q_ h2_).elim ((fun _ _ h_ => Or.inl h_) q_ h1_) (fun h3_ => by have hs_ := HS54720.size; exfalso; omega)
            replace HS46273 := HS46273.trans hc54739 (fun k_ hk_ h_ => hin46287 k_ hk_ h_)
            replace HS54720 := HS54720.trans hc54739 (fun k_ hk_ h_ => (fun _ _ h_ => Or.inl h_) k_ hk_ h_)
            replace H := H_; clear H_; try dsimp only [setn, addE, goneL] at H
            refine wpList_nil ?_
            refine th_n ⟨HS54720, ?_⟩
            refine wpAnyH_all (rs := [9]) (by kernel_rfl) (by simp) ?_
            refine all1 ?_
            refine wpOp_of_list rfl ?_
            refine e_callv (R := fun v_ w_ => ∃ (x55484 : List (List Int)) (A55480 : Option Addr) (c55481 : Nat), v_ = .tuple #[] ∧ Hp S Fa w0 w_ [.row true (cSl cS74) 76 (some ⟨b12326, 0, none⟩) c202 x206.1, .box g46 73 [.slice (some ⟨b12326, 0, none⟩) (List.length x206.1) c202], .box g355 39 [.slice A55480 (List.length x55484) c55481], .row true (cSl (cInt .u8)) 27 A55480 c55481 x55484, .row true (cSl (cInt .i64)) 23 (some ⟨b24305, 0, none⟩) c28 r18.1, .box g30 69 [.slice (some ⟨b24305, 0, none⟩) (List.length r18.1) c28], .box g360 79 [.func (.func 45) #[] #[.pointer (some ⟨g355, 0, none⟩), .pointer (some ⟨g30, 0, none⟩), .pointer (some ⟨g46, 0, none⟩), .pointer (some ⟨g360, 0, none⟩)]], .ro true (cInt .i64) (some ⟨b36160, o36161, none⟩) (List.getD r18.1 (Int.toNat (0 : Int)) []), .box g46275 52 [.int .u8 (IntKind.u8.wrap x30230)], .row true (cInt .u8) 52 A54734 c54735 x54736, .ro true (cInt .i64) (some ⟨b52455, o52456, none⟩) (List.getD r18.1 (Int.toNat (List.getD (List.getD r18.1 (Int.toNat (0 : Int)) []) (Int.toNat x30230) 0)) []), .box g54722 52 [.int .u8 (IntKind.u8.wrap x40496)], .row true (cInt .u8) 52 A54737 c54738 ((([] : List Int) ++ ([IntKind.u8.wrap x30230] : List Int)) ++ ([IntKind.u8.wrap x40496] : List Int))] ∧ (∀ q_, q_ < w36155.heap.size → At A55480 q_ → (atL [.box g355 39 [.slice A30228 (List.length x30227) c30229], .row true (cSl (cInt .u8)) 27 A30228 c30229 x30227]) q_) ∧ (∀ q_, q_ < w52450.heap.size → At A55480 q_ → (atL [.row true (cInt .u8) 52 A46283 c46284 (([] : List Int) ++ ([IntKind.u8.wrap x30230] : List Int)), .box g355 39 [.slice A50939 (List.length x40493) c50940], .row true (cSl (cInt .u8)) 27 A50939 c50940 x40493]) q_) ∧ Chg (atL [.box g355 39 [.slice A30228 (List.length x30227) c30229], .row true (cSl (cInt .u8)) 27 A30228 c30229 x30227]) w36155 w_ ∧ Chg (atL [.row true (cInt .u8) 52 A46283 c46284 (([] : List Int) ++ ([IntKind.u8.wrap x30230] : List Int)), .box g355 39 [.slice A50939 (List.length x40493) c50940], .row true (cSl (cInt .u8)) 27 A50939 c50940 x40493]) w52450 w_ ∧ x42568 = x55484) E rfl rfl rfl Try.func45 rfl rfl rfl ?_ ?_
            ·
             clear E hP; have hP := h53177; clear h53177; rw [lang_Words_f6] at hP
             refine enterV (n := 50) Try.func45 rfl rfl rfl ?_
             intro a E
             replace E := E.pick [(0, .int .i64 (List.getD (List.getD r18.1 (Int.toNat (List.getD (List.getD r18.1 (Int.toNat (0 : Int)) []) (Int.toNat x30230) 0)) []) (Int.toNat x40496) 0)), (1, .int .i64 ((n416 - 1) - 1)), (2, .slice A54737 (List.length ((([] : List Int) ++ ([IntKind.u8.wrap x30230] : List Int)) ++ ([IntKind.u8.wrap x40496] : List Int))) c54738), (3, .pointer (some ⟨g355, 0, none⟩)), (4, .pointer (some ⟨g30, 0, none⟩)), (5, .pointer (some ⟨g46, 0, none⟩)), (6, .pointer (some ⟨g360, 0, none⟩))] ⟨rfl, rfl, rfl, rfl, rfl, rfl, rfl, trivial⟩
             refine wp_seq ?_
             refine wp_seq ?_
             refine wp_region_lit ?_
             refine vn tbok 2 [] [(13, .bool (((n416 - 1) - 1 : Int) == 0))] [] E (by kernel_rfl) (by kernel_rfl) trivial ?_
             clear E; intro a E
             refine wpList_nil ?_
             refine th_n ?_
             refine E.cases (t := 13) rfl (fun hb_ E_ => ?_) (fun hb_ E_ => ?_)
             ·
              replace E := E_; clear E_
              have h55485 : ((n416 - 1) - 1 : Int) = 0 := eq_of_beq hb_
              clear hb_; replace hP := ite_t h55485 hP
              refine c_true E rfl ?_
              refine wp_seq ?_
              obtain ⟨g55487, hP⟩ := ask_inv hP
              obtain ⟨g55503, hP⟩ := ask_inv hP
              refine meet_cut (fun a w55517 => ∃ (A55513 : Option Addr) (c55514 : Nat), Fr a 50 [] ∧ Hp S Fa w0 w55517 [.row true (cSl cS74) 76 (some ⟨b12326, 0, none⟩) c202 x206.1, .box g46 73 [.slice (some ⟨b12326, 0, none⟩) (List.length x206.1) c202], .box g355 39 [.slice A55513 (List.length (x40493 ++ ([([] : List Int) ++ ((([] : List Int) ++ ([IntKind.u8.wrap x30230] : List Int)) ++ ([IntKind.u8.wrap x40496] : List Int))] : List (List Int)))) c55514], .row true (cSl (cInt .u8)) 27 A55513 c55514 (x40493 ++ ([([] : List Int) ++ ((([] : List Int) ++ ([IntKind.u8.wrap x30230] : List Int)) ++ ([IntKind.u8.wrap x40496] : List Int))] : List (List Int))), .row true (cSl (cInt .i64)) 23 (some ⟨b24305, 0, none⟩) c28 r18.1, .box g30 69 [.slice (some ⟨b24305, 0, none⟩) (List.length r18.1) c28], .box g360 79 [.func (.func 45) #[] #[.pointer (some ⟨g355, 0, none⟩), .pointer (some ⟨g30, 0, none⟩), .pointer (some ⟨g46, 0, none⟩), .pointer (some ⟨g360, 0, none⟩)]], .ro true (cInt .i64) (some ⟨b36160, o36161, none⟩) (List.getD r18.1 (Int.toNat (0 : Int)) []), .box g46275 52 [.int .u8 (IntKind.u8.wrap x30230)], .row true (cInt .u8) 52 A54734 c54735 x54736, .ro true (cInt .i64) (some ⟨b52455, o52456, none⟩) (List.getD r18.1 (Int.toNat (List.getD (List.getD r18.1 (Int.toNat (0 : Int)) []) (Int.toNat x30230) 0)) []), .box g54722 52 [.int .u8 (IntKind.u8.wrap x40496)], .row true (cInt .u8) 52 A54737 c54738 ((([] : List Int) ++ ([IntKind.u8.wrap x30230] : List Int)) ++ ([IntKind.u8.wrap x40496] : List Int))] ∧ (∀ q_, q_ < w36155.heap.size → At A55513 q_ → (atL [.box g355 39 [.slice A30228 (List.length x30227) c30229], .row true (cSl (cInt .u8)) 27 A30228 c30229 x30227]) q_) ∧ (∀ q_, q_ < w52450.heap.size → At A55513 q_ → (atL [.row true (cInt .u8) 52 A46283 c46284 (([] : List Int) ++ ([IntKind.u8.wrap x30230] : List Int)), .box g355 39 [.slice A50939 (List.length x40493) c50940], .row true (cSl (cInt .u8)) 27 A50939 c50940 x40493]) q_) ∧ Chg (atL [.box g355 39 [.slice A30228 (List.length x30227) c30229], .row true (cSl (cInt .u8)) 27 A30228 c30229 x30227]) w36155 w55517 ∧ Chg (atL [.row true (cInt .u8) 52 A46283 c46284 (([] : List Int) ++ ([IntKind.u8.wrap x30230] : List Int)), .box g355 39 [.slice A50939 (List.length x40493) c50940], .row true (cSl (cInt .u8)) 27 A50939 c50940 x40493]) w52450 w55517) ?_ ?_
              ·
               have HR55521 := H
               refine dr_start (S := fun w_ => Chg (atL [.box g355 39 [.slice A50939 (List.length x40493) c50940], .row true (cSl (cInt .u8)) 27 A50939 c50940 x40493]) w54733 w_) (by kernel_rfl) ?_
               intro w55518 hc55519
               have HS55520 : Chg (atL [.box g355 39 [.slice A50939 (List.length x40493) c50940], .row true (cSl (cInt .u8)) 27 A50939 c50940 x40493]) w54733 w55518 := hc55519.mono (fun _ _ h_ => h_.elim)
               replace HS46273 := HS46273.ext hc55519
               replace HS54720 := HS54720.ext hc55519
               replace H := H.ext hc55519
               refine dn tbok (by kernel_rfl) [1] [] [(15, .slice A54737 (List.length ((([] : List Int) ++ ([IntKind.u8.wrap x30230] : List Int)) ++ ([IntKind.u8.wrap x40496] : List Int))) c54738)] (fun w_ => []) 5 E (fun _ _ => by kernel_rfl) (by kernel_rfl) (fun w_ hS_ => trivial) (by kernel_rfl) HS55520 ?_
               clear E; intro a E
               refine wpAnyH_all (rs := [0, 2]) (by kernel_rfl) (by simp) ?_
               refine all2 ?_ ?_
               ·
                refine wpOp_of_list rfl ?_
                refine vn tbok 1 [.slice A50939 (List.length x40493) c50940] [(14, .slice A50939 (List.length x40493) c50940)] [World.cell? w55518 ⟨g355, 0, none⟩ = some (.slice A50939 (List.length x40493) c50940)] E (by kernel_rfl) (by kernel_rfl) ((H.box 3 rfl).cell (j := 0) rfl) ?_
                clear E; intro a E
                refine wpList_nil ?_
                refine th_n ⟨HS55520, ?_⟩
                refine wpAnyH_all (rs := [2]) (by kernel_rfl) (by simp) ?_
                refine all1 ?_
                refine wpOp_of_list rfl ?_
                replace H := H.nilrow (cInt .u8) 52; try dsimp only [setn, addE, goneL] at H
                refine h_append (cInt .u8) (xs := ([] : List Int)) (ys := ((([] : List Int) ++ ([IntKind.u8.wrap x30230] : List Int)) ++ ([IntKind.u8.wrap x40496] : List Int))) (0 : Int) H 14 rfl E rfl rfl tbok rfl rfl rfl rfl rfl (fun _ _ => rfl) rfl rfl (fun _ HF_ => HF_.srcF flat_plain 13 rds_row) g55487 ?_
                intro w55523 A55524 c55525 a hc55526 hA55527 H_ E_
                replace E := E_ _ rfl; clear E_
                have hin55528 : ∀ q_, q_ < w36155.heap.size → At A55524 q_ → (atL [.box g355 39 [.slice A30228 (List.length x30227) c30229], .row true (cSl (cInt .u8)) 27 A30228 c30229 x30227]) q_ := fun q_ h1_ h2_ => (hA55527 q_ h2_).elim ((fun q_ _ h_ => absurd h_ (At.nil q_)) q_ h1_) (fun h3_ => by have hs_ := HS46273.size; exfalso; omega)
                have hin55529 : ∀ q_, q_ < w52450.heap.size → At A55524 q_ → (atL [.row true (cInt .u8) 52 A46283 c46284 (([] : List Int) ++ ([IntKind.u8.wrap x30230] : List Int)), .box g355 39 [.slice A50939 (List.length x40493) c50940], .row true (cSl (cInt .u8)) 27 A50939 c50940 x40493]) q_ := fun q_ h1_ h2_ => (hA55527 q_ h2_).elim ((fun q_ _ h_ => absurd h_ (At.nil q_)) q_ h1_) (fun h3_ => by have hs_ := HS54720.size; exfalso; omega)
                have hin55530 : ∀ q_, q_ < w54733.heap.size → At A55524 q_ → (atL [.box g355 39 [.slice A50939 (List.length x40493) c50940], .row true (cSl (cInt .u8)) 27 A50939 c50940 x40493]) q_ := fun q_ h1_ h2_ => (hA55527 q_ h2_).elim ((fun q_ _ h_ => absurd h_ (At.nil q_)) q_ h1_) (fun h3_ => by have hs_ := HS55520.size; exfalso; omega)
                replace HS46273 := HS46273.trans hc55526 (fun k_ hk_ h_ => (fun q_ _ h_ => absurd h_ (At.nil q_)) k_ hk_ h_)
                replace HS54720 := HS54720.trans hc55526 (fun k_ hk_ h_ => (fun q_ _ h_ => absurd h_ (At.nil q_)) k_ hk_ h_)
                replace HS55520 := HS55520.trans hc55526 (fun k_ hk_ h_ => (fun q_ _ h_ => absurd h_ (At.nil q_)) k_ hk_ h_)
                replace H := H_; clear H_; try dsimp only [setn, addE, goneL] at H
                refine wpList_nil ?_
                refine th_n ⟨HS55520, ?_⟩
                refine wpAnyH_all (rs := [3]) (by kernel_rfl) (by simp) ?_
                refine all1 ?_
                refine wpOp_of_list rfl ?_
                refine h_buildSlice (ps := [(0, .slice A55524 (List.length (([] : List Int) ++ ((([] : List Int) ++ ([IntKind.u8.wrap x30230] : List Int)) ++ ([IntKind.u8.wrap x40496] : List Int)))) c55525)]) (cs := [.slice A55524 (List.length (([] : List Int) ++ ((([] : List Int) ++ ([IntKind.u8.wrap x30230] : List Int)) ++ ([IntKind.u8.wrap x40496] : List Int)))) c55525]) H E rfl rfl tbok rfl rfl (by kernel_rfl) ?_
                intro w55532 g55531 a hc55533 hg55535 H_ E_
                replace E := E_ _ rfl; clear E_
                have hin55536 : ∀ q_, q_ < w36155.heap.size → q_ = g55531 → (atL [.box g355 39 [.slice A30228 (List.length x30227) c30229], .row true (cSl (cInt .u8)) 27 A30228 c30229 x30227]) q_ := fun q_ h1_ h2_ => by have hs_ := HS46273.size; have h4_ : q_ = g55531 := h2_; exfalso; omega
                have hin55537 : ∀ q_, q_ < w52450.heap.size → q_ = g55531 → (atL [.row true (cInt .u8) 52 A46283 c46284 (([] : List Int) ++ ([IntKind.u8.wrap x30230] : List Int)), .box g355 39 [.slice A50939 (List.length x40493) c50940], .row true (cSl (cInt .u8)) 27 A50939 c50940 x40493]) q_ := fun q_ h1_ h2_ => by have hs_ := HS54720.size; have h4_ : q_ = g55531 := h2_; exfalso; omega
                have hin55538 : ∀ q_, q_ < w54733.heap.size → q_ = g55531 → (atL [.box g355 39 [.slice A50939 (List.length x40493) c50940], .row true (cSl (cInt .u8)) 27 A50939 c50940 x40493]) q_ := fun q_ h1_ h2_ => by have hs_ := HS55520.size; have h4_ : q_ = g55531 := h2_; exfalso; omega
                replace HS46273 := HS46273.ext hc55533
                replace HS54720 := HS54720.ext hc55533
                replace HS55520 := HS55520.ext hc55533
                replace H := H_; clear H_; try dsimp only [setn, addE, goneL] at H
                refine wpList_nil ?_
                refine th_n ⟨HS55520, ?_⟩
                refine wpAnyH_all (rs := [4]) (by kernel_rfl) (by simp) ?_
                refine all1 ?_
                refine wpOp_of_list rfl ?_
                have hk55539 := H.rcap 14 rfl
                replace H := H.frz 14 rfl; try dsimp only [setn, addE, goneL] at H
                refine h_append (cSl (cInt .u8)) (xs := x40493) (ys := ([([] : List Int) ++ ((([] : List Int) ++ ([IntKind.u8.wrap x30230] : List Int)) ++ ([IntKind.u8.wrap x40496] : List Int))] : List (List Int))) ([] : List Int) H 4 rfl E rfl rfl tbok rfl rfl rfl rfl rfl (fun _ _ => kSl_nil) rfl rfl (fun _ HF_ => HF_.srcB 15 rfl ⟨_, _, rfl, ⟨_, _, rfl, hk55539, (HF_.roC 14 rfl)⟩, rfl⟩) g55503 ?_
                intro w55540 A55541 c55542 a hc55543 hA55544 H_ E_
                replace E := E_ _ rfl; clear E_
                have hin55545 : ∀ q_, q_ < w36155.heap.size → At A55541 q_ → (atL [.box g355 39 [.slice A30228 (List.length x30227) c30229], .row true (cSl (cInt .u8)) 27 A30228 c30229 x30227]) q_ := fun q_ h1_ h2_ => (hA55544 q_ h2_).elim (hin50941 q_ h1_) (fun h3_ => by have hs_ := HS46273.size; exfalso; omega)
                have hin55546 : ∀ q_, q_ < w52450.heap.size → At A55541 q_ → (atL [.row true (cInt .u8) 52 A46283 c46284 (([] : List Int) ++ ([IntKind.u8.wrap x30230] : List Int)), .box g355 39 [.slice A50939 (List.length x40493) c50940], .row true (cSl (cInt .u8)) 27 A50939 c50940 x40493]) q_ := fun q_ h1_ h2_ => (hA55544 q_ h2_).elim ((fun _ _ h_ => Or.inr (Or.inr (Or.inl h_))) q_ h1_) (fun h3_ => by have hs_ := HS54720.size; exfalso; omega)
                have hin55547 : ∀ q_, q_ < w54733.heap.size → At A55541 q_ → (atL [.box g355 39 [.slice A50939 (List.length x40493) c50940], .row true (cSl (cInt .u8)) 27 A50939 c50940 x40493]) q_ := fun q_ h1_ h2_ => (hA55544 q_ h2_).elim ((fun _ _ h_ => Or.inr (Or.inl h_)) q_ h1_) (fun h3_ => by have hs_ := HS55520.size; exfalso; omega)
                replace HS46273 := HS46273.trans hc55543 (fun k_ hk_ h_ => hin50941 k_ hk_ h_)
                replace HS54720 := HS54720.trans hc55543 (fun k_ hk_ h_ => (fun _ _ h_ => Or.inr (Or.inr (Or.inl h_))) k_ hk_ h_)
                replace HS55520 := HS55520.trans hc55543 (fun k_ hk_ h_ => (fun _ _ h_ => Or.inr (Or.inl h_)) k_ hk_ h_)
                replace H := H_; clear H_; try dsimp only [setn, addE, goneL] at H
                refine wpList_nil ?_
                refine th_n ⟨HS55520, ?_⟩
                refine wpAnyH_all (rs := [5]) (by kernel_rfl) (by simp) ?_
                refine all1 ?_
                refine wpOp_of_list rfl ?_
                refine h_store (g := g355) (off := 0) H 3 rfl E rfl rfl rfl rfl tbok rfl rfl rfl rfl rfl ?_
                clear E; intro w55548 a hc55549 H_ E
                replace HS46273 := HS46273.trans hc55549 (fun k_ hk_ h_ => (fun _ _ h_ => Or.inl h_) k_ hk_ h_)
                replace HS54720 := HS54720.trans hc55549 (fun k_ hk_ h_ => (fun _ _ h_ => Or.inr (Or.inl h_)) k_ hk_ h_)
                replace HS55520 := HS55520.trans hc55549 (fun k_ hk_ h_ => (fun _ _ h_ => Or.inl h_) k_ hk_ h_)
                replace H := H_; clear H_; try dsimp only [setn, addE, goneL] at H
                refine wpList_nil ?_
                refine th_n ⟨HS55520, ?_⟩
                refine dr_done (by kernel_rfl) ?_
                exact .inl ⟨rfl, A55541, c55542, E.pick _ trivial, H.sel [1, 2, 3, 4, 5, 6, 7, 9, 10, 0, 8, 12, 13] rfl, hin55545, hin55546, HS46273, HS54720⟩
               refine wpOp_of_list rfl ?_
               replace H := H.nilrow (cInt .u8) 52; try dsimp only [setn, addE, goneL] at H
               refine h_append (cInt .u8) (xs := ([] : List Int)) (ys := ((([] : List Int) ++ ([IntKind.u8.wrap x30230] : List Int)) ++ ([IntKind.u8.wrap x40496] : List Int))) (0 : Int) H 14 rfl E rfl rfl tbok rfl rfl rfl rfl rfl (fun _ _ => rfl) rfl rfl (fun _ HF_ => HF_.srcF flat_plain 13 rds_row) g55487 ?_
               intro w55551 A55552 c55553 a hc55554 hA55555 H_ E_
               replace E := E_ _ rfl; clear E_
               have hin55556 : ∀ q_, q_ < w36155.heap.size → At A55552 q_ → (atL [.box g355 39 [.slice A30228 (List.length x30227) c30229], .row true (cSl (cInt .u8)) 27 A30228 c30229 x30227]) q_ := fun q_ h1_ h2_ => (hA55555 q_ h2_).elim ((fun q_ _ h_ => absurd h_ (At.nil q_)) q_ h1_) (fun h3_ => by have hs_ := HS46273.size; exfalso; omega)
               have hin55557 : ∀ q_, q_ < w52450.heap.size → At A55552 q_ → (atL [.row true (cInt .u8) 52 A46283 c46284 (([] : List Int) ++ ([IntKind.u8.wrap x30230] : List Int)), .box g355 39 [.slice A50939 (List.length x40493) c50940], .row true (cSl (cInt .u8)) 27 A50939 c50940 x40493]) q_ := fun q_ h1_ h2_ => (hA55555 q_ h2_).elim ((fun q_ _ h_ => absurd h_ (At.nil q_)) q_ h1_) (fun h3_ => by have hs_ := HS54720.size; exfalso; omega)
               have hin55558 : ∀ q_, q_ < w54733.heap.size → At A55552 q_ → (atL [.box g355 39 [.slice A50939 (List.length x40493) c50940], .row true (cSl (cInt .u8)) 27 A50939 c50940 x40493]) q_ := fun q_ h1_ h2_ => (hA55555 q_ h2_).elim ((fun q_ _ h_ => absurd h_ (At.nil q_)) q_ h1_) (fun h3_ => by have hs_ := HS55520.size; exfalso; omega)
               replace HS46273 := HS46273.trans hc55554 (fun k_ hk_ h_ => (fun q_ _ h_ => absurd h_ (At.nil q_)) k_ hk_ h_)
               replace HS54720 := HS54720.trans hc55554 (fun k_ hk_ h_ => (fun q_ _ h_ => absurd h_ (At.nil q_)) k_ hk_ h_)
               replace HS55520 := HS55520.trans hc55554 (fun k_ hk_ h_ => (fun q_ _ h_ => absurd h_ (At.nil q_)) k_ hk_ h_)
               replace H := H_; clear H_; try dsimp only [setn, addE, goneL] at H
               refine wpList_nil ?_
               refine th_n ⟨HS55520, ?_⟩
               refine wpAnyH_all (rs := [0, 3]) (by kernel_rfl) (by simp) ?_
               refine all2 ?_ ?_
               ·
                refine wpOp_of_list rfl ?_
                refine vn tbok 1 [.slice A50939 (List.length x40493) c50940] [(14, .slice A50939 (List.length x40493) c50940)] [World.cell? w55551 ⟨g355, 0, none⟩ = some (.slice A50939 (List.length x40493) c50940)] E (by kernel_rfl) (by kernel_rfl) ((H.box 3 rfl).cell (j := 0) rfl) ?_
                clear E; intro a E
                refine wpList_nil ?_
                refine th_n ⟨HS55520, ?_⟩
                refine wpAnyH_all (rs := [3]) (by kernel_rfl) (by simp) ?_
                refine all1 ?_
                refine wpOp_of_list rfl ?_
                refine h_buildSlice (ps := [(0, .slice A55552 (List.length (([] : List Int) ++ ((([] : List Int) ++ ([IntKind.u8.wrap x30230] : List Int)) ++ ([IntKind.u8.wrap x40496] : List Int)))) c55553)]) (cs := [.slice A55552 (List.length (([] : List Int) ++ ((([] : List Int) ++ ([IntKind.u8.wrap x30230] : List Int)) ++ ([IntKind.u8.wrap x40496] : List Int)))) c55553]) H E rfl rfl tbok rfl rfl (by kernel_rfl) ?_
                intro w55560 g55559 a hc55561 hg55563 H_ E_
                replace E := E_ _ rfl; clear E_
                have hin55564 : ∀ q_, q_ < w36155.heap.size → q_ = g55559 → (atL [.box g355 39 [.slice A30228 (List.length x30227) c30229], .row true (cSl (cInt .u8)) 27 A30228 c30229 x30227]) q_ := fun q_ h1_ h2_ => by have hs_ := HS46273.size; have h4_ : q_ = g55559 := h2_; exfalso; omega
                have hin55565 : ∀ q_, q_ < w52450.heap.size → q_ = g55559 → (atL [.row true (cInt .u8) 52 A46283 c46284 (([] : List Int) ++ ([IntKind.u8.wrap x30230] : List Int)), .box g355 39 [.slice A50939 (List.length x40493) c50940], .row true (cSl (cInt .u8)) 27 A50939 c50940 x40493]) q_ := fun q_ h1_ h2_ => by have hs_ := HS54720.size; have h4_ : q_ = g55559 := h2_; exfalso; omega
                have hin55566 : ∀ q_, q_ < w54733.heap.size → q_ = g55559 → (atL [.box g355 39 [.slice A50939 (List.length x40493) c50940], .row true (cSl (cInt .u8)) 27 A50939 c50940 x40493]) q_ := fun q_ h1_ h2_ => by have hs_ := HS55520.size; have h4_ : q_ = g55559 := h2_; exfalso; omega
                replace HS46273 := HS46273.ext hc55561
                replace HS54720 := HS54720.ext hc55561
                replace HS55520 := HS55520.ext hc55561
                replace H := H_; clear H_; try dsimp only [setn, addE, goneL] at H
                refine wpList_nil ?_
                refine th_n ⟨HS55520, ?_⟩
                refine wpAnyH_all (rs := [4]) (by kernel_rfl) (by simp) ?_
                refine all1 ?_
                refine wpOp_of_list rfl ?_
                have hk55567 := H.rcap 14 rfl
                replace H := H.frz 14 rfl; try dsimp only [setn, addE, goneL] at H
                refine h_append (cSl (cInt .u8)) (xs := x40493) (ys := ([([] : List Int) ++ ((([] : List Int) ++ ([IntKind.u8.wrap x30230] : List Int)) ++ ([IntKind.u8.wrap x40496] : List Int))] : List (List Int))) ([] : List Int) H 4 rfl E rfl rfl tbok rfl rfl rfl rfl rfl (fun _ _ => kSl_nil) rfl rfl (fun _ HF_ => HF_.srcB 15 rfl ⟨_, _, rfl, ⟨_, _, rfl, hk55567, (HF_.roC 14 rfl)⟩, rfl⟩) g55503 ?_
                intro w55568 A55569 c55570 a hc55571 hA55572 H_ E_
                replace E := E_ _ rfl; clear E_
                have hin55573 : ∀ q_, q_ < w36155.heap.size → At A55569 q_ → (atL [.box g355 39 [.slice A30228 (List.length x30227) c30229], .row true (cSl (cInt .u8)) 27 A30228 c30229 x30227]) q_ := fun q_ h1_ h2_ => (hA55572 q_ h2_).elim (hin50941 q_ h1_) (fun h3_ => by have hs_ := HS46273.size; exfalso; omega)
                have hin55574 : ∀ q_, q_ < w52450.heap.size → At A55569 q_ → (atL [.row true (cInt .u8) 52 A46283 c46284 (([] : List Int) ++ ([IntKind.u8.wrap x30230] : List Int)), .box g355 39 [.slice A50939 (List.length x40493) c50940], .row true (cSl (cInt .u8)) 27 A50939 c50940 x40493]) q_ := fun q_ h1_ h2_ => (hA55572 q_ h2_).elim ((fun _ _ h_ => Or.inr (Or.inr (Or.inl h_))) q_ h1_) (fun h3_ => by have hs_ := HS54720.size; exfalso; omega)
                have hin55575 : ∀ q_, q_ < w54733.heap.size → At A55569 q_ → (atL [.box g355 39 [.slice A50939 (List.length x40493) c50940], .row true (cSl (cInt .u8)) 27 A50939 c50940 x40493]) q_ := fun q_ h1_ h2_ => (hA55572 q_ h2_).elim ((fun _ _ h_ => Or.inr (Or.inl h_)) q_ h1_) (fun h3_ => by have hs_ := HS55520.size; exfalso; omega)
                replace HS46273 := HS46273.trans hc55571 (fun k_ hk_ h_ => hin50941 k_ hk_ h_)
                replace HS54720 := HS54720.trans hc55571 (fun k_ hk_ h_ => (fun _ _ h_ => Or.inr (Or.inr (Or.inl h_))) k_ hk_ h_)
                replace HS55520 := HS55520.trans hc55571 (fun k_ hk_ h_ => (fun _ _ h_ => Or.inr (Or.inl h_)) k_ hk_ h_)
                replace H := H_; clear H_; try dsimp only [setn, addE, goneL] at H
                refine wpList_nil ?_
                refine th_n ⟨HS55520, ?_⟩
                refine wpAnyH_all (rs := [5]) (by kernel_rfl) (by simp) ?_
                refine all1 ?_
                refine wpOp_of_list rfl ?_
                refine h_store (g := g355) (off := 0) H 3 rfl E rfl rfl rfl rfl tbok rfl rfl rfl rfl rfl ?_
                clear E; intro w55576 a hc55577 H_ E
                replace HS46273 := HS46273.trans hc55577 (fun k_ hk_ h_ => (fun _ _ h_ => Or.inl h_) k_ hk_ h_)
                replace HS54720 := HS54720.trans hc55577 (fun k_ hk_ h_ => (fun _ _ h_ => Or.inr (Or.inl h_)) k_ hk_ h_)
                replace HS55520 := HS55520.trans hc55577 (fun k_ hk_ h_ => (fun _ _ h_ => Or.inl h_) k_ hk_ h_)
                replace H := H_; clear H_; try dsimp only [setn, addE, goneL] at H
                refine wpList_nil ?_
                refine th_n ⟨HS55520, ?_⟩
                refine dr_done (by kernel_rfl) ?_
                exact .inl ⟨rfl, A55569, c55570, E.pick _ trivial, H.sel [1, 2, 3, 4, 5, 6, 7, 9, 10, 0, 8, 12, 13] rfl, hin55573, hin55574, HS46273, HS54720⟩
               refine wpOp_of_list rfl ?_
               refine h_buildSlice (ps := [(0, .slice A55552 (List.length (([] : List Int) ++ ((([] : List Int) ++ ([IntKind.u8.wrap x30230] : List Int)) ++ ([IntKind.u8.wrap x40496] : List Int)))) c55553)]) (cs := [.slice A55552 (List.length (([] : List Int) ++ ((([] : List Int) ++ ([IntKind.u8.wrap x30230] : List Int)) ++ ([IntKind.u8.wrap x40496] : List Int)))) c55553]) H E rfl rfl tbok rfl rfl (by kernel_rfl) ?_
               intro w55579 g55578 a hc55580 hg55582 H_ E_
               replace E := E_ _ rfl; clear E_
               have hin55583 : ∀ q_, q_ < w36155.heap.size → q_ = g55578 → (atL [.box g355 39 [.slice A30228 (List.length x30227) c30229], .row true (cSl (cInt .u8)) 27 A30228 c30229 x30227]) q_ := fun q_ h1_ h2_ => by have hs_ := HS46273.size; have h4_ : q_ = g55578 := h2_; exfalso; omega
               have hin55584 : ∀ q_, q_ < w52450.heap.size → q_ = g55578 → (atL [.row true (cInt .u8) 52 A46283 c46284 (([] : List Int) ++ ([IntKind.u8.wrap x30230] : List Int)), .box g355 39 [.slice A50939 (List.length x40493) c50940], .row true (cSl (cInt .u8)) 27 A50939 c50940 x40493]) q_ := fun q_ h1_ h2_ => by have hs_ := HS54720.size; have h4_ : q_ = g55578 := h2_; exfalso; omega
               have hin55585 : ∀ q_, q_ < w54733.heap.size → q_ = g55578 → (atL [.box g355 39 [.slice A50939 (List.length x40493) c50940], .row true (cSl (cInt .u8)) 27 A50939 c50940 x40493]) q_ := fun q_ h1_ h2_ => by have hs_ := HS55520.size; have h4_ : q_ = g55578 := h2_; exfalso; omega
               replace HS46273 := HS46273.ext hc55580
               replace HS54720 := HS54720.ext hc55580
               replace HS55520 := HS55520.ext hc55580
               replace H := H_; clear H_; try dsimp only [setn, addE, goneL] at H
               refine wpList_nil ?_
               refine th_n ⟨HS55520, ?_⟩
               refine wpAnyH_all (rs := [0]) (by kernel_rfl) (by simp) ?_
               refine all1 ?_
               refine wpOp_of_list rfl ?_
               refine vn tbok 1 [.slice A50939 (List.length x40493) c50940] [(14, .slice A50939 (List.length x40493) c50940)] [World.cell? w55579 ⟨g355, 0, none⟩ = some (.slice A50939 (List.length x40493) c50940)] E (by kernel_rfl) (by kernel_rfl) ((H.box 3 rfl).cell (j := 0) rfl) ?_
               clear E; intro a E
               refine wpList_nil ?_
               refine th_n ⟨HS55520, ?_⟩
               refine wpAnyH_all (rs := [4]) (by kernel_rfl) (by simp) ?_
               refine all1 ?_
               refine wpOp_of_list rfl ?_
               have hk55586 := H.rcap 14 rfl
               replace H := H.frz 14 rfl; try dsimp only [setn, addE, goneL] at H
               refine h_append (cSl (cInt .u8)) (xs := x40493) (ys := ([([] : List Int) ++ ((([] : List Int) ++ ([IntKind.u8.wrap x30230] : List Int)) ++ ([IntKind.u8.wrap x40496] : List Int))] : List (List Int))) ([] : List Int) H 4 rfl E rfl rfl tbok rfl rfl rfl rfl rfl (fun _ _ => kSl_nil) rfl rfl (fun _ HF_ => HF_.srcB 15 rfl ⟨_, _, rfl, ⟨_, _, rfl, hk55586, (HF_.roC 14 rfl)⟩, rfl⟩) g55503 ?_
               intro w55587 A55588 c55589 a hc55590 hA55591 H_ E_
               replace E := E_ _ rfl; clear E_
               have hin55592 : ∀ q_, q_ < w36155.heap.size → At A55588 q_ → (atL [.box g355 39 [.slice A30228 (List.length x30227) c30229], .row true (cSl (cInt .u8)) 27 A30228 c30229 x30227]) q_ := fun q_ h1_ h2_ => (hA55591 q_ h2_).elim (hin50941 q_ h1_) (fun h3_ => by have hs_ := HS46273.size; exfalso; omega)
               have hin55593 : ∀ q_, q_ < w52450.heap.size → At A55588 q_ → (atL [.row true (cInt .u8) 52 A46283 c46284 (([] : List Int) ++ ([IntKind.u8.wrap x30230] : List Int)), .box g355 39 [.slice A50939 (List.length x40493) c50940], .row true (cSl (cInt .u8)) 27 A50939 c50940 x40493]) q_ := fun q_ h1_ h2_ => (hA55591 q_ h2_).elim ((fun _ _ h_ => Or.inr (Or.inr (Or.inl h_))) q_ h1_) (fun h3_ => by have hs_ := HS54720.size; exfalso; omega)
               have hin55594 : ∀ q_, q_ < w54733.heap.size → At A55588 q_ → (atL [.box g355 39 [.slice A50939 (List.length x40493) c50940], .row true (cSl (cInt .u8)) 27 A50939 c50940 x40493]) q_ := fun q_ h1_ h2_ => (hA55591 q_ h2_).elim ((fun _ _ h_ => Or.inr (Or.inl h_)) q_ h1_) (fun h3_ => by have hs_ := HS55520.size; exfalso; omega)
               replace HS46273 := HS46273.trans hc55590 (fun k_ hk_ h_ => hin50941 k_ hk_ h_)
               replace HS54720 := HS54720.trans hc55590 (fun k_ hk_ h_ => (fun _ _ h_ => Or.inr (Or.inr (Or.inl h_))) k_ hk_ h_)
               replace HS55520 := HS55520.trans hc55590 (fun k_ hk_ h_ => (fun _ _ h_ => Or.inr (Or.inl h_)) k_ hk_ h_)
               replace H := H_; clear H_; try dsimp only [setn, addE, goneL] at H
               refine wpList_nil ?_
               refine th_n ⟨HS55520, ?_⟩
               refine wpAnyH_all (rs := [5]) (by kernel_rfl) (by simp) ?_
               refine all1 ?_
               refine wpOp_of_list rfl ?_
               refine h_store (g := g355) (off := 0) H 3 rfl E rfl rfl rfl rfl tbok rfl rfl rfl rfl rfl ?_
               clear E; intro w55595 a hc55596 H_ E
               replace HS46273 := HS46273.trans hc55596 (fun k_ hk_ h_ => (fun _ _ h_ => Or.inl h_) k_ hk_ h_)
               replace HS54720 := HS54720.trans hc55596 (fun k_ hk_ h_ => (fun _ _ h_ => Or.inr (Or.inl h_)) k_ hk_ h_)
               replace HS55520 := HS55520.trans hc55596 (fun k_ hk_ h_ => (fun _ _ h_ => Or.inl h_) k_ hk_ h_)
               replace H := H_; clear H_; try dsimp only [setn, addE, goneL] at H
               refine wpList_nil ?_
               refine th_n ⟨HS55520, ?_⟩
               refine dr_done (by kernel_rfl) ?_
               exact .inl ⟨rfl, A55588, c55589, E.pick _ trivial, H.sel [1, 2, 3, 4, 5, 6, 7, 9, 10, 0, 8, 12, 13] rfl, hin55592, hin55593, HS46273, HS54720⟩
              clear E H HS46273 HS54720; rintro a w55517 ⟨A55513, c55514, E, H, hin55515, hin55516, HS46273, HS54720⟩
              refine th_n ?_
              refine wp_ret ?_
              refine th_ret ?_
              have hx_ := Option.some.inj hP
              refine bodyPost_ret (v := .tuple #[]) (by simp [results, Try.f45]) E.nodef ?_
              exact ⟨_, rfl, x40493 ++ ([([] : List Int) ++ ((([] : List Int) ++ ([IntKind.u8.wrap x30230] : List Int)) ++ ([IntKind.u8.wrap x40496] : List Int))] : List (List Int)), A55513, c55514, rfl, H.sel [0, 1, 2, 3, 4, 5, 6, 7, 8, 9, 10, 11, 12] rfl, hin55515, hin55516, HS46273, HS54720, hx_.symm⟩
             replace E := E_; clear E_
             have h55597 : ¬ (((n416 - 1) - 1 : Int) = 0) := ne_of_beq_false hb_
             clear hb_; replace hP := ite_f h55597 hP
             refine c_false E rfl ?_
             refine wp_skip ?_
             refine th_n ?_
             refine wp_seq ?_
             refine wp_region_lit ?_
             obtain ⟨g55598, hP⟩ := ask_inv hP
             obtain ⟨A55599, c55600, hl55601, hk55602, H⟩ := H.subSl 5 true (el_row rfl) g55598
             try dsimp only [addE] at H
             refine vn tbok 6 [.slice (some ⟨b24305, 0, none⟩) (List.length r18.1) c28, .slice A55599 (List.length (List.getD r18.1 (Int.toNat (List.getD (List.getD r18.1 (Int.toNat (List.getD (List.getD r18.1 (Int.toNat (0 : Int)) []) (Int.toNat x30230) 0)) []) (Int.toNat x40496) 0)) [])) c55600] [(22, .slice A55599 (List.length (List.getD r18.1 (Int.toNat (List.getD (List.getD r18.1 (Int.toNat (List.getD (List.getD r18.1 (Int.toNat (0 : Int)) []) (Int.toNat x30230) 0)) []) (Int.toNat x40496) 0)) [])) c55600), (23, .int .i64 (((List.length (List.getD r18.1 (Int.toNat (List.getD (List.getD r18.1 (Int.toNat (List.getD (List.getD r18.1 (Int.toNat (0 : Int)) []) (Int.toNat x30230) 0)) []) (Int.toNat x40496) 0)) [])) : Nat) : Int)), (24, .int .i64 0)] [World.cell? w54733 ⟨g30, 0, none⟩ = some (.slice (some ⟨b24305, 0, none⟩) (List.length r18.1) c28), 0 ≤ (List.getD (List.getD r18.1 (Int.toNat (List.getD (List.getD r18.1 (Int.toNat (0 : Int)) []) (Int.toNat x30230) 0)) []) (Int.toNat x40496) 0) ∧ (List.getD (List.getD r18.1 (Int.toNat (List.getD (List.getD r18.1 (Int.toNat (0 : Int)) []) (Int.toNat x30230) 0)) []) (Int.toNat x40496) 0) < (((List.length r18.1) : Nat) : Int), World.cell? w54733 ⟨b24305, 0 + (Int.toNat (List.getD (List.getD r18.1 (Int.toNat (List.getD (List.getD r18.1 (Int.toNat (0 : Int)) []) (Int.toNat x30230) 0)) []) (Int.toNat x40496) 0)) * 1, none⟩ = some (.slice A55599 (List.length (List.getD r18.1 (Int.toNat (List.getD (List.getD r18.1 (Int.toNat (List.getD (List.getD r18.1 (Int.toNat (0 : Int)) []) (Int.toNat x30230) 0)) []) (Int.toNat x40496) 0)) [])) c55600)] E (by kernel_rfl) (by kernel_rfl) ⟨(H.box 6 rfl).cell (j := 0) rfl, g55598, hl55601⟩ ?_
             clear E; intro a E
             refine wpList_nil ?_
             refine th_n ?_
             refine wp_block ?_
             obtain ⟨x43268, hL56301, hK56302⟩ := bind_inv hP
             clear hP
             refine loop_cut (fun i_ a w_ => (i_ = 0 ∧ ∃ (x56305 : List (List Int)), ∃ (A56295 : Option Addr) (c56296 : Nat), Fr a 50 [] ∧ Hp S Fa w0 w_ [.row true (cSl cS74) 76 (some ⟨b12326, 0, none⟩) c202 x206.1, .box g46 73 [.slice (some ⟨b12326, 0, none⟩) (List.length x206.1) c202], .box g355 39 [.slice A56295 (List.length x56305) c56296], .row true (cSl (cInt .u8)) 27 A56295 c56296 x56305, .row true (cSl (cInt .i64)) 23 (some ⟨b24305, 0, none⟩) c28 r18.1, .box g30 69 [.slice (some ⟨b24305, 0, none⟩) (List.length r18.1) c28], .box g360 79 [.func (.func 45) #[] #[.pointer (some ⟨g355, 0, none⟩), .pointer (some ⟨g30, 0, none⟩), .pointer (some ⟨g46, 0, none⟩), .pointer (some ⟨g360, 0, none⟩)]], .ro true (cInt .i64) (some ⟨b36160, o36161, none⟩) (List.getD r18.1 (Int.toNat (0 : Int)) []), .box g46275 52 [.int .u8 (IntKind.u8.wrap x30230)], .row true (cInt .u8) 52 A54734 c54735 x54736, .ro true (cInt .i64) (some ⟨b52455, o52456, none⟩) (List.getD r18.1 (Int.toNat (List.getD (List.getD r18.1 (Int.toNat (0 : Int)) []) (Int.toNat x30230) 0)) []), .box g54722 52 [.int .u8 (IntKind.u8.wrap x40496)], .row true (cInt .u8) 52 A54737 c54738 ((([] : List Int) ++ ([IntKind.u8.wrap x30230] : List Int)) ++ ([IntKind.u8.wrap x40496] : List Int))] ∧ (∀ q_, q_ < w36155.heap.size → At A56295 q_ → (atL [.box g355 39 [.slice A30228 (List.length x30227) c30229], .row true (cSl (cInt .u8)) 27 A30228 c30229 x30227]) q_) ∧ (∀ q_, q_ < w52450.heap.size → At A56295 q_ → (atL [.row true (cInt .u8) 52 A46283 c46284 (([] : List Int) ++ ([IntKind.u8.wrap x30230] : List Int)), .box g355 39 [.slice A50939 (List.length x40493) c50940], .row true (cSl (cInt .u8)) 27 A50939 c50940 x40493]) q_) ∧ Chg (atL [.box g355 39 [.slice A30228 (List.length x30227) c30229], .row true (cSl (cInt .u8)) 27 A30228 c30229 x30227]) w36155 w_ ∧ Chg (atL [.row true (cInt .u8) 52 A46283 c46284 (([] : List Int) ++ ([IntKind.u8.wrap x30230] : List Int)), .box g355 39 [.slice A50939 (List.length x40493) c50940], .row true (cSl (cInt .u8)) 27 A50939 c50940 x40493]) w52450 w_ ∧ x43268 = x56305)) ?_ ?_
             ·
              refine loopV (fun m56304 a w56303 => ∃ (x42962 : List (List Int)) (x42965 : Int), ∃ (A55945 : Option Addr) (c55946 : Nat), Fr a 50 [(1, .int .i64 ((n416 - 1) - 1)), (2, .slice A54737 (List.length ((([] : List Int) ++ ([IntKind.u8.wrap x30230] : List Int)) ++ ([IntKind.u8.wrap x40496] : List Int))) c54738), (5, .pointer (some ⟨g46, 0, none⟩)), (6, .pointer (some ⟨g360, 0, none⟩)), (22, .slice A55599 (List.length (List.getD r18.1 (Int.toNat (List.getD (List.getD r18.1 (Int.toNat (List.getD (List.getD r18.1 (Int.toNat (0 : Int)) []) (Int.toNat x30230) 0)) []) (Int.toNat x40496) 0)) [])) c55600), (23, .int .i64 (((List.length (List.getD r18.1 (Int.toNat (List.getD (List.getD r18.1 (Int.toNat (List.getD (List.getD r18.1 (Int.toNat (0 : Int)) []) (Int.toNat x30230) 0)) []) (Int.toNat x40496) 0)) [])) : Nat) : Int)), (24, .int .i64 x42965)] ∧ Hp S Fa w0 w56303 [.row true (cInt .u8) 52 A54737 c54738 ((([] : List Int) ++ ([IntKind.u8.wrap x30230] : List Int)) ++ ([IntKind.u8.wrap x40496] : List Int)), .row true (cSl cS74) 76 (some ⟨b12326, 0, none⟩) c202 x206.1, .box g46 73 [.slice (some ⟨b12326, 0, none⟩) (List.length x206.1) c202], .box g355 39 [.slice A55945 (List.length x42962) c55946], .row true (cSl (cInt .u8)) 27 A55945 c55946 x42962, .row true (cSl (cInt .i64)) 23 (some ⟨b24305, 0, none⟩) c28 r18.1, .box g30 69 [.slice (some ⟨b24305, 0, none⟩) (List.length r18.1) c28], .box g360 79 [.func (.func 45) #[] #[.pointer (some ⟨g355, 0, none⟩), .pointer (some ⟨g30, 0, none⟩), .pointer (some ⟨g46, 0, none⟩), .pointer (some ⟨g360, 0, none⟩)]], .ro true (cInt .i64) A55599 (List.getD r18.1 (Int.toNat (List.getD (List.getD r18.1 (Int.toNat (List.getD (List.getD r18.1 (Int.toNat (0 : Int)) []) (Int.toNat x30230) 0)) []) (Int.toNat x40496) 0)) []), .ro true (cInt .i64) (some ⟨b36160, o36161, none⟩) (List.getD r18.1 (Int.toNat (0 : Int)) []), .box g46275 52 [.int .u8 (IntKind.u8.wrap x30230)], .row true (cInt .u8) 52 A54734 c54735 x54736, .ro true (cInt .i64) (some ⟨b52455, o52456, none⟩) (List.getD r18.1 (Int.toNat (List.getD (List.getD r18.1 (Int.toNat (0 : Int)) []) (Int.toNat x30230) 0)) []), .box g54722 52 [.int .u8 (IntKind.u8.wrap x40496)]] ∧ (∀ q_, q_ < w36155.heap.size → At A55945 q_ → (atL [.box g355 39 [.slice A30228 (List.length x30227) c30229], .row true (cSl (cInt .u8)) 27 A30228 c30229 x30227]) q_) ∧ (∀ q_, q_ < w52450.heap.size → At A55945 q_ → (atL [.row true (cInt .u8) 52 A46283 c46284 (([] : List Int) ++ ([IntKind.u8.wrap x30230] : List Int)), .box g355 39 [.slice A50939 (List.length x40493) c50940], .row true (cSl (cInt .u8)) 27 A50939 c50940 x40493]) q_) ∧ Chg (atL [.box g355 39 [.slice A30228 (List.length x30227) c30229], .row true (cSl (cInt .u8)) 27 A30228 c30229 x30227]) w36155 w56303 ∧ Chg (atL [.row true (cInt .u8) 52 A46283 c46284 (([] : List Int) ++ ([IntKind.u8.wrap x30230] : List Int)), .box g355 39 [.slice A50939 (List.length x40493) c50940], .row true (cSl (cInt .u8)) 27 A50939 c50940 x40493]) w52450 w56303 ∧ lang_Words_l7 N r18 x206 n416 x30230 x40496 m56304 x42962 x42965 = some x43268) N ?_ ?_
              ·
               exact ⟨x40493, 0, A50939, c50940, E.pick _ ⟨rfl, rfl, rfl, rfl, rfl, rfl, rfl, trivial⟩, H.sel [13, 1, 2, 3, 4, 5, 6, 7, 14, 9, 10, 0, 8, 12] rfl, hin50941, (fun _ _ h_ => Or.inr (Or.inr (Or.inl h_))), HS46273, HS54720, hL56301⟩
              clear E H hL56301 HS46273 HS54720; intro m56304 a w56303 hI_
              obtain ⟨x42962, x42965, A55945, c55946, E, H, hin55947, hin55948, HS46273, HS54720, hP⟩ := hI_
              obtain ⟨m43267, rfl⟩ : ∃ q_, m56304 = q_ + 1 := by cases m56304 with | zero => rw [lang_Words_l7] at hP; cases hP | succ q_ => exact ⟨q_, rfl⟩
              rw [lang_Words_l7] at hP
              refine wp_seq ?_
              refine wp_region_lit ?_
              refine vn tbok 1 [] [(25, .bool (decide (x42965 < (((List.length (List.getD r18.1 (Int.toNat (List.getD (List.getD r18.1 (Int.toNat (List.getD (List.getD r18.1 (Int.toNat (0 : Int)) []) (Int.toNat x30230) 0)) []) (Int.toNat x40496) 0)) [])) : Nat) : Int))))] [] E (by kernel_rfl) (by kernel_rfl) trivial ?_
              clear E; intro a E
              refine wpList_nil ?_
              refine th_n ?_
              refine wp_seq ?_
              refine E.cases (t := 25) rfl (fun hb_ E_ => ?_) (fun hb_ E_ => ?_)
              ·
               replace E := E_; clear E_
               have h56306 : x42965 < (((List.length (List.getD r18.1 (Int.toNat (List.getD (List.getD r18.1 (Int.toNat (List.getD (List.getD r18.1 (Int.toNat (0 : Int)) []) (Int.toNat x30230) 0)) []) (Int.toNat x40496) 0)) [])) : Nat) : Int) := of_decide_eq_true hb_
               clear hb_; replace hP := ite_t h56306 hP
               refine c_true E rfl ?_
               refine wp_skip ?_
               refine th_n ?_
               refine wp_seq ?_
               refine wp_block ?_
               refine wp_seq ?_
               refine wp_region_lit ?_
               obtain ⟨g56307, hP⟩ := ask_inv hP
               obtain ⟨b56308, o56309, e_b56308⟩ := (H.rd 8 rds_ro).addr (idx_pos g56307)
               subst e_b56308
               refine vn tbok 5 [.int .i64 (List.getD (List.getD r18.1 (Int.toNat (List.getD (List.getD r18.1 (Int.toNat (List.getD (List.getD r18.1 (Int.toNat (0 : Int)) []) (Int.toNat x30230) 0)) []) (Int.toNat x40496) 0)) []) (Int.toNat x42965) 0)] [(10, .int .i64 x42965), (11, .int .i64 (List.getD (List.getD r18.1 (Int.toNat (List.getD (List.getD r18.1 (Int.toNat (List.getD (List.getD r18.1 (Int.toNat (0 : Int)) []) (Int.toNat x30230) 0)) []) (Int.toNat x40496) 0)) []) (Int.toNat x42965) 0))] [0 ≤ x42965 ∧ x42965 < (((List.length (List.getD r18.1 (Int.toNat (List.getD (List.getD r18.1 (Int.toNat (List.getD (List.getD r18.1 (Int.toNat (0 : Int)) []) (Int.toNat x30230) 0)) []) (Int.toNat x40496) 0)) [])) : Nat) : Int), World.cell? w56303 ⟨b56308, o56309 + (Int.toNat x42965) * 1, none⟩ = some (.int .i64 (List.getD (List.getD r18.1 (Int.toNat (List.getD (List.getD r18.1 (Int.toNat (List.getD (List.getD r18.1 (Int.toNat (0 : Int)) []) (Int.toNat x30230) 0)) []) (Int.toNat x40496) 0)) []) (Int.toNat x42965) 0))] E (by kernel_rfl) (by kernel_rfl) ⟨g56307, Rds.at1 (H.rd 8 rds_ro) 0 g56307⟩ ?_
               clear E; intro a E
               refine wpList_nil ?_
               refine th_n ?_
               refine wp_seq ?_
               refine wp_region_lit ?_
               obtain ⟨g56310, hP⟩ := ask_inv hP
               obtain ⟨g56311, hP⟩ := ask_inv hP
               obtain ⟨A56312, c56313, hl56314, hk56315, H⟩ := H.subSl 1 true (el_row rfl) g56311
               try dsimp only [addE] at H
               obtain ⟨g56317, hP⟩ := ask_inv hP
               obtain ⟨b56318, o56319, e_b56318⟩ := (H.rd 14 rds_ro).addr (idx_pos g56317)
               subst e_b56318
               refine vn tbok 10 [.slice (some ⟨b12326, 0, none⟩) (List.length x206.1) c202, .int .i64 (((n416 - 1) - 1) - 1), .slice (some ⟨b56318, o56319, none⟩) (List.length (List.getD x206.1 (Int.toNat (((n416 - 1) - 1) - 1)) [])) c56313, .int .u64 ((List.getD (List.getD x206.1 (Int.toNat (((n416 - 1) - 1) - 1)) []) (Int.toNat (List.getD (List.getD r18.1 (Int.toNat (List.getD (List.getD r18.1 (Int.toNat (List.getD (List.getD r18.1 (Int.toNat (0 : Int)) []) (Int.toNat x30230) 0)) []) (Int.toNat x40496) 0)) []) (Int.toNat x42965) 0)) (0, false)).1)] [(38, .bool (decide (0 < ((List.getD (List.getD x206.1 (Int.toNat (((n416 - 1) - 1) - 1)) []) (Int.toNat (List.getD (List.getD r18.1 (Int.toNat (List.getD (List.getD r18.1 (Int.toNat (List.getD (List.getD r18.1 (Int.toNat (0 : Int)) []) (Int.toNat x30230) 0)) []) (Int.toNat x40496) 0)) []) (Int.toNat x42965) 0)) (0, false)).1))))] [World.cell? w56303 ⟨g46, 0, none⟩ = some (.slice (some ⟨b12326, 0, none⟩) (List.length x206.1) c202), IntKind.i64.wrap (((n416 - 1) - 1) - 1) = ((n416 - 1) - 1) - 1, 0 ≤ (((n416 - 1) - 1) - 1) ∧ (((n416 - 1) - 1) - 1) < (((List.length x206.1) : Nat) : Int), World.cell? w56303 ⟨b12326, 0 + (Int.toNat (((n416 - 1) - 1) - 1)) * 1, none⟩ = some (.slice (some ⟨b56318, o56319, none⟩) (List.length (List.getD x206.1 (Int.toNat (((n416 - 1) - 1) - 1)) [])) c56313), 0 ≤ (List.getD (List.getD r18.1 (Int.toNat (List.getD (List.getD r18.1 (Int.toNat (List.getD (List.getD r18.1 (Int.toNat (0 : Int)) []) (Int.toNat x30230) 0)) []) (Int.toNat x40496) 0)) []) (Int.toNat x42965) 0) ∧ (List.getD (List.getD r18.1 (Int.toNat (List.getD (List.getD r18.1 (Int.toNat (List.getD (List.getD r18.1 (Int.toNat (0 : Int)) []) (Int.toNat x30230) 0)) []) (Int.toNat x40496) 0)) []) (Int.toNat x42965) 0) < (((List.length (List.getD x206.1 (Int.toNat (((n416 - 1) - 1) - 1)) [])) : Nat) : Int), World.cell? w56303 ⟨b56318, o56319 + (Int.toNat (List.getD (List.getD r18.1 (Int.toNat (List.getD (List.getD r18.1 (Int.toNat (List.getD (List.getD r18.1 (Int.toNat (0 : Int)) []) (Int.toNat x30230) 0)) []) (Int.toNat x40496) 0)) []) (Int.toNat x42965) 0)) * 2, none⟩ = some (.int .u64 ((List.getD (List.getD x206.1 (Int.toNat (((n416 - 1) - 1) - 1)) []) (Int.toNat (List.getD (List.getD r18.1 (Int.toNat (List.getD (List.getD r18.1 (Int.toNat (List.getD (List.getD r18.1 (Int.toNat (0 : Int)) []) (Int.toNat x30230) 0)) []) (Int.toNat x40496) 0)) []) (Int.toNat x42965) 0)) (0, false)).1))] E (by kernel_rfl) (by kernel_rfl) ⟨(H.box 2 rfl).cell (j := 0) rfl, wrap_in g56310, g56311, hl56314, g56317, (Rds.atP (H.rd 14 rds_ro) (0, false) g56317).1⟩ ?_
               clear E; intro a E
               refine wpList_nil ?_
               refine th_n ?_
               refine E.cases (t := 38) rfl (fun hb_ E_ => ?_) (fun hb_ E_ => ?_)
               ·
                replace E := E_; clear E_
                have h56320 : 0 < ((List.getD (List.getD x206.1 (Int.toNat (((n416 - 1) - 1) - 1)) []) (Int.toNat (List.getD (List.getD r18.1 (Int.toNat (List.getD (List.getD r18.1 (Int.toNat (List.getD (List.getD r18.1 (Int.toNat (0 : Int)) []) (Int.toNat x30230) 0)) []) (Int.toNat x40496) 0)) []) (Int.toNat x42965) 0)) (0, false)).1) := of_decide_eq_true hb_
                clear hb_; replace hP := ite_t h56320 hP
                refine c_true E rfl ?_
                obtain ⟨g56328, hP⟩ := ask_inv hP
                obtain ⟨x43419, h56473, hP⟩ := bind_inv hP
                have HR56715 := H
                refine dr_start (S := fun w_ => Chg (atL [.row true (cInt .u8) 52 A54737 c54738 ((([] : List Int) ++ ([IntKind.u8.wrap x30230] : List Int)) ++ ([IntKind.u8.wrap x40496] : List Int)), .box g355 39 [.slice A55945 (List.length x42962) c55946], .row true (cSl (cInt .u8)) 27 A55945 c55946 x42962]) w56303 w_) (by kernel_rfl) ?_
                intro w56712 hc56713
                have HS56714 : Chg (atL [.row true (cInt .u8) 52 A54737 c54738 ((([] : List Int) ++ ([IntKind.u8.wrap x30230] : List Int)) ++ ([IntKind.u8.wrap x40496] : List Int)), .box g355 39 [.slice A55945 (List.length x42962) c55946], .row true (cSl (cInt .u8)) 27 A55945 c55946 x42962]) w56303 w56712 := hc56713.mono (fun _ _ h_ => h_.elim)
                replace HS46273 := HS46273.ext hc56713
                replace HS54720 := HS54720.ext hc56713
                replace H := H.ext hc56713
                refine dn tbok (by kernel_rfl) [0, 1, 2, 3, 4, 5, 6] [.func (.func 45) #[] #[.pointer (some ⟨g355, 0, none⟩), .pointer (some ⟨g30, 0, none⟩), .pointer (some ⟨g46, 0, none⟩), .pointer (some ⟨g360, 0, none⟩)], .int .i64 (((n416 - 1) - 1) - 1), .int .u8 (IntKind.u8.wrap x42965)] [(39, .func (.func 45) #[] #[.pointer (some ⟨g355, 0, none⟩), .pointer (some ⟨g30, 0, none⟩), .pointer (some ⟨g46, 0, none⟩), .pointer (some ⟨g360, 0, none⟩)]), (40, .int .i64 (List.getD (List.getD r18.1 (Int.toNat (List.getD (List.getD r18.1 (Int.toNat (List.getD (List.getD r18.1 (Int.toNat (0 : Int)) []) (Int.toNat x30230) 0)) []) (Int.toNat x40496) 0)) []) (Int.toNat x42965) 0)), (42, .int .i64 (((n416 - 1) - 1) - 1)), (43, .slice A54737 (List.length ((([] : List Int) ++ ([IntKind.u8.wrap x30230] : List Int)) ++ ([IntKind.u8.wrap x40496] : List Int))) c54738), (45, .int .u8 (IntKind.u8.wrap x42965))] (fun w_ => [World.cell? w_ ⟨g360, 0, none⟩ = some (.func (.func 45) #[] #[.pointer (some ⟨g355, 0, none⟩), .pointer (some ⟨g30, 0, none⟩), .pointer (some ⟨g46, 0, none⟩), .pointer (some ⟨g360, 0, none⟩)]), IntKind.i64.wrap (((n416 - 1) - 1) - 1) = ((n416 - 1) - 1) - 1, IntKind.u8.wrap x42965 = (IntKind.u8.wrap x42965)]) 3 E (fun _ _ => by kernel_rfl) (by kernel_rfl) (fun w_ hS_ => ⟨(HR56715.boxk [0, 3, 4] hS_ 7 rfl rfl).cell (j := 0) rfl, wrap_in g56310, rfl⟩) (by kernel_rfl) HS56714 ?_
                clear E; intro a E
                refine wpAnyH_all (rs := [7]) (by kernel_rfl) (by simp) ?_
                refine all1 ?_
                refine wpOp_of_list rfl ?_
                refine h_buildSlice (ps := [(0, .int .u8 (IntKind.u8.wrap x42965))]) (cs := [.int .u8 (IntKind.u8.wrap x42965)]) H E rfl rfl tbok rfl rfl (by kernel_rfl) ?_
                intro w56717 g56716 a hc56718 hg56720 H_ E_
                replace E := E_ _ rfl; clear E_
                have hin56721 : ∀ q_, q_ < w36155.heap.size → q_ = g56716 → (atL [.box g355 39 [.slice A30228 (List.length x30227) c30229], .row true (cSl (cInt .u8)) 27 A30228 c30229 x30227]) q_ := fun q_ h1_ h2_ => by have hs_ := HS46273.size; have h4_ : q_ = g56716 := h2_; exfalso; omega
                have hin56722 : ∀ q_, q_ < w52450.heap.size → q_ = g56716 → (atL [.row true (cInt .u8) 52 A46283 c46284 (([] : List Int) ++ ([IntKind.u8.wrap x30230] : List Int)), .box g355 39 [.slice A50939 (List.length x40493) c50940], .row true (cSl (cInt .u8)) 27 A50939 c50940 x40493]) q_ := fun q_ h1_ h2_ => by have hs_ := HS54720.size; have h4_ : q_ = g56716 := h2_; exfalso; omega
                have hin56723 : ∀ q_, q_ < w56303.heap.size → q_ = g56716 → (atL [.row true (cInt .u8) 52 A54737 c54738 ((([] : List Int) ++ ([IntKind.u8.wrap x30230] : List Int)) ++ ([IntKind.u8.wrap x40496] : List Int)), .box g355 39 [.slice A55945 (List.length x42962) c55946], .row true (cSl (cInt .u8)) 27 A55945 c55946 x42962]) q_ := fun q_ h1_ h2_ => by have hs_ := HS56714.size; have h4_ : q_ = g56716 := h2_; exfalso; omega
                replace HS46273 := HS46273.ext hc56718
                replace HS54720 := HS54720.ext hc56718
                replace HS56714 := HS56714.ext hc56718
                replace H := H_; clear H_; try dsimp only [setn, addE, goneL] at H
                refine wpList_nil ?_
                refine th_n ⟨HS56714, ?_⟩
                refine wpAnyH_all (rs := [8]) (by kernel_rfl) (by simp) ?_
                refine all1 ?_
                refine wpOp_of_list rfl ?_
                refine h_appendC (cInt .u8) (xs := ((([] : List Int) ++ ([IntKind.u8.wrap x30230] : List Int)) ++ ([IntKind.u8.wrap x40496] : List Int))) (ys := ([IntKind.u8.wrap x42965] : List Int)) (0 : Int) H 0 rfl E rfl rfl tbok rfl rfl rfl rfl rfl (fun _ _ => rfl) rfl rfl (fun _ HF_ => HF_.srcB 15 rfl (⟨_, _, rfl, rfl, rfl⟩)) g56328 ?_
                intro w56728 A56729 c56730 x56731 A56732 c56733 a hc56734 hA56735 hO56736 H_ E_
                replace E := E_ _ rfl; clear E_
                have hin56738 : ∀ q_, q_ < w36155.heap.size → At A56732 q_ → (atL [.box g355 39 [.slice A30228 (List.length x30227) c30229], .row true (cSl (cInt .u8)) 27 A30228 c30229 x30227]) q_ := fun q_ h1_ h2_ => (hA56735 q_ h2_).elim (hin54743 q_ h1_) (fun h3_ => by have hs_ := HS46273.size; exfalso; omega)
                have hin56739 : ∀ q_, q_ < w52450.heap.size → At A56732 q_ → (atL [.row true (cInt .u8) 52 A46283 c46284 (([] : List Int) ++ ([IntKind.u8.wrap x30230] : List Int)), .box g355 39 [.slice A50939 (List.length x40493) c50940], .row true (cSl (cInt .u8)) 27 A50939 c50940 x40493]) q_ := fun q_ h1_ h2_ => (hA56735 q_ h2_).elim (hin54744 q_ h1_) (fun h3_ => by have hs_ := HS54720.size; exfalso; omega)
                have hin56740 : ∀ q_, q_ < w56303.heap.size → At A56732 q_ → (atL [.row true (cInt .u8) 52 A54737 c54738 ((([] : List Int) ++ ([IntKind.u8.wrap x30230] : List Int)) ++ ([IntKind.u8.wrap x40496] : List Int)), .box g355 39 [.slice A55945 (List.length x42962) c55946], .row true (cSl (cInt .u8)) 27 A55945 c55946 x42962]) q_ := fun q_ h1_ h2_ => (hA56735 q_ h2_).elim ((fun _ _ h_ => Or.inl h_) q_ h1_) (fun h3_ => by have hs_ := HS56714.size; exfalso; omega)
                replace HS46273 := HS46273.trans hc56734 (fun k_ hk_ h_ => hin54743 k_ hk_ h_)
                replace HS54720 := HS54720.trans hc56734 (fun k_ hk_ h_ => hin54744 k_ hk_ h_)
                replace HS56714 := HS56714.trans hc56734 (fun k_ hk_ h_ => (fun _ _ h_ => Or.inl h_) k_ hk_ h_)
                replace H := H_; clear H_; try dsimp only [setn, addE, goneL] at H
                refine wpList_nil ?_
                refine th_n ⟨HS56714, ?_⟩
                refine wpAnyH_all (rs := [9]) (by kernel_rfl) (by simp) ?_
                refine all1 ?_
                refine wpOp_of_list rfl ?_
                refine e_callv (R := fun v_ w_ => ∃ (x56878 : List (List Int)) (A56873 : Option Addr) (c56874 : Nat), v_ = .tuple #[] ∧ Hp S Fa w0 w_ [.row true (cSl cS74) 76 (some ⟨b12326, 0, none⟩) c202 x206.1, .box g46 73 [.slice (some ⟨b12326, 0, none⟩) (List.length x206.1) c202], .box g355 39 [.slice A56873 (List.length x56878) c56874], .row true (cSl (cInt .u8)) 27 A56873 c56874 x56878, .row true (cSl (cInt .i64)) 23 (some ⟨b24305, 0, none⟩) c28 r18.1, .box g30 69 [.slice (some ⟨b24305, 0, none⟩) (List.length r18.1) c28], .box g360 79 [.func (.func 45) #[] #[.pointer (some ⟨g355, 0, none⟩), .pointer (some ⟨g30, 0, none⟩), .pointer (some ⟨g46, 0, none⟩), .pointer (some ⟨g360, 0, none⟩)]], .ro true (cInt .i64) (some ⟨b36160, o36161, none⟩) (List.getD r18.1 (Int.toNat (0 : Int)) []), .box g46275 52 [.int .u8 (IntKind.u8.wrap x30230)], .row true (cInt .u8) 52 A54734 c54735 x54736, .ro true (cInt .i64) (some ⟨b52455, o52456, none⟩) (List.getD r18.1 (Int.toNat (List.getD (List.getD r18.1 (Int.toNat (0 : Int)) []) (Int.toNat x30230) 0)) []), .box g54722 52 [.int .u8 (IntKind.u8.wrap x40496)], .row true (cInt .u8) 52 A56729 c56730 x56731, .ro true (cInt .i64) (some ⟨b56308, o56309, none⟩) (List.getD r18.1 (Int.toNat (List.getD (List.getD r18.1 (Int.toNat (List.getD (List.getD r18.1 (Int.toNat (0 : Int)) []) (Int.toNat x30230) 0)) []) (Int.toNat x40496) 0)) []), .box g56716 52 [.int .u8 (IntKind.u8.wrap x42965)], .row true (cInt .u8) 52 A56732 c56733 (((([] : List Int) ++ ([IntKind.u8.wrap x30230] : List Int)) ++ ([IntKind.u8.wrap x40496] : List Int)) ++ ([IntKind.u8.wrap x42965] : List Int))] ∧ (∀ q_, q_ < w36155.heap.size → At A56873 q_ → (atL [.box g355 39 [.slice A30228 (List.length x30227) c30229], .row true (cSl (cInt .u8)) 27 A30228 c30229 x30227]) q_) ∧ (∀ q_, q_ < w52450.heap.size → At A56873 q_ → (atL [.row true (cInt .u8) 52 A46283 c46284 (([] : List Int) ++ ([IntKind.u8.wrap x30230] : List Int)), .box g355 39 [.slice A50939 (List.length x40493) c50940], .row true (cSl (cInt .u8)) 27 A50939 c50940 x40493]) q_) ∧ (∀ q_, q_ < w56303.heap.size → At A56873 q_ → (atL [.row true (cInt .u8) 52 A54737 c54738 ((([] : List Int) ++ ([IntKind.u8.wrap x30230] : List Int)) ++ ([IntKind.u8.wrap x40496] : List Int)), .box g355 39 [.slice A55945 (List.length x42962) c55946], .row true (cSl (cInt .u8)) 27 A55945 c55946 x42962]) q_) ∧ Chg (atL [.box g355 39 [.slice A30228 (List.length x30227) c30229], .row true (cSl (cInt .u8)) 27 A30228 c30229 x30227]) w36155 w_ ∧ Chg (atL [.row true (cInt .u8) 52 A46283 c46284 (([] : List Int) ++ ([IntKind.u8.wrap x30230] : List Int)), .box g355 39 [.slice A50939 (List.length x40493) c50940], .row true (cSl (cInt .u8)) 27 A50939 c50940 x40493]) w52450 w_ ∧ Chg (atL [.row true (cInt .u8) 52 A54737 c54738 ((([] : List Int) ++ ([IntKind.u8.wrap x30230] : List Int)) ++ ([IntKind.u8.wrap x40496] : List Int)), .box g355 39 [.slice A55945 (List.length x42962) c55946], .row true (cSl (cInt .u8)) 27 A55945 c55946 x42962]) w56303 w_ ∧ x43419 = x56878) E rfl rfl rfl Try.func45 rfl rfl rfl ?_ ?_
                ·
                 clear E hP; have hP := h56473; clear h56473; rw [lang_Words_f8] at hP
                 refine enterV (n := 50) Try.func45 rfl rfl rfl ?_
                 intro a E
                 replace E := E.pick [(0, .int .i64 (List.getD (List.getD r18.1 (Int.toNat (List.getD (List.getD r18.1 (Int.toNat (List.getD (List.getD r18.1 (Int.toNat (0 : Int)) []) (Int.toNat x30230) 0)) []) (Int.toNat x40496) 0)) []) (Int.toNat x42965) 0)), (1, .int .i64 (((n416 - 1) - 1) - 1)), (2, .slice A56732 (List.length (((([] : List Int) ++ ([IntKind.u8.wrap x30230] : List Int)) ++ ([IntKind.u8.wrap x40496] : List Int)) ++ ([IntKind.u8.wrap x42965] : List Int))) c56733), (3, .pointer (some ⟨g355, 0, none⟩)), (4, .pointer (some ⟨g30, 0, none⟩)), (5, .pointer (some ⟨g46, 0, none⟩)), (6, .pointer (some ⟨g360, 0, none⟩))] ⟨rfl, rfl, rfl, rfl, rfl, rfl, rfl, trivial⟩
                 refine wp_seq ?_
                 refine wp_seq ?_
                 refine wp_region_lit ?_
                 refine vn tbok 2 [] [(13, .bool ((((n416 - 1) - 1) - 1 : Int) == 0))] [] E (by kernel_rfl) (by kernel_rfl) trivial ?_
                 clear E; intro a E
                 refine wpList_nil ?_
                 refine th_n ?_
                 refine E.cases (t := 13) rfl (fun hb_ E_ => ?_) (fun hb_ E_ => ?_)
                 ·
                  replace E := E_; clear E_
                  have h56879 : (((n416 - 1) - 1) - 1 : Int) = 0 := eq_of_beq hb_
                  clear hb_; replace hP := ite_t h56879 hP
                  refine c_true E rfl ?_
                  refine wp_seq ?_
                  obtain ⟨g56881, hP⟩ := ask_inv hP
                  obtain ⟨g56899, hP⟩ := ask_inv hP
                  refine meet_cut (fun a w56915 => ∃ (A56910 : Option Addr) (c56911 : Nat), Fr a 50 [] ∧ Hp S Fa w0 w56915 [.row true (cSl cS74) 76 (some ⟨b12326, 0, none⟩) c202 x206.1, .box g46 73 [.slice (some ⟨b12326, 0, none⟩) (List.length x206.1) c202], .box g355 39 [.slice A56910 (List.length (x42962 ++ ([([] : List Int) ++ (((([] : List Int) ++ ([IntKind.u8.wrap x30230] : List Int)) ++ ([IntKind.u8.wrap x40496] : List Int)) ++ ([IntKind.u8.wrap x42965] : List Int))] : List (List Int)))) c56911], .row true (cSl (cInt .u8)) 27 A56910 c56911 (x42962 ++ ([([] : List Int) ++ (((([] : List Int) ++ ([IntKind.u8.wrap x30230] : List Int)) ++ ([IntKind.u8.wrap x40496] : List Int)) ++ ([IntKind.u8.wrap x42965] : List Int))] : List (List Int))), .row true (cSl (cInt .i64)) 23 (some ⟨b24305, 0, none⟩) c28 r18.1, .box g30 69 [.slice (some ⟨b24305, 0, none⟩) (List.length r18.1) c28], .box g360 79 [.func (.func 45) #[] #[.pointer (some ⟨g355, 0, none⟩), .pointer (some ⟨g30, 0, none⟩), .pointer (some ⟨g46, 0, none⟩), .pointer (some ⟨g360, 0, none⟩)]], .ro true (cInt .i64) (some ⟨b36160, o36161, none⟩) (List.getD r18.1 (Int.toNat (0 : Int)) []), .box g46275 52 [.int .u8 (IntKind.u8.wrap x30230)], .row true (cInt .u8) 52 A54734 c54735 x54736, .ro true (cInt .i64) (some ⟨b52455, o52456, none⟩) (List.getD r18.1 (Int.toNat (List.getD (List.getD r18.1 (Int.toNat (0 : Int)) []) (Int.toNat x30230) 0)) []), .box g54722 52 [.int .u8 (IntKind.u8.wrap x40496)], .row true (cInt .u8) 52 A56729 c56730 x56731, .ro true (cInt .i64) (some ⟨b56308, o56309, none⟩) (List.getD r18.1 (Int.toNat (List.getD (List.getD r18.1 (Int.toNat (List.getD (List.getD r18.1 (Int.toNat (0 : Int)) []) (Int.toNat x30230) 0)) []) (Int.toNat x40496) 0)) []), .box g56716 52 [.int .u8 (IntKind.u8.wrap x42965)], .row true (cInt .u8) 52 A56732 c56733 (((([] : List Int) ++ ([IntKind.u8.wrap x30230] : List Int)) ++ ([IntKind.u8.wrap x40496] : List Int)) ++ ([IntKind.u8.wrap x42965] : List Int))] ∧ (∀ q_, q_ < w36155.heap.size → At A56910 q_ → (atL [.box g355 39 [.slice A30228 (List.length x30227) c30229], .row true (cSl (cInt .u8)) 27 A30228 c30229 x30227]) q_) ∧ (∀ q_, q_ < w52450.heap.size → At A56910 q_ → (atL [.row true (cInt .u8) 52 A46283 c46284 (([] : List Int) ++ ([IntKind.u8.wrap x30230] : List Int)), .box g355 39 [.slice A50939 (List.length x40493) c50940], .row true (cSl (cInt .u8)) 27 A50939 c50940 x40493]) q_) ∧ (∀ q_, q_ < w56303.heap.size → At A56910 q_ → (atL [.row true (cInt .u8) 52 A54737 c54738 ((([] : List Int) ++ ([IntKind.u8.wrap x30230] : List Int)) ++ ([IntKind.u8.wrap x40496] : List Int)), .box g355 39 [.slice A55945 (List.length x42962) c55946], .row true (cSl (cInt .u8)) 27 A55945 c55946 x42962]) q_) ∧ Chg (atL [.box g355 39 [.slice A30228 (List.length x30227) c30229], .row true (cSl (cInt .u8)) 27 A30228 c30229 x30227]) w36155 w56915 ∧ Chg (atL [.row true (cInt .u8) 52 A46283 c46284 (([] : List Int) ++ ([IntKind.u8.wrap x30230] : List Int)), .box g355 39 [.slice A50939 (List.length x40493) c50940], .row true (cSl (cInt .u8)) 27 A50939 c50940 x40493]) w52450 w56915 ∧ Chg (atL [.row true (cInt .u8) 52 A54737 c54738 ((([] : List Int) ++ ([IntKind.u8.wrap x30230] : List Int)) ++ ([IntKind.u8.wrap x40496] : List Int)), .box g355 39 [.slice A55945 (List.length x42962) c55946], .row true (cSl (cInt .u8)) 27 A55945 c55946 x42962]) w56303 w56915) ?_ ?_
                  ·
                   have HR56919 := H
                   refine dr_start (S := fun w_ => Chg (atL [.box g355 39 [.slice A55945 (List.length x42962) c55946], .row true (cSl (cInt .u8)) 27 A55945 c55946 x42962]) w56728 w_) (by kernel_rfl) ?_
                   intro w56916 hc56917
                   have HS56918 : Chg (atL [.box g355 39 [.slice A55945 (List.length x42962) c55946], .row true (cSl (cInt .u8)) 27 A55945 c55946 x42962]) w56728 w56916 := hc56917.mono (fun _ _ h_ => h_.elim)
                   replace HS46273 := HS46273.ext hc56917
                   replace HS54720 := HS54720.ext hc56917
                   replace HS56714 := HS56714.ext hc56917
                   replace H := H.ext hc56917
                   refine dn tbok (by kernel_rfl) [1] [] [(15, .slice A56732 (List.length (((([] : List Int) ++ ([IntKind.u8.wrap x30230] : List Int)) ++ ([IntKind.u8.wrap x40496] : List Int)) ++ ([IntKind.u8.wrap x42965] : List Int))) c56733)] (fun w_ => []) 5 E (fun _ _ => by kernel_rfl) (by kernel_rfl) (fun w_ hS_ => trivial) (by kernel_rfl) HS56918 ?_
                   clear E; intro a E
                   refine wpAnyH_all (rs := [0, 2]) (by kernel_rfl) (by simp) ?_
                   refine all2 ?_ ?_
                   ·
                    refine wpOp_of_list rfl ?_
                    refine vn tbok 1 [.slice A55945 (List.length x42962) c55946] [(14, .slice A55945 (List.length x42962) c55946)] [World.cell? w56916 ⟨g355, 0, none⟩ = some (.slice A55945 (List.length x42962) c55946)] E (by kernel_rfl) (by kernel_rfl) ((H.box 3 rfl).cell (j := 0) rfl) ?_
                    clear E; intro a E
                    refine wpList_nil ?_
                    refine th_n ⟨HS56918, ?_⟩
                    refine wpAnyH_all (rs := [2]) (by kernel_rfl) (by simp) ?_
                    refine all1 ?_
                    refine wpOp_of_list rfl ?_
                    replace H := H.nilrow (cInt .u8) 52; try dsimp only [setn, addE, goneL] at H
                    refine h_append (cInt .u8) (xs := ([] : List Int)) (ys := (((([] : List Int) ++ ([IntKind.u8.wrap x30230] : List Int)) ++ ([IntKind.u8.wrap x40496] : List Int)) ++ ([IntKind.u8.wrap x42965] : List Int))) (0 : Int) H 17 rfl E rfl rfl tbok rfl rfl rfl rfl rfl (fun _ _ => rfl) rfl rfl (fun _ HF_ => HF_.srcF flat_plain 16 rds_row) g56881 ?_
                    intro w56921 A56922 c56923 a hc56924 hA56925 H_ E_
                    replace E := E_ _ rfl; clear E_
                    have hin56926 : ∀ q_, q_ < w36155.heap.size → At A56922 q_ → (atL [.box g355 39 [.slice A30228 (List.length x30227) c30229], .row true (cSl (cInt .u8)) 27 A30228 c30229 x30227]) q_ := fun q_ h1_ h2_ => (hA56925 q_ h2_).elim ((fun q_ _ h_ => absurd h_ (At.nil q_)) q_ h1_) (fun h3_ => by have hs_ := HS46273.size; exfalso; omega)
                    have hin56927 : ∀ q_, q_ < w52450.heap.size → At A56922 q_ → (atL [.row true (cInt .u8) 52 A46283 c46284 (([] : List Int) ++ ([IntKind.u8.wrap x30230] : List Int)), .box g355 39 [.slice A50939 (List.length x40493) c50940], .row true (cSl (cInt .u8)) 27 A50939 c50940 x40493]) q_ := fun q_ h1_ h2_ => (hA56925 q_ h2_).elim ((fun q_ _ h_ => absurd h_ (At.nil q_)) q_ h1_) (fun h3_ => by have hs_ := HS54720.size; exfalso; omega)
                    have hin56928 : ∀ q_, q_ < w56303.heap.size → At A56922 q_ → (atL [.row true (cInt .u8) 52 A54737 c54738 ((([] : List Int) ++ ([IntKind.u8.wrap x30230] : List Int)) ++ ([IntKind.u8.wrap x40496] : List Int)), .box g355 39 [.slice A55945 (List.length x42962) c55946], .row true (cSl (cInt .u8)) 27 A55945 c55946 x42962]) q_ := fun q_ h1_ h2_ => (hA56925 q_ h2_).elim ((fun q_ _ h_ => absurd h_ (At.nil q_)) q_ h1_) (fun h3_ => by have hs_ := HS56714.size; exfalso; omega)
                    have hin56929 : ∀ q_, q_ < w56728.heap.size → At A56922 q_ → (atL [.box g355 39 [.slice A55945 (List.length x42962) c55946], .row true (cSl (cInt .u8)) 27 A55945 c55946 x42962]) q_ := fun q_ h1_ h2_ => (hA56925 q_ h2_).elim ((fun q_ _ h_ => absurd h_ (At.nil q_)) q_ h1_) (fun h3_ => by have hs_ := HS56918.size; exfalso; omega)
                    replace HS46273 := HS46273.trans hc56924 (fun k_ hk_ h_ => (fun q_ _ h_ => absurd h_ (At.nil q_)) k_ hk_ h_)
                    replace HS54720 := HS54720.trans hc56924 (fun k_ hk_ h_ => (fun q_ _ h_ => absurd h_ (At.nil q_)) k_ hk_ h_)
                    replace HS56714 := HS56714.trans hc56924 (fun k_ hk_ h_ => (fun q_ _ h_ => absurd h_ (At.nil q_)) k_ hk_ h_)
                    replace HS56918 := HS56918.trans hc56924 (fun k_ hk_ h_ => (fun q_ _ h_ => absurd h_ (At.nil q_)) k_ hk_ h_)
                    replace H := H_; clear H_; try dsimp only [setn, addE, goneL] at H
                    refine wpList_nil ?_
                    refine th_n ⟨HS56918, ?_⟩
                    refine wpAnyH_all (rs := [3]) (by kernel_rfl) (by simp) ?_
                    refine all1 ?_
                    refine wpOp_of_list rfl ?_
                    refine h_buildSlice (ps := [(0, .slice A56922 (List.length (([] : List Int) ++ (((([] : List Int) ++ ([IntKind.u8.wrap x30230] : List Int)) ++ ([IntKind.u8.wrap x40496] : List Int)) ++ ([IntKind.u8.wrap x42965] : List Int)))) c56923)]) (cs := [.slice A56922 (List.length (([] : List Int) ++ (((([] : List Int) ++ ([IntKind.u8.wrap x30230] : List Int)) ++ ([IntKind.u8.wrap x40496] : List Int)) ++ ([IntKind.u8.wrap x42965] : List Int)))) c56923]) H E rfl rfl tbok rfl rfl (by kernel_rfl) ?_
                    intro w56931 g56930 a hc56932 hg56934 H_ E_
                    replace E := E_ _ rfl; clear E_
                    have hin56935 : ∀ q_, q_ < w36155.heap.size → q_ = g56930 → (atL [.box g355 39 [.slice A30228 (List.length x30227) c30229], .row true (cSl (cInt .u8)) 27 A30228 c30229 x30227]) q_ := fun q_ h1_ h2_ => by have hs_ := HS46273.size; have h4_ : q_ = g56930 := h2_; exfalso; omega
                    have hin56936 : ∀ q_, q_ < w52450.heap.size → q_ = g56930 → (atL [.row true (cInt .u8) 52 A46283 c46284 (([] : List Int) ++ ([IntKind.u8.wrap x30230] : List Int)), .box g355 39 [.slice A50939 (List.length x40493) c50940], .row true (cSl (cInt .u8)) 27 A50939 c50940 x40493]) q_ := fun q_ h1_ h2_ => by have hs_ := HS54720.size; have h4_ : q_ = g56930 := h2_; exfalso; omega
                    have hin56937 : ∀ q_, q_ < w56303.heap.size → q_ = g56930 → (atL [.row true (cInt .u8) 52 A54737 c54738 ((([] : List Int) ++ ([IntKind.u8.wrap x30230] : List Int)) ++ ([IntKind.u8.wrap x40496] : List Int)), .box g355 39 [.slice A55945 (List.length x42962) c55946], .row true (cSl (cInt .u8)) 27 A55945 c55946 x42962]) q_ := fun q_ h1_ h2_ => by have hs_ := HS56714.size; have h4_ : q_ = g56930 := h2_; exfalso; omega
                    have hin56938 : ∀ q_, q_ < w56728.heap.size → q_ = g56930 → (atL [.box g355 39 [.slice A55945 (List.length x42962) c55946], .row true (cSl (cInt .u8)) 27 A55945 c55946 x42962]) q_ := fun q_ h1_ h2_ => by have hs_ := HS56918.size; have h4_ : q_ = g56930 := h2_; exfalso; omega
                    replace HS46273 := HS46273.ext hc56932
                    replace HS54720 := HS54720.ext hc56932
                    replace HS56714 := HS56714.ext hc56932
                    replace HS56918 := HS56918.ext hc56932
                    replace H := H_; clear H_; try dsimp only [setn, addE, goneL] at H
                    refine wpList_nil ?_
                    refine th_n ⟨HS56918, ?_⟩
                    refine wpAnyH_all (rs := [4]) (by kernel_rfl) (by simp) ?_
                    refine all1 ?_
                    refine wpOp_of_list rfl ?_
                    have hk56939 := H.rcap 17 rfl
                    replace H := H.frz 17 rfl; try dsimp only [setn, addE, goneL] at H
                    refine h_append (cSl (cInt .u8)) (xs := x42962) (ys := ([([] : List Int) ++ (((([] : List Int) ++ ([IntKind.u8.wrap x30230] : List Int)) ++ ([IntKind.u8.wrap x40496] : List Int)) ++ ([IntKind.u8.wrap x42965] : List Int))] : List (List Int))) ([] : List Int) H 4 rfl E rfl rfl tbok rfl rfl rfl rfl rfl (fun _ _ => kSl_nil) rfl rfl (fun _ HF_ => HF_.srcB 18 rfl ⟨_, _, rfl, ⟨_, _, rfl, hk56939, (HF_.roC 17 rfl)⟩, rfl⟩) g56899 ?_
                    intro w56940 A56941 c56942 a hc56943 hA56944 H_ E_
                    replace E := E_ _ rfl; clear E_
                    have hin56945 : ∀ q_, q_ < w36155.heap.size → At A56941 q_ → (atL [.box g355 39 [.slice A30228 (List.length x30227) c30229], .row true (cSl (cInt .u8)) 27 A30228 c30229 x30227]) q_ := fun q_ h1_ h2_ => (hA56944 q_ h2_).elim (hin55947 q_ h1_) (fun h3_ => by have hs_ := HS46273.size; exfalso; omega)
                    have hin56946 : ∀ q_, q_ < w52450.heap.size → At A56941 q_ → (atL [.row true (cInt .u8) 52 A46283 c46284 (([] : List Int) ++ ([IntKind.u8.wrap x30230] : List Int)), .box g355 39 [.slice A50939 (List.length x40493) c50940], .row true (cSl (cInt .u8)) 27 A50939 c50940 x40493]) q_ := fun q_ h1_ h2_ => (hA56944 q_ h2_).elim (hin55948 q_ h1_) (fun h3_ => by have hs_ := HS54720.size; exfalso; omega)
                    have hin56947 : ∀ q_, q_ < w56303.heap.size → At A56941 q_ → (atL [.row true (cInt .u8) 52 A54737 c54738 ((([] : List Int) ++ ([IntKind.u8.wrap x30230] : List Int)) ++ ([IntKind.u8.wrap x40496] : List Int)), .box g355 39 [.slice A55945 (List.length x42962) c55946], .row true (cSl (cInt .u8)) 27 A55945 c55946 x42962]) q_ := fun q_ h1_ h2_ => (hA56944 q_ h2_).elim ((fun _ _ h_ => Or.inr (Or.inr (Or.inl h_))) q_ h1_) (fun h3_ => by have hs_ := HS56714.size; exfalso; omega)
                    have hin56948 : ∀ q_, q_ < w56728.heap.size → At A56941 q_ → (atL [.box g355 39 [.slice A55945 (List.length x42962) c55946], .row true (cSl (cInt .u8)) 27 A55945 c55946 x42962]) q_ := fun q_ h1_ h2_ => (hA56944 q_ h2_).elim ((fun _ _ h_ => Or.inr (Or.inl h_)) q_ h1_) (fun h3_ => by have hs_ := HS56918.size; exfalso; omega)
                    replace HS46273 := HS46273.trans hc56943 (fun k_ hk_ h_ => hin55947 k_ hk_ h_)
                    replace HS54720 := HS54720.trans hc56943 (fun k_ hk_ h_ => hin55948 k_ hk_ h_)
                    replace HS56714 := HS56714.trans hc56943 (fun k_ hk_ h_ => (fun _ _ h_ => Or.inr (Or.inr (Or.inl h_))) k_ hk_ h_)
                    replace HS56918 := HS56918.trans hc56943 (fun k_ hk_ h_ => (fun _ _ h_ => Or.inr (Or.inl h_)) k_ hk_ h_)
                    replace H := H_; clear H_; try dsimp only [setn, addE, goneL] at H
                    refine wpList_nil ?_
                    refine th_n ⟨HS56918, ?_⟩
                    refine wpAnyH_all (rs := [5]) (by kernel_rfl) (by simp) ?_
                    refine all1 ?_
                    refine wpOp_of_list rfl ?_
                    refine h_store (g := g355) (off := 0) H 3 rfl E rfl rfl rfl rfl tbok rfl rfl rfl rfl rfl ?_
                    clear E; intro w56949 a hc56950 H_ E
                    replace HS46273 := HS46273.trans hc56950 (fun k_ hk_ h_ => (fun _ _ h_ => Or.inl h_) k_ hk_ h_)
                    replace HS54720 := HS54720.trans hc56950 (fun k_ hk_ h_ => (fun _ _ h_ => Or.inr (Or.inl h_)) k_ hk_ h_)
                    replace HS56714 := HS56714.trans hc56950 (fun k_ hk_ h_ => (fun _ _ h_ => Or.inr (Or.inl h_)) k_ hk_ h_)
                    replace HS56918 := HS56918.trans hc56950 (fun k_ hk_ h_ => (fun _ _ h_ => Or.inl h_) k_ hk_ h_)
                    replace H := H_; clear H_; try dsimp only [setn, addE, goneL] at H
                    refine wpList_nil ?_
                    refine th_n ⟨HS56918, ?_⟩
                    refine dr_done (by kernel_rfl) ?_
                    exact .inl ⟨rfl, A56941, c56942, E.pick _ trivial, H.sel [1, 2, 3, 4, 5, 6, 7, 9, 10, 11, 12, 13, 0, 8, 15, 16] rfl, hin56945, hin56946, hin56947, HS46273, HS54720, HS56714⟩
                   refine wpOp_of_list rfl ?_
                   replace H := H.nilrow (cInt .u8) 52; try dsimp only [setn, addE, goneL] at H
                   refine h_append (cInt .u8) (xs := ([] : List Int)) (ys := (((([] : List Int) ++ ([IntKind.u8.wrap x30230] : List Int)) ++ ([IntKind.u8.wrap x40496] : List Int)) ++ ([IntKind.u8.wrap x42965] : List Int))) (0 : Int) H 17 rfl E rfl rfl tbok rfl rfl rfl rfl rfl (fun _ _ => rfl) rfl rfl (fun _ HF_ => HF_.srcF flat_plain 16 rds_row) g56881 ?_
                   intro w56952 A56953 c56954 a hc56955 hA56956 H_ E_
                   replace E := E_ _ rfl; clear E_
                   have hin56957 : ∀ q_, q_ < w36155.heap.size → At A56953 q_ → (atL [.box g355 39 [.slice A30228 (List.length x30227) c30229], .row true (cSl (cInt .u8)) 27 A30228 c30229 x30227]) q_ := fun q_ h1_ h2_ => (hA56956 q_ h2_).elim ((fun q_ _ h_ => absurd h_ (At.nil q_)) q_ h1_) (fun h3_ => by have hs_ := HS46273.size; exfalso; omega)
                   have hin56958 : ∀ q_, q_ < w52450.heap.size → At A56953 q_ → (atL [.row true (cInt .u8) 52 A46283 c46284 (([] : List Int) ++ ([IntKind.u8.wrap x30230] : List Int)), .box g355 39 [.slice A50939 (List.length x40493) c50940], .row true (cSl (cInt .u8)) 27 A50939 c50940 x40493]) q_ := fun q_ h1_ h2_ => (hA56956 q_ h2_).elim ((fun q_ _ h_ => absurd h_ (At.nil q_)) q_ h1_) (fun h3_ => by have hs_ := HS54720.size; exfalso; omega)
                   have hin56959 : ∀ q_, q_ < w56303.heap.size → At A56953 q_ → (atL [.row true (cInt .u8) 52 A54737 c54738 ((([] : List Int) ++ ([IntKind.u8.wrap x30230] : List Int)) ++ ([IntKind.u8.wrap x40496] : List Int)), .box g355 39 [.slice A55945 (List.length x42962) c55946], .row true (cSl (cInt .u8)) 27 A55945 c55946 x42962]) q_ := fun q_ h1_ h2_ => (hA56956 q_ h2_).elim ((fun q_ _ h_ => absurd h_ (At.nil q_)) q_ h1_) (fun h3_ => by have hs_ := HS56714.size; exfalso; omega)
                   have hin56960 : ∀ q_, q_ < w56728.heap.size → At A56953 q_ → (atL [.box g355 39 [.slice A55945 (List.length x42962) c55946], .row true (cSl (cInt .u8)) 27 A55945 c55946 x42962]) q_ := fun q_ h1_ h2_ => (hA56956 q_ h2_).elim ((fun q_ _ h_ => absurd h_ (At.nil q_)) q_ h1_) (fun h3_ => by have hs_ := HS56918.size; exfalso; omega)
                   replace HS46273 := HS46273.trans hc56955 (fun k_ hk_ h_ => (fun q_ _ h_ => absurd h_ (At.nil q_)) k_ hk_ h_)
                   replace HS54720 := HS54720.trans hc56955 (fun k_ hk_ h_ => (fun q_ _ h_ => absurd h_ (At.nil q_)) k_ hk_ h_)
                   replace HS56714 := HS56714.trans hc56955 (fun k_ hk_ h_ => (fun q_ _ h_ => absurd h_ (At.nil q_)) k_ hk_ h_)
                   replace HS56918 := HS56918.trans hc56955 (fun k_ hk_ h_ => (fun q_ _ h_ => absurd h_ (At.nil q_)) k_ hk_ h_)
                   replace H := H_; clear H_; try dsimp only [setn, addE, goneL] at H
                   refine wpList_nil ?_
                   refine th_n ⟨HS56918, ?_⟩
                   refine wpAnyH_all (rs := [0, 3]) (by kernel_rfl) (by simp) ?_
                   refine all2 ?_ ?_
                   ·
                    refine wpOp_of_list rfl ?_
                    refine vn tbok 1 [.slice A55945 (List.length x42962) c55946] [(14, .slice A55945 (List.length x42962) c55946)] [World.cell? w56952 ⟨g355, 0, none⟩ = some (.slice A55945 (List.length x42962) c55946)] E (by kernel_rfl) (by kernel_rfl) ((H.box 3 rfl).cell (j := 0) rfl) ?_
                    clear E; intro a E
                    refine wpList_nil ?_
                    refine th_n ⟨HS56918, ?_⟩
                    refine wpAnyH_all (rs := [3]) (by kernel_rfl) (by simp) ?_
                    refine all1 ?_
                    refine wpOp_of_list rfl ?_
                    refine h_buildSlice (ps := [(0, .slice A56953 (List.length (([] : List Int) ++ (((([] : List Int) ++ ([IntKind.u8.wrap x30230] : List Int)) ++ ([IntKind.u8.wrap x40496] : List Int)) ++ ([IntKind.u8.wrap x42965] : List Int)))) c56954)]) (cs := [.slice A56953 (List.length (([] : List Int) ++ (((([] : List Int) ++ ([IntKind.u8.wrap x30230] : List Int)) ++ ([IntKind.u8.wrap x40496] : List Int)) ++ ([IntKind.u8.wrap x42965] : List Int)))) c56954]) H E rfl rfl tbok rfl rfl (by kernel_rfl) ?_
                    intro w56962 g56961 a hc56963 hg56965 H_ E_
                    replace E := E_ _ rfl; clear E_
                    have hin56966 : ∀ q_, q_ < w36155.heap.size → q_ = g56961 → (atL [.box g355 39 [.slice A30228 (List.length x30227) c30229], .row true (cSl (cInt .u8)) 27 A30228 c30229 x30227]) q_ := fun q_ h1_ h2_ => by have hs_ := HS46273.size; have h4_ : q_ = g56961 := h2_; exfalso; omega
                    have hin56967 : ∀ q_, q_ < w52450.heap.size → q_ = g56961 → (atL [.row true (cInt .u8) 52 A46283 c46284 (([] : List Int) ++ ([IntKind.u8.wrap x30230] : List Int)), .box g355 39 [.slice A50939 (List.length x40493) c50940], .row true (cSl (cInt .u8)) 27 A50939 c50940 x40493]) q_ := fun q_ h1_ h2_ => by have hs_ := HS54720.size; have h4_ : q_ = g56961 := h2_; exfalso; omega
                    have hin56968 : ∀ q_, q_ < w56303.heap.size → q_ = g56961 → (atL [.row true (cInt .u8) 52 A54737 c54738 ((([] : List Int) ++ ([IntKind.u8.wrap x30230] : List Int)) ++ ([IntKind.u8.wrap x40496] : List Int)), .box g355 39 [.slice A55945 (List.length x42962) c55946], .row true (cSl (cInt .u8)) 27 A55945 c55946 x42962]) q_ := fun q_ h1_ h2_ => by have hs_ := HS56714.size; have h4_ : q_ = g56961 := h2_; exfalso; omega
                    have hin56969 : ∀ q_, q_ < w56728.heap.size → q_ = g56961 → (atL [.box g355 39 [.slice A55945 (List.length x42962) c55946], .row true (cSl (cInt .u8)) 27 A55945 c55946 x42962]) q_ := fun q_ h1_ h2_ => by have hs_ := HS56918.size; have h4_ : q_ = g56961 := h2_; exfalso; omega
                    replace HS46273 := HS46273.ext hc56963
                    replace HS54720 := HS54720.ext hc56963
                    replace HS56714 := HS56714.ext hc56963
                    replace HS56918 := HS56918.ext hc56963
                    replace H := H_; clear H_; try dsimp only [setn, addE, goneL] at H
                    refine wpList_nil ?_
                    refine th_n ⟨HS56918, ?_⟩
                    refine wpAnyH_all (rs := [4]) (by kernel_rfl) (by simp) ?_
                    refine all1 ?_
                    refine wpOp_of_list rfl ?_
                    have hk56970 := H.rcap 17 rfl
                    replace H := H.frz 17 rfl; try dsimp only [setn, addE, goneL] at H
                    refine h_append (cSl (cInt .u8)) (xs := x42962) (ys := ([([] : List Int) ++ (((([] : List Int) ++ ([IntKind.u8.wrap x30230] : List Int)) ++ ([IntKind.u8.wrap x40496] : List Int)) ++ ([IntKind.u8.wrap x42965] : List Int))] : List (List Int))) ([] : List Int) H 4 rfl E rfl rfl tbok rfl rfl rfl rfl rfl (fun _ _ => kSl_nil) rfl rfl (fun _ HF_ => HF_.srcB 18 rfl ⟨_, _, rfl, ⟨_, _, rfl, hk56970, (HF_.roC 17 rfl)⟩, rfl⟩) g56899 ?_
                    intro w56971 A56972 c56973 a hc56974 hA56975 H_ E_
                    replace E := E_ _ rfl; clear E_
                    have hin56976 : ∀ q_, q_ < w36155.heap.size → At A56972 q_ → (atL [.box g355 39 [.slice A30228 (List.length x30227) c30229], .row true (cSl (cInt .u8)) 27 A30228 c30229 x30227]) q_ := fun q_ h1_ h2_ => (hA56975 q_ h2_).elim (hin55947 q_ h1_) (fun h3_ => by have hs_ := HS46273.size; exfalso; omega)
                    have hin56977 : ∀ q_, q_ < w52450.heap.size → At A56972 q_ → (atL [.row true (cInt .u8) 52 A46283 c46284 (([] : List Int) ++ ([IntKind.u8.wrap x30230] : List Int)), .box g355 39 [.slice A50939 (List.length x40493) c50940], .row true (cSl (cInt .u8)) 27 A50939 c50940 x40493]) q_ := fun q_ h1_ h2_ => (hA56975 q_ h2_).elim (hin55948 q_ h1_) (fun h3_ => by have hs_ := HS54720.size; exfalso; omega)
                    have hin56978 : ∀ q_, q_ < w56303.heap.size → At A56972 q_ → (atL [.row true (cInt .u8) 52 A54737 c54738 ((([] : List Int) ++ ([IntKind.u8.wrap x30230] : List Int)) ++ ([IntKind.u8.wrap x40496] : List Int)), .box g355 39 [.slice A55945 (List.length x42962) c55946], .row true (cSl (cInt .u8)) 27 A55945 c55946 x42962]) q_ := fun q_ h1_ h2_ => (hA56975 q_ h2_).elim ((fun _ _ h_ => Or.inr (Or.inr (Or.inl h_))) q_ h1_) (fun h3_ => by have hs_ := HS56714.size; exfalso; omega)
                    have hin56979 : ∀ q_, q_ < w56728.heap.size → At A56972 q_ → (atL [.box g355 39 [.slice A55945 (List.length x42962) c55946], .row true (cSl (cInt .u8)) 27 A55945 c55946 x42962]) q_ := fun q_ h1_ h2_ => (hA56975 q_ h2_).elim ((fun _ _ h_ => Or.inr (Or.inl h_)) q_ h1_) (fun h3_ => by have hs_ := HS56918.size; exfalso; omega)
                    replace HS46273 := HS46273.trans hc56974 (fun k_ hk_ h_ => hin55947 k_ hk_ h_)
                    replace HS54720 := HS54720.trans hc56974 (fun k_ hk_ h_ => hin55948 k_ hk_ h_)
                    replace HS56714 := HS56714.trans hc56974 (fun k_ hk_ h_ => (fun _ _ h_ => Or.inr (Or.inr (Or.inl h_))) k_ hk_ h_)
                    replace HS56918 := HS56918.trans hc56974 (fun k_ hk_ h_ => (fun _ _ h_ => Or.inr (Or.inl h_)) k_ hk_ h_)
                    replace H := H_; clear H_; try dsimp only [setn, addE, goneL] at H
                    refine wpList_nil ?_
                    refine th_n ⟨HS56918, ?_⟩
                    refine wpAnyH_all (rs := [5]) (by kernel_rfl) (by simp) ?_
                    refine all1 ?_
                    refine wpOp_of_list rfl ?_
                    refine h_store (g := g355) (off := 0) H 3 rfl E rfl rfl rfl rfl tbok rfl rfl rfl rfl rfl ?_
                    clear E; intro w56980 a hc56981 H_ E
                    replace HS46273 := HS46273.trans hc56981 (fun k_ hk_ h_ => (fun _ _ h_ => Or.inl h_) k_ hk_ h_)
                    replace HS54720 := HS54720.trans hc56981 (fun k_ hk_ h_ => (fun _ _ h_ => Or.inr (Or.inl h_)) k_ hk_ h_)
                    replace HS56714 := HS56714.trans hc56981 (fun k_ hk_ h_ => (fun _ _ h_ => Or.inr (Or.inl h_)) k_ hk_ h_)
                    replace HS56918 := HS56918.trans hc56981 (fun k_ hk_ h_ => (fun _ _ h_ => Or.inl h_) k_ hk_ h_)
                    replace H := H_; clear H_; try dsimp only [setn, addE, goneL] at H
                    refine wpList_nil ?_
                    refine th_n ⟨HS56918, ?_⟩
                    refine dr_done (by kernel_rfl) ?_
                    exact .inl ⟨rfl, A56972, c56973, E.pick _ trivial, H.sel [1, 2, 3, 4, 5, 6, 7, 9, 10, 11, 12, 13, 0, 8, 15, 16] rfl, hin56976, hin56977, hin56978, HS46273, HS54720, HS56714⟩
                   refine wpOp_of_list rfl ?_
                   refine h_buildSlice (ps := [(0, .slice A56953 (List.length (([] : List Int) ++ (((([] : List Int) ++ ([IntKind.u8.wrap x30230] : List Int)) ++ ([IntKind.u8.wrap x40496] : List Int)) ++ ([IntKind.u8.wrap x42965] : List Int)))) c56954)]) (cs := [.slice A56953 (List.length (([] : List Int) ++ (((([] : List Int) ++ ([IntKind.u8.wrap x30230] : List Int)) ++ ([IntKind.u8.wrap x40496] : List Int)) ++ ([IntKind.u8.wrap x42965] : List Int)))) c56954]) H E rfl rfl tbok rfl rfl (by kernel_rfl) ?_
                   intro w56983 g56982 a hc56984 hg56986 H_ E_
                   replace E := E_ _ rfl; clear E_
                   have hin56987 : ∀ q_, q_ < w36155.heap.size → q_ = g56982 → (atL [.box g355 39 [.slice A30228 (List.length x30227) c30229], .row true (cSl (cInt .u8)) 27 A30228 c30229 x30227]) q_ := fun q_ h1_ h2_ => by have hs_ := HS46273.size; have h4_ : q_ = g56982 := h2_; exfalso; omega
                   have hin56988 : ∀ q_, q_ < w52450.heap.size → q_ = g56982 → (atL [.row true (cInt .u8) 52 A46283 c46284 (([] : List Int) ++ ([IntKind.u8.wrap x30230] : List Int)), .box g355 39 [.slice A50939 (List.length x40493) c50940], .row true (cSl (cInt .u8)) 27 A50939 c50940 x40493]) q_ := fun q_ h1_ h2_ => by have hs_ := HS54720.size; have h4_ : q_ = g56982 := h2_; exfalso; omega
                   have hin56989 : ∀ q_, q_ < w56303.heap.size → q_ = g56982 → (atL [.row true (cInt .u8) 52 A54737 c54738 ((([] : List Int) ++ ([IntKind.u8.wrap x30230] : List Int)) ++ ([IntKind.u8.wrap x40496] : List Int)), .box g355 39 [.slice A55945 (List.length x42962) c55946], .row true (cSl (cInt .u8)) 27 A55945 c55946 x42962]) q_ := fun q_ h1_ h2_ => by have hs_ := HS56714.size; have h4_ : q_ = g56982 := h2_; exfalso; omega
                   have hin56990 : ∀ q_, q_ < w56728.heap.size → q_ = g56982 → (atL [.box g355 39 [.slice A55945 (List.length x42962) c55946], .row true (cSl (cInt .u8)) 27 A55945 c55946 x42962]) q_ := fun q_ h1_ h2_ => by have hs_ := HS56918.size; have h4_ : q_ = g56982 := h2_; exfalso; omega
                   replace HS46273 := HS46273.ext hc56984
                   replace HS54720 := HS54720.ext hc56984
                   replace HS56714 := HS56714.ext hc56984
                   replace HS56918 := HS56918.ext hc56984
                   replace H := H_; clear H_; try dsimp only [setn, addE, goneL] at H
                   refine wpList_nil ?_
                   refine th_n ⟨HS56918, ?_⟩
                   refine wpAnyH_all (rs := [0]) (by kernel_rfl) (by simp) ?_
                   refine all1 ?_
                   refine wpOp_of_list rfl ?_
                   refine vn tbok 1 [.slice A55945 (List.length x42962) c55946] [(14, .slice A55945 (List.length x42962) c55946)] [World.cell? w56983 ⟨g355, 0, none⟩ = some (.slice A55945 (List.length x42962) c55946)] E (by kernel_rfl) (by kernel_rfl) ((H.box 3 rfl).cell (j := 0) rfl) ?_
                   clear E; intro a E
                   refine wpList_nil ?_
                   refine th_n ⟨HS56918, ?_⟩
                   refine wpAnyH_all (rs := [4]) (by kernel_rfl) (by simp) ?_
                   refine all1 ?_
                   refine wpOp_of_list rfl ?_
                   have hk56991 := H.rcap 17 rfl
                   replace H := H.frz 17 rfl; try dsimp only [setn, addE, goneL] at H
                   refine h_append (cSl (cInt .u8)) (xs := x42962) (ys := ([([] : List Int) ++ (((([] : List Int) ++ ([IntKind.u8.wrap x30230] : List Int)) ++ ([IntKind.u8.wrap x40496] : List Int)) ++ ([IntKind.u8.wrap x42965] : List Int))] : List (List Int))) ([] : List Int) H 4 rfl E rfl rfl tbok rfl rfl rfl rfl rfl (fun _ _ => kSl_nil) rfl rfl (fun _ HF_ => HF_.srcB 18 rfl ⟨_, _, rfl, ⟨_, _, rfl, hk56991, (HF_.roC 17 rfl)⟩, rfl⟩) g56899 ?_
                   intro w56992 A56993 c56994 a hc56995 hA56996 H_ E_
                   replace E := E_ _ rfl; clear E_
                   have hin56997 : ∀ q_, q_ < w36155.heap.size → At A56993 q_ → (atL [.box g355 39 [.slice A30228 (List.length x30227) c30229], .row true (cSl (cInt .u8)) 27 A30228 c30229 x30227]) q_ := fun q_ h1_ h2_ => (hA56996 q_ h2_).elim (hin55947 q_ h1_) (fun h3_ => by have hs_ := HS46273.size; exfalso; omega)
                   have hin56998 : ∀ q_, q_ < w52450.heap.size → At A56993 q_ → (atL [.row true (cInt .u8) 52 A46283 c46284 (([] : List Int) ++ ([IntKind.u8.wrap x30230] : List Int)), .box g355 39 [.slice A50939 (List.length x40493) c50940], .row true (cSl (cInt .u8)) 27 A50939 c50940 x40493]) q_ := fun q_ h1_ h2_ => (hA56996 q_ h2_).elim (hin55948 q_ h1_) (fun h3_ => by have hs_ := HS54720.size; exfalso; omega)
                   have hin56999 : ∀ q_, q_ < w56303.heap.size → At A56993 q_ → (atL [.row true (cInt .u8) 52 A54737 c54738 ((([] : List Int) ++ ([IntKind.u8.wrap x30230] : List Int)) ++ ([IntKind.u8.wrap x40496] : List Int)), .box g355 39 [.slice A55945 (List.length x42962) c55946], .row true (cSl (cInt .u8)) 27 A55945 c55946 x42962]) q_ := fun q_ h1_ h2_ => (hA56996 q_ h2_).elim ((fun _ _ h_ => Or.inr (Or.inr (Or.inl h_))) q_ h1_) (fun h3_ => by have hs_ := HS56714.size; exfalso; omega)
                   have hin57000 : ∀ q_, q_ < w56728.heap.size → At A56993 q_ → (atL [.box g355 39 [.slice A55945 (List.length x42962) c55946], .row true (cSl (cInt .u8)) 27 A55945 c55946 x42962]) q_ := fun q_ h1_ h2_ => (hA56996 q_ h2_).elim ((fun _ _ h_ => Or.inr (Or.inl h_)) q_ h1_) (fun h3_ => by have hs_ := HS56918.size; exfalso; omega)
                   replace HS46273 := HS46273.trans hc56995 (fun k_ hk_ h_ => hin55947 k_ hk_ h_)
                   replace HS54720 := HS54720.trans hc56995 (fun k_ hk_ h_ => hin55948 k_ hk_ h_)
                   replace HS56714 := HS56714.trans hc56995 (fun k_ hk_ h_ => (fun _ _ h_ => Or.inr (Or.inr (Or.inl h_))) k_ hk_ h_)
                   replace HS56918 := HS56918.trans hc56995 (fun k_ hk_ h_ => (fun _ _ h_ => Or.inr (Or.inl h_)) k_ hk_ h_)
                   replace H := H_; clear H_; try dsimp only [setn, addE, goneL] at H
                   refine wpList_nil ?_
                   refine th_n ⟨HS56918, ?_⟩
                   refine wpAnyH_all (rs := [5]) (by kernel_rfl) (by simp) ?_
                   refine all1 ?_
                   refine wpOp_of_list rfl ?_
                   refine h_store (g := g355) (off := 0) H 3 rfl E rfl rfl rfl rfl tbok rfl rfl rfl rfl rfl ?_
                   clear E; intro w57001 a hc57002 H_ E
                   replace HS46273 := HS46273.trans hc57002 (fun k_ hk_ h_ => (fun _ _ h_ => Or.inl h_) k_ hk_ h_)
                   replace HS54720 := HS54720.trans hc57002 (fun k_ hk_ h_ => (fun _ _ h_ => Or.inr (Or.inl h_)) k_ hk_ h_)
                   replace HS56714 := HS56714.trans hc57002 (fun k_ hk_ h_ => (fun _ _ h_ => Or.inr (Or.inl h_)) k_ hk_ h_)
                   replace HS56918 := HS56918.trans hc57002 (fun k_ hk_ h_ => (fun _ _ h_ => Or.inl h_) k_ hk_ h_)
                   replace H := H_; clear H_; try dsimp only [setn, addE, goneL] at H
                   refine wpList_nil ?_
                   refine th_n ⟨HS56918, ?_⟩
                   refine dr_done (by kernel_rfl) ?_
                   exact .inl ⟨rfl, A56993, c56994, E.pick _ trivial, H.sel [1, 2, 3, 4, 5, 6, 7, 9, 10, 11, 12, 13, 0, 8, 15, 16] rfl, hin56997, hin56998, hin56999, HS46273, HS54720, HS56714⟩
                  clear E H HS46273 HS54720 HS56714; rintro a w56915 ⟨A56910, c56911, E, H, hin56912, hin56913, hin56914, HS46273, HS54720, HS56714⟩
                  refine th_n ?_
                  refine wp_ret ?_
                  refine th_ret ?_
                  have hx_ := Option.some.inj hP
                  refine bodyPost_ret (v := .tuple #[]) (by simp [results, Try.f45]) E.nodef ?_
                  exact ⟨_, rfl, x42962 ++ ([([] : List Int) ++ (((([] : List Int) ++ ([IntKind.u8.wrap x30230] : List Int)) ++ ([IntKind.u8.wrap x40496] : List Int)) ++ ([IntKind.u8.wrap x42965] : List Int))] : List (List Int)), A56910, c56911, rfl, H.sel [0, 1, 2, 3, 4, 5, 6, 7, 8, 9, 10, 11, 12, 13, 14, 15] rfl, hin56912, hin56913, hin56914, HS46273, HS54720, HS56714, hx_.symm⟩
                 replace E := E_; clear E_
                 have h57003 : ¬ ((((n416 - 1) - 1) - 1 : Int) = 0) := ne_of_beq_false hb_
                 clear hb_; replace hP := ite_f h57003 hP
                 refine c_false E rfl ?_
                 refine wp_skip ?_
                 refine th_n ?_
                 refine wp_seq ?_
                 refine wp_region_lit ?_
                 obtain ⟨g57004, hP⟩ := ask_inv hP
                 obtain ⟨A57005, c57006, hl57007, hk57008, H⟩ := H.subSl 5 true (el_row rfl) g57004
                 try dsimp only [addE] at H
                 refine vn tbok 6 [.slice (some ⟨b24305, 0, none⟩) (List.length r18.1) c28, .slice A57005 (List.length (List.getD r18.1 (Int.toNat (List.getD (List.getD r18.1 (Int.toNat (List.getD (List.getD r18.1 (Int.toNat (List.getD (List.getD r18.1 (Int.toNat (0 : Int)) []) (Int.toNat x30230) 0)) []) (Int.toNat x40496) 0)) []) (Int.toNat x42965) 0)) [])) c57006] [(22, .slice A57005 (List.length (List.getD r18.1 (Int.toNat (List.getD (List.getD r18.1 (Int.toNat (List.getD (List.getD r18.1 (Int.toNat (List.getD (List.getD r18.1 (Int.toNat (0 : Int)) []) (Int.toNat x30230) 0)) []) (Int.toNat x40496) 0)) []) (Int.toNat x42965) 0)) [])) c57006), (23, .int .i64 (((List.length (List.getD r18.1 (Int.toNat (List.getD (List.getD r18.1 (Int.toNat (List.getD (List.getD r18.1 (Int.toNat (List.getD (List.getD r18.1 (Int.toNat (0 : Int)) []) (Int.toNat x30230) 0)) []) (Int.toNat x40496) 0)) []) (Int.toNat x42965) 0)) [])) : Nat) : Int)), (24, .int .i64 0)] [World.cell? w56728 ⟨g30, 0, none⟩ = some (.slice (some ⟨b24305, 0, none⟩) (List.length r18.1) c28), 0 ≤ (List.getD (List.getD r18.1 (Int.toNat (List.getD (List.getD r18.1 (Int.toNat (List.getD (List.getD r18.1 (Int.toNat (0 : Int)) []) (Int.toNat x30230) 0)) []) (Int.toNat x40496) 0)) []) (Int.toNat x42965) 0) ∧ (List.getD (List.getD r18.1 (Int.toNat (List.getD (List.getD r18.1 (Int.toNat (List.getD (List.getD r18.1 (Int.toNat (0 : Int)) []) (Int.toNat x30230) 0)) []) (Int.toNat x40496) 0)) []) (Int.toNat x42965) 0) < (((List.length r18.1) : Nat) : Int), World.cell? w56728 ⟨b24305, 0 + (Int.toNat (List.getD (List.getD r18.1 (Int.toNat (List.getD (List.getD r18.1 (Int.toNat (List.getD (List.getD r18.1 (Int.toNat (0 : Int)) []) (Int.toNat x30230) 0)) []) (Int.toNat x40496) 0)) []) (Int.toNat x42965) 0)) * 1, none⟩ = some (.slice A57005 (List.length (List.getD r18.1 (Int.toNat (List.getD (List.getD r18.1 (Int.toNat (List.getD (List.getD r18.1 (Int.toNat (List.getD (List.getD r18.1 (Int.toNat (0 : Int)) []) (Int.toNat x30230) 0)) []) (Int.toNat x40496) 0)) []) (Int.toNat x42965) 0)) [])) c57006)] E (by kernel_rfl) (by kernel_rfl) ⟨(H.box 6 rfl).cell (j := 0) rfl, g57004, hl57007⟩ ?_
                 clear E; intro a E
                 refine wpList_nil ?_
                 refine th_n ?_
                 refine wp_block ?_
                 obtain ⟨x43594, hL57098, hK57099⟩ := bind_inv hP
                 clear hP
                 refine loop_cut (fun i_ a w_ => (i_ = 0 ∧ ∃ (x57102 : Unit), Fr a 50 [] ∧ Hp S Fa w0 w_ [.row true (cSl cS74) 76 (some ⟨b12326, 0, none⟩) c202 x206.1, .box g46 73 [.slice (some ⟨b12326, 0, none⟩) (List.length x206.1) c202], .row true (cSl (cInt .u8)) 27 A55945 c55946 x42962, .box g355 39 [.slice A55945 (List.length x42962) c55946], .row true (cSl (cInt .i64)) 23 (some ⟨b24305, 0, none⟩) c28 r18.1, .box g30 69 [.slice (some ⟨b24305, 0, none⟩) (List.length r18.1) c28], .box g360 79 [.func (.func 45) #[] #[.pointer (some ⟨g355, 0, none⟩), .pointer (some ⟨g30, 0, none⟩), .pointer (some ⟨g46, 0, none⟩), .pointer (some ⟨g360, 0, none⟩)]], .ro true (cInt .i64) (some ⟨b36160, o36161, none⟩) (List.getD r18.1 (Int.toNat (0 : Int)) []), .box g46275 52 [.int .u8 (IntKind.u8.wrap x30230)], .row true (cInt .u8) 52 A54734 c54735 x54736, .ro true (cInt .i64) (some ⟨b52455, o52456, none⟩) (List.getD r18.1 (Int.toNat (List.getD (List.getD r18.1 (Int.toNat (0 : Int)) []) (Int.toNat x30230) 0)) []), .box g54722 52 [.int .u8 (IntKind.u8.wrap x40496)], .row true (cInt .u8) 52 A56729 c56730 x56731, .ro true (cInt .i64) (some ⟨b56308, o56309, none⟩) (List.getD r18.1 (Int.toNat (List.getD (List.getD r18.1 (Int.toNat (List.getD (List.getD r18.1 (Int.toNat (0 : Int)) []) (Int.toNat x30230) 0)) []) (Int.toNat x40496) 0)) []), .box g56716 52 [.int .u8 (IntKind.u8.wrap x42965)], .row true (cInt .u8) 52 A56732 c56733 (((([] : List Int) ++ ([IntKind.u8.wrap x30230] : List Int)) ++ ([IntKind.u8.wrap x40496] : List Int)) ++ ([IntKind.u8.wrap x42965] : List Int))] ∧ Chg (atL [.box g355 39 [.slice A30228 (List.length x30227) c30229], .row true (cSl (cInt .u8)) 27 A30228 c30229 x30227]) w36155 w_ ∧ Chg (atL [.row true (cInt .u8) 52 A46283 c46284 (([] : List Int) ++ ([IntKind.u8.wrap x30230] : List Int)), .box g355 39 [.slice A50939 (List.length x40493) c50940], .row true (cSl (cInt .u8)) 27 A50939 c50940 x40493]) w52450 w_ ∧ Chg (atL [.row true (cInt .u8) 52 A54737 c54738 ((([] : List Int) ++ ([IntKind.u8.wrap x30230] : List Int)) ++ ([IntKind.u8.wrap x40496] : List Int)), .box g355 39 [.slice A55945 (List.length x42962) c55946], .row true (cSl (cInt .u8)) 27 A55945 c55946 x42962]) w56303 w_ ∧ x43594 = x57102)) ?_ ?_
                 ·
                  refine loopV (fun m57101 a w57100 => ∃ (x43554 : Int), Fr a 50 [(1, .int .i64 (((n416 - 1) - 1) - 1)), (2, .slice A56732 (List.length (((([] : List Int) ++ ([IntKind.u8.wrap x30230] : List Int)) ++ ([IntKind.u8.wrap x40496] : List Int)) ++ ([IntKind.u8.wrap x42965] : List Int))) c56733), (5, .pointer (some ⟨g46, 0, none⟩)), (6, .pointer (some ⟨g360, 0, none⟩)), (22, .slice A57005 (List.length (List.getD r18.1 (Int.toNat (List.getD (List.getD r18.1 (Int.toNat (List.getD (List.getD r18.1 (Int.toNat (List.getD (List.getD r18.1 (Int.toNat (0 : Int)) []) (Int.toNat x30230) 0)) []) (Int.toNat x40496) 0)) []) (Int.toNat x42965) 0)) [])) c57006), (23, .int .i64 (((List.length (List.getD r18.1 (Int.toNat (List.getD (List.getD r18.1 (Int.toNat (List.getD (List.getD r18.1 (Int.toNat (List.getD (List.getD r18.1 (Int.toNat (0 : Int)) []) (Int.toNat x30230) 0)) []) (Int.toNat x40496) 0)) []) (Int.toNat x42965) 0)) [])) : Nat) : Int)), (24, .int .i64 x43554)] ∧ Hp S Fa w0 w57100 [.row true (cInt .u8) 52 A56732 c56733 (((([] : List Int) ++ ([IntKind.u8.wrap x30230] : List Int)) ++ ([IntKind.u8.wrap x40496] : List Int)) ++ ([IntKind.u8.wrap x42965] : List Int)), .row true (cSl cS74) 76 (some ⟨b12326, 0, none⟩) c202 x206.1, .box g46 73 [.slice (some ⟨b12326, 0, none⟩) (List.length x206.1) c202], .row true (cSl (cInt .u8)) 27 A55945 c55946 x42962, .box g355 39 [.slice A55945 (List.length x42962) c55946], .row true (cSl (cInt .i64)) 23 (some ⟨b24305, 0, none⟩) c28 r18.1, .box g30 69 [.slice (some ⟨b24305, 0, none⟩) (List.length r18.1) c28], .box g360 79 [.func (.func 45) #[] #[.pointer (some ⟨g355, 0, none⟩), .pointer (some ⟨g30, 0, none⟩), .pointer (some ⟨g46, 0, none⟩), .pointer (some ⟨g360, 0, none⟩)]], .ro true (cInt .i64) A57005 (List.getD r18.1 (Int.toNat (List.getD (List.getD r18.1 (Int.toNat (List.getD (List.getD r18.1 (Int.toNat (List.getD (List.getD r18.1 (Int.toNat (0 : Int)) []) (Int.toNat x30230) 0)) []) (Int.toNat x40496) 0)) []) (Int.toNat x42965) 0)) []), .ro true (cInt .i64) (some ⟨b36160, o36161, none⟩) (List.getD r18.1 (Int.toNat (0 : Int)) []), .box g46275 52 [.int .u8 (IntKind.u8.wrap x30230)], .row true (cInt .u8) 52 A54734 c54735 x54736, .ro true (cInt .i64) (some ⟨b52455, o52456, none⟩) (List.getD r18.1 (Int.toNat (List.getD (List.getD r18.1 (Int.toNat (0 : Int)) []) (Int.toNat x30230) 0)) []), .box g54722 52 [.int .u8 (IntKind.u8.wrap x40496)], .row true (cInt .u8) 52 A56729 c56730 x56731, .ro true (cInt .i64) (some ⟨b56308, o56309, none⟩) (List.getD r18.1 (Int.toNat (List.getD (List.getD r18.1 (Int.toNat (List.getD (List.getD r18.1 (Int.toNat (0 : Int)) []) (Int.toNat x30230) 0)) []) (Int.toNat x40496) 0)) []), .box g56716 52 [.int .u8 (IntKind.u8.wrap x42965)]] ∧ Chg (atL [.box g355 39 [.slice A30228 (List.length x30227) c30229], .row true (cSl (cInt .u8)) 27 A30228 c30229 x30227]) w36155 w57100 ∧ Chg (atL [.row true (cInt .u8) 52 A46283 c46284 (([] : List Int) ++ ([IntKind.u8.wrap x30230] : List Int)), .box g355 39 [.slice A50939 (List.length x40493) c50940], .row true (cSl (cInt .u8)) 27 A50939 c50940 x40493]) w52450 w57100 ∧ Chg (atL [.row true (cInt .u8) 52 A54737 c54738 ((([] : List Int) ++ ([IntKind.u8.wrap x30230] : List Int)) ++ ([IntKind.u8.wrap x40496] : List Int)), .box g355 39 [.slice A55945 (List.length x42962) c55946], .row true (cSl (cInt .u8)) 27 A55945 c55946 x42962]) w56303 w57100 ∧ lang_Words_l9 N r18 x206 n416 x30230 x40496 x42965 m57101 x43554 = some x43594) N ?_ ?_
                  ·
                   exact ⟨0, E.pick _ ⟨rfl, rfl, rfl, rfl, rfl, rfl, rfl, trivial⟩, H.sel [16, 1, 2, 4, 3, 5, 6, 7, 17, 9, 10, 11, 12, 13, 0, 8, 15] rfl, HS46273, HS54720, HS56714, hL57098⟩
                  clear E H hL57098 HS46273 HS54720 HS56714; intro m57101 a w57100 hI_
                  obtain ⟨x43554, E, H, HS46273, HS54720, HS56714, hP⟩ := hI_
                  obtain ⟨m43593, rfl⟩ : ∃ q_, m57101 = q_ + 1 := by cases m57101 with | zero => rw [lang_Words_l9] at hP; cases hP | succ q_ => exact ⟨q_, rfl⟩
                  rw [lang_Words_l9] at hP
                  refine wp_seq ?_
                  refine wp_region_lit ?_
                  refine vn tbok 1 [] [(25, .bool (decide (x43554 < (((List.length (List.getD r18.1 (Int.toNat (List.getD (List.getD r18.1 (Int.toNat (List.getD (List.getD r18.1 (Int.toNat (List.getD (List.getD r18.1 (Int.toNat (0 : Int)) []) (Int.toNat x30230) 0)) []) (Int.toNat x40496) 0)) []) (Int.toNat x42965) 0)) [])) : Nat) : Int))))] [] E (by kernel_rfl) (by kernel_rfl) trivial ?_
                  clear E; intro a E
                  refine wpList_nil ?_
                  refine th_n ?_
                  refine wp_seq ?_
                  refine E.cases (t := 25) rfl (fun hb_ E_ => ?_) (fun hb_ E_ => ?_)
                  ·
                   replace E := E_; clear E_
                   have h57103 : x43554 < (((List.length (List.getD r18.1 (Int.toNat (List.getD (List.getD r18.1 (Int.toNat (List.getD (List.getD r18.1 (Int.toNat (List.getD (List.getD r18.1 (Int.toNat (0 : Int)) []) (Int.toNat x30230) 0)) []) (Int.toNat x40496) 0)) []) (Int.toNat x42965) 0)) [])) : Nat) : Int) := of_decide_eq_true hb_
                   clear hb_; replace hP := ite_t h57103 hP
                   refine c_true E rfl ?_
                   refine wp_skip ?_
                   refine th_n ?_
                   refine wp_seq ?_
                   refine wp_block ?_
                   refine wp_seq ?_
                   refine wp_region_lit ?_
                   obtain ⟨g57104, hP⟩ := ask_inv hP
                   obtain ⟨b57105, o57106, e_b57105⟩ := (H.rd 8 rds_ro).addr (idx_pos g57104)
                   subst e_b57105
                   refine vn tbok 5 [.int .i64 (List.getD (List.getD r18.1 (Int.toNat (List.getD (List.getD r18.1 (Int.toNat (List.getD (List.getD r18.1 (Int.toNat (List.getD (List.getD r18.1 (Int.toNat (0 : Int)) []) (Int.toNat x30230) 0)) []) (Int.toNat x40496) 0)) []) (Int.toNat x42965) 0)) []) (Int.toNat x43554) 0)] [(10, .int .i64 x43554), (11, .int .i64 (List.getD (List.getD r18.1 (Int.toNat (List.getD (List.getD r18.1 (Int.toNat (List.getD (List.getD r18.1 (Int.toNat (List.getD (List.getD r18.1 (Int.toNat (0 : Int)) []) (Int.toNat x30230) 0)) []) (Int.toNat x40496) 0)) []) (Int.toNat x42965) 0)) []) (Int.toNat x43554) 0))] [0 ≤ x43554 ∧ x43554 < (((List.length (List.getD r18.1 (Int.toNat (List.getD (List.getD r18.1 (Int.toNat (List.getD (List.getD r18.1 (Int.toNat (List.getD (List.getD r18.1 (Int.toNat (0 : Int)) []) (Int.toNat x30230) 0)) []) (Int.toNat x40496) 0)) []) (Int.toNat x42965) 0)) [])) : Nat) : Int), World.cell? w57100 ⟨b57105, o57106 + (Int.toNat x43554) * 1, none⟩ = some (.int .i64 (List.getD (List.getD r18.1 (Int.toNat (List.getD (List.getD r18.1 (Int.toNat (List.getD (List.getD r18.1 (Int.toNat (List.getD (List.getD r18.1 (Int.toNat (0 : Int)) []) (Int.toNat x30230) 0)) []) (Int.toNat x40496) 0)) []) (Int.toNat x42965) 0)) []) (Int.toNat x43554) 0))] E (by kernel_rfl) (by kernel_rfl) ⟨g57104, Rds.at1 (H.rd 8 rds_ro) 0 g57104⟩ ?_
                   clear E; intro a E
                   refine wpList_nil ?_
                   refine th_n ?_
                   refine wp_seq ?_
                   refine wp_region_lit ?_
                   obtain ⟨g57107, hP⟩ := ask_inv hP
                   obtain ⟨g57108, hP⟩ := ask_inv hP
                   obtain ⟨A57109, c57110, hl57111, hk57112, H⟩ := H.subSl 1 true (el_row rfl) g57108
                   try dsimp only [addE] at H
                   obtain ⟨g57114, hP⟩ := ask_inv hP
                   obtain ⟨b57115, o57116, e_b57115⟩ := (H.rd 17 rds_ro).addr (idx_pos g57114)
                   subst e_b57115
                   refine vn tbok 10 [.slice (some ⟨b12326, 0, none⟩) (List.length x206.1) c202, .int .i64 ((((n416 - 1) - 1) - 1) - 1), .slice (some ⟨b57115, o57116, none⟩) (List.length (List.getD x206.1 (Int.toNat ((((n416 - 1) - 1) - 1) - 1)) [])) c57110, .int .u64 ((List.getD (List.getD x206.1 (Int.toNat ((((n416 - 1) - 1) - 1) - 1)) []) (Int.toNat (List.getD (List.getD r18.1 (Int.toNat (List.getD (List.getD r18.1 (Int.toNat (List.getD (List.getD r18.1 (Int.toNat (List.getD (List.getD r18.1 (Int.toNat (0 : Int)) []) (Int.toNat x30230) 0)) []) (Int.toNat x40496) 0)) []) (Int.toNat x42965) 0)) []) (Int.toNat x43554) 0)) (0, false)).1)] [(38, .bool (decide (0 < ((List.getD (List.getD x206.1 (Int.toNat ((((n416 - 1) - 1) - 1) - 1)) []) (Int.toNat (List.getD (List.getD r18.1 (Int.toNat (List.getD (List.getD r18.1 (Int.toNat (List.getD (List.getD r18.1 (Int.toNat (List.getD (List.getD r18.1 (Int.toNat (0 : Int)) []) (Int.toNat x30230) 0)) []) (Int.toNat x40496) 0)) []) (Int.toNat x42965) 0)) []) (Int.toNat x43554) 0)) (0, false)).1))))] [World.cell? w57100 ⟨g46, 0, none⟩ = some (.slice (some ⟨b12326, 0, none⟩) (List.length x206.1) c202), IntKind.i64.wrap ((((n416 - 1) - 1) - 1) - 1) = (((n416 - 1) - 1) - 1) - 1, 0 ≤ ((((n416 - 1) - 1) - 1) - 1) ∧ ((((n416 - 1) - 1) - 1) - 1) < (((List.length x206.1) : Nat) : Int), World.cell? w57100 ⟨b12326, 0 + (Int.toNat ((((n416 - 1) - 1) - 1) - 1)) * 1, none⟩ = some (.slice (some ⟨b57115, o57116, none⟩) (List.length (List.getD x206.1 (Int.toNat ((((n416 - 1) - 1) - 1) - 1)) [])) c57110), 0 ≤ (List.getD (List.getD r18.1 (Int.toNat (List.getD (List.getD r18.1 (Int.toNat (List.getD (List.getD r18.1 (Int.toNat (List.getD (List.getD r18.1 (Int.toNat (0 : Int)) []) (Int.toNat x30230) 0)) []) (Int.toNat x40496) 0)) []) (Int.toNat x42965) 0)) []) (Int.toNat x43554) 0) ∧ (List.getD (List.getD r18.1 (Int.toNat (List.getD (List.getD r18.1 (Int.toNat (List.getD (List.getD r18.1 (Int.toNat (List.getD (List.getD r18.1 (Int.toNat (0 : Int)) []) (Int.toNat x30230) 0)) []) (Int.toNat x40496) 0)) []) (Int.toNat x42965) 0)) []) (Int.toNat x43554) 0) < (((List.length (List.getD x206.1 (Int.toNat ((((n416 - 1) - 1) - 1) - 1)) [])) : Nat) : Int), World.cell? w57100 ⟨b57115, o57116 + (Int.toNat (List.getD (List.getD r18.1 (Int.toNat (List.getD (List.getD r18.1 (Int.toNat (List.getD (List.getD r18.1 (Int.toNat (List.getD (List.getD r18.1 (Int.toNat (0 : Int)) []) (Int.toNat x30230) 0)) []) (Int.toNat x40496) 0)) []) (Int.toNat x42965) 0)) []) (Int.toNat x43554) 0)) * 2, none⟩ = some (.int .u64 ((List.getD (List.getD x206.1 (Int.toNat ((((n416 - 1) - 1) - 1) - 1)) []) (Int.toNat (List.getD (List.getD r18.1 (Int.toNat (List.getD (List.getD r18.1 (Int.toNat (List.getD (List.getD r18.1 (Int.toNat (List.getD (List.getD r18.1 (Int.toNat (0 : Int)) []) (Int.toNat x30230) 0)) []) (Int.toNat x40496) 0)) []) (Int.toNat x42965) 0)) []) (Int.toNat x43554) 0)) (0, false)).1))] E (by kernel_rfl) (by kernel_rfl) ⟨(H.box 2 rfl).cell (j := 0) rfl, wrap_in g57107, g57108, hl57111, g57114, (Rds.atP (H.rd 17 rds_ro) (0, false) g57114).1⟩ ?_
                   clear E; intro a E
                   refine wpList_nil ?_
                   refine th_n ?_
                   refine E.cases (t := 38) rfl (fun hb_ E_ => ?_) (fun hb_ E_ => ?_)
                   ·
                    replace E := E_; clear E_
                    have h57117 : 0 < ((List.getD (List.getD x206.1 (Int.toNat ((((n416 - 1) - 1) - 1) - 1)) []) (Int.toNat (List.getD (List.getD r18.1 (Int.toNat (List.getD (List.getD r18.1 (Int.toNat (List.getD (List.getD r18.1 (Int.toNat (List.getD (List.getD r18.1 (Int.toNat (0 : Int)) []) (Int.toNat x30230) 0)) []) (Int.toNat x40496) 0)) []) (Int.toNat x42965) 0)) []) (Int.toNat x43554) 0)) (0, false)).1) := of_decide_eq_true hb_
                    clear hb_; replace hP := ite_t h57117 hP
                    exact none_inv hP
                    -- STOPPED: the plain text parts: none, chk
                   replace E := E_; clear E_
                   have h57127 : ¬ (0 < ((List.getD (List.getD x206.1 (Int.toNat ((((n416 - 1) - 1) - 1) - 1)) []) (Int.toNat (List.getD (List.getD r18.1 (Int.toNat (List.getD (List.getD r18.1 (Int.toNat (List.getD (List.getD r18.1 (Int.toNat (List.getD (List.getD r18.1 (Int.toNat (0 : Int)) []) (Int.toNat x30230) 0)) []) (Int.toNat x40496) 0)) []) (Int.toNat x42965) 0)) []) (Int.toNat x43554) 0)) (0, false)).1)) := of_decide_eq_false hb_
                   clear hb_; replace hP := ite_f h57127 hP
                   refine c_false E rfl ?_
                   refine wp_skip ?_
                   refine bl_n ?_
                   refine th_n ?_
                   refine wp_region_lit ?_
                   obtain ⟨g57128, hP⟩ := ask_inv hP
                   refine vn tbok 2 [.int .i64 (x43554 + 1)] [(24, .int .i64 (x43554 + 1))] [IntKind.i64.wrap (x43554 + 1) = x43554 + 1] E (by kernel_rfl) (by kernel_rfl) (wrap_in g57128) ?_
                   clear E; intro a E
                   refine wpList_nil ?_
                   exact th_n ⟨m43593, Nat.lt_succ_self _, x43554 + 1, E.pick _ ⟨rfl, rfl, rfl, rfl, rfl, rfl, rfl, trivial⟩, H.sel [0, 1, 2, 3, 4, 5, 6, 7, 8, 9, 10, 11, 12, 13, 14, 15, 16] rfl, HS46273, HS54720, HS56714, hP⟩
                  replace E := E_; clear E_
                  have h57129 : ¬ (x43554 < (((List.length (List.getD r18.1 (Int.toNat (List.getD (List.getD r18.1 (Int.toNat (List.getD (List.getD r18.1 (Int.toNat (List.getD (List.getD r18.1 (Int.toNat (0 : Int)) []) (Int.toNat x30230) 0)) []) (Int.toNat x40496) 0)) []) (Int.toNat x42965) 0)) [])) : Nat) : Int)) := of_decide_eq_false hb_
                  clear hb_; replace hP := ite_f h57129 hP
                  refine c_false E rfl ?_
                  refine wp_exit ?_
                  refine th_exit ?_
                  have hx_ := Option.some.inj hP
                  refine th_exit (.inl ⟨0, rfl, ?_⟩)
                  exact ⟨rfl, (), E.pick _ trivial, H.sel [1, 2, 3, 4, 5, 6, 7, 9, 10, 11, 12, 13, 14, 15, 16, 0] rfl, HS46273, HS54720, HS56714, hx_.symm⟩
                 clear E H hL57098 HS46273 HS54720 HS56714; intro i_ a w57100 hM_
                 obtain ⟨rfl, x57102, E, H, HS46273, HS54720, HS56714, hx_⟩ := hM_
                 subst hx_; have hP := hK57099; clear hK57099
                 refine bl_hit ?_
                 have hx_ := Option.some.inj hP
                 refine bodyPost_end (v := .tuple #[]) (by simp [results, Try.f45]) E.nodef ?_
                 exact ⟨_, rfl, x42962, A55945, c55946, rfl, H.sel [0, 1, 3, 2, 4, 5, 6, 7, 8, 9, 10, 11, 12, 13, 14, 15] rfl, hin55947, hin55948, (fun _ _ h_ => Or.inr (Or.inr (Or.inl h_))), HS46273, HS54720, HS56714, hx_.symm⟩
                clear H HS46273 HS54720 HS56714
                rintro v57131 w57130 a ⟨x56878, A56873, c56874, rfl, H, hin56875, hin56876, hin56877, HS46273, HS54720, HS56714, hx_⟩ E_
                subst hx_
                replace E := E_ _ rfl; clear E_
                replace H := H.back 12 15 rfl rfl hO56736; try dsimp only [setn, addE, goneL] at H
                refine wpList_nil ?_
                refine th_n ⟨HS56714, ?_⟩
                refine dr_done (by kernel_rfl) ?_
                clear HS56714 HR56715
                refine bl_n ?_
                refine th_n ?_
                refine wp_region_lit ?_
                obtain ⟨g57133, hP⟩ := ask_inv hP
                refine vn tbok 2 [.int .i64 (x42965 + 1)] [(24, .int .i64 (x42965 + 1))] [IntKind.i64.wrap (x42965 + 1) = x42965 + 1] E (by kernel_rfl) (by kernel_rfl) (wrap_in g57133) ?_
                clear E; intro a E
                refine wpList_nil ?_
                exact th_n ⟨m43267, Nat.lt_succ_self _, x43419, x42965 + 1, A56873, c56874, E.pick _ ⟨rfl, rfl, rfl, rfl, rfl, rfl, rfl, trivial⟩, H.sel [12, 0, 1, 2, 3, 4, 5, 6, 13, 7, 8, 9, 10, 11] rfl, hin56875, hin56876, HS46273, HS54720, hP⟩
               replace E := E_; clear E_
               have h57134 : ¬ (0 < ((List.getD (List.getD x206.1 (Int.toNat (((n416 - 1) - 1) - 1)) []) (Int.toNat (List.getD (List.getD r18.1 (Int.toNat (List.getD (List.getD r18.1 (Int.toNat (List.getD (List.getD r18.1 (Int.toNat (0 : Int)) []) (Int.toNat x30230) 0)) []) (Int.toNat x40496) 0)) []) (Int.toNat x42965) 0)) (0, false)).1)) := of_decide_eq_false hb_
               clear hb_; replace hP := ite_f h57134 hP
               refine c_false E rfl ?_
               refine wp_skip ?_
               refine bl_n ?_
               refine th_n ?_
               refine wp_region_lit ?_
               obtain ⟨g57135, hP⟩ := ask_inv hP
               refine vn tbok 2 [.int .i64 (x42965 + 1)] [(24, .int .i64 (x42965 + 1))] [IntKind.i64.wrap (x42965 + 1) = x42965 + 1] E (by kernel_rfl) (by kernel_rfl) (wrap_in g57135) ?_
               clear E; intro a E
               refine wpList_nil ?_
               exact th_n ⟨m43267, Nat.lt_succ_self _, x42962, x42965 + 1, A55945, c55946, E.pick _ ⟨rfl, rfl, rfl, rfl, rfl, rfl, rfl, trivial⟩, H.sel [0, 1, 2, 3, 4, 5, 6, 7, 8, 9, 10, 11, 12, 13] rfl, hin55947, hin55948, HS46273, HS54720, hP⟩
              replace E := E_; clear E_
              have h57136 : ¬ (x42965 < (((List.length (List.getD r18.1 (Int.toNat (List.getD (List.getD r18.1 (Int.toNat (List.getD (List.getD r18.1 (Int.toNat (0 : Int)) []) (Int.toNat x30230) 0)) []) (Int.toNat x40496) 0)) [])) : Nat) : Int)) := of_decide_eq_false hb_
              clear hb_; replace hP := ite_f h57136 hP
              refine c_false E rfl ?_
              refine wp_exit ?_
              refine th_exit ?_
              have hx_ := Option.some.inj hP
              refine th_exit (.inl ⟨0, rfl, ?_⟩)
              exact ⟨rfl, x42962, A55945, c55946, E.pick _ trivial, H.sel [1, 2, 3, 4, 5, 6, 7, 9, 10, 11, 12, 13, 0] rfl, hin55947, hin55948, HS46273, HS54720, hx_.symm⟩
             clear E H hL56301 HS46273 HS54720; intro i_ a w56303 hM_
             obtain ⟨rfl, x56305, A56295, c56296, E, H, hin56297, hin56298, HS46273, HS54720, hx_⟩ := hM_
             subst hx_; have hP := hK56302; clear hK56302
             refine bl_hit ?_
             have hx_ := Option.some.inj hP
             refine bodyPost_end (v := .tuple #[]) (by simp [results, Try.f45]) E.nodef ?_
             exact ⟨_, rfl, x43268, A56295, c56296, rfl, H.sel [0, 1, 2, 3, 4, 5, 6, 7, 8, 9, 10, 11, 12] rfl, hin56297, hin56298, HS46273, HS54720, hx_.symm⟩
            clear H HS46273 HS54720
            rintro v57138 w57137 a ⟨x55484, A55480, c55481, rfl, H, hin55482, hin55483, HS46273, HS54720, hx_⟩ E_
            subst hx_
            replace E := E_ _ rfl; clear E_
            replace H := H.back 9 12 rfl rfl hO54741; try dsimp only [setn, addE, goneL] at H
            refine wpList_nil ?_
            refine th_n ⟨HS54720, ?_⟩
            refine dr_done (by kernel_rfl) ?_
            clear HS54720 HR54721
            refine bl_n ?_
            refine th_n ?_
            refine wp_region_lit ?_
            obtain ⟨g57140, hP⟩ := ask_inv hP
            refine vn tbok 2 [.int .i64 (x40496 + 1)] [(24, .int .i64 (x40496 + 1))] [IntKind.i64.wrap (x40496 + 1) = x40496 + 1] E (by kernel_rfl) (by kernel_rfl) (wrap_in g57140) ?_
            clear E; intro a E
            refine wpList_nil ?_
            exact th_n ⟨m41891, Nat.lt_succ_self _, x42568, x40496 + 1, A55480, c55481, E.pick _ ⟨rfl, rfl, rfl, rfl, rfl, rfl, rfl, trivial⟩, H.sel [9, 0, 1, 2, 3, 4, 5, 6, 10, 7, 8] rfl, hin55482, HS46273, hP⟩
           replace E := E_; clear E_
           have h57141 : ¬ (0 < ((List.getD (List.getD x206.1 (Int.toNat ((n416 - 1) - 1)) []) (Int.toNat (List.getD (List.getD r18.1 (Int.toNat (List.getD (List.getD r18.1 (Int.toNat (0 : Int)) []) (Int.toNat x30230) 0)) []) (Int.toNat x40496) 0)) (0, false)).1)) := of_decide_eq_false hb_
           clear hb_; replace hP := ite_f h57141 hP
           refine c_false E rfl ?_
           refine wp_skip ?_
           refine bl_n ?_
           refine th_n ?_
           refine wp_region_lit ?_
           obtain ⟨g57142, hP⟩ := ask_inv hP
           refine vn tbok 2 [.int .i64 (x40496 + 1)] [(24, .int .i64 (x40496 + 1))] [IntKind.i64.wrap (x40496 + 1) = x40496 + 1] E (by kernel_rfl) (by kernel_rfl) (wrap_in g57142) ?_
           clear E; intro a E
           refine wpList_nil ?_
           exact th_n ⟨m41891, Nat.lt_succ_self _, x40493, x40496 + 1, A50939, c50940, E.pick _ ⟨rfl, rfl, rfl, rfl, rfl, rfl, rfl, trivial⟩, H.sel [0, 1, 2, 3, 4, 5, 6, 7, 8, 9, 10] rfl, hin50941, HS46273, hP⟩
          replace E := E_; clear E_
          have h57143 : ¬ (x40496 < (((List.length (List.getD r18.1 (Int.toNat (List.getD (List.getD r18.1 (Int.toNat (0 : Int)) []) (Int.toNat x30230) 0)) [])) : Nat) : Int)) := of_decide_eq_false hb_
          clear hb_; replace hP := ite_f h57143 hP
          refine c_false E rfl ?_
          refine wp_exit ?_
          refine th_exit ?_
          have hx_ := Option.some.inj hP
          refine th_exit (.inl ⟨0, rfl, ?_⟩)
          exact ⟨rfl, x40493, A50939, c50940, E.pick _ trivial, H.sel [1, 2, 3, 4, 5, 6, 7, 9, 10, 0] rfl, hin50941, HS46273, hx_.symm⟩
         clear E H hL52448 HS46273; intro i_ a w52450 hM_
         obtain ⟨rfl, x52452, A52444, c52445, E, H, hin52446, HS46273, hx_⟩ := hM_
         subst hx_; have hP := hK52449; clear hK52449
         refine bl_hit ?_
         have hx_ := Option.some.inj hP
         refine bodyPost_end (v := .tuple #[]) (by simp [results, Try.f45]) E.nodef ?_
         exact ⟨_, rfl, x41892, A52444, c52445, rfl, H.sel [0, 1, 2, 3, 4, 5, 6, 7, 8, 9] rfl, hin52446, HS46273, hx_.symm⟩
        clear H HS46273
        rintro v57145 w57144 a ⟨x49333, A49330, c49331, rfl, H, hin49332, HS46273, hx_⟩ E_
        subst hx_
        replace E := E_ _ rfl; clear E_
        refine wpList_nil ?_
        refine th_n ⟨HS46273, ?_⟩
        refine dr_done (by kernel_rfl) ?_
        clear HS46273 HR46274
        refine bl_n ?_
        refine th_n ?_
        refine wp_region_lit ?_
        obtain ⟨g57146, hP⟩ := ask_inv hP
        refine vn tbok 2 [.int .i64 (x30230 + 1)] [(24, .int .i64 (x30230 + 1))] [IntKind.i64.wrap (x30230 + 1) = x30230 + 1] E (by kernel_rfl) (by kernel_rfl) (wrap_in g57146) ?_
        clear E; intro a E
        refine wpList_nil ?_
        exact th_n ⟨m36151, Nat.lt_succ_self _, x39006, x30230 + 1, A49330, c49331, E.pick _ ⟨rfl, rfl, rfl, rfl, rfl, rfl, rfl, trivial⟩, H.sel [0, 1, 2, 3, 4, 5, 6, 7] rfl, hP⟩
       replace E := E_; clear E_
       have h57147 : ¬ (0 < ((List.getD (List.getD x206.1 (Int.toNat (n416 - 1)) []) (Int.toNat (List.getD (List.getD r18.1 (Int.toNat (0 : Int)) []) (Int.toNat x30230) 0)) (0, false)).1)) := of_decide_eq_false hb_
       clear hb_; replace hP := ite_f h57147 hP
       refine c_false E rfl ?_
       refine wp_skip ?_
       refine bl_n ?_
       refine th_n ?_
       refine wp_region_lit ?_
       obtain ⟨g57148, hP⟩ := ask_inv hP
       refine vn tbok 2 [.int .i64 (x30230 + 1)] [(24, .int .i64 (x30230 + 1))] [IntKind.i64.wrap (x30230 + 1) = x30230 + 1] E (by kernel_rfl) (by kernel_rfl) (wrap_in g57148) ?_
       clear E; intro a E
       refine wpList_nil ?_
       exact th_n ⟨m36151, Nat.lt_succ_self _, x30227, x30230 + 1, A30228, c30229, E.pick _ ⟨rfl, rfl, rfl, rfl, rfl, rfl, rfl, trivial⟩, H.sel [0, 1, 2, 3, 4, 5, 6, 7] rfl, hP⟩
      replace E := E_; clear E_
      have h57149 : ¬ (x30230 < (((List.length (List.getD r18.1 (Int.toNat (0 : Int)) [])) : Nat) : Int)) := of_decide_eq_false hb_
      clear hb_; replace hP := ite_f h57149 hP
      refine c_false E rfl ?_
      refine wp_exit ?_
      refine th_exit ?_
      have hx_ := Option.some.inj hP
      refine th_exit (.inl ⟨0, rfl, ?_⟩)
      exact ⟨rfl, x30227, A30228, c30229, E.pick _ trivial, H.sel [0, 1, 2, 3, 4, 5, 6] rfl, hx_.symm⟩
     clear E H hL36153; intro i_ a w36155 hM_
     obtain ⟨rfl, x36157, A36149, c36150, E, H, hx_⟩ := hM_
     subst hx_; have hP := hK36154; clear hK36154
     refine bl_hit ?_
     have hx_ := Option.some.inj hP
     refine bodyPost_end (v := .tuple #[]) (by simp [results, Try.f45]) E.nodef ?_
     exact ⟨_, rfl, x36152, A36149, c36150, rfl, H.sel [0, 1, 2, 3, 4, 5, 6] rfl, hx_.symm⟩
    clear H
    rintro v57151 w57150 a ⟨x24214, A24210, c24211, rfl, H, hx_⟩ E_
    subst hx_
    replace E := E_ _ rfl; clear E_
    refine wpList_nil ?_
    refine bl_n ?_
    refine th_n ?_
    refine wp_region_lit ?_
    obtain ⟨g57152, hP⟩ := ask_inv hP
    refine vn tbok 3 [.int .i64 (n416 + 1)] [(13, .int .i64 (n416 + 1))] [IntKind.i64.wrap (n416 + 1) = n416 + 1] E (by kernel_rfl) (by kernel_rfl) (wrap_in g57152) ?_
    clear E; intro a E
    refine wpList_nil ?_
    exact th_n ⟨m12316, Nat.lt_succ_self _, x24212, n416 + 1, A24210, c24211, E.pick _ ⟨rfl, rfl, rfl, rfl, rfl, trivial⟩, H.sel [0, 1, 2, 3, 4, 5, 6] rfl, hP⟩
   replace E := E_; clear E_
   have h57153 : ¬ (0 < ((List.getD (List.getD x206.1 (Int.toNat n416) []) (Int.toNat (0 : Int)) (0, false)).1)) := of_decide_eq_false hb_
   clear hb_; replace hP := ite_f h57153 hP
   refine c_false E rfl ?_
   refine wp_skip ?_
   refine bl_n ?_
   refine th_n ?_
   refine wp_region_lit ?_
   obtain ⟨g57154, hP⟩ := ask_inv hP
   refine vn tbok 3 [.int .i64 (n416 + 1)] [(13, .int .i64 (n416 + 1))] [IntKind.i64.wrap (n416 + 1) = n416 + 1] E (by kernel_rfl) (by kernel_rfl) (wrap_in g57154) ?_
   clear E; intro a E
   refine wpList_nil ?_
   exact th_n ⟨m12316, Nat.lt_succ_self _, out413, n416 + 1, A414, c415, E.pick _ ⟨rfl, rfl, rfl, rfl, rfl, trivial⟩, H.sel [0, 1, 2, 3, 4, 5, 6] rfl, hP⟩
  replace E := E_; clear E_
  have h57155 : ¬ (n416 ≤ most) := of_decide_eq_false hb_
  clear hb_; replace hP := ite_f h57155 hP
  refine c_false E rfl ?_
  refine wp_exit ?_
  refine th_exit ?_
  have hx_ := Option.some.inj hP
  refine th_exit (.inl ⟨2, rfl, ?_⟩)
  exact ⟨rfl, out413, A414, c415, E.pick _ ⟨rfl, trivial⟩, H.sel [2, 3] rfl, hx_.symm⟩
 clear E H hL12318; intro i_ a w12321 hM_
 obtain ⟨rfl, x12323, A12314, c12315, E, H, hx_⟩ := hM_
 subst hx_; have hP := hK12319; clear hK12319
 refine bl_hit ?_
 refine th_n ?_
 refine wp_seq ?_
 refine wp_region_lit ?_
 refine vn tbok 3 [.slice A12314 (List.length x12317) c12315] [(4, .slice A12314 (List.length x12317) c12315), (5, .int .i64 0)] [World.cell? w12321 ⟨g355, 0, none⟩ = some (.slice A12314 (List.length x12317) c12315)] E (by kernel_rfl) (by kernel_rfl) ((H.box 0 rfl).cell (j := 0) rfl) ?_
 clear E; intro a E
 refine wpList_nil ?_
 refine th_n ?_
 refine wp_ret ?_
 obtain rfl := Option.some.inj hP
 refine ret2 E rfl rfl rfl ?_
 exact ⟨_, rfl, A12314, c12315, rfl, H.sel [1] rfl⟩

end Go.V
