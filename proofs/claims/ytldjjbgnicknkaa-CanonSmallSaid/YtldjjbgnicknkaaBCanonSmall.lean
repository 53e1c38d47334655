/- Plain functions, and the calls that give them. -/
import Derived.Test.YtldjjbgnicknkaaA8
set_option linter.all false
set_option linter.unusedVariables false
set_option linter.unnecessarySimpa false
set_option linter.unusedSimpArgs false
namespace Go.V
open Go Go.Proofs
/-! rejoinder/rejoinderlaw17.CanonSmall -/
def law17_CanonSmall_j0 (N : Nat) (aProps : Int) (aAccept : List Bool) (aGuard : List Int) (aNodes : List Nd) (r31 : (Int × (List Bool) × (List Int) × (List Nd)) × Int) : Option Bool :=
    Option.bind (law16_Small N aProps aAccept aGuard aNodes) fun r73 =>
    if r73 = true then
      some ((r31.2 : Int) != 0)
    else
      some true
def law17_CanonSmall_j2 (N : Nat) (t : List Int) (i128 : Int) : Option Bool :=
    if i128 < (((List.length t) : Nat) : Int) then
      some (decide (i128 < 1024))
    else
      some false
def law17_CanonSmall_l1 (N : Nat) (aProps : Int) (t : List Int) : Nat → (List Int) → Int → Option (List Int)
  | 0, _, _ => none
  | m171 + 1, few125, i128 =>
    Option.bind (law17_CanonSmall_j2 N t i128) fun x182 =>
    if x182 = true then
      ask (idx i128 (List.length t)) <|
      ask (0 ≤ aProps) <|
      ask (List.length few125 + List.length ([andV .u8 (List.getD t (Int.toNat i128) 0) (IntKind.u8.wrap ((shlV .u8 1 aProps) - 1))] : List Int) ≤ 1000000000) <|
      ask (in64 (i128 + 1)) <|
      law17_CanonSmall_l1 N aProps t m171 (few125 ++ ([andV .u8 (List.getD t (Int.toNat i128) 0) (IntKind.u8.wrap ((shlV .u8 1 aProps) - 1))] : List Int)) (i128 + 1)
    else
      some few125
def law17_CanonSmall_j3 (N : Nat) (aAccept : List Bool) (aNodes : List Nd) (r31 : (Int × (List Bool) × (List Int) × (List Nd)) × Int) (r223 : Int × Int) (r232 : Int × Int) : Option Bool :=
    if (r223.2 : Int) = 0 then
      if (r232.2 : Int) = 0 then
        if (((List.length aAccept) : Nat) : Int) ≤ r223.1 then
          some true
        else
          if (((List.length r31.1.2.1) : Nat) : Int) ≤ r232.1 then
            some true
          else
            ask (idx r223.1 (List.length aAccept)) <|
            ask (idx r232.1 (List.length r31.1.2.1)) <|
            if (List.getD aAccept (Int.toNat r223.1) false) = (List.getD r31.1.2.1 (Int.toNat r232.1) false) then
              if (((List.length aAccept) : Nat) : Int) < (((List.length r31.1.2.1) : Nat) : Int) then
                some true
              else
                some (decide ((((List.length aNodes) : Nat) : Int) < (((List.length r31.1.2.2.2) : Nat) : Int)))
            else
              some true
      else
        some true
    else
      some true
def law17_CanonSmall_j4 (N : Nat) (r31 : (Int × (List Bool) × (List Int) × (List Nd)) × Int) (r329 : (List Int) × Int) (r341 : (List Int) × Int) (r353 : (Int × (List Bool) × (List Int) × (List Nd)) × Int) (r378 : Bool × Int) : Option Bool :=
    if (r329.2 : Int) = 0 then
      if (r341.2 : Int) = 0 then
        if (r353.2 : Int) = 0 then
          if (r378.2 : Int) = 0 then
            if r378.1 = true then
              Option.bind (canon_Same N r31.1.1 r31.1.2.1 r31.1.2.2.1 r31.1.2.2.2 r353.1.1 r353.1.2.1 r353.1.2.2.1 r353.1.2.2.2) fun r426 =>
              if r426 = true then
                if ((((List.length r329.1) : Nat) : Int) : Int) = (((List.length r31.1.2.1) : Nat) : Int) then
                  some (((((List.length r341.1) : Nat) : Int) : Int) != (((List.length r31.1.2.1) : Nat) : Int))
                else
                  some true
              else
                some true
            else
              some true
          else
            some true
        else
          some true
      else
        some true
    else
      some true
def law17_CanonSmall_j6 (N : Nat) (r329 : (List Int) × Int) (r341 : (List Int) × Int) (x454 : Int) : Option Bool :=
    ask (idx x454 (List.length r329.1)) <|
    if ((List.getD r329.1 (Int.toNat x454) 0) : Int) = x454 then
      ask (idx x454 (List.length r341.1)) <|
      some (((List.getD r341.1 (Int.toNat x454) 0) : Int) != x454)
    else
      some true
def law17_CanonSmall_l5 (N : Nat) (r329 : (List Int) × Int) (r341 : (List Int) × Int) : Nat → Int → Option (Unit ⊕ Bool)
  | 0, _ => none
  | m469 + 1, x454 =>
    if x454 < (((List.length r329.1) : Nat) : Int) then
      Option.bind (law17_CanonSmall_j6 N r329 r341 x454) fun x486 =>
      if x486 = true then
        some (Sum.inr false)
      else
        ask (in64 (x454 + 1)) <|
        law17_CanonSmall_l5 N r329 r341 m469 (x454 + 1)
    else
      some (Sum.inl ())
def law17_CanonSmall (N : Nat) (aProps : Int) (aAccept : List Bool) (aGuard : List Int) (aNodes : List Nd) (t : List Int) : Option Bool :=
  Option.bind (law17_awake N) fun r22 =>
  Option.bind (canon_Min N aProps aAccept aGuard aNodes) fun r31 =>
  Option.bind (law17_CanonSmall_j0 N aProps aAccept aGuard aNodes r31) fun x68 =>
  if x68 = true then
    some r22
  else
    Option.bind (law17_CanonSmall_l1 N aProps t N [] 0) fun x172 =>
    Option.bind (canon_Run N aProps aAccept aGuard aNodes x172) fun r223 =>
    Option.bind (canon_Run N r31.1.1 r31.1.2.1 r31.1.2.2.1 r31.1.2.2.2 x172) fun r232 =>
    Option.bind (law17_CanonSmall_j3 N aAccept aNodes r31 r223 r232) fun x282 =>
    if x282 = true then
      some false
    else
      Option.bind (part_Classes N r31.1.1 r31.1.2.1 r31.1.2.2.1 r31.1.2.2.2) fun r329 =>
      Option.bind (part_Reached N r31.1.1 r31.1.2.1 r31.1.2.2.1 r31.1.2.2.2) fun r341 =>
      Option.bind (canon_Min N r31.1.1 r31.1.2.1 r31.1.2.2.1 r31.1.2.2.2) fun r353 =>
      Option.bind (canon_Is N r31.1.1 r31.1.2.1 r31.1.2.2.1 r31.1.2.2.2) fun r378 =>
      Option.bind (law17_CanonSmall_j4 N r31 r329 r341 r353 r378) fun x411 =>
      if x411 = true then
        some false
      else
        Option.bind (law17_CanonSmall_l5 N r329 r341 N 0) fun x470 =>
        Sum.elim (fun x475 =>
          some r22)
         (fun x503 =>
          some x503) x470
set_option maxRecDepth 100000 in
set_option maxHeartbeats 4000000 in
theorem law17_CanonSmall_calls {N : Nat} {S Fa : Nat → Prop} {w0 : World} {r : Bool} (A1 : Option Addr) (c2 : Nat) (A5 : Option Addr) (c6 : Nat) (A9 : Option Addr) (c10 : Nat) (A13 : Option Addr) (c14 : Nat) (aProps : Int) (aAccept : List Bool) (aGuard : List Int) (aNodes : List Nd) (t : List Int) (hk3 : List.length aAccept ≤ c2) (hk7 : List.length aGuard ≤ c6) (hk11 : List.length aNodes ≤ c10) (hk15 : List.length t ≤ c14) (H : Hp S Fa w0 w0 [.ro false cBool A1 aAccept, .ro false (cInt .i64) A5 aGuard, .ro false cNode A9 aNodes, .ro false (cInt .u8) A13 t]) (hP : law17_CanonSmall N aProps aAccept aGuard aNodes t = some r) :
    Calls Try.prog 6 #[.agg #[.int .i64 aProps, .slice A1 (List.length aAccept) c2, .slice A5 (List.length aGuard) c6, .slice A9 (List.length aNodes) c10], .slice A13 (List.length t) c14] w0 fun e w' => ∃ v, e = .returned v ∧ v = .bool r ∧ Hp S Fa w0 w' [] := by
 refine enterV (n := 203) Try.func6 rfl rfl rfl ?_
 intro a E
 replace E := E.pick [(0, .agg #[.int .i64 aProps, .slice A1 (List.length aAccept) c2, .slice A5 (List.length aGuard) c6, .slice A9 (List.length aNodes) c10]), (1, .slice A13 (List.length t) c14)] ⟨rfl, rfl, trivial⟩
 rw [law17_CanonSmall] at hP
 refine wp_seq ?_
 refine wp_region_lit ?_
 refine h_box H E rfl rfl rfl ?_
 intro w18 g17 a hc19 hg21 H_ E_
 replace E := E_ _ rfl; clear E_
 replace H := H_; clear H_; try dsimp only [setn, addE, goneL] at H
 refine vr tbok 1 [] [(1, .slice A13 (List.length t) c14), (2, .pointer (some ⟨g17, 0, none⟩))] [] E (by kernel_rfl) trivial ?_
 clear E; intro a E
 refine wpList_nil ?_
 refine th_n ?_
 refine wp_seq ?_
 refine wp_region_lit ?_
 obtain ⟨r22, h23, hP⟩ := bind_inv hP
 obtain ⟨Fa24, Hc25, hb26⟩ := H.call [] [] rfl rfl trivial
 refine e_call E rfl rfl Try.func24 rfl rfl rfl (law17_awake_calls    Hc25 h23) ?_
 rintro v27 w28 a ⟨rfl, HR29⟩ E_
 replace E := E_ _ rfl; clear E_
 obtain ⟨H_, hc30⟩ := hb26 _ _ HR29 rfl
 replace H := H_; clear H_; try dsimp only [setn, addE, goneL] at H
 refine vr tbok 1 [] [(1, .slice A13 (List.length t) c14), (2, .pointer (some ⟨g17, 0, none⟩)), (5, .bool r22)] [] E (by kernel_rfl) trivial ?_
 clear E; intro a E
 refine wpList_nil ?_
 refine th_n ?_
 refine wp_seq ?_
 refine wp_region_lit ?_
 refine vr tbok 1 [.agg #[.int .i64 aProps, .slice A1 (List.length aAccept) c2, .slice A5 (List.length aGuard) c6, .slice A9 (List.length aNodes) c10]] [(1, .slice A13 (List.length t) c14), (2, .pointer (some ⟨g17, 0, none⟩)), (5, .bool r22), (25, .agg #[.int .i64 aProps, .slice A1 (List.length aAccept) c2, .slice A5 (List.length aGuard) c6, .slice A9 (List.length aNodes) c10])] [cellsAt w28 g17 (0) [.int .i64 aProps, .slice A1 (List.length aAccept) c2, .slice A5 (List.length aGuard) c6, .slice A9 (List.length aNodes) c10]] E (by kernel_rfl) ((H.box 4 rfl).sub 0 _ rfl) ?_
 clear E; intro a E
 obtain ⟨r31, h32, hP⟩ := bind_inv hP
 obtain ⟨Fa33, Hc34, hb35⟩ := H.call [] [(0, false), (1, false), (2, false)] rfl rfl trivial
 refine e_call E rfl rfl Try.func17 rfl rfl rfl (canon_Min_calls A1 c2 A5 c6 A9 c10 aProps aAccept aGuard aNodes hk3 hk7 hk11 Hc34 h32) ?_
 rintro v36 w37 a ⟨A40, c41, A43, c44, A46, c47, rfl, HR38⟩ E_
 replace E := E_ _ rfl; clear E_
 obtain ⟨H_, hc39⟩ := hb35 _ _ HR38 rfl
 replace H := H_; clear H_; try dsimp only [setn, addE, goneL] at H
 refine vr tbok 3 [] [(1, .slice A13 (List.length t) c14), (2, .pointer (some ⟨g17, 0, none⟩)), (5, .bool r22), (27, .agg #[.int .i64 r31.1.1, .slice A40 (List.length r31.1.2.1) c41, .slice A43 (List.length r31.1.2.2.1) c44, .slice A46 (List.length r31.1.2.2.2) c47]), (28, .int .i64 r31.2)] [] E (by kernel_rfl) trivial ?_
 clear E; intro a E
 refine h_alloc H E rfl rfl tbok rfl ?_
 intro w50 g49 a hc51 hg53 H_ E_
 replace E := E_ _ rfl; clear E_
 replace H := H_; clear H_; try dsimp only [setn, addE, goneL] at H
 refine h_store (g := g49) (off := 0) H 8 rfl E rfl rfl rfl rfl tbok rfl rfl rfl rfl rfl ?_
 clear E; intro w54 a hc55 H_ E
 replace H := H_; clear H_; try dsimp only [setn, addE, goneL] at H
 refine vr tbok 1 [] [(1, .slice A13 (List.length t) c14), (2, .pointer (some ⟨g17, 0, none⟩)), (5, .bool r22), (6, .pointer (some ⟨g49, 0, none⟩)), (7, .int .i64 r31.2)] [] E (by kernel_rfl) trivial ?_
 clear E; intro a E
 refine wpList_nil ?_
 refine th_n ?_
 refine wp_seq ?_
 refine wp_seq ?_
 obtain ⟨x68, h69, hK70⟩ := bind_inv hP
 clear hP
 refine meet_cut (fun a w72 => ∃ (x71 : Bool), Fr a 203 [(1, .slice A13 (List.length t) c14), (2, .pointer (some ⟨g17, 0, none⟩)), (5, .bool r22), (6, .pointer (some ⟨g49, 0, none⟩)), (35, .bool x71)] ∧ Hp S Fa w0 w72 [.ro false (cInt .u8) A13 t, .ro false cBool A1 aAccept, .ro false (cInt .i64) A5 aGuard, .ro false cNode A9 aNodes, .box g17 26 [.int .i64 aProps, .slice A1 (List.length aAccept) c2, .slice A5 (List.length aGuard) c6, .slice A9 (List.length aNodes) c10], .row true cBool 4 A40 c41 r31.1.2.1, .row true (cInt .i64) 3 A43 c44 r31.1.2.2.1, .row true cNode 57 A46 c47 r31.1.2.2.2, .box g49 26 [.int .i64 r31.1.1, .slice A40 (List.length r31.1.2.1) c41, .slice A43 (List.length r31.1.2.2.1) c44, .slice A46 (List.length r31.1.2.2.2) c47]] ∧ x68 = x71) ?_ ?_
 ·
  have hP := h69; clear h69; rw [law17_CanonSmall_j0] at hP
  refine wp_region_lit ?_
  refine vr tbok 1 [.agg #[.int .i64 aProps, .slice A1 (List.length aAccept) c2, .slice A5 (List.length aGuard) c6, .slice A9 (List.length aNodes) c10]] [(1, .slice A13 (List.length t) c14), (2, .pointer (some ⟨g17, 0, none⟩)), (5, .bool r22), (6, .pointer (some ⟨g49, 0, none⟩)), (7, .int .i64 r31.2), (29, .agg #[.int .i64 aProps, .slice A1 (List.length aAccept) c2, .slice A5 (List.length aGuard) c6, .slice A9 (List.length aNodes) c10])] [cellsAt w54 g17 (0) [.int .i64 aProps, .slice A1 (List.length aAccept) c2, .slice A5 (List.length aGuard) c6, .slice A9 (List.length aNodes) c10]] E (by kernel_rfl) ((H.box 4 rfl).sub 0 _ rfl) ?_
  clear E; intro a E
  obtain ⟨r73, h74, hP⟩ := bind_inv hP
  obtain ⟨Fa75, Hc76, hb77⟩ := H.call [] [(0, false), (1, false), (2, false)] rfl rfl trivial
  refine e_call E rfl rfl Try.func16 rfl rfl rfl (law16_Small_calls A1 c2 A5 c6 A9 c10 aProps aAccept aGuard aNodes hk3 hk7 hk11 Hc76 h74) ?_
  rintro v78 w79 a ⟨rfl, HR80⟩ E_
  replace E := E_ _ rfl; clear E_
  obtain ⟨H_, hc81⟩ := hb77 _ _ HR80 rfl
  replace H := H_; clear H_; try dsimp only [setn, addE, goneL] at H
  refine vr tbok 2 [] [(1, .slice A13 (List.length t) c14), (2, .pointer (some ⟨g17, 0, none⟩)), (5, .bool r22), (6, .pointer (some ⟨g49, 0, none⟩)), (7, .int .i64 r31.2), (32, .bool (!r73))] [] E (by kernel_rfl) trivial ?_
  clear E; intro a E
  refine E.cases (t := 32) rfl (fun hb_ E_ => ?_) (fun hb_ E_ => ?_)
  ·
   replace E := E_; clear E_
   have h82 : ¬ (r73 = true) := (ne_true_of_eq_false (not_t hb_))
   clear hb_; replace hP := ite_f h82 hP
   refine vr tbok 3 [] [(1, .slice A13 (List.length t) c14), (2, .pointer (some ⟨g17, 0, none⟩)), (5, .bool r22), (6, .pointer (some ⟨g49, 0, none⟩)), (35, .bool true)] [] E (by kernel_rfl) trivial ?_
   clear E; intro a E
   refine wpList_nil ?_
   have hx_ := Option.some.inj hP
   exact .inl ⟨rfl, true, E.pick _ ⟨rfl, rfl, rfl, rfl, rfl, trivial⟩, H.sel [3, 0, 1, 2, 4, 5, 6, 7, 8] rfl, hx_.symm⟩
  replace E := E_; clear E_
  have h83 : r73 = true := (not_f hb_)
  clear hb_; replace hP := ite_t h83 hP
  refine vr tbok 3 [] [(1, .slice A13 (List.length t) c14), (2, .pointer (some ⟨g17, 0, none⟩)), (5, .bool r22), (6, .pointer (some ⟨g49, 0, none⟩)), (35, .bool ((r31.2 : Int) != 0))] [] E (by kernel_rfl) trivial ?_
  clear E; intro a E
  refine wpList_nil ?_
  have hx_ := Option.some.inj hP
  exact .inl ⟨rfl, (r31.2 : Int) != 0, E.pick _ ⟨rfl, rfl, rfl, rfl, rfl, trivial⟩, H.sel [3, 0, 1, 2, 4, 5, 6, 7, 8] rfl, hx_.symm⟩
 clear E H h69; rintro a w72 ⟨x71, E, H, hx_⟩
 subst hx_; have hP := hK70; clear hK70
 refine th_n ?_
 refine E.cases (t := 35) rfl (fun hb_ E_ => ?_) (fun hb_ E_ => ?_)
 ·
  replace E := E_; clear E_
  have h84 : x68 = true := hb_
  clear hb_; replace hP := ite_t h84 hP
  refine c_true E rfl ?_
  refine wp_seq ?_
  refine wp_region_lit ?_
  refine vr tbok 2 [] [(4, .bool r22)] [] E (by kernel_rfl) trivial ?_
  clear E; intro a E
  refine wpList_nil ?_
  refine th_n ?_
  refine wp_ret ?_
  refine th_ret ?_
  obtain rfl := Option.some.inj hP
  refine ret1 E rfl rfl ?_
  exact ⟨_, rfl, rfl, H.sel [] rfl⟩
 replace E := E_; clear E_
 have h85 : ¬ (x68 = true) := (ne_true_of_eq_false hb_)
 clear hb_; replace hP := ite_f h85 hP
 refine c_false E rfl ?_
 refine wp_skip ?_
 refine th_n ?_
 refine wp_seq ?_
 refine wp_region_lit ?_
 refine vr tbok 1 [] [(1, .slice A13 (List.length t) c14), (2, .pointer (some ⟨g17, 0, none⟩)), (5, .bool r22), (6, .pointer (some ⟨g49, 0, none⟩)), (8, .slice none 0 0)] [] E (by kernel_rfl) trivial ?_
 clear E; intro a E
 refine wpList_nil ?_
 refine th_n ?_
 refine wp_seq ?_
 refine wp_seq ?_
 refine wp_region_lit ?_
 refine vr tbok 1 [] [(1, .slice A13 (List.length t) c14), (2, .pointer (some ⟨g17, 0, none⟩)), (5, .bool r22), (6, .pointer (some ⟨g49, 0, none⟩)), (8, .slice none 0 0), (9, .int .i64 0)] [] E (by kernel_rfl) trivial ?_
 clear E; intro a E
 refine wpList_nil ?_
 refine th_n ?_
 refine wp_block ?_
 obtain ⟨x172, hL173, hK174⟩ := bind_inv hP
 clear hP
 replace H := H.nilrow (cInt .u8) 27; try dsimp only [setn, addE, goneL] at H
 refine loop_cut (fun i_ a w_ => (i_ = 0 ∧ ∃ (x178 : List Int), ∃ (A169 : Option Addr) (c170 : Nat), Fr a 203 [(2, .pointer (some ⟨g17, 0, none⟩)), (5, .bool r22), (6, .pointer (some ⟨g49, 0, none⟩)), (8, .slice A169 (List.length x178) c170)] ∧ Hp S Fa w0 w_ [.ro false cBool A1 aAccept, .ro false (cInt .i64) A5 aGuard, .ro false cNode A9 aNodes, .box g17 26 [.int .i64 aProps, .slice A1 (List.length aAccept) c2, .slice A5 (List.length aGuard) c6, .slice A9 (List.length aNodes) c10], .row true cBool 4 A40 c41 r31.1.2.1, .row true (cInt .i64) 3 A43 c44 r31.1.2.2.1, .row true cNode 57 A46 c47 r31.1.2.2.2, .box g49 26 [.int .i64 r31.1.1, .slice A40 (List.length r31.1.2.1) c41, .slice A43 (List.length r31.1.2.2.1) c44, .slice A46 (List.length r31.1.2.2.2) c47], .row true (cInt .u8) 27 A169 c170 x178] ∧ x172 = x178)) ?_ ?_
 ·
  refine loopV (fun m177 a w176 => ∃ (few125 : List Int) (i128 : Int), ∃ (A126 : Option Addr) (c127 : Nat), Fr a 203 [(1, .slice A13 (List.length t) c14), (2, .pointer (some ⟨g17, 0, none⟩)), (5, .bool r22), (6, .pointer (some ⟨g49, 0, none⟩)), (8, .slice A126 (List.length few125) c127), (9, .int .i64 i128)] ∧ Hp S Fa w0 w176 [.ro false (cInt .u8) A13 t, .ro false cBool A1 aAccept, .ro false (cInt .i64) A5 aGuard, .ro false cNode A9 aNodes, .box g17 26 [.int .i64 aProps, .slice A1 (List.length aAccept) c2, .slice A5 (List.length aGuard) c6, .slice A9 (List.length aNodes) c10], .row true cBool 4 A40 c41 r31.1.2.1, .row true (cInt .i64) 3 A43 c44 r31.1.2.2.1, .row true cNode 57 A46 c47 r31.1.2.2.2, .box g49 26 [.int .i64 r31.1.1, .slice A40 (List.length r31.1.2.1) c41, .slice A43 (List.length r31.1.2.2.1) c44, .slice A46 (List.length r31.1.2.2.2) c47], .row true (cInt .u8) 27 A126 c127 few125] ∧ law17_CanonSmall_l1 N aProps t m177 few125 i128 = some x172) N ?_ ?_
  ·
   exact ⟨[], 0, none, 0, E.pick _ ⟨rfl, rfl, rfl, rfl, rfl, rfl, trivial⟩, H.sel [0, 1, 2, 3, 4, 5, 6, 7, 8, 9] rfl, hL173⟩
  clear E H hL173; intro m177 a w176 hI_
  obtain ⟨few125, i128, A126, c127, E, H, hP⟩ := hI_
  obtain ⟨m171, rfl⟩ : ∃ q_, m177 = q_ + 1 := by cases m177 with | zero => rw [law17_CanonSmall_l1] at hP; cases hP | succ q_ => exact ⟨q_, rfl⟩
  rw [law17_CanonSmall_l1] at hP
  refine wp_seq ?_
  refine wp_seq ?_
  obtain ⟨x182, h183, hK184⟩ := bind_inv hP
  clear hP
  refine meet_cut (fun a w186 => ∃ (x185 : Bool), Fr a 203 [(1, .slice A13 (List.length t) c14), (2, .pointer (some ⟨g17, 0, none⟩)), (5, .bool r22), (6, .pointer (some ⟨g49, 0, none⟩)), (8, .slice A126 (List.length few125) c127), (9, .int .i64 i128), (44, .bool x185)] ∧ Hp S Fa w0 w186 [.ro false (cInt .u8) A13 t, .ro false cBool A1 aAccept, .ro false (cInt .i64) A5 aGuard, .ro false cNode A9 aNodes, .box g17 26 [.int .i64 aProps, .slice A1 (List.length aAccept) c2, .slice A5 (List.length aGuard) c6, .slice A9 (List.length aNodes) c10], .row true cBool 4 A40 c41 r31.1.2.1, .row true (cInt .i64) 3 A43 c44 r31.1.2.2.1, .row true cNode 57 A46 c47 r31.1.2.2.2, .box g49 26 [.int .i64 r31.1.1, .slice A40 (List.length r31.1.2.1) c41, .slice A43 (List.length r31.1.2.2.1) c44, .slice A46 (List.length r31.1.2.2.2) c47], .row true (cInt .u8) 27 A126 c127 few125] ∧ x182 = x185) ?_ ?_
  ·
   have hP := h183; clear h183; rw [law17_CanonSmall_j2] at hP
   refine wp_region_lit ?_
   refine vr tbok 5 [] [(1, .slice A13 (List.length t) c14), (2, .pointer (some ⟨g17, 0, none⟩)), (5, .bool r22), (6, .pointer (some ⟨g49, 0, none⟩)), (8, .slice A126 (List.length few125) c127), (9, .int .i64 i128), (41, .bool (decide (i128 < (((List.length t) : Nat) : Int))))] [] E (by kernel_rfl) trivial ?_
   clear E; intro a E
   refine E.cases (t := 41) rfl (fun hb_ E_ => ?_) (fun hb_ E_ => ?_)
   ·
    replace E := E_; clear E_
    have h187 : i128 < (((List.length t) : Nat) : Int) := of_decide_eq_true hb_
    clear hb_; replace hP := ite_t h187 hP
    refine vr tbok 3 [] [(1, .slice A13 (List.length t) c14), (2, .pointer (some ⟨g17, 0, none⟩)), (5, .bool r22), (6, .pointer (some ⟨g49, 0, none⟩)), (8, .slice A126 (List.length few125) c127), (9, .int .i64 i128), (44, .bool (decide (i128 < 1024)))] [] E (by kernel_rfl) trivial ?_
    clear E; intro a E
    refine wpList_nil ?_
    have hx_ := Option.some.inj hP
    exact .inl ⟨rfl, decide (i128 < 1024), E.pick _ ⟨rfl, rfl, rfl, rfl, rfl, rfl, rfl, trivial⟩, H.sel [0, 1, 2, 3, 4, 5, 6, 7, 8, 9] rfl, hx_.symm⟩
   replace E := E_; clear E_
   have h188 : ¬ (i128 < (((List.length t) : Nat) : Int)) := of_decide_eq_false hb_
   clear hb_; replace hP := ite_f h188 hP
   refine vr tbok 3 [] [(1, .slice A13 (List.length t) c14), (2, .pointer (some ⟨g17, 0, none⟩)), (5, .bool r22), (6, .pointer (some ⟨g49, 0, none⟩)), (8, .slice A126 (List.length few125) c127), (9, .int .i64 i128), (44, .bool false)] [] E (by kernel_rfl) trivial ?_
   clear E; intro a E
   refine wpList_nil ?_
   have hx_ := Option.some.inj hP
   exact .inl ⟨rfl, false, E.pick _ ⟨rfl, rfl, rfl, rfl, rfl, rfl, rfl, trivial⟩, H.sel [0, 1, 2, 3, 4, 5, 6, 7, 8, 9] rfl, hx_.symm⟩
  clear E H h183; rintro a w186 ⟨x185, E, H, hx_⟩
  subst hx_; have hP := hK184; clear hK184
  refine th_n ?_
  refine E.cases (t := 44) rfl (fun hb_ E_ => ?_) (fun hb_ E_ => ?_)
  ·
   replace E := E_; clear E_
   have h189 : x182 = true := hb_
   clear hb_; replace hP := ite_t h189 hP
   refine c_true E rfl ?_
   refine wp_skip ?_
   refine th_n ?_
   refine wp_seq ?_
   refine wp_block ?_
   obtain ⟨g190, hP⟩ := ask_inv hP
   obtain ⟨b191, o192, e_b191⟩ := (H.rd 0 rds_ro).addr (idx_pos g190)
   subst e_b191
   obtain ⟨g193, hP⟩ := ask_inv hP
   obtain ⟨g199, hP⟩ := ask_inv hP
   have HR208 := H
   refine dr_start (S := fun w_ => Chg (atL [.row true (cInt .u8) 27 A126 c127 few125]) w186 w_) (by kernel_rfl) ?_
   intro w205 hc206
   have HS207 : Chg (atL [.row true (cInt .u8) 27 A126 c127 few125]) w186 w205 := hc206.mono (fun _ _ h_ => h_.elim)
   replace H := H.ext hc206
   refine dr tbok (by kernel_rfl) [0, 1, 2, 3, 4, 5, 6, 7, 8, 9] [.int .u8 (List.getD t (Int.toNat i128) 0), .int .i64 aProps, .int .u8 (shlV .u8 1 aProps), .int .u8 (IntKind.u8.wrap ((shlV .u8 1 aProps) - 1)), .int .u8 (andV .u8 (List.getD t (Int.toNat i128) 0) (IntKind.u8.wrap ((shlV .u8 1 aProps) - 1)))] [(1, .slice (some ⟨b191, o192, none⟩) (List.length t) c14), (2, .pointer (some ⟨g17, 0, none⟩)), (5, .bool r22), (6, .pointer (some ⟨g49, 0, none⟩)), (8, .slice A126 (List.length few125) c127), (9, .int .i64 i128), (47, .slice A126 (List.length few125) c127), (56, .int .u8 (andV .u8 (List.getD t (Int.toNat i128) 0) (IntKind.u8.wrap ((shlV .u8 1 aProps) - 1))))] (fun w_ => [0 ≤ i128 ∧ i128 < (((List.length t) : Nat) : Int), World.cell? w_ ⟨b191, o192 + (Int.toNat i128) * 1, none⟩ = some (.int .u8 (List.getD t (Int.toNat i128) 0)), World.cell? w_ ⟨g17, 0, none⟩ = some (.int .i64 aProps), 0 ≤ aProps ∧ IntKind.u8.wrap (1 * 2 ^ (min (Int.toNat aProps) (IntKind.bits .u8))) = shlV .u8 1 aProps, IntKind.u8.wrap ((shlV .u8 1 aProps) - 1) = IntKind.u8.wrap ((shlV .u8 1 aProps) - 1), IntKind.u8.wrap (BitVec.ofInt (IntKind.bits .u8) (List.getD t (Int.toNat i128) 0) &&& BitVec.ofInt (IntKind.bits .u8) (IntKind.u8.wrap ((shlV .u8 1 aProps) - 1))).toNat = andV .u8 (List.getD t (Int.toNat i128) 0) (IntKind.u8.wrap ((shlV .u8 1 aProps) - 1))]) 3 E (fun _ _ => by kernel_rfl) (fun w_ hS_ => ⟨g190, Rds.at1 (HR208.rdk [9] hS_ 0 rds_ro rfl) 0 g190, (HR208.boxk [9] hS_ 4 rfl rfl).cell (j := 0) rfl, ⟨g193, rfl⟩, rfl, rfl⟩) (by kernel_rfl) HS207 ?_
   clear E; intro a E
   refine wpAnyH_all (rs := [10]) (by kernel_rfl) (by simp) ?_
   refine all1 ?_
   refine wpOp_of_list rfl ?_
   refine h_buildSlice (ps := [(0, .int .u8 (andV .u8 (List.getD t (Int.toNat i128) 0) (IntKind.u8.wrap ((shlV .u8 1 aProps) - 1))))]) (cs := [.int .u8 (andV .u8 (List.getD t (Int.toNat i128) 0) (IntKind.u8.wrap ((shlV .u8 1 aProps) - 1)))]) H E rfl rfl tbok rfl rfl (by kernel_rfl) ?_
   intro w210 g209 a hc211 hg213 H_ E_
   replace E := E_ _ rfl; clear E_
   have hin214 : ∀ q_, q_ < w186.heap.size → q_ = g209 → (atL [.row true (cInt .u8) 27 A126 c127 few125]) q_ := fun q_ h1_ h2_ => by have hs_ := HS207.size; have h4_ : q_ = g209 := h2_; exfalso; omega
   replace HS207 := HS207.ext hc211
   replace H := H_; clear H_; try dsimp only [setn, addE, goneL] at H
   refine wpList_nil ?_
   refine th_n ⟨HS207, ?_⟩
   refine wpAnyH_all (rs := [11]) (by kernel_rfl) (by simp) ?_
   refine all1 ?_
   refine wpOp_of_list rfl ?_
   refine h_append (cInt .u8) (xs := few125) (ys := ([andV .u8 (List.getD t (Int.toNat i128) 0) (IntKind.u8.wrap ((shlV .u8 1 aProps) - 1))] : List Int)) (0 : Int) H 9 rfl E rfl rfl tbok rfl rfl rfl rfl rfl (fun _ _ => rfl) rfl rfl (fun _ HF_ => HF_.srcB 10 rfl (⟨_, _, rfl, rfl, rfl⟩)) g199 ?_
   intro w215 A216 c217 a hc218 hA219 H_ E_
   replace E := E_ _ rfl; clear E_
   have hin220 : ∀ q_, q_ < w186.heap.size → At A216 q_ → (atL [.row true (cInt .u8) 27 A126 c127 few125]) q_ := fun q_ h1_ h2_ => (hA219 q_ h2_).elim ((fun _ _ h_ => Or.inl h_) q_ h1_) (fun h3_ => by have hs_ := HS207.size; exfalso; omega)
   replace HS207 := HS207.trans hc218 (fun k_ hk_ h_ => (fun _ _ h_ => Or.inl h_) k_ hk_ h_)
   replace H := H_; clear H_; try dsimp only [setn, addE, goneL] at H
   refine wpList_nil ?_
   refine th_n ⟨HS207, ?_⟩
   refine dr tbok (by kernel_rfl) [12] [] [(1, .slice (some ⟨b191, o192, none⟩) (List.length t) c14), (2, .pointer (some ⟨g17, 0, none⟩)), (5, .bool r22), (6, .pointer (some ⟨g49, 0, none⟩)), (8, .slice A216 (List.length (few125 ++ ([andV .u8 (List.getD t (Int.toNat i128) 0) (IntKind.u8.wrap ((shlV .u8 1 aProps) - 1))] : List Int))) c217), (9, .int .i64 i128)] (fun w_ => []) 0 E (fun _ _ => by kernel_rfl) (fun w_ hS_ => trivial) (by kernel_rfl) HS207 ?_
   clear E; intro a E
   refine dr_done (by kernel_rfl) ?_
   clear HS207 HR208
   refine bl_n ?_
   refine th_n ?_
   refine wp_region_lit ?_
   obtain ⟨g221, hP⟩ := ask_inv hP
   refine vr tbok 3 [.int .i64 (i128 + 1)] [(1, .slice (some ⟨b191, o192, none⟩) (List.length t) c14), (2, .pointer (some ⟨g17, 0, none⟩)), (5, .bool r22), (6, .pointer (some ⟨g49, 0, none⟩)), (8, .slice A216 (List.length (few125 ++ ([andV .u8 (List.getD t (Int.toNat i128) 0) (IntKind.u8.wrap ((shlV .u8 1 aProps) - 1))] : List Int))) c217), (9, .int .i64 (i128 + 1))] [IntKind.i64.wrap (i128 + 1) = i128 + 1] E (by kernel_rfl) (wrap_in g221) ?_
   clear E; intro a E
   refine wpList_nil ?_
   exact th_n ⟨m171, Nat.lt_succ_self _, few125 ++ ([andV .u8 (List.getD t (Int.toNat i128) 0) (IntKind.u8.wrap ((shlV .u8 1 aProps) - 1))] : List Int), i128 + 1, A216, c217, E.pick _ ⟨rfl, rfl, rfl, rfl, rfl, rfl, trivial⟩, H.sel [0, 1, 2, 3, 4, 5, 6, 7, 8, 9] rfl, hP⟩
  replace E := E_; clear E_
  have h222 : ¬ (x182 = true) := (ne_true_of_eq_false hb_)
  clear hb_; replace hP := ite_f h222 hP
  refine c_false E rfl ?_
  refine wp_exit ?_
  refine th_exit ?_
  have hx_ := Option.some.inj hP
  refine th_exit (.inl ⟨0, rfl, ?_⟩)
  exact ⟨rfl, few125, A126, c127, E.pick _ ⟨rfl, rfl, rfl, rfl, trivial⟩, H.sel [1, 2, 3, 4, 5, 6, 7, 8, 9] rfl, hx_.symm⟩
 clear E H hL173; intro i_ a w176 hM_
 obtain ⟨rfl, x178, A169, c170, E, H, hx_⟩ := hM_
 subst hx_; have hP := hK174; clear hK174
 refine bl_hit ?_
 refine th_n ?_
 refine wp_seq ?_
 refine wp_region_lit ?_
 refine vr tbok 2 [.agg #[.int .i64 aProps, .slice A1 (List.length aAccept) c2, .slice A5 (List.length aGuard) c6, .slice A9 (List.length aNodes) c10]] [(2, .pointer (some ⟨g17, 0, none⟩)), (5, .bool r22), (6, .pointer (some ⟨g49, 0, none⟩)), (8, .slice A169 (List.length x172) c170), (60, .agg #[.int .i64 aProps, .slice A1 (List.length aAccept) c2, .slice A5 (List.length aGuard) c6, .slice A9 (List.length aNodes) c10]), (61, .slice A169 (List.length x172) c170)] [cellsAt w176 g17 (0) [.int .i64 aProps, .slice A1 (List.length aAccept) c2, .slice A5 (List.length aGuard) c6, .slice A9 (List.length aNodes) c10]] E (by kernel_rfl) ((H.box 3 rfl).sub 0 _ rfl) ?_
 clear E; intro a E
 obtain ⟨r223, h224, hP⟩ := bind_inv hP
 obtain ⟨Fa225, Hc226, hb227⟩ := H.call [] [(0, false), (1, false), (2, false), (8, false)] rfl rfl trivial
 refine e_call E rfl rfl Try.func12 rfl rfl rfl (canon_Run_calls A1 c2 A5 c6 A9 c10 A169 c170 aProps aAccept aGuard aNodes x172 hk3 hk7 hk11 (H.rcap 8 rfl) Hc226 h224) ?_
 rintro v228 w229 a ⟨rfl, HR230⟩ E_
 replace E := E_ _ rfl; clear E_
 obtain ⟨H_, hc231⟩ := hb227 _ _ HR230 rfl
 replace H := H_; clear H_; try dsimp only [setn, addE, goneL] at H
 refine vr tbok 5 [] [(2, .pointer (some ⟨g17, 0, none⟩)), (5, .bool r22), (6, .pointer (some ⟨g49, 0, none⟩)), (8, .slice A169 (List.length x172) c170), (10, .int .i64 r223.1), (11, .int .i64 r223.2)] [] E (by kernel_rfl) trivial ?_
 clear E; intro a E
 refine wpList_nil ?_
 refine th_n ?_
 refine wp_seq ?_
 refine wp_region_lit ?_
 refine vr tbok 2 [.agg #[.int .i64 r31.1.1, .slice A40 (List.length r31.1.2.1) c41, .slice A43 (List.length r31.1.2.2.1) c44, .slice A46 (List.length r31.1.2.2.2) c47]] [(2, .pointer (some ⟨g17, 0, none⟩)), (5, .bool r22), (6, .pointer (some ⟨g49, 0, none⟩)), (10, .int .i64 r223.1), (11, .int .i64 r223.2), (66, .agg #[.int .i64 r31.1.1, .slice A40 (List.length r31.1.2.1) c41, .slice A43 (List.length r31.1.2.2.1) c44, .slice A46 (List.length r31.1.2.2.2) c47]), (67, .slice A169 (List.length x172) c170)] [cellsAt w229 g49 (0) [.int .i64 r31.1.1, .slice A40 (List.length r31.1.2.1) c41, .slice A43 (List.length r31.1.2.2.1) c44, .slice A46 (List.length r31.1.2.2.2) c47]] E (by kernel_rfl) ((H.box 7 rfl).sub 0 _ rfl) ?_
 clear E; intro a E
 obtain ⟨r232, h233, hP⟩ := bind_inv hP
 obtain ⟨Fa234, Hc235, hb236⟩ := H.call [] [(4, false), (5, false), (6, false), (8, false)] rfl rfl trivial
 refine e_call E rfl rfl Try.func12 rfl rfl rfl (canon_Run_calls A40 c41 A43 c44 A46 c47 A169 c170 r31.1.1 r31.1.2.1 r31.1.2.2.1 r31.1.2.2.2 x172 (H.rcap 4 rfl) (H.rcap 5 rfl) (H.rcap 6 rfl) (H.rcap 8 rfl) Hc235 h233) ?_
 rintro v237 w238 a ⟨rfl, HR239⟩ E_
 replace E := E_ _ rfl; clear E_
 obtain ⟨H_, hc240⟩ := hb236 _ _ HR239 rfl
 replace H := H_; clear H_; try dsimp only [setn, addE, goneL] at H
 refine vr tbok 5 [] [(2, .pointer (some ⟨g17, 0, none⟩)), (5, .bool r22), (6, .pointer (some ⟨g49, 0, none⟩)), (10, .int .i64 r223.1), (11, .int .i64 r223.2), (12, .int .i64 r232.1), (13, .int .i64 r232.2)] [] E (by kernel_rfl) trivial ?_
 clear E; intro a E
 refine wpList_nil ?_
 refine th_n ?_
 refine wp_seq ?_
 refine wp_seq ?_
 obtain ⟨x282, h283, hK284⟩ := bind_inv hP
 clear hP
 refine meet_cut (fun a w286 => ∃ (x285 : Bool), Fr a 203 [(5, .bool r22), (6, .pointer (some ⟨g49, 0, none⟩)), (121, .bool x285)] ∧ Hp S Fa w0 w286 [.row true cBool 4 A40 c41 r31.1.2.1, .row true (cInt .i64) 3 A43 c44 r31.1.2.2.1, .row true cNode 57 A46 c47 r31.1.2.2.2, .box g49 26 [.int .i64 r31.1.1, .slice A40 (List.length r31.1.2.1) c41, .slice A43 (List.length r31.1.2.2.1) c44, .slice A46 (List.length r31.1.2.2.2) c47]] ∧ x282 = x285) ?_ ?_
 ·
  have hP := h283; clear h283; rw [law17_CanonSmall_j3] at hP
  by_cases h287 : (r223.2 : Int) = 0
  ·
   replace hP := ite_t h287 hP
   by_cases h288 : (r232.2 : Int) = 0
   ·
    replace hP := ite_t h288 hP
    by_cases h289 : (((List.length aAccept) : Nat) : Int) ≤ r223.1
    ·
     replace hP := ite_t h289 hP
     have HR293 := H
     refine dr_start (S := fun w_ => Chg (atL []) w238 w_) (by kernel_rfl) ?_
     intro w290 hc291
     have HS292 : Chg (atL []) w238 w290 := hc291.mono (fun _ _ h_ => h_.elim)
     replace H := H.ext hc291
     refine dr tbok (by kernel_rfl) [0, 1, 2] [] [(2, .pointer (some ⟨g17, 0, none⟩)), (5, .bool r22), (6, .pointer (some ⟨g49, 0, none⟩)), (10, .int .i64 r223.1), (12, .int .i64 r232.1), (13, .int .i64 r232.2), (73, .bool ((r223.2 : Int) != 0))] (fun w_ => []) 48 E (fun _ _ => by kernel_rfl) (fun w_ hS_ => trivial) (by kernel_rfl) HS292 ?_
     clear E; intro a E
     replace E := E.same (t := 73) (u := .bool false) rfl (congrArg Value.bool (bne_eq_false_iff_eq.2 h287))
     refine dr tbok (by kernel_rfl) [3, 4, 5, 6] [] [(2, .pointer (some ⟨g17, 0, none⟩)), (5, .bool r22), (6, .pointer (some ⟨g49, 0, none⟩)), (10, .int .i64 r223.1), (12, .int .i64 r232.1), (73, .bool false), (77, .bool ((r232.2 : Int) != 0))] (fun w_ => []) 44 E (fun _ _ => by kernel_rfl) (fun w_ hS_ => trivial) (by kernel_rfl) HS292 ?_
     clear E; intro a E
     replace E := E.same (t := 77) (u := .bool false) rfl (congrArg Value.bool (bne_eq_false_iff_eq.2 h288))
     refine dr tbok (by kernel_rfl) [7, 8, 9, 10, 11, 12, 13] [.slice A1 (List.length aAccept) c2] [(2, .pointer (some ⟨g17, 0, none⟩)), (5, .bool r22), (6, .pointer (some ⟨g49, 0, none⟩)), (10, .int .i64 r223.1), (12, .int .i64 r232.1), (73, .bool false), (77, .bool false), (84, .bool (decide ((((List.length aAccept) : Nat) : Int) ≤ r223.1)))] (fun w_ => [World.cell? w_ ⟨g17, 1, none⟩ = some (.slice A1 (List.length aAccept) c2)]) 37 E (fun _ _ => by kernel_rfl) (fun w_ hS_ => ((HR293.boxk [] hS_ 3 rfl rfl).cell (j := 1) rfl)) (by kernel_rfl) HS292 ?_
     clear E; intro a E
     replace E := E.same (t := 84) (u := .bool true) rfl (congrArg Value.bool (decide_eq_true h289))
     refine dr tbok (by kernel_rfl) [14, 15, 16, 17, 18, 19, 20, 21, 22, 23, 24, 25, 26, 27, 28, 29, 30, 31, 32, 33, 34, 35, 36, 37, 38, 39, 40, 41, 42, 43, 44, 45, 46, 47, 48, 49, 50] [] [(5, .bool r22), (6, .pointer (some ⟨g49, 0, none⟩)), (73, .bool false), (77, .bool false), (84, .bool true), (121, .bool true)] (fun w_ => []) 0 E (fun _ _ => by kernel_rfl) (fun w_ hS_ => trivial) (by kernel_rfl) HS292 ?_
     clear E; intro a E
     refine dr_done (by kernel_rfl) ?_
     clear HS292 HR293
     have hx_ := Option.some.inj hP
     exact .inl ⟨rfl, true, E.pick _ ⟨rfl, rfl, rfl, trivial⟩, H.sel [4, 5, 6, 7] rfl, hx_.symm⟩
    replace hP := ite_f h289 hP
    by_cases h294 : (((List.length r31.1.2.1) : Nat) : Int) ≤ r232.1
    ·
     replace hP := ite_t h294 hP
     have HR298 := H
     refine dr_start (S := fun w_ => Chg (atL []) w238 w_) (by kernel_rfl) ?_
     intro w295 hc296
     have HS297 : Chg (atL []) w238 w295 := hc296.mono (fun _ _ h_ => h_.elim)
     replace H := H.ext hc296
     refine dr tbok (by kernel_rfl) [0, 1, 2] [] [(2, .pointer (some ⟨g17, 0, none⟩)), (5, .bool r22), (6, .pointer (some ⟨g49, 0, none⟩)), (10, .int .i64 r223.1), (12, .int .i64 r232.1), (13, .int .i64 r232.2), (73, .bool ((r223.2 : Int) != 0))] (fun w_ => []) 48 E (fun _ _ => by kernel_rfl) (fun w_ hS_ => trivial) (by kernel_rfl) HS297 ?_
     clear E; intro a E
     replace E := E.same (t := 73) (u := .bool false) rfl (congrArg Value.bool (bne_eq_false_iff_eq.2 h287))
     refine dr tbok (by kernel_rfl) [3, 4, 5, 6] [] [(2, .pointer (some ⟨g17, 0, none⟩)), (5, .bool r22), (6, .pointer (some ⟨g49, 0, none⟩)), (10, .int .i64 r223.1), (12, .int .i64 r232.1), (73, .bool false), (77, .bool ((r232.2 : Int) != 0))] (fun w_ => []) 44 E (fun _ _ => by kernel_rfl) (fun w_ hS_ => trivial) (by kernel_rfl) HS297 ?_
     clear E; intro a E
     replace E := E.same (t := 77) (u := .bool false) rfl (congrArg Value.bool (bne_eq_false_iff_eq.2 h288))
     refine dr tbok (by kernel_rfl) [7, 8, 9, 10, 11, 12, 13] [.slice A1 (List.length aAccept) c2] [(2, .pointer (some ⟨g17, 0, none⟩)), (5, .bool r22), (6, .pointer (some ⟨g49, 0, none⟩)), (10, .int .i64 r223.1), (12, .int .i64 r232.1), (73, .bool false), (77, .bool false), (84, .bool (decide ((((List.length aAccept) : Nat) : Int) ≤ r223.1)))] (fun w_ => [World.cell? w_ ⟨g17, 1, none⟩ = some (.slice A1 (List.length aAccept) c2)]) 37 E (fun _ _ => by kernel_rfl) (fun w_ hS_ => ((HR298.boxk [] hS_ 3 rfl rfl).cell (j := 1) rfl)) (by kernel_rfl) HS297 ?_
     clear E; intro a E
     replace E := E.same (t := 84) (u := .bool false) rfl (congrArg Value.bool (decide_eq_false h289))
     refine dr tbok (by kernel_rfl) [14, 15, 16, 17, 18, 19, 20] [.slice A40 (List.length r31.1.2.1) c41] [(2, .pointer (some ⟨g17, 0, none⟩)), (5, .bool r22), (6, .pointer (some ⟨g49, 0, none⟩)), (10, .int .i64 r223.1), (12, .int .i64 r232.1), (73, .bool false), (77, .bool false), (84, .bool false), (91, .bool (decide ((((List.length r31.1.2.1) : Nat) : Int) ≤ r232.1)))] (fun w_ => [World.cell? w_ ⟨g49, 1, none⟩ = some (.slice A40 (List.length r31.1.2.1) c41)]) 30 E (fun _ _ => by kernel_rfl) (fun w_ hS_ => ((HR298.boxk [] hS_ 7 rfl rfl).cell (j := 1) rfl)) (by kernel_rfl) HS297 ?_
     clear E; intro a E
     replace E := E.same (t := 91) (u := .bool true) rfl (congrArg Value.bool (decide_eq_true h294))
     refine dr tbok (by kernel_rfl) [21, 22, 23, 24, 25, 26, 27, 28, 29, 30, 31, 32, 33, 34, 35, 36, 37, 38, 39, 40, 41, 42, 43, 44, 45, 46, 47, 48, 49, 50] [] [(5, .bool r22), (6, .pointer (some ⟨g49, 0, none⟩)), (73, .bool false), (77, .bool false), (84, .bool false), (91, .bool true), (121, .bool true)] (fun w_ => []) 0 E (fun _ _ => by kernel_rfl) (fun w_ hS_ => trivial) (by kernel_rfl) HS297 ?_
     clear E; intro a E
     refine dr_done (by kernel_rfl) ?_
     clear HS297 HR298
     have hx_ := Option.some.inj hP
     exact .inl ⟨rfl, true, E.pick _ ⟨rfl, rfl, rfl, trivial⟩, H.sel [4, 5, 6, 7] rfl, hx_.symm⟩
    replace hP := ite_f h294 hP
    obtain ⟨g299, hP⟩ := ask_inv hP
    obtain ⟨b300, o301, e_b300⟩ := (H.rd 0 rds_ro).addr (idx_pos g299)
    subst e_b300
    obtain ⟨g302, hP⟩ := ask_inv hP
    obtain ⟨b303, e_b303⟩ := H.raddr 4 rfl (idx_pos g302)
    subst e_b303
    by_cases h305 : (List.getD aAccept (Int.toNat r223.1) false) = (List.getD r31.1.2.1 (Int.toNat r232.1) false)
    ·
     replace hP := ite_t h305 hP
     by_cases h306 : (((List.length aAccept) : Nat) : Int) < (((List.length r31.1.2.1) : Nat) : Int)
     ·
      replace hP := ite_t h306 hP
      have HR310 := H
      refine dr_start (S := fun w_ => Chg (atL []) w238 w_) (by kernel_rfl) ?_
      intro w307 hc308
      have HS309 : Chg (atL []) w238 w307 := hc308.mono (fun _ _ h_ => h_.elim)
      replace H := H.ext hc308
      refine dr tbok (by kernel_rfl) [0, 1, 2] [] [(2, .pointer (some ⟨g17, 0, none⟩)), (5, .bool r22), (6, .pointer (some ⟨g49, 0, none⟩)), (10, .int .i64 r223.1), (12, .int .i64 r232.1), (13, .int .i64 r232.2), (73, .bool ((r223.2 : Int) != 0))] (fun w_ => []) 48 E (fun _ _ => by kernel_rfl) (fun w_ hS_ => trivial) (by kernel_rfl) HS309 ?_
      clear E; intro a E
      replace E := E.same (t := 73) (u := .bool false) rfl (congrArg Value.bool (bne_eq_false_iff_eq.2 h287))
      refine dr tbok (by kernel_rfl) [3, 4, 5, 6] [] [(2, .pointer (some ⟨g17, 0, none⟩)), (5, .bool r22), (6, .pointer (some ⟨g49, 0, none⟩)), (10, .int .i64 r223.1), (12, .int .i64 r232.1), (73, .bool false), (77, .bool ((r232.2 : Int) != 0))] (fun w_ => []) 44 E (fun _ _ => by kernel_rfl) (fun w_ hS_ => trivial) (by kernel_rfl) HS309 ?_
      clear E; intro a E
      replace E := E.same (t := 77) (u := .bool false) rfl (congrArg Value.bool (bne_eq_false_iff_eq.2 h288))
      refine dr tbok (by kernel_rfl) [7, 8, 9, 10, 11, 12, 13] [.slice (some ⟨b300, o301, none⟩) (List.length aAccept) c2] [(2, .pointer (some ⟨g17, 0, none⟩)), (5, .bool r22), (6, .pointer (some ⟨g49, 0, none⟩)), (10, .int .i64 r223.1), (12, .int .i64 r232.1), (73, .bool false), (77, .bool false), (84, .bool (decide ((((List.length aAccept) : Nat) : Int) ≤ r223.1)))] (fun w_ => [World.cell? w_ ⟨g17, 1, none⟩ = some (.slice (some ⟨b300, o301, none⟩) (List.length aAccept) c2)]) 37 E (fun _ _ => by kernel_rfl) (fun w_ hS_ => ((HR310.boxk [] hS_ 3 rfl rfl).cell (j := 1) rfl)) (by kernel_rfl) HS309 ?_
      clear E; intro a E
      replace E := E.same (t := 84) (u := .bool false) rfl (congrArg Value.bool (decide_eq_false h289))
      refine dr tbok (by kernel_rfl) [14, 15, 16, 17, 18, 19, 20] [.slice (some ⟨b303, 0, none⟩) (List.length r31.1.2.1) c41] [(2, .pointer (some ⟨g17, 0, none⟩)), (5, .bool r22), (6, .pointer (some ⟨g49, 0, none⟩)), (10, .int .i64 r223.1), (12, .int .i64 r232.1), (73, .bool false), (77, .bool false), (84, .bool false), (91, .bool (decide ((((List.length r31.1.2.1) : Nat) : Int) ≤ r232.1)))] (fun w_ => [World.cell? w_ ⟨g49, 1, none⟩ = some (.slice (some ⟨b303, 0, none⟩) (List.length r31.1.2.1) c41)]) 30 E (fun _ _ => by kernel_rfl) (fun w_ hS_ => ((HR310.boxk [] hS_ 7 rfl rfl).cell (j := 1) rfl)) (by kernel_rfl) HS309 ?_
      clear E; intro a E
      replace E := E.same (t := 91) (u := .bool false) rfl (congrArg Value.bool (decide_eq_false h294))
      refine dr tbok (by kernel_rfl) [21, 22, 23, 24, 25, 26, 27, 28, 29, 30, 31, 32, 33] [.slice (some ⟨b300, o301, none⟩) (List.length aAccept) c2, .bool (List.getD aAccept (Int.toNat r223.1) false), .slice (some ⟨b303, 0, none⟩) (List.length r31.1.2.1) c41, .bool (List.getD r31.1.2.1 (Int.toNat r232.1) false)] [(2, .pointer (some ⟨g17, 0, none⟩)), (5, .bool r22), (6, .pointer (some ⟨g49, 0, none⟩)), (73, .bool false), (77, .bool false), (84, .bool false), (91, .bool false), (104, .bool (!((List.getD aAccept (Int.toNat r223.1) false) == (List.getD r31.1.2.1 (Int.toNat r232.1) false))))] (fun w_ => [World.cell? w_ ⟨g17, 1, none⟩ = some (.slice (some ⟨b300, o301, none⟩) (List.length aAccept) c2), 0 ≤ r223.1 ∧ r223.1 < (((List.length aAccept) : Nat) : Int), World.cell? w_ ⟨b300, o301 + (Int.toNat r223.1) * 1, none⟩ = some (.bool (List.getD aAccept (Int.toNat r223.1) false)), World.cell? w_ ⟨g49, 1, none⟩ = some (.slice (some ⟨b303, 0, none⟩) (List.length r31.1.2.1) c41), 0 ≤ r232.1 ∧ r232.1 < (((List.length r31.1.2.1) : Nat) : Int), World.cell? w_ ⟨b303, 0 + (Int.toNat r232.1) * 1, none⟩ = some (.bool (List.getD r31.1.2.1 (Int.toNat r232.1) false))]) 17 E (fun _ _ => by kernel_rfl) (fun w_ hS_ => ⟨(HR310.boxk [] hS_ 3 rfl rfl).cell (j := 1) rfl, g299, Rds.at1 (HR310.rdk [] hS_ 0 rds_ro rfl) false g299, (HR310.boxk [] hS_ 7 rfl rfl).cell (j := 1) rfl, g302, Rds.at1 (HR310.rdk [] hS_ 4 rds_row rfl) false g302⟩) (by kernel_rfl) HS309 ?_
      clear E; intro a E
      replace E := E.same (t := 104) (u := .bool false) rfl (congrArg Value.bool (by simpa using h305))
      refine dr tbok (by kernel_rfl) [34, 35, 36, 37, 38, 39, 40, 41, 42] [.slice (some ⟨b303, 0, none⟩) (List.length r31.1.2.1) c41, .slice (some ⟨b300, o301, none⟩) (List.length aAccept) c2] [(2, .pointer (some ⟨g17, 0, none⟩)), (5, .bool r22), (6, .pointer (some ⟨g49, 0, none⟩)), (73, .bool false), (77, .bool false), (84, .bool false), (91, .bool false), (104, .bool false), (113, .bool (decide ((((List.length aAccept) : Nat) : Int) < (((List.length r31.1.2.1) : Nat) : Int))))] (fun w_ => [World.cell? w_ ⟨g49, 1, none⟩ = some (.slice (some ⟨b303, 0, none⟩) (List.length r31.1.2.1) c41), World.cell? w_ ⟨g17, 1, none⟩ = some (.slice (some ⟨b300, o301, none⟩) (List.length aAccept) c2)]) 8 E (fun _ _ => by kernel_rfl) (fun w_ hS_ => ⟨(HR310.boxk [] hS_ 7 rfl rfl).cell (j := 1) rfl, (HR310.boxk [] hS_ 3 rfl rfl).cell (j := 1) rfl⟩) (by kernel_rfl) HS309 ?_
      clear E; intro a E
      replace E := E.same (t := 113) (u := .bool true) rfl (congrArg Value.bool (decide_eq_true h306))
      refine dr tbok (by kernel_rfl) [43, 44, 45, 46, 47, 48, 49, 50] [] [(5, .bool r22), (6, .pointer (some ⟨g49, 0, none⟩)), (73, .bool false), (77, .bool false), (84, .bool false), (91, .bool false), (104, .bool false), (113, .bool true), (121, .bool true)] (fun w_ => []) 0 E (fun _ _ => by kernel_rfl) (fun w_ hS_ => trivial) (by kernel_rfl) HS309 ?_
      clear E; intro a E
      refine dr_done (by kernel_rfl) ?_
      clear HS309 HR310
      have hx_ := Option.some.inj hP
      exact .inl ⟨rfl, true, E.pick _ ⟨rfl, rfl, rfl, trivial⟩, H.sel [4, 5, 6, 7] rfl, hx_.symm⟩
     replace hP := ite_f h306 hP
     have HR314 := H
     refine dr_start (S := fun w_ => Chg (atL []) w238 w_) (by kernel_rfl) ?_
     intro w311 hc312
     have HS313 : Chg (atL []) w238 w311 := hc312.mono (fun _ _ h_ => h_.elim)
     replace H := H.ext hc312
     refine dr tbok (by kernel_rfl) [0, 1, 2] [] [(2, .pointer (some ⟨g17, 0, none⟩)), (5, .bool r22), (6, .pointer (some ⟨g49, 0, none⟩)), (10, .int .i64 r223.1), (12, .int .i64 r232.1), (13, .int .i64 r232.2), (73, .bool ((r223.2 : Int) != 0))] (fun w_ => []) 48 E (fun _ _ => by kernel_rfl) (fun w_ hS_ => trivial) (by kernel_rfl) HS313 ?_
     clear E; intro a E
     replace E := E.same (t := 73) (u := .bool false) rfl (congrArg Value.bool (bne_eq_false_iff_eq.2 h287))
     refine dr tbok (by kernel_rfl) [3, 4, 5, 6] [] [(2, .pointer (some ⟨g17, 0, none⟩)), (5, .bool r22), (6, .pointer (some ⟨g49, 0, none⟩)), (10, .int .i64 r223.1), (12, .int .i64 r232.1), (73, .bool false), (77, .bool ((r232.2 : Int) != 0))] (fun w_ => []) 44 E (fun _ _ => by kernel_rfl) (fun w_ hS_ => trivial) (by kernel_rfl) HS313 ?_
     clear E; intro a E
     replace E := E.same (t := 77) (u := .bool false) rfl (congrArg Value.bool (bne_eq_false_iff_eq.2 h288))
     refine dr tbok (by kernel_rfl) [7, 8, 9, 10, 11, 12, 13] [.slice (some ⟨b300, o301, none⟩) (List.length aAccept) c2] [(2, .pointer (some ⟨g17, 0, none⟩)), (5, .bool r22), (6, .pointer (some ⟨g49, 0, none⟩)), (10, .int .i64 r223.1), (12, .int .i64 r232.1), (73, .bool false), (77, .bool false), (84, .bool (decide ((((List.length aAccept) : Nat) : Int) ≤ r223.1)))] (fun w_ => [World.cell? w_ ⟨g17, 1, none⟩ = some (.slice (some ⟨b300, o301, none⟩) (List.length aAccept) c2)]) 37 E (fun _ _ => by kernel_rfl) (fun w_ hS_ => ((HR314.boxk [] hS_ 3 rfl rfl).cell (j := 1) rfl)) (by kernel_rfl) HS313 ?_
     clear E; intro a E
     replace E := E.same (t := 84) (u := .bool false) rfl (congrArg Value.bool (decide_eq_false h289))
     refine dr tbok (by kernel_rfl) [14, 15, 16, 17, 18, 19, 20] [.slice (some ⟨b303, 0, none⟩) (List.length r31.1.2.1) c41] [(2, .pointer (some ⟨g17, 0, none⟩)), (5, .bool r22), (6, .pointer (some ⟨g49, 0, none⟩)), (10, .int .i64 r223.1), (12, .int .i64 r232.1), (73, .bool false), (77, .bool false), (84, .bool false), (91, .bool (decide ((((List.length r31.1.2.1) : Nat) : Int) ≤ r232.1)))] (fun w_ => [World.cell? w_ ⟨g49, 1, none⟩ = some (.slice (some ⟨b303, 0, none⟩) (List.length r31.1.2.1) c41)]) 30 E (fun _ _ => by kernel_rfl) (fun w_ hS_ => ((HR314.boxk [] hS_ 7 rfl rfl).cell (j := 1) rfl)) (by kernel_rfl) HS313 ?_
     clear E; intro a E
     replace E := E.same (t := 91) (u := .bool false) rfl (congrArg Value.bool (decide_eq_false h294))
     refine dr tbok (by kernel_rfl) [21, 22, 23, 24, 25, 26, 27, 28, 29, 30, 31, 32, 33] [.slice (some ⟨b300, o301, none⟩) (List.length aAccept) c2, .bool (List.getD aAccept (Int.toNat r223.1) false), .slice (some ⟨b303, 0, none⟩) (List.length r31.1.2.1) c41, .bool (List.getD r31.1.2.1 (Int.toNat r232.1) false)] [(2, .pointer (some ⟨g17, 0, none⟩)), (5, .bool r22), (6, .pointer (some ⟨g49, 0, none⟩)), (73, .bool false), (77, .bool false), (84, .bool false), (91, .bool false), (104, .bool (!((List.getD aAccept (Int.toNat r223.1) false) == (List.getD r31.1.2.1 (Int.toNat r232.1) false))))] (fun w_ => [World.cell? w_ ⟨g17, 1, none⟩ = some (.slice (some ⟨b300, o301, none⟩) (List.length aAccept) c2), 0 ≤ r223.1 ∧ r223.1 < (((List.length aAccept) : Nat) : Int), World.cell? w_ ⟨b300, o301 + (Int.toNat r223.1) * 1, none⟩ = some (.bool (List.getD aAccept (Int.toNat r223.1) false)), World.cell? w_ ⟨g49, 1, none⟩ = some (.slice (some ⟨b303, 0, none⟩) (List.length r31.1.2.1) c41), 0 ≤ r232.1 ∧ r232.1 < (((List.length r31.1.2.1) : Nat) : Int), World.cell? w_ ⟨b303, 0 + (Int.toNat r232.1) * 1, none⟩ = some (.bool (List.getD r31.1.2.1 (Int.toNat r232.1) false))]) 17 E (fun _ _ => by kernel_rfl) (fun w_ hS_ => ⟨(HR314.boxk [] hS_ 3 rfl rfl).cell (j := 1) rfl, g299, Rds.at1 (HR314.rdk [] hS_ 0 rds_ro rfl) false g299, (HR314.boxk [] hS_ 7 rfl rfl).cell (j := 1) rfl, g302, Rds.at1 (HR314.rdk [] hS_ 4 rds_row rfl) false g302⟩) (by kernel_rfl) HS313 ?_
     clear E; intro a E
     replace E := E.same (t := 104) (u := .bool false) rfl (congrArg Value.bool (by simpa using h305))
     refine dr tbok (by kernel_rfl) [34, 35, 36, 37, 38, 39, 40, 41, 42] [.slice (some ⟨b303, 0, none⟩) (List.length r31.1.2.1) c41, .slice (some ⟨b300, o301, none⟩) (List.length aAccept) c2] [(2, .pointer (some ⟨g17, 0, none⟩)), (5, .bool r22), (6, .pointer (some ⟨g49, 0, none⟩)), (73, .bool false), (77, .bool false), (84, .bool false), (91, .bool false), (104, .bool false), (113, .bool (decide ((((List.length aAccept) : Nat) : Int) < (((List.length r31.1.2.1) : Nat) : Int))))] (fun w_ => [World.cell? w_ ⟨g49, 1, none⟩ = some (.slice (some ⟨b303, 0, none⟩) (List.length r31.1.2.1) c41), World.cell? w_ ⟨g17, 1, none⟩ = some (.slice (some ⟨b300, o301, none⟩) (List.length aAccept) c2)]) 8 E (fun _ _ => by kernel_rfl) (fun w_ hS_ => ⟨(HR314.boxk [] hS_ 7 rfl rfl).cell (j := 1) rfl, (HR314.boxk [] hS_ 3 rfl rfl).cell (j := 1) rfl⟩) (by kernel_rfl) HS313 ?_
     clear E; intro a E
     replace E := E.same (t := 113) (u := .bool false) rfl (congrArg Value.bool (decide_eq_false h306))
     refine dr tbok (by kernel_rfl) [43, 44, 45, 46, 47, 48, 49, 50] [.slice A46 (List.length r31.1.2.2.2) c47, .slice A9 (List.length aNodes) c10] [(5, .bool r22), (6, .pointer (some ⟨g49, 0, none⟩)), (73, .bool false), (77, .bool false), (84, .bool false), (91, .bool false), (104, .bool false), (113, .bool false), (121, .bool (decide ((((List.length aNodes) : Nat) : Int) < (((List.length r31.1.2.2.2) : Nat) : Int))))] (fun w_ => [World.cell? w_ ⟨g49, 3, none⟩ = some (.slice A46 (List.length r31.1.2.2.2) c47), World.cell? w_ ⟨g17, 3, none⟩ = some (.slice A9 (List.length aNodes) c10)]) 0 E (fun _ _ => by kernel_rfl) (fun w_ hS_ => ⟨(HR314.boxk [] hS_ 7 rfl rfl).cell (j := 3) rfl, (HR314.boxk [] hS_ 3 rfl rfl).cell (j := 3) rfl⟩) (by kernel_rfl) HS313 ?_
     clear E; intro a E
     refine dr_done (by kernel_rfl) ?_
     clear HS313 HR314
     have hx_ := Option.some.inj hP
     exact .inl ⟨rfl, decide ((((List.length aNodes) : Nat) : Int) < (((List.length r31.1.2.2.2) : Nat) : Int)), E.pick _ ⟨rfl, rfl, rfl, trivial⟩, H.sel [4, 5, 6, 7] rfl, hx_.symm⟩
    replace hP := ite_f h305 hP
    have HR318 := H
    refine dr_start (S := fun w_ => Chg (atL []) w238 w_) (by kernel_rfl) ?_
    intro w315 hc316
    have HS317 : Chg (atL []) w238 w315 := hc316.mono (fun _ _ h_ => h_.elim)
    replace H := H.ext hc316
    refine dr tbok (by kernel_rfl) [0, 1, 2] [] [(2, .pointer (some ⟨g17, 0, none⟩)), (5, .bool r22), (6, .pointer (some ⟨g49, 0, none⟩)), (10, .int .i64 r223.1), (12, .int .i64 r232.1), (13, .int .i64 r232.2), (73, .bool ((r223.2 : Int) != 0))] (fun w_ => []) 48 E (fun _ _ => by kernel_rfl) (fun w_ hS_ => trivial) (by kernel_rfl) HS317 ?_
    clear E; intro a E
    replace E := E.same (t := 73) (u := .bool false) rfl (congrArg Value.bool (bne_eq_false_iff_eq.2 h287))
    refine dr tbok (by kernel_rfl) [3, 4, 5, 6] [] [(2, .pointer (some ⟨g17, 0, none⟩)), (5, .bool r22), (6, .pointer (some ⟨g49, 0, none⟩)), (10, .int .i64 r223.1), (12, .int .i64 r232.1), (73, .bool false), (77, .bool ((r232.2 : Int) != 0))] (fun w_ => []) 44 E (fun _ _ => by kernel_rfl) (fun w_ hS_ => trivial) (by kernel_rfl) HS317 ?_
    clear E; intro a E
    replace E := E.same (t := 77) (u := .bool false) rfl (congrArg Value.bool (bne_eq_false_iff_eq.2 h288))
    refine dr tbok (by kernel_rfl) [7, 8, 9, 10, 11, 12, 13] [.slice (some ⟨b300, o301, none⟩) (List.length aAccept) c2] [(2, .pointer (some ⟨g17, 0, none⟩)), (5, .bool r22), (6, .pointer (some ⟨g49, 0, none⟩)), (10, .int .i64 r223.1), (12, .int .i64 r232.1), (73, .bool false), (77, .bool false), (84, .bool (decide ((((List.length aAccept) : Nat) : Int) ≤ r223.1)))] (fun w_ => [World.cell? w_ ⟨g17, 1, none⟩ = some (.slice (some ⟨b300, o301, none⟩) (List.length aAccept) c2)]) 37 E (fun _ _ => by kernel_rfl) (fun w_ hS_ => ((HR318.boxk [] hS_ 3 rfl rfl).cell (j := 1) rfl)) (by kernel_rfl) HS317 ?_
    clear E; intro a E
    replace E := E.same (t := 84) (u := .bool false) rfl (congrArg Value.bool (decide_eq_false h289))
    refine dr tbok (by kernel_rfl) [14, 15, 16, 17, 18, 19, 20] [.slice (some ⟨b303, 0, none⟩) (List.length r31.1.2.1) c41] [(2, .pointer (some ⟨g17, 0, none⟩)), (5, .bool r22), (6, .pointer (some ⟨g49, 0, none⟩)), (10, .int .i64 r223.1), (12, .int .i64 r232.1), (73, .bool false), (77, .bool false), (84, .bool false), (91, .bool (decide ((((List.length r31.1.2.1) : Nat) : Int) ≤ r232.1)))] (fun w_ => [World.cell? w_ ⟨g49, 1, none⟩ = some (.slice (some ⟨b303, 0, none⟩) (List.length r31.1.2.1) c41)]) 30 E (fun _ _ => by kernel_rfl) (fun w_ hS_ => ((HR318.boxk [] hS_ 7 rfl rfl).cell (j := 1) rfl)) (by kernel_rfl) HS317 ?_
    clear E; intro a E
    replace E := E.same (t := 91) (u := .bool false) rfl (congrArg Value.bool (decide_eq_false h294))
    refine dr tbok (by kernel_rfl) [21, 22, 23, 24, 25, 26, 27, 28, 29, 30, 31, 32, 33] [.slice (some ⟨b300, o301, none⟩) (List.length aAccept) c2, .bool (List.getD aAccept (Int.toNat r223.1) false), .slice (some ⟨b303, 0, none⟩) (List.length r31.1.2.1) c41, .bool (List.getD r31.1.2.1 (Int.toNat r232.1) false)] [(2, .pointer (some ⟨g17, 0, none⟩)), (5, .bool r22), (6, .pointer (some ⟨g49, 0, none⟩)), (73, .bool false), (77, .bool false), (84, .bool false), (91, .bool false), (104, .bool (!((List.getD aAccept (Int.toNat r223.1) false) == (List.getD r31.1.2.1 (Int.toNat r232.1) false))))] (fun w_ => [World.cell? w_ ⟨g17, 1, none⟩ = some (.slice (some ⟨b300, o301, none⟩) (List.length aAccept) c2), 0 ≤ r223.1 ∧ r223.1 < (((List.length aAccept) : Nat) : Int), World.cell? w_ ⟨b300, o301 + (Int.toNat r223.1) * 1, none⟩ = some (.bool (List.getD aAccept (Int.toNat r223.1) false)), World.cell? w_ ⟨g49, 1, none⟩ = some (.slice (some ⟨b303, 0, none⟩) (List.length r31.1.2.1) c41), 0 ≤ r232.1 ∧ r232.1 < (((List.length r31.1.2.1) : Nat) : Int), World.cell? w_ ⟨b303, 0 + (Int.toNat r232.1) * 1, none⟩ = some (.bool (List.getD r31.1.2.1 (Int.toNat r232.1) false))]) 17 E (fun _ _ => by kernel_rfl) (fun w_ hS_ => ⟨(HR318.boxk [] hS_ 3 rfl rfl).cell (j := 1) rfl, g299, Rds.at1 (HR318.rdk [] hS_ 0 rds_ro rfl) false g299, (HR318.boxk [] hS_ 7 rfl rfl).cell (j := 1) rfl, g302, Rds.at1 (HR318.rdk [] hS_ 4 rds_row rfl) false g302⟩) (by kernel_rfl) HS317 ?_
    clear E; intro a E
    replace E := E.same (t := 104) (u := .bool true) rfl (congrArg Value.bool (by simpa using h305))
    refine dr tbok (by kernel_rfl) [34, 35, 36, 37, 38, 39, 40, 41, 42, 43, 44, 45, 46, 47, 48, 49, 50] [] [(5, .bool r22), (6, .pointer (some ⟨g49, 0, none⟩)), (73, .bool false), (77, .bool false), (84, .bool false), (91, .bool false), (104, .bool true), (121, .bool true)] (fun w_ => []) 0 E (fun _ _ => by kernel_rfl) (fun w_ hS_ => trivial) (by kernel_rfl) HS317 ?_
    clear E; intro a E
    refine dr_done (by kernel_rfl) ?_
    clear HS317 HR318
    have hx_ := Option.some.inj hP
    exact .inl ⟨rfl, true, E.pick _ ⟨rfl, rfl, rfl, trivial⟩, H.sel [4, 5, 6, 7] rfl, hx_.symm⟩
   replace hP := ite_f h288 hP
   have HR322 := H
   refine dr_start (S := fun w_ => Chg (atL []) w238 w_) (by kernel_rfl) ?_
   intro w319 hc320
   have HS321 : Chg (atL []) w238 w319 := hc320.mono (fun _ _ h_ => h_.elim)
   replace H := H.ext hc320
   refine dr tbok (by kernel_rfl) [0, 1, 2] [] [(2, .pointer (some ⟨g17, 0, none⟩)), (5, .bool r22), (6, .pointer (some ⟨g49, 0, none⟩)), (10, .int .i64 r223.1), (12, .int .i64 r232.1), (13, .int .i64 r232.2), (73, .bool ((r223.2 : Int) != 0))] (fun w_ => []) 48 E (fun _ _ => by kernel_rfl) (fun w_ hS_ => trivial) (by kernel_rfl) HS321 ?_
   clear E; intro a E
   replace E := E.same (t := 73) (u := .bool false) rfl (congrArg Value.bool (bne_eq_false_iff_eq.2 h287))
   refine dr tbok (by kernel_rfl) [3, 4, 5, 6] [] [(2, .pointer (some ⟨g17, 0, none⟩)), (5, .bool r22), (6, .pointer (some ⟨g49, 0, none⟩)), (10, .int .i64 r223.1), (12, .int .i64 r232.1), (73, .bool false), (77, .bool ((r232.2 : Int) != 0))] (fun w_ => []) 44 E (fun _ _ => by kernel_rfl) (fun w_ hS_ => trivial) (by kernel_rfl) HS321 ?_
   clear E; intro a E
   replace E := E.same (t := 77) (u := .bool true) rfl (congrArg Value.bool (bne_iff_ne.2 h288))
   refine dr tbok (by kernel_rfl) [7, 8, 9, 10, 11, 12, 13, 14, 15, 16, 17, 18, 19, 20, 21, 22, 23, 24, 25, 26, 27, 28, 29, 30, 31, 32, 33, 34, 35, 36, 37, 38, 39, 40, 41, 42, 43, 44, 45, 46, 47, 48, 49, 50] [] [(5, .bool r22), (6, .pointer (some ⟨g49, 0, none⟩)), (73, .bool false), (77, .bool true), (121, .bool true)] (fun w_ => []) 0 E (fun _ _ => by kernel_rfl) (fun w_ hS_ => trivial) (by kernel_rfl) HS321 ?_
   clear E; intro a E
   refine dr_done (by kernel_rfl) ?_
   clear HS321 HR322
   have hx_ := Option.some.inj hP
   exact .inl ⟨rfl, true, E.pick _ ⟨rfl, rfl, rfl, trivial⟩, H.sel [4, 5, 6, 7] rfl, hx_.symm⟩
  replace hP := ite_f h287 hP
  have HR326 := H
  refine dr_start (S := fun w_ => Chg (atL []) w238 w_) (by kernel_rfl) ?_
  intro w323 hc324
  have HS325 : Chg (atL []) w238 w323 := hc324.mono (fun _ _ h_ => h_.elim)
  replace H := H.ext hc324
  refine dr tbok (by kernel_rfl) [0, 1, 2] [] [(2, .pointer (some ⟨g17, 0, none⟩)), (5, .bool r22), (6, .pointer (some ⟨g49, 0, none⟩)), (10, .int .i64 r223.1), (12, .int .i64 r232.1), (13, .int .i64 r232.2), (73, .bool ((r223.2 : Int) != 0))] (fun w_ => []) 48 E (fun _ _ => by kernel_rfl) (fun w_ hS_ => trivial) (by kernel_rfl) HS325 ?_
  clear E; intro a E
  replace E := E.same (t := 73) (u := .bool true) rfl (congrArg Value.bool (bne_iff_ne.2 h287))
  refine dr tbok (by kernel_rfl) [3, 4, 5, 6, 7, 8, 9, 10, 11, 12, 13, 14, 15, 16, 17, 18, 19, 20, 21, 22, 23, 24, 25, 26, 27, 28, 29, 30, 31, 32, 33, 34, 35, 36, 37, 38, 39, 40, 41, 42, 43, 44, 45, 46, 47, 48, 49, 50] [] [(5, .bool r22), (6, .pointer (some ⟨g49, 0, none⟩)), (73, .bool true), (121, .bool true)] (fun w_ => []) 0 E (fun _ _ => by kernel_rfl) (fun w_ hS_ => trivial) (by kernel_rfl) HS325 ?_
  clear E; intro a E
  refine dr_done (by kernel_rfl) ?_
  clear HS325 HR326
  have hx_ := Option.some.inj hP
  exact .inl ⟨rfl, true, E.pick _ ⟨rfl, rfl, rfl, trivial⟩, H.sel [4, 5, 6, 7] rfl, hx_.symm⟩
 clear E H h283; rintro a w286 ⟨x285, E, H, hx_⟩
 subst hx_; have hP := hK284; clear hK284
 refine th_n ?_
 refine E.cases (t := 121) rfl (fun hb_ E_ => ?_) (fun hb_ E_ => ?_)
 ·
  replace E := E_; clear E_
  have h327 : x282 = true := hb_
  clear hb_; replace hP := ite_t h327 hP
  refine c_true E rfl ?_
  refine wp_seq ?_
  refine wp_region_lit ?_
  refine vr tbok 1 [] [(4, .bool false)] [] E (by kernel_rfl) trivial ?_
  clear E; intro a E
  refine wpList_nil ?_
  refine th_n ?_
  refine wp_ret ?_
  refine th_ret ?_
  obtain rfl := Option.some.inj hP
  refine ret1 E rfl rfl ?_
  exact ⟨_, rfl, rfl, H.sel [] rfl⟩
 replace E := E_; clear E_
 have h328 : ¬ (x282 = true) := (ne_true_of_eq_false hb_)
 clear hb_; replace hP := ite_f h328 hP
 refine c_false E rfl ?_
 refine wp_skip ?_
 refine th_n ?_
 refine wp_seq ?_
 refine wp_region_lit ?_
 refine vr tbok 1 [.agg #[.int .i64 r31.1.1, .slice A40 (List.length r31.1.2.1) c41, .slice A43 (List.length r31.1.2.2.1) c44, .slice A46 (List.length r31.1.2.2.2) c47]] [(5, .bool r22), (6, .pointer (some ⟨g49, 0, none⟩)), (123, .agg #[.int .i64 r31.1.1, .slice A40 (List.length r31.1.2.1) c41, .slice A43 (List.length r31.1.2.2.1) c44, .slice A46 (List.length r31.1.2.2.2) c47])] [cellsAt w286 g49 (0) [.int .i64 r31.1.1, .slice A40 (List.length r31.1.2.1) c41, .slice A43 (List.length r31.1.2.2.1) c44, .slice A46 (List.length r31.1.2.2.2) c47]] E (by kernel_rfl) ((H.box 3 rfl).sub 0 _ rfl) ?_
 clear E; intro a E
 obtain ⟨r329, h330, hP⟩ := bind_inv hP
 obtain ⟨Fa331, Hc332, hb333⟩ := H.call [] [(0, false), (1, false), (2, false)] rfl rfl trivial
 refine e_call E rfl rfl Try.func25 rfl rfl rfl (part_Classes_calls A40 c41 A43 c44 A46 c47 r31.1.1 r31.1.2.1 r31.1.2.2.1 r31.1.2.2.2 (H.rcap 0 rfl) (H.rcap 1 rfl) (H.rcap 2 rfl) Hc332 h330) ?_
 rintro v334 w335 a ⟨A338, c339, rfl, HR336⟩ E_
 replace E := E_ _ rfl; clear E_
 obtain ⟨H_, hc337⟩ := hb333 _ _ HR336 rfl
 replace H := H_; clear H_; try dsimp only [setn, addE, goneL] at H
 refine vr tbok 5 [] [(5, .bool r22), (6, .pointer (some ⟨g49, 0, none⟩)), (14, .slice A338 (List.length r329.1) c339), (15, .int .i64 r329.2)] [] E (by kernel_rfl) trivial ?_
 clear E; intro a E
 refine wpList_nil ?_
 refine th_n ?_
 refine wp_seq ?_
 refine wp_region_lit ?_
 refine vr tbok 1 [.agg #[.int .i64 r31.1.1, .slice A40 (List.length r31.1.2.1) c41, .slice A43 (List.length r31.1.2.2.1) c44, .slice A46 (List.length r31.1.2.2.2) c47]] [(5, .bool r22), (6, .pointer (some ⟨g49, 0, none⟩)), (14, .slice A338 (List.length r329.1) c339), (15, .int .i64 r329.2), (128, .agg #[.int .i64 r31.1.1, .slice A40 (List.length r31.1.2.1) c41, .slice A43 (List.length r31.1.2.2.1) c44, .slice A46 (List.length r31.1.2.2.2) c47])] [cellsAt w335 g49 (0) [.int .i64 r31.1.1, .slice A40 (List.length r31.1.2.1) c41, .slice A43 (List.length r31.1.2.2.1) c44, .slice A46 (List.length r31.1.2.2.2) c47]] E (by kernel_rfl) ((H.box 3 rfl).sub 0 _ rfl) ?_
 clear E; intro a E
 obtain ⟨r341, h342, hP⟩ := bind_inv hP
 obtain ⟨Fa343, Hc344, hb345⟩ := H.call [] [(0, false), (1, false), (2, false)] rfl rfl trivial
 refine e_call E rfl rfl Try.func26 rfl rfl rfl (part_Reached_calls A40 c41 A43 c44 A46 c47 r31.1.1 r31.1.2.1 r31.1.2.2.1 r31.1.2.2.2 (H.rcap 0 rfl) (H.rcap 1 rfl) (H.rcap 2 rfl) Hc344 h342) ?_
 rintro v346 w347 a ⟨A350, c351, rfl, HR348⟩ E_
 replace E := E_ _ rfl; clear E_
 obtain ⟨H_, hc349⟩ := hb345 _ _ HR348 rfl
 replace H := H_; clear H_; try dsimp only [setn, addE, goneL] at H
 refine vr tbok 5 [] [(5, .bool r22), (6, .pointer (some ⟨g49, 0, none⟩)), (14, .slice A338 (List.length r329.1) c339), (15, .int .i64 r329.2), (16, .slice A350 (List.length r341.1) c351), (17, .int .i64 r341.2)] [] E (by kernel_rfl) trivial ?_
 clear E; intro a E
 refine wpList_nil ?_
 refine th_n ?_
 refine wp_seq ?_
 refine wp_region_lit ?_
 refine vr tbok 1 [.agg #[.int .i64 r31.1.1, .slice A40 (List.length r31.1.2.1) c41, .slice A43 (List.length r31.1.2.2.1) c44, .slice A46 (List.length r31.1.2.2.2) c47]] [(5, .bool r22), (6, .pointer (some ⟨g49, 0, none⟩)), (14, .slice A338 (List.length r329.1) c339), (15, .int .i64 r329.2), (16, .slice A350 (List.length r341.1) c351), (17, .int .i64 r341.2), (133, .agg #[.int .i64 r31.1.1, .slice A40 (List.length r31.1.2.1) c41, .slice A43 (List.length r31.1.2.2.1) c44, .slice A46 (List.length r31.1.2.2.2) c47])] [cellsAt w347 g49 (0) [.int .i64 r31.1.1, .slice A40 (List.length r31.1.2.1) c41, .slice A43 (List.length r31.1.2.2.1) c44, .slice A46 (List.length r31.1.2.2.2) c47]] E (by kernel_rfl) ((H.box 3 rfl).sub 0 _ rfl) ?_
 clear E; intro a E
 obtain ⟨r353, h354, hP⟩ := bind_inv hP
 obtain ⟨Fa355, Hc356, hb357⟩ := H.call [] [(0, false), (1, false), (2, false)] rfl rfl trivial
 refine e_call E rfl rfl Try.func17 rfl rfl rfl (canon_Min_calls A40 c41 A43 c44 A46 c47 r31.1.1 r31.1.2.1 r31.1.2.2.1 r31.1.2.2.2 (H.rcap 0 rfl) (H.rcap 1 rfl) (H.rcap 2 rfl) Hc356 h354) ?_
 rintro v358 w359 a ⟨A362, c363, A365, c366, A368, c369, rfl, HR360⟩ E_
 replace E := E_ _ rfl; clear E_
 obtain ⟨H_, hc361⟩ := hb357 _ _ HR360 rfl
 replace H := H_; clear H_; try dsimp only [setn, addE, goneL] at H
 refine vr tbok 3 [] [(5, .bool r22), (6, .pointer (some ⟨g49, 0, none⟩)), (14, .slice A338 (List.length r329.1) c339), (15, .int .i64 r329.2), (16, .slice A350 (List.length r341.1) c351), (17, .int .i64 r341.2), (135, .agg #[.int .i64 r353.1.1, .slice A362 (List.length r353.1.2.1) c363, .slice A365 (List.length r353.1.2.2.1) c366, .slice A368 (List.length r353.1.2.2.2) c369]), (136, .int .i64 r353.2)] [] E (by kernel_rfl) trivial ?_
 clear E; intro a E
 refine h_alloc H E rfl rfl tbok rfl ?_
 intro w372 g371 a hc373 hg375 H_ E_
 replace E := E_ _ rfl; clear E_
 replace H := H_; clear H_; try dsimp only [setn, addE, goneL] at H
 refine h_store (g := g371) (off := 0) H 9 rfl E rfl rfl rfl rfl tbok rfl rfl rfl rfl rfl ?_
 clear E; intro w376 a hc377 H_ E
 replace H := H_; clear H_; try dsimp only [setn, addE, goneL] at H
 refine vr tbok 1 [] [(5, .bool r22), (6, .pointer (some ⟨g49, 0, none⟩)), (14, .slice A338 (List.length r329.1) c339), (15, .int .i64 r329.2), (16, .slice A350 (List.length r341.1) c351), (17, .int .i64 r341.2), (18, .pointer (some ⟨g371, 0, none⟩)), (19, .int .i64 r353.2)] [] E (by kernel_rfl) trivial ?_
 clear E; intro a E
 refine wpList_nil ?_
 refine th_n ?_
 refine wp_seq ?_
 refine wp_region_lit ?_
 refine vr tbok 1 [.agg #[.int .i64 r31.1.1, .slice A40 (List.length r31.1.2.1) c41, .slice A43 (List.length r31.1.2.2.1) c44, .slice A46 (List.length r31.1.2.2.2) c47]] [(5, .bool r22), (6, .pointer (some ⟨g49, 0, none⟩)), (14, .slice A338 (List.length r329.1) c339), (15, .int .i64 r329.2), (16, .slice A350 (List.length r341.1) c351), (17, .int .i64 r341.2), (18, .pointer (some ⟨g371, 0, none⟩)), (19, .int .i64 r353.2), (138, .agg #[.int .i64 r31.1.1, .slice A40 (List.length r31.1.2.1) c41, .slice A43 (List.length r31.1.2.2.1) c44, .slice A46 (List.length r31.1.2.2.2) c47])] [cellsAt w376 g49 (0) [.int .i64 r31.1.1, .slice A40 (List.length r31.1.2.1) c41, .slice A43 (List.length r31.1.2.2.1) c44, .slice A46 (List.length r31.1.2.2.2) c47]] E (by kernel_rfl) ((H.box 3 rfl).sub 0 _ rfl) ?_
 clear E; intro a E
 obtain ⟨r378, h379, hP⟩ := bind_inv hP
 obtain ⟨Fa380, Hc381, hb382⟩ := H.call [] [(0, false), (1, false), (2, false)] rfl rfl trivial
 refine e_call E rfl rfl Try.func19 rfl rfl rfl (canon_Is_calls A40 c41 A43 c44 A46 c47 r31.1.1 r31.1.2.1 r31.1.2.2.1 r31.1.2.2.2 (H.rcap 0 rfl) (H.rcap 1 rfl) (H.rcap 2 rfl) Hc381 h379) ?_
 rintro v383 w384 a ⟨rfl, HR385⟩ E_
 replace E := E_ _ rfl; clear E_
 obtain ⟨H_, hc386⟩ := hb382 _ _ HR385 rfl
 replace H := H_; clear H_; try dsimp only [setn, addE, goneL] at H
 refine vr tbok 5 [] [(5, .bool r22), (6, .pointer (some ⟨g49, 0, none⟩)), (14, .slice A338 (List.length r329.1) c339), (15, .int .i64 r329.2), (16, .slice A350 (List.length r341.1) c351), (17, .int .i64 r341.2), (18, .pointer (some ⟨g371, 0, none⟩)), (19, .int .i64 r353.2), (20, .bool r378.1), (21, .int .i64 r378.2)] [] E (by kernel_rfl) trivial ?_
 clear E; intro a E
 refine wpList_nil ?_
 refine th_n ?_
 refine wp_seq ?_
 refine wp_seq ?_
 obtain ⟨x411, h412, hK413⟩ := bind_inv hP
 clear hP
 refine meet_cut (fun a w415 => ∃ (x414 : Bool), Fr a 203 [(5, .bool r22), (14, .slice A338 (List.length r329.1) c339), (16, .slice A350 (List.length r341.1) c351), (181, .bool x414)] ∧ Hp S Fa w0 w415 [.row true (cInt .i64) 3 A338 c339 r329.1, .row true (cInt .i64) 3 A350 c351 r341.1] ∧ x411 = x414) ?_ ?_
 ·
  have hP := h412; clear h412; rw [law17_CanonSmall_j4] at hP
  refine wp_region_lit ?_
  refine vr tbok 3 [] [(5, .bool r22), (6, .pointer (some ⟨g49, 0, none⟩)), (14, .slice A338 (List.length r329.1) c339), (16, .slice A350 (List.length r341.1) c351), (17, .int .i64 r341.2), (18, .pointer (some ⟨g371, 0, none⟩)), (19, .int .i64 r353.2), (20, .bool r378.1), (21, .int .i64 r378.2), (144, .bool ((r329.2 : Int) != 0))] [] E (by kernel_rfl) trivial ?_
  clear E; intro a E
  refine E.cases (t := 144) rfl (fun hb_ E_ => ?_) (fun hb_ E_ => ?_)
  ·
   replace E := E_; clear E_
   have h416 : ¬ ((r329.2 : Int) = 0) := bne_iff_ne.1 hb_
   clear hb_; replace hP := ite_f h416 hP
   refine vr tbok 37 [] [(5, .bool r22), (14, .slice A338 (List.length r329.1) c339), (16, .slice A350 (List.length r341.1) c351), (181, .bool true)] [] E (by kernel_rfl) trivial ?_
   clear E; intro a E
   refine wpList_nil ?_
   have hx_ := Option.some.inj hP
   exact .inl ⟨rfl, true, E.pick _ ⟨rfl, rfl, rfl, rfl, trivial⟩, H.sel [4, 5] rfl, hx_.symm⟩
  replace E := E_; clear E_
  have h417 : (r329.2 : Int) = 0 := bne_eq_false_iff_eq.1 hb_
  clear hb_; replace hP := ite_t h417 hP
  refine vr tbok 4 [] [(5, .bool r22), (6, .pointer (some ⟨g49, 0, none⟩)), (14, .slice A338 (List.length r329.1) c339), (16, .slice A350 (List.length r341.1) c351), (18, .pointer (some ⟨g371, 0, none⟩)), (19, .int .i64 r353.2), (20, .bool r378.1), (21, .int .i64 r378.2), (148, .bool ((r341.2 : Int) != 0))] [] E (by kernel_rfl) trivial ?_
  clear E; intro a E
  refine E.cases (t := 148) rfl (fun hb_ E_ => ?_) (fun hb_ E_ => ?_)
  ·
   replace E := E_; clear E_
   have h418 : ¬ ((r341.2 : Int) = 0) := bne_iff_ne.1 hb_
   clear hb_; replace hP := ite_f h418 hP
   refine vr tbok 33 [] [(5, .bool r22), (14, .slice A338 (List.length r329.1) c339), (16, .slice A350 (List.length r341.1) c351), (181, .bool true)] [] E (by kernel_rfl) trivial ?_
   clear E; intro a E
   refine wpList_nil ?_
   have hx_ := Option.some.inj hP
   exact .inl ⟨rfl, true, E.pick _ ⟨rfl, rfl, rfl, rfl, trivial⟩, H.sel [4, 5] rfl, hx_.symm⟩
  replace E := E_; clear E_
  have h419 : (r341.2 : Int) = 0 := bne_eq_false_iff_eq.1 hb_
  clear hb_; replace hP := ite_t h419 hP
  refine vr tbok 4 [] [(5, .bool r22), (6, .pointer (some ⟨g49, 0, none⟩)), (14, .slice A338 (List.length r329.1) c339), (16, .slice A350 (List.length r341.1) c351), (18, .pointer (some ⟨g371, 0, none⟩)), (20, .bool r378.1), (21, .int .i64 r378.2), (152, .bool ((r353.2 : Int) != 0))] [] E (by kernel_rfl) trivial ?_
  clear E; intro a E
  refine E.cases (t := 152) rfl (fun hb_ E_ => ?_) (fun hb_ E_ => ?_)
  ·
   replace E := E_; clear E_
   have h420 : ¬ ((r353.2 : Int) = 0) := bne_iff_ne.1 hb_
   clear hb_; replace hP := ite_f h420 hP
   refine vr tbok 29 [] [(5, .bool r22), (14, .slice A338 (List.length r329.1) c339), (16, .slice A350 (List.length r341.1) c351), (181, .bool true)] [] E (by kernel_rfl) trivial ?_
   clear E; intro a E
   refine wpList_nil ?_
   have hx_ := Option.some.inj hP
   exact .inl ⟨rfl, true, E.pick _ ⟨rfl, rfl, rfl, rfl, trivial⟩, H.sel [4, 5] rfl, hx_.symm⟩
  replace E := E_; clear E_
  have h421 : (r353.2 : Int) = 0 := bne_eq_false_iff_eq.1 hb_
  clear hb_; replace hP := ite_t h421 hP
  refine vr tbok 4 [] [(5, .bool r22), (6, .pointer (some ⟨g49, 0, none⟩)), (14, .slice A338 (List.length r329.1) c339), (16, .slice A350 (List.length r341.1) c351), (18, .pointer (some ⟨g371, 0, none⟩)), (20, .bool r378.1), (156, .bool ((r378.2 : Int) != 0))] [] E (by kernel_rfl) trivial ?_
  clear E; intro a E
  refine E.cases (t := 156) rfl (fun hb_ E_ => ?_) (fun hb_ E_ => ?_)
  ·
   replace E := E_; clear E_
   have h422 : ¬ ((r378.2 : Int) = 0) := bne_iff_ne.1 hb_
   clear hb_; replace hP := ite_f h422 hP
   refine vr tbok 25 [] [(5, .bool r22), (14, .slice A338 (List.length r329.1) c339), (16, .slice A350 (List.length r341.1) c351), (181, .bool true)] [] E (by kernel_rfl) trivial ?_
   clear E; intro a E
   refine wpList_nil ?_
   have hx_ := Option.some.inj hP
   exact .inl ⟨rfl, true, E.pick _ ⟨rfl, rfl, rfl, rfl, trivial⟩, H.sel [4, 5] rfl, hx_.symm⟩
  replace E := E_; clear E_
  have h423 : (r378.2 : Int) = 0 := bne_eq_false_iff_eq.1 hb_
  clear hb_; replace hP := ite_t h423 hP
  refine vr tbok 4 [] [(5, .bool r22), (6, .pointer (some ⟨g49, 0, none⟩)), (14, .slice A338 (List.length r329.1) c339), (16, .slice A350 (List.length r341.1) c351), (18, .pointer (some ⟨g371, 0, none⟩)), (160, .bool (!r378.1))] [] E (by kernel_rfl) trivial ?_
  clear E; intro a E
  refine E.cases (t := 160) rfl (fun hb_ E_ => ?_) (fun hb_ E_ => ?_)
  ·
   replace E := E_; clear E_
   have h424 : ¬ (r378.1 = true) := (ne_true_of_eq_false (not_t hb_))
   clear hb_; replace hP := ite_f h424 hP
   refine vr tbok 21 [] [(5, .bool r22), (14, .slice A338 (List.length r329.1) c339), (16, .slice A350 (List.length r341.1) c351), (181, .bool true)] [] E (by kernel_rfl) trivial ?_
   clear E; intro a E
   refine wpList_nil ?_
   have hx_ := Option.some.inj hP
   exact .inl ⟨rfl, true, E.pick _ ⟨rfl, rfl, rfl, rfl, trivial⟩, H.sel [4, 5] rfl, hx_.symm⟩
  replace E := E_; clear E_
  have h425 : r378.1 = true := (not_f hb_)
  clear hb_; replace hP := ite_t h425 hP
  refine vr tbok 2 [.agg #[.int .i64 r31.1.1, .slice A40 (List.length r31.1.2.1) c41, .slice A43 (List.length r31.1.2.2.1) c44, .slice A46 (List.length r31.1.2.2.2) c47], .agg #[.int .i64 r353.1.1, .slice A362 (List.length r353.1.2.1) c363, .slice A365 (List.length r353.1.2.2.1) c366, .slice A368 (List.length r353.1.2.2.2) c369]] [(5, .bool r22), (6, .pointer (some ⟨g49, 0, none⟩)), (14, .slice A338 (List.length r329.1) c339), (16, .slice A350 (List.length r341.1) c351), (160, .bool false), (161, .agg #[.int .i64 r31.1.1, .slice A40 (List.length r31.1.2.1) c41, .slice A43 (List.length r31.1.2.2.1) c44, .slice A46 (List.length r31.1.2.2.2) c47]), (162, .agg #[.int .i64 r353.1.1, .slice A362 (List.length r353.1.2.1) c363, .slice A365 (List.length r353.1.2.2.1) c366, .slice A368 (List.length r353.1.2.2.2) c369])] [cellsAt w384 g49 (0) [.int .i64 r31.1.1, .slice A40 (List.length r31.1.2.1) c41, .slice A43 (List.length r31.1.2.2.1) c44, .slice A46 (List.length r31.1.2.2.2) c47], cellsAt w384 g371 (0) [.int .i64 r353.1.1, .slice A362 (List.length r353.1.2.1) c363, .slice A365 (List.length r353.1.2.2.1) c366, .slice A368 (List.length r353.1.2.2.2) c369]] E (by kernel_rfl) ⟨(H.box 3 rfl).sub 0 _ rfl, (H.box 9 rfl).sub 0 _ rfl⟩ ?_
  clear E; intro a E
  obtain ⟨r426, h427, hP⟩ := bind_inv hP
  obtain ⟨Fa428, Hc429, hb430⟩ := H.call [] [(0, false), (1, false), (2, false), (6, false), (7, false), (8, false)] rfl rfl trivial
  refine e_call E rfl rfl Try.func22 rfl rfl rfl (canon_Same_calls A40 c41 A43 c44 A46 c47 A362 c363 A365 c366 A368 c369 r31.1.1 r31.1.2.1 r31.1.2.2.1 r31.1.2.2.2 r353.1.1 r353.1.2.1 r353.1.2.2.1 r353.1.2.2.2 (H.rcap 0 rfl) (H.rcap 1 rfl) (H.rcap 2 rfl) (H.rcap 6 rfl) (H.rcap 7 rfl) (H.rcap 8 rfl) Hc429 h427) ?_
  rintro v431 w432 a ⟨rfl, HR433⟩ E_
  replace E := E_ _ rfl; clear E_
  obtain ⟨H_, hc434⟩ := hb430 _ _ HR433 rfl
  replace H := H_; clear H_; try dsimp only [setn, addE, goneL] at H
  refine vr tbok 3 [] [(5, .bool r22), (6, .pointer (some ⟨g49, 0, none⟩)), (14, .slice A338 (List.length r329.1) c339), (16, .slice A350 (List.length r341.1) c351), (166, .bool (!r426))] [] E (by kernel_rfl) trivial ?_
  clear E; intro a E
  refine E.cases (t := 166) rfl (fun hb_ E_ => ?_) (fun hb_ E_ => ?_)
  ·
   replace E := E_; clear E_
   have h435 : ¬ (r426 = true) := (ne_true_of_eq_false (not_t hb_))
   clear hb_; replace hP := ite_f h435 hP
   refine vr tbok 15 [] [(5, .bool r22), (14, .slice A338 (List.length r329.1) c339), (16, .slice A350 (List.length r341.1) c351), (181, .bool true)] [] E (by kernel_rfl) trivial ?_
   clear E; intro a E
   refine wpList_nil ?_
   have hx_ := Option.some.inj hP
   exact .inl ⟨rfl, true, E.pick _ ⟨rfl, rfl, rfl, rfl, trivial⟩, H.sel [4, 5] rfl, hx_.symm⟩
  replace E := E_; clear E_
  have h436 : r426 = true := (not_f hb_)
  clear hb_; replace hP := ite_t h436 hP
  refine vr tbok 8 [.slice A40 (List.length r31.1.2.1) c41] [(5, .bool r22), (6, .pointer (some ⟨g49, 0, none⟩)), (14, .slice A338 (List.length r329.1) c339), (16, .slice A350 (List.length r341.1) c351), (174, .bool (((((List.length r329.1) : Nat) : Int) : Int) != (((List.length r31.1.2.1) : Nat) : Int)))] [World.cell? w432 ⟨g49, 1, none⟩ = some (.slice A40 (List.length r31.1.2.1) c41)] E (by kernel_rfl) ((H.box 3 rfl).cell (j := 1) rfl) ?_
  clear E; intro a E
  refine E.cases (t := 174) rfl (fun hb_ E_ => ?_) (fun hb_ E_ => ?_)
  ·
   replace E := E_; clear E_
   have h437 : ¬ (((((List.length r329.1) : Nat) : Int) : Int) = (((List.length r31.1.2.1) : Nat) : Int)) := bne_iff_ne.1 hb_
   clear hb_; replace hP := ite_f h437 hP
   refine vr tbok 7 [] [(5, .bool r22), (14, .slice A338 (List.length r329.1) c339), (16, .slice A350 (List.length r341.1) c351), (181, .bool true)] [] E (by kernel_rfl) trivial ?_
   clear E; intro a E
   refine wpList_nil ?_
   have hx_ := Option.some.inj hP
   exact .inl ⟨rfl, true, E.pick _ ⟨rfl, rfl, rfl, rfl, trivial⟩, H.sel [4, 5] rfl, hx_.symm⟩
  replace E := E_; clear E_
  have h438 : ((((List.length r329.1) : Nat) : Int) : Int) = (((List.length r31.1.2.1) : Nat) : Int) := bne_eq_false_iff_eq.1 hb_
  clear hb_; replace hP := ite_t h438 hP
  refine vr tbok 7 [.slice A40 (List.length r31.1.2.1) c41] [(5, .bool r22), (14, .slice A338 (List.length r329.1) c339), (16, .slice A350 (List.length r341.1) c351), (181, .bool (((((List.length r341.1) : Nat) : Int) : Int) != (((List.length r31.1.2.1) : Nat) : Int)))] [World.cell? w432 ⟨g49, 1, none⟩ = some (.slice A40 (List.length r31.1.2.1) c41)] E (by kernel_rfl) ((H.box 3 rfl).cell (j := 1) rfl) ?_
  clear E; intro a E
  refine wpList_nil ?_
  have hx_ := Option.some.inj hP
  exact .inl ⟨rfl, ((((List.length r341.1) : Nat) : Int) : Int) != (((List.length r31.1.2.1) : Nat) : Int), E.pick _ ⟨rfl, rfl, rfl, rfl, trivial⟩, H.sel [4, 5] rfl, hx_.symm⟩
 clear E H h412; rintro a w415 ⟨x414, E, H, hx_⟩
 subst hx_; have hP := hK413; clear hK413
 refine th_n ?_
 refine E.cases (t := 181) rfl (fun hb_ E_ => ?_) (fun hb_ E_ => ?_)
 ·
  replace E := E_; clear E_
  have h439 : x411 = true := hb_
  clear hb_; replace hP := ite_t h439 hP
  refine c_true E rfl ?_
  refine wp_seq ?_
  refine wp_region_lit ?_
  refine vr tbok 1 [] [(4, .bool false)] [] E (by kernel_rfl) trivial ?_
  clear E; intro a E
  refine wpList_nil ?_
  refine th_n ?_
  refine wp_ret ?_
  refine th_ret ?_
  obtain rfl := Option.some.inj hP
  refine ret1 E rfl rfl ?_
  exact ⟨_, rfl, rfl, H.sel [] rfl⟩
 replace E := E_; clear E_
 have h440 : ¬ (x411 = true) := (ne_true_of_eq_false hb_)
 clear hb_; replace hP := ite_f h440 hP
 refine c_false E rfl ?_
 refine wp_skip ?_
 refine th_n ?_
 refine wp_seq ?_
 refine wp_seq ?_
 refine wp_region_lit ?_
 refine vr tbok 1 [] [(5, .bool r22), (14, .slice A338 (List.length r329.1) c339), (16, .slice A350 (List.length r341.1) c351), (22, .int .i64 0)] [] E (by kernel_rfl) trivial ?_
 clear E; intro a E
 refine wpList_nil ?_
 refine th_n ?_
 refine wp_block ?_
 obtain ⟨x470, hL471, hK472⟩ := bind_inv hP
 clear hP
 refine loop_cut (fun i_ a w_ => (i_ = 2 ∧ ∃ (x475 : Unit), Fr a 203 [(5, .bool r22)] ∧ Hp S Fa w0 w_ [] ∧ x470 = Sum.inl x475)) ?_ ?_
 ·
  refine loopV (fun m474 a w473 => ∃ (x454 : Int), Fr a 203 [(5, .bool r22), (14, .slice A338 (List.length r329.1) c339), (16, .slice A350 (List.length r341.1) c351), (22, .int .i64 x454)] ∧ Hp S Fa w0 w473 [.row true (cInt .i64) 3 A338 c339 r329.1, .row true (cInt .i64) 3 A350 c351 r341.1] ∧ law17_CanonSmall_l5 N r329 r341 m474 x454 = some x470) N ?_ ?_
  ·
   exact ⟨0, E.pick _ ⟨rfl, rfl, rfl, rfl, trivial⟩, H.sel [0, 1] rfl, hL471⟩
  clear E H hL471; intro m474 a w473 hI_
  obtain ⟨x454, E, H, hP⟩ := hI_
  obtain ⟨m469, rfl⟩ : ∃ q_, m474 = q_ + 1 := by cases m474 with | zero => rw [law17_CanonSmall_l5] at hP; cases hP | succ q_ => exact ⟨q_, rfl⟩
  rw [law17_CanonSmall_l5] at hP
  refine wp_seq ?_
  refine wp_seq ?_
  refine wp_region_lit ?_
  refine vr tbok 4 [] [(5, .bool r22), (14, .slice A338 (List.length r329.1) c339), (16, .slice A350 (List.length r341.1) c351), (22, .int .i64 x454), (185, .bool (decide (x454 < (((List.length r329.1) : Nat) : Int))))] [] E (by kernel_rfl) trivial ?_
  clear E; intro a E
  refine wpList_nil ?_
  refine th_n ?_
  refine E.cases (t := 185) rfl (fun hb_ E_ => ?_) (fun hb_ E_ => ?_)
  ·
   replace E := E_; clear E_
   have h476 : x454 < (((List.length r329.1) : Nat) : Int) := of_decide_eq_true hb_
   clear hb_; replace hP := ite_t h476 hP
   refine c_true E rfl ?_
   refine wp_skip ?_
   refine th_n ?_
   refine wp_seq ?_
   refine wp_block ?_
   refine wp_seq ?_
   obtain ⟨x486, h487, hK488⟩ := bind_inv hP
   clear hP
   refine meet_cut (fun a w490 => ∃ (x489 : Bool), Fr a 203 [(5, .bool r22), (14, .slice A338 (List.length r329.1) c339), (16, .slice A350 (List.length r341.1) c351), (22, .int .i64 x454), (201, .bool x489)] ∧ Hp S Fa w0 w490 [.row true (cInt .i64) 3 A338 c339 r329.1, .row true (cInt .i64) 3 A350 c351 r341.1] ∧ x486 = x489) ?_ ?_
   ·
    have hP := h487; clear h487; rw [law17_CanonSmall_j6] at hP
    refine wp_region_lit ?_
    obtain ⟨g491, hP⟩ := ask_inv hP
    obtain ⟨b492, e_b492⟩ := H.raddr 0 rfl (idx_pos g491)
    subst e_b492
    refine vr tbok 7 [.int .i64 (List.getD r329.1 (Int.toNat x454) 0)] [(5, .bool r22), (14, .slice (some ⟨b492, 0, none⟩) (List.length r329.1) c339), (16, .slice A350 (List.length r341.1) c351), (22, .int .i64 x454), (194, .bool (((List.getD r329.1 (Int.toNat x454) 0) : Int) != x454))] [0 ≤ x454 ∧ x454 < (((List.length r329.1) : Nat) : Int), World.cell? w473 ⟨b492, 0 + (Int.toNat x454) * 1, none⟩ = some (.int .i64 (List.getD r329.1 (Int.toNat x454) 0))] E (by kernel_rfl) ⟨g491, Rds.at1 (H.rd 0 rds_row) 0 g491⟩ ?_
    clear E; intro a E
    refine E.cases (t := 194) rfl (fun hb_ E_ => ?_) (fun hb_ E_ => ?_)
    ·
     replace E := E_; clear E_
     have h494 : ¬ (((List.getD r329.1 (Int.toNat x454) 0) : Int) = x454) := bne_iff_ne.1 hb_
     clear hb_; replace hP := ite_f h494 hP
     refine vr tbok 7 [] [(5, .bool r22), (14, .slice (some ⟨b492, 0, none⟩) (List.length r329.1) c339), (16, .slice A350 (List.length r341.1) c351), (22, .int .i64 x454), (201, .bool true)] [] E (by kernel_rfl) trivial ?_
     clear E; intro a E
     refine wpList_nil ?_
     have hx_ := Option.some.inj hP
     exact .inl ⟨rfl, true, E.pick _ ⟨rfl, rfl, rfl, rfl, rfl, trivial⟩, H.sel [0, 1] rfl, hx_.symm⟩
    replace E := E_; clear E_
    have h495 : ((List.getD r329.1 (Int.toNat x454) 0) : Int) = x454 := bne_eq_false_iff_eq.1 hb_
    clear hb_; replace hP := ite_t h495 hP
    obtain ⟨g496, hP⟩ := ask_inv hP
    obtain ⟨b497, e_b497⟩ := H.raddr 1 rfl (idx_pos g496)
    subst e_b497
    refine vr tbok 7 [.int .i64 (List.getD r341.1 (Int.toNat x454) 0)] [(5, .bool r22), (14, .slice (some ⟨b492, 0, none⟩) (List.length r329.1) c339), (16, .slice (some ⟨b497, 0, none⟩) (List.length r341.1) c351), (22, .int .i64 x454), (201, .bool (((List.getD r341.1 (Int.toNat x454) 0) : Int) != x454))] [0 ≤ x454 ∧ x454 < (((List.length r341.1) : Nat) : Int), World.cell? w473 ⟨b497, 0 + (Int.toNat x454) * 1, none⟩ = some (.int .i64 (List.getD r341.1 (Int.toNat x454) 0))] E (by kernel_rfl) ⟨g496, Rds.at1 (H.rd 1 rds_row) 0 g496⟩ ?_
    clear E; intro a E
    refine wpList_nil ?_
    have hx_ := Option.some.inj hP
    exact .inl ⟨rfl, ((List.getD r341.1 (Int.toNat x454) 0) : Int) != x454, E.pick _ ⟨rfl, rfl, rfl, rfl, rfl, trivial⟩, H.sel [0, 1] rfl, hx_.symm⟩
   clear E H h487; rintro a w490 ⟨x489, E, H, hx_⟩
   subst hx_; have hP := hK488; clear hK488
   refine th_n ?_
   refine E.cases (t := 201) rfl (fun hb_ E_ => ?_) (fun hb_ E_ => ?_)
   ·
    replace E := E_; clear E_
    have h499 : x486 = true := hb_
    clear hb_; replace hP := ite_t h499 hP
    refine c_true E rfl ?_
    refine wp_seq ?_
    refine wp_region_lit ?_
    refine vr tbok 1 [] [(4, .bool false)] [] E (by kernel_rfl) trivial ?_
    clear E; intro a E
    refine wpList_nil ?_
    refine th_n ?_
    refine wp_ret ?_
    refine bl_ret ?_
    refine th_ret ?_
    refine th_ret ?_
    refine .inr ⟨rfl, ?_⟩
    refine bl_ret ?_
    refine th_ret ?_
    have hx_ := Option.some.inj hP; subst hx_
    have hP : some (false) = some r := hK472
    obtain rfl := Option.some.inj hP
    refine ret1 E rfl rfl ?_
    exact ⟨_, rfl, rfl, H.sel [] rfl⟩
   replace E := E_; clear E_
   have h500 : ¬ (x486 = true) := (ne_true_of_eq_false hb_)
   clear hb_; replace hP := ite_f h500 hP
   refine c_false E rfl ?_
   refine wp_skip ?_
   refine bl_n ?_
   refine th_n ?_
   refine wp_region_lit ?_
   obtain ⟨g501, hP⟩ := ask_inv hP
   refine vr tbok 3 [.int .i64 (x454 + 1)] [(5, .bool r22), (14, .slice A338 (List.length r329.1) c339), (16, .slice A350 (List.length r341.1) c351), (22, .int .i64 (x454 + 1))] [IntKind.i64.wrap (x454 + 1) = x454 + 1] E (by kernel_rfl) (wrap_in g501) ?_
   clear E; intro a E
   refine wpList_nil ?_
   exact th_n ⟨m469, Nat.lt_succ_self _, x454 + 1, E.pick _ ⟨rfl, rfl, rfl, rfl, trivial⟩, H.sel [0, 1] rfl, hP⟩
  replace E := E_; clear E_
  have h502 : ¬ (x454 < (((List.length r329.1) : Nat) : Int)) := of_decide_eq_false hb_
  clear hb_; replace hP := ite_f h502 hP
  refine c_false E rfl ?_
  refine wp_exit ?_
  refine th_exit ?_
  have hx_ := Option.some.inj hP
  refine th_exit (.inl ⟨2, rfl, ?_⟩)
  exact ⟨rfl, (), E.pick _ ⟨rfl, trivial⟩, H.sel [] rfl, hx_.symm⟩
 clear E H hL471; intro i_ a w473 hM_
 obtain ⟨rfl, x475, E, H, hx_⟩ := hM_
 subst hx_; have hP := elim_l hK472
 clear hK472
 refine bl_hit ?_
 refine th_n ?_
 refine wp_seq ?_
 refine wp_region_lit ?_
 refine vr tbok 2 [] [(4, .bool r22)] [] E (by kernel_rfl) trivial ?_
 clear E; intro a E
 refine wpList_nil ?_
 refine th_n ?_
 refine wp_ret ?_
 obtain rfl := Option.some.inj hP
 refine ret1 E rfl rfl ?_
 exact ⟨_, rfl, rfl, H.sel [] rfl⟩

end Go.V
