/- Plain functions, and the calls that give them. -/
import Derived.Test.YteiemajlkgdhaaaA5
set_option linter.all false
set_option linter.unusedVariables false
set_option linter.unnecessarySimpa false
set_option linter.unusedSimpArgs false
namespace Go.V
open Go Go.Proofs
/-! rejoinder/rejoinderlaw16.PartClasses -/
def law16_PartClasses_j0 (N : Nat) (aProps : Int) (aAccept : List Bool) (aGuard : List Int) (aNodes : List Nd) (r31 : (List Int) × Int) : Option Bool :=
    Option.bind (law16_Small N aProps aAccept aGuard aNodes) fun r60 =>
    if r60 = true then
      some ((r31.2 : Int) != 0)
    else
      some true
def law16_PartClasses_j1 (N : Nat) (aAccept : List Bool) (r31 : (List Int) × Int) : Option Bool :=
    if ((((List.length r31.1) : Nat) : Int) : Int) = (((List.length aAccept) : Nat) : Int) then
      some (((((List.length aAccept) : Nat) : Int) : Int) == 0)
    else
      some true
def law16_PartClasses_j2 (N : Nat) (r31 : (List Int) × Int) (r85 : Int) (r94 : Int) (r103 : (List Int) × Bool × Int) : Option Bool :=
    if (r103.2.2 : Int) = 0 then
      ask (idx r85 (List.length r31.1)) <|
      ask (idx r94 (List.length r31.1)) <|
      some (r103.2.1 == (((List.getD r31.1 (Int.toNat r85) 0) : Int) == (List.getD r31.1 (Int.toNat r94) 0)))
    else
      some true
def law16_PartClasses_j3 (N : Nat) (aAccept : List Bool) (r22 : Bool) (r150 : Int × Bool) (r159 : Int × Bool) : Option Bool :=
    if r22 = true then
      if r150.2 = true then
        if r159.2 = true then
          ask (idx r150.1 (List.length aAccept)) <|
          ask (idx r159.1 (List.length aAccept)) <|
          some (!((List.getD aAccept (Int.toNat r150.1) false) == (List.getD aAccept (Int.toNat r159.1) false)))
        else
          some false
      else
        some false
    else
      some false
def law16_PartClasses_l4 (N : Nat) (aProps : Int) (t : List Int) : Nat → (List Int) → Int → Option (List Int)
  | 0, _, _ => none
  | m300 + 1, few257, i260 =>
    if i260 < (((List.length t) : Nat) : Int) then
      ask (idx i260 (List.length t)) <|
      ask (0 ≤ aProps) <|
      ask (List.length few257 + List.length ([andV .u8 (List.getD t (Int.toNat i260) 0) (IntKind.u8.wrap ((shlV .u8 1 aProps) - 1))] : List Int) ≤ 1000000000) <|
      ask (in64 (i260 + 1)) <|
      law16_PartClasses_l4 N aProps t m300 (few257 ++ ([andV .u8 (List.getD t (Int.toNat i260) 0) (IntKind.u8.wrap ((shlV .u8 1 aProps) - 1))] : List Int)) (i260 + 1)
    else
      some few257
def law16_PartClasses_j5 (N : Nat) (aAccept : List Bool) (r31 : (List Int) × Int) (r342 : Int × Bool) (r351 : Int × Bool) : Option Bool :=
    if r342.2 = true then
      if r351.2 = true then
        ask (idx r342.1 (List.length aAccept)) <|
        ask (idx r351.1 (List.length aAccept)) <|
        if (List.getD aAccept (Int.toNat r342.1) false) = (List.getD aAccept (Int.toNat r351.1) false) then
          ask (idx r342.1 (List.length r31.1)) <|
          ask (idx r351.1 (List.length r31.1)) <|
          some (((List.getD r31.1 (Int.toNat r342.1) 0) : Int) != (List.getD r31.1 (Int.toNat r351.1) 0))
        else
          some true
      else
        some true
    else
      some true
def law16_PartClasses (N : Nat) (aProps : Int) (aAccept : List Bool) (aGuard : List Int) (aNodes : List Nd) (p : Int) (q : Int) (t : List Int) : Option Bool :=
  Option.bind (law16_awake N) fun r22 =>
  Option.bind (part_Classes N aProps aAccept aGuard aNodes) fun r31 =>
  Option.bind (law16_PartClasses_j0 N aProps aAccept aGuard aNodes r31) fun x55 =>
  if x55 = true then
    some r22
  else
    Option.bind (law16_PartClasses_j1 N aAccept r31) fun x76 =>
    if x76 = true then
      some false
    else
      Option.bind (kit_Pick N p (((List.length aAccept) : Nat) : Int)) fun r85 =>
      Option.bind (kit_Pick N q (((List.length aAccept) : Nat) : Int)) fun r94 =>
      Option.bind (part_Parts N aProps aAccept aGuard aNodes r85 r94) fun r103 =>
      Option.bind (law16_PartClasses_j2 N r31 r85 r94 r103) fun x129 =>
      if x129 = true then
        some false
      else
        if r103.2.1 = true then
          Option.bind (law16_led N aProps aAccept aGuard aNodes r85 r103.1) fun r150 =>
          Option.bind (law16_led N aProps aAccept aGuard aNodes r94 r103.1) fun r159 =>
          Option.bind (law16_PartClasses_j3 N aAccept r22 r150 r159) fun x192 =>
          some x192
        else
          Option.bind (law16_PartClasses_l4 N aProps t N [] 0) fun x301 =>
          Option.bind (law16_led N aProps aAccept aGuard aNodes r85 x301) fun r342 =>
          Option.bind (law16_led N aProps aAccept aGuard aNodes r94 x301) fun r351 =>
          Option.bind (law16_PartClasses_j5 N aAccept r31 r342 r351) fun x388 =>
          if x388 = true then
            some false
          else
            some r22
set_option maxRecDepth 100000 in
set_option maxHeartbeats 4000000 in
theorem law16_PartClasses_calls {N : Nat} {S Fa : Nat → Prop} {w0 : World} {r : Bool} (A1 : Option Addr) (c2 : Nat) (A5 : Option Addr) (c6 : Nat) (A9 : Option Addr) (c10 : Nat) (A13 : Option Addr) (c14 : Nat) (aProps : Int) (aAccept : List Bool) (aGuard : List Int) (aNodes : List Nd) (p : Int) (q : Int) (t : List Int) (hk3 : List.length aAccept ≤ c2) (hk7 : List.length aGuard ≤ c6) (hk11 : List.length aNodes ≤ c10) (hk15 : List.length t ≤ c14) (H : Hp S Fa w0 w0 [.ro false cBool A1 aAccept, .ro false (cInt .i64) A5 aGuard, .ro false cNode A9 aNodes, .ro false (cInt .u8) A13 t]) (hP : law16_PartClasses N aProps aAccept aGuard aNodes p q t = some r) :
    Calls Try.prog 3 #[.agg #[.int .i64 aProps, .slice A1 (List.length aAccept) c2, .slice A5 (List.length aGuard) c6, .slice A9 (List.length aNodes) c10], .int .i64 p, .int .i64 q, .slice A13 (List.length t) c14] w0 fun e w' => ∃ v, e = .returned v ∧ v = .bool r ∧ Hp S Fa w0 w' [] := by
 refine enterV (n := 178) Try.func3 rfl rfl rfl ?_
 intro a E
 replace E := E.pick [(0, .agg #[.int .i64 aProps, .slice A1 (List.length aAccept) c2, .slice A5 (List.length aGuard) c6, .slice A9 (List.length aNodes) c10]), (1, .int .i64 p), (2, .int .i64 q), (3, .slice A13 (List.length t) c14)] ⟨rfl, rfl, rfl, rfl, trivial⟩
 rw [law16_PartClasses] at hP
 refine wp_seq ?_
 refine wp_region_lit ?_
 refine h_box H E rfl rfl rfl ?_
 intro w18 g17 a hc19 hg21 H_ E_
 replace E := E_ _ rfl; clear E_
 replace H := H_; clear H_; try dsimp only [setn, addE, goneL] at H
 refine vr tbok 1 [] [(1, .int .i64 p), (2, .int .i64 q), (3, .slice A13 (List.length t) c14), (4, .pointer (some ⟨g17, 0, none⟩))] [] E (by kernel_rfl) trivial ?_
 clear E; intro a E
 refine wpList_nil ?_
 refine th_n ?_
 refine wp_seq ?_
 refine wp_region_lit ?_
 obtain ⟨r22, h23, hP⟩ := bind_inv hP
 obtain ⟨Fa24, Hc25, hb26⟩ := H.call [] [] rfl rfl trivial
 refine e_call E rfl rfl Try.func6 rfl rfl rfl (law16_awake_calls    Hc25 h23) ?_
 rintro v27 w28 a ⟨rfl, HR29⟩ E_
 replace E := E_ _ rfl; clear E_
 obtain ⟨H_, hc30⟩ := hb26 _ _ HR29 rfl
 replace H := H_; clear H_; try dsimp only [setn, addE, goneL] at H
 refine vr tbok 1 [] [(1, .int .i64 p), (2, .int .i64 q), (3, .slice A13 (List.length t) c14), (4, .pointer (some ⟨g17, 0, none⟩)), (9, .bool r22)] [] E (by kernel_rfl) trivial ?_
 clear E; intro a E
 refine wpList_nil ?_
 refine th_n ?_
 refine wp_seq ?_
 refine wp_region_lit ?_
 refine vr tbok 1 [.agg #[.int .i64 aProps, .slice A1 (List.length aAccept) c2, .slice A5 (List.length aGuard) c6, .slice A9 (List.length aNodes) c10]] [(1, .int .i64 p), (2, .int .i64 q), (3, .slice A13 (List.length t) c14), (4, .pointer (some ⟨g17, 0, none⟩)), (9, .bool r22), (28, .agg #[.int .i64 aProps, .slice A1 (List.length aAccept) c2, .slice A5 (List.length aGuard) c6, .slice A9 (List.length aNodes) c10])] [cellsAt w28 g17 (0) [.int .i64 aProps, .slice A1 (List.length aAccept) c2, .slice A5 (List.length aGuard) c6, .slice A9 (List.length aNodes) c10]] E (by kernel_rfl) ((H.box 4 rfl).sub 0 _ rfl) ?_
 clear E; intro a E
 obtain ⟨r31, h32, hP⟩ := bind_inv hP
 obtain ⟨Fa33, Hc34, hb35⟩ := H.call [] [(0, false), (1, false), (2, false)] rfl rfl trivial
 refine e_call E rfl rfl Try.func7 rfl rfl rfl (part_Classes_calls A1 c2 A5 c6 A9 c10 aProps aAccept aGuard aNodes hk3 hk7 hk11 Hc34 h32) ?_
 rintro v36 w37 a ⟨A40, c41, rfl, HR38⟩ E_
 replace E := E_ _ rfl; clear E_
 obtain ⟨H_, hc39⟩ := hb35 _ _ HR38 rfl
 replace H := H_; clear H_; try dsimp only [setn, addE, goneL] at H
 refine vr tbok 5 [] [(1, .int .i64 p), (2, .int .i64 q), (3, .slice A13 (List.length t) c14), (4, .pointer (some ⟨g17, 0, none⟩)), (9, .bool r22), (10, .slice A40 (List.length r31.1) c41), (11, .int .i64 r31.2)] [] E (by kernel_rfl) trivial ?_
 clear E; intro a E
 refine wpList_nil ?_
 refine th_n ?_
 refine wp_seq ?_
 refine wp_seq ?_
 obtain ⟨x55, h56, hK57⟩ := bind_inv hP
 clear hP
 refine meet_cut (fun a w59 => ∃ (x58 : Bool), Fr a 178 [(1, .int .i64 p), (2, .int .i64 q), (3, .slice A13 (List.length t) c14), (4, .pointer (some ⟨g17, 0, none⟩)), (9, .bool r22), (10, .slice A40 (List.length r31.1) c41), (38, .bool x58)] ∧ Hp S Fa w0 w59 [.ro false (cInt .u8) A13 t, .ro false cBool A1 aAccept, .ro false (cInt .i64) A5 aGuard, .ro false cNode A9 aNodes, .box g17 26 [.int .i64 aProps, .slice A1 (List.length aAccept) c2, .slice A5 (List.length aGuard) c6, .slice A9 (List.length aNodes) c10], .row true (cInt .i64) 3 A40 c41 r31.1] ∧ x55 = x58) ?_ ?_
 ·
  have hP := h56; clear h56; rw [law16_PartClasses_j0] at hP
  refine wp_region_lit ?_
  refine vr tbok 1 [.agg #[.int .i64 aProps, .slice A1 (List.length aAccept) c2, .slice A5 (List.length aGuard) c6, .slice A9 (List.length aNodes) c10]] [(1, .int .i64 p), (2, .int .i64 q), (3, .slice A13 (List.length t) c14), (4, .pointer (some ⟨g17, 0, none⟩)), (9, .bool r22), (10, .slice A40 (List.length r31.1) c41), (11, .int .i64 r31.2), (32, .agg #[.int .i64 aProps, .slice A1 (List.length aAccept) c2, .slice A5 (List.length aGuard) c6, .slice A9 (List.length aNodes) c10])] [cellsAt w37 g17 (0) [.int .i64 aProps, .slice A1 (List.length aAccept) c2, .slice A5 (List.length aGuard) c6, .slice A9 (List.length aNodes) c10]] E (by kernel_rfl) ((H.box 4 rfl).sub 0 _ rfl) ?_
  clear E; intro a E
  obtain ⟨r60, h61, hP⟩ := bind_inv hP
  obtain ⟨Fa62, Hc63, hb64⟩ := H.call [] [(0, false), (1, false), (2, false)] rfl rfl trivial
  refine e_call E rfl rfl Try.func8 rfl rfl rfl (law16_Small_calls A1 c2 A5 c6 A9 c10 aProps aAccept aGuard aNodes hk3 hk7 hk11 Hc63 h61) ?_
  rintro v65 w66 a ⟨rfl, HR67⟩ E_
  replace E := E_ _ rfl; clear E_
  obtain ⟨H_, hc68⟩ := hb64 _ _ HR67 rfl
  replace H := H_; clear H_; try dsimp only [setn, addE, goneL] at H
  refine vr tbok 2 [] [(1, .int .i64 p), (2, .int .i64 q), (3, .slice A13 (List.length t) c14), (4, .pointer (some ⟨g17, 0, none⟩)), (9, .bool r22), (10, .slice A40 (List.length r31.1) c41), (11, .int .i64 r31.2), (35, .bool (!r60))] [] E (by kernel_rfl) trivial ?_
  clear E; intro a E
  refine E.cases (t := 35) rfl (fun hb_ E_ => ?_) (fun hb_ E_ => ?_)
  ·
   replace E := E_; clear E_
   have h69 : ¬ (r60 = true) := (ne_true_of_eq_false (not_t hb_))
   clear hb_; replace hP := ite_f h69 hP
   refine vr tbok 3 [] [(1, .int .i64 p), (2, .int .i64 q), (3, .slice A13 (List.length t) c14), (4, .pointer (some ⟨g17, 0, none⟩)), (9, .bool r22), (10, .slice A40 (List.length r31.1) c41), (38, .bool true)] [] E (by kernel_rfl) trivial ?_
   clear E; intro a E
   refine wpList_nil ?_
   have hx_ := Option.some.inj hP
   exact .inl ⟨rfl, true, E.pick _ ⟨rfl, rfl, rfl, rfl, rfl, rfl, rfl, trivial⟩, H.sel [3, 0, 1, 2, 4, 5] rfl, hx_.symm⟩
  replace E := E_; clear E_
  have h70 : r60 = true := (not_f hb_)
  clear hb_; replace hP := ite_t h70 hP
  refine vr tbok 3 [] [(1, .int .i64 p), (2, .int .i64 q), (3, .slice A13 (List.length t) c14), (4, .pointer (some ⟨g17, 0, none⟩)), (9, .bool r22), (10, .slice A40 (List.length r31.1) c41), (38, .bool ((r31.2 : Int) != 0))] [] E (by kernel_rfl) trivial ?_
  clear E; intro a E
  refine wpList_nil ?_
  have hx_ := Option.some.inj hP
  exact .inl ⟨rfl, (r31.2 : Int) != 0, E.pick _ ⟨rfl, rfl, rfl, rfl, rfl, rfl, rfl, trivial⟩, H.sel [3, 0, 1, 2, 4, 5] rfl, hx_.symm⟩
 clear E H h56; rintro a w59 ⟨x58, E, H, hx_⟩
 subst hx_; have hP := hK57; clear hK57
 refine th_n ?_
 refine E.cases (t := 38) rfl (fun hb_ E_ => ?_) (fun hb_ E_ => ?_)
 ·
  replace E := E_; clear E_
  have h71 : x55 = true := hb_
  clear hb_; replace hP := ite_t h71 hP
  refine c_true E rfl ?_
  refine wp_seq ?_
  refine wp_region_lit ?_
  refine vr tbok 2 [] [(8, .bool r22)] [] E (by kernel_rfl) trivial ?_
  clear E; intro a E
  refine wpList_nil ?_
  refine th_n ?_
  refine wp_ret ?_
  refine th_ret ?_
  obtain rfl := Option.some.inj hP
  refine ret1 E rfl rfl ?_
  exact ⟨_, rfl, rfl, H.sel [] rfl⟩
 replace E := E_; clear E_
 have h72 : ¬ (x55 = true) := (ne_true_of_eq_false hb_)
 clear hb_; replace hP := ite_f h72 hP
 refine c_false E rfl ?_
 refine wp_skip ?_
 refine th_n ?_
 refine wp_seq ?_
 refine wp_region_lit ?_
 refine vr tbok 4 [.slice A1 (List.length aAccept) c2] [(1, .int .i64 p), (2, .int .i64 q), (3, .slice A13 (List.length t) c14), (4, .pointer (some ⟨g17, 0, none⟩)), (9, .bool r22), (10, .slice A40 (List.length r31.1) c41), (12, .int .i64 (((List.length aAccept) : Nat) : Int))] [World.cell? w59 ⟨g17, 1, none⟩ = some (.slice A1 (List.length aAccept) c2)] E (by kernel_rfl) ((H.box 4 rfl).cell (j := 1) rfl) ?_
 clear E; intro a E
 refine wpList_nil ?_
 refine th_n ?_
 refine wp_seq ?_
 refine wp_seq ?_
 obtain ⟨x76, h77, hK78⟩ := bind_inv hP
 clear hP
 refine meet_cut (fun a w80 => ∃ (x79 : Bool), Fr a 178 [(1, .int .i64 p), (2, .int .i64 q), (3, .slice A13 (List.length t) c14), (4, .pointer (some ⟨g17, 0, none⟩)), (9, .bool r22), (10, .slice A40 (List.length r31.1) c41), (12, .int .i64 (((List.length aAccept) : Nat) : Int)), (50, .bool x79)] ∧ Hp S Fa w0 w80 [.ro false (cInt .u8) A13 t, .ro false cBool A1 aAccept, .ro false (cInt .i64) A5 aGuard, .ro false cNode A9 aNodes, .box g17 26 [.int .i64 aProps, .slice A1 (List.length aAccept) c2, .slice A5 (List.length aGuard) c6, .slice A9 (List.length aNodes) c10], .row true (cInt .i64) 3 A40 c41 r31.1] ∧ x76 = x79) ?_ ?_
 ·
  have hP := h77; clear h77; rw [law16_PartClasses_j1] at hP
  refine wp_region_lit ?_
  refine vr tbok 5 [] [(1, .int .i64 p), (2, .int .i64 q), (3, .slice A13 (List.length t) c14), (4, .pointer (some ⟨g17, 0, none⟩)), (9, .bool r22), (10, .slice A40 (List.length r31.1) c41), (12, .int .i64 (((List.length aAccept) : Nat) : Int)), (47, .bool (((((List.length r31.1) : Nat) : Int) : Int) != (((List.length aAccept) : Nat) : Int)))] [] E (by kernel_rfl) trivial ?_
  clear E; intro a E
  refine E.cases (t := 47) rfl (fun hb_ E_ => ?_) (fun hb_ E_ => ?_)
  ·
   replace E := E_; clear E_
   have h81 : ¬ (((((List.length r31.1) : Nat) : Int) : Int) = (((List.length aAccept) : Nat) : Int)) := bne_iff_ne.1 hb_
   clear hb_; replace hP := ite_f h81 hP
   refine vr tbok 3 [] [(1, .int .i64 p), (2, .int .i64 q), (3, .slice A13 (List.length t) c14), (4, .pointer (some ⟨g17, 0, none⟩)), (9, .bool r22), (10, .slice A40 (List.length r31.1) c41), (12, .int .i64 (((List.length aAccept) : Nat) : Int)), (50, .bool true)] [] E (by kernel_rfl) trivial ?_
   clear E; intro a E
   refine wpList_nil ?_
   have hx_ := Option.some.inj hP
   exact .inl ⟨rfl, true, E.pick _ ⟨rfl, rfl, rfl, rfl, rfl, rfl, rfl, rfl, trivial⟩, H.sel [0, 1, 2, 3, 4, 5] rfl, hx_.symm⟩
  replace E := E_; clear E_
  have h82 : ((((List.length r31.1) : Nat) : Int) : Int) = (((List.length aAccept) : Nat) : Int) := bne_eq_false_iff_eq.1 hb_
  clear hb_; replace hP := ite_t h82 hP
  refine vr tbok 3 [] [(1, .int .i64 p), (2, .int .i64 q), (3, .slice A13 (List.length t) c14), (4, .pointer (some ⟨g17, 0, none⟩)), (9, .bool r22), (10, .slice A40 (List.length r31.1) c41), (12, .int .i64 (((List.length aAccept) : Nat) : Int)), (50, .bool (((((List.length aAccept) : Nat) : Int) : Int) == 0))] [] E (by kernel_rfl) trivial ?_
  clear E; intro a E
  refine wpList_nil ?_
  have hx_ := Option.some.inj hP
  exact .inl ⟨rfl, ((((List.length aAccept) : Nat) : Int) : Int) == 0, E.pick _ ⟨rfl, rfl, rfl, rfl, rfl, rfl, rfl, rfl, trivial⟩, H.sel [0, 1, 2, 3, 4, 5] rfl, hx_.symm⟩
 clear E H h77; rintro a w80 ⟨x79, E, H, hx_⟩
 subst hx_; have hP := hK78; clear hK78
 refine th_n ?_
 refine E.cases (t := 50) rfl (fun hb_ E_ => ?_) (fun hb_ E_ => ?_)
 ·
  replace E := E_; clear E_
  have h83 : x76 = true := hb_
  clear hb_; replace hP := ite_t h83 hP
  refine c_true E rfl ?_
  refine wp_seq ?_
  refine wp_region_lit ?_
  refine vr tbok 1 [] [(8, .bool false)] [] E (by kernel_rfl) trivial ?_
  clear E; intro a E
  refine wpList_nil ?_
  refine th_n ?_
  refine wp_ret ?_
  refine th_ret ?_
  obtain rfl := Option.some.inj hP
  refine ret1 E rfl rfl ?_
  exact ⟨_, rfl, rfl, H.sel [] rfl⟩
 replace E := E_; clear E_
 have h84 : ¬ (x76 = true) := (ne_true_of_eq_false hb_)
 clear hb_; replace hP := ite_f h84 hP
 refine c_false E rfl ?_
 refine wp_skip ?_
 refine th_n ?_
 refine wp_seq ?_
 refine wp_region_lit ?_
 refine vr tbok 2 [] [(2, .int .i64 q), (3, .slice A13 (List.length t) c14), (4, .pointer (some ⟨g17, 0, none⟩)), (9, .bool r22), (10, .slice A40 (List.length r31.1) c41), (12, .int .i64 (((List.length aAccept) : Nat) : Int)), (51, .int .i64 p), (52, .int .i64 (((List.length aAccept) : Nat) : Int))] [] E (by kernel_rfl) trivial ?_
 clear E; intro a E
 obtain ⟨r85, h86, hP⟩ := bind_inv hP
 obtain ⟨Fa87, Hc88, hb89⟩ := H.call [] [] rfl rfl trivial
 refine e_call E rfl rfl Try.func9 rfl rfl rfl (kit_Pick_calls  p (((List.length aAccept) : Nat) : Int)  Hc88 h86) ?_
 rintro v90 w91 a ⟨rfl, HR92⟩ E_
 replace E := E_ _ rfl; clear E_
 obtain ⟨H_, hc93⟩ := hb89 _ _ HR92 rfl
 replace H := H_; clear H_; try dsimp only [setn, addE, goneL] at H
 refine vr tbok 2 [] [(3, .slice A13 (List.length t) c14), (4, .pointer (some ⟨g17, 0, none⟩)), (9, .bool r22), (10, .slice A40 (List.length r31.1) c41), (53, .int .i64 r85), (54, .int .i64 q), (55, .int .i64 (((List.length aAccept) : Nat) : Int))] [] E (by kernel_rfl) trivial ?_
 clear E; intro a E
 obtain ⟨r94, h95, hP⟩ := bind_inv hP
 obtain ⟨Fa96, Hc97, hb98⟩ := H.call [] [] rfl rfl trivial
 refine e_call E rfl rfl Try.func9 rfl rfl rfl (kit_Pick_calls  q (((List.length aAccept) : Nat) : Int)  Hc97 h95) ?_
 rintro v99 w100 a ⟨rfl, HR101⟩ E_
 replace E := E_ _ rfl; clear E_
 obtain ⟨H_, hc102⟩ := hb98 _ _ HR101 rfl
 replace H := H_; clear H_; try dsimp only [setn, addE, goneL] at H
 refine vr tbok 2 [] [(1, .int .i64 r85), (2, .int .i64 r94), (3, .slice A13 (List.length t) c14), (4, .pointer (some ⟨g17, 0, none⟩)), (9, .bool r22), (10, .slice A40 (List.length r31.1) c41)] [] E (by kernel_rfl) trivial ?_
 clear E; intro a E
 refine wpList_nil ?_
 refine th_n ?_
 refine wp_seq ?_
 refine wp_region_lit ?_
 refine vr tbok 3 [.agg #[.int .i64 aProps, .slice A1 (List.length aAccept) c2, .slice A5 (List.length aGuard) c6, .slice A9 (List.length aNodes) c10]] [(1, .int .i64 r85), (2, .int .i64 r94), (3, .slice A13 (List.length t) c14), (4, .pointer (some ⟨g17, 0, none⟩)), (9, .bool r22), (10, .slice A40 (List.length r31.1) c41), (58, .agg #[.int .i64 aProps, .slice A1 (List.length aAccept) c2, .slice A5 (List.length aGuard) c6, .slice A9 (List.length aNodes) c10]), (59, .int .i64 r85), (60, .int .i64 r94)] [cellsAt w100 g17 (0) [.int .i64 aProps, .slice A1 (List.length aAccept) c2, .slice A5 (List.length aGuard) c6, .slice A9 (List.length aNodes) c10]] E (by kernel_rfl) ((H.box 4 rfl).sub 0 _ rfl) ?_
 clear E; intro a E
 obtain ⟨r103, h104, hP⟩ := bind_inv hP
 obtain ⟨Fa105, Hc106, hb107⟩ := H.call [] [(1, false), (2, false), (3, false)] rfl rfl trivial
 refine e_call E rfl rfl Try.func10 rfl rfl rfl (part_Parts_calls A1 c2 A5 c6 A9 c10 aProps aAccept aGuard aNodes r85 r94 hk3 hk7 hk11 Hc106 h104) ?_
 rintro v108 w109 a ⟨A112, c113, rfl, HR110⟩ E_
 replace E := E_ _ rfl; clear E_
 obtain ⟨H_, hc111⟩ := hb107 _ _ HR110 rfl
 replace H := H_; clear H_; try dsimp only [setn, addE, goneL] at H
 refine vr tbok 7 [] [(1, .int .i64 r85), (2, .int .i64 r94), (3, .slice A13 (List.length t) c14), (4, .pointer (some ⟨g17, 0, none⟩)), (9, .bool r22), (10, .slice A40 (List.length r31.1) c41), (13, .slice A112 (List.length r103.1) c113), (14, .bool r103.2.1), (15, .int .i64 r103.2.2)] [] E (by kernel_rfl) trivial ?_
 clear E; intro a E
 refine wpList_nil ?_
 refine th_n ?_
 refine wp_seq ?_
 refine wp_seq ?_
 obtain ⟨x129, h130, hK131⟩ := bind_inv hP
 clear hP
 refine meet_cut (fun a w133 => ∃ (x132 : Bool), Fr a 178 [(1, .int .i64 r85), (2, .int .i64 r94), (3, .slice A13 (List.length t) c14), (4, .pointer (some ⟨g17, 0, none⟩)), (9, .bool r22), (10, .slice A40 (List.length r31.1) c41), (13, .slice A112 (List.length r103.1) c113), (14, .bool r103.2.1), (79, .bool x132)] ∧ Hp S Fa w0 w133 [.ro false (cInt .u8) A13 t, .ro false cBool A1 aAccept, .ro false (cInt .i64) A5 aGuard, .ro false cNode A9 aNodes, .box g17 26 [.int .i64 aProps, .slice A1 (List.length aAccept) c2, .slice A5 (List.length aGuard) c6, .slice A9 (List.length aNodes) c10], .row true (cInt .i64) 3 A40 c41 r31.1, .row true (cInt .u8) 38 A112 c113 r103.1] ∧ x129 = x132) ?_ ?_
 ·
  have hP := h130; clear h130; rw [law16_PartClasses_j2] at hP
  by_cases h134 : (r103.2.2 : Int) = 0
  ·
   replace hP := ite_t h134 hP
   obtain ⟨g135, hP⟩ := ask_inv hP
   obtain ⟨b136, e_b136⟩ := H.raddr 5 rfl (idx_pos g135)
   subst e_b136
   obtain ⟨g138, hP⟩ := ask_inv hP
   have HR142 := H
   refine dr_start (S := fun w_ => Chg (atL []) w109 w_) (by kernel_rfl) ?_
   intro w139 hc140
   have HS141 : Chg (atL []) w109 w139 := hc140.mono (fun _ _ h_ => h_.elim)
   replace H := H.ext hc140
   refine dr tbok (by kernel_rfl) [0, 1, 2] [] [(1, .int .i64 r85), (2, .int .i64 r94), (3, .slice A13 (List.length t) c14), (4, .pointer (some ⟨g17, 0, none⟩)), (9, .bool r22), (10, .slice (some ⟨b136, 0, none⟩) (List.length r31.1) c41), (13, .slice A112 (List.length r103.1) c113), (14, .bool r103.2.1), (67, .bool ((r103.2.2 : Int) != 0))] (fun w_ => []) 12 E (fun _ _ => by kernel_rfl) (fun w_ hS_ => trivial) (by kernel_rfl) HS141 ?_
   clear E; intro a E
   replace E := E.same (t := 67) (u := .bool false) rfl (congrArg Value.bool (bne_eq_false_iff_eq.2 h134))
   refine dr tbok (by kernel_rfl) [3, 4, 5, 6, 7, 8, 9, 10, 11, 12, 13, 14] [.int .i64 (List.getD r31.1 (Int.toNat r85) 0), .int .i64 (List.getD r31.1 (Int.toNat r94) 0)] [(1, .int .i64 r85), (2, .int .i64 r94), (3, .slice A13 (List.length t) c14), (4, .pointer (some ⟨g17, 0, none⟩)), (9, .bool r22), (10, .slice (some ⟨b136, 0, none⟩) (List.length r31.1) c41), (13, .slice A112 (List.length r103.1) c113), (14, .bool r103.2.1), (67, .bool false), (79, .bool (r103.2.1 == (((List.getD r31.1 (Int.toNat r85) 0) : Int) == (List.getD r31.1 (Int.toNat r94) 0))))] (fun w_ => [0 ≤ r85 ∧ r85 < (((List.length r31.1) : Nat) : Int), World.cell? w_ ⟨b136, 0 + (Int.toNat r85) * 1, none⟩ = some (.int .i64 (List.getD r31.1 (Int.toNat r85) 0)), 0 ≤ r94 ∧ r94 < (((List.length r31.1) : Nat) : Int), World.cell? w_ ⟨b136, 0 + (Int.toNat r94) * 1, none⟩ = some (.int .i64 (List.getD r31.1 (Int.toNat r94) 0))]) 0 E (fun _ _ => by kernel_rfl) (fun w_ hS_ => ⟨g135, Rds.at1 (HR142.rdk [] hS_ 5 rds_row rfl) 0 g135, g138, Rds.at1 (HR142.rdk [] hS_ 5 rds_row rfl) 0 g138⟩) (by kernel_rfl) HS141 ?_
   clear E; intro a E
   refine dr_done (by kernel_rfl) ?_
   clear HS141 HR142
   have hx_ := Option.some.inj hP
   exact .inl ⟨rfl, r103.2.1 == (((List.getD r31.1 (Int.toNat r85) 0) : Int) == (List.getD r31.1 (Int.toNat r94) 0)), E.pick _ ⟨rfl, rfl, rfl, rfl, rfl, rfl, rfl, rfl, rfl, trivial⟩, H.sel [0, 1, 2, 3, 4, 5, 6] rfl, hx_.symm⟩
  replace hP := ite_f h134 hP
  have HR146 := H
  refine dr_start (S := fun w_ => Chg (atL []) w109 w_) (by kernel_rfl) ?_
  intro w143 hc144
  have HS145 : Chg (atL []) w109 w143 := hc144.mono (fun _ _ h_ => h_.elim)
  replace H := H.ext hc144
  refine dr tbok (by kernel_rfl) [0, 1, 2] [] [(1, .int .i64 r85), (2, .int .i64 r94), (3, .slice A13 (List.length t) c14), (4, .pointer (some ⟨g17, 0, none⟩)), (9, .bool r22), (10, .slice A40 (List.length r31.1) c41), (13, .slice A112 (List.length r103.1) c113), (14, .bool r103.2.1), (67, .bool ((r103.2.2 : Int) != 0))] (fun w_ => []) 12 E (fun _ _ => by kernel_rfl) (fun w_ hS_ => trivial) (by kernel_rfl) HS145 ?_
  clear E; intro a E
  replace E := E.same (t := 67) (u := .bool true) rfl (congrArg Value.bool (bne_iff_ne.2 h134))
  refine dr tbok (by kernel_rfl) [3, 4, 5, 6, 7, 8, 9, 10, 11, 12, 13, 14] [] [(1, .int .i64 r85), (2, .int .i64 r94), (3, .slice A13 (List.length t) c14), (4, .pointer (some ⟨g17, 0, none⟩)), (9, .bool r22), (10, .slice A40 (List.length r31.1) c41), (13, .slice A112 (List.length r103.1) c113), (14, .bool r103.2.1), (67, .bool true), (79, .bool true)] (fun w_ => []) 0 E (fun _ _ => by kernel_rfl) (fun w_ hS_ => trivial) (by kernel_rfl) HS145 ?_
  clear E; intro a E
  refine dr_done (by kernel_rfl) ?_
  clear HS145 HR146
  have hx_ := Option.some.inj hP
  exact .inl ⟨rfl, true, E.pick _ ⟨rfl, rfl, rfl, rfl, rfl, rfl, rfl, rfl, rfl, trivial⟩, H.sel [0, 1, 2, 3, 4, 5, 6] rfl, hx_.symm⟩
 clear E H h130; rintro a w133 ⟨x132, E, H, hx_⟩
 subst hx_; have hP := hK131; clear hK131
 refine th_n ?_
 refine E.cases (t := 79) rfl (fun hb_ E_ => ?_) (fun hb_ E_ => ?_)
 ·
  replace E := E_; clear E_
  have h147 : x129 = true := hb_
  clear hb_; replace hP := ite_t h147 hP
  refine c_true E rfl ?_
  refine wp_seq ?_
  refine wp_region_lit ?_
  refine vr tbok 1 [] [(8, .bool false)] [] E (by kernel_rfl) trivial ?_
  clear E; intro a E
  refine wpList_nil ?_
  refine th_n ?_
  refine wp_ret ?_
  refine th_ret ?_
  obtain rfl := Option.some.inj hP
  refine ret1 E rfl rfl ?_
  exact ⟨_, rfl, rfl, H.sel [] rfl⟩
 replace E := E_; clear E_
 have h148 : ¬ (x129 = true) := (ne_true_of_eq_false hb_)
 clear hb_; replace hP := ite_f h148 hP
 refine c_false E rfl ?_
 refine wp_skip ?_
 refine th_n ?_
 refine wp_seq ?_
 refine wp_seq ?_
 refine wp_region_lit ?_
 refine vr tbok 1 [] [(1, .int .i64 r85), (2, .int .i64 r94), (3, .slice A13 (List.length t) c14), (4, .pointer (some ⟨g17, 0, none⟩)), (9, .bool r22), (10, .slice A40 (List.length r31.1) c41), (13, .slice A112 (List.length r103.1) c113), (80, .bool r103.2.1)] [] E (by kernel_rfl) trivial ?_
 clear E; intro a E
 refine wpList_nil ?_
 refine th_n ?_
 refine E.cases (t := 80) rfl (fun hb_ E_ => ?_) (fun hb_ E_ => ?_)
 ·
  replace E := E_; clear E_
  have h149 : r103.2.1 = true := hb_
  clear hb_; replace hP := ite_t h149 hP
  refine c_true E rfl ?_
  refine wp_seq ?_
  refine wp_region_lit ?_
  refine vr tbok 3 [.agg #[.int .i64 aProps, .slice A1 (List.length aAccept) c2, .slice A5 (List.length aGuard) c6, .slice A9 (List.length aNodes) c10]] [(2, .int .i64 r94), (4, .pointer (some ⟨g17, 0, none⟩)), (9, .bool r22), (13, .slice A112 (List.length r103.1) c113), (82, .agg #[.int .i64 aProps, .slice A1 (List.length aAccept) c2, .slice A5 (List.length aGuard) c6, .slice A9 (List.length aNodes) c10]), (83, .int .i64 r85), (84, .slice A112 (List.length r103.1) c113)] [cellsAt w133 g17 (0) [.int .i64 aProps, .slice A1 (List.length aAccept) c2, .slice A5 (List.length aGuard) c6, .slice A9 (List.length aNodes) c10]] E (by kernel_rfl) ((H.box 4 rfl).sub 0 _ rfl) ?_
  clear E; intro a E
  obtain ⟨r150, h151, hP⟩ := bind_inv hP
  obtain ⟨Fa152, Hc153, hb154⟩ := H.call [] [(1, false), (2, false), (3, false), (6, false)] rfl rfl trivial
  refine e_call E rfl rfl Try.func11 rfl rfl rfl (law16_led_calls A1 c2 A5 c6 A9 c10 A112 c113 aProps aAccept aGuard aNodes r85 r103.1 hk3 hk7 hk11 (H.rcap 6 rfl) Hc153 h151) ?_
  rintro v155 w156 a ⟨rfl, HR157⟩ E_
  replace E := E_ _ rfl; clear E_
  obtain ⟨H_, hc158⟩ := hb154 _ _ HR157 rfl
  replace H := H_; clear H_; try dsimp only [setn, addE, goneL] at H
  refine vr tbok 5 [] [(2, .int .i64 r94), (4, .pointer (some ⟨g17, 0, none⟩)), (9, .bool r22), (13, .slice A112 (List.length r103.1) c113), (16, .int .i64 r150.1), (17, .bool r150.2)] [] E (by kernel_rfl) trivial ?_
  clear E; intro a E
  refine wpList_nil ?_
  refine th_n ?_
  refine wp_seq ?_
  refine wp_region_lit ?_
  refine vr tbok 3 [.agg #[.int .i64 aProps, .slice A1 (List.length aAccept) c2, .slice A5 (List.length aGuard) c6, .slice A9 (List.length aNodes) c10]] [(4, .pointer (some ⟨g17, 0, none⟩)), (9, .bool r22), (16, .int .i64 r150.1), (17, .bool r150.2), (89, .agg #[.int .i64 aProps, .slice A1 (List.length aAccept) c2, .slice A5 (List.length aGuard) c6, .slice A9 (List.length aNodes) c10]), (90, .int .i64 r94), (91, .slice A112 (List.length r103.1) c113)] [cellsAt w156 g17 (0) [.int .i64 aProps, .slice A1 (List.length aAccept) c2, .slice A5 (List.length aGuard) c6, .slice A9 (List.length aNodes) c10]] E (by kernel_rfl) ((H.box 4 rfl).sub 0 _ rfl) ?_
  clear E; intro a E
  obtain ⟨r159, h160, hP⟩ := bind_inv hP
  obtain ⟨Fa161, Hc162, hb163⟩ := H.call [] [(1, false), (2, false), (3, false), (6, false)] rfl rfl trivial
  refine e_call E rfl rfl Try.func11 rfl rfl rfl (law16_led_calls A1 c2 A5 c6 A9 c10 A112 c113 aProps aAccept aGuard aNodes r94 r103.1 hk3 hk7 hk11 (H.rcap 6 rfl) Hc162 h160) ?_
  rintro v164 w165 a ⟨rfl, HR166⟩ E_
  replace E := E_ _ rfl; clear E_
  obtain ⟨H_, hc167⟩ := hb163 _ _ HR166 rfl
  replace H := H_; clear H_; try dsimp only [setn, addE, goneL] at H
  refine vr tbok 5 [] [(4, .pointer (some ⟨g17, 0, none⟩)), (9, .bool r22), (16, .int .i64 r150.1), (17, .bool r150.2), (18, .int .i64 r159.1), (19, .bool r159.2)] [] E (by kernel_rfl) trivial ?_
  clear E; intro a E
  refine wpList_nil ?_
  refine th_n ?_
  refine wp_seq ?_
  obtain ⟨x192, h193, hK194⟩ := bind_inv hP
  clear hP
  refine meet_cut (fun a w196 => ∃ (x195 : Bool), Fr a 178 [(8, .bool x195)] ∧ Hp S Fa w0 w196 [] ∧ x192 = x195) ?_ ?_
  ·
   have hP := h193; clear h193; rw [law16_PartClasses_j3] at hP
   by_cases h197 : r22 = true
   ·
    replace hP := ite_t h197 hP
    by_cases h198 : r150.2 = true
    ·
     replace hP := ite_t h198 hP
     by_cases h199 : r159.2 = true
     ·
      replace hP := ite_t h199 hP
      obtain ⟨g200, hP⟩ := ask_inv hP
      obtain ⟨b201, o202, e_b201⟩ := (H.rd 1 rds_ro).addr (idx_pos g200)
      subst e_b201
      obtain ⟨g203, hP⟩ := ask_inv hP
      have HR207 := H
      refine dr_start (S := fun w_ => Chg (atL []) w165 w_) (by kernel_rfl) ?_
      intro w204 hc205
      have HS206 : Chg (atL []) w165 w204 := hc205.mono (fun _ _ h_ => h_.elim)
      replace H := H.ext hc205
      refine dr tbok (by kernel_rfl) [0, 1] [] [(4, .pointer (some ⟨g17, 0, none⟩)), (16, .int .i64 r150.1), (17, .bool r150.2), (18, .int .i64 r159.1), (19, .bool r159.2), (96, .bool r22)] (fun w_ => []) 19 E (fun _ _ => by kernel_rfl) (fun w_ hS_ => trivial) (by kernel_rfl) HS206 ?_
      clear E; intro a E
      replace E := E.same (t := 96) (u := .bool true) rfl (congrArg Value.bool h197)
      refine dr tbok (by kernel_rfl) [2, 3, 4] [] [(4, .pointer (some ⟨g17, 0, none⟩)), (16, .int .i64 r150.1), (18, .int .i64 r159.1), (19, .bool r159.2), (96, .bool true), (99, .bool r150.2)] (fun w_ => []) 16 E (fun _ _ => by kernel_rfl) (fun w_ hS_ => trivial) (by kernel_rfl) HS206 ?_
      clear E; intro a E
      replace E := E.same (t := 99) (u := .bool true) rfl (congrArg Value.bool h198)
      refine dr tbok (by kernel_rfl) [5, 6, 7] [] [(4, .pointer (some ⟨g17, 0, none⟩)), (16, .int .i64 r150.1), (18, .int .i64 r159.1), (96, .bool true), (99, .bool true), (102, .bool r159.2)] (fun w_ => []) 13 E (fun _ _ => by kernel_rfl) (fun w_ hS_ => trivial) (by kernel_rfl) HS206 ?_
      clear E; intro a E
      replace E := E.same (t := 102) (u := .bool true) rfl (congrArg Value.bool h199)
      refine dr tbok (by kernel_rfl) [8, 9, 10, 11, 12, 13, 14, 15, 16, 17, 18, 19, 20] [.slice (some ⟨b201, o202, none⟩) (List.length aAccept) c2, .bool (List.getD aAccept (Int.toNat r150.1) false), .slice (some ⟨b201, o202, none⟩) (List.length aAccept) c2, .bool (List.getD aAccept (Int.toNat r159.1) false)] [(8, .bool (!((List.getD aAccept (Int.toNat r150.1) false) == (List.getD aAccept (Int.toNat r159.1) false)))), (96, .bool true), (99, .bool true), (102, .bool true)] (fun w_ => [World.cell? w_ ⟨g17, 1, none⟩ = some (.slice (some ⟨b201, o202, none⟩) (List.length aAccept) c2), 0 ≤ r150.1 ∧ r150.1 < (((List.length aAccept) : Nat) : Int), World.cell? w_ ⟨b201, o202 + (Int.toNat r150.1) * 1, none⟩ = some (.bool (List.getD aAccept (Int.toNat r150.1) false)), World.cell? w_ ⟨g17, 1, none⟩ = some (.slice (some ⟨b201, o202, none⟩) (List.length aAccept) c2), 0 ≤ r159.1 ∧ r159.1 < (((List.length aAccept) : Nat) : Int), World.cell? w_ ⟨b201, o202 + (Int.toNat r159.1) * 1, none⟩ = some (.bool (List.getD aAccept (Int.toNat r159.1) false))]) 0 E (fun _ _ => by kernel_rfl) (fun w_ hS_ => ⟨(HR207.boxk [] hS_ 4 rfl rfl).cell (j := 1) rfl, g200, Rds.at1 (HR207.rdk [] hS_ 1 rds_ro rfl) false g200, (HR207.boxk [] hS_ 4 rfl rfl).cell (j := 1) rfl, g203, Rds.at1 (HR207.rdk [] hS_ 1 rds_ro rfl) false g203⟩) (by kernel_rfl) HS206 ?_
      clear E; intro a E
      refine dr_done (by kernel_rfl) ?_
      clear HS206 HR207
      have hx_ := Option.some.inj hP
      exact .inl ⟨rfl, !((List.getD aAccept (Int.toNat r150.1) false) == (List.getD aAccept (Int.toNat r159.1) false)), E.pick _ ⟨rfl, trivial⟩, H.sel [] rfl, hx_.symm⟩
     replace hP := ite_f h199 hP
     have HR211 := H
     refine dr_start (S := fun w_ => Chg (atL []) w165 w_) (by kernel_rfl) ?_
     intro w208 hc209
     have HS210 : Chg (atL []) w165 w208 := hc209.mono (fun _ _ h_ => h_.elim)
     replace H := H.ext hc209
     refine dr tbok (by kernel_rfl) [0, 1] [] [(4, .pointer (some ⟨g17, 0, none⟩)), (16, .int .i64 r150.1), (17, .bool r150.2), (18, .int .i64 r159.1), (19, .bool r159.2), (96, .bool r22)] (fun w_ => []) 19 E (fun _ _ => by kernel_rfl) (fun w_ hS_ => trivial) (by kernel_rfl) HS210 ?_
     clear E; intro a E
     replace E := E.same (t := 96) (u := .bool true) rfl (congrArg Value.bool h197)
     refine dr tbok (by kernel_rfl) [2, 3, 4] [] [(4, .pointer (some ⟨g17, 0, none⟩)), (16, .int .i64 r150.1), (18, .int .i64 r159.1), (19, .bool r159.2), (96, .bool true), (99, .bool r150.2)] (fun w_ => []) 16 E (fun _ _ => by kernel_rfl) (fun w_ hS_ => trivial) (by kernel_rfl) HS210 ?_
     clear E; intro a E
     replace E := E.same (t := 99) (u := .bool true) rfl (congrArg Value.bool h198)
     refine dr tbok (by kernel_rfl) [5, 6, 7] [] [(4, .pointer (some ⟨g17, 0, none⟩)), (16, .int .i64 r150.1), (18, .int .i64 r159.1), (96, .bool true), (99, .bool true), (102, .bool r159.2)] (fun w_ => []) 13 E (fun _ _ => by kernel_rfl) (fun w_ hS_ => trivial) (by kernel_rfl) HS210 ?_
     clear E; intro a E
     replace E := E.same (t := 102) (u := .bool false) rfl (congrArg Value.bool (eq_false_of_ne_true h199))
     refine dr tbok (by kernel_rfl) [8, 9, 10, 11, 12, 13, 14, 15, 16, 17, 18, 19, 20] [] [(8, .bool false), (96, .bool true), (99, .bool true), (102, .bool false)] (fun w_ => []) 0 E (fun _ _ => by kernel_rfl) (fun w_ hS_ => trivial) (by kernel_rfl) HS210 ?_
     clear E; intro a E
     refine dr_done (by kernel_rfl) ?_
     clear HS210 HR211
     have hx_ := Option.some.inj hP
     exact .inl ⟨rfl, false, E.pick _ ⟨rfl, trivial⟩, H.sel [] rfl, hx_.symm⟩
    replace hP := ite_f h198 hP
    have HR215 := H
    refine dr_start (S := fun w_ => Chg (atL []) w165 w_) (by kernel_rfl) ?_
    intro w212 hc213
    have HS214 : Chg (atL []) w165 w212 := hc213.mono (fun _ _ h_ => h_.elim)
    replace H := H.ext hc213
    refine dr tbok (by kernel_rfl) [0, 1] [] [(4, .pointer (some ⟨g17, 0, none⟩)), (16, .int .i64 r150.1), (17, .bool r150.2), (18, .int .i64 r159.1), (19, .bool r159.2), (96, .bool r22)] (fun w_ => []) 19 E (fun _ _ => by kernel_rfl) (fun w_ hS_ => trivial) (by kernel_rfl) HS214 ?_
    clear E; intro a E
    replace E := E.same (t := 96) (u := .bool true) rfl (congrArg Value.bool h197)
    refine dr tbok (by kernel_rfl) [2, 3, 4] [] [(4, .pointer (some ⟨g17, 0, none⟩)), (16, .int .i64 r150.1), (18, .int .i64 r159.1), (19, .bool r159.2), (96, .bool true), (99, .bool r150.2)] (fun w_ => []) 16 E (fun _ _ => by kernel_rfl) (fun w_ hS_ => trivial) (by kernel_rfl) HS214 ?_
    clear E; intro a E
    replace E := E.same (t := 99) (u := .bool false) rfl (congrArg Value.bool (eq_false_of_ne_true h198))
    refine dr tbok (by kernel_rfl) [5, 6, 7, 8, 9, 10, 11, 12, 13, 14, 15, 16, 17, 18, 19, 20] [] [(8, .bool false), (96, .bool true), (99, .bool false)] (fun w_ => []) 0 E (fun _ _ => by kernel_rfl) (fun w_ hS_ => trivial) (by kernel_rfl) HS214 ?_
    clear E; intro a E
    refine dr_done (by kernel_rfl) ?_
    clear HS214 HR215
    have hx_ := Option.some.inj hP
    exact .inl ⟨rfl, false, E.pick _ ⟨rfl, trivial⟩, H.sel [] rfl, hx_.symm⟩
   replace hP := ite_f h197 hP
   have HR219 := H
   refine dr_start (S := fun w_ => Chg (atL []) w165 w_) (by kernel_rfl) ?_
   intro w216 hc217
   have HS218 : Chg (atL []) w165 w216 := hc217.mono (fun _ _ h_ => h_.elim)
   replace H := H.ext hc217
   refine dr tbok (by kernel_rfl) [0, 1] [] [(4, .pointer (some ⟨g17, 0, none⟩)), (16, .int .i64 r150.1), (17, .bool r150.2), (18, .int .i64 r159.1), (19, .bool r159.2), (96, .bool r22)] (fun w_ => []) 19 E (fun _ _ => by kernel_rfl) (fun w_ hS_ => trivial) (by kernel_rfl) HS218 ?_
   clear E; intro a E
   replace E := E.same (t := 96) (u := .bool false) rfl (congrArg Value.bool (eq_false_of_ne_true h197))
   refine dr tbok (by kernel_rfl) [2, 3, 4, 5, 6, 7, 8, 9, 10, 11, 12, 13, 14, 15, 16, 17, 18, 19, 20] [] [(8, .bool false), (96, .bool false)] (fun w_ => []) 0 E (fun _ _ => by kernel_rfl) (fun w_ hS_ => trivial) (by kernel_rfl) HS218 ?_
   clear E; intro a E
   refine dr_done (by kernel_rfl) ?_
   clear HS218 HR219
   have hx_ := Option.some.inj hP
   exact .inl ⟨rfl, false, E.pick _ ⟨rfl, trivial⟩, H.sel [] rfl, hx_.symm⟩
  clear E H h193; rintro a w196 ⟨x195, E, H, hx_⟩
  subst hx_; have hP := hK194; clear hK194
  refine th_n ?_
  refine wp_ret ?_
  refine th_ret ?_
  obtain rfl := Option.some.inj hP
  refine ret1 E rfl rfl ?_
  exact ⟨_, rfl, rfl, H.sel [] rfl⟩
 replace E := E_; clear E_
 have h220 : ¬ (r103.2.1 = true) := (ne_true_of_eq_false hb_)
 clear hb_; replace hP := ite_f h220 hP
 refine c_false E rfl ?_
 refine wp_skip ?_
 refine th_n ?_
 refine wp_seq ?_
 refine wp_region_lit ?_
 refine vr tbok 1 [] [(1, .int .i64 r85), (2, .int .i64 r94), (3, .slice A13 (List.length t) c14), (4, .pointer (some ⟨g17, 0, none⟩)), (9, .bool r22), (10, .slice A40 (List.length r31.1) c41), (20, .slice none 0 0)] [] E (by kernel_rfl) trivial ?_
 clear E; intro a E
 refine wpList_nil ?_
 refine th_n ?_
 refine wp_seq ?_
 refine wp_seq ?_
 refine wp_region_lit ?_
 refine vr tbok 1 [] [(1, .int .i64 r85), (2, .int .i64 r94), (3, .slice A13 (List.length t) c14), (4, .pointer (some ⟨g17, 0, none⟩)), (9, .bool r22), (10, .slice A40 (List.length r31.1) c41), (20, .slice none 0 0), (21, .int .i64 0)] [] E (by kernel_rfl) trivial ?_
 clear E; intro a E
 refine wpList_nil ?_
 refine th_n ?_
 refine wp_block ?_
 obtain ⟨x301, hL302, hK303⟩ := bind_inv hP
 clear hP
 replace H := H.nilrow (cInt .u8) 38; try dsimp only [setn, addE, goneL] at H
 refine loop_cut (fun i_ a w_ => (i_ = 0 ∧ ∃ (x307 : List Int), ∃ (A298 : Option Addr) (c299 : Nat), Fr a 178 [(1, .int .i64 r85), (2, .int .i64 r94), (4, .pointer (some ⟨g17, 0, none⟩)), (9, .bool r22), (10, .slice A40 (List.length r31.1) c41), (20, .slice A298 (List.length x307) c299)] ∧ Hp S Fa w0 w_ [.ro false cBool A1 aAccept, .ro false (cInt .i64) A5 aGuard, .ro false cNode A9 aNodes, .box g17 26 [.int .i64 aProps, .slice A1 (List.length aAccept) c2, .slice A5 (List.length aGuard) c6, .slice A9 (List.length aNodes) c10], .row true (cInt .i64) 3 A40 c41 r31.1, .row true (cInt .u8) 38 A298 c299 x307] ∧ x301 = x307)) ?_ ?_
 ·
  refine loopV (fun m306 a w305 => ∃ (few257 : List Int) (i260 : Int), ∃ (A258 : Option Addr) (c259 : Nat), Fr a 178 [(1, .int .i64 r85), (2, .int .i64 r94), (3, .slice A13 (List.length t) c14), (4, .pointer (some ⟨g17, 0, none⟩)), (9, .bool r22), (10, .slice A40 (List.length r31.1) c41), (20, .slice A258 (List.length few257) c259), (21, .int .i64 i260)] ∧ Hp S Fa w0 w305 [.ro false (cInt .u8) A13 t, .ro false cBool A1 aAccept, .ro false (cInt .i64) A5 aGuard, .ro false cNode A9 aNodes, .box g17 26 [.int .i64 aProps, .slice A1 (List.length aAccept) c2, .slice A5 (List.length aGuard) c6, .slice A9 (List.length aNodes) c10], .row true (cInt .i64) 3 A40 c41 r31.1, .row true (cInt .u8) 38 A258 c259 few257] ∧ law16_PartClasses_l4 N aProps t m306 few257 i260 = some x301) N ?_ ?_
  ·
   exact ⟨[], 0, none, 0, E.pick _ ⟨rfl, rfl, rfl, rfl, rfl, rfl, rfl, rfl, trivial⟩, H.sel [0, 1, 2, 3, 4, 5, 7] rfl, hL302⟩
  clear E H hL302; intro m306 a w305 hI_
  obtain ⟨few257, i260, A258, c259, E, H, hP⟩ := hI_
  obtain ⟨m300, rfl⟩ : ∃ q_, m306 = q_ + 1 := by cases m306 with | zero => rw [law16_PartClasses_l4] at hP; cases hP | succ q_ => exact ⟨q_, rfl⟩
  rw [law16_PartClasses_l4] at hP
  refine wp_seq ?_
  refine wp_seq ?_
  refine wp_region_lit ?_
  refine vr tbok 4 [] [(1, .int .i64 r85), (2, .int .i64 r94), (3, .slice A13 (List.length t) c14), (4, .pointer (some ⟨g17, 0, none⟩)), (9, .bool r22), (10, .slice A40 (List.length r31.1) c41), (20, .slice A258 (List.length few257) c259), (21, .int .i64 i260), (118, .bool (decide (i260 < (((List.length t) : Nat) : Int))))] [] E (by kernel_rfl) trivial ?_
  clear E; intro a E
  refine wpList_nil ?_
  refine th_n ?_
  refine E.cases (t := 118) rfl (fun hb_ E_ => ?_) (fun hb_ E_ => ?_)
  ·
   replace E := E_; clear E_
   have h308 : i260 < (((List.length t) : Nat) : Int) := of_decide_eq_true hb_
   clear hb_; replace hP := ite_t h308 hP
   refine c_true E rfl ?_
   refine wp_skip ?_
   refine th_n ?_
   refine wp_seq ?_
   refine wp_block ?_
   obtain ⟨g309, hP⟩ := ask_inv hP
   obtain ⟨b310, o311, e_b310⟩ := (H.rd 0 rds_ro).addr (idx_pos g309)
   subst e_b310
   obtain ⟨g312, hP⟩ := ask_inv hP
   obtain ⟨g318, hP⟩ := ask_inv hP
   have HR327 := H
   refine dr_start (S := fun w_ => Chg (atL [.row true (cInt .u8) 38 A258 c259 few257]) w305 w_) (by kernel_rfl) ?_
   intro w324 hc325
   have HS326 : Chg (atL [.row true (cInt .u8) 38 A258 c259 few257]) w305 w324 := hc325.mono (fun _ _ h_ => h_.elim)
   replace H := H.ext hc325
   refine dr tbok (by kernel_rfl) [0, 1, 2, 3, 4, 5, 6, 7, 8, 9] [.int .u8 (List.getD t (Int.toNat i260) 0), .int .i64 aProps, .int .u8 (shlV .u8 1 aProps), .int .u8 (IntKind.u8.wrap ((shlV .u8 1 aProps) - 1)), .int .u8 (andV .u8 (List.getD t (Int.toNat i260) 0) (IntKind.u8.wrap ((shlV .u8 1 aProps) - 1)))] [(1, .int .i64 r85), (2, .int .i64 r94), (3, .slice (some ⟨b310, o311, none⟩) (List.length t) c14), (4, .pointer (some ⟨g17, 0, none⟩)), (9, .bool r22), (10, .slice A40 (List.length r31.1) c41), (20, .slice A258 (List.length few257) c259), (21, .int .i64 i260), (121, .slice A258 (List.length few257) c259), (130, .int .u8 (andV .u8 (List.getD t (Int.toNat i260) 0) (IntKind.u8.wrap ((shlV .u8 1 aProps) - 1))))] (fun w_ => [0 ≤ i260 ∧ i260 < (((List.length t) : Nat) : Int), World.cell? w_ ⟨b310, o311 + (Int.toNat i260) * 1, none⟩ = some (.int .u8 (List.getD t (Int.toNat i260) 0)), World.cell? w_ ⟨g17, 0, none⟩ = some (.int .i64 aProps), 0 ≤ aProps ∧ IntKind.u8.wrap (1 * 2 ^ (min (Int.toNat aProps) (IntKind.bits .u8))) = shlV .u8 1 aProps, IntKind.u8.wrap ((shlV .u8 1 aProps) - 1) = IntKind.u8.wrap ((shlV .u8 1 aProps) - 1), IntKind.u8.wrap (BitVec.ofInt (IntKind.bits .u8) (List.getD t (Int.toNat i260) 0) &&& BitVec.ofInt (IntKind.bits .u8) (IntKind.u8.wrap ((shlV .u8 1 aProps) - 1))).toNat = andV .u8 (List.getD t (Int.toNat i260) 0) (IntKind.u8.wrap ((shlV .u8 1 aProps) - 1))]) 3 E (fun _ _ => by kernel_rfl) (fun w_ hS_ => ⟨g309, Rds.at1 (HR327.rdk [6] hS_ 0 rds_ro rfl) 0 g309, (HR327.boxk [6] hS_ 4 rfl rfl).cell (j := 0) rfl, ⟨g312, rfl⟩, rfl, rfl⟩) (by kernel_rfl) HS326 ?_
   clear E; intro a E
   refine wpAnyH_all (rs := [10]) (by kernel_rfl) (by simp) ?_
   refine all1 ?_
   refine wpOp_of_list rfl ?_
   refine h_buildSlice (ps := [(0, .int .u8 (andV .u8 (List.getD t (Int.toNat i260) 0) (IntKind.u8.wrap ((shlV .u8 1 aProps) - 1))))]) (cs := [.int .u8 (andV .u8 (List.getD t (Int.toNat i260) 0) (IntKind.u8.wrap ((shlV .u8 1 aProps) - 1)))]) H E rfl rfl tbok rfl rfl (by kernel_rfl) ?_
   intro w329 g328 a hc330 hg332 H_ E_
   replace E := E_ _ rfl; clear E_
   have hin333 : ∀ q_, q_ < w305.heap.size → q_ = g328 → (atL [.row true (cInt .u8) 38 A258 c259 few257]) q_ := fun q_ h1_ h2_ => by have hs_ := HS326.size; have h4_ : q_ = g328 := h2_; exfalso; omega
   replace HS326 := HS326.ext hc330
   replace H := H_; clear H_; try dsimp only [setn, addE, goneL] at H
   refine wpList_nil ?_
   refine th_n ⟨HS326, ?_⟩
   refine wpAnyH_all (rs := [11]) (by kernel_rfl) (by simp) ?_
   refine all1 ?_
   refine wpOp_of_list rfl ?_
   refine h_append (cInt .u8) (xs := few257) (ys := ([andV .u8 (List.getD t (Int.toNat i260) 0) (IntKind.u8.wrap ((shlV .u8 1 aProps) - 1))] : List Int)) (0 : Int) H 6 rfl E rfl rfl tbok rfl rfl rfl rfl rfl (fun _ _ => rfl) rfl rfl (fun _ HF_ => HF_.srcB 7 rfl (⟨_, _, rfl, rfl, rfl⟩)) g318 ?_
   intro w334 A335 c336 a hc337 hA338 H_ E_
   replace E := E_ _ rfl; clear E_
   have hin339 : ∀ q_, q_ < w305.heap.size → At A335 q_ → (atL [.row true (cInt .u8) 38 A258 c259 few257]) q_ := fun q_ h1_ h2_ => (hA338 q_ h2_).elim ((fun _ _ h_ => Or.inl h_) q_ h1_) (fun h3_ => by have hs_ := HS326.size; exfalso; omega)
   replace HS326 := HS326.trans hc337 (fun k_ hk_ h_ => (fun _ _ h_ => Or.inl h_) k_ hk_ h_)
   replace H := H_; clear H_; try dsimp only [setn, addE, goneL] at H
   refine wpList_nil ?_
   refine th_n ⟨HS326, ?_⟩
   refine dr tbok (by kernel_rfl) [12] [] [(1, .int .i64 r85), (2, .int .i64 r94), (3, .slice (some ⟨b310, o311, none⟩) (List.length t) c14), (4, .pointer (some ⟨g17, 0, none⟩)), (9, .bool r22), (10, .slice A40 (List.length r31.1) c41), (20, .slice A335 (List.length (few257 ++ ([andV .u8 (List.getD t (Int.toNat i260) 0) (IntKind.u8.wrap ((shlV .u8 1 aProps) - 1))] : List Int))) c336), (21, .int .i64 i260)] (fun w_ => []) 0 E (fun _ _ => by kernel_rfl) (fun w_ hS_ => trivial) (by kernel_rfl) HS326 ?_
   clear E; intro a E
   refine dr_done (by kernel_rfl) ?_
   clear HS326 HR327
   refine bl_n ?_
   refine th_n ?_
   refine wp_region_lit ?_
   obtain ⟨g340, hP⟩ := ask_inv hP
   refine vr tbok 3 [.int .i64 (i260 + 1)] [(1, .int .i64 r85), (2, .int .i64 r94), (3, .slice (some ⟨b310, o311, none⟩) (List.length t) c14), (4, .pointer (some ⟨g17, 0, none⟩)), (9, .bool r22), (10, .slice A40 (List.length r31.1) c41), (20, .slice A335 (List.length (few257 ++ ([andV .u8 (List.getD t (Int.toNat i260) 0) (IntKind.u8.wrap ((shlV .u8 1 aProps) - 1))] : List Int))) c336), (21, .int .i64 (i260 + 1))] [IntKind.i64.wrap (i260 + 1) = i260 + 1] E (by kernel_rfl) (wrap_in g340) ?_
   clear E; intro a E
   refine wpList_nil ?_
   exact th_n ⟨m300, Nat.lt_succ_self _, few257 ++ ([andV .u8 (List.getD t (Int.toNat i260) 0) (IntKind.u8.wrap ((shlV .u8 1 aProps) - 1))] : List Int), i260 + 1, A335, c336, E.pick _ ⟨rfl, rfl, rfl, rfl, rfl, rfl, rfl, rfl, trivial⟩, H.sel [0, 1, 2, 3, 4, 5, 6] rfl, hP⟩
  replace E := E_; clear E_
  have h341 : ¬ (i260 < (((List.length t) : Nat) : Int)) := of_decide_eq_false hb_
  clear hb_; replace hP := ite_f h341 hP
  refine c_false E rfl ?_
  refine wp_exit ?_
  refine th_exit ?_
  have hx_ := Option.some.inj hP
  refine th_exit (.inl ⟨0, rfl, ?_⟩)
  exact ⟨rfl, few257, A258, c259, E.pick _ ⟨rfl, rfl, rfl, rfl, rfl, rfl, trivial⟩, H.sel [1, 2, 3, 4, 5, 6] rfl, hx_.symm⟩
 clear E H hL302; intro i_ a w305 hM_
 obtain ⟨rfl, x307, A298, c299, E, H, hx_⟩ := hM_
 subst hx_; have hP := hK303; clear hK303
 refine bl_hit ?_
 refine th_n ?_
 refine wp_seq ?_
 refine wp_region_lit ?_
 refine vr tbok 3 [.agg #[.int .i64 aProps, .slice A1 (List.length aAccept) c2, .slice A5 (List.length aGuard) c6, .slice A9 (List.length aNodes) c10]] [(2, .int .i64 r94), (4, .pointer (some ⟨g17, 0, none⟩)), (9, .bool r22), (10, .slice A40 (List.length r31.1) c41), (20, .slice A298 (List.length x301) c299), (134, .agg #[.int .i64 aProps, .slice A1 (List.length aAccept) c2, .slice A5 (List.length aGuard) c6, .slice A9 (List.length aNodes) c10]), (135, .int .i64 r85), (136, .slice A298 (List.length x301) c299)] [cellsAt w305 g17 (0) [.int .i64 aProps, .slice A1 (List.length aAccept) c2, .slice A5 (List.length aGuard) c6, .slice A9 (List.length aNodes) c10]] E (by kernel_rfl) ((H.box 3 rfl).sub 0 _ rfl) ?_
 clear E; intro a E
 obtain ⟨r342, h343, hP⟩ := bind_inv hP
 obtain ⟨Fa344, Hc345, hb346⟩ := H.call [] [(0, false), (1, false), (2, false), (5, false)] rfl rfl trivial
 refine e_call E rfl rfl Try.func11 rfl rfl rfl (law16_led_calls A1 c2 A5 c6 A9 c10 A298 c299 aProps aAccept aGuard aNodes r85 x301 hk3 hk7 hk11 (H.rcap 5 rfl) Hc345 h343) ?_
 rintro v347 w348 a ⟨rfl, HR349⟩ E_
 replace E := E_ _ rfl; clear E_
 obtain ⟨H_, hc350⟩ := hb346 _ _ HR349 rfl
 replace H := H_; clear H_; try dsimp only [setn, addE, goneL] at H
 refine vr tbok 5 [] [(2, .int .i64 r94), (4, .pointer (some ⟨g17, 0, none⟩)), (9, .bool r22), (10, .slice A40 (List.length r31.1) c41), (20, .slice A298 (List.length x301) c299), (22, .int .i64 r342.1), (23, .bool r342.2)] [] E (by kernel_rfl) trivial ?_
 clear E; intro a E
 refine wpList_nil ?_
 refine th_n ?_
 refine wp_seq ?_
 refine wp_region_lit ?_
 refine vr tbok 3 [.agg #[.int .i64 aProps, .slice A1 (List.length aAccept) c2, .slice A5 (List.length aGuard) c6, .slice A9 (List.length aNodes) c10]] [(4, .pointer (some ⟨g17, 0, none⟩)), (9, .bool r22), (10, .slice A40 (List.length r31.1) c41), (22, .int .i64 r342.1), (23, .bool r342.2), (141, .agg #[.int .i64 aProps, .slice A1 (List.length aAccept) c2, .slice A5 (List.length aGuard) c6, .slice A9 (List.length aNodes) c10]), (142, .int .i64 r94), (143, .slice A298 (List.length x301) c299)] [cellsAt w348 g17 (0) [.int .i64 aProps, .slice A1 (List.length aAccept) c2, .slice A5 (List.length aGuard) c6, .slice A9 (List.length aNodes) c10]] E (by kernel_rfl) ((H.box 3 rfl).sub 0 _ rfl) ?_
 clear E; intro a E
 obtain ⟨r351, h352, hP⟩ := bind_inv hP
 obtain ⟨Fa353, Hc354, hb355⟩ := H.call [] [(0, false), (1, false), (2, false), (5, false)] rfl rfl trivial
 refine e_call E rfl rfl Try.func11 rfl rfl rfl (law16_led_calls A1 c2 A5 c6 A9 c10 A298 c299 aProps aAccept aGuard aNodes r94 x301 hk3 hk7 hk11 (H.rcap 5 rfl) Hc354 h352) ?_
 rintro v356 w357 a ⟨rfl, HR358⟩ E_
 replace E := E_ _ rfl; clear E_
 obtain ⟨H_, hc359⟩ := hb355 _ _ HR358 rfl
 replace H := H_; clear H_; try dsimp only [setn, addE, goneL] at H
 refine vr tbok 5 [] [(4, .pointer (some ⟨g17, 0, none⟩)), (9, .bool r22), (10, .slice A40 (List.length r31.1) c41), (22, .int .i64 r342.1), (23, .bool r342.2), (24, .int .i64 r351.1), (25, .bool r351.2)] [] E (by kernel_rfl) trivial ?_
 clear E; intro a E
 refine wpList_nil ?_
 refine th_n ?_
 refine wp_seq ?_
 refine wp_seq ?_
 obtain ⟨x388, h389, hK390⟩ := bind_inv hP
 clear hP
 refine meet_cut (fun a w392 => ∃ (x391 : Bool), Fr a 178 [(9, .bool r22), (176, .bool x391)] ∧ Hp S Fa w0 w392 [] ∧ x388 = x391) ?_ ?_
 ·
  have hP := h389; clear h389; rw [law16_PartClasses_j5] at hP
  by_cases h393 : r342.2 = true
  ·
   replace hP := ite_t h393 hP
   by_cases h394 : r351.2 = true
   ·
    replace hP := ite_t h394 hP
    obtain ⟨g395, hP⟩ := ask_inv hP
    obtain ⟨b396, o397, e_b396⟩ := (H.rd 0 rds_ro).addr (idx_pos g395)
    subst e_b396
    obtain ⟨g398, hP⟩ := ask_inv hP
    by_cases h399 : (List.getD aAccept (Int.toNat r342.1) false) = (List.getD aAccept (Int.toNat r351.1) false)
    ·
     replace hP := ite_t h399 hP
     obtain ⟨g400, hP⟩ := ask_inv hP
     obtain ⟨b401, e_b401⟩ := H.raddr 4 rfl (idx_pos g400)
     subst e_b401
     obtain ⟨g403, hP⟩ := ask_inv hP
     have HR407 := H
     refine dr_start (S := fun w_ => Chg (atL []) w357 w_) (by kernel_rfl) ?_
     intro w404 hc405
     have HS406 : Chg (atL []) w357 w404 := hc405.mono (fun _ _ h_ => h_.elim)
     replace H := H.ext hc405
     refine dr tbok (by kernel_rfl) [0, 1, 2] [] [(4, .pointer (some ⟨g17, 0, none⟩)), (9, .bool r22), (10, .slice (some ⟨b401, 0, none⟩) (List.length r31.1) c41), (22, .int .i64 r342.1), (24, .int .i64 r351.1), (25, .bool r351.2), (149, .bool (!r342.2))] (fun w_ => []) 27 E (fun _ _ => by kernel_rfl) (fun w_ hS_ => trivial) (by kernel_rfl) HS406 ?_
     clear E; intro a E
     replace E := E.same (t := 149) (u := .bool false) rfl (congrArg Value.bool (not_t' (h393)))
     refine dr tbok (by kernel_rfl) [3, 4, 5, 6] [] [(4, .pointer (some ⟨g17, 0, none⟩)), (9, .bool r22), (10, .slice (some ⟨b401, 0, none⟩) (List.length r31.1) c41), (22, .int .i64 r342.1), (24, .int .i64 r351.1), (149, .bool false), (153, .bool (!r351.2))] (fun w_ => []) 23 E (fun _ _ => by kernel_rfl) (fun w_ hS_ => trivial) (by kernel_rfl) HS406 ?_
     clear E; intro a E
     replace E := E.same (t := 153) (u := .bool false) rfl (congrArg Value.bool (not_t' (h394)))
     refine dr tbok (by kernel_rfl) [7, 8, 9, 10, 11, 12, 13, 14, 15, 16, 17, 18, 19] [.slice (some ⟨b396, o397, none⟩) (List.length aAccept) c2, .bool (List.getD aAccept (Int.toNat r342.1) false), .slice (some ⟨b396, o397, none⟩) (List.length aAccept) c2, .bool (List.getD aAccept (Int.toNat r351.1) false)] [(9, .bool r22), (10, .slice (some ⟨b401, 0, none⟩) (List.length r31.1) c41), (22, .int .i64 r342.1), (24, .int .i64 r351.1), (149, .bool false), (153, .bool false), (166, .bool (!((List.getD aAccept (Int.toNat r342.1) false) == (List.getD aAccept (Int.toNat r351.1) false))))] (fun w_ => [World.cell? w_ ⟨g17, 1, none⟩ = some (.slice (some ⟨b396, o397, none⟩) (List.length aAccept) c2), 0 ≤ r342.1 ∧ r342.1 < (((List.length aAccept) : Nat) : Int), World.cell? w_ ⟨b396, o397 + (Int.toNat r342.1) * 1, none⟩ = some (.bool (List.getD aAccept (Int.toNat r342.1) false)), World.cell? w_ ⟨g17, 1, none⟩ = some (.slice (some ⟨b396, o397, none⟩) (List.length aAccept) c2), 0 ≤ r351.1 ∧ r351.1 < (((List.length aAccept) : Nat) : Int), World.cell? w_ ⟨b396, o397 + (Int.toNat r351.1) * 1, none⟩ = some (.bool (List.getD aAccept (Int.toNat r351.1) false))]) 10 E (fun _ _ => by kernel_rfl) (fun w_ hS_ => ⟨(HR407.boxk [] hS_ 3 rfl rfl).cell (j := 1) rfl, g395, Rds.at1 (HR407.rdk [] hS_ 0 rds_ro rfl) false g395, (HR407.boxk [] hS_ 3 rfl rfl).cell (j := 1) rfl, g398, Rds.at1 (HR407.rdk [] hS_ 0 rds_ro rfl) false g398⟩) (by kernel_rfl) HS406 ?_
     clear E; intro a E
     replace E := E.same (t := 166) (u := .bool false) rfl (congrArg Value.bool (by simpa using h399))
     refine dr tbok (by kernel_rfl) [20, 21, 22, 23, 24, 25, 26, 27, 28, 29] [.int .i64 (List.getD r31.1 (Int.toNat r342.1) 0), .int .i64 (List.getD r31.1 (Int.toNat r351.1) 0)] [(9, .bool r22), (149, .bool false), (153, .bool false), (166, .bool false), (176, .bool (((List.getD r31.1 (Int.toNat r342.1) 0) : Int) != (List.getD r31.1 (Int.toNat r351.1) 0)))] (fun w_ => [0 ≤ r342.1 ∧ r342.1 < (((List.length r31.1) : Nat) : Int), World.cell? w_ ⟨b401, 0 + (Int.toNat r342.1) * 1, none⟩ = some (.int .i64 (List.getD r31.1 (Int.toNat r342.1) 0)), 0 ≤ r351.1 ∧ r351.1 < (((List.length r31.1) : Nat) : Int), World.cell? w_ ⟨b401, 0 + (Int.toNat r351.1) * 1, none⟩ = some (.int .i64 (List.getD r31.1 (Int.toNat r351.1) 0))]) 0 E (fun _ _ => by kernel_rfl) (fun w_ hS_ => ⟨g400, Rds.at1 (HR407.rdk [] hS_ 4 rds_row rfl) 0 g400, g403, Rds.at1 (HR407.rdk [] hS_ 4 rds_row rfl) 0 g403⟩) (by kernel_rfl) HS406 ?_
     clear E; intro a E
     refine dr_done (by kernel_rfl) ?_
     clear HS406 HR407
     have hx_ := Option.some.inj hP
     exact .inl ⟨rfl, ((List.getD r31.1 (Int.toNat r342.1) 0) : Int) != (List.getD r31.1 (Int.toNat r351.1) 0), E.pick _ ⟨rfl, rfl, trivial⟩, H.sel [] rfl, hx_.symm⟩
    replace hP := ite_f h399 hP
    have HR411 := H
    refine dr_start (S := fun w_ => Chg (atL []) w357 w_) (by kernel_rfl) ?_
    intro w408 hc409
    have HS410 : Chg (atL []) w357 w408 := hc409.mono (fun _ _ h_ => h_.elim)
    replace H := H.ext hc409
    refine dr tbok (by kernel_rfl) [0, 1, 2] [] [(4, .pointer (some ⟨g17, 0, none⟩)), (9, .bool r22), (10, .slice A40 (List.length r31.1) c41), (22, .int .i64 r342.1), (24, .int .i64 r351.1), (25, .bool r351.2), (149, .bool (!r342.2))] (fun w_ => []) 27 E (fun _ _ => by kernel_rfl) (fun w_ hS_ => trivial) (by kernel_rfl) HS410 ?_
    clear E; intro a E
    replace E := E.same (t := 149) (u := .bool false) rfl (congrArg Value.bool (not_t' (h393)))
    refine dr tbok (by kernel_rfl) [3, 4, 5, 6] [] [(4, .pointer (some ⟨g17, 0, none⟩)), (9, .bool r22), (10, .slice A40 (List.length r31.1) c41), (22, .int .i64 r342.1), (24, .int .i64 r351.1), (149, .bool false), (153, .bool (!r351.2))] (fun w_ => []) 23 E (fun _ _ => by kernel_rfl) (fun w_ hS_ => trivial) (by kernel_rfl) HS410 ?_
    clear E; intro a E
    replace E := E.same (t := 153) (u := .bool false) rfl (congrArg Value.bool (not_t' (h394)))
    refine dr tbok (by kernel_rfl) [7, 8, 9, 10, 11, 12, 13, 14, 15, 16, 17, 18, 19] [.slice (some ⟨b396, o397, none⟩) (List.length aAccept) c2, .bool (List.getD aAccept (Int.toNat r342.1) false), .slice (some ⟨b396, o397, none⟩) (List.length aAccept) c2, .bool (List.getD aAccept (Int.toNat r351.1) false)] [(9, .bool r22), (10, .slice A40 (List.length r31.1) c41), (22, .int .i64 r342.1), (24, .int .i64 r351.1), (149, .bool false), (153, .bool false), (166, .bool (!((List.getD aAccept (Int.toNat r342.1) false) == (List.getD aAccept (Int.toNat r351.1) false))))] (fun w_ => [World.cell? w_ ⟨g17, 1, none⟩ = some (.slice (some ⟨b396, o397, none⟩) (List.length aAccept) c2), 0 ≤ r342.1 ∧ r342.1 < (((List.length aAccept) : Nat) : Int), World.cell? w_ ⟨b396, o397 + (Int.toNat r342.1) * 1, none⟩ = some (.bool (List.getD aAccept (Int.toNat r342.1) false)), World.cell? w_ ⟨g17, 1, none⟩ = some (.slice (some ⟨b396, o397, none⟩) (List.length aAccept) c2), 0 ≤ r351.1 ∧ r351.1 < (((List.length aAccept) : Nat) : Int), World.cell? w_ ⟨b396, o397 + (Int.toNat r351.1) * 1, none⟩ = some (.bool (List.getD aAccept (Int.toNat r351.1) false))]) 10 E (fun _ _ => by kernel_rfl) (fun w_ hS_ => ⟨(HR411.boxk [] hS_ 3 rfl rfl).cell (j := 1) rfl, g395, Rds.at1 (HR411.rdk [] hS_ 0 rds_ro rfl) false g395, (HR411.boxk [] hS_ 3 rfl rfl).cell (j := 1) rfl, g398, Rds.at1 (HR411.rdk [] hS_ 0 rds_ro rfl) false g398⟩) (by kernel_rfl) HS410 ?_
    clear E; intro a E
    replace E := E.same (t := 166) (u := .bool true) rfl (congrArg Value.bool (by simpa using h399))
    refine dr tbok (by kernel_rfl) [20, 21, 22, 23, 24, 25, 26, 27, 28, 29] [] [(9, .bool r22), (149, .bool false), (153, .bool false), (166, .bool true), (176, .bool true)] (fun w_ => []) 0 E (fun _ _ => by kernel_rfl) (fun w_ hS_ => trivial) (by kernel_rfl) HS410 ?_
    clear E; intro a E
    refine dr_done (by kernel_rfl) ?_
    clear HS410 HR411
    have hx_ := Option.some.inj hP
    exact .inl ⟨rfl, true, E.pick _ ⟨rfl, rfl, trivial⟩, H.sel [] rfl, hx_.symm⟩
   replace hP := ite_f h394 hP
   have HR415 := H
   refine dr_start (S := fun w_ => Chg (atL []) w357 w_) (by kernel_rfl) ?_
   intro w412 hc413
   have HS414 : Chg (atL []) w357 w412 := hc413.mono (fun _ _ h_ => h_.elim)
   replace H := H.ext hc413
   refine dr tbok (by kernel_rfl) [0, 1, 2] [] [(4, .pointer (some ⟨g17, 0, none⟩)), (9, .bool r22), (10, .slice A40 (List.length r31.1) c41), (22, .int .i64 r342.1), (24, .int .i64 r351.1), (25, .bool r351.2), (149, .bool (!r342.2))] (fun w_ => []) 27 E (fun _ _ => by kernel_rfl) (fun w_ hS_ => trivial) (by kernel_rfl) HS414 ?_
   clear E; intro a E
   replace E := E.same (t := 149) (u := .bool false) rfl (congrArg Value.bool (not_t' (h393)))
   refine dr tbok (by kernel_rfl) [3, 4, 5, 6] [] [(4, .pointer (some ⟨g17, 0, none⟩)), (9, .bool r22), (10, .slice A40 (List.length r31.1) c41), (22, .int .i64 r342.1), (24, .int .i64 r351.1), (149, .bool false), (153, .bool (!r351.2))] (fun w_ => []) 23 E (fun _ _ => by kernel_rfl) (fun w_ hS_ => trivial) (by kernel_rfl) HS414 ?_
   clear E; intro a E
   replace E := E.same (t := 153) (u := .bool true) rfl (congrArg Value.bool (not_f' ((eq_false_of_ne_true h394))))
   refine dr tbok (by kernel_rfl) [7, 8, 9, 10, 11, 12, 13, 14, 15, 16, 17, 18, 19, 20, 21, 22, 23, 24, 25, 26, 27, 28, 29] [] [(9, .bool r22), (149, .bool false), (153, .bool true), (176, .bool true)] (fun w_ => []) 0 E (fun _ _ => by kernel_rfl) (fun w_ hS_ => trivial) (by kernel_rfl) HS414 ?_
   clear E; intro a E
   refine dr_done (by kernel_rfl) ?_
   clear HS414 HR415
   have hx_ := Option.some.inj hP
   exact .inl ⟨rfl, true, E.pick _ ⟨rfl, rfl, trivial⟩, H.sel [] rfl, hx_.symm⟩
  replace hP := ite_f h393 hP
  have HR419 := H
  refine dr_start (S := fun w_ => Chg (atL []) w357 w_) (by kernel_rfl) ?_
  intro w416 hc417
  have HS418 : Chg (atL []) w357 w416 := hc417.mono (fun _ _ h_ => h_.elim)
  replace H := H.ext hc417
  refine dr tbok (by kernel_rfl) [0, 1, 2] [] [(4, .pointer (some ⟨g17, 0, none⟩)), (9, .bool r22), (10, .slice A40 (List.length r31.1) c41), (22, .int .i64 r342.1), (24, .int .i64 r351.1), (25, .bool r351.2), (149, .bool (!r342.2))] (fun w_ => []) 27 E (fun _ _ => by kernel_rfl) (fun w_ hS_ => trivial) (by kernel_rfl) HS418 ?_
  clear E; intro a E
  replace E := E.same (t := 149) (u := .bool true) rfl (congrArg Value.bool (not_f' ((eq_false_of_ne_true h393))))
  refine dr tbok (by kernel_rfl) [3, 4, 5, 6, 7, 8, 9, 10, 11, 12, 13, 14, 15, 16, 17, 18, 19, 20, 21, 22, 23, 24, 25, 26, 27, 28, 29] [] [(9, .bool r22), (149, .bool true), (176, .bool true)] (fun w_ => []) 0 E (fun _ _ => by kernel_rfl) (fun w_ hS_ => trivial) (by kernel_rfl) HS418 ?_
  clear E; intro a E
  refine dr_done (by kernel_rfl) ?_
  clear HS418 HR419
  have hx_ := Option.some.inj hP
  exact .inl ⟨rfl, true, E.pick _ ⟨rfl, rfl, trivial⟩, H.sel [] rfl, hx_.symm⟩
 clear E H h389; rintro a w392 ⟨x391, E, H, hx_⟩
 subst hx_; have hP := hK390; clear hK390
 refine th_n ?_
 refine E.cases (t := 176) rfl (fun hb_ E_ => ?_) (fun hb_ E_ => ?_)
 ·
  replace E := E_; clear E_
  have h420 : x388 = true := hb_
  clear hb_; replace hP := ite_t h420 hP
  refine c_true E rfl ?_
  refine wp_seq ?_
  refine wp_region_lit ?_
  refine vr tbok 1 [] [(8, .bool false)] [] E (by kernel_rfl) trivial ?_
  clear E; intro a E
  refine wpList_nil ?_
  refine th_n ?_
  refine wp_ret ?_
  refine th_ret ?_
  obtain rfl := Option.some.inj hP
  refine ret1 E rfl rfl ?_
  exact ⟨_, rfl, rfl, H.sel [] rfl⟩
 replace E := E_; clear E_
 have h421 : ¬ (x388 = true) := (ne_true_of_eq_false hb_)
 clear hb_; replace hP := ite_f h421 hP
 refine c_false E rfl ?_
 refine wp_skip ?_
 refine th_n ?_
 refine wp_seq ?_
 refine wp_region_lit ?_
 refine vr tbok 2 [] [(8, .bool r22)] [] E (by kernel_rfl) trivial ?_
 clear E; intro a E
 refine wpList_nil ?_
 refine th_n ?_
 refine wp_ret ?_
 obtain rfl := Option.some.inj hP
 refine ret1 E rfl rfl ?_
 exact ⟨_, rfl, rfl, H.sel [] rfl⟩

end Go.V
