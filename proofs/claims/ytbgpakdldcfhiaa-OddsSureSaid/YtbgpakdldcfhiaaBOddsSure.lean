/- Plain functions, and the calls that give them. -/
import Derived.Test.YtbgpakdldcfhiaaA6
set_option linter.all false
set_option linter.unusedVariables false
set_option linter.unnecessarySimpa false
set_option linter.unusedSimpArgs false
namespace Go.V
open Go Go.Proofs
/-! rejoinder/rejoinderlaw27.OddsSure -/
def law27_OddsSure_j0 (N : Nat) (aProps : Int) (aAccept : List Bool) (aGuard : List Int) (aNodes : List Nd) : Option Bool :=
    Option.bind (law16_Small N aProps aAccept aGuard aNodes) fun r46 =>
    if r46 = true then
      if aProps < 0 then
        some true
      else
        some (decide (4 < aProps))
    else
      some true
def law27_OddsSure_l1 (N : Nat) (aProps : Int) (ll : Int) : Nat → (List Nat) → Int → Option (List Nat)
  | 0, _, _ => none
  | m110 + 1, p86, i89 =>
    if i89 < aProps then
      ask (0 ≤ i89) <|
      ask (List.length p86 + List.length ([(FloatKind.nearest .f64 (andV .u8 (shrV .u8 (andV .u8 ll (IntKind.u8.wrap ((shlV .u8 1 aProps) - 1))) i89) 1))] : List Nat) ≤ 1000000000) <|
      ask (in64 (i89 + 1)) <|
      law27_OddsSure_l1 N aProps ll m110 (p86 ++ ([(FloatKind.nearest .f64 (andV .u8 (shrV .u8 (andV .u8 ll (IntKind.u8.wrap ((shlV .u8 1 aProps) - 1))) i89) 1))] : List Nat)) (i89 + 1)
    else
      some p86
def law27_OddsSure_l2 (N : Nat) (aProps : Int) (ll : Int) (r61 : Int) : Nat → (List Int) → Int → Option (List Int)
  | 0, _, _ => none
  | m171 + 1, t148, i151 =>
    if i151 < r61 then
      ask (List.length t148 + List.length ([andV .u8 ll (IntKind.u8.wrap ((shlV .u8 1 aProps) - 1))] : List Int) ≤ 1000000000) <|
      ask (in64 (i151 + 1)) <|
      law27_OddsSure_l2 N aProps ll r61 m171 (t148 ++ ([andV .u8 ll (IntKind.u8.wrap ((shlV .u8 1 aProps) - 1))] : List Int)) (i151 + 1)
    else
      some t148
def law27_OddsSure_j3 (N : Nat) (r193 : Int × Int) (r202 : (List Nat) × Int) (r214 : Nat × Int) : Option Bool :=
    if (r193.2 : Int) = 0 then
      if (r202.2 : Int) = 0 then
        some ((r214.2 : Int) != 0)
      else
        some true
    else
      some true
def law27_OddsSure_j4 (N : Nat) (r18 : Bool) (r193 : Int × Int) (r202 : (List Nat) × Int) : Option Bool :=
    if r18 = true then
      if (r193.2 : Int) = r202.2 then
        some (((((List.length r202.1) : Nat) : Int) : Int) == 0)
      else
        some false
    else
      some false
def law27_OddsSure_j5 (N : Nat) (aAccept : List Bool) (r193 : Int × Int) (r202 : (List Nat) × Int) : Option Bool :=
    if ((((List.length r202.1) : Nat) : Int) : Int) = (((List.length aAccept) : Nat) : Int) then
      if r193.1 < 0 then
        some true
      else
        some (decide ((((List.length r202.1) : Nat) : Int) ≤ r193.1))
    else
      some true
def law27_OddsSure_j7 (N : Nat) (r193 : Int × Int) (r202 : (List Nat) × Int) (i281 : Int) : Option Bool :=
    ask (idx i281 (List.length r202.1)) <|
    if (fEq (List.getD r202.1 (Int.toNat i281) 0) 4607182418800017408) = ((i281 : Int) == r193.1) then
      if (fNe (List.getD r202.1 (Int.toNat i281) 0) 0) = true then
        some (fNe (List.getD r202.1 (Int.toNat i281) 0) 4607182418800017408)
      else
        some false
    else
      some true
def law27_OddsSure_l6 (N : Nat) (r193 : Int × Int) (r202 : (List Nat) × Int) : Nat → Int → Option (Unit ⊕ Bool)
  | 0, _ => none
  | m295 + 1, i281 =>
    if i281 < (((List.length r202.1) : Nat) : Int) then
      Option.bind (law27_OddsSure_j7 N r193 r202 i281) fun x311 =>
      if x311 = true then
        some (Sum.inr false)
      else
        ask (in64 (i281 + 1)) <|
        law27_OddsSure_l6 N r193 r202 m295 (i281 + 1)
    else
      some (Sum.inl ())
def law27_OddsSure_j8 (N : Nat) (aAccept : List Bool) (r18 : Bool) (r193 : Int × Int) (r214 : Nat × Int) : Option Bool :=
    if r18 = true then
      ask (idx r193.1 (List.length aAccept)) <|
      if (fEq r214.1 4607182418800017408) = (List.getD aAccept (Int.toNat r193.1) false) then
        if (fEq r214.1 0) = true then
          some true
        else
          some (fEq r214.1 4607182418800017408)
      else
        some false
    else
      some false
def law27_OddsSure (N : Nat) (aProps : Int) (aAccept : List Bool) (aGuard : List Int) (aNodes : List Nd) (ll : Int) (n : Int) : Option Bool :=
  Option.bind (law27_awake N) fun r18 =>
  Option.bind (law27_OddsSure_j0 N aProps aAccept aGuard aNodes) fun x41 =>
  if x41 = true then
    some r18
  else
    Option.bind (kit_Pick N n 41) fun r61 =>
    ask (0 ≤ aProps) <|
    Option.bind (law27_OddsSure_l1 N aProps ll N [] 0) fun x111 =>
    Option.bind (law27_OddsSure_l2 N aProps ll r61 N [] 0) fun x172 =>
    Option.bind (canon_Run N aProps aAccept aGuard aNodes x172) fun r193 =>
    Option.bind (odds_After N aProps aAccept aGuard aNodes x111 r61) fun r202 =>
    Option.bind (odds_Accept N aProps aAccept aGuard aNodes x111 r61) fun r214 =>
    Option.bind (law27_OddsSure_j3 N r193 r202 r214) fun x228 =>
    if x228 = true then
      Option.bind (law27_OddsSure_j4 N r18 r193 r202) fun x243 =>
      some x243
    else
      Option.bind (law27_OddsSure_j5 N aAccept r193 r202) fun x258 =>
      if x258 = true then
        some false
      else
        Option.bind (law27_OddsSure_l6 N r193 r202 N 0) fun x296 =>
        Sum.elim (fun x301 =>
          Option.bind (law27_OddsSure_j8 N aAccept r18 r193 r214) fun x338 =>
          some x338)
         (fun x327 =>
          some x327) x296
set_option maxRecDepth 100000 in
set_option maxHeartbeats 4000000 in
theorem law27_OddsSure_calls {N : Nat} {S Fa : Nat → Prop} {w0 : World} {r : Bool} (A1 : Option Addr) (c2 : Nat) (A5 : Option Addr) (c6 : Nat) (A9 : Option Addr) (c10 : Nat) (aProps : Int) (aAccept : List Bool) (aGuard : List Int) (aNodes : List Nd) (ll : Int) (n : Int) (hk3 : List.length aAccept ≤ c2) (hk7 : List.length aGuard ≤ c6) (hk11 : List.length aNodes ≤ c10) (H : Hp S Fa w0 w0 [.ro false cBool A1 aAccept, .ro false (cInt .i64) A5 aGuard, .ro false cNode A9 aNodes]) (hP : law27_OddsSure N aProps aAccept aGuard aNodes ll n = some r) :
    Calls Try.prog 5 #[.agg #[.int .i64 aProps, .slice A1 (List.length aAccept) c2, .slice A5 (List.length aGuard) c6, .slice A9 (List.length aNodes) c10], .int .u8 ll, .int .i64 n] w0 fun e w' => ∃ v, e = .returned v ∧ v = .bool r ∧ Hp S Fa w0 w' [] := by
 refine enterV (n := 170) Try.func5 rfl rfl rfl ?_
 intro a E
 replace E := E.pick [(0, .agg #[.int .i64 aProps, .slice A1 (List.length aAccept) c2, .slice A5 (List.length aGuard) c6, .slice A9 (List.length aNodes) c10]), (1, .int .u8 ll), (2, .int .i64 n)] ⟨rfl, rfl, rfl, trivial⟩
 rw [law27_OddsSure] at hP
 refine wp_seq ?_
 refine wp_region_lit ?_
 refine h_box H E rfl rfl rfl ?_
 intro w14 g13 a hc15 hg17 H_ E_
 replace E := E_ _ rfl; clear E_
 replace H := H_; clear H_; try dsimp only [setn, addE, goneL] at H
 refine vr tbok 1 [] [(1, .int .u8 ll), (2, .int .i64 n), (3, .pointer (some ⟨g13, 0, none⟩))] [] E (by kernel_rfl) trivial ?_
 clear E; intro a E
 refine wpList_nil ?_
 refine th_n ?_
 refine wp_seq ?_
 refine wp_region_lit ?_
 obtain ⟨r18, h19, hP⟩ := bind_inv hP
 obtain ⟨Fa20, Hc21, hb22⟩ := H.call [] [] rfl rfl trivial
 refine e_call E rfl rfl Try.func7 rfl rfl rfl (law27_awake_calls    Hc21 h19) ?_
 rintro v23 w24 a ⟨rfl, HR25⟩ E_
 replace E := E_ _ rfl; clear E_
 obtain ⟨H_, hc26⟩ := hb22 _ _ HR25 rfl
 replace H := H_; clear H_; try dsimp only [setn, addE, goneL] at H
 refine vr tbok 1 [] [(1, .int .u8 ll), (2, .int .i64 n), (3, .pointer (some ⟨g13, 0, none⟩)), (7, .bool r18)] [] E (by kernel_rfl) trivial ?_
 clear E; intro a E
 refine wpList_nil ?_
 refine th_n ?_
 refine wp_seq ?_
 refine wp_seq ?_
 obtain ⟨x41, h42, hK43⟩ := bind_inv hP
 clear hP
 refine meet_cut (fun a w45 => ∃ (x44 : Bool), Fr a 170 [(1, .int .u8 ll), (2, .int .i64 n), (3, .pointer (some ⟨g13, 0, none⟩)), (7, .bool r18), (32, .bool x44)] ∧ Hp S Fa w0 w45 [.ro false cBool A1 aAccept, .ro false (cInt .i64) A5 aGuard, .ro false cNode A9 aNodes, .box g13 26 [.int .i64 aProps, .slice A1 (List.length aAccept) c2, .slice A5 (List.length aGuard) c6, .slice A9 (List.length aNodes) c10]] ∧ x41 = x44) ?_ ?_
 ·
  have hP := h42; clear h42; rw [law27_OddsSure_j0] at hP
  refine wp_region_lit ?_
  refine vr tbok 1 [.agg #[.int .i64 aProps, .slice A1 (List.length aAccept) c2, .slice A5 (List.length aGuard) c6, .slice A9 (List.length aNodes) c10]] [(1, .int .u8 ll), (2, .int .i64 n), (3, .pointer (some ⟨g13, 0, none⟩)), (7, .bool r18), (20, .agg #[.int .i64 aProps, .slice A1 (List.length aAccept) c2, .slice A5 (List.length aGuard) c6, .slice A9 (List.length aNodes) c10])] [cellsAt w24 g13 (0) [.int .i64 aProps, .slice A1 (List.length aAccept) c2, .slice A5 (List.length aGuard) c6, .slice A9 (List.length aNodes) c10]] E (by kernel_rfl) ((H.box 3 rfl).sub 0 _ rfl) ?_
  clear E; intro a E
  obtain ⟨r46, h47, hP⟩ := bind_inv hP
  obtain ⟨Fa48, Hc49, hb50⟩ := H.call [] [(0, false), (1, false), (2, false)] rfl rfl trivial
  refine e_call E rfl rfl Try.func8 rfl rfl rfl (law16_Small_calls A1 c2 A5 c6 A9 c10 aProps aAccept aGuard aNodes hk3 hk7 hk11 Hc49 h47) ?_
  rintro v51 w52 a ⟨rfl, HR53⟩ E_
  replace E := E_ _ rfl; clear E_
  obtain ⟨H_, hc54⟩ := hb50 _ _ HR53 rfl
  replace H := H_; clear H_; try dsimp only [setn, addE, goneL] at H
  refine vr tbok 2 [] [(1, .int .u8 ll), (2, .int .i64 n), (3, .pointer (some ⟨g13, 0, none⟩)), (7, .bool r18), (23, .bool (!r46))] [] E (by kernel_rfl) trivial ?_
  clear E; intro a E
  refine E.cases (t := 23) rfl (fun hb_ E_ => ?_) (fun hb_ E_ => ?_)
  ·
   replace E := E_; clear E_
   have h55 : ¬ (r46 = true) := (ne_true_of_eq_false (not_t hb_))
   clear hb_; replace hP := ite_f h55 hP
   refine vr tbok 9 [] [(1, .int .u8 ll), (2, .int .i64 n), (3, .pointer (some ⟨g13, 0, none⟩)), (7, .bool r18), (32, .bool true)] [] E (by kernel_rfl) trivial ?_
   clear E; intro a E
   refine wpList_nil ?_
   have hx_ := Option.some.inj hP
   exact .inl ⟨rfl, true, E.pick _ ⟨rfl, rfl, rfl, rfl, rfl, trivial⟩, H.sel [0, 1, 2, 3] rfl, hx_.symm⟩
  replace E := E_; clear E_
  have h56 : r46 = true := (not_f hb_)
  clear hb_; replace hP := ite_t h56 hP
  refine vr tbok 5 [.int .i64 aProps] [(1, .int .u8 ll), (2, .int .i64 n), (3, .pointer (some ⟨g13, 0, none⟩)), (7, .bool r18), (28, .bool (decide (aProps < 0)))] [World.cell? w52 ⟨g13, 0, none⟩ = some (.int .i64 aProps)] E (by kernel_rfl) ((H.box 3 rfl).cell (j := 0) rfl) ?_
  clear E; intro a E
  refine E.cases (t := 28) rfl (fun hb_ E_ => ?_) (fun hb_ E_ => ?_)
  ·
   replace E := E_; clear E_
   have h57 : aProps < 0 := of_decide_eq_true hb_
   clear hb_; replace hP := ite_t h57 hP
   refine vr tbok 4 [] [(1, .int .u8 ll), (2, .int .i64 n), (3, .pointer (some ⟨g13, 0, none⟩)), (7, .bool r18), (32, .bool true)] [] E (by kernel_rfl) trivial ?_
   clear E; intro a E
   refine wpList_nil ?_
   have hx_ := Option.some.inj hP
   exact .inl ⟨rfl, true, E.pick _ ⟨rfl, rfl, rfl, rfl, rfl, trivial⟩, H.sel [0, 1, 2, 3] rfl, hx_.symm⟩
  replace E := E_; clear E_
  have h58 : ¬ (aProps < 0) := of_decide_eq_false hb_
  clear hb_; replace hP := ite_f h58 hP
  refine vr tbok 4 [.int .i64 aProps] [(1, .int .u8 ll), (2, .int .i64 n), (3, .pointer (some ⟨g13, 0, none⟩)), (7, .bool r18), (32, .bool (decide (4 < aProps)))] [World.cell? w52 ⟨g13, 0, none⟩ = some (.int .i64 aProps)] E (by kernel_rfl) ((H.box 3 rfl).cell (j := 0) rfl) ?_
  clear E; intro a E
  refine wpList_nil ?_
  have hx_ := Option.some.inj hP
  exact .inl ⟨rfl, decide (4 < aProps), E.pick _ ⟨rfl, rfl, rfl, rfl, rfl, trivial⟩, H.sel [0, 1, 2, 3] rfl, hx_.symm⟩
 clear E H h42; rintro a w45 ⟨x44, E, H, hx_⟩
 subst hx_; have hP := hK43; clear hK43
 refine th_n ?_
 refine E.cases (t := 32) rfl (fun hb_ E_ => ?_) (fun hb_ E_ => ?_)
 ·
  replace E := E_; clear E_
  have h59 : x41 = true := hb_
  clear hb_; replace hP := ite_t h59 hP
  refine c_true E rfl ?_
  refine wp_seq ?_
  refine wp_region_lit ?_
  refine vr tbok 2 [] [(6, .bool r18)] [] E (by kernel_rfl) trivial ?_
  clear E; intro a E
  refine wpList_nil ?_
  refine th_n ?_
  refine wp_ret ?_
  refine th_ret ?_
  obtain rfl := Option.some.inj hP
  refine ret1 E rfl rfl ?_
  exact ⟨_, rfl, rfl, H.sel [] rfl⟩
 replace E := E_; clear E_
 have h60 : ¬ (x41 = true) := (ne_true_of_eq_false hb_)
 clear hb_; replace hP := ite_f h60 hP
 refine c_false E rfl ?_
 refine wp_skip ?_
 refine th_n ?_
 refine wp_seq ?_
 refine wp_region_lit ?_
 refine vr tbok 1 [] [(1, .int .u8 ll), (3, .pointer (some ⟨g13, 0, none⟩)), (7, .bool r18), (34, .int .i64 n)] [] E (by kernel_rfl) trivial ?_
 clear E; intro a E
 obtain ⟨r61, h62, hP⟩ := bind_inv hP
 obtain ⟨Fa63, Hc64, hb65⟩ := H.call [] [] rfl rfl trivial
 refine e_call E rfl rfl Try.func9 rfl rfl rfl (kit_Pick_calls  n 41  Hc64 h62) ?_
 rintro v66 w67 a ⟨rfl, HR68⟩ E_
 replace E := E_ _ rfl; clear E_
 obtain ⟨H_, hc69⟩ := hb65 _ _ HR68 rfl
 replace H := H_; clear H_; try dsimp only [setn, addE, goneL] at H
 refine vr tbok 1 [] [(1, .int .u8 ll), (2, .int .i64 r61), (3, .pointer (some ⟨g13, 0, none⟩)), (7, .bool r18)] [] E (by kernel_rfl) trivial ?_
 clear E; intro a E
 refine wpList_nil ?_
 refine th_n ?_
 refine wp_seq ?_
 refine wp_region_lit ?_
 obtain ⟨g70, hP⟩ := ask_inv hP
 refine vr tbok 7 [.int .i64 aProps, .int .u8 (shlV .u8 1 aProps), .int .u8 (IntKind.u8.wrap ((shlV .u8 1 aProps) - 1)), .int .u8 (andV .u8 ll (IntKind.u8.wrap ((shlV .u8 1 aProps) - 1)))] [(1, .int .u8 (andV .u8 ll (IntKind.u8.wrap ((shlV .u8 1 aProps) - 1)))), (2, .int .i64 r61), (3, .pointer (some ⟨g13, 0, none⟩)), (7, .bool r18)] [World.cell? w67 ⟨g13, 0, none⟩ = some (.int .i64 aProps), 0 ≤ aProps ∧ IntKind.u8.wrap (1 * 2 ^ (min (Int.toNat aProps) (IntKind.bits .u8))) = shlV .u8 1 aProps, IntKind.u8.wrap ((shlV .u8 1 aProps) - 1) = IntKind.u8.wrap ((shlV .u8 1 aProps) - 1), IntKind.u8.wrap (BitVec.ofInt (IntKind.bits .u8) ll &&& BitVec.ofInt (IntKind.bits .u8) (IntKind.u8.wrap ((shlV .u8 1 aProps) - 1))).toNat = andV .u8 ll (IntKind.u8.wrap ((shlV .u8 1 aProps) - 1))] E (by kernel_rfl) ⟨(H.box 3 rfl).cell (j := 0) rfl, ⟨g70, rfl⟩, rfl, rfl⟩ ?_
 clear E; intro a E
 refine wpList_nil ?_
 refine th_n ?_
 refine wp_seq ?_
 refine wp_region_lit ?_
 refine vr tbok 1 [] [(1, .int .u8 (andV .u8 ll (IntKind.u8.wrap ((shlV .u8 1 aProps) - 1)))), (2, .int .i64 r61), (3, .pointer (some ⟨g13, 0, none⟩)), (7, .bool r18), (8, .slice none 0 0)] [] E (by kernel_rfl) trivial ?_
 clear E; intro a E
 refine wpList_nil ?_
 refine th_n ?_
 refine wp_seq ?_
 refine wp_seq ?_
 refine wp_region_lit ?_
 refine vr tbok 1 [] [(1, .int .u8 (andV .u8 ll (IntKind.u8.wrap ((shlV .u8 1 aProps) - 1)))), (2, .int .i64 r61), (3, .pointer (some ⟨g13, 0, none⟩)), (7, .bool r18), (8, .slice none 0 0), (9, .int .i64 0)] [] E (by kernel_rfl) trivial ?_
 clear E; intro a E
 refine wpList_nil ?_
 refine th_n ?_
 refine wp_block ?_
 obtain ⟨x111, hL112, hK113⟩ := bind_inv hP
 clear hP
 replace H := H.nilrow cFl 33; try dsimp only [setn, addE, goneL] at H
 refine loop_cut (fun i_ a w_ => (i_ = 0 ∧ ∃ (x117 : List Nat), ∃ (A108 : Option Addr) (c109 : Nat), Fr a 170 [(1, .int .u8 (andV .u8 ll (IntKind.u8.wrap ((shlV .u8 1 aProps) - 1)))), (2, .int .i64 r61), (3, .pointer (some ⟨g13, 0, none⟩)), (7, .bool r18), (8, .slice A108 (List.length x117) c109)] ∧ Hp S Fa w0 w_ [.ro false cBool A1 aAccept, .ro false (cInt .i64) A5 aGuard, .ro false cNode A9 aNodes, .box g13 26 [.int .i64 aProps, .slice A1 (List.length aAccept) c2, .slice A5 (List.length aGuard) c6, .slice A9 (List.length aNodes) c10], .row true cFl 33 A108 c109 x117] ∧ x111 = x117)) ?_ ?_
 ·
  refine loopV (fun m116 a w115 => ∃ (p86 : List Nat) (i89 : Int), ∃ (A87 : Option Addr) (c88 : Nat), Fr a 170 [(1, .int .u8 (andV .u8 ll (IntKind.u8.wrap ((shlV .u8 1 aProps) - 1)))), (2, .int .i64 r61), (3, .pointer (some ⟨g13, 0, none⟩)), (7, .bool r18), (8, .slice A87 (List.length p86) c88), (9, .int .i64 i89)] ∧ Hp S Fa w0 w115 [.ro false cBool A1 aAccept, .ro false (cInt .i64) A5 aGuard, .ro false cNode A9 aNodes, .box g13 26 [.int .i64 aProps, .slice A1 (List.length aAccept) c2, .slice A5 (List.length aGuard) c6, .slice A9 (List.length aNodes) c10], .row true cFl 33 A87 c88 p86] ∧ law27_OddsSure_l1 N aProps ll m116 p86 i89 = some x111) N ?_ ?_
  ·
   exact ⟨[], 0, none, 0, E.pick _ ⟨rfl, rfl, rfl, rfl, rfl, rfl, trivial⟩, H.sel [0, 1, 2, 3, 4] rfl, hL112⟩
  clear E H hL112; intro m116 a w115 hI_
  obtain ⟨p86, i89, A87, c88, E, H, hP⟩ := hI_
  obtain ⟨m110, rfl⟩ : ∃ q_, m116 = q_ + 1 := by cases m116 with | zero => rw [law27_OddsSure_l1] at hP; cases hP | succ q_ => exact ⟨q_, rfl⟩
  rw [law27_OddsSure_l1] at hP
  refine wp_seq ?_
  refine wp_seq ?_
  refine wp_region_lit ?_
  refine vr tbok 4 [.int .i64 aProps] [(1, .int .u8 (andV .u8 ll (IntKind.u8.wrap ((shlV .u8 1 aProps) - 1)))), (2, .int .i64 r61), (3, .pointer (some ⟨g13, 0, none⟩)), (7, .bool r18), (8, .slice A87 (List.length p86) c88), (9, .int .i64 i89), (45, .bool (decide (i89 < aProps)))] [World.cell? w115 ⟨g13, 0, none⟩ = some (.int .i64 aProps)] E (by kernel_rfl) ((H.box 3 rfl).cell (j := 0) rfl) ?_
  clear E; intro a E
  refine wpList_nil ?_
  refine th_n ?_
  refine E.cases (t := 45) rfl (fun hb_ E_ => ?_) (fun hb_ E_ => ?_)
  ·
   replace E := E_; clear E_
   have h118 : i89 < aProps := of_decide_eq_true hb_
   clear hb_; replace hP := ite_t h118 hP
   refine c_true E rfl ?_
   refine wp_skip ?_
   refine th_n ?_
   refine wp_seq ?_
   refine wp_block ?_
   refine wp_region_lit ?_
   obtain ⟨g119, hP⟩ := ask_inv hP
   refine vr tbok 6 [.int .u8 (shrV .u8 (andV .u8 ll (IntKind.u8.wrap ((shlV .u8 1 aProps) - 1))) i89), .int .u8 (andV .u8 (shrV .u8 (andV .u8 ll (IntKind.u8.wrap ((shlV .u8 1 aProps) - 1))) i89) 1), .float .f64 (FloatKind.nearest .f64 (andV .u8 (shrV .u8 (andV .u8 ll (IntKind.u8.wrap ((shlV .u8 1 aProps) - 1))) i89) 1))] [(1, .int .u8 (andV .u8 ll (IntKind.u8.wrap ((shlV .u8 1 aProps) - 1)))), (2, .int .i64 r61), (3, .pointer (some ⟨g13, 0, none⟩)), (7, .bool r18), (9, .int .i64 i89), (48, .slice A87 (List.length p86) c88), (53, .float .f64 (FloatKind.nearest .f64 (andV .u8 (shrV .u8 (andV .u8 ll (IntKind.u8.wrap ((shlV .u8 1 aProps) - 1))) i89) 1)))] [0 ≤ i89 ∧ Int.fdiv (andV .u8 ll (IntKind.u8.wrap ((shlV .u8 1 aProps) - 1))) (2 ^ (min (Int.toNat i89) (IntKind.bits .u8))) = shrV .u8 (andV .u8 ll (IntKind.u8.wrap ((shlV .u8 1 aProps) - 1))) i89, IntKind.u8.wrap (BitVec.ofInt (IntKind.bits .u8) (shrV .u8 (andV .u8 ll (IntKind.u8.wrap ((shlV .u8 1 aProps) - 1))) i89) &&& BitVec.ofInt (IntKind.bits .u8) 1).toNat = andV .u8 (shrV .u8 (andV .u8 ll (IntKind.u8.wrap ((shlV .u8 1 aProps) - 1))) i89) 1, FloatKind.nearest .f64 (andV .u8 (shrV .u8 (andV .u8 ll (IntKind.u8.wrap ((shlV .u8 1 aProps) - 1))) i89) 1) = (FloatKind.nearest .f64 (andV .u8 (shrV .u8 (andV .u8 ll (IntKind.u8.wrap ((shlV .u8 1 aProps) - 1))) i89) 1))] E (by kernel_rfl) ⟨⟨g119, rfl⟩, rfl, rfl⟩ ?_
   clear E; intro a E
   refine h_buildSlice (ps := [(0, .float .f64 (FloatKind.nearest .f64 (andV .u8 (shrV .u8 (andV .u8 ll (IntKind.u8.wrap ((shlV .u8 1 aProps) - 1))) i89) 1)))]) (cs := [.float .f64 (FloatKind.nearest .f64 (andV .u8 (shrV .u8 (andV .u8 ll (IntKind.u8.wrap ((shlV .u8 1 aProps) - 1))) i89) 1))]) H E rfl rfl tbok rfl rfl (by kernel_rfl) ?_
   intro w121 g120 a hc122 hg124 H_ E_
   replace E := E_ _ rfl; clear E_
   replace H := H_; clear H_; try dsimp only [setn, addE, goneL] at H
   obtain ⟨g125, hP⟩ := ask_inv hP
   refine h_append cFl (xs := p86) (ys := ([(FloatKind.nearest .f64 (andV .u8 (shrV .u8 (andV .u8 ll (IntKind.u8.wrap ((shlV .u8 1 aProps) - 1))) i89) 1))] : List Nat)) (0 : Nat) H 4 rfl E rfl rfl tbok rfl rfl rfl rfl rfl (fun _ _ => rfl) rfl rfl (fun _ HF_ => HF_.srcB 5 rfl (⟨_, _, rfl, rfl, rfl⟩)) g125 ?_
   intro w126 A127 c128 a hc129 hA130 H_ E_
   replace E := E_ _ rfl; clear E_
   replace H := H_; clear H_; try dsimp only [setn, addE, goneL] at H
   refine vr tbok 1 [] [(1, .int .u8 (andV .u8 ll (IntKind.u8.wrap ((shlV .u8 1 aProps) - 1)))), (2, .int .i64 r61), (3, .pointer (some ⟨g13, 0, none⟩)), (7, .bool r18), (8, .slice A127 (List.length (p86 ++ ([(FloatKind.nearest .f64 (andV .u8 (shrV .u8 (andV .u8 ll (IntKind.u8.wrap ((shlV .u8 1 aProps) - 1))) i89) 1))] : List Nat))) c128), (9, .int .i64 i89)] [] E (by kernel_rfl) trivial ?_
   clear E; intro a E
   refine wpList_nil ?_
   refine bl_n ?_
   refine th_n ?_
   refine wp_region_lit ?_
   obtain ⟨g131, hP⟩ := ask_inv hP
   refine vr tbok 3 [.int .i64 (i89 + 1)] [(1, .int .u8 (andV .u8 ll (IntKind.u8.wrap ((shlV .u8 1 aProps) - 1)))), (2, .int .i64 r61), (3, .pointer (some ⟨g13, 0, none⟩)), (7, .bool r18), (8, .slice A127 (List.length (p86 ++ ([(FloatKind.nearest .f64 (andV .u8 (shrV .u8 (andV .u8 ll (IntKind.u8.wrap ((shlV .u8 1 aProps) - 1))) i89) 1))] : List Nat))) c128), (9, .int .i64 (i89 + 1))] [IntKind.i64.wrap (i89 + 1) = i89 + 1] E (by kernel_rfl) (wrap_in g131) ?_
   clear E; intro a E
   refine wpList_nil ?_
   exact th_n ⟨m110, Nat.lt_succ_self _, p86 ++ ([(FloatKind.nearest .f64 (andV .u8 (shrV .u8 (andV .u8 ll (IntKind.u8.wrap ((shlV .u8 1 aProps) - 1))) i89) 1))] : List Nat), i89 + 1, A127, c128, E.pick _ ⟨rfl, rfl, rfl, rfl, rfl, rfl, trivial⟩, H.sel [0, 1, 2, 3, 4] rfl, hP⟩
  replace E := E_; clear E_
  have h132 : ¬ (i89 < aProps) := of_decide_eq_false hb_
  clear hb_; replace hP := ite_f h132 hP
  refine c_false E rfl ?_
  refine wp_exit ?_
  refine th_exit ?_
  have hx_ := Option.some.inj hP
  refine th_exit (.inl ⟨0, rfl, ?_⟩)
  exact ⟨rfl, p86, A87, c88, E.pick _ ⟨rfl, rfl, rfl, rfl, rfl, trivial⟩, H.sel [0, 1, 2, 3, 4] rfl, hx_.symm⟩
 clear E H hL112; intro i_ a w115 hM_
 obtain ⟨rfl, x117, A108, c109, E, H, hx_⟩ := hM_
 subst hx_; have hP := hK113; clear hK113
 refine bl_hit ?_
 refine th_n ?_
 refine wp_seq ?_
 refine wp_region_lit ?_
 refine vr tbok 1 [] [(1, .int .u8 (andV .u8 ll (IntKind.u8.wrap ((shlV .u8 1 aProps) - 1)))), (2, .int .i64 r61), (3, .pointer (some ⟨g13, 0, none⟩)), (7, .bool r18), (8, .slice A108 (List.length x111) c109), (10, .slice none 0 0)] [] E (by kernel_rfl) trivial ?_
 clear E; intro a E
 refine wpList_nil ?_
 refine th_n ?_
 refine wp_seq ?_
 refine wp_seq ?_
 refine wp_region_lit ?_
 refine vr tbok 1 [] [(1, .int .u8 (andV .u8 ll (IntKind.u8.wrap ((shlV .u8 1 aProps) - 1)))), (2, .int .i64 r61), (3, .pointer (some ⟨g13, 0, none⟩)), (7, .bool r18), (8, .slice A108 (List.length x111) c109), (10, .slice none 0 0), (11, .int .i64 0)] [] E (by kernel_rfl) trivial ?_
 clear E; intro a E
 refine wpList_nil ?_
 refine th_n ?_
 refine wp_block ?_
 obtain ⟨x172, hL173, hK174⟩ := bind_inv hP
 clear hP
 replace H := H.nilrow (cInt .u8) 44; try dsimp only [setn, addE, goneL] at H
 refine loop_cut (fun i_ a w_ => (i_ = 2 ∧ ∃ (x178 : List Int), ∃ (A169 : Option Addr) (c170 : Nat), Fr a 170 [(2, .int .i64 r61), (3, .pointer (some ⟨g13, 0, none⟩)), (7, .bool r18), (8, .slice A108 (List.length x111) c109), (10, .slice A169 (List.length x178) c170)] ∧ Hp S Fa w0 w_ [.ro false cBool A1 aAccept, .ro false (cInt .i64) A5 aGuard, .ro false cNode A9 aNodes, .box g13 26 [.int .i64 aProps, .slice A1 (List.length aAccept) c2, .slice A5 (List.length aGuard) c6, .slice A9 (List.length aNodes) c10], .row true cFl 33 A108 c109 x111, .row true (cInt .u8) 44 A169 c170 x178] ∧ x172 = x178)) ?_ ?_
 ·
  refine loopV (fun m177 a w176 => ∃ (t148 : List Int) (i151 : Int), ∃ (A149 : Option Addr) (c150 : Nat), Fr a 170 [(1, .int .u8 (andV .u8 ll (IntKind.u8.wrap ((shlV .u8 1 aProps) - 1)))), (2, .int .i64 r61), (3, .pointer (some ⟨g13, 0, none⟩)), (7, .bool r18), (8, .slice A108 (List.length x111) c109), (10, .slice A149 (List.length t148) c150), (11, .int .i64 i151)] ∧ Hp S Fa w0 w176 [.ro false cBool A1 aAccept, .ro false (cInt .i64) A5 aGuard, .ro false cNode A9 aNodes, .box g13 26 [.int .i64 aProps, .slice A1 (List.length aAccept) c2, .slice A5 (List.length aGuard) c6, .slice A9 (List.length aNodes) c10], .row true cFl 33 A108 c109 x111, .row true (cInt .u8) 44 A149 c150 t148] ∧ law27_OddsSure_l2 N aProps ll r61 m177 t148 i151 = some x172) N ?_ ?_
  ·
   exact ⟨[], 0, none, 0, E.pick _ ⟨rfl, rfl, rfl, rfl, rfl, rfl, rfl, trivial⟩, H.sel [0, 1, 2, 3, 4, 5] rfl, hL173⟩
  clear E H hL173; intro m177 a w176 hI_
  obtain ⟨t148, i151, A149, c150, E, H, hP⟩ := hI_
  obtain ⟨m171, rfl⟩ : ∃ q_, m177 = q_ + 1 := by cases m177 with | zero => rw [law27_OddsSure_l2] at hP; cases hP | succ q_ => exact ⟨q_, rfl⟩
  rw [law27_OddsSure_l2] at hP
  refine wp_seq ?_
  refine wp_seq ?_
  refine wp_region_lit ?_
  refine vr tbok 3 [] [(1, .int .u8 (andV .u8 ll (IntKind.u8.wrap ((shlV .u8 1 aProps) - 1)))), (2, .int .i64 r61), (3, .pointer (some ⟨g13, 0, none⟩)), (7, .bool r18), (8, .slice A108 (List.length x111) c109), (10, .slice A149 (List.length t148) c150), (11, .int .i64 i151), (58, .bool (decide (i151 < r61)))] [] E (by kernel_rfl) trivial ?_
  clear E; intro a E
  refine wpList_nil ?_
  refine th_n ?_
  refine E.cases (t := 58) rfl (fun hb_ E_ => ?_) (fun hb_ E_ => ?_)
  ·
   replace E := E_; clear E_
   have h179 : i151 < r61 := of_decide_eq_true hb_
   clear hb_; replace hP := ite_t h179 hP
   refine c_true E rfl ?_
   refine wp_skip ?_
   refine th_n ?_
   refine wp_seq ?_
   refine wp_block ?_
   refine wp_region_lit ?_
   refine vr tbok 2 [] [(1, .int .u8 (andV .u8 ll (IntKind.u8.wrap ((shlV .u8 1 aProps) - 1)))), (2, .int .i64 r61), (3, .pointer (some ⟨g13, 0, none⟩)), (7, .bool r18), (8, .slice A108 (List.length x111) c109), (11, .int .i64 i151), (61, .slice A149 (List.length t148) c150), (62, .int .u8 (andV .u8 ll (IntKind.u8.wrap ((shlV .u8 1 aProps) - 1))))] [] E (by kernel_rfl) trivial ?_
   clear E; intro a E
   refine h_buildSlice (ps := [(0, .int .u8 (andV .u8 ll (IntKind.u8.wrap ((shlV .u8 1 aProps) - 1))))]) (cs := [.int .u8 (andV .u8 ll (IntKind.u8.wrap ((shlV .u8 1 aProps) - 1)))]) H E rfl rfl tbok rfl rfl (by kernel_rfl) ?_
   intro w181 g180 a hc182 hg184 H_ E_
   replace E := E_ _ rfl; clear E_
   replace H := H_; clear H_; try dsimp only [setn, addE, goneL] at H
   obtain ⟨g185, hP⟩ := ask_inv hP
   refine h_append (cInt .u8) (xs := t148) (ys := ([andV .u8 ll (IntKind.u8.wrap ((shlV .u8 1 aProps) - 1))] : List Int)) (0 : Int) H 5 rfl E rfl rfl tbok rfl rfl rfl rfl rfl (fun _ _ => rfl) rfl rfl (fun _ HF_ => HF_.srcB 6 rfl (⟨_, _, rfl, rfl, rfl⟩)) g185 ?_
   intro w186 A187 c188 a hc189 hA190 H_ E_
   replace E := E_ _ rfl; clear E_
   replace H := H_; clear H_; try dsimp only [setn, addE, goneL] at H
   refine vr tbok 1 [] [(1, .int .u8 (andV .u8 ll (IntKind.u8.wrap ((shlV .u8 1 aProps) - 1)))), (2, .int .i64 r61), (3, .pointer (some ⟨g13, 0, none⟩)), (7, .bool r18), (8, .slice A108 (List.length x111) c109), (10, .slice A187 (List.length (t148 ++ ([andV .u8 ll (IntKind.u8.wrap ((shlV .u8 1 aProps) - 1))] : List Int))) c188), (11, .int .i64 i151)] [] E (by kernel_rfl) trivial ?_
   clear E; intro a E
   refine wpList_nil ?_
   refine bl_n ?_
   refine th_n ?_
   refine wp_region_lit ?_
   obtain ⟨g191, hP⟩ := ask_inv hP
   refine vr tbok 3 [.int .i64 (i151 + 1)] [(1, .int .u8 (andV .u8 ll (IntKind.u8.wrap ((shlV .u8 1 aProps) - 1)))), (2, .int .i64 r61), (3, .pointer (some ⟨g13, 0, none⟩)), (7, .bool r18), (8, .slice A108 (List.length x111) c109), (10, .slice A187 (List.length (t148 ++ ([andV .u8 ll (IntKind.u8.wrap ((shlV .u8 1 aProps) - 1))] : List Int))) c188), (11, .int .i64 (i151 + 1))] [IntKind.i64.wrap (i151 + 1) = i151 + 1] E (by kernel_rfl) (wrap_in g191) ?_
   clear E; intro a E
   refine wpList_nil ?_
   exact th_n ⟨m171, Nat.lt_succ_self _, t148 ++ ([andV .u8 ll (IntKind.u8.wrap ((shlV .u8 1 aProps) - 1))] : List Int), i151 + 1, A187, c188, E.pick _ ⟨rfl, rfl, rfl, rfl, rfl, rfl, rfl, trivial⟩, H.sel [0, 1, 2, 3, 4, 5] rfl, hP⟩
  replace E := E_; clear E_
  have h192 : ¬ (i151 < r61) := of_decide_eq_false hb_
  clear hb_; replace hP := ite_f h192 hP
  refine c_false E rfl ?_
  refine wp_exit ?_
  refine th_exit ?_
  have hx_ := Option.some.inj hP
  refine th_exit (.inl ⟨2, rfl, ?_⟩)
  exact ⟨rfl, t148, A149, c150, E.pick _ ⟨rfl, rfl, rfl, rfl, rfl, trivial⟩, H.sel [0, 1, 2, 3, 4, 5] rfl, hx_.symm⟩
 clear E H hL173; intro i_ a w176 hM_
 obtain ⟨rfl, x178, A169, c170, E, H, hx_⟩ := hM_
 subst hx_; have hP := hK174; clear hK174
 refine bl_hit ?_
 refine th_n ?_
 refine wp_seq ?_
 refine wp_region_lit ?_
 refine vr tbok 2 [.agg #[.int .i64 aProps, .slice A1 (List.length aAccept) c2, .slice A5 (List.length aGuard) c6, .slice A9 (List.length aNodes) c10]] [(2, .int .i64 r61), (3, .pointer (some ⟨g13, 0, none⟩)), (7, .bool r18), (8, .slice A108 (List.length x111) c109), (66, .agg #[.int .i64 aProps, .slice A1 (List.length aAccept) c2, .slice A5 (List.length aGuard) c6, .slice A9 (List.length aNodes) c10]), (67, .slice A169 (List.length x172) c170)] [cellsAt w176 g13 (0) [.int .i64 aProps, .slice A1 (List.length aAccept) c2, .slice A5 (List.length aGuard) c6, .slice A9 (List.length aNodes) c10]] E (by kernel_rfl) ((H.box 3 rfl).sub 0 _ rfl) ?_
 clear E; intro a E
 obtain ⟨r193, h194, hP⟩ := bind_inv hP
 obtain ⟨Fa195, Hc196, hb197⟩ := H.call [] [(0, false), (1, false), (2, false), (5, false)] rfl rfl trivial
 refine e_call E rfl rfl Try.func18 rfl rfl rfl (canon_Run_calls A1 c2 A5 c6 A9 c10 A169 c170 aProps aAccept aGuard aNodes x172 hk3 hk7 hk11 (H.rcap 5 rfl) Hc196 h194) ?_
 rintro v198 w199 a ⟨rfl, HR200⟩ E_
 replace E := E_ _ rfl; clear E_
 obtain ⟨H_, hc201⟩ := hb197 _ _ HR200 rfl
 replace H := H_; clear H_; try dsimp only [setn, addE, goneL] at H
 refine vr tbok 5 [] [(2, .int .i64 r61), (3, .pointer (some ⟨g13, 0, none⟩)), (7, .bool r18), (8, .slice A108 (List.length x111) c109), (12, .int .i64 r193.1), (13, .int .i64 r193.2)] [] E (by kernel_rfl) trivial ?_
 clear E; intro a E
 refine wpList_nil ?_
 refine th_n ?_
 refine wp_seq ?_
 refine wp_region_lit ?_
 refine vr tbok 3 [.agg #[.int .i64 aProps, .slice A1 (List.length aAccept) c2, .slice A5 (List.length aGuard) c6, .slice A9 (List.length aNodes) c10]] [(2, .int .i64 r61), (3, .pointer (some ⟨g13, 0, none⟩)), (7, .bool r18), (8, .slice A108 (List.length x111) c109), (12, .int .i64 r193.1), (13, .int .i64 r193.2), (72, .agg #[.int .i64 aProps, .slice A1 (List.length aAccept) c2, .slice A5 (List.length aGuard) c6, .slice A9 (List.length aNodes) c10]), (73, .slice A108 (List.length x111) c109), (74, .int .i64 r61)] [cellsAt w199 g13 (0) [.int .i64 aProps, .slice A1 (List.length aAccept) c2, .slice A5 (List.length aGuard) c6, .slice A9 (List.length aNodes) c10]] E (by kernel_rfl) ((H.box 3 rfl).sub 0 _ rfl) ?_
 clear E; intro a E
 obtain ⟨r202, h203, hP⟩ := bind_inv hP
 obtain ⟨Fa204, Hc205, hb206⟩ := H.call [] [(0, false), (1, false), (2, false), (4, false)] rfl rfl trivial
 refine e_call E rfl rfl Try.func12 rfl rfl rfl (odds_After_calls A1 c2 A5 c6 A9 c10 A108 c109 aProps aAccept aGuard aNodes x111 r61 hk3 hk7 hk11 (H.rcap 4 rfl) Hc205 h203) ?_
 rintro v207 w208 a ⟨A211, c212, rfl, HR209⟩ E_
 replace E := E_ _ rfl; clear E_
 obtain ⟨H_, hc210⟩ := hb206 _ _ HR209 rfl
 replace H := H_; clear H_; try dsimp only [setn, addE, goneL] at H
 refine vr tbok 5 [] [(2, .int .i64 r61), (3, .pointer (some ⟨g13, 0, none⟩)), (7, .bool r18), (8, .slice A108 (List.length x111) c109), (12, .int .i64 r193.1), (13, .int .i64 r193.2), (14, .slice A211 (List.length r202.1) c212), (15, .int .i64 r202.2)] [] E (by kernel_rfl) trivial ?_
 clear E; intro a E
 refine wpList_nil ?_
 refine th_n ?_
 refine wp_seq ?_
 refine wp_region_lit ?_
 refine vr tbok 3 [.agg #[.int .i64 aProps, .slice A1 (List.length aAccept) c2, .slice A5 (List.length aGuard) c6, .slice A9 (List.length aNodes) c10]] [(3, .pointer (some ⟨g13, 0, none⟩)), (7, .bool r18), (12, .int .i64 r193.1), (13, .int .i64 r193.2), (14, .slice A211 (List.length r202.1) c212), (15, .int .i64 r202.2), (79, .agg #[.int .i64 aProps, .slice A1 (List.length aAccept) c2, .slice A5 (List.length aGuard) c6, .slice A9 (List.length aNodes) c10]), (80, .slice A108 (List.length x111) c109), (81, .int .i64 r61)] [cellsAt w208 g13 (0) [.int .i64 aProps, .slice A1 (List.length aAccept) c2, .slice A5 (List.length aGuard) c6, .slice A9 (List.length aNodes) c10]] E (by kernel_rfl) ((H.box 3 rfl).sub 0 _ rfl) ?_
 clear E; intro a E
 obtain ⟨r214, h215, hP⟩ := bind_inv hP
 obtain ⟨Fa216, Hc217, hb218⟩ := H.call [] [(0, false), (1, false), (2, false), (4, false)] rfl rfl trivial
 refine e_call E rfl rfl Try.func16 rfl rfl rfl (odds_Accept_calls A1 c2 A5 c6 A9 c10 A108 c109 aProps aAccept aGuard aNodes x111 r61 hk3 hk7 hk11 (H.rcap 4 rfl) Hc217 h215) ?_
 rintro v219 w220 a ⟨rfl, HR221⟩ E_
 replace E := E_ _ rfl; clear E_
 obtain ⟨H_, hc222⟩ := hb218 _ _ HR221 rfl
 replace H := H_; clear H_; try dsimp only [setn, addE, goneL] at H
 refine vr tbok 5 [] [(3, .pointer (some ⟨g13, 0, none⟩)), (7, .bool r18), (12, .int .i64 r193.1), (13, .int .i64 r193.2), (14, .slice A211 (List.length r202.1) c212), (15, .int .i64 r202.2), (16, .float .f64 r214.1), (17, .int .i64 r214.2)] [] E (by kernel_rfl) trivial ?_
 clear E; intro a E
 refine wpList_nil ?_
 refine th_n ?_
 refine wp_seq ?_
 refine wp_seq ?_
 obtain ⟨x228, h229, hK230⟩ := bind_inv hP
 clear hP
 refine meet_cut (fun a w232 => ∃ (x231 : Bool), Fr a 170 [(3, .pointer (some ⟨g13, 0, none⟩)), (7, .bool r18), (12, .int .i64 r193.1), (13, .int .i64 r193.2), (14, .slice A211 (List.length r202.1) c212), (15, .int .i64 r202.2), (16, .float .f64 r214.1), (94, .bool x231)] ∧ Hp S Fa w0 w232 [.ro false cBool A1 aAccept, .ro false (cInt .i64) A5 aGuard, .ro false cNode A9 aNodes, .box g13 26 [.int .i64 aProps, .slice A1 (List.length aAccept) c2, .slice A5 (List.length aGuard) c6, .slice A9 (List.length aNodes) c10], .row true cFl 33 A211 c212 r202.1] ∧ x228 = x231) ?_ ?_
 ·
  have hP := h229; clear h229; rw [law27_OddsSure_j3] at hP
  refine wp_region_lit ?_
  refine vr tbok 3 [] [(3, .pointer (some ⟨g13, 0, none⟩)), (7, .bool r18), (12, .int .i64 r193.1), (13, .int .i64 r193.2), (14, .slice A211 (List.length r202.1) c212), (15, .int .i64 r202.2), (16, .float .f64 r214.1), (17, .int .i64 r214.2), (87, .bool ((r193.2 : Int) != 0))] [] E (by kernel_rfl) trivial ?_
  clear E; intro a E
  refine E.cases (t := 87) rfl (fun hb_ E_ => ?_) (fun hb_ E_ => ?_)
  ·
   replace E := E_; clear E_
   have h233 : ¬ ((r193.2 : Int) = 0) := bne_iff_ne.1 hb_
   clear hb_; replace hP := ite_f h233 hP
   refine vr tbok 7 [] [(3, .pointer (some ⟨g13, 0, none⟩)), (7, .bool r18), (12, .int .i64 r193.1), (13, .int .i64 r193.2), (14, .slice A211 (List.length r202.1) c212), (15, .int .i64 r202.2), (16, .float .f64 r214.1), (94, .bool true)] [] E (by kernel_rfl) trivial ?_
   clear E; intro a E
   refine wpList_nil ?_
   have hx_ := Option.some.inj hP
   exact .inl ⟨rfl, true, E.pick _ ⟨rfl, rfl, rfl, rfl, rfl, rfl, rfl, rfl, trivial⟩, H.sel [0, 1, 2, 3, 6] rfl, hx_.symm⟩
  replace E := E_; clear E_
  have h234 : (r193.2 : Int) = 0 := bne_eq_false_iff_eq.1 hb_
  clear hb_; replace hP := ite_t h234 hP
  refine vr tbok 4 [] [(3, .pointer (some ⟨g13, 0, none⟩)), (7, .bool r18), (12, .int .i64 r193.1), (13, .int .i64 r193.2), (14, .slice A211 (List.length r202.1) c212), (15, .int .i64 r202.2), (16, .float .f64 r214.1), (17, .int .i64 r214.2), (91, .bool ((r202.2 : Int) != 0))] [] E (by kernel_rfl) trivial ?_
  clear E; intro a E
  refine E.cases (t := 91) rfl (fun hb_ E_ => ?_) (fun hb_ E_ => ?_)
  ·
   replace E := E_; clear E_
   have h235 : ¬ ((r202.2 : Int) = 0) := bne_iff_ne.1 hb_
   clear hb_; replace hP := ite_f h235 hP
   refine vr tbok 3 [] [(3, .pointer (some ⟨g13, 0, none⟩)), (7, .bool r18), (12, .int .i64 r193.1), (13, .int .i64 r193.2), (14, .slice A211 (List.length r202.1) c212), (15, .int .i64 r202.2), (16, .float .f64 r214.1), (94, .bool true)] [] E (by kernel_rfl) trivial ?_
   clear E; intro a E
   refine wpList_nil ?_
   have hx_ := Option.some.inj hP
   exact .inl ⟨rfl, true, E.pick _ ⟨rfl, rfl, rfl, rfl, rfl, rfl, rfl, rfl, trivial⟩, H.sel [0, 1, 2, 3, 6] rfl, hx_.symm⟩
  replace E := E_; clear E_
  have h236 : (r202.2 : Int) = 0 := bne_eq_false_iff_eq.1 hb_
  clear hb_; replace hP := ite_t h236 hP
  refine vr tbok 3 [] [(3, .pointer (some ⟨g13, 0, none⟩)), (7, .bool r18), (12, .int .i64 r193.1), (13, .int .i64 r193.2), (14, .slice A211 (List.length r202.1) c212), (15, .int .i64 r202.2), (16, .float .f64 r214.1), (94, .bool ((r214.2 : Int) != 0))] [] E (by kernel_rfl) trivial ?_
  clear E; intro a E
  refine wpList_nil ?_
  have hx_ := Option.some.inj hP
  exact .inl ⟨rfl, (r214.2 : Int) != 0, E.pick _ ⟨rfl, rfl, rfl, rfl, rfl, rfl, rfl, rfl, trivial⟩, H.sel [0, 1, 2, 3, 6] rfl, hx_.symm⟩
 clear E H h229; rintro a w232 ⟨x231, E, H, hx_⟩
 subst hx_; have hP := hK230; clear hK230
 refine th_n ?_
 refine E.cases (t := 94) rfl (fun hb_ E_ => ?_) (fun hb_ E_ => ?_)
 ·
  replace E := E_; clear E_
  have h237 : x228 = true := hb_
  clear hb_; replace hP := ite_t h237 hP
  refine c_true E rfl ?_
  refine wp_seq ?_
  obtain ⟨x243, h244, hK245⟩ := bind_inv hP
  clear hP
  refine meet_cut (fun a w247 => ∃ (x246 : Bool), Fr a 170 [(6, .bool x246)] ∧ Hp S Fa w0 w247 [] ∧ x243 = x246) ?_ ?_
  ·
   have hP := h244; clear h244; rw [law27_OddsSure_j4] at hP
   refine wp_region_lit ?_
   refine vr tbok 2 [] [(13, .int .i64 r193.2), (14, .slice A211 (List.length r202.1) c212), (15, .int .i64 r202.2), (96, .bool r18)] [] E (by kernel_rfl) trivial ?_
   clear E; intro a E
   refine E.cases (t := 96) rfl (fun hb_ E_ => ?_) (fun hb_ E_ => ?_)
   ·
    replace E := E_; clear E_
    have h248 : r18 = true := hb_
    clear hb_; replace hP := ite_t h248 hP
    refine vr tbok 5 [] [(14, .slice A211 (List.length r202.1) c212), (101, .bool ((r193.2 : Int) == r202.2))] [] E (by kernel_rfl) trivial ?_
    clear E; intro a E
    refine E.cases (t := 101) rfl (fun hb_ E_ => ?_) (fun hb_ E_ => ?_)
    ·
     replace E := E_; clear E_
     have h249 : (r193.2 : Int) = r202.2 := eq_of_beq hb_
     clear hb_; replace hP := ite_t h249 hP
     refine vr tbok 5 [] [(6, .bool (((((List.length r202.1) : Nat) : Int) : Int) == 0))] [] E (by kernel_rfl) trivial ?_
     clear E; intro a E
     refine wpList_nil ?_
     have hx_ := Option.some.inj hP
     exact .inl ⟨rfl, ((((List.length r202.1) : Nat) : Int) : Int) == 0, E.pick _ ⟨rfl, trivial⟩, H.sel [] rfl, hx_.symm⟩
    replace E := E_; clear E_
    have h250 : ¬ ((r193.2 : Int) = r202.2) := ne_of_beq_false hb_
    clear hb_; replace hP := ite_f h250 hP
    refine vr tbok 5 [] [(6, .bool false)] [] E (by kernel_rfl) trivial ?_
    clear E; intro a E
    refine wpList_nil ?_
    have hx_ := Option.some.inj hP
    exact .inl ⟨rfl, false, E.pick _ ⟨rfl, trivial⟩, H.sel [] rfl, hx_.symm⟩
   replace E := E_; clear E_
   have h251 : ¬ (r18 = true) := (ne_true_of_eq_false hb_)
   clear hb_; replace hP := ite_f h251 hP
   refine vr tbok 10 [] [(6, .bool false)] [] E (by kernel_rfl) trivial ?_
   clear E; intro a E
   refine wpList_nil ?_
   have hx_ := Option.some.inj hP
   exact .inl ⟨rfl, false, E.pick _ ⟨rfl, trivial⟩, H.sel [] rfl, hx_.symm⟩
  clear E H h244; rintro a w247 ⟨x246, E, H, hx_⟩
  subst hx_; have hP := hK245; clear hK245
  refine th_n ?_
  refine wp_ret ?_
  refine th_ret ?_
  obtain rfl := Option.some.inj hP
  refine ret1 E rfl rfl ?_
  exact ⟨_, rfl, rfl, H.sel [] rfl⟩
 replace E := E_; clear E_
 have h252 : ¬ (x228 = true) := (ne_true_of_eq_false hb_)
 clear hb_; replace hP := ite_f h252 hP
 refine c_false E rfl ?_
 refine wp_skip ?_
 refine th_n ?_
 refine wp_seq ?_
 refine wp_seq ?_
 obtain ⟨x258, h259, hK260⟩ := bind_inv hP
 clear hP
 refine meet_cut (fun a w262 => ∃ (x261 : Bool), Fr a 170 [(3, .pointer (some ⟨g13, 0, none⟩)), (7, .bool r18), (12, .int .i64 r193.1), (14, .slice A211 (List.length r202.1) c212), (16, .float .f64 r214.1), (121, .bool x261)] ∧ Hp S Fa w0 w262 [.ro false cBool A1 aAccept, .ro false (cInt .i64) A5 aGuard, .ro false cNode A9 aNodes, .box g13 26 [.int .i64 aProps, .slice A1 (List.length aAccept) c2, .slice A5 (List.length aGuard) c6, .slice A9 (List.length aNodes) c10], .row true cFl 33 A211 c212 r202.1] ∧ x258 = x261) ?_ ?_
 ·
  have hP := h259; clear h259; rw [law27_OddsSure_j5] at hP
  refine wp_region_lit ?_
  refine vr tbok 7 [.slice A1 (List.length aAccept) c2] [(3, .pointer (some ⟨g13, 0, none⟩)), (7, .bool r18), (12, .int .i64 r193.1), (14, .slice A211 (List.length r202.1) c212), (16, .float .f64 r214.1), (112, .bool (((((List.length r202.1) : Nat) : Int) : Int) != (((List.length aAccept) : Nat) : Int)))] [World.cell? w232 ⟨g13, 1, none⟩ = some (.slice A1 (List.length aAccept) c2)] E (by kernel_rfl) ((H.box 3 rfl).cell (j := 1) rfl) ?_
  clear E; intro a E
  refine E.cases (t := 112) rfl (fun hb_ E_ => ?_) (fun hb_ E_ => ?_)
  ·
   replace E := E_; clear E_
   have h263 : ¬ (((((List.length r202.1) : Nat) : Int) : Int) = (((List.length aAccept) : Nat) : Int)) := bne_iff_ne.1 hb_
   clear hb_; replace hP := ite_f h263 hP
   refine vr tbok 9 [] [(3, .pointer (some ⟨g13, 0, none⟩)), (7, .bool r18), (12, .int .i64 r193.1), (14, .slice A211 (List.length r202.1) c212), (16, .float .f64 r214.1), (121, .bool true)] [] E (by kernel_rfl) trivial ?_
   clear E; intro a E
   refine wpList_nil ?_
   have hx_ := Option.some.inj hP
   exact .inl ⟨rfl, true, E.pick _ ⟨rfl, rfl, rfl, rfl, rfl, rfl, trivial⟩, H.sel [0, 1, 2, 3, 4] rfl, hx_.symm⟩
  replace E := E_; clear E_
  have h264 : ((((List.length r202.1) : Nat) : Int) : Int) = (((List.length aAccept) : Nat) : Int) := bne_eq_false_iff_eq.1 hb_
  clear hb_; replace hP := ite_t h264 hP
  refine vr tbok 4 [] [(3, .pointer (some ⟨g13, 0, none⟩)), (7, .bool r18), (12, .int .i64 r193.1), (14, .slice A211 (List.length r202.1) c212), (16, .float .f64 r214.1), (116, .bool (decide (r193.1 < 0)))] [] E (by kernel_rfl) trivial ?_
  clear E; intro a E
  refine E.cases (t := 116) rfl (fun hb_ E_ => ?_) (fun hb_ E_ => ?_)
  ·
   replace E := E_; clear E_
   have h265 : r193.1 < 0 := of_decide_eq_true hb_
   clear hb_; replace hP := ite_t h265 hP
   refine vr tbok 5 [] [(3, .pointer (some ⟨g13, 0, none⟩)), (7, .bool r18), (12, .int .i64 r193.1), (14, .slice A211 (List.length r202.1) c212), (16, .float .f64 r214.1), (121, .bool true)] [] E (by kernel_rfl) trivial ?_
   clear E; intro a E
   refine wpList_nil ?_
   have hx_ := Option.some.inj hP
   exact .inl ⟨rfl, true, E.pick _ ⟨rfl, rfl, rfl, rfl, rfl, rfl, trivial⟩, H.sel [0, 1, 2, 3, 4] rfl, hx_.symm⟩
  replace E := E_; clear E_
  have h266 : ¬ (r193.1 < 0) := of_decide_eq_false hb_
  clear hb_; replace hP := ite_f h266 hP
  refine vr tbok 5 [] [(3, .pointer (some ⟨g13, 0, none⟩)), (7, .bool r18), (12, .int .i64 r193.1), (14, .slice A211 (List.length r202.1) c212), (16, .float .f64 r214.1), (121, .bool (decide ((((List.length r202.1) : Nat) : Int) ≤ r193.1)))] [] E (by kernel_rfl) trivial ?_
  clear E; intro a E
  refine wpList_nil ?_
  have hx_ := Option.some.inj hP
  exact .inl ⟨rfl, decide ((((List.length r202.1) : Nat) : Int) ≤ r193.1), E.pick _ ⟨rfl, rfl, rfl, rfl, rfl, rfl, trivial⟩, H.sel [0, 1, 2, 3, 4] rfl, hx_.symm⟩
 clear E H h259; rintro a w262 ⟨x261, E, H, hx_⟩
 subst hx_; have hP := hK260; clear hK260
 refine th_n ?_
 refine E.cases (t := 121) rfl (fun hb_ E_ => ?_) (fun hb_ E_ => ?_)
 ·
  replace E := E_; clear E_
  have h267 : x258 = true := hb_
  clear hb_; replace hP := ite_t h267 hP
  refine c_true E rfl ?_
  refine wp_seq ?_
  refine wp_region_lit ?_
  refine vr tbok 1 [] [(6, .bool false)] [] E (by kernel_rfl) trivial ?_
  clear E; intro a E
  refine wpList_nil ?_
  refine th_n ?_
  refine wp_ret ?_
  refine th_ret ?_
  obtain rfl := Option.some.inj hP
  refine ret1 E rfl rfl ?_
  exact ⟨_, rfl, rfl, H.sel [] rfl⟩
 replace E := E_; clear E_
 have h268 : ¬ (x258 = true) := (ne_true_of_eq_false hb_)
 clear hb_; replace hP := ite_f h268 hP
 refine c_false E rfl ?_
 refine wp_skip ?_
 refine th_n ?_
 refine wp_seq ?_
 refine wp_seq ?_
 refine wp_region_lit ?_
 refine vr tbok 1 [] [(3, .pointer (some ⟨g13, 0, none⟩)), (7, .bool r18), (12, .int .i64 r193.1), (14, .slice A211 (List.length r202.1) c212), (16, .float .f64 r214.1), (18, .int .i64 0)] [] E (by kernel_rfl) trivial ?_
 clear E; intro a E
 refine wpList_nil ?_
 refine th_n ?_
 refine wp_block ?_
 obtain ⟨x296, hL297, hK298⟩ := bind_inv hP
 clear hP
 refine loop_cut (fun i_ a w_ => (i_ = 4 ∧ ∃ (x301 : Unit), Fr a 170 [(3, .pointer (some ⟨g13, 0, none⟩)), (7, .bool r18), (12, .int .i64 r193.1), (16, .float .f64 r214.1)] ∧ Hp S Fa w0 w_ [.ro false cBool A1 aAccept, .ro false (cInt .i64) A5 aGuard, .ro false cNode A9 aNodes, .box g13 26 [.int .i64 aProps, .slice A1 (List.length aAccept) c2, .slice A5 (List.length aGuard) c6, .slice A9 (List.length aNodes) c10]] ∧ x296 = Sum.inl x301)) ?_ ?_
 ·
  refine loopV (fun m300 a w299 => ∃ (i281 : Int), Fr a 170 [(3, .pointer (some ⟨g13, 0, none⟩)), (7, .bool r18), (12, .int .i64 r193.1), (14, .slice A211 (List.length r202.1) c212), (16, .float .f64 r214.1), (18, .int .i64 i281)] ∧ Hp S Fa w0 w299 [.ro false cBool A1 aAccept, .ro false (cInt .i64) A5 aGuard, .ro false cNode A9 aNodes, .box g13 26 [.int .i64 aProps, .slice A1 (List.length aAccept) c2, .slice A5 (List.length aGuard) c6, .slice A9 (List.length aNodes) c10], .row true cFl 33 A211 c212 r202.1] ∧ law27_OddsSure_l6 N r193 r202 m300 i281 = some x296) N ?_ ?_
  ·
   exact ⟨0, E.pick _ ⟨rfl, rfl, rfl, rfl, rfl, rfl, trivial⟩, H.sel [0, 1, 2, 3, 4] rfl, hL297⟩
  clear E H hL297; intro m300 a w299 hI_
  obtain ⟨i281, E, H, hP⟩ := hI_
  obtain ⟨m295, rfl⟩ : ∃ q_, m300 = q_ + 1 := by cases m300 with | zero => rw [law27_OddsSure_l6] at hP; cases hP | succ q_ => exact ⟨q_, rfl⟩
  rw [law27_OddsSure_l6] at hP
  refine wp_seq ?_
  refine wp_seq ?_
  refine wp_region_lit ?_
  refine vr tbok 4 [] [(3, .pointer (some ⟨g13, 0, none⟩)), (7, .bool r18), (12, .int .i64 r193.1), (14, .slice A211 (List.length r202.1) c212), (16, .float .f64 r214.1), (18, .int .i64 i281), (125, .bool (decide (i281 < (((List.length r202.1) : Nat) : Int))))] [] E (by kernel_rfl) trivial ?_
  clear E; intro a E
  refine wpList_nil ?_
  refine th_n ?_
  refine E.cases (t := 125) rfl (fun hb_ E_ => ?_) (fun hb_ E_ => ?_)
  ·
   replace E := E_; clear E_
   have h302 : i281 < (((List.length r202.1) : Nat) : Int) := of_decide_eq_true hb_
   clear hb_; replace hP := ite_t h302 hP
   refine c_true E rfl ?_
   refine wp_skip ?_
   refine th_n ?_
   refine wp_seq ?_
   refine wp_block ?_
   refine wp_seq ?_
   obtain ⟨x311, h312, hK313⟩ := bind_inv hP
   clear hP
   refine meet_cut (fun a w315 => ∃ (x314 : Bool), Fr a 170 [(3, .pointer (some ⟨g13, 0, none⟩)), (7, .bool r18), (12, .int .i64 r193.1), (14, .slice A211 (List.length r202.1) c212), (16, .float .f64 r214.1), (18, .int .i64 i281), (150, .bool x314)] ∧ Hp S Fa w0 w315 [.ro false cBool A1 aAccept, .ro false (cInt .i64) A5 aGuard, .ro false cNode A9 aNodes, .box g13 26 [.int .i64 aProps, .slice A1 (List.length aAccept) c2, .slice A5 (List.length aGuard) c6, .slice A9 (List.length aNodes) c10], .row true cFl 33 A211 c212 r202.1] ∧ x311 = x314) ?_ ?_
   ·
    have hP := h312; clear h312; rw [law27_OddsSure_j7] at hP
    refine wp_region_lit ?_
    obtain ⟨g316, hP⟩ := ask_inv hP
    obtain ⟨b317, e_b317⟩ := H.raddr 4 rfl (idx_pos g316)
    subst e_b317
    refine vr tbok 10 [.float .f64 (List.getD r202.1 (Int.toNat i281) 0)] [(3, .pointer (some ⟨g13, 0, none⟩)), (7, .bool r18), (12, .int .i64 r193.1), (14, .slice (some ⟨b317, 0, none⟩) (List.length r202.1) c212), (16, .float .f64 r214.1), (18, .int .i64 i281), (137, .bool (!((fEq (List.getD r202.1 (Int.toNat i281) 0) 4607182418800017408) == ((i281 : Int) == r193.1))))] [0 ≤ i281 ∧ i281 < (((List.length r202.1) : Nat) : Int), World.cell? w299 ⟨b317, 0 + (Int.toNat i281) * 1, none⟩ = some (.float .f64 (List.getD r202.1 (Int.toNat i281) 0))] E (by kernel_rfl) ⟨g316, Rds.at1 (H.rd 4 rds_row) 0 g316⟩ ?_
    clear E; intro a E
    refine E.cases (t := 137) rfl (fun hb_ E_ => ?_) (fun hb_ E_ => ?_)
    ·
     replace E := E_; clear E_
     have h319 : ¬ ((fEq (List.getD r202.1 (Int.toNat i281) 0) 4607182418800017408) = ((i281 : Int) == r193.1)) := (by simpa using hb_)
     clear hb_; replace hP := ite_f h319 hP
     refine vr tbok 13 [] [(3, .pointer (some ⟨g13, 0, none⟩)), (7, .bool r18), (12, .int .i64 r193.1), (14, .slice (some ⟨b317, 0, none⟩) (List.length r202.1) c212), (16, .float .f64 r214.1), (18, .int .i64 i281), (150, .bool true)] [] E (by kernel_rfl) trivial ?_
     clear E; intro a E
     refine wpList_nil ?_
     have hx_ := Option.some.inj hP
     exact .inl ⟨rfl, true, E.pick _ ⟨rfl, rfl, rfl, rfl, rfl, rfl, rfl, trivial⟩, H.sel [0, 1, 2, 3, 4] rfl, hx_.symm⟩
    replace E := E_; clear E_
    have h320 : (fEq (List.getD r202.1 (Int.toNat i281) 0) 4607182418800017408) = ((i281 : Int) == r193.1) := (by simpa using hb_)
    clear hb_; replace hP := ite_t h320 hP
    refine vr tbok 6 [.float .f64 (List.getD r202.1 (Int.toNat i281) 0)] [(3, .pointer (some ⟨g13, 0, none⟩)), (7, .bool r18), (12, .int .i64 r193.1), (14, .slice (some ⟨b317, 0, none⟩) (List.length r202.1) c212), (16, .float .f64 r214.1), (18, .int .i64 i281), (137, .bool false), (143, .bool (fNe (List.getD r202.1 (Int.toNat i281) 0) 0))] [0 ≤ i281 ∧ i281 < (((List.length r202.1) : Nat) : Int), World.cell? w299 ⟨b317, 0 + (Int.toNat i281) * 1, none⟩ = some (.float .f64 (List.getD r202.1 (Int.toNat i281) 0))] E (by kernel_rfl) ⟨g316, Rds.at1 (H.rd 4 rds_row) 0 g316⟩ ?_
    clear E; intro a E
    refine E.cases (t := 143) rfl (fun hb_ E_ => ?_) (fun hb_ E_ => ?_)
    ·
     replace E := E_; clear E_
     have h321 : (fNe (List.getD r202.1 (Int.toNat i281) 0) 0) = true := hb_
     clear hb_; replace hP := ite_t h321 hP
     refine vr tbok 7 [.float .f64 (List.getD r202.1 (Int.toNat i281) 0)] [(3, .pointer (some ⟨g13, 0, none⟩)), (7, .bool r18), (12, .int .i64 r193.1), (14, .slice (some ⟨b317, 0, none⟩) (List.length r202.1) c212), (16, .float .f64 r214.1), (18, .int .i64 i281), (150, .bool (fNe (List.getD r202.1 (Int.toNat i281) 0) 4607182418800017408))] [0 ≤ i281 ∧ i281 < (((List.length r202.1) : Nat) : Int), World.cell? w299 ⟨b317, 0 + (Int.toNat i281) * 1, none⟩ = some (.float .f64 (List.getD r202.1 (Int.toNat i281) 0))] E (by kernel_rfl) ⟨g316, Rds.at1 (H.rd 4 rds_row) 0 g316⟩ ?_
     clear E; intro a E
     refine wpList_nil ?_
     have hx_ := Option.some.inj hP
     exact .inl ⟨rfl, (fNe (List.getD r202.1 (Int.toNat i281) 0) 4607182418800017408), E.pick _ ⟨rfl, rfl, rfl, rfl, rfl, rfl, rfl, trivial⟩, H.sel [0, 1, 2, 3, 4] rfl, hx_.symm⟩
    replace E := E_; clear E_
    have h322 : ¬ ((fNe (List.getD r202.1 (Int.toNat i281) 0) 0) = true) := (ne_true_of_eq_false hb_)
    clear hb_; replace hP := ite_f h322 hP
    refine vr tbok 7 [] [(3, .pointer (some ⟨g13, 0, none⟩)), (7, .bool r18), (12, .int .i64 r193.1), (14, .slice (some ⟨b317, 0, none⟩) (List.length r202.1) c212), (16, .float .f64 r214.1), (18, .int .i64 i281), (150, .bool false)] [] E (by kernel_rfl) trivial ?_
    clear E; intro a E
    refine wpList_nil ?_
    have hx_ := Option.some.inj hP
    exact .inl ⟨rfl, false, E.pick _ ⟨rfl, rfl, rfl, rfl, rfl, rfl, rfl, trivial⟩, H.sel [0, 1, 2, 3, 4] rfl, hx_.symm⟩
   clear E H h312; rintro a w315 ⟨x314, E, H, hx_⟩
   subst hx_; have hP := hK313; clear hK313
   refine th_n ?_
   refine E.cases (t := 150) rfl (fun hb_ E_ => ?_) (fun hb_ E_ => ?_)
   ·
    replace E := E_; clear E_
    have h323 : x311 = true := hb_
    clear hb_; replace hP := ite_t h323 hP
    refine c_true E rfl ?_
    refine wp_seq ?_
    refine wp_region_lit ?_
    refine vr tbok 1 [] [(6, .bool false)] [] E (by kernel_rfl) trivial ?_
    clear E; intro a E
    refine wpList_nil ?_
    refine th_n ?_
    refine wp_ret ?_
    refine bl_ret ?_
    refine th_ret ?_
    refine th_ret ?_
    refine .inr ⟨rfl, ?_⟩
    refine bl_ret ?_
    refine th_ret ?_
    have hx_ := Option.some.inj hP; subst hx_
    have hP : some (false) = some r := hK298
    obtain rfl := Option.some.inj hP
    refine ret1 E rfl rfl ?_
    exact ⟨_, rfl, rfl, H.sel [] rfl⟩
   replace E := E_; clear E_
   have h324 : ¬ (x311 = true) := (ne_true_of_eq_false hb_)
   clear hb_; replace hP := ite_f h324 hP
   refine c_false E rfl ?_
   refine wp_skip ?_
   refine bl_n ?_
   refine th_n ?_
   refine wp_region_lit ?_
   obtain ⟨g325, hP⟩ := ask_inv hP
   refine vr tbok 3 [.int .i64 (i281 + 1)] [(3, .pointer (some ⟨g13, 0, none⟩)), (7, .bool r18), (12, .int .i64 r193.1), (14, .slice A211 (List.length r202.1) c212), (16, .float .f64 r214.1), (18, .int .i64 (i281 + 1))] [IntKind.i64.wrap (i281 + 1) = i281 + 1] E (by kernel_rfl) (wrap_in g325) ?_
   clear E; intro a E
   refine wpList_nil ?_
   exact th_n ⟨m295, Nat.lt_succ_self _, i281 + 1, E.pick _ ⟨rfl, rfl, rfl, rfl, rfl, rfl, trivial⟩, H.sel [0, 1, 2, 3, 4] rfl, hP⟩
  replace E := E_; clear E_
  have h326 : ¬ (i281 < (((List.length r202.1) : Nat) : Int)) := of_decide_eq_false hb_
  clear hb_; replace hP := ite_f h326 hP
  refine c_false E rfl ?_
  refine wp_exit ?_
  refine th_exit ?_
  have hx_ := Option.some.inj hP
  refine th_exit (.inl ⟨4, rfl, ?_⟩)
  exact ⟨rfl, (), E.pick _ ⟨rfl, rfl, rfl, rfl, trivial⟩, H.sel [0, 1, 2, 3] rfl, hx_.symm⟩
 clear E H hL297; intro i_ a w299 hM_
 obtain ⟨rfl, x301, E, H, hx_⟩ := hM_
 subst hx_; have hP := elim_l hK298
 clear hK298
 refine bl_hit ?_
 refine th_n ?_
 refine wp_seq ?_
 obtain ⟨x338, h339, hK340⟩ := bind_inv hP
 clear hP
 refine meet_cut (fun a w342 => ∃ (x341 : Bool), Fr a 170 [(6, .bool x341)] ∧ Hp S Fa w0 w342 [] ∧ x338 = x341) ?_ ?_
 ·
  have hP := h339; clear h339; rw [law27_OddsSure_j8] at hP
  refine wp_region_lit ?_
  refine vr tbok 2 [] [(3, .pointer (some ⟨g13, 0, none⟩)), (12, .int .i64 r193.1), (16, .float .f64 r214.1), (152, .bool r18)] [] E (by kernel_rfl) trivial ?_
  clear E; intro a E
  refine E.cases (t := 152) rfl (fun hb_ E_ => ?_) (fun hb_ E_ => ?_)
  ·
   replace E := E_; clear E_
   have h343 : r18 = true := hb_
   clear hb_; replace hP := ite_t h343 hP
   obtain ⟨g344, hP⟩ := ask_inv hP
   obtain ⟨b345, o346, e_b345⟩ := (H.rd 0 rds_ro).addr (idx_pos g344)
   subst e_b345
   refine vr tbok 10 [.slice (some ⟨b345, o346, none⟩) (List.length aAccept) c2, .bool (List.getD aAccept (Int.toNat r193.1) false)] [(16, .float .f64 r214.1), (162, .bool ((fEq r214.1 4607182418800017408) == (List.getD aAccept (Int.toNat r193.1) false)))] [World.cell? w299 ⟨g13, 1, none⟩ = some (.slice (some ⟨b345, o346, none⟩) (List.length aAccept) c2), 0 ≤ r193.1 ∧ r193.1 < (((List.length aAccept) : Nat) : Int), World.cell? w299 ⟨b345, o346 + (Int.toNat r193.1) * 1, none⟩ = some (.bool (List.getD aAccept (Int.toNat r193.1) false))] E (by kernel_rfl) ⟨(H.box 3 rfl).cell (j := 1) rfl, g344, Rds.at1 (H.rd 0 rds_ro) false g344⟩ ?_
   clear E; intro a E
   refine E.cases (t := 162) rfl (fun hb_ E_ => ?_) (fun hb_ E_ => ?_)
   ·
    replace E := E_; clear E_
    have h347 : (fEq r214.1 4607182418800017408) = (List.getD aAccept (Int.toNat r193.1) false) := eq_of_beq hb_
    clear hb_; replace hP := ite_t h347 hP
    refine vr tbok 3 [] [(16, .float .f64 r214.1), (162, .bool true), (165, .bool (fEq r214.1 0))] [] E (by kernel_rfl) trivial ?_
    clear E; intro a E
    refine E.cases (t := 165) rfl (fun hb_ E_ => ?_) (fun hb_ E_ => ?_)
    ·
     replace E := E_; clear E_
     have h348 : (fEq r214.1 0) = true := hb_
     clear hb_; replace hP := ite_t h348 hP
     refine vr tbok 5 [] [(6, .bool true)] [] E (by kernel_rfl) trivial ?_
     clear E; intro a E
     refine wpList_nil ?_
     have hx_ := Option.some.inj hP
     exact .inl ⟨rfl, true, E.pick _ ⟨rfl, trivial⟩, H.sel [] rfl, hx_.symm⟩
    replace E := E_; clear E_
    have h349 : ¬ ((fEq r214.1 0) = true) := (ne_true_of_eq_false hb_)
    clear hb_; replace hP := ite_f h349 hP
    refine vr tbok 5 [] [(6, .bool (fEq r214.1 4607182418800017408))] [] E (by kernel_rfl) trivial ?_
    clear E; intro a E
    refine wpList_nil ?_
    have hx_ := Option.some.inj hP
    exact .inl ⟨rfl, (fEq r214.1 4607182418800017408), E.pick _ ⟨rfl, trivial⟩, H.sel [] rfl, hx_.symm⟩
   replace E := E_; clear E_
   have h350 : ¬ ((fEq r214.1 4607182418800017408) = (List.getD aAccept (Int.toNat r193.1) false)) := ne_of_beq_false hb_
   clear hb_; replace hP := ite_f h350 hP
   refine vr tbok 8 [] [(6, .bool false)] [] E (by kernel_rfl) trivial ?_
   clear E; intro a E
   refine wpList_nil ?_
   have hx_ := Option.some.inj hP
   exact .inl ⟨rfl, false, E.pick _ ⟨rfl, trivial⟩, H.sel [] rfl, hx_.symm⟩
  replace E := E_; clear E_
  have h351 : ¬ (r18 = true) := (ne_true_of_eq_false hb_)
  clear hb_; replace hP := ite_f h351 hP
  refine vr tbok 18 [] [(6, .bool false)] [] E (by kernel_rfl) trivial ?_
  clear E; intro a E
  refine wpList_nil ?_
  have hx_ := Option.some.inj hP
  exact .inl ⟨rfl, false, E.pick _ ⟨rfl, trivial⟩, H.sel [] rfl, hx_.symm⟩
 clear E H h339; rintro a w342 ⟨x341, E, H, hx_⟩
 subst hx_; have hP := hK340; clear hK340
 refine th_n ?_
 refine wp_ret ?_
 obtain rfl := Option.some.inj hP
 refine ret1 E rfl rfl ?_
 exact ⟨_, rfl, rfl, H.sel [] rfl⟩

end Go.V
