/- Plain functions, and the calls that give them. -/
import Derived.Test.YtldjjbgnicknkaaA8
set_option linter.all false
set_option linter.unusedVariables false
set_option linter.unnecessarySimpa false
set_option linter.unusedSimpArgs false
namespace Go.V
open Go Go.Proofs
/-! rejoinder/rejoinderlaw17.CanonOne -/
def law17_CanonOne_j0 (N : Nat) (aProps : Int) (aAccept : List Bool) (aGuard : List Int) (aNodes : List Nd) (bProps : Int) (bAccept : List Bool) (bGuard : List Int) (bNodes : List Nd) (r44 : (Int × (List Bool) × (List Int) × (List Nd)) × Int) (r69 : (Int × (List Bool) × (List Int) × (List Nd)) × Int) : Option Bool :=
    Option.bind (law16_Small N aProps aAccept aGuard aNodes) fun r126 =>
    if r126 = true then
      Option.bind (law16_Small N bProps bAccept bGuard bNodes) fun r137 =>
      if r137 = true then
        if (r44.2 : Int) = 0 then
          if (r69.2 : Int) = 0 then
            some ((aProps : Int) != bProps)
          else
            some true
        else
          some true
      else
        some true
    else
      some true
def law17_CanonOne_j2 (N : Nat) (todo315 : List (Int × Int)) (same318 : Bool) (i319 : Int) : Option Bool :=
    if i319 < (((List.length todo315) : Nat) : Int) then
      some same318
    else
      some false
def law17_CanonOne_j4 (N : Nat) (aProps : Int) (aAccept : List Bool) (bAccept : List Bool) (todo315 : List (Int × Int)) (i319 : Int) (l573 : Int) : Option Bool :=
    ask (0 ≤ aProps) <|
    if l573 < (shlV .i64 1 aProps) then
      some ((List.getD aAccept (Int.toNat ((List.getD todo315 (Int.toNat i319) (0, 0)).1)) false) == (List.getD bAccept (Int.toNat ((List.getD todo315 (Int.toNat i319) (0, 0)).2)) false))
    else
      some false
def law17_CanonOne_j5 (N : Nat) (aAccept : List Bool) (bAccept : List Bool) (r659 : Int × Int) (r668 : Int × Int) : Option Bool :=
    if (r659.2 : Int) = 0 then
      if (r668.2 : Int) = 0 then
        if r659.1 < 0 then
          some true
        else
          if r668.1 < 0 then
            some true
          else
            if (((List.length aAccept) : Nat) : Int) ≤ r659.1 then
              some true
            else
              some (decide ((((List.length bAccept) : Nat) : Int) ≤ r668.1))
      else
        some true
    else
      some true
def law17_CanonOne_j6 (N : Nat) (bAccept : List Bool) (seen569 : List Bool) (todo570 : List (Int × Int)) (r659 : Int × Int) (r668 : Int × Int) : Option ((List Bool) × (List (Int × Int))) :=
    if (List.getD seen569 (Int.toNat ((r659.1 * (((List.length bAccept) : Nat) : Int)) + r668.1)) false) = true then
      some (seen569, todo570)
    else
      ask (List.length todo570 + List.length ([(r659.1, r668.1)] : List (Int × Int)) ≤ 1000000000) <|
      some (List.set seen569 (Int.toNat ((r659.1 * (((List.length bAccept) : Nat) : Int)) + r668.1)) true, todo570 ++ ([(r659.1, r668.1)] : List (Int × Int)))
def law17_CanonOne_l3 (N : Nat) (aProps : Int) (aAccept : List Bool) (aGuard : List Int) (aNodes : List Nd) (bProps : Int) (bAccept : List Bool) (bGuard : List Int) (bNodes : List Nd) (todo315 : List (Int × Int)) (i319 : Int) : Nat → (List Bool) → (List (Int × Int)) → Int → Option (((List Bool) × (List (Int × Int))) ⊕ Bool)
  | 0, _, _, _ => none
  | m639 + 1, seen569, todo570, l573 =>
    Option.bind (law17_CanonOne_j4 N aProps aAccept bAccept todo315 i319 l573) fun x650 =>
    if x650 = true then
      Option.bind (canon_Next N aProps aAccept aGuard aNodes ((List.getD todo315 (Int.toNat i319) (0, 0)).1) (IntKind.u8.wrap l573)) fun r659 =>
      Option.bind (canon_Next N bProps bAccept bGuard bNodes ((List.getD todo315 (Int.toNat i319) (0, 0)).2) (IntKind.u8.wrap l573)) fun r668 =>
      Option.bind (law17_CanonOne_j5 N aAccept bAccept r659 r668) fun x688 =>
      if x688 = true then
        some (Sum.inr false)
      else
        ask (in64 (r659.1 * (((List.length bAccept) : Nat) : Int))) <|
        ask (in64 ((r659.1 * (((List.length bAccept) : Nat) : Int)) + r668.1)) <|
        ask (idx ((r659.1 * (((List.length bAccept) : Nat) : Int)) + r668.1) (List.length seen569)) <|
        Option.bind (law17_CanonOne_j6 N bAccept seen569 todo570 r659 r668) fun x728 =>
        ask (in64 (l573 + 1)) <|
        law17_CanonOne_l3 N aProps aAccept aGuard aNodes bProps bAccept bGuard bNodes todo315 i319 m639 x728.1 x728.2 (l573 + 1)
    else
      some (Sum.inl (seen569, todo570))
def law17_CanonOne_l1 (N : Nat) (aProps : Int) (aAccept : List Bool) (aGuard : List Int) (aNodes : List Nd) (bProps : Int) (bAccept : List Bool) (bGuard : List Int) (bNodes : List Nd) : Nat → (List Bool) → (List (Int × Int)) → Bool → Int → Option (Bool ⊕ Bool)
  | 0, _, _, _, _ => none
  | m474 + 1, seen314, todo315, same318, i319 =>
    Option.bind (law17_CanonOne_j2 N todo315 same318 i319) fun x484 =>
    if x484 = true then
      ask (idx i319 (List.length todo315)) <|
      ask (idx ((List.getD todo315 (Int.toNat i319) (0, 0)).1) (List.length aAccept)) <|
      ask (idx ((List.getD todo315 (Int.toNat i319) (0, 0)).2) (List.length bAccept)) <|
      Option.bind (law17_CanonOne_l3 N aProps aAccept aGuard aNodes bProps bAccept bGuard bNodes todo315 i319 N seen314 todo315 0) fun x640 =>
      Sum.elim (fun x645 =>
        ask (in64 (i319 + 1)) <|
        law17_CanonOne_l1 N aProps aAccept aGuard aNodes bProps bAccept bGuard bNodes m474 x645.1 x645.2 ((List.getD aAccept (Int.toNat ((List.getD todo315 (Int.toNat i319) (0, 0)).1)) false) == (List.getD bAccept (Int.toNat ((List.getD todo315 (Int.toNat i319) (0, 0)).2)) false)) (i319 + 1))
       (fun x751 =>
        some (Sum.inr x751)) x640
    else
      some (Sum.inl same318)
def law17_CanonOne_j7 (N : Nat) (r35 : Bool) (r44 : (Int × (List Bool) × (List Int) × (List Nd)) × Int) (r69 : (Int × (List Bool) × (List Int) × (List Nd)) × Int) (x480 : Bool) : Option Bool :=
    if r35 = true then
      Option.bind (canon_Same N r44.1.1 r44.1.2.1 r44.1.2.2.1 r44.1.2.2.2 r69.1.1 r69.1.2.1 r69.1.2.2.1 r69.1.2.2.2) fun r773 =>
      some (r773 == x480)
    else
      some false
def law17_CanonOne (N : Nat) (aProps : Int) (aAccept : List Bool) (aGuard : List Int) (aNodes : List Nd) (bProps : Int) (bAccept : List Bool) (bGuard : List Int) (bNodes : List Nd) : Option Bool :=
  Option.bind (law17_awake N) fun r35 =>
  Option.bind (canon_Min N aProps aAccept aGuard aNodes) fun r44 =>
  Option.bind (canon_Min N bProps bAccept bGuard bNodes) fun r69 =>
  Option.bind (law17_CanonOne_j0 N aProps aAccept aGuard aNodes bProps bAccept bGuard bNodes r44 r69) fun x121 =>
  if x121 = true then
    some r35
  else
    ask (in64 ((((List.length aAccept) : Nat) : Int) * (((List.length bAccept) : Nat) : Int))) <|
    ask (0 ≤ ((((List.length aAccept) : Nat) : Int) * (((List.length bAccept) : Nat) : Int)) ∧ ((((List.length aAccept) : Nat) : Int) * (((List.length bAccept) : Nat) : Int)) ≤ 1000000000) <|
    ask (idx (0 : Int) (List.length (List.replicate (Int.toNat ((((List.length aAccept) : Nat) : Int) * (((List.length bAccept) : Nat) : Int))) (false : Bool)))) <|
    Option.bind (law17_CanonOne_l1 N aProps aAccept aGuard aNodes bProps bAccept bGuard bNodes N (List.set (List.replicate (Int.toNat ((((List.length aAccept) : Nat) : Int) * (((List.length bAccept) : Nat) : Int))) (false : Bool)) (Int.toNat (0 : Int)) true) ([(0, 0)] : List (Int × Int)) true 0) fun x475 =>
    Sum.elim (fun x480 =>
      Option.bind (law17_CanonOne_j7 N r35 r44 r69 x480) fun x767 =>
      some x767)
     (fun x754 =>
      some x754) x475
set_option maxRecDepth 100000 in
set_option maxHeartbeats 4000000 in
theorem law17_CanonOne_calls {N : Nat} {S Fa : Nat → Prop} {w0 : World} {r : Bool} (A1 : Option Addr) (c2 : Nat) (A5 : Option Addr) (c6 : Nat) (A9 : Option Addr) (c10 : Nat) (A13 : Option Addr) (c14 : Nat) (A17 : Option Addr) (c18 : Nat) (A21 : Option Addr) (c22 : Nat) (aProps : Int) (aAccept : List Bool) (aGuard : List Int) (aNodes : List Nd) (bProps : Int) (bAccept : List Bool) (bGuard : List Int) (bNodes : List Nd) (hk3 : List.length aAccept ≤ c2) (hk7 : List.length aGuard ≤ c6) (hk11 : List.length aNodes ≤ c10) (hk15 : List.length bAccept ≤ c14) (hk19 : List.length bGuard ≤ c18) (hk23 : List.length bNodes ≤ c22) (H : Hp S Fa w0 w0 [.ro false cBool A1 aAccept, .ro false (cInt .i64) A5 aGuard, .ro false cNode A9 aNodes, .ro false cBool A13 bAccept, .ro false (cInt .i64) A17 bGuard, .ro false cNode A21 bNodes]) (hP : law17_CanonOne N aProps aAccept aGuard aNodes bProps bAccept bGuard bNodes = some r) :
    Calls Try.prog 5 #[.agg #[.int .i64 aProps, .slice A1 (List.length aAccept) c2, .slice A5 (List.length aGuard) c6, .slice A9 (List.length aNodes) c10], .agg #[.int .i64 bProps, .slice A13 (List.length bAccept) c14, .slice A17 (List.length bGuard) c18, .slice A21 (List.length bNodes) c22]] w0 fun e w' => ∃ v, e = .returned v ∧ v = .bool r ∧ Hp S Fa w0 w' [] := by
 refine enterV (n := 182) Try.func5 rfl rfl rfl ?_
 intro a E
 replace E := E.pick [(0, .agg #[.int .i64 aProps, .slice A1 (List.length aAccept) c2, .slice A5 (List.length aGuard) c6, .slice A9 (List.length aNodes) c10]), (1, .agg #[.int .i64 bProps, .slice A13 (List.length bAccept) c14, .slice A17 (List.length bGuard) c18, .slice A21 (List.length bNodes) c22])] ⟨rfl, rfl, trivial⟩
 rw [law17_CanonOne] at hP
 refine wp_seq ?_
 refine wp_region_lit ?_
 refine h_box H E rfl rfl rfl ?_
 intro w26 g25 a hc27 hg29 H_ E_
 replace E := E_ _ rfl; clear E_
 replace H := H_; clear H_; try dsimp only [setn, addE, goneL] at H
 refine h_box H E rfl rfl rfl ?_
 intro w31 g30 a hc32 hg34 H_ E_
 replace E := E_ _ rfl; clear E_
 replace H := H_; clear H_; try dsimp only [setn, addE, goneL] at H
 refine vr tbok 1 [] [(2, .pointer (some ⟨g25, 0, none⟩)), (3, .pointer (some ⟨g30, 0, none⟩))] [] E (by kernel_rfl) trivial ?_
 clear E; intro a E
 refine wpList_nil ?_
 refine th_n ?_
 refine wp_seq ?_
 refine wp_region_lit ?_
 obtain ⟨r35, h36, hP⟩ := bind_inv hP
 obtain ⟨Fa37, Hc38, hb39⟩ := H.call [] [] rfl rfl trivial
 refine e_call E rfl rfl Try.func24 rfl rfl rfl (law17_awake_calls    Hc38 h36) ?_
 rintro v40 w41 a ⟨rfl, HR42⟩ E_
 replace E := E_ _ rfl; clear E_
 obtain ⟨H_, hc43⟩ := hb39 _ _ HR42 rfl
 replace H := H_; clear H_; try dsimp only [setn, addE, goneL] at H
 refine vr tbok 1 [] [(2, .pointer (some ⟨g25, 0, none⟩)), (3, .pointer (some ⟨g30, 0, none⟩)), (5, .bool r35)] [] E (by kernel_rfl) trivial ?_
 clear E; intro a E
 refine wpList_nil ?_
 refine th_n ?_
 refine wp_seq ?_
 refine wp_region_lit ?_
 refine vr tbok 1 [.agg #[.int .i64 aProps, .slice A1 (List.length aAccept) c2, .slice A5 (List.length aGuard) c6, .slice A9 (List.length aNodes) c10]] [(2, .pointer (some ⟨g25, 0, none⟩)), (3, .pointer (some ⟨g30, 0, none⟩)), (5, .bool r35), (24, .agg #[.int .i64 aProps, .slice A1 (List.length aAccept) c2, .slice A5 (List.length aGuard) c6, .slice A9 (List.length aNodes) c10])] [cellsAt w41 g25 (0) [.int .i64 aProps, .slice A1 (List.length aAccept) c2, .slice A5 (List.length aGuard) c6, .slice A9 (List.length aNodes) c10]] E (by kernel_rfl) ((H.box 6 rfl).sub 0 _ rfl) ?_
 clear E; intro a E
 obtain ⟨r44, h45, hP⟩ := bind_inv hP
 obtain ⟨Fa46, Hc47, hb48⟩ := H.call [] [(0, false), (1, false), (2, false)] rfl rfl trivial
 refine e_call E rfl rfl Try.func17 rfl rfl rfl (canon_Min_calls A1 c2 A5 c6 A9 c10 aProps aAccept aGuard aNodes hk3 hk7 hk11 Hc47 h45) ?_
 rintro v49 w50 a ⟨A53, c54, A56, c57, A59, c60, rfl, HR51⟩ E_
 replace E := E_ _ rfl; clear E_
 obtain ⟨H_, hc52⟩ := hb48 _ _ HR51 rfl
 replace H := H_; clear H_; try dsimp only [setn, addE, goneL] at H
 refine vr tbok 3 [] [(2, .pointer (some ⟨g25, 0, none⟩)), (3, .pointer (some ⟨g30, 0, none⟩)), (5, .bool r35), (26, .agg #[.int .i64 r44.1.1, .slice A53 (List.length r44.1.2.1) c54, .slice A56 (List.length r44.1.2.2.1) c57, .slice A59 (List.length r44.1.2.2.2) c60]), (27, .int .i64 r44.2)] [] E (by kernel_rfl) trivial ?_
 clear E; intro a E
 refine h_alloc H E rfl rfl tbok rfl ?_
 intro w63 g62 a hc64 hg66 H_ E_
 replace E := E_ _ rfl; clear E_
 replace H := H_; clear H_; try dsimp only [setn, addE, goneL] at H
 refine h_store (g := g62) (off := 0) H 11 rfl E rfl rfl rfl rfl tbok rfl rfl rfl rfl rfl ?_
 clear E; intro w67 a hc68 H_ E
 replace H := H_; clear H_; try dsimp only [setn, addE, goneL] at H
 refine vr tbok 1 [] [(2, .pointer (some ⟨g25, 0, none⟩)), (3, .pointer (some ⟨g30, 0, none⟩)), (5, .bool r35), (6, .pointer (some ⟨g62, 0, none⟩)), (7, .int .i64 r44.2)] [] E (by kernel_rfl) trivial ?_
 clear E; intro a E
 refine wpList_nil ?_
 refine th_n ?_
 refine wp_seq ?_
 refine wp_region_lit ?_
 refine vr tbok 1 [.agg #[.int .i64 bProps, .slice A13 (List.length bAccept) c14, .slice A17 (List.length bGuard) c18, .slice A21 (List.length bNodes) c22]] [(2, .pointer (some ⟨g25, 0, none⟩)), (3, .pointer (some ⟨g30, 0, none⟩)), (5, .bool r35), (6, .pointer (some ⟨g62, 0, none⟩)), (7, .int .i64 r44.2), (29, .agg #[.int .i64 bProps, .slice A13 (List.length bAccept) c14, .slice A17 (List.length bGuard) c18, .slice A21 (List.length bNodes) c22])] [cellsAt w67 g30 (0) [.int .i64 bProps, .slice A13 (List.length bAccept) c14, .slice A17 (List.length bGuard) c18, .slice A21 (List.length bNodes) c22]] E (by kernel_rfl) ((H.box 7 rfl).sub 0 _ rfl) ?_
 clear E; intro a E
 obtain ⟨r69, h70, hP⟩ := bind_inv hP
 obtain ⟨Fa71, Hc72, hb73⟩ := H.call [] [(3, false), (4, false), (5, false)] rfl rfl trivial
 refine e_call E rfl rfl Try.func17 rfl rfl rfl (canon_Min_calls A13 c14 A17 c18 A21 c22 bProps bAccept bGuard bNodes hk15 hk19 hk23 Hc72 h70) ?_
 rintro v74 w75 a ⟨A78, c79, A81, c82, A84, c85, rfl, HR76⟩ E_
 replace E := E_ _ rfl; clear E_
 obtain ⟨H_, hc77⟩ := hb73 _ _ HR76 rfl
 replace H := H_; clear H_; try dsimp only [setn, addE, goneL] at H
 refine vr tbok 3 [] [(2, .pointer (some ⟨g25, 0, none⟩)), (3, .pointer (some ⟨g30, 0, none⟩)), (5, .bool r35), (6, .pointer (some ⟨g62, 0, none⟩)), (7, .int .i64 r44.2), (31, .agg #[.int .i64 r69.1.1, .slice A78 (List.length r69.1.2.1) c79, .slice A81 (List.length r69.1.2.2.1) c82, .slice A84 (List.length r69.1.2.2.2) c85]), (32, .int .i64 r69.2)] [] E (by kernel_rfl) trivial ?_
 clear E; intro a E
 refine h_alloc H E rfl rfl tbok rfl ?_
 intro w88 g87 a hc89 hg91 H_ E_
 replace E := E_ _ rfl; clear E_
 replace H := H_; clear H_; try dsimp only [setn, addE, goneL] at H
 refine h_store (g := g87) (off := 0) H 15 rfl E rfl rfl rfl rfl tbok rfl rfl rfl rfl rfl ?_
 clear E; intro w92 a hc93 H_ E
 replace H := H_; clear H_; try dsimp only [setn, addE, goneL] at H
 refine vr tbok 1 [] [(2, .pointer (some ⟨g25, 0, none⟩)), (3, .pointer (some ⟨g30, 0, none⟩)), (5, .bool r35), (6, .pointer (some ⟨g62, 0, none⟩)), (7, .int .i64 r44.2), (8, .pointer (some ⟨g87, 0, none⟩)), (9, .int .i64 r69.2)] [] E (by kernel_rfl) trivial ?_
 clear E; intro a E
 refine wpList_nil ?_
 refine th_n ?_
 refine wp_seq ?_
 refine wp_seq ?_
 obtain ⟨x121, h122, hK123⟩ := bind_inv hP
 clear hP
 refine meet_cut (fun a w125 => ∃ (x124 : Bool), Fr a 182 [(2, .pointer (some ⟨g25, 0, none⟩)), (3, .pointer (some ⟨g30, 0, none⟩)), (5, .bool r35), (6, .pointer (some ⟨g62, 0, none⟩)), (8, .pointer (some ⟨g87, 0, none⟩)), (55, .bool x124)] ∧ Hp S Fa w0 w125 [.ro false cBool A1 aAccept, .ro false (cInt .i64) A5 aGuard, .ro false cNode A9 aNodes, .box g25 26 [.int .i64 aProps, .slice A1 (List.length aAccept) c2, .slice A5 (List.length aGuard) c6, .slice A9 (List.length aNodes) c10], .ro false cBool A13 bAccept, .ro false (cInt .i64) A17 bGuard, .ro false cNode A21 bNodes, .box g30 26 [.int .i64 bProps, .slice A13 (List.length bAccept) c14, .slice A17 (List.length bGuard) c18, .slice A21 (List.length bNodes) c22], .row true cBool 4 A53 c54 r44.1.2.1, .row true (cInt .i64) 3 A56 c57 r44.1.2.2.1, .row true cNode 57 A59 c60 r44.1.2.2.2, .box g62 26 [.int .i64 r44.1.1, .slice A53 (List.length r44.1.2.1) c54, .slice A56 (List.length r44.1.2.2.1) c57, .slice A59 (List.length r44.1.2.2.2) c60], .row true cBool 4 A78 c79 r69.1.2.1, .row true (cInt .i64) 3 A81 c82 r69.1.2.2.1, .row true cNode 57 A84 c85 r69.1.2.2.2, .box g87 26 [.int .i64 r69.1.1, .slice A78 (List.length r69.1.2.1) c79, .slice A81 (List.length r69.1.2.2.1) c82, .slice A84 (List.length r69.1.2.2.2) c85]] ∧ x121 = x124) ?_ ?_
 ·
  have hP := h122; clear h122; rw [law17_CanonOne_j0] at hP
  refine wp_region_lit ?_
  refine vr tbok 1 [.agg #[.int .i64 aProps, .slice A1 (List.length aAccept) c2, .slice A5 (List.length aGuard) c6, .slice A9 (List.length aNodes) c10]] [(2, .pointer (some ⟨g25, 0, none⟩)), (3, .pointer (some ⟨g30, 0, none⟩)), (5, .bool r35), (6, .pointer (some ⟨g62, 0, none⟩)), (7, .int .i64 r44.2), (8, .pointer (some ⟨g87, 0, none⟩)), (9, .int .i64 r69.2), (33, .agg #[.int .i64 aProps, .slice A1 (List.length aAccept) c2, .slice A5 (List.length aGuard) c6, .slice A9 (List.length aNodes) c10])] [cellsAt w92 g25 (0) [.int .i64 aProps, .slice A1 (List.length aAccept) c2, .slice A5 (List.length aGuard) c6, .slice A9 (List.length aNodes) c10]] E (by kernel_rfl) ((H.box 6 rfl).sub 0 _ rfl) ?_
  clear E; intro a E
  obtain ⟨r126, h127, hP⟩ := bind_inv hP
  obtain ⟨Fa128, Hc129, hb130⟩ := H.call [] [(0, false), (1, false), (2, false)] rfl rfl trivial
  refine e_call E rfl rfl Try.func16 rfl rfl rfl (law16_Small_calls A1 c2 A5 c6 A9 c10 aProps aAccept aGuard aNodes hk3 hk7 hk11 Hc129 h127) ?_
  rintro v131 w132 a ⟨rfl, HR133⟩ E_
  replace E := E_ _ rfl; clear E_
  obtain ⟨H_, hc134⟩ := hb130 _ _ HR133 rfl
  replace H := H_; clear H_; try dsimp only [setn, addE, goneL] at H
  refine vr tbok 2 [] [(2, .pointer (some ⟨g25, 0, none⟩)), (3, .pointer (some ⟨g30, 0, none⟩)), (5, .bool r35), (6, .pointer (some ⟨g62, 0, none⟩)), (7, .int .i64 r44.2), (8, .pointer (some ⟨g87, 0, none⟩)), (9, .int .i64 r69.2), (36, .bool (!r126))] [] E (by kernel_rfl) trivial ?_
  clear E; intro a E
  refine E.cases (t := 36) rfl (fun hb_ E_ => ?_) (fun hb_ E_ => ?_)
  ·
   replace E := E_; clear E_
   have h135 : ¬ (r126 = true) := (ne_true_of_eq_false (not_t hb_))
   clear hb_; replace hP := ite_f h135 hP
   refine vr tbok 19 [] [(2, .pointer (some ⟨g25, 0, none⟩)), (3, .pointer (some ⟨g30, 0, none⟩)), (5, .bool r35), (6, .pointer (some ⟨g62, 0, none⟩)), (8, .pointer (some ⟨g87, 0, none⟩)), (55, .bool true)] [] E (by kernel_rfl) trivial ?_
   clear E; intro a E
   refine wpList_nil ?_
   have hx_ := Option.some.inj hP
   exact .inl ⟨rfl, true, E.pick _ ⟨rfl, rfl, rfl, rfl, rfl, rfl, trivial⟩, H.sel [0, 1, 2, 6, 3, 4, 5, 7, 8, 9, 10, 11, 12, 13, 14, 15] rfl, hx_.symm⟩
  replace E := E_; clear E_
  have h136 : r126 = true := (not_f hb_)
  clear hb_; replace hP := ite_t h136 hP
  refine vr tbok 1 [.agg #[.int .i64 bProps, .slice A13 (List.length bAccept) c14, .slice A17 (List.length bGuard) c18, .slice A21 (List.length bNodes) c22]] [(2, .pointer (some ⟨g25, 0, none⟩)), (3, .pointer (some ⟨g30, 0, none⟩)), (5, .bool r35), (6, .pointer (some ⟨g62, 0, none⟩)), (7, .int .i64 r44.2), (8, .pointer (some ⟨g87, 0, none⟩)), (9, .int .i64 r69.2), (36, .bool false), (37, .agg #[.int .i64 bProps, .slice A13 (List.length bAccept) c14, .slice A17 (List.length bGuard) c18, .slice A21 (List.length bNodes) c22])] [cellsAt w132 g30 (0) [.int .i64 bProps, .slice A13 (List.length bAccept) c14, .slice A17 (List.length bGuard) c18, .slice A21 (List.length bNodes) c22]] E (by kernel_rfl) ((H.box 7 rfl).sub 0 _ rfl) ?_
  clear E; intro a E
  obtain ⟨r137, h138, hP⟩ := bind_inv hP
  obtain ⟨Fa139, Hc140, hb141⟩ := H.call [] [(3, false), (4, false), (5, false)] rfl rfl trivial
  refine e_call E rfl rfl Try.func16 rfl rfl rfl (law16_Small_calls A13 c14 A17 c18 A21 c22 bProps bAccept bGuard bNodes hk15 hk19 hk23 Hc140 h138) ?_
  rintro v142 w143 a ⟨rfl, HR144⟩ E_
  replace E := E_ _ rfl; clear E_
  obtain ⟨H_, hc145⟩ := hb141 _ _ HR144 rfl
  replace H := H_; clear H_; try dsimp only [setn, addE, goneL] at H
  refine vr tbok 3 [] [(2, .pointer (some ⟨g25, 0, none⟩)), (3, .pointer (some ⟨g30, 0, none⟩)), (5, .bool r35), (6, .pointer (some ⟨g62, 0, none⟩)), (7, .int .i64 r44.2), (8, .pointer (some ⟨g87, 0, none⟩)), (9, .int .i64 r69.2), (41, .bool (!r137))] [] E (by kernel_rfl) trivial ?_
  clear E; intro a E
  refine E.cases (t := 41) rfl (fun hb_ E_ => ?_) (fun hb_ E_ => ?_)
  ·
   replace E := E_; clear E_
   have h146 : ¬ (r137 = true) := (ne_true_of_eq_false (not_t hb_))
   clear hb_; replace hP := ite_f h146 hP
   refine vr tbok 14 [] [(2, .pointer (some ⟨g25, 0, none⟩)), (3, .pointer (some ⟨g30, 0, none⟩)), (5, .bool r35), (6, .pointer (some ⟨g62, 0, none⟩)), (8, .pointer (some ⟨g87, 0, none⟩)), (55, .bool true)] [] E (by kernel_rfl) trivial ?_
   clear E; intro a E
   refine wpList_nil ?_
   have hx_ := Option.some.inj hP
   exact .inl ⟨rfl, true, E.pick _ ⟨rfl, rfl, rfl, rfl, rfl, rfl, trivial⟩, H.sel [0, 1, 2, 6, 3, 4, 5, 7, 8, 9, 10, 11, 12, 13, 14, 15] rfl, hx_.symm⟩
  replace E := E_; clear E_
  have h147 : r137 = true := (not_f hb_)
  clear hb_; replace hP := ite_t h147 hP
  refine vr tbok 4 [] [(2, .pointer (some ⟨g25, 0, none⟩)), (3, .pointer (some ⟨g30, 0, none⟩)), (5, .bool r35), (6, .pointer (some ⟨g62, 0, none⟩)), (8, .pointer (some ⟨g87, 0, none⟩)), (9, .int .i64 r69.2), (45, .bool ((r44.2 : Int) != 0))] [] E (by kernel_rfl) trivial ?_
  clear E; intro a E
  refine E.cases (t := 45) rfl (fun hb_ E_ => ?_) (fun hb_ E_ => ?_)
  ·
   replace E := E_; clear E_
   have h148 : ¬ ((r44.2 : Int) = 0) := bne_iff_ne.1 hb_
   clear hb_; replace hP := ite_f h148 hP
   refine vr tbok 10 [] [(2, .pointer (some ⟨g25, 0, none⟩)), (3, .pointer (some ⟨g30, 0, none⟩)), (5, .bool r35), (6, .pointer (some ⟨g62, 0, none⟩)), (8, .pointer (some ⟨g87, 0, none⟩)), (55, .bool true)] [] E (by kernel_rfl) trivial ?_
   clear E; intro a E
   refine wpList_nil ?_
   have hx_ := Option.some.inj hP
   exact .inl ⟨rfl, true, E.pick _ ⟨rfl, rfl, rfl, rfl, rfl, rfl, trivial⟩, H.sel [0, 1, 2, 6, 3, 4, 5, 7, 8, 9, 10, 11, 12, 13, 14, 15] rfl, hx_.symm⟩
  replace E := E_; clear E_
  have h149 : (r44.2 : Int) = 0 := bne_eq_false_iff_eq.1 hb_
  clear hb_; replace hP := ite_t h149 hP
  refine vr tbok 4 [] [(2, .pointer (some ⟨g25, 0, none⟩)), (3, .pointer (some ⟨g30, 0, none⟩)), (5, .bool r35), (6, .pointer (some ⟨g62, 0, none⟩)), (8, .pointer (some ⟨g87, 0, none⟩)), (49, .bool ((r69.2 : Int) != 0))] [] E (by kernel_rfl) trivial ?_
  clear E; intro a E
  refine E.cases (t := 49) rfl (fun hb_ E_ => ?_) (fun hb_ E_ => ?_)
  ·
   replace E := E_; clear E_
   have h150 : ¬ ((r69.2 : Int) = 0) := bne_iff_ne.1 hb_
   clear hb_; replace hP := ite_f h150 hP
   refine vr tbok 6 [] [(2, .pointer (some ⟨g25, 0, none⟩)), (3, .pointer (some ⟨g30, 0, none⟩)), (5, .bool r35), (6, .pointer (some ⟨g62, 0, none⟩)), (8, .pointer (some ⟨g87, 0, none⟩)), (55, .bool true)] [] E (by kernel_rfl) trivial ?_
   clear E; intro a E
   refine wpList_nil ?_
   have hx_ := Option.some.inj hP
   exact .inl ⟨rfl, true, E.pick _ ⟨rfl, rfl, rfl, rfl, rfl, rfl, trivial⟩, H.sel [0, 1, 2, 6, 3, 4, 5, 7, 8, 9, 10, 11, 12, 13, 14, 15] rfl, hx_.symm⟩
  replace E := E_; clear E_
  have h151 : (r69.2 : Int) = 0 := bne_eq_false_iff_eq.1 hb_
  clear hb_; replace hP := ite_t h151 hP
  refine vr tbok 6 [.int .i64 aProps, .int .i64 bProps] [(2, .pointer (some ⟨g25, 0, none⟩)), (3, .pointer (some ⟨g30, 0, none⟩)), (5, .bool r35), (6, .pointer (some ⟨g62, 0, none⟩)), (8, .pointer (some ⟨g87, 0, none⟩)), (55, .bool ((aProps : Int) != bProps))] [World.cell? w143 ⟨g25, 0, none⟩ = some (.int .i64 aProps), World.cell? w143 ⟨g30, 0, none⟩ = some (.int .i64 bProps)] E (by kernel_rfl) ⟨(H.box 6 rfl).cell (j := 0) rfl, (H.box 7 rfl).cell (j := 0) rfl⟩ ?_
  clear E; intro a E
  refine wpList_nil ?_
  have hx_ := Option.some.inj hP
  exact .inl ⟨rfl, (aProps : Int) != bProps, E.pick _ ⟨rfl, rfl, rfl, rfl, rfl, rfl, trivial⟩, H.sel [0, 1, 2, 6, 3, 4, 5, 7, 8, 9, 10, 11, 12, 13, 14, 15] rfl, hx_.symm⟩
 clear E H h122; rintro a w125 ⟨x124, E, H, hx_⟩
 subst hx_; have hP := hK123; clear hK123
 refine th_n ?_
 refine E.cases (t := 55) rfl (fun hb_ E_ => ?_) (fun hb_ E_ => ?_)
 ·
  replace E := E_; clear E_
  have h152 : x121 = true := hb_
  clear hb_; replace hP := ite_t h152 hP
  refine c_true E rfl ?_
  refine wp_seq ?_
  refine wp_region_lit ?_
  refine vr tbok 2 [] [(4, .bool r35)] [] E (by kernel_rfl) trivial ?_
  clear E; intro a E
  refine wpList_nil ?_
  refine th_n ?_
  refine wp_ret ?_
  refine th_ret ?_
  obtain rfl := Option.some.inj hP
  refine ret1 E rfl rfl ?_
  exact ⟨_, rfl, rfl, H.sel [] rfl⟩
 replace E := E_; clear E_
 have h153 : ¬ (x121 = true) := (ne_true_of_eq_false hb_)
 clear hb_; replace hP := ite_f h153 hP
 refine c_false E rfl ?_
 refine wp_skip ?_
 refine th_n ?_
 refine wp_seq ?_
 refine wp_region_lit ?_
 refine vr tbok 4 [.slice A13 (List.length bAccept) c14] [(2, .pointer (some ⟨g25, 0, none⟩)), (3, .pointer (some ⟨g30, 0, none⟩)), (5, .bool r35), (6, .pointer (some ⟨g62, 0, none⟩)), (8, .pointer (some ⟨g87, 0, none⟩)), (10, .int .i64 (((List.length bAccept) : Nat) : Int))] [World.cell? w125 ⟨g30, 1, none⟩ = some (.slice A13 (List.length bAccept) c14)] E (by kernel_rfl) ((H.box 7 rfl).cell (j := 1) rfl) ?_
 clear E; intro a E
 refine wpList_nil ?_
 refine th_n ?_
 refine wp_seq ?_
 refine wp_region_lit ?_
 obtain ⟨g154, hP⟩ := ask_inv hP
 refine vr tbok 5 [.slice A1 (List.length aAccept) c2, .int .i64 ((((List.length aAccept) : Nat) : Int) * (((List.length bAccept) : Nat) : Int))] [(2, .pointer (some ⟨g25, 0, none⟩)), (3, .pointer (some ⟨g30, 0, none⟩)), (5, .bool r35), (6, .pointer (some ⟨g62, 0, none⟩)), (8, .pointer (some ⟨g87, 0, none⟩)), (10, .int .i64 (((List.length bAccept) : Nat) : Int)), (64, .int .i64 ((((List.length aAccept) : Nat) : Int) * (((List.length bAccept) : Nat) : Int)))] [World.cell? w125 ⟨g25, 1, none⟩ = some (.slice A1 (List.length aAccept) c2), IntKind.i64.wrap ((((List.length aAccept) : Nat) : Int) * (((List.length bAccept) : Nat) : Int)) = (((List.length aAccept) : Nat) : Int) * (((List.length bAccept) : Nat) : Int)] E (by kernel_rfl) ⟨(H.box 3 rfl).cell (j := 1) rfl, wrap_in g154⟩ ?_
 clear E; intro a E
 obtain ⟨g155, hP⟩ := ask_inv hP
 refine h_make cBool (false : Bool) H E rfl rfl tbok rfl rfl rfl rfl ⟨g155.1, Int.le_refl _, g155.2⟩ rfl rfl rfl (fun _ _ => rfl) ?_
 intro w157 g156 a hc158 hg160 H_ E_
 replace E := E_ _ rfl; clear E_
 replace H := H_; clear H_; try dsimp only [setn, addE, goneL] at H
 refine vr tbok 1 [] [(2, .pointer (some ⟨g25, 0, none⟩)), (3, .pointer (some ⟨g30, 0, none⟩)), (5, .bool r35), (6, .pointer (some ⟨g62, 0, none⟩)), (8, .pointer (some ⟨g87, 0, none⟩)), (10, .int .i64 (((List.length bAccept) : Nat) : Int)), (11, .slice (some ⟨g156, 0, none⟩) (List.length (List.replicate (Int.toNat ((((List.length aAccept) : Nat) : Int) * (((List.length bAccept) : Nat) : Int))) (false : Bool))) (Int.toNat ((((List.length aAccept) : Nat) : Int) * (((List.length bAccept) : Nat) : Int))))] [] E (by kernel_rfl) trivial ?_
 clear E; intro a E
 refine wpList_nil ?_
 refine th_n ?_
 refine wp_seq ?_
 refine wp_region_lit ?_
 refine e_build (ps := [(0, .int .i64 0), (1, .int .i64 0)]) (v := .agg #[.int .i64 0, .int .i64 0]) E rfl rfl tbok rfl (by kernel_rfl) rfl ?_
 clear E; intro a E
 refine h_buildSlice (ps := [(0, .agg #[.int .i64 0, .int .i64 0])]) (cs := [.int .i64 0, .int .i64 0]) H E rfl rfl tbok rfl rfl (by kernel_rfl) ?_
 intro w162 g161 a hc163 hg165 H_ E_
 replace E := E_ _ rfl; clear E_
 replace H := H_; clear H_; try dsimp only [setn, addE, goneL] at H
 refine vr tbok 1 [] [(2, .pointer (some ⟨g25, 0, none⟩)), (3, .pointer (some ⟨g30, 0, none⟩)), (5, .bool r35), (6, .pointer (some ⟨g62, 0, none⟩)), (8, .pointer (some ⟨g87, 0, none⟩)), (10, .int .i64 (((List.length bAccept) : Nat) : Int)), (11, .slice (some ⟨g156, 0, none⟩) (List.length (List.replicate (Int.toNat ((((List.length aAccept) : Nat) : Int) * (((List.length bAccept) : Nat) : Int))) (false : Bool))) (Int.toNat ((((List.length aAccept) : Nat) : Int) * (((List.length bAccept) : Nat) : Int)))), (12, .slice (some ⟨g161, 0, none⟩) 1 1)] [] E (by kernel_rfl) trivial ?_
 clear E; intro a E
 refine wpList_nil ?_
 refine th_n ?_
 refine wp_seq ?_
 refine wp_region_lit ?_
 obtain ⟨g166, hP⟩ := ask_inv hP
 refine vr tbok 2 [] [(2, .pointer (some ⟨g25, 0, none⟩)), (3, .pointer (some ⟨g30, 0, none⟩)), (5, .bool r35), (6, .pointer (some ⟨g62, 0, none⟩)), (8, .pointer (some ⟨g87, 0, none⟩)), (10, .int .i64 (((List.length bAccept) : Nat) : Int)), (11, .slice (some ⟨g156, 0, none⟩) (List.length (List.replicate (Int.toNat ((((List.length aAccept) : Nat) : Int) * (((List.length bAccept) : Nat) : Int))) (false : Bool))) (Int.toNat ((((List.length aAccept) : Nat) : Int) * (((List.length bAccept) : Nat) : Int)))), (12, .slice (some ⟨g161, 0, none⟩) 1 1), (69, .pointer (some ⟨g156, 0 + (Int.toNat (0 : Int)) * 1, none⟩))] [0 ≤ (0 : Int) ∧ (0 : Int) < (((List.length (List.replicate (Int.toNat ((((List.length aAccept) : Nat) : Int) * (((List.length bAccept) : Nat) : Int))) (false : Bool))) : Nat) : Int)] E (by kernel_rfl) (g166) ?_
 clear E; intro a E
 refine h_setx (g := g156) (i := (0 : Int)) true H 16 rfl E rfl rfl rfl rfl tbok rfl (fun _ HF_ => rfl) rfl g166 rfl ?_
 clear E; intro w167 a hc168 H_ E
 replace H := H_; clear H_; try dsimp only [setn, addE, goneL] at H
 have hn169 : (List.length (List.replicate (Int.toNat ((((List.length aAccept) : Nat) : Int) * (((List.length bAccept) : Nat) : Int))) (false : Bool))) = (List.length (List.set (List.replicate (Int.toNat ((((List.length aAccept) : Nat) : Int) * (((List.length bAccept) : Nat) : Int))) (false : Bool)) (Int.toNat (0 : Int)) true)) := by simp only [List.length_set]
 replace E := E.same (t := 11) (u := .slice (some ⟨g156, 0, none⟩) (List.length (List.set (List.replicate (Int.toNat ((((List.length aAccept) : Nat) : Int) * (((List.length bAccept) : Nat) : Int))) (false : Bool)) (Int.toNat (0 : Int)) true)) (Int.toNat ((((List.length aAccept) : Nat) : Int) * (((List.length bAccept) : Nat) : Int)))) rfl (congrArg (fun n_ => Value.slice (some ⟨g156, 0, none⟩) n_ (Int.toNat ((((List.length aAccept) : Nat) : Int) * (((List.length bAccept) : Nat) : Int)))) hn169)
 refine wpList_nil ?_
 refine th_n ?_
 refine wp_seq ?_
 refine wp_region_lit ?_
 refine vr tbok 1 [] [(2, .pointer (some ⟨g25, 0, none⟩)), (3, .pointer (some ⟨g30, 0, none⟩)), (5, .bool r35), (6, .pointer (some ⟨g62, 0, none⟩)), (8, .pointer (some ⟨g87, 0, none⟩)), (10, .int .i64 (((List.length bAccept) : Nat) : Int)), (11, .slice (some ⟨g156, 0, none⟩) (List.length (List.set (List.replicate (Int.toNat ((((List.length aAccept) : Nat) : Int) * (((List.length bAccept) : Nat) : Int))) (false : Bool)) (Int.toNat (0 : Int)) true)) (Int.toNat ((((List.length aAccept) : Nat) : Int) * (((List.length bAccept) : Nat) : Int)))), (12, .slice (some ⟨g161, 0, none⟩) 1 1), (13, .bool true)] [] E (by kernel_rfl) trivial ?_
 clear E; intro a E
 refine wpList_nil ?_
 refine th_n ?_
 refine wp_seq ?_
 refine wp_seq ?_
 refine wp_region_lit ?_
 refine vr tbok 1 [] [(2, .pointer (some ⟨g25, 0, none⟩)), (3, .pointer (some ⟨g30, 0, none⟩)), (5, .bool r35), (6, .pointer (some ⟨g62, 0, none⟩)), (8, .pointer (some ⟨g87, 0, none⟩)), (10, .int .i64 (((List.length bAccept) : Nat) : Int)), (11, .slice (some ⟨g156, 0, none⟩) (List.length (List.set (List.replicate (Int.toNat ((((List.length aAccept) : Nat) : Int) * (((List.length bAccept) : Nat) : Int))) (false : Bool)) (Int.toNat (0 : Int)) true)) (Int.toNat ((((List.length aAccept) : Nat) : Int) * (((List.length bAccept) : Nat) : Int)))), (12, .slice (some ⟨g161, 0, none⟩) 1 1), (13, .bool true), (14, .int .i64 0)] [] E (by kernel_rfl) trivial ?_
 clear E; intro a E
 refine wpList_nil ?_
 refine th_n ?_
 refine wp_block ?_
 obtain ⟨x475, hL476, hK477⟩ := bind_inv hP
 clear hP
 replace H := H.boxRow cS51 true ([(0, 0)] : List (Int × Int)) 17 rfl (fun _ _ => ⟨_, _, rfl, rfl, rfl⟩) (Nat.le_of_ble_eq_true rfl); try dsimp only [setn, addE, goneL] at H
 replace H := H.rowx 17 rfl; try dsimp only [setn, addE, goneL] at H
 refine loop_cut (fun i_ a w_ => (i_ = 0 ∧ ∃ (x480 : Bool), Fr a 182 [(5, .bool r35), (6, .pointer (some ⟨g62, 0, none⟩)), (8, .pointer (some ⟨g87, 0, none⟩)), (13, .bool x480)] ∧ Hp S Fa w0 w_ [.row true cBool 4 A53 c54 r44.1.2.1, .row true (cInt .i64) 3 A56 c57 r44.1.2.2.1, .row true cNode 57 A59 c60 r44.1.2.2.2, .box g62 26 [.int .i64 r44.1.1, .slice A53 (List.length r44.1.2.1) c54, .slice A56 (List.length r44.1.2.2.1) c57, .slice A59 (List.length r44.1.2.2.2) c60], .row true cBool 4 A78 c79 r69.1.2.1, .row true (cInt .i64) 3 A81 c82 r69.1.2.2.1, .row true cNode 57 A84 c85 r69.1.2.2.2, .box g87 26 [.int .i64 r69.1.1, .slice A78 (List.length r69.1.2.1) c79, .slice A81 (List.length r69.1.2.2.1) c82, .slice A84 (List.length r69.1.2.2.2) c85]] ∧ x475 = Sum.inl x480)) ?_ ?_
 ·
  refine loopV (fun m479 a w478 => ∃ (seen314 : List Bool) (todo315 : List (Int × Int)) (same318 : Bool) (i319 : Int), ∃ (A316 : Option Addr) (c317 : Nat), Fr a 182 [(2, .pointer (some ⟨g25, 0, none⟩)), (3, .pointer (some ⟨g30, 0, none⟩)), (5, .bool r35), (6, .pointer (some ⟨g62, 0, none⟩)), (8, .pointer (some ⟨g87, 0, none⟩)), (10, .int .i64 (((List.length bAccept) : Nat) : Int)), (11, .slice (some ⟨g156, 0, none⟩) (List.length seen314) (Int.toNat ((((List.length aAccept) : Nat) : Int) * (((List.length bAccept) : Nat) : Int)))), (12, .slice A316 (List.length todo315) c317), (13, .bool same318), (14, .int .i64 i319)] ∧ Hp S Fa w0 w478 [.ro false cBool A1 aAccept, .ro false (cInt .i64) A5 aGuard, .ro false cNode A9 aNodes, .box g25 26 [.int .i64 aProps, .slice A1 (List.length aAccept) c2, .slice A5 (List.length aGuard) c6, .slice A9 (List.length aNodes) c10], .ro false cBool A13 bAccept, .ro false (cInt .i64) A17 bGuard, .ro false cNode A21 bNodes, .box g30 26 [.int .i64 bProps, .slice A13 (List.length bAccept) c14, .slice A17 (List.length bGuard) c18, .slice A21 (List.length bNodes) c22], .row true cBool 4 A53 c54 r44.1.2.1, .row true (cInt .i64) 3 A56 c57 r44.1.2.2.1, .row true cNode 57 A59 c60 r44.1.2.2.2, .box g62 26 [.int .i64 r44.1.1, .slice A53 (List.length r44.1.2.1) c54, .slice A56 (List.length r44.1.2.2.1) c57, .slice A59 (List.length r44.1.2.2.2) c60], .row true cBool 4 A78 c79 r69.1.2.1, .row true (cInt .i64) 3 A81 c82 r69.1.2.2.1, .row true cNode 57 A84 c85 r69.1.2.2.2, .box g87 26 [.int .i64 r69.1.1, .slice A78 (List.length r69.1.2.1) c79, .slice A81 (List.length r69.1.2.2.1) c82, .slice A84 (List.length r69.1.2.2.2) c85], .rowx true cBool 4 (some ⟨g156, 0, none⟩) (Int.toNat ((((List.length aAccept) : Nat) : Int) * (((List.length bAccept) : Nat) : Int))) seen314 (List.replicate (Int.toNat ((((List.length aAccept) : Nat) : Int) * (((List.length bAccept) : Nat) : Int)) - Int.toNat ((((List.length aAccept) : Nat) : Int) * (((List.length bAccept) : Nat) : Int))) (false : Bool)), .row true cS51 51 A316 c317 todo315] ∧ law17_CanonOne_l1 N aProps aAccept aGuard aNodes bProps bAccept bGuard bNodes m479 seen314 todo315 same318 i319 = some x475) N ?_ ?_
  ·
   exact ⟨List.set (List.replicate (Int.toNat ((((List.length aAccept) : Nat) : Int) * (((List.length bAccept) : Nat) : Int))) (false : Bool)) (Int.toNat (0 : Int)) true, ([(0, 0)] : List (Int × Int)), true, 0, (some ⟨g161, 0, none⟩), (List.length ([(0, 0)] : List (Int × Int))), E.pick _ ⟨rfl, rfl, rfl, rfl, rfl, rfl, rfl, rfl, rfl, rfl, trivial⟩, H.sel [0, 1, 2, 3, 4, 5, 6, 7, 8, 9, 10, 11, 12, 13, 14, 15, 16, 17] rfl, hL476⟩
  clear E H hL476; intro m479 a w478 hI_
  obtain ⟨seen314, todo315, same318, i319, A316, c317, E, H, hP⟩ := hI_
  obtain ⟨m474, rfl⟩ : ∃ q_, m479 = q_ + 1 := by cases m479 with | zero => rw [law17_CanonOne_l1] at hP; cases hP | succ q_ => exact ⟨q_, rfl⟩
  rw [law17_CanonOne_l1] at hP
  refine wp_seq ?_
  refine wp_seq ?_
  obtain ⟨x484, h485, hK486⟩ := bind_inv hP
  clear hP
  refine meet_cut (fun a w488 => ∃ (x487 : Bool), Fr a 182 [(2, .pointer (some ⟨g25, 0, none⟩)), (3, .pointer (some ⟨g30, 0, none⟩)), (5, .bool r35), (6, .pointer (some ⟨g62, 0, none⟩)), (8, .pointer (some ⟨g87, 0, none⟩)), (10, .int .i64 (((List.length bAccept) : Nat) : Int)), (11, .slice (some ⟨g156, 0, none⟩) (List.length seen314) (Int.toNat ((((List.length aAccept) : Nat) : Int) * (((List.length bAccept) : Nat) : Int)))), (12, .slice A316 (List.length todo315) c317), (13, .bool same318), (14, .int .i64 i319), (76, .bool x487)] ∧ Hp S Fa w0 w488 [.ro false cBool A1 aAccept, .ro false (cInt .i64) A5 aGuard, .ro false cNode A9 aNodes, .box g25 26 [.int .i64 aProps, .slice A1 (List.length aAccept) c2, .slice A5 (List.length aGuard) c6, .slice A9 (List.length aNodes) c10], .ro false cBool A13 bAccept, .ro false (cInt .i64) A17 bGuard, .ro false cNode A21 bNodes, .box g30 26 [.int .i64 bProps, .slice A13 (List.length bAccept) c14, .slice A17 (List.length bGuard) c18, .slice A21 (List.length bNodes) c22], .row true cBool 4 A53 c54 r44.1.2.1, .row true (cInt .i64) 3 A56 c57 r44.1.2.2.1, .row true cNode 57 A59 c60 r44.1.2.2.2, .box g62 26 [.int .i64 r44.1.1, .slice A53 (List.length r44.1.2.1) c54, .slice A56 (List.length r44.1.2.2.1) c57, .slice A59 (List.length r44.1.2.2.2) c60], .row true cBool 4 A78 c79 r69.1.2.1, .row true (cInt .i64) 3 A81 c82 r69.1.2.2.1, .row true cNode 57 A84 c85 r69.1.2.2.2, .box g87 26 [.int .i64 r69.1.1, .slice A78 (List.length r69.1.2.1) c79, .slice A81 (List.length r69.1.2.2.1) c82, .slice A84 (List.length r69.1.2.2.2) c85], .rowx true cBool 4 (some ⟨g156, 0, none⟩) (Int.toNat ((((List.length aAccept) : Nat) : Int) * (((List.length bAccept) : Nat) : Int))) seen314 (List.replicate (Int.toNat ((((List.length aAccept) : Nat) : Int) * (((List.length bAccept) : Nat) : Int)) - Int.toNat ((((List.length aAccept) : Nat) : Int) * (((List.length bAccept) : Nat) : Int))) (false : Bool)), .row true cS51 51 A316 c317 todo315] ∧ x484 = x487) ?_ ?_
  ·
   have hP := h485; clear h485; rw [law17_CanonOne_j2] at hP
   refine wp_region_lit ?_
   refine vr tbok 5 [] [(2, .pointer (some ⟨g25, 0, none⟩)), (3, .pointer (some ⟨g30, 0, none⟩)), (5, .bool r35), (6, .pointer (some ⟨g62, 0, none⟩)), (8, .pointer (some ⟨g87, 0, none⟩)), (10, .int .i64 (((List.length bAccept) : Nat) : Int)), (11, .slice (some ⟨g156, 0, none⟩) (List.length seen314) (Int.toNat ((((List.length aAccept) : Nat) : Int) * (((List.length bAccept) : Nat) : Int)))), (12, .slice A316 (List.length todo315) c317), (13, .bool same318), (14, .int .i64 i319), (74, .bool (decide (i319 < (((List.length todo315) : Nat) : Int))))] [] E (by kernel_rfl) trivial ?_
   clear E; intro a E
   refine E.cases (t := 74) rfl (fun hb_ E_ => ?_) (fun hb_ E_ => ?_)
   ·
    replace E := E_; clear E_
    have h489 : i319 < (((List.length todo315) : Nat) : Int) := of_decide_eq_true hb_
    clear hb_; replace hP := ite_t h489 hP
    refine vr tbok 2 [] [(2, .pointer (some ⟨g25, 0, none⟩)), (3, .pointer (some ⟨g30, 0, none⟩)), (5, .bool r35), (6, .pointer (some ⟨g62, 0, none⟩)), (8, .pointer (some ⟨g87, 0, none⟩)), (10, .int .i64 (((List.length bAccept) : Nat) : Int)), (11, .slice (some ⟨g156, 0, none⟩) (List.length seen314) (Int.toNat ((((List.length aAccept) : Nat) : Int) * (((List.length bAccept) : Nat) : Int)))), (12, .slice A316 (List.length todo315) c317), (13, .bool same318), (14, .int .i64 i319), (76, .bool same318)] [] E (by kernel_rfl) trivial ?_
    clear E; intro a E
    refine wpList_nil ?_
    have hx_ := Option.some.inj hP
    exact .inl ⟨rfl, same318, E.pick _ ⟨rfl, rfl, rfl, rfl, rfl, rfl, rfl, rfl, rfl, rfl, rfl, trivial⟩, H.sel [0, 1, 2, 3, 4, 5, 6, 7, 8, 9, 10, 11, 12, 13, 14, 15, 16, 17] rfl, hx_.symm⟩
   replace E := E_; clear E_
   have h490 : ¬ (i319 < (((List.length todo315) : Nat) : Int)) := of_decide_eq_false hb_
   clear hb_; replace hP := ite_f h490 hP
   refine vr tbok 2 [] [(2, .pointer (some ⟨g25, 0, none⟩)), (3, .pointer (some ⟨g30, 0, none⟩)), (5, .bool r35), (6, .pointer (some ⟨g62, 0, none⟩)), (8, .pointer (some ⟨g87, 0, none⟩)), (10, .int .i64 (((List.length bAccept) : Nat) : Int)), (11, .slice (some ⟨g156, 0, none⟩) (List.length seen314) (Int.toNat ((((List.length aAccept) : Nat) : Int) * (((List.length bAccept) : Nat) : Int)))), (12, .slice A316 (List.length todo315) c317), (13, .bool same318), (14, .int .i64 i319), (76, .bool false)] [] E (by kernel_rfl) trivial ?_
   clear E; intro a E
   refine wpList_nil ?_
   have hx_ := Option.some.inj hP
   exact .inl ⟨rfl, false, E.pick _ ⟨rfl, rfl, rfl, rfl, rfl, rfl, rfl, rfl, rfl, rfl, rfl, trivial⟩, H.sel [0, 1, 2, 3, 4, 5, 6, 7, 8, 9, 10, 11, 12, 13, 14, 15, 16, 17] rfl, hx_.symm⟩
  clear E H h485; rintro a w488 ⟨x487, E, H, hx_⟩
  subst hx_; have hP := hK486; clear hK486
  refine th_n ?_
  refine E.cases (t := 76) rfl (fun hb_ E_ => ?_) (fun hb_ E_ => ?_)
  ·
   replace E := E_; clear E_
   have h491 : x484 = true := hb_
   clear hb_; replace hP := ite_t h491 hP
   refine c_true E rfl ?_
   refine wp_skip ?_
   refine th_n ?_
   refine wp_seq ?_
   refine wp_block ?_
   refine wp_seq ?_
   obtain ⟨g492, hP⟩ := ask_inv hP
   obtain ⟨b493, e_b493⟩ := H.raddr 17 rfl (idx_pos g492)
   subst e_b493
   have HR498 := H
   refine dr_start (S := fun w_ => Chg (atL []) w488 w_) (by kernel_rfl) ?_
   intro w495 hc496
   have HS497 : Chg (atL []) w488 w495 := hc496.mono (fun _ _ h_ => h_.elim)
   replace H := H.ext hc496
   refine dr tbok (by kernel_rfl) [0, 1, 2, 3, 4, 5, 6, 7, 8, 9, 10, 11] [.int .i64 ((List.getD todo315 (Int.toNat i319) (0, 0)).1), .int .i64 ((List.getD todo315 (Int.toNat i319) (0, 0)).2)] [(2, .pointer (some ⟨g25, 0, none⟩)), (3, .pointer (some ⟨g30, 0, none⟩)), (5, .bool r35), (6, .pointer (some ⟨g62, 0, none⟩)), (8, .pointer (some ⟨g87, 0, none⟩)), (10, .int .i64 (((List.length bAccept) : Nat) : Int)), (11, .slice (some ⟨g156, 0, none⟩) (List.length seen314) (Int.toNat ((((List.length aAccept) : Nat) : Int) * (((List.length bAccept) : Nat) : Int)))), (12, .slice (some ⟨b493, 0, none⟩) (List.length todo315) c317), (14, .int .i64 i319), (15, .int .i64 ((List.getD todo315 (Int.toNat i319) (0, 0)).1)), (16, .int .i64 ((List.getD todo315 (Int.toNat i319) (0, 0)).2))] (fun w_ => [0 ≤ i319 ∧ i319 < (((List.length todo315) : Nat) : Int), 0 ≤ (0 : Int) ∧ (0 : Int) < ((2 : Nat) : Int), World.cell? w_ ⟨b493, 0 + (Int.toNat i319) * 2 + (Int.toNat 0) * 1, none⟩ = some (.int .i64 ((List.getD todo315 (Int.toNat i319) (0, 0)).1)), 0 ≤ i319 ∧ i319 < (((List.length todo315) : Nat) : Int), 0 ≤ (1 : Int) ∧ (1 : Int) < ((2 : Nat) : Int), World.cell? w_ ⟨b493, 0 + (Int.toNat i319) * 2 + (Int.toNat 1) * 1, none⟩ = some (.int .i64 ((List.getD todo315 (Int.toNat i319) (0, 0)).2))]) 0 E (fun _ _ => by kernel_rfl) (fun w_ hS_ => ⟨g492, ⟨by decide, by decide⟩, (Rds.atP (HR498.rdk [] hS_ 17 rds_row rfl) (0, 0) g492).1, g492, ⟨by decide, by decide⟩, Rds.atF (HR498.rdk [] hS_ 17 rds_row rfl) (0, 0) g492 1 rfl⟩) (by kernel_rfl) HS497 ?_
   clear E; intro a E
   refine dr_done (by kernel_rfl) ?_
   clear HS497 HR498
   refine th_n ?_
   refine wp_seq ?_
   obtain ⟨g499, hP⟩ := ask_inv hP
   obtain ⟨b500, o501, e_b500⟩ := (H.rd 0 rds_ro).addr (idx_pos g499)
   subst e_b500
   obtain ⟨g502, hP⟩ := ask_inv hP
   obtain ⟨b503, o504, e_b503⟩ := (H.rd 4 rds_ro).addr (idx_pos g502)
   subst e_b503
   have HR508 := H
   refine dr_start (S := fun w_ => Chg (atL []) w495 w_) (by kernel_rfl) ?_
   intro w505 hc506
   have HS507 : Chg (atL []) w495 w505 := hc506.mono (fun _ _ h_ => h_.elim)
   replace H := H.ext hc506
   refine dr tbok (by kernel_rfl) [0, 1, 2, 3, 4, 5, 6, 7, 8, 9, 10, 11] [.slice (some ⟨b500, o501, none⟩) (List.length aAccept) c2, .bool (List.getD aAccept (Int.toNat ((List.getD todo315 (Int.toNat i319) (0, 0)).1)) false), .slice (some ⟨b503, o504, none⟩) (List.length bAccept) c14, .bool (List.getD bAccept (Int.toNat ((List.getD todo315 (Int.toNat i319) (0, 0)).2)) false)] [(2, .pointer (some ⟨g25, 0, none⟩)), (3, .pointer (some ⟨g30, 0, none⟩)), (5, .bool r35), (6, .pointer (some ⟨g62, 0, none⟩)), (8, .pointer (some ⟨g87, 0, none⟩)), (10, .int .i64 (((List.length bAccept) : Nat) : Int)), (11, .slice (some ⟨g156, 0, none⟩) (List.length seen314) (Int.toNat ((((List.length aAccept) : Nat) : Int) * (((List.length bAccept) : Nat) : Int)))), (12, .slice (some ⟨b493, 0, none⟩) (List.length todo315) c317), (13, .bool ((List.getD aAccept (Int.toNat ((List.getD todo315 (Int.toNat i319) (0, 0)).1)) false) == (List.getD bAccept (Int.toNat ((List.getD todo315 (Int.toNat i319) (0, 0)).2)) false))), (14, .int .i64 i319), (15, .int .i64 ((List.getD todo315 (Int.toNat i319) (0, 0)).1)), (16, .int .i64 ((List.getD todo315 (Int.toNat i319) (0, 0)).2))] (fun w_ => [World.cell? w_ ⟨g25, 1, none⟩ = some (.slice (some ⟨b500, o501, none⟩) (List.length aAccept) c2), 0 ≤ ((List.getD todo315 (Int.toNat i319) (0, 0)).1) ∧ ((List.getD todo315 (Int.toNat i319) (0, 0)).1) < (((List.length aAccept) : Nat) : Int), World.cell? w_ ⟨b500, o501 + (Int.toNat ((List.getD todo315 (Int.toNat i319) (0, 0)).1)) * 1, none⟩ = some (.bool (List.getD aAccept (Int.toNat ((List.getD todo315 (Int.toNat i319) (0, 0)).1)) false)), World.cell? w_ ⟨g30, 1, none⟩ = some (.slice (some ⟨b503, o504, none⟩) (List.length bAccept) c14), 0 ≤ ((List.getD todo315 (Int.toNat i319) (0, 0)).2) ∧ ((List.getD todo315 (Int.toNat i319) (0, 0)).2) < (((List.length bAccept) : Nat) : Int), World.cell? w_ ⟨b503, o504 + (Int.toNat ((List.getD todo315 (Int.toNat i319) (0, 0)).2)) * 1, none⟩ = some (.bool (List.getD bAccept (Int.toNat ((List.getD todo315 (Int.toNat i319) (0, 0)).2)) false))]) 0 E (fun _ _ => by kernel_rfl) (fun w_ hS_ => ⟨(HR508.boxk [] hS_ 3 rfl rfl).cell (j := 1) rfl, g499, Rds.at1 (HR508.rdk [] hS_ 0 rds_ro rfl) false g499, (HR508.boxk [] hS_ 7 rfl rfl).cell (j := 1) rfl, g502, Rds.at1 (HR508.rdk [] hS_ 4 rds_ro rfl) false g502⟩) (by kernel_rfl) HS507 ?_
   clear E; intro a E
   refine dr_done (by kernel_rfl) ?_
   clear HS507 HR508
   refine th_n ?_
   refine wp_seq ?_
   refine wp_region_lit ?_
   refine vr tbok 1 [] [(2, .pointer (some ⟨g25, 0, none⟩)), (3, .pointer (some ⟨g30, 0, none⟩)), (5, .bool r35), (6, .pointer (some ⟨g62, 0, none⟩)), (8, .pointer (some ⟨g87, 0, none⟩)), (10, .int .i64 (((List.length bAccept) : Nat) : Int)), (11, .slice (some ⟨g156, 0, none⟩) (List.length seen314) (Int.toNat ((((List.length aAccept) : Nat) : Int) * (((List.length bAccept) : Nat) : Int)))), (12, .slice (some ⟨b493, 0, none⟩) (List.length todo315) c317), (13, .bool ((List.getD aAccept (Int.toNat ((List.getD todo315 (Int.toNat i319) (0, 0)).1)) false) == (List.getD bAccept (Int.toNat ((List.getD todo315 (Int.toNat i319) (0, 0)).2)) false))), (14, .int .i64 i319), (15, .int .i64 ((List.getD todo315 (Int.toNat i319) (0, 0)).1)), (16, .int .i64 ((List.getD todo315 (Int.toNat i319) (0, 0)).2)), (17, .int .i64 0)] [] E (by kernel_rfl) trivial ?_
   clear E; intro a E
   refine wpList_nil ?_
   refine th_n ?_
   refine wp_block ?_
   obtain ⟨x640, hL641, hK642⟩ := bind_inv hP
   clear hP
   refine loop_cut (fun i_ a w_ => (i_ = 2 ∧ ∃ (x645 : (List Bool) × (List (Int × Int))), ∃ (A637 : Option Addr) (c638 : Nat), Fr a 182 [(2, .pointer (some ⟨g25, 0, none⟩)), (3, .pointer (some ⟨g30, 0, none⟩)), (5, .bool r35), (6, .pointer (some ⟨g62, 0, none⟩)), (8, .pointer (some ⟨g87, 0, none⟩)), (10, .int .i64 (((List.length bAccept) : Nat) : Int)), (11, .slice (some ⟨g156, 0, none⟩) (List.length x645.1) (Int.toNat ((((List.length aAccept) : Nat) : Int) * (((List.length bAccept) : Nat) : Int)))), (12, .slice A637 (List.length x645.2) c638), (13, .bool ((List.getD aAccept (Int.toNat ((List.getD todo315 (Int.toNat i319) (0, 0)).1)) false) == (List.getD bAccept (Int.toNat ((List.getD todo315 (Int.toNat i319) (0, 0)).2)) false))), (14, .int .i64 i319)] ∧ Hp S Fa w0 w_ [.ro false cBool (some ⟨b500, o501, none⟩) aAccept, .ro false (cInt .i64) A5 aGuard, .ro false cNode A9 aNodes, .box g25 26 [.int .i64 aProps, .slice (some ⟨b500, o501, none⟩) (List.length aAccept) c2, .slice A5 (List.length aGuard) c6, .slice A9 (List.length aNodes) c10], .ro false cBool (some ⟨b503, o504, none⟩) bAccept, .ro false (cInt .i64) A17 bGuard, .ro false cNode A21 bNodes, .box g30 26 [.int .i64 bProps, .slice (some ⟨b503, o504, none⟩) (List.length bAccept) c14, .slice A17 (List.length bGuard) c18, .slice A21 (List.length bNodes) c22], .row true cBool 4 A53 c54 r44.1.2.1, .row true (cInt .i64) 3 A56 c57 r44.1.2.2.1, .row true cNode 57 A59 c60 r44.1.2.2.2, .box g62 26 [.int .i64 r44.1.1, .slice A53 (List.length r44.1.2.1) c54, .slice A56 (List.length r44.1.2.2.1) c57, .slice A59 (List.length r44.1.2.2.2) c60], .row true cBool 4 A78 c79 r69.1.2.1, .row true (cInt .i64) 3 A81 c82 r69.1.2.2.1, .row true cNode 57 A84 c85 r69.1.2.2.2, .box g87 26 [.int .i64 r69.1.1, .slice A78 (List.length r69.1.2.1) c79, .slice A81 (List.length r69.1.2.2.1) c82, .slice A84 (List.length r69.1.2.2.2) c85], .rowx true cBool 4 (some ⟨g156, 0, none⟩) (Int.toNat ((((List.length aAccept) : Nat) : Int) * (((List.length bAccept) : Nat) : Int))) x645.1 (List.replicate (Int.toNat ((((List.length aAccept) : Nat) : Int) * (((List.length bAccept) : Nat) : Int)) - Int.toNat ((((List.length aAccept) : Nat) : Int) * (((List.length bAccept) : Nat) : Int))) (false : Bool)), .row true cS51 51 A637 c638 x645.2] ∧ x640 = Sum.inl x645)) ?_ ?_
   ·
    refine loopV (fun m644 a w643 => ∃ (seen569 : List Bool) (todo570 : List (Int × Int)) (l573 : Int), ∃ (A571 : Option Addr) (c572 : Nat), Fr a 182 [(2, .pointer (some ⟨g25, 0, none⟩)), (3, .pointer (some ⟨g30, 0, none⟩)), (5, .bool r35), (6, .pointer (some ⟨g62, 0, none⟩)), (8, .pointer (some ⟨g87, 0, none⟩)), (10, .int .i64 (((List.length bAccept) : Nat) : Int)), (11, .slice (some ⟨g156, 0, none⟩) (List.length seen569) (Int.toNat ((((List.length aAccept) : Nat) : Int) * (((List.length bAccept) : Nat) : Int)))), (12, .slice A571 (List.length todo570) c572), (13, .bool ((List.getD aAccept (Int.toNat ((List.getD todo315 (Int.toNat i319) (0, 0)).1)) false) == (List.getD bAccept (Int.toNat ((List.getD todo315 (Int.toNat i319) (0, 0)).2)) false))), (14, .int .i64 i319), (15, .int .i64 ((List.getD todo315 (Int.toNat i319) (0, 0)).1)), (16, .int .i64 ((List.getD todo315 (Int.toNat i319) (0, 0)).2)), (17, .int .i64 l573)] ∧ Hp S Fa w0 w643 [.ro false cBool (some ⟨b500, o501, none⟩) aAccept, .ro false (cInt .i64) A5 aGuard, .ro false cNode A9 aNodes, .box g25 26 [.int .i64 aProps, .slice (some ⟨b500, o501, none⟩) (List.length aAccept) c2, .slice A5 (List.length aGuard) c6, .slice A9 (List.length aNodes) c10], .ro false cBool (some ⟨b503, o504, none⟩) bAccept, .ro false (cInt .i64) A17 bGuard, .ro false cNode A21 bNodes, .box g30 26 [.int .i64 bProps, .slice (some ⟨b503, o504, none⟩) (List.length bAccept) c14, .slice A17 (List.length bGuard) c18, .slice A21 (List.length bNodes) c22], .row true cBool 4 A53 c54 r44.1.2.1, .row true (cInt .i64) 3 A56 c57 r44.1.2.2.1, .row true cNode 57 A59 c60 r44.1.2.2.2, .box g62 26 [.int .i64 r44.1.1, .slice A53 (List.length r44.1.2.1) c54, .slice A56 (List.length r44.1.2.2.1) c57, .slice A59 (List.length r44.1.2.2.2) c60], .row true cBool 4 A78 c79 r69.1.2.1, .row true (cInt .i64) 3 A81 c82 r69.1.2.2.1, .row true cNode 57 A84 c85 r69.1.2.2.2, .box g87 26 [.int .i64 r69.1.1, .slice A78 (List.length r69.1.2.1) c79, .slice A81 (List.length r69.1.2.2.1) c82, .slice A84 (List.length r69.1.2.2.2) c85], .rowx true cBool 4 (some ⟨g156, 0, none⟩) (Int.toNat ((((List.length aAccept) : Nat) : Int) * (((List.length bAccept) : Nat) : Int))) seen569 (List.replicate (Int.toNat ((((List.length aAccept) : Nat) : Int) * (((List.length bAccept) : Nat) : Int)) - Int.toNat ((((List.length aAccept) : Nat) : Int) * (((List.length bAccept) : Nat) : Int))) (false : Bool)), .row true cS51 51 A571 c572 todo570] ∧ law17_CanonOne_l3 N aProps aAccept aGuard aNodes bProps bAccept bGuard bNodes todo315 i319 m644 seen569 todo570 l573 = some x640) N ?_ ?_
    ·
     exact ⟨seen314, todo315, 0, (some ⟨b493, 0, none⟩), c317, E.pick _ ⟨rfl, rfl, rfl, rfl, rfl, rfl, rfl, rfl, rfl, rfl, rfl, rfl, rfl, trivial⟩, H.sel [0, 1, 2, 3, 4, 5, 6, 7, 8, 9, 10, 11, 12, 13, 14, 15, 16, 17] rfl, hL641⟩
    clear E H hL641; intro m644 a w643 hI_
    obtain ⟨seen569, todo570, l573, A571, c572, E, H, hP⟩ := hI_
    obtain ⟨m639, rfl⟩ : ∃ q_, m644 = q_ + 1 := by cases m644 with | zero => rw [law17_CanonOne_l3] at hP; cases hP | succ q_ => exact ⟨q_, rfl⟩
    rw [law17_CanonOne_l3] at hP
    refine wp_seq ?_
    refine wp_seq ?_
    obtain ⟨x650, h651, hK652⟩ := bind_inv hP
    clear hP
    refine meet_cut (fun a w654 => ∃ (x653 : Bool), Fr a 182 [(2, .pointer (some ⟨g25, 0, none⟩)), (3, .pointer (some ⟨g30, 0, none⟩)), (5, .bool r35), (6, .pointer (some ⟨g62, 0, none⟩)), (8, .pointer (some ⟨g87, 0, none⟩)), (10, .int .i64 (((List.length bAccept) : Nat) : Int)), (11, .slice (some ⟨g156, 0, none⟩) (List.length seen569) (Int.toNat ((((List.length aAccept) : Nat) : Int) * (((List.length bAccept) : Nat) : Int)))), (12, .slice A571 (List.length todo570) c572), (13, .bool ((List.getD aAccept (Int.toNat ((List.getD todo315 (Int.toNat i319) (0, 0)).1)) false) == (List.getD bAccept (Int.toNat ((List.getD todo315 (Int.toNat i319) (0, 0)).2)) false))), (14, .int .i64 i319), (15, .int .i64 ((List.getD todo315 (Int.toNat i319) (0, 0)).1)), (16, .int .i64 ((List.getD todo315 (Int.toNat i319) (0, 0)).2)), (17, .int .i64 l573), (107, .bool x653)] ∧ Hp S Fa w0 w654 [.ro false cBool (some ⟨b500, o501, none⟩) aAccept, .ro false (cInt .i64) A5 aGuard, .ro false cNode A9 aNodes, .box g25 26 [.int .i64 aProps, .slice (some ⟨b500, o501, none⟩) (List.length aAccept) c2, .slice A5 (List.length aGuard) c6, .slice A9 (List.length aNodes) c10], .ro false cBool (some ⟨b503, o504, none⟩) bAccept, .ro false (cInt .i64) A17 bGuard, .ro false cNode A21 bNodes, .box g30 26 [.int .i64 bProps, .slice (some ⟨b503, o504, none⟩) (List.length bAccept) c14, .slice A17 (List.length bGuard) c18, .slice A21 (List.length bNodes) c22], .row true cBool 4 A53 c54 r44.1.2.1, .row true (cInt .i64) 3 A56 c57 r44.1.2.2.1, .row true cNode 57 A59 c60 r44.1.2.2.2, .box g62 26 [.int .i64 r44.1.1, .slice A53 (List.length r44.1.2.1) c54, .slice A56 (List.length r44.1.2.2.1) c57, .slice A59 (List.length r44.1.2.2.2) c60], .row true cBool 4 A78 c79 r69.1.2.1, .row true (cInt .i64) 3 A81 c82 r69.1.2.2.1, .row true cNode 57 A84 c85 r69.1.2.2.2, .box g87 26 [.int .i64 r69.1.1, .slice A78 (List.length r69.1.2.1) c79, .slice A81 (List.length r69.1.2.2.1) c82, .slice A84 (List.length r69.1.2.2.2) c85], .rowx true cBool 4 (some ⟨g156, 0, none⟩) (Int.toNat ((((List.length aAccept) : Nat) : Int) * (((List.length bAccept) : Nat) : Int))) seen569 (List.replicate (Int.toNat ((((List.length aAccept) : Nat) : Int) * (((List.length bAccept) : Nat) : Int)) - Int.toNat ((((List.length aAccept) : Nat) : Int) * (((List.length bAccept) : Nat) : Int))) (false : Bool)), .row true cS51 51 A571 c572 todo570] ∧ x650 = x653) ?_ ?_
    ·
     have hP := h651; clear h651; rw [law17_CanonOne_j4] at hP
     refine wp_region_lit ?_
     obtain ⟨g655, hP⟩ := ask_inv hP
     refine vr tbok 6 [.int .i64 aProps, .int .i64 (shlV .i64 1 aProps)] [(2, .pointer (some ⟨g25, 0, none⟩)), (3, .pointer (some ⟨g30, 0, none⟩)), (5, .bool r35), (6, .pointer (some ⟨g62, 0, none⟩)), (8, .pointer (some ⟨g87, 0, none⟩)), (10, .int .i64 (((List.length bAccept) : Nat) : Int)), (11, .slice (some ⟨g156, 0, none⟩) (List.length seen569) (Int.toNat ((((List.length aAccept) : Nat) : Int) * (((List.length bAccept) : Nat) : Int)))), (12, .slice A571 (List.length todo570) c572), (13, .bool ((List.getD aAccept (Int.toNat ((List.getD todo315 (Int.toNat i319) (0, 0)).1)) false) == (List.getD bAccept (Int.toNat ((List.getD todo315 (Int.toNat i319) (0, 0)).2)) false))), (14, .int .i64 i319), (15, .int .i64 ((List.getD todo315 (Int.toNat i319) (0, 0)).1)), (16, .int .i64 ((List.getD todo315 (Int.toNat i319) (0, 0)).2)), (17, .int .i64 l573), (105, .bool (decide (l573 < (shlV .i64 1 aProps))))] [World.cell? w643 ⟨g25, 0, none⟩ = some (.int .i64 aProps), 0 ≤ aProps ∧ IntKind.i64.wrap (1 * 2 ^ (min (Int.toNat aProps) (IntKind.bits .i64))) = shlV .i64 1 aProps] E (by kernel_rfl) ⟨(H.box 3 rfl).cell (j := 0) rfl, ⟨g655, rfl⟩⟩ ?_
     clear E; intro a E
     refine E.cases (t := 105) rfl (fun hb_ E_ => ?_) (fun hb_ E_ => ?_)
     ·
      replace E := E_; clear E_
      have h656 : l573 < (shlV .i64 1 aProps) := of_decide_eq_true hb_
      clear hb_; replace hP := ite_t h656 hP
      refine vr tbok 2 [] [(2, .pointer (some ⟨g25, 0, none⟩)), (3, .pointer (some ⟨g30, 0, none⟩)), (5, .bool r35), (6, .pointer (some ⟨g62, 0, none⟩)), (8, .pointer (some ⟨g87, 0, none⟩)), (10, .int .i64 (((List.length bAccept) : Nat) : Int)), (11, .slice (some ⟨g156, 0, none⟩) (List.length seen569) (Int.toNat ((((List.length aAccept) : Nat) : Int) * (((List.length bAccept) : Nat) : Int)))), (12, .slice A571 (List.length todo570) c572), (13, .bool ((List.getD aAccept (Int.toNat ((List.getD todo315 (Int.toNat i319) (0, 0)).1)) false) == (List.getD bAccept (Int.toNat ((List.getD todo315 (Int.toNat i319) (0, 0)).2)) false))), (14, .int .i64 i319), (15, .int .i64 ((List.getD todo315 (Int.toNat i319) (0, 0)).1)), (16, .int .i64 ((List.getD todo315 (Int.toNat i319) (0, 0)).2)), (17, .int .i64 l573), (107, .bool ((List.getD aAccept (Int.toNat ((List.getD todo315 (Int.toNat i319) (0, 0)).1)) false) == (List.getD bAccept (Int.toNat ((List.getD todo315 (Int.toNat i319) (0, 0)).2)) false)))] [] E (by kernel_rfl) trivial ?_
      clear E; intro a E
      refine wpList_nil ?_
      have hx_ := Option.some.inj hP
      exact .inl ⟨rfl, (List.getD aAccept (Int.toNat ((List.getD todo315 (Int.toNat i319) (0, 0)).1)) false) == (List.getD bAccept (Int.toNat ((List.getD todo315 (Int.toNat i319) (0, 0)).2)) false), E.pick _ ⟨rfl, rfl, rfl, rfl, rfl, rfl, rfl, rfl, rfl, rfl, rfl, rfl, rfl, rfl, trivial⟩, H.sel [0, 1, 2, 3, 4, 5, 6, 7, 8, 9, 10, 11, 12, 13, 14, 15, 16, 17] rfl, hx_.symm⟩
     replace E := E_; clear E_
     have h657 : ¬ (l573 < (shlV .i64 1 aProps)) := of_decide_eq_false hb_
     clear hb_; replace hP := ite_f h657 hP
     refine vr tbok 2 [] [(2, .pointer (some ⟨g25, 0, none⟩)), (3, .pointer (some ⟨g30, 0, none⟩)), (5, .bool r35), (6, .pointer (some ⟨g62, 0, none⟩)), (8, .pointer (some ⟨g87, 0, none⟩)), (10, .int .i64 (((List.length bAccept) : Nat) : Int)), (11, .slice (some ⟨g156, 0, none⟩) (List.length seen569) (Int.toNat ((((List.length aAccept) : Nat) : Int) * (((List.length bAccept) : Nat) : Int)))), (12, .slice A571 (List.length todo570) c572), (13, .bool ((List.getD aAccept (Int.toNat ((List.getD todo315 (Int.toNat i319) (0, 0)).1)) false) == (List.getD bAccept (Int.toNat ((List.getD todo315 (Int.toNat i319) (0, 0)).2)) false))), (14, .int .i64 i319), (15, .int .i64 ((List.getD todo315 (Int.toNat i319) (0, 0)).1)), (16, .int .i64 ((List.getD todo315 (Int.toNat i319) (0, 0)).2)), (17, .int .i64 l573), (107, .bool false)] [] E (by kernel_rfl) trivial ?_
     clear E; intro a E
     refine wpList_nil ?_
     have hx_ := Option.some.inj hP
     exact .inl ⟨rfl, false, E.pick _ ⟨rfl, rfl, rfl, rfl, rfl, rfl, rfl, rfl, rfl, rfl, rfl, rfl, rfl, rfl, trivial⟩, H.sel [0, 1, 2, 3, 4, 5, 6, 7, 8, 9, 10, 11, 12, 13, 14, 15, 16, 17] rfl, hx_.symm⟩
    clear E H h651; rintro a w654 ⟨x653, E, H, hx_⟩
    subst hx_; have hP := hK652; clear hK652
    refine th_n ?_
    refine E.cases (t := 107) rfl (fun hb_ E_ => ?_) (fun hb_ E_ => ?_)
    ·
     replace E := E_; clear E_
     have h658 : x650 = true := hb_
     clear hb_; replace hP := ite_t h658 hP
     refine c_true E rfl ?_
     refine wp_skip ?_
     refine th_n ?_
     refine wp_seq ?_
     refine wp_block ?_
     refine wp_seq ?_
     refine wp_region_lit ?_
     refine vr tbok 4 [.agg #[.int .i64 aProps, .slice (some ⟨b500, o501, none⟩) (List.length aAccept) c2, .slice A5 (List.length aGuard) c6, .slice A9 (List.length aNodes) c10], .int .u8 (IntKind.u8.wrap l573)] [(2, .pointer (some ⟨g25, 0, none⟩)), (3, .pointer (some ⟨g30, 0, none⟩)), (5, .bool r35), (6, .pointer (some ⟨g62, 0, none⟩)), (8, .pointer (some ⟨g87, 0, none⟩)), (10, .int .i64 (((List.length bAccept) : Nat) : Int)), (11, .slice (some ⟨g156, 0, none⟩) (List.length seen569) (Int.toNat ((((List.length aAccept) : Nat) : Int) * (((List.length bAccept) : Nat) : Int)))), (12, .slice A571 (List.length todo570) c572), (13, .bool ((List.getD aAccept (Int.toNat ((List.getD todo315 (Int.toNat i319) (0, 0)).1)) false) == (List.getD bAccept (Int.toNat ((List.getD todo315 (Int.toNat i319) (0, 0)).2)) false))), (14, .int .i64 i319), (15, .int .i64 ((List.getD todo315 (Int.toNat i319) (0, 0)).1)), (16, .int .i64 ((List.getD todo315 (Int.toNat i319) (0, 0)).2)), (17, .int .i64 l573), (111, .agg #[.int .i64 aProps, .slice (some ⟨b500, o501, none⟩) (List.length aAccept) c2, .slice A5 (List.length aGuard) c6, .slice A9 (List.length aNodes) c10]), (112, .int .i64 ((List.getD todo315 (Int.toNat i319) (0, 0)).1)), (114, .int .u8 (IntKind.u8.wrap l573))] [cellsAt w654 g25 (0) [.int .i64 aProps, .slice (some ⟨b500, o501, none⟩) (List.length aAccept) c2, .slice A5 (List.length aGuard) c6, .slice A9 (List.length aNodes) c10], IntKind.u8.wrap l573 = (IntKind.u8.wrap l573)] E (by kernel_rfl) ⟨(H.box 3 rfl).sub 0 _ rfl, rfl⟩ ?_
     clear E; intro a E
     obtain ⟨r659, h660, hP⟩ := bind_inv hP
     obtain ⟨Fa661, Hc662, hb663⟩ := H.call [] [(0, false), (1, false), (2, false)] rfl rfl trivial
     refine e_call E rfl rfl Try.func10 rfl rfl rfl (canon_Next_calls (some ⟨b500, o501, none⟩) c2 A5 c6 A9 c10 aProps aAccept aGuard aNodes ((List.getD todo315 (Int.toNat i319) (0, 0)).1) (IntKind.u8.wrap l573) hk3 hk7 hk11 Hc662 h660) ?_
     rintro v664 w665 a ⟨rfl, HR666⟩ E_
     replace E := E_ _ rfl; clear E_
     obtain ⟨H_, hc667⟩ := hb663 _ _ HR666 rfl
     replace H := H_; clear H_; try dsimp only [setn, addE, goneL] at H
     refine vr tbok 5 [] [(2, .pointer (some ⟨g25, 0, none⟩)), (3, .pointer (some ⟨g30, 0, none⟩)), (5, .bool r35), (6, .pointer (some ⟨g62, 0, none⟩)), (8, .pointer (some ⟨g87, 0, none⟩)), (10, .int .i64 (((List.length bAccept) : Nat) : Int)), (11, .slice (some ⟨g156, 0, none⟩) (List.length seen569) (Int.toNat ((((List.length aAccept) : Nat) : Int) * (((List.length bAccept) : Nat) : Int)))), (12, .slice A571 (List.length todo570) c572), (13, .bool ((List.getD aAccept (Int.toNat ((List.getD todo315 (Int.toNat i319) (0, 0)).1)) false) == (List.getD bAccept (Int.toNat ((List.getD todo315 (Int.toNat i319) (0, 0)).2)) false))), (14, .int .i64 i319), (15, .int .i64 ((List.getD todo315 (Int.toNat i319) (0, 0)).1)), (16, .int .i64 ((List.getD todo315 (Int.toNat i319) (0, 0)).2)), (17, .int .i64 l573), (18, .int .i64 r659.1), (19, .int .i64 r659.2)] [] E (by kernel_rfl) trivial ?_
     clear E; intro a E
     refine wpList_nil ?_
     refine th_n ?_
     refine wp_seq ?_
     refine wp_region_lit ?_
     refine vr tbok 4 [.agg #[.int .i64 bProps, .slice (some ⟨b503, o504, none⟩) (List.length bAccept) c14, .slice A17 (List.length bGuard) c18, .slice A21 (List.length bNodes) c22], .int .u8 (IntKind.u8.wrap l573)] [(2, .pointer (some ⟨g25, 0, none⟩)), (3, .pointer (some ⟨g30, 0, none⟩)), (5, .bool r35), (6, .pointer (some ⟨g62, 0, none⟩)), (8, .pointer (some ⟨g87, 0, none⟩)), (10, .int .i64 (((List.length bAccept) : Nat) : Int)), (11, .slice (some ⟨g156, 0, none⟩) (List.length seen569) (Int.toNat ((((List.length aAccept) : Nat) : Int) * (((List.length bAccept) : Nat) : Int)))), (12, .slice A571 (List.length todo570) c572), (13, .bool ((List.getD aAccept (Int.toNat ((List.getD todo315 (Int.toNat i319) (0, 0)).1)) false) == (List.getD bAccept (Int.toNat ((List.getD todo315 (Int.toNat i319) (0, 0)).2)) false))), (14, .int .i64 i319), (15, .int .i64 ((List.getD todo315 (Int.toNat i319) (0, 0)).1)), (16, .int .i64 ((List.getD todo315 (Int.toNat i319) (0, 0)).2)), (17, .int .i64 l573), (18, .int .i64 r659.1), (19, .int .i64 r659.2), (119, .agg #[.int .i64 bProps, .slice (some ⟨b503, o504, none⟩) (List.length bAccept) c14, .slice A17 (List.length bGuard) c18, .slice A21 (List.length bNodes) c22]), (120, .int .i64 ((List.getD todo315 (Int.toNat i319) (0, 0)).2)), (122, .int .u8 (IntKind.u8.wrap l573))] [cellsAt w665 g30 (0) [.int .i64 bProps, .slice (some ⟨b503, o504, none⟩) (List.length bAccept) c14, .slice A17 (List.length bGuard) c18, .slice A21 (List.length bNodes) c22], IntKind.u8.wrap l573 = (IntKind.u8.wrap l573)] E (by kernel_rfl) ⟨(H.box 7 rfl).sub 0 _ rfl, rfl⟩ ?_
     clear E; intro a E
     obtain ⟨r668, h669, hP⟩ := bind_inv hP
     obtain ⟨Fa670, Hc671, hb672⟩ := H.call [] [(4, false), (5, false), (6, false)] rfl rfl trivial
     refine e_call E rfl rfl Try.func10 rfl rfl rfl (canon_Next_calls (some ⟨b503, o504, none⟩) c14 A17 c18 A21 c22 bProps bAccept bGuard bNodes ((List.getD todo315 (Int.toNat i319) (0, 0)).2) (IntKind.u8.wrap l573) hk15 hk19 hk23 Hc671 h669) ?_
     rintro v673 w674 a ⟨rfl, HR675⟩ E_
     replace E := E_ _ rfl; clear E_
     obtain ⟨H_, hc676⟩ := hb672 _ _ HR675 rfl
     replace H := H_; clear H_; try dsimp only [setn, addE, goneL] at H
     refine vr tbok 5 [] [(2, .pointer (some ⟨g25, 0, none⟩)), (3, .pointer (some ⟨g30, 0, none⟩)), (5, .bool r35), (6, .pointer (some ⟨g62, 0, none⟩)), (8, .pointer (some ⟨g87, 0, none⟩)), (10, .int .i64 (((List.length bAccept) : Nat) : Int)), (11, .slice (some ⟨g156, 0, none⟩) (List.length seen569) (Int.toNat ((((List.length aAccept) : Nat) : Int) * (((List.length bAccept) : Nat) : Int)))), (12, .slice A571 (List.length todo570) c572), (13, .bool ((List.getD aAccept (Int.toNat ((List.getD todo315 (Int.toNat i319) (0, 0)).1)) false) == (List.getD bAccept (Int.toNat ((List.getD todo315 (Int.toNat i319) (0, 0)).2)) false))), (14, .int .i64 i319), (15, .int .i64 ((List.getD todo315 (Int.toNat i319) (0, 0)).1)), (16, .int .i64 ((List.getD todo315 (Int.toNat i319) (0, 0)).2)), (17, .int .i64 l573), (18, .int .i64 r659.1), (19, .int .i64 r659.2), (20, .int .i64 r668.1), (21, .int .i64 r668.2)] [] E (by kernel_rfl) trivial ?_
     clear E; intro a E
     refine wpList_nil ?_
     refine th_n ?_
     refine wp_seq ?_
     refine wp_seq ?_
     obtain ⟨x688, h689, hK690⟩ := bind_inv hP
     clear hP
     refine meet_cut (fun a w692 => ∃ (x691 : Bool), Fr a 182 [(2, .pointer (some ⟨g25, 0, none⟩)), (3, .pointer (some ⟨g30, 0, none⟩)), (5, .bool r35), (6, .pointer (some ⟨g62, 0, none⟩)), (8, .pointer (some ⟨g87, 0, none⟩)), (10, .int .i64 (((List.length bAccept) : Nat) : Int)), (11, .slice (some ⟨g156, 0, none⟩) (List.length seen569) (Int.toNat ((((List.length aAccept) : Nat) : Int) * (((List.length bAccept) : Nat) : Int)))), (12, .slice A571 (List.length todo570) c572), (13, .bool ((List.getD aAccept (Int.toNat ((List.getD todo315 (Int.toNat i319) (0, 0)).1)) false) == (List.getD bAccept (Int.toNat ((List.getD todo315 (Int.toNat i319) (0, 0)).2)) false))), (14, .int .i64 i319), (15, .int .i64 ((List.getD todo315 (Int.toNat i319) (0, 0)).1)), (16, .int .i64 ((List.getD todo315 (Int.toNat i319) (0, 0)).2)), (17, .int .i64 l573), (18, .int .i64 r659.1), (20, .int .i64 r668.1), (151, .bool x691)] ∧ Hp S Fa w0 w692 [.ro false cBool (some ⟨b500, o501, none⟩) aAccept, .ro false (cInt .i64) A5 aGuard, .ro false cNode A9 aNodes, .box g25 26 [.int .i64 aProps, .slice (some ⟨b500, o501, none⟩) (List.length aAccept) c2, .slice A5 (List.length aGuard) c6, .slice A9 (List.length aNodes) c10], .ro false cBool (some ⟨b503, o504, none⟩) bAccept, .ro false (cInt .i64) A17 bGuard, .ro false cNode A21 bNodes, .box g30 26 [.int .i64 bProps, .slice (some ⟨b503, o504, none⟩) (List.length bAccept) c14, .slice A17 (List.length bGuard) c18, .slice A21 (List.length bNodes) c22], .row true cBool 4 A53 c54 r44.1.2.1, .row true (cInt .i64) 3 A56 c57 r44.1.2.2.1, .row true cNode 57 A59 c60 r44.1.2.2.2, .box g62 26 [.int .i64 r44.1.1, .slice A53 (List.length r44.1.2.1) c54, .slice A56 (List.length r44.1.2.2.1) c57, .slice A59 (List.length r44.1.2.2.2) c60], .row true cBool 4 A78 c79 r69.1.2.1, .row true (cInt .i64) 3 A81 c82 r69.1.2.2.1, .row true cNode 57 A84 c85 r69.1.2.2.2, .box g87 26 [.int .i64 r69.1.1, .slice A78 (List.length r69.1.2.1) c79, .slice A81 (List.length r69.1.2.2.1) c82, .slice A84 (List.length r69.1.2.2.2) c85], .rowx true cBool 4 (some ⟨g156, 0, none⟩) (Int.toNat ((((List.length aAccept) : Nat) : Int) * (((List.length bAccept) : Nat) : Int))) seen569 (List.replicate (Int.toNat ((((List.length aAccept) : Nat) : Int) * (((List.length bAccept) : Nat) : Int)) - Int.toNat ((((List.length aAccept) : Nat) : Int) * (((List.length bAccept) : Nat) : Int))) (false : Bool)), .row true cS51 51 A571 c572 todo570] ∧ x688 = x691) ?_ ?_
     ·
      have hP := h689; clear h689; rw [law17_CanonOne_j5] at hP
      refine wp_region_lit ?_
      refine vr tbok 3 [] [(2, .pointer (some ⟨g25, 0, none⟩)), (3, .pointer (some ⟨g30, 0, none⟩)), (5, .bool r35), (6, .pointer (some ⟨g62, 0, none⟩)), (8, .pointer (some ⟨g87, 0, none⟩)), (10, .int .i64 (((List.length bAccept) : Nat) : Int)), (11, .slice (some ⟨g156, 0, none⟩) (List.length seen569) (Int.toNat ((((List.length aAccept) : Nat) : Int) * (((List.length bAccept) : Nat) : Int)))), (12, .slice A571 (List.length todo570) c572), (13, .bool ((List.getD aAccept (Int.toNat ((List.getD todo315 (Int.toNat i319) (0, 0)).1)) false) == (List.getD bAccept (Int.toNat ((List.getD todo315 (Int.toNat i319) (0, 0)).2)) false))), (14, .int .i64 i319), (15, .int .i64 ((List.getD todo315 (Int.toNat i319) (0, 0)).1)), (16, .int .i64 ((List.getD todo315 (Int.toNat i319) (0, 0)).2)), (17, .int .i64 l573), (18, .int .i64 r659.1), (20, .int .i64 r668.1), (21, .int .i64 r668.2), (128, .bool ((r659.2 : Int) != 0))] [] E (by kernel_rfl) trivial ?_
      clear E; intro a E
      refine E.cases (t := 128) rfl (fun hb_ E_ => ?_) (fun hb_ E_ => ?_)
      ·
       replace E := E_; clear E_
       have h693 : ¬ ((r659.2 : Int) = 0) := bne_iff_ne.1 hb_
       clear hb_; replace hP := ite_f h693 hP
       refine vr tbok 23 [] [(2, .pointer (some ⟨g25, 0, none⟩)), (3, .pointer (some ⟨g30, 0, none⟩)), (5, .bool r35), (6, .pointer (some ⟨g62, 0, none⟩)), (8, .pointer (some ⟨g87, 0, none⟩)), (10, .int .i64 (((List.length bAccept) : Nat) : Int)), (11, .slice (some ⟨g156, 0, none⟩) (List.length seen569) (Int.toNat ((((List.length aAccept) : Nat) : Int) * (((List.length bAccept) : Nat) : Int)))), (12, .slice A571 (List.length todo570) c572), (13, .bool ((List.getD aAccept (Int.toNat ((List.getD todo315 (Int.toNat i319) (0, 0)).1)) false) == (List.getD bAccept (Int.toNat ((List.getD todo315 (Int.toNat i319) (0, 0)).2)) false))), (14, .int .i64 i319), (15, .int .i64 ((List.getD todo315 (Int.toNat i319) (0, 0)).1)), (16, .int .i64 ((List.getD todo315 (Int.toNat i319) (0, 0)).2)), (17, .int .i64 l573), (18, .int .i64 r659.1), (20, .int .i64 r668.1), (151, .bool true)] [] E (by kernel_rfl) trivial ?_
       clear E; intro a E
       refine wpList_nil ?_
       have hx_ := Option.some.inj hP
       exact .inl ⟨rfl, true, E.pick _ ⟨rfl, rfl, rfl, rfl, rfl, rfl, rfl, rfl, rfl, rfl, rfl, rfl, rfl, rfl, rfl, rfl, trivial⟩, H.sel [0, 1, 2, 3, 4, 5, 6, 7, 8, 9, 10, 11, 12, 13, 14, 15, 16, 17] rfl, hx_.symm⟩
      replace E := E_; clear E_
      have h694 : (r659.2 : Int) = 0 := bne_eq_false_iff_eq.1 hb_
      clear hb_; replace hP := ite_t h694 hP
      refine vr tbok 4 [] [(2, .pointer (some ⟨g25, 0, none⟩)), (3, .pointer (some ⟨g30, 0, none⟩)), (5, .bool r35), (6, .pointer (some ⟨g62, 0, none⟩)), (8, .pointer (some ⟨g87, 0, none⟩)), (10, .int .i64 (((List.length bAccept) : Nat) : Int)), (11, .slice (some ⟨g156, 0, none⟩) (List.length seen569) (Int.toNat ((((List.length aAccept) : Nat) : Int) * (((List.length bAccept) : Nat) : Int)))), (12, .slice A571 (List.length todo570) c572), (13, .bool ((List.getD aAccept (Int.toNat ((List.getD todo315 (Int.toNat i319) (0, 0)).1)) false) == (List.getD bAccept (Int.toNat ((List.getD todo315 (Int.toNat i319) (0, 0)).2)) false))), (14, .int .i64 i319), (15, .int .i64 ((List.getD todo315 (Int.toNat i319) (0, 0)).1)), (16, .int .i64 ((List.getD todo315 (Int.toNat i319) (0, 0)).2)), (17, .int .i64 l573), (18, .int .i64 r659.1), (20, .int .i64 r668.1), (132, .bool ((r668.2 : Int) != 0))] [] E (by kernel_rfl) trivial ?_
      clear E; intro a E
      refine E.cases (t := 132) rfl (fun hb_ E_ => ?_) (fun hb_ E_ => ?_)
      ·
       replace E := E_; clear E_
       have h695 : ¬ ((r668.2 : Int) = 0) := bne_iff_ne.1 hb_
       clear hb_; replace hP := ite_f h695 hP
       refine vr tbok 19 [] [(2, .pointer (some ⟨g25, 0, none⟩)), (3, .pointer (some ⟨g30, 0, none⟩)), (5, .bool r35), (6, .pointer (some ⟨g62, 0, none⟩)), (8, .pointer (some ⟨g87, 0, none⟩)), (10, .int .i64 (((List.length bAccept) : Nat) : Int)), (11, .slice (some ⟨g156, 0, none⟩) (List.length seen569) (Int.toNat ((((List.length aAccept) : Nat) : Int) * (((List.length bAccept) : Nat) : Int)))), (12, .slice A571 (List.length todo570) c572), (13, .bool ((List.getD aAccept (Int.toNat ((List.getD todo315 (Int.toNat i319) (0, 0)).1)) false) == (List.getD bAccept (Int.toNat ((List.getD todo315 (Int.toNat i319) (0, 0)).2)) false))), (14, .int .i64 i319), (15, .int .i64 ((List.getD todo315 (Int.toNat i319) (0, 0)).1)), (16, .int .i64 ((List.getD todo315 (Int.toNat i319) (0, 0)).2)), (17, .int .i64 l573), (18, .int .i64 r659.1), (20, .int .i64 r668.1), (151, .bool true)] [] E (by kernel_rfl) trivial ?_
       clear E; intro a E
       refine wpList_nil ?_
       have hx_ := Option.some.inj hP
       exact .inl ⟨rfl, true, E.pick _ ⟨rfl, rfl, rfl, rfl, rfl, rfl, rfl, rfl, rfl, rfl, rfl, rfl, rfl, rfl, rfl, rfl, trivial⟩, H.sel [0, 1, 2, 3, 4, 5, 6, 7, 8, 9, 10, 11, 12, 13, 14, 15, 16, 17] rfl, hx_.symm⟩
      replace E := E_; clear E_
      have h696 : (r668.2 : Int) = 0 := bne_eq_false_iff_eq.1 hb_
      clear hb_; replace hP := ite_t h696 hP
      refine vr tbok 4 [] [(2, .pointer (some ⟨g25, 0, none⟩)), (3, .pointer (some ⟨g30, 0, none⟩)), (5, .bool r35), (6, .pointer (some ⟨g62, 0, none⟩)), (8, .pointer (some ⟨g87, 0, none⟩)), (10, .int .i64 (((List.length bAccept) : Nat) : Int)), (11, .slice (some ⟨g156, 0, none⟩) (List.length seen569) (Int.toNat ((((List.length aAccept) : Nat) : Int) * (((List.length bAccept) : Nat) : Int)))), (12, .slice A571 (List.length todo570) c572), (13, .bool ((List.getD aAccept (Int.toNat ((List.getD todo315 (Int.toNat i319) (0, 0)).1)) false) == (List.getD bAccept (Int.toNat ((List.getD todo315 (Int.toNat i319) (0, 0)).2)) false))), (14, .int .i64 i319), (15, .int .i64 ((List.getD todo315 (Int.toNat i319) (0, 0)).1)), (16, .int .i64 ((List.getD todo315 (Int.toNat i319) (0, 0)).2)), (17, .int .i64 l573), (18, .int .i64 r659.1), (20, .int .i64 r668.1), (136, .bool (decide (r659.1 < 0)))] [] E (by kernel_rfl) trivial ?_
      clear E; intro a E
      refine E.cases (t := 136) rfl (fun hb_ E_ => ?_) (fun hb_ E_ => ?_)
      ·
       replace E := E_; clear E_
       have h697 : r659.1 < 0 := of_decide_eq_true hb_
       clear hb_; replace hP := ite_t h697 hP
       refine vr tbok 15 [] [(2, .pointer (some ⟨g25, 0, none⟩)), (3, .pointer (some ⟨g30, 0, none⟩)), (5, .bool r35), (6, .pointer (some ⟨g62, 0, none⟩)), (8, .pointer (some ⟨g87, 0, none⟩)), (10, .int .i64 (((List.length bAccept) : Nat) : Int)), (11, .slice (some ⟨g156, 0, none⟩) (List.length seen569) (Int.toNat ((((List.length aAccept) : Nat) : Int) * (((List.length bAccept) : Nat) : Int)))), (12, .slice A571 (List.length todo570) c572), (13, .bool ((List.getD aAccept (Int.toNat ((List.getD todo315 (Int.toNat i319) (0, 0)).1)) false) == (List.getD bAccept (Int.toNat ((List.getD todo315 (Int.toNat i319) (0, 0)).2)) false))), (14, .int .i64 i319), (15, .int .i64 ((List.getD todo315 (Int.toNat i319) (0, 0)).1)), (16, .int .i64 ((List.getD todo315 (Int.toNat i319) (0, 0)).2)), (17, .int .i64 l573), (18, .int .i64 r659.1), (20, .int .i64 r668.1), (151, .bool true)] [] E (by kernel_rfl) trivial ?_
       clear E; intro a E
       refine wpList_nil ?_
       have hx_ := Option.some.inj hP
       exact .inl ⟨rfl, true, E.pick _ ⟨rfl, rfl, rfl, rfl, rfl, rfl, rfl, rfl, rfl, rfl, rfl, rfl, rfl, rfl, rfl, rfl, trivial⟩, H.sel [0, 1, 2, 3, 4, 5, 6, 7, 8, 9, 10, 11, 12, 13, 14, 15, 16, 17] rfl, hx_.symm⟩
      replace E := E_; clear E_
      have h698 : ¬ (r659.1 < 0) := of_decide_eq_false hb_
      clear hb_; replace hP := ite_f h698 hP
      refine vr tbok 4 [] [(2, .pointer (some ⟨g25, 0, none⟩)), (3, .pointer (some ⟨g30, 0, none⟩)), (5, .bool r35), (6, .pointer (some ⟨g62, 0, none⟩)), (8, .pointer (some ⟨g87, 0, none⟩)), (10, .int .i64 (((List.length bAccept) : Nat) : Int)), (11, .slice (some ⟨g156, 0, none⟩) (List.length seen569) (Int.toNat ((((List.length aAccept) : Nat) : Int) * (((List.length bAccept) : Nat) : Int)))), (12, .slice A571 (List.length todo570) c572), (13, .bool ((List.getD aAccept (Int.toNat ((List.getD todo315 (Int.toNat i319) (0, 0)).1)) false) == (List.getD bAccept (Int.toNat ((List.getD todo315 (Int.toNat i319) (0, 0)).2)) false))), (14, .int .i64 i319), (15, .int .i64 ((List.getD todo315 (Int.toNat i319) (0, 0)).1)), (16, .int .i64 ((List.getD todo315 (Int.toNat i319) (0, 0)).2)), (17, .int .i64 l573), (18, .int .i64 r659.1), (20, .int .i64 r668.1), (140, .bool (decide (r668.1 < 0)))] [] E (by kernel_rfl) trivial ?_
      clear E; intro a E
      refine E.cases (t := 140) rfl (fun hb_ E_ => ?_) (fun hb_ E_ => ?_)
      ·
       replace E := E_; clear E_
       have h699 : r668.1 < 0 := of_decide_eq_true hb_
       clear hb_; replace hP := ite_t h699 hP
       refine vr tbok 11 [] [(2, .pointer (some ⟨g25, 0, none⟩)), (3, .pointer (some ⟨g30, 0, none⟩)), (5, .bool r35), (6, .pointer (some ⟨g62, 0, none⟩)), (8, .pointer (some ⟨g87, 0, none⟩)), (10, .int .i64 (((List.length bAccept) : Nat) : Int)), (11, .slice (some ⟨g156, 0, none⟩) (List.length seen569) (Int.toNat ((((List.length aAccept) : Nat) : Int) * (((List.length bAccept) : Nat) : Int)))), (12, .slice A571 (List.length todo570) c572), (13, .bool ((List.getD aAccept (Int.toNat ((List.getD todo315 (Int.toNat i319) (0, 0)).1)) false) == (List.getD bAccept (Int.toNat ((List.getD todo315 (Int.toNat i319) (0, 0)).2)) false))), (14, .int .i64 i319), (15, .int .i64 ((List.getD todo315 (Int.toNat i319) (0, 0)).1)), (16, .int .i64 ((List.getD todo315 (Int.toNat i319) (0, 0)).2)), (17, .int .i64 l573), (18, .int .i64 r659.1), (20, .int .i64 r668.1), (151, .bool true)] [] E (by kernel_rfl) trivial ?_
       clear E; intro a E
       refine wpList_nil ?_
       have hx_ := Option.some.inj hP
       exact .inl ⟨rfl, true, E.pick _ ⟨rfl, rfl, rfl, rfl, rfl, rfl, rfl, rfl, rfl, rfl, rfl, rfl, rfl, rfl, rfl, rfl, trivial⟩, H.sel [0, 1, 2, 3, 4, 5, 6, 7, 8, 9, 10, 11, 12, 13, 14, 15, 16, 17] rfl, hx_.symm⟩
      replace E := E_; clear E_
      have h700 : ¬ (r668.1 < 0) := of_decide_eq_false hb_
      clear hb_; replace hP := ite_f h700 hP
      refine vr tbok 7 [.slice (some ⟨b500, o501, none⟩) (List.length aAccept) c2] [(2, .pointer (some ⟨g25, 0, none⟩)), (3, .pointer (some ⟨g30, 0, none⟩)), (5, .bool r35), (6, .pointer (some ⟨g62, 0, none⟩)), (8, .pointer (some ⟨g87, 0, none⟩)), (10, .int .i64 (((List.length bAccept) : Nat) : Int)), (11, .slice (some ⟨g156, 0, none⟩) (List.length seen569) (Int.toNat ((((List.length aAccept) : Nat) : Int) * (((List.length bAccept) : Nat) : Int)))), (12, .slice A571 (List.length todo570) c572), (13, .bool ((List.getD aAccept (Int.toNat ((List.getD todo315 (Int.toNat i319) (0, 0)).1)) false) == (List.getD bAccept (Int.toNat ((List.getD todo315 (Int.toNat i319) (0, 0)).2)) false))), (14, .int .i64 i319), (15, .int .i64 ((List.getD todo315 (Int.toNat i319) (0, 0)).1)), (16, .int .i64 ((List.getD todo315 (Int.toNat i319) (0, 0)).2)), (17, .int .i64 l573), (18, .int .i64 r659.1), (20, .int .i64 r668.1), (147, .bool (decide ((((List.length aAccept) : Nat) : Int) ≤ r659.1)))] [World.cell? w674 ⟨g25, 1, none⟩ = some (.slice (some ⟨b500, o501, none⟩) (List.length aAccept) c2)] E (by kernel_rfl) ((H.box 3 rfl).cell (j := 1) rfl) ?_
      clear E; intro a E
      refine E.cases (t := 147) rfl (fun hb_ E_ => ?_) (fun hb_ E_ => ?_)
      ·
       replace E := E_; clear E_
       have h701 : (((List.length aAccept) : Nat) : Int) ≤ r659.1 := of_decide_eq_true hb_
       clear hb_; replace hP := ite_t h701 hP
       refine vr tbok 4 [] [(2, .pointer (some ⟨g25, 0, none⟩)), (3, .pointer (some ⟨g30, 0, none⟩)), (5, .bool r35), (6, .pointer (some ⟨g62, 0, none⟩)), (8, .pointer (some ⟨g87, 0, none⟩)), (10, .int .i64 (((List.length bAccept) : Nat) : Int)), (11, .slice (some ⟨g156, 0, none⟩) (List.length seen569) (Int.toNat ((((List.length aAccept) : Nat) : Int) * (((List.length bAccept) : Nat) : Int)))), (12, .slice A571 (List.length todo570) c572), (13, .bool ((List.getD aAccept (Int.toNat ((List.getD todo315 (Int.toNat i319) (0, 0)).1)) false) == (List.getD bAccept (Int.toNat ((List.getD todo315 (Int.toNat i319) (0, 0)).2)) false))), (14, .int .i64 i319), (15, .int .i64 ((List.getD todo315 (Int.toNat i319) (0, 0)).1)), (16, .int .i64 ((List.getD todo315 (Int.toNat i319) (0, 0)).2)), (17, .int .i64 l573), (18, .int .i64 r659.1), (20, .int .i64 r668.1), (151, .bool true)] [] E (by kernel_rfl) trivial ?_
       clear E; intro a E
       refine wpList_nil ?_
       have hx_ := Option.some.inj hP
       exact .inl ⟨rfl, true, E.pick _ ⟨rfl, rfl, rfl, rfl, rfl, rfl, rfl, rfl, rfl, rfl, rfl, rfl, rfl, rfl, rfl, rfl, trivial⟩, H.sel [0, 1, 2, 3, 4, 5, 6, 7, 8, 9, 10, 11, 12, 13, 14, 15, 16, 17] rfl, hx_.symm⟩
      replace E := E_; clear E_
      have h702 : ¬ ((((List.length aAccept) : Nat) : Int) ≤ r659.1) := of_decide_eq_false hb_
      clear hb_; replace hP := ite_f h702 hP
      refine vr tbok 4 [] [(2, .pointer (some ⟨g25, 0, none⟩)), (3, .pointer (some ⟨g30, 0, none⟩)), (5, .bool r35), (6, .pointer (some ⟨g62, 0, none⟩)), (8, .pointer (some ⟨g87, 0, none⟩)), (10, .int .i64 (((List.length bAccept) : Nat) : Int)), (11, .slice (some ⟨g156, 0, none⟩) (List.length seen569) (Int.toNat ((((List.length aAccept) : Nat) : Int) * (((List.length bAccept) : Nat) : Int)))), (12, .slice A571 (List.length todo570) c572), (13, .bool ((List.getD aAccept (Int.toNat ((List.getD todo315 (Int.toNat i319) (0, 0)).1)) false) == (List.getD bAccept (Int.toNat ((List.getD todo315 (Int.toNat i319) (0, 0)).2)) false))), (14, .int .i64 i319), (15, .int .i64 ((List.getD todo315 (Int.toNat i319) (0, 0)).1)), (16, .int .i64 ((List.getD todo315 (Int.toNat i319) (0, 0)).2)), (17, .int .i64 l573), (18, .int .i64 r659.1), (20, .int .i64 r668.1), (151, .bool (decide ((((List.length bAccept) : Nat) : Int) ≤ r668.1)))] [] E (by kernel_rfl) trivial ?_
      clear E; intro a E
      refine wpList_nil ?_
      have hx_ := Option.some.inj hP
      exact .inl ⟨rfl, decide ((((List.length bAccept) : Nat) : Int) ≤ r668.1), E.pick _ ⟨rfl, rfl, rfl, rfl, rfl, rfl, rfl, rfl, rfl, rfl, rfl, rfl, rfl, rfl, rfl, rfl, trivial⟩, H.sel [0, 1, 2, 3, 4, 5, 6, 7, 8, 9, 10, 11, 12, 13, 14, 15, 16, 17] rfl, hx_.symm⟩
     clear E H h689; rintro a w692 ⟨x691, E, H, hx_⟩
     subst hx_; have hP := hK690; clear hK690
     refine th_n ?_
     refine E.cases (t := 151) rfl (fun hb_ E_ => ?_) (fun hb_ E_ => ?_)
     ·
      replace E := E_; clear E_
      have h703 : x688 = true := hb_
      clear hb_; replace hP := ite_t h703 hP
      refine c_true E rfl ?_
      refine wp_seq ?_
      refine wp_region_lit ?_
      refine vr tbok 1 [] [(4, .bool false)] [] E (by kernel_rfl) trivial ?_
      clear E; intro a E
      refine wpList_nil ?_
      refine th_n ?_
      refine wp_ret ?_
      refine th_ret ?_
      refine bl_ret ?_
      refine th_ret ?_
      refine th_ret ?_
      refine .inr ⟨rfl, ?_⟩
      refine bl_ret ?_
      refine bl_ret ?_
      refine th_ret ?_
      refine th_ret ?_
      refine .inr ⟨rfl, ?_⟩
      refine bl_ret ?_
      refine th_ret ?_
      have hx_ := Option.some.inj hP; subst hx_
      have hP : some (Sum.inr false) = some x475 := hK642
      have hx_ := Option.some.inj hP; subst hx_
      have hP : some (false) = some r := hK477
      obtain rfl := Option.some.inj hP
      refine ret1 E rfl rfl ?_
      exact ⟨_, rfl, rfl, H.sel [] rfl⟩
     replace E := E_; clear E_
     have h704 : ¬ (x688 = true) := (ne_true_of_eq_false hb_)
     clear hb_; replace hP := ite_f h704 hP
     refine c_false E rfl ?_
     refine wp_skip ?_
     refine th_n ?_
     refine wp_seq ?_
     refine wp_region_lit ?_
     obtain ⟨g705, hP⟩ := ask_inv hP
     obtain ⟨g706, hP⟩ := ask_inv hP
     obtain ⟨g707, hP⟩ := ask_inv hP
     refine vr tbok 9 [.int .i64 (r659.1 * (((List.length bAccept) : Nat) : Int)), .int .i64 ((r659.1 * (((List.length bAccept) : Nat) : Int)) + r668.1), .bool (List.getD seen569 (Int.toNat ((r659.1 * (((List.length bAccept) : Nat) : Int)) + r668.1)) false)] [(2, .pointer (some ⟨g25, 0, none⟩)), (3, .pointer (some ⟨g30, 0, none⟩)), (5, .bool r35), (6, .pointer (some ⟨g62, 0, none⟩)), (8, .pointer (some ⟨g87, 0, none⟩)), (10, .int .i64 (((List.length bAccept) : Nat) : Int)), (11, .slice (some ⟨g156, 0, none⟩) (List.length seen569) (Int.toNat ((((List.length aAccept) : Nat) : Int) * (((List.length bAccept) : Nat) : Int)))), (12, .slice A571 (List.length todo570) c572), (13, .bool ((List.getD aAccept (Int.toNat ((List.getD todo315 (Int.toNat i319) (0, 0)).1)) false) == (List.getD bAccept (Int.toNat ((List.getD todo315 (Int.toNat i319) (0, 0)).2)) false))), (14, .int .i64 i319), (15, .int .i64 ((List.getD todo315 (Int.toNat i319) (0, 0)).1)), (16, .int .i64 ((List.getD todo315 (Int.toNat i319) (0, 0)).2)), (17, .int .i64 l573), (18, .int .i64 r659.1), (20, .int .i64 r668.1), (160, .bool (!(List.getD seen569 (Int.toNat ((r659.1 * (((List.length bAccept) : Nat) : Int)) + r668.1)) false)))] [IntKind.i64.wrap (r659.1 * (((List.length bAccept) : Nat) : Int)) = r659.1 * (((List.length bAccept) : Nat) : Int), IntKind.i64.wrap ((r659.1 * (((List.length bAccept) : Nat) : Int)) + r668.1) = (r659.1 * (((List.length bAccept) : Nat) : Int)) + r668.1, 0 ≤ ((r659.1 * (((List.length bAccept) : Nat) : Int)) + r668.1) ∧ ((r659.1 * (((List.length bAccept) : Nat) : Int)) + r668.1) < (((List.length seen569) : Nat) : Int), World.cell? w692 ⟨g156, 0 + (Int.toNat ((r659.1 * (((List.length bAccept) : Nat) : Int)) + r668.1)) * 1, none⟩ = some (.bool (List.getD seen569 (Int.toNat ((r659.1 * (((List.length bAccept) : Nat) : Int)) + r668.1)) false))] E (by kernel_rfl) ⟨wrap_in g705, wrap_in g706, g707, Rds.at1 (H.rd 16 rds_rowx) false g707⟩ ?_
     clear E; intro a E
     refine wpList_nil ?_
     refine th_n ?_
     obtain ⟨x728, h729, hK730⟩ := bind_inv hP
     clear hP
     refine meet_cut (fun a w732 => ∃ (x731 : (List Bool) × (List (Int × Int))), ∃ (A726 : Option Addr) (c727 : Nat), Fr a 182 [(2, .pointer (some ⟨g25, 0, none⟩)), (3, .pointer (some ⟨g30, 0, none⟩)), (5, .bool r35), (6, .pointer (some ⟨g62, 0, none⟩)), (8, .pointer (some ⟨g87, 0, none⟩)), (10, .int .i64 (((List.length bAccept) : Nat) : Int)), (11, .slice (some ⟨g156, 0, none⟩) (List.length x731.1) (Int.toNat ((((List.length aAccept) : Nat) : Int) * (((List.length bAccept) : Nat) : Int)))), (12, .slice A726 (List.length x731.2) c727), (13, .bool ((List.getD aAccept (Int.toNat ((List.getD todo315 (Int.toNat i319) (0, 0)).1)) false) == (List.getD bAccept (Int.toNat ((List.getD todo315 (Int.toNat i319) (0, 0)).2)) false))), (14, .int .i64 i319), (15, .int .i64 ((List.getD todo315 (Int.toNat i319) (0, 0)).1)), (16, .int .i64 ((List.getD todo315 (Int.toNat i319) (0, 0)).2)), (17, .int .i64 l573)] ∧ Hp S Fa w0 w732 [.ro false cBool (some ⟨b500, o501, none⟩) aAccept, .ro false (cInt .i64) A5 aGuard, .ro false cNode A9 aNodes, .box g25 26 [.int .i64 aProps, .slice (some ⟨b500, o501, none⟩) (List.length aAccept) c2, .slice A5 (List.length aGuard) c6, .slice A9 (List.length aNodes) c10], .ro false cBool (some ⟨b503, o504, none⟩) bAccept, .ro false (cInt .i64) A17 bGuard, .ro false cNode A21 bNodes, .box g30 26 [.int .i64 bProps, .slice (some ⟨b503, o504, none⟩) (List.length bAccept) c14, .slice A17 (List.length bGuard) c18, .slice A21 (List.length bNodes) c22], .row true cBool 4 A53 c54 r44.1.2.1, .row true (cInt .i64) 3 A56 c57 r44.1.2.2.1, .row true cNode 57 A59 c60 r44.1.2.2.2, .box g62 26 [.int .i64 r44.1.1, .slice A53 (List.length r44.1.2.1) c54, .slice A56 (List.length r44.1.2.2.1) c57, .slice A59 (List.length r44.1.2.2.2) c60], .row true cBool 4 A78 c79 r69.1.2.1, .row true (cInt .i64) 3 A81 c82 r69.1.2.2.1, .row true cNode 57 A84 c85 r69.1.2.2.2, .box g87 26 [.int .i64 r69.1.1, .slice A78 (List.length r69.1.2.1) c79, .slice A81 (List.length r69.1.2.2.1) c82, .slice A84 (List.length r69.1.2.2.2) c85], .rowx true cBool 4 (some ⟨g156, 0, none⟩) (Int.toNat ((((List.length aAccept) : Nat) : Int) * (((List.length bAccept) : Nat) : Int))) x731.1 (List.replicate (Int.toNat ((((List.length aAccept) : Nat) : Int) * (((List.length bAccept) : Nat) : Int)) - Int.toNat ((((List.length aAccept) : Nat) : Int) * (((List.length bAccept) : Nat) : Int))) (false : Bool)), .row true cS51 51 A726 c727 x731.2] ∧ x728 = x731) ?_ ?_
     ·
      have hP := h729; clear h729; rw [law17_CanonOne_j6] at hP
      refine E.cases (t := 160) rfl (fun hb_ E_ => ?_) (fun hb_ E_ => ?_)
      ·
       replace E := E_; clear E_
       have h733 : ¬ ((List.getD seen569 (Int.toNat ((r659.1 * (((List.length bAccept) : Nat) : Int)) + r668.1)) false) = true) := (ne_true_of_eq_false (not_t hb_))
       clear hb_; replace hP := ite_f h733 hP
       refine c_true E rfl ?_
       refine wp_seq ?_
       refine wp_region_lit ?_
       refine vr tbok 7 [.int .i64 (r659.1 * (((List.length bAccept) : Nat) : Int)), .int .i64 ((r659.1 * (((List.length bAccept) : Nat) : Int)) + r668.1)] [(2, .pointer (some ⟨g25, 0, none⟩)), (3, .pointer (some ⟨g30, 0, none⟩)), (5, .bool r35), (6, .pointer (some ⟨g62, 0, none⟩)), (8, .pointer (some ⟨g87, 0, none⟩)), (10, .int .i64 (((List.length bAccept) : Nat) : Int)), (11, .slice (some ⟨g156, 0, none⟩) (List.length seen569) (Int.toNat ((((List.length aAccept) : Nat) : Int) * (((List.length bAccept) : Nat) : Int)))), (12, .slice A571 (List.length todo570) c572), (13, .bool ((List.getD aAccept (Int.toNat ((List.getD todo315 (Int.toNat i319) (0, 0)).1)) false) == (List.getD bAccept (Int.toNat ((List.getD todo315 (Int.toNat i319) (0, 0)).2)) false))), (14, .int .i64 i319), (15, .int .i64 ((List.getD todo315 (Int.toNat i319) (0, 0)).1)), (16, .int .i64 ((List.getD todo315 (Int.toNat i319) (0, 0)).2)), (17, .int .i64 l573), (18, .int .i64 r659.1), (20, .int .i64 r668.1), (167, .pointer (some ⟨g156, 0 + (Int.toNat ((r659.1 * (((List.length bAccept) : Nat) : Int)) + r668.1)) * 1, none⟩))] [IntKind.i64.wrap (r659.1 * (((List.length bAccept) : Nat) : Int)) = r659.1 * (((List.length bAccept) : Nat) : Int), IntKind.i64.wrap ((r659.1 * (((List.length bAccept) : Nat) : Int)) + r668.1) = (r659.1 * (((List.length bAccept) : Nat) : Int)) + r668.1, 0 ≤ ((r659.1 * (((List.length bAccept) : Nat) : Int)) + r668.1) ∧ ((r659.1 * (((List.length bAccept) : Nat) : Int)) + r668.1) < (((List.length seen569) : Nat) : Int)] E (by kernel_rfl) ⟨wrap_in g705, wrap_in g706, g707⟩ ?_
       clear E; intro a E
       refine h_setx (g := g156) (i := ((r659.1 * (((List.length bAccept) : Nat) : Int)) + r668.1)) true H 16 rfl E rfl rfl rfl rfl tbok rfl (fun _ HF_ => rfl) rfl g707 rfl ?_
       clear E; intro w734 a hc735 H_ E
       replace H := H_; clear H_; try dsimp only [setn, addE, goneL] at H
       have hn736 : (List.length seen569) = (List.length (List.set seen569 (Int.toNat ((r659.1 * (((List.length bAccept) : Nat) : Int)) + r668.1)) true)) := by simp only [List.length_set]
       replace E := E.same (t := 11) (u := .slice (some ⟨g156, 0, none⟩) (List.length (List.set seen569 (Int.toNat ((r659.1 * (((List.length bAccept) : Nat) : Int)) + r668.1)) true)) (Int.toNat ((((List.length aAccept) : Nat) : Int) * (((List.length bAccept) : Nat) : Int)))) rfl (congrArg (fun n_ => Value.slice (some ⟨g156, 0, none⟩) n_ (Int.toNat ((((List.length aAccept) : Nat) : Int) * (((List.length bAccept) : Nat) : Int)))) hn736)
       refine wpList_nil ?_
       refine th_n ?_
       refine wp_region_lit ?_
       refine vr tbok 3 [] [(2, .pointer (some ⟨g25, 0, none⟩)), (3, .pointer (some ⟨g30, 0, none⟩)), (5, .bool r35), (6, .pointer (some ⟨g62, 0, none⟩)), (8, .pointer (some ⟨g87, 0, none⟩)), (10, .int .i64 (((List.length bAccept) : Nat) : Int)), (11, .slice (some ⟨g156, 0, none⟩) (List.length (List.set seen569 (Int.toNat ((r659.1 * (((List.length bAccept) : Nat) : Int)) + r668.1)) true)) (Int.toNat ((((List.length aAccept) : Nat) : Int) * (((List.length bAccept) : Nat) : Int)))), (13, .bool ((List.getD aAccept (Int.toNat ((List.getD todo315 (Int.toNat i319) (0, 0)).1)) false) == (List.getD bAccept (Int.toNat ((List.getD todo315 (Int.toNat i319) (0, 0)).2)) false))), (14, .int .i64 i319), (15, .int .i64 ((List.getD todo315 (Int.toNat i319) (0, 0)).1)), (16, .int .i64 ((List.getD todo315 (Int.toNat i319) (0, 0)).2)), (17, .int .i64 l573), (168, .slice A571 (List.length todo570) c572), (169, .int .i64 r659.1), (170, .int .i64 r668.1)] [] E (by kernel_rfl) trivial ?_
       clear E; intro a E
       refine e_build (ps := [(0, .int .i64 r659.1), (1, .int .i64 r668.1)]) (v := .agg #[.int .i64 r659.1, .int .i64 r668.1]) E rfl rfl tbok rfl (by kernel_rfl) rfl ?_
       clear E; intro a E
       refine h_buildSlice (ps := [(0, .agg #[.int .i64 r659.1, .int .i64 r668.1])]) (cs := [.int .i64 r659.1, .int .i64 r668.1]) H E rfl rfl tbok rfl rfl (by kernel_rfl) ?_
       intro w738 g737 a hc739 hg741 H_ E_
       replace E := E_ _ rfl; clear E_
       replace H := H_; clear H_; try dsimp only [setn, addE, goneL] at H
       obtain ⟨g742, hP⟩ := ask_inv hP
       refine h_append cS51 (xs := todo570) (ys := ([(r659.1, r668.1)] : List (Int × Int))) ((0, 0) : Int × Int) H 17 rfl E rfl rfl tbok rfl rfl rfl rfl rfl (fun _ _ => rfl) rfl rfl (fun _ HF_ => HF_.srcB 18 rfl (⟨_, _, rfl, rfl, rfl⟩)) g742 ?_
       intro w743 A744 c745 a hc746 hA747 H_ E_
       replace E := E_ _ rfl; clear E_
       replace H := H_; clear H_; try dsimp only [setn, addE, goneL] at H
       refine vr tbok 1 [] [(2, .pointer (some ⟨g25, 0, none⟩)), (3, .pointer (some ⟨g30, 0, none⟩)), (5, .bool r35), (6, .pointer (some ⟨g62, 0, none⟩)), (8, .pointer (some ⟨g87, 0, none⟩)), (10, .int .i64 (((List.length bAccept) : Nat) : Int)), (11, .slice (some ⟨g156, 0, none⟩) (List.length (List.set seen569 (Int.toNat ((r659.1 * (((List.length bAccept) : Nat) : Int)) + r668.1)) true)) (Int.toNat ((((List.length aAccept) : Nat) : Int) * (((List.length bAccept) : Nat) : Int)))), (12, .slice A744 (List.length (todo570 ++ ([(r659.1, r668.1)] : List (Int × Int)))) c745), (13, .bool ((List.getD aAccept (Int.toNat ((List.getD todo315 (Int.toNat i319) (0, 0)).1)) false) == (List.getD bAccept (Int.toNat ((List.getD todo315 (Int.toNat i319) (0, 0)).2)) false))), (14, .int .i64 i319), (15, .int .i64 ((List.getD todo315 (Int.toNat i319) (0, 0)).1)), (16, .int .i64 ((List.getD todo315 (Int.toNat i319) (0, 0)).2)), (17, .int .i64 l573)] [] E (by kernel_rfl) trivial ?_
       clear E; intro a E
       refine wpList_nil ?_
       have hx_ := Option.some.inj hP
       exact .inl ⟨rfl, (List.set seen569 (Int.toNat ((r659.1 * (((List.length bAccept) : Nat) : Int)) + r668.1)) true, todo570 ++ ([(r659.1, r668.1)] : List (Int × Int))), A744, c745, E.pick _ ⟨rfl, rfl, rfl, rfl, rfl, rfl, rfl, rfl, rfl, rfl, rfl, rfl, rfl, trivial⟩, H.sel [0, 1, 2, 3, 4, 5, 6, 7, 8, 9, 10, 11, 12, 13, 14, 15, 16, 17] rfl, hx_.symm⟩
      replace E := E_; clear E_
      have h748 : (List.getD seen569 (Int.toNat ((r659.1 * (((List.length bAccept) : Nat) : Int)) + r668.1)) false) = true := (not_f hb_)
      clear hb_; replace hP := ite_t h748 hP
      refine c_false E rfl ?_
      refine wp_skip ?_
      have hx_ := Option.some.inj hP
      exact .inl ⟨rfl, (seen569, todo570), A571, c572, E.pick _ ⟨rfl, rfl, rfl, rfl, rfl, rfl, rfl, rfl, rfl, rfl, rfl, rfl, rfl, trivial⟩, H.sel [0, 1, 2, 3, 4, 5, 6, 7, 8, 9, 10, 11, 12, 13, 14, 15, 16, 17] rfl, hx_.symm⟩
     clear E H h729; rintro a w732 ⟨x731, A726, c727, E, H, hx_⟩
     subst hx_; have hP := hK730; clear hK730
     refine bl_n ?_
     refine th_n ?_
     refine wp_region_lit ?_
     obtain ⟨g749, hP⟩ := ask_inv hP
     refine vr tbok 3 [.int .i64 (l573 + 1)] [(2, .pointer (some ⟨g25, 0, none⟩)), (3, .pointer (some ⟨g30, 0, none⟩)), (5, .bool r35), (6, .pointer (some ⟨g62, 0, none⟩)), (8, .pointer (some ⟨g87, 0, none⟩)), (10, .int .i64 (((List.length bAccept) : Nat) : Int)), (11, .slice (some ⟨g156, 0, none⟩) (List.length x728.1) (Int.toNat ((((List.length aAccept) : Nat) : Int) * (((List.length bAccept) : Nat) : Int)))), (12, .slice A726 (List.length x728.2) c727), (13, .bool ((List.getD aAccept (Int.toNat ((List.getD todo315 (Int.toNat i319) (0, 0)).1)) false) == (List.getD bAccept (Int.toNat ((List.getD todo315 (Int.toNat i319) (0, 0)).2)) false))), (14, .int .i64 i319), (15, .int .i64 ((List.getD todo315 (Int.toNat i319) (0, 0)).1)), (16, .int .i64 ((List.getD todo315 (Int.toNat i319) (0, 0)).2)), (17, .int .i64 (l573 + 1))] [IntKind.i64.wrap (l573 + 1) = l573 + 1] E (by kernel_rfl) (wrap_in g749) ?_
     clear E; intro a E
     refine wpList_nil ?_
     exact th_n ⟨m639, Nat.lt_succ_self _, x728.1, x728.2, l573 + 1, A726, c727, E.pick _ ⟨rfl, rfl, rfl, rfl, rfl, rfl, rfl, rfl, rfl, rfl, rfl, rfl, rfl, trivial⟩, H.sel [0, 1, 2, 3, 4, 5, 6, 7, 8, 9, 10, 11, 12, 13, 14, 15, 16, 17] rfl, hP⟩
    replace E := E_; clear E_
    have h750 : ¬ (x650 = true) := (ne_true_of_eq_false hb_)
    clear hb_; replace hP := ite_f h750 hP
    refine c_false E rfl ?_
    refine wp_exit ?_
    refine th_exit ?_
    have hx_ := Option.some.inj hP
    refine th_exit (.inl ⟨2, rfl, ?_⟩)
    exact ⟨rfl, (seen569, todo570), A571, c572, E.pick _ ⟨rfl, rfl, rfl, rfl, rfl, rfl, rfl, rfl, rfl, rfl, trivial⟩, H.sel [0, 1, 2, 3, 4, 5, 6, 7, 8, 9, 10, 11, 12, 13, 14, 15, 16, 17] rfl, hx_.symm⟩
   clear E H hL641; intro i_ a w643 hM_
   obtain ⟨rfl, x645, A637, c638, E, H, hx_⟩ := hM_
   subst hx_; have hP := elim_l hK642
   clear hK642
   refine bl_hit ?_
   refine bl_n ?_
   refine th_n ?_
   refine wp_region_lit ?_
   obtain ⟨g752, hP⟩ := ask_inv hP
   refine vr tbok 3 [.int .i64 (i319 + 1)] [(2, .pointer (some ⟨g25, 0, none⟩)), (3, .pointer (some ⟨g30, 0, none⟩)), (5, .bool r35), (6, .pointer (some ⟨g62, 0, none⟩)), (8, .pointer (some ⟨g87, 0, none⟩)), (10, .int .i64 (((List.length bAccept) : Nat) : Int)), (11, .slice (some ⟨g156, 0, none⟩) (List.length x645.1) (Int.toNat ((((List.length aAccept) : Nat) : Int) * (((List.length bAccept) : Nat) : Int)))), (12, .slice A637 (List.length x645.2) c638), (13, .bool ((List.getD aAccept (Int.toNat ((List.getD todo315 (Int.toNat i319) (0, 0)).1)) false) == (List.getD bAccept (Int.toNat ((List.getD todo315 (Int.toNat i319) (0, 0)).2)) false))), (14, .int .i64 (i319 + 1))] [IntKind.i64.wrap (i319 + 1) = i319 + 1] E (by kernel_rfl) (wrap_in g752) ?_
   clear E; intro a E
   refine wpList_nil ?_
   exact th_n ⟨m474, Nat.lt_succ_self _, x645.1, x645.2, (List.getD aAccept (Int.toNat ((List.getD todo315 (Int.toNat i319) (0, 0)).1)) false) == (List.getD bAccept (Int.toNat ((List.getD todo315 (Int.toNat i319) (0, 0)).2)) false), i319 + 1, A637, c638, E.pick _ ⟨rfl, rfl, rfl, rfl, rfl, rfl, rfl, rfl, rfl, rfl, trivial⟩, H.sel [0, 1, 2, 3, 4, 5, 6, 7, 8, 9, 10, 11, 12, 13, 14, 15, 16, 17] rfl, hP⟩
  replace E := E_; clear E_
  have h753 : ¬ (x484 = true) := (ne_true_of_eq_false hb_)
  clear hb_; replace hP := ite_f h753 hP
  refine c_false E rfl ?_
  refine wp_exit ?_
  refine th_exit ?_
  have hx_ := Option.some.inj hP
  refine th_exit (.inl ⟨0, rfl, ?_⟩)
  exact ⟨rfl, same318, E.pick _ ⟨rfl, rfl, rfl, rfl, trivial⟩, H.sel [8, 9, 10, 11, 12, 13, 14, 15] rfl, hx_.symm⟩
 clear E H hL476; intro i_ a w478 hM_
 obtain ⟨rfl, x480, E, H, hx_⟩ := hM_
 subst hx_; have hP := elim_l hK477
 clear hK477
 refine bl_hit ?_
 refine th_n ?_
 refine wp_seq ?_
 obtain ⟨x767, h768, hK769⟩ := bind_inv hP
 clear hP
 refine meet_cut (fun a w771 => ∃ (x770 : Bool), Fr a 182 [(4, .bool x770)] ∧ Hp S Fa w0 w771 [] ∧ x767 = x770) ?_ ?_
 ·
  have hP := h768; clear h768; rw [law17_CanonOne_j7] at hP
  refine wp_region_lit ?_
  refine vr tbok 2 [] [(6, .pointer (some ⟨g62, 0, none⟩)), (8, .pointer (some ⟨g87, 0, none⟩)), (13, .bool x480), (175, .bool r35)] [] E (by kernel_rfl) trivial ?_
  clear E; intro a E
  refine E.cases (t := 175) rfl (fun hb_ E_ => ?_) (fun hb_ E_ => ?_)
  ·
   replace E := E_; clear E_
   have h772 : r35 = true := hb_
   clear hb_; replace hP := ite_t h772 hP
   refine vr tbok 2 [.agg #[.int .i64 r44.1.1, .slice A53 (List.length r44.1.2.1) c54, .slice A56 (List.length r44.1.2.2.1) c57, .slice A59 (List.length r44.1.2.2.2) c60], .agg #[.int .i64 r69.1.1, .slice A78 (List.length r69.1.2.1) c79, .slice A81 (List.length r69.1.2.2.1) c82, .slice A84 (List.length r69.1.2.2.2) c85]] [(13, .bool x480), (175, .bool true), (176, .agg #[.int .i64 r44.1.1, .slice A53 (List.length r44.1.2.1) c54, .slice A56 (List.length r44.1.2.2.1) c57, .slice A59 (List.length r44.1.2.2.2) c60]), (177, .agg #[.int .i64 r69.1.1, .slice A78 (List.length r69.1.2.1) c79, .slice A81 (List.length r69.1.2.2.1) c82, .slice A84 (List.length r69.1.2.2.2) c85])] [cellsAt w478 g62 (0) [.int .i64 r44.1.1, .slice A53 (List.length r44.1.2.1) c54, .slice A56 (List.length r44.1.2.2.1) c57, .slice A59 (List.length r44.1.2.2.2) c60], cellsAt w478 g87 (0) [.int .i64 r69.1.1, .slice A78 (List.length r69.1.2.1) c79, .slice A81 (List.length r69.1.2.2.1) c82, .slice A84 (List.length r69.1.2.2.2) c85]] E (by kernel_rfl) ⟨(H.box 3 rfl).sub 0 _ rfl, (H.box 7 rfl).sub 0 _ rfl⟩ ?_
   clear E; intro a E
   obtain ⟨r773, h774, hP⟩ := bind_inv hP
   obtain ⟨Fa775, Hc776, hb777⟩ := H.call [] [(0, false), (1, false), (2, false), (4, false), (5, false), (6, false)] rfl rfl trivial
   refine e_call E rfl rfl Try.func22 rfl rfl rfl (canon_Same_calls A53 c54 A56 c57 A59 c60 A78 c79 A81 c82 A84 c85 r44.1.1 r44.1.2.1 r44.1.2.2.1 r44.1.2.2.2 r69.1.1 r69.1.2.1 r69.1.2.2.1 r69.1.2.2.2 (H.rcap 0 rfl) (H.rcap 1 rfl) (H.rcap 2 rfl) (H.rcap 4 rfl) (H.rcap 5 rfl) (H.rcap 6 rfl) Hc776 h774) ?_
   rintro v778 w779 a ⟨rfl, HR780⟩ E_
   replace E := E_ _ rfl; clear E_
   obtain ⟨H_, hc781⟩ := hb777 _ _ HR780 rfl
   replace H := H_; clear H_; try dsimp only [setn, addE, goneL] at H
   refine vr tbok 4 [] [(4, .bool (r773 == x480))] [] E (by kernel_rfl) trivial ?_
   clear E; intro a E
   refine wpList_nil ?_
   have hx_ := Option.some.inj hP
   exact .inl ⟨rfl, r773 == x480, E.pick _ ⟨rfl, trivial⟩, H.sel [] rfl, hx_.symm⟩
  replace E := E_; clear E_
  have h782 : ¬ (r35 = true) := (ne_true_of_eq_false hb_)
  clear hb_; replace hP := ite_f h782 hP
  refine vr tbok 7 [] [(4, .bool false)] [] E (by kernel_rfl) trivial ?_
  clear E; intro a E
  refine wpList_nil ?_
  have hx_ := Option.some.inj hP
  exact .inl ⟨rfl, false, E.pick _ ⟨rfl, trivial⟩, H.sel [] rfl, hx_.symm⟩
 clear E H h768; rintro a w771 ⟨x770, E, H, hx_⟩
 subst hx_; have hP := hK769; clear hK769
 refine th_n ?_
 refine wp_ret ?_
 obtain rfl := Option.some.inj hP
 refine ret1 E rfl rfl ?_
 exact ⟨_, rfl, rfl, H.sel [] rfl⟩

end Go.V
