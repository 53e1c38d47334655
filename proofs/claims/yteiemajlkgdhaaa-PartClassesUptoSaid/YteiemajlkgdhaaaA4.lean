/- Plain functions, and the calls that give them. -/
import Derived.Test.YteiemajlkgdhaaaA3
set_option linter.all false
set_option linter.unusedVariables false
set_option linter.unnecessarySimpa false
set_option linter.unusedSimpArgs false
namespace Go.V
open Go Go.Proofs
/-! rejoinder/part.Parts -/
def part_Parts_l1 (N : Nat) (queue213 : List (Int × Int × Int × Int)) : Nat → Int → Int → Int → Int → (List Int) → Option (List Int)
  | 0, _, _, _, _, _ => none
  | m495 + 1, x466, x467, x468, x469, t471 =>
    if 0 ≤ x468 then
      ask (List.length t471 + List.length ([x469] : List Int) ≤ 1000000000) <|
      ask (idx x468 (List.length queue213)) <|
      part_Parts_l1 N queue213 m495 ((List.getD queue213 (Int.toNat x468) (0, 0, 0, 0)).1) ((List.getD queue213 (Int.toNat x468) (0, 0, 0, 0)).2.1) ((List.getD queue213 (Int.toNat x468) (0, 0, 0, 0)).2.2.1) ((List.getD queue213 (Int.toNat x468) (0, 0, 0, 0)).2.2.2) (t471 ++ ([x469] : List Int))
    else
      some t471
def part_Parts_l2 (N : Nat) (r35 : List (List Int)) (queue213 : List (Int × Int × Int × Int)) (x217 : Int) : Nat → (List (Int × Int × Int × Int)) → (List ((Int × Int) × Bool)) → Int → Option ((List (Int × Int × Int × Int)) × (List ((Int × Int) × Bool)))
  | 0, _, _, _ => none
  | m655 + 1, queue592, met595, x596 =>
    if x596 < (((List.length (List.getD r35 (Int.toNat ((List.getD queue213 (Int.toNat x217) (0, 0, 0, 0)).1)) [])) : Nat) : Int) then
      ask (idx x596 (List.length (List.getD r35 (Int.toNat ((List.getD queue213 (Int.toNat x217) (0, 0, 0, 0)).1)) []))) <|
      ask (idx ((List.getD queue213 (Int.toNat x217) (0, 0, 0, 0)).2.1) (List.length r35)) <|
      ask (idx x596 (List.length (List.getD r35 (Int.toNat ((List.getD queue213 (Int.toNat x217) (0, 0, 0, 0)).2.1)) []))) <|
      ask (key2 ((List.getD (List.getD r35 (Int.toNat ((List.getD queue213 (Int.toNat x217) (0, 0, 0, 0)).1)) []) (Int.toNat x596) 0), (List.getD (List.getD r35 (Int.toNat ((List.getD queue213 (Int.toNat x217) (0, 0, 0, 0)).2.1)) []) (Int.toNat x596) 0))) <|
      if (Option.getD (mget met595 ((List.getD (List.getD r35 (Int.toNat ((List.getD queue213 (Int.toNat x217) (0, 0, 0, 0)).1)) []) (Int.toNat x596) 0), (List.getD (List.getD r35 (Int.toNat ((List.getD queue213 (Int.toNat x217) (0, 0, 0, 0)).2.1)) []) (Int.toNat x596) 0))) false) = true then
        ask (in64 (x596 + 1)) <|
        part_Parts_l2 N r35 queue213 x217 m655 queue592 met595 (x596 + 1)
      else
        ask (mget met595 ((List.getD (List.getD r35 (Int.toNat ((List.getD queue213 (Int.toNat x217) (0, 0, 0, 0)).1)) []) (Int.toNat x596) 0), (List.getD (List.getD r35 (Int.toNat ((List.getD queue213 (Int.toNat x217) (0, 0, 0, 0)).2.1)) []) (Int.toNat x596) 0)) = none) <|
        ask (List.length queue592 + List.length ([((List.getD (List.getD r35 (Int.toNat ((List.getD queue213 (Int.toNat x217) (0, 0, 0, 0)).1)) []) (Int.toNat x596) 0), (List.getD (List.getD r35 (Int.toNat ((List.getD queue213 (Int.toNat x217) (0, 0, 0, 0)).2.1)) []) (Int.toNat x596) 0), x217, IntKind.u8.wrap x596)] : List (Int × Int × Int × Int)) ≤ 1000000000) <|
        ask (in64 (x596 + 1)) <|
        part_Parts_l2 N r35 queue213 x217 m655 (queue592 ++ ([((List.getD (List.getD r35 (Int.toNat ((List.getD queue213 (Int.toNat x217) (0, 0, 0, 0)).1)) []) (Int.toNat x596) 0), (List.getD (List.getD r35 (Int.toNat ((List.getD queue213 (Int.toNat x217) (0, 0, 0, 0)).2.1)) []) (Int.toNat x596) 0), x217, IntKind.u8.wrap x596)] : List (Int × Int × Int × Int))) (met595 ++ [(((List.getD (List.getD r35 (Int.toNat ((List.getD queue213 (Int.toNat x217) (0, 0, 0, 0)).1)) []) (Int.toNat x596) 0), (List.getD (List.getD r35 (Int.toNat ((List.getD queue213 (Int.toNat x217) (0, 0, 0, 0)).2.1)) []) (Int.toNat x596) 0)), true)]) (x596 + 1)
    else
      some (queue592, met595)
def part_Parts_l0 (N : Nat) (aAccept : List Bool) (r35 : List (List Int)) : Nat → (List (Int × Int × Int × Int)) → (List ((Int × Int) × Bool)) → Int → Option (Unit ⊕ ((List Int) × Bool × Int))
  | 0, _, _, _ => none
  | m422 + 1, queue213, met216, x217 =>
    if x217 < (((List.length queue213) : Nat) : Int) then
      ask (idx x217 (List.length queue213)) <|
      ask (idx ((List.getD queue213 (Int.toNat x217) (0, 0, 0, 0)).1) (List.length aAccept)) <|
      ask (idx ((List.getD queue213 (Int.toNat x217) (0, 0, 0, 0)).2.1) (List.length aAccept)) <|
      if (List.getD aAccept (Int.toNat ((List.getD queue213 (Int.toNat x217) (0, 0, 0, 0)).1)) false) = (List.getD aAccept (Int.toNat ((List.getD queue213 (Int.toNat x217) (0, 0, 0, 0)).2.1)) false) then
        ask (idx ((List.getD queue213 (Int.toNat x217) (0, 0, 0, 0)).1) (List.length r35)) <|
        Option.bind (part_Parts_l2 N r35 queue213 x217 N queue213 met216 0) fun x656 =>
        ask (in64 (x217 + 1)) <|
        part_Parts_l0 N aAccept r35 m422 x656.1 x656.2 (x217 + 1)
      else
        Option.bind (part_Parts_l1 N queue213 N ((List.getD queue213 (Int.toNat x217) (0, 0, 0, 0)).1) ((List.getD queue213 (Int.toNat x217) (0, 0, 0, 0)).2.1) ((List.getD queue213 (Int.toNat x217) (0, 0, 0, 0)).2.2.1) ((List.getD queue213 (Int.toNat x217) (0, 0, 0, 0)).2.2.2) []) fun x496 =>
        Option.bind (slices_Reverse_api_Letter_api_Letter N x496) fun r519 =>
        some (Sum.inr (r519, true, 0))
    else
      some (Sum.inl ())
def part_Parts (N : Nat) (aProps : Int) (aAccept : List Bool) (aGuard : List Int) (aNodes : List Nd) (p : Int) (q : Int) : Option ((List Int) × Bool × Int) :=
  Option.bind (part_asked N aProps aAccept aGuard aNodes ([p, q] : List Int)) fun r23 =>
  if (r23 : Int) = 0 then
    Option.bind (part_rows N aProps aAccept aGuard aNodes) fun r35 =>
    ask (key2 (p, q)) <|
    ask (mget ([] : List ((Int × Int) × Bool)) (p, q) = none) <|
    Option.bind (part_Parts_l0 N aAccept r35 N ([(p, q, -1, 0)] : List (Int × Int × Int × Int)) (([] : List ((Int × Int) × Bool)) ++ [((p, q), true)]) 0) fun x423 =>
    Sum.elim (fun x428 =>
      some ([], false, 0))
     (fun x739 =>
      some x739) x423
  else
    some ([], false, r23)
set_option maxRecDepth 100000 in
set_option maxHeartbeats 4000000 in
theorem part_Parts_calls {N : Nat} {S Fa : Nat → Prop} {w0 : World} {r : (List Int) × Bool × Int} (A1 : Option Addr) (c2 : Nat) (A5 : Option Addr) (c6 : Nat) (A9 : Option Addr) (c10 : Nat) (aProps : Int) (aAccept : List Bool) (aGuard : List Int) (aNodes : List Nd) (p : Int) (q : Int) (hk3 : List.length aAccept ≤ c2) (hk7 : List.length aGuard ≤ c6) (hk11 : List.length aNodes ≤ c10) (H : Hp S Fa w0 w0 [.ro false cBool A1 aAccept, .ro false (cInt .i64) A5 aGuard, .ro false cNode A9 aNodes]) (hP : part_Parts N aProps aAccept aGuard aNodes p q = some r) :
    Calls Try.prog 10 #[.agg #[.int .i64 aProps, .slice A1 (List.length aAccept) c2, .slice A5 (List.length aGuard) c6, .slice A9 (List.length aNodes) c10], .int .i64 p, .int .i64 q] w0 fun e w' => ∃ v, e = .returned v ∧ ∃ (A741 : Option Addr) (c742 : Nat), v = .tuple #[.slice A741 (List.length r.1) c742, .bool r.2.1, .int .i64 r.2.2] ∧ Hp S Fa w0 w' [.row true (cInt .u8) 38 A741 c742 r.1] := by
 refine enterV (n := 122) Try.func10 rfl rfl rfl ?_
 intro a E
 replace E := E.pick [(0, .agg #[.int .i64 aProps, .slice A1 (List.length aAccept) c2, .slice A5 (List.length aGuard) c6, .slice A9 (List.length aNodes) c10]), (1, .int .i64 p), (2, .int .i64 q)] ⟨rfl, rfl, rfl, trivial⟩
 rw [part_Parts] at hP
 refine wp_seq ?_
 refine wp_region_lit ?_
 refine h_box H E rfl rfl rfl ?_
 intro w14 g13 a hc15 hg17 H_ E_
 replace E := E_ _ rfl; clear E_
 replace H := H_; clear H_; try dsimp only [setn, addE, goneL] at H
 refine vr tbok 3 [] [(1, .int .i64 p), (2, .int .i64 q), (3, .pointer (some ⟨g13, 0, none⟩))] [] E (by kernel_rfl) trivial ?_
 clear E; intro a E
 refine wpList_nil ?_
 refine th_n ?_
 refine wp_seq ?_
 refine wp_seq ?_
 refine wp_region_lit ?_
 refine vr tbok 3 [.agg #[.int .i64 aProps, .slice A1 (List.length aAccept) c2, .slice A5 (List.length aGuard) c6, .slice A9 (List.length aNodes) c10]] [(1, .int .i64 p), (2, .int .i64 q), (3, .pointer (some ⟨g13, 0, none⟩)), (19, .agg #[.int .i64 aProps, .slice A1 (List.length aAccept) c2, .slice A5 (List.length aGuard) c6, .slice A9 (List.length aNodes) c10]), (20, .int .i64 p), (21, .int .i64 q)] [cellsAt w14 g13 (0) [.int .i64 aProps, .slice A1 (List.length aAccept) c2, .slice A5 (List.length aGuard) c6, .slice A9 (List.length aNodes) c10]] E (by kernel_rfl) ((H.box 3 rfl).sub 0 _ rfl) ?_
 clear E; intro a E
 refine h_buildSlice (ps := [(0, .int .i64 p), (1, .int .i64 q)]) (cs := [.int .i64 p, .int .i64 q]) H E rfl rfl tbok rfl rfl (by kernel_rfl) ?_
 intro w19 g18 a hc20 hg22 H_ E_
 replace E := E_ _ rfl; clear E_
 replace H := H_; clear H_; try dsimp only [setn, addE, goneL] at H
 replace H := H.boxRow (cInt .i64) true ([p, q] : List Int) 4 rfl (fun _ _ => ⟨_, _, rfl, rfl, ⟨_, _, rfl, rfl, rfl⟩⟩) (Nat.le_of_ble_eq_true rfl); try dsimp only [setn, addE, goneL] at H
 obtain ⟨r23, h24, hP⟩ := bind_inv hP
 obtain ⟨Fa25, Hc26, hb27⟩ := H.call [] [(0, false), (1, false), (2, false), (4, false)] rfl rfl trivial
 refine e_call E rfl rfl Try.func24 rfl rfl rfl (part_asked_calls A1 c2 A5 c6 A9 c10 (some ⟨g18, 0, none⟩) 2 aProps aAccept aGuard aNodes ([p, q] : List Int) hk3 hk7 hk11 (H.rcapx 4 rfl) Hc26 h24) ?_
 rintro v28 w29 a ⟨rfl, HR30⟩ E_
 replace E := E_ _ rfl; clear E_
 obtain ⟨H_, hc31⟩ := hb27 _ _ HR30 rfl
 replace H := H_; clear H_; try dsimp only [setn, addE, goneL] at H
 refine vr tbok 1 [] [(1, .int .i64 p), (2, .int .i64 q), (3, .pointer (some ⟨g13, 0, none⟩)), (9, .int .i64 r23)] [] E (by kernel_rfl) trivial ?_
 clear E; intro a E
 refine wpList_nil ?_
 refine th_n ?_
 refine wp_seq ?_
 refine wp_region_lit ?_
 refine vr tbok 2 [] [(1, .int .i64 p), (2, .int .i64 q), (3, .pointer (some ⟨g13, 0, none⟩)), (9, .int .i64 r23), (25, .bool ((r23 : Int) != 0))] [] E (by kernel_rfl) trivial ?_
 clear E; intro a E
 refine wpList_nil ?_
 refine th_n ?_
 refine E.cases (t := 25) rfl (fun hb_ E_ => ?_) (fun hb_ E_ => ?_)
 ·
  replace E := E_; clear E_
  have h32 : ¬ ((r23 : Int) = 0) := bne_iff_ne.1 hb_
  clear hb_; replace hP := ite_f h32 hP
  refine c_true E rfl ?_
  refine wp_seq ?_
  refine wp_region_lit ?_
  refine vr tbok 4 [] [(6, .slice none 0 0), (7, .bool false), (8, .int .i64 r23)] [] E (by kernel_rfl) trivial ?_
  clear E; intro a E
  refine wpList_nil ?_
  refine th_n ?_
  refine wp_ret ?_
  refine th_ret ?_
  replace H := H.nilrow (cInt .u8) 38; try dsimp only [setn, addE, goneL] at H
  obtain rfl := Option.some.inj hP
  refine ret3 E rfl rfl rfl rfl ?_
  exact ⟨_, rfl, none, 0, rfl, H.sel [5] rfl⟩
 replace E := E_; clear E_
 have h34 : (r23 : Int) = 0 := bne_eq_false_iff_eq.1 hb_
 clear hb_; replace hP := ite_t h34 hP
 refine c_false E rfl ?_
 refine wp_skip ?_
 refine th_n ?_
 refine wp_seq ?_
 refine wp_region_lit ?_
 refine vr tbok 1 [.agg #[.int .i64 aProps, .slice A1 (List.length aAccept) c2, .slice A5 (List.length aGuard) c6, .slice A9 (List.length aNodes) c10]] [(1, .int .i64 p), (2, .int .i64 q), (3, .pointer (some ⟨g13, 0, none⟩)), (27, .agg #[.int .i64 aProps, .slice A1 (List.length aAccept) c2, .slice A5 (List.length aGuard) c6, .slice A9 (List.length aNodes) c10])] [cellsAt w29 g13 (0) [.int .i64 aProps, .slice A1 (List.length aAccept) c2, .slice A5 (List.length aGuard) c6, .slice A9 (List.length aNodes) c10]] E (by kernel_rfl) ((H.box 3 rfl).sub 0 _ rfl) ?_
 clear E; intro a E
 obtain ⟨r35, h36, hP⟩ := bind_inv hP
 obtain ⟨Fa37, Hc38, hb39⟩ := H.call [] [(0, false), (1, false), (2, false)] rfl rfl trivial
 refine e_call E rfl rfl Try.func26 rfl rfl rfl (part_rows_calls A1 c2 A5 c6 A9 c10 aProps aAccept aGuard aNodes hk3 hk7 hk11 Hc38 h36) ?_
 rintro v40 w41 a ⟨A44, c45, rfl, HR42⟩ E_
 replace E := E_ _ rfl; clear E_
 obtain ⟨H_, hc43⟩ := hb39 _ _ HR42 rfl
 replace H := H_; clear H_; try dsimp only [setn, addE, goneL] at H
 refine vr tbok 1 [] [(1, .int .i64 p), (2, .int .i64 q), (3, .pointer (some ⟨g13, 0, none⟩)), (10, .slice A44 (List.length r35) c45)] [] E (by kernel_rfl) trivial ?_
 clear E; intro a E
 refine wpList_nil ?_
 refine th_n ?_
 refine wp_seq ?_
 refine wp_region_lit ?_
 refine vr tbok 2 [] [(1, .int .i64 p), (2, .int .i64 q), (3, .pointer (some ⟨g13, 0, none⟩)), (10, .slice A44 (List.length r35) c45), (29, .int .i64 p), (30, .int .i64 q)] [] E (by kernel_rfl) trivial ?_
 clear E; intro a E
 refine e_build (ps := [(0, .int .i64 p), (1, .int .i64 q), (2, .int .i64 (-1))]) (v := .agg #[.int .i64 p, .int .i64 q, .int .i64 (-1), .int .u8 0]) E rfl rfl tbok rfl (by kernel_rfl) rfl ?_
 clear E; intro a E
 refine h_buildSlice (ps := [(0, .agg #[.int .i64 p, .int .i64 q, .int .i64 (-1), .int .u8 0])]) (cs := [.int .i64 p, .int .i64 q, .int .i64 (-1), .int .u8 0]) H E rfl rfl tbok rfl rfl (by kernel_rfl) ?_
 intro w48 g47 a hc49 hg51 H_ E_
 replace E := E_ _ rfl; clear E_
 replace H := H_; clear H_; try dsimp only [setn, addE, goneL] at H
 refine vr tbok 1 [] [(1, .int .i64 p), (2, .int .i64 q), (3, .pointer (some ⟨g13, 0, none⟩)), (10, .slice A44 (List.length r35) c45), (11, .slice (some ⟨g47, 0, none⟩) 1 1)] [] E (by kernel_rfl) trivial ?_
 clear E; intro a E
 refine wpList_nil ?_
 refine th_n ?_
 refine wp_seq ?_
 refine wp_region_lit ?_
 refine h_makeMap (P := Try.prog) (k0 := 64) H E rfl rfl ?_
 intro w53 g52 a hc54 hg55 H_ E_
 replace E := E_ _ rfl; clear E_
 replace H := H_; clear H_; try dsimp only [setn, addE, goneL] at H
 refine vr tbok 2 [] [(3, .pointer (some ⟨g13, 0, none⟩)), (10, .slice A44 (List.length r35) c45), (11, .slice (some ⟨g47, 0, none⟩) 1 1), (33, .map (some g52)), (34, .int .i64 p), (35, .int .i64 q)] [] E (by kernel_rfl) trivial ?_
 clear E; intro a E
 refine e_build (ps := [(0, .int .i64 p), (1, .int .i64 q)]) (v := .agg #[.int .i64 p, .int .i64 q]) E rfl rfl tbok rfl (by kernel_rfl) rfl ?_
 clear E; intro a E
 obtain ⟨g57, hP⟩ := ask_inv hP
 obtain ⟨g58, hP⟩ := ask_inv hP
 refine h_insert (fun x_ : Int × Int => .agg #[.int .i64 x_.1, .int .i64 x_.2]) (fun u_ : Bool => .bool u_) (p, q) true H 7 rfl E rfl rfl tbok rfl (kArr2 Try.underlying64 Try.underlying3 (by kernel_rfl) (by kernel_rfl) (by kernel_rfl) (by kernel_rfl) (Maps.Keyed.of_law (deep_law (m := 3) (by decide) (by kernel_rfl) (by kernel_rfl) (by kernel_rfl)))) rfl rfl rfl g57 g58 rfl ?_
 clear E; intro w59 a hc60 H_ E
 replace H := H_; clear H_; try dsimp only [setn, addE, goneL] at H
 refine vr tbok 2 [] [(3, .pointer (some ⟨g13, 0, none⟩)), (10, .slice A44 (List.length r35) c45), (11, .slice (some ⟨g47, 0, none⟩) 1 1), (12, .map (some g52))] [] E (by kernel_rfl) trivial ?_
 clear E; intro a E
 refine wpList_nil ?_
 refine th_n ?_
 refine wp_seq ?_
 refine wp_seq ?_
 refine wp_region_lit ?_
 refine vr tbok 1 [] [(3, .pointer (some ⟨g13, 0, none⟩)), (10, .slice A44 (List.length r35) c45), (11, .slice (some ⟨g47, 0, none⟩) 1 1), (12, .map (some g52)), (13, .int .i64 0)] [] E (by kernel_rfl) trivial ?_
 clear E; intro a E
 refine wpList_nil ?_
 refine th_n ?_
 refine wp_block ?_
 obtain ⟨x423, hL424, hK425⟩ := bind_inv hP
 clear hP
 replace H := H.boxRow cS61 true ([(p, q, -1, 0)] : List (Int × Int × Int × Int)) 6 rfl (fun _ _ => ⟨_, _, rfl, rfl, rfl⟩) (Nat.le_of_ble_eq_true rfl); try dsimp only [setn, addE, goneL] at H
 replace H := H.rowx 6 rfl; try dsimp only [setn, addE, goneL] at H
 refine loop_cut (fun i_ a w_ => (i_ = 0 ∧ ∃ (x428 : Unit), Fr a 122 [] ∧ Hp S Fa w0 w_ [] ∧ x423 = Sum.inl x428)) ?_ ?_
 ·
  refine loopV (fun m427 a w426 => ∃ (queue213 : List (Int × Int × Int × Int)) (met216 : List ((Int × Int) × Bool)) (x217 : Int), ∃ (A214 : Option Addr) (c215 : Nat), Fr a 122 [(3, .pointer (some ⟨g13, 0, none⟩)), (10, .slice A44 (List.length r35) c45), (11, .slice A214 (List.length queue213) c215), (12, .map (some g52)), (13, .int .i64 x217)] ∧ Hp S Fa w0 w426 [.ro false cBool A1 aAccept, .ro false (cInt .i64) A5 aGuard, .ro false cNode A9 aNodes, .box g13 26 [.int .i64 aProps, .slice A1 (List.length aAccept) c2, .slice A5 (List.length aGuard) c6, .slice A9 (List.length aNodes) c10], .row true (cSl (cInt .i64)) 23 A44 c45 r35, .row true cS61 62 A214 c215 queue213, .mp Try.prog 64 g52 (List.map (fun p_ => ((fun x_ : Int × Int => .agg #[.int .i64 x_.1, .int .i64 x_.2]) p_.1, (fun u_ : Bool => .bool u_) p_.2)) met216)] ∧ part_Parts_l0 N aAccept r35 m427 queue213 met216 x217 = some x423) N ?_ ?_
  ·
   exact ⟨([(p, q, -1, 0)] : List (Int × Int × Int × Int)), ([] : List ((Int × Int) × Bool)) ++ [((p, q), true)], 0, (some ⟨g47, 0, none⟩), (List.length ([(p, q, -1, 0)] : List (Int × Int × Int × Int))), E.pick _ ⟨rfl, rfl, rfl, rfl, rfl, trivial⟩, H.sel [0, 1, 2, 3, 5, 6, 7] rfl, hL424⟩
  clear E H hL424; intro m427 a w426 hI_
  obtain ⟨queue213, met216, x217, A214, c215, E, H, hP⟩ := hI_
  obtain ⟨m422, rfl⟩ : ∃ q_, m427 = q_ + 1 := by cases m427 with | zero => rw [part_Parts_l0] at hP; cases hP | succ q_ => exact ⟨q_, rfl⟩
  rw [part_Parts_l0] at hP
  refine wp_seq ?_
  refine wp_seq ?_
  refine wp_region_lit ?_
  refine vr tbok 4 [] [(3, .pointer (some ⟨g13, 0, none⟩)), (10, .slice A44 (List.length r35) c45), (11, .slice A214 (List.length queue213) c215), (12, .map (some g52)), (13, .int .i64 x217), (41, .bool (decide (x217 < (((List.length queue213) : Nat) : Int))))] [] E (by kernel_rfl) trivial ?_
  clear E; intro a E
  refine wpList_nil ?_
  refine th_n ?_
  refine E.cases (t := 41) rfl (fun hb_ E_ => ?_) (fun hb_ E_ => ?_)
  ·
   replace E := E_; clear E_
   have h429 : x217 < (((List.length queue213) : Nat) : Int) := of_decide_eq_true hb_
   clear hb_; replace hP := ite_t h429 hP
   refine c_true E rfl ?_
   refine wp_skip ?_
   refine th_n ?_
   refine wp_seq ?_
   refine wp_block ?_
   refine wp_seq ?_
   refine wp_region_lit ?_
   obtain ⟨g430, hP⟩ := ask_inv hP
   obtain ⟨b431, e_b431⟩ := H.raddr 5 rfl (idx_pos g430)
   subst e_b431
   refine vr tbok 4 [.agg #[.int .i64 ((List.getD queue213 (Int.toNat x217) (0, 0, 0, 0)).1), .int .i64 ((List.getD queue213 (Int.toNat x217) (0, 0, 0, 0)).2.1), .int .i64 ((List.getD queue213 (Int.toNat x217) (0, 0, 0, 0)).2.2.1), .int .u8 ((List.getD queue213 (Int.toNat x217) (0, 0, 0, 0)).2.2.2)]] [(3, .pointer (some ⟨g13, 0, none⟩)), (10, .slice A44 (List.length r35) c45), (11, .slice (some ⟨b431, 0, none⟩) (List.length queue213) c215), (12, .map (some g52)), (13, .int .i64 x217), (47, .agg #[.int .i64 ((List.getD queue213 (Int.toNat x217) (0, 0, 0, 0)).1), .int .i64 ((List.getD queue213 (Int.toNat x217) (0, 0, 0, 0)).2.1), .int .i64 ((List.getD queue213 (Int.toNat x217) (0, 0, 0, 0)).2.2.1), .int .u8 ((List.getD queue213 (Int.toNat x217) (0, 0, 0, 0)).2.2.2)])] [0 ≤ x217 ∧ x217 < (((List.length queue213) : Nat) : Int), cellsAt w426 b431 (0 + (Int.toNat x217) * 4) [.int .i64 ((List.getD queue213 (Int.toNat x217) (0, 0, 0, 0)).1), .int .i64 ((List.getD queue213 (Int.toNat x217) (0, 0, 0, 0)).2.1), .int .i64 ((List.getD queue213 (Int.toNat x217) (0, 0, 0, 0)).2.2.1), .int .u8 ((List.getD queue213 (Int.toNat x217) (0, 0, 0, 0)).2.2.2)]] E (by kernel_rfl) ⟨g430, Rds.atP (H.rd 5 rds_row) (0, 0, 0, 0) g430⟩ ?_
   clear E; intro a E
   refine h_alloc H E rfl rfl tbok rfl ?_
   intro w434 g433 a hc435 hg437 H_ E_
   replace E := E_ _ rfl; clear E_
   replace H := H_; clear H_; try dsimp only [setn, addE, goneL] at H
   refine h_store (g := g433) (off := 0) H 7 rfl E rfl rfl rfl rfl tbok rfl rfl rfl rfl rfl ?_
   clear E; intro w438 a hc439 H_ E
   replace H := H_; clear H_; try dsimp only [setn, addE, goneL] at H
   refine wpList_nil ?_
   refine th_n ?_
   refine wp_seq ?_
   refine wp_seq ?_
   obtain ⟨g440, hP⟩ := ask_inv hP
   obtain ⟨b441, o442, e_b441⟩ := (H.rd 0 rds_ro).addr (idx_pos g440)
   subst e_b441
   obtain ⟨g443, hP⟩ := ask_inv hP
   have HR447 := H
   refine dr_start (S := fun w_ => Chg (atL []) w438 w_) (by kernel_rfl) ?_
   intro w444 hc445
   have HS446 : Chg (atL []) w438 w444 := hc445.mono (fun _ _ h_ => h_.elim)
   replace H := H.ext hc445
   refine dr tbok (by kernel_rfl) [0, 1, 2, 3, 4, 5, 6, 7, 8, 9, 10, 11, 12] [.slice (some ⟨b441, o442, none⟩) (List.length aAccept) c2, .int .i64 ((List.getD queue213 (Int.toNat x217) (0, 0, 0, 0)).1), .bool (List.getD aAccept (Int.toNat ((List.getD queue213 (Int.toNat x217) (0, 0, 0, 0)).1)) false), .slice (some ⟨b441, o442, none⟩) (List.length aAccept) c2, .int .i64 ((List.getD queue213 (Int.toNat x217) (0, 0, 0, 0)).2.1), .bool (List.getD aAccept (Int.toNat ((List.getD queue213 (Int.toNat x217) (0, 0, 0, 0)).2.1)) false)] [(3, .pointer (some ⟨g13, 0, none⟩)), (10, .slice A44 (List.length r35) c45), (11, .slice (some ⟨b431, 0, none⟩) (List.length queue213) c215), (12, .map (some g52)), (13, .int .i64 x217), (14, .pointer (some ⟨g433, 0, none⟩)), (60, .bool (!((List.getD aAccept (Int.toNat ((List.getD queue213 (Int.toNat x217) (0, 0, 0, 0)).1)) false) == (List.getD aAccept (Int.toNat ((List.getD queue213 (Int.toNat x217) (0, 0, 0, 0)).2.1)) false))))] (fun w_ => [World.cell? w_ ⟨g13, 1, none⟩ = some (.slice (some ⟨b441, o442, none⟩) (List.length aAccept) c2), World.cell? w_ ⟨g433, 0, none⟩ = some (.int .i64 ((List.getD queue213 (Int.toNat x217) (0, 0, 0, 0)).1)), 0 ≤ ((List.getD queue213 (Int.toNat x217) (0, 0, 0, 0)).1) ∧ ((List.getD queue213 (Int.toNat x217) (0, 0, 0, 0)).1) < (((List.length aAccept) : Nat) : Int), World.cell? w_ ⟨b441, o442 + (Int.toNat ((List.getD queue213 (Int.toNat x217) (0, 0, 0, 0)).1)) * 1, none⟩ = some (.bool (List.getD aAccept (Int.toNat ((List.getD queue213 (Int.toNat x217) (0, 0, 0, 0)).1)) false)), World.cell? w_ ⟨g13, 1, none⟩ = some (.slice (some ⟨b441, o442, none⟩) (List.length aAccept) c2), World.cell? w_ ⟨g433, 1, none⟩ = some (.int .i64 ((List.getD queue213 (Int.toNat x217) (0, 0, 0, 0)).2.1)), 0 ≤ ((List.getD queue213 (Int.toNat x217) (0, 0, 0, 0)).2.1) ∧ ((List.getD queue213 (Int.toNat x217) (0, 0, 0, 0)).2.1) < (((List.length aAccept) : Nat) : Int), World.cell? w_ ⟨b441, o442 + (Int.toNat ((List.getD queue213 (Int.toNat x217) (0, 0, 0, 0)).2.1)) * 1, none⟩ = some (.bool (List.getD aAccept (Int.toNat ((List.getD queue213 (Int.toNat x217) (0, 0, 0, 0)).2.1)) false))]) 0 E (fun _ _ => by kernel_rfl) (fun w_ hS_ => ⟨(HR447.boxk [] hS_ 3 rfl rfl).cell (j := 1) rfl, (HR447.boxk [] hS_ 7 rfl rfl).cell (j := 0) rfl, g440, Rds.at1 (HR447.rdk [] hS_ 0 rds_ro rfl) false g440, (HR447.boxk [] hS_ 3 rfl rfl).cell (j := 1) rfl, (HR447.boxk [] hS_ 7 rfl rfl).cell (j := 1) rfl, g443, Rds.at1 (HR447.rdk [] hS_ 0 rds_ro rfl) false g443⟩) (by kernel_rfl) HS446 ?_
   clear E; intro a E
   refine dr_done (by kernel_rfl) ?_
   clear HS446 HR447
   refine th_n ?_
   refine E.cases (t := 60) rfl (fun hb_ E_ => ?_) (fun hb_ E_ => ?_)
   ·
    replace E := E_; clear E_
    have h448 : ¬ ((List.getD aAccept (Int.toNat ((List.getD queue213 (Int.toNat x217) (0, 0, 0, 0)).1)) false) = (List.getD aAccept (Int.toNat ((List.getD queue213 (Int.toNat x217) (0, 0, 0, 0)).2.1)) false)) := (by simpa using hb_)
    clear hb_; replace hP := ite_f h448 hP
    refine c_true E rfl ?_
    refine wp_seq ?_
    refine wp_region_lit ?_
    refine vr tbok 1 [] [(11, .slice (some ⟨b431, 0, none⟩) (List.length queue213) c215), (14, .pointer (some ⟨g433, 0, none⟩)), (15, .slice none 0 0)] [] E (by kernel_rfl) trivial ?_
    clear E; intro a E
    refine wpList_nil ?_
    refine th_n ?_
    refine wp_seq ?_
    refine wp_block ?_
    obtain ⟨x496, hL497, hK498⟩ := bind_inv hP
    clear hP
    replace H := H.nilrow (cInt .u8) 38; try dsimp only [setn, addE, goneL] at H
    refine loop_cut (fun i_ a w_ => (i_ = 2 ∧ ∃ (x502 : List Int), ∃ (A493 : Option Addr) (c494 : Nat), Fr a 122 [(15, .slice A493 (List.length x502) c494)] ∧ Hp S Fa w0 w_ [.row true (cInt .u8) 38 A493 c494 x502] ∧ x496 = x502)) ?_ ?_
    ·
     refine loopV (fun m501 a w500 => ∃ (x466 : Int) (x467 : Int) (x468 : Int) (x469 : Int) (t471 : List Int), ∃ (A472 : Option Addr) (c473 : Nat), Fr a 122 [(11, .slice (some ⟨b431, 0, none⟩) (List.length queue213) c215), (14, .pointer (some ⟨g433, 0, none⟩)), (15, .slice A472 (List.length t471) c473)] ∧ Hp S Fa w0 w500 [.row true cS61 62 (some ⟨b431, 0, none⟩) c215 queue213, .box g433 62 [.int .i64 x466, .int .i64 x467, .int .i64 x468, .int .u8 x469], .row true (cInt .u8) 38 A472 c473 t471] ∧ part_Parts_l1 N queue213 m501 x466 x467 x468 x469 t471 = some x496) N ?_ ?_
     ·
      exact ⟨(List.getD queue213 (Int.toNat x217) (0, 0, 0, 0)).1, (List.getD queue213 (Int.toNat x217) (0, 0, 0, 0)).2.1, (List.getD queue213 (Int.toNat x217) (0, 0, 0, 0)).2.2.1, (List.getD queue213 (Int.toNat x217) (0, 0, 0, 0)).2.2.2, [], none, 0, E.pick _ ⟨rfl, rfl, rfl, trivial⟩, H.sel [5, 7, 8] rfl, hL497⟩
     clear E H hL497; intro m501 a w500 hI_
     obtain ⟨x466, x467, x468, x469, t471, A472, c473, E, H, hP⟩ := hI_
     obtain ⟨m495, rfl⟩ : ∃ q_, m501 = q_ + 1 := by cases m501 with | zero => rw [part_Parts_l1] at hP; cases hP | succ q_ => exact ⟨q_, rfl⟩
     rw [part_Parts_l1] at hP
     refine wp_seq ?_
     refine wp_seq ?_
     refine wp_region_lit ?_
     refine vr tbok 3 [.int .i64 x468] [(11, .slice (some ⟨b431, 0, none⟩) (List.length queue213) c215), (14, .pointer (some ⟨g433, 0, none⟩)), (15, .slice A472 (List.length t471) c473), (63, .bool (decide (0 ≤ x468)))] [World.cell? w500 ⟨g433, 2, none⟩ = some (.int .i64 x468)] E (by kernel_rfl) ((H.box 1 rfl).cell (j := 2) rfl) ?_
     clear E; intro a E
     refine wpList_nil ?_
     refine th_n ?_
     refine E.cases (t := 63) rfl (fun hb_ E_ => ?_) (fun hb_ E_ => ?_)
     ·
      replace E := E_; clear E_
      have h503 : 0 ≤ x468 := of_decide_eq_true hb_
      clear hb_; replace hP := ite_t h503 hP
      refine c_true E rfl ?_
      refine wp_skip ?_
      refine th_n ?_
      refine wp_seq ?_
      refine wp_block ?_
      refine wp_region_lit ?_
      refine vr tbok 3 [.int .u8 x469] [(11, .slice (some ⟨b431, 0, none⟩) (List.length queue213) c215), (14, .pointer (some ⟨g433, 0, none⟩)), (69, .slice A472 (List.length t471) c473), (71, .int .u8 x469)] [World.cell? w500 ⟨g433, 3, none⟩ = some (.int .u8 x469)] E (by kernel_rfl) ((H.box 1 rfl).cell (j := 3) rfl) ?_
      clear E; intro a E
      refine h_buildSlice (ps := [(0, .int .u8 x469)]) (cs := [.int .u8 x469]) H E rfl rfl tbok rfl rfl (by kernel_rfl) ?_
      intro w505 g504 a hc506 hg508 H_ E_
      replace E := E_ _ rfl; clear E_
      replace H := H_; clear H_; try dsimp only [setn, addE, goneL] at H
      obtain ⟨g509, hP⟩ := ask_inv hP
      refine h_append (cInt .u8) (xs := t471) (ys := ([x469] : List Int)) (0 : Int) H 2 rfl E rfl rfl tbok rfl rfl rfl rfl rfl (fun _ _ => rfl) rfl rfl (fun _ HF_ => HF_.srcB 3 rfl (⟨_, _, rfl, rfl, rfl⟩)) g509 ?_
      intro w510 A511 c512 a hc513 hA514 H_ E_
      replace E := E_ _ rfl; clear E_
      replace H := H_; clear H_; try dsimp only [setn, addE, goneL] at H
      refine vr tbok 1 [] [(11, .slice (some ⟨b431, 0, none⟩) (List.length queue213) c215), (14, .pointer (some ⟨g433, 0, none⟩)), (15, .slice A511 (List.length (t471 ++ ([x469] : List Int))) c512)] [] E (by kernel_rfl) trivial ?_
      clear E; intro a E
      refine wpList_nil ?_
      refine bl_n ?_
      refine th_n ?_
      refine wp_region_lit ?_
      obtain ⟨g515, hP⟩ := ask_inv hP
      refine vr tbok 5 [.int .i64 x468, .agg #[.int .i64 ((List.getD queue213 (Int.toNat x468) (0, 0, 0, 0)).1), .int .i64 ((List.getD queue213 (Int.toNat x468) (0, 0, 0, 0)).2.1), .int .i64 ((List.getD queue213 (Int.toNat x468) (0, 0, 0, 0)).2.2.1), .int .u8 ((List.getD queue213 (Int.toNat x468) (0, 0, 0, 0)).2.2.2)]] [(11, .slice (some ⟨b431, 0, none⟩) (List.length queue213) c215), (14, .pointer (some ⟨g433, 0, none⟩)), (15, .slice A511 (List.length (t471 ++ ([x469] : List Int))) c512), (68, .agg #[.int .i64 ((List.getD queue213 (Int.toNat x468) (0, 0, 0, 0)).1), .int .i64 ((List.getD queue213 (Int.toNat x468) (0, 0, 0, 0)).2.1), .int .i64 ((List.getD queue213 (Int.toNat x468) (0, 0, 0, 0)).2.2.1), .int .u8 ((List.getD queue213 (Int.toNat x468) (0, 0, 0, 0)).2.2.2)])] [World.cell? w510 ⟨g433, 2, none⟩ = some (.int .i64 x468), 0 ≤ x468 ∧ x468 < (((List.length queue213) : Nat) : Int), cellsAt w510 b431 (0 + (Int.toNat x468) * 4) [.int .i64 ((List.getD queue213 (Int.toNat x468) (0, 0, 0, 0)).1), .int .i64 ((List.getD queue213 (Int.toNat x468) (0, 0, 0, 0)).2.1), .int .i64 ((List.getD queue213 (Int.toNat x468) (0, 0, 0, 0)).2.2.1), .int .u8 ((List.getD queue213 (Int.toNat x468) (0, 0, 0, 0)).2.2.2)]] E (by kernel_rfl) ⟨(H.box 1 rfl).cell (j := 2) rfl, g515, Rds.atP (H.rd 0 rds_row) (0, 0, 0, 0) g515⟩ ?_
      clear E; intro a E
      refine h_store (g := g433) (off := 0) H 1 rfl E rfl rfl rfl rfl tbok rfl rfl rfl rfl rfl ?_
      clear E; intro w516 a hc517 H_ E
      replace H := H_; clear H_; try dsimp only [setn, addE, goneL] at H
      refine wpList_nil ?_
      exact th_n ⟨m495, Nat.lt_succ_self _, (List.getD queue213 (Int.toNat x468) (0, 0, 0, 0)).1, (List.getD queue213 (Int.toNat x468) (0, 0, 0, 0)).2.1, (List.getD queue213 (Int.toNat x468) (0, 0, 0, 0)).2.2.1, (List.getD queue213 (Int.toNat x468) (0, 0, 0, 0)).2.2.2, t471 ++ ([x469] : List Int), A511, c512, E.pick _ ⟨rfl, rfl, rfl, trivial⟩, H.sel [0, 1, 2] rfl, hP⟩
     replace E := E_; clear E_
     have h518 : ¬ (0 ≤ x468) := of_decide_eq_false hb_
     clear hb_; replace hP := ite_f h518 hP
     refine c_false E rfl ?_
     refine wp_exit ?_
     refine th_exit ?_
     have hx_ := Option.some.inj hP
     refine th_exit (.inl ⟨2, rfl, ?_⟩)
     exact ⟨rfl, t471, A472, c473, E.pick _ ⟨rfl, trivial⟩, H.sel [2] rfl, hx_.symm⟩
    clear E H hL497; intro i_ a w500 hM_
    obtain ⟨rfl, x502, A493, c494, E, H, hx_⟩ := hM_
    subst hx_; have hP := hK498; clear hK498
    refine bl_hit ?_
    refine th_n ?_
    refine wp_seq ?_
    refine wp_region_lit ?_
    refine vr tbok 1 [] [(15, .slice A493 (List.length x496) c494), (74, .slice A493 (List.length x496) c494)] [] E (by kernel_rfl) trivial ?_
    clear E; intro a E
    obtain ⟨r519, h520, hP⟩ := bind_inv hP
    obtain ⟨Fa521, Hc522, hb523⟩ := H.call [0] [] rfl rfl ⟨flat_plain, trivial⟩
    refine e_call E rfl rfl Try.func27 rfl rfl rfl (slices_Reverse_api_Letter_api_Letter_calls A493 c494 x496  Hc522 h520) ?_
    rintro v524 w525 a ⟨rfl, hl528, HR526⟩ E_
    replace E := E_ _ rfl; clear E_
    obtain ⟨H_, hc527⟩ := hb523 _ _ HR526 rfl
    replace H := H_; clear H_; try dsimp only [setn, addE, goneL] at H
    have hn530 : (List.length x496) = (List.length (r519)) := hl528.symm
    replace E := E.same (t := 15) (u := .slice A493 (List.length (r519)) c494) rfl (congrArg (fun n_ => Value.slice A493 n_ c494) hn530)
    replace E := E.same (t := 74) (u := .slice A493 (List.length (r519)) c494) rfl (congrArg (fun n_ => Value.slice A493 n_ c494) hn530)
    refine wpList_nil ?_
    refine th_n ?_
    refine wp_seq ?_
    refine wp_region_lit ?_
    refine vr tbok 4 [] [(6, .slice A493 (List.length (r519)) c494), (7, .bool true), (8, .int .i64 0)] [] E (by kernel_rfl) trivial ?_
    clear E; intro a E
    refine wpList_nil ?_
    refine th_n ?_
    refine wp_ret ?_
    refine th_ret ?_
    refine bl_ret ?_
    refine th_ret ?_
    refine th_ret ?_
    refine .inr ⟨rfl, ?_⟩
    refine bl_ret ?_
    refine th_ret ?_
    have hx_ := Option.some.inj hP; subst hx_
    have hP : some ((r519, true, 0)) = some r := hK425
    obtain rfl := Option.some.inj hP
    refine ret3 E rfl rfl rfl rfl ?_
    exact ⟨_, rfl, A493, c494, rfl, H.sel [1] rfl⟩
   replace E := E_; clear E_
   have h531 : (List.getD aAccept (Int.toNat ((List.getD queue213 (Int.toNat x217) (0, 0, 0, 0)).1)) false) = (List.getD aAccept (Int.toNat ((List.getD queue213 (Int.toNat x217) (0, 0, 0, 0)).2.1)) false) := (by simpa using hb_)
   clear hb_; replace hP := ite_t h531 hP
   refine c_false E rfl ?_
   refine wp_skip ?_
   refine th_n ?_
   refine wp_seq ?_
   refine wp_region_lit ?_
   obtain ⟨g532, hP⟩ := ask_inv hP
   obtain ⟨b533, e_b533⟩ := H.raddr 4 rfl (idx_pos g532)
   subst e_b533
   obtain ⟨A535, c536, hl537, hk538, H⟩ := H.subSl 4 true (el_row rfl) g532
   try dsimp only [addE] at H
   refine vr tbok 7 [.int .i64 ((List.getD queue213 (Int.toNat x217) (0, 0, 0, 0)).1), .slice A535 (List.length (List.getD r35 (Int.toNat ((List.getD queue213 (Int.toNat x217) (0, 0, 0, 0)).1)) [])) c536] [(3, .pointer (some ⟨g13, 0, none⟩)), (10, .slice (some ⟨b533, 0, none⟩) (List.length r35) c45), (11, .slice (some ⟨b431, 0, none⟩) (List.length queue213) c215), (12, .map (some g52)), (13, .int .i64 x217), (14, .pointer (some ⟨g433, 0, none⟩)), (82, .int .i64 (((List.length (List.getD r35 (Int.toNat ((List.getD queue213 (Int.toNat x217) (0, 0, 0, 0)).1)) [])) : Nat) : Int)), (83, .int .i64 0)] [World.cell? w444 ⟨g433, 0, none⟩ = some (.int .i64 ((List.getD queue213 (Int.toNat x217) (0, 0, 0, 0)).1)), 0 ≤ ((List.getD queue213 (Int.toNat x217) (0, 0, 0, 0)).1) ∧ ((List.getD queue213 (Int.toNat x217) (0, 0, 0, 0)).1) < (((List.length r35) : Nat) : Int), World.cell? w444 ⟨b533, 0 + (Int.toNat ((List.getD queue213 (Int.toNat x217) (0, 0, 0, 0)).1)) * 1, none⟩ = some (.slice A535 (List.length (List.getD r35 (Int.toNat ((List.getD queue213 (Int.toNat x217) (0, 0, 0, 0)).1)) [])) c536)] E (by kernel_rfl) ⟨(H.box 7 rfl).cell (j := 0) rfl, g532, hl537⟩ ?_
   clear E; intro a E
   refine wpList_nil ?_
   refine th_n ?_
   refine wp_block ?_
   obtain ⟨x656, hL657, hK658⟩ := bind_inv hP
   clear hP
   refine loop_cut (fun i_ a w_ => (i_ = 4 ∧ ∃ (x661 : (List (Int × Int × Int × Int)) × (List ((Int × Int) × Bool))), ∃ (A652 : Option Addr) (c653 : Nat), Fr a 122 [(3, .pointer (some ⟨g13, 0, none⟩)), (10, .slice (some ⟨b533, 0, none⟩) (List.length r35) c45), (11, .slice A652 (List.length x661.1) c653), (12, .map (some g52)), (13, .int .i64 x217)] ∧ Hp S Fa w0 w_ [.ro false cBool (some ⟨b441, o442, none⟩) aAccept, .ro false (cInt .i64) A5 aGuard, .ro false cNode A9 aNodes, .box g13 26 [.int .i64 aProps, .slice (some ⟨b441, o442, none⟩) (List.length aAccept) c2, .slice A5 (List.length aGuard) c6, .slice A9 (List.length aNodes) c10], .row true (cSl (cInt .i64)) 23 (some ⟨b533, 0, none⟩) c45 r35, .row true cS61 62 A652 c653 x661.1, .mp Try.prog 64 g52 (List.map (fun p_ => ((fun x_ : Int × Int => .agg #[.int .i64 x_.1, .int .i64 x_.2]) p_.1, (fun u_ : Bool => .bool u_) p_.2)) x661.2)] ∧ x656 = x661)) ?_ ?_
   ·
    refine loopV (fun m660 a w659 => ∃ (queue592 : List (Int × Int × Int × Int)) (met595 : List ((Int × Int) × Bool)) (x596 : Int), ∃ (A593 : Option Addr) (c594 : Nat), Fr a 122 [(3, .pointer (some ⟨g13, 0, none⟩)), (10, .slice (some ⟨b533, 0, none⟩) (List.length r35) c45), (11, .slice A593 (List.length queue592) c594), (12, .map (some g52)), (13, .int .i64 x217), (14, .pointer (some ⟨g433, 0, none⟩)), (82, .int .i64 (((List.length (List.getD r35 (Int.toNat ((List.getD queue213 (Int.toNat x217) (0, 0, 0, 0)).1)) [])) : Nat) : Int)), (83, .int .i64 x596)] ∧ Hp S Fa w0 w659 [.ro false cBool (some ⟨b441, o442, none⟩) aAccept, .ro false (cInt .i64) A5 aGuard, .ro false cNode A9 aNodes, .box g13 26 [.int .i64 aProps, .slice (some ⟨b441, o442, none⟩) (List.length aAccept) c2, .slice A5 (List.length aGuard) c6, .slice A9 (List.length aNodes) c10], .row true (cSl (cInt .i64)) 23 (some ⟨b533, 0, none⟩) c45 r35, .row true cS61 62 A593 c594 queue592, .mp Try.prog 64 g52 (List.map (fun p_ => ((fun x_ : Int × Int => .agg #[.int .i64 x_.1, .int .i64 x_.2]) p_.1, (fun u_ : Bool => .bool u_) p_.2)) met595), .box g433 62 [.int .i64 ((List.getD queue213 (Int.toNat x217) (0, 0, 0, 0)).1), .int .i64 ((List.getD queue213 (Int.toNat x217) (0, 0, 0, 0)).2.1), .int .i64 ((List.getD queue213 (Int.toNat x217) (0, 0, 0, 0)).2.2.1), .int .u8 ((List.getD queue213 (Int.toNat x217) (0, 0, 0, 0)).2.2.2)]] ∧ part_Parts_l2 N r35 queue213 x217 m660 queue592 met595 x596 = some x656) N ?_ ?_
    ·
     exact ⟨queue213, met216, 0, (some ⟨b431, 0, none⟩), c215, E.pick _ ⟨rfl, rfl, rfl, rfl, rfl, rfl, rfl, rfl, trivial⟩, H.sel [0, 1, 2, 3, 4, 5, 6, 7] rfl, hL657⟩
    clear E H hL657; intro m660 a w659 hI_
    obtain ⟨queue592, met595, x596, A593, c594, E, H, hP⟩ := hI_
    obtain ⟨m655, rfl⟩ : ∃ q_, m660 = q_ + 1 := by cases m660 with | zero => rw [part_Parts_l2] at hP; cases hP | succ q_ => exact ⟨q_, rfl⟩
    rw [part_Parts_l2] at hP
    refine wp_seq ?_
    refine wp_region_lit ?_
    refine vr tbok 1 [] [(3, .pointer (some ⟨g13, 0, none⟩)), (10, .slice (some ⟨b533, 0, none⟩) (List.length r35) c45), (11, .slice A593 (List.length queue592) c594), (12, .map (some g52)), (13, .int .i64 x217), (14, .pointer (some ⟨g433, 0, none⟩)), (82, .int .i64 (((List.length (List.getD r35 (Int.toNat ((List.getD queue213 (Int.toNat x217) (0, 0, 0, 0)).1)) [])) : Nat) : Int)), (83, .int .i64 x596), (84, .bool (decide (x596 < (((List.length (List.getD r35 (Int.toNat ((List.getD queue213 (Int.toNat x217) (0, 0, 0, 0)).1)) [])) : Nat) : Int))))] [] E (by kernel_rfl) trivial ?_
    clear E; intro a E
    refine wpList_nil ?_
    refine th_n ?_
    refine wp_seq ?_
    refine E.cases (t := 84) rfl (fun hb_ E_ => ?_) (fun hb_ E_ => ?_)
    ·
     replace E := E_; clear E_
     have h662 : x596 < (((List.length (List.getD r35 (Int.toNat ((List.getD queue213 (Int.toNat x217) (0, 0, 0, 0)).1)) [])) : Nat) : Int) := of_decide_eq_true hb_
     clear hb_; replace hP := ite_t h662 hP
     refine c_true E rfl ?_
     refine wp_skip ?_
     refine th_n ?_
     refine wp_seq ?_
     refine wp_block ?_
     refine wp_seq ?_
     refine wp_region_lit ?_
     refine vr tbok 2 [] [(3, .pointer (some ⟨g13, 0, none⟩)), (10, .slice (some ⟨b533, 0, none⟩) (List.length r35) c45), (11, .slice A593 (List.length queue592) c594), (12, .map (some g52)), (13, .int .i64 x217), (14, .pointer (some ⟨g433, 0, none⟩)), (16, .int .i64 x596), (82, .int .i64 (((List.length (List.getD r35 (Int.toNat ((List.getD queue213 (Int.toNat x217) (0, 0, 0, 0)).1)) [])) : Nat) : Int)), (83, .int .i64 x596)] [] E (by kernel_rfl) trivial ?_
     clear E; intro a E
     refine wpList_nil ?_
     refine th_n ?_
     refine wp_seq ?_
     obtain ⟨A663, c664, hl665, hk666, H⟩ := H.subSl 4 true (el_row rfl) g532
     try dsimp only [addE] at H
     obtain ⟨g668, hP⟩ := ask_inv hP
     obtain ⟨b669, o670, e_b669⟩ := (H.rd 8 rds_ro).addr (idx_pos g668)
     subst e_b669
     obtain ⟨g671, hP⟩ := ask_inv hP
     obtain ⟨A672, c673, hl674, hk675, H⟩ := H.subSl 4 true (el_row rfl) g671
     try dsimp only [addE] at H
     obtain ⟨g677, hP⟩ := ask_inv hP
     obtain ⟨b678, o679, e_b678⟩ := (H.rd 9 rds_ro).addr (idx_pos g677)
     subst e_b678
     refine meet_cut (fun a w689 => ∃ (g688 : Nat), Fr a 122 [(3, .pointer (some ⟨g13, 0, none⟩)), (10, .slice (some ⟨b533, 0, none⟩) (List.length r35) c45), (11, .slice A593 (List.length queue592) c594), (12, .map (some g52)), (13, .int .i64 x217), (14, .pointer (some ⟨g433, 0, none⟩)), (17, .pointer (some ⟨g688, 0, none⟩)), (82, .int .i64 (((List.length (List.getD r35 (Int.toNat ((List.getD queue213 (Int.toNat x217) (0, 0, 0, 0)).1)) [])) : Nat) : Int)), (83, .int .i64 x596)] ∧ Hp S Fa w0 w689 [.ro false cBool (some ⟨b441, o442, none⟩) aAccept, .ro false (cInt .i64) A5 aGuard, .ro false cNode A9 aNodes, .box g13 26 [.int .i64 aProps, .slice (some ⟨b441, o442, none⟩) (List.length aAccept) c2, .slice A5 (List.length aGuard) c6, .slice A9 (List.length aNodes) c10], .row true (cSl (cInt .i64)) 23 (some ⟨b533, 0, none⟩) c45 r35, .row true cS61 62 A593 c594 queue592, .mp Try.prog 64 g52 (List.map (fun p_ => ((fun x_ : Int × Int => .agg #[.int .i64 x_.1, .int .i64 x_.2]) p_.1, (fun u_ : Bool => .bool u_) p_.2)) met595), .box g433 62 [.int .i64 ((List.getD queue213 (Int.toNat x217) (0, 0, 0, 0)).1), .int .i64 ((List.getD queue213 (Int.toNat x217) (0, 0, 0, 0)).2.1), .int .i64 ((List.getD queue213 (Int.toNat x217) (0, 0, 0, 0)).2.2.1), .int .u8 ((List.getD queue213 (Int.toNat x217) (0, 0, 0, 0)).2.2.2)], .box g688 62 [.int .i64 (List.getD (List.getD r35 (Int.toNat ((List.getD queue213 (Int.toNat x217) (0, 0, 0, 0)).1)) []) (Int.toNat x596) 0), .int .i64 (List.getD (List.getD r35 (Int.toNat ((List.getD queue213 (Int.toNat x217) (0, 0, 0, 0)).2.1)) []) (Int.toNat x596) 0), .int .i64 x217, .int .u8 (IntKind.u8.wrap x596)]]) ?_ ?_
     ·
      have HR693 := H
      refine dr_start (S := fun w_ => Chg (atL []) w659 w_) (by kernel_rfl) ?_
      intro w690 hc691
      have HS692 : Chg (atL []) w659 w690 := hc691.mono (fun _ _ h_ => h_.elim)
      replace H := H.ext hc691
      refine dr tbok (by kernel_rfl) [0, 1, 2, 3, 4, 5, 6, 7, 8, 9, 10, 11, 12, 13, 14, 15, 16, 17, 18] [.int .i64 ((List.getD queue213 (Int.toNat x217) (0, 0, 0, 0)).1), .slice (some ⟨b669, o670, none⟩) (List.length (List.getD r35 (Int.toNat ((List.getD queue213 (Int.toNat x217) (0, 0, 0, 0)).1)) [])) c664, .int .i64 (List.getD (List.getD r35 (Int.toNat ((List.getD queue213 (Int.toNat x217) (0, 0, 0, 0)).1)) []) (Int.toNat x596) 0), .int .i64 ((List.getD queue213 (Int.toNat x217) (0, 0, 0, 0)).2.1), .slice (some ⟨b678, o679, none⟩) (List.length (List.getD r35 (Int.toNat ((List.getD queue213 (Int.toNat x217) (0, 0, 0, 0)).2.1)) [])) c673, .int .i64 (List.getD (List.getD r35 (Int.toNat ((List.getD queue213 (Int.toNat x217) (0, 0, 0, 0)).2.1)) []) (Int.toNat x596) 0), .int .u8 (IntKind.u8.wrap x596)] [(3, .pointer (some ⟨g13, 0, none⟩)), (10, .slice (some ⟨b533, 0, none⟩) (List.length r35) c45), (11, .slice A593 (List.length queue592) c594), (12, .map (some g52)), (13, .int .i64 x217), (14, .pointer (some ⟨g433, 0, none⟩)), (82, .int .i64 (((List.length (List.getD r35 (Int.toNat ((List.getD queue213 (Int.toNat x217) (0, 0, 0, 0)).1)) [])) : Nat) : Int)), (83, .int .i64 x596), (93, .int .i64 (List.getD (List.getD r35 (Int.toNat ((List.getD queue213 (Int.toNat x217) (0, 0, 0, 0)).1)) []) (Int.toNat x596) 0)), (101, .int .i64 (List.getD (List.getD r35 (Int.toNat ((List.getD queue213 (Int.toNat x217) (0, 0, 0, 0)).2.1)) []) (Int.toNat x596) 0)), (102, .int .i64 x217), (104, .int .u8 (IntKind.u8.wrap x596))] (fun w_ => [World.cell? w_ ⟨g433, 0, none⟩ = some (.int .i64 ((List.getD queue213 (Int.toNat x217) (0, 0, 0, 0)).1)), 0 ≤ ((List.getD queue213 (Int.toNat x217) (0, 0, 0, 0)).1) ∧ ((List.getD queue213 (Int.toNat x217) (0, 0, 0, 0)).1) < (((List.length r35) : Nat) : Int), World.cell? w_ ⟨b533, 0 + (Int.toNat ((List.getD queue213 (Int.toNat x217) (0, 0, 0, 0)).1)) * 1, none⟩ = some (.slice (some ⟨b669, o670, none⟩) (List.length (List.getD r35 (Int.toNat ((List.getD queue213 (Int.toNat x217) (0, 0, 0, 0)).1)) [])) c664), 0 ≤ x596 ∧ x596 < (((List.length (List.getD r35 (Int.toNat ((List.getD queue213 (Int.toNat x217) (0, 0, 0, 0)).1)) [])) : Nat) : Int), World.cell? w_ ⟨b669, o670 + (Int.toNat x596) * 1, none⟩ = some (.int .i64 (List.getD (List.getD r35 (Int.toNat ((List.getD queue213 (Int.toNat x217) (0, 0, 0, 0)).1)) []) (Int.toNat x596) 0)), World.cell? w_ ⟨g433, 1, none⟩ = some (.int .i64 ((List.getD queue213 (Int.toNat x217) (0, 0, 0, 0)).2.1)), 0 ≤ ((List.getD queue213 (Int.toNat x217) (0, 0, 0, 0)).2.1) ∧ ((List.getD queue213 (Int.toNat x217) (0, 0, 0, 0)).2.1) < (((List.length r35) : Nat) : Int), World.cell? w_ ⟨b533, 0 + (Int.toNat ((List.getD queue213 (Int.toNat x217) (0, 0, 0, 0)).2.1)) * 1, none⟩ = some (.slice (some ⟨b678, o679, none⟩) (List.length (List.getD r35 (Int.toNat ((List.getD queue213 (Int.toNat x217) (0, 0, 0, 0)).2.1)) [])) c673), 0 ≤ x596 ∧ x596 < (((List.length (List.getD r35 (Int.toNat ((List.getD queue213 (Int.toNat x217) (0, 0, 0, 0)).2.1)) [])) : Nat) : Int), World.cell? w_ ⟨b678, o679 + (Int.toNat x596) * 1, none⟩ = some (.int .i64 (List.getD (List.getD r35 (Int.toNat ((List.getD queue213 (Int.toNat x217) (0, 0, 0, 0)).2.1)) []) (Int.toNat x596) 0)), IntKind.u8.wrap x596 = (IntKind.u8.wrap x596)]) 3 E (fun _ _ => by kernel_rfl) (fun w_ hS_ => ⟨(HR693.boxk [] hS_ 7 rfl rfl).cell (j := 0) rfl, g532, hS_.cell (hl665) (HR693.blk [] 4 rds_row (idx_pos g532) rfl), g668, Rds.at1 (HR693.rdk [] hS_ 8 rds_ro rfl) 0 g668, (HR693.boxk [] hS_ 7 rfl rfl).cell (j := 1) rfl, g671, hS_.cell (hl674) (HR693.blk [] 4 rds_row (idx_pos g671) rfl), g677, Rds.at1 (HR693.rdk [] hS_ 9 rds_ro rfl) 0 g677, rfl⟩) (by kernel_rfl) HS692 ?_
      clear E; intro a E
      refine wpAnyH_all (rs := [19, 20]) (by kernel_rfl) (by simp) ?_
      refine all2 ?_ ?_
      ·
       refine wpOp_of_list rfl ?_
       refine e_build (ps := [(0, .int .i64 (List.getD (List.getD r35 (Int.toNat ((List.getD queue213 (Int.toNat x217) (0, 0, 0, 0)).1)) []) (Int.toNat x596) 0)), (1, .int .i64 (List.getD (List.getD r35 (Int.toNat ((List.getD queue213 (Int.toNat x217) (0, 0, 0, 0)).2.1)) []) (Int.toNat x596) 0)), (2, .int .i64 x217), (3, .int .u8 (IntKind.u8.wrap x596))]) (v := .agg #[.int .i64 (List.getD (List.getD r35 (Int.toNat ((List.getD queue213 (Int.toNat x217) (0, 0, 0, 0)).1)) []) (Int.toNat x596) 0), .int .i64 (List.getD (List.getD r35 (Int.toNat ((List.getD queue213 (Int.toNat x217) (0, 0, 0, 0)).2.1)) []) (Int.toNat x596) 0), .int .i64 x217, .int .u8 (IntKind.u8.wrap x596)]) E rfl rfl tbok rfl (by kernel_rfl) rfl ?_
       clear E; intro a E
       refine wpList_nil ?_
       refine th_n ⟨HS692, ?_⟩
       refine wpAnyH_all (rs := [20]) (by kernel_rfl) (by simp) ?_
       refine all1 ?_
       refine wpOp_of_list rfl ?_
       refine h_alloc H E rfl rfl tbok rfl ?_
       intro w695 g694 a hc696 hg698 H_ E_
       replace E := E_ _ rfl; clear E_
       have hin699 : ∀ q_, q_ < w659.heap.size → q_ = g694 → (atL []) q_ := fun q_ h1_ h2_ => by have hs_ := HS692.size; have h4_ : q_ = g694 := h2_; exfalso; omega
       replace HS692 := HS692.ext hc696
       replace H := H_; clear H_; try dsimp only [setn, addE, goneL] at H
       refine wpList_nil ?_
       refine th_n ⟨HS692, ?_⟩
       refine wpAnyH_all (rs := [21]) (by kernel_rfl) (by simp) ?_
       refine all1 ?_
       refine wpOp_of_list rfl ?_
       refine h_store (g := g694) (off := 0) H 10 rfl E rfl rfl rfl rfl tbok rfl rfl rfl rfl rfl ?_
       clear E; intro w700 a hc701 H_ E
       replace HS692 := HS692.trans hc701 (fun k_ hk_ h_ => hin699 k_ hk_ h_)
       replace H := H_; clear H_; try dsimp only [setn, addE, goneL] at H
       refine wpList_nil ?_
       refine th_n ⟨HS692, ?_⟩
       refine dr_done (by kernel_rfl) ?_
       exact .inl ⟨rfl, g694, E.pick _ ⟨rfl, rfl, rfl, rfl, rfl, rfl, rfl, rfl, rfl, trivial⟩, H.sel [0, 1, 2, 3, 4, 5, 6, 7, 10] rfl⟩
      refine wpOp_of_list rfl ?_
      refine h_alloc H E rfl rfl tbok rfl ?_
      intro w703 g702 a hc704 hg706 H_ E_
      replace E := E_ _ rfl; clear E_
      have hin707 : ∀ q_, q_ < w659.heap.size → q_ = g702 → (atL []) q_ := fun q_ h1_ h2_ => by have hs_ := HS692.size; have h4_ : q_ = g702 := h2_; exfalso; omega
      replace HS692 := HS692.ext hc704
      replace H := H_; clear H_; try dsimp only [setn, addE, goneL] at H
      refine wpList_nil ?_
      refine th_n ⟨HS692, ?_⟩
      refine wpAnyH_all (rs := [19]) (by kernel_rfl) (by simp) ?_
      refine all1 ?_
      refine wpOp_of_list rfl ?_
      refine e_build (ps := [(0, .int .i64 (List.getD (List.getD r35 (Int.toNat ((List.getD queue213 (Int.toNat x217) (0, 0, 0, 0)).1)) []) (Int.toNat x596) 0)), (1, .int .i64 (List.getD (List.getD r35 (Int.toNat ((List.getD queue213 (Int.toNat x217) (0, 0, 0, 0)).2.1)) []) (Int.toNat x596) 0)), (2, .int .i64 x217), (3, .int .u8 (IntKind.u8.wrap x596))]) (v := .agg #[.int .i64 (List.getD (List.getD r35 (Int.toNat ((List.getD queue213 (Int.toNat x217) (0, 0, 0, 0)).1)) []) (Int.toNat x596) 0), .int .i64 (List.getD (List.getD r35 (Int.toNat ((List.getD queue213 (Int.toNat x217) (0, 0, 0, 0)).2.1)) []) (Int.toNat x596) 0), .int .i64 x217, .int .u8 (IntKind.u8.wrap x596)]) E rfl rfl tbok rfl (by kernel_rfl) rfl ?_
      clear E; intro a E
      refine wpList_nil ?_
      refine th_n ⟨HS692, ?_⟩
      refine wpAnyH_all (rs := [21]) (by kernel_rfl) (by simp) ?_
      refine all1 ?_
      refine wpOp_of_list rfl ?_
      refine h_store (g := g702) (off := 0) H 10 rfl E rfl rfl rfl rfl tbok rfl rfl rfl rfl rfl ?_
      clear E; intro w708 a hc709 H_ E
      replace HS692 := HS692.trans hc709 (fun k_ hk_ h_ => hin707 k_ hk_ h_)
      replace H := H_; clear H_; try dsimp only [setn, addE, goneL] at H
      refine wpList_nil ?_
      refine th_n ⟨HS692, ?_⟩
      refine dr_done (by kernel_rfl) ?_
      exact .inl ⟨rfl, g702, E.pick _ ⟨rfl, rfl, rfl, rfl, rfl, rfl, rfl, rfl, rfl, trivial⟩, H.sel [0, 1, 2, 3, 4, 5, 6, 7, 10] rfl⟩
     clear E H; rintro a w689 ⟨g688, E, H⟩
     refine th_n ?_
     refine wp_seq ?_
     refine wp_region_lit ?_
     refine vr tbok 4 [.int .i64 (List.getD (List.getD r35 (Int.toNat ((List.getD queue213 (Int.toNat x217) (0, 0, 0, 0)).1)) []) (Int.toNat x596) 0), .int .i64 (List.getD (List.getD r35 (Int.toNat ((List.getD queue213 (Int.toNat x217) (0, 0, 0, 0)).2.1)) []) (Int.toNat x596) 0)] [(3, .pointer (some ⟨g13, 0, none⟩)), (10, .slice (some ⟨b533, 0, none⟩) (List.length r35) c45), (11, .slice A593 (List.length queue592) c594), (12, .map (some g52)), (13, .int .i64 x217), (14, .pointer (some ⟨g433, 0, none⟩)), (17, .pointer (some ⟨g688, 0, none⟩)), (82, .int .i64 (((List.length (List.getD r35 (Int.toNat ((List.getD queue213 (Int.toNat x217) (0, 0, 0, 0)).1)) [])) : Nat) : Int)), (83, .int .i64 x596), (107, .int .i64 (List.getD (List.getD r35 (Int.toNat ((List.getD queue213 (Int.toNat x217) (0, 0, 0, 0)).1)) []) (Int.toNat x596) 0)), (109, .int .i64 (List.getD (List.getD r35 (Int.toNat ((List.getD queue213 (Int.toNat x217) (0, 0, 0, 0)).2.1)) []) (Int.toNat x596) 0))] [World.cell? w689 ⟨g688, 0, none⟩ = some (.int .i64 (List.getD (List.getD r35 (Int.toNat ((List.getD queue213 (Int.toNat x217) (0, 0, 0, 0)).1)) []) (Int.toNat x596) 0)), World.cell? w689 ⟨g688, 1, none⟩ = some (.int .i64 (List.getD (List.getD r35 (Int.toNat ((List.getD queue213 (Int.toNat x217) (0, 0, 0, 0)).2.1)) []) (Int.toNat x596) 0))] E (by kernel_rfl) ⟨(H.box 8 rfl).cell (j := 0) rfl, (H.box 8 rfl).cell (j := 1) rfl⟩ ?_
     clear E; intro a E
     refine e_build (ps := [(0, .int .i64 (List.getD (List.getD r35 (Int.toNat ((List.getD queue213 (Int.toNat x217) (0, 0, 0, 0)).1)) []) (Int.toNat x596) 0)), (1, .int .i64 (List.getD (List.getD r35 (Int.toNat ((List.getD queue213 (Int.toNat x217) (0, 0, 0, 0)).2.1)) []) (Int.toNat x596) 0))]) (v := .agg #[.int .i64 (List.getD (List.getD r35 (Int.toNat ((List.getD queue213 (Int.toNat x217) (0, 0, 0, 0)).1)) []) (Int.toNat x596) 0), .int .i64 (List.getD (List.getD r35 (Int.toNat ((List.getD queue213 (Int.toNat x217) (0, 0, 0, 0)).2.1)) []) (Int.toNat x596) 0)]) E rfl rfl tbok rfl (by kernel_rfl) rfl ?_
     clear E; intro a E
     refine h_alloc H E rfl rfl tbok rfl ?_
     intro w711 g710 a hc712 hg714 H_ E_
     replace E := E_ _ rfl; clear E_
     replace H := H_; clear H_; try dsimp only [setn, addE, goneL] at H
     refine h_store (g := g710) (off := 0) H 9 rfl E rfl rfl rfl rfl tbok rfl rfl rfl rfl rfl ?_
     clear E; intro w715 a hc716 H_ E
     replace H := H_; clear H_; try dsimp only [setn, addE, goneL] at H
     refine wpList_nil ?_
     refine th_n ?_
     refine wp_seq ?_
     refine wp_region_lit ?_
     refine vr tbok 2 [.agg #[.int .i64 (List.getD (List.getD r35 (Int.toNat ((List.getD queue213 (Int.toNat x217) (0, 0, 0, 0)).1)) []) (Int.toNat x596) 0), .int .i64 (List.getD (List.getD r35 (Int.toNat ((List.getD queue213 (Int.toNat x217) (0, 0, 0, 0)).2.1)) []) (Int.toNat x596) 0)]] [(3, .pointer (some ⟨g13, 0, none⟩)), (10, .slice (some ⟨b533, 0, none⟩) (List.length r35) c45), (11, .slice A593 (List.length queue592) c594), (12, .map (some g52)), (13, .int .i64 x217), (14, .pointer (some ⟨g433, 0, none⟩)), (17, .pointer (some ⟨g688, 0, none⟩)), (18, .pointer (some ⟨g710, 0, none⟩)), (82, .int .i64 (((List.length (List.getD r35 (Int.toNat ((List.getD queue213 (Int.toNat x217) (0, 0, 0, 0)).1)) [])) : Nat) : Int)), (83, .int .i64 x596), (111, .map (some g52)), (112, .agg #[.int .i64 (List.getD (List.getD r35 (Int.toNat ((List.getD queue213 (Int.toNat x217) (0, 0, 0, 0)).1)) []) (Int.toNat x596) 0), .int .i64 (List.getD (List.getD r35 (Int.toNat ((List.getD queue213 (Int.toNat x217) (0, 0, 0, 0)).2.1)) []) (Int.toNat x596) 0)])] [cellsAt w715 g710 (0) [.int .i64 (List.getD (List.getD r35 (Int.toNat ((List.getD queue213 (Int.toNat x217) (0, 0, 0, 0)).1)) []) (Int.toNat x596) 0), .int .i64 (List.getD (List.getD r35 (Int.toNat ((List.getD queue213 (Int.toNat x217) (0, 0, 0, 0)).2.1)) []) (Int.toNat x596) 0)]] E (by kernel_rfl) ((H.box 9 rfl).sub 0 _ rfl) ?_
     clear E; intro a E
     obtain ⟨g717, hP⟩ := ask_inv hP
     refine h_lookup1 (fun x_ : Int × Int => .agg #[.int .i64 x_.1, .int .i64 x_.2]) (fun u_ : Bool => .bool u_) ((List.getD (List.getD r35 (Int.toNat ((List.getD queue213 (Int.toNat x217) (0, 0, 0, 0)).1)) []) (Int.toNat x596) 0), (List.getD (List.getD r35 (Int.toNat ((List.getD queue213 (Int.toNat x217) (0, 0, 0, 0)).2.1)) []) (Int.toNat x596) 0)) false H 6 rfl E rfl rfl tbok rfl rfl (kArr2 Try.underlying64 Try.underlying3 (by kernel_rfl) (by kernel_rfl) (by kernel_rfl) (by kernel_rfl) (Maps.Keyed.of_law (deep_law (m := 3) (by decide) (by kernel_rfl) (by kernel_rfl) (by kernel_rfl)))) rfl rfl rfl g717 (fun _ => ⟨_, rfl⟩) ?_
     clear E; intro a E_; replace E := E_ _ rfl; clear E_
     refine vr tbok 1 [] [(3, .pointer (some ⟨g13, 0, none⟩)), (10, .slice (some ⟨b533, 0, none⟩) (List.length r35) c45), (11, .slice A593 (List.length queue592) c594), (12, .map (some g52)), (13, .int .i64 x217), (14, .pointer (some ⟨g433, 0, none⟩)), (17, .pointer (some ⟨g688, 0, none⟩)), (18, .pointer (some ⟨g710, 0, none⟩)), (82, .int .i64 (((List.length (List.getD r35 (Int.toNat ((List.getD queue213 (Int.toNat x217) (0, 0, 0, 0)).1)) [])) : Nat) : Int)), (83, .int .i64 x596), (114, .bool (!(Option.getD (mget met595 ((List.getD (List.getD r35 (Int.toNat ((List.getD queue213 (Int.toNat x217) (0, 0, 0, 0)).1)) []) (Int.toNat x596) 0), (List.getD (List.getD r35 (Int.toNat ((List.getD queue213 (Int.toNat x217) (0, 0, 0, 0)).2.1)) []) (Int.toNat x596) 0))) false)))] [] E (by kernel_rfl) trivial ?_
     clear E; intro a E
     refine wpList_nil ?_
     refine th_n ?_
     refine E.cases (t := 114) rfl (fun hb_ E_ => ?_) (fun hb_ E_ => ?_)
     ·
      replace E := E_; clear E_
      have h718 : ¬ ((Option.getD (mget met595 ((List.getD (List.getD r35 (Int.toNat ((List.getD queue213 (Int.toNat x217) (0, 0, 0, 0)).1)) []) (Int.toNat x596) 0), (List.getD (List.getD r35 (Int.toNat ((List.getD queue213 (Int.toNat x217) (0, 0, 0, 0)).2.1)) []) (Int.toNat x596) 0))) false) = true) := (ne_true_of_eq_false (not_t hb_))
      clear hb_; replace hP := ite_f h718 hP
      refine c_true E rfl ?_
      refine wp_seq ?_
      refine wp_region_lit ?_
      refine vr tbok 2 [.agg #[.int .i64 (List.getD (List.getD r35 (Int.toNat ((List.getD queue213 (Int.toNat x217) (0, 0, 0, 0)).1)) []) (Int.toNat x596) 0), .int .i64 (List.getD (List.getD r35 (Int.toNat ((List.getD queue213 (Int.toNat x217) (0, 0, 0, 0)).2.1)) []) (Int.toNat x596) 0)]] [(3, .pointer (some ⟨g13, 0, none⟩)), (10, .slice (some ⟨b533, 0, none⟩) (List.length r35) c45), (11, .slice A593 (List.length queue592) c594), (12, .map (some g52)), (13, .int .i64 x217), (14, .pointer (some ⟨g433, 0, none⟩)), (17, .pointer (some ⟨g688, 0, none⟩)), (82, .int .i64 (((List.length (List.getD r35 (Int.toNat ((List.getD queue213 (Int.toNat x217) (0, 0, 0, 0)).1)) [])) : Nat) : Int)), (83, .int .i64 x596), (115, .map (some g52)), (116, .agg #[.int .i64 (List.getD (List.getD r35 (Int.toNat ((List.getD queue213 (Int.toNat x217) (0, 0, 0, 0)).1)) []) (Int.toNat x596) 0), .int .i64 (List.getD (List.getD r35 (Int.toNat ((List.getD queue213 (Int.toNat x217) (0, 0, 0, 0)).2.1)) []) (Int.toNat x596) 0)])] [cellsAt w715 g710 (0) [.int .i64 (List.getD (List.getD r35 (Int.toNat ((List.getD queue213 (Int.toNat x217) (0, 0, 0, 0)).1)) []) (Int.toNat x596) 0), .int .i64 (List.getD (List.getD r35 (Int.toNat ((List.getD queue213 (Int.toNat x217) (0, 0, 0, 0)).2.1)) []) (Int.toNat x596) 0)]] E (by kernel_rfl) ((H.box 9 rfl).sub 0 _ rfl) ?_
      clear E; intro a E
      obtain ⟨g719, hP⟩ := ask_inv hP
      refine h_mapUpdate (fun x_ : Int × Int => .agg #[.int .i64 x_.1, .int .i64 x_.2]) (fun u_ : Bool => .bool u_) ((List.getD (List.getD r35 (Int.toNat ((List.getD queue213 (Int.toNat x217) (0, 0, 0, 0)).1)) []) (Int.toNat x596) 0), (List.getD (List.getD r35 (Int.toNat ((List.getD queue213 (Int.toNat x217) (0, 0, 0, 0)).2.1)) []) (Int.toNat x596) 0)) true H 6 rfl E rfl rfl tbok rfl (kArr2 Try.underlying64 Try.underlying3 (by kernel_rfl) (by kernel_rfl) (by kernel_rfl) (by kernel_rfl) (Maps.Keyed.of_law (deep_law (m := 3) (by decide) (by kernel_rfl) (by kernel_rfl) (by kernel_rfl)))) rfl rfl rfl g717 g719 rfl ?_
      clear E; intro w720 a hc721 H_ E
      replace H := H_; clear H_; try dsimp only [setn, addE, goneL] at H
      refine wpList_nil ?_
      refine th_n ?_
      refine wp_region_lit ?_
      refine vr tbok 2 [.agg #[.int .i64 (List.getD (List.getD r35 (Int.toNat ((List.getD queue213 (Int.toNat x217) (0, 0, 0, 0)).1)) []) (Int.toNat x596) 0), .int .i64 (List.getD (List.getD r35 (Int.toNat ((List.getD queue213 (Int.toNat x217) (0, 0, 0, 0)).2.1)) []) (Int.toNat x596) 0), .int .i64 x217, .int .u8 (IntKind.u8.wrap x596)]] [(3, .pointer (some ⟨g13, 0, none⟩)), (10, .slice (some ⟨b533, 0, none⟩) (List.length r35) c45), (12, .map (some g52)), (13, .int .i64 x217), (14, .pointer (some ⟨g433, 0, none⟩)), (82, .int .i64 (((List.length (List.getD r35 (Int.toNat ((List.getD queue213 (Int.toNat x217) (0, 0, 0, 0)).1)) [])) : Nat) : Int)), (83, .int .i64 x596), (117, .slice A593 (List.length queue592) c594), (118, .agg #[.int .i64 (List.getD (List.getD r35 (Int.toNat ((List.getD queue213 (Int.toNat x217) (0, 0, 0, 0)).1)) []) (Int.toNat x596) 0), .int .i64 (List.getD (List.getD r35 (Int.toNat ((List.getD queue213 (Int.toNat x217) (0, 0, 0, 0)).2.1)) []) (Int.toNat x596) 0), .int .i64 x217, .int .u8 (IntKind.u8.wrap x596)])] [cellsAt w720 g688 (0) [.int .i64 (List.getD (List.getD r35 (Int.toNat ((List.getD queue213 (Int.toNat x217) (0, 0, 0, 0)).1)) []) (Int.toNat x596) 0), .int .i64 (List.getD (List.getD r35 (Int.toNat ((List.getD queue213 (Int.toNat x217) (0, 0, 0, 0)).2.1)) []) (Int.toNat x596) 0), .int .i64 x217, .int .u8 (IntKind.u8.wrap x596)]] E (by kernel_rfl) ((H.box 8 rfl).sub 0 _ rfl) ?_
      clear E; intro a E
      refine h_buildSlice (ps := [(0, .agg #[.int .i64 (List.getD (List.getD r35 (Int.toNat ((List.getD queue213 (Int.toNat x217) (0, 0, 0, 0)).1)) []) (Int.toNat x596) 0), .int .i64 (List.getD (List.getD r35 (Int.toNat ((List.getD queue213 (Int.toNat x217) (0, 0, 0, 0)).2.1)) []) (Int.toNat x596) 0), .int .i64 x217, .int .u8 (IntKind.u8.wrap x596)])]) (cs := [.int .i64 (List.getD (List.getD r35 (Int.toNat ((List.getD queue213 (Int.toNat x217) (0, 0, 0, 0)).1)) []) (Int.toNat x596) 0), .int .i64 (List.getD (List.getD r35 (Int.toNat ((List.getD queue213 (Int.toNat x217) (0, 0, 0, 0)).2.1)) []) (Int.toNat x596) 0), .int .i64 x217, .int .u8 (IntKind.u8.wrap x596)]) H E rfl rfl tbok rfl rfl (by kernel_rfl) ?_
      intro w723 g722 a hc724 hg726 H_ E_
      replace E := E_ _ rfl; clear E_
      replace H := H_; clear H_; try dsimp only [setn, addE, goneL] at H
      obtain ⟨g727, hP⟩ := ask_inv hP
      refine h_append cS61 (xs := queue592) (ys := ([((List.getD (List.getD r35 (Int.toNat ((List.getD queue213 (Int.toNat x217) (0, 0, 0, 0)).1)) []) (Int.toNat x596) 0), (List.getD (List.getD r35 (Int.toNat ((List.getD queue213 (Int.toNat x217) (0, 0, 0, 0)).2.1)) []) (Int.toNat x596) 0), x217, IntKind.u8.wrap x596)] : List (Int × Int × Int × Int))) ((0, 0, 0, 0) : Int × Int × Int × Int) H 5 rfl E rfl rfl tbok rfl rfl rfl rfl rfl (fun _ _ => rfl) rfl rfl (fun _ HF_ => HF_.srcB 10 rfl (⟨_, _, rfl, rfl, rfl⟩)) g727 ?_
      intro w728 A729 c730 a hc731 hA732 H_ E_
      replace E := E_ _ rfl; clear E_
      replace H := H_; clear H_; try dsimp only [setn, addE, goneL] at H
      refine vr tbok 1 [] [(3, .pointer (some ⟨g13, 0, none⟩)), (10, .slice (some ⟨b533, 0, none⟩) (List.length r35) c45), (11, .slice A729 (List.length (queue592 ++ ([((List.getD (List.getD r35 (Int.toNat ((List.getD queue213 (Int.toNat x217) (0, 0, 0, 0)).1)) []) (Int.toNat x596) 0), (List.getD (List.getD r35 (Int.toNat ((List.getD queue213 (Int.toNat x217) (0, 0, 0, 0)).2.1)) []) (Int.toNat x596) 0), x217, IntKind.u8.wrap x596)] : List (Int × Int × Int × Int)))) c730), (12, .map (some g52)), (13, .int .i64 x217), (14, .pointer (some ⟨g433, 0, none⟩)), (82, .int .i64 (((List.length (List.getD r35 (Int.toNat ((List.getD queue213 (Int.toNat x217) (0, 0, 0, 0)).1)) [])) : Nat) : Int)), (83, .int .i64 x596)] [] E (by kernel_rfl) trivial ?_
      clear E; intro a E
      refine wpList_nil ?_
      refine bl_n ?_
      refine th_n ?_
      refine wp_region_lit ?_
      obtain ⟨g733, hP⟩ := ask_inv hP
      refine vr tbok 2 [.int .i64 (x596 + 1)] [(3, .pointer (some ⟨g13, 0, none⟩)), (10, .slice (some ⟨b533, 0, none⟩) (List.length r35) c45), (11, .slice A729 (List.length (queue592 ++ ([((List.getD (List.getD r35 (Int.toNat ((List.getD queue213 (Int.toNat x217) (0, 0, 0, 0)).1)) []) (Int.toNat x596) 0), (List.getD (List.getD r35 (Int.toNat ((List.getD queue213 (Int.toNat x217) (0, 0, 0, 0)).2.1)) []) (Int.toNat x596) 0), x217, IntKind.u8.wrap x596)] : List (Int × Int × Int × Int)))) c730), (12, .map (some g52)), (13, .int .i64 x217), (14, .pointer (some ⟨g433, 0, none⟩)), (82, .int .i64 (((List.length (List.getD r35 (Int.toNat ((List.getD queue213 (Int.toNat x217) (0, 0, 0, 0)).1)) [])) : Nat) : Int)), (83, .int .i64 (x596 + 1))] [IntKind.i64.wrap (x596 + 1) = x596 + 1] E (by kernel_rfl) (wrap_in g733) ?_
      clear E; intro a E
      refine wpList_nil ?_
      exact th_n ⟨m655, Nat.lt_succ_self _, queue592 ++ ([((List.getD (List.getD r35 (Int.toNat ((List.getD queue213 (Int.toNat x217) (0, 0, 0, 0)).1)) []) (Int.toNat x596) 0), (List.getD (List.getD r35 (Int.toNat ((List.getD queue213 (Int.toNat x217) (0, 0, 0, 0)).2.1)) []) (Int.toNat x596) 0), x217, IntKind.u8.wrap x596)] : List (Int × Int × Int × Int)), met595 ++ [(((List.getD (List.getD r35 (Int.toNat ((List.getD queue213 (Int.toNat x217) (0, 0, 0, 0)).1)) []) (Int.toNat x596) 0), (List.getD (List.getD r35 (Int.toNat ((List.getD queue213 (Int.toNat x217) (0, 0, 0, 0)).2.1)) []) (Int.toNat x596) 0)), true)], x596 + 1, A729, c730, E.pick _ ⟨rfl, rfl, rfl, rfl, rfl, rfl, rfl, rfl, trivial⟩, H.sel [0, 1, 2, 3, 4, 5, 6, 7] rfl, hP⟩
     replace E := E_; clear E_
     have h734 : (Option.getD (mget met595 ((List.getD (List.getD r35 (Int.toNat ((List.getD queue213 (Int.toNat x217) (0, 0, 0, 0)).1)) []) (Int.toNat x596) 0), (List.getD (List.getD r35 (Int.toNat ((List.getD queue213 (Int.toNat x217) (0, 0, 0, 0)).2.1)) []) (Int.toNat x596) 0))) false) = true := (not_f hb_)
     clear hb_; replace hP := ite_t h734 hP
     refine c_false E rfl ?_
     refine wp_skip ?_
     refine bl_n ?_
     refine th_n ?_
     refine wp_region_lit ?_
     obtain ⟨g735, hP⟩ := ask_inv hP
     refine vr tbok 2 [.int .i64 (x596 + 1)] [(3, .pointer (some ⟨g13, 0, none⟩)), (10, .slice (some ⟨b533, 0, none⟩) (List.length r35) c45), (11, .slice A593 (List.length queue592) c594), (12, .map (some g52)), (13, .int .i64 x217), (14, .pointer (some ⟨g433, 0, none⟩)), (82, .int .i64 (((List.length (List.getD r35 (Int.toNat ((List.getD queue213 (Int.toNat x217) (0, 0, 0, 0)).1)) [])) : Nat) : Int)), (83, .int .i64 (x596 + 1))] [IntKind.i64.wrap (x596 + 1) = x596 + 1] E (by kernel_rfl) (wrap_in g735) ?_
     clear E; intro a E
     refine wpList_nil ?_
     exact th_n ⟨m655, Nat.lt_succ_self _, queue592, met595, x596 + 1, A593, c594, E.pick _ ⟨rfl, rfl, rfl, rfl, rfl, rfl, rfl, rfl, trivial⟩, H.sel [0, 1, 2, 3, 4, 5, 6, 7] rfl, hP⟩
    replace E := E_; clear E_
    have h736 : ¬ (x596 < (((List.length (List.getD r35 (Int.toNat ((List.getD queue213 (Int.toNat x217) (0, 0, 0, 0)).1)) [])) : Nat) : Int)) := of_decide_eq_false hb_
    clear hb_; replace hP := ite_f h736 hP
    refine c_false E rfl ?_
    refine wp_exit ?_
    refine th_exit ?_
    have hx_ := Option.some.inj hP
    refine th_exit (.inl ⟨4, rfl, ?_⟩)
    exact ⟨rfl, (queue592, met595), A593, c594, E.pick _ ⟨rfl, rfl, rfl, rfl, rfl, trivial⟩, H.sel [0, 1, 2, 3, 4, 5, 6] rfl, hx_.symm⟩
   clear E H hL657; intro i_ a w659 hM_
   obtain ⟨rfl, x661, A652, c653, E, H, hx_⟩ := hM_
   subst hx_; have hP := hK658; clear hK658
   refine bl_hit ?_
   refine bl_n ?_
   refine th_n ?_
   refine wp_region_lit ?_
   obtain ⟨g737, hP⟩ := ask_inv hP
   refine vr tbok 3 [.int .i64 (x217 + 1)] [(3, .pointer (some ⟨g13, 0, none⟩)), (10, .slice (some ⟨b533, 0, none⟩) (List.length r35) c45), (11, .slice A652 (List.length x656.1) c653), (12, .map (some g52)), (13, .int .i64 (x217 + 1))] [IntKind.i64.wrap (x217 + 1) = x217 + 1] E (by kernel_rfl) (wrap_in g737) ?_
   clear E; intro a E
   refine wpList_nil ?_
   exact th_n ⟨m422, Nat.lt_succ_self _, x656.1, x656.2, x217 + 1, A652, c653, E.pick _ ⟨rfl, rfl, rfl, rfl, rfl, trivial⟩, H.sel [0, 1, 2, 3, 4, 5, 6] rfl, hP⟩
  replace E := E_; clear E_
  have h738 : ¬ (x217 < (((List.length queue213) : Nat) : Int)) := of_decide_eq_false hb_
  clear hb_; replace hP := ite_f h738 hP
  refine c_false E rfl ?_
  refine wp_exit ?_
  refine th_exit ?_
  have hx_ := Option.some.inj hP
  refine th_exit (.inl ⟨0, rfl, ?_⟩)
  exact ⟨rfl, (), E.pick _ trivial, H.sel [] rfl, hx_.symm⟩
 clear E H hL424; intro i_ a w426 hM_
 obtain ⟨rfl, x428, E, H, hx_⟩ := hM_
 subst hx_; have hP := elim_l hK425
 clear hK425
 refine bl_hit ?_
 refine th_n ?_
 refine wp_seq ?_
 refine wp_region_lit ?_
 refine vr tbok 3 [] [(6, .slice none 0 0), (7, .bool false), (8, .int .i64 0)] [] E (by kernel_rfl) trivial ?_
 clear E; intro a E
 refine wpList_nil ?_
 refine th_n ?_
 refine wp_ret ?_
 replace H := H.nilrow (cInt .u8) 38; try dsimp only [setn, addE, goneL] at H
 obtain rfl := Option.some.inj hP
 refine ret3 E rfl rfl rfl rfl ?_
 exact ⟨_, rfl, none, 0, rfl, H.sel [0] rfl⟩

end Go.V
