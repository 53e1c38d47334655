/- Plain functions, and the calls that give them. -/
import Derived.Test.YtihindpnnbllkaaA4
set_option linter.all false
set_option linter.unusedVariables false
set_option linter.unnecessarySimpa false
set_option linter.unusedSimpArgs false
set_option maxRecDepth 100000
set_option maxHeartbeats 4000000
namespace Go.V
open Go Go.Proofs
/-! (*rejoinder/guard.Store).Nodes -/
def guard_Store_Nodes (N : Nat) (sn : Int) (snodes : List Nd) (sat : List (Nd × Int)) : Option (List Nd) :=
  Option.bind (guard_Store_none N sn snodes sat) fun r112 =>
  if r112 = true then
    some []
  else
    ask (List.length ([] : List Nd) + List.length snodes ≤ 1000000000) <|
    some (([] : List Nd) ++ snodes)
theorem guard_Store_Nodes_calls {N : Nat} {S Fa : Nat → Prop} {w0 : World} {r : List Nd} (g1 : Nat) (A3 : Option Addr) (c4 : Nat) (g6 : Nat) (sn : Int) (snodes : List Nd) (sat : List (Nd × Int)) (H : Hp S Fa w0 w0 [.box g1 120 [.int .i64 sn, .slice A3 snodes.length c4, .map (some g6)], .row true cNode 49 A3 c4 snodes, .mp Try.prog 49 g6 (List.map (fun p_ => (ndV p_.1, (fun u_ : Int => .int .i64 u_) p_.2)) sat)]) (hP : guard_Store_Nodes N sn snodes sat = some r) :
    Calls Try.prog 65 #[.pointer (some ⟨g1, 0, none⟩)] w0 fun e w' => ∃ v, e = .returned v ∧ (∃ (x_ : List Nd) (A10 : Option Addr) (c11 : Nat), r = x_ ∧ v = .slice A10 x_.length c11 ∧ Hp S Fa w0 w' [.row true cNode 49 A10 c11 x_, .row true cNode 49 A3 c4 snodes, .mp Try.prog 49 g6 (List.map (fun p_ => (ndV p_.1, (fun u_ : Int => .int .i64 u_) p_.2)) sat), .box g1 120 [.int .i64 sn, .slice A3 snodes.length c4, .map (some g6)]]) := by
 refine enterV (n := 11) Try.func65 rfl rfl rfl ?_
 intro a E
 replace E := E.pick [(0, .pointer (some ⟨g1, 0, none⟩))] ⟨rfl, trivial⟩
 rw [guard_Store_Nodes] at hP
 refine sr_ <| vp 1 [] E ?_
 clear E; intro a E
 refine nn_ <| wp_seq <| sr_ <| vp 1 [(3, .pointer (some ⟨g1, 0, none⟩))] E ?_
 clear E; intro a E
 obtain ⟨r112, h113, hP⟩ := bind_inv hP
 obtain ⟨Fa114, Hc115, hb116⟩ := H.call [0, 1, 2] [] rfl rfl ⟨flat_plain, trivial⟩
 refine e_call E rfl rfl Try.func83 rfl rfl rfl (guard_Store_none_calls g1 A3 c4 g6 sn snodes sat  Hc115 h113) ?_
 intro v122 w121 a hR123 E_
 obtain ⟨x_, hr_, rfl, HR125⟩ := hR123
 subst hr_
 replace E := E_ _ rfl; clear E_
 obtain ⟨H_, hc124⟩ := hb116 _ _ HR125 rfl
 replace H := H_; clear H_; try dsimp only [setn, addE, goneL] at H
 refine nn_ ?_
 revert E; refine csE 4 rfl (fun hb_ E => ?_) fun hb_ E => ?_
 ·
  have h129 : r112 = true := hb_
  replace hP := ite_t h129 hP
  refine c_true E rfl <| sr_ <| vp 1 [(2, .slice none 0 0)] E ?_
  clear E; intro a E
  refine nn_ <| wp_ret <| th_ret ?_
  replace H := H.nilrow cNode 49; try dsimp only [setn, addE, goneL] at H
  obtain rfl := Option.some.inj hP
  refine ret1 E rfl rfl ?_
  exact ⟨_, rfl, ⟨[], none, 0, rfl, rfl, H.sel [6, 3, 4, 5] rfl⟩⟩
 have h131 : ¬ (r112 = true) := (ne_true_of_eq_false hb_)
 replace hP := ite_f h131 hP
 refine c_false E rfl <| wp_skip <| th_n <| sr_ <| h_buildSlice (ps := []) (cs := []) H E rfl rfl tbok rfl rfl (by kernel_rfl) ?_
 clear H E; intro w133 g132 a hc134 hg136 H E; replace E := E _ rfl; try dsimp only [setn, addE, goneL] at H
 refine vq 4 [.slice A3 snodes.length c4] [(9, .slice A3 snodes.length c4)] [World.cell? w133 ⟨g1, 1, none⟩ = some (.slice A3 snodes.length c4)] E ((H.box 5 rfl).cell (j := 1) rfl) ?_
 clear E; intro a E
 replace H := H.boxRow cNode true ([] : List Nd) 6 rfl (fun _ _ => rfl) (Nat.le_of_ble_eq_true rfl); try dsimp only [setn, addE, goneL] at H
 replace H := H.rowx 6 rfl; try dsimp only [setn, addE, goneL] at H
 obtain ⟨g137, hP⟩ := ask_inv hP
 refine h_append cNode (xs := ([] : List Nd)) (ys := snodes) ((default : Nd) : Nd) H 6 rfl E rfl rfl tbok rfl rfl rfl rfl rfl (fun _ _ => rfl) rfl rfl (fun _ HF_ => HF_.srcF flat_plain 3 rds_row) g137 ?_
 clear H E; intro w138 A139 c140 a hc141 hA142 H E; replace E := E _ rfl; try dsimp only [setn, addE, goneL] at H
 refine vp 1 [(2, .slice A139 (List.length (([] : List Nd) ++ snodes)) c140)] E ?_
 clear E; intro a E
 refine nn_ <| wp_ret ?_
 obtain rfl := Option.some.inj hP
 refine ret1 E rfl rfl ?_
 exact ⟨_, rfl, ⟨([] : List Nd) ++ snodes, A139, c140, rfl, rfl, H.sel [6, 3, 4, 5] rfl⟩⟩

/-! rejoinder/both.put -/
def both_put_l0 (N : Nat) (aAccept : List Bool) (bAccept : List Bool) (says : Bool → Bool → Bool) (r58 : (List (Int × Int)) × (List (List Int)) × (List Int) × (List Int)) : Nat → (List Bool) → Int → Option (List Bool)
  | 0, _, _ => none
  | m212 + 1, accept166, x167 =>
    if x167 < (r58.1.length : Int) then
      ask (idx x167 r58.1.length) <|
      if 0 < x167 then
        ask (idx ((List.getD r58.1 x167.toNat (0, 0)).1) aAccept.length) <|
        ask (idx ((List.getD r58.1 x167.toNat (0, 0)).2) bAccept.length) <|
        ask (idx x167 accept166.length) <|
        ask (in64 (x167 + 1)) <|
        both_put_l0 N aAccept bAccept says r58 m212 (List.set accept166 x167.toNat (says (List.getD aAccept (Int.toNat ((List.getD r58.1 x167.toNat (0, 0)).1)) false) (List.getD bAccept (Int.toNat ((List.getD r58.1 x167.toNat (0, 0)).2)) false))) (x167 + 1)
      else
        ask (idx x167 accept166.length) <|
        ask (in64 (x167 + 1)) <|
        both_put_l0 N aAccept bAccept says r58 m212 (List.set accept166 x167.toNat false) (x167 + 1)
    else
      some accept166
def both_put_l1 (N : Nat) (r58 : (List (Int × Int)) × (List (List Int)) × (List Int) × (List Int)) (r264 : (List Int) × Int) : Nat → (List Int) → (List Int) → Int → Option ((List Int) × (List Int))
  | 0, _, _, _ => none
  | m404 + 1, number368, first370, x373 =>
    if x373 < (r58.1.length : Int) then
      ask (idx x373 r264.1.length) <|
      ask (idx (List.getD r264.1 x373.toNat 0) number368.length) <|
      if ((List.getD number368 (Int.toNat (List.getD r264.1 x373.toNat 0)) 0) : Int) = 0 then
        ask (List.length first370 + List.length ([x373] : List Int) ≤ 1000000000) <|
        ask (in64 (x373 + 1)) <|
        both_put_l1 N r58 r264 m404 (List.set number368 (Int.toNat (List.getD r264.1 x373.toNat 0)) (((List.length (first370 ++ ([x373] : List Int))) : Nat) : Int)) (first370 ++ ([x373] : List Int)) (x373 + 1)
      else
        ask (in64 (x373 + 1)) <|
        both_put_l1 N r58 r264 m404 number368 first370 (x373 + 1)
    else
      some (number368, first370)
def both_put_l3 (N : Nat) (r264 : (List Int) × Int) (x405 : (List Int) × (List Int)) (r714 : List Int) : Nat → (List Int) → Int → Option (List Int)
  | 0, _, _ => none
  | m760 + 1, row739, x742 =>
    if x742 < (r714.length : Int) then
      ask (idx x742 row739.length) <|
      ask (idx (List.getD row739 x742.toNat 0) r264.1.length) <|
      ask (idx (List.getD r264.1 (Int.toNat (List.getD row739 x742.toNat 0)) 0) x405.1.length) <|
      ask (in64 ((List.getD x405.1 (Int.toNat (List.getD r264.1 (Int.toNat (List.getD row739 x742.toNat 0)) 0)) 0) - 1)) <|
      ask (in64 (x742 + 1)) <|
      both_put_l3 N r264 x405 r714 m760 (List.set row739 x742.toNat ((List.getD x405.1 (Int.toNat (List.getD r264.1 (Int.toNat (List.getD row739 x742.toNat 0)) 0)) 0) - 1)) (x742 + 1)
    else
      some row739
def both_put_f5 (N : Nat) : Option Unit :=
    some ()
def both_put_f4 (N : Nat) : Option Unit :=
    Option.bind (both_put_f5 N) fun x786 =>
    some ()
def both_put_l2 (N : Nat) (r58 : (List (Int × Int)) × (List (List Int)) × (List Int) × (List Int)) (r264 : (List Int) × Int) (x405 : (List Int) × (List Int)) : Nat → Option (Unit ⊕ ((Int × (List Bool) × (List Int) × (List Nd)) × Int))
  | 0 => none
  | m663 + 1 =>
    if 0 < (x405.2.length : Int) then
      ask (idx (0 : Int) x405.2.length) <|
      ask (idx (List.getD x405.2 (Int.toNat (0 : Int)) 0) r58.2.1.length) <|
      Option.bind (slices_Clone_int_int N (List.getD r58.2.1 (Int.toNat (List.getD x405.2 (Int.toNat (0 : Int)) 0)) [])) fun r714 =>
      Option.bind (both_put_l3 N r264 x405 r714 N r714 0) fun x761 =>
      Option.bind (both_put_f4 N) fun x783 =>
      some (Sum.inr ((0, [], [], []), 1))
    else
      some (Sum.inl ())
def both_put_f7 (N : Nat) : Option Unit :=
    some ()
def both_put_f6 (N : Nat) : Option Unit :=
    Option.bind (both_put_f7 N) fun x805 =>
    some ()
def both_put_l9 (N : Nat) (r264 : (List Int) × Int) (x405 : (List Int) × (List Int)) (r1212 : List Int) : Nat → (List Int) → Int → Option (List Int)
  | 0, _, _ => none
  | m1258 + 1, row1237, x1240 =>
    if x1240 < (r1212.length : Int) then
      ask (idx x1240 row1237.length) <|
      ask (idx (List.getD row1237 x1240.toNat 0) r264.1.length) <|
      ask (idx (List.getD r264.1 (Int.toNat (List.getD row1237 x1240.toNat 0)) 0) x405.1.length) <|
      ask (in64 ((List.getD x405.1 (Int.toNat (List.getD r264.1 (Int.toNat (List.getD row1237 x1240.toNat 0)) 0)) 0) - 1)) <|
      ask (in64 (x1240 + 1)) <|
      both_put_l9 N r264 x405 r1212 m1258 (List.set row1237 x1240.toNat ((List.getD x405.1 (Int.toNat (List.getD r264.1 (Int.toNat (List.getD row1237 x1240.toNat 0)) 0)) 0) - 1)) (x1240 + 1)
    else
      some row1237
def both_put_l8 (N : Nat) (aProps : Int) (r58 : (List (Int × Int)) × (List (List Int)) × (List Int) × (List Int)) (x213 : List Bool) (r264 : (List Int) × Int) (x405 : (List Int) × (List Int)) : Nat → (List Nd) → (List (Nd × Int)) → (List Bool) → (List Int) → Int → Option (((List Nd) × (List (Nd × Int)) × (List Bool) × (List Int)) ⊕ ((Int × (List Bool) × (List Int) × (List Nd)) × Int))
  | 0, _, _, _, _, _ => none
  | m1158 + 1, s981, s984, out986, out990, x993 =>
    if x993 < (x405.2.length : Int) then
      ask (idx x993 x405.2.length) <|
      ask (idx (List.getD x405.2 x993.toNat 0) r58.2.1.length) <|
      Option.bind (slices_Clone_int_int N (List.getD r58.2.1 (Int.toNat (List.getD x405.2 x993.toNat 0)) [])) fun r1212 =>
      Option.bind (both_put_l9 N r264 x405 r1212 N r1212 0) fun x1259 =>
      Option.bind (guard_Store_Add N aProps s981 s984 x1259) fun r1279 =>
      if (r1279.2.1 : Int) = 0 then
        ask (idx (List.getD x405.2 x993.toNat 0) x213.length) <|
        ask (List.length out986 + List.length ([(List.getD x213 (Int.toNat (List.getD x405.2 x993.toNat 0)) false)] : List Bool) ≤ 1000000000) <|
        ask (List.length out990 + List.length ([r1279.1] : List Int) ≤ 1000000000) <|
        ask (in64 (x993 + 1)) <|
        both_put_l8 N aProps r58 x213 r264 x405 m1158 r1279.2.2.1 r1279.2.2.2 (out986 ++ ([(List.getD x213 (Int.toNat (List.getD x405.2 x993.toNat 0)) false)] : List Bool)) (out990 ++ ([r1279.1] : List Int)) (x993 + 1)
      else
        some (Sum.inr ((0, [], [], []), r1279.2.1))
    else
      some (Sum.inl (s981, s984, out986, out990))
def both_put (N : Nat) (aProps : Int) (aAccept : List Bool) (aGuard : List Int) (aNodes : List Nd) (bProps : Int) (bAccept : List Bool) (bGuard : List Int) (bNodes : List Nd) (says : Bool → Bool → Bool) : Option ((Int × (List Bool) × (List Int) × (List Nd)) × Int) :=
  Option.bind (both_together N aProps aAccept aGuard aNodes bProps bAccept bGuard bNodes) fun r42 =>
  if (r42 : Int) = 0 then
    Option.bind (both_met N aProps aAccept aGuard aNodes bProps bAccept bGuard bNodes) fun r58 =>
    ask (0 ≤ (r58.1.length : Int) ∧ (r58.1.length : Int) ≤ 1000000000) <|
    Option.bind (both_put_l0 N aAccept bAccept says r58 N (List.replicate (Int.toNat (r58.1.length : Int)) (false : Bool)) 0) fun x213 =>
    Option.bind (both_refined N r58 x213) fun r264 =>
    Option.bind (both_put_l1 N r58 r264 N (List.replicate (Int.toNat (r58.1.length : Int)) (0 : Int)) [] 0) fun x405 =>
    if 256 < (x405.2.length : Int) then
      some ((0, [], [], []), 10)
    else
      Option.bind (guard_New N aProps) fun r443 =>
      Sum.elim (fun x460 =>
        Option.bind (both_put_l2 N r58 r264 x405 N ) fun x664 =>
        Sum.elim (fun x669 =>
          Option.bind (both_put_f6 N) fun x802 =>
          some ((aProps, [], [], []), 0))
         (fun x799 =>
          some x799) x664)
       (fun x461 =>
        Option.bind (both_put_l8 N aProps r58 x213 r264 x405 N [] ([] : List (Nd × Int)) [] [] 0) fun x1159 =>
        Sum.elim (fun x1167 =>
          Option.bind (guard_Store_Nodes N aProps x1167.1 x1167.2.1) fun r1412 =>
          some ((aProps, x1167.2.2.1, x1167.2.2.2, r1412), 0))
         (fun x1411 =>
          some x1411) x1159) r443
  else
    some ((0, [], [], []), r42)
theorem both_put_calls {N : Nat} {S Fa : Nat → Prop} {w0 : World} {r : (Int × (List Bool) × (List Int) × (List Nd)) × Int} (A1 : Option Addr) (c2 : Nat) (A5 : Option Addr) (c6 : Nat) (A9 : Option Addr) (c10 : Nat) (A13 : Option Addr) (c14 : Nat) (A17 : Option Addr) (c18 : Nat) (A21 : Option Addr) (c22 : Nat) (fv25 : Value) (aProps : Int) (aAccept : List Bool) (aGuard : List Int) (aNodes : List Nd) (bProps : Int) (bAccept : List Bool) (bGuard : List Int) (bNodes : List Nd) (says : Bool → Bool → Bool) (hk3 : List.length aAccept ≤ c2) (hk7 : List.length aGuard ≤ c6) (hk11 : List.length aNodes ≤ c10) (hk15 : List.length bAccept ≤ c14) (hk19 : List.length bGuard ≤ c18) (hk23 : List.length bNodes ≤ c22) (hF26 : PureF2 Try.prog fv25 says) (H : Hp S Fa w0 w0 [.ro false cBool A1 aAccept, .ro false (cInt .i64) A5 aGuard, .ro false cNode A9 aNodes, .ro false cBool A13 bAccept, .ro false (cInt .i64) A17 bGuard, .ro false cNode A21 bNodes]) (hP : both_put N aProps aAccept aGuard aNodes bProps bAccept bGuard bNodes says = some r) :
    Calls Try.prog 32 #[.agg #[.int .i64 aProps, .slice A1 aAccept.length c2, .slice A5 aGuard.length c6, .slice A9 aNodes.length c10], .agg #[.int .i64 bProps, .slice A13 bAccept.length c14, .slice A17 bGuard.length c18, .slice A21 bNodes.length c22], fv25] w0 fun e w' => ∃ v, e = .returned v ∧ ∃ (A1436 : Option Addr) (c1437 : Nat) (A1438 : Option Addr) (c1439 : Nat) (A1440 : Option Addr) (c1441 : Nat), v = .tuple #[.agg #[.int .i64 r.1.1, .slice A1436 r.1.2.1.length c1437, .slice A1438 r.1.2.2.1.length c1439, .slice A1440 r.1.2.2.2.length c1441], .int .i64 r.2] ∧ Hp S Fa w0 w' [.row true cBool 4 A1436 c1437 r.1.2.1, .row true (cInt .i64) 3 A1438 c1439 r.1.2.2.1, .row true cNode 49 A1440 c1441 r.1.2.2.2] := by
 refine enterV (n := 193) Try.func32 rfl rfl rfl ?_
 intro a E
 replace E := E.pick [(0, .agg #[.int .i64 aProps, .slice A1 aAccept.length c2, .slice A5 aGuard.length c6, .slice A9 aNodes.length c10]), (1, .agg #[.int .i64 bProps, .slice A13 bAccept.length c14, .slice A17 bGuard.length c18, .slice A21 bNodes.length c22]), (2, fv25)] ⟨rfl, rfl, rfl, trivial⟩
 rw [both_put] at hP
 refine sr_ <| h_box H E rfl rfl rfl ?_
 clear H E; intro w28 g27 a hc29 hg31 H E; replace E := E _ rfl; try dsimp only [setn, addE, goneL] at H
 refine h_box H E rfl rfl rfl ?_
 clear H E; intro w33 g32 a hc34 hg36 H E; replace E := E _ rfl; try dsimp only [setn, addE, goneL] at H
 refine h_alloc H E rfl rfl tbok rfl ?_
 clear H E; intro w38 g37 a hc39 hg41 H E; replace E := E _ rfl; try dsimp only [setn, addE, goneL] at H
 refine vp 1 [] E ?_
 clear E; intro a E
 refine nn_ <| wp_seq <| sr_ <| vq 2 [.agg #[.int .i64 aProps, .slice A1 aAccept.length c2, .slice A5 aGuard.length c6, .slice A9 aNodes.length c10], .agg #[.int .i64 bProps, .slice A13 bAccept.length c14, .slice A17 bGuard.length c18, .slice A21 bNodes.length c22]] [(28, .agg #[.int .i64 aProps, .slice A1 aAccept.length c2, .slice A5 aGuard.length c6, .slice A9 aNodes.length c10]), (29, .agg #[.int .i64 bProps, .slice A13 bAccept.length c14, .slice A17 bGuard.length c18, .slice A21 bNodes.length c22])] [cellsAt w38 g27 (0) [.int .i64 aProps, .slice A1 aAccept.length c2, .slice A5 aGuard.length c6, .slice A9 aNodes.length c10], cellsAt w38 g32 (0) [.int .i64 bProps, .slice A13 bAccept.length c14, .slice A17 bGuard.length c18, .slice A21 bNodes.length c22]] E ⟨(H.box 6 rfl).sub 0 _ rfl, (H.box 7 rfl).sub 0 _ rfl⟩ ?_
 clear E; intro a E
 obtain ⟨r42, h43, hP⟩ := bind_inv hP
 obtain ⟨Fa44, Hc45, hb46⟩ := H.call [] [(0, false), (1, false), (2, false), (3, false), (4, false), (5, false)] rfl rfl trivial
 refine e_call E rfl rfl Try.func42 rfl rfl rfl (both_together_calls A1 c2 A5 c6 A9 c10 A13 c14 A17 c18 A21 c22 aProps aAccept aGuard aNodes bProps bAccept bGuard bNodes hk3 hk7 hk11 hk15 hk19 hk23 Hc45 h43) ?_
 rintro v47 w48 a ⟨rfl, HR49⟩ E_
 replace E := E_ _ rfl; clear E_
 obtain ⟨H_, hc50⟩ := hb46 _ _ HR49 rfl
 replace H := H_; clear H_; try dsimp only [setn, addE, goneL] at H
 refine vp 1 [(8, .int .i64 r42)] E ?_
 clear E; intro a E
 refine nn_ <| sr_ <| vp 2 [(32, .bool ((r42 : Int) != 0))] E ?_
 clear E; intro a E
 refine nn_ ?_
 revert E; refine csE 32 rfl (fun hb_ E => ?_) fun hb_ E => ?_
 ·
  have h51 : ¬ ((r42 : Int) = 0) := bne_iff_ne.1 hb_
  replace hP := ite_f h51 hP
  refine c_true E rfl <| sr_ <| e_build (ps := []) (v := .agg #[.int .i64 0, .slice none 0 0, .slice none 0 0, .slice none 0 0]) E rfl rfl tbok rfl (by kernel_rfl) rfl ?_
  clear E; intro a E
  refine vp 1 [(34, .int .i64 r42)] E ?_
  clear E; intro a E
  refine h_store (g := g37) (off := 0) H 8 rfl E rfl rfl rfl rfl tbok rfl rfl rfl rfl rfl ?_
  clear E; intro w52 a hc53 H_ E
  replace H := H_; clear H_; try dsimp only [setn, addE, goneL] at H
  refine vp 1 [(7, .int .i64 r42)] E ?_
  clear E; intro a E
  refine nn_ <| wp_ret <| th_ret ?_
  replace H := H.nilrow cBool 4; try dsimp only [setn, addE, goneL] at H
  replace H := H.nilrow (cInt .i64) 3; try dsimp only [setn, addE, goneL] at H
  replace H := H.nilrow cNode 49; try dsimp only [setn, addE, goneL] at H
  obtain rfl := Option.some.inj hP
  refine retV E [.cell 6 26, .tmp 7] [.agg #[.int .i64 0, .slice none 0 0, .slice none 0 0, .slice none 0 0], .int .i64 r42] rfl ⟨⟨_, rfl, run_loadBx tbok (H.box 8 rfl) rfl rfl rfl 0 rfl rfl⟩, rfl, trivial⟩ (.inl rfl) ?_
  exact ⟨_, rfl, none, 0, none, 0, none, 0, rfl, H.sel [9, 10, 11] rfl⟩
 have h57 : (r42 : Int) = 0 := bne_eq_false_iff_eq.1 hb_
 replace hP := ite_t h57 hP
 refine c_false E rfl <| wp_skip <| th_n <| sr_ <| vq 2 [.agg #[.int .i64 aProps, .slice A1 aAccept.length c2, .slice A5 aGuard.length c6, .slice A9 aNodes.length c10], .agg #[.int .i64 bProps, .slice A13 bAccept.length c14, .slice A17 bGuard.length c18, .slice A21 bNodes.length c22]] [(35, .agg #[.int .i64 aProps, .slice A1 aAccept.length c2, .slice A5 aGuard.length c6, .slice A9 aNodes.length c10]), (36, .agg #[.int .i64 bProps, .slice A13 bAccept.length c14, .slice A17 bGuard.length c18, .slice A21 bNodes.length c22])] [cellsAt w48 g27 (0) [.int .i64 aProps, .slice A1 aAccept.length c2, .slice A5 aGuard.length c6, .slice A9 aNodes.length c10], cellsAt w48 g32 (0) [.int .i64 bProps, .slice A13 bAccept.length c14, .slice A17 bGuard.length c18, .slice A21 bNodes.length c22]] E ⟨(H.box 6 rfl).sub 0 _ rfl, (H.box 7 rfl).sub 0 _ rfl⟩ ?_
 clear E; intro a E
 obtain ⟨r58, h59, hP⟩ := bind_inv hP
 obtain ⟨Fa60, Hc61, hb62⟩ := H.call [] [(0, false), (1, false), (2, false), (3, false), (4, false), (5, false)] rfl rfl trivial
 refine e_call E rfl rfl Try.func60 rfl rfl rfl (both_met_calls A1 c2 A5 c6 A9 c10 A13 c14 A17 c18 A21 c22 aProps aAccept aGuard aNodes bProps bAccept bGuard bNodes hk3 hk7 hk11 hk15 hk19 hk23 Hc61 h59) ?_
 intro v68 w67 a hR69 E_
 obtain ⟨x_, b72, hr_, rfl, HR71⟩ := hR69
 subst hr_
 replace E := E_ _ rfl; clear E_
 obtain ⟨H_, hc70⟩ := hb62 _ _ HR71 rfl
 replace H := H_; clear H_; try dsimp only [setn, addE, goneL] at H
 refine vp 1 [(9, .pointer (some ⟨b72, 0, none⟩))] E ?_
 clear E; intro a E
 refine nn_ <| sr_ ?_
 obtain ⟨Fz74, cs76, HF75, hK77, hc78⟩ := H.elem 9 true (el_ro rfl) r58 (idx_one _)
 obtain ⟨_, _, rfl, hK79, hK80⟩ := hK77
 obtain ⟨A81, c82, rfl, hk83, hC84⟩ := hK79
 obtain ⟨_, _, rfl, hK86, hK87⟩ := hK80
 obtain ⟨A88, c89, rfl, hk90, hC91⟩ := hK86
 obtain ⟨_, _, rfl, hK93, hK94⟩ := hK87
 obtain ⟨A95, c96, rfl, hk97, hC98⟩ := hK93
 obtain ⟨A100, c101, rfl, hk102, hC103⟩ := hK94
 replace HF75 := HF75.ins hC84
 replace HF75 := HF75.ins hC91
 replace HF75 := HF75.ins hC98
 replace HF75 := HF75.ins hC103
 replace H := HF75.hp; try dsimp only [addE] at H
 have hc105 : cellsAt w67 b72 (0) [.slice A81 r58.1.length c82, .slice A88 r58.2.1.length c89, .slice A95 r58.2.2.1.length c96, .slice A100 r58.2.2.2.length c101] := hc78
 refine vq 5 [.slice A81 r58.1.length c82] [(42, .int .i64 (r58.1.length : Int))] [World.cell? w67 ⟨b72, 0, none⟩ = some (.slice A81 r58.1.length c82)] E (hc105.1) ?_
 clear E; intro a E
 obtain ⟨g106, hP⟩ := ask_inv hP
 refine h_make cBool (false : Bool) H E rfl rfl tbok rfl rfl rfl rfl ⟨g106.1, Int.le_refl _, g106.2⟩ rfl rfl rfl (fun _ _ => rfl) ?_
 clear H E; intro w108 g107 a hc109 hg111 H E; replace E := E _ rfl; try dsimp only [setn, addE, goneL] at H
 refine vp 1 [(10, .slice (some ⟨g107, 0, none⟩) (List.length (List.replicate (Int.toNat (r58.1.length : Int)) (false : Bool))) (Int.toNat (r58.1.length : Int)))] E ?_
 clear E; intro a E
 refine nn_ <| wp_seq <| sr_ ?_
 obtain ⟨Fz112, cs114, HF113, hK115, hc116⟩ := H.elem 9 true (el_ro rfl) r58 (idx_one _)
 obtain ⟨_, _, rfl, hK117, hK118⟩ := hK115
 obtain ⟨A119, c120, rfl, hk121, hC122⟩ := hK117
 obtain ⟨_, _, rfl, hK124, hK125⟩ := hK118
 obtain ⟨A126, c127, rfl, hk128, hC129⟩ := hK124
 obtain ⟨_, _, rfl, hK131, hK132⟩ := hK125
 obtain ⟨A133, c134, rfl, hk135, hC136⟩ := hK131
 obtain ⟨A138, c139, rfl, hk140, hC141⟩ := hK132
 replace HF113 := HF113.ins hC122
 replace HF113 := HF113.ins hC129
 replace HF113 := HF113.ins hC136
 replace HF113 := HF113.ins hC141
 replace H := HF113.hp; try dsimp only [addE] at H
 have hc143 : cellsAt w108 b72 (0) [.slice A119 r58.1.length c120, .slice A126 r58.2.1.length c127, .slice A133 r58.2.2.1.length c134, .slice A138 r58.2.2.2.length c139] := hc116
 refine vq 6 [.slice A119 r58.1.length c120] [(47, .slice A119 r58.1.length c120), (48, .int .i64 (r58.1.length : Int)), (49, .int .i64 0)] [World.cell? w108 ⟨b72, 0, none⟩ = some (.slice A119 r58.1.length c120)] E (hc143.1) ?_
 clear E; intro a E
 refine nn_ <| wp_block ?_
 obtain ⟨x213, hL214, hK215⟩ := bind_inv hP
 clear hP
 refine loop_cut (fun i_ a w_ => (i_ = 0 ∧ ∃ (x218 : List Bool), Fr a 193 [(3, .pointer (some ⟨g27, 0, none⟩)), (6, .pointer (some ⟨g37, 0, none⟩)), (9, .pointer (some ⟨b72, 0, none⟩)), (10, .slice (some ⟨g107, 0, none⟩) x218.length (Int.toNat (r58.1.length : Int)))] ∧ Hp S Fa w0 w_ [.ro false cBool A1 aAccept, .ro false (cInt .i64) A5 aGuard, .ro false cNode A9 aNodes, .box g27 26 [.int .i64 aProps, .slice A1 aAccept.length c2, .slice A5 aGuard.length c6, .slice A9 aNodes.length c10], .box g37 26 [.int .i64 0, .slice none 0 0, .slice none 0 0, .slice none 0 0], .ro true cS81 (some ⟨b72, 0, none⟩) ([r58]), .rowx true cBool 4 (some ⟨g107, 0, none⟩) (Int.toNat (r58.1.length : Int)) x218 (List.replicate (Int.toNat (r58.1.length : Int) - Int.toNat (r58.1.length : Int)) (false : Bool))] ∧ x213 = x218)) ?_ ?_
 ·
  refine loopV (fun m217 a w216 => ∃ (accept166 : List Bool) (x167 : Int), Fr a 193 [(2, fv25), (3, .pointer (some ⟨g27, 0, none⟩)), (4, .pointer (some ⟨g32, 0, none⟩)), (6, .pointer (some ⟨g37, 0, none⟩)), (9, .pointer (some ⟨b72, 0, none⟩)), (10, .slice (some ⟨g107, 0, none⟩) accept166.length (Int.toNat (r58.1.length : Int))), (47, .slice A119 r58.1.length c120), (48, .int .i64 (r58.1.length : Int)), (49, .int .i64 x167)] ∧ Hp S Fa w0 w216 [.ro false cBool A1 aAccept, .ro false (cInt .i64) A5 aGuard, .ro false cNode A9 aNodes, .box g27 26 [.int .i64 aProps, .slice A1 aAccept.length c2, .slice A5 aGuard.length c6, .slice A9 aNodes.length c10], .ro false cBool A13 bAccept, .ro false (cInt .i64) A17 bGuard, .ro false cNode A21 bNodes, .box g32 26 [.int .i64 bProps, .slice A13 bAccept.length c14, .slice A17 bGuard.length c18, .slice A21 bNodes.length c22], .box g37 26 [.int .i64 0, .slice none 0 0, .slice none 0 0, .slice none 0 0], .ro true cS81 (some ⟨b72, 0, none⟩) ([r58]), .rowx true cBool 4 (some ⟨g107, 0, none⟩) (Int.toNat (r58.1.length : Int)) accept166 (List.replicate (Int.toNat (r58.1.length : Int) - Int.toNat (r58.1.length : Int)) (false : Bool)), .ro true cS83 A119 r58.1] ∧ both_put_l0 N aAccept bAccept says r58 m217 accept166 x167 = some x213) N ?_ ?_
  ·
   exact ⟨List.replicate (Int.toNat (r58.1.length : Int)) (false : Bool), 0, E.pk, H.sel [0, 1, 2, 6, 3, 4, 5, 7, 8, 9, 14, 15] rfl, hL214⟩
  clear E H hL214; intro m217 a w216 hI_
  obtain ⟨accept166, x167, E, H, hP⟩ := hI_
  obtain ⟨m212, rfl⟩ : ∃ q_, m217 = q_ + 1 := by cases m217 with | zero => rw [both_put_l0] at hP; cases hP | succ q_ => exact ⟨q_, rfl⟩
  rw [both_put_l0] at hP
  refine sr_ <| vp 1 [(50, .bool (decide (x167 < (r58.1.length : Int))))] E ?_
  clear E; intro a E
  refine nn_ <| wp_seq ?_
  revert E; refine csE 50 rfl (fun hb_ E => ?_) fun hb_ E => ?_
  ·
   have h219 : x167 < (r58.1.length : Int) := of_decide_eq_true hb_
   replace hP := ite_t h219 hP
   refine c_true E rfl <| wp_skip <| th_n <| wp_seq <| wp_block <| sr_ ?_
   obtain ⟨g220, hP⟩ := ask_inv hP
   obtain ⟨b221, o222, e_b221⟩ := (H.rd 11 rds_ro).addr (idx_pos g220)
   subst e_b221
   refine vq 3 [.agg #[.int .i64 ((List.getD r58.1 x167.toNat (0, 0)).1), .int .i64 ((List.getD r58.1 x167.toNat (0, 0)).2)]] [(51, .int .i64 x167), (53, .agg #[.int .i64 ((List.getD r58.1 x167.toNat (0, 0)).1), .int .i64 ((List.getD r58.1 x167.toNat (0, 0)).2)])] [0 ≤ x167 ∧ x167 < (r58.1.length : Int), cellsAt w216 b221 (o222 + x167.toNat * 2) [.int .i64 ((List.getD r58.1 x167.toNat (0, 0)).1), .int .i64 ((List.getD r58.1 x167.toNat (0, 0)).2)]] E ⟨g220, Rds.atP (H.rd 11 rds_ro) (0, 0) g220⟩ ?_
   clear E; intro a E
   refine h_alloc H E rfl rfl tbok rfl ?_
   clear H E; intro w224 g223 a hc225 hg227 H E; replace E := E _ rfl; try dsimp only [setn, addE, goneL] at H
   refine vp 1 [(11, .int .i64 x167)] E ?_
   clear E; intro a E
   refine h_store (g := g223) (off := 0) H 12 rfl E rfl rfl rfl rfl tbok rfl rfl rfl rfl rfl ?_
   clear E; intro w228 a hc229 H_ E
   replace H := H_; clear H_; try dsimp only [setn, addE, goneL] at H
   refine nn_ ?_
   by_cases h230 : 0 < x167
   ·
    replace hP := ite_t h230 hP
    obtain ⟨g231, hP⟩ := ask_inv hP
    obtain ⟨b232, o233, e_b232⟩ := (H.rd 0 rds_ro).addr (idx_pos g231)
    subst e_b232
    obtain ⟨g234, hP⟩ := ask_inv hP
    obtain ⟨b235, o236, e_b235⟩ := (H.rd 4 rds_ro).addr (idx_pos g234)
    subst e_b235
    refine dr_start (S := fun _ => True) (by kernel_rfl) ?_
    intro w237 hc238
    replace H := H.ext hc238
    refine dr tbok (by kernel_rfl) [0, 1] [] [(2, fv25), (3, .pointer (some ⟨g27, 0, none⟩)), (4, .pointer (some ⟨g32, 0, none⟩)), (6, .pointer (some ⟨g37, 0, none⟩)), (9, .pointer (some ⟨b72, 0, none⟩)), (10, .slice (some ⟨g107, 0, none⟩) accept166.length (Int.toNat (r58.1.length : Int))), (11, .int .i64 x167), (12, .pointer (some ⟨g223, 0, none⟩)), (47, .slice (some ⟨b221, o222, none⟩) r58.1.length c120), (48, .int .i64 (r58.1.length : Int)), (49, .int .i64 x167), (53, .agg #[.int .i64 ((List.getD r58.1 x167.toNat (0, 0)).1), .int .i64 ((List.getD r58.1 x167.toNat (0, 0)).2)]), (54, .slice (some ⟨g107, 0, none⟩) accept166.length (Int.toNat (r58.1.length : Int))), (55, .int .i64 x167)] (fun w_ => []) 20 E (fun _ _ => by kernel_rfl) (fun w_ hS_ => trivial) (by kernel_rfl) trivial ?_
    clear E; intro a E
    refine dr_cut (S := fun w_ => Chg (atL []) w237 w_) 18 16 #[true, true, false, false, false, false, false, false, false, false, false, false, false, false, false, false, false, false] (fun a w239 => Fr a 193 [(2, fv25), (3, .pointer (some ⟨g27, 0, none⟩)), (4, .pointer (some ⟨g32, 0, none⟩)), (6, .pointer (some ⟨g37, 0, none⟩)), (9, .pointer (some ⟨b72, 0, none⟩)), (10, .slice (some ⟨g107, 0, none⟩) accept166.length (Int.toNat (r58.1.length : Int))), (47, .slice (some ⟨b221, o222, none⟩) r58.1.length c120), (48, .int .i64 (r58.1.length : Int)), (49, .int .i64 x167), (54, .slice (some ⟨g107, 0, none⟩) accept166.length (Int.toNat (r58.1.length : Int))), (55, .int .i64 x167), (58, .bool true), (59, fv25), (65, .bool (List.getD aAccept (Int.toNat ((List.getD r58.1 x167.toNat (0, 0)).1)) false)), (71, .bool (List.getD bAccept (Int.toNat ((List.getD r58.1 x167.toNat (0, 0)).2)) false))] ∧ Hp S Fa w0 w239 [.ro false cBool (some ⟨b232, o233, none⟩) aAccept, .ro false (cInt .i64) A5 aGuard, .ro false cNode A9 aNodes, .box g27 26 [.int .i64 aProps, .slice (some ⟨b232, o233, none⟩) aAccept.length c2, .slice A5 aGuard.length c6, .slice A9 aNodes.length c10], .ro false cBool (some ⟨b235, o236, none⟩) bAccept, .ro false (cInt .i64) A17 bGuard, .ro false cNode A21 bNodes, .box g32 26 [.int .i64 bProps, .slice (some ⟨b235, o236, none⟩) bAccept.length c14, .slice A17 bGuard.length c18, .slice A21 bNodes.length c22], .box g37 26 [.int .i64 0, .slice none 0 0, .slice none 0 0, .slice none 0 0], .ro true cS81 (some ⟨b72, 0, none⟩) ([r58]), .rowx true cBool 4 (some ⟨g107, 0, none⟩) (Int.toNat (r58.1.length : Int)) accept166 (List.replicate (Int.toNat (r58.1.length : Int) - Int.toNat (r58.1.length : Int)) (false : Bool)), .ro true cS83 (some ⟨b221, o222, none⟩) r58.1]) (by kernel_rfl) (by kernel_rfl) rfl (by kernel_rfl) (by kernel_rfl) ?_ ?_
    ·
     have HR243 := H
     have HS242 : Chg (atL []) w237 w237 := Chg.refl _ _
     refine dn tbok (by kernel_rfl) [2, 3, 4] [] [(58, .bool (decide (0 < x167)))] (fun w_ => []) 13 E (fun _ _ => by kernel_rfl) (by kernel_rfl) (fun w_ hS_ => trivial) (by kernel_rfl) HS242 ?_
     clear E; intro a E
     replace E := E.same (t := 58) (u := .bool true) rfl (congrArg Value.bool (decide_eq_true h230))
     refine dn tbok (by kernel_rfl) [5, 6, 7, 8, 9, 10, 11, 12, 13, 14, 15, 16, 17] [.slice (some ⟨b232, o233, none⟩) aAccept.length c2, .int .i64 ((List.getD r58.1 x167.toNat (0, 0)).1), .bool (List.getD aAccept (Int.toNat ((List.getD r58.1 x167.toNat (0, 0)).1)) false), .slice (some ⟨b235, o236, none⟩) bAccept.length c14, .int .i64 ((List.getD r58.1 x167.toNat (0, 0)).2), .bool (List.getD bAccept (Int.toNat ((List.getD r58.1 x167.toNat (0, 0)).2)) false)] [(59, fv25), (65, .bool (List.getD aAccept (Int.toNat ((List.getD r58.1 x167.toNat (0, 0)).1)) false)), (71, .bool (List.getD bAccept (Int.toNat ((List.getD r58.1 x167.toNat (0, 0)).2)) false))] (fun w_ => [World.cell? w_ ⟨g27, 1, none⟩ = some (.slice (some ⟨b232, o233, none⟩) aAccept.length c2), 0 ≤ (0 : Int) ∧ (0 : Int) < ((2 : Nat) : Int), World.cell? w_ ⟨g223, 0, none⟩ = some (.int .i64 ((List.getD r58.1 x167.toNat (0, 0)).1)), 0 ≤ ((List.getD r58.1 x167.toNat (0, 0)).1) ∧ ((List.getD r58.1 x167.toNat (0, 0)).1) < (aAccept.length : Int), World.cell? w_ ⟨b232, o233 + (Int.toNat ((List.getD r58.1 x167.toNat (0, 0)).1)) * 1, none⟩ = some (.bool (List.getD aAccept (Int.toNat ((List.getD r58.1 x167.toNat (0, 0)).1)) false)), World.cell? w_ ⟨g32, 1, none⟩ = some (.slice (some ⟨b235, o236, none⟩) bAccept.length c14), 0 ≤ (1 : Int) ∧ (1 : Int) < ((2 : Nat) : Int), World.cell? w_ ⟨g223, 1, none⟩ = some (.int .i64 ((List.getD r58.1 x167.toNat (0, 0)).2)), 0 ≤ ((List.getD r58.1 x167.toNat (0, 0)).2) ∧ ((List.getD r58.1 x167.toNat (0, 0)).2) < (bAccept.length : Int), World.cell? w_ ⟨b235, o236 + (Int.toNat ((List.getD r58.1 x167.toNat (0, 0)).2)) * 1, none⟩ = some (.bool (List.getD bAccept (Int.toNat ((List.getD r58.1 x167.toNat (0, 0)).2)) false))]) 0 E (fun _ _ => by kernel_rfl) (by kernel_rfl) (fun w_ hS_ => ⟨(HR243.boxk [] hS_ 3 rfl rfl).cell (j := 1) rfl, ⟨by decide, by decide⟩, (HR243.boxk [] hS_ 12 rfl rfl).cell (j := 0) rfl, g231, Rds.at1 (HR243.rdk [] hS_ 0 rds_ro rfl) false g231, (HR243.boxk [] hS_ 7 rfl rfl).cell (j := 1) rfl, ⟨by decide, by decide⟩, (HR243.boxk [] hS_ 12 rfl rfl).cell (j := 1) rfl, g234, Rds.at1 (HR243.rdk [] hS_ 4 rds_ro rfl) false g234⟩) (by kernel_rfl) HS242 ?_
     clear E; intro a E
     refine dr_doneM (by kernel_rfl) ?_
     exact ⟨E.pk, H.sel (up 12) rfl⟩
    clear E H; rintro a w239 ⟨E, H⟩
    refine e_callS E rfl rfl hF26 rfl rfl ?_
    intro w244 a hc245 E_
    replace E := E_ _ rfl; clear E_
    replace H := H.ext hc245
    obtain ⟨g246, hP⟩ := ask_inv hP
    refine vq 2 [] [(73, .bool (says (List.getD aAccept (Int.toNat ((List.getD r58.1 x167.toNat (0, 0)).1)) false) (List.getD bAccept (Int.toNat ((List.getD r58.1 x167.toNat (0, 0)).2)) false))), (74, .pointer (some ⟨g107, 0 + x167.toNat * 1, none⟩))] [0 ≤ x167 ∧ x167 < (accept166.length : Int)] E (g246) ?_
    clear E; intro a E
    refine h_setx (g := g107) (i := x167) (says (List.getD aAccept (Int.toNat ((List.getD r58.1 x167.toNat (0, 0)).1)) false) (List.getD bAccept (Int.toNat ((List.getD r58.1 x167.toNat (0, 0)).2)) false)) H 10 rfl E rfl rfl rfl rfl tbok rfl (fun _ HF_ => rfl) rfl g246 rfl ?_
    clear E; intro w247 a hc248 H_ E
    replace H := H_; clear H_; try dsimp only [setn, addE, goneL] at H
    have hn249 : accept166.length = (List.length (List.set accept166 x167.toNat (says (List.getD aAccept (Int.toNat ((List.getD r58.1 x167.toNat (0, 0)).1)) false) (List.getD bAccept (Int.toNat ((List.getD r58.1 x167.toNat (0, 0)).2)) false)))) := by simp only [List.length_set]
    replace E := E.same (t := 10) (u := .slice (some ⟨g107, 0, none⟩) (List.length (List.set accept166 x167.toNat (says (List.getD aAccept (Int.toNat ((List.getD r58.1 x167.toNat (0, 0)).1)) false) (List.getD bAccept (Int.toNat ((List.getD r58.1 x167.toNat (0, 0)).2)) false)))) (Int.toNat (r58.1.length : Int))) rfl (congrArg (fun n_ => Value.slice (some ⟨g107, 0, none⟩) n_ (Int.toNat (r58.1.length : Int))) hn249)
    refine nl_ <| NoPanic.normal ?_
    refine bl_n <| th_n <| rl_ ?_
    obtain ⟨g250, hP⟩ := ask_inv hP
    refine vq 2 [.int .i64 (x167 + 1)] [(49, .int .i64 (x167 + 1))] [IntKind.i64.wrap (x167 + 1) = x167 + 1] E (wrap_in g250) ?_
    clear E; intro a E
    refine nl_ ?_
    exact th_n ⟨m212, Nat.lt_succ_self _, List.set accept166 x167.toNat (says (List.getD aAccept (Int.toNat ((List.getD r58.1 x167.toNat (0, 0)).1)) false) (List.getD bAccept (Int.toNat ((List.getD r58.1 x167.toNat (0, 0)).2)) false)), x167 + 1, E.pk, H.sel (up 12) rfl, hP⟩
   replace hP := ite_f h230 hP
   refine dr_start (S := fun _ => True) (by kernel_rfl) ?_
   intro w251 hc252
   replace H := H.ext hc252
   refine dr tbok (by kernel_rfl) [0, 1] [] [(2, fv25), (3, .pointer (some ⟨g27, 0, none⟩)), (4, .pointer (some ⟨g32, 0, none⟩)), (6, .pointer (some ⟨g37, 0, none⟩)), (9, .pointer (some ⟨b72, 0, none⟩)), (10, .slice (some ⟨g107, 0, none⟩) accept166.length (Int.toNat (r58.1.length : Int))), (11, .int .i64 x167), (12, .pointer (some ⟨g223, 0, none⟩)), (47, .slice (some ⟨b221, o222, none⟩) r58.1.length c120), (48, .int .i64 (r58.1.length : Int)), (49, .int .i64 x167), (53, .agg #[.int .i64 ((List.getD r58.1 x167.toNat (0, 0)).1), .int .i64 ((List.getD r58.1 x167.toNat (0, 0)).2)]), (54, .slice (some ⟨g107, 0, none⟩) accept166.length (Int.toNat (r58.1.length : Int))), (55, .int .i64 x167)] (fun w_ => []) 20 E (fun _ _ => by kernel_rfl) (fun w_ hS_ => trivial) (by kernel_rfl) trivial ?_
   clear E; intro a E
   refine dr_cut (S := fun w_ => Chg (atL []) w251 w_) 18 16 #[true, true, false, false, false, false, false, false, false, false, false, false, false, false, false, false, false, false] (fun a w253 => Fr a 193 [(2, fv25), (3, .pointer (some ⟨g27, 0, none⟩)), (4, .pointer (some ⟨g32, 0, none⟩)), (6, .pointer (some ⟨g37, 0, none⟩)), (9, .pointer (some ⟨b72, 0, none⟩)), (10, .slice (some ⟨g107, 0, none⟩) accept166.length (Int.toNat (r58.1.length : Int))), (47, .slice (some ⟨b221, o222, none⟩) r58.1.length c120), (48, .int .i64 (r58.1.length : Int)), (49, .int .i64 x167), (54, .slice (some ⟨g107, 0, none⟩) accept166.length (Int.toNat (r58.1.length : Int))), (55, .int .i64 x167), (58, .bool false), (59, .tuple #[]), (65, .tuple #[]), (71, .tuple #[])] ∧ Hp S Fa w0 w253 [.ro false cBool A1 aAccept, .ro false (cInt .i64) A5 aGuard, .ro false cNode A9 aNodes, .box g27 26 [.int .i64 aProps, .slice A1 aAccept.length c2, .slice A5 aGuard.length c6, .slice A9 aNodes.length c10], .ro false cBool A13 bAccept, .ro false (cInt .i64) A17 bGuard, .ro false cNode A21 bNodes, .box g32 26 [.int .i64 bProps, .slice A13 bAccept.length c14, .slice A17 bGuard.length c18, .slice A21 bNodes.length c22], .box g37 26 [.int .i64 0, .slice none 0 0, .slice none 0 0, .slice none 0 0], .ro true cS81 (some ⟨b72, 0, none⟩) ([r58]), .rowx true cBool 4 (some ⟨g107, 0, none⟩) (Int.toNat (r58.1.length : Int)) accept166 (List.replicate (Int.toNat (r58.1.length : Int) - Int.toNat (r58.1.length : Int)) (false : Bool)), .ro true cS83 (some ⟨b221, o222, none⟩) r58.1]) (by kernel_rfl) (by kernel_rfl) rfl (by kernel_rfl) (by kernel_rfl) ?_ ?_
   ·
    have HR257 := H
    have HS256 : Chg (atL []) w251 w251 := Chg.refl _ _
    refine dn tbok (by kernel_rfl) [2, 3, 4] [] [(58, .bool (decide (0 < x167)))] (fun w_ => []) 13 E (fun _ _ => by kernel_rfl) (by kernel_rfl) (fun w_ hS_ => trivial) (by kernel_rfl) HS256 ?_
    clear E; intro a E
    replace E := E.same (t := 58) (u := .bool false) rfl (congrArg Value.bool (decide_eq_false h230))
    refine dn tbok (by kernel_rfl) [5, 6, 7, 8, 9, 10, 11, 12, 13, 14, 15, 16, 17] [] [(59, .tuple #[]), (65, .tuple #[]), (71, .tuple #[])] (fun w_ => []) 0 E (fun _ _ => by kernel_rfl) (by kernel_rfl) (fun w_ hS_ => trivial) (by kernel_rfl) HS256 ?_
    clear E; intro a E
    refine dr_doneM (by kernel_rfl) ?_
    exact ⟨E.pk, H.sel (up 12) rfl⟩
   clear E H; rintro a w253 ⟨E, H⟩
   obtain ⟨g258, hP⟩ := ask_inv hP
   refine vq 3 [] [(73, .bool false), (74, .pointer (some ⟨g107, 0 + x167.toNat * 1, none⟩))] [0 ≤ x167 ∧ x167 < (accept166.length : Int)] E (g258) ?_
   clear E; intro a E
   refine h_setx (g := g107) (i := x167) false H 10 rfl E rfl rfl rfl rfl tbok rfl (fun _ HF_ => rfl) rfl g258 rfl ?_
   clear E; intro w259 a hc260 H_ E
   replace H := H_; clear H_; try dsimp only [setn, addE, goneL] at H
   have hn261 : accept166.length = (List.length (List.set accept166 x167.toNat false)) := by simp only [List.length_set]
   replace E := E.same (t := 10) (u := .slice (some ⟨g107, 0, none⟩) (List.length (List.set accept166 x167.toNat false)) (Int.toNat (r58.1.length : Int))) rfl (congrArg (fun n_ => Value.slice (some ⟨g107, 0, none⟩) n_ (Int.toNat (r58.1.length : Int))) hn261)
   refine nl_ <| NoPanic.normal ?_
   refine bl_n <| th_n <| rl_ ?_
   obtain ⟨g262, hP⟩ := ask_inv hP
   refine vq 2 [.int .i64 (x167 + 1)] [(49, .int .i64 (x167 + 1))] [IntKind.i64.wrap (x167 + 1) = x167 + 1] E (wrap_in g262) ?_
   clear E; intro a E
   refine nl_ ?_
   exact th_n ⟨m212, Nat.lt_succ_self _, List.set accept166 x167.toNat false, x167 + 1, E.pk, H.sel (up 12) rfl, hP⟩
  have h263 : ¬ (x167 < (r58.1.length : Int)) := of_decide_eq_false hb_
  replace hP := ite_f h263 hP
  refine c_false E rfl <| wp_exit <| th_exit ?_
  have hx_ := Option.some.inj hP
  refine th_exit (.inl ⟨0, rfl, ?_⟩)
  exact ⟨rfl, accept166, E.pk, H.sel [0, 1, 2, 3, 8, 9, 10] rfl, hx_.symm⟩
 clear E H hL214; intro i_ a w216 hM_
 obtain ⟨rfl, x218, E, H, hx_⟩ := hM_
 subst hx_; have hP := hK215; clear hK215
 refine bl_hit <| th_n <| sr_ <| vp 2 [(77, .pointer (some ⟨b72, 0, none⟩)), (78, .slice (some ⟨g107, 0, none⟩) x213.length (Int.toNat (r58.1.length : Int)))] E ?_
 clear E; intro a E
 obtain ⟨r264, h265, hP⟩ := bind_inv hP
 obtain ⟨Fa266, Hc267, hb268⟩ := H.call [] [(5, false), (6, false)] rfl rfl trivial
 refine e_call E rfl rfl Try.func61 rfl rfl rfl (both_refined_calls b72 0 (some ⟨g107, 0, none⟩) (Int.toNat (r58.1.length : Int)) r58 x213 (H.rcapx 6 rfl) Hc267 h265) ?_
 rintro v269 w270 a ⟨A273, c274, rfl, HR271⟩ E_
 replace E := E_ _ rfl; clear E_
 obtain ⟨H_, hc272⟩ := hb268 _ _ HR271 rfl
 replace H := H_; clear H_; try dsimp only [setn, addE, goneL] at H
 refine vp 5 [(13, .slice A273 r264.1.length c274)] E ?_
 clear E; intro a E
 refine nn_ <| sr_ ?_
 obtain ⟨Fz276, cs278, HF277, hK279, hc280⟩ := H.elem 5 true (el_ro rfl) r58 (idx_one _)
 obtain ⟨_, _, rfl, hK281, hK282⟩ := hK279
 obtain ⟨A283, c284, rfl, hk285, hC286⟩ := hK281
 obtain ⟨_, _, rfl, hK288, hK289⟩ := hK282
 obtain ⟨A290, c291, rfl, hk292, hC293⟩ := hK288
 obtain ⟨_, _, rfl, hK295, hK296⟩ := hK289
 obtain ⟨A297, c298, rfl, hk299, hC300⟩ := hK295
 obtain ⟨A302, c303, rfl, hk304, hC305⟩ := hK296
 replace HF277 := HF277.ins hC286
 replace HF277 := HF277.ins hC293
 replace HF277 := HF277.ins hC300
 replace HF277 := HF277.ins hC305
 replace H := HF277.hp; try dsimp only [addE] at H
 have hc307 : cellsAt w270 b72 (0) [.slice A283 r58.1.length c284, .slice A290 r58.2.1.length c291, .slice A297 r58.2.2.1.length c298, .slice A302 r58.2.2.2.length c303] := hc280
 refine vq 5 [.slice A283 r58.1.length c284] [(86, .int .i64 (r58.1.length : Int))] [World.cell? w270 ⟨b72, 0, none⟩ = some (.slice A283 r58.1.length c284)] E (hc307.1) ?_
 clear E; intro a E
 refine h_make (cInt .i64) (0 : Int) H E rfl rfl tbok rfl rfl rfl rfl ⟨g106.1, Int.le_refl _, g106.2⟩ rfl rfl rfl (fun _ _ => rfl) ?_
 clear H E; intro w309 g308 a hc310 hg312 H E; replace E := E _ rfl; try dsimp only [setn, addE, goneL] at H
 refine vp 1 [(15, .slice (some ⟨g308, 0, none⟩) (List.length (List.replicate (Int.toNat (r58.1.length : Int)) (0 : Int))) (Int.toNat (r58.1.length : Int)))] E ?_
 clear E; intro a E
 refine nn_ <| sr_ <| vp 1 [(16, .slice none 0 0)] E ?_
 clear E; intro a E
 refine nn_ <| wp_seq <| sr_ ?_
 obtain ⟨Fz313, cs315, HF314, hK316, hc317⟩ := H.elem 5 true (el_ro rfl) r58 (idx_one _)
 obtain ⟨_, _, rfl, hK318, hK319⟩ := hK316
 obtain ⟨A320, c321, rfl, hk322, hC323⟩ := hK318
 obtain ⟨_, _, rfl, hK325, hK326⟩ := hK319
 obtain ⟨A327, c328, rfl, hk329, hC330⟩ := hK325
 obtain ⟨_, _, rfl, hK332, hK333⟩ := hK326
 obtain ⟨A334, c335, rfl, hk336, hC337⟩ := hK332
 obtain ⟨A339, c340, rfl, hk341, hC342⟩ := hK333
 replace HF314 := HF314.ins hC323
 replace HF314 := HF314.ins hC330
 replace HF314 := HF314.ins hC337
 replace HF314 := HF314.ins hC342
 replace H := HF314.hp; try dsimp only [addE] at H
 have hc344 : cellsAt w309 b72 (0) [.slice A320 r58.1.length c321, .slice A327 r58.2.1.length c328, .slice A334 r58.2.2.1.length c335, .slice A339 r58.2.2.2.length c340] := hc317
 refine vq 6 [.slice A320 r58.1.length c321] [(92, .int .i64 (r58.1.length : Int)), (93, .int .i64 0)] [World.cell? w309 ⟨b72, 0, none⟩ = some (.slice A320 r58.1.length c321)] E (hc344.1) ?_
 clear E; intro a E
 refine nn_ <| wp_block ?_
 obtain ⟨x405, hL406, hK407⟩ := bind_inv hP
 clear hP
 replace H := H.nilrow (cInt .i64) 3; try dsimp only [setn, addE, goneL] at H
 refine loop_cut (fun i_ a w_ => (i_ = 2 ∧ ∃ (x411 : (List Int) × (List Int)), ∃ (A402 : Option Addr) (c403 : Nat), Fr a 193 [(3, .pointer (some ⟨g27, 0, none⟩)), (6, .pointer (some ⟨g37, 0, none⟩)), (9, .pointer (some ⟨b72, 0, none⟩)), (10, .slice (some ⟨g107, 0, none⟩) x213.length (Int.toNat (r58.1.length : Int))), (13, .slice A273 r264.1.length c274), (15, .slice (some ⟨g308, 0, none⟩) x411.1.length (Int.toNat (r58.1.length : Int))), (16, .slice A402 x411.2.length c403)] ∧ Hp S Fa w0 w_ [.ro false cBool A1 aAccept, .ro false (cInt .i64) A5 aGuard, .ro false cNode A9 aNodes, .box g27 26 [.int .i64 aProps, .slice A1 aAccept.length c2, .slice A5 aGuard.length c6, .slice A9 aNodes.length c10], .box g37 26 [.int .i64 0, .slice none 0 0, .slice none 0 0, .slice none 0 0], .ro true cS81 (some ⟨b72, 0, none⟩) ([r58]), .rowx true cBool 4 (some ⟨g107, 0, none⟩) (Int.toNat (r58.1.length : Int)) x213 (List.replicate (Int.toNat (r58.1.length : Int) - Int.toNat (r58.1.length : Int)) (false : Bool)), .row true (cInt .i64) 3 A273 c274 r264.1, .rowx true (cInt .i64) 3 (some ⟨g308, 0, none⟩) (Int.toNat (r58.1.length : Int)) x411.1 (List.replicate (Int.toNat (r58.1.length : Int) - Int.toNat (r58.1.length : Int)) (0 : Int)), .row true (cInt .i64) 3 A402 c403 x411.2] ∧ x405 = x411)) ?_ ?_
 ·
  refine loopV (fun m410 a w409 => ∃ (number368 : List Int) (first370 : List Int) (x373 : Int), ∃ (A371 : Option Addr) (c372 : Nat), Fr a 193 [(3, .pointer (some ⟨g27, 0, none⟩)), (6, .pointer (some ⟨g37, 0, none⟩)), (9, .pointer (some ⟨b72, 0, none⟩)), (10, .slice (some ⟨g107, 0, none⟩) x213.length (Int.toNat (r58.1.length : Int))), (13, .slice A273 r264.1.length c274), (15, .slice (some ⟨g308, 0, none⟩) number368.length (Int.toNat (r58.1.length : Int))), (16, .slice A371 first370.length c372), (92, .int .i64 (r58.1.length : Int)), (93, .int .i64 x373)] ∧ Hp S Fa w0 w409 [.ro false cBool A1 aAccept, .ro false (cInt .i64) A5 aGuard, .ro false cNode A9 aNodes, .box g27 26 [.int .i64 aProps, .slice A1 aAccept.length c2, .slice A5 aGuard.length c6, .slice A9 aNodes.length c10], .box g37 26 [.int .i64 0, .slice none 0 0, .slice none 0 0, .slice none 0 0], .ro true cS81 (some ⟨b72, 0, none⟩) ([r58]), .rowx true cBool 4 (some ⟨g107, 0, none⟩) (Int.toNat (r58.1.length : Int)) x213 (List.replicate (Int.toNat (r58.1.length : Int) - Int.toNat (r58.1.length : Int)) (false : Bool)), .row true (cInt .i64) 3 A273 c274 r264.1, .rowx true (cInt .i64) 3 (some ⟨g308, 0, none⟩) (Int.toNat (r58.1.length : Int)) number368 (List.replicate (Int.toNat (r58.1.length : Int) - Int.toNat (r58.1.length : Int)) (0 : Int)), .row true (cInt .i64) 3 A371 c372 first370] ∧ both_put_l1 N r58 r264 m410 number368 first370 x373 = some x405) N ?_ ?_
  ·
   exact ⟨List.replicate (Int.toNat (r58.1.length : Int)) (0 : Int), [], 0, none, 0, E.pk, H.sel [0, 1, 2, 3, 4, 5, 6, 7, 12, 17] rfl, hL406⟩
  clear E H hL406; intro m410 a w409 hI_
  obtain ⟨number368, first370, x373, A371, c372, E, H, hP⟩ := hI_
  obtain ⟨m404, rfl⟩ : ∃ q_, m410 = q_ + 1 := by cases m410 with | zero => rw [both_put_l1] at hP; cases hP | succ q_ => exact ⟨q_, rfl⟩
  rw [both_put_l1] at hP
  refine sr_ <| vp 1 [(94, .bool (decide (x373 < (r58.1.length : Int))))] E ?_
  clear E; intro a E
  refine nn_ <| wp_seq ?_
  revert E; refine csE 94 rfl (fun hb_ E => ?_) fun hb_ E => ?_
  ·
   have h412 : x373 < (r58.1.length : Int) := of_decide_eq_true hb_
   replace hP := ite_t h412 hP
   refine c_true E rfl <| wp_skip <| th_n <| wp_seq <| wp_block <| sr_ <| vp 2 [(17, .int .i64 x373)] E ?_
   clear E; intro a E
   refine nn_ <| sr_ ?_
   obtain ⟨g413, hP⟩ := ask_inv hP
   obtain ⟨b414, e_b414⟩ := H.raddr 7 rfl (idx_pos g413)
   subst e_b414
   obtain ⟨g416, hP⟩ := ask_inv hP
   refine vq 8 [.int .i64 (List.getD r264.1 x373.toNat 0), .int .i64 (List.getD number368 (Int.toNat (List.getD r264.1 x373.toNat 0)) 0)] [(103, .bool (((List.getD number368 (Int.toNat (List.getD r264.1 x373.toNat 0)) 0) : Int) == 0))] [0 ≤ x373 ∧ x373 < (r264.1.length : Int), World.cell? w409 ⟨b414, 0 + x373.toNat * 1, none⟩ = some (.int .i64 (List.getD r264.1 x373.toNat 0)), 0 ≤ (List.getD r264.1 x373.toNat 0) ∧ (List.getD r264.1 x373.toNat 0) < (number368.length : Int), World.cell? w409 ⟨g308, 0 + (Int.toNat (List.getD r264.1 x373.toNat 0)) * 1, none⟩ = some (.int .i64 (List.getD number368 (Int.toNat (List.getD r264.1 x373.toNat 0)) 0))] E ⟨g413, Rds.at1 (H.rd 7 rds_row) 0 g413, g416, Rds.at1 (H.rd 8 rds_rowx) 0 g416⟩ ?_
   clear E; intro a E
   refine nn_ ?_
   revert E; refine csE 103 rfl (fun hb_ E => ?_) fun hb_ E => ?_
   ·
    have h417 : ((List.getD number368 (Int.toNat (List.getD r264.1 x373.toNat 0)) 0) : Int) = 0 := eq_of_beq hb_
    replace hP := ite_t h417 hP
    refine c_true E rfl <| sr_ <| vp 2 [(104, .slice A371 first370.length c372), (105, .int .i64 x373)] E ?_
    clear E; intro a E
    refine h_buildSlice (ps := [(0, .int .i64 x373)]) (cs := [.int .i64 x373]) H E rfl rfl tbok rfl rfl (by kernel_rfl) ?_
    clear H E; intro w419 g418 a hc420 hg422 H E; replace E := E _ rfl; try dsimp only [setn, addE, goneL] at H
    obtain ⟨g423, hP⟩ := ask_inv hP
    refine h_append (cInt .i64) (xs := first370) (ys := ([x373] : List Int)) (0 : Int) H 9 rfl E rfl rfl tbok rfl rfl rfl rfl rfl (fun _ _ => rfl) rfl rfl (fun _ HF_ => HF_.srcB 10 rfl (⟨_, _, rfl, rfl, rfl⟩)) g423 ?_
    clear H E; intro w424 A425 c426 a hc427 hA428 H E; replace E := E _ rfl; try dsimp only [setn, addE, goneL] at H
    refine vp 1 [(16, .slice A425 (List.length (first370 ++ ([x373] : List Int))) c426)] E ?_
    clear E; intro a E
    refine nn_ <| rl_ <| vq 8 [.int .i64 (List.getD r264.1 x373.toNat 0)] [(114, .int .i64 (((List.length (first370 ++ ([x373] : List Int))) : Nat) : Int)), (115, .pointer (some ⟨g308, 0 + (Int.toNat (List.getD r264.1 x373.toNat 0)) * 1, none⟩))] [0 ≤ x373 ∧ x373 < (r264.1.length : Int), World.cell? w424 ⟨b414, 0 + x373.toNat * 1, none⟩ = some (.int .i64 (List.getD r264.1 x373.toNat 0)), 0 ≤ (List.getD r264.1 x373.toNat 0) ∧ (List.getD r264.1 x373.toNat 0) < (number368.length : Int)] E ⟨g413, Rds.at1 (H.rd 7 rds_row) 0 g413, g416⟩ ?_
    clear E; intro a E
    refine h_setx (g := g308) (i := (List.getD r264.1 x373.toNat 0)) (((List.length (first370 ++ ([x373] : List Int))) : Nat) : Int) H 8 rfl E rfl rfl rfl rfl tbok rfl (fun _ HF_ => rfl) rfl g416 rfl ?_
    clear E; intro w429 a hc430 H_ E
    replace H := H_; clear H_; try dsimp only [setn, addE, goneL] at H
    have hn431 : number368.length = (List.length (List.set number368 (Int.toNat (List.getD r264.1 x373.toNat 0)) (((List.length (first370 ++ ([x373] : List Int))) : Nat) : Int))) := by simp only [List.length_set]
    replace E := E.same (t := 15) (u := .slice (some ⟨g308, 0, none⟩) (List.length (List.set number368 (Int.toNat (List.getD r264.1 x373.toNat 0)) (((List.length (first370 ++ ([x373] : List Int))) : Nat) : Int))) (Int.toNat (r58.1.length : Int))) rfl (congrArg (fun n_ => Value.slice (some ⟨g308, 0, none⟩) n_ (Int.toNat (r58.1.length : Int))) hn431)
    refine nl_ <| bl_n <| th_n <| rl_ ?_
    obtain ⟨g432, hP⟩ := ask_inv hP
    refine vq 2 [.int .i64 (x373 + 1)] [(93, .int .i64 (x373 + 1))] [IntKind.i64.wrap (x373 + 1) = x373 + 1] E (wrap_in g432) ?_
    clear E; intro a E
    refine nl_ ?_
    exact th_n ⟨m404, Nat.lt_succ_self _, List.set number368 (Int.toNat (List.getD r264.1 x373.toNat 0)) (((List.length (first370 ++ ([x373] : List Int))) : Nat) : Int), first370 ++ ([x373] : List Int), x373 + 1, A425, c426, E.pk, H.sel (up 10) rfl, hP⟩
   have h433 : ¬ (((List.getD number368 (Int.toNat (List.getD r264.1 x373.toNat 0)) 0) : Int) = 0) := ne_of_beq_false hb_
   replace hP := ite_f h433 hP
   refine c_false E rfl <| wp_skip <| bl_n <| th_n <| rl_ ?_
   obtain ⟨g434, hP⟩ := ask_inv hP
   refine vq 2 [.int .i64 (x373 + 1)] [(93, .int .i64 (x373 + 1))] [IntKind.i64.wrap (x373 + 1) = x373 + 1] E (wrap_in g434) ?_
   clear E; intro a E
   refine nl_ ?_
   exact th_n ⟨m404, Nat.lt_succ_self _, number368, first370, x373 + 1, A371, c372, E.pk, H.sel (up 10) rfl, hP⟩
  have h435 : ¬ (x373 < (r58.1.length : Int)) := of_decide_eq_false hb_
  replace hP := ite_f h435 hP
  refine c_false E rfl <| wp_exit <| th_exit ?_
  have hx_ := Option.some.inj hP
  refine th_exit (.inl ⟨2, rfl, ?_⟩)
  exact ⟨rfl, (number368, first370), A371, c372, E.pk, H.sel (up 10) rfl, hx_.symm⟩
 clear E H hL406; intro i_ a w409 hM_
 obtain ⟨rfl, x411, A402, c403, E, H, hx_⟩ := hM_
 subst hx_; have hP := hK407; clear hK407
 refine bl_hit <| th_n <| wp_seq <| sr_ <| vp 3 [(119, .bool (decide (256 < (x405.2.length : Int))))] E ?_
 clear E; intro a E
 refine nn_ ?_
 revert E; refine csE 119 rfl (fun hb_ E => ?_) fun hb_ E => ?_
 ·
  have h436 : 256 < (x405.2.length : Int) := of_decide_eq_true hb_
  replace hP := ite_t h436 hP
  refine c_true E rfl <| sr_ <| e_build (ps := []) (v := .agg #[.int .i64 0, .slice none 0 0, .slice none 0 0, .slice none 0 0]) E rfl rfl tbok rfl (by kernel_rfl) rfl ?_
  clear E; intro a E
  refine h_store (g := g37) (off := 0) H 4 rfl E rfl rfl rfl rfl tbok rfl rfl rfl rfl rfl ?_
  clear E; intro w437 a hc438 H_ E
  replace H := H_; clear H_; try dsimp only [setn, addE, goneL] at H
  refine vp 1 [(7, .int .i64 10)] E ?_
  clear E; intro a E
  refine nn_ <| wp_ret <| th_ret ?_
  replace H := H.nilrow cBool 4; try dsimp only [setn, addE, goneL] at H
  replace H := H.nilrow (cInt .i64) 3; try dsimp only [setn, addE, goneL] at H
  replace H := H.nilrow cNode 49; try dsimp only [setn, addE, goneL] at H
  obtain rfl := Option.some.inj hP
  refine retV E [.cell 6 26, .tmp 7] [.agg #[.int .i64 0, .slice none 0 0, .slice none 0 0, .slice none 0 0], .int .i64 10] rfl ⟨⟨_, rfl, run_loadBx tbok (H.box 4 rfl) rfl rfl rfl 0 rfl rfl⟩, rfl, trivial⟩ (.inl rfl) ?_
  exact ⟨_, rfl, none, 0, none, 0, none, 0, rfl, H.sel [10, 11, 12] rfl⟩
 have h442 : ¬ (256 < (x405.2.length : Int)) := of_decide_eq_false hb_
 replace hP := ite_f h442 hP
 refine c_false E rfl <| wp_skip <| th_n <| sr_ <| vq 2 [.int .i64 aProps] [(123, .int .i64 aProps)] [World.cell? w409 ⟨g27, 0, none⟩ = some (.int .i64 aProps)] E ((H.box 3 rfl).cell (j := 0) rfl) ?_
 clear E; intro a E
 obtain ⟨r443, h444, hP⟩ := bind_inv hP
 obtain ⟨Fa445, Hc446, hb447⟩ := H.call [] [] rfl rfl trivial
 refine e_call E rfl rfl Try.func62 rfl rfl rfl (guard_New_calls  aProps  Hc446 h444) ?_
 intro v453 w452 a hR454 E_
 rcases hR454 with ⟨x_, hr_, rfl, HR456⟩ | ⟨x_, g457, g458, hr_, rfl, HR459⟩
 ·
  subst hr_; have hP := elim_l hP
  obtain ⟨x460, hxx_⟩ : ∃ y_, y_ = x_ := ⟨_, rfl⟩; subst hxx_
  replace E := E_ _ rfl; clear E_
  obtain ⟨H_, hc455⟩ := hb447 _ _ HR456 rfl
  replace H := H_; clear H_; try dsimp only [setn, addE, goneL] at H
  refine vp 5 [(18, .pointer none)] E ?_
  clear E; intro a E
  refine nn_ <| sr_ <| vq 2 [.int .i64 aProps] [(128, .int .i64 aProps)] [World.cell? w452 ⟨g27, 0, none⟩ = some (.int .i64 aProps)] E ((H.box 3 rfl).cell (j := 0) rfl) ?_
  clear E; intro a E
  refine e_build (ps := [(0, .int .i64 aProps)]) (v := .agg #[.int .i64 aProps, .slice none 0 0, .slice none 0 0, .slice none 0 0]) E rfl rfl tbok rfl (by kernel_rfl) rfl ?_
  clear E; intro a E
  refine h_alloc H E rfl rfl tbok rfl ?_
  clear H E; intro w463 g462 a hc464 hg466 H E; replace E := E _ rfl; try dsimp only [setn, addE, goneL] at H
  refine h_store (g := g462) (off := 0) H 10 rfl E rfl rfl rfl rfl tbok rfl rfl rfl rfl rfl ?_
  clear E; intro w467 a hc468 H_ E
  replace H := H_; clear H_; try dsimp only [setn, addE, goneL] at H
  refine nn_ <| wp_seq <| sr_ <| vp 3 [(130, .slice A402 x405.2.length c403), (131, .int .i64 (x405.2.length : Int)), (132, .int .i64 0)] E ?_
  clear E; intro a E
  refine nn_ <| wp_block ?_
  obtain ⟨x664, hL665, hK666⟩ := bind_inv hP
  clear hP
  refine loop_cut (fun i_ a w_ => (i_ = 4 ∧ ∃ (x669 : Unit), Fr a 193 [(6, .pointer (some ⟨g37, 0, none⟩)), (18, .pointer none), (20, .pointer (some ⟨g462, 0, none⟩))] ∧ Hp S Fa w0 w_ [.box g37 26 [.int .i64 0, .slice none 0 0, .slice none 0 0, .slice none 0 0], .box g462 26 [.int .i64 aProps, .slice none 0 0, .slice none 0 0, .slice none 0 0]] ∧ x664 = Sum.inl x669)) ?_ ?_
  ·
   refine loopV (fun m668 a w667 => ∃ (_u : Unit), Fr a 193 [(6, .pointer (some ⟨g37, 0, none⟩)), (9, .pointer (some ⟨b72, 0, none⟩)), (10, .slice (some ⟨g107, 0, none⟩) x213.length (Int.toNat (r58.1.length : Int))), (13, .slice A273 r264.1.length c274), (15, .slice (some ⟨g308, 0, none⟩) x405.1.length (Int.toNat (r58.1.length : Int))), (18, .pointer none), (20, .pointer (some ⟨g462, 0, none⟩)), (130, .slice A402 x405.2.length c403), (131, .int .i64 (x405.2.length : Int)), (132, .int .i64 0)] ∧ Hp S Fa w0 w667 [.box g37 26 [.int .i64 0, .slice none 0 0, .slice none 0 0, .slice none 0 0], .ro true cS81 (some ⟨b72, 0, none⟩) ([r58]), .rowx true cBool 4 (some ⟨g107, 0, none⟩) (Int.toNat (r58.1.length : Int)) x213 (List.replicate (Int.toNat (r58.1.length : Int) - Int.toNat (r58.1.length : Int)) (false : Bool)), .row true (cInt .i64) 3 A273 c274 r264.1, .rowx true (cInt .i64) 3 (some ⟨g308, 0, none⟩) (Int.toNat (r58.1.length : Int)) x405.1 (List.replicate (Int.toNat (r58.1.length : Int) - Int.toNat (r58.1.length : Int)) (0 : Int)), .box g462 26 [.int .i64 aProps, .slice none 0 0, .slice none 0 0, .slice none 0 0], .row true (cInt .i64) 3 A402 c403 x405.2] ∧ both_put_l2 N r58 r264 x405 m668  = some x664) N ?_ ?_
   ·
    exact ⟨(), E.pk, H.sel [4, 5, 6, 7, 8, 10, 9] rfl, hL665⟩
   clear E H hL665; intro m668 a w667 hI_
   obtain ⟨_, E, H, hP⟩ := hI_
   obtain ⟨m663, rfl⟩ : ∃ q_, m668 = q_ + 1 := by cases m668 with | zero => rw [both_put_l2] at hP; cases hP | succ q_ => exact ⟨q_, rfl⟩
   rw [both_put_l2] at hP
   refine sr_ <| vp 1 [(133, .bool (decide (0 < (x405.2.length : Int))))] E ?_
   clear E; intro a E
   refine nn_ <| wp_seq ?_
   revert E; refine csE 133 rfl (fun hb_ E => ?_) fun hb_ E => ?_
   ·
    have h670 : 0 < (x405.2.length : Int) := of_decide_eq_true hb_
    replace hP := ite_t h670 hP
    refine c_true E rfl <| wp_skip <| th_n <| wp_seq <| wp_block <| sr_ ?_
    obtain ⟨g671, hP⟩ := ask_inv hP
    obtain ⟨b672, e_b672⟩ := H.raddr 6 rfl (idx_pos g671)
    subst e_b672
    refine vq 3 [.int .i64 (List.getD x405.2 (Int.toNat (0 : Int)) 0)] [(22, .int .i64 (List.getD x405.2 (Int.toNat (0 : Int)) 0))] [0 ≤ (0 : Int) ∧ (0 : Int) < (x405.2.length : Int), World.cell? w667 ⟨b672, 0 + (Int.toNat (0 : Int)) * 1, none⟩ = some (.int .i64 (List.getD x405.2 (Int.toNat (0 : Int)) 0))] E ⟨g671, Rds.at1 (H.rd 6 rds_row) 0 g671⟩ ?_
    clear E; intro a E
    refine nn_ <| sr_ ?_
    obtain ⟨Fz674, cs676, HF675, hK677, hc678⟩ := H.elem 1 true (el_ro rfl) r58 (idx_one _)
    obtain ⟨_, _, rfl, hK679, hK680⟩ := hK677
    obtain ⟨A681, c682, rfl, hk683, hC684⟩ := hK679
    obtain ⟨_, _, rfl, hK686, hK687⟩ := hK680
    obtain ⟨A688, c689, rfl, hk690, hC691⟩ := hK686
    obtain ⟨_, _, rfl, hK693, hK694⟩ := hK687
    obtain ⟨A695, c696, rfl, hk697, hC698⟩ := hK693
    obtain ⟨A700, c701, rfl, hk702, hC703⟩ := hK694
    replace HF675 := HF675.ins hC684
    replace HF675 := HF675.ins hC691
    replace HF675 := HF675.ins hC698
    replace HF675 := HF675.ins hC703
    replace H := HF675.hp; try dsimp only [addE] at H
    have hc705 : cellsAt w667 b72 (0) [.slice A681 r58.1.length c682, .slice A688 r58.2.1.length c689, .slice A695 r58.2.2.1.length c696, .slice A700 r58.2.2.2.length c701] := hc678
    obtain ⟨g706, hP⟩ := ask_inv hP
    obtain ⟨b707, o708, e_b707⟩ := (H.rd 8 rds_ro).addr (idx_pos g706)
    subst e_b707
    obtain ⟨A709, c710, hl711, hk712, H⟩ := H.subSl 8 true (el_ro rfl) g706
    try dsimp only [addE] at H
    refine vq 7 [.slice (some ⟨b707, o708, none⟩) r58.2.1.length c689, .slice A709 (List.length (List.getD r58.2.1 (Int.toNat (List.getD x405.2 (Int.toNat (0 : Int)) 0)) [])) c710] [(142, .slice A709 (List.length (List.getD r58.2.1 (Int.toNat (List.getD x405.2 (Int.toNat (0 : Int)) 0)) [])) c710)] [World.cell? w667 ⟨b72, 1, none⟩ = some (.slice (some ⟨b707, o708, none⟩) r58.2.1.length c689), 0 ≤ (List.getD x405.2 (Int.toNat (0 : Int)) 0) ∧ (List.getD x405.2 (Int.toNat (0 : Int)) 0) < (r58.2.1.length : Int), World.cell? w667 ⟨b707, o708 + (Int.toNat (List.getD x405.2 (Int.toNat (0 : Int)) 0)) * 1, none⟩ = some (.slice A709 (List.length (List.getD r58.2.1 (Int.toNat (List.getD x405.2 (Int.toNat (0 : Int)) 0)) [])) c710)] E ⟨hc705.get 1 _ rfl, g706, hl711⟩ ?_
    clear E; intro a E
    obtain ⟨r714, h715, hP⟩ := bind_inv hP
    obtain ⟨Fa716, Hc717, hb718⟩ := H.call [] [(11, false)] rfl rfl trivial
    refine e_call E rfl rfl Try.func63 rfl rfl rfl (slices_Clone_int_int_calls A709 c710 (List.getD r58.2.1 (Int.toNat (List.getD x405.2 (Int.toNat (0 : Int)) 0)) []) hk712 Hc717 h715) ?_
    rintro v719 w720 a ⟨A723, c724, rfl, HR721⟩ E_
    replace E := E_ _ rfl; clear E_
    obtain ⟨H_, hc722⟩ := hb718 _ _ HR721 rfl
    replace H := H_; clear H_; try dsimp only [setn, addE, goneL] at H
    refine vp 1 [(23, .slice A723 r714.length c724)] E ?_
    clear E; intro a E
    refine nn_ <| wp_seq <| sr_ <| vp 3 [(144, .slice A723 r714.length c724), (145, .int .i64 (r714.length : Int)), (146, .int .i64 0)] E ?_
    clear E; intro a E
    refine nn_ <| wp_block ?_
    obtain ⟨x761, hL762, hK763⟩ := bind_inv hP
    clear hP
    refine loop_cut (fun i_ a w_ => (i_ = 6 ∧ ∃ (x766 : List Int), ∃ (A758 : Option Addr) (c759 : Nat), Fr a 193 [(6, .pointer (some ⟨g37, 0, none⟩)), (9, .pointer (some ⟨b72, 0, none⟩)), (10, .slice (some ⟨g107, 0, none⟩) x213.length (Int.toNat (r58.1.length : Int))), (13, .slice A273 r264.1.length c274), (15, .slice (some ⟨g308, 0, none⟩) x405.1.length (Int.toNat (r58.1.length : Int))), (18, .pointer none), (20, .pointer (some ⟨g462, 0, none⟩)), (22, .int .i64 (List.getD x405.2 (Int.toNat (0 : Int)) 0)), (23, .slice A758 x766.length c759), (130, .slice (some ⟨b672, 0, none⟩) x405.2.length c403), (131, .int .i64 (x405.2.length : Int)), (132, .int .i64 0)] ∧ Hp S Fa w0 w_ [.box g37 26 [.int .i64 0, .slice none 0 0, .slice none 0 0, .slice none 0 0], .ro true cS81 (some ⟨b72, 0, none⟩) ([r58]), .rowx true cBool 4 (some ⟨g107, 0, none⟩) (Int.toNat (r58.1.length : Int)) x213 (List.replicate (Int.toNat (r58.1.length : Int) - Int.toNat (r58.1.length : Int)) (false : Bool)), .row true (cInt .i64) 3 A273 c274 r264.1, .rowx true (cInt .i64) 3 (some ⟨g308, 0, none⟩) (Int.toNat (r58.1.length : Int)) x405.1 (List.replicate (Int.toNat (r58.1.length : Int) - Int.toNat (r58.1.length : Int)) (0 : Int)), .box g462 26 [.int .i64 aProps, .slice none 0 0, .slice none 0 0, .slice none 0 0], .row true (cInt .i64) 3 A758 c759 x766, .row true (cInt .i64) 3 (some ⟨b672, 0, none⟩) c403 x405.2] ∧ x761 = x766)) ?_ ?_
    ·
     refine loopV (fun m765 a w764 => ∃ (row739 : List Int) (x742 : Int), ∃ (A740 : Option Addr) (c741 : Nat), Fr a 193 [(6, .pointer (some ⟨g37, 0, none⟩)), (9, .pointer (some ⟨b72, 0, none⟩)), (10, .slice (some ⟨g107, 0, none⟩) x213.length (Int.toNat (r58.1.length : Int))), (13, .slice A273 r264.1.length c274), (15, .slice (some ⟨g308, 0, none⟩) x405.1.length (Int.toNat (r58.1.length : Int))), (18, .pointer none), (20, .pointer (some ⟨g462, 0, none⟩)), (22, .int .i64 (List.getD x405.2 (Int.toNat (0 : Int)) 0)), (23, .slice A740 row739.length c741), (130, .slice (some ⟨b672, 0, none⟩) x405.2.length c403), (131, .int .i64 (x405.2.length : Int)), (132, .int .i64 0), (144, .slice A740 row739.length c741), (145, .int .i64 (r714.length : Int)), (146, .int .i64 x742)] ∧ Hp S Fa w0 w764 [.box g37 26 [.int .i64 0, .slice none 0 0, .slice none 0 0, .slice none 0 0], .ro true cS81 (some ⟨b72, 0, none⟩) ([r58]), .rowx true cBool 4 (some ⟨g107, 0, none⟩) (Int.toNat (r58.1.length : Int)) x213 (List.replicate (Int.toNat (r58.1.length : Int) - Int.toNat (r58.1.length : Int)) (false : Bool)), .row true (cInt .i64) 3 A273 c274 r264.1, .rowx true (cInt .i64) 3 (some ⟨g308, 0, none⟩) (Int.toNat (r58.1.length : Int)) x405.1 (List.replicate (Int.toNat (r58.1.length : Int) - Int.toNat (r58.1.length : Int)) (0 : Int)), .box g462 26 [.int .i64 aProps, .slice none 0 0, .slice none 0 0, .slice none 0 0], .row true (cInt .i64) 3 A740 c741 row739, .row true (cInt .i64) 3 (some ⟨b672, 0, none⟩) c403 x405.2] ∧ both_put_l3 N r264 x405 r714 m765 row739 x742 = some x761) N ?_ ?_
     ·
      exact ⟨r714, 0, A723, c724, E.pk, H.sel [0, 1, 2, 3, 4, 5, 12, 6] rfl, hL762⟩
     clear E H hL762; intro m765 a w764 hI_
     obtain ⟨row739, x742, A740, c741, E, H, hP⟩ := hI_
     obtain ⟨m760, rfl⟩ : ∃ q_, m765 = q_ + 1 := by cases m765 with | zero => rw [both_put_l3] at hP; cases hP | succ q_ => exact ⟨q_, rfl⟩
     rw [both_put_l3] at hP
     refine sr_ <| vp 1 [(147, .bool (decide (x742 < (r714.length : Int))))] E ?_
     clear E; intro a E
     refine nn_ <| wp_seq ?_
     revert E; refine csE 147 rfl (fun hb_ E => ?_) fun hb_ E => ?_
     ·
      have h767 : x742 < (r714.length : Int) := of_decide_eq_true hb_
      replace hP := ite_t h767 hP
      refine c_true E rfl <| wp_skip <| th_n <| wp_seq <| wp_block <| sr_ ?_
      obtain ⟨g768, hP⟩ := ask_inv hP
      obtain ⟨b769, e_b769⟩ := H.raddr 6 rfl (idx_pos g768)
      subst e_b769
      refine vq 5 [.int .i64 (List.getD row739 x742.toNat 0)] [(24, .int .i64 x742), (25, .int .i64 (List.getD row739 x742.toNat 0))] [0 ≤ x742 ∧ x742 < (row739.length : Int), World.cell? w764 ⟨b769, 0 + x742.toNat * 1, none⟩ = some (.int .i64 (List.getD row739 x742.toNat 0))] E ⟨g768, Rds.at1 (H.rd 6 rds_row) 0 g768⟩ ?_
      clear E; intro a E
      refine nn_ <| rl_ ?_
      obtain ⟨g771, hP⟩ := ask_inv hP
      obtain ⟨b772, e_b772⟩ := H.raddr 3 rfl (idx_pos g771)
      subst e_b772
      obtain ⟨g774, hP⟩ := ask_inv hP
      obtain ⟨g775, hP⟩ := ask_inv hP
      refine vq 11 [.int .i64 (List.getD r264.1 (Int.toNat (List.getD row739 x742.toNat 0)) 0), .int .i64 (List.getD x405.1 (Int.toNat (List.getD r264.1 (Int.toNat (List.getD row739 x742.toNat 0)) 0)) 0), .int .i64 ((List.getD x405.1 (Int.toNat (List.getD r264.1 (Int.toNat (List.getD row739 x742.toNat 0)) 0)) 0) - 1)] [(160, .int .i64 ((List.getD x405.1 (Int.toNat (List.getD r264.1 (Int.toNat (List.getD row739 x742.toNat 0)) 0)) 0) - 1)), (161, .pointer (some ⟨b769, 0 + x742.toNat * 1, none⟩))] [0 ≤ (List.getD row739 x742.toNat 0) ∧ (List.getD row739 x742.toNat 0) < (r264.1.length : Int), World.cell? w764 ⟨b772, 0 + (Int.toNat (List.getD row739 x742.toNat 0)) * 1, none⟩ = some (.int .i64 (List.getD r264.1 (Int.toNat (List.getD row739 x742.toNat 0)) 0)), 0 ≤ (List.getD r264.1 (Int.toNat (List.getD row739 x742.toNat 0)) 0) ∧ (List.getD r264.1 (Int.toNat (List.getD row739 x742.toNat 0)) 0) < (x405.1.length : Int), World.cell? w764 ⟨g308, 0 + (Int.toNat (List.getD r264.1 (Int.toNat (List.getD row739 x742.toNat 0)) 0)) * 1, none⟩ = some (.int .i64 (List.getD x405.1 (Int.toNat (List.getD r264.1 (Int.toNat (List.getD row739 x742.toNat 0)) 0)) 0)), IntKind.i64.wrap ((List.getD x405.1 (Int.toNat (List.getD r264.1 (Int.toNat (List.getD row739 x742.toNat 0)) 0)) 0) - 1) = (List.getD x405.1 (Int.toNat (List.getD r264.1 (Int.toNat (List.getD row739 x742.toNat 0)) 0)) 0) - 1, 0 ≤ x742 ∧ x742 < (row739.length : Int)] E ⟨g771, Rds.at1 (H.rd 3 rds_row) 0 g771, g774, Rds.at1 (H.rd 4 rds_rowx) 0 g774, wrap_in g775, g768⟩ ?_
      clear E; intro a E
      refine h_set (g := b769) (i := x742) ((List.getD x405.1 (Int.toNat (List.getD r264.1 (Int.toNat (List.getD row739 x742.toNat 0)) 0)) 0) - 1) H 6 rfl E rfl rfl rfl rfl tbok rfl (fun _ HF_ => rfl) rfl g768 rfl ?_
      clear E; intro w776 a hc777 H_ E
      replace H := H_; clear H_; try dsimp only [setn, addE, goneL] at H
      have hn778 : row739.length = (List.length (List.set row739 x742.toNat ((List.getD x405.1 (Int.toNat (List.getD r264.1 (Int.toNat (List.getD row739 x742.toNat 0)) 0)) 0) - 1))) := by simp only [List.length_set]
      replace E := E.same (t := 23) (u := .slice (some ⟨b769, 0, none⟩) (List.length (List.set row739 x742.toNat ((List.getD x405.1 (Int.toNat (List.getD r264.1 (Int.toNat (List.getD row739 x742.toNat 0)) 0)) 0) - 1))) c741) rfl (congrArg (fun n_ => Value.slice (some ⟨b769, 0, none⟩) n_ c741) hn778)
      replace E := E.same (t := 144) (u := .slice (some ⟨b769, 0, none⟩) (List.length (List.set row739 x742.toNat ((List.getD x405.1 (Int.toNat (List.getD r264.1 (Int.toNat (List.getD row739 x742.toNat 0)) 0)) 0) - 1))) c741) rfl (congrArg (fun n_ => Value.slice (some ⟨b769, 0, none⟩) n_ c741) hn778)
      refine nl_ <| bl_n <| th_n <| rl_ ?_
      obtain ⟨g779, hP⟩ := ask_inv hP
      refine vq 2 [.int .i64 (x742 + 1)] [(146, .int .i64 (x742 + 1))] [IntKind.i64.wrap (x742 + 1) = x742 + 1] E (wrap_in g779) ?_
      clear E; intro a E
      refine nl_ ?_
      exact th_n ⟨m760, Nat.lt_succ_self _, List.set row739 x742.toNat ((List.getD x405.1 (Int.toNat (List.getD r264.1 (Int.toNat (List.getD row739 x742.toNat 0)) 0)) 0) - 1), x742 + 1, (some ⟨b769, 0, none⟩), c741, E.pk, H.sel (up 8) rfl, hP⟩
     have h780 : ¬ (x742 < (r714.length : Int)) := of_decide_eq_false hb_
     replace hP := ite_f h780 hP
     refine c_false E rfl <| wp_exit <| th_exit ?_
     have hx_ := Option.some.inj hP
     refine th_exit (.inl ⟨6, rfl, ?_⟩)
     exact ⟨rfl, row739, A740, c741, E.pk, H.sel (up 8) rfl, hx_.symm⟩
    clear E H hL762; intro i_ a w764 hM_
    obtain ⟨rfl, x766, A758, c759, E, H, hx_⟩ := hM_
    subst hx_; have hP := hK763; clear hK763
    refine bl_hit <| th_n <| sr_ <| vp 2 [(164, .pointer none), (165, .slice A758 x761.length c759)] E ?_
    clear E; intro a E
    obtain ⟨x783, h784, hP⟩ := bind_inv hP
    refine e_call (R := fun v_ w_ => ∃ (x785 : Unit), v_ = .tuple #[.int .i64 0, .int .i64 1] ∧ Hp S Fa w0 w_ [.box g37 26 [.int .i64 0, .slice none 0 0, .slice none 0 0, .slice none 0 0], .ro true cS81 (some ⟨b72, 0, none⟩) ([r58]), .rowx true cBool 4 (some ⟨g107, 0, none⟩) (Int.toNat (r58.1.length : Int)) x213 (List.replicate (Int.toNat (r58.1.length : Int) - Int.toNat (r58.1.length : Int)) (false : Bool)), .row true (cInt .i64) 3 A273 c274 r264.1, .rowx true (cInt .i64) 3 (some ⟨g308, 0, none⟩) (Int.toNat (r58.1.length : Int)) x405.1 (List.replicate (Int.toNat (r58.1.length : Int) - Int.toNat (r58.1.length : Int)) (0 : Int)), .box g462 26 [.int .i64 aProps, .slice none 0 0, .slice none 0 0, .slice none 0 0], .row true (cInt .i64) 3 (some ⟨b672, 0, none⟩) c403 x405.2, .row true (cInt .i64) 3 A758 c759 x761] ∧ x783 = x785) E rfl rfl Try.func64 rfl rfl rfl ?_ ?_
    ·
     clear E hP; have hP := h784; clear h784; rw [both_put_f4] at hP
     refine enterV (n := 63) Try.func64 rfl rfl rfl ?_
     intro a E
     replace E := E.pick [(0, .pointer none), (1, .slice A758 x761.length c759)] ⟨rfl, rfl, trivial⟩
     refine sr_ <| vp 2 [] E ?_
     clear E; intro a E
     refine nn_ <| wp_seq <| sr_ <| vp 1 [(10, .pointer none)] E ?_
     clear E; intro a E
     obtain ⟨x786, h787, hP⟩ := bind_inv hP
     refine e_call (R := fun v_ w_ => ∃ (x788 : Unit), v_ = .bool true ∧ Hp S Fa w0 w_ [.box g37 26 [.int .i64 0, .slice none 0 0, .slice none 0 0, .slice none 0 0], .ro true cS81 (some ⟨b72, 0, none⟩) ([r58]), .rowx true cBool 4 (some ⟨g107, 0, none⟩) (Int.toNat (r58.1.length : Int)) x213 (List.replicate (Int.toNat (r58.1.length : Int) - Int.toNat (r58.1.length : Int)) (false : Bool)), .row true (cInt .i64) 3 A273 c274 r264.1, .rowx true (cInt .i64) 3 (some ⟨g308, 0, none⟩) (Int.toNat (r58.1.length : Int)) x405.1 (List.replicate (Int.toNat (r58.1.length : Int) - Int.toNat (r58.1.length : Int)) (0 : Int)), .box g462 26 [.int .i64 aProps, .slice none 0 0, .slice none 0 0, .slice none 0 0], .row true (cInt .i64) 3 (some ⟨b672, 0, none⟩) c403 x405.2, .row true (cInt .i64) 3 A758 c759 x761] ∧ x786 = x788) E rfl rfl Try.func83 rfl rfl rfl ?_ ?_
     ·
      clear E hP; have hP := h787; clear h787; rw [both_put_f5] at hP
      refine enterV (n := 12) Try.func83 rfl rfl rfl ?_
      intro a E
      replace E := E.pick [(0, .pointer none)] ⟨rfl, trivial⟩
      refine sr_ <| vp 1 [] E ?_
      clear E; intro a E
      refine nn_ <| sr_ <| vp 10 [(2, .bool true)] E ?_
      clear E; intro a E
      refine nn_ <| wp_ret ?_
      have hx_ := Option.some.inj hP
      refine ret1 E rfl rfl ?_
      exact ⟨_, rfl, (), rfl, H.sel [0, 1, 2, 3, 4, 5, 7, 6] rfl, hx_.symm⟩
     clear H
     rintro v790 w789 a ⟨x788, rfl, H, hx_⟩ E_
     subst hx_
     replace E := E_ _ rfl; clear E_
     refine nn_ <| c_true E rfl ?_
     refine sr_ <| vp 2 [(4, .int .i64 0), (5, .int .i64 1)] E ?_
     clear E; intro a E
     refine nn_ <| wp_ret <| th_ret ?_
     have hx_ := Option.some.inj hP
     refine ret2 E rfl rfl rfl ?_
     exact ⟨_, rfl, (), rfl, H.sel (up 8) rfl, hx_.symm⟩
    clear H
    rintro v792 w791 a ⟨x785, rfl, H, hx_⟩ E_
    subst hx_
    replace E := E_ _ rfl; clear E_
    refine vp 5 [(26, .int .i64 0), (27, .int .i64 1)] E ?_
    clear E; intro a E
    refine nn_ <| wp_seq <| sr_ <| vp 2 [(170, .bool true)] E ?_
    clear E; intro a E
    refine nn_ <| c_true E rfl ?_
    refine sr_ <| e_build (ps := []) (v := .agg #[.int .i64 0, .slice none 0 0, .slice none 0 0, .slice none 0 0]) E rfl rfl tbok rfl (by kernel_rfl) rfl ?_
    clear E; intro a E
    refine vp 1 [(172, .int .i64 1)] E ?_
    clear E; intro a E
    refine h_store (g := g37) (off := 0) H 0 rfl E rfl rfl rfl rfl tbok rfl rfl rfl rfl rfl ?_
    clear E; intro w793 a hc794 H_ E
    replace H := H_; clear H_; try dsimp only [setn, addE, goneL] at H
    refine vp 1 [(7, .int .i64 1)] E ?_
    clear E; intro a E
    refine nn_ <| wp_ret <| th_ret <| bl_ret <| th_ret <| th_ret <| .inr ⟨rfl, ?_⟩
    refine bl_ret <| th_ret ?_
    replace H := H.nilrow cBool 4; try dsimp only [setn, addE, goneL] at H
    replace H := H.nilrow (cInt .i64) 3; try dsimp only [setn, addE, goneL] at H
    replace H := H.nilrow cNode 49; try dsimp only [setn, addE, goneL] at H
    have hx_ := Option.some.inj hP; subst hx_
    have hP : some (((0, [], [], []), 1)) = some r := hK666
    obtain rfl := Option.some.inj hP
    refine retV E [.cell 6 26, .tmp 7] [.agg #[.int .i64 0, .slice none 0 0, .slice none 0 0, .slice none 0 0], .int .i64 1] rfl ⟨⟨_, rfl, run_loadBx tbok (H.box 0 rfl) rfl rfl rfl 0 rfl rfl⟩, rfl, trivial⟩ (.inl rfl) ?_
    exact ⟨_, rfl, none, 0, none, 0, none, 0, rfl, H.sel [8, 9, 10] rfl⟩
   have h798 : ¬ (0 < (x405.2.length : Int)) := of_decide_eq_false hb_
   replace hP := ite_f h798 hP
   refine c_false E rfl <| wp_exit <| th_exit ?_
   have hx_ := Option.some.inj hP
   refine th_exit (.inl ⟨4, rfl, ?_⟩)
   exact ⟨rfl, (), E.pk, H.sel [0, 5] rfl, hx_.symm⟩
  clear E H hL665; intro i_ a w667 hM_
  obtain ⟨rfl, x669, E, H, hx_⟩ := hM_
  subst hx_; have hP := elim_l hK666
  clear hK666
  refine bl_hit <| th_n <| sr_ <| vp 1 [(189, .pointer none)] E ?_
  clear E; intro a E
  obtain ⟨x802, h803, hP⟩ := bind_inv hP
  refine e_call (R := fun v_ w_ => ∃ (x804 : Unit), v_ = .slice none 0 0 ∧ Hp S Fa w0 w_ [.box g37 26 [.int .i64 0, .slice none 0 0, .slice none 0 0, .slice none 0 0], .box g462 26 [.int .i64 aProps, .slice none 0 0, .slice none 0 0, .slice none 0 0]] ∧ x802 = x804) E rfl rfl Try.func65 rfl rfl rfl ?_ ?_
  ·
   clear E hP; have hP := h803; clear h803; rw [both_put_f6] at hP
   refine enterV (n := 11) Try.func65 rfl rfl rfl ?_
   intro a E
   replace E := E.pick [(0, .pointer none)] ⟨rfl, trivial⟩
   refine sr_ <| vp 1 [] E ?_
   clear E; intro a E
   refine nn_ <| wp_seq <| sr_ <| vp 1 [(3, .pointer none)] E ?_
   clear E; intro a E
   obtain ⟨x805, h806, hP⟩ := bind_inv hP
   refine e_call (R := fun v_ w_ => ∃ (x807 : Unit), v_ = .bool true ∧ Hp S Fa w0 w_ [.box g37 26 [.int .i64 0, .slice none 0 0, .slice none 0 0, .slice none 0 0], .box g462 26 [.int .i64 aProps, .slice none 0 0, .slice none 0 0, .slice none 0 0]] ∧ x805 = x807) E rfl rfl Try.func83 rfl rfl rfl ?_ ?_
   ·
    clear E hP; have hP := h806; clear h806; rw [both_put_f7] at hP
    refine enterV (n := 12) Try.func83 rfl rfl rfl ?_
    intro a E
    replace E := E.pick [(0, .pointer none)] ⟨rfl, trivial⟩
    refine sr_ <| vp 1 [] E ?_
    clear E; intro a E
    refine nn_ <| sr_ <| vp 10 [(2, .bool true)] E ?_
    clear E; intro a E
    refine nn_ <| wp_ret ?_
    have hx_ := Option.some.inj hP
    refine ret1 E rfl rfl ?_
    exact ⟨_, rfl, (), rfl, H.sel [0, 1] rfl, hx_.symm⟩
   clear H
   rintro v809 w808 a ⟨x807, rfl, H, hx_⟩ E_
   subst hx_
   replace E := E_ _ rfl; clear E_
   refine nn_ <| c_true E rfl ?_
   refine sr_ <| vp 1 [(2, .slice none 0 0)] E ?_
   clear E; intro a E
   refine nn_ <| wp_ret <| th_ret ?_
   have hx_ := Option.some.inj hP
   refine ret1 E rfl rfl ?_
   exact ⟨_, rfl, (), rfl, H.sel [0, 1] rfl, hx_.symm⟩
  clear H
  rintro v811 w810 a ⟨x804, rfl, H, hx_⟩ E_
  subst hx_
  replace E := E_ _ rfl; clear E_
  refine vp 1 [(191, .pointer (some ⟨g462, 3, none⟩))] E ?_
  clear E; intro a E
  refine h_store (g := g462) (off := 3) H 1 rfl E rfl rfl rfl rfl tbok rfl rfl rfl rfl rfl ?_
  clear E; intro w812 a hc813 H_ E
  replace H := H_; clear H_; try dsimp only [setn, addE, goneL] at H
  refine nn_ <| sr_ <| vq 1 [.agg #[.int .i64 aProps, .slice none 0 0, .slice none 0 0, .slice none 0 0]] [(192, .agg #[.int .i64 aProps, .slice none 0 0, .slice none 0 0, .slice none 0 0])] [cellsAt w812 g462 (0) [.int .i64 aProps, .slice none 0 0, .slice none 0 0, .slice none 0 0]] E ((H.box 1 rfl).sub 0 _ rfl) ?_
  clear E; intro a E
  refine h_store (g := g37) (off := 0) H 0 rfl E rfl rfl rfl rfl tbok rfl rfl rfl rfl rfl ?_
  clear E; intro w814 a hc815 H_ E
  replace H := H_; clear H_; try dsimp only [setn, addE, goneL] at H
  refine vp 1 [(7, .int .i64 0)] E ?_
  clear E; intro a E
  refine nn_ <| wp_ret ?_
  replace H := H.nilrow cBool 4; try dsimp only [setn, addE, goneL] at H
  replace H := H.nilrow (cInt .i64) 3; try dsimp only [setn, addE, goneL] at H
  replace H := H.nilrow cNode 49; try dsimp only [setn, addE, goneL] at H
  obtain rfl := Option.some.inj hP
  refine retV E [.cell 6 26, .tmp 7] [.agg #[.int .i64 aProps, .slice none 0 0, .slice none 0 0, .slice none 0 0], .int .i64 0] rfl ⟨⟨_, rfl, run_loadBx tbok (H.box 0 rfl) rfl rfl rfl 0 rfl rfl⟩, rfl, trivial⟩ (.inl rfl) ?_
  exact ⟨_, rfl, none, 0, none, 0, none, 0, rfl, H.sel [2, 3, 4] rfl⟩
 subst hr_; have hP := (elim_r hP)
 obtain ⟨x461, hxx_⟩ : ∃ y_, y_ = x_ := ⟨_, rfl⟩; subst hxx_
 replace E := E_ _ rfl; clear E_
 obtain ⟨H_, hc455⟩ := hb447 _ _ HR459 rfl
 replace H := H_; clear H_; try dsimp only [setn, addE, goneL] at H
 refine vp 5 [(18, .pointer (some ⟨g457, 0, none⟩))] E ?_
 clear E; intro a E
 refine nn_ <| sr_ <| vq 2 [.int .i64 aProps] [(128, .int .i64 aProps)] [World.cell? w452 ⟨g27, 0, none⟩ = some (.int .i64 aProps)] E ((H.box 3 rfl).cell (j := 0) rfl) ?_
 clear E; intro a E
 refine e_build (ps := [(0, .int .i64 aProps)]) (v := .agg #[.int .i64 aProps, .slice none 0 0, .slice none 0 0, .slice none 0 0]) E rfl rfl tbok rfl (by kernel_rfl) rfl ?_
 clear E; intro a E
 refine h_alloc H E rfl rfl tbok rfl ?_
 clear H E; intro w822 g821 a hc823 hg825 H E; replace E := E _ rfl; try dsimp only [setn, addE, goneL] at H
 refine h_store (g := g821) (off := 0) H 12 rfl E rfl rfl rfl rfl tbok rfl rfl rfl rfl rfl ?_
 clear E; intro w826 a hc827 H_ E
 replace H := H_; clear H_; try dsimp only [setn, addE, goneL] at H
 refine nn_ <| wp_seq <| sr_ <| vp 3 [(130, .slice A402 x405.2.length c403), (131, .int .i64 (x405.2.length : Int)), (132, .int .i64 0)] E ?_
 clear E; intro a E
 refine nn_ <| wp_block ?_
 obtain ⟨x1159, hL1160, hK1161⟩ := bind_inv hP
 clear hP
 replace H := H.nilrow cNode 49; try dsimp only [setn, addE, goneL] at H
 replace H := H.nilrow cBool 4; try dsimp only [setn, addE, goneL] at H
 replace H := H.nilrow (cInt .i64) 3; try dsimp only [setn, addE, goneL] at H
 refine loop_cut (fun i_ a w_ => (i_ = 4 ∧ ∃ (x1167 : (List Nd) × (List (Nd × Int)) × (List Bool) × (List Int)), ∃ (A1147 : Option Addr) (c1148 : Nat) (A1152 : Option Addr) (c1153 : Nat) (A1156 : Option Addr) (c1157 : Nat), Fr a 193 [(6, .pointer (some ⟨g37, 0, none⟩)), (18, .pointer (some ⟨g457, 0, none⟩)), (20, .pointer (some ⟨g821, 0, none⟩))] ∧ Hp S Fa w0 w_ [.box g37 26 [.int .i64 0, .slice none 0 0, .slice none 0 0, .slice none 0 0], .box g457 120 [.int .i64 aProps, .slice A1147 x1167.1.length c1148, .map (some g458)], .row true cNode 49 A1147 c1148 x1167.1, .mp Try.prog 49 g458 (List.map (fun p_ => (ndV p_.1, (fun u_ : Int => .int .i64 u_) p_.2)) x1167.2.1), .box g821 26 [.int .i64 aProps, .slice A1152 x1167.2.2.1.length c1153, .slice A1156 x1167.2.2.2.length c1157, .slice none 0 0], .row true cBool 4 A1152 c1153 x1167.2.2.1, .row true (cInt .i64) 3 A1156 c1157 x1167.2.2.2] ∧ x1159 = Sum.inl x1167)) ?_ ?_
 ·
  refine loopV (fun m1166 a w1165 => ∃ (s981 : List Nd) (s984 : List (Nd × Int)) (out986 : List Bool) (out990 : List Int) (x993 : Int), ∃ (A982 : Option Addr) (c983 : Nat) (A987 : Option Addr) (c988 : Nat) (A991 : Option Addr) (c992 : Nat), Fr a 193 [(6, .pointer (some ⟨g37, 0, none⟩)), (9, .pointer (some ⟨b72, 0, none⟩)), (10, .slice (some ⟨g107, 0, none⟩) x213.length (Int.toNat (r58.1.length : Int))), (13, .slice A273 r264.1.length c274), (15, .slice (some ⟨g308, 0, none⟩) x405.1.length (Int.toNat (r58.1.length : Int))), (18, .pointer (some ⟨g457, 0, none⟩)), (20, .pointer (some ⟨g821, 0, none⟩)), (130, .slice A402 x405.2.length c403), (131, .int .i64 (x405.2.length : Int)), (132, .int .i64 x993)] ∧ Hp S Fa w0 w1165 [.box g37 26 [.int .i64 0, .slice none 0 0, .slice none 0 0, .slice none 0 0], .ro true cS81 (some ⟨b72, 0, none⟩) ([r58]), .rowx true cBool 4 (some ⟨g107, 0, none⟩) (Int.toNat (r58.1.length : Int)) x213 (List.replicate (Int.toNat (r58.1.length : Int) - Int.toNat (r58.1.length : Int)) (false : Bool)), .row true (cInt .i64) 3 A273 c274 r264.1, .rowx true (cInt .i64) 3 (some ⟨g308, 0, none⟩) (Int.toNat (r58.1.length : Int)) x405.1 (List.replicate (Int.toNat (r58.1.length : Int) - Int.toNat (r58.1.length : Int)) (0 : Int)), .box g457 120 [.int .i64 aProps, .slice A982 s981.length c983, .map (some g458)], .row true cNode 49 A982 c983 s981, .mp Try.prog 49 g458 (List.map (fun p_ => (ndV p_.1, (fun u_ : Int => .int .i64 u_) p_.2)) s984), .box g821 26 [.int .i64 aProps, .slice A987 out986.length c988, .slice A991 out990.length c992, .slice none 0 0], .row true cBool 4 A987 c988 out986, .row true (cInt .i64) 3 A991 c992 out990, .row true (cInt .i64) 3 A402 c403 x405.2] ∧ both_put_l8 N aProps r58 x213 r264 x405 m1166 s981 s984 out986 out990 x993 = some x1159) N ?_ ?_
  ·
   exact ⟨[], ([] : List (Nd × Int)), [], [], 0, none, 0, none, 0, none, 0, E.pk, H.sel [4, 5, 6, 7, 8, 10, 13, 11, 12, 14, 15, 9] rfl, hL1160⟩
  clear E H hL1160; intro m1166 a w1165 hI_
  obtain ⟨s981, s984, out986, out990, x993, A982, c983, A987, c988, A991, c992, E, H, hP⟩ := hI_
  obtain ⟨m1158, rfl⟩ : ∃ q_, m1166 = q_ + 1 := by cases m1166 with | zero => rw [both_put_l8] at hP; cases hP | succ q_ => exact ⟨q_, rfl⟩
  rw [both_put_l8] at hP
  refine sr_ <| vp 1 [(133, .bool (decide (x993 < (x405.2.length : Int))))] E ?_
  clear E; intro a E
  refine nn_ <| wp_seq ?_
  revert E; refine csE 133 rfl (fun hb_ E => ?_) fun hb_ E => ?_
  ·
   have h1168 : x993 < (x405.2.length : Int) := of_decide_eq_true hb_
   replace hP := ite_t h1168 hP
   refine c_true E rfl <| wp_skip <| th_n <| wp_seq <| wp_block <| sr_ ?_
   obtain ⟨g1169, hP⟩ := ask_inv hP
   obtain ⟨b1170, e_b1170⟩ := H.raddr 11 rfl (idx_pos g1169)
   subst e_b1170
   refine vq 3 [.int .i64 (List.getD x405.2 x993.toNat 0)] [(22, .int .i64 (List.getD x405.2 x993.toNat 0))] [0 ≤ x993 ∧ x993 < (x405.2.length : Int), World.cell? w1165 ⟨b1170, 0 + x993.toNat * 1, none⟩ = some (.int .i64 (List.getD x405.2 x993.toNat 0))] E ⟨g1169, Rds.at1 (H.rd 11 rds_row) 0 g1169⟩ ?_
   clear E; intro a E
   refine nn_ <| sr_ ?_
   obtain ⟨Fz1172, cs1174, HF1173, hK1175, hc1176⟩ := H.elem 1 true (el_ro rfl) r58 (idx_one _)
   obtain ⟨_, _, rfl, hK1177, hK1178⟩ := hK1175
   obtain ⟨A1179, c1180, rfl, hk1181, hC1182⟩ := hK1177
   obtain ⟨_, _, rfl, hK1184, hK1185⟩ := hK1178
   obtain ⟨A1186, c1187, rfl, hk1188, hC1189⟩ := hK1184
   obtain ⟨_, _, rfl, hK1191, hK1192⟩ := hK1185
   obtain ⟨A1193, c1194, rfl, hk1195, hC1196⟩ := hK1191
   obtain ⟨A1198, c1199, rfl, hk1200, hC1201⟩ := hK1192
   replace HF1173 := HF1173.ins hC1182
   replace HF1173 := HF1173.ins hC1189
   replace HF1173 := HF1173.ins hC1196
   replace HF1173 := HF1173.ins hC1201
   replace H := HF1173.hp; try dsimp only [addE] at H
   have hc1203 : cellsAt w1165 b72 (0) [.slice A1179 r58.1.length c1180, .slice A1186 r58.2.1.length c1187, .slice A1193 r58.2.2.1.length c1194, .slice A1198 r58.2.2.2.length c1199] := hc1176
   obtain ⟨g1204, hP⟩ := ask_inv hP
   obtain ⟨b1205, o1206, e_b1205⟩ := (H.rd 13 rds_ro).addr (idx_pos g1204)
   subst e_b1205
   obtain ⟨A1207, c1208, hl1209, hk1210, H⟩ := H.subSl 13 true (el_ro rfl) g1204
   try dsimp only [addE] at H
   refine vq 7 [.slice (some ⟨b1205, o1206, none⟩) r58.2.1.length c1187, .slice A1207 (List.length (List.getD r58.2.1 (Int.toNat (List.getD x405.2 x993.toNat 0)) [])) c1208] [(142, .slice A1207 (List.length (List.getD r58.2.1 (Int.toNat (List.getD x405.2 x993.toNat 0)) [])) c1208)] [World.cell? w1165 ⟨b72, 1, none⟩ = some (.slice (some ⟨b1205, o1206, none⟩) r58.2.1.length c1187), 0 ≤ (List.getD x405.2 x993.toNat 0) ∧ (List.getD x405.2 x993.toNat 0) < (r58.2.1.length : Int), World.cell? w1165 ⟨b1205, o1206 + (Int.toNat (List.getD x405.2 x993.toNat 0)) * 1, none⟩ = some (.slice A1207 (List.length (List.getD r58.2.1 (Int.toNat (List.getD x405.2 x993.toNat 0)) [])) c1208)] E ⟨hc1203.get 1 _ rfl, g1204, hl1209⟩ ?_
   clear E; intro a E
   obtain ⟨r1212, h1213, hP⟩ := bind_inv hP
   obtain ⟨Fa1214, Hc1215, hb1216⟩ := H.call [] [(16, false)] rfl rfl trivial
   refine e_call E rfl rfl Try.func63 rfl rfl rfl (slices_Clone_int_int_calls A1207 c1208 (List.getD r58.2.1 (Int.toNat (List.getD x405.2 x993.toNat 0)) []) hk1210 Hc1215 h1213) ?_
   rintro v1217 w1218 a ⟨A1221, c1222, rfl, HR1219⟩ E_
   replace E := E_ _ rfl; clear E_
   obtain ⟨H_, hc1220⟩ := hb1216 _ _ HR1219 rfl
   replace H := H_; clear H_; try dsimp only [setn, addE, goneL] at H
   refine vp 1 [(23, .slice A1221 r1212.length c1222)] E ?_
   clear E; intro a E
   refine nn_ <| wp_seq <| sr_ <| vp 3 [(144, .slice A1221 r1212.length c1222), (145, .int .i64 (r1212.length : Int)), (146, .int .i64 0)] E ?_
   clear E; intro a E
   refine nn_ <| wp_block ?_
   obtain ⟨x1259, hL1260, hK1261⟩ := bind_inv hP
   clear hP
   refine loop_cut (fun i_ a w_ => (i_ = 6 ∧ ∃ (x1264 : List Int), ∃ (A1256 : Option Addr) (c1257 : Nat), Fr a 193 [(6, .pointer (some ⟨g37, 0, none⟩)), (9, .pointer (some ⟨b72, 0, none⟩)), (10, .slice (some ⟨g107, 0, none⟩) x213.length (Int.toNat (r58.1.length : Int))), (13, .slice A273 r264.1.length c274), (15, .slice (some ⟨g308, 0, none⟩) x405.1.length (Int.toNat (r58.1.length : Int))), (18, .pointer (some ⟨g457, 0, none⟩)), (20, .pointer (some ⟨g821, 0, none⟩)), (22, .int .i64 (List.getD x405.2 x993.toNat 0)), (23, .slice A1256 x1264.length c1257), (130, .slice (some ⟨b1170, 0, none⟩) x405.2.length c403), (131, .int .i64 (x405.2.length : Int)), (132, .int .i64 x993)] ∧ Hp S Fa w0 w_ [.box g37 26 [.int .i64 0, .slice none 0 0, .slice none 0 0, .slice none 0 0], .ro true cS81 (some ⟨b72, 0, none⟩) ([r58]), .rowx true cBool 4 (some ⟨g107, 0, none⟩) (Int.toNat (r58.1.length : Int)) x213 (List.replicate (Int.toNat (r58.1.length : Int) - Int.toNat (r58.1.length : Int)) (false : Bool)), .row true (cInt .i64) 3 A273 c274 r264.1, .rowx true (cInt .i64) 3 (some ⟨g308, 0, none⟩) (Int.toNat (r58.1.length : Int)) x405.1 (List.replicate (Int.toNat (r58.1.length : Int) - Int.toNat (r58.1.length : Int)) (0 : Int)), .row true cNode 49 A982 c983 s981, .mp Try.prog 49 g458 (List.map (fun p_ => (ndV p_.1, (fun u_ : Int => .int .i64 u_) p_.2)) s984), .box g457 120 [.int .i64 aProps, .slice A982 s981.length c983, .map (some g458)], .row true cBool 4 A987 c988 out986, .row true (cInt .i64) 3 A991 c992 out990, .box g821 26 [.int .i64 aProps, .slice A987 out986.length c988, .slice A991 out990.length c992, .slice none 0 0], .row true (cInt .i64) 3 A1256 c1257 x1264, .row true (cInt .i64) 3 (some ⟨b1170, 0, none⟩) c403 x405.2] ∧ x1259 = x1264)) ?_ ?_
   ·
    refine loopV (fun m1263 a w1262 => ∃ (row1237 : List Int) (x1240 : Int), ∃ (A1238 : Option Addr) (c1239 : Nat), Fr a 193 [(6, .pointer (some ⟨g37, 0, none⟩)), (9, .pointer (some ⟨b72, 0, none⟩)), (10, .slice (some ⟨g107, 0, none⟩) x213.length (Int.toNat (r58.1.length : Int))), (13, .slice A273 r264.1.length c274), (15, .slice (some ⟨g308, 0, none⟩) x405.1.length (Int.toNat (r58.1.length : Int))), (18, .pointer (some ⟨g457, 0, none⟩)), (20, .pointer (some ⟨g821, 0, none⟩)), (22, .int .i64 (List.getD x405.2 x993.toNat 0)), (23, .slice A1238 row1237.length c1239), (130, .slice (some ⟨b1170, 0, none⟩) x405.2.length c403), (131, .int .i64 (x405.2.length : Int)), (132, .int .i64 x993), (144, .slice A1238 row1237.length c1239), (145, .int .i64 (r1212.length : Int)), (146, .int .i64 x1240)] ∧ Hp S Fa w0 w1262 [.box g37 26 [.int .i64 0, .slice none 0 0, .slice none 0 0, .slice none 0 0], .ro true cS81 (some ⟨b72, 0, none⟩) ([r58]), .rowx true cBool 4 (some ⟨g107, 0, none⟩) (Int.toNat (r58.1.length : Int)) x213 (List.replicate (Int.toNat (r58.1.length : Int) - Int.toNat (r58.1.length : Int)) (false : Bool)), .row true (cInt .i64) 3 A273 c274 r264.1, .rowx true (cInt .i64) 3 (some ⟨g308, 0, none⟩) (Int.toNat (r58.1.length : Int)) x405.1 (List.replicate (Int.toNat (r58.1.length : Int) - Int.toNat (r58.1.length : Int)) (0 : Int)), .row true cNode 49 A982 c983 s981, .mp Try.prog 49 g458 (List.map (fun p_ => (ndV p_.1, (fun u_ : Int => .int .i64 u_) p_.2)) s984), .box g457 120 [.int .i64 aProps, .slice A982 s981.length c983, .map (some g458)], .row true cBool 4 A987 c988 out986, .row true (cInt .i64) 3 A991 c992 out990, .box g821 26 [.int .i64 aProps, .slice A987 out986.length c988, .slice A991 out990.length c992, .slice none 0 0], .row true (cInt .i64) 3 A1238 c1239 row1237, .row true (cInt .i64) 3 (some ⟨b1170, 0, none⟩) c403 x405.2] ∧ both_put_l9 N r264 x405 r1212 m1263 row1237 x1240 = some x1259) N ?_ ?_
    ·
     exact ⟨r1212, 0, A1221, c1222, E.pk, H.sel [0, 1, 2, 3, 4, 6, 7, 5, 9, 10, 8, 17, 11] rfl, hL1260⟩
    clear E H hL1260; intro m1263 a w1262 hI_
    obtain ⟨row1237, x1240, A1238, c1239, E, H, hP⟩ := hI_
    obtain ⟨m1258, rfl⟩ : ∃ q_, m1263 = q_ + 1 := by cases m1263 with | zero => rw [both_put_l9] at hP; cases hP | succ q_ => exact ⟨q_, rfl⟩
    rw [both_put_l9] at hP
    refine sr_ <| vp 1 [(147, .bool (decide (x1240 < (r1212.length : Int))))] E ?_
    clear E; intro a E
    refine nn_ <| wp_seq ?_
    revert E; refine csE 147 rfl (fun hb_ E => ?_) fun hb_ E => ?_
    ·
     have h1265 : x1240 < (r1212.length : Int) := of_decide_eq_true hb_
     replace hP := ite_t h1265 hP
     refine c_true E rfl <| wp_skip <| th_n <| wp_seq <| wp_block <| sr_ ?_
     obtain ⟨g1266, hP⟩ := ask_inv hP
     obtain ⟨b1267, e_b1267⟩ := H.raddr 11 rfl (idx_pos g1266)
     subst e_b1267
     refine vq 5 [.int .i64 (List.getD row1237 x1240.toNat 0)] [(24, .int .i64 x1240), (25, .int .i64 (List.getD row1237 x1240.toNat 0))] [0 ≤ x1240 ∧ x1240 < (row1237.length : Int), World.cell? w1262 ⟨b1267, 0 + x1240.toNat * 1, none⟩ = some (.int .i64 (List.getD row1237 x1240.toNat 0))] E ⟨g1266, Rds.at1 (H.rd 11 rds_row) 0 g1266⟩ ?_
     clear E; intro a E
     refine nn_ <| rl_ ?_
     obtain ⟨g1269, hP⟩ := ask_inv hP
     obtain ⟨b1270, e_b1270⟩ := H.raddr 3 rfl (idx_pos g1269)
     subst e_b1270
     obtain ⟨g1272, hP⟩ := ask_inv hP
     obtain ⟨g1273, hP⟩ := ask_inv hP
     refine vq 11 [.int .i64 (List.getD r264.1 (Int.toNat (List.getD row1237 x1240.toNat 0)) 0), .int .i64 (List.getD x405.1 (Int.toNat (List.getD r264.1 (Int.toNat (List.getD row1237 x1240.toNat 0)) 0)) 0), .int .i64 ((List.getD x405.1 (Int.toNat (List.getD r264.1 (Int.toNat (List.getD row1237 x1240.toNat 0)) 0)) 0) - 1)] [(160, .int .i64 ((List.getD x405.1 (Int.toNat (List.getD r264.1 (Int.toNat (List.getD row1237 x1240.toNat 0)) 0)) 0) - 1)), (161, .pointer (some ⟨b1267, 0 + x1240.toNat * 1, none⟩))] [0 ≤ (List.getD row1237 x1240.toNat 0) ∧ (List.getD row1237 x1240.toNat 0) < (r264.1.length : Int), World.cell? w1262 ⟨b1270, 0 + (Int.toNat (List.getD row1237 x1240.toNat 0)) * 1, none⟩ = some (.int .i64 (List.getD r264.1 (Int.toNat (List.getD row1237 x1240.toNat 0)) 0)), 0 ≤ (List.getD r264.1 (Int.toNat (List.getD row1237 x1240.toNat 0)) 0) ∧ (List.getD r264.1 (Int.toNat (List.getD row1237 x1240.toNat 0)) 0) < (x405.1.length : Int), World.cell? w1262 ⟨g308, 0 + (Int.toNat (List.getD r264.1 (Int.toNat (List.getD row1237 x1240.toNat 0)) 0)) * 1, none⟩ = some (.int .i64 (List.getD x405.1 (Int.toNat (List.getD r264.1 (Int.toNat (List.getD row1237 x1240.toNat 0)) 0)) 0)), IntKind.i64.wrap ((List.getD x405.1 (Int.toNat (List.getD r264.1 (Int.toNat (List.getD row1237 x1240.toNat 0)) 0)) 0) - 1) = (List.getD x405.1 (Int.toNat (List.getD r264.1 (Int.toNat (List.getD row1237 x1240.toNat 0)) 0)) 0) - 1, 0 ≤ x1240 ∧ x1240 < (row1237.length : Int)] E ⟨g1269, Rds.at1 (H.rd 3 rds_row) 0 g1269, g1272, Rds.at1 (H.rd 4 rds_rowx) 0 g1272, wrap_in g1273, g1266⟩ ?_
     clear E; intro a E
     refine h_set (g := b1267) (i := x1240) ((List.getD x405.1 (Int.toNat (List.getD r264.1 (Int.toNat (List.getD row1237 x1240.toNat 0)) 0)) 0) - 1) H 11 rfl E rfl rfl rfl rfl tbok rfl (fun _ HF_ => rfl) rfl g1266 rfl ?_
     clear E; intro w1274 a hc1275 H_ E
     replace H := H_; clear H_; try dsimp only [setn, addE, goneL] at H
     have hn1276 : row1237.length = (List.length (List.set row1237 x1240.toNat ((List.getD x405.1 (Int.toNat (List.getD r264.1 (Int.toNat (List.getD row1237 x1240.toNat 0)) 0)) 0) - 1))) := by simp only [List.length_set]
     replace E := E.same (t := 23) (u := .slice (some ⟨b1267, 0, none⟩) (List.length (List.set row1237 x1240.toNat ((List.getD x405.1 (Int.toNat (List.getD r264.1 (Int.toNat (List.getD row1237 x1240.toNat 0)) 0)) 0) - 1))) c1239) rfl (congrArg (fun n_ => Value.slice (some ⟨b1267, 0, none⟩) n_ c1239) hn1276)
     replace E := E.same (t := 144) (u := .slice (some ⟨b1267, 0, none⟩) (List.length (List.set row1237 x1240.toNat ((List.getD x405.1 (Int.toNat (List.getD r264.1 (Int.toNat (List.getD row1237 x1240.toNat 0)) 0)) 0) - 1))) c1239) rfl (congrArg (fun n_ => Value.slice (some ⟨b1267, 0, none⟩) n_ c1239) hn1276)
     refine nl_ <| bl_n <| th_n <| rl_ ?_
     obtain ⟨g1277, hP⟩ := ask_inv hP
     refine vq 2 [.int .i64 (x1240 + 1)] [(146, .int .i64 (x1240 + 1))] [IntKind.i64.wrap (x1240 + 1) = x1240 + 1] E (wrap_in g1277) ?_
     clear E; intro a E
     refine nl_ ?_
     exact th_n ⟨m1258, Nat.lt_succ_self _, List.set row1237 x1240.toNat ((List.getD x405.1 (Int.toNat (List.getD r264.1 (Int.toNat (List.getD row1237 x1240.toNat 0)) 0)) 0) - 1), x1240 + 1, (some ⟨b1267, 0, none⟩), c1239, E.pk, H.sel (up 13) rfl, hP⟩
    have h1278 : ¬ (x1240 < (r1212.length : Int)) := of_decide_eq_false hb_
    replace hP := ite_f h1278 hP
    refine c_false E rfl <| wp_exit <| th_exit ?_
    have hx_ := Option.some.inj hP
    refine th_exit (.inl ⟨6, rfl, ?_⟩)
    exact ⟨rfl, row1237, A1238, c1239, E.pk, H.sel (up 13) rfl, hx_.symm⟩
   clear E H hL1260; intro i_ a w1262 hM_
   obtain ⟨rfl, x1264, A1256, c1257, E, H, hx_⟩ := hM_
   subst hx_; have hP := hK1261; clear hK1261
   refine bl_hit <| th_n <| sr_ <| vp 2 [(164, .pointer (some ⟨g457, 0, none⟩)), (165, .slice A1256 x1259.length c1257)] E ?_
   clear E; intro a E
   obtain ⟨r1279, h1280, hP⟩ := bind_inv hP
   obtain ⟨Fa1281, Hc1282, hb1283⟩ := H.call [7, 5, 6] [(11, false)] rfl rfl ⟨flat_plain, trivial⟩
   refine e_call E rfl rfl Try.func64 rfl rfl rfl (guard_Store_Add_calls g457 A982 c983 g458 A1256 c1257 aProps s981 s984 x1259 (H.rcap 11 rfl) Hc1282 h1280) ?_
   intro v1289 w1288 a hR1290 E_
   obtain ⟨x_, A1293, c1294, hr_, rfl, HR1292⟩ := hR1290
   subst hr_
   replace E := E_ _ rfl; clear E_
   obtain ⟨H_, hc1291⟩ := hb1283 _ _ HR1292 rfl
   replace H := H_; clear H_; try dsimp only [setn, addE, goneL] at H
   refine vp 5 [(26, .int .i64 r1279.1), (27, .int .i64 r1279.2.1)] E ?_
   clear E; intro a E
   refine nn_ <| wp_seq <| sr_ <| vp 2 [(170, .bool ((r1279.2.1 : Int) != 0))] E ?_
   clear E; intro a E
   refine nn_ ?_
   revert E; refine csE 170 rfl (fun hb_ E => ?_) fun hb_ E => ?_
   ·
    have h1298 : ¬ ((r1279.2.1 : Int) = 0) := bne_iff_ne.1 hb_
    replace hP := ite_f h1298 hP
    refine c_true E rfl <| sr_ <| e_build (ps := []) (v := .agg #[.int .i64 0, .slice none 0 0, .slice none 0 0, .slice none 0 0]) E rfl rfl tbok rfl (by kernel_rfl) rfl ?_
    clear E; intro a E
    refine vp 1 [(172, .int .i64 r1279.2.1)] E ?_
    clear E; intro a E
    refine h_store (g := g37) (off := 0) H 0 rfl E rfl rfl rfl rfl tbok rfl rfl rfl rfl rfl ?_
    clear E; intro w1299 a hc1300 H_ E
    replace H := H_; clear H_; try dsimp only [setn, addE, goneL] at H
    refine vp 1 [(7, .int .i64 r1279.2.1)] E ?_
    clear E; intro a E
    refine nn_ <| wp_ret <| th_ret <| bl_ret <| th_ret <| th_ret <| .inr ⟨rfl, ?_⟩
    refine bl_ret <| th_ret ?_
    replace H := H.nilrow cBool 4; try dsimp only [setn, addE, goneL] at H
    replace H := H.nilrow (cInt .i64) 3; try dsimp only [setn, addE, goneL] at H
    replace H := H.nilrow cNode 49; try dsimp only [setn, addE, goneL] at H
    have hx_ := Option.some.inj hP; subst hx_
    have hP : some (((0, [], [], []), r1279.2.1)) = some r := hK1161
    obtain rfl := Option.some.inj hP
    refine retV E [.cell 6 26, .tmp 7] [.agg #[.int .i64 0, .slice none 0 0, .slice none 0 0, .slice none 0 0], .int .i64 r1279.2.1] rfl ⟨⟨_, rfl, run_loadBx tbok (H.box 0 rfl) rfl rfl rfl 0 rfl rfl⟩, rfl, trivial⟩ (.inl rfl) ?_
    exact ⟨_, rfl, none, 0, none, 0, none, 0, rfl, H.sel [16, 17, 18] rfl⟩
   have h1304 : (r1279.2.1 : Int) = 0 := bne_eq_false_iff_eq.1 hb_
   replace hP := ite_t h1304 hP
   refine c_false E rfl <| wp_skip <| th_n ?_
   obtain ⟨g1305, hP⟩ := ask_inv hP
   obtain ⟨g1311, hP⟩ := ask_inv hP
   obtain ⟨g1322, hP⟩ := ask_inv hP
   refine dr_start (S := fun _ => True) (by kernel_rfl) ?_
   intro w1328 hc1329
   replace H := H.ext hc1329
   refine dr_cut (S := fun w_ => Chg (atL [.row true cBool 4 A987 c988 out986, .row true (cInt .i64) 3 A991 c992 out990]) w1328 w_) 14 14 #[false, false, false, false, false, false, false, false, false, false, false, false, false, false] (fun a w1334 => ∃ (A1330 : Option Addr) (c1331 : Nat) (A1332 : Option Addr) (c1333 : Nat), Fr a 193 [(6, .pointer (some ⟨g37, 0, none⟩)), (9, .pointer (some ⟨b72, 0, none⟩)), (10, .slice (some ⟨g107, 0, none⟩) x213.length (Int.toNat (r58.1.length : Int))), (13, .slice A273 r264.1.length c274), (15, .slice (some ⟨g308, 0, none⟩) x405.1.length (Int.toNat (r58.1.length : Int))), (18, .pointer (some ⟨g457, 0, none⟩)), (20, .pointer (some ⟨g821, 0, none⟩)), (130, .slice (some ⟨b1170, 0, none⟩) x405.2.length c403), (131, .int .i64 (x405.2.length : Int)), (132, .int .i64 x993), (180, .slice A1330 (List.length (out986 ++ ([(List.getD x213 (Int.toNat (List.getD x405.2 x993.toNat 0)) false)] : List Bool))) c1331), (185, .slice A1332 (List.length (out990 ++ ([r1279.1] : List Int))) c1333), (186, .pointer (some ⟨g821, 1, none⟩))] ∧ Hp S Fa w0 w1334 [.box g37 26 [.int .i64 0, .slice none 0 0, .slice none 0 0, .slice none 0 0], .ro true cS81 (some ⟨b72, 0, none⟩) ([r58]), .rowx true cBool 4 (some ⟨g107, 0, none⟩) (Int.toNat (r58.1.length : Int)) x213 (List.replicate (Int.toNat (r58.1.length : Int) - Int.toNat (r58.1.length : Int)) (false : Bool)), .row true (cInt .i64) 3 A273 c274 r264.1, .rowx true (cInt .i64) 3 (some ⟨g308, 0, none⟩) (Int.toNat (r58.1.length : Int)) x405.1 (List.replicate (Int.toNat (r58.1.length : Int) - Int.toNat (r58.1.length : Int)) (0 : Int)), .row true cNode 49 A1293 c1294 r1279.2.2.1, .mp Try.prog 49 g458 (List.map (fun p_ => (ndV p_.1, (fun u_ : Int => .int .i64 u_) p_.2)) r1279.2.2.2), .box g457 120 [.int .i64 aProps, .slice A1293 r1279.2.2.1.length c1294, .map (some g458)], .row true cBool 4 A1330 c1331 (out986 ++ ([(List.getD x213 (Int.toNat (List.getD x405.2 x993.toNat 0)) false)] : List Bool)), .row true (cInt .i64) 3 A1332 c1333 (out990 ++ ([r1279.1] : List Int)), .box g821 26 [.int .i64 aProps, .slice A987 out986.length c988, .slice A991 out990.length c992, .slice none 0 0], .row true (cInt .i64) 3 (some ⟨b1170, 0, none⟩) c403 x405.2]) (by kernel_rfl) (by kernel_rfl) rfl (by kernel_rfl) (by kernel_rfl) ?_ ?_
   ·
    have HR1338 := H
    have HS1337 : Chg (atL [.row true cBool 4 A987 c988 out986, .row true (cInt .i64) 3 A991 c992 out990]) w1328 w1328 := Chg.refl _ _
    refine dn tbok (by kernel_rfl) [0, 1, 2, 3, 4, 5, 8, 9, 10] [.slice A987 out986.length c988, .bool (List.getD x213 (Int.toNat (List.getD x405.2 x993.toNat 0)) false), .slice A991 out990.length c992] [(174, .slice A987 out986.length c988), (178, .bool (List.getD x213 (Int.toNat (List.getD x405.2 x993.toNat 0)) false)), (182, .slice A991 out990.length c992), (183, .int .i64 r1279.1)] (fun w_ => [World.cell? w_ ⟨g821, 1, none⟩ = some (.slice A987 out986.length c988), 0 ≤ (List.getD x405.2 x993.toNat 0) ∧ (List.getD x405.2 x993.toNat 0) < (x213.length : Int), World.cell? w_ ⟨g107, 0 + (Int.toNat (List.getD x405.2 x993.toNat 0)) * 1, none⟩ = some (.bool (List.getD x213 (Int.toNat (List.getD x405.2 x993.toNat 0)) false)), World.cell? w_ ⟨g821, 2, none⟩ = some (.slice A991 out990.length c992)]) 5 E (fun _ _ => by kernel_rfl) (by kernel_rfl) (fun w_ hS_ => ⟨(HR1338.boxk [8, 9] hS_ 10 rfl rfl).cell (j := 1) rfl, g1305, Rds.at1 (HR1338.rdk [8, 9] hS_ 2 rds_rowx rfl) false g1305, (HR1338.boxk [8, 9] hS_ 10 rfl rfl).cell (j := 2) rfl⟩) (by kernel_rfl) HS1337 ?_
    clear E; intro a E
    refine wpAnyH_all (rs := [6, 11]) (by kernel_rfl) (by simp) ?_
    refine all2 ?_ ?_
    ·
     refine wpOp_of_list rfl ?_
     refine h_buildSlice (ps := [(0, .bool (List.getD x213 (Int.toNat (List.getD x405.2 x993.toNat 0)) false))]) (cs := [.bool (List.getD x213 (Int.toNat (List.getD x405.2 x993.toNat 0)) false)]) H E rfl rfl tbok rfl rfl (by kernel_rfl) ?_
     intro w1340 g1339 a hc1341 hg1343 H_ E_
     replace E := E_ _ rfl; clear E_
     have hin1344 : ∀ q_, q_ < w1328.heap.size → q_ = g1339 → (atL [.row true cBool 4 A987 c988 out986, .row true (cInt .i64) 3 A991 c992 out990]) q_ := fun q_ h1_ h2_ => by have hs_ := HS1337.size; have h4_ : q_ = g1339 := h2_; exfalso; omega
     replace HS1337 := HS1337.ext hc1341
     replace H := H_; clear H_; try dsimp only [setn, addE, goneL] at H
     refine nl_ <| th_n ⟨HS1337, ?_⟩
     refine wpAnyH_all (rs := [7, 11]) (by kernel_rfl) (by simp) ?_
     refine all2 ?_ ?_
     ·
      refine wpOp_of_list rfl ?_
      refine h_append cBool (xs := out986) (ys := ([(List.getD x213 (Int.toNat (List.getD x405.2 x993.toNat 0)) false)] : List Bool)) (false : Bool) H 8 rfl E rfl rfl tbok rfl rfl rfl rfl rfl (fun _ _ => rfl) rfl rfl (fun _ HF_ => HF_.srcB 16 rfl (⟨_, _, rfl, rfl, rfl⟩)) g1311 ?_
      intro w1345 A1346 c1347 a hc1348 hA1349 H_ E_
      replace E := E_ _ rfl; clear E_
      have hin1350 : ∀ q_, q_ < w1328.heap.size → At A1346 q_ → (atL [.row true cBool 4 A987 c988 out986, .row true (cInt .i64) 3 A991 c992 out990]) q_ := fun q_ h1_ h2_ => (hA1349 q_ h2_).elim ((fun _ _ h_ => Or.inl h_) q_ h1_) (fun h3_ => by have hs_ := HS1337.size; exfalso; omega)
      replace HS1337 := HS1337.trans hc1348 (fun k_ hk_ h_ => (fun _ _ h_ => Or.inl h_) k_ hk_ h_)
      replace H := H_; clear H_; try dsimp only [setn, addE, goneL] at H
      refine nl_ <| th_n ⟨HS1337, ?_⟩
      refine dn tbok (by kernel_rfl) [13] [] [(186, .pointer (some ⟨g821, 1, none⟩))] (fun w_ => []) 2 E (fun _ _ => by kernel_rfl) (by kernel_rfl) (fun w_ hS_ => trivial) (by kernel_rfl) HS1337 ?_
      clear E; intro a E
      refine wpAnyH_all (rs := [11]) (by kernel_rfl) (by simp) ?_
      refine all1 ?_
      refine wpOp_of_list rfl ?_
      refine h_buildSlice (ps := [(0, .int .i64 r1279.1)]) (cs := [.int .i64 r1279.1]) H E rfl rfl tbok rfl rfl (by kernel_rfl) ?_
      intro w1352 g1351 a hc1353 hg1355 H_ E_
      replace E := E_ _ rfl; clear E_
      have hin1356 : ∀ q_, q_ < w1328.heap.size → q_ = g1351 → (atL [.row true cBool 4 A987 c988 out986, .row true (cInt .i64) 3 A991 c992 out990]) q_ := fun q_ h1_ h2_ => by have hs_ := HS1337.size; have h4_ : q_ = g1351 := h2_; exfalso; omega
      replace HS1337 := HS1337.ext hc1353
      replace H := H_; clear H_; try dsimp only [setn, addE, goneL] at H
      refine nl_ <| th_n ⟨HS1337, ?_⟩
      refine wpAnyH_all (rs := [12]) (by kernel_rfl) (by simp) ?_
      refine all1 ?_
      refine wpOp_of_list rfl ?_
      refine h_append (cInt .i64) (xs := out990) (ys := ([r1279.1] : List Int)) (0 : Int) H 9 rfl E rfl rfl tbok rfl rfl rfl rfl rfl (fun _ _ => rfl) rfl rfl (fun _ HF_ => HF_.srcB 17 rfl (⟨_, _, rfl, rfl, rfl⟩)) g1322 ?_
      intro w1357 A1358 c1359 a hc1360 hA1361 H_ E_
      replace E := E_ _ rfl; clear E_
      have hin1362 : ∀ q_, q_ < w1328.heap.size → At A1358 q_ → (atL [.row true cBool 4 A987 c988 out986, .row true (cInt .i64) 3 A991 c992 out990]) q_ := fun q_ h1_ h2_ => (hA1361 q_ h2_).elim ((fun _ _ h_ => Or.inr (Or.inl h_)) q_ h1_) (fun h3_ => by have hs_ := HS1337.size; exfalso; omega)
      replace HS1337 := HS1337.trans hc1360 (fun k_ hk_ h_ => (fun _ _ h_ => Or.inr (Or.inl h_)) k_ hk_ h_)
      replace H := H_; clear H_; try dsimp only [setn, addE, goneL] at H
      refine nl_ <| th_n ⟨HS1337, ?_⟩
      refine dr_doneM (by kernel_rfl) ?_
      exact ⟨A1346, c1347, A1358, c1359, E.pk, H.sel [0, 1, 2, 3, 4, 14, 15, 13, 8, 9, 10, 12] rfl⟩
     refine wpOp_of_list rfl ?_
     refine h_buildSlice (ps := [(0, .int .i64 r1279.1)]) (cs := [.int .i64 r1279.1]) H E rfl rfl tbok rfl rfl (by kernel_rfl) ?_
     intro w1364 g1363 a hc1365 hg1367 H_ E_
     replace E := E_ _ rfl; clear E_
     have hin1368 : ∀ q_, q_ < w1328.heap.size → q_ = g1363 → (atL [.row true cBool 4 A987 c988 out986, .row true (cInt .i64) 3 A991 c992 out990]) q_ := fun q_ h1_ h2_ => by have hs_ := HS1337.size; have h4_ : q_ = g1363 := h2_; exfalso; omega
     replace HS1337 := HS1337.ext hc1365
     replace H := H_; clear H_; try dsimp only [setn, addE, goneL] at H
     refine nl_ <| th_n ⟨HS1337, ?_⟩
     refine wpAnyH_all (rs := [7]) (by kernel_rfl) (by simp) ?_
     refine all1 ?_
     refine wpOp_of_list rfl ?_
     refine h_append cBool (xs := out986) (ys := ([(List.getD x213 (Int.toNat (List.getD x405.2 x993.toNat 0)) false)] : List Bool)) (false : Bool) H 8 rfl E rfl rfl tbok rfl rfl rfl rfl rfl (fun _ _ => rfl) rfl rfl (fun _ HF_ => HF_.srcB 16 rfl (⟨_, _, rfl, rfl, rfl⟩)) g1311 ?_
     intro w1369 A1370 c1371 a hc1372 hA1373 H_ E_
     replace E := E_ _ rfl; clear E_
     have hin1374 : ∀ q_, q_ < w1328.heap.size → At A1370 q_ → (atL [.row true cBool 4 A987 c988 out986, .row true (cInt .i64) 3 A991 c992 out990]) q_ := fun q_ h1_ h2_ => (hA1373 q_ h2_).elim ((fun _ _ h_ => Or.inl h_) q_ h1_) (fun h3_ => by have hs_ := HS1337.size; exfalso; omega)
     replace HS1337 := HS1337.trans hc1372 (fun k_ hk_ h_ => (fun _ _ h_ => Or.inl h_) k_ hk_ h_)
     replace H := H_; clear H_; try dsimp only [setn, addE, goneL] at H
     refine nl_ <| th_n ⟨HS1337, ?_⟩
     refine dn tbok (by kernel_rfl) [13] [] [(186, .pointer (some ⟨g821, 1, none⟩))] (fun w_ => []) 1 E (fun _ _ => by kernel_rfl) (by kernel_rfl) (fun w_ hS_ => trivial) (by kernel_rfl) HS1337 ?_
     clear E; intro a E
     refine wpAnyH_all (rs := [12]) (by kernel_rfl) (by simp) ?_
     refine all1 ?_
     refine wpOp_of_list rfl ?_
     refine h_append (cInt .i64) (xs := out990) (ys := ([r1279.1] : List Int)) (0 : Int) H 9 rfl E rfl rfl tbok rfl rfl rfl rfl rfl (fun _ _ => rfl) rfl rfl (fun _ HF_ => HF_.srcB 17 rfl (⟨_, _, rfl, rfl, rfl⟩)) g1322 ?_
     intro w1375 A1376 c1377 a hc1378 hA1379 H_ E_
     replace E := E_ _ rfl; clear E_
     have hin1380 : ∀ q_, q_ < w1328.heap.size → At A1376 q_ → (atL [.row true cBool 4 A987 c988 out986, .row true (cInt .i64) 3 A991 c992 out990]) q_ := fun q_ h1_ h2_ => (hA1379 q_ h2_).elim ((fun _ _ h_ => Or.inr (Or.inl h_)) q_ h1_) (fun h3_ => by have hs_ := HS1337.size; exfalso; omega)
     replace HS1337 := HS1337.trans hc1378 (fun k_ hk_ h_ => (fun _ _ h_ => Or.inr (Or.inl h_)) k_ hk_ h_)
     replace H := H_; clear H_; try dsimp only [setn, addE, goneL] at H
     refine nl_ <| th_n ⟨HS1337, ?_⟩
     refine dr_doneM (by kernel_rfl) ?_
     exact ⟨A1370, c1371, A1376, c1377, E.pk, H.sel [0, 1, 2, 3, 4, 14, 15, 13, 8, 9, 10, 12] rfl⟩
    refine wpOp_of_list rfl ?_
    refine h_buildSlice (ps := [(0, .int .i64 r1279.1)]) (cs := [.int .i64 r1279.1]) H E rfl rfl tbok rfl rfl (by kernel_rfl) ?_
    intro w1382 g1381 a hc1383 hg1385 H_ E_
    replace E := E_ _ rfl; clear E_
    have hin1386 : ∀ q_, q_ < w1328.heap.size → q_ = g1381 → (atL [.row true cBool 4 A987 c988 out986, .row true (cInt .i64) 3 A991 c992 out990]) q_ := fun q_ h1_ h2_ => by have hs_ := HS1337.size; have h4_ : q_ = g1381 := h2_; exfalso; omega
    replace HS1337 := HS1337.ext hc1383
    replace H := H_; clear H_; try dsimp only [setn, addE, goneL] at H
    refine nl_ <| th_n ⟨HS1337, ?_⟩
    refine wpAnyH_all (rs := [6]) (by kernel_rfl) (by simp) ?_
    refine all1 ?_
    refine wpOp_of_list rfl ?_
    refine h_buildSlice (ps := [(0, .bool (List.getD x213 (Int.toNat (List.getD x405.2 x993.toNat 0)) false))]) (cs := [.bool (List.getD x213 (Int.toNat (List.getD x405.2 x993.toNat 0)) false)]) H E rfl rfl tbok rfl rfl (by kernel_rfl) ?_
    intro w1388 g1387 a hc1389 hg1391 H_ E_
    replace E := E_ _ rfl; clear E_
    have hin1392 : ∀ q_, q_ < w1328.heap.size → q_ = g1387 → (atL [.row true cBool 4 A987 c988 out986, .row true (cInt .i64) 3 A991 c992 out990]) q_ := fun q_ h1_ h2_ => by have hs_ := HS1337.size; have h4_ : q_ = g1387 := h2_; exfalso; omega
    replace HS1337 := HS1337.ext hc1389
    replace H := H_; clear H_; try dsimp only [setn, addE, goneL] at H
    refine nl_ <| th_n ⟨HS1337, ?_⟩
    refine wpAnyH_all (rs := [7]) (by kernel_rfl) (by simp) ?_
    refine all1 ?_
    refine wpOp_of_list rfl ?_
    refine h_append cBool (xs := out986) (ys := ([(List.getD x213 (Int.toNat (List.getD x405.2 x993.toNat 0)) false)] : List Bool)) (false : Bool) H 8 rfl E rfl rfl tbok rfl rfl rfl rfl rfl (fun _ _ => rfl) rfl rfl (fun _ HF_ => HF_.srcB 17 rfl (⟨_, _, rfl, rfl, rfl⟩)) g1311 ?_
    intro w1393 A1394 c1395 a hc1396 hA1397 H_ E_
    replace E := E_ _ rfl; clear E_
    have hin1398 : ∀ q_, q_ < w1328.heap.size → At A1394 q_ → (atL [.row true cBool 4 A987 c988 out986, .row true (cInt .i64) 3 A991 c992 out990]) q_ := fun q_ h1_ h2_ => (hA1397 q_ h2_).elim ((fun _ _ h_ => Or.inl h_) q_ h1_) (fun h3_ => by have hs_ := HS1337.size; exfalso; omega)
    replace HS1337 := HS1337.trans hc1396 (fun k_ hk_ h_ => (fun _ _ h_ => Or.inl h_) k_ hk_ h_)
    replace H := H_; clear H_; try dsimp only [setn, addE, goneL] at H
    refine nl_ <| th_n ⟨HS1337, ?_⟩
    refine dn tbok (by kernel_rfl) [13] [] [(186, .pointer (some ⟨g821, 1, none⟩))] (fun w_ => []) 1 E (fun _ _ => by kernel_rfl) (by kernel_rfl) (fun w_ hS_ => trivial) (by kernel_rfl) HS1337 ?_
    clear E; intro a E
    refine wpAnyH_all (rs := [12]) (by kernel_rfl) (by simp) ?_
    refine all1 ?_
    refine wpOp_of_list rfl ?_
    refine h_append (cInt .i64) (xs := out990) (ys := ([r1279.1] : List Int)) (0 : Int) H 9 rfl E rfl rfl tbok rfl rfl rfl rfl rfl (fun _ _ => rfl) rfl rfl (fun _ HF_ => HF_.srcB 16 rfl (⟨_, _, rfl, rfl, rfl⟩)) g1322 ?_
    intro w1399 A1400 c1401 a hc1402 hA1403 H_ E_
    replace E := E_ _ rfl; clear E_
    have hin1404 : ∀ q_, q_ < w1328.heap.size → At A1400 q_ → (atL [.row true cBool 4 A987 c988 out986, .row true (cInt .i64) 3 A991 c992 out990]) q_ := fun q_ h1_ h2_ => (hA1403 q_ h2_).elim ((fun _ _ h_ => Or.inr (Or.inl h_)) q_ h1_) (fun h3_ => by have hs_ := HS1337.size; exfalso; omega)
    replace HS1337 := HS1337.trans hc1402 (fun k_ hk_ h_ => (fun _ _ h_ => Or.inr (Or.inl h_)) k_ hk_ h_)
    replace H := H_; clear H_; try dsimp only [setn, addE, goneL] at H
    refine nl_ <| th_n ⟨HS1337, ?_⟩
    refine dr_doneM (by kernel_rfl) ?_
    exact ⟨A1394, c1395, A1400, c1401, E.pk, H.sel [0, 1, 2, 3, 4, 14, 15, 13, 8, 9, 10, 12] rfl⟩
   clear E H; rintro a w1334 ⟨A1330, c1331, A1332, c1333, E, H⟩
   refine h_store (g := g821) (off := 1) H 10 rfl E rfl rfl rfl rfl tbok rfl rfl rfl rfl rfl ?_
   clear E; intro w1405 a hc1406 H_ E
   replace H := H_; clear H_; try dsimp only [setn, addE, goneL] at H
   refine vp 1 [(187, .pointer (some ⟨g821, 2, none⟩))] E ?_
   clear E; intro a E
   refine h_store (g := g821) (off := 2) H 10 rfl E rfl rfl rfl rfl tbok rfl rfl rfl rfl rfl ?_
   clear E; intro w1407 a hc1408 H_ E
   replace H := H_; clear H_; try dsimp only [setn, addE, goneL] at H
   refine nl_ <| NoPanic.normal ?_
   refine bl_n <| th_n <| rl_ ?_
   obtain ⟨g1409, hP⟩ := ask_inv hP
   refine vq 2 [.int .i64 (x993 + 1)] [(132, .int .i64 (x993 + 1))] [IntKind.i64.wrap (x993 + 1) = x993 + 1] E (wrap_in g1409) ?_
   clear E; intro a E
   refine nl_ ?_
   exact th_n ⟨m1158, Nat.lt_succ_self _, r1279.2.2.1, r1279.2.2.2, out986 ++ ([(List.getD x213 (Int.toNat (List.getD x405.2 x993.toNat 0)) false)] : List Bool), out990 ++ ([r1279.1] : List Int), x993 + 1, A1293, c1294, A1330, c1331, A1332, c1333, E.pk, H.sel [0, 1, 2, 3, 4, 7, 5, 6, 10, 8, 9, 11] rfl, hP⟩
  have h1410 : ¬ (x993 < (x405.2.length : Int)) := of_decide_eq_false hb_
  replace hP := ite_f h1410 hP
  refine c_false E rfl <| wp_exit <| th_exit ?_
  have hx_ := Option.some.inj hP
  refine th_exit (.inl ⟨4, rfl, ?_⟩)
  exact ⟨rfl, (s981, s984, out986, out990), A982, c983, A987, c988, A991, c992, E.pk, H.sel [0, 5, 6, 7, 8, 9, 10] rfl, hx_.symm⟩
 clear E H hL1160; intro i_ a w1165 hM_
 obtain ⟨rfl, x1167, A1147, c1148, A1152, c1153, A1156, c1157, E, H, hx_⟩ := hM_
 subst hx_; have hP := elim_l hK1161
 clear hK1161
 refine bl_hit <| th_n <| sr_ <| vp 1 [(189, .pointer (some ⟨g457, 0, none⟩))] E ?_
 clear E; intro a E
 obtain ⟨r1412, h1413, hP⟩ := bind_inv hP
 obtain ⟨Fa1414, Hc1415, hb1416⟩ := H.call [1, 2, 3] [] rfl rfl ⟨flat_plain, trivial⟩
 refine e_call E rfl rfl Try.func65 rfl rfl rfl (guard_Store_Nodes_calls g457 A1147 c1148 g458 aProps x1167.1 x1167.2.1  Hc1415 h1413) ?_
 intro v1422 w1421 a hR1423 E_
 obtain ⟨x_, A1426, c1427, hr_, rfl, HR1425⟩ := hR1423
 subst hr_
 replace E := E_ _ rfl; clear E_
 obtain ⟨H_, hc1424⟩ := hb1416 _ _ HR1425 rfl
 replace H := H_; clear H_; try dsimp only [setn, addE, goneL] at H
 refine vp 1 [(191, .pointer (some ⟨g821, 3, none⟩))] E ?_
 clear E; intro a E
 refine h_store (g := g821) (off := 3) H 4 rfl E rfl rfl rfl rfl tbok rfl rfl rfl rfl rfl ?_
 clear E; intro w1432 a hc1433 H_ E
 replace H := H_; clear H_; try dsimp only [setn, addE, goneL] at H
 refine nn_ <| sr_ <| vq 1 [.agg #[.int .i64 aProps, .slice A1152 x1167.2.2.1.length c1153, .slice A1156 x1167.2.2.2.length c1157, .slice A1426 r1412.length c1427]] [(192, .agg #[.int .i64 aProps, .slice A1152 x1167.2.2.1.length c1153, .slice A1156 x1167.2.2.2.length c1157, .slice A1426 r1412.length c1427])] [cellsAt w1432 g821 (0) [.int .i64 aProps, .slice A1152 x1167.2.2.1.length c1153, .slice A1156 x1167.2.2.2.length c1157, .slice A1426 r1412.length c1427]] E ((H.box 4 rfl).sub 0 _ rfl) ?_
 clear E; intro a E
 refine h_store (g := g37) (off := 0) H 0 rfl E rfl rfl rfl rfl tbok rfl rfl rfl rfl rfl ?_
 clear E; intro w1434 a hc1435 H_ E
 replace H := H_; clear H_; try dsimp only [setn, addE, goneL] at H
 refine vp 1 [(7, .int .i64 0)] E ?_
 clear E; intro a E
 refine nn_ <| wp_ret ?_
 obtain rfl := Option.some.inj hP
 refine retV E [.cell 6 26, .tmp 7] [.agg #[.int .i64 aProps, .slice A1152 x1167.2.2.1.length c1153, .slice A1156 x1167.2.2.2.length c1157, .slice A1426 r1412.length c1427], .int .i64 0] rfl ⟨⟨_, rfl, run_loadBx tbok (H.box 0 rfl) rfl rfl rfl 0 rfl rfl⟩, rfl, trivial⟩ (.inl rfl) ?_
 exact ⟨_, rfl, A1152, c1153, A1156, c1157, A1426, c1427, rfl, H.sel [5, 6, 7] rfl⟩

end Go.V
