/- Plain functions, and the calls that give them. -/
import Derived.Test.YtokfobioklmiaaaA9
set_option linter.all false
set_option linter.unusedVariables false
set_option linter.unnecessarySimpa false
set_option linter.unusedSimpArgs false
namespace Go.V
open Go Go.Proofs
/-! rejoinder/rejoinderlaw23.AttractTells -/
def law23_AttractTells_j0 (N : Nat) (aProps : Int) (aAccept : List Bool) (aGuard : List Int) (aNodes : List Nd) (won : List Bool) : Option Bool :=
    Option.bind (law19_Large N aProps aAccept aGuard aNodes) fun r44 =>
    if r44 = true then
      some true
    else
      some (decide (300 < (((List.length won) : Nat) : Int)))
def law23_AttractTells_j1 (N : Nat) (r93 : (List Int) × Int) (r105 : (List Int) × Int) (r117 : (List Int) × Int) (r129 : Bool × Int) (r138 : Bool × Int) (r147 : (List Bool) × Int) (r159 : (List Bool) × Int) : Option Bool :=
    Option.bind (kit_SameInts N r93.1 r117.1) fun r218 =>
    if r218 = true then
      Option.bind (kit_SameInts N r105.1 r117.1) fun r228 =>
      if r228 = true then
        if (r93.2 : Int) = r117.2 then
          if (r105.2 : Int) = r117.2 then
            if r129.1 = r138.1 then
              if (r129.2 : Int) = r138.2 then
                Option.bind (kit_SameBools N r147.1 r159.1) fun r242 =>
                if r242 = true then
                  some ((r147.2 : Int) == r159.2)
                else
                  some false
              else
                some false
            else
              some false
          else
            some false
        else
          some false
      else
        some false
    else
      some false
def law23_AttractTells_l2 (N : Nat) : Nat → (List Bool) → Int → Option Unit
  | 0, _, _ => none
  | m280 + 1, u267, n270 =>
    if n270 < (((List.length u267) : Nat) : Int) then
      ask (idx n270 (List.length u267)) <|
      ask (in64 (n270 + 1)) <|
      law23_AttractTells_l2 N m280 (List.set u267 (Int.toNat n270) (!(List.getD u267 (Int.toNat n270) false))) (n270 + 1)
    else
      some ()
def law23_AttractTells_l6 (N : Nat) : Nat → (List Int) → Int → Option (List Int)
  | 0, _, _ => none
  | m1148 + 1, all1136, i1137 =>
    if i1137 < (((List.length all1136) : Nat) : Int) then
      ask (idx i1137 (List.length all1136)) <|
      ask (in64 (i1137 + 1)) <|
      law23_AttractTells_l6 N m1148 (List.set all1136 (Int.toNat i1137) (xorV .i64 (List.getD all1136 (Int.toNat i1137) 0) 21845)) (i1137 + 1)
    else
      some all1136
def law23_AttractTells_f5 (N : Nat) (r93 : (List Int) × Int) : Option (List Int) :=
    Option.bind (law23_AttractTells_l6 N N r93.1 0) fun x1149 =>
    some x1149
def law23_AttractTells_l8 (N : Nat) : Nat → (List Int) → Int → Option (List Int)
  | 0, _, _ => none
  | m1248 + 1, all1236, i1237 =>
    if i1237 < (((List.length all1236) : Nat) : Int) then
      ask (idx i1237 (List.length all1236)) <|
      ask (in64 (i1237 + 1)) <|
      law23_AttractTells_l8 N m1248 (List.set all1236 (Int.toNat i1237) (xorV .i64 (List.getD all1236 (Int.toNat i1237) 0) 21845)) (i1237 + 1)
    else
      some all1236
def law23_AttractTells_f7 (N : Nat) (x1123 : List Int) : Option (List Int) :=
    Option.bind (law23_AttractTells_l8 N N x1123 0) fun x1249 =>
    some x1249
def law23_AttractTells_l10 (N : Nat) : Nat → (List Int) → Int → Option (List Int)
  | 0, _, _ => none
  | m1392 + 1, all1380, i1381 =>
    if i1381 < (((List.length all1380) : Nat) : Int) then
      ask (idx i1381 (List.length all1380)) <|
      ask (in64 (i1381 + 1)) <|
      law23_AttractTells_l10 N m1392 (List.set all1380 (Int.toNat i1381) (xorV .i64 (List.getD all1380 (Int.toNat i1381) 0) 21845)) (i1381 + 1)
    else
      some all1380
def law23_AttractTells_f9 (N : Nat) (r105 : (List Int) × Int) : Option (List Int) :=
    Option.bind (law23_AttractTells_l10 N N r105.1 0) fun x1393 =>
    some x1393
def law23_AttractTells_l12 (N : Nat) : Nat → (List Int) → Int → Option (List Int)
  | 0, _, _ => none
  | m1492 + 1, all1480, i1481 =>
    if i1481 < (((List.length all1480) : Nat) : Int) then
      ask (idx i1481 (List.length all1480)) <|
      ask (in64 (i1481 + 1)) <|
      law23_AttractTells_l12 N m1492 (List.set all1480 (Int.toNat i1481) (xorV .i64 (List.getD all1480 (Int.toNat i1481) 0) 21845)) (i1481 + 1)
    else
      some all1480
def law23_AttractTells_f11 (N : Nat) (x1367 : List Int) : Option (List Int) :=
    Option.bind (law23_AttractTells_l12 N N x1367 0) fun x1493 =>
    some x1493
def law23_AttractTells_f4 (N : Nat) (r93 : (List Int) × Int) (r105 : (List Int) × Int) : Option (Bool × (List Int) × (List Int)) :=
    ask (0 ≤ (2 : Int) ∧ (2 : Int) ≤ 1000000000) <|
    Option.bind (kit_CopyInts N r93.1) fun r1027 =>
    ask (idx (0 : Int) (List.length (List.replicate (Int.toNat (2 : Int)) ([] : List Int)))) <|
    Option.bind (kit_CopyInts N r105.1) fun r1064 =>
    ask (idx (1 : Int) (List.length (List.set (List.replicate (Int.toNat (2 : Int)) ([] : List Int)) (Int.toNat (0 : Int)) r1027))) <|
    Option.bind (law23_AttractTells_f5 N r93) fun x1123 =>
    ask (idx (1 : Int) (List.length (List.set (List.set (List.replicate (Int.toNat (2 : Int)) ([] : List Int)) (Int.toNat (0 : Int)) r1027) (Int.toNat (1 : Int)) r1064))) <|
    Option.bind (kit_SameInts N r105.1 (List.getD (List.set (List.set (List.replicate (Int.toNat (2 : Int)) ([] : List Int)) (Int.toNat (0 : Int)) r1027) (Int.toNat (1 : Int)) r1064) (Int.toNat (1 : Int)) [])) fun r1177 =>
    if r1177 = true then
      Option.bind (law23_AttractTells_f7 N x1123) fun x1223 =>
      Option.bind (kit_CopyInts N x1223) fun r1272 =>
      Option.bind (kit_CopyInts N r105.1) fun r1308 =>
      ask (idx (1 : Int) (List.length (List.set (List.replicate (Int.toNat (2 : Int)) ([] : List Int)) (Int.toNat (0 : Int)) r1272))) <|
      Option.bind (law23_AttractTells_f9 N r105) fun x1367 =>
      ask (idx (0 : Int) (List.length (List.set (List.set (List.replicate (Int.toNat (2 : Int)) ([] : List Int)) (Int.toNat (0 : Int)) r1272) (Int.toNat (1 : Int)) r1308))) <|
      Option.bind (kit_SameInts N x1223 (List.getD (List.set (List.set (List.replicate (Int.toNat (2 : Int)) ([] : List Int)) (Int.toNat (0 : Int)) r1272) (Int.toNat (1 : Int)) r1308) (Int.toNat (0 : Int)) [])) fun r1417 =>
      if r1417 = true then
        Option.bind (law23_AttractTells_f11 N x1367) fun x1467 =>
        some (true, x1223, x1467)
      else
        some (false, x1223, x1367)
    else
      some (false, x1123, r105.1)
def law23_AttractTells_j3 (N : Nat) (aProps : Int) (aAccept : List Bool) (aGuard : List Int) (aNodes : List Nd) (won : List Bool) (r57 : Int × (List Bool × List Bool) × (List Int × List Int) × (List Nd × List Nd)) (r93 : (List Int) × Int) (r105 : (List Int) × Int) (x213 : Bool) : Option Bool :=
    if x213 = true then
      Option.bind (kit_SameBools N (([] : List Bool) ++ won) won) fun r663 =>
      if r663 = true then
        Option.bind (kit_KeptAuto N r57.1 r57.2.1.1 r57.2.1.2 r57.2.2.1.1 r57.2.2.1.2 r57.2.2.2.1 r57.2.2.2.2 aProps aAccept aGuard aNodes) fun r673 =>
        if r673 = true then
          Option.bind (law23_AttractTells_f4 N r93 r105) fun x1017 =>
          some x1017.1
        else
          some false
      else
        some false
    else
      some false
def law23_AttractTells (N : Nat) (aProps : Int) (aAccept : List Bool) (aGuard : List Int) (aNodes : List Nd) (s : Int × Int) (won : List Bool) : Option Bool :=
  Option.bind (law23_AttractTells_j0 N aProps aAccept aGuard aNodes won) fun x39 =>
  if x39 = true then
    some true
  else
    Option.bind (kit_LentAuto N aProps aAccept aGuard aNodes) fun r57 =>
    ask (List.length ([] : List Bool) + List.length won ≤ 1000000000) <|
    Option.bind (attract_Ranks N r57.1 r57.2.1.1 r57.2.2.1.1 r57.2.2.2.1 (s.1, s.2)) fun r93 =>
    Option.bind (attract_Ranks N r57.1 r57.2.1.1 r57.2.2.1.1 r57.2.2.2.1 (s.1, s.2)) fun r105 =>
    Option.bind (ref23_Ranks N aProps aAccept aGuard aNodes (s.1, s.2)) fun r117 =>
    Option.bind (attract_Wins N r57.1 r57.2.1.1 r57.2.2.1.1 r57.2.2.2.1 (s.1, s.2)) fun r129 =>
    Option.bind (ref23_Wins N aProps aAccept aGuard aNodes (s.1, s.2)) fun r138 =>
    Option.bind (attract_Step N r57.1 r57.2.1.1 r57.2.2.1.1 r57.2.2.2.1 (s.1, s.2) (([] : List Bool) ++ won)) fun r147 =>
    Option.bind (ref23_Step N aProps aAccept aGuard aNodes (s.1, s.2) won) fun r159 =>
    Option.bind (law23_AttractTells_j1 N r93 r105 r117 r129 r138 r147 r159) fun x213 =>
    Option.bind (law23_AttractTells_l2 N N r147.1 0) fun x281 =>
    Option.bind (law23_AttractTells_j3 N aProps aAccept aGuard aNodes won r57 r93 r105 x213) fun x657 =>
    some x657
set_option maxRecDepth 100000 in
set_option maxHeartbeats 4000000 in
theorem law23_AttractTells_calls {N : Nat} {S Fa : Nat → Prop} {w0 : World} {r : Bool} (A1 : Option Addr) (c2 : Nat) (A5 : Option Addr) (c6 : Nat) (A9 : Option Addr) (c10 : Nat) (A13 : Option Addr) (c14 : Nat) (aProps : Int) (aAccept : List Bool) (aGuard : List Int) (aNodes : List Nd) (s : Int × Int) (won : List Bool) (hk3 : List.length aAccept ≤ c2) (hk7 : List.length aGuard ≤ c6) (hk11 : List.length aNodes ≤ c10) (hk15 : List.length won ≤ c14) (H : Hp S Fa w0 w0 [.ro false cBool A1 aAccept, .ro false (cInt .i64) A5 aGuard, .ro false cNode A9 aNodes, .ro false cBool A13 won]) (hP : law23_AttractTells N aProps aAccept aGuard aNodes s won = some r) :
    Calls Try.prog 5 #[.agg #[.int .i64 aProps, .slice A1 (List.length aAccept) c2, .slice A5 (List.length aGuard) c6, .slice A9 (List.length aNodes) c10], .agg #[.int .u8 s.1, .int .u8 s.2], .slice A13 (List.length won) c14] w0 fun e w' => ∃ v, e = .returned v ∧ v = .bool r ∧ Hp S Fa w0 w' [] := by
 refine enterV (n := 150) Try.func5 rfl rfl rfl ?_
 intro a E
 replace E := E.pick [(0, .agg #[.int .i64 aProps, .slice A1 (List.length aAccept) c2, .slice A5 (List.length aGuard) c6, .slice A9 (List.length aNodes) c10]), (1, .agg #[.int .u8 s.1, .int .u8 s.2]), (2, .slice A13 (List.length won) c14)] ⟨rfl, rfl, rfl, trivial⟩
 rw [law23_AttractTells] at hP
 refine wp_seq ?_
 refine wp_region_lit ?_
 refine h_box H E rfl rfl rfl ?_
 intro w18 g17 a hc19 hg21 H_ E_
 replace E := E_ _ rfl; clear E_
 replace H := H_; clear H_; try dsimp only [setn, addE, goneL] at H
 refine h_box H E rfl rfl rfl ?_
 intro w23 g22 a hc24 hg26 H_ E_
 replace E := E_ _ rfl; clear E_
 replace H := H_; clear H_; try dsimp only [setn, addE, goneL] at H
 refine vn tbok 1 [] [] [] E (by kernel_rfl) (by kernel_rfl) trivial ?_
 clear E; intro a E
 refine wpList_nil ?_
 refine th_n ?_
 refine wp_seq ?_
 refine wp_seq ?_
 obtain ⟨x39, h40, hK41⟩ := bind_inv hP
 clear hP
 refine meet_cut (fun a w43 => ∃ (x42 : Bool), Fr a 150 [(2, .slice A13 (List.length won) c14), (3, .pointer (some ⟨g17, 0, none⟩)), (4, .pointer (some ⟨g22, 0, none⟩)), (31, .bool x42)] ∧ Hp S Fa w0 w43 [.ro false cBool A13 won, .ro false cBool A1 aAccept, .ro false (cInt .i64) A5 aGuard, .ro false cNode A9 aNodes, .box g17 26 [.int .i64 aProps, .slice A1 (List.length aAccept) c2, .slice A5 (List.length aGuard) c6, .slice A9 (List.length aNodes) c10], .box g22 29 [.int .u8 s.1, .int .u8 s.2]] ∧ x39 = x42) ?_ ?_
 ·
  have hP := h40; clear h40; rw [law23_AttractTells_j0] at hP
  refine wp_region_lit ?_
  refine vn tbok 1 [.agg #[.int .i64 aProps, .slice A1 (List.length aAccept) c2, .slice A5 (List.length aGuard) c6, .slice A9 (List.length aNodes) c10]] [(25, .agg #[.int .i64 aProps, .slice A1 (List.length aAccept) c2, .slice A5 (List.length aGuard) c6, .slice A9 (List.length aNodes) c10])] [cellsAt w23 g17 (0) [.int .i64 aProps, .slice A1 (List.length aAccept) c2, .slice A5 (List.length aGuard) c6, .slice A9 (List.length aNodes) c10]] E (by kernel_rfl) (by kernel_rfl) ((H.box 4 rfl).sub 0 _ rfl) ?_
  clear E; intro a E
  obtain ⟨r44, h45, hP⟩ := bind_inv hP
  obtain ⟨Fa46, Hc47, hb48⟩ := H.call [] [(0, false), (1, false), (2, false)] rfl rfl trivial
  refine e_call E rfl rfl Try.func8 rfl rfl rfl (law19_Large_calls A1 c2 A5 c6 A9 c10 aProps aAccept aGuard aNodes hk3 hk7 hk11 Hc47 h45) ?_
  rintro v49 w50 a ⟨rfl, HR51⟩ E_
  replace E := E_ _ rfl; clear E_
  obtain ⟨H_, hc52⟩ := hb48 _ _ HR51 rfl
  replace H := H_; clear H_; try dsimp only [setn, addE, goneL] at H
  refine vn tbok 1 [] [(27, .bool r44)] [] E (by kernel_rfl) (by kernel_rfl) trivial ?_
  clear E; intro a E
  refine E.cases (t := 27) rfl (fun hb_ E_ => ?_) (fun hb_ E_ => ?_)
  ·
   replace E := E_; clear E_
   have h53 : r44 = true := hb_
   clear hb_; replace hP := ite_t h53 hP
   refine vn tbok 4 [] [(31, .bool true)] [] E (by kernel_rfl) (by kernel_rfl) trivial ?_
   clear E; intro a E
   refine wpList_nil ?_
   have hx_ := Option.some.inj hP
   exact .inl ⟨rfl, true, E.pick _ ⟨rfl, rfl, rfl, rfl, trivial⟩, H.sel [3, 0, 1, 2, 4, 5] rfl, hx_.symm⟩
  replace E := E_; clear E_
  have h54 : ¬ (r44 = true) := (ne_true_of_eq_false hb_)
  clear hb_; replace hP := ite_f h54 hP
  refine vn tbok 4 [] [(31, .bool (decide (300 < (((List.length won) : Nat) : Int))))] [] E (by kernel_rfl) (by kernel_rfl) trivial ?_
  clear E; intro a E
  refine wpList_nil ?_
  have hx_ := Option.some.inj hP
  exact .inl ⟨rfl, decide (300 < (((List.length won) : Nat) : Int)), E.pick _ ⟨rfl, rfl, rfl, rfl, trivial⟩, H.sel [3, 0, 1, 2, 4, 5] rfl, hx_.symm⟩
 clear E H h40; rintro a w43 ⟨x42, E, H, hx_⟩
 subst hx_; have hP := hK41; clear hK41
 refine th_n ?_
 refine E.cases (t := 31) rfl (fun hb_ E_ => ?_) (fun hb_ E_ => ?_)
 ·
  replace E := E_; clear E_
  have h55 : x39 = true := hb_
  clear hb_; replace hP := ite_t h55 hP
  refine c_true E rfl ?_
  refine wp_seq ?_
  refine wp_region_lit ?_
  refine vn tbok 1 [] [(6, .bool true)] [] E (by kernel_rfl) (by kernel_rfl) trivial ?_
  clear E; intro a E
  refine wpList_nil ?_
  refine th_n ?_
  refine wp_ret ?_
  refine th_ret ?_
  obtain rfl := Option.some.inj hP
  refine ret1 E rfl rfl ?_
  exact ⟨_, rfl, rfl, H.sel [] rfl⟩
 replace E := E_; clear E_
 have h56 : ¬ (x39 = true) := (ne_true_of_eq_false hb_)
 clear hb_; replace hP := ite_f h56 hP
 refine c_false E rfl ?_
 refine wp_skip ?_
 refine th_n ?_
 refine wp_seq ?_
 refine wp_region_lit ?_
 refine vn tbok 1 [.agg #[.int .i64 aProps, .slice A1 (List.length aAccept) c2, .slice A5 (List.length aGuard) c6, .slice A9 (List.length aNodes) c10]] [(32, .agg #[.int .i64 aProps, .slice A1 (List.length aAccept) c2, .slice A5 (List.length aGuard) c6, .slice A9 (List.length aNodes) c10])] [cellsAt w43 g17 (0) [.int .i64 aProps, .slice A1 (List.length aAccept) c2, .slice A5 (List.length aGuard) c6, .slice A9 (List.length aNodes) c10]] E (by kernel_rfl) (by kernel_rfl) ((H.box 4 rfl).sub 0 _ rfl) ?_
 clear E; intro a E
 obtain ⟨r57, h58, hP⟩ := bind_inv hP
 obtain ⟨Fa59, Hc60, hb61⟩ := H.call [] [(1, false), (2, false), (3, false)] rfl rfl trivial
 refine e_call E rfl rfl Try.func17 rfl rfl rfl (kit_LentAuto_calls A1 c2 A5 c6 A9 c10 aProps aAccept aGuard aNodes hk3 hk7 hk11 Hc60 h58) ?_
 rintro v62 w63 a ⟨A66, c67, A69, c70, A72, c73, rfl, HR64⟩ E_
 replace E := E_ _ rfl; clear E_
 obtain ⟨H_, hc65⟩ := hb61 _ _ HR64 rfl
 replace H := H_; clear H_; try dsimp only [setn, addE, goneL] at H
 refine h_alloc H E rfl rfl tbok rfl ?_
 intro w76 g75 a hc77 hg79 H_ E_
 replace E := E_ _ rfl; clear E_
 replace H := H_; clear H_; try dsimp only [setn, addE, goneL] at H
 refine h_store (g := g75) (off := 0) H 9 rfl E rfl rfl rfl rfl tbok rfl rfl rfl rfl rfl ?_
 clear E; intro w80 a hc81 H_ E
 replace H := H_; clear H_; try dsimp only [setn, addE, goneL] at H
 refine wpList_nil ?_
 refine th_n ?_
 refine wp_seq ?_
 refine wp_region_lit ?_
 refine h_buildSlice (ps := []) (cs := []) H E rfl rfl tbok rfl rfl (by kernel_rfl) ?_
 intro w83 g82 a hc84 hg86 H_ E_
 replace E := E_ _ rfl; clear E_
 replace H := H_; clear H_; try dsimp only [setn, addE, goneL] at H
 refine vn tbok 1 [] [(35, .slice A13 (List.length won) c14)] [] E (by kernel_rfl) (by kernel_rfl) trivial ?_
 clear E; intro a E
 replace H := H.boxRow cBool true ([] : List Bool) 10 rfl (fun _ _ => rfl) (Nat.le_of_ble_eq_true rfl); try dsimp only [setn, addE, goneL] at H
 replace H := H.rowx 10 rfl; try dsimp only [setn, addE, goneL] at H
 obtain ⟨g87, hP⟩ := ask_inv hP
 refine h_append cBool (xs := ([] : List Bool)) (ys := won) (false : Bool) H 10 rfl E rfl rfl tbok rfl rfl rfl rfl rfl (fun _ _ => rfl) rfl rfl (fun _ HF_ => HF_.srcF flat_plain 0 rds_ro) g87 ?_
 intro w88 A89 c90 a hc91 hA92 H_ E_
 replace E := E_ _ rfl; clear E_
 replace H := H_; clear H_; try dsimp only [setn, addE, goneL] at H
 refine vn tbok 1 [] [(8, .slice A89 (List.length (([] : List Bool) ++ won)) c90)] [] E (by kernel_rfl) (by kernel_rfl) trivial ?_
 clear E; intro a E
 refine wpList_nil ?_
 refine th_n ?_
 refine wp_seq ?_
 refine wp_region_lit ?_
 refine vn tbok 2 [.agg #[.int .i64 r57.1, .slice A66 (List.length r57.2.1.1) c67, .slice A69 (List.length r57.2.2.1.1) c70, .slice A72 (List.length r57.2.2.2.1) c73], .agg #[.int .u8 s.1, .int .u8 s.2]] [(38, .agg #[.int .i64 r57.1, .slice A66 (List.length r57.2.1.1) c67, .slice A69 (List.length r57.2.2.1.1) c70, .slice A72 (List.length r57.2.2.2.1) c73]), (39, .agg #[.int .u8 s.1, .int .u8 s.2])] [cellsAt w88 g75 (0) [.int .i64 r57.1, .slice A66 (List.length r57.2.1.1) c67, .slice A69 (List.length r57.2.2.1.1) c70, .slice A72 (List.length r57.2.2.2.1) c73], cellsAt w88 g22 (0) [.int .u8 s.1, .int .u8 s.2]] E (by kernel_rfl) (by kernel_rfl) ⟨(H.box 9 rfl).sub 0 _ rfl, (H.box 5 rfl).sub 0 _ rfl⟩ ?_
 clear E; intro a E
 obtain ⟨r93, h94, hP⟩ := bind_inv hP
 obtain ⟨Fa95, Hc96, hb97⟩ := H.call [] [(6, false), (7, false), (8, false)] rfl rfl trivial
 refine e_call E rfl rfl Try.func11 rfl rfl rfl (attract_Ranks_calls A66 c67 A69 c70 A72 c73 r57.1 r57.2.1.1 r57.2.2.1.1 r57.2.2.2.1 (s.1, s.2) (H.rcapx 6 rfl) (H.rcapx 7 rfl) (H.rcapx 8 rfl) Hc96 h94) ?_
 rintro v98 w99 a ⟨A102, c103, rfl, HR100⟩ E_
 replace E := E_ _ rfl; clear E_
 obtain ⟨H_, hc101⟩ := hb97 _ _ HR100 rfl
 replace H := H_; clear H_; try dsimp only [setn, addE, goneL] at H
 refine vn tbok 5 [] [(9, .slice A102 (List.length r93.1) c103), (10, .int .i64 r93.2)] [] E (by kernel_rfl) (by kernel_rfl) trivial ?_
 clear E; intro a E
 refine wpList_nil ?_
 refine th_n ?_
 refine wp_seq ?_
 refine wp_region_lit ?_
 refine vn tbok 2 [.agg #[.int .i64 r57.1, .slice A66 (List.length r57.2.1.1) c67, .slice A69 (List.length r57.2.2.1.1) c70, .slice A72 (List.length r57.2.2.2.1) c73], .agg #[.int .u8 s.1, .int .u8 s.2]] [(44, .agg #[.int .i64 r57.1, .slice A66 (List.length r57.2.1.1) c67, .slice A69 (List.length r57.2.2.1.1) c70, .slice A72 (List.length r57.2.2.2.1) c73]), (45, .agg #[.int .u8 s.1, .int .u8 s.2])] [cellsAt w99 g75 (0) [.int .i64 r57.1, .slice A66 (List.length r57.2.1.1) c67, .slice A69 (List.length r57.2.2.1.1) c70, .slice A72 (List.length r57.2.2.2.1) c73], cellsAt w99 g22 (0) [.int .u8 s.1, .int .u8 s.2]] E (by kernel_rfl) (by kernel_rfl) ⟨(H.box 9 rfl).sub 0 _ rfl, (H.box 5 rfl).sub 0 _ rfl⟩ ?_
 clear E; intro a E
 obtain ⟨r105, h106, hP⟩ := bind_inv hP
 obtain ⟨Fa107, Hc108, hb109⟩ := H.call [] [(6, false), (7, false), (8, false)] rfl rfl trivial
 refine e_call E rfl rfl Try.func11 rfl rfl rfl (attract_Ranks_calls A66 c67 A69 c70 A72 c73 r57.1 r57.2.1.1 r57.2.2.1.1 r57.2.2.2.1 (s.1, s.2) (H.rcapx 6 rfl) (H.rcapx 7 rfl) (H.rcapx 8 rfl) Hc108 h106) ?_
 rintro v110 w111 a ⟨A114, c115, rfl, HR112⟩ E_
 replace E := E_ _ rfl; clear E_
 obtain ⟨H_, hc113⟩ := hb109 _ _ HR112 rfl
 replace H := H_; clear H_; try dsimp only [setn, addE, goneL] at H
 refine vn tbok 5 [] [(11, .slice A114 (List.length r105.1) c115), (12, .int .i64 r105.2)] [] E (by kernel_rfl) (by kernel_rfl) trivial ?_
 clear E; intro a E
 refine wpList_nil ?_
 refine th_n ?_
 refine wp_seq ?_
 refine wp_region_lit ?_
 refine vn tbok 2 [.agg #[.int .i64 aProps, .slice A1 (List.length aAccept) c2, .slice A5 (List.length aGuard) c6, .slice A9 (List.length aNodes) c10], .agg #[.int .u8 s.1, .int .u8 s.2]] [(50, .agg #[.int .i64 aProps, .slice A1 (List.length aAccept) c2, .slice A5 (List.length aGuard) c6, .slice A9 (List.length aNodes) c10]), (51, .agg #[.int .u8 s.1, .int .u8 s.2])] [cellsAt w111 g17 (0) [.int .i64 aProps, .slice A1 (List.length aAccept) c2, .slice A5 (List.length aGuard) c6, .slice A9 (List.length aNodes) c10], cellsAt w111 g22 (0) [.int .u8 s.1, .int .u8 s.2]] E (by kernel_rfl) (by kernel_rfl) ⟨(H.box 4 rfl).sub 0 _ rfl, (H.box 5 rfl).sub 0 _ rfl⟩ ?_
 clear E; intro a E
 obtain ⟨r117, h118, hP⟩ := bind_inv hP
 obtain ⟨Fa119, Hc120, hb121⟩ := H.call [] [(1, false), (2, false), (3, false)] rfl rfl trivial
 refine e_call E rfl rfl Try.func18 rfl rfl rfl (ref23_Ranks_calls A1 c2 A5 c6 A9 c10 aProps aAccept aGuard aNodes (s.1, s.2) hk3 hk7 hk11 Hc120 h118) ?_
 rintro v122 w123 a ⟨A126, c127, rfl, HR124⟩ E_
 replace E := E_ _ rfl; clear E_
 obtain ⟨H_, hc125⟩ := hb121 _ _ HR124 rfl
 replace H := H_; clear H_; try dsimp only [setn, addE, goneL] at H
 refine vn tbok 5 [] [(13, .slice A126 (List.length r117.1) c127), (14, .int .i64 r117.2)] [] E (by kernel_rfl) (by kernel_rfl) trivial ?_
 clear E; intro a E
 refine wpList_nil ?_
 refine th_n ?_
 refine wp_seq ?_
 refine wp_region_lit ?_
 refine vn tbok 2 [.agg #[.int .i64 r57.1, .slice A66 (List.length r57.2.1.1) c67, .slice A69 (List.length r57.2.2.1.1) c70, .slice A72 (List.length r57.2.2.2.1) c73], .agg #[.int .u8 s.1, .int .u8 s.2]] [(56, .agg #[.int .i64 r57.1, .slice A66 (List.length r57.2.1.1) c67, .slice A69 (List.length r57.2.2.1.1) c70, .slice A72 (List.length r57.2.2.2.1) c73]), (57, .agg #[.int .u8 s.1, .int .u8 s.2])] [cellsAt w123 g75 (0) [.int .i64 r57.1, .slice A66 (List.length r57.2.1.1) c67, .slice A69 (List.length r57.2.2.1.1) c70, .slice A72 (List.length r57.2.2.2.1) c73], cellsAt w123 g22 (0) [.int .u8 s.1, .int .u8 s.2]] E (by kernel_rfl) (by kernel_rfl) ⟨(H.box 9 rfl).sub 0 _ rfl, (H.box 5 rfl).sub 0 _ rfl⟩ ?_
 clear E; intro a E
 obtain ⟨r129, h130, hP⟩ := bind_inv hP
 obtain ⟨Fa131, Hc132, hb133⟩ := H.call [] [(6, false), (7, false), (8, false)] rfl rfl trivial
 refine e_call E rfl rfl Try.func12 rfl rfl rfl (attract_Wins_calls A66 c67 A69 c70 A72 c73 r57.1 r57.2.1.1 r57.2.2.1.1 r57.2.2.2.1 (s.1, s.2) (H.rcapx 6 rfl) (H.rcapx 7 rfl) (H.rcapx 8 rfl) Hc132 h130) ?_
 rintro v134 w135 a ⟨rfl, HR136⟩ E_
 replace E := E_ _ rfl; clear E_
 obtain ⟨H_, hc137⟩ := hb133 _ _ HR136 rfl
 replace H := H_; clear H_; try dsimp only [setn, addE, goneL] at H
 refine vn tbok 5 [] [(15, .bool r129.1), (16, .int .i64 r129.2)] [] E (by kernel_rfl) (by kernel_rfl) trivial ?_
 clear E; intro a E
 refine wpList_nil ?_
 refine th_n ?_
 refine wp_seq ?_
 refine wp_region_lit ?_
 refine vn tbok 2 [.agg #[.int .i64 aProps, .slice A1 (List.length aAccept) c2, .slice A5 (List.length aGuard) c6, .slice A9 (List.length aNodes) c10], .agg #[.int .u8 s.1, .int .u8 s.2]] [(62, .agg #[.int .i64 aProps, .slice A1 (List.length aAccept) c2, .slice A5 (List.length aGuard) c6, .slice A9 (List.length aNodes) c10]), (63, .agg #[.int .u8 s.1, .int .u8 s.2])] [cellsAt w135 g17 (0) [.int .i64 aProps, .slice A1 (List.length aAccept) c2, .slice A5 (List.length aGuard) c6, .slice A9 (List.length aNodes) c10], cellsAt w135 g22 (0) [.int .u8 s.1, .int .u8 s.2]] E (by kernel_rfl) (by kernel_rfl) ⟨(H.box 4 rfl).sub 0 _ rfl, (H.box 5 rfl).sub 0 _ rfl⟩ ?_
 clear E; intro a E
 obtain ⟨r138, h139, hP⟩ := bind_inv hP
 obtain ⟨Fa140, Hc141, hb142⟩ := H.call [] [(1, false), (2, false), (3, false)] rfl rfl trivial
 refine e_call E rfl rfl Try.func19 rfl rfl rfl (ref23_Wins_calls A1 c2 A5 c6 A9 c10 aProps aAccept aGuard aNodes (s.1, s.2) hk3 hk7 hk11 Hc141 h139) ?_
 rintro v143 w144 a ⟨rfl, HR145⟩ E_
 replace E := E_ _ rfl; clear E_
 obtain ⟨H_, hc146⟩ := hb142 _ _ HR145 rfl
 replace H := H_; clear H_; try dsimp only [setn, addE, goneL] at H
 refine vn tbok 5 [] [(17, .bool r138.1), (18, .int .i64 r138.2)] [] E (by kernel_rfl) (by kernel_rfl) trivial ?_
 clear E; intro a E
 refine wpList_nil ?_
 refine th_n ?_
 refine wp_seq ?_
 refine wp_region_lit ?_
 refine vn tbok 3 [.agg #[.int .i64 r57.1, .slice A66 (List.length r57.2.1.1) c67, .slice A69 (List.length r57.2.2.1.1) c70, .slice A72 (List.length r57.2.2.2.1) c73], .agg #[.int .u8 s.1, .int .u8 s.2]] [(68, .agg #[.int .i64 r57.1, .slice A66 (List.length r57.2.1.1) c67, .slice A69 (List.length r57.2.2.1.1) c70, .slice A72 (List.length r57.2.2.2.1) c73]), (69, .agg #[.int .u8 s.1, .int .u8 s.2]), (70, .slice A89 (List.length (([] : List Bool) ++ won)) c90)] [cellsAt w144 g75 (0) [.int .i64 r57.1, .slice A66 (List.length r57.2.1.1) c67, .slice A69 (List.length r57.2.2.1.1) c70, .slice A72 (List.length r57.2.2.2.1) c73], cellsAt w144 g22 (0) [.int .u8 s.1, .int .u8 s.2]] E (by kernel_rfl) (by kernel_rfl) ⟨(H.box 9 rfl).sub 0 _ rfl, (H.box 5 rfl).sub 0 _ rfl⟩ ?_
 clear E; intro a E
 obtain ⟨r147, h148, hP⟩ := bind_inv hP
 obtain ⟨Fa149, Hc150, hb151⟩ := H.call [] [(6, false), (7, false), (8, false), (10, false)] rfl rfl trivial
 refine e_call E rfl rfl Try.func20 rfl rfl rfl (attract_Step_calls A66 c67 A69 c70 A72 c73 A89 c90 r57.1 r57.2.1.1 r57.2.2.1.1 r57.2.2.2.1 (s.1, s.2) (([] : List Bool) ++ won) (H.rcapx 6 rfl) (H.rcapx 7 rfl) (H.rcapx 8 rfl) (H.rcap 10 rfl) Hc150 h148) ?_
 rintro v152 w153 a ⟨A156, c157, rfl, HR154⟩ E_
 replace E := E_ _ rfl; clear E_
 obtain ⟨H_, hc155⟩ := hb151 _ _ HR154 rfl
 replace H := H_; clear H_; try dsimp only [setn, addE, goneL] at H
 refine vn tbok 5 [] [(19, .slice A156 (List.length r147.1) c157), (20, .int .i64 r147.2)] [] E (by kernel_rfl) (by kernel_rfl) trivial ?_
 clear E; intro a E
 refine wpList_nil ?_
 refine th_n ?_
 refine wp_seq ?_
 refine wp_region_lit ?_
 refine vn tbok 3 [.agg #[.int .i64 aProps, .slice A1 (List.length aAccept) c2, .slice A5 (List.length aGuard) c6, .slice A9 (List.length aNodes) c10], .agg #[.int .u8 s.1, .int .u8 s.2]] [(75, .agg #[.int .i64 aProps, .slice A1 (List.length aAccept) c2, .slice A5 (List.length aGuard) c6, .slice A9 (List.length aNodes) c10]), (76, .agg #[.int .u8 s.1, .int .u8 s.2]), (77, .slice A13 (List.length won) c14)] [cellsAt w153 g17 (0) [.int .i64 aProps, .slice A1 (List.length aAccept) c2, .slice A5 (List.length aGuard) c6, .slice A9 (List.length aNodes) c10], cellsAt w153 g22 (0) [.int .u8 s.1, .int .u8 s.2]] E (by kernel_rfl) (by kernel_rfl) ⟨(H.box 4 rfl).sub 0 _ rfl, (H.box 5 rfl).sub 0 _ rfl⟩ ?_
 clear E; intro a E
 obtain ⟨r159, h160, hP⟩ := bind_inv hP
 obtain ⟨Fa161, Hc162, hb163⟩ := H.call [] [(1, false), (2, false), (3, false), (0, false)] rfl rfl trivial
 refine e_call E rfl rfl Try.func21 rfl rfl rfl (ref23_Step_calls A1 c2 A5 c6 A9 c10 A13 c14 aProps aAccept aGuard aNodes (s.1, s.2) won hk3 hk7 hk11 hk15 Hc162 h160) ?_
 rintro v164 w165 a ⟨A168, c169, rfl, HR166⟩ E_
 replace E := E_ _ rfl; clear E_
 obtain ⟨H_, hc167⟩ := hb163 _ _ HR166 rfl
 replace H := H_; clear H_; try dsimp only [setn, addE, goneL] at H
 refine vn tbok 5 [] [(21, .slice A168 (List.length r159.1) c169), (22, .int .i64 r159.2)] [] E (by kernel_rfl) (by kernel_rfl) trivial ?_
 clear E; intro a E
 refine wpList_nil ?_
 refine th_n ?_
 refine wp_seq ?_
 obtain ⟨x213, h214, hK215⟩ := bind_inv hP
 clear hP
 refine meet_cut (fun a w217 => ∃ (x216 : Bool), Fr a 150 [(2, .slice A13 (List.length won) c14), (3, .pointer (some ⟨g17, 0, none⟩)), (7, .pointer (some ⟨g75, 0, none⟩)), (8, .slice A89 (List.length (([] : List Bool) ++ won)) c90), (9, .slice A102 (List.length r93.1) c103), (11, .slice A114 (List.length r105.1) c115), (19, .slice A156 (List.length r147.1) c157), (23, .bool x216)] ∧ Hp S Fa w0 w217 [.ro false cBool A13 won, .ro false cBool A1 aAccept, .ro false (cInt .i64) A5 aGuard, .ro false cNode A9 aNodes, .box g17 26 [.int .i64 aProps, .slice A1 (List.length aAccept) c2, .slice A5 (List.length aGuard) c6, .slice A9 (List.length aNodes) c10], .rowx true cBool 4 A66 c67 r57.2.1.1 r57.2.1.2, .rowx true (cInt .i64) 3 A69 c70 r57.2.2.1.1 r57.2.2.1.2, .rowx true cNode 69 A72 c73 r57.2.2.2.1 r57.2.2.2.2, .box g75 26 [.int .i64 r57.1, .slice A66 (List.length r57.2.1.1) c67, .slice A69 (List.length r57.2.2.1.1) c70, .slice A72 (List.length r57.2.2.2.1) c73], .row true cBool 4 A89 c90 (([] : List Bool) ++ won), .rowx true (cInt .i64) 3 A102 c103 r93.1 [], .rowx true (cInt .i64) 3 A114 c115 r105.1 [], .row true cBool 4 A156 c157 r147.1] ∧ x213 = x216) ?_ ?_
 ·
  have hP := h214; clear h214; rw [law23_AttractTells_j1] at hP
  refine wp_region_lit ?_
  refine vn tbok 2 [] [(81, .slice A102 (List.length r93.1) c103), (82, .slice A126 (List.length r117.1) c127)] [] E (by kernel_rfl) (by kernel_rfl) trivial ?_
  clear E; intro a E
  obtain ⟨r218, h219, hP⟩ := bind_inv hP
  obtain ⟨Fa220, Hc221, hb222⟩ := H.call [] [(11, false), (13, false)] rfl rfl trivial
  refine e_call E rfl rfl Try.func22 rfl rfl rfl (kit_SameInts_calls A102 c103 A126 c127 r93.1 r117.1 (H.rcapx 11 rfl) (H.rcap 13 rfl) Hc221 h219) ?_
  rintro v223 w224 a ⟨rfl, HR225⟩ E_
  replace E := E_ _ rfl; clear E_
  obtain ⟨H_, hc226⟩ := hb222 _ _ HR225 rfl
  replace H := H_; clear H_; try dsimp only [setn, addE, goneL] at H
  refine vn tbok 1 [] [(84, .bool r218)] [] E (by kernel_rfl) (by kernel_rfl) trivial ?_
  clear E; intro a E
  refine E.cases (t := 84) rfl (fun hb_ E_ => ?_) (fun hb_ E_ => ?_)
  ·
   replace E := E_; clear E_
   have h227 : r218 = true := hb_
   clear hb_; replace hP := ite_t h227 hP
   refine vn tbok 2 [] [(85, .slice A114 (List.length r105.1) c115), (86, .slice A126 (List.length r117.1) c127)] [] E (by kernel_rfl) (by kernel_rfl) trivial ?_
   clear E; intro a E
   obtain ⟨r228, h229, hP⟩ := bind_inv hP
   obtain ⟨Fa230, Hc231, hb232⟩ := H.call [] [(12, false), (13, false)] rfl rfl trivial
   refine e_call E rfl rfl Try.func22 rfl rfl rfl (kit_SameInts_calls A114 c115 A126 c127 r105.1 r117.1 (H.rcapx 12 rfl) (H.rcap 13 rfl) Hc231 h229) ?_
   rintro v233 w234 a ⟨rfl, HR235⟩ E_
   replace E := E_ _ rfl; clear E_
   obtain ⟨H_, hc236⟩ := hb232 _ _ HR235 rfl
   replace H := H_; clear H_; try dsimp only [setn, addE, goneL] at H
   refine vn tbok 2 [] [(89, .bool r228)] [] E (by kernel_rfl) (by kernel_rfl) trivial ?_
   clear E; intro a E
   refine E.cases (t := 89) rfl (fun hb_ E_ => ?_) (fun hb_ E_ => ?_)
   ·
    replace E := E_; clear E_
    have h237 : r228 = true := hb_
    clear hb_; replace hP := ite_t h237 hP
    refine vn tbok 5 [] [(94, .bool ((r93.2 : Int) == r117.2))] [] E (by kernel_rfl) (by kernel_rfl) trivial ?_
    clear E; intro a E
    refine E.cases (t := 94) rfl (fun hb_ E_ => ?_) (fun hb_ E_ => ?_)
    ·
     replace E := E_; clear E_
     have h238 : (r93.2 : Int) = r117.2 := eq_of_beq hb_
     clear hb_; replace hP := ite_t h238 hP
     refine vn tbok 5 [] [(99, .bool ((r105.2 : Int) == r117.2))] [] E (by kernel_rfl) (by kernel_rfl) trivial ?_
     clear E; intro a E
     refine E.cases (t := 99) rfl (fun hb_ E_ => ?_) (fun hb_ E_ => ?_)
     ·
      replace E := E_; clear E_
      have h239 : (r105.2 : Int) = r117.2 := eq_of_beq hb_
      clear hb_; replace hP := ite_t h239 hP
      refine vr tbok 5 [] [(2, .slice A13 (List.length won) c14), (3, .pointer (some ⟨g17, 0, none⟩)), (7, .pointer (some ⟨g75, 0, none⟩)), (8, .slice A89 (List.length (([] : List Bool) ++ won)) c90), (9, .slice A102 (List.length r93.1) c103), (11, .slice A114 (List.length r105.1) c115), (16, .int .i64 r129.2), (18, .int .i64 r138.2), (19, .slice A156 (List.length r147.1) c157), (20, .int .i64 r147.2), (21, .slice A168 (List.length r159.1) c169), (22, .int .i64 r159.2), (104, .bool (r129.1 == r138.1))] [] E (by kernel_rfl) trivial ?_
      clear E; intro a E
      refine E.cases (t := 104) rfl (fun hb_ E_ => ?_) (fun hb_ E_ => ?_)
      ·
       replace E := E_; clear E_
       have h240 : r129.1 = r138.1 := eq_of_beq hb_
       clear hb_; replace hP := ite_t h240 hP
       refine vn tbok 5 [] [(109, .bool ((r129.2 : Int) == r138.2))] [] E (by kernel_rfl) (by kernel_rfl) trivial ?_
       clear E; intro a E
       refine E.cases (t := 109) rfl (fun hb_ E_ => ?_) (fun hb_ E_ => ?_)
       ·
        replace E := E_; clear E_
        have h241 : (r129.2 : Int) = r138.2 := eq_of_beq hb_
        clear hb_; replace hP := ite_t h241 hP
        refine vn tbok 2 [] [(110, .slice A156 (List.length r147.1) c157), (111, .slice A168 (List.length r159.1) c169)] [] E (by kernel_rfl) (by kernel_rfl) trivial ?_
        clear E; intro a E
        obtain ⟨r242, h243, hP⟩ := bind_inv hP
        obtain ⟨Fa244, Hc245, hb246⟩ := H.call [] [(14, false), (15, false)] rfl rfl trivial
        refine e_call E rfl rfl Try.func23 rfl rfl rfl (kit_SameBools_calls A156 c157 A168 c169 r147.1 r159.1 (H.rcap 14 rfl) (H.rcap 15 rfl) Hc245 h243) ?_
        rintro v247 w248 a ⟨rfl, HR249⟩ E_
        replace E := E_ _ rfl; clear E_
        obtain ⟨H_, hc250⟩ := hb246 _ _ HR249 rfl
        replace H := H_; clear H_; try dsimp only [setn, addE, goneL] at H
        refine vn tbok 2 [] [(114, .bool r242)] [] E (by kernel_rfl) (by kernel_rfl) trivial ?_
        clear E; intro a E
        refine E.cases (t := 114) rfl (fun hb_ E_ => ?_) (fun hb_ E_ => ?_)
        ·
         replace E := E_; clear E_
         have h251 : r242 = true := hb_
         clear hb_; replace hP := ite_t h251 hP
         refine vn tbok 5 [] [(23, .bool ((r147.2 : Int) == r159.2))] [] E (by kernel_rfl) (by kernel_rfl) trivial ?_
         clear E; intro a E
         refine wpList_nil ?_
         have hx_ := Option.some.inj hP
         exact .inl ⟨rfl, (r147.2 : Int) == r159.2, E.pick _ ⟨rfl, rfl, rfl, rfl, rfl, rfl, rfl, rfl, trivial⟩, H.sel [0, 1, 2, 3, 4, 6, 7, 8, 9, 10, 11, 12, 14] rfl, hx_.symm⟩
        replace E := E_; clear E_
        have h252 : ¬ (r242 = true) := (ne_true_of_eq_false hb_)
        clear hb_; replace hP := ite_f h252 hP
        refine vn tbok 5 [] [(23, .bool false)] [] E (by kernel_rfl) (by kernel_rfl) trivial ?_
        clear E; intro a E
        refine wpList_nil ?_
        have hx_ := Option.some.inj hP
        exact .inl ⟨rfl, false, E.pick _ ⟨rfl, rfl, rfl, rfl, rfl, rfl, rfl, rfl, trivial⟩, H.sel [0, 1, 2, 3, 4, 6, 7, 8, 9, 10, 11, 12, 14] rfl, hx_.symm⟩
       replace E := E_; clear E_
       have h253 : ¬ ((r129.2 : Int) = r138.2) := ne_of_beq_false hb_
       clear hb_; replace hP := ite_f h253 hP
       refine vn tbok 10 [] [(23, .bool false)] [] E (by kernel_rfl) (by kernel_rfl) trivial ?_
       clear E; intro a E
       refine wpList_nil ?_
       have hx_ := Option.some.inj hP
       exact .inl ⟨rfl, false, E.pick _ ⟨rfl, rfl, rfl, rfl, rfl, rfl, rfl, rfl, trivial⟩, H.sel [0, 1, 2, 3, 4, 6, 7, 8, 9, 10, 11, 12, 14] rfl, hx_.symm⟩
      replace E := E_; clear E_
      have h254 : ¬ (r129.1 = r138.1) := ne_of_beq_false hb_
      clear hb_; replace hP := ite_f h254 hP
      refine vn tbok 15 [] [(23, .bool false)] [] E (by kernel_rfl) (by kernel_rfl) trivial ?_
      clear E; intro a E
      refine wpList_nil ?_
      have hx_ := Option.some.inj hP
      exact .inl ⟨rfl, false, E.pick _ ⟨rfl, rfl, rfl, rfl, rfl, rfl, rfl, rfl, trivial⟩, H.sel [0, 1, 2, 3, 4, 6, 7, 8, 9, 10, 11, 12, 14] rfl, hx_.symm⟩
     replace E := E_; clear E_
     have h255 : ¬ ((r105.2 : Int) = r117.2) := ne_of_beq_false hb_
     clear hb_; replace hP := ite_f h255 hP
     refine vr tbok 20 [] [(2, .slice A13 (List.length won) c14), (3, .pointer (some ⟨g17, 0, none⟩)), (7, .pointer (some ⟨g75, 0, none⟩)), (8, .slice A89 (List.length (([] : List Bool) ++ won)) c90), (9, .slice A102 (List.length r93.1) c103), (11, .slice A114 (List.length r105.1) c115), (19, .slice A156 (List.length r147.1) c157), (23, .bool false)] [] E (by kernel_rfl) trivial ?_
     clear E; intro a E
     refine wpList_nil ?_
     have hx_ := Option.some.inj hP
     exact .inl ⟨rfl, false, E.pick _ ⟨rfl, rfl, rfl, rfl, rfl, rfl, rfl, rfl, trivial⟩, H.sel [0, 1, 2, 3, 4, 6, 7, 8, 9, 10, 11, 12, 14] rfl, hx_.symm⟩
    replace E := E_; clear E_
    have h256 : ¬ ((r93.2 : Int) = r117.2) := ne_of_beq_false hb_
    clear hb_; replace hP := ite_f h256 hP
    refine vr tbok 25 [] [(2, .slice A13 (List.length won) c14), (3, .pointer (some ⟨g17, 0, none⟩)), (7, .pointer (some ⟨g75, 0, none⟩)), (8, .slice A89 (List.length (([] : List Bool) ++ won)) c90), (9, .slice A102 (List.length r93.1) c103), (11, .slice A114 (List.length r105.1) c115), (19, .slice A156 (List.length r147.1) c157), (23, .bool false)] [] E (by kernel_rfl) trivial ?_
    clear E; intro a E
    refine wpList_nil ?_
    have hx_ := Option.some.inj hP
    exact .inl ⟨rfl, false, E.pick _ ⟨rfl, rfl, rfl, rfl, rfl, rfl, rfl, rfl, trivial⟩, H.sel [0, 1, 2, 3, 4, 6, 7, 8, 9, 10, 11, 12, 14] rfl, hx_.symm⟩
   replace E := E_; clear E_
   have h257 : ¬ (r228 = true) := (ne_true_of_eq_false hb_)
   clear hb_; replace hP := ite_f h257 hP
   refine vr tbok 30 [] [(2, .slice A13 (List.length won) c14), (3, .pointer (some ⟨g17, 0, none⟩)), (7, .pointer (some ⟨g75, 0, none⟩)), (8, .slice A89 (List.length (([] : List Bool) ++ won)) c90), (9, .slice A102 (List.length r93.1) c103), (11, .slice A114 (List.length r105.1) c115), (19, .slice A156 (List.length r147.1) c157), (23, .bool false)] [] E (by kernel_rfl) trivial ?_
   clear E; intro a E
   refine wpList_nil ?_
   have hx_ := Option.some.inj hP
   exact .inl ⟨rfl, false, E.pick _ ⟨rfl, rfl, rfl, rfl, rfl, rfl, rfl, rfl, trivial⟩, H.sel [0, 1, 2, 3, 4, 6, 7, 8, 9, 10, 11, 12, 14] rfl, hx_.symm⟩
  replace E := E_; clear E_
  have h258 : ¬ (r218 = true) := (ne_true_of_eq_false hb_)
  clear hb_; replace hP := ite_f h258 hP
  refine vr tbok 35 [] [(2, .slice A13 (List.length won) c14), (3, .pointer (some ⟨g17, 0, none⟩)), (7, .pointer (some ⟨g75, 0, none⟩)), (8, .slice A89 (List.length (([] : List Bool) ++ won)) c90), (9, .slice A102 (List.length r93.1) c103), (11, .slice A114 (List.length r105.1) c115), (19, .slice A156 (List.length r147.1) c157), (23, .bool false)] [] E (by kernel_rfl) trivial ?_
  clear E; intro a E
  refine wpList_nil ?_
  have hx_ := Option.some.inj hP
  exact .inl ⟨rfl, false, E.pick _ ⟨rfl, rfl, rfl, rfl, rfl, rfl, rfl, rfl, trivial⟩, H.sel [0, 1, 2, 3, 4, 6, 7, 8, 9, 10, 11, 12, 14] rfl, hx_.symm⟩
 clear E H h214; rintro a w217 ⟨x216, E, H, hx_⟩
 subst hx_; have hP := hK215; clear hK215
 refine th_n ?_
 refine wp_seq ?_
 refine wp_seq ?_
 refine wp_region_lit ?_
 refine vn tbok 1 [] [(24, .int .i64 0)] [] E (by kernel_rfl) (by kernel_rfl) trivial ?_
 clear E; intro a E
 refine wpList_nil ?_
 refine th_n ?_
 refine wp_block ?_
 obtain ⟨x281, hL282, hK283⟩ := bind_inv hP
 clear hP
 refine loop_cut (fun i_ a w_ => (i_ = 0 ∧ ∃ (x286 : Unit), Fr a 150 [(2, .slice A13 (List.length won) c14), (3, .pointer (some ⟨g17, 0, none⟩)), (7, .pointer (some ⟨g75, 0, none⟩)), (8, .slice A89 (List.length (([] : List Bool) ++ won)) c90), (9, .slice A102 (List.length r93.1) c103), (11, .slice A114 (List.length r105.1) c115), (23, .bool x213)] ∧ Hp S Fa w0 w_ [.ro false cBool A13 won, .ro false cBool A1 aAccept, .ro false (cInt .i64) A5 aGuard, .ro false cNode A9 aNodes, .box g17 26 [.int .i64 aProps, .slice A1 (List.length aAccept) c2, .slice A5 (List.length aGuard) c6, .slice A9 (List.length aNodes) c10], .rowx true cBool 4 A66 c67 r57.2.1.1 r57.2.1.2, .rowx true (cInt .i64) 3 A69 c70 r57.2.2.1.1 r57.2.2.1.2, .rowx true cNode 69 A72 c73 r57.2.2.2.1 r57.2.2.2.2, .box g75 26 [.int .i64 r57.1, .slice A66 (List.length r57.2.1.1) c67, .slice A69 (List.length r57.2.2.1.1) c70, .slice A72 (List.length r57.2.2.2.1) c73], .row true cBool 4 A89 c90 (([] : List Bool) ++ won), .rowx true (cInt .i64) 3 A102 c103 r93.1 [], .rowx true (cInt .i64) 3 A114 c115 r105.1 []] ∧ x281 = x286)) ?_ ?_
 ·
  refine loopV (fun m285 a w284 => ∃ (u267 : List Bool) (n270 : Int), ∃ (A268 : Option Addr) (c269 : Nat), Fr a 150 [(2, .slice A13 (List.length won) c14), (3, .pointer (some ⟨g17, 0, none⟩)), (7, .pointer (some ⟨g75, 0, none⟩)), (8, .slice A89 (List.length (([] : List Bool) ++ won)) c90), (9, .slice A102 (List.length r93.1) c103), (11, .slice A114 (List.length r105.1) c115), (19, .slice A268 (List.length u267) c269), (23, .bool x213), (24, .int .i64 n270)] ∧ Hp S Fa w0 w284 [.ro false cBool A13 won, .ro false cBool A1 aAccept, .ro false (cInt .i64) A5 aGuard, .ro false cNode A9 aNodes, .box g17 26 [.int .i64 aProps, .slice A1 (List.length aAccept) c2, .slice A5 (List.length aGuard) c6, .slice A9 (List.length aNodes) c10], .rowx true cBool 4 A66 c67 r57.2.1.1 r57.2.1.2, .rowx true (cInt .i64) 3 A69 c70 r57.2.2.1.1 r57.2.2.1.2, .rowx true cNode 69 A72 c73 r57.2.2.2.1 r57.2.2.2.2, .box g75 26 [.int .i64 r57.1, .slice A66 (List.length r57.2.1.1) c67, .slice A69 (List.length r57.2.2.1.1) c70, .slice A72 (List.length r57.2.2.2.1) c73], .row true cBool 4 A89 c90 (([] : List Bool) ++ won), .rowx true (cInt .i64) 3 A102 c103 r93.1 [], .rowx true (cInt .i64) 3 A114 c115 r105.1 [], .row true cBool 4 A268 c269 u267] ∧ law23_AttractTells_l2 N m285 u267 n270 = some x281) N ?_ ?_
  ·
   exact ⟨r147.1, 0, A156, c157, E.pick _ ⟨rfl, rfl, rfl, rfl, rfl, rfl, rfl, rfl, rfl, trivial⟩, H.sel [0, 1, 2, 3, 4, 5, 6, 7, 8, 9, 10, 11, 12] rfl, hL282⟩
  clear E H hL282; intro m285 a w284 hI_
  obtain ⟨u267, n270, A268, c269, E, H, hP⟩ := hI_
  obtain ⟨m280, rfl⟩ : ∃ q_, m285 = q_ + 1 := by cases m285 with | zero => rw [law23_AttractTells_l2] at hP; cases hP | succ q_ => exact ⟨q_, rfl⟩
  rw [law23_AttractTells_l2] at hP
  refine wp_seq ?_
  refine wp_seq ?_
  refine wp_region_lit ?_
  refine vn tbok 4 [] [(122, .bool (decide (n270 < (((List.length u267) : Nat) : Int))))] [] E (by kernel_rfl) (by kernel_rfl) trivial ?_
  clear E; intro a E
  refine wpList_nil ?_
  refine th_n ?_
  refine E.cases (t := 122) rfl (fun hb_ E_ => ?_) (fun hb_ E_ => ?_)
  ·
   replace E := E_; clear E_
   have h287 : n270 < (((List.length u267) : Nat) : Int) := of_decide_eq_true hb_
   clear hb_; replace hP := ite_t h287 hP
   refine c_true E rfl ?_
   refine wp_skip ?_
   refine th_n ?_
   refine wp_seq ?_
   refine wp_block ?_
   refine wp_region_lit ?_
   obtain ⟨g288, hP⟩ := ask_inv hP
   obtain ⟨b289, e_b289⟩ := H.raddr 12 rfl (idx_pos g288)
   subst e_b289
   refine vn tbok 8 [.bool (List.getD u267 (Int.toNat n270) false)] [(131, .bool (!(List.getD u267 (Int.toNat n270) false))), (132, .pointer (some ⟨b289, 0 + (Int.toNat n270) * 1, none⟩))] [0 ≤ n270 ∧ n270 < (((List.length u267) : Nat) : Int), World.cell? w284 ⟨b289, 0 + (Int.toNat n270) * 1, none⟩ = some (.bool (List.getD u267 (Int.toNat n270) false)), 0 ≤ n270 ∧ n270 < (((List.length u267) : Nat) : Int)] E (by kernel_rfl) (by kernel_rfl) ⟨g288, Rds.at1 (H.rd 12 rds_row) false g288, g288⟩ ?_
   clear E; intro a E
   refine h_set (g := b289) (i := n270) (!(List.getD u267 (Int.toNat n270) false)) H 12 rfl E rfl rfl rfl rfl tbok rfl (fun _ HF_ => rfl) rfl g288 rfl ?_
   clear E; intro w291 a hc292 H_ E
   replace H := H_; clear H_; try dsimp only [setn, addE, goneL] at H
   have hn293 : (List.length u267) = (List.length (List.set u267 (Int.toNat n270) (!(List.getD u267 (Int.toNat n270) false)))) := by simp only [List.length_set]
   replace E := E.same (t := 19) (u := .slice (some ⟨b289, 0, none⟩) (List.length (List.set u267 (Int.toNat n270) (!(List.getD u267 (Int.toNat n270) false)))) c269) rfl (congrArg (fun n_ => Value.slice (some ⟨b289, 0, none⟩) n_ c269) hn293)
   refine wpList_nil ?_
   refine bl_n ?_
   refine th_n ?_
   refine wp_region_lit ?_
   obtain ⟨g294, hP⟩ := ask_inv hP
   refine vn tbok 3 [.int .i64 (n270 + 1)] [(24, .int .i64 (n270 + 1))] [IntKind.i64.wrap (n270 + 1) = n270 + 1] E (by kernel_rfl) (by kernel_rfl) (wrap_in g294) ?_
   clear E; intro a E
   refine wpList_nil ?_
   exact th_n ⟨m280, Nat.lt_succ_self _, List.set u267 (Int.toNat n270) (!(List.getD u267 (Int.toNat n270) false)), n270 + 1, (some ⟨b289, 0, none⟩), c269, E.pick _ ⟨rfl, rfl, rfl, rfl, rfl, rfl, rfl, rfl, rfl, trivial⟩, H.sel [0, 1, 2, 3, 4, 5, 6, 7, 8, 9, 10, 11, 12] rfl, hP⟩
  replace E := E_; clear E_
  have h295 : ¬ (n270 < (((List.length u267) : Nat) : Int)) := of_decide_eq_false hb_
  clear hb_; replace hP := ite_f h295 hP
  refine c_false E rfl ?_
  refine wp_exit ?_
  refine th_exit ?_
  have hx_ := Option.some.inj hP
  refine th_exit (.inl ⟨0, rfl, ?_⟩)
  exact ⟨rfl, (), E.pick _ ⟨rfl, rfl, rfl, rfl, rfl, rfl, rfl, trivial⟩, H.sel [0, 1, 2, 3, 4, 5, 6, 7, 8, 9, 10, 11] rfl, hx_.symm⟩
 clear E H hL282; intro i_ a w284 hM_
 obtain ⟨rfl, x286, E, H, hx_⟩ := hM_
 subst hx_; have hP := hK283; clear hK283
 refine bl_hit ?_
 refine th_n ?_
 refine wp_seq ?_
 obtain ⟨x657, h658, hK659⟩ := bind_inv hP
 clear hP
 refine meet_cut (fun a w661 => ∃ (x660 : Bool), Fr a 150 [(6, .bool x660)] ∧ Hp S Fa w0 w661 [] ∧ x657 = x660) ?_ ?_
 ·
  have hP := h658; clear h658; rw [law23_AttractTells_j3] at hP
  refine wp_region_lit ?_
  refine vn tbok 2 [] [(134, .bool x213)] [] E (by kernel_rfl) (by kernel_rfl) trivial ?_
  clear E; intro a E
  refine E.cases (t := 134) rfl (fun hb_ E_ => ?_) (fun hb_ E_ => ?_)
  ·
   replace E := E_; clear E_
   have h662 : x213 = true := hb_
   clear hb_; replace hP := ite_t h662 hP
   refine vn tbok 2 [] [(135, .slice A89 (List.length (([] : List Bool) ++ won)) c90), (136, .slice A13 (List.length won) c14)] [] E (by kernel_rfl) (by kernel_rfl) trivial ?_
   clear E; intro a E
   obtain ⟨r663, h664, hP⟩ := bind_inv hP
   obtain ⟨Fa665, Hc666, hb667⟩ := H.call [] [(9, false), (0, false)] rfl rfl trivial
   refine e_call E rfl rfl Try.func23 rfl rfl rfl (kit_SameBools_calls A89 c90 A13 c14 (([] : List Bool) ++ won) won (H.rcap 9 rfl) hk15 Hc666 h664) ?_
   rintro v668 w669 a ⟨rfl, HR670⟩ E_
   replace E := E_ _ rfl; clear E_
   obtain ⟨H_, hc671⟩ := hb667 _ _ HR670 rfl
   replace H := H_; clear H_; try dsimp only [setn, addE, goneL] at H
   refine vn tbok 2 [] [(139, .bool r663)] [] E (by kernel_rfl) (by kernel_rfl) trivial ?_
   clear E; intro a E
   refine E.cases (t := 139) rfl (fun hb_ E_ => ?_) (fun hb_ E_ => ?_)
   ·
    replace E := E_; clear E_
    have h672 : r663 = true := hb_
    clear hb_; replace hP := ite_t h672 hP
    refine vn tbok 2 [.agg #[.int .i64 r57.1, .slice A66 (List.length r57.2.1.1) c67, .slice A69 (List.length r57.2.2.1.1) c70, .slice A72 (List.length r57.2.2.2.1) c73], .agg #[.int .i64 aProps, .slice A1 (List.length aAccept) c2, .slice A5 (List.length aGuard) c6, .slice A9 (List.length aNodes) c10]] [(140, .agg #[.int .i64 r57.1, .slice A66 (List.length r57.2.1.1) c67, .slice A69 (List.length r57.2.2.1.1) c70, .slice A72 (List.length r57.2.2.2.1) c73]), (141, .agg #[.int .i64 aProps, .slice A1 (List.length aAccept) c2, .slice A5 (List.length aGuard) c6, .slice A9 (List.length aNodes) c10])] [cellsAt w669 g75 (0) [.int .i64 r57.1, .slice A66 (List.length r57.2.1.1) c67, .slice A69 (List.length r57.2.2.1.1) c70, .slice A72 (List.length r57.2.2.2.1) c73], cellsAt w669 g17 (0) [.int .i64 aProps, .slice A1 (List.length aAccept) c2, .slice A5 (List.length aGuard) c6, .slice A9 (List.length aNodes) c10]] E (by kernel_rfl) (by kernel_rfl) ⟨(H.box 8 rfl).sub 0 _ rfl, (H.box 4 rfl).sub 0 _ rfl⟩ ?_
    clear E; intro a E
    obtain ⟨r673, h674, hP⟩ := bind_inv hP
    obtain ⟨Fa675, Hc676, hb677⟩ := H.call [] [(5, false), (5, true), (6, false), (6, true), (7, false), (7, true), (1, false), (2, false), (3, false)] rfl rfl trivial
    refine e_call E rfl rfl Try.func24 rfl rfl rfl (kit_KeptAuto_calls A66 c67 A69 c70 A72 c73 A1 c2 A5 c6 A9 c10 r57.1 r57.2.1.1 r57.2.1.2 r57.2.2.1.1 r57.2.2.1.2 r57.2.2.2.1 r57.2.2.2.2 aProps aAccept aGuard aNodes (H.rcapE 5 rfl) (H.rcapE 6 rfl) (H.rcapE 7 rfl) hk3 hk7 hk11 Hc676 h674) ?_
    rintro v678 w679 a ⟨rfl, HR680⟩ E_
    replace E := E_ _ rfl; clear E_
    obtain ⟨H_, hc681⟩ := hb677 _ _ HR680 rfl
    replace H := H_; clear H_; try dsimp only [setn, addE, goneL] at H
    refine vn tbok 2 [] [(144, .bool r673)] [] E (by kernel_rfl) (by kernel_rfl) trivial ?_
    clear E; intro a E
    refine E.cases (t := 144) rfl (fun hb_ E_ => ?_) (fun hb_ E_ => ?_)
    ·
     replace E := E_; clear E_
     have h682 : r673 = true := hb_
     clear hb_; replace hP := ite_t h682 hP
     refine vn tbok 2 [] [(145, .slice A102 (List.length r93.1) c103), (146, .slice A114 (List.length r105.1) c115)] [] E (by kernel_rfl) (by kernel_rfl) trivial ?_
     clear E; intro a E
     refine h_buildSlice (ps := [(0, .slice A102 (List.length r93.1) c103), (1, .slice A114 (List.length r105.1) c115)]) (cs := [.slice A102 (List.length r93.1) c103, .slice A114 (List.length r105.1) c115]) H E rfl rfl tbok rfl rfl (by kernel_rfl) ?_
     intro w684 g683 a hc685 hg687 H_ E_
     replace E := E_ _ rfl; clear E_
     replace H := H_; clear H_; try dsimp only [setn, addE, goneL] at H
     obtain ⟨x1017, h1018, hP⟩ := bind_inv hP
     refine e_call (R := fun v_ w_ => ∃ (x1019 : Bool × (List Int) × (List Int)), v_ = .bool x1019.1 ∧ Hp S Fa w0 w_ [.rowx true (cInt .i64) 3 A102 c103 x1019.2.1 [], .rowx true (cInt .i64) 3 A114 c115 x1019.2.2 [], .box g683 23 [.slice A102 (List.length x1019.2.1) c103, .slice A114 (List.length x1019.2.2) c115]] ∧ x1017 = x1019) E rfl rfl Try.func25 rfl rfl rfl ?_ ?_
     ·
      clear E hP; have hP := h1018; clear h1018; rw [law23_AttractTells_f4] at hP
      refine enterV (n := 73) Try.func25 rfl rfl rfl ?_
      intro a E
      replace E := E.pick [(0, .slice (some ⟨g683, 0, none⟩) 2 2)] ⟨rfl, trivial⟩
      refine wp_seq ?_
      refine wp_region_lit ?_
      refine vn tbok 1 [] [] [] E (by kernel_rfl) (by kernel_rfl) trivial ?_
      clear E; intro a E
      refine wpList_nil ?_
      refine th_n ?_
      refine wp_seq ?_
      refine wp_seq ?_
      refine wp_region_lit ?_
      refine vn tbok 1 [] [(3, .int .i64 0)] [] E (by kernel_rfl) (by kernel_rfl) trivial ?_
      clear E; intro a E
      refine wpList_nil ?_
      refine th_n ?_
      refine wp_block ?_
      refine wp_loop_rounds 3 ?_
      refine unr (m := 2) ?_
      refine wp_seq ?_
      refine wp_seq ?_
      refine wp_region_lit ?_
      refine vn tbok 4 [] [(10, .bool true)] [] E (by kernel_rfl) (by kernel_rfl) trivial ?_
      clear E; intro a E
      refine wpList_nil ?_
      refine th_n ?_
      refine c_true E rfl ?_
      refine wp_skip ?_
      refine th_n ?_
      refine wp_seq ?_
      refine wp_block ?_
      refine wp_seq ?_
      refine wp_region_lit ?_
      refine vn tbok 2 [] [(14, .int .i64 2)] [] E (by kernel_rfl) (by kernel_rfl) trivial ?_
      clear E; intro a E
      obtain ⟨g1020, hP⟩ := ask_inv hP
      refine h_make (cSl (cInt .i64)) ([] : List Int) H E rfl rfl tbok rfl rfl rfl rfl ⟨g1020.1, Int.le_refl _, g1020.2⟩ rfl rfl rfl (fun _ _ => kSl_nil) ?_
      intro w1022 g1021 a hc1023 hg1025 H_ E_
      replace E := E_ _ rfl; clear E_
      replace H := H_; clear H_; try dsimp only [setn, addE, goneL] at H
      refine vn tbok 1 [] [(4, .slice (some ⟨g1021, 0, none⟩) (List.length (List.replicate (Int.toNat (2 : Int)) ([] : List Int))) (Int.toNat (2 : Int)))] [] E (by kernel_rfl) (by kernel_rfl) trivial ?_
      clear E; intro a E
      refine wpList_nil ?_
      refine th_n ?_
      refine wp_seq ?_
      refine wp_seq ?_
      refine wp_region_lit ?_
      refine vn tbok 1 [] [(5, .int .i64 0)] [] E (by kernel_rfl) (by kernel_rfl) trivial ?_
      clear E; intro a E
      refine wpList_nil ?_
      refine th_n ?_
      refine wp_block ?_
      refine wp_loop_rounds 3 ?_
      refine unr (m := 2) ?_
      refine wp_seq ?_
      refine wp_seq ?_
      refine wp_region_lit ?_
      refine vn tbok 4 [] [(19, .bool true)] [] E (by kernel_rfl) (by kernel_rfl) trivial ?_
      clear E; intro a E
      refine wpList_nil ?_
      refine th_n ?_
      refine c_true E rfl ?_
      refine wp_skip ?_
      refine th_n ?_
      refine wp_seq ?_
      refine wp_block ?_
      obtain ⟨r1027, h1028, hP⟩ := bind_inv hP
      obtain ⟨g1039, hP⟩ := ask_inv hP
      have HR1047 := H
      refine dr_start (S := fun w_ => Chg (atL [.rowx true (cSl (cInt .i64)) 23 (some ⟨g1021, 0, none⟩) (Int.toNat (2 : Int)) (List.replicate (Int.toNat (2 : Int)) ([] : List Int)) (List.replicate (Int.toNat (2 : Int) - Int.toNat (2 : Int)) ([] : List Int))]) w1022 w_) (by kernel_rfl) ?_
      intro w1044 hc1045
      have HS1046 : Chg (atL [.rowx true (cSl (cInt .i64)) 23 (some ⟨g1021, 0, none⟩) (Int.toNat (2 : Int)) (List.replicate (Int.toNat (2 : Int)) ([] : List Int)) (List.replicate (Int.toNat (2 : Int) - Int.toNat (2 : Int)) ([] : List Int))]) w1022 w1044 := hc1045.mono (fun _ _ h_ => h_.elim)
      replace H := H.ext hc1045
      refine dn tbok (by kernel_rfl) [0, 1, 2, 3, 4, 5, 6, 7, 8, 9, 10] [.slice A102 (List.length r93.1) c103, .slice A102 (List.length r93.1) c103] [(22, .slice (some ⟨g1021, 0, none⟩) (List.length (List.replicate (Int.toNat (2 : Int)) ([] : List Int))) (Int.toNat (2 : Int))), (23, .int .i64 0), (27, .slice A102 (List.length r93.1) c103), (32, .int .i64 ((c103 : Nat) : Int))] (fun w_ => [0 ≤ (0 : Int) ∧ (0 : Int) < ((2 : Nat) : Int), World.cell? w_ ⟨g683, 0, none⟩ = some (.slice A102 (List.length r93.1) c103), 0 ≤ (0 : Int) ∧ (0 : Int) < ((2 : Nat) : Int), World.cell? w_ ⟨g683, 0, none⟩ = some (.slice A102 (List.length r93.1) c103)]) 4 E (fun _ _ => by kernel_rfl) (by kernel_rfl) (fun w_ hS_ => ⟨⟨by decide, by decide⟩, (HR1047.boxk [13] hS_ 12 rfl rfl).cell (j := 0) rfl, ⟨by decide, by decide⟩, (HR1047.boxk [13] hS_ 12 rfl rfl).cell (j := 0) rfl⟩) (by kernel_rfl) HS1046 ?_
      clear E; intro a E
      refine wpAnyH_all (rs := [11]) (by kernel_rfl) (by simp) ?_
      refine all1 ?_
      refine wpOp_of_list rfl ?_
      refine vn tbok 1 [] [(33, .slice A102 (Int.toNat ((c103 : Nat) : Int)) c103)] [0 ≤ ((c103 : Nat) : Int) ∧ ((c103 : Nat) : Int) ≤ ((c103 : Nat) : Int)] E (by kernel_rfl) (by kernel_rfl) (cut_all _) ?_
      clear E; intro a E
      have hk1048 : c103 = List.length r93.1 := (H.rcapE 10 rfl).trans (congrArg List.length (List.append_nil _))
      replace E := E.same (t := 33) (u := .slice A102 (List.length (r93.1)) c103) rfl (congrArg (fun n_ => Value.slice A102 n_ c103) hk1048)
      refine wpList_nil ?_
      refine th_n ⟨HS1046, ?_⟩
      refine wpAnyH_all (rs := [12]) (by kernel_rfl) (by simp) ?_
      refine all1 ?_
      refine wpOp_of_list rfl ?_
      obtain ⟨Fa1049, Hc1050, hb1051⟩ := H.call [] [(10, false)] rfl rfl trivial
      refine e_call E rfl rfl Try.func38 rfl rfl rfl (kit_CopyInts_calls A102 c103 r93.1 (H.rcapx 10 rfl) Hc1050 h1028) ?_
      rintro v1052 w1053 a ⟨A1056, c1057, rfl, HR1054⟩ E_
      replace E := E_ _ rfl; clear E_
      obtain ⟨H_, hc1055⟩ := hb1051 _ _ HR1054 rfl
      replace HS1046 := HS1046.ext (callS_ext hc1055)
      replace H := H_; clear H_; try dsimp only [setn, addE, goneL] at H
      refine wpList_nil ?_
      refine th_n ⟨HS1046, ?_⟩
      refine wpAnyH_all (rs := [13]) (by kernel_rfl) (by simp) ?_
      refine all1 ?_
      refine wpOp_of_list rfl ?_
      refine vn tbok 1 [] [(35, .pointer (some ⟨g1021, 0 + (Int.toNat (0 : Int)) * 1, none⟩))] [0 ≤ (0 : Int) ∧ (0 : Int) < (((List.length (List.replicate (Int.toNat (2 : Int)) ([] : List Int))) : Nat) : Int)] E (by kernel_rfl) (by kernel_rfl) (g1039) ?_
      clear E; intro a E
      refine wpList_nil ?_
      refine th_n ⟨HS1046, ?_⟩
      refine wpAnyH_all (rs := [14]) (by kernel_rfl) (by simp) ?_
      refine all1 ?_
      refine wpOp_of_list rfl ?_
      have hk1059 := H.rcap 14 rfl
      replace H := H.frz 14 rfl; try dsimp only [setn, addE, goneL] at H
      refine h_setx (g := g1021) (i := (0 : Int)) r1027 H 13 rfl E rfl rfl rfl rfl tbok rfl (fun _ HF_ => ⟨_, _, rfl, hk1059, (HF_.roC 14 rfl)⟩) rfl g1039 rfl ?_
      clear E; intro w1060 a hc1061 H_ E
      replace HS1046 := HS1046.trans hc1061 (fun k_ hk_ h_ => (fun _ _ h_ => Or.inl h_) k_ hk_ h_)
      replace H := H_; clear H_; try dsimp only [setn, addE, goneL] at H
      have hn1062 : (List.length (List.replicate (Int.toNat (2 : Int)) ([] : List Int))) = (List.length (List.set (List.replicate (Int.toNat (2 : Int)) ([] : List Int)) (Int.toNat (0 : Int)) r1027)) := by simp only [List.length_set]
      replace E := E.same (t := 4) (u := .slice (some ⟨g1021, 0, none⟩) (List.length (List.set (List.replicate (Int.toNat (2 : Int)) ([] : List Int)) (Int.toNat (0 : Int)) r1027)) (Int.toNat (2 : Int))) rfl (congrArg (fun n_ => Value.slice (some ⟨g1021, 0, none⟩) n_ (Int.toNat (2 : Int))) hn1062)
      replace E := E.same (t := 22) (u := .slice (some ⟨g1021, 0, none⟩) (List.length (List.set (List.replicate (Int.toNat (2 : Int)) ([] : List Int)) (Int.toNat (0 : Int)) r1027)) (Int.toNat (2 : Int))) rfl (congrArg (fun n_ => Value.slice (some ⟨g1021, 0, none⟩) n_ (Int.toNat (2 : Int))) hn1062)
      refine wpList_nil ?_
      refine th_n ⟨HS1046, ?_⟩
      refine dr_done (by kernel_rfl) ?_
      clear HS1046 HR1047
      refine bl_n ?_
      refine th_n ?_
      refine wp_region_lit ?_
      refine vn tbok 3 [.int .i64 1] [(5, .int .i64 1)] [IntKind.i64.wrap (0 + 1) = 1] E (by kernel_rfl) (by kernel_rfl) ((show _ = _ from by decide)) ?_
      clear E; intro a E
      refine wpList_nil ?_
      refine th_n ?_
      refine unr (m := 1) ?_
      refine wp_seq ?_
      refine wp_seq ?_
      refine wp_region_lit ?_
      refine vn tbok 4 [] [(19, .bool true)] [] E (by kernel_rfl) (by kernel_rfl) trivial ?_
      clear E; intro a E
      refine wpList_nil ?_
      refine th_n ?_
      refine c_true E rfl ?_
      refine wp_skip ?_
      refine th_n ?_
      refine wp_seq ?_
      refine wp_block ?_
      obtain ⟨r1064, h1065, hP⟩ := bind_inv hP
      obtain ⟨g1076, hP⟩ := ask_inv hP
      have HR1084 := H
      refine dr_start (S := fun w_ => Chg (atL [.rowx true (cSl (cInt .i64)) 23 (some ⟨g1021, 0, none⟩) (Int.toNat (2 : Int)) (List.set (List.replicate (Int.toNat (2 : Int)) ([] : List Int)) (Int.toNat (0 : Int)) r1027) (List.replicate (Int.toNat (2 : Int) - Int.toNat (2 : Int)) ([] : List Int))]) w1060 w_) (by kernel_rfl) ?_
      intro w1081 hc1082
      have HS1083 : Chg (atL [.rowx true (cSl (cInt .i64)) 23 (some ⟨g1021, 0, none⟩) (Int.toNat (2 : Int)) (List.set (List.replicate (Int.toNat (2 : Int)) ([] : List Int)) (Int.toNat (0 : Int)) r1027) (List.replicate (Int.toNat (2 : Int) - Int.toNat (2 : Int)) ([] : List Int))]) w1060 w1081 := hc1082.mono (fun _ _ h_ => h_.elim)
      replace H := H.ext hc1082
      refine dn tbok (by kernel_rfl) [0, 1, 2, 3, 4, 5, 6, 7, 8, 9, 10] [.slice A114 (List.length r105.1) c115, .slice A114 (List.length r105.1) c115] [(22, .slice (some ⟨g1021, 0, none⟩) (List.length (List.set (List.replicate (Int.toNat (2 : Int)) ([] : List Int)) (Int.toNat (0 : Int)) r1027)) (Int.toNat (2 : Int))), (23, .int .i64 1), (27, .slice A114 (List.length r105.1) c115), (32, .int .i64 ((c115 : Nat) : Int))] (fun w_ => [0 ≤ (1 : Int) ∧ (1 : Int) < ((2 : Nat) : Int), World.cell? w_ ⟨g683, 1, none⟩ = some (.slice A114 (List.length r105.1) c115), 0 ≤ (1 : Int) ∧ (1 : Int) < ((2 : Nat) : Int), World.cell? w_ ⟨g683, 1, none⟩ = some (.slice A114 (List.length r105.1) c115)]) 4 E (fun _ _ => by kernel_rfl) (by kernel_rfl) (fun w_ hS_ => ⟨⟨by decide, by decide⟩, (HR1084.boxk [13] hS_ 12 rfl rfl).cell (j := 1) rfl, ⟨by decide, by decide⟩, (HR1084.boxk [13] hS_ 12 rfl rfl).cell (j := 1) rfl⟩) (by kernel_rfl) HS1083 ?_
      clear E; intro a E
      refine wpAnyH_all (rs := [11]) (by kernel_rfl) (by simp) ?_
      refine all1 ?_
      refine wpOp_of_list rfl ?_
      refine vn tbok 1 [] [(33, .slice A114 (Int.toNat ((c115 : Nat) : Int)) c115)] [0 ≤ ((c115 : Nat) : Int) ∧ ((c115 : Nat) : Int) ≤ ((c115 : Nat) : Int)] E (by kernel_rfl) (by kernel_rfl) (cut_all _) ?_
      clear E; intro a E
      have hk1085 : c115 = List.length r105.1 := (H.rcapE 11 rfl).trans (congrArg List.length (List.append_nil _))
      replace E := E.same (t := 33) (u := .slice A114 (List.length (r105.1)) c115) rfl (congrArg (fun n_ => Value.slice A114 n_ c115) hk1085)
      refine wpList_nil ?_
      refine th_n ⟨HS1083, ?_⟩
      refine wpAnyH_all (rs := [12]) (by kernel_rfl) (by simp) ?_
      refine all1 ?_
      refine wpOp_of_list rfl ?_
      obtain ⟨Fa1086, Hc1087, hb1088⟩ := H.call [] [(11, false)] rfl rfl trivial
      refine e_call E rfl rfl Try.func38 rfl rfl rfl (kit_CopyInts_calls A114 c115 r105.1 (H.rcapx 11 rfl) Hc1087 h1065) ?_
      rintro v1089 w1090 a ⟨A1093, c1094, rfl, HR1091⟩ E_
      replace E := E_ _ rfl; clear E_
      obtain ⟨H_, hc1092⟩ := hb1088 _ _ HR1091 rfl
      replace HS1083 := HS1083.ext (callS_ext hc1092)
      replace H := H_; clear H_; try dsimp only [setn, addE, goneL] at H
      refine wpList_nil ?_
      refine th_n ⟨HS1083, ?_⟩
      refine wpAnyH_all (rs := [13]) (by kernel_rfl) (by simp) ?_
      refine all1 ?_
      refine wpOp_of_list rfl ?_
      refine vn tbok 1 [] [(35, .pointer (some ⟨g1021, 0 + (Int.toNat (1 : Int)) * 1, none⟩))] [0 ≤ (1 : Int) ∧ (1 : Int) < (((List.length (List.set (List.replicate (Int.toNat (2 : Int)) ([] : List Int)) (Int.toNat (0 : Int)) r1027)) : Nat) : Int)] E (by kernel_rfl) (by kernel_rfl) (g1076) ?_
      clear E; intro a E
      refine wpList_nil ?_
      refine th_n ⟨HS1083, ?_⟩
      refine wpAnyH_all (rs := [14]) (by kernel_rfl) (by simp) ?_
      refine all1 ?_
      refine wpOp_of_list rfl ?_
      have hk1096 := H.rcap 15 rfl
      replace H := H.frz 15 rfl; try dsimp only [setn, addE, goneL] at H
      refine h_setx (g := g1021) (i := (1 : Int)) r1064 H 13 rfl E rfl rfl rfl rfl tbok rfl (fun _ HF_ => ⟨_, _, rfl, hk1096, (HF_.roC 15 rfl)⟩) rfl g1076 rfl ?_
      clear E; intro w1097 a hc1098 H_ E
      replace HS1083 := HS1083.trans hc1098 (fun k_ hk_ h_ => (fun _ _ h_ => Or.inl h_) k_ hk_ h_)
      replace H := H_; clear H_; try dsimp only [setn, addE, goneL] at H
      have hn1099 : (List.length (List.set (List.replicate (Int.toNat (2 : Int)) ([] : List Int)) (Int.toNat (0 : Int)) r1027)) = (List.length (List.set (List.set (List.replicate (Int.toNat (2 : Int)) ([] : List Int)) (Int.toNat (0 : Int)) r1027) (Int.toNat (1 : Int)) r1064)) := by simp only [List.length_set]
      replace E := E.same (t := 4) (u := .slice (some ⟨g1021, 0, none⟩) (List.length (List.set (List.set (List.replicate (Int.toNat (2 : Int)) ([] : List Int)) (Int.toNat (0 : Int)) r1027) (Int.toNat (1 : Int)) r1064)) (Int.toNat (2 : Int))) rfl (congrArg (fun n_ => Value.slice (some ⟨g1021, 0, none⟩) n_ (Int.toNat (2 : Int))) hn1099)
      replace E := E.same (t := 22) (u := .slice (some ⟨g1021, 0, none⟩) (List.length (List.set (List.set (List.replicate (Int.toNat (2 : Int)) ([] : List Int)) (Int.toNat (0 : Int)) r1027) (Int.toNat (1 : Int)) r1064)) (Int.toNat (2 : Int))) rfl (congrArg (fun n_ => Value.slice (some ⟨g1021, 0, none⟩) n_ (Int.toNat (2 : Int))) hn1099)
      refine wpList_nil ?_
      refine th_n ⟨HS1083, ?_⟩
      refine dr_done (by kernel_rfl) ?_
      clear HS1083 HR1084
      refine bl_n ?_
      refine th_n ?_
      refine wp_region_lit ?_
      refine vn tbok 3 [.int .i64 2] [(5, .int .i64 2)] [IntKind.i64.wrap (1 + 1) = 2] E (by kernel_rfl) (by kernel_rfl) ((show _ = _ from by decide)) ?_
      clear E; intro a E
      refine wpList_nil ?_
      refine th_n ?_
      refine unr (m := 0) ?_
      refine wp_seq ?_
      refine wp_seq ?_
      refine wp_region_lit ?_
      refine vn tbok 4 [] [(19, .bool false)] [] E (by kernel_rfl) (by kernel_rfl) trivial ?_
      clear E; intro a E
      refine wpList_nil ?_
      refine th_n ?_
      refine c_false E rfl ?_
      refine wp_exit ?_
      refine th_exit ?_
      refine th_exit ?_
      refine bl_hit ?_
      refine th_n ?_
      refine wp_seq ?_
      refine wp_region_lit ?_
      refine vn tbok 4 [.slice A102 (List.length r93.1) c103] [(39, .slice A102 (List.length r93.1) c103)] [0 ≤ (0 : Int) ∧ (0 : Int) < ((2 : Nat) : Int), World.cell? w1097 ⟨g683, 0, none⟩ = some (.slice A102 (List.length r93.1) c103)] E (by kernel_rfl) (by kernel_rfl) ⟨⟨by decide, by decide⟩, (H.box 12 rfl).cell (j := 0) rfl⟩ ?_
      clear E; intro a E
      obtain ⟨x1123, h1124, hP⟩ := bind_inv hP
      refine e_call (R := fun v_ w_ => ∃ (x1125 : List Int), v_ = .tuple #[] ∧ Hp S Fa w0 w_ [.rowx true (cInt .i64) 3 A102 c103 x1125 [], .rowx true (cInt .i64) 3 A114 c115 r105.1 [], .box g683 23 [.slice A102 (List.length x1125) c103, .slice A114 (List.length r105.1) c115], .rowx true (cSl (cInt .i64)) 23 (some ⟨g1021, 0, none⟩) (Int.toNat (2 : Int)) (List.set (List.set (List.replicate (Int.toNat (2 : Int)) ([] : List Int)) (Int.toNat (0 : Int)) r1027) (Int.toNat (1 : Int)) r1064) (List.replicate (Int.toNat (2 : Int) - Int.toNat (2 : Int)) ([] : List Int))] ∧ x1123 = x1125) E rfl rfl Try.func39 rfl rfl rfl ?_ ?_
      ·
       clear E hP; have hP := h1124; clear h1124; rw [law23_AttractTells_f5] at hP
       refine enterV (n := 22) Try.func39 rfl rfl rfl ?_
       intro a E
       replace E := E.pick [(0, .slice A102 (List.length r93.1) c103)] ⟨rfl, trivial⟩
       refine wp_seq ?_
       refine wp_region_lit ?_
       refine vn tbok 3 [] [(4, .slice A102 (List.length r93.1) c103), (6, .int .i64 ((c103 : Nat) : Int))] [] E (by kernel_rfl) (by kernel_rfl) trivial ?_
       clear E; intro a E
       refine vn tbok 1 [] [(7, .slice A102 (Int.toNat ((c103 : Nat) : Int)) c103)] [0 ≤ ((c103 : Nat) : Int) ∧ ((c103 : Nat) : Int) ≤ ((c103 : Nat) : Int)] E (by kernel_rfl) (by kernel_rfl) (cut_all _) ?_
       clear E; intro a E
       have hk1126 : c103 = List.length r93.1 := (H.rcapE 10 rfl).trans (congrArg List.length (List.append_nil _))
       replace E := E.same (t := 7) (u := .slice A102 (List.length (r93.1)) c103) rfl (congrArg (fun n_ => Value.slice A102 n_ c103) hk1126)
       refine vn tbok 1 [] [(2, .slice A102 (List.length (r93.1)) c103)] [] E (by kernel_rfl) (by kernel_rfl) trivial ?_
       clear E; intro a E
       refine wpList_nil ?_
       refine th_n ?_
       refine wp_seq ?_
       refine wp_region_lit ?_
       refine vn tbok 1 [] [(3, .int .i64 0)] [] E (by kernel_rfl) (by kernel_rfl) trivial ?_
       clear E; intro a E
       refine wpList_nil ?_
       refine th_n ?_
       refine wp_block ?_
       obtain ⟨x1149, hL1150, hK1151⟩ := bind_inv hP
       clear hP
       refine loop_cut (fun i_ a w_ => (i_ = 0 ∧ ∃ (x1154 : List Int), Fr a 22 [] ∧ Hp S Fa w0 w_ [.rowx true (cInt .i64) 3 A102 c103 x1154 [], .rowx true (cInt .i64) 3 A114 c115 r105.1 [], .box g683 23 [.slice A102 (List.length x1154) c103, .slice A114 (List.length r105.1) c115], .rowx true (cSl (cInt .i64)) 23 (some ⟨g1021, 0, none⟩) (Int.toNat (2 : Int)) (List.set (List.set (List.replicate (Int.toNat (2 : Int)) ([] : List Int)) (Int.toNat (0 : Int)) r1027) (Int.toNat (1 : Int)) r1064) (List.replicate (Int.toNat (2 : Int) - Int.toNat (2 : Int)) ([] : List Int))] ∧ x1149 = x1154)) ?_ ?_
       ·
        refine loopV (fun m1153 a w1152 => ∃ (all1136 : List Int) (i1137 : Int), Fr a 22 [(2, .slice A102 (List.length all1136) c103), (3, .int .i64 i1137)] ∧ Hp S Fa w0 w1152 [.rowx true (cInt .i64) 3 A102 c103 all1136 [], .rowx true (cInt .i64) 3 A114 c115 r105.1 [], .box g683 23 [.slice A102 (List.length all1136) c103, .slice A114 (List.length r105.1) c115], .rowx true (cSl (cInt .i64)) 23 (some ⟨g1021, 0, none⟩) (Int.toNat (2 : Int)) (List.set (List.set (List.replicate (Int.toNat (2 : Int)) ([] : List Int)) (Int.toNat (0 : Int)) r1027) (Int.toNat (1 : Int)) r1064) (List.replicate (Int.toNat (2 : Int) - Int.toNat (2 : Int)) ([] : List Int))] ∧ law23_AttractTells_l6 N m1153 all1136 i1137 = some x1149) N ?_ ?_
        ·
         exact ⟨r93.1, 0, E.pick _ ⟨rfl, rfl, trivial⟩, H.sel [10, 11, 12, 13] rfl, hL1150⟩
        clear E H hL1150; intro m1153 a w1152 hI_
        obtain ⟨all1136, i1137, E, H, hP⟩ := hI_
        obtain ⟨m1148, rfl⟩ : ∃ q_, m1153 = q_ + 1 := by cases m1153 with | zero => rw [law23_AttractTells_l6] at hP; cases hP | succ q_ => exact ⟨q_, rfl⟩
        rw [law23_AttractTells_l6] at hP
        refine wp_seq ?_
        refine wp_seq ?_
        refine wp_region_lit ?_
        refine vn tbok 4 [] [(11, .bool (decide (i1137 < (((List.length all1136) : Nat) : Int))))] [] E (by kernel_rfl) (by kernel_rfl) trivial ?_
        clear E; intro a E
        refine wpList_nil ?_
        refine th_n ?_
        refine E.cases (t := 11) rfl (fun hb_ E_ => ?_) (fun hb_ E_ => ?_)
        ·
         replace E := E_; clear E_
         have h1155 : i1137 < (((List.length all1136) : Nat) : Int) := of_decide_eq_true hb_
         clear hb_; replace hP := ite_t h1155 hP
         refine c_true E rfl ?_
         refine wp_skip ?_
         refine th_n ?_
         refine wp_seq ?_
         refine wp_block ?_
         refine wp_region_lit ?_
         obtain ⟨g1156, hP⟩ := ask_inv hP
         obtain ⟨b1157, e_b1157⟩ := H.raddrx 0 rfl (idx_pos g1156)
         subst e_b1157
         refine vn tbok 8 [.int .i64 (List.getD all1136 (Int.toNat i1137) 0), .int .i64 (xorV .i64 (List.getD all1136 (Int.toNat i1137) 0) 21845)] [(20, .int .i64 (xorV .i64 (List.getD all1136 (Int.toNat i1137) 0) 21845)), (21, .pointer (some ⟨b1157, 0 + (Int.toNat i1137) * 1, none⟩))] [0 ≤ i1137 ∧ i1137 < (((List.length all1136) : Nat) : Int), World.cell? w1152 ⟨b1157, 0 + (Int.toNat i1137) * 1, none⟩ = some (.int .i64 (List.getD all1136 (Int.toNat i1137) 0)), IntKind.i64.wrap (BitVec.ofInt (IntKind.bits .i64) (List.getD all1136 (Int.toNat i1137) 0) ^^^ BitVec.ofInt (IntKind.bits .i64) 21845).toNat = xorV .i64 (List.getD all1136 (Int.toNat i1137) 0) 21845, 0 ≤ i1137 ∧ i1137 < (((List.length all1136) : Nat) : Int)] E (by kernel_rfl) (by kernel_rfl) ⟨g1156, Rds.at1 (H.rd 0 rds_rowx) 0 g1156, rfl, g1156⟩ ?_
         clear E; intro a E
         refine h_setx (g := b1157) (i := i1137) (xorV .i64 (List.getD all1136 (Int.toNat i1137) 0) 21845) H 0 rfl E rfl rfl rfl rfl tbok rfl (fun _ HF_ => rfl) rfl g1156 rfl ?_
         clear E; intro w1159 a hc1160 H_ E
         replace H := H_; clear H_; try dsimp only [setn, addE, goneL] at H
         have hn1161 : (List.length all1136) = (List.length (List.set all1136 (Int.toNat i1137) (xorV .i64 (List.getD all1136 (Int.toNat i1137) 0) 21845))) := by simp only [List.length_set]
         replace E := E.same (t := 2) (u := .slice (some ⟨b1157, 0, none⟩) (List.length (List.set all1136 (Int.toNat i1137) (xorV .i64 (List.getD all1136 (Int.toNat i1137) 0) 21845))) c103) rfl (congrArg (fun n_ => Value.slice (some ⟨b1157, 0, none⟩) n_ c103) hn1161)
         replace H := H.boxEq 2 rfl (by rw [hn1161]); try dsimp only [setn, addE, goneL] at H
         refine wpList_nil ?_
         refine bl_n ?_
         refine th_n ?_
         refine wp_region_lit ?_
         obtain ⟨g1162, hP⟩ := ask_inv hP
         refine vn tbok 3 [.int .i64 (i1137 + 1)] [(3, .int .i64 (i1137 + 1))] [IntKind.i64.wrap (i1137 + 1) = i1137 + 1] E (by kernel_rfl) (by kernel_rfl) (wrap_in g1162) ?_
         clear E; intro a E
         refine wpList_nil ?_
         exact th_n ⟨m1148, Nat.lt_succ_self _, List.set all1136 (Int.toNat i1137) (xorV .i64 (List.getD all1136 (Int.toNat i1137) 0) 21845), i1137 + 1, E.pick _ ⟨rfl, rfl, trivial⟩, H.sel [0, 1, 2, 3] rfl, hP⟩
        replace E := E_; clear E_
        have h1163 : ¬ (i1137 < (((List.length all1136) : Nat) : Int)) := of_decide_eq_false hb_
        clear hb_; replace hP := ite_f h1163 hP
        refine c_false E rfl ?_
        refine wp_exit ?_
        refine th_exit ?_
        have hx_ := Option.some.inj hP
        refine th_exit (.inl ⟨0, rfl, ?_⟩)
        exact ⟨rfl, all1136, E.pick _ trivial, H.sel [0, 1, 2, 3] rfl, hx_.symm⟩
       clear E H hL1150; intro i_ a w1152 hM_
       obtain ⟨rfl, x1154, E, H, hx_⟩ := hM_
       subst hx_; have hP := hK1151; clear hK1151
       refine bl_hit ?_
       have hx_ := Option.some.inj hP
       refine bodyPost_end (v := .tuple #[]) (by simp [results, Try.f39]) E.nodef ?_
       exact ⟨_, rfl, x1149, rfl, H.sel [0, 1, 2, 3] rfl, hx_.symm⟩
      clear H
      rintro v1165 w1164 a ⟨x1125, rfl, H, hx_⟩ E_
      subst hx_
      replace E := E_ _ rfl; clear E_
      refine wpList_nil ?_
      refine th_n ?_
      refine wp_seq ?_
      refine wp_seq ?_
      refine wp_region_lit ?_
      refine vn tbok 1 [] [(6, .int .i64 0)] [] E (by kernel_rfl) (by kernel_rfl) trivial ?_
      clear E; intro a E
      refine wpList_nil ?_
      refine th_n ?_
      refine wp_block ?_
      refine wp_loop_rounds 3 ?_
      refine unr (m := 2) ?_
      refine wp_seq ?_
      refine wp_seq ?_
      refine wp_region_lit ?_
      refine vn tbok 4 [] [(44, .bool true)] [] E (by kernel_rfl) (by kernel_rfl) trivial ?_
      clear E; intro a E
      refine wpList_nil ?_
      refine th_n ?_
      refine c_true E rfl ?_
      refine wp_skip ?_
      refine th_n ?_
      refine wp_seq ?_
      refine wp_block ?_
      refine wp_seq ?_
      have HR1169 := H
      refine dr_start (S := fun w_ => Chg (atL []) w1164 w_) (by kernel_rfl) ?_
      intro w1166 hc1167
      have HS1168 : Chg (atL []) w1164 w1166 := hc1167.mono (fun _ _ h_ => h_.elim)
      replace H := H.ext hc1167
      refine dn tbok (by kernel_rfl) [0, 1, 2, 3, 4, 5, 6, 7, 8, 9, 10, 11, 12, 13, 14, 15, 16, 17, 18, 19, 20] [] [(67, .bool false)] (fun w_ => []) 0 E (fun _ _ => by kernel_rfl) (by kernel_rfl) (fun w_ hS_ => trivial) (by kernel_rfl) HS1168 ?_
      clear E; intro a E
      refine dr_done (by kernel_rfl) ?_
      clear HS1168 HR1169
      refine th_n ?_
      refine c_false E rfl ?_
      refine wp_skip ?_
      refine bl_n ?_
      refine th_n ?_
      refine wp_region_lit ?_
      refine vn tbok 3 [.int .i64 1] [(6, .int .i64 1)] [IntKind.i64.wrap (0 + 1) = 1] E (by kernel_rfl) (by kernel_rfl) ((show _ = _ from by decide)) ?_
      clear E; intro a E
      refine wpList_nil ?_
      refine th_n ?_
      refine unr (m := 1) ?_
      refine wp_seq ?_
      refine wp_seq ?_
      refine wp_region_lit ?_
      refine vn tbok 4 [] [(44, .bool true)] [] E (by kernel_rfl) (by kernel_rfl) trivial ?_
      clear E; intro a E
      refine wpList_nil ?_
      refine th_n ?_
      refine c_true E rfl ?_
      refine wp_skip ?_
      refine th_n ?_
      refine wp_seq ?_
      refine wp_block ?_
      refine wp_seq ?_
      obtain ⟨g1171, hP⟩ := ask_inv hP
      obtain ⟨A1172, c1173, hl1174, hk1175, H⟩ := H.subSl 3 true (el_rowx rfl) g1171
      try dsimp only [addE] at H
      obtain ⟨r1177, h1178, hP⟩ := bind_inv hP
      have HR1189 := H
      refine dr_start (S := fun w_ => Chg (atL []) w1166 w_) (by kernel_rfl) ?_
      intro w1186 hc1187
      have HS1188 : Chg (atL []) w1166 w1186 := hc1187.mono (fun _ _ h_ => h_.elim)
      replace H := H.ext hc1187
      refine dn tbok (by kernel_rfl) [0, 1, 2, 3, 4, 5, 6, 7, 8, 9, 10, 11, 12, 14, 15, 16, 17] [.slice A114 (List.length r105.1) c115, .slice A114 (List.length r105.1) c115, .slice A1172 (List.length (List.getD (List.set (List.set (List.replicate (Int.toNat (2 : Int)) ([] : List Int)) (Int.toNat (0 : Int)) r1027) (Int.toNat (1 : Int)) r1064) (Int.toNat (1 : Int)) [])) c1173] [(50, .bool true), (54, .slice A114 (List.length r105.1) c115), (59, .int .i64 ((c115 : Nat) : Int)), (64, .slice A1172 (List.length (List.getD (List.set (List.set (List.replicate (Int.toNat (2 : Int)) ([] : List Int)) (Int.toNat (0 : Int)) r1027) (Int.toNat (1 : Int)) r1064) (Int.toNat (1 : Int)) [])) c1173)] (fun w_ => [0 ≤ (1 : Int) ∧ (1 : Int) < ((2 : Nat) : Int), World.cell? w_ ⟨g683, 1, none⟩ = some (.slice A114 (List.length r105.1) c115), 0 ≤ (1 : Int) ∧ (1 : Int) < ((2 : Nat) : Int), World.cell? w_ ⟨g683, 1, none⟩ = some (.slice A114 (List.length r105.1) c115), 0 ≤ (1 : Int) ∧ (1 : Int) < (((List.length (List.set (List.set (List.replicate (Int.toNat (2 : Int)) ([] : List Int)) (Int.toNat (0 : Int)) r1027) (Int.toNat (1 : Int)) r1064)) : Nat) : Int), World.cell? w_ ⟨g1021, 0 + (Int.toNat (1 : Int)) * 1, none⟩ = some (.slice A1172 (List.length (List.getD (List.set (List.set (List.replicate (Int.toNat (2 : Int)) ([] : List Int)) (Int.toNat (0 : Int)) r1027) (Int.toNat (1 : Int)) r1064) (Int.toNat (1 : Int)) [])) c1173)]) 4 E (fun _ _ => by kernel_rfl) (by kernel_rfl) (fun w_ hS_ => ⟨⟨by decide, by decide⟩, (HR1189.boxk [] hS_ 2 rfl rfl).cell (j := 1) rfl, ⟨by decide, by decide⟩, (HR1189.boxk [] hS_ 2 rfl rfl).cell (j := 1) rfl, g1171, hS_.cell (hl1174) (HR1189.blk [] 3 rds_rowx (idx_pos g1171) rfl)⟩) (by kernel_rfl) HS1188 ?_
      clear E; intro a E
      refine wpAnyH_all (rs := [13]) (by kernel_rfl) (by simp) ?_
      refine all1 ?_
      refine wpOp_of_list rfl ?_
      refine vn tbok 1 [] [(60, .slice A114 (Int.toNat ((c115 : Nat) : Int)) c115)] [0 ≤ ((c115 : Nat) : Int) ∧ ((c115 : Nat) : Int) ≤ ((c115 : Nat) : Int)] E (by kernel_rfl) (by kernel_rfl) (cut_all _) ?_
      clear E; intro a E
      have hk1190 : c115 = List.length r105.1 := (H.rcapE 1 rfl).trans (congrArg List.length (List.append_nil _))
      replace E := E.same (t := 60) (u := .slice A114 (List.length (r105.1)) c115) rfl (congrArg (fun n_ => Value.slice A114 n_ c115) hk1190)
      refine wpList_nil ?_
      refine th_n ⟨HS1188, ?_⟩
      refine wpAnyH_all (rs := [18]) (by kernel_rfl) (by simp) ?_
      refine all1 ?_
      refine wpOp_of_list rfl ?_
      obtain ⟨Fa1191, Hc1192, hb1193⟩ := H.call [] [(1, false), (4, false)] rfl rfl trivial
      refine e_call E rfl rfl Try.func22 rfl rfl rfl (kit_SameInts_calls A114 c115 A1172 c1173 r105.1 (List.getD (List.set (List.set (List.replicate (Int.toNat (2 : Int)) ([] : List Int)) (Int.toNat (0 : Int)) r1027) (Int.toNat (1 : Int)) r1064) (Int.toNat (1 : Int)) []) (H.rcapx 1 rfl) hk1175 Hc1192 h1178) ?_
      rintro v1194 w1195 a ⟨rfl, HR1196⟩ E_
      replace E := E_ _ rfl; clear E_
      obtain ⟨H_, hc1197⟩ := hb1193 _ _ HR1196 rfl
      replace HS1188 := HS1188.ext (callS_ext hc1197)
      replace H := H_; clear H_; try dsimp only [setn, addE, goneL] at H
      refine wpList_nil ?_
      refine th_n ⟨HS1188, ?_⟩
      refine dn tbok (by kernel_rfl) [19, 20] [] [(67, .bool (!r1177))] (fun w_ => []) 0 E (fun _ _ => by kernel_rfl) (by kernel_rfl) (fun w_ hS_ => trivial) (by kernel_rfl) HS1188 ?_
      clear E; intro a E
      refine dr_done (by kernel_rfl) ?_
      clear HS1188 HR1189
      refine th_n ?_
      refine E.cases (t := 67) rfl (fun hb_ E_ => ?_) (fun hb_ E_ => ?_)
      ·
       replace E := E_; clear E_
       have h1198 : ¬ (r1177 = true) := (ne_true_of_eq_false (not_t hb_))
       clear hb_; replace hP := ite_f h1198 hP
       refine c_true E rfl ?_
       refine wp_seq ?_
       refine wp_region_lit ?_
       refine vn tbok 1 [] [(2, .bool false)] [] E (by kernel_rfl) (by kernel_rfl) trivial ?_
       clear E; intro a E
       refine wpList_nil ?_
       refine th_n ?_
       refine wp_ret ?_
       refine bl_ret ?_
       refine th_ret ?_
       refine th_ret ?_
       refine bl_ret ?_
       refine th_ret ?_
       refine bl_ret ?_
       refine th_ret ?_
       refine th_ret ?_
       refine bl_ret ?_
       refine th_ret ?_
       have hx_ := Option.some.inj hP
       refine ret1 E rfl rfl ?_
       exact ⟨_, rfl, (false, x1123, r105.1), rfl, H.sel [0, 1, 2] rfl, hx_.symm⟩
      replace E := E_; clear E_
      have h1199 : r1177 = true := (not_f hb_)
      clear hb_; replace hP := ite_t h1199 hP
      refine c_false E rfl ?_
      refine wp_skip ?_
      refine bl_n ?_
      refine th_n ?_
      refine wp_region_lit ?_
      refine vn tbok 3 [.int .i64 2] [(6, .int .i64 2)] [IntKind.i64.wrap (1 + 1) = 2] E (by kernel_rfl) (by kernel_rfl) ((show _ = _ from by decide)) ?_
      clear E; intro a E
      refine wpList_nil ?_
      refine th_n ?_
      refine unr (m := 0) ?_
      refine wp_seq ?_
      refine wp_seq ?_
      refine wp_region_lit ?_
      refine vn tbok 4 [] [(44, .bool false)] [] E (by kernel_rfl) (by kernel_rfl) trivial ?_
      clear E; intro a E
      refine wpList_nil ?_
      refine th_n ?_
      refine c_false E rfl ?_
      refine wp_exit ?_
      refine th_exit ?_
      refine th_exit ?_
      refine bl_hit ?_
      refine th_n ?_
      refine wp_region_lit ?_
      refine vn tbok 4 [.slice A102 (List.length x1123) c103] [(71, .slice A102 (List.length x1123) c103)] [0 ≤ (0 : Int) ∧ (0 : Int) < ((2 : Nat) : Int), World.cell? w1195 ⟨g683, 0, none⟩ = some (.slice A102 (List.length x1123) c103)] E (by kernel_rfl) (by kernel_rfl) ⟨⟨by decide, by decide⟩, (H.box 2 rfl).cell (j := 0) rfl⟩ ?_
      clear E; intro a E
      obtain ⟨x1223, h1224, hP⟩ := bind_inv hP
      refine e_call (R := fun v_ w_ => ∃ (x1225 : List Int), v_ = .tuple #[] ∧ Hp S Fa w0 w_ [.rowx true (cInt .i64) 3 A102 c103 x1225 [], .rowx true (cInt .i64) 3 A114 c115 r105.1 [], .box g683 23 [.slice A102 (List.length x1225) c103, .slice A114 (List.length r105.1) c115]] ∧ x1223 = x1225) E rfl rfl Try.func39 rfl rfl rfl ?_ ?_
      ·
       clear E hP; have hP := h1224; clear h1224; rw [law23_AttractTells_f7] at hP
       refine enterV (n := 22) Try.func39 rfl rfl rfl ?_
       intro a E
       replace E := E.pick [(0, .slice A102 (List.length x1123) c103)] ⟨rfl, trivial⟩
       refine wp_seq ?_
       refine wp_region_lit ?_
       refine vn tbok 3 [] [(4, .slice A102 (List.length x1123) c103), (6, .int .i64 ((c103 : Nat) : Int))] [] E (by kernel_rfl) (by kernel_rfl) trivial ?_
       clear E; intro a E
       refine vn tbok 1 [] [(7, .slice A102 (Int.toNat ((c103 : Nat) : Int)) c103)] [0 ≤ ((c103 : Nat) : Int) ∧ ((c103 : Nat) : Int) ≤ ((c103 : Nat) : Int)] E (by kernel_rfl) (by kernel_rfl) (cut_all _) ?_
       clear E; intro a E
       have hk1226 : c103 = List.length x1123 := (H.rcapE 0 rfl).trans (congrArg List.length (List.append_nil _))
       replace E := E.same (t := 7) (u := .slice A102 (List.length (x1123)) c103) rfl (congrArg (fun n_ => Value.slice A102 n_ c103) hk1226)
       refine vn tbok 1 [] [(2, .slice A102 (List.length (x1123)) c103)] [] E (by kernel_rfl) (by kernel_rfl) trivial ?_
       clear E; intro a E
       refine wpList_nil ?_
       refine th_n ?_
       refine wp_seq ?_
       refine wp_region_lit ?_
       refine vn tbok 1 [] [(3, .int .i64 0)] [] E (by kernel_rfl) (by kernel_rfl) trivial ?_
       clear E; intro a E
       refine wpList_nil ?_
       refine th_n ?_
       refine wp_block ?_
       obtain ⟨x1249, hL1250, hK1251⟩ := bind_inv hP
       clear hP
       refine loop_cut (fun i_ a w_ => (i_ = 0 ∧ ∃ (x1254 : List Int), Fr a 22 [] ∧ Hp S Fa w0 w_ [.rowx true (cInt .i64) 3 A102 c103 x1254 [], .rowx true (cInt .i64) 3 A114 c115 r105.1 [], .box g683 23 [.slice A102 (List.length x1254) c103, .slice A114 (List.length r105.1) c115]] ∧ x1249 = x1254)) ?_ ?_
       ·
        refine loopV (fun m1253 a w1252 => ∃ (all1236 : List Int) (i1237 : Int), Fr a 22 [(2, .slice A102 (List.length all1236) c103), (3, .int .i64 i1237)] ∧ Hp S Fa w0 w1252 [.rowx true (cInt .i64) 3 A102 c103 all1236 [], .rowx true (cInt .i64) 3 A114 c115 r105.1 [], .box g683 23 [.slice A102 (List.length all1236) c103, .slice A114 (List.length r105.1) c115]] ∧ law23_AttractTells_l8 N m1253 all1236 i1237 = some x1249) N ?_ ?_
        ·
         exact ⟨x1123, 0, E.pick _ ⟨rfl, rfl, trivial⟩, H.sel [0, 1, 2] rfl, hL1250⟩
        clear E H hL1250; intro m1253 a w1252 hI_
        obtain ⟨all1236, i1237, E, H, hP⟩ := hI_
        obtain ⟨m1248, rfl⟩ : ∃ q_, m1253 = q_ + 1 := by cases m1253 with | zero => rw [law23_AttractTells_l8] at hP; cases hP | succ q_ => exact ⟨q_, rfl⟩
        rw [law23_AttractTells_l8] at hP
        refine wp_seq ?_
        refine wp_seq ?_
        refine wp_region_lit ?_
        refine vn tbok 4 [] [(11, .bool (decide (i1237 < (((List.length all1236) : Nat) : Int))))] [] E (by kernel_rfl) (by kernel_rfl) trivial ?_
        clear E; intro a E
        refine wpList_nil ?_
        refine th_n ?_
        refine E.cases (t := 11) rfl (fun hb_ E_ => ?_) (fun hb_ E_ => ?_)
        ·
         replace E := E_; clear E_
         have h1255 : i1237 < (((List.length all1236) : Nat) : Int) := of_decide_eq_true hb_
         clear hb_; replace hP := ite_t h1255 hP
         refine c_true E rfl ?_
         refine wp_skip ?_
         refine th_n ?_
         refine wp_seq ?_
         refine wp_block ?_
         refine wp_region_lit ?_
         obtain ⟨g1256, hP⟩ := ask_inv hP
         obtain ⟨b1257, e_b1257⟩ := H.raddrx 0 rfl (idx_pos g1256)
         subst e_b1257
         refine vn tbok 8 [.int .i64 (List.getD all1236 (Int.toNat i1237) 0), .int .i64 (xorV .i64 (List.getD all1236 (Int.toNat i1237) 0) 21845)] [(20, .int .i64 (xorV .i64 (List.getD all1236 (Int.toNat i1237) 0) 21845)), (21, .pointer (some ⟨b1257, 0 + (Int.toNat i1237) * 1, none⟩))] [0 ≤ i1237 ∧ i1237 < (((List.length all1236) : Nat) : Int), World.cell? w1252 ⟨b1257, 0 + (Int.toNat i1237) * 1, none⟩ = some (.int .i64 (List.getD all1236 (Int.toNat i1237) 0)), IntKind.i64.wrap (BitVec.ofInt (IntKind.bits .i64) (List.getD all1236 (Int.toNat i1237) 0) ^^^ BitVec.ofInt (IntKind.bits .i64) 21845).toNat = xorV .i64 (List.getD all1236 (Int.toNat i1237) 0) 21845, 0 ≤ i1237 ∧ i1237 < (((List.length all1236) : Nat) : Int)] E (by kernel_rfl) (by kernel_rfl) ⟨g1256, Rds.at1 (H.rd 0 rds_rowx) 0 g1256, rfl, g1256⟩ ?_
         clear E; intro a E
         refine h_setx (g := b1257) (i := i1237) (xorV .i64 (List.getD all1236 (Int.toNat i1237) 0) 21845) H 0 rfl E rfl rfl rfl rfl tbok rfl (fun _ HF_ => rfl) rfl g1256 rfl ?_
         clear E; intro w1259 a hc1260 H_ E
         replace H := H_; clear H_; try dsimp only [setn, addE, goneL] at H
         have hn1261 : (List.length all1236) = (List.length (List.set all1236 (Int.toNat i1237) (xorV .i64 (List.getD all1236 (Int.toNat i1237) 0) 21845))) := by simp only [List.length_set]
         replace E := E.same (t := 2) (u := .slice (some ⟨b1257, 0, none⟩) (List.length (List.set all1236 (Int.toNat i1237) (xorV .i64 (List.getD all1236 (Int.toNat i1237) 0) 21845))) c103) rfl (congrArg (fun n_ => Value.slice (some ⟨b1257, 0, none⟩) n_ c103) hn1261)
         replace H := H.boxEq 2 rfl (by rw [hn1261]); try dsimp only [setn, addE, goneL] at H
         refine wpList_nil ?_
         refine bl_n ?_
         refine th_n ?_
         refine wp_region_lit ?_
         obtain ⟨g1262, hP⟩ := ask_inv hP
         refine vn tbok 3 [.int .i64 (i1237 + 1)] [(3, .int .i64 (i1237 + 1))] [IntKind.i64.wrap (i1237 + 1) = i1237 + 1] E (by kernel_rfl) (by kernel_rfl) (wrap_in g1262) ?_
         clear E; intro a E
         refine wpList_nil ?_
         exact th_n ⟨m1248, Nat.lt_succ_self _, List.set all1236 (Int.toNat i1237) (xorV .i64 (List.getD all1236 (Int.toNat i1237) 0) 21845), i1237 + 1, E.pick _ ⟨rfl, rfl, trivial⟩, H.sel [0, 1, 2] rfl, hP⟩
        replace E := E_; clear E_
        have h1263 : ¬ (i1237 < (((List.length all1236) : Nat) : Int)) := of_decide_eq_false hb_
        clear hb_; replace hP := ite_f h1263 hP
        refine c_false E rfl ?_
        refine wp_exit ?_
        refine th_exit ?_
        have hx_ := Option.some.inj hP
        refine th_exit (.inl ⟨0, rfl, ?_⟩)
        exact ⟨rfl, all1236, E.pick _ trivial, H.sel [0, 1, 2] rfl, hx_.symm⟩
       clear E H hL1250; intro i_ a w1252 hM_
       obtain ⟨rfl, x1254, E, H, hx_⟩ := hM_
       subst hx_; have hP := hK1251; clear hK1251
       refine bl_hit ?_
       have hx_ := Option.some.inj hP
       refine bodyPost_end (v := .tuple #[]) (by simp [results, Try.f39]) E.nodef ?_
       exact ⟨_, rfl, x1249, rfl, H.sel [0, 1, 2] rfl, hx_.symm⟩
      clear H
      rintro v1265 w1264 a ⟨x1225, rfl, H, hx_⟩ E_
      subst hx_
      replace E := E_ _ rfl; clear E_
      refine wpList_nil ?_
      refine bl_n ?_
      refine th_n ?_
      refine wp_region_lit ?_
      refine vn tbok 3 [.int .i64 1] [(3, .int .i64 1)] [IntKind.i64.wrap (0 + 1) = 1] E (by kernel_rfl) (by kernel_rfl) ((show _ = _ from by decide)) ?_
      clear E; intro a E
      refine wpList_nil ?_
      refine th_n ?_
      refine unr (m := 1) ?_
      refine wp_seq ?_
      refine wp_seq ?_
      refine wp_region_lit ?_
      refine vn tbok 4 [] [(10, .bool true)] [] E (by kernel_rfl) (by kernel_rfl) trivial ?_
      clear E; intro a E
      refine wpList_nil ?_
      refine th_n ?_
      refine c_true E rfl ?_
      refine wp_skip ?_
      refine th_n ?_
      refine wp_seq ?_
      refine wp_block ?_
      refine wp_seq ?_
      refine wp_region_lit ?_
      refine vn tbok 2 [] [(14, .int .i64 2)] [] E (by kernel_rfl) (by kernel_rfl) trivial ?_
      clear E; intro a E
      refine h_make (cSl (cInt .i64)) ([] : List Int) H E rfl rfl tbok rfl rfl rfl rfl ⟨g1020.1, Int.le_refl _, g1020.2⟩ rfl rfl rfl (fun _ _ => kSl_nil) ?_
      intro w1267 g1266 a hc1268 hg1270 H_ E_
      replace E := E_ _ rfl; clear E_
      replace H := H_; clear H_; try dsimp only [setn, addE, goneL] at H
      refine vn tbok 1 [] [(4, .slice (some ⟨g1266, 0, none⟩) (List.length (List.replicate (Int.toNat (2 : Int)) ([] : List Int))) (Int.toNat (2 : Int)))] [] E (by kernel_rfl) (by kernel_rfl) trivial ?_
      clear E; intro a E
      refine wpList_nil ?_
      refine th_n ?_
      refine wp_seq ?_
      refine wp_seq ?_
      refine wp_region_lit ?_
      refine vn tbok 1 [] [(5, .int .i64 0)] [] E (by kernel_rfl) (by kernel_rfl) trivial ?_
      clear E; intro a E
      refine wpList_nil ?_
      refine th_n ?_
      refine wp_block ?_
      refine wp_loop_rounds 3 ?_
      refine unr (m := 2) ?_
      refine wp_seq ?_
      refine wp_seq ?_
      refine wp_region_lit ?_
      refine vn tbok 4 [] [(19, .bool true)] [] E (by kernel_rfl) (by kernel_rfl) trivial ?_
      clear E; intro a E
      refine wpList_nil ?_
      refine th_n ?_
      refine c_true E rfl ?_
      refine wp_skip ?_
      refine th_n ?_
      refine wp_seq ?_
      refine wp_block ?_
      obtain ⟨r1272, h1273, hP⟩ := bind_inv hP
      have HR1291 := H
      refine dr_start (S := fun w_ => Chg (atL [.rowx true (cSl (cInt .i64)) 23 (some ⟨g1266, 0, none⟩) (Int.toNat (2 : Int)) (List.replicate (Int.toNat (2 : Int)) ([] : List Int)) (List.replicate (Int.toNat (2 : Int) - Int.toNat (2 : Int)) ([] : List Int))]) w1267 w_) (by kernel_rfl) ?_
      intro w1288 hc1289
      have HS1290 : Chg (atL [.rowx true (cSl (cInt .i64)) 23 (some ⟨g1266, 0, none⟩) (Int.toNat (2 : Int)) (List.replicate (Int.toNat (2 : Int)) ([] : List Int)) (List.replicate (Int.toNat (2 : Int) - Int.toNat (2 : Int)) ([] : List Int))]) w1267 w1288 := hc1289.mono (fun _ _ h_ => h_.elim)
      replace H := H.ext hc1289
      refine dn tbok (by kernel_rfl) [0, 1, 2, 3, 4, 5, 6, 7, 8, 9, 10] [.slice A102 (List.length x1223) c103, .slice A102 (List.length x1223) c103] [(22, .slice (some ⟨g1266, 0, none⟩) (List.length (List.replicate (Int.toNat (2 : Int)) ([] : List Int))) (Int.toNat (2 : Int))), (23, .int .i64 0), (27, .slice A102 (List.length x1223) c103), (32, .int .i64 ((c103 : Nat) : Int))] (fun w_ => [0 ≤ (0 : Int) ∧ (0 : Int) < ((2 : Nat) : Int), World.cell? w_ ⟨g683, 0, none⟩ = some (.slice A102 (List.length x1223) c103), 0 ≤ (0 : Int) ∧ (0 : Int) < ((2 : Nat) : Int), World.cell? w_ ⟨g683, 0, none⟩ = some (.slice A102 (List.length x1223) c103)]) 4 E (fun _ _ => by kernel_rfl) (by kernel_rfl) (fun w_ hS_ => ⟨⟨by decide, by decide⟩, (HR1291.boxk [3] hS_ 2 rfl rfl).cell (j := 0) rfl, ⟨by decide, by decide⟩, (HR1291.boxk [3] hS_ 2 rfl rfl).cell (j := 0) rfl⟩) (by kernel_rfl) HS1290 ?_
      clear E; intro a E
      refine wpAnyH_all (rs := [11]) (by kernel_rfl) (by simp) ?_
      refine all1 ?_
      refine wpOp_of_list rfl ?_
      refine vn tbok 1 [] [(33, .slice A102 (Int.toNat ((c103 : Nat) : Int)) c103)] [0 ≤ ((c103 : Nat) : Int) ∧ ((c103 : Nat) : Int) ≤ ((c103 : Nat) : Int)] E (by kernel_rfl) (by kernel_rfl) (cut_all _) ?_
      clear E; intro a E
      have hk1292 : c103 = List.length x1223 := (H.rcapE 0 rfl).trans (congrArg List.length (List.append_nil _))
      replace E := E.same (t := 33) (u := .slice A102 (List.length (x1223)) c103) rfl (congrArg (fun n_ => Value.slice A102 n_ c103) hk1292)
      refine wpList_nil ?_
      refine th_n ⟨HS1290, ?_⟩
      refine wpAnyH_all (rs := [12]) (by kernel_rfl) (by simp) ?_
      refine all1 ?_
      refine wpOp_of_list rfl ?_
      obtain ⟨Fa1293, Hc1294, hb1295⟩ := H.call [] [(0, false)] rfl rfl trivial
      refine e_call E rfl rfl Try.func38 rfl rfl rfl (kit_CopyInts_calls A102 c103 x1223 (H.rcapx 0 rfl) Hc1294 h1273) ?_
      rintro v1296 w1297 a ⟨A1300, c1301, rfl, HR1298⟩ E_
      replace E := E_ _ rfl; clear E_
      obtain ⟨H_, hc1299⟩ := hb1295 _ _ HR1298 rfl
      replace HS1290 := HS1290.ext (callS_ext hc1299)
      replace H := H_; clear H_; try dsimp only [setn, addE, goneL] at H
      refine wpList_nil ?_
      refine th_n ⟨HS1290, ?_⟩
      refine wpAnyH_all (rs := [13]) (by kernel_rfl) (by simp) ?_
      refine all1 ?_
      refine wpOp_of_list rfl ?_
      refine vn tbok 1 [] [(35, .pointer (some ⟨g1266, 0 + (Int.toNat (0 : Int)) * 1, none⟩))] [0 ≤ (0 : Int) ∧ (0 : Int) < (((List.length (List.replicate (Int.toNat (2 : Int)) ([] : List Int))) : Nat) : Int)] E (by kernel_rfl) (by kernel_rfl) (g1039) ?_
      clear E; intro a E
      refine wpList_nil ?_
      refine th_n ⟨HS1290, ?_⟩
      refine wpAnyH_all (rs := [14]) (by kernel_rfl) (by simp) ?_
      refine all1 ?_
      refine wpOp_of_list rfl ?_
      have hk1303 := H.rcap 4 rfl
      replace H := H.frz 4 rfl; try dsimp only [setn, addE, goneL] at H
      refine h_setx (g := g1266) (i := (0 : Int)) r1272 H 3 rfl E rfl rfl rfl rfl tbok rfl (fun _ HF_ => ⟨_, _, rfl, hk1303, (HF_.roC 4 rfl)⟩) rfl g1039 rfl ?_
      clear E; intro w1304 a hc1305 H_ E
      replace HS1290 := HS1290.trans hc1305 (fun k_ hk_ h_ => (fun _ _ h_ => Or.inl h_) k_ hk_ h_)
      replace H := H_; clear H_; try dsimp only [setn, addE, goneL] at H
      have hn1306 : (List.length (List.replicate (Int.toNat (2 : Int)) ([] : List Int))) = (List.length (List.set (List.replicate (Int.toNat (2 : Int)) ([] : List Int)) (Int.toNat (0 : Int)) r1272)) := by simp only [List.length_set]
      replace E := E.same (t := 4) (u := .slice (some ⟨g1266, 0, none⟩) (List.length (List.set (List.replicate (Int.toNat (2 : Int)) ([] : List Int)) (Int.toNat (0 : Int)) r1272)) (Int.toNat (2 : Int))) rfl (congrArg (fun n_ => Value.slice (some ⟨g1266, 0, none⟩) n_ (Int.toNat (2 : Int))) hn1306)
      replace E := E.same (t := 22) (u := .slice (some ⟨g1266, 0, none⟩) (List.length (List.set (List.replicate (Int.toNat (2 : Int)) ([] : List Int)) (Int.toNat (0 : Int)) r1272)) (Int.toNat (2 : Int))) rfl (congrArg (fun n_ => Value.slice (some ⟨g1266, 0, none⟩) n_ (Int.toNat (2 : Int))) hn1306)
      refine wpList_nil ?_
      refine th_n ⟨HS1290, ?_⟩
      refine dr_done (by kernel_rfl) ?_
      clear HS1290 HR1291
      refine bl_n ?_
      refine th_n ?_
      refine wp_region_lit ?_
      refine vn tbok 3 [.int .i64 1] [(5, .int .i64 1)] [IntKind.i64.wrap (0 + 1) = 1] E (by kernel_rfl) (by kernel_rfl) ((show _ = _ from by decide)) ?_
      clear E; intro a E
      refine wpList_nil ?_
      refine th_n ?_
      refine unr (m := 1) ?_
      refine wp_seq ?_
      refine wp_seq ?_
      refine wp_region_lit ?_
      refine vn tbok 4 [] [(19, .bool true)] [] E (by kernel_rfl) (by kernel_rfl) trivial ?_
      clear E; intro a E
      refine wpList_nil ?_
      refine th_n ?_
      refine c_true E rfl ?_
      refine wp_skip ?_
      refine th_n ?_
      refine wp_seq ?_
      refine wp_block ?_
      obtain ⟨r1308, h1309, hP⟩ := bind_inv hP
      obtain ⟨g1320, hP⟩ := ask_inv hP
      have HR1328 := H
      refine dr_start (S := fun w_ => Chg (atL [.rowx true (cSl (cInt .i64)) 23 (some ⟨g1266, 0, none⟩) (Int.toNat (2 : Int)) (List.set (List.replicate (Int.toNat (2 : Int)) ([] : List Int)) (Int.toNat (0 : Int)) r1272) (List.replicate (Int.toNat (2 : Int) - Int.toNat (2 : Int)) ([] : List Int))]) w1304 w_) (by kernel_rfl) ?_
      intro w1325 hc1326
      have HS1327 : Chg (atL [.rowx true (cSl (cInt .i64)) 23 (some ⟨g1266, 0, none⟩) (Int.toNat (2 : Int)) (List.set (List.replicate (Int.toNat (2 : Int)) ([] : List Int)) (Int.toNat (0 : Int)) r1272) (List.replicate (Int.toNat (2 : Int) - Int.toNat (2 : Int)) ([] : List Int))]) w1304 w1325 := hc1326.mono (fun _ _ h_ => h_.elim)
      replace H := H.ext hc1326
      refine dn tbok (by kernel_rfl) [0, 1, 2, 3, 4, 5, 6, 7, 8, 9, 10] [.slice A114 (List.length r105.1) c115, .slice A114 (List.length r105.1) c115] [(22, .slice (some ⟨g1266, 0, none⟩) (List.length (List.set (List.replicate (Int.toNat (2 : Int)) ([] : List Int)) (Int.toNat (0 : Int)) r1272)) (Int.toNat (2 : Int))), (23, .int .i64 1), (27, .slice A114 (List.length r105.1) c115), (32, .int .i64 ((c115 : Nat) : Int))] (fun w_ => [0 ≤ (1 : Int) ∧ (1 : Int) < ((2 : Nat) : Int), World.cell? w_ ⟨g683, 1, none⟩ = some (.slice A114 (List.length r105.1) c115), 0 ≤ (1 : Int) ∧ (1 : Int) < ((2 : Nat) : Int), World.cell? w_ ⟨g683, 1, none⟩ = some (.slice A114 (List.length r105.1) c115)]) 4 E (fun _ _ => by kernel_rfl) (by kernel_rfl) (fun w_ hS_ => ⟨⟨by decide, by decide⟩, (HR1328.boxk [3] hS_ 2 rfl rfl).cell (j := 1) rfl, ⟨by decide, by decide⟩, (HR1328.boxk [3] hS_ 2 rfl rfl).cell (j := 1) rfl⟩) (by kernel_rfl) HS1327 ?_
      clear E; intro a E
      refine wpAnyH_all (rs := [11]) (by kernel_rfl) (by simp) ?_
      refine all1 ?_
      refine wpOp_of_list rfl ?_
      refine vn tbok 1 [] [(33, .slice A114 (Int.toNat ((c115 : Nat) : Int)) c115)] [0 ≤ ((c115 : Nat) : Int) ∧ ((c115 : Nat) : Int) ≤ ((c115 : Nat) : Int)] E (by kernel_rfl) (by kernel_rfl) (cut_all _) ?_
      clear E; intro a E
      have hk1329 : c115 = List.length r105.1 := (H.rcapE 1 rfl).trans (congrArg List.length (List.append_nil _))
      replace E := E.same (t := 33) (u := .slice A114 (List.length (r105.1)) c115) rfl (congrArg (fun n_ => Value.slice A114 n_ c115) hk1329)
      refine wpList_nil ?_
      refine th_n ⟨HS1327, ?_⟩
      refine wpAnyH_all (rs := [12]) (by kernel_rfl) (by simp) ?_
      refine all1 ?_
      refine wpOp_of_list rfl ?_
      obtain ⟨Fa1330, Hc1331, hb1332⟩ := H.call [] [(1, false)] rfl rfl trivial
      refine e_call E rfl rfl Try.func38 rfl rfl rfl (kit_CopyInts_calls A114 c115 r105.1 (H.rcapx 1 rfl) Hc1331 h1309) ?_
      rintro v1333 w1334 a ⟨A1337, c1338, rfl, HR1335⟩ E_
      replace E := E_ _ rfl; clear E_
      obtain ⟨H_, hc1336⟩ := hb1332 _ _ HR1335 rfl
      replace HS1327 := HS1327.ext (callS_ext hc1336)
      replace H := H_; clear H_; try dsimp only [setn, addE, goneL] at H
      refine wpList_nil ?_
      refine th_n ⟨HS1327, ?_⟩
      refine wpAnyH_all (rs := [13]) (by kernel_rfl) (by simp) ?_
      refine all1 ?_
      refine wpOp_of_list rfl ?_
      refine vn tbok 1 [] [(35, .pointer (some ⟨g1266, 0 + (Int.toNat (1 : Int)) * 1, none⟩))] [0 ≤ (1 : Int) ∧ (1 : Int) < (((List.length (List.set (List.replicate (Int.toNat (2 : Int)) ([] : List Int)) (Int.toNat (0 : Int)) r1272)) : Nat) : Int)] E (by kernel_rfl) (by kernel_rfl) (g1320) ?_
      clear E; intro a E
      refine wpList_nil ?_
      refine th_n ⟨HS1327, ?_⟩
      refine wpAnyH_all (rs := [14]) (by kernel_rfl) (by simp) ?_
      refine all1 ?_
      refine wpOp_of_list rfl ?_
      have hk1340 := H.rcap 5 rfl
      replace H := H.frz 5 rfl; try dsimp only [setn, addE, goneL] at H
      refine h_setx (g := g1266) (i := (1 : Int)) r1308 H 3 rfl E rfl rfl rfl rfl tbok rfl (fun _ HF_ => ⟨_, _, rfl, hk1340, (HF_.roC 5 rfl)⟩) rfl g1320 rfl ?_
      clear E; intro w1341 a hc1342 H_ E
      replace HS1327 := HS1327.trans hc1342 (fun k_ hk_ h_ => (fun _ _ h_ => Or.inl h_) k_ hk_ h_)
      replace H := H_; clear H_; try dsimp only [setn, addE, goneL] at H
      have hn1343 : (List.length (List.set (List.replicate (Int.toNat (2 : Int)) ([] : List Int)) (Int.toNat (0 : Int)) r1272)) = (List.length (List.set (List.set (List.replicate (Int.toNat (2 : Int)) ([] : List Int)) (Int.toNat (0 : Int)) r1272) (Int.toNat (1 : Int)) r1308)) := by simp only [List.length_set]
      replace E := E.same (t := 4) (u := .slice (some ⟨g1266, 0, none⟩) (List.length (List.set (List.set (List.replicate (Int.toNat (2 : Int)) ([] : List Int)) (Int.toNat (0 : Int)) r1272) (Int.toNat (1 : Int)) r1308)) (Int.toNat (2 : Int))) rfl (congrArg (fun n_ => Value.slice (some ⟨g1266, 0, none⟩) n_ (Int.toNat (2 : Int))) hn1343)
      replace E := E.same (t := 22) (u := .slice (some ⟨g1266, 0, none⟩) (List.length (List.set (List.set (List.replicate (Int.toNat (2 : Int)) ([] : List Int)) (Int.toNat (0 : Int)) r1272) (Int.toNat (1 : Int)) r1308)) (Int.toNat (2 : Int))) rfl (congrArg (fun n_ => Value.slice (some ⟨g1266, 0, none⟩) n_ (Int.toNat (2 : Int))) hn1343)
      refine wpList_nil ?_
      refine th_n ⟨HS1327, ?_⟩
      refine dr_done (by kernel_rfl) ?_
      clear HS1327 HR1328
      refine bl_n ?_
      refine th_n ?_
      refine wp_region_lit ?_
      refine vn tbok 3 [.int .i64 2] [(5, .int .i64 2)] [IntKind.i64.wrap (1 + 1) = 2] E (by kernel_rfl) (by kernel_rfl) ((show _ = _ from by decide)) ?_
      clear E; intro a E
      refine wpList_nil ?_
      refine th_n ?_
      refine unr (m := 0) ?_
      refine wp_seq ?_
      refine wp_seq ?_
      refine wp_region_lit ?_
      refine vn tbok 4 [] [(19, .bool false)] [] E (by kernel_rfl) (by kernel_rfl) trivial ?_
      clear E; intro a E
      refine wpList_nil ?_
      refine th_n ?_
      refine c_false E rfl ?_
      refine wp_exit ?_
      refine th_exit ?_
      refine th_exit ?_
      refine bl_hit ?_
      refine th_n ?_
      refine wp_seq ?_
      refine wp_region_lit ?_
      refine vn tbok 4 [.slice A114 (List.length r105.1) c115] [(39, .slice A114 (List.length r105.1) c115)] [0 ≤ (1 : Int) ∧ (1 : Int) < ((2 : Nat) : Int), World.cell? w1341 ⟨g683, 1, none⟩ = some (.slice A114 (List.length r105.1) c115)] E (by kernel_rfl) (by kernel_rfl) ⟨⟨by decide, by decide⟩, (H.box 2 rfl).cell (j := 1) rfl⟩ ?_
      clear E; intro a E
      obtain ⟨x1367, h1368, hP⟩ := bind_inv hP
      refine e_call (R := fun v_ w_ => ∃ (x1369 : List Int), v_ = .tuple #[] ∧ Hp S Fa w0 w_ [.rowx true (cInt .i64) 3 A102 c103 x1223 [], .rowx true (cInt .i64) 3 A114 c115 x1369 [], .box g683 23 [.slice A102 (List.length x1223) c103, .slice A114 (List.length x1369) c115], .rowx true (cSl (cInt .i64)) 23 (some ⟨g1266, 0, none⟩) (Int.toNat (2 : Int)) (List.set (List.set (List.replicate (Int.toNat (2 : Int)) ([] : List Int)) (Int.toNat (0 : Int)) r1272) (Int.toNat (1 : Int)) r1308) (List.replicate (Int.toNat (2 : Int) - Int.toNat (2 : Int)) ([] : List Int))] ∧ x1367 = x1369) E rfl rfl Try.func39 rfl rfl rfl ?_ ?_
      ·
       clear E hP; have hP := h1368; clear h1368; rw [law23_AttractTells_f9] at hP
       refine enterV (n := 22) Try.func39 rfl rfl rfl ?_
       intro a E
       replace E := E.pick [(0, .slice A114 (List.length r105.1) c115)] ⟨rfl, trivial⟩
       refine wp_seq ?_
       refine wp_region_lit ?_
       refine vn tbok 3 [] [(4, .slice A114 (List.length r105.1) c115), (6, .int .i64 ((c115 : Nat) : Int))] [] E (by kernel_rfl) (by kernel_rfl) trivial ?_
       clear E; intro a E
       refine vn tbok 1 [] [(7, .slice A114 (Int.toNat ((c115 : Nat) : Int)) c115)] [0 ≤ ((c115 : Nat) : Int) ∧ ((c115 : Nat) : Int) ≤ ((c115 : Nat) : Int)] E (by kernel_rfl) (by kernel_rfl) (cut_all _) ?_
       clear E; intro a E
       have hk1370 : c115 = List.length r105.1 := (H.rcapE 1 rfl).trans (congrArg List.length (List.append_nil _))
       replace E := E.same (t := 7) (u := .slice A114 (List.length (r105.1)) c115) rfl (congrArg (fun n_ => Value.slice A114 n_ c115) hk1370)
       refine vn tbok 1 [] [(2, .slice A114 (List.length (r105.1)) c115)] [] E (by kernel_rfl) (by kernel_rfl) trivial ?_
       clear E; intro a E
       refine wpList_nil ?_
       refine th_n ?_
       refine wp_seq ?_
       refine wp_region_lit ?_
       refine vn tbok 1 [] [(3, .int .i64 0)] [] E (by kernel_rfl) (by kernel_rfl) trivial ?_
       clear E; intro a E
       refine wpList_nil ?_
       refine th_n ?_
       refine wp_block ?_
       obtain ⟨x1393, hL1394, hK1395⟩ := bind_inv hP
       clear hP
       refine loop_cut (fun i_ a w_ => (i_ = 0 ∧ ∃ (x1398 : List Int), Fr a 22 [] ∧ Hp S Fa w0 w_ [.rowx true (cInt .i64) 3 A102 c103 x1223 [], .rowx true (cInt .i64) 3 A114 c115 x1398 [], .box g683 23 [.slice A102 (List.length x1223) c103, .slice A114 (List.length x1398) c115], .rowx true (cSl (cInt .i64)) 23 (some ⟨g1266, 0, none⟩) (Int.toNat (2 : Int)) (List.set (List.set (List.replicate (Int.toNat (2 : Int)) ([] : List Int)) (Int.toNat (0 : Int)) r1272) (Int.toNat (1 : Int)) r1308) (List.replicate (Int.toNat (2 : Int) - Int.toNat (2 : Int)) ([] : List Int))] ∧ x1393 = x1398)) ?_ ?_
       ·
        refine loopV (fun m1397 a w1396 => ∃ (all1380 : List Int) (i1381 : Int), Fr a 22 [(2, .slice A114 (List.length all1380) c115), (3, .int .i64 i1381)] ∧ Hp S Fa w0 w1396 [.rowx true (cInt .i64) 3 A114 c115 all1380 [], .rowx true (cInt .i64) 3 A102 c103 x1223 [], .box g683 23 [.slice A102 (List.length x1223) c103, .slice A114 (List.length all1380) c115], .rowx true (cSl (cInt .i64)) 23 (some ⟨g1266, 0, none⟩) (Int.toNat (2 : Int)) (List.set (List.set (List.replicate (Int.toNat (2 : Int)) ([] : List Int)) (Int.toNat (0 : Int)) r1272) (Int.toNat (1 : Int)) r1308) (List.replicate (Int.toNat (2 : Int) - Int.toNat (2 : Int)) ([] : List Int))] ∧ law23_AttractTells_l10 N m1397 all1380 i1381 = some x1393) N ?_ ?_
        ·
         exact ⟨r105.1, 0, E.pick _ ⟨rfl, rfl, trivial⟩, H.sel [1, 0, 2, 3] rfl, hL1394⟩
        clear E H hL1394; intro m1397 a w1396 hI_
        obtain ⟨all1380, i1381, E, H, hP⟩ := hI_
        obtain ⟨m1392, rfl⟩ : ∃ q_, m1397 = q_ + 1 := by cases m1397 with | zero => rw [law23_AttractTells_l10] at hP; cases hP | succ q_ => exact ⟨q_, rfl⟩
        rw [law23_AttractTells_l10] at hP
        refine wp_seq ?_
        refine wp_seq ?_
        refine wp_region_lit ?_
        refine vn tbok 4 [] [(11, .bool (decide (i1381 < (((List.length all1380) : Nat) : Int))))] [] E (by kernel_rfl) (by kernel_rfl) trivial ?_
        clear E; intro a E
        refine wpList_nil ?_
        refine th_n ?_
        refine E.cases (t := 11) rfl (fun hb_ E_ => ?_) (fun hb_ E_ => ?_)
        ·
         replace E := E_; clear E_
         have h1399 : i1381 < (((List.length all1380) : Nat) : Int) := of_decide_eq_true hb_
         clear hb_; replace hP := ite_t h1399 hP
         refine c_true E rfl ?_
         refine wp_skip ?_
         refine th_n ?_
         refine wp_seq ?_
         refine wp_block ?_
         refine wp_region_lit ?_
         obtain ⟨g1400, hP⟩ := ask_inv hP
         obtain ⟨b1401, e_b1401⟩ := H.raddrx 0 rfl (idx_pos g1400)
         subst e_b1401
         refine vn tbok 8 [.int .i64 (List.getD all1380 (Int.toNat i1381) 0), .int .i64 (xorV .i64 (List.getD all1380 (Int.toNat i1381) 0) 21845)] [(20, .int .i64 (xorV .i64 (List.getD all1380 (Int.toNat i1381) 0) 21845)), (21, .pointer (some ⟨b1401, 0 + (Int.toNat i1381) * 1, none⟩))] [0 ≤ i1381 ∧ i1381 < (((List.length all1380) : Nat) : Int), World.cell? w1396 ⟨b1401, 0 + (Int.toNat i1381) * 1, none⟩ = some (.int .i64 (List.getD all1380 (Int.toNat i1381) 0)), IntKind.i64.wrap (BitVec.ofInt (IntKind.bits .i64) (List.getD all1380 (Int.toNat i1381) 0) ^^^ BitVec.ofInt (IntKind.bits .i64) 21845).toNat = xorV .i64 (List.getD all1380 (Int.toNat i1381) 0) 21845, 0 ≤ i1381 ∧ i1381 < (((List.length all1380) : Nat) : Int)] E (by kernel_rfl) (by kernel_rfl) ⟨g1400, Rds.at1 (H.rd 0 rds_rowx) 0 g1400, rfl, g1400⟩ ?_
         clear E; intro a E
         refine h_setx (g := b1401) (i := i1381) (xorV .i64 (List.getD all1380 (Int.toNat i1381) 0) 21845) H 0 rfl E rfl rfl rfl rfl tbok rfl (fun _ HF_ => rfl) rfl g1400 rfl ?_
         clear E; intro w1403 a hc1404 H_ E
         replace H := H_; clear H_; try dsimp only [setn, addE, goneL] at H
         have hn1405 : (List.length all1380) = (List.length (List.set all1380 (Int.toNat i1381) (xorV .i64 (List.getD all1380 (Int.toNat i1381) 0) 21845))) := by simp only [List.length_set]
         replace E := E.same (t := 2) (u := .slice (some ⟨b1401, 0, none⟩) (List.length (List.set all1380 (Int.toNat i1381) (xorV .i64 (List.getD all1380 (Int.toNat i1381) 0) 21845))) c115) rfl (congrArg (fun n_ => Value.slice (some ⟨b1401, 0, none⟩) n_ c115) hn1405)
         replace H := H.boxEq 2 rfl (by rw [hn1405]); try dsimp only [setn, addE, goneL] at H
         refine wpList_nil ?_
         refine bl_n ?_
         refine th_n ?_
         refine wp_region_lit ?_
         obtain ⟨g1406, hP⟩ := ask_inv hP
         refine vn tbok 3 [.int .i64 (i1381 + 1)] [(3, .int .i64 (i1381 + 1))] [IntKind.i64.wrap (i1381 + 1) = i1381 + 1] E (by kernel_rfl) (by kernel_rfl) (wrap_in g1406) ?_
         clear E; intro a E
         refine wpList_nil ?_
         exact th_n ⟨m1392, Nat.lt_succ_self _, List.set all1380 (Int.toNat i1381) (xorV .i64 (List.getD all1380 (Int.toNat i1381) 0) 21845), i1381 + 1, E.pick _ ⟨rfl, rfl, trivial⟩, H.sel [0, 1, 2, 3] rfl, hP⟩
        replace E := E_; clear E_
        have h1407 : ¬ (i1381 < (((List.length all1380) : Nat) : Int)) := of_decide_eq_false hb_
        clear hb_; replace hP := ite_f h1407 hP
        refine c_false E rfl ?_
        refine wp_exit ?_
        refine th_exit ?_
        have hx_ := Option.some.inj hP
        refine th_exit (.inl ⟨0, rfl, ?_⟩)
        exact ⟨rfl, all1380, E.pick _ trivial, H.sel [1, 0, 2, 3] rfl, hx_.symm⟩
       clear E H hL1394; intro i_ a w1396 hM_
       obtain ⟨rfl, x1398, E, H, hx_⟩ := hM_
       subst hx_; have hP := hK1395; clear hK1395
       refine bl_hit ?_
       have hx_ := Option.some.inj hP
       refine bodyPost_end (v := .tuple #[]) (by simp [results, Try.f39]) E.nodef ?_
       exact ⟨_, rfl, x1393, rfl, H.sel [0, 1, 2, 3] rfl, hx_.symm⟩
      clear H
      rintro v1409 w1408 a ⟨x1369, rfl, H, hx_⟩ E_
      subst hx_
      replace E := E_ _ rfl; clear E_
      refine wpList_nil ?_
      refine th_n ?_
      refine wp_seq ?_
      refine wp_seq ?_
      refine wp_region_lit ?_
      refine vn tbok 1 [] [(6, .int .i64 0)] [] E (by kernel_rfl) (by kernel_rfl) trivial ?_
      clear E; intro a E
      refine wpList_nil ?_
      refine th_n ?_
      refine wp_block ?_
      refine wp_loop_rounds 3 ?_
      refine unr (m := 2) ?_
      refine wp_seq ?_
      refine wp_seq ?_
      refine wp_region_lit ?_
      refine vn tbok 4 [] [(44, .bool true)] [] E (by kernel_rfl) (by kernel_rfl) trivial ?_
      clear E; intro a E
      refine wpList_nil ?_
      refine th_n ?_
      refine c_true E rfl ?_
      refine wp_skip ?_
      refine th_n ?_
      refine wp_seq ?_
      refine wp_block ?_
      refine wp_seq ?_
      obtain ⟨g1411, hP⟩ := ask_inv hP
      obtain ⟨A1412, c1413, hl1414, hk1415, H⟩ := H.subSl 3 true (el_rowx rfl) g1411
      try dsimp only [addE] at H
      obtain ⟨r1417, h1418, hP⟩ := bind_inv hP
      have HR1429 := H
      refine dr_start (S := fun w_ => Chg (atL []) w1408 w_) (by kernel_rfl) ?_
      intro w1426 hc1427
      have HS1428 : Chg (atL []) w1408 w1426 := hc1427.mono (fun _ _ h_ => h_.elim)
      replace H := H.ext hc1427
      refine dn tbok (by kernel_rfl) [0, 1, 2, 3, 4, 5, 6, 7, 8, 9, 10, 11, 12, 14, 15, 16, 17] [.slice A102 (List.length x1223) c103, .slice A102 (List.length x1223) c103, .slice A1412 (List.length (List.getD (List.set (List.set (List.replicate (Int.toNat (2 : Int)) ([] : List Int)) (Int.toNat (0 : Int)) r1272) (Int.toNat (1 : Int)) r1308) (Int.toNat (0 : Int)) [])) c1413] [(50, .bool true), (54, .slice A102 (List.length x1223) c103), (59, .int .i64 ((c103 : Nat) : Int)), (64, .slice A1412 (List.length (List.getD (List.set (List.set (List.replicate (Int.toNat (2 : Int)) ([] : List Int)) (Int.toNat (0 : Int)) r1272) (Int.toNat (1 : Int)) r1308) (Int.toNat (0 : Int)) [])) c1413)] (fun w_ => [0 ≤ (0 : Int) ∧ (0 : Int) < ((2 : Nat) : Int), World.cell? w_ ⟨g683, 0, none⟩ = some (.slice A102 (List.length x1223) c103), 0 ≤ (0 : Int) ∧ (0 : Int) < ((2 : Nat) : Int), World.cell? w_ ⟨g683, 0, none⟩ = some (.slice A102 (List.length x1223) c103), 0 ≤ (0 : Int) ∧ (0 : Int) < (((List.length (List.set (List.set (List.replicate (Int.toNat (2 : Int)) ([] : List Int)) (Int.toNat (0 : Int)) r1272) (Int.toNat (1 : Int)) r1308)) : Nat) : Int), World.cell? w_ ⟨g1266, 0 + (Int.toNat (0 : Int)) * 1, none⟩ = some (.slice A1412 (List.length (List.getD (List.set (List.set (List.replicate (Int.toNat (2 : Int)) ([] : List Int)) (Int.toNat (0 : Int)) r1272) (Int.toNat (1 : Int)) r1308) (Int.toNat (0 : Int)) [])) c1413)]) 4 E (fun _ _ => by kernel_rfl) (by kernel_rfl) (fun w_ hS_ => ⟨⟨by decide, by decide⟩, (HR1429.boxk [] hS_ 2 rfl rfl).cell (j := 0) rfl, ⟨by decide, by decide⟩, (HR1429.boxk [] hS_ 2 rfl rfl).cell (j := 0) rfl, g1411, hS_.cell (hl1414) (HR1429.blk [] 3 rds_rowx (idx_pos g1411) rfl)⟩) (by kernel_rfl) HS1428 ?_
      clear E; intro a E
      refine wpAnyH_all (rs := [13]) (by kernel_rfl) (by simp) ?_
      refine all1 ?_
      refine wpOp_of_list rfl ?_
      refine vn tbok 1 [] [(60, .slice A102 (Int.toNat ((c103 : Nat) : Int)) c103)] [0 ≤ ((c103 : Nat) : Int) ∧ ((c103 : Nat) : Int) ≤ ((c103 : Nat) : Int)] E (by kernel_rfl) (by kernel_rfl) (cut_all _) ?_
      clear E; intro a E
      have hk1430 : c103 = List.length x1223 := (H.rcapE 0 rfl).trans (congrArg List.length (List.append_nil _))
      replace E := E.same (t := 60) (u := .slice A102 (List.length (x1223)) c103) rfl (congrArg (fun n_ => Value.slice A102 n_ c103) hk1430)
      refine wpList_nil ?_
      refine th_n ⟨HS1428, ?_⟩
      refine wpAnyH_all (rs := [18]) (by kernel_rfl) (by simp) ?_
      refine all1 ?_
      refine wpOp_of_list rfl ?_
      obtain ⟨Fa1431, Hc1432, hb1433⟩ := H.call [] [(0, false), (4, false)] rfl rfl trivial
      refine e_call E rfl rfl Try.func22 rfl rfl rfl (kit_SameInts_calls A102 c103 A1412 c1413 x1223 (List.getD (List.set (List.set (List.replicate (Int.toNat (2 : Int)) ([] : List Int)) (Int.toNat (0 : Int)) r1272) (Int.toNat (1 : Int)) r1308) (Int.toNat (0 : Int)) []) (H.rcapx 0 rfl) hk1415 Hc1432 h1418) ?_
      rintro v1434 w1435 a ⟨rfl, HR1436⟩ E_
      replace E := E_ _ rfl; clear E_
      obtain ⟨H_, hc1437⟩ := hb1433 _ _ HR1436 rfl
      replace HS1428 := HS1428.ext (callS_ext hc1437)
      replace H := H_; clear H_; try dsimp only [setn, addE, goneL] at H
      refine wpList_nil ?_
      refine th_n ⟨HS1428, ?_⟩
      refine dn tbok (by kernel_rfl) [19, 20] [] [(67, .bool (!r1417))] (fun w_ => []) 0 E (fun _ _ => by kernel_rfl) (by kernel_rfl) (fun w_ hS_ => trivial) (by kernel_rfl) HS1428 ?_
      clear E; intro a E
      refine dr_done (by kernel_rfl) ?_
      clear HS1428 HR1429
      refine th_n ?_
      refine E.cases (t := 67) rfl (fun hb_ E_ => ?_) (fun hb_ E_ => ?_)
      ·
       replace E := E_; clear E_
       have h1438 : ¬ (r1417 = true) := (ne_true_of_eq_false (not_t hb_))
       clear hb_; replace hP := ite_f h1438 hP
       refine c_true E rfl ?_
       refine wp_seq ?_
       refine wp_region_lit ?_
       refine vn tbok 1 [] [(2, .bool false)] [] E (by kernel_rfl) (by kernel_rfl) trivial ?_
       clear E; intro a E
       refine wpList_nil ?_
       refine th_n ?_
       refine wp_ret ?_
       refine bl_ret ?_
       refine th_ret ?_
       refine th_ret ?_
       refine bl_ret ?_
       refine th_ret ?_
       refine bl_ret ?_
       refine th_ret ?_
       refine th_ret ?_
       refine bl_ret ?_
       refine th_ret ?_
       have hx_ := Option.some.inj hP
       refine ret1 E rfl rfl ?_
       exact ⟨_, rfl, (false, x1223, x1367), rfl, H.sel [0, 1, 2] rfl, hx_.symm⟩
      replace E := E_; clear E_
      have h1439 : r1417 = true := (not_f hb_)
      clear hb_; replace hP := ite_t h1439 hP
      refine c_false E rfl ?_
      refine wp_skip ?_
      refine bl_n ?_
      refine th_n ?_
      refine wp_region_lit ?_
      refine vn tbok 3 [.int .i64 1] [(6, .int .i64 1)] [IntKind.i64.wrap (0 + 1) = 1] E (by kernel_rfl) (by kernel_rfl) ((show _ = _ from by decide)) ?_
      clear E; intro a E
      refine wpList_nil ?_
      refine th_n ?_
      refine unr (m := 1) ?_
      refine wp_seq ?_
      refine wp_seq ?_
      refine wp_region_lit ?_
      refine vn tbok 4 [] [(44, .bool true)] [] E (by kernel_rfl) (by kernel_rfl) trivial ?_
      clear E; intro a E
      refine wpList_nil ?_
      refine th_n ?_
      refine c_true E rfl ?_
      refine wp_skip ?_
      refine th_n ?_
      refine wp_seq ?_
      refine wp_block ?_
      refine wp_seq ?_
      have HR1443 := H
      refine dr_start (S := fun w_ => Chg (atL []) w1435 w_) (by kernel_rfl) ?_
      intro w1440 hc1441
      have HS1442 : Chg (atL []) w1435 w1440 := hc1441.mono (fun _ _ h_ => h_.elim)
      replace H := H.ext hc1441
      refine dn tbok (by kernel_rfl) [0, 1, 2, 3, 4, 5, 6, 7, 8, 9, 10, 11, 12, 13, 14, 15, 16, 17, 18, 19, 20] [] [(50, .bool false), (54, .tuple #[]), (59, .tuple #[]), (60, .tuple #[]), (64, .tuple #[]), (65, .tuple #[]), (67, .bool false)] (fun w_ => []) 0 E (fun _ _ => by kernel_rfl) (by kernel_rfl) (fun w_ hS_ => trivial) (by kernel_rfl) HS1442 ?_
      clear E; intro a E
      refine dr_done (by kernel_rfl) ?_
      clear HS1442 HR1443
      refine th_n ?_
      refine c_false E rfl ?_
      refine wp_skip ?_
      refine bl_n ?_
      refine th_n ?_
      refine wp_region_lit ?_
      refine vn tbok 3 [.int .i64 2] [(6, .int .i64 2)] [IntKind.i64.wrap (1 + 1) = 2] E (by kernel_rfl) (by kernel_rfl) ((show _ = _ from by decide)) ?_
      clear E; intro a E
      refine wpList_nil ?_
      refine th_n ?_
      refine unr (m := 0) ?_
      refine wp_seq ?_
      refine wp_seq ?_
      refine wp_region_lit ?_
      refine vn tbok 4 [] [(44, .bool false)] [] E (by kernel_rfl) (by kernel_rfl) trivial ?_
      clear E; intro a E
      refine wpList_nil ?_
      refine th_n ?_
      refine c_false E rfl ?_
      refine wp_exit ?_
      refine th_exit ?_
      refine th_exit ?_
      refine bl_hit ?_
      refine th_n ?_
      refine wp_region_lit ?_
      refine vn tbok 4 [.slice A114 (List.length x1367) c115] [(71, .slice A114 (List.length x1367) c115)] [0 ≤ (1 : Int) ∧ (1 : Int) < ((2 : Nat) : Int), World.cell? w1440 ⟨g683, 1, none⟩ = some (.slice A114 (List.length x1367) c115)] E (by kernel_rfl) (by kernel_rfl) ⟨⟨by decide, by decide⟩, (H.box 2 rfl).cell (j := 1) rfl⟩ ?_
      clear E; intro a E
      obtain ⟨x1467, h1468, hP⟩ := bind_inv hP
      refine e_call (R := fun v_ w_ => ∃ (x1469 : List Int), v_ = .tuple #[] ∧ Hp S Fa w0 w_ [.rowx true (cInt .i64) 3 A102 c103 x1223 [], .rowx true (cInt .i64) 3 A114 c115 x1469 [], .box g683 23 [.slice A102 (List.length x1223) c103, .slice A114 (List.length x1469) c115]] ∧ x1467 = x1469) E rfl rfl Try.func39 rfl rfl rfl ?_ ?_
      ·
       clear E hP; have hP := h1468; clear h1468; rw [law23_AttractTells_f11] at hP
       refine enterV (n := 22) Try.func39 rfl rfl rfl ?_
       intro a E
       replace E := E.pick [(0, .slice A114 (List.length x1367) c115)] ⟨rfl, trivial⟩
       refine wp_seq ?_
       refine wp_region_lit ?_
       refine vn tbok 3 [] [(4, .slice A114 (List.length x1367) c115), (6, .int .i64 ((c115 : Nat) : Int))] [] E (by kernel_rfl) (by kernel_rfl) trivial ?_
       clear E; intro a E
       refine vn tbok 1 [] [(7, .slice A114 (Int.toNat ((c115 : Nat) : Int)) c115)] [0 ≤ ((c115 : Nat) : Int) ∧ ((c115 : Nat) : Int) ≤ ((c115 : Nat) : Int)] E (by kernel_rfl) (by kernel_rfl) (cut_all _) ?_
       clear E; intro a E
       have hk1470 : c115 = List.length x1367 := (H.rcapE 1 rfl).trans (congrArg List.length (List.append_nil _))
       replace E := E.same (t := 7) (u := .slice A114 (List.length (x1367)) c115) rfl (congrArg (fun n_ => Value.slice A114 n_ c115) hk1470)
       refine vn tbok 1 [] [(2, .slice A114 (List.length (x1367)) c115)] [] E (by kernel_rfl) (by kernel_rfl) trivial ?_
       clear E; intro a E
       refine wpList_nil ?_
       refine th_n ?_
       refine wp_seq ?_
       refine wp_region_lit ?_
       refine vn tbok 1 [] [(3, .int .i64 0)] [] E (by kernel_rfl) (by kernel_rfl) trivial ?_
       clear E; intro a E
       refine wpList_nil ?_
       refine th_n ?_
       refine wp_block ?_
       obtain ⟨x1493, hL1494, hK1495⟩ := bind_inv hP
       clear hP
       refine loop_cut (fun i_ a w_ => (i_ = 0 ∧ ∃ (x1498 : List Int), Fr a 22 [] ∧ Hp S Fa w0 w_ [.rowx true (cInt .i64) 3 A102 c103 x1223 [], .rowx true (cInt .i64) 3 A114 c115 x1498 [], .box g683 23 [.slice A102 (List.length x1223) c103, .slice A114 (List.length x1498) c115]] ∧ x1493 = x1498)) ?_ ?_
       ·
        refine loopV (fun m1497 a w1496 => ∃ (all1480 : List Int) (i1481 : Int), Fr a 22 [(2, .slice A114 (List.length all1480) c115), (3, .int .i64 i1481)] ∧ Hp S Fa w0 w1496 [.rowx true (cInt .i64) 3 A114 c115 all1480 [], .rowx true (cInt .i64) 3 A102 c103 x1223 [], .box g683 23 [.slice A102 (List.length x1223) c103, .slice A114 (List.length all1480) c115]] ∧ law23_AttractTells_l12 N m1497 all1480 i1481 = some x1493) N ?_ ?_
        ·
         exact ⟨x1367, 0, E.pick _ ⟨rfl, rfl, trivial⟩, H.sel [1, 0, 2] rfl, hL1494⟩
        clear E H hL1494; intro m1497 a w1496 hI_
        obtain ⟨all1480, i1481, E, H, hP⟩ := hI_
        obtain ⟨m1492, rfl⟩ : ∃ q_, m1497 = q_ + 1 := by cases m1497 with | zero => rw [law23_AttractTells_l12] at hP; cases hP | succ q_ => exact ⟨q_, rfl⟩
        rw [law23_AttractTells_l12] at hP
        refine wp_seq ?_
        refine wp_seq ?_
        refine wp_region_lit ?_
        refine vn tbok 4 [] [(11, .bool (decide (i1481 < (((List.length all1480) : Nat) : Int))))] [] E (by kernel_rfl) (by kernel_rfl) trivial ?_
        clear E; intro a E
        refine wpList_nil ?_
        refine th_n ?_
        refine E.cases (t := 11) rfl (fun hb_ E_ => ?_) (fun hb_ E_ => ?_)
        ·
         replace E := E_; clear E_
         have h1499 : i1481 < (((List.length all1480) : Nat) : Int) := of_decide_eq_true hb_
         clear hb_; replace hP := ite_t h1499 hP
         refine c_true E rfl ?_
         refine wp_skip ?_
         refine th_n ?_
         refine wp_seq ?_
         refine wp_block ?_
         refine wp_region_lit ?_
         obtain ⟨g1500, hP⟩ := ask_inv hP
         obtain ⟨b1501, e_b1501⟩ := H.raddrx 0 rfl (idx_pos g1500)
         subst e_b1501
         refine vn tbok 8 [.int .i64 (List.getD all1480 (Int.toNat i1481) 0), .int .i64 (xorV .i64 (List.getD all1480 (Int.toNat i1481) 0) 21845)] [(20, .int .i64 (xorV .i64 (List.getD all1480 (Int.toNat i1481) 0) 21845)), (21, .pointer (some ⟨b1501, 0 + (Int.toNat i1481) * 1, none⟩))] [0 ≤ i1481 ∧ i1481 < (((List.length all1480) : Nat) : Int), World.cell? w1496 ⟨b1501, 0 + (Int.toNat i1481) * 1, none⟩ = some (.int .i64 (List.getD all1480 (Int.toNat i1481) 0)), IntKind.i64.wrap (BitVec.ofInt (IntKind.bits .i64) (List.getD all1480 (Int.toNat i1481) 0) ^^^ BitVec.ofInt (IntKind.bits .i64) 21845).toNat = xorV .i64 (List.getD all1480 (Int.toNat i1481) 0) 21845, 0 ≤ i1481 ∧ i1481 < (((List.length all1480) : Nat) : Int)] E (by kernel_rfl) (by kernel_rfl) ⟨g1500, Rds.at1 (H.rd 0 rds_rowx) 0 g1500, rfl, g1500⟩ ?_
         clear E; intro a E
         refine h_setx (g := b1501) (i := i1481) (xorV .i64 (List.getD all1480 (Int.toNat i1481) 0) 21845) H 0 rfl E rfl rfl rfl rfl tbok rfl (fun _ HF_ => rfl) rfl g1500 rfl ?_
         clear E; intro w1503 a hc1504 H_ E
         replace H := H_; clear H_; try dsimp only [setn, addE, goneL] at H
         have hn1505 : (List.length all1480) = (List.length (List.set all1480 (Int.toNat i1481) (xorV .i64 (List.getD all1480 (Int.toNat i1481) 0) 21845))) := by simp only [List.length_set]
         replace E := E.same (t := 2) (u := .slice (some ⟨b1501, 0, none⟩) (List.length (List.set all1480 (Int.toNat i1481) (xorV .i64 (List.getD all1480 (Int.toNat i1481) 0) 21845))) c115) rfl (congrArg (fun n_ => Value.slice (some ⟨b1501, 0, none⟩) n_ c115) hn1505)
         replace H := H.boxEq 2 rfl (by rw [hn1505]); try dsimp only [setn, addE, goneL] at H
         refine wpList_nil ?_
         refine bl_n ?_
         refine th_n ?_
         refine wp_region_lit ?_
         obtain ⟨g1506, hP⟩ := ask_inv hP
         refine vn tbok 3 [.int .i64 (i1481 + 1)] [(3, .int .i64 (i1481 + 1))] [IntKind.i64.wrap (i1481 + 1) = i1481 + 1] E (by kernel_rfl) (by kernel_rfl) (wrap_in g1506) ?_
         clear E; intro a E
         refine wpList_nil ?_
         exact th_n ⟨m1492, Nat.lt_succ_self _, List.set all1480 (Int.toNat i1481) (xorV .i64 (List.getD all1480 (Int.toNat i1481) 0) 21845), i1481 + 1, E.pick _ ⟨rfl, rfl, trivial⟩, H.sel [0, 1, 2] rfl, hP⟩
        replace E := E_; clear E_
        have h1507 : ¬ (i1481 < (((List.length all1480) : Nat) : Int)) := of_decide_eq_false hb_
        clear hb_; replace hP := ite_f h1507 hP
        refine c_false E rfl ?_
        refine wp_exit ?_
        refine th_exit ?_
        have hx_ := Option.some.inj hP
        refine th_exit (.inl ⟨0, rfl, ?_⟩)
        exact ⟨rfl, all1480, E.pick _ trivial, H.sel [1, 0, 2] rfl, hx_.symm⟩
       clear E H hL1494; intro i_ a w1496 hM_
       obtain ⟨rfl, x1498, E, H, hx_⟩ := hM_
       subst hx_; have hP := hK1495; clear hK1495
       refine bl_hit ?_
       have hx_ := Option.some.inj hP
       refine bodyPost_end (v := .tuple #[]) (by simp [results, Try.f39]) E.nodef ?_
       exact ⟨_, rfl, x1493, rfl, H.sel [0, 1, 2] rfl, hx_.symm⟩
      clear H
      rintro v1509 w1508 a ⟨x1469, rfl, H, hx_⟩ E_
      subst hx_
      replace E := E_ _ rfl; clear E_
      refine wpList_nil ?_
      refine bl_n ?_
      refine th_n ?_
      refine wp_region_lit ?_
      refine vn tbok 3 [.int .i64 2] [(3, .int .i64 2)] [IntKind.i64.wrap (1 + 1) = 2] E (by kernel_rfl) (by kernel_rfl) ((show _ = _ from by decide)) ?_
      clear E; intro a E
      refine wpList_nil ?_
      refine th_n ?_
      refine unr (m := 0) ?_
      refine wp_seq ?_
      refine wp_seq ?_
      refine wp_region_lit ?_
      refine vn tbok 4 [] [(10, .bool false)] [] E (by kernel_rfl) (by kernel_rfl) trivial ?_
      clear E; intro a E
      refine wpList_nil ?_
      refine th_n ?_
      refine c_false E rfl ?_
      refine wp_exit ?_
      refine th_exit ?_
      refine th_exit ?_
      refine bl_hit ?_
      refine th_n ?_
      refine wp_seq ?_
      refine wp_region_lit ?_
      refine vn tbok 1 [] [(2, .bool true)] [] E (by kernel_rfl) (by kernel_rfl) trivial ?_
      clear E; intro a E
      refine wpList_nil ?_
      refine th_n ?_
      refine wp_ret ?_
      have hx_ := Option.some.inj hP
      refine ret1 E rfl rfl ?_
      exact ⟨_, rfl, (true, x1223, x1467), rfl, H.sel [0, 1, 2] rfl, hx_.symm⟩
     clear H
     rintro v1511 w1510 a ⟨x1019, rfl, H, hx_⟩ E_
     subst hx_
     replace E := E_ _ rfl; clear E_
     refine vn tbok 2 [] [(6, .bool x1017.1)] [] E (by kernel_rfl) (by kernel_rfl) trivial ?_
     clear E; intro a E
     refine wpList_nil ?_
     have hx_ := Option.some.inj hP
     exact .inl ⟨rfl, x1017.1, E.pick _ ⟨rfl, trivial⟩, H.sel [] rfl, hx_.symm⟩
    replace E := E_; clear E_
    have h1512 : ¬ (r673 = true) := (ne_true_of_eq_false hb_)
    clear hb_; replace hP := ite_f h1512 hP
    refine vn tbok 6 [] [(6, .bool false)] [] E (by kernel_rfl) (by kernel_rfl) trivial ?_
    clear E; intro a E
    refine wpList_nil ?_
    have hx_ := Option.some.inj hP
    exact .inl ⟨rfl, false, E.pick _ ⟨rfl, trivial⟩, H.sel [] rfl, hx_.symm⟩
   replace E := E_; clear E_
   have h1513 : ¬ (r663 = true) := (ne_true_of_eq_false hb_)
   clear hb_; replace hP := ite_f h1513 hP
   refine vn tbok 11 [] [(6, .bool false)] [] E (by kernel_rfl) (by kernel_rfl) trivial ?_
   clear E; intro a E
   refine wpList_nil ?_
   have hx_ := Option.some.inj hP
   exact .inl ⟨rfl, false, E.pick _ ⟨rfl, trivial⟩, H.sel [] rfl, hx_.symm⟩
  replace E := E_; clear E_
  have h1514 : ¬ (x213 = true) := (ne_true_of_eq_false hb_)
  clear hb_; replace hP := ite_f h1514 hP
  refine vn tbok 16 [] [(6, .bool false)] [] E (by kernel_rfl) (by kernel_rfl) trivial ?_
  clear E; intro a E
  refine wpList_nil ?_
  have hx_ := Option.some.inj hP
  exact .inl ⟨rfl, false, E.pick _ ⟨rfl, trivial⟩, H.sel [] rfl, hx_.symm⟩
 clear E H h658; rintro a w661 ⟨x660, E, H, hx_⟩
 subst hx_; have hP := hK659; clear hK659
 refine th_n ?_
 refine wp_ret ?_
 obtain rfl := Option.some.inj hP
 refine ret1 E rfl rfl ?_
 exact ⟨_, rfl, rfl, H.sel [] rfl⟩

end Go.V
