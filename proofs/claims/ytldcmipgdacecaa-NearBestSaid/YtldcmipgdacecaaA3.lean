/- Plain functions, and the calls that give them. -/
import Derived.Test.YtldcmipgdacecaaA2
set_option linter.all false
set_option linter.unusedVariables false
set_option linter.unnecessarySimpa false
set_option linter.unusedSimpArgs false
namespace Go.V
open Go Go.Proofs
/-! rejoinder/near.Near -/
def near_Near_l1 (N : Nat) (t : List Int) (r34 : List (List Int)) (r46 : List (List Int)) (out220 : List Int) (q223 : Int) (x224 : Int) : Nat → Int → Option ((List Int) × Int)
  | 0, _ => none
  | m536 + 1, x463 =>
    if x463 < (((List.length (List.getD r34 (Int.toNat q223) [])) : Nat) : Int) then
      ask (idx x463 (List.length (List.getD r34 (Int.toNat q223) []))) <|
      ask (in64 (x224 + 1)) <|
      ask (idx (x224 + 1) (List.length r46)) <|
      ask (idx (List.getD (List.getD r34 (Int.toNat q223) []) (Int.toNat x463) 0) (List.length (List.getD r46 (Int.toNat (x224 + 1)) []))) <|
      if 0 ≤ (List.getD (List.getD r46 (Int.toNat (x224 + 1)) []) (Int.toNat (List.getD (List.getD r34 (Int.toNat q223) []) (Int.toNat x463) 0)) 0) then
        ask (idx x224 (List.length t)) <|
        Option.bind (near_unlike N (IntKind.u8.wrap x463) (List.getD t (Int.toNat x224) 0)) fun r561 =>
        ask (in64 ((List.getD (List.getD r46 (Int.toNat (x224 + 1)) []) (Int.toNat (List.getD (List.getD r34 (Int.toNat q223) []) (Int.toNat x463) 0)) 0) + r561)) <|
        ask (idx x224 (List.length r46)) <|
        ask (idx q223 (List.length (List.getD r46 (Int.toNat x224) []))) <|
        if ((List.getD (List.getD r46 (Int.toNat (x224 + 1)) []) (Int.toNat (List.getD (List.getD r34 (Int.toNat q223) []) (Int.toNat x463) 0)) 0) + r561 : Int) = (List.getD (List.getD r46 (Int.toNat x224) []) (Int.toNat q223) 0) then
          ask (List.length out220 + List.length ([IntKind.u8.wrap x463] : List Int) ≤ 1000000000) <|
          some (out220 ++ ([IntKind.u8.wrap x463] : List Int), (List.getD (List.getD r34 (Int.toNat q223) []) (Int.toNat x463) 0))
        else
          ask (in64 (x463 + 1)) <|
          near_Near_l1 N t r34 r46 out220 q223 x224 m536 (x463 + 1)
      else
        ask (in64 (x463 + 1)) <|
        near_Near_l1 N t r34 r46 out220 q223 x224 m536 (x463 + 1)
    else
      some (out220, q223)
def near_Near_l0 (N : Nat) (t : List Int) (r34 : List (List Int)) (r46 : List (List Int)) : Nat → (List Int) → Int → Int → Option (List Int)
  | 0, _, _, _ => none
  | m380 + 1, out220, q223, x224 =>
    if x224 < (((List.length t) : Nat) : Int) then
      ask (idx q223 (List.length r34)) <|
      Option.bind (near_Near_l1 N t r34 r46 out220 q223 x224 N 0) fun x537 =>
      ask (in64 (x224 + 1)) <|
      near_Near_l0 N t r34 r46 m380 x537.1 x537.2 (x224 + 1)
    else
      some out220
def near_Near (N : Nat) (aProps : Int) (aAccept : List Bool) (aGuard : List Int) (aNodes : List Nd) (t : List Int) : Option ((List Int) × Int × Bool × Int) :=
  Option.bind (near_asked N aProps aAccept aGuard aNodes t) fun r22 =>
  if (r22 : Int) = 0 then
    Option.bind (near_tables N aProps aAccept aGuard aNodes) fun r34 =>
    Option.bind (near_costs N aProps aAccept aGuard aNodes t r34) fun r46 =>
    ask (idx (0 : Int) (List.length r46)) <|
    ask (idx (0 : Int) (List.length (List.getD r46 (Int.toNat (0 : Int)) []))) <|
    if (List.getD (List.getD r46 (Int.toNat (0 : Int)) []) (Int.toNat (0 : Int)) 0) < 0 then
      some ([], 0, false, 0)
    else
      Option.bind (near_Near_l0 N t r34 r46 N [] 0 0) fun x381 =>
      some (x381, (List.getD (List.getD r46 (Int.toNat (0 : Int)) []) (Int.toNat (0 : Int)) 0), true, 0)
  else
    some ([], 0, false, r22)
set_option maxRecDepth 100000 in
set_option maxHeartbeats 4000000 in
theorem near_Near_calls {N : Nat} {S Fa : Nat → Prop} {w0 : World} {r : (List Int) × Int × Bool × Int} (A1 : Option Addr) (c2 : Nat) (A5 : Option Addr) (c6 : Nat) (A9 : Option Addr) (c10 : Nat) (A13 : Option Addr) (c14 : Nat) (aProps : Int) (aAccept : List Bool) (aGuard : List Int) (aNodes : List Nd) (t : List Int) (hk3 : List.length aAccept ≤ c2) (hk7 : List.length aGuard ≤ c6) (hk11 : List.length aNodes ≤ c10) (hk15 : List.length t ≤ c14) (H : Hp S Fa w0 w0 [.ro false cBool A1 aAccept, .ro false (cInt .i64) A5 aGuard, .ro false cNode A9 aNodes, .ro false (cInt .u8) A13 t]) (hP : near_Near N aProps aAccept aGuard aNodes t = some r) :
    Calls Try.prog 14 #[.agg #[.int .i64 aProps, .slice A1 (List.length aAccept) c2, .slice A5 (List.length aGuard) c6, .slice A9 (List.length aNodes) c10], .slice A13 (List.length t) c14] w0 fun e w' => ∃ v, e = .returned v ∧ ∃ (A624 : Option Addr) (c625 : Nat), v = .tuple #[.slice A624 (List.length r.1) c625, .int .i64 r.2.1, .bool r.2.2.1, .int .i64 r.2.2.2] ∧ Hp S Fa w0 w' [.row true (cInt .u8) 56 A624 c625 r.1] := by
 refine enterV (n := 93) Try.func14 rfl rfl rfl ?_
 intro a E
 replace E := E.pick [(0, .agg #[.int .i64 aProps, .slice A1 (List.length aAccept) c2, .slice A5 (List.length aGuard) c6, .slice A9 (List.length aNodes) c10]), (1, .slice A13 (List.length t) c14)] ⟨rfl, rfl, trivial⟩
 rw [near_Near] at hP
 refine wp_seq ?_
 refine wp_region_lit ?_
 refine h_box H E rfl rfl rfl ?_
 intro w18 g17 a hc19 hg21 H_ E_
 replace E := E_ _ rfl; clear E_
 replace H := H_; clear H_; try dsimp only [setn, addE, goneL] at H
 refine vn tbok 4 [] [] [] E (by kernel_rfl) (by kernel_rfl) trivial ?_
 clear E; intro a E
 refine wpList_nil ?_
 refine th_n ?_
 refine wp_seq ?_
 refine wp_seq ?_
 refine wp_region_lit ?_
 refine vn tbok 2 [.agg #[.int .i64 aProps, .slice A1 (List.length aAccept) c2, .slice A5 (List.length aGuard) c6, .slice A9 (List.length aNodes) c10]] [(17, .agg #[.int .i64 aProps, .slice A1 (List.length aAccept) c2, .slice A5 (List.length aGuard) c6, .slice A9 (List.length aNodes) c10]), (18, .slice A13 (List.length t) c14)] [cellsAt w18 g17 (0) [.int .i64 aProps, .slice A1 (List.length aAccept) c2, .slice A5 (List.length aGuard) c6, .slice A9 (List.length aNodes) c10]] E (by kernel_rfl) (by kernel_rfl) ((H.box 4 rfl).sub 0 _ rfl) ?_
 clear E; intro a E
 obtain ⟨r22, h23, hP⟩ := bind_inv hP
 obtain ⟨Fa24, Hc25, hb26⟩ := H.call [] [(0, false), (1, false), (2, false), (3, false)] rfl rfl trivial
 refine e_call E rfl rfl Try.func31 rfl rfl rfl (near_asked_calls A1 c2 A5 c6 A9 c10 A13 c14 aProps aAccept aGuard aNodes t hk3 hk7 hk11 hk15 Hc25 h23) ?_
 rintro v27 w28 a ⟨rfl, HR29⟩ E_
 replace E := E_ _ rfl; clear E_
 obtain ⟨H_, hc30⟩ := hb26 _ _ HR29 rfl
 replace H := H_; clear H_; try dsimp only [setn, addE, goneL] at H
 refine vn tbok 1 [] [(8, .int .i64 r22)] [] E (by kernel_rfl) (by kernel_rfl) trivial ?_
 clear E; intro a E
 refine wpList_nil ?_
 refine th_n ?_
 refine wp_seq ?_
 refine wp_region_lit ?_
 refine vn tbok 2 [] [(21, .bool ((r22 : Int) != 0))] [] E (by kernel_rfl) (by kernel_rfl) trivial ?_
 clear E; intro a E
 refine wpList_nil ?_
 refine th_n ?_
 refine E.cases (t := 21) rfl (fun hb_ E_ => ?_) (fun hb_ E_ => ?_)
 ·
  replace E := E_; clear E_
  have h31 : ¬ ((r22 : Int) = 0) := bne_iff_ne.1 hb_
  clear hb_; replace hP := ite_f h31 hP
  refine c_true E rfl ?_
  refine wp_seq ?_
  refine wp_region_lit ?_
  refine vn tbok 5 [] [(4, .slice none 0 0), (5, .int .i64 0), (6, .bool false), (7, .int .i64 r22)] [] E (by kernel_rfl) (by kernel_rfl) trivial ?_
  clear E; intro a E
  refine wpList_nil ?_
  refine th_n ?_
  refine wp_ret ?_
  refine th_ret ?_
  replace H := H.nilrow (cInt .u8) 56; try dsimp only [setn, addE, goneL] at H
  obtain rfl := Option.some.inj hP
  refine ret4 E rfl rfl rfl rfl rfl ?_
  exact ⟨_, rfl, none, 0, rfl, H.sel [5] rfl⟩
 replace E := E_; clear E_
 have h33 : (r22 : Int) = 0 := bne_eq_false_iff_eq.1 hb_
 clear hb_; replace hP := ite_t h33 hP
 refine c_false E rfl ?_
 refine wp_skip ?_
 refine th_n ?_
 refine wp_seq ?_
 refine wp_region_lit ?_
 refine vn tbok 1 [.agg #[.int .i64 aProps, .slice A1 (List.length aAccept) c2, .slice A5 (List.length aGuard) c6, .slice A9 (List.length aNodes) c10]] [(23, .agg #[.int .i64 aProps, .slice A1 (List.length aAccept) c2, .slice A5 (List.length aGuard) c6, .slice A9 (List.length aNodes) c10])] [cellsAt w28 g17 (0) [.int .i64 aProps, .slice A1 (List.length aAccept) c2, .slice A5 (List.length aGuard) c6, .slice A9 (List.length aNodes) c10]] E (by kernel_rfl) (by kernel_rfl) ((H.box 4 rfl).sub 0 _ rfl) ?_
 clear E; intro a E
 obtain ⟨r34, h35, hP⟩ := bind_inv hP
 obtain ⟨Fa36, Hc37, hb38⟩ := H.call [] [(0, false), (1, false), (2, false)] rfl rfl trivial
 refine e_call E rfl rfl Try.func32 rfl rfl rfl (near_tables_calls A1 c2 A5 c6 A9 c10 aProps aAccept aGuard aNodes hk3 hk7 hk11 Hc37 h35) ?_
 rintro v39 w40 a ⟨A43, c44, rfl, HR41⟩ E_
 replace E := E_ _ rfl; clear E_
 obtain ⟨H_, hc42⟩ := hb38 _ _ HR41 rfl
 replace H := H_; clear H_; try dsimp only [setn, addE, goneL] at H
 refine vn tbok 1 [] [(9, .slice A43 (List.length r34) c44)] [] E (by kernel_rfl) (by kernel_rfl) trivial ?_
 clear E; intro a E
 refine wpList_nil ?_
 refine th_n ?_
 refine wp_seq ?_
 refine wp_region_lit ?_
 refine vn tbok 3 [.agg #[.int .i64 aProps, .slice A1 (List.length aAccept) c2, .slice A5 (List.length aGuard) c6, .slice A9 (List.length aNodes) c10]] [(25, .agg #[.int .i64 aProps, .slice A1 (List.length aAccept) c2, .slice A5 (List.length aGuard) c6, .slice A9 (List.length aNodes) c10]), (26, .slice A13 (List.length t) c14), (27, .slice A43 (List.length r34) c44)] [cellsAt w40 g17 (0) [.int .i64 aProps, .slice A1 (List.length aAccept) c2, .slice A5 (List.length aGuard) c6, .slice A9 (List.length aNodes) c10]] E (by kernel_rfl) (by kernel_rfl) ((H.box 4 rfl).sub 0 _ rfl) ?_
 clear E; intro a E
 obtain ⟨r46, h47, hP⟩ := bind_inv hP
 obtain ⟨Fa48, Hc49, hb50⟩ := H.call [] [(0, false), (1, false), (2, false), (3, false), (5, false)] rfl rfl trivial
 refine e_call E rfl rfl Try.func33 rfl rfl rfl (near_costs_calls A1 c2 A5 c6 A9 c10 A13 c14 A43 c44 aProps aAccept aGuard aNodes t r34 hk3 hk7 hk11 hk15 (H.rcap 5 rfl) Hc49 h47) ?_
 rintro v51 w52 a ⟨A55, c56, rfl, hk58, HR53⟩ E_
 replace E := E_ _ rfl; clear E_
 obtain ⟨H_, hc54⟩ := hb50 _ _ HR53 rfl
 replace H := H_; clear H_; try dsimp only [setn, addE, goneL] at H
 refine vn tbok 1 [] [(10, .slice A55 (List.length r46) c56)] [] E (by kernel_rfl) (by kernel_rfl) trivial ?_
 clear E; intro a E
 refine wpList_nil ?_
 refine th_n ?_
 refine wp_seq ?_
 refine wp_seq ?_
 refine wp_region_lit ?_
 obtain ⟨g59, hP⟩ := ask_inv hP
 obtain ⟨b60, o61, e_b60⟩ := (H.rd 6 rds_ro).addr (idx_pos g59)
 subst e_b60
 obtain ⟨A62, c63, hl64, hk65, H⟩ := H.subSl 6 true (el_ro rfl) g59
 try dsimp only [addE] at H
 obtain ⟨g67, hP⟩ := ask_inv hP
 obtain ⟨b68, o69, e_b68⟩ := (H.rd 7 rds_ro).addr (idx_pos g67)
 subst e_b68
 refine vn tbok 6 [.slice (some ⟨b68, o69, none⟩) (List.length (List.getD r46 (Int.toNat (0 : Int)) [])) c63, .int .i64 (List.getD (List.getD r46 (Int.toNat (0 : Int)) []) (Int.toNat (0 : Int)) 0)] [(34, .bool (decide ((List.getD (List.getD r46 (Int.toNat (0 : Int)) []) (Int.toNat (0 : Int)) 0) < 0)))] [0 ≤ (0 : Int) ∧ (0 : Int) < (((List.length r46) : Nat) : Int), World.cell? w52 ⟨b60, o61 + (Int.toNat (0 : Int)) * 1, none⟩ = some (.slice (some ⟨b68, o69, none⟩) (List.length (List.getD r46 (Int.toNat (0 : Int)) [])) c63), 0 ≤ (0 : Int) ∧ (0 : Int) < (((List.length (List.getD r46 (Int.toNat (0 : Int)) [])) : Nat) : Int), World.cell? w52 ⟨b68, o69 + (Int.toNat (0 : Int)) * 1, none⟩ = some (.int .i64 (List.getD (List.getD r46 (Int.toNat (0 : Int)) []) (Int.toNat (0 : Int)) 0))] E (by kernel_rfl) (by kernel_rfl) ⟨g59, hl64, g67, Rds.at1 (H.rd 7 rds_ro) 0 g67⟩ ?_
 clear E; intro a E
 refine wpList_nil ?_
 refine th_n ?_
 refine E.cases (t := 34) rfl (fun hb_ E_ => ?_) (fun hb_ E_ => ?_)
 ·
  replace E := E_; clear E_
  have h70 : (List.getD (List.getD r46 (Int.toNat (0 : Int)) []) (Int.toNat (0 : Int)) 0) < 0 := of_decide_eq_true hb_
  clear hb_; replace hP := ite_t h70 hP
  refine c_true E rfl ?_
  refine wp_seq ?_
  refine wp_region_lit ?_
  refine vn tbok 4 [] [(4, .slice none 0 0), (5, .int .i64 0), (6, .bool false), (7, .int .i64 0)] [] E (by kernel_rfl) (by kernel_rfl) trivial ?_
  clear E; intro a E
  refine wpList_nil ?_
  refine th_n ?_
  refine wp_ret ?_
  refine th_ret ?_
  replace H := H.nilrow (cInt .u8) 56; try dsimp only [setn, addE, goneL] at H
  obtain rfl := Option.some.inj hP
  refine ret4 E rfl rfl rfl rfl rfl ?_
  exact ⟨_, rfl, none, 0, rfl, H.sel [8] rfl⟩
 replace E := E_; clear E_
 have h72 : ¬ ((List.getD (List.getD r46 (Int.toNat (0 : Int)) []) (Int.toNat (0 : Int)) 0) < 0) := of_decide_eq_false hb_
 clear hb_; replace hP := ite_f h72 hP
 refine c_false E rfl ?_
 refine wp_skip ?_
 refine th_n ?_
 refine wp_seq ?_
 refine wp_region_lit ?_
 refine vn tbok 1 [] [(11, .slice none 0 0)] [] E (by kernel_rfl) (by kernel_rfl) trivial ?_
 clear E; intro a E
 refine wpList_nil ?_
 refine th_n ?_
 refine wp_seq ?_
 refine wp_region_lit ?_
 refine vn tbok 1 [] [(12, .int .i64 0)] [] E (by kernel_rfl) (by kernel_rfl) trivial ?_
 clear E; intro a E
 refine wpList_nil ?_
 refine th_n ?_
 refine wp_seq ?_
 refine wp_seq ?_
 refine wp_region_lit ?_
 refine vn tbok 3 [] [(36, .int .i64 (((List.length t) : Nat) : Int)), (37, .int .i64 0)] [] E (by kernel_rfl) (by kernel_rfl) trivial ?_
 clear E; intro a E
 refine wpList_nil ?_
 refine th_n ?_
 refine wp_block ?_
 obtain ⟨x381, hL382, hK383⟩ := bind_inv hP
 clear hP
 replace H := H.nilrow (cInt .u8) 56; try dsimp only [setn, addE, goneL] at H
 refine loop_cut (fun i_ a w_ => (i_ = 0 ∧ ∃ (x387 : List Int), ∃ (A378 : Option Addr) (c379 : Nat), Fr a 93 [(10, .slice (some ⟨b60, o61, none⟩) (List.length r46) c56), (11, .slice A378 (List.length x387) c379)] ∧ Hp S Fa w0 w_ [.ro true (cSl (cInt .i64)) (some ⟨b60, o61, none⟩) r46, .row true (cInt .u8) 56 A378 c379 x387] ∧ x381 = x387)) ?_ ?_
 ·
  refine loopV (fun m386 a w385 => ∃ (out220 : List Int) (q223 : Int) (x224 : Int), ∃ (A221 : Option Addr) (c222 : Nat), Fr a 93 [(1, .slice A13 (List.length t) c14), (9, .slice A43 (List.length r34) c44), (10, .slice (some ⟨b60, o61, none⟩) (List.length r46) c56), (11, .slice A221 (List.length out220) c222), (12, .int .i64 q223), (36, .int .i64 (((List.length t) : Nat) : Int)), (37, .int .i64 x224)] ∧ Hp S Fa w0 w385 [.ro false (cInt .u8) A13 t, .row true (cSl (cInt .i64)) 31 A43 c44 r34, .ro true (cSl (cInt .i64)) (some ⟨b60, o61, none⟩) r46, .row true (cInt .u8) 56 A221 c222 out220] ∧ near_Near_l0 N t r34 r46 m386 out220 q223 x224 = some x381) N ?_ ?_
  ·
   exact ⟨[], 0, 0, none, 0, E.pick _ ⟨rfl, rfl, rfl, rfl, rfl, rfl, rfl, trivial⟩, H.sel [3, 5, 6, 8] rfl, hL382⟩
  clear E H hL382; intro m386 a w385 hI_
  obtain ⟨out220, q223, x224, A221, c222, E, H, hP⟩ := hI_
  obtain ⟨m380, rfl⟩ : ∃ q_, m386 = q_ + 1 := by cases m386 with | zero => rw [near_Near_l0] at hP; cases hP | succ q_ => exact ⟨q_, rfl⟩
  rw [near_Near_l0] at hP
  refine wp_seq ?_
  refine wp_region_lit ?_
  refine vn tbok 1 [] [(38, .bool (decide (x224 < (((List.length t) : Nat) : Int))))] [] E (by kernel_rfl) (by kernel_rfl) trivial ?_
  clear E; intro a E
  refine wpList_nil ?_
  refine th_n ?_
  refine wp_seq ?_
  refine E.cases (t := 38) rfl (fun hb_ E_ => ?_) (fun hb_ E_ => ?_)
  ·
   replace E := E_; clear E_
   have h388 : x224 < (((List.length t) : Nat) : Int) := of_decide_eq_true hb_
   clear hb_; replace hP := ite_t h388 hP
   refine c_true E rfl ?_
   refine wp_skip ?_
   refine th_n ?_
   refine wp_seq ?_
   refine wp_block ?_
   refine wp_seq ?_
   refine wp_region_lit ?_
   refine vn tbok 2 [] [(13, .int .i64 x224)] [] E (by kernel_rfl) (by kernel_rfl) trivial ?_
   clear E; intro a E
   refine wpList_nil ?_
   refine th_n ?_
   refine wp_seq ?_
   refine wp_region_lit ?_
   obtain ⟨g389, hP⟩ := ask_inv hP
   obtain ⟨b390, e_b390⟩ := H.raddr 1 rfl (idx_pos g389)
   subst e_b390
   obtain ⟨A392, c393, hl394, hk395, H⟩ := H.subSl 1 true (el_row rfl) g389
   try dsimp only [addE] at H
   refine vn tbok 6 [.slice A392 (List.length (List.getD r34 (Int.toNat q223) [])) c393] [(43, .slice A392 (List.length (List.getD r34 (Int.toNat q223) [])) c393), (44, .int .i64 (((List.length (List.getD r34 (Int.toNat q223) [])) : Nat) : Int)), (45, .int .i64 0)] [0 ≤ q223 ∧ q223 < (((List.length r34) : Nat) : Int), World.cell? w385 ⟨b390, 0 + (Int.toNat q223) * 1, none⟩ = some (.slice A392 (List.length (List.getD r34 (Int.toNat q223) [])) c393)] E (by kernel_rfl) (by kernel_rfl) ⟨g389, hl394⟩ ?_
   clear E; intro a E
   refine wpList_nil ?_
   refine th_n ?_
   refine wp_block ?_
   obtain ⟨x537, hL538, hK539⟩ := bind_inv hP
   clear hP
   refine loop_cut (fun i_ a w_ => (i_ = 2 ∧ ∃ (x542 : (List Int) × Int), ∃ (A533 : Option Addr) (c534 : Nat), Fr a 93 [(1, .slice A13 (List.length t) c14), (9, .slice (some ⟨b390, 0, none⟩) (List.length r34) c44), (10, .slice (some ⟨b60, o61, none⟩) (List.length r46) c56), (11, .slice A533 (List.length x542.1) c534), (12, .int .i64 x542.2), (36, .int .i64 (((List.length t) : Nat) : Int)), (37, .int .i64 x224)] ∧ Hp S Fa w0 w_ [.ro false (cInt .u8) A13 t, .row true (cSl (cInt .i64)) 31 (some ⟨b390, 0, none⟩) c44 r34, .ro true (cSl (cInt .i64)) (some ⟨b60, o61, none⟩) r46, .row true (cInt .u8) 56 A533 c534 x542.1] ∧ x537 = x542)) ?_ ?_
   ·
    refine loopV (fun m541 a w540 => ∃ (x463 : Int), Fr a 93 [(1, .slice A13 (List.length t) c14), (9, .slice (some ⟨b390, 0, none⟩) (List.length r34) c44), (10, .slice (some ⟨b60, o61, none⟩) (List.length r46) c56), (11, .slice A221 (List.length out220) c222), (12, .int .i64 q223), (13, .int .i64 x224), (36, .int .i64 (((List.length t) : Nat) : Int)), (37, .int .i64 x224), (43, .slice A392 (List.length (List.getD r34 (Int.toNat q223) [])) c393), (44, .int .i64 (((List.length (List.getD r34 (Int.toNat q223) [])) : Nat) : Int)), (45, .int .i64 x463)] ∧ Hp S Fa w0 w540 [.ro false (cInt .u8) A13 t, .row true (cSl (cInt .i64)) 31 (some ⟨b390, 0, none⟩) c44 r34, .ro true (cSl (cInt .i64)) (some ⟨b60, o61, none⟩) r46, .row true (cInt .u8) 56 A221 c222 out220, .ro true (cInt .i64) A392 (List.getD r34 (Int.toNat q223) [])] ∧ near_Near_l1 N t r34 r46 out220 q223 x224 m541 x463 = some x537) N ?_ ?_
    ·
     exact ⟨0, E.pick _ ⟨rfl, rfl, rfl, rfl, rfl, rfl, rfl, rfl, rfl, rfl, rfl, trivial⟩, H.sel [0, 1, 2, 3, 4] rfl, hL538⟩
    clear E H hL538; intro m541 a w540 hI_
    obtain ⟨x463, E, H, hP⟩ := hI_
    obtain ⟨m536, rfl⟩ : ∃ q_, m541 = q_ + 1 := by cases m541 with | zero => rw [near_Near_l1] at hP; cases hP | succ q_ => exact ⟨q_, rfl⟩
    rw [near_Near_l1] at hP
    refine wp_seq ?_
    refine wp_region_lit ?_
    refine vn tbok 1 [] [(46, .bool (decide (x463 < (((List.length (List.getD r34 (Int.toNat q223) [])) : Nat) : Int))))] [] E (by kernel_rfl) (by kernel_rfl) trivial ?_
    clear E; intro a E
    refine wpList_nil ?_
    refine th_n ?_
    refine wp_seq ?_
    refine E.cases (t := 46) rfl (fun hb_ E_ => ?_) (fun hb_ E_ => ?_)
    ·
     replace E := E_; clear E_
     have h543 : x463 < (((List.length (List.getD r34 (Int.toNat q223) [])) : Nat) : Int) := of_decide_eq_true hb_
     clear hb_; replace hP := ite_t h543 hP
     refine c_true E rfl ?_
     refine wp_skip ?_
     refine th_n ?_
     refine wp_seq ?_
     refine wp_block ?_
     refine wp_seq ?_
     refine wp_region_lit ?_
     obtain ⟨g544, hP⟩ := ask_inv hP
     obtain ⟨b545, o546, e_b545⟩ := (H.rd 4 rds_ro).addr (idx_pos g544)
     subst e_b545
     refine vn tbok 5 [.int .i64 (List.getD (List.getD r34 (Int.toNat q223) []) (Int.toNat x463) 0)] [(14, .int .i64 x463), (15, .int .i64 (List.getD (List.getD r34 (Int.toNat q223) []) (Int.toNat x463) 0))] [0 ≤ x463 ∧ x463 < (((List.length (List.getD r34 (Int.toNat q223) [])) : Nat) : Int), World.cell? w540 ⟨b545, o546 + (Int.toNat x463) * 1, none⟩ = some (.int .i64 (List.getD (List.getD r34 (Int.toNat q223) []) (Int.toNat x463) 0))] E (by kernel_rfl) (by kernel_rfl) ⟨g544, Rds.at1 (H.rd 4 rds_ro) 0 g544⟩ ?_
     clear E; intro a E
     refine wpList_nil ?_
     refine th_n ?_
     refine wp_seq ?_
     refine wp_region_lit ?_
     obtain ⟨g547, hP⟩ := ask_inv hP
     obtain ⟨g548, hP⟩ := ask_inv hP
     obtain ⟨A549, c550, hl551, hk552, H⟩ := H.subSl 2 true (el_ro rfl) g548
     try dsimp only [addE] at H
     obtain ⟨g554, hP⟩ := ask_inv hP
     obtain ⟨b555, o556, e_b555⟩ := (H.rd 5 rds_ro).addr (idx_pos g554)
     subst e_b555
     refine vn tbok 9 [.int .i64 (x224 + 1), .slice (some ⟨b555, o556, none⟩) (List.length (List.getD r46 (Int.toNat (x224 + 1)) [])) c550, .int .i64 (List.getD (List.getD r46 (Int.toNat (x224 + 1)) []) (Int.toNat (List.getD (List.getD r34 (Int.toNat q223) []) (Int.toNat x463) 0)) 0)] [(16, .int .i64 (List.getD (List.getD r46 (Int.toNat (x224 + 1)) []) (Int.toNat (List.getD (List.getD r34 (Int.toNat q223) []) (Int.toNat x463) 0)) 0))] [IntKind.i64.wrap (x224 + 1) = x224 + 1, 0 ≤ (x224 + 1) ∧ (x224 + 1) < (((List.length r46) : Nat) : Int), World.cell? w540 ⟨b60, o61 + (Int.toNat (x224 + 1)) * 1, none⟩ = some (.slice (some ⟨b555, o556, none⟩) (List.length (List.getD r46 (Int.toNat (x224 + 1)) [])) c550), 0 ≤ (List.getD (List.getD r34 (Int.toNat q223) []) (Int.toNat x463) 0) ∧ (List.getD (List.getD r34 (Int.toNat q223) []) (Int.toNat x463) 0) < (((List.length (List.getD r46 (Int.toNat (x224 + 1)) [])) : Nat) : Int), World.cell? w540 ⟨b555, o556 + (Int.toNat (List.getD (List.getD r34 (Int.toNat q223) []) (Int.toNat x463) 0)) * 1, none⟩ = some (.int .i64 (List.getD (List.getD r46 (Int.toNat (x224 + 1)) []) (Int.toNat (List.getD (List.getD r34 (Int.toNat q223) []) (Int.toNat x463) 0)) 0))] E (by kernel_rfl) (by kernel_rfl) ⟨wrap_in g547, g548, hl551, g554, Rds.at1 (H.rd 5 rds_ro) 0 g554⟩ ?_
     clear E; intro a E
     refine wpList_nil ?_
     refine th_n ?_
     refine wp_seq ?_
     by_cases h557 : 0 ≤ (List.getD (List.getD r46 (Int.toNat (x224 + 1)) []) (Int.toNat (List.getD (List.getD r34 (Int.toNat q223) []) (Int.toNat x463) 0)) 0)
     ·
      replace hP := ite_t h557 hP
      obtain ⟨g558, hP⟩ := ask_inv hP
      obtain ⟨b559, o560, e_b559⟩ := (H.rd 0 rds_ro).addr (idx_pos g558)
      subst e_b559
      obtain ⟨r561, h562, hP⟩ := bind_inv hP
      obtain ⟨g570, hP⟩ := ask_inv hP
      obtain ⟨g571, hP⟩ := ask_inv hP
      obtain ⟨A572, c573, hl574, hk575, H⟩ := H.subSl 2 true (el_ro rfl) g571
      try dsimp only [addE] at H
      obtain ⟨g577, hP⟩ := ask_inv hP
      obtain ⟨b578, o579, e_b578⟩ := (H.rd 6 rds_ro).addr (idx_pos g577)
      subst e_b578
      have HR583 := H
      refine dr_start (S := fun w_ => Chg (atL []) w540 w_) (by kernel_rfl) ?_
      intro w580 hc581
      have HS582 : Chg (atL []) w540 w580 := hc581.mono (fun _ _ h_ => h_.elim)
      replace H := H.ext hc581
      refine dn tbok (by kernel_rfl) [0, 1, 2] [] [(60, .bool (decide (0 ≤ (List.getD (List.getD r46 (Int.toNat (x224 + 1)) []) (Int.toNat (List.getD (List.getD r34 (Int.toNat q223) []) (Int.toNat x463) 0)) 0))))] (fun w_ => []) 18 E (fun _ _ => by kernel_rfl) (by kernel_rfl) (fun w_ hS_ => trivial) (by kernel_rfl) HS582 ?_
      clear E; intro a E
      replace E := E.same (t := 60) (u := .bool true) rfl (congrArg Value.bool (decide_eq_true h557))
      refine dn tbok (by kernel_rfl) [3, 4, 5, 6, 7, 8, 9, 12, 13, 14, 15, 16, 17, 18] [.int .u8 (IntKind.u8.wrap x463), .int .u8 (List.getD t (Int.toNat x224) 0), .slice (some ⟨b578, o579, none⟩) (List.length (List.getD r46 (Int.toNat x224) [])) c573, .int .i64 (List.getD (List.getD r46 (Int.toNat x224) []) (Int.toNat q223) 0)] [(61, .int .i64 (List.getD (List.getD r46 (Int.toNat (x224 + 1)) []) (Int.toNat (List.getD (List.getD r34 (Int.toNat q223) []) (Int.toNat x463) 0)) 0)), (63, .int .u8 (IntKind.u8.wrap x463)), (67, .int .u8 (List.getD t (Int.toNat x224) 0)), (76, .int .i64 (List.getD (List.getD r46 (Int.toNat x224) []) (Int.toNat q223) 0))] (fun w_ => [IntKind.u8.wrap x463 = (IntKind.u8.wrap x463), 0 ≤ x224 ∧ x224 < (((List.length t) : Nat) : Int), World.cell? w_ ⟨b559, o560 + (Int.toNat x224) * 1, none⟩ = some (.int .u8 (List.getD t (Int.toNat x224) 0)), 0 ≤ x224 ∧ x224 < (((List.length r46) : Nat) : Int), World.cell? w_ ⟨b60, o61 + (Int.toNat x224) * 1, none⟩ = some (.slice (some ⟨b578, o579, none⟩) (List.length (List.getD r46 (Int.toNat x224) [])) c573), 0 ≤ q223 ∧ q223 < (((List.length (List.getD r46 (Int.toNat x224) [])) : Nat) : Int), World.cell? w_ ⟨b578, o579 + (Int.toNat q223) * 1, none⟩ = some (.int .i64 (List.getD (List.getD r46 (Int.toNat x224) []) (Int.toNat q223) 0))]) 4 E (fun _ _ => by kernel_rfl) (by kernel_rfl) (fun w_ hS_ => ⟨rfl, g558, Rds.at1 (HR583.rdk [] hS_ 0 rds_ro rfl) 0 g558, g571, hS_.cell (hl574) (HR583.blk [] 2 rds_ro (idx_pos g571) rfl), g577, Rds.at1 (HR583.rdk [] hS_ 6 rds_ro rfl) 0 g577⟩) (by kernel_rfl) HS582 ?_
      clear E; intro a E
      refine wpAnyH_all (rs := [10]) (by kernel_rfl) (by simp) ?_
      refine all1 ?_
      refine wpOp_of_list rfl ?_
      obtain ⟨Fa584, Hc585, hb586⟩ := H.call [] [] rfl rfl trivial
      refine e_call E rfl rfl Try.func27 rfl rfl rfl (near_unlike_calls  (IntKind.u8.wrap x463) (List.getD t (Int.toNat x224) 0)  Hc585 h562) ?_
      rintro v587 w588 a ⟨rfl, HR589⟩ E_
      replace E := E_ _ rfl; clear E_
      obtain ⟨H_, hc590⟩ := hb586 _ _ HR589 rfl
      replace HS582 := HS582.ext (callS_ext hc590)
      replace H := H_; clear H_; try dsimp only [setn, addE, goneL] at H
      refine wpList_nil ?_
      refine th_n ⟨HS582, ?_⟩
      refine dn tbok (by kernel_rfl) [11, 19, 20] [.int .i64 ((List.getD (List.getD r46 (Int.toNat (x224 + 1)) []) (Int.toNat (List.getD (List.getD r34 (Int.toNat q223) []) (Int.toNat x463) 0)) 0) + r561)] [(78, .bool (((List.getD (List.getD r46 (Int.toNat (x224 + 1)) []) (Int.toNat (List.getD (List.getD r34 (Int.toNat q223) []) (Int.toNat x463) 0)) 0) + r561 : Int) == (List.getD (List.getD r46 (Int.toNat x224) []) (Int.toNat q223) 0)))] (fun w_ => [IntKind.i64.wrap ((List.getD (List.getD r46 (Int.toNat (x224 + 1)) []) (Int.toNat (List.getD (List.getD r34 (Int.toNat q223) []) (Int.toNat x463) 0)) 0) + r561) = (List.getD (List.getD r46 (Int.toNat (x224 + 1)) []) (Int.toNat (List.getD (List.getD r34 (Int.toNat q223) []) (Int.toNat x463) 0)) 0) + r561]) 0 E (fun _ _ => by kernel_rfl) (by kernel_rfl) (fun w_ hS_ => (wrap_in g570)) (by kernel_rfl) HS582 ?_
      clear E; intro a E
      refine dr_done (by kernel_rfl) ?_
      clear HS582 HR583
      refine th_n ?_
      refine E.cases (t := 78) rfl (fun hb_ E_ => ?_) (fun hb_ E_ => ?_)
      ·
       replace E := E_; clear E_
       have h591 : ((List.getD (List.getD r46 (Int.toNat (x224 + 1)) []) (Int.toNat (List.getD (List.getD r34 (Int.toNat q223) []) (Int.toNat x463) 0)) 0) + r561 : Int) = (List.getD (List.getD r46 (Int.toNat x224) []) (Int.toNat q223) 0) := eq_of_beq hb_
       clear hb_; replace hP := ite_t h591 hP
       refine c_true E rfl ?_
       refine wp_seq ?_
       refine wp_region_lit ?_
       refine vn tbok 3 [.int .u8 (IntKind.u8.wrap x463)] [(79, .slice A221 (List.length out220) c222), (81, .int .u8 (IntKind.u8.wrap x463))] [IntKind.u8.wrap x463 = (IntKind.u8.wrap x463)] E (by kernel_rfl) (by kernel_rfl) (rfl) ?_
       clear E; intro a E
       refine h_buildSlice (ps := [(0, .int .u8 (IntKind.u8.wrap x463))]) (cs := [.int .u8 (IntKind.u8.wrap x463)]) H E rfl rfl tbok rfl rfl (by kernel_rfl) ?_
       intro w593 g592 a hc594 hg596 H_ E_
       replace E := E_ _ rfl; clear E_
       replace H := H_; clear H_; try dsimp only [setn, addE, goneL] at H
       obtain ⟨g597, hP⟩ := ask_inv hP
       refine h_append (cInt .u8) (xs := out220) (ys := ([IntKind.u8.wrap x463] : List Int)) (0 : Int) H 3 rfl E rfl rfl tbok rfl rfl rfl rfl rfl (fun _ _ => rfl) rfl rfl (fun _ HF_ => HF_.srcB 7 rfl (⟨_, _, rfl, rfl, rfl⟩)) g597 ?_
       intro w598 A599 c600 a hc601 hA602 H_ E_
       replace E := E_ _ rfl; clear E_
       replace H := H_; clear H_; try dsimp only [setn, addE, goneL] at H
       refine vn tbok 1 [] [(11, .slice A599 (List.length (out220 ++ ([IntKind.u8.wrap x463] : List Int))) c600)] [] E (by kernel_rfl) (by kernel_rfl) trivial ?_
       clear E; intro a E
       refine wpList_nil ?_
       refine th_n ?_
       refine wp_seq ?_
       refine wp_region_lit ?_
       refine vn tbok 2 [] [(12, .int .i64 (List.getD (List.getD r34 (Int.toNat q223) []) (Int.toNat x463) 0))] [] E (by kernel_rfl) (by kernel_rfl) trivial ?_
       clear E; intro a E
       refine wpList_nil ?_
       refine th_n ?_
       refine wp_exit ?_
       refine bl_miss rfl ?_
       refine th_exit ?_
       have hx_ := Option.some.inj hP
       refine th_exit (.inl ⟨2, rfl, ?_⟩)
       exact ⟨rfl, (out220 ++ ([IntKind.u8.wrap x463] : List Int), (List.getD (List.getD r34 (Int.toNat q223) []) (Int.toNat x463) 0)), A599, c600, E.pick _ ⟨rfl, rfl, rfl, rfl, rfl, rfl, rfl, trivial⟩, H.sel [0, 1, 2, 3] rfl, hx_.symm⟩
      replace E := E_; clear E_
      have h603 : ¬ (((List.getD (List.getD r46 (Int.toNat (x224 + 1)) []) (Int.toNat (List.getD (List.getD r34 (Int.toNat q223) []) (Int.toNat x463) 0)) 0) + r561 : Int) = (List.getD (List.getD r46 (Int.toNat x224) []) (Int.toNat q223) 0)) := ne_of_beq_false hb_
      clear hb_; replace hP := ite_f h603 hP
      refine c_false E rfl ?_
      refine wp_skip ?_
      refine bl_n ?_
      refine th_n ?_
      refine wp_region_lit ?_
      obtain ⟨g604, hP⟩ := ask_inv hP
      refine vn tbok 2 [.int .i64 (x463 + 1)] [(45, .int .i64 (x463 + 1))] [IntKind.i64.wrap (x463 + 1) = x463 + 1] E (by kernel_rfl) (by kernel_rfl) (wrap_in g604) ?_
      clear E; intro a E
      refine wpList_nil ?_
      exact th_n ⟨m536, Nat.lt_succ_self _, x463 + 1, E.pick _ ⟨rfl, rfl, rfl, rfl, rfl, rfl, rfl, rfl, rfl, rfl, rfl, trivial⟩, H.sel [0, 1, 2, 3, 4] rfl, hP⟩
     replace hP := ite_f h557 hP
     have HR608 := H
     refine dr_start (S := fun w_ => Chg (atL []) w540 w_) (by kernel_rfl) ?_
     intro w605 hc606
     have HS607 : Chg (atL []) w540 w605 := hc606.mono (fun _ _ h_ => h_.elim)
     replace H := H.ext hc606
     refine dn tbok (by kernel_rfl) [0, 1, 2] [] [(60, .bool (decide (0 ≤ (List.getD (List.getD r46 (Int.toNat (x224 + 1)) []) (Int.toNat (List.getD (List.getD r34 (Int.toNat q223) []) (Int.toNat x463) 0)) 0))))] (fun w_ => []) 18 E (fun _ _ => by kernel_rfl) (by kernel_rfl) (fun w_ hS_ => trivial) (by kernel_rfl) HS607 ?_
     clear E; intro a E
     replace E := E.same (t := 60) (u := .bool false) rfl (congrArg Value.bool (decide_eq_false h557))
     refine dn tbok (by kernel_rfl) [3, 4, 5, 6, 7, 8, 9, 10, 11, 12, 13, 14, 15, 16, 17, 18, 19, 20] [] [(78, .bool false)] (fun w_ => []) 0 E (fun _ _ => by kernel_rfl) (by kernel_rfl) (fun w_ hS_ => trivial) (by kernel_rfl) HS607 ?_
     clear E; intro a E
     refine dr_done (by kernel_rfl) ?_
     clear HS607 HR608
     refine th_n ?_
     refine c_false E rfl ?_
     refine wp_skip ?_
     refine bl_n ?_
     refine th_n ?_
     refine wp_region_lit ?_
     obtain ⟨g609, hP⟩ := ask_inv hP
     refine vn tbok 2 [.int .i64 (x463 + 1)] [(45, .int .i64 (x463 + 1))] [IntKind.i64.wrap (x463 + 1) = x463 + 1] E (by kernel_rfl) (by kernel_rfl) (wrap_in g609) ?_
     clear E; intro a E
     refine wpList_nil ?_
     exact th_n ⟨m536, Nat.lt_succ_self _, x463 + 1, E.pick _ ⟨rfl, rfl, rfl, rfl, rfl, rfl, rfl, rfl, rfl, rfl, rfl, trivial⟩, H.sel [0, 1, 2, 3, 4] rfl, hP⟩
    replace E := E_; clear E_
    have h610 : ¬ (x463 < (((List.length (List.getD r34 (Int.toNat q223) [])) : Nat) : Int)) := of_decide_eq_false hb_
    clear hb_; replace hP := ite_f h610 hP
    refine c_false E rfl ?_
    refine wp_exit ?_
    refine th_exit ?_
    have hx_ := Option.some.inj hP
    refine th_exit (.inl ⟨2, rfl, ?_⟩)
    exact ⟨rfl, (out220, q223), A221, c222, E.pick _ ⟨rfl, rfl, rfl, rfl, rfl, rfl, rfl, trivial⟩, H.sel [0, 1, 2, 3] rfl, hx_.symm⟩
   clear E H hL538; intro i_ a w540 hM_
   obtain ⟨rfl, x542, A533, c534, E, H, hx_⟩ := hM_
   subst hx_; have hP := hK539; clear hK539
   refine bl_hit ?_
   refine bl_n ?_
   refine th_n ?_
   refine wp_region_lit ?_
   obtain ⟨g611, hP⟩ := ask_inv hP
   refine vn tbok 2 [.int .i64 (x224 + 1)] [(37, .int .i64 (x224 + 1))] [IntKind.i64.wrap (x224 + 1) = x224 + 1] E (by kernel_rfl) (by kernel_rfl) (wrap_in g611) ?_
   clear E; intro a E
   refine wpList_nil ?_
   exact th_n ⟨m380, Nat.lt_succ_self _, x537.1, x537.2, x224 + 1, A533, c534, E.pick _ ⟨rfl, rfl, rfl, rfl, rfl, rfl, rfl, trivial⟩, H.sel [0, 1, 2, 3] rfl, hP⟩
  replace E := E_; clear E_
  have h612 : ¬ (x224 < (((List.length t) : Nat) : Int)) := of_decide_eq_false hb_
  clear hb_; replace hP := ite_f h612 hP
  refine c_false E rfl ?_
  refine wp_exit ?_
  refine th_exit ?_
  have hx_ := Option.some.inj hP
  refine th_exit (.inl ⟨0, rfl, ?_⟩)
  exact ⟨rfl, out220, A221, c222, E.pick _ ⟨rfl, rfl, trivial⟩, H.sel [2, 3] rfl, hx_.symm⟩
 clear E H hL382; intro i_ a w385 hM_
 obtain ⟨rfl, x387, A378, c379, E, H, hx_⟩ := hM_
 subst hx_; have hP := hK383; clear hK383
 refine bl_hit ?_
 refine th_n ?_
 refine wp_seq ?_
 obtain ⟨A613, c614, hl615, hk616, H⟩ := H.subSl 0 true (el_ro rfl) g59
 try dsimp only [addE] at H
 obtain ⟨b618, o619, e_b618⟩ := (H.rd 2 rds_ro).addr (idx_pos g67)
 subst e_b618
 have HR623 := H
 refine dr_start (S := fun w_ => Chg (atL []) w385 w_) (by kernel_rfl) ?_
 intro w620 hc621
 have HS622 : Chg (atL []) w385 w620 := hc621.mono (fun _ _ h_ => h_.elim)
 replace H := H.ext hc621
 refine dn tbok (by kernel_rfl) [0, 1, 2, 3, 4, 5, 6, 7, 8, 9] [.slice (some ⟨b618, o619, none⟩) (List.length (List.getD r46 (Int.toNat (0 : Int)) [])) c614, .int .i64 (List.getD (List.getD r46 (Int.toNat (0 : Int)) []) (Int.toNat (0 : Int)) 0)] [(4, .slice A378 (List.length x381) c379), (5, .int .i64 (List.getD (List.getD r46 (Int.toNat (0 : Int)) []) (Int.toNat (0 : Int)) 0)), (6, .bool true), (7, .int .i64 0)] (fun w_ => [0 ≤ (0 : Int) ∧ (0 : Int) < (((List.length r46) : Nat) : Int), World.cell? w_ ⟨b60, o61 + (Int.toNat (0 : Int)) * 1, none⟩ = some (.slice (some ⟨b618, o619, none⟩) (List.length (List.getD r46 (Int.toNat (0 : Int)) [])) c614), 0 ≤ (0 : Int) ∧ (0 : Int) < (((List.length (List.getD r46 (Int.toNat (0 : Int)) [])) : Nat) : Int), World.cell? w_ ⟨b618, o619 + (Int.toNat (0 : Int)) * 1, none⟩ = some (.int .i64 (List.getD (List.getD r46 (Int.toNat (0 : Int)) []) (Int.toNat (0 : Int)) 0))]) 0 E (fun _ _ => by kernel_rfl) (by kernel_rfl) (fun w_ hS_ => ⟨g59, hS_.cell (hl615) (HR623.blk [] 0 rds_ro (idx_pos g59) rfl), g67, Rds.at1 (HR623.rdk [] hS_ 2 rds_ro rfl) 0 g67⟩) (by kernel_rfl) HS622 ?_
 clear E; intro a E
 refine dr_done (by kernel_rfl) ?_
 clear HS622 HR623
 refine th_n ?_
 refine wp_ret ?_
 obtain rfl := Option.some.inj hP
 refine ret4 E rfl rfl rfl rfl rfl ?_
 exact ⟨_, rfl, A378, c379, rfl, H.sel [1] rfl⟩

/-! rejoinder/rejoinderlaw28.awake -/
def law28_awake (N : Nat) : Option Bool :=
  Option.bind (near_Near N 1 ([false, true] : List Bool) ([0, 0] : List Int) ([(⟨0, -1, -2⟩ : Nd)] : List Nd) ([1, 0] : List Int)) fun r28 =>
  if (r28.2.2.2 : Int) = 0 then
    if r28.2.2.1 = true then
      if (r28.2.1 : Int) = 1 then
        Option.bind (kit_SameLetters N r28.1 ([1, 1] : List Int)) fun r48 =>
        some r48
      else
        some false
    else
      some false
  else
    some false
set_option maxRecDepth 100000 in
set_option maxHeartbeats 4000000 in
theorem law28_awake_calls {N : Nat} {S Fa : Nat → Prop} {w0 : World} {r : Bool} (H : Hp S Fa w0 w0 []) (hP : law28_awake N  = some r) :
    Calls Try.prog 23 #[] w0 fun e w' => ∃ v, e = .returned v ∧ v = .bool r ∧ Hp S Fa w0 w' [] := by
 refine enterV (n := 33) Try.func23 rfl rfl rfl ?_
 intro a E
 replace E := E.pick [] trivial
 rw [law28_awake] at hP
 refine wp_seq ?_
 refine wp_region_lit ?_
 refine vn tbok 1 [] [] [] E (by kernel_rfl) (by kernel_rfl) trivial ?_
 clear E; intro a E
 refine wpList_nil ?_
 refine th_n ?_
 refine wp_seq ?_
 refine wp_region_lit ?_
 refine h_buildSlice (ps := [(0, .bool false), (1, .bool true)]) (cs := [.bool false, .bool true]) H E rfl rfl tbok rfl rfl (by kernel_rfl) ?_
 intro w2 g1 a hc3 hg5 H_ E_
 replace E := E_ _ rfl; clear E_
 replace H := H_; clear H_; try dsimp only [setn, addE, goneL] at H
 refine h_buildSlice (ps := [(0, .int .i64 0), (1, .int .i64 0)]) (cs := [.int .i64 0, .int .i64 0]) H E rfl rfl tbok rfl rfl (by kernel_rfl) ?_
 intro w7 g6 a hc8 hg10 H_ E_
 replace E := E_ _ rfl; clear E_
 replace H := H_; clear H_; try dsimp only [setn, addE, goneL] at H
 refine e_build (ps := [(1, .int .i64 (-1)), (2, .int .i64 (-2))]) (v := .agg #[.int .i64 0, .int .i64 (-1), .int .i64 (-2)]) E rfl rfl tbok rfl (by kernel_rfl) rfl ?_
 clear E; intro a E
 refine h_buildSlice (ps := [(0, .agg #[.int .i64 0, .int .i64 (-1), .int .i64 (-2)])]) (cs := [.int .i64 0, .int .i64 (-1), .int .i64 (-2)]) H E rfl rfl tbok rfl rfl (by kernel_rfl) ?_
 intro w12 g11 a hc13 hg15 H_ E_
 replace E := E_ _ rfl; clear E_
 replace H := H_; clear H_; try dsimp only [setn, addE, goneL] at H
 refine e_build (ps := [(0, .int .i64 1), (1, .slice (some ⟨g1, 0, none⟩) 2 2), (2, .slice (some ⟨g6, 0, none⟩) 2 2), (3, .slice (some ⟨g11, 0, none⟩) 1 1)]) (v := .agg #[.int .i64 1, .slice (some ⟨g1, 0, none⟩) 2 2, .slice (some ⟨g6, 0, none⟩) 2 2, .slice (some ⟨g11, 0, none⟩) 1 1]) E rfl rfl tbok rfl (by kernel_rfl) rfl ?_
 clear E; intro a E
 refine h_alloc H E rfl rfl tbok rfl ?_
 intro w17 g16 a hc18 hg20 H_ E_
 replace E := E_ _ rfl; clear E_
 replace H := H_; clear H_; try dsimp only [setn, addE, goneL] at H
 refine h_store (g := g16) (off := 0) H 3 rfl E rfl rfl rfl rfl tbok rfl rfl rfl rfl rfl ?_
 clear E; intro w21 a hc22 H_ E
 replace H := H_; clear H_; try dsimp only [setn, addE, goneL] at H
 refine wpList_nil ?_
 refine th_n ?_
 refine wp_seq ?_
 refine wp_region_lit ?_
 refine vn tbok 1 [.agg #[.int .i64 1, .slice (some ⟨g1, 0, none⟩) 2 2, .slice (some ⟨g6, 0, none⟩) 2 2, .slice (some ⟨g11, 0, none⟩) 1 1]] [(12, .agg #[.int .i64 1, .slice (some ⟨g1, 0, none⟩) 2 2, .slice (some ⟨g6, 0, none⟩) 2 2, .slice (some ⟨g11, 0, none⟩) 1 1])] [cellsAt w21 g16 (0) [.int .i64 1, .slice (some ⟨g1, 0, none⟩) 2 2, .slice (some ⟨g6, 0, none⟩) 2 2, .slice (some ⟨g11, 0, none⟩) 1 1]] E (by kernel_rfl) (by kernel_rfl) ((H.box 3 rfl).sub 0 _ rfl) ?_
 clear E; intro a E
 refine h_buildSlice (ps := [(0, .int .u8 1), (1, .int .u8 0)]) (cs := [.int .u8 1, .int .u8 0]) H E rfl rfl tbok rfl rfl (by kernel_rfl) ?_
 intro w24 g23 a hc25 hg27 H_ E_
 replace E := E_ _ rfl; clear E_
 replace H := H_; clear H_; try dsimp only [setn, addE, goneL] at H
 replace H := H.boxRow cBool true ([false, true] : List Bool) 0 rfl (fun _ _ => ⟨_, _, rfl, rfl, ⟨_, _, rfl, rfl, rfl⟩⟩) (Nat.le_of_ble_eq_true rfl); try dsimp only [setn, addE, goneL] at H
 replace H := H.boxRow (cInt .i64) true ([0, 0] : List Int) 1 rfl (fun _ _ => ⟨_, _, rfl, rfl, ⟨_, _, rfl, rfl, rfl⟩⟩) (Nat.le_of_ble_eq_true rfl); try dsimp only [setn, addE, goneL] at H
 replace H := H.boxRow cNode true ([(⟨0, -1, -2⟩ : Nd)] : List Nd) 2 rfl (fun _ _ => ⟨_, _, rfl, rfl, rfl⟩) (Nat.le_of_ble_eq_true rfl); try dsimp only [setn, addE, goneL] at H
 replace H := H.boxRow (cInt .u8) true ([1, 0] : List Int) 4 rfl (fun _ _ => ⟨_, _, rfl, rfl, ⟨_, _, rfl, rfl, rfl⟩⟩) (Nat.le_of_ble_eq_true rfl); try dsimp only [setn, addE, goneL] at H
 obtain ⟨r28, h29, hP⟩ := bind_inv hP
 obtain ⟨Fa30, Hc31, hb32⟩ := H.call [] [(0, false), (1, false), (2, false), (4, false)] rfl rfl trivial
 refine e_call E rfl rfl Try.func14 rfl rfl rfl (near_Near_calls (some ⟨g1, 0, none⟩) 2 (some ⟨g6, 0, none⟩) 2 (some ⟨g11, 0, none⟩) 1 (some ⟨g23, 0, none⟩) 2 1 ([false, true] : List Bool) ([0, 0] : List Int) ([(⟨0, -1, -2⟩ : Nd)] : List Nd) ([1, 0] : List Int) (H.rcapx 0 rfl) (H.rcapx 1 rfl) (H.rcapx 2 rfl) (H.rcapx 4 rfl) Hc31 h29) ?_
 rintro v33 w34 a ⟨A37, c38, rfl, HR35⟩ E_
 replace E := E_ _ rfl; clear E_
 obtain ⟨H_, hc36⟩ := hb32 _ _ HR35 rfl
 replace H := H_; clear H_; try dsimp only [setn, addE, goneL] at H
 refine vn tbok 9 [] [(2, .slice A37 (List.length r28.1) c38), (3, .int .i64 r28.2.1), (4, .bool r28.2.2.1), (5, .int .i64 r28.2.2.2)] [] E (by kernel_rfl) (by kernel_rfl) trivial ?_
 clear E; intro a E
 refine wpList_nil ?_
 refine th_n ?_
 refine wp_seq ?_
 refine wp_region_lit ?_
 refine vn tbok 3 [] [(21, .bool ((r28.2.2.2 : Int) == 0))] [] E (by kernel_rfl) (by kernel_rfl) trivial ?_
 clear E; intro a E
 refine E.cases (t := 21) rfl (fun hb_ E_ => ?_) (fun hb_ E_ => ?_)
 ·
  replace E := E_; clear E_
  have h40 : (r28.2.2.2 : Int) = 0 := eq_of_beq hb_
  clear hb_; replace hP := ite_t h40 hP
  refine vn tbok 3 [] [(24, .bool r28.2.2.1)] [] E (by kernel_rfl) (by kernel_rfl) trivial ?_
  clear E; intro a E
  refine E.cases (t := 24) rfl (fun hb_ E_ => ?_) (fun hb_ E_ => ?_)
  ·
   replace E := E_; clear E_
   have h41 : r28.2.2.1 = true := hb_
   clear hb_; replace hP := ite_t h41 hP
   refine vn tbok 4 [] [(28, .bool ((r28.2.1 : Int) == 1))] [] E (by kernel_rfl) (by kernel_rfl) trivial ?_
   clear E; intro a E
   refine E.cases (t := 28) rfl (fun hb_ E_ => ?_) (fun hb_ E_ => ?_)
   ·
    replace E := E_; clear E_
    have h42 : (r28.2.1 : Int) = 1 := eq_of_beq hb_
    clear hb_; replace hP := ite_t h42 hP
    refine vn tbok 1 [] [(29, .slice A37 (List.length r28.1) c38)] [] E (by kernel_rfl) (by kernel_rfl) trivial ?_
    clear E; intro a E
    refine h_buildSlice (ps := [(0, .int .u8 1), (1, .int .u8 1)]) (cs := [.int .u8 1, .int .u8 1]) H E rfl rfl tbok rfl rfl (by kernel_rfl) ?_
    intro w44 g43 a hc45 hg47 H_ E_
    replace E := E_ _ rfl; clear E_
    replace H := H_; clear H_; try dsimp only [setn, addE, goneL] at H
    replace H := H.boxRow (cInt .u8) true ([1, 1] : List Int) 6 rfl (fun _ _ => ⟨_, _, rfl, rfl, ⟨_, _, rfl, rfl, rfl⟩⟩) (Nat.le_of_ble_eq_true rfl); try dsimp only [setn, addE, goneL] at H
    obtain ⟨r48, h49, hP⟩ := bind_inv hP
    obtain ⟨Fa50, Hc51, hb52⟩ := H.call [] [(5, false), (6, false)] rfl rfl trivial
    refine e_call E rfl rfl Try.func16 rfl rfl rfl (kit_SameLetters_calls A37 c38 (some ⟨g43, 0, none⟩) 2 r28.1 ([1, 1] : List Int) (H.rcap 5 rfl) (H.rcapx 6 rfl) Hc51 h49) ?_
    rintro v53 w54 a ⟨rfl, HR55⟩ E_
    replace E := E_ _ rfl; clear E_
    obtain ⟨H_, hc56⟩ := hb52 _ _ HR55 rfl
    replace H := H_; clear H_; try dsimp only [setn, addE, goneL] at H
    refine vn tbok 2 [] [(0, .bool r48)] [] E (by kernel_rfl) (by kernel_rfl) trivial ?_
    clear E; intro a E
    refine wpList_nil ?_
    refine th_n ?_
    refine wp_ret ?_
    obtain rfl := Option.some.inj hP
    refine ret1 E rfl rfl ?_
    exact ⟨_, rfl, rfl, H.sel [] rfl⟩
   replace E := E_; clear E_
   have h57 : ¬ ((r28.2.1 : Int) = 1) := ne_of_beq_false hb_
   clear hb_; replace hP := ite_f h57 hP
   refine vn tbok 5 [] [(0, .bool false)] [] E (by kernel_rfl) (by kernel_rfl) trivial ?_
   clear E; intro a E
   refine wpList_nil ?_
   refine th_n ?_
   refine wp_ret ?_
   obtain rfl := Option.some.inj hP
   refine ret1 E rfl rfl ?_
   exact ⟨_, rfl, rfl, H.sel [] rfl⟩
  replace E := E_; clear E_
  have h58 : ¬ (r28.2.2.1 = true) := (ne_true_of_eq_false hb_)
  clear hb_; replace hP := ite_f h58 hP
  refine vn tbok 9 [] [(0, .bool false)] [] E (by kernel_rfl) (by kernel_rfl) trivial ?_
  clear E; intro a E
  refine wpList_nil ?_
  refine th_n ?_
  refine wp_ret ?_
  obtain rfl := Option.some.inj hP
  refine ret1 E rfl rfl ?_
  exact ⟨_, rfl, rfl, H.sel [] rfl⟩
 replace E := E_; clear E_
 have h59 : ¬ ((r28.2.2.2 : Int) = 0) := ne_of_beq_false hb_
 clear hb_; replace hP := ite_f h59 hP
 refine vn tbok 12 [] [(0, .bool false)] [] E (by kernel_rfl) (by kernel_rfl) trivial ?_
 clear E; intro a E
 refine wpList_nil ?_
 refine th_n ?_
 refine wp_ret ?_
 obtain rfl := Option.some.inj hP
 refine ret1 E rfl rfl ?_
 exact ⟨_, rfl, rfl, H.sel [] rfl⟩

/-! rejoinder/near.Costs -/
def near_Costs (N : Nat) (aProps : Int) (aAccept : List Bool) (aGuard : List Int) (aNodes : List Nd) (t : List Int) : Option ((List (List Int)) × Int) :=
  Option.bind (near_asked N aProps aAccept aGuard aNodes t) fun r22 =>
  if (r22 : Int) = 0 then
    Option.bind (near_tables N aProps aAccept aGuard aNodes) fun r35 =>
    Option.bind (near_costs N aProps aAccept aGuard aNodes t r35) fun r47 =>
    some (r47, 0)
  else
    some ([], r22)
set_option maxRecDepth 100000 in
set_option maxHeartbeats 4000000 in
theorem near_Costs_calls {N : Nat} {S Fa : Nat → Prop} {w0 : World} {r : (List (List Int)) × Int} (A1 : Option Addr) (c2 : Nat) (A5 : Option Addr) (c6 : Nat) (A9 : Option Addr) (c10 : Nat) (A13 : Option Addr) (c14 : Nat) (aProps : Int) (aAccept : List Bool) (aGuard : List Int) (aNodes : List Nd) (t : List Int) (hk3 : List.length aAccept ≤ c2) (hk7 : List.length aGuard ≤ c6) (hk11 : List.length aNodes ≤ c10) (hk15 : List.length t ≤ c14) (H : Hp S Fa w0 w0 [.ro false cBool A1 aAccept, .ro false (cInt .i64) A5 aGuard, .ro false cNode A9 aNodes, .ro false (cInt .u8) A13 t]) (hP : near_Costs N aProps aAccept aGuard aNodes t = some r) :
    Calls Try.prog 17 #[.agg #[.int .i64 aProps, .slice A1 (List.length aAccept) c2, .slice A5 (List.length aGuard) c6, .slice A9 (List.length aNodes) c10], .slice A13 (List.length t) c14] w0 fun e w' => ∃ v, e = .returned v ∧ ∃ (A85 : Option Addr) (c86 : Nat), v = .tuple #[.slice A85 (List.length r.1) c86, .int .i64 r.2] ∧ List.length r.1 ≤ c86 ∧ Hp S Fa w0 w' [.ro true (cSl (cInt .i64)) A85 r.1] := by
 refine enterV (n := 18) Try.func17 rfl rfl rfl ?_
 intro a E
 replace E := E.pick [(0, .agg #[.int .i64 aProps, .slice A1 (List.length aAccept) c2, .slice A5 (List.length aGuard) c6, .slice A9 (List.length aNodes) c10]), (1, .slice A13 (List.length t) c14)] ⟨rfl, rfl, trivial⟩
 rw [near_Costs] at hP
 refine wp_seq ?_
 refine wp_region_lit ?_
 refine h_box H E rfl rfl rfl ?_
 intro w18 g17 a hc19 hg21 H_ E_
 replace E := E_ _ rfl; clear E_
 replace H := H_; clear H_; try dsimp only [setn, addE, goneL] at H
 refine vn tbok 2 [] [] [] E (by kernel_rfl) (by kernel_rfl) trivial ?_
 clear E; intro a E
 refine wpList_nil ?_
 refine th_n ?_
 refine wp_seq ?_
 refine wp_seq ?_
 refine wp_region_lit ?_
 refine vn tbok 2 [.agg #[.int .i64 aProps, .slice A1 (List.length aAccept) c2, .slice A5 (List.length aGuard) c6, .slice A9 (List.length aNodes) c10]] [(7, .agg #[.int .i64 aProps, .slice A1 (List.length aAccept) c2, .slice A5 (List.length aGuard) c6, .slice A9 (List.length aNodes) c10]), (8, .slice A13 (List.length t) c14)] [cellsAt w18 g17 (0) [.int .i64 aProps, .slice A1 (List.length aAccept) c2, .slice A5 (List.length aGuard) c6, .slice A9 (List.length aNodes) c10]] E (by kernel_rfl) (by kernel_rfl) ((H.box 4 rfl).sub 0 _ rfl) ?_
 clear E; intro a E
 obtain ⟨r22, h23, hP⟩ := bind_inv hP
 obtain ⟨Fa24, Hc25, hb26⟩ := H.call [] [(0, false), (1, false), (2, false), (3, false)] rfl rfl trivial
 refine e_call E rfl rfl Try.func31 rfl rfl rfl (near_asked_calls A1 c2 A5 c6 A9 c10 A13 c14 aProps aAccept aGuard aNodes t hk3 hk7 hk11 hk15 Hc25 h23) ?_
 rintro v27 w28 a ⟨rfl, HR29⟩ E_
 replace E := E_ _ rfl; clear E_
 obtain ⟨H_, hc30⟩ := hb26 _ _ HR29 rfl
 replace H := H_; clear H_; try dsimp only [setn, addE, goneL] at H
 refine vn tbok 1 [] [(6, .int .i64 r22)] [] E (by kernel_rfl) (by kernel_rfl) trivial ?_
 clear E; intro a E
 refine wpList_nil ?_
 refine th_n ?_
 refine wp_seq ?_
 refine wp_region_lit ?_
 refine vn tbok 2 [] [(11, .bool ((r22 : Int) != 0))] [] E (by kernel_rfl) (by kernel_rfl) trivial ?_
 clear E; intro a E
 refine wpList_nil ?_
 refine th_n ?_
 refine E.cases (t := 11) rfl (fun hb_ E_ => ?_) (fun hb_ E_ => ?_)
 ·
  replace E := E_; clear E_
  have h31 : ¬ ((r22 : Int) = 0) := bne_iff_ne.1 hb_
  clear hb_; replace hP := ite_f h31 hP
  refine c_true E rfl ?_
  refine wp_seq ?_
  refine wp_region_lit ?_
  refine vn tbok 3 [] [(4, .slice none 0 0), (5, .int .i64 r22)] [] E (by kernel_rfl) (by kernel_rfl) trivial ?_
  clear E; intro a E
  refine wpList_nil ?_
  refine th_n ?_
  refine wp_ret ?_
  refine th_ret ?_
  replace H := H.nilrow (cSl (cInt .i64)) 31; try dsimp only [setn, addE, goneL] at H
  have hk33 := H.rcap 5 rfl
  replace H := H.frz 5 rfl; try dsimp only [setn, addE, goneL] at H
  obtain rfl := Option.some.inj hP
  refine ret2 E rfl rfl rfl ?_
  exact ⟨_, rfl, none, 0, rfl, hk33, H.sel [5] rfl⟩
 replace E := E_; clear E_
 have h34 : (r22 : Int) = 0 := bne_eq_false_iff_eq.1 hb_
 clear hb_; replace hP := ite_t h34 hP
 refine c_false E rfl ?_
 refine wp_skip ?_
 refine th_n ?_
 refine wp_seq ?_
 obtain ⟨r35, h36, hP⟩ := bind_inv hP
 obtain ⟨r47, h48, hP⟩ := bind_inv hP
 have HR63 := H
 refine dr_start (S := fun w_ => Chg (atL []) w28 w_) (by kernel_rfl) ?_
 intro w60 hc61
 have HS62 : Chg (atL []) w28 w60 := hc61.mono (fun _ _ h_ => h_.elim)
 replace H := H.ext hc61
 refine dn tbok (by kernel_rfl) [0, 1, 2] [.agg #[.int .i64 aProps, .slice A1 (List.length aAccept) c2, .slice A5 (List.length aGuard) c6, .slice A9 (List.length aNodes) c10], .agg #[.int .i64 aProps, .slice A1 (List.length aAccept) c2, .slice A5 (List.length aGuard) c6, .slice A9 (List.length aNodes) c10]] [(13, .agg #[.int .i64 aProps, .slice A1 (List.length aAccept) c2, .slice A5 (List.length aGuard) c6, .slice A9 (List.length aNodes) c10]), (14, .slice A13 (List.length t) c14), (15, .agg #[.int .i64 aProps, .slice A1 (List.length aAccept) c2, .slice A5 (List.length aGuard) c6, .slice A9 (List.length aNodes) c10])] (fun w_ => [cellsAt w_ g17 (0) [.int .i64 aProps, .slice A1 (List.length aAccept) c2, .slice A5 (List.length aGuard) c6, .slice A9 (List.length aNodes) c10], cellsAt w_ g17 (0) [.int .i64 aProps, .slice A1 (List.length aAccept) c2, .slice A5 (List.length aGuard) c6, .slice A9 (List.length aNodes) c10]]) 4 E (fun _ _ => by kernel_rfl) (by kernel_rfl) (fun w_ hS_ => ⟨(HR63.boxk [] hS_ 4 rfl rfl).sub 0 _ rfl, (HR63.boxk [] hS_ 4 rfl rfl).sub 0 _ rfl⟩) (by kernel_rfl) HS62 ?_
 clear E; intro a E
 refine wpAnyH_all (rs := [3]) (by kernel_rfl) (by simp) ?_
 refine all1 ?_
 refine wpOp_of_list rfl ?_
 obtain ⟨Fa64, Hc65, hb66⟩ := H.call [] [(0, false), (1, false), (2, false)] rfl rfl trivial
 refine e_call E rfl rfl Try.func32 rfl rfl rfl (near_tables_calls A1 c2 A5 c6 A9 c10 aProps aAccept aGuard aNodes hk3 hk7 hk11 Hc65 h36) ?_
 rintro v67 w68 a ⟨A71, c72, rfl, HR69⟩ E_
 replace E := E_ _ rfl; clear E_
 obtain ⟨H_, hc70⟩ := hb66 _ _ HR69 rfl
 replace HS62 := HS62.ext (callS_ext hc70)
 replace H := H_; clear H_; try dsimp only [setn, addE, goneL] at H
 refine wpList_nil ?_
 refine th_n ⟨HS62, ?_⟩
 refine wpAnyH_all (rs := [4]) (by kernel_rfl) (by simp) ?_
 refine all1 ?_
 refine wpOp_of_list rfl ?_
 obtain ⟨Fa74, Hc75, hb76⟩ := H.call [] [(0, false), (1, false), (2, false), (3, false), (5, false)] rfl rfl trivial
 refine e_call E rfl rfl Try.func33 rfl rfl rfl (near_costs_calls A1 c2 A5 c6 A9 c10 A13 c14 A71 c72 aProps aAccept aGuard aNodes t r35 hk3 hk7 hk11 hk15 (H.rcap 5 rfl) Hc75 h48) ?_
 rintro v77 w78 a ⟨A81, c82, rfl, hk84, HR79⟩ E_
 replace E := E_ _ rfl; clear E_
 obtain ⟨H_, hc80⟩ := hb76 _ _ HR79 rfl
 replace HS62 := HS62.ext (callS_ext hc80)
 replace H := H_; clear H_; try dsimp only [setn, addE, goneL] at H
 refine wpList_nil ?_
 refine th_n ⟨HS62, ?_⟩
 refine dn tbok (by kernel_rfl) [5, 6] [] [(4, .slice A81 (List.length r47) c82), (5, .int .i64 0)] (fun w_ => []) 0 E (fun _ _ => by kernel_rfl) (by kernel_rfl) (fun w_ hS_ => trivial) (by kernel_rfl) HS62 ?_
 clear E; intro a E
 refine dr_done (by kernel_rfl) ?_
 clear HS62 HR63
 refine th_n ?_
 refine wp_ret ?_
 obtain rfl := Option.some.inj hP
 refine ret2 E rfl rfl rfl ?_
 exact ⟨_, rfl, A81, c82, rfl, hk84, H.sel [6] rfl⟩

/-! rejoinder/rejoinderkit.SameInts -/
def kit_SameInts_l0 (N : Nat) (aa : List Int) (b : List Int) : Nat → Int → Option (Unit ⊕ Bool)
  | 0, _ => none
  | m41 + 1, i25 =>
    if i25 < (((List.length aa) : Nat) : Int) then
      ask (idx i25 (List.length aa)) <|
      ask (idx i25 (List.length b)) <|
      if ((List.getD aa (Int.toNat i25) 0) : Int) = (List.getD b (Int.toNat i25) 0) then
        ask (in64 (i25 + 1)) <|
        kit_SameInts_l0 N aa b m41 (i25 + 1)
      else
        some (Sum.inr false)
    else
      some (Sum.inl ())
def kit_SameInts (N : Nat) (aa : List Int) (b : List Int) : Option Bool :=
  if ((((List.length aa) : Nat) : Int) : Int) = (((List.length b) : Nat) : Int) then
    Option.bind (kit_SameInts_l0 N aa b N 0) fun x42 =>
    Sum.elim (fun x47 =>
      some true)
     (fun x63 =>
      some x63) x42
  else
    some false
set_option maxRecDepth 100000 in
set_option maxHeartbeats 4000000 in
theorem kit_SameInts_calls {N : Nat} {S Fa : Nat → Prop} {w0 : World} {r : Bool} (A1 : Option Addr) (c2 : Nat) (A5 : Option Addr) (c6 : Nat) (aa : List Int) (b : List Int) (hk3 : List.length aa ≤ c2) (hk7 : List.length b ≤ c6) (H : Hp S Fa w0 w0 [.ro false (cInt .i64) A1 aa, .ro false (cInt .i64) A5 b]) (hP : kit_SameInts N aa b = some r) :
    Calls Try.prog 19 #[.slice A1 (List.length aa) c2, .slice A5 (List.length b) c6] w0 fun e w' => ∃ v, e = .returned v ∧ v = .bool r ∧ Hp S Fa w0 w' [] := by
 refine enterV (n := 26) Try.func19 rfl rfl rfl ?_
 intro a E
 replace E := E.pick [(0, .slice A1 (List.length aa) c2), (1, .slice A5 (List.length b) c6)] ⟨rfl, rfl, trivial⟩
 rw [kit_SameInts] at hP
 refine wp_seq ?_
 refine wp_region_lit ?_
 refine vn tbok 1 [] [] [] E (by kernel_rfl) (by kernel_rfl) trivial ?_
 clear E; intro a E
 refine wpList_nil ?_
 refine th_n ?_
 refine wp_seq ?_
 refine wp_seq ?_
 refine wp_region_lit ?_
 refine vn tbok 5 [] [(10, .bool (((((List.length aa) : Nat) : Int) : Int) != (((List.length b) : Nat) : Int)))] [] E (by kernel_rfl) (by kernel_rfl) trivial ?_
 clear E; intro a E
 refine wpList_nil ?_
 refine th_n ?_
 refine E.cases (t := 10) rfl (fun hb_ E_ => ?_) (fun hb_ E_ => ?_)
 ·
  replace E := E_; clear E_
  have h9 : ¬ (((((List.length aa) : Nat) : Int) : Int) = (((List.length b) : Nat) : Int)) := bne_iff_ne.1 hb_
  clear hb_; replace hP := ite_f h9 hP
  refine c_true E rfl ?_
  refine wp_seq ?_
  refine wp_region_lit ?_
  refine vn tbok 1 [] [(4, .bool false)] [] E (by kernel_rfl) (by kernel_rfl) trivial ?_
  clear E; intro a E
  refine wpList_nil ?_
  refine th_n ?_
  refine wp_ret ?_
  refine th_ret ?_
  obtain rfl := Option.some.inj hP
  refine ret1 E rfl rfl ?_
  exact ⟨_, rfl, rfl, H.sel [] rfl⟩
 replace E := E_; clear E_
 have h10 : ((((List.length aa) : Nat) : Int) : Int) = (((List.length b) : Nat) : Int) := bne_eq_false_iff_eq.1 hb_
 clear hb_; replace hP := ite_t h10 hP
 refine c_false E rfl ?_
 refine wp_skip ?_
 refine th_n ?_
 refine wp_seq ?_
 refine wp_seq ?_
 refine wp_region_lit ?_
 refine vn tbok 1 [] [(5, .int .i64 0)] [] E (by kernel_rfl) (by kernel_rfl) trivial ?_
 clear E; intro a E
 refine wpList_nil ?_
 refine th_n ?_
 refine wp_block ?_
 obtain ⟨x42, hL43, hK44⟩ := bind_inv hP
 clear hP
 refine loop_cut (fun i_ a w_ => (i_ = 0 ∧ ∃ (x47 : Unit), Fr a 26 [] ∧ Hp S Fa w0 w_ [] ∧ x42 = Sum.inl x47)) ?_ ?_
 ·
  refine loopV (fun m46 a w45 => ∃ (i25 : Int), Fr a 26 [(0, .slice A1 (List.length aa) c2), (1, .slice A5 (List.length b) c6), (5, .int .i64 i25)] ∧ Hp S Fa w0 w45 [.ro false (cInt .i64) A1 aa, .ro false (cInt .i64) A5 b] ∧ kit_SameInts_l0 N aa b m46 i25 = some x42) N ?_ ?_
  ·
   exact ⟨0, E.pick _ ⟨rfl, rfl, rfl, trivial⟩, H.sel [0, 1] rfl, hL43⟩
  clear E H hL43; intro m46 a w45 hI_
  obtain ⟨i25, E, H, hP⟩ := hI_
  obtain ⟨m41, rfl⟩ : ∃ q_, m46 = q_ + 1 := by cases m46 with | zero => rw [kit_SameInts_l0] at hP; cases hP | succ q_ => exact ⟨q_, rfl⟩
  rw [kit_SameInts_l0] at hP
  refine wp_seq ?_
  refine wp_seq ?_
  refine wp_region_lit ?_
  refine vn tbok 4 [] [(14, .bool (decide (i25 < (((List.length aa) : Nat) : Int))))] [] E (by kernel_rfl) (by kernel_rfl) trivial ?_
  clear E; intro a E
  refine wpList_nil ?_
  refine th_n ?_
  refine E.cases (t := 14) rfl (fun hb_ E_ => ?_) (fun hb_ E_ => ?_)
  ·
   replace E := E_; clear E_
   have h48 : i25 < (((List.length aa) : Nat) : Int) := of_decide_eq_true hb_
   clear hb_; replace hP := ite_t h48 hP
   refine c_true E rfl ?_
   refine wp_skip ?_
   refine th_n ?_
   refine wp_seq ?_
   refine wp_block ?_
   refine wp_seq ?_
   obtain ⟨g49, hP⟩ := ask_inv hP
   obtain ⟨b50, o51, e_b50⟩ := (H.rd 0 rds_ro).addr (idx_pos g49)
   subst e_b50
   obtain ⟨g52, hP⟩ := ask_inv hP
   obtain ⟨b53, o54, e_b53⟩ := (H.rd 1 rds_ro).addr (idx_pos g52)
   subst e_b53
   have HR58 := H
   refine dr_start (S := fun w_ => Chg (atL []) w45 w_) (by kernel_rfl) ?_
   intro w55 hc56
   have HS57 : Chg (atL []) w45 w55 := hc56.mono (fun _ _ h_ => h_.elim)
   replace H := H.ext hc56
   refine dn tbok (by kernel_rfl) [0, 1, 2, 3, 4, 5, 6, 7, 8] [.int .i64 (List.getD aa (Int.toNat i25) 0), .int .i64 (List.getD b (Int.toNat i25) 0)] [(25, .bool (((List.getD aa (Int.toNat i25) 0) : Int) != (List.getD b (Int.toNat i25) 0)))] (fun w_ => [0 ≤ i25 ∧ i25 < (((List.length aa) : Nat) : Int), World.cell? w_ ⟨b50, o51 + (Int.toNat i25) * 1, none⟩ = some (.int .i64 (List.getD aa (Int.toNat i25) 0)), 0 ≤ i25 ∧ i25 < (((List.length b) : Nat) : Int), World.cell? w_ ⟨b53, o54 + (Int.toNat i25) * 1, none⟩ = some (.int .i64 (List.getD b (Int.toNat i25) 0))]) 0 E (fun _ _ => by kernel_rfl) (by kernel_rfl) (fun w_ hS_ => ⟨g49, Rds.at1 (HR58.rdk [] hS_ 0 rds_ro rfl) 0 g49, g52, Rds.at1 (HR58.rdk [] hS_ 1 rds_ro rfl) 0 g52⟩) (by kernel_rfl) HS57 ?_
   clear E; intro a E
   refine dr_done (by kernel_rfl) ?_
   clear HS57 HR58
   refine th_n ?_
   refine E.cases (t := 25) rfl (fun hb_ E_ => ?_) (fun hb_ E_ => ?_)
   ·
    replace E := E_; clear E_
    have h59 : ¬ (((List.getD aa (Int.toNat i25) 0) : Int) = (List.getD b (Int.toNat i25) 0)) := bne_iff_ne.1 hb_
    clear hb_; replace hP := ite_f h59 hP
    refine c_true E rfl ?_
    refine wp_seq ?_
    refine wp_region_lit ?_
    refine vn tbok 1 [] [(4, .bool false)] [] E (by kernel_rfl) (by kernel_rfl) trivial ?_
    clear E; intro a E
    refine wpList_nil ?_
    refine th_n ?_
    refine wp_ret ?_
    refine bl_ret ?_
    refine th_ret ?_
    refine th_ret ?_
    refine .inr ⟨rfl, ?_⟩
    refine bl_ret ?_
    refine th_ret ?_
    have hx_ := Option.some.inj hP; subst hx_
    have hP : some (false) = some r := hK44
    obtain rfl := Option.some.inj hP
    refine ret1 E rfl rfl ?_
    exact ⟨_, rfl, rfl, H.sel [] rfl⟩
   replace E := E_; clear E_
   have h60 : ((List.getD aa (Int.toNat i25) 0) : Int) = (List.getD b (Int.toNat i25) 0) := bne_eq_false_iff_eq.1 hb_
   clear hb_; replace hP := ite_t h60 hP
   refine c_false E rfl ?_
   refine wp_skip ?_
   refine bl_n ?_
   refine th_n ?_
   refine wp_region_lit ?_
   obtain ⟨g61, hP⟩ := ask_inv hP
   refine vn tbok 3 [.int .i64 (i25 + 1)] [(5, .int .i64 (i25 + 1))] [IntKind.i64.wrap (i25 + 1) = i25 + 1] E (by kernel_rfl) (by kernel_rfl) (wrap_in g61) ?_
   clear E; intro a E
   refine wpList_nil ?_
   exact th_n ⟨m41, Nat.lt_succ_self _, i25 + 1, E.pick _ ⟨rfl, rfl, rfl, trivial⟩, H.sel [0, 1] rfl, hP⟩
  replace E := E_; clear E_
  have h62 : ¬ (i25 < (((List.length aa) : Nat) : Int)) := of_decide_eq_false hb_
  clear hb_; replace hP := ite_f h62 hP
  refine c_false E rfl ?_
  refine wp_exit ?_
  refine th_exit ?_
  have hx_ := Option.some.inj hP
  refine th_exit (.inl ⟨0, rfl, ?_⟩)
  exact ⟨rfl, (), E.pick _ trivial, H.sel [] rfl, hx_.symm⟩
 clear E H hL43; intro i_ a w45 hM_
 obtain ⟨rfl, x47, E, H, hx_⟩ := hM_
 subst hx_; have hP := elim_l hK44
 clear hK44
 refine bl_hit ?_
 refine th_n ?_
 refine wp_seq ?_
 refine wp_region_lit ?_
 refine vn tbok 1 [] [(4, .bool true)] [] E (by kernel_rfl) (by kernel_rfl) trivial ?_
 clear E; intro a E
 refine wpList_nil ?_
 refine th_n ?_
 refine wp_ret ?_
 obtain rfl := Option.some.inj hP
 refine ret1 E rfl rfl ?_
 exact ⟨_, rfl, rfl, H.sel [] rfl⟩

/-! rejoinder/rejoinderlaw16.Small -/
def law16_Small (N : Nat) (aProps : Int) (aAccept : List Bool) (aGuard : List Int) (aNodes : List Nd) : Option Bool :=
  if (((List.length aAccept) : Nat) : Int) ≤ 24 then
    if aProps ≤ 4 then
      if (((List.length aNodes) : Nat) : Int) ≤ 400 then
        some (decide ((((List.length aGuard) : Nat) : Int) ≤ 300))
      else
        some false
    else
      some false
  else
    some false
set_option maxRecDepth 100000 in
set_option maxHeartbeats 4000000 in
theorem law16_Small_calls {N : Nat} {S Fa : Nat → Prop} {w0 : World} {r : Bool} (A1 : Option Addr) (c2 : Nat) (A5 : Option Addr) (c6 : Nat) (A9 : Option Addr) (c10 : Nat) (aProps : Int) (aAccept : List Bool) (aGuard : List Int) (aNodes : List Nd) (hk3 : List.length aAccept ≤ c2) (hk7 : List.length aGuard ≤ c6) (hk11 : List.length aNodes ≤ c10) (H : Hp S Fa w0 w0 [.ro false cBool A1 aAccept, .ro false (cInt .i64) A5 aGuard, .ro false cNode A9 aNodes]) (hP : law16_Small N aProps aAccept aGuard aNodes = some r) :
    Calls Try.prog 12 #[.agg #[.int .i64 aProps, .slice A1 (List.length aAccept) c2, .slice A5 (List.length aGuard) c6, .slice A9 (List.length aNodes) c10]] w0 fun e w' => ∃ v, e = .returned v ∧ v = .bool r ∧ Hp S Fa w0 w' [] := by
 refine enterV (n := 24) Try.func12 rfl rfl rfl ?_
 intro a E
 replace E := E.pick [(0, .agg #[.int .i64 aProps, .slice A1 (List.length aAccept) c2, .slice A5 (List.length aGuard) c6, .slice A9 (List.length aNodes) c10])] ⟨rfl, trivial⟩
 rw [law16_Small] at hP
 refine wp_seq ?_
 refine wp_region_lit ?_
 refine h_box H E rfl rfl rfl ?_
 intro w14 g13 a hc15 hg17 H_ E_
 replace E := E_ _ rfl; clear E_
 replace H := H_; clear H_; try dsimp only [setn, addE, goneL] at H
 refine vn tbok 1 [] [] [] E (by kernel_rfl) (by kernel_rfl) trivial ?_
 clear E; intro a E
 refine wpList_nil ?_
 refine th_n ?_
 refine wp_seq ?_
 refine wp_region_lit ?_
 refine vn tbok 5 [.slice A1 (List.length aAccept) c2] [(7, .bool (decide ((((List.length aAccept) : Nat) : Int) ≤ 24)))] [World.cell? w14 ⟨g13, 1, none⟩ = some (.slice A1 (List.length aAccept) c2)] E (by kernel_rfl) (by kernel_rfl) ((H.box 3 rfl).cell (j := 1) rfl) ?_
 clear E; intro a E
 refine E.cases (t := 7) rfl (fun hb_ E_ => ?_) (fun hb_ E_ => ?_)
 ·
  replace E := E_; clear E_
  have h18 : (((List.length aAccept) : Nat) : Int) ≤ 24 := of_decide_eq_true hb_
  clear hb_; replace hP := ite_t h18 hP
  refine vn tbok 5 [.int .i64 aProps] [(12, .bool (decide (aProps ≤ 4)))] [World.cell? w14 ⟨g13, 0, none⟩ = some (.int .i64 aProps)] E (by kernel_rfl) (by kernel_rfl) ((H.box 3 rfl).cell (j := 0) rfl) ?_
  clear E; intro a E
  refine E.cases (t := 12) rfl (fun hb_ E_ => ?_) (fun hb_ E_ => ?_)
  ·
   replace E := E_; clear E_
   have h19 : aProps ≤ 4 := of_decide_eq_true hb_
   clear hb_; replace hP := ite_t h19 hP
   refine vn tbok 6 [.slice A9 (List.length aNodes) c10] [(18, .bool (decide ((((List.length aNodes) : Nat) : Int) ≤ 400)))] [World.cell? w14 ⟨g13, 3, none⟩ = some (.slice A9 (List.length aNodes) c10)] E (by kernel_rfl) (by kernel_rfl) ((H.box 3 rfl).cell (j := 3) rfl) ?_
   clear E; intro a E
   refine E.cases (t := 18) rfl (fun hb_ E_ => ?_) (fun hb_ E_ => ?_)
   ·
    replace E := E_; clear E_
    have h20 : (((List.length aNodes) : Nat) : Int) ≤ 400 := of_decide_eq_true hb_
    clear hb_; replace hP := ite_t h20 hP
    refine vn tbok 6 [.slice A5 (List.length aGuard) c6] [(2, .bool (decide ((((List.length aGuard) : Nat) : Int) ≤ 300)))] [World.cell? w14 ⟨g13, 2, none⟩ = some (.slice A5 (List.length aGuard) c6)] E (by kernel_rfl) (by kernel_rfl) ((H.box 3 rfl).cell (j := 2) rfl) ?_
    clear E; intro a E
    refine wpList_nil ?_
    refine th_n ?_
    refine wp_ret ?_
    obtain rfl := Option.some.inj hP
    refine ret1 E rfl rfl ?_
    exact ⟨_, rfl, rfl, H.sel [] rfl⟩
   replace E := E_; clear E_
   have h21 : ¬ ((((List.length aNodes) : Nat) : Int) ≤ 400) := of_decide_eq_false hb_
   clear hb_; replace hP := ite_f h21 hP
   refine vn tbok 6 [] [(2, .bool false)] [] E (by kernel_rfl) (by kernel_rfl) trivial ?_
   clear E; intro a E
   refine wpList_nil ?_
   refine th_n ?_
   refine wp_ret ?_
   obtain rfl := Option.some.inj hP
   refine ret1 E rfl rfl ?_
   exact ⟨_, rfl, rfl, H.sel [] rfl⟩
  replace E := E_; clear E_
  have h22 : ¬ (aProps ≤ 4) := of_decide_eq_false hb_
  clear hb_; replace hP := ite_f h22 hP
  refine vn tbok 12 [] [(2, .bool false)] [] E (by kernel_rfl) (by kernel_rfl) trivial ?_
  clear E; intro a E
  refine wpList_nil ?_
  refine th_n ?_
  refine wp_ret ?_
  obtain rfl := Option.some.inj hP
  refine ret1 E rfl rfl ?_
  exact ⟨_, rfl, rfl, H.sel [] rfl⟩
 replace E := E_; clear E_
 have h23 : ¬ ((((List.length aAccept) : Nat) : Int) ≤ 24) := of_decide_eq_false hb_
 clear hb_; replace hP := ite_f h23 hP
 refine vn tbok 17 [] [(2, .bool false)] [] E (by kernel_rfl) (by kernel_rfl) trivial ?_
 clear E; intro a E
 refine wpList_nil ?_
 refine th_n ?_
 refine wp_ret ?_
 obtain rfl := Option.some.inj hP
 refine ret1 E rfl rfl ?_
 exact ⟨_, rfl, rfl, H.sel [] rfl⟩

end Go.V
