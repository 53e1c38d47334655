/- Plain functions, and the calls that give them. -/
import Derived.Test.YtflangjkfaalkaaA7
set_option linter.all false
set_option linter.unusedVariables false
set_option linter.unnecessarySimpa false
set_option linter.unusedSimpArgs false
namespace Go.V
open Go Go.Proofs
/-! rejoinder/rejoinderlaw26.MooreKeeps -/
def law26_MooreKeeps_j0 (N : Nat) (aProps : Int) (aAccept : List Bool) (aGuard : List Int) (aNodes : List Nd) (s : Int × Int) (r27 : Bool) (r49 : (Bool × (List Int) × (List Int) × (List (List Int))) × Int) : Option Bool :=
    if r27 = true then
      if ((((List.length r49.1.2.1) : Nat) : Int) : Int) = 0 then
        Option.bind (board_Check N aProps aAccept aGuard aNodes (s.1, s.2)) fun r96 =>
        some ((r96 : Int) == r49.2)
      else
        some false
    else
      some false
def law26_MooreKeeps_j1 (N : Nat) (s : Int × Int) (r49 : (Bool × (List Int) × (List Int) × (List (List Int))) × Int) : Option Int :=
    if r49.1.1 = true then
      some s.1
    else
      some s.2
def law26_MooreKeeps_l2 (N : Nat) (moves : List Int) (r133 : List Int) : Nat → (List Int) → Int → Option (List Int)
  | 0, _, _ => none
  | m199 + 1, l169, i172 =>
    if i172 < (((List.length moves) : Nat) : Int) then
      ask (idx i172 (List.length moves)) <|
      ask ((((List.length r133) : Nat) : Int) ≠ 0) <|
      ask (idx (Int.tmod (andV .i64 (List.getD moves (Int.toNat i172) 0) 1023) (((List.length r133) : Nat) : Int)) (List.length r133)) <|
      ask (List.length l169 + List.length ([(List.getD r133 (Int.toNat (Int.tmod (andV .i64 (List.getD moves (Int.toNat i172) 0) 1023) (((List.length r133) : Nat) : Int))) 0)] : List Int) ≤ 1000000000) <|
      ask (in64 (i172 + 1)) <|
      law26_MooreKeeps_l2 N moves r133 m199 (l169 ++ ([(List.getD r133 (Int.toNat (Int.tmod (andV .i64 (List.getD moves (Int.toNat i172) 0) 1023) (((List.length r133) : Nat) : Int))) 0)] : List Int)) (i172 + 1)
    else
      some l169
def law26_MooreKeeps_l3 (N : Nat) (aAccept : List Bool) (r49 : (Bool × (List Int) × (List Int) × (List (List Int))) × Int) (r228 : (List Int) × Int) : Nat → Int → Option (Unit ⊕ Bool)
  | 0, _ => none
  | m379 + 1, i298 =>
    if i298 < (((List.length r228.1) : Nat) : Int) then
      ask (idx i298 (List.length r228.1)) <|
      if (List.getD r228.1 (Int.toNat i298) 0) < 0 then
        some (Sum.inr false)
      else
        if (((List.length aAccept) : Nat) : Int) ≤ (List.getD r228.1 (Int.toNat i298) 0) then
          some (Sum.inr false)
        else
          if r49.1.1 = true then
            if r49.1.1 = true then
              if 0 < i298 then
                ask (idx (List.getD r228.1 (Int.toNat i298) 0) (List.length r49.1.2.1)) <|
                ask (in64 (i298 - 1)) <|
                ask (idx (i298 - 1) (List.length r228.1)) <|
                ask (idx (List.getD r228.1 (Int.toNat (i298 - 1)) 0) (List.length r49.1.2.1)) <|
                if (List.getD r49.1.2.1 (Int.toNat (List.getD r228.1 (Int.toNat (i298 - 1)) 0)) 0) ≤ (List.getD r49.1.2.1 (Int.toNat (List.getD r228.1 (Int.toNat i298) 0)) 0) then
                  some (Sum.inr false)
                else
                  ask (in64 (i298 + 1)) <|
                  law26_MooreKeeps_l3 N aAccept r49 r228 m379 (i298 + 1)
              else
                ask (in64 (i298 + 1)) <|
                law26_MooreKeeps_l3 N aAccept r49 r228 m379 (i298 + 1)
            else
              ask (in64 (i298 + 1)) <|
              law26_MooreKeeps_l3 N aAccept r49 r228 m379 (i298 + 1)
          else
            ask (idx (List.getD r228.1 (Int.toNat i298) 0) (List.length aAccept)) <|
            if (List.getD aAccept (Int.toNat (List.getD r228.1 (Int.toNat i298) 0)) false) = true then
              some (Sum.inr false)
            else
              ask (idx (List.getD r228.1 (Int.toNat i298) 0) (List.length r49.1.2.1)) <|
              if ((List.getD r49.1.2.1 (Int.toNat (List.getD r228.1 (Int.toNat i298) 0)) 0) : Int) = -1 then
                if r49.1.1 = true then
                  if 0 < i298 then
                    ask (in64 (i298 - 1)) <|
                    ask (idx (i298 - 1) (List.length r228.1)) <|
                    ask (idx (List.getD r228.1 (Int.toNat (i298 - 1)) 0) (List.length r49.1.2.1)) <|
                    if (List.getD r49.1.2.1 (Int.toNat (List.getD r228.1 (Int.toNat (i298 - 1)) 0)) 0) ≤ (List.getD r49.1.2.1 (Int.toNat (List.getD r228.1 (Int.toNat i298) 0)) 0) then
                      some (Sum.inr false)
                    else
                      ask (in64 (i298 + 1)) <|
                      law26_MooreKeeps_l3 N aAccept r49 r228 m379 (i298 + 1)
                  else
                    ask (in64 (i298 + 1)) <|
                    law26_MooreKeeps_l3 N aAccept r49 r228 m379 (i298 + 1)
                else
                  ask (in64 (i298 + 1)) <|
                  law26_MooreKeeps_l3 N aAccept r49 r228 m379 (i298 + 1)
              else
                some (Sum.inr false)
    else
      some (Sum.inl ())
def law26_MooreKeeps (N : Nat) (aProps : Int) (aAccept : List Bool) (aGuard : List Int) (aNodes : List Nd) (s : Int × Int) (moves : List Int) : Option Bool :=
  Option.bind (law26_awake N) fun r27 =>
  Option.bind (law16_Small N aProps aAccept aGuard aNodes) fun r36 =>
  if r36 = true then
    if 60 < (((List.length moves) : Nat) : Int) then
      some r27
    else
      Option.bind (moore_Of N aProps aAccept aGuard aNodes (s.1, s.2)) fun r49 =>
      if (r49.2 : Int) = 0 then
        Option.bind (moore_Check N aProps aAccept aGuard aNodes (s.1, s.2) r49.1.1 r49.1.2.1 r49.1.2.2.1 r49.1.2.2.2) fun r108 =>
        if (r108.2 : Int) = 0 then
          if r108.1 = true then
            if ((((List.length r49.1.2.1) : Nat) : Int) : Int) = (((List.length aAccept) : Nat) : Int) then
              Option.bind (law26_MooreKeeps_j1 N s r49) fun x126 =>
              Option.bind (board_Moves N x126) fun r133 =>
              if ((((List.length r133) : Nat) : Int) : Int) = 0 then
                some false
              else
                Option.bind (law26_MooreKeeps_l2 N moves r133 N [] 0) fun x200 =>
                Option.bind (moore_Play N aProps aAccept aGuard aNodes (s.1, s.2) r49.1.1 r49.1.2.1 r49.1.2.2.1 r49.1.2.2.2 x200) fun r228 =>
                if (r228.2 : Int) = 0 then
                  if ((((List.length r228.1) : Nat) : Int) : Int) = 0 then
                    some false
                  else
                    ask (in64 ((((List.length x200) : Nat) : Int) + 1)) <|
                    if ((((List.length x200) : Nat) : Int) + 1) < (((List.length r228.1) : Nat) : Int) then
                      some false
                    else
                      Option.bind (law26_MooreKeeps_l3 N aAccept r49 r228 N 0) fun x380 =>
                      Sum.elim (fun x385 =>
                        if r27 = true then
                          if r49.1.1 = true then
                            ask (idx (0 : Int) (List.length r49.1.2.1)) <|
                            if (((List.length x200) : Nat) : Int) < (List.getD r49.1.2.1 (Int.toNat (0 : Int)) 0) then
                              some true
                            else
                              ask (in64 ((((List.length r228.1) : Nat) : Int) - 1)) <|
                              ask (idx ((((List.length r228.1) : Nat) : Int) - 1) (List.length r228.1)) <|
                              ask (idx (List.getD r228.1 (Int.toNat ((((List.length r228.1) : Nat) : Int) - 1)) 0) (List.length aAccept)) <|
                              some (List.getD aAccept (Int.toNat (List.getD r228.1 (Int.toNat ((((List.length r228.1) : Nat) : Int) - 1)) 0)) false)
                          else
                            some true
                        else
                          some false)
                       (fun x466 =>
                        some x466) x380
                else
                  some false
            else
              some false
          else
            some false
        else
          some false
      else
        Option.bind (law26_MooreKeeps_j0 N aProps aAccept aGuard aNodes s r27 r49) fun x89 =>
        some x89
  else
    some r27
set_option maxRecDepth 100000 in
set_option maxHeartbeats 4000000 in
theorem law26_MooreKeeps_calls {N : Nat} {S Fa : Nat → Prop} {w0 : World} {r : Bool} (A1 : Option Addr) (c2 : Nat) (A5 : Option Addr) (c6 : Nat) (A9 : Option Addr) (c10 : Nat) (A13 : Option Addr) (c14 : Nat) (aProps : Int) (aAccept : List Bool) (aGuard : List Int) (aNodes : List Nd) (s : Int × Int) (moves : List Int) (hk3 : List.length aAccept ≤ c2) (hk7 : List.length aGuard ≤ c6) (hk11 : List.length aNodes ≤ c10) (hk15 : List.length moves ≤ c14) (H : Hp S Fa w0 w0 [.ro false cBool A1 aAccept, .ro false (cInt .i64) A5 aGuard, .ro false cNode A9 aNodes, .ro false (cInt .i64) A13 moves]) (hP : law26_MooreKeeps N aProps aAccept aGuard aNodes s moves = some r) :
    Calls Try.prog 7 #[.agg #[.int .i64 aProps, .slice A1 (List.length aAccept) c2, .slice A5 (List.length aGuard) c6, .slice A9 (List.length aNodes) c10], .agg #[.int .u8 s.1, .int .u8 s.2], .slice A13 (List.length moves) c14] w0 fun e w' => ∃ v, e = .returned v ∧ v = .bool r ∧ Hp S Fa w0 w' [] := by
 refine enterV (n := 227) Try.func7 rfl rfl rfl ?_
 intro a E
 replace E := E.pick [(0, .agg #[.int .i64 aProps, .slice A1 (List.length aAccept) c2, .slice A5 (List.length aGuard) c6, .slice A9 (List.length aNodes) c10]), (1, .agg #[.int .u8 s.1, .int .u8 s.2]), (2, .slice A13 (List.length moves) c14)] ⟨rfl, rfl, rfl, trivial⟩
 rw [law26_MooreKeeps] at hP
 refine wp_seq ?_
 refine wp_region_lit ?_
 refine h_box H E rfl rfl rfl ?_
 intro w18 g17 a hc19 hg21 H_ E_
 replace E := E_ _ rfl; clear E_
 replace H := H_; clear H_; try dsimp only [setn, addE, goneL] at H
 refine h_box H E rfl rfl rfl ?_
 intro w23 g22 a hc24 hg26 H_ E_
 replace E := E_ _ rfl; clear E_
 replace H := H_; clear H_; try dsimp only [setn, addE, goneL] at H
 refine vn tbok 1 [] [] [] E (by kernel_rfl) (by kernel_rfl) trivial ?_
 clear E; intro a E
 refine wpList_nil ?_
 refine th_n ?_
 refine wp_seq ?_
 refine wp_region_lit ?_
 obtain ⟨r27, h28, hP⟩ := bind_inv hP
 obtain ⟨Fa29, Hc30, hb31⟩ := H.call [] [] rfl rfl trivial
 refine e_call E rfl rfl Try.func26 rfl rfl rfl (law26_awake_calls    Hc30 h28) ?_
 rintro v32 w33 a ⟨rfl, HR34⟩ E_
 replace E := E_ _ rfl; clear E_
 obtain ⟨H_, hc35⟩ := hb31 _ _ HR34 rfl
 replace H := H_; clear H_; try dsimp only [setn, addE, goneL] at H
 refine vn tbok 1 [] [(7, .bool r27)] [] E (by kernel_rfl) (by kernel_rfl) trivial ?_
 clear E; intro a E
 refine wpList_nil ?_
 refine th_n ?_
 refine wp_seq ?_
 refine wp_seq ?_
 refine wp_region_lit ?_
 refine vn tbok 1 [.agg #[.int .i64 aProps, .slice A1 (List.length aAccept) c2, .slice A5 (List.length aGuard) c6, .slice A9 (List.length aNodes) c10]] [(20, .agg #[.int .i64 aProps, .slice A1 (List.length aAccept) c2, .slice A5 (List.length aGuard) c6, .slice A9 (List.length aNodes) c10])] [cellsAt w33 g17 (0) [.int .i64 aProps, .slice A1 (List.length aAccept) c2, .slice A5 (List.length aGuard) c6, .slice A9 (List.length aNodes) c10]] E (by kernel_rfl) (by kernel_rfl) ((H.box 4 rfl).sub 0 _ rfl) ?_
 clear E; intro a E
 obtain ⟨r36, h37, hP⟩ := bind_inv hP
 obtain ⟨Fa38, Hc39, hb40⟩ := H.call [] [(0, false), (1, false), (2, false)] rfl rfl trivial
 refine e_call E rfl rfl Try.func8 rfl rfl rfl (law16_Small_calls A1 c2 A5 c6 A9 c10 aProps aAccept aGuard aNodes hk3 hk7 hk11 Hc39 h37) ?_
 rintro v41 w42 a ⟨rfl, HR43⟩ E_
 replace E := E_ _ rfl; clear E_
 obtain ⟨H_, hc44⟩ := hb40 _ _ HR43 rfl
 replace H := H_; clear H_; try dsimp only [setn, addE, goneL] at H
 refine vn tbok 2 [] [(23, .bool (!r36))] [] E (by kernel_rfl) (by kernel_rfl) trivial ?_
 clear E; intro a E
 refine E.cases (t := 23) rfl (fun hb_ E_ => ?_) (fun hb_ E_ => ?_)
 ·
  replace E := E_; clear E_
  have h45 : ¬ (r36 = true) := (ne_true_of_eq_false (not_t hb_))
  clear hb_; replace hP := ite_f h45 hP
  refine vn tbok 4 [] [(27, .bool true)] [] E (by kernel_rfl) (by kernel_rfl) trivial ?_
  clear E; intro a E
  refine wpList_nil ?_
  refine th_n ?_
  refine c_true E rfl ?_
  refine wp_seq ?_
  refine wp_region_lit ?_
  refine vn tbok 2 [] [(6, .bool r27)] [] E (by kernel_rfl) (by kernel_rfl) trivial ?_
  clear E; intro a E
  refine wpList_nil ?_
  refine th_n ?_
  refine wp_ret ?_
  refine th_ret ?_
  obtain rfl := Option.some.inj hP
  refine ret1 E rfl rfl ?_
  exact ⟨_, rfl, rfl, H.sel [] rfl⟩
 replace E := E_; clear E_
 have h46 : r36 = true := (not_f hb_)
 clear hb_; replace hP := ite_t h46 hP
 refine vn tbok 4 [] [(27, .bool (decide (60 < (((List.length moves) : Nat) : Int))))] [] E (by kernel_rfl) (by kernel_rfl) trivial ?_
 clear E; intro a E
 refine wpList_nil ?_
 refine th_n ?_
 refine E.cases (t := 27) rfl (fun hb_ E_ => ?_) (fun hb_ E_ => ?_)
 ·
  replace E := E_; clear E_
  have h47 : 60 < (((List.length moves) : Nat) : Int) := of_decide_eq_true hb_
  clear hb_; replace hP := ite_t h47 hP
  refine c_true E rfl ?_
  refine wp_seq ?_
  refine wp_region_lit ?_
  refine vn tbok 2 [] [(6, .bool r27)] [] E (by kernel_rfl) (by kernel_rfl) trivial ?_
  clear E; intro a E
  refine wpList_nil ?_
  refine th_n ?_
  refine wp_ret ?_
  refine th_ret ?_
  obtain rfl := Option.some.inj hP
  refine ret1 E rfl rfl ?_
  exact ⟨_, rfl, rfl, H.sel [] rfl⟩
 replace E := E_; clear E_
 have h48 : ¬ (60 < (((List.length moves) : Nat) : Int)) := of_decide_eq_false hb_
 clear hb_; replace hP := ite_f h48 hP
 refine c_false E rfl ?_
 refine wp_skip ?_
 refine th_n ?_
 refine wp_seq ?_
 refine wp_region_lit ?_
 refine vn tbok 2 [.agg #[.int .i64 aProps, .slice A1 (List.length aAccept) c2, .slice A5 (List.length aGuard) c6, .slice A9 (List.length aNodes) c10], .agg #[.int .u8 s.1, .int .u8 s.2]] [(30, .agg #[.int .i64 aProps, .slice A1 (List.length aAccept) c2, .slice A5 (List.length aGuard) c6, .slice A9 (List.length aNodes) c10]), (31, .agg #[.int .u8 s.1, .int .u8 s.2])] [cellsAt w42 g17 (0) [.int .i64 aProps, .slice A1 (List.length aAccept) c2, .slice A5 (List.length aGuard) c6, .slice A9 (List.length aNodes) c10], cellsAt w42 g22 (0) [.int .u8 s.1, .int .u8 s.2]] E (by kernel_rfl) (by kernel_rfl) ⟨(H.box 4 rfl).sub 0 _ rfl, (H.box 5 rfl).sub 0 _ rfl⟩ ?_
 clear E; intro a E
 obtain ⟨r49, h50, hP⟩ := bind_inv hP
 obtain ⟨Fa51, Hc52, hb53⟩ := H.call [] [(0, false), (1, false), (2, false)] rfl rfl trivial
 refine e_call E rfl rfl Try.func12 rfl rfl rfl (moore_Of_calls A1 c2 A5 c6 A9 c10 aProps aAccept aGuard aNodes (s.1, s.2) hk3 hk7 hk11 Hc52 h50) ?_
 rintro v54 w55 a ⟨A58, c59, A61, c62, A64, c65, rfl, HR56⟩ E_
 replace E := E_ _ rfl; clear E_
 obtain ⟨H_, hc57⟩ := hb53 _ _ HR56 rfl
 replace H := H_; clear H_; try dsimp only [setn, addE, goneL] at H
 refine vn tbok 3 [] [(33, .agg #[.bool r49.1.1, .slice A58 (List.length r49.1.2.1) c59, .slice A61 (List.length r49.1.2.2.1) c62, .slice A64 (List.length r49.1.2.2.2) c65]), (34, .int .i64 r49.2)] [] E (by kernel_rfl) (by kernel_rfl) trivial ?_
 clear E; intro a E
 refine h_alloc H E rfl rfl tbok rfl ?_
 intro w68 g67 a hc69 hg71 H_ E_
 replace E := E_ _ rfl; clear E_
 replace H := H_; clear H_; try dsimp only [setn, addE, goneL] at H
 refine h_store (g := g67) (off := 0) H 9 rfl E rfl rfl rfl rfl tbok rfl rfl rfl rfl rfl ?_
 clear E; intro w72 a hc73 H_ E
 replace H := H_; clear H_; try dsimp only [setn, addE, goneL] at H
 refine vn tbok 1 [] [(9, .int .i64 r49.2)] [] E (by kernel_rfl) (by kernel_rfl) trivial ?_
 clear E; intro a E
 refine wpList_nil ?_
 refine th_n ?_
 refine wp_seq ?_
 refine wp_seq ?_
 refine wp_region_lit ?_
 refine vn tbok 2 [] [(36, .bool ((r49.2 : Int) != 0))] [] E (by kernel_rfl) (by kernel_rfl) trivial ?_
 clear E; intro a E
 refine wpList_nil ?_
 refine th_n ?_
 refine E.cases (t := 36) rfl (fun hb_ E_ => ?_) (fun hb_ E_ => ?_)
 ·
  replace E := E_; clear E_
  have h74 : ¬ ((r49.2 : Int) = 0) := bne_iff_ne.1 hb_
  clear hb_; replace hP := ite_f h74 hP
  refine c_true E rfl ?_
  refine wp_seq ?_
  obtain ⟨x89, h90, hK91⟩ := bind_inv hP
  clear hP
  refine meet_cut (fun a w93 => ∃ (x92 : Bool), Fr a 227 [(6, .bool x92)] ∧ Hp S Fa w0 w93 [] ∧ x89 = x92) ?_ ?_
  ·
   have hP := h90; clear h90; rw [law26_MooreKeeps_j0] at hP
   refine wp_region_lit ?_
   refine vn tbok 2 [] [(38, .bool r27)] [] E (by kernel_rfl) (by kernel_rfl) trivial ?_
   clear E; intro a E
   refine E.cases (t := 38) rfl (fun hb_ E_ => ?_) (fun hb_ E_ => ?_)
   ·
    replace E := E_; clear E_
    have h94 : r27 = true := hb_
    clear hb_; replace hP := ite_t h94 hP
    refine vn tbok 6 [.slice A58 (List.length r49.1.2.1) c59] [(44, .bool (((((List.length r49.1.2.1) : Nat) : Int) : Int) == 0))] [World.cell? w72 ⟨g67, 1, none⟩ = some (.slice A58 (List.length r49.1.2.1) c59)] E (by kernel_rfl) (by kernel_rfl) ((H.box 9 rfl).cell (j := 1) rfl) ?_
    clear E; intro a E
    refine E.cases (t := 44) rfl (fun hb_ E_ => ?_) (fun hb_ E_ => ?_)
    ·
     replace E := E_; clear E_
     have h95 : ((((List.length r49.1.2.1) : Nat) : Int) : Int) = 0 := eq_of_beq hb_
     clear hb_; replace hP := ite_t h95 hP
     refine vn tbok 2 [.agg #[.int .i64 aProps, .slice A1 (List.length aAccept) c2, .slice A5 (List.length aGuard) c6, .slice A9 (List.length aNodes) c10], .agg #[.int .u8 s.1, .int .u8 s.2]] [(45, .agg #[.int .i64 aProps, .slice A1 (List.length aAccept) c2, .slice A5 (List.length aGuard) c6, .slice A9 (List.length aNodes) c10]), (46, .agg #[.int .u8 s.1, .int .u8 s.2])] [cellsAt w72 g17 (0) [.int .i64 aProps, .slice A1 (List.length aAccept) c2, .slice A5 (List.length aGuard) c6, .slice A9 (List.length aNodes) c10], cellsAt w72 g22 (0) [.int .u8 s.1, .int .u8 s.2]] E (by kernel_rfl) (by kernel_rfl) ⟨(H.box 4 rfl).sub 0 _ rfl, (H.box 5 rfl).sub 0 _ rfl⟩ ?_
     clear E; intro a E
     obtain ⟨r96, h97, hP⟩ := bind_inv hP
     obtain ⟨Fa98, Hc99, hb100⟩ := H.call [] [(0, false), (1, false), (2, false)] rfl rfl trivial
     refine e_call E rfl rfl Try.func28 rfl rfl rfl (board_Check_calls A1 c2 A5 c6 A9 c10 aProps aAccept aGuard aNodes (s.1, s.2) hk3 hk7 hk11 Hc99 h97) ?_
     rintro v101 w102 a ⟨rfl, HR103⟩ E_
     replace E := E_ _ rfl; clear E_
     obtain ⟨H_, hc104⟩ := hb100 _ _ HR103 rfl
     replace H := H_; clear H_; try dsimp only [setn, addE, goneL] at H
     refine vn tbok 4 [] [(6, .bool ((r96 : Int) == r49.2))] [] E (by kernel_rfl) (by kernel_rfl) trivial ?_
     clear E; intro a E
     refine wpList_nil ?_
     have hx_ := Option.some.inj hP
     exact .inl ⟨rfl, (r96 : Int) == r49.2, E.pick _ ⟨rfl, trivial⟩, H.sel [] rfl, hx_.symm⟩
    replace E := E_; clear E_
    have h105 : ¬ (((((List.length r49.1.2.1) : Nat) : Int) : Int) = 0) := ne_of_beq_false hb_
    clear hb_; replace hP := ite_f h105 hP
    refine vn tbok 7 [] [(6, .bool false)] [] E (by kernel_rfl) (by kernel_rfl) trivial ?_
    clear E; intro a E
    refine wpList_nil ?_
    have hx_ := Option.some.inj hP
    exact .inl ⟨rfl, false, E.pick _ ⟨rfl, trivial⟩, H.sel [] rfl, hx_.symm⟩
   replace E := E_; clear E_
   have h106 : ¬ (r27 = true) := (ne_true_of_eq_false hb_)
   clear hb_; replace hP := ite_f h106 hP
   refine vn tbok 13 [] [(6, .bool false)] [] E (by kernel_rfl) (by kernel_rfl) trivial ?_
   clear E; intro a E
   refine wpList_nil ?_
   have hx_ := Option.some.inj hP
   exact .inl ⟨rfl, false, E.pick _ ⟨rfl, trivial⟩, H.sel [] rfl, hx_.symm⟩
  clear E H h90; rintro a w93 ⟨x92, E, H, hx_⟩
  subst hx_; have hP := hK91; clear hK91
  refine th_n ?_
  refine wp_ret ?_
  refine th_ret ?_
  obtain rfl := Option.some.inj hP
  refine ret1 E rfl rfl ?_
  exact ⟨_, rfl, rfl, H.sel [] rfl⟩
 replace E := E_; clear E_
 have h107 : (r49.2 : Int) = 0 := bne_eq_false_iff_eq.1 hb_
 clear hb_; replace hP := ite_t h107 hP
 refine c_false E rfl ?_
 refine wp_skip ?_
 refine th_n ?_
 refine wp_seq ?_
 refine wp_region_lit ?_
 refine vn tbok 3 [.agg #[.int .i64 aProps, .slice A1 (List.length aAccept) c2, .slice A5 (List.length aGuard) c6, .slice A9 (List.length aNodes) c10], .agg #[.int .u8 s.1, .int .u8 s.2], .agg #[.bool r49.1.1, .slice A58 (List.length r49.1.2.1) c59, .slice A61 (List.length r49.1.2.2.1) c62, .slice A64 (List.length r49.1.2.2.2) c65]] [(52, .agg #[.int .i64 aProps, .slice A1 (List.length aAccept) c2, .slice A5 (List.length aGuard) c6, .slice A9 (List.length aNodes) c10]), (53, .agg #[.int .u8 s.1, .int .u8 s.2]), (54, .agg #[.bool r49.1.1, .slice A58 (List.length r49.1.2.1) c59, .slice A61 (List.length r49.1.2.2.1) c62, .slice A64 (List.length r49.1.2.2.2) c65])] [cellsAt w72 g17 (0) [.int .i64 aProps, .slice A1 (List.length aAccept) c2, .slice A5 (List.length aGuard) c6, .slice A9 (List.length aNodes) c10], cellsAt w72 g22 (0) [.int .u8 s.1, .int .u8 s.2], cellsAt w72 g67 (0) [.bool r49.1.1, .slice A58 (List.length r49.1.2.1) c59, .slice A61 (List.length r49.1.2.2.1) c62, .slice A64 (List.length r49.1.2.2.2) c65]] E (by kernel_rfl) (by kernel_rfl) ⟨(H.box 4 rfl).sub 0 _ rfl, (H.box 5 rfl).sub 0 _ rfl, (H.box 9 rfl).sub 0 _ rfl⟩ ?_
 clear E; intro a E
 obtain ⟨r108, h109, hP⟩ := bind_inv hP
 obtain ⟨Fa110, Hc111, hb112⟩ := H.call [] [(0, false), (1, false), (2, false), (6, false), (7, false), (8, false)] rfl rfl trivial
 refine e_call E rfl rfl Try.func21 rfl rfl rfl (moore_Check_calls A1 c2 A5 c6 A9 c10 A58 c59 A61 c62 A64 c65 aProps aAccept aGuard aNodes (s.1, s.2) r49.1.1 r49.1.2.1 r49.1.2.2.1 r49.1.2.2.2 hk3 hk7 hk11 (H.rcap 6 rfl) (H.rcap 7 rfl) (H.rcap 8 rfl) Hc111 h109) ?_
 rintro v113 w114 a ⟨rfl, HR115⟩ E_
 replace E := E_ _ rfl; clear E_
 obtain ⟨H_, hc116⟩ := hb112 _ _ HR115 rfl
 replace H := H_; clear H_; try dsimp only [setn, addE, goneL] at H
 refine vn tbok 5 [] [(10, .bool r108.1), (11, .int .i64 r108.2)] [] E (by kernel_rfl) (by kernel_rfl) trivial ?_
 clear E; intro a E
 refine wpList_nil ?_
 refine th_n ?_
 refine wp_seq ?_
 refine wp_seq ?_
 refine wp_region_lit ?_
 refine vn tbok 3 [] [(60, .bool ((r108.2 : Int) != 0))] [] E (by kernel_rfl) (by kernel_rfl) trivial ?_
 clear E; intro a E
 refine E.cases (t := 60) rfl (fun hb_ E_ => ?_) (fun hb_ E_ => ?_)
 ·
  replace E := E_; clear E_
  have h117 : ¬ ((r108.2 : Int) = 0) := bne_iff_ne.1 hb_
  clear hb_; replace hP := ite_f h117 hP
  refine vn tbok 12 [] [(72, .bool true)] [] E (by kernel_rfl) (by kernel_rfl) trivial ?_
  clear E; intro a E
  refine wpList_nil ?_
  refine th_n ?_
  refine c_true E rfl ?_
  refine wp_seq ?_
  refine wp_region_lit ?_
  refine vn tbok 1 [] [(6, .bool false)] [] E (by kernel_rfl) (by kernel_rfl) trivial ?_
  clear E; intro a E
  refine wpList_nil ?_
  refine th_n ?_
  refine wp_ret ?_
  refine th_ret ?_
  obtain rfl := Option.some.inj hP
  refine ret1 E rfl rfl ?_
  exact ⟨_, rfl, rfl, H.sel [] rfl⟩
 replace E := E_; clear E_
 have h118 : (r108.2 : Int) = 0 := bne_eq_false_iff_eq.1 hb_
 clear hb_; replace hP := ite_t h118 hP
 refine vn tbok 4 [] [(64, .bool (!r108.1))] [] E (by kernel_rfl) (by kernel_rfl) trivial ?_
 clear E; intro a E
 refine E.cases (t := 64) rfl (fun hb_ E_ => ?_) (fun hb_ E_ => ?_)
 ·
  replace E := E_; clear E_
  have h119 : ¬ (r108.1 = true) := (ne_true_of_eq_false (not_t hb_))
  clear hb_; replace hP := ite_f h119 hP
  refine vn tbok 8 [] [(72, .bool true)] [] E (by kernel_rfl) (by kernel_rfl) trivial ?_
  clear E; intro a E
  refine wpList_nil ?_
  refine th_n ?_
  refine c_true E rfl ?_
  refine wp_seq ?_
  refine wp_region_lit ?_
  refine vn tbok 1 [] [(6, .bool false)] [] E (by kernel_rfl) (by kernel_rfl) trivial ?_
  clear E; intro a E
  refine wpList_nil ?_
  refine th_n ?_
  refine wp_ret ?_
  refine th_ret ?_
  obtain rfl := Option.some.inj hP
  refine ret1 E rfl rfl ?_
  exact ⟨_, rfl, rfl, H.sel [] rfl⟩
 replace E := E_; clear E_
 have h120 : r108.1 = true := (not_f hb_)
 clear hb_; replace hP := ite_t h120 hP
 refine vn tbok 8 [.slice A58 (List.length r49.1.2.1) c59, .slice A1 (List.length aAccept) c2] [(72, .bool (((((List.length r49.1.2.1) : Nat) : Int) : Int) != (((List.length aAccept) : Nat) : Int)))] [World.cell? w114 ⟨g67, 1, none⟩ = some (.slice A58 (List.length r49.1.2.1) c59), World.cell? w114 ⟨g17, 1, none⟩ = some (.slice A1 (List.length aAccept) c2)] E (by kernel_rfl) (by kernel_rfl) ⟨(H.box 9 rfl).cell (j := 1) rfl, (H.box 4 rfl).cell (j := 1) rfl⟩ ?_
 clear E; intro a E
 refine wpList_nil ?_
 refine th_n ?_
 refine E.cases (t := 72) rfl (fun hb_ E_ => ?_) (fun hb_ E_ => ?_)
 ·
  replace E := E_; clear E_
  have h121 : ¬ (((((List.length r49.1.2.1) : Nat) : Int) : Int) = (((List.length aAccept) : Nat) : Int)) := bne_iff_ne.1 hb_
  clear hb_; replace hP := ite_f h121 hP
  refine c_true E rfl ?_
  refine wp_seq ?_
  refine wp_region_lit ?_
  refine vn tbok 1 [] [(6, .bool false)] [] E (by kernel_rfl) (by kernel_rfl) trivial ?_
  clear E; intro a E
  refine wpList_nil ?_
  refine th_n ?_
  refine wp_ret ?_
  refine th_ret ?_
  obtain rfl := Option.some.inj hP
  refine ret1 E rfl rfl ?_
  exact ⟨_, rfl, rfl, H.sel [] rfl⟩
 replace E := E_; clear E_
 have h122 : ((((List.length r49.1.2.1) : Nat) : Int) : Int) = (((List.length aAccept) : Nat) : Int) := bne_eq_false_iff_eq.1 hb_
 clear hb_; replace hP := ite_t h122 hP
 refine c_false E rfl ?_
 refine wp_skip ?_
 refine th_n ?_
 refine wp_seq ?_
 refine wp_region_lit ?_
 refine vn tbok 3 [.int .u8 s.2] [(12, .int .u8 s.2)] [World.cell? w114 ⟨g22, 1, none⟩ = some (.int .u8 s.2)] E (by kernel_rfl) (by kernel_rfl) ((H.box 5 rfl).cell (j := 1) rfl) ?_
 clear E; intro a E
 refine wpList_nil ?_
 refine th_n ?_
 refine wp_seq ?_
 refine wp_seq ?_
 refine wp_region_lit ?_
 refine vn tbok 2 [.bool r49.1.1] [(76, .bool r49.1.1)] [World.cell? w114 ⟨g67, 0, none⟩ = some (.bool r49.1.1)] E (by kernel_rfl) (by kernel_rfl) ((H.box 9 rfl).cell (j := 0) rfl) ?_
 clear E; intro a E
 refine wpList_nil ?_
 refine th_n ?_
 obtain ⟨x126, h127, hK128⟩ := bind_inv hP
 clear hP
 refine meet_cut (fun a w130 => ∃ (x129 : Int), Fr a 227 [(2, .slice A13 (List.length moves) c14), (3, .pointer (some ⟨g17, 0, none⟩)), (4, .pointer (some ⟨g22, 0, none⟩)), (7, .bool r27), (8, .pointer (some ⟨g67, 0, none⟩)), (12, .int .u8 x129)] ∧ Hp S Fa w0 w130 [.ro false (cInt .i64) A13 moves, .ro false cBool A1 aAccept, .ro false (cInt .i64) A5 aGuard, .ro false cNode A9 aNodes, .box g17 26 [.int .i64 aProps, .slice A1 (List.length aAccept) c2, .slice A5 (List.length aGuard) c6, .slice A9 (List.length aNodes) c10], .box g22 29 [.int .u8 s.1, .int .u8 s.2], .row true (cInt .i64) 3 A58 c59 r49.1.2.1, .row true (cInt .u8) 27 A61 c62 r49.1.2.2.1, .row true (cSl (cInt .u8)) 35 A64 c65 r49.1.2.2.2, .box g67 38 [.bool r49.1.1, .slice A58 (List.length r49.1.2.1) c59, .slice A61 (List.length r49.1.2.2.1) c62, .slice A64 (List.length r49.1.2.2.2) c65]] ∧ x126 = x129) ?_ ?_
 ·
  have hP := h127; clear h127; rw [law26_MooreKeeps_j1] at hP
  refine E.cases (t := 76) rfl (fun hb_ E_ => ?_) (fun hb_ E_ => ?_)
  ·
   replace E := E_; clear E_
   have h131 : r49.1.1 = true := hb_
   clear hb_; replace hP := ite_t h131 hP
   refine c_true E rfl ?_
   refine wp_region_lit ?_
   refine vn tbok 3 [.int .u8 s.1] [(12, .int .u8 s.1)] [World.cell? w114 ⟨g22, 0, none⟩ = some (.int .u8 s.1)] E (by kernel_rfl) (by kernel_rfl) ((H.box 5 rfl).cell (j := 0) rfl) ?_
   clear E; intro a E
   refine wpList_nil ?_
   have hx_ := Option.some.inj hP
   exact .inl ⟨rfl, s.1, E.pick _ ⟨rfl, rfl, rfl, rfl, rfl, rfl, trivial⟩, H.sel [3, 0, 1, 2, 4, 5, 6, 7, 8, 9] rfl, hx_.symm⟩
  replace E := E_; clear E_
  have h132 : ¬ (r49.1.1 = true) := (ne_true_of_eq_false hb_)
  clear hb_; replace hP := ite_f h132 hP
  refine c_false E rfl ?_
  refine wp_skip ?_
  have hx_ := Option.some.inj hP
  exact .inl ⟨rfl, s.2, E.pick _ ⟨rfl, rfl, rfl, rfl, rfl, rfl, trivial⟩, H.sel [3, 0, 1, 2, 4, 5, 6, 7, 8, 9] rfl, hx_.symm⟩
 clear E H h127; rintro a w130 ⟨x129, E, H, hx_⟩
 subst hx_; have hP := hK128; clear hK128
 refine th_n ?_
 refine wp_seq ?_
 refine wp_region_lit ?_
 refine vn tbok 1 [] [(79, .int .u8 x126)] [] E (by kernel_rfl) (by kernel_rfl) trivial ?_
 clear E; intro a E
 obtain ⟨r133, h134, hP⟩ := bind_inv hP
 obtain ⟨Fa135, Hc136, hb137⟩ := H.call [] [] rfl rfl trivial
 refine e_call E rfl rfl Try.func29 rfl rfl rfl (board_Moves_calls  x126  Hc136 h134) ?_
 rintro v138 w139 a ⟨A142, c143, rfl, HR140⟩ E_
 replace E := E_ _ rfl; clear E_
 obtain ⟨H_, hc141⟩ := hb137 _ _ HR140 rfl
 replace H := H_; clear H_; try dsimp only [setn, addE, goneL] at H
 refine vn tbok 1 [] [(13, .slice A142 (List.length r133) c143)] [] E (by kernel_rfl) (by kernel_rfl) trivial ?_
 clear E; intro a E
 refine wpList_nil ?_
 refine th_n ?_
 refine wp_seq ?_
 refine wp_seq ?_
 refine wp_region_lit ?_
 refine vn tbok 3 [] [(83, .bool (((((List.length r133) : Nat) : Int) : Int) == 0))] [] E (by kernel_rfl) (by kernel_rfl) trivial ?_
 clear E; intro a E
 refine wpList_nil ?_
 refine th_n ?_
 refine E.cases (t := 83) rfl (fun hb_ E_ => ?_) (fun hb_ E_ => ?_)
 ·
  replace E := E_; clear E_
  have h145 : ((((List.length r133) : Nat) : Int) : Int) = 0 := eq_of_beq hb_
  clear hb_; replace hP := ite_t h145 hP
  refine c_true E rfl ?_
  refine wp_seq ?_
  refine wp_region_lit ?_
  refine vn tbok 1 [] [(6, .bool false)] [] E (by kernel_rfl) (by kernel_rfl) trivial ?_
  clear E; intro a E
  refine wpList_nil ?_
  refine th_n ?_
  refine wp_ret ?_
  refine th_ret ?_
  obtain rfl := Option.some.inj hP
  refine ret1 E rfl rfl ?_
  exact ⟨_, rfl, rfl, H.sel [] rfl⟩
 replace E := E_; clear E_
 have h146 : ¬ (((((List.length r133) : Nat) : Int) : Int) = 0) := ne_of_beq_false hb_
 clear hb_; replace hP := ite_f h146 hP
 refine c_false E rfl ?_
 refine wp_skip ?_
 refine th_n ?_
 refine wp_seq ?_
 refine wp_region_lit ?_
 refine vn tbok 1 [] [(14, .slice none 0 0)] [] E (by kernel_rfl) (by kernel_rfl) trivial ?_
 clear E; intro a E
 refine wpList_nil ?_
 refine th_n ?_
 refine wp_seq ?_
 refine wp_seq ?_
 refine wp_region_lit ?_
 refine vn tbok 1 [] [(15, .int .i64 0)] [] E (by kernel_rfl) (by kernel_rfl) trivial ?_
 clear E; intro a E
 refine wpList_nil ?_
 refine th_n ?_
 refine wp_block ?_
 obtain ⟨x200, hL201, hK202⟩ := bind_inv hP
 clear hP
 replace H := H.nilrow (cInt .u8) 27; try dsimp only [setn, addE, goneL] at H
 refine loop_cut (fun i_ a w_ => (i_ = 0 ∧ ∃ (x206 : List Int), ∃ (A197 : Option Addr) (c198 : Nat), Fr a 227 [(3, .pointer (some ⟨g17, 0, none⟩)), (4, .pointer (some ⟨g22, 0, none⟩)), (7, .bool r27), (8, .pointer (some ⟨g67, 0, none⟩)), (14, .slice A197 (List.length x206) c198)] ∧ Hp S Fa w0 w_ [.ro false cBool A1 aAccept, .ro false (cInt .i64) A5 aGuard, .ro false cNode A9 aNodes, .box g17 26 [.int .i64 aProps, .slice A1 (List.length aAccept) c2, .slice A5 (List.length aGuard) c6, .slice A9 (List.length aNodes) c10], .box g22 29 [.int .u8 s.1, .int .u8 s.2], .row true (cInt .i64) 3 A58 c59 r49.1.2.1, .row true (cInt .u8) 27 A61 c62 r49.1.2.2.1, .row true (cSl (cInt .u8)) 35 A64 c65 r49.1.2.2.2, .box g67 38 [.bool r49.1.1, .slice A58 (List.length r49.1.2.1) c59, .slice A61 (List.length r49.1.2.2.1) c62, .slice A64 (List.length r49.1.2.2.2) c65], .row true (cInt .u8) 27 A197 c198 x206] ∧ x200 = x206)) ?_ ?_
 ·
  refine loopV (fun m205 a w204 => ∃ (l169 : List Int) (i172 : Int), ∃ (A170 : Option Addr) (c171 : Nat), Fr a 227 [(2, .slice A13 (List.length moves) c14), (3, .pointer (some ⟨g17, 0, none⟩)), (4, .pointer (some ⟨g22, 0, none⟩)), (7, .bool r27), (8, .pointer (some ⟨g67, 0, none⟩)), (13, .slice A142 (List.length r133) c143), (14, .slice A170 (List.length l169) c171), (15, .int .i64 i172)] ∧ Hp S Fa w0 w204 [.ro false (cInt .i64) A13 moves, .ro false cBool A1 aAccept, .ro false (cInt .i64) A5 aGuard, .ro false cNode A9 aNodes, .box g17 26 [.int .i64 aProps, .slice A1 (List.length aAccept) c2, .slice A5 (List.length aGuard) c6, .slice A9 (List.length aNodes) c10], .box g22 29 [.int .u8 s.1, .int .u8 s.2], .row true (cInt .i64) 3 A58 c59 r49.1.2.1, .row true (cInt .u8) 27 A61 c62 r49.1.2.2.1, .row true (cSl (cInt .u8)) 35 A64 c65 r49.1.2.2.2, .box g67 38 [.bool r49.1.1, .slice A58 (List.length r49.1.2.1) c59, .slice A61 (List.length r49.1.2.2.1) c62, .slice A64 (List.length r49.1.2.2.2) c65], .row true (cInt .u8) 27 A142 c143 r133, .row true (cInt .u8) 27 A170 c171 l169] ∧ law26_MooreKeeps_l2 N moves r133 m205 l169 i172 = some x200) N ?_ ?_
  ·
   exact ⟨[], 0, none, 0, E.pick _ ⟨rfl, rfl, rfl, rfl, rfl, rfl, rfl, rfl, trivial⟩, H.sel [0, 1, 2, 3, 4, 5, 6, 7, 8, 9, 10, 11] rfl, hL201⟩
  clear E H hL201; intro m205 a w204 hI_
  obtain ⟨l169, i172, A170, c171, E, H, hP⟩ := hI_
  obtain ⟨m199, rfl⟩ : ∃ q_, m205 = q_ + 1 := by cases m205 with | zero => rw [law26_MooreKeeps_l2] at hP; cases hP | succ q_ => exact ⟨q_, rfl⟩
  rw [law26_MooreKeeps_l2] at hP
  refine wp_seq ?_
  refine wp_seq ?_
  refine wp_region_lit ?_
  refine vn tbok 4 [] [(87, .bool (decide (i172 < (((List.length moves) : Nat) : Int))))] [] E (by kernel_rfl) (by kernel_rfl) trivial ?_
  clear E; intro a E
  refine wpList_nil ?_
  refine th_n ?_
  refine E.cases (t := 87) rfl (fun hb_ E_ => ?_) (fun hb_ E_ => ?_)
  ·
   replace E := E_; clear E_
   have h207 : i172 < (((List.length moves) : Nat) : Int) := of_decide_eq_true hb_
   clear hb_; replace hP := ite_t h207 hP
   refine c_true E rfl ?_
   refine wp_skip ?_
   refine th_n ?_
   refine wp_seq ?_
   refine wp_block ?_
   refine wp_region_lit ?_
   obtain ⟨g208, hP⟩ := ask_inv hP
   obtain ⟨b209, o210, e_b209⟩ := (H.rd 0 rds_ro).addr (idx_pos g208)
   subst e_b209
   obtain ⟨g211, hP⟩ := ask_inv hP
   obtain ⟨g212, hP⟩ := ask_inv hP
   obtain ⟨b213, e_b213⟩ := H.raddr 10 rfl (idx_pos g212)
   subst e_b213
   refine vn tbok 12 [.int .i64 (List.getD moves (Int.toNat i172) 0), .int .i64 (andV .i64 (List.getD moves (Int.toNat i172) 0) 1023), .int .i64 (Int.tmod (andV .i64 (List.getD moves (Int.toNat i172) 0) 1023) (((List.length r133) : Nat) : Int)), .int .u8 (List.getD r133 (Int.toNat (Int.tmod (andV .i64 (List.getD moves (Int.toNat i172) 0) 1023) (((List.length r133) : Nat) : Int))) 0)] [(90, .slice A170 (List.length l169) c171), (101, .int .u8 (List.getD r133 (Int.toNat (Int.tmod (andV .i64 (List.getD moves (Int.toNat i172) 0) 1023) (((List.length r133) : Nat) : Int))) 0))] [0 ≤ i172 ∧ i172 < (((List.length moves) : Nat) : Int), World.cell? w204 ⟨b209, o210 + (Int.toNat i172) * 1, none⟩ = some (.int .i64 (List.getD moves (Int.toNat i172) 0)), IntKind.i64.wrap (BitVec.ofInt (IntKind.bits .i64) (List.getD moves (Int.toNat i172) 0) &&& BitVec.ofInt (IntKind.bits .i64) 1023).toNat = andV .i64 (List.getD moves (Int.toNat i172) 0) 1023, ((((List.length r133) : Nat) : Int) : Int) ≠ 0 ∧ Int.tmod (andV .i64 (List.getD moves (Int.toNat i172) 0) 1023) (((List.length r133) : Nat) : Int) = Int.tmod (andV .i64 (List.getD moves (Int.toNat i172) 0) 1023) (((List.length r133) : Nat) : Int), 0 ≤ (Int.tmod (andV .i64 (List.getD moves (Int.toNat i172) 0) 1023) (((List.length r133) : Nat) : Int)) ∧ (Int.tmod (andV .i64 (List.getD moves (Int.toNat i172) 0) 1023) (((List.length r133) : Nat) : Int)) < (((List.length r133) : Nat) : Int), World.cell? w204 ⟨b213, 0 + (Int.toNat (Int.tmod (andV .i64 (List.getD moves (Int.toNat i172) 0) 1023) (((List.length r133) : Nat) : Int))) * 1, none⟩ = some (.int .u8 (List.getD r133 (Int.toNat (Int.tmod (andV .i64 (List.getD moves (Int.toNat i172) 0) 1023) (((List.length r133) : Nat) : Int))) 0))] E (by kernel_rfl) (by kernel_rfl) ⟨g208, Rds.at1 (H.rd 0 rds_ro) 0 g208, rfl, ⟨g211, rfl⟩, g212, Rds.at1 (H.rd 10 rds_row) 0 g212⟩ ?_
   clear E; intro a E
   refine h_buildSlice (ps := [(0, .int .u8 (List.getD r133 (Int.toNat (Int.tmod (andV .i64 (List.getD moves (Int.toNat i172) 0) 1023) (((List.length r133) : Nat) : Int))) 0))]) (cs := [.int .u8 (List.getD r133 (Int.toNat (Int.tmod (andV .i64 (List.getD moves (Int.toNat i172) 0) 1023) (((List.length r133) : Nat) : Int))) 0)]) H E rfl rfl tbok rfl rfl (by kernel_rfl) ?_
   intro w216 g215 a hc217 hg219 H_ E_
   replace E := E_ _ rfl; clear E_
   replace H := H_; clear H_; try dsimp only [setn, addE, goneL] at H
   obtain ⟨g220, hP⟩ := ask_inv hP
   refine h_append (cInt .u8) (xs := l169) (ys := ([(List.getD r133 (Int.toNat (Int.tmod (andV .i64 (List.getD moves (Int.toNat i172) 0) 1023) (((List.length r133) : Nat) : Int))) 0)] : List Int)) (0 : Int) H 11 rfl E rfl rfl tbok rfl rfl rfl rfl rfl (fun _ _ => rfl) rfl rfl (fun _ HF_ => HF_.srcB 12 rfl (⟨_, _, rfl, rfl, rfl⟩)) g220 ?_
   intro w221 A222 c223 a hc224 hA225 H_ E_
   replace E := E_ _ rfl; clear E_
   replace H := H_; clear H_; try dsimp only [setn, addE, goneL] at H
   refine vn tbok 1 [] [(14, .slice A222 (List.length (l169 ++ ([(List.getD r133 (Int.toNat (Int.tmod (andV .i64 (List.getD moves (Int.toNat i172) 0) 1023) (((List.length r133) : Nat) : Int))) 0)] : List Int))) c223)] [] E (by kernel_rfl) (by kernel_rfl) trivial ?_
   clear E; intro a E
   refine wpList_nil ?_
   refine bl_n ?_
   refine th_n ?_
   refine wp_region_lit ?_
   obtain ⟨g226, hP⟩ := ask_inv hP
   refine vn tbok 3 [.int .i64 (i172 + 1)] [(15, .int .i64 (i172 + 1))] [IntKind.i64.wrap (i172 + 1) = i172 + 1] E (by kernel_rfl) (by kernel_rfl) (wrap_in g226) ?_
   clear E; intro a E
   refine wpList_nil ?_
   exact th_n ⟨m199, Nat.lt_succ_self _, l169 ++ ([(List.getD r133 (Int.toNat (Int.tmod (andV .i64 (List.getD moves (Int.toNat i172) 0) 1023) (((List.length r133) : Nat) : Int))) 0)] : List Int), i172 + 1, A222, c223, E.pick _ ⟨rfl, rfl, rfl, rfl, rfl, rfl, rfl, rfl, trivial⟩, H.sel [0, 1, 2, 3, 4, 5, 6, 7, 8, 9, 10, 11] rfl, hP⟩
  replace E := E_; clear E_
  have h227 : ¬ (i172 < (((List.length moves) : Nat) : Int)) := of_decide_eq_false hb_
  clear hb_; replace hP := ite_f h227 hP
  refine c_false E rfl ?_
  refine wp_exit ?_
  refine th_exit ?_
  have hx_ := Option.some.inj hP
  refine th_exit (.inl ⟨0, rfl, ?_⟩)
  exact ⟨rfl, l169, A170, c171, E.pick _ ⟨rfl, rfl, rfl, rfl, rfl, trivial⟩, H.sel [1, 2, 3, 4, 5, 6, 7, 8, 9, 11] rfl, hx_.symm⟩
 clear E H hL201; intro i_ a w204 hM_
 obtain ⟨rfl, x206, A197, c198, E, H, hx_⟩ := hM_
 subst hx_; have hP := hK202; clear hK202
 refine bl_hit ?_
 refine th_n ?_
 refine wp_seq ?_
 refine wp_region_lit ?_
 refine vn tbok 4 [.agg #[.int .i64 aProps, .slice A1 (List.length aAccept) c2, .slice A5 (List.length aGuard) c6, .slice A9 (List.length aNodes) c10], .agg #[.int .u8 s.1, .int .u8 s.2], .agg #[.bool r49.1.1, .slice A58 (List.length r49.1.2.1) c59, .slice A61 (List.length r49.1.2.2.1) c62, .slice A64 (List.length r49.1.2.2.2) c65]] [(105, .agg #[.int .i64 aProps, .slice A1 (List.length aAccept) c2, .slice A5 (List.length aGuard) c6, .slice A9 (List.length aNodes) c10]), (106, .agg #[.int .u8 s.1, .int .u8 s.2]), (107, .agg #[.bool r49.1.1, .slice A58 (List.length r49.1.2.1) c59, .slice A61 (List.length r49.1.2.2.1) c62, .slice A64 (List.length r49.1.2.2.2) c65]), (108, .slice A197 (List.length x200) c198)] [cellsAt w204 g17 (0) [.int .i64 aProps, .slice A1 (List.length aAccept) c2, .slice A5 (List.length aGuard) c6, .slice A9 (List.length aNodes) c10], cellsAt w204 g22 (0) [.int .u8 s.1, .int .u8 s.2], cellsAt w204 g67 (0) [.bool r49.1.1, .slice A58 (List.length r49.1.2.1) c59, .slice A61 (List.length r49.1.2.2.1) c62, .slice A64 (List.length r49.1.2.2.2) c65]] E (by kernel_rfl) (by kernel_rfl) ⟨(H.box 3 rfl).sub 0 _ rfl, (H.box 4 rfl).sub 0 _ rfl, (H.box 8 rfl).sub 0 _ rfl⟩ ?_
 clear E; intro a E
 obtain ⟨r228, h229, hP⟩ := bind_inv hP
 obtain ⟨Fa230, Hc231, hb232⟩ := H.call [] [(0, false), (1, false), (2, false), (5, false), (6, false), (7, false), (9, false)] rfl rfl trivial
 refine e_call E rfl rfl Try.func23 rfl rfl rfl (moore_Play_calls A1 c2 A5 c6 A9 c10 A58 c59 A61 c62 A64 c65 A197 c198 aProps aAccept aGuard aNodes (s.1, s.2) r49.1.1 r49.1.2.1 r49.1.2.2.1 r49.1.2.2.2 x200 hk3 hk7 hk11 (H.rcap 5 rfl) (H.rcap 6 rfl) (H.rcap 7 rfl) (H.rcap 9 rfl) Hc231 h229) ?_
 rintro v233 w234 a ⟨A237, c238, rfl, HR235⟩ E_
 replace E := E_ _ rfl; clear E_
 obtain ⟨H_, hc236⟩ := hb232 _ _ HR235 rfl
 replace H := H_; clear H_; try dsimp only [setn, addE, goneL] at H
 refine vn tbok 5 [] [(16, .slice A237 (List.length r228.1) c238), (17, .int .i64 r228.2)] [] E (by kernel_rfl) (by kernel_rfl) trivial ?_
 clear E; intro a E
 refine wpList_nil ?_
 refine th_n ?_
 refine wp_seq ?_
 refine wp_seq ?_
 refine wp_region_lit ?_
 refine vn tbok 3 [] [(114, .bool ((r228.2 : Int) != 0))] [] E (by kernel_rfl) (by kernel_rfl) trivial ?_
 clear E; intro a E
 refine E.cases (t := 114) rfl (fun hb_ E_ => ?_) (fun hb_ E_ => ?_)
 ·
  replace E := E_; clear E_
  have h240 : ¬ ((r228.2 : Int) = 0) := bne_iff_ne.1 hb_
  clear hb_; replace hP := ite_f h240 hP
  refine vn tbok 12 [] [(126, .bool true)] [] E (by kernel_rfl) (by kernel_rfl) trivial ?_
  clear E; intro a E
  refine wpList_nil ?_
  refine th_n ?_
  refine c_true E rfl ?_
  refine wp_seq ?_
  refine wp_region_lit ?_
  refine vn tbok 1 [] [(6, .bool false)] [] E (by kernel_rfl) (by kernel_rfl) trivial ?_
  clear E; intro a E
  refine wpList_nil ?_
  refine th_n ?_
  refine wp_ret ?_
  refine th_ret ?_
  obtain rfl := Option.some.inj hP
  refine ret1 E rfl rfl ?_
  exact ⟨_, rfl, rfl, H.sel [] rfl⟩
 replace E := E_; clear E_
 have h241 : (r228.2 : Int) = 0 := bne_eq_false_iff_eq.1 hb_
 clear hb_; replace hP := ite_t h241 hP
 refine vn tbok 5 [] [(119, .bool (((((List.length r228.1) : Nat) : Int) : Int) == 0))] [] E (by kernel_rfl) (by kernel_rfl) trivial ?_
 clear E; intro a E
 refine E.cases (t := 119) rfl (fun hb_ E_ => ?_) (fun hb_ E_ => ?_)
 ·
  replace E := E_; clear E_
  have h242 : ((((List.length r228.1) : Nat) : Int) : Int) = 0 := eq_of_beq hb_
  clear hb_; replace hP := ite_t h242 hP
  refine vn tbok 7 [] [(126, .bool true)] [] E (by kernel_rfl) (by kernel_rfl) trivial ?_
  clear E; intro a E
  refine wpList_nil ?_
  refine th_n ?_
  refine c_true E rfl ?_
  refine wp_seq ?_
  refine wp_region_lit ?_
  refine vn tbok 1 [] [(6, .bool false)] [] E (by kernel_rfl) (by kernel_rfl) trivial ?_
  clear E; intro a E
  refine wpList_nil ?_
  refine th_n ?_
  refine wp_ret ?_
  refine th_ret ?_
  obtain rfl := Option.some.inj hP
  refine ret1 E rfl rfl ?_
  exact ⟨_, rfl, rfl, H.sel [] rfl⟩
 replace E := E_; clear E_
 have h243 : ¬ (((((List.length r228.1) : Nat) : Int) : Int) = 0) := ne_of_beq_false hb_
 clear hb_; replace hP := ite_f h243 hP
 obtain ⟨g244, hP⟩ := ask_inv hP
 refine vn tbok 7 [.int .i64 ((((List.length x200) : Nat) : Int) + 1)] [(126, .bool (decide (((((List.length x200) : Nat) : Int) + 1) < (((List.length r228.1) : Nat) : Int))))] [IntKind.i64.wrap ((((List.length x200) : Nat) : Int) + 1) = (((List.length x200) : Nat) : Int) + 1] E (by kernel_rfl) (by kernel_rfl) (wrap_in g244) ?_
 clear E; intro a E
 refine wpList_nil ?_
 refine th_n ?_
 refine E.cases (t := 126) rfl (fun hb_ E_ => ?_) (fun hb_ E_ => ?_)
 ·
  replace E := E_; clear E_
  have h245 : ((((List.length x200) : Nat) : Int) + 1) < (((List.length r228.1) : Nat) : Int) := of_decide_eq_true hb_
  clear hb_; replace hP := ite_t h245 hP
  refine c_true E rfl ?_
  refine wp_seq ?_
  refine wp_region_lit ?_
  refine vn tbok 1 [] [(6, .bool false)] [] E (by kernel_rfl) (by kernel_rfl) trivial ?_
  clear E; intro a E
  refine wpList_nil ?_
  refine th_n ?_
  refine wp_ret ?_
  refine th_ret ?_
  obtain rfl := Option.some.inj hP
  refine ret1 E rfl rfl ?_
  exact ⟨_, rfl, rfl, H.sel [] rfl⟩
 replace E := E_; clear E_
 have h246 : ¬ (((((List.length x200) : Nat) : Int) + 1) < (((List.length r228.1) : Nat) : Int)) := of_decide_eq_false hb_
 clear hb_; replace hP := ite_f h246 hP
 refine c_false E rfl ?_
 refine wp_skip ?_
 refine th_n ?_
 refine wp_seq ?_
 refine wp_seq ?_
 refine wp_region_lit ?_
 refine vn tbok 1 [] [(18, .int .i64 0)] [] E (by kernel_rfl) (by kernel_rfl) trivial ?_
 clear E; intro a E
 refine wpList_nil ?_
 refine th_n ?_
 refine wp_block ?_
 obtain ⟨x380, hL381, hK382⟩ := bind_inv hP
 clear hP
 refine loop_cut (fun i_ a w_ => (i_ = 2 ∧ ∃ (x385 : Unit), Fr a 227 [(3, .pointer (some ⟨g17, 0, none⟩)), (7, .bool r27), (8, .pointer (some ⟨g67, 0, none⟩)), (14, .slice A197 (List.length x200) c198), (16, .slice A237 (List.length r228.1) c238)] ∧ Hp S Fa w0 w_ [.ro false cBool A1 aAccept, .ro false (cInt .i64) A5 aGuard, .ro false cNode A9 aNodes, .box g17 26 [.int .i64 aProps, .slice A1 (List.length aAccept) c2, .slice A5 (List.length aGuard) c6, .slice A9 (List.length aNodes) c10], .row true (cInt .i64) 3 A58 c59 r49.1.2.1, .row true (cInt .u8) 27 A61 c62 r49.1.2.2.1, .row true (cSl (cInt .u8)) 35 A64 c65 r49.1.2.2.2, .box g67 38 [.bool r49.1.1, .slice A58 (List.length r49.1.2.1) c59, .slice A61 (List.length r49.1.2.2.1) c62, .slice A64 (List.length r49.1.2.2.2) c65], .row true (cInt .u8) 27 A197 c198 x200, .row true (cInt .i64) 3 A237 c238 r228.1] ∧ x380 = Sum.inl x385)) ?_ ?_
 ·
  refine loopV (fun m384 a w383 => ∃ (i298 : Int), Fr a 227 [(3, .pointer (some ⟨g17, 0, none⟩)), (7, .bool r27), (8, .pointer (some ⟨g67, 0, none⟩)), (14, .slice A197 (List.length x200) c198), (16, .slice A237 (List.length r228.1) c238), (18, .int .i64 i298)] ∧ Hp S Fa w0 w383 [.ro false cBool A1 aAccept, .ro false (cInt .i64) A5 aGuard, .ro false cNode A9 aNodes, .box g17 26 [.int .i64 aProps, .slice A1 (List.length aAccept) c2, .slice A5 (List.length aGuard) c6, .slice A9 (List.length aNodes) c10], .row true (cInt .i64) 3 A58 c59 r49.1.2.1, .row true (cInt .u8) 27 A61 c62 r49.1.2.2.1, .row true (cSl (cInt .u8)) 35 A64 c65 r49.1.2.2.2, .box g67 38 [.bool r49.1.1, .slice A58 (List.length r49.1.2.1) c59, .slice A61 (List.length r49.1.2.2.1) c62, .slice A64 (List.length r49.1.2.2.2) c65], .row true (cInt .u8) 27 A197 c198 x200, .row true (cInt .i64) 3 A237 c238 r228.1] ∧ law26_MooreKeeps_l3 N aAccept r49 r228 m384 i298 = some x380) N ?_ ?_
  ·
   exact ⟨0, E.pick _ ⟨rfl, rfl, rfl, rfl, rfl, rfl, trivial⟩, H.sel [0, 1, 2, 3, 5, 6, 7, 8, 9, 10] rfl, hL381⟩
  clear E H hL381; intro m384 a w383 hI_
  obtain ⟨i298, E, H, hP⟩ := hI_
  obtain ⟨m379, rfl⟩ : ∃ q_, m384 = q_ + 1 := by cases m384 with | zero => rw [law26_MooreKeeps_l3] at hP; cases hP | succ q_ => exact ⟨q_, rfl⟩
  rw [law26_MooreKeeps_l3] at hP
  refine wp_seq ?_
  refine wp_seq ?_
  refine wp_region_lit ?_
  refine vn tbok 4 [] [(130, .bool (decide (i298 < (((List.length r228.1) : Nat) : Int))))] [] E (by kernel_rfl) (by kernel_rfl) trivial ?_
  clear E; intro a E
  refine wpList_nil ?_
  refine th_n ?_
  refine E.cases (t := 130) rfl (fun hb_ E_ => ?_) (fun hb_ E_ => ?_)
  ·
   replace E := E_; clear E_
   have h386 : i298 < (((List.length r228.1) : Nat) : Int) := of_decide_eq_true hb_
   clear hb_; replace hP := ite_t h386 hP
   refine c_true E rfl ?_
   refine wp_skip ?_
   refine th_n ?_
   refine wp_seq ?_
   refine wp_block ?_
   refine wp_seq ?_
   refine wp_seq ?_
   obtain ⟨g387, hP⟩ := ask_inv hP
   obtain ⟨b388, e_b388⟩ := H.raddr 9 rfl (idx_pos g387)
   subst e_b388
   by_cases h390 : (List.getD r228.1 (Int.toNat i298) 0) < 0
   ·
    replace hP := ite_t h390 hP
    have HR394 := H
    refine dr_start (S := fun w_ => Chg (atL []) w383 w_) (by kernel_rfl) ?_
    intro w391 hc392
    have HS393 : Chg (atL []) w383 w391 := hc392.mono (fun _ _ h_ => h_.elim)
    replace H := H.ext hc392
    refine dn tbok (by kernel_rfl) [0, 1, 2, 3, 4, 5] [.int .i64 (List.getD r228.1 (Int.toNat i298) 0)] [(138, .bool (decide ((List.getD r228.1 (Int.toNat i298) 0) < 0)))] (fun w_ => [0 ≤ i298 ∧ i298 < (((List.length r228.1) : Nat) : Int), World.cell? w_ ⟨b388, 0 + (Int.toNat i298) * 1, none⟩ = some (.int .i64 (List.getD r228.1 (Int.toNat i298) 0))]) 9 E (fun _ _ => by kernel_rfl) (by kernel_rfl) (fun w_ hS_ => ⟨g387, Rds.at1 (HR394.rdk [] hS_ 9 rds_row rfl) 0 g387⟩) (by kernel_rfl) HS393 ?_
    clear E; intro a E
    replace E := E.same (t := 138) (u := .bool true) rfl (congrArg Value.bool (decide_eq_true h390))
    refine dn tbok (by kernel_rfl) [6, 7, 8, 9, 10, 11, 12, 13, 14] [] [(147, .bool true)] (fun w_ => []) 0 E (fun _ _ => by kernel_rfl) (by kernel_rfl) (fun w_ hS_ => trivial) (by kernel_rfl) HS393 ?_
    clear E; intro a E
    refine dr_done (by kernel_rfl) ?_
    clear HS393 HR394
    refine th_n ?_
    refine c_true E rfl ?_
    refine wp_seq ?_
    refine wp_region_lit ?_
    refine vn tbok 1 [] [(6, .bool false)] [] E (by kernel_rfl) (by kernel_rfl) trivial ?_
    clear E; intro a E
    refine wpList_nil ?_
    refine th_n ?_
    refine wp_ret ?_
    refine th_ret ?_
    refine bl_ret ?_
    refine th_ret ?_
    refine th_ret ?_
    refine .inr ⟨rfl, ?_⟩
    refine bl_ret ?_
    refine th_ret ?_
    have hx_ := Option.some.inj hP; subst hx_
    have hP : some (false) = some r := hK382
    obtain rfl := Option.some.inj hP
    refine ret1 E rfl rfl ?_
    exact ⟨_, rfl, rfl, H.sel [] rfl⟩
   replace hP := ite_f h390 hP
   have HR398 := H
   refine dr_start (S := fun w_ => Chg (atL []) w383 w_) (by kernel_rfl) ?_
   intro w395 hc396
   have HS397 : Chg (atL []) w383 w395 := hc396.mono (fun _ _ h_ => h_.elim)
   replace H := H.ext hc396
   refine dn tbok (by kernel_rfl) [0, 1, 2, 3, 4, 5] [.int .i64 (List.getD r228.1 (Int.toNat i298) 0)] [(138, .bool (decide ((List.getD r228.1 (Int.toNat i298) 0) < 0)))] (fun w_ => [0 ≤ i298 ∧ i298 < (((List.length r228.1) : Nat) : Int), World.cell? w_ ⟨b388, 0 + (Int.toNat i298) * 1, none⟩ = some (.int .i64 (List.getD r228.1 (Int.toNat i298) 0))]) 9 E (fun _ _ => by kernel_rfl) (by kernel_rfl) (fun w_ hS_ => ⟨g387, Rds.at1 (HR398.rdk [] hS_ 9 rds_row rfl) 0 g387⟩) (by kernel_rfl) HS397 ?_
   clear E; intro a E
   replace E := E.same (t := 138) (u := .bool false) rfl (congrArg Value.bool (decide_eq_false h390))
   refine dn tbok (by kernel_rfl) [6, 7, 8, 9, 10, 11, 12, 13, 14] [.int .i64 (List.getD r228.1 (Int.toNat i298) 0), .slice A1 (List.length aAccept) c2] [(147, .bool (decide ((((List.length aAccept) : Nat) : Int) ≤ (List.getD r228.1 (Int.toNat i298) 0))))] (fun w_ => [0 ≤ i298 ∧ i298 < (((List.length r228.1) : Nat) : Int), World.cell? w_ ⟨b388, 0 + (Int.toNat i298) * 1, none⟩ = some (.int .i64 (List.getD r228.1 (Int.toNat i298) 0)), World.cell? w_ ⟨g17, 1, none⟩ = some (.slice A1 (List.length aAccept) c2)]) 0 E (fun _ _ => by kernel_rfl) (by kernel_rfl) (fun w_ hS_ => ⟨g387, Rds.at1 (HR398.rdk [] hS_ 9 rds_row rfl) 0 g387, (HR398.boxk [] hS_ 3 rfl rfl).cell (j := 1) rfl⟩) (by kernel_rfl) HS397 ?_
   clear E; intro a E
   refine dr_done (by kernel_rfl) ?_
   clear HS397 HR398
   refine th_n ?_
   refine E.cases (t := 147) rfl (fun hb_ E_ => ?_) (fun hb_ E_ => ?_)
   ·
    replace E := E_; clear E_
    have h399 : (((List.length aAccept) : Nat) : Int) ≤ (List.getD r228.1 (Int.toNat i298) 0) := of_decide_eq_true hb_
    clear hb_; replace hP := ite_t h399 hP
    refine c_true E rfl ?_
    refine wp_seq ?_
    refine wp_region_lit ?_
    refine vn tbok 1 [] [(6, .bool false)] [] E (by kernel_rfl) (by kernel_rfl) trivial ?_
    clear E; intro a E
    refine wpList_nil ?_
    refine th_n ?_
    refine wp_ret ?_
    refine th_ret ?_
    refine bl_ret ?_
    refine th_ret ?_
    refine th_ret ?_
    refine .inr ⟨rfl, ?_⟩
    refine bl_ret ?_
    refine th_ret ?_
    have hx_ := Option.some.inj hP; subst hx_
    have hP : some (false) = some r := hK382
    obtain rfl := Option.some.inj hP
    refine ret1 E rfl rfl ?_
    exact ⟨_, rfl, rfl, H.sel [] rfl⟩
   replace E := E_; clear E_
   have h400 : ¬ ((((List.length aAccept) : Nat) : Int) ≤ (List.getD r228.1 (Int.toNat i298) 0)) := of_decide_eq_false hb_
   clear hb_; replace hP := ite_f h400 hP
   refine c_false E rfl ?_
   refine wp_skip ?_
   refine th_n ?_
   refine wp_seq ?_
   by_cases h401 : r49.1.1 = true
   ·
    replace hP := ite_t h401 hP
    by_cases h402 : r49.1.1 = true
    ·
     replace hP := ite_t h402 hP
     by_cases h403 : 0 < i298
     ·
      replace hP := ite_t h403 hP
      obtain ⟨g404, hP⟩ := ask_inv hP
      obtain ⟨b405, e_b405⟩ := H.raddr 4 rfl (idx_pos g404)
      subst e_b405
      obtain ⟨g407, hP⟩ := ask_inv hP
      obtain ⟨g408, hP⟩ := ask_inv hP
      obtain ⟨g409, hP⟩ := ask_inv hP
      have HR413 := H
      refine dr_start (S := fun w_ => Chg (atL []) w395 w_) (by kernel_rfl) ?_
      intro w410 hc411
      have HS412 : Chg (atL []) w395 w410 := hc411.mono (fun _ _ h_ => h_.elim)
      replace H := H.ext hc411
      refine dn tbok (by kernel_rfl) [0, 1, 2, 3] [.bool r49.1.1] [(151, .bool (!r49.1.1))] (fun w_ => [World.cell? w_ ⟨g67, 0, none⟩ = some (.bool r49.1.1)]) 48 E (fun _ _ => by kernel_rfl) (by kernel_rfl) (fun w_ hS_ => ((HR413.boxk [] hS_ 7 rfl rfl).cell (j := 0) rfl)) (by kernel_rfl) HS412 ?_
      clear E; intro a E
      replace E := E.same (t := 151) (u := .bool false) rfl (congrArg Value.bool (not_t' (h401)))
      refine dn tbok (by kernel_rfl) [4, 5, 6, 7, 8, 9, 10, 11, 12, 13, 14, 15, 16, 17, 18, 19, 20, 21, 22, 23, 24, 25, 26, 27] [.bool r49.1.1] [(172, .bool false), (175, .bool r49.1.1)] (fun w_ => [World.cell? w_ ⟨g67, 0, none⟩ = some (.bool r49.1.1)]) 24 E (fun _ _ => by kernel_rfl) (by kernel_rfl) (fun w_ hS_ => ((HR413.boxk [] hS_ 7 rfl rfl).cell (j := 0) rfl)) (by kernel_rfl) HS412 ?_
      clear E; intro a E
      replace E := E.same (t := 175) (u := .bool true) rfl (congrArg Value.bool h402)
      refine dn tbok (by kernel_rfl) [28, 29, 30, 31] [] [(179, .bool (decide (0 < i298)))] (fun w_ => []) 20 E (fun _ _ => by kernel_rfl) (by kernel_rfl) (fun w_ hS_ => trivial) (by kernel_rfl) HS412 ?_
      clear E; intro a E
      replace E := E.same (t := 179) (u := .bool true) rfl (congrArg Value.bool (decide_eq_true h403))
      refine dn tbok (by kernel_rfl) [32, 33, 34, 35, 36, 37, 38, 39, 40, 41, 42, 43, 44, 45, 46, 47, 48, 49, 50, 51] [.slice (some ⟨b405, 0, none⟩) (List.length r49.1.2.1) c59, .int .i64 (List.getD r228.1 (Int.toNat i298) 0), .int .i64 (List.getD r49.1.2.1 (Int.toNat (List.getD r228.1 (Int.toNat i298) 0)) 0), .slice (some ⟨b405, 0, none⟩) (List.length r49.1.2.1) c59, .int .i64 (i298 - 1), .int .i64 (List.getD r228.1 (Int.toNat (i298 - 1)) 0), .int .i64 (List.getD r49.1.2.1 (Int.toNat (List.getD r228.1 (Int.toNat (i298 - 1)) 0)) 0)] [(199, .bool (decide ((List.getD r49.1.2.1 (Int.toNat (List.getD r228.1 (Int.toNat (i298 - 1)) 0)) 0) ≤ (List.getD r49.1.2.1 (Int.toNat (List.getD r228.1 (Int.toNat i298) 0)) 0))))] (fun w_ => [World.cell? w_ ⟨g67, 1, none⟩ = some (.slice (some ⟨b405, 0, none⟩) (List.length r49.1.2.1) c59), 0 ≤ i298 ∧ i298 < (((List.length r228.1) : Nat) : Int), World.cell? w_ ⟨b388, 0 + (Int.toNat i298) * 1, none⟩ = some (.int .i64 (List.getD r228.1 (Int.toNat i298) 0)), 0 ≤ (List.getD r228.1 (Int.toNat i298) 0) ∧ (List.getD r228.1 (Int.toNat i298) 0) < (((List.length r49.1.2.1) : Nat) : Int), World.cell? w_ ⟨b405, 0 + (Int.toNat (List.getD r228.1 (Int.toNat i298) 0)) * 1, none⟩ = some (.int .i64 (List.getD r49.1.2.1 (Int.toNat (List.getD r228.1 (Int.toNat i298) 0)) 0)), World.cell? w_ ⟨g67, 1, none⟩ = some (.slice (some ⟨b405, 0, none⟩) (List.length r49.1.2.1) c59), IntKind.i64.wrap (i298 - 1) = i298 - 1, 0 ≤ (i298 - 1) ∧ (i298 - 1) < (((List.length r228.1) : Nat) : Int), World.cell? w_ ⟨b388, 0 + (Int.toNat (i298 - 1)) * 1, none⟩ = some (.int .i64 (List.getD r228.1 (Int.toNat (i298 - 1)) 0)), 0 ≤ (List.getD r228.1 (Int.toNat (i298 - 1)) 0) ∧ (List.getD r228.1 (Int.toNat (i298 - 1)) 0) < (((List.length r49.1.2.1) : Nat) : Int), World.cell? w_ ⟨b405, 0 + (Int.toNat (List.getD r228.1 (Int.toNat (i298 - 1)) 0)) * 1, none⟩ = some (.int .i64 (List.getD r49.1.2.1 (Int.toNat (List.getD r228.1 (Int.toNat (i298 - 1)) 0)) 0))]) 0 E (fun _ _ => by kernel_rfl) (by kernel_rfl) (fun w_ hS_ => ⟨(HR413.boxk [] hS_ 7 rfl rfl).cell (j := 1) rfl, g387, Rds.at1 (HR413.rdk [] hS_ 9 rds_row rfl) 0 g387, g404, Rds.at1 (HR413.rdk [] hS_ 4 rds_row rfl) 0 g404, (HR413.boxk [] hS_ 7 rfl rfl).cell (j := 1) rfl, wrap_in g407, g408, Rds.at1 (HR413.rdk [] hS_ 9 rds_row rfl) 0 g408, g409, Rds.at1 (HR413.rdk [] hS_ 4 rds_row rfl) 0 g409⟩) (by kernel_rfl) HS412 ?_
      clear E; intro a E
      refine dr_done (by kernel_rfl) ?_
      clear HS412 HR413
      refine th_n ?_
      refine E.cases (t := 199) rfl (fun hb_ E_ => ?_) (fun hb_ E_ => ?_)
      ·
       replace E := E_; clear E_
       have h414 : (List.getD r49.1.2.1 (Int.toNat (List.getD r228.1 (Int.toNat (i298 - 1)) 0)) 0) ≤ (List.getD r49.1.2.1 (Int.toNat (List.getD r228.1 (Int.toNat i298) 0)) 0) := of_decide_eq_true hb_
       clear hb_; replace hP := ite_t h414 hP
       refine c_true E rfl ?_
       refine wp_seq ?_
       refine wp_region_lit ?_
       refine vn tbok 1 [] [(6, .bool false)] [] E (by kernel_rfl) (by kernel_rfl) trivial ?_
       clear E; intro a E
       refine wpList_nil ?_
       refine th_n ?_
       refine wp_ret ?_
       refine bl_ret ?_
       refine th_ret ?_
       refine th_ret ?_
       refine .inr ⟨rfl, ?_⟩
       refine bl_ret ?_
       refine th_ret ?_
       have hx_ := Option.some.inj hP; subst hx_
       have hP : some (false) = some r := hK382
       obtain rfl := Option.some.inj hP
       refine ret1 E rfl rfl ?_
       exact ⟨_, rfl, rfl, H.sel [] rfl⟩
      replace E := E_; clear E_
      have h415 : ¬ ((List.getD r49.1.2.1 (Int.toNat (List.getD r228.1 (Int.toNat (i298 - 1)) 0)) 0) ≤ (List.getD r49.1.2.1 (Int.toNat (List.getD r228.1 (Int.toNat i298) 0)) 0)) := of_decide_eq_false hb_
      clear hb_; replace hP := ite_f h415 hP
      refine c_false E rfl ?_
      refine wp_skip ?_
      refine bl_n ?_
      refine th_n ?_
      refine wp_region_lit ?_
      obtain ⟨g416, hP⟩ := ask_inv hP
      refine vn tbok 3 [.int .i64 (i298 + 1)] [(18, .int .i64 (i298 + 1))] [IntKind.i64.wrap (i298 + 1) = i298 + 1] E (by kernel_rfl) (by kernel_rfl) (wrap_in g416) ?_
      clear E; intro a E
      refine wpList_nil ?_
      exact th_n ⟨m379, Nat.lt_succ_self _, i298 + 1, E.pick _ ⟨rfl, rfl, rfl, rfl, rfl, rfl, trivial⟩, H.sel [0, 1, 2, 3, 4, 5, 6, 7, 8, 9] rfl, hP⟩
     replace hP := ite_f h403 hP
     have HR420 := H
     refine dr_start (S := fun w_ => Chg (atL []) w395 w_) (by kernel_rfl) ?_
     intro w417 hc418
     have HS419 : Chg (atL []) w395 w417 := hc418.mono (fun _ _ h_ => h_.elim)
     replace H := H.ext hc418
     refine dn tbok (by kernel_rfl) [0, 1, 2, 3] [.bool r49.1.1] [(151, .bool (!r49.1.1))] (fun w_ => [World.cell? w_ ⟨g67, 0, none⟩ = some (.bool r49.1.1)]) 48 E (fun _ _ => by kernel_rfl) (by kernel_rfl) (fun w_ hS_ => ((HR420.boxk [] hS_ 7 rfl rfl).cell (j := 0) rfl)) (by kernel_rfl) HS419 ?_
     clear E; intro a E
     replace E := E.same (t := 151) (u := .bool false) rfl (congrArg Value.bool (not_t' (h401)))
     refine dn tbok (by kernel_rfl) [4, 5, 6, 7, 8, 9, 10, 11, 12, 13, 14, 15, 16, 17, 18, 19, 20, 21, 22, 23, 24, 25, 26, 27] [.bool r49.1.1] [(172, .bool false), (175, .bool r49.1.1)] (fun w_ => [World.cell? w_ ⟨g67, 0, none⟩ = some (.bool r49.1.1)]) 24 E (fun _ _ => by kernel_rfl) (by kernel_rfl) (fun w_ hS_ => ((HR420.boxk [] hS_ 7 rfl rfl).cell (j := 0) rfl)) (by kernel_rfl) HS419 ?_
     clear E; intro a E
     replace E := E.same (t := 175) (u := .bool true) rfl (congrArg Value.bool h402)
     refine dn tbok (by kernel_rfl) [28, 29, 30, 31] [] [(179, .bool (decide (0 < i298)))] (fun w_ => []) 20 E (fun _ _ => by kernel_rfl) (by kernel_rfl) (fun w_ hS_ => trivial) (by kernel_rfl) HS419 ?_
     clear E; intro a E
     replace E := E.same (t := 179) (u := .bool false) rfl (congrArg Value.bool (decide_eq_false h403))
     refine dn tbok (by kernel_rfl) [32, 33, 34, 35, 36, 37, 38, 39, 40, 41, 42, 43, 44, 45, 46, 47, 48, 49, 50, 51] [] [(199, .bool false)] (fun w_ => []) 0 E (fun _ _ => by kernel_rfl) (by kernel_rfl) (fun w_ hS_ => trivial) (by kernel_rfl) HS419 ?_
     clear E; intro a E
     refine dr_done (by kernel_rfl) ?_
     clear HS419 HR420
     refine th_n ?_
     refine c_false E rfl ?_
     refine wp_skip ?_
     refine bl_n ?_
     refine th_n ?_
     refine wp_region_lit ?_
     obtain ⟨g421, hP⟩ := ask_inv hP
     refine vn tbok 3 [.int .i64 (i298 + 1)] [(18, .int .i64 (i298 + 1))] [IntKind.i64.wrap (i298 + 1) = i298 + 1] E (by kernel_rfl) (by kernel_rfl) (wrap_in g421) ?_
     clear E; intro a E
     refine wpList_nil ?_
     exact th_n ⟨m379, Nat.lt_succ_self _, i298 + 1, E.pick _ ⟨rfl, rfl, rfl, rfl, rfl, rfl, trivial⟩, H.sel [0, 1, 2, 3, 4, 5, 6, 7, 8, 9] rfl, hP⟩
    replace hP := ite_f h402 hP
    have HR425 := H
    refine dr_start (S := fun w_ => Chg (atL []) w395 w_) (by kernel_rfl) ?_
    intro w422 hc423
    have HS424 : Chg (atL []) w395 w422 := hc423.mono (fun _ _ h_ => h_.elim)
    replace H := H.ext hc423
    refine dn tbok (by kernel_rfl) [0, 1, 2, 3] [.bool r49.1.1] [(151, .bool (!r49.1.1))] (fun w_ => [World.cell? w_ ⟨g67, 0, none⟩ = some (.bool r49.1.1)]) 48 E (fun _ _ => by kernel_rfl) (by kernel_rfl) (fun w_ hS_ => ((HR425.boxk [] hS_ 7 rfl rfl).cell (j := 0) rfl)) (by kernel_rfl) HS424 ?_
    clear E; intro a E
    replace E := E.same (t := 151) (u := .bool false) rfl (congrArg Value.bool (not_t' (h401)))
    refine dn tbok (by kernel_rfl) [4, 5, 6, 7, 8, 9, 10, 11, 12, 13, 14, 15, 16, 17, 18, 19, 20, 21, 22, 23, 24, 25, 26, 27] [.bool r49.1.1] [(172, .bool false), (175, .bool r49.1.1)] (fun w_ => [World.cell? w_ ⟨g67, 0, none⟩ = some (.bool r49.1.1)]) 24 E (fun _ _ => by kernel_rfl) (by kernel_rfl) (fun w_ hS_ => ((HR425.boxk [] hS_ 7 rfl rfl).cell (j := 0) rfl)) (by kernel_rfl) HS424 ?_
    clear E; intro a E
    replace E := E.same (t := 175) (u := .bool false) rfl (congrArg Value.bool (eq_false_of_ne_true h402))
    refine dn tbok (by kernel_rfl) [28, 29, 30, 31, 32, 33, 34, 35, 36, 37, 38, 39, 40, 41, 42, 43, 44, 45, 46, 47, 48, 49, 50, 51] [] [(199, .bool false)] (fun w_ => []) 0 E (fun _ _ => by kernel_rfl) (by kernel_rfl) (fun w_ hS_ => trivial) (by kernel_rfl) HS424 ?_
    clear E; intro a E
    refine dr_done (by kernel_rfl) ?_
    clear HS424 HR425
    refine th_n ?_
    refine c_false E rfl ?_
    refine wp_skip ?_
    refine bl_n ?_
    refine th_n ?_
    refine wp_region_lit ?_
    obtain ⟨g426, hP⟩ := ask_inv hP
    refine vn tbok 3 [.int .i64 (i298 + 1)] [(18, .int .i64 (i298 + 1))] [IntKind.i64.wrap (i298 + 1) = i298 + 1] E (by kernel_rfl) (by kernel_rfl) (wrap_in g426) ?_
    clear E; intro a E
    refine wpList_nil ?_
    exact th_n ⟨m379, Nat.lt_succ_self _, i298 + 1, E.pick _ ⟨rfl, rfl, rfl, rfl, rfl, rfl, trivial⟩, H.sel [0, 1, 2, 3, 4, 5, 6, 7, 8, 9] rfl, hP⟩
   replace hP := ite_f h401 hP
   obtain ⟨g427, hP⟩ := ask_inv hP
   obtain ⟨b428, o429, e_b428⟩ := (H.rd 0 rds_ro).addr (idx_pos g427)
   subst e_b428
   by_cases h430 : (List.getD aAccept (Int.toNat (List.getD r228.1 (Int.toNat i298) 0)) false) = true
   ·
    replace hP := ite_t h430 hP
    have HR434 := H
    refine dr_start (S := fun w_ => Chg (atL []) w395 w_) (by kernel_rfl) ?_
    intro w431 hc432
    have HS433 : Chg (atL []) w395 w431 := hc432.mono (fun _ _ h_ => h_.elim)
    replace H := H.ext hc432
    refine dn tbok (by kernel_rfl) [0, 1, 2, 3] [.bool r49.1.1] [(151, .bool (!r49.1.1))] (fun w_ => [World.cell? w_ ⟨g67, 0, none⟩ = some (.bool r49.1.1)]) 48 E (fun _ _ => by kernel_rfl) (by kernel_rfl) (fun w_ hS_ => ((HR434.boxk [] hS_ 7 rfl rfl).cell (j := 0) rfl)) (by kernel_rfl) HS433 ?_
    clear E; intro a E
    replace E := E.same (t := 151) (u := .bool true) rfl (congrArg Value.bool (not_f' ((eq_false_of_ne_true h401))))
    refine dn tbok (by kernel_rfl) [4, 5, 6, 7, 8, 9, 10, 11, 12] [.slice (some ⟨b428, o429, none⟩) (List.length aAccept) c2, .int .i64 (List.getD r228.1 (Int.toNat i298) 0), .bool (List.getD aAccept (Int.toNat (List.getD r228.1 (Int.toNat i298) 0)) false)] [(160, .bool (List.getD aAccept (Int.toNat (List.getD r228.1 (Int.toNat i298) 0)) false))] (fun w_ => [World.cell? w_ ⟨g17, 1, none⟩ = some (.slice (some ⟨b428, o429, none⟩) (List.length aAccept) c2), 0 ≤ i298 ∧ i298 < (((List.length r228.1) : Nat) : Int), World.cell? w_ ⟨b388, 0 + (Int.toNat i298) * 1, none⟩ = some (.int .i64 (List.getD r228.1 (Int.toNat i298) 0)), 0 ≤ (List.getD r228.1 (Int.toNat i298) 0) ∧ (List.getD r228.1 (Int.toNat i298) 0) < (((List.length aAccept) : Nat) : Int), World.cell? w_ ⟨b428, o429 + (Int.toNat (List.getD r228.1 (Int.toNat i298) 0)) * 1, none⟩ = some (.bool (List.getD aAccept (Int.toNat (List.getD r228.1 (Int.toNat i298) 0)) false))]) 39 E (fun _ _ => by kernel_rfl) (by kernel_rfl) (fun w_ hS_ => ⟨(HR434.boxk [] hS_ 3 rfl rfl).cell (j := 1) rfl, g387, Rds.at1 (HR434.rdk [] hS_ 9 rds_row rfl) 0 g387, g427, Rds.at1 (HR434.rdk [] hS_ 0 rds_ro rfl) false g427⟩) (by kernel_rfl) HS433 ?_
    clear E; intro a E
    replace E := E.same (t := 160) (u := .bool true) rfl (congrArg Value.bool h430)
    refine dn tbok (by kernel_rfl) [13, 14, 15, 16, 17, 18, 19, 20, 21, 22, 23, 24, 25, 26, 27, 28, 29, 30, 31, 32, 33, 34, 35, 36, 37, 38, 39, 40, 41, 42, 43, 44, 45, 46, 47, 48, 49, 50, 51] [] [(199, .bool true)] (fun w_ => []) 0 E (fun _ _ => by kernel_rfl) (by kernel_rfl) (fun w_ hS_ => trivial) (by kernel_rfl) HS433 ?_
    clear E; intro a E
    refine dr_done (by kernel_rfl) ?_
    clear HS433 HR434
    refine th_n ?_
    refine c_true E rfl ?_
    refine wp_seq ?_
    refine wp_region_lit ?_
    refine vn tbok 1 [] [(6, .bool false)] [] E (by kernel_rfl) (by kernel_rfl) trivial ?_
    clear E; intro a E
    refine wpList_nil ?_
    refine th_n ?_
    refine wp_ret ?_
    refine bl_ret ?_
    refine th_ret ?_
    refine th_ret ?_
    refine .inr ⟨rfl, ?_⟩
    refine bl_ret ?_
    refine th_ret ?_
    have hx_ := Option.some.inj hP; subst hx_
    have hP : some (false) = some r := hK382
    obtain rfl := Option.some.inj hP
    refine ret1 E rfl rfl ?_
    exact ⟨_, rfl, rfl, H.sel [] rfl⟩
   replace hP := ite_f h430 hP
   obtain ⟨g435, hP⟩ := ask_inv hP
   obtain ⟨b436, e_b436⟩ := H.raddr 4 rfl (idx_pos g435)
   subst e_b436
   by_cases h438 : ((List.getD r49.1.2.1 (Int.toNat (List.getD r228.1 (Int.toNat i298) 0)) 0) : Int) = -1
   ·
    replace hP := ite_t h438 hP
    by_cases h439 : r49.1.1 = true
    ·
     replace hP := ite_t h439 hP
     by_cases h440 : 0 < i298
     ·
      replace hP := ite_t h440 hP
      obtain ⟨g441, hP⟩ := ask_inv hP
      obtain ⟨g442, hP⟩ := ask_inv hP
      obtain ⟨g443, hP⟩ := ask_inv hP
      have HR447 := H
      refine dr_start (S := fun w_ => Chg (atL []) w395 w_) (by kernel_rfl) ?_
      intro w444 hc445
      have HS446 : Chg (atL []) w395 w444 := hc445.mono (fun _ _ h_ => h_.elim)
      replace H := H.ext hc445
      refine dn tbok (by kernel_rfl) [0, 1, 2, 3] [.bool r49.1.1] [(151, .bool (!r49.1.1))] (fun w_ => [World.cell? w_ ⟨g67, 0, none⟩ = some (.bool r49.1.1)]) 48 E (fun _ _ => by kernel_rfl) (by kernel_rfl) (fun w_ hS_ => ((HR447.boxk [] hS_ 7 rfl rfl).cell (j := 0) rfl)) (by kernel_rfl) HS446 ?_
      clear E; intro a E
      replace E := E.same (t := 151) (u := .bool true) rfl (congrArg Value.bool (not_f' ((eq_false_of_ne_true h401))))
      refine dn tbok (by kernel_rfl) [4, 5, 6, 7, 8, 9, 10, 11, 12] [.slice (some ⟨b428, o429, none⟩) (List.length aAccept) c2, .int .i64 (List.getD r228.1 (Int.toNat i298) 0), .bool (List.getD aAccept (Int.toNat (List.getD r228.1 (Int.toNat i298) 0)) false)] [(160, .bool (List.getD aAccept (Int.toNat (List.getD r228.1 (Int.toNat i298) 0)) false))] (fun w_ => [World.cell? w_ ⟨g17, 1, none⟩ = some (.slice (some ⟨b428, o429, none⟩) (List.length aAccept) c2), 0 ≤ i298 ∧ i298 < (((List.length r228.1) : Nat) : Int), World.cell? w_ ⟨b388, 0 + (Int.toNat i298) * 1, none⟩ = some (.int .i64 (List.getD r228.1 (Int.toNat i298) 0)), 0 ≤ (List.getD r228.1 (Int.toNat i298) 0) ∧ (List.getD r228.1 (Int.toNat i298) 0) < (((List.length aAccept) : Nat) : Int), World.cell? w_ ⟨b428, o429 + (Int.toNat (List.getD r228.1 (Int.toNat i298) 0)) * 1, none⟩ = some (.bool (List.getD aAccept (Int.toNat (List.getD r228.1 (Int.toNat i298) 0)) false))]) 39 E (fun _ _ => by kernel_rfl) (by kernel_rfl) (fun w_ hS_ => ⟨(HR447.boxk [] hS_ 3 rfl rfl).cell (j := 1) rfl, g387, Rds.at1 (HR447.rdk [] hS_ 9 rds_row rfl) 0 g387, g427, Rds.at1 (HR447.rdk [] hS_ 0 rds_ro rfl) false g427⟩) (by kernel_rfl) HS446 ?_
      clear E; intro a E
      replace E := E.same (t := 160) (u := .bool false) rfl (congrArg Value.bool (eq_false_of_ne_true h430))
      refine dn tbok (by kernel_rfl) [13, 14, 15, 16, 17, 18, 19, 20, 21, 22, 23, 24] [.slice (some ⟨b436, 0, none⟩) (List.length r49.1.2.1) c59, .int .i64 (List.getD r228.1 (Int.toNat i298) 0), .int .i64 (List.getD r49.1.2.1 (Int.toNat (List.getD r228.1 (Int.toNat i298) 0)) 0)] [(172, .bool (((List.getD r49.1.2.1 (Int.toNat (List.getD r228.1 (Int.toNat i298) 0)) 0) : Int) != (-1)))] (fun w_ => [World.cell? w_ ⟨g67, 1, none⟩ = some (.slice (some ⟨b436, 0, none⟩) (List.length r49.1.2.1) c59), 0 ≤ i298 ∧ i298 < (((List.length r228.1) : Nat) : Int), World.cell? w_ ⟨b388, 0 + (Int.toNat i298) * 1, none⟩ = some (.int .i64 (List.getD r228.1 (Int.toNat i298) 0)), 0 ≤ (List.getD r228.1 (Int.toNat i298) 0) ∧ (List.getD r228.1 (Int.toNat i298) 0) < (((List.length r49.1.2.1) : Nat) : Int), World.cell? w_ ⟨b436, 0 + (Int.toNat (List.getD r228.1 (Int.toNat i298) 0)) * 1, none⟩ = some (.int .i64 (List.getD r49.1.2.1 (Int.toNat (List.getD r228.1 (Int.toNat i298) 0)) 0))]) 27 E (fun _ _ => by kernel_rfl) (by kernel_rfl) (fun w_ hS_ => ⟨(HR447.boxk [] hS_ 7 rfl rfl).cell (j := 1) rfl, g387, Rds.at1 (HR447.rdk [] hS_ 9 rds_row rfl) 0 g387, g435, Rds.at1 (HR447.rdk [] hS_ 4 rds_row rfl) 0 g435⟩) (by kernel_rfl) HS446 ?_
      clear E; intro a E
      replace E := E.same (t := 172) (u := .bool false) rfl (congrArg Value.bool (bne_eq_false_iff_eq.2 h438))
      refine dn tbok (by kernel_rfl) [25, 26, 27] [.bool r49.1.1] [(175, .bool r49.1.1)] (fun w_ => [World.cell? w_ ⟨g67, 0, none⟩ = some (.bool r49.1.1)]) 24 E (fun _ _ => by kernel_rfl) (by kernel_rfl) (fun w_ hS_ => ((HR447.boxk [] hS_ 7 rfl rfl).cell (j := 0) rfl)) (by kernel_rfl) HS446 ?_
      clear E; intro a E
      replace E := E.same (t := 175) (u := .bool true) rfl (congrArg Value.bool h439)
      refine dn tbok (by kernel_rfl) [28, 29, 30, 31] [] [(179, .bool (decide (0 < i298)))] (fun w_ => []) 20 E (fun _ _ => by kernel_rfl) (by kernel_rfl) (fun w_ hS_ => trivial) (by kernel_rfl) HS446 ?_
      clear E; intro a E
      replace E := E.same (t := 179) (u := .bool true) rfl (congrArg Value.bool (decide_eq_true h440))
      refine dn tbok (by kernel_rfl) [32, 33, 34, 35, 36, 37, 38, 39, 40, 41, 42, 43, 44, 45, 46, 47, 48, 49, 50, 51] [.slice (some ⟨b436, 0, none⟩) (List.length r49.1.2.1) c59, .int .i64 (List.getD r228.1 (Int.toNat i298) 0), .int .i64 (List.getD r49.1.2.1 (Int.toNat (List.getD r228.1 (Int.toNat i298) 0)) 0), .slice (some ⟨b436, 0, none⟩) (List.length r49.1.2.1) c59, .int .i64 (i298 - 1), .int .i64 (List.getD r228.1 (Int.toNat (i298 - 1)) 0), .int .i64 (List.getD r49.1.2.1 (Int.toNat (List.getD r228.1 (Int.toNat (i298 - 1)) 0)) 0)] [(199, .bool (decide ((List.getD r49.1.2.1 (Int.toNat (List.getD r228.1 (Int.toNat (i298 - 1)) 0)) 0) ≤ (List.getD r49.1.2.1 (Int.toNat (List.getD r228.1 (Int.toNat i298) 0)) 0))))] (fun w_ => [World.cell? w_ ⟨g67, 1, none⟩ = some (.slice (some ⟨b436, 0, none⟩) (List.length r49.1.2.1) c59), 0 ≤ i298 ∧ i298 < (((List.length r228.1) : Nat) : Int), World.cell? w_ ⟨b388, 0 + (Int.toNat i298) * 1, none⟩ = some (.int .i64 (List.getD r228.1 (Int.toNat i298) 0)), 0 ≤ (List.getD r228.1 (Int.toNat i298) 0) ∧ (List.getD r228.1 (Int.toNat i298) 0) < (((List.length r49.1.2.1) : Nat) : Int), World.cell? w_ ⟨b436, 0 + (Int.toNat (List.getD r228.1 (Int.toNat i298) 0)) * 1, none⟩ = some (.int .i64 (List.getD r49.1.2.1 (Int.toNat (List.getD r228.1 (Int.toNat i298) 0)) 0)), World.cell? w_ ⟨g67, 1, none⟩ = some (.slice (some ⟨b436, 0, none⟩) (List.length r49.1.2.1) c59), IntKind.i64.wrap (i298 - 1) = i298 - 1, 0 ≤ (i298 - 1) ∧ (i298 - 1) < (((List.length r228.1) : Nat) : Int), World.cell? w_ ⟨b388, 0 + (Int.toNat (i298 - 1)) * 1, none⟩ = some (.int .i64 (List.getD r228.1 (Int.toNat (i298 - 1)) 0)), 0 ≤ (List.getD r228.1 (Int.toNat (i298 - 1)) 0) ∧ (List.getD r228.1 (Int.toNat (i298 - 1)) 0) < (((List.length r49.1.2.1) : Nat) : Int), World.cell? w_ ⟨b436, 0 + (Int.toNat (List.getD r228.1 (Int.toNat (i298 - 1)) 0)) * 1, none⟩ = some (.int .i64 (List.getD r49.1.2.1 (Int.toNat (List.getD r228.1 (Int.toNat (i298 - 1)) 0)) 0))]) 0 E (fun _ _ => by kernel_rfl) (by kernel_rfl) (fun w_ hS_ => ⟨(HR447.boxk [] hS_ 7 rfl rfl).cell (j := 1) rfl, g387, Rds.at1 (HR447.rdk [] hS_ 9 rds_row rfl) 0 g387, g435, Rds.at1 (HR447.rdk [] hS_ 4 rds_row rfl) 0 g435, (HR447.boxk [] hS_ 7 rfl rfl).cell (j := 1) rfl, wrap_in g441, g442, Rds.at1 (HR447.rdk [] hS_ 9 rds_row rfl) 0 g442, g443, Rds.at1 (HR447.rdk [] hS_ 4 rds_row rfl) 0 g443⟩) (by kernel_rfl) HS446 ?_
      clear E; intro a E
      refine dr_done (by kernel_rfl) ?_
      clear HS446 HR447
      refine th_n ?_
      refine E.cases (t := 199) rfl (fun hb_ E_ => ?_) (fun hb_ E_ => ?_)
      ·
       replace E := E_; clear E_
       have h448 : (List.getD r49.1.2.1 (Int.toNat (List.getD r228.1 (Int.toNat (i298 - 1)) 0)) 0) ≤ (List.getD r49.1.2.1 (Int.toNat (List.getD r228.1 (Int.toNat i298) 0)) 0) := of_decide_eq_true hb_
       clear hb_; replace hP := ite_t h448 hP
       refine c_true E rfl ?_
       refine wp_seq ?_
       refine wp_region_lit ?_
       refine vn tbok 1 [] [(6, .bool false)] [] E (by kernel_rfl) (by kernel_rfl) trivial ?_
       clear E; intro a E
       refine wpList_nil ?_
       refine th_n ?_
       refine wp_ret ?_
       refine bl_ret ?_
       refine th_ret ?_
       refine th_ret ?_
       refine .inr ⟨rfl, ?_⟩
       refine bl_ret ?_
       refine th_ret ?_
       have hx_ := Option.some.inj hP; subst hx_
       have hP : some (false) = some r := hK382
       obtain rfl := Option.some.inj hP
       refine ret1 E rfl rfl ?_
       exact ⟨_, rfl, rfl, H.sel [] rfl⟩
      replace E := E_; clear E_
      have h449 : ¬ ((List.getD r49.1.2.1 (Int.toNat (List.getD r228.1 (Int.toNat (i298 - 1)) 0)) 0) ≤ (List.getD r49.1.2.1 (Int.toNat (List.getD r228.1 (Int.toNat i298) 0)) 0)) := of_decide_eq_false hb_
      clear hb_; replace hP := ite_f h449 hP
      refine c_false E rfl ?_
      refine wp_skip ?_
      refine bl_n ?_
      refine th_n ?_
      refine wp_region_lit ?_
      obtain ⟨g450, hP⟩ := ask_inv hP
      refine vn tbok 3 [.int .i64 (i298 + 1)] [(18, .int .i64 (i298 + 1))] [IntKind.i64.wrap (i298 + 1) = i298 + 1] E (by kernel_rfl) (by kernel_rfl) (wrap_in g450) ?_
      clear E; intro a E
      refine wpList_nil ?_
      exact th_n ⟨m379, Nat.lt_succ_self _, i298 + 1, E.pick _ ⟨rfl, rfl, rfl, rfl, rfl, rfl, trivial⟩, H.sel [0, 1, 2, 3, 4, 5, 6, 7, 8, 9] rfl, hP⟩
     replace hP := ite_f h440 hP
     have HR454 := H
     refine dr_start (S := fun w_ => Chg (atL []) w395 w_) (by kernel_rfl) ?_
     intro w451 hc452
     have HS453 : Chg (atL []) w395 w451 := hc452.mono (fun _ _ h_ => h_.elim)
     replace H := H.ext hc452
     refine dn tbok (by kernel_rfl) [0, 1, 2, 3] [.bool r49.1.1] [(151, .bool (!r49.1.1))] (fun w_ => [World.cell? w_ ⟨g67, 0, none⟩ = some (.bool r49.1.1)]) 48 E (fun _ _ => by kernel_rfl) (by kernel_rfl) (fun w_ hS_ => ((HR454.boxk [] hS_ 7 rfl rfl).cell (j := 0) rfl)) (by kernel_rfl) HS453 ?_
     clear E; intro a E
     replace E := E.same (t := 151) (u := .bool true) rfl (congrArg Value.bool (not_f' ((eq_false_of_ne_true h401))))
     refine dn tbok (by kernel_rfl) [4, 5, 6, 7, 8, 9, 10, 11, 12] [.slice (some ⟨b428, o429, none⟩) (List.length aAccept) c2, .int .i64 (List.getD r228.1 (Int.toNat i298) 0), .bool (List.getD aAccept (Int.toNat (List.getD r228.1 (Int.toNat i298) 0)) false)] [(160, .bool (List.getD aAccept (Int.toNat (List.getD r228.1 (Int.toNat i298) 0)) false))] (fun w_ => [World.cell? w_ ⟨g17, 1, none⟩ = some (.slice (some ⟨b428, o429, none⟩) (List.length aAccept) c2), 0 ≤ i298 ∧ i298 < (((List.length r228.1) : Nat) : Int), World.cell? w_ ⟨b388, 0 + (Int.toNat i298) * 1, none⟩ = some (.int .i64 (List.getD r228.1 (Int.toNat i298) 0)), 0 ≤ (List.getD r228.1 (Int.toNat i298) 0) ∧ (List.getD r228.1 (Int.toNat i298) 0) < (((List.length aAccept) : Nat) : Int), World.cell? w_ ⟨b428, o429 + (Int.toNat (List.getD r228.1 (Int.toNat i298) 0)) * 1, none⟩ = some (.bool (List.getD aAccept (Int.toNat (List.getD r228.1 (Int.toNat i298) 0)) false))]) 39 E (fun _ _ => by kernel_rfl) (by kernel_rfl) (fun w_ hS_ => ⟨(HR454.boxk [] hS_ 3 rfl rfl).cell (j := 1) rfl, g387, Rds.at1 (HR454.rdk [] hS_ 9 rds_row rfl) 0 g387, g427, Rds.at1 (HR454.rdk [] hS_ 0 rds_ro rfl) false g427⟩) (by kernel_rfl) HS453 ?_
     clear E; intro a E
     replace E := E.same (t := 160) (u := .bool false) rfl (congrArg Value.bool (eq_false_of_ne_true h430))
     refine dn tbok (by kernel_rfl) [13, 14, 15, 16, 17, 18, 19, 20, 21, 22, 23, 24] [.slice (some ⟨b436, 0, none⟩) (List.length r49.1.2.1) c59, .int .i64 (List.getD r228.1 (Int.toNat i298) 0), .int .i64 (List.getD r49.1.2.1 (Int.toNat (List.getD r228.1 (Int.toNat i298) 0)) 0)] [(172, .bool (((List.getD r49.1.2.1 (Int.toNat (List.getD r228.1 (Int.toNat i298) 0)) 0) : Int) != (-1)))] (fun w_ => [World.cell? w_ ⟨g67, 1, none⟩ = some (.slice (some ⟨b436, 0, none⟩) (List.length r49.1.2.1) c59), 0 ≤ i298 ∧ i298 < (((List.length r228.1) : Nat) : Int), World.cell? w_ ⟨b388, 0 + (Int.toNat i298) * 1, none⟩ = some (.int .i64 (List.getD r228.1 (Int.toNat i298) 0)), 0 ≤ (List.getD r228.1 (Int.toNat i298) 0) ∧ (List.getD r228.1 (Int.toNat i298) 0) < (((List.length r49.1.2.1) : Nat) : Int), World.cell? w_ ⟨b436, 0 + (Int.toNat (List.getD r228.1 (Int.toNat i298) 0)) * 1, none⟩ = some (.int .i64 (List.getD r49.1.2.1 (Int.toNat (List.getD r228.1 (Int.toNat i298) 0)) 0))]) 27 E (fun _ _ => by kernel_rfl) (by kernel_rfl) (fun w_ hS_ => ⟨(HR454.boxk [] hS_ 7 rfl rfl).cell (j := 1) rfl, g387, Rds.at1 (HR454.rdk [] hS_ 9 rds_row rfl) 0 g387, g435, Rds.at1 (HR454.rdk [] hS_ 4 rds_row rfl) 0 g435⟩) (by kernel_rfl) HS453 ?_
     clear E; intro a E
     replace E := E.same (t := 172) (u := .bool false) rfl (congrArg Value.bool (bne_eq_false_iff_eq.2 h438))
     refine dn tbok (by kernel_rfl) [25, 26, 27] [.bool r49.1.1] [(175, .bool r49.1.1)] (fun w_ => [World.cell? w_ ⟨g67, 0, none⟩ = some (.bool r49.1.1)]) 24 E (fun _ _ => by kernel_rfl) (by kernel_rfl) (fun w_ hS_ => ((HR454.boxk [] hS_ 7 rfl rfl).cell (j := 0) rfl)) (by kernel_rfl) HS453 ?_
     clear E; intro a E
     replace E := E.same (t := 175) (u := .bool true) rfl (congrArg Value.bool h439)
     refine dn tbok (by kernel_rfl) [28, 29, 30, 31] [] [(179, .bool (decide (0 < i298)))] (fun w_ => []) 20 E (fun _ _ => by kernel_rfl) (by kernel_rfl) (fun w_ hS_ => trivial) (by kernel_rfl) HS453 ?_
     clear E; intro a E
     replace E := E.same (t := 179) (u := .bool false) rfl (congrArg Value.bool (decide_eq_false h440))
     refine dn tbok (by kernel_rfl) [32, 33, 34, 35, 36, 37, 38, 39, 40, 41, 42, 43, 44, 45, 46, 47, 48, 49, 50, 51] [] [(199, .bool false)] (fun w_ => []) 0 E (fun _ _ => by kernel_rfl) (by kernel_rfl) (fun w_ hS_ => trivial) (by kernel_rfl) HS453 ?_
     clear E; intro a E
     refine dr_done (by kernel_rfl) ?_
     clear HS453 HR454
     refine th_n ?_
     refine c_false E rfl ?_
     refine wp_skip ?_
     refine bl_n ?_
     refine th_n ?_
     refine wp_region_lit ?_
     obtain ⟨g455, hP⟩ := ask_inv hP
     refine vn tbok 3 [.int .i64 (i298 + 1)] [(18, .int .i64 (i298 + 1))] [IntKind.i64.wrap (i298 + 1) = i298 + 1] E (by kernel_rfl) (by kernel_rfl) (wrap_in g455) ?_
     clear E; intro a E
     refine wpList_nil ?_
     exact th_n ⟨m379, Nat.lt_succ_self _, i298 + 1, E.pick _ ⟨rfl, rfl, rfl, rfl, rfl, rfl, trivial⟩, H.sel [0, 1, 2, 3, 4, 5, 6, 7, 8, 9] rfl, hP⟩
    replace hP := ite_f h439 hP
    have HR459 := H
    refine dr_start (S := fun w_ => Chg (atL []) w395 w_) (by kernel_rfl) ?_
    intro w456 hc457
    have HS458 : Chg (atL []) w395 w456 := hc457.mono (fun _ _ h_ => h_.elim)
    replace H := H.ext hc457
    refine dn tbok (by kernel_rfl) [0, 1, 2, 3] [.bool r49.1.1] [(151, .bool (!r49.1.1))] (fun w_ => [World.cell? w_ ⟨g67, 0, none⟩ = some (.bool r49.1.1)]) 48 E (fun _ _ => by kernel_rfl) (by kernel_rfl) (fun w_ hS_ => ((HR459.boxk [] hS_ 7 rfl rfl).cell (j := 0) rfl)) (by kernel_rfl) HS458 ?_
    clear E; intro a E
    replace E := E.same (t := 151) (u := .bool true) rfl (congrArg Value.bool (not_f' ((eq_false_of_ne_true h401))))
    refine dn tbok (by kernel_rfl) [4, 5, 6, 7, 8, 9, 10, 11, 12] [.slice (some ⟨b428, o429, none⟩) (List.length aAccept) c2, .int .i64 (List.getD r228.1 (Int.toNat i298) 0), .bool (List.getD aAccept (Int.toNat (List.getD r228.1 (Int.toNat i298) 0)) false)] [(160, .bool (List.getD aAccept (Int.toNat (List.getD r228.1 (Int.toNat i298) 0)) false))] (fun w_ => [World.cell? w_ ⟨g17, 1, none⟩ = some (.slice (some ⟨b428, o429, none⟩) (List.length aAccept) c2), 0 ≤ i298 ∧ i298 < (((List.length r228.1) : Nat) : Int), World.cell? w_ ⟨b388, 0 + (Int.toNat i298) * 1, none⟩ = some (.int .i64 (List.getD r228.1 (Int.toNat i298) 0)), 0 ≤ (List.getD r228.1 (Int.toNat i298) 0) ∧ (List.getD r228.1 (Int.toNat i298) 0) < (((List.length aAccept) : Nat) : Int), World.cell? w_ ⟨b428, o429 + (Int.toNat (List.getD r228.1 (Int.toNat i298) 0)) * 1, none⟩ = some (.bool (List.getD aAccept (Int.toNat (List.getD r228.1 (Int.toNat i298) 0)) false))]) 39 E (fun _ _ => by kernel_rfl) (by kernel_rfl) (fun w_ hS_ => ⟨(HR459.boxk [] hS_ 3 rfl rfl).cell (j := 1) rfl, g387, Rds.at1 (HR459.rdk [] hS_ 9 rds_row rfl) 0 g387, g427, Rds.at1 (HR459.rdk [] hS_ 0 rds_ro rfl) false g427⟩) (by kernel_rfl) HS458 ?_
    clear E; intro a E
    replace E := E.same (t := 160) (u := .bool false) rfl (congrArg Value.bool (eq_false_of_ne_true h430))
    refine dn tbok (by kernel_rfl) [13, 14, 15, 16, 17, 18, 19, 20, 21, 22, 23, 24] [.slice (some ⟨b436, 0, none⟩) (List.length r49.1.2.1) c59, .int .i64 (List.getD r228.1 (Int.toNat i298) 0), .int .i64 (List.getD r49.1.2.1 (Int.toNat (List.getD r228.1 (Int.toNat i298) 0)) 0)] [(172, .bool (((List.getD r49.1.2.1 (Int.toNat (List.getD r228.1 (Int.toNat i298) 0)) 0) : Int) != (-1)))] (fun w_ => [World.cell? w_ ⟨g67, 1, none⟩ = some (.slice (some ⟨b436, 0, none⟩) (List.length r49.1.2.1) c59), 0 ≤ i298 ∧ i298 < (((List.length r228.1) : Nat) : Int), World.cell? w_ ⟨b388, 0 + (Int.toNat i298) * 1, none⟩ = some (.int .i64 (List.getD r228.1 (Int.toNat i298) 0)), 0 ≤ (List.getD r228.1 (Int.toNat i298) 0) ∧ (List.getD r228.1 (Int.toNat i298) 0) < (((List.length r49.1.2.1) : Nat) : Int), World.cell? w_ ⟨b436, 0 + (Int.toNat (List.getD r228.1 (Int.toNat i298) 0)) * 1, none⟩ = some (.int .i64 (List.getD r49.1.2.1 (Int.toNat (List.getD r228.1 (Int.toNat i298) 0)) 0))]) 27 E (fun _ _ => by kernel_rfl) (by kernel_rfl) (fun w_ hS_ => ⟨(HR459.boxk [] hS_ 7 rfl rfl).cell (j := 1) rfl, g387, Rds.at1 (HR459.rdk [] hS_ 9 rds_row rfl) 0 g387, g435, Rds.at1 (HR459.rdk [] hS_ 4 rds_row rfl) 0 g435⟩) (by kernel_rfl) HS458 ?_
    clear E; intro a E
    replace E := E.same (t := 172) (u := .bool false) rfl (congrArg Value.bool (bne_eq_false_iff_eq.2 h438))
    refine dn tbok (by kernel_rfl) [25, 26, 27] [.bool r49.1.1] [(175, .bool r49.1.1)] (fun w_ => [World.cell? w_ ⟨g67, 0, none⟩ = some (.bool r49.1.1)]) 24 E (fun _ _ => by kernel_rfl) (by kernel_rfl) (fun w_ hS_ => ((HR459.boxk [] hS_ 7 rfl rfl).cell (j := 0) rfl)) (by kernel_rfl) HS458 ?_
    clear E; intro a E
    replace E := E.same (t := 175) (u := .bool false) rfl (congrArg Value.bool (eq_false_of_ne_true h439))
    refine dn tbok (by kernel_rfl) [28, 29, 30, 31, 32, 33, 34, 35, 36, 37, 38, 39, 40, 41, 42, 43, 44, 45, 46, 47, 48, 49, 50, 51] [] [(199, .bool false)] (fun w_ => []) 0 E (fun _ _ => by kernel_rfl) (by kernel_rfl) (fun w_ hS_ => trivial) (by kernel_rfl) HS458 ?_
    clear E; intro a E
    refine dr_done (by kernel_rfl) ?_
    clear HS458 HR459
    refine th_n ?_
    refine c_false E rfl ?_
    refine wp_skip ?_
    refine bl_n ?_
    refine th_n ?_
    refine wp_region_lit ?_
    obtain ⟨g460, hP⟩ := ask_inv hP
    refine vn tbok 3 [.int .i64 (i298 + 1)] [(18, .int .i64 (i298 + 1))] [IntKind.i64.wrap (i298 + 1) = i298 + 1] E (by kernel_rfl) (by kernel_rfl) (wrap_in g460) ?_
    clear E; intro a E
    refine wpList_nil ?_
    exact th_n ⟨m379, Nat.lt_succ_self _, i298 + 1, E.pick _ ⟨rfl, rfl, rfl, rfl, rfl, rfl, trivial⟩, H.sel [0, 1, 2, 3, 4, 5, 6, 7, 8, 9] rfl, hP⟩
   replace hP := ite_f h438 hP
   have HR464 := H
   refine dr_start (S := fun w_ => Chg (atL []) w395 w_) (by kernel_rfl) ?_
   intro w461 hc462
   have HS463 : Chg (atL []) w395 w461 := hc462.mono (fun _ _ h_ => h_.elim)
   replace H := H.ext hc462
   refine dn tbok (by kernel_rfl) [0, 1, 2, 3] [.bool r49.1.1] [(151, .bool (!r49.1.1))] (fun w_ => [World.cell? w_ ⟨g67, 0, none⟩ = some (.bool r49.1.1)]) 48 E (fun _ _ => by kernel_rfl) (by kernel_rfl) (fun w_ hS_ => ((HR464.boxk [] hS_ 7 rfl rfl).cell (j := 0) rfl)) (by kernel_rfl) HS463 ?_
   clear E; intro a E
   replace E := E.same (t := 151) (u := .bool true) rfl (congrArg Value.bool (not_f' ((eq_false_of_ne_true h401))))
   refine dn tbok (by kernel_rfl) [4, 5, 6, 7, 8, 9, 10, 11, 12] [.slice (some ⟨b428, o429, none⟩) (List.length aAccept) c2, .int .i64 (List.getD r228.1 (Int.toNat i298) 0), .bool (List.getD aAccept (Int.toNat (List.getD r228.1 (Int.toNat i298) 0)) false)] [(160, .bool (List.getD aAccept (Int.toNat (List.getD r228.1 (Int.toNat i298) 0)) false))] (fun w_ => [World.cell? w_ ⟨g17, 1, none⟩ = some (.slice (some ⟨b428, o429, none⟩) (List.length aAccept) c2), 0 ≤ i298 ∧ i298 < (((List.length r228.1) : Nat) : Int), World.cell? w_ ⟨b388, 0 + (Int.toNat i298) * 1, none⟩ = some (.int .i64 (List.getD r228.1 (Int.toNat i298) 0)), 0 ≤ (List.getD r228.1 (Int.toNat i298) 0) ∧ (List.getD r228.1 (Int.toNat i298) 0) < (((List.length aAccept) : Nat) : Int), World.cell? w_ ⟨b428, o429 + (Int.toNat (List.getD r228.1 (Int.toNat i298) 0)) * 1, none⟩ = some (.bool (List.getD aAccept (Int.toNat (List.getD r228.1 (Int.toNat i298) 0)) false))]) 39 E (fun _ _ => by kernel_rfl) (by kernel_rfl) (fun w_ hS_ => ⟨(HR464.boxk [] hS_ 3 rfl rfl).cell (j := 1) rfl, g387, Rds.at1 (HR464.rdk [] hS_ 9 rds_row rfl) 0 g387, g427, Rds.at1 (HR464.rdk [] hS_ 0 rds_ro rfl) false g427⟩) (by kernel_rfl) HS463 ?_
   clear E; intro a E
   replace E := E.same (t := 160) (u := .bool false) rfl (congrArg Value.bool (eq_false_of_ne_true h430))
   refine dn tbok (by kernel_rfl) [13, 14, 15, 16, 17, 18, 19, 20, 21, 22, 23, 24] [.slice (some ⟨b436, 0, none⟩) (List.length r49.1.2.1) c59, .int .i64 (List.getD r228.1 (Int.toNat i298) 0), .int .i64 (List.getD r49.1.2.1 (Int.toNat (List.getD r228.1 (Int.toNat i298) 0)) 0)] [(172, .bool (((List.getD r49.1.2.1 (Int.toNat (List.getD r228.1 (Int.toNat i298) 0)) 0) : Int) != (-1)))] (fun w_ => [World.cell? w_ ⟨g67, 1, none⟩ = some (.slice (some ⟨b436, 0, none⟩) (List.length r49.1.2.1) c59), 0 ≤ i298 ∧ i298 < (((List.length r228.1) : Nat) : Int), World.cell? w_ ⟨b388, 0 + (Int.toNat i298) * 1, none⟩ = some (.int .i64 (List.getD r228.1 (Int.toNat i298) 0)), 0 ≤ (List.getD r228.1 (Int.toNat i298) 0) ∧ (List.getD r228.1 (Int.toNat i298) 0) < (((List.length r49.1.2.1) : Nat) : Int), World.cell? w_ ⟨b436, 0 + (Int.toNat (List.getD r228.1 (Int.toNat i298) 0)) * 1, none⟩ = some (.int .i64 (List.getD r49.1.2.1 (Int.toNat (List.getD r228.1 (Int.toNat i298) 0)) 0))]) 27 E (fun _ _ => by kernel_rfl) (by kernel_rfl) (fun w_ hS_ => ⟨(HR464.boxk [] hS_ 7 rfl rfl).cell (j := 1) rfl, g387, Rds.at1 (HR464.rdk [] hS_ 9 rds_row rfl) 0 g387, g435, Rds.at1 (HR464.rdk [] hS_ 4 rds_row rfl) 0 g435⟩) (by kernel_rfl) HS463 ?_
   clear E; intro a E
   replace E := E.same (t := 172) (u := .bool true) rfl (congrArg Value.bool (bne_iff_ne.2 h438))
   refine dn tbok (by kernel_rfl) [25, 26, 27, 28, 29, 30, 31, 32, 33, 34, 35, 36, 37, 38, 39, 40, 41, 42, 43, 44, 45, 46, 47, 48, 49, 50, 51] [] [(199, .bool true)] (fun w_ => []) 0 E (fun _ _ => by kernel_rfl) (by kernel_rfl) (fun w_ hS_ => trivial) (by kernel_rfl) HS463 ?_
   clear E; intro a E
   refine dr_done (by kernel_rfl) ?_
   clear HS463 HR464
   refine th_n ?_
   refine c_true E rfl ?_
   refine wp_seq ?_
   refine wp_region_lit ?_
   refine vn tbok 1 [] [(6, .bool false)] [] E (by kernel_rfl) (by kernel_rfl) trivial ?_
   clear E; intro a E
   refine wpList_nil ?_
   refine th_n ?_
   refine wp_ret ?_
   refine bl_ret ?_
   refine th_ret ?_
   refine th_ret ?_
   refine .inr ⟨rfl, ?_⟩
   refine bl_ret ?_
   refine th_ret ?_
   have hx_ := Option.some.inj hP; subst hx_
   have hP : some (false) = some r := hK382
   obtain rfl := Option.some.inj hP
   refine ret1 E rfl rfl ?_
   exact ⟨_, rfl, rfl, H.sel [] rfl⟩
  replace E := E_; clear E_
  have h465 : ¬ (i298 < (((List.length r228.1) : Nat) : Int)) := of_decide_eq_false hb_
  clear hb_; replace hP := ite_f h465 hP
  refine c_false E rfl ?_
  refine wp_exit ?_
  refine th_exit ?_
  have hx_ := Option.some.inj hP
  refine th_exit (.inl ⟨2, rfl, ?_⟩)
  exact ⟨rfl, (), E.pick _ ⟨rfl, rfl, rfl, rfl, rfl, trivial⟩, H.sel [0, 1, 2, 3, 4, 5, 6, 7, 8, 9] rfl, hx_.symm⟩
 clear E H hL381; intro i_ a w383 hM_
 obtain ⟨rfl, x385, E, H, hx_⟩ := hM_
 subst hx_; have hP := elim_l hK382
 clear hK382
 refine bl_hit ?_
 refine th_n ?_
 refine wp_seq ?_
 by_cases h467 : r27 = true
 ·
  replace hP := ite_t h467 hP
  by_cases h468 : r49.1.1 = true
  ·
   replace hP := ite_t h468 hP
   obtain ⟨g469, hP⟩ := ask_inv hP
   obtain ⟨b470, e_b470⟩ := H.raddr 4 rfl (idx_pos g469)
   subst e_b470
   by_cases h472 : (((List.length x200) : Nat) : Int) < (List.getD r49.1.2.1 (Int.toNat (0 : Int)) 0)
   ·
    replace hP := ite_t h472 hP
    have HR476 := H
    refine dr_start (S := fun w_ => Chg (atL []) w383 w_) (by kernel_rfl) ?_
    intro w473 hc474
    have HS475 : Chg (atL []) w383 w473 := hc474.mono (fun _ _ h_ => h_.elim)
    replace H := H.ext hc474
    refine dn tbok (by kernel_rfl) [0, 1] [] [(201, .bool r27)] (fun w_ => []) 26 E (fun _ _ => by kernel_rfl) (by kernel_rfl) (fun w_ hS_ => trivial) (by kernel_rfl) HS475 ?_
    clear E; intro a E
    replace E := E.same (t := 201) (u := .bool true) rfl (congrArg Value.bool h467)
    refine dn tbok (by kernel_rfl) [2, 3, 4, 5] [.bool r49.1.1] [(205, .bool (!r49.1.1))] (fun w_ => [World.cell? w_ ⟨g67, 0, none⟩ = some (.bool r49.1.1)]) 22 E (fun _ _ => by kernel_rfl) (by kernel_rfl) (fun w_ hS_ => ((HR476.boxk [] hS_ 7 rfl rfl).cell (j := 0) rfl)) (by kernel_rfl) HS475 ?_
    clear E; intro a E
    replace E := E.same (t := 205) (u := .bool false) rfl (congrArg Value.bool (not_t' (h468)))
    refine dn tbok (by kernel_rfl) [6, 7, 8, 9, 10, 11, 12, 13, 14] [.slice (some ⟨b470, 0, none⟩) (List.length r49.1.2.1) c59, .int .i64 (List.getD r49.1.2.1 (Int.toNat (0 : Int)) 0)] [(214, .bool (decide ((((List.length x200) : Nat) : Int) < (List.getD r49.1.2.1 (Int.toNat (0 : Int)) 0))))] (fun w_ => [World.cell? w_ ⟨g67, 1, none⟩ = some (.slice (some ⟨b470, 0, none⟩) (List.length r49.1.2.1) c59), 0 ≤ (0 : Int) ∧ (0 : Int) < (((List.length r49.1.2.1) : Nat) : Int), World.cell? w_ ⟨b470, 0 + (Int.toNat (0 : Int)) * 1, none⟩ = some (.int .i64 (List.getD r49.1.2.1 (Int.toNat (0 : Int)) 0))]) 13 E (fun _ _ => by kernel_rfl) (by kernel_rfl) (fun w_ hS_ => ⟨(HR476.boxk [] hS_ 7 rfl rfl).cell (j := 1) rfl, g469, Rds.at1 (HR476.rdk [] hS_ 4 rds_row rfl) 0 g469⟩) (by kernel_rfl) HS475 ?_
    clear E; intro a E
    replace E := E.same (t := 214) (u := .bool true) rfl (congrArg Value.bool (decide_eq_true h472))
    refine dn tbok (by kernel_rfl) [15, 16, 17, 18, 19, 20, 21, 22, 23, 24, 25, 26, 27] [] [(6, .bool true)] (fun w_ => []) 0 E (fun _ _ => by kernel_rfl) (by kernel_rfl) (fun w_ hS_ => trivial) (by kernel_rfl) HS475 ?_
    clear E; intro a E
    refine dr_done (by kernel_rfl) ?_
    clear HS475 HR476
    refine th_n ?_
    refine wp_ret ?_
    obtain rfl := Option.some.inj hP
    refine ret1 E rfl rfl ?_
    exact ⟨_, rfl, rfl, H.sel [] rfl⟩
   replace hP := ite_f h472 hP
   obtain ⟨g477, hP⟩ := ask_inv hP
   obtain ⟨g478, hP⟩ := ask_inv hP
   obtain ⟨b479, e_b479⟩ := H.raddr 9 rfl (idx_pos g478)
   subst e_b479
   obtain ⟨g481, hP⟩ := ask_inv hP
   obtain ⟨b482, o483, e_b482⟩ := (H.rd 0 rds_ro).addr (idx_pos g481)
   subst e_b482
   have HR487 := H
   refine dr_start (S := fun w_ => Chg (atL []) w383 w_) (by kernel_rfl) ?_
   intro w484 hc485
   have HS486 : Chg (atL []) w383 w484 := hc485.mono (fun _ _ h_ => h_.elim)
   replace H := H.ext hc485
   refine dn tbok (by kernel_rfl) [0, 1] [] [(201, .bool r27)] (fun w_ => []) 26 E (fun _ _ => by kernel_rfl) (by kernel_rfl) (fun w_ hS_ => trivial) (by kernel_rfl) HS486 ?_
   clear E; intro a E
   replace E := E.same (t := 201) (u := .bool true) rfl (congrArg Value.bool h467)
   refine dn tbok (by kernel_rfl) [2, 3, 4, 5] [.bool r49.1.1] [(205, .bool (!r49.1.1))] (fun w_ => [World.cell? w_ ⟨g67, 0, none⟩ = some (.bool r49.1.1)]) 22 E (fun _ _ => by kernel_rfl) (by kernel_rfl) (fun w_ hS_ => ((HR487.boxk [] hS_ 7 rfl rfl).cell (j := 0) rfl)) (by kernel_rfl) HS486 ?_
   clear E; intro a E
   replace E := E.same (t := 205) (u := .bool false) rfl (congrArg Value.bool (not_t' (h468)))
   refine dn tbok (by kernel_rfl) [6, 7, 8, 9, 10, 11, 12, 13, 14] [.slice (some ⟨b470, 0, none⟩) (List.length r49.1.2.1) c59, .int .i64 (List.getD r49.1.2.1 (Int.toNat (0 : Int)) 0)] [(214, .bool (decide ((((List.length x200) : Nat) : Int) < (List.getD r49.1.2.1 (Int.toNat (0 : Int)) 0))))] (fun w_ => [World.cell? w_ ⟨g67, 1, none⟩ = some (.slice (some ⟨b470, 0, none⟩) (List.length r49.1.2.1) c59), 0 ≤ (0 : Int) ∧ (0 : Int) < (((List.length r49.1.2.1) : Nat) : Int), World.cell? w_ ⟨b470, 0 + (Int.toNat (0 : Int)) * 1, none⟩ = some (.int .i64 (List.getD r49.1.2.1 (Int.toNat (0 : Int)) 0))]) 13 E (fun _ _ => by kernel_rfl) (by kernel_rfl) (fun w_ hS_ => ⟨(HR487.boxk [] hS_ 7 rfl rfl).cell (j := 1) rfl, g469, Rds.at1 (HR487.rdk [] hS_ 4 rds_row rfl) 0 g469⟩) (by kernel_rfl) HS486 ?_
   clear E; intro a E
   replace E := E.same (t := 214) (u := .bool false) rfl (congrArg Value.bool (decide_eq_false h472))
   refine dn tbok (by kernel_rfl) [15, 16, 17, 18, 19, 20, 21, 22, 23, 24, 25, 26, 27] [.slice (some ⟨b482, o483, none⟩) (List.length aAccept) c2, .int .i64 ((((List.length r228.1) : Nat) : Int) - 1), .int .i64 (List.getD r228.1 (Int.toNat ((((List.length r228.1) : Nat) : Int) - 1)) 0), .bool (List.getD aAccept (Int.toNat (List.getD r228.1 (Int.toNat ((((List.length r228.1) : Nat) : Int) - 1)) 0)) false)] [(6, .bool (List.getD aAccept (Int.toNat (List.getD r228.1 (Int.toNat ((((List.length r228.1) : Nat) : Int) - 1)) 0)) false))] (fun w_ => [World.cell? w_ ⟨g17, 1, none⟩ = some (.slice (some ⟨b482, o483, none⟩) (List.length aAccept) c2), IntKind.i64.wrap ((((List.length r228.1) : Nat) : Int) - 1) = (((List.length r228.1) : Nat) : Int) - 1, 0 ≤ ((((List.length r228.1) : Nat) : Int) - 1) ∧ ((((List.length r228.1) : Nat) : Int) - 1) < (((List.length r228.1) : Nat) : Int), World.cell? w_ ⟨b479, 0 + (Int.toNat ((((List.length r228.1) : Nat) : Int) - 1)) * 1, none⟩ = some (.int .i64 (List.getD r228.1 (Int.toNat ((((List.length r228.1) : Nat) : Int) - 1)) 0)), 0 ≤ (List.getD r228.1 (Int.toNat ((((List.length r228.1) : Nat) : Int) - 1)) 0) ∧ (List.getD r228.1 (Int.toNat ((((List.length r228.1) : Nat) : Int) - 1)) 0) < (((List.length aAccept) : Nat) : Int), World.cell? w_ ⟨b482, o483 + (Int.toNat (List.getD r228.1 (Int.toNat ((((List.length r228.1) : Nat) : Int) - 1)) 0)) * 1, none⟩ = some (.bool (List.getD aAccept (Int.toNat (List.getD r228.1 (Int.toNat ((((List.length r228.1) : Nat) : Int) - 1)) 0)) false))]) 0 E (fun _ _ => by kernel_rfl) (by kernel_rfl) (fun w_ hS_ => ⟨(HR487.boxk [] hS_ 3 rfl rfl).cell (j := 1) rfl, wrap_in g477, g478, Rds.at1 (HR487.rdk [] hS_ 9 rds_row rfl) 0 g478, g481, Rds.at1 (HR487.rdk [] hS_ 0 rds_ro rfl) false g481⟩) (by kernel_rfl) HS486 ?_
   clear E; intro a E
   refine dr_done (by kernel_rfl) ?_
   clear HS486 HR487
   refine th_n ?_
   refine wp_ret ?_
   obtain rfl := Option.some.inj hP
   refine ret1 E rfl rfl ?_
   exact ⟨_, rfl, rfl, H.sel [] rfl⟩
  replace hP := ite_f h468 hP
  have HR491 := H
  refine dr_start (S := fun w_ => Chg (atL []) w383 w_) (by kernel_rfl) ?_
  intro w488 hc489
  have HS490 : Chg (atL []) w383 w488 := hc489.mono (fun _ _ h_ => h_.elim)
  replace H := H.ext hc489
  refine dn tbok (by kernel_rfl) [0, 1] [] [(201, .bool r27)] (fun w_ => []) 26 E (fun _ _ => by kernel_rfl) (by kernel_rfl) (fun w_ hS_ => trivial) (by kernel_rfl) HS490 ?_
  clear E; intro a E
  replace E := E.same (t := 201) (u := .bool true) rfl (congrArg Value.bool h467)
  refine dn tbok (by kernel_rfl) [2, 3, 4, 5] [.bool r49.1.1] [(205, .bool (!r49.1.1))] (fun w_ => [World.cell? w_ ⟨g67, 0, none⟩ = some (.bool r49.1.1)]) 22 E (fun _ _ => by kernel_rfl) (by kernel_rfl) (fun w_ hS_ => ((HR491.boxk [] hS_ 7 rfl rfl).cell (j := 0) rfl)) (by kernel_rfl) HS490 ?_
  clear E; intro a E
  replace E := E.same (t := 205) (u := .bool true) rfl (congrArg Value.bool (not_f' ((eq_false_of_ne_true h468))))
  refine dn tbok (by kernel_rfl) [6, 7, 8, 9, 10, 11, 12, 13, 14, 15, 16, 17, 18, 19, 20, 21, 22, 23, 24, 25, 26, 27] [] [(6, .bool true)] (fun w_ => []) 0 E (fun _ _ => by kernel_rfl) (by kernel_rfl) (fun w_ hS_ => trivial) (by kernel_rfl) HS490 ?_
  clear E; intro a E
  refine dr_done (by kernel_rfl) ?_
  clear HS490 HR491
  refine th_n ?_
  refine wp_ret ?_
  obtain rfl := Option.some.inj hP
  refine ret1 E rfl rfl ?_
  exact ⟨_, rfl, rfl, H.sel [] rfl⟩
 replace hP := ite_f h467 hP
 have HR495 := H
 refine dr_start (S := fun w_ => Chg (atL []) w383 w_) (by kernel_rfl) ?_
 intro w492 hc493
 have HS494 : Chg (atL []) w383 w492 := hc493.mono (fun _ _ h_ => h_.elim)
 replace H := H.ext hc493
 refine dn tbok (by kernel_rfl) [0, 1] [] [(201, .bool r27)] (fun w_ => []) 26 E (fun _ _ => by kernel_rfl) (by kernel_rfl) (fun w_ hS_ => trivial) (by kernel_rfl) HS494 ?_
 clear E; intro a E
 replace E := E.same (t := 201) (u := .bool false) rfl (congrArg Value.bool (eq_false_of_ne_true h467))
 refine dn tbok (by kernel_rfl) [2, 3, 4, 5, 6, 7, 8, 9, 10, 11, 12, 13, 14, 15, 16, 17, 18, 19, 20, 21, 22, 23, 24, 25, 26, 27] [] [(6, .bool false)] (fun w_ => []) 0 E (fun _ _ => by kernel_rfl) (by kernel_rfl) (fun w_ hS_ => trivial) (by kernel_rfl) HS494 ?_
 clear E; intro a E
 refine dr_done (by kernel_rfl) ?_
 clear HS494 HR495
 refine th_n ?_
 refine wp_ret ?_
 obtain rfl := Option.some.inj hP
 refine ret1 E rfl rfl ?_
 exact ⟨_, rfl, rfl, H.sel [] rfl⟩

end Go.V
