/- Plain functions, and the calls that give them. -/
import Derived.Test.YtokfobioklmiaaaA4
set_option linter.all false
set_option linter.unusedVariables false
set_option linter.unnecessarySimpa false
set_option linter.unusedSimpArgs false
namespace Go.V
open Go Go.Proofs
/-! rejoinder/attract.Ranks -/
def attract_Ranks_l0 (N : Nat) (r44 : List Bool) : Nat → (List Int) → Int → Option (List Int)
  | 0, _, _ => none
  | m83 + 1, out67, x68 =>
    if x68 < (((List.length r44) : Nat) : Int) then
      ask (idx x68 (List.length r44)) <|
      if (List.getD r44 (Int.toNat x68) false) = true then
        ask (in64 (x68 + 1)) <|
        attract_Ranks_l0 N r44 m83 out67 (x68 + 1)
      else
        ask (idx x68 (List.length out67)) <|
        ask (in64 (x68 + 1)) <|
        attract_Ranks_l0 N r44 m83 (List.set out67 (Int.toNat x68) (-1)) (x68 + 1)
    else
      some out67
def attract_Ranks_l2 (N : Nat) (rank179 : Int) (r265 : List Bool) : Nat → (List Int) → Bool → Int → Option ((List Int) × Bool)
  | 0, _, _, _ => none
  | m311 + 1, out290, more291, x292 =>
    if x292 < (((List.length r265) : Nat) : Int) then
      ask (idx x292 (List.length r265)) <|
      if (List.getD r265 (Int.toNat x292) false) = true then
        ask (idx x292 (List.length out290)) <|
        if (List.getD out290 (Int.toNat x292) 0) < 0 then
          ask (in64 (x292 + 1)) <|
          attract_Ranks_l2 N rank179 r265 m311 (List.set out290 (Int.toNat x292) rank179) true (x292 + 1)
        else
          ask (in64 (x292 + 1)) <|
          attract_Ranks_l2 N rank179 r265 m311 out290 more291 (x292 + 1)
      else
        ask (in64 (x292 + 1)) <|
        attract_Ranks_l2 N rank179 r265 m311 out290 more291 (x292 + 1)
    else
      some (out290, more291)
def attract_Ranks_l3 (N : Nat) (x312 : (List Int) × Bool) : Nat → (List Bool) → Int → Option (List Bool)
  | 0, _, _ => none
  | m360 + 1, won343, x346 =>
    if x346 < (((List.length x312.1) : Nat) : Int) then
      ask (idx x346 (List.length x312.1)) <|
      ask (idx x346 (List.length won343)) <|
      ask (in64 (x346 + 1)) <|
      attract_Ranks_l3 N x312 m360 (List.set won343 (Int.toNat x346) (decide (0 ≤ (List.getD x312.1 (Int.toNat x346) 0)))) (x346 + 1)
    else
      some won343
def attract_Ranks_l1 (N : Nat) (r23 : (List (List (List Int))) × Int) : Nat → (List Int) → (List Bool) → Int → Bool → Option (List Int)
  | 0, _, _, _, _ => none
  | m257 + 1, out175, won176, rank179, more180 =>
    if more180 = true then
      Option.bind (attract_before N r23.1 won176) fun r265 =>
      Option.bind (attract_Ranks_l2 N rank179 r265 N out175 false 0) fun x312 =>
      Option.bind (attract_Ranks_l3 N x312 N won176 0) fun x361 =>
      ask (in64 (rank179 + 1)) <|
      attract_Ranks_l1 N r23 m257 x312.1 x361 (rank179 + 1) x312.2
    else
      some out175
def attract_Ranks (N : Nat) (aProps : Int) (aAccept : List Bool) (aGuard : List Int) (aNodes : List Nd) (s : Int × Int) : Option ((List Int) × Int) :=
  Option.bind (attract_rows N aProps aAccept aGuard aNodes (s.1, s.2)) fun r23 =>
  if (r23.2 : Int) = 0 then
    ask (0 ≤ (((List.length r23.1) : Nat) : Int) ∧ (((List.length r23.1) : Nat) : Int) ≤ 1000000000) <|
    Option.bind (slices_Clone_bool_bool N aAccept) fun r44 =>
    Option.bind (attract_Ranks_l0 N r44 N (List.replicate (Int.toNat (((List.length r23.1) : Nat) : Int)) (0 : Int)) 0) fun x84 =>
    Option.bind (attract_Ranks_l1 N r23 N x84 r44 1 true) fun x258 =>
    some (x258, 0)
  else
    some ([], r23.2)
set_option maxRecDepth 100000 in
set_option maxHeartbeats 4000000 in
theorem attract_Ranks_calls {N : Nat} {S Fa : Nat → Prop} {w0 : World} {r : (List Int) × Int} (A1 : Option Addr) (c2 : Nat) (A5 : Option Addr) (c6 : Nat) (A9 : Option Addr) (c10 : Nat) (aProps : Int) (aAccept : List Bool) (aGuard : List Int) (aNodes : List Nd) (s : Int × Int) (hk3 : List.length aAccept ≤ c2) (hk7 : List.length aGuard ≤ c6) (hk11 : List.length aNodes ≤ c10) (H : Hp S Fa w0 w0 [.ro false cBool A1 aAccept, .ro false (cInt .i64) A5 aGuard, .ro false cNode A9 aNodes]) (hP : attract_Ranks N aProps aAccept aGuard aNodes s = some r) :
    Calls Try.prog 11 #[.agg #[.int .i64 aProps, .slice A1 (List.length aAccept) c2, .slice A5 (List.length aGuard) c6, .slice A9 (List.length aNodes) c10], .agg #[.int .u8 s.1, .int .u8 s.2]] w0 fun e w' => ∃ v, e = .returned v ∧ ∃ (A379 : Option Addr) (c380 : Nat), v = .tuple #[.slice A379 (List.length r.1) c380, .int .i64 r.2] ∧ Hp S Fa w0 w' [.row true (cInt .i64) 3 A379 c380 r.1] := by
 refine enterV (n := 85) Try.func11 rfl rfl rfl ?_
 intro a E
 replace E := E.pick [(0, .agg #[.int .i64 aProps, .slice A1 (List.length aAccept) c2, .slice A5 (List.length aGuard) c6, .slice A9 (List.length aNodes) c10]), (1, .agg #[.int .u8 s.1, .int .u8 s.2])] ⟨rfl, rfl, trivial⟩
 rw [attract_Ranks] at hP
 refine wp_seq ?_
 refine wp_region_lit ?_
 refine h_box H E rfl rfl rfl ?_
 intro w14 g13 a hc15 hg17 H_ E_
 replace E := E_ _ rfl; clear E_
 replace H := H_; clear H_; try dsimp only [setn, addE, goneL] at H
 refine h_box H E rfl rfl rfl ?_
 intro w19 g18 a hc20 hg22 H_ E_
 replace E := E_ _ rfl; clear E_
 replace H := H_; clear H_; try dsimp only [setn, addE, goneL] at H
 refine vr tbok 2 [] [(2, .pointer (some ⟨g13, 0, none⟩)), (3, .pointer (some ⟨g18, 0, none⟩))] [] E (by kernel_rfl) trivial ?_
 clear E; intro a E
 refine wpList_nil ?_
 refine th_n ?_
 refine wp_seq ?_
 refine wp_region_lit ?_
 refine vr tbok 2 [.agg #[.int .i64 aProps, .slice A1 (List.length aAccept) c2, .slice A5 (List.length aGuard) c6, .slice A9 (List.length aNodes) c10], .agg #[.int .u8 s.1, .int .u8 s.2]] [(2, .pointer (some ⟨g13, 0, none⟩)), (18, .agg #[.int .i64 aProps, .slice A1 (List.length aAccept) c2, .slice A5 (List.length aGuard) c6, .slice A9 (List.length aNodes) c10]), (19, .agg #[.int .u8 s.1, .int .u8 s.2])] [cellsAt w19 g13 (0) [.int .i64 aProps, .slice A1 (List.length aAccept) c2, .slice A5 (List.length aGuard) c6, .slice A9 (List.length aNodes) c10], cellsAt w19 g18 (0) [.int .u8 s.1, .int .u8 s.2]] E (by kernel_rfl) ⟨(H.box 3 rfl).sub 0 _ rfl, (H.box 4 rfl).sub 0 _ rfl⟩ ?_
 clear E; intro a E
 obtain ⟨r23, h24, hP⟩ := bind_inv hP
 obtain ⟨Fa25, Hc26, hb27⟩ := H.call [] [(0, false), (1, false), (2, false)] rfl rfl trivial
 refine e_call E rfl rfl Try.func28 rfl rfl rfl (attract_rows_calls A1 c2 A5 c6 A9 c10 aProps aAccept aGuard aNodes (s.1, s.2) hk3 hk7 hk11 Hc26 h24) ?_
 rintro v28 w29 a ⟨A32, c33, rfl, HR30⟩ E_
 replace E := E_ _ rfl; clear E_
 obtain ⟨H_, hc31⟩ := hb27 _ _ HR30 rfl
 replace H := H_; clear H_; try dsimp only [setn, addE, goneL] at H
 refine vr tbok 5 [] [(2, .pointer (some ⟨g13, 0, none⟩)), (6, .slice A32 (List.length r23.1) c33), (7, .int .i64 r23.2)] [] E (by kernel_rfl) trivial ?_
 clear E; intro a E
 refine wpList_nil ?_
 refine th_n ?_
 refine wp_seq ?_
 refine wp_seq ?_
 refine wp_region_lit ?_
 refine vr tbok 2 [] [(2, .pointer (some ⟨g13, 0, none⟩)), (6, .slice A32 (List.length r23.1) c33), (7, .int .i64 r23.2), (24, .bool ((r23.2 : Int) != 0))] [] E (by kernel_rfl) trivial ?_
 clear E; intro a E
 refine wpList_nil ?_
 refine th_n ?_
 refine E.cases (t := 24) rfl (fun hb_ E_ => ?_) (fun hb_ E_ => ?_)
 ·
  replace E := E_; clear E_
  have h35 : ¬ ((r23.2 : Int) = 0) := bne_iff_ne.1 hb_
  clear hb_; replace hP := ite_f h35 hP
  refine c_true E rfl ?_
  refine wp_seq ?_
  refine wp_region_lit ?_
  refine vr tbok 3 [] [(4, .slice none 0 0), (5, .int .i64 r23.2)] [] E (by kernel_rfl) trivial ?_
  clear E; intro a E
  refine wpList_nil ?_
  refine th_n ?_
  refine wp_ret ?_
  refine th_ret ?_
  replace H := H.nilrow (cInt .i64) 3; try dsimp only [setn, addE, goneL] at H
  obtain rfl := Option.some.inj hP
  refine ret2 E rfl rfl rfl ?_
  exact ⟨_, rfl, none, 0, rfl, H.sel [6] rfl⟩
 ·
  replace E := E_; clear E_
  have h37 : (r23.2 : Int) = 0 := bne_eq_false_iff_eq.1 hb_
  clear hb_; replace hP := ite_t h37 hP
  refine c_false E rfl ?_
  refine wp_skip ?_
  refine th_n ?_
  refine wp_seq ?_
  refine wp_region_lit ?_
  refine vr tbok 2 [] [(2, .pointer (some ⟨g13, 0, none⟩)), (6, .slice A32 (List.length r23.1) c33), (27, .int .i64 (((List.length r23.1) : Nat) : Int))] [] E (by kernel_rfl) trivial ?_
  clear E; intro a E
  obtain ⟨g38, hP⟩ := ask_inv hP
  refine h_make (cInt .i64) (0 : Int) H E rfl rfl tbok rfl rfl rfl rfl ⟨g38.1, Int.le_refl _, g38.2⟩ rfl rfl rfl (fun _ _ => rfl) ?_
  intro w40 g39 a hc41 hg43 H_ E_
  replace E := E_ _ rfl; clear E_
  replace H := H_; clear H_; try dsimp only [setn, addE, goneL] at H
  refine vr tbok 1 [] [(2, .pointer (some ⟨g13, 0, none⟩)), (6, .slice A32 (List.length r23.1) c33), (8, .slice (some ⟨g39, 0, none⟩) (List.length (List.replicate (Int.toNat (((List.length r23.1) : Nat) : Int)) (0 : Int))) (Int.toNat (((List.length r23.1) : Nat) : Int)))] [] E (by kernel_rfl) trivial ?_
  clear E; intro a E
  refine wpList_nil ?_
  refine th_n ?_
  refine wp_seq ?_
  refine wp_region_lit ?_
  refine vr tbok 2 [.slice A1 (List.length aAccept) c2] [(6, .slice A32 (List.length r23.1) c33), (8, .slice (some ⟨g39, 0, none⟩) (List.length (List.replicate (Int.toNat (((List.length r23.1) : Nat) : Int)) (0 : Int))) (Int.toNat (((List.length r23.1) : Nat) : Int))), (30, .slice A1 (List.length aAccept) c2)] [World.cell? w40 ⟨g13, 1, none⟩ = some (.slice A1 (List.length aAccept) c2)] E (by kernel_rfl) ((H.box 3 rfl).cell (j := 1) rfl) ?_
  clear E; intro a E
  obtain ⟨r44, h45, hP⟩ := bind_inv hP
  obtain ⟨Fa46, Hc47, hb48⟩ := H.call [] [(0, false)] rfl rfl trivial
  refine e_call E rfl rfl Try.func29 rfl rfl rfl (slices_Clone_bool_bool_calls A1 c2 aAccept hk3 Hc47 h45) ?_
  rintro v49 w50 a ⟨A53, c54, rfl, HR51⟩ E_
  replace E := E_ _ rfl; clear E_
  obtain ⟨H_, hc52⟩ := hb48 _ _ HR51 rfl
  replace H := H_; clear H_; try dsimp only [setn, addE, goneL] at H
  refine vr tbok 1 [] [(6, .slice A32 (List.length r23.1) c33), (8, .slice (some ⟨g39, 0, none⟩) (List.length (List.replicate (Int.toNat (((List.length r23.1) : Nat) : Int)) (0 : Int))) (Int.toNat (((List.length r23.1) : Nat) : Int))), (9, .slice A53 (List.length r44) c54)] [] E (by kernel_rfl) trivial ?_
  clear E; intro a E
  refine wpList_nil ?_
  refine th_n ?_
  refine wp_seq ?_
  refine wp_seq ?_
  refine wp_region_lit ?_
  refine vr tbok 3 [] [(6, .slice A32 (List.length r23.1) c33), (8, .slice (some ⟨g39, 0, none⟩) (List.length (List.replicate (Int.toNat (((List.length r23.1) : Nat) : Int)) (0 : Int))) (Int.toNat (((List.length r23.1) : Nat) : Int))), (9, .slice A53 (List.length r44) c54), (32, .slice A53 (List.length r44) c54), (33, .int .i64 (((List.length r44) : Nat) : Int)), (34, .int .i64 0)] [] E (by kernel_rfl) trivial ?_
  clear E; intro a E
  refine wpList_nil ?_
  refine th_n ?_
  refine wp_block ?_
  obtain ⟨x84, hL85, hK86⟩ := bind_inv hP
  clear hP
  refine loop_cut (fun i_ a w_ => (i_ = 0 ∧ ∃ (x89 : List Int), Fr a 85 [(6, .slice A32 (List.length r23.1) c33), (8, .slice (some ⟨g39, 0, none⟩) (List.length x89) (Int.toNat (((List.length r23.1) : Nat) : Int))), (9, .slice A53 (List.length r44) c54)] ∧ Hp S Fa w0 w_ [.row true (cSl (cSl (cInt .i64))) 40 A32 c33 r23.1, .rowx true (cInt .i64) 3 (some ⟨g39, 0, none⟩) (Int.toNat (((List.length r23.1) : Nat) : Int)) x89 (List.replicate (Int.toNat (((List.length r23.1) : Nat) : Int) - Int.toNat (((List.length r23.1) : Nat) : Int)) (0 : Int)), .row true cBool 4 A53 c54 r44] ∧ x84 = x89)) ?_ ?_
  ·
   refine loopV (fun m88 a w87 => ∃ (out67 : List Int) (x68 : Int), Fr a 85 [(6, .slice A32 (List.length r23.1) c33), (8, .slice (some ⟨g39, 0, none⟩) (List.length out67) (Int.toNat (((List.length r23.1) : Nat) : Int))), (9, .slice A53 (List.length r44) c54), (32, .slice A53 (List.length r44) c54), (33, .int .i64 (((List.length r44) : Nat) : Int)), (34, .int .i64 x68)] ∧ Hp S Fa w0 w87 [.row true (cSl (cSl (cInt .i64))) 40 A32 c33 r23.1, .rowx true (cInt .i64) 3 (some ⟨g39, 0, none⟩) (Int.toNat (((List.length r23.1) : Nat) : Int)) out67 (List.replicate (Int.toNat (((List.length r23.1) : Nat) : Int) - Int.toNat (((List.length r23.1) : Nat) : Int)) (0 : Int)), .row true cBool 4 A53 c54 r44] ∧ attract_Ranks_l0 N r44 m88 out67 x68 = some x84) N ?_ ?_
   ·
    exact ⟨List.replicate (Int.toNat (((List.length r23.1) : Nat) : Int)) (0 : Int), 0, E.pick _ ⟨rfl, rfl, rfl, rfl, rfl, rfl, trivial⟩, H.sel [5, 6, 7] rfl, hL85⟩
   ·
    clear E H hL85; intro m88 a w87 hI_
    obtain ⟨out67, x68, E, H, hP⟩ := hI_
    obtain ⟨m83, rfl⟩ : ∃ q_, m88 = q_ + 1 := by cases m88 with | zero => rw [attract_Ranks_l0] at hP; cases hP | succ q_ => exact ⟨q_, rfl⟩
    rw [attract_Ranks_l0] at hP
    refine wp_seq ?_
    refine wp_region_lit ?_
    refine vr tbok 1 [] [(6, .slice A32 (List.length r23.1) c33), (8, .slice (some ⟨g39, 0, none⟩) (List.length out67) (Int.toNat (((List.length r23.1) : Nat) : Int))), (9, .slice A53 (List.length r44) c54), (32, .slice A53 (List.length r44) c54), (33, .int .i64 (((List.length r44) : Nat) : Int)), (34, .int .i64 x68), (35, .bool (decide (x68 < (((List.length r44) : Nat) : Int))))] [] E (by kernel_rfl) trivial ?_
    clear E; intro a E
    refine wpList_nil ?_
    refine th_n ?_
    refine wp_seq ?_
    refine E.cases (t := 35) rfl (fun hb_ E_ => ?_) (fun hb_ E_ => ?_)
    ·
     replace E := E_; clear E_
     have h90 : x68 < (((List.length r44) : Nat) : Int) := of_decide_eq_true hb_
     clear hb_; replace hP := ite_t h90 hP
     refine c_true E rfl ?_
     refine wp_skip ?_
     refine th_n ?_
     refine wp_seq ?_
     refine wp_block ?_
     refine wp_seq ?_
     refine wp_region_lit ?_
     obtain ⟨g91, hP⟩ := ask_inv hP
     obtain ⟨b92, e_b92⟩ := H.raddr 2 rfl (idx_pos g91)
     subst e_b92
     refine vr tbok 5 [.bool (List.getD r44 (Int.toNat x68) false)] [(6, .slice A32 (List.length r23.1) c33), (8, .slice (some ⟨g39, 0, none⟩) (List.length out67) (Int.toNat (((List.length r23.1) : Nat) : Int))), (9, .slice (some ⟨b92, 0, none⟩) (List.length r44) c54), (10, .int .i64 x68), (11, .bool (List.getD r44 (Int.toNat x68) false)), (32, .slice (some ⟨b92, 0, none⟩) (List.length r44) c54), (33, .int .i64 (((List.length r44) : Nat) : Int)), (34, .int .i64 x68)] [0 ≤ x68 ∧ x68 < (((List.length r44) : Nat) : Int), World.cell? w87 ⟨b92, 0 + (Int.toNat x68) * 1, none⟩ = some (.bool (List.getD r44 (Int.toNat x68) false))] E (by kernel_rfl) ⟨g91, Rds.at1 (H.rd 2 rds_row) false g91⟩ ?_
     clear E; intro a E
     refine wpList_nil ?_
     refine th_n ?_
     refine wp_seq ?_
     refine wp_region_lit ?_
     refine vr tbok 2 [] [(6, .slice A32 (List.length r23.1) c33), (8, .slice (some ⟨g39, 0, none⟩) (List.length out67) (Int.toNat (((List.length r23.1) : Nat) : Int))), (9, .slice (some ⟨b92, 0, none⟩) (List.length r44) c54), (10, .int .i64 x68), (32, .slice (some ⟨b92, 0, none⟩) (List.length r44) c54), (33, .int .i64 (((List.length r44) : Nat) : Int)), (34, .int .i64 x68), (40, .bool (!(List.getD r44 (Int.toNat x68) false)))] [] E (by kernel_rfl) trivial ?_
     clear E; intro a E
     refine wpList_nil ?_
     refine th_n ?_
     refine E.cases (t := 40) rfl (fun hb_ E_ => ?_) (fun hb_ E_ => ?_)
     ·
      replace E := E_; clear E_
      have h94 : ¬ ((List.getD r44 (Int.toNat x68) false) = true) := (ne_true_of_eq_false (not_t hb_))
      clear hb_; replace hP := ite_f h94 hP
      refine c_true E rfl ?_
      refine wp_region_lit ?_
      obtain ⟨g95, hP⟩ := ask_inv hP
      refine vr tbok 3 [] [(6, .slice A32 (List.length r23.1) c33), (8, .slice (some ⟨g39, 0, none⟩) (List.length out67) (Int.toNat (((List.length r23.1) : Nat) : Int))), (9, .slice (some ⟨b92, 0, none⟩) (List.length r44) c54), (32, .slice (some ⟨b92, 0, none⟩) (List.length r44) c54), (33, .int .i64 (((List.length r44) : Nat) : Int)), (34, .int .i64 x68), (43, .pointer (some ⟨g39, 0 + (Int.toNat x68) * 1, none⟩))] [0 ≤ x68 ∧ x68 < (((List.length out67) : Nat) : Int)] E (by kernel_rfl) (g95) ?_
      clear E; intro a E
      refine h_setx (g := g39) (i := x68) (-1) H 1 rfl E rfl rfl rfl rfl tbok rfl (fun _ HF_ => rfl) rfl g95 rfl ?_
      clear E; intro w96 a hc97 H_ E
      replace H := H_; clear H_; try dsimp only [setn, addE, goneL] at H
      have hn98 : (List.length out67) = (List.length (List.set out67 (Int.toNat x68) (-1))) := by simp only [List.length_set]
      replace E := E.same (t := 8) (u := .slice (some ⟨g39, 0, none⟩) (List.length (List.set out67 (Int.toNat x68) (-1))) (Int.toNat (((List.length r23.1) : Nat) : Int))) rfl (congrArg (fun n_ => Value.slice (some ⟨g39, 0, none⟩) n_ (Int.toNat (((List.length r23.1) : Nat) : Int))) hn98)
      refine wpList_nil ?_
      refine bl_n ?_
      refine th_n ?_
      refine wp_region_lit ?_
      obtain ⟨g99, hP⟩ := ask_inv hP
      refine vr tbok 2 [.int .i64 (x68 + 1)] [(6, .slice A32 (List.length r23.1) c33), (8, .slice (some ⟨g39, 0, none⟩) (List.length (List.set out67 (Int.toNat x68) (-1))) (Int.toNat (((List.length r23.1) : Nat) : Int))), (9, .slice (some ⟨b92, 0, none⟩) (List.length r44) c54), (32, .slice (some ⟨b92, 0, none⟩) (List.length r44) c54), (33, .int .i64 (((List.length r44) : Nat) : Int)), (34, .int .i64 (x68 + 1))] [IntKind.i64.wrap (x68 + 1) = x68 + 1] E (by kernel_rfl) (wrap_in g99) ?_
      clear E; intro a E
      refine wpList_nil ?_
      exact th_n ⟨m83, Nat.lt_succ_self _, List.set out67 (Int.toNat x68) (-1), x68 + 1, E.pick _ ⟨rfl, rfl, rfl, rfl, rfl, rfl, trivial⟩, H.sel [0, 1, 2] rfl, hP⟩
     ·
      replace E := E_; clear E_
      have h100 : (List.getD r44 (Int.toNat x68) false) = true := (not_f hb_)
      clear hb_; replace hP := ite_t h100 hP
      refine c_false E rfl ?_
      refine wp_skip ?_
      refine bl_n ?_
      refine th_n ?_
      refine wp_region_lit ?_
      obtain ⟨g101, hP⟩ := ask_inv hP
      refine vr tbok 2 [.int .i64 (x68 + 1)] [(6, .slice A32 (List.length r23.1) c33), (8, .slice (some ⟨g39, 0, none⟩) (List.length out67) (Int.toNat (((List.length r23.1) : Nat) : Int))), (9, .slice (some ⟨b92, 0, none⟩) (List.length r44) c54), (32, .slice (some ⟨b92, 0, none⟩) (List.length r44) c54), (33, .int .i64 (((List.length r44) : Nat) : Int)), (34, .int .i64 (x68 + 1))] [IntKind.i64.wrap (x68 + 1) = x68 + 1] E (by kernel_rfl) (wrap_in g101) ?_
      clear E; intro a E
      refine wpList_nil ?_
      exact th_n ⟨m83, Nat.lt_succ_self _, out67, x68 + 1, E.pick _ ⟨rfl, rfl, rfl, rfl, rfl, rfl, trivial⟩, H.sel [0, 1, 2] rfl, hP⟩
    ·
     replace E := E_; clear E_
     have h102 : ¬ (x68 < (((List.length r44) : Nat) : Int)) := of_decide_eq_false hb_
     clear hb_; replace hP := ite_f h102 hP
     refine c_false E rfl ?_
     refine wp_exit ?_
     refine th_exit ?_
     have hx_ := Option.some.inj hP
     refine th_exit (.inl ⟨0, rfl, ?_⟩)
     exact ⟨rfl, out67, E.pick _ ⟨rfl, rfl, rfl, trivial⟩, H.sel [0, 1, 2] rfl, hx_.symm⟩
  ·
   clear E H hL85; intro i_ a w87 hM_
   obtain ⟨rfl, x89, E, H, hx_⟩ := hM_
   subst hx_; have hP := hK86; clear hK86
   refine bl_hit ?_
   refine th_n ?_
   refine wp_seq ?_
   refine wp_seq ?_
   refine wp_region_lit ?_
   refine vr tbok 2 [] [(6, .slice A32 (List.length r23.1) c33), (8, .slice (some ⟨g39, 0, none⟩) (List.length x84) (Int.toNat (((List.length r23.1) : Nat) : Int))), (9, .slice A53 (List.length r44) c54), (12, .int .i64 1), (13, .bool true)] [] E (by kernel_rfl) trivial ?_
   clear E; intro a E
   refine wpList_nil ?_
   refine th_n ?_
   refine wp_block ?_
   obtain ⟨x258, hL259, hK260⟩ := bind_inv hP
   clear hP
   refine loop_cut (fun i_ a w_ => (i_ = 2 ∧ ∃ (x263 : List Int), Fr a 85 [(8, .slice (some ⟨g39, 0, none⟩) (List.length x263) (Int.toNat (((List.length r23.1) : Nat) : Int)))] ∧ Hp S Fa w0 w_ [.rowx true (cInt .i64) 3 (some ⟨g39, 0, none⟩) (Int.toNat (((List.length r23.1) : Nat) : Int)) x263 (List.replicate (Int.toNat (((List.length r23.1) : Nat) : Int) - Int.toNat (((List.length r23.1) : Nat) : Int)) (0 : Int))] ∧ x258 = x263)) ?_ ?_
   ·
    refine loopV (fun m262 a w261 => ∃ (out175 : List Int) (won176 : List Bool) (rank179 : Int) (more180 : Bool), ∃ (A177 : Option Addr) (c178 : Nat), Fr a 85 [(6, .slice A32 (List.length r23.1) c33), (8, .slice (some ⟨g39, 0, none⟩) (List.length out175) (Int.toNat (((List.length r23.1) : Nat) : Int))), (9, .slice A177 (List.length won176) c178), (12, .int .i64 rank179), (13, .bool more180)] ∧ Hp S Fa w0 w261 [.row true (cSl (cSl (cInt .i64))) 40 A32 c33 r23.1, .rowx true (cInt .i64) 3 (some ⟨g39, 0, none⟩) (Int.toNat (((List.length r23.1) : Nat) : Int)) out175 (List.replicate (Int.toNat (((List.length r23.1) : Nat) : Int) - Int.toNat (((List.length r23.1) : Nat) : Int)) (0 : Int)), .row true cBool 4 A177 c178 won176] ∧ attract_Ranks_l1 N r23 m262 out175 won176 rank179 more180 = some x258) N ?_ ?_
    ·
     exact ⟨x84, r44, 1, true, A53, c54, E.pick _ ⟨rfl, rfl, rfl, rfl, rfl, trivial⟩, H.sel [0, 1, 2] rfl, hL259⟩
    ·
     clear E H hL259; intro m262 a w261 hI_
     obtain ⟨out175, won176, rank179, more180, A177, c178, E, H, hP⟩ := hI_
     obtain ⟨m257, rfl⟩ : ∃ q_, m262 = q_ + 1 := by cases m262 with | zero => rw [attract_Ranks_l1] at hP; cases hP | succ q_ => exact ⟨q_, rfl⟩
     rw [attract_Ranks_l1] at hP
     refine wp_seq ?_
     refine wp_seq ?_
     refine wp_region_lit ?_
     refine vr tbok 1 [] [(6, .slice A32 (List.length r23.1) c33), (8, .slice (some ⟨g39, 0, none⟩) (List.length out175) (Int.toNat (((List.length r23.1) : Nat) : Int))), (9, .slice A177 (List.length won176) c178), (12, .int .i64 rank179), (45, .bool more180)] [] E (by kernel_rfl) trivial ?_
     clear E; intro a E
     refine wpList_nil ?_
     refine th_n ?_
     refine E.cases (t := 45) rfl (fun hb_ E_ => ?_) (fun hb_ E_ => ?_)
     ·
      replace E := E_; clear E_
      have h264 : more180 = true := hb_
      clear hb_; replace hP := ite_t h264 hP
      refine c_true E rfl ?_
      refine wp_skip ?_
      refine th_n ?_
      refine wp_seq ?_
      refine wp_block ?_
      refine wp_seq ?_
      refine wp_region_lit ?_
      refine vr tbok 1 [] [(6, .slice A32 (List.length r23.1) c33), (8, .slice (some ⟨g39, 0, none⟩) (List.length out175) (Int.toNat (((List.length r23.1) : Nat) : Int))), (9, .slice A177 (List.length won176) c178), (12, .int .i64 rank179), (13, .bool false)] [] E (by kernel_rfl) trivial ?_
      clear E; intro a E
      refine wpList_nil ?_
      refine th_n ?_
      refine wp_seq ?_
      refine wp_seq ?_
      refine wp_region_lit ?_
      refine vr tbok 2 [] [(6, .slice A32 (List.length r23.1) c33), (8, .slice (some ⟨g39, 0, none⟩) (List.length out175) (Int.toNat (((List.length r23.1) : Nat) : Int))), (9, .slice A177 (List.length won176) c178), (12, .int .i64 rank179), (13, .bool false), (48, .slice A32 (List.length r23.1) c33), (49, .slice A177 (List.length won176) c178)] [] E (by kernel_rfl) trivial ?_
      clear E; intro a E
      obtain ⟨r265, h266, hP⟩ := bind_inv hP
      obtain ⟨Fa267, Hc268, hb269⟩ := H.call [] [(0, false), (2, false)] rfl rfl trivial
      refine e_call E rfl rfl Try.func30 rfl rfl rfl (attract_before_calls A32 c33 A177 c178 r23.1 won176 (H.rcap 0 rfl) (H.rcap 2 rfl) Hc268 h266) ?_
      rintro v270 w271 a ⟨A274, c275, rfl, HR272⟩ E_
      replace E := E_ _ rfl; clear E_
      obtain ⟨H_, hc273⟩ := hb269 _ _ HR272 rfl
      replace H := H_; clear H_; try dsimp only [setn, addE, goneL] at H
      refine vr tbok 2 [] [(6, .slice A32 (List.length r23.1) c33), (8, .slice (some ⟨g39, 0, none⟩) (List.length out175) (Int.toNat (((List.length r23.1) : Nat) : Int))), (9, .slice A177 (List.length won176) c178), (12, .int .i64 rank179), (13, .bool false), (50, .slice A274 (List.length r265) c275), (51, .int .i64 (((List.length r265) : Nat) : Int)), (52, .int .i64 0)] [] E (by kernel_rfl) trivial ?_
      clear E; intro a E
      refine wpList_nil ?_
      refine th_n ?_
      refine wp_block ?_
      obtain ⟨x312, hL313, hK314⟩ := bind_inv hP
      clear hP
      refine loop_cut (fun i_ a w_ => (i_ = 4 ∧ ∃ (x317 : (List Int) × Bool), Fr a 85 [(6, .slice A32 (List.length r23.1) c33), (8, .slice (some ⟨g39, 0, none⟩) (List.length x317.1) (Int.toNat (((List.length r23.1) : Nat) : Int))), (9, .slice A177 (List.length won176) c178), (12, .int .i64 rank179), (13, .bool x317.2)] ∧ Hp S Fa w0 w_ [.row true (cSl (cSl (cInt .i64))) 40 A32 c33 r23.1, .rowx true (cInt .i64) 3 (some ⟨g39, 0, none⟩) (Int.toNat (((List.length r23.1) : Nat) : Int)) x317.1 (List.replicate (Int.toNat (((List.length r23.1) : Nat) : Int) - Int.toNat (((List.length r23.1) : Nat) : Int)) (0 : Int)), .row true cBool 4 A177 c178 won176] ∧ x312 = x317)) ?_ ?_
      ·
       refine loopV (fun m316 a w315 => ∃ (out290 : List Int) (more291 : Bool) (x292 : Int), Fr a 85 [(6, .slice A32 (List.length r23.1) c33), (8, .slice (some ⟨g39, 0, none⟩) (List.length out290) (Int.toNat (((List.length r23.1) : Nat) : Int))), (9, .slice A177 (List.length won176) c178), (12, .int .i64 rank179), (13, .bool more291), (50, .slice A274 (List.length r265) c275), (51, .int .i64 (((List.length r265) : Nat) : Int)), (52, .int .i64 x292)] ∧ Hp S Fa w0 w315 [.row true (cSl (cSl (cInt .i64))) 40 A32 c33 r23.1, .rowx true (cInt .i64) 3 (some ⟨g39, 0, none⟩) (Int.toNat (((List.length r23.1) : Nat) : Int)) out290 (List.replicate (Int.toNat (((List.length r23.1) : Nat) : Int) - Int.toNat (((List.length r23.1) : Nat) : Int)) (0 : Int)), .row true cBool 4 A177 c178 won176, .row true cBool 4 A274 c275 r265] ∧ attract_Ranks_l2 N rank179 r265 m316 out290 more291 x292 = some x312) N ?_ ?_
       ·
        exact ⟨out175, false, 0, E.pick _ ⟨rfl, rfl, rfl, rfl, rfl, rfl, rfl, rfl, trivial⟩, H.sel [0, 1, 2, 3] rfl, hL313⟩
       ·
        clear E H hL313; intro m316 a w315 hI_
        obtain ⟨out290, more291, x292, E, H, hP⟩ := hI_
        obtain ⟨m311, rfl⟩ : ∃ q_, m316 = q_ + 1 := by cases m316 with | zero => rw [attract_Ranks_l2] at hP; cases hP | succ q_ => exact ⟨q_, rfl⟩
        rw [attract_Ranks_l2] at hP
        refine wp_seq ?_
        refine wp_region_lit ?_
        refine vr tbok 1 [] [(6, .slice A32 (List.length r23.1) c33), (8, .slice (some ⟨g39, 0, none⟩) (List.length out290) (Int.toNat (((List.length r23.1) : Nat) : Int))), (9, .slice A177 (List.length won176) c178), (12, .int .i64 rank179), (13, .bool more291), (50, .slice A274 (List.length r265) c275), (51, .int .i64 (((List.length r265) : Nat) : Int)), (52, .int .i64 x292), (53, .bool (decide (x292 < (((List.length r265) : Nat) : Int))))] [] E (by kernel_rfl) trivial ?_
        clear E; intro a E
        refine wpList_nil ?_
        refine th_n ?_
        refine wp_seq ?_
        refine E.cases (t := 53) rfl (fun hb_ E_ => ?_) (fun hb_ E_ => ?_)
        ·
         replace E := E_; clear E_
         have h318 : x292 < (((List.length r265) : Nat) : Int) := of_decide_eq_true hb_
         clear hb_; replace hP := ite_t h318 hP
         refine c_true E rfl ?_
         refine wp_skip ?_
         refine th_n ?_
         refine wp_seq ?_
         refine wp_block ?_
         refine wp_seq ?_
         refine wp_region_lit ?_
         obtain ⟨g319, hP⟩ := ask_inv hP
         obtain ⟨b320, e_b320⟩ := H.raddr 3 rfl (idx_pos g319)
         subst e_b320
         refine vr tbok 5 [.bool (List.getD r265 (Int.toNat x292) false)] [(6, .slice A32 (List.length r23.1) c33), (8, .slice (some ⟨g39, 0, none⟩) (List.length out290) (Int.toNat (((List.length r23.1) : Nat) : Int))), (9, .slice A177 (List.length won176) c178), (12, .int .i64 rank179), (13, .bool more291), (14, .int .i64 x292), (15, .bool (List.getD r265 (Int.toNat x292) false)), (50, .slice (some ⟨b320, 0, none⟩) (List.length r265) c275), (51, .int .i64 (((List.length r265) : Nat) : Int)), (52, .int .i64 x292)] [0 ≤ x292 ∧ x292 < (((List.length r265) : Nat) : Int), World.cell? w315 ⟨b320, 0 + (Int.toNat x292) * 1, none⟩ = some (.bool (List.getD r265 (Int.toNat x292) false))] E (by kernel_rfl) ⟨g319, Rds.at1 (H.rd 3 rds_row) false g319⟩ ?_
         clear E; intro a E
         refine wpList_nil ?_
         refine th_n ?_
         refine wp_seq ?_
         refine wp_region_lit ?_
         refine vr tbok 2 [] [(6, .slice A32 (List.length r23.1) c33), (8, .slice (some ⟨g39, 0, none⟩) (List.length out290) (Int.toNat (((List.length r23.1) : Nat) : Int))), (9, .slice A177 (List.length won176) c178), (12, .int .i64 rank179), (13, .bool more291), (14, .int .i64 x292), (50, .slice (some ⟨b320, 0, none⟩) (List.length r265) c275), (51, .int .i64 (((List.length r265) : Nat) : Int)), (52, .int .i64 x292), (58, .bool (List.getD r265 (Int.toNat x292) false))] [] E (by kernel_rfl) trivial ?_
         clear E; intro a E
         refine E.cases (t := 58) rfl (fun hb_ E_ => ?_) (fun hb_ E_ => ?_)
         ·
          replace E := E_; clear E_
          have h322 : (List.getD r265 (Int.toNat x292) false) = true := hb_
          clear hb_; replace hP := ite_t h322 hP
          obtain ⟨g323, hP⟩ := ask_inv hP
          refine vr tbok 6 [.int .i64 (List.getD out290 (Int.toNat x292) 0)] [(6, .slice A32 (List.length r23.1) c33), (8, .slice (some ⟨g39, 0, none⟩) (List.length out290) (Int.toNat (((List.length r23.1) : Nat) : Int))), (9, .slice A177 (List.length won176) c178), (12, .int .i64 rank179), (13, .bool more291), (14, .int .i64 x292), (50, .slice (some ⟨b320, 0, none⟩) (List.length r265) c275), (51, .int .i64 (((List.length r265) : Nat) : Int)), (52, .int .i64 x292), (59, .slice (some ⟨g39, 0, none⟩) (List.length out290) (Int.toNat (((List.length r23.1) : Nat) : Int))), (60, .int .i64 x292), (61, .pointer (some ⟨g39, 0 + (Int.toNat x292) * 1, none⟩)), (62, .int .i64 (List.getD out290 (Int.toNat x292) 0)), (63, .bool (decide ((List.getD out290 (Int.toNat x292) 0) < 0))), (64, .bool (decide ((List.getD out290 (Int.toNat x292) 0) < 0)))] [0 ≤ x292 ∧ x292 < (((List.length out290) : Nat) : Int), World.cell? w315 ⟨g39, 0 + (Int.toNat x292) * 1, none⟩ = some (.int .i64 (List.getD out290 (Int.toNat x292) 0))] E (by kernel_rfl) ⟨g323, Rds.at1 (H.rd 1 rds_rowx) 0 g323⟩ ?_
          clear E; intro a E
          refine wpList_nil ?_
          refine th_n ?_
          refine E.cases (t := 64) rfl (fun hb_ E_ => ?_) (fun hb_ E_ => ?_)
          ·
           replace E := E_; clear E_
           have h324 : (List.getD out290 (Int.toNat x292) 0) < 0 := of_decide_eq_true hb_
           clear hb_; replace hP := ite_t h324 hP
           refine c_true E rfl ?_
           refine wp_region_lit ?_
           refine vr tbok 4 [] [(6, .slice A32 (List.length r23.1) c33), (8, .slice (some ⟨g39, 0, none⟩) (List.length out290) (Int.toNat (((List.length r23.1) : Nat) : Int))), (9, .slice A177 (List.length won176) c178), (12, .int .i64 rank179), (50, .slice (some ⟨b320, 0, none⟩) (List.length r265) c275), (51, .int .i64 (((List.length r265) : Nat) : Int)), (52, .int .i64 x292), (59, .slice (some ⟨g39, 0, none⟩) (List.length out290) (Int.toNat (((List.length r23.1) : Nat) : Int))), (60, .int .i64 x292), (61, .pointer (some ⟨g39, 0 + (Int.toNat x292) * 1, none⟩)), (62, .int .i64 (List.getD out290 (Int.toNat x292) 0)), (63, .bool (decide ((List.getD out290 (Int.toNat x292) 0) < 0))), (67, .int .i64 rank179), (68, .pointer (some ⟨g39, 0 + (Int.toNat x292) * 1, none⟩))] [0 ≤ x292 ∧ x292 < (((List.length out290) : Nat) : Int)] E (by kernel_rfl) (g323) ?_
           clear E; intro a E
           refine h_setx (g := g39) (i := x292) rank179 H 1 rfl E rfl rfl rfl rfl tbok rfl (fun _ HF_ => rfl) rfl g323 rfl ?_
           clear E; intro w325 a hc326 H_ E
           replace H := H_; clear H_; try dsimp only [setn, addE, goneL] at H
           have hn327 : (List.length out290) = (List.length (List.set out290 (Int.toNat x292) rank179)) := by simp only [List.length_set]
           replace E := E.same (t := 8) (u := .slice (some ⟨g39, 0, none⟩) (List.length (List.set out290 (Int.toNat x292) rank179)) (Int.toNat (((List.length r23.1) : Nat) : Int))) rfl (congrArg (fun n_ => Value.slice (some ⟨g39, 0, none⟩) n_ (Int.toNat (((List.length r23.1) : Nat) : Int))) hn327)
           replace E := E.same (t := 59) (u := .slice (some ⟨g39, 0, none⟩) (List.length (List.set out290 (Int.toNat x292) rank179)) (Int.toNat (((List.length r23.1) : Nat) : Int))) rfl (congrArg (fun n_ => Value.slice (some ⟨g39, 0, none⟩) n_ (Int.toNat (((List.length r23.1) : Nat) : Int))) hn327)
           refine vr tbok 1 [] [(6, .slice A32 (List.length r23.1) c33), (8, .slice (some ⟨g39, 0, none⟩) (List.length (List.set out290 (Int.toNat x292) rank179)) (Int.toNat (((List.length r23.1) : Nat) : Int))), (9, .slice A177 (List.length won176) c178), (12, .int .i64 rank179), (13, .bool true), (50, .slice (some ⟨b320, 0, none⟩) (List.length r265) c275), (51, .int .i64 (((List.length r265) : Nat) : Int)), (52, .int .i64 x292), (59, .slice (some ⟨g39, 0, none⟩) (List.length (List.set out290 (Int.toNat x292) rank179)) (Int.toNat (((List.length r23.1) : Nat) : Int))), (60, .int .i64 x292), (61, .pointer (some ⟨g39, 0 + (Int.toNat x292) * 1, none⟩)), (62, .int .i64 (List.getD out290 (Int.toNat x292) 0)), (63, .bool (decide ((List.getD out290 (Int.toNat x292) 0) < 0)))] [] E (by kernel_rfl) trivial ?_
           clear E; intro a E
           refine wpList_nil ?_
           refine bl_n ?_
           refine th_n ?_
           refine wp_region_lit ?_
           obtain ⟨g328, hP⟩ := ask_inv hP
           refine vr tbok 2 [.int .i64 (x292 + 1)] [(6, .slice A32 (List.length r23.1) c33), (8, .slice (some ⟨g39, 0, none⟩) (List.length (List.set out290 (Int.toNat x292) rank179)) (Int.toNat (((List.length r23.1) : Nat) : Int))), (9, .slice A177 (List.length won176) c178), (12, .int .i64 rank179), (13, .bool true), (50, .slice (some ⟨b320, 0, none⟩) (List.length r265) c275), (51, .int .i64 (((List.length r265) : Nat) : Int)), (52, .int .i64 (x292 + 1)), (59, .slice (some ⟨g39, 0, none⟩) (List.length (List.set out290 (Int.toNat x292) rank179)) (Int.toNat (((List.length r23.1) : Nat) : Int))), (60, .int .i64 x292), (61, .pointer (some ⟨g39, 0 + (Int.toNat x292) * 1, none⟩)), (62, .int .i64 (List.getD out290 (Int.toNat x292) 0)), (63, .bool (decide ((List.getD out290 (Int.toNat x292) 0) < 0)))] [IntKind.i64.wrap (x292 + 1) = x292 + 1] E (by kernel_rfl) (wrap_in g328) ?_
           clear E; intro a E
           refine wpList_nil ?_
           exact th_n ⟨m311, Nat.lt_succ_self _, List.set out290 (Int.toNat x292) rank179, true, x292 + 1, E.pick _ ⟨rfl, rfl, rfl, rfl, rfl, rfl, rfl, rfl, trivial⟩, H.sel [0, 1, 2, 3] rfl, hP⟩
          ·
           replace E := E_; clear E_
           have h329 : ¬ ((List.getD out290 (Int.toNat x292) 0) < 0) := of_decide_eq_false hb_
           clear hb_; replace hP := ite_f h329 hP
           refine c_false E rfl ?_
           refine wp_skip ?_
           refine bl_n ?_
           refine th_n ?_
           refine wp_region_lit ?_
           obtain ⟨g330, hP⟩ := ask_inv hP
           refine vr tbok 2 [.int .i64 (x292 + 1)] [(6, .slice A32 (List.length r23.1) c33), (8, .slice (some ⟨g39, 0, none⟩) (List.length out290) (Int.toNat (((List.length r23.1) : Nat) : Int))), (9, .slice A177 (List.length won176) c178), (12, .int .i64 rank179), (13, .bool more291), (50, .slice (some ⟨b320, 0, none⟩) (List.length r265) c275), (51, .int .i64 (((List.length r265) : Nat) : Int)), (52, .int .i64 (x292 + 1)), (59, .slice (some ⟨g39, 0, none⟩) (List.length out290) (Int.toNat (((List.length r23.1) : Nat) : Int))), (60, .int .i64 x292), (61, .pointer (some ⟨g39, 0 + (Int.toNat x292) * 1, none⟩)), (62, .int .i64 (List.getD out290 (Int.toNat x292) 0)), (63, .bool (decide ((List.getD out290 (Int.toNat x292) 0) < 0)))] [IntKind.i64.wrap (x292 + 1) = x292 + 1] E (by kernel_rfl) (wrap_in g330) ?_
           clear E; intro a E
           refine wpList_nil ?_
           exact th_n ⟨m311, Nat.lt_succ_self _, out290, more291, x292 + 1, E.pick _ ⟨rfl, rfl, rfl, rfl, rfl, rfl, rfl, rfl, trivial⟩, H.sel [0, 1, 2, 3] rfl, hP⟩
         ·
          replace E := E_; clear E_
          have h331 : ¬ ((List.getD r265 (Int.toNat x292) false) = true) := (ne_true_of_eq_false hb_)
          clear hb_; replace hP := ite_f h331 hP
          refine vr tbok 6 [] [(6, .slice A32 (List.length r23.1) c33), (8, .slice (some ⟨g39, 0, none⟩) (List.length out290) (Int.toNat (((List.length r23.1) : Nat) : Int))), (9, .slice A177 (List.length won176) c178), (12, .int .i64 rank179), (13, .bool more291), (14, .int .i64 x292), (50, .slice (some ⟨b320, 0, none⟩) (List.length r265) c275), (51, .int .i64 (((List.length r265) : Nat) : Int)), (52, .int .i64 x292), (59, .tuple #[]), (60, .tuple #[]), (61, .tuple #[]), (62, .tuple #[]), (63, .tuple #[]), (64, .bool false)] [] E (by kernel_rfl) trivial ?_
          clear E; intro a E
          refine wpList_nil ?_
          refine th_n ?_
          refine c_false E rfl ?_
          refine wp_skip ?_
          refine bl_n ?_
          refine th_n ?_
          refine wp_region_lit ?_
          obtain ⟨g332, hP⟩ := ask_inv hP
          refine vr tbok 2 [.int .i64 (x292 + 1)] [(6, .slice A32 (List.length r23.1) c33), (8, .slice (some ⟨g39, 0, none⟩) (List.length out290) (Int.toNat (((List.length r23.1) : Nat) : Int))), (9, .slice A177 (List.length won176) c178), (12, .int .i64 rank179), (13, .bool more291), (50, .slice (some ⟨b320, 0, none⟩) (List.length r265) c275), (51, .int .i64 (((List.length r265) : Nat) : Int)), (52, .int .i64 (x292 + 1)), (59, .tuple #[]), (60, .tuple #[]), (61, .tuple #[]), (62, .tuple #[]), (63, .tuple #[])] [IntKind.i64.wrap (x292 + 1) = x292 + 1] E (by kernel_rfl) (wrap_in g332) ?_
          clear E; intro a E
          refine wpList_nil ?_
          exact th_n ⟨m311, Nat.lt_succ_self _, out290, more291, x292 + 1, E.pick _ ⟨rfl, rfl, rfl, rfl, rfl, rfl, rfl, rfl, trivial⟩, H.sel [0, 1, 2, 3] rfl, hP⟩
        ·
         replace E := E_; clear E_
         have h333 : ¬ (x292 < (((List.length r265) : Nat) : Int)) := of_decide_eq_false hb_
         clear hb_; replace hP := ite_f h333 hP
         refine c_false E rfl ?_
         refine wp_exit ?_
         refine th_exit ?_
         have hx_ := Option.some.inj hP
         refine th_exit (.inl ⟨4, rfl, ?_⟩)
         exact ⟨rfl, (out290, more291), E.pick _ ⟨rfl, rfl, rfl, rfl, rfl, trivial⟩, H.sel [0, 1, 2] rfl, hx_.symm⟩
      ·
       clear E H hL313; intro i_ a w315 hM_
       obtain ⟨rfl, x317, E, H, hx_⟩ := hM_
       subst hx_; have hP := hK314; clear hK314
       refine bl_hit ?_
       refine th_n ?_
       refine wp_seq ?_
       refine wp_region_lit ?_
       refine vr tbok 3 [] [(6, .slice A32 (List.length r23.1) c33), (8, .slice (some ⟨g39, 0, none⟩) (List.length x312.1) (Int.toNat (((List.length r23.1) : Nat) : Int))), (9, .slice A177 (List.length won176) c178), (12, .int .i64 rank179), (13, .bool x312.2), (71, .int .i64 (((List.length x312.1) : Nat) : Int)), (72, .int .i64 0)] [] E (by kernel_rfl) trivial ?_
       clear E; intro a E
       refine wpList_nil ?_
       refine th_n ?_
       refine wp_block ?_
       obtain ⟨x361, hL362, hK363⟩ := bind_inv hP
       clear hP
       refine loop_cut (fun i_ a w_ => (i_ = 6 ∧ ∃ (x366 : List Bool), ∃ (A358 : Option Addr) (c359 : Nat), Fr a 85 [(6, .slice A32 (List.length r23.1) c33), (8, .slice (some ⟨g39, 0, none⟩) (List.length x312.1) (Int.toNat (((List.length r23.1) : Nat) : Int))), (9, .slice A358 (List.length x366) c359), (12, .int .i64 rank179), (13, .bool x312.2)] ∧ Hp S Fa w0 w_ [.row true (cSl (cSl (cInt .i64))) 40 A32 c33 r23.1, .rowx true (cInt .i64) 3 (some ⟨g39, 0, none⟩) (Int.toNat (((List.length r23.1) : Nat) : Int)) x312.1 (List.replicate (Int.toNat (((List.length r23.1) : Nat) : Int) - Int.toNat (((List.length r23.1) : Nat) : Int)) (0 : Int)), .row true cBool 4 A358 c359 x366] ∧ x361 = x366)) ?_ ?_
       ·
        refine loopV (fun m365 a w364 => ∃ (won343 : List Bool) (x346 : Int), ∃ (A344 : Option Addr) (c345 : Nat), Fr a 85 [(6, .slice A32 (List.length r23.1) c33), (8, .slice (some ⟨g39, 0, none⟩) (List.length x312.1) (Int.toNat (((List.length r23.1) : Nat) : Int))), (9, .slice A344 (List.length won343) c345), (12, .int .i64 rank179), (13, .bool x312.2), (71, .int .i64 (((List.length x312.1) : Nat) : Int)), (72, .int .i64 x346)] ∧ Hp S Fa w0 w364 [.row true (cSl (cSl (cInt .i64))) 40 A32 c33 r23.1, .rowx true (cInt .i64) 3 (some ⟨g39, 0, none⟩) (Int.toNat (((List.length r23.1) : Nat) : Int)) x312.1 (List.replicate (Int.toNat (((List.length r23.1) : Nat) : Int) - Int.toNat (((List.length r23.1) : Nat) : Int)) (0 : Int)), .row true cBool 4 A344 c345 won343] ∧ attract_Ranks_l3 N x312 m365 won343 x346 = some x361) N ?_ ?_
        ·
         exact ⟨won176, 0, A177, c178, E.pick _ ⟨rfl, rfl, rfl, rfl, rfl, rfl, rfl, trivial⟩, H.sel [0, 1, 2] rfl, hL362⟩
        ·
         clear E H hL362; intro m365 a w364 hI_
         obtain ⟨won343, x346, A344, c345, E, H, hP⟩ := hI_
         obtain ⟨m360, rfl⟩ : ∃ q_, m365 = q_ + 1 := by cases m365 with | zero => rw [attract_Ranks_l3] at hP; cases hP | succ q_ => exact ⟨q_, rfl⟩
         rw [attract_Ranks_l3] at hP
         refine wp_seq ?_
         refine wp_region_lit ?_
         refine vr tbok 1 [] [(6, .slice A32 (List.length r23.1) c33), (8, .slice (some ⟨g39, 0, none⟩) (List.length x312.1) (Int.toNat (((List.length r23.1) : Nat) : Int))), (9, .slice A344 (List.length won343) c345), (12, .int .i64 rank179), (13, .bool x312.2), (71, .int .i64 (((List.length x312.1) : Nat) : Int)), (72, .int .i64 x346), (73, .bool (decide (x346 < (((List.length x312.1) : Nat) : Int))))] [] E (by kernel_rfl) trivial ?_
         clear E; intro a E
         refine wpList_nil ?_
         refine th_n ?_
         refine wp_seq ?_
         refine E.cases (t := 73) rfl (fun hb_ E_ => ?_) (fun hb_ E_ => ?_)
         ·
          replace E := E_; clear E_
          have h367 : x346 < (((List.length x312.1) : Nat) : Int) := of_decide_eq_true hb_
          clear hb_; replace hP := ite_t h367 hP
          refine c_true E rfl ?_
          refine wp_skip ?_
          refine th_n ?_
          refine wp_seq ?_
          refine wp_block ?_
          refine wp_seq ?_
          refine wp_region_lit ?_
          refine vr tbok 2 [] [(6, .slice A32 (List.length r23.1) c33), (8, .slice (some ⟨g39, 0, none⟩) (List.length x312.1) (Int.toNat (((List.length r23.1) : Nat) : Int))), (9, .slice A344 (List.length won343) c345), (12, .int .i64 rank179), (13, .bool x312.2), (16, .int .i64 x346), (71, .int .i64 (((List.length x312.1) : Nat) : Int)), (72, .int .i64 x346)] [] E (by kernel_rfl) trivial ?_
          clear E; intro a E
          refine wpList_nil ?_
          refine th_n ?_
          refine wp_region_lit ?_
          obtain ⟨g368, hP⟩ := ask_inv hP
          obtain ⟨g369, hP⟩ := ask_inv hP
          obtain ⟨b370, e_b370⟩ := H.raddr 2 rfl (idx_pos g369)
          subst e_b370
          refine vr tbok 8 [.int .i64 (List.getD x312.1 (Int.toNat x346) 0)] [(6, .slice A32 (List.length r23.1) c33), (8, .slice (some ⟨g39, 0, none⟩) (List.length x312.1) (Int.toNat (((List.length r23.1) : Nat) : Int))), (9, .slice (some ⟨b370, 0, none⟩) (List.length won343) c345), (12, .int .i64 rank179), (13, .bool x312.2), (71, .int .i64 (((List.length x312.1) : Nat) : Int)), (72, .int .i64 x346), (81, .bool (decide (0 ≤ (List.getD x312.1 (Int.toNat x346) 0)))), (82, .pointer (some ⟨b370, 0 + (Int.toNat x346) * 1, none⟩))] [0 ≤ x346 ∧ x346 < (((List.length x312.1) : Nat) : Int), World.cell? w364 ⟨g39, 0 + (Int.toNat x346) * 1, none⟩ = some (.int .i64 (List.getD x312.1 (Int.toNat x346) 0)), 0 ≤ x346 ∧ x346 < (((List.length won343) : Nat) : Int)] E (by kernel_rfl) ⟨g368, Rds.at1 (H.rd 1 rds_rowx) 0 g368, g369⟩ ?_
          clear E; intro a E
          refine h_set (g := b370) (i := x346) (decide (0 ≤ (List.getD x312.1 (Int.toNat x346) 0))) H 2 rfl E rfl rfl rfl rfl tbok rfl (fun _ HF_ => rfl) rfl g369 rfl ?_
          clear E; intro w372 a hc373 H_ E
          replace H := H_; clear H_; try dsimp only [setn, addE, goneL] at H
          have hn374 : (List.length won343) = (List.length (List.set won343 (Int.toNat x346) (decide (0 ≤ (List.getD x312.1 (Int.toNat x346) 0))))) := by simp only [List.length_set]
          replace E := E.same (t := 9) (u := .slice (some ⟨b370, 0, none⟩) (List.length (List.set won343 (Int.toNat x346) (decide (0 ≤ (List.getD x312.1 (Int.toNat x346) 0))))) c345) rfl (congrArg (fun n_ => Value.slice (some ⟨b370, 0, none⟩) n_ c345) hn374)
          refine wpList_nil ?_
          refine bl_n ?_
          refine th_n ?_
          refine wp_region_lit ?_
          obtain ⟨g375, hP⟩ := ask_inv hP
          refine vr tbok 2 [.int .i64 (x346 + 1)] [(6, .slice A32 (List.length r23.1) c33), (8, .slice (some ⟨g39, 0, none⟩) (List.length x312.1) (Int.toNat (((List.length r23.1) : Nat) : Int))), (9, .slice (some ⟨b370, 0, none⟩) (List.length (List.set won343 (Int.toNat x346) (decide (0 ≤ (List.getD x312.1 (Int.toNat x346) 0))))) c345), (12, .int .i64 rank179), (13, .bool x312.2), (71, .int .i64 (((List.length x312.1) : Nat) : Int)), (72, .int .i64 (x346 + 1))] [IntKind.i64.wrap (x346 + 1) = x346 + 1] E (by kernel_rfl) (wrap_in g375) ?_
          clear E; intro a E
          refine wpList_nil ?_
          exact th_n ⟨m360, Nat.lt_succ_self _, List.set won343 (Int.toNat x346) (decide (0 ≤ (List.getD x312.1 (Int.toNat x346) 0))), x346 + 1, (some ⟨b370, 0, none⟩), c345, E.pick _ ⟨rfl, rfl, rfl, rfl, rfl, rfl, rfl, trivial⟩, H.sel [0, 1, 2] rfl, hP⟩
         ·
          replace E := E_; clear E_
          have h376 : ¬ (x346 < (((List.length x312.1) : Nat) : Int)) := of_decide_eq_false hb_
          clear hb_; replace hP := ite_f h376 hP
          refine c_false E rfl ?_
          refine wp_exit ?_
          refine th_exit ?_
          have hx_ := Option.some.inj hP
          refine th_exit (.inl ⟨6, rfl, ?_⟩)
          exact ⟨rfl, won343, A344, c345, E.pick _ ⟨rfl, rfl, rfl, rfl, rfl, trivial⟩, H.sel [0, 1, 2] rfl, hx_.symm⟩
       ·
        clear E H hL362; intro i_ a w364 hM_
        obtain ⟨rfl, x366, A358, c359, E, H, hx_⟩ := hM_
        subst hx_; have hP := hK363; clear hK363
        refine bl_hit ?_
        refine bl_n ?_
        refine th_n ?_
        refine wp_region_lit ?_
        obtain ⟨g377, hP⟩ := ask_inv hP
        refine vr tbok 3 [.int .i64 (rank179 + 1)] [(6, .slice A32 (List.length r23.1) c33), (8, .slice (some ⟨g39, 0, none⟩) (List.length x312.1) (Int.toNat (((List.length r23.1) : Nat) : Int))), (9, .slice A358 (List.length x361) c359), (12, .int .i64 (rank179 + 1)), (13, .bool x312.2)] [IntKind.i64.wrap (rank179 + 1) = rank179 + 1] E (by kernel_rfl) (wrap_in g377) ?_
        clear E; intro a E
        refine wpList_nil ?_
        exact th_n ⟨m257, Nat.lt_succ_self _, x312.1, x361, rank179 + 1, x312.2, A358, c359, E.pick _ ⟨rfl, rfl, rfl, rfl, rfl, trivial⟩, H.sel [0, 1, 2] rfl, hP⟩
     ·
      replace E := E_; clear E_
      have h378 : ¬ (more180 = true) := (ne_true_of_eq_false hb_)
      clear hb_; replace hP := ite_f h378 hP
      refine c_false E rfl ?_
      refine wp_exit ?_
      refine th_exit ?_
      have hx_ := Option.some.inj hP
      refine th_exit (.inl ⟨2, rfl, ?_⟩)
      exact ⟨rfl, out175, E.pick _ ⟨rfl, trivial⟩, H.sel [1] rfl, hx_.symm⟩
   ·
    clear E H hL259; intro i_ a w261 hM_
    obtain ⟨rfl, x263, E, H, hx_⟩ := hM_
    subst hx_; have hP := hK260; clear hK260
    refine bl_hit ?_
    refine th_n ?_
    refine wp_seq ?_
    refine wp_region_lit ?_
    refine vr tbok 3 [] [(4, .slice (some ⟨g39, 0, none⟩) (List.length x258) (Int.toNat (((List.length r23.1) : Nat) : Int))), (5, .int .i64 0)] [] E (by kernel_rfl) trivial ?_
    clear E; intro a E
    refine wpList_nil ?_
    refine th_n ?_
    refine wp_ret ?_
    replace H := H.rowx 0 rfl; try dsimp only [setn, addE, goneL] at H
    obtain rfl := Option.some.inj hP
    refine ret2 E rfl rfl rfl ?_
    exact ⟨_, rfl, (some ⟨g39, 0, none⟩), (Int.toNat (((List.length r23.1) : Nat) : Int)), rfl, H.sel [0] rfl⟩

/-! rejoinder/rejoinderkit.SameInts -/
def kit_SameInts_l0 (N : Nat) (aa : List Int) (b : List Int) : Nat → Int → Option (Unit ⊕ Bool)
  | 0, _ => none
  | m41 + 1, i25 =>
    if i25 < (((List.length aa) : Nat) : Int) then
      ask (idx i25 (List.length aa)) <|
      ask (idx i25 (List.length b)) <|
      if ((List.getD aa (Int.toNat i25) 0) : Int) = (List.getD b (Int.toNat i25) 0) then
        ask (in64 (i25 + 1)) <|
        kit_SameInts_l0 N aa b m41 (i25 + 1)
      else
        some (Sum.inr false)
    else
      some (Sum.inl ())
def kit_SameInts (N : Nat) (aa : List Int) (b : List Int) : Option Bool :=
  if ((((List.length aa) : Nat) : Int) : Int) = (((List.length b) : Nat) : Int) then
    Option.bind (kit_SameInts_l0 N aa b N 0) fun x42 =>
    Sum.elim (fun x47 =>
      some true)
     (fun x63 =>
      some x63) x42
  else
    some false
set_option maxRecDepth 100000 in
set_option maxHeartbeats 4000000 in
theorem kit_SameInts_calls {N : Nat} {S Fa : Nat → Prop} {w0 : World} {r : Bool} (A1 : Option Addr) (c2 : Nat) (A5 : Option Addr) (c6 : Nat) (aa : List Int) (b : List Int) (hk3 : List.length aa ≤ c2) (hk7 : List.length b ≤ c6) (H : Hp S Fa w0 w0 [.ro false (cInt .i64) A1 aa, .ro false (cInt .i64) A5 b]) (hP : kit_SameInts N aa b = some r) :
    Calls Try.prog 22 #[.slice A1 (List.length aa) c2, .slice A5 (List.length b) c6] w0 fun e w' => ∃ v, e = .returned v ∧ v = .bool r ∧ Hp S Fa w0 w' [] := by
 refine enterV (n := 26) Try.func22 rfl rfl rfl ?_
 intro a E
 replace E := E.pick [(0, .slice A1 (List.length aa) c2), (1, .slice A5 (List.length b) c6)] ⟨rfl, rfl, trivial⟩
 rw [kit_SameInts] at hP
 refine wp_seq ?_
 refine wp_region_lit ?_
 refine vr tbok 1 [] [(0, .slice A1 (List.length aa) c2), (1, .slice A5 (List.length b) c6)] [] E (by kernel_rfl) trivial ?_
 clear E; intro a E
 refine wpList_nil ?_
 refine th_n ?_
 refine wp_seq ?_
 refine wp_seq ?_
 refine wp_region_lit ?_
 refine vr tbok 5 [] [(0, .slice A1 (List.length aa) c2), (1, .slice A5 (List.length b) c6), (10, .bool (((((List.length aa) : Nat) : Int) : Int) != (((List.length b) : Nat) : Int)))] [] E (by kernel_rfl) trivial ?_
 clear E; intro a E
 refine wpList_nil ?_
 refine th_n ?_
 refine E.cases (t := 10) rfl (fun hb_ E_ => ?_) (fun hb_ E_ => ?_)
 ·
  replace E := E_; clear E_
  have h9 : ¬ (((((List.length aa) : Nat) : Int) : Int) = (((List.length b) : Nat) : Int)) := bne_iff_ne.1 hb_
  clear hb_; replace hP := ite_f h9 hP
  refine c_true E rfl ?_
  refine wp_seq ?_
  refine wp_region_lit ?_
  refine vr tbok 1 [] [(4, .bool false)] [] E (by kernel_rfl) trivial ?_
  clear E; intro a E
  refine wpList_nil ?_
  refine th_n ?_
  refine wp_ret ?_
  refine th_ret ?_
  obtain rfl := Option.some.inj hP
  refine ret1 E rfl rfl ?_
  exact ⟨_, rfl, rfl, H.sel [] rfl⟩
 ·
  replace E := E_; clear E_
  have h10 : ((((List.length aa) : Nat) : Int) : Int) = (((List.length b) : Nat) : Int) := bne_eq_false_iff_eq.1 hb_
  clear hb_; replace hP := ite_t h10 hP
  refine c_false E rfl ?_
  refine wp_skip ?_
  refine th_n ?_
  refine wp_seq ?_
  refine wp_seq ?_
  refine wp_region_lit ?_
  refine vr tbok 1 [] [(0, .slice A1 (List.length aa) c2), (1, .slice A5 (List.length b) c6), (5, .int .i64 0)] [] E (by kernel_rfl) trivial ?_
  clear E; intro a E
  refine wpList_nil ?_
  refine th_n ?_
  refine wp_block ?_
  obtain ⟨x42, hL43, hK44⟩ := bind_inv hP
  clear hP
  refine loop_cut (fun i_ a w_ => (i_ = 0 ∧ ∃ (x47 : Unit), Fr a 26 [] ∧ Hp S Fa w0 w_ [] ∧ x42 = Sum.inl x47)) ?_ ?_
  ·
   refine loopV (fun m46 a w45 => ∃ (i25 : Int), Fr a 26 [(0, .slice A1 (List.length aa) c2), (1, .slice A5 (List.length b) c6), (5, .int .i64 i25)] ∧ Hp S Fa w0 w45 [.ro false (cInt .i64) A1 aa, .ro false (cInt .i64) A5 b] ∧ kit_SameInts_l0 N aa b m46 i25 = some x42) N ?_ ?_
   ·
    exact ⟨0, E.pick _ ⟨rfl, rfl, rfl, trivial⟩, H.sel [0, 1] rfl, hL43⟩
   ·
    clear E H hL43; intro m46 a w45 hI_
    obtain ⟨i25, E, H, hP⟩ := hI_
    obtain ⟨m41, rfl⟩ : ∃ q_, m46 = q_ + 1 := by cases m46 with | zero => rw [kit_SameInts_l0] at hP; cases hP | succ q_ => exact ⟨q_, rfl⟩
    rw [kit_SameInts_l0] at hP
    refine wp_seq ?_
    refine wp_seq ?_
    refine wp_region_lit ?_
    refine vr tbok 4 [] [(0, .slice A1 (List.length aa) c2), (1, .slice A5 (List.length b) c6), (5, .int .i64 i25), (14, .bool (decide (i25 < (((List.length aa) : Nat) : Int))))] [] E (by kernel_rfl) trivial ?_
    clear E; intro a E
    refine wpList_nil ?_
    refine th_n ?_
    refine E.cases (t := 14) rfl (fun hb_ E_ => ?_) (fun hb_ E_ => ?_)
    ·
     replace E := E_; clear E_
     have h48 : i25 < (((List.length aa) : Nat) : Int) := of_decide_eq_true hb_
     clear hb_; replace hP := ite_t h48 hP
     refine c_true E rfl ?_
     refine wp_skip ?_
     refine th_n ?_
     refine wp_seq ?_
     refine wp_block ?_
     refine wp_seq ?_
     obtain ⟨g49, hP⟩ := ask_inv hP
     obtain ⟨b50, o51, e_b50⟩ := (H.rd 0 rds_ro).addr (idx_pos g49)
     subst e_b50
     obtain ⟨g52, hP⟩ := ask_inv hP
     obtain ⟨b53, o54, e_b53⟩ := (H.rd 1 rds_ro).addr (idx_pos g52)
     subst e_b53
     have HR58 := H
     refine dr_start (S := fun w_ => Chg (atL []) w45 w_) (by kernel_rfl) ?_
     intro w55 hc56
     have HS57 : Chg (atL []) w45 w55 := hc56.mono (fun _ _ h_ => h_.elim)
     replace H := H.ext hc56
     refine dr tbok (by kernel_rfl) [0, 1, 2, 3, 4, 5, 6, 7, 8] [.int .i64 (List.getD aa (Int.toNat i25) 0), .int .i64 (List.getD b (Int.toNat i25) 0)] [(0, .slice (some ⟨b50, o51, none⟩) (List.length aa) c2), (1, .slice (some ⟨b53, o54, none⟩) (List.length b) c6), (5, .int .i64 i25), (25, .bool (((List.getD aa (Int.toNat i25) 0) : Int) != (List.getD b (Int.toNat i25) 0)))] (fun w_ => [0 ≤ i25 ∧ i25 < (((List.length aa) : Nat) : Int), World.cell? w_ ⟨b50, o51 + (Int.toNat i25) * 1, none⟩ = some (.int .i64 (List.getD aa (Int.toNat i25) 0)), 0 ≤ i25 ∧ i25 < (((List.length b) : Nat) : Int), World.cell? w_ ⟨b53, o54 + (Int.toNat i25) * 1, none⟩ = some (.int .i64 (List.getD b (Int.toNat i25) 0))]) 0 E (fun _ _ => by kernel_rfl) (fun w_ hS_ => ⟨g49, Rds.at1 (HR58.rdk [] hS_ 0 rds_ro rfl) 0 g49, g52, Rds.at1 (HR58.rdk [] hS_ 1 rds_ro rfl) 0 g52⟩) (by kernel_rfl) HS57 ?_
     clear E; intro a E
     refine dr_done (by kernel_rfl) ?_
     clear HS57 HR58
     refine th_n ?_
     refine E.cases (t := 25) rfl (fun hb_ E_ => ?_) (fun hb_ E_ => ?_)
     ·
      replace E := E_; clear E_
      have h59 : ¬ (((List.getD aa (Int.toNat i25) 0) : Int) = (List.getD b (Int.toNat i25) 0)) := bne_iff_ne.1 hb_
      clear hb_; replace hP := ite_f h59 hP
      refine c_true E rfl ?_
      refine wp_seq ?_
      refine wp_region_lit ?_
      refine vr tbok 1 [] [(4, .bool false)] [] E (by kernel_rfl) trivial ?_
      clear E; intro a E
      refine wpList_nil ?_
      refine th_n ?_
      refine wp_ret ?_
      refine bl_ret ?_
      refine th_ret ?_
      refine th_ret ?_
      refine .inr ⟨rfl, ?_⟩
      refine bl_ret ?_
      refine th_ret ?_
      have hx_ := Option.some.inj hP; subst hx_
      have hP : some (false) = some r := hK44
      obtain rfl := Option.some.inj hP
      refine ret1 E rfl rfl ?_
      exact ⟨_, rfl, rfl, H.sel [] rfl⟩
     ·
      replace E := E_; clear E_
      have h60 : ((List.getD aa (Int.toNat i25) 0) : Int) = (List.getD b (Int.toNat i25) 0) := bne_eq_false_iff_eq.1 hb_
      clear hb_; replace hP := ite_t h60 hP
      refine c_false E rfl ?_
      refine wp_skip ?_
      refine bl_n ?_
      refine th_n ?_
      refine wp_region_lit ?_
      obtain ⟨g61, hP⟩ := ask_inv hP
      refine vr tbok 3 [.int .i64 (i25 + 1)] [(0, .slice (some ⟨b50, o51, none⟩) (List.length aa) c2), (1, .slice (some ⟨b53, o54, none⟩) (List.length b) c6), (5, .int .i64 (i25 + 1))] [IntKind.i64.wrap (i25 + 1) = i25 + 1] E (by kernel_rfl) (wrap_in g61) ?_
      clear E; intro a E
      refine wpList_nil ?_
      exact th_n ⟨m41, Nat.lt_succ_self _, i25 + 1, E.pick _ ⟨rfl, rfl, rfl, trivial⟩, H.sel [0, 1] rfl, hP⟩
    ·
     replace E := E_; clear E_
     have h62 : ¬ (i25 < (((List.length aa) : Nat) : Int)) := of_decide_eq_false hb_
     clear hb_; replace hP := ite_f h62 hP
     refine c_false E rfl ?_
     refine wp_exit ?_
     refine th_exit ?_
     have hx_ := Option.some.inj hP
     refine th_exit (.inl ⟨0, rfl, ?_⟩)
     exact ⟨rfl, (), E.pick _ trivial, H.sel [] rfl, hx_.symm⟩
  ·
   clear E H hL43; intro i_ a w45 hM_
   obtain ⟨rfl, x47, E, H, hx_⟩ := hM_
   subst hx_; have hP := elim_l hK44
   clear hK44
   refine bl_hit ?_
   refine th_n ?_
   refine wp_seq ?_
   refine wp_region_lit ?_
   refine vr tbok 1 [] [(4, .bool true)] [] E (by kernel_rfl) trivial ?_
   clear E; intro a E
   refine wpList_nil ?_
   refine th_n ?_
   refine wp_ret ?_
   obtain rfl := Option.some.inj hP
   refine ret1 E rfl rfl ?_
   exact ⟨_, rfl, rfl, H.sel [] rfl⟩

/-! rejoinder/rejoinderlaw23.awake -/
def law23_awake (N : Nat) : Option Bool :=
  Option.bind (law23_Until N) fun r1 =>
  Option.bind (attract_Ranks N r1.1 r1.2.1 r1.2.2.1 r1.2.2.2 (1, 2)) fun r19 =>
  Option.bind (law23_Until N) fun r31 =>
  Option.bind (attract_Ranks N r31.1 r31.2.1 r31.2.2.1 r31.2.2.2 (2, 1)) fun r49 =>
  Option.bind (kit_SameInts N r19.1 ([1, -1, 0] : List Int)) fun r66 =>
  if r66 = true then
    if (r19.2 : Int) = 0 then
      Option.bind (kit_SameInts N r49.1 ([-1, -1, 0] : List Int)) fun r82 =>
      if r82 = true then
        some ((r49.2 : Int) == 0)
      else
        some false
    else
      some false
  else
    some false
set_option maxRecDepth 100000 in
set_option maxHeartbeats 4000000 in
theorem law23_awake_calls {N : Nat} {S Fa : Nat → Prop} {w0 : World} {r : Bool} (H : Hp S Fa w0 w0 []) (hP : law23_awake N  = some r) :
    Calls Try.prog 7 #[] w0 fun e w' => ∃ v, e = .returned v ∧ v = .bool r ∧ Hp S Fa w0 w' [] := by
 refine enterV (n := 33) Try.func7 rfl rfl rfl ?_
 intro a E
 replace E := E.pick [] trivial
 rw [law23_awake] at hP
 refine wp_seq ?_
 refine wp_region_lit ?_
 refine vr tbok 1 [] [] [] E (by kernel_rfl) trivial ?_
 clear E; intro a E
 refine wpList_nil ?_
 refine th_n ?_
 refine wp_seq ?_
 refine wp_region_lit ?_
 obtain ⟨r1, h2, hP⟩ := bind_inv hP
 obtain ⟨Fa3, Hc4, hb5⟩ := H.call [] [] rfl rfl trivial
 refine e_call E rfl rfl Try.func26 rfl rfl rfl (law23_Until_calls    Hc4 h2) ?_
 rintro v6 w7 a ⟨A10, c11, A13, c14, A16, c17, rfl, HR8⟩ E_
 replace E := E_ _ rfl; clear E_
 obtain ⟨H_, hc9⟩ := hb5 _ _ HR8 rfl
 replace H := H_; clear H_; try dsimp only [setn, addE, goneL] at H
 refine e_build (ps := [(0, .int .u8 1), (1, .int .u8 2)]) (v := .agg #[.int .u8 1, .int .u8 2]) E rfl rfl tbok rfl (by kernel_rfl) rfl ?_
 clear E; intro a E
 obtain ⟨r19, h20, hP⟩ := bind_inv hP
 obtain ⟨Fa21, Hc22, hb23⟩ := H.call [] [(0, false), (1, false), (2, false)] rfl rfl trivial
 refine e_call E rfl rfl Try.func11 rfl rfl rfl (attract_Ranks_calls A10 c11 A13 c14 A16 c17 r1.1 r1.2.1 r1.2.2.1 r1.2.2.2 (1, 2) (H.rcap 0 rfl) (H.rcap 1 rfl) (H.rcap 2 rfl) Hc22 h20) ?_
 rintro v24 w25 a ⟨A28, c29, rfl, HR26⟩ E_
 replace E := E_ _ rfl; clear E_
 obtain ⟨H_, hc27⟩ := hb23 _ _ HR26 rfl
 replace H := H_; clear H_; try dsimp only [setn, addE, goneL] at H
 refine vr tbok 5 [] [(1, .slice A28 (List.length r19.1) c29), (2, .int .i64 r19.2)] [] E (by kernel_rfl) trivial ?_
 clear E; intro a E
 refine wpList_nil ?_
 refine th_n ?_
 refine wp_seq ?_
 refine wp_region_lit ?_
 obtain ⟨r31, h32, hP⟩ := bind_inv hP
 obtain ⟨Fa33, Hc34, hb35⟩ := H.call [] [] rfl rfl trivial
 refine e_call E rfl rfl Try.func26 rfl rfl rfl (law23_Until_calls    Hc34 h32) ?_
 rintro v36 w37 a ⟨A40, c41, A43, c44, A46, c47, rfl, HR38⟩ E_
 replace E := E_ _ rfl; clear E_
 obtain ⟨H_, hc39⟩ := hb35 _ _ HR38 rfl
 replace H := H_; clear H_; try dsimp only [setn, addE, goneL] at H
 refine e_build (ps := [(0, .int .u8 2), (1, .int .u8 1)]) (v := .agg #[.int .u8 2, .int .u8 1]) E rfl rfl tbok rfl (by kernel_rfl) rfl ?_
 clear E; intro a E
 obtain ⟨r49, h50, hP⟩ := bind_inv hP
 obtain ⟨Fa51, Hc52, hb53⟩ := H.call [] [(4, false), (5, false), (6, false)] rfl rfl trivial
 refine e_call E rfl rfl Try.func11 rfl rfl rfl (attract_Ranks_calls A40 c41 A43 c44 A46 c47 r31.1 r31.2.1 r31.2.2.1 r31.2.2.2 (2, 1) (H.rcap 4 rfl) (H.rcap 5 rfl) (H.rcap 6 rfl) Hc52 h50) ?_
 rintro v54 w55 a ⟨A58, c59, rfl, HR56⟩ E_
 replace E := E_ _ rfl; clear E_
 obtain ⟨H_, hc57⟩ := hb53 _ _ HR56 rfl
 replace H := H_; clear H_; try dsimp only [setn, addE, goneL] at H
 refine vr tbok 5 [] [(1, .slice A28 (List.length r19.1) c29), (2, .int .i64 r19.2), (3, .slice A58 (List.length r49.1) c59), (4, .int .i64 r49.2)] [] E (by kernel_rfl) trivial ?_
 clear E; intro a E
 refine wpList_nil ?_
 refine th_n ?_
 refine wp_seq ?_
 refine wp_region_lit ?_
 refine vr tbok 1 [] [(2, .int .i64 r19.2), (3, .slice A58 (List.length r49.1) c59), (4, .int .i64 r49.2), (17, .slice A28 (List.length r19.1) c29)] [] E (by kernel_rfl) trivial ?_
 clear E; intro a E
 refine h_buildSlice (ps := [(0, .int .i64 1), (1, .int .i64 (-1)), (2, .int .i64 0)]) (cs := [.int .i64 1, .int .i64 (-1), .int .i64 0]) H E rfl rfl tbok rfl rfl (by kernel_rfl) ?_
 intro w62 g61 a hc63 hg65 H_ E_
 replace E := E_ _ rfl; clear E_
 replace H := H_; clear H_; try dsimp only [setn, addE, goneL] at H
 replace H := H.boxRow (cInt .i64) true ([1, -1, 0] : List Int) 8 rfl (fun _ _ => ⟨_, _, rfl, rfl, ⟨_, _, rfl, rfl, ⟨_, _, rfl, rfl, rfl⟩⟩⟩) (Nat.le_of_ble_eq_true rfl); try dsimp only [setn, addE, goneL] at H
 obtain ⟨r66, h67, hP⟩ := bind_inv hP
 obtain ⟨Fa68, Hc69, hb70⟩ := H.call [] [(3, false), (8, false)] rfl rfl trivial
 refine e_call E rfl rfl Try.func22 rfl rfl rfl (kit_SameInts_calls A28 c29 (some ⟨g61, 0, none⟩) 3 r19.1 ([1, -1, 0] : List Int) (H.rcap 3 rfl) (H.rcapx 8 rfl) Hc69 h67) ?_
 rintro v71 w72 a ⟨rfl, HR73⟩ E_
 replace E := E_ _ rfl; clear E_
 obtain ⟨H_, hc74⟩ := hb70 _ _ HR73 rfl
 replace H := H_; clear H_; try dsimp only [setn, addE, goneL] at H
 refine vr tbok 1 [] [(2, .int .i64 r19.2), (3, .slice A58 (List.length r49.1) c59), (4, .int .i64 r49.2), (20, .bool r66)] [] E (by kernel_rfl) trivial ?_
 clear E; intro a E
 refine E.cases (t := 20) rfl (fun hb_ E_ => ?_) (fun hb_ E_ => ?_)
 ·
  replace E := E_; clear E_
  have h75 : r66 = true := hb_
  clear hb_; replace hP := ite_t h75 hP
  refine vr tbok 4 [] [(3, .slice A58 (List.length r49.1) c59), (4, .int .i64 r49.2), (24, .bool ((r19.2 : Int) == 0))] [] E (by kernel_rfl) trivial ?_
  clear E; intro a E
  refine E.cases (t := 24) rfl (fun hb_ E_ => ?_) (fun hb_ E_ => ?_)
  ·
   replace E := E_; clear E_
   have h76 : (r19.2 : Int) = 0 := eq_of_beq hb_
   clear hb_; replace hP := ite_t h76 hP
   refine vr tbok 1 [] [(4, .int .i64 r49.2), (24, .bool true), (25, .slice A58 (List.length r49.1) c59)] [] E (by kernel_rfl) trivial ?_
   clear E; intro a E
   refine h_buildSlice (ps := [(0, .int .i64 (-1)), (1, .int .i64 (-1)), (2, .int .i64 0)]) (cs := [.int .i64 (-1), .int .i64 (-1), .int .i64 0]) H E rfl rfl tbok rfl rfl (by kernel_rfl) ?_
   intro w78 g77 a hc79 hg81 H_ E_
   replace E := E_ _ rfl; clear E_
   replace H := H_; clear H_; try dsimp only [setn, addE, goneL] at H
   replace H := H.boxRow (cInt .i64) true ([-1, -1, 0] : List Int) 9 rfl (fun _ _ => ⟨_, _, rfl, rfl, ⟨_, _, rfl, rfl, ⟨_, _, rfl, rfl, rfl⟩⟩⟩) (Nat.le_of_ble_eq_true rfl); try dsimp only [setn, addE, goneL] at H
   obtain ⟨r82, h83, hP⟩ := bind_inv hP
   obtain ⟨Fa84, Hc85, hb86⟩ := H.call [] [(7, false), (9, false)] rfl rfl trivial
   refine e_call E rfl rfl Try.func22 rfl rfl rfl (kit_SameInts_calls A58 c59 (some ⟨g77, 0, none⟩) 3 r49.1 ([-1, -1, 0] : List Int) (H.rcap 7 rfl) (H.rcapx 9 rfl) Hc85 h83) ?_
   rintro v87 w88 a ⟨rfl, HR89⟩ E_
   replace E := E_ _ rfl; clear E_
   obtain ⟨H_, hc90⟩ := hb86 _ _ HR89 rfl
   replace H := H_; clear H_; try dsimp only [setn, addE, goneL] at H
   refine vr tbok 2 [] [(4, .int .i64 r49.2), (29, .bool r82)] [] E (by kernel_rfl) trivial ?_
   clear E; intro a E
   refine E.cases (t := 29) rfl (fun hb_ E_ => ?_) (fun hb_ E_ => ?_)
   ·
    replace E := E_; clear E_
    have h91 : r82 = true := hb_
    clear hb_; replace hP := ite_t h91 hP
    refine vr tbok 4 [] [(0, .bool ((r49.2 : Int) == 0))] [] E (by kernel_rfl) trivial ?_
    clear E; intro a E
    refine wpList_nil ?_
    refine th_n ?_
    refine wp_ret ?_
    obtain rfl := Option.some.inj hP
    refine ret1 E rfl rfl ?_
    exact ⟨_, rfl, rfl, H.sel [] rfl⟩
   ·
    replace E := E_; clear E_
    have h92 : ¬ (r82 = true) := (ne_true_of_eq_false hb_)
    clear hb_; replace hP := ite_f h92 hP
    refine vr tbok 4 [] [(0, .bool false)] [] E (by kernel_rfl) trivial ?_
    clear E; intro a E
    refine wpList_nil ?_
    refine th_n ?_
    refine wp_ret ?_
    obtain rfl := Option.some.inj hP
    refine ret1 E rfl rfl ?_
    exact ⟨_, rfl, rfl, H.sel [] rfl⟩
  ·
   replace E := E_; clear E_
   have h93 : ¬ ((r19.2 : Int) = 0) := ne_of_beq_false hb_
   clear hb_; replace hP := ite_f h93 hP
   refine vr tbok 9 [] [(0, .bool false)] [] E (by kernel_rfl) trivial ?_
   clear E; intro a E
   refine wpList_nil ?_
   refine th_n ?_
   refine wp_ret ?_
   obtain rfl := Option.some.inj hP
   refine ret1 E rfl rfl ?_
   exact ⟨_, rfl, rfl, H.sel [] rfl⟩
 ·
  replace E := E_; clear E_
  have h94 : ¬ (r66 = true) := (ne_true_of_eq_false hb_)
  clear hb_; replace hP := ite_f h94 hP
  refine vr tbok 13 [] [(0, .bool false)] [] E (by kernel_rfl) trivial ?_
  clear E; intro a E
  refine wpList_nil ?_
  refine th_n ?_
  refine wp_ret ?_
  obtain rfl := Option.some.inj hP
  refine ret1 E rfl rfl ?_
  exact ⟨_, rfl, rfl, H.sel [] rfl⟩

end Go.V
