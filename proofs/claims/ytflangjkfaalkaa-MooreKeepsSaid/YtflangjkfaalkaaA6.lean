/- Plain functions, and the calls that give them. -/
import Derived.Test.YtflangjkfaalkaaA5
set_option linter.all false
set_option linter.unusedVariables false
set_option linter.unnecessarySimpa false
set_option linter.unusedSimpArgs false
namespace Go.V
open Go Go.Proofs
/-! rejoinder/attract.Ranks -/
def attract_Ranks_l0 (N : Nat) (r44 : List Bool) : Nat → (List Int) → Int → Option (List Int)
  | 0, _, _ => none
  | m83 + 1, out67, x68 =>
    if x68 < (((List.length r44) : Nat) : Int) then
      ask (idx x68 (List.length r44)) <|
      if (List.getD r44 (Int.toNat x68) false) = true then
        ask (in64 (x68 + 1)) <|
        attract_Ranks_l0 N r44 m83 out67 (x68 + 1)
      else
        ask (idx x68 (List.length out67)) <|
        ask (in64 (x68 + 1)) <|
        attract_Ranks_l0 N r44 m83 (List.set out67 (Int.toNat x68) (-1)) (x68 + 1)
    else
      some out67
def attract_Ranks_l2 (N : Nat) (rank179 : Int) (r265 : List Bool) : Nat → (List Int) → Bool → Int → Option ((List Int) × Bool)
  | 0, _, _, _ => none
  | m311 + 1, out290, more291, x292 =>
    if x292 < (((List.length r265) : Nat) : Int) then
      ask (idx x292 (List.length r265)) <|
      if (List.getD r265 (Int.toNat x292) false) = true then
        ask (idx x292 (List.length out290)) <|
        if (List.getD out290 (Int.toNat x292) 0) < 0 then
          ask (in64 (x292 + 1)) <|
          attract_Ranks_l2 N rank179 r265 m311 (List.set out290 (Int.toNat x292) rank179) true (x292 + 1)
        else
          ask (in64 (x292 + 1)) <|
          attract_Ranks_l2 N rank179 r265 m311 out290 more291 (x292 + 1)
      else
        ask (in64 (x292 + 1)) <|
        attract_Ranks_l2 N rank179 r265 m311 out290 more291 (x292 + 1)
    else
      some (out290, more291)
def attract_Ranks_l3 (N : Nat) (x312 : (List Int) × Bool) : Nat → (List Bool) → Int → Option (List Bool)
  | 0, _, _ => none
  | m360 + 1, won343, x346 =>
    if x346 < (((List.length x312.1) : Nat) : Int) then
      ask (idx x346 (List.length x312.1)) <|
      ask (idx x346 (List.length won343)) <|
      ask (in64 (x346 + 1)) <|
      attract_Ranks_l3 N x312 m360 (List.set won343 (Int.toNat x346) (decide (0 ≤ (List.getD x312.1 (Int.toNat x346) 0)))) (x346 + 1)
    else
      some won343
def attract_Ranks_l1 (N : Nat) (r23 : (List (List (List Int))) × Int) : Nat → (List Int) → (List Bool) → Int → Bool → Option (List Int)
  | 0, _, _, _, _ => none
  | m257 + 1, out175, won176, rank179, more180 =>
    if more180 = true then
      Option.bind (attract_before N r23.1 won176) fun r265 =>
      Option.bind (attract_Ranks_l2 N rank179 r265 N out175 false 0) fun x312 =>
      Option.bind (attract_Ranks_l3 N x312 N won176 0) fun x361 =>
      ask (in64 (rank179 + 1)) <|
      attract_Ranks_l1 N r23 m257 x312.1 x361 (rank179 + 1) x312.2
    else
      some out175
def attract_Ranks (N : Nat) (aProps : Int) (aAccept : List Bool) (aGuard : List Int) (aNodes : List Nd) (s : Int × Int) : Option ((List Int) × Int) :=
  Option.bind (attract_rows N aProps aAccept aGuard aNodes (s.1, s.2)) fun r23 =>
  if (r23.2 : Int) = 0 then
    ask (0 ≤ (((List.length r23.1) : Nat) : Int) ∧ (((List.length r23.1) : Nat) : Int) ≤ 1000000000) <|
    Option.bind (slices_Clone_bool_bool N aAccept) fun r44 =>
    Option.bind (attract_Ranks_l0 N r44 N (List.replicate (Int.toNat (((List.length r23.1) : Nat) : Int)) (0 : Int)) 0) fun x84 =>
    Option.bind (attract_Ranks_l1 N r23 N x84 r44 1 true) fun x258 =>
    some (x258, 0)
  else
    some ([], r23.2)
set_option maxRecDepth 100000 in
set_option maxHeartbeats 4000000 in
theorem attract_Ranks_calls {N : Nat} {S Fa : Nat → Prop} {w0 : World} {r : (List Int) × Int} (A1 : Option Addr) (c2 : Nat) (A5 : Option Addr) (c6 : Nat) (A9 : Option Addr) (c10 : Nat) (aProps : Int) (aAccept : List Bool) (aGuard : List Int) (aNodes : List Nd) (s : Int × Int) (hk3 : List.length aAccept ≤ c2) (hk7 : List.length aGuard ≤ c6) (hk11 : List.length aNodes ≤ c10) (H : Hp S Fa w0 w0 [.ro false cBool A1 aAccept, .ro false (cInt .i64) A5 aGuard, .ro false cNode A9 aNodes]) (hP : attract_Ranks N aProps aAccept aGuard aNodes s = some r) :
    Calls Try.prog 27 #[.agg #[.int .i64 aProps, .slice A1 (List.length aAccept) c2, .slice A5 (List.length aGuard) c6, .slice A9 (List.length aNodes) c10], .agg #[.int .u8 s.1, .int .u8 s.2]] w0 fun e w' => ∃ v, e = .returned v ∧ ∃ (A379 : Option Addr) (c380 : Nat), v = .tuple #[.slice A379 (List.length r.1) c380, .int .i64 r.2] ∧ Hp S Fa w0 w' [.row true (cInt .i64) 3 A379 c380 r.1] := by
 refine enterV (n := 85) Try.func27 rfl rfl rfl ?_
 intro a E
 replace E := E.pick [(0, .agg #[.int .i64 aProps, .slice A1 (List.length aAccept) c2, .slice A5 (List.length aGuard) c6, .slice A9 (List.length aNodes) c10]), (1, .agg #[.int .u8 s.1, .int .u8 s.2])] ⟨rfl, rfl, trivial⟩
 rw [attract_Ranks] at hP
 refine wp_seq ?_
 refine wp_region_lit ?_
 refine h_box H E rfl rfl rfl ?_
 intro w14 g13 a hc15 hg17 H_ E_
 replace E := E_ _ rfl; clear E_
 replace H := H_; clear H_; try dsimp only [setn, addE, goneL] at H
 refine h_box H E rfl rfl rfl ?_
 intro w19 g18 a hc20 hg22 H_ E_
 replace E := E_ _ rfl; clear E_
 replace H := H_; clear H_; try dsimp only [setn, addE, goneL] at H
 refine vr tbok 2 [] [(2, .pointer (some ⟨g13, 0, none⟩)), (3, .pointer (some ⟨g18, 0, none⟩))] [] E (by kernel_rfl) trivial ?_
 clear E; intro a E
 refine wpList_nil ?_
 refine th_n ?_
 refine wp_seq ?_
 refine wp_region_lit ?_
 refine vr tbok 2 [.agg #[.int .i64 aProps, .slice A1 (List.length aAccept) c2, .slice A5 (List.length aGuard) c6, .slice A9 (List.length aNodes) c10], .agg #[.int .u8 s.1, .int .u8 s.2]] [(2, .pointer (some ⟨g13, 0, none⟩)), (18, .agg #[.int .i64 aProps, .slice A1 (List.length aAccept) c2, .slice A5 (List.length aGuard) c6, .slice A9 (List.length aNodes) c10]), (19, .agg #[.int .u8 s.1, .int .u8 s.2])] [cellsAt w19 g13 (0) [.int .i64 aProps, .slice A1 (List.length aAccept) c2, .slice A5 (List.length aGuard) c6, .slice A9 (List.length aNodes) c10], cellsAt w19 g18 (0) [.int .u8 s.1, .int .u8 s.2]] E (by kernel_rfl) ⟨(H.box 3 rfl).sub 0 _ rfl, (H.box 4 rfl).sub 0 _ rfl⟩ ?_
 clear E; intro a E
 obtain ⟨r23, h24, hP⟩ := bind_inv hP
 obtain ⟨Fa25, Hc26, hb27⟩ := H.call [] [(0, false), (1, false), (2, false)] rfl rfl trivial
 refine e_call E rfl rfl Try.func53 rfl rfl rfl (attract_rows_calls A1 c2 A5 c6 A9 c10 aProps aAccept aGuard aNodes (s.1, s.2) hk3 hk7 hk11 Hc26 h24) ?_
 rintro v28 w29 a ⟨A32, c33, rfl, HR30⟩ E_
 replace E := E_ _ rfl; clear E_
 obtain ⟨H_, hc31⟩ := hb27 _ _ HR30 rfl
 replace H := H_; clear H_; try dsimp only [setn, addE, goneL] at H
 refine vr tbok 5 [] [(2, .pointer (some ⟨g13, 0, none⟩)), (6, .slice A32 (List.length r23.1) c33), (7, .int .i64 r23.2)] [] E (by kernel_rfl) trivial ?_
 clear E; intro a E
 refine wpList_nil ?_
 refine th_n ?_
 refine wp_seq ?_
 refine wp_seq ?_
 refine wp_region_lit ?_
 refine vr tbok 2 [] [(2, .pointer (some ⟨g13, 0, none⟩)), (6, .slice A32 (List.length r23.1) c33), (7, .int .i64 r23.2), (24, .bool ((r23.2 : Int) != 0))] [] E (by kernel_rfl) trivial ?_
 clear E; intro a E
 refine wpList_nil ?_
 refine th_n ?_
 refine E.cases (t := 24) rfl (fun hb_ E_ => ?_) (fun hb_ E_ => ?_)
 ·
  replace E := E_; clear E_
  have h35 : ¬ ((r23.2 : Int) = 0) := bne_iff_ne.1 hb_
  clear hb_; replace hP := ite_f h35 hP
  refine c_true E rfl ?_
  refine wp_seq ?_
  refine wp_region_lit ?_
  refine vr tbok 3 [] [(4, .slice none 0 0), (5, .int .i64 r23.2)] [] E (by kernel_rfl) trivial ?_
  clear E; intro a E
  refine wpList_nil ?_
  refine th_n ?_
  refine wp_ret ?_
  refine th_ret ?_
  replace H := H.nilrow (cInt .i64) 3; try dsimp only [setn, addE, goneL] at H
  obtain rfl := Option.some.inj hP
  refine ret2 E rfl rfl rfl ?_
  exact ⟨_, rfl, none, 0, rfl, H.sel [6] rfl⟩
 replace E := E_; clear E_
 have h37 : (r23.2 : Int) = 0 := bne_eq_false_iff_eq.1 hb_
 clear hb_; replace hP := ite_t h37 hP
 refine c_false E rfl ?_
 refine wp_skip ?_
 refine th_n ?_
 refine wp_seq ?_
 refine wp_region_lit ?_
 refine vr tbok 2 [] [(2, .pointer (some ⟨g13, 0, none⟩)), (6, .slice A32 (List.length r23.1) c33), (27, .int .i64 (((List.length r23.1) : Nat) : Int))] [] E (by kernel_rfl) trivial ?_
 clear E; intro a E
 obtain ⟨g38, hP⟩ := ask_inv hP
 refine h_make (cInt .i64) (0 : Int) H E rfl rfl tbok rfl rfl rfl rfl ⟨g38.1, Int.le_refl _, g38.2⟩ rfl rfl rfl (fun _ _ => rfl) ?_
 intro w40 g39 a hc41 hg43 H_ E_
 replace E := E_ _ rfl; clear E_
 replace H := H_; clear H_; try dsimp only [setn, addE, goneL] at H
 refine vr tbok 1 [] [(2, .pointer (some ⟨g13, 0, none⟩)), (6, .slice A32 (List.length r23.1) c33), (8, .slice (some ⟨g39, 0, none⟩) (List.length (List.replicate (Int.toNat (((List.length r23.1) : Nat) : Int)) (0 : Int))) (Int.toNat (((List.length r23.1) : Nat) : Int)))] [] E (by kernel_rfl) trivial ?_
 clear E; intro a E
 refine wpList_nil ?_
 refine th_n ?_
 refine wp_seq ?_
 refine wp_region_lit ?_
 refine vr tbok 2 [.slice A1 (List.length aAccept) c2] [(6, .slice A32 (List.length r23.1) c33), (8, .slice (some ⟨g39, 0, none⟩) (List.length (List.replicate (Int.toNat (((List.length r23.1) : Nat) : Int)) (0 : Int))) (Int.toNat (((List.length r23.1) : Nat) : Int))), (30, .slice A1 (List.length aAccept) c2)] [World.cell? w40 ⟨g13, 1, none⟩ = some (.slice A1 (List.length aAccept) c2)] E (by kernel_rfl) ((H.box 3 rfl).cell (j := 1) rfl) ?_
 clear E; intro a E
 obtain ⟨r44, h45, hP⟩ := bind_inv hP
 obtain ⟨Fa46, Hc47, hb48⟩ := H.call [] [(0, false)] rfl rfl trivial
 refine e_call E rfl rfl Try.func54 rfl rfl rfl (slices_Clone_bool_bool_calls A1 c2 aAccept hk3 Hc47 h45) ?_
 rintro v49 w50 a ⟨A53, c54, rfl, HR51⟩ E_
 replace E := E_ _ rfl; clear E_
 obtain ⟨H_, hc52⟩ := hb48 _ _ HR51 rfl
 replace H := H_; clear H_; try dsimp only [setn, addE, goneL] at H
 refine vr tbok 1 [] [(6, .slice A32 (List.length r23.1) c33), (8, .slice (some ⟨g39, 0, none⟩) (List.length (List.replicate (Int.toNat (((List.length r23.1) : Nat) : Int)) (0 : Int))) (Int.toNat (((List.length r23.1) : Nat) : Int))), (9, .slice A53 (List.length r44) c54)] [] E (by kernel_rfl) trivial ?_
 clear E; intro a E
 refine wpList_nil ?_
 refine th_n ?_
 refine wp_seq ?_
 refine wp_seq ?_
 refine wp_region_lit ?_
 refine vr tbok 3 [] [(6, .slice A32 (List.length r23.1) c33), (8, .slice (some ⟨g39, 0, none⟩) (List.length (List.replicate (Int.toNat (((List.length r23.1) : Nat) : Int)) (0 : Int))) (Int.toNat (((List.length r23.1) : Nat) : Int))), (9, .slice A53 (List.length r44) c54), (32, .slice A53 (List.length r44) c54), (33, .int .i64 (((List.length r44) : Nat) : Int)), (34, .int .i64 0)] [] E (by kernel_rfl) trivial ?_
 clear E; intro a E
 refine wpList_nil ?_
 refine th_n ?_
 refine wp_block ?_
 obtain ⟨x84, hL85, hK86⟩ := bind_inv hP
 clear hP
 refine loop_cut (fun i_ a w_ => (i_ = 0 ∧ ∃ (x89 : List Int), Fr a 85 [(6, .slice A32 (List.length r23.1) c33), (8, .slice (some ⟨g39, 0, none⟩) (List.length x89) (Int.toNat (((List.length r23.1) : Nat) : Int))), (9, .slice A53 (List.length r44) c54)] ∧ Hp S Fa w0 w_ [.row true (cSl (cSl (cInt .i64))) 45 A32 c33 r23.1, .rowx true (cInt .i64) 3 (some ⟨g39, 0, none⟩) (Int.toNat (((List.length r23.1) : Nat) : Int)) x89 (List.replicate (Int.toNat (((List.length r23.1) : Nat) : Int) - Int.toNat (((List.length r23.1) : Nat) : Int)) (0 : Int)), .row true cBool 4 A53 c54 r44] ∧ x84 = x89)) ?_ ?_
 ·
  refine loopV (fun m88 a w87 => ∃ (out67 : List Int) (x68 : Int), Fr a 85 [(6, .slice A32 (List.length r23.1) c33), (8, .slice (some ⟨g39, 0, none⟩) (List.length out67) (Int.toNat (((List.length r23.1) : Nat) : Int))), (9, .slice A53 (List.length r44) c54), (32, .slice A53 (List.length r44) c54), (33, .int .i64 (((List.length r44) : Nat) : Int)), (34, .int .i64 x68)] ∧ Hp S Fa w0 w87 [.row true (cSl (cSl (cInt .i64))) 45 A32 c33 r23.1, .rowx true (cInt .i64) 3 (some ⟨g39, 0, none⟩) (Int.toNat (((List.length r23.1) : Nat) : Int)) out67 (List.replicate (Int.toNat (((List.length r23.1) : Nat) : Int) - Int.toNat (((List.length r23.1) : Nat) : Int)) (0 : Int)), .row true cBool 4 A53 c54 r44] ∧ attract_Ranks_l0 N r44 m88 out67 x68 = some x84) N ?_ ?_
  ·
   exact ⟨List.replicate (Int.toNat (((List.length r23.1) : Nat) : Int)) (0 : Int), 0, E.pick _ ⟨rfl, rfl, rfl, rfl, rfl, rfl, trivial⟩, H.sel [5, 6, 7] rfl, hL85⟩
  clear E H hL85; intro m88 a w87 hI_
  obtain ⟨out67, x68, E, H, hP⟩ := hI_
  obtain ⟨m83, rfl⟩ : ∃ q_, m88 = q_ + 1 := by cases m88 with | zero => rw [attract_Ranks_l0] at hP; cases hP | succ q_ => exact ⟨q_, rfl⟩
  rw [attract_Ranks_l0] at hP
  refine wp_seq ?_
  refine wp_region_lit ?_
  refine vr tbok 1 [] [(6, .slice A32 (List.length r23.1) c33), (8, .slice (some ⟨g39, 0, none⟩) (List.length out67) (Int.toNat (((List.length r23.1) : Nat) : Int))), (9, .slice A53 (List.length r44) c54), (32, .slice A53 (List.length r44) c54), (33, .int .i64 (((List.length r44) : Nat) : Int)), (34, .int .i64 x68), (35, .bool (decide (x68 < (((List.length r44) : Nat) : Int))))] [] E (by kernel_rfl) trivial ?_
  clear E; intro a E
  refine wpList_nil ?_
  refine th_n ?_
  refine wp_seq ?_
  refine E.cases (t := 35) rfl (fun hb_ E_ => ?_) (fun hb_ E_ => ?_)
  ·
   replace E := E_; clear E_
   have h90 : x68 < (((List.length r44) : Nat) : Int) := of_decide_eq_true hb_
   clear hb_; replace hP := ite_t h90 hP
   refine c_true E rfl ?_
   refine wp_skip ?_
   refine th_n ?_
   refine wp_seq ?_
   refine wp_block ?_
   refine wp_seq ?_
   refine wp_region_lit ?_
   obtain ⟨g91, hP⟩ := ask_inv hP
   obtain ⟨b92, e_b92⟩ := H.raddr 2 rfl (idx_pos g91)
   subst e_b92
   refine vr tbok 5 [.bool (List.getD r44 (Int.toNat x68) false)] [(6, .slice A32 (List.length r23.1) c33), (8, .slice (some ⟨g39, 0, none⟩) (List.length out67) (Int.toNat (((List.length r23.1) : Nat) : Int))), (9, .slice (some ⟨b92, 0, none⟩) (List.length r44) c54), (10, .int .i64 x68), (11, .bool (List.getD r44 (Int.toNat x68) false)), (32, .slice (some ⟨b92, 0, none⟩) (List.length r44) c54), (33, .int .i64 (((List.length r44) : Nat) : Int)), (34, .int .i64 x68)] [0 ≤ x68 ∧ x68 < (((List.length r44) : Nat) : Int), World.cell? w87 ⟨b92, 0 + (Int.toNat x68) * 1, none⟩ = some (.bool (List.getD r44 (Int.toNat x68) false))] E (by kernel_rfl) ⟨g91, Rds.at1 (H.rd 2 rds_row) false g91⟩ ?_
   clear E; intro a E
   refine wpList_nil ?_
   refine th_n ?_
   refine wp_seq ?_
   refine wp_region_lit ?_
   refine vr tbok 2 [] [(6, .slice A32 (List.length r23.1) c33), (8, .slice (some ⟨g39, 0, none⟩) (List.length out67) (Int.toNat (((List.length r23.1) : Nat) : Int))), (9, .slice (some ⟨b92, 0, none⟩) (List.length r44) c54), (10, .int .i64 x68), (32, .slice (some ⟨b92, 0, none⟩) (List.length r44) c54), (33, .int .i64 (((List.length r44) : Nat) : Int)), (34, .int .i64 x68), (40, .bool (!(List.getD r44 (Int.toNat x68) false)))] [] E (by kernel_rfl) trivial ?_
   clear E; intro a E
   refine wpList_nil ?_
   refine th_n ?_
   refine E.cases (t := 40) rfl (fun hb_ E_ => ?_) (fun hb_ E_ => ?_)
   ·
    replace E := E_; clear E_
    have h94 : ¬ ((List.getD r44 (Int.toNat x68) false) = true) := (ne_true_of_eq_false (not_t hb_))
    clear hb_; replace hP := ite_f h94 hP
    refine c_true E rfl ?_
    refine wp_region_lit ?_
    obtain ⟨g95, hP⟩ := ask_inv hP
    refine vr tbok 3 [] [(6, .slice A32 (List.length r23.1) c33), (8, .slice (some ⟨g39, 0, none⟩) (List.length out67) (Int.toNat (((List.length r23.1) : Nat) : Int))), (9, .slice (some ⟨b92, 0, none⟩) (List.length r44) c54), (32, .slice (some ⟨b92, 0, none⟩) (List.length r44) c54), (33, .int .i64 (((List.length r44) : Nat) : Int)), (34, .int .i64 x68), (43, .pointer (some ⟨g39, 0 + (Int.toNat x68) * 1, none⟩))] [0 ≤ x68 ∧ x68 < (((List.length out67) : Nat) : Int)] E (by kernel_rfl) (g95) ?_
    clear E; intro a E
    refine h_setx (g := g39) (i := x68) (-1) H 1 rfl E rfl rfl rfl rfl tbok rfl (fun _ HF_ => rfl) rfl g95 rfl ?_
    clear E; intro w96 a hc97 H_ E
    replace H := H_; clear H_; try dsimp only [setn, addE, goneL] at H
    have hn98 : (List.length out67) = (List.length (List.set out67 (Int.toNat x68) (-1))) := by simp only [List.length_set]
    replace E := E.same (t := 8) (u := .slice (some ⟨g39, 0, none⟩) (List.length (List.set out67 (Int.toNat x68) (-1))) (Int.toNat (((List.length r23.1) : Nat) : Int))) rfl (congrArg (fun n_ => Value.slice (some ⟨g39, 0, none⟩) n_ (Int.toNat (((List.length r23.1) : Nat) : Int))) hn98)
    refine wpList_nil ?_
    refine bl_n ?_
    refine th_n ?_
    refine wp_region_lit ?_
    obtain ⟨g99, hP⟩ := ask_inv hP
    refine vr tbok 2 [.int .i64 (x68 + 1)] [(6, .slice A32 (List.length r23.1) c33), (8, .slice (some ⟨g39, 0, none⟩) (List.length (List.set out67 (Int.toNat x68) (-1))) (Int.toNat (((List.length r23.1) : Nat) : Int))), (9, .slice (some ⟨b92, 0, none⟩) (List.length r44) c54), (32, .slice (some ⟨b92, 0, none⟩) (List.length r44) c54), (33, .int .i64 (((List.length r44) : Nat) : Int)), (34, .int .i64 (x68 + 1))] [IntKind.i64.wrap (x68 + 1) = x68 + 1] E (by kernel_rfl) (wrap_in g99) ?_
    clear E; intro a E
    refine wpList_nil ?_
    exact th_n ⟨m83, Nat.lt_succ_self _, List.set out67 (Int.toNat x68) (-1), x68 + 1, E.pick _ ⟨rfl, rfl, rfl, rfl, rfl, rfl, trivial⟩, H.sel [0, 1, 2] rfl, hP⟩
   replace E := E_; clear E_
   have h100 : (List.getD r44 (Int.toNat x68) false) = true := (not_f hb_)
   clear hb_; replace hP := ite_t h100 hP
   refine c_false E rfl ?_
   refine wp_skip ?_
   refine bl_n ?_
   refine th_n ?_
   refine wp_region_lit ?_
   obtain ⟨g101, hP⟩ := ask_inv hP
   refine vr tbok 2 [.int .i64 (x68 + 1)] [(6, .slice A32 (List.length r23.1) c33), (8, .slice (some ⟨g39, 0, none⟩) (List.length out67) (Int.toNat (((List.length r23.1) : Nat) : Int))), (9, .slice (some ⟨b92, 0, none⟩) (List.length r44) c54), (32, .slice (some ⟨b92, 0, none⟩) (List.length r44) c54), (33, .int .i64 (((List.length r44) : Nat) : Int)), (34, .int .i64 (x68 + 1))] [IntKind.i64.wrap (x68 + 1) = x68 + 1] E (by kernel_rfl) (wrap_in g101) ?_
   clear E; intro a E
   refine wpList_nil ?_
   exact th_n ⟨m83, Nat.lt_succ_self _, out67, x68 + 1, E.pick _ ⟨rfl, rfl, rfl, rfl, rfl, rfl, trivial⟩, H.sel [0, 1, 2] rfl, hP⟩
  replace E := E_; clear E_
  have h102 : ¬ (x68 < (((List.length r44) : Nat) : Int)) := of_decide_eq_false hb_
  clear hb_; replace hP := ite_f h102 hP
  refine c_false E rfl ?_
  refine wp_exit ?_
  refine th_exit ?_
  have hx_ := Option.some.inj hP
  refine th_exit (.inl ⟨0, rfl, ?_⟩)
  exact ⟨rfl, out67, E.pick _ ⟨rfl, rfl, rfl, trivial⟩, H.sel [0, 1, 2] rfl, hx_.symm⟩
 clear E H hL85; intro i_ a w87 hM_
 obtain ⟨rfl, x89, E, H, hx_⟩ := hM_
 subst hx_; have hP := hK86; clear hK86
 refine bl_hit ?_
 refine th_n ?_
 refine wp_seq ?_
 refine wp_seq ?_
 refine wp_region_lit ?_
 refine vr tbok 2 [] [(6, .slice A32 (List.length r23.1) c33), (8, .slice (some ⟨g39, 0, none⟩) (List.length x84) (Int.toNat (((List.length r23.1) : Nat) : Int))), (9, .slice A53 (List.length r44) c54), (12, .int .i64 1), (13, .bool true)] [] E (by kernel_rfl) trivial ?_
 clear E; intro a E
 refine wpList_nil ?_
 refine th_n ?_
 refine wp_block ?_
 obtain ⟨x258, hL259, hK260⟩ := bind_inv hP
 clear hP
 refine loop_cut (fun i_ a w_ => (i_ = 2 ∧ ∃ (x263 : List Int), Fr a 85 [(8, .slice (some ⟨g39, 0, none⟩) (List.length x263) (Int.toNat (((List.length r23.1) : Nat) : Int)))] ∧ Hp S Fa w0 w_ [.rowx true (cInt .i64) 3 (some ⟨g39, 0, none⟩) (Int.toNat (((List.length r23.1) : Nat) : Int)) x263 (List.replicate (Int.toNat (((List.length r23.1) : Nat) : Int) - Int.toNat (((List.length r23.1) : Nat) : Int)) (0 : Int))] ∧ x258 = x263)) ?_ ?_
 ·
  refine loopV (fun m262 a w261 => ∃ (out175 : List Int) (won176 : List Bool) (rank179 : Int) (more180 : Bool), ∃ (A177 : Option Addr) (c178 : Nat), Fr a 85 [(6, .slice A32 (List.length r23.1) c33), (8, .slice (some ⟨g39, 0, none⟩) (List.length out175) (Int.toNat (((List.length r23.1) : Nat) : Int))), (9, .slice A177 (List.length won176) c178), (12, .int .i64 rank179), (13, .bool more180)] ∧ Hp S Fa w0 w261 [.row true (cSl (cSl (cInt .i64))) 45 A32 c33 r23.1, .rowx true (cInt .i64) 3 (some ⟨g39, 0, none⟩) (Int.toNat (((List.length r23.1) : Nat) : Int)) out175 (List.replicate (Int.toNat (((List.length r23.1) : Nat) : Int) - Int.toNat (((List.length r23.1) : Nat) : Int)) (0 : Int)), .row true cBool 4 A177 c178 won176] ∧ attract_Ranks_l1 N r23 m262 out175 won176 rank179 more180 = some x258) N ?_ ?_
  ·
   exact ⟨x84, r44, 1, true, A53, c54, E.pick _ ⟨rfl, rfl, rfl, rfl, rfl, trivial⟩, H.sel [0, 1, 2] rfl, hL259⟩
  clear E H hL259; intro m262 a w261 hI_
  obtain ⟨out175, won176, rank179, more180, A177, c178, E, H, hP⟩ := hI_
  obtain ⟨m257, rfl⟩ : ∃ q_, m262 = q_ + 1 := by cases m262 with | zero => rw [attract_Ranks_l1] at hP; cases hP | succ q_ => exact ⟨q_, rfl⟩
  rw [attract_Ranks_l1] at hP
  refine wp_seq ?_
  refine wp_seq ?_
  refine wp_region_lit ?_
  refine vr tbok 1 [] [(6, .slice A32 (List.length r23.1) c33), (8, .slice (some ⟨g39, 0, none⟩) (List.length out175) (Int.toNat (((List.length r23.1) : Nat) : Int))), (9, .slice A177 (List.length won176) c178), (12, .int .i64 rank179), (45, .bool more180)] [] E (by kernel_rfl) trivial ?_
  clear E; intro a E
  refine wpList_nil ?_
  refine th_n ?_
  refine E.cases (t := 45) rfl (fun hb_ E_ => ?_) (fun hb_ E_ => ?_)
  ·
   replace E := E_; clear E_
   have h264 : more180 = true := hb_
   clear hb_; replace hP := ite_t h264 hP
   refine c_true E rfl ?_
   refine wp_skip ?_
   refine th_n ?_
   refine wp_seq ?_
   refine wp_block ?_
   refine wp_seq ?_
   refine wp_region_lit ?_
   refine vr tbok 1 [] [(6, .slice A32 (List.length r23.1) c33), (8, .slice (some ⟨g39, 0, none⟩) (List.length out175) (Int.toNat (((List.length r23.1) : Nat) : Int))), (9, .slice A177 (List.length won176) c178), (12, .int .i64 rank179), (13, .bool false)] [] E (by kernel_rfl) trivial ?_
   clear E; intro a E
   refine wpList_nil ?_
   refine th_n ?_
   refine wp_seq ?_
   refine wp_seq ?_
   refine wp_region_lit ?_
   refine vr tbok 2 [] [(6, .slice A32 (List.length r23.1) c33), (8, .slice (some ⟨g39, 0, none⟩) (List.length out175) (Int.toNat (((List.length r23.1) : Nat) : Int))), (9, .slice A177 (List.length won176) c178), (12, .int .i64 rank179), (13, .bool false), (48, .slice A32 (List.length r23.1) c33), (49, .slice A177 (List.length won176) c178)] [] E (by kernel_rfl) trivial ?_
   clear E; intro a E
   obtain ⟨r265, h266, hP⟩ := bind_inv hP
   obtain ⟨Fa267, Hc268, hb269⟩ := H.call [] [(0, false), (2, false)] rfl rfl trivial
   refine e_call E rfl rfl Try.func55 rfl rfl rfl (attract_before_calls A32 c33 A177 c178 r23.1 won176 (H.rcap 0 rfl) (H.rcap 2 rfl) Hc268 h266) ?_
   rintro v270 w271 a ⟨A274, c275, rfl, HR272⟩ E_
   replace E := E_ _ rfl; clear E_
   obtain ⟨H_, hc273⟩ := hb269 _ _ HR272 rfl
   replace H := H_; clear H_; try dsimp only [setn, addE, goneL] at H
   refine vr tbok 2 [] [(6, .slice A32 (List.length r23.1) c33), (8, .slice (some ⟨g39, 0, none⟩) (List.length out175) (Int.toNat (((List.length r23.1) : Nat) : Int))), (9, .slice A177 (List.length won176) c178), (12, .int .i64 rank179), (13, .bool false), (50, .slice A274 (List.length r265) c275), (51, .int .i64 (((List.length r265) : Nat) : Int)), (52, .int .i64 0)] [] E (by kernel_rfl) trivial ?_
   clear E; intro a E
   refine wpList_nil ?_
   refine th_n ?_
   refine wp_block ?_
   obtain ⟨x312, hL313, hK314⟩ := bind_inv hP
   clear hP
   refine loop_cut (fun i_ a w_ => (i_ = 4 ∧ ∃ (x317 : (List Int) × Bool), Fr a 85 [(6, .slice A32 (List.length r23.1) c33), (8, .slice (some ⟨g39, 0, none⟩) (List.length x317.1) (Int.toNat (((List.length r23.1) : Nat) : Int))), (9, .slice A177 (List.length won176) c178), (12, .int .i64 rank179), (13, .bool x317.2)] ∧ Hp S Fa w0 w_ [.row true (cSl (cSl (cInt .i64))) 45 A32 c33 r23.1, .rowx true (cInt .i64) 3 (some ⟨g39, 0, none⟩) (Int.toNat (((List.length r23.1) : Nat) : Int)) x317.1 (List.replicate (Int.toNat (((List.length r23.1) : Nat) : Int) - Int.toNat (((List.length r23.1) : Nat) : Int)) (0 : Int)), .row true cBool 4 A177 c178 won176] ∧ x312 = x317)) ?_ ?_
   ·
    refine loopV (fun m316 a w315 => ∃ (out290 : List Int) (more291 : Bool) (x292 : Int), Fr a 85 [(6, .slice A32 (List.length r23.1) c33), (8, .slice (some ⟨g39, 0, none⟩) (List.length out290) (Int.toNat (((List.length r23.1) : Nat) : Int))), (9, .slice A177 (List.length won176) c178), (12, .int .i64 rank179), (13, .bool more291), (50, .slice A274 (List.length r265) c275), (51, .int .i64 (((List.length r265) : Nat) : Int)), (52, .int .i64 x292)] ∧ Hp S Fa w0 w315 [.row true (cSl (cSl (cInt .i64))) 45 A32 c33 r23.1, .rowx true (cInt .i64) 3 (some ⟨g39, 0, none⟩) (Int.toNat (((List.length r23.1) : Nat) : Int)) out290 (List.replicate (Int.toNat (((List.length r23.1) : Nat) : Int) - Int.toNat (((List.length r23.1) : Nat) : Int)) (0 : Int)), .row true cBool 4 A177 c178 won176, .row true cBool 4 A274 c275 r265] ∧ attract_Ranks_l2 N rank179 r265 m316 out290 more291 x292 = some x312) N ?_ ?_
    ·
     exact ⟨out175, false, 0, E.pick _ ⟨rfl, rfl, rfl, rfl, rfl, rfl, rfl, rfl, trivial⟩, H.sel [0, 1, 2, 3] rfl, hL313⟩
    clear E H hL313; intro m316 a w315 hI_
    obtain ⟨out290, more291, x292, E, H, hP⟩ := hI_
    obtain ⟨m311, rfl⟩ : ∃ q_, m316 = q_ + 1 := by cases m316 with | zero => rw [attract_Ranks_l2] at hP; cases hP | succ q_ => exact ⟨q_, rfl⟩
    rw [attract_Ranks_l2] at hP
    refine wp_seq ?_
    refine wp_region_lit ?_
    refine vr tbok 1 [] [(6, .slice A32 (List.length r23.1) c33), (8, .slice (some ⟨g39, 0, none⟩) (List.length out290) (Int.toNat (((List.length r23.1) : Nat) : Int))), (9, .slice A177 (List.length won176) c178), (12, .int .i64 rank179), (13, .bool more291), (50, .slice A274 (List.length r265) c275), (51, .int .i64 (((List.length r265) : Nat) : Int)), (52, .int .i64 x292), (53, .bool (decide (x292 < (((List.length r265) : Nat) : Int))))] [] E (by kernel_rfl) trivial ?_
    clear E; intro a E
    refine wpList_nil ?_
    refine th_n ?_
    refine wp_seq ?_
    refine E.cases (t := 53) rfl (fun hb_ E_ => ?_) (fun hb_ E_ => ?_)
    ·
     replace E := E_; clear E_
     have h318 : x292 < (((List.length r265) : Nat) : Int) := of_decide_eq_true hb_
     clear hb_; replace hP := ite_t h318 hP
     refine c_true E rfl ?_
     refine wp_skip ?_
     refine th_n ?_
     refine wp_seq ?_
     refine wp_block ?_
     refine wp_seq ?_
     refine wp_region_lit ?_
     obtain ⟨g319, hP⟩ := ask_inv hP
     obtain ⟨b320, e_b320⟩ := H.raddr 3 rfl (idx_pos g319)
     subst e_b320
     refine vr tbok 5 [.bool (List.getD r265 (Int.toNat x292) false)] [(6, .slice A32 (List.length r23.1) c33), (8, .slice (some ⟨g39, 0, none⟩) (List.length out290) (Int.toNat (((List.length r23.1) : Nat) : Int))), (9, .slice A177 (List.length won176) c178), (12, .int .i64 rank179), (13, .bool more291), (14, .int .i64 x292), (15, .bool (List.getD r265 (Int.toNat x292) false)), (50, .slice (some ⟨b320, 0, none⟩) (List.length r265) c275), (51, .int .i64 (((List.length r265) : Nat) : Int)), (52, .int .i64 x292)] [0 ≤ x292 ∧ x292 < (((List.length r265) : Nat) : Int), World.cell? w315 ⟨b320, 0 + (Int.toNat x292) * 1, none⟩ = some (.bool (List.getD r265 (Int.toNat x292) false))] E (by kernel_rfl) ⟨g319, Rds.at1 (H.rd 3 rds_row) false g319⟩ ?_
     clear E; intro a E
     refine wpList_nil ?_
     refine th_n ?_
     refine wp_seq ?_
     refine wp_region_lit ?_
     refine vr tbok 2 [] [(6, .slice A32 (List.length r23.1) c33), (8, .slice (some ⟨g39, 0, none⟩) (List.length out290) (Int.toNat (((List.length r23.1) : Nat) : Int))), (9, .slice A177 (List.length won176) c178), (12, .int .i64 rank179), (13, .bool more291), (14, .int .i64 x292), (50, .slice (some ⟨b320, 0, none⟩) (List.length r265) c275), (51, .int .i64 (((List.length r265) : Nat) : Int)), (52, .int .i64 x292), (58, .bool (List.getD r265 (Int.toNat x292) false))] [] E (by kernel_rfl) trivial ?_
     clear E; intro a E
     refine E.cases (t := 58) rfl (fun hb_ E_ => ?_) (fun hb_ E_ => ?_)
     ·
      replace E := E_; clear E_
      have h322 : (List.getD r265 (Int.toNat x292) false) = true := hb_
      clear hb_; replace hP := ite_t h322 hP
      obtain ⟨g323, hP⟩ := ask_inv hP
      refine vr tbok 6 [.int .i64 (List.getD out290 (Int.toNat x292) 0)] [(6, .slice A32 (List.length r23.1) c33), (8, .slice (some ⟨g39, 0, none⟩) (List.length out290) (Int.toNat (((List.length r23.1) : Nat) : Int))), (9, .slice A177 (List.length won176) c178), (12, .int .i64 rank179), (13, .bool more291), (14, .int .i64 x292), (50, .slice (some ⟨b320, 0, none⟩) (List.length r265) c275), (51, .int .i64 (((List.length r265) : Nat) : Int)), (52, .int .i64 x292), (64, .bool (decide ((List.getD out290 (Int.toNat x292) 0) < 0)))] [0 ≤ x292 ∧ x292 < (((List.length out290) : Nat) : Int), World.cell? w315 ⟨g39, 0 + (Int.toNat x292) * 1, none⟩ = some (.int .i64 (List.getD out290 (Int.toNat x292) 0))] E (by kernel_rfl) ⟨g323, Rds.at1 (H.rd 1 rds_rowx) 0 g323⟩ ?_
      clear E; intro a E
      refine wpList_nil ?_
      refine th_n ?_
      refine E.cases (t := 64) rfl (fun hb_ E_ => ?_) (fun hb_ E_ => ?_)
      ·
       replace E := E_; clear E_
       have h324 : (List.getD out290 (Int.toNat x292) 0) < 0 := of_decide_eq_true hb_
       clear hb_; replace hP := ite_t h324 hP
       refine c_true E rfl ?_
       refine wp_region_lit ?_
       refine vr tbok 4 [] [(6, .slice A32 (List.length r23.1) c33), (8, .slice (some ⟨g39, 0, none⟩) (List.length out290) (Int.toNat (((List.length r23.1) : Nat) : Int))), (9, .slice A177 (List.length won176) c178), (12, .int .i64 rank179), (50, .slice (some ⟨b320, 0, none⟩) (List.length r265) c275), (51, .int .i64 (((List.length r265) : Nat) : Int)), (52, .int .i64 x292), (67, .int .i64 rank179), (68, .pointer (some ⟨g39, 0 + (Int.toNat x292) * 1, none⟩))] [0 ≤ x292 ∧ x292 < (((List.length out290) : Nat) : Int)] E (by kernel_rfl) (g323) ?_
       clear E; intro a E
       refine h_setx (g := g39) (i := x292) rank179 H 1 rfl E rfl rfl rfl rfl tbok rfl (fun _ HF_ => rfl) rfl g323 rfl ?_
       clear E; intro w325 a hc326 H_ E
       replace H := H_; clear H_; try dsimp only [setn, addE, goneL] at H
       have hn327 : (List.length out290) = (List.length (List.set out290 (Int.toNat x292) rank179)) := by simp only [List.length_set]
       replace E := E.same (t := 8) (u := .slice (some ⟨g39, 0, none⟩) (List.length (List.set out290 (Int.toNat x292) rank179)) (Int.toNat (((List.length r23.1) : Nat) : Int))) rfl (congrArg (fun n_ => Value.slice (some ⟨g39, 0, none⟩) n_ (Int.toNat (((List.length r23.1) : Nat) : Int))) hn327)
       refine vr tbok 1 [] [(6, .slice A32 (List.length r23.1) c33), (8, .slice (some ⟨g39, 0, none⟩) (List.length (List.set out290 (Int.toNat x292) rank179)) (Int.toNat (((List.length r23.1) : Nat) : Int))), (9, .slice A177 (List.length won176) c178), (12, .int .i64 rank179), (13, .bool true), (50, .slice (some ⟨b320, 0, none⟩) (List.length r265) c275), (51, .int .i64 (((List.length r265) : Nat) : Int)), (52, .int .i64 x292)] [] E (by kernel_rfl) trivial ?_
       clear E; intro a E
       refine wpList_nil ?_
       refine bl_n ?_
       refine th_n ?_
       refine wp_region_lit ?_
       obtain ⟨g328, hP⟩ := ask_inv hP
       refine vr tbok 2 [.int .i64 (x292 + 1)] [(6, .slice A32 (List.length r23.1) c33), (8, .slice (some ⟨g39, 0, none⟩) (List.length (List.set out290 (Int.toNat x292) rank179)) (Int.toNat (((List.length r23.1) : Nat) : Int))), (9, .slice A177 (List.length won176) c178), (12, .int .i64 rank179), (13, .bool true), (50, .slice (some ⟨b320, 0, none⟩) (List.length r265) c275), (51, .int .i64 (((List.length r265) : Nat) : Int)), (52, .int .i64 (x292 + 1))] [IntKind.i64.wrap (x292 + 1) = x292 + 1] E (by kernel_rfl) (wrap_in g328) ?_
       clear E; intro a E
       refine wpList_nil ?_
       exact th_n ⟨m311, Nat.lt_succ_self _, List.set out290 (Int.toNat x292) rank179, true, x292 + 1, E.pick _ ⟨rfl, rfl, rfl, rfl, rfl, rfl, rfl, rfl, trivial⟩, H.sel [0, 1, 2, 3] rfl, hP⟩
      replace E := E_; clear E_
      have h329 : ¬ ((List.getD out290 (Int.toNat x292) 0) < 0) := of_decide_eq_false hb_
      clear hb_; replace hP := ite_f h329 hP
      refine c_false E rfl ?_
      refine wp_skip ?_
      refine bl_n ?_
      refine th_n ?_
      refine wp_region_lit ?_
      obtain ⟨g330, hP⟩ := ask_inv hP
      refine vr tbok 2 [.int .i64 (x292 + 1)] [(6, .slice A32 (List.length r23.1) c33), (8, .slice (some ⟨g39, 0, none⟩) (List.length out290) (Int.toNat (((List.length r23.1) : Nat) : Int))), (9, .slice A177 (List.length won176) c178), (12, .int .i64 rank179), (13, .bool more291), (50, .slice (some ⟨b320, 0, none⟩) (List.length r265) c275), (51, .int .i64 (((List.length r265) : Nat) : Int)), (52, .int .i64 (x292 + 1))] [IntKind.i64.wrap (x292 + 1) = x292 + 1] E (by kernel_rfl) (wrap_in g330) ?_
      clear E; intro a E
      refine wpList_nil ?_
      exact th_n ⟨m311, Nat.lt_succ_self _, out290, more291, x292 + 1, E.pick _ ⟨rfl, rfl, rfl, rfl, rfl, rfl, rfl, rfl, trivial⟩, H.sel [0, 1, 2, 3] rfl, hP⟩
     replace E := E_; clear E_
     have h331 : ¬ ((List.getD r265 (Int.toNat x292) false) = true) := (ne_true_of_eq_false hb_)
     clear hb_; replace hP := ite_f h331 hP
     refine vr tbok 6 [] [(6, .slice A32 (List.length r23.1) c33), (8, .slice (some ⟨g39, 0, none⟩) (List.length out290) (Int.toNat (((List.length r23.1) : Nat) : Int))), (9, .slice A177 (List.length won176) c178), (12, .int .i64 rank179), (13, .bool more291), (14, .int .i64 x292), (50, .slice (some ⟨b320, 0, none⟩) (List.length r265) c275), (51, .int .i64 (((List.length r265) : Nat) : Int)), (52, .int .i64 x292), (64, .bool false)] [] E (by kernel_rfl) trivial ?_
     clear E; intro a E
     refine wpList_nil ?_
     refine th_n ?_
     refine c_false E rfl ?_
     refine wp_skip ?_
     refine bl_n ?_
     refine th_n ?_
     refine wp_region_lit ?_
     obtain ⟨g332, hP⟩ := ask_inv hP
     refine vr tbok 2 [.int .i64 (x292 + 1)] [(6, .slice A32 (List.length r23.1) c33), (8, .slice (some ⟨g39, 0, none⟩) (List.length out290) (Int.toNat (((List.length r23.1) : Nat) : Int))), (9, .slice A177 (List.length won176) c178), (12, .int .i64 rank179), (13, .bool more291), (50, .slice (some ⟨b320, 0, none⟩) (List.length r265) c275), (51, .int .i64 (((List.length r265) : Nat) : Int)), (52, .int .i64 (x292 + 1))] [IntKind.i64.wrap (x292 + 1) = x292 + 1] E (by kernel_rfl) (wrap_in g332) ?_
     clear E; intro a E
     refine wpList_nil ?_
     exact th_n ⟨m311, Nat.lt_succ_self _, out290, more291, x292 + 1, E.pick _ ⟨rfl, rfl, rfl, rfl, rfl, rfl, rfl, rfl, trivial⟩, H.sel [0, 1, 2, 3] rfl, hP⟩
    replace E := E_; clear E_
    have h333 : ¬ (x292 < (((List.length r265) : Nat) : Int)) := of_decide_eq_false hb_
    clear hb_; replace hP := ite_f h333 hP
    refine c_false E rfl ?_
    refine wp_exit ?_
    refine th_exit ?_
    have hx_ := Option.some.inj hP
    refine th_exit (.inl ⟨4, rfl, ?_⟩)
    exact ⟨rfl, (out290, more291), E.pick _ ⟨rfl, rfl, rfl, rfl, rfl, trivial⟩, H.sel [0, 1, 2] rfl, hx_.symm⟩
   clear E H hL313; intro i_ a w315 hM_
   obtain ⟨rfl, x317, E, H, hx_⟩ := hM_
   subst hx_; have hP := hK314; clear hK314
   refine bl_hit ?_
   refine th_n ?_
   refine wp_seq ?_
   refine wp_region_lit ?_
   refine vr tbok 3 [] [(6, .slice A32 (List.length r23.1) c33), (8, .slice (some ⟨g39, 0, none⟩) (List.length x312.1) (Int.toNat (((List.length r23.1) : Nat) : Int))), (9, .slice A177 (List.length won176) c178), (12, .int .i64 rank179), (13, .bool x312.2), (71, .int .i64 (((List.length x312.1) : Nat) : Int)), (72, .int .i64 0)] [] E (by kernel_rfl) trivial ?_
   clear E; intro a E
   refine wpList_nil ?_
   refine th_n ?_
   refine wp_block ?_
   obtain ⟨x361, hL362, hK363⟩ := bind_inv hP
   clear hP
   refine loop_cut (fun i_ a w_ => (i_ = 6 ∧ ∃ (x366 : List Bool), ∃ (A358 : Option Addr) (c359 : Nat), Fr a 85 [(6, .slice A32 (List.length r23.1) c33), (8, .slice (some ⟨g39, 0, none⟩) (List.length x312.1) (Int.toNat (((List.length r23.1) : Nat) : Int))), (9, .slice A358 (List.length x366) c359), (12, .int .i64 rank179), (13, .bool x312.2)] ∧ Hp S Fa w0 w_ [.row true (cSl (cSl (cInt .i64))) 45 A32 c33 r23.1, .rowx true (cInt .i64) 3 (some ⟨g39, 0, none⟩) (Int.toNat (((List.length r23.1) : Nat) : Int)) x312.1 (List.replicate (Int.toNat (((List.length r23.1) : Nat) : Int) - Int.toNat (((List.length r23.1) : Nat) : Int)) (0 : Int)), .row true cBool 4 A358 c359 x366] ∧ x361 = x366)) ?_ ?_
   ·
    refine loopV (fun m365 a w364 => ∃ (won343 : List Bool) (x346 : Int), ∃ (A344 : Option Addr) (c345 : Nat), Fr a 85 [(6, .slice A32 (List.length r23.1) c33), (8, .slice (some ⟨g39, 0, none⟩) (List.length x312.1) (Int.toNat (((List.length r23.1) : Nat) : Int))), (9, .slice A344 (List.length won343) c345), (12, .int .i64 rank179), (13, .bool x312.2), (71, .int .i64 (((List.length x312.1) : Nat) : Int)), (72, .int .i64 x346)] ∧ Hp S Fa w0 w364 [.row true (cSl (cSl (cInt .i64))) 45 A32 c33 r23.1, .rowx true (cInt .i64) 3 (some ⟨g39, 0, none⟩) (Int.toNat (((List.length r23.1) : Nat) : Int)) x312.1 (List.replicate (Int.toNat (((List.length r23.1) : Nat) : Int) - Int.toNat (((List.length r23.1) : Nat) : Int)) (0 : Int)), .row true cBool 4 A344 c345 won343] ∧ attract_Ranks_l3 N x312 m365 won343 x346 = some x361) N ?_ ?_
    ·
     exact ⟨won176, 0, A177, c178, E.pick _ ⟨rfl, rfl, rfl, rfl, rfl, rfl, rfl, trivial⟩, H.sel [0, 1, 2] rfl, hL362⟩
    clear E H hL362; intro m365 a w364 hI_
    obtain ⟨won343, x346, A344, c345, E, H, hP⟩ := hI_
    obtain ⟨m360, rfl⟩ : ∃ q_, m365 = q_ + 1 := by cases m365 with | zero => rw [attract_Ranks_l3] at hP; cases hP | succ q_ => exact ⟨q_, rfl⟩
    rw [attract_Ranks_l3] at hP
    refine wp_seq ?_
    refine wp_region_lit ?_
    refine vr tbok 1 [] [(6, .slice A32 (List.length r23.1) c33), (8, .slice (some ⟨g39, 0, none⟩) (List.length x312.1) (Int.toNat (((List.length r23.1) : Nat) : Int))), (9, .slice A344 (List.length won343) c345), (12, .int .i64 rank179), (13, .bool x312.2), (71, .int .i64 (((List.length x312.1) : Nat) : Int)), (72, .int .i64 x346), (73, .bool (decide (x346 < (((List.length x312.1) : Nat) : Int))))] [] E (by kernel_rfl) trivial ?_
    clear E; intro a E
    refine wpList_nil ?_
    refine th_n ?_
    refine wp_seq ?_
    refine E.cases (t := 73) rfl (fun hb_ E_ => ?_) (fun hb_ E_ => ?_)
    ·
     replace E := E_; clear E_
     have h367 : x346 < (((List.length x312.1) : Nat) : Int) := of_decide_eq_true hb_
     clear hb_; replace hP := ite_t h367 hP
     refine c_true E rfl ?_
     refine wp_skip ?_
     refine th_n ?_
     refine wp_seq ?_
     refine wp_block ?_
     refine wp_seq ?_
     refine wp_region_lit ?_
     refine vr tbok 2 [] [(6, .slice A32 (List.length r23.1) c33), (8, .slice (some ⟨g39, 0, none⟩) (List.length x312.1) (Int.toNat (((List.length r23.1) : Nat) : Int))), (9, .slice A344 (List.length won343) c345), (12, .int .i64 rank179), (13, .bool x312.2), (16, .int .i64 x346), (71, .int .i64 (((List.length x312.1) : Nat) : Int)), (72, .int .i64 x346)] [] E (by kernel_rfl) trivial ?_
     clear E; intro a E
     refine wpList_nil ?_
     refine th_n ?_
     refine wp_region_lit ?_
     obtain ⟨g368, hP⟩ := ask_inv hP
     obtain ⟨g369, hP⟩ := ask_inv hP
     obtain ⟨b370, e_b370⟩ := H.raddr 2 rfl (idx_pos g369)
     subst e_b370
     refine vr tbok 8 [.int .i64 (List.getD x312.1 (Int.toNat x346) 0)] [(6, .slice A32 (List.length r23.1) c33), (8, .slice (some ⟨g39, 0, none⟩) (List.length x312.1) (Int.toNat (((List.length r23.1) : Nat) : Int))), (9, .slice (some ⟨b370, 0, none⟩) (List.length won343) c345), (12, .int .i64 rank179), (13, .bool x312.2), (71, .int .i64 (((List.length x312.1) : Nat) : Int)), (72, .int .i64 x346), (81, .bool (decide (0 ≤ (List.getD x312.1 (Int.toNat x346) 0)))), (82, .pointer (some ⟨b370, 0 + (Int.toNat x346) * 1, none⟩))] [0 ≤ x346 ∧ x346 < (((List.length x312.1) : Nat) : Int), World.cell? w364 ⟨g39, 0 + (Int.toNat x346) * 1, none⟩ = some (.int .i64 (List.getD x312.1 (Int.toNat x346) 0)), 0 ≤ x346 ∧ x346 < (((List.length won343) : Nat) : Int)] E (by kernel_rfl) ⟨g368, Rds.at1 (H.rd 1 rds_rowx) 0 g368, g369⟩ ?_
     clear E; intro a E
     refine h_set (g := b370) (i := x346) (decide (0 ≤ (List.getD x312.1 (Int.toNat x346) 0))) H 2 rfl E rfl rfl rfl rfl tbok rfl (fun _ HF_ => rfl) rfl g369 rfl ?_
     clear E; intro w372 a hc373 H_ E
     replace H := H_; clear H_; try dsimp only [setn, addE, goneL] at H
     have hn374 : (List.length won343) = (List.length (List.set won343 (Int.toNat x346) (decide (0 ≤ (List.getD x312.1 (Int.toNat x346) 0))))) := by simp only [List.length_set]
     replace E := E.same (t := 9) (u := .slice (some ⟨b370, 0, none⟩) (List.length (List.set won343 (Int.toNat x346) (decide (0 ≤ (List.getD x312.1 (Int.toNat x346) 0))))) c345) rfl (congrArg (fun n_ => Value.slice (some ⟨b370, 0, none⟩) n_ c345) hn374)
     refine wpList_nil ?_
     refine bl_n ?_
     refine th_n ?_
     refine wp_region_lit ?_
     obtain ⟨g375, hP⟩ := ask_inv hP
     refine vr tbok 2 [.int .i64 (x346 + 1)] [(6, .slice A32 (List.length r23.1) c33), (8, .slice (some ⟨g39, 0, none⟩) (List.length x312.1) (Int.toNat (((List.length r23.1) : Nat) : Int))), (9, .slice (some ⟨b370, 0, none⟩) (List.length (List.set won343 (Int.toNat x346) (decide (0 ≤ (List.getD x312.1 (Int.toNat x346) 0))))) c345), (12, .int .i64 rank179), (13, .bool x312.2), (71, .int .i64 (((List.length x312.1) : Nat) : Int)), (72, .int .i64 (x346 + 1))] [IntKind.i64.wrap (x346 + 1) = x346 + 1] E (by kernel_rfl) (wrap_in g375) ?_
     clear E; intro a E
     refine wpList_nil ?_
     exact th_n ⟨m360, Nat.lt_succ_self _, List.set won343 (Int.toNat x346) (decide (0 ≤ (List.getD x312.1 (Int.toNat x346) 0))), x346 + 1, (some ⟨b370, 0, none⟩), c345, E.pick _ ⟨rfl, rfl, rfl, rfl, rfl, rfl, rfl, trivial⟩, H.sel [0, 1, 2] rfl, hP⟩
    replace E := E_; clear E_
    have h376 : ¬ (x346 < (((List.length x312.1) : Nat) : Int)) := of_decide_eq_false hb_
    clear hb_; replace hP := ite_f h376 hP
    refine c_false E rfl ?_
    refine wp_exit ?_
    refine th_exit ?_
    have hx_ := Option.some.inj hP
    refine th_exit (.inl ⟨6, rfl, ?_⟩)
    exact ⟨rfl, won343, A344, c345, E.pick _ ⟨rfl, rfl, rfl, rfl, rfl, trivial⟩, H.sel [0, 1, 2] rfl, hx_.symm⟩
   clear E H hL362; intro i_ a w364 hM_
   obtain ⟨rfl, x366, A358, c359, E, H, hx_⟩ := hM_
   subst hx_; have hP := hK363; clear hK363
   refine bl_hit ?_
   refine bl_n ?_
   refine th_n ?_
   refine wp_region_lit ?_
   obtain ⟨g377, hP⟩ := ask_inv hP
   refine vr tbok 3 [.int .i64 (rank179 + 1)] [(6, .slice A32 (List.length r23.1) c33), (8, .slice (some ⟨g39, 0, none⟩) (List.length x312.1) (Int.toNat (((List.length r23.1) : Nat) : Int))), (9, .slice A358 (List.length x361) c359), (12, .int .i64 (rank179 + 1)), (13, .bool x312.2)] [IntKind.i64.wrap (rank179 + 1) = rank179 + 1] E (by kernel_rfl) (wrap_in g377) ?_
   clear E; intro a E
   refine wpList_nil ?_
   exact th_n ⟨m257, Nat.lt_succ_self _, x312.1, x361, rank179 + 1, x312.2, A358, c359, E.pick _ ⟨rfl, rfl, rfl, rfl, rfl, trivial⟩, H.sel [0, 1, 2] rfl, hP⟩
  replace E := E_; clear E_
  have h378 : ¬ (more180 = true) := (ne_true_of_eq_false hb_)
  clear hb_; replace hP := ite_f h378 hP
  refine c_false E rfl ?_
  refine wp_exit ?_
  refine th_exit ?_
  have hx_ := Option.some.inj hP
  refine th_exit (.inl ⟨2, rfl, ?_⟩)
  exact ⟨rfl, out175, E.pick _ ⟨rfl, trivial⟩, H.sel [1] rfl, hx_.symm⟩
 clear E H hL259; intro i_ a w261 hM_
 obtain ⟨rfl, x263, E, H, hx_⟩ := hM_
 subst hx_; have hP := hK260; clear hK260
 refine bl_hit ?_
 refine th_n ?_
 refine wp_seq ?_
 refine wp_region_lit ?_
 refine vr tbok 3 [] [(4, .slice (some ⟨g39, 0, none⟩) (List.length x258) (Int.toNat (((List.length r23.1) : Nat) : Int))), (5, .int .i64 0)] [] E (by kernel_rfl) trivial ?_
 clear E; intro a E
 refine wpList_nil ?_
 refine th_n ?_
 refine wp_ret ?_
 replace H := H.rowx 0 rfl; try dsimp only [setn, addE, goneL] at H
 obtain rfl := Option.some.inj hP
 refine ret2 E rfl rfl rfl ?_
 exact ⟨_, rfl, (some ⟨g39, 0, none⟩), (Int.toNat (((List.length r23.1) : Nat) : Int)), rfl, H.sel [0] rfl⟩

/-! (*rejoinder/moore.game).choice -/
def moore_game_choice_l0 (N : Nat) (g : (Int × (List Bool) × (List Int) × (List Nd)) × (Int × Int) × (List Int) × (List Int)) (ranks : List Int) (q : Int) : Nat → Int → Int → Option Int
  | 0, _, _ => none
  | m114 + 1, best91, x92 =>
    if x92 < (((List.length g.2.2.1) : Nat) : Int) then
      ask (idx x92 (List.length g.2.2.1)) <|
      Option.bind (moore_game_worst N g ranks q (List.getD g.2.2.1 (Int.toNat x92) 0)) fun r125 =>
      if 0 ≤ r125 then
        ask (in64 (x92 + 1)) <|
        moore_game_choice_l0 N g ranks q m114 (minL best91 [r125]) (x92 + 1)
      else
        ask (in64 (x92 + 1)) <|
        moore_game_choice_l0 N g ranks q m114 best91 (x92 + 1)
    else
      some best91
def moore_game_choice_f3 (N : Nat) (g : (Int × (List Bool) × (List Int) × (List Nd)) × (Int × Int) × (List Int) × (List Int)) (ranks : List Int) (q : Int) (x115 : Int) (x323 : Int) : Option Bool :=
    Option.bind (moore_game_worst N g ranks q (List.getD g.2.2.1 (Int.toNat x323) 0)) fun r390 =>
    some ((r390 : Int) == x115)
def moore_game_choice_l2 (N : Nat) (g : (Int × (List Bool) × (List Int) × (List Nd)) × (Int × Int) × (List Int) × (List Int)) (ranks : List Int) (q : Int) (x115 : Int) : Nat → Int → Option (Unit ⊕ Int)
  | 0, _ => none
  | m355 + 1, x323 =>
    if x323 < (((List.length g.2.2.1) : Nat) : Int) then
      ask (idx x323 (List.length g.2.2.1)) <|
      Option.bind (moore_game_choice_f3 N g ranks q x115 x323) fun x387 =>
      if x387 = true then
        some (Sum.inr x323)
      else
        ask (in64 (x323 + 1)) <|
        moore_game_choice_l2 N g ranks q x115 m355 (x323 + 1)
    else
      some (Sum.inl ())
def moore_game_choice_f1 (N : Nat) (g : (Int × (List Bool) × (List Int) × (List Nd)) × (Int × Int) × (List Int) × (List Int)) (ranks : List Int) (q : Int) (x115 : Int) : Option Int :=
    Option.bind (moore_game_choice_l2 N g ranks q x115 N 0) fun x356 =>
    Sum.elim (fun x361 =>
      some (-1))
     (fun x416 =>
      some x416) x356
def moore_game_choice (N : Nat) (g : (Int × (List Bool) × (List Int) × (List Nd)) × (Int × Int) × (List Int) × (List Int)) (ranks : List Int) (q : Int) : Option Int :=
  Option.bind (moore_game_choice_l0 N g ranks q N (((List.length ranks) : Nat) : Int) 0) fun x115 =>
  Option.bind (moore_game_choice_f1 N g ranks q x115) fun x290 =>
  ask (idx x290 (List.length g.2.2.1)) <|
  some (List.getD g.2.2.1 (Int.toNat x290) 0)
set_option maxRecDepth 100000 in
set_option maxHeartbeats 4000000 in
theorem moore_game_choice_calls {N : Nat} {S Fa : Nat → Prop} {w0 : World} {r : Int} (b1 : Nat) (o2 : Nat) (A4 : Option Addr) (c5 : Nat) (g : (Int × (List Bool) × (List Int) × (List Nd)) × (Int × Int) × (List Int) × (List Int)) (ranks : List Int) (q : Int) (hk6 : List.length ranks ≤ c5) (H : Hp S Fa w0 w0 [.ro false cS87 (some ⟨b1, o2, none⟩) ([g]), .ro false (cInt .i64) A4 ranks]) (hP : moore_game_choice N g ranks q = some r) :
    Calls Try.prog 36 #[.pointer (some ⟨b1, o2, none⟩), .slice A4 (List.length ranks) c5, .int .i64 q] w0 fun e w' => ∃ v, e = .returned v ∧ v = .int .u8 r ∧ Hp S Fa w0 w' [] := by
 refine enterV (n := 45) Try.func36 rfl rfl rfl ?_
 intro a E
 replace E := E.pick [(0, .pointer (some ⟨b1, o2, none⟩)), (1, .slice A4 (List.length ranks) c5), (2, .int .i64 q)] ⟨rfl, rfl, rfl, trivial⟩
 rw [moore_game_choice] at hP
 refine wp_seq ?_
 refine wp_region_lit ?_
 refine h_box H E rfl rfl rfl ?_
 intro w9 g8 a hc10 hg12 H_ E_
 replace E := E_ _ rfl; clear E_
 replace H := H_; clear H_; try dsimp only [setn, addE, goneL] at H
 refine h_box H E rfl rfl rfl ?_
 intro w14 g13 a hc15 hg17 H_ E_
 replace E := E_ _ rfl; clear E_
 replace H := H_; clear H_; try dsimp only [setn, addE, goneL] at H
 refine h_box H E rfl rfl rfl ?_
 intro w19 g18 a hc20 hg22 H_ E_
 replace E := E_ _ rfl; clear E_
 replace H := H_; clear H_; try dsimp only [setn, addE, goneL] at H
 refine vr tbok 1 [] [(3, .pointer (some ⟨g8, 0, none⟩)), (4, .pointer (some ⟨g13, 0, none⟩)), (5, .pointer (some ⟨g18, 0, none⟩))] [] E (by kernel_rfl) trivial ?_
 clear E; intro a E
 refine wpList_nil ?_
 refine th_n ?_
 refine wp_seq ?_
 refine wp_region_lit ?_
 refine vr tbok 2 [.slice A4 (List.length ranks) c5] [(3, .pointer (some ⟨g8, 0, none⟩)), (4, .pointer (some ⟨g13, 0, none⟩)), (5, .pointer (some ⟨g18, 0, none⟩)), (12, .int .i64 (((List.length ranks) : Nat) : Int))] [World.cell? w19 ⟨g13, 0, none⟩ = some (.slice A4 (List.length ranks) c5)] E (by kernel_rfl) ((H.box 3 rfl).cell (j := 0) rfl) ?_
 clear E; intro a E
 refine h_alloc H E rfl rfl tbok rfl ?_
 intro w24 g23 a hc25 hg27 H_ E_
 replace E := E_ _ rfl; clear E_
 replace H := H_; clear H_; try dsimp only [setn, addE, goneL] at H
 refine h_store (g := g23) (off := 0) H 5 rfl E rfl rfl rfl rfl tbok rfl rfl rfl rfl rfl ?_
 clear E; intro w28 a hc29 H_ E
 replace H := H_; clear H_; try dsimp only [setn, addE, goneL] at H
 refine wpList_nil ?_
 refine th_n ?_
 refine wp_seq ?_
 refine wp_seq ?_
 refine wp_region_lit ?_
 obtain ⟨Fz30, cs32, HF31, hK33, hc34⟩ := H.elem 0 false (el_ro rfl) g (idx_one _)
 obtain ⟨_, _, rfl, hK35, hK36⟩ := hK33
 obtain ⟨_, _, rfl, hK37, hK38⟩ := hK35
 obtain rfl := hK37
 obtain ⟨_, _, rfl, hK39, hK40⟩ := hK38
 obtain ⟨A41, c42, rfl, hk43, hC44⟩ := hK39
 obtain ⟨_, _, rfl, hK46, hK47⟩ := hK40
 obtain ⟨A48, c49, rfl, hk50, hC51⟩ := hK46
 obtain ⟨A53, c54, rfl, hk55, hC56⟩ := hK47
 obtain ⟨_, _, rfl, hK58, hK59⟩ := hK36
 obtain rfl := hK58
 obtain ⟨_, _, rfl, hK60, hK61⟩ := hK59
 obtain ⟨A62, c63, rfl, hk64, hC65⟩ := hK60
 obtain ⟨A67, c68, rfl, hk69, hC70⟩ := hK61
 replace HF31 := HF31.ins hC44
 replace HF31 := HF31.ins hC51
 replace HF31 := HF31.ins hC56
 replace HF31 := HF31.ins hC65
 replace HF31 := HF31.ins hC70
 replace H := HF31.hp; try dsimp only [addE] at H
 have hc72 : cellsAt w28 b1 (o2) [.int .i64 g.1.1, .slice A41 (List.length g.1.2.1) c42, .slice A48 (List.length g.1.2.2.1) c49, .slice A53 (List.length g.1.2.2.2) c54, .int .u8 g.2.1.1, .int .u8 g.2.1.2, .slice A62 (List.length g.2.2.1) c63, .slice A67 (List.length g.2.2.2) c68] := hc34
 refine vr tbok 6 [.pointer (some ⟨b1, o2, none⟩), .slice A62 (List.length g.2.2.1) c63] [(3, .pointer (some ⟨g8, 0, none⟩)), (4, .pointer (some ⟨g13, 0, none⟩)), (5, .pointer (some ⟨g18, 0, none⟩)), (7, .pointer (some ⟨g23, 0, none⟩)), (16, .slice A62 (List.length g.2.2.1) c63), (17, .int .i64 (((List.length g.2.2.1) : Nat) : Int)), (18, .int .i64 0)] [World.cell? w28 ⟨g8, 0, none⟩ = some (.pointer (some ⟨b1, o2, none⟩)), World.cell? w28 ⟨b1, o2 + 6, none⟩ = some (.slice A62 (List.length g.2.2.1) c63)] E (by kernel_rfl) ⟨(H.box 2 rfl).cell (j := 0) rfl, hc72.get 6 _ rfl⟩ ?_
 clear E; intro a E
 refine wpList_nil ?_
 refine th_n ?_
 refine wp_block ?_
 obtain ⟨x115, hL116, hK117⟩ := bind_inv hP
 clear hP
 refine loop_cut (fun i_ a w_ => (i_ = 0 ∧ ∃ (x120 : Int), Fr a 45 [(3, .pointer (some ⟨g8, 0, none⟩)), (4, .pointer (some ⟨g13, 0, none⟩)), (5, .pointer (some ⟨g18, 0, none⟩)), (7, .pointer (some ⟨g23, 0, none⟩))] ∧ Hp S Fa w0 w_ [.ro false cS87 (some ⟨b1, o2, none⟩) ([g]), .box g8 62 [.pointer (some ⟨b1, o2, none⟩)], .ro false (cInt .i64) A4 ranks, .box g13 23 [.slice A4 (List.length ranks) c5], .box g18 3 [.int .i64 q], .box g23 3 [.int .i64 x120]] ∧ x115 = x120)) ?_ ?_
 ·
  refine loopV (fun m119 a w118 => ∃ (best91 : Int) (x92 : Int), Fr a 45 [(3, .pointer (some ⟨g8, 0, none⟩)), (4, .pointer (some ⟨g13, 0, none⟩)), (5, .pointer (some ⟨g18, 0, none⟩)), (7, .pointer (some ⟨g23, 0, none⟩)), (16, .slice A62 (List.length g.2.2.1) c63), (17, .int .i64 (((List.length g.2.2.1) : Nat) : Int)), (18, .int .i64 x92)] ∧ Hp S Fa w0 w118 [.ro false cS87 (some ⟨b1, o2, none⟩) ([g]), .box g8 62 [.pointer (some ⟨b1, o2, none⟩)], .ro false (cInt .i64) A4 ranks, .box g13 23 [.slice A4 (List.length ranks) c5], .box g18 3 [.int .i64 q], .box g23 3 [.int .i64 best91], .ro false (cInt .u8) A62 g.2.2.1] ∧ moore_game_choice_l0 N g ranks q m119 best91 x92 = some x115) N ?_ ?_
  ·
   exact ⟨(((List.length ranks) : Nat) : Int), 0, E.pick _ ⟨rfl, rfl, rfl, rfl, rfl, rfl, rfl, trivial⟩, H.sel [0, 2, 1, 3, 4, 5, 9] rfl, hL116⟩
  clear E H hL116; intro m119 a w118 hI_
  obtain ⟨best91, x92, E, H, hP⟩ := hI_
  obtain ⟨m114, rfl⟩ : ∃ q_, m119 = q_ + 1 := by cases m119 with | zero => rw [moore_game_choice_l0] at hP; cases hP | succ q_ => exact ⟨q_, rfl⟩
  rw [moore_game_choice_l0] at hP
  refine wp_seq ?_
  refine wp_region_lit ?_
  refine vr tbok 1 [] [(3, .pointer (some ⟨g8, 0, none⟩)), (4, .pointer (some ⟨g13, 0, none⟩)), (5, .pointer (some ⟨g18, 0, none⟩)), (7, .pointer (some ⟨g23, 0, none⟩)), (16, .slice A62 (List.length g.2.2.1) c63), (17, .int .i64 (((List.length g.2.2.1) : Nat) : Int)), (18, .int .i64 x92), (19, .bool (decide (x92 < (((List.length g.2.2.1) : Nat) : Int))))] [] E (by kernel_rfl) trivial ?_
  clear E; intro a E
  refine wpList_nil ?_
  refine th_n ?_
  refine wp_seq ?_
  refine E.cases (t := 19) rfl (fun hb_ E_ => ?_) (fun hb_ E_ => ?_)
  ·
   replace E := E_; clear E_
   have h121 : x92 < (((List.length g.2.2.1) : Nat) : Int) := of_decide_eq_true hb_
   clear hb_; replace hP := ite_t h121 hP
   refine c_true E rfl ?_
   refine wp_skip ?_
   refine th_n ?_
   refine wp_seq ?_
   refine wp_block ?_
   refine wp_seq ?_
   refine wp_region_lit ?_
   obtain ⟨g122, hP⟩ := ask_inv hP
   obtain ⟨b123, o124, e_b123⟩ := (H.rd 6 rds_ro).addr (idx_pos g122)
   subst e_b123
   refine vr tbok 3 [.int .u8 (List.getD g.2.2.1 (Int.toNat x92) 0)] [(3, .pointer (some ⟨g8, 0, none⟩)), (4, .pointer (some ⟨g13, 0, none⟩)), (5, .pointer (some ⟨g18, 0, none⟩)), (7, .pointer (some ⟨g23, 0, none⟩)), (9, .int .u8 (List.getD g.2.2.1 (Int.toNat x92) 0)), (16, .slice (some ⟨b123, o124, none⟩) (List.length g.2.2.1) c63), (17, .int .i64 (((List.length g.2.2.1) : Nat) : Int)), (18, .int .i64 x92)] [0 ≤ x92 ∧ x92 < (((List.length g.2.2.1) : Nat) : Int), World.cell? w118 ⟨b123, o124 + (Int.toNat x92) * 1, none⟩ = some (.int .u8 (List.getD g.2.2.1 (Int.toNat x92) 0))] E (by kernel_rfl) ⟨g122, Rds.at1 (H.rd 6 rds_ro) 0 g122⟩ ?_
   clear E; intro a E
   refine wpList_nil ?_
   refine th_n ?_
   refine wp_seq ?_
   refine wp_region_lit ?_
   refine vr tbok 4 [.pointer (some ⟨b1, o2, none⟩), .slice A4 (List.length ranks) c5, .int .i64 q] [(3, .pointer (some ⟨g8, 0, none⟩)), (4, .pointer (some ⟨g13, 0, none⟩)), (5, .pointer (some ⟨g18, 0, none⟩)), (7, .pointer (some ⟨g23, 0, none⟩)), (16, .slice (some ⟨b123, o124, none⟩) (List.length g.2.2.1) c63), (17, .int .i64 (((List.length g.2.2.1) : Nat) : Int)), (18, .int .i64 x92), (22, .pointer (some ⟨b1, o2, none⟩)), (23, .slice A4 (List.length ranks) c5), (24, .int .i64 q), (25, .int .u8 (List.getD g.2.2.1 (Int.toNat x92) 0))] [World.cell? w118 ⟨g8, 0, none⟩ = some (.pointer (some ⟨b1, o2, none⟩)), World.cell? w118 ⟨g13, 0, none⟩ = some (.slice A4 (List.length ranks) c5), World.cell? w118 ⟨g18, 0, none⟩ = some (.int .i64 q)] E (by kernel_rfl) ⟨(H.box 1 rfl).cell (j := 0) rfl, (H.box 3 rfl).cell (j := 0) rfl, (H.box 4 rfl).cell (j := 0) rfl⟩ ?_
   clear E; intro a E
   obtain ⟨r125, h126, hP⟩ := bind_inv hP
   obtain ⟨Fa127, Hc128, hb129⟩ := H.call [] [(0, false), (2, false)] rfl rfl trivial
   refine e_call E rfl rfl Try.func60 rfl rfl rfl (moore_game_worst_calls b1 o2 A4 c5 g ranks q (List.getD g.2.2.1 (Int.toNat x92) 0) hk6 Hc128 h126) ?_
   rintro v130 w131 a ⟨rfl, HR132⟩ E_
   replace E := E_ _ rfl; clear E_
   obtain ⟨H_, hc133⟩ := hb129 _ _ HR132 rfl
   replace H := H_; clear H_; try dsimp only [setn, addE, goneL] at H
   refine vr tbok 1 [] [(3, .pointer (some ⟨g8, 0, none⟩)), (4, .pointer (some ⟨g13, 0, none⟩)), (5, .pointer (some ⟨g18, 0, none⟩)), (7, .pointer (some ⟨g23, 0, none⟩)), (10, .int .i64 r125), (16, .slice (some ⟨b123, o124, none⟩) (List.length g.2.2.1) c63), (17, .int .i64 (((List.length g.2.2.1) : Nat) : Int)), (18, .int .i64 x92)] [] E (by kernel_rfl) trivial ?_
   clear E; intro a E
   refine wpList_nil ?_
   refine th_n ?_
   refine wp_seq ?_
   refine wp_region_lit ?_
   refine vr tbok 2 [] [(3, .pointer (some ⟨g8, 0, none⟩)), (4, .pointer (some ⟨g13, 0, none⟩)), (5, .pointer (some ⟨g18, 0, none⟩)), (7, .pointer (some ⟨g23, 0, none⟩)), (10, .int .i64 r125), (16, .slice (some ⟨b123, o124, none⟩) (List.length g.2.2.1) c63), (17, .int .i64 (((List.length g.2.2.1) : Nat) : Int)), (18, .int .i64 x92), (28, .bool (decide (0 ≤ r125)))] [] E (by kernel_rfl) trivial ?_
   clear E; intro a E
   refine wpList_nil ?_
   refine th_n ?_
   refine E.cases (t := 28) rfl (fun hb_ E_ => ?_) (fun hb_ E_ => ?_)
   ·
    replace E := E_; clear E_
    have h134 : 0 ≤ r125 := of_decide_eq_true hb_
    clear hb_; replace hP := ite_t h134 hP
    refine c_true E rfl ?_
    refine wp_region_lit ?_
    refine vr tbok 2 [.int .i64 best91] [(3, .pointer (some ⟨g8, 0, none⟩)), (4, .pointer (some ⟨g13, 0, none⟩)), (5, .pointer (some ⟨g18, 0, none⟩)), (7, .pointer (some ⟨g23, 0, none⟩)), (16, .slice (some ⟨b123, o124, none⟩) (List.length g.2.2.1) c63), (17, .int .i64 (((List.length g.2.2.1) : Nat) : Int)), (18, .int .i64 x92), (29, .int .i64 best91), (30, .int .i64 r125)] [World.cell? w131 ⟨g23, 0, none⟩ = some (.int .i64 best91)] E (by kernel_rfl) ((H.box 5 rfl).cell (j := 0) rfl) ?_
    clear E; intro a E
    refine e_min (x := best91) (xs := [r125]) E rfl rfl rfl rfl ?_
    clear E; intro a E
    refine h_store (g := g23) (off := 0) H 5 rfl E rfl rfl rfl rfl tbok rfl rfl rfl rfl rfl ?_
    clear E; intro w135 a hc136 H_ E
    replace H := H_; clear H_; try dsimp only [setn, addE, goneL] at H
    refine wpList_nil ?_
    refine bl_n ?_
    refine th_n ?_
    refine wp_region_lit ?_
    obtain ⟨g137, hP⟩ := ask_inv hP
    refine vr tbok 2 [.int .i64 (x92 + 1)] [(3, .pointer (some ⟨g8, 0, none⟩)), (4, .pointer (some ⟨g13, 0, none⟩)), (5, .pointer (some ⟨g18, 0, none⟩)), (7, .pointer (some ⟨g23, 0, none⟩)), (16, .slice (some ⟨b123, o124, none⟩) (List.length g.2.2.1) c63), (17, .int .i64 (((List.length g.2.2.1) : Nat) : Int)), (18, .int .i64 (x92 + 1))] [IntKind.i64.wrap (x92 + 1) = x92 + 1] E (by kernel_rfl) (wrap_in g137) ?_
    clear E; intro a E
    refine wpList_nil ?_
    exact th_n ⟨m114, Nat.lt_succ_self _, (minL best91 [r125]), x92 + 1, E.pick _ ⟨rfl, rfl, rfl, rfl, rfl, rfl, rfl, trivial⟩, H.sel [0, 1, 2, 3, 4, 5, 6] rfl, hP⟩
   replace E := E_; clear E_
   have h138 : ¬ (0 ≤ r125) := of_decide_eq_false hb_
   clear hb_; replace hP := ite_f h138 hP
   refine c_false E rfl ?_
   refine wp_skip ?_
   refine bl_n ?_
   refine th_n ?_
   refine wp_region_lit ?_
   obtain ⟨g139, hP⟩ := ask_inv hP
   refine vr tbok 2 [.int .i64 (x92 + 1)] [(3, .pointer (some ⟨g8, 0, none⟩)), (4, .pointer (some ⟨g13, 0, none⟩)), (5, .pointer (some ⟨g18, 0, none⟩)), (7, .pointer (some ⟨g23, 0, none⟩)), (16, .slice (some ⟨b123, o124, none⟩) (List.length g.2.2.1) c63), (17, .int .i64 (((List.length g.2.2.1) : Nat) : Int)), (18, .int .i64 (x92 + 1))] [IntKind.i64.wrap (x92 + 1) = x92 + 1] E (by kernel_rfl) (wrap_in g139) ?_
   clear E; intro a E
   refine wpList_nil ?_
   exact th_n ⟨m114, Nat.lt_succ_self _, best91, x92 + 1, E.pick _ ⟨rfl, rfl, rfl, rfl, rfl, rfl, rfl, trivial⟩, H.sel [0, 1, 2, 3, 4, 5, 6] rfl, hP⟩
  replace E := E_; clear E_
  have h140 : ¬ (x92 < (((List.length g.2.2.1) : Nat) : Int)) := of_decide_eq_false hb_
  clear hb_; replace hP := ite_f h140 hP
  refine c_false E rfl ?_
  refine wp_exit ?_
  refine th_exit ?_
  have hx_ := Option.some.inj hP
  refine th_exit (.inl ⟨0, rfl, ?_⟩)
  exact ⟨rfl, best91, E.pick _ ⟨rfl, rfl, rfl, rfl, trivial⟩, H.sel [0, 1, 2, 3, 4, 5] rfl, hx_.symm⟩
 clear E H hL116; intro i_ a w118 hM_
 obtain ⟨rfl, x120, E, H, hx_⟩ := hM_
 subst hx_; have hP := hK117; clear hK117
 refine bl_hit ?_
 refine th_n ?_
 refine wp_seq ?_
 obtain ⟨Fz141, cs143, HF142, hK144, hc145⟩ := H.elem 0 false (el_ro rfl) g (idx_one _)
 obtain ⟨_, _, rfl, hK146, hK147⟩ := hK144
 obtain ⟨_, _, rfl, hK148, hK149⟩ := hK146
 obtain rfl := hK148
 obtain ⟨_, _, rfl, hK150, hK151⟩ := hK149
 obtain ⟨A152, c153, rfl, hk154, hC155⟩ := hK150
 obtain ⟨_, _, rfl, hK157, hK158⟩ := hK151
 obtain ⟨A159, c160, rfl, hk161, hC162⟩ := hK157
 obtain ⟨A164, c165, rfl, hk166, hC167⟩ := hK158
 obtain ⟨_, _, rfl, hK169, hK170⟩ := hK147
 obtain rfl := hK169
 obtain ⟨_, _, rfl, hK171, hK172⟩ := hK170
 obtain ⟨A173, c174, rfl, hk175, hC176⟩ := hK171
 obtain ⟨A178, c179, rfl, hk180, hC181⟩ := hK172
 replace HF142 := HF142.ins hC155
 replace HF142 := HF142.ins hC162
 replace HF142 := HF142.ins hC167
 replace HF142 := HF142.ins hC176
 replace HF142 := HF142.ins hC181
 replace H := HF142.hp; try dsimp only [addE] at H
 have hc183 : cellsAt w118 b1 (o2) [.int .i64 g.1.1, .slice A152 (List.length g.1.2.1) c153, .slice A159 (List.length g.1.2.2.1) c160, .slice A164 (List.length g.1.2.2.2) c165, .int .u8 g.2.1.1, .int .u8 g.2.1.2, .slice A173 (List.length g.2.2.1) c174, .slice A178 (List.length g.2.2.2) c179] := hc145
 obtain ⟨Fz184, cs186, HF185, hK187, hc188⟩ := H.elem 0 false (el_ro rfl) g (idx_one _)
 obtain ⟨_, _, rfl, hK189, hK190⟩ := hK187
 obtain ⟨_, _, rfl, hK191, hK192⟩ := hK189
 obtain rfl := hK191
 obtain ⟨_, _, rfl, hK193, hK194⟩ := hK192
 obtain ⟨A195, c196, rfl, hk197, hC198⟩ := hK193
 obtain ⟨_, _, rfl, hK200, hK201⟩ := hK194
 obtain ⟨A202, c203, rfl, hk204, hC205⟩ := hK200
 obtain ⟨A207, c208, rfl, hk209, hC210⟩ := hK201
 obtain ⟨_, _, rfl, hK212, hK213⟩ := hK190
 obtain rfl := hK212
 obtain ⟨_, _, rfl, hK214, hK215⟩ := hK213
 obtain ⟨A216, c217, rfl, hk218, hC219⟩ := hK214
 obtain ⟨A221, c222, rfl, hk223, hC224⟩ := hK215
 replace HF185 := HF185.ins hC198
 replace HF185 := HF185.ins hC205
 replace HF185 := HF185.ins hC210
 replace HF185 := HF185.ins hC219
 replace HF185 := HF185.ins hC224
 replace H := HF185.hp; try dsimp only [addE] at H
 have hc226 : cellsAt w118 b1 (o2) [.int .i64 g.1.1, .slice A195 (List.length g.1.2.1) c196, .slice A202 (List.length g.1.2.2.1) c203, .slice A207 (List.length g.1.2.2.2) c208, .int .u8 g.2.1.1, .int .u8 g.2.1.2, .slice A216 (List.length g.2.2.1) c217, .slice A221 (List.length g.2.2.2) c222] := hc188
 obtain ⟨x290, h291, hP⟩ := bind_inv hP
 obtain ⟨g419, hP⟩ := ask_inv hP
 obtain ⟨b420, o421, e_b420⟩ := (H.rd 9 rds_ro).addr (idx_pos g419)
 subst e_b420
 have HR425 := H
 refine dr_start (S := fun w_ => Chg (atL []) w118 w_) (by kernel_rfl) ?_
 intro w422 hc423
 have HS424 : Chg (atL []) w118 w422 := hc423.mono (fun _ _ h_ => h_.elim)
 replace H := H.ext hc423
 refine dr tbok (by kernel_rfl) [0, 1, 2, 3, 4, 5, 6, 7] [.pointer (some ⟨b1, o2, none⟩), .slice (some ⟨b420, o421, none⟩) (List.length g.2.2.1) c174, .pointer (some ⟨b1, o2, none⟩), .slice A216 (List.length g.2.2.1) c217] [(3, .pointer (some ⟨g8, 0, none⟩)), (4, .pointer (some ⟨g13, 0, none⟩)), (5, .pointer (some ⟨g18, 0, none⟩)), (7, .pointer (some ⟨g23, 0, none⟩)), (36, .slice (some ⟨b420, o421, none⟩) (List.length g.2.2.1) c174), (40, .slice A216 (List.length g.2.2.1) c217)] (fun w_ => [World.cell? w_ ⟨g8, 0, none⟩ = some (.pointer (some ⟨b1, o2, none⟩)), World.cell? w_ ⟨b1, o2 + 6, none⟩ = some (.slice (some ⟨b420, o421, none⟩) (List.length g.2.2.1) c174), World.cell? w_ ⟨g8, 0, none⟩ = some (.pointer (some ⟨b1, o2, none⟩)), World.cell? w_ ⟨b1, o2 + 6, none⟩ = some (.slice A216 (List.length g.2.2.1) c217)]) 5 E (fun _ _ => by kernel_rfl) (fun w_ hS_ => ⟨(HR425.boxk [] hS_ 1 rfl rfl).cell (j := 0) rfl, hS_.cell (hc183.get 6 _ rfl) (HR425.blk [] 0 rds_ro (idx_pos (idx_one _)) rfl), (HR425.boxk [] hS_ 1 rfl rfl).cell (j := 0) rfl, hS_.cell (hc226.get 6 _ rfl) (HR425.blk [] 0 rds_ro (idx_pos (idx_one _)) rfl)⟩) (by kernel_rfl) HS424 ?_
 clear E; intro a E
 refine wpAnyH_all (rs := [8]) (by kernel_rfl) (by simp) ?_
 refine all1 ?_
 refine wpOp_of_list rfl ?_
 refine e_makeFunc (vs := [.pointer (some ⟨g8, 0, none⟩), .pointer (some ⟨g13, 0, none⟩), .pointer (some ⟨g18, 0, none⟩), .pointer (some ⟨g23, 0, none⟩)]) E rfl rfl rfl rfl ?_
 clear E; intro a E
 refine wpList_nil ?_
 refine th_n ⟨HS424, ?_⟩
 refine wpAnyH_all (rs := [9]) (by kernel_rfl) (by simp) ?_
 refine all1 ?_
 refine wpOp_of_list rfl ?_
 refine e_call (R := fun v_ w_ => ∃ (x489 : Int), v_ = .int .i64 x489 ∧ Hp S Fa w0 w_ [.ro false cS87 (some ⟨b1, o2, none⟩) ([g]), .box g8 62 [.pointer (some ⟨b1, o2, none⟩)], .ro false (cInt .i64) A4 ranks, .box g13 23 [.slice A4 (List.length ranks) c5], .box g18 3 [.int .i64 q], .box g23 3 [.int .i64 x115], .ro false (cInt .u8) (some ⟨b420, o421, none⟩) g.2.2.1, .ro false (cInt .u8) A216 g.2.2.1] ∧ Chg (atL []) w118 w_ ∧ x290 = x489) E rfl rfl Try.func58 rfl rfl rfl ?_ ?_
 ·
  clear E hP; have hP := h291; clear h291; rw [moore_game_choice_f1] at hP
  refine enterV (n := 19) Try.func58 rfl rfl rfl ?_
  intro a E
  replace E := E.pick [(0, .slice A216 (List.length g.2.2.1) c217), (1, .func (.func 64) #[] #[.pointer (some ⟨g8, 0, none⟩), .pointer (some ⟨g13, 0, none⟩), .pointer (some ⟨g18, 0, none⟩), .pointer (some ⟨g23, 0, none⟩)])] ⟨rfl, rfl, trivial⟩
  refine wp_seq ?_
  refine wp_region_lit ?_
  refine vr tbok 1 [] [(0, .slice A216 (List.length g.2.2.1) c217), (1, .func (.func 64) #[] #[.pointer (some ⟨g8, 0, none⟩), .pointer (some ⟨g13, 0, none⟩), .pointer (some ⟨g18, 0, none⟩), .pointer (some ⟨g23, 0, none⟩)])] [] E (by kernel_rfl) trivial ?_
  clear E; intro a E
  refine wpList_nil ?_
  refine th_n ?_
  refine wp_seq ?_
  refine wp_seq ?_
  refine wp_region_lit ?_
  refine vr tbok 3 [] [(1, .func (.func 64) #[] #[.pointer (some ⟨g8, 0, none⟩), .pointer (some ⟨g13, 0, none⟩), .pointer (some ⟨g18, 0, none⟩), .pointer (some ⟨g23, 0, none⟩)]), (7, .slice A216 (List.length g.2.2.1) c217), (8, .int .i64 (((List.length g.2.2.1) : Nat) : Int)), (9, .int .i64 0)] [] E (by kernel_rfl) trivial ?_
  clear E; intro a E
  refine wpList_nil ?_
  refine th_n ?_
  refine wp_block ?_
  obtain ⟨x356, hL552, hK553⟩ := bind_inv hP
  clear hP
  refine loop_cut (fun i_ a w_ => (i_ = 0 ∧ ∃ (x556 : Unit), Fr a 19 [] ∧ Hp S Fa w0 w_ [.ro false cS87 (some ⟨b1, o2, none⟩) ([g]), .box g8 62 [.pointer (some ⟨b1, o2, none⟩)], .ro false (cInt .i64) A4 ranks, .box g13 23 [.slice A4 (List.length ranks) c5], .box g18 3 [.int .i64 q], .box g23 3 [.int .i64 x115], .ro false (cInt .u8) (some ⟨b420, o421, none⟩) g.2.2.1, .ro false (cInt .u8) A216 g.2.2.1] ∧ Chg (atL []) w118 w_ ∧ x356 = Sum.inl x556)) ?_ ?_
  ·
   refine loopV (fun m555 a w554 => ∃ (x323 : Int), Fr a 19 [(1, .func (.func 64) #[] #[.pointer (some ⟨g8, 0, none⟩), .pointer (some ⟨g13, 0, none⟩), .pointer (some ⟨g18, 0, none⟩), .pointer (some ⟨g23, 0, none⟩)]), (7, .slice A216 (List.length g.2.2.1) c217), (8, .int .i64 (((List.length g.2.2.1) : Nat) : Int)), (9, .int .i64 x323)] ∧ Hp S Fa w0 w554 [.ro false cS87 (some ⟨b1, o2, none⟩) ([g]), .box g8 62 [.pointer (some ⟨b1, o2, none⟩)], .ro false (cInt .i64) A4 ranks, .box g13 23 [.slice A4 (List.length ranks) c5], .box g18 3 [.int .i64 q], .box g23 3 [.int .i64 x115], .ro false (cInt .u8) A216 g.2.2.1, .ro false (cInt .u8) (some ⟨b420, o421, none⟩) g.2.2.1] ∧ Chg (atL []) w118 w554 ∧ moore_game_choice_l2 N g ranks q x115 m555 x323 = some x356) N ?_ ?_
   ·
    exact ⟨0, E.pick _ ⟨rfl, rfl, rfl, rfl, trivial⟩, H.sel [0, 1, 2, 3, 4, 5, 14, 9] rfl, HS424, hL552⟩
   clear E H hL552 HS424; intro m555 a w554 hI_
   obtain ⟨x323, E, H, HS424, hP⟩ := hI_
   obtain ⟨m355, rfl⟩ : ∃ q_, m555 = q_ + 1 := by cases m555 with | zero => rw [moore_game_choice_l2] at hP; cases hP | succ q_ => exact ⟨q_, rfl⟩
   rw [moore_game_choice_l2] at hP
   refine wp_seq ?_
   refine wp_region_lit ?_
   refine vr tbok 1 [] [(1, .func (.func 64) #[] #[.pointer (some ⟨g8, 0, none⟩), .pointer (some ⟨g13, 0, none⟩), .pointer (some ⟨g18, 0, none⟩), .pointer (some ⟨g23, 0, none⟩)]), (7, .slice A216 (List.length g.2.2.1) c217), (8, .int .i64 (((List.length g.2.2.1) : Nat) : Int)), (9, .int .i64 x323), (10, .bool (decide (x323 < (((List.length g.2.2.1) : Nat) : Int))))] [] E (by kernel_rfl) trivial ?_
   clear E; intro a E
   refine wpList_nil ?_
   refine th_n ?_
   refine wp_seq ?_
   refine E.cases (t := 10) rfl (fun hb_ E_ => ?_) (fun hb_ E_ => ?_)
   ·
    replace E := E_; clear E_
    have h557 : x323 < (((List.length g.2.2.1) : Nat) : Int) := of_decide_eq_true hb_
    clear hb_; replace hP := ite_t h557 hP
    refine c_true E rfl ?_
    refine wp_skip ?_
    refine th_n ?_
    refine wp_seq ?_
    refine wp_block ?_
    refine wp_seq ?_
    refine wp_region_lit ?_
    obtain ⟨g558, hP⟩ := ask_inv hP
    obtain ⟨b559, o560, e_b559⟩ := (H.rd 6 rds_ro).addr (idx_pos g558)
    subst e_b559
    refine vr tbok 5 [.int .u8 (List.getD g.2.2.1 (Int.toNat x323) 0)] [(1, .func (.func 64) #[] #[.pointer (some ⟨g8, 0, none⟩), .pointer (some ⟨g13, 0, none⟩), .pointer (some ⟨g18, 0, none⟩), .pointer (some ⟨g23, 0, none⟩)]), (5, .int .i64 x323), (6, .int .u8 (List.getD g.2.2.1 (Int.toNat x323) 0)), (7, .slice (some ⟨b559, o560, none⟩) (List.length g.2.2.1) c217), (8, .int .i64 (((List.length g.2.2.1) : Nat) : Int)), (9, .int .i64 x323)] [0 ≤ x323 ∧ x323 < (((List.length g.2.2.1) : Nat) : Int), World.cell? w554 ⟨b559, o560 + (Int.toNat x323) * 1, none⟩ = some (.int .u8 (List.getD g.2.2.1 (Int.toNat x323) 0))] E (by kernel_rfl) ⟨g558, Rds.at1 (H.rd 6 rds_ro) 0 g558⟩ ?_
    clear E; intro a E
    refine wpList_nil ?_
    refine th_n ?_
    refine wp_seq ?_
    refine wp_region_lit ?_
    refine vr tbok 2 [] [(1, .func (.func 64) #[] #[.pointer (some ⟨g8, 0, none⟩), .pointer (some ⟨g13, 0, none⟩), .pointer (some ⟨g18, 0, none⟩), .pointer (some ⟨g23, 0, none⟩)]), (5, .int .i64 x323), (7, .slice (some ⟨b559, o560, none⟩) (List.length g.2.2.1) c217), (8, .int .i64 (((List.length g.2.2.1) : Nat) : Int)), (9, .int .i64 x323), (14, .func (.func 64) #[] #[.pointer (some ⟨g8, 0, none⟩), .pointer (some ⟨g13, 0, none⟩), .pointer (some ⟨g18, 0, none⟩), .pointer (some ⟨g23, 0, none⟩)]), (15, .int .u8 (List.getD g.2.2.1 (Int.toNat x323) 0))] [] E (by kernel_rfl) trivial ?_
    clear E; intro a E
    obtain ⟨x387, h582, hP⟩ := bind_inv hP
    refine e_callv (R := fun v_ w_ => ∃ (x583 : Bool), v_ = .bool x583 ∧ Hp S Fa w0 w_ [.ro false cS87 (some ⟨b1, o2, none⟩) ([g]), .box g8 62 [.pointer (some ⟨b1, o2, none⟩)], .ro false (cInt .i64) A4 ranks, .box g13 23 [.slice A4 (List.length ranks) c5], .box g18 3 [.int .i64 q], .box g23 3 [.int .i64 x115], .ro false (cInt .u8) (some ⟨b420, o421, none⟩) g.2.2.1, .ro false (cInt .u8) (some ⟨b559, o560, none⟩) g.2.2.1] ∧ Chg (atL []) w118 w_ ∧ x387 = x583) E rfl rfl rfl Try.func64 rfl rfl rfl ?_ ?_
    ·
     clear E hP; have hP := h582; clear h582; rw [moore_game_choice_f3] at hP
     refine enterV (n := 14) Try.func64 rfl rfl rfl ?_
     intro a E
     replace E := E.pick [(0, .int .u8 (List.getD g.2.2.1 (Int.toNat x323) 0)), (1, .pointer (some ⟨g8, 0, none⟩)), (2, .pointer (some ⟨g13, 0, none⟩)), (3, .pointer (some ⟨g18, 0, none⟩)), (4, .pointer (some ⟨g23, 0, none⟩))] ⟨rfl, rfl, rfl, rfl, rfl, trivial⟩
     refine wp_seq ?_
     refine wp_region_lit ?_
     refine vr tbok 1 [] [(0, .int .u8 (List.getD g.2.2.1 (Int.toNat x323) 0)), (1, .pointer (some ⟨g8, 0, none⟩)), (2, .pointer (some ⟨g13, 0, none⟩)), (3, .pointer (some ⟨g18, 0, none⟩)), (4, .pointer (some ⟨g23, 0, none⟩))] [] E (by kernel_rfl) trivial ?_
     clear E; intro a E
     refine wpList_nil ?_
     refine th_n ?_
     refine wp_seq ?_
     obtain ⟨r390, h585, hP⟩ := bind_inv hP
     have HR596 := H
     refine dr_start (S := fun w_ => Chg (atL []) w554 w_) (by kernel_rfl) ?_
     intro w593 hc594
     have HS595 : Chg (atL []) w554 w593 := hc594.mono (fun _ _ h_ => h_.elim)
     replace HS424 := HS424.ext hc594
     replace H := H.ext hc594
     refine dr tbok (by kernel_rfl) [0, 1, 2, 3, 5] [.pointer (some ⟨b1, o2, none⟩), .slice A4 (List.length ranks) c5, .int .i64 q, .int .i64 x115] [(7, .pointer (some ⟨b1, o2, none⟩)), (8, .slice A4 (List.length ranks) c5), (9, .int .i64 q), (10, .int .u8 (List.getD g.2.2.1 (Int.toNat x323) 0)), (12, .int .i64 x115)] (fun w_ => [World.cell? w_ ⟨g8, 0, none⟩ = some (.pointer (some ⟨b1, o2, none⟩)), World.cell? w_ ⟨g13, 0, none⟩ = some (.slice A4 (List.length ranks) c5), World.cell? w_ ⟨g18, 0, none⟩ = some (.int .i64 q), World.cell? w_ ⟨g23, 0, none⟩ = some (.int .i64 x115)]) 3 E (fun _ _ => by kernel_rfl) (fun w_ hS_ => ⟨(HR596.boxk [] hS_ 1 rfl rfl).cell (j := 0) rfl, (HR596.boxk [] hS_ 3 rfl rfl).cell (j := 0) rfl, (HR596.boxk [] hS_ 4 rfl rfl).cell (j := 0) rfl, (HR596.boxk [] hS_ 5 rfl rfl).cell (j := 0) rfl⟩) (by kernel_rfl) HS595 ?_
     clear E; intro a E
     refine wpAnyH_all (rs := [4]) (by kernel_rfl) (by simp) ?_
     refine all1 ?_
     refine wpOp_of_list rfl ?_
     obtain ⟨Fa597, Hc598, hb599⟩ := H.call [] [(0, false), (2, false)] rfl rfl trivial
     refine e_call E rfl rfl Try.func60 rfl rfl rfl (moore_game_worst_calls b1 o2 A4 c5 g ranks q (List.getD g.2.2.1 (Int.toNat x323) 0) hk6 Hc598 h585) ?_
     rintro v600 w601 a ⟨rfl, HR602⟩ E_
     replace E := E_ _ rfl; clear E_
     obtain ⟨H_, hc603⟩ := hb599 _ _ HR602 rfl
     replace HS424 := HS424.ext (callS_ext hc603)
     replace HS595 := HS595.ext (callS_ext hc603)
     replace H := H_; clear H_; try dsimp only [setn, addE, goneL] at H
     refine wpList_nil ?_
     refine th_n ⟨HS595, ?_⟩
     refine dr tbok (by kernel_rfl) [6, 7] [] [(6, .bool ((r390 : Int) == x115))] (fun w_ => []) 0 E (fun _ _ => by kernel_rfl) (fun w_ hS_ => trivial) (by kernel_rfl) HS595 ?_
     clear E; intro a E
     refine dr_done (by kernel_rfl) ?_
     clear HS595 HR596
     refine th_n ?_
     refine wp_ret ?_
     have hx_ := Option.some.inj hP
     refine ret1 E rfl rfl ?_
     exact ⟨_, rfl, (r390 : Int) == x115, rfl, H.sel [0, 1, 2, 3, 4, 5, 7, 6] rfl, HS424, hx_.symm⟩
    clear H HS424
    rintro v605 w604 a ⟨x583, rfl, H, HS424, hx_⟩ E_
    subst hx_
    replace E := E_ _ rfl; clear E_
    refine wpList_nil ?_
    refine th_n ?_
    refine E.cases (t := 16) rfl (fun hb_ E_ => ?_) (fun hb_ E_ => ?_)
    ·
     replace E := E_; clear E_
     have h606 : x387 = true := hb_
     clear hb_; replace hP := ite_t h606 hP
     refine c_true E rfl ?_
     refine wp_seq ?_
     refine wp_region_lit ?_
     refine vr tbok 2 [] [(4, .int .i64 x323)] [] E (by kernel_rfl) trivial ?_
     clear E; intro a E
     refine wpList_nil ?_
     refine th_n ?_
     refine wp_ret ?_
     refine bl_ret ?_
     refine th_ret ?_
     refine th_ret ?_
     refine .inr ⟨rfl, ?_⟩
     refine bl_ret ?_
     refine th_ret ?_
     have hx_ := Option.some.inj hP; subst hx_
     have hP : some (x323) = some x290 := hK553
     have hx_ := Option.some.inj hP
     refine ret1 E rfl rfl ?_
     exact ⟨_, rfl, x323, rfl, H.sel [0, 1, 2, 3, 4, 5, 6, 7] rfl, HS424, hx_.symm⟩
    replace E := E_; clear E_
    have h607 : ¬ (x387 = true) := (ne_true_of_eq_false hb_)
    clear hb_; replace hP := ite_f h607 hP
    refine c_false E rfl ?_
    refine wp_skip ?_
    refine bl_n ?_
    refine th_n ?_
    refine wp_region_lit ?_
    obtain ⟨g608, hP⟩ := ask_inv hP
    refine vr tbok 2 [.int .i64 (x323 + 1)] [(1, .func (.func 64) #[] #[.pointer (some ⟨g8, 0, none⟩), .pointer (some ⟨g13, 0, none⟩), .pointer (some ⟨g18, 0, none⟩), .pointer (some ⟨g23, 0, none⟩)]), (7, .slice (some ⟨b559, o560, none⟩) (List.length g.2.2.1) c217), (8, .int .i64 (((List.length g.2.2.1) : Nat) : Int)), (9, .int .i64 (x323 + 1))] [IntKind.i64.wrap (x323 + 1) = x323 + 1] E (by kernel_rfl) (wrap_in g608) ?_
    clear E; intro a E
    refine wpList_nil ?_
    exact th_n ⟨m355, Nat.lt_succ_self _, x323 + 1, E.pick _ ⟨rfl, rfl, rfl, rfl, trivial⟩, H.sel [0, 1, 2, 3, 4, 5, 7, 6] rfl, HS424, hP⟩
   replace E := E_; clear E_
   have h609 : ¬ (x323 < (((List.length g.2.2.1) : Nat) : Int)) := of_decide_eq_false hb_
   clear hb_; replace hP := ite_f h609 hP
   refine c_false E rfl ?_
   refine wp_exit ?_
   refine th_exit ?_
   have hx_ := Option.some.inj hP
   refine th_exit (.inl ⟨0, rfl, ?_⟩)
   exact ⟨rfl, (), E.pick _ trivial, H.sel [0, 1, 2, 3, 4, 5, 7, 6] rfl, HS424, hx_.symm⟩
  clear E H hL552 HS424; intro i_ a w554 hM_
  obtain ⟨rfl, x361, E, H, HS424, hx_⟩ := hM_
  subst hx_; have hP := elim_l hK553
  clear hK553
  refine bl_hit ?_
  refine th_n ?_
  refine wp_seq ?_
  refine wp_region_lit ?_
  refine vr tbok 1 [] [(4, .int .i64 (-1))] [] E (by kernel_rfl) trivial ?_
  clear E; intro a E
  refine wpList_nil ?_
  refine th_n ?_
  refine wp_ret ?_
  have hx_ := Option.some.inj hP
  refine ret1 E rfl rfl ?_
  exact ⟨_, rfl, -1, rfl, H.sel [0, 1, 2, 3, 4, 5, 6, 7] rfl, HS424, hx_.symm⟩
 clear H HS424
 rintro v612 w611 a ⟨x489, rfl, H, HS424, hx_⟩ E_
 subst hx_
 replace E := E_ _ rfl; clear E_
 refine wpList_nil ?_
 refine th_n ⟨HS424, ?_⟩
 refine dr tbok (by kernel_rfl) [10, 11, 12] [.int .u8 (List.getD g.2.2.1 (Int.toNat x290) 0)] [(6, .int .u8 (List.getD g.2.2.1 (Int.toNat x290) 0))] (fun w_ => [0 ≤ x290 ∧ x290 < (((List.length g.2.2.1) : Nat) : Int), World.cell? w_ ⟨b420, o421 + (Int.toNat x290) * 1, none⟩ = some (.int .u8 (List.getD g.2.2.1 (Int.toNat x290) 0))]) 0 E (fun _ _ => by kernel_rfl) (fun w_ hS_ => ⟨g419, Rds.at1 (HR425.rdk [] hS_ 9 rds_ro rfl) 0 g419⟩) (by kernel_rfl) HS424 ?_
 clear E; intro a E
 refine dr_done (by kernel_rfl) ?_
 clear HS424 HR425
 refine th_n ?_
 refine wp_ret ?_
 obtain rfl := Option.some.inj hP
 refine ret1 E rfl rfl ?_
 exact ⟨_, rfl, rfl, H.sel [] rfl⟩

end Go.V
