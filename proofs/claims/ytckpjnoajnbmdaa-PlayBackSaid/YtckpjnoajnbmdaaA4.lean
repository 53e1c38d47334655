/- Plain functions, and the calls that give them. -/
import Derived.Test.YtckpjnoajnbmdaaA3
set_option linter.all false
set_option linter.unusedVariables false
set_option linter.unnecessarySimpa false
set_option linter.unusedSimpArgs false
namespace Go.V
open Go Go.Proofs
/-! rejoinder/attract.Ranks -/
def attract_Ranks_l0 (N : Nat) (r44 : List Bool) : Nat → (List Int) → Int → Option (List Int)
  | 0, _, _ => none
  | m83 + 1, out67, x68 =>
    if x68 < (((List.length r44) : Nat) : Int) then
      ask (idx x68 (List.length r44)) <|
      if (List.getD r44 (Int.toNat x68) false) = true then
        ask (in64 (x68 + 1)) <|
        attract_Ranks_l0 N r44 m83 out67 (x68 + 1)
      else
        ask (idx x68 (List.length out67)) <|
        ask (in64 (x68 + 1)) <|
        attract_Ranks_l0 N r44 m83 (List.set out67 (Int.toNat x68) (-1)) (x68 + 1)
    else
      some out67
def attract_Ranks_l2 (N : Nat) (rank179 : Int) (r265 : List Bool) : Nat → (List Int) → Bool → Int → Option ((List Int) × Bool)
  | 0, _, _, _ => none
  | m311 + 1, out290, more291, x292 =>
    if x292 < (((List.length r265) : Nat) : Int) then
      ask (idx x292 (List.length r265)) <|
      if (List.getD r265 (Int.toNat x292) false) = true then
        ask (idx x292 (List.length out290)) <|
        if (List.getD out290 (Int.toNat x292) 0) < 0 then
          ask (in64 (x292 + 1)) <|
          attract_Ranks_l2 N rank179 r265 m311 (List.set out290 (Int.toNat x292) rank179) true (x292 + 1)
        else
          ask (in64 (x292 + 1)) <|
          attract_Ranks_l2 N rank179 r265 m311 out290 more291 (x292 + 1)
      else
        ask (in64 (x292 + 1)) <|
        attract_Ranks_l2 N rank179 r265 m311 out290 more291 (x292 + 1)
    else
      some (out290, more291)
def attract_Ranks_l3 (N : Nat) (x312 : (List Int) × Bool) : Nat → (List Bool) → Int → Option (List Bool)
  | 0, _, _ => none
  | m360 + 1, won343, x346 =>
    if x346 < (((List.length x312.1) : Nat) : Int) then
      ask (idx x346 (List.length x312.1)) <|
      ask (idx x346 (List.length won343)) <|
      ask (in64 (x346 + 1)) <|
      attract_Ranks_l3 N x312 m360 (List.set won343 (Int.toNat x346) (decide (0 ≤ (List.getD x312.1 (Int.toNat x346) 0)))) (x346 + 1)
    else
      some won343
def attract_Ranks_l1 (N : Nat) (r23 : (List (List (List Int))) × Int) : Nat → (List Int) → (List Bool) → Int → Bool → Option (List Int)
  | 0, _, _, _, _ => none
  | m257 + 1, out175, won176, rank179, more180 =>
    if more180 = true then
      Option.bind (attract_before N r23.1 won176) fun r265 =>
      Option.bind (attract_Ranks_l2 N rank179 r265 N out175 false 0) fun x312 =>
      Option.bind (attract_Ranks_l3 N x312 N won176 0) fun x361 =>
      ask (in64 (rank179 + 1)) <|
      attract_Ranks_l1 N r23 m257 x312.1 x361 (rank179 + 1) x312.2
    else
      some out175
def attract_Ranks (N : Nat) (aProps : Int) (aAccept : List Bool) (aGuard : List Int) (aNodes : List Nd) (s : Int × Int) : Option ((List Int) × Int) :=
  Option.bind (attract_rows N aProps aAccept aGuard aNodes (s.1, s.2)) fun r23 =>
  if (r23.2 : Int) = 0 then
    ask (0 ≤ (((List.length r23.1) : Nat) : Int) ∧ (((List.length r23.1) : Nat) : Int) ≤ 1000000000) <|
    Option.bind (slices_Clone_bool_bool N aAccept) fun r44 =>
    Option.bind (attract_Ranks_l0 N r44 N (List.replicate (Int.toNat (((List.length r23.1) : Nat) : Int)) (0 : Int)) 0) fun x84 =>
    Option.bind (attract_Ranks_l1 N r23 N x84 r44 1 true) fun x258 =>
    some (x258, 0)
  else
    some ([], r23.2)
set_option maxRecDepth 100000 in
set_option maxHeartbeats 4000000 in
theorem attract_Ranks_calls {N : Nat} {S Fa : Nat → Prop} {w0 : World} {r : (List Int) × Int} (A1 : Option Addr) (c2 : Nat) (A5 : Option Addr) (c6 : Nat) (A9 : Option Addr) (c10 : Nat) (aProps : Int) (aAccept : List Bool) (aGuard : List Int) (aNodes : List Nd) (s : Int × Int) (hk3 : List.length aAccept ≤ c2) (hk7 : List.length aGuard ≤ c6) (hk11 : List.length aNodes ≤ c10) (H : Hp S Fa w0 w0 [.ro false cBool A1 aAccept, .ro false (cInt .i64) A5 aGuard, .ro false cNode A9 aNodes]) (hP : attract_Ranks N aProps aAccept aGuard aNodes s = some r) :
    Calls Try.prog 77 #[.agg #[.int .i64 aProps, .slice A1 (List.length aAccept) c2, .slice A5 (List.length aGuard) c6, .slice A9 (List.length aNodes) c10], .agg #[.int .u8 s.1, .int .u8 s.2]] w0 fun e w' => ∃ v, e = .returned v ∧ ∃ (A379 : Option Addr) (c380 : Nat), v = .tuple #[.slice A379 (List.length r.1) c380, .int .i64 r.2] ∧ Hp S Fa w0 w' [.row true (cInt .i64) 3 A379 c380 r.1] := by
 refine enterV (n := 85) Try.func77 rfl rfl rfl ?_
 intro a E
 replace E := E.pick [(0, .agg #[.int .i64 aProps, .slice A1 (List.length aAccept) c2, .slice A5 (List.length aGuard) c6, .slice A9 (List.length aNodes) c10]), (1, .agg #[.int .u8 s.1, .int .u8 s.2])] ⟨rfl, rfl, trivial⟩
 rw [attract_Ranks] at hP
 refine wp_seq ?_
 refine wp_region_lit ?_
 refine h_box H E rfl rfl rfl ?_
 intro w14 g13 a hc15 hg17 H_ E_
 replace E := E_ _ rfl; clear E_
 replace H := H_; clear H_; try dsimp only [setn, addE, goneL] at H
 refine h_box H E rfl rfl rfl ?_
 intro w19 g18 a hc20 hg22 H_ E_
 replace E := E_ _ rfl; clear E_
 replace H := H_; clear H_; try dsimp only [setn, addE, goneL] at H
 refine vr tbok 2 [] [(2, .pointer (some ⟨g13, 0, none⟩)), (3, .pointer (some ⟨g18, 0, none⟩))] [] E (by kernel_rfl) trivial ?_
 clear E; intro a E
 refine wpList_nil ?_
 refine th_n ?_
 refine wp_seq ?_
 refine wp_region_lit ?_
 refine vr tbok 2 [.agg #[.int .i64 aProps, .slice A1 (List.length aAccept) c2, .slice A5 (List.length aGuard) c6, .slice A9 (List.length aNodes) c10], .agg #[.int .u8 s.1, .int .u8 s.2]] [(2, .pointer (some ⟨g13, 0, none⟩)), (18, .agg #[.int .i64 aProps, .slice A1 (List.length aAccept) c2, .slice A5 (List.length aGuard) c6, .slice A9 (List.length aNodes) c10]), (19, .agg #[.int .u8 s.1, .int .u8 s.2])] [cellsAt w19 g13 (0) [.int .i64 aProps, .slice A1 (List.length aAccept) c2, .slice A5 (List.length aGuard) c6, .slice A9 (List.length aNodes) c10], cellsAt w19 g18 (0) [.int .u8 s.1, .int .u8 s.2]] E (by kernel_rfl) ⟨(H.box 3 rfl).sub 0 _ rfl, (H.box 4 rfl).sub 0 _ rfl⟩ ?_
 clear E; intro a E
 obtain ⟨r23, h24, hP⟩ := bind_inv hP
 obtain ⟨Fa25, Hc26, hb27⟩ := H.call [] [(0, false), (1, false), (2, false)] rfl rfl trivial
 refine e_call E rfl rfl Try.func91 rfl rfl rfl (attract_rows_calls A1 c2 A5 c6 A9 c10 aProps aAccept aGuard aNodes (s.1, s.2) hk3 hk7 hk11 Hc26 h24) ?_
 rintro v28 w29 a ⟨A32, c33, rfl, HR30⟩ E_
 replace E := E_ _ rfl; clear E_
 obtain ⟨H_, hc31⟩ := hb27 _ _ HR30 rfl
 replace H := H_; clear H_; try dsimp only [setn, addE, goneL] at H
 refine vr tbok 5 [] [(2, .pointer (some ⟨g13, 0, none⟩)), (6, .slice A32 (List.length r23.1) c33), (7, .int .i64 r23.2)] [] E (by kernel_rfl) trivial ?_
 clear E; intro a E
 refine wpList_nil ?_
 refine th_n ?_
 refine wp_seq ?_
 refine wp_seq ?_
 refine wp_region_lit ?_
 refine vr tbok 2 [] [(2, .pointer (some ⟨g13, 0, none⟩)), (6, .slice A32 (List.length r23.1) c33), (7, .int .i64 r23.2), (24, .bool ((r23.2 : Int) != 0))] [] E (by kernel_rfl) trivial ?_
 clear E; intro a E
 refine wpList_nil ?_
 refine th_n ?_
 refine E.cases (t := 24) rfl (fun hb_ E_ => ?_) (fun hb_ E_ => ?_)
 ·
  replace E := E_; clear E_
  have h35 : ¬ ((r23.2 : Int) = 0) := bne_iff_ne.1 hb_
  clear hb_; replace hP := ite_f h35 hP
  refine c_true E rfl ?_
  refine wp_seq ?_
  refine wp_region_lit ?_
  refine vr tbok 3 [] [(4, .slice none 0 0), (5, .int .i64 r23.2)] [] E (by kernel_rfl) trivial ?_
  clear E; intro a E
  refine wpList_nil ?_
  refine th_n ?_
  refine wp_ret ?_
  refine th_ret ?_
  replace H := H.nilrow (cInt .i64) 3; try dsimp only [setn, addE, goneL] at H
  obtain rfl := Option.some.inj hP
  refine ret2 E rfl rfl rfl ?_
  exact ⟨_, rfl, none, 0, rfl, H.sel [6] rfl⟩
 replace E := E_; clear E_
 have h37 : (r23.2 : Int) = 0 := bne_eq_false_iff_eq.1 hb_
 clear hb_; replace hP := ite_t h37 hP
 refine c_false E rfl ?_
 refine wp_skip ?_
 refine th_n ?_
 refine wp_seq ?_
 refine wp_region_lit ?_
 refine vr tbok 2 [] [(2, .pointer (some ⟨g13, 0, none⟩)), (6, .slice A32 (List.length r23.1) c33), (27, .int .i64 (((List.length r23.1) : Nat) : Int))] [] E (by kernel_rfl) trivial ?_
 clear E; intro a E
 obtain ⟨g38, hP⟩ := ask_inv hP
 refine h_make (cInt .i64) (0 : Int) H E rfl rfl tbok rfl rfl rfl rfl ⟨g38.1, Int.le_refl _, g38.2⟩ rfl rfl rfl (fun _ _ => rfl) ?_
 intro w40 g39 a hc41 hg43 H_ E_
 replace E := E_ _ rfl; clear E_
 replace H := H_; clear H_; try dsimp only [setn, addE, goneL] at H
 refine vr tbok 1 [] [(2, .pointer (some ⟨g13, 0, none⟩)), (6, .slice A32 (List.length r23.1) c33), (8, .slice (some ⟨g39, 0, none⟩) (List.length (List.replicate (Int.toNat (((List.length r23.1) : Nat) : Int)) (0 : Int))) (Int.toNat (((List.length r23.1) : Nat) : Int)))] [] E (by kernel_rfl) trivial ?_
 clear E; intro a E
 refine wpList_nil ?_
 refine th_n ?_
 refine wp_seq ?_
 refine wp_region_lit ?_
 refine vr tbok 2 [.slice A1 (List.length aAccept) c2] [(6, .slice A32 (List.length r23.1) c33), (8, .slice (some ⟨g39, 0, none⟩) (List.length (List.replicate (Int.toNat (((List.length r23.1) : Nat) : Int)) (0 : Int))) (Int.toNat (((List.length r23.1) : Nat) : Int))), (30, .slice A1 (List.length aAccept) c2)] [World.cell? w40 ⟨g13, 1, none⟩ = some (.slice A1 (List.length aAccept) c2)] E (by kernel_rfl) ((H.box 3 rfl).cell (j := 1) rfl) ?_
 clear E; intro a E
 obtain ⟨r44, h45, hP⟩ := bind_inv hP
 obtain ⟨Fa46, Hc47, hb48⟩ := H.call [] [(0, false)] rfl rfl trivial
 refine e_call E rfl rfl Try.func42 rfl rfl rfl (slices_Clone_bool_bool_calls A1 c2 aAccept hk3 Hc47 h45) ?_
 rintro v49 w50 a ⟨A53, c54, rfl, HR51⟩ E_
 replace E := E_ _ rfl; clear E_
 obtain ⟨H_, hc52⟩ := hb48 _ _ HR51 rfl
 replace H := H_; clear H_; try dsimp only [setn, addE, goneL] at H
 refine vr tbok 1 [] [(6, .slice A32 (List.length r23.1) c33), (8, .slice (some ⟨g39, 0, none⟩) (List.length (List.replicate (Int.toNat (((List.length r23.1) : Nat) : Int)) (0 : Int))) (Int.toNat (((List.length r23.1) : Nat) : Int))), (9, .slice A53 (List.length r44) c54)] [] E (by kernel_rfl) trivial ?_
 clear E; intro a E
 refine wpList_nil ?_
 refine th_n ?_
 refine wp_seq ?_
 refine wp_seq ?_
 refine wp_region_lit ?_
 refine vr tbok 3 [] [(6, .slice A32 (List.length r23.1) c33), (8, .slice (some ⟨g39, 0, none⟩) (List.length (List.replicate (Int.toNat (((List.length r23.1) : Nat) : Int)) (0 : Int))) (Int.toNat (((List.length r23.1) : Nat) : Int))), (9, .slice A53 (List.length r44) c54), (32, .slice A53 (List.length r44) c54), (33, .int .i64 (((List.length r44) : Nat) : Int)), (34, .int .i64 0)] [] E (by kernel_rfl) trivial ?_
 clear E; intro a E
 refine wpList_nil ?_
 refine th_n ?_
 refine wp_block ?_
 obtain ⟨x84, hL85, hK86⟩ := bind_inv hP
 clear hP
 refine loop_cut (fun i_ a w_ => (i_ = 0 ∧ ∃ (x89 : List Int), Fr a 85 [(6, .slice A32 (List.length r23.1) c33), (8, .slice (some ⟨g39, 0, none⟩) (List.length x89) (Int.toNat (((List.length r23.1) : Nat) : Int))), (9, .slice A53 (List.length r44) c54)] ∧ Hp S Fa w0 w_ [.row true (cSl (cSl (cInt .i64))) 104 A32 c33 r23.1, .rowx true (cInt .i64) 3 (some ⟨g39, 0, none⟩) (Int.toNat (((List.length r23.1) : Nat) : Int)) x89 (List.replicate (Int.toNat (((List.length r23.1) : Nat) : Int) - Int.toNat (((List.length r23.1) : Nat) : Int)) (0 : Int)), .row true cBool 4 A53 c54 r44] ∧ x84 = x89)) ?_ ?_
 ·
  refine loopV (fun m88 a w87 => ∃ (out67 : List Int) (x68 : Int), Fr a 85 [(6, .slice A32 (List.length r23.1) c33), (8, .slice (some ⟨g39, 0, none⟩) (List.length out67) (Int.toNat (((List.length r23.1) : Nat) : Int))), (9, .slice A53 (List.length r44) c54), (32, .slice A53 (List.length r44) c54), (33, .int .i64 (((List.length r44) : Nat) : Int)), (34, .int .i64 x68)] ∧ Hp S Fa w0 w87 [.row true (cSl (cSl (cInt .i64))) 104 A32 c33 r23.1, .rowx true (cInt .i64) 3 (some ⟨g39, 0, none⟩) (Int.toNat (((List.length r23.1) : Nat) : Int)) out67 (List.replicate (Int.toNat (((List.length r23.1) : Nat) : Int) - Int.toNat (((List.length r23.1) : Nat) : Int)) (0 : Int)), .row true cBool 4 A53 c54 r44] ∧ attract_Ranks_l0 N r44 m88 out67 x68 = some x84) N ?_ ?_
  ·
   exact ⟨List.replicate (Int.toNat (((List.length r23.1) : Nat) : Int)) (0 : Int), 0, E.pick _ ⟨rfl, rfl, rfl, rfl, rfl, rfl, trivial⟩, H.sel [5, 6, 7] rfl, hL85⟩
  clear E H hL85; intro m88 a w87 hI_
  obtain ⟨out67, x68, E, H, hP⟩ := hI_
  obtain ⟨m83, rfl⟩ : ∃ q_, m88 = q_ + 1 := by cases m88 with | zero => rw [attract_Ranks_l0] at hP; cases hP | succ q_ => exact ⟨q_, rfl⟩
  rw [attract_Ranks_l0] at hP
  refine wp_seq ?_
  refine wp_region_lit ?_
  refine vr tbok 1 [] [(6, .slice A32 (List.length r23.1) c33), (8, .slice (some ⟨g39, 0, none⟩) (List.length out67) (Int.toNat (((List.length r23.1) : Nat) : Int))), (9, .slice A53 (List.length r44) c54), (32, .slice A53 (List.length r44) c54), (33, .int .i64 (((List.length r44) : Nat) : Int)), (34, .int .i64 x68), (35, .bool (decide (x68 < (((List.length r44) : Nat) : Int))))] [] E (by kernel_rfl) trivial ?_
  clear E; intro a E
  refine wpList_nil ?_
  refine th_n ?_
  refine wp_seq ?_
  refine E.cases (t := 35) rfl (fun hb_ E_ => ?_) (fun hb_ E_ => ?_)
  ·
   replace E := E_; clear E_
   have h90 : x68 < (((List.length r44) : Nat) : Int) := of_decide_eq_true hb_
   clear hb_; replace hP := ite_t h90 hP
   refine c_true E rfl ?_
   refine wp_skip ?_
   refine th_n ?_
   refine wp_seq ?_
   refine wp_block ?_
   refine wp_seq ?_
   refine wp_region_lit ?_
   obtain ⟨g91, hP⟩ := ask_inv hP
   obtain ⟨b92, e_b92⟩ := H.raddr 2 rfl (idx_pos g91)
   subst e_b92
   refine vr tbok 5 [.bool (List.getD r44 (Int.toNat x68) false)] [(6, .slice A32 (List.length r23.1) c33), (8, .slice (some ⟨g39, 0, none⟩) (List.length out67) (Int.toNat (((List.length r23.1) : Nat) : Int))), (9, .slice (some ⟨b92, 0, none⟩) (List.length r44) c54), (10, .int .i64 x68), (11, .bool (List.getD r44 (Int.toNat x68) false)), (32, .slice (some ⟨b92, 0, none⟩) (List.length r44) c54), (33, .int .i64 (((List.length r44) : Nat) : Int)), (34, .int .i64 x68)] [0 ≤ x68 ∧ x68 < (((List.length r44) : Nat) : Int), World.cell? w87 ⟨b92, 0 + (Int.toNat x68) * 1, none⟩ = some (.bool (List.getD r44 (Int.toNat x68) false))] E (by kernel_rfl) ⟨g91, Rds.at1 (H.rd 2 rds_row) false g91⟩ ?_
   clear E; intro a E
   refine wpList_nil ?_
   refine th_n ?_
   refine wp_seq ?_
   refine wp_region_lit ?_
   refine vr tbok 2 [] [(6, .slice A32 (List.length r23.1) c33), (8, .slice (some ⟨g39, 0, none⟩) (List.length out67) (Int.toNat (((List.length r23.1) : Nat) : Int))), (9, .slice (some ⟨b92, 0, none⟩) (List.length r44) c54), (10, .int .i64 x68), (32, .slice (some ⟨b92, 0, none⟩) (List.length r44) c54), (33, .int .i64 (((List.length r44) : Nat) : Int)), (34, .int .i64 x68), (40, .bool (!(List.getD r44 (Int.toNat x68) false)))] [] E (by kernel_rfl) trivial ?_
   clear E; intro a E
   refine wpList_nil ?_
   refine th_n ?_
   refine E.cases (t := 40) rfl (fun hb_ E_ => ?_) (fun hb_ E_ => ?_)
   ·
    replace E := E_; clear E_
    have h94 : ¬ ((List.getD r44 (Int.toNat x68) false) = true) := (ne_true_of_eq_false (not_t hb_))
    clear hb_; replace hP := ite_f h94 hP
    refine c_true E rfl ?_
    refine wp_region_lit ?_
    obtain ⟨g95, hP⟩ := ask_inv hP
    refine vr tbok 3 [] [(6, .slice A32 (List.length r23.1) c33), (8, .slice (some ⟨g39, 0, none⟩) (List.length out67) (Int.toNat (((List.length r23.1) : Nat) : Int))), (9, .slice (some ⟨b92, 0, none⟩) (List.length r44) c54), (32, .slice (some ⟨b92, 0, none⟩) (List.length r44) c54), (33, .int .i64 (((List.length r44) : Nat) : Int)), (34, .int .i64 x68), (43, .pointer (some ⟨g39, 0 + (Int.toNat x68) * 1, none⟩))] [0 ≤ x68 ∧ x68 < (((List.length out67) : Nat) : Int)] E (by kernel_rfl) (g95) ?_
    clear E; intro a E
    refine h_setx (g := g39) (i := x68) (-1) H 1 rfl E rfl rfl rfl rfl tbok rfl (fun _ HF_ => rfl) rfl g95 rfl ?_
    clear E; intro w96 a hc97 H_ E
    replace H := H_; clear H_; try dsimp only [setn, addE, goneL] at H
    have hn98 : (List.length out67) = (List.length (List.set out67 (Int.toNat x68) (-1))) := by simp only [List.length_set]
    replace E := E.same (t := 8) (u := .slice (some ⟨g39, 0, none⟩) (List.length (List.set out67 (Int.toNat x68) (-1))) (Int.toNat (((List.length r23.1) : Nat) : Int))) rfl (congrArg (fun n_ => Value.slice (some ⟨g39, 0, none⟩) n_ (Int.toNat (((List.length r23.1) : Nat) : Int))) hn98)
    refine wpList_nil ?_
    refine bl_n ?_
    refine th_n ?_
    refine wp_region_lit ?_
    obtain ⟨g99, hP⟩ := ask_inv hP
    refine vr tbok 2 [.int .i64 (x68 + 1)] [(6, .slice A32 (List.length r23.1) c33), (8, .slice (some ⟨g39, 0, none⟩) (List.length (List.set out67 (Int.toNat x68) (-1))) (Int.toNat (((List.length r23.1) : Nat) : Int))), (9, .slice (some ⟨b92, 0, none⟩) (List.length r44) c54), (32, .slice (some ⟨b92, 0, none⟩) (List.length r44) c54), (33, .int .i64 (((List.length r44) : Nat) : Int)), (34, .int .i64 (x68 + 1))] [IntKind.i64.wrap (x68 + 1) = x68 + 1] E (by kernel_rfl) (wrap_in g99) ?_
    clear E; intro a E
    refine wpList_nil ?_
    exact th_n ⟨m83, Nat.lt_succ_self _, List.set out67 (Int.toNat x68) (-1), x68 + 1, E.pick _ ⟨rfl, rfl, rfl, rfl, rfl, rfl, trivial⟩, H.sel [0, 1, 2] rfl, hP⟩
   replace E := E_; clear E_
   have h100 : (List.getD r44 (Int.toNat x68) false) = true := (not_f hb_)
   clear hb_; replace hP := ite_t h100 hP
   refine c_false E rfl ?_
   refine wp_skip ?_
   refine bl_n ?_
   refine th_n ?_
   refine wp_region_lit ?_
   obtain ⟨g101, hP⟩ := ask_inv hP
   refine vr tbok 2 [.int .i64 (x68 + 1)] [(6, .slice A32 (List.length r23.1) c33), (8, .slice (some ⟨g39, 0, none⟩) (List.length out67) (Int.toNat (((List.length r23.1) : Nat) : Int))), (9, .slice (some ⟨b92, 0, none⟩) (List.length r44) c54), (32, .slice (some ⟨b92, 0, none⟩) (List.length r44) c54), (33, .int .i64 (((List.length r44) : Nat) : Int)), (34, .int .i64 (x68 + 1))] [IntKind.i64.wrap (x68 + 1) = x68 + 1] E (by kernel_rfl) (wrap_in g101) ?_
   clear E; intro a E
   refine wpList_nil ?_
   exact th_n ⟨m83, Nat.lt_succ_self _, out67, x68 + 1, E.pick _ ⟨rfl, rfl, rfl, rfl, rfl, rfl, trivial⟩, H.sel [0, 1, 2] rfl, hP⟩
  replace E := E_; clear E_
  have h102 : ¬ (x68 < (((List.length r44) : Nat) : Int)) := of_decide_eq_false hb_
  clear hb_; replace hP := ite_f h102 hP
  refine c_false E rfl ?_
  refine wp_exit ?_
  refine th_exit ?_
  have hx_ := Option.some.inj hP
  refine th_exit (.inl ⟨0, rfl, ?_⟩)
  exact ⟨rfl, out67, E.pick _ ⟨rfl, rfl, rfl, trivial⟩, H.sel [0, 1, 2] rfl, hx_.symm⟩
 clear E H hL85; intro i_ a w87 hM_
 obtain ⟨rfl, x89, E, H, hx_⟩ := hM_
 subst hx_; have hP := hK86; clear hK86
 refine bl_hit ?_
 refine th_n ?_
 refine wp_seq ?_
 refine wp_seq ?_
 refine wp_region_lit ?_
 refine vr tbok 2 [] [(6, .slice A32 (List.length r23.1) c33), (8, .slice (some ⟨g39, 0, none⟩) (List.length x84) (Int.toNat (((List.length r23.1) : Nat) : Int))), (9, .slice A53 (List.length r44) c54), (12, .int .i64 1), (13, .bool true)] [] E (by kernel_rfl) trivial ?_
 clear E; intro a E
 refine wpList_nil ?_
 refine th_n ?_
 refine wp_block ?_
 obtain ⟨x258, hL259, hK260⟩ := bind_inv hP
 clear hP
 refine loop_cut (fun i_ a w_ => (i_ = 2 ∧ ∃ (x263 : List Int), Fr a 85 [(8, .slice (some ⟨g39, 0, none⟩) (List.length x263) (Int.toNat (((List.length r23.1) : Nat) : Int)))] ∧ Hp S Fa w0 w_ [.rowx true (cInt .i64) 3 (some ⟨g39, 0, none⟩) (Int.toNat (((List.length r23.1) : Nat) : Int)) x263 (List.replicate (Int.toNat (((List.length r23.1) : Nat) : Int) - Int.toNat (((List.length r23.1) : Nat) : Int)) (0 : Int))] ∧ x258 = x263)) ?_ ?_
 ·
  refine loopV (fun m262 a w261 => ∃ (out175 : List Int) (won176 : List Bool) (rank179 : Int) (more180 : Bool), ∃ (A177 : Option Addr) (c178 : Nat), Fr a 85 [(6, .slice A32 (List.length r23.1) c33), (8, .slice (some ⟨g39, 0, none⟩) (List.length out175) (Int.toNat (((List.length r23.1) : Nat) : Int))), (9, .slice A177 (List.length won176) c178), (12, .int .i64 rank179), (13, .bool more180)] ∧ Hp S Fa w0 w261 [.row true (cSl (cSl (cInt .i64))) 104 A32 c33 r23.1, .rowx true (cInt .i64) 3 (some ⟨g39, 0, none⟩) (Int.toNat (((List.length r23.1) : Nat) : Int)) out175 (List.replicate (Int.toNat (((List.length r23.1) : Nat) : Int) - Int.toNat (((List.length r23.1) : Nat) : Int)) (0 : Int)), .row true cBool 4 A177 c178 won176] ∧ attract_Ranks_l1 N r23 m262 out175 won176 rank179 more180 = some x258) N ?_ ?_
  ·
   exact ⟨x84, r44, 1, true, A53, c54, E.pick _ ⟨rfl, rfl, rfl, rfl, rfl, trivial⟩, H.sel [0, 1, 2] rfl, hL259⟩
  clear E H hL259; intro m262 a w261 hI_
  obtain ⟨out175, won176, rank179, more180, A177, c178, E, H, hP⟩ := hI_
  obtain ⟨m257, rfl⟩ : ∃ q_, m262 = q_ + 1 := by cases m262 with | zero => rw [attract_Ranks_l1] at hP; cases hP | succ q_ => exact ⟨q_, rfl⟩
  rw [attract_Ranks_l1] at hP
  refine wp_seq ?_
  refine wp_seq ?_
  refine wp_region_lit ?_
  refine vr tbok 1 [] [(6, .slice A32 (List.length r23.1) c33), (8, .slice (some ⟨g39, 0, none⟩) (List.length out175) (Int.toNat (((List.length r23.1) : Nat) : Int))), (9, .slice A177 (List.length won176) c178), (12, .int .i64 rank179), (45, .bool more180)] [] E (by kernel_rfl) trivial ?_
  clear E; intro a E
  refine wpList_nil ?_
  refine th_n ?_
  refine E.cases (t := 45) rfl (fun hb_ E_ => ?_) (fun hb_ E_ => ?_)
  ·
   replace E := E_; clear E_
   have h264 : more180 = true := hb_
   clear hb_; replace hP := ite_t h264 hP
   refine c_true E rfl ?_
   refine wp_skip ?_
   refine th_n ?_
   refine wp_seq ?_
   refine wp_block ?_
   refine wp_seq ?_
   refine wp_region_lit ?_
   refine vr tbok 1 [] [(6, .slice A32 (List.length r23.1) c33), (8, .slice (some ⟨g39, 0, none⟩) (List.length out175) (Int.toNat (((List.length r23.1) : Nat) : Int))), (9, .slice A177 (List.length won176) c178), (12, .int .i64 rank179), (13, .bool false)] [] E (by kernel_rfl) trivial ?_
   clear E; intro a E
   refine wpList_nil ?_
   refine th_n ?_
   refine wp_seq ?_
   refine wp_seq ?_
   refine wp_region_lit ?_
   refine vr tbok 2 [] [(6, .slice A32 (List.length r23.1) c33), (8, .slice (some ⟨g39, 0, none⟩) (List.length out175) (Int.toNat (((List.length r23.1) : Nat) : Int))), (9, .slice A177 (List.length won176) c178), (12, .int .i64 rank179), (13, .bool false), (48, .slice A32 (List.length r23.1) c33), (49, .slice A177 (List.length won176) c178)] [] E (by kernel_rfl) trivial ?_
   clear E; intro a E
   obtain ⟨r265, h266, hP⟩ := bind_inv hP
   obtain ⟨Fa267, Hc268, hb269⟩ := H.call [] [(0, false), (2, false)] rfl rfl trivial
   refine e_call E rfl rfl Try.func92 rfl rfl rfl (attract_before_calls A32 c33 A177 c178 r23.1 won176 (H.rcap 0 rfl) (H.rcap 2 rfl) Hc268 h266) ?_
   rintro v270 w271 a ⟨A274, c275, rfl, HR272⟩ E_
   replace E := E_ _ rfl; clear E_
   obtain ⟨H_, hc273⟩ := hb269 _ _ HR272 rfl
   replace H := H_; clear H_; try dsimp only [setn, addE, goneL] at H
   refine vr tbok 2 [] [(6, .slice A32 (List.length r23.1) c33), (8, .slice (some ⟨g39, 0, none⟩) (List.length out175) (Int.toNat (((List.length r23.1) : Nat) : Int))), (9, .slice A177 (List.length won176) c178), (12, .int .i64 rank179), (13, .bool false), (50, .slice A274 (List.length r265) c275), (51, .int .i64 (((List.length r265) : Nat) : Int)), (52, .int .i64 0)] [] E (by kernel_rfl) trivial ?_
   clear E; intro a E
   refine wpList_nil ?_
   refine th_n ?_
   refine wp_block ?_
   obtain ⟨x312, hL313, hK314⟩ := bind_inv hP
   clear hP
   refine loop_cut (fun i_ a w_ => (i_ = 4 ∧ ∃ (x317 : (List Int) × Bool), Fr a 85 [(6, .slice A32 (List.length r23.1) c33), (8, .slice (some ⟨g39, 0, none⟩) (List.length x317.1) (Int.toNat (((List.length r23.1) : Nat) : Int))), (9, .slice A177 (List.length won176) c178), (12, .int .i64 rank179), (13, .bool x317.2)] ∧ Hp S Fa w0 w_ [.row true (cSl (cSl (cInt .i64))) 104 A32 c33 r23.1, .rowx true (cInt .i64) 3 (some ⟨g39, 0, none⟩) (Int.toNat (((List.length r23.1) : Nat) : Int)) x317.1 (List.replicate (Int.toNat (((List.length r23.1) : Nat) : Int) - Int.toNat (((List.length r23.1) : Nat) : Int)) (0 : Int)), .row true cBool 4 A177 c178 won176] ∧ x312 = x317)) ?_ ?_
   ·
    refine loopV (fun m316 a w315 => ∃ (out290 : List Int) (more291 : Bool) (x292 : Int), Fr a 85 [(6, .slice A32 (List.length r23.1) c33), (8, .slice (some ⟨g39, 0, none⟩) (List.length out290) (Int.toNat (((List.length r23.1) : Nat) : Int))), (9, .slice A177 (List.length won176) c178), (12, .int .i64 rank179), (13, .bool more291), (50, .slice A274 (List.length r265) c275), (51, .int .i64 (((List.length r265) : Nat) : Int)), (52, .int .i64 x292)] ∧ Hp S Fa w0 w315 [.row true (cSl (cSl (cInt .i64))) 104 A32 c33 r23.1, .rowx true (cInt .i64) 3 (some ⟨g39, 0, none⟩) (Int.toNat (((List.length r23.1) : Nat) : Int)) out290 (List.replicate (Int.toNat (((List.length r23.1) : Nat) : Int) - Int.toNat (((List.length r23.1) : Nat) : Int)) (0 : Int)), .row true cBool 4 A177 c178 won176, .row true cBool 4 A274 c275 r265] ∧ attract_Ranks_l2 N rank179 r265 m316 out290 more291 x292 = some x312) N ?_ ?_
    ·
     exact ⟨out175, false, 0, E.pick _ ⟨rfl, rfl, rfl, rfl, rfl, rfl, rfl, rfl, trivial⟩, H.sel [0, 1, 2, 3] rfl, hL313⟩
    clear E H hL313; intro m316 a w315 hI_
    obtain ⟨out290, more291, x292, E, H, hP⟩ := hI_
    obtain ⟨m311, rfl⟩ : ∃ q_, m316 = q_ + 1 := by cases m316 with | zero => rw [attract_Ranks_l2] at hP; cases hP | succ q_ => exact ⟨q_, rfl⟩
    rw [attract_Ranks_l2] at hP
    refine wp_seq ?_
    refine wp_region_lit ?_
    refine vr tbok 1 [] [(6, .slice A32 (List.length r23.1) c33), (8, .slice (some ⟨g39, 0, none⟩) (List.length out290) (Int.toNat (((List.length r23.1) : Nat) : Int))), (9, .slice A177 (List.length won176) c178), (12, .int .i64 rank179), (13, .bool more291), (50, .slice A274 (List.length r265) c275), (51, .int .i64 (((List.length r265) : Nat) : Int)), (52, .int .i64 x292), (53, .bool (decide (x292 < (((List.length r265) : Nat) : Int))))] [] E (by kernel_rfl) trivial ?_
    clear E; intro a E
    refine wpList_nil ?_
    refine th_n ?_
    refine wp_seq ?_
    refine E.cases (t := 53) rfl (fun hb_ E_ => ?_) (fun hb_ E_ => ?_)
    ·
     replace E := E_; clear E_
     have h318 : x292 < (((List.length r265) : Nat) : Int) := of_decide_eq_true hb_
     clear hb_; replace hP := ite_t h318 hP
     refine c_true E rfl ?_
     refine wp_skip ?_
     refine th_n ?_
     refine wp_seq ?_
     refine wp_block ?_
     refine wp_seq ?_
     refine wp_region_lit ?_
     obtain ⟨g319, hP⟩ := ask_inv hP
     obtain ⟨b320, e_b320⟩ := H.raddr 3 rfl (idx_pos g319)
     subst e_b320
     refine vr tbok 5 [.bool (List.getD r265 (Int.toNat x292) false)] [(6, .slice A32 (List.length r23.1) c33), (8, .slice (some ⟨g39, 0, none⟩) (List.length out290) (Int.toNat (((List.length r23.1) : Nat) : Int))), (9, .slice A177 (List.length won176) c178), (12, .int .i64 rank179), (13, .bool more291), (14, .int .i64 x292), (15, .bool (List.getD r265 (Int.toNat x292) false)), (50, .slice (some ⟨b320, 0, none⟩) (List.length r265) c275), (51, .int .i64 (((List.length r265) : Nat) : Int)), (52, .int .i64 x292)] [0 ≤ x292 ∧ x292 < (((List.length r265) : Nat) : Int), World.cell? w315 ⟨b320, 0 + (Int.toNat x292) * 1, none⟩ = some (.bool (List.getD r265 (Int.toNat x292) false))] E (by kernel_rfl) ⟨g319, Rds.at1 (H.rd 3 rds_row) false g319⟩ ?_
     clear E; intro a E
     refine wpList_nil ?_
     refine th_n ?_
     refine wp_seq ?_
     refine wp_region_lit ?_
     refine vr tbok 2 [] [(6, .slice A32 (List.length r23.1) c33), (8, .slice (some ⟨g39, 0, none⟩) (List.length out290) (Int.toNat (((List.length r23.1) : Nat) : Int))), (9, .slice A177 (List.length won176) c178), (12, .int .i64 rank179), (13, .bool more291), (14, .int .i64 x292), (50, .slice (some ⟨b320, 0, none⟩) (List.length r265) c275), (51, .int .i64 (((List.length r265) : Nat) : Int)), (52, .int .i64 x292), (58, .bool (List.getD r265 (Int.toNat x292) false))] [] E (by kernel_rfl) trivial ?_
     clear E; intro a E
     refine E.cases (t := 58) rfl (fun hb_ E_ => ?_) (fun hb_ E_ => ?_)
     ·
      replace E := E_; clear E_
      have h322 : (List.getD r265 (Int.toNat x292) false) = true := hb_
      clear hb_; replace hP := ite_t h322 hP
      obtain ⟨g323, hP⟩ := ask_inv hP
      refine vr tbok 6 [.int .i64 (List.getD out290 (Int.toNat x292) 0)] [(6, .slice A32 (List.length r23.1) c33), (8, .slice (some ⟨g39, 0, none⟩) (List.length out290) (Int.toNat (((List.length r23.1) : Nat) : Int))), (9, .slice A177 (List.length won176) c178), (12, .int .i64 rank179), (13, .bool more291), (14, .int .i64 x292), (50, .slice (some ⟨b320, 0, none⟩) (List.length r265) c275), (51, .int .i64 (((List.length r265) : Nat) : Int)), (52, .int .i64 x292), (64, .bool (decide ((List.getD out290 (Int.toNat x292) 0) < 0)))] [0 ≤ x292 ∧ x292 < (((List.length out290) : Nat) : Int), World.cell? w315 ⟨g39, 0 + (Int.toNat x292) * 1, none⟩ = some (.int .i64 (List.getD out290 (Int.toNat x292) 0))] E (by kernel_rfl) ⟨g323, Rds.at1 (H.rd 1 rds_rowx) 0 g323⟩ ?_
      clear E; intro a E
      refine wpList_nil ?_
      refine th_n ?_
      refine E.cases (t := 64) rfl (fun hb_ E_ => ?_) (fun hb_ E_ => ?_)
      ·
       replace E := E_; clear E_
       have h324 : (List.getD out290 (Int.toNat x292) 0) < 0 := of_decide_eq_true hb_
       clear hb_; replace hP := ite_t h324 hP
       refine c_true E rfl ?_
       refine wp_region_lit ?_
       refine vr tbok 4 [] [(6, .slice A32 (List.length r23.1) c33), (8, .slice (some ⟨g39, 0, none⟩) (List.length out290) (Int.toNat (((List.length r23.1) : Nat) : Int))), (9, .slice A177 (List.length won176) c178), (12, .int .i64 rank179), (50, .slice (some ⟨b320, 0, none⟩) (List.length r265) c275), (51, .int .i64 (((List.length r265) : Nat) : Int)), (52, .int .i64 x292), (67, .int .i64 rank179), (68, .pointer (some ⟨g39, 0 + (Int.toNat x292) * 1, none⟩))] [0 ≤ x292 ∧ x292 < (((List.length out290) : Nat) : Int)] E (by kernel_rfl) (g323) ?_
       clear E; intro a E
       refine h_setx (g := g39) (i := x292) rank179 H 1 rfl E rfl rfl rfl rfl tbok rfl (fun _ HF_ => rfl) rfl g323 rfl ?_
       clear E; intro w325 a hc326 H_ E
       replace H := H_; clear H_; try dsimp only [setn, addE, goneL] at H
       have hn327 : (List.length out290) = (List.length (List.set out290 (Int.toNat x292) rank179)) := by simp only [List.length_set]
       replace E := E.same (t := 8) (u := .slice (some ⟨g39, 0, none⟩) (List.length (List.set out290 (Int.toNat x292) rank179)) (Int.toNat (((List.length r23.1) : Nat) : Int))) rfl (congrArg (fun n_ => Value.slice (some ⟨g39, 0, none⟩) n_ (Int.toNat (((List.length r23.1) : Nat) : Int))) hn327)
       refine vr tbok 1 [] [(6, .slice A32 (List.length r23.1) c33), (8, .slice (some ⟨g39, 0, none⟩) (List.length (List.set out290 (Int.toNat x292) rank179)) (Int.toNat (((List.length r23.1) : Nat) : Int))), (9, .slice A177 (List.length won176) c178), (12, .int .i64 rank179), (13, .bool true), (50, .slice (some ⟨b320, 0, none⟩) (List.length r265) c275), (51, .int .i64 (((List.length r265) : Nat) : Int)), (52, .int .i64 x292)] [] E (by kernel_rfl) trivial ?_
       clear E; intro a E
       refine wpList_nil ?_
       refine bl_n ?_
       refine th_n ?_
       refine wp_region_lit ?_
       obtain ⟨g328, hP⟩ := ask_inv hP
       refine vr tbok 2 [.int .i64 (x292 + 1)] [(6, .slice A32 (List.length r23.1) c33), (8, .slice (some ⟨g39, 0, none⟩) (List.length (List.set out290 (Int.toNat x292) rank179)) (Int.toNat (((List.length r23.1) : Nat) : Int))), (9, .slice A177 (List.length won176) c178), (12, .int .i64 rank179), (13, .bool true), (50, .slice (some ⟨b320, 0, none⟩) (List.length r265) c275), (51, .int .i64 (((List.length r265) : Nat) : Int)), (52, .int .i64 (x292 + 1))] [IntKind.i64.wrap (x292 + 1) = x292 + 1] E (by kernel_rfl) (wrap_in g328) ?_
       clear E; intro a E
       refine wpList_nil ?_
       exact th_n ⟨m311, Nat.lt_succ_self _, List.set out290 (Int.toNat x292) rank179, true, x292 + 1, E.pick _ ⟨rfl, rfl, rfl, rfl, rfl, rfl, rfl, rfl, trivial⟩, H.sel [0, 1, 2, 3] rfl, hP⟩
      replace E := E_; clear E_
      have h329 : ¬ ((List.getD out290 (Int.toNat x292) 0) < 0) := of_decide_eq_false hb_
      clear hb_; replace hP := ite_f h329 hP
      refine c_false E rfl ?_
      refine wp_skip ?_
      refine bl_n ?_
      refine th_n ?_
      refine wp_region_lit ?_
      obtain ⟨g330, hP⟩ := ask_inv hP
      refine vr tbok 2 [.int .i64 (x292 + 1)] [(6, .slice A32 (List.length r23.1) c33), (8, .slice (some ⟨g39, 0, none⟩) (List.length out290) (Int.toNat (((List.length r23.1) : Nat) : Int))), (9, .slice A177 (List.length won176) c178), (12, .int .i64 rank179), (13, .bool more291), (50, .slice (some ⟨b320, 0, none⟩) (List.length r265) c275), (51, .int .i64 (((List.length r265) : Nat) : Int)), (52, .int .i64 (x292 + 1))] [IntKind.i64.wrap (x292 + 1) = x292 + 1] E (by kernel_rfl) (wrap_in g330) ?_
      clear E; intro a E
      refine wpList_nil ?_
      exact th_n ⟨m311, Nat.lt_succ_self _, out290, more291, x292 + 1, E.pick _ ⟨rfl, rfl, rfl, rfl, rfl, rfl, rfl, rfl, trivial⟩, H.sel [0, 1, 2, 3] rfl, hP⟩
     replace E := E_; clear E_
     have h331 : ¬ ((List.getD r265 (Int.toNat x292) false) = true) := (ne_true_of_eq_false hb_)
     clear hb_; replace hP := ite_f h331 hP
     refine vr tbok 6 [] [(6, .slice A32 (List.length r23.1) c33), (8, .slice (some ⟨g39, 0, none⟩) (List.length out290) (Int.toNat (((List.length r23.1) : Nat) : Int))), (9, .slice A177 (List.length won176) c178), (12, .int .i64 rank179), (13, .bool more291), (14, .int .i64 x292), (50, .slice (some ⟨b320, 0, none⟩) (List.length r265) c275), (51, .int .i64 (((List.length r265) : Nat) : Int)), (52, .int .i64 x292), (64, .bool false)] [] E (by kernel_rfl) trivial ?_
     clear E; intro a E
     refine wpList_nil ?_
     refine th_n ?_
     refine c_false E rfl ?_
     refine wp_skip ?_
     refine bl_n ?_
     refine th_n ?_
     refine wp_region_lit ?_
     obtain ⟨g332, hP⟩ := ask_inv hP
     refine vr tbok 2 [.int .i64 (x292 + 1)] [(6, .slice A32 (List.length r23.1) c33), (8, .slice (some ⟨g39, 0, none⟩) (List.length out290) (Int.toNat (((List.length r23.1) : Nat) : Int))), (9, .slice A177 (List.length won176) c178), (12, .int .i64 rank179), (13, .bool more291), (50, .slice (some ⟨b320, 0, none⟩) (List.length r265) c275), (51, .int .i64 (((List.length r265) : Nat) : Int)), (52, .int .i64 (x292 + 1))] [IntKind.i64.wrap (x292 + 1) = x292 + 1] E (by kernel_rfl) (wrap_in g332) ?_
     clear E; intro a E
     refine wpList_nil ?_
     exact th_n ⟨m311, Nat.lt_succ_self _, out290, more291, x292 + 1, E.pick _ ⟨rfl, rfl, rfl, rfl, rfl, rfl, rfl, rfl, trivial⟩, H.sel [0, 1, 2, 3] rfl, hP⟩
    replace E := E_; clear E_
    have h333 : ¬ (x292 < (((List.length r265) : Nat) : Int)) := of_decide_eq_false hb_
    clear hb_; replace hP := ite_f h333 hP
    refine c_false E rfl ?_
    refine wp_exit ?_
    refine th_exit ?_
    have hx_ := Option.some.inj hP
    refine th_exit (.inl ⟨4, rfl, ?_⟩)
    exact ⟨rfl, (out290, more291), E.pick _ ⟨rfl, rfl, rfl, rfl, rfl, trivial⟩, H.sel [0, 1, 2] rfl, hx_.symm⟩
   clear E H hL313; intro i_ a w315 hM_
   obtain ⟨rfl, x317, E, H, hx_⟩ := hM_
   subst hx_; have hP := hK314; clear hK314
   refine bl_hit ?_
   refine th_n ?_
   refine wp_seq ?_
   refine wp_region_lit ?_
   refine vr tbok 3 [] [(6, .slice A32 (List.length r23.1) c33), (8, .slice (some ⟨g39, 0, none⟩) (List.length x312.1) (Int.toNat (((List.length r23.1) : Nat) : Int))), (9, .slice A177 (List.length won176) c178), (12, .int .i64 rank179), (13, .bool x312.2), (71, .int .i64 (((List.length x312.1) : Nat) : Int)), (72, .int .i64 0)] [] E (by kernel_rfl) trivial ?_
   clear E; intro a E
   refine wpList_nil ?_
   refine th_n ?_
   refine wp_block ?_
   obtain ⟨x361, hL362, hK363⟩ := bind_inv hP
   clear hP
   refine loop_cut (fun i_ a w_ => (i_ = 6 ∧ ∃ (x366 : List Bool), ∃ (A358 : Option Addr) (c359 : Nat), Fr a 85 [(6, .slice A32 (List.length r23.1) c33), (8, .slice (some ⟨g39, 0, none⟩) (List.length x312.1) (Int.toNat (((List.length r23.1) : Nat) : Int))), (9, .slice A358 (List.length x366) c359), (12, .int .i64 rank179), (13, .bool x312.2)] ∧ Hp S Fa w0 w_ [.row true (cSl (cSl (cInt .i64))) 104 A32 c33 r23.1, .rowx true (cInt .i64) 3 (some ⟨g39, 0, none⟩) (Int.toNat (((List.length r23.1) : Nat) : Int)) x312.1 (List.replicate (Int.toNat (((List.length r23.1) : Nat) : Int) - Int.toNat (((List.length r23.1) : Nat) : Int)) (0 : Int)), .row true cBool 4 A358 c359 x366] ∧ x361 = x366)) ?_ ?_
   ·
    refine loopV (fun m365 a w364 => ∃ (won343 : List Bool) (x346 : Int), ∃ (A344 : Option Addr) (c345 : Nat), Fr a 85 [(6, .slice A32 (List.length r23.1) c33), (8, .slice (some ⟨g39, 0, none⟩) (List.length x312.1) (Int.toNat (((List.length r23.1) : Nat) : Int))), (9, .slice A344 (List.length won343) c345), (12, .int .i64 rank179), (13, .bool x312.2), (71, .int .i64 (((List.length x312.1) : Nat) : Int)), (72, .int .i64 x346)] ∧ Hp S Fa w0 w364 [.row true (cSl (cSl (cInt .i64))) 104 A32 c33 r23.1, .rowx true (cInt .i64) 3 (some ⟨g39, 0, none⟩) (Int.toNat (((List.length r23.1) : Nat) : Int)) x312.1 (List.replicate (Int.toNat (((List.length r23.1) : Nat) : Int) - Int.toNat (((List.length r23.1) : Nat) : Int)) (0 : Int)), .row true cBool 4 A344 c345 won343] ∧ attract_Ranks_l3 N x312 m365 won343 x346 = some x361) N ?_ ?_
    ·
     exact ⟨won176, 0, A177, c178, E.pick _ ⟨rfl, rfl, rfl, rfl, rfl, rfl, rfl, trivial⟩, H.sel [0, 1, 2] rfl, hL362⟩
    clear E H hL362; intro m365 a w364 hI_
    obtain ⟨won343, x346, A344, c345, E, H, hP⟩ := hI_
    obtain ⟨m360, rfl⟩ : ∃ q_, m365 = q_ + 1 := by cases m365 with | zero => rw [attract_Ranks_l3] at hP; cases hP | succ q_ => exact ⟨q_, rfl⟩
    rw [attract_Ranks_l3] at hP
    refine wp_seq ?_
    refine wp_region_lit ?_
    refine vr tbok 1 [] [(6, .slice A32 (List.length r23.1) c33), (8, .slice (some ⟨g39, 0, none⟩) (List.length x312.1) (Int.toNat (((List.length r23.1) : Nat) : Int))), (9, .slice A344 (List.length won343) c345), (12, .int .i64 rank179), (13, .bool x312.2), (71, .int .i64 (((List.length x312.1) : Nat) : Int)), (72, .int .i64 x346), (73, .bool (decide (x346 < (((List.length x312.1) : Nat) : Int))))] [] E (by kernel_rfl) trivial ?_
    clear E; intro a E
    refine wpList_nil ?_
    refine th_n ?_
    refine wp_seq ?_
    refine E.cases (t := 73) rfl (fun hb_ E_ => ?_) (fun hb_ E_ => ?_)
    ·
     replace E := E_; clear E_
     have h367 : x346 < (((List.length x312.1) : Nat) : Int) := of_decide_eq_true hb_
     clear hb_; replace hP := ite_t h367 hP
     refine c_true E rfl ?_
     refine wp_skip ?_
     refine th_n ?_
     refine wp_seq ?_
     refine wp_block ?_
     refine wp_seq ?_
     refine wp_region_lit ?_
     refine vr tbok 2 [] [(6, .slice A32 (List.length r23.1) c33), (8, .slice (some ⟨g39, 0, none⟩) (List.length x312.1) (Int.toNat (((List.length r23.1) : Nat) : Int))), (9, .slice A344 (List.length won343) c345), (12, .int .i64 rank179), (13, .bool x312.2), (16, .int .i64 x346), (71, .int .i64 (((List.length x312.1) : Nat) : Int)), (72, .int .i64 x346)] [] E (by kernel_rfl) trivial ?_
     clear E; intro a E
     refine wpList_nil ?_
     refine th_n ?_
     refine wp_region_lit ?_
     obtain ⟨g368, hP⟩ := ask_inv hP
     obtain ⟨g369, hP⟩ := ask_inv hP
     obtain ⟨b370, e_b370⟩ := H.raddr 2 rfl (idx_pos g369)
     subst e_b370
     refine vr tbok 8 [.int .i64 (List.getD x312.1 (Int.toNat x346) 0)] [(6, .slice A32 (List.length r23.1) c33), (8, .slice (some ⟨g39, 0, none⟩) (List.length x312.1) (Int.toNat (((List.length r23.1) : Nat) : Int))), (9, .slice (some ⟨b370, 0, none⟩) (List.length won343) c345), (12, .int .i64 rank179), (13, .bool x312.2), (71, .int .i64 (((List.length x312.1) : Nat) : Int)), (72, .int .i64 x346), (81, .bool (decide (0 ≤ (List.getD x312.1 (Int.toNat x346) 0)))), (82, .pointer (some ⟨b370, 0 + (Int.toNat x346) * 1, none⟩))] [0 ≤ x346 ∧ x346 < (((List.length x312.1) : Nat) : Int), World.cell? w364 ⟨g39, 0 + (Int.toNat x346) * 1, none⟩ = some (.int .i64 (List.getD x312.1 (Int.toNat x346) 0)), 0 ≤ x346 ∧ x346 < (((List.length won343) : Nat) : Int)] E (by kernel_rfl) ⟨g368, Rds.at1 (H.rd 1 rds_rowx) 0 g368, g369⟩ ?_
     clear E; intro a E
     refine h_set (g := b370) (i := x346) (decide (0 ≤ (List.getD x312.1 (Int.toNat x346) 0))) H 2 rfl E rfl rfl rfl rfl tbok rfl (fun _ HF_ => rfl) rfl g369 rfl ?_
     clear E; intro w372 a hc373 H_ E
     replace H := H_; clear H_; try dsimp only [setn, addE, goneL] at H
     have hn374 : (List.length won343) = (List.length (List.set won343 (Int.toNat x346) (decide (0 ≤ (List.getD x312.1 (Int.toNat x346) 0))))) := by simp only [List.length_set]
     replace E := E.same (t := 9) (u := .slice (some ⟨b370, 0, none⟩) (List.length (List.set won343 (Int.toNat x346) (decide (0 ≤ (List.getD x312.1 (Int.toNat x346) 0))))) c345) rfl (congrArg (fun n_ => Value.slice (some ⟨b370, 0, none⟩) n_ c345) hn374)
     refine wpList_nil ?_
     refine bl_n ?_
     refine th_n ?_
     refine wp_region_lit ?_
     obtain ⟨g375, hP⟩ := ask_inv hP
     refine vr tbok 2 [.int .i64 (x346 + 1)] [(6, .slice A32 (List.length r23.1) c33), (8, .slice (some ⟨g39, 0, none⟩) (List.length x312.1) (Int.toNat (((List.length r23.1) : Nat) : Int))), (9, .slice (some ⟨b370, 0, none⟩) (List.length (List.set won343 (Int.toNat x346) (decide (0 ≤ (List.getD x312.1 (Int.toNat x346) 0))))) c345), (12, .int .i64 rank179), (13, .bool x312.2), (71, .int .i64 (((List.length x312.1) : Nat) : Int)), (72, .int .i64 (x346 + 1))] [IntKind.i64.wrap (x346 + 1) = x346 + 1] E (by kernel_rfl) (wrap_in g375) ?_
     clear E; intro a E
     refine wpList_nil ?_
     exact th_n ⟨m360, Nat.lt_succ_self _, List.set won343 (Int.toNat x346) (decide (0 ≤ (List.getD x312.1 (Int.toNat x346) 0))), x346 + 1, (some ⟨b370, 0, none⟩), c345, E.pick _ ⟨rfl, rfl, rfl, rfl, rfl, rfl, rfl, trivial⟩, H.sel [0, 1, 2] rfl, hP⟩
    replace E := E_; clear E_
    have h376 : ¬ (x346 < (((List.length x312.1) : Nat) : Int)) := of_decide_eq_false hb_
    clear hb_; replace hP := ite_f h376 hP
    refine c_false E rfl ?_
    refine wp_exit ?_
    refine th_exit ?_
    have hx_ := Option.some.inj hP
    refine th_exit (.inl ⟨6, rfl, ?_⟩)
    exact ⟨rfl, won343, A344, c345, E.pick _ ⟨rfl, rfl, rfl, rfl, rfl, trivial⟩, H.sel [0, 1, 2] rfl, hx_.symm⟩
   clear E H hL362; intro i_ a w364 hM_
   obtain ⟨rfl, x366, A358, c359, E, H, hx_⟩ := hM_
   subst hx_; have hP := hK363; clear hK363
   refine bl_hit ?_
   refine bl_n ?_
   refine th_n ?_
   refine wp_region_lit ?_
   obtain ⟨g377, hP⟩ := ask_inv hP
   refine vr tbok 3 [.int .i64 (rank179 + 1)] [(6, .slice A32 (List.length r23.1) c33), (8, .slice (some ⟨g39, 0, none⟩) (List.length x312.1) (Int.toNat (((List.length r23.1) : Nat) : Int))), (9, .slice A358 (List.length x361) c359), (12, .int .i64 (rank179 + 1)), (13, .bool x312.2)] [IntKind.i64.wrap (rank179 + 1) = rank179 + 1] E (by kernel_rfl) (wrap_in g377) ?_
   clear E; intro a E
   refine wpList_nil ?_
   exact th_n ⟨m257, Nat.lt_succ_self _, x312.1, x361, rank179 + 1, x312.2, A358, c359, E.pick _ ⟨rfl, rfl, rfl, rfl, rfl, trivial⟩, H.sel [0, 1, 2] rfl, hP⟩
  replace E := E_; clear E_
  have h378 : ¬ (more180 = true) := (ne_true_of_eq_false hb_)
  clear hb_; replace hP := ite_f h378 hP
  refine c_false E rfl ?_
  refine wp_exit ?_
  refine th_exit ?_
  have hx_ := Option.some.inj hP
  refine th_exit (.inl ⟨2, rfl, ?_⟩)
  exact ⟨rfl, out175, E.pick _ ⟨rfl, trivial⟩, H.sel [1] rfl, hx_.symm⟩
 clear E H hL259; intro i_ a w261 hM_
 obtain ⟨rfl, x263, E, H, hx_⟩ := hM_
 subst hx_; have hP := hK260; clear hK260
 refine bl_hit ?_
 refine th_n ?_
 refine wp_seq ?_
 refine wp_region_lit ?_
 refine vr tbok 3 [] [(4, .slice (some ⟨g39, 0, none⟩) (List.length x258) (Int.toNat (((List.length r23.1) : Nat) : Int))), (5, .int .i64 0)] [] E (by kernel_rfl) trivial ?_
 clear E; intro a E
 refine wpList_nil ?_
 refine th_n ?_
 refine wp_ret ?_
 replace H := H.rowx 0 rfl; try dsimp only [setn, addE, goneL] at H
 obtain rfl := Option.some.inj hP
 refine ret2 E rfl rfl rfl ?_
 exact ⟨_, rfl, (some ⟨g39, 0, none⟩), (Int.toNat (((List.length r23.1) : Nat) : Int)), rfl, H.sel [0] rfl⟩

/-! rejoinder/strat.best -/
def strat_best_f1 (N : Nat) (row : List Int) (ranks : List Int) (x35 : Int) (x36 : Int) : Option Bool :=
    if x35 < 0 then
      some true
    else
      ask (idx x35 (List.length row)) <|
      ask (idx (List.getD row (Int.toNat x35) 0) (List.length ranks)) <|
      some (decide ((List.getD ranks (Int.toNat (List.getD row (Int.toNat x36) 0)) 0) < (List.getD ranks (Int.toNat (List.getD row (Int.toNat x35) 0)) 0)))
def strat_best_l0 (N : Nat) (row : List Int) (ranks : List Int) : Nat → Int → Int → Option Int
  | 0, _, _ => none
  | m67 + 1, x35, x36 =>
    if x36 < (((List.length row) : Nat) : Int) then
      ask (idx x36 (List.length row)) <|
      ask (idx (List.getD row (Int.toNat x36) 0) (List.length ranks)) <|
      if 0 ≤ (List.getD ranks (Int.toNat (List.getD row (Int.toNat x36) 0)) 0) then
        Option.bind (strat_best_f1 N row ranks x35 x36) fun x94 =>
        if x94 = true then
          ask (in64 (x36 + 1)) <|
          strat_best_l0 N row ranks m67 x36 (x36 + 1)
        else
          ask (in64 (x36 + 1)) <|
          strat_best_l0 N row ranks m67 x35 (x36 + 1)
      else
        ask (in64 (x36 + 1)) <|
        strat_best_l0 N row ranks m67 x35 (x36 + 1)
    else
      some x35
def strat_best (N : Nat) (row : List Int) (ranks : List Int) : Option Int :=
  Option.bind (strat_best_l0 N row ranks N (-1) 0) fun x68 =>
  some x68
set_option maxRecDepth 100000 in
set_option maxHeartbeats 4000000 in
theorem strat_best_calls {N : Nat} {S Fa : Nat → Prop} {w0 : World} {r : Int} (A1 : Option Addr) (c2 : Nat) (A5 : Option Addr) (c6 : Nat) (row : List Int) (ranks : List Int) (hk3 : List.length row ≤ c2) (hk7 : List.length ranks ≤ c6) (H : Hp S Fa w0 w0 [.ro false (cInt .i64) A1 row, .ro false (cInt .i64) A5 ranks]) (hP : strat_best N row ranks = some r) :
    Calls Try.prog 80 #[.slice A1 (List.length row) c2, .slice A5 (List.length ranks) c6] w0 fun e w' => ∃ v, e = .returned v ∧ v = .int .i64 r ∧ Hp S Fa w0 w' [] := by
 refine enterV (n := 31) Try.func80 rfl rfl rfl ?_
 intro a E
 replace E := E.pick [(0, .slice A1 (List.length row) c2), (1, .slice A5 (List.length ranks) c6)] ⟨rfl, rfl, trivial⟩
 rw [strat_best] at hP
 refine wp_seq ?_
 refine wp_region_lit ?_
 refine h_box H E rfl rfl rfl ?_
 intro w10 g9 a hc11 hg13 H_ E_
 replace E := E_ _ rfl; clear E_
 replace H := H_; clear H_; try dsimp only [setn, addE, goneL] at H
 refine h_box H E rfl rfl rfl ?_
 intro w15 g14 a hc16 hg18 H_ E_
 replace E := E_ _ rfl; clear E_
 replace H := H_; clear H_; try dsimp only [setn, addE, goneL] at H
 refine vr tbok 1 [] [(2, .pointer (some ⟨g9, 0, none⟩)), (3, .pointer (some ⟨g14, 0, none⟩))] [] E (by kernel_rfl) trivial ?_
 clear E; intro a E
 refine wpList_nil ?_
 refine th_n ?_
 refine wp_seq ?_
 refine wp_region_lit ?_
 refine e_makeFunc (vs := [.pointer (some ⟨g14, 0, none⟩), .pointer (some ⟨g9, 0, none⟩)]) E rfl rfl rfl rfl ?_
 clear E; intro a E
 refine vr tbok 1 [] [(2, .pointer (some ⟨g9, 0, none⟩)), (3, .pointer (some ⟨g14, 0, none⟩)), (5, .func (.func 94) #[] #[.pointer (some ⟨g14, 0, none⟩), .pointer (some ⟨g9, 0, none⟩)])] [] E (by kernel_rfl) trivial ?_
 clear E; intro a E
 refine wpList_nil ?_
 refine th_n ?_
 refine wp_seq ?_
 refine wp_region_lit ?_
 refine vr tbok 1 [] [(2, .pointer (some ⟨g9, 0, none⟩)), (3, .pointer (some ⟨g14, 0, none⟩)), (5, .func (.func 94) #[] #[.pointer (some ⟨g14, 0, none⟩), .pointer (some ⟨g9, 0, none⟩)]), (6, .int .i64 (-1))] [] E (by kernel_rfl) trivial ?_
 clear E; intro a E
 refine wpList_nil ?_
 refine th_n ?_
 refine wp_seq ?_
 refine wp_seq ?_
 refine wp_region_lit ?_
 refine vr tbok 3 [.slice A1 (List.length row) c2] [(3, .pointer (some ⟨g14, 0, none⟩)), (5, .func (.func 94) #[] #[.pointer (some ⟨g14, 0, none⟩), .pointer (some ⟨g9, 0, none⟩)]), (6, .int .i64 (-1)), (10, .slice A1 (List.length row) c2), (11, .int .i64 (((List.length row) : Nat) : Int)), (12, .int .i64 0)] [World.cell? w15 ⟨g9, 0, none⟩ = some (.slice A1 (List.length row) c2)] E (by kernel_rfl) ((H.box 2 rfl).cell (j := 0) rfl) ?_
 clear E; intro a E
 refine wpList_nil ?_
 refine th_n ?_
 refine wp_block ?_
 obtain ⟨x68, hL69, hK70⟩ := bind_inv hP
 clear hP
 refine loop_cut (fun i_ a w_ => (i_ = 0 ∧ ∃ (x73 : Int), Fr a 31 [(6, .int .i64 x73)] ∧ Hp S Fa w0 w_ [] ∧ x68 = x73)) ?_ ?_
 ·
  refine loopV (fun m72 a w71 => ∃ (x35 : Int) (x36 : Int), Fr a 31 [(3, .pointer (some ⟨g14, 0, none⟩)), (5, .func (.func 94) #[] #[.pointer (some ⟨g14, 0, none⟩), .pointer (some ⟨g9, 0, none⟩)]), (6, .int .i64 x35), (10, .slice A1 (List.length row) c2), (11, .int .i64 (((List.length row) : Nat) : Int)), (12, .int .i64 x36)] ∧ Hp S Fa w0 w71 [.ro false (cInt .i64) A5 ranks, .box g14 23 [.slice A5 (List.length ranks) c6], .ro false (cInt .i64) A1 row, .box g9 23 [.slice A1 (List.length row) c2]] ∧ strat_best_l0 N row ranks m72 x35 x36 = some x68) N ?_ ?_
  ·
   exact ⟨-1, 0, E.pick _ ⟨rfl, rfl, rfl, rfl, rfl, rfl, trivial⟩, H.sel [1, 3, 0, 2] rfl, hL69⟩
  clear E H hL69; intro m72 a w71 hI_
  obtain ⟨x35, x36, E, H, hP⟩ := hI_
  obtain ⟨m67, rfl⟩ : ∃ q_, m72 = q_ + 1 := by cases m72 with | zero => rw [strat_best_l0] at hP; cases hP | succ q_ => exact ⟨q_, rfl⟩
  rw [strat_best_l0] at hP
  refine wp_seq ?_
  refine wp_region_lit ?_
  refine vr tbok 1 [] [(3, .pointer (some ⟨g14, 0, none⟩)), (5, .func (.func 94) #[] #[.pointer (some ⟨g14, 0, none⟩), .pointer (some ⟨g9, 0, none⟩)]), (6, .int .i64 x35), (10, .slice A1 (List.length row) c2), (11, .int .i64 (((List.length row) : Nat) : Int)), (12, .int .i64 x36), (13, .bool (decide (x36 < (((List.length row) : Nat) : Int))))] [] E (by kernel_rfl) trivial ?_
  clear E; intro a E
  refine wpList_nil ?_
  refine th_n ?_
  refine wp_seq ?_
  refine E.cases (t := 13) rfl (fun hb_ E_ => ?_) (fun hb_ E_ => ?_)
  ·
   replace E := E_; clear E_
   have h74 : x36 < (((List.length row) : Nat) : Int) := of_decide_eq_true hb_
   clear hb_; replace hP := ite_t h74 hP
   refine c_true E rfl ?_
   refine wp_skip ?_
   refine th_n ?_
   refine wp_seq ?_
   refine wp_block ?_
   refine wp_seq ?_
   refine wp_region_lit ?_
   obtain ⟨g75, hP⟩ := ask_inv hP
   obtain ⟨b76, o77, e_b76⟩ := (H.rd 2 rds_ro).addr (idx_pos g75)
   subst e_b76
   refine vr tbok 5 [.int .i64 (List.getD row (Int.toNat x36) 0)] [(3, .pointer (some ⟨g14, 0, none⟩)), (5, .func (.func 94) #[] #[.pointer (some ⟨g14, 0, none⟩), .pointer (some ⟨g9, 0, none⟩)]), (6, .int .i64 x35), (7, .int .i64 x36), (8, .int .i64 (List.getD row (Int.toNat x36) 0)), (10, .slice (some ⟨b76, o77, none⟩) (List.length row) c2), (11, .int .i64 (((List.length row) : Nat) : Int)), (12, .int .i64 x36)] [0 ≤ x36 ∧ x36 < (((List.length row) : Nat) : Int), World.cell? w71 ⟨b76, o77 + (Int.toNat x36) * 1, none⟩ = some (.int .i64 (List.getD row (Int.toNat x36) 0))] E (by kernel_rfl) ⟨g75, Rds.at1 (H.rd 2 rds_ro) 0 g75⟩ ?_
   clear E; intro a E
   refine wpList_nil ?_
   refine th_n ?_
   refine wp_seq ?_
   refine wp_region_lit ?_
   obtain ⟨g78, hP⟩ := ask_inv hP
   obtain ⟨b79, o80, e_b79⟩ := (H.rd 0 rds_ro).addr (idx_pos g78)
   subst e_b79
   refine vr tbok 6 [.slice (some ⟨b79, o80, none⟩) (List.length ranks) c6, .int .i64 (List.getD ranks (Int.toNat (List.getD row (Int.toNat x36) 0)) 0)] [(3, .pointer (some ⟨g14, 0, none⟩)), (5, .func (.func 94) #[] #[.pointer (some ⟨g14, 0, none⟩), .pointer (some ⟨g9, 0, none⟩)]), (6, .int .i64 x35), (7, .int .i64 x36), (10, .slice (some ⟨b76, o77, none⟩) (List.length row) c2), (11, .int .i64 (((List.length row) : Nat) : Int)), (12, .int .i64 x36), (22, .bool (decide (0 ≤ (List.getD ranks (Int.toNat (List.getD row (Int.toNat x36) 0)) 0))))] [World.cell? w71 ⟨g14, 0, none⟩ = some (.slice (some ⟨b79, o80, none⟩) (List.length ranks) c6), 0 ≤ (List.getD row (Int.toNat x36) 0) ∧ (List.getD row (Int.toNat x36) 0) < (((List.length ranks) : Nat) : Int), World.cell? w71 ⟨b79, o80 + (Int.toNat (List.getD row (Int.toNat x36) 0)) * 1, none⟩ = some (.int .i64 (List.getD ranks (Int.toNat (List.getD row (Int.toNat x36) 0)) 0))] E (by kernel_rfl) ⟨(H.box 1 rfl).cell (j := 0) rfl, g78, Rds.at1 (H.rd 0 rds_ro) 0 g78⟩ ?_
   clear E; intro a E
   refine E.cases (t := 22) rfl (fun hb_ E_ => ?_) (fun hb_ E_ => ?_)
   ·
    replace E := E_; clear E_
    have h81 : 0 ≤ (List.getD ranks (Int.toNat (List.getD row (Int.toNat x36) 0)) 0) := of_decide_eq_true hb_
    clear hb_; replace hP := ite_t h81 hP
    refine vr tbok 3 [] [(3, .pointer (some ⟨g14, 0, none⟩)), (5, .func (.func 94) #[] #[.pointer (some ⟨g14, 0, none⟩), .pointer (some ⟨g9, 0, none⟩)]), (6, .int .i64 x35), (7, .int .i64 x36), (10, .slice (some ⟨b76, o77, none⟩) (List.length row) c2), (11, .int .i64 (((List.length row) : Nat) : Int)), (12, .int .i64 x36), (22, .bool true), (23, .func (.func 94) #[] #[.pointer (some ⟨g14, 0, none⟩), .pointer (some ⟨g9, 0, none⟩)]), (24, .int .i64 x36), (25, .int .i64 x35)] [] E (by kernel_rfl) trivial ?_
    clear E; intro a E
    obtain ⟨x94, h95, hP⟩ := bind_inv hP
    refine e_callv (R := fun v_ w_ => ∃ (x96 : Bool), v_ = .bool x96 ∧ Hp S Fa w0 w_ [.ro false (cInt .i64) (some ⟨b79, o80, none⟩) ranks, .box g14 23 [.slice (some ⟨b79, o80, none⟩) (List.length ranks) c6], .ro false (cInt .i64) (some ⟨b76, o77, none⟩) row, .box g9 23 [.slice (some ⟨b76, o77, none⟩) (List.length row) c2]] ∧ x94 = x96) E rfl rfl rfl Try.func94 rfl rfl rfl ?_ ?_
    ·
     clear E hP; have hP := h95; clear h95; rw [strat_best_f1] at hP
     refine enterV (n := 26) Try.func94 rfl rfl rfl ?_
     intro a E
     replace E := E.pick [(0, .int .i64 x36), (1, .int .i64 x35), (2, .pointer (some ⟨g14, 0, none⟩)), (3, .pointer (some ⟨g9, 0, none⟩))] ⟨rfl, rfl, rfl, rfl, trivial⟩
     refine wp_seq ?_
     refine wp_region_lit ?_
     refine vr tbok 1 [] [(0, .int .i64 x36), (1, .int .i64 x35), (2, .pointer (some ⟨g14, 0, none⟩)), (3, .pointer (some ⟨g9, 0, none⟩))] [] E (by kernel_rfl) trivial ?_
     clear E; intro a E
     refine wpList_nil ?_
     refine th_n ?_
     refine wp_seq ?_
     by_cases h97 : x35 < 0
     ·
      replace hP := ite_t h97 hP
      have HR101 := H
      refine dr_start (S := fun w_ => Chg (atL []) w71 w_) (by kernel_rfl) ?_
      intro w98 hc99
      have HS100 : Chg (atL []) w71 w98 := hc99.mono (fun _ _ h_ => h_.elim)
      replace H := H.ext hc99
      refine dr tbok (by kernel_rfl) [0, 1, 2] [] [(0, .int .i64 x36), (1, .int .i64 x35), (2, .pointer (some ⟨g14, 0, none⟩)), (3, .pointer (some ⟨g9, 0, none⟩)), (9, .bool (decide (x35 < 0)))] (fun w_ => []) 17 E (fun _ _ => by kernel_rfl) (fun w_ hS_ => trivial) (by kernel_rfl) HS100 ?_
      clear E; intro a E
      replace E := E.same (t := 9) (u := .bool true) rfl (congrArg Value.bool (decide_eq_true h97))
      refine dr tbok (by kernel_rfl) [3, 4, 5, 6, 7, 8, 9, 10, 11, 12, 13, 14, 15, 16, 17, 18, 19] [] [(6, .bool true), (9, .bool true)] (fun w_ => []) 0 E (fun _ _ => by kernel_rfl) (fun w_ hS_ => trivial) (by kernel_rfl) HS100 ?_
      clear E; intro a E
      refine dr_done (by kernel_rfl) ?_
      clear HS100 HR101
      refine th_n ?_
      refine wp_ret ?_
      have hx_ := Option.some.inj hP
      refine ret1 E rfl rfl ?_
      exact ⟨_, rfl, true, rfl, H.sel [0, 1, 2, 3] rfl, hx_.symm⟩
     replace hP := ite_f h97 hP
     obtain ⟨g102, hP⟩ := ask_inv hP
     obtain ⟨g103, hP⟩ := ask_inv hP
     have HR107 := H
     refine dr_start (S := fun w_ => Chg (atL []) w71 w_) (by kernel_rfl) ?_
     intro w104 hc105
     have HS106 : Chg (atL []) w71 w104 := hc105.mono (fun _ _ h_ => h_.elim)
     replace H := H.ext hc105
     refine dr tbok (by kernel_rfl) [0, 1, 2] [] [(0, .int .i64 x36), (1, .int .i64 x35), (2, .pointer (some ⟨g14, 0, none⟩)), (3, .pointer (some ⟨g9, 0, none⟩)), (9, .bool (decide (x35 < 0)))] (fun w_ => []) 17 E (fun _ _ => by kernel_rfl) (fun w_ hS_ => trivial) (by kernel_rfl) HS106 ?_
     clear E; intro a E
     replace E := E.same (t := 9) (u := .bool false) rfl (congrArg Value.bool (decide_eq_false h97))
     refine dr tbok (by kernel_rfl) [3, 4, 5, 6, 7, 8, 9, 10, 11, 12, 13, 14, 15, 16, 17, 18, 19] [.slice (some ⟨b79, o80, none⟩) (List.length ranks) c6, .slice (some ⟨b76, o77, none⟩) (List.length row) c2, .int .i64 (List.getD row (Int.toNat x36) 0), .int .i64 (List.getD ranks (Int.toNat (List.getD row (Int.toNat x36) 0)) 0), .slice (some ⟨b79, o80, none⟩) (List.length ranks) c6, .slice (some ⟨b76, o77, none⟩) (List.length row) c2, .int .i64 (List.getD row (Int.toNat x35) 0), .int .i64 (List.getD ranks (Int.toNat (List.getD row (Int.toNat x35) 0)) 0)] [(6, .bool (decide ((List.getD ranks (Int.toNat (List.getD row (Int.toNat x36) 0)) 0) < (List.getD ranks (Int.toNat (List.getD row (Int.toNat x35) 0)) 0)))), (9, .bool false)] (fun w_ => [World.cell? w_ ⟨g14, 0, none⟩ = some (.slice (some ⟨b79, o80, none⟩) (List.length ranks) c6), World.cell? w_ ⟨g9, 0, none⟩ = some (.slice (some ⟨b76, o77, none⟩) (List.length row) c2), 0 ≤ x36 ∧ x36 < (((List.length row) : Nat) : Int), World.cell? w_ ⟨b76, o77 + (Int.toNat x36) * 1, none⟩ = some (.int .i64 (List.getD row (Int.toNat x36) 0)), 0 ≤ (List.getD row (Int.toNat x36) 0) ∧ (List.getD row (Int.toNat x36) 0) < (((List.length ranks) : Nat) : Int), World.cell? w_ ⟨b79, o80 + (Int.toNat (List.getD row (Int.toNat x36) 0)) * 1, none⟩ = some (.int .i64 (List.getD ranks (Int.toNat (List.getD row (Int.toNat x36) 0)) 0)), World.cell? w_ ⟨g14, 0, none⟩ = some (.slice (some ⟨b79, o80, none⟩) (List.length ranks) c6), World.cell? w_ ⟨g9, 0, none⟩ = some (.slice (some ⟨b76, o77, none⟩) (List.length row) c2), 0 ≤ x35 ∧ x35 < (((List.length row) : Nat) : Int), World.cell? w_ ⟨b76, o77 + (Int.toNat x35) * 1, none⟩ = some (.int .i64 (List.getD row (Int.toNat x35) 0)), 0 ≤ (List.getD row (Int.toNat x35) 0) ∧ (List.getD row (Int.toNat x35) 0) < (((List.length ranks) : Nat) : Int), World.cell? w_ ⟨b79, o80 + (Int.toNat (List.getD row (Int.toNat x35) 0)) * 1, none⟩ = some (.int .i64 (List.getD ranks (Int.toNat (List.getD row (Int.toNat x35) 0)) 0))]) 0 E (fun _ _ => by kernel_rfl) (fun w_ hS_ => ⟨(HR107.boxk [] hS_ 1 rfl rfl).cell (j := 0) rfl, (HR107.boxk [] hS_ 3 rfl rfl).cell (j := 0) rfl, g75, Rds.at1 (HR107.rdk [] hS_ 2 rds_ro rfl) 0 g75, g78, Rds.at1 (HR107.rdk [] hS_ 0 rds_ro rfl) 0 g78, (HR107.boxk [] hS_ 1 rfl rfl).cell (j := 0) rfl, (HR107.boxk [] hS_ 3 rfl rfl).cell (j := 0) rfl, g102, Rds.at1 (HR107.rdk [] hS_ 2 rds_ro rfl) 0 g102, g103, Rds.at1 (HR107.rdk [] hS_ 0 rds_ro rfl) 0 g103⟩) (by kernel_rfl) HS106 ?_
     clear E; intro a E
     refine dr_done (by kernel_rfl) ?_
     clear HS106 HR107
     refine th_n ?_
     refine wp_ret ?_
     have hx_ := Option.some.inj hP
     refine ret1 E rfl rfl ?_
     exact ⟨_, rfl, decide ((List.getD ranks (Int.toNat (List.getD row (Int.toNat x36) 0)) 0) < (List.getD ranks (Int.toNat (List.getD row (Int.toNat x35) 0)) 0)), rfl, H.sel [0, 1, 2, 3] rfl, hx_.symm⟩
    clear H
    rintro v109 w108 a ⟨x96, rfl, H, hx_⟩ E_
    subst hx_
    replace E := E_ _ rfl; clear E_
    refine vr tbok 1 [] [(3, .pointer (some ⟨g14, 0, none⟩)), (5, .func (.func 94) #[] #[.pointer (some ⟨g14, 0, none⟩), .pointer (some ⟨g9, 0, none⟩)]), (6, .int .i64 x35), (7, .int .i64 x36), (10, .slice (some ⟨b76, o77, none⟩) (List.length row) c2), (11, .int .i64 (((List.length row) : Nat) : Int)), (12, .int .i64 x36), (27, .bool x94)] [] E (by kernel_rfl) trivial ?_
    clear E; intro a E
    refine wpList_nil ?_
    refine th_n ?_
    refine E.cases (t := 27) rfl (fun hb_ E_ => ?_) (fun hb_ E_ => ?_)
    ·
     replace E := E_; clear E_
     have h110 : x94 = true := hb_
     clear hb_; replace hP := ite_t h110 hP
     refine c_true E rfl ?_
     refine wp_region_lit ?_
     refine vr tbok 2 [] [(3, .pointer (some ⟨g14, 0, none⟩)), (5, .func (.func 94) #[] #[.pointer (some ⟨g14, 0, none⟩), .pointer (some ⟨g9, 0, none⟩)]), (6, .int .i64 x36), (10, .slice (some ⟨b76, o77, none⟩) (List.length row) c2), (11, .int .i64 (((List.length row) : Nat) : Int)), (12, .int .i64 x36)] [] E (by kernel_rfl) trivial ?_
     clear E; intro a E
     refine wpList_nil ?_
     refine bl_n ?_
     refine th_n ?_
     refine wp_region_lit ?_
     obtain ⟨g111, hP⟩ := ask_inv hP
     refine vr tbok 2 [.int .i64 (x36 + 1)] [(3, .pointer (some ⟨g14, 0, none⟩)), (5, .func (.func 94) #[] #[.pointer (some ⟨g14, 0, none⟩), .pointer (some ⟨g9, 0, none⟩)]), (6, .int .i64 x36), (10, .slice (some ⟨b76, o77, none⟩) (List.length row) c2), (11, .int .i64 (((List.length row) : Nat) : Int)), (12, .int .i64 (x36 + 1))] [IntKind.i64.wrap (x36 + 1) = x36 + 1] E (by kernel_rfl) (wrap_in g111) ?_
     clear E; intro a E
     refine wpList_nil ?_
     exact th_n ⟨m67, Nat.lt_succ_self _, x36, x36 + 1, E.pick _ ⟨rfl, rfl, rfl, rfl, rfl, rfl, trivial⟩, H.sel [0, 1, 2, 3] rfl, hP⟩
    replace E := E_; clear E_
    have h112 : ¬ (x94 = true) := (ne_true_of_eq_false hb_)
    clear hb_; replace hP := ite_f h112 hP
    refine c_false E rfl ?_
    refine wp_skip ?_
    refine bl_n ?_
    refine th_n ?_
    refine wp_region_lit ?_
    obtain ⟨g113, hP⟩ := ask_inv hP
    refine vr tbok 2 [.int .i64 (x36 + 1)] [(3, .pointer (some ⟨g14, 0, none⟩)), (5, .func (.func 94) #[] #[.pointer (some ⟨g14, 0, none⟩), .pointer (some ⟨g9, 0, none⟩)]), (6, .int .i64 x35), (10, .slice (some ⟨b76, o77, none⟩) (List.length row) c2), (11, .int .i64 (((List.length row) : Nat) : Int)), (12, .int .i64 (x36 + 1))] [IntKind.i64.wrap (x36 + 1) = x36 + 1] E (by kernel_rfl) (wrap_in g113) ?_
    clear E; intro a E
    refine wpList_nil ?_
    exact th_n ⟨m67, Nat.lt_succ_self _, x35, x36 + 1, E.pick _ ⟨rfl, rfl, rfl, rfl, rfl, rfl, trivial⟩, H.sel [0, 1, 2, 3] rfl, hP⟩
   replace E := E_; clear E_
   have h114 : ¬ (0 ≤ (List.getD ranks (Int.toNat (List.getD row (Int.toNat x36) 0)) 0)) := of_decide_eq_false hb_
   clear hb_; replace hP := ite_f h114 hP
   refine vr tbok 5 [] [(3, .pointer (some ⟨g14, 0, none⟩)), (5, .func (.func 94) #[] #[.pointer (some ⟨g14, 0, none⟩), .pointer (some ⟨g9, 0, none⟩)]), (6, .int .i64 x35), (7, .int .i64 x36), (10, .slice (some ⟨b76, o77, none⟩) (List.length row) c2), (11, .int .i64 (((List.length row) : Nat) : Int)), (12, .int .i64 x36), (27, .bool false)] [] E (by kernel_rfl) trivial ?_
   clear E; intro a E
   refine wpList_nil ?_
   refine th_n ?_
   refine c_false E rfl ?_
   refine wp_skip ?_
   refine bl_n ?_
   refine th_n ?_
   refine wp_region_lit ?_
   obtain ⟨g115, hP⟩ := ask_inv hP
   refine vr tbok 2 [.int .i64 (x36 + 1)] [(3, .pointer (some ⟨g14, 0, none⟩)), (5, .func (.func 94) #[] #[.pointer (some ⟨g14, 0, none⟩), .pointer (some ⟨g9, 0, none⟩)]), (6, .int .i64 x35), (10, .slice (some ⟨b76, o77, none⟩) (List.length row) c2), (11, .int .i64 (((List.length row) : Nat) : Int)), (12, .int .i64 (x36 + 1))] [IntKind.i64.wrap (x36 + 1) = x36 + 1] E (by kernel_rfl) (wrap_in g115) ?_
   clear E; intro a E
   refine wpList_nil ?_
   exact th_n ⟨m67, Nat.lt_succ_self _, x35, x36 + 1, E.pick _ ⟨rfl, rfl, rfl, rfl, rfl, rfl, trivial⟩, H.sel [0, 1, 2, 3] rfl, hP⟩
  replace E := E_; clear E_
  have h116 : ¬ (x36 < (((List.length row) : Nat) : Int)) := of_decide_eq_false hb_
  clear hb_; replace hP := ite_f h116 hP
  refine c_false E rfl ?_
  refine wp_exit ?_
  refine th_exit ?_
  have hx_ := Option.some.inj hP
  refine th_exit (.inl ⟨0, rfl, ?_⟩)
  exact ⟨rfl, x35, E.pick _ ⟨rfl, trivial⟩, H.sel [] rfl, hx_.symm⟩
 clear E H hL69; intro i_ a w71 hM_
 obtain ⟨rfl, x73, E, H, hx_⟩ := hM_
 subst hx_; have hP := hK70; clear hK70
 refine bl_hit ?_
 refine th_n ?_
 refine wp_seq ?_
 refine wp_region_lit ?_
 refine vr tbok 2 [] [(4, .int .i64 x68)] [] E (by kernel_rfl) trivial ?_
 clear E; intro a E
 refine wpList_nil ?_
 refine th_n ?_
 refine wp_ret ?_
 obtain rfl := Option.some.inj hP
 refine ret1 E rfl rfl ?_
 exact ⟨_, rfl, rfl, H.sel [] rfl⟩

end Go.V
