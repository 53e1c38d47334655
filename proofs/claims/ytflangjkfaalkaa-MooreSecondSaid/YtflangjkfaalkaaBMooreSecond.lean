/- Plain functions, and the calls that give them. -/
import Derived.Test.YtflangjkfaalkaaA9
set_option linter.all false
set_option linter.unusedVariables false
set_option linter.unnecessarySimpa false
set_option linter.unusedSimpArgs false
namespace Go.V
open Go Go.Proofs
/-! rejoinder/rejoinderlaw26.MooreSecond -/
def law26_MooreSecond_l0 (N : Nat) (r43 : (List Int) × Int) (r55 : (List Int) × Int) : Nat → Int → Option (Unit ⊕ Bool)
  | 0, _ => none
  | m122 + 1, q95 =>
    if q95 < (((List.length r43.1) : Nat) : Int) then
      ask (idx q95 (List.length r43.1)) <|
      if 0 ≤ (List.getD r43.1 (Int.toNat q95) 0) then
        ask (idx q95 (List.length r55.1)) <|
        if (List.getD r55.1 (Int.toNat q95) 0) < 0 then
          some (Sum.inr false)
        else
          if (List.getD r43.1 (Int.toNat q95) 0) < (List.getD r55.1 (Int.toNat q95) 0) then
            some (Sum.inr false)
          else
            ask (in64 (q95 + 1)) <|
            law26_MooreSecond_l0 N r43 r55 m122 (q95 + 1)
      else
        ask (in64 (q95 + 1)) <|
        law26_MooreSecond_l0 N r43 r55 m122 (q95 + 1)
    else
      some (Sum.inl ())
def law26_MooreSecond (N : Nat) (aProps : Int) (aAccept : List Bool) (aGuard : List Int) (aNodes : List Nd) (s : Int × Int) : Option Bool :=
  Option.bind (law26_awake N) fun r23 =>
  Option.bind (law16_Small N aProps aAccept aGuard aNodes) fun r32 =>
  if r32 = true then
    Option.bind (moore_Ranks N aProps aAccept aGuard aNodes (s.1, s.2)) fun r43 =>
    Option.bind (attract_Ranks N aProps aAccept aGuard aNodes (s.1, s.2)) fun r55 =>
    if (r43.2 : Int) = r55.2 then
      if ((((List.length r43.1) : Nat) : Int) : Int) = (((List.length r55.1) : Nat) : Int) then
        Option.bind (law26_MooreSecond_l0 N r43 r55 N 0) fun x123 =>
        Sum.elim (fun x128 =>
          some r23)
         (fun x155 =>
          some x155) x123
      else
        some false
    else
      some false
  else
    some r23
set_option maxRecDepth 100000 in
set_option maxHeartbeats 4000000 in
theorem law26_MooreSecond_calls {N : Nat} {S Fa : Nat → Prop} {w0 : World} {r : Bool} (A1 : Option Addr) (c2 : Nat) (A5 : Option Addr) (c6 : Nat) (A9 : Option Addr) (c10 : Nat) (aProps : Int) (aAccept : List Bool) (aGuard : List Int) (aNodes : List Nd) (s : Int × Int) (hk3 : List.length aAccept ≤ c2) (hk7 : List.length aGuard ≤ c6) (hk11 : List.length aNodes ≤ c10) (H : Hp S Fa w0 w0 [.ro false cBool A1 aAccept, .ro false (cInt .i64) A5 aGuard, .ro false cNode A9 aNodes]) (hP : law26_MooreSecond N aProps aAccept aGuard aNodes s = some r) :
    Calls Try.prog 5 #[.agg #[.int .i64 aProps, .slice A1 (List.length aAccept) c2, .slice A5 (List.length aGuard) c6, .slice A9 (List.length aNodes) c10], .agg #[.int .u8 s.1, .int .u8 s.2]] w0 fun e w' => ∃ v, e = .returned v ∧ v = .bool r ∧ Hp S Fa w0 w' [] := by
 refine enterV (n := 68) Try.func5 rfl rfl rfl ?_
 intro a E
 replace E := E.pick [(0, .agg #[.int .i64 aProps, .slice A1 (List.length aAccept) c2, .slice A5 (List.length aGuard) c6, .slice A9 (List.length aNodes) c10]), (1, .agg #[.int .u8 s.1, .int .u8 s.2])] ⟨rfl, rfl, trivial⟩
 rw [law26_MooreSecond] at hP
 refine wp_seq ?_
 refine wp_region_lit ?_
 refine h_box H E rfl rfl rfl ?_
 intro w14 g13 a hc15 hg17 H_ E_
 replace E := E_ _ rfl; clear E_
 replace H := H_; clear H_; try dsimp only [setn, addE, goneL] at H
 refine h_box H E rfl rfl rfl ?_
 intro w19 g18 a hc20 hg22 H_ E_
 replace E := E_ _ rfl; clear E_
 replace H := H_; clear H_; try dsimp only [setn, addE, goneL] at H
 refine vr tbok 1 [] [(2, .pointer (some ⟨g13, 0, none⟩)), (3, .pointer (some ⟨g18, 0, none⟩))] [] E (by kernel_rfl) trivial ?_
 clear E; intro a E
 refine wpList_nil ?_
 refine th_n ?_
 refine wp_seq ?_
 refine wp_region_lit ?_
 obtain ⟨r23, h24, hP⟩ := bind_inv hP
 obtain ⟨Fa25, Hc26, hb27⟩ := H.call [] [] rfl rfl trivial
 refine e_call E rfl rfl Try.func26 rfl rfl rfl (law26_awake_calls    Hc26 h24) ?_
 rintro v28 w29 a ⟨rfl, HR30⟩ E_
 replace E := E_ _ rfl; clear E_
 obtain ⟨H_, hc31⟩ := hb27 _ _ HR30 rfl
 replace H := H_; clear H_; try dsimp only [setn, addE, goneL] at H
 refine vr tbok 1 [] [(2, .pointer (some ⟨g13, 0, none⟩)), (3, .pointer (some ⟨g18, 0, none⟩)), (5, .bool r23)] [] E (by kernel_rfl) trivial ?_
 clear E; intro a E
 refine wpList_nil ?_
 refine th_n ?_
 refine wp_seq ?_
 refine wp_seq ?_
 refine wp_region_lit ?_
 refine vr tbok 1 [.agg #[.int .i64 aProps, .slice A1 (List.length aAccept) c2, .slice A5 (List.length aGuard) c6, .slice A9 (List.length aNodes) c10]] [(2, .pointer (some ⟨g13, 0, none⟩)), (3, .pointer (some ⟨g18, 0, none⟩)), (5, .bool r23), (12, .agg #[.int .i64 aProps, .slice A1 (List.length aAccept) c2, .slice A5 (List.length aGuard) c6, .slice A9 (List.length aNodes) c10])] [cellsAt w29 g13 (0) [.int .i64 aProps, .slice A1 (List.length aAccept) c2, .slice A5 (List.length aGuard) c6, .slice A9 (List.length aNodes) c10]] E (by kernel_rfl) ((H.box 3 rfl).sub 0 _ rfl) ?_
 clear E; intro a E
 obtain ⟨r32, h33, hP⟩ := bind_inv hP
 obtain ⟨Fa34, Hc35, hb36⟩ := H.call [] [(0, false), (1, false), (2, false)] rfl rfl trivial
 refine e_call E rfl rfl Try.func8 rfl rfl rfl (law16_Small_calls A1 c2 A5 c6 A9 c10 aProps aAccept aGuard aNodes hk3 hk7 hk11 Hc35 h33) ?_
 rintro v37 w38 a ⟨rfl, HR39⟩ E_
 replace E := E_ _ rfl; clear E_
 obtain ⟨H_, hc40⟩ := hb36 _ _ HR39 rfl
 replace H := H_; clear H_; try dsimp only [setn, addE, goneL] at H
 refine vr tbok 1 [] [(2, .pointer (some ⟨g13, 0, none⟩)), (3, .pointer (some ⟨g18, 0, none⟩)), (5, .bool r23), (14, .bool (!r32))] [] E (by kernel_rfl) trivial ?_
 clear E; intro a E
 refine wpList_nil ?_
 refine th_n ?_
 refine E.cases (t := 14) rfl (fun hb_ E_ => ?_) (fun hb_ E_ => ?_)
 ·
  replace E := E_; clear E_
  have h41 : ¬ (r32 = true) := (ne_true_of_eq_false (not_t hb_))
  clear hb_; replace hP := ite_f h41 hP
  refine c_true E rfl ?_
  refine wp_seq ?_
  refine wp_region_lit ?_
  refine vr tbok 2 [] [(4, .bool r23)] [] E (by kernel_rfl) trivial ?_
  clear E; intro a E
  refine wpList_nil ?_
  refine th_n ?_
  refine wp_ret ?_
  refine th_ret ?_
  obtain rfl := Option.some.inj hP
  refine ret1 E rfl rfl ?_
  exact ⟨_, rfl, rfl, H.sel [] rfl⟩
 replace E := E_; clear E_
 have h42 : r32 = true := (not_f hb_)
 clear hb_; replace hP := ite_t h42 hP
 refine c_false E rfl ?_
 refine wp_skip ?_
 refine th_n ?_
 refine wp_seq ?_
 refine wp_region_lit ?_
 refine vr tbok 2 [.agg #[.int .i64 aProps, .slice A1 (List.length aAccept) c2, .slice A5 (List.length aGuard) c6, .slice A9 (List.length aNodes) c10], .agg #[.int .u8 s.1, .int .u8 s.2]] [(2, .pointer (some ⟨g13, 0, none⟩)), (3, .pointer (some ⟨g18, 0, none⟩)), (5, .bool r23), (17, .agg #[.int .i64 aProps, .slice A1 (List.length aAccept) c2, .slice A5 (List.length aGuard) c6, .slice A9 (List.length aNodes) c10]), (18, .agg #[.int .u8 s.1, .int .u8 s.2])] [cellsAt w38 g13 (0) [.int .i64 aProps, .slice A1 (List.length aAccept) c2, .slice A5 (List.length aGuard) c6, .slice A9 (List.length aNodes) c10], cellsAt w38 g18 (0) [.int .u8 s.1, .int .u8 s.2]] E (by kernel_rfl) ⟨(H.box 3 rfl).sub 0 _ rfl, (H.box 4 rfl).sub 0 _ rfl⟩ ?_
 clear E; intro a E
 obtain ⟨r43, h44, hP⟩ := bind_inv hP
 obtain ⟨Fa45, Hc46, hb47⟩ := H.call [] [(0, false), (1, false), (2, false)] rfl rfl trivial
 refine e_call E rfl rfl Try.func10 rfl rfl rfl (moore_Ranks_calls A1 c2 A5 c6 A9 c10 aProps aAccept aGuard aNodes (s.1, s.2) hk3 hk7 hk11 Hc46 h44) ?_
 rintro v48 w49 a ⟨A52, c53, rfl, HR50⟩ E_
 replace E := E_ _ rfl; clear E_
 obtain ⟨H_, hc51⟩ := hb47 _ _ HR50 rfl
 replace H := H_; clear H_; try dsimp only [setn, addE, goneL] at H
 refine vr tbok 5 [] [(2, .pointer (some ⟨g13, 0, none⟩)), (3, .pointer (some ⟨g18, 0, none⟩)), (5, .bool r23), (6, .slice A52 (List.length r43.1) c53), (7, .int .i64 r43.2)] [] E (by kernel_rfl) trivial ?_
 clear E; intro a E
 refine wpList_nil ?_
 refine th_n ?_
 refine wp_seq ?_
 refine wp_region_lit ?_
 refine vr tbok 2 [.agg #[.int .i64 aProps, .slice A1 (List.length aAccept) c2, .slice A5 (List.length aGuard) c6, .slice A9 (List.length aNodes) c10], .agg #[.int .u8 s.1, .int .u8 s.2]] [(5, .bool r23), (6, .slice A52 (List.length r43.1) c53), (7, .int .i64 r43.2), (23, .agg #[.int .i64 aProps, .slice A1 (List.length aAccept) c2, .slice A5 (List.length aGuard) c6, .slice A9 (List.length aNodes) c10]), (24, .agg #[.int .u8 s.1, .int .u8 s.2])] [cellsAt w49 g13 (0) [.int .i64 aProps, .slice A1 (List.length aAccept) c2, .slice A5 (List.length aGuard) c6, .slice A9 (List.length aNodes) c10], cellsAt w49 g18 (0) [.int .u8 s.1, .int .u8 s.2]] E (by kernel_rfl) ⟨(H.box 3 rfl).sub 0 _ rfl, (H.box 4 rfl).sub 0 _ rfl⟩ ?_
 clear E; intro a E
 obtain ⟨r55, h56, hP⟩ := bind_inv hP
 obtain ⟨Fa57, Hc58, hb59⟩ := H.call [] [(0, false), (1, false), (2, false)] rfl rfl trivial
 refine e_call E rfl rfl Try.func27 rfl rfl rfl (attract_Ranks_calls A1 c2 A5 c6 A9 c10 aProps aAccept aGuard aNodes (s.1, s.2) hk3 hk7 hk11 Hc58 h56) ?_
 rintro v60 w61 a ⟨A64, c65, rfl, HR62⟩ E_
 replace E := E_ _ rfl; clear E_
 obtain ⟨H_, hc63⟩ := hb59 _ _ HR62 rfl
 replace H := H_; clear H_; try dsimp only [setn, addE, goneL] at H
 refine vr tbok 5 [] [(5, .bool r23), (6, .slice A52 (List.length r43.1) c53), (7, .int .i64 r43.2), (8, .slice A64 (List.length r55.1) c65), (9, .int .i64 r55.2)] [] E (by kernel_rfl) trivial ?_
 clear E; intro a E
 refine wpList_nil ?_
 refine th_n ?_
 refine wp_seq ?_
 refine wp_seq ?_
 refine wp_region_lit ?_
 refine vr tbok 4 [] [(5, .bool r23), (6, .slice A52 (List.length r43.1) c53), (8, .slice A64 (List.length r55.1) c65), (31, .bool ((r43.2 : Int) != r55.2))] [] E (by kernel_rfl) trivial ?_
 clear E; intro a E
 refine E.cases (t := 31) rfl (fun hb_ E_ => ?_) (fun hb_ E_ => ?_)
 ·
  replace E := E_; clear E_
  have h67 : ¬ ((r43.2 : Int) = r55.2) := bne_iff_ne.1 hb_
  clear hb_; replace hP := ite_f h67 hP
  refine vr tbok 6 [] [(5, .bool r23), (6, .slice A52 (List.length r43.1) c53), (8, .slice A64 (List.length r55.1) c65), (37, .bool true)] [] E (by kernel_rfl) trivial ?_
  clear E; intro a E
  refine wpList_nil ?_
  refine th_n ?_
  refine c_true E rfl ?_
  refine wp_seq ?_
  refine wp_region_lit ?_
  refine vr tbok 1 [] [(4, .bool false)] [] E (by kernel_rfl) trivial ?_
  clear E; intro a E
  refine wpList_nil ?_
  refine th_n ?_
  refine wp_ret ?_
  refine th_ret ?_
  obtain rfl := Option.some.inj hP
  refine ret1 E rfl rfl ?_
  exact ⟨_, rfl, rfl, H.sel [] rfl⟩
 replace E := E_; clear E_
 have h68 : (r43.2 : Int) = r55.2 := bne_eq_false_iff_eq.1 hb_
 clear hb_; replace hP := ite_t h68 hP
 refine vr tbok 6 [] [(5, .bool r23), (6, .slice A52 (List.length r43.1) c53), (8, .slice A64 (List.length r55.1) c65), (37, .bool (((((List.length r43.1) : Nat) : Int) : Int) != (((List.length r55.1) : Nat) : Int)))] [] E (by kernel_rfl) trivial ?_
 clear E; intro a E
 refine wpList_nil ?_
 refine th_n ?_
 refine E.cases (t := 37) rfl (fun hb_ E_ => ?_) (fun hb_ E_ => ?_)
 ·
  replace E := E_; clear E_
  have h69 : ¬ (((((List.length r43.1) : Nat) : Int) : Int) = (((List.length r55.1) : Nat) : Int)) := bne_iff_ne.1 hb_
  clear hb_; replace hP := ite_f h69 hP
  refine c_true E rfl ?_
  refine wp_seq ?_
  refine wp_region_lit ?_
  refine vr tbok 1 [] [(4, .bool false)] [] E (by kernel_rfl) trivial ?_
  clear E; intro a E
  refine wpList_nil ?_
  refine th_n ?_
  refine wp_ret ?_
  refine th_ret ?_
  obtain rfl := Option.some.inj hP
  refine ret1 E rfl rfl ?_
  exact ⟨_, rfl, rfl, H.sel [] rfl⟩
 replace E := E_; clear E_
 have h70 : ((((List.length r43.1) : Nat) : Int) : Int) = (((List.length r55.1) : Nat) : Int) := bne_eq_false_iff_eq.1 hb_
 clear hb_; replace hP := ite_t h70 hP
 refine c_false E rfl ?_
 refine wp_skip ?_
 refine th_n ?_
 refine wp_seq ?_
 refine wp_seq ?_
 refine wp_region_lit ?_
 refine vr tbok 1 [] [(5, .bool r23), (6, .slice A52 (List.length r43.1) c53), (8, .slice A64 (List.length r55.1) c65), (10, .int .i64 0)] [] E (by kernel_rfl) trivial ?_
 clear E; intro a E
 refine wpList_nil ?_
 refine th_n ?_
 refine wp_block ?_
 obtain ⟨x123, hL124, hK125⟩ := bind_inv hP
 clear hP
 refine loop_cut (fun i_ a w_ => (i_ = 0 ∧ ∃ (x128 : Unit), Fr a 68 [(5, .bool r23)] ∧ Hp S Fa w0 w_ [] ∧ x123 = Sum.inl x128)) ?_ ?_
 ·
  refine loopV (fun m127 a w126 => ∃ (q95 : Int), Fr a 68 [(5, .bool r23), (6, .slice A52 (List.length r43.1) c53), (8, .slice A64 (List.length r55.1) c65), (10, .int .i64 q95)] ∧ Hp S Fa w0 w126 [.row true (cInt .i64) 3 A52 c53 r43.1, .row true (cInt .i64) 3 A64 c65 r55.1] ∧ law26_MooreSecond_l0 N r43 r55 m127 q95 = some x123) N ?_ ?_
  ·
   exact ⟨0, E.pick _ ⟨rfl, rfl, rfl, rfl, trivial⟩, H.sel [5, 6] rfl, hL124⟩
  clear E H hL124; intro m127 a w126 hI_
  obtain ⟨q95, E, H, hP⟩ := hI_
  obtain ⟨m122, rfl⟩ : ∃ q_, m127 = q_ + 1 := by cases m127 with | zero => rw [law26_MooreSecond_l0] at hP; cases hP | succ q_ => exact ⟨q_, rfl⟩
  rw [law26_MooreSecond_l0] at hP
  refine wp_seq ?_
  refine wp_seq ?_
  refine wp_region_lit ?_
  refine vr tbok 4 [] [(5, .bool r23), (6, .slice A52 (List.length r43.1) c53), (8, .slice A64 (List.length r55.1) c65), (10, .int .i64 q95), (41, .bool (decide (q95 < (((List.length r43.1) : Nat) : Int))))] [] E (by kernel_rfl) trivial ?_
  clear E; intro a E
  refine wpList_nil ?_
  refine th_n ?_
  refine E.cases (t := 41) rfl (fun hb_ E_ => ?_) (fun hb_ E_ => ?_)
  ·
   replace E := E_; clear E_
   have h129 : q95 < (((List.length r43.1) : Nat) : Int) := of_decide_eq_true hb_
   clear hb_; replace hP := ite_t h129 hP
   refine c_true E rfl ?_
   refine wp_skip ?_
   refine th_n ?_
   refine wp_seq ?_
   refine wp_block ?_
   refine wp_seq ?_
   obtain ⟨g130, hP⟩ := ask_inv hP
   obtain ⟨b131, e_b131⟩ := H.raddr 0 rfl (idx_pos g130)
   subst e_b131
   by_cases h133 : 0 ≤ (List.getD r43.1 (Int.toNat q95) 0)
   ·
    replace hP := ite_t h133 hP
    obtain ⟨g134, hP⟩ := ask_inv hP
    obtain ⟨b135, e_b135⟩ := H.raddr 1 rfl (idx_pos g134)
    subst e_b135
    by_cases h137 : (List.getD r55.1 (Int.toNat q95) 0) < 0
    ·
     replace hP := ite_t h137 hP
     have HR141 := H
     refine dr_start (S := fun w_ => Chg (atL []) w126 w_) (by kernel_rfl) ?_
     intro w138 hc139
     have HS140 : Chg (atL []) w126 w138 := hc139.mono (fun _ _ h_ => h_.elim)
     replace H := H.ext hc139
     refine dr tbok (by kernel_rfl) [0, 1, 2, 3, 4, 5] [.int .i64 (List.getD r43.1 (Int.toNat q95) 0)] [(5, .bool r23), (6, .slice (some ⟨b131, 0, none⟩) (List.length r43.1) c53), (8, .slice (some ⟨b135, 0, none⟩) (List.length r55.1) c65), (10, .int .i64 q95), (49, .bool (decide (0 ≤ (List.getD r43.1 (Int.toNat q95) 0))))] (fun w_ => [0 ≤ q95 ∧ q95 < (((List.length r43.1) : Nat) : Int), World.cell? w_ ⟨b131, 0 + (Int.toNat q95) * 1, none⟩ = some (.int .i64 (List.getD r43.1 (Int.toNat q95) 0))]) 17 E (fun _ _ => by kernel_rfl) (fun w_ hS_ => ⟨g130, Rds.at1 (HR141.rdk [] hS_ 0 rds_row rfl) 0 g130⟩) (by kernel_rfl) HS140 ?_
     clear E; intro a E
     replace E := E.same (t := 49) (u := .bool true) rfl (congrArg Value.bool (decide_eq_true h133))
     refine dr tbok (by kernel_rfl) [6, 7, 8, 9, 10, 11] [.int .i64 (List.getD r55.1 (Int.toNat q95) 0)] [(5, .bool r23), (6, .slice (some ⟨b131, 0, none⟩) (List.length r43.1) c53), (8, .slice (some ⟨b135, 0, none⟩) (List.length r55.1) c65), (10, .int .i64 q95), (49, .bool true), (55, .bool (decide ((List.getD r55.1 (Int.toNat q95) 0) < 0)))] (fun w_ => [0 ≤ q95 ∧ q95 < (((List.length r55.1) : Nat) : Int), World.cell? w_ ⟨b135, 0 + (Int.toNat q95) * 1, none⟩ = some (.int .i64 (List.getD r55.1 (Int.toNat q95) 0))]) 11 E (fun _ _ => by kernel_rfl) (fun w_ hS_ => ⟨g134, Rds.at1 (HR141.rdk [] hS_ 1 rds_row rfl) 0 g134⟩) (by kernel_rfl) HS140 ?_
     clear E; intro a E
     replace E := E.same (t := 55) (u := .bool true) rfl (congrArg Value.bool (decide_eq_true h137))
     refine dr tbok (by kernel_rfl) [12, 13, 14, 15, 16, 17, 18, 19, 20, 21, 22] [] [(5, .bool r23), (6, .slice (some ⟨b131, 0, none⟩) (List.length r43.1) c53), (8, .slice (some ⟨b135, 0, none⟩) (List.length r55.1) c65), (10, .int .i64 q95), (49, .bool true), (55, .bool true), (66, .bool true)] (fun w_ => []) 0 E (fun _ _ => by kernel_rfl) (fun w_ hS_ => trivial) (by kernel_rfl) HS140 ?_
     clear E; intro a E
     refine dr_done (by kernel_rfl) ?_
     clear HS140 HR141
     refine th_n ?_
     refine c_true E rfl ?_
     refine wp_seq ?_
     refine wp_region_lit ?_
     refine vr tbok 1 [] [(4, .bool false)] [] E (by kernel_rfl) trivial ?_
     clear E; intro a E
     refine wpList_nil ?_
     refine th_n ?_
     refine wp_ret ?_
     refine bl_ret ?_
     refine th_ret ?_
     refine th_ret ?_
     refine .inr ⟨rfl, ?_⟩
     refine bl_ret ?_
     refine th_ret ?_
     have hx_ := Option.some.inj hP; subst hx_
     have hP : some (false) = some r := hK125
     obtain rfl := Option.some.inj hP
     refine ret1 E rfl rfl ?_
     exact ⟨_, rfl, rfl, H.sel [] rfl⟩
    replace hP := ite_f h137 hP
    have HR145 := H
    refine dr_start (S := fun w_ => Chg (atL []) w126 w_) (by kernel_rfl) ?_
    intro w142 hc143
    have HS144 : Chg (atL []) w126 w142 := hc143.mono (fun _ _ h_ => h_.elim)
    replace H := H.ext hc143
    refine dr tbok (by kernel_rfl) [0, 1, 2, 3, 4, 5] [.int .i64 (List.getD r43.1 (Int.toNat q95) 0)] [(5, .bool r23), (6, .slice (some ⟨b131, 0, none⟩) (List.length r43.1) c53), (8, .slice (some ⟨b135, 0, none⟩) (List.length r55.1) c65), (10, .int .i64 q95), (49, .bool (decide (0 ≤ (List.getD r43.1 (Int.toNat q95) 0))))] (fun w_ => [0 ≤ q95 ∧ q95 < (((List.length r43.1) : Nat) : Int), World.cell? w_ ⟨b131, 0 + (Int.toNat q95) * 1, none⟩ = some (.int .i64 (List.getD r43.1 (Int.toNat q95) 0))]) 17 E (fun _ _ => by kernel_rfl) (fun w_ hS_ => ⟨g130, Rds.at1 (HR145.rdk [] hS_ 0 rds_row rfl) 0 g130⟩) (by kernel_rfl) HS144 ?_
    clear E; intro a E
    replace E := E.same (t := 49) (u := .bool true) rfl (congrArg Value.bool (decide_eq_true h133))
    refine dr tbok (by kernel_rfl) [6, 7, 8, 9, 10, 11] [.int .i64 (List.getD r55.1 (Int.toNat q95) 0)] [(5, .bool r23), (6, .slice (some ⟨b131, 0, none⟩) (List.length r43.1) c53), (8, .slice (some ⟨b135, 0, none⟩) (List.length r55.1) c65), (10, .int .i64 q95), (49, .bool true), (55, .bool (decide ((List.getD r55.1 (Int.toNat q95) 0) < 0)))] (fun w_ => [0 ≤ q95 ∧ q95 < (((List.length r55.1) : Nat) : Int), World.cell? w_ ⟨b135, 0 + (Int.toNat q95) * 1, none⟩ = some (.int .i64 (List.getD r55.1 (Int.toNat q95) 0))]) 11 E (fun _ _ => by kernel_rfl) (fun w_ hS_ => ⟨g134, Rds.at1 (HR145.rdk [] hS_ 1 rds_row rfl) 0 g134⟩) (by kernel_rfl) HS144 ?_
    clear E; intro a E
    replace E := E.same (t := 55) (u := .bool false) rfl (congrArg Value.bool (decide_eq_false h137))
    refine dr tbok (by kernel_rfl) [12, 13, 14, 15, 16, 17, 18, 19, 20, 21, 22] [.int .i64 (List.getD r55.1 (Int.toNat q95) 0), .int .i64 (List.getD r43.1 (Int.toNat q95) 0)] [(5, .bool r23), (6, .slice (some ⟨b131, 0, none⟩) (List.length r43.1) c53), (8, .slice (some ⟨b135, 0, none⟩) (List.length r55.1) c65), (10, .int .i64 q95), (49, .bool true), (55, .bool false), (66, .bool (decide ((List.getD r43.1 (Int.toNat q95) 0) < (List.getD r55.1 (Int.toNat q95) 0))))] (fun w_ => [0 ≤ q95 ∧ q95 < (((List.length r55.1) : Nat) : Int), World.cell? w_ ⟨b135, 0 + (Int.toNat q95) * 1, none⟩ = some (.int .i64 (List.getD r55.1 (Int.toNat q95) 0)), 0 ≤ q95 ∧ q95 < (((List.length r43.1) : Nat) : Int), World.cell? w_ ⟨b131, 0 + (Int.toNat q95) * 1, none⟩ = some (.int .i64 (List.getD r43.1 (Int.toNat q95) 0))]) 0 E (fun _ _ => by kernel_rfl) (fun w_ hS_ => ⟨g134, Rds.at1 (HR145.rdk [] hS_ 1 rds_row rfl) 0 g134, g130, Rds.at1 (HR145.rdk [] hS_ 0 rds_row rfl) 0 g130⟩) (by kernel_rfl) HS144 ?_
    clear E; intro a E
    refine dr_done (by kernel_rfl) ?_
    clear HS144 HR145
    refine th_n ?_
    refine E.cases (t := 66) rfl (fun hb_ E_ => ?_) (fun hb_ E_ => ?_)
    ·
     replace E := E_; clear E_
     have h146 : (List.getD r43.1 (Int.toNat q95) 0) < (List.getD r55.1 (Int.toNat q95) 0) := of_decide_eq_true hb_
     clear hb_; replace hP := ite_t h146 hP
     refine c_true E rfl ?_
     refine wp_seq ?_
     refine wp_region_lit ?_
     refine vr tbok 1 [] [(4, .bool false)] [] E (by kernel_rfl) trivial ?_
     clear E; intro a E
     refine wpList_nil ?_
     refine th_n ?_
     refine wp_ret ?_
     refine bl_ret ?_
     refine th_ret ?_
     refine th_ret ?_
     refine .inr ⟨rfl, ?_⟩
     refine bl_ret ?_
     refine th_ret ?_
     have hx_ := Option.some.inj hP; subst hx_
     have hP : some (false) = some r := hK125
     obtain rfl := Option.some.inj hP
     refine ret1 E rfl rfl ?_
     exact ⟨_, rfl, rfl, H.sel [] rfl⟩
    replace E := E_; clear E_
    have h147 : ¬ ((List.getD r43.1 (Int.toNat q95) 0) < (List.getD r55.1 (Int.toNat q95) 0)) := of_decide_eq_false hb_
    clear hb_; replace hP := ite_f h147 hP
    refine c_false E rfl ?_
    refine wp_skip ?_
    refine bl_n ?_
    refine th_n ?_
    refine wp_region_lit ?_
    obtain ⟨g148, hP⟩ := ask_inv hP
    refine vr tbok 3 [.int .i64 (q95 + 1)] [(5, .bool r23), (6, .slice (some ⟨b131, 0, none⟩) (List.length r43.1) c53), (8, .slice (some ⟨b135, 0, none⟩) (List.length r55.1) c65), (10, .int .i64 (q95 + 1))] [IntKind.i64.wrap (q95 + 1) = q95 + 1] E (by kernel_rfl) (wrap_in g148) ?_
    clear E; intro a E
    refine wpList_nil ?_
    exact th_n ⟨m122, Nat.lt_succ_self _, q95 + 1, E.pick _ ⟨rfl, rfl, rfl, rfl, trivial⟩, H.sel [0, 1] rfl, hP⟩
   replace hP := ite_f h133 hP
   have HR152 := H
   refine dr_start (S := fun w_ => Chg (atL []) w126 w_) (by kernel_rfl) ?_
   intro w149 hc150
   have HS151 : Chg (atL []) w126 w149 := hc150.mono (fun _ _ h_ => h_.elim)
   replace H := H.ext hc150
   refine dr tbok (by kernel_rfl) [0, 1, 2, 3, 4, 5] [.int .i64 (List.getD r43.1 (Int.toNat q95) 0)] [(5, .bool r23), (6, .slice (some ⟨b131, 0, none⟩) (List.length r43.1) c53), (8, .slice A64 (List.length r55.1) c65), (10, .int .i64 q95), (49, .bool (decide (0 ≤ (List.getD r43.1 (Int.toNat q95) 0))))] (fun w_ => [0 ≤ q95 ∧ q95 < (((List.length r43.1) : Nat) : Int), World.cell? w_ ⟨b131, 0 + (Int.toNat q95) * 1, none⟩ = some (.int .i64 (List.getD r43.1 (Int.toNat q95) 0))]) 17 E (fun _ _ => by kernel_rfl) (fun w_ hS_ => ⟨g130, Rds.at1 (HR152.rdk [] hS_ 0 rds_row rfl) 0 g130⟩) (by kernel_rfl) HS151 ?_
   clear E; intro a E
   replace E := E.same (t := 49) (u := .bool false) rfl (congrArg Value.bool (decide_eq_false h133))
   refine dr tbok (by kernel_rfl) [6, 7, 8, 9, 10, 11, 12, 13, 14, 15, 16, 17, 18, 19, 20, 21, 22] [] [(5, .bool r23), (6, .slice (some ⟨b131, 0, none⟩) (List.length r43.1) c53), (8, .slice A64 (List.length r55.1) c65), (10, .int .i64 q95), (49, .bool false), (66, .bool false)] (fun w_ => []) 0 E (fun _ _ => by kernel_rfl) (fun w_ hS_ => trivial) (by kernel_rfl) HS151 ?_
   clear E; intro a E
   refine dr_done (by kernel_rfl) ?_
   clear HS151 HR152
   refine th_n ?_
   refine c_false E rfl ?_
   refine wp_skip ?_
   refine bl_n ?_
   refine th_n ?_
   refine wp_region_lit ?_
   obtain ⟨g153, hP⟩ := ask_inv hP
   refine vr tbok 3 [.int .i64 (q95 + 1)] [(5, .bool r23), (6, .slice (some ⟨b131, 0, none⟩) (List.length r43.1) c53), (8, .slice A64 (List.length r55.1) c65), (10, .int .i64 (q95 + 1))] [IntKind.i64.wrap (q95 + 1) = q95 + 1] E (by kernel_rfl) (wrap_in g153) ?_
   clear E; intro a E
   refine wpList_nil ?_
   exact th_n ⟨m122, Nat.lt_succ_self _, q95 + 1, E.pick _ ⟨rfl, rfl, rfl, rfl, trivial⟩, H.sel [0, 1] rfl, hP⟩
  replace E := E_; clear E_
  have h154 : ¬ (q95 < (((List.length r43.1) : Nat) : Int)) := of_decide_eq_false hb_
  clear hb_; replace hP := ite_f h154 hP
  refine c_false E rfl ?_
  refine wp_exit ?_
  refine th_exit ?_
  have hx_ := Option.some.inj hP
  refine th_exit (.inl ⟨0, rfl, ?_⟩)
  exact ⟨rfl, (), E.pick _ ⟨rfl, trivial⟩, H.sel [] rfl, hx_.symm⟩
 clear E H hL124; intro i_ a w126 hM_
 obtain ⟨rfl, x128, E, H, hx_⟩ := hM_
 subst hx_; have hP := elim_l hK125
 clear hK125
 refine bl_hit ?_
 refine th_n ?_
 refine wp_seq ?_
 refine wp_region_lit ?_
 refine vr tbok 2 [] [(4, .bool r23)] [] E (by kernel_rfl) trivial ?_
 clear E; intro a E
 refine wpList_nil ?_
 refine th_n ?_
 refine wp_ret ?_
 obtain rfl := Option.some.inj hP
 refine ret1 E rfl rfl ?_
 exact ⟨_, rfl, rfl, H.sel [] rfl⟩

end Go.V
