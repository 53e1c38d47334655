/- Plain functions, and the calls that give them. -/
import Derived.Test.YteiemajlkgdhaaaA4
set_option linter.all false
set_option linter.unusedVariables false
set_option linter.unnecessarySimpa false
set_option linter.unusedSimpArgs false
namespace Go.V
open Go Go.Proofs
/-! rejoinder/rejoinderlaw16.led -/
def law16_led_l0 (N : Nat) (aGuard : List Int) (aNodes : List Nd) (t : List Int) : Nat → Int → Int → Option (Int ⊕ (Int × Bool))
  | 0, _, _ => none
  | m94 + 1, q56, i57 =>
    if i57 < (((List.length t) : Nat) : Int) then
      if q56 < 0 then
        some (Sum.inr (0, false))
      else
        if (((List.length aGuard) : Nat) : Int) ≤ q56 then
          some (Sum.inr (0, false))
        else
          ask (idx q56 (List.length aGuard)) <|
          ask (idx i57 (List.length t)) <|
          Option.bind (guard_Go N aNodes (List.getD aGuard (Int.toNat q56) 0) (List.getD t (Int.toNat i57) 0)) fun r112 =>
          if r112.2 = true then
            ask (in64 (i57 + 1)) <|
            law16_led_l0 N aGuard aNodes t m94 r112.1 (i57 + 1)
          else
            some (Sum.inr (0, false))
    else
      some (Sum.inl q56)
def law16_led (N : Nat) (aProps : Int) (aAccept : List Bool) (aGuard : List Int) (aNodes : List Nd) (q : Int) (t : List Int) : Option (Int × Bool) :=
  Option.bind (law16_led_l0 N aGuard aNodes t N q 0) fun x95 =>
  Sum.elim (fun x100 =>
    if 0 ≤ x100 then
      some (x100, decide (x100 < (((List.length aAccept) : Nat) : Int)))
    else
      some (x100, false))
   (fun x136 =>
    some x136) x95
set_option maxRecDepth 100000 in
set_option maxHeartbeats 4000000 in
theorem law16_led_calls {N : Nat} {S Fa : Nat → Prop} {w0 : World} {r : Int × Bool} (A1 : Option Addr) (c2 : Nat) (A5 : Option Addr) (c6 : Nat) (A9 : Option Addr) (c10 : Nat) (A13 : Option Addr) (c14 : Nat) (aProps : Int) (aAccept : List Bool) (aGuard : List Int) (aNodes : List Nd) (q : Int) (t : List Int) (hk3 : List.length aAccept ≤ c2) (hk7 : List.length aGuard ≤ c6) (hk11 : List.length aNodes ≤ c10) (hk15 : List.length t ≤ c14) (H : Hp S Fa w0 w0 [.ro false cBool A1 aAccept, .ro false (cInt .i64) A5 aGuard, .ro false cNode A9 aNodes, .ro false (cInt .u8) A13 t]) (hP : law16_led N aProps aAccept aGuard aNodes q t = some r) :
    Calls Try.prog 11 #[.agg #[.int .i64 aProps, .slice A1 (List.length aAccept) c2, .slice A5 (List.length aGuard) c6, .slice A9 (List.length aNodes) c10], .int .i64 q, .slice A13 (List.length t) c14] w0 fun e w' => ∃ v, e = .returned v ∧ v = .tuple #[.int .i64 r.1, .bool r.2] ∧ Hp S Fa w0 w' [] := by
 refine enterV (n := 54) Try.func11 rfl rfl rfl ?_
 intro a E
 replace E := E.pick [(0, .agg #[.int .i64 aProps, .slice A1 (List.length aAccept) c2, .slice A5 (List.length aGuard) c6, .slice A9 (List.length aNodes) c10]), (1, .int .i64 q), (2, .slice A13 (List.length t) c14)] ⟨rfl, rfl, rfl, trivial⟩
 rw [law16_led] at hP
 refine wp_seq ?_
 refine wp_region_lit ?_
 refine h_box H E rfl rfl rfl ?_
 intro w18 g17 a hc19 hg21 H_ E_
 replace E := E_ _ rfl; clear E_
 replace H := H_; clear H_; try dsimp only [setn, addE, goneL] at H
 refine vr tbok 2 [] [(1, .int .i64 q), (2, .slice A13 (List.length t) c14), (3, .pointer (some ⟨g17, 0, none⟩))] [] E (by kernel_rfl) trivial ?_
 clear E; intro a E
 refine wpList_nil ?_
 refine th_n ?_
 refine wp_seq ?_
 refine wp_seq ?_
 refine wp_region_lit ?_
 refine vr tbok 1 [] [(1, .int .i64 q), (2, .slice A13 (List.length t) c14), (3, .pointer (some ⟨g17, 0, none⟩)), (8, .int .i64 0)] [] E (by kernel_rfl) trivial ?_
 clear E; intro a E
 refine wpList_nil ?_
 refine th_n ?_
 refine wp_block ?_
 obtain ⟨x95, hL96, hK97⟩ := bind_inv hP
 clear hP
 refine loop_cut (fun i_ a w_ => (i_ = 0 ∧ ∃ (x100 : Int), Fr a 54 [(1, .int .i64 x100), (3, .pointer (some ⟨g17, 0, none⟩))] ∧ Hp S Fa w0 w_ [.ro false cBool A1 aAccept, .ro false (cInt .i64) A5 aGuard, .ro false cNode A9 aNodes, .box g17 26 [.int .i64 aProps, .slice A1 (List.length aAccept) c2, .slice A5 (List.length aGuard) c6, .slice A9 (List.length aNodes) c10]] ∧ x95 = Sum.inl x100)) ?_ ?_
 ·
  refine loopV (fun m99 a w98 => ∃ (q56 : Int) (i57 : Int), Fr a 54 [(1, .int .i64 q56), (2, .slice A13 (List.length t) c14), (3, .pointer (some ⟨g17, 0, none⟩)), (8, .int .i64 i57)] ∧ Hp S Fa w0 w98 [.ro false (cInt .u8) A13 t, .ro false cBool A1 aAccept, .ro false (cInt .i64) A5 aGuard, .ro false cNode A9 aNodes, .box g17 26 [.int .i64 aProps, .slice A1 (List.length aAccept) c2, .slice A5 (List.length aGuard) c6, .slice A9 (List.length aNodes) c10]] ∧ law16_led_l0 N aGuard aNodes t m99 q56 i57 = some x95) N ?_ ?_
  ·
   exact ⟨q, 0, E.pick _ ⟨rfl, rfl, rfl, rfl, trivial⟩, H.sel [3, 0, 1, 2, 4] rfl, hL96⟩
  clear E H hL96; intro m99 a w98 hI_
  obtain ⟨q56, i57, E, H, hP⟩ := hI_
  obtain ⟨m94, rfl⟩ : ∃ q_, m99 = q_ + 1 := by cases m99 with | zero => rw [law16_led_l0] at hP; cases hP | succ q_ => exact ⟨q_, rfl⟩
  rw [law16_led_l0] at hP
  refine wp_seq ?_
  refine wp_seq ?_
  refine wp_region_lit ?_
  refine vr tbok 4 [] [(1, .int .i64 q56), (2, .slice A13 (List.length t) c14), (3, .pointer (some ⟨g17, 0, none⟩)), (8, .int .i64 i57), (14, .bool (decide (i57 < (((List.length t) : Nat) : Int))))] [] E (by kernel_rfl) trivial ?_
  clear E; intro a E
  refine wpList_nil ?_
  refine th_n ?_
  refine E.cases (t := 14) rfl (fun hb_ E_ => ?_) (fun hb_ E_ => ?_)
  ·
   replace E := E_; clear E_
   have h101 : i57 < (((List.length t) : Nat) : Int) := of_decide_eq_true hb_
   clear hb_; replace hP := ite_t h101 hP
   refine c_true E rfl ?_
   refine wp_skip ?_
   refine th_n ?_
   refine wp_seq ?_
   refine wp_block ?_
   refine wp_seq ?_
   refine wp_seq ?_
   refine wp_region_lit ?_
   refine vr tbok 3 [] [(1, .int .i64 q56), (2, .slice A13 (List.length t) c14), (3, .pointer (some ⟨g17, 0, none⟩)), (8, .int .i64 i57), (19, .bool (decide (q56 < 0)))] [] E (by kernel_rfl) trivial ?_
   clear E; intro a E
   refine E.cases (t := 19) rfl (fun hb_ E_ => ?_) (fun hb_ E_ => ?_)
   ·
    replace E := E_; clear E_
    have h102 : q56 < 0 := of_decide_eq_true hb_
    clear hb_; replace hP := ite_t h102 hP
    refine vr tbok 6 [] [(1, .int .i64 q56), (2, .slice A13 (List.length t) c14), (3, .pointer (some ⟨g17, 0, none⟩)), (8, .int .i64 i57), (25, .bool true)] [] E (by kernel_rfl) trivial ?_
    clear E; intro a E
    refine wpList_nil ?_
    refine th_n ?_
    refine c_true E rfl ?_
    refine wp_seq ?_
    refine wp_region_lit ?_
    refine vr tbok 2 [] [(6, .int .i64 0), (7, .bool false)] [] E (by kernel_rfl) trivial ?_
    clear E; intro a E
    refine wpList_nil ?_
    refine th_n ?_
    refine wp_ret ?_
    refine th_ret ?_
    refine bl_ret ?_
    refine th_ret ?_
    refine th_ret ?_
    refine .inr ⟨rfl, ?_⟩
    refine bl_ret ?_
    refine th_ret ?_
    have hx_ := Option.some.inj hP; subst hx_
    have hP : some ((0, false)) = some r := hK97
    obtain rfl := Option.some.inj hP
    refine ret2 E rfl rfl rfl ?_
    exact ⟨_, rfl, rfl, H.sel [] rfl⟩
   replace E := E_; clear E_
   have h103 : ¬ (q56 < 0) := of_decide_eq_false hb_
   clear hb_; replace hP := ite_f h103 hP
   refine vr tbok 6 [.slice A5 (List.length aGuard) c6] [(1, .int .i64 q56), (2, .slice A13 (List.length t) c14), (3, .pointer (some ⟨g17, 0, none⟩)), (8, .int .i64 i57), (25, .bool (decide ((((List.length aGuard) : Nat) : Int) ≤ q56)))] [World.cell? w98 ⟨g17, 2, none⟩ = some (.slice A5 (List.length aGuard) c6)] E (by kernel_rfl) ((H.box 4 rfl).cell (j := 2) rfl) ?_
   clear E; intro a E
   refine wpList_nil ?_
   refine th_n ?_
   refine E.cases (t := 25) rfl (fun hb_ E_ => ?_) (fun hb_ E_ => ?_)
   ·
    replace E := E_; clear E_
    have h104 : (((List.length aGuard) : Nat) : Int) ≤ q56 := of_decide_eq_true hb_
    clear hb_; replace hP := ite_t h104 hP
    refine c_true E rfl ?_
    refine wp_seq ?_
    refine wp_region_lit ?_
    refine vr tbok 2 [] [(6, .int .i64 0), (7, .bool false)] [] E (by kernel_rfl) trivial ?_
    clear E; intro a E
    refine wpList_nil ?_
    refine th_n ?_
    refine wp_ret ?_
    refine th_ret ?_
    refine bl_ret ?_
    refine th_ret ?_
    refine th_ret ?_
    refine .inr ⟨rfl, ?_⟩
    refine bl_ret ?_
    refine th_ret ?_
    have hx_ := Option.some.inj hP; subst hx_
    have hP : some ((0, false)) = some r := hK97
    obtain rfl := Option.some.inj hP
    refine ret2 E rfl rfl rfl ?_
    exact ⟨_, rfl, rfl, H.sel [] rfl⟩
   replace E := E_; clear E_
   have h105 : ¬ ((((List.length aGuard) : Nat) : Int) ≤ q56) := of_decide_eq_false hb_
   clear hb_; replace hP := ite_f h105 hP
   refine c_false E rfl ?_
   refine wp_skip ?_
   refine th_n ?_
   refine wp_seq ?_
   obtain ⟨g106, hP⟩ := ask_inv hP
   obtain ⟨b107, o108, e_b107⟩ := (H.rd 2 rds_ro).addr (idx_pos g106)
   subst e_b107
   obtain ⟨g109, hP⟩ := ask_inv hP
   obtain ⟨b110, o111, e_b110⟩ := (H.rd 0 rds_ro).addr (idx_pos g109)
   subst e_b110
   obtain ⟨r112, h113, hP⟩ := bind_inv hP
   have HR124 := H
   refine dr_start (S := fun w_ => Chg (atL []) w98 w_) (by kernel_rfl) ?_
   intro w121 hc122
   have HS123 : Chg (atL []) w98 w121 := hc122.mono (fun _ _ h_ => h_.elim)
   replace H := H.ext hc122
   refine dr tbok (by kernel_rfl) [0, 1, 2, 3, 4, 5, 6, 7, 8, 9, 10] [.slice A9 (List.length aNodes) c10, .slice (some ⟨b107, o108, none⟩) (List.length aGuard) c6, .int .i64 (List.getD aGuard (Int.toNat q56) 0), .int .u8 (List.getD t (Int.toNat i57) 0)] [(2, .slice (some ⟨b110, o111, none⟩) (List.length t) c14), (3, .pointer (some ⟨g17, 0, none⟩)), (8, .int .i64 i57), (28, .slice A9 (List.length aNodes) c10), (33, .int .i64 (List.getD aGuard (Int.toNat q56) 0)), (37, .int .u8 (List.getD t (Int.toNat i57) 0))] (fun w_ => [World.cell? w_ ⟨g17, 3, none⟩ = some (.slice A9 (List.length aNodes) c10), World.cell? w_ ⟨g17, 2, none⟩ = some (.slice (some ⟨b107, o108, none⟩) (List.length aGuard) c6), 0 ≤ q56 ∧ q56 < (((List.length aGuard) : Nat) : Int), World.cell? w_ ⟨b107, o108 + (Int.toNat q56) * 1, none⟩ = some (.int .i64 (List.getD aGuard (Int.toNat q56) 0)), 0 ≤ i57 ∧ i57 < (((List.length t) : Nat) : Int), World.cell? w_ ⟨b110, o111 + (Int.toNat i57) * 1, none⟩ = some (.int .u8 (List.getD t (Int.toNat i57) 0))]) 6 E (fun _ _ => by kernel_rfl) (fun w_ hS_ => ⟨(HR124.boxk [] hS_ 4 rfl rfl).cell (j := 3) rfl, (HR124.boxk [] hS_ 4 rfl rfl).cell (j := 2) rfl, g106, Rds.at1 (HR124.rdk [] hS_ 2 rds_ro rfl) 0 g106, g109, Rds.at1 (HR124.rdk [] hS_ 0 rds_ro rfl) 0 g109⟩) (by kernel_rfl) HS123 ?_
   clear E; intro a E
   refine wpAnyH_all (rs := [11]) (by kernel_rfl) (by simp) ?_
   refine all1 ?_
   refine wpOp_of_list rfl ?_
   obtain ⟨Fa125, Hc126, hb127⟩ := H.call [] [(3, false)] rfl rfl trivial
   refine e_call E rfl rfl Try.func28 rfl rfl rfl (guard_Go_calls A9 c10 aNodes (List.getD aGuard (Int.toNat q56) 0) (List.getD t (Int.toNat i57) 0) hk11 Hc126 h113) ?_
   rintro v128 w129 a ⟨rfl, HR130⟩ E_
   replace E := E_ _ rfl; clear E_
   obtain ⟨H_, hc131⟩ := hb127 _ _ HR130 rfl
   replace HS123 := HS123.ext (callS_ext hc131)
   replace H := H_; clear H_; try dsimp only [setn, addE, goneL] at H
   refine wpList_nil ?_
   refine th_n ⟨HS123, ?_⟩
   refine dr tbok (by kernel_rfl) [12, 13, 14, 15, 16] [] [(2, .slice (some ⟨b110, o111, none⟩) (List.length t) c14), (3, .pointer (some ⟨g17, 0, none⟩)), (8, .int .i64 i57), (9, .int .i64 r112.1), (10, .bool r112.2)] (fun w_ => []) 0 E (fun _ _ => by kernel_rfl) (fun w_ hS_ => trivial) (by kernel_rfl) HS123 ?_
   clear E; intro a E
   refine dr_done (by kernel_rfl) ?_
   clear HS123 HR124
   refine th_n ?_
   refine wp_seq ?_
   refine wp_seq ?_
   refine wp_region_lit ?_
   refine vr tbok 2 [] [(2, .slice (some ⟨b110, o111, none⟩) (List.length t) c14), (3, .pointer (some ⟨g17, 0, none⟩)), (8, .int .i64 i57), (9, .int .i64 r112.1), (42, .bool (!r112.2))] [] E (by kernel_rfl) trivial ?_
   clear E; intro a E
   refine wpList_nil ?_
   refine th_n ?_
   refine E.cases (t := 42) rfl (fun hb_ E_ => ?_) (fun hb_ E_ => ?_)
   ·
    replace E := E_; clear E_
    have h132 : ¬ (r112.2 = true) := (ne_true_of_eq_false (not_t hb_))
    clear hb_; replace hP := ite_f h132 hP
    refine c_true E rfl ?_
    refine wp_seq ?_
    refine wp_region_lit ?_
    refine vr tbok 2 [] [(6, .int .i64 0), (7, .bool false)] [] E (by kernel_rfl) trivial ?_
    clear E; intro a E
    refine wpList_nil ?_
    refine th_n ?_
    refine wp_ret ?_
    refine th_ret ?_
    refine bl_ret ?_
    refine th_ret ?_
    refine th_ret ?_
    refine .inr ⟨rfl, ?_⟩
    refine bl_ret ?_
    refine th_ret ?_
    have hx_ := Option.some.inj hP; subst hx_
    have hP : some ((0, false)) = some r := hK97
    obtain rfl := Option.some.inj hP
    refine ret2 E rfl rfl rfl ?_
    exact ⟨_, rfl, rfl, H.sel [] rfl⟩
   replace E := E_; clear E_
   have h133 : r112.2 = true := (not_f hb_)
   clear hb_; replace hP := ite_t h133 hP
   refine c_false E rfl ?_
   refine wp_skip ?_
   refine th_n ?_
   refine wp_region_lit ?_
   refine vr tbok 2 [] [(1, .int .i64 r112.1), (2, .slice (some ⟨b110, o111, none⟩) (List.length t) c14), (3, .pointer (some ⟨g17, 0, none⟩)), (8, .int .i64 i57)] [] E (by kernel_rfl) trivial ?_
   clear E; intro a E
   refine wpList_nil ?_
   refine bl_n ?_
   refine th_n ?_
   refine wp_region_lit ?_
   obtain ⟨g134, hP⟩ := ask_inv hP
   refine vr tbok 3 [.int .i64 (i57 + 1)] [(1, .int .i64 r112.1), (2, .slice (some ⟨b110, o111, none⟩) (List.length t) c14), (3, .pointer (some ⟨g17, 0, none⟩)), (8, .int .i64 (i57 + 1))] [IntKind.i64.wrap (i57 + 1) = i57 + 1] E (by kernel_rfl) (wrap_in g134) ?_
   clear E; intro a E
   refine wpList_nil ?_
   exact th_n ⟨m94, Nat.lt_succ_self _, r112.1, i57 + 1, E.pick _ ⟨rfl, rfl, rfl, rfl, trivial⟩, H.sel [0, 1, 2, 3, 4] rfl, hP⟩
  replace E := E_; clear E_
  have h135 : ¬ (i57 < (((List.length t) : Nat) : Int)) := of_decide_eq_false hb_
  clear hb_; replace hP := ite_f h135 hP
  refine c_false E rfl ?_
  refine wp_exit ?_
  refine th_exit ?_
  have hx_ := Option.some.inj hP
  refine th_exit (.inl ⟨0, rfl, ?_⟩)
  exact ⟨rfl, q56, E.pick _ ⟨rfl, rfl, trivial⟩, H.sel [1, 2, 3, 4] rfl, hx_.symm⟩
 clear E H hL96; intro i_ a w98 hM_
 obtain ⟨rfl, x100, E, H, hx_⟩ := hM_
 subst hx_; have hP := elim_l hK97
 clear hK97
 refine bl_hit ?_
 refine th_n ?_
 refine wp_seq ?_
 by_cases h137 : 0 ≤ x100
 ·
  replace hP := ite_t h137 hP
  have HR141 := H
  refine dr_start (S := fun w_ => Chg (atL []) w98 w_) (by kernel_rfl) ?_
  intro w138 hc139
  have HS140 : Chg (atL []) w98 w138 := hc139.mono (fun _ _ h_ => h_.elim)
  replace H := H.ext hc139
  refine dr tbok (by kernel_rfl) [0, 1, 2, 3] [] [(1, .int .i64 x100), (3, .pointer (some ⟨g17, 0, none⟩)), (44, .int .i64 x100), (47, .bool (decide (0 ≤ x100)))] (fun w_ => []) 8 E (fun _ _ => by kernel_rfl) (fun w_ hS_ => trivial) (by kernel_rfl) HS140 ?_
  clear E; intro a E
  replace E := E.same (t := 47) (u := .bool true) rfl (congrArg Value.bool (decide_eq_true h137))
  refine dr tbok (by kernel_rfl) [4, 5, 6, 7, 8, 9, 10, 11] [.slice A1 (List.length aAccept) c2] [(6, .int .i64 x100), (7, .bool (decide (x100 < (((List.length aAccept) : Nat) : Int)))), (47, .bool true)] (fun w_ => [World.cell? w_ ⟨g17, 1, none⟩ = some (.slice A1 (List.length aAccept) c2)]) 0 E (fun _ _ => by kernel_rfl) (fun w_ hS_ => ((HR141.boxk [] hS_ 3 rfl rfl).cell (j := 1) rfl)) (by kernel_rfl) HS140 ?_
  clear E; intro a E
  refine dr_done (by kernel_rfl) ?_
  clear HS140 HR141
  refine th_n ?_
  refine wp_ret ?_
  obtain rfl := Option.some.inj hP
  refine ret2 E rfl rfl rfl ?_
  exact ⟨_, rfl, rfl, H.sel [] rfl⟩
 replace hP := ite_f h137 hP
 have HR145 := H
 refine dr_start (S := fun w_ => Chg (atL []) w98 w_) (by kernel_rfl) ?_
 intro w142 hc143
 have HS144 : Chg (atL []) w98 w142 := hc143.mono (fun _ _ h_ => h_.elim)
 replace H := H.ext hc143
 refine dr tbok (by kernel_rfl) [0, 1, 2, 3] [] [(1, .int .i64 x100), (3, .pointer (some ⟨g17, 0, none⟩)), (44, .int .i64 x100), (47, .bool (decide (0 ≤ x100)))] (fun w_ => []) 8 E (fun _ _ => by kernel_rfl) (fun w_ hS_ => trivial) (by kernel_rfl) HS144 ?_
 clear E; intro a E
 replace E := E.same (t := 47) (u := .bool false) rfl (congrArg Value.bool (decide_eq_false h137))
 refine dr tbok (by kernel_rfl) [4, 5, 6, 7, 8, 9, 10, 11] [] [(6, .int .i64 x100), (7, .bool false), (47, .bool false)] (fun w_ => []) 0 E (fun _ _ => by kernel_rfl) (fun w_ hS_ => trivial) (by kernel_rfl) HS144 ?_
 clear E; intro a E
 refine dr_done (by kernel_rfl) ?_
 clear HS144 HR145
 refine th_n ?_
 refine wp_ret ?_
 obtain rfl := Option.some.inj hP
 refine ret2 E rfl rfl rfl ?_
 exact ⟨_, rfl, rfl, H.sel [] rfl⟩

end Go.V
