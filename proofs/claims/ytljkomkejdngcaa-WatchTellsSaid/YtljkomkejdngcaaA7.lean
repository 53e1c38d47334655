/- Plain functions, and the calls that give them. -/
import Derived.Test.YtljkomkejdngcaaA6
set_option linter.all false
set_option linter.unusedVariables false
set_option linter.unnecessarySimpa false
set_option linter.unusedSimpArgs false
namespace Go.V
open Go Go.Proofs
/-! (*rejoinder/rejoinderref21.Watch).State -/
def ref21_Watch_State_l0 (N : Nat) (wAProps : Int) (wAAccept : List Bool) (wAGuard : List Int) (wANodes : List Nd) (wT : List Int) : Nat → Int → Int → Option Int
  | 0, _, _ => none
  | m174 + 1, q145, i146 =>
    if i146 < (((List.length wT) : Nat) : Int) then
      ask (idx i146 (List.length wT)) <|
      Option.bind (ref14_Next N wAProps wAAccept wAGuard wANodes q145 (List.getD wT (Int.toNat i146) 0)) fun r185 =>
      ask (in64 (i146 + 1)) <|
      ref21_Watch_State_l0 N wAProps wAAccept wAGuard wANodes wT m174 r185 (i146 + 1)
    else
      some q145
def ref21_Watch_State (N : Nat) (wAProps : Int) (wAAccept : List Bool) (wAGuard : List Int) (wANodes : List Nd) (wT : List Int) : Option Int :=
  Option.bind (ref21_Watch_State_l0 N wAProps wAAccept wAGuard wANodes wT N 0 0) fun x175 =>
  some x175
set_option maxRecDepth 100000 in
set_option maxHeartbeats 4000000 in
theorem ref21_Watch_State_calls {N : Nat} {S Fa : Nat → Prop} {w0 : World} {r : Int} (g1 : Nat) (A3 : Option Addr) (c4 : Nat) (A7 : Option Addr) (c8 : Nat) (A11 : Option Addr) (c12 : Nat) (A15 : Option Addr) (c16 : Nat) (wAProps : Int) (wAAccept : List Bool) (wAGuard : List Int) (wANodes : List Nd) (wT : List Int) (hk5 : List.length wAAccept ≤ c4) (hk9 : List.length wAGuard ≤ c8) (hk13 : List.length wANodes ≤ c12) (hk17 : List.length wT ≤ c16) (H : Hp S Fa w0 w0 [.box g1 67 [.int .i64 wAProps, .slice A3 (List.length wAAccept) c4, .slice A7 (List.length wAGuard) c8, .slice A11 (List.length wANodes) c12, .slice A15 (List.length wT) c16], .ro false cBool A3 wAAccept, .ro false (cInt .i64) A7 wAGuard, .ro false cNode A11 wANodes, .ro false (cInt .u8) A15 wT]) (hP : ref21_Watch_State N wAProps wAAccept wAGuard wANodes wT = some r) :
    Calls Try.prog 41 #[.pointer (some ⟨g1, 0, none⟩)] w0 fun e w' => ∃ v, e = .returned v ∧ (∃ (x_ : Int), r = x_ ∧ v = .int .i64 x_ ∧ Hp S Fa w0 w' [.box g1 67 [.int .i64 wAProps, .slice A3 (List.length wAAccept) c4, .slice A7 (List.length wAGuard) c8, .slice A11 (List.length wANodes) c12, .slice A15 (List.length wT) c16]]) := by
 refine enterV (n := 28) Try.func41 rfl rfl rfl ?_
 intro a E
 replace E := E.pick [(0, .pointer (some ⟨g1, 0, none⟩))] ⟨rfl, trivial⟩
 rw [ref21_Watch_State] at hP
 refine wp_seq ?_
 refine wp_region_lit ?_
 refine vn tbok 1 [] [] [] E (by kernel_rfl) (by kernel_rfl) trivial ?_
 clear E; intro a E
 refine wpList_nil ?_
 refine th_n ?_
 refine wp_seq ?_
 refine wp_region_lit ?_
 refine vn tbok 1 [] [(3, .int .i64 0)] [] E (by kernel_rfl) (by kernel_rfl) trivial ?_
 clear E; intro a E
 refine wpList_nil ?_
 refine th_n ?_
 refine wp_seq ?_
 refine wp_seq ?_
 refine wp_region_lit ?_
 refine vn tbok 1 [] [(4, .int .i64 0)] [] E (by kernel_rfl) (by kernel_rfl) trivial ?_
 clear E; intro a E
 refine wpList_nil ?_
 refine th_n ?_
 refine wp_block ?_
 obtain ⟨x175, hL176, hK177⟩ := bind_inv hP
 clear hP
 refine loop_cut (fun i_ a w_ => (i_ = 0 ∧ ∃ (x180 : Int), Fr a 28 [(3, .int .i64 x180)] ∧ Hp S Fa w0 w_ [.ro false cBool A3 wAAccept, .ro false (cInt .i64) A7 wAGuard, .ro false cNode A11 wANodes, .ro false (cInt .u8) A15 wT, .box g1 67 [.int .i64 wAProps, .slice A3 (List.length wAAccept) c4, .slice A7 (List.length wAGuard) c8, .slice A11 (List.length wANodes) c12, .slice A15 (List.length wT) c16]] ∧ x175 = x180)) ?_ ?_
 ·
  refine loopV (fun m179 a w178 => ∃ (q145 : Int) (i146 : Int), Fr a 28 [(0, .pointer (some ⟨g1, 0, none⟩)), (3, .int .i64 q145), (4, .int .i64 i146)] ∧ Hp S Fa w0 w178 [.ro false cBool A3 wAAccept, .ro false (cInt .i64) A7 wAGuard, .ro false cNode A11 wANodes, .ro false (cInt .u8) A15 wT, .box g1 67 [.int .i64 wAProps, .slice A3 (List.length wAAccept) c4, .slice A7 (List.length wAGuard) c8, .slice A11 (List.length wANodes) c12, .slice A15 (List.length wT) c16]] ∧ ref21_Watch_State_l0 N wAProps wAAccept wAGuard wANodes wT m179 q145 i146 = some x175) N ?_ ?_
  ·
   exact ⟨0, 0, E.pick _ ⟨rfl, rfl, rfl, trivial⟩, H.sel [1, 2, 3, 4, 0] rfl, hL176⟩
  clear E H hL176; intro m179 a w178 hI_
  obtain ⟨q145, i146, E, H, hP⟩ := hI_
  obtain ⟨m174, rfl⟩ : ∃ q_, m179 = q_ + 1 := by cases m179 with | zero => rw [ref21_Watch_State_l0] at hP; cases hP | succ q_ => exact ⟨q_, rfl⟩
  rw [ref21_Watch_State_l0] at hP
  refine wp_seq ?_
  refine wp_seq ?_
  refine wp_region_lit ?_
  refine vn tbok 7 [.slice A15 (List.length wT) c16] [(11, .bool (decide (i146 < (((List.length wT) : Nat) : Int))))] [World.cell? w178 ⟨g1, 4, none⟩ = some (.slice A15 (List.length wT) c16)] E (by kernel_rfl) (by kernel_rfl) ((H.box 4 rfl).cell (j := 4) rfl) ?_
  clear E; intro a E
  refine wpList_nil ?_
  refine th_n ?_
  refine E.cases (t := 11) rfl (fun hb_ E_ => ?_) (fun hb_ E_ => ?_)
  ·
   replace E := E_; clear E_
   have h181 : i146 < (((List.length wT) : Nat) : Int) := of_decide_eq_true hb_
   clear hb_; replace hP := ite_t h181 hP
   refine c_true E rfl ?_
   refine wp_skip ?_
   refine th_n ?_
   refine wp_seq ?_
   refine wp_block ?_
   obtain ⟨g182, hP⟩ := ask_inv hP
   obtain ⟨b183, o184, e_b183⟩ := (H.rd 3 rds_ro).addr (idx_pos g182)
   subst e_b183
   obtain ⟨r185, h186, hP⟩ := bind_inv hP
   have HR197 := H
   refine dr_start (S := fun w_ => Chg (atL []) w178 w_) (by kernel_rfl) ?_
   intro w194 hc195
   have HS196 : Chg (atL []) w178 w194 := hc195.mono (fun _ _ h_ => h_.elim)
   replace H := H.ext hc195
   refine dn tbok (by kernel_rfl) [0, 1, 2, 3, 4, 5, 6, 7, 8, 9, 10, 11] [.agg #[.int .i64 wAProps, .slice A3 (List.length wAAccept) c4, .slice A7 (List.length wAGuard) c8, .slice A11 (List.length wANodes) c12], .slice (some ⟨b183, o184, none⟩) (List.length wT) c16, .int .u8 (List.getD wT (Int.toNat i146) 0)] [(17, .agg #[.int .i64 wAProps, .slice A3 (List.length wAAccept) c4, .slice A7 (List.length wAGuard) c8, .slice A11 (List.length wANodes) c12]), (18, .int .i64 q145), (25, .int .u8 (List.getD wT (Int.toNat i146) 0))] (fun w_ => [cellsAt w_ g1 (0) [.int .i64 wAProps, .slice A3 (List.length wAAccept) c4, .slice A7 (List.length wAGuard) c8, .slice A11 (List.length wANodes) c12], World.cell? w_ ⟨g1, 4, none⟩ = some (.slice (some ⟨b183, o184, none⟩) (List.length wT) c16), 0 ≤ i146 ∧ i146 < (((List.length wT) : Nat) : Int), World.cell? w_ ⟨b183, o184 + (Int.toNat i146) * 1, none⟩ = some (.int .u8 (List.getD wT (Int.toNat i146) 0))]) 2 E (fun _ _ => by kernel_rfl) (by kernel_rfl) (fun w_ hS_ => ⟨(HR197.boxk [] hS_ 4 rfl rfl).sub 0 _ rfl, (HR197.boxk [] hS_ 4 rfl rfl).cell (j := 4) rfl, g182, Rds.at1 (HR197.rdk [] hS_ 3 rds_ro rfl) 0 g182⟩) (by kernel_rfl) HS196 ?_
   clear E; intro a E
   refine wpAnyH_all (rs := [12]) (by kernel_rfl) (by simp) ?_
   refine all1 ?_
   refine wpOp_of_list rfl ?_
   obtain ⟨Fa198, Hc199, hb200⟩ := H.call [] [(0, false), (1, false), (2, false)] rfl rfl trivial
   refine e_call E rfl rfl Try.func56 rfl rfl rfl (ref14_Next_calls A3 c4 A7 c8 A11 c12 wAProps wAAccept wAGuard wANodes q145 (List.getD wT (Int.toNat i146) 0) hk5 hk9 hk13 Hc199 h186) ?_
   rintro v201 w202 a ⟨rfl, HR203⟩ E_
   replace E := E_ _ rfl; clear E_
   obtain ⟨H_, hc204⟩ := hb200 _ _ HR203 rfl
   replace HS196 := HS196.ext (callS_ext hc204)
   replace H := H_; clear H_; try dsimp only [setn, addE, goneL] at H
   refine wpList_nil ?_
   refine th_n ⟨HS196, ?_⟩
   refine dn tbok (by kernel_rfl) [13] [] [(3, .int .i64 r185)] (fun w_ => []) 0 E (fun _ _ => by kernel_rfl) (by kernel_rfl) (fun w_ hS_ => trivial) (by kernel_rfl) HS196 ?_
   clear E; intro a E
   refine dr_done (by kernel_rfl) ?_
   clear HS196 HR197
   refine bl_n ?_
   refine th_n ?_
   refine wp_region_lit ?_
   obtain ⟨g205, hP⟩ := ask_inv hP
   refine vn tbok 3 [.int .i64 (i146 + 1)] [(4, .int .i64 (i146 + 1))] [IntKind.i64.wrap (i146 + 1) = i146 + 1] E (by kernel_rfl) (by kernel_rfl) (wrap_in g205) ?_
   clear E; intro a E
   refine wpList_nil ?_
   exact th_n ⟨m174, Nat.lt_succ_self _, r185, i146 + 1, E.pick _ ⟨rfl, rfl, rfl, trivial⟩, H.sel [0, 1, 2, 3, 4] rfl, hP⟩
  replace E := E_; clear E_
  have h206 : ¬ (i146 < (((List.length wT) : Nat) : Int)) := of_decide_eq_false hb_
  clear hb_; replace hP := ite_f h206 hP
  refine c_false E rfl ?_
  refine wp_exit ?_
  refine th_exit ?_
  have hx_ := Option.some.inj hP
  refine th_exit (.inl ⟨0, rfl, ?_⟩)
  exact ⟨rfl, q145, E.pick _ ⟨rfl, trivial⟩, H.sel [0, 1, 2, 3, 4] rfl, hx_.symm⟩
 clear E H hL176; intro i_ a w178 hM_
 obtain ⟨rfl, x180, E, H, hx_⟩ := hM_
 subst hx_; have hP := hK177; clear hK177
 refine bl_hit ?_
 refine th_n ?_
 refine wp_seq ?_
 refine wp_region_lit ?_
 refine vn tbok 2 [] [(2, .int .i64 x175)] [] E (by kernel_rfl) (by kernel_rfl) trivial ?_
 clear E; intro a E
 refine wpList_nil ?_
 refine th_n ?_
 refine wp_ret ?_
 obtain rfl := Option.some.inj hP
 refine ret1 E rfl rfl ?_
 exact ⟨_, rfl, ⟨x175, rfl, rfl, H.sel [4] rfl⟩⟩

/-! rejoinder/rejoinderref21.All -/
def ref21_All_l0 (N : Nat) (aProps : Int) (aAccept : List Bool) (aGuard : List Int) (aNodes : List Nd) (t : List Int) : Nat → (List Int) → (List Int) → Int → Option (List Int)
  | 0, _, _, _ => none
  | m274 + 1, w182, out186, i189 =>
    if i189 < (((List.length t) : Nat) : Int) then
      ask (in64 (i189 + 1)) <|
      ask (0 ≤ (i189 + 1) ∧ (i189 + 1) ≤ (((List.length t) : Nat) : Int)) <|
      Option.bind (ref21_Watch_State N aProps aAccept aGuard aNodes (List.take (Int.toNat (i189 + 1)) t)) fun r290 =>
      Option.bind (ref21_Verdict N aProps aAccept aGuard aNodes r290) fun r305 =>
      ask (List.length out186 + List.length ([r305] : List Int) ≤ 1000000000) <|
      ref21_All_l0 N aProps aAccept aGuard aNodes t m274 (List.take (Int.toNat (i189 + 1)) t) (out186 ++ ([r305] : List Int)) (i189 + 1)
    else
      some out186
def ref21_All (N : Nat) (aProps : Int) (aAccept : List Bool) (aGuard : List Int) (aNodes : List Nd) (t : List Int) : Option ((List Int) × Int) :=
  Option.bind (ref21_New N aProps aAccept aGuard aNodes) fun r22 =>
  Sum.elim (fun x38 =>
    if (x38 : Int) = 0 then
      Option.bind (ref01_Trace N aProps t) fun r43 =>
      if (r43 : Int) = 0 then
        none
      else
        some ([], r43)
    else
      some ([], x38))
   (fun x39 =>
    if (x39 : Int) = 0 then
      Option.bind (ref01_Trace N aProps t) fun r77 =>
      if (r77 : Int) = 0 then
        Option.bind (ref21_Verdict N aProps aAccept aGuard aNodes 0) fun r89 =>
        Option.bind (ref21_All_l0 N aProps aAccept aGuard aNodes t N [] ([r89] : List Int) 0) fun x275 =>
        some (x275, 0)
      else
        some ([], r77)
    else
      some ([], x39)) r22
set_option maxRecDepth 100000 in
set_option maxHeartbeats 4000000 in
theorem ref21_All_calls {N : Nat} {S Fa : Nat → Prop} {w0 : World} {r : (List Int) × Int} (A1 : Option Addr) (c2 : Nat) (A5 : Option Addr) (c6 : Nat) (A9 : Option Addr) (c10 : Nat) (A13 : Option Addr) (c14 : Nat) (aProps : Int) (aAccept : List Bool) (aGuard : List Int) (aNodes : List Nd) (t : List Int) (hk3 : List.length aAccept ≤ c2) (hk7 : List.length aGuard ≤ c6) (hk11 : List.length aNodes ≤ c10) (hk15 : List.length t ≤ c14) (H : Hp S Fa w0 w0 [.ro false cBool A1 aAccept, .ro false (cInt .i64) A5 aGuard, .ro false cNode A9 aNodes, .ro false (cInt .u8) A13 t]) (hP : ref21_All N aProps aAccept aGuard aNodes t = some r) :
    Calls Try.prog 20 #[.agg #[.int .i64 aProps, .slice A1 (List.length aAccept) c2, .slice A5 (List.length aGuard) c6, .slice A9 (List.length aNodes) c10], .slice A13 (List.length t) c14] w0 fun e w' => ∃ v, e = .returned v ∧ ∃ (A362 : Option Addr) (c363 : Nat), v = .tuple #[.slice A362 (List.length r.1) c363, .int .i64 r.2] ∧ Hp S Fa w0 w' [.row true (cInt .u8) 29 A362 c363 r.1] := by
 refine enterV (n := 50) Try.func20 rfl rfl rfl ?_
 intro a E
 replace E := E.pick [(0, .agg #[.int .i64 aProps, .slice A1 (List.length aAccept) c2, .slice A5 (List.length aGuard) c6, .slice A9 (List.length aNodes) c10]), (1, .slice A13 (List.length t) c14)] ⟨rfl, rfl, trivial⟩
 rw [ref21_All] at hP
 refine wp_seq ?_
 refine wp_region_lit ?_
 refine h_box H E rfl rfl rfl ?_
 intro w18 g17 a hc19 hg21 H_ E_
 replace E := E_ _ rfl; clear E_
 replace H := H_; clear H_; try dsimp only [setn, addE, goneL] at H
 refine vn tbok 2 [] [] [] E (by kernel_rfl) (by kernel_rfl) trivial ?_
 clear E; intro a E
 refine wpList_nil ?_
 refine th_n ?_
 refine wp_seq ?_
 refine wp_region_lit ?_
 refine vn tbok 1 [.agg #[.int .i64 aProps, .slice A1 (List.length aAccept) c2, .slice A5 (List.length aGuard) c6, .slice A9 (List.length aNodes) c10]] [(12, .agg #[.int .i64 aProps, .slice A1 (List.length aAccept) c2, .slice A5 (List.length aGuard) c6, .slice A9 (List.length aNodes) c10])] [cellsAt w18 g17 (0) [.int .i64 aProps, .slice A1 (List.length aAccept) c2, .slice A5 (List.length aGuard) c6, .slice A9 (List.length aNodes) c10]] E (by kernel_rfl) (by kernel_rfl) ((H.box 4 rfl).sub 0 _ rfl) ?_
 clear E; intro a E
 obtain ⟨r22, h23, hP⟩ := bind_inv hP
 obtain ⟨Fa24, Hc25, hb26⟩ := H.call [] [(0, false), (1, false), (2, false)] rfl rfl trivial
 refine e_call E rfl rfl Try.func27 rfl rfl rfl (ref21_New_calls A1 c2 A5 c6 A9 c10 aProps aAccept aGuard aNodes hk3 hk7 hk11 Hc25 h23) ?_
 intro v32 w31 a hR33 E_
 rcases hR33 with ⟨x_, hr_, rfl, HR35⟩ | ⟨x_, g36, hr_, rfl, HR37⟩
 ·
  subst hr_; have hP := elim_l hP
  obtain ⟨x38, hxx_⟩ : ∃ y_, y_ = x_ := ⟨_, rfl⟩; subst hxx_
  replace E := E_ _ rfl; clear E_
  obtain ⟨H_, hc34⟩ := hb26 _ _ HR35 rfl
  replace H := H_; clear H_; try dsimp only [setn, addE, goneL] at H
  refine vn tbok 5 [] [(6, .pointer none), (7, .int .i64 x38)] [] E (by kernel_rfl) (by kernel_rfl) trivial ?_
  clear E; intro a E
  refine wpList_nil ?_
  refine th_n ?_
  refine wp_seq ?_
  refine wp_seq ?_
  refine wp_region_lit ?_
  refine vn tbok 2 [] [(17, .bool ((x38 : Int) != 0))] [] E (by kernel_rfl) (by kernel_rfl) trivial ?_
  clear E; intro a E
  refine wpList_nil ?_
  refine th_n ?_
  refine E.cases (t := 17) rfl (fun hb_ E_ => ?_) (fun hb_ E_ => ?_)
  ·
   replace E := E_; clear E_
   have h40 : ¬ ((x38 : Int) = 0) := bne_iff_ne.1 hb_
   clear hb_; replace hP := ite_f h40 hP
   refine c_true E rfl ?_
   refine wp_seq ?_
   refine wp_region_lit ?_
   refine vn tbok 3 [] [(4, .slice none 0 0), (5, .int .i64 x38)] [] E (by kernel_rfl) (by kernel_rfl) trivial ?_
   clear E; intro a E
   refine wpList_nil ?_
   refine th_n ?_
   refine wp_ret ?_
   refine th_ret ?_
   replace H := H.nilrow (cInt .u8) 29; try dsimp only [setn, addE, goneL] at H
   obtain rfl := Option.some.inj hP
   refine ret2 E rfl rfl rfl ?_
   exact ⟨_, rfl, none, 0, rfl, H.sel [5] rfl⟩
  replace E := E_; clear E_
  have h42 : (x38 : Int) = 0 := bne_eq_false_iff_eq.1 hb_
  clear hb_; replace hP := ite_t h42 hP
  refine c_false E rfl ?_
  refine wp_skip ?_
  refine th_n ?_
  refine wp_seq ?_
  refine wp_region_lit ?_
  refine vn tbok 3 [.int .i64 aProps] [(20, .int .i64 aProps), (21, .slice A13 (List.length t) c14)] [World.cell? w31 ⟨g17, 0, none⟩ = some (.int .i64 aProps)] E (by kernel_rfl) (by kernel_rfl) ((H.box 4 rfl).cell (j := 0) rfl) ?_
  clear E; intro a E
  obtain ⟨r43, h44, hP⟩ := bind_inv hP
  obtain ⟨Fa45, Hc46, hb47⟩ := H.call [] [(3, false)] rfl rfl trivial
  refine e_call E rfl rfl Try.func39 rfl rfl rfl (ref01_Trace_calls A13 c14 aProps t hk15 Hc46 h44) ?_
  rintro v48 w49 a ⟨rfl, HR50⟩ E_
  replace E := E_ _ rfl; clear E_
  obtain ⟨H_, hc51⟩ := hb47 _ _ HR50 rfl
  replace H := H_; clear H_; try dsimp only [setn, addE, goneL] at H
  refine vn tbok 1 [] [(8, .int .i64 r43)] [] E (by kernel_rfl) (by kernel_rfl) trivial ?_
  clear E; intro a E
  refine wpList_nil ?_
  refine th_n ?_
  refine wp_seq ?_
  refine wp_seq ?_
  refine wp_region_lit ?_
  refine vn tbok 2 [] [(24, .bool ((r43 : Int) != 0))] [] E (by kernel_rfl) (by kernel_rfl) trivial ?_
  clear E; intro a E
  refine wpList_nil ?_
  refine th_n ?_
  refine E.cases (t := 24) rfl (fun hb_ E_ => ?_) (fun hb_ E_ => ?_)
  ·
   replace E := E_; clear E_
   have h52 : ¬ ((r43 : Int) = 0) := bne_iff_ne.1 hb_
   clear hb_; replace hP := ite_f h52 hP
   refine c_true E rfl ?_
   refine wp_seq ?_
   refine wp_region_lit ?_
   refine vn tbok 3 [] [(4, .slice none 0 0), (5, .int .i64 r43)] [] E (by kernel_rfl) (by kernel_rfl) trivial ?_
   clear E; intro a E
   refine wpList_nil ?_
   refine th_n ?_
   refine wp_ret ?_
   refine th_ret ?_
   replace H := H.nilrow (cInt .u8) 29; try dsimp only [setn, addE, goneL] at H
   obtain rfl := Option.some.inj hP
   refine ret2 E rfl rfl rfl ?_
   exact ⟨_, rfl, none, 0, rfl, H.sel [5] rfl⟩
  replace E := E_; clear E_
  have h54 : (r43 : Int) = 0 := bne_eq_false_iff_eq.1 hb_
  clear hb_; replace hP := ite_t h54 hP
  exact none_inv hP
  -- STOPPED: nilCheck of nilptr
 subst hr_; have hP := (elim_r hP)
 obtain ⟨x39, hxx_⟩ : ∃ y_, y_ = x_ := ⟨_, rfl⟩; subst hxx_
 replace E := E_ _ rfl; clear E_
 obtain ⟨H_, hc34⟩ := hb26 _ _ HR37 rfl
 replace H := H_; clear H_; try dsimp only [setn, addE, goneL] at H
 refine vn tbok 5 [] [(6, .pointer (some ⟨g36, 0, none⟩)), (7, .int .i64 x39)] [] E (by kernel_rfl) (by kernel_rfl) trivial ?_
 clear E; intro a E
 refine wpList_nil ?_
 refine th_n ?_
 refine wp_seq ?_
 refine wp_seq ?_
 refine wp_region_lit ?_
 refine vn tbok 2 [] [(17, .bool ((x39 : Int) != 0))] [] E (by kernel_rfl) (by kernel_rfl) trivial ?_
 clear E; intro a E
 refine wpList_nil ?_
 refine th_n ?_
 refine E.cases (t := 17) rfl (fun hb_ E_ => ?_) (fun hb_ E_ => ?_)
 ·
  replace E := E_; clear E_
  have h74 : ¬ ((x39 : Int) = 0) := bne_iff_ne.1 hb_
  clear hb_; replace hP := ite_f h74 hP
  refine c_true E rfl ?_
  refine wp_seq ?_
  refine wp_region_lit ?_
  refine vn tbok 3 [] [(4, .slice none 0 0), (5, .int .i64 x39)] [] E (by kernel_rfl) (by kernel_rfl) trivial ?_
  clear E; intro a E
  refine wpList_nil ?_
  refine th_n ?_
  refine wp_ret ?_
  refine th_ret ?_
  replace H := H.nilrow (cInt .u8) 29; try dsimp only [setn, addE, goneL] at H
  obtain rfl := Option.some.inj hP
  refine ret2 E rfl rfl rfl ?_
  exact ⟨_, rfl, none, 0, rfl, H.sel [6] rfl⟩
 replace E := E_; clear E_
 have h76 : (x39 : Int) = 0 := bne_eq_false_iff_eq.1 hb_
 clear hb_; replace hP := ite_t h76 hP
 refine c_false E rfl ?_
 refine wp_skip ?_
 refine th_n ?_
 refine wp_seq ?_
 refine wp_region_lit ?_
 refine vn tbok 3 [.int .i64 aProps] [(20, .int .i64 aProps), (21, .slice A13 (List.length t) c14)] [World.cell? w31 ⟨g17, 0, none⟩ = some (.int .i64 aProps)] E (by kernel_rfl) (by kernel_rfl) ((H.box 4 rfl).cell (j := 0) rfl) ?_
 clear E; intro a E
 obtain ⟨r77, h78, hP⟩ := bind_inv hP
 obtain ⟨Fa79, Hc80, hb81⟩ := H.call [] [(3, false)] rfl rfl trivial
 refine e_call E rfl rfl Try.func39 rfl rfl rfl (ref01_Trace_calls A13 c14 aProps t hk15 Hc80 h78) ?_
 rintro v82 w83 a ⟨rfl, HR84⟩ E_
 replace E := E_ _ rfl; clear E_
 obtain ⟨H_, hc85⟩ := hb81 _ _ HR84 rfl
 replace H := H_; clear H_; try dsimp only [setn, addE, goneL] at H
 refine vn tbok 1 [] [(8, .int .i64 r77)] [] E (by kernel_rfl) (by kernel_rfl) trivial ?_
 clear E; intro a E
 refine wpList_nil ?_
 refine th_n ?_
 refine wp_seq ?_
 refine wp_seq ?_
 refine wp_region_lit ?_
 refine vn tbok 2 [] [(24, .bool ((r77 : Int) != 0))] [] E (by kernel_rfl) (by kernel_rfl) trivial ?_
 clear E; intro a E
 refine wpList_nil ?_
 refine th_n ?_
 refine E.cases (t := 24) rfl (fun hb_ E_ => ?_) (fun hb_ E_ => ?_)
 ·
  replace E := E_; clear E_
  have h86 : ¬ ((r77 : Int) = 0) := bne_iff_ne.1 hb_
  clear hb_; replace hP := ite_f h86 hP
  refine c_true E rfl ?_
  refine wp_seq ?_
  refine wp_region_lit ?_
  refine vn tbok 3 [] [(4, .slice none 0 0), (5, .int .i64 r77)] [] E (by kernel_rfl) (by kernel_rfl) trivial ?_
  clear E; intro a E
  refine wpList_nil ?_
  refine th_n ?_
  refine wp_ret ?_
  refine th_ret ?_
  replace H := H.nilrow (cInt .u8) 29; try dsimp only [setn, addE, goneL] at H
  obtain rfl := Option.some.inj hP
  refine ret2 E rfl rfl rfl ?_
  exact ⟨_, rfl, none, 0, rfl, H.sel [6] rfl⟩
 replace E := E_; clear E_
 have h88 : (r77 : Int) = 0 := bne_eq_false_iff_eq.1 hb_
 clear hb_; replace hP := ite_t h88 hP
 refine c_false E rfl ?_
 refine wp_skip ?_
 refine th_n ?_
 refine wp_seq ?_
 refine wp_region_lit ?_
 refine vn tbok 1 [.agg #[.int .i64 aProps, .slice A1 (List.length aAccept) c2, .slice A5 (List.length aGuard) c6, .slice A9 (List.length aNodes) c10]] [(26, .agg #[.int .i64 aProps, .slice A1 (List.length aAccept) c2, .slice A5 (List.length aGuard) c6, .slice A9 (List.length aNodes) c10])] [cellsAt w83 g17 (0) [.int .i64 aProps, .slice A1 (List.length aAccept) c2, .slice A5 (List.length aGuard) c6, .slice A9 (List.length aNodes) c10]] E (by kernel_rfl) (by kernel_rfl) ((H.box 4 rfl).sub 0 _ rfl) ?_
 clear E; intro a E
 obtain ⟨r89, h90, hP⟩ := bind_inv hP
 obtain ⟨Fa91, Hc92, hb93⟩ := H.call [] [(0, false), (1, false), (2, false)] rfl rfl trivial
 refine e_call E rfl rfl Try.func40 rfl rfl rfl (ref21_Verdict_calls A1 c2 A5 c6 A9 c10 aProps aAccept aGuard aNodes 0 hk3 hk7 hk11 Hc92 h90) ?_
 rintro v94 w95 a ⟨rfl, HR96⟩ E_
 replace E := E_ _ rfl; clear E_
 obtain ⟨H_, hc97⟩ := hb93 _ _ HR96 rfl
 replace H := H_; clear H_; try dsimp only [setn, addE, goneL] at H
 refine h_buildSlice (ps := [(0, .int .u8 r89)]) (cs := [.int .u8 r89]) H E rfl rfl tbok rfl rfl (by kernel_rfl) ?_
 intro w99 g98 a hc100 hg102 H_ E_
 replace E := E_ _ rfl; clear E_
 replace H := H_; clear H_; try dsimp only [setn, addE, goneL] at H
 refine vn tbok 1 [] [(9, .slice (some ⟨g98, 0, none⟩) 1 1)] [] E (by kernel_rfl) (by kernel_rfl) trivial ?_
 clear E; intro a E
 refine wpList_nil ?_
 refine th_n ?_
 refine wp_seq ?_
 refine wp_seq ?_
 refine wp_region_lit ?_
 refine vn tbok 1 [] [(10, .int .i64 0)] [] E (by kernel_rfl) (by kernel_rfl) trivial ?_
 clear E; intro a E
 refine wpList_nil ?_
 refine th_n ?_
 refine wp_block ?_
 obtain ⟨x275, hL276, hK277⟩ := bind_inv hP
 clear hP
 replace H := H.nilrow (cInt .u8) 22; try dsimp only [setn, addE, goneL] at H
 have hk279 := H.rcap 7 rfl
 replace H := H.frz 7 rfl; try dsimp only [setn, addE, goneL] at H
 replace H := H.rodown 7 rfl; try dsimp only [setn, addE, goneL] at H
 replace H := H.boxRow (cInt .u8) true ([r89] : List Int) 6 rfl (fun _ _ => ⟨_, _, rfl, rfl, rfl⟩) (Nat.le_of_ble_eq_true rfl); try dsimp only [setn, addE, goneL] at H
 replace H := H.rowx 6 rfl; try dsimp only [setn, addE, goneL] at H
 refine loop_cut (fun i_ a w_ => (i_ = 0 ∧ ∃ (x282 : List Int), ∃ (A272 : Option Addr) (c273 : Nat), Fr a 50 [(9, .slice A272 (List.length x282) c273)] ∧ Hp S Fa w0 w_ [.row true (cInt .u8) 29 A272 c273 x282] ∧ x275 = x282)) ?_ ?_
 ·
  refine loopV (fun m281 a w280 => ∃ (w182 : List Int) (out186 : List Int) (i189 : Int), ∃ (A183 : Option Addr) (c184 : Nat) (A187 : Option Addr) (c188 : Nat), Fr a 50 [(1, .slice A13 (List.length t) c14), (2, .pointer (some ⟨g17, 0, none⟩)), (6, .pointer (some ⟨g36, 0, none⟩)), (9, .slice A187 (List.length out186) c188), (10, .int .i64 i189)] ∧ Hp S Fa w0 w280 [.ro false (cInt .u8) A13 t, .ro false cBool A1 aAccept, .ro false (cInt .i64) A5 aGuard, .ro false cNode A9 aNodes, .box g17 43 [.int .i64 aProps, .slice A1 (List.length aAccept) c2, .slice A5 (List.length aGuard) c6, .slice A9 (List.length aNodes) c10], .box g36 67 [.int .i64 aProps, .slice A1 (List.length aAccept) c2, .slice A5 (List.length aGuard) c6, .slice A9 (List.length aNodes) c10, .slice A183 (List.length w182) c184], .ro false (cInt .u8) A183 w182, .row true (cInt .u8) 29 A187 c188 out186] ∧ List.length w182 ≤ c184 ∧ ref21_All_l0 N aProps aAccept aGuard aNodes t m281 w182 out186 i189 = some x275) N ?_ ?_
  ·
   exact ⟨[], ([r89] : List Int), 0, none, 0, (some ⟨g98, 0, none⟩), (List.length ([r89] : List Int)), E.pick _ ⟨rfl, rfl, rfl, rfl, rfl, trivial⟩, H.sel [3, 0, 1, 2, 4, 5, 7, 6] rfl, (Nat.le_refl _), hL276⟩
  clear E H hL276; intro m281 a w280 hI_
  obtain ⟨w182, out186, i189, A183, c184, A187, c188, E, H, hk185, hP⟩ := hI_
  obtain ⟨m274, rfl⟩ : ∃ q_, m281 = q_ + 1 := by cases m281 with | zero => rw [ref21_All_l0] at hP; cases hP | succ q_ => exact ⟨q_, rfl⟩
  rw [ref21_All_l0] at hP
  refine wp_seq ?_
  refine wp_seq ?_
  refine wp_region_lit ?_
  refine vn tbok 4 [] [(32, .bool (decide (i189 < (((List.length t) : Nat) : Int))))] [] E (by kernel_rfl) (by kernel_rfl) trivial ?_
  clear E; intro a E
  refine wpList_nil ?_
  refine th_n ?_
  refine E.cases (t := 32) rfl (fun hb_ E_ => ?_) (fun hb_ E_ => ?_)
  ·
   replace E := E_; clear E_
   have h283 : i189 < (((List.length t) : Nat) : Int) := of_decide_eq_true hb_
   clear hb_; replace hP := ite_t h283 hP
   refine c_true E rfl ?_
   refine wp_skip ?_
   refine th_n ?_
   refine wp_seq ?_
   refine wp_block ?_
   refine wp_seq ?_
   refine wp_region_lit ?_
   obtain ⟨g284, hP⟩ := ask_inv hP
   refine vn tbok 4 [.int .i64 (i189 + 1)] [(35, .pointer (some ⟨g36, 0, none⟩)), (36, .slice A13 (List.length t) c14), (38, .int .i64 (i189 + 1))] [IntKind.i64.wrap (i189 + 1) = i189 + 1] E (by kernel_rfl) (by kernel_rfl) (wrap_in g284) ?_
   clear E; intro a E
   obtain ⟨g285, hP⟩ := ask_inv hP
   refine vn tbok 1 [] [(39, .slice A13 (Int.toNat (i189 + 1)) c14)] [0 ≤ (i189 + 1) ∧ (i189 + 1) ≤ ((c14 : Nat) : Int)] E (by kernel_rfl) (by kernel_rfl) (cut_le g285 hk15) ?_
   clear E; intro a E
   have hk287 := take_le (Int.toNat (i189 + 1)) hk15
   replace H := H.take 0 rfl (Int.toNat (i189 + 1)); try dsimp only [setn, addE, goneL] at H
   replace E := E.same (t := 39) (u := .slice A13 (List.length (List.take (Int.toNat (i189 + 1)) t)) c14) rfl (congrArg (fun n_ => Value.slice A13 n_ c14) (take_len g285))
   refine vn tbok 2 [] [(41, .pointer (some ⟨g36, 4, none⟩))] [] E (by kernel_rfl) (by kernel_rfl) trivial ?_
   clear E; intro a E
   refine h_store (g := g36) (off := 4) H 5 rfl E rfl rfl rfl rfl tbok rfl rfl rfl rfl rfl ?_
   clear E; intro w288 a hc289 H_ E
   replace H := H_; clear H_; try dsimp only [setn, addE, goneL] at H
   refine wpList_nil ?_
   refine th_n ?_
   obtain ⟨r290, h291, hP⟩ := bind_inv hP
   obtain ⟨r305, h306, hP⟩ := bind_inv hP
   obtain ⟨g319, hP⟩ := ask_inv hP
   have HR328 := H
   refine dr_start (S := fun w_ => Chg (atL [.box g36 67 [.int .i64 aProps, .slice A1 (List.length aAccept) c2, .slice A5 (List.length aGuard) c6, .slice A9 (List.length aNodes) c10, .slice A13 (List.length (List.take (Int.toNat (i189 + 1)) t)) c14], .row true (cInt .u8) 29 A187 c188 out186]) w288 w_) (by kernel_rfl) ?_
   intro w325 hc326
   have HS327 : Chg (atL [.box g36 67 [.int .i64 aProps, .slice A1 (List.length aAccept) c2, .slice A5 (List.length aGuard) c6, .slice A9 (List.length aNodes) c10, .slice A13 (List.length (List.take (Int.toNat (i189 + 1)) t)) c14], .row true (cInt .u8) 29 A187 c188 out186]) w288 w325 := hc326.mono (fun _ _ h_ => h_.elim)
   replace H := H.ext hc326
   refine dn tbok (by kernel_rfl) [0, 1, 2] [.agg #[.int .i64 aProps, .slice A1 (List.length aAccept) c2, .slice A5 (List.length aGuard) c6, .slice A9 (List.length aNodes) c10]] [(42, .slice A187 (List.length out186) c188), (43, .agg #[.int .i64 aProps, .slice A1 (List.length aAccept) c2, .slice A5 (List.length aGuard) c6, .slice A9 (List.length aNodes) c10]), (44, .pointer (some ⟨g36, 0, none⟩))] (fun w_ => [cellsAt w_ g17 (0) [.int .i64 aProps, .slice A1 (List.length aAccept) c2, .slice A5 (List.length aGuard) c6, .slice A9 (List.length aNodes) c10]]) 5 E (fun _ _ => by kernel_rfl) (by kernel_rfl) (fun w_ hS_ => ((HR328.boxk [5, 7] hS_ 4 rfl rfl).sub 0 _ rfl)) (by kernel_rfl) HS327 ?_
   clear E; intro a E
   refine wpAnyH_all (rs := [3]) (by kernel_rfl) (by simp) ?_
   refine all1 ?_
   refine wpOp_of_list rfl ?_
   obtain ⟨Fa329, Hc330, hb331⟩ := H.call [5] [(1, false), (2, false), (3, false), (8, false)] rfl rfl trivial
   refine e_call E rfl rfl Try.func41 rfl rfl rfl (ref21_Watch_State_calls g36 A1 c2 A5 c6 A9 c10 A13 c14 aProps aAccept aGuard aNodes (List.take (Int.toNat (i189 + 1)) t) hk3 hk7 hk11 hk287 Hc330 h291) ?_
   intro v337 w336 a hR338 E_
   obtain ⟨x_, hr_, rfl, HR340⟩ := hR338
   subst hr_
   replace E := E_ _ rfl; clear E_
   obtain ⟨H_, hc339⟩ := hb331 _ _ HR340 rfl
   replace HS327 := HS327.trans hc339 (fun k_ hk_ h_ => h_.elim (fun h_ => by have hs_ := HS327.size; exfalso; omega) (fun h_ => h_.elim (fun h_ => (fun _ _ h_ => Or.inl h_) k_ hk_ h_) (fun h_ => h_.elim)))
   replace H := H_; clear H_; try dsimp only [setn, addE, goneL] at H
   refine wpList_nil ?_
   refine th_n ⟨HS327, ?_⟩
   refine wpAnyH_all (rs := [4]) (by kernel_rfl) (by simp) ?_
   refine all1 ?_
   refine wpOp_of_list rfl ?_
   obtain ⟨Fa342, Hc343, hb344⟩ := H.call [] [(1, false), (2, false), (3, false)] rfl rfl trivial
   refine e_call E rfl rfl Try.func40 rfl rfl rfl (ref21_Verdict_calls A1 c2 A5 c6 A9 c10 aProps aAccept aGuard aNodes r290 hk3 hk7 hk11 Hc343 h306) ?_
   rintro v345 w346 a ⟨rfl, HR347⟩ E_
   replace E := E_ _ rfl; clear E_
   obtain ⟨H_, hc348⟩ := hb344 _ _ HR347 rfl
   replace HS327 := HS327.ext (callS_ext hc348)
   replace H := H_; clear H_; try dsimp only [setn, addE, goneL] at H
   refine wpList_nil ?_
   refine th_n ⟨HS327, ?_⟩
   refine wpAnyH_all (rs := [5]) (by kernel_rfl) (by simp) ?_
   refine all1 ?_
   refine wpOp_of_list rfl ?_
   refine h_buildSlice (ps := [(0, .int .u8 r305)]) (cs := [.int .u8 r305]) H E rfl rfl tbok rfl rfl (by kernel_rfl) ?_
   intro w350 g349 a hc351 hg353 H_ E_
   replace E := E_ _ rfl; clear E_
   have hin354 : ∀ q_, q_ < w288.heap.size → q_ = g349 → (atL [.box g36 67 [.int .i64 aProps, .slice A1 (List.length aAccept) c2, .slice A5 (List.length aGuard) c6, .slice A9 (List.length aNodes) c10, .slice A13 (List.length (List.take (Int.toNat (i189 + 1)) t)) c14], .row true (cInt .u8) 29 A187 c188 out186]) q_ := fun q_ h1_ h2_ => by have hs_ := HS327.size; have h4_ : q_ = g349 := h2_; exfalso; omega
   replace HS327 := HS327.ext hc351
   replace H := H_; clear H_; try dsimp only [setn, addE, goneL] at H
   refine wpList_nil ?_
   refine th_n ⟨HS327, ?_⟩
   refine wpAnyH_all (rs := [6]) (by kernel_rfl) (by simp) ?_
   refine all1 ?_
   refine wpOp_of_list rfl ?_
   refine h_append (cInt .u8) (xs := out186) (ys := ([r305] : List Int)) (0 : Int) H 7 rfl E rfl rfl tbok rfl rfl rfl rfl rfl (fun _ _ => rfl) rfl rfl (fun _ HF_ => HF_.srcB 10 rfl (⟨_, _, rfl, rfl, rfl⟩)) g319 ?_
   intro w355 A356 c357 a hc358 hA359 H_ E_
   replace E := E_ _ rfl; clear E_
   have hin360 : ∀ q_, q_ < w288.heap.size → At A356 q_ → (atL [.box g36 67 [.int .i64 aProps, .slice A1 (List.length aAccept) c2, .slice A5 (List.length aGuard) c6, .slice A9 (List.length aNodes) c10, .slice A13 (List.length (List.take (Int.toNat (i189 + 1)) t)) c14], .row true (cInt .u8) 29 A187 c188 out186]) q_ := fun q_ h1_ h2_ => (hA359 q_ h2_).elim ((fun _ _ h_ => Or.inr (Or.inl h_)) q_ h1_) (fun h3_ => by have hs_ := HS327.size; exfalso; omega)
   replace HS327 := HS327.trans hc358 (fun k_ hk_ h_ => (fun _ _ h_ => Or.inr (Or.inl h_)) k_ hk_ h_)
   replace H := H_; clear H_; try dsimp only [setn, addE, goneL] at H
   refine wpList_nil ?_
   refine th_n ⟨HS327, ?_⟩
   refine dn tbok (by kernel_rfl) [7] [] [(9, .slice A356 (List.length (out186 ++ ([r305] : List Int))) c357)] (fun w_ => []) 0 E (fun _ _ => by kernel_rfl) (by kernel_rfl) (fun w_ hS_ => trivial) (by kernel_rfl) HS327 ?_
   clear E; intro a E
   refine dr_done (by kernel_rfl) ?_
   clear HS327 HR328
   refine bl_n ?_
   refine th_n ?_
   refine wp_region_lit ?_
   refine vn tbok 3 [.int .i64 (i189 + 1)] [(10, .int .i64 (i189 + 1))] [IntKind.i64.wrap (i189 + 1) = i189 + 1] E (by kernel_rfl) (by kernel_rfl) (wrap_in g284) ?_
   clear E; intro a E
   refine wpList_nil ?_
   exact th_n ⟨m274, Nat.lt_succ_self _, List.take (Int.toNat (i189 + 1)) t, out186 ++ ([r305] : List Int), i189 + 1, A13, c14, A356, c357, E.pick _ ⟨rfl, rfl, rfl, rfl, rfl, trivial⟩, H.sel [0, 1, 2, 3, 4, 9, 8, 7] rfl, hk287, hP⟩
  replace E := E_; clear E_
  have h361 : ¬ (i189 < (((List.length t) : Nat) : Int)) := of_decide_eq_false hb_
  clear hb_; replace hP := ite_f h361 hP
  refine c_false E rfl ?_
  refine wp_exit ?_
  refine th_exit ?_
  have hx_ := Option.some.inj hP
  refine th_exit (.inl ⟨0, rfl, ?_⟩)
  exact ⟨rfl, out186, A187, c188, E.pick _ ⟨rfl, trivial⟩, H.sel [7] rfl, hx_.symm⟩
 clear E H hL276; intro i_ a w280 hM_
 obtain ⟨rfl, x282, A272, c273, E, H, hx_⟩ := hM_
 subst hx_; have hP := hK277; clear hK277
 refine bl_hit ?_
 refine th_n ?_
 refine wp_seq ?_
 refine wp_region_lit ?_
 refine vn tbok 3 [] [(4, .slice A272 (List.length x275) c273), (5, .int .i64 0)] [] E (by kernel_rfl) (by kernel_rfl) trivial ?_
 clear E; intro a E
 refine wpList_nil ?_
 refine th_n ?_
 refine wp_ret ?_
 obtain rfl := Option.some.inj hP
 refine ret2 E rfl rfl rfl ?_
 exact ⟨_, rfl, A272, c273, rfl, H.sel [0] rfl⟩

/-! rejoinder/watch.Told -/
def watch_Told (N : Nat) (aProps : Int) (aAccept : List Bool) (aGuard : List Int) (aNodes : List Nd) : Option ((List Int) × Int) :=
  Option.bind (guard_Check N aProps aAccept aGuard aNodes) fun r18 =>
  if (r18 : Int) = 0 then
    Option.bind (watch_made N aProps aAccept aGuard aNodes) fun r31 =>
    some (r31.2.2, 0)
  else
    some ([], r18)
set_option maxRecDepth 100000 in
set_option maxHeartbeats 4000000 in
theorem watch_Told_calls {N : Nat} {S Fa : Nat → Prop} {w0 : World} {r : (List Int) × Int} (A1 : Option Addr) (c2 : Nat) (A5 : Option Addr) (c6 : Nat) (A9 : Option Addr) (c10 : Nat) (aProps : Int) (aAccept : List Bool) (aGuard : List Int) (aNodes : List Nd) (hk3 : List.length aAccept ≤ c2) (hk7 : List.length aGuard ≤ c6) (hk11 : List.length aNodes ≤ c10) (H : Hp S Fa w0 w0 [.ro false cBool A1 aAccept, .ro false (cInt .i64) A5 aGuard, .ro false cNode A9 aNodes]) (hP : watch_Told N aProps aAccept aGuard aNodes = some r) :
    Calls Try.prog 21 #[.agg #[.int .i64 aProps, .slice A1 (List.length aAccept) c2, .slice A5 (List.length aGuard) c6, .slice A9 (List.length aNodes) c10]] w0 fun e w' => ∃ v, e = .returned v ∧ ∃ (A88 : Option Addr) (c89 : Nat), v = .tuple #[.slice A88 (List.length r.1) c89, .int .i64 r.2] ∧ List.length r.1 ≤ c89 ∧ Hp S Fa w0 w' [.ro true (cInt .u8) A88 r.1] := by
 refine enterV (n := 15) Try.func21 rfl rfl rfl ?_
 intro a E
 replace E := E.pick [(0, .agg #[.int .i64 aProps, .slice A1 (List.length aAccept) c2, .slice A5 (List.length aGuard) c6, .slice A9 (List.length aNodes) c10])] ⟨rfl, trivial⟩
 rw [watch_Told] at hP
 refine wp_seq ?_
 refine wp_region_lit ?_
 refine h_box H E rfl rfl rfl ?_
 intro w14 g13 a hc15 hg17 H_ E_
 replace E := E_ _ rfl; clear E_
 replace H := H_; clear H_; try dsimp only [setn, addE, goneL] at H
 refine vn tbok 2 [] [] [] E (by kernel_rfl) (by kernel_rfl) trivial ?_
 clear E; intro a E
 refine wpList_nil ?_
 refine th_n ?_
 refine wp_seq ?_
 refine wp_seq ?_
 refine wp_region_lit ?_
 refine vn tbok 1 [.agg #[.int .i64 aProps, .slice A1 (List.length aAccept) c2, .slice A5 (List.length aGuard) c6, .slice A9 (List.length aNodes) c10]] [(5, .agg #[.int .i64 aProps, .slice A1 (List.length aAccept) c2, .slice A5 (List.length aGuard) c6, .slice A9 (List.length aNodes) c10])] [cellsAt w14 g13 (0) [.int .i64 aProps, .slice A1 (List.length aAccept) c2, .slice A5 (List.length aGuard) c6, .slice A9 (List.length aNodes) c10]] E (by kernel_rfl) (by kernel_rfl) ((H.box 3 rfl).sub 0 _ rfl) ?_
 clear E; intro a E
 obtain ⟨r18, h19, hP⟩ := bind_inv hP
 obtain ⟨Fa20, Hc21, hb22⟩ := H.call [] [(0, false), (1, false), (2, false)] rfl rfl trivial
 refine e_call E rfl rfl Try.func36 rfl rfl rfl (guard_Check_calls A1 c2 A5 c6 A9 c10 aProps aAccept aGuard aNodes hk3 hk7 hk11 Hc21 h19) ?_
 rintro v23 w24 a ⟨rfl, HR25⟩ E_
 replace E := E_ _ rfl; clear E_
 obtain ⟨H_, hc26⟩ := hb22 _ _ HR25 rfl
 replace H := H_; clear H_; try dsimp only [setn, addE, goneL] at H
 refine vn tbok 1 [] [(4, .int .i64 r18)] [] E (by kernel_rfl) (by kernel_rfl) trivial ?_
 clear E; intro a E
 refine wpList_nil ?_
 refine th_n ?_
 refine wp_seq ?_
 refine wp_region_lit ?_
 refine vn tbok 2 [] [(8, .bool ((r18 : Int) != 0))] [] E (by kernel_rfl) (by kernel_rfl) trivial ?_
 clear E; intro a E
 refine wpList_nil ?_
 refine th_n ?_
 refine E.cases (t := 8) rfl (fun hb_ E_ => ?_) (fun hb_ E_ => ?_)
 ·
  replace E := E_; clear E_
  have h27 : ¬ ((r18 : Int) = 0) := bne_iff_ne.1 hb_
  clear hb_; replace hP := ite_f h27 hP
  refine c_true E rfl ?_
  refine wp_seq ?_
  refine wp_region_lit ?_
  refine vn tbok 3 [] [(2, .slice none 0 0), (3, .int .i64 r18)] [] E (by kernel_rfl) (by kernel_rfl) trivial ?_
  clear E; intro a E
  refine wpList_nil ?_
  refine th_n ?_
  refine wp_ret ?_
  refine th_ret ?_
  replace H := H.nilrow (cInt .u8) 29; try dsimp only [setn, addE, goneL] at H
  have hk29 := H.rcap 4 rfl
  replace H := H.frz 4 rfl; try dsimp only [setn, addE, goneL] at H
  obtain rfl := Option.some.inj hP
  refine ret2 E rfl rfl rfl ?_
  exact ⟨_, rfl, none, 0, rfl, hk29, H.sel [4] rfl⟩
 replace E := E_; clear E_
 have h30 : (r18 : Int) = 0 := bne_eq_false_iff_eq.1 hb_
 clear hb_; replace hP := ite_t h30 hP
 refine c_false E rfl ?_
 refine wp_skip ?_
 refine th_n ?_
 refine wp_seq ?_
 refine wp_region_lit ?_
 refine vn tbok 1 [.agg #[.int .i64 aProps, .slice A1 (List.length aAccept) c2, .slice A5 (List.length aGuard) c6, .slice A9 (List.length aNodes) c10]] [(10, .agg #[.int .i64 aProps, .slice A1 (List.length aAccept) c2, .slice A5 (List.length aGuard) c6, .slice A9 (List.length aNodes) c10])] [cellsAt w24 g13 (0) [.int .i64 aProps, .slice A1 (List.length aAccept) c2, .slice A5 (List.length aGuard) c6, .slice A9 (List.length aNodes) c10]] E (by kernel_rfl) (by kernel_rfl) ((H.box 3 rfl).sub 0 _ rfl) ?_
 clear E; intro a E
 obtain ⟨r31, h32, hP⟩ := bind_inv hP
 obtain ⟨Fa33, Hc34, hb35⟩ := H.call [] [(0, false), (1, false), (2, false)] rfl rfl trivial
 refine e_call E rfl rfl Try.func38 rfl rfl rfl (watch_made_calls A1 c2 A5 c6 A9 c10 aProps aAccept aGuard aNodes hk3 hk7 hk11 Hc34 h32) ?_
 intro v41 w40 a hR42 E_
 obtain ⟨x_, b45, hr_, rfl, HR44⟩ := hR42
 subst hr_
 replace E := E_ _ rfl; clear E_
 obtain ⟨H_, hc43⟩ := hb35 _ _ HR44 rfl
 replace H := H_; clear H_; try dsimp only [setn, addE, goneL] at H
 obtain ⟨Fz47, cs49, HF48, hK50, hc51⟩ := H.elem 4 true (el_ro rfl) r31 (idx_one _)
 obtain ⟨_, _, rfl, hK52, hK53⟩ := hK50
 obtain ⟨_, _, rfl, hK54, hK55⟩ := hK52
 obtain rfl := hK54
 obtain ⟨_, _, rfl, hK56, hK57⟩ := hK55
 obtain ⟨A58, c59, rfl, hk60, hC61⟩ := hK56
 obtain ⟨_, _, rfl, hK63, hK64⟩ := hK57
 obtain ⟨A65, c66, rfl, hk67, hC68⟩ := hK63
 obtain ⟨A70, c71, rfl, hk72, hC73⟩ := hK64
 obtain ⟨_, _, rfl, hK75, hK76⟩ := hK53
 obtain ⟨A77, c78, rfl, hk79, hC80⟩ := hK75
 obtain ⟨A82, c83, rfl, hk84, hC85⟩ := hK76
 replace HF48 := HF48.ins hC61
 replace HF48 := HF48.ins hC68
 replace HF48 := HF48.ins hC73
 replace HF48 := HF48.ins hC80
 replace HF48 := HF48.ins hC85
 replace H := HF48.hp; try dsimp only [addE] at H
 have hc87 : cellsAt w40 b45 (0) [.int .i64 r31.1.1, .slice A58 (List.length r31.1.2.1) c59, .slice A65 (List.length r31.1.2.2.1) c66, .slice A70 (List.length r31.1.2.2.2) c71, .slice A77 (List.length r31.2.1) c78, .slice A82 (List.length r31.2.2) c83] := hc51
 refine vn tbok 5 [.slice A82 (List.length r31.2.2) c83] [(2, .slice A82 (List.length r31.2.2) c83), (3, .int .i64 0)] [World.cell? w40 ⟨b45, 5, none⟩ = some (.slice A82 (List.length r31.2.2) c83)] E (by kernel_rfl) (by kernel_rfl) (hc87.get 5 _ rfl) ?_
 clear E; intro a E
 refine wpList_nil ?_
 refine th_n ?_
 refine wp_ret ?_
 obtain rfl := Option.some.inj hP
 refine ret2 E rfl rfl rfl ?_
 exact ⟨_, rfl, A82, c83, rfl, hk84, H.sel [9] rfl⟩

/-! rejoinder/rejoinderref21.Told -/
def ref21_Told_l0 (N : Nat) (aProps : Int) (aAccept : List Bool) (aGuard : List Int) (aNodes : List Nd) : Nat → (List Int) → Int → Option (List Int)
  | 0, _, _ => none
  | m86 + 1, out54, q57 =>
    if q57 < (((List.length aAccept) : Nat) : Int) then
      Option.bind (ref21_Verdict N aProps aAccept aGuard aNodes q57) fun r95 =>
      ask (List.length out54 + List.length ([r95] : List Int) ≤ 1000000000) <|
      ask (in64 (q57 + 1)) <|
      ref21_Told_l0 N aProps aAccept aGuard aNodes m86 (out54 ++ ([r95] : List Int)) (q57 + 1)
    else
      some out54
def ref21_Told (N : Nat) (aProps : Int) (aAccept : List Bool) (aGuard : List Int) (aNodes : List Nd) : Option ((List Int) × Int) :=
  Option.bind (ref14_Check N aProps aAccept aGuard aNodes) fun r18 =>
  if (r18 : Int) = 0 then
    Option.bind (ref21_Told_l0 N aProps aAccept aGuard aNodes N [] 0) fun x87 =>
    some (x87, 0)
  else
    some ([], 12)
set_option maxRecDepth 100000 in
set_option maxHeartbeats 4000000 in
theorem ref21_Told_calls {N : Nat} {S Fa : Nat → Prop} {w0 : World} {r : (List Int) × Int} (A1 : Option Addr) (c2 : Nat) (A5 : Option Addr) (c6 : Nat) (A9 : Option Addr) (c10 : Nat) (aProps : Int) (aAccept : List Bool) (aGuard : List Int) (aNodes : List Nd) (hk3 : List.length aAccept ≤ c2) (hk7 : List.length aGuard ≤ c6) (hk11 : List.length aNodes ≤ c10) (H : Hp S Fa w0 w0 [.ro false cBool A1 aAccept, .ro false (cInt .i64) A5 aGuard, .ro false cNode A9 aNodes]) (hP : ref21_Told N aProps aAccept aGuard aNodes = some r) :
    Calls Try.prog 22 #[.agg #[.int .i64 aProps, .slice A1 (List.length aAccept) c2, .slice A5 (List.length aGuard) c6, .slice A9 (List.length aNodes) c10]] w0 fun e w' => ∃ v, e = .returned v ∧ ∃ (A117 : Option Addr) (c118 : Nat), v = .tuple #[.slice A117 (List.length r.1) c118, .int .i64 r.2] ∧ Hp S Fa w0 w' [.row true (cInt .u8) 29 A117 c118 r.1] := by
 refine enterV (n := 23) Try.func22 rfl rfl rfl ?_
 intro a E
 replace E := E.pick [(0, .agg #[.int .i64 aProps, .slice A1 (List.length aAccept) c2, .slice A5 (List.length aGuard) c6, .slice A9 (List.length aNodes) c10])] ⟨rfl, trivial⟩
 rw [ref21_Told] at hP
 refine wp_seq ?_
 refine wp_region_lit ?_
 refine h_box H E rfl rfl rfl ?_
 intro w14 g13 a hc15 hg17 H_ E_
 replace E := E_ _ rfl; clear E_
 replace H := H_; clear H_; try dsimp only [setn, addE, goneL] at H
 refine vn tbok 2 [] [] [] E (by kernel_rfl) (by kernel_rfl) trivial ?_
 clear E; intro a E
 refine wpList_nil ?_
 refine th_n ?_
 refine wp_seq ?_
 refine wp_seq ?_
 refine wp_region_lit ?_
 refine vn tbok 1 [.agg #[.int .i64 aProps, .slice A1 (List.length aAccept) c2, .slice A5 (List.length aGuard) c6, .slice A9 (List.length aNodes) c10]] [(6, .agg #[.int .i64 aProps, .slice A1 (List.length aAccept) c2, .slice A5 (List.length aGuard) c6, .slice A9 (List.length aNodes) c10])] [cellsAt w14 g13 (0) [.int .i64 aProps, .slice A1 (List.length aAccept) c2, .slice A5 (List.length aGuard) c6, .slice A9 (List.length aNodes) c10]] E (by kernel_rfl) (by kernel_rfl) ((H.box 3 rfl).sub 0 _ rfl) ?_
 clear E; intro a E
 obtain ⟨r18, h19, hP⟩ := bind_inv hP
 obtain ⟨Fa20, Hc21, hb22⟩ := H.call [] [(0, false), (1, false), (2, false)] rfl rfl trivial
 refine e_call E rfl rfl Try.func42 rfl rfl rfl (ref14_Check_calls A1 c2 A5 c6 A9 c10 aProps aAccept aGuard aNodes hk3 hk7 hk11 Hc21 h19) ?_
 rintro v23 w24 a ⟨rfl, HR25⟩ E_
 replace E := E_ _ rfl; clear E_
 obtain ⟨H_, hc26⟩ := hb22 _ _ HR25 rfl
 replace H := H_; clear H_; try dsimp only [setn, addE, goneL] at H
 refine vn tbok 1 [] [(8, .bool ((r18 : Int) != 0))] [] E (by kernel_rfl) (by kernel_rfl) trivial ?_
 clear E; intro a E
 refine wpList_nil ?_
 refine th_n ?_
 refine E.cases (t := 8) rfl (fun hb_ E_ => ?_) (fun hb_ E_ => ?_)
 ·
  replace E := E_; clear E_
  have h27 : ¬ ((r18 : Int) = 0) := bne_iff_ne.1 hb_
  clear hb_; replace hP := ite_f h27 hP
  refine c_true E rfl ?_
  refine wp_seq ?_
  refine wp_region_lit ?_
  refine vn tbok 2 [] [(2, .slice none 0 0), (3, .int .i64 12)] [] E (by kernel_rfl) (by kernel_rfl) trivial ?_
  clear E; intro a E
  refine wpList_nil ?_
  refine th_n ?_
  refine wp_ret ?_
  refine th_ret ?_
  replace H := H.nilrow (cInt .u8) 29; try dsimp only [setn, addE, goneL] at H
  obtain rfl := Option.some.inj hP
  refine ret2 E rfl rfl rfl ?_
  exact ⟨_, rfl, none, 0, rfl, H.sel [4] rfl⟩
 replace E := E_; clear E_
 have h29 : (r18 : Int) = 0 := bne_eq_false_iff_eq.1 hb_
 clear hb_; replace hP := ite_t h29 hP
 refine c_false E rfl ?_
 refine wp_skip ?_
 refine th_n ?_
 refine wp_seq ?_
 refine wp_region_lit ?_
 refine vn tbok 1 [] [(4, .slice none 0 0)] [] E (by kernel_rfl) (by kernel_rfl) trivial ?_
 clear E; intro a E
 refine wpList_nil ?_
 refine th_n ?_
 refine wp_seq ?_
 refine wp_seq ?_
 refine wp_region_lit ?_
 refine vn tbok 1 [] [(5, .int .i64 0)] [] E (by kernel_rfl) (by kernel_rfl) trivial ?_
 clear E; intro a E
 refine wpList_nil ?_
 refine th_n ?_
 refine wp_block ?_
 obtain ⟨x87, hL88, hK89⟩ := bind_inv hP
 clear hP
 replace H := H.nilrow (cInt .u8) 29; try dsimp only [setn, addE, goneL] at H
 refine loop_cut (fun i_ a w_ => (i_ = 0 ∧ ∃ (x93 : List Int), ∃ (A84 : Option Addr) (c85 : Nat), Fr a 23 [(4, .slice A84 (List.length x93) c85)] ∧ Hp S Fa w0 w_ [.row true (cInt .u8) 29 A84 c85 x93] ∧ x87 = x93)) ?_ ?_
 ·
  refine loopV (fun m92 a w91 => ∃ (out54 : List Int) (q57 : Int), ∃ (A55 : Option Addr) (c56 : Nat), Fr a 23 [(1, .pointer (some ⟨g13, 0, none⟩)), (4, .slice A55 (List.length out54) c56), (5, .int .i64 q57)] ∧ Hp S Fa w0 w91 [.ro false cBool A1 aAccept, .ro false (cInt .i64) A5 aGuard, .ro false cNode A9 aNodes, .box g13 43 [.int .i64 aProps, .slice A1 (List.length aAccept) c2, .slice A5 (List.length aGuard) c6, .slice A9 (List.length aNodes) c10], .row true (cInt .u8) 29 A55 c56 out54] ∧ ref21_Told_l0 N aProps aAccept aGuard aNodes m92 out54 q57 = some x87) N ?_ ?_
  ·
   exact ⟨[], 0, none, 0, E.pick _ ⟨rfl, rfl, rfl, trivial⟩, H.sel [0, 1, 2, 3, 4] rfl, hL88⟩
  clear E H hL88; intro m92 a w91 hI_
  obtain ⟨out54, q57, A55, c56, E, H, hP⟩ := hI_
  obtain ⟨m86, rfl⟩ : ∃ q_, m92 = q_ + 1 := by cases m92 with | zero => rw [ref21_Told_l0] at hP; cases hP | succ q_ => exact ⟨q_, rfl⟩
  rw [ref21_Told_l0] at hP
  refine wp_seq ?_
  refine wp_seq ?_
  refine wp_region_lit ?_
  refine vn tbok 5 [.slice A1 (List.length aAccept) c2] [(13, .bool (decide (q57 < (((List.length aAccept) : Nat) : Int))))] [World.cell? w91 ⟨g13, 1, none⟩ = some (.slice A1 (List.length aAccept) c2)] E (by kernel_rfl) (by kernel_rfl) ((H.box 3 rfl).cell (j := 1) rfl) ?_
  clear E; intro a E
  refine wpList_nil ?_
  refine th_n ?_
  refine E.cases (t := 13) rfl (fun hb_ E_ => ?_) (fun hb_ E_ => ?_)
  ·
   replace E := E_; clear E_
   have h94 : q57 < (((List.length aAccept) : Nat) : Int) := of_decide_eq_true hb_
   clear hb_; replace hP := ite_t h94 hP
   refine c_true E rfl ?_
   refine wp_skip ?_
   refine th_n ?_
   refine wp_seq ?_
   refine wp_block ?_
   refine wp_region_lit ?_
   refine vn tbok 3 [.agg #[.int .i64 aProps, .slice A1 (List.length aAccept) c2, .slice A5 (List.length aGuard) c6, .slice A9 (List.length aNodes) c10]] [(16, .slice A55 (List.length out54) c56), (17, .agg #[.int .i64 aProps, .slice A1 (List.length aAccept) c2, .slice A5 (List.length aGuard) c6, .slice A9 (List.length aNodes) c10]), (18, .int .i64 q57)] [cellsAt w91 g13 (0) [.int .i64 aProps, .slice A1 (List.length aAccept) c2, .slice A5 (List.length aGuard) c6, .slice A9 (List.length aNodes) c10]] E (by kernel_rfl) (by kernel_rfl) ((H.box 3 rfl).sub 0 _ rfl) ?_
   clear E; intro a E
   obtain ⟨r95, h96, hP⟩ := bind_inv hP
   obtain ⟨Fa97, Hc98, hb99⟩ := H.call [] [(0, false), (1, false), (2, false)] rfl rfl trivial
   refine e_call E rfl rfl Try.func40 rfl rfl rfl (ref21_Verdict_calls A1 c2 A5 c6 A9 c10 aProps aAccept aGuard aNodes q57 hk3 hk7 hk11 Hc98 h96) ?_
   rintro v100 w101 a ⟨rfl, HR102⟩ E_
   replace E := E_ _ rfl; clear E_
   obtain ⟨H_, hc103⟩ := hb99 _ _ HR102 rfl
   replace H := H_; clear H_; try dsimp only [setn, addE, goneL] at H
   refine h_buildSlice (ps := [(0, .int .u8 r95)]) (cs := [.int .u8 r95]) H E rfl rfl tbok rfl rfl (by kernel_rfl) ?_
   intro w105 g104 a hc106 hg108 H_ E_
   replace E := E_ _ rfl; clear E_
   replace H := H_; clear H_; try dsimp only [setn, addE, goneL] at H
   obtain ⟨g109, hP⟩ := ask_inv hP
   refine h_append (cInt .u8) (xs := out54) (ys := ([r95] : List Int)) (0 : Int) H 4 rfl E rfl rfl tbok rfl rfl rfl rfl rfl (fun _ _ => rfl) rfl rfl (fun _ HF_ => HF_.srcB 5 rfl (⟨_, _, rfl, rfl, rfl⟩)) g109 ?_
   intro w110 A111 c112 a hc113 hA114 H_ E_
   replace E := E_ _ rfl; clear E_
   replace H := H_; clear H_; try dsimp only [setn, addE, goneL] at H
   refine vn tbok 1 [] [(4, .slice A111 (List.length (out54 ++ ([r95] : List Int))) c112)] [] E (by kernel_rfl) (by kernel_rfl) trivial ?_
   clear E; intro a E
   refine wpList_nil ?_
   refine bl_n ?_
   refine th_n ?_
   refine wp_region_lit ?_
   obtain ⟨g115, hP⟩ := ask_inv hP
   refine vn tbok 3 [.int .i64 (q57 + 1)] [(5, .int .i64 (q57 + 1))] [IntKind.i64.wrap (q57 + 1) = q57 + 1] E (by kernel_rfl) (by kernel_rfl) (wrap_in g115) ?_
   clear E; intro a E
   refine wpList_nil ?_
   exact th_n ⟨m86, Nat.lt_succ_self _, out54 ++ ([r95] : List Int), q57 + 1, A111, c112, E.pick _ ⟨rfl, rfl, rfl, trivial⟩, H.sel [0, 1, 2, 3, 4] rfl, hP⟩
  replace E := E_; clear E_
  have h116 : ¬ (q57 < (((List.length aAccept) : Nat) : Int)) := of_decide_eq_false hb_
  clear hb_; replace hP := ite_f h116 hP
  refine c_false E rfl ?_
  refine wp_exit ?_
  refine th_exit ?_
  have hx_ := Option.some.inj hP
  refine th_exit (.inl ⟨0, rfl, ?_⟩)
  exact ⟨rfl, out54, A55, c56, E.pick _ ⟨rfl, trivial⟩, H.sel [4] rfl, hx_.symm⟩
 clear E H hL88; intro i_ a w91 hM_
 obtain ⟨rfl, x93, A84, c85, E, H, hx_⟩ := hM_
 subst hx_; have hP := hK89; clear hK89
 refine bl_hit ?_
 refine th_n ?_
 refine wp_seq ?_
 refine wp_region_lit ?_
 refine vn tbok 3 [] [(2, .slice A84 (List.length x87) c85), (3, .int .i64 0)] [] E (by kernel_rfl) (by kernel_rfl) trivial ?_
 clear E; intro a E
 refine wpList_nil ?_
 refine th_n ?_
 refine wp_ret ?_
 obtain rfl := Option.some.inj hP
 refine ret2 E rfl rfl rfl ?_
 exact ⟨_, rfl, A84, c85, rfl, H.sel [0] rfl⟩

/-! rejoinder/rejoinderlaw21.same -/
def law21_same_l0 (N : Nat) (aa : List Int) (b : List Int) : Nat → Int → Option (Unit ⊕ Bool)
  | 0, _ => none
  | m41 + 1, i25 =>
    if i25 < (((List.length aa) : Nat) : Int) then
      ask (idx i25 (List.length aa)) <|
      ask (idx i25 (List.length b)) <|
      if ((List.getD aa (Int.toNat i25) 0) : Int) = (List.getD b (Int.toNat i25) 0) then
        ask (in64 (i25 + 1)) <|
        law21_same_l0 N aa b m41 (i25 + 1)
      else
        some (Sum.inr false)
    else
      some (Sum.inl ())
def law21_same (N : Nat) (aa : List Int) (b : List Int) : Option Bool :=
  if ((((List.length aa) : Nat) : Int) : Int) = (((List.length b) : Nat) : Int) then
    Option.bind (law21_same_l0 N aa b N 0) fun x42 =>
    Sum.elim (fun x47 =>
      some true)
     (fun x63 =>
      some x63) x42
  else
    some false
set_option maxRecDepth 100000 in
set_option maxHeartbeats 4000000 in
theorem law21_same_calls {N : Nat} {S Fa : Nat → Prop} {w0 : World} {r : Bool} (A1 : Option Addr) (c2 : Nat) (A5 : Option Addr) (c6 : Nat) (aa : List Int) (b : List Int) (hk3 : List.length aa ≤ c2) (hk7 : List.length b ≤ c6) (H : Hp S Fa w0 w0 [.ro false (cInt .u8) A1 aa, .ro false (cInt .u8) A5 b]) (hP : law21_same N aa b = some r) :
    Calls Try.prog 23 #[.slice A1 (List.length aa) c2, .slice A5 (List.length b) c6] w0 fun e w' => ∃ v, e = .returned v ∧ v = .bool r ∧ Hp S Fa w0 w' [] := by
 refine enterV (n := 26) Try.func23 rfl rfl rfl ?_
 intro a E
 replace E := E.pick [(0, .slice A1 (List.length aa) c2), (1, .slice A5 (List.length b) c6)] ⟨rfl, rfl, trivial⟩
 rw [law21_same] at hP
 refine wp_seq ?_
 refine wp_region_lit ?_
 refine vn tbok 1 [] [] [] E (by kernel_rfl) (by kernel_rfl) trivial ?_
 clear E; intro a E
 refine wpList_nil ?_
 refine th_n ?_
 refine wp_seq ?_
 refine wp_seq ?_
 refine wp_region_lit ?_
 refine vn tbok 5 [] [(10, .bool (((((List.length aa) : Nat) : Int) : Int) != (((List.length b) : Nat) : Int)))] [] E (by kernel_rfl) (by kernel_rfl) trivial ?_
 clear E; intro a E
 refine wpList_nil ?_
 refine th_n ?_
 refine E.cases (t := 10) rfl (fun hb_ E_ => ?_) (fun hb_ E_ => ?_)
 ·
  replace E := E_; clear E_
  have h9 : ¬ (((((List.length aa) : Nat) : Int) : Int) = (((List.length b) : Nat) : Int)) := bne_iff_ne.1 hb_
  clear hb_; replace hP := ite_f h9 hP
  refine c_true E rfl ?_
  refine wp_seq ?_
  refine wp_region_lit ?_
  refine vn tbok 1 [] [(4, .bool false)] [] E (by kernel_rfl) (by kernel_rfl) trivial ?_
  clear E; intro a E
  refine wpList_nil ?_
  refine th_n ?_
  refine wp_ret ?_
  refine th_ret ?_
  obtain rfl := Option.some.inj hP
  refine ret1 E rfl rfl ?_
  exact ⟨_, rfl, rfl, H.sel [] rfl⟩
 replace E := E_; clear E_
 have h10 : ((((List.length aa) : Nat) : Int) : Int) = (((List.length b) : Nat) : Int) := bne_eq_false_iff_eq.1 hb_
 clear hb_; replace hP := ite_t h10 hP
 refine c_false E rfl ?_
 refine wp_skip ?_
 refine th_n ?_
 refine wp_seq ?_
 refine wp_seq ?_
 refine wp_region_lit ?_
 refine vn tbok 1 [] [(5, .int .i64 0)] [] E (by kernel_rfl) (by kernel_rfl) trivial ?_
 clear E; intro a E
 refine wpList_nil ?_
 refine th_n ?_
 refine wp_block ?_
 obtain ⟨x42, hL43, hK44⟩ := bind_inv hP
 clear hP
 refine loop_cut (fun i_ a w_ => (i_ = 0 ∧ ∃ (x47 : Unit), Fr a 26 [] ∧ Hp S Fa w0 w_ [] ∧ x42 = Sum.inl x47)) ?_ ?_
 ·
  refine loopV (fun m46 a w45 => ∃ (i25 : Int), Fr a 26 [(0, .slice A1 (List.length aa) c2), (1, .slice A5 (List.length b) c6), (5, .int .i64 i25)] ∧ Hp S Fa w0 w45 [.ro false (cInt .u8) A1 aa, .ro false (cInt .u8) A5 b] ∧ law21_same_l0 N aa b m46 i25 = some x42) N ?_ ?_
  ·
   exact ⟨0, E.pick _ ⟨rfl, rfl, rfl, trivial⟩, H.sel [0, 1] rfl, hL43⟩
  clear E H hL43; intro m46 a w45 hI_
  obtain ⟨i25, E, H, hP⟩ := hI_
  obtain ⟨m41, rfl⟩ : ∃ q_, m46 = q_ + 1 := by cases m46 with | zero => rw [law21_same_l0] at hP; cases hP | succ q_ => exact ⟨q_, rfl⟩
  rw [law21_same_l0] at hP
  refine wp_seq ?_
  refine wp_seq ?_
  refine wp_region_lit ?_
  refine vn tbok 4 [] [(14, .bool (decide (i25 < (((List.length aa) : Nat) : Int))))] [] E (by kernel_rfl) (by kernel_rfl) trivial ?_
  clear E; intro a E
  refine wpList_nil ?_
  refine th_n ?_
  refine E.cases (t := 14) rfl (fun hb_ E_ => ?_) (fun hb_ E_ => ?_)
  ·
   replace E := E_; clear E_
   have h48 : i25 < (((List.length aa) : Nat) : Int) := of_decide_eq_true hb_
   clear hb_; replace hP := ite_t h48 hP
   refine c_true E rfl ?_
   refine wp_skip ?_
   refine th_n ?_
   refine wp_seq ?_
   refine wp_block ?_
   refine wp_seq ?_
   obtain ⟨g49, hP⟩ := ask_inv hP
   obtain ⟨b50, o51, e_b50⟩ := (H.rd 0 rds_ro).addr (idx_pos g49)
   subst e_b50
   obtain ⟨g52, hP⟩ := ask_inv hP
   obtain ⟨b53, o54, e_b53⟩ := (H.rd 1 rds_ro).addr (idx_pos g52)
   subst e_b53
   have HR58 := H
   refine dr_start (S := fun w_ => Chg (atL []) w45 w_) (by kernel_rfl) ?_
   intro w55 hc56
   have HS57 : Chg (atL []) w45 w55 := hc56.mono (fun _ _ h_ => h_.elim)
   replace H := H.ext hc56
   refine dn tbok (by kernel_rfl) [0, 1, 2, 3, 4, 5, 6, 7, 8] [.int .u8 (List.getD aa (Int.toNat i25) 0), .int .u8 (List.getD b (Int.toNat i25) 0)] [(25, .bool (((List.getD aa (Int.toNat i25) 0) : Int) != (List.getD b (Int.toNat i25) 0)))] (fun w_ => [0 ≤ i25 ∧ i25 < (((List.length aa) : Nat) : Int), World.cell? w_ ⟨b50, o51 + (Int.toNat i25) * 1, none⟩ = some (.int .u8 (List.getD aa (Int.toNat i25) 0)), 0 ≤ i25 ∧ i25 < (((List.length b) : Nat) : Int), World.cell? w_ ⟨b53, o54 + (Int.toNat i25) * 1, none⟩ = some (.int .u8 (List.getD b (Int.toNat i25) 0))]) 0 E (fun _ _ => by kernel_rfl) (by kernel_rfl) (fun w_ hS_ => ⟨g49, Rds.at1 (HR58.rdk [] hS_ 0 rds_ro rfl) 0 g49, g52, Rds.at1 (HR58.rdk [] hS_ 1 rds_ro rfl) 0 g52⟩) (by kernel_rfl) HS57 ?_
   clear E; intro a E
   refine dr_done (by kernel_rfl) ?_
   clear HS57 HR58
   refine th_n ?_
   refine E.cases (t := 25) rfl (fun hb_ E_ => ?_) (fun hb_ E_ => ?_)
   ·
    replace E := E_; clear E_
    have h59 : ¬ (((List.getD aa (Int.toNat i25) 0) : Int) = (List.getD b (Int.toNat i25) 0)) := bne_iff_ne.1 hb_
    clear hb_; replace hP := ite_f h59 hP
    refine c_true E rfl ?_
    refine wp_seq ?_
    refine wp_region_lit ?_
    refine vn tbok 1 [] [(4, .bool false)] [] E (by kernel_rfl) (by kernel_rfl) trivial ?_
    clear E; intro a E
    refine wpList_nil ?_
    refine th_n ?_
    refine wp_ret ?_
    refine bl_ret ?_
    refine th_ret ?_
    refine th_ret ?_
    refine .inr ⟨rfl, ?_⟩
    refine bl_ret ?_
    refine th_ret ?_
    have hx_ := Option.some.inj hP; subst hx_
    have hP : some (false) = some r := hK44
    obtain rfl := Option.some.inj hP
    refine ret1 E rfl rfl ?_
    exact ⟨_, rfl, rfl, H.sel [] rfl⟩
   replace E := E_; clear E_
   have h60 : ((List.getD aa (Int.toNat i25) 0) : Int) = (List.getD b (Int.toNat i25) 0) := bne_eq_false_iff_eq.1 hb_
   clear hb_; replace hP := ite_t h60 hP
   refine c_false E rfl ?_
   refine wp_skip ?_
   refine bl_n ?_
   refine th_n ?_
   refine wp_region_lit ?_
   obtain ⟨g61, hP⟩ := ask_inv hP
   refine vn tbok 3 [.int .i64 (i25 + 1)] [(5, .int .i64 (i25 + 1))] [IntKind.i64.wrap (i25 + 1) = i25 + 1] E (by kernel_rfl) (by kernel_rfl) (wrap_in g61) ?_
   clear E; intro a E
   refine wpList_nil ?_
   exact th_n ⟨m41, Nat.lt_succ_self _, i25 + 1, E.pick _ ⟨rfl, rfl, rfl, trivial⟩, H.sel [0, 1] rfl, hP⟩
  replace E := E_; clear E_
  have h62 : ¬ (i25 < (((List.length aa) : Nat) : Int)) := of_decide_eq_false hb_
  clear hb_; replace hP := ite_f h62 hP
  refine c_false E rfl ?_
  refine wp_exit ?_
  refine th_exit ?_
  have hx_ := Option.some.inj hP
  refine th_exit (.inl ⟨0, rfl, ?_⟩)
  exact ⟨rfl, (), E.pick _ trivial, H.sel [] rfl, hx_.symm⟩
 clear E H hL43; intro i_ a w45 hM_
 obtain ⟨rfl, x47, E, H, hx_⟩ := hM_
 subst hx_; have hP := elim_l hK44
 clear hK44
 refine bl_hit ?_
 refine th_n ?_
 refine wp_seq ?_
 refine wp_region_lit ?_
 refine vn tbok 1 [] [(4, .bool true)] [] E (by kernel_rfl) (by kernel_rfl) trivial ?_
 clear E; intro a E
 refine wpList_nil ?_
 refine th_n ?_
 refine wp_ret ?_
 obtain rfl := Option.some.inj hP
 refine ret1 E rfl rfl ?_
 exact ⟨_, rfl, rfl, H.sel [] rfl⟩

/-! rejoinder/rejoinderkit.SameBools -/
def kit_SameBools_l0 (N : Nat) (aa : List Bool) (b : List Bool) : Nat → Int → Option (Unit ⊕ Bool)
  | 0, _ => none
  | m41 + 1, i25 =>
    if i25 < (((List.length aa) : Nat) : Int) then
      ask (idx i25 (List.length aa)) <|
      ask (idx i25 (List.length b)) <|
      if (List.getD aa (Int.toNat i25) false) = (List.getD b (Int.toNat i25) false) then
        ask (in64 (i25 + 1)) <|
        kit_SameBools_l0 N aa b m41 (i25 + 1)
      else
        some (Sum.inr false)
    else
      some (Sum.inl ())
def kit_SameBools (N : Nat) (aa : List Bool) (b : List Bool) : Option Bool :=
  if ((((List.length aa) : Nat) : Int) : Int) = (((List.length b) : Nat) : Int) then
    Option.bind (kit_SameBools_l0 N aa b N 0) fun x42 =>
    Sum.elim (fun x47 =>
      some true)
     (fun x63 =>
      some x63) x42
  else
    some false
set_option maxRecDepth 100000 in
set_option maxHeartbeats 4000000 in
theorem kit_SameBools_calls {N : Nat} {S Fa : Nat → Prop} {w0 : World} {r : Bool} (A1 : Option Addr) (c2 : Nat) (A5 : Option Addr) (c6 : Nat) (aa : List Bool) (b : List Bool) (hk3 : List.length aa ≤ c2) (hk7 : List.length b ≤ c6) (H : Hp S Fa w0 w0 [.ro false cBool A1 aa, .ro false cBool A5 b]) (hP : kit_SameBools N aa b = some r) :
    Calls Try.prog 58 #[.slice A1 (List.length aa) c2, .slice A5 (List.length b) c6] w0 fun e w' => ∃ v, e = .returned v ∧ v = .bool r ∧ Hp S Fa w0 w' [] := by
 refine enterV (n := 26) Try.func58 rfl rfl rfl ?_
 intro a E
 replace E := E.pick [(0, .slice A1 (List.length aa) c2), (1, .slice A5 (List.length b) c6)] ⟨rfl, rfl, trivial⟩
 rw [kit_SameBools] at hP
 refine wp_seq ?_
 refine wp_region_lit ?_
 refine vn tbok 1 [] [] [] E (by kernel_rfl) (by kernel_rfl) trivial ?_
 clear E; intro a E
 refine wpList_nil ?_
 refine th_n ?_
 refine wp_seq ?_
 refine wp_seq ?_
 refine wp_region_lit ?_
 refine vn tbok 5 [] [(10, .bool (((((List.length aa) : Nat) : Int) : Int) != (((List.length b) : Nat) : Int)))] [] E (by kernel_rfl) (by kernel_rfl) trivial ?_
 clear E; intro a E
 refine wpList_nil ?_
 refine th_n ?_
 refine E.cases (t := 10) rfl (fun hb_ E_ => ?_) (fun hb_ E_ => ?_)
 ·
  replace E := E_; clear E_
  have h9 : ¬ (((((List.length aa) : Nat) : Int) : Int) = (((List.length b) : Nat) : Int)) := bne_iff_ne.1 hb_
  clear hb_; replace hP := ite_f h9 hP
  refine c_true E rfl ?_
  refine wp_seq ?_
  refine wp_region_lit ?_
  refine vn tbok 1 [] [(4, .bool false)] [] E (by kernel_rfl) (by kernel_rfl) trivial ?_
  clear E; intro a E
  refine wpList_nil ?_
  refine th_n ?_
  refine wp_ret ?_
  refine th_ret ?_
  obtain rfl := Option.some.inj hP
  refine ret1 E rfl rfl ?_
  exact ⟨_, rfl, rfl, H.sel [] rfl⟩
 replace E := E_; clear E_
 have h10 : ((((List.length aa) : Nat) : Int) : Int) = (((List.length b) : Nat) : Int) := bne_eq_false_iff_eq.1 hb_
 clear hb_; replace hP := ite_t h10 hP
 refine c_false E rfl ?_
 refine wp_skip ?_
 refine th_n ?_
 refine wp_seq ?_
 refine wp_seq ?_
 refine wp_region_lit ?_
 refine vn tbok 1 [] [(5, .int .i64 0)] [] E (by kernel_rfl) (by kernel_rfl) trivial ?_
 clear E; intro a E
 refine wpList_nil ?_
 refine th_n ?_
 refine wp_block ?_
 obtain ⟨x42, hL43, hK44⟩ := bind_inv hP
 clear hP
 refine loop_cut (fun i_ a w_ => (i_ = 0 ∧ ∃ (x47 : Unit), Fr a 26 [] ∧ Hp S Fa w0 w_ [] ∧ x42 = Sum.inl x47)) ?_ ?_
 ·
  refine loopV (fun m46 a w45 => ∃ (i25 : Int), Fr a 26 [(0, .slice A1 (List.length aa) c2), (1, .slice A5 (List.length b) c6), (5, .int .i64 i25)] ∧ Hp S Fa w0 w45 [.ro false cBool A1 aa, .ro false cBool A5 b] ∧ kit_SameBools_l0 N aa b m46 i25 = some x42) N ?_ ?_
  ·
   exact ⟨0, E.pick _ ⟨rfl, rfl, rfl, trivial⟩, H.sel [0, 1] rfl, hL43⟩
  clear E H hL43; intro m46 a w45 hI_
  obtain ⟨i25, E, H, hP⟩ := hI_
  obtain ⟨m41, rfl⟩ : ∃ q_, m46 = q_ + 1 := by cases m46 with | zero => rw [kit_SameBools_l0] at hP; cases hP | succ q_ => exact ⟨q_, rfl⟩
  rw [kit_SameBools_l0] at hP
  refine wp_seq ?_
  refine wp_seq ?_
  refine wp_region_lit ?_
  refine vn tbok 4 [] [(14, .bool (decide (i25 < (((List.length aa) : Nat) : Int))))] [] E (by kernel_rfl) (by kernel_rfl) trivial ?_
  clear E; intro a E
  refine wpList_nil ?_
  refine th_n ?_
  refine E.cases (t := 14) rfl (fun hb_ E_ => ?_) (fun hb_ E_ => ?_)
  ·
   replace E := E_; clear E_
   have h48 : i25 < (((List.length aa) : Nat) : Int) := of_decide_eq_true hb_
   clear hb_; replace hP := ite_t h48 hP
   refine c_true E rfl ?_
   refine wp_skip ?_
   refine th_n ?_
   refine wp_seq ?_
   refine wp_block ?_
   refine wp_seq ?_
   obtain ⟨g49, hP⟩ := ask_inv hP
   obtain ⟨b50, o51, e_b50⟩ := (H.rd 0 rds_ro).addr (idx_pos g49)
   subst e_b50
   obtain ⟨g52, hP⟩ := ask_inv hP
   obtain ⟨b53, o54, e_b53⟩ := (H.rd 1 rds_ro).addr (idx_pos g52)
   subst e_b53
   have HR58 := H
   refine dr_start (S := fun w_ => Chg (atL []) w45 w_) (by kernel_rfl) ?_
   intro w55 hc56
   have HS57 : Chg (atL []) w45 w55 := hc56.mono (fun _ _ h_ => h_.elim)
   replace H := H.ext hc56
   refine dn tbok (by kernel_rfl) [0, 1, 2, 3, 4, 5, 6, 7, 8] [.bool (List.getD aa (Int.toNat i25) false), .bool (List.getD b (Int.toNat i25) false)] [(25, .bool (!((List.getD aa (Int.toNat i25) false) == (List.getD b (Int.toNat i25) false))))] (fun w_ => [0 ≤ i25 ∧ i25 < (((List.length aa) : Nat) : Int), World.cell? w_ ⟨b50, o51 + (Int.toNat i25) * 1, none⟩ = some (.bool (List.getD aa (Int.toNat i25) false)), 0 ≤ i25 ∧ i25 < (((List.length b) : Nat) : Int), World.cell? w_ ⟨b53, o54 + (Int.toNat i25) * 1, none⟩ = some (.bool (List.getD b (Int.toNat i25) false))]) 0 E (fun _ _ => by kernel_rfl) (by kernel_rfl) (fun w_ hS_ => ⟨g49, Rds.at1 (HR58.rdk [] hS_ 0 rds_ro rfl) false g49, g52, Rds.at1 (HR58.rdk [] hS_ 1 rds_ro rfl) false g52⟩) (by kernel_rfl) HS57 ?_
   clear E; intro a E
   refine dr_done (by kernel_rfl) ?_
   clear HS57 HR58
   refine th_n ?_
   refine E.cases (t := 25) rfl (fun hb_ E_ => ?_) (fun hb_ E_ => ?_)
   ·
    replace E := E_; clear E_
    have h59 : ¬ ((List.getD aa (Int.toNat i25) false) = (List.getD b (Int.toNat i25) false)) := (by simpa using hb_)
    clear hb_; replace hP := ite_f h59 hP
    refine c_true E rfl ?_
    refine wp_seq ?_
    refine wp_region_lit ?_
    refine vn tbok 1 [] [(4, .bool false)] [] E (by kernel_rfl) (by kernel_rfl) trivial ?_
    clear E; intro a E
    refine wpList_nil ?_
    refine th_n ?_
    refine wp_ret ?_
    refine bl_ret ?_
    refine th_ret ?_
    refine th_ret ?_
    refine .inr ⟨rfl, ?_⟩
    refine bl_ret ?_
    refine th_ret ?_
    have hx_ := Option.some.inj hP; subst hx_
    have hP : some (false) = some r := hK44
    obtain rfl := Option.some.inj hP
    refine ret1 E rfl rfl ?_
    exact ⟨_, rfl, rfl, H.sel [] rfl⟩
   replace E := E_; clear E_
   have h60 : (List.getD aa (Int.toNat i25) false) = (List.getD b (Int.toNat i25) false) := (by simpa using hb_)
   clear hb_; replace hP := ite_t h60 hP
   refine c_false E rfl ?_
   refine wp_skip ?_
   refine bl_n ?_
   refine th_n ?_
   refine wp_region_lit ?_
   obtain ⟨g61, hP⟩ := ask_inv hP
   refine vn tbok 3 [.int .i64 (i25 + 1)] [(5, .int .i64 (i25 + 1))] [IntKind.i64.wrap (i25 + 1) = i25 + 1] E (by kernel_rfl) (by kernel_rfl) (wrap_in g61) ?_
   clear E; intro a E
   refine wpList_nil ?_
   exact th_n ⟨m41, Nat.lt_succ_self _, i25 + 1, E.pick _ ⟨rfl, rfl, rfl, trivial⟩, H.sel [0, 1] rfl, hP⟩
  replace E := E_; clear E_
  have h62 : ¬ (i25 < (((List.length aa) : Nat) : Int)) := of_decide_eq_false hb_
  clear hb_; replace hP := ite_f h62 hP
  refine c_false E rfl ?_
  refine wp_exit ?_
  refine th_exit ?_
  have hx_ := Option.some.inj hP
  refine th_exit (.inl ⟨0, rfl, ?_⟩)
  exact ⟨rfl, (), E.pick _ trivial, H.sel [] rfl, hx_.symm⟩
 clear E H hL43; intro i_ a w45 hM_
 obtain ⟨rfl, x47, E, H, hx_⟩ := hM_
 subst hx_; have hP := elim_l hK44
 clear hK44
 refine bl_hit ?_
 refine th_n ?_
 refine wp_seq ?_
 refine wp_region_lit ?_
 refine vn tbok 1 [] [(4, .bool true)] [] E (by kernel_rfl) (by kernel_rfl) trivial ?_
 clear E; intro a E
 refine wpList_nil ?_
 refine th_n ?_
 refine wp_ret ?_
 obtain rfl := Option.some.inj hP
 refine ret1 E rfl rfl ?_
 exact ⟨_, rfl, rfl, H.sel [] rfl⟩

end Go.V
