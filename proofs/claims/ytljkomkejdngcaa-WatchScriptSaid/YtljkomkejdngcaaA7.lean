/- Plain functions, and the calls that give them. -/
import Derived.Test.YtljkomkejdngcaaA6
set_option linter.all false
set_option linter.unusedVariables false
set_option linter.unnecessarySimpa false
set_option linter.unusedSimpArgs false
namespace Go.V
open Go Go.Proofs
/-! (*rejoinder/rejoinderref21.Watch).State -/
def ref21_Watch_State_l0 (N : Nat) (wAProps : Int) (wAAccept : List Bool) (wAGuard : List Int) (wANodes : List Nd) (wT : List Int) : Nat → Int → Int → Option Int
  | 0, _, _ => none
  | m174 + 1, q145, i146 =>
    if i146 < (((List.length wT) : Nat) : Int) then
      ask (idx i146 (List.length wT)) <|
      Option.bind (ref14_Next N wAProps wAAccept wAGuard wANodes q145 (List.getD wT (Int.toNat i146) 0)) fun r185 =>
      ask (in64 (i146 + 1)) <|
      ref21_Watch_State_l0 N wAProps wAAccept wAGuard wANodes wT m174 r185 (i146 + 1)
    else
      some q145
def ref21_Watch_State (N : Nat) (wAProps : Int) (wAAccept : List Bool) (wAGuard : List Int) (wANodes : List Nd) (wT : List Int) : Option Int :=
  Option.bind (ref21_Watch_State_l0 N wAProps wAAccept wAGuard wANodes wT N 0 0) fun x175 =>
  some x175
set_option maxRecDepth 100000 in
set_option maxHeartbeats 4000000 in
theorem ref21_Watch_State_calls {N : Nat} {S Fa : Nat → Prop} {w0 : World} {r : Int} (g1 : Nat) (A3 : Option Addr) (c4 : Nat) (A7 : Option Addr) (c8 : Nat) (A11 : Option Addr) (c12 : Nat) (A15 : Option Addr) (c16 : Nat) (wAProps : Int) (wAAccept : List Bool) (wAGuard : List Int) (wANodes : List Nd) (wT : List Int) (hk5 : List.length wAAccept ≤ c4) (hk9 : List.length wAGuard ≤ c8) (hk13 : List.length wANodes ≤ c12) (hk17 : List.length wT ≤ c16) (H : Hp S Fa w0 w0 [.box g1 67 [.int .i64 wAProps, .slice A3 (List.length wAAccept) c4, .slice A7 (List.length wAGuard) c8, .slice A11 (List.length wANodes) c12, .slice A15 (List.length wT) c16], .ro false cBool A3 wAAccept, .ro false (cInt .i64) A7 wAGuard, .ro false cNode A11 wANodes, .ro false (cInt .u8) A15 wT]) (hP : ref21_Watch_State N wAProps wAAccept wAGuard wANodes wT = some r) :
    Calls Try.prog 41 #[.pointer (some ⟨g1, 0, none⟩)] w0 fun e w' => ∃ v, e = .returned v ∧ (∃ (x_ : Int), r = x_ ∧ v = .int .i64 x_ ∧ Hp S Fa w0 w' [.box g1 67 [.int .i64 wAProps, .slice A3 (List.length wAAccept) c4, .slice A7 (List.length wAGuard) c8, .slice A11 (List.length wANodes) c12, .slice A15 (List.length wT) c16]]) := by
 refine enterV (n := 28) Try.func41 rfl rfl rfl ?_
 intro a E
 replace E := E.pick [(0, .pointer (some ⟨g1, 0, none⟩))] ⟨rfl, trivial⟩
 rw [ref21_Watch_State] at hP
 refine wp_seq ?_
 refine wp_region_lit ?_
 refine vn tbok 1 [] [] [] E (by kernel_rfl) (by kernel_rfl) trivial ?_
 clear E; intro a E
 refine wpList_nil ?_
 refine th_n ?_
 refine wp_seq ?_
 refine wp_region_lit ?_
 refine vn tbok 1 [] [(3, .int .i64 0)] [] E (by kernel_rfl) (by kernel_rfl) trivial ?_
 clear E; intro a E
 refine wpList_nil ?_
 refine th_n ?_
 refine wp_seq ?_
 refine wp_seq ?_
 refine wp_region_lit ?_
 refine vn tbok 1 [] [(4, .int .i64 0)] [] E (by kernel_rfl) (by kernel_rfl) trivial ?_
 clear E; intro a E
 refine wpList_nil ?_
 refine th_n ?_
 refine wp_block ?_
 obtain ⟨x175, hL176, hK177⟩ := bind_inv hP
 clear hP
 refine loop_cut (fun i_ a w_ => (i_ = 0 ∧ ∃ (x180 : Int), Fr a 28 [(3, .int .i64 x180)] ∧ Hp S Fa w0 w_ [.ro false cBool A3 wAAccept, .ro false (cInt .i64) A7 wAGuard, .ro false cNode A11 wANodes, .ro false (cInt .u8) A15 wT, .box g1 67 [.int .i64 wAProps, .slice A3 (List.length wAAccept) c4, .slice A7 (List.length wAGuard) c8, .slice A11 (List.length wANodes) c12, .slice A15 (List.length wT) c16]] ∧ x175 = x180)) ?_ ?_
 ·
  refine loopV (fun m179 a w178 => ∃ (q145 : Int) (i146 : Int), Fr a 28 [(0, .pointer (some ⟨g1, 0, none⟩)), (3, .int .i64 q145), (4, .int .i64 i146)] ∧ Hp S Fa w0 w178 [.ro false cBool A3 wAAccept, .ro false (cInt .i64) A7 wAGuard, .ro false cNode A11 wANodes, .ro false (cInt .u8) A15 wT, .box g1 67 [.int .i64 wAProps, .slice A3 (List.length wAAccept) c4, .slice A7 (List.length wAGuard) c8, .slice A11 (List.length wANodes) c12, .slice A15 (List.length wT) c16]] ∧ ref21_Watch_State_l0 N wAProps wAAccept wAGuard wANodes wT m179 q145 i146 = some x175) N ?_ ?_
  ·
   exact ⟨0, 0, E.pick _ ⟨rfl, rfl, rfl, trivial⟩, H.sel [1, 2, 3, 4, 0] rfl, hL176⟩
  clear E H hL176; intro m179 a w178 hI_
  obtain ⟨q145, i146, E, H, hP⟩ := hI_
  obtain ⟨m174, rfl⟩ : ∃ q_, m179 = q_ + 1 := by cases m179 with | zero => rw [ref21_Watch_State_l0] at hP; cases hP | succ q_ => exact ⟨q_, rfl⟩
  rw [ref21_Watch_State_l0] at hP
  refine wp_seq ?_
  refine wp_seq ?_
  refine wp_region_lit ?_
  refine vn tbok 7 [.slice A15 (List.length wT) c16] [(11, .bool (decide (i146 < (((List.length wT) : Nat) : Int))))] [World.cell? w178 ⟨g1, 4, none⟩ = some (.slice A15 (List.length wT) c16)] E (by kernel_rfl) (by kernel_rfl) ((H.box 4 rfl).cell (j := 4) rfl) ?_
  clear E; intro a E
  refine wpList_nil ?_
  refine th_n ?_
  refine E.cases (t := 11) rfl (fun hb_ E_ => ?_) (fun hb_ E_ => ?_)
  ·
   replace E := E_; clear E_
   have h181 : i146 < (((List.length wT) : Nat) : Int) := of_decide_eq_true hb_
   clear hb_; replace hP := ite_t h181 hP
   refine c_true E rfl ?_
   refine wp_skip ?_
   refine th_n ?_
   refine wp_seq ?_
   refine wp_block ?_
   obtain ⟨g182, hP⟩ := ask_inv hP
   obtain ⟨b183, o184, e_b183⟩ := (H.rd 3 rds_ro).addr (idx_pos g182)
   subst e_b183
   obtain ⟨r185, h186, hP⟩ := bind_inv hP
   have HR197 := H
   refine dr_start (S := fun w_ => Chg (atL []) w178 w_) (by kernel_rfl) ?_
   intro w194 hc195
   have HS196 : Chg (atL []) w178 w194 := hc195.mono (fun _ _ h_ => h_.elim)
   replace H := H.ext hc195
   refine dn tbok (by kernel_rfl) [0, 1, 2, 3, 4, 5, 6, 7, 8, 9, 10, 11] [.agg #[.int .i64 wAProps, .slice A3 (List.length wAAccept) c4, .slice A7 (List.length wAGuard) c8, .slice A11 (List.length wANodes) c12], .slice (some ⟨b183, o184, none⟩) (List.length wT) c16, .int .u8 (List.getD wT (Int.toNat i146) 0)] [(17, .agg #[.int .i64 wAProps, .slice A3 (List.length wAAccept) c4, .slice A7 (List.length wAGuard) c8, .slice A11 (List.length wANodes) c12]), (18, .int .i64 q145), (25, .int .u8 (List.getD wT (Int.toNat i146) 0))] (fun w_ => [cellsAt w_ g1 (0) [.int .i64 wAProps, .slice A3 (List.length wAAccept) c4, .slice A7 (List.length wAGuard) c8, .slice A11 (List.length wANodes) c12], World.cell? w_ ⟨g1, 4, none⟩ = some (.slice (some ⟨b183, o184, none⟩) (List.length wT) c16), 0 ≤ i146 ∧ i146 < (((List.length wT) : Nat) : Int), World.cell? w_ ⟨b183, o184 + (Int.toNat i146) * 1, none⟩ = some (.int .u8 (List.getD wT (Int.toNat i146) 0))]) 2 E (fun _ _ => by kernel_rfl) (by kernel_rfl) (fun w_ hS_ => ⟨(HR197.boxk [] hS_ 4 rfl rfl).sub 0 _ rfl, (HR197.boxk [] hS_ 4 rfl rfl).cell (j := 4) rfl, g182, Rds.at1 (HR197.rdk [] hS_ 3 rds_ro rfl) 0 g182⟩) (by kernel_rfl) HS196 ?_
   clear E; intro a E
   refine wpAnyH_all (rs := [12]) (by kernel_rfl) (by simp) ?_
   refine all1 ?_
   refine wpOp_of_list rfl ?_
   obtain ⟨Fa198, Hc199, hb200⟩ := H.call [] [(0, false), (1, false), (2, false)] rfl rfl trivial
   refine e_call E rfl rfl Try.func56 rfl rfl rfl (ref14_Next_calls A3 c4 A7 c8 A11 c12 wAProps wAAccept wAGuard wANodes q145 (List.getD wT (Int.toNat i146) 0) hk5 hk9 hk13 Hc199 h186) ?_
   rintro v201 w202 a ⟨rfl, HR203⟩ E_
   replace E := E_ _ rfl; clear E_
   obtain ⟨H_, hc204⟩ := hb200 _ _ HR203 rfl
   replace HS196 := HS196.ext (callS_ext hc204)
   replace H := H_; clear H_; try dsimp only [setn, addE, goneL] at H
   refine wpList_nil ?_
   refine th_n ⟨HS196, ?_⟩
   refine dn tbok (by kernel_rfl) [13] [] [(3, .int .i64 r185)] (fun w_ => []) 0 E (fun _ _ => by kernel_rfl) (by kernel_rfl) (fun w_ hS_ => trivial) (by kernel_rfl) HS196 ?_
   clear E; intro a E
   refine dr_done (by kernel_rfl) ?_
   clear HS196 HR197
   refine bl_n ?_
   refine th_n ?_
   refine wp_region_lit ?_
   obtain ⟨g205, hP⟩ := ask_inv hP
   refine vn tbok 3 [.int .i64 (i146 + 1)] [(4, .int .i64 (i146 + 1))] [IntKind.i64.wrap (i146 + 1) = i146 + 1] E (by kernel_rfl) (by kernel_rfl) (wrap_in g205) ?_
   clear E; intro a E
   refine wpList_nil ?_
   exact th_n ⟨m174, Nat.lt_succ_self _, r185, i146 + 1, E.pick _ ⟨rfl, rfl, rfl, trivial⟩, H.sel [0, 1, 2, 3, 4] rfl, hP⟩
  replace E := E_; clear E_
  have h206 : ¬ (i146 < (((List.length wT) : Nat) : Int)) := of_decide_eq_false hb_
  clear hb_; replace hP := ite_f h206 hP
  refine c_false E rfl ?_
  refine wp_exit ?_
  refine th_exit ?_
  have hx_ := Option.some.inj hP
  refine th_exit (.inl ⟨0, rfl, ?_⟩)
  exact ⟨rfl, q145, E.pick _ ⟨rfl, trivial⟩, H.sel [0, 1, 2, 3, 4] rfl, hx_.symm⟩
 clear E H hL176; intro i_ a w178 hM_
 obtain ⟨rfl, x180, E, H, hx_⟩ := hM_
 subst hx_; have hP := hK177; clear hK177
 refine bl_hit ?_
 refine th_n ?_
 refine wp_seq ?_
 refine wp_region_lit ?_
 refine vn tbok 2 [] [(2, .int .i64 x175)] [] E (by kernel_rfl) (by kernel_rfl) trivial ?_
 clear E; intro a E
 refine wpList_nil ?_
 refine th_n ?_
 refine wp_ret ?_
 obtain rfl := Option.some.inj hP
 refine ret1 E rfl rfl ?_
 exact ⟨_, rfl, ⟨x175, rfl, rfl, H.sel [4] rfl⟩⟩

/-! rejoinder/rejoinderref21.All -/
/-! rejoinder/watch.Told -/
/-! rejoinder/rejoinderref21.Told -/
/-! rejoinder/rejoinderlaw21.same -/
/-! rejoinder/rejoinderkit.SameBools -/
def kit_SameBools_l0 (N : Nat) (aa : List Bool) (b : List Bool) : Nat → Int → Option (Unit ⊕ Bool)
  | 0, _ => none
  | m41 + 1, i25 =>
    if i25 < (((List.length aa) : Nat) : Int) then
      ask (idx i25 (List.length aa)) <|
      ask (idx i25 (List.length b)) <|
      if (List.getD aa (Int.toNat i25) false) = (List.getD b (Int.toNat i25) false) then
        ask (in64 (i25 + 1)) <|
        kit_SameBools_l0 N aa b m41 (i25 + 1)
      else
        some (Sum.inr false)
    else
      some (Sum.inl ())
def kit_SameBools (N : Nat) (aa : List Bool) (b : List Bool) : Option Bool :=
  if ((((List.length aa) : Nat) : Int) : Int) = (((List.length b) : Nat) : Int) then
    Option.bind (kit_SameBools_l0 N aa b N 0) fun x42 =>
    Sum.elim (fun x47 =>
      some true)
     (fun x63 =>
      some x63) x42
  else
    some false
set_option maxRecDepth 100000 in
set_option maxHeartbeats 4000000 in
theorem kit_SameBools_calls {N : Nat} {S Fa : Nat → Prop} {w0 : World} {r : Bool} (A1 : Option Addr) (c2 : Nat) (A5 : Option Addr) (c6 : Nat) (aa : List Bool) (b : List Bool) (hk3 : List.length aa ≤ c2) (hk7 : List.length b ≤ c6) (H : Hp S Fa w0 w0 [.ro false cBool A1 aa, .ro false cBool A5 b]) (hP : kit_SameBools N aa b = some r) :
    Calls Try.prog 58 #[.slice A1 (List.length aa) c2, .slice A5 (List.length b) c6] w0 fun e w' => ∃ v, e = .returned v ∧ v = .bool r ∧ Hp S Fa w0 w' [] := by
 refine enterV (n := 26) Try.func58 rfl rfl rfl ?_
 intro a E
 replace E := E.pick [(0, .slice A1 (List.length aa) c2), (1, .slice A5 (List.length b) c6)] ⟨rfl, rfl, trivial⟩
 rw [kit_SameBools] at hP
 refine wp_seq ?_
 refine wp_region_lit ?_
 refine vn tbok 1 [] [] [] E (by kernel_rfl) (by kernel_rfl) trivial ?_
 clear E; intro a E
 refine wpList_nil ?_
 refine th_n ?_
 refine wp_seq ?_
 refine wp_seq ?_
 refine wp_region_lit ?_
 refine vn tbok 5 [] [(10, .bool (((((List.length aa) : Nat) : Int) : Int) != (((List.length b) : Nat) : Int)))] [] E (by kernel_rfl) (by kernel_rfl) trivial ?_
 clear E; intro a E
 refine wpList_nil ?_
 refine th_n ?_
 refine E.cases (t := 10) rfl (fun hb_ E_ => ?_) (fun hb_ E_ => ?_)
 ·
  replace E := E_; clear E_
  have h9 : ¬ (((((List.length aa) : Nat) : Int) : Int) = (((List.length b) : Nat) : Int)) := bne_iff_ne.1 hb_
  clear hb_; replace hP := ite_f h9 hP
  refine c_true E rfl ?_
  refine wp_seq ?_
  refine wp_region_lit ?_
  refine vn tbok 1 [] [(4, .bool false)] [] E (by kernel_rfl) (by kernel_rfl) trivial ?_
  clear E; intro a E
  refine wpList_nil ?_
  refine th_n ?_
  refine wp_ret ?_
  refine th_ret ?_
  obtain rfl := Option.some.inj hP
  refine ret1 E rfl rfl ?_
  exact ⟨_, rfl, rfl, H.sel [] rfl⟩
 replace E := E_; clear E_
 have h10 : ((((List.length aa) : Nat) : Int) : Int) = (((List.length b) : Nat) : Int) := bne_eq_false_iff_eq.1 hb_
 clear hb_; replace hP := ite_t h10 hP
 refine c_false E rfl ?_
 refine wp_skip ?_
 refine th_n ?_
 refine wp_seq ?_
 refine wp_seq ?_
 refine wp_region_lit ?_
 refine vn tbok 1 [] [(5, .int .i64 0)] [] E (by kernel_rfl) (by kernel_rfl) trivial ?_
 clear E; intro a E
 refine wpList_nil ?_
 refine th_n ?_
 refine wp_block ?_
 obtain ⟨x42, hL43, hK44⟩ := bind_inv hP
 clear hP
 refine loop_cut (fun i_ a w_ => (i_ = 0 ∧ ∃ (x47 : Unit), Fr a 26 [] ∧ Hp S Fa w0 w_ [] ∧ x42 = Sum.inl x47)) ?_ ?_
 ·
  refine loopV (fun m46 a w45 => ∃ (i25 : Int), Fr a 26 [(0, .slice A1 (List.length aa) c2), (1, .slice A5 (List.length b) c6), (5, .int .i64 i25)] ∧ Hp S Fa w0 w45 [.ro false cBool A1 aa, .ro false cBool A5 b] ∧ kit_SameBools_l0 N aa b m46 i25 = some x42) N ?_ ?_
  ·
   exact ⟨0, E.pick _ ⟨rfl, rfl, rfl, trivial⟩, H.sel [0, 1] rfl, hL43⟩
  clear E H hL43; intro m46 a w45 hI_
  obtain ⟨i25, E, H, hP⟩ := hI_
  obtain ⟨m41, rfl⟩ : ∃ q_, m46 = q_ + 1 := by cases m46 with | zero => rw [kit_SameBools_l0] at hP; cases hP | succ q_ => exact ⟨q_, rfl⟩
  rw [kit_SameBools_l0] at hP
  refine wp_seq ?_
  refine wp_seq ?_
  refine wp_region_lit ?_
  refine vn tbok 4 [] [(14, .bool (decide (i25 < (((List.length aa) : Nat) : Int))))] [] E (by kernel_rfl) (by kernel_rfl) trivial ?_
  clear E; intro a E
  refine wpList_nil ?_
  refine th_n ?_
  refine E.cases (t := 14) rfl (fun hb_ E_ => ?_) (fun hb_ E_ => ?_)
  ·
   replace E := E_; clear E_
   have h48 : i25 < (((List.length aa) : Nat) : Int) := of_decide_eq_true hb_
   clear hb_; replace hP := ite_t h48 hP
   refine c_true E rfl ?_
   refine wp_skip ?_
   refine th_n ?_
   refine wp_seq ?_
   refine wp_block ?_
   refine wp_seq ?_
   obtain ⟨g49, hP⟩ := ask_inv hP
   obtain ⟨b50, o51, e_b50⟩ := (H.rd 0 rds_ro).addr (idx_pos g49)
   subst e_b50
   obtain ⟨g52, hP⟩ := ask_inv hP
   obtain ⟨b53, o54, e_b53⟩ := (H.rd 1 rds_ro).addr (idx_pos g52)
   subst e_b53
   have HR58 := H
   refine dr_start (S := fun w_ => Chg (atL []) w45 w_) (by kernel_rfl) ?_
   intro w55 hc56
   have HS57 : Chg (atL []) w45 w55 := hc56.mono (fun _ _ h_ => h_.elim)
   replace H := H.ext hc56
   refine dn tbok (by kernel_rfl) [0, 1, 2, 3, 4, 5, 6, 7, 8] [.bool (List.getD aa (Int.toNat i25) false), .bool (List.getD b (Int.toNat i25) false)] [(25, .bool (!((List.getD aa (Int.toNat i25) false) == (List.getD b (Int.toNat i25) false))))] (fun w_ => [0 ≤ i25 ∧ i25 < (((List.length aa) : Nat) : Int), World.cell? w_ ⟨b50, o51 + (Int.toNat i25) * 1, none⟩ = some (.bool (List.getD aa (Int.toNat i25) false)), 0 ≤ i25 ∧ i25 < (((List.length b) : Nat) : Int), World.cell? w_ ⟨b53, o54 + (Int.toNat i25) * 1, none⟩ = some (.bool (List.getD b (Int.toNat i25) false))]) 0 E (fun _ _ => by kernel_rfl) (by kernel_rfl) (fun w_ hS_ => ⟨g49, Rds.at1 (HR58.rdk [] hS_ 0 rds_ro rfl) false g49, g52, Rds.at1 (HR58.rdk [] hS_ 1 rds_ro rfl) false g52⟩) (by kernel_rfl) HS57 ?_
   clear E; intro a E
   refine dr_done (by kernel_rfl) ?_
   clear HS57 HR58
   refine th_n ?_
   refine E.cases (t := 25) rfl (fun hb_ E_ => ?_) (fun hb_ E_ => ?_)
   ·
    replace E := E_; clear E_
    have h59 : ¬ ((List.getD aa (Int.toNat i25) false) = (List.getD b (Int.toNat i25) false)) := (by simpa using hb_)
    clear hb_; replace hP := ite_f h59 hP
    refine c_true E rfl ?_
    refine wp_seq ?_
    refine wp_region_lit ?_
    refine vn tbok 1 [] [(4, .bool false)] [] E (by kernel_rfl) (by kernel_rfl) trivial ?_
    clear E; intro a E
    refine wpList_nil ?_
    refine th_n ?_
    refine wp_ret ?_
    refine bl_ret ?_
    refine th_ret ?_
    refine th_ret ?_
    refine .inr ⟨rfl, ?_⟩
    refine bl_ret ?_
    refine th_ret ?_
    have hx_ := Option.some.inj hP; subst hx_
    have hP : some (false) = some r := hK44
    obtain rfl := Option.some.inj hP
    refine ret1 E rfl rfl ?_
    exact ⟨_, rfl, rfl, H.sel [] rfl⟩
   replace E := E_; clear E_
   have h60 : (List.getD aa (Int.toNat i25) false) = (List.getD b (Int.toNat i25) false) := (by simpa using hb_)
   clear hb_; replace hP := ite_t h60 hP
   refine c_false E rfl ?_
   refine wp_skip ?_
   refine bl_n ?_
   refine th_n ?_
   refine wp_region_lit ?_
   obtain ⟨g61, hP⟩ := ask_inv hP
   refine vn tbok 3 [.int .i64 (i25 + 1)] [(5, .int .i64 (i25 + 1))] [IntKind.i64.wrap (i25 + 1) = i25 + 1] E (by kernel_rfl) (by kernel_rfl) (wrap_in g61) ?_
   clear E; intro a E
   refine wpList_nil ?_
   exact th_n ⟨m41, Nat.lt_succ_self _, i25 + 1, E.pick _ ⟨rfl, rfl, rfl, trivial⟩, H.sel [0, 1] rfl, hP⟩
  replace E := E_; clear E_
  have h62 : ¬ (i25 < (((List.length aa) : Nat) : Int)) := of_decide_eq_false hb_
  clear hb_; replace hP := ite_f h62 hP
  refine c_false E rfl ?_
  refine wp_exit ?_
  refine th_exit ?_
  have hx_ := Option.some.inj hP
  refine th_exit (.inl ⟨0, rfl, ?_⟩)
  exact ⟨rfl, (), E.pick _ trivial, H.sel [] rfl, hx_.symm⟩
 clear E H hL43; intro i_ a w45 hM_
 obtain ⟨rfl, x47, E, H, hx_⟩ := hM_
 subst hx_; have hP := elim_l hK44
 clear hK44
 refine bl_hit ?_
 refine th_n ?_
 refine wp_seq ?_
 refine wp_region_lit ?_
 refine vn tbok 1 [] [(4, .bool true)] [] E (by kernel_rfl) (by kernel_rfl) trivial ?_
 clear E; intro a E
 refine wpList_nil ?_
 refine th_n ?_
 refine wp_ret ?_
 obtain rfl := Option.some.inj hP
 refine ret1 E rfl rfl ?_
 exact ⟨_, rfl, rfl, H.sel [] rfl⟩

end Go.V
