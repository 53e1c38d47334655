/- Plain functions, and the calls that give them. -/
import Derived.Test.YteiemajlkgdhaaaA2
set_option linter.all false
set_option linter.unusedVariables false
set_option linter.unnecessarySimpa false
set_option linter.unusedSimpArgs false
namespace Go.V
open Go Go.Proofs
/-! rejoinder/part.Classes -/
def part_Classes (N : Nat) (aProps : Int) (aAccept : List Bool) (aGuard : List Int) (aNodes : List Nd) : Option ((List Int) × Int) :=
  Option.bind (part_asked N aProps aAccept aGuard aNodes []) fun r19 =>
  if (r19 : Int) = 0 then
    Option.bind (part_classes N aProps aAccept aGuard aNodes) fun r31 =>
    some (r31, 0)
  else
    some ([], r19)
set_option maxRecDepth 100000 in
set_option maxHeartbeats 4000000 in
theorem part_Classes_calls {N : Nat} {S Fa : Nat → Prop} {w0 : World} {r : (List Int) × Int} (A1 : Option Addr) (c2 : Nat) (A5 : Option Addr) (c6 : Nat) (A9 : Option Addr) (c10 : Nat) (aProps : Int) (aAccept : List Bool) (aGuard : List Int) (aNodes : List Nd) (hk3 : List.length aAccept ≤ c2) (hk7 : List.length aGuard ≤ c6) (hk11 : List.length aNodes ≤ c10) (H : Hp S Fa w0 w0 [.ro false cBool A1 aAccept, .ro false (cInt .i64) A5 aGuard, .ro false cNode A9 aNodes]) (hP : part_Classes N aProps aAccept aGuard aNodes = some r) :
    Calls Try.prog 7 #[.agg #[.int .i64 aProps, .slice A1 (List.length aAccept) c2, .slice A5 (List.length aGuard) c6, .slice A9 (List.length aNodes) c10]] w0 fun e w' => ∃ v, e = .returned v ∧ ∃ (A43 : Option Addr) (c44 : Nat), v = .tuple #[.slice A43 (List.length r.1) c44, .int .i64 r.2] ∧ Hp S Fa w0 w' [.row true (cInt .i64) 3 A43 c44 r.1] := by
 refine enterV (n := 12) Try.func7 rfl rfl rfl ?_
 intro a E
 replace E := E.pick [(0, .agg #[.int .i64 aProps, .slice A1 (List.length aAccept) c2, .slice A5 (List.length aGuard) c6, .slice A9 (List.length aNodes) c10])] ⟨rfl, trivial⟩
 rw [part_Classes] at hP
 refine wp_seq ?_
 refine wp_region_lit ?_
 refine h_box H E rfl rfl rfl ?_
 intro w14 g13 a hc15 hg17 H_ E_
 replace E := E_ _ rfl; clear E_
 replace H := H_; clear H_; try dsimp only [setn, addE, goneL] at H
 refine vr tbok 2 [] [(1, .pointer (some ⟨g13, 0, none⟩))] [] E (by kernel_rfl) trivial ?_
 clear E; intro a E
 refine wpList_nil ?_
 refine th_n ?_
 refine wp_seq ?_
 refine wp_seq ?_
 refine wp_region_lit ?_
 refine vr tbok 1 [.agg #[.int .i64 aProps, .slice A1 (List.length aAccept) c2, .slice A5 (List.length aGuard) c6, .slice A9 (List.length aNodes) c10]] [(1, .pointer (some ⟨g13, 0, none⟩)), (5, .agg #[.int .i64 aProps, .slice A1 (List.length aAccept) c2, .slice A5 (List.length aGuard) c6, .slice A9 (List.length aNodes) c10])] [cellsAt w14 g13 (0) [.int .i64 aProps, .slice A1 (List.length aAccept) c2, .slice A5 (List.length aGuard) c6, .slice A9 (List.length aNodes) c10]] E (by kernel_rfl) ((H.box 3 rfl).sub 0 _ rfl) ?_
 clear E; intro a E
 replace H := H.nilrow (cInt .i64) 3; try dsimp only [setn, addE, goneL] at H
 obtain ⟨r19, h20, hP⟩ := bind_inv hP
 obtain ⟨Fa21, Hc22, hb23⟩ := H.call [] [(0, false), (1, false), (2, false), (4, false)] rfl rfl trivial
 refine e_call E rfl rfl Try.func24 rfl rfl rfl (part_asked_calls A1 c2 A5 c6 A9 c10 none 0 aProps aAccept aGuard aNodes [] hk3 hk7 hk11 (Nat.le_refl _) Hc22 h20) ?_
 rintro v24 w25 a ⟨rfl, HR26⟩ E_
 replace E := E_ _ rfl; clear E_
 obtain ⟨H_, hc27⟩ := hb23 _ _ HR26 rfl
 replace H := H_; clear H_; try dsimp only [setn, addE, goneL] at H
 refine vr tbok 1 [] [(1, .pointer (some ⟨g13, 0, none⟩)), (4, .int .i64 r19)] [] E (by kernel_rfl) trivial ?_
 clear E; intro a E
 refine wpList_nil ?_
 refine th_n ?_
 refine wp_seq ?_
 refine wp_region_lit ?_
 refine vr tbok 2 [] [(1, .pointer (some ⟨g13, 0, none⟩)), (4, .int .i64 r19), (8, .bool ((r19 : Int) != 0))] [] E (by kernel_rfl) trivial ?_
 clear E; intro a E
 refine wpList_nil ?_
 refine th_n ?_
 refine E.cases (t := 8) rfl (fun hb_ E_ => ?_) (fun hb_ E_ => ?_)
 ·
  replace E := E_; clear E_
  have h28 : ¬ ((r19 : Int) = 0) := bne_iff_ne.1 hb_
  clear hb_; replace hP := ite_f h28 hP
  refine c_true E rfl ?_
  refine wp_seq ?_
  refine wp_region_lit ?_
  refine vr tbok 3 [] [(2, .slice none 0 0), (3, .int .i64 r19)] [] E (by kernel_rfl) trivial ?_
  clear E; intro a E
  refine wpList_nil ?_
  refine th_n ?_
  refine wp_ret ?_
  refine th_ret ?_
  replace H := H.nilrow (cInt .i64) 3; try dsimp only [setn, addE, goneL] at H
  obtain rfl := Option.some.inj hP
  refine ret2 E rfl rfl rfl ?_
  exact ⟨_, rfl, none, 0, rfl, H.sel [5] rfl⟩
 replace E := E_; clear E_
 have h30 : (r19 : Int) = 0 := bne_eq_false_iff_eq.1 hb_
 clear hb_; replace hP := ite_t h30 hP
 refine c_false E rfl ?_
 refine wp_skip ?_
 refine th_n ?_
 refine wp_seq ?_
 refine wp_region_lit ?_
 refine vr tbok 1 [.agg #[.int .i64 aProps, .slice A1 (List.length aAccept) c2, .slice A5 (List.length aGuard) c6, .slice A9 (List.length aNodes) c10]] [(10, .agg #[.int .i64 aProps, .slice A1 (List.length aAccept) c2, .slice A5 (List.length aGuard) c6, .slice A9 (List.length aNodes) c10])] [cellsAt w25 g13 (0) [.int .i64 aProps, .slice A1 (List.length aAccept) c2, .slice A5 (List.length aGuard) c6, .slice A9 (List.length aNodes) c10]] E (by kernel_rfl) ((H.box 3 rfl).sub 0 _ rfl) ?_
 clear E; intro a E
 obtain ⟨r31, h32, hP⟩ := bind_inv hP
 obtain ⟨Fa33, Hc34, hb35⟩ := H.call [] [(0, false), (1, false), (2, false)] rfl rfl trivial
 refine e_call E rfl rfl Try.func25 rfl rfl rfl (part_classes_calls A1 c2 A5 c6 A9 c10 aProps aAccept aGuard aNodes hk3 hk7 hk11 Hc34 h32) ?_
 rintro v36 w37 a ⟨A40, c41, rfl, HR38⟩ E_
 replace E := E_ _ rfl; clear E_
 obtain ⟨H_, hc39⟩ := hb35 _ _ HR38 rfl
 replace H := H_; clear H_; try dsimp only [setn, addE, goneL] at H
 refine vr tbok 2 [] [(2, .slice A40 (List.length r31) c41), (3, .int .i64 0)] [] E (by kernel_rfl) trivial ?_
 clear E; intro a E
 refine wpList_nil ?_
 refine th_n ?_
 refine wp_ret ?_
 obtain rfl := Option.some.inj hP
 refine ret2 E rfl rfl rfl ?_
 exact ⟨_, rfl, A40, c41, rfl, H.sel [5] rfl⟩

/-! rejoinder/rejoinderkit.SameInts -/
def kit_SameInts_l0 (N : Nat) (aa : List Int) (b : List Int) : Nat → Int → Option (Unit ⊕ Bool)
  | 0, _ => none
  | m41 + 1, i25 =>
    if i25 < (((List.length aa) : Nat) : Int) then
      ask (idx i25 (List.length aa)) <|
      ask (idx i25 (List.length b)) <|
      if ((List.getD aa (Int.toNat i25) 0) : Int) = (List.getD b (Int.toNat i25) 0) then
        ask (in64 (i25 + 1)) <|
        kit_SameInts_l0 N aa b m41 (i25 + 1)
      else
        some (Sum.inr false)
    else
      some (Sum.inl ())
def kit_SameInts (N : Nat) (aa : List Int) (b : List Int) : Option Bool :=
  if ((((List.length aa) : Nat) : Int) : Int) = (((List.length b) : Nat) : Int) then
    Option.bind (kit_SameInts_l0 N aa b N 0) fun x42 =>
    Sum.elim (fun x47 =>
      some true)
     (fun x63 =>
      some x63) x42
  else
    some false
set_option maxRecDepth 100000 in
set_option maxHeartbeats 4000000 in
theorem kit_SameInts_calls {N : Nat} {S Fa : Nat → Prop} {w0 : World} {r : Bool} (A1 : Option Addr) (c2 : Nat) (A5 : Option Addr) (c6 : Nat) (aa : List Int) (b : List Int) (hk3 : List.length aa ≤ c2) (hk7 : List.length b ≤ c6) (H : Hp S Fa w0 w0 [.ro false (cInt .i64) A1 aa, .ro false (cInt .i64) A5 b]) (hP : kit_SameInts N aa b = some r) :
    Calls Try.prog 16 #[.slice A1 (List.length aa) c2, .slice A5 (List.length b) c6] w0 fun e w' => ∃ v, e = .returned v ∧ v = .bool r ∧ Hp S Fa w0 w' [] := by
 refine enterV (n := 26) Try.func16 rfl rfl rfl ?_
 intro a E
 replace E := E.pick [(0, .slice A1 (List.length aa) c2), (1, .slice A5 (List.length b) c6)] ⟨rfl, rfl, trivial⟩
 rw [kit_SameInts] at hP
 refine wp_seq ?_
 refine wp_region_lit ?_
 refine vr tbok 1 [] [(0, .slice A1 (List.length aa) c2), (1, .slice A5 (List.length b) c6)] [] E (by kernel_rfl) trivial ?_
 clear E; intro a E
 refine wpList_nil ?_
 refine th_n ?_
 refine wp_seq ?_
 refine wp_seq ?_
 refine wp_region_lit ?_
 refine vr tbok 5 [] [(0, .slice A1 (List.length aa) c2), (1, .slice A5 (List.length b) c6), (10, .bool (((((List.length aa) : Nat) : Int) : Int) != (((List.length b) : Nat) : Int)))] [] E (by kernel_rfl) trivial ?_
 clear E; intro a E
 refine wpList_nil ?_
 refine th_n ?_
 refine E.cases (t := 10) rfl (fun hb_ E_ => ?_) (fun hb_ E_ => ?_)
 ·
  replace E := E_; clear E_
  have h9 : ¬ (((((List.length aa) : Nat) : Int) : Int) = (((List.length b) : Nat) : Int)) := bne_iff_ne.1 hb_
  clear hb_; replace hP := ite_f h9 hP
  refine c_true E rfl ?_
  refine wp_seq ?_
  refine wp_region_lit ?_
  refine vr tbok 1 [] [(4, .bool false)] [] E (by kernel_rfl) trivial ?_
  clear E; intro a E
  refine wpList_nil ?_
  refine th_n ?_
  refine wp_ret ?_
  refine th_ret ?_
  obtain rfl := Option.some.inj hP
  refine ret1 E rfl rfl ?_
  exact ⟨_, rfl, rfl, H.sel [] rfl⟩
 replace E := E_; clear E_
 have h10 : ((((List.length aa) : Nat) : Int) : Int) = (((List.length b) : Nat) : Int) := bne_eq_false_iff_eq.1 hb_
 clear hb_; replace hP := ite_t h10 hP
 refine c_false E rfl ?_
 refine wp_skip ?_
 refine th_n ?_
 refine wp_seq ?_
 refine wp_seq ?_
 refine wp_region_lit ?_
 refine vr tbok 1 [] [(0, .slice A1 (List.length aa) c2), (1, .slice A5 (List.length b) c6), (5, .int .i64 0)] [] E (by kernel_rfl) trivial ?_
 clear E; intro a E
 refine wpList_nil ?_
 refine th_n ?_
 refine wp_block ?_
 obtain ⟨x42, hL43, hK44⟩ := bind_inv hP
 clear hP
 refine loop_cut (fun i_ a w_ => (i_ = 0 ∧ ∃ (x47 : Unit), Fr a 26 [] ∧ Hp S Fa w0 w_ [] ∧ x42 = Sum.inl x47)) ?_ ?_
 ·
  refine loopV (fun m46 a w45 => ∃ (i25 : Int), Fr a 26 [(0, .slice A1 (List.length aa) c2), (1, .slice A5 (List.length b) c6), (5, .int .i64 i25)] ∧ Hp S Fa w0 w45 [.ro false (cInt .i64) A1 aa, .ro false (cInt .i64) A5 b] ∧ kit_SameInts_l0 N aa b m46 i25 = some x42) N ?_ ?_
  ·
   exact ⟨0, E.pick _ ⟨rfl, rfl, rfl, trivial⟩, H.sel [0, 1] rfl, hL43⟩
  clear E H hL43; intro m46 a w45 hI_
  obtain ⟨i25, E, H, hP⟩ := hI_
  obtain ⟨m41, rfl⟩ : ∃ q_, m46 = q_ + 1 := by cases m46 with | zero => rw [kit_SameInts_l0] at hP; cases hP | succ q_ => exact ⟨q_, rfl⟩
  rw [kit_SameInts_l0] at hP
  refine wp_seq ?_
  refine wp_seq ?_
  refine wp_region_lit ?_
  refine vr tbok 4 [] [(0, .slice A1 (List.length aa) c2), (1, .slice A5 (List.length b) c6), (5, .int .i64 i25), (14, .bool (decide (i25 < (((List.length aa) : Nat) : Int))))] [] E (by kernel_rfl) trivial ?_
  clear E; intro a E
  refine wpList_nil ?_
  refine th_n ?_
  refine E.cases (t := 14) rfl (fun hb_ E_ => ?_) (fun hb_ E_ => ?_)
  ·
   replace E := E_; clear E_
   have h48 : i25 < (((List.length aa) : Nat) : Int) := of_decide_eq_true hb_
   clear hb_; replace hP := ite_t h48 hP
   refine c_true E rfl ?_
   refine wp_skip ?_
   refine th_n ?_
   refine wp_seq ?_
   refine wp_block ?_
   refine wp_seq ?_
   obtain ⟨g49, hP⟩ := ask_inv hP
   obtain ⟨b50, o51, e_b50⟩ := (H.rd 0 rds_ro).addr (idx_pos g49)
   subst e_b50
   obtain ⟨g52, hP⟩ := ask_inv hP
   obtain ⟨b53, o54, e_b53⟩ := (H.rd 1 rds_ro).addr (idx_pos g52)
   subst e_b53
   have HR58 := H
   refine dr_start (S := fun w_ => Chg (atL []) w45 w_) (by kernel_rfl) ?_
   intro w55 hc56
   have HS57 : Chg (atL []) w45 w55 := hc56.mono (fun _ _ h_ => h_.elim)
   replace H := H.ext hc56
   refine dr tbok (by kernel_rfl) [0, 1, 2, 3, 4, 5, 6, 7, 8] [.int .i64 (List.getD aa (Int.toNat i25) 0), .int .i64 (List.getD b (Int.toNat i25) 0)] [(0, .slice (some ⟨b50, o51, none⟩) (List.length aa) c2), (1, .slice (some ⟨b53, o54, none⟩) (List.length b) c6), (5, .int .i64 i25), (25, .bool (((List.getD aa (Int.toNat i25) 0) : Int) != (List.getD b (Int.toNat i25) 0)))] (fun w_ => [0 ≤ i25 ∧ i25 < (((List.length aa) : Nat) : Int), World.cell? w_ ⟨b50, o51 + (Int.toNat i25) * 1, none⟩ = some (.int .i64 (List.getD aa (Int.toNat i25) 0)), 0 ≤ i25 ∧ i25 < (((List.length b) : Nat) : Int), World.cell? w_ ⟨b53, o54 + (Int.toNat i25) * 1, none⟩ = some (.int .i64 (List.getD b (Int.toNat i25) 0))]) 0 E (fun _ _ => by kernel_rfl) (fun w_ hS_ => ⟨g49, Rds.at1 (HR58.rdk [] hS_ 0 rds_ro rfl) 0 g49, g52, Rds.at1 (HR58.rdk [] hS_ 1 rds_ro rfl) 0 g52⟩) (by kernel_rfl) HS57 ?_
   clear E; intro a E
   refine dr_done (by kernel_rfl) ?_
   clear HS57 HR58
   refine th_n ?_
   refine E.cases (t := 25) rfl (fun hb_ E_ => ?_) (fun hb_ E_ => ?_)
   ·
    replace E := E_; clear E_
    have h59 : ¬ (((List.getD aa (Int.toNat i25) 0) : Int) = (List.getD b (Int.toNat i25) 0)) := bne_iff_ne.1 hb_
    clear hb_; replace hP := ite_f h59 hP
    refine c_true E rfl ?_
    refine wp_seq ?_
    refine wp_region_lit ?_
    refine vr tbok 1 [] [(4, .bool false)] [] E (by kernel_rfl) trivial ?_
    clear E; intro a E
    refine wpList_nil ?_
    refine th_n ?_
    refine wp_ret ?_
    refine bl_ret ?_
    refine th_ret ?_
    refine th_ret ?_
    refine .inr ⟨rfl, ?_⟩
    refine bl_ret ?_
    refine th_ret ?_
    have hx_ := Option.some.inj hP; subst hx_
    have hP : some (false) = some r := hK44
    obtain rfl := Option.some.inj hP
    refine ret1 E rfl rfl ?_
    exact ⟨_, rfl, rfl, H.sel [] rfl⟩
   replace E := E_; clear E_
   have h60 : ((List.getD aa (Int.toNat i25) 0) : Int) = (List.getD b (Int.toNat i25) 0) := bne_eq_false_iff_eq.1 hb_
   clear hb_; replace hP := ite_t h60 hP
   refine c_false E rfl ?_
   refine wp_skip ?_
   refine bl_n ?_
   refine th_n ?_
   refine wp_region_lit ?_
   obtain ⟨g61, hP⟩ := ask_inv hP
   refine vr tbok 3 [.int .i64 (i25 + 1)] [(0, .slice (some ⟨b50, o51, none⟩) (List.length aa) c2), (1, .slice (some ⟨b53, o54, none⟩) (List.length b) c6), (5, .int .i64 (i25 + 1))] [IntKind.i64.wrap (i25 + 1) = i25 + 1] E (by kernel_rfl) (wrap_in g61) ?_
   clear E; intro a E
   refine wpList_nil ?_
   exact th_n ⟨m41, Nat.lt_succ_self _, i25 + 1, E.pick _ ⟨rfl, rfl, rfl, trivial⟩, H.sel [0, 1] rfl, hP⟩
  replace E := E_; clear E_
  have h62 : ¬ (i25 < (((List.length aa) : Nat) : Int)) := of_decide_eq_false hb_
  clear hb_; replace hP := ite_f h62 hP
  refine c_false E rfl ?_
  refine wp_exit ?_
  refine th_exit ?_
  have hx_ := Option.some.inj hP
  refine th_exit (.inl ⟨0, rfl, ?_⟩)
  exact ⟨rfl, (), E.pick _ trivial, H.sel [] rfl, hx_.symm⟩
 clear E H hL43; intro i_ a w45 hM_
 obtain ⟨rfl, x47, E, H, hx_⟩ := hM_
 subst hx_; have hP := elim_l hK44
 clear hK44
 refine bl_hit ?_
 refine th_n ?_
 refine wp_seq ?_
 refine wp_region_lit ?_
 refine vr tbok 1 [] [(4, .bool true)] [] E (by kernel_rfl) trivial ?_
 clear E; intro a E
 refine wpList_nil ?_
 refine th_n ?_
 refine wp_ret ?_
 obtain rfl := Option.some.inj hP
 refine ret1 E rfl rfl ?_
 exact ⟨_, rfl, rfl, H.sel [] rfl⟩

/-! rejoinder/rejoinderlaw16.awake -/
def law16_awake (N : Nat) : Option Bool :=
  Option.bind (part_Classes N 1 ([false, true, true] : List Bool) ([0, 1, 0] : List Int) ([(⟨0, -1, -2⟩ : Nd), (⟨0, -1, -3⟩ : Nd)] : List Nd)) fun r23 =>
  if (r23.2 : Int) = 0 then
    Option.bind (kit_SameInts N r23.1 ([0, 1, 1] : List Int)) fun r41 =>
    some r41
  else
    some false
set_option maxRecDepth 100000 in
set_option maxHeartbeats 4000000 in
theorem law16_awake_calls {N : Nat} {S Fa : Nat → Prop} {w0 : World} {r : Bool} (H : Hp S Fa w0 w0 []) (hP : law16_awake N  = some r) :
    Calls Try.prog 6 #[] w0 fun e w' => ∃ v, e = .returned v ∧ v = .bool r ∧ Hp S Fa w0 w' [] := by
 refine enterV (n := 22) Try.func6 rfl rfl rfl ?_
 intro a E
 replace E := E.pick [] trivial
 rw [law16_awake] at hP
 refine wp_seq ?_
 refine wp_region_lit ?_
 refine vr tbok 1 [] [] [] E (by kernel_rfl) trivial ?_
 clear E; intro a E
 refine wpList_nil ?_
 refine th_n ?_
 refine wp_seq ?_
 refine wp_region_lit ?_
 refine h_buildSlice (ps := [(0, .bool false), (1, .bool true), (2, .bool true)]) (cs := [.bool false, .bool true, .bool true]) H E rfl rfl tbok rfl rfl (by kernel_rfl) ?_
 intro w2 g1 a hc3 hg5 H_ E_
 replace E := E_ _ rfl; clear E_
 replace H := H_; clear H_; try dsimp only [setn, addE, goneL] at H
 refine h_buildSlice (ps := [(0, .int .i64 0), (1, .int .i64 1), (2, .int .i64 0)]) (cs := [.int .i64 0, .int .i64 1, .int .i64 0]) H E rfl rfl tbok rfl rfl (by kernel_rfl) ?_
 intro w7 g6 a hc8 hg10 H_ E_
 replace E := E_ _ rfl; clear E_
 replace H := H_; clear H_; try dsimp only [setn, addE, goneL] at H
 refine e_build (ps := [(1, .int .i64 (-1)), (2, .int .i64 (-2))]) (v := .agg #[.int .i64 0, .int .i64 (-1), .int .i64 (-2)]) E rfl rfl tbok rfl (by kernel_rfl) rfl ?_
 clear E; intro a E
 refine e_build (ps := [(1, .int .i64 (-1)), (2, .int .i64 (-3))]) (v := .agg #[.int .i64 0, .int .i64 (-1), .int .i64 (-3)]) E rfl rfl tbok rfl (by kernel_rfl) rfl ?_
 clear E; intro a E
 refine h_buildSlice (ps := [(0, .agg #[.int .i64 0, .int .i64 (-1), .int .i64 (-2)]), (1, .agg #[.int .i64 0, .int .i64 (-1), .int .i64 (-3)])]) (cs := [.int .i64 0, .int .i64 (-1), .int .i64 (-2), .int .i64 0, .int .i64 (-1), .int .i64 (-3)]) H E rfl rfl tbok rfl rfl (by kernel_rfl) ?_
 intro w12 g11 a hc13 hg15 H_ E_
 replace E := E_ _ rfl; clear E_
 replace H := H_; clear H_; try dsimp only [setn, addE, goneL] at H
 refine e_build (ps := [(0, .int .i64 1), (1, .slice (some ⟨g1, 0, none⟩) 3 3), (2, .slice (some ⟨g6, 0, none⟩) 3 3), (3, .slice (some ⟨g11, 0, none⟩) 2 2)]) (v := .agg #[.int .i64 1, .slice (some ⟨g1, 0, none⟩) 3 3, .slice (some ⟨g6, 0, none⟩) 3 3, .slice (some ⟨g11, 0, none⟩) 2 2]) E rfl rfl tbok rfl (by kernel_rfl) rfl ?_
 clear E; intro a E
 refine h_alloc H E rfl rfl tbok rfl ?_
 intro w17 g16 a hc18 hg20 H_ E_
 replace E := E_ _ rfl; clear E_
 replace H := H_; clear H_; try dsimp only [setn, addE, goneL] at H
 refine h_store (g := g16) (off := 0) H 3 rfl E rfl rfl rfl rfl tbok rfl rfl rfl rfl rfl ?_
 clear E; intro w21 a hc22 H_ E
 replace H := H_; clear H_; try dsimp only [setn, addE, goneL] at H
 refine wpList_nil ?_
 refine th_n ?_
 refine wp_seq ?_
 refine wp_region_lit ?_
 refine vr tbok 1 [.agg #[.int .i64 1, .slice (some ⟨g1, 0, none⟩) 3 3, .slice (some ⟨g6, 0, none⟩) 3 3, .slice (some ⟨g11, 0, none⟩) 2 2]] [(11, .agg #[.int .i64 1, .slice (some ⟨g1, 0, none⟩) 3 3, .slice (some ⟨g6, 0, none⟩) 3 3, .slice (some ⟨g11, 0, none⟩) 2 2])] [cellsAt w21 g16 (0) [.int .i64 1, .slice (some ⟨g1, 0, none⟩) 3 3, .slice (some ⟨g6, 0, none⟩) 3 3, .slice (some ⟨g11, 0, none⟩) 2 2]] E (by kernel_rfl) ((H.box 3 rfl).sub 0 _ rfl) ?_
 clear E; intro a E
 replace H := H.boxRow cBool true ([false, true, true] : List Bool) 0 rfl (fun _ _ => ⟨_, _, rfl, rfl, ⟨_, _, rfl, rfl, ⟨_, _, rfl, rfl, rfl⟩⟩⟩) (Nat.le_of_ble_eq_true rfl); try dsimp only [setn, addE, goneL] at H
 replace H := H.boxRow (cInt .i64) true ([0, 1, 0] : List Int) 1 rfl (fun _ _ => ⟨_, _, rfl, rfl, ⟨_, _, rfl, rfl, ⟨_, _, rfl, rfl, rfl⟩⟩⟩) (Nat.le_of_ble_eq_true rfl); try dsimp only [setn, addE, goneL] at H
 replace H := H.boxRow cNode true ([(⟨0, -1, -2⟩ : Nd), (⟨0, -1, -3⟩ : Nd)] : List Nd) 2 rfl (fun _ _ => ⟨_, _, rfl, rfl, ⟨_, _, rfl, rfl, rfl⟩⟩) (Nat.le_of_ble_eq_true rfl); try dsimp only [setn, addE, goneL] at H
 obtain ⟨r23, h24, hP⟩ := bind_inv hP
 obtain ⟨Fa25, Hc26, hb27⟩ := H.call [] [(0, false), (1, false), (2, false)] rfl rfl trivial
 refine e_call E rfl rfl Try.func7 rfl rfl rfl (part_Classes_calls (some ⟨g1, 0, none⟩) 3 (some ⟨g6, 0, none⟩) 3 (some ⟨g11, 0, none⟩) 2 1 ([false, true, true] : List Bool) ([0, 1, 0] : List Int) ([(⟨0, -1, -2⟩ : Nd), (⟨0, -1, -3⟩ : Nd)] : List Nd) (H.rcapx 0 rfl) (H.rcapx 1 rfl) (H.rcapx 2 rfl) Hc26 h24) ?_
 rintro v28 w29 a ⟨A32, c33, rfl, HR30⟩ E_
 replace E := E_ _ rfl; clear E_
 obtain ⟨H_, hc31⟩ := hb27 _ _ HR30 rfl
 replace H := H_; clear H_; try dsimp only [setn, addE, goneL] at H
 refine vr tbok 5 [] [(2, .slice A32 (List.length r23.1) c33), (3, .int .i64 r23.2)] [] E (by kernel_rfl) trivial ?_
 clear E; intro a E
 refine wpList_nil ?_
 refine th_n ?_
 refine wp_seq ?_
 refine wp_region_lit ?_
 refine vr tbok 3 [] [(2, .slice A32 (List.length r23.1) c33), (17, .bool ((r23.2 : Int) == 0))] [] E (by kernel_rfl) trivial ?_
 clear E; intro a E
 refine E.cases (t := 17) rfl (fun hb_ E_ => ?_) (fun hb_ E_ => ?_)
 ·
  replace E := E_; clear E_
  have h35 : (r23.2 : Int) = 0 := eq_of_beq hb_
  clear hb_; replace hP := ite_t h35 hP
  refine vr tbok 1 [] [(17, .bool true), (18, .slice A32 (List.length r23.1) c33)] [] E (by kernel_rfl) trivial ?_
  clear E; intro a E
  refine h_buildSlice (ps := [(0, .int .i64 0), (1, .int .i64 1), (2, .int .i64 1)]) (cs := [.int .i64 0, .int .i64 1, .int .i64 1]) H E rfl rfl tbok rfl rfl (by kernel_rfl) ?_
  intro w37 g36 a hc38 hg40 H_ E_
  replace E := E_ _ rfl; clear E_
  replace H := H_; clear H_; try dsimp only [setn, addE, goneL] at H
  replace H := H.boxRow (cInt .i64) true ([0, 1, 1] : List Int) 5 rfl (fun _ _ => ⟨_, _, rfl, rfl, ⟨_, _, rfl, rfl, ⟨_, _, rfl, rfl, rfl⟩⟩⟩) (Nat.le_of_ble_eq_true rfl); try dsimp only [setn, addE, goneL] at H
  obtain ⟨r41, h42, hP⟩ := bind_inv hP
  obtain ⟨Fa43, Hc44, hb45⟩ := H.call [] [(4, false), (5, false)] rfl rfl trivial
  refine e_call E rfl rfl Try.func16 rfl rfl rfl (kit_SameInts_calls A32 c33 (some ⟨g36, 0, none⟩) 3 r23.1 ([0, 1, 1] : List Int) (H.rcap 4 rfl) (H.rcapx 5 rfl) Hc44 h42) ?_
  rintro v46 w47 a ⟨rfl, HR48⟩ E_
  replace E := E_ _ rfl; clear E_
  obtain ⟨H_, hc49⟩ := hb45 _ _ HR48 rfl
  replace H := H_; clear H_; try dsimp only [setn, addE, goneL] at H
  refine vr tbok 2 [] [(0, .bool r41)] [] E (by kernel_rfl) trivial ?_
  clear E; intro a E
  refine wpList_nil ?_
  refine th_n ?_
  refine wp_ret ?_
  obtain rfl := Option.some.inj hP
  refine ret1 E rfl rfl ?_
  exact ⟨_, rfl, rfl, H.sel [] rfl⟩
 replace E := E_; clear E_
 have h50 : ¬ ((r23.2 : Int) = 0) := ne_of_beq_false hb_
 clear hb_; replace hP := ite_f h50 hP
 refine vr tbok 5 [] [(0, .bool false)] [] E (by kernel_rfl) trivial ?_
 clear E; intro a E
 refine wpList_nil ?_
 refine th_n ?_
 refine wp_ret ?_
 obtain rfl := Option.some.inj hP
 refine ret1 E rfl rfl ?_
 exact ⟨_, rfl, rfl, H.sel [] rfl⟩

/-! rejoinder/rejoinderlaw16.Small -/
def law16_Small (N : Nat) (aProps : Int) (aAccept : List Bool) (aGuard : List Int) (aNodes : List Nd) : Option Bool :=
  if (((List.length aAccept) : Nat) : Int) ≤ 24 then
    if aProps ≤ 4 then
      if (((List.length aNodes) : Nat) : Int) ≤ 400 then
        some (decide ((((List.length aGuard) : Nat) : Int) ≤ 300))
      else
        some false
    else
      some false
  else
    some false
set_option maxRecDepth 100000 in
set_option maxHeartbeats 4000000 in
theorem law16_Small_calls {N : Nat} {S Fa : Nat → Prop} {w0 : World} {r : Bool} (A1 : Option Addr) (c2 : Nat) (A5 : Option Addr) (c6 : Nat) (A9 : Option Addr) (c10 : Nat) (aProps : Int) (aAccept : List Bool) (aGuard : List Int) (aNodes : List Nd) (hk3 : List.length aAccept ≤ c2) (hk7 : List.length aGuard ≤ c6) (hk11 : List.length aNodes ≤ c10) (H : Hp S Fa w0 w0 [.ro false cBool A1 aAccept, .ro false (cInt .i64) A5 aGuard, .ro false cNode A9 aNodes]) (hP : law16_Small N aProps aAccept aGuard aNodes = some r) :
    Calls Try.prog 8 #[.agg #[.int .i64 aProps, .slice A1 (List.length aAccept) c2, .slice A5 (List.length aGuard) c6, .slice A9 (List.length aNodes) c10]] w0 fun e w' => ∃ v, e = .returned v ∧ v = .bool r ∧ Hp S Fa w0 w' [] := by
 refine enterV (n := 24) Try.func8 rfl rfl rfl ?_
 intro a E
 replace E := E.pick [(0, .agg #[.int .i64 aProps, .slice A1 (List.length aAccept) c2, .slice A5 (List.length aGuard) c6, .slice A9 (List.length aNodes) c10])] ⟨rfl, trivial⟩
 rw [law16_Small] at hP
 refine wp_seq ?_
 refine wp_region_lit ?_
 refine h_box H E rfl rfl rfl ?_
 intro w14 g13 a hc15 hg17 H_ E_
 replace E := E_ _ rfl; clear E_
 replace H := H_; clear H_; try dsimp only [setn, addE, goneL] at H
 refine vr tbok 1 [] [(1, .pointer (some ⟨g13, 0, none⟩))] [] E (by kernel_rfl) trivial ?_
 clear E; intro a E
 refine wpList_nil ?_
 refine th_n ?_
 refine wp_seq ?_
 refine wp_region_lit ?_
 refine vr tbok 5 [.slice A1 (List.length aAccept) c2] [(1, .pointer (some ⟨g13, 0, none⟩)), (7, .bool (decide ((((List.length aAccept) : Nat) : Int) ≤ 24)))] [World.cell? w14 ⟨g13, 1, none⟩ = some (.slice A1 (List.length aAccept) c2)] E (by kernel_rfl) ((H.box 3 rfl).cell (j := 1) rfl) ?_
 clear E; intro a E
 refine E.cases (t := 7) rfl (fun hb_ E_ => ?_) (fun hb_ E_ => ?_)
 ·
  replace E := E_; clear E_
  have h18 : (((List.length aAccept) : Nat) : Int) ≤ 24 := of_decide_eq_true hb_
  clear hb_; replace hP := ite_t h18 hP
  refine vr tbok 5 [.int .i64 aProps] [(1, .pointer (some ⟨g13, 0, none⟩)), (12, .bool (decide (aProps ≤ 4)))] [World.cell? w14 ⟨g13, 0, none⟩ = some (.int .i64 aProps)] E (by kernel_rfl) ((H.box 3 rfl).cell (j := 0) rfl) ?_
  clear E; intro a E
  refine E.cases (t := 12) rfl (fun hb_ E_ => ?_) (fun hb_ E_ => ?_)
  ·
   replace E := E_; clear E_
   have h19 : aProps ≤ 4 := of_decide_eq_true hb_
   clear hb_; replace hP := ite_t h19 hP
   refine vr tbok 6 [.slice A9 (List.length aNodes) c10] [(1, .pointer (some ⟨g13, 0, none⟩)), (18, .bool (decide ((((List.length aNodes) : Nat) : Int) ≤ 400)))] [World.cell? w14 ⟨g13, 3, none⟩ = some (.slice A9 (List.length aNodes) c10)] E (by kernel_rfl) ((H.box 3 rfl).cell (j := 3) rfl) ?_
   clear E; intro a E
   refine E.cases (t := 18) rfl (fun hb_ E_ => ?_) (fun hb_ E_ => ?_)
   ·
    replace E := E_; clear E_
    have h20 : (((List.length aNodes) : Nat) : Int) ≤ 400 := of_decide_eq_true hb_
    clear hb_; replace hP := ite_t h20 hP
    refine vr tbok 6 [.slice A5 (List.length aGuard) c6] [(2, .bool (decide ((((List.length aGuard) : Nat) : Int) ≤ 300)))] [World.cell? w14 ⟨g13, 2, none⟩ = some (.slice A5 (List.length aGuard) c6)] E (by kernel_rfl) ((H.box 3 rfl).cell (j := 2) rfl) ?_
    clear E; intro a E
    refine wpList_nil ?_
    refine th_n ?_
    refine wp_ret ?_
    obtain rfl := Option.some.inj hP
    refine ret1 E rfl rfl ?_
    exact ⟨_, rfl, rfl, H.sel [] rfl⟩
   replace E := E_; clear E_
   have h21 : ¬ ((((List.length aNodes) : Nat) : Int) ≤ 400) := of_decide_eq_false hb_
   clear hb_; replace hP := ite_f h21 hP
   refine vr tbok 6 [] [(2, .bool false)] [] E (by kernel_rfl) trivial ?_
   clear E; intro a E
   refine wpList_nil ?_
   refine th_n ?_
   refine wp_ret ?_
   obtain rfl := Option.some.inj hP
   refine ret1 E rfl rfl ?_
   exact ⟨_, rfl, rfl, H.sel [] rfl⟩
  replace E := E_; clear E_
  have h22 : ¬ (aProps ≤ 4) := of_decide_eq_false hb_
  clear hb_; replace hP := ite_f h22 hP
  refine vr tbok 12 [] [(2, .bool false)] [] E (by kernel_rfl) trivial ?_
  clear E; intro a E
  refine wpList_nil ?_
  refine th_n ?_
  refine wp_ret ?_
  obtain rfl := Option.some.inj hP
  refine ret1 E rfl rfl ?_
  exact ⟨_, rfl, rfl, H.sel [] rfl⟩
 replace E := E_; clear E_
 have h23 : ¬ ((((List.length aAccept) : Nat) : Int) ≤ 24) := of_decide_eq_false hb_
 clear hb_; replace hP := ite_f h23 hP
 refine vr tbok 17 [] [(2, .bool false)] [] E (by kernel_rfl) trivial ?_
 clear E; intro a E
 refine wpList_nil ?_
 refine th_n ?_
 refine wp_ret ?_
 obtain rfl := Option.some.inj hP
 refine ret1 E rfl rfl ?_
 exact ⟨_, rfl, rfl, H.sel [] rfl⟩

/-! rejoinder/rejoinderkit.Pick -/
def kit_Pick (N : Nat) (x : Int) (n : Int) : Option Int :=
  if n < 1 then
    some 0
  else
    ask (n ≠ 0) <|
    if (Int.tmod x n) < 0 then
      ask (in64 ((Int.tmod x n) + n)) <|
      some ((Int.tmod x n) + n)
    else
      some (Int.tmod x n)
set_option maxRecDepth 100000 in
set_option maxHeartbeats 4000000 in
theorem kit_Pick_calls {N : Nat} {S Fa : Nat → Prop} {w0 : World} {r : Int} (x : Int) (n : Int) (H : Hp S Fa w0 w0 []) (hP : kit_Pick N x n = some r) :
    Calls Try.prog 9 #[.int .i64 x, .int .i64 n] w0 fun e w' => ∃ v, e = .returned v ∧ v = .int .i64 r ∧ Hp S Fa w0 w' [] := by
 refine enterV (n := 16) Try.func9 rfl rfl rfl ?_
 intro a E
 replace E := E.pick [(0, .int .i64 x), (1, .int .i64 n)] ⟨rfl, rfl, trivial⟩
 rw [kit_Pick] at hP
 refine wp_seq ?_
 refine wp_region_lit ?_
 refine vr tbok 1 [] [(0, .int .i64 x), (1, .int .i64 n)] [] E (by kernel_rfl) trivial ?_
 clear E; intro a E
 refine wpList_nil ?_
 refine th_n ?_
 refine wp_seq ?_
 refine wp_seq ?_
 refine wp_region_lit ?_
 refine vr tbok 2 [] [(0, .int .i64 x), (1, .int .i64 n), (6, .bool (decide (n < 1)))] [] E (by kernel_rfl) trivial ?_
 clear E; intro a E
 refine wpList_nil ?_
 refine th_n ?_
 refine E.cases (t := 6) rfl (fun hb_ E_ => ?_) (fun hb_ E_ => ?_)
 ·
  replace E := E_; clear E_
  have h1 : n < 1 := of_decide_eq_true hb_
  clear hb_; replace hP := ite_t h1 hP
  refine c_true E rfl ?_
  refine wp_seq ?_
  refine wp_region_lit ?_
  refine vr tbok 1 [] [(4, .int .i64 0)] [] E (by kernel_rfl) trivial ?_
  clear E; intro a E
  refine wpList_nil ?_
  refine th_n ?_
  refine wp_ret ?_
  refine th_ret ?_
  obtain rfl := Option.some.inj hP
  refine ret1 E rfl rfl ?_
  exact ⟨_, rfl, rfl, H.sel [] rfl⟩
 replace E := E_; clear E_
 have h2 : ¬ (n < 1) := of_decide_eq_false hb_
 clear hb_; replace hP := ite_f h2 hP
 refine c_false E rfl ?_
 refine wp_skip ?_
 refine th_n ?_
 refine wp_seq ?_
 refine wp_region_lit ?_
 obtain ⟨g3, hP⟩ := ask_inv hP
 refine vr tbok 4 [.int .i64 (Int.tmod x n)] [(0, .int .i64 (Int.tmod x n)), (1, .int .i64 n)] [(n : Int) ≠ 0 ∧ Int.tmod x n = Int.tmod x n] E (by kernel_rfl) (⟨g3, rfl⟩) ?_
 clear E; intro a E
 refine wpList_nil ?_
 refine th_n ?_
 refine wp_seq ?_
 refine wp_seq ?_
 refine wp_region_lit ?_
 refine vr tbok 2 [] [(0, .int .i64 (Int.tmod x n)), (1, .int .i64 n), (11, .bool (decide ((Int.tmod x n) < 0)))] [] E (by kernel_rfl) trivial ?_
 clear E; intro a E
 refine wpList_nil ?_
 refine th_n ?_
 refine E.cases (t := 11) rfl (fun hb_ E_ => ?_) (fun hb_ E_ => ?_)
 ·
  replace E := E_; clear E_
  have h4 : (Int.tmod x n) < 0 := of_decide_eq_true hb_
  clear hb_; replace hP := ite_t h4 hP
  refine c_true E rfl ?_
  refine wp_region_lit ?_
  obtain ⟨g5, hP⟩ := ask_inv hP
  refine vr tbok 4 [.int .i64 ((Int.tmod x n) + n)] [(0, .int .i64 ((Int.tmod x n) + n))] [IntKind.i64.wrap ((Int.tmod x n) + n) = (Int.tmod x n) + n] E (by kernel_rfl) (wrap_in g5) ?_
  clear E; intro a E
  refine wpList_nil ?_
  refine th_n ?_
  refine wp_seq ?_
  refine wp_region_lit ?_
  refine vr tbok 2 [] [(4, .int .i64 ((Int.tmod x n) + n))] [] E (by kernel_rfl) trivial ?_
  clear E; intro a E
  refine wpList_nil ?_
  refine th_n ?_
  refine wp_ret ?_
  obtain rfl := Option.some.inj hP
  refine ret1 E rfl rfl ?_
  exact ⟨_, rfl, rfl, H.sel [] rfl⟩
 replace E := E_; clear E_
 have h6 : ¬ ((Int.tmod x n) < 0) := of_decide_eq_false hb_
 clear hb_; replace hP := ite_f h6 hP
 refine c_false E rfl ?_
 refine wp_skip ?_
 refine th_n ?_
 refine wp_seq ?_
 refine wp_region_lit ?_
 refine vr tbok 2 [] [(4, .int .i64 (Int.tmod x n))] [] E (by kernel_rfl) trivial ?_
 clear E; intro a E
 refine wpList_nil ?_
 refine th_n ?_
 refine wp_ret ?_
 obtain rfl := Option.some.inj hP
 refine ret1 E rfl rfl ?_
 exact ⟨_, rfl, rfl, H.sel [] rfl⟩

/-! slices.Reverse[[]rejoinder/api.Letter,rejoinder/api.Letter] -/
def slices_Reverse_api_Letter_api_Letter_l0 (N : Nat) : Nat → (List Int) → Int → Int → Option (List Int)
  | 0, _, _, _ => none
  | m45 + 1, s19, i23, j24 =>
    if i23 < j24 then
      ask (idx j24 (List.length s19)) <|
      ask (idx i23 (List.length s19)) <|
      ask (idx j24 (List.length (List.set s19 (Int.toNat i23) (List.getD s19 (Int.toNat j24) 0)))) <|
      ask (in64 (i23 + 1)) <|
      ask (in64 (j24 - 1)) <|
      slices_Reverse_api_Letter_api_Letter_l0 N m45 (List.set (List.set s19 (Int.toNat i23) (List.getD s19 (Int.toNat j24) 0)) (Int.toNat j24) (List.getD s19 (Int.toNat i23) 0)) (i23 + 1) (j24 - 1)
    else
      some s19
def slices_Reverse_api_Letter_api_Letter (N : Nat) (s : List Int) : Option (List Int) :=
  ask (in64 ((((List.length s) : Nat) : Int) - 1)) <|
  Option.bind (slices_Reverse_api_Letter_api_Letter_l0 N N s 0 ((((List.length s) : Nat) : Int) - 1)) fun x46 =>
  some x46
set_option maxRecDepth 100000 in
set_option maxHeartbeats 4000000 in
theorem slices_Reverse_api_Letter_api_Letter_calls {N : Nat} {S Fa : Nat → Prop} {w0 : World} {r : List Int} (A1 : Option Addr) (c2 : Nat) (s : List Int) (H : Hp S Fa w0 w0 [.row true (cInt .u8) 38 A1 c2 s]) (hP : slices_Reverse_api_Letter_api_Letter N s = some r) :
    Calls Try.prog 27 #[.slice A1 (List.length s) c2] w0 fun e w' => ∃ v, e = .returned v ∧ v = .tuple #[] ∧ List.length r = List.length s ∧ Hp S Fa w0 w' [.row true (cInt .u8) 38 A1 c2 r] := by
 refine enterV (n := 28) Try.func27 rfl rfl rfl ?_
 intro a E
 replace E := E.pick [(0, .slice A1 (List.length s) c2)] ⟨rfl, trivial⟩
 rw [slices_Reverse_api_Letter_api_Letter] at hP
 refine wp_seq ?_
 refine wp_region_lit ?_
 obtain ⟨g4, hP⟩ := ask_inv hP
 refine vr tbok 5 [.int .i64 ((((List.length s) : Nat) : Int) - 1)] [(0, .slice A1 (List.length s) c2), (2, .int .i64 0), (3, .int .i64 ((((List.length s) : Nat) : Int) - 1))] [IntKind.i64.wrap ((((List.length s) : Nat) : Int) - 1) = (((List.length s) : Nat) : Int) - 1] E (by kernel_rfl) (wrap_in g4) ?_
 clear E; intro a E
 refine wpList_nil ?_
 refine th_n ?_
 refine wp_block ?_
 obtain ⟨x46, hL47, hK48⟩ := bind_inv hP
 clear hP
 refine loop_cut (fun i_ a w_ => (i_ = 0 ∧ ∃ (x51 : List Int), Fr a 28 [] ∧ Hp S Fa w0 w_ [.row true (cInt .u8) 38 A1 c2 x51] ∧ List.length x51 = List.length s ∧ x46 = x51)) ?_ ?_
 ·
  refine loopV (fun m50 a w49 => ∃ (s19 : List Int) (i23 : Int) (j24 : Int), Fr a 28 [(0, .slice A1 (List.length s19) c2), (2, .int .i64 i23), (3, .int .i64 j24)] ∧ Hp S Fa w0 w49 [.row true (cInt .u8) 38 A1 c2 s19] ∧ List.length s19 = List.length s ∧ slices_Reverse_api_Letter_api_Letter_l0 N m50 s19 i23 j24 = some x46) N ?_ ?_
  ·
   exact ⟨s, 0, (((List.length s) : Nat) : Int) - 1, E.pick _ ⟨rfl, rfl, rfl, trivial⟩, H.sel [0] rfl, rfl, hL47⟩
  clear E H hL47; intro m50 a w49 hI_
  obtain ⟨s19, i23, j24, E, H, hl22, hP⟩ := hI_
  obtain ⟨m45, rfl⟩ : ∃ q_, m50 = q_ + 1 := by cases m50 with | zero => rw [slices_Reverse_api_Letter_api_Letter_l0] at hP; cases hP | succ q_ => exact ⟨q_, rfl⟩
  rw [slices_Reverse_api_Letter_api_Letter_l0] at hP
  refine wp_seq ?_
  refine wp_seq ?_
  refine wp_region_lit ?_
  refine vr tbok 3 [] [(0, .slice A1 (List.length s19) c2), (2, .int .i64 i23), (3, .int .i64 j24), (9, .bool (decide (i23 < j24)))] [] E (by kernel_rfl) trivial ?_
  clear E; intro a E
  refine wpList_nil ?_
  refine th_n ?_
  refine E.cases (t := 9) rfl (fun hb_ E_ => ?_) (fun hb_ E_ => ?_)
  ·
   replace E := E_; clear E_
   have h52 : i23 < j24 := of_decide_eq_true hb_
   clear hb_; replace hP := ite_t h52 hP
   refine c_true E rfl ?_
   refine wp_skip ?_
   refine th_n ?_
   refine wp_seq ?_
   refine wp_block ?_
   obtain ⟨g53, hP⟩ := ask_inv hP
   obtain ⟨b54, e_b54⟩ := H.raddr 0 rfl (idx_pos g53)
   subst e_b54
   obtain ⟨g56, hP⟩ := ask_inv hP
   obtain ⟨g60, hP⟩ := ask_inv hP
   refine meet_cut (fun a w64 => Fr a 28 [(0, .slice (some ⟨b54, 0, none⟩) (List.length (List.set (List.set s19 (Int.toNat i23) (List.getD s19 (Int.toNat j24) 0)) (Int.toNat j24) (List.getD s19 (Int.toNat i23) 0))) c2), (2, .int .i64 i23), (3, .int .i64 j24)] ∧ Hp S Fa w0 w64 [.row true (cInt .u8) 38 (some ⟨b54, 0, none⟩) c2 (List.set (List.set s19 (Int.toNat i23) (List.getD s19 (Int.toNat j24) 0)) (Int.toNat j24) (List.getD s19 (Int.toNat i23) 0))]) ?_ ?_
   ·
    have HR68 := H
    refine dr_start (S := fun w_ => Chg (atL [.row true (cInt .u8) 38 (some ⟨b54, 0, none⟩) c2 s19]) w49 w_) (by kernel_rfl) ?_
    intro w65 hc66
    have HS67 : Chg (atL [.row true (cInt .u8) 38 (some ⟨b54, 0, none⟩) c2 s19]) w49 w65 := hc66.mono (fun _ _ h_ => h_.elim)
    replace H := H.ext hc66
    refine dr tbok (by kernel_rfl) [0, 1, 2, 3, 4, 5, 8, 9] [] [(0, .slice (some ⟨b54, 0, none⟩) (List.length s19) c2), (2, .int .i64 i23), (3, .int .i64 j24), (14, .slice (some ⟨b54, 0, none⟩) (List.length s19) c2), (15, .int .i64 i23), (16, .slice (some ⟨b54, 0, none⟩) (List.length s19) c2), (17, .int .i64 j24), (18, .slice (some ⟨b54, 0, none⟩) (List.length s19) c2), (19, .int .i64 j24), (22, .slice (some ⟨b54, 0, none⟩) (List.length s19) c2), (23, .int .i64 i23)] (fun w_ => []) 8 E (fun _ _ => by kernel_rfl) (fun w_ hS_ => trivial) (by kernel_rfl) HS67 ?_
    clear E; intro a E
    refine wpAnyH_all (rs := [6, 10]) (by kernel_rfl) (by simp) ?_
    refine all2 ?_ ?_
    ·
     refine wpOp_of_list rfl ?_
     refine vr tbok 1 [] [(0, .slice (some ⟨b54, 0, none⟩) (List.length s19) c2), (2, .int .i64 i23), (3, .int .i64 j24), (14, .slice (some ⟨b54, 0, none⟩) (List.length s19) c2), (15, .int .i64 i23), (16, .slice (some ⟨b54, 0, none⟩) (List.length s19) c2), (17, .int .i64 j24), (18, .slice (some ⟨b54, 0, none⟩) (List.length s19) c2), (19, .int .i64 j24), (20, .pointer (some ⟨b54, 0 + (Int.toNat j24) * 1, none⟩)), (22, .slice (some ⟨b54, 0, none⟩) (List.length s19) c2), (23, .int .i64 i23)] [0 ≤ j24 ∧ j24 < (((List.length s19) : Nat) : Int)] E (by kernel_rfl) (g53) ?_
     clear E; intro a E
     refine wpList_nil ?_
     refine th_n ⟨HS67, ?_⟩
     refine wpAnyH_all (rs := [7, 10]) (by kernel_rfl) (by simp) ?_
     refine all2 ?_ ?_
     ·
      refine wpOp_of_list rfl ?_
      refine vr tbok 1 [.int .u8 (List.getD s19 (Int.toNat j24) 0)] [(0, .slice (some ⟨b54, 0, none⟩) (List.length s19) c2), (2, .int .i64 i23), (3, .int .i64 j24), (14, .slice (some ⟨b54, 0, none⟩) (List.length s19) c2), (15, .int .i64 i23), (16, .slice (some ⟨b54, 0, none⟩) (List.length s19) c2), (17, .int .i64 j24), (20, .pointer (some ⟨b54, 0 + (Int.toNat j24) * 1, none⟩)), (21, .int .u8 (List.getD s19 (Int.toNat j24) 0)), (22, .slice (some ⟨b54, 0, none⟩) (List.length s19) c2), (23, .int .i64 i23)] [World.cell? w65 ⟨b54, 0 + (Int.toNat j24) * 1, none⟩ = some (.int .u8 (List.getD s19 (Int.toNat j24) 0))] E (by kernel_rfl) (Rds.at1 (H.rd 0 rds_row) 0 g53) ?_
      clear E; intro a E
      refine wpList_nil ?_
      refine th_n ⟨HS67, ?_⟩
      refine wpAnyH_all (rs := [10]) (by kernel_rfl) (by simp) ?_
      refine all1 ?_
      refine wpOp_of_list rfl ?_
      refine vr tbok 1 [] [(0, .slice (some ⟨b54, 0, none⟩) (List.length s19) c2), (2, .int .i64 i23), (3, .int .i64 j24), (14, .slice (some ⟨b54, 0, none⟩) (List.length s19) c2), (15, .int .i64 i23), (16, .slice (some ⟨b54, 0, none⟩) (List.length s19) c2), (17, .int .i64 j24), (21, .int .u8 (List.getD s19 (Int.toNat j24) 0)), (22, .slice (some ⟨b54, 0, none⟩) (List.length s19) c2), (23, .int .i64 i23), (24, .pointer (some ⟨b54, 0 + (Int.toNat i23) * 1, none⟩))] [0 ≤ i23 ∧ i23 < (((List.length s19) : Nat) : Int)] E (by kernel_rfl) (g56) ?_
      clear E; intro a E
      refine wpList_nil ?_
      refine th_n ⟨HS67, ?_⟩
      refine wpAnyH_all (rs := [11]) (by kernel_rfl) (by simp) ?_
      refine all1 ?_
      refine wpOp_of_list rfl ?_
      refine vr tbok 1 [.int .u8 (List.getD s19 (Int.toNat i23) 0)] [(0, .slice (some ⟨b54, 0, none⟩) (List.length s19) c2), (2, .int .i64 i23), (3, .int .i64 j24), (14, .slice (some ⟨b54, 0, none⟩) (List.length s19) c2), (15, .int .i64 i23), (16, .slice (some ⟨b54, 0, none⟩) (List.length s19) c2), (17, .int .i64 j24), (21, .int .u8 (List.getD s19 (Int.toNat j24) 0)), (24, .pointer (some ⟨b54, 0 + (Int.toNat i23) * 1, none⟩)), (25, .int .u8 (List.getD s19 (Int.toNat i23) 0))] [World.cell? w65 ⟨b54, 0 + (Int.toNat i23) * 1, none⟩ = some (.int .u8 (List.getD s19 (Int.toNat i23) 0))] E (by kernel_rfl) (Rds.at1 (H.rd 0 rds_row) 0 g56) ?_
      clear E; intro a E
      refine wpList_nil ?_
      refine th_n ⟨HS67, ?_⟩
      refine wpAnyH_all (rs := [12]) (by kernel_rfl) (by simp) ?_
      refine all1 ?_
      refine wpOp_of_list rfl ?_
      refine vr tbok 1 [] [(0, .slice (some ⟨b54, 0, none⟩) (List.length s19) c2), (2, .int .i64 i23), (3, .int .i64 j24), (14, .slice (some ⟨b54, 0, none⟩) (List.length s19) c2), (15, .int .i64 i23), (16, .slice (some ⟨b54, 0, none⟩) (List.length s19) c2), (17, .int .i64 j24), (21, .int .u8 (List.getD s19 (Int.toNat j24) 0)), (25, .int .u8 (List.getD s19 (Int.toNat i23) 0)), (26, .pointer (some ⟨b54, 0 + (Int.toNat i23) * 1, none⟩))] [0 ≤ i23 ∧ i23 < (((List.length s19) : Nat) : Int)] E (by kernel_rfl) (g56) ?_
      clear E; intro a E
      refine wpList_nil ?_
      refine th_n ⟨HS67, ?_⟩
      refine wpAnyH_all (rs := [13]) (by kernel_rfl) (by simp) ?_
      refine all1 ?_
      refine wpOp_of_list rfl ?_
      refine h_set (g := b54) (i := i23) (List.getD s19 (Int.toNat j24) 0) H 0 rfl E rfl rfl rfl rfl tbok rfl (fun _ HF_ => rfl) rfl g56 rfl ?_
      clear E; intro w69 a hc70 H_ E
      replace HS67 := HS67.trans hc70 (fun k_ hk_ h_ => (fun _ _ h_ => Or.inl h_) k_ hk_ h_)
      replace H := H_; clear H_; try dsimp only [setn, addE, goneL] at H
      have hn71 : (List.length s19) = (List.length (List.set s19 (Int.toNat i23) (List.getD s19 (Int.toNat j24) 0))) := by simp only [List.length_set]
      replace E := E.same (t := 0) (u := .slice (some ⟨b54, 0, none⟩) (List.length (List.set s19 (Int.toNat i23) (List.getD s19 (Int.toNat j24) 0))) c2) rfl (congrArg (fun n_ => Value.slice (some ⟨b54, 0, none⟩) n_ c2) hn71)
      replace E := E.same (t := 14) (u := .slice (some ⟨b54, 0, none⟩) (List.length (List.set s19 (Int.toNat i23) (List.getD s19 (Int.toNat j24) 0))) c2) rfl (congrArg (fun n_ => Value.slice (some ⟨b54, 0, none⟩) n_ c2) hn71)
      replace E := E.same (t := 16) (u := .slice (some ⟨b54, 0, none⟩) (List.length (List.set s19 (Int.toNat i23) (List.getD s19 (Int.toNat j24) 0))) c2) rfl (congrArg (fun n_ => Value.slice (some ⟨b54, 0, none⟩) n_ c2) hn71)
      refine wpList_nil ?_
      refine th_n ⟨HS67, ?_⟩
      refine wpAnyH_all (rs := [14]) (by kernel_rfl) (by simp) ?_
      refine all1 ?_
      refine wpOp_of_list rfl ?_
      refine vr tbok 1 [] [(0, .slice (some ⟨b54, 0, none⟩) (List.length (List.set s19 (Int.toNat i23) (List.getD s19 (Int.toNat j24) 0))) c2), (2, .int .i64 i23), (3, .int .i64 j24), (16, .slice (some ⟨b54, 0, none⟩) (List.length (List.set s19 (Int.toNat i23) (List.getD s19 (Int.toNat j24) 0))) c2), (17, .int .i64 j24), (25, .int .u8 (List.getD s19 (Int.toNat i23) 0)), (27, .pointer (some ⟨b54, 0 + (Int.toNat j24) * 1, none⟩))] [0 ≤ j24 ∧ j24 < (((List.length (List.set s19 (Int.toNat i23) (List.getD s19 (Int.toNat j24) 0))) : Nat) : Int)] E (by kernel_rfl) (g60) ?_
      clear E; intro a E
      refine wpList_nil ?_
      refine th_n ⟨HS67, ?_⟩
      refine wpAnyH_all (rs := [15]) (by kernel_rfl) (by simp) ?_
      refine all1 ?_
      refine wpOp_of_list rfl ?_
      refine h_set (g := b54) (i := j24) (List.getD s19 (Int.toNat i23) 0) H 0 rfl E rfl rfl rfl rfl tbok rfl (fun _ HF_ => rfl) rfl g60 rfl ?_
      clear E; intro w72 a hc73 H_ E
      replace HS67 := HS67.trans hc73 (fun k_ hk_ h_ => (fun _ _ h_ => Or.inl h_) k_ hk_ h_)
      replace H := H_; clear H_; try dsimp only [setn, addE, goneL] at H
      have hn74 : (List.length (List.set s19 (Int.toNat i23) (List.getD s19 (Int.toNat j24) 0))) = (List.length (List.set (List.set s19 (Int.toNat i23) (List.getD s19 (Int.toNat j24) 0)) (Int.toNat j24) (List.getD s19 (Int.toNat i23) 0))) := by simp only [List.length_set]
      replace E := E.same (t := 0) (u := .slice (some ⟨b54, 0, none⟩) (List.length (List.set (List.set s19 (Int.toNat i23) (List.getD s19 (Int.toNat j24) 0)) (Int.toNat j24) (List.getD s19 (Int.toNat i23) 0))) c2) rfl (congrArg (fun n_ => Value.slice (some ⟨b54, 0, none⟩) n_ c2) hn74)
      replace E := E.same (t := 16) (u := .slice (some ⟨b54, 0, none⟩) (List.length (List.set (List.set s19 (Int.toNat i23) (List.getD s19 (Int.toNat j24) 0)) (Int.toNat j24) (List.getD s19 (Int.toNat i23) 0))) c2) rfl (congrArg (fun n_ => Value.slice (some ⟨b54, 0, none⟩) n_ c2) hn74)
      refine wpList_nil ?_
      refine th_n ⟨HS67, ?_⟩
      refine dr_done (by kernel_rfl) ?_
      exact .inl ⟨rfl, E.pick _ ⟨rfl, rfl, rfl, trivial⟩, H.sel [0] rfl⟩
     refine wpOp_of_list rfl ?_
     refine vr tbok 1 [] [(0, .slice (some ⟨b54, 0, none⟩) (List.length s19) c2), (2, .int .i64 i23), (3, .int .i64 j24), (14, .slice (some ⟨b54, 0, none⟩) (List.length s19) c2), (15, .int .i64 i23), (16, .slice (some ⟨b54, 0, none⟩) (List.length s19) c2), (17, .int .i64 j24), (20, .pointer (some ⟨b54, 0 + (Int.toNat j24) * 1, none⟩)), (22, .slice (some ⟨b54, 0, none⟩) (List.length s19) c2), (23, .int .i64 i23), (24, .pointer (some ⟨b54, 0 + (Int.toNat i23) * 1, none⟩))] [0 ≤ i23 ∧ i23 < (((List.length s19) : Nat) : Int)] E (by kernel_rfl) (g56) ?_
     clear E; intro a E
     refine wpList_nil ?_
     refine th_n ⟨HS67, ?_⟩
     refine wpAnyH_all (rs := [7, 11]) (by kernel_rfl) (by simp) ?_
     refine all2 ?_ ?_
     ·
      refine wpOp_of_list rfl ?_
      refine vr tbok 1 [.int .u8 (List.getD s19 (Int.toNat j24) 0)] [(0, .slice (some ⟨b54, 0, none⟩) (List.length s19) c2), (2, .int .i64 i23), (3, .int .i64 j24), (14, .slice (some ⟨b54, 0, none⟩) (List.length s19) c2), (15, .int .i64 i23), (16, .slice (some ⟨b54, 0, none⟩) (List.length s19) c2), (17, .int .i64 j24), (20, .pointer (some ⟨b54, 0 + (Int.toNat j24) * 1, none⟩)), (21, .int .u8 (List.getD s19 (Int.toNat j24) 0)), (24, .pointer (some ⟨b54, 0 + (Int.toNat i23) * 1, none⟩))] [World.cell? w65 ⟨b54, 0 + (Int.toNat j24) * 1, none⟩ = some (.int .u8 (List.getD s19 (Int.toNat j24) 0))] E (by kernel_rfl) (Rds.at1 (H.rd 0 rds_row) 0 g53) ?_
      clear E; intro a E
      refine wpList_nil ?_
      refine th_n ⟨HS67, ?_⟩
      refine wpAnyH_all (rs := [11]) (by kernel_rfl) (by simp) ?_
      refine all1 ?_
      refine wpOp_of_list rfl ?_
      refine vr tbok 1 [.int .u8 (List.getD s19 (Int.toNat i23) 0)] [(0, .slice (some ⟨b54, 0, none⟩) (List.length s19) c2), (2, .int .i64 i23), (3, .int .i64 j24), (14, .slice (some ⟨b54, 0, none⟩) (List.length s19) c2), (15, .int .i64 i23), (16, .slice (some ⟨b54, 0, none⟩) (List.length s19) c2), (17, .int .i64 j24), (21, .int .u8 (List.getD s19 (Int.toNat j24) 0)), (24, .pointer (some ⟨b54, 0 + (Int.toNat i23) * 1, none⟩)), (25, .int .u8 (List.getD s19 (Int.toNat i23) 0))] [World.cell? w65 ⟨b54, 0 + (Int.toNat i23) * 1, none⟩ = some (.int .u8 (List.getD s19 (Int.toNat i23) 0))] E (by kernel_rfl) (Rds.at1 (H.rd 0 rds_row) 0 g56) ?_
      clear E; intro a E
      refine wpList_nil ?_
      refine th_n ⟨HS67, ?_⟩
      refine wpAnyH_all (rs := [12]) (by kernel_rfl) (by simp) ?_
      refine all1 ?_
      refine wpOp_of_list rfl ?_
      refine vr tbok 1 [] [(0, .slice (some ⟨b54, 0, none⟩) (List.length s19) c2), (2, .int .i64 i23), (3, .int .i64 j24), (14, .slice (some ⟨b54, 0, none⟩) (List.length s19) c2), (15, .int .i64 i23), (16, .slice (some ⟨b54, 0, none⟩) (List.length s19) c2), (17, .int .i64 j24), (21, .int .u8 (List.getD s19 (Int.toNat j24) 0)), (25, .int .u8 (List.getD s19 (Int.toNat i23) 0)), (26, .pointer (some ⟨b54, 0 + (Int.toNat i23) * 1, none⟩))] [0 ≤ i23 ∧ i23 < (((List.length s19) : Nat) : Int)] E (by kernel_rfl) (g56) ?_
      clear E; intro a E
      refine wpList_nil ?_
      refine th_n ⟨HS67, ?_⟩
      refine wpAnyH_all (rs := [13]) (by kernel_rfl) (by simp) ?_
      refine all1 ?_
      refine wpOp_of_list rfl ?_
      refine h_set (g := b54) (i := i23) (List.getD s19 (Int.toNat j24) 0) H 0 rfl E rfl rfl rfl rfl tbok rfl (fun _ HF_ => rfl) rfl g56 rfl ?_
      clear E; intro w75 a hc76 H_ E
      replace HS67 := HS67.trans hc76 (fun k_ hk_ h_ => (fun _ _ h_ => Or.inl h_) k_ hk_ h_)
      replace H := H_; clear H_; try dsimp only [setn, addE, goneL] at H
      have hn77 : (List.length s19) = (List.length (List.set s19 (Int.toNat i23) (List.getD s19 (Int.toNat j24) 0))) := by simp only [List.length_set]
      replace E := E.same (t := 0) (u := .slice (some ⟨b54, 0, none⟩) (List.length (List.set s19 (Int.toNat i23) (List.getD s19 (Int.toNat j24) 0))) c2) rfl (congrArg (fun n_ => Value.slice (some ⟨b54, 0, none⟩) n_ c2) hn77)
      replace E := E.same (t := 14) (u := .slice (some ⟨b54, 0, none⟩) (List.length (List.set s19 (Int.toNat i23) (List.getD s19 (Int.toNat j24) 0))) c2) rfl (congrArg (fun n_ => Value.slice (some ⟨b54, 0, none⟩) n_ c2) hn77)
      replace E := E.same (t := 16) (u := .slice (some ⟨b54, 0, none⟩) (List.length (List.set s19 (Int.toNat i23) (List.getD s19 (Int.toNat j24) 0))) c2) rfl (congrArg (fun n_ => Value.slice (some ⟨b54, 0, none⟩) n_ c2) hn77)
      refine wpList_nil ?_
      refine th_n ⟨HS67, ?_⟩
      refine wpAnyH_all (rs := [14]) (by kernel_rfl) (by simp) ?_
      refine all1 ?_
      refine wpOp_of_list rfl ?_
      refine vr tbok 1 [] [(0, .slice (some ⟨b54, 0, none⟩) (List.length (List.set s19 (Int.toNat i23) (List.getD s19 (Int.toNat j24) 0))) c2), (2, .int .i64 i23), (3, .int .i64 j24), (16, .slice (some ⟨b54, 0, none⟩) (List.length (List.set s19 (Int.toNat i23) (List.getD s19 (Int.toNat j24) 0))) c2), (17, .int .i64 j24), (25, .int .u8 (List.getD s19 (Int.toNat i23) 0)), (27, .pointer (some ⟨b54, 0 + (Int.toNat j24) * 1, none⟩))] [0 ≤ j24 ∧ j24 < (((List.length (List.set s19 (Int.toNat i23) (List.getD s19 (Int.toNat j24) 0))) : Nat) : Int)] E (by kernel_rfl) (g60) ?_
      clear E; intro a E
      refine wpList_nil ?_
      refine th_n ⟨HS67, ?_⟩
      refine wpAnyH_all (rs := [15]) (by kernel_rfl) (by simp) ?_
      refine all1 ?_
      refine wpOp_of_list rfl ?_
      refine h_set (g := b54) (i := j24) (List.getD s19 (Int.toNat i23) 0) H 0 rfl E rfl rfl rfl rfl tbok rfl (fun _ HF_ => rfl) rfl g60 rfl ?_
      clear E; intro w78 a hc79 H_ E
      replace HS67 := HS67.trans hc79 (fun k_ hk_ h_ => (fun _ _ h_ => Or.inl h_) k_ hk_ h_)
      replace H := H_; clear H_; try dsimp only [setn, addE, goneL] at H
      have hn80 : (List.length (List.set s19 (Int.toNat i23) (List.getD s19 (Int.toNat j24) 0))) = (List.length (List.set (List.set s19 (Int.toNat i23) (List.getD s19 (Int.toNat j24) 0)) (Int.toNat j24) (List.getD s19 (Int.toNat i23) 0))) := by simp only [List.length_set]
      replace E := E.same (t := 0) (u := .slice (some ⟨b54, 0, none⟩) (List.length (List.set (List.set s19 (Int.toNat i23) (List.getD s19 (Int.toNat j24) 0)) (Int.toNat j24) (List.getD s19 (Int.toNat i23) 0))) c2) rfl (congrArg (fun n_ => Value.slice (some ⟨b54, 0, none⟩) n_ c2) hn80)
      replace E := E.same (t := 16) (u := .slice (some ⟨b54, 0, none⟩) (List.length (List.set (List.set s19 (Int.toNat i23) (List.getD s19 (Int.toNat j24) 0)) (Int.toNat j24) (List.getD s19 (Int.toNat i23) 0))) c2) rfl (congrArg (fun n_ => Value.slice (some ⟨b54, 0, none⟩) n_ c2) hn80)
      refine wpList_nil ?_
      refine th_n ⟨HS67, ?_⟩
      refine dr_done (by kernel_rfl) ?_
      exact .inl ⟨rfl, E.pick _ ⟨rfl, rfl, rfl, trivial⟩, H.sel [0] rfl⟩
     refine wpOp_of_list rfl ?_
     refine vr tbok 1 [.int .u8 (List.getD s19 (Int.toNat i23) 0)] [(0, .slice (some ⟨b54, 0, none⟩) (List.length s19) c2), (2, .int .i64 i23), (3, .int .i64 j24), (14, .slice (some ⟨b54, 0, none⟩) (List.length s19) c2), (15, .int .i64 i23), (16, .slice (some ⟨b54, 0, none⟩) (List.length s19) c2), (17, .int .i64 j24), (20, .pointer (some ⟨b54, 0 + (Int.toNat j24) * 1, none⟩)), (24, .pointer (some ⟨b54, 0 + (Int.toNat i23) * 1, none⟩)), (25, .int .u8 (List.getD s19 (Int.toNat i23) 0))] [World.cell? w65 ⟨b54, 0 + (Int.toNat i23) * 1, none⟩ = some (.int .u8 (List.getD s19 (Int.toNat i23) 0))] E (by kernel_rfl) (Rds.at1 (H.rd 0 rds_row) 0 g56) ?_
     clear E; intro a E
     refine wpList_nil ?_
     refine th_n ⟨HS67, ?_⟩
     refine wpAnyH_all (rs := [7]) (by kernel_rfl) (by simp) ?_
     refine all1 ?_
     refine wpOp_of_list rfl ?_
     refine vr tbok 1 [.int .u8 (List.getD s19 (Int.toNat j24) 0)] [(0, .slice (some ⟨b54, 0, none⟩) (List.length s19) c2), (2, .int .i64 i23), (3, .int .i64 j24), (14, .slice (some ⟨b54, 0, none⟩) (List.length s19) c2), (15, .int .i64 i23), (16, .slice (some ⟨b54, 0, none⟩) (List.length s19) c2), (17, .int .i64 j24), (20, .pointer (some ⟨b54, 0 + (Int.toNat j24) * 1, none⟩)), (21, .int .u8 (List.getD s19 (Int.toNat j24) 0)), (25, .int .u8 (List.getD s19 (Int.toNat i23) 0))] [World.cell? w65 ⟨b54, 0 + (Int.toNat j24) * 1, none⟩ = some (.int .u8 (List.getD s19 (Int.toNat j24) 0))] E (by kernel_rfl) (Rds.at1 (H.rd 0 rds_row) 0 g53) ?_
     clear E; intro a E
     refine wpList_nil ?_
     refine th_n ⟨HS67, ?_⟩
     refine wpAnyH_all (rs := [12]) (by kernel_rfl) (by simp) ?_
     refine all1 ?_
     refine wpOp_of_list rfl ?_
     refine vr tbok 1 [] [(0, .slice (some ⟨b54, 0, none⟩) (List.length s19) c2), (2, .int .i64 i23), (3, .int .i64 j24), (14, .slice (some ⟨b54, 0, none⟩) (List.length s19) c2), (15, .int .i64 i23), (16, .slice (some ⟨b54, 0, none⟩) (List.length s19) c2), (17, .int .i64 j24), (21, .int .u8 (List.getD s19 (Int.toNat j24) 0)), (25, .int .u8 (List.getD s19 (Int.toNat i23) 0)), (26, .pointer (some ⟨b54, 0 + (Int.toNat i23) * 1, none⟩))] [0 ≤ i23 ∧ i23 < (((List.length s19) : Nat) : Int)] E (by kernel_rfl) (g56) ?_
     clear E; intro a E
     refine wpList_nil ?_
     refine th_n ⟨HS67, ?_⟩
     refine wpAnyH_all (rs := [13]) (by kernel_rfl) (by simp) ?_
     refine all1 ?_
     refine wpOp_of_list rfl ?_
     refine h_set (g := b54) (i := i23) (List.getD s19 (Int.toNat j24) 0) H 0 rfl E rfl rfl rfl rfl tbok rfl (fun _ HF_ => rfl) rfl g56 rfl ?_
     clear E; intro w81 a hc82 H_ E
     replace HS67 := HS67.trans hc82 (fun k_ hk_ h_ => (fun _ _ h_ => Or.inl h_) k_ hk_ h_)
     replace H := H_; clear H_; try dsimp only [setn, addE, goneL] at H
     have hn83 : (List.length s19) = (List.length (List.set s19 (Int.toNat i23) (List.getD s19 (Int.toNat j24) 0))) := by simp only [List.length_set]
     replace E := E.same (t := 0) (u := .slice (some ⟨b54, 0, none⟩) (List.length (List.set s19 (Int.toNat i23) (List.getD s19 (Int.toNat j24) 0))) c2) rfl (congrArg (fun n_ => Value.slice (some ⟨b54, 0, none⟩) n_ c2) hn83)
     replace E := E.same (t := 14) (u := .slice (some ⟨b54, 0, none⟩) (List.length (List.set s19 (Int.toNat i23) (List.getD s19 (Int.toNat j24) 0))) c2) rfl (congrArg (fun n_ => Value.slice (some ⟨b54, 0, none⟩) n_ c2) hn83)
     replace E := E.same (t := 16) (u := .slice (some ⟨b54, 0, none⟩) (List.length (List.set s19 (Int.toNat i23) (List.getD s19 (Int.toNat j24) 0))) c2) rfl (congrArg (fun n_ => Value.slice (some ⟨b54, 0, none⟩) n_ c2) hn83)
     refine wpList_nil ?_
     refine th_n ⟨HS67, ?_⟩
     refine wpAnyH_all (rs := [14]) (by kernel_rfl) (by simp) ?_
     refine all1 ?_
     refine wpOp_of_list rfl ?_
     refine vr tbok 1 [] [(0, .slice (some ⟨b54, 0, none⟩) (List.length (List.set s19 (Int.toNat i23) (List.getD s19 (Int.toNat j24) 0))) c2), (2, .int .i64 i23), (3, .int .i64 j24), (16, .slice (some ⟨b54, 0, none⟩) (List.length (List.set s19 (Int.toNat i23) (List.getD s19 (Int.toNat j24) 0))) c2), (17, .int .i64 j24), (25, .int .u8 (List.getD s19 (Int.toNat i23) 0)), (27, .pointer (some ⟨b54, 0 + (Int.toNat j24) * 1, none⟩))] [0 ≤ j24 ∧ j24 < (((List.length (List.set s19 (Int.toNat i23) (List.getD s19 (Int.toNat j24) 0))) : Nat) : Int)] E (by kernel_rfl) (g60) ?_
     clear E; intro a E
     refine wpList_nil ?_
     refine th_n ⟨HS67, ?_⟩
     refine wpAnyH_all (rs := [15]) (by kernel_rfl) (by simp) ?_
     refine all1 ?_
     refine wpOp_of_list rfl ?_
     refine h_set (g := b54) (i := j24) (List.getD s19 (Int.toNat i23) 0) H 0 rfl E rfl rfl rfl rfl tbok rfl (fun _ HF_ => rfl) rfl g60 rfl ?_
     clear E; intro w84 a hc85 H_ E
     replace HS67 := HS67.trans hc85 (fun k_ hk_ h_ => (fun _ _ h_ => Or.inl h_) k_ hk_ h_)
     replace H := H_; clear H_; try dsimp only [setn, addE, goneL] at H
     have hn86 : (List.length (List.set s19 (Int.toNat i23) (List.getD s19 (Int.toNat j24) 0))) = (List.length (List.set (List.set s19 (Int.toNat i23) (List.getD s19 (Int.toNat j24) 0)) (Int.toNat j24) (List.getD s19 (Int.toNat i23) 0))) := by simp only [List.length_set]
     replace E := E.same (t := 0) (u := .slice (some ⟨b54, 0, none⟩) (List.length (List.set (List.set s19 (Int.toNat i23) (List.getD s19 (Int.toNat j24) 0)) (Int.toNat j24) (List.getD s19 (Int.toNat i23) 0))) c2) rfl (congrArg (fun n_ => Value.slice (some ⟨b54, 0, none⟩) n_ c2) hn86)
     replace E := E.same (t := 16) (u := .slice (some ⟨b54, 0, none⟩) (List.length (List.set (List.set s19 (Int.toNat i23) (List.getD s19 (Int.toNat j24) 0)) (Int.toNat j24) (List.getD s19 (Int.toNat i23) 0))) c2) rfl (congrArg (fun n_ => Value.slice (some ⟨b54, 0, none⟩) n_ c2) hn86)
     refine wpList_nil ?_
     refine th_n ⟨HS67, ?_⟩
     refine dr_done (by kernel_rfl) ?_
     exact .inl ⟨rfl, E.pick _ ⟨rfl, rfl, rfl, trivial⟩, H.sel [0] rfl⟩
    refine wpOp_of_list rfl ?_
    refine vr tbok 1 [] [(0, .slice (some ⟨b54, 0, none⟩) (List.length s19) c2), (2, .int .i64 i23), (3, .int .i64 j24), (14, .slice (some ⟨b54, 0, none⟩) (List.length s19) c2), (15, .int .i64 i23), (16, .slice (some ⟨b54, 0, none⟩) (List.length s19) c2), (17, .int .i64 j24), (18, .slice (some ⟨b54, 0, none⟩) (List.length s19) c2), (19, .int .i64 j24), (22, .slice (some ⟨b54, 0, none⟩) (List.length s19) c2), (23, .int .i64 i23), (24, .pointer (some ⟨b54, 0 + (Int.toNat i23) * 1, none⟩))] [0 ≤ i23 ∧ i23 < (((List.length s19) : Nat) : Int)] E (by kernel_rfl) (g56) ?_
    clear E; intro a E
    refine wpList_nil ?_
    refine th_n ⟨HS67, ?_⟩
    refine wpAnyH_all (rs := [6, 11]) (by kernel_rfl) (by simp) ?_
    refine all2 ?_ ?_
    ·
     refine wpOp_of_list rfl ?_
     refine vr tbok 1 [] [(0, .slice (some ⟨b54, 0, none⟩) (List.length s19) c2), (2, .int .i64 i23), (3, .int .i64 j24), (14, .slice (some ⟨b54, 0, none⟩) (List.length s19) c2), (15, .int .i64 i23), (16, .slice (some ⟨b54, 0, none⟩) (List.length s19) c2), (17, .int .i64 j24), (18, .slice (some ⟨b54, 0, none⟩) (List.length s19) c2), (19, .int .i64 j24), (20, .pointer (some ⟨b54, 0 + (Int.toNat j24) * 1, none⟩)), (24, .pointer (some ⟨b54, 0 + (Int.toNat i23) * 1, none⟩))] [0 ≤ j24 ∧ j24 < (((List.length s19) : Nat) : Int)] E (by kernel_rfl) (g53) ?_
     clear E; intro a E
     refine wpList_nil ?_
     refine th_n ⟨HS67, ?_⟩
     refine wpAnyH_all (rs := [7, 11]) (by kernel_rfl) (by simp) ?_
     refine all2 ?_ ?_
     ·
      refine wpOp_of_list rfl ?_
      refine vr tbok 1 [.int .u8 (List.getD s19 (Int.toNat j24) 0)] [(0, .slice (some ⟨b54, 0, none⟩) (List.length s19) c2), (2, .int .i64 i23), (3, .int .i64 j24), (14, .slice (some ⟨b54, 0, none⟩) (List.length s19) c2), (15, .int .i64 i23), (16, .slice (some ⟨b54, 0, none⟩) (List.length s19) c2), (17, .int .i64 j24), (20, .pointer (some ⟨b54, 0 + (Int.toNat j24) * 1, none⟩)), (21, .int .u8 (List.getD s19 (Int.toNat j24) 0)), (24, .pointer (some ⟨b54, 0 + (Int.toNat i23) * 1, none⟩))] [World.cell? w65 ⟨b54, 0 + (Int.toNat j24) * 1, none⟩ = some (.int .u8 (List.getD s19 (Int.toNat j24) 0))] E (by kernel_rfl) (Rds.at1 (H.rd 0 rds_row) 0 g53) ?_
      clear E; intro a E
      refine wpList_nil ?_
      refine th_n ⟨HS67, ?_⟩
      refine wpAnyH_all (rs := [11]) (by kernel_rfl) (by simp) ?_
      refine all1 ?_
      refine wpOp_of_list rfl ?_
      refine vr tbok 1 [.int .u8 (List.getD s19 (Int.toNat i23) 0)] [(0, .slice (some ⟨b54, 0, none⟩) (List.length s19) c2), (2, .int .i64 i23), (3, .int .i64 j24), (14, .slice (some ⟨b54, 0, none⟩) (List.length s19) c2), (15, .int .i64 i23), (16, .slice (some ⟨b54, 0, none⟩) (List.length s19) c2), (17, .int .i64 j24), (21, .int .u8 (List.getD s19 (Int.toNat j24) 0)), (24, .pointer (some ⟨b54, 0 + (Int.toNat i23) * 1, none⟩)), (25, .int .u8 (List.getD s19 (Int.toNat i23) 0))] [World.cell? w65 ⟨b54, 0 + (Int.toNat i23) * 1, none⟩ = some (.int .u8 (List.getD s19 (Int.toNat i23) 0))] E (by kernel_rfl) (Rds.at1 (H.rd 0 rds_row) 0 g56) ?_
      clear E; intro a E
      refine wpList_nil ?_
      refine th_n ⟨HS67, ?_⟩
      refine wpAnyH_all (rs := [12]) (by kernel_rfl) (by simp) ?_
      refine all1 ?_
      refine wpOp_of_list rfl ?_
      refine vr tbok 1 [] [(0, .slice (some ⟨b54, 0, none⟩) (List.length s19) c2), (2, .int .i64 i23), (3, .int .i64 j24), (14, .slice (some ⟨b54, 0, none⟩) (List.length s19) c2), (15, .int .i64 i23), (16, .slice (some ⟨b54, 0, none⟩) (List.length s19) c2), (17, .int .i64 j24), (21, .int .u8 (List.getD s19 (Int.toNat j24) 0)), (25, .int .u8 (List.getD s19 (Int.toNat i23) 0)), (26, .pointer (some ⟨b54, 0 + (Int.toNat i23) * 1, none⟩))] [0 ≤ i23 ∧ i23 < (((List.length s19) : Nat) : Int)] E (by kernel_rfl) (g56) ?_
      clear E; intro a E
      refine wpList_nil ?_
      refine th_n ⟨HS67, ?_⟩
      refine wpAnyH_all (rs := [13]) (by kernel_rfl) (by simp) ?_
      refine all1 ?_
      refine wpOp_of_list rfl ?_
      refine h_set (g := b54) (i := i23) (List.getD s19 (Int.toNat j24) 0) H 0 rfl E rfl rfl rfl rfl tbok rfl (fun _ HF_ => rfl) rfl g56 rfl ?_
      clear E; intro w87 a hc88 H_ E
      replace HS67 := HS67.trans hc88 (fun k_ hk_ h_ => (fun _ _ h_ => Or.inl h_) k_ hk_ h_)
      replace H := H_; clear H_; try dsimp only [setn, addE, goneL] at H
      have hn89 : (List.length s19) = (List.length (List.set s19 (Int.toNat i23) (List.getD s19 (Int.toNat j24) 0))) := by simp only [List.length_set]
      replace E := E.same (t := 0) (u := .slice (some ⟨b54, 0, none⟩) (List.length (List.set s19 (Int.toNat i23) (List.getD s19 (Int.toNat j24) 0))) c2) rfl (congrArg (fun n_ => Value.slice (some ⟨b54, 0, none⟩) n_ c2) hn89)
      replace E := E.same (t := 14) (u := .slice (some ⟨b54, 0, none⟩) (List.length (List.set s19 (Int.toNat i23) (List.getD s19 (Int.toNat j24) 0))) c2) rfl (congrArg (fun n_ => Value.slice (some ⟨b54, 0, none⟩) n_ c2) hn89)
      replace E := E.same (t := 16) (u := .slice (some ⟨b54, 0, none⟩) (List.length (List.set s19 (Int.toNat i23) (List.getD s19 (Int.toNat j24) 0))) c2) rfl (congrArg (fun n_ => Value.slice (some ⟨b54, 0, none⟩) n_ c2) hn89)
      refine wpList_nil ?_
      refine th_n ⟨HS67, ?_⟩
      refine wpAnyH_all (rs := [14]) (by kernel_rfl) (by simp) ?_
      refine all1 ?_
      refine wpOp_of_list rfl ?_
      refine vr tbok 1 [] [(0, .slice (some ⟨b54, 0, none⟩) (List.length (List.set s19 (Int.toNat i23) (List.getD s19 (Int.toNat j24) 0))) c2), (2, .int .i64 i23), (3, .int .i64 j24), (16, .slice (some ⟨b54, 0, none⟩) (List.length (List.set s19 (Int.toNat i23) (List.getD s19 (Int.toNat j24) 0))) c2), (17, .int .i64 j24), (25, .int .u8 (List.getD s19 (Int.toNat i23) 0)), (27, .pointer (some ⟨b54, 0 + (Int.toNat j24) * 1, none⟩))] [0 ≤ j24 ∧ j24 < (((List.length (List.set s19 (Int.toNat i23) (List.getD s19 (Int.toNat j24) 0))) : Nat) : Int)] E (by kernel_rfl) (g60) ?_
      clear E; intro a E
      refine wpList_nil ?_
      refine th_n ⟨HS67, ?_⟩
      refine wpAnyH_all (rs := [15]) (by kernel_rfl) (by simp) ?_
      refine all1 ?_
      refine wpOp_of_list rfl ?_
      refine h_set (g := b54) (i := j24) (List.getD s19 (Int.toNat i23) 0) H 0 rfl E rfl rfl rfl rfl tbok rfl (fun _ HF_ => rfl) rfl g60 rfl ?_
      clear E; intro w90 a hc91 H_ E
      replace HS67 := HS67.trans hc91 (fun k_ hk_ h_ => (fun _ _ h_ => Or.inl h_) k_ hk_ h_)
      replace H := H_; clear H_; try dsimp only [setn, addE, goneL] at H
      have hn92 : (List.length (List.set s19 (Int.toNat i23) (List.getD s19 (Int.toNat j24) 0))) = (List.length (List.set (List.set s19 (Int.toNat i23) (List.getD s19 (Int.toNat j24) 0)) (Int.toNat j24) (List.getD s19 (Int.toNat i23) 0))) := by simp only [List.length_set]
      replace E := E.same (t := 0) (u := .slice (some ⟨b54, 0, none⟩) (List.length (List.set (List.set s19 (Int.toNat i23) (List.getD s19 (Int.toNat j24) 0)) (Int.toNat j24) (List.getD s19 (Int.toNat i23) 0))) c2) rfl (congrArg (fun n_ => Value.slice (some ⟨b54, 0, none⟩) n_ c2) hn92)
      replace E := E.same (t := 16) (u := .slice (some ⟨b54, 0, none⟩) (List.length (List.set (List.set s19 (Int.toNat i23) (List.getD s19 (Int.toNat j24) 0)) (Int.toNat j24) (List.getD s19 (Int.toNat i23) 0))) c2) rfl (congrArg (fun n_ => Value.slice (some ⟨b54, 0, none⟩) n_ c2) hn92)
      refine wpList_nil ?_
      refine th_n ⟨HS67, ?_⟩
      refine dr_done (by kernel_rfl) ?_
      exact .inl ⟨rfl, E.pick _ ⟨rfl, rfl, rfl, trivial⟩, H.sel [0] rfl⟩
     refine wpOp_of_list rfl ?_
     refine vr tbok 1 [.int .u8 (List.getD s19 (Int.toNat i23) 0)] [(0, .slice (some ⟨b54, 0, none⟩) (List.length s19) c2), (2, .int .i64 i23), (3, .int .i64 j24), (14, .slice (some ⟨b54, 0, none⟩) (List.length s19) c2), (15, .int .i64 i23), (16, .slice (some ⟨b54, 0, none⟩) (List.length s19) c2), (17, .int .i64 j24), (20, .pointer (some ⟨b54, 0 + (Int.toNat j24) * 1, none⟩)), (24, .pointer (some ⟨b54, 0 + (Int.toNat i23) * 1, none⟩)), (25, .int .u8 (List.getD s19 (Int.toNat i23) 0))] [World.cell? w65 ⟨b54, 0 + (Int.toNat i23) * 1, none⟩ = some (.int .u8 (List.getD s19 (Int.toNat i23) 0))] E (by kernel_rfl) (Rds.at1 (H.rd 0 rds_row) 0 g56) ?_
     clear E; intro a E
     refine wpList_nil ?_
     refine th_n ⟨HS67, ?_⟩
     refine wpAnyH_all (rs := [7]) (by kernel_rfl) (by simp) ?_
     refine all1 ?_
     refine wpOp_of_list rfl ?_
     refine vr tbok 1 [.int .u8 (List.getD s19 (Int.toNat j24) 0)] [(0, .slice (some ⟨b54, 0, none⟩) (List.length s19) c2), (2, .int .i64 i23), (3, .int .i64 j24), (14, .slice (some ⟨b54, 0, none⟩) (List.length s19) c2), (15, .int .i64 i23), (16, .slice (some ⟨b54, 0, none⟩) (List.length s19) c2), (17, .int .i64 j24), (20, .pointer (some ⟨b54, 0 + (Int.toNat j24) * 1, none⟩)), (21, .int .u8 (List.getD s19 (Int.toNat j24) 0)), (25, .int .u8 (List.getD s19 (Int.toNat i23) 0))] [World.cell? w65 ⟨b54, 0 + (Int.toNat j24) * 1, none⟩ = some (.int .u8 (List.getD s19 (Int.toNat j24) 0))] E (by kernel_rfl) (Rds.at1 (H.rd 0 rds_row) 0 g53) ?_
     clear E; intro a E
     refine wpList_nil ?_
     refine th_n ⟨HS67, ?_⟩
     refine wpAnyH_all (rs := [12]) (by kernel_rfl) (by simp) ?_
     refine all1 ?_
     refine wpOp_of_list rfl ?_
     refine vr tbok 1 [] [(0, .slice (some ⟨b54, 0, none⟩) (List.length s19) c2), (2, .int .i64 i23), (3, .int .i64 j24), (14, .slice (some ⟨b54, 0, none⟩) (List.length s19) c2), (15, .int .i64 i23), (16, .slice (some ⟨b54, 0, none⟩) (List.length s19) c2), (17, .int .i64 j24), (21, .int .u8 (List.getD s19 (Int.toNat j24) 0)), (25, .int .u8 (List.getD s19 (Int.toNat i23) 0)), (26, .pointer (some ⟨b54, 0 + (Int.toNat i23) * 1, none⟩))] [0 ≤ i23 ∧ i23 < (((List.length s19) : Nat) : Int)] E (by kernel_rfl) (g56) ?_
     clear E; intro a E
     refine wpList_nil ?_
     refine th_n ⟨HS67, ?_⟩
     refine wpAnyH_all (rs := [13]) (by kernel_rfl) (by simp) ?_
     refine all1 ?_
     refine wpOp_of_list rfl ?_
     refine h_set (g := b54) (i := i23) (List.getD s19 (Int.toNat j24) 0) H 0 rfl E rfl rfl rfl rfl tbok rfl (fun _ HF_ => rfl) rfl g56 rfl ?_
     clear E; intro w93 a hc94 H_ E
     replace HS67 := HS67.trans hc94 (fun k_ hk_ h_ => (fun _ _ h_ => Or.inl h_) k_ hk_ h_)
     replace H := H_; clear H_; try dsimp only [setn, addE, goneL] at H
     have hn95 : (List.length s19) = (List.length (List.set s19 (Int.toNat i23) (List.getD s19 (Int.toNat j24) 0))) := by simp only [List.length_set]
     replace E := E.same (t := 0) (u := .slice (some ⟨b54, 0, none⟩) (List.length (List.set s19 (Int.toNat i23) (List.getD s19 (Int.toNat j24) 0))) c2) rfl (congrArg (fun n_ => Value.slice (some ⟨b54, 0, none⟩) n_ c2) hn95)
     replace E := E.same (t := 14) (u := .slice (some ⟨b54, 0, none⟩) (List.length (List.set s19 (Int.toNat i23) (List.getD s19 (Int.toNat j24) 0))) c2) rfl (congrArg (fun n_ => Value.slice (some ⟨b54, 0, none⟩) n_ c2) hn95)
     replace E := E.same (t := 16) (u := .slice (some ⟨b54, 0, none⟩) (List.length (List.set s19 (Int.toNat i23) (List.getD s19 (Int.toNat j24) 0))) c2) rfl (congrArg (fun n_ => Value.slice (some ⟨b54, 0, none⟩) n_ c2) hn95)
     refine wpList_nil ?_
     refine th_n ⟨HS67, ?_⟩
     refine wpAnyH_all (rs := [14]) (by kernel_rfl) (by simp) ?_
     refine all1 ?_
     refine wpOp_of_list rfl ?_
     refine vr tbok 1 [] [(0, .slice (some ⟨b54, 0, none⟩) (List.length (List.set s19 (Int.toNat i23) (List.getD s19 (Int.toNat j24) 0))) c2), (2, .int .i64 i23), (3, .int .i64 j24), (16, .slice (some ⟨b54, 0, none⟩) (List.length (List.set s19 (Int.toNat i23) (List.getD s19 (Int.toNat j24) 0))) c2), (17, .int .i64 j24), (25, .int .u8 (List.getD s19 (Int.toNat i23) 0)), (27, .pointer (some ⟨b54, 0 + (Int.toNat j24) * 1, none⟩))] [0 ≤ j24 ∧ j24 < (((List.length (List.set s19 (Int.toNat i23) (List.getD s19 (Int.toNat j24) 0))) : Nat) : Int)] E (by kernel_rfl) (g60) ?_
     clear E; intro a E
     refine wpList_nil ?_
     refine th_n ⟨HS67, ?_⟩
     refine wpAnyH_all (rs := [15]) (by kernel_rfl) (by simp) ?_
     refine all1 ?_
     refine wpOp_of_list rfl ?_
     refine h_set (g := b54) (i := j24) (List.getD s19 (Int.toNat i23) 0) H 0 rfl E rfl rfl rfl rfl tbok rfl (fun _ HF_ => rfl) rfl g60 rfl ?_
     clear E; intro w96 a hc97 H_ E
     replace HS67 := HS67.trans hc97 (fun k_ hk_ h_ => (fun _ _ h_ => Or.inl h_) k_ hk_ h_)
     replace H := H_; clear H_; try dsimp only [setn, addE, goneL] at H
     have hn98 : (List.length (List.set s19 (Int.toNat i23) (List.getD s19 (Int.toNat j24) 0))) = (List.length (List.set (List.set s19 (Int.toNat i23) (List.getD s19 (Int.toNat j24) 0)) (Int.toNat j24) (List.getD s19 (Int.toNat i23) 0))) := by simp only [List.length_set]
     replace E := E.same (t := 0) (u := .slice (some ⟨b54, 0, none⟩) (List.length (List.set (List.set s19 (Int.toNat i23) (List.getD s19 (Int.toNat j24) 0)) (Int.toNat j24) (List.getD s19 (Int.toNat i23) 0))) c2) rfl (congrArg (fun n_ => Value.slice (some ⟨b54, 0, none⟩) n_ c2) hn98)
     replace E := E.same (t := 16) (u := .slice (some ⟨b54, 0, none⟩) (List.length (List.set (List.set s19 (Int.toNat i23) (List.getD s19 (Int.toNat j24) 0)) (Int.toNat j24) (List.getD s19 (Int.toNat i23) 0))) c2) rfl (congrArg (fun n_ => Value.slice (some ⟨b54, 0, none⟩) n_ c2) hn98)
     refine wpList_nil ?_
     refine th_n ⟨HS67, ?_⟩
     refine dr_done (by kernel_rfl) ?_
     exact .inl ⟨rfl, E.pick _ ⟨rfl, rfl, rfl, trivial⟩, H.sel [0] rfl⟩
    refine wpOp_of_list rfl ?_
    refine vr tbok 1 [.int .u8 (List.getD s19 (Int.toNat i23) 0)] [(0, .slice (some ⟨b54, 0, none⟩) (List.length s19) c2), (2, .int .i64 i23), (3, .int .i64 j24), (14, .slice (some ⟨b54, 0, none⟩) (List.length s19) c2), (15, .int .i64 i23), (16, .slice (some ⟨b54, 0, none⟩) (List.length s19) c2), (17, .int .i64 j24), (18, .slice (some ⟨b54, 0, none⟩) (List.length s19) c2), (19, .int .i64 j24), (24, .pointer (some ⟨b54, 0 + (Int.toNat i23) * 1, none⟩)), (25, .int .u8 (List.getD s19 (Int.toNat i23) 0))] [World.cell? w65 ⟨b54, 0 + (Int.toNat i23) * 1, none⟩ = some (.int .u8 (List.getD s19 (Int.toNat i23) 0))] E (by kernel_rfl) (Rds.at1 (H.rd 0 rds_row) 0 g56) ?_
    clear E; intro a E
    refine wpList_nil ?_
    refine th_n ⟨HS67, ?_⟩
    refine wpAnyH_all (rs := [6]) (by kernel_rfl) (by simp) ?_
    refine all1 ?_
    refine wpOp_of_list rfl ?_
    refine vr tbok 1 [] [(0, .slice (some ⟨b54, 0, none⟩) (List.length s19) c2), (2, .int .i64 i23), (3, .int .i64 j24), (14, .slice (some ⟨b54, 0, none⟩) (List.length s19) c2), (15, .int .i64 i23), (16, .slice (some ⟨b54, 0, none⟩) (List.length s19) c2), (17, .int .i64 j24), (18, .slice (some ⟨b54, 0, none⟩) (List.length s19) c2), (19, .int .i64 j24), (20, .pointer (some ⟨b54, 0 + (Int.toNat j24) * 1, none⟩)), (25, .int .u8 (List.getD s19 (Int.toNat i23) 0))] [0 ≤ j24 ∧ j24 < (((List.length s19) : Nat) : Int)] E (by kernel_rfl) (g53) ?_
    clear E; intro a E
    refine wpList_nil ?_
    refine th_n ⟨HS67, ?_⟩
    refine wpAnyH_all (rs := [7]) (by kernel_rfl) (by simp) ?_
    refine all1 ?_
    refine wpOp_of_list rfl ?_
    refine vr tbok 1 [.int .u8 (List.getD s19 (Int.toNat j24) 0)] [(0, .slice (some ⟨b54, 0, none⟩) (List.length s19) c2), (2, .int .i64 i23), (3, .int .i64 j24), (14, .slice (some ⟨b54, 0, none⟩) (List.length s19) c2), (15, .int .i64 i23), (16, .slice (some ⟨b54, 0, none⟩) (List.length s19) c2), (17, .int .i64 j24), (20, .pointer (some ⟨b54, 0 + (Int.toNat j24) * 1, none⟩)), (21, .int .u8 (List.getD s19 (Int.toNat j24) 0)), (25, .int .u8 (List.getD s19 (Int.toNat i23) 0))] [World.cell? w65 ⟨b54, 0 + (Int.toNat j24) * 1, none⟩ = some (.int .u8 (List.getD s19 (Int.toNat j24) 0))] E (by kernel_rfl) (Rds.at1 (H.rd 0 rds_row) 0 g53) ?_
    clear E; intro a E
    refine wpList_nil ?_
    refine th_n ⟨HS67, ?_⟩
    refine wpAnyH_all (rs := [12]) (by kernel_rfl) (by simp) ?_
    refine all1 ?_
    refine wpOp_of_list rfl ?_
    refine vr tbok 1 [] [(0, .slice (some ⟨b54, 0, none⟩) (List.length s19) c2), (2, .int .i64 i23), (3, .int .i64 j24), (14, .slice (some ⟨b54, 0, none⟩) (List.length s19) c2), (15, .int .i64 i23), (16, .slice (some ⟨b54, 0, none⟩) (List.length s19) c2), (17, .int .i64 j24), (21, .int .u8 (List.getD s19 (Int.toNat j24) 0)), (25, .int .u8 (List.getD s19 (Int.toNat i23) 0)), (26, .pointer (some ⟨b54, 0 + (Int.toNat i23) * 1, none⟩))] [0 ≤ i23 ∧ i23 < (((List.length s19) : Nat) : Int)] E (by kernel_rfl) (g56) ?_
    clear E; intro a E
    refine wpList_nil ?_
    refine th_n ⟨HS67, ?_⟩
    refine wpAnyH_all (rs := [13]) (by kernel_rfl) (by simp) ?_
    refine all1 ?_
    refine wpOp_of_list rfl ?_
    refine h_set (g := b54) (i := i23) (List.getD s19 (Int.toNat j24) 0) H 0 rfl E rfl rfl rfl rfl tbok rfl (fun _ HF_ => rfl) rfl g56 rfl ?_
    clear E; intro w99 a hc100 H_ E
    replace HS67 := HS67.trans hc100 (fun k_ hk_ h_ => (fun _ _ h_ => Or.inl h_) k_ hk_ h_)
    replace H := H_; clear H_; try dsimp only [setn, addE, goneL] at H
    have hn101 : (List.length s19) = (List.length (List.set s19 (Int.toNat i23) (List.getD s19 (Int.toNat j24) 0))) := by simp only [List.length_set]
    replace E := E.same (t := 0) (u := .slice (some ⟨b54, 0, none⟩) (List.length (List.set s19 (Int.toNat i23) (List.getD s19 (Int.toNat j24) 0))) c2) rfl (congrArg (fun n_ => Value.slice (some ⟨b54, 0, none⟩) n_ c2) hn101)
    replace E := E.same (t := 14) (u := .slice (some ⟨b54, 0, none⟩) (List.length (List.set s19 (Int.toNat i23) (List.getD s19 (Int.toNat j24) 0))) c2) rfl (congrArg (fun n_ => Value.slice (some ⟨b54, 0, none⟩) n_ c2) hn101)
    replace E := E.same (t := 16) (u := .slice (some ⟨b54, 0, none⟩) (List.length (List.set s19 (Int.toNat i23) (List.getD s19 (Int.toNat j24) 0))) c2) rfl (congrArg (fun n_ => Value.slice (some ⟨b54, 0, none⟩) n_ c2) hn101)
    refine wpList_nil ?_
    refine th_n ⟨HS67, ?_⟩
    refine wpAnyH_all (rs := [14]) (by kernel_rfl) (by simp) ?_
    refine all1 ?_
    refine wpOp_of_list rfl ?_
    refine vr tbok 1 [] [(0, .slice (some ⟨b54, 0, none⟩) (List.length (List.set s19 (Int.toNat i23) (List.getD s19 (Int.toNat j24) 0))) c2), (2, .int .i64 i23), (3, .int .i64 j24), (16, .slice (some ⟨b54, 0, none⟩) (List.length (List.set s19 (Int.toNat i23) (List.getD s19 (Int.toNat j24) 0))) c2), (17, .int .i64 j24), (25, .int .u8 (List.getD s19 (Int.toNat i23) 0)), (27, .pointer (some ⟨b54, 0 + (Int.toNat j24) * 1, none⟩))] [0 ≤ j24 ∧ j24 < (((List.length (List.set s19 (Int.toNat i23) (List.getD s19 (Int.toNat j24) 0))) : Nat) : Int)] E (by kernel_rfl) (g60) ?_
    clear E; intro a E
    refine wpList_nil ?_
    refine th_n ⟨HS67, ?_⟩
    refine wpAnyH_all (rs := [15]) (by kernel_rfl) (by simp) ?_
    refine all1 ?_
    refine wpOp_of_list rfl ?_
    refine h_set (g := b54) (i := j24) (List.getD s19 (Int.toNat i23) 0) H 0 rfl E rfl rfl rfl rfl tbok rfl (fun _ HF_ => rfl) rfl g60 rfl ?_
    clear E; intro w102 a hc103 H_ E
    replace HS67 := HS67.trans hc103 (fun k_ hk_ h_ => (fun _ _ h_ => Or.inl h_) k_ hk_ h_)
    replace H := H_; clear H_; try dsimp only [setn, addE, goneL] at H
    have hn104 : (List.length (List.set s19 (Int.toNat i23) (List.getD s19 (Int.toNat j24) 0))) = (List.length (List.set (List.set s19 (Int.toNat i23) (List.getD s19 (Int.toNat j24) 0)) (Int.toNat j24) (List.getD s19 (Int.toNat i23) 0))) := by simp only [List.length_set]
    replace E := E.same (t := 0) (u := .slice (some ⟨b54, 0, none⟩) (List.length (List.set (List.set s19 (Int.toNat i23) (List.getD s19 (Int.toNat j24) 0)) (Int.toNat j24) (List.getD s19 (Int.toNat i23) 0))) c2) rfl (congrArg (fun n_ => Value.slice (some ⟨b54, 0, none⟩) n_ c2) hn104)
    replace E := E.same (t := 16) (u := .slice (some ⟨b54, 0, none⟩) (List.length (List.set (List.set s19 (Int.toNat i23) (List.getD s19 (Int.toNat j24) 0)) (Int.toNat j24) (List.getD s19 (Int.toNat i23) 0))) c2) rfl (congrArg (fun n_ => Value.slice (some ⟨b54, 0, none⟩) n_ c2) hn104)
    refine wpList_nil ?_
    refine th_n ⟨HS67, ?_⟩
    refine dr_done (by kernel_rfl) ?_
    exact .inl ⟨rfl, E.pick _ ⟨rfl, rfl, rfl, trivial⟩, H.sel [0] rfl⟩
   clear E H; rintro a w64 ⟨E, H⟩
   refine bl_n ?_
   refine th_n ?_
   refine wp_region_lit ?_
   obtain ⟨g105, hP⟩ := ask_inv hP
   obtain ⟨g106, hP⟩ := ask_inv hP
   refine vr tbok 6 [.int .i64 (i23 + 1), .int .i64 (j24 - 1)] [(0, .slice (some ⟨b54, 0, none⟩) (List.length (List.set (List.set s19 (Int.toNat i23) (List.getD s19 (Int.toNat j24) 0)) (Int.toNat j24) (List.getD s19 (Int.toNat i23) 0))) c2), (2, .int .i64 (i23 + 1)), (3, .int .i64 (j24 - 1))] [IntKind.i64.wrap (i23 + 1) = i23 + 1, IntKind.i64.wrap (j24 - 1) = j24 - 1] E (by kernel_rfl) ⟨wrap_in g105, wrap_in g106⟩ ?_
   clear E; intro a E
   refine wpList_nil ?_
   exact th_n ⟨m45, Nat.lt_succ_self _, List.set (List.set s19 (Int.toNat i23) (List.getD s19 (Int.toNat j24) 0)) (Int.toNat j24) (List.getD s19 (Int.toNat i23) 0), i23 + 1, j24 - 1, E.pick _ ⟨rfl, rfl, rfl, trivial⟩, H.sel [0] rfl, (Eq.trans List.length_set (Eq.trans List.length_set hl22)), hP⟩
  replace E := E_; clear E_
  have h107 : ¬ (i23 < j24) := of_decide_eq_false hb_
  clear hb_; replace hP := ite_f h107 hP
  refine c_false E rfl ?_
  refine wp_exit ?_
  refine th_exit ?_
  have hx_ := Option.some.inj hP
  refine th_exit (.inl ⟨0, rfl, ?_⟩)
  exact ⟨rfl, s19, E.pick _ trivial, H.sel [0] rfl, hl22, hx_.symm⟩
 clear E H hL47; intro i_ a w49 hM_
 obtain ⟨rfl, x51, E, H, hl44, hx_⟩ := hM_
 subst hx_; have hP := hK48; clear hK48
 refine bl_hit ?_
 obtain rfl := Option.some.inj hP
 refine bodyPost_end (v := .tuple #[]) (by simp [results, Try.f27]) E.nodef ?_
 exact ⟨_, rfl, rfl, hl44, H.sel [0] rfl⟩

end Go.V
