/- Plain functions, and the calls that give them. -/
import Derived.Test.YtflangjkfaalkaaA7
set_option linter.all false
set_option linter.unusedVariables false
set_option linter.unnecessarySimpa false
set_option linter.unusedSimpArgs false
namespace Go.V
open Go Go.Proofs
/-! rejoinder/moore.Ranks -/
def moore_Ranks (N : Nat) (aProps : Int) (aAccept : List Bool) (aGuard : List Int) (aNodes : List Nd) (s : Int × Int) : Option ((List Int) × Int) :=
  Option.bind (moore_begun N aProps aAccept aGuard aNodes (s.1, s.2)) fun r23 =>
  Sum.elim (fun x39 =>
    if (x39 : Int) = 0 then
      none
    else
      some ([], x39))
   (fun x40 =>
    if (x40.2 : Int) = 0 then
      Option.bind (moore_game_ranks N x40.1) fun r48 =>
      some (r48, 0)
    else
      some ([], x40.2)) r23
set_option maxRecDepth 100000 in
set_option maxHeartbeats 4000000 in
theorem moore_Ranks_calls {N : Nat} {S Fa : Nat → Prop} {w0 : World} {r : (List Int) × Int} (A1 : Option Addr) (c2 : Nat) (A5 : Option Addr) (c6 : Nat) (A9 : Option Addr) (c10 : Nat) (aProps : Int) (aAccept : List Bool) (aGuard : List Int) (aNodes : List Nd) (s : Int × Int) (hk3 : List.length aAccept ≤ c2) (hk7 : List.length aGuard ≤ c6) (hk11 : List.length aNodes ≤ c10) (H : Hp S Fa w0 w0 [.ro false cBool A1 aAccept, .ro false (cInt .i64) A5 aGuard, .ro false cNode A9 aNodes]) (hP : moore_Ranks N aProps aAccept aGuard aNodes s = some r) :
    Calls Try.prog 10 #[.agg #[.int .i64 aProps, .slice A1 (List.length aAccept) c2, .slice A5 (List.length aGuard) c6, .slice A9 (List.length aNodes) c10], .agg #[.int .u8 s.1, .int .u8 s.2]] w0 fun e w' => ∃ v, e = .returned v ∧ ∃ (A60 : Option Addr) (c61 : Nat), v = .tuple #[.slice A60 (List.length r.1) c61, .int .i64 r.2] ∧ Hp S Fa w0 w' [.row true (cInt .i64) 3 A60 c61 r.1] := by
 refine enterV (n := 19) Try.func10 rfl rfl rfl ?_
 intro a E
 replace E := E.pick [(0, .agg #[.int .i64 aProps, .slice A1 (List.length aAccept) c2, .slice A5 (List.length aGuard) c6, .slice A9 (List.length aNodes) c10]), (1, .agg #[.int .u8 s.1, .int .u8 s.2])] ⟨rfl, rfl, trivial⟩
 rw [moore_Ranks] at hP
 refine wp_seq ?_
 refine wp_region_lit ?_
 refine h_box H E rfl rfl rfl ?_
 intro w14 g13 a hc15 hg17 H_ E_
 replace E := E_ _ rfl; clear E_
 replace H := H_; clear H_; try dsimp only [setn, addE, goneL] at H
 refine h_box H E rfl rfl rfl ?_
 intro w19 g18 a hc20 hg22 H_ E_
 replace E := E_ _ rfl; clear E_
 replace H := H_; clear H_; try dsimp only [setn, addE, goneL] at H
 refine vr tbok 2 [] [(2, .pointer (some ⟨g13, 0, none⟩)), (3, .pointer (some ⟨g18, 0, none⟩))] [] E (by kernel_rfl) trivial ?_
 clear E; intro a E
 refine wpList_nil ?_
 refine th_n ?_
 refine wp_seq ?_
 refine wp_region_lit ?_
 refine vr tbok 2 [.agg #[.int .i64 aProps, .slice A1 (List.length aAccept) c2, .slice A5 (List.length aGuard) c6, .slice A9 (List.length aNodes) c10], .agg #[.int .u8 s.1, .int .u8 s.2]] [(9, .agg #[.int .i64 aProps, .slice A1 (List.length aAccept) c2, .slice A5 (List.length aGuard) c6, .slice A9 (List.length aNodes) c10]), (10, .agg #[.int .u8 s.1, .int .u8 s.2])] [cellsAt w19 g13 (0) [.int .i64 aProps, .slice A1 (List.length aAccept) c2, .slice A5 (List.length aGuard) c6, .slice A9 (List.length aNodes) c10], cellsAt w19 g18 (0) [.int .u8 s.1, .int .u8 s.2]] E (by kernel_rfl) ⟨(H.box 3 rfl).sub 0 _ rfl, (H.box 4 rfl).sub 0 _ rfl⟩ ?_
 clear E; intro a E
 obtain ⟨r23, h24, hP⟩ := bind_inv hP
 obtain ⟨Fa25, Hc26, hb27⟩ := H.callA [] [(0, false), (1, false), (2, false)] rfl rfl trivial
 refine e_call E rfl rfl Try.func31 rfl rfl rfl (moore_begun_calls A1 c2 A5 c6 A9 c10 aProps aAccept aGuard aNodes (s.1, s.2) hk3 hk7 hk11 Hc26 h24) ?_
 intro v33 w32 a hR34 E_
 rcases hR34 with ⟨x_, hr_, rfl, HR36⟩ | ⟨x_, b37, hr_, rfl, HR38⟩
 ·
  subst hr_; have hP := elim_l hP
  obtain ⟨x39, hxx_⟩ : ∃ y_, y_ = x_ := ⟨_, rfl⟩; subst hxx_
  replace E := E_ _ rfl; clear E_
  obtain ⟨H_, hc35⟩ := hb27 _ _ HR36
  replace H := H_; clear H_; try dsimp only [setn, addE, goneL] at H
  refine vr tbok 5 [] [(6, .pointer none), (7, .int .i64 x39)] [] E (by kernel_rfl) trivial ?_
  clear E; intro a E
  refine wpList_nil ?_
  refine th_n ?_
  refine wp_seq ?_
  refine wp_seq ?_
  refine wp_region_lit ?_
  refine vr tbok 2 [] [(6, .pointer none), (7, .int .i64 x39), (15, .bool ((x39 : Int) != 0))] [] E (by kernel_rfl) trivial ?_
  clear E; intro a E
  refine wpList_nil ?_
  refine th_n ?_
  refine E.cases (t := 15) rfl (fun hb_ E_ => ?_) (fun hb_ E_ => ?_)
  ·
   replace E := E_; clear E_
   have h41 : ¬ ((x39 : Int) = 0) := bne_iff_ne.1 hb_
   clear hb_; replace hP := ite_f h41 hP
   refine c_true E rfl ?_
   refine wp_seq ?_
   refine wp_region_lit ?_
   refine vr tbok 3 [] [(4, .slice none 0 0), (5, .int .i64 x39)] [] E (by kernel_rfl) trivial ?_
   clear E; intro a E
   refine wpList_nil ?_
   refine th_n ?_
   refine wp_ret ?_
   refine th_ret ?_
   replace H := H.nilrow (cInt .i64) 3; try dsimp only [setn, addE, goneL] at H
   obtain rfl := Option.some.inj hP
   refine ret2 E rfl rfl rfl ?_
   exact ⟨_, rfl, none, 0, rfl, H.sel [5] rfl⟩
  ·
   replace E := E_; clear E_
   have h43 : (x39 : Int) = 0 := bne_eq_false_iff_eq.1 hb_
   clear hb_; replace hP := ite_t h43 hP
   exact none_inv hP
   -- STOPPED: a nil pointer is handed on
 ·
  subst hr_; have hP := (elim_r hP)
  obtain ⟨x40, hxx_⟩ : ∃ y_, y_ = x_ := ⟨_, rfl⟩; subst hxx_
  replace E := E_ _ rfl; clear E_
  obtain ⟨H_, hc35⟩ := hb27 _ _ HR38
  replace H := H_; clear H_; try dsimp only [setn, addE, goneL] at H
  refine vr tbok 5 [] [(6, .pointer (some ⟨b37, 0, none⟩)), (7, .int .i64 x40.2)] [] E (by kernel_rfl) trivial ?_
  clear E; intro a E
  refine wpList_nil ?_
  refine th_n ?_
  refine wp_seq ?_
  refine wp_seq ?_
  refine wp_region_lit ?_
  refine vr tbok 2 [] [(6, .pointer (some ⟨b37, 0, none⟩)), (7, .int .i64 x40.2), (15, .bool ((x40.2 : Int) != 0))] [] E (by kernel_rfl) trivial ?_
  clear E; intro a E
  refine wpList_nil ?_
  refine th_n ?_
  refine E.cases (t := 15) rfl (fun hb_ E_ => ?_) (fun hb_ E_ => ?_)
  ·
   replace E := E_; clear E_
   have h45 : ¬ ((x40.2 : Int) = 0) := bne_iff_ne.1 hb_
   clear hb_; replace hP := ite_f h45 hP
   refine c_true E rfl ?_
   refine wp_seq ?_
   refine wp_region_lit ?_
   refine vr tbok 3 [] [(4, .slice none 0 0), (5, .int .i64 x40.2)] [] E (by kernel_rfl) trivial ?_
   clear E; intro a E
   refine wpList_nil ?_
   refine th_n ?_
   refine wp_ret ?_
   refine th_ret ?_
   replace H := H.nilrow (cInt .i64) 3; try dsimp only [setn, addE, goneL] at H
   obtain rfl := Option.some.inj hP
   refine ret2 E rfl rfl rfl ?_
   exact ⟨_, rfl, none, 0, rfl, H.sel [6] rfl⟩
  ·
   replace E := E_; clear E_
   have h47 : (x40.2 : Int) = 0 := bne_eq_false_iff_eq.1 hb_
   clear hb_; replace hP := ite_t h47 hP
   refine c_false E rfl ?_
   refine wp_skip ?_
   refine th_n ?_
   refine wp_seq ?_
   refine wp_region_lit ?_
   refine vr tbok 1 [] [(17, .pointer (some ⟨b37, 0, none⟩))] [] E (by kernel_rfl) trivial ?_
   clear E; intro a E
   obtain ⟨r48, h49, hP⟩ := bind_inv hP
   obtain ⟨Fa50, Hc51, hb52⟩ := H.call [] [(5, false)] rfl rfl trivial
   refine e_call E rfl rfl Try.func32 rfl rfl rfl (moore_game_ranks_calls b37 0 x40.1  Hc51 h49) ?_
   rintro v53 w54 a ⟨A57, c58, rfl, HR55⟩ E_
   replace E := E_ _ rfl; clear E_
   obtain ⟨H_, hc56⟩ := hb52 _ _ HR55 rfl
   replace H := H_; clear H_; try dsimp only [setn, addE, goneL] at H
   refine vr tbok 2 [] [(4, .slice A57 (List.length r48) c58), (5, .int .i64 0)] [] E (by kernel_rfl) trivial ?_
   clear E; intro a E
   refine wpList_nil ?_
   refine th_n ?_
   refine wp_ret ?_
   obtain rfl := Option.some.inj hP
   refine ret2 E rfl rfl rfl ?_
   exact ⟨_, rfl, A57, c58, rfl, H.sel [6] rfl⟩

/-! rejoinder/rejoinderkit.SameInts -/
def kit_SameInts_l0 (N : Nat) (aa : List Int) (b : List Int) : Nat → Int → Option (Unit ⊕ Bool)
  | 0, _ => none
  | m41 + 1, i25 =>
    if i25 < (((List.length aa) : Nat) : Int) then
      ask (idx i25 (List.length aa)) <|
      ask (idx i25 (List.length b)) <|
      if ((List.getD aa (Int.toNat i25) 0) : Int) = (List.getD b (Int.toNat i25) 0) then
        ask (in64 (i25 + 1)) <|
        kit_SameInts_l0 N aa b m41 (i25 + 1)
      else
        some (Sum.inr false)
    else
      some (Sum.inl ())
def kit_SameInts (N : Nat) (aa : List Int) (b : List Int) : Option Bool :=
  if ((((List.length aa) : Nat) : Int) : Int) = (((List.length b) : Nat) : Int) then
    Option.bind (kit_SameInts_l0 N aa b N 0) fun x42 =>
    Sum.elim (fun x47 =>
      some true)
     (fun x63 =>
      some x63) x42
  else
    some false
set_option maxRecDepth 100000 in
set_option maxHeartbeats 4000000 in
theorem kit_SameInts_calls {N : Nat} {S Fa : Nat → Prop} {w0 : World} {r : Bool} (A1 : Option Addr) (c2 : Nat) (A5 : Option Addr) (c6 : Nat) (aa : List Int) (b : List Int) (hk3 : List.length aa ≤ c2) (hk7 : List.length b ≤ c6) (H : Hp S Fa w0 w0 [.ro false (cInt .i64) A1 aa, .ro false (cInt .i64) A5 b]) (hP : kit_SameInts N aa b = some r) :
    Calls Try.prog 14 #[.slice A1 (List.length aa) c2, .slice A5 (List.length b) c6] w0 fun e w' => ∃ v, e = .returned v ∧ v = .bool r ∧ Hp S Fa w0 w' [] := by
 refine enterV (n := 26) Try.func14 rfl rfl rfl ?_
 intro a E
 replace E := E.pick [(0, .slice A1 (List.length aa) c2), (1, .slice A5 (List.length b) c6)] ⟨rfl, rfl, trivial⟩
 rw [kit_SameInts] at hP
 refine wp_seq ?_
 refine wp_region_lit ?_
 refine vr tbok 1 [] [(0, .slice A1 (List.length aa) c2), (1, .slice A5 (List.length b) c6)] [] E (by kernel_rfl) trivial ?_
 clear E; intro a E
 refine wpList_nil ?_
 refine th_n ?_
 refine wp_seq ?_
 refine wp_seq ?_
 refine wp_region_lit ?_
 refine vr tbok 5 [] [(0, .slice A1 (List.length aa) c2), (1, .slice A5 (List.length b) c6), (10, .bool (((((List.length aa) : Nat) : Int) : Int) != (((List.length b) : Nat) : Int)))] [] E (by kernel_rfl) trivial ?_
 clear E; intro a E
 refine wpList_nil ?_
 refine th_n ?_
 refine E.cases (t := 10) rfl (fun hb_ E_ => ?_) (fun hb_ E_ => ?_)
 ·
  replace E := E_; clear E_
  have h9 : ¬ (((((List.length aa) : Nat) : Int) : Int) = (((List.length b) : Nat) : Int)) := bne_iff_ne.1 hb_
  clear hb_; replace hP := ite_f h9 hP
  refine c_true E rfl ?_
  refine wp_seq ?_
  refine wp_region_lit ?_
  refine vr tbok 1 [] [(4, .bool false)] [] E (by kernel_rfl) trivial ?_
  clear E; intro a E
  refine wpList_nil ?_
  refine th_n ?_
  refine wp_ret ?_
  refine th_ret ?_
  obtain rfl := Option.some.inj hP
  refine ret1 E rfl rfl ?_
  exact ⟨_, rfl, rfl, H.sel [] rfl⟩
 ·
  replace E := E_; clear E_
  have h10 : ((((List.length aa) : Nat) : Int) : Int) = (((List.length b) : Nat) : Int) := bne_eq_false_iff_eq.1 hb_
  clear hb_; replace hP := ite_t h10 hP
  refine c_false E rfl ?_
  refine wp_skip ?_
  refine th_n ?_
  refine wp_seq ?_
  refine wp_seq ?_
  refine wp_region_lit ?_
  refine vr tbok 1 [] [(0, .slice A1 (List.length aa) c2), (1, .slice A5 (List.length b) c6), (5, .int .i64 0)] [] E (by kernel_rfl) trivial ?_
  clear E; intro a E
  refine wpList_nil ?_
  refine th_n ?_
  refine wp_block ?_
  obtain ⟨x42, hL43, hK44⟩ := bind_inv hP
  clear hP
  refine loop_cut (fun i_ a w_ => (i_ = 0 ∧ ∃ (x47 : Unit), Fr a 26 [] ∧ Hp S Fa w0 w_ [] ∧ x42 = Sum.inl x47)) ?_ ?_
  ·
   refine loopV (fun m46 a w45 => ∃ (i25 : Int), Fr a 26 [(0, .slice A1 (List.length aa) c2), (1, .slice A5 (List.length b) c6), (5, .int .i64 i25)] ∧ Hp S Fa w0 w45 [.ro false (cInt .i64) A1 aa, .ro false (cInt .i64) A5 b] ∧ kit_SameInts_l0 N aa b m46 i25 = some x42) N ?_ ?_
   ·
    exact ⟨0, E.pick _ ⟨rfl, rfl, rfl, trivial⟩, H.sel [0, 1] rfl, hL43⟩
   ·
    clear E H hL43; intro m46 a w45 hI_
    obtain ⟨i25, E, H, hP⟩ := hI_
    obtain ⟨m41, rfl⟩ : ∃ q_, m46 = q_ + 1 := by cases m46 with | zero => rw [kit_SameInts_l0] at hP; cases hP | succ q_ => exact ⟨q_, rfl⟩
    rw [kit_SameInts_l0] at hP
    refine wp_seq ?_
    refine wp_seq ?_
    refine wp_region_lit ?_
    refine vr tbok 4 [] [(0, .slice A1 (List.length aa) c2), (1, .slice A5 (List.length b) c6), (5, .int .i64 i25), (14, .bool (decide (i25 < (((List.length aa) : Nat) : Int))))] [] E (by kernel_rfl) trivial ?_
    clear E; intro a E
    refine wpList_nil ?_
    refine th_n ?_
    refine E.cases (t := 14) rfl (fun hb_ E_ => ?_) (fun hb_ E_ => ?_)
    ·
     replace E := E_; clear E_
     have h48 : i25 < (((List.length aa) : Nat) : Int) := of_decide_eq_true hb_
     clear hb_; replace hP := ite_t h48 hP
     refine c_true E rfl ?_
     refine wp_skip ?_
     refine th_n ?_
     refine wp_seq ?_
     refine wp_block ?_
     refine wp_seq ?_
     obtain ⟨g49, hP⟩ := ask_inv hP
     obtain ⟨b50, o51, e_b50⟩ := (H.rd 0 rds_ro).addr (idx_pos g49)
     subst e_b50
     obtain ⟨g52, hP⟩ := ask_inv hP
     obtain ⟨b53, o54, e_b53⟩ := (H.rd 1 rds_ro).addr (idx_pos g52)
     subst e_b53
     have HR58 := H
     refine dr_start (S := fun w_ => Chg (atL []) w45 w_) (by kernel_rfl) ?_
     intro w55 hc56
     have HS57 : Chg (atL []) w45 w55 := hc56.mono (fun _ _ h_ => h_.elim)
     replace H := H.ext hc56
     refine dr tbok (by kernel_rfl) [0, 1, 2, 3, 4, 5, 6, 7, 8] [.int .i64 (List.getD aa (Int.toNat i25) 0), .int .i64 (List.getD b (Int.toNat i25) 0)] [(0, .slice (some ⟨b50, o51, none⟩) (List.length aa) c2), (1, .slice (some ⟨b53, o54, none⟩) (List.length b) c6), (5, .int .i64 i25), (25, .bool (((List.getD aa (Int.toNat i25) 0) : Int) != (List.getD b (Int.toNat i25) 0)))] (fun w_ => [0 ≤ i25 ∧ i25 < (((List.length aa) : Nat) : Int), World.cell? w_ ⟨b50, o51 + (Int.toNat i25) * 1, none⟩ = some (.int .i64 (List.getD aa (Int.toNat i25) 0)), 0 ≤ i25 ∧ i25 < (((List.length b) : Nat) : Int), World.cell? w_ ⟨b53, o54 + (Int.toNat i25) * 1, none⟩ = some (.int .i64 (List.getD b (Int.toNat i25) 0))]) 0 E (fun _ _ => by kernel_rfl) (fun w_ hS_ => ⟨g49, Rds.at1 (HR58.rdk [] hS_ 0 rds_ro rfl) 0 g49, g52, Rds.at1 (HR58.rdk [] hS_ 1 rds_ro rfl) 0 g52⟩) (by kernel_rfl) HS57 ?_
     clear E; intro a E
     refine dr_done (by kernel_rfl) ?_
     clear HS57 HR58
     refine th_n ?_
     refine E.cases (t := 25) rfl (fun hb_ E_ => ?_) (fun hb_ E_ => ?_)
     ·
      replace E := E_; clear E_
      have h59 : ¬ (((List.getD aa (Int.toNat i25) 0) : Int) = (List.getD b (Int.toNat i25) 0)) := bne_iff_ne.1 hb_
      clear hb_; replace hP := ite_f h59 hP
      refine c_true E rfl ?_
      refine wp_seq ?_
      refine wp_region_lit ?_
      refine vr tbok 1 [] [(4, .bool false)] [] E (by kernel_rfl) trivial ?_
      clear E; intro a E
      refine wpList_nil ?_
      refine th_n ?_
      refine wp_ret ?_
      refine bl_ret ?_
      refine th_ret ?_
      refine th_ret ?_
      refine .inr ⟨rfl, ?_⟩
      refine bl_ret ?_
      refine th_ret ?_
      have hx_ := Option.some.inj hP; subst hx_
      have hP : some (false) = some r := hK44
      obtain rfl := Option.some.inj hP
      refine ret1 E rfl rfl ?_
      exact ⟨_, rfl, rfl, H.sel [] rfl⟩
     ·
      replace E := E_; clear E_
      have h60 : ((List.getD aa (Int.toNat i25) 0) : Int) = (List.getD b (Int.toNat i25) 0) := bne_eq_false_iff_eq.1 hb_
      clear hb_; replace hP := ite_t h60 hP
      refine c_false E rfl ?_
      refine wp_skip ?_
      refine bl_n ?_
      refine th_n ?_
      refine wp_region_lit ?_
      obtain ⟨g61, hP⟩ := ask_inv hP
      refine vr tbok 3 [.int .i64 (i25 + 1)] [(0, .slice (some ⟨b50, o51, none⟩) (List.length aa) c2), (1, .slice (some ⟨b53, o54, none⟩) (List.length b) c6), (5, .int .i64 (i25 + 1))] [IntKind.i64.wrap (i25 + 1) = i25 + 1] E (by kernel_rfl) (wrap_in g61) ?_
      clear E; intro a E
      refine wpList_nil ?_
      exact th_n ⟨m41, Nat.lt_succ_self _, i25 + 1, E.pick _ ⟨rfl, rfl, rfl, trivial⟩, H.sel [0, 1] rfl, hP⟩
    ·
     replace E := E_; clear E_
     have h62 : ¬ (i25 < (((List.length aa) : Nat) : Int)) := of_decide_eq_false hb_
     clear hb_; replace hP := ite_f h62 hP
     refine c_false E rfl ?_
     refine wp_exit ?_
     refine th_exit ?_
     have hx_ := Option.some.inj hP
     refine th_exit (.inl ⟨0, rfl, ?_⟩)
     exact ⟨rfl, (), E.pick _ trivial, H.sel [] rfl, hx_.symm⟩
  ·
   clear E H hL43; intro i_ a w45 hM_
   obtain ⟨rfl, x47, E, H, hx_⟩ := hM_
   subst hx_; have hP := elim_l hK44
   clear hK44
   refine bl_hit ?_
   refine th_n ?_
   refine wp_seq ?_
   refine wp_region_lit ?_
   refine vr tbok 1 [] [(4, .bool true)] [] E (by kernel_rfl) trivial ?_
   clear E; intro a E
   refine wpList_nil ?_
   refine th_n ?_
   refine wp_ret ?_
   obtain rfl := Option.some.inj hP
   refine ret1 E rfl rfl ?_
   exact ⟨_, rfl, rfl, H.sel [] rfl⟩

/-! rejoinder/rejoinderkit.SameLetters -/
def kit_SameLetters_l0 (N : Nat) (aa : List Int) (b : List Int) : Nat → Int → Option (Unit ⊕ Bool)
  | 0, _ => none
  | m41 + 1, i25 =>
    if i25 < (((List.length aa) : Nat) : Int) then
      ask (idx i25 (List.length aa)) <|
      ask (idx i25 (List.length b)) <|
      if ((List.getD aa (Int.toNat i25) 0) : Int) = (List.getD b (Int.toNat i25) 0) then
        ask (in64 (i25 + 1)) <|
        kit_SameLetters_l0 N aa b m41 (i25 + 1)
      else
        some (Sum.inr false)
    else
      some (Sum.inl ())
def kit_SameLetters (N : Nat) (aa : List Int) (b : List Int) : Option Bool :=
  if ((((List.length aa) : Nat) : Int) : Int) = (((List.length b) : Nat) : Int) then
    Option.bind (kit_SameLetters_l0 N aa b N 0) fun x42 =>
    Sum.elim (fun x47 =>
      some true)
     (fun x63 =>
      some x63) x42
  else
    some false
set_option maxRecDepth 100000 in
set_option maxHeartbeats 4000000 in
theorem kit_SameLetters_calls {N : Nat} {S Fa : Nat → Prop} {w0 : World} {r : Bool} (A1 : Option Addr) (c2 : Nat) (A5 : Option Addr) (c6 : Nat) (aa : List Int) (b : List Int) (hk3 : List.length aa ≤ c2) (hk7 : List.length b ≤ c6) (H : Hp S Fa w0 w0 [.ro false (cInt .u8) A1 aa, .ro false (cInt .u8) A5 b]) (hP : kit_SameLetters N aa b = some r) :
    Calls Try.prog 40 #[.slice A1 (List.length aa) c2, .slice A5 (List.length b) c6] w0 fun e w' => ∃ v, e = .returned v ∧ v = .bool r ∧ Hp S Fa w0 w' [] := by
 refine enterV (n := 26) Try.func40 rfl rfl rfl ?_
 intro a E
 replace E := E.pick [(0, .slice A1 (List.length aa) c2), (1, .slice A5 (List.length b) c6)] ⟨rfl, rfl, trivial⟩
 rw [kit_SameLetters] at hP
 refine wp_seq ?_
 refine wp_region_lit ?_
 refine vr tbok 1 [] [(0, .slice A1 (List.length aa) c2), (1, .slice A5 (List.length b) c6)] [] E (by kernel_rfl) trivial ?_
 clear E; intro a E
 refine wpList_nil ?_
 refine th_n ?_
 refine wp_seq ?_
 refine wp_seq ?_
 refine wp_region_lit ?_
 refine vr tbok 5 [] [(0, .slice A1 (List.length aa) c2), (1, .slice A5 (List.length b) c6), (10, .bool (((((List.length aa) : Nat) : Int) : Int) != (((List.length b) : Nat) : Int)))] [] E (by kernel_rfl) trivial ?_
 clear E; intro a E
 refine wpList_nil ?_
 refine th_n ?_
 refine E.cases (t := 10) rfl (fun hb_ E_ => ?_) (fun hb_ E_ => ?_)
 ·
  replace E := E_; clear E_
  have h9 : ¬ (((((List.length aa) : Nat) : Int) : Int) = (((List.length b) : Nat) : Int)) := bne_iff_ne.1 hb_
  clear hb_; replace hP := ite_f h9 hP
  refine c_true E rfl ?_
  refine wp_seq ?_
  refine wp_region_lit ?_
  refine vr tbok 1 [] [(4, .bool false)] [] E (by kernel_rfl) trivial ?_
  clear E; intro a E
  refine wpList_nil ?_
  refine th_n ?_
  refine wp_ret ?_
  refine th_ret ?_
  obtain rfl := Option.some.inj hP
  refine ret1 E rfl rfl ?_
  exact ⟨_, rfl, rfl, H.sel [] rfl⟩
 ·
  replace E := E_; clear E_
  have h10 : ((((List.length aa) : Nat) : Int) : Int) = (((List.length b) : Nat) : Int) := bne_eq_false_iff_eq.1 hb_
  clear hb_; replace hP := ite_t h10 hP
  refine c_false E rfl ?_
  refine wp_skip ?_
  refine th_n ?_
  refine wp_seq ?_
  refine wp_seq ?_
  refine wp_region_lit ?_
  refine vr tbok 1 [] [(0, .slice A1 (List.length aa) c2), (1, .slice A5 (List.length b) c6), (5, .int .i64 0)] [] E (by kernel_rfl) trivial ?_
  clear E; intro a E
  refine wpList_nil ?_
  refine th_n ?_
  refine wp_block ?_
  obtain ⟨x42, hL43, hK44⟩ := bind_inv hP
  clear hP
  refine loop_cut (fun i_ a w_ => (i_ = 0 ∧ ∃ (x47 : Unit), Fr a 26 [] ∧ Hp S Fa w0 w_ [] ∧ x42 = Sum.inl x47)) ?_ ?_
  ·
   refine loopV (fun m46 a w45 => ∃ (i25 : Int), Fr a 26 [(0, .slice A1 (List.length aa) c2), (1, .slice A5 (List.length b) c6), (5, .int .i64 i25)] ∧ Hp S Fa w0 w45 [.ro false (cInt .u8) A1 aa, .ro false (cInt .u8) A5 b] ∧ kit_SameLetters_l0 N aa b m46 i25 = some x42) N ?_ ?_
   ·
    exact ⟨0, E.pick _ ⟨rfl, rfl, rfl, trivial⟩, H.sel [0, 1] rfl, hL43⟩
   ·
    clear E H hL43; intro m46 a w45 hI_
    obtain ⟨i25, E, H, hP⟩ := hI_
    obtain ⟨m41, rfl⟩ : ∃ q_, m46 = q_ + 1 := by cases m46 with | zero => rw [kit_SameLetters_l0] at hP; cases hP | succ q_ => exact ⟨q_, rfl⟩
    rw [kit_SameLetters_l0] at hP
    refine wp_seq ?_
    refine wp_seq ?_
    refine wp_region_lit ?_
    refine vr tbok 4 [] [(0, .slice A1 (List.length aa) c2), (1, .slice A5 (List.length b) c6), (5, .int .i64 i25), (14, .bool (decide (i25 < (((List.length aa) : Nat) : Int))))] [] E (by kernel_rfl) trivial ?_
    clear E; intro a E
    refine wpList_nil ?_
    refine th_n ?_
    refine E.cases (t := 14) rfl (fun hb_ E_ => ?_) (fun hb_ E_ => ?_)
    ·
     replace E := E_; clear E_
     have h48 : i25 < (((List.length aa) : Nat) : Int) := of_decide_eq_true hb_
     clear hb_; replace hP := ite_t h48 hP
     refine c_true E rfl ?_
     refine wp_skip ?_
     refine th_n ?_
     refine wp_seq ?_
     refine wp_block ?_
     refine wp_seq ?_
     obtain ⟨g49, hP⟩ := ask_inv hP
     obtain ⟨b50, o51, e_b50⟩ := (H.rd 0 rds_ro).addr (idx_pos g49)
     subst e_b50
     obtain ⟨g52, hP⟩ := ask_inv hP
     obtain ⟨b53, o54, e_b53⟩ := (H.rd 1 rds_ro).addr (idx_pos g52)
     subst e_b53
     have HR58 := H
     refine dr_start (S := fun w_ => Chg (atL []) w45 w_) (by kernel_rfl) ?_
     intro w55 hc56
     have HS57 : Chg (atL []) w45 w55 := hc56.mono (fun _ _ h_ => h_.elim)
     replace H := H.ext hc56
     refine dr tbok (by kernel_rfl) [0, 1, 2, 3, 4, 5, 6, 7, 8] [.int .u8 (List.getD aa (Int.toNat i25) 0), .int .u8 (List.getD b (Int.toNat i25) 0)] [(0, .slice (some ⟨b50, o51, none⟩) (List.length aa) c2), (1, .slice (some ⟨b53, o54, none⟩) (List.length b) c6), (5, .int .i64 i25), (25, .bool (((List.getD aa (Int.toNat i25) 0) : Int) != (List.getD b (Int.toNat i25) 0)))] (fun w_ => [0 ≤ i25 ∧ i25 < (((List.length aa) : Nat) : Int), World.cell? w_ ⟨b50, o51 + (Int.toNat i25) * 1, none⟩ = some (.int .u8 (List.getD aa (Int.toNat i25) 0)), 0 ≤ i25 ∧ i25 < (((List.length b) : Nat) : Int), World.cell? w_ ⟨b53, o54 + (Int.toNat i25) * 1, none⟩ = some (.int .u8 (List.getD b (Int.toNat i25) 0))]) 0 E (fun _ _ => by kernel_rfl) (fun w_ hS_ => ⟨g49, Rds.at1 (HR58.rdk [] hS_ 0 rds_ro rfl) 0 g49, g52, Rds.at1 (HR58.rdk [] hS_ 1 rds_ro rfl) 0 g52⟩) (by kernel_rfl) HS57 ?_
     clear E; intro a E
     refine dr_done (by kernel_rfl) ?_
     clear HS57 HR58
     refine th_n ?_
     refine E.cases (t := 25) rfl (fun hb_ E_ => ?_) (fun hb_ E_ => ?_)
     ·
      replace E := E_; clear E_
      have h59 : ¬ (((List.getD aa (Int.toNat i25) 0) : Int) = (List.getD b (Int.toNat i25) 0)) := bne_iff_ne.1 hb_
      clear hb_; replace hP := ite_f h59 hP
      refine c_true E rfl ?_
      refine wp_seq ?_
      refine wp_region_lit ?_
      refine vr tbok 1 [] [(4, .bool false)] [] E (by kernel_rfl) trivial ?_
      clear E; intro a E
      refine wpList_nil ?_
      refine th_n ?_
      refine wp_ret ?_
      refine bl_ret ?_
      refine th_ret ?_
      refine th_ret ?_
      refine .inr ⟨rfl, ?_⟩
      refine bl_ret ?_
      refine th_ret ?_
      have hx_ := Option.some.inj hP; subst hx_
      have hP : some (false) = some r := hK44
      obtain rfl := Option.some.inj hP
      refine ret1 E rfl rfl ?_
      exact ⟨_, rfl, rfl, H.sel [] rfl⟩
     ·
      replace E := E_; clear E_
      have h60 : ((List.getD aa (Int.toNat i25) 0) : Int) = (List.getD b (Int.toNat i25) 0) := bne_eq_false_iff_eq.1 hb_
      clear hb_; replace hP := ite_t h60 hP
      refine c_false E rfl ?_
      refine wp_skip ?_
      refine bl_n ?_
      refine th_n ?_
      refine wp_region_lit ?_
      obtain ⟨g61, hP⟩ := ask_inv hP
      refine vr tbok 3 [.int .i64 (i25 + 1)] [(0, .slice (some ⟨b50, o51, none⟩) (List.length aa) c2), (1, .slice (some ⟨b53, o54, none⟩) (List.length b) c6), (5, .int .i64 (i25 + 1))] [IntKind.i64.wrap (i25 + 1) = i25 + 1] E (by kernel_rfl) (wrap_in g61) ?_
      clear E; intro a E
      refine wpList_nil ?_
      exact th_n ⟨m41, Nat.lt_succ_self _, i25 + 1, E.pick _ ⟨rfl, rfl, rfl, trivial⟩, H.sel [0, 1] rfl, hP⟩
    ·
     replace E := E_; clear E_
     have h62 : ¬ (i25 < (((List.length aa) : Nat) : Int)) := of_decide_eq_false hb_
     clear hb_; replace hP := ite_f h62 hP
     refine c_false E rfl ?_
     refine wp_exit ?_
     refine th_exit ?_
     have hx_ := Option.some.inj hP
     refine th_exit (.inl ⟨0, rfl, ?_⟩)
     exact ⟨rfl, (), E.pick _ trivial, H.sel [] rfl, hx_.symm⟩
  ·
   clear E H hL43; intro i_ a w45 hM_
   obtain ⟨rfl, x47, E, H, hx_⟩ := hM_
   subst hx_; have hP := elim_l hK44
   clear hK44
   refine bl_hit ?_
   refine th_n ?_
   refine wp_seq ?_
   refine wp_region_lit ?_
   refine vr tbok 1 [] [(4, .bool true)] [] E (by kernel_rfl) trivial ?_
   clear E; intro a E
   refine wpList_nil ?_
   refine th_n ?_
   refine wp_ret ?_
   obtain rfl := Option.some.inj hP
   refine ret1 E rfl rfl ?_
   exact ⟨_, rfl, rfl, H.sel [] rfl⟩

/-! rejoinder/rejoinderlaw26.Same -/
def law26_Same_l0 (N : Nat) (aReply : List (List Int)) (bReply : List (List Int)) : Nat → Int → Option (Unit ⊕ Bool)
  | 0, _ => none
  | m143 + 1, q101 =>
    if q101 < (((List.length aReply) : Nat) : Int) then
      ask (idx q101 (List.length aReply)) <|
      ask (idx q101 (List.length bReply)) <|
      Option.bind (kit_SameLetters N (List.getD aReply (Int.toNat q101) []) (List.getD bReply (Int.toNat q101) [])) fun r167 =>
      if r167 = true then
        ask (in64 (q101 + 1)) <|
        law26_Same_l0 N aReply bReply m143 (q101 + 1)
      else
        some (Sum.inr false)
    else
      some (Sum.inl ())
def law26_Same (N : Nat) (aWins : Bool) (aRanks : List Int) (aChoice : List Int) (aReply : List (List Int)) (bWins : Bool) (bRanks : List Int) (bChoice : List Int) (bReply : List (List Int)) : Option Bool :=
  if aWins = bWins then
    Option.bind (kit_SameInts N aRanks bRanks) fun r37 =>
    if r37 = true then
      Option.bind (kit_SameLetters N aChoice bChoice) fun r48 =>
      if r48 = true then
        if ((((List.length aReply) : Nat) : Int) : Int) = (((List.length bReply) : Nat) : Int) then
          Option.bind (law26_Same_l0 N aReply bReply N 0) fun x144 =>
          Sum.elim (fun x149 =>
            some true)
           (fun x191 =>
            some x191) x144
        else
          some false
      else
        some false
    else
      some false
  else
    some false
set_option maxRecDepth 100000 in
set_option maxHeartbeats 4000000 in
theorem law26_Same_calls {N : Nat} {S Fa : Nat → Prop} {w0 : World} {r : Bool} (A1 : Option Addr) (c2 : Nat) (A5 : Option Addr) (c6 : Nat) (A9 : Option Addr) (c10 : Nat) (A13 : Option Addr) (c14 : Nat) (A17 : Option Addr) (c18 : Nat) (A21 : Option Addr) (c22 : Nat) (aWins : Bool) (aRanks : List Int) (aChoice : List Int) (aReply : List (List Int)) (bWins : Bool) (bRanks : List Int) (bChoice : List Int) (bReply : List (List Int)) (hk3 : List.length aRanks ≤ c2) (hk7 : List.length aChoice ≤ c6) (hk11 : List.length aReply ≤ c10) (hk15 : List.length bRanks ≤ c14) (hk19 : List.length bChoice ≤ c18) (hk23 : List.length bReply ≤ c22) (H : Hp S Fa w0 w0 [.ro false (cInt .i64) A1 aRanks, .ro false (cInt .u8) A5 aChoice, .ro false (cSl (cInt .u8)) A9 aReply, .ro false (cInt .i64) A13 bRanks, .ro false (cInt .u8) A17 bChoice, .ro false (cSl (cInt .u8)) A21 bReply]) (hP : law26_Same N aWins aRanks aChoice aReply bWins bRanks bChoice bReply = some r) :
    Calls Try.prog 15 #[.agg #[.bool aWins, .slice A1 (List.length aRanks) c2, .slice A5 (List.length aChoice) c6, .slice A9 (List.length aReply) c10], .agg #[.bool bWins, .slice A13 (List.length bRanks) c14, .slice A17 (List.length bChoice) c18, .slice A21 (List.length bReply) c22]] w0 fun e w' => ∃ v, e = .returned v ∧ v = .bool r ∧ Hp S Fa w0 w' [] := by
 refine enterV (n := 55) Try.func15 rfl rfl rfl ?_
 intro a E
 replace E := E.pick [(0, .agg #[.bool aWins, .slice A1 (List.length aRanks) c2, .slice A5 (List.length aChoice) c6, .slice A9 (List.length aReply) c10]), (1, .agg #[.bool bWins, .slice A13 (List.length bRanks) c14, .slice A17 (List.length bChoice) c18, .slice A21 (List.length bReply) c22])] ⟨rfl, rfl, trivial⟩
 rw [law26_Same] at hP
 refine wp_seq ?_
 refine wp_region_lit ?_
 refine h_box H E rfl rfl rfl ?_
 intro w26 g25 a hc27 hg29 H_ E_
 replace E := E_ _ rfl; clear E_
 replace H := H_; clear H_; try dsimp only [setn, addE, goneL] at H
 refine h_box H E rfl rfl rfl ?_
 intro w31 g30 a hc32 hg34 H_ E_
 replace E := E_ _ rfl; clear E_
 replace H := H_; clear H_; try dsimp only [setn, addE, goneL] at H
 refine vr tbok 1 [] [(2, .pointer (some ⟨g25, 0, none⟩)), (3, .pointer (some ⟨g30, 0, none⟩))] [] E (by kernel_rfl) trivial ?_
 clear E; intro a E
 refine wpList_nil ?_
 refine th_n ?_
 refine wp_seq ?_
 refine wp_seq ?_
 refine wp_region_lit ?_
 refine vr tbok 6 [.bool aWins, .bool bWins] [(2, .pointer (some ⟨g25, 0, none⟩)), (3, .pointer (some ⟨g30, 0, none⟩)), (11, .bool (!(aWins == bWins)))] [World.cell? w31 ⟨g25, 0, none⟩ = some (.bool aWins), World.cell? w31 ⟨g30, 0, none⟩ = some (.bool bWins)] E (by kernel_rfl) ⟨(H.box 6 rfl).cell (j := 0) rfl, (H.box 7 rfl).cell (j := 0) rfl⟩ ?_
 clear E; intro a E
 refine E.cases (t := 11) rfl (fun hb_ E_ => ?_) (fun hb_ E_ => ?_)
 ·
  replace E := E_; clear E_
  have h35 : ¬ (aWins = bWins) := (by simpa using hb_)
  clear hb_; replace hP := ite_f h35 hP
  refine vr tbok 24 [] [(2, .pointer (some ⟨g25, 0, none⟩)), (3, .pointer (some ⟨g30, 0, none⟩)), (35, .bool true)] [] E (by kernel_rfl) trivial ?_
  clear E; intro a E
  refine wpList_nil ?_
  refine th_n ?_
  refine c_true E rfl ?_
  refine wp_seq ?_
  refine wp_region_lit ?_
  refine vr tbok 1 [] [(4, .bool false)] [] E (by kernel_rfl) trivial ?_
  clear E; intro a E
  refine wpList_nil ?_
  refine th_n ?_
  refine wp_ret ?_
  refine th_ret ?_
  obtain rfl := Option.some.inj hP
  refine ret1 E rfl rfl ?_
  exact ⟨_, rfl, rfl, H.sel [] rfl⟩
 ·
  replace E := E_; clear E_
  have h36 : aWins = bWins := (by simpa using hb_)
  clear hb_; replace hP := ite_t h36 hP
  refine vr tbok 4 [.slice A1 (List.length aRanks) c2, .slice A13 (List.length bRanks) c14] [(2, .pointer (some ⟨g25, 0, none⟩)), (3, .pointer (some ⟨g30, 0, none⟩)), (11, .bool false), (13, .slice A1 (List.length aRanks) c2), (15, .slice A13 (List.length bRanks) c14)] [World.cell? w31 ⟨g25, 1, none⟩ = some (.slice A1 (List.length aRanks) c2), World.cell? w31 ⟨g30, 1, none⟩ = some (.slice A13 (List.length bRanks) c14)] E (by kernel_rfl) ⟨(H.box 6 rfl).cell (j := 1) rfl, (H.box 7 rfl).cell (j := 1) rfl⟩ ?_
  clear E; intro a E
  obtain ⟨r37, h38, hP⟩ := bind_inv hP
  obtain ⟨Fa39, Hc40, hb41⟩ := H.call [] [(0, false), (3, false)] rfl rfl trivial
  refine e_call E rfl rfl Try.func14 rfl rfl rfl (kit_SameInts_calls A1 c2 A13 c14 aRanks bRanks hk3 hk15 Hc40 h38) ?_
  rintro v42 w43 a ⟨rfl, HR44⟩ E_
  replace E := E_ _ rfl; clear E_
  obtain ⟨H_, hc45⟩ := hb41 _ _ HR44 rfl
  replace H := H_; clear H_; try dsimp only [setn, addE, goneL] at H
  refine vr tbok 3 [] [(2, .pointer (some ⟨g25, 0, none⟩)), (3, .pointer (some ⟨g30, 0, none⟩)), (19, .bool (!r37))] [] E (by kernel_rfl) trivial ?_
  clear E; intro a E
  refine E.cases (t := 19) rfl (fun hb_ E_ => ?_) (fun hb_ E_ => ?_)
  ·
   replace E := E_; clear E_
   have h46 : ¬ (r37 = true) := (ne_true_of_eq_false (not_t hb_))
   clear hb_; replace hP := ite_f h46 hP
   refine vr tbok 16 [] [(2, .pointer (some ⟨g25, 0, none⟩)), (3, .pointer (some ⟨g30, 0, none⟩)), (35, .bool true)] [] E (by kernel_rfl) trivial ?_
   clear E; intro a E
   refine wpList_nil ?_
   refine th_n ?_
   refine c_true E rfl ?_
   refine wp_seq ?_
   refine wp_region_lit ?_
   refine vr tbok 1 [] [(4, .bool false)] [] E (by kernel_rfl) trivial ?_
   clear E; intro a E
   refine wpList_nil ?_
   refine th_n ?_
   refine wp_ret ?_
   refine th_ret ?_
   obtain rfl := Option.some.inj hP
   refine ret1 E rfl rfl ?_
   exact ⟨_, rfl, rfl, H.sel [] rfl⟩
  ·
   replace E := E_; clear E_
   have h47 : r37 = true := (not_f hb_)
   clear hb_; replace hP := ite_t h47 hP
   refine vr tbok 4 [.slice A5 (List.length aChoice) c6, .slice A17 (List.length bChoice) c18] [(2, .pointer (some ⟨g25, 0, none⟩)), (3, .pointer (some ⟨g30, 0, none⟩)), (19, .bool false), (21, .slice A5 (List.length aChoice) c6), (23, .slice A17 (List.length bChoice) c18)] [World.cell? w43 ⟨g25, 2, none⟩ = some (.slice A5 (List.length aChoice) c6), World.cell? w43 ⟨g30, 2, none⟩ = some (.slice A17 (List.length bChoice) c18)] E (by kernel_rfl) ⟨(H.box 6 rfl).cell (j := 2) rfl, (H.box 7 rfl).cell (j := 2) rfl⟩ ?_
   clear E; intro a E
   obtain ⟨r48, h49, hP⟩ := bind_inv hP
   obtain ⟨Fa50, Hc51, hb52⟩ := H.call [] [(1, false), (4, false)] rfl rfl trivial
   refine e_call E rfl rfl Try.func40 rfl rfl rfl (kit_SameLetters_calls A5 c6 A17 c18 aChoice bChoice hk7 hk19 Hc51 h49) ?_
   rintro v53 w54 a ⟨rfl, HR55⟩ E_
   replace E := E_ _ rfl; clear E_
   obtain ⟨H_, hc56⟩ := hb52 _ _ HR55 rfl
   replace H := H_; clear H_; try dsimp only [setn, addE, goneL] at H
   refine vr tbok 3 [] [(2, .pointer (some ⟨g25, 0, none⟩)), (3, .pointer (some ⟨g30, 0, none⟩)), (27, .bool (!r48))] [] E (by kernel_rfl) trivial ?_
   clear E; intro a E
   refine E.cases (t := 27) rfl (fun hb_ E_ => ?_) (fun hb_ E_ => ?_)
   ·
    replace E := E_; clear E_
    have h57 : ¬ (r48 = true) := (ne_true_of_eq_false (not_t hb_))
    clear hb_; replace hP := ite_f h57 hP
    refine vr tbok 8 [] [(2, .pointer (some ⟨g25, 0, none⟩)), (3, .pointer (some ⟨g30, 0, none⟩)), (35, .bool true)] [] E (by kernel_rfl) trivial ?_
    clear E; intro a E
    refine wpList_nil ?_
    refine th_n ?_
    refine c_true E rfl ?_
    refine wp_seq ?_
    refine wp_region_lit ?_
    refine vr tbok 1 [] [(4, .bool false)] [] E (by kernel_rfl) trivial ?_
    clear E; intro a E
    refine wpList_nil ?_
    refine th_n ?_
    refine wp_ret ?_
    refine th_ret ?_
    obtain rfl := Option.some.inj hP
    refine ret1 E rfl rfl ?_
    exact ⟨_, rfl, rfl, H.sel [] rfl⟩
   ·
    replace E := E_; clear E_
    have h58 : r48 = true := (not_f hb_)
    clear hb_; replace hP := ite_t h58 hP
    refine vr tbok 8 [.slice A9 (List.length aReply) c10, .slice A21 (List.length bReply) c22] [(2, .pointer (some ⟨g25, 0, none⟩)), (3, .pointer (some ⟨g30, 0, none⟩)), (35, .bool (((((List.length aReply) : Nat) : Int) : Int) != (((List.length bReply) : Nat) : Int)))] [World.cell? w54 ⟨g25, 3, none⟩ = some (.slice A9 (List.length aReply) c10), World.cell? w54 ⟨g30, 3, none⟩ = some (.slice A21 (List.length bReply) c22)] E (by kernel_rfl) ⟨(H.box 6 rfl).cell (j := 3) rfl, (H.box 7 rfl).cell (j := 3) rfl⟩ ?_
    clear E; intro a E
    refine wpList_nil ?_
    refine th_n ?_
    refine E.cases (t := 35) rfl (fun hb_ E_ => ?_) (fun hb_ E_ => ?_)
    ·
     replace E := E_; clear E_
     have h59 : ¬ (((((List.length aReply) : Nat) : Int) : Int) = (((List.length bReply) : Nat) : Int)) := bne_iff_ne.1 hb_
     clear hb_; replace hP := ite_f h59 hP
     refine c_true E rfl ?_
     refine wp_seq ?_
     refine wp_region_lit ?_
     refine vr tbok 1 [] [(4, .bool false)] [] E (by kernel_rfl) trivial ?_
     clear E; intro a E
     refine wpList_nil ?_
     refine th_n ?_
     refine wp_ret ?_
     refine th_ret ?_
     obtain rfl := Option.some.inj hP
     refine ret1 E rfl rfl ?_
     exact ⟨_, rfl, rfl, H.sel [] rfl⟩
    ·
     replace E := E_; clear E_
     have h60 : ((((List.length aReply) : Nat) : Int) : Int) = (((List.length bReply) : Nat) : Int) := bne_eq_false_iff_eq.1 hb_
     clear hb_; replace hP := ite_t h60 hP
     refine c_false E rfl ?_
     refine wp_skip ?_
     refine th_n ?_
     refine wp_seq ?_
     refine wp_seq ?_
     refine wp_region_lit ?_
     refine vr tbok 1 [] [(2, .pointer (some ⟨g25, 0, none⟩)), (3, .pointer (some ⟨g30, 0, none⟩)), (5, .int .i64 0)] [] E (by kernel_rfl) trivial ?_
     clear E; intro a E
     refine wpList_nil ?_
     refine th_n ?_
     refine wp_block ?_
     obtain ⟨x144, hL145, hK146⟩ := bind_inv hP
     clear hP
     refine loop_cut (fun i_ a w_ => (i_ = 0 ∧ ∃ (x149 : Unit), Fr a 55 [] ∧ Hp S Fa w0 w_ [] ∧ x144 = Sum.inl x149)) ?_ ?_
     ·
      refine loopV (fun m148 a w147 => ∃ (q101 : Int), Fr a 55 [(2, .pointer (some ⟨g25, 0, none⟩)), (3, .pointer (some ⟨g30, 0, none⟩)), (5, .int .i64 q101)] ∧ Hp S Fa w0 w147 [.ro false (cInt .i64) A1 aRanks, .ro false (cInt .u8) A5 aChoice, .ro false (cSl (cInt .u8)) A9 aReply, .box g25 38 [.bool aWins, .slice A1 (List.length aRanks) c2, .slice A5 (List.length aChoice) c6, .slice A9 (List.length aReply) c10], .ro false (cInt .i64) A13 bRanks, .ro false (cInt .u8) A17 bChoice, .ro false (cSl (cInt .u8)) A21 bReply, .box g30 38 [.bool bWins, .slice A13 (List.length bRanks) c14, .slice A17 (List.length bChoice) c18, .slice A21 (List.length bReply) c22]] ∧ law26_Same_l0 N aReply bReply m148 q101 = some x144) N ?_ ?_
      ·
       exact ⟨0, E.pick _ ⟨rfl, rfl, rfl, trivial⟩, H.sel [0, 1, 2, 6, 3, 4, 5, 7] rfl, hL145⟩
      ·
       clear E H hL145; intro m148 a w147 hI_
       obtain ⟨q101, E, H, hP⟩ := hI_
       obtain ⟨m143, rfl⟩ : ∃ q_, m148 = q_ + 1 := by cases m148 with | zero => rw [law26_Same_l0] at hP; cases hP | succ q_ => exact ⟨q_, rfl⟩
       rw [law26_Same_l0] at hP
       refine wp_seq ?_
       refine wp_seq ?_
       refine wp_region_lit ?_
       refine vr tbok 5 [.slice A9 (List.length aReply) c10] [(2, .pointer (some ⟨g25, 0, none⟩)), (3, .pointer (some ⟨g30, 0, none⟩)), (5, .int .i64 q101), (40, .bool (decide (q101 < (((List.length aReply) : Nat) : Int))))] [World.cell? w147 ⟨g25, 3, none⟩ = some (.slice A9 (List.length aReply) c10)] E (by kernel_rfl) ((H.box 3 rfl).cell (j := 3) rfl) ?_
       clear E; intro a E
       refine wpList_nil ?_
       refine th_n ?_
       refine E.cases (t := 40) rfl (fun hb_ E_ => ?_) (fun hb_ E_ => ?_)
       ·
        replace E := E_; clear E_
        have h150 : q101 < (((List.length aReply) : Nat) : Int) := of_decide_eq_true hb_
        clear hb_; replace hP := ite_t h150 hP
        refine c_true E rfl ?_
        refine wp_skip ?_
        refine th_n ?_
        refine wp_seq ?_
        refine wp_block ?_
        refine wp_seq ?_
        obtain ⟨g151, hP⟩ := ask_inv hP
        obtain ⟨b152, o153, e_b152⟩ := (H.rd 2 rds_ro).addr (idx_pos g151)
        subst e_b152
        obtain ⟨A154, c155, hl156, hk157, H⟩ := H.subSl 2 false (el_ro rfl) g151
        try dsimp only [addE] at H
        obtain ⟨g159, hP⟩ := ask_inv hP
        obtain ⟨b160, o161, e_b160⟩ := (H.rd 6 rds_ro).addr (idx_pos g159)
        subst e_b160
        obtain ⟨A162, c163, hl164, hk165, H⟩ := H.subSl 6 false (el_ro rfl) g159
        try dsimp only [addE] at H
        obtain ⟨r167, h168, hP⟩ := bind_inv hP
        have HR179 := H
        refine dr_start (S := fun w_ => Chg (atL []) w147 w_) (by kernel_rfl) ?_
        intro w176 hc177
        have HS178 : Chg (atL []) w147 w176 := hc177.mono (fun _ _ h_ => h_.elim)
        replace H := H.ext hc177
        refine dr tbok (by kernel_rfl) [0, 1, 2, 3, 4, 5, 6, 7, 8, 9] [.slice (some ⟨b152, o153, none⟩) (List.length aReply) c10, .slice A154 (List.length (List.getD aReply (Int.toNat q101) [])) c155, .slice (some ⟨b160, o161, none⟩) (List.length bReply) c22, .slice A162 (List.length (List.getD bReply (Int.toNat q101) [])) c163] [(2, .pointer (some ⟨g25, 0, none⟩)), (3, .pointer (some ⟨g30, 0, none⟩)), (5, .int .i64 q101), (47, .slice A154 (List.length (List.getD aReply (Int.toNat q101) [])) c155), (52, .slice A162 (List.length (List.getD bReply (Int.toNat q101) [])) c163)] (fun w_ => [World.cell? w_ ⟨g25, 3, none⟩ = some (.slice (some ⟨b152, o153, none⟩) (List.length aReply) c10), 0 ≤ q101 ∧ q101 < (((List.length aReply) : Nat) : Int), World.cell? w_ ⟨b152, o153 + (Int.toNat q101) * 1, none⟩ = some (.slice A154 (List.length (List.getD aReply (Int.toNat q101) [])) c155), World.cell? w_ ⟨g30, 3, none⟩ = some (.slice (some ⟨b160, o161, none⟩) (List.length bReply) c22), 0 ≤ q101 ∧ q101 < (((List.length bReply) : Nat) : Int), World.cell? w_ ⟨b160, o161 + (Int.toNat q101) * 1, none⟩ = some (.slice A162 (List.length (List.getD bReply (Int.toNat q101) [])) c163)]) 2 E (fun _ _ => by kernel_rfl) (fun w_ hS_ => ⟨(HR179.boxk [] hS_ 3 rfl rfl).cell (j := 3) rfl, g151, hS_.cell (hl156) (HR179.blk [] 2 rds_ro (idx_pos g151) rfl), (HR179.boxk [] hS_ 7 rfl rfl).cell (j := 3) rfl, g159, hS_.cell (hl164) (HR179.blk [] 6 rds_ro (idx_pos g159) rfl)⟩) (by kernel_rfl) HS178 ?_
        clear E; intro a E
        refine wpAnyH_all (rs := [10]) (by kernel_rfl) (by simp) ?_
        refine all1 ?_
        ·
         refine wpOp_of_list rfl ?_
         obtain ⟨Fa180, Hc181, hb182⟩ := H.call [] [(8, false), (9, false)] rfl rfl trivial
         refine e_call E rfl rfl Try.func40 rfl rfl rfl (kit_SameLetters_calls A154 c155 A162 c163 (List.getD aReply (Int.toNat q101) []) (List.getD bReply (Int.toNat q101) []) hk157 hk165 Hc181 h168) ?_
         rintro v183 w184 a ⟨rfl, HR185⟩ E_
         replace E := E_ _ rfl; clear E_
         obtain ⟨H_, hc186⟩ := hb182 _ _ HR185 rfl
         replace HS178 := HS178.ext (callS_ext hc186)
         replace H := H_; clear H_; try dsimp only [setn, addE, goneL] at H
         refine wpList_nil ?_
         refine th_n ⟨HS178, ?_⟩
         refine dr tbok (by kernel_rfl) [11] [] [(2, .pointer (some ⟨g25, 0, none⟩)), (3, .pointer (some ⟨g30, 0, none⟩)), (5, .int .i64 q101), (54, .bool (!r167))] (fun w_ => []) 0 E (fun _ _ => by kernel_rfl) (fun w_ hS_ => trivial) (by kernel_rfl) HS178 ?_
         clear E; intro a E
         refine dr_done (by kernel_rfl) ?_
         clear HS178 HR179
         refine th_n ?_
         refine E.cases (t := 54) rfl (fun hb_ E_ => ?_) (fun hb_ E_ => ?_)
         ·
          replace E := E_; clear E_
          have h187 : ¬ (r167 = true) := (ne_true_of_eq_false (not_t hb_))
          clear hb_; replace hP := ite_f h187 hP
          refine c_true E rfl ?_
          refine wp_seq ?_
          refine wp_region_lit ?_
          refine vr tbok 1 [] [(4, .bool false)] [] E (by kernel_rfl) trivial ?_
          clear E; intro a E
          refine wpList_nil ?_
          refine th_n ?_
          refine wp_ret ?_
          refine bl_ret ?_
          refine th_ret ?_
          refine th_ret ?_
          refine .inr ⟨rfl, ?_⟩
          refine bl_ret ?_
          refine th_ret ?_
          have hx_ := Option.some.inj hP; subst hx_
          have hP : some (false) = some r := hK146
          obtain rfl := Option.some.inj hP
          refine ret1 E rfl rfl ?_
          exact ⟨_, rfl, rfl, H.sel [] rfl⟩
         ·
          replace E := E_; clear E_
          have h188 : r167 = true := (not_f hb_)
          clear hb_; replace hP := ite_t h188 hP
          refine c_false E rfl ?_
          refine wp_skip ?_
          refine bl_n ?_
          refine th_n ?_
          refine wp_region_lit ?_
          obtain ⟨g189, hP⟩ := ask_inv hP
          refine vr tbok 3 [.int .i64 (q101 + 1)] [(2, .pointer (some ⟨g25, 0, none⟩)), (3, .pointer (some ⟨g30, 0, none⟩)), (5, .int .i64 (q101 + 1))] [IntKind.i64.wrap (q101 + 1) = q101 + 1] E (by kernel_rfl) (wrap_in g189) ?_
          clear E; intro a E
          refine wpList_nil ?_
          exact th_n ⟨m143, Nat.lt_succ_self _, q101 + 1, E.pick _ ⟨rfl, rfl, rfl, trivial⟩, H.sel [0, 1, 2, 3, 4, 5, 6, 7] rfl, hP⟩
       ·
        replace E := E_; clear E_
        have h190 : ¬ (q101 < (((List.length aReply) : Nat) : Int)) := of_decide_eq_false hb_
        clear hb_; replace hP := ite_f h190 hP
        refine c_false E rfl ?_
        refine wp_exit ?_
        refine th_exit ?_
        have hx_ := Option.some.inj hP
        refine th_exit (.inl ⟨0, rfl, ?_⟩)
        exact ⟨rfl, (), E.pick _ trivial, H.sel [] rfl, hx_.symm⟩
     ·
      clear E H hL145; intro i_ a w147 hM_
      obtain ⟨rfl, x149, E, H, hx_⟩ := hM_
      subst hx_; have hP := elim_l hK146
      clear hK146
      refine bl_hit ?_
      refine th_n ?_
      refine wp_seq ?_
      refine wp_region_lit ?_
      refine vr tbok 1 [] [(4, .bool true)] [] E (by kernel_rfl) trivial ?_
      clear E; intro a E
      refine wpList_nil ?_
      refine th_n ?_
      refine wp_ret ?_
      obtain rfl := Option.some.inj hP
      refine ret1 E rfl rfl ?_
      exact ⟨_, rfl, rfl, H.sel [] rfl⟩

/-! rejoinder/rejoinderlaw26.MooreKnown -/
def law26_MooreKnown (N : Nat) : Option Bool :=
  Option.bind (moore_Of N 2 ([false, false, true] : List Bool) ([2, -2, -3] : List Int) ([(⟨1, -2, -3⟩ : Nd), (⟨1, -1, -3⟩ : Nd), (⟨0, 0, 1⟩ : Nd)] : List Nd) (1, 2)) fun r37 =>
  Option.bind (moore_Of N 2 ([false, false, true] : List Bool) ([2, -2, -3] : List Int) ([(⟨1, -2, -3⟩ : Nd), (⟨1, -1, -3⟩ : Nd), (⟨0, 0, 1⟩ : Nd)] : List Nd) (2, 1)) fun r62 =>
  Option.bind (moore_Play N 2 ([false, false, true] : List Bool) ([2, -2, -3] : List Int) ([(⟨1, -2, -3⟩ : Nd), (⟨1, -1, -3⟩ : Nd), (⟨0, 0, 1⟩ : Nd)] : List Nd) (1, 2) r37.1.1 r37.1.2.1 r37.1.2.2.1 r37.1.2.2.2 ([0] : List Int)) fun r92 =>
  Option.bind (moore_Play N 2 ([false, false, true] : List Bool) ([2, -2, -3] : List Int) ([(⟨1, -2, -3⟩ : Nd), (⟨1, -1, -3⟩ : Nd), (⟨0, 0, 1⟩ : Nd)] : List Nd) (1, 2) r37.1.1 r37.1.2.1 r37.1.2.2.1 r37.1.2.2.2 ([2] : List Int)) fun r109 =>
  Option.bind (moore_Play N 2 ([false, false, true] : List Bool) ([2, -2, -3] : List Int) ([(⟨1, -2, -3⟩ : Nd), (⟨1, -1, -3⟩ : Nd), (⟨0, 0, 1⟩ : Nd)] : List Nd) (1, 2) r62.1.1 r62.1.2.1 r62.1.2.2.1 r62.1.2.2.2 []) fun r122 =>
  Option.bind (moore_Ranks N 2 ([false, false, true] : List Bool) ([2, -2, -3] : List Int) ([(⟨1, -3, -2⟩ : Nd), (⟨1, -2, -3⟩ : Nd), (⟨0, 0, 1⟩ : Nd)] : List Nd) (1, 2)) fun r161 =>
  if (r37.2 : Int) = 0 then
    if (r62.2 : Int) = 0 then
      Option.bind (law26_Same N r37.1.1 r37.1.2.1 r37.1.2.2.1 r37.1.2.2.2 true ([1, -1, 0] : List Int) ([2, 0, 0] : List Int) ([[], [0, 0], []] : List (List Int))) fun r220 =>
      if r220 = true then
        Option.bind (law26_Same N r62.1.1 r62.1.2.1 r62.1.2.2.1 r62.1.2.2.2 false ([-1, -1, 0] : List Int) ([0, 0, 0] : List Int) ([([0, 0] : List Int), ([0, 0] : List Int), []] : List (List Int))) fun r230 =>
        if r230 = true then
          if (r92.2 : Int) = 0 then
            Option.bind (kit_SameInts N r92.1 ([0, 2] : List Int)) fun r246 =>
            if r246 = true then
              if (r109.2 : Int) = 14 then
                if (r122.2 : Int) = 360 then
                  if (r161.2 : Int) = 0 then
                    Option.bind (kit_SameInts N r161.1 ([-1, -1, 0] : List Int)) fun r264 =>
                    some r264
                  else
                    some false
                else
                  some false
              else
                some false
            else
              some false
          else
            some false
        else
          some false
      else
        some false
    else
      some false
  else
    some false
set_option maxRecDepth 100000 in
set_option maxHeartbeats 4000000 in
theorem law26_MooreKnown_calls {N : Nat} {S Fa : Nat → Prop} {w0 : World} {r : Bool} (H : Hp S Fa w0 w0 []) (hP : law26_MooreKnown N  = some r) :
    Calls Try.prog 6 #[] w0 fun e w' => ∃ v, e = .returned v ∧ v = .bool r ∧ Hp S Fa w0 w' [] := by
 refine enterV (n := 131) Try.func6 rfl rfl rfl ?_
 intro a E
 replace E := E.pick [] trivial
 rw [law26_MooreKnown] at hP
 refine wp_seq ?_
 refine wp_region_lit ?_
 refine vr tbok 1 [] [] [] E (by kernel_rfl) trivial ?_
 clear E; intro a E
 refine wpList_nil ?_
 refine th_n ?_
 refine wp_seq ?_
 refine wp_region_lit ?_
 refine h_buildSlice (ps := [(0, .bool false), (1, .bool false), (2, .bool true)]) (cs := [.bool false, .bool false, .bool true]) H E rfl rfl tbok rfl rfl (by kernel_rfl) ?_
 intro w2 g1 a hc3 hg5 H_ E_
 replace E := E_ _ rfl; clear E_
 replace H := H_; clear H_; try dsimp only [setn, addE, goneL] at H
 refine h_buildSlice (ps := [(0, .int .i64 2), (1, .int .i64 (-2)), (2, .int .i64 (-3))]) (cs := [.int .i64 2, .int .i64 (-2), .int .i64 (-3)]) H E rfl rfl tbok rfl rfl (by kernel_rfl) ?_
 intro w7 g6 a hc8 hg10 H_ E_
 replace E := E_ _ rfl; clear E_
 replace H := H_; clear H_; try dsimp only [setn, addE, goneL] at H
 refine e_build (ps := [(0, .int .i64 1), (1, .int .i64 (-2)), (2, .int .i64 (-3))]) (v := .agg #[.int .i64 1, .int .i64 (-2), .int .i64 (-3)]) E rfl rfl tbok rfl (by kernel_rfl) rfl ?_
 clear E; intro a E
 refine e_build (ps := [(0, .int .i64 1), (1, .int .i64 (-1)), (2, .int .i64 (-3))]) (v := .agg #[.int .i64 1, .int .i64 (-1), .int .i64 (-3)]) E rfl rfl tbok rfl (by kernel_rfl) rfl ?_
 clear E; intro a E
 refine e_build (ps := [(0, .int .i64 0), (1, .int .i64 0), (2, .int .i64 1)]) (v := .agg #[.int .i64 0, .int .i64 0, .int .i64 1]) E rfl rfl tbok rfl (by kernel_rfl) rfl ?_
 clear E; intro a E
 refine h_buildSlice (ps := [(0, .agg #[.int .i64 1, .int .i64 (-2), .int .i64 (-3)]), (1, .agg #[.int .i64 1, .int .i64 (-1), .int .i64 (-3)]), (2, .agg #[.int .i64 0, .int .i64 0, .int .i64 1])]) (cs := [.int .i64 1, .int .i64 (-2), .int .i64 (-3), .int .i64 1, .int .i64 (-1), .int .i64 (-3), .int .i64 0, .int .i64 0, .int .i64 1]) H E rfl rfl tbok rfl rfl (by kernel_rfl) ?_
 intro w12 g11 a hc13 hg15 H_ E_
 replace E := E_ _ rfl; clear E_
 replace H := H_; clear H_; try dsimp only [setn, addE, goneL] at H
 refine e_build (ps := [(0, .int .i64 2), (1, .slice (some ⟨g1, 0, none⟩) 3 3), (2, .slice (some ⟨g6, 0, none⟩) 3 3), (3, .slice (some ⟨g11, 0, none⟩) 3 3)]) (v := .agg #[.int .i64 2, .slice (some ⟨g1, 0, none⟩) 3 3, .slice (some ⟨g6, 0, none⟩) 3 3, .slice (some ⟨g11, 0, none⟩) 3 3]) E rfl rfl tbok rfl (by kernel_rfl) rfl ?_
 clear E; intro a E
 refine h_alloc H E rfl rfl tbok rfl ?_
 intro w17 g16 a hc18 hg20 H_ E_
 replace E := E_ _ rfl; clear E_
 replace H := H_; clear H_; try dsimp only [setn, addE, goneL] at H
 refine h_store (g := g16) (off := 0) H 3 rfl E rfl rfl rfl rfl tbok rfl rfl rfl rfl rfl ?_
 clear E; intro w21 a hc22 H_ E
 replace H := H_; clear H_; try dsimp only [setn, addE, goneL] at H
 refine wpList_nil ?_
 refine th_n ?_
 refine wp_seq ?_
 refine wp_region_lit ?_
 refine e_build (ps := [(0, .int .u8 1), (1, .int .u8 2)]) (v := .agg #[.int .u8 1, .int .u8 2]) E rfl rfl tbok rfl (by kernel_rfl) rfl ?_
 clear E; intro a E
 refine e_build (ps := [(0, .int .u8 2), (1, .int .u8 1)]) (v := .agg #[.int .u8 2, .int .u8 1]) E rfl rfl tbok rfl (by kernel_rfl) rfl ?_
 clear E; intro a E
 refine h_alloc H E rfl rfl tbok rfl ?_
 intro w24 g23 a hc25 hg27 H_ E_
 replace E := E_ _ rfl; clear E_
 replace H := H_; clear H_; try dsimp only [setn, addE, goneL] at H
 refine h_alloc H E rfl rfl tbok rfl ?_
 intro w29 g28 a hc30 hg32 H_ E_
 replace E := E_ _ rfl; clear E_
 replace H := H_; clear H_; try dsimp only [setn, addE, goneL] at H
 refine h_store (g := g23) (off := 0) H 4 rfl E rfl rfl rfl rfl tbok rfl rfl rfl rfl rfl ?_
 clear E; intro w33 a hc34 H_ E
 replace H := H_; clear H_; try dsimp only [setn, addE, goneL] at H
 refine h_store (g := g28) (off := 0) H 5 rfl E rfl rfl rfl rfl tbok rfl rfl rfl rfl rfl ?_
 clear E; intro w35 a hc36 H_ E
 replace H := H_; clear H_; try dsimp only [setn, addE, goneL] at H
 refine wpList_nil ?_
 refine th_n ?_
 refine wp_seq ?_
 refine wp_region_lit ?_
 refine vr tbok 2 [.agg #[.int .i64 2, .slice (some ⟨g1, 0, none⟩) 3 3, .slice (some ⟨g6, 0, none⟩) 3 3, .slice (some ⟨g11, 0, none⟩) 3 3], .agg #[.int .u8 1, .int .u8 2]] [(1, .pointer (some ⟨g16, 0, none⟩)), (2, .pointer (some ⟨g23, 0, none⟩)), (3, .pointer (some ⟨g28, 0, none⟩)), (30, .agg #[.int .i64 2, .slice (some ⟨g1, 0, none⟩) 3 3, .slice (some ⟨g6, 0, none⟩) 3 3, .slice (some ⟨g11, 0, none⟩) 3 3]), (31, .agg #[.int .u8 1, .int .u8 2])] [cellsAt w35 g16 (0) [.int .i64 2, .slice (some ⟨g1, 0, none⟩) 3 3, .slice (some ⟨g6, 0, none⟩) 3 3, .slice (some ⟨g11, 0, none⟩) 3 3], cellsAt w35 g23 (0) [.int .u8 1, .int .u8 2]] E (by kernel_rfl) ⟨(H.box 3 rfl).sub 0 _ rfl, (H.box 4 rfl).sub 0 _ rfl⟩ ?_
 clear E; intro a E
 replace H := H.boxRow cBool true ([false, false, true] : List Bool) 0 rfl (fun _ _ => ⟨_, _, rfl, rfl, ⟨_, _, rfl, rfl, ⟨_, _, rfl, rfl, rfl⟩⟩⟩) (Nat.le_of_ble_eq_true rfl); try dsimp only [setn, addE, goneL] at H
 replace H := H.boxRow (cInt .i64) true ([2, -2, -3] : List Int) 1 rfl (fun _ _ => ⟨_, _, rfl, rfl, ⟨_, _, rfl, rfl, ⟨_, _, rfl, rfl, rfl⟩⟩⟩) (Nat.le_of_ble_eq_true rfl); try dsimp only [setn, addE, goneL] at H
 replace H := H.boxRow cNode true ([(⟨1, -2, -3⟩ : Nd), (⟨1, -1, -3⟩ : Nd), (⟨0, 0, 1⟩ : Nd)] : List Nd) 2 rfl (fun _ _ => ⟨_, _, rfl, rfl, ⟨_, _, rfl, rfl, ⟨_, _, rfl, rfl, rfl⟩⟩⟩) (Nat.le_of_ble_eq_true rfl); try dsimp only [setn, addE, goneL] at H
 obtain ⟨r37, h38, hP⟩ := bind_inv hP
 obtain ⟨Fa39, Hc40, hb41⟩ := H.call [] [(0, false), (1, false), (2, false)] rfl rfl trivial
 refine e_call E rfl rfl Try.func12 rfl rfl rfl (moore_Of_calls (some ⟨g1, 0, none⟩) 3 (some ⟨g6, 0, none⟩) 3 (some ⟨g11, 0, none⟩) 3 2 ([false, false, true] : List Bool) ([2, -2, -3] : List Int) ([(⟨1, -2, -3⟩ : Nd), (⟨1, -1, -3⟩ : Nd), (⟨0, 0, 1⟩ : Nd)] : List Nd) (1, 2) (H.rcapx 0 rfl) (H.rcapx 1 rfl) (H.rcapx 2 rfl) Hc40 h38) ?_
 rintro v42 w43 a ⟨A46, c47, A49, c50, A52, c53, rfl, HR44⟩ E_
 replace E := E_ _ rfl; clear E_
 obtain ⟨H_, hc45⟩ := hb41 _ _ HR44 rfl
 replace H := H_; clear H_; try dsimp only [setn, addE, goneL] at H
 refine vr tbok 3 [] [(1, .pointer (some ⟨g16, 0, none⟩)), (2, .pointer (some ⟨g23, 0, none⟩)), (3, .pointer (some ⟨g28, 0, none⟩)), (33, .agg #[.bool r37.1.1, .slice A46 (List.length r37.1.2.1) c47, .slice A49 (List.length r37.1.2.2.1) c50, .slice A52 (List.length r37.1.2.2.2) c53]), (34, .int .i64 r37.2)] [] E (by kernel_rfl) trivial ?_
 clear E; intro a E
 refine h_alloc H E rfl rfl tbok rfl ?_
 intro w56 g55 a hc57 hg59 H_ E_
 replace E := E_ _ rfl; clear E_
 replace H := H_; clear H_; try dsimp only [setn, addE, goneL] at H
 refine h_store (g := g55) (off := 0) H 9 rfl E rfl rfl rfl rfl tbok rfl rfl rfl rfl rfl ?_
 clear E; intro w60 a hc61 H_ E
 replace H := H_; clear H_; try dsimp only [setn, addE, goneL] at H
 refine vr tbok 1 [] [(1, .pointer (some ⟨g16, 0, none⟩)), (2, .pointer (some ⟨g23, 0, none⟩)), (3, .pointer (some ⟨g28, 0, none⟩)), (4, .pointer (some ⟨g55, 0, none⟩)), (5, .int .i64 r37.2)] [] E (by kernel_rfl) trivial ?_
 clear E; intro a E
 refine wpList_nil ?_
 refine th_n ?_
 refine wp_seq ?_
 refine wp_region_lit ?_
 refine vr tbok 2 [.agg #[.int .i64 2, .slice (some ⟨g1, 0, none⟩) 3 3, .slice (some ⟨g6, 0, none⟩) 3 3, .slice (some ⟨g11, 0, none⟩) 3 3], .agg #[.int .u8 2, .int .u8 1]] [(1, .pointer (some ⟨g16, 0, none⟩)), (2, .pointer (some ⟨g23, 0, none⟩)), (4, .pointer (some ⟨g55, 0, none⟩)), (5, .int .i64 r37.2), (36, .agg #[.int .i64 2, .slice (some ⟨g1, 0, none⟩) 3 3, .slice (some ⟨g6, 0, none⟩) 3 3, .slice (some ⟨g11, 0, none⟩) 3 3]), (37, .agg #[.int .u8 2, .int .u8 1])] [cellsAt w60 g16 (0) [.int .i64 2, .slice (some ⟨g1, 0, none⟩) 3 3, .slice (some ⟨g6, 0, none⟩) 3 3, .slice (some ⟨g11, 0, none⟩) 3 3], cellsAt w60 g28 (0) [.int .u8 2, .int .u8 1]] E (by kernel_rfl) ⟨(H.box 3 rfl).sub 0 _ rfl, (H.box 5 rfl).sub 0 _ rfl⟩ ?_
 clear E; intro a E
 obtain ⟨r62, h63, hP⟩ := bind_inv hP
 obtain ⟨Fa64, Hc65, hb66⟩ := H.call [] [(0, false), (1, false), (2, false)] rfl rfl trivial
 refine e_call E rfl rfl Try.func12 rfl rfl rfl (moore_Of_calls (some ⟨g1, 0, none⟩) 3 (some ⟨g6, 0, none⟩) 3 (some ⟨g11, 0, none⟩) 3 2 ([false, false, true] : List Bool) ([2, -2, -3] : List Int) ([(⟨1, -2, -3⟩ : Nd), (⟨1, -1, -3⟩ : Nd), (⟨0, 0, 1⟩ : Nd)] : List Nd) (2, 1) (H.rcapx 0 rfl) (H.rcapx 1 rfl) (H.rcapx 2 rfl) Hc65 h63) ?_
 rintro v67 w68 a ⟨A71, c72, A74, c75, A77, c78, rfl, HR69⟩ E_
 replace E := E_ _ rfl; clear E_
 obtain ⟨H_, hc70⟩ := hb66 _ _ HR69 rfl
 replace H := H_; clear H_; try dsimp only [setn, addE, goneL] at H
 refine vr tbok 3 [] [(1, .pointer (some ⟨g16, 0, none⟩)), (2, .pointer (some ⟨g23, 0, none⟩)), (4, .pointer (some ⟨g55, 0, none⟩)), (5, .int .i64 r37.2), (39, .agg #[.bool r62.1.1, .slice A71 (List.length r62.1.2.1) c72, .slice A74 (List.length r62.1.2.2.1) c75, .slice A77 (List.length r62.1.2.2.2) c78]), (40, .int .i64 r62.2)] [] E (by kernel_rfl) trivial ?_
 clear E; intro a E
 refine h_alloc H E rfl rfl tbok rfl ?_
 intro w81 g80 a hc82 hg84 H_ E_
 replace E := E_ _ rfl; clear E_
 replace H := H_; clear H_; try dsimp only [setn, addE, goneL] at H
 refine h_store (g := g80) (off := 0) H 13 rfl E rfl rfl rfl rfl tbok rfl rfl rfl rfl rfl ?_
 clear E; intro w85 a hc86 H_ E
 replace H := H_; clear H_; try dsimp only [setn, addE, goneL] at H
 refine vr tbok 1 [] [(1, .pointer (some ⟨g16, 0, none⟩)), (2, .pointer (some ⟨g23, 0, none⟩)), (4, .pointer (some ⟨g55, 0, none⟩)), (5, .int .i64 r37.2), (6, .pointer (some ⟨g80, 0, none⟩)), (7, .int .i64 r62.2)] [] E (by kernel_rfl) trivial ?_
 clear E; intro a E
 refine wpList_nil ?_
 refine th_n ?_
 refine wp_seq ?_
 refine wp_region_lit ?_
 refine vr tbok 3 [.agg #[.int .i64 2, .slice (some ⟨g1, 0, none⟩) 3 3, .slice (some ⟨g6, 0, none⟩) 3 3, .slice (some ⟨g11, 0, none⟩) 3 3], .agg #[.int .u8 1, .int .u8 2], .agg #[.bool r37.1.1, .slice A46 (List.length r37.1.2.1) c47, .slice A49 (List.length r37.1.2.2.1) c50, .slice A52 (List.length r37.1.2.2.2) c53]] [(1, .pointer (some ⟨g16, 0, none⟩)), (2, .pointer (some ⟨g23, 0, none⟩)), (4, .pointer (some ⟨g55, 0, none⟩)), (5, .int .i64 r37.2), (6, .pointer (some ⟨g80, 0, none⟩)), (7, .int .i64 r62.2), (42, .agg #[.int .i64 2, .slice (some ⟨g1, 0, none⟩) 3 3, .slice (some ⟨g6, 0, none⟩) 3 3, .slice (some ⟨g11, 0, none⟩) 3 3]), (43, .agg #[.int .u8 1, .int .u8 2]), (44, .agg #[.bool r37.1.1, .slice A46 (List.length r37.1.2.1) c47, .slice A49 (List.length r37.1.2.2.1) c50, .slice A52 (List.length r37.1.2.2.2) c53])] [cellsAt w85 g16 (0) [.int .i64 2, .slice (some ⟨g1, 0, none⟩) 3 3, .slice (some ⟨g6, 0, none⟩) 3 3, .slice (some ⟨g11, 0, none⟩) 3 3], cellsAt w85 g23 (0) [.int .u8 1, .int .u8 2], cellsAt w85 g55 (0) [.bool r37.1.1, .slice A46 (List.length r37.1.2.1) c47, .slice A49 (List.length r37.1.2.2.1) c50, .slice A52 (List.length r37.1.2.2.2) c53]] E (by kernel_rfl) ⟨(H.box 3 rfl).sub 0 _ rfl, (H.box 4 rfl).sub 0 _ rfl, (H.box 9 rfl).sub 0 _ rfl⟩ ?_
 clear E; intro a E
 refine h_buildSlice (ps := [(0, .int .u8 0)]) (cs := [.int .u8 0]) H E rfl rfl tbok rfl rfl (by kernel_rfl) ?_
 intro w88 g87 a hc89 hg91 H_ E_
 replace E := E_ _ rfl; clear E_
 replace H := H_; clear H_; try dsimp only [setn, addE, goneL] at H
 replace H := H.boxRow (cInt .u8) true ([0] : List Int) 14 rfl (fun _ _ => ⟨_, _, rfl, rfl, rfl⟩) (Nat.le_of_ble_eq_true rfl); try dsimp only [setn, addE, goneL] at H
 obtain ⟨r92, h93, hP⟩ := bind_inv hP
 obtain ⟨Fa94, Hc95, hb96⟩ := H.call [] [(0, false), (1, false), (2, false), (6, false), (7, false), (8, false), (14, false)] rfl rfl trivial
 refine e_call E rfl rfl Try.func23 rfl rfl rfl (moore_Play_calls (some ⟨g1, 0, none⟩) 3 (some ⟨g6, 0, none⟩) 3 (some ⟨g11, 0, none⟩) 3 A46 c47 A49 c50 A52 c53 (some ⟨g87, 0, none⟩) 1 2 ([false, false, true] : List Bool) ([2, -2, -3] : List Int) ([(⟨1, -2, -3⟩ : Nd), (⟨1, -1, -3⟩ : Nd), (⟨0, 0, 1⟩ : Nd)] : List Nd) (1, 2) r37.1.1 r37.1.2.1 r37.1.2.2.1 r37.1.2.2.2 ([0] : List Int) (H.rcapx 0 rfl) (H.rcapx 1 rfl) (H.rcapx 2 rfl) (H.rcap 6 rfl) (H.rcap 7 rfl) (H.rcap 8 rfl) (H.rcapx 14 rfl) Hc95 h93) ?_
 rintro v97 w98 a ⟨A101, c102, rfl, HR99⟩ E_
 replace E := E_ _ rfl; clear E_
 obtain ⟨H_, hc100⟩ := hb96 _ _ HR99 rfl
 replace H := H_; clear H_; try dsimp only [setn, addE, goneL] at H
 refine vr tbok 5 [] [(1, .pointer (some ⟨g16, 0, none⟩)), (2, .pointer (some ⟨g23, 0, none⟩)), (4, .pointer (some ⟨g55, 0, none⟩)), (5, .int .i64 r37.2), (6, .pointer (some ⟨g80, 0, none⟩)), (7, .int .i64 r62.2), (8, .slice A101 (List.length r92.1) c102), (9, .int .i64 r92.2)] [] E (by kernel_rfl) trivial ?_
 clear E; intro a E
 refine wpList_nil ?_
 refine th_n ?_
 refine wp_seq ?_
 refine wp_region_lit ?_
 refine vr tbok 3 [.agg #[.int .i64 2, .slice (some ⟨g1, 0, none⟩) 3 3, .slice (some ⟨g6, 0, none⟩) 3 3, .slice (some ⟨g11, 0, none⟩) 3 3], .agg #[.int .u8 1, .int .u8 2], .agg #[.bool r37.1.1, .slice A46 (List.length r37.1.2.1) c47, .slice A49 (List.length r37.1.2.2.1) c50, .slice A52 (List.length r37.1.2.2.2) c53]] [(1, .pointer (some ⟨g16, 0, none⟩)), (2, .pointer (some ⟨g23, 0, none⟩)), (4, .pointer (some ⟨g55, 0, none⟩)), (5, .int .i64 r37.2), (6, .pointer (some ⟨g80, 0, none⟩)), (7, .int .i64 r62.2), (8, .slice A101 (List.length r92.1) c102), (9, .int .i64 r92.2), (50, .agg #[.int .i64 2, .slice (some ⟨g1, 0, none⟩) 3 3, .slice (some ⟨g6, 0, none⟩) 3 3, .slice (some ⟨g11, 0, none⟩) 3 3]), (51, .agg #[.int .u8 1, .int .u8 2]), (52, .agg #[.bool r37.1.1, .slice A46 (List.length r37.1.2.1) c47, .slice A49 (List.length r37.1.2.2.1) c50, .slice A52 (List.length r37.1.2.2.2) c53])] [cellsAt w98 g16 (0) [.int .i64 2, .slice (some ⟨g1, 0, none⟩) 3 3, .slice (some ⟨g6, 0, none⟩) 3 3, .slice (some ⟨g11, 0, none⟩) 3 3], cellsAt w98 g23 (0) [.int .u8 1, .int .u8 2], cellsAt w98 g55 (0) [.bool r37.1.1, .slice A46 (List.length r37.1.2.1) c47, .slice A49 (List.length r37.1.2.2.1) c50, .slice A52 (List.length r37.1.2.2.2) c53]] E (by kernel_rfl) ⟨(H.box 3 rfl).sub 0 _ rfl, (H.box 4 rfl).sub 0 _ rfl, (H.box 9 rfl).sub 0 _ rfl⟩ ?_
 clear E; intro a E
 refine h_buildSlice (ps := [(0, .int .u8 2)]) (cs := [.int .u8 2]) H E rfl rfl tbok rfl rfl (by kernel_rfl) ?_
 intro w105 g104 a hc106 hg108 H_ E_
 replace E := E_ _ rfl; clear E_
 replace H := H_; clear H_; try dsimp only [setn, addE, goneL] at H
 replace H := H.boxRow (cInt .u8) true ([2] : List Int) 16 rfl (fun _ _ => ⟨_, _, rfl, rfl, rfl⟩) (Nat.le_of_ble_eq_true rfl); try dsimp only [setn, addE, goneL] at H
 obtain ⟨r109, h110, hP⟩ := bind_inv hP
 obtain ⟨Fa111, Hc112, hb113⟩ := H.call [] [(0, false), (1, false), (2, false), (6, false), (7, false), (8, false), (16, false)] rfl rfl trivial
 refine e_call E rfl rfl Try.func23 rfl rfl rfl (moore_Play_calls (some ⟨g1, 0, none⟩) 3 (some ⟨g6, 0, none⟩) 3 (some ⟨g11, 0, none⟩) 3 A46 c47 A49 c50 A52 c53 (some ⟨g104, 0, none⟩) 1 2 ([false, false, true] : List Bool) ([2, -2, -3] : List Int) ([(⟨1, -2, -3⟩ : Nd), (⟨1, -1, -3⟩ : Nd), (⟨0, 0, 1⟩ : Nd)] : List Nd) (1, 2) r37.1.1 r37.1.2.1 r37.1.2.2.1 r37.1.2.2.2 ([2] : List Int) (H.rcapx 0 rfl) (H.rcapx 1 rfl) (H.rcapx 2 rfl) (H.rcap 6 rfl) (H.rcap 7 rfl) (H.rcap 8 rfl) (H.rcapx 16 rfl) Hc112 h110) ?_
 rintro v114 w115 a ⟨A118, c119, rfl, HR116⟩ E_
 replace E := E_ _ rfl; clear E_
 obtain ⟨H_, hc117⟩ := hb113 _ _ HR116 rfl
 replace H := H_; clear H_; try dsimp only [setn, addE, goneL] at H
 refine vr tbok 5 [] [(1, .pointer (some ⟨g16, 0, none⟩)), (2, .pointer (some ⟨g23, 0, none⟩)), (4, .pointer (some ⟨g55, 0, none⟩)), (5, .int .i64 r37.2), (6, .pointer (some ⟨g80, 0, none⟩)), (7, .int .i64 r62.2), (8, .slice A101 (List.length r92.1) c102), (9, .int .i64 r92.2), (11, .int .i64 r109.2)] [] E (by kernel_rfl) trivial ?_
 clear E; intro a E
 refine wpList_nil ?_
 refine th_n ?_
 refine wp_seq ?_
 refine wp_region_lit ?_
 refine vr tbok 3 [.agg #[.int .i64 2, .slice (some ⟨g1, 0, none⟩) 3 3, .slice (some ⟨g6, 0, none⟩) 3 3, .slice (some ⟨g11, 0, none⟩) 3 3], .agg #[.int .u8 1, .int .u8 2], .agg #[.bool r62.1.1, .slice A71 (List.length r62.1.2.1) c72, .slice A74 (List.length r62.1.2.2.1) c75, .slice A77 (List.length r62.1.2.2.2) c78]] [(2, .pointer (some ⟨g23, 0, none⟩)), (4, .pointer (some ⟨g55, 0, none⟩)), (5, .int .i64 r37.2), (6, .pointer (some ⟨g80, 0, none⟩)), (7, .int .i64 r62.2), (8, .slice A101 (List.length r92.1) c102), (9, .int .i64 r92.2), (11, .int .i64 r109.2), (58, .agg #[.int .i64 2, .slice (some ⟨g1, 0, none⟩) 3 3, .slice (some ⟨g6, 0, none⟩) 3 3, .slice (some ⟨g11, 0, none⟩) 3 3]), (59, .agg #[.int .u8 1, .int .u8 2]), (60, .agg #[.bool r62.1.1, .slice A71 (List.length r62.1.2.1) c72, .slice A74 (List.length r62.1.2.2.1) c75, .slice A77 (List.length r62.1.2.2.2) c78])] [cellsAt w115 g16 (0) [.int .i64 2, .slice (some ⟨g1, 0, none⟩) 3 3, .slice (some ⟨g6, 0, none⟩) 3 3, .slice (some ⟨g11, 0, none⟩) 3 3], cellsAt w115 g23 (0) [.int .u8 1, .int .u8 2], cellsAt w115 g80 (0) [.bool r62.1.1, .slice A71 (List.length r62.1.2.1) c72, .slice A74 (List.length r62.1.2.2.1) c75, .slice A77 (List.length r62.1.2.2.2) c78]] E (by kernel_rfl) ⟨(H.box 3 rfl).sub 0 _ rfl, (H.box 4 rfl).sub 0 _ rfl, (H.box 13 rfl).sub 0 _ rfl⟩ ?_
 clear E; intro a E
 replace H := H.nilrow (cInt .u8) 27; try dsimp only [setn, addE, goneL] at H
 obtain ⟨r122, h123, hP⟩ := bind_inv hP
 obtain ⟨Fa124, Hc125, hb126⟩ := H.call [] [(0, false), (1, false), (2, false), (10, false), (11, false), (12, false), (18, false)] rfl rfl trivial
 refine e_call E rfl rfl Try.func23 rfl rfl rfl (moore_Play_calls (some ⟨g1, 0, none⟩) 3 (some ⟨g6, 0, none⟩) 3 (some ⟨g11, 0, none⟩) 3 A71 c72 A74 c75 A77 c78 none 0 2 ([false, false, true] : List Bool) ([2, -2, -3] : List Int) ([(⟨1, -2, -3⟩ : Nd), (⟨1, -1, -3⟩ : Nd), (⟨0, 0, 1⟩ : Nd)] : List Nd) (1, 2) r62.1.1 r62.1.2.1 r62.1.2.2.1 r62.1.2.2.2 [] (H.rcapx 0 rfl) (H.rcapx 1 rfl) (H.rcapx 2 rfl) (H.rcap 10 rfl) (H.rcap 11 rfl) (H.rcap 12 rfl) (Nat.le_refl _) Hc125 h123) ?_
 rintro v127 w128 a ⟨A131, c132, rfl, HR129⟩ E_
 replace E := E_ _ rfl; clear E_
 obtain ⟨H_, hc130⟩ := hb126 _ _ HR129 rfl
 replace H := H_; clear H_; try dsimp only [setn, addE, goneL] at H
 refine vr tbok 5 [] [(2, .pointer (some ⟨g23, 0, none⟩)), (4, .pointer (some ⟨g55, 0, none⟩)), (5, .int .i64 r37.2), (6, .pointer (some ⟨g80, 0, none⟩)), (7, .int .i64 r62.2), (8, .slice A101 (List.length r92.1) c102), (9, .int .i64 r92.2), (11, .int .i64 r109.2), (13, .int .i64 r122.2)] [] E (by kernel_rfl) trivial ?_
 clear E; intro a E
 refine wpList_nil ?_
 refine th_n ?_
 refine wp_seq ?_
 refine wp_region_lit ?_
 refine h_buildSlice (ps := [(0, .int .u8 0), (1, .int .u8 0)]) (cs := [.int .u8 0, .int .u8 0]) H E rfl rfl tbok rfl rfl (by kernel_rfl) ?_
 intro w135 g134 a hc136 hg138 H_ E_
 replace E := E_ _ rfl; clear E_
 replace H := H_; clear H_; try dsimp only [setn, addE, goneL] at H
 refine vr tbok 1 [] [(2, .pointer (some ⟨g23, 0, none⟩)), (4, .pointer (some ⟨g55, 0, none⟩)), (5, .int .i64 r37.2), (6, .pointer (some ⟨g80, 0, none⟩)), (7, .int .i64 r62.2), (8, .slice A101 (List.length r92.1) c102), (9, .int .i64 r92.2), (11, .int .i64 r109.2), (13, .int .i64 r122.2), (14, .slice (some ⟨g134, 0, none⟩) 2 2)] [] E (by kernel_rfl) trivial ?_
 clear E; intro a E
 refine wpList_nil ?_
 refine th_n ?_
 refine wp_seq ?_
 refine wp_region_lit ?_
 refine h_buildSlice (ps := [(0, .bool false), (1, .bool false), (2, .bool true)]) (cs := [.bool false, .bool false, .bool true]) H E rfl rfl tbok rfl rfl (by kernel_rfl) ?_
 intro w140 g139 a hc141 hg143 H_ E_
 replace E := E_ _ rfl; clear E_
 replace H := H_; clear H_; try dsimp only [setn, addE, goneL] at H
 refine h_buildSlice (ps := [(0, .int .i64 2), (1, .int .i64 (-2)), (2, .int .i64 (-3))]) (cs := [.int .i64 2, .int .i64 (-2), .int .i64 (-3)]) H E rfl rfl tbok rfl rfl (by kernel_rfl) ?_
 intro w145 g144 a hc146 hg148 H_ E_
 replace E := E_ _ rfl; clear E_
 replace H := H_; clear H_; try dsimp only [setn, addE, goneL] at H
 refine e_build (ps := [(0, .int .i64 1), (1, .int .i64 (-3)), (2, .int .i64 (-2))]) (v := .agg #[.int .i64 1, .int .i64 (-3), .int .i64 (-2)]) E rfl rfl tbok rfl (by kernel_rfl) rfl ?_
 clear E; intro a E
 refine e_build (ps := [(0, .int .i64 1), (1, .int .i64 (-2)), (2, .int .i64 (-3))]) (v := .agg #[.int .i64 1, .int .i64 (-2), .int .i64 (-3)]) E rfl rfl tbok rfl (by kernel_rfl) rfl ?_
 clear E; intro a E
 refine e_build (ps := [(0, .int .i64 0), (1, .int .i64 0), (2, .int .i64 1)]) (v := .agg #[.int .i64 0, .int .i64 0, .int .i64 1]) E rfl rfl tbok rfl (by kernel_rfl) rfl ?_
 clear E; intro a E
 refine h_buildSlice (ps := [(0, .agg #[.int .i64 1, .int .i64 (-3), .int .i64 (-2)]), (1, .agg #[.int .i64 1, .int .i64 (-2), .int .i64 (-3)]), (2, .agg #[.int .i64 0, .int .i64 0, .int .i64 1])]) (cs := [.int .i64 1, .int .i64 (-3), .int .i64 (-2), .int .i64 1, .int .i64 (-2), .int .i64 (-3), .int .i64 0, .int .i64 0, .int .i64 1]) H E rfl rfl tbok rfl rfl (by kernel_rfl) ?_
 intro w150 g149 a hc151 hg153 H_ E_
 replace E := E_ _ rfl; clear E_
 replace H := H_; clear H_; try dsimp only [setn, addE, goneL] at H
 refine e_build (ps := [(0, .int .i64 2), (1, .slice (some ⟨g139, 0, none⟩) 3 3), (2, .slice (some ⟨g144, 0, none⟩) 3 3), (3, .slice (some ⟨g149, 0, none⟩) 3 3)]) (v := .agg #[.int .i64 2, .slice (some ⟨g139, 0, none⟩) 3 3, .slice (some ⟨g144, 0, none⟩) 3 3, .slice (some ⟨g149, 0, none⟩) 3 3]) E rfl rfl tbok rfl (by kernel_rfl) rfl ?_
 clear E; intro a E
 refine h_alloc H E rfl rfl tbok rfl ?_
 intro w155 g154 a hc156 hg158 H_ E_
 replace E := E_ _ rfl; clear E_
 replace H := H_; clear H_; try dsimp only [setn, addE, goneL] at H
 refine h_store (g := g154) (off := 0) H 24 rfl E rfl rfl rfl rfl tbok rfl rfl rfl rfl rfl ?_
 clear E; intro w159 a hc160 H_ E
 replace H := H_; clear H_; try dsimp only [setn, addE, goneL] at H
 refine wpList_nil ?_
 refine th_n ?_
 refine wp_seq ?_
 refine wp_region_lit ?_
 refine vr tbok 2 [.agg #[.int .i64 2, .slice (some ⟨g139, 0, none⟩) 3 3, .slice (some ⟨g144, 0, none⟩) 3 3, .slice (some ⟨g149, 0, none⟩) 3 3], .agg #[.int .u8 1, .int .u8 2]] [(4, .pointer (some ⟨g55, 0, none⟩)), (5, .int .i64 r37.2), (6, .pointer (some ⟨g80, 0, none⟩)), (7, .int .i64 r62.2), (8, .slice A101 (List.length r92.1) c102), (9, .int .i64 r92.2), (11, .int .i64 r109.2), (13, .int .i64 r122.2), (14, .slice (some ⟨g134, 0, none⟩) 2 2), (73, .agg #[.int .i64 2, .slice (some ⟨g139, 0, none⟩) 3 3, .slice (some ⟨g144, 0, none⟩) 3 3, .slice (some ⟨g149, 0, none⟩) 3 3]), (74, .agg #[.int .u8 1, .int .u8 2])] [cellsAt w159 g154 (0) [.int .i64 2, .slice (some ⟨g139, 0, none⟩) 3 3, .slice (some ⟨g144, 0, none⟩) 3 3, .slice (some ⟨g149, 0, none⟩) 3 3], cellsAt w159 g23 (0) [.int .u8 1, .int .u8 2]] E (by kernel_rfl) ⟨(H.box 24 rfl).sub 0 _ rfl, (H.box 4 rfl).sub 0 _ rfl⟩ ?_
 clear E; intro a E
 replace H := H.boxRow cBool true ([false, false, true] : List Bool) 21 rfl (fun _ _ => ⟨_, _, rfl, rfl, ⟨_, _, rfl, rfl, ⟨_, _, rfl, rfl, rfl⟩⟩⟩) (Nat.le_of_ble_eq_true rfl); try dsimp only [setn, addE, goneL] at H
 replace H := H.boxRow (cInt .i64) true ([2, -2, -3] : List Int) 22 rfl (fun _ _ => ⟨_, _, rfl, rfl, ⟨_, _, rfl, rfl, ⟨_, _, rfl, rfl, rfl⟩⟩⟩) (Nat.le_of_ble_eq_true rfl); try dsimp only [setn, addE, goneL] at H
 replace H := H.boxRow cNode true ([(⟨1, -3, -2⟩ : Nd), (⟨1, -2, -3⟩ : Nd), (⟨0, 0, 1⟩ : Nd)] : List Nd) 23 rfl (fun _ _ => ⟨_, _, rfl, rfl, ⟨_, _, rfl, rfl, ⟨_, _, rfl, rfl, rfl⟩⟩⟩) (Nat.le_of_ble_eq_true rfl); try dsimp only [setn, addE, goneL] at H
 obtain ⟨r161, h162, hP⟩ := bind_inv hP
 obtain ⟨Fa163, Hc164, hb165⟩ := H.call [] [(21, false), (22, false), (23, false)] rfl rfl trivial
 refine e_call E rfl rfl Try.func10 rfl rfl rfl (moore_Ranks_calls (some ⟨g139, 0, none⟩) 3 (some ⟨g144, 0, none⟩) 3 (some ⟨g149, 0, none⟩) 3 2 ([false, false, true] : List Bool) ([2, -2, -3] : List Int) ([(⟨1, -3, -2⟩ : Nd), (⟨1, -2, -3⟩ : Nd), (⟨0, 0, 1⟩ : Nd)] : List Nd) (1, 2) (H.rcapx 21 rfl) (H.rcapx 22 rfl) (H.rcapx 23 rfl) Hc164 h162) ?_
 rintro v166 w167 a ⟨A170, c171, rfl, HR168⟩ E_
 replace E := E_ _ rfl; clear E_
 obtain ⟨H_, hc169⟩ := hb165 _ _ HR168 rfl
 replace H := H_; clear H_; try dsimp only [setn, addE, goneL] at H
 refine vr tbok 5 [] [(4, .pointer (some ⟨g55, 0, none⟩)), (5, .int .i64 r37.2), (6, .pointer (some ⟨g80, 0, none⟩)), (7, .int .i64 r62.2), (8, .slice A101 (List.length r92.1) c102), (9, .int .i64 r92.2), (11, .int .i64 r109.2), (13, .int .i64 r122.2), (14, .slice (some ⟨g134, 0, none⟩) 2 2), (16, .slice A170 (List.length r161.1) c171), (17, .int .i64 r161.2)] [] E (by kernel_rfl) trivial ?_
 clear E; intro a E
 refine wpList_nil ?_
 refine th_n ?_
 refine wp_seq ?_
 refine wp_region_lit ?_
 refine h_buildSlice (ps := [(0, .int .i64 1), (1, .int .i64 (-1)), (2, .int .i64 0)]) (cs := [.int .i64 1, .int .i64 (-1), .int .i64 0]) H E rfl rfl tbok rfl rfl (by kernel_rfl) ?_
 intro w174 g173 a hc175 hg177 H_ E_
 replace E := E_ _ rfl; clear E_
 replace H := H_; clear H_; try dsimp only [setn, addE, goneL] at H
 refine h_buildSlice (ps := [(0, .int .u8 2), (1, .int .u8 0), (2, .int .u8 0)]) (cs := [.int .u8 2, .int .u8 0, .int .u8 0]) H E rfl rfl tbok rfl rfl (by kernel_rfl) ?_
 intro w179 g178 a hc180 hg182 H_ E_
 replace E := E_ _ rfl; clear E_
 replace H := H_; clear H_; try dsimp only [setn, addE, goneL] at H
 refine vr tbok 1 [] [(4, .pointer (some ⟨g55, 0, none⟩)), (5, .int .i64 r37.2), (6, .pointer (some ⟨g80, 0, none⟩)), (7, .int .i64 r62.2), (8, .slice A101 (List.length r92.1) c102), (9, .int .i64 r92.2), (11, .int .i64 r109.2), (13, .int .i64 r122.2), (14, .slice (some ⟨g134, 0, none⟩) 2 2), (16, .slice A170 (List.length r161.1) c171), (17, .int .i64 r161.2), (78, .slice (some ⟨g173, 0, none⟩) 3 3), (79, .slice (some ⟨g178, 0, none⟩) 3 3), (80, .slice (some ⟨g134, 0, none⟩) 2 2)] [] E (by kernel_rfl) trivial ?_
 clear E; intro a E
 refine h_buildSlice (ps := [(0, .slice none 0 0), (1, .slice (some ⟨g134, 0, none⟩) 2 2), (2, .slice none 0 0)]) (cs := [.slice none 0 0, .slice (some ⟨g134, 0, none⟩) 2 2, .slice none 0 0]) H E rfl rfl tbok rfl rfl (by kernel_rfl) ?_
 intro w184 g183 a hc185 hg187 H_ E_
 replace E := E_ _ rfl; clear E_
 replace H := H_; clear H_; try dsimp only [setn, addE, goneL] at H
 refine e_build (ps := [(0, .bool true), (1, .slice (some ⟨g173, 0, none⟩) 3 3), (2, .slice (some ⟨g178, 0, none⟩) 3 3), (3, .slice (some ⟨g183, 0, none⟩) 3 3)]) (v := .agg #[.bool true, .slice (some ⟨g173, 0, none⟩) 3 3, .slice (some ⟨g178, 0, none⟩) 3 3, .slice (some ⟨g183, 0, none⟩) 3 3]) E rfl rfl tbok rfl (by kernel_rfl) rfl ?_
 clear E; intro a E
 refine h_alloc H E rfl rfl tbok rfl ?_
 intro w189 g188 a hc190 hg192 H_ E_
 replace E := E_ _ rfl; clear E_
 replace H := H_; clear H_; try dsimp only [setn, addE, goneL] at H
 refine h_store (g := g188) (off := 0) H 29 rfl E rfl rfl rfl rfl tbok rfl rfl rfl rfl rfl ?_
 clear E; intro w193 a hc194 H_ E
 replace H := H_; clear H_; try dsimp only [setn, addE, goneL] at H
 refine wpList_nil ?_
 refine th_n ?_
 refine wp_seq ?_
 refine wp_region_lit ?_
 refine h_buildSlice (ps := [(0, .int .i64 (-1)), (1, .int .i64 (-1)), (2, .int .i64 0)]) (cs := [.int .i64 (-1), .int .i64 (-1), .int .i64 0]) H E rfl rfl tbok rfl rfl (by kernel_rfl) ?_
 intro w196 g195 a hc197 hg199 H_ E_
 replace E := E_ _ rfl; clear E_
 replace H := H_; clear H_; try dsimp only [setn, addE, goneL] at H
 refine h_buildSlice (ps := [(0, .int .u8 0), (1, .int .u8 0), (2, .int .u8 0)]) (cs := [.int .u8 0, .int .u8 0, .int .u8 0]) H E rfl rfl tbok rfl rfl (by kernel_rfl) ?_
 intro w201 g200 a hc202 hg204 H_ E_
 replace E := E_ _ rfl; clear E_
 replace H := H_; clear H_; try dsimp only [setn, addE, goneL] at H
 refine vr tbok 2 [] [(4, .pointer (some ⟨g55, 0, none⟩)), (5, .int .i64 r37.2), (6, .pointer (some ⟨g80, 0, none⟩)), (7, .int .i64 r62.2), (8, .slice A101 (List.length r92.1) c102), (9, .int .i64 r92.2), (11, .int .i64 r109.2), (13, .int .i64 r122.2), (16, .slice A170 (List.length r161.1) c171), (17, .int .i64 r161.2), (18, .pointer (some ⟨g188, 0, none⟩)), (83, .slice (some ⟨g195, 0, none⟩) 3 3), (84, .slice (some ⟨g200, 0, none⟩) 3 3), (85, .slice (some ⟨g134, 0, none⟩) 2 2), (86, .slice (some ⟨g134, 0, none⟩) 2 2)] [] E (by kernel_rfl) trivial ?_
 clear E; intro a E
 refine h_buildSlice (ps := [(0, .slice (some ⟨g134, 0, none⟩) 2 2), (1, .slice (some ⟨g134, 0, none⟩) 2 2), (2, .slice none 0 0)]) (cs := [.slice (some ⟨g134, 0, none⟩) 2 2, .slice (some ⟨g134, 0, none⟩) 2 2, .slice none 0 0]) H E rfl rfl tbok rfl rfl (by kernel_rfl) ?_
 intro w206 g205 a hc207 hg209 H_ E_
 replace E := E_ _ rfl; clear E_
 replace H := H_; clear H_; try dsimp only [setn, addE, goneL] at H
 refine e_build (ps := [(1, .slice (some ⟨g195, 0, none⟩) 3 3), (2, .slice (some ⟨g200, 0, none⟩) 3 3), (3, .slice (some ⟨g205, 0, none⟩) 3 3)]) (v := .agg #[.bool false, .slice (some ⟨g195, 0, none⟩) 3 3, .slice (some ⟨g200, 0, none⟩) 3 3, .slice (some ⟨g205, 0, none⟩) 3 3]) E rfl rfl tbok rfl (by kernel_rfl) rfl ?_
 clear E; intro a E
 refine h_alloc H E rfl rfl tbok rfl ?_
 intro w211 g210 a hc212 hg214 H_ E_
 replace E := E_ _ rfl; clear E_
 replace H := H_; clear H_; try dsimp only [setn, addE, goneL] at H
 refine h_store (g := g210) (off := 0) H 33 rfl E rfl rfl rfl rfl tbok rfl rfl rfl rfl rfl ?_
 clear E; intro w215 a hc216 H_ E
 replace H := H_; clear H_; try dsimp only [setn, addE, goneL] at H
 refine wpList_nil ?_
 refine th_n ?_
 refine wp_seq ?_
 refine wp_region_lit ?_
 refine vr tbok 3 [] [(4, .pointer (some ⟨g55, 0, none⟩)), (6, .pointer (some ⟨g80, 0, none⟩)), (7, .int .i64 r62.2), (8, .slice A101 (List.length r92.1) c102), (9, .int .i64 r92.2), (11, .int .i64 r109.2), (13, .int .i64 r122.2), (16, .slice A170 (List.length r161.1) c171), (17, .int .i64 r161.2), (18, .pointer (some ⟨g188, 0, none⟩)), (19, .pointer (some ⟨g210, 0, none⟩)), (91, .bool ((r37.2 : Int) == 0))] [] E (by kernel_rfl) trivial ?_
 clear E; intro a E
 refine E.cases (t := 91) rfl (fun hb_ E_ => ?_) (fun hb_ E_ => ?_)
 ·
  replace E := E_; clear E_
  have h217 : (r37.2 : Int) = 0 := eq_of_beq hb_
  clear hb_; replace hP := ite_t h217 hP
  refine vr tbok 4 [] [(4, .pointer (some ⟨g55, 0, none⟩)), (6, .pointer (some ⟨g80, 0, none⟩)), (8, .slice A101 (List.length r92.1) c102), (9, .int .i64 r92.2), (11, .int .i64 r109.2), (13, .int .i64 r122.2), (16, .slice A170 (List.length r161.1) c171), (17, .int .i64 r161.2), (18, .pointer (some ⟨g188, 0, none⟩)), (19, .pointer (some ⟨g210, 0, none⟩)), (95, .bool ((r62.2 : Int) == 0))] [] E (by kernel_rfl) trivial ?_
  clear E; intro a E
  refine E.cases (t := 95) rfl (fun hb_ E_ => ?_) (fun hb_ E_ => ?_)
  ·
   replace E := E_; clear E_
   have h218 : (r62.2 : Int) = 0 := eq_of_beq hb_
   clear hb_; replace hP := ite_t h218 hP
   refine vr tbok 2 [.agg #[.bool r37.1.1, .slice A46 (List.length r37.1.2.1) c47, .slice A49 (List.length r37.1.2.2.1) c50, .slice A52 (List.length r37.1.2.2.2) c53], .agg #[.bool true, .slice (some ⟨g173, 0, none⟩) 3 3, .slice (some ⟨g178, 0, none⟩) 3 3, .slice (some ⟨g183, 0, none⟩) 3 3]] [(6, .pointer (some ⟨g80, 0, none⟩)), (8, .slice A101 (List.length r92.1) c102), (9, .int .i64 r92.2), (11, .int .i64 r109.2), (13, .int .i64 r122.2), (16, .slice A170 (List.length r161.1) c171), (17, .int .i64 r161.2), (19, .pointer (some ⟨g210, 0, none⟩)), (95, .bool true), (96, .agg #[.bool r37.1.1, .slice A46 (List.length r37.1.2.1) c47, .slice A49 (List.length r37.1.2.2.1) c50, .slice A52 (List.length r37.1.2.2.2) c53]), (97, .agg #[.bool true, .slice (some ⟨g173, 0, none⟩) 3 3, .slice (some ⟨g178, 0, none⟩) 3 3, .slice (some ⟨g183, 0, none⟩) 3 3])] [cellsAt w215 g55 (0) [.bool r37.1.1, .slice A46 (List.length r37.1.2.1) c47, .slice A49 (List.length r37.1.2.2.1) c50, .slice A52 (List.length r37.1.2.2.2) c53], cellsAt w215 g188 (0) [.bool true, .slice (some ⟨g173, 0, none⟩) 3 3, .slice (some ⟨g178, 0, none⟩) 3 3, .slice (some ⟨g183, 0, none⟩) 3 3]] E (by kernel_rfl) ⟨(H.box 9 rfl).sub 0 _ rfl, (H.box 29 rfl).sub 0 _ rfl⟩ ?_
   clear E; intro a E
   replace H := H.boxRow (cInt .i64) true ([1, -1, 0] : List Int) 26 rfl (fun _ _ => ⟨_, _, rfl, rfl, ⟨_, _, rfl, rfl, ⟨_, _, rfl, rfl, rfl⟩⟩⟩) (Nat.le_of_ble_eq_true rfl); try dsimp only [setn, addE, goneL] at H
   replace H := H.boxRow (cInt .u8) true ([2, 0, 0] : List Int) 27 rfl (fun _ _ => ⟨_, _, rfl, rfl, ⟨_, _, rfl, rfl, ⟨_, _, rfl, rfl, rfl⟩⟩⟩) (Nat.le_of_ble_eq_true rfl); try dsimp only [setn, addE, goneL] at H
   replace H := H.boxRow (cInt .u8) true ([0, 0] : List Int) 20 rfl (fun _ _ => ⟨_, _, rfl, rfl, ⟨_, _, rfl, rfl, rfl⟩⟩) (Nat.le_of_ble_eq_true rfl); try dsimp only [setn, addE, goneL] at H
   replace H := H.rowx 20 rfl; try dsimp only [setn, addE, goneL] at H
   have hk219 := H.rcap 20 rfl
   replace H := H.frz 20 rfl; try dsimp only [setn, addE, goneL] at H
   replace H := H.boxRow (cSl (cInt .u8)) true ([[], [0, 0], []] : List (List Int)) 28 rfl (fun _ HF_ => ⟨_, _, rfl, kSl_nil, ⟨_, _, rfl, ⟨_, _, rfl, hk219, (HF_.roC 20 rfl)⟩, ⟨_, _, rfl, kSl_nil, rfl⟩⟩⟩) (Nat.le_of_ble_eq_true rfl); try dsimp only [setn, addE, goneL] at H
   obtain ⟨r220, h221, hP⟩ := bind_inv hP
   obtain ⟨Fa222, Hc223, hb224⟩ := H.call [] [(6, false), (7, false), (8, false), (26, false), (27, false), (28, false)] rfl rfl trivial
   refine e_call E rfl rfl Try.func15 rfl rfl rfl (law26_Same_calls A46 c47 A49 c50 A52 c53 (some ⟨g173, 0, none⟩) 3 (some ⟨g178, 0, none⟩) 3 (some ⟨g183, 0, none⟩) 3 r37.1.1 r37.1.2.1 r37.1.2.2.1 r37.1.2.2.2 true ([1, -1, 0] : List Int) ([2, 0, 0] : List Int) ([[], [0, 0], []] : List (List Int)) (H.rcap 6 rfl) (H.rcap 7 rfl) (H.rcap 8 rfl) (H.rcapx 26 rfl) (H.rcapx 27 rfl) (H.rcapx 28 rfl) Hc223 h221) ?_
   rintro v225 w226 a ⟨rfl, HR227⟩ E_
   replace E := E_ _ rfl; clear E_
   obtain ⟨H_, hc228⟩ := hb224 _ _ HR227 rfl
   replace H := H_; clear H_; try dsimp only [setn, addE, goneL] at H
   refine vr tbok 2 [] [(6, .pointer (some ⟨g80, 0, none⟩)), (8, .slice A101 (List.length r92.1) c102), (9, .int .i64 r92.2), (11, .int .i64 r109.2), (13, .int .i64 r122.2), (16, .slice A170 (List.length r161.1) c171), (17, .int .i64 r161.2), (19, .pointer (some ⟨g210, 0, none⟩)), (100, .bool r220)] [] E (by kernel_rfl) trivial ?_
   clear E; intro a E
   refine E.cases (t := 100) rfl (fun hb_ E_ => ?_) (fun hb_ E_ => ?_)
   ·
    replace E := E_; clear E_
    have h229 : r220 = true := hb_
    clear hb_; replace hP := ite_t h229 hP
    refine vr tbok 2 [.agg #[.bool r62.1.1, .slice A71 (List.length r62.1.2.1) c72, .slice A74 (List.length r62.1.2.2.1) c75, .slice A77 (List.length r62.1.2.2.2) c78], .agg #[.bool false, .slice (some ⟨g195, 0, none⟩) 3 3, .slice (some ⟨g200, 0, none⟩) 3 3, .slice (some ⟨g205, 0, none⟩) 3 3]] [(8, .slice A101 (List.length r92.1) c102), (9, .int .i64 r92.2), (11, .int .i64 r109.2), (13, .int .i64 r122.2), (16, .slice A170 (List.length r161.1) c171), (17, .int .i64 r161.2), (100, .bool true), (101, .agg #[.bool r62.1.1, .slice A71 (List.length r62.1.2.1) c72, .slice A74 (List.length r62.1.2.2.1) c75, .slice A77 (List.length r62.1.2.2.2) c78]), (102, .agg #[.bool false, .slice (some ⟨g195, 0, none⟩) 3 3, .slice (some ⟨g200, 0, none⟩) 3 3, .slice (some ⟨g205, 0, none⟩) 3 3])] [cellsAt w226 g80 (0) [.bool r62.1.1, .slice A71 (List.length r62.1.2.1) c72, .slice A74 (List.length r62.1.2.2.1) c75, .slice A77 (List.length r62.1.2.2.2) c78], cellsAt w226 g210 (0) [.bool false, .slice (some ⟨g195, 0, none⟩) 3 3, .slice (some ⟨g200, 0, none⟩) 3 3, .slice (some ⟨g205, 0, none⟩) 3 3]] E (by kernel_rfl) ⟨(H.box 13 rfl).sub 0 _ rfl, (H.box 33 rfl).sub 0 _ rfl⟩ ?_
    clear E; intro a E
    replace H := H.boxRow (cInt .i64) true ([-1, -1, 0] : List Int) 30 rfl (fun _ _ => ⟨_, _, rfl, rfl, ⟨_, _, rfl, rfl, ⟨_, _, rfl, rfl, rfl⟩⟩⟩) (Nat.le_of_ble_eq_true rfl); try dsimp only [setn, addE, goneL] at H
    replace H := H.boxRow (cInt .u8) true ([0, 0, 0] : List Int) 31 rfl (fun _ _ => ⟨_, _, rfl, rfl, ⟨_, _, rfl, rfl, ⟨_, _, rfl, rfl, rfl⟩⟩⟩) (Nat.le_of_ble_eq_true rfl); try dsimp only [setn, addE, goneL] at H
    replace H := H.boxRow (cSl (cInt .u8)) true ([([0, 0] : List Int), ([0, 0] : List Int), []] : List (List Int)) 32 rfl (fun _ HF_ => ⟨_, _, rfl, ⟨_, _, rfl, hk219, (HF_.roC 20 rfl)⟩, ⟨_, _, rfl, ⟨_, _, rfl, hk219, (HF_.roC 20 rfl)⟩, ⟨_, _, rfl, kSl_nil, rfl⟩⟩⟩) (Nat.le_of_ble_eq_true rfl); try dsimp only [setn, addE, goneL] at H
    obtain ⟨r230, h231, hP⟩ := bind_inv hP
    obtain ⟨Fa232, Hc233, hb234⟩ := H.call [] [(10, false), (11, false), (12, false), (30, false), (31, false), (32, false)] rfl rfl trivial
    refine e_call E rfl rfl Try.func15 rfl rfl rfl (law26_Same_calls A71 c72 A74 c75 A77 c78 (some ⟨g195, 0, none⟩) 3 (some ⟨g200, 0, none⟩) 3 (some ⟨g205, 0, none⟩) 3 r62.1.1 r62.1.2.1 r62.1.2.2.1 r62.1.2.2.2 false ([-1, -1, 0] : List Int) ([0, 0, 0] : List Int) ([([0, 0] : List Int), ([0, 0] : List Int), []] : List (List Int)) (H.rcap 10 rfl) (H.rcap 11 rfl) (H.rcap 12 rfl) (H.rcapx 30 rfl) (H.rcapx 31 rfl) (H.rcapx 32 rfl) Hc233 h231) ?_
    rintro v235 w236 a ⟨rfl, HR237⟩ E_
    replace E := E_ _ rfl; clear E_
    obtain ⟨H_, hc238⟩ := hb234 _ _ HR237 rfl
    replace H := H_; clear H_; try dsimp only [setn, addE, goneL] at H
    refine vr tbok 2 [] [(8, .slice A101 (List.length r92.1) c102), (9, .int .i64 r92.2), (11, .int .i64 r109.2), (13, .int .i64 r122.2), (16, .slice A170 (List.length r161.1) c171), (17, .int .i64 r161.2), (105, .bool r230)] [] E (by kernel_rfl) trivial ?_
    clear E; intro a E
    refine E.cases (t := 105) rfl (fun hb_ E_ => ?_) (fun hb_ E_ => ?_)
    ·
     replace E := E_; clear E_
     have h239 : r230 = true := hb_
     clear hb_; replace hP := ite_t h239 hP
     refine vr tbok 4 [] [(8, .slice A101 (List.length r92.1) c102), (11, .int .i64 r109.2), (13, .int .i64 r122.2), (16, .slice A170 (List.length r161.1) c171), (17, .int .i64 r161.2), (109, .bool ((r92.2 : Int) == 0))] [] E (by kernel_rfl) trivial ?_
     clear E; intro a E
     refine E.cases (t := 109) rfl (fun hb_ E_ => ?_) (fun hb_ E_ => ?_)
     ·
      replace E := E_; clear E_
      have h240 : (r92.2 : Int) = 0 := eq_of_beq hb_
      clear hb_; replace hP := ite_t h240 hP
      refine vr tbok 1 [] [(11, .int .i64 r109.2), (13, .int .i64 r122.2), (16, .slice A170 (List.length r161.1) c171), (17, .int .i64 r161.2), (109, .bool true), (110, .slice A101 (List.length r92.1) c102)] [] E (by kernel_rfl) trivial ?_
      clear E; intro a E
      refine h_buildSlice (ps := [(0, .int .i64 0), (1, .int .i64 2)]) (cs := [.int .i64 0, .int .i64 2]) H E rfl rfl tbok rfl rfl (by kernel_rfl) ?_
      intro w242 g241 a hc243 hg245 H_ E_
      replace E := E_ _ rfl; clear E_
      replace H := H_; clear H_; try dsimp only [setn, addE, goneL] at H
      replace H := H.boxRow (cInt .i64) true ([0, 2] : List Int) 34 rfl (fun _ _ => ⟨_, _, rfl, rfl, ⟨_, _, rfl, rfl, rfl⟩⟩) (Nat.le_of_ble_eq_true rfl); try dsimp only [setn, addE, goneL] at H
      obtain ⟨r246, h247, hP⟩ := bind_inv hP
      obtain ⟨Fa248, Hc249, hb250⟩ := H.call [] [(15, false), (34, false)] rfl rfl trivial
      refine e_call E rfl rfl Try.func14 rfl rfl rfl (kit_SameInts_calls A101 c102 (some ⟨g241, 0, none⟩) 2 r92.1 ([0, 2] : List Int) (H.rcap 15 rfl) (H.rcapx 34 rfl) Hc249 h247) ?_
      rintro v251 w252 a ⟨rfl, HR253⟩ E_
      replace E := E_ _ rfl; clear E_
      obtain ⟨H_, hc254⟩ := hb250 _ _ HR253 rfl
      replace H := H_; clear H_; try dsimp only [setn, addE, goneL] at H
      refine vr tbok 2 [] [(11, .int .i64 r109.2), (13, .int .i64 r122.2), (16, .slice A170 (List.length r161.1) c171), (17, .int .i64 r161.2), (114, .bool r246)] [] E (by kernel_rfl) trivial ?_
      clear E; intro a E
      refine E.cases (t := 114) rfl (fun hb_ E_ => ?_) (fun hb_ E_ => ?_)
      ·
       replace E := E_; clear E_
       have h255 : r246 = true := hb_
       clear hb_; replace hP := ite_t h255 hP
       refine vr tbok 4 [] [(13, .int .i64 r122.2), (16, .slice A170 (List.length r161.1) c171), (17, .int .i64 r161.2), (118, .bool ((r109.2 : Int) == 14))] [] E (by kernel_rfl) trivial ?_
       clear E; intro a E
       refine E.cases (t := 118) rfl (fun hb_ E_ => ?_) (fun hb_ E_ => ?_)
       ·
        replace E := E_; clear E_
        have h256 : (r109.2 : Int) = 14 := eq_of_beq hb_
        clear hb_; replace hP := ite_t h256 hP
        refine vr tbok 4 [] [(16, .slice A170 (List.length r161.1) c171), (17, .int .i64 r161.2), (122, .bool ((r122.2 : Int) == 360))] [] E (by kernel_rfl) trivial ?_
        clear E; intro a E
        refine E.cases (t := 122) rfl (fun hb_ E_ => ?_) (fun hb_ E_ => ?_)
        ·
         replace E := E_; clear E_
         have h257 : (r122.2 : Int) = 360 := eq_of_beq hb_
         clear hb_; replace hP := ite_t h257 hP
         refine vr tbok 4 [] [(16, .slice A170 (List.length r161.1) c171), (126, .bool ((r161.2 : Int) == 0))] [] E (by kernel_rfl) trivial ?_
         clear E; intro a E
         refine E.cases (t := 126) rfl (fun hb_ E_ => ?_) (fun hb_ E_ => ?_)
         ·
          replace E := E_; clear E_
          have h258 : (r161.2 : Int) = 0 := eq_of_beq hb_
          clear hb_; replace hP := ite_t h258 hP
          refine vr tbok 1 [] [(126, .bool true), (127, .slice A170 (List.length r161.1) c171)] [] E (by kernel_rfl) trivial ?_
          clear E; intro a E
          refine h_buildSlice (ps := [(0, .int .i64 (-1)), (1, .int .i64 (-1)), (2, .int .i64 0)]) (cs := [.int .i64 (-1), .int .i64 (-1), .int .i64 0]) H E rfl rfl tbok rfl rfl (by kernel_rfl) ?_
          intro w260 g259 a hc261 hg263 H_ E_
          replace E := E_ _ rfl; clear E_
          replace H := H_; clear H_; try dsimp only [setn, addE, goneL] at H
          replace H := H.boxRow (cInt .i64) true ([-1, -1, 0] : List Int) 35 rfl (fun _ _ => ⟨_, _, rfl, rfl, ⟨_, _, rfl, rfl, ⟨_, _, rfl, rfl, rfl⟩⟩⟩) (Nat.le_of_ble_eq_true rfl); try dsimp only [setn, addE, goneL] at H
          obtain ⟨r264, h265, hP⟩ := bind_inv hP
          obtain ⟨Fa266, Hc267, hb268⟩ := H.call [] [(25, false), (35, false)] rfl rfl trivial
          refine e_call E rfl rfl Try.func14 rfl rfl rfl (kit_SameInts_calls A170 c171 (some ⟨g259, 0, none⟩) 3 r161.1 ([-1, -1, 0] : List Int) (H.rcap 25 rfl) (H.rcapx 35 rfl) Hc267 h265) ?_
          rintro v269 w270 a ⟨rfl, HR271⟩ E_
          replace E := E_ _ rfl; clear E_
          obtain ⟨H_, hc272⟩ := hb268 _ _ HR271 rfl
          replace H := H_; clear H_; try dsimp only [setn, addE, goneL] at H
          refine vr tbok 2 [] [(0, .bool r264)] [] E (by kernel_rfl) trivial ?_
          clear E; intro a E
          refine wpList_nil ?_
          refine th_n ?_
          refine wp_ret ?_
          obtain rfl := Option.some.inj hP
          refine ret1 E rfl rfl ?_
          exact ⟨_, rfl, rfl, H.sel [] rfl⟩
         ·
          replace E := E_; clear E_
          have h273 : ¬ ((r161.2 : Int) = 0) := ne_of_beq_false hb_
          clear hb_; replace hP := ite_f h273 hP
          refine vr tbok 5 [] [(0, .bool false)] [] E (by kernel_rfl) trivial ?_
          clear E; intro a E
          refine wpList_nil ?_
          refine th_n ?_
          refine wp_ret ?_
          obtain rfl := Option.some.inj hP
          refine ret1 E rfl rfl ?_
          exact ⟨_, rfl, rfl, H.sel [] rfl⟩
        ·
         replace E := E_; clear E_
         have h274 : ¬ ((r122.2 : Int) = 360) := ne_of_beq_false hb_
         clear hb_; replace hP := ite_f h274 hP
         refine vr tbok 9 [] [(0, .bool false)] [] E (by kernel_rfl) trivial ?_
         clear E; intro a E
         refine wpList_nil ?_
         refine th_n ?_
         refine wp_ret ?_
         obtain rfl := Option.some.inj hP
         refine ret1 E rfl rfl ?_
         exact ⟨_, rfl, rfl, H.sel [] rfl⟩
       ·
        replace E := E_; clear E_
        have h275 : ¬ ((r109.2 : Int) = 14) := ne_of_beq_false hb_
        clear hb_; replace hP := ite_f h275 hP
        refine vr tbok 13 [] [(0, .bool false)] [] E (by kernel_rfl) trivial ?_
        clear E; intro a E
        refine wpList_nil ?_
        refine th_n ?_
        refine wp_ret ?_
        obtain rfl := Option.some.inj hP
        refine ret1 E rfl rfl ?_
        exact ⟨_, rfl, rfl, H.sel [] rfl⟩
      ·
       replace E := E_; clear E_
       have h276 : ¬ (r246 = true) := (ne_true_of_eq_false hb_)
       clear hb_; replace hP := ite_f h276 hP
       refine vr tbok 17 [] [(0, .bool false)] [] E (by kernel_rfl) trivial ?_
       clear E; intro a E
       refine wpList_nil ?_
       refine th_n ?_
       refine wp_ret ?_
       obtain rfl := Option.some.inj hP
       refine ret1 E rfl rfl ?_
       exact ⟨_, rfl, rfl, H.sel [] rfl⟩
     ·
      replace E := E_; clear E_
      have h277 : ¬ ((r92.2 : Int) = 0) := ne_of_beq_false hb_
      clear hb_; replace hP := ite_f h277 hP
      refine vr tbok 22 [] [(0, .bool false)] [] E (by kernel_rfl) trivial ?_
      clear E; intro a E
      refine wpList_nil ?_
      refine th_n ?_
      refine wp_ret ?_
      obtain rfl := Option.some.inj hP
      refine ret1 E rfl rfl ?_
      exact ⟨_, rfl, rfl, H.sel [] rfl⟩
    ·
     replace E := E_; clear E_
     have h278 : ¬ (r230 = true) := (ne_true_of_eq_false hb_)
     clear hb_; replace hP := ite_f h278 hP
     refine vr tbok 26 [] [(0, .bool false)] [] E (by kernel_rfl) trivial ?_
     clear E; intro a E
     refine wpList_nil ?_
     refine th_n ?_
     refine wp_ret ?_
     obtain rfl := Option.some.inj hP
     refine ret1 E rfl rfl ?_
     exact ⟨_, rfl, rfl, H.sel [] rfl⟩
   ·
    replace E := E_; clear E_
    have h279 : ¬ (r220 = true) := (ne_true_of_eq_false hb_)
    clear hb_; replace hP := ite_f h279 hP
    refine vr tbok 31 [] [(0, .bool false)] [] E (by kernel_rfl) trivial ?_
    clear E; intro a E
    refine wpList_nil ?_
    refine th_n ?_
    refine wp_ret ?_
    obtain rfl := Option.some.inj hP
    refine ret1 E rfl rfl ?_
    exact ⟨_, rfl, rfl, H.sel [] rfl⟩
  ·
   replace E := E_; clear E_
   have h280 : ¬ ((r62.2 : Int) = 0) := ne_of_beq_false hb_
   clear hb_; replace hP := ite_f h280 hP
   refine vr tbok 36 [] [(0, .bool false)] [] E (by kernel_rfl) trivial ?_
   clear E; intro a E
   refine wpList_nil ?_
   refine th_n ?_
   refine wp_ret ?_
   obtain rfl := Option.some.inj hP
   refine ret1 E rfl rfl ?_
   exact ⟨_, rfl, rfl, H.sel [] rfl⟩
 ·
  replace E := E_; clear E_
  have h281 : ¬ ((r37.2 : Int) = 0) := ne_of_beq_false hb_
  clear hb_; replace hP := ite_f h281 hP
  refine vr tbok 40 [] [(0, .bool false)] [] E (by kernel_rfl) trivial ?_
  clear E; intro a E
  refine wpList_nil ?_
  refine th_n ?_
  refine wp_ret ?_
  obtain rfl := Option.some.inj hP
  refine ret1 E rfl rfl ?_
  exact ⟨_, rfl, rfl, H.sel [] rfl⟩

end Go.V
