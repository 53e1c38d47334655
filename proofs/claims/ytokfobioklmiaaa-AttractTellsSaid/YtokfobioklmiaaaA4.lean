/- Plain functions, and the calls that give them. -/
import Derived.Test.YtokfobioklmiaaaA3
set_option linter.all false
set_option linter.unusedVariables false
set_option linter.unnecessarySimpa false
set_option linter.unusedSimpArgs false
namespace Go.V
open Go Go.Proofs
/-! rejoinder/rejoinderkit.SameInts -/
def kit_SameInts_l0 (N : Nat) (aa : List Int) (b : List Int) : Nat → Int → Option (Unit ⊕ Bool)
  | 0, _ => none
  | m41 + 1, i25 =>
    if i25 < (((List.length aa) : Nat) : Int) then
      ask (idx i25 (List.length aa)) <|
      ask (idx i25 (List.length b)) <|
      if ((List.getD aa (Int.toNat i25) 0) : Int) = (List.getD b (Int.toNat i25) 0) then
        ask (in64 (i25 + 1)) <|
        kit_SameInts_l0 N aa b m41 (i25 + 1)
      else
        some (Sum.inr false)
    else
      some (Sum.inl ())
def kit_SameInts (N : Nat) (aa : List Int) (b : List Int) : Option Bool :=
  if ((((List.length aa) : Nat) : Int) : Int) = (((List.length b) : Nat) : Int) then
    Option.bind (kit_SameInts_l0 N aa b N 0) fun x42 =>
    Sum.elim (fun x47 =>
      some true)
     (fun x63 =>
      some x63) x42
  else
    some false
set_option maxRecDepth 100000 in
set_option maxHeartbeats 4000000 in
theorem kit_SameInts_calls {N : Nat} {S Fa : Nat → Prop} {w0 : World} {r : Bool} (A1 : Option Addr) (c2 : Nat) (A5 : Option Addr) (c6 : Nat) (aa : List Int) (b : List Int) (hk3 : List.length aa ≤ c2) (hk7 : List.length b ≤ c6) (H : Hp S Fa w0 w0 [.ro false (cInt .i64) A1 aa, .ro false (cInt .i64) A5 b]) (hP : kit_SameInts N aa b = some r) :
    Calls Try.prog 22 #[.slice A1 (List.length aa) c2, .slice A5 (List.length b) c6] w0 fun e w' => ∃ v, e = .returned v ∧ v = .bool r ∧ Hp S Fa w0 w' [] := by
 refine enterV (n := 26) Try.func22 rfl rfl rfl ?_
 intro a E
 replace E := E.pick [(0, .slice A1 (List.length aa) c2), (1, .slice A5 (List.length b) c6)] ⟨rfl, rfl, trivial⟩
 rw [kit_SameInts] at hP
 refine wp_seq ?_
 refine wp_region_lit ?_
 refine vn tbok 1 [] [] [] E (by kernel_rfl) (by kernel_rfl) trivial ?_
 clear E; intro a E
 refine wpList_nil ?_
 refine th_n ?_
 refine wp_seq ?_
 refine wp_seq ?_
 refine wp_region_lit ?_
 refine vn tbok 5 [] [(10, .bool (((((List.length aa) : Nat) : Int) : Int) != (((List.length b) : Nat) : Int)))] [] E (by kernel_rfl) (by kernel_rfl) trivial ?_
 clear E; intro a E
 refine wpList_nil ?_
 refine th_n ?_
 refine E.cases (t := 10) rfl (fun hb_ E_ => ?_) (fun hb_ E_ => ?_)
 ·
  replace E := E_; clear E_
  have h9 : ¬ (((((List.length aa) : Nat) : Int) : Int) = (((List.length b) : Nat) : Int)) := bne_iff_ne.1 hb_
  clear hb_; replace hP := ite_f h9 hP
  refine c_true E rfl ?_
  refine wp_seq ?_
  refine wp_region_lit ?_
  refine vn tbok 1 [] [(4, .bool false)] [] E (by kernel_rfl) (by kernel_rfl) trivial ?_
  clear E; intro a E
  refine wpList_nil ?_
  refine th_n ?_
  refine wp_ret ?_
  refine th_ret ?_
  obtain rfl := Option.some.inj hP
  refine ret1 E rfl rfl ?_
  exact ⟨_, rfl, rfl, H.sel [] rfl⟩
 replace E := E_; clear E_
 have h10 : ((((List.length aa) : Nat) : Int) : Int) = (((List.length b) : Nat) : Int) := bne_eq_false_iff_eq.1 hb_
 clear hb_; replace hP := ite_t h10 hP
 refine c_false E rfl ?_
 refine wp_skip ?_
 refine th_n ?_
 refine wp_seq ?_
 refine wp_seq ?_
 refine wp_region_lit ?_
 refine vn tbok 1 [] [(5, .int .i64 0)] [] E (by kernel_rfl) (by kernel_rfl) trivial ?_
 clear E; intro a E
 refine wpList_nil ?_
 refine th_n ?_
 refine wp_block ?_
 obtain ⟨x42, hL43, hK44⟩ := bind_inv hP
 clear hP
 refine loop_cut (fun i_ a w_ => (i_ = 0 ∧ ∃ (x47 : Unit), Fr a 26 [] ∧ Hp S Fa w0 w_ [] ∧ x42 = Sum.inl x47)) ?_ ?_
 ·
  refine loopV (fun m46 a w45 => ∃ (i25 : Int), Fr a 26 [(0, .slice A1 (List.length aa) c2), (1, .slice A5 (List.length b) c6), (5, .int .i64 i25)] ∧ Hp S Fa w0 w45 [.ro false (cInt .i64) A1 aa, .ro false (cInt .i64) A5 b] ∧ kit_SameInts_l0 N aa b m46 i25 = some x42) N ?_ ?_
  ·
   exact ⟨0, E.pick _ ⟨rfl, rfl, rfl, trivial⟩, H.sel [0, 1] rfl, hL43⟩
  clear E H hL43; intro m46 a w45 hI_
  obtain ⟨i25, E, H, hP⟩ := hI_
  obtain ⟨m41, rfl⟩ : ∃ q_, m46 = q_ + 1 := by cases m46 with | zero => rw [kit_SameInts_l0] at hP; cases hP | succ q_ => exact ⟨q_, rfl⟩
  rw [kit_SameInts_l0] at hP
  refine wp_seq ?_
  refine wp_seq ?_
  refine wp_region_lit ?_
  refine vn tbok 4 [] [(14, .bool (decide (i25 < (((List.length aa) : Nat) : Int))))] [] E (by kernel_rfl) (by kernel_rfl) trivial ?_
  clear E; intro a E
  refine wpList_nil ?_
  refine th_n ?_
  refine E.cases (t := 14) rfl (fun hb_ E_ => ?_) (fun hb_ E_ => ?_)
  ·
   replace E := E_; clear E_
   have h48 : i25 < (((List.length aa) : Nat) : Int) := of_decide_eq_true hb_
   clear hb_; replace hP := ite_t h48 hP
   refine c_true E rfl ?_
   refine wp_skip ?_
   refine th_n ?_
   refine wp_seq ?_
   refine wp_block ?_
   refine wp_seq ?_
   obtain ⟨g49, hP⟩ := ask_inv hP
   obtain ⟨b50, o51, e_b50⟩ := (H.rd 0 rds_ro).addr (idx_pos g49)
   subst e_b50
   obtain ⟨g52, hP⟩ := ask_inv hP
   obtain ⟨b53, o54, e_b53⟩ := (H.rd 1 rds_ro).addr (idx_pos g52)
   subst e_b53
   have HR58 := H
   refine dr_start (S := fun w_ => Chg (atL []) w45 w_) (by kernel_rfl) ?_
   intro w55 hc56
   have HS57 : Chg (atL []) w45 w55 := hc56.mono (fun _ _ h_ => h_.elim)
   replace H := H.ext hc56
   refine dn tbok (by kernel_rfl) [0, 1, 2, 3, 4, 5, 6, 7, 8] [.int .i64 (List.getD aa (Int.toNat i25) 0), .int .i64 (List.getD b (Int.toNat i25) 0)] [(25, .bool (((List.getD aa (Int.toNat i25) 0) : Int) != (List.getD b (Int.toNat i25) 0)))] (fun w_ => [0 ≤ i25 ∧ i25 < (((List.length aa) : Nat) : Int), World.cell? w_ ⟨b50, o51 + (Int.toNat i25) * 1, none⟩ = some (.int .i64 (List.getD aa (Int.toNat i25) 0)), 0 ≤ i25 ∧ i25 < (((List.length b) : Nat) : Int), World.cell? w_ ⟨b53, o54 + (Int.toNat i25) * 1, none⟩ = some (.int .i64 (List.getD b (Int.toNat i25) 0))]) 0 E (fun _ _ => by kernel_rfl) (by kernel_rfl) (fun w_ hS_ => ⟨g49, Rds.at1 (HR58.rdk [] hS_ 0 rds_ro rfl) 0 g49, g52, Rds.at1 (HR58.rdk [] hS_ 1 rds_ro rfl) 0 g52⟩) (by kernel_rfl) HS57 ?_
   clear E; intro a E
   refine dr_done (by kernel_rfl) ?_
   clear HS57 HR58
   refine th_n ?_
   refine E.cases (t := 25) rfl (fun hb_ E_ => ?_) (fun hb_ E_ => ?_)
   ·
    replace E := E_; clear E_
    have h59 : ¬ (((List.getD aa (Int.toNat i25) 0) : Int) = (List.getD b (Int.toNat i25) 0)) := bne_iff_ne.1 hb_
    clear hb_; replace hP := ite_f h59 hP
    refine c_true E rfl ?_
    refine wp_seq ?_
    refine wp_region_lit ?_
    refine vn tbok 1 [] [(4, .bool false)] [] E (by kernel_rfl) (by kernel_rfl) trivial ?_
    clear E; intro a E
    refine wpList_nil ?_
    refine th_n ?_
    refine wp_ret ?_
    refine bl_ret ?_
    refine th_ret ?_
    refine th_ret ?_
    refine .inr ⟨rfl, ?_⟩
    refine bl_ret ?_
    refine th_ret ?_
    have hx_ := Option.some.inj hP; subst hx_
    have hP : some (false) = some r := hK44
    obtain rfl := Option.some.inj hP
    refine ret1 E rfl rfl ?_
    exact ⟨_, rfl, rfl, H.sel [] rfl⟩
   replace E := E_; clear E_
   have h60 : ((List.getD aa (Int.toNat i25) 0) : Int) = (List.getD b (Int.toNat i25) 0) := bne_eq_false_iff_eq.1 hb_
   clear hb_; replace hP := ite_t h60 hP
   refine c_false E rfl ?_
   refine wp_skip ?_
   refine bl_n ?_
   refine th_n ?_
   refine wp_region_lit ?_
   obtain ⟨g61, hP⟩ := ask_inv hP
   refine vn tbok 3 [.int .i64 (i25 + 1)] [(5, .int .i64 (i25 + 1))] [IntKind.i64.wrap (i25 + 1) = i25 + 1] E (by kernel_rfl) (by kernel_rfl) (wrap_in g61) ?_
   clear E; intro a E
   refine wpList_nil ?_
   exact th_n ⟨m41, Nat.lt_succ_self _, i25 + 1, E.pick _ ⟨rfl, rfl, rfl, trivial⟩, H.sel [0, 1] rfl, hP⟩
  replace E := E_; clear E_
  have h62 : ¬ (i25 < (((List.length aa) : Nat) : Int)) := of_decide_eq_false hb_
  clear hb_; replace hP := ite_f h62 hP
  refine c_false E rfl ?_
  refine wp_exit ?_
  refine th_exit ?_
  have hx_ := Option.some.inj hP
  refine th_exit (.inl ⟨0, rfl, ?_⟩)
  exact ⟨rfl, (), E.pick _ trivial, H.sel [] rfl, hx_.symm⟩
 clear E H hL43; intro i_ a w45 hM_
 obtain ⟨rfl, x47, E, H, hx_⟩ := hM_
 subst hx_; have hP := elim_l hK44
 clear hK44
 refine bl_hit ?_
 refine th_n ?_
 refine wp_seq ?_
 refine wp_region_lit ?_
 refine vn tbok 1 [] [(4, .bool true)] [] E (by kernel_rfl) (by kernel_rfl) trivial ?_
 clear E; intro a E
 refine wpList_nil ?_
 refine th_n ?_
 refine wp_ret ?_
 obtain rfl := Option.some.inj hP
 refine ret1 E rfl rfl ?_
 exact ⟨_, rfl, rfl, H.sel [] rfl⟩

/-! rejoinder/rejoinderlaw23.awake -/
/-! rejoinder/rejoinderlaw19.Large -/
def law19_Large (N : Nat) (aProps : Int) (aAccept : List Bool) (aGuard : List Int) (aNodes : List Nd) : Option Bool :=
  if 3 < aProps then
    if aProps ≤ 8 then
      some true
    else
      if 10 < (((List.length aAccept) : Nat) : Int) then
        if (((List.length aAccept) : Nat) : Int) ≤ 256 then
          some true
        else
          if 259 < (((List.length aAccept) : Nat) : Int) then
            some true
          else
            if 40 < (((List.length aNodes) : Nat) : Int) then
              some true
            else
              some (decide (300 < (((List.length aGuard) : Nat) : Int)))
      else
        if 259 < (((List.length aAccept) : Nat) : Int) then
          some true
        else
          if 40 < (((List.length aNodes) : Nat) : Int) then
            some true
          else
            some (decide (300 < (((List.length aGuard) : Nat) : Int)))
  else
    if 10 < (((List.length aAccept) : Nat) : Int) then
      if (((List.length aAccept) : Nat) : Int) ≤ 256 then
        some true
      else
        if 259 < (((List.length aAccept) : Nat) : Int) then
          some true
        else
          if 40 < (((List.length aNodes) : Nat) : Int) then
            some true
          else
            some (decide (300 < (((List.length aGuard) : Nat) : Int)))
    else
      if 259 < (((List.length aAccept) : Nat) : Int) then
        some true
      else
        if 40 < (((List.length aNodes) : Nat) : Int) then
          some true
        else
          some (decide (300 < (((List.length aGuard) : Nat) : Int)))
set_option maxRecDepth 100000 in
set_option maxHeartbeats 4000000 in
theorem law19_Large_calls {N : Nat} {S Fa : Nat → Prop} {w0 : World} {r : Bool} (A1 : Option Addr) (c2 : Nat) (A5 : Option Addr) (c6 : Nat) (A9 : Option Addr) (c10 : Nat) (aProps : Int) (aAccept : List Bool) (aGuard : List Int) (aNodes : List Nd) (hk3 : List.length aAccept ≤ c2) (hk7 : List.length aGuard ≤ c6) (hk11 : List.length aNodes ≤ c10) (H : Hp S Fa w0 w0 [.ro false cBool A1 aAccept, .ro false (cInt .i64) A5 aGuard, .ro false cNode A9 aNodes]) (hP : law19_Large N aProps aAccept aGuard aNodes = some r) :
    Calls Try.prog 8 #[.agg #[.int .i64 aProps, .slice A1 (List.length aAccept) c2, .slice A5 (List.length aGuard) c6, .slice A9 (List.length aNodes) c10]] w0 fun e w' => ∃ v, e = .returned v ∧ v = .bool r ∧ Hp S Fa w0 w' [] := by
 refine enterV (n := 41) Try.func8 rfl rfl rfl ?_
 intro a E
 replace E := E.pick [(0, .agg #[.int .i64 aProps, .slice A1 (List.length aAccept) c2, .slice A5 (List.length aGuard) c6, .slice A9 (List.length aNodes) c10])] ⟨rfl, trivial⟩
 rw [law19_Large] at hP
 refine wp_seq ?_
 refine wp_region_lit ?_
 refine h_box H E rfl rfl rfl ?_
 intro w14 g13 a hc15 hg17 H_ E_
 replace E := E_ _ rfl; clear E_
 replace H := H_; clear H_; try dsimp only [setn, addE, goneL] at H
 refine vn tbok 1 [] [] [] E (by kernel_rfl) (by kernel_rfl) trivial ?_
 clear E; intro a E
 refine wpList_nil ?_
 refine th_n ?_
 refine wp_seq ?_
 refine wp_region_lit ?_
 refine vn tbok 4 [.int .i64 aProps] [(6, .bool (decide (3 < aProps)))] [World.cell? w14 ⟨g13, 0, none⟩ = some (.int .i64 aProps)] E (by kernel_rfl) (by kernel_rfl) ((H.box 3 rfl).cell (j := 0) rfl) ?_
 clear E; intro a E
 refine E.cases (t := 6) rfl (fun hb_ E_ => ?_) (fun hb_ E_ => ?_)
 ·
  replace E := E_; clear E_
  have h18 : 3 < aProps := of_decide_eq_true hb_
  clear hb_; replace hP := ite_t h18 hP
  refine vn tbok 5 [.int .i64 aProps] [(11, .bool (decide (aProps ≤ 8)))] [World.cell? w14 ⟨g13, 0, none⟩ = some (.int .i64 aProps)] E (by kernel_rfl) (by kernel_rfl) ((H.box 3 rfl).cell (j := 0) rfl) ?_
  clear E; intro a E
  refine E.cases (t := 11) rfl (fun hb_ E_ => ?_) (fun hb_ E_ => ?_)
  ·
   replace E := E_; clear E_
   have h19 : aProps ≤ 8 := of_decide_eq_true hb_
   clear hb_; replace hP := ite_t h19 hP
   refine vn tbok 30 [] [(2, .bool true)] [] E (by kernel_rfl) (by kernel_rfl) trivial ?_
   clear E; intro a E
   refine wpList_nil ?_
   refine th_n ?_
   refine wp_ret ?_
   obtain rfl := Option.some.inj hP
   refine ret1 E rfl rfl ?_
   exact ⟨_, rfl, rfl, H.sel [] rfl⟩
  replace E := E_; clear E_
  have h20 : ¬ (aProps ≤ 8) := of_decide_eq_false hb_
  clear hb_; replace hP := ite_f h20 hP
  refine vn tbok 5 [.slice A1 (List.length aAccept) c2] [(16, .bool (decide (10 < (((List.length aAccept) : Nat) : Int))))] [World.cell? w14 ⟨g13, 1, none⟩ = some (.slice A1 (List.length aAccept) c2)] E (by kernel_rfl) (by kernel_rfl) ((H.box 3 rfl).cell (j := 1) rfl) ?_
  clear E; intro a E
  refine E.cases (t := 16) rfl (fun hb_ E_ => ?_) (fun hb_ E_ => ?_)
  ·
   replace E := E_; clear E_
   have h21 : 10 < (((List.length aAccept) : Nat) : Int) := of_decide_eq_true hb_
   clear hb_; replace hP := ite_t h21 hP
   refine vn tbok 7 [.slice A1 (List.length aAccept) c2] [(23, .bool (decide ((((List.length aAccept) : Nat) : Int) ≤ 256)))] [World.cell? w14 ⟨g13, 1, none⟩ = some (.slice A1 (List.length aAccept) c2)] E (by kernel_rfl) (by kernel_rfl) ((H.box 3 rfl).cell (j := 1) rfl) ?_
   clear E; intro a E
   refine E.cases (t := 23) rfl (fun hb_ E_ => ?_) (fun hb_ E_ => ?_)
   ·
    replace E := E_; clear E_
    have h22 : (((List.length aAccept) : Nat) : Int) ≤ 256 := of_decide_eq_true hb_
    clear hb_; replace hP := ite_t h22 hP
    refine vn tbok 18 [] [(2, .bool true)] [] E (by kernel_rfl) (by kernel_rfl) trivial ?_
    clear E; intro a E
    refine wpList_nil ?_
    refine th_n ?_
    refine wp_ret ?_
    obtain rfl := Option.some.inj hP
    refine ret1 E rfl rfl ?_
    exact ⟨_, rfl, rfl, H.sel [] rfl⟩
   replace E := E_; clear E_
   have h23 : ¬ ((((List.length aAccept) : Nat) : Int) ≤ 256) := of_decide_eq_false hb_
   clear hb_; replace hP := ite_f h23 hP
   refine vn tbok 6 [.slice A1 (List.length aAccept) c2] [(29, .bool (decide (259 < (((List.length aAccept) : Nat) : Int))))] [World.cell? w14 ⟨g13, 1, none⟩ = some (.slice A1 (List.length aAccept) c2)] E (by kernel_rfl) (by kernel_rfl) ((H.box 3 rfl).cell (j := 1) rfl) ?_
   clear E; intro a E
   refine E.cases (t := 29) rfl (fun hb_ E_ => ?_) (fun hb_ E_ => ?_)
   ·
    replace E := E_; clear E_
    have h24 : 259 < (((List.length aAccept) : Nat) : Int) := of_decide_eq_true hb_
    clear hb_; replace hP := ite_t h24 hP
    refine vn tbok 12 [] [(2, .bool true)] [] E (by kernel_rfl) (by kernel_rfl) trivial ?_
    clear E; intro a E
    refine wpList_nil ?_
    refine th_n ?_
    refine wp_ret ?_
    obtain rfl := Option.some.inj hP
    refine ret1 E rfl rfl ?_
    exact ⟨_, rfl, rfl, H.sel [] rfl⟩
   replace E := E_; clear E_
   have h25 : ¬ (259 < (((List.length aAccept) : Nat) : Int)) := of_decide_eq_false hb_
   clear hb_; replace hP := ite_f h25 hP
   refine vn tbok 6 [.slice A9 (List.length aNodes) c10] [(35, .bool (decide (40 < (((List.length aNodes) : Nat) : Int))))] [World.cell? w14 ⟨g13, 3, none⟩ = some (.slice A9 (List.length aNodes) c10)] E (by kernel_rfl) (by kernel_rfl) ((H.box 3 rfl).cell (j := 3) rfl) ?_
   clear E; intro a E
   refine E.cases (t := 35) rfl (fun hb_ E_ => ?_) (fun hb_ E_ => ?_)
   ·
    replace E := E_; clear E_
    have h26 : 40 < (((List.length aNodes) : Nat) : Int) := of_decide_eq_true hb_
    clear hb_; replace hP := ite_t h26 hP
    refine vn tbok 6 [] [(2, .bool true)] [] E (by kernel_rfl) (by kernel_rfl) trivial ?_
    clear E; intro a E
    refine wpList_nil ?_
    refine th_n ?_
    refine wp_ret ?_
    obtain rfl := Option.some.inj hP
    refine ret1 E rfl rfl ?_
    exact ⟨_, rfl, rfl, H.sel [] rfl⟩
   replace E := E_; clear E_
   have h27 : ¬ (40 < (((List.length aNodes) : Nat) : Int)) := of_decide_eq_false hb_
   clear hb_; replace hP := ite_f h27 hP
   refine vn tbok 6 [.slice A5 (List.length aGuard) c6] [(2, .bool (decide (300 < (((List.length aGuard) : Nat) : Int))))] [World.cell? w14 ⟨g13, 2, none⟩ = some (.slice A5 (List.length aGuard) c6)] E (by kernel_rfl) (by kernel_rfl) ((H.box 3 rfl).cell (j := 2) rfl) ?_
   clear E; intro a E
   refine wpList_nil ?_
   refine th_n ?_
   refine wp_ret ?_
   obtain rfl := Option.some.inj hP
   refine ret1 E rfl rfl ?_
   exact ⟨_, rfl, rfl, H.sel [] rfl⟩
  replace E := E_; clear E_
  have h28 : ¬ (10 < (((List.length aAccept) : Nat) : Int)) := of_decide_eq_false hb_
  clear hb_; replace hP := ite_f h28 hP
  refine vn tbok 13 [.slice A1 (List.length aAccept) c2] [(29, .bool (decide (259 < (((List.length aAccept) : Nat) : Int))))] [World.cell? w14 ⟨g13, 1, none⟩ = some (.slice A1 (List.length aAccept) c2)] E (by kernel_rfl) (by kernel_rfl) ((H.box 3 rfl).cell (j := 1) rfl) ?_
  clear E; intro a E
  refine E.cases (t := 29) rfl (fun hb_ E_ => ?_) (fun hb_ E_ => ?_)
  ·
   replace E := E_; clear E_
   have h29 : 259 < (((List.length aAccept) : Nat) : Int) := of_decide_eq_true hb_
   clear hb_; replace hP := ite_t h29 hP
   refine vn tbok 12 [] [(2, .bool true)] [] E (by kernel_rfl) (by kernel_rfl) trivial ?_
   clear E; intro a E
   refine wpList_nil ?_
   refine th_n ?_
   refine wp_ret ?_
   obtain rfl := Option.some.inj hP
   refine ret1 E rfl rfl ?_
   exact ⟨_, rfl, rfl, H.sel [] rfl⟩
  replace E := E_; clear E_
  have h30 : ¬ (259 < (((List.length aAccept) : Nat) : Int)) := of_decide_eq_false hb_
  clear hb_; replace hP := ite_f h30 hP
  refine vn tbok 6 [.slice A9 (List.length aNodes) c10] [(35, .bool (decide (40 < (((List.length aNodes) : Nat) : Int))))] [World.cell? w14 ⟨g13, 3, none⟩ = some (.slice A9 (List.length aNodes) c10)] E (by kernel_rfl) (by kernel_rfl) ((H.box 3 rfl).cell (j := 3) rfl) ?_
  clear E; intro a E
  refine E.cases (t := 35) rfl (fun hb_ E_ => ?_) (fun hb_ E_ => ?_)
  ·
   replace E := E_; clear E_
   have h31 : 40 < (((List.length aNodes) : Nat) : Int) := of_decide_eq_true hb_
   clear hb_; replace hP := ite_t h31 hP
   refine vn tbok 6 [] [(2, .bool true)] [] E (by kernel_rfl) (by kernel_rfl) trivial ?_
   clear E; intro a E
   refine wpList_nil ?_
   refine th_n ?_
   refine wp_ret ?_
   obtain rfl := Option.some.inj hP
   refine ret1 E rfl rfl ?_
   exact ⟨_, rfl, rfl, H.sel [] rfl⟩
  replace E := E_; clear E_
  have h32 : ¬ (40 < (((List.length aNodes) : Nat) : Int)) := of_decide_eq_false hb_
  clear hb_; replace hP := ite_f h32 hP
  refine vn tbok 6 [.slice A5 (List.length aGuard) c6] [(2, .bool (decide (300 < (((List.length aGuard) : Nat) : Int))))] [World.cell? w14 ⟨g13, 2, none⟩ = some (.slice A5 (List.length aGuard) c6)] E (by kernel_rfl) (by kernel_rfl) ((H.box 3 rfl).cell (j := 2) rfl) ?_
  clear E; intro a E
  refine wpList_nil ?_
  refine th_n ?_
  refine wp_ret ?_
  obtain rfl := Option.some.inj hP
  refine ret1 E rfl rfl ?_
  exact ⟨_, rfl, rfl, H.sel [] rfl⟩
 replace E := E_; clear E_
 have h33 : ¬ (3 < aProps) := of_decide_eq_false hb_
 clear hb_; replace hP := ite_f h33 hP
 refine vn tbok 10 [.slice A1 (List.length aAccept) c2] [(11, .bool false), (16, .bool (decide (10 < (((List.length aAccept) : Nat) : Int))))] [World.cell? w14 ⟨g13, 1, none⟩ = some (.slice A1 (List.length aAccept) c2)] E (by kernel_rfl) (by kernel_rfl) ((H.box 3 rfl).cell (j := 1) rfl) ?_
 clear E; intro a E
 refine E.cases (t := 16) rfl (fun hb_ E_ => ?_) (fun hb_ E_ => ?_)
 ·
  replace E := E_; clear E_
  have h34 : 10 < (((List.length aAccept) : Nat) : Int) := of_decide_eq_true hb_
  clear hb_; replace hP := ite_t h34 hP
  refine vn tbok 7 [.slice A1 (List.length aAccept) c2] [(23, .bool (decide ((((List.length aAccept) : Nat) : Int) ≤ 256)))] [World.cell? w14 ⟨g13, 1, none⟩ = some (.slice A1 (List.length aAccept) c2)] E (by kernel_rfl) (by kernel_rfl) ((H.box 3 rfl).cell (j := 1) rfl) ?_
  clear E; intro a E
  refine E.cases (t := 23) rfl (fun hb_ E_ => ?_) (fun hb_ E_ => ?_)
  ·
   replace E := E_; clear E_
   have h35 : (((List.length aAccept) : Nat) : Int) ≤ 256 := of_decide_eq_true hb_
   clear hb_; replace hP := ite_t h35 hP
   refine vn tbok 18 [] [(2, .bool true)] [] E (by kernel_rfl) (by kernel_rfl) trivial ?_
   clear E; intro a E
   refine wpList_nil ?_
   refine th_n ?_
   refine wp_ret ?_
   obtain rfl := Option.some.inj hP
   refine ret1 E rfl rfl ?_
   exact ⟨_, rfl, rfl, H.sel [] rfl⟩
  replace E := E_; clear E_
  have h36 : ¬ ((((List.length aAccept) : Nat) : Int) ≤ 256) := of_decide_eq_false hb_
  clear hb_; replace hP := ite_f h36 hP
  refine vn tbok 6 [.slice A1 (List.length aAccept) c2] [(29, .bool (decide (259 < (((List.length aAccept) : Nat) : Int))))] [World.cell? w14 ⟨g13, 1, none⟩ = some (.slice A1 (List.length aAccept) c2)] E (by kernel_rfl) (by kernel_rfl) ((H.box 3 rfl).cell (j := 1) rfl) ?_
  clear E; intro a E
  refine E.cases (t := 29) rfl (fun hb_ E_ => ?_) (fun hb_ E_ => ?_)
  ·
   replace E := E_; clear E_
   have h37 : 259 < (((List.length aAccept) : Nat) : Int) := of_decide_eq_true hb_
   clear hb_; replace hP := ite_t h37 hP
   refine vn tbok 12 [] [(2, .bool true)] [] E (by kernel_rfl) (by kernel_rfl) trivial ?_
   clear E; intro a E
   refine wpList_nil ?_
   refine th_n ?_
   refine wp_ret ?_
   obtain rfl := Option.some.inj hP
   refine ret1 E rfl rfl ?_
   exact ⟨_, rfl, rfl, H.sel [] rfl⟩
  replace E := E_; clear E_
  have h38 : ¬ (259 < (((List.length aAccept) : Nat) : Int)) := of_decide_eq_false hb_
  clear hb_; replace hP := ite_f h38 hP
  refine vn tbok 6 [.slice A9 (List.length aNodes) c10] [(35, .bool (decide (40 < (((List.length aNodes) : Nat) : Int))))] [World.cell? w14 ⟨g13, 3, none⟩ = some (.slice A9 (List.length aNodes) c10)] E (by kernel_rfl) (by kernel_rfl) ((H.box 3 rfl).cell (j := 3) rfl) ?_
  clear E; intro a E
  refine E.cases (t := 35) rfl (fun hb_ E_ => ?_) (fun hb_ E_ => ?_)
  ·
   replace E := E_; clear E_
   have h39 : 40 < (((List.length aNodes) : Nat) : Int) := of_decide_eq_true hb_
   clear hb_; replace hP := ite_t h39 hP
   refine vn tbok 6 [] [(2, .bool true)] [] E (by kernel_rfl) (by kernel_rfl) trivial ?_
   clear E; intro a E
   refine wpList_nil ?_
   refine th_n ?_
   refine wp_ret ?_
   obtain rfl := Option.some.inj hP
   refine ret1 E rfl rfl ?_
   exact ⟨_, rfl, rfl, H.sel [] rfl⟩
  replace E := E_; clear E_
  have h40 : ¬ (40 < (((List.length aNodes) : Nat) : Int)) := of_decide_eq_false hb_
  clear hb_; replace hP := ite_f h40 hP
  refine vn tbok 6 [.slice A5 (List.length aGuard) c6] [(2, .bool (decide (300 < (((List.length aGuard) : Nat) : Int))))] [World.cell? w14 ⟨g13, 2, none⟩ = some (.slice A5 (List.length aGuard) c6)] E (by kernel_rfl) (by kernel_rfl) ((H.box 3 rfl).cell (j := 2) rfl) ?_
  clear E; intro a E
  refine wpList_nil ?_
  refine th_n ?_
  refine wp_ret ?_
  obtain rfl := Option.some.inj hP
  refine ret1 E rfl rfl ?_
  exact ⟨_, rfl, rfl, H.sel [] rfl⟩
 replace E := E_; clear E_
 have h41 : ¬ (10 < (((List.length aAccept) : Nat) : Int)) := of_decide_eq_false hb_
 clear hb_; replace hP := ite_f h41 hP
 refine vn tbok 13 [.slice A1 (List.length aAccept) c2] [(29, .bool (decide (259 < (((List.length aAccept) : Nat) : Int))))] [World.cell? w14 ⟨g13, 1, none⟩ = some (.slice A1 (List.length aAccept) c2)] E (by kernel_rfl) (by kernel_rfl) ((H.box 3 rfl).cell (j := 1) rfl) ?_
 clear E; intro a E
 refine E.cases (t := 29) rfl (fun hb_ E_ => ?_) (fun hb_ E_ => ?_)
 ·
  replace E := E_; clear E_
  have h42 : 259 < (((List.length aAccept) : Nat) : Int) := of_decide_eq_true hb_
  clear hb_; replace hP := ite_t h42 hP
  refine vn tbok 12 [] [(2, .bool true)] [] E (by kernel_rfl) (by kernel_rfl) trivial ?_
  clear E; intro a E
  refine wpList_nil ?_
  refine th_n ?_
  refine wp_ret ?_
  obtain rfl := Option.some.inj hP
  refine ret1 E rfl rfl ?_
  exact ⟨_, rfl, rfl, H.sel [] rfl⟩
 replace E := E_; clear E_
 have h43 : ¬ (259 < (((List.length aAccept) : Nat) : Int)) := of_decide_eq_false hb_
 clear hb_; replace hP := ite_f h43 hP
 refine vn tbok 6 [.slice A9 (List.length aNodes) c10] [(35, .bool (decide (40 < (((List.length aNodes) : Nat) : Int))))] [World.cell? w14 ⟨g13, 3, none⟩ = some (.slice A9 (List.length aNodes) c10)] E (by kernel_rfl) (by kernel_rfl) ((H.box 3 rfl).cell (j := 3) rfl) ?_
 clear E; intro a E
 refine E.cases (t := 35) rfl (fun hb_ E_ => ?_) (fun hb_ E_ => ?_)
 ·
  replace E := E_; clear E_
  have h44 : 40 < (((List.length aNodes) : Nat) : Int) := of_decide_eq_true hb_
  clear hb_; replace hP := ite_t h44 hP
  refine vn tbok 6 [] [(2, .bool true)] [] E (by kernel_rfl) (by kernel_rfl) trivial ?_
  clear E; intro a E
  refine wpList_nil ?_
  refine th_n ?_
  refine wp_ret ?_
  obtain rfl := Option.some.inj hP
  refine ret1 E rfl rfl ?_
  exact ⟨_, rfl, rfl, H.sel [] rfl⟩
 replace E := E_; clear E_
 have h45 : ¬ (40 < (((List.length aNodes) : Nat) : Int)) := of_decide_eq_false hb_
 clear hb_; replace hP := ite_f h45 hP
 refine vn tbok 6 [.slice A5 (List.length aGuard) c6] [(2, .bool (decide (300 < (((List.length aGuard) : Nat) : Int))))] [World.cell? w14 ⟨g13, 2, none⟩ = some (.slice A5 (List.length aGuard) c6)] E (by kernel_rfl) (by kernel_rfl) ((H.box 3 rfl).cell (j := 2) rfl) ?_
 clear E; intro a E
 refine wpList_nil ?_
 refine th_n ?_
 refine wp_ret ?_
 obtain rfl := Option.some.inj hP
 refine ret1 E rfl rfl ?_
 exact ⟨_, rfl, rfl, H.sel [] rfl⟩

/-! rejoinder/rejoinderkit.Pick -/
/-! rejoinder/attract.Wins -/
def attract_Wins (N : Nat) (aProps : Int) (aAccept : List Bool) (aGuard : List Int) (aNodes : List Nd) (s : Int × Int) : Option (Bool × Int) :=
  Option.bind (attract_Ranks N aProps aAccept aGuard aNodes (s.1, s.2)) fun r23 =>
  if (r23.2 : Int) = 0 then
    ask (idx (0 : Int) (List.length r23.1)) <|
    some (decide (0 ≤ (List.getD r23.1 (Int.toNat (0 : Int)) 0)), 0)
  else
    some (false, r23.2)
set_option maxRecDepth 100000 in
set_option maxHeartbeats 4000000 in
theorem attract_Wins_calls {N : Nat} {S Fa : Nat → Prop} {w0 : World} {r : Bool × Int} (A1 : Option Addr) (c2 : Nat) (A5 : Option Addr) (c6 : Nat) (A9 : Option Addr) (c10 : Nat) (aProps : Int) (aAccept : List Bool) (aGuard : List Int) (aNodes : List Nd) (s : Int × Int) (hk3 : List.length aAccept ≤ c2) (hk7 : List.length aGuard ≤ c6) (hk11 : List.length aNodes ≤ c10) (H : Hp S Fa w0 w0 [.ro false cBool A1 aAccept, .ro false (cInt .i64) A5 aGuard, .ro false cNode A9 aNodes]) (hP : attract_Wins N aProps aAccept aGuard aNodes s = some r) :
    Calls Try.prog 12 #[.agg #[.int .i64 aProps, .slice A1 (List.length aAccept) c2, .slice A5 (List.length aGuard) c6, .slice A9 (List.length aNodes) c10], .agg #[.int .u8 s.1, .int .u8 s.2]] w0 fun e w' => ∃ v, e = .returned v ∧ v = .tuple #[.bool r.1, .int .i64 r.2] ∧ Hp S Fa w0 w' [] := by
 refine enterV (n := 21) Try.func12 rfl rfl rfl ?_
 intro a E
 replace E := E.pick [(0, .agg #[.int .i64 aProps, .slice A1 (List.length aAccept) c2, .slice A5 (List.length aGuard) c6, .slice A9 (List.length aNodes) c10]), (1, .agg #[.int .u8 s.1, .int .u8 s.2])] ⟨rfl, rfl, trivial⟩
 rw [attract_Wins] at hP
 refine wp_seq ?_
 refine wp_region_lit ?_
 refine h_box H E rfl rfl rfl ?_
 intro w14 g13 a hc15 hg17 H_ E_
 replace E := E_ _ rfl; clear E_
 replace H := H_; clear H_; try dsimp only [setn, addE, goneL] at H
 refine h_box H E rfl rfl rfl ?_
 intro w19 g18 a hc20 hg22 H_ E_
 replace E := E_ _ rfl; clear E_
 replace H := H_; clear H_; try dsimp only [setn, addE, goneL] at H
 refine vn tbok 2 [] [] [] E (by kernel_rfl) (by kernel_rfl) trivial ?_
 clear E; intro a E
 refine wpList_nil ?_
 refine th_n ?_
 refine wp_seq ?_
 refine wp_region_lit ?_
 refine vn tbok 2 [.agg #[.int .i64 aProps, .slice A1 (List.length aAccept) c2, .slice A5 (List.length aGuard) c6, .slice A9 (List.length aNodes) c10], .agg #[.int .u8 s.1, .int .u8 s.2]] [(9, .agg #[.int .i64 aProps, .slice A1 (List.length aAccept) c2, .slice A5 (List.length aGuard) c6, .slice A9 (List.length aNodes) c10]), (10, .agg #[.int .u8 s.1, .int .u8 s.2])] [cellsAt w19 g13 (0) [.int .i64 aProps, .slice A1 (List.length aAccept) c2, .slice A5 (List.length aGuard) c6, .slice A9 (List.length aNodes) c10], cellsAt w19 g18 (0) [.int .u8 s.1, .int .u8 s.2]] E (by kernel_rfl) (by kernel_rfl) ⟨(H.box 3 rfl).sub 0 _ rfl, (H.box 4 rfl).sub 0 _ rfl⟩ ?_
 clear E; intro a E
 obtain ⟨r23, h24, hP⟩ := bind_inv hP
 obtain ⟨Fa25, Hc26, hb27⟩ := H.call [] [(0, false), (1, false), (2, false)] rfl rfl trivial
 refine e_call E rfl rfl Try.func11 rfl rfl rfl (attract_Ranks_calls A1 c2 A5 c6 A9 c10 aProps aAccept aGuard aNodes (s.1, s.2) hk3 hk7 hk11 Hc26 h24) ?_
 rintro v28 w29 a ⟨A32, c33, rfl, HR30⟩ E_
 replace E := E_ _ rfl; clear E_
 obtain ⟨H_, hc31⟩ := hb27 _ _ HR30 rfl
 replace H := H_; clear H_; try dsimp only [setn, addE, goneL] at H
 refine vn tbok 5 [] [(6, .slice A32 (List.length r23.1) c33), (7, .int .i64 r23.2)] [] E (by kernel_rfl) (by kernel_rfl) trivial ?_
 clear E; intro a E
 refine wpList_nil ?_
 refine th_n ?_
 refine wp_seq ?_
 refine wp_seq ?_
 refine wp_region_lit ?_
 refine vn tbok 2 [] [(15, .bool ((r23.2 : Int) != 0))] [] E (by kernel_rfl) (by kernel_rfl) trivial ?_
 clear E; intro a E
 refine wpList_nil ?_
 refine th_n ?_
 refine E.cases (t := 15) rfl (fun hb_ E_ => ?_) (fun hb_ E_ => ?_)
 ·
  replace E := E_; clear E_
  have h35 : ¬ ((r23.2 : Int) = 0) := bne_iff_ne.1 hb_
  clear hb_; replace hP := ite_f h35 hP
  refine c_true E rfl ?_
  refine wp_seq ?_
  refine wp_region_lit ?_
  refine vn tbok 3 [] [(4, .bool false), (5, .int .i64 r23.2)] [] E (by kernel_rfl) (by kernel_rfl) trivial ?_
  clear E; intro a E
  refine wpList_nil ?_
  refine th_n ?_
  refine wp_ret ?_
  refine th_ret ?_
  obtain rfl := Option.some.inj hP
  refine ret2 E rfl rfl rfl ?_
  exact ⟨_, rfl, rfl, H.sel [] rfl⟩
 replace E := E_; clear E_
 have h36 : (r23.2 : Int) = 0 := bne_eq_false_iff_eq.1 hb_
 clear hb_; replace hP := ite_t h36 hP
 refine c_false E rfl ?_
 refine wp_skip ?_
 refine th_n ?_
 refine wp_seq ?_
 refine wp_region_lit ?_
 obtain ⟨g37, hP⟩ := ask_inv hP
 obtain ⟨b38, e_b38⟩ := H.raddrx 5 rfl (idx_pos g37)
 subst e_b38
 refine vn tbok 6 [.int .i64 (List.getD r23.1 (Int.toNat (0 : Int)) 0)] [(4, .bool (decide (0 ≤ (List.getD r23.1 (Int.toNat (0 : Int)) 0)))), (5, .int .i64 0)] [0 ≤ (0 : Int) ∧ (0 : Int) < (((List.length r23.1) : Nat) : Int), World.cell? w29 ⟨b38, 0 + (Int.toNat (0 : Int)) * 1, none⟩ = some (.int .i64 (List.getD r23.1 (Int.toNat (0 : Int)) 0))] E (by kernel_rfl) (by kernel_rfl) ⟨g37, Rds.at1 (H.rd 5 rds_rowx) 0 g37⟩ ?_
 clear E; intro a E
 refine wpList_nil ?_
 refine th_n ?_
 refine wp_ret ?_
 obtain rfl := Option.some.inj hP
 refine ret2 E rfl rfl rfl ?_
 exact ⟨_, rfl, rfl, H.sel [] rfl⟩

/-! rejoinder/rejoinderlaw19.Real -/
/-! rejoinder/rejoinderlaw23.falls -/
end Go.V
