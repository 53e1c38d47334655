/- Plain functions, and the calls that give them. -/
import Derived.Test.YtihindpnnbllkaaA9
set_option linter.all false
set_option linter.unusedVariables false
set_option linter.unnecessarySimpa false
set_option linter.unusedSimpArgs false
namespace Go.V
open Go Go.Proofs
/-! rejoinder/rejoinderkit.SameBools -/
def kit_SameBools_l0 (N : Nat) (aa : List Bool) (b : List Bool) : Nat → Int → Option (Unit ⊕ Bool)
  | 0, _ => none
  | m41 + 1, i25 =>
    if i25 < (((List.length aa) : Nat) : Int) then
      ask (idx i25 (List.length aa)) <|
      ask (idx i25 (List.length b)) <|
      if (List.getD aa (Int.toNat i25) false) = (List.getD b (Int.toNat i25) false) then
        ask (in64 (i25 + 1)) <|
        kit_SameBools_l0 N aa b m41 (i25 + 1)
      else
        some (Sum.inr false)
    else
      some (Sum.inl ())
def kit_SameBools (N : Nat) (aa : List Bool) (b : List Bool) : Option Bool :=
  if ((((List.length aa) : Nat) : Int) : Int) = (((List.length b) : Nat) : Int) then
    Option.bind (kit_SameBools_l0 N aa b N 0) fun x42 =>
    Sum.elim (fun x47 =>
      some true)
     (fun x63 =>
      some x63) x42
  else
    some false
set_option maxRecDepth 100000 in
set_option maxHeartbeats 4000000 in
theorem kit_SameBools_calls {N : Nat} {S Fa : Nat → Prop} {w0 : World} {r : Bool} (A1 : Option Addr) (c2 : Nat) (A5 : Option Addr) (c6 : Nat) (aa : List Bool) (b : List Bool) (hk3 : List.length aa ≤ c2) (hk7 : List.length b ≤ c6) (H : Hp S Fa w0 w0 [.ro false cBool A1 aa, .ro false cBool A5 b]) (hP : kit_SameBools N aa b = some r) :
    Calls Try.prog 53 #[.slice A1 (List.length aa) c2, .slice A5 (List.length b) c6] w0 fun e w' => ∃ v, e = .returned v ∧ v = .bool r ∧ Hp S Fa w0 w' [] := by
 refine enterV (n := 26) Try.func53 rfl rfl rfl ?_
 intro a E
 replace E := E.pick [(0, .slice A1 (List.length aa) c2), (1, .slice A5 (List.length b) c6)] ⟨rfl, rfl, trivial⟩
 rw [kit_SameBools] at hP
 refine wp_seq ?_
 refine wp_region_lit ?_
 refine vn tbok 1 [] [] [] E (by kernel_rfl) (by kernel_rfl) trivial ?_
 clear E; intro a E
 refine wpList_nil ?_
 refine th_n ?_
 refine wp_seq ?_
 refine wp_seq ?_
 refine wp_region_lit ?_
 refine vn tbok 5 [] [(10, .bool (((((List.length aa) : Nat) : Int) : Int) != (((List.length b) : Nat) : Int)))] [] E (by kernel_rfl) (by kernel_rfl) trivial ?_
 clear E; intro a E
 refine wpList_nil ?_
 refine th_n ?_
 refine E.cases (t := 10) rfl (fun hb_ E_ => ?_) (fun hb_ E_ => ?_)
 ·
  replace E := E_; clear E_
  have h9 : ¬ (((((List.length aa) : Nat) : Int) : Int) = (((List.length b) : Nat) : Int)) := bne_iff_ne.1 hb_
  clear hb_; replace hP := ite_f h9 hP
  refine c_true E rfl ?_
  refine wp_seq ?_
  refine wp_region_lit ?_
  refine vn tbok 1 [] [(4, .bool false)] [] E (by kernel_rfl) (by kernel_rfl) trivial ?_
  clear E; intro a E
  refine wpList_nil ?_
  refine th_n ?_
  refine wp_ret ?_
  refine th_ret ?_
  obtain rfl := Option.some.inj hP
  refine ret1 E rfl rfl ?_
  exact ⟨_, rfl, rfl, H.sel [] rfl⟩
 replace E := E_; clear E_
 have h10 : ((((List.length aa) : Nat) : Int) : Int) = (((List.length b) : Nat) : Int) := bne_eq_false_iff_eq.1 hb_
 clear hb_; replace hP := ite_t h10 hP
 refine c_false E rfl ?_
 refine wp_skip ?_
 refine th_n ?_
 refine wp_seq ?_
 refine wp_seq ?_
 refine wp_region_lit ?_
 refine vn tbok 1 [] [(5, .int .i64 0)] [] E (by kernel_rfl) (by kernel_rfl) trivial ?_
 clear E; intro a E
 refine wpList_nil ?_
 refine th_n ?_
 refine wp_block ?_
 obtain ⟨x42, hL43, hK44⟩ := bind_inv hP
 clear hP
 refine loop_cut (fun i_ a w_ => (i_ = 0 ∧ ∃ (x47 : Unit), Fr a 26 [] ∧ Hp S Fa w0 w_ [] ∧ x42 = Sum.inl x47)) ?_ ?_
 ·
  refine loopV (fun m46 a w45 => ∃ (i25 : Int), Fr a 26 [(0, .slice A1 (List.length aa) c2), (1, .slice A5 (List.length b) c6), (5, .int .i64 i25)] ∧ Hp S Fa w0 w45 [.ro false cBool A1 aa, .ro false cBool A5 b] ∧ kit_SameBools_l0 N aa b m46 i25 = some x42) N ?_ ?_
  ·
   exact ⟨0, E.pick _ ⟨rfl, rfl, rfl, trivial⟩, H.sel [0, 1] rfl, hL43⟩
  clear E H hL43; intro m46 a w45 hI_
  obtain ⟨i25, E, H, hP⟩ := hI_
  obtain ⟨m41, rfl⟩ : ∃ q_, m46 = q_ + 1 := by cases m46 with | zero => rw [kit_SameBools_l0] at hP; cases hP | succ q_ => exact ⟨q_, rfl⟩
  rw [kit_SameBools_l0] at hP
  refine wp_seq ?_
  refine wp_seq ?_
  refine wp_region_lit ?_
  refine vn tbok 4 [] [(14, .bool (decide (i25 < (((List.length aa) : Nat) : Int))))] [] E (by kernel_rfl) (by kernel_rfl) trivial ?_
  clear E; intro a E
  refine wpList_nil ?_
  refine th_n ?_
  refine E.cases (t := 14) rfl (fun hb_ E_ => ?_) (fun hb_ E_ => ?_)
  ·
   replace E := E_; clear E_
   have h48 : i25 < (((List.length aa) : Nat) : Int) := of_decide_eq_true hb_
   clear hb_; replace hP := ite_t h48 hP
   refine c_true E rfl ?_
   refine wp_skip ?_
   refine th_n ?_
   refine wp_seq ?_
   refine wp_block ?_
   refine wp_seq ?_
   obtain ⟨g49, hP⟩ := ask_inv hP
   obtain ⟨b50, o51, e_b50⟩ := (H.rd 0 rds_ro).addr (idx_pos g49)
   subst e_b50
   obtain ⟨g52, hP⟩ := ask_inv hP
   obtain ⟨b53, o54, e_b53⟩ := (H.rd 1 rds_ro).addr (idx_pos g52)
   subst e_b53
   have HR58 := H
   refine dr_start (S := fun w_ => Chg (atL []) w45 w_) (by kernel_rfl) ?_
   intro w55 hc56
   have HS57 : Chg (atL []) w45 w55 := hc56.mono (fun _ _ h_ => h_.elim)
   replace H := H.ext hc56
   refine dn tbok (by kernel_rfl) [0, 1, 2, 3, 4, 5, 6, 7, 8] [.bool (List.getD aa (Int.toNat i25) false), .bool (List.getD b (Int.toNat i25) false)] [(25, .bool (!((List.getD aa (Int.toNat i25) false) == (List.getD b (Int.toNat i25) false))))] (fun w_ => [0 ≤ i25 ∧ i25 < (((List.length aa) : Nat) : Int), World.cell? w_ ⟨b50, o51 + (Int.toNat i25) * 1, none⟩ = some (.bool (List.getD aa (Int.toNat i25) false)), 0 ≤ i25 ∧ i25 < (((List.length b) : Nat) : Int), World.cell? w_ ⟨b53, o54 + (Int.toNat i25) * 1, none⟩ = some (.bool (List.getD b (Int.toNat i25) false))]) 0 E (fun _ _ => by kernel_rfl) (by kernel_rfl) (fun w_ hS_ => ⟨g49, Rds.at1 (HR58.rdk [] hS_ 0 rds_ro rfl) false g49, g52, Rds.at1 (HR58.rdk [] hS_ 1 rds_ro rfl) false g52⟩) (by kernel_rfl) HS57 ?_
   clear E; intro a E
   refine dr_done (by kernel_rfl) ?_
   clear HS57 HR58
   refine th_n ?_
   refine E.cases (t := 25) rfl (fun hb_ E_ => ?_) (fun hb_ E_ => ?_)
   ·
    replace E := E_; clear E_
    have h59 : ¬ ((List.getD aa (Int.toNat i25) false) = (List.getD b (Int.toNat i25) false)) := (by simpa using hb_)
    clear hb_; replace hP := ite_f h59 hP
    refine c_true E rfl ?_
    refine wp_seq ?_
    refine wp_region_lit ?_
    refine vn tbok 1 [] [(4, .bool false)] [] E (by kernel_rfl) (by kernel_rfl) trivial ?_
    clear E; intro a E
    refine wpList_nil ?_
    refine th_n ?_
    refine wp_ret ?_
    refine bl_ret ?_
    refine th_ret ?_
    refine th_ret ?_
    refine .inr ⟨rfl, ?_⟩
    refine bl_ret ?_
    refine th_ret ?_
    have hx_ := Option.some.inj hP; subst hx_
    have hP : some (false) = some r := hK44
    obtain rfl := Option.some.inj hP
    refine ret1 E rfl rfl ?_
    exact ⟨_, rfl, rfl, H.sel [] rfl⟩
   replace E := E_; clear E_
   have h60 : (List.getD aa (Int.toNat i25) false) = (List.getD b (Int.toNat i25) false) := (by simpa using hb_)
   clear hb_; replace hP := ite_t h60 hP
   refine c_false E rfl ?_
   refine wp_skip ?_
   refine bl_n ?_
   refine th_n ?_
   refine wp_region_lit ?_
   obtain ⟨g61, hP⟩ := ask_inv hP
   refine vn tbok 3 [.int .i64 (i25 + 1)] [(5, .int .i64 (i25 + 1))] [IntKind.i64.wrap (i25 + 1) = i25 + 1] E (by kernel_rfl) (by kernel_rfl) (wrap_in g61) ?_
   clear E; intro a E
   refine wpList_nil ?_
   exact th_n ⟨m41, Nat.lt_succ_self _, i25 + 1, E.pick _ ⟨rfl, rfl, rfl, trivial⟩, H.sel [0, 1] rfl, hP⟩
  replace E := E_; clear E_
  have h62 : ¬ (i25 < (((List.length aa) : Nat) : Int)) := of_decide_eq_false hb_
  clear hb_; replace hP := ite_f h62 hP
  refine c_false E rfl ?_
  refine wp_exit ?_
  refine th_exit ?_
  have hx_ := Option.some.inj hP
  refine th_exit (.inl ⟨0, rfl, ?_⟩)
  exact ⟨rfl, (), E.pick _ trivial, H.sel [] rfl, hx_.symm⟩
 clear E H hL43; intro i_ a w45 hM_
 obtain ⟨rfl, x47, E, H, hx_⟩ := hM_
 subst hx_; have hP := elim_l hK44
 clear hK44
 refine bl_hit ?_
 refine th_n ?_
 refine wp_seq ?_
 refine wp_region_lit ?_
 refine vn tbok 1 [] [(4, .bool true)] [] E (by kernel_rfl) (by kernel_rfl) trivial ?_
 clear E; intro a E
 refine wpList_nil ?_
 refine th_n ?_
 refine wp_ret ?_
 obtain rfl := Option.some.inj hP
 refine ret1 E rfl rfl ?_
 exact ⟨_, rfl, rfl, H.sel [] rfl⟩

/-! rejoinder/rejoinderkit.SameInts -/
def kit_SameInts_l0 (N : Nat) (aa : List Int) (b : List Int) : Nat → Int → Option (Unit ⊕ Bool)
  | 0, _ => none
  | m41 + 1, i25 =>
    if i25 < (((List.length aa) : Nat) : Int) then
      ask (idx i25 (List.length aa)) <|
      ask (idx i25 (List.length b)) <|
      if ((List.getD aa (Int.toNat i25) 0) : Int) = (List.getD b (Int.toNat i25) 0) then
        ask (in64 (i25 + 1)) <|
        kit_SameInts_l0 N aa b m41 (i25 + 1)
      else
        some (Sum.inr false)
    else
      some (Sum.inl ())
def kit_SameInts (N : Nat) (aa : List Int) (b : List Int) : Option Bool :=
  if ((((List.length aa) : Nat) : Int) : Int) = (((List.length b) : Nat) : Int) then
    Option.bind (kit_SameInts_l0 N aa b N 0) fun x42 =>
    Sum.elim (fun x47 =>
      some true)
     (fun x63 =>
      some x63) x42
  else
    some false
set_option maxRecDepth 100000 in
set_option maxHeartbeats 4000000 in
theorem kit_SameInts_calls {N : Nat} {S Fa : Nat → Prop} {w0 : World} {r : Bool} (A1 : Option Addr) (c2 : Nat) (A5 : Option Addr) (c6 : Nat) (aa : List Int) (b : List Int) (hk3 : List.length aa ≤ c2) (hk7 : List.length b ≤ c6) (H : Hp S Fa w0 w0 [.ro false (cInt .i64) A1 aa, .ro false (cInt .i64) A5 b]) (hP : kit_SameInts N aa b = some r) :
    Calls Try.prog 54 #[.slice A1 (List.length aa) c2, .slice A5 (List.length b) c6] w0 fun e w' => ∃ v, e = .returned v ∧ v = .bool r ∧ Hp S Fa w0 w' [] := by
 refine enterV (n := 26) Try.func54 rfl rfl rfl ?_
 intro a E
 replace E := E.pick [(0, .slice A1 (List.length aa) c2), (1, .slice A5 (List.length b) c6)] ⟨rfl, rfl, trivial⟩
 rw [kit_SameInts] at hP
 refine wp_seq ?_
 refine wp_region_lit ?_
 refine vn tbok 1 [] [] [] E (by kernel_rfl) (by kernel_rfl) trivial ?_
 clear E; intro a E
 refine wpList_nil ?_
 refine th_n ?_
 refine wp_seq ?_
 refine wp_seq ?_
 refine wp_region_lit ?_
 refine vn tbok 5 [] [(10, .bool (((((List.length aa) : Nat) : Int) : Int) != (((List.length b) : Nat) : Int)))] [] E (by kernel_rfl) (by kernel_rfl) trivial ?_
 clear E; intro a E
 refine wpList_nil ?_
 refine th_n ?_
 refine E.cases (t := 10) rfl (fun hb_ E_ => ?_) (fun hb_ E_ => ?_)
 ·
  replace E := E_; clear E_
  have h9 : ¬ (((((List.length aa) : Nat) : Int) : Int) = (((List.length b) : Nat) : Int)) := bne_iff_ne.1 hb_
  clear hb_; replace hP := ite_f h9 hP
  refine c_true E rfl ?_
  refine wp_seq ?_
  refine wp_region_lit ?_
  refine vn tbok 1 [] [(4, .bool false)] [] E (by kernel_rfl) (by kernel_rfl) trivial ?_
  clear E; intro a E
  refine wpList_nil ?_
  refine th_n ?_
  refine wp_ret ?_
  refine th_ret ?_
  obtain rfl := Option.some.inj hP
  refine ret1 E rfl rfl ?_
  exact ⟨_, rfl, rfl, H.sel [] rfl⟩
 replace E := E_; clear E_
 have h10 : ((((List.length aa) : Nat) : Int) : Int) = (((List.length b) : Nat) : Int) := bne_eq_false_iff_eq.1 hb_
 clear hb_; replace hP := ite_t h10 hP
 refine c_false E rfl ?_
 refine wp_skip ?_
 refine th_n ?_
 refine wp_seq ?_
 refine wp_seq ?_
 refine wp_region_lit ?_
 refine vn tbok 1 [] [(5, .int .i64 0)] [] E (by kernel_rfl) (by kernel_rfl) trivial ?_
 clear E; intro a E
 refine wpList_nil ?_
 refine th_n ?_
 refine wp_block ?_
 obtain ⟨x42, hL43, hK44⟩ := bind_inv hP
 clear hP
 refine loop_cut (fun i_ a w_ => (i_ = 0 ∧ ∃ (x47 : Unit), Fr a 26 [] ∧ Hp S Fa w0 w_ [] ∧ x42 = Sum.inl x47)) ?_ ?_
 ·
  refine loopV (fun m46 a w45 => ∃ (i25 : Int), Fr a 26 [(0, .slice A1 (List.length aa) c2), (1, .slice A5 (List.length b) c6), (5, .int .i64 i25)] ∧ Hp S Fa w0 w45 [.ro false (cInt .i64) A1 aa, .ro false (cInt .i64) A5 b] ∧ kit_SameInts_l0 N aa b m46 i25 = some x42) N ?_ ?_
  ·
   exact ⟨0, E.pick _ ⟨rfl, rfl, rfl, trivial⟩, H.sel [0, 1] rfl, hL43⟩
  clear E H hL43; intro m46 a w45 hI_
  obtain ⟨i25, E, H, hP⟩ := hI_
  obtain ⟨m41, rfl⟩ : ∃ q_, m46 = q_ + 1 := by cases m46 with | zero => rw [kit_SameInts_l0] at hP; cases hP | succ q_ => exact ⟨q_, rfl⟩
  rw [kit_SameInts_l0] at hP
  refine wp_seq ?_
  refine wp_seq ?_
  refine wp_region_lit ?_
  refine vn tbok 4 [] [(14, .bool (decide (i25 < (((List.length aa) : Nat) : Int))))] [] E (by kernel_rfl) (by kernel_rfl) trivial ?_
  clear E; intro a E
  refine wpList_nil ?_
  refine th_n ?_
  refine E.cases (t := 14) rfl (fun hb_ E_ => ?_) (fun hb_ E_ => ?_)
  ·
   replace E := E_; clear E_
   have h48 : i25 < (((List.length aa) : Nat) : Int) := of_decide_eq_true hb_
   clear hb_; replace hP := ite_t h48 hP
   refine c_true E rfl ?_
   refine wp_skip ?_
   refine th_n ?_
   refine wp_seq ?_
   refine wp_block ?_
   refine wp_seq ?_
   obtain ⟨g49, hP⟩ := ask_inv hP
   obtain ⟨b50, o51, e_b50⟩ := (H.rd 0 rds_ro).addr (idx_pos g49)
   subst e_b50
   obtain ⟨g52, hP⟩ := ask_inv hP
   obtain ⟨b53, o54, e_b53⟩ := (H.rd 1 rds_ro).addr (idx_pos g52)
   subst e_b53
   have HR58 := H
   refine dr_start (S := fun w_ => Chg (atL []) w45 w_) (by kernel_rfl) ?_
   intro w55 hc56
   have HS57 : Chg (atL []) w45 w55 := hc56.mono (fun _ _ h_ => h_.elim)
   replace H := H.ext hc56
   refine dn tbok (by kernel_rfl) [0, 1, 2, 3, 4, 5, 6, 7, 8] [.int .i64 (List.getD aa (Int.toNat i25) 0), .int .i64 (List.getD b (Int.toNat i25) 0)] [(25, .bool (((List.getD aa (Int.toNat i25) 0) : Int) != (List.getD b (Int.toNat i25) 0)))] (fun w_ => [0 ≤ i25 ∧ i25 < (((List.length aa) : Nat) : Int), World.cell? w_ ⟨b50, o51 + (Int.toNat i25) * 1, none⟩ = some (.int .i64 (List.getD aa (Int.toNat i25) 0)), 0 ≤ i25 ∧ i25 < (((List.length b) : Nat) : Int), World.cell? w_ ⟨b53, o54 + (Int.toNat i25) * 1, none⟩ = some (.int .i64 (List.getD b (Int.toNat i25) 0))]) 0 E (fun _ _ => by kernel_rfl) (by kernel_rfl) (fun w_ hS_ => ⟨g49, Rds.at1 (HR58.rdk [] hS_ 0 rds_ro rfl) 0 g49, g52, Rds.at1 (HR58.rdk [] hS_ 1 rds_ro rfl) 0 g52⟩) (by kernel_rfl) HS57 ?_
   clear E; intro a E
   refine dr_done (by kernel_rfl) ?_
   clear HS57 HR58
   refine th_n ?_
   refine E.cases (t := 25) rfl (fun hb_ E_ => ?_) (fun hb_ E_ => ?_)
   ·
    replace E := E_; clear E_
    have h59 : ¬ (((List.getD aa (Int.toNat i25) 0) : Int) = (List.getD b (Int.toNat i25) 0)) := bne_iff_ne.1 hb_
    clear hb_; replace hP := ite_f h59 hP
    refine c_true E rfl ?_
    refine wp_seq ?_
    refine wp_region_lit ?_
    refine vn tbok 1 [] [(4, .bool false)] [] E (by kernel_rfl) (by kernel_rfl) trivial ?_
    clear E; intro a E
    refine wpList_nil ?_
    refine th_n ?_
    refine wp_ret ?_
    refine bl_ret ?_
    refine th_ret ?_
    refine th_ret ?_
    refine .inr ⟨rfl, ?_⟩
    refine bl_ret ?_
    refine th_ret ?_
    have hx_ := Option.some.inj hP; subst hx_
    have hP : some (false) = some r := hK44
    obtain rfl := Option.some.inj hP
    refine ret1 E rfl rfl ?_
    exact ⟨_, rfl, rfl, H.sel [] rfl⟩
   replace E := E_; clear E_
   have h60 : ((List.getD aa (Int.toNat i25) 0) : Int) = (List.getD b (Int.toNat i25) 0) := bne_eq_false_iff_eq.1 hb_
   clear hb_; replace hP := ite_t h60 hP
   refine c_false E rfl ?_
   refine wp_skip ?_
   refine bl_n ?_
   refine th_n ?_
   refine wp_region_lit ?_
   obtain ⟨g61, hP⟩ := ask_inv hP
   refine vn tbok 3 [.int .i64 (i25 + 1)] [(5, .int .i64 (i25 + 1))] [IntKind.i64.wrap (i25 + 1) = i25 + 1] E (by kernel_rfl) (by kernel_rfl) (wrap_in g61) ?_
   clear E; intro a E
   refine wpList_nil ?_
   exact th_n ⟨m41, Nat.lt_succ_self _, i25 + 1, E.pick _ ⟨rfl, rfl, rfl, trivial⟩, H.sel [0, 1] rfl, hP⟩
  replace E := E_; clear E_
  have h62 : ¬ (i25 < (((List.length aa) : Nat) : Int)) := of_decide_eq_false hb_
  clear hb_; replace hP := ite_f h62 hP
  refine c_false E rfl ?_
  refine wp_exit ?_
  refine th_exit ?_
  have hx_ := Option.some.inj hP
  refine th_exit (.inl ⟨0, rfl, ?_⟩)
  exact ⟨rfl, (), E.pick _ trivial, H.sel [] rfl, hx_.symm⟩
 clear E H hL43; intro i_ a w45 hM_
 obtain ⟨rfl, x47, E, H, hx_⟩ := hM_
 subst hx_; have hP := elim_l hK44
 clear hK44
 refine bl_hit ?_
 refine th_n ?_
 refine wp_seq ?_
 refine wp_region_lit ?_
 refine vn tbok 1 [] [(4, .bool true)] [] E (by kernel_rfl) (by kernel_rfl) trivial ?_
 clear E; intro a E
 refine wpList_nil ?_
 refine th_n ?_
 refine wp_ret ?_
 obtain rfl := Option.some.inj hP
 refine ret1 E rfl rfl ?_
 exact ⟨_, rfl, rfl, H.sel [] rfl⟩

/-! rejoinder/rejoinderkit.SameNodes -/
def kit_SameNodes_l0 (N : Nat) (aa : List Nd) (b : List Nd) : Nat → Int → Option (Unit ⊕ Bool)
  | 0, _ => none
  | m41 + 1, i25 =>
    if i25 < (((List.length aa) : Nat) : Int) then
      ask (idx i25 (List.length aa)) <|
      ask (idx i25 (List.length b)) <|
      if (List.getD aa (Int.toNat i25) (default : Nd)) = (List.getD b (Int.toNat i25) (default : Nd)) then
        ask (in64 (i25 + 1)) <|
        kit_SameNodes_l0 N aa b m41 (i25 + 1)
      else
        some (Sum.inr false)
    else
      some (Sum.inl ())
def kit_SameNodes (N : Nat) (aa : List Nd) (b : List Nd) : Option Bool :=
  if ((((List.length aa) : Nat) : Int) : Int) = (((List.length b) : Nat) : Int) then
    Option.bind (kit_SameNodes_l0 N aa b N 0) fun x42 =>
    Sum.elim (fun x47 =>
      some true)
     (fun x63 =>
      some x63) x42
  else
    some false
set_option maxRecDepth 100000 in
set_option maxHeartbeats 4000000 in
theorem kit_SameNodes_calls {N : Nat} {S Fa : Nat → Prop} {w0 : World} {r : Bool} (A1 : Option Addr) (c2 : Nat) (A5 : Option Addr) (c6 : Nat) (aa : List Nd) (b : List Nd) (hk3 : List.length aa ≤ c2) (hk7 : List.length b ≤ c6) (H : Hp S Fa w0 w0 [.ro false cNode A1 aa, .ro false cNode A5 b]) (hP : kit_SameNodes N aa b = some r) :
    Calls Try.prog 55 #[.slice A1 (List.length aa) c2, .slice A5 (List.length b) c6] w0 fun e w' => ∃ v, e = .returned v ∧ v = .bool r ∧ Hp S Fa w0 w' [] := by
 refine enterV (n := 26) Try.func55 rfl rfl rfl ?_
 intro a E
 replace E := E.pick [(0, .slice A1 (List.length aa) c2), (1, .slice A5 (List.length b) c6)] ⟨rfl, rfl, trivial⟩
 rw [kit_SameNodes] at hP
 refine wp_seq ?_
 refine wp_region_lit ?_
 refine vn tbok 1 [] [] [] E (by kernel_rfl) (by kernel_rfl) trivial ?_
 clear E; intro a E
 refine wpList_nil ?_
 refine th_n ?_
 refine wp_seq ?_
 refine wp_seq ?_
 refine wp_region_lit ?_
 refine vn tbok 5 [] [(10, .bool (((((List.length aa) : Nat) : Int) : Int) != (((List.length b) : Nat) : Int)))] [] E (by kernel_rfl) (by kernel_rfl) trivial ?_
 clear E; intro a E
 refine wpList_nil ?_
 refine th_n ?_
 refine E.cases (t := 10) rfl (fun hb_ E_ => ?_) (fun hb_ E_ => ?_)
 ·
  replace E := E_; clear E_
  have h9 : ¬ (((((List.length aa) : Nat) : Int) : Int) = (((List.length b) : Nat) : Int)) := bne_iff_ne.1 hb_
  clear hb_; replace hP := ite_f h9 hP
  refine c_true E rfl ?_
  refine wp_seq ?_
  refine wp_region_lit ?_
  refine vn tbok 1 [] [(4, .bool false)] [] E (by kernel_rfl) (by kernel_rfl) trivial ?_
  clear E; intro a E
  refine wpList_nil ?_
  refine th_n ?_
  refine wp_ret ?_
  refine th_ret ?_
  obtain rfl := Option.some.inj hP
  refine ret1 E rfl rfl ?_
  exact ⟨_, rfl, rfl, H.sel [] rfl⟩
 replace E := E_; clear E_
 have h10 : ((((List.length aa) : Nat) : Int) : Int) = (((List.length b) : Nat) : Int) := bne_eq_false_iff_eq.1 hb_
 clear hb_; replace hP := ite_t h10 hP
 refine c_false E rfl ?_
 refine wp_skip ?_
 refine th_n ?_
 refine wp_seq ?_
 refine wp_seq ?_
 refine wp_region_lit ?_
 refine vn tbok 1 [] [(5, .int .i64 0)] [] E (by kernel_rfl) (by kernel_rfl) trivial ?_
 clear E; intro a E
 refine wpList_nil ?_
 refine th_n ?_
 refine wp_block ?_
 obtain ⟨x42, hL43, hK44⟩ := bind_inv hP
 clear hP
 refine loop_cut (fun i_ a w_ => (i_ = 0 ∧ ∃ (x47 : Unit), Fr a 26 [] ∧ Hp S Fa w0 w_ [] ∧ x42 = Sum.inl x47)) ?_ ?_
 ·
  refine loopV (fun m46 a w45 => ∃ (i25 : Int), Fr a 26 [(0, .slice A1 (List.length aa) c2), (1, .slice A5 (List.length b) c6), (5, .int .i64 i25)] ∧ Hp S Fa w0 w45 [.ro false cNode A1 aa, .ro false cNode A5 b] ∧ kit_SameNodes_l0 N aa b m46 i25 = some x42) N ?_ ?_
  ·
   exact ⟨0, E.pick _ ⟨rfl, rfl, rfl, trivial⟩, H.sel [0, 1] rfl, hL43⟩
  clear E H hL43; intro m46 a w45 hI_
  obtain ⟨i25, E, H, hP⟩ := hI_
  obtain ⟨m41, rfl⟩ : ∃ q_, m46 = q_ + 1 := by cases m46 with | zero => rw [kit_SameNodes_l0] at hP; cases hP | succ q_ => exact ⟨q_, rfl⟩
  rw [kit_SameNodes_l0] at hP
  refine wp_seq ?_
  refine wp_seq ?_
  refine wp_region_lit ?_
  refine vn tbok 4 [] [(14, .bool (decide (i25 < (((List.length aa) : Nat) : Int))))] [] E (by kernel_rfl) (by kernel_rfl) trivial ?_
  clear E; intro a E
  refine wpList_nil ?_
  refine th_n ?_
  refine E.cases (t := 14) rfl (fun hb_ E_ => ?_) (fun hb_ E_ => ?_)
  ·
   replace E := E_; clear E_
   have h48 : i25 < (((List.length aa) : Nat) : Int) := of_decide_eq_true hb_
   clear hb_; replace hP := ite_t h48 hP
   refine c_true E rfl ?_
   refine wp_skip ?_
   refine th_n ?_
   refine wp_seq ?_
   refine wp_block ?_
   refine wp_seq ?_
   obtain ⟨g49, hP⟩ := ask_inv hP
   obtain ⟨b50, o51, e_b50⟩ := (H.rd 0 rds_ro).addr (idx_pos g49)
   subst e_b50
   obtain ⟨g52, hP⟩ := ask_inv hP
   obtain ⟨b53, o54, e_b53⟩ := (H.rd 1 rds_ro).addr (idx_pos g52)
   subst e_b53
   have HR58 := H
   refine dr_start (S := fun w_ => Chg (atL []) w45 w_) (by kernel_rfl) ?_
   intro w55 hc56
   have HS57 : Chg (atL []) w45 w55 := hc56.mono (fun _ _ h_ => h_.elim)
   replace H := H.ext hc56
   refine dn tbok (by kernel_rfl) [0, 1, 2, 3, 4, 5, 6, 7] [.agg #[.int .i64 ((List.getD aa (Int.toNat i25) (default : Nd)).P), .int .i64 ((List.getD aa (Int.toNat i25) (default : Nd)).Lo), .int .i64 ((List.getD aa (Int.toNat i25) (default : Nd)).Hi)], .agg #[.int .i64 ((List.getD b (Int.toNat i25) (default : Nd)).P), .int .i64 ((List.getD b (Int.toNat i25) (default : Nd)).Lo), .int .i64 ((List.getD b (Int.toNat i25) (default : Nd)).Hi)]] [(20, .agg #[.int .i64 ((List.getD aa (Int.toNat i25) (default : Nd)).P), .int .i64 ((List.getD aa (Int.toNat i25) (default : Nd)).Lo), .int .i64 ((List.getD aa (Int.toNat i25) (default : Nd)).Hi)]), (24, .agg #[.int .i64 ((List.getD b (Int.toNat i25) (default : Nd)).P), .int .i64 ((List.getD b (Int.toNat i25) (default : Nd)).Lo), .int .i64 ((List.getD b (Int.toNat i25) (default : Nd)).Hi)])] (fun w_ => [0 ≤ i25 ∧ i25 < (((List.length aa) : Nat) : Int), cellsAt w_ b50 (o51 + (Int.toNat i25) * 3) [.int .i64 ((List.getD aa (Int.toNat i25) (default : Nd)).P), .int .i64 ((List.getD aa (Int.toNat i25) (default : Nd)).Lo), .int .i64 ((List.getD aa (Int.toNat i25) (default : Nd)).Hi)], 0 ≤ i25 ∧ i25 < (((List.length b) : Nat) : Int), cellsAt w_ b53 (o54 + (Int.toNat i25) * 3) [.int .i64 ((List.getD b (Int.toNat i25) (default : Nd)).P), .int .i64 ((List.getD b (Int.toNat i25) (default : Nd)).Lo), .int .i64 ((List.getD b (Int.toNat i25) (default : Nd)).Hi)]]) 1 E (fun _ _ => by kernel_rfl) (by kernel_rfl) (fun w_ hS_ => ⟨g49, Rds.atP (HR58.rdk [] hS_ 0 rds_ro rfl) (default : Nd) g49, g52, Rds.atP (HR58.rdk [] hS_ 1 rds_ro rfl) (default : Nd) g52⟩) (by kernel_rfl) HS57 ?_
   clear E; intro a E
   refine wpAnyH_all (rs := [8]) (by kernel_rfl) (by simp) ?_
   refine all1 ?_
   refine wpOp_of_list rfl ?_
   refine e_eqS E rfl rfl rfl rfl grdNd (eqNd (List.getD aa (Int.toNat i25) (default : Nd)) (List.getD b (Int.toNat i25) (default : Nd)) _) (!decide ((List.getD aa (Int.toNat i25) (default : Nd)) = (List.getD b (Int.toNat i25) (default : Nd)))) (.inr ⟨rfl, rfl⟩) rfl ?_
   clear E; intro a E
   refine wpList_nil ?_
   refine th_n ⟨HS57, ?_⟩
   refine dr_done (by kernel_rfl) ?_
   clear HS57 HR58
   refine th_n ?_
   refine E.cases (t := 25) rfl (fun hb_ E_ => ?_) (fun hb_ E_ => ?_)
   ·
    replace E := E_; clear E_
    have h59 : ¬ ((List.getD aa (Int.toNat i25) (default : Nd)) = (List.getD b (Int.toNat i25) (default : Nd))) := of_decide_eq_false (not_t hb_)
    clear hb_; replace hP := ite_f h59 hP
    refine c_true E rfl ?_
    refine wp_seq ?_
    refine wp_region_lit ?_
    refine vn tbok 1 [] [(4, .bool false)] [] E (by kernel_rfl) (by kernel_rfl) trivial ?_
    clear E; intro a E
    refine wpList_nil ?_
    refine th_n ?_
    refine wp_ret ?_
    refine bl_ret ?_
    refine th_ret ?_
    refine th_ret ?_
    refine .inr ⟨rfl, ?_⟩
    refine bl_ret ?_
    refine th_ret ?_
    have hx_ := Option.some.inj hP; subst hx_
    have hP : some (false) = some r := hK44
    obtain rfl := Option.some.inj hP
    refine ret1 E rfl rfl ?_
    exact ⟨_, rfl, rfl, H.sel [] rfl⟩
   replace E := E_; clear E_
   have h60 : (List.getD aa (Int.toNat i25) (default : Nd)) = (List.getD b (Int.toNat i25) (default : Nd)) := of_decide_eq_true (not_f hb_)
   clear hb_; replace hP := ite_t h60 hP
   refine c_false E rfl ?_
   refine wp_skip ?_
   refine bl_n ?_
   refine th_n ?_
   refine wp_region_lit ?_
   obtain ⟨g61, hP⟩ := ask_inv hP
   refine vn tbok 3 [.int .i64 (i25 + 1)] [(5, .int .i64 (i25 + 1))] [IntKind.i64.wrap (i25 + 1) = i25 + 1] E (by kernel_rfl) (by kernel_rfl) (wrap_in g61) ?_
   clear E; intro a E
   refine wpList_nil ?_
   exact th_n ⟨m41, Nat.lt_succ_self _, i25 + 1, E.pick _ ⟨rfl, rfl, rfl, trivial⟩, H.sel [0, 1] rfl, hP⟩
  replace E := E_; clear E_
  have h62 : ¬ (i25 < (((List.length aa) : Nat) : Int)) := of_decide_eq_false hb_
  clear hb_; replace hP := ite_f h62 hP
  refine c_false E rfl ?_
  refine wp_exit ?_
  refine th_exit ?_
  have hx_ := Option.some.inj hP
  refine th_exit (.inl ⟨0, rfl, ?_⟩)
  exact ⟨rfl, (), E.pick _ trivial, H.sel [] rfl, hx_.symm⟩
 clear E H hL43; intro i_ a w45 hM_
 obtain ⟨rfl, x47, E, H, hx_⟩ := hM_
 subst hx_; have hP := elim_l hK44
 clear hK44
 refine bl_hit ?_
 refine th_n ?_
 refine wp_seq ?_
 refine wp_region_lit ?_
 refine vn tbok 1 [] [(4, .bool true)] [] E (by kernel_rfl) (by kernel_rfl) trivial ?_
 clear E; intro a E
 refine wpList_nil ?_
 refine th_n ?_
 refine wp_ret ?_
 obtain rfl := Option.some.inj hP
 refine ret1 E rfl rfl ?_
 exact ⟨_, rfl, rfl, H.sel [] rfl⟩

/-! rejoinder/rejoinderkit.SameAuto -/
def kit_SameAuto (N : Nat) (aProps : Int) (aAccept : List Bool) (aGuard : List Int) (aNodes : List Nd) (bProps : Int) (bAccept : List Bool) (bGuard : List Int) (bNodes : List Nd) : Option Bool :=
  if (aProps : Int) = bProps then
    Option.bind (kit_SameBools N aAccept bAccept) fun r36 =>
    if r36 = true then
      Option.bind (kit_SameInts N aGuard bGuard) fun r46 =>
      if r46 = true then
        Option.bind (kit_SameNodes N aNodes bNodes) fun r56 =>
        some r56
      else
        some false
    else
      some false
  else
    some false
set_option maxRecDepth 100000 in
set_option maxHeartbeats 4000000 in
theorem kit_SameAuto_calls {N : Nat} {S Fa : Nat → Prop} {w0 : World} {r : Bool} (A1 : Option Addr) (c2 : Nat) (A5 : Option Addr) (c6 : Nat) (A9 : Option Addr) (c10 : Nat) (A13 : Option Addr) (c14 : Nat) (A17 : Option Addr) (c18 : Nat) (A21 : Option Addr) (c22 : Nat) (aProps : Int) (aAccept : List Bool) (aGuard : List Int) (aNodes : List Nd) (bProps : Int) (bAccept : List Bool) (bGuard : List Int) (bNodes : List Nd) (hk3 : List.length aAccept ≤ c2) (hk7 : List.length aGuard ≤ c6) (hk11 : List.length aNodes ≤ c10) (hk15 : List.length bAccept ≤ c14) (hk19 : List.length bGuard ≤ c18) (hk23 : List.length bNodes ≤ c22) (H : Hp S Fa w0 w0 [.ro false cBool A1 aAccept, .ro false (cInt .i64) A5 aGuard, .ro false cNode A9 aNodes, .ro false cBool A13 bAccept, .ro false (cInt .i64) A17 bGuard, .ro false cNode A21 bNodes]) (hP : kit_SameAuto N aProps aAccept aGuard aNodes bProps bAccept bGuard bNodes = some r) :
    Calls Try.prog 26 #[.agg #[.int .i64 aProps, .slice A1 (List.length aAccept) c2, .slice A5 (List.length aGuard) c6, .slice A9 (List.length aNodes) c10], .agg #[.int .i64 bProps, .slice A13 (List.length bAccept) c14, .slice A17 (List.length bGuard) c18, .slice A21 (List.length bNodes) c22]] w0 fun e w' => ∃ v, e = .returned v ∧ v = .bool r ∧ Hp S Fa w0 w' [] := by
 refine enterV (n := 31) Try.func26 rfl rfl rfl ?_
 intro a E
 replace E := E.pick [(0, .agg #[.int .i64 aProps, .slice A1 (List.length aAccept) c2, .slice A5 (List.length aGuard) c6, .slice A9 (List.length aNodes) c10]), (1, .agg #[.int .i64 bProps, .slice A13 (List.length bAccept) c14, .slice A17 (List.length bGuard) c18, .slice A21 (List.length bNodes) c22])] ⟨rfl, rfl, trivial⟩
 rw [kit_SameAuto] at hP
 refine wp_seq ?_
 refine wp_region_lit ?_
 refine h_box H E rfl rfl rfl ?_
 intro w26 g25 a hc27 hg29 H_ E_
 replace E := E_ _ rfl; clear E_
 replace H := H_; clear H_; try dsimp only [setn, addE, goneL] at H
 refine h_box H E rfl rfl rfl ?_
 intro w31 g30 a hc32 hg34 H_ E_
 replace E := E_ _ rfl; clear E_
 replace H := H_; clear H_; try dsimp only [setn, addE, goneL] at H
 refine vn tbok 1 [] [] [] E (by kernel_rfl) (by kernel_rfl) trivial ?_
 clear E; intro a E
 refine wpList_nil ?_
 refine th_n ?_
 refine wp_seq ?_
 refine wp_region_lit ?_
 refine vn tbok 6 [.int .i64 aProps, .int .i64 bProps] [(10, .bool ((aProps : Int) == bProps))] [World.cell? w31 ⟨g25, 0, none⟩ = some (.int .i64 aProps), World.cell? w31 ⟨g30, 0, none⟩ = some (.int .i64 bProps)] E (by kernel_rfl) (by kernel_rfl) ⟨(H.box 6 rfl).cell (j := 0) rfl, (H.box 7 rfl).cell (j := 0) rfl⟩ ?_
 clear E; intro a E
 refine E.cases (t := 10) rfl (fun hb_ E_ => ?_) (fun hb_ E_ => ?_)
 ·
  replace E := E_; clear E_
  have h35 : (aProps : Int) = bProps := eq_of_beq hb_
  clear hb_; replace hP := ite_t h35 hP
  refine vn tbok 4 [.slice A1 (List.length aAccept) c2, .slice A13 (List.length bAccept) c14] [(12, .slice A1 (List.length aAccept) c2), (14, .slice A13 (List.length bAccept) c14)] [World.cell? w31 ⟨g25, 1, none⟩ = some (.slice A1 (List.length aAccept) c2), World.cell? w31 ⟨g30, 1, none⟩ = some (.slice A13 (List.length bAccept) c14)] E (by kernel_rfl) (by kernel_rfl) ⟨(H.box 6 rfl).cell (j := 1) rfl, (H.box 7 rfl).cell (j := 1) rfl⟩ ?_
  clear E; intro a E
  obtain ⟨r36, h37, hP⟩ := bind_inv hP
  obtain ⟨Fa38, Hc39, hb40⟩ := H.call [] [(0, false), (3, false)] rfl rfl trivial
  refine e_call E rfl rfl Try.func53 rfl rfl rfl (kit_SameBools_calls A1 c2 A13 c14 aAccept bAccept hk3 hk15 Hc39 h37) ?_
  rintro v41 w42 a ⟨rfl, HR43⟩ E_
  replace E := E_ _ rfl; clear E_
  obtain ⟨H_, hc44⟩ := hb40 _ _ HR43 rfl
  replace H := H_; clear H_; try dsimp only [setn, addE, goneL] at H
  refine vn tbok 2 [] [(17, .bool r36)] [] E (by kernel_rfl) (by kernel_rfl) trivial ?_
  clear E; intro a E
  refine E.cases (t := 17) rfl (fun hb_ E_ => ?_) (fun hb_ E_ => ?_)
  ·
   replace E := E_; clear E_
   have h45 : r36 = true := hb_
   clear hb_; replace hP := ite_t h45 hP
   refine vn tbok 4 [.slice A5 (List.length aGuard) c6, .slice A17 (List.length bGuard) c18] [(19, .slice A5 (List.length aGuard) c6), (21, .slice A17 (List.length bGuard) c18)] [World.cell? w42 ⟨g25, 2, none⟩ = some (.slice A5 (List.length aGuard) c6), World.cell? w42 ⟨g30, 2, none⟩ = some (.slice A17 (List.length bGuard) c18)] E (by kernel_rfl) (by kernel_rfl) ⟨(H.box 6 rfl).cell (j := 2) rfl, (H.box 7 rfl).cell (j := 2) rfl⟩ ?_
   clear E; intro a E
   obtain ⟨r46, h47, hP⟩ := bind_inv hP
   obtain ⟨Fa48, Hc49, hb50⟩ := H.call [] [(1, false), (4, false)] rfl rfl trivial
   refine e_call E rfl rfl Try.func54 rfl rfl rfl (kit_SameInts_calls A5 c6 A17 c18 aGuard bGuard hk7 hk19 Hc49 h47) ?_
   rintro v51 w52 a ⟨rfl, HR53⟩ E_
   replace E := E_ _ rfl; clear E_
   obtain ⟨H_, hc54⟩ := hb50 _ _ HR53 rfl
   replace H := H_; clear H_; try dsimp only [setn, addE, goneL] at H
   refine vn tbok 2 [] [(24, .bool r46)] [] E (by kernel_rfl) (by kernel_rfl) trivial ?_
   clear E; intro a E
   refine E.cases (t := 24) rfl (fun hb_ E_ => ?_) (fun hb_ E_ => ?_)
   ·
    replace E := E_; clear E_
    have h55 : r46 = true := hb_
    clear hb_; replace hP := ite_t h55 hP
    refine vn tbok 4 [.slice A9 (List.length aNodes) c10, .slice A21 (List.length bNodes) c22] [(26, .slice A9 (List.length aNodes) c10), (28, .slice A21 (List.length bNodes) c22)] [World.cell? w52 ⟨g25, 3, none⟩ = some (.slice A9 (List.length aNodes) c10), World.cell? w52 ⟨g30, 3, none⟩ = some (.slice A21 (List.length bNodes) c22)] E (by kernel_rfl) (by kernel_rfl) ⟨(H.box 6 rfl).cell (j := 3) rfl, (H.box 7 rfl).cell (j := 3) rfl⟩ ?_
    clear E; intro a E
    obtain ⟨r56, h57, hP⟩ := bind_inv hP
    obtain ⟨Fa58, Hc59, hb60⟩ := H.call [] [(2, false), (5, false)] rfl rfl trivial
    refine e_call E rfl rfl Try.func55 rfl rfl rfl (kit_SameNodes_calls A9 c10 A21 c22 aNodes bNodes hk11 hk23 Hc59 h57) ?_
    rintro v61 w62 a ⟨rfl, HR63⟩ E_
    replace E := E_ _ rfl; clear E_
    obtain ⟨H_, hc64⟩ := hb60 _ _ HR63 rfl
    replace H := H_; clear H_; try dsimp only [setn, addE, goneL] at H
    refine vn tbok 2 [] [(4, .bool r56)] [] E (by kernel_rfl) (by kernel_rfl) trivial ?_
    clear E; intro a E
    refine wpList_nil ?_
    refine th_n ?_
    refine wp_ret ?_
    obtain rfl := Option.some.inj hP
    refine ret1 E rfl rfl ?_
    exact ⟨_, rfl, rfl, H.sel [] rfl⟩
   replace E := E_; clear E_
   have h65 : ¬ (r46 = true) := (ne_true_of_eq_false hb_)
   clear hb_; replace hP := ite_f h65 hP
   refine vn tbok 7 [] [(4, .bool false)] [] E (by kernel_rfl) (by kernel_rfl) trivial ?_
   clear E; intro a E
   refine wpList_nil ?_
   refine th_n ?_
   refine wp_ret ?_
   obtain rfl := Option.some.inj hP
   refine ret1 E rfl rfl ?_
   exact ⟨_, rfl, rfl, H.sel [] rfl⟩
  replace E := E_; clear E_
  have h66 : ¬ (r36 = true) := (ne_true_of_eq_false hb_)
  clear hb_; replace hP := ite_f h66 hP
  refine vn tbok 14 [] [(4, .bool false)] [] E (by kernel_rfl) (by kernel_rfl) trivial ?_
  clear E; intro a E
  refine wpList_nil ?_
  refine th_n ?_
  refine wp_ret ?_
  obtain rfl := Option.some.inj hP
  refine ret1 E rfl rfl ?_
  exact ⟨_, rfl, rfl, H.sel [] rfl⟩
 replace E := E_; clear E_
 have h67 : ¬ ((aProps : Int) = bProps) := ne_of_beq_false hb_
 clear hb_; replace hP := ite_f h67 hP
 refine vn tbok 21 [] [(4, .bool false)] [] E (by kernel_rfl) (by kernel_rfl) trivial ?_
 clear E; intro a E
 refine wpList_nil ?_
 refine th_n ?_
 refine wp_ret ?_
 obtain rfl := Option.some.inj hP
 refine ret1 E rfl rfl ?_
 exact ⟨_, rfl, rfl, H.sel [] rfl⟩

/-! rejoinder/rejoinderkit.SameLetters -/
def kit_SameLetters_l0 (N : Nat) (aa : List Int) (b : List Int) : Nat → Int → Option (Unit ⊕ Bool)
  | 0, _ => none
  | m41 + 1, i25 =>
    if i25 < (((List.length aa) : Nat) : Int) then
      ask (idx i25 (List.length aa)) <|
      ask (idx i25 (List.length b)) <|
      if ((List.getD aa (Int.toNat i25) 0) : Int) = (List.getD b (Int.toNat i25) 0) then
        ask (in64 (i25 + 1)) <|
        kit_SameLetters_l0 N aa b m41 (i25 + 1)
      else
        some (Sum.inr false)
    else
      some (Sum.inl ())
def kit_SameLetters (N : Nat) (aa : List Int) (b : List Int) : Option Bool :=
  if ((((List.length aa) : Nat) : Int) : Int) = (((List.length b) : Nat) : Int) then
    Option.bind (kit_SameLetters_l0 N aa b N 0) fun x42 =>
    Sum.elim (fun x47 =>
      some true)
     (fun x63 =>
      some x63) x42
  else
    some false
set_option maxRecDepth 100000 in
set_option maxHeartbeats 4000000 in
theorem kit_SameLetters_calls {N : Nat} {S Fa : Nat → Prop} {w0 : World} {r : Bool} (A1 : Option Addr) (c2 : Nat) (A5 : Option Addr) (c6 : Nat) (aa : List Int) (b : List Int) (hk3 : List.length aa ≤ c2) (hk7 : List.length b ≤ c6) (H : Hp S Fa w0 w0 [.ro false (cInt .u8) A1 aa, .ro false (cInt .u8) A5 b]) (hP : kit_SameLetters N aa b = some r) :
    Calls Try.prog 23 #[.slice A1 (List.length aa) c2, .slice A5 (List.length b) c6] w0 fun e w' => ∃ v, e = .returned v ∧ v = .bool r ∧ Hp S Fa w0 w' [] := by
 refine enterV (n := 26) Try.func23 rfl rfl rfl ?_
 intro a E
 replace E := E.pick [(0, .slice A1 (List.length aa) c2), (1, .slice A5 (List.length b) c6)] ⟨rfl, rfl, trivial⟩
 rw [kit_SameLetters] at hP
 refine wp_seq ?_
 refine wp_region_lit ?_
 refine vn tbok 1 [] [] [] E (by kernel_rfl) (by kernel_rfl) trivial ?_
 clear E; intro a E
 refine wpList_nil ?_
 refine th_n ?_
 refine wp_seq ?_
 refine wp_seq ?_
 refine wp_region_lit ?_
 refine vn tbok 5 [] [(10, .bool (((((List.length aa) : Nat) : Int) : Int) != (((List.length b) : Nat) : Int)))] [] E (by kernel_rfl) (by kernel_rfl) trivial ?_
 clear E; intro a E
 refine wpList_nil ?_
 refine th_n ?_
 refine E.cases (t := 10) rfl (fun hb_ E_ => ?_) (fun hb_ E_ => ?_)
 ·
  replace E := E_; clear E_
  have h9 : ¬ (((((List.length aa) : Nat) : Int) : Int) = (((List.length b) : Nat) : Int)) := bne_iff_ne.1 hb_
  clear hb_; replace hP := ite_f h9 hP
  refine c_true E rfl ?_
  refine wp_seq ?_
  refine wp_region_lit ?_
  refine vn tbok 1 [] [(4, .bool false)] [] E (by kernel_rfl) (by kernel_rfl) trivial ?_
  clear E; intro a E
  refine wpList_nil ?_
  refine th_n ?_
  refine wp_ret ?_
  refine th_ret ?_
  obtain rfl := Option.some.inj hP
  refine ret1 E rfl rfl ?_
  exact ⟨_, rfl, rfl, H.sel [] rfl⟩
 replace E := E_; clear E_
 have h10 : ((((List.length aa) : Nat) : Int) : Int) = (((List.length b) : Nat) : Int) := bne_eq_false_iff_eq.1 hb_
 clear hb_; replace hP := ite_t h10 hP
 refine c_false E rfl ?_
 refine wp_skip ?_
 refine th_n ?_
 refine wp_seq ?_
 refine wp_seq ?_
 refine wp_region_lit ?_
 refine vn tbok 1 [] [(5, .int .i64 0)] [] E (by kernel_rfl) (by kernel_rfl) trivial ?_
 clear E; intro a E
 refine wpList_nil ?_
 refine th_n ?_
 refine wp_block ?_
 obtain ⟨x42, hL43, hK44⟩ := bind_inv hP
 clear hP
 refine loop_cut (fun i_ a w_ => (i_ = 0 ∧ ∃ (x47 : Unit), Fr a 26 [] ∧ Hp S Fa w0 w_ [] ∧ x42 = Sum.inl x47)) ?_ ?_
 ·
  refine loopV (fun m46 a w45 => ∃ (i25 : Int), Fr a 26 [(0, .slice A1 (List.length aa) c2), (1, .slice A5 (List.length b) c6), (5, .int .i64 i25)] ∧ Hp S Fa w0 w45 [.ro false (cInt .u8) A1 aa, .ro false (cInt .u8) A5 b] ∧ kit_SameLetters_l0 N aa b m46 i25 = some x42) N ?_ ?_
  ·
   exact ⟨0, E.pick _ ⟨rfl, rfl, rfl, trivial⟩, H.sel [0, 1] rfl, hL43⟩
  clear E H hL43; intro m46 a w45 hI_
  obtain ⟨i25, E, H, hP⟩ := hI_
  obtain ⟨m41, rfl⟩ : ∃ q_, m46 = q_ + 1 := by cases m46 with | zero => rw [kit_SameLetters_l0] at hP; cases hP | succ q_ => exact ⟨q_, rfl⟩
  rw [kit_SameLetters_l0] at hP
  refine wp_seq ?_
  refine wp_seq ?_
  refine wp_region_lit ?_
  refine vn tbok 4 [] [(14, .bool (decide (i25 < (((List.length aa) : Nat) : Int))))] [] E (by kernel_rfl) (by kernel_rfl) trivial ?_
  clear E; intro a E
  refine wpList_nil ?_
  refine th_n ?_
  refine E.cases (t := 14) rfl (fun hb_ E_ => ?_) (fun hb_ E_ => ?_)
  ·
   replace E := E_; clear E_
   have h48 : i25 < (((List.length aa) : Nat) : Int) := of_decide_eq_true hb_
   clear hb_; replace hP := ite_t h48 hP
   refine c_true E rfl ?_
   refine wp_skip ?_
   refine th_n ?_
   refine wp_seq ?_
   refine wp_block ?_
   refine wp_seq ?_
   obtain ⟨g49, hP⟩ := ask_inv hP
   obtain ⟨b50, o51, e_b50⟩ := (H.rd 0 rds_ro).addr (idx_pos g49)
   subst e_b50
   obtain ⟨g52, hP⟩ := ask_inv hP
   obtain ⟨b53, o54, e_b53⟩ := (H.rd 1 rds_ro).addr (idx_pos g52)
   subst e_b53
   have HR58 := H
   refine dr_start (S := fun w_ => Chg (atL []) w45 w_) (by kernel_rfl) ?_
   intro w55 hc56
   have HS57 : Chg (atL []) w45 w55 := hc56.mono (fun _ _ h_ => h_.elim)
   replace H := H.ext hc56
   refine dn tbok (by kernel_rfl) [0, 1, 2, 3, 4, 5, 6, 7, 8] [.int .u8 (List.getD aa (Int.toNat i25) 0), .int .u8 (List.getD b (Int.toNat i25) 0)] [(25, .bool (((List.getD aa (Int.toNat i25) 0) : Int) != (List.getD b (Int.toNat i25) 0)))] (fun w_ => [0 ≤ i25 ∧ i25 < (((List.length aa) : Nat) : Int), World.cell? w_ ⟨b50, o51 + (Int.toNat i25) * 1, none⟩ = some (.int .u8 (List.getD aa (Int.toNat i25) 0)), 0 ≤ i25 ∧ i25 < (((List.length b) : Nat) : Int), World.cell? w_ ⟨b53, o54 + (Int.toNat i25) * 1, none⟩ = some (.int .u8 (List.getD b (Int.toNat i25) 0))]) 0 E (fun _ _ => by kernel_rfl) (by kernel_rfl) (fun w_ hS_ => ⟨g49, Rds.at1 (HR58.rdk [] hS_ 0 rds_ro rfl) 0 g49, g52, Rds.at1 (HR58.rdk [] hS_ 1 rds_ro rfl) 0 g52⟩) (by kernel_rfl) HS57 ?_
   clear E; intro a E
   refine dr_done (by kernel_rfl) ?_
   clear HS57 HR58
   refine th_n ?_
   refine E.cases (t := 25) rfl (fun hb_ E_ => ?_) (fun hb_ E_ => ?_)
   ·
    replace E := E_; clear E_
    have h59 : ¬ (((List.getD aa (Int.toNat i25) 0) : Int) = (List.getD b (Int.toNat i25) 0)) := bne_iff_ne.1 hb_
    clear hb_; replace hP := ite_f h59 hP
    refine c_true E rfl ?_
    refine wp_seq ?_
    refine wp_region_lit ?_
    refine vn tbok 1 [] [(4, .bool false)] [] E (by kernel_rfl) (by kernel_rfl) trivial ?_
    clear E; intro a E
    refine wpList_nil ?_
    refine th_n ?_
    refine wp_ret ?_
    refine bl_ret ?_
    refine th_ret ?_
    refine th_ret ?_
    refine .inr ⟨rfl, ?_⟩
    refine bl_ret ?_
    refine th_ret ?_
    have hx_ := Option.some.inj hP; subst hx_
    have hP : some (false) = some r := hK44
    obtain rfl := Option.some.inj hP
    refine ret1 E rfl rfl ?_
    exact ⟨_, rfl, rfl, H.sel [] rfl⟩
   replace E := E_; clear E_
   have h60 : ((List.getD aa (Int.toNat i25) 0) : Int) = (List.getD b (Int.toNat i25) 0) := bne_eq_false_iff_eq.1 hb_
   clear hb_; replace hP := ite_t h60 hP
   refine c_false E rfl ?_
   refine wp_skip ?_
   refine bl_n ?_
   refine th_n ?_
   refine wp_region_lit ?_
   obtain ⟨g61, hP⟩ := ask_inv hP
   refine vn tbok 3 [.int .i64 (i25 + 1)] [(5, .int .i64 (i25 + 1))] [IntKind.i64.wrap (i25 + 1) = i25 + 1] E (by kernel_rfl) (by kernel_rfl) (wrap_in g61) ?_
   clear E; intro a E
   refine wpList_nil ?_
   exact th_n ⟨m41, Nat.lt_succ_self _, i25 + 1, E.pick _ ⟨rfl, rfl, rfl, trivial⟩, H.sel [0, 1] rfl, hP⟩
  replace E := E_; clear E_
  have h62 : ¬ (i25 < (((List.length aa) : Nat) : Int)) := of_decide_eq_false hb_
  clear hb_; replace hP := ite_f h62 hP
  refine c_false E rfl ?_
  refine wp_exit ?_
  refine th_exit ?_
  have hx_ := Option.some.inj hP
  refine th_exit (.inl ⟨0, rfl, ?_⟩)
  exact ⟨rfl, (), E.pick _ trivial, H.sel [] rfl, hx_.symm⟩
 clear E H hL43; intro i_ a w45 hM_
 obtain ⟨rfl, x47, E, H, hx_⟩ := hM_
 subst hx_; have hP := elim_l hK44
 clear hK44
 refine bl_hit ?_
 refine th_n ?_
 refine wp_seq ?_
 refine wp_region_lit ?_
 refine vn tbok 1 [] [(4, .bool true)] [] E (by kernel_rfl) (by kernel_rfl) trivial ?_
 clear E; intro a E
 refine wpList_nil ?_
 refine th_n ?_
 refine wp_ret ?_
 obtain rfl := Option.some.inj hP
 refine ret1 E rfl rfl ?_
 exact ⟨_, rfl, rfl, H.sel [] rfl⟩

/-! rejoinder/rejoinderlaw20.awake -/
/-! rejoinder/rejoinderlaw20.Small -/
end Go.V
