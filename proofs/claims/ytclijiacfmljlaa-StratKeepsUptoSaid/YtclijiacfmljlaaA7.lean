/- Plain functions, and the calls that give them. -/
import Derived.Test.YtclijiacfmljlaaA6
set_option linter.all false
set_option linter.unusedVariables false
set_option linter.unnecessarySimpa false
set_option linter.unusedSimpArgs false
namespace Go.V
open Go Go.Proofs
/-! rejoinder/rejoinderkit.SameInts -/
def kit_SameInts_l0 (N : Nat) (aa : List Int) (b : List Int) : Nat → Int → Option (Unit ⊕ Bool)
  | 0, _ => none
  | m41 + 1, i25 =>
    if i25 < (((List.length aa) : Nat) : Int) then
      ask (idx i25 (List.length aa)) <|
      ask (idx i25 (List.length b)) <|
      if ((List.getD aa (Int.toNat i25) 0) : Int) = (List.getD b (Int.toNat i25) 0) then
        ask (in64 (i25 + 1)) <|
        kit_SameInts_l0 N aa b m41 (i25 + 1)
      else
        some (Sum.inr false)
    else
      some (Sum.inl ())
def kit_SameInts (N : Nat) (aa : List Int) (b : List Int) : Option Bool :=
  if ((((List.length aa) : Nat) : Int) : Int) = (((List.length b) : Nat) : Int) then
    Option.bind (kit_SameInts_l0 N aa b N 0) fun x42 =>
    Sum.elim (fun x47 =>
      some true)
     (fun x63 =>
      some x63) x42
  else
    some false
set_option maxRecDepth 100000 in
set_option maxHeartbeats 4000000 in
theorem kit_SameInts_calls {N : Nat} {S Fa : Nat → Prop} {w0 : World} {r : Bool} (A1 : Option Addr) (c2 : Nat) (A5 : Option Addr) (c6 : Nat) (aa : List Int) (b : List Int) (hk3 : List.length aa ≤ c2) (hk7 : List.length b ≤ c6) (H : Hp S Fa w0 w0 [.ro false (cInt .i64) A1 aa, .ro false (cInt .i64) A5 b]) (hP : kit_SameInts N aa b = some r) :
    Calls Try.prog 19 #[.slice A1 (List.length aa) c2, .slice A5 (List.length b) c6] w0 fun e w' => ∃ v, e = .returned v ∧ v = .bool r ∧ Hp S Fa w0 w' [] := by
 refine enterV (n := 26) Try.func19 rfl rfl rfl ?_
 intro a E
 replace E := E.pick [(0, .slice A1 (List.length aa) c2), (1, .slice A5 (List.length b) c6)] ⟨rfl, rfl, trivial⟩
 rw [kit_SameInts] at hP
 refine wp_seq ?_
 refine wp_region_lit ?_
 refine vn tbok 1 [] [] [] E (by kernel_rfl) (by kernel_rfl) trivial ?_
 clear E; intro a E
 refine wpList_nil ?_
 refine th_n ?_
 refine wp_seq ?_
 refine wp_seq ?_
 refine wp_region_lit ?_
 refine vn tbok 5 [] [(10, .bool (((((List.length aa) : Nat) : Int) : Int) != (((List.length b) : Nat) : Int)))] [] E (by kernel_rfl) (by kernel_rfl) trivial ?_
 clear E; intro a E
 refine wpList_nil ?_
 refine th_n ?_
 refine E.cases (t := 10) rfl (fun hb_ E_ => ?_) (fun hb_ E_ => ?_)
 ·
  replace E := E_; clear E_
  have h9 : ¬ (((((List.length aa) : Nat) : Int) : Int) = (((List.length b) : Nat) : Int)) := bne_iff_ne.1 hb_
  clear hb_; replace hP := ite_f h9 hP
  refine c_true E rfl ?_
  refine wp_seq ?_
  refine wp_region_lit ?_
  refine vn tbok 1 [] [(4, .bool false)] [] E (by kernel_rfl) (by kernel_rfl) trivial ?_
  clear E; intro a E
  refine wpList_nil ?_
  refine th_n ?_
  refine wp_ret ?_
  refine th_ret ?_
  obtain rfl := Option.some.inj hP
  refine ret1 E rfl rfl ?_
  exact ⟨_, rfl, rfl, H.sel [] rfl⟩
 replace E := E_; clear E_
 have h10 : ((((List.length aa) : Nat) : Int) : Int) = (((List.length b) : Nat) : Int) := bne_eq_false_iff_eq.1 hb_
 clear hb_; replace hP := ite_t h10 hP
 refine c_false E rfl ?_
 refine wp_skip ?_
 refine th_n ?_
 refine wp_seq ?_
 refine wp_seq ?_
 refine wp_region_lit ?_
 refine vn tbok 1 [] [(5, .int .i64 0)] [] E (by kernel_rfl) (by kernel_rfl) trivial ?_
 clear E; intro a E
 refine wpList_nil ?_
 refine th_n ?_
 refine wp_block ?_
 obtain ⟨x42, hL43, hK44⟩ := bind_inv hP
 clear hP
 refine loop_cut (fun i_ a w_ => (i_ = 0 ∧ ∃ (x47 : Unit), Fr a 26 [] ∧ Hp S Fa w0 w_ [] ∧ x42 = Sum.inl x47)) ?_ ?_
 ·
  refine loopV (fun m46 a w45 => ∃ (i25 : Int), Fr a 26 [(0, .slice A1 (List.length aa) c2), (1, .slice A5 (List.length b) c6), (5, .int .i64 i25)] ∧ Hp S Fa w0 w45 [.ro false (cInt .i64) A1 aa, .ro false (cInt .i64) A5 b] ∧ kit_SameInts_l0 N aa b m46 i25 = some x42) N ?_ ?_
  ·
   exact ⟨0, E.pick _ ⟨rfl, rfl, rfl, trivial⟩, H.sel [0, 1] rfl, hL43⟩
  clear E H hL43; intro m46 a w45 hI_
  obtain ⟨i25, E, H, hP⟩ := hI_
  obtain ⟨m41, rfl⟩ : ∃ q_, m46 = q_ + 1 := by cases m46 with | zero => rw [kit_SameInts_l0] at hP; cases hP | succ q_ => exact ⟨q_, rfl⟩
  rw [kit_SameInts_l0] at hP
  refine wp_seq ?_
  refine wp_seq ?_
  refine wp_region_lit ?_
  refine vn tbok 4 [] [(14, .bool (decide (i25 < (((List.length aa) : Nat) : Int))))] [] E (by kernel_rfl) (by kernel_rfl) trivial ?_
  clear E; intro a E
  refine wpList_nil ?_
  refine th_n ?_
  refine E.cases (t := 14) rfl (fun hb_ E_ => ?_) (fun hb_ E_ => ?_)
  ·
   replace E := E_; clear E_
   have h48 : i25 < (((List.length aa) : Nat) : Int) := of_decide_eq_true hb_
   clear hb_; replace hP := ite_t h48 hP
   refine c_true E rfl ?_
   refine wp_skip ?_
   refine th_n ?_
   refine wp_seq ?_
   refine wp_block ?_
   refine wp_seq ?_
   obtain ⟨g49, hP⟩ := ask_inv hP
   obtain ⟨b50, o51, e_b50⟩ := (H.rd 0 rds_ro).addr (idx_pos g49)
   subst e_b50
   obtain ⟨g52, hP⟩ := ask_inv hP
   obtain ⟨b53, o54, e_b53⟩ := (H.rd 1 rds_ro).addr (idx_pos g52)
   subst e_b53
   have HR58 := H
   refine dr_start (S := fun w_ => Chg (atL []) w45 w_) (by kernel_rfl) ?_
   intro w55 hc56
   have HS57 : Chg (atL []) w45 w55 := hc56.mono (fun _ _ h_ => h_.elim)
   replace H := H.ext hc56
   refine dn tbok (by kernel_rfl) [0, 1, 2, 3, 4, 5, 6, 7, 8] [.int .i64 (List.getD aa (Int.toNat i25) 0), .int .i64 (List.getD b (Int.toNat i25) 0)] [(25, .bool (((List.getD aa (Int.toNat i25) 0) : Int) != (List.getD b (Int.toNat i25) 0)))] (fun w_ => [0 ≤ i25 ∧ i25 < (((List.length aa) : Nat) : Int), World.cell? w_ ⟨b50, o51 + (Int.toNat i25) * 1, none⟩ = some (.int .i64 (List.getD aa (Int.toNat i25) 0)), 0 ≤ i25 ∧ i25 < (((List.length b) : Nat) : Int), World.cell? w_ ⟨b53, o54 + (Int.toNat i25) * 1, none⟩ = some (.int .i64 (List.getD b (Int.toNat i25) 0))]) 0 E (fun _ _ => by kernel_rfl) (by kernel_rfl) (fun w_ hS_ => ⟨g49, Rds.at1 (HR58.rdk [] hS_ 0 rds_ro rfl) 0 g49, g52, Rds.at1 (HR58.rdk [] hS_ 1 rds_ro rfl) 0 g52⟩) (by kernel_rfl) HS57 ?_
   clear E; intro a E
   refine dr_done (by kernel_rfl) ?_
   clear HS57 HR58
   refine th_n ?_
   refine E.cases (t := 25) rfl (fun hb_ E_ => ?_) (fun hb_ E_ => ?_)
   ·
    replace E := E_; clear E_
    have h59 : ¬ (((List.getD aa (Int.toNat i25) 0) : Int) = (List.getD b (Int.toNat i25) 0)) := bne_iff_ne.1 hb_
    clear hb_; replace hP := ite_f h59 hP
    refine c_true E rfl ?_
    refine wp_seq ?_
    refine wp_region_lit ?_
    refine vn tbok 1 [] [(4, .bool false)] [] E (by kernel_rfl) (by kernel_rfl) trivial ?_
    clear E; intro a E
    refine wpList_nil ?_
    refine th_n ?_
    refine wp_ret ?_
    refine bl_ret ?_
    refine th_ret ?_
    refine th_ret ?_
    refine .inr ⟨rfl, ?_⟩
    refine bl_ret ?_
    refine th_ret ?_
    have hx_ := Option.some.inj hP; subst hx_
    have hP : some (false) = some r := hK44
    obtain rfl := Option.some.inj hP
    refine ret1 E rfl rfl ?_
    exact ⟨_, rfl, rfl, H.sel [] rfl⟩
   replace E := E_; clear E_
   have h60 : ((List.getD aa (Int.toNat i25) 0) : Int) = (List.getD b (Int.toNat i25) 0) := bne_eq_false_iff_eq.1 hb_
   clear hb_; replace hP := ite_t h60 hP
   refine c_false E rfl ?_
   refine wp_skip ?_
   refine bl_n ?_
   refine th_n ?_
   refine wp_region_lit ?_
   obtain ⟨g61, hP⟩ := ask_inv hP
   refine vn tbok 3 [.int .i64 (i25 + 1)] [(5, .int .i64 (i25 + 1))] [IntKind.i64.wrap (i25 + 1) = i25 + 1] E (by kernel_rfl) (by kernel_rfl) (wrap_in g61) ?_
   clear E; intro a E
   refine wpList_nil ?_
   exact th_n ⟨m41, Nat.lt_succ_self _, i25 + 1, E.pick _ ⟨rfl, rfl, rfl, trivial⟩, H.sel [0, 1] rfl, hP⟩
  replace E := E_; clear E_
  have h62 : ¬ (i25 < (((List.length aa) : Nat) : Int)) := of_decide_eq_false hb_
  clear hb_; replace hP := ite_f h62 hP
  refine c_false E rfl ?_
  refine wp_exit ?_
  refine th_exit ?_
  have hx_ := Option.some.inj hP
  refine th_exit (.inl ⟨0, rfl, ?_⟩)
  exact ⟨rfl, (), E.pick _ trivial, H.sel [] rfl, hx_.symm⟩
 clear E H hL43; intro i_ a w45 hM_
 obtain ⟨rfl, x47, E, H, hx_⟩ := hM_
 subst hx_; have hP := elim_l hK44
 clear hK44
 refine bl_hit ?_
 refine th_n ?_
 refine wp_seq ?_
 refine wp_region_lit ?_
 refine vn tbok 1 [] [(4, .bool true)] [] E (by kernel_rfl) (by kernel_rfl) trivial ?_
 clear E; intro a E
 refine wpList_nil ?_
 refine th_n ?_
 refine wp_ret ?_
 obtain rfl := Option.some.inj hP
 refine ret1 E rfl rfl ?_
 exact ⟨_, rfl, rfl, H.sel [] rfl⟩

/-! rejoinder/rejoinderkit.SameLetters -/
def kit_SameLetters_l0 (N : Nat) (aa : List Int) (b : List Int) : Nat → Int → Option (Unit ⊕ Bool)
  | 0, _ => none
  | m41 + 1, i25 =>
    if i25 < (((List.length aa) : Nat) : Int) then
      ask (idx i25 (List.length aa)) <|
      ask (idx i25 (List.length b)) <|
      if ((List.getD aa (Int.toNat i25) 0) : Int) = (List.getD b (Int.toNat i25) 0) then
        ask (in64 (i25 + 1)) <|
        kit_SameLetters_l0 N aa b m41 (i25 + 1)
      else
        some (Sum.inr false)
    else
      some (Sum.inl ())
def kit_SameLetters (N : Nat) (aa : List Int) (b : List Int) : Option Bool :=
  if ((((List.length aa) : Nat) : Int) : Int) = (((List.length b) : Nat) : Int) then
    Option.bind (kit_SameLetters_l0 N aa b N 0) fun x42 =>
    Sum.elim (fun x47 =>
      some true)
     (fun x63 =>
      some x63) x42
  else
    some false
set_option maxRecDepth 100000 in
set_option maxHeartbeats 4000000 in
theorem kit_SameLetters_calls {N : Nat} {S Fa : Nat → Prop} {w0 : World} {r : Bool} (A1 : Option Addr) (c2 : Nat) (A5 : Option Addr) (c6 : Nat) (aa : List Int) (b : List Int) (hk3 : List.length aa ≤ c2) (hk7 : List.length b ≤ c6) (H : Hp S Fa w0 w0 [.ro false (cInt .u8) A1 aa, .ro false (cInt .u8) A5 b]) (hP : kit_SameLetters N aa b = some r) :
    Calls Try.prog 42 #[.slice A1 (List.length aa) c2, .slice A5 (List.length b) c6] w0 fun e w' => ∃ v, e = .returned v ∧ v = .bool r ∧ Hp S Fa w0 w' [] := by
 refine enterV (n := 26) Try.func42 rfl rfl rfl ?_
 intro a E
 replace E := E.pick [(0, .slice A1 (List.length aa) c2), (1, .slice A5 (List.length b) c6)] ⟨rfl, rfl, trivial⟩
 rw [kit_SameLetters] at hP
 refine wp_seq ?_
 refine wp_region_lit ?_
 refine vn tbok 1 [] [] [] E (by kernel_rfl) (by kernel_rfl) trivial ?_
 clear E; intro a E
 refine wpList_nil ?_
 refine th_n ?_
 refine wp_seq ?_
 refine wp_seq ?_
 refine wp_region_lit ?_
 refine vn tbok 5 [] [(10, .bool (((((List.length aa) : Nat) : Int) : Int) != (((List.length b) : Nat) : Int)))] [] E (by kernel_rfl) (by kernel_rfl) trivial ?_
 clear E; intro a E
 refine wpList_nil ?_
 refine th_n ?_
 refine E.cases (t := 10) rfl (fun hb_ E_ => ?_) (fun hb_ E_ => ?_)
 ·
  replace E := E_; clear E_
  have h9 : ¬ (((((List.length aa) : Nat) : Int) : Int) = (((List.length b) : Nat) : Int)) := bne_iff_ne.1 hb_
  clear hb_; replace hP := ite_f h9 hP
  refine c_true E rfl ?_
  refine wp_seq ?_
  refine wp_region_lit ?_
  refine vn tbok 1 [] [(4, .bool false)] [] E (by kernel_rfl) (by kernel_rfl) trivial ?_
  clear E; intro a E
  refine wpList_nil ?_
  refine th_n ?_
  refine wp_ret ?_
  refine th_ret ?_
  obtain rfl := Option.some.inj hP
  refine ret1 E rfl rfl ?_
  exact ⟨_, rfl, rfl, H.sel [] rfl⟩
 replace E := E_; clear E_
 have h10 : ((((List.length aa) : Nat) : Int) : Int) = (((List.length b) : Nat) : Int) := bne_eq_false_iff_eq.1 hb_
 clear hb_; replace hP := ite_t h10 hP
 refine c_false E rfl ?_
 refine wp_skip ?_
 refine th_n ?_
 refine wp_seq ?_
 refine wp_seq ?_
 refine wp_region_lit ?_
 refine vn tbok 1 [] [(5, .int .i64 0)] [] E (by kernel_rfl) (by kernel_rfl) trivial ?_
 clear E; intro a E
 refine wpList_nil ?_
 refine th_n ?_
 refine wp_block ?_
 obtain ⟨x42, hL43, hK44⟩ := bind_inv hP
 clear hP
 refine loop_cut (fun i_ a w_ => (i_ = 0 ∧ ∃ (x47 : Unit), Fr a 26 [] ∧ Hp S Fa w0 w_ [] ∧ x42 = Sum.inl x47)) ?_ ?_
 ·
  refine loopV (fun m46 a w45 => ∃ (i25 : Int), Fr a 26 [(0, .slice A1 (List.length aa) c2), (1, .slice A5 (List.length b) c6), (5, .int .i64 i25)] ∧ Hp S Fa w0 w45 [.ro false (cInt .u8) A1 aa, .ro false (cInt .u8) A5 b] ∧ kit_SameLetters_l0 N aa b m46 i25 = some x42) N ?_ ?_
  ·
   exact ⟨0, E.pick _ ⟨rfl, rfl, rfl, trivial⟩, H.sel [0, 1] rfl, hL43⟩
  clear E H hL43; intro m46 a w45 hI_
  obtain ⟨i25, E, H, hP⟩ := hI_
  obtain ⟨m41, rfl⟩ : ∃ q_, m46 = q_ + 1 := by cases m46 with | zero => rw [kit_SameLetters_l0] at hP; cases hP | succ q_ => exact ⟨q_, rfl⟩
  rw [kit_SameLetters_l0] at hP
  refine wp_seq ?_
  refine wp_seq ?_
  refine wp_region_lit ?_
  refine vn tbok 4 [] [(14, .bool (decide (i25 < (((List.length aa) : Nat) : Int))))] [] E (by kernel_rfl) (by kernel_rfl) trivial ?_
  clear E; intro a E
  refine wpList_nil ?_
  refine th_n ?_
  refine E.cases (t := 14) rfl (fun hb_ E_ => ?_) (fun hb_ E_ => ?_)
  ·
   replace E := E_; clear E_
   have h48 : i25 < (((List.length aa) : Nat) : Int) := of_decide_eq_true hb_
   clear hb_; replace hP := ite_t h48 hP
   refine c_true E rfl ?_
   refine wp_skip ?_
   refine th_n ?_
   refine wp_seq ?_
   refine wp_block ?_
   refine wp_seq ?_
   obtain ⟨g49, hP⟩ := ask_inv hP
   obtain ⟨b50, o51, e_b50⟩ := (H.rd 0 rds_ro).addr (idx_pos g49)
   subst e_b50
   obtain ⟨g52, hP⟩ := ask_inv hP
   obtain ⟨b53, o54, e_b53⟩ := (H.rd 1 rds_ro).addr (idx_pos g52)
   subst e_b53
   have HR58 := H
   refine dr_start (S := fun w_ => Chg (atL []) w45 w_) (by kernel_rfl) ?_
   intro w55 hc56
   have HS57 : Chg (atL []) w45 w55 := hc56.mono (fun _ _ h_ => h_.elim)
   replace H := H.ext hc56
   refine dn tbok (by kernel_rfl) [0, 1, 2, 3, 4, 5, 6, 7, 8] [.int .u8 (List.getD aa (Int.toNat i25) 0), .int .u8 (List.getD b (Int.toNat i25) 0)] [(25, .bool (((List.getD aa (Int.toNat i25) 0) : Int) != (List.getD b (Int.toNat i25) 0)))] (fun w_ => [0 ≤ i25 ∧ i25 < (((List.length aa) : Nat) : Int), World.cell? w_ ⟨b50, o51 + (Int.toNat i25) * 1, none⟩ = some (.int .u8 (List.getD aa (Int.toNat i25) 0)), 0 ≤ i25 ∧ i25 < (((List.length b) : Nat) : Int), World.cell? w_ ⟨b53, o54 + (Int.toNat i25) * 1, none⟩ = some (.int .u8 (List.getD b (Int.toNat i25) 0))]) 0 E (fun _ _ => by kernel_rfl) (by kernel_rfl) (fun w_ hS_ => ⟨g49, Rds.at1 (HR58.rdk [] hS_ 0 rds_ro rfl) 0 g49, g52, Rds.at1 (HR58.rdk [] hS_ 1 rds_ro rfl) 0 g52⟩) (by kernel_rfl) HS57 ?_
   clear E; intro a E
   refine dr_done (by kernel_rfl) ?_
   clear HS57 HR58
   refine th_n ?_
   refine E.cases (t := 25) rfl (fun hb_ E_ => ?_) (fun hb_ E_ => ?_)
   ·
    replace E := E_; clear E_
    have h59 : ¬ (((List.getD aa (Int.toNat i25) 0) : Int) = (List.getD b (Int.toNat i25) 0)) := bne_iff_ne.1 hb_
    clear hb_; replace hP := ite_f h59 hP
    refine c_true E rfl ?_
    refine wp_seq ?_
    refine wp_region_lit ?_
    refine vn tbok 1 [] [(4, .bool false)] [] E (by kernel_rfl) (by kernel_rfl) trivial ?_
    clear E; intro a E
    refine wpList_nil ?_
    refine th_n ?_
    refine wp_ret ?_
    refine bl_ret ?_
    refine th_ret ?_
    refine th_ret ?_
    refine .inr ⟨rfl, ?_⟩
    refine bl_ret ?_
    refine th_ret ?_
    have hx_ := Option.some.inj hP; subst hx_
    have hP : some (false) = some r := hK44
    obtain rfl := Option.some.inj hP
    refine ret1 E rfl rfl ?_
    exact ⟨_, rfl, rfl, H.sel [] rfl⟩
   replace E := E_; clear E_
   have h60 : ((List.getD aa (Int.toNat i25) 0) : Int) = (List.getD b (Int.toNat i25) 0) := bne_eq_false_iff_eq.1 hb_
   clear hb_; replace hP := ite_t h60 hP
   refine c_false E rfl ?_
   refine wp_skip ?_
   refine bl_n ?_
   refine th_n ?_
   refine wp_region_lit ?_
   obtain ⟨g61, hP⟩ := ask_inv hP
   refine vn tbok 3 [.int .i64 (i25 + 1)] [(5, .int .i64 (i25 + 1))] [IntKind.i64.wrap (i25 + 1) = i25 + 1] E (by kernel_rfl) (by kernel_rfl) (wrap_in g61) ?_
   clear E; intro a E
   refine wpList_nil ?_
   exact th_n ⟨m41, Nat.lt_succ_self _, i25 + 1, E.pick _ ⟨rfl, rfl, rfl, trivial⟩, H.sel [0, 1] rfl, hP⟩
  replace E := E_; clear E_
  have h62 : ¬ (i25 < (((List.length aa) : Nat) : Int)) := of_decide_eq_false hb_
  clear hb_; replace hP := ite_f h62 hP
  refine c_false E rfl ?_
  refine wp_exit ?_
  refine th_exit ?_
  have hx_ := Option.some.inj hP
  refine th_exit (.inl ⟨0, rfl, ?_⟩)
  exact ⟨rfl, (), E.pick _ trivial, H.sel [] rfl, hx_.symm⟩
 clear E H hL43; intro i_ a w45 hM_
 obtain ⟨rfl, x47, E, H, hx_⟩ := hM_
 subst hx_; have hP := elim_l hK44
 clear hK44
 refine bl_hit ?_
 refine th_n ?_
 refine wp_seq ?_
 refine wp_region_lit ?_
 refine vn tbok 1 [] [(4, .bool true)] [] E (by kernel_rfl) (by kernel_rfl) trivial ?_
 clear E; intro a E
 refine wpList_nil ?_
 refine th_n ?_
 refine wp_ret ?_
 obtain rfl := Option.some.inj hP
 refine ret1 E rfl rfl ?_
 exact ⟨_, rfl, rfl, H.sel [] rfl⟩

/-! rejoinder/rejoinderlaw24.Same -/
def law24_Same_l0 (N : Nat) (aReply : List (List Int)) (bReply : List (List Int)) : Nat → Int → Option (Unit ⊕ Bool)
  | 0, _ => none
  | m143 + 1, q101 =>
    if q101 < (((List.length aReply) : Nat) : Int) then
      ask (idx q101 (List.length aReply)) <|
      ask (idx q101 (List.length bReply)) <|
      Option.bind (kit_SameLetters N (List.getD aReply (Int.toNat q101) []) (List.getD bReply (Int.toNat q101) [])) fun r167 =>
      if r167 = true then
        ask (in64 (q101 + 1)) <|
        law24_Same_l0 N aReply bReply m143 (q101 + 1)
      else
        some (Sum.inr false)
    else
      some (Sum.inl ())
def law24_Same (N : Nat) (aWins : Bool) (aRanks : List Int) (aReply : List (List Int)) (aChoice : List Int) (bWins : Bool) (bRanks : List Int) (bReply : List (List Int)) (bChoice : List Int) : Option Bool :=
  if aWins = bWins then
    Option.bind (kit_SameInts N aRanks bRanks) fun r37 =>
    if r37 = true then
      Option.bind (kit_SameLetters N aChoice bChoice) fun r48 =>
      if r48 = true then
        if ((((List.length aReply) : Nat) : Int) : Int) = (((List.length bReply) : Nat) : Int) then
          Option.bind (law24_Same_l0 N aReply bReply N 0) fun x144 =>
          Sum.elim (fun x149 =>
            some true)
           (fun x191 =>
            some x191) x144
        else
          some false
      else
        some false
    else
      some false
  else
    some false
set_option maxRecDepth 100000 in
set_option maxHeartbeats 4000000 in
theorem law24_Same_calls {N : Nat} {S Fa : Nat → Prop} {w0 : World} {r : Bool} (A1 : Option Addr) (c2 : Nat) (A5 : Option Addr) (c6 : Nat) (A9 : Option Addr) (c10 : Nat) (A13 : Option Addr) (c14 : Nat) (A17 : Option Addr) (c18 : Nat) (A21 : Option Addr) (c22 : Nat) (aWins : Bool) (aRanks : List Int) (aReply : List (List Int)) (aChoice : List Int) (bWins : Bool) (bRanks : List Int) (bReply : List (List Int)) (bChoice : List Int) (hk3 : List.length aRanks ≤ c2) (hk7 : List.length aReply ≤ c6) (hk11 : List.length aChoice ≤ c10) (hk15 : List.length bRanks ≤ c14) (hk19 : List.length bReply ≤ c18) (hk23 : List.length bChoice ≤ c22) (H : Hp S Fa w0 w0 [.ro false (cInt .i64) A1 aRanks, .ro false (cSl (cInt .u8)) A5 aReply, .ro false (cInt .u8) A9 aChoice, .ro false (cInt .i64) A13 bRanks, .ro false (cSl (cInt .u8)) A17 bReply, .ro false (cInt .u8) A21 bChoice]) (hP : law24_Same N aWins aRanks aReply aChoice bWins bRanks bReply bChoice = some r) :
    Calls Try.prog 14 #[.agg #[.bool aWins, .slice A1 (List.length aRanks) c2, .slice A5 (List.length aReply) c6, .slice A9 (List.length aChoice) c10], .agg #[.bool bWins, .slice A13 (List.length bRanks) c14, .slice A17 (List.length bReply) c18, .slice A21 (List.length bChoice) c22]] w0 fun e w' => ∃ v, e = .returned v ∧ v = .bool r ∧ Hp S Fa w0 w' [] := by
 refine enterV (n := 55) Try.func14 rfl rfl rfl ?_
 intro a E
 replace E := E.pick [(0, .agg #[.bool aWins, .slice A1 (List.length aRanks) c2, .slice A5 (List.length aReply) c6, .slice A9 (List.length aChoice) c10]), (1, .agg #[.bool bWins, .slice A13 (List.length bRanks) c14, .slice A17 (List.length bReply) c18, .slice A21 (List.length bChoice) c22])] ⟨rfl, rfl, trivial⟩
 rw [law24_Same] at hP
 refine wp_seq ?_
 refine wp_region_lit ?_
 refine h_box H E rfl rfl rfl ?_
 intro w26 g25 a hc27 hg29 H_ E_
 replace E := E_ _ rfl; clear E_
 replace H := H_; clear H_; try dsimp only [setn, addE, goneL] at H
 refine h_box H E rfl rfl rfl ?_
 intro w31 g30 a hc32 hg34 H_ E_
 replace E := E_ _ rfl; clear E_
 replace H := H_; clear H_; try dsimp only [setn, addE, goneL] at H
 refine vn tbok 1 [] [] [] E (by kernel_rfl) (by kernel_rfl) trivial ?_
 clear E; intro a E
 refine wpList_nil ?_
 refine th_n ?_
 refine wp_seq ?_
 refine wp_seq ?_
 refine wp_region_lit ?_
 refine vn tbok 6 [.bool aWins, .bool bWins] [(11, .bool (!(aWins == bWins)))] [World.cell? w31 ⟨g25, 0, none⟩ = some (.bool aWins), World.cell? w31 ⟨g30, 0, none⟩ = some (.bool bWins)] E (by kernel_rfl) (by kernel_rfl) ⟨(H.box 6 rfl).cell (j := 0) rfl, (H.box 7 rfl).cell (j := 0) rfl⟩ ?_
 clear E; intro a E
 refine E.cases (t := 11) rfl (fun hb_ E_ => ?_) (fun hb_ E_ => ?_)
 ·
  replace E := E_; clear E_
  have h35 : ¬ (aWins = bWins) := (by simpa using hb_)
  clear hb_; replace hP := ite_f h35 hP
  refine vn tbok 24 [] [(35, .bool true)] [] E (by kernel_rfl) (by kernel_rfl) trivial ?_
  clear E; intro a E
  refine wpList_nil ?_
  refine th_n ?_
  refine c_true E rfl ?_
  refine wp_seq ?_
  refine wp_region_lit ?_
  refine vn tbok 1 [] [(4, .bool false)] [] E (by kernel_rfl) (by kernel_rfl) trivial ?_
  clear E; intro a E
  refine wpList_nil ?_
  refine th_n ?_
  refine wp_ret ?_
  refine th_ret ?_
  obtain rfl := Option.some.inj hP
  refine ret1 E rfl rfl ?_
  exact ⟨_, rfl, rfl, H.sel [] rfl⟩
 replace E := E_; clear E_
 have h36 : aWins = bWins := (by simpa using hb_)
 clear hb_; replace hP := ite_t h36 hP
 refine vn tbok 4 [.slice A1 (List.length aRanks) c2, .slice A13 (List.length bRanks) c14] [(13, .slice A1 (List.length aRanks) c2), (15, .slice A13 (List.length bRanks) c14)] [World.cell? w31 ⟨g25, 1, none⟩ = some (.slice A1 (List.length aRanks) c2), World.cell? w31 ⟨g30, 1, none⟩ = some (.slice A13 (List.length bRanks) c14)] E (by kernel_rfl) (by kernel_rfl) ⟨(H.box 6 rfl).cell (j := 1) rfl, (H.box 7 rfl).cell (j := 1) rfl⟩ ?_
 clear E; intro a E
 obtain ⟨r37, h38, hP⟩ := bind_inv hP
 obtain ⟨Fa39, Hc40, hb41⟩ := H.call [] [(0, false), (3, false)] rfl rfl trivial
 refine e_call E rfl rfl Try.func19 rfl rfl rfl (kit_SameInts_calls A1 c2 A13 c14 aRanks bRanks hk3 hk15 Hc40 h38) ?_
 rintro v42 w43 a ⟨rfl, HR44⟩ E_
 replace E := E_ _ rfl; clear E_
 obtain ⟨H_, hc45⟩ := hb41 _ _ HR44 rfl
 replace H := H_; clear H_; try dsimp only [setn, addE, goneL] at H
 refine vn tbok 3 [] [(19, .bool (!r37))] [] E (by kernel_rfl) (by kernel_rfl) trivial ?_
 clear E; intro a E
 refine E.cases (t := 19) rfl (fun hb_ E_ => ?_) (fun hb_ E_ => ?_)
 ·
  replace E := E_; clear E_
  have h46 : ¬ (r37 = true) := (ne_true_of_eq_false (not_t hb_))
  clear hb_; replace hP := ite_f h46 hP
  refine vn tbok 16 [] [(35, .bool true)] [] E (by kernel_rfl) (by kernel_rfl) trivial ?_
  clear E; intro a E
  refine wpList_nil ?_
  refine th_n ?_
  refine c_true E rfl ?_
  refine wp_seq ?_
  refine wp_region_lit ?_
  refine vn tbok 1 [] [(4, .bool false)] [] E (by kernel_rfl) (by kernel_rfl) trivial ?_
  clear E; intro a E
  refine wpList_nil ?_
  refine th_n ?_
  refine wp_ret ?_
  refine th_ret ?_
  obtain rfl := Option.some.inj hP
  refine ret1 E rfl rfl ?_
  exact ⟨_, rfl, rfl, H.sel [] rfl⟩
 replace E := E_; clear E_
 have h47 : r37 = true := (not_f hb_)
 clear hb_; replace hP := ite_t h47 hP
 refine vn tbok 4 [.slice A9 (List.length aChoice) c10, .slice A21 (List.length bChoice) c22] [(21, .slice A9 (List.length aChoice) c10), (23, .slice A21 (List.length bChoice) c22)] [World.cell? w43 ⟨g25, 3, none⟩ = some (.slice A9 (List.length aChoice) c10), World.cell? w43 ⟨g30, 3, none⟩ = some (.slice A21 (List.length bChoice) c22)] E (by kernel_rfl) (by kernel_rfl) ⟨(H.box 6 rfl).cell (j := 3) rfl, (H.box 7 rfl).cell (j := 3) rfl⟩ ?_
 clear E; intro a E
 obtain ⟨r48, h49, hP⟩ := bind_inv hP
 obtain ⟨Fa50, Hc51, hb52⟩ := H.call [] [(2, false), (5, false)] rfl rfl trivial
 refine e_call E rfl rfl Try.func42 rfl rfl rfl (kit_SameLetters_calls A9 c10 A21 c22 aChoice bChoice hk11 hk23 Hc51 h49) ?_
 rintro v53 w54 a ⟨rfl, HR55⟩ E_
 replace E := E_ _ rfl; clear E_
 obtain ⟨H_, hc56⟩ := hb52 _ _ HR55 rfl
 replace H := H_; clear H_; try dsimp only [setn, addE, goneL] at H
 refine vn tbok 3 [] [(27, .bool (!r48))] [] E (by kernel_rfl) (by kernel_rfl) trivial ?_
 clear E; intro a E
 refine E.cases (t := 27) rfl (fun hb_ E_ => ?_) (fun hb_ E_ => ?_)
 ·
  replace E := E_; clear E_
  have h57 : ¬ (r48 = true) := (ne_true_of_eq_false (not_t hb_))
  clear hb_; replace hP := ite_f h57 hP
  refine vn tbok 8 [] [(35, .bool true)] [] E (by kernel_rfl) (by kernel_rfl) trivial ?_
  clear E; intro a E
  refine wpList_nil ?_
  refine th_n ?_
  refine c_true E rfl ?_
  refine wp_seq ?_
  refine wp_region_lit ?_
  refine vn tbok 1 [] [(4, .bool false)] [] E (by kernel_rfl) (by kernel_rfl) trivial ?_
  clear E; intro a E
  refine wpList_nil ?_
  refine th_n ?_
  refine wp_ret ?_
  refine th_ret ?_
  obtain rfl := Option.some.inj hP
  refine ret1 E rfl rfl ?_
  exact ⟨_, rfl, rfl, H.sel [] rfl⟩
 replace E := E_; clear E_
 have h58 : r48 = true := (not_f hb_)
 clear hb_; replace hP := ite_t h58 hP
 refine vn tbok 8 [.slice A5 (List.length aReply) c6, .slice A17 (List.length bReply) c18] [(35, .bool (((((List.length aReply) : Nat) : Int) : Int) != (((List.length bReply) : Nat) : Int)))] [World.cell? w54 ⟨g25, 2, none⟩ = some (.slice A5 (List.length aReply) c6), World.cell? w54 ⟨g30, 2, none⟩ = some (.slice A17 (List.length bReply) c18)] E (by kernel_rfl) (by kernel_rfl) ⟨(H.box 6 rfl).cell (j := 2) rfl, (H.box 7 rfl).cell (j := 2) rfl⟩ ?_
 clear E; intro a E
 refine wpList_nil ?_
 refine th_n ?_
 refine E.cases (t := 35) rfl (fun hb_ E_ => ?_) (fun hb_ E_ => ?_)
 ·
  replace E := E_; clear E_
  have h59 : ¬ (((((List.length aReply) : Nat) : Int) : Int) = (((List.length bReply) : Nat) : Int)) := bne_iff_ne.1 hb_
  clear hb_; replace hP := ite_f h59 hP
  refine c_true E rfl ?_
  refine wp_seq ?_
  refine wp_region_lit ?_
  refine vn tbok 1 [] [(4, .bool false)] [] E (by kernel_rfl) (by kernel_rfl) trivial ?_
  clear E; intro a E
  refine wpList_nil ?_
  refine th_n ?_
  refine wp_ret ?_
  refine th_ret ?_
  obtain rfl := Option.some.inj hP
  refine ret1 E rfl rfl ?_
  exact ⟨_, rfl, rfl, H.sel [] rfl⟩
 replace E := E_; clear E_
 have h60 : ((((List.length aReply) : Nat) : Int) : Int) = (((List.length bReply) : Nat) : Int) := bne_eq_false_iff_eq.1 hb_
 clear hb_; replace hP := ite_t h60 hP
 refine c_false E rfl ?_
 refine wp_skip ?_
 refine th_n ?_
 refine wp_seq ?_
 refine wp_seq ?_
 refine wp_region_lit ?_
 refine vn tbok 1 [] [(5, .int .i64 0)] [] E (by kernel_rfl) (by kernel_rfl) trivial ?_
 clear E; intro a E
 refine wpList_nil ?_
 refine th_n ?_
 refine wp_block ?_
 obtain ⟨x144, hL145, hK146⟩ := bind_inv hP
 clear hP
 refine loop_cut (fun i_ a w_ => (i_ = 0 ∧ ∃ (x149 : Unit), Fr a 55 [] ∧ Hp S Fa w0 w_ [] ∧ x144 = Sum.inl x149)) ?_ ?_
 ·
  refine loopV (fun m148 a w147 => ∃ (q101 : Int), Fr a 55 [(2, .pointer (some ⟨g25, 0, none⟩)), (3, .pointer (some ⟨g30, 0, none⟩)), (5, .int .i64 q101)] ∧ Hp S Fa w0 w147 [.ro false (cInt .i64) A1 aRanks, .ro false (cSl (cInt .u8)) A5 aReply, .ro false (cInt .u8) A9 aChoice, .box g25 33 [.bool aWins, .slice A1 (List.length aRanks) c2, .slice A5 (List.length aReply) c6, .slice A9 (List.length aChoice) c10], .ro false (cInt .i64) A13 bRanks, .ro false (cSl (cInt .u8)) A17 bReply, .ro false (cInt .u8) A21 bChoice, .box g30 33 [.bool bWins, .slice A13 (List.length bRanks) c14, .slice A17 (List.length bReply) c18, .slice A21 (List.length bChoice) c22]] ∧ law24_Same_l0 N aReply bReply m148 q101 = some x144) N ?_ ?_
  ·
   exact ⟨0, E.pick _ ⟨rfl, rfl, rfl, trivial⟩, H.sel [0, 1, 2, 6, 3, 4, 5, 7] rfl, hL145⟩
  clear E H hL145; intro m148 a w147 hI_
  obtain ⟨q101, E, H, hP⟩ := hI_
  obtain ⟨m143, rfl⟩ : ∃ q_, m148 = q_ + 1 := by cases m148 with | zero => rw [law24_Same_l0] at hP; cases hP | succ q_ => exact ⟨q_, rfl⟩
  rw [law24_Same_l0] at hP
  refine wp_seq ?_
  refine wp_seq ?_
  refine wp_region_lit ?_
  refine vn tbok 5 [.slice A5 (List.length aReply) c6] [(40, .bool (decide (q101 < (((List.length aReply) : Nat) : Int))))] [World.cell? w147 ⟨g25, 2, none⟩ = some (.slice A5 (List.length aReply) c6)] E (by kernel_rfl) (by kernel_rfl) ((H.box 3 rfl).cell (j := 2) rfl) ?_
  clear E; intro a E
  refine wpList_nil ?_
  refine th_n ?_
  refine E.cases (t := 40) rfl (fun hb_ E_ => ?_) (fun hb_ E_ => ?_)
  ·
   replace E := E_; clear E_
   have h150 : q101 < (((List.length aReply) : Nat) : Int) := of_decide_eq_true hb_
   clear hb_; replace hP := ite_t h150 hP
   refine c_true E rfl ?_
   refine wp_skip ?_
   refine th_n ?_
   refine wp_seq ?_
   refine wp_block ?_
   refine wp_seq ?_
   obtain ⟨g151, hP⟩ := ask_inv hP
   obtain ⟨b152, o153, e_b152⟩ := (H.rd 1 rds_ro).addr (idx_pos g151)
   subst e_b152
   obtain ⟨A154, c155, hl156, hk157, H⟩ := H.subSl 1 false (el_ro rfl) g151
   try dsimp only [addE] at H
   obtain ⟨g159, hP⟩ := ask_inv hP
   obtain ⟨b160, o161, e_b160⟩ := (H.rd 5 rds_ro).addr (idx_pos g159)
   subst e_b160
   obtain ⟨A162, c163, hl164, hk165, H⟩ := H.subSl 5 false (el_ro rfl) g159
   try dsimp only [addE] at H
   obtain ⟨r167, h168, hP⟩ := bind_inv hP
   have HR179 := H
   refine dr_start (S := fun w_ => Chg (atL []) w147 w_) (by kernel_rfl) ?_
   intro w176 hc177
   have HS178 : Chg (atL []) w147 w176 := hc177.mono (fun _ _ h_ => h_.elim)
   replace H := H.ext hc177
   refine dn tbok (by kernel_rfl) [0, 1, 2, 3, 4, 5, 6, 7, 8, 9] [.slice (some ⟨b152, o153, none⟩) (List.length aReply) c6, .slice A154 (List.length (List.getD aReply (Int.toNat q101) [])) c155, .slice (some ⟨b160, o161, none⟩) (List.length bReply) c18, .slice A162 (List.length (List.getD bReply (Int.toNat q101) [])) c163] [(47, .slice A154 (List.length (List.getD aReply (Int.toNat q101) [])) c155), (52, .slice A162 (List.length (List.getD bReply (Int.toNat q101) [])) c163)] (fun w_ => [World.cell? w_ ⟨g25, 2, none⟩ = some (.slice (some ⟨b152, o153, none⟩) (List.length aReply) c6), 0 ≤ q101 ∧ q101 < (((List.length aReply) : Nat) : Int), World.cell? w_ ⟨b152, o153 + (Int.toNat q101) * 1, none⟩ = some (.slice A154 (List.length (List.getD aReply (Int.toNat q101) [])) c155), World.cell? w_ ⟨g30, 2, none⟩ = some (.slice (some ⟨b160, o161, none⟩) (List.length bReply) c18), 0 ≤ q101 ∧ q101 < (((List.length bReply) : Nat) : Int), World.cell? w_ ⟨b160, o161 + (Int.toNat q101) * 1, none⟩ = some (.slice A162 (List.length (List.getD bReply (Int.toNat q101) [])) c163)]) 2 E (fun _ _ => by kernel_rfl) (by kernel_rfl) (fun w_ hS_ => ⟨(HR179.boxk [] hS_ 3 rfl rfl).cell (j := 2) rfl, g151, hS_.cell (hl156) (HR179.blk [] 1 rds_ro (idx_pos g151) rfl), (HR179.boxk [] hS_ 7 rfl rfl).cell (j := 2) rfl, g159, hS_.cell (hl164) (HR179.blk [] 5 rds_ro (idx_pos g159) rfl)⟩) (by kernel_rfl) HS178 ?_
   clear E; intro a E
   refine wpAnyH_all (rs := [10]) (by kernel_rfl) (by simp) ?_
   refine all1 ?_
   refine wpOp_of_list rfl ?_
   obtain ⟨Fa180, Hc181, hb182⟩ := H.call [] [(8, false), (9, false)] rfl rfl trivial
   refine e_call E rfl rfl Try.func42 rfl rfl rfl (kit_SameLetters_calls A154 c155 A162 c163 (List.getD aReply (Int.toNat q101) []) (List.getD bReply (Int.toNat q101) []) hk157 hk165 Hc181 h168) ?_
   rintro v183 w184 a ⟨rfl, HR185⟩ E_
   replace E := E_ _ rfl; clear E_
   obtain ⟨H_, hc186⟩ := hb182 _ _ HR185 rfl
   replace HS178 := HS178.ext (callS_ext hc186)
   replace H := H_; clear H_; try dsimp only [setn, addE, goneL] at H
   refine wpList_nil ?_
   refine th_n ⟨HS178, ?_⟩
   refine dn tbok (by kernel_rfl) [11] [] [(54, .bool (!r167))] (fun w_ => []) 0 E (fun _ _ => by kernel_rfl) (by kernel_rfl) (fun w_ hS_ => trivial) (by kernel_rfl) HS178 ?_
   clear E; intro a E
   refine dr_done (by kernel_rfl) ?_
   clear HS178 HR179
   refine th_n ?_
   refine E.cases (t := 54) rfl (fun hb_ E_ => ?_) (fun hb_ E_ => ?_)
   ·
    replace E := E_; clear E_
    have h187 : ¬ (r167 = true) := (ne_true_of_eq_false (not_t hb_))
    clear hb_; replace hP := ite_f h187 hP
    refine c_true E rfl ?_
    refine wp_seq ?_
    refine wp_region_lit ?_
    refine vn tbok 1 [] [(4, .bool false)] [] E (by kernel_rfl) (by kernel_rfl) trivial ?_
    clear E; intro a E
    refine wpList_nil ?_
    refine th_n ?_
    refine wp_ret ?_
    refine bl_ret ?_
    refine th_ret ?_
    refine th_ret ?_
    refine .inr ⟨rfl, ?_⟩
    refine bl_ret ?_
    refine th_ret ?_
    have hx_ := Option.some.inj hP; subst hx_
    have hP : some (false) = some r := hK146
    obtain rfl := Option.some.inj hP
    refine ret1 E rfl rfl ?_
    exact ⟨_, rfl, rfl, H.sel [] rfl⟩
   replace E := E_; clear E_
   have h188 : r167 = true := (not_f hb_)
   clear hb_; replace hP := ite_t h188 hP
   refine c_false E rfl ?_
   refine wp_skip ?_
   refine bl_n ?_
   refine th_n ?_
   refine wp_region_lit ?_
   obtain ⟨g189, hP⟩ := ask_inv hP
   refine vn tbok 3 [.int .i64 (q101 + 1)] [(5, .int .i64 (q101 + 1))] [IntKind.i64.wrap (q101 + 1) = q101 + 1] E (by kernel_rfl) (by kernel_rfl) (wrap_in g189) ?_
   clear E; intro a E
   refine wpList_nil ?_
   exact th_n ⟨m143, Nat.lt_succ_self _, q101 + 1, E.pick _ ⟨rfl, rfl, rfl, trivial⟩, H.sel [0, 1, 2, 3, 4, 5, 6, 7] rfl, hP⟩
  replace E := E_; clear E_
  have h190 : ¬ (q101 < (((List.length aReply) : Nat) : Int)) := of_decide_eq_false hb_
  clear hb_; replace hP := ite_f h190 hP
  refine c_false E rfl ?_
  refine wp_exit ?_
  refine th_exit ?_
  have hx_ := Option.some.inj hP
  refine th_exit (.inl ⟨0, rfl, ?_⟩)
  exact ⟨rfl, (), E.pick _ trivial, H.sel [] rfl, hx_.symm⟩
 clear E H hL145; intro i_ a w147 hM_
 obtain ⟨rfl, x149, E, H, hx_⟩ := hM_
 subst hx_; have hP := elim_l hK146
 clear hK146
 refine bl_hit ?_
 refine th_n ?_
 refine wp_seq ?_
 refine wp_region_lit ?_
 refine vn tbok 1 [] [(4, .bool true)] [] E (by kernel_rfl) (by kernel_rfl) trivial ?_
 clear E; intro a E
 refine wpList_nil ?_
 refine th_n ?_
 refine wp_ret ?_
 obtain rfl := Option.some.inj hP
 refine ret1 E rfl rfl ?_
 exact ⟨_, rfl, rfl, H.sel [] rfl⟩

/-! rejoinder/rejoinderlaw24.awake -/
def law24_awake (N : Nat) : Option Bool :=
  Option.bind (law23_Until N) fun r1 =>
  Option.bind (strat_Of N r1.1 r1.2.1 r1.2.2.1 r1.2.2.2 (1, 2)) fun r19 =>
  Option.bind (law23_Until N) fun r71 =>
  Option.bind (strat_Play N r71.1 r71.2.1 r71.2.2.1 r71.2.2.2 (1, 2) true ([1, -1, 0] : List Int) ([[2, 2], [], []] : List (List Int)) ([0, 0, 0] : List Int) ([1, 0] : List Int)) fun r95 =>
  if (r19.2 : Int) = 0 then
    Option.bind (law24_Same N r19.1.1 r19.1.2.1 r19.1.2.2.1 r19.1.2.2.2 true ([1, -1, 0] : List Int) ([[2, 2], [], []] : List (List Int)) ([0, 0, 0] : List Int)) fun r292 =>
    if r292 = true then
      Option.bind (kit_SameInts N r95.1 ([0, 2] : List Int)) fun r307 =>
      if r307 = true then
        some ((r95.2 : Int) == 0)
      else
        some false
    else
      some false
  else
    some false
set_option maxRecDepth 100000 in
set_option maxHeartbeats 4000000 in
theorem law24_awake_calls {N : Nat} {S Fa : Nat → Prop} {w0 : World} {r : Bool} (H : Hp S Fa w0 w0 []) (hP : law24_awake N  = some r) :
    Calls Try.prog 24 #[] w0 fun e w' => ∃ v, e = .returned v ∧ v = .bool r ∧ Hp S Fa w0 w' [] := by
 refine enterV (n := 41) Try.func24 rfl rfl rfl ?_
 intro a E
 replace E := E.pick [] trivial
 rw [law24_awake] at hP
 refine wp_seq ?_
 refine wp_region_lit ?_
 refine vn tbok 1 [] [] [] E (by kernel_rfl) (by kernel_rfl) trivial ?_
 clear E; intro a E
 refine wpList_nil ?_
 refine th_n ?_
 refine wp_seq ?_
 refine wp_region_lit ?_
 obtain ⟨r1, h2, hP⟩ := bind_inv hP
 obtain ⟨Fa3, Hc4, hb5⟩ := H.call [] [] rfl rfl trivial
 refine e_call E rfl rfl Try.func28 rfl rfl rfl (law23_Until_calls    Hc4 h2) ?_
 rintro v6 w7 a ⟨A10, c11, A13, c14, A16, c17, rfl, HR8⟩ E_
 replace E := E_ _ rfl; clear E_
 obtain ⟨H_, hc9⟩ := hb5 _ _ HR8 rfl
 replace H := H_; clear H_; try dsimp only [setn, addE, goneL] at H
 refine e_build (ps := [(0, .int .u8 1), (1, .int .u8 2)]) (v := .agg #[.int .u8 1, .int .u8 2]) E rfl rfl tbok rfl (by kernel_rfl) rfl ?_
 clear E; intro a E
 obtain ⟨r19, h20, hP⟩ := bind_inv hP
 obtain ⟨Fa21, Hc22, hb23⟩ := H.call [] [(0, false), (1, false), (2, false)] rfl rfl trivial
 refine e_call E rfl rfl Try.func12 rfl rfl rfl (strat_Of_calls A10 c11 A13 c14 A16 c17 r1.1 r1.2.1 r1.2.2.1 r1.2.2.2 (1, 2) (H.rcap 0 rfl) (H.rcap 1 rfl) (H.rcap 2 rfl) Hc22 h20) ?_
 rintro v24 w25 a ⟨A28, c29, A31, c32, A34, c35, rfl, HR26⟩ E_
 replace E := E_ _ rfl; clear E_
 obtain ⟨H_, hc27⟩ := hb23 _ _ HR26 rfl
 replace H := H_; clear H_; try dsimp only [setn, addE, goneL] at H
 refine vn tbok 3 [] [(10, .agg #[.bool r19.1.1, .slice A28 (List.length r19.1.2.1) c29, .slice A31 (List.length r19.1.2.2.1) c32, .slice A34 (List.length r19.1.2.2.2) c35]), (11, .int .i64 r19.2)] [] E (by kernel_rfl) (by kernel_rfl) trivial ?_
 clear E; intro a E
 refine h_alloc H E rfl rfl tbok rfl ?_
 intro w38 g37 a hc39 hg41 H_ E_
 replace E := E_ _ rfl; clear E_
 replace H := H_; clear H_; try dsimp only [setn, addE, goneL] at H
 refine h_store (g := g37) (off := 0) H 6 rfl E rfl rfl rfl rfl tbok rfl rfl rfl rfl rfl ?_
 clear E; intro w42 a hc43 H_ E
 replace H := H_; clear H_; try dsimp only [setn, addE, goneL] at H
 refine vn tbok 1 [] [(2, .int .i64 r19.2)] [] E (by kernel_rfl) (by kernel_rfl) trivial ?_
 clear E; intro a E
 refine wpList_nil ?_
 refine th_n ?_
 refine wp_seq ?_
 refine wp_region_lit ?_
 refine h_buildSlice (ps := [(0, .int .i64 1), (1, .int .i64 (-1)), (2, .int .i64 0)]) (cs := [.int .i64 1, .int .i64 (-1), .int .i64 0]) H E rfl rfl tbok rfl rfl (by kernel_rfl) ?_
 intro w45 g44 a hc46 hg48 H_ E_
 replace E := E_ _ rfl; clear E_
 replace H := H_; clear H_; try dsimp only [setn, addE, goneL] at H
 refine h_buildSlice (ps := [(0, .int .u8 2), (1, .int .u8 2)]) (cs := [.int .u8 2, .int .u8 2]) H E rfl rfl tbok rfl rfl (by kernel_rfl) ?_
 intro w50 g49 a hc51 hg53 H_ E_
 replace E := E_ _ rfl; clear E_
 replace H := H_; clear H_; try dsimp only [setn, addE, goneL] at H
 refine h_buildSlice (ps := [(0, .slice (some ⟨g49, 0, none⟩) 2 2), (1, .slice none 0 0), (2, .slice none 0 0)]) (cs := [.slice (some ⟨g49, 0, none⟩) 2 2, .slice none 0 0, .slice none 0 0]) H E rfl rfl tbok rfl rfl (by kernel_rfl) ?_
 intro w55 g54 a hc56 hg58 H_ E_
 replace E := E_ _ rfl; clear E_
 replace H := H_; clear H_; try dsimp only [setn, addE, goneL] at H
 refine h_buildSlice (ps := [(0, .int .u8 0), (1, .int .u8 0), (2, .int .u8 0)]) (cs := [.int .u8 0, .int .u8 0, .int .u8 0]) H E rfl rfl tbok rfl rfl (by kernel_rfl) ?_
 intro w60 g59 a hc61 hg63 H_ E_
 replace E := E_ _ rfl; clear E_
 replace H := H_; clear H_; try dsimp only [setn, addE, goneL] at H
 refine e_build (ps := [(0, .bool true), (1, .slice (some ⟨g44, 0, none⟩) 3 3), (2, .slice (some ⟨g54, 0, none⟩) 3 3), (3, .slice (some ⟨g59, 0, none⟩) 3 3)]) (v := .agg #[.bool true, .slice (some ⟨g44, 0, none⟩) 3 3, .slice (some ⟨g54, 0, none⟩) 3 3, .slice (some ⟨g59, 0, none⟩) 3 3]) E rfl rfl tbok rfl (by kernel_rfl) rfl ?_
 clear E; intro a E
 refine h_alloc H E rfl rfl tbok rfl ?_
 intro w65 g64 a hc66 hg68 H_ E_
 replace E := E_ _ rfl; clear E_
 replace H := H_; clear H_; try dsimp only [setn, addE, goneL] at H
 refine h_store (g := g64) (off := 0) H 11 rfl E rfl rfl rfl rfl tbok rfl rfl rfl rfl rfl ?_
 clear E; intro w69 a hc70 H_ E
 replace H := H_; clear H_; try dsimp only [setn, addE, goneL] at H
 refine wpList_nil ?_
 refine th_n ?_
 refine wp_seq ?_
 obtain ⟨r71, h72, hP⟩ := bind_inv hP
 obtain ⟨r95, h96, hP⟩ := bind_inv hP
 refine meet_cut (fun a w110 => ∃ (A108 : Option Addr) (c109 : Nat), Fr a 41 [(1, .pointer (some ⟨g37, 0, none⟩)), (2, .int .i64 r19.2), (3, .pointer (some ⟨g64, 0, none⟩)), (4, .slice A108 (List.length r95.1) c109), (5, .int .i64 r95.2)] ∧ Hp S Fa w0 w110 [.row true (cInt .i64) 3 A28 c29 r19.1.2.1, .row true (cSl (cInt .u8)) 31 A31 c32 r19.1.2.2.1, .row true (cInt .u8) 27 A34 c35 r19.1.2.2.2, .box g37 33 [.bool r19.1.1, .slice A28 (List.length r19.1.2.1) c29, .slice A31 (List.length r19.1.2.2.1) c32, .slice A34 (List.length r19.1.2.2.2) c35], .rowx true (cInt .i64) 3 (some ⟨g44, 0, none⟩) (List.length ([1, -1, 0] : List Int)) ([1, -1, 0] : List Int) [], .rowx true (cSl (cInt .u8)) 31 (some ⟨g54, 0, none⟩) (List.length ([[2, 2], [], []] : List (List Int))) ([[2, 2], [], []] : List (List Int)) [], .rowx true (cInt .u8) 27 (some ⟨g59, 0, none⟩) (List.length ([0, 0, 0] : List Int)) ([0, 0, 0] : List Int) [], .box g64 33 [.bool true, .slice (some ⟨g44, 0, none⟩) 3 3, .slice (some ⟨g54, 0, none⟩) 3 3, .slice (some ⟨g59, 0, none⟩) 3 3], .row true (cInt .i64) 3 A108 c109 r95.1]) ?_ ?_
 ·
  have HR114 := H
  refine dr_start (S := fun w_ => Chg (atL []) w69 w_) (by kernel_rfl) ?_
  intro w111 hc112
  have HS113 : Chg (atL []) w69 w111 := hc112.mono (fun _ _ h_ => h_.elim)
  replace H := H.ext hc112
  refine dn tbok (by kernel_rfl) [2] [.agg #[.bool true, .slice (some ⟨g44, 0, none⟩) 3 3, .slice (some ⟨g54, 0, none⟩) 3 3, .slice (some ⟨g59, 0, none⟩) 3 3]] [(20, .agg #[.bool true, .slice (some ⟨g44, 0, none⟩) 3 3, .slice (some ⟨g54, 0, none⟩) 3 3, .slice (some ⟨g59, 0, none⟩) 3 3])] (fun w_ => [cellsAt w_ g64 (0) [.bool true, .slice (some ⟨g44, 0, none⟩) 3 3, .slice (some ⟨g54, 0, none⟩) 3 3, .slice (some ⟨g59, 0, none⟩) 3 3]]) 9 E (fun _ _ => by kernel_rfl) (by kernel_rfl) (fun w_ hS_ => ((HR114.boxk [] hS_ 11 rfl rfl).sub 0 _ rfl)) (by kernel_rfl) HS113 ?_
  clear E; intro a E
  refine wpAnyH_all (rs := [0, 1, 3]) (by kernel_rfl) (by simp) ?_
  refine all3 ?_ ?_ ?_
  ·
   refine wpOp_of_list rfl ?_
   obtain ⟨Fa115, Hc116, hb117⟩ := H.call [] [] rfl rfl trivial
   refine e_call E rfl rfl Try.func28 rfl rfl rfl (law23_Until_calls    Hc116 h72) ?_
   rintro v118 w119 a ⟨A122, c123, A125, c126, A128, c129, rfl, HR120⟩ E_
   replace E := E_ _ rfl; clear E_
   obtain ⟨H_, hc121⟩ := hb117 _ _ HR120 rfl
   replace HS113 := HS113.ext (callS_ext hc121)
   replace H := H_; clear H_; try dsimp only [setn, addE, goneL] at H
   refine wpList_nil ?_
   refine th_n ⟨HS113, ?_⟩
   refine wpAnyH_all (rs := [1, 3]) (by kernel_rfl) (by simp) ?_
   refine all2 ?_ ?_
   ·
    refine wpOp_of_list rfl ?_
    refine e_build (ps := [(0, .int .u8 1), (1, .int .u8 2)]) (v := .agg #[.int .u8 1, .int .u8 2]) E rfl rfl tbok rfl (by kernel_rfl) rfl ?_
    clear E; intro a E
    refine wpList_nil ?_
    refine th_n ⟨HS113, ?_⟩
    refine wpAnyH_all (rs := [3]) (by kernel_rfl) (by simp) ?_
    refine all1 ?_
    refine wpOp_of_list rfl ?_
    refine h_buildSlice (ps := [(0, .int .u8 1), (1, .int .u8 0)]) (cs := [.int .u8 1, .int .u8 0]) H E rfl rfl tbok rfl rfl (by kernel_rfl) ?_
    intro w132 g131 a hc133 hg135 H_ E_
    replace E := E_ _ rfl; clear E_
    have hin136 : ∀ q_, q_ < w69.heap.size → q_ = g131 → (atL []) q_ := fun q_ h1_ h2_ => by have hs_ := HS113.size; have h4_ : q_ = g131 := h2_; exfalso; omega
    replace HS113 := HS113.ext hc133
    replace H := H_; clear H_; try dsimp only [setn, addE, goneL] at H
    refine wpList_nil ?_
    refine th_n ⟨HS113, ?_⟩
    refine wpAnyH_all (rs := [4]) (by kernel_rfl) (by simp) ?_
    refine all1 ?_
    refine wpOp_of_list rfl ?_
    replace H := H.boxRow (cInt .i64) true ([1, -1, 0] : List Int) 7 rfl (fun _ _ => ⟨_, _, rfl, rfl, ⟨_, _, rfl, rfl, ⟨_, _, rfl, rfl, rfl⟩⟩⟩) (Nat.le_of_ble_eq_true rfl); try dsimp only [setn, addE, goneL] at H
    replace H := H.boxRow (cInt .u8) true ([2, 2] : List Int) 8 rfl (fun _ _ => ⟨_, _, rfl, rfl, ⟨_, _, rfl, rfl, rfl⟩⟩) (Nat.le_of_ble_eq_true rfl); try dsimp only [setn, addE, goneL] at H
    replace H := H.rowx 8 rfl; try dsimp only [setn, addE, goneL] at H
    have hk137 := H.rcap 8 rfl
    replace H := H.frz 8 rfl; try dsimp only [setn, addE, goneL] at H
    replace H := H.boxRow (cSl (cInt .u8)) true ([[2, 2], [], []] : List (List Int)) 9 rfl (fun _ HF_ => ⟨_, _, rfl, ⟨_, _, rfl, hk137, (HF_.roC 8 rfl)⟩, ⟨_, _, rfl, kSl_nil, ⟨_, _, rfl, kSl_nil, rfl⟩⟩⟩) (Nat.le_of_ble_eq_true rfl); try dsimp only [setn, addE, goneL] at H
    replace H := H.boxRow (cInt .u8) true ([0, 0, 0] : List Int) 10 rfl (fun _ _ => ⟨_, _, rfl, rfl, ⟨_, _, rfl, rfl, ⟨_, _, rfl, rfl, rfl⟩⟩⟩) (Nat.le_of_ble_eq_true rfl); try dsimp only [setn, addE, goneL] at H
    replace H := H.boxRow (cInt .u8) true ([1, 0] : List Int) 15 rfl (fun _ _ => ⟨_, _, rfl, rfl, ⟨_, _, rfl, rfl, rfl⟩⟩) (Nat.le_of_ble_eq_true rfl); try dsimp only [setn, addE, goneL] at H
    obtain ⟨Fa138, Hc139, hb140⟩ := H.call [] [(12, false), (13, false), (14, false), (7, false), (9, false), (10, false), (15, false)] rfl rfl trivial
    refine e_call E rfl rfl Try.func17 rfl rfl rfl (strat_Play_calls A122 c123 A125 c126 A128 c129 (some ⟨g44, 0, none⟩) 3 (some ⟨g54, 0, none⟩) 3 (some ⟨g59, 0, none⟩) 3 (some ⟨g131, 0, none⟩) 2 r71.1 r71.2.1 r71.2.2.1 r71.2.2.2 (1, 2) true ([1, -1, 0] : List Int) ([[2, 2], [], []] : List (List Int)) ([0, 0, 0] : List Int) ([1, 0] : List Int) (H.rcap 12 rfl) (H.rcap 13 rfl) (H.rcap 14 rfl) (H.rcapx 7 rfl) (H.rcapx 9 rfl) (H.rcapx 10 rfl) (H.rcapx 15 rfl) Hc139 h96) ?_
    rintro v141 w142 a ⟨A145, c146, rfl, HR143⟩ E_
    replace E := E_ _ rfl; clear E_
    obtain ⟨H_, hc144⟩ := hb140 _ _ HR143 rfl
    replace HS113 := HS113.ext (callS_ext hc144)
    replace H := H_; clear H_; try dsimp only [setn, addE, goneL] at H
    refine wpList_nil ?_
    refine th_n ⟨HS113, ?_⟩
    refine dn tbok (by kernel_rfl) [5, 6, 7, 8, 9] [] [(4, .slice A145 (List.length r95.1) c146), (5, .int .i64 r95.2)] (fun w_ => []) 0 E (fun _ _ => by kernel_rfl) (by kernel_rfl) (fun w_ hS_ => trivial) (by kernel_rfl) HS113 ?_
    clear E; intro a E
    refine dr_done (by kernel_rfl) ?_
    exact .inl ⟨rfl, A145, c146, E.pick _ ⟨rfl, rfl, rfl, rfl, rfl, trivial⟩, H.sel [3, 4, 5, 6, 7, 9, 10, 11, 16] rfl⟩
   refine wpOp_of_list rfl ?_
   refine h_buildSlice (ps := [(0, .int .u8 1), (1, .int .u8 0)]) (cs := [.int .u8 1, .int .u8 0]) H E rfl rfl tbok rfl rfl (by kernel_rfl) ?_
   intro w149 g148 a hc150 hg152 H_ E_
   replace E := E_ _ rfl; clear E_
   have hin153 : ∀ q_, q_ < w69.heap.size → q_ = g148 → (atL []) q_ := fun q_ h1_ h2_ => by have hs_ := HS113.size; have h4_ : q_ = g148 := h2_; exfalso; omega
   replace HS113 := HS113.ext hc150
   replace H := H_; clear H_; try dsimp only [setn, addE, goneL] at H
   refine wpList_nil ?_
   refine th_n ⟨HS113, ?_⟩
   refine wpAnyH_all (rs := [1]) (by kernel_rfl) (by simp) ?_
   refine all1 ?_
   refine wpOp_of_list rfl ?_
   refine e_build (ps := [(0, .int .u8 1), (1, .int .u8 2)]) (v := .agg #[.int .u8 1, .int .u8 2]) E rfl rfl tbok rfl (by kernel_rfl) rfl ?_
   clear E; intro a E
   refine wpList_nil ?_
   refine th_n ⟨HS113, ?_⟩
   refine wpAnyH_all (rs := [4]) (by kernel_rfl) (by simp) ?_
   refine all1 ?_
   refine wpOp_of_list rfl ?_
   replace H := H.boxRow (cInt .i64) true ([1, -1, 0] : List Int) 7 rfl (fun _ _ => ⟨_, _, rfl, rfl, ⟨_, _, rfl, rfl, ⟨_, _, rfl, rfl, rfl⟩⟩⟩) (Nat.le_of_ble_eq_true rfl); try dsimp only [setn, addE, goneL] at H
   replace H := H.boxRow (cInt .u8) true ([2, 2] : List Int) 8 rfl (fun _ _ => ⟨_, _, rfl, rfl, ⟨_, _, rfl, rfl, rfl⟩⟩) (Nat.le_of_ble_eq_true rfl); try dsimp only [setn, addE, goneL] at H
   replace H := H.rowx 8 rfl; try dsimp only [setn, addE, goneL] at H
   have hk154 := H.rcap 8 rfl
   replace H := H.frz 8 rfl; try dsimp only [setn, addE, goneL] at H
   replace H := H.boxRow (cSl (cInt .u8)) true ([[2, 2], [], []] : List (List Int)) 9 rfl (fun _ HF_ => ⟨_, _, rfl, ⟨_, _, rfl, hk154, (HF_.roC 8 rfl)⟩, ⟨_, _, rfl, kSl_nil, ⟨_, _, rfl, kSl_nil, rfl⟩⟩⟩) (Nat.le_of_ble_eq_true rfl); try dsimp only [setn, addE, goneL] at H
   replace H := H.boxRow (cInt .u8) true ([0, 0, 0] : List Int) 10 rfl (fun _ _ => ⟨_, _, rfl, rfl, ⟨_, _, rfl, rfl, ⟨_, _, rfl, rfl, rfl⟩⟩⟩) (Nat.le_of_ble_eq_true rfl); try dsimp only [setn, addE, goneL] at H
   replace H := H.boxRow (cInt .u8) true ([1, 0] : List Int) 15 rfl (fun _ _ => ⟨_, _, rfl, rfl, ⟨_, _, rfl, rfl, rfl⟩⟩) (Nat.le_of_ble_eq_true rfl); try dsimp only [setn, addE, goneL] at H
   obtain ⟨Fa155, Hc156, hb157⟩ := H.call [] [(12, false), (13, false), (14, false), (7, false), (9, false), (10, false), (15, false)] rfl rfl trivial
   refine e_call E rfl rfl Try.func17 rfl rfl rfl (strat_Play_calls A122 c123 A125 c126 A128 c129 (some ⟨g44, 0, none⟩) 3 (some ⟨g54, 0, none⟩) 3 (some ⟨g59, 0, none⟩) 3 (some ⟨g148, 0, none⟩) 2 r71.1 r71.2.1 r71.2.2.1 r71.2.2.2 (1, 2) true ([1, -1, 0] : List Int) ([[2, 2], [], []] : List (List Int)) ([0, 0, 0] : List Int) ([1, 0] : List Int) (H.rcap 12 rfl) (H.rcap 13 rfl) (H.rcap 14 rfl) (H.rcapx 7 rfl) (H.rcapx 9 rfl) (H.rcapx 10 rfl) (H.rcapx 15 rfl) Hc156 h96) ?_
   rintro v158 w159 a ⟨A162, c163, rfl, HR160⟩ E_
   replace E := E_ _ rfl; clear E_
   obtain ⟨H_, hc161⟩ := hb157 _ _ HR160 rfl
   replace HS113 := HS113.ext (callS_ext hc161)
   replace H := H_; clear H_; try dsimp only [setn, addE, goneL] at H
   refine wpList_nil ?_
   refine th_n ⟨HS113, ?_⟩
   refine dn tbok (by kernel_rfl) [5, 6, 7, 8, 9] [] [(4, .slice A162 (List.length r95.1) c163), (5, .int .i64 r95.2)] (fun w_ => []) 0 E (fun _ _ => by kernel_rfl) (by kernel_rfl) (fun w_ hS_ => trivial) (by kernel_rfl) HS113 ?_
   clear E; intro a E
   refine dr_done (by kernel_rfl) ?_
   exact .inl ⟨rfl, A162, c163, E.pick _ ⟨rfl, rfl, rfl, rfl, rfl, trivial⟩, H.sel [3, 4, 5, 6, 7, 9, 10, 11, 16] rfl⟩
  ·
   refine wpOp_of_list rfl ?_
   refine e_build (ps := [(0, .int .u8 1), (1, .int .u8 2)]) (v := .agg #[.int .u8 1, .int .u8 2]) E rfl rfl tbok rfl (by kernel_rfl) rfl ?_
   clear E; intro a E
   refine wpList_nil ?_
   refine th_n ⟨HS113, ?_⟩
   refine wpAnyH_all (rs := [0, 3]) (by kernel_rfl) (by simp) ?_
   refine all2 ?_ ?_
   ·
    refine wpOp_of_list rfl ?_
    obtain ⟨Fa165, Hc166, hb167⟩ := H.call [] [] rfl rfl trivial
    refine e_call E rfl rfl Try.func28 rfl rfl rfl (law23_Until_calls    Hc166 h72) ?_
    rintro v168 w169 a ⟨A172, c173, A175, c176, A178, c179, rfl, HR170⟩ E_
    replace E := E_ _ rfl; clear E_
    obtain ⟨H_, hc171⟩ := hb167 _ _ HR170 rfl
    replace HS113 := HS113.ext (callS_ext hc171)
    replace H := H_; clear H_; try dsimp only [setn, addE, goneL] at H
    refine wpList_nil ?_
    refine th_n ⟨HS113, ?_⟩
    refine wpAnyH_all (rs := [3]) (by kernel_rfl) (by simp) ?_
    refine all1 ?_
    refine wpOp_of_list rfl ?_
    refine h_buildSlice (ps := [(0, .int .u8 1), (1, .int .u8 0)]) (cs := [.int .u8 1, .int .u8 0]) H E rfl rfl tbok rfl rfl (by kernel_rfl) ?_
    intro w182 g181 a hc183 hg185 H_ E_
    replace E := E_ _ rfl; clear E_
    have hin186 : ∀ q_, q_ < w69.heap.size → q_ = g181 → (atL []) q_ := fun q_ h1_ h2_ => by have hs_ := HS113.size; have h4_ : q_ = g181 := h2_; exfalso; omega
    replace HS113 := HS113.ext hc183
    replace H := H_; clear H_; try dsimp only [setn, addE, goneL] at H
    refine wpList_nil ?_
    refine th_n ⟨HS113, ?_⟩
    refine wpAnyH_all (rs := [4]) (by kernel_rfl) (by simp) ?_
    refine all1 ?_
    refine wpOp_of_list rfl ?_
    replace H := H.boxRow (cInt .i64) true ([1, -1, 0] : List Int) 7 rfl (fun _ _ => ⟨_, _, rfl, rfl, ⟨_, _, rfl, rfl, ⟨_, _, rfl, rfl, rfl⟩⟩⟩) (Nat.le_of_ble_eq_true rfl); try dsimp only [setn, addE, goneL] at H
    replace H := H.boxRow (cInt .u8) true ([2, 2] : List Int) 8 rfl (fun _ _ => ⟨_, _, rfl, rfl, ⟨_, _, rfl, rfl, rfl⟩⟩) (Nat.le_of_ble_eq_true rfl); try dsimp only [setn, addE, goneL] at H
    replace H := H.rowx 8 rfl; try dsimp only [setn, addE, goneL] at H
    have hk187 := H.rcap 8 rfl
    replace H := H.frz 8 rfl; try dsimp only [setn, addE, goneL] at H
    replace H := H.boxRow (cSl (cInt .u8)) true ([[2, 2], [], []] : List (List Int)) 9 rfl (fun _ HF_ => ⟨_, _, rfl, ⟨_, _, rfl, hk187, (HF_.roC 8 rfl)⟩, ⟨_, _, rfl, kSl_nil, ⟨_, _, rfl, kSl_nil, rfl⟩⟩⟩) (Nat.le_of_ble_eq_true rfl); try dsimp only [setn, addE, goneL] at H
    replace H := H.boxRow (cInt .u8) true ([0, 0, 0] : List Int) 10 rfl (fun _ _ => ⟨_, _, rfl, rfl, ⟨_, _, rfl, rfl, ⟨_, _, rfl, rfl, rfl⟩⟩⟩) (Nat.le_of_ble_eq_true rfl); try dsimp only [setn, addE, goneL] at H
    replace H := H.boxRow (cInt .u8) true ([1, 0] : List Int) 15 rfl (fun _ _ => ⟨_, _, rfl, rfl, ⟨_, _, rfl, rfl, rfl⟩⟩) (Nat.le_of_ble_eq_true rfl); try dsimp only [setn, addE, goneL] at H
    obtain ⟨Fa188, Hc189, hb190⟩ := H.call [] [(12, false), (13, false), (14, false), (7, false), (9, false), (10, false), (15, false)] rfl rfl trivial
    refine e_call E rfl rfl Try.func17 rfl rfl rfl (strat_Play_calls A172 c173 A175 c176 A178 c179 (some ⟨g44, 0, none⟩) 3 (some ⟨g54, 0, none⟩) 3 (some ⟨g59, 0, none⟩) 3 (some ⟨g181, 0, none⟩) 2 r71.1 r71.2.1 r71.2.2.1 r71.2.2.2 (1, 2) true ([1, -1, 0] : List Int) ([[2, 2], [], []] : List (List Int)) ([0, 0, 0] : List Int) ([1, 0] : List Int) (H.rcap 12 rfl) (H.rcap 13 rfl) (H.rcap 14 rfl) (H.rcapx 7 rfl) (H.rcapx 9 rfl) (H.rcapx 10 rfl) (H.rcapx 15 rfl) Hc189 h96) ?_
    rintro v191 w192 a ⟨A195, c196, rfl, HR193⟩ E_
    replace E := E_ _ rfl; clear E_
    obtain ⟨H_, hc194⟩ := hb190 _ _ HR193 rfl
    replace HS113 := HS113.ext (callS_ext hc194)
    replace H := H_; clear H_; try dsimp only [setn, addE, goneL] at H
    refine wpList_nil ?_
    refine th_n ⟨HS113, ?_⟩
    refine dn tbok (by kernel_rfl) [5, 6, 7, 8, 9] [] [(4, .slice A195 (List.length r95.1) c196), (5, .int .i64 r95.2)] (fun w_ => []) 0 E (fun _ _ => by kernel_rfl) (by kernel_rfl) (fun w_ hS_ => trivial) (by kernel_rfl) HS113 ?_
    clear E; intro a E
    refine dr_done (by kernel_rfl) ?_
    exact .inl ⟨rfl, A195, c196, E.pick _ ⟨rfl, rfl, rfl, rfl, rfl, trivial⟩, H.sel [3, 4, 5, 6, 7, 9, 10, 11, 16] rfl⟩
   refine wpOp_of_list rfl ?_
   refine h_buildSlice (ps := [(0, .int .u8 1), (1, .int .u8 0)]) (cs := [.int .u8 1, .int .u8 0]) H E rfl rfl tbok rfl rfl (by kernel_rfl) ?_
   intro w199 g198 a hc200 hg202 H_ E_
   replace E := E_ _ rfl; clear E_
   have hin203 : ∀ q_, q_ < w69.heap.size → q_ = g198 → (atL []) q_ := fun q_ h1_ h2_ => by have hs_ := HS113.size; have h4_ : q_ = g198 := h2_; exfalso; omega
   replace HS113 := HS113.ext hc200
   replace H := H_; clear H_; try dsimp only [setn, addE, goneL] at H
   refine wpList_nil ?_
   refine th_n ⟨HS113, ?_⟩
   refine wpAnyH_all (rs := [0]) (by kernel_rfl) (by simp) ?_
   refine all1 ?_
   refine wpOp_of_list rfl ?_
   obtain ⟨Fa204, Hc205, hb206⟩ := H.call [] [] rfl rfl trivial
   refine e_call E rfl rfl Try.func28 rfl rfl rfl (law23_Until_calls    Hc205 h72) ?_
   rintro v207 w208 a ⟨A211, c212, A214, c215, A217, c218, rfl, HR209⟩ E_
   replace E := E_ _ rfl; clear E_
   obtain ⟨H_, hc210⟩ := hb206 _ _ HR209 rfl
   replace HS113 := HS113.ext (callS_ext hc210)
   replace H := H_; clear H_; try dsimp only [setn, addE, goneL] at H
   refine wpList_nil ?_
   refine th_n ⟨HS113, ?_⟩
   refine wpAnyH_all (rs := [4]) (by kernel_rfl) (by simp) ?_
   refine all1 ?_
   refine wpOp_of_list rfl ?_
   replace H := H.boxRow (cInt .i64) true ([1, -1, 0] : List Int) 7 rfl (fun _ _ => ⟨_, _, rfl, rfl, ⟨_, _, rfl, rfl, ⟨_, _, rfl, rfl, rfl⟩⟩⟩) (Nat.le_of_ble_eq_true rfl); try dsimp only [setn, addE, goneL] at H
   replace H := H.boxRow (cInt .u8) true ([2, 2] : List Int) 8 rfl (fun _ _ => ⟨_, _, rfl, rfl, ⟨_, _, rfl, rfl, rfl⟩⟩) (Nat.le_of_ble_eq_true rfl); try dsimp only [setn, addE, goneL] at H
   replace H := H.rowx 8 rfl; try dsimp only [setn, addE, goneL] at H
   have hk220 := H.rcap 8 rfl
   replace H := H.frz 8 rfl; try dsimp only [setn, addE, goneL] at H
   replace H := H.boxRow (cSl (cInt .u8)) true ([[2, 2], [], []] : List (List Int)) 9 rfl (fun _ HF_ => ⟨_, _, rfl, ⟨_, _, rfl, hk220, (HF_.roC 8 rfl)⟩, ⟨_, _, rfl, kSl_nil, ⟨_, _, rfl, kSl_nil, rfl⟩⟩⟩) (Nat.le_of_ble_eq_true rfl); try dsimp only [setn, addE, goneL] at H
   replace H := H.boxRow (cInt .u8) true ([0, 0, 0] : List Int) 10 rfl (fun _ _ => ⟨_, _, rfl, rfl, ⟨_, _, rfl, rfl, ⟨_, _, rfl, rfl, rfl⟩⟩⟩) (Nat.le_of_ble_eq_true rfl); try dsimp only [setn, addE, goneL] at H
   replace H := H.boxRow (cInt .u8) true ([1, 0] : List Int) 12 rfl (fun _ _ => ⟨_, _, rfl, rfl, ⟨_, _, rfl, rfl, rfl⟩⟩) (Nat.le_of_ble_eq_true rfl); try dsimp only [setn, addE, goneL] at H
   obtain ⟨Fa221, Hc222, hb223⟩ := H.call [] [(13, false), (14, false), (15, false), (7, false), (9, false), (10, false), (12, false)] rfl rfl trivial
   refine e_call E rfl rfl Try.func17 rfl rfl rfl (strat_Play_calls A211 c212 A214 c215 A217 c218 (some ⟨g44, 0, none⟩) 3 (some ⟨g54, 0, none⟩) 3 (some ⟨g59, 0, none⟩) 3 (some ⟨g198, 0, none⟩) 2 r71.1 r71.2.1 r71.2.2.1 r71.2.2.2 (1, 2) true ([1, -1, 0] : List Int) ([[2, 2], [], []] : List (List Int)) ([0, 0, 0] : List Int) ([1, 0] : List Int) (H.rcap 13 rfl) (H.rcap 14 rfl) (H.rcap 15 rfl) (H.rcapx 7 rfl) (H.rcapx 9 rfl) (H.rcapx 10 rfl) (H.rcapx 12 rfl) Hc222 h96) ?_
   rintro v224 w225 a ⟨A228, c229, rfl, HR226⟩ E_
   replace E := E_ _ rfl; clear E_
   obtain ⟨H_, hc227⟩ := hb223 _ _ HR226 rfl
   replace HS113 := HS113.ext (callS_ext hc227)
   replace H := H_; clear H_; try dsimp only [setn, addE, goneL] at H
   refine wpList_nil ?_
   refine th_n ⟨HS113, ?_⟩
   refine dn tbok (by kernel_rfl) [5, 6, 7, 8, 9] [] [(4, .slice A228 (List.length r95.1) c229), (5, .int .i64 r95.2)] (fun w_ => []) 0 E (fun _ _ => by kernel_rfl) (by kernel_rfl) (fun w_ hS_ => trivial) (by kernel_rfl) HS113 ?_
   clear E; intro a E
   refine dr_done (by kernel_rfl) ?_
   exact .inl ⟨rfl, A228, c229, E.pick _ ⟨rfl, rfl, rfl, rfl, rfl, trivial⟩, H.sel [3, 4, 5, 6, 7, 9, 10, 11, 16] rfl⟩
  refine wpOp_of_list rfl ?_
  refine h_buildSlice (ps := [(0, .int .u8 1), (1, .int .u8 0)]) (cs := [.int .u8 1, .int .u8 0]) H E rfl rfl tbok rfl rfl (by kernel_rfl) ?_
  intro w232 g231 a hc233 hg235 H_ E_
  replace E := E_ _ rfl; clear E_
  have hin236 : ∀ q_, q_ < w69.heap.size → q_ = g231 → (atL []) q_ := fun q_ h1_ h2_ => by have hs_ := HS113.size; have h4_ : q_ = g231 := h2_; exfalso; omega
  replace HS113 := HS113.ext hc233
  replace H := H_; clear H_; try dsimp only [setn, addE, goneL] at H
  refine wpList_nil ?_
  refine th_n ⟨HS113, ?_⟩
  refine wpAnyH_all (rs := [0, 1]) (by kernel_rfl) (by simp) ?_
  refine all2 ?_ ?_
  ·
   refine wpOp_of_list rfl ?_
   obtain ⟨Fa237, Hc238, hb239⟩ := H.call [] [] rfl rfl trivial
   refine e_call E rfl rfl Try.func28 rfl rfl rfl (law23_Until_calls    Hc238 h72) ?_
   rintro v240 w241 a ⟨A244, c245, A247, c248, A250, c251, rfl, HR242⟩ E_
   replace E := E_ _ rfl; clear E_
   obtain ⟨H_, hc243⟩ := hb239 _ _ HR242 rfl
   replace HS113 := HS113.ext (callS_ext hc243)
   replace H := H_; clear H_; try dsimp only [setn, addE, goneL] at H
   refine wpList_nil ?_
   refine th_n ⟨HS113, ?_⟩
   refine wpAnyH_all (rs := [1]) (by kernel_rfl) (by simp) ?_
   refine all1 ?_
   refine wpOp_of_list rfl ?_
   refine e_build (ps := [(0, .int .u8 1), (1, .int .u8 2)]) (v := .agg #[.int .u8 1, .int .u8 2]) E rfl rfl tbok rfl (by kernel_rfl) rfl ?_
   clear E; intro a E
   refine wpList_nil ?_
   refine th_n ⟨HS113, ?_⟩
   refine wpAnyH_all (rs := [4]) (by kernel_rfl) (by simp) ?_
   refine all1 ?_
   refine wpOp_of_list rfl ?_
   replace H := H.boxRow (cInt .i64) true ([1, -1, 0] : List Int) 7 rfl (fun _ _ => ⟨_, _, rfl, rfl, ⟨_, _, rfl, rfl, ⟨_, _, rfl, rfl, rfl⟩⟩⟩) (Nat.le_of_ble_eq_true rfl); try dsimp only [setn, addE, goneL] at H
   replace H := H.boxRow (cInt .u8) true ([2, 2] : List Int) 8 rfl (fun _ _ => ⟨_, _, rfl, rfl, ⟨_, _, rfl, rfl, rfl⟩⟩) (Nat.le_of_ble_eq_true rfl); try dsimp only [setn, addE, goneL] at H
   replace H := H.rowx 8 rfl; try dsimp only [setn, addE, goneL] at H
   have hk253 := H.rcap 8 rfl
   replace H := H.frz 8 rfl; try dsimp only [setn, addE, goneL] at H
   replace H := H.boxRow (cSl (cInt .u8)) true ([[2, 2], [], []] : List (List Int)) 9 rfl (fun _ HF_ => ⟨_, _, rfl, ⟨_, _, rfl, hk253, (HF_.roC 8 rfl)⟩, ⟨_, _, rfl, kSl_nil, ⟨_, _, rfl, kSl_nil, rfl⟩⟩⟩) (Nat.le_of_ble_eq_true rfl); try dsimp only [setn, addE, goneL] at H
   replace H := H.boxRow (cInt .u8) true ([0, 0, 0] : List Int) 10 rfl (fun _ _ => ⟨_, _, rfl, rfl, ⟨_, _, rfl, rfl, ⟨_, _, rfl, rfl, rfl⟩⟩⟩) (Nat.le_of_ble_eq_true rfl); try dsimp only [setn, addE, goneL] at H
   replace H := H.boxRow (cInt .u8) true ([1, 0] : List Int) 12 rfl (fun _ _ => ⟨_, _, rfl, rfl, ⟨_, _, rfl, rfl, rfl⟩⟩) (Nat.le_of_ble_eq_true rfl); try dsimp only [setn, addE, goneL] at H
   obtain ⟨Fa254, Hc255, hb256⟩ := H.call [] [(13, false), (14, false), (15, false), (7, false), (9, false), (10, false), (12, false)] rfl rfl trivial
   refine e_call E rfl rfl Try.func17 rfl rfl rfl (strat_Play_calls A244 c245 A247 c248 A250 c251 (some ⟨g44, 0, none⟩) 3 (some ⟨g54, 0, none⟩) 3 (some ⟨g59, 0, none⟩) 3 (some ⟨g231, 0, none⟩) 2 r71.1 r71.2.1 r71.2.2.1 r71.2.2.2 (1, 2) true ([1, -1, 0] : List Int) ([[2, 2], [], []] : List (List Int)) ([0, 0, 0] : List Int) ([1, 0] : List Int) (H.rcap 13 rfl) (H.rcap 14 rfl) (H.rcap 15 rfl) (H.rcapx 7 rfl) (H.rcapx 9 rfl) (H.rcapx 10 rfl) (H.rcapx 12 rfl) Hc255 h96) ?_
   rintro v257 w258 a ⟨A261, c262, rfl, HR259⟩ E_
   replace E := E_ _ rfl; clear E_
   obtain ⟨H_, hc260⟩ := hb256 _ _ HR259 rfl
   replace HS113 := HS113.ext (callS_ext hc260)
   replace H := H_; clear H_; try dsimp only [setn, addE, goneL] at H
   refine wpList_nil ?_
   refine th_n ⟨HS113, ?_⟩
   refine dn tbok (by kernel_rfl) [5, 6, 7, 8, 9] [] [(4, .slice A261 (List.length r95.1) c262), (5, .int .i64 r95.2)] (fun w_ => []) 0 E (fun _ _ => by kernel_rfl) (by kernel_rfl) (fun w_ hS_ => trivial) (by kernel_rfl) HS113 ?_
   clear E; intro a E
   refine dr_done (by kernel_rfl) ?_
   exact .inl ⟨rfl, A261, c262, E.pick _ ⟨rfl, rfl, rfl, rfl, rfl, trivial⟩, H.sel [3, 4, 5, 6, 7, 9, 10, 11, 16] rfl⟩
  refine wpOp_of_list rfl ?_
  refine e_build (ps := [(0, .int .u8 1), (1, .int .u8 2)]) (v := .agg #[.int .u8 1, .int .u8 2]) E rfl rfl tbok rfl (by kernel_rfl) rfl ?_
  clear E; intro a E
  refine wpList_nil ?_
  refine th_n ⟨HS113, ?_⟩
  refine wpAnyH_all (rs := [0]) (by kernel_rfl) (by simp) ?_
  refine all1 ?_
  refine wpOp_of_list rfl ?_
  obtain ⟨Fa264, Hc265, hb266⟩ := H.call [] [] rfl rfl trivial
  refine e_call E rfl rfl Try.func28 rfl rfl rfl (law23_Until_calls    Hc265 h72) ?_
  rintro v267 w268 a ⟨A271, c272, A274, c275, A277, c278, rfl, HR269⟩ E_
  replace E := E_ _ rfl; clear E_
  obtain ⟨H_, hc270⟩ := hb266 _ _ HR269 rfl
  replace HS113 := HS113.ext (callS_ext hc270)
  replace H := H_; clear H_; try dsimp only [setn, addE, goneL] at H
  refine wpList_nil ?_
  refine th_n ⟨HS113, ?_⟩
  refine wpAnyH_all (rs := [4]) (by kernel_rfl) (by simp) ?_
  refine all1 ?_
  refine wpOp_of_list rfl ?_
  replace H := H.boxRow (cInt .i64) true ([1, -1, 0] : List Int) 7 rfl (fun _ _ => ⟨_, _, rfl, rfl, ⟨_, _, rfl, rfl, ⟨_, _, rfl, rfl, rfl⟩⟩⟩) (Nat.le_of_ble_eq_true rfl); try dsimp only [setn, addE, goneL] at H
  replace H := H.boxRow (cInt .u8) true ([2, 2] : List Int) 8 rfl (fun _ _ => ⟨_, _, rfl, rfl, ⟨_, _, rfl, rfl, rfl⟩⟩) (Nat.le_of_ble_eq_true rfl); try dsimp only [setn, addE, goneL] at H
  replace H := H.rowx 8 rfl; try dsimp only [setn, addE, goneL] at H
  have hk280 := H.rcap 8 rfl
  replace H := H.frz 8 rfl; try dsimp only [setn, addE, goneL] at H
  replace H := H.boxRow (cSl (cInt .u8)) true ([[2, 2], [], []] : List (List Int)) 9 rfl (fun _ HF_ => ⟨_, _, rfl, ⟨_, _, rfl, hk280, (HF_.roC 8 rfl)⟩, ⟨_, _, rfl, kSl_nil, ⟨_, _, rfl, kSl_nil, rfl⟩⟩⟩) (Nat.le_of_ble_eq_true rfl); try dsimp only [setn, addE, goneL] at H
  replace H := H.boxRow (cInt .u8) true ([0, 0, 0] : List Int) 10 rfl (fun _ _ => ⟨_, _, rfl, rfl, ⟨_, _, rfl, rfl, ⟨_, _, rfl, rfl, rfl⟩⟩⟩) (Nat.le_of_ble_eq_true rfl); try dsimp only [setn, addE, goneL] at H
  replace H := H.boxRow (cInt .u8) true ([1, 0] : List Int) 12 rfl (fun _ _ => ⟨_, _, rfl, rfl, ⟨_, _, rfl, rfl, rfl⟩⟩) (Nat.le_of_ble_eq_true rfl); try dsimp only [setn, addE, goneL] at H
  obtain ⟨Fa281, Hc282, hb283⟩ := H.call [] [(13, false), (14, false), (15, false), (7, false), (9, false), (10, false), (12, false)] rfl rfl trivial
  refine e_call E rfl rfl Try.func17 rfl rfl rfl (strat_Play_calls A271 c272 A274 c275 A277 c278 (some ⟨g44, 0, none⟩) 3 (some ⟨g54, 0, none⟩) 3 (some ⟨g59, 0, none⟩) 3 (some ⟨g231, 0, none⟩) 2 r71.1 r71.2.1 r71.2.2.1 r71.2.2.2 (1, 2) true ([1, -1, 0] : List Int) ([[2, 2], [], []] : List (List Int)) ([0, 0, 0] : List Int) ([1, 0] : List Int) (H.rcap 13 rfl) (H.rcap 14 rfl) (H.rcap 15 rfl) (H.rcapx 7 rfl) (H.rcapx 9 rfl) (H.rcapx 10 rfl) (H.rcapx 12 rfl) Hc282 h96) ?_
  rintro v284 w285 a ⟨A288, c289, rfl, HR286⟩ E_
  replace E := E_ _ rfl; clear E_
  obtain ⟨H_, hc287⟩ := hb283 _ _ HR286 rfl
  replace HS113 := HS113.ext (callS_ext hc287)
  replace H := H_; clear H_; try dsimp only [setn, addE, goneL] at H
  refine wpList_nil ?_
  refine th_n ⟨HS113, ?_⟩
  refine dn tbok (by kernel_rfl) [5, 6, 7, 8, 9] [] [(4, .slice A288 (List.length r95.1) c289), (5, .int .i64 r95.2)] (fun w_ => []) 0 E (fun _ _ => by kernel_rfl) (by kernel_rfl) (fun w_ hS_ => trivial) (by kernel_rfl) HS113 ?_
  clear E; intro a E
  refine dr_done (by kernel_rfl) ?_
  exact .inl ⟨rfl, A288, c289, E.pick _ ⟨rfl, rfl, rfl, rfl, rfl, trivial⟩, H.sel [3, 4, 5, 6, 7, 9, 10, 11, 16] rfl⟩
 clear E H; rintro a w110 ⟨A108, c109, E, H⟩
 refine th_n ?_
 refine wp_seq ?_
 refine wp_region_lit ?_
 refine vn tbok 3 [] [(27, .bool ((r19.2 : Int) == 0))] [] E (by kernel_rfl) (by kernel_rfl) trivial ?_
 clear E; intro a E
 refine E.cases (t := 27) rfl (fun hb_ E_ => ?_) (fun hb_ E_ => ?_)
 ·
  replace E := E_; clear E_
  have h291 : (r19.2 : Int) = 0 := eq_of_beq hb_
  clear hb_; replace hP := ite_t h291 hP
  refine vn tbok 2 [.agg #[.bool r19.1.1, .slice A28 (List.length r19.1.2.1) c29, .slice A31 (List.length r19.1.2.2.1) c32, .slice A34 (List.length r19.1.2.2.2) c35], .agg #[.bool true, .slice (some ⟨g44, 0, none⟩) 3 3, .slice (some ⟨g54, 0, none⟩) 3 3, .slice (some ⟨g59, 0, none⟩) 3 3]] [(28, .agg #[.bool r19.1.1, .slice A28 (List.length r19.1.2.1) c29, .slice A31 (List.length r19.1.2.2.1) c32, .slice A34 (List.length r19.1.2.2.2) c35]), (29, .agg #[.bool true, .slice (some ⟨g44, 0, none⟩) 3 3, .slice (some ⟨g54, 0, none⟩) 3 3, .slice (some ⟨g59, 0, none⟩) 3 3])] [cellsAt w110 g37 (0) [.bool r19.1.1, .slice A28 (List.length r19.1.2.1) c29, .slice A31 (List.length r19.1.2.2.1) c32, .slice A34 (List.length r19.1.2.2.2) c35], cellsAt w110 g64 (0) [.bool true, .slice (some ⟨g44, 0, none⟩) 3 3, .slice (some ⟨g54, 0, none⟩) 3 3, .slice (some ⟨g59, 0, none⟩) 3 3]] E (by kernel_rfl) (by kernel_rfl) ⟨(H.box 3 rfl).sub 0 _ rfl, (H.box 7 rfl).sub 0 _ rfl⟩ ?_
  clear E; intro a E
  obtain ⟨r292, h293, hP⟩ := bind_inv hP
  obtain ⟨Fa294, Hc295, hb296⟩ := H.call [] [(0, false), (1, false), (2, false), (4, false), (5, false), (6, false)] rfl rfl trivial
  refine e_call E rfl rfl Try.func14 rfl rfl rfl (law24_Same_calls A28 c29 A31 c32 A34 c35 (some ⟨g44, 0, none⟩) 3 (some ⟨g54, 0, none⟩) 3 (some ⟨g59, 0, none⟩) 3 r19.1.1 r19.1.2.1 r19.1.2.2.1 r19.1.2.2.2 true ([1, -1, 0] : List Int) ([[2, 2], [], []] : List (List Int)) ([0, 0, 0] : List Int) (H.rcap 0 rfl) (H.rcap 1 rfl) (H.rcap 2 rfl) (H.rcapx 4 rfl) (H.rcapx 5 rfl) (H.rcapx 6 rfl) Hc295 h293) ?_
  rintro v297 w298 a ⟨rfl, HR299⟩ E_
  replace E := E_ _ rfl; clear E_
  obtain ⟨H_, hc300⟩ := hb296 _ _ HR299 rfl
  replace H := H_; clear H_; try dsimp only [setn, addE, goneL] at H
  refine vn tbok 2 [] [(32, .bool r292)] [] E (by kernel_rfl) (by kernel_rfl) trivial ?_
  clear E; intro a E
  refine E.cases (t := 32) rfl (fun hb_ E_ => ?_) (fun hb_ E_ => ?_)
  ·
   replace E := E_; clear E_
   have h301 : r292 = true := hb_
   clear hb_; replace hP := ite_t h301 hP
   refine vn tbok 1 [] [(33, .slice A108 (List.length r95.1) c109)] [] E (by kernel_rfl) (by kernel_rfl) trivial ?_
   clear E; intro a E
   refine h_buildSlice (ps := [(0, .int .i64 0), (1, .int .i64 2)]) (cs := [.int .i64 0, .int .i64 2]) H E rfl rfl tbok rfl rfl (by kernel_rfl) ?_
   intro w303 g302 a hc304 hg306 H_ E_
   replace E := E_ _ rfl; clear E_
   replace H := H_; clear H_; try dsimp only [setn, addE, goneL] at H
   replace H := H.boxRow (cInt .i64) true ([0, 2] : List Int) 9 rfl (fun _ _ => ⟨_, _, rfl, rfl, ⟨_, _, rfl, rfl, rfl⟩⟩) (Nat.le_of_ble_eq_true rfl); try dsimp only [setn, addE, goneL] at H
   obtain ⟨r307, h308, hP⟩ := bind_inv hP
   obtain ⟨Fa309, Hc310, hb311⟩ := H.call [] [(8, false), (9, false)] rfl rfl trivial
   refine e_call E rfl rfl Try.func19 rfl rfl rfl (kit_SameInts_calls A108 c109 (some ⟨g302, 0, none⟩) 2 r95.1 ([0, 2] : List Int) (H.rcap 8 rfl) (H.rcapx 9 rfl) Hc310 h308) ?_
   rintro v312 w313 a ⟨rfl, HR314⟩ E_
   replace E := E_ _ rfl; clear E_
   obtain ⟨H_, hc315⟩ := hb311 _ _ HR314 rfl
   replace H := H_; clear H_; try dsimp only [setn, addE, goneL] at H
   refine vn tbok 2 [] [(37, .bool r307)] [] E (by kernel_rfl) (by kernel_rfl) trivial ?_
   clear E; intro a E
   refine E.cases (t := 37) rfl (fun hb_ E_ => ?_) (fun hb_ E_ => ?_)
   ·
    replace E := E_; clear E_
    have h316 : r307 = true := hb_
    clear hb_; replace hP := ite_t h316 hP
    refine vn tbok 4 [] [(0, .bool ((r95.2 : Int) == 0))] [] E (by kernel_rfl) (by kernel_rfl) trivial ?_
    clear E; intro a E
    refine wpList_nil ?_
    refine th_n ?_
    refine wp_ret ?_
    obtain rfl := Option.some.inj hP
    refine ret1 E rfl rfl ?_
    exact ⟨_, rfl, rfl, H.sel [] rfl⟩
   replace E := E_; clear E_
   have h317 : ¬ (r307 = true) := (ne_true_of_eq_false hb_)
   clear hb_; replace hP := ite_f h317 hP
   refine vn tbok 4 [] [(0, .bool false)] [] E (by kernel_rfl) (by kernel_rfl) trivial ?_
   clear E; intro a E
   refine wpList_nil ?_
   refine th_n ?_
   refine wp_ret ?_
   obtain rfl := Option.some.inj hP
   refine ret1 E rfl rfl ?_
   exact ⟨_, rfl, rfl, H.sel [] rfl⟩
  replace E := E_; clear E_
  have h318 : ¬ (r292 = true) := (ne_true_of_eq_false hb_)
  clear hb_; replace hP := ite_f h318 hP
  refine vn tbok 9 [] [(0, .bool false)] [] E (by kernel_rfl) (by kernel_rfl) trivial ?_
  clear E; intro a E
  refine wpList_nil ?_
  refine th_n ?_
  refine wp_ret ?_
  obtain rfl := Option.some.inj hP
  refine ret1 E rfl rfl ?_
  exact ⟨_, rfl, rfl, H.sel [] rfl⟩
 replace E := E_; clear E_
 have h319 : ¬ ((r19.2 : Int) = 0) := ne_of_beq_false hb_
 clear hb_; replace hP := ite_f h319 hP
 refine vn tbok 14 [] [(0, .bool false)] [] E (by kernel_rfl) (by kernel_rfl) trivial ?_
 clear E; intro a E
 refine wpList_nil ?_
 refine th_n ?_
 refine wp_ret ?_
 obtain rfl := Option.some.inj hP
 refine ret1 E rfl rfl ?_
 exact ⟨_, rfl, rfl, H.sel [] rfl⟩

end Go.V
