/- Plain functions, and the calls that give them. -/
import Derived.Test.YtljkomkejdngcaaA7
set_option linter.all false
set_option linter.unusedVariables false
set_option linter.unnecessarySimpa false
set_option linter.unusedSimpArgs false
namespace Go.V
open Go Go.Proofs
/-! rejoinder/rejoinderkit.SameInts -/
def kit_SameInts_l0 (N : Nat) (aa : List Int) (b : List Int) : Nat → Int → Option (Unit ⊕ Bool)
  | 0, _ => none
  | m41 + 1, i25 =>
    if i25 < (((List.length aa) : Nat) : Int) then
      ask (idx i25 (List.length aa)) <|
      ask (idx i25 (List.length b)) <|
      if ((List.getD aa (Int.toNat i25) 0) : Int) = (List.getD b (Int.toNat i25) 0) then
        ask (in64 (i25 + 1)) <|
        kit_SameInts_l0 N aa b m41 (i25 + 1)
      else
        some (Sum.inr false)
    else
      some (Sum.inl ())
def kit_SameInts (N : Nat) (aa : List Int) (b : List Int) : Option Bool :=
  if ((((List.length aa) : Nat) : Int) : Int) = (((List.length b) : Nat) : Int) then
    Option.bind (kit_SameInts_l0 N aa b N 0) fun x42 =>
    Sum.elim (fun x47 =>
      some true)
     (fun x63 =>
      some x63) x42
  else
    some false
set_option maxRecDepth 100000 in
set_option maxHeartbeats 4000000 in
theorem kit_SameInts_calls {N : Nat} {S Fa : Nat → Prop} {w0 : World} {r : Bool} (A1 : Option Addr) (c2 : Nat) (A5 : Option Addr) (c6 : Nat) (aa : List Int) (b : List Int) (hk3 : List.length aa ≤ c2) (hk7 : List.length b ≤ c6) (H : Hp S Fa w0 w0 [.ro false (cInt .i64) A1 aa, .ro false (cInt .i64) A5 b]) (hP : kit_SameInts N aa b = some r) :
    Calls Try.prog 59 #[.slice A1 (List.length aa) c2, .slice A5 (List.length b) c6] w0 fun e w' => ∃ v, e = .returned v ∧ v = .bool r ∧ Hp S Fa w0 w' [] := by
 refine enterV (n := 26) Try.func59 rfl rfl rfl ?_
 intro a E
 replace E := E.pick [(0, .slice A1 (List.length aa) c2), (1, .slice A5 (List.length b) c6)] ⟨rfl, rfl, trivial⟩
 rw [kit_SameInts] at hP
 refine wp_seq ?_
 refine wp_region_lit ?_
 refine vn tbok 1 [] [] [] E (by kernel_rfl) (by kernel_rfl) trivial ?_
 clear E; intro a E
 refine wpList_nil ?_
 refine th_n ?_
 refine wp_seq ?_
 refine wp_seq ?_
 refine wp_region_lit ?_
 refine vn tbok 5 [] [(10, .bool (((((List.length aa) : Nat) : Int) : Int) != (((List.length b) : Nat) : Int)))] [] E (by kernel_rfl) (by kernel_rfl) trivial ?_
 clear E; intro a E
 refine wpList_nil ?_
 refine th_n ?_
 refine E.cases (t := 10) rfl (fun hb_ E_ => ?_) (fun hb_ E_ => ?_)
 ·
  replace E := E_; clear E_
  have h9 : ¬ (((((List.length aa) : Nat) : Int) : Int) = (((List.length b) : Nat) : Int)) := bne_iff_ne.1 hb_
  clear hb_; replace hP := ite_f h9 hP
  refine c_true E rfl ?_
  refine wp_seq ?_
  refine wp_region_lit ?_
  refine vn tbok 1 [] [(4, .bool false)] [] E (by kernel_rfl) (by kernel_rfl) trivial ?_
  clear E; intro a E
  refine wpList_nil ?_
  refine th_n ?_
  refine wp_ret ?_
  refine th_ret ?_
  obtain rfl := Option.some.inj hP
  refine ret1 E rfl rfl ?_
  exact ⟨_, rfl, rfl, H.sel [] rfl⟩
 replace E := E_; clear E_
 have h10 : ((((List.length aa) : Nat) : Int) : Int) = (((List.length b) : Nat) : Int) := bne_eq_false_iff_eq.1 hb_
 clear hb_; replace hP := ite_t h10 hP
 refine c_false E rfl ?_
 refine wp_skip ?_
 refine th_n ?_
 refine wp_seq ?_
 refine wp_seq ?_
 refine wp_region_lit ?_
 refine vn tbok 1 [] [(5, .int .i64 0)] [] E (by kernel_rfl) (by kernel_rfl) trivial ?_
 clear E; intro a E
 refine wpList_nil ?_
 refine th_n ?_
 refine wp_block ?_
 obtain ⟨x42, hL43, hK44⟩ := bind_inv hP
 clear hP
 refine loop_cut (fun i_ a w_ => (i_ = 0 ∧ ∃ (x47 : Unit), Fr a 26 [] ∧ Hp S Fa w0 w_ [] ∧ x42 = Sum.inl x47)) ?_ ?_
 ·
  refine loopV (fun m46 a w45 => ∃ (i25 : Int), Fr a 26 [(0, .slice A1 (List.length aa) c2), (1, .slice A5 (List.length b) c6), (5, .int .i64 i25)] ∧ Hp S Fa w0 w45 [.ro false (cInt .i64) A1 aa, .ro false (cInt .i64) A5 b] ∧ kit_SameInts_l0 N aa b m46 i25 = some x42) N ?_ ?_
  ·
   exact ⟨0, E.pick _ ⟨rfl, rfl, rfl, trivial⟩, H.sel [0, 1] rfl, hL43⟩
  clear E H hL43; intro m46 a w45 hI_
  obtain ⟨i25, E, H, hP⟩ := hI_
  obtain ⟨m41, rfl⟩ : ∃ q_, m46 = q_ + 1 := by cases m46 with | zero => rw [kit_SameInts_l0] at hP; cases hP | succ q_ => exact ⟨q_, rfl⟩
  rw [kit_SameInts_l0] at hP
  refine wp_seq ?_
  refine wp_seq ?_
  refine wp_region_lit ?_
  refine vn tbok 4 [] [(14, .bool (decide (i25 < (((List.length aa) : Nat) : Int))))] [] E (by kernel_rfl) (by kernel_rfl) trivial ?_
  clear E; intro a E
  refine wpList_nil ?_
  refine th_n ?_
  refine E.cases (t := 14) rfl (fun hb_ E_ => ?_) (fun hb_ E_ => ?_)
  ·
   replace E := E_; clear E_
   have h48 : i25 < (((List.length aa) : Nat) : Int) := of_decide_eq_true hb_
   clear hb_; replace hP := ite_t h48 hP
   refine c_true E rfl ?_
   refine wp_skip ?_
   refine th_n ?_
   refine wp_seq ?_
   refine wp_block ?_
   refine wp_seq ?_
   obtain ⟨g49, hP⟩ := ask_inv hP
   obtain ⟨b50, o51, e_b50⟩ := (H.rd 0 rds_ro).addr (idx_pos g49)
   subst e_b50
   obtain ⟨g52, hP⟩ := ask_inv hP
   obtain ⟨b53, o54, e_b53⟩ := (H.rd 1 rds_ro).addr (idx_pos g52)
   subst e_b53
   have HR58 := H
   refine dr_start (S := fun w_ => Chg (atL []) w45 w_) (by kernel_rfl) ?_
   intro w55 hc56
   have HS57 : Chg (atL []) w45 w55 := hc56.mono (fun _ _ h_ => h_.elim)
   replace H := H.ext hc56
   refine dn tbok (by kernel_rfl) [0, 1, 2, 3, 4, 5, 6, 7, 8] [.int .i64 (List.getD aa (Int.toNat i25) 0), .int .i64 (List.getD b (Int.toNat i25) 0)] [(25, .bool (((List.getD aa (Int.toNat i25) 0) : Int) != (List.getD b (Int.toNat i25) 0)))] (fun w_ => [0 ≤ i25 ∧ i25 < (((List.length aa) : Nat) : Int), World.cell? w_ ⟨b50, o51 + (Int.toNat i25) * 1, none⟩ = some (.int .i64 (List.getD aa (Int.toNat i25) 0)), 0 ≤ i25 ∧ i25 < (((List.length b) : Nat) : Int), World.cell? w_ ⟨b53, o54 + (Int.toNat i25) * 1, none⟩ = some (.int .i64 (List.getD b (Int.toNat i25) 0))]) 0 E (fun _ _ => by kernel_rfl) (by kernel_rfl) (fun w_ hS_ => ⟨g49, Rds.at1 (HR58.rdk [] hS_ 0 rds_ro rfl) 0 g49, g52, Rds.at1 (HR58.rdk [] hS_ 1 rds_ro rfl) 0 g52⟩) (by kernel_rfl) HS57 ?_
   clear E; intro a E
   refine dr_done (by kernel_rfl) ?_
   clear HS57 HR58
   refine th_n ?_
   refine E.cases (t := 25) rfl (fun hb_ E_ => ?_) (fun hb_ E_ => ?_)
   ·
    replace E := E_; clear E_
    have h59 : ¬ (((List.getD aa (Int.toNat i25) 0) : Int) = (List.getD b (Int.toNat i25) 0)) := bne_iff_ne.1 hb_
    clear hb_; replace hP := ite_f h59 hP
    refine c_true E rfl ?_
    refine wp_seq ?_
    refine wp_region_lit ?_
    refine vn tbok 1 [] [(4, .bool false)] [] E (by kernel_rfl) (by kernel_rfl) trivial ?_
    clear E; intro a E
    refine wpList_nil ?_
    refine th_n ?_
    refine wp_ret ?_
    refine bl_ret ?_
    refine th_ret ?_
    refine th_ret ?_
    refine .inr ⟨rfl, ?_⟩
    refine bl_ret ?_
    refine th_ret ?_
    have hx_ := Option.some.inj hP; subst hx_
    have hP : some (false) = some r := hK44
    obtain rfl := Option.some.inj hP
    refine ret1 E rfl rfl ?_
    exact ⟨_, rfl, rfl, H.sel [] rfl⟩
   replace E := E_; clear E_
   have h60 : ((List.getD aa (Int.toNat i25) 0) : Int) = (List.getD b (Int.toNat i25) 0) := bne_eq_false_iff_eq.1 hb_
   clear hb_; replace hP := ite_t h60 hP
   refine c_false E rfl ?_
   refine wp_skip ?_
   refine bl_n ?_
   refine th_n ?_
   refine wp_region_lit ?_
   obtain ⟨g61, hP⟩ := ask_inv hP
   refine vn tbok 3 [.int .i64 (i25 + 1)] [(5, .int .i64 (i25 + 1))] [IntKind.i64.wrap (i25 + 1) = i25 + 1] E (by kernel_rfl) (by kernel_rfl) (wrap_in g61) ?_
   clear E; intro a E
   refine wpList_nil ?_
   exact th_n ⟨m41, Nat.lt_succ_self _, i25 + 1, E.pick _ ⟨rfl, rfl, rfl, trivial⟩, H.sel [0, 1] rfl, hP⟩
  replace E := E_; clear E_
  have h62 : ¬ (i25 < (((List.length aa) : Nat) : Int)) := of_decide_eq_false hb_
  clear hb_; replace hP := ite_f h62 hP
  refine c_false E rfl ?_
  refine wp_exit ?_
  refine th_exit ?_
  have hx_ := Option.some.inj hP
  refine th_exit (.inl ⟨0, rfl, ?_⟩)
  exact ⟨rfl, (), E.pick _ trivial, H.sel [] rfl, hx_.symm⟩
 clear E H hL43; intro i_ a w45 hM_
 obtain ⟨rfl, x47, E, H, hx_⟩ := hM_
 subst hx_; have hP := elim_l hK44
 clear hK44
 refine bl_hit ?_
 refine th_n ?_
 refine wp_seq ?_
 refine wp_region_lit ?_
 refine vn tbok 1 [] [(4, .bool true)] [] E (by kernel_rfl) (by kernel_rfl) trivial ?_
 clear E; intro a E
 refine wpList_nil ?_
 refine th_n ?_
 refine wp_ret ?_
 obtain rfl := Option.some.inj hP
 refine ret1 E rfl rfl ?_
 exact ⟨_, rfl, rfl, H.sel [] rfl⟩

/-! rejoinder/rejoinderkit.SameNodes -/
def kit_SameNodes_l0 (N : Nat) (aa : List Nd) (b : List Nd) : Nat → Int → Option (Unit ⊕ Bool)
  | 0, _ => none
  | m41 + 1, i25 =>
    if i25 < (((List.length aa) : Nat) : Int) then
      ask (idx i25 (List.length aa)) <|
      ask (idx i25 (List.length b)) <|
      if (List.getD aa (Int.toNat i25) (default : Nd)) = (List.getD b (Int.toNat i25) (default : Nd)) then
        ask (in64 (i25 + 1)) <|
        kit_SameNodes_l0 N aa b m41 (i25 + 1)
      else
        some (Sum.inr false)
    else
      some (Sum.inl ())
def kit_SameNodes (N : Nat) (aa : List Nd) (b : List Nd) : Option Bool :=
  if ((((List.length aa) : Nat) : Int) : Int) = (((List.length b) : Nat) : Int) then
    Option.bind (kit_SameNodes_l0 N aa b N 0) fun x42 =>
    Sum.elim (fun x47 =>
      some true)
     (fun x63 =>
      some x63) x42
  else
    some false
set_option maxRecDepth 100000 in
set_option maxHeartbeats 4000000 in
theorem kit_SameNodes_calls {N : Nat} {S Fa : Nat → Prop} {w0 : World} {r : Bool} (A1 : Option Addr) (c2 : Nat) (A5 : Option Addr) (c6 : Nat) (aa : List Nd) (b : List Nd) (hk3 : List.length aa ≤ c2) (hk7 : List.length b ≤ c6) (H : Hp S Fa w0 w0 [.ro false cNode A1 aa, .ro false cNode A5 b]) (hP : kit_SameNodes N aa b = some r) :
    Calls Try.prog 60 #[.slice A1 (List.length aa) c2, .slice A5 (List.length b) c6] w0 fun e w' => ∃ v, e = .returned v ∧ v = .bool r ∧ Hp S Fa w0 w' [] := by
 refine enterV (n := 26) Try.func60 rfl rfl rfl ?_
 intro a E
 replace E := E.pick [(0, .slice A1 (List.length aa) c2), (1, .slice A5 (List.length b) c6)] ⟨rfl, rfl, trivial⟩
 rw [kit_SameNodes] at hP
 refine wp_seq ?_
 refine wp_region_lit ?_
 refine vn tbok 1 [] [] [] E (by kernel_rfl) (by kernel_rfl) trivial ?_
 clear E; intro a E
 refine wpList_nil ?_
 refine th_n ?_
 refine wp_seq ?_
 refine wp_seq ?_
 refine wp_region_lit ?_
 refine vn tbok 5 [] [(10, .bool (((((List.length aa) : Nat) : Int) : Int) != (((List.length b) : Nat) : Int)))] [] E (by kernel_rfl) (by kernel_rfl) trivial ?_
 clear E; intro a E
 refine wpList_nil ?_
 refine th_n ?_
 refine E.cases (t := 10) rfl (fun hb_ E_ => ?_) (fun hb_ E_ => ?_)
 ·
  replace E := E_; clear E_
  have h9 : ¬ (((((List.length aa) : Nat) : Int) : Int) = (((List.length b) : Nat) : Int)) := bne_iff_ne.1 hb_
  clear hb_; replace hP := ite_f h9 hP
  refine c_true E rfl ?_
  refine wp_seq ?_
  refine wp_region_lit ?_
  refine vn tbok 1 [] [(4, .bool false)] [] E (by kernel_rfl) (by kernel_rfl) trivial ?_
  clear E; intro a E
  refine wpList_nil ?_
  refine th_n ?_
  refine wp_ret ?_
  refine th_ret ?_
  obtain rfl := Option.some.inj hP
  refine ret1 E rfl rfl ?_
  exact ⟨_, rfl, rfl, H.sel [] rfl⟩
 replace E := E_; clear E_
 have h10 : ((((List.length aa) : Nat) : Int) : Int) = (((List.length b) : Nat) : Int) := bne_eq_false_iff_eq.1 hb_
 clear hb_; replace hP := ite_t h10 hP
 refine c_false E rfl ?_
 refine wp_skip ?_
 refine th_n ?_
 refine wp_seq ?_
 refine wp_seq ?_
 refine wp_region_lit ?_
 refine vn tbok 1 [] [(5, .int .i64 0)] [] E (by kernel_rfl) (by kernel_rfl) trivial ?_
 clear E; intro a E
 refine wpList_nil ?_
 refine th_n ?_
 refine wp_block ?_
 obtain ⟨x42, hL43, hK44⟩ := bind_inv hP
 clear hP
 refine loop_cut (fun i_ a w_ => (i_ = 0 ∧ ∃ (x47 : Unit), Fr a 26 [] ∧ Hp S Fa w0 w_ [] ∧ x42 = Sum.inl x47)) ?_ ?_
 ·
  refine loopV (fun m46 a w45 => ∃ (i25 : Int), Fr a 26 [(0, .slice A1 (List.length aa) c2), (1, .slice A5 (List.length b) c6), (5, .int .i64 i25)] ∧ Hp S Fa w0 w45 [.ro false cNode A1 aa, .ro false cNode A5 b] ∧ kit_SameNodes_l0 N aa b m46 i25 = some x42) N ?_ ?_
  ·
   exact ⟨0, E.pick _ ⟨rfl, rfl, rfl, trivial⟩, H.sel [0, 1] rfl, hL43⟩
  clear E H hL43; intro m46 a w45 hI_
  obtain ⟨i25, E, H, hP⟩ := hI_
  obtain ⟨m41, rfl⟩ : ∃ q_, m46 = q_ + 1 := by cases m46 with | zero => rw [kit_SameNodes_l0] at hP; cases hP | succ q_ => exact ⟨q_, rfl⟩
  rw [kit_SameNodes_l0] at hP
  refine wp_seq ?_
  refine wp_seq ?_
  refine wp_region_lit ?_
  refine vn tbok 4 [] [(14, .bool (decide (i25 < (((List.length aa) : Nat) : Int))))] [] E (by kernel_rfl) (by kernel_rfl) trivial ?_
  clear E; intro a E
  refine wpList_nil ?_
  refine th_n ?_
  refine E.cases (t := 14) rfl (fun hb_ E_ => ?_) (fun hb_ E_ => ?_)
  ·
   replace E := E_; clear E_
   have h48 : i25 < (((List.length aa) : Nat) : Int) := of_decide_eq_true hb_
   clear hb_; replace hP := ite_t h48 hP
   refine c_true E rfl ?_
   refine wp_skip ?_
   refine th_n ?_
   refine wp_seq ?_
   refine wp_block ?_
   refine wp_seq ?_
   obtain ⟨g49, hP⟩ := ask_inv hP
   obtain ⟨b50, o51, e_b50⟩ := (H.rd 0 rds_ro).addr (idx_pos g49)
   subst e_b50
   obtain ⟨g52, hP⟩ := ask_inv hP
   obtain ⟨b53, o54, e_b53⟩ := (H.rd 1 rds_ro).addr (idx_pos g52)
   subst e_b53
   have HR58 := H
   refine dr_start (S := fun w_ => Chg (atL []) w45 w_) (by kernel_rfl) ?_
   intro w55 hc56
   have HS57 : Chg (atL []) w45 w55 := hc56.mono (fun _ _ h_ => h_.elim)
   replace H := H.ext hc56
   refine dn tbok (by kernel_rfl) [0, 1, 2, 3, 4, 5, 6, 7] [.agg #[.int .i64 ((List.getD aa (Int.toNat i25) (default : Nd)).P), .int .i64 ((List.getD aa (Int.toNat i25) (default : Nd)).Lo), .int .i64 ((List.getD aa (Int.toNat i25) (default : Nd)).Hi)], .agg #[.int .i64 ((List.getD b (Int.toNat i25) (default : Nd)).P), .int .i64 ((List.getD b (Int.toNat i25) (default : Nd)).Lo), .int .i64 ((List.getD b (Int.toNat i25) (default : Nd)).Hi)]] [(20, .agg #[.int .i64 ((List.getD aa (Int.toNat i25) (default : Nd)).P), .int .i64 ((List.getD aa (Int.toNat i25) (default : Nd)).Lo), .int .i64 ((List.getD aa (Int.toNat i25) (default : Nd)).Hi)]), (24, .agg #[.int .i64 ((List.getD b (Int.toNat i25) (default : Nd)).P), .int .i64 ((List.getD b (Int.toNat i25) (default : Nd)).Lo), .int .i64 ((List.getD b (Int.toNat i25) (default : Nd)).Hi)])] (fun w_ => [0 ≤ i25 ∧ i25 < (((List.length aa) : Nat) : Int), cellsAt w_ b50 (o51 + (Int.toNat i25) * 3) [.int .i64 ((List.getD aa (Int.toNat i25) (default : Nd)).P), .int .i64 ((List.getD aa (Int.toNat i25) (default : Nd)).Lo), .int .i64 ((List.getD aa (Int.toNat i25) (default : Nd)).Hi)], 0 ≤ i25 ∧ i25 < (((List.length b) : Nat) : Int), cellsAt w_ b53 (o54 + (Int.toNat i25) * 3) [.int .i64 ((List.getD b (Int.toNat i25) (default : Nd)).P), .int .i64 ((List.getD b (Int.toNat i25) (default : Nd)).Lo), .int .i64 ((List.getD b (Int.toNat i25) (default : Nd)).Hi)]]) 1 E (fun _ _ => by kernel_rfl) (by kernel_rfl) (fun w_ hS_ => ⟨g49, Rds.atP (HR58.rdk [] hS_ 0 rds_ro rfl) (default : Nd) g49, g52, Rds.atP (HR58.rdk [] hS_ 1 rds_ro rfl) (default : Nd) g52⟩) (by kernel_rfl) HS57 ?_
   clear E; intro a E
   refine wpAnyH_all (rs := [8]) (by kernel_rfl) (by simp) ?_
   refine all1 ?_
   refine wpOp_of_list rfl ?_
   refine e_eqS E rfl rfl rfl rfl grdNd (eqNd (List.getD aa (Int.toNat i25) (default : Nd)) (List.getD b (Int.toNat i25) (default : Nd)) _) (!decide ((List.getD aa (Int.toNat i25) (default : Nd)) = (List.getD b (Int.toNat i25) (default : Nd)))) (.inr ⟨rfl, rfl⟩) rfl ?_
   clear E; intro a E
   refine wpList_nil ?_
   refine th_n ⟨HS57, ?_⟩
   refine dr_done (by kernel_rfl) ?_
   clear HS57 HR58
   refine th_n ?_
   refine E.cases (t := 25) rfl (fun hb_ E_ => ?_) (fun hb_ E_ => ?_)
   ·
    replace E := E_; clear E_
    have h59 : ¬ ((List.getD aa (Int.toNat i25) (default : Nd)) = (List.getD b (Int.toNat i25) (default : Nd))) := of_decide_eq_false (not_t hb_)
    clear hb_; replace hP := ite_f h59 hP
    refine c_true E rfl ?_
    refine wp_seq ?_
    refine wp_region_lit ?_
    refine vn tbok 1 [] [(4, .bool false)] [] E (by kernel_rfl) (by kernel_rfl) trivial ?_
    clear E; intro a E
    refine wpList_nil ?_
    refine th_n ?_
    refine wp_ret ?_
    refine bl_ret ?_
    refine th_ret ?_
    refine th_ret ?_
    refine .inr ⟨rfl, ?_⟩
    refine bl_ret ?_
    refine th_ret ?_
    have hx_ := Option.some.inj hP; subst hx_
    have hP : some (false) = some r := hK44
    obtain rfl := Option.some.inj hP
    refine ret1 E rfl rfl ?_
    exact ⟨_, rfl, rfl, H.sel [] rfl⟩
   replace E := E_; clear E_
   have h60 : (List.getD aa (Int.toNat i25) (default : Nd)) = (List.getD b (Int.toNat i25) (default : Nd)) := of_decide_eq_true (not_f hb_)
   clear hb_; replace hP := ite_t h60 hP
   refine c_false E rfl ?_
   refine wp_skip ?_
   refine bl_n ?_
   refine th_n ?_
   refine wp_region_lit ?_
   obtain ⟨g61, hP⟩ := ask_inv hP
   refine vn tbok 3 [.int .i64 (i25 + 1)] [(5, .int .i64 (i25 + 1))] [IntKind.i64.wrap (i25 + 1) = i25 + 1] E (by kernel_rfl) (by kernel_rfl) (wrap_in g61) ?_
   clear E; intro a E
   refine wpList_nil ?_
   exact th_n ⟨m41, Nat.lt_succ_self _, i25 + 1, E.pick _ ⟨rfl, rfl, rfl, trivial⟩, H.sel [0, 1] rfl, hP⟩
  replace E := E_; clear E_
  have h62 : ¬ (i25 < (((List.length aa) : Nat) : Int)) := of_decide_eq_false hb_
  clear hb_; replace hP := ite_f h62 hP
  refine c_false E rfl ?_
  refine wp_exit ?_
  refine th_exit ?_
  have hx_ := Option.some.inj hP
  refine th_exit (.inl ⟨0, rfl, ?_⟩)
  exact ⟨rfl, (), E.pick _ trivial, H.sel [] rfl, hx_.symm⟩
 clear E H hL43; intro i_ a w45 hM_
 obtain ⟨rfl, x47, E, H, hx_⟩ := hM_
 subst hx_; have hP := elim_l hK44
 clear hK44
 refine bl_hit ?_
 refine th_n ?_
 refine wp_seq ?_
 refine wp_region_lit ?_
 refine vn tbok 1 [] [(4, .bool true)] [] E (by kernel_rfl) (by kernel_rfl) trivial ?_
 clear E; intro a E
 refine wpList_nil ?_
 refine th_n ?_
 refine wp_ret ?_
 obtain rfl := Option.some.inj hP
 refine ret1 E rfl rfl ?_
 exact ⟨_, rfl, rfl, H.sel [] rfl⟩

/-! rejoinder/rejoinderkit.SameAuto -/
def kit_SameAuto (N : Nat) (aProps : Int) (aAccept : List Bool) (aGuard : List Int) (aNodes : List Nd) (bProps : Int) (bAccept : List Bool) (bGuard : List Int) (bNodes : List Nd) : Option Bool :=
  if (aProps : Int) = bProps then
    Option.bind (kit_SameBools N aAccept bAccept) fun r36 =>
    if r36 = true then
      Option.bind (kit_SameInts N aGuard bGuard) fun r46 =>
      if r46 = true then
        Option.bind (kit_SameNodes N aNodes bNodes) fun r56 =>
        some r56
      else
        some false
    else
      some false
  else
    some false
set_option maxRecDepth 100000 in
set_option maxHeartbeats 4000000 in
theorem kit_SameAuto_calls {N : Nat} {S Fa : Nat → Prop} {w0 : World} {r : Bool} (A1 : Option Addr) (c2 : Nat) (A5 : Option Addr) (c6 : Nat) (A9 : Option Addr) (c10 : Nat) (A13 : Option Addr) (c14 : Nat) (A17 : Option Addr) (c18 : Nat) (A21 : Option Addr) (c22 : Nat) (aProps : Int) (aAccept : List Bool) (aGuard : List Int) (aNodes : List Nd) (bProps : Int) (bAccept : List Bool) (bGuard : List Int) (bNodes : List Nd) (hk3 : List.length aAccept ≤ c2) (hk7 : List.length aGuard ≤ c6) (hk11 : List.length aNodes ≤ c10) (hk15 : List.length bAccept ≤ c14) (hk19 : List.length bGuard ≤ c18) (hk23 : List.length bNodes ≤ c22) (H : Hp S Fa w0 w0 [.ro false cBool A1 aAccept, .ro false (cInt .i64) A5 aGuard, .ro false cNode A9 aNodes, .ro false cBool A13 bAccept, .ro false (cInt .i64) A17 bGuard, .ro false cNode A21 bNodes]) (hP : kit_SameAuto N aProps aAccept aGuard aNodes bProps bAccept bGuard bNodes = some r) :
    Calls Try.prog 43 #[.agg #[.int .i64 aProps, .slice A1 (List.length aAccept) c2, .slice A5 (List.length aGuard) c6, .slice A9 (List.length aNodes) c10], .agg #[.int .i64 bProps, .slice A13 (List.length bAccept) c14, .slice A17 (List.length bGuard) c18, .slice A21 (List.length bNodes) c22]] w0 fun e w' => ∃ v, e = .returned v ∧ v = .bool r ∧ Hp S Fa w0 w' [] := by
 refine enterV (n := 31) Try.func43 rfl rfl rfl ?_
 intro a E
 replace E := E.pick [(0, .agg #[.int .i64 aProps, .slice A1 (List.length aAccept) c2, .slice A5 (List.length aGuard) c6, .slice A9 (List.length aNodes) c10]), (1, .agg #[.int .i64 bProps, .slice A13 (List.length bAccept) c14, .slice A17 (List.length bGuard) c18, .slice A21 (List.length bNodes) c22])] ⟨rfl, rfl, trivial⟩
 rw [kit_SameAuto] at hP
 refine wp_seq ?_
 refine wp_region_lit ?_
 refine h_box H E rfl rfl rfl ?_
 intro w26 g25 a hc27 hg29 H_ E_
 replace E := E_ _ rfl; clear E_
 replace H := H_; clear H_; try dsimp only [setn, addE, goneL] at H
 refine h_box H E rfl rfl rfl ?_
 intro w31 g30 a hc32 hg34 H_ E_
 replace E := E_ _ rfl; clear E_
 replace H := H_; clear H_; try dsimp only [setn, addE, goneL] at H
 refine vn tbok 1 [] [] [] E (by kernel_rfl) (by kernel_rfl) trivial ?_
 clear E; intro a E
 refine wpList_nil ?_
 refine th_n ?_
 refine wp_seq ?_
 refine wp_region_lit ?_
 refine vn tbok 6 [.int .i64 aProps, .int .i64 bProps] [(10, .bool ((aProps : Int) == bProps))] [World.cell? w31 ⟨g25, 0, none⟩ = some (.int .i64 aProps), World.cell? w31 ⟨g30, 0, none⟩ = some (.int .i64 bProps)] E (by kernel_rfl) (by kernel_rfl) ⟨(H.box 6 rfl).cell (j := 0) rfl, (H.box 7 rfl).cell (j := 0) rfl⟩ ?_
 clear E; intro a E
 refine E.cases (t := 10) rfl (fun hb_ E_ => ?_) (fun hb_ E_ => ?_)
 ·
  replace E := E_; clear E_
  have h35 : (aProps : Int) = bProps := eq_of_beq hb_
  clear hb_; replace hP := ite_t h35 hP
  refine vn tbok 4 [.slice A1 (List.length aAccept) c2, .slice A13 (List.length bAccept) c14] [(12, .slice A1 (List.length aAccept) c2), (14, .slice A13 (List.length bAccept) c14)] [World.cell? w31 ⟨g25, 1, none⟩ = some (.slice A1 (List.length aAccept) c2), World.cell? w31 ⟨g30, 1, none⟩ = some (.slice A13 (List.length bAccept) c14)] E (by kernel_rfl) (by kernel_rfl) ⟨(H.box 6 rfl).cell (j := 1) rfl, (H.box 7 rfl).cell (j := 1) rfl⟩ ?_
  clear E; intro a E
  obtain ⟨r36, h37, hP⟩ := bind_inv hP
  obtain ⟨Fa38, Hc39, hb40⟩ := H.call [] [(0, false), (3, false)] rfl rfl trivial
  refine e_call E rfl rfl Try.func58 rfl rfl rfl (kit_SameBools_calls A1 c2 A13 c14 aAccept bAccept hk3 hk15 Hc39 h37) ?_
  rintro v41 w42 a ⟨rfl, HR43⟩ E_
  replace E := E_ _ rfl; clear E_
  obtain ⟨H_, hc44⟩ := hb40 _ _ HR43 rfl
  replace H := H_; clear H_; try dsimp only [setn, addE, goneL] at H
  refine vn tbok 2 [] [(17, .bool r36)] [] E (by kernel_rfl) (by kernel_rfl) trivial ?_
  clear E; intro a E
  refine E.cases (t := 17) rfl (fun hb_ E_ => ?_) (fun hb_ E_ => ?_)
  ·
   replace E := E_; clear E_
   have h45 : r36 = true := hb_
   clear hb_; replace hP := ite_t h45 hP
   refine vn tbok 4 [.slice A5 (List.length aGuard) c6, .slice A17 (List.length bGuard) c18] [(19, .slice A5 (List.length aGuard) c6), (21, .slice A17 (List.length bGuard) c18)] [World.cell? w42 ⟨g25, 2, none⟩ = some (.slice A5 (List.length aGuard) c6), World.cell? w42 ⟨g30, 2, none⟩ = some (.slice A17 (List.length bGuard) c18)] E (by kernel_rfl) (by kernel_rfl) ⟨(H.box 6 rfl).cell (j := 2) rfl, (H.box 7 rfl).cell (j := 2) rfl⟩ ?_
   clear E; intro a E
   obtain ⟨r46, h47, hP⟩ := bind_inv hP
   obtain ⟨Fa48, Hc49, hb50⟩ := H.call [] [(1, false), (4, false)] rfl rfl trivial
   refine e_call E rfl rfl Try.func59 rfl rfl rfl (kit_SameInts_calls A5 c6 A17 c18 aGuard bGuard hk7 hk19 Hc49 h47) ?_
   rintro v51 w52 a ⟨rfl, HR53⟩ E_
   replace E := E_ _ rfl; clear E_
   obtain ⟨H_, hc54⟩ := hb50 _ _ HR53 rfl
   replace H := H_; clear H_; try dsimp only [setn, addE, goneL] at H
   refine vn tbok 2 [] [(24, .bool r46)] [] E (by kernel_rfl) (by kernel_rfl) trivial ?_
   clear E; intro a E
   refine E.cases (t := 24) rfl (fun hb_ E_ => ?_) (fun hb_ E_ => ?_)
   ·
    replace E := E_; clear E_
    have h55 : r46 = true := hb_
    clear hb_; replace hP := ite_t h55 hP
    refine vn tbok 4 [.slice A9 (List.length aNodes) c10, .slice A21 (List.length bNodes) c22] [(26, .slice A9 (List.length aNodes) c10), (28, .slice A21 (List.length bNodes) c22)] [World.cell? w52 ⟨g25, 3, none⟩ = some (.slice A9 (List.length aNodes) c10), World.cell? w52 ⟨g30, 3, none⟩ = some (.slice A21 (List.length bNodes) c22)] E (by kernel_rfl) (by kernel_rfl) ⟨(H.box 6 rfl).cell (j := 3) rfl, (H.box 7 rfl).cell (j := 3) rfl⟩ ?_
    clear E; intro a E
    obtain ⟨r56, h57, hP⟩ := bind_inv hP
    obtain ⟨Fa58, Hc59, hb60⟩ := H.call [] [(2, false), (5, false)] rfl rfl trivial
    refine e_call E rfl rfl Try.func60 rfl rfl rfl (kit_SameNodes_calls A9 c10 A21 c22 aNodes bNodes hk11 hk23 Hc59 h57) ?_
    rintro v61 w62 a ⟨rfl, HR63⟩ E_
    replace E := E_ _ rfl; clear E_
    obtain ⟨H_, hc64⟩ := hb60 _ _ HR63 rfl
    replace H := H_; clear H_; try dsimp only [setn, addE, goneL] at H
    refine vn tbok 2 [] [(4, .bool r56)] [] E (by kernel_rfl) (by kernel_rfl) trivial ?_
    clear E; intro a E
    refine wpList_nil ?_
    refine th_n ?_
    refine wp_ret ?_
    obtain rfl := Option.some.inj hP
    refine ret1 E rfl rfl ?_
    exact ⟨_, rfl, rfl, H.sel [] rfl⟩
   replace E := E_; clear E_
   have h65 : ¬ (r46 = true) := (ne_true_of_eq_false hb_)
   clear hb_; replace hP := ite_f h65 hP
   refine vn tbok 7 [] [(4, .bool false)] [] E (by kernel_rfl) (by kernel_rfl) trivial ?_
   clear E; intro a E
   refine wpList_nil ?_
   refine th_n ?_
   refine wp_ret ?_
   obtain rfl := Option.some.inj hP
   refine ret1 E rfl rfl ?_
   exact ⟨_, rfl, rfl, H.sel [] rfl⟩
  replace E := E_; clear E_
  have h66 : ¬ (r36 = true) := (ne_true_of_eq_false hb_)
  clear hb_; replace hP := ite_f h66 hP
  refine vn tbok 14 [] [(4, .bool false)] [] E (by kernel_rfl) (by kernel_rfl) trivial ?_
  clear E; intro a E
  refine wpList_nil ?_
  refine th_n ?_
  refine wp_ret ?_
  obtain rfl := Option.some.inj hP
  refine ret1 E rfl rfl ?_
  exact ⟨_, rfl, rfl, H.sel [] rfl⟩
 replace E := E_; clear E_
 have h67 : ¬ ((aProps : Int) = bProps) := ne_of_beq_false hb_
 clear hb_; replace hP := ite_f h67 hP
 refine vn tbok 21 [] [(4, .bool false)] [] E (by kernel_rfl) (by kernel_rfl) trivial ?_
 clear E; intro a E
 refine wpList_nil ?_
 refine th_n ?_
 refine wp_ret ?_
 obtain rfl := Option.some.inj hP
 refine ret1 E rfl rfl ?_
 exact ⟨_, rfl, rfl, H.sel [] rfl⟩

/-! rejoinder/rejoinderkit.KeptInts -/
def kit_KeptInts (N : Nat) (lent : List Int) (lentsp : List Int) (ll : List Int) : Option Bool :=
  if ((((List.length lent) : Nat) : Int) : Int) = (((List.length ll) : Nat) : Int) then
    Option.bind (kit_LentInts N ll) fun r13 =>
    ask (in64 ((((List.length ll) : Nat) : Int) + 3)) <|
    ask (0 ≤ ((((List.length ll) : Nat) : Int) + 3) ∧ ((((List.length ll) : Nat) : Int) + 3) ≤ (((List.length (r13.1 ++ r13.2)) : Nat) : Int)) <|
    Option.bind (kit_SameInts N (lent ++ lentsp) (List.take (Int.toNat ((((List.length ll) : Nat) : Int) + 3)) (r13.1 ++ r13.2))) fun r27 =>
    some r27
  else
    some false
set_option maxRecDepth 100000 in
set_option maxHeartbeats 4000000 in
theorem kit_KeptInts_calls {N : Nat} {S Fa : Nat → Prop} {w0 : World} {r : Bool} (A1 : Option Addr) (c2 : Nat) (A8 : Option Addr) (c9 : Nat) (lent : List Int) (lentsp : List Int) (ll : List Int) (hk3 : c2 = List.length (lent ++ lentsp)) (hk10 : List.length ll ≤ c9) (H : Hp S Fa w0 w0 [.ro false (cInt .i64) A1 lent, .ro false (cInt .i64) A1 (lent ++ lentsp), .ro false (cInt .i64) A8 ll]) (hP : kit_KeptInts N lent lentsp ll = some r) :
    Calls Try.prog 44 #[.slice A1 (List.length lent) c2, .slice A8 (List.length ll) c9] w0 fun e w' => ∃ v, e = .returned v ∧ v = .bool r ∧ Hp S Fa w0 w' [] := by
 have hk6 : List.length lent ≤ c2 := by rw [hk3, List.length_append]; exact Nat.le_add_right _ _
 have hk7 : List.length (lent ++ lentsp) ≤ c2 := Nat.le_of_eq hk3.symm
 refine enterV (n := 23) Try.func44 rfl rfl rfl ?_
 intro a E
 replace E := E.pick [(0, .slice A1 (List.length lent) c2), (1, .slice A8 (List.length ll) c9)] ⟨rfl, rfl, trivial⟩
 rw [kit_KeptInts] at hP
 refine wp_seq ?_
 refine wp_region_lit ?_
 refine vn tbok 1 [] [] [] E (by kernel_rfl) (by kernel_rfl) trivial ?_
 clear E; intro a E
 refine wpList_nil ?_
 refine th_n ?_
 refine wp_seq ?_
 by_cases h12 : ((((List.length lent) : Nat) : Int) : Int) = (((List.length ll) : Nat) : Int)
 ·
  replace hP := ite_t h12 hP
  obtain ⟨r13, h14, hP⟩ := bind_inv hP
  obtain ⟨g25, hP⟩ := ask_inv hP
  obtain ⟨g26, hP⟩ := ask_inv hP
  obtain ⟨r27, h28, hP⟩ := bind_inv hP
  refine meet_cut (fun a w36 => Fr a 23 [(4, .bool r27)] ∧ Hp S Fa w0 w36 []) ?_ ?_
  ·
   have HR40 := H
   refine dr_start (S := fun w_ => Chg (atL []) w0 w_) (by kernel_rfl) ?_
   intro w37 hc38
   have HS39 : Chg (atL []) w0 w37 := hc38.mono (fun _ _ h_ => h_.elim)
   replace H := H.ext hc38
   refine dn tbok (by kernel_rfl) [0, 1, 2, 3, 4, 5] [] [(10, .bool (((((List.length lent) : Nat) : Int) : Int) == (((List.length ll) : Nat) : Int)))] (fun w_ => []) 13 E (fun _ _ => by kernel_rfl) (by kernel_rfl) (fun w_ hS_ => trivial) (by kernel_rfl) HS39 ?_
   clear E; intro a E
   replace E := E.same (t := 10) (u := .bool true) rfl (congrArg Value.bool (beq_iff_eq.2 h12))
   refine dn tbok (by kernel_rfl) [6, 7, 8, 10, 12, 13, 14] [.int .i64 ((((List.length ll) : Nat) : Int) + 3)] [(11, .slice A1 (List.length lent) c2), (13, .int .i64 ((c2 : Nat) : Int)), (15, .slice A8 (List.length ll) c9), (19, .int .i64 ((((List.length ll) : Nat) : Int) + 3))] (fun w_ => [IntKind.i64.wrap ((((List.length ll) : Nat) : Int) + 3) = (((List.length ll) : Nat) : Int) + 3]) 6 E (fun _ _ => by kernel_rfl) (by kernel_rfl) (fun w_ hS_ => (wrap_in g25)) (by kernel_rfl) HS39 ?_
   clear E; intro a E
   refine wpAnyH_all (rs := [9, 11]) (by kernel_rfl) (by simp) ?_
   refine all2 ?_ ?_
   ·
    refine wpOp_of_list rfl ?_
    refine vn tbok 1 [] [(14, .slice A1 (Int.toNat ((c2 : Nat) : Int)) c2)] [0 ≤ ((c2 : Nat) : Int) ∧ ((c2 : Nat) : Int) ≤ ((c2 : Nat) : Int)] E (by kernel_rfl) (by kernel_rfl) (cut_all _) ?_
    clear E; intro a E
    replace E := E.same (t := 14) (u := .slice A1 (List.length (lent ++ lentsp)) c2) rfl (congrArg (fun n_ => Value.slice A1 n_ c2) hk3)
    refine wpList_nil ?_
    refine th_n ⟨HS39, ?_⟩
    refine wpAnyH_all (rs := [11]) (by kernel_rfl) (by simp) ?_
    refine all1 ?_
    refine wpOp_of_list rfl ?_
    obtain ⟨Fa41, Hc42, hb43⟩ := H.call [] [(2, false)] rfl rfl trivial
    refine e_call E rfl rfl Try.func35 rfl rfl rfl (kit_LentInts_calls A8 c9 ll hk10 Hc42 h14) ?_
    rintro v44 w45 a ⟨A48, c49, rfl, HR46⟩ E_
    replace E := E_ _ rfl; clear E_
    obtain ⟨H_, hc47⟩ := hb43 _ _ HR46 rfl
    replace HS39 := HS39.ext (callS_ext hc47)
    replace H := H_; clear H_; try dsimp only [setn, addE, goneL] at H
    refine wpList_nil ?_
    refine th_n ⟨HS39, ?_⟩
    refine wpAnyH_all (rs := [15]) (by kernel_rfl) (by simp) ?_
    refine all1 ?_
    refine wpOp_of_list rfl ?_
    replace H := H.allx 3 rfl; try dsimp only [setn, addE, goneL] at H
    refine vn tbok 1 [] [(20, .slice A48 (Int.toNat ((((List.length ll) : Nat) : Int) + 3)) c49)] [0 ≤ ((((List.length ll) : Nat) : Int) + 3) ∧ ((((List.length ll) : Nat) : Int) + 3) ≤ ((c49 : Nat) : Int)] E (by kernel_rfl) (by kernel_rfl) (cut_le g26 (H.rcapx 3 rfl)) ?_
    clear E; intro a E
    replace H := H.cutRowx 3 rfl (Int.toNat ((((List.length ll) : Nat) : Int) + 3)); try dsimp only [setn, addE, goneL] at H
    replace E := E.same (t := 20) (u := .slice A48 (List.length (List.take (Int.toNat ((((List.length ll) : Nat) : Int) + 3)) (r13.1 ++ r13.2))) c49) rfl (congrArg (fun n_ => Value.slice A48 n_ c49) (take_len g26))
    refine wpList_nil ?_
    refine th_n ⟨HS39, ?_⟩
    refine wpAnyH_all (rs := [16]) (by kernel_rfl) (by simp) ?_
    refine all1 ?_
    refine wpOp_of_list rfl ?_
    obtain ⟨Fa51, Hc52, hb53⟩ := H.call [] [(1, false), (3, false)] rfl rfl trivial
    refine e_call E rfl rfl Try.func59 rfl rfl rfl (kit_SameInts_calls A1 c2 A48 c49 (lent ++ lentsp) (List.take (Int.toNat ((((List.length ll) : Nat) : Int) + 3)) (r13.1 ++ r13.2)) hk7 (H.rcapx 3 rfl) Hc52 h28) ?_
    rintro v54 w55 a ⟨rfl, HR56⟩ E_
    replace E := E_ _ rfl; clear E_
    obtain ⟨H_, hc57⟩ := hb53 _ _ HR56 rfl
    replace HS39 := HS39.ext (callS_ext hc57)
    replace H := H_; clear H_; try dsimp only [setn, addE, goneL] at H
    refine wpList_nil ?_
    refine th_n ⟨HS39, ?_⟩
    refine dn tbok (by kernel_rfl) [17, 18] [] [(4, .bool r27)] (fun w_ => []) 0 E (fun _ _ => by kernel_rfl) (by kernel_rfl) (fun w_ hS_ => trivial) (by kernel_rfl) HS39 ?_
    clear E; intro a E
    refine dr_done (by kernel_rfl) ?_
    exact .inl ⟨rfl, E.pick _ ⟨rfl, trivial⟩, H.sel [] rfl⟩
   refine wpOp_of_list rfl ?_
   obtain ⟨Fa58, Hc59, hb60⟩ := H.call [] [(2, false)] rfl rfl trivial
   refine e_call E rfl rfl Try.func35 rfl rfl rfl (kit_LentInts_calls A8 c9 ll hk10 Hc59 h14) ?_
   rintro v61 w62 a ⟨A65, c66, rfl, HR63⟩ E_
   replace E := E_ _ rfl; clear E_
   obtain ⟨H_, hc64⟩ := hb60 _ _ HR63 rfl
   replace HS39 := HS39.ext (callS_ext hc64)
   replace H := H_; clear H_; try dsimp only [setn, addE, goneL] at H
   refine wpList_nil ?_
   refine th_n ⟨HS39, ?_⟩
   refine wpAnyH_all (rs := [9, 15]) (by kernel_rfl) (by simp) ?_
   refine all2 ?_ ?_
   ·
    refine wpOp_of_list rfl ?_
    refine vn tbok 1 [] [(14, .slice A1 (Int.toNat ((c2 : Nat) : Int)) c2)] [0 ≤ ((c2 : Nat) : Int) ∧ ((c2 : Nat) : Int) ≤ ((c2 : Nat) : Int)] E (by kernel_rfl) (by kernel_rfl) (cut_all _) ?_
    clear E; intro a E
    replace E := E.same (t := 14) (u := .slice A1 (List.length (lent ++ lentsp)) c2) rfl (congrArg (fun n_ => Value.slice A1 n_ c2) hk3)
    refine wpList_nil ?_
    refine th_n ⟨HS39, ?_⟩
    refine wpAnyH_all (rs := [15]) (by kernel_rfl) (by simp) ?_
    refine all1 ?_
    refine wpOp_of_list rfl ?_
    replace H := H.allx 3 rfl; try dsimp only [setn, addE, goneL] at H
    refine vn tbok 1 [] [(20, .slice A65 (Int.toNat ((((List.length ll) : Nat) : Int) + 3)) c66)] [0 ≤ ((((List.length ll) : Nat) : Int) + 3) ∧ ((((List.length ll) : Nat) : Int) + 3) ≤ ((c66 : Nat) : Int)] E (by kernel_rfl) (by kernel_rfl) (cut_le g26 (H.rcapx 3 rfl)) ?_
    clear E; intro a E
    replace H := H.cutRowx 3 rfl (Int.toNat ((((List.length ll) : Nat) : Int) + 3)); try dsimp only [setn, addE, goneL] at H
    replace E := E.same (t := 20) (u := .slice A65 (List.length (List.take (Int.toNat ((((List.length ll) : Nat) : Int) + 3)) (r13.1 ++ r13.2))) c66) rfl (congrArg (fun n_ => Value.slice A65 n_ c66) (take_len g26))
    refine wpList_nil ?_
    refine th_n ⟨HS39, ?_⟩
    refine wpAnyH_all (rs := [16]) (by kernel_rfl) (by simp) ?_
    refine all1 ?_
    refine wpOp_of_list rfl ?_
    obtain ⟨Fa68, Hc69, hb70⟩ := H.call [] [(1, false), (3, false)] rfl rfl trivial
    refine e_call E rfl rfl Try.func59 rfl rfl rfl (kit_SameInts_calls A1 c2 A65 c66 (lent ++ lentsp) (List.take (Int.toNat ((((List.length ll) : Nat) : Int) + 3)) (r13.1 ++ r13.2)) hk7 (H.rcapx 3 rfl) Hc69 h28) ?_
    rintro v71 w72 a ⟨rfl, HR73⟩ E_
    replace E := E_ _ rfl; clear E_
    obtain ⟨H_, hc74⟩ := hb70 _ _ HR73 rfl
    replace HS39 := HS39.ext (callS_ext hc74)
    replace H := H_; clear H_; try dsimp only [setn, addE, goneL] at H
    refine wpList_nil ?_
    refine th_n ⟨HS39, ?_⟩
    refine dn tbok (by kernel_rfl) [17, 18] [] [(4, .bool r27)] (fun w_ => []) 0 E (fun _ _ => by kernel_rfl) (by kernel_rfl) (fun w_ hS_ => trivial) (by kernel_rfl) HS39 ?_
    clear E; intro a E
    refine dr_done (by kernel_rfl) ?_
    exact .inl ⟨rfl, E.pick _ ⟨rfl, trivial⟩, H.sel [] rfl⟩
   refine wpOp_of_list rfl ?_
   replace H := H.allx 3 rfl; try dsimp only [setn, addE, goneL] at H
   refine vn tbok 1 [] [(20, .slice A65 (Int.toNat ((((List.length ll) : Nat) : Int) + 3)) c66)] [0 ≤ ((((List.length ll) : Nat) : Int) + 3) ∧ ((((List.length ll) : Nat) : Int) + 3) ≤ ((c66 : Nat) : Int)] E (by kernel_rfl) (by kernel_rfl) (cut_le g26 (H.rcapx 3 rfl)) ?_
   clear E; intro a E
   replace H := H.cutRowx 3 rfl (Int.toNat ((((List.length ll) : Nat) : Int) + 3)); try dsimp only [setn, addE, goneL] at H
   replace E := E.same (t := 20) (u := .slice A65 (List.length (List.take (Int.toNat ((((List.length ll) : Nat) : Int) + 3)) (r13.1 ++ r13.2))) c66) rfl (congrArg (fun n_ => Value.slice A65 n_ c66) (take_len g26))
   refine wpList_nil ?_
   refine th_n ⟨HS39, ?_⟩
   refine wpAnyH_all (rs := [9]) (by kernel_rfl) (by simp) ?_
   refine all1 ?_
   refine wpOp_of_list rfl ?_
   refine vn tbok 1 [] [(14, .slice A1 (Int.toNat ((c2 : Nat) : Int)) c2)] [0 ≤ ((c2 : Nat) : Int) ∧ ((c2 : Nat) : Int) ≤ ((c2 : Nat) : Int)] E (by kernel_rfl) (by kernel_rfl) (cut_all _) ?_
   clear E; intro a E
   replace E := E.same (t := 14) (u := .slice A1 (List.length (lent ++ lentsp)) c2) rfl (congrArg (fun n_ => Value.slice A1 n_ c2) hk3)
   refine wpList_nil ?_
   refine th_n ⟨HS39, ?_⟩
   refine wpAnyH_all (rs := [16]) (by kernel_rfl) (by simp) ?_
   refine all1 ?_
   refine wpOp_of_list rfl ?_
   obtain ⟨Fa75, Hc76, hb77⟩ := H.call [] [(1, false), (3, false)] rfl rfl trivial
   refine e_call E rfl rfl Try.func59 rfl rfl rfl (kit_SameInts_calls A1 c2 A65 c66 (lent ++ lentsp) (List.take (Int.toNat ((((List.length ll) : Nat) : Int) + 3)) (r13.1 ++ r13.2)) hk7 (H.rcapx 3 rfl) Hc76 h28) ?_
   rintro v78 w79 a ⟨rfl, HR80⟩ E_
   replace E := E_ _ rfl; clear E_
   obtain ⟨H_, hc81⟩ := hb77 _ _ HR80 rfl
   replace HS39 := HS39.ext (callS_ext hc81)
   replace H := H_; clear H_; try dsimp only [setn, addE, goneL] at H
   refine wpList_nil ?_
   refine th_n ⟨HS39, ?_⟩
   refine dn tbok (by kernel_rfl) [17, 18] [] [(4, .bool r27)] (fun w_ => []) 0 E (fun _ _ => by kernel_rfl) (by kernel_rfl) (fun w_ hS_ => trivial) (by kernel_rfl) HS39 ?_
   clear E; intro a E
   refine dr_done (by kernel_rfl) ?_
   exact .inl ⟨rfl, E.pick _ ⟨rfl, trivial⟩, H.sel [] rfl⟩
  clear E H; rintro a w36 ⟨E, H⟩
  refine th_n ?_
  refine wp_ret ?_
  obtain rfl := Option.some.inj hP
  refine ret1 E rfl rfl ?_
  exact ⟨_, rfl, rfl, H.sel [] rfl⟩
 replace hP := ite_f h12 hP
 have HR85 := H
 refine dr_start (S := fun w_ => Chg (atL []) w0 w_) (by kernel_rfl) ?_
 intro w82 hc83
 have HS84 : Chg (atL []) w0 w82 := hc83.mono (fun _ _ h_ => h_.elim)
 replace H := H.ext hc83
 refine dn tbok (by kernel_rfl) [0, 1, 2, 3, 4, 5] [] [(10, .bool (((((List.length lent) : Nat) : Int) : Int) == (((List.length ll) : Nat) : Int)))] (fun w_ => []) 13 E (fun _ _ => by kernel_rfl) (by kernel_rfl) (fun w_ hS_ => trivial) (by kernel_rfl) HS84 ?_
 clear E; intro a E
 replace E := E.same (t := 10) (u := .bool false) rfl (congrArg Value.bool (beq_eq_false_iff_ne.2 h12))
 refine dn tbok (by kernel_rfl) [6, 7, 8, 9, 10, 11, 12, 13, 14, 15, 16, 17, 18] [] [(4, .bool false)] (fun w_ => []) 0 E (fun _ _ => by kernel_rfl) (by kernel_rfl) (fun w_ hS_ => trivial) (by kernel_rfl) HS84 ?_
 clear E; intro a E
 refine dr_done (by kernel_rfl) ?_
 clear HS84 HR85
 refine th_n ?_
 refine wp_ret ?_
 obtain rfl := Option.some.inj hP
 refine ret1 E rfl rfl ?_
 exact ⟨_, rfl, rfl, H.sel [] rfl⟩

/-! rejoinder/rejoinderkit.KeptAuto -/
def kit_KeptAuto_l0 (N : Nat) (lentAccept : List Bool) (lentAcceptsp : List Bool) : Nat → Int → Option (Unit ⊕ Bool)
  | 0, _ => none
  | m88 + 1, i79 =>
    if i79 < (((List.length (lentAccept ++ lentAcceptsp)) : Nat) : Int) then
      ask (idx i79 (List.length (lentAccept ++ lentAcceptsp))) <|
      if (List.getD (lentAccept ++ lentAcceptsp) (Int.toNat i79) false) = true then
        some (Sum.inr false)
      else
        ask (in64 (i79 + 1)) <|
        kit_KeptAuto_l0 N lentAccept lentAcceptsp m88 (i79 + 1)
    else
      some (Sum.inl ())
def kit_KeptAuto_l1 (N : Nat) (lentNodes : List Nd) (lentNodessp : List Nd) : Nat → Int → Option (Unit ⊕ Bool)
  | 0, _ => none
  | m121 + 1, i112 =>
    if i112 < (((List.length (lentNodes ++ lentNodessp)) : Nat) : Int) then
      ask (idx i112 (List.length (lentNodes ++ lentNodessp))) <|
      if (List.getD (lentNodes ++ lentNodessp) (Int.toNat i112) (default : Nd)) = (⟨0, 0, 0⟩ : Nd) then
        ask (in64 (i112 + 1)) <|
        kit_KeptAuto_l1 N lentNodes lentNodessp m121 (i112 + 1)
      else
        some (Sum.inr false)
    else
      some (Sum.inl ())
def kit_KeptAuto (N : Nat) (lentProps : Int) (lentAccept : List Bool) (lentAcceptsp : List Bool) (lentGuard : List Int) (lentGuardsp : List Int) (lentNodes : List Nd) (lentNodessp : List Nd) (aProps : Int) (aAccept : List Bool) (aGuard : List Int) (aNodes : List Nd) : Option Bool :=
  Option.bind (kit_SameAuto N lentProps lentAccept lentGuard lentNodes aProps aAccept aGuard aNodes) fun r44 =>
  if r44 = true then
    Option.bind (kit_KeptInts N lentGuard lentGuardsp aGuard) fun r55 =>
    if r55 = true then
      Option.bind (kit_KeptAuto_l0 N lentAccept lentAcceptsp N (((List.length aAccept) : Nat) : Int)) fun x89 =>
      Sum.elim (fun x94 =>
        Option.bind (kit_KeptAuto_l1 N lentNodes lentNodessp N (((List.length aNodes) : Nat) : Int)) fun x122 =>
        Sum.elim (fun x127 =>
          some true)
         (fun x136 =>
          some x136) x122)
       (fun x103 =>
        some x103) x89
    else
      some false
  else
    some false
set_option maxRecDepth 100000 in
set_option maxHeartbeats 4000000 in
theorem kit_KeptAuto_calls {N : Nat} {S Fa : Nat → Prop} {w0 : World} {r : Bool} (A1 : Option Addr) (c2 : Nat) (A8 : Option Addr) (c9 : Nat) (A15 : Option Addr) (c16 : Nat) (A22 : Option Addr) (c23 : Nat) (A26 : Option Addr) (c27 : Nat) (A30 : Option Addr) (c31 : Nat) (lentProps : Int) (lentAccept : List Bool) (lentAcceptsp : List Bool) (lentGuard : List Int) (lentGuardsp : List Int) (lentNodes : List Nd) (lentNodessp : List Nd) (aProps : Int) (aAccept : List Bool) (aGuard : List Int) (aNodes : List Nd) (hk3 : c2 = List.length (lentAccept ++ lentAcceptsp)) (hk10 : c9 = List.length (lentGuard ++ lentGuardsp)) (hk17 : c16 = List.length (lentNodes ++ lentNodessp)) (hk24 : List.length aAccept ≤ c23) (hk28 : List.length aGuard ≤ c27) (hk32 : List.length aNodes ≤ c31) (H : Hp S Fa w0 w0 [.ro false cBool A1 lentAccept, .ro false cBool A1 (lentAccept ++ lentAcceptsp), .ro false (cInt .i64) A8 lentGuard, .ro false (cInt .i64) A8 (lentGuard ++ lentGuardsp), .ro false cNode A15 lentNodes, .ro false cNode A15 (lentNodes ++ lentNodessp), .ro false cBool A22 aAccept, .ro false (cInt .i64) A26 aGuard, .ro false cNode A30 aNodes]) (hP : kit_KeptAuto N lentProps lentAccept lentAcceptsp lentGuard lentGuardsp lentNodes lentNodessp aProps aAccept aGuard aNodes = some r) :
    Calls Try.prog 24 #[.agg #[.int .i64 lentProps, .slice A1 (List.length lentAccept) c2, .slice A8 (List.length lentGuard) c9, .slice A15 (List.length lentNodes) c16], .agg #[.int .i64 aProps, .slice A22 (List.length aAccept) c23, .slice A26 (List.length aGuard) c27, .slice A30 (List.length aNodes) c31]] w0 fun e w' => ∃ v, e = .returned v ∧ v = .bool r ∧ Hp S Fa w0 w' [] := by
 have hk6 : List.length lentAccept ≤ c2 := by rw [hk3, List.length_append]; exact Nat.le_add_right _ _
 have hk7 : List.length (lentAccept ++ lentAcceptsp) ≤ c2 := Nat.le_of_eq hk3.symm
 have hk13 : List.length lentGuard ≤ c9 := by rw [hk10, List.length_append]; exact Nat.le_add_right _ _
 have hk14 : List.length (lentGuard ++ lentGuardsp) ≤ c9 := Nat.le_of_eq hk10.symm
 have hk20 : List.length lentNodes ≤ c16 := by rw [hk17, List.length_append]; exact Nat.le_add_right _ _
 have hk21 : List.length (lentNodes ++ lentNodessp) ≤ c16 := Nat.le_of_eq hk17.symm
 refine enterV (n := 61) Try.func24 rfl rfl rfl ?_
 intro a E
 replace E := E.pick [(0, .agg #[.int .i64 lentProps, .slice A1 (List.length lentAccept) c2, .slice A8 (List.length lentGuard) c9, .slice A15 (List.length lentNodes) c16]), (1, .agg #[.int .i64 aProps, .slice A22 (List.length aAccept) c23, .slice A26 (List.length aGuard) c27, .slice A30 (List.length aNodes) c31])] ⟨rfl, rfl, trivial⟩
 rw [kit_KeptAuto] at hP
 refine wp_seq ?_
 refine wp_region_lit ?_
 refine h_box H E rfl rfl rfl ?_
 intro w35 g34 a hc36 hg38 H_ E_
 replace E := E_ _ rfl; clear E_
 replace H := H_; clear H_; try dsimp only [setn, addE, goneL] at H
 refine h_box H E rfl rfl rfl ?_
 intro w40 g39 a hc41 hg43 H_ E_
 replace E := E_ _ rfl; clear E_
 replace H := H_; clear H_; try dsimp only [setn, addE, goneL] at H
 refine vn tbok 1 [] [] [] E (by kernel_rfl) (by kernel_rfl) trivial ?_
 clear E; intro a E
 refine wpList_nil ?_
 refine th_n ?_
 refine wp_seq ?_
 refine wp_seq ?_
 refine wp_region_lit ?_
 refine vn tbok 2 [.agg #[.int .i64 lentProps, .slice A1 (List.length lentAccept) c2, .slice A8 (List.length lentGuard) c9, .slice A15 (List.length lentNodes) c16], .agg #[.int .i64 aProps, .slice A22 (List.length aAccept) c23, .slice A26 (List.length aGuard) c27, .slice A30 (List.length aNodes) c31]] [(9, .agg #[.int .i64 lentProps, .slice A1 (List.length lentAccept) c2, .slice A8 (List.length lentGuard) c9, .slice A15 (List.length lentNodes) c16]), (10, .agg #[.int .i64 aProps, .slice A22 (List.length aAccept) c23, .slice A26 (List.length aGuard) c27, .slice A30 (List.length aNodes) c31])] [cellsAt w40 g34 (0) [.int .i64 lentProps, .slice A1 (List.length lentAccept) c2, .slice A8 (List.length lentGuard) c9, .slice A15 (List.length lentNodes) c16], cellsAt w40 g39 (0) [.int .i64 aProps, .slice A22 (List.length aAccept) c23, .slice A26 (List.length aGuard) c27, .slice A30 (List.length aNodes) c31]] E (by kernel_rfl) (by kernel_rfl) ⟨(H.box 9 rfl).sub 0 _ rfl, (H.box 10 rfl).sub 0 _ rfl⟩ ?_
 clear E; intro a E
 obtain ⟨r44, h45, hP⟩ := bind_inv hP
 obtain ⟨Fa46, Hc47, hb48⟩ := H.call [] [(0, false), (2, false), (4, false), (6, false), (7, false), (8, false)] rfl rfl trivial
 refine e_call E rfl rfl Try.func43 rfl rfl rfl (kit_SameAuto_calls A1 c2 A8 c9 A15 c16 A22 c23 A26 c27 A30 c31 lentProps lentAccept lentGuard lentNodes aProps aAccept aGuard aNodes hk6 hk13 hk20 hk24 hk28 hk32 Hc47 h45) ?_
 rintro v49 w50 a ⟨rfl, HR51⟩ E_
 replace E := E_ _ rfl; clear E_
 obtain ⟨H_, hc52⟩ := hb48 _ _ HR51 rfl
 replace H := H_; clear H_; try dsimp only [setn, addE, goneL] at H
 refine vn tbok 2 [] [(13, .bool (!r44))] [] E (by kernel_rfl) (by kernel_rfl) trivial ?_
 clear E; intro a E
 refine E.cases (t := 13) rfl (fun hb_ E_ => ?_) (fun hb_ E_ => ?_)
 ·
  replace E := E_; clear E_
  have h53 : ¬ (r44 = true) := (ne_true_of_eq_false (not_t hb_))
  clear hb_; replace hP := ite_f h53 hP
  refine vn tbok 7 [] [(20, .bool true)] [] E (by kernel_rfl) (by kernel_rfl) trivial ?_
  clear E; intro a E
  refine wpList_nil ?_
  refine th_n ?_
  refine c_true E rfl ?_
  refine wp_seq ?_
  refine wp_region_lit ?_
  refine vn tbok 1 [] [(4, .bool false)] [] E (by kernel_rfl) (by kernel_rfl) trivial ?_
  clear E; intro a E
  refine wpList_nil ?_
  refine th_n ?_
  refine wp_ret ?_
  refine th_ret ?_
  obtain rfl := Option.some.inj hP
  refine ret1 E rfl rfl ?_
  exact ⟨_, rfl, rfl, H.sel [] rfl⟩
 replace E := E_; clear E_
 have h54 : r44 = true := (not_f hb_)
 clear hb_; replace hP := ite_t h54 hP
 refine vn tbok 4 [.slice A8 (List.length lentGuard) c9, .slice A26 (List.length aGuard) c27] [(15, .slice A8 (List.length lentGuard) c9), (17, .slice A26 (List.length aGuard) c27)] [World.cell? w50 ⟨g34, 2, none⟩ = some (.slice A8 (List.length lentGuard) c9), World.cell? w50 ⟨g39, 2, none⟩ = some (.slice A26 (List.length aGuard) c27)] E (by kernel_rfl) (by kernel_rfl) ⟨(H.box 9 rfl).cell (j := 2) rfl, (H.box 10 rfl).cell (j := 2) rfl⟩ ?_
 clear E; intro a E
 obtain ⟨r55, h56, hP⟩ := bind_inv hP
 obtain ⟨Fa57, Hc58, hb59⟩ := H.call [] [(2, false), (3, false), (7, false)] rfl rfl trivial
 refine e_call E rfl rfl Try.func44 rfl rfl rfl (kit_KeptInts_calls A8 c9 A26 c27 lentGuard lentGuardsp aGuard hk10 hk28 Hc58 h56) ?_
 rintro v60 w61 a ⟨rfl, HR62⟩ E_
 replace E := E_ _ rfl; clear E_
 obtain ⟨H_, hc63⟩ := hb59 _ _ HR62 rfl
 replace H := H_; clear H_; try dsimp only [setn, addE, goneL] at H
 refine vn tbok 2 [] [(20, .bool (!r55))] [] E (by kernel_rfl) (by kernel_rfl) trivial ?_
 clear E; intro a E
 refine wpList_nil ?_
 refine th_n ?_
 refine E.cases (t := 20) rfl (fun hb_ E_ => ?_) (fun hb_ E_ => ?_)
 ·
  replace E := E_; clear E_
  have h64 : ¬ (r55 = true) := (ne_true_of_eq_false (not_t hb_))
  clear hb_; replace hP := ite_f h64 hP
  refine c_true E rfl ?_
  refine wp_seq ?_
  refine wp_region_lit ?_
  refine vn tbok 1 [] [(4, .bool false)] [] E (by kernel_rfl) (by kernel_rfl) trivial ?_
  clear E; intro a E
  refine wpList_nil ?_
  refine th_n ?_
  refine wp_ret ?_
  refine th_ret ?_
  obtain rfl := Option.some.inj hP
  refine ret1 E rfl rfl ?_
  exact ⟨_, rfl, rfl, H.sel [] rfl⟩
 replace E := E_; clear E_
 have h65 : r55 = true := (not_f hb_)
 clear hb_; replace hP := ite_t h65 hP
 refine c_false E rfl ?_
 refine wp_skip ?_
 refine th_n ?_
 refine wp_seq ?_
 refine meet_cut (fun a w66 => Fr a 61 [(3, .pointer (some ⟨g39, 0, none⟩)), (5, .slice A1 (List.length (lentAccept ++ lentAcceptsp)) c2), (6, .slice A15 (List.length (lentNodes ++ lentNodessp)) c16)] ∧ Hp S Fa w0 w66 [.ro false cBool A22 aAccept, .ro false (cInt .i64) A26 aGuard, .ro false cNode A30 aNodes, .box g39 43 [.int .i64 aProps, .slice A22 (List.length aAccept) c23, .slice A26 (List.length aGuard) c27, .slice A30 (List.length aNodes) c31], .ro false cBool A1 (lentAccept ++ lentAcceptsp), .ro false cNode A15 (lentNodes ++ lentNodessp)]) ?_ ?_
 ·
  have HR70 := H
  refine dr_start (S := fun w_ => Chg (atL []) w61 w_) (by kernel_rfl) ?_
  intro w67 hc68
  have HS69 : Chg (atL []) w61 w67 := hc68.mono (fun _ _ h_ => h_.elim)
  replace H := H.ext hc68
  refine dn tbok (by kernel_rfl) [0, 1, 2, 3, 4, 6, 7, 8, 9, 10] [.slice A1 (List.length lentAccept) c2, .slice A1 (List.length lentAccept) c2, .slice A15 (List.length lentNodes) c16, .slice A15 (List.length lentNodes) c16] [(22, .slice A1 (List.length lentAccept) c2), (25, .int .i64 ((c2 : Nat) : Int)), (28, .slice A15 (List.length lentNodes) c16), (31, .int .i64 ((c16 : Nat) : Int))] (fun w_ => [World.cell? w_ ⟨g34, 1, none⟩ = some (.slice A1 (List.length lentAccept) c2), World.cell? w_ ⟨g34, 1, none⟩ = some (.slice A1 (List.length lentAccept) c2), World.cell? w_ ⟨g34, 3, none⟩ = some (.slice A15 (List.length lentNodes) c16), World.cell? w_ ⟨g34, 3, none⟩ = some (.slice A15 (List.length lentNodes) c16)]) 4 E (fun _ _ => by kernel_rfl) (by kernel_rfl) (fun w_ hS_ => ⟨(HR70.boxk [] hS_ 9 rfl rfl).cell (j := 1) rfl, (HR70.boxk [] hS_ 9 rfl rfl).cell (j := 1) rfl, (HR70.boxk [] hS_ 9 rfl rfl).cell (j := 3) rfl, (HR70.boxk [] hS_ 9 rfl rfl).cell (j := 3) rfl⟩) (by kernel_rfl) HS69 ?_
  clear E; intro a E
  refine wpAnyH_all (rs := [5, 11]) (by kernel_rfl) (by simp) ?_
  refine all2 ?_ ?_
  ·
   refine wpOp_of_list rfl ?_
   refine vn tbok 1 [] [(26, .slice A1 (Int.toNat ((c2 : Nat) : Int)) c2)] [0 ≤ ((c2 : Nat) : Int) ∧ ((c2 : Nat) : Int) ≤ ((c2 : Nat) : Int)] E (by kernel_rfl) (by kernel_rfl) (cut_all _) ?_
   clear E; intro a E
   replace E := E.same (t := 26) (u := .slice A1 (List.length (lentAccept ++ lentAcceptsp)) c2) rfl (congrArg (fun n_ => Value.slice A1 n_ c2) hk3)
   refine wpList_nil ?_
   refine th_n ⟨HS69, ?_⟩
   refine dn tbok (by kernel_rfl) [12] [] [(5, .slice A1 (List.length (lentAccept ++ lentAcceptsp)) c2)] (fun w_ => []) 2 E (fun _ _ => by kernel_rfl) (by kernel_rfl) (fun w_ hS_ => trivial) (by kernel_rfl) HS69 ?_
   clear E; intro a E
   refine wpAnyH_all (rs := [11]) (by kernel_rfl) (by simp) ?_
   refine all1 ?_
   refine wpOp_of_list rfl ?_
   refine vn tbok 1 [] [(32, .slice A15 (Int.toNat ((c16 : Nat) : Int)) c16)] [0 ≤ ((c16 : Nat) : Int) ∧ ((c16 : Nat) : Int) ≤ ((c16 : Nat) : Int)] E (by kernel_rfl) (by kernel_rfl) (cut_all _) ?_
   clear E; intro a E
   replace E := E.same (t := 32) (u := .slice A15 (List.length (lentNodes ++ lentNodessp)) c16) rfl (congrArg (fun n_ => Value.slice A15 n_ c16) hk17)
   refine wpList_nil ?_
   refine th_n ⟨HS69, ?_⟩
   refine dn tbok (by kernel_rfl) [13] [] [(6, .slice A15 (List.length (lentNodes ++ lentNodessp)) c16)] (fun w_ => []) 0 E (fun _ _ => by kernel_rfl) (by kernel_rfl) (fun w_ hS_ => trivial) (by kernel_rfl) HS69 ?_
   clear E; intro a E
   refine dr_done (by kernel_rfl) ?_
   exact .inl ⟨rfl, E.pick _ ⟨rfl, rfl, rfl, trivial⟩, H.sel [6, 7, 8, 10, 1, 5] rfl⟩
  refine wpOp_of_list rfl ?_
  refine vn tbok 1 [] [(32, .slice A15 (Int.toNat ((c16 : Nat) : Int)) c16)] [0 ≤ ((c16 : Nat) : Int) ∧ ((c16 : Nat) : Int) ≤ ((c16 : Nat) : Int)] E (by kernel_rfl) (by kernel_rfl) (cut_all _) ?_
  clear E; intro a E
  replace E := E.same (t := 32) (u := .slice A15 (List.length (lentNodes ++ lentNodessp)) c16) rfl (congrArg (fun n_ => Value.slice A15 n_ c16) hk17)
  refine wpList_nil ?_
  refine th_n ⟨HS69, ?_⟩
  refine wpAnyH_all (rs := [5]) (by kernel_rfl) (by simp) ?_
  refine all1 ?_
  refine wpOp_of_list rfl ?_
  refine vn tbok 1 [] [(26, .slice A1 (Int.toNat ((c2 : Nat) : Int)) c2)] [0 ≤ ((c2 : Nat) : Int) ∧ ((c2 : Nat) : Int) ≤ ((c2 : Nat) : Int)] E (by kernel_rfl) (by kernel_rfl) (cut_all _) ?_
  clear E; intro a E
  replace E := E.same (t := 26) (u := .slice A1 (List.length (lentAccept ++ lentAcceptsp)) c2) rfl (congrArg (fun n_ => Value.slice A1 n_ c2) hk3)
  refine wpList_nil ?_
  refine th_n ⟨HS69, ?_⟩
  refine dn tbok (by kernel_rfl) [12, 13] [] [(5, .slice A1 (List.length (lentAccept ++ lentAcceptsp)) c2), (6, .slice A15 (List.length (lentNodes ++ lentNodessp)) c16)] (fun w_ => []) 0 E (fun _ _ => by kernel_rfl) (by kernel_rfl) (fun w_ hS_ => trivial) (by kernel_rfl) HS69 ?_
  clear E; intro a E
  refine dr_done (by kernel_rfl) ?_
  exact .inl ⟨rfl, E.pick _ ⟨rfl, rfl, rfl, trivial⟩, H.sel [6, 7, 8, 10, 1, 5] rfl⟩
 clear E H; rintro a w66 ⟨E, H⟩
 refine th_n ?_
 refine wp_seq ?_
 refine wp_seq ?_
 refine wp_region_lit ?_
 refine vn tbok 4 [.slice A22 (List.length aAccept) c23] [(7, .int .i64 (((List.length aAccept) : Nat) : Int))] [World.cell? w66 ⟨g39, 1, none⟩ = some (.slice A22 (List.length aAccept) c23)] E (by kernel_rfl) (by kernel_rfl) ((H.box 3 rfl).cell (j := 1) rfl) ?_
 clear E; intro a E
 refine wpList_nil ?_
 refine th_n ?_
 refine wp_block ?_
 obtain ⟨x89, hL90, hK91⟩ := bind_inv hP
 clear hP
 refine loop_cut (fun i_ a w_ => (i_ = 0 ∧ ∃ (x94 : Unit), Fr a 61 [(3, .pointer (some ⟨g39, 0, none⟩)), (6, .slice A15 (List.length (lentNodes ++ lentNodessp)) c16)] ∧ Hp S Fa w0 w_ [.ro false cBool A22 aAccept, .ro false (cInt .i64) A26 aGuard, .ro false cNode A30 aNodes, .box g39 43 [.int .i64 aProps, .slice A22 (List.length aAccept) c23, .slice A26 (List.length aGuard) c27, .slice A30 (List.length aNodes) c31], .ro false cNode A15 (lentNodes ++ lentNodessp)] ∧ x89 = Sum.inl x94)) ?_ ?_
 ·
  refine loopV (fun m93 a w92 => ∃ (i79 : Int), Fr a 61 [(3, .pointer (some ⟨g39, 0, none⟩)), (5, .slice A1 (List.length (lentAccept ++ lentAcceptsp)) c2), (6, .slice A15 (List.length (lentNodes ++ lentNodessp)) c16), (7, .int .i64 i79)] ∧ Hp S Fa w0 w92 [.ro false cBool A22 aAccept, .ro false (cInt .i64) A26 aGuard, .ro false cNode A30 aNodes, .box g39 43 [.int .i64 aProps, .slice A22 (List.length aAccept) c23, .slice A26 (List.length aGuard) c27, .slice A30 (List.length aNodes) c31], .ro false cBool A1 (lentAccept ++ lentAcceptsp), .ro false cNode A15 (lentNodes ++ lentNodessp)] ∧ kit_KeptAuto_l0 N lentAccept lentAcceptsp m93 i79 = some x89) N ?_ ?_
  ·
   exact ⟨(((List.length aAccept) : Nat) : Int), E.pick _ ⟨rfl, rfl, rfl, rfl, trivial⟩, H.sel [0, 1, 2, 3, 4, 5] rfl, hL90⟩
  clear E H hL90; intro m93 a w92 hI_
  obtain ⟨i79, E, H, hP⟩ := hI_
  obtain ⟨m88, rfl⟩ : ∃ q_, m93 = q_ + 1 := by cases m93 with | zero => rw [kit_KeptAuto_l0] at hP; cases hP | succ q_ => exact ⟨q_, rfl⟩
  rw [kit_KeptAuto_l0] at hP
  refine wp_seq ?_
  refine wp_seq ?_
  refine wp_region_lit ?_
  refine vn tbok 4 [] [(39, .bool (decide (i79 < (((List.length (lentAccept ++ lentAcceptsp)) : Nat) : Int))))] [] E (by kernel_rfl) (by kernel_rfl) trivial ?_
  clear E; intro a E
  refine wpList_nil ?_
  refine th_n ?_
  refine E.cases (t := 39) rfl (fun hb_ E_ => ?_) (fun hb_ E_ => ?_)
  ·
   replace E := E_; clear E_
   have h95 : i79 < (((List.length (lentAccept ++ lentAcceptsp)) : Nat) : Int) := of_decide_eq_true hb_
   clear hb_; replace hP := ite_t h95 hP
   refine c_true E rfl ?_
   refine wp_skip ?_
   refine th_n ?_
   refine wp_seq ?_
   refine wp_block ?_
   refine wp_seq ?_
   refine wp_region_lit ?_
   obtain ⟨g96, hP⟩ := ask_inv hP
   obtain ⟨b97, o98, e_b97⟩ := (H.rd 4 rds_ro).addr (idx_pos g96)
   subst e_b97
   refine vn tbok 4 [.bool (List.getD (lentAccept ++ lentAcceptsp) (Int.toNat i79) false)] [(45, .bool (List.getD (lentAccept ++ lentAcceptsp) (Int.toNat i79) false))] [0 ≤ i79 ∧ i79 < (((List.length (lentAccept ++ lentAcceptsp)) : Nat) : Int), World.cell? w92 ⟨b97, o98 + (Int.toNat i79) * 1, none⟩ = some (.bool (List.getD (lentAccept ++ lentAcceptsp) (Int.toNat i79) false))] E (by kernel_rfl) (by kernel_rfl) ⟨g96, Rds.at1 (H.rd 4 rds_ro) false g96⟩ ?_
   clear E; intro a E
   refine wpList_nil ?_
   refine th_n ?_
   refine E.cases (t := 45) rfl (fun hb_ E_ => ?_) (fun hb_ E_ => ?_)
   ·
    replace E := E_; clear E_
    have h99 : (List.getD (lentAccept ++ lentAcceptsp) (Int.toNat i79) false) = true := hb_
    clear hb_; replace hP := ite_t h99 hP
    refine c_true E rfl ?_
    refine wp_seq ?_
    refine wp_region_lit ?_
    refine vn tbok 1 [] [(4, .bool false)] [] E (by kernel_rfl) (by kernel_rfl) trivial ?_
    clear E; intro a E
    refine wpList_nil ?_
    refine th_n ?_
    refine wp_ret ?_
    refine bl_ret ?_
    refine th_ret ?_
    refine th_ret ?_
    refine .inr ⟨rfl, ?_⟩
    refine bl_ret ?_
    refine th_ret ?_
    have hx_ := Option.some.inj hP; subst hx_
    have hP : some (false) = some r := hK91
    obtain rfl := Option.some.inj hP
    refine ret1 E rfl rfl ?_
    exact ⟨_, rfl, rfl, H.sel [] rfl⟩
   replace E := E_; clear E_
   have h100 : ¬ ((List.getD (lentAccept ++ lentAcceptsp) (Int.toNat i79) false) = true) := (ne_true_of_eq_false hb_)
   clear hb_; replace hP := ite_f h100 hP
   refine c_false E rfl ?_
   refine wp_skip ?_
   refine bl_n ?_
   refine th_n ?_
   refine wp_region_lit ?_
   obtain ⟨g101, hP⟩ := ask_inv hP
   refine vn tbok 3 [.int .i64 (i79 + 1)] [(7, .int .i64 (i79 + 1))] [IntKind.i64.wrap (i79 + 1) = i79 + 1] E (by kernel_rfl) (by kernel_rfl) (wrap_in g101) ?_
   clear E; intro a E
   refine wpList_nil ?_
   exact th_n ⟨m88, Nat.lt_succ_self _, i79 + 1, E.pick _ ⟨rfl, rfl, rfl, rfl, trivial⟩, H.sel [0, 1, 2, 3, 4, 5] rfl, hP⟩
  replace E := E_; clear E_
  have h102 : ¬ (i79 < (((List.length (lentAccept ++ lentAcceptsp)) : Nat) : Int)) := of_decide_eq_false hb_
  clear hb_; replace hP := ite_f h102 hP
  refine c_false E rfl ?_
  refine wp_exit ?_
  refine th_exit ?_
  have hx_ := Option.some.inj hP
  refine th_exit (.inl ⟨0, rfl, ?_⟩)
  exact ⟨rfl, (), E.pick _ ⟨rfl, rfl, trivial⟩, H.sel [0, 1, 2, 3, 5] rfl, hx_.symm⟩
 clear E H hL90; intro i_ a w92 hM_
 obtain ⟨rfl, x94, E, H, hx_⟩ := hM_
 subst hx_; have hP := elim_l hK91
 clear hK91
 refine bl_hit ?_
 refine th_n ?_
 refine wp_seq ?_
 refine wp_seq ?_
 refine wp_region_lit ?_
 refine vn tbok 4 [.slice A30 (List.length aNodes) c31] [(8, .int .i64 (((List.length aNodes) : Nat) : Int))] [World.cell? w92 ⟨g39, 3, none⟩ = some (.slice A30 (List.length aNodes) c31)] E (by kernel_rfl) (by kernel_rfl) ((H.box 3 rfl).cell (j := 3) rfl) ?_
 clear E; intro a E
 refine wpList_nil ?_
 refine th_n ?_
 refine wp_block ?_
 obtain ⟨x122, hL123, hK124⟩ := bind_inv hP
 clear hP
 refine loop_cut (fun i_ a w_ => (i_ = 2 ∧ ∃ (x127 : Unit), Fr a 61 [] ∧ Hp S Fa w0 w_ [] ∧ x122 = Sum.inl x127)) ?_ ?_
 ·
  refine loopV (fun m126 a w125 => ∃ (i112 : Int), Fr a 61 [(6, .slice A15 (List.length (lentNodes ++ lentNodessp)) c16), (8, .int .i64 i112)] ∧ Hp S Fa w0 w125 [.ro false cNode A15 (lentNodes ++ lentNodessp)] ∧ kit_KeptAuto_l1 N lentNodes lentNodessp m126 i112 = some x122) N ?_ ?_
  ·
   exact ⟨(((List.length aNodes) : Nat) : Int), E.pick _ ⟨rfl, rfl, trivial⟩, H.sel [4] rfl, hL123⟩
  clear E H hL123; intro m126 a w125 hI_
  obtain ⟨i112, E, H, hP⟩ := hI_
  obtain ⟨m121, rfl⟩ : ∃ q_, m126 = q_ + 1 := by cases m126 with | zero => rw [kit_KeptAuto_l1] at hP; cases hP | succ q_ => exact ⟨q_, rfl⟩
  rw [kit_KeptAuto_l1] at hP
  refine wp_seq ?_
  refine wp_seq ?_
  refine wp_region_lit ?_
  refine vn tbok 4 [] [(52, .bool (decide (i112 < (((List.length (lentNodes ++ lentNodessp)) : Nat) : Int))))] [] E (by kernel_rfl) (by kernel_rfl) trivial ?_
  clear E; intro a E
  refine wpList_nil ?_
  refine th_n ?_
  refine E.cases (t := 52) rfl (fun hb_ E_ => ?_) (fun hb_ E_ => ?_)
  ·
   replace E := E_; clear E_
   have h128 : i112 < (((List.length (lentNodes ++ lentNodessp)) : Nat) : Int) := of_decide_eq_true hb_
   clear hb_; replace hP := ite_t h128 hP
   refine c_true E rfl ?_
   refine wp_skip ?_
   refine th_n ?_
   refine wp_seq ?_
   refine wp_block ?_
   refine wp_seq ?_
   refine wp_region_lit ?_
   obtain ⟨g129, hP⟩ := ask_inv hP
   obtain ⟨b130, o131, e_b130⟩ := (H.rd 0 rds_ro).addr (idx_pos g129)
   subst e_b130
   refine vn tbok 4 [.agg #[.int .i64 ((List.getD (lentNodes ++ lentNodessp) (Int.toNat i112) (default : Nd)).P), .int .i64 ((List.getD (lentNodes ++ lentNodessp) (Int.toNat i112) (default : Nd)).Lo), .int .i64 ((List.getD (lentNodes ++ lentNodessp) (Int.toNat i112) (default : Nd)).Hi)]] [(58, .agg #[.int .i64 ((List.getD (lentNodes ++ lentNodessp) (Int.toNat i112) (default : Nd)).P), .int .i64 ((List.getD (lentNodes ++ lentNodessp) (Int.toNat i112) (default : Nd)).Lo), .int .i64 ((List.getD (lentNodes ++ lentNodessp) (Int.toNat i112) (default : Nd)).Hi)])] [0 ≤ i112 ∧ i112 < (((List.length (lentNodes ++ lentNodessp)) : Nat) : Int), cellsAt w125 b130 (o131 + (Int.toNat i112) * 3) [.int .i64 ((List.getD (lentNodes ++ lentNodessp) (Int.toNat i112) (default : Nd)).P), .int .i64 ((List.getD (lentNodes ++ lentNodessp) (Int.toNat i112) (default : Nd)).Lo), .int .i64 ((List.getD (lentNodes ++ lentNodessp) (Int.toNat i112) (default : Nd)).Hi)]] E (by kernel_rfl) (by kernel_rfl) ⟨g129, Rds.atP (H.rd 0 rds_ro) (default : Nd) g129⟩ ?_
   clear E; intro a E
   refine e_build (ps := []) (v := .agg #[.int .i64 0, .int .i64 0, .int .i64 0]) E rfl rfl tbok rfl (by kernel_rfl) rfl ?_
   clear E; intro a E
   refine e_eqS E rfl rfl rfl rfl grdNd (eqNd (List.getD (lentNodes ++ lentNodessp) (Int.toNat i112) (default : Nd)) (⟨0, 0, 0⟩ : Nd) _) (!decide ((List.getD (lentNodes ++ lentNodessp) (Int.toNat i112) (default : Nd)) = (⟨0, 0, 0⟩ : Nd))) (.inr ⟨rfl, rfl⟩) rfl ?_
   clear E; intro a E
   refine wpList_nil ?_
   refine th_n ?_
   refine E.cases (t := 60) rfl (fun hb_ E_ => ?_) (fun hb_ E_ => ?_)
   ·
    replace E := E_; clear E_
    have h132 : ¬ ((List.getD (lentNodes ++ lentNodessp) (Int.toNat i112) (default : Nd)) = (⟨0, 0, 0⟩ : Nd)) := of_decide_eq_false (not_t hb_)
    clear hb_; replace hP := ite_f h132 hP
    refine c_true E rfl ?_
    refine wp_seq ?_
    refine wp_region_lit ?_
    refine vn tbok 1 [] [(4, .bool false)] [] E (by kernel_rfl) (by kernel_rfl) trivial ?_
    clear E; intro a E
    refine wpList_nil ?_
    refine th_n ?_
    refine wp_ret ?_
    refine bl_ret ?_
    refine th_ret ?_
    refine th_ret ?_
    refine .inr ⟨rfl, ?_⟩
    refine bl_ret ?_
    refine th_ret ?_
    have hx_ := Option.some.inj hP; subst hx_
    have hP : some (false) = some r := hK124
    obtain rfl := Option.some.inj hP
    refine ret1 E rfl rfl ?_
    exact ⟨_, rfl, rfl, H.sel [] rfl⟩
   replace E := E_; clear E_
   have h133 : (List.getD (lentNodes ++ lentNodessp) (Int.toNat i112) (default : Nd)) = (⟨0, 0, 0⟩ : Nd) := of_decide_eq_true (not_f hb_)
   clear hb_; replace hP := ite_t h133 hP
   refine c_false E rfl ?_
   refine wp_skip ?_
   refine bl_n ?_
   refine th_n ?_
   refine wp_region_lit ?_
   obtain ⟨g134, hP⟩ := ask_inv hP
   refine vn tbok 3 [.int .i64 (i112 + 1)] [(8, .int .i64 (i112 + 1))] [IntKind.i64.wrap (i112 + 1) = i112 + 1] E (by kernel_rfl) (by kernel_rfl) (wrap_in g134) ?_
   clear E; intro a E
   refine wpList_nil ?_
   exact th_n ⟨m121, Nat.lt_succ_self _, i112 + 1, E.pick _ ⟨rfl, rfl, trivial⟩, H.sel [0] rfl, hP⟩
  replace E := E_; clear E_
  have h135 : ¬ (i112 < (((List.length (lentNodes ++ lentNodessp)) : Nat) : Int)) := of_decide_eq_false hb_
  clear hb_; replace hP := ite_f h135 hP
  refine c_false E rfl ?_
  refine wp_exit ?_
  refine th_exit ?_
  have hx_ := Option.some.inj hP
  refine th_exit (.inl ⟨2, rfl, ?_⟩)
  exact ⟨rfl, (), E.pick _ trivial, H.sel [] rfl, hx_.symm⟩
 clear E H hL123; intro i_ a w125 hM_
 obtain ⟨rfl, x127, E, H, hx_⟩ := hM_
 subst hx_; have hP := elim_l hK124
 clear hK124
 refine bl_hit ?_
 refine th_n ?_
 refine wp_seq ?_
 refine wp_region_lit ?_
 refine vn tbok 1 [] [(4, .bool true)] [] E (by kernel_rfl) (by kernel_rfl) trivial ?_
 clear E; intro a E
 refine wpList_nil ?_
 refine th_n ?_
 refine wp_ret ?_
 obtain rfl := Option.some.inj hP
 refine ret1 E rfl rfl ?_
 exact ⟨_, rfl, rfl, H.sel [] rfl⟩

end Go.V
