/- Plain functions, and the calls that give them. -/
import Derived.Test.YthlbijcgnekcbaaA2
set_option linter.all false
set_option linter.unusedVariables false
set_option linter.unnecessarySimpa false
set_option linter.unusedSimpArgs false
namespace Go.V
open Go Go.Proofs
/-! rejoinder/rejoinderkit.SameInts -/
def kit_SameInts_l0 (N : Nat) (aa : List Int) (b : List Int) : Nat → Int → Option (Unit ⊕ Bool)
  | 0, _ => none
  | m41 + 1, i25 =>
    if i25 < (((List.length aa) : Nat) : Int) then
      ask (idx i25 (List.length aa)) <|
      ask (idx i25 (List.length b)) <|
      if ((List.getD aa (Int.toNat i25) 0) : Int) = (List.getD b (Int.toNat i25) 0) then
        ask (in64 (i25 + 1)) <|
        kit_SameInts_l0 N aa b m41 (i25 + 1)
      else
        some (Sum.inr false)
    else
      some (Sum.inl ())
def kit_SameInts (N : Nat) (aa : List Int) (b : List Int) : Option Bool :=
  if ((((List.length aa) : Nat) : Int) : Int) = (((List.length b) : Nat) : Int) then
    Option.bind (kit_SameInts_l0 N aa b N 0) fun x42 =>
    Sum.elim (fun x47 =>
      some true)
     (fun x63 =>
      some x63) x42
  else
    some false
set_option maxRecDepth 100000 in
set_option maxHeartbeats 4000000 in
theorem kit_SameInts_calls {N : Nat} {S Fa : Nat → Prop} {w0 : World} {r : Bool} (A1 : Option Addr) (c2 : Nat) (A5 : Option Addr) (c6 : Nat) (aa : List Int) (b : List Int) (hk3 : List.length aa ≤ c2) (hk7 : List.length b ≤ c6) (H : Hp S Fa w0 w0 [.ro false (cInt .i64) A1 aa, .ro false (cInt .i64) A5 b]) (hP : kit_SameInts N aa b = some r) :
    Calls Try.prog 13 #[.slice A1 (List.length aa) c2, .slice A5 (List.length b) c6] w0 fun e w' => ∃ v, e = .returned v ∧ v = .bool r ∧ Hp S Fa w0 w' [] := by
 refine enterV (n := 26) Try.func13 rfl rfl rfl ?_
 intro a E
 replace E := E.pick [(0, .slice A1 (List.length aa) c2), (1, .slice A5 (List.length b) c6)] ⟨rfl, rfl, trivial⟩
 rw [kit_SameInts] at hP
 refine wp_seq ?_
 refine wp_region_lit ?_
 refine vn tbok 1 [] [] [] E (by kernel_rfl) (by kernel_rfl) trivial ?_
 clear E; intro a E
 refine wpList_nil ?_
 refine th_n ?_
 refine wp_seq ?_
 refine wp_seq ?_
 refine wp_region_lit ?_
 refine vn tbok 5 [] [(10, .bool (((((List.length aa) : Nat) : Int) : Int) != (((List.length b) : Nat) : Int)))] [] E (by kernel_rfl) (by kernel_rfl) trivial ?_
 clear E; intro a E
 refine wpList_nil ?_
 refine th_n ?_
 refine E.cases (t := 10) rfl (fun hb_ E_ => ?_) (fun hb_ E_ => ?_)
 ·
  replace E := E_; clear E_
  have h9 : ¬ (((((List.length aa) : Nat) : Int) : Int) = (((List.length b) : Nat) : Int)) := bne_iff_ne.1 hb_
  clear hb_; replace hP := ite_f h9 hP
  refine c_true E rfl ?_
  refine wp_seq ?_
  refine wp_region_lit ?_
  refine vn tbok 1 [] [(4, .bool false)] [] E (by kernel_rfl) (by kernel_rfl) trivial ?_
  clear E; intro a E
  refine wpList_nil ?_
  refine th_n ?_
  refine wp_ret ?_
  refine th_ret ?_
  obtain rfl := Option.some.inj hP
  refine ret1 E rfl rfl ?_
  exact ⟨_, rfl, rfl, H.sel [] rfl⟩
 replace E := E_; clear E_
 have h10 : ((((List.length aa) : Nat) : Int) : Int) = (((List.length b) : Nat) : Int) := bne_eq_false_iff_eq.1 hb_
 clear hb_; replace hP := ite_t h10 hP
 refine c_false E rfl ?_
 refine wp_skip ?_
 refine th_n ?_
 refine wp_seq ?_
 refine wp_seq ?_
 refine wp_region_lit ?_
 refine vn tbok 1 [] [(5, .int .i64 0)] [] E (by kernel_rfl) (by kernel_rfl) trivial ?_
 clear E; intro a E
 refine wpList_nil ?_
 refine th_n ?_
 refine wp_block ?_
 obtain ⟨x42, hL43, hK44⟩ := bind_inv hP
 clear hP
 refine loop_cut (fun i_ a w_ => (i_ = 0 ∧ ∃ (x47 : Unit), Fr a 26 [] ∧ Hp S Fa w0 w_ [] ∧ x42 = Sum.inl x47)) ?_ ?_
 ·
  refine loopV (fun m46 a w45 => ∃ (i25 : Int), Fr a 26 [(0, .slice A1 (List.length aa) c2), (1, .slice A5 (List.length b) c6), (5, .int .i64 i25)] ∧ Hp S Fa w0 w45 [.ro false (cInt .i64) A1 aa, .ro false (cInt .i64) A5 b] ∧ kit_SameInts_l0 N aa b m46 i25 = some x42) N ?_ ?_
  ·
   exact ⟨0, E.pick _ ⟨rfl, rfl, rfl, trivial⟩, H.sel [0, 1] rfl, hL43⟩
  clear E H hL43; intro m46 a w45 hI_
  obtain ⟨i25, E, H, hP⟩ := hI_
  obtain ⟨m41, rfl⟩ : ∃ q_, m46 = q_ + 1 := by cases m46 with | zero => rw [kit_SameInts_l0] at hP; cases hP | succ q_ => exact ⟨q_, rfl⟩
  rw [kit_SameInts_l0] at hP
  refine wp_seq ?_
  refine wp_seq ?_
  refine wp_region_lit ?_
  refine vn tbok 4 [] [(14, .bool (decide (i25 < (((List.length aa) : Nat) : Int))))] [] E (by kernel_rfl) (by kernel_rfl) trivial ?_
  clear E; intro a E
  refine wpList_nil ?_
  refine th_n ?_
  refine E.cases (t := 14) rfl (fun hb_ E_ => ?_) (fun hb_ E_ => ?_)
  ·
   replace E := E_; clear E_
   have h48 : i25 < (((List.length aa) : Nat) : Int) := of_decide_eq_true hb_
   clear hb_; replace hP := ite_t h48 hP
   refine c_true E rfl ?_
   refine wp_skip ?_
   refine th_n ?_
   refine wp_seq ?_
   refine wp_block ?_
   refine wp_seq ?_
   obtain ⟨g49, hP⟩ := ask_inv hP
   obtain ⟨b50, o51, e_b50⟩ := (H.rd 0 rds_ro).addr (idx_pos g49)
   subst e_b50
   obtain ⟨g52, hP⟩ := ask_inv hP
   obtain ⟨b53, o54, e_b53⟩ := (H.rd 1 rds_ro).addr (idx_pos g52)
   subst e_b53
   have HR58 := H
   refine dr_start (S := fun w_ => Chg (atL []) w45 w_) (by kernel_rfl) ?_
   intro w55 hc56
   have HS57 : Chg (atL []) w45 w55 := hc56.mono (fun _ _ h_ => h_.elim)
   replace H := H.ext hc56
   refine dn tbok (by kernel_rfl) [0, 1, 2, 3, 4, 5, 6, 7, 8] [.int .i64 (List.getD aa (Int.toNat i25) 0), .int .i64 (List.getD b (Int.toNat i25) 0)] [(25, .bool (((List.getD aa (Int.toNat i25) 0) : Int) != (List.getD b (Int.toNat i25) 0)))] (fun w_ => [0 ≤ i25 ∧ i25 < (((List.length aa) : Nat) : Int), World.cell? w_ ⟨b50, o51 + (Int.toNat i25) * 1, none⟩ = some (.int .i64 (List.getD aa (Int.toNat i25) 0)), 0 ≤ i25 ∧ i25 < (((List.length b) : Nat) : Int), World.cell? w_ ⟨b53, o54 + (Int.toNat i25) * 1, none⟩ = some (.int .i64 (List.getD b (Int.toNat i25) 0))]) 0 E (fun _ _ => by kernel_rfl) (by kernel_rfl) (fun w_ hS_ => ⟨g49, Rds.at1 (HR58.rdk [] hS_ 0 rds_ro rfl) 0 g49, g52, Rds.at1 (HR58.rdk [] hS_ 1 rds_ro rfl) 0 g52⟩) (by kernel_rfl) HS57 ?_
   clear E; intro a E
   refine dr_done (by kernel_rfl) ?_
   clear HS57 HR58
   refine th_n ?_
   refine E.cases (t := 25) rfl (fun hb_ E_ => ?_) (fun hb_ E_ => ?_)
   ·
    replace E := E_; clear E_
    have h59 : ¬ (((List.getD aa (Int.toNat i25) 0) : Int) = (List.getD b (Int.toNat i25) 0)) := bne_iff_ne.1 hb_
    clear hb_; replace hP := ite_f h59 hP
    refine c_true E rfl ?_
    refine wp_seq ?_
    refine wp_region_lit ?_
    refine vn tbok 1 [] [(4, .bool false)] [] E (by kernel_rfl) (by kernel_rfl) trivial ?_
    clear E; intro a E
    refine wpList_nil ?_
    refine th_n ?_
    refine wp_ret ?_
    refine bl_ret ?_
    refine th_ret ?_
    refine th_ret ?_
    refine .inr ⟨rfl, ?_⟩
    refine bl_ret ?_
    refine th_ret ?_
    have hx_ := Option.some.inj hP; subst hx_
    have hP : some (false) = some r := hK44
    obtain rfl := Option.some.inj hP
    refine ret1 E rfl rfl ?_
    exact ⟨_, rfl, rfl, H.sel [] rfl⟩
   replace E := E_; clear E_
   have h60 : ((List.getD aa (Int.toNat i25) 0) : Int) = (List.getD b (Int.toNat i25) 0) := bne_eq_false_iff_eq.1 hb_
   clear hb_; replace hP := ite_t h60 hP
   refine c_false E rfl ?_
   refine wp_skip ?_
   refine bl_n ?_
   refine th_n ?_
   refine wp_region_lit ?_
   obtain ⟨g61, hP⟩ := ask_inv hP
   refine vn tbok 3 [.int .i64 (i25 + 1)] [(5, .int .i64 (i25 + 1))] [IntKind.i64.wrap (i25 + 1) = i25 + 1] E (by kernel_rfl) (by kernel_rfl) (wrap_in g61) ?_
   clear E; intro a E
   refine wpList_nil ?_
   exact th_n ⟨m41, Nat.lt_succ_self _, i25 + 1, E.pick _ ⟨rfl, rfl, rfl, trivial⟩, H.sel [0, 1] rfl, hP⟩
  replace E := E_; clear E_
  have h62 : ¬ (i25 < (((List.length aa) : Nat) : Int)) := of_decide_eq_false hb_
  clear hb_; replace hP := ite_f h62 hP
  refine c_false E rfl ?_
  refine wp_exit ?_
  refine th_exit ?_
  have hx_ := Option.some.inj hP
  refine th_exit (.inl ⟨0, rfl, ?_⟩)
  exact ⟨rfl, (), E.pick _ trivial, H.sel [] rfl, hx_.symm⟩
 clear E H hL43; intro i_ a w45 hM_
 obtain ⟨rfl, x47, E, H, hx_⟩ := hM_
 subst hx_; have hP := elim_l hK44
 clear hK44
 refine bl_hit ?_
 refine th_n ?_
 refine wp_seq ?_
 refine wp_region_lit ?_
 refine vn tbok 1 [] [(4, .bool true)] [] E (by kernel_rfl) (by kernel_rfl) trivial ?_
 clear E; intro a E
 refine wpList_nil ?_
 refine th_n ?_
 refine wp_ret ?_
 obtain rfl := Option.some.inj hP
 refine ret1 E rfl rfl ?_
 exact ⟨_, rfl, rfl, H.sel [] rfl⟩

/-! rejoinder/rejoinderkit.KeptInts -/
def kit_KeptInts (N : Nat) (lent : List Int) (lentsp : List Int) (ll : List Int) : Option Bool :=
  if ((((List.length lent) : Nat) : Int) : Int) = (((List.length ll) : Nat) : Int) then
    Option.bind (kit_LentInts N ll) fun r13 =>
    ask (in64 ((((List.length ll) : Nat) : Int) + 3)) <|
    ask (0 ≤ ((((List.length ll) : Nat) : Int) + 3) ∧ ((((List.length ll) : Nat) : Int) + 3) ≤ (((List.length (r13.1 ++ r13.2)) : Nat) : Int)) <|
    Option.bind (kit_SameInts N (lent ++ lentsp) (List.take (Int.toNat ((((List.length ll) : Nat) : Int) + 3)) (r13.1 ++ r13.2))) fun r27 =>
    some r27
  else
    some false
set_option maxRecDepth 100000 in
set_option maxHeartbeats 4000000 in
theorem kit_KeptInts_calls {N : Nat} {S Fa : Nat → Prop} {w0 : World} {r : Bool} (A1 : Option Addr) (c2 : Nat) (A8 : Option Addr) (c9 : Nat) (lent : List Int) (lentsp : List Int) (ll : List Int) (hk3 : c2 = List.length (lent ++ lentsp)) (hk10 : List.length ll ≤ c9) (H : Hp S Fa w0 w0 [.ro false (cInt .i64) A1 lent, .ro false (cInt .i64) A1 (lent ++ lentsp), .ro false (cInt .i64) A8 ll]) (hP : kit_KeptInts N lent lentsp ll = some r) :
    Calls Try.prog 24 #[.slice A1 (List.length lent) c2, .slice A8 (List.length ll) c9] w0 fun e w' => ∃ v, e = .returned v ∧ v = .bool r ∧ Hp S Fa w0 w' [] := by
 have hk6 : List.length lent ≤ c2 := by rw [hk3, List.length_append]; exact Nat.le_add_right _ _
 have hk7 : List.length (lent ++ lentsp) ≤ c2 := Nat.le_of_eq hk3.symm
 refine enterV (n := 23) Try.func24 rfl rfl rfl ?_
 intro a E
 replace E := E.pick [(0, .slice A1 (List.length lent) c2), (1, .slice A8 (List.length ll) c9)] ⟨rfl, rfl, trivial⟩
 rw [kit_KeptInts] at hP
 refine wp_seq ?_
 refine wp_region_lit ?_
 refine vn tbok 1 [] [] [] E (by kernel_rfl) (by kernel_rfl) trivial ?_
 clear E; intro a E
 refine wpList_nil ?_
 refine th_n ?_
 refine wp_seq ?_
 by_cases h12 : ((((List.length lent) : Nat) : Int) : Int) = (((List.length ll) : Nat) : Int)
 ·
  replace hP := ite_t h12 hP
  obtain ⟨r13, h14, hP⟩ := bind_inv hP
  obtain ⟨g25, hP⟩ := ask_inv hP
  obtain ⟨g26, hP⟩ := ask_inv hP
  obtain ⟨r27, h28, hP⟩ := bind_inv hP
  refine meet_cut (fun a w36 => Fr a 23 [(4, .bool r27)] ∧ Hp S Fa w0 w36 []) ?_ ?_
  ·
   have HR40 := H
   refine dr_start (S := fun w_ => Chg (atL []) w0 w_) (by kernel_rfl) ?_
   intro w37 hc38
   have HS39 : Chg (atL []) w0 w37 := hc38.mono (fun _ _ h_ => h_.elim)
   replace H := H.ext hc38
   refine dn tbok (by kernel_rfl) [0, 1, 2, 3, 4, 5] [] [(10, .bool (((((List.length lent) : Nat) : Int) : Int) == (((List.length ll) : Nat) : Int)))] (fun w_ => []) 13 E (fun _ _ => by kernel_rfl) (by kernel_rfl) (fun w_ hS_ => trivial) (by kernel_rfl) HS39 ?_
   clear E; intro a E
   replace E := E.same (t := 10) (u := .bool true) rfl (congrArg Value.bool (beq_iff_eq.2 h12))
   refine dn tbok (by kernel_rfl) [6, 7, 8, 10, 12, 13, 14] [.int .i64 ((((List.length ll) : Nat) : Int) + 3)] [(11, .slice A1 (List.length lent) c2), (13, .int .i64 ((c2 : Nat) : Int)), (15, .slice A8 (List.length ll) c9), (19, .int .i64 ((((List.length ll) : Nat) : Int) + 3))] (fun w_ => [IntKind.i64.wrap ((((List.length ll) : Nat) : Int) + 3) = (((List.length ll) : Nat) : Int) + 3]) 6 E (fun _ _ => by kernel_rfl) (by kernel_rfl) (fun w_ hS_ => (wrap_in g25)) (by kernel_rfl) HS39 ?_
   clear E; intro a E
   refine wpAnyH_all (rs := [9, 11]) (by kernel_rfl) (by simp) ?_
   refine all2 ?_ ?_
   ·
    refine wpOp_of_list rfl ?_
    refine vn tbok 1 [] [(14, .slice A1 (Int.toNat ((c2 : Nat) : Int)) c2)] [0 ≤ ((c2 : Nat) : Int) ∧ ((c2 : Nat) : Int) ≤ ((c2 : Nat) : Int)] E (by kernel_rfl) (by kernel_rfl) (cut_all _) ?_
    clear E; intro a E
    replace E := E.same (t := 14) (u := .slice A1 (List.length (lent ++ lentsp)) c2) rfl (congrArg (fun n_ => Value.slice A1 n_ c2) hk3)
    refine wpList_nil ?_
    refine th_n ⟨HS39, ?_⟩
    refine wpAnyH_all (rs := [11]) (by kernel_rfl) (by simp) ?_
    refine all1 ?_
    refine wpOp_of_list rfl ?_
    obtain ⟨Fa41, Hc42, hb43⟩ := H.call [] [(2, false)] rfl rfl trivial
    refine e_call E rfl rfl Try.func22 rfl rfl rfl (kit_LentInts_calls A8 c9 ll hk10 Hc42 h14) ?_
    rintro v44 w45 a ⟨A48, c49, rfl, HR46⟩ E_
    replace E := E_ _ rfl; clear E_
    obtain ⟨H_, hc47⟩ := hb43 _ _ HR46 rfl
    replace HS39 := HS39.ext (callS_ext hc47)
    replace H := H_; clear H_; try dsimp only [setn, addE, goneL] at H
    refine wpList_nil ?_
    refine th_n ⟨HS39, ?_⟩
    refine wpAnyH_all (rs := [15]) (by kernel_rfl) (by simp) ?_
    refine all1 ?_
    refine wpOp_of_list rfl ?_
    replace H := H.allx 3 rfl; try dsimp only [setn, addE, goneL] at H
    refine vn tbok 1 [] [(20, .slice A48 (Int.toNat ((((List.length ll) : Nat) : Int) + 3)) c49)] [0 ≤ ((((List.length ll) : Nat) : Int) + 3) ∧ ((((List.length ll) : Nat) : Int) + 3) ≤ ((c49 : Nat) : Int)] E (by kernel_rfl) (by kernel_rfl) (cut_le g26 (H.rcapx 3 rfl)) ?_
    clear E; intro a E
    replace H := H.cutRowx 3 rfl (Int.toNat ((((List.length ll) : Nat) : Int) + 3)); try dsimp only [setn, addE, goneL] at H
    replace E := E.same (t := 20) (u := .slice A48 (List.length (List.take (Int.toNat ((((List.length ll) : Nat) : Int) + 3)) (r13.1 ++ r13.2))) c49) rfl (congrArg (fun n_ => Value.slice A48 n_ c49) (take_len g26))
    refine wpList_nil ?_
    refine th_n ⟨HS39, ?_⟩
    refine wpAnyH_all (rs := [16]) (by kernel_rfl) (by simp) ?_
    refine all1 ?_
    refine wpOp_of_list rfl ?_
    obtain ⟨Fa51, Hc52, hb53⟩ := H.call [] [(1, false), (3, false)] rfl rfl trivial
    refine e_call E rfl rfl Try.func13 rfl rfl rfl (kit_SameInts_calls A1 c2 A48 c49 (lent ++ lentsp) (List.take (Int.toNat ((((List.length ll) : Nat) : Int) + 3)) (r13.1 ++ r13.2)) hk7 (H.rcapx 3 rfl) Hc52 h28) ?_
    rintro v54 w55 a ⟨rfl, HR56⟩ E_
    replace E := E_ _ rfl; clear E_
    obtain ⟨H_, hc57⟩ := hb53 _ _ HR56 rfl
    replace HS39 := HS39.ext (callS_ext hc57)
    replace H := H_; clear H_; try dsimp only [setn, addE, goneL] at H
    refine wpList_nil ?_
    refine th_n ⟨HS39, ?_⟩
    refine dn tbok (by kernel_rfl) [17, 18] [] [(4, .bool r27)] (fun w_ => []) 0 E (fun _ _ => by kernel_rfl) (by kernel_rfl) (fun w_ hS_ => trivial) (by kernel_rfl) HS39 ?_
    clear E; intro a E
    refine dr_done (by kernel_rfl) ?_
    exact .inl ⟨rfl, E.pick _ ⟨rfl, trivial⟩, H.sel [] rfl⟩
   refine wpOp_of_list rfl ?_
   obtain ⟨Fa58, Hc59, hb60⟩ := H.call [] [(2, false)] rfl rfl trivial
   refine e_call E rfl rfl Try.func22 rfl rfl rfl (kit_LentInts_calls A8 c9 ll hk10 Hc59 h14) ?_
   rintro v61 w62 a ⟨A65, c66, rfl, HR63⟩ E_
   replace E := E_ _ rfl; clear E_
   obtain ⟨H_, hc64⟩ := hb60 _ _ HR63 rfl
   replace HS39 := HS39.ext (callS_ext hc64)
   replace H := H_; clear H_; try dsimp only [setn, addE, goneL] at H
   refine wpList_nil ?_
   refine th_n ⟨HS39, ?_⟩
   refine wpAnyH_all (rs := [9, 15]) (by kernel_rfl) (by simp) ?_
   refine all2 ?_ ?_
   ·
    refine wpOp_of_list rfl ?_
    refine vn tbok 1 [] [(14, .slice A1 (Int.toNat ((c2 : Nat) : Int)) c2)] [0 ≤ ((c2 : Nat) : Int) ∧ ((c2 : Nat) : Int) ≤ ((c2 : Nat) : Int)] E (by kernel_rfl) (by kernel_rfl) (cut_all _) ?_
    clear E; intro a E
    replace E := E.same (t := 14) (u := .slice A1 (List.length (lent ++ lentsp)) c2) rfl (congrArg (fun n_ => Value.slice A1 n_ c2) hk3)
    refine wpList_nil ?_
    refine th_n ⟨HS39, ?_⟩
    refine wpAnyH_all (rs := [15]) (by kernel_rfl) (by simp) ?_
    refine all1 ?_
    refine wpOp_of_list rfl ?_
    replace H := H.allx 3 rfl; try dsimp only [setn, addE, goneL] at H
    refine vn tbok 1 [] [(20, .slice A65 (Int.toNat ((((List.length ll) : Nat) : Int) + 3)) c66)] [0 ≤ ((((List.length ll) : Nat) : Int) + 3) ∧ ((((List.length ll) : Nat) : Int) + 3) ≤ ((c66 : Nat) : Int)] E (by kernel_rfl) (by kernel_rfl) (cut_le g26 (H.rcapx 3 rfl)) ?_
    clear E; intro a E
    replace H := H.cutRowx 3 rfl (Int.toNat ((((List.length ll) : Nat) : Int) + 3)); try dsimp only [setn, addE, goneL] at H
    replace E := E.same (t := 20) (u := .slice A65 (List.length (List.take (Int.toNat ((((List.length ll) : Nat) : Int) + 3)) (r13.1 ++ r13.2))) c66) rfl (congrArg (fun n_ => Value.slice A65 n_ c66) (take_len g26))
    refine wpList_nil ?_
    refine th_n ⟨HS39, ?_⟩
    refine wpAnyH_all (rs := [16]) (by kernel_rfl) (by simp) ?_
    refine all1 ?_
    refine wpOp_of_list rfl ?_
    obtain ⟨Fa68, Hc69, hb70⟩ := H.call [] [(1, false), (3, false)] rfl rfl trivial
    refine e_call E rfl rfl Try.func13 rfl rfl rfl (kit_SameInts_calls A1 c2 A65 c66 (lent ++ lentsp) (List.take (Int.toNat ((((List.length ll) : Nat) : Int) + 3)) (r13.1 ++ r13.2)) hk7 (H.rcapx 3 rfl) Hc69 h28) ?_
    rintro v71 w72 a ⟨rfl, HR73⟩ E_
    replace E := E_ _ rfl; clear E_
    obtain ⟨H_, hc74⟩ := hb70 _ _ HR73 rfl
    replace HS39 := HS39.ext (callS_ext hc74)
    replace H := H_; clear H_; try dsimp only [setn, addE, goneL] at H
    refine wpList_nil ?_
    refine th_n ⟨HS39, ?_⟩
    refine dn tbok (by kernel_rfl) [17, 18] [] [(4, .bool r27)] (fun w_ => []) 0 E (fun _ _ => by kernel_rfl) (by kernel_rfl) (fun w_ hS_ => trivial) (by kernel_rfl) HS39 ?_
    clear E; intro a E
    refine dr_done (by kernel_rfl) ?_
    exact .inl ⟨rfl, E.pick _ ⟨rfl, trivial⟩, H.sel [] rfl⟩
   refine wpOp_of_list rfl ?_
   replace H := H.allx 3 rfl; try dsimp only [setn, addE, goneL] at H
   refine vn tbok 1 [] [(20, .slice A65 (Int.toNat ((((List.length ll) : Nat) : Int) + 3)) c66)] [0 ≤ ((((List.length ll) : Nat) : Int) + 3) ∧ ((((List.length ll) : Nat) : Int) + 3) ≤ ((c66 : Nat) : Int)] E (by kernel_rfl) (by kernel_rfl) (cut_le g26 (H.rcapx 3 rfl)) ?_
   clear E; intro a E
   replace H := H.cutRowx 3 rfl (Int.toNat ((((List.length ll) : Nat) : Int) + 3)); try dsimp only [setn, addE, goneL] at H
   replace E := E.same (t := 20) (u := .slice A65 (List.length (List.take (Int.toNat ((((List.length ll) : Nat) : Int) + 3)) (r13.1 ++ r13.2))) c66) rfl (congrArg (fun n_ => Value.slice A65 n_ c66) (take_len g26))
   refine wpList_nil ?_
   refine th_n ⟨HS39, ?_⟩
   refine wpAnyH_all (rs := [9]) (by kernel_rfl) (by simp) ?_
   refine all1 ?_
   refine wpOp_of_list rfl ?_
   refine vn tbok 1 [] [(14, .slice A1 (Int.toNat ((c2 : Nat) : Int)) c2)] [0 ≤ ((c2 : Nat) : Int) ∧ ((c2 : Nat) : Int) ≤ ((c2 : Nat) : Int)] E (by kernel_rfl) (by kernel_rfl) (cut_all _) ?_
   clear E; intro a E
   replace E := E.same (t := 14) (u := .slice A1 (List.length (lent ++ lentsp)) c2) rfl (congrArg (fun n_ => Value.slice A1 n_ c2) hk3)
   refine wpList_nil ?_
   refine th_n ⟨HS39, ?_⟩
   refine wpAnyH_all (rs := [16]) (by kernel_rfl) (by simp) ?_
   refine all1 ?_
   refine wpOp_of_list rfl ?_
   obtain ⟨Fa75, Hc76, hb77⟩ := H.call [] [(1, false), (3, false)] rfl rfl trivial
   refine e_call E rfl rfl Try.func13 rfl rfl rfl (kit_SameInts_calls A1 c2 A65 c66 (lent ++ lentsp) (List.take (Int.toNat ((((List.length ll) : Nat) : Int) + 3)) (r13.1 ++ r13.2)) hk7 (H.rcapx 3 rfl) Hc76 h28) ?_
   rintro v78 w79 a ⟨rfl, HR80⟩ E_
   replace E := E_ _ rfl; clear E_
   obtain ⟨H_, hc81⟩ := hb77 _ _ HR80 rfl
   replace HS39 := HS39.ext (callS_ext hc81)
   replace H := H_; clear H_; try dsimp only [setn, addE, goneL] at H
   refine wpList_nil ?_
   refine th_n ⟨HS39, ?_⟩
   refine dn tbok (by kernel_rfl) [17, 18] [] [(4, .bool r27)] (fun w_ => []) 0 E (fun _ _ => by kernel_rfl) (by kernel_rfl) (fun w_ hS_ => trivial) (by kernel_rfl) HS39 ?_
   clear E; intro a E
   refine dr_done (by kernel_rfl) ?_
   exact .inl ⟨rfl, E.pick _ ⟨rfl, trivial⟩, H.sel [] rfl⟩
  clear E H; rintro a w36 ⟨E, H⟩
  refine th_n ?_
  refine wp_ret ?_
  obtain rfl := Option.some.inj hP
  refine ret1 E rfl rfl ?_
  exact ⟨_, rfl, rfl, H.sel [] rfl⟩
 replace hP := ite_f h12 hP
 have HR85 := H
 refine dr_start (S := fun w_ => Chg (atL []) w0 w_) (by kernel_rfl) ?_
 intro w82 hc83
 have HS84 : Chg (atL []) w0 w82 := hc83.mono (fun _ _ h_ => h_.elim)
 replace H := H.ext hc83
 refine dn tbok (by kernel_rfl) [0, 1, 2, 3, 4, 5] [] [(10, .bool (((((List.length lent) : Nat) : Int) : Int) == (((List.length ll) : Nat) : Int)))] (fun w_ => []) 13 E (fun _ _ => by kernel_rfl) (by kernel_rfl) (fun w_ hS_ => trivial) (by kernel_rfl) HS84 ?_
 clear E; intro a E
 replace E := E.same (t := 10) (u := .bool false) rfl (congrArg Value.bool (beq_eq_false_iff_ne.2 h12))
 refine dn tbok (by kernel_rfl) [6, 7, 8, 9, 10, 11, 12, 13, 14, 15, 16, 17, 18] [] [(4, .bool false)] (fun w_ => []) 0 E (fun _ _ => by kernel_rfl) (by kernel_rfl) (fun w_ hS_ => trivial) (by kernel_rfl) HS84 ?_
 clear E; intro a E
 refine dr_done (by kernel_rfl) ?_
 clear HS84 HR85
 refine th_n ?_
 refine wp_ret ?_
 obtain rfl := Option.some.inj hP
 refine ret1 E rfl rfl ?_
 exact ⟨_, rfl, rfl, H.sel [] rfl⟩

/-! (*rejoinder/guard.Store).Len -/
def guard_Store_Len (N : Nat) (sn : Int) (snodes : List Nd) (sat : List (Nd × Int)) : Option Int :=
  Option.bind (guard_Store_none N sn snodes sat) fun r109 =>
  if r109 = true then
    some 0
  else
    some (((List.length snodes) : Nat) : Int)
set_option maxRecDepth 100000 in
set_option maxHeartbeats 4000000 in
theorem guard_Store_Len_calls {N : Nat} {S Fa : Nat → Prop} {w0 : World} {r : Int} (g1 : Nat) (A3 : Option Addr) (c4 : Nat) (g6 : Nat) (sn : Int) (snodes : List Nd) (sat : List (Nd × Int)) (H : Hp S Fa w0 w0 [.box g1 44 [.int .i64 sn, .slice A3 (List.length snodes) c4, .map (some g6)], .row true cNode 64 A3 c4 snodes, .mp Try.prog 64 g6 (List.map (fun p_ => (ndV p_.1, (fun u_ : Int => .int .i64 u_) p_.2)) sat)]) (hP : guard_Store_Len N sn snodes sat = some r) :
    Calls Try.prog 19 #[.pointer (some ⟨g1, 0, none⟩)] w0 fun e w' => ∃ v, e = .returned v ∧ (∃ (x_ : Int), r = x_ ∧ v = .int .i64 x_ ∧ Hp S Fa w0 w' [.row true cNode 64 A3 c4 snodes, .mp Try.prog 64 g6 (List.map (fun p_ => (ndV p_.1, (fun u_ : Int => .int .i64 u_) p_.2)) sat), .box g1 44 [.int .i64 sn, .slice A3 (List.length snodes) c4, .map (some g6)]]) := by
 refine enterV (n := 10) Try.func19 rfl rfl rfl ?_
 intro a E
 replace E := E.pick [(0, .pointer (some ⟨g1, 0, none⟩))] ⟨rfl, trivial⟩
 rw [guard_Store_Len] at hP
 refine wp_seq ?_
 refine wp_region_lit ?_
 refine vn tbok 1 [] [] [] E (by kernel_rfl) (by kernel_rfl) trivial ?_
 clear E; intro a E
 refine wpList_nil ?_
 refine th_n ?_
 refine wp_seq ?_
 refine wp_seq ?_
 refine wp_region_lit ?_
 refine vn tbok 1 [] [(3, .pointer (some ⟨g1, 0, none⟩))] [] E (by kernel_rfl) (by kernel_rfl) trivial ?_
 clear E; intro a E
 obtain ⟨r109, h110, hP⟩ := bind_inv hP
 obtain ⟨Fa111, Hc112, hb113⟩ := H.call [0, 1, 2] [] rfl rfl ⟨flat_plain, trivial⟩
 refine e_call E rfl rfl Try.func31 rfl rfl rfl (guard_Store_none_calls g1 A3 c4 g6 sn snodes sat  Hc112 h110) ?_
 intro v119 w118 a hR120 E_
 obtain ⟨x_, hr_, rfl, HR122⟩ := hR120
 subst hr_
 replace E := E_ _ rfl; clear E_
 obtain ⟨H_, hc121⟩ := hb113 _ _ HR122 rfl
 replace H := H_; clear H_; try dsimp only [setn, addE, goneL] at H
 refine wpList_nil ?_
 refine th_n ?_
 refine E.cases (t := 4) rfl (fun hb_ E_ => ?_) (fun hb_ E_ => ?_)
 ·
  replace E := E_; clear E_
  have h126 : r109 = true := hb_
  clear hb_; replace hP := ite_t h126 hP
  refine c_true E rfl ?_
  refine wp_seq ?_
  refine wp_region_lit ?_
  refine vn tbok 1 [] [(2, .int .i64 0)] [] E (by kernel_rfl) (by kernel_rfl) trivial ?_
  clear E; intro a E
  refine wpList_nil ?_
  refine th_n ?_
  refine wp_ret ?_
  refine th_ret ?_
  obtain rfl := Option.some.inj hP
  refine ret1 E rfl rfl ?_
  exact ⟨_, rfl, ⟨0, rfl, rfl, H.sel [3, 4, 5] rfl⟩⟩
 replace E := E_; clear E_
 have h127 : ¬ (r109 = true) := (ne_true_of_eq_false hb_)
 clear hb_; replace hP := ite_f h127 hP
 refine c_false E rfl ?_
 refine wp_skip ?_
 refine th_n ?_
 refine wp_seq ?_
 refine wp_region_lit ?_
 refine vn tbok 6 [.slice A3 (List.length snodes) c4] [(2, .int .i64 (((List.length snodes) : Nat) : Int))] [World.cell? w118 ⟨g1, 1, none⟩ = some (.slice A3 (List.length snodes) c4)] E (by kernel_rfl) (by kernel_rfl) ((H.box 5 rfl).cell (j := 1) rfl) ?_
 clear E; intro a E
 refine wpList_nil ?_
 refine th_n ?_
 refine wp_ret ?_
 obtain rfl := Option.some.inj hP
 refine ret1 E rfl rfl ?_
 exact ⟨_, rfl, ⟨(((List.length snodes) : Nat) : Int), rfl, rfl, H.sel [3, 4, 5] rfl⟩⟩

/-! (*rejoinder/guard.Store).Nodes -/
def guard_Store_Nodes (N : Nat) (sn : Int) (snodes : List Nd) (sat : List (Nd × Int)) : Option (List Nd) :=
  Option.bind (guard_Store_none N sn snodes sat) fun r112 =>
  if r112 = true then
    some []
  else
    ask (List.length ([] : List Nd) + List.length snodes ≤ 1000000000) <|
    some (([] : List Nd) ++ snodes)
set_option maxRecDepth 100000 in
set_option maxHeartbeats 4000000 in
theorem guard_Store_Nodes_calls {N : Nat} {S Fa : Nat → Prop} {w0 : World} {r : List Nd} (g1 : Nat) (A3 : Option Addr) (c4 : Nat) (g6 : Nat) (sn : Int) (snodes : List Nd) (sat : List (Nd × Int)) (H : Hp S Fa w0 w0 [.box g1 44 [.int .i64 sn, .slice A3 (List.length snodes) c4, .map (some g6)], .row true cNode 64 A3 c4 snodes, .mp Try.prog 64 g6 (List.map (fun p_ => (ndV p_.1, (fun u_ : Int => .int .i64 u_) p_.2)) sat)]) (hP : guard_Store_Nodes N sn snodes sat = some r) :
    Calls Try.prog 18 #[.pointer (some ⟨g1, 0, none⟩)] w0 fun e w' => ∃ v, e = .returned v ∧ (∃ (x_ : List Nd) (A10 : Option Addr) (c11 : Nat), r = x_ ∧ v = .slice A10 (List.length x_) c11 ∧ Hp S Fa w0 w' [.row true cNode 64 A10 c11 x_, .row true cNode 64 A3 c4 snodes, .mp Try.prog 64 g6 (List.map (fun p_ => (ndV p_.1, (fun u_ : Int => .int .i64 u_) p_.2)) sat), .box g1 44 [.int .i64 sn, .slice A3 (List.length snodes) c4, .map (some g6)]]) := by
 refine enterV (n := 11) Try.func18 rfl rfl rfl ?_
 intro a E
 replace E := E.pick [(0, .pointer (some ⟨g1, 0, none⟩))] ⟨rfl, trivial⟩
 rw [guard_Store_Nodes] at hP
 refine wp_seq ?_
 refine wp_region_lit ?_
 refine vn tbok 1 [] [] [] E (by kernel_rfl) (by kernel_rfl) trivial ?_
 clear E; intro a E
 refine wpList_nil ?_
 refine th_n ?_
 refine wp_seq ?_
 refine wp_seq ?_
 refine wp_region_lit ?_
 refine vn tbok 1 [] [(3, .pointer (some ⟨g1, 0, none⟩))] [] E (by kernel_rfl) (by kernel_rfl) trivial ?_
 clear E; intro a E
 obtain ⟨r112, h113, hP⟩ := bind_inv hP
 obtain ⟨Fa114, Hc115, hb116⟩ := H.call [0, 1, 2] [] rfl rfl ⟨flat_plain, trivial⟩
 refine e_call E rfl rfl Try.func31 rfl rfl rfl (guard_Store_none_calls g1 A3 c4 g6 sn snodes sat  Hc115 h113) ?_
 intro v122 w121 a hR123 E_
 obtain ⟨x_, hr_, rfl, HR125⟩ := hR123
 subst hr_
 replace E := E_ _ rfl; clear E_
 obtain ⟨H_, hc124⟩ := hb116 _ _ HR125 rfl
 replace H := H_; clear H_; try dsimp only [setn, addE, goneL] at H
 refine wpList_nil ?_
 refine th_n ?_
 refine E.cases (t := 4) rfl (fun hb_ E_ => ?_) (fun hb_ E_ => ?_)
 ·
  replace E := E_; clear E_
  have h129 : r112 = true := hb_
  clear hb_; replace hP := ite_t h129 hP
  refine c_true E rfl ?_
  refine wp_seq ?_
  refine wp_region_lit ?_
  refine vn tbok 1 [] [(2, .slice none 0 0)] [] E (by kernel_rfl) (by kernel_rfl) trivial ?_
  clear E; intro a E
  refine wpList_nil ?_
  refine th_n ?_
  refine wp_ret ?_
  refine th_ret ?_
  replace H := H.nilrow cNode 64; try dsimp only [setn, addE, goneL] at H
  obtain rfl := Option.some.inj hP
  refine ret1 E rfl rfl ?_
  exact ⟨_, rfl, ⟨[], none, 0, rfl, rfl, H.sel [6, 3, 4, 5] rfl⟩⟩
 replace E := E_; clear E_
 have h131 : ¬ (r112 = true) := (ne_true_of_eq_false hb_)
 clear hb_; replace hP := ite_f h131 hP
 refine c_false E rfl ?_
 refine wp_skip ?_
 refine th_n ?_
 refine wp_seq ?_
 refine wp_region_lit ?_
 refine h_buildSlice (ps := []) (cs := []) H E rfl rfl tbok rfl rfl (by kernel_rfl) ?_
 intro w133 g132 a hc134 hg136 H_ E_
 replace E := E_ _ rfl; clear E_
 replace H := H_; clear H_; try dsimp only [setn, addE, goneL] at H
 refine vn tbok 4 [.slice A3 (List.length snodes) c4] [(9, .slice A3 (List.length snodes) c4)] [World.cell? w133 ⟨g1, 1, none⟩ = some (.slice A3 (List.length snodes) c4)] E (by kernel_rfl) (by kernel_rfl) ((H.box 5 rfl).cell (j := 1) rfl) ?_
 clear E; intro a E
 replace H := H.boxRow cNode true ([] : List Nd) 6 rfl (fun _ _ => rfl) (Nat.le_of_ble_eq_true rfl); try dsimp only [setn, addE, goneL] at H
 replace H := H.rowx 6 rfl; try dsimp only [setn, addE, goneL] at H
 obtain ⟨g137, hP⟩ := ask_inv hP
 refine h_append cNode (xs := ([] : List Nd)) (ys := snodes) ((default : Nd) : Nd) H 6 rfl E rfl rfl tbok rfl rfl rfl rfl rfl (fun _ _ => rfl) rfl rfl (fun _ HF_ => HF_.srcF flat_plain 3 rds_row) g137 ?_
 intro w138 A139 c140 a hc141 hA142 H_ E_
 replace E := E_ _ rfl; clear E_
 replace H := H_; clear H_; try dsimp only [setn, addE, goneL] at H
 refine vn tbok 1 [] [(2, .slice A139 (List.length (([] : List Nd) ++ snodes)) c140)] [] E (by kernel_rfl) (by kernel_rfl) trivial ?_
 clear E; intro a E
 refine wpList_nil ?_
 refine th_n ?_
 refine wp_ret ?_
 obtain rfl := Option.some.inj hP
 refine ret1 E rfl rfl ?_
 exact ⟨_, rfl, ⟨([] : List Nd) ++ snodes, A139, c140, rfl, rfl, H.sel [6, 3, 4, 5] rfl⟩⟩

/-! rejoinder/rejoinderkit.SameNodes -/
def kit_SameNodes_l0 (N : Nat) (aa : List Nd) (b : List Nd) : Nat → Int → Option (Unit ⊕ Bool)
  | 0, _ => none
  | m41 + 1, i25 =>
    if i25 < (((List.length aa) : Nat) : Int) then
      ask (idx i25 (List.length aa)) <|
      ask (idx i25 (List.length b)) <|
      if (List.getD aa (Int.toNat i25) (default : Nd)) = (List.getD b (Int.toNat i25) (default : Nd)) then
        ask (in64 (i25 + 1)) <|
        kit_SameNodes_l0 N aa b m41 (i25 + 1)
      else
        some (Sum.inr false)
    else
      some (Sum.inl ())
def kit_SameNodes (N : Nat) (aa : List Nd) (b : List Nd) : Option Bool :=
  if ((((List.length aa) : Nat) : Int) : Int) = (((List.length b) : Nat) : Int) then
    Option.bind (kit_SameNodes_l0 N aa b N 0) fun x42 =>
    Sum.elim (fun x47 =>
      some true)
     (fun x63 =>
      some x63) x42
  else
    some false
set_option maxRecDepth 100000 in
set_option maxHeartbeats 4000000 in
theorem kit_SameNodes_calls {N : Nat} {S Fa : Nat → Prop} {w0 : World} {r : Bool} (A1 : Option Addr) (c2 : Nat) (A5 : Option Addr) (c6 : Nat) (aa : List Nd) (b : List Nd) (hk3 : List.length aa ≤ c2) (hk7 : List.length b ≤ c6) (H : Hp S Fa w0 w0 [.ro false cNode A1 aa, .ro false cNode A5 b]) (hP : kit_SameNodes N aa b = some r) :
    Calls Try.prog 25 #[.slice A1 (List.length aa) c2, .slice A5 (List.length b) c6] w0 fun e w' => ∃ v, e = .returned v ∧ v = .bool r ∧ Hp S Fa w0 w' [] := by
 refine enterV (n := 26) Try.func25 rfl rfl rfl ?_
 intro a E
 replace E := E.pick [(0, .slice A1 (List.length aa) c2), (1, .slice A5 (List.length b) c6)] ⟨rfl, rfl, trivial⟩
 rw [kit_SameNodes] at hP
 refine wp_seq ?_
 refine wp_region_lit ?_
 refine vn tbok 1 [] [] [] E (by kernel_rfl) (by kernel_rfl) trivial ?_
 clear E; intro a E
 refine wpList_nil ?_
 refine th_n ?_
 refine wp_seq ?_
 refine wp_seq ?_
 refine wp_region_lit ?_
 refine vn tbok 5 [] [(10, .bool (((((List.length aa) : Nat) : Int) : Int) != (((List.length b) : Nat) : Int)))] [] E (by kernel_rfl) (by kernel_rfl) trivial ?_
 clear E; intro a E
 refine wpList_nil ?_
 refine th_n ?_
 refine E.cases (t := 10) rfl (fun hb_ E_ => ?_) (fun hb_ E_ => ?_)
 ·
  replace E := E_; clear E_
  have h9 : ¬ (((((List.length aa) : Nat) : Int) : Int) = (((List.length b) : Nat) : Int)) := bne_iff_ne.1 hb_
  clear hb_; replace hP := ite_f h9 hP
  refine c_true E rfl ?_
  refine wp_seq ?_
  refine wp_region_lit ?_
  refine vn tbok 1 [] [(4, .bool false)] [] E (by kernel_rfl) (by kernel_rfl) trivial ?_
  clear E; intro a E
  refine wpList_nil ?_
  refine th_n ?_
  refine wp_ret ?_
  refine th_ret ?_
  obtain rfl := Option.some.inj hP
  refine ret1 E rfl rfl ?_
  exact ⟨_, rfl, rfl, H.sel [] rfl⟩
 replace E := E_; clear E_
 have h10 : ((((List.length aa) : Nat) : Int) : Int) = (((List.length b) : Nat) : Int) := bne_eq_false_iff_eq.1 hb_
 clear hb_; replace hP := ite_t h10 hP
 refine c_false E rfl ?_
 refine wp_skip ?_
 refine th_n ?_
 refine wp_seq ?_
 refine wp_seq ?_
 refine wp_region_lit ?_
 refine vn tbok 1 [] [(5, .int .i64 0)] [] E (by kernel_rfl) (by kernel_rfl) trivial ?_
 clear E; intro a E
 refine wpList_nil ?_
 refine th_n ?_
 refine wp_block ?_
 obtain ⟨x42, hL43, hK44⟩ := bind_inv hP
 clear hP
 refine loop_cut (fun i_ a w_ => (i_ = 0 ∧ ∃ (x47 : Unit), Fr a 26 [] ∧ Hp S Fa w0 w_ [] ∧ x42 = Sum.inl x47)) ?_ ?_
 ·
  refine loopV (fun m46 a w45 => ∃ (i25 : Int), Fr a 26 [(0, .slice A1 (List.length aa) c2), (1, .slice A5 (List.length b) c6), (5, .int .i64 i25)] ∧ Hp S Fa w0 w45 [.ro false cNode A1 aa, .ro false cNode A5 b] ∧ kit_SameNodes_l0 N aa b m46 i25 = some x42) N ?_ ?_
  ·
   exact ⟨0, E.pick _ ⟨rfl, rfl, rfl, trivial⟩, H.sel [0, 1] rfl, hL43⟩
  clear E H hL43; intro m46 a w45 hI_
  obtain ⟨i25, E, H, hP⟩ := hI_
  obtain ⟨m41, rfl⟩ : ∃ q_, m46 = q_ + 1 := by cases m46 with | zero => rw [kit_SameNodes_l0] at hP; cases hP | succ q_ => exact ⟨q_, rfl⟩
  rw [kit_SameNodes_l0] at hP
  refine wp_seq ?_
  refine wp_seq ?_
  refine wp_region_lit ?_
  refine vn tbok 4 [] [(14, .bool (decide (i25 < (((List.length aa) : Nat) : Int))))] [] E (by kernel_rfl) (by kernel_rfl) trivial ?_
  clear E; intro a E
  refine wpList_nil ?_
  refine th_n ?_
  refine E.cases (t := 14) rfl (fun hb_ E_ => ?_) (fun hb_ E_ => ?_)
  ·
   replace E := E_; clear E_
   have h48 : i25 < (((List.length aa) : Nat) : Int) := of_decide_eq_true hb_
   clear hb_; replace hP := ite_t h48 hP
   refine c_true E rfl ?_
   refine wp_skip ?_
   refine th_n ?_
   refine wp_seq ?_
   refine wp_block ?_
   refine wp_seq ?_
   obtain ⟨g49, hP⟩ := ask_inv hP
   obtain ⟨b50, o51, e_b50⟩ := (H.rd 0 rds_ro).addr (idx_pos g49)
   subst e_b50
   obtain ⟨g52, hP⟩ := ask_inv hP
   obtain ⟨b53, o54, e_b53⟩ := (H.rd 1 rds_ro).addr (idx_pos g52)
   subst e_b53
   have HR58 := H
   refine dr_start (S := fun w_ => Chg (atL []) w45 w_) (by kernel_rfl) ?_
   intro w55 hc56
   have HS57 : Chg (atL []) w45 w55 := hc56.mono (fun _ _ h_ => h_.elim)
   replace H := H.ext hc56
   refine dn tbok (by kernel_rfl) [0, 1, 2, 3, 4, 5, 6, 7] [.agg #[.int .i64 ((List.getD aa (Int.toNat i25) (default : Nd)).P), .int .i64 ((List.getD aa (Int.toNat i25) (default : Nd)).Lo), .int .i64 ((List.getD aa (Int.toNat i25) (default : Nd)).Hi)], .agg #[.int .i64 ((List.getD b (Int.toNat i25) (default : Nd)).P), .int .i64 ((List.getD b (Int.toNat i25) (default : Nd)).Lo), .int .i64 ((List.getD b (Int.toNat i25) (default : Nd)).Hi)]] [(20, .agg #[.int .i64 ((List.getD aa (Int.toNat i25) (default : Nd)).P), .int .i64 ((List.getD aa (Int.toNat i25) (default : Nd)).Lo), .int .i64 ((List.getD aa (Int.toNat i25) (default : Nd)).Hi)]), (24, .agg #[.int .i64 ((List.getD b (Int.toNat i25) (default : Nd)).P), .int .i64 ((List.getD b (Int.toNat i25) (default : Nd)).Lo), .int .i64 ((List.getD b (Int.toNat i25) (default : Nd)).Hi)])] (fun w_ => [0 ≤ i25 ∧ i25 < (((List.length aa) : Nat) : Int), cellsAt w_ b50 (o51 + (Int.toNat i25) * 3) [.int .i64 ((List.getD aa (Int.toNat i25) (default : Nd)).P), .int .i64 ((List.getD aa (Int.toNat i25) (default : Nd)).Lo), .int .i64 ((List.getD aa (Int.toNat i25) (default : Nd)).Hi)], 0 ≤ i25 ∧ i25 < (((List.length b) : Nat) : Int), cellsAt w_ b53 (o54 + (Int.toNat i25) * 3) [.int .i64 ((List.getD b (Int.toNat i25) (default : Nd)).P), .int .i64 ((List.getD b (Int.toNat i25) (default : Nd)).Lo), .int .i64 ((List.getD b (Int.toNat i25) (default : Nd)).Hi)]]) 1 E (fun _ _ => by kernel_rfl) (by kernel_rfl) (fun w_ hS_ => ⟨g49, Rds.atP (HR58.rdk [] hS_ 0 rds_ro rfl) (default : Nd) g49, g52, Rds.atP (HR58.rdk [] hS_ 1 rds_ro rfl) (default : Nd) g52⟩) (by kernel_rfl) HS57 ?_
   clear E; intro a E
   refine wpAnyH_all (rs := [8]) (by kernel_rfl) (by simp) ?_
   refine all1 ?_
   refine wpOp_of_list rfl ?_
   refine e_eqS E rfl rfl rfl rfl grdNd (eqNd (List.getD aa (Int.toNat i25) (default : Nd)) (List.getD b (Int.toNat i25) (default : Nd)) _) (!decide ((List.getD aa (Int.toNat i25) (default : Nd)) = (List.getD b (Int.toNat i25) (default : Nd)))) (.inr ⟨rfl, rfl⟩) rfl ?_
   clear E; intro a E
   refine wpList_nil ?_
   refine th_n ⟨HS57, ?_⟩
   refine dr_done (by kernel_rfl) ?_
   clear HS57 HR58
   refine th_n ?_
   refine E.cases (t := 25) rfl (fun hb_ E_ => ?_) (fun hb_ E_ => ?_)
   ·
    replace E := E_; clear E_
    have h59 : ¬ ((List.getD aa (Int.toNat i25) (default : Nd)) = (List.getD b (Int.toNat i25) (default : Nd))) := of_decide_eq_false (not_t hb_)
    clear hb_; replace hP := ite_f h59 hP
    refine c_true E rfl ?_
    refine wp_seq ?_
    refine wp_region_lit ?_
    refine vn tbok 1 [] [(4, .bool false)] [] E (by kernel_rfl) (by kernel_rfl) trivial ?_
    clear E; intro a E
    refine wpList_nil ?_
    refine th_n ?_
    refine wp_ret ?_
    refine bl_ret ?_
    refine th_ret ?_
    refine th_ret ?_
    refine .inr ⟨rfl, ?_⟩
    refine bl_ret ?_
    refine th_ret ?_
    have hx_ := Option.some.inj hP; subst hx_
    have hP : some (false) = some r := hK44
    obtain rfl := Option.some.inj hP
    refine ret1 E rfl rfl ?_
    exact ⟨_, rfl, rfl, H.sel [] rfl⟩
   replace E := E_; clear E_
   have h60 : (List.getD aa (Int.toNat i25) (default : Nd)) = (List.getD b (Int.toNat i25) (default : Nd)) := of_decide_eq_true (not_f hb_)
   clear hb_; replace hP := ite_t h60 hP
   refine c_false E rfl ?_
   refine wp_skip ?_
   refine bl_n ?_
   refine th_n ?_
   refine wp_region_lit ?_
   obtain ⟨g61, hP⟩ := ask_inv hP
   refine vn tbok 3 [.int .i64 (i25 + 1)] [(5, .int .i64 (i25 + 1))] [IntKind.i64.wrap (i25 + 1) = i25 + 1] E (by kernel_rfl) (by kernel_rfl) (wrap_in g61) ?_
   clear E; intro a E
   refine wpList_nil ?_
   exact th_n ⟨m41, Nat.lt_succ_self _, i25 + 1, E.pick _ ⟨rfl, rfl, rfl, trivial⟩, H.sel [0, 1] rfl, hP⟩
  replace E := E_; clear E_
  have h62 : ¬ (i25 < (((List.length aa) : Nat) : Int)) := of_decide_eq_false hb_
  clear hb_; replace hP := ite_f h62 hP
  refine c_false E rfl ?_
  refine wp_exit ?_
  refine th_exit ?_
  have hx_ := Option.some.inj hP
  refine th_exit (.inl ⟨0, rfl, ?_⟩)
  exact ⟨rfl, (), E.pick _ trivial, H.sel [] rfl, hx_.symm⟩
 clear E H hL43; intro i_ a w45 hM_
 obtain ⟨rfl, x47, E, H, hx_⟩ := hM_
 subst hx_; have hP := elim_l hK44
 clear hK44
 refine bl_hit ?_
 refine th_n ?_
 refine wp_seq ?_
 refine wp_region_lit ?_
 refine vn tbok 1 [] [(4, .bool true)] [] E (by kernel_rfl) (by kernel_rfl) trivial ?_
 clear E; intro a E
 refine wpList_nil ?_
 refine th_n ?_
 refine wp_ret ?_
 obtain rfl := Option.some.inj hP
 refine ret1 E rfl rfl ?_
 exact ⟨_, rfl, rfl, H.sel [] rfl⟩

end Go.V
