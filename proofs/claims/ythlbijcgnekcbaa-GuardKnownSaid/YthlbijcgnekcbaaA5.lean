/- Plain functions, and the calls that give them. -/
import Derived.Test.YthlbijcgnekcbaaA4
set_option linter.all false
set_option linter.unusedVariables false
set_option linter.unnecessarySimpa false
set_option linter.unusedSimpArgs false
namespace Go.V
open Go Go.Proofs
/-! rejoinder/rejoinderkit.SameNodes -/
def kit_SameNodes_l0 (N : Nat) (aa : List Nd) (b : List Nd) : Nat → Int → Option (Unit ⊕ Bool)
  | 0, _ => none
  | m41 + 1, i25 =>
    if i25 < (((List.length aa) : Nat) : Int) then
      ask (idx i25 (List.length aa)) <|
      ask (idx i25 (List.length b)) <|
      if (List.getD aa (Int.toNat i25) (default : Nd)) = (List.getD b (Int.toNat i25) (default : Nd)) then
        ask (in64 (i25 + 1)) <|
        kit_SameNodes_l0 N aa b m41 (i25 + 1)
      else
        some (Sum.inr false)
    else
      some (Sum.inl ())
def kit_SameNodes (N : Nat) (aa : List Nd) (b : List Nd) : Option Bool :=
  if ((((List.length aa) : Nat) : Int) : Int) = (((List.length b) : Nat) : Int) then
    Option.bind (kit_SameNodes_l0 N aa b N 0) fun x42 =>
    Sum.elim (fun x47 =>
      some true)
     (fun x63 =>
      some x63) x42
  else
    some false
set_option maxRecDepth 100000 in
set_option maxHeartbeats 4000000 in
theorem kit_SameNodes_calls {N : Nat} {S Fa : Nat → Prop} {w0 : World} {r : Bool} (A1 : Option Addr) (c2 : Nat) (A5 : Option Addr) (c6 : Nat) (aa : List Nd) (b : List Nd) (hk3 : List.length aa ≤ c2) (hk7 : List.length b ≤ c6) (H : Hp S Fa w0 w0 [.ro false cNode A1 aa, .ro false cNode A5 b]) (hP : kit_SameNodes N aa b = some r) :
    Calls Try.prog 25 #[.slice A1 (List.length aa) c2, .slice A5 (List.length b) c6] w0 fun e w' => ∃ v, e = .returned v ∧ v = .bool r ∧ Hp S Fa w0 w' [] := by
 refine enterV (n := 26) Try.func25 rfl rfl rfl ?_
 intro a E
 replace E := E.pick [(0, .slice A1 (List.length aa) c2), (1, .slice A5 (List.length b) c6)] ⟨rfl, rfl, trivial⟩
 rw [kit_SameNodes] at hP
 refine wp_seq ?_
 refine wp_region_lit ?_
 refine vr tbok 1 [] [(0, .slice A1 (List.length aa) c2), (1, .slice A5 (List.length b) c6)] [] E (by kernel_rfl) trivial ?_
 clear E; intro a E
 refine wpList_nil ?_
 refine th_n ?_
 refine wp_seq ?_
 refine wp_seq ?_
 refine wp_region_lit ?_
 refine vr tbok 5 [] [(0, .slice A1 (List.length aa) c2), (1, .slice A5 (List.length b) c6), (10, .bool (((((List.length aa) : Nat) : Int) : Int) != (((List.length b) : Nat) : Int)))] [] E (by kernel_rfl) trivial ?_
 clear E; intro a E
 refine wpList_nil ?_
 refine th_n ?_
 refine E.cases (t := 10) rfl (fun hb_ E_ => ?_) (fun hb_ E_ => ?_)
 ·
  replace E := E_; clear E_
  have h9 : ¬ (((((List.length aa) : Nat) : Int) : Int) = (((List.length b) : Nat) : Int)) := bne_iff_ne.1 hb_
  clear hb_; replace hP := ite_f h9 hP
  refine c_true E rfl ?_
  refine wp_seq ?_
  refine wp_region_lit ?_
  refine vr tbok 1 [] [(4, .bool false)] [] E (by kernel_rfl) trivial ?_
  clear E; intro a E
  refine wpList_nil ?_
  refine th_n ?_
  refine wp_ret ?_
  refine th_ret ?_
  obtain rfl := Option.some.inj hP
  refine ret1 E rfl rfl ?_
  exact ⟨_, rfl, rfl, H.sel [] rfl⟩
 ·
  replace E := E_; clear E_
  have h10 : ((((List.length aa) : Nat) : Int) : Int) = (((List.length b) : Nat) : Int) := bne_eq_false_iff_eq.1 hb_
  clear hb_; replace hP := ite_t h10 hP
  refine c_false E rfl ?_
  refine wp_skip ?_
  refine th_n ?_
  refine wp_seq ?_
  refine wp_seq ?_
  refine wp_region_lit ?_
  refine vr tbok 1 [] [(0, .slice A1 (List.length aa) c2), (1, .slice A5 (List.length b) c6), (5, .int .i64 0)] [] E (by kernel_rfl) trivial ?_
  clear E; intro a E
  refine wpList_nil ?_
  refine th_n ?_
  refine wp_block ?_
  obtain ⟨x42, hL43, hK44⟩ := bind_inv hP
  clear hP
  refine loop_cut (fun i_ a w_ => (i_ = 0 ∧ ∃ (x47 : Unit), Fr a 26 [] ∧ Hp S Fa w0 w_ [] ∧ x42 = Sum.inl x47)) ?_ ?_
  ·
   refine loopV (fun m46 a w45 => ∃ (i25 : Int), Fr a 26 [(0, .slice A1 (List.length aa) c2), (1, .slice A5 (List.length b) c6), (5, .int .i64 i25)] ∧ Hp S Fa w0 w45 [.ro false cNode A1 aa, .ro false cNode A5 b] ∧ kit_SameNodes_l0 N aa b m46 i25 = some x42) N ?_ ?_
   ·
    exact ⟨0, E.pick _ ⟨rfl, rfl, rfl, trivial⟩, H.sel [0, 1] rfl, hL43⟩
   ·
    clear E H hL43; intro m46 a w45 hI_
    obtain ⟨i25, E, H, hP⟩ := hI_
    obtain ⟨m41, rfl⟩ : ∃ q_, m46 = q_ + 1 := by cases m46 with | zero => rw [kit_SameNodes_l0] at hP; cases hP | succ q_ => exact ⟨q_, rfl⟩
    rw [kit_SameNodes_l0] at hP
    refine wp_seq ?_
    refine wp_seq ?_
    refine wp_region_lit ?_
    refine vr tbok 4 [] [(0, .slice A1 (List.length aa) c2), (1, .slice A5 (List.length b) c6), (5, .int .i64 i25), (14, .bool (decide (i25 < (((List.length aa) : Nat) : Int))))] [] E (by kernel_rfl) trivial ?_
    clear E; intro a E
    refine wpList_nil ?_
    refine th_n ?_
    refine E.cases (t := 14) rfl (fun hb_ E_ => ?_) (fun hb_ E_ => ?_)
    ·
     replace E := E_; clear E_
     have h48 : i25 < (((List.length aa) : Nat) : Int) := of_decide_eq_true hb_
     clear hb_; replace hP := ite_t h48 hP
     refine c_true E rfl ?_
     refine wp_skip ?_
     refine th_n ?_
     refine wp_seq ?_
     refine wp_block ?_
     refine wp_seq ?_
     obtain ⟨g49, hP⟩ := ask_inv hP
     obtain ⟨b50, o51, e_b50⟩ := (H.rd 0 rds_ro).addr (idx_pos g49)
     subst e_b50
     obtain ⟨g52, hP⟩ := ask_inv hP
     obtain ⟨b53, o54, e_b53⟩ := (H.rd 1 rds_ro).addr (idx_pos g52)
     subst e_b53
     have HR58 := H
     refine dr_start (S := fun w_ => Chg (atL []) w45 w_) (by kernel_rfl) ?_
     intro w55 hc56
     have HS57 : Chg (atL []) w45 w55 := hc56.mono (fun _ _ h_ => h_.elim)
     replace H := H.ext hc56
     refine dr tbok (by kernel_rfl) [0, 1, 2, 3, 4, 5, 6, 7] [.agg #[.int .i64 ((List.getD aa (Int.toNat i25) (default : Nd)).P), .int .i64 ((List.getD aa (Int.toNat i25) (default : Nd)).Lo), .int .i64 ((List.getD aa (Int.toNat i25) (default : Nd)).Hi)], .agg #[.int .i64 ((List.getD b (Int.toNat i25) (default : Nd)).P), .int .i64 ((List.getD b (Int.toNat i25) (default : Nd)).Lo), .int .i64 ((List.getD b (Int.toNat i25) (default : Nd)).Hi)]] [(0, .slice (some ⟨b50, o51, none⟩) (List.length aa) c2), (1, .slice (some ⟨b53, o54, none⟩) (List.length b) c6), (5, .int .i64 i25), (20, .agg #[.int .i64 ((List.getD aa (Int.toNat i25) (default : Nd)).P), .int .i64 ((List.getD aa (Int.toNat i25) (default : Nd)).Lo), .int .i64 ((List.getD aa (Int.toNat i25) (default : Nd)).Hi)]), (24, .agg #[.int .i64 ((List.getD b (Int.toNat i25) (default : Nd)).P), .int .i64 ((List.getD b (Int.toNat i25) (default : Nd)).Lo), .int .i64 ((List.getD b (Int.toNat i25) (default : Nd)).Hi)])] (fun w_ => [0 ≤ i25 ∧ i25 < (((List.length aa) : Nat) : Int), cellsAt w_ b50 (o51 + (Int.toNat i25) * 3) [.int .i64 ((List.getD aa (Int.toNat i25) (default : Nd)).P), .int .i64 ((List.getD aa (Int.toNat i25) (default : Nd)).Lo), .int .i64 ((List.getD aa (Int.toNat i25) (default : Nd)).Hi)], 0 ≤ i25 ∧ i25 < (((List.length b) : Nat) : Int), cellsAt w_ b53 (o54 + (Int.toNat i25) * 3) [.int .i64 ((List.getD b (Int.toNat i25) (default : Nd)).P), .int .i64 ((List.getD b (Int.toNat i25) (default : Nd)).Lo), .int .i64 ((List.getD b (Int.toNat i25) (default : Nd)).Hi)]]) 1 E (fun _ _ => by kernel_rfl) (fun w_ hS_ => ⟨g49, Rds.atP (HR58.rdk [] hS_ 0 rds_ro rfl) (default : Nd) g49, g52, Rds.atP (HR58.rdk [] hS_ 1 rds_ro rfl) (default : Nd) g52⟩) (by kernel_rfl) HS57 ?_
     clear E; intro a E
     refine wpAnyH_all (rs := [8]) (by kernel_rfl) (by simp) ?_
     refine all1 ?_
     ·
      refine wpOp_of_list rfl ?_
      refine e_eqS E rfl rfl rfl rfl grdNd (eqNd (List.getD aa (Int.toNat i25) (default : Nd)) (List.getD b (Int.toNat i25) (default : Nd)) _) (!decide ((List.getD aa (Int.toNat i25) (default : Nd)) = (List.getD b (Int.toNat i25) (default : Nd)))) (.inr ⟨rfl, rfl⟩) rfl ?_
      clear E; intro a E
      refine wpList_nil ?_
      refine th_n ⟨HS57, ?_⟩
      refine dr_done (by kernel_rfl) ?_
      clear HS57 HR58
      refine th_n ?_
      refine E.cases (t := 25) rfl (fun hb_ E_ => ?_) (fun hb_ E_ => ?_)
      ·
       replace E := E_; clear E_
       have h59 : ¬ ((List.getD aa (Int.toNat i25) (default : Nd)) = (List.getD b (Int.toNat i25) (default : Nd))) := of_decide_eq_false (not_t hb_)
       clear hb_; replace hP := ite_f h59 hP
       refine c_true E rfl ?_
       refine wp_seq ?_
       refine wp_region_lit ?_
       refine vr tbok 1 [] [(4, .bool false)] [] E (by kernel_rfl) trivial ?_
       clear E; intro a E
       refine wpList_nil ?_
       refine th_n ?_
       refine wp_ret ?_
       refine bl_ret ?_
       refine th_ret ?_
       refine th_ret ?_
       refine .inr ⟨rfl, ?_⟩
       refine bl_ret ?_
       refine th_ret ?_
       have hx_ := Option.some.inj hP; subst hx_
       have hP : some (false) = some r := hK44
       obtain rfl := Option.some.inj hP
       refine ret1 E rfl rfl ?_
       exact ⟨_, rfl, rfl, H.sel [] rfl⟩
      ·
       replace E := E_; clear E_
       have h60 : (List.getD aa (Int.toNat i25) (default : Nd)) = (List.getD b (Int.toNat i25) (default : Nd)) := of_decide_eq_true (not_f hb_)
       clear hb_; replace hP := ite_t h60 hP
       refine c_false E rfl ?_
       refine wp_skip ?_
       refine bl_n ?_
       refine th_n ?_
       refine wp_region_lit ?_
       obtain ⟨g61, hP⟩ := ask_inv hP
       refine vr tbok 3 [.int .i64 (i25 + 1)] [(0, .slice (some ⟨b50, o51, none⟩) (List.length aa) c2), (1, .slice (some ⟨b53, o54, none⟩) (List.length b) c6), (5, .int .i64 (i25 + 1))] [IntKind.i64.wrap (i25 + 1) = i25 + 1] E (by kernel_rfl) (wrap_in g61) ?_
       clear E; intro a E
       refine wpList_nil ?_
       exact th_n ⟨m41, Nat.lt_succ_self _, i25 + 1, E.pick _ ⟨rfl, rfl, rfl, trivial⟩, H.sel [0, 1] rfl, hP⟩
    ·
     replace E := E_; clear E_
     have h62 : ¬ (i25 < (((List.length aa) : Nat) : Int)) := of_decide_eq_false hb_
     clear hb_; replace hP := ite_f h62 hP
     refine c_false E rfl ?_
     refine wp_exit ?_
     refine th_exit ?_
     have hx_ := Option.some.inj hP
     refine th_exit (.inl ⟨0, rfl, ?_⟩)
     exact ⟨rfl, (), E.pick _ trivial, H.sel [] rfl, hx_.symm⟩
  ·
   clear E H hL43; intro i_ a w45 hM_
   obtain ⟨rfl, x47, E, H, hx_⟩ := hM_
   subst hx_; have hP := elim_l hK44
   clear hK44
   refine bl_hit ?_
   refine th_n ?_
   refine wp_seq ?_
   refine wp_region_lit ?_
   refine vr tbok 1 [] [(4, .bool true)] [] E (by kernel_rfl) trivial ?_
   clear E; intro a E
   refine wpList_nil ?_
   refine th_n ?_
   refine wp_ret ?_
   obtain rfl := Option.some.inj hP
   refine ret1 E rfl rfl ?_
   exact ⟨_, rfl, rfl, H.sel [] rfl⟩

/-! rejoinder/rejoinderlaw14.GuardKnown -/
def law14_GuardKnown (N : Nat) : Option Bool :=
  Option.bind (guard_New N 2) fun r1 =>
  Sum.elim (fun x18 =>
    some false)
   (fun x19 =>
    if (x19 : Int) = 0 then
      Option.bind (guard_Store_Add N 2 [] ([] : List (Nd × Int)) ([5, 5, 5, 5] : List Int)) fun r30 =>
      Option.bind (guard_Store_Len N 2 r30.2.2.1 r30.2.2.2) fun r49 =>
      Option.bind (guard_Store_Add N 2 r30.2.2.1 r30.2.2.2 ([0, 1, 0, 1] : List Int)) fun r71 =>
      Option.bind (guard_Store_Add N 2 r71.2.2.1 r71.2.2.2 ([0, 0, 1, 1] : List Int)) fun r95 =>
      Option.bind (guard_Store_Add N 2 r95.2.2.1 r95.2.2.2 ([0, 1, 1, 0] : List Int)) fun r119 =>
      Option.bind (guard_Store_Nodes N 2 r119.2.2.1 r119.2.2.2) fun r138 =>
      Option.bind (guard_Store_Add N 2 r119.2.2.1 r119.2.2.2 ([0, 0, 0] : List Int)) fun r163 =>
      Option.bind (guard_Store_Add N 2 r163.2.2.1 r163.2.2.2 ([0, 0, 0, -1] : List Int)) fun r187 =>
      Option.bind (guard_New N 9) fun r206 =>
      Sum.elim (fun x223 =>
        if (r30.2.1 : Int) = 0 then
          if (r71.2.1 : Int) = 0 then
            if (r95.2.1 : Int) = 0 then
              if (r119.2.1 : Int) = 0 then
                if (r30.1 : Int) = -6 then
                  if (r49 : Int) = 0 then
                    if (r71.1 : Int) = 0 then
                      if (r95.1 : Int) = 1 then
                        if (r119.1 : Int) = 3 then
                          Option.bind (kit_SameNodes N r138 ([(⟨0, -1, -2⟩ : Nd), (⟨1, -1, -2⟩ : Nd), (⟨1, -2, -1⟩ : Nd), (⟨0, 1, 2⟩ : Nd)] : List Nd)) fun r248 =>
                          if r248 = true then
                            Option.bind (guard_Go N r138 3 3) fun r259 =>
                            Option.bind (guard_Go N r138 3 1) fun r268 =>
                            Option.bind (guard_Go N r138 9 0) fun r277 =>
                            Option.bind (guard_Table N 2 r138 1) fun r286 =>
                            Option.bind (guard_Table N 9 r138 1) fun r298 =>
                            Option.bind (guard_Check N 0 ([true] : List Bool) ([-1] : List Int) []) fun r321 =>
                            Option.bind (guard_Check N 0 ([true] : List Bool) ([0] : List Int) []) fun r341 =>
                            if (r259.1 : Int) = 0 then
                              if r259.2 = true then
                                if (r268.1 : Int) = 1 then
                                  if r268.2 = true then
                                    if r277.2 = true then
                                      some false
                                    else
                                      if (r286.2 : Int) = 0 then
                                        Option.bind (kit_SameInts N r286.1 ([0, 0, 1, 1] : List Int)) fun r361 =>
                                        if r361 = true then
                                          if (r298.2 : Int) = 2 then
                                            if (r163.2.1 : Int) = 2 then
                                              if (r187.2.1 : Int) = 2 then
                                                if (x223 : Int) = 2 then
                                                  if (r321 : Int) = 0 then
                                                    some ((r341 : Int) == 12)
                                                  else
                                                    some false
                                                else
                                                  some false
                                              else
                                                some false
                                            else
                                              some false
                                          else
                                            some false
                                        else
                                          some false
                                      else
                                        some false
                                  else
                                    some false
                                else
                                  some false
                              else
                                some false
                            else
                              some false
                          else
                            some false
                        else
                          some false
                      else
                        some false
                    else
                      some false
                  else
                    some false
                else
                  some false
              else
                some false
            else
              some false
          else
            some false
        else
          some false)
       (fun x224 =>
        if (r30.2.1 : Int) = 0 then
          if (r71.2.1 : Int) = 0 then
            if (r95.2.1 : Int) = 0 then
              if (r119.2.1 : Int) = 0 then
                if (r30.1 : Int) = -6 then
                  if (r49 : Int) = 0 then
                    if (r71.1 : Int) = 0 then
                      if (r95.1 : Int) = 1 then
                        if (r119.1 : Int) = 3 then
                          Option.bind (kit_SameNodes N r138 ([(⟨0, -1, -2⟩ : Nd), (⟨1, -1, -2⟩ : Nd), (⟨1, -2, -1⟩ : Nd), (⟨0, 1, 2⟩ : Nd)] : List Nd)) fun r413 =>
                          if r413 = true then
                            Option.bind (guard_Go N r138 3 3) fun r424 =>
                            Option.bind (guard_Go N r138 3 1) fun r433 =>
                            Option.bind (guard_Go N r138 9 0) fun r442 =>
                            Option.bind (guard_Table N 2 r138 1) fun r451 =>
                            Option.bind (guard_Table N 9 r138 1) fun r463 =>
                            Option.bind (guard_Check N 0 ([true] : List Bool) ([-1] : List Int) []) fun r486 =>
                            Option.bind (guard_Check N 0 ([true] : List Bool) ([0] : List Int) []) fun r506 =>
                            if (r424.1 : Int) = 0 then
                              if r424.2 = true then
                                if (r433.1 : Int) = 1 then
                                  if r433.2 = true then
                                    if r442.2 = true then
                                      some false
                                    else
                                      if (r451.2 : Int) = 0 then
                                        Option.bind (kit_SameInts N r451.1 ([0, 0, 1, 1] : List Int)) fun r526 =>
                                        if r526 = true then
                                          if (r463.2 : Int) = 2 then
                                            if (r163.2.1 : Int) = 2 then
                                              if (r187.2.1 : Int) = 2 then
                                                if (x224 : Int) = 2 then
                                                  if (r486 : Int) = 0 then
                                                    some ((r506 : Int) == 12)
                                                  else
                                                    some false
                                                else
                                                  some false
                                              else
                                                some false
                                            else
                                              some false
                                          else
                                            some false
                                        else
                                          some false
                                      else
                                        some false
                                  else
                                    some false
                                else
                                  some false
                              else
                                some false
                            else
                              some false
                          else
                            some false
                        else
                          some false
                      else
                        some false
                    else
                      some false
                  else
                    some false
                else
                  some false
              else
                some false
            else
              some false
          else
            some false
        else
          some false) r206
    else
      some false) r1
set_option maxRecDepth 100000 in
set_option maxHeartbeats 4000000 in
theorem law14_GuardKnown_calls {N : Nat} {S Fa : Nat → Prop} {w0 : World} {r : Bool} (H : Hp S Fa w0 w0 []) (hP : law14_GuardKnown N  = some r) :
    Calls Try.prog 7 #[] w0 fun e w' => ∃ v, e = .returned v ∧ v = .bool r ∧ Hp S Fa w0 w' [] := by
 refine enterV (n := 211) Try.func7 rfl rfl rfl ?_
 intro a E
 replace E := E.pick [] trivial
 rw [law14_GuardKnown] at hP
 refine wp_seq ?_
 refine wp_region_lit ?_
 refine vr tbok 1 [] [] [] E (by kernel_rfl) trivial ?_
 clear E; intro a E
 refine wpList_nil ?_
 refine th_n ?_
 refine wp_seq ?_
 refine wp_region_lit ?_
 obtain ⟨r1, h2, hP⟩ := bind_inv hP
 obtain ⟨Fa3, Hc4, hb5⟩ := H.call [] [] rfl rfl trivial
 refine e_call E rfl rfl Try.func20 rfl rfl rfl (guard_New_calls  2  Hc4 h2) ?_
 intro v11 w10 a hR12 E_
 rcases hR12 with ⟨x_, hr_, rfl, HR14⟩ | ⟨x_, g15, g16, hr_, rfl, HR17⟩
 ·
  subst hr_; have hP := elim_l hP
  obtain ⟨x18, hxx_⟩ : ∃ y_, y_ = x_ := ⟨_, rfl⟩; subst hxx_
  replace E := E_ _ rfl; clear E_
  obtain ⟨H_, hc13⟩ := hb5 _ _ HR14 rfl
  replace H := H_; clear H_; try dsimp only [setn, addE, goneL] at H
  refine vr tbok 5 [] [(1, .pointer none), (2, .int .i64 x18)] [] E (by kernel_rfl) trivial ?_
  clear E; intro a E
  refine wpList_nil ?_
  refine th_n ?_
  refine wp_seq ?_
  refine wp_seq ?_
  refine wp_region_lit ?_
  refine vr tbok 6 [] [(1, .pointer none), (40, .bool true)] [] E (by kernel_rfl) trivial ?_
  clear E; intro a E
  refine wpList_nil ?_
  refine th_n ?_
  refine c_true E rfl ?_
  refine wp_seq ?_
  refine wp_region_lit ?_
  refine vr tbok 1 [] [(0, .bool false)] [] E (by kernel_rfl) trivial ?_
  clear E; intro a E
  refine wpList_nil ?_
  refine th_n ?_
  refine wp_ret ?_
  refine th_ret ?_
  obtain rfl := Option.some.inj hP
  refine ret1 E rfl rfl ?_
  exact ⟨_, rfl, rfl, H.sel [] rfl⟩
 ·
  subst hr_; have hP := (elim_r hP)
  obtain ⟨x19, hxx_⟩ : ∃ y_, y_ = x_ := ⟨_, rfl⟩; subst hxx_
  replace E := E_ _ rfl; clear E_
  obtain ⟨H_, hc13⟩ := hb5 _ _ HR17 rfl
  replace H := H_; clear H_; try dsimp only [setn, addE, goneL] at H
  refine vr tbok 5 [] [(1, .pointer (some ⟨g15, 0, none⟩)), (2, .int .i64 x19)] [] E (by kernel_rfl) trivial ?_
  clear E; intro a E
  refine wpList_nil ?_
  refine th_n ?_
  refine wp_seq ?_
  refine wp_seq ?_
  refine wp_region_lit ?_
  refine vr tbok 6 [] [(1, .pointer (some ⟨g15, 0, none⟩)), (40, .bool ((x19 : Int) != 0))] [] E (by kernel_rfl) trivial ?_
  clear E; intro a E
  refine wpList_nil ?_
  refine th_n ?_
  refine E.cases (t := 40) rfl (fun hb_ E_ => ?_) (fun hb_ E_ => ?_)
  ·
   replace E := E_; clear E_
   have h22 : ¬ ((x19 : Int) = 0) := bne_iff_ne.1 hb_
   clear hb_; replace hP := ite_f h22 hP
   refine c_true E rfl ?_
   refine wp_seq ?_
   refine wp_region_lit ?_
   refine vr tbok 1 [] [(0, .bool false)] [] E (by kernel_rfl) trivial ?_
   clear E; intro a E
   refine wpList_nil ?_
   refine th_n ?_
   refine wp_ret ?_
   refine th_ret ?_
   obtain rfl := Option.some.inj hP
   refine ret1 E rfl rfl ?_
   exact ⟨_, rfl, rfl, H.sel [] rfl⟩
  ·
   replace E := E_; clear E_
   have h23 : (x19 : Int) = 0 := bne_eq_false_iff_eq.1 hb_
   clear hb_; replace hP := ite_t h23 hP
   refine c_false E rfl ?_
   refine wp_skip ?_
   refine th_n ?_
   refine wp_seq ?_
   refine wp_region_lit ?_
   refine vr tbok 1 [] [(1, .pointer (some ⟨g15, 0, none⟩)), (42, .pointer (some ⟨g15, 0, none⟩))] [] E (by kernel_rfl) trivial ?_
   clear E; intro a E
   refine h_buildSlice (ps := [(0, .int .i64 5), (1, .int .i64 5), (2, .int .i64 5), (3, .int .i64 5)]) (cs := [.int .i64 5, .int .i64 5, .int .i64 5, .int .i64 5]) H E rfl rfl tbok rfl rfl (by kernel_rfl) ?_
   intro w25 g24 a hc26 hg28 H_ E_
   replace E := E_ _ rfl; clear E_
   replace H := H_; clear H_; try dsimp only [setn, addE, goneL] at H
   replace H := H.nilrow cNode 64; try dsimp only [setn, addE, goneL] at H
   replace H := H.boxRow (cInt .i64) true ([5, 5, 5, 5] : List Int) 2 rfl (fun _ _ => ⟨_, _, rfl, rfl, ⟨_, _, rfl, rfl, ⟨_, _, rfl, rfl, ⟨_, _, rfl, rfl, rfl⟩⟩⟩⟩) (Nat.le_of_ble_eq_true rfl); try dsimp only [setn, addE, goneL] at H
   obtain ⟨r30, h31, hP⟩ := bind_inv hP
   obtain ⟨Fa32, Hc33, hb34⟩ := H.call [0, 3, 1] [(2, false)] rfl rfl ⟨flat_plain, trivial⟩
   refine e_call E rfl rfl Try.func17 rfl rfl rfl (guard_Store_Add_calls g15 none 0 g16 (some ⟨g24, 0, none⟩) 4 2 [] ([] : List (Nd × Int)) ([5, 5, 5, 5] : List Int) (H.rcapx 2 rfl) Hc33 h31) ?_
   intro v40 w39 a hR41 E_
   obtain ⟨x_, A44, c45, hr_, rfl, HR43⟩ := hR41
   subst hr_
   replace E := E_ _ rfl; clear E_
   obtain ⟨H_, hc42⟩ := hb34 _ _ HR43 rfl
   replace H := H_; clear H_; try dsimp only [setn, addE, goneL] at H
   refine vr tbok 5 [] [(1, .pointer (some ⟨g15, 0, none⟩)), (3, .int .i64 r30.1), (4, .int .i64 r30.2.1)] [] E (by kernel_rfl) trivial ?_
   clear E; intro a E
   refine wpList_nil ?_
   refine th_n ?_
   refine wp_seq ?_
   refine wp_region_lit ?_
   refine vr tbok 1 [] [(1, .pointer (some ⟨g15, 0, none⟩)), (3, .int .i64 r30.1), (4, .int .i64 r30.2.1), (47, .pointer (some ⟨g15, 0, none⟩))] [] E (by kernel_rfl) trivial ?_
   clear E; intro a E
   obtain ⟨r49, h50, hP⟩ := bind_inv hP
   obtain ⟨Fa51, Hc52, hb53⟩ := H.call [4, 5, 6] [] rfl rfl ⟨flat_plain, trivial⟩
   refine e_call E rfl rfl Try.func19 rfl rfl rfl (guard_Store_Len_calls g15 A44 c45 g16 2 r30.2.2.1 r30.2.2.2  Hc52 h50) ?_
   intro v59 w58 a hR60 E_
   obtain ⟨x_, hr_, rfl, HR62⟩ := hR60
   subst hr_
   replace E := E_ _ rfl; clear E_
   obtain ⟨H_, hc61⟩ := hb53 _ _ HR62 rfl
   replace H := H_; clear H_; try dsimp only [setn, addE, goneL] at H
   refine vr tbok 1 [] [(1, .pointer (some ⟨g15, 0, none⟩)), (3, .int .i64 r30.1), (4, .int .i64 r30.2.1), (5, .int .i64 r49)] [] E (by kernel_rfl) trivial ?_
   clear E; intro a E
   refine wpList_nil ?_
   refine th_n ?_
   refine wp_seq ?_
   refine wp_region_lit ?_
   refine vr tbok 1 [] [(1, .pointer (some ⟨g15, 0, none⟩)), (3, .int .i64 r30.1), (4, .int .i64 r30.2.1), (5, .int .i64 r49), (50, .pointer (some ⟨g15, 0, none⟩))] [] E (by kernel_rfl) trivial ?_
   clear E; intro a E
   refine h_buildSlice (ps := [(0, .int .i64 0), (1, .int .i64 1), (2, .int .i64 0), (3, .int .i64 1)]) (cs := [.int .i64 0, .int .i64 1, .int .i64 0, .int .i64 1]) H E rfl rfl tbok rfl rfl (by kernel_rfl) ?_
   intro w67 g66 a hc68 hg70 H_ E_
   replace E := E_ _ rfl; clear E_
   replace H := H_; clear H_; try dsimp only [setn, addE, goneL] at H
   replace H := H.boxRow (cInt .i64) true ([0, 1, 0, 1] : List Int) 10 rfl (fun _ _ => ⟨_, _, rfl, rfl, ⟨_, _, rfl, rfl, ⟨_, _, rfl, rfl, ⟨_, _, rfl, rfl, rfl⟩⟩⟩⟩) (Nat.le_of_ble_eq_true rfl); try dsimp only [setn, addE, goneL] at H
   obtain ⟨r71, h72, hP⟩ := bind_inv hP
   obtain ⟨Fa73, Hc74, hb75⟩ := H.call [9, 7, 8] [(10, false)] rfl rfl ⟨flat_plain, trivial⟩
   refine e_call E rfl rfl Try.func17 rfl rfl rfl (guard_Store_Add_calls g15 A44 c45 g16 (some ⟨g66, 0, none⟩) 4 2 r30.2.2.1 r30.2.2.2 ([0, 1, 0, 1] : List Int) (H.rcapx 10 rfl) Hc74 h72) ?_
   intro v81 w80 a hR82 E_
   obtain ⟨x_, A85, c86, hr_, rfl, HR84⟩ := hR82
   subst hr_
   replace E := E_ _ rfl; clear E_
   obtain ⟨H_, hc83⟩ := hb75 _ _ HR84 rfl
   replace H := H_; clear H_; try dsimp only [setn, addE, goneL] at H
   refine vr tbok 5 [] [(1, .pointer (some ⟨g15, 0, none⟩)), (3, .int .i64 r30.1), (4, .int .i64 r30.2.1), (5, .int .i64 r49), (6, .int .i64 r71.1), (7, .int .i64 r71.2.1)] [] E (by kernel_rfl) trivial ?_
   clear E; intro a E
   refine wpList_nil ?_
   refine th_n ?_
   refine wp_seq ?_
   refine wp_region_lit ?_
   refine vr tbok 1 [] [(1, .pointer (some ⟨g15, 0, none⟩)), (3, .int .i64 r30.1), (4, .int .i64 r30.2.1), (5, .int .i64 r49), (6, .int .i64 r71.1), (7, .int .i64 r71.2.1), (56, .pointer (some ⟨g15, 0, none⟩))] [] E (by kernel_rfl) trivial ?_
   clear E; intro a E
   refine h_buildSlice (ps := [(0, .int .i64 0), (1, .int .i64 0), (2, .int .i64 1), (3, .int .i64 1)]) (cs := [.int .i64 0, .int .i64 0, .int .i64 1, .int .i64 1]) H E rfl rfl tbok rfl rfl (by kernel_rfl) ?_
   intro w91 g90 a hc92 hg94 H_ E_
   replace E := E_ _ rfl; clear E_
   replace H := H_; clear H_; try dsimp only [setn, addE, goneL] at H
   replace H := H.boxRow (cInt .i64) true ([0, 0, 1, 1] : List Int) 14 rfl (fun _ _ => ⟨_, _, rfl, rfl, ⟨_, _, rfl, rfl, ⟨_, _, rfl, rfl, ⟨_, _, rfl, rfl, rfl⟩⟩⟩⟩) (Nat.le_of_ble_eq_true rfl); try dsimp only [setn, addE, goneL] at H
   obtain ⟨r95, h96, hP⟩ := bind_inv hP
   obtain ⟨Fa97, Hc98, hb99⟩ := H.call [11, 12, 13] [(14, false)] rfl rfl ⟨flat_plain, trivial⟩
   refine e_call E rfl rfl Try.func17 rfl rfl rfl (guard_Store_Add_calls g15 A85 c86 g16 (some ⟨g90, 0, none⟩) 4 2 r71.2.2.1 r71.2.2.2 ([0, 0, 1, 1] : List Int) (H.rcapx 14 rfl) Hc98 h96) ?_
   intro v105 w104 a hR106 E_
   obtain ⟨x_, A109, c110, hr_, rfl, HR108⟩ := hR106
   subst hr_
   replace E := E_ _ rfl; clear E_
   obtain ⟨H_, hc107⟩ := hb99 _ _ HR108 rfl
   replace H := H_; clear H_; try dsimp only [setn, addE, goneL] at H
   refine vr tbok 5 [] [(1, .pointer (some ⟨g15, 0, none⟩)), (3, .int .i64 r30.1), (4, .int .i64 r30.2.1), (5, .int .i64 r49), (6, .int .i64 r71.1), (7, .int .i64 r71.2.1), (8, .int .i64 r95.1), (9, .int .i64 r95.2.1)] [] E (by kernel_rfl) trivial ?_
   clear E; intro a E
   refine wpList_nil ?_
   refine th_n ?_
   refine wp_seq ?_
   refine wp_region_lit ?_
   refine vr tbok 1 [] [(1, .pointer (some ⟨g15, 0, none⟩)), (3, .int .i64 r30.1), (4, .int .i64 r30.2.1), (5, .int .i64 r49), (6, .int .i64 r71.1), (7, .int .i64 r71.2.1), (8, .int .i64 r95.1), (9, .int .i64 r95.2.1), (62, .pointer (some ⟨g15, 0, none⟩))] [] E (by kernel_rfl) trivial ?_
   clear E; intro a E
   refine h_buildSlice (ps := [(0, .int .i64 0), (1, .int .i64 1), (2, .int .i64 1), (3, .int .i64 0)]) (cs := [.int .i64 0, .int .i64 1, .int .i64 1, .int .i64 0]) H E rfl rfl tbok rfl rfl (by kernel_rfl) ?_
   intro w115 g114 a hc116 hg118 H_ E_
   replace E := E_ _ rfl; clear E_
   replace H := H_; clear H_; try dsimp only [setn, addE, goneL] at H
   replace H := H.boxRow (cInt .i64) true ([0, 1, 1, 0] : List Int) 18 rfl (fun _ _ => ⟨_, _, rfl, rfl, ⟨_, _, rfl, rfl, ⟨_, _, rfl, rfl, ⟨_, _, rfl, rfl, rfl⟩⟩⟩⟩) (Nat.le_of_ble_eq_true rfl); try dsimp only [setn, addE, goneL] at H
   obtain ⟨r119, h120, hP⟩ := bind_inv hP
   obtain ⟨Fa121, Hc122, hb123⟩ := H.call [15, 16, 17] [(18, false)] rfl rfl ⟨flat_plain, trivial⟩
   refine e_call E rfl rfl Try.func17 rfl rfl rfl (guard_Store_Add_calls g15 A109 c110 g16 (some ⟨g114, 0, none⟩) 4 2 r95.2.2.1 r95.2.2.2 ([0, 1, 1, 0] : List Int) (H.rcapx 18 rfl) Hc122 h120) ?_
   intro v129 w128 a hR130 E_
   obtain ⟨x_, A133, c134, hr_, rfl, HR132⟩ := hR130
   subst hr_
   replace E := E_ _ rfl; clear E_
   obtain ⟨H_, hc131⟩ := hb123 _ _ HR132 rfl
   replace H := H_; clear H_; try dsimp only [setn, addE, goneL] at H
   refine vr tbok 5 [] [(1, .pointer (some ⟨g15, 0, none⟩)), (3, .int .i64 r30.1), (4, .int .i64 r30.2.1), (5, .int .i64 r49), (6, .int .i64 r71.1), (7, .int .i64 r71.2.1), (8, .int .i64 r95.1), (9, .int .i64 r95.2.1), (10, .int .i64 r119.1), (11, .int .i64 r119.2.1)] [] E (by kernel_rfl) trivial ?_
   clear E; intro a E
   refine wpList_nil ?_
   refine th_n ?_
   refine wp_seq ?_
   refine wp_region_lit ?_
   refine vr tbok 1 [] [(1, .pointer (some ⟨g15, 0, none⟩)), (3, .int .i64 r30.1), (4, .int .i64 r30.2.1), (5, .int .i64 r49), (6, .int .i64 r71.1), (7, .int .i64 r71.2.1), (8, .int .i64 r95.1), (9, .int .i64 r95.2.1), (10, .int .i64 r119.1), (11, .int .i64 r119.2.1), (67, .pointer (some ⟨g15, 0, none⟩))] [] E (by kernel_rfl) trivial ?_
   clear E; intro a E
   obtain ⟨r138, h139, hP⟩ := bind_inv hP
   obtain ⟨Fa140, Hc141, hb142⟩ := H.call [19, 20, 21] [] rfl rfl ⟨flat_plain, trivial⟩
   refine e_call E rfl rfl Try.func18 rfl rfl rfl (guard_Store_Nodes_calls g15 A133 c134 g16 2 r119.2.2.1 r119.2.2.2  Hc141 h139) ?_
   intro v148 w147 a hR149 E_
   obtain ⟨x_, A152, c153, hr_, rfl, HR151⟩ := hR149
   subst hr_
   replace E := E_ _ rfl; clear E_
   obtain ⟨H_, hc150⟩ := hb142 _ _ HR151 rfl
   replace H := H_; clear H_; try dsimp only [setn, addE, goneL] at H
   refine vr tbok 1 [] [(1, .pointer (some ⟨g15, 0, none⟩)), (3, .int .i64 r30.1), (4, .int .i64 r30.2.1), (5, .int .i64 r49), (6, .int .i64 r71.1), (7, .int .i64 r71.2.1), (8, .int .i64 r95.1), (9, .int .i64 r95.2.1), (10, .int .i64 r119.1), (11, .int .i64 r119.2.1), (12, .slice A152 (List.length r138) c153)] [] E (by kernel_rfl) trivial ?_
   clear E; intro a E
   refine wpList_nil ?_
   refine th_n ?_
   refine wp_seq ?_
   refine wp_region_lit ?_
   refine vr tbok 1 [] [(1, .pointer (some ⟨g15, 0, none⟩)), (3, .int .i64 r30.1), (4, .int .i64 r30.2.1), (5, .int .i64 r49), (6, .int .i64 r71.1), (7, .int .i64 r71.2.1), (8, .int .i64 r95.1), (9, .int .i64 r95.2.1), (10, .int .i64 r119.1), (11, .int .i64 r119.2.1), (12, .slice A152 (List.length r138) c153), (70, .pointer (some ⟨g15, 0, none⟩))] [] E (by kernel_rfl) trivial ?_
   clear E; intro a E
   refine h_buildSlice (ps := [(0, .int .i64 0), (1, .int .i64 0), (2, .int .i64 0)]) (cs := [.int .i64 0, .int .i64 0, .int .i64 0]) H E rfl rfl tbok rfl rfl (by kernel_rfl) ?_
   intro w159 g158 a hc160 hg162 H_ E_
   replace E := E_ _ rfl; clear E_
   replace H := H_; clear H_; try dsimp only [setn, addE, goneL] at H
   replace H := H.boxRow (cInt .i64) true ([0, 0, 0] : List Int) 26 rfl (fun _ _ => ⟨_, _, rfl, rfl, ⟨_, _, rfl, rfl, ⟨_, _, rfl, rfl, rfl⟩⟩⟩) (Nat.le_of_ble_eq_true rfl); try dsimp only [setn, addE, goneL] at H
   obtain ⟨r163, h164, hP⟩ := bind_inv hP
   obtain ⟨Fa165, Hc166, hb167⟩ := H.call [25, 23, 24] [(26, false)] rfl rfl ⟨flat_plain, trivial⟩
   refine e_call E rfl rfl Try.func17 rfl rfl rfl (guard_Store_Add_calls g15 A133 c134 g16 (some ⟨g158, 0, none⟩) 3 2 r119.2.2.1 r119.2.2.2 ([0, 0, 0] : List Int) (H.rcapx 26 rfl) Hc166 h164) ?_
   intro v173 w172 a hR174 E_
   obtain ⟨x_, A177, c178, hr_, rfl, HR176⟩ := hR174
   subst hr_
   replace E := E_ _ rfl; clear E_
   obtain ⟨H_, hc175⟩ := hb167 _ _ HR176 rfl
   replace H := H_; clear H_; try dsimp only [setn, addE, goneL] at H
   refine vr tbok 5 [] [(1, .pointer (some ⟨g15, 0, none⟩)), (3, .int .i64 r30.1), (4, .int .i64 r30.2.1), (5, .int .i64 r49), (6, .int .i64 r71.1), (7, .int .i64 r71.2.1), (8, .int .i64 r95.1), (9, .int .i64 r95.2.1), (10, .int .i64 r119.1), (11, .int .i64 r119.2.1), (12, .slice A152 (List.length r138) c153), (14, .int .i64 r163.2.1)] [] E (by kernel_rfl) trivial ?_
   clear E; intro a E
   refine wpList_nil ?_
   refine th_n ?_
   refine wp_seq ?_
   refine wp_region_lit ?_
   refine vr tbok 1 [] [(3, .int .i64 r30.1), (4, .int .i64 r30.2.1), (5, .int .i64 r49), (6, .int .i64 r71.1), (7, .int .i64 r71.2.1), (8, .int .i64 r95.1), (9, .int .i64 r95.2.1), (10, .int .i64 r119.1), (11, .int .i64 r119.2.1), (12, .slice A152 (List.length r138) c153), (14, .int .i64 r163.2.1), (76, .pointer (some ⟨g15, 0, none⟩))] [] E (by kernel_rfl) trivial ?_
   clear E; intro a E
   refine h_buildSlice (ps := [(0, .int .i64 0), (1, .int .i64 0), (2, .int .i64 0), (3, .int .i64 (-1))]) (cs := [.int .i64 0, .int .i64 0, .int .i64 0, .int .i64 (-1)]) H E rfl rfl tbok rfl rfl (by kernel_rfl) ?_
   intro w183 g182 a hc184 hg186 H_ E_
   replace E := E_ _ rfl; clear E_
   replace H := H_; clear H_; try dsimp only [setn, addE, goneL] at H
   replace H := H.boxRow (cInt .i64) true ([0, 0, 0, -1] : List Int) 30 rfl (fun _ _ => ⟨_, _, rfl, rfl, ⟨_, _, rfl, rfl, ⟨_, _, rfl, rfl, ⟨_, _, rfl, rfl, rfl⟩⟩⟩⟩) (Nat.le_of_ble_eq_true rfl); try dsimp only [setn, addE, goneL] at H
   obtain ⟨r187, h188, hP⟩ := bind_inv hP
   obtain ⟨Fa189, Hc190, hb191⟩ := H.call [27, 28, 29] [(30, false)] rfl rfl ⟨flat_plain, trivial⟩
   refine e_call E rfl rfl Try.func17 rfl rfl rfl (guard_Store_Add_calls g15 A177 c178 g16 (some ⟨g182, 0, none⟩) 4 2 r163.2.2.1 r163.2.2.2 ([0, 0, 0, -1] : List Int) (H.rcapx 30 rfl) Hc190 h188) ?_
   intro v197 w196 a hR198 E_
   obtain ⟨x_, A201, c202, hr_, rfl, HR200⟩ := hR198
   subst hr_
   replace E := E_ _ rfl; clear E_
   obtain ⟨H_, hc199⟩ := hb191 _ _ HR200 rfl
   replace H := H_; clear H_; try dsimp only [setn, addE, goneL] at H
   refine vr tbok 5 [] [(3, .int .i64 r30.1), (4, .int .i64 r30.2.1), (5, .int .i64 r49), (6, .int .i64 r71.1), (7, .int .i64 r71.2.1), (8, .int .i64 r95.1), (9, .int .i64 r95.2.1), (10, .int .i64 r119.1), (11, .int .i64 r119.2.1), (12, .slice A152 (List.length r138) c153), (14, .int .i64 r163.2.1), (16, .int .i64 r187.2.1)] [] E (by kernel_rfl) trivial ?_
   clear E; intro a E
   refine wpList_nil ?_
   refine th_n ?_
   refine wp_seq ?_
   refine wp_region_lit ?_
   obtain ⟨r206, h207, hP⟩ := bind_inv hP
   obtain ⟨Fa208, Hc209, hb210⟩ := H.call [] [] rfl rfl trivial
   refine e_call E rfl rfl Try.func20 rfl rfl rfl (guard_New_calls  9  Hc209 h207) ?_
   intro v216 w215 a hR217 E_
   rcases hR217 with ⟨x_, hr_, rfl, HR219⟩ | ⟨x_, g220, g221, hr_, rfl, HR222⟩
   ·
    subst hr_; have hP := elim_l hP
    obtain ⟨x223, hxx_⟩ : ∃ y_, y_ = x_ := ⟨_, rfl⟩; subst hxx_
    replace E := E_ _ rfl; clear E_
    obtain ⟨H_, hc218⟩ := hb210 _ _ HR219 rfl
    replace H := H_; clear H_; try dsimp only [setn, addE, goneL] at H
    refine vr tbok 5 [] [(3, .int .i64 r30.1), (4, .int .i64 r30.2.1), (5, .int .i64 r49), (6, .int .i64 r71.1), (7, .int .i64 r71.2.1), (8, .int .i64 r95.1), (9, .int .i64 r95.2.1), (10, .int .i64 r119.1), (11, .int .i64 r119.2.1), (12, .slice A152 (List.length r138) c153), (14, .int .i64 r163.2.1), (16, .int .i64 r187.2.1), (18, .int .i64 x223)] [] E (by kernel_rfl) trivial ?_
    clear E; intro a E
    refine wpList_nil ?_
    refine th_n ?_
    refine wp_seq ?_
    refine wp_seq ?_
    refine wp_region_lit ?_
    refine vr tbok 3 [] [(3, .int .i64 r30.1), (5, .int .i64 r49), (6, .int .i64 r71.1), (7, .int .i64 r71.2.1), (8, .int .i64 r95.1), (9, .int .i64 r95.2.1), (10, .int .i64 r119.1), (11, .int .i64 r119.2.1), (12, .slice A152 (List.length r138) c153), (14, .int .i64 r163.2.1), (16, .int .i64 r187.2.1), (18, .int .i64 x223), (87, .bool ((r30.2.1 : Int) != 0))] [] E (by kernel_rfl) trivial ?_
    clear E; intro a E
    refine E.cases (t := 87) rfl (fun hb_ E_ => ?_) (fun hb_ E_ => ?_)
    ·
     replace E := E_; clear E_
     have h225 : ¬ ((r30.2.1 : Int) = 0) := bne_iff_ne.1 hb_
     clear hb_; replace hP := ite_f h225 hP
     refine vr tbok 41 [] [(12, .slice A152 (List.length r138) c153), (14, .int .i64 r163.2.1), (16, .int .i64 r187.2.1), (18, .int .i64 x223), (128, .bool true)] [] E (by kernel_rfl) trivial ?_
     clear E; intro a E
     refine wpList_nil ?_
     refine th_n ?_
     refine c_true E rfl ?_
     refine wp_seq ?_
     refine wp_region_lit ?_
     refine vr tbok 1 [] [(0, .bool false)] [] E (by kernel_rfl) trivial ?_
     clear E; intro a E
     refine wpList_nil ?_
     refine th_n ?_
     refine wp_ret ?_
     refine th_ret ?_
     obtain rfl := Option.some.inj hP
     refine ret1 E rfl rfl ?_
     exact ⟨_, rfl, rfl, H.sel [] rfl⟩
    ·
     replace E := E_; clear E_
     have h226 : (r30.2.1 : Int) = 0 := bne_eq_false_iff_eq.1 hb_
     clear hb_; replace hP := ite_t h226 hP
     refine vr tbok 4 [] [(3, .int .i64 r30.1), (5, .int .i64 r49), (6, .int .i64 r71.1), (8, .int .i64 r95.1), (9, .int .i64 r95.2.1), (10, .int .i64 r119.1), (11, .int .i64 r119.2.1), (12, .slice A152 (List.length r138) c153), (14, .int .i64 r163.2.1), (16, .int .i64 r187.2.1), (18, .int .i64 x223), (91, .bool ((r71.2.1 : Int) != 0))] [] E (by kernel_rfl) trivial ?_
     clear E; intro a E
     refine E.cases (t := 91) rfl (fun hb_ E_ => ?_) (fun hb_ E_ => ?_)
     ·
      replace E := E_; clear E_
      have h227 : ¬ ((r71.2.1 : Int) = 0) := bne_iff_ne.1 hb_
      clear hb_; replace hP := ite_f h227 hP
      refine vr tbok 37 [] [(12, .slice A152 (List.length r138) c153), (14, .int .i64 r163.2.1), (16, .int .i64 r187.2.1), (18, .int .i64 x223), (128, .bool true)] [] E (by kernel_rfl) trivial ?_
      clear E; intro a E
      refine wpList_nil ?_
      refine th_n ?_
      refine c_true E rfl ?_
      refine wp_seq ?_
      refine wp_region_lit ?_
      refine vr tbok 1 [] [(0, .bool false)] [] E (by kernel_rfl) trivial ?_
      clear E; intro a E
      refine wpList_nil ?_
      refine th_n ?_
      refine wp_ret ?_
      refine th_ret ?_
      obtain rfl := Option.some.inj hP
      refine ret1 E rfl rfl ?_
      exact ⟨_, rfl, rfl, H.sel [] rfl⟩
     ·
      replace E := E_; clear E_
      have h228 : (r71.2.1 : Int) = 0 := bne_eq_false_iff_eq.1 hb_
      clear hb_; replace hP := ite_t h228 hP
      refine vr tbok 4 [] [(3, .int .i64 r30.1), (5, .int .i64 r49), (6, .int .i64 r71.1), (8, .int .i64 r95.1), (10, .int .i64 r119.1), (11, .int .i64 r119.2.1), (12, .slice A152 (List.length r138) c153), (14, .int .i64 r163.2.1), (16, .int .i64 r187.2.1), (18, .int .i64 x223), (95, .bool ((r95.2.1 : Int) != 0))] [] E (by kernel_rfl) trivial ?_
      clear E; intro a E
      refine E.cases (t := 95) rfl (fun hb_ E_ => ?_) (fun hb_ E_ => ?_)
      ·
       replace E := E_; clear E_
       have h229 : ¬ ((r95.2.1 : Int) = 0) := bne_iff_ne.1 hb_
       clear hb_; replace hP := ite_f h229 hP
       refine vr tbok 33 [] [(12, .slice A152 (List.length r138) c153), (14, .int .i64 r163.2.1), (16, .int .i64 r187.2.1), (18, .int .i64 x223), (128, .bool true)] [] E (by kernel_rfl) trivial ?_
       clear E; intro a E
       refine wpList_nil ?_
       refine th_n ?_
       refine c_true E rfl ?_
       refine wp_seq ?_
       refine wp_region_lit ?_
       refine vr tbok 1 [] [(0, .bool false)] [] E (by kernel_rfl) trivial ?_
       clear E; intro a E
       refine wpList_nil ?_
       refine th_n ?_
       refine wp_ret ?_
       refine th_ret ?_
       obtain rfl := Option.some.inj hP
       refine ret1 E rfl rfl ?_
       exact ⟨_, rfl, rfl, H.sel [] rfl⟩
      ·
       replace E := E_; clear E_
       have h230 : (r95.2.1 : Int) = 0 := bne_eq_false_iff_eq.1 hb_
       clear hb_; replace hP := ite_t h230 hP
       refine vr tbok 4 [] [(3, .int .i64 r30.1), (5, .int .i64 r49), (6, .int .i64 r71.1), (8, .int .i64 r95.1), (10, .int .i64 r119.1), (12, .slice A152 (List.length r138) c153), (14, .int .i64 r163.2.1), (16, .int .i64 r187.2.1), (18, .int .i64 x223), (99, .bool ((r119.2.1 : Int) != 0))] [] E (by kernel_rfl) trivial ?_
       clear E; intro a E
       refine E.cases (t := 99) rfl (fun hb_ E_ => ?_) (fun hb_ E_ => ?_)
       ·
        replace E := E_; clear E_
        have h231 : ¬ ((r119.2.1 : Int) = 0) := bne_iff_ne.1 hb_
        clear hb_; replace hP := ite_f h231 hP
        refine vr tbok 29 [] [(12, .slice A152 (List.length r138) c153), (14, .int .i64 r163.2.1), (16, .int .i64 r187.2.1), (18, .int .i64 x223), (128, .bool true)] [] E (by kernel_rfl) trivial ?_
        clear E; intro a E
        refine wpList_nil ?_
        refine th_n ?_
        refine c_true E rfl ?_
        refine wp_seq ?_
        refine wp_region_lit ?_
        refine vr tbok 1 [] [(0, .bool false)] [] E (by kernel_rfl) trivial ?_
        clear E; intro a E
        refine wpList_nil ?_
        refine th_n ?_
        refine wp_ret ?_
        refine th_ret ?_
        obtain rfl := Option.some.inj hP
        refine ret1 E rfl rfl ?_
        exact ⟨_, rfl, rfl, H.sel [] rfl⟩
       ·
        replace E := E_; clear E_
        have h232 : (r119.2.1 : Int) = 0 := bne_eq_false_iff_eq.1 hb_
        clear hb_; replace hP := ite_t h232 hP
        refine vr tbok 4 [] [(5, .int .i64 r49), (6, .int .i64 r71.1), (8, .int .i64 r95.1), (10, .int .i64 r119.1), (12, .slice A152 (List.length r138) c153), (14, .int .i64 r163.2.1), (16, .int .i64 r187.2.1), (18, .int .i64 x223), (103, .bool ((r30.1 : Int) != (-6)))] [] E (by kernel_rfl) trivial ?_
        clear E; intro a E
        refine E.cases (t := 103) rfl (fun hb_ E_ => ?_) (fun hb_ E_ => ?_)
        ·
         replace E := E_; clear E_
         have h233 : ¬ ((r30.1 : Int) = -6) := bne_iff_ne.1 hb_
         clear hb_; replace hP := ite_f h233 hP
         refine vr tbok 25 [] [(12, .slice A152 (List.length r138) c153), (14, .int .i64 r163.2.1), (16, .int .i64 r187.2.1), (18, .int .i64 x223), (128, .bool true)] [] E (by kernel_rfl) trivial ?_
         clear E; intro a E
         refine wpList_nil ?_
         refine th_n ?_
         refine c_true E rfl ?_
         refine wp_seq ?_
         refine wp_region_lit ?_
         refine vr tbok 1 [] [(0, .bool false)] [] E (by kernel_rfl) trivial ?_
         clear E; intro a E
         refine wpList_nil ?_
         refine th_n ?_
         refine wp_ret ?_
         refine th_ret ?_
         obtain rfl := Option.some.inj hP
         refine ret1 E rfl rfl ?_
         exact ⟨_, rfl, rfl, H.sel [] rfl⟩
        ·
         replace E := E_; clear E_
         have h234 : (r30.1 : Int) = -6 := bne_eq_false_iff_eq.1 hb_
         clear hb_; replace hP := ite_t h234 hP
         refine vr tbok 4 [] [(6, .int .i64 r71.1), (8, .int .i64 r95.1), (10, .int .i64 r119.1), (12, .slice A152 (List.length r138) c153), (14, .int .i64 r163.2.1), (16, .int .i64 r187.2.1), (18, .int .i64 x223), (107, .bool ((r49 : Int) != 0))] [] E (by kernel_rfl) trivial ?_
         clear E; intro a E
         refine E.cases (t := 107) rfl (fun hb_ E_ => ?_) (fun hb_ E_ => ?_)
         ·
          replace E := E_; clear E_
          have h235 : ¬ ((r49 : Int) = 0) := bne_iff_ne.1 hb_
          clear hb_; replace hP := ite_f h235 hP
          refine vr tbok 21 [] [(12, .slice A152 (List.length r138) c153), (14, .int .i64 r163.2.1), (16, .int .i64 r187.2.1), (18, .int .i64 x223), (128, .bool true)] [] E (by kernel_rfl) trivial ?_
          clear E; intro a E
          refine wpList_nil ?_
          refine th_n ?_
          refine c_true E rfl ?_
          refine wp_seq ?_
          refine wp_region_lit ?_
          refine vr tbok 1 [] [(0, .bool false)] [] E (by kernel_rfl) trivial ?_
          clear E; intro a E
          refine wpList_nil ?_
          refine th_n ?_
          refine wp_ret ?_
          refine th_ret ?_
          obtain rfl := Option.some.inj hP
          refine ret1 E rfl rfl ?_
          exact ⟨_, rfl, rfl, H.sel [] rfl⟩
         ·
          replace E := E_; clear E_
          have h236 : (r49 : Int) = 0 := bne_eq_false_iff_eq.1 hb_
          clear hb_; replace hP := ite_t h236 hP
          refine vr tbok 4 [] [(8, .int .i64 r95.1), (10, .int .i64 r119.1), (12, .slice A152 (List.length r138) c153), (14, .int .i64 r163.2.1), (16, .int .i64 r187.2.1), (18, .int .i64 x223), (111, .bool ((r71.1 : Int) != 0))] [] E (by kernel_rfl) trivial ?_
          clear E; intro a E
          refine E.cases (t := 111) rfl (fun hb_ E_ => ?_) (fun hb_ E_ => ?_)
          ·
           replace E := E_; clear E_
           have h237 : ¬ ((r71.1 : Int) = 0) := bne_iff_ne.1 hb_
           clear hb_; replace hP := ite_f h237 hP
           refine vr tbok 17 [] [(12, .slice A152 (List.length r138) c153), (14, .int .i64 r163.2.1), (16, .int .i64 r187.2.1), (18, .int .i64 x223), (128, .bool true)] [] E (by kernel_rfl) trivial ?_
           clear E; intro a E
           refine wpList_nil ?_
           refine th_n ?_
           refine c_true E rfl ?_
           refine wp_seq ?_
           refine wp_region_lit ?_
           refine vr tbok 1 [] [(0, .bool false)] [] E (by kernel_rfl) trivial ?_
           clear E; intro a E
           refine wpList_nil ?_
           refine th_n ?_
           refine wp_ret ?_
           refine th_ret ?_
           obtain rfl := Option.some.inj hP
           refine ret1 E rfl rfl ?_
           exact ⟨_, rfl, rfl, H.sel [] rfl⟩
          ·
           replace E := E_; clear E_
           have h238 : (r71.1 : Int) = 0 := bne_eq_false_iff_eq.1 hb_
           clear hb_; replace hP := ite_t h238 hP
           refine vr tbok 4 [] [(10, .int .i64 r119.1), (12, .slice A152 (List.length r138) c153), (14, .int .i64 r163.2.1), (16, .int .i64 r187.2.1), (18, .int .i64 x223), (115, .bool ((r95.1 : Int) != 1))] [] E (by kernel_rfl) trivial ?_
           clear E; intro a E
           refine E.cases (t := 115) rfl (fun hb_ E_ => ?_) (fun hb_ E_ => ?_)
           ·
            replace E := E_; clear E_
            have h239 : ¬ ((r95.1 : Int) = 1) := bne_iff_ne.1 hb_
            clear hb_; replace hP := ite_f h239 hP
            refine vr tbok 13 [] [(12, .slice A152 (List.length r138) c153), (14, .int .i64 r163.2.1), (16, .int .i64 r187.2.1), (18, .int .i64 x223), (128, .bool true)] [] E (by kernel_rfl) trivial ?_
            clear E; intro a E
            refine wpList_nil ?_
            refine th_n ?_
            refine c_true E rfl ?_
            refine wp_seq ?_
            refine wp_region_lit ?_
            refine vr tbok 1 [] [(0, .bool false)] [] E (by kernel_rfl) trivial ?_
            clear E; intro a E
            refine wpList_nil ?_
            refine th_n ?_
            refine wp_ret ?_
            refine th_ret ?_
            obtain rfl := Option.some.inj hP
            refine ret1 E rfl rfl ?_
            exact ⟨_, rfl, rfl, H.sel [] rfl⟩
           ·
            replace E := E_; clear E_
            have h240 : (r95.1 : Int) = 1 := bne_eq_false_iff_eq.1 hb_
            clear hb_; replace hP := ite_t h240 hP
            refine vr tbok 4 [] [(12, .slice A152 (List.length r138) c153), (14, .int .i64 r163.2.1), (16, .int .i64 r187.2.1), (18, .int .i64 x223), (119, .bool ((r119.1 : Int) != 3))] [] E (by kernel_rfl) trivial ?_
            clear E; intro a E
            refine E.cases (t := 119) rfl (fun hb_ E_ => ?_) (fun hb_ E_ => ?_)
            ·
             replace E := E_; clear E_
             have h241 : ¬ ((r119.1 : Int) = 3) := bne_iff_ne.1 hb_
             clear hb_; replace hP := ite_f h241 hP
             refine vr tbok 9 [] [(12, .slice A152 (List.length r138) c153), (14, .int .i64 r163.2.1), (16, .int .i64 r187.2.1), (18, .int .i64 x223), (128, .bool true)] [] E (by kernel_rfl) trivial ?_
             clear E; intro a E
             refine wpList_nil ?_
             refine th_n ?_
             refine c_true E rfl ?_
             refine wp_seq ?_
             refine wp_region_lit ?_
             refine vr tbok 1 [] [(0, .bool false)] [] E (by kernel_rfl) trivial ?_
             clear E; intro a E
             refine wpList_nil ?_
             refine th_n ?_
             refine wp_ret ?_
             refine th_ret ?_
             obtain rfl := Option.some.inj hP
             refine ret1 E rfl rfl ?_
             exact ⟨_, rfl, rfl, H.sel [] rfl⟩
            ·
             replace E := E_; clear E_
             have h242 : (r119.1 : Int) = 3 := bne_eq_false_iff_eq.1 hb_
             clear hb_; replace hP := ite_t h242 hP
             refine vr tbok 1 [] [(12, .slice A152 (List.length r138) c153), (14, .int .i64 r163.2.1), (16, .int .i64 r187.2.1), (18, .int .i64 x223), (119, .bool false), (120, .slice A152 (List.length r138) c153)] [] E (by kernel_rfl) trivial ?_
             clear E; intro a E
             refine e_build (ps := [(1, .int .i64 (-1)), (2, .int .i64 (-2))]) (v := .agg #[.int .i64 0, .int .i64 (-1), .int .i64 (-2)]) E rfl rfl tbok rfl (by kernel_rfl) rfl ?_
             clear E; intro a E
             refine e_build (ps := [(0, .int .i64 1), (1, .int .i64 (-1)), (2, .int .i64 (-2))]) (v := .agg #[.int .i64 1, .int .i64 (-1), .int .i64 (-2)]) E rfl rfl tbok rfl (by kernel_rfl) rfl ?_
             clear E; intro a E
             refine e_build (ps := [(0, .int .i64 1), (1, .int .i64 (-2)), (2, .int .i64 (-1))]) (v := .agg #[.int .i64 1, .int .i64 (-2), .int .i64 (-1)]) E rfl rfl tbok rfl (by kernel_rfl) rfl ?_
             clear E; intro a E
             refine e_build (ps := [(1, .int .i64 1), (2, .int .i64 2)]) (v := .agg #[.int .i64 0, .int .i64 1, .int .i64 2]) E rfl rfl tbok rfl (by kernel_rfl) rfl ?_
             clear E; intro a E
             refine h_buildSlice (ps := [(0, .agg #[.int .i64 0, .int .i64 (-1), .int .i64 (-2)]), (1, .agg #[.int .i64 1, .int .i64 (-1), .int .i64 (-2)]), (2, .agg #[.int .i64 1, .int .i64 (-2), .int .i64 (-1)]), (3, .agg #[.int .i64 0, .int .i64 1, .int .i64 2])]) (cs := [.int .i64 0, .int .i64 (-1), .int .i64 (-2), .int .i64 1, .int .i64 (-1), .int .i64 (-2), .int .i64 1, .int .i64 (-2), .int .i64 (-1), .int .i64 0, .int .i64 1, .int .i64 2]) H E rfl rfl tbok rfl rfl (by kernel_rfl) ?_
             intro w244 g243 a hc245 hg247 H_ E_
             replace E := E_ _ rfl; clear E_
             replace H := H_; clear H_; try dsimp only [setn, addE, goneL] at H
             replace H := H.boxRow cNode true ([(⟨0, -1, -2⟩ : Nd), (⟨1, -1, -2⟩ : Nd), (⟨1, -2, -1⟩ : Nd), (⟨0, 1, 2⟩ : Nd)] : List Nd) 34 rfl (fun _ _ => ⟨_, _, rfl, rfl, ⟨_, _, rfl, rfl, ⟨_, _, rfl, rfl, ⟨_, _, rfl, rfl, rfl⟩⟩⟩⟩) (Nat.le_of_ble_eq_true rfl); try dsimp only [setn, addE, goneL] at H
             obtain ⟨r248, h249, hP⟩ := bind_inv hP
             obtain ⟨Fa250, Hc251, hb252⟩ := H.call [] [(22, false), (34, false)] rfl rfl trivial
             refine e_call E rfl rfl Try.func25 rfl rfl rfl (kit_SameNodes_calls A152 c153 (some ⟨g243, 0, none⟩) 4 r138 ([(⟨0, -1, -2⟩ : Nd), (⟨1, -1, -2⟩ : Nd), (⟨1, -2, -1⟩ : Nd), (⟨0, 1, 2⟩ : Nd)] : List Nd) (H.rcap 22 rfl) (H.rcapx 34 rfl) Hc251 h249) ?_
             rintro v253 w254 a ⟨rfl, HR255⟩ E_
             replace E := E_ _ rfl; clear E_
             obtain ⟨H_, hc256⟩ := hb252 _ _ HR255 rfl
             replace H := H_; clear H_; try dsimp only [setn, addE, goneL] at H
             refine vr tbok 2 [] [(12, .slice A152 (List.length r138) c153), (14, .int .i64 r163.2.1), (16, .int .i64 r187.2.1), (18, .int .i64 x223), (128, .bool (!r248))] [] E (by kernel_rfl) trivial ?_
             clear E; intro a E
             refine wpList_nil ?_
             refine th_n ?_
             refine E.cases (t := 128) rfl (fun hb_ E_ => ?_) (fun hb_ E_ => ?_)
             ·
              replace E := E_; clear E_
              have h257 : ¬ (r248 = true) := (ne_true_of_eq_false (not_t hb_))
              clear hb_; replace hP := ite_f h257 hP
              refine c_true E rfl ?_
              refine wp_seq ?_
              refine wp_region_lit ?_
              refine vr tbok 1 [] [(0, .bool false)] [] E (by kernel_rfl) trivial ?_
              clear E; intro a E
              refine wpList_nil ?_
              refine th_n ?_
              refine wp_ret ?_
              refine th_ret ?_
              obtain rfl := Option.some.inj hP
              refine ret1 E rfl rfl ?_
              exact ⟨_, rfl, rfl, H.sel [] rfl⟩
             ·
              replace E := E_; clear E_
              have h258 : r248 = true := (not_f hb_)
              clear hb_; replace hP := ite_t h258 hP
              refine c_false E rfl ?_
              refine wp_skip ?_
              refine th_n ?_
              refine wp_seq ?_
              refine wp_region_lit ?_
              refine vr tbok 1 [] [(12, .slice A152 (List.length r138) c153), (14, .int .i64 r163.2.1), (16, .int .i64 r187.2.1), (18, .int .i64 x223), (130, .slice A152 (List.length r138) c153)] [] E (by kernel_rfl) trivial ?_
              clear E; intro a E
              obtain ⟨r259, h260, hP⟩ := bind_inv hP
              obtain ⟨Fa261, Hc262, hb263⟩ := H.call [] [(22, false)] rfl rfl trivial
              refine e_call E rfl rfl Try.func9 rfl rfl rfl (guard_Go_calls A152 c153 r138 3 3 (H.rcap 22 rfl) Hc262 h260) ?_
              rintro v264 w265 a ⟨rfl, HR266⟩ E_
              replace E := E_ _ rfl; clear E_
              obtain ⟨H_, hc267⟩ := hb263 _ _ HR266 rfl
              replace H := H_; clear H_; try dsimp only [setn, addE, goneL] at H
              refine vr tbok 5 [] [(12, .slice A152 (List.length r138) c153), (14, .int .i64 r163.2.1), (16, .int .i64 r187.2.1), (18, .int .i64 x223), (19, .int .i64 r259.1), (20, .bool r259.2)] [] E (by kernel_rfl) trivial ?_
              clear E; intro a E
              refine wpList_nil ?_
              refine th_n ?_
              refine wp_seq ?_
              refine wp_region_lit ?_
              refine vr tbok 1 [] [(12, .slice A152 (List.length r138) c153), (14, .int .i64 r163.2.1), (16, .int .i64 r187.2.1), (18, .int .i64 x223), (19, .int .i64 r259.1), (20, .bool r259.2), (135, .slice A152 (List.length r138) c153)] [] E (by kernel_rfl) trivial ?_
              clear E; intro a E
              obtain ⟨r268, h269, hP⟩ := bind_inv hP
              obtain ⟨Fa270, Hc271, hb272⟩ := H.call [] [(22, false)] rfl rfl trivial
              refine e_call E rfl rfl Try.func9 rfl rfl rfl (guard_Go_calls A152 c153 r138 3 1 (H.rcap 22 rfl) Hc271 h269) ?_
              rintro v273 w274 a ⟨rfl, HR275⟩ E_
              replace E := E_ _ rfl; clear E_
              obtain ⟨H_, hc276⟩ := hb272 _ _ HR275 rfl
              replace H := H_; clear H_; try dsimp only [setn, addE, goneL] at H
              refine vr tbok 5 [] [(12, .slice A152 (List.length r138) c153), (14, .int .i64 r163.2.1), (16, .int .i64 r187.2.1), (18, .int .i64 x223), (19, .int .i64 r259.1), (20, .bool r259.2), (21, .int .i64 r268.1), (22, .bool r268.2)] [] E (by kernel_rfl) trivial ?_
              clear E; intro a E
              refine wpList_nil ?_
              refine th_n ?_
              refine wp_seq ?_
              refine wp_region_lit ?_
              refine vr tbok 1 [] [(12, .slice A152 (List.length r138) c153), (14, .int .i64 r163.2.1), (16, .int .i64 r187.2.1), (18, .int .i64 x223), (19, .int .i64 r259.1), (20, .bool r259.2), (21, .int .i64 r268.1), (22, .bool r268.2), (140, .slice A152 (List.length r138) c153)] [] E (by kernel_rfl) trivial ?_
              clear E; intro a E
              obtain ⟨r277, h278, hP⟩ := bind_inv hP
              obtain ⟨Fa279, Hc280, hb281⟩ := H.call [] [(22, false)] rfl rfl trivial
              refine e_call E rfl rfl Try.func9 rfl rfl rfl (guard_Go_calls A152 c153 r138 9 0 (H.rcap 22 rfl) Hc280 h278) ?_
              rintro v282 w283 a ⟨rfl, HR284⟩ E_
              replace E := E_ _ rfl; clear E_
              obtain ⟨H_, hc285⟩ := hb281 _ _ HR284 rfl
              replace H := H_; clear H_; try dsimp only [setn, addE, goneL] at H
              refine vr tbok 5 [] [(12, .slice A152 (List.length r138) c153), (14, .int .i64 r163.2.1), (16, .int .i64 r187.2.1), (18, .int .i64 x223), (19, .int .i64 r259.1), (20, .bool r259.2), (21, .int .i64 r268.1), (22, .bool r268.2), (24, .bool r277.2)] [] E (by kernel_rfl) trivial ?_
              clear E; intro a E
              refine wpList_nil ?_
              refine th_n ?_
              refine wp_seq ?_
              refine wp_region_lit ?_
              refine vr tbok 1 [] [(12, .slice A152 (List.length r138) c153), (14, .int .i64 r163.2.1), (16, .int .i64 r187.2.1), (18, .int .i64 x223), (19, .int .i64 r259.1), (20, .bool r259.2), (21, .int .i64 r268.1), (22, .bool r268.2), (24, .bool r277.2), (145, .slice A152 (List.length r138) c153)] [] E (by kernel_rfl) trivial ?_
              clear E; intro a E
              obtain ⟨r286, h287, hP⟩ := bind_inv hP
              obtain ⟨Fa288, Hc289, hb290⟩ := H.call [] [(22, false)] rfl rfl trivial
              refine e_call E rfl rfl Try.func11 rfl rfl rfl (guard_Table_calls A152 c153 2 r138 1 (H.rcap 22 rfl) Hc289 h287) ?_
              rintro v291 w292 a ⟨A295, c296, rfl, HR293⟩ E_
              replace E := E_ _ rfl; clear E_
              obtain ⟨H_, hc294⟩ := hb290 _ _ HR293 rfl
              replace H := H_; clear H_; try dsimp only [setn, addE, goneL] at H
              refine vr tbok 5 [] [(12, .slice A152 (List.length r138) c153), (14, .int .i64 r163.2.1), (16, .int .i64 r187.2.1), (18, .int .i64 x223), (19, .int .i64 r259.1), (20, .bool r259.2), (21, .int .i64 r268.1), (22, .bool r268.2), (24, .bool r277.2), (25, .slice A295 (List.length r286.1) c296), (26, .int .i64 r286.2)] [] E (by kernel_rfl) trivial ?_
              clear E; intro a E
              refine wpList_nil ?_
              refine th_n ?_
              refine wp_seq ?_
              refine wp_region_lit ?_
              refine vr tbok 1 [] [(14, .int .i64 r163.2.1), (16, .int .i64 r187.2.1), (18, .int .i64 x223), (19, .int .i64 r259.1), (20, .bool r259.2), (21, .int .i64 r268.1), (22, .bool r268.2), (24, .bool r277.2), (25, .slice A295 (List.length r286.1) c296), (26, .int .i64 r286.2), (150, .slice A152 (List.length r138) c153)] [] E (by kernel_rfl) trivial ?_
              clear E; intro a E
              obtain ⟨r298, h299, hP⟩ := bind_inv hP
              obtain ⟨Fa300, Hc301, hb302⟩ := H.call [] [(22, false)] rfl rfl trivial
              refine e_call E rfl rfl Try.func11 rfl rfl rfl (guard_Table_calls A152 c153 9 r138 1 (H.rcap 22 rfl) Hc301 h299) ?_
              rintro v303 w304 a ⟨A307, c308, rfl, HR305⟩ E_
              replace E := E_ _ rfl; clear E_
              obtain ⟨H_, hc306⟩ := hb302 _ _ HR305 rfl
              replace H := H_; clear H_; try dsimp only [setn, addE, goneL] at H
              refine vr tbok 5 [] [(14, .int .i64 r163.2.1), (16, .int .i64 r187.2.1), (18, .int .i64 x223), (19, .int .i64 r259.1), (20, .bool r259.2), (21, .int .i64 r268.1), (22, .bool r268.2), (24, .bool r277.2), (25, .slice A295 (List.length r286.1) c296), (26, .int .i64 r286.2), (28, .int .i64 r298.2)] [] E (by kernel_rfl) trivial ?_
              clear E; intro a E
              refine wpList_nil ?_
              refine th_n ?_
              refine wp_seq ?_
              refine wp_region_lit ?_
              refine h_buildSlice (ps := [(0, .bool true)]) (cs := [.bool true]) H E rfl rfl tbok rfl rfl (by kernel_rfl) ?_
              intro w311 g310 a hc312 hg314 H_ E_
              replace E := E_ _ rfl; clear E_
              replace H := H_; clear H_; try dsimp only [setn, addE, goneL] at H
              refine h_buildSlice (ps := [(0, .int .i64 (-1))]) (cs := [.int .i64 (-1)]) H E rfl rfl tbok rfl rfl (by kernel_rfl) ?_
              intro w316 g315 a hc317 hg319 H_ E_
              replace E := E_ _ rfl; clear E_
              replace H := H_; clear H_; try dsimp only [setn, addE, goneL] at H
              refine e_build (ps := [(1, .slice (some ⟨g310, 0, none⟩) 1 1), (2, .slice (some ⟨g315, 0, none⟩) 1 1)]) (v := .agg #[.int .i64 0, .slice (some ⟨g310, 0, none⟩) 1 1, .slice (some ⟨g315, 0, none⟩) 1 1, .slice none 0 0]) E rfl rfl tbok rfl (by kernel_rfl) rfl ?_
              clear E; intro a E
              replace H := H.boxRow cBool true ([true] : List Bool) 37 rfl (fun _ _ => ⟨_, _, rfl, rfl, rfl⟩) (Nat.le_of_ble_eq_true rfl); try dsimp only [setn, addE, goneL] at H
              replace H := H.boxRow (cInt .i64) true ([-1] : List Int) 38 rfl (fun _ _ => ⟨_, _, rfl, rfl, rfl⟩) (Nat.le_of_ble_eq_true rfl); try dsimp only [setn, addE, goneL] at H
              replace H := H.nilrow cNode 64; try dsimp only [setn, addE, goneL] at H
              obtain ⟨r321, h322, hP⟩ := bind_inv hP
              obtain ⟨Fa323, Hc324, hb325⟩ := H.call [] [(37, false), (38, false), (39, false)] rfl rfl trivial
              refine e_call E rfl rfl Try.func14 rfl rfl rfl (guard_Check_calls (some ⟨g310, 0, none⟩) 1 (some ⟨g315, 0, none⟩) 1 none 0 0 ([true] : List Bool) ([-1] : List Int) [] (H.rcapx 37 rfl) (H.rcapx 38 rfl) (Nat.le_refl _) Hc324 h322) ?_
              rintro v326 w327 a ⟨rfl, HR328⟩ E_
              replace E := E_ _ rfl; clear E_
              obtain ⟨H_, hc329⟩ := hb325 _ _ HR328 rfl
              replace H := H_; clear H_; try dsimp only [setn, addE, goneL] at H
              refine vr tbok 1 [] [(14, .int .i64 r163.2.1), (16, .int .i64 r187.2.1), (18, .int .i64 x223), (19, .int .i64 r259.1), (20, .bool r259.2), (21, .int .i64 r268.1), (22, .bool r268.2), (24, .bool r277.2), (25, .slice A295 (List.length r286.1) c296), (26, .int .i64 r286.2), (28, .int .i64 r298.2), (29, .int .i64 r321)] [] E (by kernel_rfl) trivial ?_
              clear E; intro a E
              refine wpList_nil ?_
              refine th_n ?_
              refine wp_seq ?_
              refine wp_region_lit ?_
              refine h_buildSlice (ps := [(0, .bool true)]) (cs := [.bool true]) H E rfl rfl tbok rfl rfl (by kernel_rfl) ?_
              intro w331 g330 a hc332 hg334 H_ E_
              replace E := E_ _ rfl; clear E_
              replace H := H_; clear H_; try dsimp only [setn, addE, goneL] at H
              refine h_buildSlice (ps := [(0, .int .i64 0)]) (cs := [.int .i64 0]) H E rfl rfl tbok rfl rfl (by kernel_rfl) ?_
              intro w336 g335 a hc337 hg339 H_ E_
              replace E := E_ _ rfl; clear E_
              replace H := H_; clear H_; try dsimp only [setn, addE, goneL] at H
              refine e_build (ps := [(1, .slice (some ⟨g330, 0, none⟩) 1 1), (2, .slice (some ⟨g335, 0, none⟩) 1 1)]) (v := .agg #[.int .i64 0, .slice (some ⟨g330, 0, none⟩) 1 1, .slice (some ⟨g335, 0, none⟩) 1 1, .slice none 0 0]) E rfl rfl tbok rfl (by kernel_rfl) rfl ?_
              clear E; intro a E
              replace H := H.boxRow cBool true ([true] : List Bool) 40 rfl (fun _ _ => ⟨_, _, rfl, rfl, rfl⟩) (Nat.le_of_ble_eq_true rfl); try dsimp only [setn, addE, goneL] at H
              replace H := H.boxRow (cInt .i64) true ([0] : List Int) 41 rfl (fun _ _ => ⟨_, _, rfl, rfl, rfl⟩) (Nat.le_of_ble_eq_true rfl); try dsimp only [setn, addE, goneL] at H
              replace H := H.nilrow cNode 64; try dsimp only [setn, addE, goneL] at H
              obtain ⟨r341, h342, hP⟩ := bind_inv hP
              obtain ⟨Fa343, Hc344, hb345⟩ := H.call [] [(40, false), (41, false), (42, false)] rfl rfl trivial
              refine e_call E rfl rfl Try.func14 rfl rfl rfl (guard_Check_calls (some ⟨g330, 0, none⟩) 1 (some ⟨g335, 0, none⟩) 1 none 0 0 ([true] : List Bool) ([0] : List Int) [] (H.rcapx 40 rfl) (H.rcapx 41 rfl) (Nat.le_refl _) Hc344 h342) ?_
              rintro v346 w347 a ⟨rfl, HR348⟩ E_
              replace E := E_ _ rfl; clear E_
              obtain ⟨H_, hc349⟩ := hb345 _ _ HR348 rfl
              replace H := H_; clear H_; try dsimp only [setn, addE, goneL] at H
              refine vr tbok 1 [] [(14, .int .i64 r163.2.1), (16, .int .i64 r187.2.1), (18, .int .i64 x223), (19, .int .i64 r259.1), (20, .bool r259.2), (21, .int .i64 r268.1), (22, .bool r268.2), (24, .bool r277.2), (25, .slice A295 (List.length r286.1) c296), (26, .int .i64 r286.2), (28, .int .i64 r298.2), (29, .int .i64 r321), (30, .int .i64 r341)] [] E (by kernel_rfl) trivial ?_
              clear E; intro a E
              refine wpList_nil ?_
              refine th_n ?_
              refine wp_seq ?_
              refine wp_region_lit ?_
              refine vr tbok 3 [] [(14, .int .i64 r163.2.1), (16, .int .i64 r187.2.1), (18, .int .i64 x223), (20, .bool r259.2), (21, .int .i64 r268.1), (22, .bool r268.2), (24, .bool r277.2), (25, .slice A295 (List.length r286.1) c296), (26, .int .i64 r286.2), (28, .int .i64 r298.2), (29, .int .i64 r321), (30, .int .i64 r341), (164, .bool ((r259.1 : Int) == 0))] [] E (by kernel_rfl) trivial ?_
              clear E; intro a E
              refine E.cases (t := 164) rfl (fun hb_ E_ => ?_) (fun hb_ E_ => ?_)
              ·
               replace E := E_; clear E_
               have h350 : (r259.1 : Int) = 0 := eq_of_beq hb_
               clear hb_; replace hP := ite_t h350 hP
               refine vr tbok 3 [] [(14, .int .i64 r163.2.1), (16, .int .i64 r187.2.1), (18, .int .i64 x223), (21, .int .i64 r268.1), (22, .bool r268.2), (24, .bool r277.2), (25, .slice A295 (List.length r286.1) c296), (26, .int .i64 r286.2), (28, .int .i64 r298.2), (29, .int .i64 r321), (30, .int .i64 r341), (167, .bool r259.2)] [] E (by kernel_rfl) trivial ?_
               clear E; intro a E
               refine E.cases (t := 167) rfl (fun hb_ E_ => ?_) (fun hb_ E_ => ?_)
               ·
                replace E := E_; clear E_
                have h351 : r259.2 = true := hb_
                clear hb_; replace hP := ite_t h351 hP
                refine vr tbok 4 [] [(14, .int .i64 r163.2.1), (16, .int .i64 r187.2.1), (18, .int .i64 x223), (22, .bool r268.2), (24, .bool r277.2), (25, .slice A295 (List.length r286.1) c296), (26, .int .i64 r286.2), (28, .int .i64 r298.2), (29, .int .i64 r321), (30, .int .i64 r341), (171, .bool ((r268.1 : Int) == 1))] [] E (by kernel_rfl) trivial ?_
                clear E; intro a E
                refine E.cases (t := 171) rfl (fun hb_ E_ => ?_) (fun hb_ E_ => ?_)
                ·
                 replace E := E_; clear E_
                 have h352 : (r268.1 : Int) = 1 := eq_of_beq hb_
                 clear hb_; replace hP := ite_t h352 hP
                 refine vr tbok 3 [] [(14, .int .i64 r163.2.1), (16, .int .i64 r187.2.1), (18, .int .i64 x223), (24, .bool r277.2), (25, .slice A295 (List.length r286.1) c296), (26, .int .i64 r286.2), (28, .int .i64 r298.2), (29, .int .i64 r321), (30, .int .i64 r341), (174, .bool r268.2)] [] E (by kernel_rfl) trivial ?_
                 clear E; intro a E
                 refine E.cases (t := 174) rfl (fun hb_ E_ => ?_) (fun hb_ E_ => ?_)
                 ·
                  replace E := E_; clear E_
                  have h353 : r268.2 = true := hb_
                  clear hb_; replace hP := ite_t h353 hP
                  refine vr tbok 4 [] [(14, .int .i64 r163.2.1), (16, .int .i64 r187.2.1), (18, .int .i64 x223), (25, .slice A295 (List.length r286.1) c296), (26, .int .i64 r286.2), (28, .int .i64 r298.2), (29, .int .i64 r321), (30, .int .i64 r341), (178, .bool (!r277.2))] [] E (by kernel_rfl) trivial ?_
                  clear E; intro a E
                  refine E.cases (t := 178) rfl (fun hb_ E_ => ?_) (fun hb_ E_ => ?_)
                  ·
                   replace E := E_; clear E_
                   have h354 : ¬ (r277.2 = true) := (ne_true_of_eq_false (not_t hb_))
                   clear hb_; replace hP := ite_f h354 hP
                   refine vr tbok 4 [] [(14, .int .i64 r163.2.1), (16, .int .i64 r187.2.1), (18, .int .i64 x223), (25, .slice A295 (List.length r286.1) c296), (28, .int .i64 r298.2), (29, .int .i64 r321), (30, .int .i64 r341), (182, .bool ((r286.2 : Int) == 0))] [] E (by kernel_rfl) trivial ?_
                   clear E; intro a E
                   refine E.cases (t := 182) rfl (fun hb_ E_ => ?_) (fun hb_ E_ => ?_)
                   ·
                    replace E := E_; clear E_
                    have h355 : (r286.2 : Int) = 0 := eq_of_beq hb_
                    clear hb_; replace hP := ite_t h355 hP
                    refine vr tbok 1 [] [(14, .int .i64 r163.2.1), (16, .int .i64 r187.2.1), (18, .int .i64 x223), (28, .int .i64 r298.2), (29, .int .i64 r321), (30, .int .i64 r341), (182, .bool true), (183, .slice A295 (List.length r286.1) c296)] [] E (by kernel_rfl) trivial ?_
                    clear E; intro a E
                    refine h_buildSlice (ps := [(0, .int .i64 0), (1, .int .i64 0), (2, .int .i64 1), (3, .int .i64 1)]) (cs := [.int .i64 0, .int .i64 0, .int .i64 1, .int .i64 1]) H E rfl rfl tbok rfl rfl (by kernel_rfl) ?_
                    intro w357 g356 a hc358 hg360 H_ E_
                    replace E := E_ _ rfl; clear E_
                    replace H := H_; clear H_; try dsimp only [setn, addE, goneL] at H
                    replace H := H.boxRow (cInt .i64) true ([0, 0, 1, 1] : List Int) 43 rfl (fun _ _ => ⟨_, _, rfl, rfl, ⟨_, _, rfl, rfl, ⟨_, _, rfl, rfl, ⟨_, _, rfl, rfl, rfl⟩⟩⟩⟩) (Nat.le_of_ble_eq_true rfl); try dsimp only [setn, addE, goneL] at H
                    obtain ⟨r361, h362, hP⟩ := bind_inv hP
                    obtain ⟨Fa363, Hc364, hb365⟩ := H.call [] [(35, false), (43, false)] rfl rfl trivial
                    refine e_call E rfl rfl Try.func13 rfl rfl rfl (kit_SameInts_calls A295 c296 (some ⟨g356, 0, none⟩) 4 r286.1 ([0, 0, 1, 1] : List Int) (H.rcap 35 rfl) (H.rcapx 43 rfl) Hc364 h362) ?_
                    rintro v366 w367 a ⟨rfl, HR368⟩ E_
                    replace E := E_ _ rfl; clear E_
                    obtain ⟨H_, hc369⟩ := hb365 _ _ HR368 rfl
                    replace H := H_; clear H_; try dsimp only [setn, addE, goneL] at H
                    refine vr tbok 2 [] [(14, .int .i64 r163.2.1), (16, .int .i64 r187.2.1), (18, .int .i64 x223), (28, .int .i64 r298.2), (29, .int .i64 r321), (30, .int .i64 r341), (187, .bool r361)] [] E (by kernel_rfl) trivial ?_
                    clear E; intro a E
                    refine E.cases (t := 187) rfl (fun hb_ E_ => ?_) (fun hb_ E_ => ?_)
                    ·
                     replace E := E_; clear E_
                     have h370 : r361 = true := hb_
                     clear hb_; replace hP := ite_t h370 hP
                     refine vr tbok 4 [] [(14, .int .i64 r163.2.1), (16, .int .i64 r187.2.1), (18, .int .i64 x223), (29, .int .i64 r321), (30, .int .i64 r341), (191, .bool ((r298.2 : Int) == 2))] [] E (by kernel_rfl) trivial ?_
                     clear E; intro a E
                     refine E.cases (t := 191) rfl (fun hb_ E_ => ?_) (fun hb_ E_ => ?_)
                     ·
                      replace E := E_; clear E_
                      have h371 : (r298.2 : Int) = 2 := eq_of_beq hb_
                      clear hb_; replace hP := ite_t h371 hP
                      refine vr tbok 4 [] [(16, .int .i64 r187.2.1), (18, .int .i64 x223), (29, .int .i64 r321), (30, .int .i64 r341), (195, .bool ((r163.2.1 : Int) == 2))] [] E (by kernel_rfl) trivial ?_
                      clear E; intro a E
                      refine E.cases (t := 195) rfl (fun hb_ E_ => ?_) (fun hb_ E_ => ?_)
                      ·
                       replace E := E_; clear E_
                       have h372 : (r163.2.1 : Int) = 2 := eq_of_beq hb_
                       clear hb_; replace hP := ite_t h372 hP
                       refine vr tbok 4 [] [(18, .int .i64 x223), (29, .int .i64 r321), (30, .int .i64 r341), (199, .bool ((r187.2.1 : Int) == 2))] [] E (by kernel_rfl) trivial ?_
                       clear E; intro a E
                       refine E.cases (t := 199) rfl (fun hb_ E_ => ?_) (fun hb_ E_ => ?_)
                       ·
                        replace E := E_; clear E_
                        have h373 : (r187.2.1 : Int) = 2 := eq_of_beq hb_
                        clear hb_; replace hP := ite_t h373 hP
                        refine vr tbok 4 [] [(29, .int .i64 r321), (30, .int .i64 r341), (203, .bool ((x223 : Int) == 2))] [] E (by kernel_rfl) trivial ?_
                        clear E; intro a E
                        refine E.cases (t := 203) rfl (fun hb_ E_ => ?_) (fun hb_ E_ => ?_)
                        ·
                         replace E := E_; clear E_
                         have h374 : (x223 : Int) = 2 := eq_of_beq hb_
                         clear hb_; replace hP := ite_t h374 hP
                         refine vr tbok 4 [] [(30, .int .i64 r341), (207, .bool ((r321 : Int) == 0))] [] E (by kernel_rfl) trivial ?_
                         clear E; intro a E
                         refine E.cases (t := 207) rfl (fun hb_ E_ => ?_) (fun hb_ E_ => ?_)
                         ·
                          replace E := E_; clear E_
                          have h375 : (r321 : Int) = 0 := eq_of_beq hb_
                          clear hb_; replace hP := ite_t h375 hP
                          refine vr tbok 4 [] [(0, .bool ((r341 : Int) == 12))] [] E (by kernel_rfl) trivial ?_
                          clear E; intro a E
                          refine wpList_nil ?_
                          refine th_n ?_
                          refine wp_ret ?_
                          obtain rfl := Option.some.inj hP
                          refine ret1 E rfl rfl ?_
                          exact ⟨_, rfl, rfl, H.sel [] rfl⟩
                         ·
                          replace E := E_; clear E_
                          have h376 : ¬ ((r321 : Int) = 0) := ne_of_beq_false hb_
                          clear hb_; replace hP := ite_f h376 hP
                          refine vr tbok 4 [] [(0, .bool false)] [] E (by kernel_rfl) trivial ?_
                          clear E; intro a E
                          refine wpList_nil ?_
                          refine th_n ?_
                          refine wp_ret ?_
                          obtain rfl := Option.some.inj hP
                          refine ret1 E rfl rfl ?_
                          exact ⟨_, rfl, rfl, H.sel [] rfl⟩
                        ·
                         replace E := E_; clear E_
                         have h377 : ¬ ((x223 : Int) = 2) := ne_of_beq_false hb_
                         clear hb_; replace hP := ite_f h377 hP
                         refine vr tbok 8 [] [(0, .bool false)] [] E (by kernel_rfl) trivial ?_
                         clear E; intro a E
                         refine wpList_nil ?_
                         refine th_n ?_
                         refine wp_ret ?_
                         obtain rfl := Option.some.inj hP
                         refine ret1 E rfl rfl ?_
                         exact ⟨_, rfl, rfl, H.sel [] rfl⟩
                       ·
                        replace E := E_; clear E_
                        have h378 : ¬ ((r187.2.1 : Int) = 2) := ne_of_beq_false hb_
                        clear hb_; replace hP := ite_f h378 hP
                        refine vr tbok 12 [] [(0, .bool false)] [] E (by kernel_rfl) trivial ?_
                        clear E; intro a E
                        refine wpList_nil ?_
                        refine th_n ?_
                        refine wp_ret ?_
                        obtain rfl := Option.some.inj hP
                        refine ret1 E rfl rfl ?_
                        exact ⟨_, rfl, rfl, H.sel [] rfl⟩
                      ·
                       replace E := E_; clear E_
                       have h379 : ¬ ((r163.2.1 : Int) = 2) := ne_of_beq_false hb_
                       clear hb_; replace hP := ite_f h379 hP
                       refine vr tbok 16 [] [(0, .bool false)] [] E (by kernel_rfl) trivial ?_
                       clear E; intro a E
                       refine wpList_nil ?_
                       refine th_n ?_
                       refine wp_ret ?_
                       obtain rfl := Option.some.inj hP
                       refine ret1 E rfl rfl ?_
                       exact ⟨_, rfl, rfl, H.sel [] rfl⟩
                     ·
                      replace E := E_; clear E_
                      have h380 : ¬ ((r298.2 : Int) = 2) := ne_of_beq_false hb_
                      clear hb_; replace hP := ite_f h380 hP
                      refine vr tbok 20 [] [(0, .bool false)] [] E (by kernel_rfl) trivial ?_
                      clear E; intro a E
                      refine wpList_nil ?_
                      refine th_n ?_
                      refine wp_ret ?_
                      obtain rfl := Option.some.inj hP
                      refine ret1 E rfl rfl ?_
                      exact ⟨_, rfl, rfl, H.sel [] rfl⟩
                    ·
                     replace E := E_; clear E_
                     have h381 : ¬ (r361 = true) := (ne_true_of_eq_false hb_)
                     clear hb_; replace hP := ite_f h381 hP
                     refine vr tbok 24 [] [(0, .bool false)] [] E (by kernel_rfl) trivial ?_
                     clear E; intro a E
                     refine wpList_nil ?_
                     refine th_n ?_
                     refine wp_ret ?_
                     obtain rfl := Option.some.inj hP
                     refine ret1 E rfl rfl ?_
                     exact ⟨_, rfl, rfl, H.sel [] rfl⟩
                   ·
                    replace E := E_; clear E_
                    have h382 : ¬ ((r286.2 : Int) = 0) := ne_of_beq_false hb_
                    clear hb_; replace hP := ite_f h382 hP
                    refine vr tbok 29 [] [(0, .bool false)] [] E (by kernel_rfl) trivial ?_
                    clear E; intro a E
                    refine wpList_nil ?_
                    refine th_n ?_
                    refine wp_ret ?_
                    obtain rfl := Option.some.inj hP
                    refine ret1 E rfl rfl ?_
                    exact ⟨_, rfl, rfl, H.sel [] rfl⟩
                  ·
                   replace E := E_; clear E_
                   have h383 : r277.2 = true := (not_f hb_)
                   clear hb_; replace hP := ite_t h383 hP
                   refine vr tbok 33 [] [(0, .bool false)] [] E (by kernel_rfl) trivial ?_
                   clear E; intro a E
                   refine wpList_nil ?_
                   refine th_n ?_
                   refine wp_ret ?_
                   obtain rfl := Option.some.inj hP
                   refine ret1 E rfl rfl ?_
                   exact ⟨_, rfl, rfl, H.sel [] rfl⟩
                 ·
                  replace E := E_; clear E_
                  have h384 : ¬ (r268.2 = true) := (ne_true_of_eq_false hb_)
                  clear hb_; replace hP := ite_f h384 hP
                  refine vr tbok 37 [] [(0, .bool false)] [] E (by kernel_rfl) trivial ?_
                  clear E; intro a E
                  refine wpList_nil ?_
                  refine th_n ?_
                  refine wp_ret ?_
                  obtain rfl := Option.some.inj hP
                  refine ret1 E rfl rfl ?_
                  exact ⟨_, rfl, rfl, H.sel [] rfl⟩
                ·
                 replace E := E_; clear E_
                 have h385 : ¬ ((r268.1 : Int) = 1) := ne_of_beq_false hb_
                 clear hb_; replace hP := ite_f h385 hP
                 refine vr tbok 40 [] [(0, .bool false)] [] E (by kernel_rfl) trivial ?_
                 clear E; intro a E
                 refine wpList_nil ?_
                 refine th_n ?_
                 refine wp_ret ?_
                 obtain rfl := Option.some.inj hP
                 refine ret1 E rfl rfl ?_
                 exact ⟨_, rfl, rfl, H.sel [] rfl⟩
               ·
                replace E := E_; clear E_
                have h386 : ¬ (r259.2 = true) := (ne_true_of_eq_false hb_)
                clear hb_; replace hP := ite_f h386 hP
                refine vr tbok 44 [] [(0, .bool false)] [] E (by kernel_rfl) trivial ?_
                clear E; intro a E
                refine wpList_nil ?_
                refine th_n ?_
                refine wp_ret ?_
                obtain rfl := Option.some.inj hP
                refine ret1 E rfl rfl ?_
                exact ⟨_, rfl, rfl, H.sel [] rfl⟩
              ·
               replace E := E_; clear E_
               have h387 : ¬ ((r259.1 : Int) = 0) := ne_of_beq_false hb_
               clear hb_; replace hP := ite_f h387 hP
               refine vr tbok 47 [] [(0, .bool false)] [] E (by kernel_rfl) trivial ?_
               clear E; intro a E
               refine wpList_nil ?_
               refine th_n ?_
               refine wp_ret ?_
               obtain rfl := Option.some.inj hP
               refine ret1 E rfl rfl ?_
               exact ⟨_, rfl, rfl, H.sel [] rfl⟩
   ·
    subst hr_; have hP := (elim_r hP)
    obtain ⟨x224, hxx_⟩ : ∃ y_, y_ = x_ := ⟨_, rfl⟩; subst hxx_
    replace E := E_ _ rfl; clear E_
    obtain ⟨H_, hc218⟩ := hb210 _ _ HR222 rfl
    replace H := H_; clear H_; try dsimp only [setn, addE, goneL] at H
    refine vr tbok 5 [] [(3, .int .i64 r30.1), (4, .int .i64 r30.2.1), (5, .int .i64 r49), (6, .int .i64 r71.1), (7, .int .i64 r71.2.1), (8, .int .i64 r95.1), (9, .int .i64 r95.2.1), (10, .int .i64 r119.1), (11, .int .i64 r119.2.1), (12, .slice A152 (List.length r138) c153), (14, .int .i64 r163.2.1), (16, .int .i64 r187.2.1), (18, .int .i64 x224)] [] E (by kernel_rfl) trivial ?_
    clear E; intro a E
    refine wpList_nil ?_
    refine th_n ?_
    refine wp_seq ?_
    refine wp_seq ?_
    refine wp_region_lit ?_
    refine vr tbok 3 [] [(3, .int .i64 r30.1), (5, .int .i64 r49), (6, .int .i64 r71.1), (7, .int .i64 r71.2.1), (8, .int .i64 r95.1), (9, .int .i64 r95.2.1), (10, .int .i64 r119.1), (11, .int .i64 r119.2.1), (12, .slice A152 (List.length r138) c153), (14, .int .i64 r163.2.1), (16, .int .i64 r187.2.1), (18, .int .i64 x224), (87, .bool ((r30.2.1 : Int) != 0))] [] E (by kernel_rfl) trivial ?_
    clear E; intro a E
    refine E.cases (t := 87) rfl (fun hb_ E_ => ?_) (fun hb_ E_ => ?_)
    ·
     replace E := E_; clear E_
     have h390 : ¬ ((r30.2.1 : Int) = 0) := bne_iff_ne.1 hb_
     clear hb_; replace hP := ite_f h390 hP
     refine vr tbok 41 [] [(12, .slice A152 (List.length r138) c153), (14, .int .i64 r163.2.1), (16, .int .i64 r187.2.1), (18, .int .i64 x224), (128, .bool true)] [] E (by kernel_rfl) trivial ?_
     clear E; intro a E
     refine wpList_nil ?_
     refine th_n ?_
     refine c_true E rfl ?_
     refine wp_seq ?_
     refine wp_region_lit ?_
     refine vr tbok 1 [] [(0, .bool false)] [] E (by kernel_rfl) trivial ?_
     clear E; intro a E
     refine wpList_nil ?_
     refine th_n ?_
     refine wp_ret ?_
     refine th_ret ?_
     obtain rfl := Option.some.inj hP
     refine ret1 E rfl rfl ?_
     exact ⟨_, rfl, rfl, H.sel [] rfl⟩
    ·
     replace E := E_; clear E_
     have h391 : (r30.2.1 : Int) = 0 := bne_eq_false_iff_eq.1 hb_
     clear hb_; replace hP := ite_t h391 hP
     refine vr tbok 4 [] [(3, .int .i64 r30.1), (5, .int .i64 r49), (6, .int .i64 r71.1), (8, .int .i64 r95.1), (9, .int .i64 r95.2.1), (10, .int .i64 r119.1), (11, .int .i64 r119.2.1), (12, .slice A152 (List.length r138) c153), (14, .int .i64 r163.2.1), (16, .int .i64 r187.2.1), (18, .int .i64 x224), (91, .bool ((r71.2.1 : Int) != 0))] [] E (by kernel_rfl) trivial ?_
     clear E; intro a E
     refine E.cases (t := 91) rfl (fun hb_ E_ => ?_) (fun hb_ E_ => ?_)
     ·
      replace E := E_; clear E_
      have h392 : ¬ ((r71.2.1 : Int) = 0) := bne_iff_ne.1 hb_
      clear hb_; replace hP := ite_f h392 hP
      refine vr tbok 37 [] [(12, .slice A152 (List.length r138) c153), (14, .int .i64 r163.2.1), (16, .int .i64 r187.2.1), (18, .int .i64 x224), (128, .bool true)] [] E (by kernel_rfl) trivial ?_
      clear E; intro a E
      refine wpList_nil ?_
      refine th_n ?_
      refine c_true E rfl ?_
      refine wp_seq ?_
      refine wp_region_lit ?_
      refine vr tbok 1 [] [(0, .bool false)] [] E (by kernel_rfl) trivial ?_
      clear E; intro a E
      refine wpList_nil ?_
      refine th_n ?_
      refine wp_ret ?_
      refine th_ret ?_
      obtain rfl := Option.some.inj hP
      refine ret1 E rfl rfl ?_
      exact ⟨_, rfl, rfl, H.sel [] rfl⟩
     ·
      replace E := E_; clear E_
      have h393 : (r71.2.1 : Int) = 0 := bne_eq_false_iff_eq.1 hb_
      clear hb_; replace hP := ite_t h393 hP
      refine vr tbok 4 [] [(3, .int .i64 r30.1), (5, .int .i64 r49), (6, .int .i64 r71.1), (8, .int .i64 r95.1), (10, .int .i64 r119.1), (11, .int .i64 r119.2.1), (12, .slice A152 (List.length r138) c153), (14, .int .i64 r163.2.1), (16, .int .i64 r187.2.1), (18, .int .i64 x224), (95, .bool ((r95.2.1 : Int) != 0))] [] E (by kernel_rfl) trivial ?_
      clear E; intro a E
      refine E.cases (t := 95) rfl (fun hb_ E_ => ?_) (fun hb_ E_ => ?_)
      ·
       replace E := E_; clear E_
       have h394 : ¬ ((r95.2.1 : Int) = 0) := bne_iff_ne.1 hb_
       clear hb_; replace hP := ite_f h394 hP
       refine vr tbok 33 [] [(12, .slice A152 (List.length r138) c153), (14, .int .i64 r163.2.1), (16, .int .i64 r187.2.1), (18, .int .i64 x224), (128, .bool true)] [] E (by kernel_rfl) trivial ?_
       clear E; intro a E
       refine wpList_nil ?_
       refine th_n ?_
       refine c_true E rfl ?_
       refine wp_seq ?_
       refine wp_region_lit ?_
       refine vr tbok 1 [] [(0, .bool false)] [] E (by kernel_rfl) trivial ?_
       clear E; intro a E
       refine wpList_nil ?_
       refine th_n ?_
       refine wp_ret ?_
       refine th_ret ?_
       obtain rfl := Option.some.inj hP
       refine ret1 E rfl rfl ?_
       exact ⟨_, rfl, rfl, H.sel [] rfl⟩
      ·
       replace E := E_; clear E_
       have h395 : (r95.2.1 : Int) = 0 := bne_eq_false_iff_eq.1 hb_
       clear hb_; replace hP := ite_t h395 hP
       refine vr tbok 4 [] [(3, .int .i64 r30.1), (5, .int .i64 r49), (6, .int .i64 r71.1), (8, .int .i64 r95.1), (10, .int .i64 r119.1), (12, .slice A152 (List.length r138) c153), (14, .int .i64 r163.2.1), (16, .int .i64 r187.2.1), (18, .int .i64 x224), (99, .bool ((r119.2.1 : Int) != 0))] [] E (by kernel_rfl) trivial ?_
       clear E; intro a E
       refine E.cases (t := 99) rfl (fun hb_ E_ => ?_) (fun hb_ E_ => ?_)
       ·
        replace E := E_; clear E_
        have h396 : ¬ ((r119.2.1 : Int) = 0) := bne_iff_ne.1 hb_
        clear hb_; replace hP := ite_f h396 hP
        refine vr tbok 29 [] [(12, .slice A152 (List.length r138) c153), (14, .int .i64 r163.2.1), (16, .int .i64 r187.2.1), (18, .int .i64 x224), (128, .bool true)] [] E (by kernel_rfl) trivial ?_
        clear E; intro a E
        refine wpList_nil ?_
        refine th_n ?_
        refine c_true E rfl ?_
        refine wp_seq ?_
        refine wp_region_lit ?_
        refine vr tbok 1 [] [(0, .bool false)] [] E (by kernel_rfl) trivial ?_
        clear E; intro a E
        refine wpList_nil ?_
        refine th_n ?_
        refine wp_ret ?_
        refine th_ret ?_
        obtain rfl := Option.some.inj hP
        refine ret1 E rfl rfl ?_
        exact ⟨_, rfl, rfl, H.sel [] rfl⟩
       ·
        replace E := E_; clear E_
        have h397 : (r119.2.1 : Int) = 0 := bne_eq_false_iff_eq.1 hb_
        clear hb_; replace hP := ite_t h397 hP
        refine vr tbok 4 [] [(5, .int .i64 r49), (6, .int .i64 r71.1), (8, .int .i64 r95.1), (10, .int .i64 r119.1), (12, .slice A152 (List.length r138) c153), (14, .int .i64 r163.2.1), (16, .int .i64 r187.2.1), (18, .int .i64 x224), (103, .bool ((r30.1 : Int) != (-6)))] [] E (by kernel_rfl) trivial ?_
        clear E; intro a E
        refine E.cases (t := 103) rfl (fun hb_ E_ => ?_) (fun hb_ E_ => ?_)
        ·
         replace E := E_; clear E_
         have h398 : ¬ ((r30.1 : Int) = -6) := bne_iff_ne.1 hb_
         clear hb_; replace hP := ite_f h398 hP
         refine vr tbok 25 [] [(12, .slice A152 (List.length r138) c153), (14, .int .i64 r163.2.1), (16, .int .i64 r187.2.1), (18, .int .i64 x224), (128, .bool true)] [] E (by kernel_rfl) trivial ?_
         clear E; intro a E
         refine wpList_nil ?_
         refine th_n ?_
         refine c_true E rfl ?_
         refine wp_seq ?_
         refine wp_region_lit ?_
         refine vr tbok 1 [] [(0, .bool false)] [] E (by kernel_rfl) trivial ?_
         clear E; intro a E
         refine wpList_nil ?_
         refine th_n ?_
         refine wp_ret ?_
         refine th_ret ?_
         obtain rfl := Option.some.inj hP
         refine ret1 E rfl rfl ?_
         exact ⟨_, rfl, rfl, H.sel [] rfl⟩
        ·
         replace E := E_; clear E_
         have h399 : (r30.1 : Int) = -6 := bne_eq_false_iff_eq.1 hb_
         clear hb_; replace hP := ite_t h399 hP
         refine vr tbok 4 [] [(6, .int .i64 r71.1), (8, .int .i64 r95.1), (10, .int .i64 r119.1), (12, .slice A152 (List.length r138) c153), (14, .int .i64 r163.2.1), (16, .int .i64 r187.2.1), (18, .int .i64 x224), (107, .bool ((r49 : Int) != 0))] [] E (by kernel_rfl) trivial ?_
         clear E; intro a E
         refine E.cases (t := 107) rfl (fun hb_ E_ => ?_) (fun hb_ E_ => ?_)
         ·
          replace E := E_; clear E_
          have h400 : ¬ ((r49 : Int) = 0) := bne_iff_ne.1 hb_
          clear hb_; replace hP := ite_f h400 hP
          refine vr tbok 21 [] [(12, .slice A152 (List.length r138) c153), (14, .int .i64 r163.2.1), (16, .int .i64 r187.2.1), (18, .int .i64 x224), (128, .bool true)] [] E (by kernel_rfl) trivial ?_
          clear E; intro a E
          refine wpList_nil ?_
          refine th_n ?_
          refine c_true E rfl ?_
          refine wp_seq ?_
          refine wp_region_lit ?_
          refine vr tbok 1 [] [(0, .bool false)] [] E (by kernel_rfl) trivial ?_
          clear E; intro a E
          refine wpList_nil ?_
          refine th_n ?_
          refine wp_ret ?_
          refine th_ret ?_
          obtain rfl := Option.some.inj hP
          refine ret1 E rfl rfl ?_
          exact ⟨_, rfl, rfl, H.sel [] rfl⟩
         ·
          replace E := E_; clear E_
          have h401 : (r49 : Int) = 0 := bne_eq_false_iff_eq.1 hb_
          clear hb_; replace hP := ite_t h401 hP
          refine vr tbok 4 [] [(8, .int .i64 r95.1), (10, .int .i64 r119.1), (12, .slice A152 (List.length r138) c153), (14, .int .i64 r163.2.1), (16, .int .i64 r187.2.1), (18, .int .i64 x224), (111, .bool ((r71.1 : Int) != 0))] [] E (by kernel_rfl) trivial ?_
          clear E; intro a E
          refine E.cases (t := 111) rfl (fun hb_ E_ => ?_) (fun hb_ E_ => ?_)
          ·
           replace E := E_; clear E_
           have h402 : ¬ ((r71.1 : Int) = 0) := bne_iff_ne.1 hb_
           clear hb_; replace hP := ite_f h402 hP
           refine vr tbok 17 [] [(12, .slice A152 (List.length r138) c153), (14, .int .i64 r163.2.1), (16, .int .i64 r187.2.1), (18, .int .i64 x224), (128, .bool true)] [] E (by kernel_rfl) trivial ?_
           clear E; intro a E
           refine wpList_nil ?_
           refine th_n ?_
           refine c_true E rfl ?_
           refine wp_seq ?_
           refine wp_region_lit ?_
           refine vr tbok 1 [] [(0, .bool false)] [] E (by kernel_rfl) trivial ?_
           clear E; intro a E
           refine wpList_nil ?_
           refine th_n ?_
           refine wp_ret ?_
           refine th_ret ?_
           obtain rfl := Option.some.inj hP
           refine ret1 E rfl rfl ?_
           exact ⟨_, rfl, rfl, H.sel [] rfl⟩
          ·
           replace E := E_; clear E_
           have h403 : (r71.1 : Int) = 0 := bne_eq_false_iff_eq.1 hb_
           clear hb_; replace hP := ite_t h403 hP
           refine vr tbok 4 [] [(10, .int .i64 r119.1), (12, .slice A152 (List.length r138) c153), (14, .int .i64 r163.2.1), (16, .int .i64 r187.2.1), (18, .int .i64 x224), (115, .bool ((r95.1 : Int) != 1))] [] E (by kernel_rfl) trivial ?_
           clear E; intro a E
           refine E.cases (t := 115) rfl (fun hb_ E_ => ?_) (fun hb_ E_ => ?_)
           ·
            replace E := E_; clear E_
            have h404 : ¬ ((r95.1 : Int) = 1) := bne_iff_ne.1 hb_
            clear hb_; replace hP := ite_f h404 hP
            refine vr tbok 13 [] [(12, .slice A152 (List.length r138) c153), (14, .int .i64 r163.2.1), (16, .int .i64 r187.2.1), (18, .int .i64 x224), (128, .bool true)] [] E (by kernel_rfl) trivial ?_
            clear E; intro a E
            refine wpList_nil ?_
            refine th_n ?_
            refine c_true E rfl ?_
            refine wp_seq ?_
            refine wp_region_lit ?_
            refine vr tbok 1 [] [(0, .bool false)] [] E (by kernel_rfl) trivial ?_
            clear E; intro a E
            refine wpList_nil ?_
            refine th_n ?_
            refine wp_ret ?_
            refine th_ret ?_
            obtain rfl := Option.some.inj hP
            refine ret1 E rfl rfl ?_
            exact ⟨_, rfl, rfl, H.sel [] rfl⟩
           ·
            replace E := E_; clear E_
            have h405 : (r95.1 : Int) = 1 := bne_eq_false_iff_eq.1 hb_
            clear hb_; replace hP := ite_t h405 hP
            refine vr tbok 4 [] [(12, .slice A152 (List.length r138) c153), (14, .int .i64 r163.2.1), (16, .int .i64 r187.2.1), (18, .int .i64 x224), (119, .bool ((r119.1 : Int) != 3))] [] E (by kernel_rfl) trivial ?_
            clear E; intro a E
            refine E.cases (t := 119) rfl (fun hb_ E_ => ?_) (fun hb_ E_ => ?_)
            ·
             replace E := E_; clear E_
             have h406 : ¬ ((r119.1 : Int) = 3) := bne_iff_ne.1 hb_
             clear hb_; replace hP := ite_f h406 hP
             refine vr tbok 9 [] [(12, .slice A152 (List.length r138) c153), (14, .int .i64 r163.2.1), (16, .int .i64 r187.2.1), (18, .int .i64 x224), (128, .bool true)] [] E (by kernel_rfl) trivial ?_
             clear E; intro a E
             refine wpList_nil ?_
             refine th_n ?_
             refine c_true E rfl ?_
             refine wp_seq ?_
             refine wp_region_lit ?_
             refine vr tbok 1 [] [(0, .bool false)] [] E (by kernel_rfl) trivial ?_
             clear E; intro a E
             refine wpList_nil ?_
             refine th_n ?_
             refine wp_ret ?_
             refine th_ret ?_
             obtain rfl := Option.some.inj hP
             refine ret1 E rfl rfl ?_
             exact ⟨_, rfl, rfl, H.sel [] rfl⟩
            ·
             replace E := E_; clear E_
             have h407 : (r119.1 : Int) = 3 := bne_eq_false_iff_eq.1 hb_
             clear hb_; replace hP := ite_t h407 hP
             refine vr tbok 1 [] [(12, .slice A152 (List.length r138) c153), (14, .int .i64 r163.2.1), (16, .int .i64 r187.2.1), (18, .int .i64 x224), (119, .bool false), (120, .slice A152 (List.length r138) c153)] [] E (by kernel_rfl) trivial ?_
             clear E; intro a E
             refine e_build (ps := [(1, .int .i64 (-1)), (2, .int .i64 (-2))]) (v := .agg #[.int .i64 0, .int .i64 (-1), .int .i64 (-2)]) E rfl rfl tbok rfl (by kernel_rfl) rfl ?_
             clear E; intro a E
             refine e_build (ps := [(0, .int .i64 1), (1, .int .i64 (-1)), (2, .int .i64 (-2))]) (v := .agg #[.int .i64 1, .int .i64 (-1), .int .i64 (-2)]) E rfl rfl tbok rfl (by kernel_rfl) rfl ?_
             clear E; intro a E
             refine e_build (ps := [(0, .int .i64 1), (1, .int .i64 (-2)), (2, .int .i64 (-1))]) (v := .agg #[.int .i64 1, .int .i64 (-2), .int .i64 (-1)]) E rfl rfl tbok rfl (by kernel_rfl) rfl ?_
             clear E; intro a E
             refine e_build (ps := [(1, .int .i64 1), (2, .int .i64 2)]) (v := .agg #[.int .i64 0, .int .i64 1, .int .i64 2]) E rfl rfl tbok rfl (by kernel_rfl) rfl ?_
             clear E; intro a E
             refine h_buildSlice (ps := [(0, .agg #[.int .i64 0, .int .i64 (-1), .int .i64 (-2)]), (1, .agg #[.int .i64 1, .int .i64 (-1), .int .i64 (-2)]), (2, .agg #[.int .i64 1, .int .i64 (-2), .int .i64 (-1)]), (3, .agg #[.int .i64 0, .int .i64 1, .int .i64 2])]) (cs := [.int .i64 0, .int .i64 (-1), .int .i64 (-2), .int .i64 1, .int .i64 (-1), .int .i64 (-2), .int .i64 1, .int .i64 (-2), .int .i64 (-1), .int .i64 0, .int .i64 1, .int .i64 2]) H E rfl rfl tbok rfl rfl (by kernel_rfl) ?_
             intro w409 g408 a hc410 hg412 H_ E_
             replace E := E_ _ rfl; clear E_
             replace H := H_; clear H_; try dsimp only [setn, addE, goneL] at H
             replace H := H.boxRow cNode true ([(⟨0, -1, -2⟩ : Nd), (⟨1, -1, -2⟩ : Nd), (⟨1, -2, -1⟩ : Nd), (⟨0, 1, 2⟩ : Nd)] : List Nd) 36 rfl (fun _ _ => ⟨_, _, rfl, rfl, ⟨_, _, rfl, rfl, ⟨_, _, rfl, rfl, ⟨_, _, rfl, rfl, rfl⟩⟩⟩⟩) (Nat.le_of_ble_eq_true rfl); try dsimp only [setn, addE, goneL] at H
             obtain ⟨r413, h414, hP⟩ := bind_inv hP
             obtain ⟨Fa415, Hc416, hb417⟩ := H.call [] [(22, false), (36, false)] rfl rfl trivial
             refine e_call E rfl rfl Try.func25 rfl rfl rfl (kit_SameNodes_calls A152 c153 (some ⟨g408, 0, none⟩) 4 r138 ([(⟨0, -1, -2⟩ : Nd), (⟨1, -1, -2⟩ : Nd), (⟨1, -2, -1⟩ : Nd), (⟨0, 1, 2⟩ : Nd)] : List Nd) (H.rcap 22 rfl) (H.rcapx 36 rfl) Hc416 h414) ?_
             rintro v418 w419 a ⟨rfl, HR420⟩ E_
             replace E := E_ _ rfl; clear E_
             obtain ⟨H_, hc421⟩ := hb417 _ _ HR420 rfl
             replace H := H_; clear H_; try dsimp only [setn, addE, goneL] at H
             refine vr tbok 2 [] [(12, .slice A152 (List.length r138) c153), (14, .int .i64 r163.2.1), (16, .int .i64 r187.2.1), (18, .int .i64 x224), (128, .bool (!r413))] [] E (by kernel_rfl) trivial ?_
             clear E; intro a E
             refine wpList_nil ?_
             refine th_n ?_
             refine E.cases (t := 128) rfl (fun hb_ E_ => ?_) (fun hb_ E_ => ?_)
             ·
              replace E := E_; clear E_
              have h422 : ¬ (r413 = true) := (ne_true_of_eq_false (not_t hb_))
              clear hb_; replace hP := ite_f h422 hP
              refine c_true E rfl ?_
              refine wp_seq ?_
              refine wp_region_lit ?_
              refine vr tbok 1 [] [(0, .bool false)] [] E (by kernel_rfl) trivial ?_
              clear E; intro a E
              refine wpList_nil ?_
              refine th_n ?_
              refine wp_ret ?_
              refine th_ret ?_
              obtain rfl := Option.some.inj hP
              refine ret1 E rfl rfl ?_
              exact ⟨_, rfl, rfl, H.sel [] rfl⟩
             ·
              replace E := E_; clear E_
              have h423 : r413 = true := (not_f hb_)
              clear hb_; replace hP := ite_t h423 hP
              refine c_false E rfl ?_
              refine wp_skip ?_
              refine th_n ?_
              refine wp_seq ?_
              refine wp_region_lit ?_
              refine vr tbok 1 [] [(12, .slice A152 (List.length r138) c153), (14, .int .i64 r163.2.1), (16, .int .i64 r187.2.1), (18, .int .i64 x224), (130, .slice A152 (List.length r138) c153)] [] E (by kernel_rfl) trivial ?_
              clear E; intro a E
              obtain ⟨r424, h425, hP⟩ := bind_inv hP
              obtain ⟨Fa426, Hc427, hb428⟩ := H.call [] [(22, false)] rfl rfl trivial
              refine e_call E rfl rfl Try.func9 rfl rfl rfl (guard_Go_calls A152 c153 r138 3 3 (H.rcap 22 rfl) Hc427 h425) ?_
              rintro v429 w430 a ⟨rfl, HR431⟩ E_
              replace E := E_ _ rfl; clear E_
              obtain ⟨H_, hc432⟩ := hb428 _ _ HR431 rfl
              replace H := H_; clear H_; try dsimp only [setn, addE, goneL] at H
              refine vr tbok 5 [] [(12, .slice A152 (List.length r138) c153), (14, .int .i64 r163.2.1), (16, .int .i64 r187.2.1), (18, .int .i64 x224), (19, .int .i64 r424.1), (20, .bool r424.2)] [] E (by kernel_rfl) trivial ?_
              clear E; intro a E
              refine wpList_nil ?_
              refine th_n ?_
              refine wp_seq ?_
              refine wp_region_lit ?_
              refine vr tbok 1 [] [(12, .slice A152 (List.length r138) c153), (14, .int .i64 r163.2.1), (16, .int .i64 r187.2.1), (18, .int .i64 x224), (19, .int .i64 r424.1), (20, .bool r424.2), (135, .slice A152 (List.length r138) c153)] [] E (by kernel_rfl) trivial ?_
              clear E; intro a E
              obtain ⟨r433, h434, hP⟩ := bind_inv hP
              obtain ⟨Fa435, Hc436, hb437⟩ := H.call [] [(22, false)] rfl rfl trivial
              refine e_call E rfl rfl Try.func9 rfl rfl rfl (guard_Go_calls A152 c153 r138 3 1 (H.rcap 22 rfl) Hc436 h434) ?_
              rintro v438 w439 a ⟨rfl, HR440⟩ E_
              replace E := E_ _ rfl; clear E_
              obtain ⟨H_, hc441⟩ := hb437 _ _ HR440 rfl
              replace H := H_; clear H_; try dsimp only [setn, addE, goneL] at H
              refine vr tbok 5 [] [(12, .slice A152 (List.length r138) c153), (14, .int .i64 r163.2.1), (16, .int .i64 r187.2.1), (18, .int .i64 x224), (19, .int .i64 r424.1), (20, .bool r424.2), (21, .int .i64 r433.1), (22, .bool r433.2)] [] E (by kernel_rfl) trivial ?_
              clear E; intro a E
              refine wpList_nil ?_
              refine th_n ?_
              refine wp_seq ?_
              refine wp_region_lit ?_
              refine vr tbok 1 [] [(12, .slice A152 (List.length r138) c153), (14, .int .i64 r163.2.1), (16, .int .i64 r187.2.1), (18, .int .i64 x224), (19, .int .i64 r424.1), (20, .bool r424.2), (21, .int .i64 r433.1), (22, .bool r433.2), (140, .slice A152 (List.length r138) c153)] [] E (by kernel_rfl) trivial ?_
              clear E; intro a E
              obtain ⟨r442, h443, hP⟩ := bind_inv hP
              obtain ⟨Fa444, Hc445, hb446⟩ := H.call [] [(22, false)] rfl rfl trivial
              refine e_call E rfl rfl Try.func9 rfl rfl rfl (guard_Go_calls A152 c153 r138 9 0 (H.rcap 22 rfl) Hc445 h443) ?_
              rintro v447 w448 a ⟨rfl, HR449⟩ E_
              replace E := E_ _ rfl; clear E_
              obtain ⟨H_, hc450⟩ := hb446 _ _ HR449 rfl
              replace H := H_; clear H_; try dsimp only [setn, addE, goneL] at H
              refine vr tbok 5 [] [(12, .slice A152 (List.length r138) c153), (14, .int .i64 r163.2.1), (16, .int .i64 r187.2.1), (18, .int .i64 x224), (19, .int .i64 r424.1), (20, .bool r424.2), (21, .int .i64 r433.1), (22, .bool r433.2), (24, .bool r442.2)] [] E (by kernel_rfl) trivial ?_
              clear E; intro a E
              refine wpList_nil ?_
              refine th_n ?_
              refine wp_seq ?_
              refine wp_region_lit ?_
              refine vr tbok 1 [] [(12, .slice A152 (List.length r138) c153), (14, .int .i64 r163.2.1), (16, .int .i64 r187.2.1), (18, .int .i64 x224), (19, .int .i64 r424.1), (20, .bool r424.2), (21, .int .i64 r433.1), (22, .bool r433.2), (24, .bool r442.2), (145, .slice A152 (List.length r138) c153)] [] E (by kernel_rfl) trivial ?_
              clear E; intro a E
              obtain ⟨r451, h452, hP⟩ := bind_inv hP
              obtain ⟨Fa453, Hc454, hb455⟩ := H.call [] [(22, false)] rfl rfl trivial
              refine e_call E rfl rfl Try.func11 rfl rfl rfl (guard_Table_calls A152 c153 2 r138 1 (H.rcap 22 rfl) Hc454 h452) ?_
              rintro v456 w457 a ⟨A460, c461, rfl, HR458⟩ E_
              replace E := E_ _ rfl; clear E_
              obtain ⟨H_, hc459⟩ := hb455 _ _ HR458 rfl
              replace H := H_; clear H_; try dsimp only [setn, addE, goneL] at H
              refine vr tbok 5 [] [(12, .slice A152 (List.length r138) c153), (14, .int .i64 r163.2.1), (16, .int .i64 r187.2.1), (18, .int .i64 x224), (19, .int .i64 r424.1), (20, .bool r424.2), (21, .int .i64 r433.1), (22, .bool r433.2), (24, .bool r442.2), (25, .slice A460 (List.length r451.1) c461), (26, .int .i64 r451.2)] [] E (by kernel_rfl) trivial ?_
              clear E; intro a E
              refine wpList_nil ?_
              refine th_n ?_
              refine wp_seq ?_
              refine wp_region_lit ?_
              refine vr tbok 1 [] [(14, .int .i64 r163.2.1), (16, .int .i64 r187.2.1), (18, .int .i64 x224), (19, .int .i64 r424.1), (20, .bool r424.2), (21, .int .i64 r433.1), (22, .bool r433.2), (24, .bool r442.2), (25, .slice A460 (List.length r451.1) c461), (26, .int .i64 r451.2), (150, .slice A152 (List.length r138) c153)] [] E (by kernel_rfl) trivial ?_
              clear E; intro a E
              obtain ⟨r463, h464, hP⟩ := bind_inv hP
              obtain ⟨Fa465, Hc466, hb467⟩ := H.call [] [(22, false)] rfl rfl trivial
              refine e_call E rfl rfl Try.func11 rfl rfl rfl (guard_Table_calls A152 c153 9 r138 1 (H.rcap 22 rfl) Hc466 h464) ?_
              rintro v468 w469 a ⟨A472, c473, rfl, HR470⟩ E_
              replace E := E_ _ rfl; clear E_
              obtain ⟨H_, hc471⟩ := hb467 _ _ HR470 rfl
              replace H := H_; clear H_; try dsimp only [setn, addE, goneL] at H
              refine vr tbok 5 [] [(14, .int .i64 r163.2.1), (16, .int .i64 r187.2.1), (18, .int .i64 x224), (19, .int .i64 r424.1), (20, .bool r424.2), (21, .int .i64 r433.1), (22, .bool r433.2), (24, .bool r442.2), (25, .slice A460 (List.length r451.1) c461), (26, .int .i64 r451.2), (28, .int .i64 r463.2)] [] E (by kernel_rfl) trivial ?_
              clear E; intro a E
              refine wpList_nil ?_
              refine th_n ?_
              refine wp_seq ?_
              refine wp_region_lit ?_
              refine h_buildSlice (ps := [(0, .bool true)]) (cs := [.bool true]) H E rfl rfl tbok rfl rfl (by kernel_rfl) ?_
              intro w476 g475 a hc477 hg479 H_ E_
              replace E := E_ _ rfl; clear E_
              replace H := H_; clear H_; try dsimp only [setn, addE, goneL] at H
              refine h_buildSlice (ps := [(0, .int .i64 (-1))]) (cs := [.int .i64 (-1)]) H E rfl rfl tbok rfl rfl (by kernel_rfl) ?_
              intro w481 g480 a hc482 hg484 H_ E_
              replace E := E_ _ rfl; clear E_
              replace H := H_; clear H_; try dsimp only [setn, addE, goneL] at H
              refine e_build (ps := [(1, .slice (some ⟨g475, 0, none⟩) 1 1), (2, .slice (some ⟨g480, 0, none⟩) 1 1)]) (v := .agg #[.int .i64 0, .slice (some ⟨g475, 0, none⟩) 1 1, .slice (some ⟨g480, 0, none⟩) 1 1, .slice none 0 0]) E rfl rfl tbok rfl (by kernel_rfl) rfl ?_
              clear E; intro a E
              replace H := H.boxRow cBool true ([true] : List Bool) 39 rfl (fun _ _ => ⟨_, _, rfl, rfl, rfl⟩) (Nat.le_of_ble_eq_true rfl); try dsimp only [setn, addE, goneL] at H
              replace H := H.boxRow (cInt .i64) true ([-1] : List Int) 40 rfl (fun _ _ => ⟨_, _, rfl, rfl, rfl⟩) (Nat.le_of_ble_eq_true rfl); try dsimp only [setn, addE, goneL] at H
              replace H := H.nilrow cNode 64; try dsimp only [setn, addE, goneL] at H
              obtain ⟨r486, h487, hP⟩ := bind_inv hP
              obtain ⟨Fa488, Hc489, hb490⟩ := H.call [] [(39, false), (40, false), (41, false)] rfl rfl trivial
              refine e_call E rfl rfl Try.func14 rfl rfl rfl (guard_Check_calls (some ⟨g475, 0, none⟩) 1 (some ⟨g480, 0, none⟩) 1 none 0 0 ([true] : List Bool) ([-1] : List Int) [] (H.rcapx 39 rfl) (H.rcapx 40 rfl) (Nat.le_refl _) Hc489 h487) ?_
              rintro v491 w492 a ⟨rfl, HR493⟩ E_
              replace E := E_ _ rfl; clear E_
              obtain ⟨H_, hc494⟩ := hb490 _ _ HR493 rfl
              replace H := H_; clear H_; try dsimp only [setn, addE, goneL] at H
              refine vr tbok 1 [] [(14, .int .i64 r163.2.1), (16, .int .i64 r187.2.1), (18, .int .i64 x224), (19, .int .i64 r424.1), (20, .bool r424.2), (21, .int .i64 r433.1), (22, .bool r433.2), (24, .bool r442.2), (25, .slice A460 (List.length r451.1) c461), (26, .int .i64 r451.2), (28, .int .i64 r463.2), (29, .int .i64 r486)] [] E (by kernel_rfl) trivial ?_
              clear E; intro a E
              refine wpList_nil ?_
              refine th_n ?_
              refine wp_seq ?_
              refine wp_region_lit ?_
              refine h_buildSlice (ps := [(0, .bool true)]) (cs := [.bool true]) H E rfl rfl tbok rfl rfl (by kernel_rfl) ?_
              intro w496 g495 a hc497 hg499 H_ E_
              replace E := E_ _ rfl; clear E_
              replace H := H_; clear H_; try dsimp only [setn, addE, goneL] at H
              refine h_buildSlice (ps := [(0, .int .i64 0)]) (cs := [.int .i64 0]) H E rfl rfl tbok rfl rfl (by kernel_rfl) ?_
              intro w501 g500 a hc502 hg504 H_ E_
              replace E := E_ _ rfl; clear E_
              replace H := H_; clear H_; try dsimp only [setn, addE, goneL] at H
              refine e_build (ps := [(1, .slice (some ⟨g495, 0, none⟩) 1 1), (2, .slice (some ⟨g500, 0, none⟩) 1 1)]) (v := .agg #[.int .i64 0, .slice (some ⟨g495, 0, none⟩) 1 1, .slice (some ⟨g500, 0, none⟩) 1 1, .slice none 0 0]) E rfl rfl tbok rfl (by kernel_rfl) rfl ?_
              clear E; intro a E
              replace H := H.boxRow cBool true ([true] : List Bool) 42 rfl (fun _ _ => ⟨_, _, rfl, rfl, rfl⟩) (Nat.le_of_ble_eq_true rfl); try dsimp only [setn, addE, goneL] at H
              replace H := H.boxRow (cInt .i64) true ([0] : List Int) 43 rfl (fun _ _ => ⟨_, _, rfl, rfl, rfl⟩) (Nat.le_of_ble_eq_true rfl); try dsimp only [setn, addE, goneL] at H
              replace H := H.nilrow cNode 64; try dsimp only [setn, addE, goneL] at H
              obtain ⟨r506, h507, hP⟩ := bind_inv hP
              obtain ⟨Fa508, Hc509, hb510⟩ := H.call [] [(42, false), (43, false), (44, false)] rfl rfl trivial
              refine e_call E rfl rfl Try.func14 rfl rfl rfl (guard_Check_calls (some ⟨g495, 0, none⟩) 1 (some ⟨g500, 0, none⟩) 1 none 0 0 ([true] : List Bool) ([0] : List Int) [] (H.rcapx 42 rfl) (H.rcapx 43 rfl) (Nat.le_refl _) Hc509 h507) ?_
              rintro v511 w512 a ⟨rfl, HR513⟩ E_
              replace E := E_ _ rfl; clear E_
              obtain ⟨H_, hc514⟩ := hb510 _ _ HR513 rfl
              replace H := H_; clear H_; try dsimp only [setn, addE, goneL] at H
              refine vr tbok 1 [] [(14, .int .i64 r163.2.1), (16, .int .i64 r187.2.1), (18, .int .i64 x224), (19, .int .i64 r424.1), (20, .bool r424.2), (21, .int .i64 r433.1), (22, .bool r433.2), (24, .bool r442.2), (25, .slice A460 (List.length r451.1) c461), (26, .int .i64 r451.2), (28, .int .i64 r463.2), (29, .int .i64 r486), (30, .int .i64 r506)] [] E (by kernel_rfl) trivial ?_
              clear E; intro a E
              refine wpList_nil ?_
              refine th_n ?_
              refine wp_seq ?_
              refine wp_region_lit ?_
              refine vr tbok 3 [] [(14, .int .i64 r163.2.1), (16, .int .i64 r187.2.1), (18, .int .i64 x224), (20, .bool r424.2), (21, .int .i64 r433.1), (22, .bool r433.2), (24, .bool r442.2), (25, .slice A460 (List.length r451.1) c461), (26, .int .i64 r451.2), (28, .int .i64 r463.2), (29, .int .i64 r486), (30, .int .i64 r506), (164, .bool ((r424.1 : Int) == 0))] [] E (by kernel_rfl) trivial ?_
              clear E; intro a E
              refine E.cases (t := 164) rfl (fun hb_ E_ => ?_) (fun hb_ E_ => ?_)
              ·
               replace E := E_; clear E_
               have h515 : (r424.1 : Int) = 0 := eq_of_beq hb_
               clear hb_; replace hP := ite_t h515 hP
               refine vr tbok 3 [] [(14, .int .i64 r163.2.1), (16, .int .i64 r187.2.1), (18, .int .i64 x224), (21, .int .i64 r433.1), (22, .bool r433.2), (24, .bool r442.2), (25, .slice A460 (List.length r451.1) c461), (26, .int .i64 r451.2), (28, .int .i64 r463.2), (29, .int .i64 r486), (30, .int .i64 r506), (167, .bool r424.2)] [] E (by kernel_rfl) trivial ?_
               clear E; intro a E
               refine E.cases (t := 167) rfl (fun hb_ E_ => ?_) (fun hb_ E_ => ?_)
               ·
                replace E := E_; clear E_
                have h516 : r424.2 = true := hb_
                clear hb_; replace hP := ite_t h516 hP
                refine vr tbok 4 [] [(14, .int .i64 r163.2.1), (16, .int .i64 r187.2.1), (18, .int .i64 x224), (22, .bool r433.2), (24, .bool r442.2), (25, .slice A460 (List.length r451.1) c461), (26, .int .i64 r451.2), (28, .int .i64 r463.2), (29, .int .i64 r486), (30, .int .i64 r506), (171, .bool ((r433.1 : Int) == 1))] [] E (by kernel_rfl) trivial ?_
                clear E; intro a E
                refine E.cases (t := 171) rfl (fun hb_ E_ => ?_) (fun hb_ E_ => ?_)
                ·
                 replace E := E_; clear E_
                 have h517 : (r433.1 : Int) = 1 := eq_of_beq hb_
                 clear hb_; replace hP := ite_t h517 hP
                 refine vr tbok 3 [] [(14, .int .i64 r163.2.1), (16, .int .i64 r187.2.1), (18, .int .i64 x224), (24, .bool r442.2), (25, .slice A460 (List.length r451.1) c461), (26, .int .i64 r451.2), (28, .int .i64 r463.2), (29, .int .i64 r486), (30, .int .i64 r506), (174, .bool r433.2)] [] E (by kernel_rfl) trivial ?_
                 clear E; intro a E
                 refine E.cases (t := 174) rfl (fun hb_ E_ => ?_) (fun hb_ E_ => ?_)
                 ·
                  replace E := E_; clear E_
                  have h518 : r433.2 = true := hb_
                  clear hb_; replace hP := ite_t h518 hP
                  refine vr tbok 4 [] [(14, .int .i64 r163.2.1), (16, .int .i64 r187.2.1), (18, .int .i64 x224), (25, .slice A460 (List.length r451.1) c461), (26, .int .i64 r451.2), (28, .int .i64 r463.2), (29, .int .i64 r486), (30, .int .i64 r506), (178, .bool (!r442.2))] [] E (by kernel_rfl) trivial ?_
                  clear E; intro a E
                  refine E.cases (t := 178) rfl (fun hb_ E_ => ?_) (fun hb_ E_ => ?_)
                  ·
                   replace E := E_; clear E_
                   have h519 : ¬ (r442.2 = true) := (ne_true_of_eq_false (not_t hb_))
                   clear hb_; replace hP := ite_f h519 hP
                   refine vr tbok 4 [] [(14, .int .i64 r163.2.1), (16, .int .i64 r187.2.1), (18, .int .i64 x224), (25, .slice A460 (List.length r451.1) c461), (28, .int .i64 r463.2), (29, .int .i64 r486), (30, .int .i64 r506), (182, .bool ((r451.2 : Int) == 0))] [] E (by kernel_rfl) trivial ?_
                   clear E; intro a E
                   refine E.cases (t := 182) rfl (fun hb_ E_ => ?_) (fun hb_ E_ => ?_)
                   ·
                    replace E := E_; clear E_
                    have h520 : (r451.2 : Int) = 0 := eq_of_beq hb_
                    clear hb_; replace hP := ite_t h520 hP
                    refine vr tbok 1 [] [(14, .int .i64 r163.2.1), (16, .int .i64 r187.2.1), (18, .int .i64 x224), (28, .int .i64 r463.2), (29, .int .i64 r486), (30, .int .i64 r506), (182, .bool true), (183, .slice A460 (List.length r451.1) c461)] [] E (by kernel_rfl) trivial ?_
                    clear E; intro a E
                    refine h_buildSlice (ps := [(0, .int .i64 0), (1, .int .i64 0), (2, .int .i64 1), (3, .int .i64 1)]) (cs := [.int .i64 0, .int .i64 0, .int .i64 1, .int .i64 1]) H E rfl rfl tbok rfl rfl (by kernel_rfl) ?_
                    intro w522 g521 a hc523 hg525 H_ E_
                    replace E := E_ _ rfl; clear E_
                    replace H := H_; clear H_; try dsimp only [setn, addE, goneL] at H
                    replace H := H.boxRow (cInt .i64) true ([0, 0, 1, 1] : List Int) 45 rfl (fun _ _ => ⟨_, _, rfl, rfl, ⟨_, _, rfl, rfl, ⟨_, _, rfl, rfl, ⟨_, _, rfl, rfl, rfl⟩⟩⟩⟩) (Nat.le_of_ble_eq_true rfl); try dsimp only [setn, addE, goneL] at H
                    obtain ⟨r526, h527, hP⟩ := bind_inv hP
                    obtain ⟨Fa528, Hc529, hb530⟩ := H.call [] [(37, false), (45, false)] rfl rfl trivial
                    refine e_call E rfl rfl Try.func13 rfl rfl rfl (kit_SameInts_calls A460 c461 (some ⟨g521, 0, none⟩) 4 r451.1 ([0, 0, 1, 1] : List Int) (H.rcap 37 rfl) (H.rcapx 45 rfl) Hc529 h527) ?_
                    rintro v531 w532 a ⟨rfl, HR533⟩ E_
                    replace E := E_ _ rfl; clear E_
                    obtain ⟨H_, hc534⟩ := hb530 _ _ HR533 rfl
                    replace H := H_; clear H_; try dsimp only [setn, addE, goneL] at H
                    refine vr tbok 2 [] [(14, .int .i64 r163.2.1), (16, .int .i64 r187.2.1), (18, .int .i64 x224), (28, .int .i64 r463.2), (29, .int .i64 r486), (30, .int .i64 r506), (187, .bool r526)] [] E (by kernel_rfl) trivial ?_
                    clear E; intro a E
                    refine E.cases (t := 187) rfl (fun hb_ E_ => ?_) (fun hb_ E_ => ?_)
                    ·
                     replace E := E_; clear E_
                     have h535 : r526 = true := hb_
                     clear hb_; replace hP := ite_t h535 hP
                     refine vr tbok 4 [] [(14, .int .i64 r163.2.1), (16, .int .i64 r187.2.1), (18, .int .i64 x224), (29, .int .i64 r486), (30, .int .i64 r506), (191, .bool ((r463.2 : Int) == 2))] [] E (by kernel_rfl) trivial ?_
                     clear E; intro a E
                     refine E.cases (t := 191) rfl (fun hb_ E_ => ?_) (fun hb_ E_ => ?_)
                     ·
                      replace E := E_; clear E_
                      have h536 : (r463.2 : Int) = 2 := eq_of_beq hb_
                      clear hb_; replace hP := ite_t h536 hP
                      refine vr tbok 4 [] [(16, .int .i64 r187.2.1), (18, .int .i64 x224), (29, .int .i64 r486), (30, .int .i64 r506), (195, .bool ((r163.2.1 : Int) == 2))] [] E (by kernel_rfl) trivial ?_
                      clear E; intro a E
                      refine E.cases (t := 195) rfl (fun hb_ E_ => ?_) (fun hb_ E_ => ?_)
                      ·
                       replace E := E_; clear E_
                       have h537 : (r163.2.1 : Int) = 2 := eq_of_beq hb_
                       clear hb_; replace hP := ite_t h537 hP
                       refine vr tbok 4 [] [(18, .int .i64 x224), (29, .int .i64 r486), (30, .int .i64 r506), (199, .bool ((r187.2.1 : Int) == 2))] [] E (by kernel_rfl) trivial ?_
                       clear E; intro a E
                       refine E.cases (t := 199) rfl (fun hb_ E_ => ?_) (fun hb_ E_ => ?_)
                       ·
                        replace E := E_; clear E_
                        have h538 : (r187.2.1 : Int) = 2 := eq_of_beq hb_
                        clear hb_; replace hP := ite_t h538 hP
                        refine vr tbok 4 [] [(29, .int .i64 r486), (30, .int .i64 r506), (203, .bool ((x224 : Int) == 2))] [] E (by kernel_rfl) trivial ?_
                        clear E; intro a E
                        refine E.cases (t := 203) rfl (fun hb_ E_ => ?_) (fun hb_ E_ => ?_)
                        ·
                         replace E := E_; clear E_
                         have h539 : (x224 : Int) = 2 := eq_of_beq hb_
                         clear hb_; replace hP := ite_t h539 hP
                         refine vr tbok 4 [] [(30, .int .i64 r506), (207, .bool ((r486 : Int) == 0))] [] E (by kernel_rfl) trivial ?_
                         clear E; intro a E
                         refine E.cases (t := 207) rfl (fun hb_ E_ => ?_) (fun hb_ E_ => ?_)
                         ·
                          replace E := E_; clear E_
                          have h540 : (r486 : Int) = 0 := eq_of_beq hb_
                          clear hb_; replace hP := ite_t h540 hP
                          refine vr tbok 4 [] [(0, .bool ((r506 : Int) == 12))] [] E (by kernel_rfl) trivial ?_
                          clear E; intro a E
                          refine wpList_nil ?_
                          refine th_n ?_
                          refine wp_ret ?_
                          obtain rfl := Option.some.inj hP
                          refine ret1 E rfl rfl ?_
                          exact ⟨_, rfl, rfl, H.sel [] rfl⟩
                         ·
                          replace E := E_; clear E_
                          have h541 : ¬ ((r486 : Int) = 0) := ne_of_beq_false hb_
                          clear hb_; replace hP := ite_f h541 hP
                          refine vr tbok 4 [] [(0, .bool false)] [] E (by kernel_rfl) trivial ?_
                          clear E; intro a E
                          refine wpList_nil ?_
                          refine th_n ?_
                          refine wp_ret ?_
                          obtain rfl := Option.some.inj hP
                          refine ret1 E rfl rfl ?_
                          exact ⟨_, rfl, rfl, H.sel [] rfl⟩
                        ·
                         replace E := E_; clear E_
                         have h542 : ¬ ((x224 : Int) = 2) := ne_of_beq_false hb_
                         clear hb_; replace hP := ite_f h542 hP
                         refine vr tbok 8 [] [(0, .bool false)] [] E (by kernel_rfl) trivial ?_
                         clear E; intro a E
                         refine wpList_nil ?_
                         refine th_n ?_
                         refine wp_ret ?_
                         obtain rfl := Option.some.inj hP
                         refine ret1 E rfl rfl ?_
                         exact ⟨_, rfl, rfl, H.sel [] rfl⟩
                       ·
                        replace E := E_; clear E_
                        have h543 : ¬ ((r187.2.1 : Int) = 2) := ne_of_beq_false hb_
                        clear hb_; replace hP := ite_f h543 hP
                        refine vr tbok 12 [] [(0, .bool false)] [] E (by kernel_rfl) trivial ?_
                        clear E; intro a E
                        refine wpList_nil ?_
                        refine th_n ?_
                        refine wp_ret ?_
                        obtain rfl := Option.some.inj hP
                        refine ret1 E rfl rfl ?_
                        exact ⟨_, rfl, rfl, H.sel [] rfl⟩
                      ·
                       replace E := E_; clear E_
                       have h544 : ¬ ((r163.2.1 : Int) = 2) := ne_of_beq_false hb_
                       clear hb_; replace hP := ite_f h544 hP
                       refine vr tbok 16 [] [(0, .bool false)] [] E (by kernel_rfl) trivial ?_
                       clear E; intro a E
                       refine wpList_nil ?_
                       refine th_n ?_
                       refine wp_ret ?_
                       obtain rfl := Option.some.inj hP
                       refine ret1 E rfl rfl ?_
                       exact ⟨_, rfl, rfl, H.sel [] rfl⟩
                     ·
                      replace E := E_; clear E_
                      have h545 : ¬ ((r463.2 : Int) = 2) := ne_of_beq_false hb_
                      clear hb_; replace hP := ite_f h545 hP
                      refine vr tbok 20 [] [(0, .bool false)] [] E (by kernel_rfl) trivial ?_
                      clear E; intro a E
                      refine wpList_nil ?_
                      refine th_n ?_
                      refine wp_ret ?_
                      obtain rfl := Option.some.inj hP
                      refine ret1 E rfl rfl ?_
                      exact ⟨_, rfl, rfl, H.sel [] rfl⟩
                    ·
                     replace E := E_; clear E_
                     have h546 : ¬ (r526 = true) := (ne_true_of_eq_false hb_)
                     clear hb_; replace hP := ite_f h546 hP
                     refine vr tbok 24 [] [(0, .bool false)] [] E (by kernel_rfl) trivial ?_
                     clear E; intro a E
                     refine wpList_nil ?_
                     refine th_n ?_
                     refine wp_ret ?_
                     obtain rfl := Option.some.inj hP
                     refine ret1 E rfl rfl ?_
                     exact ⟨_, rfl, rfl, H.sel [] rfl⟩
                   ·
                    replace E := E_; clear E_
                    have h547 : ¬ ((r451.2 : Int) = 0) := ne_of_beq_false hb_
                    clear hb_; replace hP := ite_f h547 hP
                    refine vr tbok 29 [] [(0, .bool false)] [] E (by kernel_rfl) trivial ?_
                    clear E; intro a E
                    refine wpList_nil ?_
                    refine th_n ?_
                    refine wp_ret ?_
                    obtain rfl := Option.some.inj hP
                    refine ret1 E rfl rfl ?_
                    exact ⟨_, rfl, rfl, H.sel [] rfl⟩
                  ·
                   replace E := E_; clear E_
                   have h548 : r442.2 = true := (not_f hb_)
                   clear hb_; replace hP := ite_t h548 hP
                   refine vr tbok 33 [] [(0, .bool false)] [] E (by kernel_rfl) trivial ?_
                   clear E; intro a E
                   refine wpList_nil ?_
                   refine th_n ?_
                   refine wp_ret ?_
                   obtain rfl := Option.some.inj hP
                   refine ret1 E rfl rfl ?_
                   exact ⟨_, rfl, rfl, H.sel [] rfl⟩
                 ·
                  replace E := E_; clear E_
                  have h549 : ¬ (r433.2 = true) := (ne_true_of_eq_false hb_)
                  clear hb_; replace hP := ite_f h549 hP
                  refine vr tbok 37 [] [(0, .bool false)] [] E (by kernel_rfl) trivial ?_
                  clear E; intro a E
                  refine wpList_nil ?_
                  refine th_n ?_
                  refine wp_ret ?_
                  obtain rfl := Option.some.inj hP
                  refine ret1 E rfl rfl ?_
                  exact ⟨_, rfl, rfl, H.sel [] rfl⟩
                ·
                 replace E := E_; clear E_
                 have h550 : ¬ ((r433.1 : Int) = 1) := ne_of_beq_false hb_
                 clear hb_; replace hP := ite_f h550 hP
                 refine vr tbok 40 [] [(0, .bool false)] [] E (by kernel_rfl) trivial ?_
                 clear E; intro a E
                 refine wpList_nil ?_
                 refine th_n ?_
                 refine wp_ret ?_
                 obtain rfl := Option.some.inj hP
                 refine ret1 E rfl rfl ?_
                 exact ⟨_, rfl, rfl, H.sel [] rfl⟩
               ·
                replace E := E_; clear E_
                have h551 : ¬ (r424.2 = true) := (ne_true_of_eq_false hb_)
                clear hb_; replace hP := ite_f h551 hP
                refine vr tbok 44 [] [(0, .bool false)] [] E (by kernel_rfl) trivial ?_
                clear E; intro a E
                refine wpList_nil ?_
                refine th_n ?_
                refine wp_ret ?_
                obtain rfl := Option.some.inj hP
                refine ret1 E rfl rfl ?_
                exact ⟨_, rfl, rfl, H.sel [] rfl⟩
              ·
               replace E := E_; clear E_
               have h552 : ¬ ((r424.1 : Int) = 0) := ne_of_beq_false hb_
               clear hb_; replace hP := ite_f h552 hP
               refine vr tbok 47 [] [(0, .bool false)] [] E (by kernel_rfl) trivial ?_
               clear E; intro a E
               refine wpList_nil ?_
               refine th_n ?_
               refine wp_ret ?_
               obtain rfl := Option.some.inj hP
               refine ret1 E rfl rfl ?_
               exact ⟨_, rfl, rfl, H.sel [] rfl⟩

end Go.V
