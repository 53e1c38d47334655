/- Plain functions, and the calls that give them. -/
import Derived.Test.YthlbijcgnekcbaaA3
set_option linter.all false
set_option linter.unusedVariables false
set_option linter.unnecessarySimpa false
set_option linter.unusedSimpArgs false
namespace Go.V
open Go Go.Proofs
/-! rejoinder/rejoinderlaw14.GuardStore -/
def law14_GuardStore_f2 (N : Nat) : Option Unit :=
    some ()
def law14_GuardStore_f1 (N : Nat) : Option Unit :=
    Option.bind (law14_GuardStore_f2 N) fun x332 =>
    some ()
def law14_GuardStore_f4 (N : Nat) : Option Unit :=
    some ()
def law14_GuardStore_f3 (N : Nat) : Option Unit :=
    Option.bind (law14_GuardStore_f4 N) fun x385 =>
    some ()
def law14_GuardStore_l0 (N : Nat) (n : Int) (lists : List (List Int)) : Nat → (List Nd) → Int → Option ((List Nd) ⊕ Bool)
  | 0, _, _ => none
  | m291 + 1, m168, i171 =>
    if i171 < (((List.length lists) : Nat) : Int) then
      ask (idx i171 (List.length lists)) <|
      if 260 < (((List.length (List.getD lists (Int.toNat i171) [])) : Nat) : Int) then
        some (Sum.inr true)
      else
        Option.bind (kit_LentInts N (List.getD lists (Int.toNat i171) [])) fun r315 =>
        Option.bind (law14_GuardStore_f1 N) fun x329 =>
        Option.bind (ref14_Store_Add N n m168 (List.getD lists (Int.toNat i171) [])) fun r344 =>
        if (0 : Int) = r344.1 then
          if (1 : Int) = r344.2.1 then
            Option.bind (kit_KeptInts N r315.1 r315.2 (List.getD lists (Int.toNat i171) [])) fun r370 =>
            if r370 = true then
              Option.bind (law14_GuardStore_f3 N) fun x382 =>
              if (0 : Int) = (((List.length r344.2.2) : Nat) : Int) then
                ask (in64 (i171 + 1)) <|
                law14_GuardStore_l0 N n lists m291 r344.2.2 (i171 + 1)
              else
                some (Sum.inr false)
            else
              some (Sum.inr false)
          else
            some (Sum.inr false)
        else
          some (Sum.inr false)
    else
      some (Sum.inl m168)
def law14_GuardStore_f6 (N : Nat) : Option Unit :=
    some ()
def law14_GuardStore_f5 (N : Nat) : Option Unit :=
    Option.bind (law14_GuardStore_f6 N) fun x441 =>
    some ()
def law14_GuardStore_f8 (N : Nat) : Option Unit :=
    some ()
def law14_GuardStore_f7 (N : Nat) : Option Unit :=
    Option.bind (law14_GuardStore_f8 N) fun x453 =>
    some ()
def law14_GuardStore_l9 (N : Nat) : Nat → Option Unit
  | 0 => none
  | m472 + 1 =>
    some ()
def law14_GuardStore_f11 (N : Nat) : Option Unit :=
    some ()
def law14_GuardStore_f10 (N : Nat) : Option Unit :=
    Option.bind (law14_GuardStore_f11 N) fun x495 =>
    some ()
def law14_GuardStore_l12 (N : Nat) (n : Int) (lists : List (List Int)) : Nat → (List Nd) → (List (Nd × Int)) → (List Nd) → Int → Option (((List Nd) × (List (Nd × Int)) × (List Nd)) ⊕ Bool)
  | 0, _, _, _, _ => none
  | m914 + 1, s740, s743, m745, i748 =>
    if i748 < (((List.length lists) : Nat) : Int) then
      ask (idx i748 (List.length lists)) <|
      if 260 < (((List.length (List.getD lists (Int.toNat i748) [])) : Nat) : Int) then
        some (Sum.inr true)
      else
        Option.bind (kit_LentInts N (List.getD lists (Int.toNat i748) [])) fun r939 =>
        Option.bind (guard_Store_Add N n s740 s743 r939.1) fun r951 =>
        Option.bind (ref14_Store_Add N n m745 (List.getD lists (Int.toNat i748) [])) fun r975 =>
        if (r951.1 : Int) = r975.1 then
          if (r951.2.1 : Int) = r975.2.1 then
            Option.bind (kit_KeptInts N r939.1 r939.2 (List.getD lists (Int.toNat i748) [])) fun r1001 =>
            if r1001 = true then
              Option.bind (guard_Store_Len N n r951.2.2.1 r951.2.2.2) fun r1011 =>
              if (r1011 : Int) = (((List.length r975.2.2) : Nat) : Int) then
                ask (in64 (i748 + 1)) <|
                law14_GuardStore_l12 N n lists m914 r951.2.2.1 r951.2.2.2 r975.2.2 (i748 + 1)
              else
                some (Sum.inr false)
            else
              some (Sum.inr false)
          else
            some (Sum.inr false)
        else
          some (Sum.inr false)
    else
      some (Sum.inl (s740, s743, m745))
def law14_GuardStore_l13 (N : Nat) : Nat → (List Nd) → Int → Option Unit
  | 0, _, _ => none
  | m1150 + 1, a1137, i1140 =>
    if i1140 < (((List.length a1137) : Nat) : Int) then
      ask (idx i1140 (List.length a1137)) <|
      ask (in64 (i1140 + 1)) <|
      law14_GuardStore_l13 N m1150 (List.set a1137 (Int.toNat i1140) (⟨77, 0, 0⟩ : Nd)) (i1140 + 1)
    else
      some ()
def law14_GuardStore (N : Nat) (n : Int) (lists : List (List Int)) : Option Bool :=
  Option.bind (guard_New N n) fun r5 =>
  Sum.elim (fun x22 =>
    Option.bind (ref14_New N n) fun r24 =>
    Sum.elim (fun x40 =>
      if (x22 : Int) = x40 then
        if true = true then
          some true
        else
          some false
      else
        some false)
     (fun x41 =>
      if (x22 : Int) = x41 then
        if true = false then
          if 40 < (((List.length lists) : Nat) : Int) then
            some true
          else
            Option.bind (law14_GuardStore_l0 N n lists N [] 0) fun x292 =>
            Sum.elim (fun x298 =>
              Option.bind (law14_GuardStore_f5 N) fun x438 =>
              Option.bind (law14_GuardStore_f7 N) fun x450 =>
              Option.bind (kit_SameNodes N [] x298) fun r461 =>
              if r461 = true then
                Option.bind (law14_GuardStore_l9 N N ) fun x473 =>
                Option.bind (kit_SameNodes N [] x298) fun r480 =>
                if r480 = true then
                  Option.bind (law14_GuardStore_f10 N) fun x492 =>
                  Option.bind (kit_SameNodes N [] x298) fun r503 =>
                  some r503
                else
                  some false
              else
                some false)
             (fun x435 =>
              some x435) x292
        else
          some false
      else
        some false) r24)
   (fun x23 =>
    Option.bind (ref14_New N n) fun r555 =>
    Sum.elim (fun x571 =>
      if (x23 : Int) = x571 then
        if false = true then
          some true
        else
          some false
      else
        some false)
     (fun x572 =>
      if (x23 : Int) = x572 then
        if false = false then
          if 40 < (((List.length lists) : Nat) : Int) then
            some true
          else
            Option.bind (law14_GuardStore_l12 N n lists N [] ([] : List (Nd × Int)) [] 0) fun x915 =>
            Sum.elim (fun x922 =>
              Option.bind (guard_Store_Nodes N n x922.1 x922.2.1) fun r1078 =>
              Option.bind (guard_Store_Nodes N n x922.1 x922.2.1) fun r1098 =>
              Option.bind (kit_SameNodes N r1078 x922.2.2) fun r1118 =>
              if r1118 = true then
                Option.bind (law14_GuardStore_l13 N N r1078 0) fun x1151 =>
                Option.bind (kit_SameNodes N r1098 x922.2.2) fun r1166 =>
                if r1166 = true then
                  Option.bind (guard_Store_Nodes N n x922.1 x922.2.1) fun r1176 =>
                  Option.bind (kit_SameNodes N r1176 x922.2.2) fun r1196 =>
                  some r1196
                else
                  some false
              else
                some false)
             (fun x1077 =>
              some x1077) x915
        else
          some false
      else
        some false) r555) r5
set_option maxRecDepth 100000 in
set_option maxHeartbeats 4000000 in
theorem law14_GuardStore_calls {N : Nat} {S Fa : Nat → Prop} {w0 : World} {r : Bool} (A1 : Option Addr) (c2 : Nat) (n : Int) (lists : List (List Int)) (hk3 : List.length lists ≤ c2) (H : Hp S Fa w0 w0 [.ro false (cSl (cInt .i64)) A1 lists]) (hP : law14_GuardStore N n lists = some r) :
    Calls Try.prog 5 #[.int .i64 n, .slice A1 (List.length lists) c2] w0 fun e w' => ∃ v, e = .returned v ∧ v = .bool r ∧ Hp S Fa w0 w' [] := by
 refine enterV (n := 140) Try.func5 rfl rfl rfl ?_
 intro a E
 replace E := E.pick [(0, .int .i64 n), (1, .slice A1 (List.length lists) c2)] ⟨rfl, rfl, trivial⟩
 rw [law14_GuardStore] at hP
 refine wp_seq ?_
 refine wp_region_lit ?_
 refine vn tbok 1 [] [] [] E (by kernel_rfl) (by kernel_rfl) trivial ?_
 clear E; intro a E
 refine wpList_nil ?_
 refine th_n ?_
 refine wp_seq ?_
 refine wp_region_lit ?_
 refine vn tbok 1 [] [(19, .int .i64 n)] [] E (by kernel_rfl) (by kernel_rfl) trivial ?_
 clear E; intro a E
 obtain ⟨r5, h6, hP⟩ := bind_inv hP
 obtain ⟨Fa7, Hc8, hb9⟩ := H.call [] [] rfl rfl trivial
 refine e_call E rfl rfl Try.func20 rfl rfl rfl (guard_New_calls  n  Hc8 h6) ?_
 intro v15 w14 a hR16 E_
 rcases hR16 with ⟨x_, hr_, rfl, HR18⟩ | ⟨x_, g19, g20, hr_, rfl, HR21⟩
 ·
  subst hr_; have hP := elim_l hP
  obtain ⟨x22, hxx_⟩ : ∃ y_, y_ = x_ := ⟨_, rfl⟩; subst hxx_
  replace E := E_ _ rfl; clear E_
  obtain ⟨H_, hc17⟩ := hb9 _ _ HR18 rfl
  replace H := H_; clear H_; try dsimp only [setn, addE, goneL] at H
  refine vn tbok 5 [] [(5, .pointer none), (6, .int .i64 x22)] [] E (by kernel_rfl) (by kernel_rfl) trivial ?_
  clear E; intro a E
  refine wpList_nil ?_
  refine th_n ?_
  refine wp_seq ?_
  refine wp_region_lit ?_
  refine vn tbok 1 [] [(24, .int .i64 n)] [] E (by kernel_rfl) (by kernel_rfl) trivial ?_
  clear E; intro a E
  obtain ⟨r24, h25, hP⟩ := bind_inv hP
  obtain ⟨Fa26, Hc27, hb28⟩ := H.call [] [] rfl rfl trivial
  refine e_call E rfl rfl Try.func21 rfl rfl rfl (ref14_New_calls  n  Hc27 h25) ?_
  intro v34 w33 a hR35 E_
  rcases hR35 with ⟨x_, hr_, rfl, HR37⟩ | ⟨x_, g38, hr_, rfl, HR39⟩
  ·
   subst hr_; have hP := elim_l hP
   obtain ⟨x40, hxx_⟩ : ∃ y_, y_ = x_ := ⟨_, rfl⟩; subst hxx_
   replace E := E_ _ rfl; clear E_
   obtain ⟨H_, hc36⟩ := hb28 _ _ HR37 rfl
   replace H := H_; clear H_; try dsimp only [setn, addE, goneL] at H
   refine vn tbok 5 [] [(7, .pointer none), (8, .int .i64 x40)] [] E (by kernel_rfl) (by kernel_rfl) trivial ?_
   clear E; intro a E
   refine wpList_nil ?_
   refine th_n ?_
   refine wp_seq ?_
   refine wp_seq ?_
   refine wp_region_lit ?_
   refine vn tbok 4 [] [(31, .bool ((x22 : Int) != x40))] [] E (by kernel_rfl) (by kernel_rfl) trivial ?_
   clear E; intro a E
   refine E.cases (t := 31) rfl (fun hb_ E_ => ?_) (fun hb_ E_ => ?_)
   ·
    replace E := E_; clear E_
    have h42 : ¬ ((x22 : Int) = x40) := bne_iff_ne.1 hb_
    clear hb_; replace hP := ite_f h42 hP
    refine vn tbok 6 [] [(37, .bool true)] [] E (by kernel_rfl) (by kernel_rfl) trivial ?_
    clear E; intro a E
    refine wpList_nil ?_
    refine th_n ?_
    refine c_true E rfl ?_
    refine wp_seq ?_
    refine wp_region_lit ?_
    refine vn tbok 1 [] [(4, .bool false)] [] E (by kernel_rfl) (by kernel_rfl) trivial ?_
    clear E; intro a E
    refine wpList_nil ?_
    refine th_n ?_
    refine wp_ret ?_
    refine th_ret ?_
    obtain rfl := Option.some.inj hP
    refine ret1 E rfl rfl ?_
    exact ⟨_, rfl, rfl, H.sel [] rfl⟩
   replace E := E_; clear E_
   have h43 : (x22 : Int) = x40 := bne_eq_false_iff_eq.1 hb_
   clear hb_; replace hP := ite_t h43 hP
   refine vn tbok 6 [] [(37, .bool (!(true == true)))] [] E (by kernel_rfl) (by kernel_rfl) trivial ?_
   clear E; intro a E
   refine wpList_nil ?_
   refine th_n ?_
   refine E.cases (t := 37) rfl (fun hb_ E_ => ?_) (fun hb_ E_ => ?_)
   ·
    replace E := E_; clear E_
    have h44 : ¬ (true = true) := (by simpa using hb_)
    clear hb_; replace hP := ite_f h44 hP
    refine c_true E rfl ?_
    refine wp_seq ?_
    refine wp_region_lit ?_
    refine vn tbok 1 [] [(4, .bool false)] [] E (by kernel_rfl) (by kernel_rfl) trivial ?_
    clear E; intro a E
    refine wpList_nil ?_
    refine th_n ?_
    refine wp_ret ?_
    refine th_ret ?_
    obtain rfl := Option.some.inj hP
    refine ret1 E rfl rfl ?_
    exact ⟨_, rfl, rfl, H.sel [] rfl⟩
   replace E := E_; clear E_
   have h45 : true = true := (by simpa using hb_)
   clear hb_; replace hP := ite_t h45 hP
   refine c_false E rfl ?_
   refine wp_skip ?_
   refine th_n ?_
   refine wp_seq ?_
   refine wp_seq ?_
   refine wp_region_lit ?_
   refine vn tbok 7 [] [(44, .bool true)] [] E (by kernel_rfl) (by kernel_rfl) trivial ?_
   clear E; intro a E
   refine wpList_nil ?_
   refine th_n ?_
   refine c_true E rfl ?_
   refine wp_seq ?_
   refine wp_region_lit ?_
   refine vn tbok 1 [] [(4, .bool true)] [] E (by kernel_rfl) (by kernel_rfl) trivial ?_
   clear E; intro a E
   refine wpList_nil ?_
   refine th_n ?_
   refine wp_ret ?_
   refine th_ret ?_
   obtain rfl := Option.some.inj hP
   refine ret1 E rfl rfl ?_
   exact ⟨_, rfl, rfl, H.sel [] rfl⟩
  subst hr_; have hP := (elim_r hP)
  obtain ⟨x41, hxx_⟩ : ∃ y_, y_ = x_ := ⟨_, rfl⟩; subst hxx_
  replace E := E_ _ rfl; clear E_
  obtain ⟨H_, hc36⟩ := hb28 _ _ HR39 rfl
  replace H := H_; clear H_; try dsimp only [setn, addE, goneL] at H
  refine vn tbok 5 [] [(7, .pointer (some ⟨g38, 0, none⟩)), (8, .int .i64 x41)] [] E (by kernel_rfl) (by kernel_rfl) trivial ?_
  clear E; intro a E
  refine wpList_nil ?_
  refine th_n ?_
  refine wp_seq ?_
  refine wp_seq ?_
  refine wp_region_lit ?_
  refine vn tbok 4 [] [(31, .bool ((x22 : Int) != x41))] [] E (by kernel_rfl) (by kernel_rfl) trivial ?_
  clear E; intro a E
  refine E.cases (t := 31) rfl (fun hb_ E_ => ?_) (fun hb_ E_ => ?_)
  ·
   replace E := E_; clear E_
   have h47 : ¬ ((x22 : Int) = x41) := bne_iff_ne.1 hb_
   clear hb_; replace hP := ite_f h47 hP
   refine vn tbok 6 [] [(37, .bool true)] [] E (by kernel_rfl) (by kernel_rfl) trivial ?_
   clear E; intro a E
   refine wpList_nil ?_
   refine th_n ?_
   refine c_true E rfl ?_
   refine wp_seq ?_
   refine wp_region_lit ?_
   refine vn tbok 1 [] [(4, .bool false)] [] E (by kernel_rfl) (by kernel_rfl) trivial ?_
   clear E; intro a E
   refine wpList_nil ?_
   refine th_n ?_
   refine wp_ret ?_
   refine th_ret ?_
   obtain rfl := Option.some.inj hP
   refine ret1 E rfl rfl ?_
   exact ⟨_, rfl, rfl, H.sel [] rfl⟩
  replace E := E_; clear E_
  have h48 : (x22 : Int) = x41 := bne_eq_false_iff_eq.1 hb_
  clear hb_; replace hP := ite_t h48 hP
  refine vn tbok 6 [] [(37, .bool (!(true == false)))] [] E (by kernel_rfl) (by kernel_rfl) trivial ?_
  clear E; intro a E
  refine wpList_nil ?_
  refine th_n ?_
  refine E.cases (t := 37) rfl (fun hb_ E_ => ?_) (fun hb_ E_ => ?_)
  ·
   replace E := E_; clear E_
   have h49 : ¬ (true = false) := (by simpa using hb_)
   clear hb_; replace hP := ite_f h49 hP
   refine c_true E rfl ?_
   refine wp_seq ?_
   refine wp_region_lit ?_
   refine vn tbok 1 [] [(4, .bool false)] [] E (by kernel_rfl) (by kernel_rfl) trivial ?_
   clear E; intro a E
   refine wpList_nil ?_
   refine th_n ?_
   refine wp_ret ?_
   refine th_ret ?_
   obtain rfl := Option.some.inj hP
   refine ret1 E rfl rfl ?_
   exact ⟨_, rfl, rfl, H.sel [] rfl⟩
  replace E := E_; clear E_
  have h50 : true = false := (by simpa using hb_)
  clear hb_; replace hP := ite_t h50 hP
  refine c_false E rfl ?_
  refine wp_skip ?_
  refine th_n ?_
  refine wp_seq ?_
  refine wp_seq ?_
  refine wp_region_lit ?_
  refine vn tbok 7 [] [(44, .bool (decide (40 < (((List.length lists) : Nat) : Int))))] [] E (by kernel_rfl) (by kernel_rfl) trivial ?_
  clear E; intro a E
  refine wpList_nil ?_
  refine th_n ?_
  refine E.cases (t := 44) rfl (fun hb_ E_ => ?_) (fun hb_ E_ => ?_)
  ·
   replace E := E_; clear E_
   have h51 : 40 < (((List.length lists) : Nat) : Int) := of_decide_eq_true hb_
   clear hb_; replace hP := ite_t h51 hP
   refine c_true E rfl ?_
   refine wp_seq ?_
   refine wp_region_lit ?_
   refine vn tbok 1 [] [(4, .bool true)] [] E (by kernel_rfl) (by kernel_rfl) trivial ?_
   clear E; intro a E
   refine wpList_nil ?_
   refine th_n ?_
   refine wp_ret ?_
   refine th_ret ?_
   obtain rfl := Option.some.inj hP
   refine ret1 E rfl rfl ?_
   exact ⟨_, rfl, rfl, H.sel [] rfl⟩
  replace E := E_; clear E_
  have h52 : ¬ (40 < (((List.length lists) : Nat) : Int)) := of_decide_eq_false hb_
  clear hb_; replace hP := ite_f h52 hP
  refine c_false E rfl ?_
  refine wp_skip ?_
  refine th_n ?_
  refine wp_seq ?_
  refine wp_seq ?_
  refine wp_region_lit ?_
  refine vn tbok 1 [] [(9, .int .i64 0)] [] E (by kernel_rfl) (by kernel_rfl) trivial ?_
  clear E; intro a E
  refine wpList_nil ?_
  refine th_n ?_
  refine wp_block ?_
  obtain ⟨x292, hL293, hK294⟩ := bind_inv hP
  clear hP
  replace H := H.nilrow cNode 64; try dsimp only [setn, addE, goneL] at H
  refine loop_cut (fun i_ a w_ => (i_ = 0 ∧ ∃ (x298 : List Nd), ∃ (A289 : Option Addr) (c290 : Nat), Fr a 140 [(5, .pointer none), (7, .pointer (some ⟨g38, 0, none⟩))] ∧ Hp S Fa w0 w_ [.box g38 61 [.int .i64 n, .slice A289 (List.length x298) c290], .row true cNode 64 A289 c290 x298] ∧ x292 = Sum.inl x298)) ?_ ?_
  ·
   refine loopV (fun m297 a w296 => ∃ (m168 : List Nd) (i171 : Int), ∃ (A169 : Option Addr) (c170 : Nat), Fr a 140 [(1, .slice A1 (List.length lists) c2), (5, .pointer none), (7, .pointer (some ⟨g38, 0, none⟩)), (9, .int .i64 i171)] ∧ Hp S Fa w0 w296 [.ro false (cSl (cInt .i64)) A1 lists, .box g38 61 [.int .i64 n, .slice A169 (List.length m168) c170], .row true cNode 64 A169 c170 m168] ∧ law14_GuardStore_l0 N n lists m297 m168 i171 = some x292) N ?_ ?_
   ·
    exact ⟨[], 0, none, 0, E.pick _ ⟨rfl, rfl, rfl, rfl, trivial⟩, H.sel [0, 1, 2] rfl, hL293⟩
   clear E H hL293; intro m297 a w296 hI_
   obtain ⟨m168, i171, A169, c170, E, H, hP⟩ := hI_
   obtain ⟨m291, rfl⟩ : ∃ q_, m297 = q_ + 1 := by cases m297 with | zero => rw [law14_GuardStore_l0] at hP; cases hP | succ q_ => exact ⟨q_, rfl⟩
   rw [law14_GuardStore_l0] at hP
   refine wp_seq ?_
   refine wp_seq ?_
   refine wp_region_lit ?_
   refine vn tbok 4 [] [(48, .bool (decide (i171 < (((List.length lists) : Nat) : Int))))] [] E (by kernel_rfl) (by kernel_rfl) trivial ?_
   clear E; intro a E
   refine wpList_nil ?_
   refine th_n ?_
   refine E.cases (t := 48) rfl (fun hb_ E_ => ?_) (fun hb_ E_ => ?_)
   ·
    replace E := E_; clear E_
    have h299 : i171 < (((List.length lists) : Nat) : Int) := of_decide_eq_true hb_
    clear hb_; replace hP := ite_t h299 hP
    refine c_true E rfl ?_
    refine wp_skip ?_
    refine th_n ?_
    refine wp_seq ?_
    refine wp_block ?_
    refine wp_seq ?_
    refine wp_seq ?_
    refine wp_region_lit ?_
    obtain ⟨g300, hP⟩ := ask_inv hP
    obtain ⟨b301, o302, e_b301⟩ := (H.rd 0 rds_ro).addr (idx_pos g300)
    subst e_b301
    obtain ⟨A303, c304, hl305, hk306, H⟩ := H.subSl 0 false (el_ro rfl) g300
    try dsimp only [addE] at H
    refine vn tbok 6 [.slice A303 (List.length (List.getD lists (Int.toNat i171) [])) c304] [(56, .bool (decide (260 < (((List.length (List.getD lists (Int.toNat i171) [])) : Nat) : Int))))] [0 ≤ i171 ∧ i171 < (((List.length lists) : Nat) : Int), World.cell? w296 ⟨b301, o302 + (Int.toNat i171) * 1, none⟩ = some (.slice A303 (List.length (List.getD lists (Int.toNat i171) [])) c304)] E (by kernel_rfl) (by kernel_rfl) ⟨g300, hl305⟩ ?_
    clear E; intro a E
    refine wpList_nil ?_
    refine th_n ?_
    refine E.cases (t := 56) rfl (fun hb_ E_ => ?_) (fun hb_ E_ => ?_)
    ·
     replace E := E_; clear E_
     have h308 : 260 < (((List.length (List.getD lists (Int.toNat i171) [])) : Nat) : Int) := of_decide_eq_true hb_
     clear hb_; replace hP := ite_t h308 hP
     refine c_true E rfl ?_
     refine wp_seq ?_
     refine wp_region_lit ?_
     refine vn tbok 1 [] [(4, .bool true)] [] E (by kernel_rfl) (by kernel_rfl) trivial ?_
     clear E; intro a E
     refine wpList_nil ?_
     refine th_n ?_
     refine wp_ret ?_
     refine th_ret ?_
     refine bl_ret ?_
     refine th_ret ?_
     refine th_ret ?_
     refine .inr ⟨rfl, ?_⟩
     refine bl_ret ?_
     refine th_ret ?_
     have hx_ := Option.some.inj hP; subst hx_
     have hP : some (true) = some r := hK294
     obtain rfl := Option.some.inj hP
     refine ret1 E rfl rfl ?_
     exact ⟨_, rfl, rfl, H.sel [] rfl⟩
    replace E := E_; clear E_
    have h309 : ¬ (260 < (((List.length (List.getD lists (Int.toNat i171) [])) : Nat) : Int)) := of_decide_eq_false hb_
    clear hb_; replace hP := ite_f h309 hP
    refine c_false E rfl ?_
    refine wp_skip ?_
    refine th_n ?_
    refine wp_seq ?_
    refine wp_region_lit ?_
    obtain ⟨A310, c311, hl312, hk313, H⟩ := H.subSl 0 false (el_ro rfl) g300
    try dsimp only [addE] at H
    refine vn tbok 4 [.slice A310 (List.length (List.getD lists (Int.toNat i171) [])) c311] [(60, .slice A310 (List.length (List.getD lists (Int.toNat i171) [])) c311)] [0 ≤ i171 ∧ i171 < (((List.length lists) : Nat) : Int), World.cell? w296 ⟨b301, o302 + (Int.toNat i171) * 1, none⟩ = some (.slice A310 (List.length (List.getD lists (Int.toNat i171) [])) c311)] E (by kernel_rfl) (by kernel_rfl) ⟨g300, hl312⟩ ?_
    clear E; intro a E
    obtain ⟨r315, h316, hP⟩ := bind_inv hP
    obtain ⟨Fa317, Hc318, hb319⟩ := H.call [] [(4, false)] rfl rfl trivial
    refine e_call E rfl rfl Try.func22 rfl rfl rfl (kit_LentInts_calls A310 c311 (List.getD lists (Int.toNat i171) []) hk313 Hc318 h316) ?_
    rintro v320 w321 a ⟨A324, c325, rfl, HR322⟩ E_
    replace E := E_ _ rfl; clear E_
    obtain ⟨H_, hc323⟩ := hb319 _ _ HR322 rfl
    replace H := H_; clear H_; try dsimp only [setn, addE, goneL] at H
    refine vn tbok 1 [] [(10, .slice A324 (List.length r315.1) c325)] [] E (by kernel_rfl) (by kernel_rfl) trivial ?_
    clear E; intro a E
    refine wpList_nil ?_
    refine th_n ?_
    refine wp_seq ?_
    refine wp_region_lit ?_
    refine vn tbok 2 [] [(63, .pointer none), (64, .slice A324 (List.length r315.1) c325)] [] E (by kernel_rfl) (by kernel_rfl) trivial ?_
    clear E; intro a E
    obtain ⟨x329, h330, hP⟩ := bind_inv hP
    refine e_call (R := fun v_ w_ => ∃ (x331 : Unit), v_ = .tuple #[.int .i64 0, .int .i64 1] ∧ Hp S Fa w0 w_ [.ro false (cSl (cInt .i64)) (some ⟨b301, o302, none⟩) lists, .row true cNode 64 A169 c170 m168, .box g38 61 [.int .i64 n, .slice A169 (List.length m168) c170], .rowx true (cInt .i64) 3 A324 c325 r315.1 r315.2] ∧ x329 = x331) E rfl rfl Try.func17 rfl rfl rfl ?_ ?_
    ·
     clear E hP; have hP := h330; clear h330; rw [law14_GuardStore_f1] at hP
     refine enterV (n := 63) Try.func17 rfl rfl rfl ?_
     intro a E
     replace E := E.pick [(0, .pointer none), (1, .slice A324 (List.length r315.1) c325)] ⟨rfl, rfl, trivial⟩
     refine wp_seq ?_
     refine wp_region_lit ?_
     refine vn tbok 2 [] [] [] E (by kernel_rfl) (by kernel_rfl) trivial ?_
     clear E; intro a E
     refine wpList_nil ?_
     refine th_n ?_
     refine wp_seq ?_
     refine wp_seq ?_
     refine wp_region_lit ?_
     refine vn tbok 1 [] [(10, .pointer none)] [] E (by kernel_rfl) (by kernel_rfl) trivial ?_
     clear E; intro a E
     obtain ⟨x332, h333, hP⟩ := bind_inv hP
     refine e_call (R := fun v_ w_ => ∃ (x334 : Unit), v_ = .bool true ∧ Hp S Fa w0 w_ [.ro false (cSl (cInt .i64)) (some ⟨b301, o302, none⟩) lists, .row true cNode 64 A169 c170 m168, .box g38 61 [.int .i64 n, .slice A169 (List.length m168) c170], .rowx true (cInt .i64) 3 A324 c325 r315.1 r315.2] ∧ x332 = x334) E rfl rfl Try.func31 rfl rfl rfl ?_ ?_
     ·
      clear E hP; have hP := h333; clear h333; rw [law14_GuardStore_f2] at hP
      refine enterV (n := 12) Try.func31 rfl rfl rfl ?_
      intro a E
      replace E := E.pick [(0, .pointer none)] ⟨rfl, trivial⟩
      refine wp_seq ?_
      refine wp_region_lit ?_
      refine vn tbok 1 [] [] [] E (by kernel_rfl) (by kernel_rfl) trivial ?_
      clear E; intro a E
      refine wpList_nil ?_
      refine th_n ?_
      refine wp_seq ?_
      refine wp_region_lit ?_
      refine vn tbok 10 [] [(2, .bool true)] [] E (by kernel_rfl) (by kernel_rfl) trivial ?_
      clear E; intro a E
      refine wpList_nil ?_
      refine th_n ?_
      refine wp_ret ?_
      have hx_ := Option.some.inj hP
      refine ret1 E rfl rfl ?_
      exact ⟨_, rfl, (), rfl, H.sel [0, 2, 1, 5] rfl, hx_.symm⟩
     clear H
     rintro v336 w335 a ⟨x334, rfl, H, hx_⟩ E_
     subst hx_
     replace E := E_ _ rfl; clear E_
     refine wpList_nil ?_
     refine th_n ?_
     refine c_true E rfl ?_
     refine wp_seq ?_
     refine wp_region_lit ?_
     refine vn tbok 2 [] [(4, .int .i64 0), (5, .int .i64 1)] [] E (by kernel_rfl) (by kernel_rfl) trivial ?_
     clear E; intro a E
     refine wpList_nil ?_
     refine th_n ?_
     refine wp_ret ?_
     refine th_ret ?_
     have hx_ := Option.some.inj hP
     refine ret2 E rfl rfl rfl ?_
     exact ⟨_, rfl, (), rfl, H.sel [0, 1, 2, 3] rfl, hx_.symm⟩
    clear H
    rintro v338 w337 a ⟨x331, rfl, H, hx_⟩ E_
    subst hx_
    replace E := E_ _ rfl; clear E_
    refine vn tbok 5 [] [(11, .int .i64 0), (12, .int .i64 1)] [] E (by kernel_rfl) (by kernel_rfl) trivial ?_
    clear E; intro a E
    refine wpList_nil ?_
    refine th_n ?_
    refine wp_seq ?_
    refine wp_region_lit ?_
    obtain ⟨A339, c340, hl341, hk342, H⟩ := H.subSl 0 false (el_ro rfl) g300
    try dsimp only [addE] at H
    refine vn tbok 5 [.slice A339 (List.length (List.getD lists (Int.toNat i171) [])) c340] [(69, .pointer (some ⟨g38, 0, none⟩)), (73, .slice A339 (List.length (List.getD lists (Int.toNat i171) [])) c340)] [0 ≤ i171 ∧ i171 < (((List.length lists) : Nat) : Int), World.cell? w337 ⟨b301, o302 + (Int.toNat i171) * 1, none⟩ = some (.slice A339 (List.length (List.getD lists (Int.toNat i171) [])) c340)] E (by kernel_rfl) (by kernel_rfl) ⟨g300, hl341⟩ ?_
    clear E; intro a E
    obtain ⟨r344, h345, hP⟩ := bind_inv hP
    obtain ⟨Fa346, Hc347, hb348⟩ := H.call [2, 1] [(4, false)] rfl rfl ⟨flat_plain, trivial⟩
    refine e_call E rfl rfl Try.func23 rfl rfl rfl (ref14_Store_Add_calls g38 A169 c170 A339 c340 n m168 (List.getD lists (Int.toNat i171) []) hk342 Hc347 h345) ?_
    intro v354 w353 a hR355 E_
    obtain ⟨x_, A358, c359, hr_, rfl, HR357⟩ := hR355
    subst hr_
    replace E := E_ _ rfl; clear E_
    obtain ⟨H_, hc356⟩ := hb348 _ _ HR357 rfl
    replace H := H_; clear H_; try dsimp only [setn, addE, goneL] at H
    refine vn tbok 5 [] [(13, .int .i64 r344.1), (14, .int .i64 r344.2.1)] [] E (by kernel_rfl) (by kernel_rfl) trivial ?_
    clear E; intro a E
    refine wpList_nil ?_
    refine th_n ?_
    refine wp_seq ?_
    by_cases h363 : (0 : Int) = r344.1
    ·
     replace hP := ite_t h363 hP
     by_cases h364 : (1 : Int) = r344.2.1
     ·
      replace hP := ite_t h364 hP
      obtain ⟨A365, c366, hl367, hk368, H⟩ := H.subSl 0 false (el_ro rfl) g300
      try dsimp only [addE] at H
      obtain ⟨r370, h371, hP⟩ := bind_inv hP
      by_cases h379 : r370 = true
      ·
       replace hP := ite_t h379 hP
       obtain ⟨x382, h383, hP⟩ := bind_inv hP
       have HR395 := H
       refine dr_start (S := fun w_ => Chg (atL []) w353 w_) (by kernel_rfl) ?_
       intro w392 hc393
       have HS394 : Chg (atL []) w353 w392 := hc393.mono (fun _ _ h_ => h_.elim)
       replace H := H.ext hc393
       refine dn tbok (by kernel_rfl) [0, 1, 2, 3] [] [(80, .bool ((0 : Int) != r344.1))] (fun w_ => []) 23 E (fun _ _ => by kernel_rfl) (by kernel_rfl) (fun w_ hS_ => trivial) (by kernel_rfl) HS394 ?_
       clear E; intro a E
       replace E := E.same (t := 80) (u := .bool false) rfl (congrArg Value.bool (bne_eq_false_iff_eq.2 h363))
       refine dn tbok (by kernel_rfl) [4, 5, 6, 7, 8] [] [(85, .bool ((1 : Int) != r344.2.1))] (fun w_ => []) 18 E (fun _ _ => by kernel_rfl) (by kernel_rfl) (fun w_ hS_ => trivial) (by kernel_rfl) HS394 ?_
       clear E; intro a E
       replace E := E.same (t := 85) (u := .bool false) rfl (congrArg Value.bool (bne_eq_false_iff_eq.2 h364))
       refine dn tbok (by kernel_rfl) [9, 10, 11, 12, 13] [.slice A365 (List.length (List.getD lists (Int.toNat i171) [])) c366] [(86, .slice A324 (List.length r315.1) c325), (90, .slice A365 (List.length (List.getD lists (Int.toNat i171) [])) c366)] (fun w_ => [0 ≤ i171 ∧ i171 < (((List.length lists) : Nat) : Int), World.cell? w_ ⟨b301, o302 + (Int.toNat i171) * 1, none⟩ = some (.slice A365 (List.length (List.getD lists (Int.toNat i171) [])) c366)]) 13 E (fun _ _ => by kernel_rfl) (by kernel_rfl) (fun w_ hS_ => ⟨g300, hS_.cell (hl367) (HR395.blk [] 0 rds_ro (idx_pos g300) rfl)⟩) (by kernel_rfl) HS394 ?_
       clear E; intro a E
       refine wpAnyH_all (rs := [14]) (by kernel_rfl) (by simp) ?_
       refine all1 ?_
       refine wpOp_of_list rfl ?_
       obtain ⟨Fa396, Hc397, hb398⟩ := H.call [] [(3, false), (3, true), (7, false)] rfl rfl trivial
       refine e_call E rfl rfl Try.func24 rfl rfl rfl (kit_KeptInts_calls A324 c325 A365 c366 r315.1 r315.2 (List.getD lists (Int.toNat i171) []) (H.rcapE 3 rfl) hk368 Hc397 h371) ?_
       rintro v399 w400 a ⟨rfl, HR401⟩ E_
       replace E := E_ _ rfl; clear E_
       obtain ⟨H_, hc402⟩ := hb398 _ _ HR401 rfl
       replace HS394 := HS394.ext (callS_ext hc402)
       replace H := H_; clear H_; try dsimp only [setn, addE, goneL] at H
       refine wpList_nil ?_
       refine th_n ⟨HS394, ?_⟩
       refine dn tbok (by kernel_rfl) [15, 16, 17] [] [(94, .bool (!r370))] (fun w_ => []) 9 E (fun _ _ => by kernel_rfl) (by kernel_rfl) (fun w_ hS_ => trivial) (by kernel_rfl) HS394 ?_
       clear E; intro a E
       replace E := E.same (t := 94) (u := .bool false) rfl (congrArg Value.bool (not_t' (h379)))
       refine dn tbok (by kernel_rfl) [18, 20, 21, 22, 23, 24] [.slice A358 (List.length r344.2.2) c359] [(95, .pointer none), (101, .int .i64 (((List.length r344.2.2) : Nat) : Int))] (fun w_ => [World.cell? w_ ⟨g38, 1, none⟩ = some (.slice A358 (List.length r344.2.2) c359)]) 3 E (fun _ _ => by kernel_rfl) (by kernel_rfl) (fun w_ hS_ => ((HR395.boxk [] hS_ 5 rfl rfl).cell (j := 1) rfl)) (by kernel_rfl) HS394 ?_
       clear E; intro a E
       refine wpAnyH_all (rs := [19]) (by kernel_rfl) (by simp) ?_
       refine all1 ?_
       refine wpOp_of_list rfl ?_
       refine e_call (R := fun v_ w_ => ∃ (x405 : Unit), v_ = .int .i64 0 ∧ Hp S Fa w0 w_ [.ro false (cSl (cInt .i64)) (some ⟨b301, o302, none⟩) lists, .row true cNode 64 A358 c359 r344.2.2, .box g38 61 [.int .i64 n, .slice A358 (List.length r344.2.2) c359]] ∧ Chg (atL []) w353 w_ ∧ x382 = x405) E rfl rfl Try.func19 rfl rfl rfl ?_ ?_
       ·
        clear E hP; have hP := h383; clear h383; rw [law14_GuardStore_f3] at hP
        refine enterV (n := 10) Try.func19 rfl rfl rfl ?_
        intro a E
        replace E := E.pick [(0, .pointer none)] ⟨rfl, trivial⟩
        refine wp_seq ?_
        refine wp_region_lit ?_
        refine vn tbok 1 [] [] [] E (by kernel_rfl) (by kernel_rfl) trivial ?_
        clear E; intro a E
        refine wpList_nil ?_
        refine th_n ?_
        refine wp_seq ?_
        refine wp_seq ?_
        refine wp_region_lit ?_
        refine vn tbok 1 [] [(3, .pointer none)] [] E (by kernel_rfl) (by kernel_rfl) trivial ?_
        clear E; intro a E
        obtain ⟨x385, h406, hP⟩ := bind_inv hP
        refine e_call (R := fun v_ w_ => ∃ (x407 : Unit), v_ = .bool true ∧ Hp S Fa w0 w_ [.ro false (cSl (cInt .i64)) (some ⟨b301, o302, none⟩) lists, .row true cNode 64 A358 c359 r344.2.2, .box g38 61 [.int .i64 n, .slice A358 (List.length r344.2.2) c359]] ∧ Chg (atL []) w353 w_ ∧ x385 = x407) E rfl rfl Try.func31 rfl rfl rfl ?_ ?_
        ·
         clear E hP; have hP := h406; clear h406; rw [law14_GuardStore_f4] at hP
         refine enterV (n := 12) Try.func31 rfl rfl rfl ?_
         intro a E
         replace E := E.pick [(0, .pointer none)] ⟨rfl, trivial⟩
         refine wp_seq ?_
         refine wp_region_lit ?_
         refine vn tbok 1 [] [] [] E (by kernel_rfl) (by kernel_rfl) trivial ?_
         clear E; intro a E
         refine wpList_nil ?_
         refine th_n ?_
         refine wp_seq ?_
         refine wp_region_lit ?_
         refine vn tbok 10 [] [(2, .bool true)] [] E (by kernel_rfl) (by kernel_rfl) trivial ?_
         clear E; intro a E
         refine wpList_nil ?_
         refine th_n ?_
         refine wp_ret ?_
         have hx_ := Option.some.inj hP
         refine ret1 E rfl rfl ?_
         exact ⟨_, rfl, (), rfl, H.sel [0, 6, 5] rfl, HS394, hx_.symm⟩
        clear H HS394
        rintro v409 w408 a ⟨x407, rfl, H, HS394, hx_⟩ E_
        subst hx_
        replace E := E_ _ rfl; clear E_
        refine wpList_nil ?_
        refine th_n ?_
        refine c_true E rfl ?_
        refine wp_seq ?_
        refine wp_region_lit ?_
        refine vn tbok 1 [] [(2, .int .i64 0)] [] E (by kernel_rfl) (by kernel_rfl) trivial ?_
        clear E; intro a E
        refine wpList_nil ?_
        refine th_n ?_
        refine wp_ret ?_
        refine th_ret ?_
        have hx_ := Option.some.inj hP
        refine ret1 E rfl rfl ?_
        exact ⟨_, rfl, (), rfl, H.sel [0, 1, 2] rfl, HS394, hx_.symm⟩
       clear H HS394
       rintro v411 w410 a ⟨x405, rfl, H, HS394, hx_⟩ E_
       subst hx_
       replace E := E_ _ rfl; clear E_
       refine wpList_nil ?_
       refine th_n ⟨HS394, ?_⟩
       refine dn tbok (by kernel_rfl) [25, 26] [] [(103, .bool ((0 : Int) != (((List.length r344.2.2) : Nat) : Int)))] (fun w_ => []) 0 E (fun _ _ => by kernel_rfl) (by kernel_rfl) (fun w_ hS_ => trivial) (by kernel_rfl) HS394 ?_
       clear E; intro a E
       refine dr_done (by kernel_rfl) ?_
       clear HS394 HR395
       refine th_n ?_
       refine E.cases (t := 103) rfl (fun hb_ E_ => ?_) (fun hb_ E_ => ?_)
       ·
        replace E := E_; clear E_
        have h412 : ¬ ((0 : Int) = (((List.length r344.2.2) : Nat) : Int)) := bne_iff_ne.1 hb_
        clear hb_; replace hP := ite_f h412 hP
        refine c_true E rfl ?_
        refine wp_seq ?_
        refine wp_region_lit ?_
        refine vn tbok 1 [] [(4, .bool false)] [] E (by kernel_rfl) (by kernel_rfl) trivial ?_
        clear E; intro a E
        refine wpList_nil ?_
        refine th_n ?_
        refine wp_ret ?_
        refine bl_ret ?_
        refine th_ret ?_
        refine th_ret ?_
        refine .inr ⟨rfl, ?_⟩
        refine bl_ret ?_
        refine th_ret ?_
        have hx_ := Option.some.inj hP; subst hx_
        have hP : some (false) = some r := hK294
        obtain rfl := Option.some.inj hP
        refine ret1 E rfl rfl ?_
        exact ⟨_, rfl, rfl, H.sel [] rfl⟩
       replace E := E_; clear E_
       have h413 : (0 : Int) = (((List.length r344.2.2) : Nat) : Int) := bne_eq_false_iff_eq.1 hb_
       clear hb_; replace hP := ite_t h413 hP
       refine c_false E rfl ?_
       refine wp_skip ?_
       refine bl_n ?_
       refine th_n ?_
       refine wp_region_lit ?_
       obtain ⟨g414, hP⟩ := ask_inv hP
       refine vn tbok 3 [.int .i64 (i171 + 1)] [(9, .int .i64 (i171 + 1))] [IntKind.i64.wrap (i171 + 1) = i171 + 1] E (by kernel_rfl) (by kernel_rfl) (wrap_in g414) ?_
       clear E; intro a E
       refine wpList_nil ?_
       exact th_n ⟨m291, Nat.lt_succ_self _, r344.2.2, i171 + 1, A358, c359, E.pick _ ⟨rfl, rfl, rfl, rfl, trivial⟩, H.sel [0, 2, 1] rfl, hP⟩
      replace hP := ite_f h379 hP
      have HR418 := H
      refine dr_start (S := fun w_ => Chg (atL []) w353 w_) (by kernel_rfl) ?_
      intro w415 hc416
      have HS417 : Chg (atL []) w353 w415 := hc416.mono (fun _ _ h_ => h_.elim)
      replace H := H.ext hc416
      refine dn tbok (by kernel_rfl) [0, 1, 2, 3] [] [(80, .bool ((0 : Int) != r344.1))] (fun w_ => []) 23 E (fun _ _ => by kernel_rfl) (by kernel_rfl) (fun w_ hS_ => trivial) (by kernel_rfl) HS417 ?_
      clear E; intro a E
      replace E := E.same (t := 80) (u := .bool false) rfl (congrArg Value.bool (bne_eq_false_iff_eq.2 h363))
      refine dn tbok (by kernel_rfl) [4, 5, 6, 7, 8] [] [(85, .bool ((1 : Int) != r344.2.1))] (fun w_ => []) 18 E (fun _ _ => by kernel_rfl) (by kernel_rfl) (fun w_ hS_ => trivial) (by kernel_rfl) HS417 ?_
      clear E; intro a E
      replace E := E.same (t := 85) (u := .bool false) rfl (congrArg Value.bool (bne_eq_false_iff_eq.2 h364))
      refine dn tbok (by kernel_rfl) [9, 10, 11, 12, 13] [.slice A365 (List.length (List.getD lists (Int.toNat i171) [])) c366] [(86, .slice A324 (List.length r315.1) c325), (90, .slice A365 (List.length (List.getD lists (Int.toNat i171) [])) c366)] (fun w_ => [0 ≤ i171 ∧ i171 < (((List.length lists) : Nat) : Int), World.cell? w_ ⟨b301, o302 + (Int.toNat i171) * 1, none⟩ = some (.slice A365 (List.length (List.getD lists (Int.toNat i171) [])) c366)]) 13 E (fun _ _ => by kernel_rfl) (by kernel_rfl) (fun w_ hS_ => ⟨g300, hS_.cell (hl367) (HR418.blk [] 0 rds_ro (idx_pos g300) rfl)⟩) (by kernel_rfl) HS417 ?_
      clear E; intro a E
      refine wpAnyH_all (rs := [14]) (by kernel_rfl) (by simp) ?_
      refine all1 ?_
      refine wpOp_of_list rfl ?_
      obtain ⟨Fa419, Hc420, hb421⟩ := H.call [] [(3, false), (3, true), (7, false)] rfl rfl trivial
      refine e_call E rfl rfl Try.func24 rfl rfl rfl (kit_KeptInts_calls A324 c325 A365 c366 r315.1 r315.2 (List.getD lists (Int.toNat i171) []) (H.rcapE 3 rfl) hk368 Hc420 h371) ?_
      rintro v422 w423 a ⟨rfl, HR424⟩ E_
      replace E := E_ _ rfl; clear E_
      obtain ⟨H_, hc425⟩ := hb421 _ _ HR424 rfl
      replace HS417 := HS417.ext (callS_ext hc425)
      replace H := H_; clear H_; try dsimp only [setn, addE, goneL] at H
      refine wpList_nil ?_
      refine th_n ⟨HS417, ?_⟩
      refine dn tbok (by kernel_rfl) [15, 16, 17] [] [(94, .bool (!r370))] (fun w_ => []) 9 E (fun _ _ => by kernel_rfl) (by kernel_rfl) (fun w_ hS_ => trivial) (by kernel_rfl) HS417 ?_
      clear E; intro a E
      replace E := E.same (t := 94) (u := .bool true) rfl (congrArg Value.bool (not_f' ((eq_false_of_ne_true h379))))
      refine dn tbok (by kernel_rfl) [18, 19, 20, 21, 22, 23, 24, 25, 26] [] [(103, .bool true)] (fun w_ => []) 0 E (fun _ _ => by kernel_rfl) (by kernel_rfl) (fun w_ hS_ => trivial) (by kernel_rfl) HS417 ?_
      clear E; intro a E
      refine dr_done (by kernel_rfl) ?_
      clear HS417 HR418
      refine th_n ?_
      refine c_true E rfl ?_
      refine wp_seq ?_
      refine wp_region_lit ?_
      refine vn tbok 1 [] [(4, .bool false)] [] E (by kernel_rfl) (by kernel_rfl) trivial ?_
      clear E; intro a E
      refine wpList_nil ?_
      refine th_n ?_
      refine wp_ret ?_
      refine bl_ret ?_
      refine th_ret ?_
      refine th_ret ?_
      refine .inr ⟨rfl, ?_⟩
      refine bl_ret ?_
      refine th_ret ?_
      have hx_ := Option.some.inj hP; subst hx_
      have hP : some (false) = some r := hK294
      obtain rfl := Option.some.inj hP
      refine ret1 E rfl rfl ?_
      exact ⟨_, rfl, rfl, H.sel [] rfl⟩
     replace hP := ite_f h364 hP
     have HR429 := H
     refine dr_start (S := fun w_ => Chg (atL []) w353 w_) (by kernel_rfl) ?_
     intro w426 hc427
     have HS428 : Chg (atL []) w353 w426 := hc427.mono (fun _ _ h_ => h_.elim)
     replace H := H.ext hc427
     refine dn tbok (by kernel_rfl) [0, 1, 2, 3] [] [(80, .bool ((0 : Int) != r344.1))] (fun w_ => []) 23 E (fun _ _ => by kernel_rfl) (by kernel_rfl) (fun w_ hS_ => trivial) (by kernel_rfl) HS428 ?_
     clear E; intro a E
     replace E := E.same (t := 80) (u := .bool false) rfl (congrArg Value.bool (bne_eq_false_iff_eq.2 h363))
     refine dn tbok (by kernel_rfl) [4, 5, 6, 7, 8] [] [(85, .bool ((1 : Int) != r344.2.1))] (fun w_ => []) 18 E (fun _ _ => by kernel_rfl) (by kernel_rfl) (fun w_ hS_ => trivial) (by kernel_rfl) HS428 ?_
     clear E; intro a E
     replace E := E.same (t := 85) (u := .bool true) rfl (congrArg Value.bool (bne_iff_ne.2 h364))
     refine dn tbok (by kernel_rfl) [9, 10, 11, 12, 13, 14, 15, 16, 17, 18, 19, 20, 21, 22, 23, 24, 25, 26] [] [(103, .bool true)] (fun w_ => []) 0 E (fun _ _ => by kernel_rfl) (by kernel_rfl) (fun w_ hS_ => trivial) (by kernel_rfl) HS428 ?_
     clear E; intro a E
     refine dr_done (by kernel_rfl) ?_
     clear HS428 HR429
     refine th_n ?_
     refine c_true E rfl ?_
     refine wp_seq ?_
     refine wp_region_lit ?_
     refine vn tbok 1 [] [(4, .bool false)] [] E (by kernel_rfl) (by kernel_rfl) trivial ?_
     clear E; intro a E
     refine wpList_nil ?_
     refine th_n ?_
     refine wp_ret ?_
     refine bl_ret ?_
     refine th_ret ?_
     refine th_ret ?_
     refine .inr ⟨rfl, ?_⟩
     refine bl_ret ?_
     refine th_ret ?_
     have hx_ := Option.some.inj hP; subst hx_
     have hP : some (false) = some r := hK294
     obtain rfl := Option.some.inj hP
     refine ret1 E rfl rfl ?_
     exact ⟨_, rfl, rfl, H.sel [] rfl⟩
    replace hP := ite_f h363 hP
    have HR433 := H
    refine dr_start (S := fun w_ => Chg (atL []) w353 w_) (by kernel_rfl) ?_
    intro w430 hc431
    have HS432 : Chg (atL []) w353 w430 := hc431.mono (fun _ _ h_ => h_.elim)
    replace H := H.ext hc431
    refine dn tbok (by kernel_rfl) [0, 1, 2, 3] [] [(80, .bool ((0 : Int) != r344.1))] (fun w_ => []) 23 E (fun _ _ => by kernel_rfl) (by kernel_rfl) (fun w_ hS_ => trivial) (by kernel_rfl) HS432 ?_
    clear E; intro a E
    replace E := E.same (t := 80) (u := .bool true) rfl (congrArg Value.bool (bne_iff_ne.2 h363))
    refine dn tbok (by kernel_rfl) [4, 5, 6, 7, 8, 9, 10, 11, 12, 13, 14, 15, 16, 17, 18, 19, 20, 21, 22, 23, 24, 25, 26] [] [(103, .bool true)] (fun w_ => []) 0 E (fun _ _ => by kernel_rfl) (by kernel_rfl) (fun w_ hS_ => trivial) (by kernel_rfl) HS432 ?_
    clear E; intro a E
    refine dr_done (by kernel_rfl) ?_
    clear HS432 HR433
    refine th_n ?_
    refine c_true E rfl ?_
    refine wp_seq ?_
    refine wp_region_lit ?_
    refine vn tbok 1 [] [(4, .bool false)] [] E (by kernel_rfl) (by kernel_rfl) trivial ?_
    clear E; intro a E
    refine wpList_nil ?_
    refine th_n ?_
    refine wp_ret ?_
    refine bl_ret ?_
    refine th_ret ?_
    refine th_ret ?_
    refine .inr ⟨rfl, ?_⟩
    refine bl_ret ?_
    refine th_ret ?_
    have hx_ := Option.some.inj hP; subst hx_
    have hP : some (false) = some r := hK294
    obtain rfl := Option.some.inj hP
    refine ret1 E rfl rfl ?_
    exact ⟨_, rfl, rfl, H.sel [] rfl⟩
   replace E := E_; clear E_
   have h434 : ¬ (i171 < (((List.length lists) : Nat) : Int)) := of_decide_eq_false hb_
   clear hb_; replace hP := ite_f h434 hP
   refine c_false E rfl ?_
   refine wp_exit ?_
   refine th_exit ?_
   have hx_ := Option.some.inj hP
   refine th_exit (.inl ⟨0, rfl, ?_⟩)
   exact ⟨rfl, m168, A169, c170, E.pick _ ⟨rfl, rfl, trivial⟩, H.sel [1, 2] rfl, hx_.symm⟩
  clear E H hL293; intro i_ a w296 hM_
  obtain ⟨rfl, x298, A289, c290, E, H, hx_⟩ := hM_
  subst hx_; have hP := elim_l hK294
  clear hK294
  refine bl_hit ?_
  refine th_n ?_
  refine wp_seq ?_
  refine wp_region_lit ?_
  refine vn tbok 1 [] [(104, .pointer none)] [] E (by kernel_rfl) (by kernel_rfl) trivial ?_
  clear E; intro a E
  obtain ⟨x438, h439, hP⟩ := bind_inv hP
  refine e_call (R := fun v_ w_ => ∃ (x440 : Unit), v_ = .slice none 0 0 ∧ Hp S Fa w0 w_ [.row true cNode 64 A289 c290 x298, .box g38 61 [.int .i64 n, .slice A289 (List.length x298) c290]] ∧ x438 = x440) E rfl rfl Try.func18 rfl rfl rfl ?_ ?_
  ·
   clear E hP; have hP := h439; clear h439; rw [law14_GuardStore_f5] at hP
   refine enterV (n := 11) Try.func18 rfl rfl rfl ?_
   intro a E
   replace E := E.pick [(0, .pointer none)] ⟨rfl, trivial⟩
   refine wp_seq ?_
   refine wp_region_lit ?_
   refine vn tbok 1 [] [] [] E (by kernel_rfl) (by kernel_rfl) trivial ?_
   clear E; intro a E
   refine wpList_nil ?_
   refine th_n ?_
   refine wp_seq ?_
   refine wp_seq ?_
   refine wp_region_lit ?_
   refine vn tbok 1 [] [(3, .pointer none)] [] E (by kernel_rfl) (by kernel_rfl) trivial ?_
   clear E; intro a E
   obtain ⟨x441, h442, hP⟩ := bind_inv hP
   refine e_call (R := fun v_ w_ => ∃ (x443 : Unit), v_ = .bool true ∧ Hp S Fa w0 w_ [.row true cNode 64 A289 c290 x298, .box g38 61 [.int .i64 n, .slice A289 (List.length x298) c290]] ∧ x441 = x443) E rfl rfl Try.func31 rfl rfl rfl ?_ ?_
   ·
    clear E hP; have hP := h442; clear h442; rw [law14_GuardStore_f6] at hP
    refine enterV (n := 12) Try.func31 rfl rfl rfl ?_
    intro a E
    replace E := E.pick [(0, .pointer none)] ⟨rfl, trivial⟩
    refine wp_seq ?_
    refine wp_region_lit ?_
    refine vn tbok 1 [] [] [] E (by kernel_rfl) (by kernel_rfl) trivial ?_
    clear E; intro a E
    refine wpList_nil ?_
    refine th_n ?_
    refine wp_seq ?_
    refine wp_region_lit ?_
    refine vn tbok 10 [] [(2, .bool true)] [] E (by kernel_rfl) (by kernel_rfl) trivial ?_
    clear E; intro a E
    refine wpList_nil ?_
    refine th_n ?_
    refine wp_ret ?_
    have hx_ := Option.some.inj hP
    refine ret1 E rfl rfl ?_
    exact ⟨_, rfl, (), rfl, H.sel [1, 0] rfl, hx_.symm⟩
   clear H
   rintro v445 w444 a ⟨x443, rfl, H, hx_⟩ E_
   subst hx_
   replace E := E_ _ rfl; clear E_
   refine wpList_nil ?_
   refine th_n ?_
   refine c_true E rfl ?_
   refine wp_seq ?_
   refine wp_region_lit ?_
   refine vn tbok 1 [] [(2, .slice none 0 0)] [] E (by kernel_rfl) (by kernel_rfl) trivial ?_
   clear E; intro a E
   refine wpList_nil ?_
   refine th_n ?_
   refine wp_ret ?_
   refine th_ret ?_
   have hx_ := Option.some.inj hP
   refine ret1 E rfl rfl ?_
   exact ⟨_, rfl, (), rfl, H.sel [0, 1] rfl, hx_.symm⟩
  clear H
  rintro v447 w446 a ⟨x440, rfl, H, hx_⟩ E_
  subst hx_
  replace E := E_ _ rfl; clear E_
  refine vn tbok 1 [] [(106, .pointer none)] [] E (by kernel_rfl) (by kernel_rfl) trivial ?_
  clear E; intro a E
  obtain ⟨x450, h451, hP⟩ := bind_inv hP
  refine e_call (R := fun v_ w_ => ∃ (x452 : Unit), v_ = .slice none 0 0 ∧ Hp S Fa w0 w_ [.row true cNode 64 A289 c290 x298, .box g38 61 [.int .i64 n, .slice A289 (List.length x298) c290]] ∧ x450 = x452) E rfl rfl Try.func18 rfl rfl rfl ?_ ?_
  ·
   clear E hP; have hP := h451; clear h451; rw [law14_GuardStore_f7] at hP
   refine enterV (n := 11) Try.func18 rfl rfl rfl ?_
   intro a E
   replace E := E.pick [(0, .pointer none)] ⟨rfl, trivial⟩
   refine wp_seq ?_
   refine wp_region_lit ?_
   refine vn tbok 1 [] [] [] E (by kernel_rfl) (by kernel_rfl) trivial ?_
   clear E; intro a E
   refine wpList_nil ?_
   refine th_n ?_
   refine wp_seq ?_
   refine wp_seq ?_
   refine wp_region_lit ?_
   refine vn tbok 1 [] [(3, .pointer none)] [] E (by kernel_rfl) (by kernel_rfl) trivial ?_
   clear E; intro a E
   obtain ⟨x453, h454, hP⟩ := bind_inv hP
   refine e_call (R := fun v_ w_ => ∃ (x455 : Unit), v_ = .bool true ∧ Hp S Fa w0 w_ [.row true cNode 64 A289 c290 x298, .box g38 61 [.int .i64 n, .slice A289 (List.length x298) c290]] ∧ x453 = x455) E rfl rfl Try.func31 rfl rfl rfl ?_ ?_
   ·
    clear E hP; have hP := h454; clear h454; rw [law14_GuardStore_f8] at hP
    refine enterV (n := 12) Try.func31 rfl rfl rfl ?_
    intro a E
    replace E := E.pick [(0, .pointer none)] ⟨rfl, trivial⟩
    refine wp_seq ?_
    refine wp_region_lit ?_
    refine vn tbok 1 [] [] [] E (by kernel_rfl) (by kernel_rfl) trivial ?_
    clear E; intro a E
    refine wpList_nil ?_
    refine th_n ?_
    refine wp_seq ?_
    refine wp_region_lit ?_
    refine vn tbok 10 [] [(2, .bool true)] [] E (by kernel_rfl) (by kernel_rfl) trivial ?_
    clear E; intro a E
    refine wpList_nil ?_
    refine th_n ?_
    refine wp_ret ?_
    have hx_ := Option.some.inj hP
    refine ret1 E rfl rfl ?_
    exact ⟨_, rfl, (), rfl, H.sel [0, 1] rfl, hx_.symm⟩
   clear H
   rintro v457 w456 a ⟨x455, rfl, H, hx_⟩ E_
   subst hx_
   replace E := E_ _ rfl; clear E_
   refine wpList_nil ?_
   refine th_n ?_
   refine c_true E rfl ?_
   refine wp_seq ?_
   refine wp_region_lit ?_
   refine vn tbok 1 [] [(2, .slice none 0 0)] [] E (by kernel_rfl) (by kernel_rfl) trivial ?_
   clear E; intro a E
   refine wpList_nil ?_
   refine th_n ?_
   refine wp_ret ?_
   refine th_ret ?_
   have hx_ := Option.some.inj hP
   refine ret1 E rfl rfl ?_
   exact ⟨_, rfl, (), rfl, H.sel [0, 1] rfl, hx_.symm⟩
  clear H
  rintro v459 w458 a ⟨x452, rfl, H, hx_⟩ E_
  subst hx_
  replace E := E_ _ rfl; clear E_
  refine vn tbok 2 [] [(15, .slice none 0 0), (16, .slice none 0 0)] [] E (by kernel_rfl) (by kernel_rfl) trivial ?_
  clear E; intro a E
  refine wpList_nil ?_
  refine th_n ?_
  refine wp_seq ?_
  refine wp_seq ?_
  refine wp_region_lit ?_
  refine vn tbok 5 [.slice A289 (List.length x298) c290] [(108, .slice none 0 0), (112, .slice A289 (List.length x298) c290)] [World.cell? w458 ⟨g38, 1, none⟩ = some (.slice A289 (List.length x298) c290)] E (by kernel_rfl) (by kernel_rfl) ((H.box 1 rfl).cell (j := 1) rfl) ?_
  clear E; intro a E
  replace H := H.nilrow cNode 64; try dsimp only [setn, addE, goneL] at H
  obtain ⟨r461, h462, hP⟩ := bind_inv hP
  obtain ⟨Fa463, Hc464, hb465⟩ := H.call [] [(2, false), (0, false)] rfl rfl trivial
  refine e_call E rfl rfl Try.func25 rfl rfl rfl (kit_SameNodes_calls none 0 A289 c290 [] x298 (Nat.le_refl _) (H.rcap 0 rfl) Hc464 h462) ?_
  rintro v466 w467 a ⟨rfl, HR468⟩ E_
  replace E := E_ _ rfl; clear E_
  obtain ⟨H_, hc469⟩ := hb465 _ _ HR468 rfl
  replace H := H_; clear H_; try dsimp only [setn, addE, goneL] at H
  refine vn tbok 1 [] [(114, .bool (!r461))] [] E (by kernel_rfl) (by kernel_rfl) trivial ?_
  clear E; intro a E
  refine wpList_nil ?_
  refine th_n ?_
  refine E.cases (t := 114) rfl (fun hb_ E_ => ?_) (fun hb_ E_ => ?_)
  ·
   replace E := E_; clear E_
   have h470 : ¬ (r461 = true) := (ne_true_of_eq_false (not_t hb_))
   clear hb_; replace hP := ite_f h470 hP
   refine c_true E rfl ?_
   refine wp_seq ?_
   refine wp_region_lit ?_
   refine vn tbok 1 [] [(4, .bool false)] [] E (by kernel_rfl) (by kernel_rfl) trivial ?_
   clear E; intro a E
   refine wpList_nil ?_
   refine th_n ?_
   refine wp_ret ?_
   refine th_ret ?_
   obtain rfl := Option.some.inj hP
   refine ret1 E rfl rfl ?_
   exact ⟨_, rfl, rfl, H.sel [] rfl⟩
  replace E := E_; clear E_
  have h471 : r461 = true := (not_f hb_)
  clear hb_; replace hP := ite_t h471 hP
  refine c_false E rfl ?_
  refine wp_skip ?_
  refine th_n ?_
  refine wp_seq ?_
  refine wp_seq ?_
  refine wp_region_lit ?_
  refine vn tbok 1 [] [(17, .int .i64 0)] [] E (by kernel_rfl) (by kernel_rfl) trivial ?_
  clear E; intro a E
  refine wpList_nil ?_
  refine th_n ?_
  refine wp_block ?_
  obtain ⟨x473, hL474, hK475⟩ := bind_inv hP
  clear hP
  refine loop_cut (fun i_ a w_ => (i_ = 2 ∧ ∃ (x478 : Unit), Fr a 140 [(5, .pointer none), (7, .pointer (some ⟨g38, 0, none⟩)), (16, .slice none 0 0)] ∧ Hp S Fa w0 w_ [.row true cNode 64 A289 c290 x298, .box g38 61 [.int .i64 n, .slice A289 (List.length x298) c290]] ∧ x473 = x478)) ?_ ?_
  ·
   refine loopV (fun m477 a w476 => ∃ (_u : Unit), Fr a 140 [(5, .pointer none), (7, .pointer (some ⟨g38, 0, none⟩)), (15, .slice none 0 0), (16, .slice none 0 0), (17, .int .i64 0)] ∧ Hp S Fa w0 w476 [.row true cNode 64 A289 c290 x298, .box g38 61 [.int .i64 n, .slice A289 (List.length x298) c290]] ∧ law14_GuardStore_l9 N m477  = some x473) N ?_ ?_
   ·
    exact ⟨(), E.pick _ ⟨rfl, rfl, rfl, rfl, rfl, trivial⟩, H.sel [0, 1] rfl, hL474⟩
   clear E H hL474; intro m477 a w476 hI_
   obtain ⟨_, E, H, hP⟩ := hI_
   obtain ⟨m472, rfl⟩ : ∃ q_, m477 = q_ + 1 := by cases m477 with | zero => rw [law14_GuardStore_l9] at hP; cases hP | succ q_ => exact ⟨q_, rfl⟩
   rw [law14_GuardStore_l9] at hP
   refine wp_seq ?_
   refine wp_seq ?_
   refine wp_region_lit ?_
   refine vn tbok 4 [] [(118, .bool false)] [] E (by kernel_rfl) (by kernel_rfl) trivial ?_
   clear E; intro a E
   refine wpList_nil ?_
   refine th_n ?_
   refine c_false E rfl ?_
   refine wp_exit ?_
   refine th_exit ?_
   have hx_ := Option.some.inj hP
   refine th_exit (.inl ⟨2, rfl, ?_⟩)
   exact ⟨rfl, (), E.pick _ ⟨rfl, rfl, rfl, trivial⟩, H.sel [0, 1] rfl, hx_.symm⟩
  clear E H hL474; intro i_ a w476 hM_
  obtain ⟨rfl, x478, E, H, hx_⟩ := hM_
  subst hx_; have hP := hK475; clear hK475
  refine bl_hit ?_
  refine th_n ?_
  refine wp_seq ?_
  obtain ⟨r480, h481, hP⟩ := bind_inv hP
  by_cases h489 : r480 = true
  ·
   replace hP := ite_t h489 hP
   obtain ⟨x492, h493, hP⟩ := bind_inv hP
   obtain ⟨r503, h504, hP⟩ := bind_inv hP
   have HR515 := H
   refine dr_start (S := fun w_ => Chg (atL []) w476 w_) (by kernel_rfl) ?_
   intro w512 hc513
   have HS514 : Chg (atL []) w476 w512 := hc513.mono (fun _ _ h_ => h_.elim)
   replace H := H.ext hc513
   refine dn tbok (by kernel_rfl) [0, 1, 2, 3, 4] [.slice A289 (List.length x298) c290] [(125, .slice none 0 0), (129, .slice A289 (List.length x298) c290)] (fun w_ => [World.cell? w_ ⟨g38, 1, none⟩ = some (.slice A289 (List.length x298) c290)]) 11 E (fun _ _ => by kernel_rfl) (by kernel_rfl) (fun w_ hS_ => ((HR515.boxk [] hS_ 1 rfl rfl).cell (j := 1) rfl)) (by kernel_rfl) HS514 ?_
   clear E; intro a E
   refine wpAnyH_all (rs := [5]) (by kernel_rfl) (by simp) ?_
   refine all1 ?_
   refine wpOp_of_list rfl ?_
   replace H := H.nilrow cNode 64; try dsimp only [setn, addE, goneL] at H
   obtain ⟨Fa517, Hc518, hb519⟩ := H.call [] [(2, false), (0, false)] rfl rfl trivial
   refine e_call E rfl rfl Try.func25 rfl rfl rfl (kit_SameNodes_calls none 0 A289 c290 [] x298 (Nat.le_refl _) (H.rcap 0 rfl) Hc518 h481) ?_
   rintro v520 w521 a ⟨rfl, HR522⟩ E_
   replace E := E_ _ rfl; clear E_
   obtain ⟨H_, hc523⟩ := hb519 _ _ HR522 rfl
   replace HS514 := HS514.ext (callS_ext hc523)
   replace H := H_; clear H_; try dsimp only [setn, addE, goneL] at H
   refine wpList_nil ?_
   refine th_n ⟨HS514, ?_⟩
   refine dn tbok (by kernel_rfl) [6] [] [(131, .bool r480)] (fun w_ => []) 9 E (fun _ _ => by kernel_rfl) (by kernel_rfl) (fun w_ hS_ => trivial) (by kernel_rfl) HS514 ?_
   clear E; intro a E
   replace E := E.same (t := 131) (u := .bool true) rfl (congrArg Value.bool h489)
   refine dn tbok (by kernel_rfl) [7, 9, 10, 11, 12] [.slice A289 (List.length x298) c290] [(132, .pointer none), (137, .slice A289 (List.length x298) c290)] (fun w_ => [World.cell? w_ ⟨g38, 1, none⟩ = some (.slice A289 (List.length x298) c290)]) 4 E (fun _ _ => by kernel_rfl) (by kernel_rfl) (fun w_ hS_ => ((HR515.boxk [] hS_ 1 rfl rfl).cell (j := 1) rfl)) (by kernel_rfl) HS514 ?_
   clear E; intro a E
   refine wpAnyH_all (rs := [8]) (by kernel_rfl) (by simp) ?_
   refine all1 ?_
   refine wpOp_of_list rfl ?_
   refine e_call (R := fun v_ w_ => ∃ (x526 : Unit), v_ = .slice none 0 0 ∧ Hp S Fa w0 w_ [.row true cNode 64 A289 c290 x298] ∧ Chg (atL []) w476 w_ ∧ x492 = x526) E rfl rfl Try.func18 rfl rfl rfl ?_ ?_
   ·
    clear E hP; have hP := h493; clear h493; rw [law14_GuardStore_f10] at hP
    refine enterV (n := 11) Try.func18 rfl rfl rfl ?_
    intro a E
    replace E := E.pick [(0, .pointer none)] ⟨rfl, trivial⟩
    refine wp_seq ?_
    refine wp_region_lit ?_
    refine vn tbok 1 [] [] [] E (by kernel_rfl) (by kernel_rfl) trivial ?_
    clear E; intro a E
    refine wpList_nil ?_
    refine th_n ?_
    refine wp_seq ?_
    refine wp_seq ?_
    refine wp_region_lit ?_
    refine vn tbok 1 [] [(3, .pointer none)] [] E (by kernel_rfl) (by kernel_rfl) trivial ?_
    clear E; intro a E
    obtain ⟨x495, h527, hP⟩ := bind_inv hP
    refine e_call (R := fun v_ w_ => ∃ (x528 : Unit), v_ = .bool true ∧ Hp S Fa w0 w_ [.row true cNode 64 A289 c290 x298] ∧ Chg (atL []) w476 w_ ∧ x495 = x528) E rfl rfl Try.func31 rfl rfl rfl ?_ ?_
    ·
     clear E hP; have hP := h527; clear h527; rw [law14_GuardStore_f11] at hP
     refine enterV (n := 12) Try.func31 rfl rfl rfl ?_
     intro a E
     replace E := E.pick [(0, .pointer none)] ⟨rfl, trivial⟩
     refine wp_seq ?_
     refine wp_region_lit ?_
     refine vn tbok 1 [] [] [] E (by kernel_rfl) (by kernel_rfl) trivial ?_
     clear E; intro a E
     refine wpList_nil ?_
     refine th_n ?_
     refine wp_seq ?_
     refine wp_region_lit ?_
     refine vn tbok 10 [] [(2, .bool true)] [] E (by kernel_rfl) (by kernel_rfl) trivial ?_
     clear E; intro a E
     refine wpList_nil ?_
     refine th_n ?_
     refine wp_ret ?_
     have hx_ := Option.some.inj hP
     refine ret1 E rfl rfl ?_
     exact ⟨_, rfl, (), rfl, H.sel [0] rfl, HS514, hx_.symm⟩
    clear H HS514
    rintro v530 w529 a ⟨x528, rfl, H, HS514, hx_⟩ E_
    subst hx_
    replace E := E_ _ rfl; clear E_
    refine wpList_nil ?_
    refine th_n ?_
    refine c_true E rfl ?_
    refine wp_seq ?_
    refine wp_region_lit ?_
    refine vn tbok 1 [] [(2, .slice none 0 0)] [] E (by kernel_rfl) (by kernel_rfl) trivial ?_
    clear E; intro a E
    refine wpList_nil ?_
    refine th_n ?_
    refine wp_ret ?_
    refine th_ret ?_
    have hx_ := Option.some.inj hP
    refine ret1 E rfl rfl ?_
    exact ⟨_, rfl, (), rfl, H.sel [0] rfl, HS514, hx_.symm⟩
   clear H HS514
   rintro v532 w531 a ⟨x526, rfl, H, HS514, hx_⟩ E_
   subst hx_
   replace E := E_ _ rfl; clear E_
   refine wpList_nil ?_
   refine th_n ⟨HS514, ?_⟩
   refine wpAnyH_all (rs := [13]) (by kernel_rfl) (by simp) ?_
   refine all1 ?_
   refine wpOp_of_list rfl ?_
   replace H := H.nilrow cNode 64; try dsimp only [setn, addE, goneL] at H
   obtain ⟨Fa534, Hc535, hb536⟩ := H.call [] [(1, false), (0, false)] rfl rfl trivial
   refine e_call E rfl rfl Try.func25 rfl rfl rfl (kit_SameNodes_calls none 0 A289 c290 [] x298 (Nat.le_refl _) (H.rcap 0 rfl) Hc535 h504) ?_
   rintro v537 w538 a ⟨rfl, HR539⟩ E_
   replace E := E_ _ rfl; clear E_
   obtain ⟨H_, hc540⟩ := hb536 _ _ HR539 rfl
   replace HS514 := HS514.ext (callS_ext hc540)
   replace H := H_; clear H_; try dsimp only [setn, addE, goneL] at H
   refine wpList_nil ?_
   refine th_n ⟨HS514, ?_⟩
   refine dn tbok (by kernel_rfl) [14, 15] [] [(4, .bool r503)] (fun w_ => []) 0 E (fun _ _ => by kernel_rfl) (by kernel_rfl) (fun w_ hS_ => trivial) (by kernel_rfl) HS514 ?_
   clear E; intro a E
   refine dr_done (by kernel_rfl) ?_
   clear HS514 HR515
   refine th_n ?_
   refine wp_ret ?_
   obtain rfl := Option.some.inj hP
   refine ret1 E rfl rfl ?_
   exact ⟨_, rfl, rfl, H.sel [] rfl⟩
  replace hP := ite_f h489 hP
  have HR544 := H
  refine dr_start (S := fun w_ => Chg (atL []) w476 w_) (by kernel_rfl) ?_
  intro w541 hc542
  have HS543 : Chg (atL []) w476 w541 := hc542.mono (fun _ _ h_ => h_.elim)
  replace H := H.ext hc542
  refine dn tbok (by kernel_rfl) [0, 1, 2, 3, 4] [.slice A289 (List.length x298) c290] [(125, .slice none 0 0), (129, .slice A289 (List.length x298) c290)] (fun w_ => [World.cell? w_ ⟨g38, 1, none⟩ = some (.slice A289 (List.length x298) c290)]) 11 E (fun _ _ => by kernel_rfl) (by kernel_rfl) (fun w_ hS_ => ((HR544.boxk [] hS_ 1 rfl rfl).cell (j := 1) rfl)) (by kernel_rfl) HS543 ?_
  clear E; intro a E
  refine wpAnyH_all (rs := [5]) (by kernel_rfl) (by simp) ?_
  refine all1 ?_
  refine wpOp_of_list rfl ?_
  replace H := H.nilrow cNode 64; try dsimp only [setn, addE, goneL] at H
  obtain ⟨Fa546, Hc547, hb548⟩ := H.call [] [(2, false), (0, false)] rfl rfl trivial
  refine e_call E rfl rfl Try.func25 rfl rfl rfl (kit_SameNodes_calls none 0 A289 c290 [] x298 (Nat.le_refl _) (H.rcap 0 rfl) Hc547 h481) ?_
  rintro v549 w550 a ⟨rfl, HR551⟩ E_
  replace E := E_ _ rfl; clear E_
  obtain ⟨H_, hc552⟩ := hb548 _ _ HR551 rfl
  replace HS543 := HS543.ext (callS_ext hc552)
  replace H := H_; clear H_; try dsimp only [setn, addE, goneL] at H
  refine wpList_nil ?_
  refine th_n ⟨HS543, ?_⟩
  refine dn tbok (by kernel_rfl) [6] [] [(131, .bool r480)] (fun w_ => []) 9 E (fun _ _ => by kernel_rfl) (by kernel_rfl) (fun w_ hS_ => trivial) (by kernel_rfl) HS543 ?_
  clear E; intro a E
  replace E := E.same (t := 131) (u := .bool false) rfl (congrArg Value.bool (eq_false_of_ne_true h489))
  refine dn tbok (by kernel_rfl) [7, 8, 9, 10, 11, 12, 13, 14, 15] [] [(4, .bool false)] (fun w_ => []) 0 E (fun _ _ => by kernel_rfl) (by kernel_rfl) (fun w_ hS_ => trivial) (by kernel_rfl) HS543 ?_
  clear E; intro a E
  refine dr_done (by kernel_rfl) ?_
  clear HS543 HR544
  refine th_n ?_
  refine wp_ret ?_
  obtain rfl := Option.some.inj hP
  refine ret1 E rfl rfl ?_
  exact ⟨_, rfl, rfl, H.sel [] rfl⟩
 subst hr_; have hP := (elim_r hP)
 obtain ⟨x23, hxx_⟩ : ∃ y_, y_ = x_ := ⟨_, rfl⟩; subst hxx_
 replace E := E_ _ rfl; clear E_
 obtain ⟨H_, hc17⟩ := hb9 _ _ HR21 rfl
 replace H := H_; clear H_; try dsimp only [setn, addE, goneL] at H
 refine vn tbok 5 [] [(5, .pointer (some ⟨g19, 0, none⟩)), (6, .int .i64 x23)] [] E (by kernel_rfl) (by kernel_rfl) trivial ?_
 clear E; intro a E
 refine wpList_nil ?_
 refine th_n ?_
 refine wp_seq ?_
 refine wp_region_lit ?_
 refine vn tbok 1 [] [(24, .int .i64 n)] [] E (by kernel_rfl) (by kernel_rfl) trivial ?_
 clear E; intro a E
 obtain ⟨r555, h556, hP⟩ := bind_inv hP
 obtain ⟨Fa557, Hc558, hb559⟩ := H.call [] [] rfl rfl trivial
 refine e_call E rfl rfl Try.func21 rfl rfl rfl (ref14_New_calls  n  Hc558 h556) ?_
 intro v565 w564 a hR566 E_
 rcases hR566 with ⟨x_, hr_, rfl, HR568⟩ | ⟨x_, g569, hr_, rfl, HR570⟩
 ·
  subst hr_; have hP := elim_l hP
  obtain ⟨x571, hxx_⟩ : ∃ y_, y_ = x_ := ⟨_, rfl⟩; subst hxx_
  replace E := E_ _ rfl; clear E_
  obtain ⟨H_, hc567⟩ := hb559 _ _ HR568 rfl
  replace H := H_; clear H_; try dsimp only [setn, addE, goneL] at H
  refine vn tbok 5 [] [(7, .pointer none), (8, .int .i64 x571)] [] E (by kernel_rfl) (by kernel_rfl) trivial ?_
  clear E; intro a E
  refine wpList_nil ?_
  refine th_n ?_
  refine wp_seq ?_
  refine wp_seq ?_
  refine wp_region_lit ?_
  refine vn tbok 4 [] [(31, .bool ((x23 : Int) != x571))] [] E (by kernel_rfl) (by kernel_rfl) trivial ?_
  clear E; intro a E
  refine E.cases (t := 31) rfl (fun hb_ E_ => ?_) (fun hb_ E_ => ?_)
  ·
   replace E := E_; clear E_
   have h573 : ¬ ((x23 : Int) = x571) := bne_iff_ne.1 hb_
   clear hb_; replace hP := ite_f h573 hP
   refine vn tbok 6 [] [(37, .bool true)] [] E (by kernel_rfl) (by kernel_rfl) trivial ?_
   clear E; intro a E
   refine wpList_nil ?_
   refine th_n ?_
   refine c_true E rfl ?_
   refine wp_seq ?_
   refine wp_region_lit ?_
   refine vn tbok 1 [] [(4, .bool false)] [] E (by kernel_rfl) (by kernel_rfl) trivial ?_
   clear E; intro a E
   refine wpList_nil ?_
   refine th_n ?_
   refine wp_ret ?_
   refine th_ret ?_
   obtain rfl := Option.some.inj hP
   refine ret1 E rfl rfl ?_
   exact ⟨_, rfl, rfl, H.sel [] rfl⟩
  replace E := E_; clear E_
  have h574 : (x23 : Int) = x571 := bne_eq_false_iff_eq.1 hb_
  clear hb_; replace hP := ite_t h574 hP
  refine vn tbok 6 [] [(37, .bool (!(false == true)))] [] E (by kernel_rfl) (by kernel_rfl) trivial ?_
  clear E; intro a E
  refine wpList_nil ?_
  refine th_n ?_
  refine E.cases (t := 37) rfl (fun hb_ E_ => ?_) (fun hb_ E_ => ?_)
  ·
   replace E := E_; clear E_
   have h575 : ¬ (false = true) := (by simpa using hb_)
   clear hb_; replace hP := ite_f h575 hP
   refine c_true E rfl ?_
   refine wp_seq ?_
   refine wp_region_lit ?_
   refine vn tbok 1 [] [(4, .bool false)] [] E (by kernel_rfl) (by kernel_rfl) trivial ?_
   clear E; intro a E
   refine wpList_nil ?_
   refine th_n ?_
   refine wp_ret ?_
   refine th_ret ?_
   obtain rfl := Option.some.inj hP
   refine ret1 E rfl rfl ?_
   exact ⟨_, rfl, rfl, H.sel [] rfl⟩
  replace E := E_; clear E_
  have h576 : false = true := (by simpa using hb_)
  clear hb_; replace hP := ite_t h576 hP
  refine c_false E rfl ?_
  refine wp_skip ?_
  refine th_n ?_
  refine wp_seq ?_
  refine wp_seq ?_
  refine wp_region_lit ?_
  refine vn tbok 7 [] [(44, .bool true)] [] E (by kernel_rfl) (by kernel_rfl) trivial ?_
  clear E; intro a E
  refine wpList_nil ?_
  refine th_n ?_
  refine c_true E rfl ?_
  refine wp_seq ?_
  refine wp_region_lit ?_
  refine vn tbok 1 [] [(4, .bool true)] [] E (by kernel_rfl) (by kernel_rfl) trivial ?_
  clear E; intro a E
  refine wpList_nil ?_
  refine th_n ?_
  refine wp_ret ?_
  refine th_ret ?_
  obtain rfl := Option.some.inj hP
  refine ret1 E rfl rfl ?_
  exact ⟨_, rfl, rfl, H.sel [] rfl⟩
 subst hr_; have hP := (elim_r hP)
 obtain ⟨x572, hxx_⟩ : ∃ y_, y_ = x_ := ⟨_, rfl⟩; subst hxx_
 replace E := E_ _ rfl; clear E_
 obtain ⟨H_, hc567⟩ := hb559 _ _ HR570 rfl
 replace H := H_; clear H_; try dsimp only [setn, addE, goneL] at H
 refine vn tbok 5 [] [(7, .pointer (some ⟨g569, 0, none⟩)), (8, .int .i64 x572)] [] E (by kernel_rfl) (by kernel_rfl) trivial ?_
 clear E; intro a E
 refine wpList_nil ?_
 refine th_n ?_
 refine wp_seq ?_
 refine wp_seq ?_
 refine wp_region_lit ?_
 refine vn tbok 4 [] [(31, .bool ((x23 : Int) != x572))] [] E (by kernel_rfl) (by kernel_rfl) trivial ?_
 clear E; intro a E
 refine E.cases (t := 31) rfl (fun hb_ E_ => ?_) (fun hb_ E_ => ?_)
 ·
  replace E := E_; clear E_
  have h578 : ¬ ((x23 : Int) = x572) := bne_iff_ne.1 hb_
  clear hb_; replace hP := ite_f h578 hP
  refine vn tbok 6 [] [(37, .bool true)] [] E (by kernel_rfl) (by kernel_rfl) trivial ?_
  clear E; intro a E
  refine wpList_nil ?_
  refine th_n ?_
  refine c_true E rfl ?_
  refine wp_seq ?_
  refine wp_region_lit ?_
  refine vn tbok 1 [] [(4, .bool false)] [] E (by kernel_rfl) (by kernel_rfl) trivial ?_
  clear E; intro a E
  refine wpList_nil ?_
  refine th_n ?_
  refine wp_ret ?_
  refine th_ret ?_
  obtain rfl := Option.some.inj hP
  refine ret1 E rfl rfl ?_
  exact ⟨_, rfl, rfl, H.sel [] rfl⟩
 replace E := E_; clear E_
 have h579 : (x23 : Int) = x572 := bne_eq_false_iff_eq.1 hb_
 clear hb_; replace hP := ite_t h579 hP
 refine vn tbok 6 [] [(37, .bool (!(false == false)))] [] E (by kernel_rfl) (by kernel_rfl) trivial ?_
 clear E; intro a E
 refine wpList_nil ?_
 refine th_n ?_
 refine E.cases (t := 37) rfl (fun hb_ E_ => ?_) (fun hb_ E_ => ?_)
 ·
  replace E := E_; clear E_
  have h580 : ¬ (false = false) := (by simpa using hb_)
  clear hb_; replace hP := ite_f h580 hP
  refine c_true E rfl ?_
  refine wp_seq ?_
  refine wp_region_lit ?_
  refine vn tbok 1 [] [(4, .bool false)] [] E (by kernel_rfl) (by kernel_rfl) trivial ?_
  clear E; intro a E
  refine wpList_nil ?_
  refine th_n ?_
  refine wp_ret ?_
  refine th_ret ?_
  obtain rfl := Option.some.inj hP
  refine ret1 E rfl rfl ?_
  exact ⟨_, rfl, rfl, H.sel [] rfl⟩
 replace E := E_; clear E_
 have h581 : false = false := (by simpa using hb_)
 clear hb_; replace hP := ite_t h581 hP
 refine c_false E rfl ?_
 refine wp_skip ?_
 refine th_n ?_
 refine wp_seq ?_
 refine wp_seq ?_
 refine wp_region_lit ?_
 refine vn tbok 7 [] [(44, .bool (decide (40 < (((List.length lists) : Nat) : Int))))] [] E (by kernel_rfl) (by kernel_rfl) trivial ?_
 clear E; intro a E
 refine wpList_nil ?_
 refine th_n ?_
 refine E.cases (t := 44) rfl (fun hb_ E_ => ?_) (fun hb_ E_ => ?_)
 ·
  replace E := E_; clear E_
  have h582 : 40 < (((List.length lists) : Nat) : Int) := of_decide_eq_true hb_
  clear hb_; replace hP := ite_t h582 hP
  refine c_true E rfl ?_
  refine wp_seq ?_
  refine wp_region_lit ?_
  refine vn tbok 1 [] [(4, .bool true)] [] E (by kernel_rfl) (by kernel_rfl) trivial ?_
  clear E; intro a E
  refine wpList_nil ?_
  refine th_n ?_
  refine wp_ret ?_
  refine th_ret ?_
  obtain rfl := Option.some.inj hP
  refine ret1 E rfl rfl ?_
  exact ⟨_, rfl, rfl, H.sel [] rfl⟩
 replace E := E_; clear E_
 have h583 : ¬ (40 < (((List.length lists) : Nat) : Int)) := of_decide_eq_false hb_
 clear hb_; replace hP := ite_f h583 hP
 refine c_false E rfl ?_
 refine wp_skip ?_
 refine th_n ?_
 refine wp_seq ?_
 refine wp_seq ?_
 refine wp_region_lit ?_
 refine vn tbok 1 [] [(9, .int .i64 0)] [] E (by kernel_rfl) (by kernel_rfl) trivial ?_
 clear E; intro a E
 refine wpList_nil ?_
 refine th_n ?_
 refine wp_block ?_
 obtain ⟨x915, hL916, hK917⟩ := bind_inv hP
 clear hP
 replace H := H.nilrow cNode 64; try dsimp only [setn, addE, goneL] at H
 replace H := H.nilrow cNode 64; try dsimp only [setn, addE, goneL] at H
 refine loop_cut (fun i_ a w_ => (i_ = 0 ∧ ∃ (x922 : (List Nd) × (List (Nd × Int)) × (List Nd)), ∃ (A907 : Option Addr) (c908 : Nat) (A912 : Option Addr) (c913 : Nat), Fr a 140 [(5, .pointer (some ⟨g19, 0, none⟩)), (7, .pointer (some ⟨g569, 0, none⟩))] ∧ Hp S Fa w0 w_ [.box g19 44 [.int .i64 n, .slice A907 (List.length x922.1) c908, .map (some g20)], .row true cNode 64 A907 c908 x922.1, .mp Try.prog 64 g20 (List.map (fun p_ => (ndV p_.1, (fun u_ : Int => .int .i64 u_) p_.2)) x922.2.1), .box g569 61 [.int .i64 n, .slice A912 (List.length x922.2.2) c913], .row true cNode 64 A912 c913 x922.2.2] ∧ x915 = Sum.inl x922)) ?_ ?_
 ·
  refine loopV (fun m921 a w920 => ∃ (s740 : List Nd) (s743 : List (Nd × Int)) (m745 : List Nd) (i748 : Int), ∃ (A741 : Option Addr) (c742 : Nat) (A746 : Option Addr) (c747 : Nat), Fr a 140 [(1, .slice A1 (List.length lists) c2), (5, .pointer (some ⟨g19, 0, none⟩)), (7, .pointer (some ⟨g569, 0, none⟩)), (9, .int .i64 i748)] ∧ Hp S Fa w0 w920 [.ro false (cSl (cInt .i64)) A1 lists, .box g19 44 [.int .i64 n, .slice A741 (List.length s740) c742, .map (some g20)], .row true cNode 64 A741 c742 s740, .mp Try.prog 64 g20 (List.map (fun p_ => (ndV p_.1, (fun u_ : Int => .int .i64 u_) p_.2)) s743), .box g569 61 [.int .i64 n, .slice A746 (List.length m745) c747], .row true cNode 64 A746 c747 m745] ∧ law14_GuardStore_l12 N n lists m921 s740 s743 m745 i748 = some x915) N ?_ ?_
  ·
   exact ⟨[], ([] : List (Nd × Int)), [], 0, none, 0, none, 0, E.pick _ ⟨rfl, rfl, rfl, rfl, trivial⟩, H.sel [0, 1, 4, 2, 3, 5] rfl, hL916⟩
  clear E H hL916; intro m921 a w920 hI_
  obtain ⟨s740, s743, m745, i748, A741, c742, A746, c747, E, H, hP⟩ := hI_
  obtain ⟨m914, rfl⟩ : ∃ q_, m921 = q_ + 1 := by cases m921 with | zero => rw [law14_GuardStore_l12] at hP; cases hP | succ q_ => exact ⟨q_, rfl⟩
  rw [law14_GuardStore_l12] at hP
  refine wp_seq ?_
  refine wp_seq ?_
  refine wp_region_lit ?_
  refine vn tbok 4 [] [(48, .bool (decide (i748 < (((List.length lists) : Nat) : Int))))] [] E (by kernel_rfl) (by kernel_rfl) trivial ?_
  clear E; intro a E
  refine wpList_nil ?_
  refine th_n ?_
  refine E.cases (t := 48) rfl (fun hb_ E_ => ?_) (fun hb_ E_ => ?_)
  ·
   replace E := E_; clear E_
   have h923 : i748 < (((List.length lists) : Nat) : Int) := of_decide_eq_true hb_
   clear hb_; replace hP := ite_t h923 hP
   refine c_true E rfl ?_
   refine wp_skip ?_
   refine th_n ?_
   refine wp_seq ?_
   refine wp_block ?_
   refine wp_seq ?_
   refine wp_seq ?_
   refine wp_region_lit ?_
   obtain ⟨g924, hP⟩ := ask_inv hP
   obtain ⟨b925, o926, e_b925⟩ := (H.rd 0 rds_ro).addr (idx_pos g924)
   subst e_b925
   obtain ⟨A927, c928, hl929, hk930, H⟩ := H.subSl 0 false (el_ro rfl) g924
   try dsimp only [addE] at H
   refine vn tbok 6 [.slice A927 (List.length (List.getD lists (Int.toNat i748) [])) c928] [(56, .bool (decide (260 < (((List.length (List.getD lists (Int.toNat i748) [])) : Nat) : Int))))] [0 ≤ i748 ∧ i748 < (((List.length lists) : Nat) : Int), World.cell? w920 ⟨b925, o926 + (Int.toNat i748) * 1, none⟩ = some (.slice A927 (List.length (List.getD lists (Int.toNat i748) [])) c928)] E (by kernel_rfl) (by kernel_rfl) ⟨g924, hl929⟩ ?_
   clear E; intro a E
   refine wpList_nil ?_
   refine th_n ?_
   refine E.cases (t := 56) rfl (fun hb_ E_ => ?_) (fun hb_ E_ => ?_)
   ·
    replace E := E_; clear E_
    have h932 : 260 < (((List.length (List.getD lists (Int.toNat i748) [])) : Nat) : Int) := of_decide_eq_true hb_
    clear hb_; replace hP := ite_t h932 hP
    refine c_true E rfl ?_
    refine wp_seq ?_
    refine wp_region_lit ?_
    refine vn tbok 1 [] [(4, .bool true)] [] E (by kernel_rfl) (by kernel_rfl) trivial ?_
    clear E; intro a E
    refine wpList_nil ?_
    refine th_n ?_
    refine wp_ret ?_
    refine th_ret ?_
    refine bl_ret ?_
    refine th_ret ?_
    refine th_ret ?_
    refine .inr ⟨rfl, ?_⟩
    refine bl_ret ?_
    refine th_ret ?_
    have hx_ := Option.some.inj hP; subst hx_
    have hP : some (true) = some r := hK917
    obtain rfl := Option.some.inj hP
    refine ret1 E rfl rfl ?_
    exact ⟨_, rfl, rfl, H.sel [] rfl⟩
   replace E := E_; clear E_
   have h933 : ¬ (260 < (((List.length (List.getD lists (Int.toNat i748) [])) : Nat) : Int)) := of_decide_eq_false hb_
   clear hb_; replace hP := ite_f h933 hP
   refine c_false E rfl ?_
   refine wp_skip ?_
   refine th_n ?_
   refine wp_seq ?_
   refine wp_region_lit ?_
   obtain ⟨A934, c935, hl936, hk937, H⟩ := H.subSl 0 false (el_ro rfl) g924
   try dsimp only [addE] at H
   refine vn tbok 4 [.slice A934 (List.length (List.getD lists (Int.toNat i748) [])) c935] [(60, .slice A934 (List.length (List.getD lists (Int.toNat i748) [])) c935)] [0 ≤ i748 ∧ i748 < (((List.length lists) : Nat) : Int), World.cell? w920 ⟨b925, o926 + (Int.toNat i748) * 1, none⟩ = some (.slice A934 (List.length (List.getD lists (Int.toNat i748) [])) c935)] E (by kernel_rfl) (by kernel_rfl) ⟨g924, hl936⟩ ?_
   clear E; intro a E
   obtain ⟨r939, h940, hP⟩ := bind_inv hP
   obtain ⟨Fa941, Hc942, hb943⟩ := H.call [] [(7, false)] rfl rfl trivial
   refine e_call E rfl rfl Try.func22 rfl rfl rfl (kit_LentInts_calls A934 c935 (List.getD lists (Int.toNat i748) []) hk937 Hc942 h940) ?_
   rintro v944 w945 a ⟨A948, c949, rfl, HR946⟩ E_
   replace E := E_ _ rfl; clear E_
   obtain ⟨H_, hc947⟩ := hb943 _ _ HR946 rfl
   replace H := H_; clear H_; try dsimp only [setn, addE, goneL] at H
   refine vn tbok 1 [] [(10, .slice A948 (List.length r939.1) c949)] [] E (by kernel_rfl) (by kernel_rfl) trivial ?_
   clear E; intro a E
   refine wpList_nil ?_
   refine th_n ?_
   refine wp_seq ?_
   refine wp_region_lit ?_
   refine vn tbok 2 [] [(63, .pointer (some ⟨g19, 0, none⟩)), (64, .slice A948 (List.length r939.1) c949)] [] E (by kernel_rfl) (by kernel_rfl) trivial ?_
   clear E; intro a E
   obtain ⟨r951, h952, hP⟩ := bind_inv hP
   obtain ⟨Fa953, Hc954, hb955⟩ := H.call [1, 2, 3] [(8, false)] rfl rfl ⟨flat_plain, trivial⟩
   refine e_call E rfl rfl Try.func17 rfl rfl rfl (guard_Store_Add_calls g19 A741 c742 g20 A948 c949 n s740 s743 r939.1 (H.rcapx 8 rfl) Hc954 h952) ?_
   intro v961 w960 a hR962 E_
   obtain ⟨x_, A965, c966, hr_, rfl, HR964⟩ := hR962
   subst hr_
   replace E := E_ _ rfl; clear E_
   obtain ⟨H_, hc963⟩ := hb955 _ _ HR964 rfl
   replace H := H_; clear H_; try dsimp only [setn, addE, goneL] at H
   refine vn tbok 5 [] [(11, .int .i64 r951.1), (12, .int .i64 r951.2.1)] [] E (by kernel_rfl) (by kernel_rfl) trivial ?_
   clear E; intro a E
   refine wpList_nil ?_
   refine th_n ?_
   refine wp_seq ?_
   refine wp_region_lit ?_
   obtain ⟨A970, c971, hl972, hk973, H⟩ := H.subSl 0 false (el_ro rfl) g924
   try dsimp only [addE] at H
   refine vn tbok 5 [.slice A970 (List.length (List.getD lists (Int.toNat i748) [])) c971] [(69, .pointer (some ⟨g569, 0, none⟩)), (73, .slice A970 (List.length (List.getD lists (Int.toNat i748) [])) c971)] [0 ≤ i748 ∧ i748 < (((List.length lists) : Nat) : Int), World.cell? w960 ⟨b925, o926 + (Int.toNat i748) * 1, none⟩ = some (.slice A970 (List.length (List.getD lists (Int.toNat i748) [])) c971)] E (by kernel_rfl) (by kernel_rfl) ⟨g924, hl972⟩ ?_
   clear E; intro a E
   obtain ⟨r975, h976, hP⟩ := bind_inv hP
   obtain ⟨Fa977, Hc978, hb979⟩ := H.call [4, 5] [(12, false)] rfl rfl ⟨flat_plain, trivial⟩
   refine e_call E rfl rfl Try.func23 rfl rfl rfl (ref14_Store_Add_calls g569 A746 c747 A970 c971 n m745 (List.getD lists (Int.toNat i748) []) hk973 Hc978 h976) ?_
   intro v985 w984 a hR986 E_
   obtain ⟨x_, A989, c990, hr_, rfl, HR988⟩ := hR986
   subst hr_
   replace E := E_ _ rfl; clear E_
   obtain ⟨H_, hc987⟩ := hb979 _ _ HR988 rfl
   replace H := H_; clear H_; try dsimp only [setn, addE, goneL] at H
   refine vn tbok 5 [] [(13, .int .i64 r975.1), (14, .int .i64 r975.2.1)] [] E (by kernel_rfl) (by kernel_rfl) trivial ?_
   clear E; intro a E
   refine wpList_nil ?_
   refine th_n ?_
   refine wp_seq ?_
   by_cases h994 : (r951.1 : Int) = r975.1
   ·
    replace hP := ite_t h994 hP
    by_cases h995 : (r951.2.1 : Int) = r975.2.1
    ·
     replace hP := ite_t h995 hP
     obtain ⟨A996, c997, hl998, hk999, H⟩ := H.subSl 0 false (el_ro rfl) g924
     try dsimp only [addE] at H
     obtain ⟨r1001, h1002, hP⟩ := bind_inv hP
     by_cases h1010 : r1001 = true
     ·
      replace hP := ite_t h1010 hP
      obtain ⟨r1011, h1012, hP⟩ := bind_inv hP
      have HR1031 := H
      refine dr_start (S := fun w_ => Chg (atL [.box g19 44 [.int .i64 n, .slice A965 (List.length r951.2.2.1) c966, .map (some g20)], .row true cNode 64 A965 c966 r951.2.2.1, .mp Try.prog 64 g20 (List.map (fun p_ => (ndV p_.1, (fun u_ : Int => .int .i64 u_) p_.2)) r951.2.2.2)]) w984 w_) (by kernel_rfl) ?_
      intro w1028 hc1029
      have HS1030 : Chg (atL [.box g19 44 [.int .i64 n, .slice A965 (List.length r951.2.2.1) c966, .map (some g20)], .row true cNode 64 A965 c966 r951.2.2.1, .mp Try.prog 64 g20 (List.map (fun p_ => (ndV p_.1, (fun u_ : Int => .int .i64 u_) p_.2)) r951.2.2.2)]) w984 w1028 := hc1029.mono (fun _ _ h_ => h_.elim)
      replace H := H.ext hc1029
      refine dn tbok (by kernel_rfl) [0, 1, 2, 3] [] [(80, .bool ((r951.1 : Int) != r975.1))] (fun w_ => []) 23 E (fun _ _ => by kernel_rfl) (by kernel_rfl) (fun w_ hS_ => trivial) (by kernel_rfl) HS1030 ?_
      clear E; intro a E
      replace E := E.same (t := 80) (u := .bool false) rfl (congrArg Value.bool (bne_eq_false_iff_eq.2 h994))
      refine dn tbok (by kernel_rfl) [4, 5, 6, 7, 8] [] [(85, .bool ((r951.2.1 : Int) != r975.2.1))] (fun w_ => []) 18 E (fun _ _ => by kernel_rfl) (by kernel_rfl) (fun w_ hS_ => trivial) (by kernel_rfl) HS1030 ?_
      clear E; intro a E
      replace E := E.same (t := 85) (u := .bool false) rfl (congrArg Value.bool (bne_eq_false_iff_eq.2 h995))
      refine dn tbok (by kernel_rfl) [9, 10, 11, 12, 13] [.slice A996 (List.length (List.getD lists (Int.toNat i748) [])) c997] [(86, .slice A948 (List.length r939.1) c949), (90, .slice A996 (List.length (List.getD lists (Int.toNat i748) [])) c997)] (fun w_ => [0 ≤ i748 ∧ i748 < (((List.length lists) : Nat) : Int), World.cell? w_ ⟨b925, o926 + (Int.toNat i748) * 1, none⟩ = some (.slice A996 (List.length (List.getD lists (Int.toNat i748) [])) c997)]) 13 E (fun _ _ => by kernel_rfl) (by kernel_rfl) (fun w_ hS_ => ⟨g924, hS_.cell (hl998) (HR1031.blk [9, 10, 11] 0 rds_ro (idx_pos g924) rfl)⟩) (by kernel_rfl) HS1030 ?_
      clear E; intro a E
      refine wpAnyH_all (rs := [14]) (by kernel_rfl) (by simp) ?_
      refine all1 ?_
      refine wpOp_of_list rfl ?_
      obtain ⟨Fa1032, Hc1033, hb1034⟩ := H.call [] [(8, false), (8, true), (15, false)] rfl rfl trivial
      refine e_call E rfl rfl Try.func24 rfl rfl rfl (kit_KeptInts_calls A948 c949 A996 c997 r939.1 r939.2 (List.getD lists (Int.toNat i748) []) (H.rcapE 8 rfl) hk999 Hc1033 h1002) ?_
      rintro v1035 w1036 a ⟨rfl, HR1037⟩ E_
      replace E := E_ _ rfl; clear E_
      obtain ⟨H_, hc1038⟩ := hb1034 _ _ HR1037 rfl
      replace HS1030 := HS1030.ext (callS_ext hc1038)
      replace H := H_; clear H_; try dsimp only [setn, addE, goneL] at H
      refine wpList_nil ?_
      refine th_n ⟨HS1030, ?_⟩
      refine dn tbok (by kernel_rfl) [15, 16, 17] [] [(94, .bool (!r1001))] (fun w_ => []) 9 E (fun _ _ => by kernel_rfl) (by kernel_rfl) (fun w_ hS_ => trivial) (by kernel_rfl) HS1030 ?_
      clear E; intro a E
      replace E := E.same (t := 94) (u := .bool false) rfl (congrArg Value.bool (not_t' (h1010)))
      refine dn tbok (by kernel_rfl) [18, 20, 21, 22, 23, 24] [.slice A989 (List.length r975.2.2) c990] [(95, .pointer (some ⟨g19, 0, none⟩)), (101, .int .i64 (((List.length r975.2.2) : Nat) : Int))] (fun w_ => [World.cell? w_ ⟨g569, 1, none⟩ = some (.slice A989 (List.length r975.2.2) c990)]) 3 E (fun _ _ => by kernel_rfl) (by kernel_rfl) (fun w_ hS_ => ((HR1031.boxk [9, 10, 11] hS_ 13 rfl rfl).cell (j := 1) rfl)) (by kernel_rfl) HS1030 ?_
      clear E; intro a E
      refine wpAnyH_all (rs := [19]) (by kernel_rfl) (by simp) ?_
      refine all1 ?_
      refine wpOp_of_list rfl ?_
      obtain ⟨Fa1039, Hc1040, hb1041⟩ := H.call [9, 10, 11] [] rfl rfl ⟨flat_plain, trivial⟩
      refine e_call E rfl rfl Try.func19 rfl rfl rfl (guard_Store_Len_calls g19 A965 c966 g20 n r951.2.2.1 r951.2.2.2  Hc1040 h1012) ?_
      intro v1047 w1046 a hR1048 E_
      obtain ⟨x_, hr_, rfl, HR1050⟩ := hR1048
      subst hr_
      replace E := E_ _ rfl; clear E_
      obtain ⟨H_, hc1049⟩ := hb1041 _ _ HR1050 rfl
      replace HS1030 := HS1030.trans hc1049 (fun k_ hk_ h_ => h_.elim (fun h_ => by have hs_ := HS1030.size; exfalso; omega) (fun h_ => h_.elim (fun h_ => (fun _ _ h_ => Or.inl h_) k_ hk_ h_) (fun h_ => h_.elim (fun h_ => (fun _ _ h_ => Or.inr (Or.inl h_)) k_ hk_ h_) (fun h_ => h_.elim (fun h_ => (fun _ _ h_ => Or.inr (Or.inr (Or.inl h_))) k_ hk_ h_) (fun h_ => h_.elim)))))
      replace H := H_; clear H_; try dsimp only [setn, addE, goneL] at H
      refine wpList_nil ?_
      refine th_n ⟨HS1030, ?_⟩
      refine dn tbok (by kernel_rfl) [25, 26] [] [(103, .bool ((r1011 : Int) != (((List.length r975.2.2) : Nat) : Int)))] (fun w_ => []) 0 E (fun _ _ => by kernel_rfl) (by kernel_rfl) (fun w_ hS_ => trivial) (by kernel_rfl) HS1030 ?_
      clear E; intro a E
      refine dr_done (by kernel_rfl) ?_
      clear HS1030 HR1031
      refine th_n ?_
      refine E.cases (t := 103) rfl (fun hb_ E_ => ?_) (fun hb_ E_ => ?_)
      ·
       replace E := E_; clear E_
       have h1054 : ¬ ((r1011 : Int) = (((List.length r975.2.2) : Nat) : Int)) := bne_iff_ne.1 hb_
       clear hb_; replace hP := ite_f h1054 hP
       refine c_true E rfl ?_
       refine wp_seq ?_
       refine wp_region_lit ?_
       refine vn tbok 1 [] [(4, .bool false)] [] E (by kernel_rfl) (by kernel_rfl) trivial ?_
       clear E; intro a E
       refine wpList_nil ?_
       refine th_n ?_
       refine wp_ret ?_
       refine bl_ret ?_
       refine th_ret ?_
       refine th_ret ?_
       refine .inr ⟨rfl, ?_⟩
       refine bl_ret ?_
       refine th_ret ?_
       have hx_ := Option.some.inj hP; subst hx_
       have hP : some (false) = some r := hK917
       obtain rfl := Option.some.inj hP
       refine ret1 E rfl rfl ?_
       exact ⟨_, rfl, rfl, H.sel [] rfl⟩
      replace E := E_; clear E_
      have h1055 : (r1011 : Int) = (((List.length r975.2.2) : Nat) : Int) := bne_eq_false_iff_eq.1 hb_
      clear hb_; replace hP := ite_t h1055 hP
      refine c_false E rfl ?_
      refine wp_skip ?_
      refine bl_n ?_
      refine th_n ?_
      refine wp_region_lit ?_
      obtain ⟨g1056, hP⟩ := ask_inv hP
      refine vn tbok 3 [.int .i64 (i748 + 1)] [(9, .int .i64 (i748 + 1))] [IntKind.i64.wrap (i748 + 1) = i748 + 1] E (by kernel_rfl) (by kernel_rfl) (wrap_in g1056) ?_
      clear E; intro a E
      refine wpList_nil ?_
      exact th_n ⟨m914, Nat.lt_succ_self _, r951.2.2.1, r951.2.2.2, r975.2.2, i748 + 1, A965, c966, A989, c990, E.pick _ ⟨rfl, rfl, rfl, rfl, trivial⟩, H.sel [0, 18, 16, 17, 13, 14] rfl, hP⟩
     replace hP := ite_f h1010 hP
     have HR1060 := H
     refine dr_start (S := fun w_ => Chg (atL []) w984 w_) (by kernel_rfl) ?_
     intro w1057 hc1058
     have HS1059 : Chg (atL []) w984 w1057 := hc1058.mono (fun _ _ h_ => h_.elim)
     replace H := H.ext hc1058
     refine dn tbok (by kernel_rfl) [0, 1, 2, 3] [] [(80, .bool ((r951.1 : Int) != r975.1))] (fun w_ => []) 23 E (fun _ _ => by kernel_rfl) (by kernel_rfl) (fun w_ hS_ => trivial) (by kernel_rfl) HS1059 ?_
     clear E; intro a E
     replace E := E.same (t := 80) (u := .bool false) rfl (congrArg Value.bool (bne_eq_false_iff_eq.2 h994))
     refine dn tbok (by kernel_rfl) [4, 5, 6, 7, 8] [] [(85, .bool ((r951.2.1 : Int) != r975.2.1))] (fun w_ => []) 18 E (fun _ _ => by kernel_rfl) (by kernel_rfl) (fun w_ hS_ => trivial) (by kernel_rfl) HS1059 ?_
     clear E; intro a E
     replace E := E.same (t := 85) (u := .bool false) rfl (congrArg Value.bool (bne_eq_false_iff_eq.2 h995))
     refine dn tbok (by kernel_rfl) [9, 10, 11, 12, 13] [.slice A996 (List.length (List.getD lists (Int.toNat i748) [])) c997] [(86, .slice A948 (List.length r939.1) c949), (90, .slice A996 (List.length (List.getD lists (Int.toNat i748) [])) c997)] (fun w_ => [0 ≤ i748 ∧ i748 < (((List.length lists) : Nat) : Int), World.cell? w_ ⟨b925, o926 + (Int.toNat i748) * 1, none⟩ = some (.slice A996 (List.length (List.getD lists (Int.toNat i748) [])) c997)]) 13 E (fun _ _ => by kernel_rfl) (by kernel_rfl) (fun w_ hS_ => ⟨g924, hS_.cell (hl998) (HR1060.blk [] 0 rds_ro (idx_pos g924) rfl)⟩) (by kernel_rfl) HS1059 ?_
     clear E; intro a E
     refine wpAnyH_all (rs := [14]) (by kernel_rfl) (by simp) ?_
     refine all1 ?_
     refine wpOp_of_list rfl ?_
     obtain ⟨Fa1061, Hc1062, hb1063⟩ := H.call [] [(8, false), (8, true), (15, false)] rfl rfl trivial
     refine e_call E rfl rfl Try.func24 rfl rfl rfl (kit_KeptInts_calls A948 c949 A996 c997 r939.1 r939.2 (List.getD lists (Int.toNat i748) []) (H.rcapE 8 rfl) hk999 Hc1062 h1002) ?_
     rintro v1064 w1065 a ⟨rfl, HR1066⟩ E_
     replace E := E_ _ rfl; clear E_
     obtain ⟨H_, hc1067⟩ := hb1063 _ _ HR1066 rfl
     replace HS1059 := HS1059.ext (callS_ext hc1067)
     replace H := H_; clear H_; try dsimp only [setn, addE, goneL] at H
     refine wpList_nil ?_
     refine th_n ⟨HS1059, ?_⟩
     refine dn tbok (by kernel_rfl) [15, 16, 17] [] [(94, .bool (!r1001))] (fun w_ => []) 9 E (fun _ _ => by kernel_rfl) (by kernel_rfl) (fun w_ hS_ => trivial) (by kernel_rfl) HS1059 ?_
     clear E; intro a E
     replace E := E.same (t := 94) (u := .bool true) rfl (congrArg Value.bool (not_f' ((eq_false_of_ne_true h1010))))
     refine dn tbok (by kernel_rfl) [18, 19, 20, 21, 22, 23, 24, 25, 26] [] [(103, .bool true)] (fun w_ => []) 0 E (fun _ _ => by kernel_rfl) (by kernel_rfl) (fun w_ hS_ => trivial) (by kernel_rfl) HS1059 ?_
     clear E; intro a E
     refine dr_done (by kernel_rfl) ?_
     clear HS1059 HR1060
     refine th_n ?_
     refine c_true E rfl ?_
     refine wp_seq ?_
     refine wp_region_lit ?_
     refine vn tbok 1 [] [(4, .bool false)] [] E (by kernel_rfl) (by kernel_rfl) trivial ?_
     clear E; intro a E
     refine wpList_nil ?_
     refine th_n ?_
     refine wp_ret ?_
     refine bl_ret ?_
     refine th_ret ?_
     refine th_ret ?_
     refine .inr ⟨rfl, ?_⟩
     refine bl_ret ?_
     refine th_ret ?_
     have hx_ := Option.some.inj hP; subst hx_
     have hP : some (false) = some r := hK917
     obtain rfl := Option.some.inj hP
     refine ret1 E rfl rfl ?_
     exact ⟨_, rfl, rfl, H.sel [] rfl⟩
    replace hP := ite_f h995 hP
    have HR1071 := H
    refine dr_start (S := fun w_ => Chg (atL []) w984 w_) (by kernel_rfl) ?_
    intro w1068 hc1069
    have HS1070 : Chg (atL []) w984 w1068 := hc1069.mono (fun _ _ h_ => h_.elim)
    replace H := H.ext hc1069
    refine dn tbok (by kernel_rfl) [0, 1, 2, 3] [] [(80, .bool ((r951.1 : Int) != r975.1))] (fun w_ => []) 23 E (fun _ _ => by kernel_rfl) (by kernel_rfl) (fun w_ hS_ => trivial) (by kernel_rfl) HS1070 ?_
    clear E; intro a E
    replace E := E.same (t := 80) (u := .bool false) rfl (congrArg Value.bool (bne_eq_false_iff_eq.2 h994))
    refine dn tbok (by kernel_rfl) [4, 5, 6, 7, 8] [] [(85, .bool ((r951.2.1 : Int) != r975.2.1))] (fun w_ => []) 18 E (fun _ _ => by kernel_rfl) (by kernel_rfl) (fun w_ hS_ => trivial) (by kernel_rfl) HS1070 ?_
    clear E; intro a E
    replace E := E.same (t := 85) (u := .bool true) rfl (congrArg Value.bool (bne_iff_ne.2 h995))
    refine dn tbok (by kernel_rfl) [9, 10, 11, 12, 13, 14, 15, 16, 17, 18, 19, 20, 21, 22, 23, 24, 25, 26] [] [(103, .bool true)] (fun w_ => []) 0 E (fun _ _ => by kernel_rfl) (by kernel_rfl) (fun w_ hS_ => trivial) (by kernel_rfl) HS1070 ?_
    clear E; intro a E
    refine dr_done (by kernel_rfl) ?_
    clear HS1070 HR1071
    refine th_n ?_
    refine c_true E rfl ?_
    refine wp_seq ?_
    refine wp_region_lit ?_
    refine vn tbok 1 [] [(4, .bool false)] [] E (by kernel_rfl) (by kernel_rfl) trivial ?_
    clear E; intro a E
    refine wpList_nil ?_
    refine th_n ?_
    refine wp_ret ?_
    refine bl_ret ?_
    refine th_ret ?_
    refine th_ret ?_
    refine .inr ⟨rfl, ?_⟩
    refine bl_ret ?_
    refine th_ret ?_
    have hx_ := Option.some.inj hP; subst hx_
    have hP : some (false) = some r := hK917
    obtain rfl := Option.some.inj hP
    refine ret1 E rfl rfl ?_
    exact ⟨_, rfl, rfl, H.sel [] rfl⟩
   replace hP := ite_f h994 hP
   have HR1075 := H
   refine dr_start (S := fun w_ => Chg (atL []) w984 w_) (by kernel_rfl) ?_
   intro w1072 hc1073
   have HS1074 : Chg (atL []) w984 w1072 := hc1073.mono (fun _ _ h_ => h_.elim)
   replace H := H.ext hc1073
   refine dn tbok (by kernel_rfl) [0, 1, 2, 3] [] [(80, .bool ((r951.1 : Int) != r975.1))] (fun w_ => []) 23 E (fun _ _ => by kernel_rfl) (by kernel_rfl) (fun w_ hS_ => trivial) (by kernel_rfl) HS1074 ?_
   clear E; intro a E
   replace E := E.same (t := 80) (u := .bool true) rfl (congrArg Value.bool (bne_iff_ne.2 h994))
   refine dn tbok (by kernel_rfl) [4, 5, 6, 7, 8, 9, 10, 11, 12, 13, 14, 15, 16, 17, 18, 19, 20, 21, 22, 23, 24, 25, 26] [] [(103, .bool true)] (fun w_ => []) 0 E (fun _ _ => by kernel_rfl) (by kernel_rfl) (fun w_ hS_ => trivial) (by kernel_rfl) HS1074 ?_
   clear E; intro a E
   refine dr_done (by kernel_rfl) ?_
   clear HS1074 HR1075
   refine th_n ?_
   refine c_true E rfl ?_
   refine wp_seq ?_
   refine wp_region_lit ?_
   refine vn tbok 1 [] [(4, .bool false)] [] E (by kernel_rfl) (by kernel_rfl) trivial ?_
   clear E; intro a E
   refine wpList_nil ?_
   refine th_n ?_
   refine wp_ret ?_
   refine bl_ret ?_
   refine th_ret ?_
   refine th_ret ?_
   refine .inr ⟨rfl, ?_⟩
   refine bl_ret ?_
   refine th_ret ?_
   have hx_ := Option.some.inj hP; subst hx_
   have hP : some (false) = some r := hK917
   obtain rfl := Option.some.inj hP
   refine ret1 E rfl rfl ?_
   exact ⟨_, rfl, rfl, H.sel [] rfl⟩
  replace E := E_; clear E_
  have h1076 : ¬ (i748 < (((List.length lists) : Nat) : Int)) := of_decide_eq_false hb_
  clear hb_; replace hP := ite_f h1076 hP
  refine c_false E rfl ?_
  refine wp_exit ?_
  refine th_exit ?_
  have hx_ := Option.some.inj hP
  refine th_exit (.inl ⟨0, rfl, ?_⟩)
  exact ⟨rfl, (s740, s743, m745), A741, c742, A746, c747, E.pick _ ⟨rfl, rfl, trivial⟩, H.sel [1, 2, 3, 4, 5] rfl, hx_.symm⟩
 clear E H hL916; intro i_ a w920 hM_
 obtain ⟨rfl, x922, A907, c908, A912, c913, E, H, hx_⟩ := hM_
 subst hx_; have hP := elim_l hK917
 clear hK917
 refine bl_hit ?_
 refine th_n ?_
 refine wp_seq ?_
 refine wp_region_lit ?_
 refine vn tbok 1 [] [(104, .pointer (some ⟨g19, 0, none⟩))] [] E (by kernel_rfl) (by kernel_rfl) trivial ?_
 clear E; intro a E
 obtain ⟨r1078, h1079, hP⟩ := bind_inv hP
 obtain ⟨Fa1080, Hc1081, hb1082⟩ := H.call [0, 1, 2] [] rfl rfl ⟨flat_plain, trivial⟩
 refine e_call E rfl rfl Try.func18 rfl rfl rfl (guard_Store_Nodes_calls g19 A907 c908 g20 n x922.1 x922.2.1  Hc1081 h1079) ?_
 intro v1088 w1087 a hR1089 E_
 obtain ⟨x_, A1092, c1093, hr_, rfl, HR1091⟩ := hR1089
 subst hr_
 replace E := E_ _ rfl; clear E_
 obtain ⟨H_, hc1090⟩ := hb1082 _ _ HR1091 rfl
 replace H := H_; clear H_; try dsimp only [setn, addE, goneL] at H
 refine vn tbok 1 [] [(106, .pointer (some ⟨g19, 0, none⟩))] [] E (by kernel_rfl) (by kernel_rfl) trivial ?_
 clear E; intro a E
 obtain ⟨r1098, h1099, hP⟩ := bind_inv hP
 obtain ⟨Fa1100, Hc1101, hb1102⟩ := H.call [8, 6, 7] [] rfl rfl ⟨flat_plain, trivial⟩
 refine e_call E rfl rfl Try.func18 rfl rfl rfl (guard_Store_Nodes_calls g19 A907 c908 g20 n x922.1 x922.2.1  Hc1101 h1099) ?_
 intro v1108 w1107 a hR1109 E_
 obtain ⟨x_, A1112, c1113, hr_, rfl, HR1111⟩ := hR1109
 subst hr_
 replace E := E_ _ rfl; clear E_
 obtain ⟨H_, hc1110⟩ := hb1102 _ _ HR1111 rfl
 replace H := H_; clear H_; try dsimp only [setn, addE, goneL] at H
 refine vn tbok 2 [] [(15, .slice A1092 (List.length r1078) c1093), (16, .slice A1112 (List.length r1098) c1113)] [] E (by kernel_rfl) (by kernel_rfl) trivial ?_
 clear E; intro a E
 refine wpList_nil ?_
 refine th_n ?_
 refine wp_seq ?_
 refine wp_seq ?_
 refine wp_region_lit ?_
 refine vn tbok 5 [.slice A912 (List.length x922.2.2) c913] [(108, .slice A1092 (List.length r1078) c1093), (112, .slice A912 (List.length x922.2.2) c913)] [World.cell? w1107 ⟨g569, 1, none⟩ = some (.slice A912 (List.length x922.2.2) c913)] E (by kernel_rfl) (by kernel_rfl) ((H.box 3 rfl).cell (j := 1) rfl) ?_
 clear E; intro a E
 obtain ⟨r1118, h1119, hP⟩ := bind_inv hP
 obtain ⟨Fa1120, Hc1121, hb1122⟩ := H.call [] [(5, false), (4, false)] rfl rfl trivial
 refine e_call E rfl rfl Try.func25 rfl rfl rfl (kit_SameNodes_calls A1092 c1093 A912 c913 r1078 x922.2.2 (H.rcap 5 rfl) (H.rcap 4 rfl) Hc1121 h1119) ?_
 rintro v1123 w1124 a ⟨rfl, HR1125⟩ E_
 replace E := E_ _ rfl; clear E_
 obtain ⟨H_, hc1126⟩ := hb1122 _ _ HR1125 rfl
 replace H := H_; clear H_; try dsimp only [setn, addE, goneL] at H
 refine vn tbok 1 [] [(114, .bool (!r1118))] [] E (by kernel_rfl) (by kernel_rfl) trivial ?_
 clear E; intro a E
 refine wpList_nil ?_
 refine th_n ?_
 refine E.cases (t := 114) rfl (fun hb_ E_ => ?_) (fun hb_ E_ => ?_)
 ·
  replace E := E_; clear E_
  have h1127 : ¬ (r1118 = true) := (ne_true_of_eq_false (not_t hb_))
  clear hb_; replace hP := ite_f h1127 hP
  refine c_true E rfl ?_
  refine wp_seq ?_
  refine wp_region_lit ?_
  refine vn tbok 1 [] [(4, .bool false)] [] E (by kernel_rfl) (by kernel_rfl) trivial ?_
  clear E; intro a E
  refine wpList_nil ?_
  refine th_n ?_
  refine wp_ret ?_
  refine th_ret ?_
  obtain rfl := Option.some.inj hP
  refine ret1 E rfl rfl ?_
  exact ⟨_, rfl, rfl, H.sel [] rfl⟩
 replace E := E_; clear E_
 have h1128 : r1118 = true := (not_f hb_)
 clear hb_; replace hP := ite_t h1128 hP
 refine c_false E rfl ?_
 refine wp_skip ?_
 refine th_n ?_
 refine wp_seq ?_
 refine wp_seq ?_
 refine wp_region_lit ?_
 refine vn tbok 1 [] [(17, .int .i64 0)] [] E (by kernel_rfl) (by kernel_rfl) trivial ?_
 clear E; intro a E
 refine wpList_nil ?_
 refine th_n ?_
 refine wp_block ?_
 obtain ⟨x1151, hL1152, hK1153⟩ := bind_inv hP
 clear hP
 refine loop_cut (fun i_ a w_ => (i_ = 2 ∧ ∃ (x1156 : Unit), Fr a 140 [(5, .pointer (some ⟨g19, 0, none⟩)), (7, .pointer (some ⟨g569, 0, none⟩)), (16, .slice A1112 (List.length r1098) c1113)] ∧ Hp S Fa w0 w_ [.row true cNode 64 A907 c908 x922.1, .mp Try.prog 64 g20 (List.map (fun p_ => (ndV p_.1, (fun u_ : Int => .int .i64 u_) p_.2)) x922.2.1), .box g19 44 [.int .i64 n, .slice A907 (List.length x922.1) c908, .map (some g20)], .row true cNode 64 A912 c913 x922.2.2, .box g569 61 [.int .i64 n, .slice A912 (List.length x922.2.2) c913], .row true cNode 64 A1112 c1113 r1098] ∧ x1151 = x1156)) ?_ ?_
 ·
  refine loopV (fun m1155 a w1154 => ∃ (a1137 : List Nd) (i1140 : Int), ∃ (A1138 : Option Addr) (c1139 : Nat), Fr a 140 [(5, .pointer (some ⟨g19, 0, none⟩)), (7, .pointer (some ⟨g569, 0, none⟩)), (15, .slice A1138 (List.length a1137) c1139), (16, .slice A1112 (List.length r1098) c1113), (17, .int .i64 i1140)] ∧ Hp S Fa w0 w1154 [.row true cNode 64 A907 c908 x922.1, .mp Try.prog 64 g20 (List.map (fun p_ => (ndV p_.1, (fun u_ : Int => .int .i64 u_) p_.2)) x922.2.1), .box g19 44 [.int .i64 n, .slice A907 (List.length x922.1) c908, .map (some g20)], .row true cNode 64 A912 c913 x922.2.2, .box g569 61 [.int .i64 n, .slice A912 (List.length x922.2.2) c913], .row true cNode 64 A1138 c1139 a1137, .row true cNode 64 A1112 c1113 r1098] ∧ law14_GuardStore_l13 N m1155 a1137 i1140 = some x1151) N ?_ ?_
  ·
   exact ⟨r1078, 0, A1092, c1093, E.pick _ ⟨rfl, rfl, rfl, rfl, rfl, trivial⟩, H.sel [10, 11, 12, 4, 3, 5, 9] rfl, hL1152⟩
  clear E H hL1152; intro m1155 a w1154 hI_
  obtain ⟨a1137, i1140, A1138, c1139, E, H, hP⟩ := hI_
  obtain ⟨m1150, rfl⟩ : ∃ q_, m1155 = q_ + 1 := by cases m1155 with | zero => rw [law14_GuardStore_l13] at hP; cases hP | succ q_ => exact ⟨q_, rfl⟩
  rw [law14_GuardStore_l13] at hP
  refine wp_seq ?_
  refine wp_seq ?_
  refine wp_region_lit ?_
  refine vn tbok 4 [] [(118, .bool (decide (i1140 < (((List.length a1137) : Nat) : Int))))] [] E (by kernel_rfl) (by kernel_rfl) trivial ?_
  clear E; intro a E
  refine wpList_nil ?_
  refine th_n ?_
  refine E.cases (t := 118) rfl (fun hb_ E_ => ?_) (fun hb_ E_ => ?_)
  ·
   replace E := E_; clear E_
   have h1157 : i1140 < (((List.length a1137) : Nat) : Int) := of_decide_eq_true hb_
   clear hb_; replace hP := ite_t h1157 hP
   refine c_true E rfl ?_
   refine wp_skip ?_
   refine th_n ?_
   refine wp_seq ?_
   refine wp_block ?_
   refine wp_region_lit ?_
   refine vn tbok 2 [] [(121, .slice A1138 (List.length a1137) c1139), (122, .int .i64 i1140)] [] E (by kernel_rfl) (by kernel_rfl) trivial ?_
   clear E; intro a E
   refine e_build (ps := [(0, .int .i64 77)]) (v := .agg #[.int .i64 77, .int .i64 0, .int .i64 0]) E rfl rfl tbok rfl (by kernel_rfl) rfl ?_
   clear E; intro a E
   obtain ⟨g1158, hP⟩ := ask_inv hP
   obtain ⟨b1159, e_b1159⟩ := H.raddr 5 rfl (idx_pos g1158)
   subst e_b1159
   refine vn tbok 1 [] [(124, .pointer (some ⟨b1159, 0 + (Int.toNat i1140) * 3, none⟩))] [0 ≤ i1140 ∧ i1140 < (((List.length a1137) : Nat) : Int)] E (by kernel_rfl) (by kernel_rfl) (g1158) ?_
   clear E; intro a E
   refine h_set (g := b1159) (i := i1140) (⟨77, 0, 0⟩ : Nd) H 5 rfl E rfl rfl rfl rfl tbok rfl (fun _ HF_ => rfl) rfl g1158 rfl ?_
   clear E; intro w1161 a hc1162 H_ E
   replace H := H_; clear H_; try dsimp only [setn, addE, goneL] at H
   have hn1163 : (List.length a1137) = (List.length (List.set a1137 (Int.toNat i1140) (⟨77, 0, 0⟩ : Nd))) := by simp only [List.length_set]
   replace E := E.same (t := 15) (u := .slice (some ⟨b1159, 0, none⟩) (List.length (List.set a1137 (Int.toNat i1140) (⟨77, 0, 0⟩ : Nd))) c1139) rfl (congrArg (fun n_ => Value.slice (some ⟨b1159, 0, none⟩) n_ c1139) hn1163)
   refine wpList_nil ?_
   refine bl_n ?_
   refine th_n ?_
   refine wp_region_lit ?_
   obtain ⟨g1164, hP⟩ := ask_inv hP
   refine vn tbok 3 [.int .i64 (i1140 + 1)] [(17, .int .i64 (i1140 + 1))] [IntKind.i64.wrap (i1140 + 1) = i1140 + 1] E (by kernel_rfl) (by kernel_rfl) (wrap_in g1164) ?_
   clear E; intro a E
   refine wpList_nil ?_
   exact th_n ⟨m1150, Nat.lt_succ_self _, List.set a1137 (Int.toNat i1140) (⟨77, 0, 0⟩ : Nd), i1140 + 1, (some ⟨b1159, 0, none⟩), c1139, E.pick _ ⟨rfl, rfl, rfl, rfl, rfl, trivial⟩, H.sel [0, 1, 2, 3, 4, 5, 6] rfl, hP⟩
  replace E := E_; clear E_
  have h1165 : ¬ (i1140 < (((List.length a1137) : Nat) : Int)) := of_decide_eq_false hb_
  clear hb_; replace hP := ite_f h1165 hP
  refine c_false E rfl ?_
  refine wp_exit ?_
  refine th_exit ?_
  have hx_ := Option.some.inj hP
  refine th_exit (.inl ⟨2, rfl, ?_⟩)
  exact ⟨rfl, (), E.pick _ ⟨rfl, rfl, rfl, trivial⟩, H.sel [0, 1, 2, 3, 4, 6] rfl, hx_.symm⟩
 clear E H hL1152; intro i_ a w1154 hM_
 obtain ⟨rfl, x1156, E, H, hx_⟩ := hM_
 subst hx_; have hP := hK1153; clear hK1153
 refine bl_hit ?_
 refine th_n ?_
 refine wp_seq ?_
 obtain ⟨r1166, h1167, hP⟩ := bind_inv hP
 by_cases h1175 : r1166 = true
 ·
  replace hP := ite_t h1175 hP
  obtain ⟨r1176, h1177, hP⟩ := bind_inv hP
  obtain ⟨r1196, h1197, hP⟩ := bind_inv hP
  have HR1208 := H
  refine dr_start (S := fun w_ => Chg (atL [.row true cNode 64 A907 c908 x922.1, .mp Try.prog 64 g20 (List.map (fun p_ => (ndV p_.1, (fun u_ : Int => .int .i64 u_) p_.2)) x922.2.1), .box g19 44 [.int .i64 n, .slice A907 (List.length x922.1) c908, .map (some g20)]]) w1154 w_) (by kernel_rfl) ?_
  intro w1205 hc1206
  have HS1207 : Chg (atL [.row true cNode 64 A907 c908 x922.1, .mp Try.prog 64 g20 (List.map (fun p_ => (ndV p_.1, (fun u_ : Int => .int .i64 u_) p_.2)) x922.2.1), .box g19 44 [.int .i64 n, .slice A907 (List.length x922.1) c908, .map (some g20)]]) w1154 w1205 := hc1206.mono (fun _ _ h_ => h_.elim)
  replace H := H.ext hc1206
  refine dn tbok (by kernel_rfl) [0, 1, 2, 3, 4] [.slice A912 (List.length x922.2.2) c913] [(125, .slice A1112 (List.length r1098) c1113), (129, .slice A912 (List.length x922.2.2) c913)] (fun w_ => [World.cell? w_ ⟨g569, 1, none⟩ = some (.slice A912 (List.length x922.2.2) c913)]) 11 E (fun _ _ => by kernel_rfl) (by kernel_rfl) (fun w_ hS_ => ((HR1208.boxk [0, 1, 2] hS_ 4 rfl rfl).cell (j := 1) rfl)) (by kernel_rfl) HS1207 ?_
  clear E; intro a E
  refine wpAnyH_all (rs := [5]) (by kernel_rfl) (by simp) ?_
  refine all1 ?_
  refine wpOp_of_list rfl ?_
  obtain ⟨Fa1209, Hc1210, hb1211⟩ := H.call [] [(5, false), (3, false)] rfl rfl trivial
  refine e_call E rfl rfl Try.func25 rfl rfl rfl (kit_SameNodes_calls A1112 c1113 A912 c913 r1098 x922.2.2 (H.rcap 5 rfl) (H.rcap 3 rfl) Hc1210 h1167) ?_
  rintro v1212 w1213 a ⟨rfl, HR1214⟩ E_
  replace E := E_ _ rfl; clear E_
  obtain ⟨H_, hc1215⟩ := hb1211 _ _ HR1214 rfl
  replace HS1207 := HS1207.ext (callS_ext hc1215)
  replace H := H_; clear H_; try dsimp only [setn, addE, goneL] at H
  refine wpList_nil ?_
  refine th_n ⟨HS1207, ?_⟩
  refine dn tbok (by kernel_rfl) [6] [] [(131, .bool r1166)] (fun w_ => []) 9 E (fun _ _ => by kernel_rfl) (by kernel_rfl) (fun w_ hS_ => trivial) (by kernel_rfl) HS1207 ?_
  clear E; intro a E
  replace E := E.same (t := 131) (u := .bool true) rfl (congrArg Value.bool h1175)
  refine dn tbok (by kernel_rfl) [7, 9, 10, 11, 12] [.slice A912 (List.length x922.2.2) c913] [(132, .pointer (some ⟨g19, 0, none⟩)), (137, .slice A912 (List.length x922.2.2) c913)] (fun w_ => [World.cell? w_ ⟨g569, 1, none⟩ = some (.slice A912 (List.length x922.2.2) c913)]) 4 E (fun _ _ => by kernel_rfl) (by kernel_rfl) (fun w_ hS_ => ((HR1208.boxk [0, 1, 2] hS_ 4 rfl rfl).cell (j := 1) rfl)) (by kernel_rfl) HS1207 ?_
  clear E; intro a E
  refine wpAnyH_all (rs := [8]) (by kernel_rfl) (by simp) ?_
  refine all1 ?_
  refine wpOp_of_list rfl ?_
  obtain ⟨Fa1216, Hc1217, hb1218⟩ := H.call [2, 0, 1] [] rfl rfl ⟨flat_plain, trivial⟩
  refine e_call E rfl rfl Try.func18 rfl rfl rfl (guard_Store_Nodes_calls g19 A907 c908 g20 n x922.1 x922.2.1  Hc1217 h1177) ?_
  intro v1224 w1223 a hR1225 E_
  obtain ⟨x_, A1228, c1229, hr_, rfl, HR1227⟩ := hR1225
  subst hr_
  replace E := E_ _ rfl; clear E_
  obtain ⟨H_, hc1226⟩ := hb1218 _ _ HR1227 rfl
  replace HS1207 := HS1207.trans hc1226 (fun k_ hk_ h_ => h_.elim (fun h_ => by have hs_ := HS1207.size; exfalso; omega) (fun h_ => h_.elim (fun h_ => (fun _ _ h_ => Or.inr (Or.inr (Or.inl h_))) k_ hk_ h_) (fun h_ => h_.elim (fun h_ => (fun _ _ h_ => Or.inl h_) k_ hk_ h_) (fun h_ => h_.elim (fun h_ => (fun _ _ h_ => Or.inr (Or.inl h_)) k_ hk_ h_) (fun h_ => h_.elim)))))
  replace H := H_; clear H_; try dsimp only [setn, addE, goneL] at H
  refine wpList_nil ?_
  refine th_n ⟨HS1207, ?_⟩
  refine wpAnyH_all (rs := [13]) (by kernel_rfl) (by simp) ?_
  refine all1 ?_
  refine wpOp_of_list rfl ?_
  obtain ⟨Fa1234, Hc1235, hb1236⟩ := H.call [] [(6, false), (3, false)] rfl rfl trivial
  refine e_call E rfl rfl Try.func25 rfl rfl rfl (kit_SameNodes_calls A1228 c1229 A912 c913 r1176 x922.2.2 (H.rcap 6 rfl) (H.rcap 3 rfl) Hc1235 h1197) ?_
  rintro v1237 w1238 a ⟨rfl, HR1239⟩ E_
  replace E := E_ _ rfl; clear E_
  obtain ⟨H_, hc1240⟩ := hb1236 _ _ HR1239 rfl
  replace HS1207 := HS1207.ext (callS_ext hc1240)
  replace H := H_; clear H_; try dsimp only [setn, addE, goneL] at H
  refine wpList_nil ?_
  refine th_n ⟨HS1207, ?_⟩
  refine dn tbok (by kernel_rfl) [14, 15] [] [(4, .bool r1196)] (fun w_ => []) 0 E (fun _ _ => by kernel_rfl) (by kernel_rfl) (fun w_ hS_ => trivial) (by kernel_rfl) HS1207 ?_
  clear E; intro a E
  refine dr_done (by kernel_rfl) ?_
  clear HS1207 HR1208
  refine th_n ?_
  refine wp_ret ?_
  obtain rfl := Option.some.inj hP
  refine ret1 E rfl rfl ?_
  exact ⟨_, rfl, rfl, H.sel [] rfl⟩
 replace hP := ite_f h1175 hP
 have HR1244 := H
 refine dr_start (S := fun w_ => Chg (atL []) w1154 w_) (by kernel_rfl) ?_
 intro w1241 hc1242
 have HS1243 : Chg (atL []) w1154 w1241 := hc1242.mono (fun _ _ h_ => h_.elim)
 replace H := H.ext hc1242
 refine dn tbok (by kernel_rfl) [0, 1, 2, 3, 4] [.slice A912 (List.length x922.2.2) c913] [(125, .slice A1112 (List.length r1098) c1113), (129, .slice A912 (List.length x922.2.2) c913)] (fun w_ => [World.cell? w_ ⟨g569, 1, none⟩ = some (.slice A912 (List.length x922.2.2) c913)]) 11 E (fun _ _ => by kernel_rfl) (by kernel_rfl) (fun w_ hS_ => ((HR1244.boxk [] hS_ 4 rfl rfl).cell (j := 1) rfl)) (by kernel_rfl) HS1243 ?_
 clear E; intro a E
 refine wpAnyH_all (rs := [5]) (by kernel_rfl) (by simp) ?_
 refine all1 ?_
 refine wpOp_of_list rfl ?_
 obtain ⟨Fa1245, Hc1246, hb1247⟩ := H.call [] [(5, false), (3, false)] rfl rfl trivial
 refine e_call E rfl rfl Try.func25 rfl rfl rfl (kit_SameNodes_calls A1112 c1113 A912 c913 r1098 x922.2.2 (H.rcap 5 rfl) (H.rcap 3 rfl) Hc1246 h1167) ?_
 rintro v1248 w1249 a ⟨rfl, HR1250⟩ E_
 replace E := E_ _ rfl; clear E_
 obtain ⟨H_, hc1251⟩ := hb1247 _ _ HR1250 rfl
 replace HS1243 := HS1243.ext (callS_ext hc1251)
 replace H := H_; clear H_; try dsimp only [setn, addE, goneL] at H
 refine wpList_nil ?_
 refine th_n ⟨HS1243, ?_⟩
 refine dn tbok (by kernel_rfl) [6] [] [(131, .bool r1166)] (fun w_ => []) 9 E (fun _ _ => by kernel_rfl) (by kernel_rfl) (fun w_ hS_ => trivial) (by kernel_rfl) HS1243 ?_
 clear E; intro a E
 replace E := E.same (t := 131) (u := .bool false) rfl (congrArg Value.bool (eq_false_of_ne_true h1175))
 refine dn tbok (by kernel_rfl) [7, 8, 9, 10, 11, 12, 13, 14, 15] [] [(4, .bool false)] (fun w_ => []) 0 E (fun _ _ => by kernel_rfl) (by kernel_rfl) (fun w_ hS_ => trivial) (by kernel_rfl) HS1243 ?_
 clear E; intro a E
 refine dr_done (by kernel_rfl) ?_
 clear HS1243 HR1244
 refine th_n ?_
 refine wp_ret ?_
 obtain rfl := Option.some.inj hP
 refine ret1 E rfl rfl ?_
 exact ⟨_, rfl, rfl, H.sel [] rfl⟩

end Go.V
