/- Plain functions, and the calls that give them. -/
import Derived.Test.YthlbijcgnekcbaaA3
set_option linter.all false
set_option linter.unusedVariables false
set_option linter.unnecessarySimpa false
set_option linter.unusedSimpArgs false
namespace Go.V
open Go Go.Proofs
/-! rejoinder/rejoinderlaw14.GuardBack -/
def law14_GuardBack_j1 (N : Nat) (lists : List (List Int)) (i205 : Int) : Option Bool :=
    if i205 < (((List.length lists) : Nat) : Int) then
      some (decide (i205 < 12))
    else
      some false
def law14_GuardBack_j3 (N : Nat) (lists : List (List Int)) (i205 : Int) (k436 : Int) : Option Int :=
    if k436 < (((List.length (List.getD lists (Int.toNat i205) [])) : Nat) : Int) then
      ask (idx k436 (List.length (List.getD lists (Int.toNat i205) []))) <|
      some (List.getD (List.getD lists (Int.toNat i205) []) (Int.toNat k436) 0)
    else
      some k436
def law14_GuardBack_l2 (N : Nat) (lists : List (List Int)) (r5 : Int) (i205 : Int) : Nat → (List Int) → Int → Option (List Int)
  | 0, _, _ => none
  | m485 + 1, l433, k436 =>
    ask (0 ≤ r5) <|
    if k436 < (shlV .i64 1 r5) then
      ask (idx i205 (List.length lists)) <|
      Option.bind (law14_GuardBack_j3 N lists i205 k436) fun x514 =>
      Option.bind (kit_Pick N x514 12) fun r529 =>
      ask (List.length l433 + List.length ([r529] : List Int) ≤ 1000000000) <|
      ask (in64 (k436 + 1)) <|
      law14_GuardBack_l2 N lists r5 i205 m485 (l433 ++ ([r529] : List Int)) (k436 + 1)
    else
      some l433
def law14_GuardBack_l0 (N : Nat) (lists : List (List Int)) (r5 : Int) : Nat → (List Nd) → (List (Nd × Int)) → (List (List Int)) → (List Int) → Int → Option (((List Nd) × (List (Nd × Int)) × (List (List Int)) × (List Int)) ⊕ Bool)
  | 0, _, _, _, _, _ => none
  | m368 + 1, s193, s196, kept198, refs202, i205 =>
    Option.bind (law14_GuardBack_j1 N lists i205) fun x381 =>
    if x381 = true then
      Option.bind (law14_GuardBack_l2 N lists r5 i205 N [] 0) fun x486 =>
      Option.bind (guard_Store_Add N r5 s193 s196 x486) fun r551 =>
      if (r551.2.1 : Int) = 0 then
        ask (List.length kept198 + List.length ([x486] : List (List Int)) ≤ 1000000000) <|
        ask (List.length refs202 + List.length ([r551.1] : List Int) ≤ 1000000000) <|
        ask (in64 (i205 + 1)) <|
        law14_GuardBack_l0 N lists r5 m368 r551.2.2.1 r551.2.2.2 (kept198 ++ ([x486] : List (List Int))) (refs202 ++ ([r551.1] : List Int)) (i205 + 1)
      else
        some (Sum.inr false)
    else
      some (Sum.inl (s193, s196, kept198, refs202))
def law14_GuardBack_j5 (N : Nat) (x377 : (List Nd) × (List (Nd × Int)) × (List (List Int)) × (List Int)) (a652 : List Int) (i655 : Int) : Option (List Int) :=
    if i655 < (((List.length x377.2.2.2) : Nat) : Int) then
      ask (idx i655 (List.length x377.2.2.2)) <|
      ask (idx i655 (List.length (a652 ++ ([-1] : List Int)))) <|
      some (List.set (a652 ++ ([-1] : List Int)) (Int.toNat i655) (List.getD x377.2.2.2 (Int.toNat i655) 0))
    else
      some (a652 ++ ([-1] : List Int))
def law14_GuardBack_l4 (N : Nat) (x377 : (List Nd) × (List (Nd × Int)) × (List (List Int)) × (List Int)) : Nat → (List Bool) → (List Int) → Int → Option ((List Bool) × (List Int))
  | 0, _, _, _ => none
  | m716 + 1, a648, a652, i655 =>
    if i655 < 12 then
      ask (List.length a648 + List.length ([(Int.tmod i655 2 : Int) == 0] : List Bool) ≤ 1000000000) <|
      ask (List.length a652 + List.length ([-1] : List Int) ≤ 1000000000) <|
      Option.bind (law14_GuardBack_j5 N x377 a652 i655) fun x773 =>
      ask (in64 (i655 + 1)) <|
      law14_GuardBack_l4 N x377 m716 (a648 ++ ([(Int.tmod i655 2 : Int) == 0] : List Bool)) x773 (i655 + 1)
    else
      some (a648, a652)
def law14_GuardBack_j7 (N : Nat) (x377 : (List Nd) × (List (Nd × Int)) × (List (List Int)) × (List Int)) (i873 : Int) (r1019 : (List Int) × Int) : Option Bool :=
    if (r1019.2 : Int) = 0 then
      ask (idx i873 (List.length x377.2.2.1)) <|
      Option.bind (kit_SameInts N r1019.1 (List.getD x377.2.2.1 (Int.toNat i873) [])) fun r1080 =>
      some (!r1080)
    else
      some true
def law14_GuardBack_l8 (N : Nat) (x377 : (List Nd) × (List (Nd × Int)) × (List (List Int)) × (List Int)) (i873 : Int) : Nat → Int → Option (Unit ⊕ Bool)
  | 0, _ => none
  | m1171 + 1, k1130 =>
    if k1130 < i873 then
      ask (idx k1130 (List.length x377.2.2.2)) <|
      ask (idx i873 (List.length x377.2.2.1)) <|
      ask (idx k1130 (List.length x377.2.2.1)) <|
      Option.bind (kit_SameInts N (List.getD x377.2.2.1 (Int.toNat i873) []) (List.getD x377.2.2.1 (Int.toNat k1130) [])) fun r1194 =>
      if (((List.getD x377.2.2.2 (Int.toNat i873) 0) : Int) == (List.getD x377.2.2.2 (Int.toNat k1130) 0)) = r1194 then
        ask (in64 (k1130 + 1)) <|
        law14_GuardBack_l8 N x377 i873 m1171 (k1130 + 1)
      else
        some (Sum.inr false)
    else
      some (Sum.inl ())
def law14_GuardBack_l6 (N : Nat) (r5 : Int) (x377 : (List Nd) × (List (Nd × Int)) × (List (List Int)) × (List Int)) (r798 : List Nd) : Nat → Int → Option (Unit ⊕ Bool)
  | 0, _ => none
  | m1008 + 1, i873 =>
    if i873 < (((List.length x377.2.2.2) : Nat) : Int) then
      ask (idx i873 (List.length x377.2.2.2)) <|
      Option.bind (guard_Table N r5 r798 (List.getD x377.2.2.2 (Int.toNat i873) 0)) fun r1019 =>
      Option.bind (law14_GuardBack_j7 N x377 i873 r1019) fun x1065 =>
      if x1065 = true then
        some (Sum.inr false)
      else
        Option.bind (law14_GuardBack_l8 N x377 i873 N 0) fun x1172 =>
        Sum.elim (fun x1177 =>
          ask (in64 (i873 + 1)) <|
          law14_GuardBack_l6 N r5 x377 r798 m1008 (i873 + 1))
         (fun x1218 =>
          some (Sum.inr x1218)) x1172
    else
      some (Sum.inl ())
def law14_GuardBack_j9 (N : Nat) (r5 : Int) (x377 : (List Nd) × (List (Nd × Int)) × (List (List Int)) × (List Int)) (x717 : (List Bool) × (List Int)) (r798 : List Nd) : Option Bool :=
    Option.bind (guard_Check N r5 x717.1 x717.2 r798) fun r1292 =>
    if (r1292 : Int) = 0 then
      Option.bind (guard_Store_Len N r5 x377.1 x377.2.1) fun r1302 =>
      some ((r1302 : Int) == (((List.length r798) : Nat) : Int))
    else
      some false
def law14_GuardBack (N : Nat) (n : Int) (lists : List (List Int)) : Option Bool :=
  Option.bind (kit_Pick N n 6) fun r5 =>
  Option.bind (guard_New N r5) fun r14 =>
  Sum.elim (fun x31 =>
    some false)
   (fun x32 =>
    if (x32 : Int) = 0 then
      Option.bind (law14_GuardBack_l0 N lists r5 N [] ([] : List (Nd × Int)) [] [] 0) fun x369 =>
      Sum.elim (fun x377 =>
        Option.bind (law14_GuardBack_l4 N x377 N [] [] 0) fun x717 =>
        Option.bind (guard_Store_Nodes N r5 x377.1 x377.2.1) fun r798 =>
        Option.bind (law14_GuardBack_l6 N r5 x377 r798 N 0) fun x1009 =>
        Sum.elim (fun x1014 =>
          Option.bind (law14_GuardBack_j9 N r5 x377 x717 r798) fun x1287 =>
          some x1287)
         (fun x1221 =>
          some x1221) x1009)
       (fun x597 =>
        some x597) x369
    else
      some false) r14
set_option maxRecDepth 100000 in
set_option maxHeartbeats 4000000 in
theorem law14_GuardBack_calls {N : Nat} {S Fa : Nat → Prop} {w0 : World} {r : Bool} (A1 : Option Addr) (c2 : Nat) (n : Int) (lists : List (List Int)) (hk3 : List.length lists ≤ c2) (H : Hp S Fa w0 w0 [.ro false (cSl (cInt .i64)) A1 lists]) (hP : law14_GuardBack N n lists = some r) :
    Calls Try.prog 6 #[.int .i64 n, .slice A1 (List.length lists) c2] w0 fun e w' => ∃ v, e = .returned v ∧ v = .bool r ∧ Hp S Fa w0 w' [] := by
 refine enterV (n := 183) Try.func6 rfl rfl rfl ?_
 intro a E
 replace E := E.pick [(0, .int .i64 n), (1, .slice A1 (List.length lists) c2)] ⟨rfl, rfl, trivial⟩
 rw [law14_GuardBack] at hP
 refine wp_seq ?_
 refine wp_region_lit ?_
 refine vr tbok 1 [] [(0, .int .i64 n), (1, .slice A1 (List.length lists) c2)] [] E (by kernel_rfl) trivial ?_
 clear E; intro a E
 refine wpList_nil ?_
 refine th_n ?_
 refine wp_seq ?_
 refine wp_region_lit ?_
 refine vr tbok 1 [] [(1, .slice A1 (List.length lists) c2), (21, .int .i64 n)] [] E (by kernel_rfl) trivial ?_
 clear E; intro a E
 obtain ⟨r5, h6, hP⟩ := bind_inv hP
 obtain ⟨Fa7, Hc8, hb9⟩ := H.call [] [] rfl rfl trivial
 refine e_call E rfl rfl Try.func26 rfl rfl rfl (kit_Pick_calls  n 6  Hc8 h6) ?_
 rintro v10 w11 a ⟨rfl, HR12⟩ E_
 replace E := E_ _ rfl; clear E_
 obtain ⟨H_, hc13⟩ := hb9 _ _ HR12 rfl
 replace H := H_; clear H_; try dsimp only [setn, addE, goneL] at H
 refine vr tbok 1 [] [(0, .int .i64 r5), (1, .slice A1 (List.length lists) c2)] [] E (by kernel_rfl) trivial ?_
 clear E; intro a E
 refine wpList_nil ?_
 refine th_n ?_
 refine wp_seq ?_
 refine wp_region_lit ?_
 refine vr tbok 1 [] [(0, .int .i64 r5), (1, .slice A1 (List.length lists) c2), (24, .int .i64 r5)] [] E (by kernel_rfl) trivial ?_
 clear E; intro a E
 obtain ⟨r14, h15, hP⟩ := bind_inv hP
 obtain ⟨Fa16, Hc17, hb18⟩ := H.call [] [] rfl rfl trivial
 refine e_call E rfl rfl Try.func20 rfl rfl rfl (guard_New_calls  r5  Hc17 h15) ?_
 intro v24 w23 a hR25 E_
 rcases hR25 with ⟨x_, hr_, rfl, HR27⟩ | ⟨x_, g28, g29, hr_, rfl, HR30⟩
 ·
  subst hr_; have hP := elim_l hP
  obtain ⟨x31, hxx_⟩ : ∃ y_, y_ = x_ := ⟨_, rfl⟩; subst hxx_
  replace E := E_ _ rfl; clear E_
  obtain ⟨H_, hc26⟩ := hb18 _ _ HR27 rfl
  replace H := H_; clear H_; try dsimp only [setn, addE, goneL] at H
  refine vr tbok 5 [] [(0, .int .i64 r5), (1, .slice A1 (List.length lists) c2), (5, .pointer none), (6, .int .i64 x31)] [] E (by kernel_rfl) trivial ?_
  clear E; intro a E
  refine wpList_nil ?_
  refine th_n ?_
  refine wp_seq ?_
  refine wp_seq ?_
  refine wp_region_lit ?_
  refine vr tbok 6 [] [(0, .int .i64 r5), (1, .slice A1 (List.length lists) c2), (5, .pointer none), (33, .bool true)] [] E (by kernel_rfl) trivial ?_
  clear E; intro a E
  refine wpList_nil ?_
  refine th_n ?_
  refine c_true E rfl ?_
  refine wp_seq ?_
  refine wp_region_lit ?_
  refine vr tbok 1 [] [(4, .bool false)] [] E (by kernel_rfl) trivial ?_
  clear E; intro a E
  refine wpList_nil ?_
  refine th_n ?_
  refine wp_ret ?_
  refine th_ret ?_
  obtain rfl := Option.some.inj hP
  refine ret1 E rfl rfl ?_
  exact ⟨_, rfl, rfl, H.sel [] rfl⟩
 subst hr_; have hP := (elim_r hP)
 obtain ⟨x32, hxx_⟩ : ∃ y_, y_ = x_ := ⟨_, rfl⟩; subst hxx_
 replace E := E_ _ rfl; clear E_
 obtain ⟨H_, hc26⟩ := hb18 _ _ HR30 rfl
 replace H := H_; clear H_; try dsimp only [setn, addE, goneL] at H
 refine vr tbok 5 [] [(0, .int .i64 r5), (1, .slice A1 (List.length lists) c2), (5, .pointer (some ⟨g28, 0, none⟩)), (6, .int .i64 x32)] [] E (by kernel_rfl) trivial ?_
 clear E; intro a E
 refine wpList_nil ?_
 refine th_n ?_
 refine wp_seq ?_
 refine wp_seq ?_
 refine wp_region_lit ?_
 refine vr tbok 6 [] [(0, .int .i64 r5), (1, .slice A1 (List.length lists) c2), (5, .pointer (some ⟨g28, 0, none⟩)), (33, .bool ((x32 : Int) != 0))] [] E (by kernel_rfl) trivial ?_
 clear E; intro a E
 refine wpList_nil ?_
 refine th_n ?_
 refine E.cases (t := 33) rfl (fun hb_ E_ => ?_) (fun hb_ E_ => ?_)
 ·
  replace E := E_; clear E_
  have h35 : ¬ ((x32 : Int) = 0) := bne_iff_ne.1 hb_
  clear hb_; replace hP := ite_f h35 hP
  refine c_true E rfl ?_
  refine wp_seq ?_
  refine wp_region_lit ?_
  refine vr tbok 1 [] [(4, .bool false)] [] E (by kernel_rfl) trivial ?_
  clear E; intro a E
  refine wpList_nil ?_
  refine th_n ?_
  refine wp_ret ?_
  refine th_ret ?_
  obtain rfl := Option.some.inj hP
  refine ret1 E rfl rfl ?_
  exact ⟨_, rfl, rfl, H.sel [] rfl⟩
 replace E := E_; clear E_
 have h36 : (x32 : Int) = 0 := bne_eq_false_iff_eq.1 hb_
 clear hb_; replace hP := ite_t h36 hP
 refine c_false E rfl ?_
 refine wp_skip ?_
 refine th_n ?_
 refine wp_seq ?_
 refine wp_region_lit ?_
 refine vr tbok 1 [] [(0, .int .i64 r5), (1, .slice A1 (List.length lists) c2), (5, .pointer (some ⟨g28, 0, none⟩)), (7, .slice none 0 0)] [] E (by kernel_rfl) trivial ?_
 clear E; intro a E
 refine wpList_nil ?_
 refine th_n ?_
 refine wp_seq ?_
 refine wp_region_lit ?_
 refine vr tbok 1 [] [(0, .int .i64 r5), (1, .slice A1 (List.length lists) c2), (5, .pointer (some ⟨g28, 0, none⟩)), (7, .slice none 0 0), (8, .slice none 0 0)] [] E (by kernel_rfl) trivial ?_
 clear E; intro a E
 refine wpList_nil ?_
 refine th_n ?_
 refine wp_seq ?_
 refine wp_region_lit ?_
 refine vr tbok 1 [] [(0, .int .i64 r5), (1, .slice A1 (List.length lists) c2), (5, .pointer (some ⟨g28, 0, none⟩)), (7, .slice none 0 0), (8, .slice none 0 0), (34, .int .i64 r5)] [] E (by kernel_rfl) trivial ?_
 clear E; intro a E
 refine e_build (ps := [(0, .int .i64 r5)]) (v := .agg #[.int .i64 r5, .slice none 0 0, .slice none 0 0, .slice none 0 0]) E rfl rfl tbok rfl (by kernel_rfl) rfl ?_
 clear E; intro a E
 refine h_alloc H E rfl rfl tbok rfl ?_
 intro w38 g37 a hc39 hg41 H_ E_
 replace E := E_ _ rfl; clear E_
 replace H := H_; clear H_; try dsimp only [setn, addE, goneL] at H
 refine h_store (g := g37) (off := 0) H 3 rfl E rfl rfl rfl rfl tbok rfl rfl rfl rfl rfl ?_
 clear E; intro w42 a hc43 H_ E
 replace H := H_; clear H_; try dsimp only [setn, addE, goneL] at H
 refine wpList_nil ?_
 refine th_n ?_
 refine wp_seq ?_
 refine wp_seq ?_
 refine wp_region_lit ?_
 refine vr tbok 1 [] [(0, .int .i64 r5), (1, .slice A1 (List.length lists) c2), (5, .pointer (some ⟨g28, 0, none⟩)), (7, .slice none 0 0), (8, .slice none 0 0), (9, .pointer (some ⟨g37, 0, none⟩)), (10, .int .i64 0)] [] E (by kernel_rfl) trivial ?_
 clear E; intro a E
 refine wpList_nil ?_
 refine th_n ?_
 refine wp_block ?_
 obtain ⟨x369, hL370, hK371⟩ := bind_inv hP
 clear hP
 replace H := H.nilrow cNode 64; try dsimp only [setn, addE, goneL] at H
 replace H := H.nilrow (cSl (cInt .i64)) 23; try dsimp only [setn, addE, goneL] at H
 replace H := H.nilrow (cInt .i64) 3; try dsimp only [setn, addE, goneL] at H
 refine loop_cut (fun i_ a w_ => (i_ = 0 ∧ ∃ (x377 : (List Nd) × (List (Nd × Int)) × (List (List Int)) × (List Int)), ∃ (A357 : Option Addr) (c358 : Nat) (A362 : Option Addr) (c363 : Nat) (A366 : Option Addr) (c367 : Nat), Fr a 183 [(0, .int .i64 r5), (5, .pointer (some ⟨g28, 0, none⟩)), (7, .slice A362 (List.length x377.2.2.1) c363), (8, .slice A366 (List.length x377.2.2.2) c367), (9, .pointer (some ⟨g37, 0, none⟩))] ∧ Hp S Fa w0 w_ [.box g28 44 [.int .i64 r5, .slice A357 (List.length x377.1) c358, .map (some g29)], .row true cNode 64 A357 c358 x377.1, .mp Try.prog 64 g29 (List.map (fun p_ => (ndV p_.1, (fun u_ : Int => .int .i64 u_) p_.2)) x377.2.1), .row true (cSl (cInt .i64)) 23 A362 c363 x377.2.2.1, .row true (cInt .i64) 3 A366 c367 x377.2.2.2, .box g37 26 [.int .i64 r5, .slice none 0 0, .slice none 0 0, .slice none 0 0]] ∧ x369 = Sum.inl x377)) ?_ ?_
 ·
  refine loopV (fun m376 a w375 => ∃ (s193 : List Nd) (s196 : List (Nd × Int)) (kept198 : List (List Int)) (refs202 : List Int) (i205 : Int), ∃ (A194 : Option Addr) (c195 : Nat) (A199 : Option Addr) (c200 : Nat) (A203 : Option Addr) (c204 : Nat), Fr a 183 [(0, .int .i64 r5), (1, .slice A1 (List.length lists) c2), (5, .pointer (some ⟨g28, 0, none⟩)), (7, .slice A199 (List.length kept198) c200), (8, .slice A203 (List.length refs202) c204), (9, .pointer (some ⟨g37, 0, none⟩)), (10, .int .i64 i205)] ∧ Hp S Fa w0 w375 [.ro false (cSl (cInt .i64)) A1 lists, .box g28 44 [.int .i64 r5, .slice A194 (List.length s193) c195, .map (some g29)], .row true cNode 64 A194 c195 s193, .mp Try.prog 64 g29 (List.map (fun p_ => (ndV p_.1, (fun u_ : Int => .int .i64 u_) p_.2)) s196), .row true (cSl (cInt .i64)) 23 A199 c200 kept198, .row true (cInt .i64) 3 A203 c204 refs202, .box g37 26 [.int .i64 r5, .slice none 0 0, .slice none 0 0, .slice none 0 0]] ∧ law14_GuardBack_l0 N lists r5 m376 s193 s196 kept198 refs202 i205 = some x369) N ?_ ?_
  ·
   exact ⟨[], ([] : List (Nd × Int)), [], [], 0, none, 0, none, 0, none, 0, E.pick _ ⟨rfl, rfl, rfl, rfl, rfl, rfl, rfl, trivial⟩, H.sel [0, 1, 4, 2, 5, 6, 3] rfl, hL370⟩
  clear E H hL370; intro m376 a w375 hI_
  obtain ⟨s193, s196, kept198, refs202, i205, A194, c195, A199, c200, A203, c204, E, H, hP⟩ := hI_
  obtain ⟨m368, rfl⟩ : ∃ q_, m376 = q_ + 1 := by cases m376 with | zero => rw [law14_GuardBack_l0] at hP; cases hP | succ q_ => exact ⟨q_, rfl⟩
  rw [law14_GuardBack_l0] at hP
  refine wp_seq ?_
  refine wp_seq ?_
  obtain ⟨x381, h382, hK383⟩ := bind_inv hP
  clear hP
  refine meet_cut (fun a w385 => ∃ (x384 : Bool), Fr a 183 [(0, .int .i64 r5), (1, .slice A1 (List.length lists) c2), (5, .pointer (some ⟨g28, 0, none⟩)), (7, .slice A199 (List.length kept198) c200), (8, .slice A203 (List.length refs202) c204), (9, .pointer (some ⟨g37, 0, none⟩)), (10, .int .i64 i205), (43, .bool x384)] ∧ Hp S Fa w0 w385 [.ro false (cSl (cInt .i64)) A1 lists, .row true cNode 64 A194 c195 s193, .mp Try.prog 64 g29 (List.map (fun p_ => (ndV p_.1, (fun u_ : Int => .int .i64 u_) p_.2)) s196), .box g28 44 [.int .i64 r5, .slice A194 (List.length s193) c195, .map (some g29)], .row true (cSl (cInt .i64)) 23 A199 c200 kept198, .row true (cInt .i64) 3 A203 c204 refs202, .box g37 26 [.int .i64 r5, .slice none 0 0, .slice none 0 0, .slice none 0 0]] ∧ x381 = x384) ?_ ?_
  ·
   have hP := h382; clear h382; rw [law14_GuardBack_j1] at hP
   refine wp_region_lit ?_
   refine vr tbok 5 [] [(0, .int .i64 r5), (1, .slice A1 (List.length lists) c2), (5, .pointer (some ⟨g28, 0, none⟩)), (7, .slice A199 (List.length kept198) c200), (8, .slice A203 (List.length refs202) c204), (9, .pointer (some ⟨g37, 0, none⟩)), (10, .int .i64 i205), (40, .bool (decide (i205 < (((List.length lists) : Nat) : Int))))] [] E (by kernel_rfl) trivial ?_
   clear E; intro a E
   refine E.cases (t := 40) rfl (fun hb_ E_ => ?_) (fun hb_ E_ => ?_)
   ·
    replace E := E_; clear E_
    have h386 : i205 < (((List.length lists) : Nat) : Int) := of_decide_eq_true hb_
    clear hb_; replace hP := ite_t h386 hP
    refine vr tbok 3 [] [(0, .int .i64 r5), (1, .slice A1 (List.length lists) c2), (5, .pointer (some ⟨g28, 0, none⟩)), (7, .slice A199 (List.length kept198) c200), (8, .slice A203 (List.length refs202) c204), (9, .pointer (some ⟨g37, 0, none⟩)), (10, .int .i64 i205), (43, .bool (decide (i205 < 12)))] [] E (by kernel_rfl) trivial ?_
    clear E; intro a E
    refine wpList_nil ?_
    have hx_ := Option.some.inj hP
    exact .inl ⟨rfl, decide (i205 < 12), E.pick _ ⟨rfl, rfl, rfl, rfl, rfl, rfl, rfl, rfl, trivial⟩, H.sel [0, 2, 3, 1, 4, 5, 6] rfl, hx_.symm⟩
   replace E := E_; clear E_
   have h387 : ¬ (i205 < (((List.length lists) : Nat) : Int)) := of_decide_eq_false hb_
   clear hb_; replace hP := ite_f h387 hP
   refine vr tbok 3 [] [(0, .int .i64 r5), (1, .slice A1 (List.length lists) c2), (5, .pointer (some ⟨g28, 0, none⟩)), (7, .slice A199 (List.length kept198) c200), (8, .slice A203 (List.length refs202) c204), (9, .pointer (some ⟨g37, 0, none⟩)), (10, .int .i64 i205), (43, .bool false)] [] E (by kernel_rfl) trivial ?_
   clear E; intro a E
   refine wpList_nil ?_
   have hx_ := Option.some.inj hP
   exact .inl ⟨rfl, false, E.pick _ ⟨rfl, rfl, rfl, rfl, rfl, rfl, rfl, rfl, trivial⟩, H.sel [0, 2, 3, 1, 4, 5, 6] rfl, hx_.symm⟩
  clear E H h382; rintro a w385 ⟨x384, E, H, hx_⟩
  subst hx_; have hP := hK383; clear hK383
  refine th_n ?_
  refine E.cases (t := 43) rfl (fun hb_ E_ => ?_) (fun hb_ E_ => ?_)
  ·
   replace E := E_; clear E_
   have h388 : x381 = true := hb_
   clear hb_; replace hP := ite_t h388 hP
   refine c_true E rfl ?_
   refine wp_skip ?_
   refine th_n ?_
   refine wp_seq ?_
   refine wp_block ?_
   refine wp_seq ?_
   refine wp_region_lit ?_
   refine vr tbok 1 [] [(0, .int .i64 r5), (1, .slice A1 (List.length lists) c2), (5, .pointer (some ⟨g28, 0, none⟩)), (7, .slice A199 (List.length kept198) c200), (8, .slice A203 (List.length refs202) c204), (9, .pointer (some ⟨g37, 0, none⟩)), (10, .int .i64 i205), (11, .slice none 0 0)] [] E (by kernel_rfl) trivial ?_
   clear E; intro a E
   refine wpList_nil ?_
   refine th_n ?_
   refine wp_seq ?_
   refine wp_seq ?_
   refine wp_region_lit ?_
   refine vr tbok 1 [] [(0, .int .i64 r5), (1, .slice A1 (List.length lists) c2), (5, .pointer (some ⟨g28, 0, none⟩)), (7, .slice A199 (List.length kept198) c200), (8, .slice A203 (List.length refs202) c204), (9, .pointer (some ⟨g37, 0, none⟩)), (10, .int .i64 i205), (11, .slice none 0 0), (12, .int .i64 0)] [] E (by kernel_rfl) trivial ?_
   clear E; intro a E
   refine wpList_nil ?_
   refine th_n ?_
   refine wp_block ?_
   obtain ⟨x486, hL487, hK488⟩ := bind_inv hP
   clear hP
   replace H := H.nilrow (cInt .i64) 3; try dsimp only [setn, addE, goneL] at H
   refine loop_cut (fun i_ a w_ => (i_ = 2 ∧ ∃ (x492 : List Int), ∃ (A483 : Option Addr) (c484 : Nat), Fr a 183 [(0, .int .i64 r5), (1, .slice A1 (List.length lists) c2), (5, .pointer (some ⟨g28, 0, none⟩)), (7, .slice A199 (List.length kept198) c200), (8, .slice A203 (List.length refs202) c204), (9, .pointer (some ⟨g37, 0, none⟩)), (10, .int .i64 i205), (11, .slice A483 (List.length x492) c484)] ∧ Hp S Fa w0 w_ [.ro false (cSl (cInt .i64)) A1 lists, .row true cNode 64 A194 c195 s193, .mp Try.prog 64 g29 (List.map (fun p_ => (ndV p_.1, (fun u_ : Int => .int .i64 u_) p_.2)) s196), .box g28 44 [.int .i64 r5, .slice A194 (List.length s193) c195, .map (some g29)], .row true (cSl (cInt .i64)) 23 A199 c200 kept198, .row true (cInt .i64) 3 A203 c204 refs202, .box g37 26 [.int .i64 r5, .slice none 0 0, .slice none 0 0, .slice none 0 0], .row true (cInt .i64) 3 A483 c484 x492] ∧ x486 = x492)) ?_ ?_
   ·
    refine loopV (fun m491 a w490 => ∃ (l433 : List Int) (k436 : Int), ∃ (A434 : Option Addr) (c435 : Nat), Fr a 183 [(0, .int .i64 r5), (1, .slice A1 (List.length lists) c2), (5, .pointer (some ⟨g28, 0, none⟩)), (7, .slice A199 (List.length kept198) c200), (8, .slice A203 (List.length refs202) c204), (9, .pointer (some ⟨g37, 0, none⟩)), (10, .int .i64 i205), (11, .slice A434 (List.length l433) c435), (12, .int .i64 k436)] ∧ Hp S Fa w0 w490 [.ro false (cSl (cInt .i64)) A1 lists, .row true cNode 64 A194 c195 s193, .mp Try.prog 64 g29 (List.map (fun p_ => (ndV p_.1, (fun u_ : Int => .int .i64 u_) p_.2)) s196), .box g28 44 [.int .i64 r5, .slice A194 (List.length s193) c195, .map (some g29)], .row true (cSl (cInt .i64)) 23 A199 c200 kept198, .row true (cInt .i64) 3 A203 c204 refs202, .box g37 26 [.int .i64 r5, .slice none 0 0, .slice none 0 0, .slice none 0 0], .row true (cInt .i64) 3 A434 c435 l433] ∧ law14_GuardBack_l2 N lists r5 i205 m491 l433 k436 = some x486) N ?_ ?_
    ·
     exact ⟨[], 0, none, 0, E.pick _ ⟨rfl, rfl, rfl, rfl, rfl, rfl, rfl, rfl, rfl, trivial⟩, H.sel [0, 1, 2, 3, 4, 5, 6, 7] rfl, hL487⟩
    clear E H hL487; intro m491 a w490 hI_
    obtain ⟨l433, k436, A434, c435, E, H, hP⟩ := hI_
    obtain ⟨m485, rfl⟩ : ∃ q_, m491 = q_ + 1 := by cases m491 with | zero => rw [law14_GuardBack_l2] at hP; cases hP | succ q_ => exact ⟨q_, rfl⟩
    rw [law14_GuardBack_l2] at hP
    refine wp_seq ?_
    refine wp_seq ?_
    refine wp_region_lit ?_
    obtain ⟨g493, hP⟩ := ask_inv hP
    refine vr tbok 4 [.int .i64 (shlV .i64 1 r5)] [(0, .int .i64 r5), (1, .slice A1 (List.length lists) c2), (5, .pointer (some ⟨g28, 0, none⟩)), (7, .slice A199 (List.length kept198) c200), (8, .slice A203 (List.length refs202) c204), (9, .pointer (some ⟨g37, 0, none⟩)), (10, .int .i64 i205), (11, .slice A434 (List.length l433) c435), (12, .int .i64 k436), (49, .bool (decide (k436 < (shlV .i64 1 r5))))] [0 ≤ r5 ∧ IntKind.i64.wrap (1 * 2 ^ (min (Int.toNat r5) (IntKind.bits .i64))) = shlV .i64 1 r5] E (by kernel_rfl) (⟨g493, rfl⟩) ?_
    clear E; intro a E
    refine wpList_nil ?_
    refine th_n ?_
    refine E.cases (t := 49) rfl (fun hb_ E_ => ?_) (fun hb_ E_ => ?_)
    ·
     replace E := E_; clear E_
     have h494 : k436 < (shlV .i64 1 r5) := of_decide_eq_true hb_
     clear hb_; replace hP := ite_t h494 hP
     refine c_true E rfl ?_
     refine wp_skip ?_
     refine th_n ?_
     refine wp_seq ?_
     refine wp_block ?_
     refine wp_seq ?_
     refine wp_region_lit ?_
     refine vr tbok 2 [] [(0, .int .i64 r5), (1, .slice A1 (List.length lists) c2), (5, .pointer (some ⟨g28, 0, none⟩)), (7, .slice A199 (List.length kept198) c200), (8, .slice A203 (List.length refs202) c204), (9, .pointer (some ⟨g37, 0, none⟩)), (10, .int .i64 i205), (11, .slice A434 (List.length l433) c435), (12, .int .i64 k436), (13, .int .i64 k436)] [] E (by kernel_rfl) trivial ?_
     clear E; intro a E
     refine wpList_nil ?_
     refine th_n ?_
     refine wp_seq ?_
     refine wp_seq ?_
     refine wp_region_lit ?_
     obtain ⟨g495, hP⟩ := ask_inv hP
     obtain ⟨b496, o497, e_b496⟩ := (H.rd 0 rds_ro).addr (idx_pos g495)
     subst e_b496
     obtain ⟨A498, c499, hl500, hk501, H⟩ := H.subSl 0 false (el_ro rfl) g495
     try dsimp only [addE] at H
     refine vr tbok 7 [.slice A498 (List.length (List.getD lists (Int.toNat i205) [])) c499] [(0, .int .i64 r5), (1, .slice (some ⟨b496, o497, none⟩) (List.length lists) c2), (5, .pointer (some ⟨g28, 0, none⟩)), (7, .slice A199 (List.length kept198) c200), (8, .slice A203 (List.length refs202) c204), (9, .pointer (some ⟨g37, 0, none⟩)), (10, .int .i64 i205), (11, .slice A434 (List.length l433) c435), (12, .int .i64 k436), (13, .int .i64 k436), (59, .bool (decide (k436 < (((List.length (List.getD lists (Int.toNat i205) [])) : Nat) : Int))))] [0 ≤ i205 ∧ i205 < (((List.length lists) : Nat) : Int), World.cell? w490 ⟨b496, o497 + (Int.toNat i205) * 1, none⟩ = some (.slice A498 (List.length (List.getD lists (Int.toNat i205) [])) c499)] E (by kernel_rfl) ⟨g495, hl500⟩ ?_
     clear E; intro a E
     refine wpList_nil ?_
     refine th_n ?_
     obtain ⟨x514, h515, hK516⟩ := bind_inv hP
     clear hP
     refine meet_cut (fun a w518 => ∃ (x517 : Int), Fr a 183 [(0, .int .i64 r5), (1, .slice (some ⟨b496, o497, none⟩) (List.length lists) c2), (5, .pointer (some ⟨g28, 0, none⟩)), (7, .slice A199 (List.length kept198) c200), (8, .slice A203 (List.length refs202) c204), (9, .pointer (some ⟨g37, 0, none⟩)), (10, .int .i64 i205), (11, .slice A434 (List.length l433) c435), (12, .int .i64 k436), (13, .int .i64 x517)] ∧ Hp S Fa w0 w518 [.ro false (cSl (cInt .i64)) (some ⟨b496, o497, none⟩) lists, .row true cNode 64 A194 c195 s193, .mp Try.prog 64 g29 (List.map (fun p_ => (ndV p_.1, (fun u_ : Int => .int .i64 u_) p_.2)) s196), .box g28 44 [.int .i64 r5, .slice A194 (List.length s193) c195, .map (some g29)], .row true (cSl (cInt .i64)) 23 A199 c200 kept198, .row true (cInt .i64) 3 A203 c204 refs202, .box g37 26 [.int .i64 r5, .slice none 0 0, .slice none 0 0, .slice none 0 0], .row true (cInt .i64) 3 A434 c435 l433] ∧ x514 = x517) ?_ ?_
     ·
      have hP := h515; clear h515; rw [law14_GuardBack_j3] at hP
      refine E.cases (t := 59) rfl (fun hb_ E_ => ?_) (fun hb_ E_ => ?_)
      ·
       replace E := E_; clear E_
       have h519 : k436 < (((List.length (List.getD lists (Int.toNat i205) [])) : Nat) : Int) := of_decide_eq_true hb_
       clear hb_; replace hP := ite_t h519 hP
       refine c_true E rfl ?_
       refine wp_region_lit ?_
       obtain ⟨A520, c521, hl522, hk523, H⟩ := H.subSl 0 false (el_ro rfl) g495
       try dsimp only [addE] at H
       obtain ⟨g525, hP⟩ := ask_inv hP
       obtain ⟨b526, o527, e_b526⟩ := (H.rd 9 rds_ro).addr (idx_pos g525)
       subst e_b526
       refine vr tbok 8 [.slice (some ⟨b526, o527, none⟩) (List.length (List.getD lists (Int.toNat i205) [])) c521, .int .i64 (List.getD (List.getD lists (Int.toNat i205) []) (Int.toNat k436) 0)] [(0, .int .i64 r5), (1, .slice (some ⟨b496, o497, none⟩) (List.length lists) c2), (5, .pointer (some ⟨g28, 0, none⟩)), (7, .slice A199 (List.length kept198) c200), (8, .slice A203 (List.length refs202) c204), (9, .pointer (some ⟨g37, 0, none⟩)), (10, .int .i64 i205), (11, .slice A434 (List.length l433) c435), (12, .int .i64 k436), (13, .int .i64 (List.getD (List.getD lists (Int.toNat i205) []) (Int.toNat k436) 0))] [0 ≤ i205 ∧ i205 < (((List.length lists) : Nat) : Int), World.cell? w490 ⟨b496, o497 + (Int.toNat i205) * 1, none⟩ = some (.slice (some ⟨b526, o527, none⟩) (List.length (List.getD lists (Int.toNat i205) [])) c521), 0 ≤ k436 ∧ k436 < (((List.length (List.getD lists (Int.toNat i205) [])) : Nat) : Int), World.cell? w490 ⟨b526, o527 + (Int.toNat k436) * 1, none⟩ = some (.int .i64 (List.getD (List.getD lists (Int.toNat i205) []) (Int.toNat k436) 0))] E (by kernel_rfl) ⟨g495, hl522, g525, Rds.at1 (H.rd 9 rds_ro) 0 g525⟩ ?_
       clear E; intro a E
       refine wpList_nil ?_
       have hx_ := Option.some.inj hP
       exact .inl ⟨rfl, (List.getD (List.getD lists (Int.toNat i205) []) (Int.toNat k436) 0), E.pick _ ⟨rfl, rfl, rfl, rfl, rfl, rfl, rfl, rfl, rfl, rfl, trivial⟩, H.sel [0, 1, 2, 3, 4, 5, 6, 7] rfl, hx_.symm⟩
      replace E := E_; clear E_
      have h528 : ¬ (k436 < (((List.length (List.getD lists (Int.toNat i205) [])) : Nat) : Int)) := of_decide_eq_false hb_
      clear hb_; replace hP := ite_f h528 hP
      refine c_false E rfl ?_
      refine wp_skip ?_
      have hx_ := Option.some.inj hP
      exact .inl ⟨rfl, k436, E.pick _ ⟨rfl, rfl, rfl, rfl, rfl, rfl, rfl, rfl, rfl, rfl, trivial⟩, H.sel [0, 1, 2, 3, 4, 5, 6, 7] rfl, hx_.symm⟩
     clear E H h515; rintro a w518 ⟨x517, E, H, hx_⟩
     subst hx_; have hP := hK516; clear hK516
     refine th_n ?_
     refine wp_region_lit ?_
     refine vr tbok 2 [] [(0, .int .i64 r5), (1, .slice (some ⟨b496, o497, none⟩) (List.length lists) c2), (5, .pointer (some ⟨g28, 0, none⟩)), (7, .slice A199 (List.length kept198) c200), (8, .slice A203 (List.length refs202) c204), (9, .pointer (some ⟨g37, 0, none⟩)), (10, .int .i64 i205), (12, .int .i64 k436), (67, .slice A434 (List.length l433) c435), (68, .int .i64 x514)] [] E (by kernel_rfl) trivial ?_
     clear E; intro a E
     obtain ⟨r529, h530, hP⟩ := bind_inv hP
     obtain ⟨Fa531, Hc532, hb533⟩ := H.call [] [] rfl rfl trivial
     refine e_call E rfl rfl Try.func26 rfl rfl rfl (kit_Pick_calls  x514 12  Hc532 h530) ?_
     rintro v534 w535 a ⟨rfl, HR536⟩ E_
     replace E := E_ _ rfl; clear E_
     obtain ⟨H_, hc537⟩ := hb533 _ _ HR536 rfl
     replace H := H_; clear H_; try dsimp only [setn, addE, goneL] at H
     refine h_buildSlice (ps := [(0, .int .i64 r529)]) (cs := [.int .i64 r529]) H E rfl rfl tbok rfl rfl (by kernel_rfl) ?_
     intro w539 g538 a hc540 hg542 H_ E_
     replace E := E_ _ rfl; clear E_
     replace H := H_; clear H_; try dsimp only [setn, addE, goneL] at H
     obtain ⟨g543, hP⟩ := ask_inv hP
     refine h_append (cInt .i64) (xs := l433) (ys := ([r529] : List Int)) (0 : Int) H 7 rfl E rfl rfl tbok rfl rfl rfl rfl rfl (fun _ _ => rfl) rfl rfl (fun _ HF_ => HF_.srcB 8 rfl (⟨_, _, rfl, rfl, rfl⟩)) g543 ?_
     intro w544 A545 c546 a hc547 hA548 H_ E_
     replace E := E_ _ rfl; clear E_
     replace H := H_; clear H_; try dsimp only [setn, addE, goneL] at H
     refine vr tbok 1 [] [(0, .int .i64 r5), (1, .slice (some ⟨b496, o497, none⟩) (List.length lists) c2), (5, .pointer (some ⟨g28, 0, none⟩)), (7, .slice A199 (List.length kept198) c200), (8, .slice A203 (List.length refs202) c204), (9, .pointer (some ⟨g37, 0, none⟩)), (10, .int .i64 i205), (11, .slice A545 (List.length (l433 ++ ([r529] : List Int))) c546), (12, .int .i64 k436)] [] E (by kernel_rfl) trivial ?_
     clear E; intro a E
     refine wpList_nil ?_
     refine bl_n ?_
     refine th_n ?_
     refine wp_region_lit ?_
     obtain ⟨g549, hP⟩ := ask_inv hP
     refine vr tbok 3 [.int .i64 (k436 + 1)] [(0, .int .i64 r5), (1, .slice (some ⟨b496, o497, none⟩) (List.length lists) c2), (5, .pointer (some ⟨g28, 0, none⟩)), (7, .slice A199 (List.length kept198) c200), (8, .slice A203 (List.length refs202) c204), (9, .pointer (some ⟨g37, 0, none⟩)), (10, .int .i64 i205), (11, .slice A545 (List.length (l433 ++ ([r529] : List Int))) c546), (12, .int .i64 (k436 + 1))] [IntKind.i64.wrap (k436 + 1) = k436 + 1] E (by kernel_rfl) (wrap_in g549) ?_
     clear E; intro a E
     refine wpList_nil ?_
     exact th_n ⟨m485, Nat.lt_succ_self _, l433 ++ ([r529] : List Int), k436 + 1, A545, c546, E.pick _ ⟨rfl, rfl, rfl, rfl, rfl, rfl, rfl, rfl, rfl, trivial⟩, H.sel [0, 1, 2, 3, 4, 5, 6, 7] rfl, hP⟩
    replace E := E_; clear E_
    have h550 : ¬ (k436 < (shlV .i64 1 r5)) := of_decide_eq_false hb_
    clear hb_; replace hP := ite_f h550 hP
    refine c_false E rfl ?_
    refine wp_exit ?_
    refine th_exit ?_
    have hx_ := Option.some.inj hP
    refine th_exit (.inl ⟨2, rfl, ?_⟩)
    exact ⟨rfl, l433, A434, c435, E.pick _ ⟨rfl, rfl, rfl, rfl, rfl, rfl, rfl, rfl, trivial⟩, H.sel [0, 1, 2, 3, 4, 5, 6, 7] rfl, hx_.symm⟩
   clear E H hL487; intro i_ a w490 hM_
   obtain ⟨rfl, x492, A483, c484, E, H, hx_⟩ := hM_
   subst hx_; have hP := hK488; clear hK488
   refine bl_hit ?_
   refine th_n ?_
   refine wp_seq ?_
   refine wp_region_lit ?_
   refine vr tbok 2 [] [(0, .int .i64 r5), (1, .slice A1 (List.length lists) c2), (5, .pointer (some ⟨g28, 0, none⟩)), (7, .slice A199 (List.length kept198) c200), (8, .slice A203 (List.length refs202) c204), (9, .pointer (some ⟨g37, 0, none⟩)), (10, .int .i64 i205), (11, .slice A483 (List.length x486) c484), (73, .pointer (some ⟨g28, 0, none⟩)), (74, .slice A483 (List.length x486) c484)] [] E (by kernel_rfl) trivial ?_
   clear E; intro a E
   obtain ⟨r551, h552, hP⟩ := bind_inv hP
   obtain ⟨Fa553, Hc554, hb555⟩ := H.call [3, 1, 2] [(7, false)] rfl rfl ⟨flat_plain, trivial⟩
   refine e_call E rfl rfl Try.func17 rfl rfl rfl (guard_Store_Add_calls g28 A194 c195 g29 A483 c484 r5 s193 s196 x486 (H.rcap 7 rfl) Hc554 h552) ?_
   intro v561 w560 a hR562 E_
   obtain ⟨x_, A565, c566, hr_, rfl, HR564⟩ := hR562
   subst hr_
   replace E := E_ _ rfl; clear E_
   obtain ⟨H_, hc563⟩ := hb555 _ _ HR564 rfl
   replace H := H_; clear H_; try dsimp only [setn, addE, goneL] at H
   refine vr tbok 5 [] [(0, .int .i64 r5), (1, .slice A1 (List.length lists) c2), (5, .pointer (some ⟨g28, 0, none⟩)), (7, .slice A199 (List.length kept198) c200), (8, .slice A203 (List.length refs202) c204), (9, .pointer (some ⟨g37, 0, none⟩)), (10, .int .i64 i205), (11, .slice A483 (List.length x486) c484), (14, .int .i64 r551.1), (15, .int .i64 r551.2.1)] [] E (by kernel_rfl) trivial ?_
   clear E; intro a E
   refine wpList_nil ?_
   refine th_n ?_
   refine wp_seq ?_
   refine wp_seq ?_
   refine wp_region_lit ?_
   refine vr tbok 2 [] [(0, .int .i64 r5), (1, .slice A1 (List.length lists) c2), (5, .pointer (some ⟨g28, 0, none⟩)), (7, .slice A199 (List.length kept198) c200), (8, .slice A203 (List.length refs202) c204), (9, .pointer (some ⟨g37, 0, none⟩)), (10, .int .i64 i205), (11, .slice A483 (List.length x486) c484), (14, .int .i64 r551.1), (79, .bool ((r551.2.1 : Int) != 0))] [] E (by kernel_rfl) trivial ?_
   clear E; intro a E
   refine wpList_nil ?_
   refine th_n ?_
   refine E.cases (t := 79) rfl (fun hb_ E_ => ?_) (fun hb_ E_ => ?_)
   ·
    replace E := E_; clear E_
    have h570 : ¬ ((r551.2.1 : Int) = 0) := bne_iff_ne.1 hb_
    clear hb_; replace hP := ite_f h570 hP
    refine c_true E rfl ?_
    refine wp_seq ?_
    refine wp_region_lit ?_
    refine vr tbok 1 [] [(4, .bool false)] [] E (by kernel_rfl) trivial ?_
    clear E; intro a E
    refine wpList_nil ?_
    refine th_n ?_
    refine wp_ret ?_
    refine th_ret ?_
    refine bl_ret ?_
    refine th_ret ?_
    refine th_ret ?_
    refine .inr ⟨rfl, ?_⟩
    refine bl_ret ?_
    refine th_ret ?_
    have hx_ := Option.some.inj hP; subst hx_
    have hP : some (false) = some r := hK371
    obtain rfl := Option.some.inj hP
    refine ret1 E rfl rfl ?_
    exact ⟨_, rfl, rfl, H.sel [] rfl⟩
   replace E := E_; clear E_
   have h571 : (r551.2.1 : Int) = 0 := bne_eq_false_iff_eq.1 hb_
   clear hb_; replace hP := ite_t h571 hP
   refine c_false E rfl ?_
   refine wp_skip ?_
   refine th_n ?_
   refine wp_region_lit ?_
   refine vr tbok 2 [] [(0, .int .i64 r5), (1, .slice A1 (List.length lists) c2), (5, .pointer (some ⟨g28, 0, none⟩)), (8, .slice A203 (List.length refs202) c204), (9, .pointer (some ⟨g37, 0, none⟩)), (10, .int .i64 i205), (14, .int .i64 r551.1), (80, .slice A199 (List.length kept198) c200), (81, .slice A483 (List.length x486) c484)] [] E (by kernel_rfl) trivial ?_
   clear E; intro a E
   refine h_buildSlice (ps := [(0, .slice A483 (List.length x486) c484)]) (cs := [.slice A483 (List.length x486) c484]) H E rfl rfl tbok rfl rfl (by kernel_rfl) ?_
   intro w573 g572 a hc574 hg576 H_ E_
   replace E := E_ _ rfl; clear E_
   replace H := H_; clear H_; try dsimp only [setn, addE, goneL] at H
   have hk577 := H.rcap 7 rfl
   replace H := H.frz 7 rfl; try dsimp only [setn, addE, goneL] at H
   obtain ⟨g578, hP⟩ := ask_inv hP
   refine h_append (cSl (cInt .i64)) (xs := kept198) (ys := ([x486] : List (List Int))) ([] : List Int) H 4 rfl E rfl rfl tbok rfl rfl rfl rfl rfl (fun _ _ => kSl_nil) rfl rfl (fun _ HF_ => HF_.srcB 11 rfl ⟨_, _, rfl, ⟨_, _, rfl, hk577, (HF_.roC 7 rfl)⟩, rfl⟩) g578 ?_
   intro w579 A580 c581 a hc582 hA583 H_ E_
   replace E := E_ _ rfl; clear E_
   replace H := H_; clear H_; try dsimp only [setn, addE, goneL] at H
   refine vr tbok 2 [] [(0, .int .i64 r5), (1, .slice A1 (List.length lists) c2), (5, .pointer (some ⟨g28, 0, none⟩)), (9, .pointer (some ⟨g37, 0, none⟩)), (10, .int .i64 i205), (83, .slice A580 (List.length (kept198 ++ ([x486] : List (List Int)))) c581), (84, .slice A203 (List.length refs202) c204), (85, .int .i64 r551.1)] [] E (by kernel_rfl) trivial ?_
   clear E; intro a E
   refine h_buildSlice (ps := [(0, .int .i64 r551.1)]) (cs := [.int .i64 r551.1]) H E rfl rfl tbok rfl rfl (by kernel_rfl) ?_
   intro w585 g584 a hc586 hg588 H_ E_
   replace E := E_ _ rfl; clear E_
   replace H := H_; clear H_; try dsimp only [setn, addE, goneL] at H
   obtain ⟨g589, hP⟩ := ask_inv hP
   refine h_append (cInt .i64) (xs := refs202) (ys := ([r551.1] : List Int)) (0 : Int) H 5 rfl E rfl rfl tbok rfl rfl rfl rfl rfl (fun _ _ => rfl) rfl rfl (fun _ HF_ => HF_.srcB 12 rfl (⟨_, _, rfl, rfl, rfl⟩)) g589 ?_
   intro w590 A591 c592 a hc593 hA594 H_ E_
   replace E := E_ _ rfl; clear E_
   replace H := H_; clear H_; try dsimp only [setn, addE, goneL] at H
   refine vr tbok 2 [] [(0, .int .i64 r5), (1, .slice A1 (List.length lists) c2), (5, .pointer (some ⟨g28, 0, none⟩)), (7, .slice A580 (List.length (kept198 ++ ([x486] : List (List Int)))) c581), (8, .slice A591 (List.length (refs202 ++ ([r551.1] : List Int))) c592), (9, .pointer (some ⟨g37, 0, none⟩)), (10, .int .i64 i205)] [] E (by kernel_rfl) trivial ?_
   clear E; intro a E
   refine wpList_nil ?_
   refine bl_n ?_
   refine th_n ?_
   refine wp_region_lit ?_
   obtain ⟨g595, hP⟩ := ask_inv hP
   refine vr tbok 3 [.int .i64 (i205 + 1)] [(0, .int .i64 r5), (1, .slice A1 (List.length lists) c2), (5, .pointer (some ⟨g28, 0, none⟩)), (7, .slice A580 (List.length (kept198 ++ ([x486] : List (List Int)))) c581), (8, .slice A591 (List.length (refs202 ++ ([r551.1] : List Int))) c592), (9, .pointer (some ⟨g37, 0, none⟩)), (10, .int .i64 (i205 + 1))] [IntKind.i64.wrap (i205 + 1) = i205 + 1] E (by kernel_rfl) (wrap_in g595) ?_
   clear E; intro a E
   refine wpList_nil ?_
   exact th_n ⟨m368, Nat.lt_succ_self _, r551.2.2.1, r551.2.2.2, kept198 ++ ([x486] : List (List Int)), refs202 ++ ([r551.1] : List Int), i205 + 1, A565, c566, A580, c581, A591, c592, E.pick _ ⟨rfl, rfl, rfl, rfl, rfl, rfl, rfl, trivial⟩, H.sel [0, 8, 9, 10, 4, 5, 6] rfl, hP⟩
  replace E := E_; clear E_
  have h596 : ¬ (x381 = true) := (ne_true_of_eq_false hb_)
  clear hb_; replace hP := ite_f h596 hP
  refine c_false E rfl ?_
  refine wp_exit ?_
  refine th_exit ?_
  have hx_ := Option.some.inj hP
  refine th_exit (.inl ⟨0, rfl, ?_⟩)
  exact ⟨rfl, (s193, s196, kept198, refs202), A194, c195, A199, c200, A203, c204, E.pick _ ⟨rfl, rfl, rfl, rfl, rfl, trivial⟩, H.sel [3, 1, 2, 4, 5, 6] rfl, hx_.symm⟩
 clear E H hL370; intro i_ a w375 hM_
 obtain ⟨rfl, x377, A357, c358, A362, c363, A366, c367, E, H, hx_⟩ := hM_
 subst hx_; have hP := elim_l hK371
 clear hK371
 refine bl_hit ?_
 refine th_n ?_
 refine wp_seq ?_
 refine wp_seq ?_
 refine wp_region_lit ?_
 refine vr tbok 1 [] [(0, .int .i64 r5), (5, .pointer (some ⟨g28, 0, none⟩)), (7, .slice A362 (List.length x377.2.2.1) c363), (8, .slice A366 (List.length x377.2.2.2) c367), (9, .pointer (some ⟨g37, 0, none⟩)), (16, .int .i64 0)] [] E (by kernel_rfl) trivial ?_
 clear E; intro a E
 refine wpList_nil ?_
 refine th_n ?_
 refine wp_block ?_
 obtain ⟨x717, hL718, hK719⟩ := bind_inv hP
 clear hP
 replace H := H.nilrow cBool 4; try dsimp only [setn, addE, goneL] at H
 replace H := H.nilrow (cInt .i64) 3; try dsimp only [setn, addE, goneL] at H
 refine loop_cut (fun i_ a w_ => (i_ = 4 ∧ ∃ (x724 : (List Bool) × (List Int)), ∃ (A710 : Option Addr) (c711 : Nat) (A714 : Option Addr) (c715 : Nat), Fr a 183 [(0, .int .i64 r5), (5, .pointer (some ⟨g28, 0, none⟩)), (7, .slice A362 (List.length x377.2.2.1) c363), (8, .slice A366 (List.length x377.2.2.2) c367), (9, .pointer (some ⟨g37, 0, none⟩))] ∧ Hp S Fa w0 w_ [.row true cNode 64 A357 c358 x377.1, .mp Try.prog 64 g29 (List.map (fun p_ => (ndV p_.1, (fun u_ : Int => .int .i64 u_) p_.2)) x377.2.1), .box g28 44 [.int .i64 r5, .slice A357 (List.length x377.1) c358, .map (some g29)], .row true (cSl (cInt .i64)) 23 A362 c363 x377.2.2.1, .row true (cInt .i64) 3 A366 c367 x377.2.2.2, .box g37 26 [.int .i64 r5, .slice A710 (List.length x724.1) c711, .slice A714 (List.length x724.2) c715, .slice none 0 0], .row true cBool 4 A710 c711 x724.1, .row true (cInt .i64) 3 A714 c715 x724.2] ∧ x717 = x724)) ?_ ?_
 ·
  refine loopV (fun m723 a w722 => ∃ (a648 : List Bool) (a652 : List Int) (i655 : Int), ∃ (A649 : Option Addr) (c650 : Nat) (A653 : Option Addr) (c654 : Nat), Fr a 183 [(0, .int .i64 r5), (5, .pointer (some ⟨g28, 0, none⟩)), (7, .slice A362 (List.length x377.2.2.1) c363), (8, .slice A366 (List.length x377.2.2.2) c367), (9, .pointer (some ⟨g37, 0, none⟩)), (16, .int .i64 i655)] ∧ Hp S Fa w0 w722 [.row true cNode 64 A357 c358 x377.1, .mp Try.prog 64 g29 (List.map (fun p_ => (ndV p_.1, (fun u_ : Int => .int .i64 u_) p_.2)) x377.2.1), .box g28 44 [.int .i64 r5, .slice A357 (List.length x377.1) c358, .map (some g29)], .row true (cSl (cInt .i64)) 23 A362 c363 x377.2.2.1, .row true (cInt .i64) 3 A366 c367 x377.2.2.2, .box g37 26 [.int .i64 r5, .slice A649 (List.length a648) c650, .slice A653 (List.length a652) c654, .slice none 0 0], .row true cBool 4 A649 c650 a648, .row true (cInt .i64) 3 A653 c654 a652] ∧ law14_GuardBack_l4 N x377 m723 a648 a652 i655 = some x717) N ?_ ?_
  ·
   exact ⟨[], [], 0, none, 0, none, 0, E.pick _ ⟨rfl, rfl, rfl, rfl, rfl, rfl, trivial⟩, H.sel [1, 2, 0, 3, 4, 5, 6, 7] rfl, hL718⟩
  clear E H hL718; intro m723 a w722 hI_
  obtain ⟨a648, a652, i655, A649, c650, A653, c654, E, H, hP⟩ := hI_
  obtain ⟨m716, rfl⟩ : ∃ q_, m723 = q_ + 1 := by cases m723 with | zero => rw [law14_GuardBack_l4] at hP; cases hP | succ q_ => exact ⟨q_, rfl⟩
  rw [law14_GuardBack_l4] at hP
  refine wp_seq ?_
  refine wp_seq ?_
  refine wp_region_lit ?_
  refine vr tbok 2 [] [(0, .int .i64 r5), (5, .pointer (some ⟨g28, 0, none⟩)), (7, .slice A362 (List.length x377.2.2.1) c363), (8, .slice A366 (List.length x377.2.2.2) c367), (9, .pointer (some ⟨g37, 0, none⟩)), (16, .int .i64 i655), (89, .bool (decide (i655 < 12)))] [] E (by kernel_rfl) trivial ?_
  clear E; intro a E
  refine wpList_nil ?_
  refine th_n ?_
  refine E.cases (t := 89) rfl (fun hb_ E_ => ?_) (fun hb_ E_ => ?_)
  ·
   replace E := E_; clear E_
   have h725 : i655 < 12 := of_decide_eq_true hb_
   clear hb_; replace hP := ite_t h725 hP
   refine c_true E rfl ?_
   refine wp_skip ?_
   refine th_n ?_
   refine wp_seq ?_
   refine wp_block ?_
   refine wp_seq ?_
   refine wp_region_lit ?_
   refine vr tbok 5 [.slice A649 (List.length a648) c650, .int .i64 (Int.tmod i655 2)] [(0, .int .i64 r5), (5, .pointer (some ⟨g28, 0, none⟩)), (7, .slice A362 (List.length x377.2.2.1) c363), (8, .slice A366 (List.length x377.2.2.2) c367), (9, .pointer (some ⟨g37, 0, none⟩)), (16, .int .i64 i655), (93, .slice A649 (List.length a648) c650), (96, .bool ((Int.tmod i655 2 : Int) == 0))] [World.cell? w722 ⟨g37, 1, none⟩ = some (.slice A649 (List.length a648) c650), (2 : Int) ≠ 0 ∧ Int.tmod i655 2 = Int.tmod i655 2] E (by kernel_rfl) ⟨(H.box 5 rfl).cell (j := 1) rfl, ⟨by decide, rfl⟩⟩ ?_
   clear E; intro a E
   refine h_buildSlice (ps := [(0, .bool ((Int.tmod i655 2 : Int) == 0))]) (cs := [.bool ((Int.tmod i655 2 : Int) == 0)]) H E rfl rfl tbok rfl rfl (by kernel_rfl) ?_
   intro w727 g726 a hc728 hg730 H_ E_
   replace E := E_ _ rfl; clear E_
   replace H := H_; clear H_; try dsimp only [setn, addE, goneL] at H
   obtain ⟨g731, hP⟩ := ask_inv hP
   refine h_append cBool (xs := a648) (ys := ([(Int.tmod i655 2 : Int) == 0] : List Bool)) (false : Bool) H 6 rfl E rfl rfl tbok rfl rfl rfl rfl rfl (fun _ _ => rfl) rfl rfl (fun _ HF_ => HF_.srcB 8 rfl (⟨_, _, rfl, rfl, rfl⟩)) g731 ?_
   intro w732 A733 c734 a hc735 hA736 H_ E_
   replace E := E_ _ rfl; clear E_
   replace H := H_; clear H_; try dsimp only [setn, addE, goneL] at H
   refine vr tbok 1 [] [(0, .int .i64 r5), (5, .pointer (some ⟨g28, 0, none⟩)), (7, .slice A362 (List.length x377.2.2.1) c363), (8, .slice A366 (List.length x377.2.2.2) c367), (9, .pointer (some ⟨g37, 0, none⟩)), (16, .int .i64 i655), (98, .slice A733 (List.length (a648 ++ ([(Int.tmod i655 2 : Int) == 0] : List Bool))) c734), (99, .pointer (some ⟨g37, 1, none⟩))] [] E (by kernel_rfl) trivial ?_
   clear E; intro a E
   refine h_store (g := g37) (off := 1) H 5 rfl E rfl rfl rfl rfl tbok rfl rfl rfl rfl rfl ?_
   clear E; intro w737 a hc738 H_ E
   replace H := H_; clear H_; try dsimp only [setn, addE, goneL] at H
   refine wpList_nil ?_
   refine th_n ?_
   refine wp_seq ?_
   refine wp_region_lit ?_
   refine vr tbok 2 [.slice A653 (List.length a652) c654] [(0, .int .i64 r5), (5, .pointer (some ⟨g28, 0, none⟩)), (7, .slice A362 (List.length x377.2.2.1) c363), (8, .slice A366 (List.length x377.2.2.2) c367), (9, .pointer (some ⟨g37, 0, none⟩)), (16, .int .i64 i655), (101, .slice A653 (List.length a652) c654)] [World.cell? w737 ⟨g37, 2, none⟩ = some (.slice A653 (List.length a652) c654)] E (by kernel_rfl) ((H.box 5 rfl).cell (j := 2) rfl) ?_
   clear E; intro a E
   refine h_buildSlice (ps := [(0, .int .i64 (-1))]) (cs := [.int .i64 (-1)]) H E rfl rfl tbok rfl rfl (by kernel_rfl) ?_
   intro w740 g739 a hc741 hg743 H_ E_
   replace E := E_ _ rfl; clear E_
   replace H := H_; clear H_; try dsimp only [setn, addE, goneL] at H
   obtain ⟨g744, hP⟩ := ask_inv hP
   refine h_append (cInt .i64) (xs := a652) (ys := ([-1] : List Int)) (0 : Int) H 7 rfl E rfl rfl tbok rfl rfl rfl rfl rfl (fun _ _ => rfl) rfl rfl (fun _ HF_ => HF_.srcB 9 rfl (⟨_, _, rfl, rfl, rfl⟩)) g744 ?_
   intro w745 A746 c747 a hc748 hA749 H_ E_
   replace E := E_ _ rfl; clear E_
   replace H := H_; clear H_; try dsimp only [setn, addE, goneL] at H
   refine vr tbok 1 [] [(0, .int .i64 r5), (5, .pointer (some ⟨g28, 0, none⟩)), (7, .slice A362 (List.length x377.2.2.1) c363), (8, .slice A366 (List.length x377.2.2.2) c367), (9, .pointer (some ⟨g37, 0, none⟩)), (16, .int .i64 i655), (103, .slice A746 (List.length (a652 ++ ([-1] : List Int))) c747), (104, .pointer (some ⟨g37, 2, none⟩))] [] E (by kernel_rfl) trivial ?_
   clear E; intro a E
   refine h_store (g := g37) (off := 2) H 5 rfl E rfl rfl rfl rfl tbok rfl rfl rfl rfl rfl ?_
   clear E; intro w750 a hc751 H_ E
   replace H := H_; clear H_; try dsimp only [setn, addE, goneL] at H
   refine wpList_nil ?_
   refine th_n ?_
   refine wp_seq ?_
   refine wp_region_lit ?_
   refine vr tbok 4 [] [(0, .int .i64 r5), (5, .pointer (some ⟨g28, 0, none⟩)), (7, .slice A362 (List.length x377.2.2.1) c363), (8, .slice A366 (List.length x377.2.2.2) c367), (9, .pointer (some ⟨g37, 0, none⟩)), (16, .int .i64 i655), (108, .bool (decide (i655 < (((List.length x377.2.2.2) : Nat) : Int))))] [] E (by kernel_rfl) trivial ?_
   clear E; intro a E
   refine wpList_nil ?_
   refine th_n ?_
   obtain ⟨x773, h774, hK775⟩ := bind_inv hP
   clear hP
   refine meet_cut (fun a w777 => ∃ (x776 : List Int), ∃ (A771 : Option Addr) (c772 : Nat), Fr a 183 [(0, .int .i64 r5), (5, .pointer (some ⟨g28, 0, none⟩)), (7, .slice A362 (List.length x377.2.2.1) c363), (8, .slice A366 (List.length x377.2.2.2) c367), (9, .pointer (some ⟨g37, 0, none⟩)), (16, .int .i64 i655)] ∧ Hp S Fa w0 w777 [.row true cNode 64 A357 c358 x377.1, .mp Try.prog 64 g29 (List.map (fun p_ => (ndV p_.1, (fun u_ : Int => .int .i64 u_) p_.2)) x377.2.1), .box g28 44 [.int .i64 r5, .slice A357 (List.length x377.1) c358, .map (some g29)], .row true (cSl (cInt .i64)) 23 A362 c363 x377.2.2.1, .row true (cInt .i64) 3 A366 c367 x377.2.2.2, .box g37 26 [.int .i64 r5, .slice A733 (List.length (a648 ++ ([(Int.tmod i655 2 : Int) == 0] : List Bool))) c734, .slice A771 (List.length x776) c772, .slice none 0 0], .row true cBool 4 A733 c734 (a648 ++ ([(Int.tmod i655 2 : Int) == 0] : List Bool)), .row true (cInt .i64) 3 A771 c772 x776] ∧ x773 = x776) ?_ ?_
   ·
    have hP := h774; clear h774; rw [law14_GuardBack_j5] at hP
    refine E.cases (t := 108) rfl (fun hb_ E_ => ?_) (fun hb_ E_ => ?_)
    ·
     replace E := E_; clear E_
     have h778 : i655 < (((List.length x377.2.2.2) : Nat) : Int) := of_decide_eq_true hb_
     clear hb_; replace hP := ite_t h778 hP
     refine c_true E rfl ?_
     obtain ⟨g779, hP⟩ := ask_inv hP
     obtain ⟨b780, e_b780⟩ := H.raddr 4 rfl (idx_pos g779)
     subst e_b780
     obtain ⟨g782, hP⟩ := ask_inv hP
     obtain ⟨b783, e_b783⟩ := H.raddr 7 rfl (idx_pos g782)
     subst e_b783
     have HR791 := H
     refine dr_start (S := fun w_ => Chg (atL [.row true (cInt .i64) 3 (some ⟨b783, 0, none⟩) c747 (a652 ++ ([-1] : List Int))]) w750 w_) (by kernel_rfl) ?_
     intro w788 hc789
     have HS790 : Chg (atL [.row true (cInt .i64) 3 (some ⟨b783, 0, none⟩) c747 (a652 ++ ([-1] : List Int))]) w750 w788 := hc789.mono (fun _ _ h_ => h_.elim)
     replace H := H.ext hc789
     refine dr tbok (by kernel_rfl) [0, 1, 2, 3, 4, 5, 6] [.slice (some ⟨b783, 0, none⟩) (List.length (a652 ++ ([-1] : List Int))) c747, .int .i64 (List.getD x377.2.2.2 (Int.toNat i655) 0)] [(0, .int .i64 r5), (5, .pointer (some ⟨g28, 0, none⟩)), (7, .slice A362 (List.length x377.2.2.1) c363), (8, .slice (some ⟨b780, 0, none⟩) (List.length x377.2.2.2) c367), (9, .pointer (some ⟨g37, 0, none⟩)), (16, .int .i64 i655), (110, .slice (some ⟨b783, 0, none⟩) (List.length (a652 ++ ([-1] : List Int))) c747), (111, .int .i64 i655), (115, .int .i64 (List.getD x377.2.2.2 (Int.toNat i655) 0))] (fun w_ => [World.cell? w_ ⟨g37, 2, none⟩ = some (.slice (some ⟨b783, 0, none⟩) (List.length (a652 ++ ([-1] : List Int))) c747), 0 ≤ i655 ∧ i655 < (((List.length x377.2.2.2) : Nat) : Int), World.cell? w_ ⟨b780, 0 + (Int.toNat i655) * 1, none⟩ = some (.int .i64 (List.getD x377.2.2.2 (Int.toNat i655) 0))]) 2 E (fun _ _ => by kernel_rfl) (fun w_ hS_ => ⟨(HR791.boxk [7] hS_ 5 rfl rfl).cell (j := 2) rfl, g779, Rds.at1 (HR791.rdk [7] hS_ 4 rds_row rfl) 0 g779⟩) (by kernel_rfl) HS790 ?_
     clear E; intro a E
     refine wpAnyH_all (rs := [7]) (by kernel_rfl) (by simp) ?_
     refine all1 ?_
     refine wpOp_of_list rfl ?_
     refine vr tbok 1 [] [(0, .int .i64 r5), (5, .pointer (some ⟨g28, 0, none⟩)), (7, .slice A362 (List.length x377.2.2.1) c363), (8, .slice (some ⟨b780, 0, none⟩) (List.length x377.2.2.2) c367), (9, .pointer (some ⟨g37, 0, none⟩)), (16, .int .i64 i655), (110, .slice (some ⟨b783, 0, none⟩) (List.length (a652 ++ ([-1] : List Int))) c747), (111, .int .i64 i655), (115, .int .i64 (List.getD x377.2.2.2 (Int.toNat i655) 0)), (116, .pointer (some ⟨b783, 0 + (Int.toNat i655) * 1, none⟩))] [0 ≤ i655 ∧ i655 < (((List.length (a652 ++ ([-1] : List Int))) : Nat) : Int)] E (by kernel_rfl) (g782) ?_
     clear E; intro a E
     refine wpList_nil ?_
     refine th_n ⟨HS790, ?_⟩
     refine wpAnyH_all (rs := [8]) (by kernel_rfl) (by simp) ?_
     refine all1 ?_
     refine wpOp_of_list rfl ?_
     refine h_set (g := b783) (i := i655) (List.getD x377.2.2.2 (Int.toNat i655) 0) H 7 rfl E rfl rfl rfl rfl tbok rfl (fun _ HF_ => rfl) rfl g782 rfl ?_
     clear E; intro w792 a hc793 H_ E
     replace HS790 := HS790.trans hc793 (fun k_ hk_ h_ => (fun _ _ h_ => Or.inl h_) k_ hk_ h_)
     replace H := H_; clear H_; try dsimp only [setn, addE, goneL] at H
     have hn794 : (List.length (a652 ++ ([-1] : List Int))) = (List.length (List.set (a652 ++ ([-1] : List Int)) (Int.toNat i655) (List.getD x377.2.2.2 (Int.toNat i655) 0))) := by simp only [List.length_set]
     replace E := E.same (t := 110) (u := .slice (some ⟨b783, 0, none⟩) (List.length (List.set (a652 ++ ([-1] : List Int)) (Int.toNat i655) (List.getD x377.2.2.2 (Int.toNat i655) 0))) c747) rfl (congrArg (fun n_ => Value.slice (some ⟨b783, 0, none⟩) n_ c747) hn794)
     replace H := H.boxEq 5 rfl (by rw [hn794]); try dsimp only [setn, addE, goneL] at H
     refine wpList_nil ?_
     refine th_n ⟨HS790, ?_⟩
     refine dr_done (by kernel_rfl) ?_
     clear HS790 HR791
     have hx_ := Option.some.inj hP
     exact .inl ⟨rfl, List.set (a652 ++ ([-1] : List Int)) (Int.toNat i655) (List.getD x377.2.2.2 (Int.toNat i655) 0), (some ⟨b783, 0, none⟩), c747, E.pick _ ⟨rfl, rfl, rfl, rfl, rfl, rfl, trivial⟩, H.sel [0, 1, 2, 3, 4, 5, 6, 7] rfl, hx_.symm⟩
    replace E := E_; clear E_
    have h795 : ¬ (i655 < (((List.length x377.2.2.2) : Nat) : Int)) := of_decide_eq_false hb_
    clear hb_; replace hP := ite_f h795 hP
    refine c_false E rfl ?_
    refine wp_skip ?_
    have hx_ := Option.some.inj hP
    exact .inl ⟨rfl, a652 ++ ([-1] : List Int), A746, c747, E.pick _ ⟨rfl, rfl, rfl, rfl, rfl, rfl, trivial⟩, H.sel [0, 1, 2, 3, 4, 5, 6, 7] rfl, hx_.symm⟩
   clear E H h774; rintro a w777 ⟨x776, A771, c772, E, H, hx_⟩
   subst hx_; have hP := hK775; clear hK775
   refine bl_n ?_
   refine th_n ?_
   refine wp_region_lit ?_
   obtain ⟨g796, hP⟩ := ask_inv hP
   refine vr tbok 3 [.int .i64 (i655 + 1)] [(0, .int .i64 r5), (5, .pointer (some ⟨g28, 0, none⟩)), (7, .slice A362 (List.length x377.2.2.1) c363), (8, .slice A366 (List.length x377.2.2.2) c367), (9, .pointer (some ⟨g37, 0, none⟩)), (16, .int .i64 (i655 + 1))] [IntKind.i64.wrap (i655 + 1) = i655 + 1] E (by kernel_rfl) (wrap_in g796) ?_
   clear E; intro a E
   refine wpList_nil ?_
   exact th_n ⟨m716, Nat.lt_succ_self _, a648 ++ ([(Int.tmod i655 2 : Int) == 0] : List Bool), x773, i655 + 1, A733, c734, A771, c772, E.pick _ ⟨rfl, rfl, rfl, rfl, rfl, rfl, trivial⟩, H.sel [0, 1, 2, 3, 4, 5, 6, 7] rfl, hP⟩
  replace E := E_; clear E_
  have h797 : ¬ (i655 < 12) := of_decide_eq_false hb_
  clear hb_; replace hP := ite_f h797 hP
  refine c_false E rfl ?_
  refine wp_exit ?_
  refine th_exit ?_
  have hx_ := Option.some.inj hP
  refine th_exit (.inl ⟨4, rfl, ?_⟩)
  exact ⟨rfl, (a648, a652), A649, c650, A653, c654, E.pick _ ⟨rfl, rfl, rfl, rfl, rfl, trivial⟩, H.sel [0, 1, 2, 3, 4, 5, 6, 7] rfl, hx_.symm⟩
 clear E H hL718; intro i_ a w722 hM_
 obtain ⟨rfl, x724, A710, c711, A714, c715, E, H, hx_⟩ := hM_
 subst hx_; have hP := hK719; clear hK719
 refine bl_hit ?_
 refine th_n ?_
 refine wp_seq ?_
 refine wp_region_lit ?_
 refine vr tbok 1 [] [(0, .int .i64 r5), (5, .pointer (some ⟨g28, 0, none⟩)), (7, .slice A362 (List.length x377.2.2.1) c363), (8, .slice A366 (List.length x377.2.2.2) c367), (9, .pointer (some ⟨g37, 0, none⟩)), (117, .pointer (some ⟨g28, 0, none⟩))] [] E (by kernel_rfl) trivial ?_
 clear E; intro a E
 obtain ⟨r798, h799, hP⟩ := bind_inv hP
 obtain ⟨Fa800, Hc801, hb802⟩ := H.call [2, 0, 1] [] rfl rfl ⟨flat_plain, trivial⟩
 refine e_call E rfl rfl Try.func18 rfl rfl rfl (guard_Store_Nodes_calls g28 A357 c358 g29 r5 x377.1 x377.2.1  Hc801 h799) ?_
 intro v808 w807 a hR809 E_
 obtain ⟨x_, A812, c813, hr_, rfl, HR811⟩ := hR809
 subst hr_
 replace E := E_ _ rfl; clear E_
 obtain ⟨H_, hc810⟩ := hb802 _ _ HR811 rfl
 replace H := H_; clear H_; try dsimp only [setn, addE, goneL] at H
 refine vr tbok 1 [] [(0, .int .i64 r5), (5, .pointer (some ⟨g28, 0, none⟩)), (7, .slice A362 (List.length x377.2.2.1) c363), (8, .slice A366 (List.length x377.2.2.2) c367), (9, .pointer (some ⟨g37, 0, none⟩)), (118, .slice A812 (List.length r798) c813), (119, .pointer (some ⟨g37, 3, none⟩))] [] E (by kernel_rfl) trivial ?_
 clear E; intro a E
 refine h_store (g := g37) (off := 3) H 5 rfl E rfl rfl rfl rfl tbok rfl rfl rfl rfl rfl ?_
 clear E; intro w818 a hc819 H_ E
 replace H := H_; clear H_; try dsimp only [setn, addE, goneL] at H
 refine wpList_nil ?_
 refine th_n ?_
 refine wp_seq ?_
 refine wp_seq ?_
 refine wp_region_lit ?_
 refine vr tbok 1 [] [(0, .int .i64 r5), (5, .pointer (some ⟨g28, 0, none⟩)), (7, .slice A362 (List.length x377.2.2.1) c363), (8, .slice A366 (List.length x377.2.2.2) c367), (9, .pointer (some ⟨g37, 0, none⟩)), (17, .int .i64 0)] [] E (by kernel_rfl) trivial ?_
 clear E; intro a E
 refine wpList_nil ?_
 refine th_n ?_
 refine wp_block ?_
 obtain ⟨x1009, hL1010, hK1011⟩ := bind_inv hP
 clear hP
 refine loop_cut (fun i_ a w_ => (i_ = 6 ∧ ∃ (x1014 : Unit), Fr a 183 [(5, .pointer (some ⟨g28, 0, none⟩)), (9, .pointer (some ⟨g37, 0, none⟩))] ∧ Hp S Fa w0 w_ [.row true cNode 64 A357 c358 x377.1, .mp Try.prog 64 g29 (List.map (fun p_ => (ndV p_.1, (fun u_ : Int => .int .i64 u_) p_.2)) x377.2.1), .box g28 44 [.int .i64 r5, .slice A357 (List.length x377.1) c358, .map (some g29)], .row true cBool 4 A710 c711 x717.1, .row true (cInt .i64) 3 A714 c715 x717.2, .row true cNode 64 A812 c813 r798, .box g37 26 [.int .i64 r5, .slice A710 (List.length x717.1) c711, .slice A714 (List.length x717.2) c715, .slice A812 (List.length r798) c813]] ∧ x1009 = Sum.inl x1014)) ?_ ?_
 ·
  refine loopV (fun m1013 a w1012 => ∃ (i873 : Int), Fr a 183 [(0, .int .i64 r5), (5, .pointer (some ⟨g28, 0, none⟩)), (7, .slice A362 (List.length x377.2.2.1) c363), (8, .slice A366 (List.length x377.2.2.2) c367), (9, .pointer (some ⟨g37, 0, none⟩)), (17, .int .i64 i873)] ∧ Hp S Fa w0 w1012 [.row true cNode 64 A357 c358 x377.1, .mp Try.prog 64 g29 (List.map (fun p_ => (ndV p_.1, (fun u_ : Int => .int .i64 u_) p_.2)) x377.2.1), .box g28 44 [.int .i64 r5, .slice A357 (List.length x377.1) c358, .map (some g29)], .row true (cSl (cInt .i64)) 23 A362 c363 x377.2.2.1, .row true (cInt .i64) 3 A366 c367 x377.2.2.2, .row true cBool 4 A710 c711 x717.1, .row true (cInt .i64) 3 A714 c715 x717.2, .row true cNode 64 A812 c813 r798, .box g37 26 [.int .i64 r5, .slice A710 (List.length x717.1) c711, .slice A714 (List.length x717.2) c715, .slice A812 (List.length r798) c813]] ∧ law14_GuardBack_l6 N r5 x377 r798 m1013 i873 = some x1009) N ?_ ?_
  ·
   exact ⟨0, E.pick _ ⟨rfl, rfl, rfl, rfl, rfl, rfl, trivial⟩, H.sel [9, 10, 11, 3, 4, 6, 7, 8, 5] rfl, hL1010⟩
  clear E H hL1010; intro m1013 a w1012 hI_
  obtain ⟨i873, E, H, hP⟩ := hI_
  obtain ⟨m1008, rfl⟩ : ∃ q_, m1013 = q_ + 1 := by cases m1013 with | zero => rw [law14_GuardBack_l6] at hP; cases hP | succ q_ => exact ⟨q_, rfl⟩
  rw [law14_GuardBack_l6] at hP
  refine wp_seq ?_
  refine wp_seq ?_
  refine wp_region_lit ?_
  refine vr tbok 4 [] [(0, .int .i64 r5), (5, .pointer (some ⟨g28, 0, none⟩)), (7, .slice A362 (List.length x377.2.2.1) c363), (8, .slice A366 (List.length x377.2.2.2) c367), (9, .pointer (some ⟨g37, 0, none⟩)), (17, .int .i64 i873), (123, .bool (decide (i873 < (((List.length x377.2.2.2) : Nat) : Int))))] [] E (by kernel_rfl) trivial ?_
  clear E; intro a E
  refine wpList_nil ?_
  refine th_n ?_
  refine E.cases (t := 123) rfl (fun hb_ E_ => ?_) (fun hb_ E_ => ?_)
  ·
   replace E := E_; clear E_
   have h1015 : i873 < (((List.length x377.2.2.2) : Nat) : Int) := of_decide_eq_true hb_
   clear hb_; replace hP := ite_t h1015 hP
   refine c_true E rfl ?_
   refine wp_skip ?_
   refine th_n ?_
   refine wp_seq ?_
   refine wp_block ?_
   refine wp_seq ?_
   obtain ⟨g1016, hP⟩ := ask_inv hP
   obtain ⟨b1017, e_b1017⟩ := H.raddr 4 rfl (idx_pos g1016)
   subst e_b1017
   obtain ⟨r1019, h1020, hP⟩ := bind_inv hP
   have HR1034 := H
   refine dr_start (S := fun w_ => Chg (atL []) w1012 w_) (by kernel_rfl) ?_
   intro w1031 hc1032
   have HS1033 : Chg (atL []) w1012 w1031 := hc1032.mono (fun _ _ h_ => h_.elim)
   replace H := H.ext hc1032
   refine dr tbok (by kernel_rfl) [0, 1, 2, 3, 4, 5, 6] [.slice A812 (List.length r798) c813, .int .i64 (List.getD x377.2.2.2 (Int.toNat i873) 0)] [(0, .int .i64 r5), (5, .pointer (some ⟨g28, 0, none⟩)), (7, .slice A362 (List.length x377.2.2.1) c363), (8, .slice (some ⟨b1017, 0, none⟩) (List.length x377.2.2.2) c367), (9, .pointer (some ⟨g37, 0, none⟩)), (17, .int .i64 i873), (127, .int .i64 r5), (129, .slice A812 (List.length r798) c813), (133, .int .i64 (List.getD x377.2.2.2 (Int.toNat i873) 0))] (fun w_ => [World.cell? w_ ⟨g37, 3, none⟩ = some (.slice A812 (List.length r798) c813), 0 ≤ i873 ∧ i873 < (((List.length x377.2.2.2) : Nat) : Int), World.cell? w_ ⟨b1017, 0 + (Int.toNat i873) * 1, none⟩ = some (.int .i64 (List.getD x377.2.2.2 (Int.toNat i873) 0))]) 6 E (fun _ _ => by kernel_rfl) (fun w_ hS_ => ⟨(HR1034.boxk [] hS_ 8 rfl rfl).cell (j := 3) rfl, g1016, Rds.at1 (HR1034.rdk [] hS_ 4 rds_row rfl) 0 g1016⟩) (by kernel_rfl) HS1033 ?_
   clear E; intro a E
   refine wpAnyH_all (rs := [7]) (by kernel_rfl) (by simp) ?_
   refine all1 ?_
   refine wpOp_of_list rfl ?_
   obtain ⟨Fa1035, Hc1036, hb1037⟩ := H.call [] [(7, false)] rfl rfl trivial
   refine e_call E rfl rfl Try.func11 rfl rfl rfl (guard_Table_calls A812 c813 r5 r798 (List.getD x377.2.2.2 (Int.toNat i873) 0) (H.rcap 7 rfl) Hc1036 h1020) ?_
   rintro v1038 w1039 a ⟨A1042, c1043, rfl, HR1040⟩ E_
   replace E := E_ _ rfl; clear E_
   obtain ⟨H_, hc1041⟩ := hb1037 _ _ HR1040 rfl
   replace HS1033 := HS1033.ext (callS_ext hc1041)
   replace H := H_; clear H_; try dsimp only [setn, addE, goneL] at H
   refine wpList_nil ?_
   refine th_n ⟨HS1033, ?_⟩
   refine dr tbok (by kernel_rfl) [8, 9, 10, 11, 12] [] [(0, .int .i64 r5), (5, .pointer (some ⟨g28, 0, none⟩)), (7, .slice A362 (List.length x377.2.2.1) c363), (8, .slice (some ⟨b1017, 0, none⟩) (List.length x377.2.2.2) c367), (9, .pointer (some ⟨g37, 0, none⟩)), (17, .int .i64 i873), (18, .slice A1042 (List.length r1019.1) c1043), (19, .int .i64 r1019.2)] (fun w_ => []) 0 E (fun _ _ => by kernel_rfl) (fun w_ hS_ => trivial) (by kernel_rfl) HS1033 ?_
   clear E; intro a E
   refine dr_done (by kernel_rfl) ?_
   clear HS1033 HR1034
   refine th_n ?_
   refine wp_seq ?_
   refine wp_seq ?_
   obtain ⟨x1065, h1066, hK1067⟩ := bind_inv hP
   clear hP
   refine meet_cut (fun a w1069 => ∃ (x1068 : Bool), Fr a 183 [(0, .int .i64 r5), (5, .pointer (some ⟨g28, 0, none⟩)), (7, .slice A362 (List.length x377.2.2.1) c363), (8, .slice (some ⟨b1017, 0, none⟩) (List.length x377.2.2.2) c367), (9, .pointer (some ⟨g37, 0, none⟩)), (17, .int .i64 i873), (147, .bool x1068)] ∧ Hp S Fa w0 w1069 [.row true cNode 64 A357 c358 x377.1, .mp Try.prog 64 g29 (List.map (fun p_ => (ndV p_.1, (fun u_ : Int => .int .i64 u_) p_.2)) x377.2.1), .box g28 44 [.int .i64 r5, .slice A357 (List.length x377.1) c358, .map (some g29)], .row true (cSl (cInt .i64)) 23 A362 c363 x377.2.2.1, .row true (cInt .i64) 3 (some ⟨b1017, 0, none⟩) c367 x377.2.2.2, .row true cBool 4 A710 c711 x717.1, .row true (cInt .i64) 3 A714 c715 x717.2, .row true cNode 64 A812 c813 r798, .box g37 26 [.int .i64 r5, .slice A710 (List.length x717.1) c711, .slice A714 (List.length x717.2) c715, .slice A812 (List.length r798) c813]] ∧ x1065 = x1068) ?_ ?_
   ·
    have hP := h1066; clear h1066; rw [law14_GuardBack_j7] at hP
    refine wp_region_lit ?_
    refine vr tbok 3 [] [(0, .int .i64 r5), (5, .pointer (some ⟨g28, 0, none⟩)), (7, .slice A362 (List.length x377.2.2.1) c363), (8, .slice (some ⟨b1017, 0, none⟩) (List.length x377.2.2.2) c367), (9, .pointer (some ⟨g37, 0, none⟩)), (17, .int .i64 i873), (18, .slice A1042 (List.length r1019.1) c1043), (139, .bool ((r1019.2 : Int) != 0))] [] E (by kernel_rfl) trivial ?_
    clear E; intro a E
    refine E.cases (t := 139) rfl (fun hb_ E_ => ?_) (fun hb_ E_ => ?_)
    ·
     replace E := E_; clear E_
     have h1070 : ¬ ((r1019.2 : Int) = 0) := bne_iff_ne.1 hb_
     clear hb_; replace hP := ite_f h1070 hP
     refine vr tbok 8 [] [(0, .int .i64 r5), (5, .pointer (some ⟨g28, 0, none⟩)), (7, .slice A362 (List.length x377.2.2.1) c363), (8, .slice (some ⟨b1017, 0, none⟩) (List.length x377.2.2.2) c367), (9, .pointer (some ⟨g37, 0, none⟩)), (17, .int .i64 i873), (147, .bool true)] [] E (by kernel_rfl) trivial ?_
     clear E; intro a E
     refine wpList_nil ?_
     have hx_ := Option.some.inj hP
     exact .inl ⟨rfl, true, E.pick _ ⟨rfl, rfl, rfl, rfl, rfl, rfl, rfl, trivial⟩, H.sel [0, 1, 2, 3, 4, 5, 6, 7, 8] rfl, hx_.symm⟩
    replace E := E_; clear E_
    have h1071 : (r1019.2 : Int) = 0 := bne_eq_false_iff_eq.1 hb_
    clear hb_; replace hP := ite_t h1071 hP
    obtain ⟨g1072, hP⟩ := ask_inv hP
    obtain ⟨b1073, e_b1073⟩ := H.raddr 3 rfl (idx_pos g1072)
    subst e_b1073
    obtain ⟨A1075, c1076, hl1077, hk1078, H⟩ := H.subSl 3 true (el_row rfl) g1072
    try dsimp only [addE] at H
    refine vr tbok 5 [.slice A1075 (List.length (List.getD x377.2.2.1 (Int.toNat i873) [])) c1076] [(0, .int .i64 r5), (5, .pointer (some ⟨g28, 0, none⟩)), (7, .slice (some ⟨b1073, 0, none⟩) (List.length x377.2.2.1) c363), (8, .slice (some ⟨b1017, 0, none⟩) (List.length x377.2.2.2) c367), (9, .pointer (some ⟨g37, 0, none⟩)), (17, .int .i64 i873), (139, .bool false), (140, .slice A1042 (List.length r1019.1) c1043), (144, .slice A1075 (List.length (List.getD x377.2.2.1 (Int.toNat i873) [])) c1076)] [0 ≤ i873 ∧ i873 < (((List.length x377.2.2.1) : Nat) : Int), World.cell? w1039 ⟨b1073, 0 + (Int.toNat i873) * 1, none⟩ = some (.slice A1075 (List.length (List.getD x377.2.2.1 (Int.toNat i873) [])) c1076)] E (by kernel_rfl) ⟨g1072, hl1077⟩ ?_
    clear E; intro a E
    obtain ⟨r1080, h1081, hP⟩ := bind_inv hP
    obtain ⟨Fa1082, Hc1083, hb1084⟩ := H.call [] [(9, false), (10, false)] rfl rfl trivial
    refine e_call E rfl rfl Try.func13 rfl rfl rfl (kit_SameInts_calls A1042 c1043 A1075 c1076 r1019.1 (List.getD x377.2.2.1 (Int.toNat i873) []) (H.rcap 9 rfl) hk1078 Hc1083 h1081) ?_
    rintro v1085 w1086 a ⟨rfl, HR1087⟩ E_
    replace E := E_ _ rfl; clear E_
    obtain ⟨H_, hc1088⟩ := hb1084 _ _ HR1087 rfl
    replace H := H_; clear H_; try dsimp only [setn, addE, goneL] at H
    refine vr tbok 2 [] [(0, .int .i64 r5), (5, .pointer (some ⟨g28, 0, none⟩)), (7, .slice (some ⟨b1073, 0, none⟩) (List.length x377.2.2.1) c363), (8, .slice (some ⟨b1017, 0, none⟩) (List.length x377.2.2.2) c367), (9, .pointer (some ⟨g37, 0, none⟩)), (17, .int .i64 i873), (147, .bool (!r1080))] [] E (by kernel_rfl) trivial ?_
    clear E; intro a E
    refine wpList_nil ?_
    have hx_ := Option.some.inj hP
    exact .inl ⟨rfl, !r1080, E.pick _ ⟨rfl, rfl, rfl, rfl, rfl, rfl, rfl, trivial⟩, H.sel [0, 1, 2, 3, 4, 5, 6, 7, 8] rfl, hx_.symm⟩
   clear E H h1066; rintro a w1069 ⟨x1068, E, H, hx_⟩
   subst hx_; have hP := hK1067; clear hK1067
   refine th_n ?_
   refine E.cases (t := 147) rfl (fun hb_ E_ => ?_) (fun hb_ E_ => ?_)
   ·
    replace E := E_; clear E_
    have h1089 : x1065 = true := hb_
    clear hb_; replace hP := ite_t h1089 hP
    refine c_true E rfl ?_
    refine wp_seq ?_
    refine wp_region_lit ?_
    refine vr tbok 1 [] [(4, .bool false)] [] E (by kernel_rfl) trivial ?_
    clear E; intro a E
    refine wpList_nil ?_
    refine th_n ?_
    refine wp_ret ?_
    refine th_ret ?_
    refine bl_ret ?_
    refine th_ret ?_
    refine th_ret ?_
    refine .inr ⟨rfl, ?_⟩
    refine bl_ret ?_
    refine th_ret ?_
    have hx_ := Option.some.inj hP; subst hx_
    have hP : some (false) = some r := hK1011
    obtain rfl := Option.some.inj hP
    refine ret1 E rfl rfl ?_
    exact ⟨_, rfl, rfl, H.sel [] rfl⟩
   replace E := E_; clear E_
   have h1090 : ¬ (x1065 = true) := (ne_true_of_eq_false hb_)
   clear hb_; replace hP := ite_f h1090 hP
   refine c_false E rfl ?_
   refine wp_skip ?_
   refine th_n ?_
   refine wp_seq ?_
   refine wp_region_lit ?_
   refine vr tbok 1 [] [(0, .int .i64 r5), (5, .pointer (some ⟨g28, 0, none⟩)), (7, .slice A362 (List.length x377.2.2.1) c363), (8, .slice (some ⟨b1017, 0, none⟩) (List.length x377.2.2.2) c367), (9, .pointer (some ⟨g37, 0, none⟩)), (17, .int .i64 i873), (20, .int .i64 0)] [] E (by kernel_rfl) trivial ?_
   clear E; intro a E
   refine wpList_nil ?_
   refine th_n ?_
   refine wp_block ?_
   obtain ⟨x1172, hL1173, hK1174⟩ := bind_inv hP
   clear hP
   refine loop_cut (fun i_ a w_ => (i_ = 8 ∧ ∃ (x1177 : Unit), Fr a 183 [(0, .int .i64 r5), (5, .pointer (some ⟨g28, 0, none⟩)), (7, .slice A362 (List.length x377.2.2.1) c363), (8, .slice (some ⟨b1017, 0, none⟩) (List.length x377.2.2.2) c367), (9, .pointer (some ⟨g37, 0, none⟩)), (17, .int .i64 i873)] ∧ Hp S Fa w0 w_ [.row true cNode 64 A357 c358 x377.1, .mp Try.prog 64 g29 (List.map (fun p_ => (ndV p_.1, (fun u_ : Int => .int .i64 u_) p_.2)) x377.2.1), .box g28 44 [.int .i64 r5, .slice A357 (List.length x377.1) c358, .map (some g29)], .row true (cSl (cInt .i64)) 23 A362 c363 x377.2.2.1, .row true (cInt .i64) 3 (some ⟨b1017, 0, none⟩) c367 x377.2.2.2, .row true cBool 4 A710 c711 x717.1, .row true (cInt .i64) 3 A714 c715 x717.2, .row true cNode 64 A812 c813 r798, .box g37 26 [.int .i64 r5, .slice A710 (List.length x717.1) c711, .slice A714 (List.length x717.2) c715, .slice A812 (List.length r798) c813]] ∧ x1172 = Sum.inl x1177)) ?_ ?_
   ·
    refine loopV (fun m1176 a w1175 => ∃ (k1130 : Int), Fr a 183 [(0, .int .i64 r5), (5, .pointer (some ⟨g28, 0, none⟩)), (7, .slice A362 (List.length x377.2.2.1) c363), (8, .slice (some ⟨b1017, 0, none⟩) (List.length x377.2.2.2) c367), (9, .pointer (some ⟨g37, 0, none⟩)), (17, .int .i64 i873), (20, .int .i64 k1130)] ∧ Hp S Fa w0 w1175 [.row true cNode 64 A357 c358 x377.1, .mp Try.prog 64 g29 (List.map (fun p_ => (ndV p_.1, (fun u_ : Int => .int .i64 u_) p_.2)) x377.2.1), .box g28 44 [.int .i64 r5, .slice A357 (List.length x377.1) c358, .map (some g29)], .row true (cSl (cInt .i64)) 23 A362 c363 x377.2.2.1, .row true (cInt .i64) 3 (some ⟨b1017, 0, none⟩) c367 x377.2.2.2, .row true cBool 4 A710 c711 x717.1, .row true (cInt .i64) 3 A714 c715 x717.2, .row true cNode 64 A812 c813 r798, .box g37 26 [.int .i64 r5, .slice A710 (List.length x717.1) c711, .slice A714 (List.length x717.2) c715, .slice A812 (List.length r798) c813]] ∧ law14_GuardBack_l8 N x377 i873 m1176 k1130 = some x1172) N ?_ ?_
    ·
     exact ⟨0, E.pick _ ⟨rfl, rfl, rfl, rfl, rfl, rfl, rfl, trivial⟩, H.sel [0, 1, 2, 3, 4, 5, 6, 7, 8] rfl, hL1173⟩
    clear E H hL1173; intro m1176 a w1175 hI_
    obtain ⟨k1130, E, H, hP⟩ := hI_
    obtain ⟨m1171, rfl⟩ : ∃ q_, m1176 = q_ + 1 := by cases m1176 with | zero => rw [law14_GuardBack_l8] at hP; cases hP | succ q_ => exact ⟨q_, rfl⟩
    rw [law14_GuardBack_l8] at hP
    refine wp_seq ?_
    refine wp_seq ?_
    refine wp_region_lit ?_
    refine vr tbok 3 [] [(0, .int .i64 r5), (5, .pointer (some ⟨g28, 0, none⟩)), (7, .slice A362 (List.length x377.2.2.1) c363), (8, .slice (some ⟨b1017, 0, none⟩) (List.length x377.2.2.2) c367), (9, .pointer (some ⟨g37, 0, none⟩)), (17, .int .i64 i873), (20, .int .i64 k1130), (150, .bool (decide (k1130 < i873)))] [] E (by kernel_rfl) trivial ?_
    clear E; intro a E
    refine wpList_nil ?_
    refine th_n ?_
    refine E.cases (t := 150) rfl (fun hb_ E_ => ?_) (fun hb_ E_ => ?_)
    ·
     replace E := E_; clear E_
     have h1178 : k1130 < i873 := of_decide_eq_true hb_
     clear hb_; replace hP := ite_t h1178 hP
     refine c_true E rfl ?_
     refine wp_skip ?_
     refine th_n ?_
     refine wp_seq ?_
     refine wp_block ?_
     refine wp_seq ?_
     obtain ⟨g1179, hP⟩ := ask_inv hP
     obtain ⟨g1180, hP⟩ := ask_inv hP
     obtain ⟨b1181, e_b1181⟩ := H.raddr 3 rfl (idx_pos g1180)
     subst e_b1181
     obtain ⟨A1183, c1184, hl1185, hk1186, H⟩ := H.subSl 3 true (el_row rfl) g1180
     try dsimp only [addE] at H
     obtain ⟨g1188, hP⟩ := ask_inv hP
     obtain ⟨A1189, c1190, hl1191, hk1192, H⟩ := H.subSl 3 true (el_row rfl) g1188
     try dsimp only [addE] at H
     obtain ⟨r1194, h1195, hP⟩ := bind_inv hP
     have HR1206 := H
     refine dr_start (S := fun w_ => Chg (atL []) w1175 w_) (by kernel_rfl) ?_
     intro w1203 hc1204
     have HS1205 : Chg (atL []) w1175 w1203 := hc1204.mono (fun _ _ h_ => h_.elim)
     replace H := H.ext hc1204
     refine dr tbok (by kernel_rfl) [0, 1, 2, 3, 4, 5, 6, 7, 8, 9, 10, 11, 12, 13, 14, 15, 16] [.int .i64 (List.getD x377.2.2.2 (Int.toNat i873) 0), .int .i64 (List.getD x377.2.2.2 (Int.toNat k1130) 0), .slice A1183 (List.length (List.getD x377.2.2.1 (Int.toNat i873) [])) c1184, .slice A1189 (List.length (List.getD x377.2.2.1 (Int.toNat k1130) [])) c1190] [(0, .int .i64 r5), (5, .pointer (some ⟨g28, 0, none⟩)), (7, .slice (some ⟨b1181, 0, none⟩) (List.length x377.2.2.1) c363), (8, .slice (some ⟨b1017, 0, none⟩) (List.length x377.2.2.2) c367), (9, .pointer (some ⟨g37, 0, none⟩)), (17, .int .i64 i873), (20, .int .i64 k1130), (161, .bool (((List.getD x377.2.2.2 (Int.toNat i873) 0) : Int) == (List.getD x377.2.2.2 (Int.toNat k1130) 0))), (165, .slice A1183 (List.length (List.getD x377.2.2.1 (Int.toNat i873) [])) c1184), (169, .slice A1189 (List.length (List.getD x377.2.2.1 (Int.toNat k1130) [])) c1190)] (fun w_ => [0 ≤ i873 ∧ i873 < (((List.length x377.2.2.2) : Nat) : Int), World.cell? w_ ⟨b1017, 0 + (Int.toNat i873) * 1, none⟩ = some (.int .i64 (List.getD x377.2.2.2 (Int.toNat i873) 0)), 0 ≤ k1130 ∧ k1130 < (((List.length x377.2.2.2) : Nat) : Int), World.cell? w_ ⟨b1017, 0 + (Int.toNat k1130) * 1, none⟩ = some (.int .i64 (List.getD x377.2.2.2 (Int.toNat k1130) 0)), 0 ≤ i873 ∧ i873 < (((List.length x377.2.2.1) : Nat) : Int), World.cell? w_ ⟨b1181, 0 + (Int.toNat i873) * 1, none⟩ = some (.slice A1183 (List.length (List.getD x377.2.2.1 (Int.toNat i873) [])) c1184), 0 ≤ k1130 ∧ k1130 < (((List.length x377.2.2.1) : Nat) : Int), World.cell? w_ ⟨b1181, 0 + (Int.toNat k1130) * 1, none⟩ = some (.slice A1189 (List.length (List.getD x377.2.2.1 (Int.toNat k1130) [])) c1190)]) 2 E (fun _ _ => by kernel_rfl) (fun w_ hS_ => ⟨g1016, Rds.at1 (HR1206.rdk [] hS_ 4 rds_row rfl) 0 g1016, g1179, Rds.at1 (HR1206.rdk [] hS_ 4 rds_row rfl) 0 g1179, g1180, hS_.cell (hl1185) (HR1206.blk [] 3 rds_row (idx_pos g1180) rfl), g1188, hS_.cell (hl1191) (HR1206.blk [] 3 rds_row (idx_pos g1188) rfl)⟩) (by kernel_rfl) HS1205 ?_
     clear E; intro a E
     refine wpAnyH_all (rs := [17]) (by kernel_rfl) (by simp) ?_
     refine all1 ?_
     refine wpOp_of_list rfl ?_
     obtain ⟨Fa1207, Hc1208, hb1209⟩ := H.call [] [(9, false), (10, false)] rfl rfl trivial
     refine e_call E rfl rfl Try.func13 rfl rfl rfl (kit_SameInts_calls A1183 c1184 A1189 c1190 (List.getD x377.2.2.1 (Int.toNat i873) []) (List.getD x377.2.2.1 (Int.toNat k1130) []) hk1186 hk1192 Hc1208 h1195) ?_
     rintro v1210 w1211 a ⟨rfl, HR1212⟩ E_
     replace E := E_ _ rfl; clear E_
     obtain ⟨H_, hc1213⟩ := hb1209 _ _ HR1212 rfl
     replace HS1205 := HS1205.ext (callS_ext hc1213)
     replace H := H_; clear H_; try dsimp only [setn, addE, goneL] at H
     refine wpList_nil ?_
     refine th_n ⟨HS1205, ?_⟩
     refine dr tbok (by kernel_rfl) [18] [] [(0, .int .i64 r5), (5, .pointer (some ⟨g28, 0, none⟩)), (7, .slice (some ⟨b1181, 0, none⟩) (List.length x377.2.2.1) c363), (8, .slice (some ⟨b1017, 0, none⟩) (List.length x377.2.2.2) c367), (9, .pointer (some ⟨g37, 0, none⟩)), (17, .int .i64 i873), (20, .int .i64 k1130), (171, .bool (!((((List.getD x377.2.2.2 (Int.toNat i873) 0) : Int) == (List.getD x377.2.2.2 (Int.toNat k1130) 0)) == r1194)))] (fun w_ => []) 0 E (fun _ _ => by kernel_rfl) (fun w_ hS_ => trivial) (by kernel_rfl) HS1205 ?_
     clear E; intro a E
     refine dr_done (by kernel_rfl) ?_
     clear HS1205 HR1206
     refine th_n ?_
     refine E.cases (t := 171) rfl (fun hb_ E_ => ?_) (fun hb_ E_ => ?_)
     ·
      replace E := E_; clear E_
      have h1214 : ¬ ((((List.getD x377.2.2.2 (Int.toNat i873) 0) : Int) == (List.getD x377.2.2.2 (Int.toNat k1130) 0)) = r1194) := (by simpa using hb_)
      clear hb_; replace hP := ite_f h1214 hP
      refine c_true E rfl ?_
      refine wp_seq ?_
      refine wp_region_lit ?_
      refine vr tbok 1 [] [(4, .bool false)] [] E (by kernel_rfl) trivial ?_
      clear E; intro a E
      refine wpList_nil ?_
      refine th_n ?_
      refine wp_ret ?_
      refine bl_ret ?_
      refine th_ret ?_
      refine th_ret ?_
      refine .inr ⟨rfl, ?_⟩
      refine bl_ret ?_
      refine bl_ret ?_
      refine th_ret ?_
      refine th_ret ?_
      refine .inr ⟨rfl, ?_⟩
      refine bl_ret ?_
      refine th_ret ?_
      have hx_ := Option.some.inj hP; subst hx_
      have hP : some (Sum.inr false) = some x1009 := hK1174
      have hx_ := Option.some.inj hP; subst hx_
      have hP : some (false) = some r := hK1011
      obtain rfl := Option.some.inj hP
      refine ret1 E rfl rfl ?_
      exact ⟨_, rfl, rfl, H.sel [] rfl⟩
     replace E := E_; clear E_
     have h1215 : (((List.getD x377.2.2.2 (Int.toNat i873) 0) : Int) == (List.getD x377.2.2.2 (Int.toNat k1130) 0)) = r1194 := (by simpa using hb_)
     clear hb_; replace hP := ite_t h1215 hP
     refine c_false E rfl ?_
     refine wp_skip ?_
     refine bl_n ?_
     refine th_n ?_
     refine wp_region_lit ?_
     obtain ⟨g1216, hP⟩ := ask_inv hP
     refine vr tbok 3 [.int .i64 (k1130 + 1)] [(0, .int .i64 r5), (5, .pointer (some ⟨g28, 0, none⟩)), (7, .slice (some ⟨b1181, 0, none⟩) (List.length x377.2.2.1) c363), (8, .slice (some ⟨b1017, 0, none⟩) (List.length x377.2.2.2) c367), (9, .pointer (some ⟨g37, 0, none⟩)), (17, .int .i64 i873), (20, .int .i64 (k1130 + 1))] [IntKind.i64.wrap (k1130 + 1) = k1130 + 1] E (by kernel_rfl) (wrap_in g1216) ?_
     clear E; intro a E
     refine wpList_nil ?_
     exact th_n ⟨m1171, Nat.lt_succ_self _, k1130 + 1, E.pick _ ⟨rfl, rfl, rfl, rfl, rfl, rfl, rfl, trivial⟩, H.sel [0, 1, 2, 3, 4, 5, 6, 7, 8] rfl, hP⟩
    replace E := E_; clear E_
    have h1217 : ¬ (k1130 < i873) := of_decide_eq_false hb_
    clear hb_; replace hP := ite_f h1217 hP
    refine c_false E rfl ?_
    refine wp_exit ?_
    refine th_exit ?_
    have hx_ := Option.some.inj hP
    refine th_exit (.inl ⟨8, rfl, ?_⟩)
    exact ⟨rfl, (), E.pick _ ⟨rfl, rfl, rfl, rfl, rfl, rfl, trivial⟩, H.sel [0, 1, 2, 3, 4, 5, 6, 7, 8] rfl, hx_.symm⟩
   clear E H hL1173; intro i_ a w1175 hM_
   obtain ⟨rfl, x1177, E, H, hx_⟩ := hM_
   subst hx_; have hP := elim_l hK1174
   clear hK1174
   refine bl_hit ?_
   refine bl_n ?_
   refine th_n ?_
   refine wp_region_lit ?_
   obtain ⟨g1219, hP⟩ := ask_inv hP
   refine vr tbok 3 [.int .i64 (i873 + 1)] [(0, .int .i64 r5), (5, .pointer (some ⟨g28, 0, none⟩)), (7, .slice A362 (List.length x377.2.2.1) c363), (8, .slice (some ⟨b1017, 0, none⟩) (List.length x377.2.2.2) c367), (9, .pointer (some ⟨g37, 0, none⟩)), (17, .int .i64 (i873 + 1))] [IntKind.i64.wrap (i873 + 1) = i873 + 1] E (by kernel_rfl) (wrap_in g1219) ?_
   clear E; intro a E
   refine wpList_nil ?_
   exact th_n ⟨m1008, Nat.lt_succ_self _, i873 + 1, E.pick _ ⟨rfl, rfl, rfl, rfl, rfl, rfl, trivial⟩, H.sel [0, 1, 2, 3, 4, 5, 6, 7, 8] rfl, hP⟩
  replace E := E_; clear E_
  have h1220 : ¬ (i873 < (((List.length x377.2.2.2) : Nat) : Int)) := of_decide_eq_false hb_
  clear hb_; replace hP := ite_f h1220 hP
  refine c_false E rfl ?_
  refine wp_exit ?_
  refine th_exit ?_
  have hx_ := Option.some.inj hP
  refine th_exit (.inl ⟨6, rfl, ?_⟩)
  exact ⟨rfl, (), E.pick _ ⟨rfl, rfl, trivial⟩, H.sel [0, 1, 2, 5, 6, 7, 8] rfl, hx_.symm⟩
 clear E H hL1010; intro i_ a w1012 hM_
 obtain ⟨rfl, x1014, E, H, hx_⟩ := hM_
 subst hx_; have hP := elim_l hK1011
 clear hK1011
 refine bl_hit ?_
 refine th_n ?_
 refine wp_seq ?_
 obtain ⟨x1287, h1288, hK1289⟩ := bind_inv hP
 clear hP
 refine meet_cut (fun a w1291 => ∃ (x1290 : Bool), Fr a 183 [(4, .bool x1290)] ∧ Hp S Fa w0 w1291 [] ∧ x1287 = x1290) ?_ ?_
 ·
  have hP := h1288; clear h1288; rw [law14_GuardBack_j9] at hP
  obtain ⟨r1292, h1293, hP⟩ := bind_inv hP
  by_cases h1301 : (r1292 : Int) = 0
  ·
   replace hP := ite_t h1301 hP
   obtain ⟨r1302, h1303, hP⟩ := bind_inv hP
   have HR1322 := H
   refine dr_start (S := fun w_ => Chg (atL [.row true cNode 64 A357 c358 x377.1, .mp Try.prog 64 g29 (List.map (fun p_ => (ndV p_.1, (fun u_ : Int => .int .i64 u_) p_.2)) x377.2.1), .box g28 44 [.int .i64 r5, .slice A357 (List.length x377.1) c358, .map (some g29)]]) w1012 w_) (by kernel_rfl) ?_
   intro w1319 hc1320
   have HS1321 : Chg (atL [.row true cNode 64 A357 c358 x377.1, .mp Try.prog 64 g29 (List.map (fun p_ => (ndV p_.1, (fun u_ : Int => .int .i64 u_) p_.2)) x377.2.1), .box g28 44 [.int .i64 r5, .slice A357 (List.length x377.1) c358, .map (some g29)]]) w1012 w1319 := hc1320.mono (fun _ _ h_ => h_.elim)
   replace H := H.ext hc1320
   refine dr tbok (by kernel_rfl) [0] [.agg #[.int .i64 r5, .slice A710 (List.length x717.1) c711, .slice A714 (List.length x717.2) c715, .slice A812 (List.length r798) c813]] [(5, .pointer (some ⟨g28, 0, none⟩)), (9, .pointer (some ⟨g37, 0, none⟩)), (172, .agg #[.int .i64 r5, .slice A710 (List.length x717.1) c711, .slice A714 (List.length x717.2) c715, .slice A812 (List.length r798) c813])] (fun w_ => [cellsAt w_ g37 (0) [.int .i64 r5, .slice A710 (List.length x717.1) c711, .slice A714 (List.length x717.2) c715, .slice A812 (List.length r798) c813]]) 11 E (fun _ _ => by kernel_rfl) (fun w_ hS_ => ((HR1322.boxk [0, 1, 2] hS_ 6 rfl rfl).sub 0 _ rfl)) (by kernel_rfl) HS1321 ?_
   clear E; intro a E
   refine wpAnyH_all (rs := [1]) (by kernel_rfl) (by simp) ?_
   refine all1 ?_
   refine wpOp_of_list rfl ?_
   obtain ⟨Fa1323, Hc1324, hb1325⟩ := H.call [] [(3, false), (4, false), (5, false)] rfl rfl trivial
   refine e_call E rfl rfl Try.func14 rfl rfl rfl (guard_Check_calls A710 c711 A714 c715 A812 c813 r5 x717.1 x717.2 r798 (H.rcap 3 rfl) (H.rcap 4 rfl) (H.rcap 5 rfl) Hc1324 h1293) ?_
   rintro v1326 w1327 a ⟨rfl, HR1328⟩ E_
   replace E := E_ _ rfl; clear E_
   obtain ⟨H_, hc1329⟩ := hb1325 _ _ HR1328 rfl
   replace HS1321 := HS1321.ext (callS_ext hc1329)
   replace H := H_; clear H_; try dsimp only [setn, addE, goneL] at H
   refine wpList_nil ?_
   refine th_n ⟨HS1321, ?_⟩
   refine dr tbok (by kernel_rfl) [2, 3] [] [(5, .pointer (some ⟨g28, 0, none⟩)), (9, .pointer (some ⟨g37, 0, none⟩)), (175, .bool ((r1292 : Int) == 0))] (fun w_ => []) 8 E (fun _ _ => by kernel_rfl) (fun w_ hS_ => trivial) (by kernel_rfl) HS1321 ?_
   clear E; intro a E
   replace E := E.same (t := 175) (u := .bool true) rfl (congrArg Value.bool (beq_iff_eq.2 h1301))
   refine dr tbok (by kernel_rfl) [4, 6, 7, 8] [.slice A812 (List.length r798) c813] [(175, .bool true), (176, .pointer (some ⟨g28, 0, none⟩)), (180, .int .i64 (((List.length r798) : Nat) : Int))] (fun w_ => [World.cell? w_ ⟨g37, 3, none⟩ = some (.slice A812 (List.length r798) c813)]) 4 E (fun _ _ => by kernel_rfl) (fun w_ hS_ => ((HR1322.boxk [0, 1, 2] hS_ 6 rfl rfl).cell (j := 3) rfl)) (by kernel_rfl) HS1321 ?_
   clear E; intro a E
   refine wpAnyH_all (rs := [5]) (by kernel_rfl) (by simp) ?_
   refine all1 ?_
   refine wpOp_of_list rfl ?_
   obtain ⟨Fa1330, Hc1331, hb1332⟩ := H.call [2, 0, 1] [] rfl rfl ⟨flat_plain, trivial⟩
   refine e_call E rfl rfl Try.func19 rfl rfl rfl (guard_Store_Len_calls g28 A357 c358 g29 r5 x377.1 x377.2.1  Hc1331 h1303) ?_
   intro v1338 w1337 a hR1339 E_
   obtain ⟨x_, hr_, rfl, HR1341⟩ := hR1339
   subst hr_
   replace E := E_ _ rfl; clear E_
   obtain ⟨H_, hc1340⟩ := hb1332 _ _ HR1341 rfl
   replace HS1321 := HS1321.trans hc1340 (fun k_ hk_ h_ => h_.elim (fun h_ => by have hs_ := HS1321.size; exfalso; omega) (fun h_ => h_.elim (fun h_ => (fun _ _ h_ => Or.inr (Or.inr (Or.inl h_))) k_ hk_ h_) (fun h_ => h_.elim (fun h_ => (fun _ _ h_ => Or.inl h_) k_ hk_ h_) (fun h_ => h_.elim (fun h_ => (fun _ _ h_ => Or.inr (Or.inl h_)) k_ hk_ h_) (fun h_ => h_.elim)))))
   replace H := H_; clear H_; try dsimp only [setn, addE, goneL] at H
   refine wpList_nil ?_
   refine th_n ⟨HS1321, ?_⟩
   refine dr tbok (by kernel_rfl) [9, 10, 11] [] [(4, .bool ((r1302 : Int) == (((List.length r798) : Nat) : Int))), (175, .bool true)] (fun w_ => []) 0 E (fun _ _ => by kernel_rfl) (fun w_ hS_ => trivial) (by kernel_rfl) HS1321 ?_
   clear E; intro a E
   refine dr_done (by kernel_rfl) ?_
   clear HS1321 HR1322
   have hx_ := Option.some.inj hP
   exact .inl ⟨rfl, (r1302 : Int) == (((List.length r798) : Nat) : Int), E.pick _ ⟨rfl, trivial⟩, H.sel [] rfl, hx_.symm⟩
  replace hP := ite_f h1301 hP
  have HR1348 := H
  refine dr_start (S := fun w_ => Chg (atL []) w1012 w_) (by kernel_rfl) ?_
  intro w1345 hc1346
  have HS1347 : Chg (atL []) w1012 w1345 := hc1346.mono (fun _ _ h_ => h_.elim)
  replace H := H.ext hc1346
  refine dr tbok (by kernel_rfl) [0] [.agg #[.int .i64 r5, .slice A710 (List.length x717.1) c711, .slice A714 (List.length x717.2) c715, .slice A812 (List.length r798) c813]] [(5, .pointer (some ⟨g28, 0, none⟩)), (9, .pointer (some ⟨g37, 0, none⟩)), (172, .agg #[.int .i64 r5, .slice A710 (List.length x717.1) c711, .slice A714 (List.length x717.2) c715, .slice A812 (List.length r798) c813])] (fun w_ => [cellsAt w_ g37 (0) [.int .i64 r5, .slice A710 (List.length x717.1) c711, .slice A714 (List.length x717.2) c715, .slice A812 (List.length r798) c813]]) 11 E (fun _ _ => by kernel_rfl) (fun w_ hS_ => ((HR1348.boxk [] hS_ 6 rfl rfl).sub 0 _ rfl)) (by kernel_rfl) HS1347 ?_
  clear E; intro a E
  refine wpAnyH_all (rs := [1]) (by kernel_rfl) (by simp) ?_
  refine all1 ?_
  refine wpOp_of_list rfl ?_
  obtain ⟨Fa1349, Hc1350, hb1351⟩ := H.call [] [(3, false), (4, false), (5, false)] rfl rfl trivial
  refine e_call E rfl rfl Try.func14 rfl rfl rfl (guard_Check_calls A710 c711 A714 c715 A812 c813 r5 x717.1 x717.2 r798 (H.rcap 3 rfl) (H.rcap 4 rfl) (H.rcap 5 rfl) Hc1350 h1293) ?_
  rintro v1352 w1353 a ⟨rfl, HR1354⟩ E_
  replace E := E_ _ rfl; clear E_
  obtain ⟨H_, hc1355⟩ := hb1351 _ _ HR1354 rfl
  replace HS1347 := HS1347.ext (callS_ext hc1355)
  replace H := H_; clear H_; try dsimp only [setn, addE, goneL] at H
  refine wpList_nil ?_
  refine th_n ⟨HS1347, ?_⟩
  refine dr tbok (by kernel_rfl) [2, 3] [] [(5, .pointer (some ⟨g28, 0, none⟩)), (9, .pointer (some ⟨g37, 0, none⟩)), (175, .bool ((r1292 : Int) == 0))] (fun w_ => []) 8 E (fun _ _ => by kernel_rfl) (fun w_ hS_ => trivial) (by kernel_rfl) HS1347 ?_
  clear E; intro a E
  replace E := E.same (t := 175) (u := .bool false) rfl (congrArg Value.bool (beq_eq_false_iff_ne.2 h1301))
  refine dr tbok (by kernel_rfl) [4, 5, 6, 7, 8, 9, 10, 11] [] [(4, .bool false), (175, .bool false)] (fun w_ => []) 0 E (fun _ _ => by kernel_rfl) (fun w_ hS_ => trivial) (by kernel_rfl) HS1347 ?_
  clear E; intro a E
  refine dr_done (by kernel_rfl) ?_
  clear HS1347 HR1348
  have hx_ := Option.some.inj hP
  exact .inl ⟨rfl, false, E.pick _ ⟨rfl, trivial⟩, H.sel [] rfl, hx_.symm⟩
 clear E H h1288; rintro a w1291 ⟨x1290, E, H, hx_⟩
 subst hx_; have hP := hK1289; clear hK1289
 refine th_n ?_
 refine wp_ret ?_
 obtain rfl := Option.some.inj hP
 refine ret1 E rfl rfl ?_
 exact ⟨_, rfl, rfl, H.sel [] rfl⟩

end Go.V
