/- Plain functions, and the calls that give them. -/
import Derived.Test.YthlbijcgnekcbaaA3
set_option linter.all false
set_option linter.unusedVariables false
set_option linter.unnecessarySimpa false
set_option linter.unusedSimpArgs false
namespace Go.V
open Go Go.Proofs
/-! (*rejoinder/guard.Store).Len -/
def guard_Store_Len (N : Nat) (sn : Int) (snodes : List Nd) (sat : List (Nd × Int)) : Option Int :=
  Option.bind (guard_Store_none N sn snodes sat) fun r109 =>
  if r109 = true then
    some 0
  else
    some (((List.length snodes) : Nat) : Int)
set_option maxRecDepth 100000 in
set_option maxHeartbeats 4000000 in
theorem guard_Store_Len_calls {N : Nat} {S Fa : Nat → Prop} {w0 : World} {r : Int} (g1 : Nat) (A3 : Option Addr) (c4 : Nat) (g6 : Nat) (sn : Int) (snodes : List Nd) (sat : List (Nd × Int)) (H : Hp S Fa w0 w0 [.box g1 44 [.int .i64 sn, .slice A3 (List.length snodes) c4, .map (some g6)], .row true cNode 64 A3 c4 snodes, .mp Try.prog 64 g6 (List.map (fun p_ => (ndV p_.1, (fun u_ : Int => .int .i64 u_) p_.2)) sat)]) (hP : guard_Store_Len N sn snodes sat = some r) :
    Calls Try.prog 19 #[.pointer (some ⟨g1, 0, none⟩)] w0 fun e w' => ∃ v, e = .returned v ∧ (∃ (x_ : Int), r = x_ ∧ v = .int .i64 x_ ∧ Hp S Fa w0 w' [.row true cNode 64 A3 c4 snodes, .mp Try.prog 64 g6 (List.map (fun p_ => (ndV p_.1, (fun u_ : Int => .int .i64 u_) p_.2)) sat), .box g1 44 [.int .i64 sn, .slice A3 (List.length snodes) c4, .map (some g6)]]) := by
 refine enterV (n := 10) Try.func19 rfl rfl rfl ?_
 intro a E
 replace E := E.pick [(0, .pointer (some ⟨g1, 0, none⟩))] ⟨rfl, trivial⟩
 rw [guard_Store_Len] at hP
 refine wp_seq ?_
 refine wp_region_lit ?_
 refine vr tbok 1 [] [(0, .pointer (some ⟨g1, 0, none⟩))] [] E (by kernel_rfl) trivial ?_
 clear E; intro a E
 refine wpList_nil ?_
 refine th_n ?_
 refine wp_seq ?_
 refine wp_seq ?_
 refine wp_region_lit ?_
 refine vr tbok 1 [] [(0, .pointer (some ⟨g1, 0, none⟩)), (3, .pointer (some ⟨g1, 0, none⟩))] [] E (by kernel_rfl) trivial ?_
 clear E; intro a E
 obtain ⟨r109, h110, hP⟩ := bind_inv hP
 obtain ⟨Fa111, Hc112, hb113⟩ := H.call [0, 1, 2] [] rfl rfl ⟨flat_plain, trivial⟩
 refine e_call E rfl rfl Try.func31 rfl rfl rfl (guard_Store_none_calls g1 A3 c4 g6 sn snodes sat  Hc112 h110) ?_
 intro v119 w118 a hR120 E_
 obtain ⟨x_, hr_, rfl, HR122⟩ := hR120
 subst hr_
 replace E := E_ _ rfl; clear E_
 obtain ⟨H_, hc121⟩ := hb113 _ _ HR122 rfl
 replace H := H_; clear H_; try dsimp only [setn, addE, goneL] at H
 refine wpList_nil ?_
 refine th_n ?_
 refine E.cases (t := 4) rfl (fun hb_ E_ => ?_) (fun hb_ E_ => ?_)
 ·
  replace E := E_; clear E_
  have h126 : r109 = true := hb_
  clear hb_; replace hP := ite_t h126 hP
  refine c_true E rfl ?_
  refine wp_seq ?_
  refine wp_region_lit ?_
  refine vr tbok 1 [] [(2, .int .i64 0)] [] E (by kernel_rfl) trivial ?_
  clear E; intro a E
  refine wpList_nil ?_
  refine th_n ?_
  refine wp_ret ?_
  refine th_ret ?_
  obtain rfl := Option.some.inj hP
  refine ret1 E rfl rfl ?_
  exact ⟨_, rfl, ⟨0, rfl, rfl, H.sel [3, 4, 5] rfl⟩⟩
 ·
  replace E := E_; clear E_
  have h127 : ¬ (r109 = true) := (ne_true_of_eq_false hb_)
  clear hb_; replace hP := ite_f h127 hP
  refine c_false E rfl ?_
  refine wp_skip ?_
  refine th_n ?_
  refine wp_seq ?_
  refine wp_region_lit ?_
  refine vr tbok 6 [.slice A3 (List.length snodes) c4] [(2, .int .i64 (((List.length snodes) : Nat) : Int))] [World.cell? w118 ⟨g1, 1, none⟩ = some (.slice A3 (List.length snodes) c4)] E (by kernel_rfl) ((H.box 5 rfl).cell (j := 1) rfl) ?_
  clear E; intro a E
  refine wpList_nil ?_
  refine th_n ?_
  refine wp_ret ?_
  obtain rfl := Option.some.inj hP
  refine ret1 E rfl rfl ?_
  exact ⟨_, rfl, ⟨(((List.length snodes) : Nat) : Int), rfl, rfl, H.sel [3, 4, 5] rfl⟩⟩

/-! rejoinder/rejoinderlaw14.GuardBack -/
def law14_GuardBack_l1 (N : Nat) (lists : List (List Int)) (r5 : Int) (i242 : Int) : Nat → (List Int) → Int → Option (List Int)
  | 0, _, _ => none
  | m592 + 1, l520, k523 =>
    ask (0 ≤ r5) <|
    if k523 < (shlV .i64 1 r5) then
      ask (idx i242 (List.length lists)) <|
      if k523 < (((List.length (List.getD lists (Int.toNat i242) [])) : Nat) : Int) then
        ask (idx k523 (List.length (List.getD lists (Int.toNat i242) []))) <|
        Option.bind (kit_Pick N (List.getD (List.getD lists (Int.toNat i242) []) (Int.toNat k523) 0) 12) fun r619 =>
        ask (List.length l520 + List.length ([r619] : List Int) ≤ 1000000000) <|
        ask (in64 (k523 + 1)) <|
        law14_GuardBack_l1 N lists r5 i242 m592 (l520 ++ ([r619] : List Int)) (k523 + 1)
      else
        Option.bind (kit_Pick N k523 12) fun r641 =>
        ask (List.length l520 + List.length ([r641] : List Int) ≤ 1000000000) <|
        ask (in64 (k523 + 1)) <|
        law14_GuardBack_l1 N lists r5 i242 m592 (l520 ++ ([r641] : List Int)) (k523 + 1)
    else
      some l520
def law14_GuardBack_l0 (N : Nat) (lists : List (List Int)) (r5 : Int) : Nat → (List Nd) → (List (Nd × Int)) → (List (List Int)) → (List Int) → Int → Option (((List Nd) × (List (Nd × Int)) × (List (List Int)) × (List Int)) ⊕ Bool)
  | 0, _, _, _, _, _ => none
  | m444 + 1, s230, s233, kept235, refs239, i242 =>
    if i242 < (((List.length lists) : Nat) : Int) then
      if i242 < 12 then
        Option.bind (law14_GuardBack_l1 N lists r5 i242 N [] 0) fun x593 =>
        Option.bind (guard_Store_Add N r5 s230 s233 x593) fun r663 =>
        if (r663.2.1 : Int) = 0 then
          ask (List.length kept235 + List.length ([x593] : List (List Int)) ≤ 1000000000) <|
          ask (List.length refs239 + List.length ([r663.1] : List Int) ≤ 1000000000) <|
          ask (in64 (i242 + 1)) <|
          law14_GuardBack_l0 N lists r5 m444 r663.2.2.1 r663.2.2.2 (kept235 ++ ([x593] : List (List Int))) (refs239 ++ ([r663.1] : List Int)) (i242 + 1)
        else
          some (Sum.inr false)
      else
        some (Sum.inl (s230, s233, kept235, refs239))
    else
      some (Sum.inl (s230, s233, kept235, refs239))
def law14_GuardBack_l2 (N : Nat) (x453 : (List Nd) × (List (Nd × Int)) × (List (List Int)) × (List Int)) : Nat → (List Bool) → (List Int) → Int → Option ((List Bool) × (List Int))
  | 0, _, _, _ => none
  | m824 + 1, a758, a762, i765 =>
    if i765 < 12 then
      ask (List.length a758 + List.length ([(Int.tmod i765 2 : Int) == 0] : List Bool) ≤ 1000000000) <|
      ask (List.length a762 + List.length ([-1] : List Int) ≤ 1000000000) <|
      if i765 < (((List.length x453.2.2.2) : Nat) : Int) then
        ask (idx i765 (List.length x453.2.2.2)) <|
        ask (idx i765 (List.length (a762 ++ ([-1] : List Int)))) <|
        ask (in64 (i765 + 1)) <|
        law14_GuardBack_l2 N x453 m824 (a758 ++ ([(Int.tmod i765 2 : Int) == 0] : List Bool)) (List.set (a762 ++ ([-1] : List Int)) (Int.toNat i765) (List.getD x453.2.2.2 (Int.toNat i765) 0)) (i765 + 1)
      else
        ask (in64 (i765 + 1)) <|
        law14_GuardBack_l2 N x453 m824 (a758 ++ ([(Int.tmod i765 2 : Int) == 0] : List Bool)) (a762 ++ ([-1] : List Int)) (i765 + 1)
    else
      some (a758, a762)
def law14_GuardBack_l4 (N : Nat) (x453 : (List Nd) × (List (Nd × Int)) × (List (List Int)) × (List Int)) (i955 : Int) : Nat → Int → Option (Unit ⊕ Bool)
  | 0, _ => none
  | m1215 + 1, k1177 =>
    if k1177 < i955 then
      ask (idx k1177 (List.length x453.2.2.2)) <|
      ask (idx k1177 (List.length x453.2.2.1)) <|
      Option.bind (kit_SameInts N (List.getD x453.2.2.1 (Int.toNat i955) []) (List.getD x453.2.2.1 (Int.toNat k1177) [])) fun r1235 =>
      if (((List.getD x453.2.2.2 (Int.toNat i955) 0) : Int) == (List.getD x453.2.2.2 (Int.toNat k1177) 0)) = r1235 then
        ask (in64 (k1177 + 1)) <|
        law14_GuardBack_l4 N x453 i955 m1215 (k1177 + 1)
      else
        some (Sum.inr false)
    else
      some (Sum.inl ())
def law14_GuardBack_l3 (N : Nat) (r5 : Int) (x453 : (List Nd) × (List (Nd × Int)) × (List (List Int)) × (List Int)) (r881 : List Nd) : Nat → Int → Option (Unit ⊕ Bool)
  | 0, _ => none
  | m1083 + 1, i955 =>
    if i955 < (((List.length x453.2.2.2) : Nat) : Int) then
      ask (idx i955 (List.length x453.2.2.2)) <|
      Option.bind (guard_Table N r5 r881 (List.getD x453.2.2.2 (Int.toNat i955) 0)) fun r1094 =>
      if (r1094.2 : Int) = 0 then
        ask (idx i955 (List.length x453.2.2.1)) <|
        Option.bind (kit_SameInts N r1094.1 (List.getD x453.2.2.1 (Int.toNat i955) [])) fun r1130 =>
        if r1130 = true then
          Option.bind (law14_GuardBack_l4 N x453 i955 N 0) fun x1216 =>
          Sum.elim (fun x1221 =>
            ask (in64 (i955 + 1)) <|
            law14_GuardBack_l3 N r5 x453 r881 m1083 (i955 + 1))
           (fun x1259 =>
            some (Sum.inr x1259)) x1216
        else
          some (Sum.inr false)
      else
        some (Sum.inr false)
    else
      some (Sum.inl ())
def law14_GuardBack (N : Nat) (n : Int) (lists : List (List Int)) : Option Bool :=
  Option.bind (kit_Pick N n 6) fun r5 =>
  Option.bind (guard_New N r5) fun r14 =>
  Sum.elim (fun x31 =>
    some false)
   (fun x32 =>
    if (x32 : Int) = 0 then
      Option.bind (law14_GuardBack_l0 N lists r5 N [] ([] : List (Nd × Int)) [] [] 0) fun x445 =>
      Sum.elim (fun x453 =>
        Option.bind (law14_GuardBack_l2 N x453 N [] [] 0) fun x825 =>
        Option.bind (guard_Store_Nodes N r5 x453.1 x453.2.1) fun r881 =>
        Option.bind (law14_GuardBack_l3 N r5 x453 r881 N 0) fun x1084 =>
        Sum.elim (fun x1089 =>
          Option.bind (guard_Check N r5 x825.1 x825.2 r881) fun r1263 =>
          if (r1263 : Int) = 0 then
            Option.bind (guard_Store_Len N r5 x453.1 x453.2.1) fun r1273 =>
            some ((r1273 : Int) == (((List.length r881) : Nat) : Int))
          else
            some false)
         (fun x1262 =>
          some x1262) x1084)
       (fun x710 =>
        some x710) x445
    else
      some false) r14
set_option maxRecDepth 100000 in
set_option maxHeartbeats 4000000 in
theorem law14_GuardBack_calls {N : Nat} {S Fa : Nat → Prop} {w0 : World} {r : Bool} (A1 : Option Addr) (c2 : Nat) (n : Int) (lists : List (List Int)) (hk3 : List.length lists ≤ c2) (H : Hp S Fa w0 w0 [.ro false (cSl (cInt .i64)) A1 lists]) (hP : law14_GuardBack N n lists = some r) :
    Calls Try.prog 6 #[.int .i64 n, .slice A1 (List.length lists) c2] w0 fun e w' => ∃ v, e = .returned v ∧ v = .bool r ∧ Hp S Fa w0 w' [] := by
 refine enterV (n := 183) Try.func6 rfl rfl rfl ?_
 intro a E
 replace E := E.pick [(0, .int .i64 n), (1, .slice A1 (List.length lists) c2)] ⟨rfl, rfl, trivial⟩
 rw [law14_GuardBack] at hP
 refine wp_seq ?_
 refine wp_region_lit ?_
 refine vr tbok 1 [] [(0, .int .i64 n), (1, .slice A1 (List.length lists) c2)] [] E (by kernel_rfl) trivial ?_
 clear E; intro a E
 refine wpList_nil ?_
 refine th_n ?_
 refine wp_seq ?_
 refine wp_region_lit ?_
 refine vr tbok 1 [] [(1, .slice A1 (List.length lists) c2), (21, .int .i64 n)] [] E (by kernel_rfl) trivial ?_
 clear E; intro a E
 obtain ⟨r5, h6, hP⟩ := bind_inv hP
 obtain ⟨Fa7, Hc8, hb9⟩ := H.call [] [] rfl rfl trivial
 refine e_call E rfl rfl Try.func26 rfl rfl rfl (kit_Pick_calls  n 6  Hc8 h6) ?_
 rintro v10 w11 a ⟨rfl, HR12⟩ E_
 replace E := E_ _ rfl; clear E_
 obtain ⟨H_, hc13⟩ := hb9 _ _ HR12 rfl
 replace H := H_; clear H_; try dsimp only [setn, addE, goneL] at H
 refine vr tbok 1 [] [(0, .int .i64 r5), (1, .slice A1 (List.length lists) c2)] [] E (by kernel_rfl) trivial ?_
 clear E; intro a E
 refine wpList_nil ?_
 refine th_n ?_
 refine wp_seq ?_
 refine wp_region_lit ?_
 refine vr tbok 1 [] [(0, .int .i64 r5), (1, .slice A1 (List.length lists) c2), (24, .int .i64 r5)] [] E (by kernel_rfl) trivial ?_
 clear E; intro a E
 obtain ⟨r14, h15, hP⟩ := bind_inv hP
 obtain ⟨Fa16, Hc17, hb18⟩ := H.call [] [] rfl rfl trivial
 refine e_call E rfl rfl Try.func20 rfl rfl rfl (guard_New_calls  r5  Hc17 h15) ?_
 intro v24 w23 a hR25 E_
 rcases hR25 with ⟨x_, hr_, rfl, HR27⟩ | ⟨x_, g28, g29, hr_, rfl, HR30⟩
 ·
  subst hr_; have hP := elim_l hP
  obtain ⟨x31, hxx_⟩ : ∃ y_, y_ = x_ := ⟨_, rfl⟩; subst hxx_
  replace E := E_ _ rfl; clear E_
  obtain ⟨H_, hc26⟩ := hb18 _ _ HR27 rfl
  replace H := H_; clear H_; try dsimp only [setn, addE, goneL] at H
  refine vr tbok 5 [] [(0, .int .i64 r5), (1, .slice A1 (List.length lists) c2), (5, .pointer none), (6, .int .i64 x31)] [] E (by kernel_rfl) trivial ?_
  clear E; intro a E
  refine wpList_nil ?_
  refine th_n ?_
  refine wp_seq ?_
  refine wp_seq ?_
  refine wp_region_lit ?_
  refine vr tbok 6 [] [(0, .int .i64 r5), (1, .slice A1 (List.length lists) c2), (5, .pointer none), (33, .bool true)] [] E (by kernel_rfl) trivial ?_
  clear E; intro a E
  refine wpList_nil ?_
  refine th_n ?_
  refine c_true E rfl ?_
  refine wp_seq ?_
  refine wp_region_lit ?_
  refine vr tbok 1 [] [(4, .bool false)] [] E (by kernel_rfl) trivial ?_
  clear E; intro a E
  refine wpList_nil ?_
  refine th_n ?_
  refine wp_ret ?_
  refine th_ret ?_
  obtain rfl := Option.some.inj hP
  refine ret1 E rfl rfl ?_
  exact ⟨_, rfl, rfl, H.sel [] rfl⟩
 ·
  subst hr_; have hP := (elim_r hP)
  obtain ⟨x32, hxx_⟩ : ∃ y_, y_ = x_ := ⟨_, rfl⟩; subst hxx_
  replace E := E_ _ rfl; clear E_
  obtain ⟨H_, hc26⟩ := hb18 _ _ HR30 rfl
  replace H := H_; clear H_; try dsimp only [setn, addE, goneL] at H
  refine vr tbok 5 [] [(0, .int .i64 r5), (1, .slice A1 (List.length lists) c2), (5, .pointer (some ⟨g28, 0, none⟩)), (6, .int .i64 x32)] [] E (by kernel_rfl) trivial ?_
  clear E; intro a E
  refine wpList_nil ?_
  refine th_n ?_
  refine wp_seq ?_
  refine wp_seq ?_
  refine wp_region_lit ?_
  refine vr tbok 6 [] [(0, .int .i64 r5), (1, .slice A1 (List.length lists) c2), (5, .pointer (some ⟨g28, 0, none⟩)), (33, .bool ((x32 : Int) != 0))] [] E (by kernel_rfl) trivial ?_
  clear E; intro a E
  refine wpList_nil ?_
  refine th_n ?_
  refine E.cases (t := 33) rfl (fun hb_ E_ => ?_) (fun hb_ E_ => ?_)
  ·
   replace E := E_; clear E_
   have h35 : ¬ ((x32 : Int) = 0) := bne_iff_ne.1 hb_
   clear hb_; replace hP := ite_f h35 hP
   refine c_true E rfl ?_
   refine wp_seq ?_
   refine wp_region_lit ?_
   refine vr tbok 1 [] [(4, .bool false)] [] E (by kernel_rfl) trivial ?_
   clear E; intro a E
   refine wpList_nil ?_
   refine th_n ?_
   refine wp_ret ?_
   refine th_ret ?_
   obtain rfl := Option.some.inj hP
   refine ret1 E rfl rfl ?_
   exact ⟨_, rfl, rfl, H.sel [] rfl⟩
  ·
   replace E := E_; clear E_
   have h36 : (x32 : Int) = 0 := bne_eq_false_iff_eq.1 hb_
   clear hb_; replace hP := ite_t h36 hP
   refine c_false E rfl ?_
   refine wp_skip ?_
   refine th_n ?_
   refine wp_seq ?_
   refine wp_region_lit ?_
   refine vr tbok 1 [] [(0, .int .i64 r5), (1, .slice A1 (List.length lists) c2), (5, .pointer (some ⟨g28, 0, none⟩)), (7, .slice none 0 0)] [] E (by kernel_rfl) trivial ?_
   clear E; intro a E
   refine wpList_nil ?_
   refine th_n ?_
   refine wp_seq ?_
   refine wp_region_lit ?_
   refine vr tbok 1 [] [(0, .int .i64 r5), (1, .slice A1 (List.length lists) c2), (5, .pointer (some ⟨g28, 0, none⟩)), (7, .slice none 0 0), (8, .slice none 0 0)] [] E (by kernel_rfl) trivial ?_
   clear E; intro a E
   refine wpList_nil ?_
   refine th_n ?_
   refine wp_seq ?_
   refine wp_region_lit ?_
   refine vr tbok 1 [] [(0, .int .i64 r5), (1, .slice A1 (List.length lists) c2), (5, .pointer (some ⟨g28, 0, none⟩)), (7, .slice none 0 0), (8, .slice none 0 0), (34, .int .i64 r5)] [] E (by kernel_rfl) trivial ?_
   clear E; intro a E
   refine e_build (ps := [(0, .int .i64 r5)]) (v := .agg #[.int .i64 r5, .slice none 0 0, .slice none 0 0, .slice none 0 0]) E rfl rfl tbok rfl (by kernel_rfl) rfl ?_
   clear E; intro a E
   refine h_alloc H E rfl rfl tbok rfl ?_
   intro w38 g37 a hc39 hg41 H_ E_
   replace E := E_ _ rfl; clear E_
   replace H := H_; clear H_; try dsimp only [setn, addE, goneL] at H
   refine h_store (g := g37) (off := 0) H 3 rfl E rfl rfl rfl rfl tbok rfl rfl rfl rfl rfl ?_
   clear E; intro w42 a hc43 H_ E
   replace H := H_; clear H_; try dsimp only [setn, addE, goneL] at H
   refine wpList_nil ?_
   refine th_n ?_
   refine wp_seq ?_
   refine wp_seq ?_
   refine wp_region_lit ?_
   refine vr tbok 1 [] [(0, .int .i64 r5), (1, .slice A1 (List.length lists) c2), (5, .pointer (some ⟨g28, 0, none⟩)), (7, .slice none 0 0), (8, .slice none 0 0), (9, .pointer (some ⟨g37, 0, none⟩)), (10, .int .i64 0)] [] E (by kernel_rfl) trivial ?_
   clear E; intro a E
   refine wpList_nil ?_
   refine th_n ?_
   refine wp_block ?_
   obtain ⟨x445, hL446, hK447⟩ := bind_inv hP
   clear hP
   replace H := H.nilrow cNode 64; try dsimp only [setn, addE, goneL] at H
   replace H := H.nilrow (cSl (cInt .i64)) 23; try dsimp only [setn, addE, goneL] at H
   replace H := H.nilrow (cInt .i64) 3; try dsimp only [setn, addE, goneL] at H
   refine loop_cut (fun i_ a w_ => (i_ = 0 ∧ ∃ (x453 : (List Nd) × (List (Nd × Int)) × (List (List Int)) × (List Int)), ∃ (A433 : Option Addr) (c434 : Nat) (A438 : Option Addr) (c439 : Nat) (A442 : Option Addr) (c443 : Nat), Fr a 183 [(0, .int .i64 r5), (5, .pointer (some ⟨g28, 0, none⟩)), (7, .slice A438 (List.length x453.2.2.1) c439), (8, .slice A442 (List.length x453.2.2.2) c443), (9, .pointer (some ⟨g37, 0, none⟩))] ∧ Hp S Fa w0 w_ [.box g28 44 [.int .i64 r5, .slice A433 (List.length x453.1) c434, .map (some g29)], .row true cNode 64 A433 c434 x453.1, .mp Try.prog 64 g29 (List.map (fun p_ => (ndV p_.1, (fun u_ : Int => .int .i64 u_) p_.2)) x453.2.1), .row true (cSl (cInt .i64)) 23 A438 c439 x453.2.2.1, .row true (cInt .i64) 3 A442 c443 x453.2.2.2, .box g37 26 [.int .i64 r5, .slice none 0 0, .slice none 0 0, .slice none 0 0]] ∧ x445 = Sum.inl x453)) ?_ ?_
   ·
    refine loopV (fun m452 a w451 => ∃ (s230 : List Nd) (s233 : List (Nd × Int)) (kept235 : List (List Int)) (refs239 : List Int) (i242 : Int), ∃ (A231 : Option Addr) (c232 : Nat) (A236 : Option Addr) (c237 : Nat) (A240 : Option Addr) (c241 : Nat), Fr a 183 [(0, .int .i64 r5), (1, .slice A1 (List.length lists) c2), (5, .pointer (some ⟨g28, 0, none⟩)), (7, .slice A236 (List.length kept235) c237), (8, .slice A240 (List.length refs239) c241), (9, .pointer (some ⟨g37, 0, none⟩)), (10, .int .i64 i242)] ∧ Hp S Fa w0 w451 [.ro false (cSl (cInt .i64)) A1 lists, .box g28 44 [.int .i64 r5, .slice A231 (List.length s230) c232, .map (some g29)], .row true cNode 64 A231 c232 s230, .mp Try.prog 64 g29 (List.map (fun p_ => (ndV p_.1, (fun u_ : Int => .int .i64 u_) p_.2)) s233), .row true (cSl (cInt .i64)) 23 A236 c237 kept235, .row true (cInt .i64) 3 A240 c241 refs239, .box g37 26 [.int .i64 r5, .slice none 0 0, .slice none 0 0, .slice none 0 0]] ∧ law14_GuardBack_l0 N lists r5 m452 s230 s233 kept235 refs239 i242 = some x445) N ?_ ?_
    ·
     exact ⟨[], ([] : List (Nd × Int)), [], [], 0, none, 0, none, 0, none, 0, E.pick _ ⟨rfl, rfl, rfl, rfl, rfl, rfl, rfl, trivial⟩, H.sel [0, 1, 4, 2, 5, 6, 3] rfl, hL446⟩
    ·
     clear E H hL446; intro m452 a w451 hI_
     obtain ⟨s230, s233, kept235, refs239, i242, A231, c232, A236, c237, A240, c241, E, H, hP⟩ := hI_
     obtain ⟨m444, rfl⟩ : ∃ q_, m452 = q_ + 1 := by cases m452 with | zero => rw [law14_GuardBack_l0] at hP; cases hP | succ q_ => exact ⟨q_, rfl⟩
     rw [law14_GuardBack_l0] at hP
     refine wp_seq ?_
     refine wp_seq ?_
     refine wp_region_lit ?_
     refine vr tbok 5 [] [(0, .int .i64 r5), (1, .slice A1 (List.length lists) c2), (5, .pointer (some ⟨g28, 0, none⟩)), (7, .slice A236 (List.length kept235) c237), (8, .slice A240 (List.length refs239) c241), (9, .pointer (some ⟨g37, 0, none⟩)), (10, .int .i64 i242), (40, .bool (decide (i242 < (((List.length lists) : Nat) : Int))))] [] E (by kernel_rfl) trivial ?_
     clear E; intro a E
     refine E.cases (t := 40) rfl (fun hb_ E_ => ?_) (fun hb_ E_ => ?_)
     ·
      replace E := E_; clear E_
      have h454 : i242 < (((List.length lists) : Nat) : Int) := of_decide_eq_true hb_
      clear hb_; replace hP := ite_t h454 hP
      refine vr tbok 3 [] [(0, .int .i64 r5), (1, .slice A1 (List.length lists) c2), (5, .pointer (some ⟨g28, 0, none⟩)), (7, .slice A236 (List.length kept235) c237), (8, .slice A240 (List.length refs239) c241), (9, .pointer (some ⟨g37, 0, none⟩)), (10, .int .i64 i242), (41, .int .i64 i242), (42, .bool (decide (i242 < 12))), (43, .bool (decide (i242 < 12)))] [] E (by kernel_rfl) trivial ?_
      clear E; intro a E
      refine wpList_nil ?_
      refine th_n ?_
      refine E.cases (t := 43) rfl (fun hb_ E_ => ?_) (fun hb_ E_ => ?_)
      ·
       replace E := E_; clear E_
       have h455 : i242 < 12 := of_decide_eq_true hb_
       clear hb_; replace hP := ite_t h455 hP
       refine c_true E rfl ?_
       refine wp_skip ?_
       refine th_n ?_
       refine wp_seq ?_
       refine wp_block ?_
       refine wp_seq ?_
       refine wp_region_lit ?_
       refine vr tbok 1 [] [(0, .int .i64 r5), (1, .slice A1 (List.length lists) c2), (5, .pointer (some ⟨g28, 0, none⟩)), (7, .slice A236 (List.length kept235) c237), (8, .slice A240 (List.length refs239) c241), (9, .pointer (some ⟨g37, 0, none⟩)), (10, .int .i64 i242), (11, .slice none 0 0), (41, .int .i64 i242), (42, .bool (decide (i242 < 12)))] [] E (by kernel_rfl) trivial ?_
       clear E; intro a E
       refine wpList_nil ?_
       refine th_n ?_
       refine wp_seq ?_
       refine wp_seq ?_
       refine wp_region_lit ?_
       refine vr tbok 1 [] [(0, .int .i64 r5), (1, .slice A1 (List.length lists) c2), (5, .pointer (some ⟨g28, 0, none⟩)), (7, .slice A236 (List.length kept235) c237), (8, .slice A240 (List.length refs239) c241), (9, .pointer (some ⟨g37, 0, none⟩)), (10, .int .i64 i242), (11, .slice none 0 0), (12, .int .i64 0), (41, .int .i64 i242), (42, .bool (decide (i242 < 12)))] [] E (by kernel_rfl) trivial ?_
       clear E; intro a E
       refine wpList_nil ?_
       refine th_n ?_
       refine wp_block ?_
       obtain ⟨x593, hL594, hK595⟩ := bind_inv hP
       clear hP
       replace H := H.nilrow (cInt .i64) 3; try dsimp only [setn, addE, goneL] at H
       refine loop_cut (fun i_ a w_ => (i_ = 2 ∧ ∃ (x599 : List Int), ∃ (A590 : Option Addr) (c591 : Nat), Fr a 183 [(0, .int .i64 r5), (1, .slice A1 (List.length lists) c2), (5, .pointer (some ⟨g28, 0, none⟩)), (7, .slice A236 (List.length kept235) c237), (8, .slice A240 (List.length refs239) c241), (9, .pointer (some ⟨g37, 0, none⟩)), (10, .int .i64 i242), (11, .slice A590 (List.length x599) c591), (41, .int .i64 i242), (42, .bool (decide (i242 < 12)))] ∧ Hp S Fa w0 w_ [.ro false (cSl (cInt .i64)) A1 lists, .row true cNode 64 A231 c232 s230, .mp Try.prog 64 g29 (List.map (fun p_ => (ndV p_.1, (fun u_ : Int => .int .i64 u_) p_.2)) s233), .box g28 44 [.int .i64 r5, .slice A231 (List.length s230) c232, .map (some g29)], .row true (cSl (cInt .i64)) 23 A236 c237 kept235, .row true (cInt .i64) 3 A240 c241 refs239, .box g37 26 [.int .i64 r5, .slice none 0 0, .slice none 0 0, .slice none 0 0], .row true (cInt .i64) 3 A590 c591 x599] ∧ x593 = x599)) ?_ ?_
       ·
        refine loopV (fun m598 a w597 => ∃ (l520 : List Int) (k523 : Int), ∃ (A521 : Option Addr) (c522 : Nat), Fr a 183 [(0, .int .i64 r5), (1, .slice A1 (List.length lists) c2), (5, .pointer (some ⟨g28, 0, none⟩)), (7, .slice A236 (List.length kept235) c237), (8, .slice A240 (List.length refs239) c241), (9, .pointer (some ⟨g37, 0, none⟩)), (10, .int .i64 i242), (11, .slice A521 (List.length l520) c522), (12, .int .i64 k523), (41, .int .i64 i242), (42, .bool (decide (i242 < 12)))] ∧ Hp S Fa w0 w597 [.ro false (cSl (cInt .i64)) A1 lists, .row true cNode 64 A231 c232 s230, .mp Try.prog 64 g29 (List.map (fun p_ => (ndV p_.1, (fun u_ : Int => .int .i64 u_) p_.2)) s233), .box g28 44 [.int .i64 r5, .slice A231 (List.length s230) c232, .map (some g29)], .row true (cSl (cInt .i64)) 23 A236 c237 kept235, .row true (cInt .i64) 3 A240 c241 refs239, .box g37 26 [.int .i64 r5, .slice none 0 0, .slice none 0 0, .slice none 0 0], .row true (cInt .i64) 3 A521 c522 l520] ∧ law14_GuardBack_l1 N lists r5 i242 m598 l520 k523 = some x593) N ?_ ?_
        ·
         exact ⟨[], 0, none, 0, E.pick _ ⟨rfl, rfl, rfl, rfl, rfl, rfl, rfl, rfl, rfl, rfl, rfl, trivial⟩, H.sel [0, 2, 3, 1, 4, 5, 6, 7] rfl, hL594⟩
        ·
         clear E H hL594; intro m598 a w597 hI_
         obtain ⟨l520, k523, A521, c522, E, H, hP⟩ := hI_
         obtain ⟨m592, rfl⟩ : ∃ q_, m598 = q_ + 1 := by cases m598 with | zero => rw [law14_GuardBack_l1] at hP; cases hP | succ q_ => exact ⟨q_, rfl⟩
         rw [law14_GuardBack_l1] at hP
         refine wp_seq ?_
         refine wp_seq ?_
         refine wp_region_lit ?_
         obtain ⟨g600, hP⟩ := ask_inv hP
         refine vr tbok 4 [.int .i64 (shlV .i64 1 r5)] [(0, .int .i64 r5), (1, .slice A1 (List.length lists) c2), (5, .pointer (some ⟨g28, 0, none⟩)), (7, .slice A236 (List.length kept235) c237), (8, .slice A240 (List.length refs239) c241), (9, .pointer (some ⟨g37, 0, none⟩)), (10, .int .i64 i242), (11, .slice A521 (List.length l520) c522), (12, .int .i64 k523), (41, .int .i64 i242), (42, .bool (decide (i242 < 12))), (49, .bool (decide (k523 < (shlV .i64 1 r5))))] [0 ≤ r5 ∧ IntKind.i64.wrap (1 * 2 ^ (min (Int.toNat r5) (IntKind.bits .i64))) = shlV .i64 1 r5] E (by kernel_rfl) (⟨g600, rfl⟩) ?_
         clear E; intro a E
         refine wpList_nil ?_
         refine th_n ?_
         refine E.cases (t := 49) rfl (fun hb_ E_ => ?_) (fun hb_ E_ => ?_)
         ·
          replace E := E_; clear E_
          have h601 : k523 < (shlV .i64 1 r5) := of_decide_eq_true hb_
          clear hb_; replace hP := ite_t h601 hP
          refine c_true E rfl ?_
          refine wp_skip ?_
          refine th_n ?_
          refine wp_seq ?_
          refine wp_block ?_
          refine wp_seq ?_
          refine wp_region_lit ?_
          refine vr tbok 2 [] [(0, .int .i64 r5), (1, .slice A1 (List.length lists) c2), (5, .pointer (some ⟨g28, 0, none⟩)), (7, .slice A236 (List.length kept235) c237), (8, .slice A240 (List.length refs239) c241), (9, .pointer (some ⟨g37, 0, none⟩)), (10, .int .i64 i242), (11, .slice A521 (List.length l520) c522), (12, .int .i64 k523), (13, .int .i64 k523), (41, .int .i64 i242), (42, .bool (decide (i242 < 12)))] [] E (by kernel_rfl) trivial ?_
          clear E; intro a E
          refine wpList_nil ?_
          refine th_n ?_
          refine wp_seq ?_
          refine wp_seq ?_
          refine wp_region_lit ?_
          obtain ⟨g602, hP⟩ := ask_inv hP
          obtain ⟨b603, o604, e_b603⟩ := (H.rd 0 rds_ro).addr (idx_pos g602)
          subst e_b603
          obtain ⟨A605, c606, hl607, hk608, H⟩ := H.subSl 0 false (el_ro rfl) g602
          try dsimp only [addE] at H
          refine vr tbok 7 [.slice A605 (List.length (List.getD lists (Int.toNat i242) [])) c606] [(0, .int .i64 r5), (1, .slice (some ⟨b603, o604, none⟩) (List.length lists) c2), (5, .pointer (some ⟨g28, 0, none⟩)), (7, .slice A236 (List.length kept235) c237), (8, .slice A240 (List.length refs239) c241), (9, .pointer (some ⟨g37, 0, none⟩)), (10, .int .i64 i242), (11, .slice A521 (List.length l520) c522), (12, .int .i64 k523), (13, .int .i64 k523), (41, .int .i64 i242), (42, .bool (decide (i242 < 12))), (59, .bool (decide (k523 < (((List.length (List.getD lists (Int.toNat i242) [])) : Nat) : Int))))] [0 ≤ i242 ∧ i242 < (((List.length lists) : Nat) : Int), World.cell? w597 ⟨b603, o604 + (Int.toNat i242) * 1, none⟩ = some (.slice A605 (List.length (List.getD lists (Int.toNat i242) [])) c606)] E (by kernel_rfl) ⟨g602, hl607⟩ ?_
          clear E; intro a E
          refine wpList_nil ?_
          refine th_n ?_
          refine E.cases (t := 59) rfl (fun hb_ E_ => ?_) (fun hb_ E_ => ?_)
          ·
           replace E := E_; clear E_
           have h610 : k523 < (((List.length (List.getD lists (Int.toNat i242) [])) : Nat) : Int) := of_decide_eq_true hb_
           clear hb_; replace hP := ite_t h610 hP
           refine c_true E rfl ?_
           refine wp_region_lit ?_
           obtain ⟨A611, c612, hl613, hk614, H⟩ := H.subSl 0 false (el_ro rfl) g602
           try dsimp only [addE] at H
           obtain ⟨g616, hP⟩ := ask_inv hP
           obtain ⟨b617, o618, e_b617⟩ := (H.rd 9 rds_ro).addr (idx_pos g616)
           subst e_b617
           refine vr tbok 8 [.slice (some ⟨b617, o618, none⟩) (List.length (List.getD lists (Int.toNat i242) [])) c612, .int .i64 (List.getD (List.getD lists (Int.toNat i242) []) (Int.toNat k523) 0)] [(0, .int .i64 r5), (1, .slice (some ⟨b603, o604, none⟩) (List.length lists) c2), (5, .pointer (some ⟨g28, 0, none⟩)), (7, .slice A236 (List.length kept235) c237), (8, .slice A240 (List.length refs239) c241), (9, .pointer (some ⟨g37, 0, none⟩)), (10, .int .i64 i242), (11, .slice A521 (List.length l520) c522), (12, .int .i64 k523), (13, .int .i64 (List.getD (List.getD lists (Int.toNat i242) []) (Int.toNat k523) 0)), (41, .int .i64 i242), (42, .bool (decide (i242 < 12)))] [0 ≤ i242 ∧ i242 < (((List.length lists) : Nat) : Int), World.cell? w597 ⟨b603, o604 + (Int.toNat i242) * 1, none⟩ = some (.slice (some ⟨b617, o618, none⟩) (List.length (List.getD lists (Int.toNat i242) [])) c612), 0 ≤ k523 ∧ k523 < (((List.length (List.getD lists (Int.toNat i242) [])) : Nat) : Int), World.cell? w597 ⟨b617, o618 + (Int.toNat k523) * 1, none⟩ = some (.int .i64 (List.getD (List.getD lists (Int.toNat i242) []) (Int.toNat k523) 0))] E (by kernel_rfl) ⟨g602, hl613, g616, Rds.at1 (H.rd 9 rds_ro) 0 g616⟩ ?_
           clear E; intro a E
           refine wpList_nil ?_
           refine th_n ?_
           refine wp_region_lit ?_
           refine vr tbok 2 [] [(0, .int .i64 r5), (1, .slice (some ⟨b603, o604, none⟩) (List.length lists) c2), (5, .pointer (some ⟨g28, 0, none⟩)), (7, .slice A236 (List.length kept235) c237), (8, .slice A240 (List.length refs239) c241), (9, .pointer (some ⟨g37, 0, none⟩)), (10, .int .i64 i242), (12, .int .i64 k523), (41, .int .i64 i242), (42, .bool (decide (i242 < 12))), (67, .slice A521 (List.length l520) c522), (68, .int .i64 (List.getD (List.getD lists (Int.toNat i242) []) (Int.toNat k523) 0))] [] E (by kernel_rfl) trivial ?_
           clear E; intro a E
           obtain ⟨r619, h620, hP⟩ := bind_inv hP
           obtain ⟨Fa621, Hc622, hb623⟩ := H.call [] [] rfl rfl trivial
           refine e_call E rfl rfl Try.func26 rfl rfl rfl (kit_Pick_calls  (List.getD (List.getD lists (Int.toNat i242) []) (Int.toNat k523) 0) 12  Hc622 h620) ?_
           rintro v624 w625 a ⟨rfl, HR626⟩ E_
           replace E := E_ _ rfl; clear E_
           obtain ⟨H_, hc627⟩ := hb623 _ _ HR626 rfl
           replace H := H_; clear H_; try dsimp only [setn, addE, goneL] at H
           refine h_buildSlice (ps := [(0, .int .i64 r619)]) (cs := [.int .i64 r619]) H E rfl rfl tbok rfl rfl (by kernel_rfl) ?_
           intro w629 g628 a hc630 hg632 H_ E_
           replace E := E_ _ rfl; clear E_
           replace H := H_; clear H_; try dsimp only [setn, addE, goneL] at H
           obtain ⟨g633, hP⟩ := ask_inv hP
           refine h_append (cInt .i64) (xs := l520) (ys := ([r619] : List Int)) (0 : Int) H 7 rfl E rfl rfl tbok rfl rfl rfl rfl rfl (fun _ _ => rfl) rfl rfl (fun _ HF_ => HF_.srcB 10 rfl (⟨_, _, rfl, rfl, rfl⟩)) g633 ?_
           intro w634 A635 c636 a hc637 hA638 H_ E_
           replace E := E_ _ rfl; clear E_
           replace H := H_; clear H_; try dsimp only [setn, addE, goneL] at H
           refine vr tbok 1 [] [(0, .int .i64 r5), (1, .slice (some ⟨b603, o604, none⟩) (List.length lists) c2), (5, .pointer (some ⟨g28, 0, none⟩)), (7, .slice A236 (List.length kept235) c237), (8, .slice A240 (List.length refs239) c241), (9, .pointer (some ⟨g37, 0, none⟩)), (10, .int .i64 i242), (11, .slice A635 (List.length (l520 ++ ([r619] : List Int))) c636), (12, .int .i64 k523), (41, .int .i64 i242), (42, .bool (decide (i242 < 12)))] [] E (by kernel_rfl) trivial ?_
           clear E; intro a E
           refine wpList_nil ?_
           refine bl_n ?_
           refine th_n ?_
           refine wp_region_lit ?_
           obtain ⟨g639, hP⟩ := ask_inv hP
           refine vr tbok 3 [.int .i64 (k523 + 1)] [(0, .int .i64 r5), (1, .slice (some ⟨b603, o604, none⟩) (List.length lists) c2), (5, .pointer (some ⟨g28, 0, none⟩)), (7, .slice A236 (List.length kept235) c237), (8, .slice A240 (List.length refs239) c241), (9, .pointer (some ⟨g37, 0, none⟩)), (10, .int .i64 i242), (11, .slice A635 (List.length (l520 ++ ([r619] : List Int))) c636), (12, .int .i64 (k523 + 1)), (41, .int .i64 i242), (42, .bool (decide (i242 < 12)))] [IntKind.i64.wrap (k523 + 1) = k523 + 1] E (by kernel_rfl) (wrap_in g639) ?_
           clear E; intro a E
           refine wpList_nil ?_
           exact th_n ⟨m592, Nat.lt_succ_self _, l520 ++ ([r619] : List Int), k523 + 1, A635, c636, E.pick _ ⟨rfl, rfl, rfl, rfl, rfl, rfl, rfl, rfl, rfl, rfl, rfl, trivial⟩, H.sel [0, 1, 2, 3, 4, 5, 6, 7] rfl, hP⟩
          ·
           replace E := E_; clear E_
           have h640 : ¬ (k523 < (((List.length (List.getD lists (Int.toNat i242) [])) : Nat) : Int)) := of_decide_eq_false hb_
           clear hb_; replace hP := ite_f h640 hP
           refine c_false E rfl ?_
           refine wp_skip ?_
           refine th_n ?_
           refine wp_region_lit ?_
           refine vr tbok 2 [] [(0, .int .i64 r5), (1, .slice (some ⟨b603, o604, none⟩) (List.length lists) c2), (5, .pointer (some ⟨g28, 0, none⟩)), (7, .slice A236 (List.length kept235) c237), (8, .slice A240 (List.length refs239) c241), (9, .pointer (some ⟨g37, 0, none⟩)), (10, .int .i64 i242), (12, .int .i64 k523), (41, .int .i64 i242), (42, .bool (decide (i242 < 12))), (67, .slice A521 (List.length l520) c522), (68, .int .i64 k523)] [] E (by kernel_rfl) trivial ?_
           clear E; intro a E
           obtain ⟨r641, h642, hP⟩ := bind_inv hP
           obtain ⟨Fa643, Hc644, hb645⟩ := H.call [] [] rfl rfl trivial
           refine e_call E rfl rfl Try.func26 rfl rfl rfl (kit_Pick_calls  k523 12  Hc644 h642) ?_
           rintro v646 w647 a ⟨rfl, HR648⟩ E_
           replace E := E_ _ rfl; clear E_
           obtain ⟨H_, hc649⟩ := hb645 _ _ HR648 rfl
           replace H := H_; clear H_; try dsimp only [setn, addE, goneL] at H
           refine h_buildSlice (ps := [(0, .int .i64 r641)]) (cs := [.int .i64 r641]) H E rfl rfl tbok rfl rfl (by kernel_rfl) ?_
           intro w651 g650 a hc652 hg654 H_ E_
           replace E := E_ _ rfl; clear E_
           replace H := H_; clear H_; try dsimp only [setn, addE, goneL] at H
           obtain ⟨g655, hP⟩ := ask_inv hP
           refine h_append (cInt .i64) (xs := l520) (ys := ([r641] : List Int)) (0 : Int) H 7 rfl E rfl rfl tbok rfl rfl rfl rfl rfl (fun _ _ => rfl) rfl rfl (fun _ HF_ => HF_.srcB 9 rfl (⟨_, _, rfl, rfl, rfl⟩)) g655 ?_
           intro w656 A657 c658 a hc659 hA660 H_ E_
           replace E := E_ _ rfl; clear E_
           replace H := H_; clear H_; try dsimp only [setn, addE, goneL] at H
           refine vr tbok 1 [] [(0, .int .i64 r5), (1, .slice (some ⟨b603, o604, none⟩) (List.length lists) c2), (5, .pointer (some ⟨g28, 0, none⟩)), (7, .slice A236 (List.length kept235) c237), (8, .slice A240 (List.length refs239) c241), (9, .pointer (some ⟨g37, 0, none⟩)), (10, .int .i64 i242), (11, .slice A657 (List.length (l520 ++ ([r641] : List Int))) c658), (12, .int .i64 k523), (41, .int .i64 i242), (42, .bool (decide (i242 < 12)))] [] E (by kernel_rfl) trivial ?_
           clear E; intro a E
           refine wpList_nil ?_
           refine bl_n ?_
           refine th_n ?_
           refine wp_region_lit ?_
           obtain ⟨g661, hP⟩ := ask_inv hP
           refine vr tbok 3 [.int .i64 (k523 + 1)] [(0, .int .i64 r5), (1, .slice (some ⟨b603, o604, none⟩) (List.length lists) c2), (5, .pointer (some ⟨g28, 0, none⟩)), (7, .slice A236 (List.length kept235) c237), (8, .slice A240 (List.length refs239) c241), (9, .pointer (some ⟨g37, 0, none⟩)), (10, .int .i64 i242), (11, .slice A657 (List.length (l520 ++ ([r641] : List Int))) c658), (12, .int .i64 (k523 + 1)), (41, .int .i64 i242), (42, .bool (decide (i242 < 12)))] [IntKind.i64.wrap (k523 + 1) = k523 + 1] E (by kernel_rfl) (wrap_in g661) ?_
           clear E; intro a E
           refine wpList_nil ?_
           exact th_n ⟨m592, Nat.lt_succ_self _, l520 ++ ([r641] : List Int), k523 + 1, A657, c658, E.pick _ ⟨rfl, rfl, rfl, rfl, rfl, rfl, rfl, rfl, rfl, rfl, rfl, trivial⟩, H.sel [0, 1, 2, 3, 4, 5, 6, 7] rfl, hP⟩
         ·
          replace E := E_; clear E_
          have h662 : ¬ (k523 < (shlV .i64 1 r5)) := of_decide_eq_false hb_
          clear hb_; replace hP := ite_f h662 hP
          refine c_false E rfl ?_
          refine wp_exit ?_
          refine th_exit ?_
          have hx_ := Option.some.inj hP
          refine th_exit (.inl ⟨2, rfl, ?_⟩)
          exact ⟨rfl, l520, A521, c522, E.pick _ ⟨rfl, rfl, rfl, rfl, rfl, rfl, rfl, rfl, rfl, rfl, trivial⟩, H.sel [0, 1, 2, 3, 4, 5, 6, 7] rfl, hx_.symm⟩
       ·
        clear E H hL594; intro i_ a w597 hM_
        obtain ⟨rfl, x599, A590, c591, E, H, hx_⟩ := hM_
        subst hx_; have hP := hK595; clear hK595
        refine bl_hit ?_
        refine th_n ?_
        refine wp_seq ?_
        refine wp_region_lit ?_
        refine vr tbok 2 [] [(0, .int .i64 r5), (1, .slice A1 (List.length lists) c2), (5, .pointer (some ⟨g28, 0, none⟩)), (7, .slice A236 (List.length kept235) c237), (8, .slice A240 (List.length refs239) c241), (9, .pointer (some ⟨g37, 0, none⟩)), (10, .int .i64 i242), (11, .slice A590 (List.length x593) c591), (41, .int .i64 i242), (42, .bool (decide (i242 < 12))), (73, .pointer (some ⟨g28, 0, none⟩)), (74, .slice A590 (List.length x593) c591)] [] E (by kernel_rfl) trivial ?_
        clear E; intro a E
        obtain ⟨r663, h664, hP⟩ := bind_inv hP
        obtain ⟨Fa665, Hc666, hb667⟩ := H.call [3, 1, 2] [(7, false)] rfl rfl ⟨flat_plain, trivial⟩
        refine e_call E rfl rfl Try.func17 rfl rfl rfl (guard_Store_Add_calls g28 A231 c232 g29 A590 c591 r5 s230 s233 x593 (H.rcap 7 rfl) Hc666 h664) ?_
        intro v673 w672 a hR674 E_
        obtain ⟨x_, A677, c678, hr_, rfl, HR676⟩ := hR674
        subst hr_
        replace E := E_ _ rfl; clear E_
        obtain ⟨H_, hc675⟩ := hb667 _ _ HR676 rfl
        replace H := H_; clear H_; try dsimp only [setn, addE, goneL] at H
        refine vr tbok 5 [] [(0, .int .i64 r5), (1, .slice A1 (List.length lists) c2), (5, .pointer (some ⟨g28, 0, none⟩)), (7, .slice A236 (List.length kept235) c237), (8, .slice A240 (List.length refs239) c241), (9, .pointer (some ⟨g37, 0, none⟩)), (10, .int .i64 i242), (11, .slice A590 (List.length x593) c591), (14, .int .i64 r663.1), (15, .int .i64 r663.2.1), (41, .int .i64 i242), (42, .bool (decide (i242 < 12)))] [] E (by kernel_rfl) trivial ?_
        clear E; intro a E
        refine wpList_nil ?_
        refine th_n ?_
        refine wp_seq ?_
        refine wp_seq ?_
        refine wp_region_lit ?_
        refine vr tbok 2 [] [(0, .int .i64 r5), (1, .slice A1 (List.length lists) c2), (5, .pointer (some ⟨g28, 0, none⟩)), (7, .slice A236 (List.length kept235) c237), (8, .slice A240 (List.length refs239) c241), (9, .pointer (some ⟨g37, 0, none⟩)), (10, .int .i64 i242), (11, .slice A590 (List.length x593) c591), (14, .int .i64 r663.1), (41, .int .i64 i242), (42, .bool (decide (i242 < 12))), (79, .bool ((r663.2.1 : Int) != 0))] [] E (by kernel_rfl) trivial ?_
        clear E; intro a E
        refine wpList_nil ?_
        refine th_n ?_
        refine E.cases (t := 79) rfl (fun hb_ E_ => ?_) (fun hb_ E_ => ?_)
        ·
         replace E := E_; clear E_
         have h682 : ¬ ((r663.2.1 : Int) = 0) := bne_iff_ne.1 hb_
         clear hb_; replace hP := ite_f h682 hP
         refine c_true E rfl ?_
         refine wp_seq ?_
         refine wp_region_lit ?_
         refine vr tbok 1 [] [(4, .bool false)] [] E (by kernel_rfl) trivial ?_
         clear E; intro a E
         refine wpList_nil ?_
         refine th_n ?_
         refine wp_ret ?_
         refine th_ret ?_
         refine bl_ret ?_
         refine th_ret ?_
         refine th_ret ?_
         refine .inr ⟨rfl, ?_⟩
         refine bl_ret ?_
         refine th_ret ?_
         have hx_ := Option.some.inj hP; subst hx_
         have hP : some (false) = some r := hK447
         obtain rfl := Option.some.inj hP
         refine ret1 E rfl rfl ?_
         exact ⟨_, rfl, rfl, H.sel [] rfl⟩
        ·
         replace E := E_; clear E_
         have h683 : (r663.2.1 : Int) = 0 := bne_eq_false_iff_eq.1 hb_
         clear hb_; replace hP := ite_t h683 hP
         refine c_false E rfl ?_
         refine wp_skip ?_
         refine th_n ?_
         refine wp_region_lit ?_
         refine vr tbok 2 [] [(0, .int .i64 r5), (1, .slice A1 (List.length lists) c2), (5, .pointer (some ⟨g28, 0, none⟩)), (8, .slice A240 (List.length refs239) c241), (9, .pointer (some ⟨g37, 0, none⟩)), (10, .int .i64 i242), (14, .int .i64 r663.1), (41, .int .i64 i242), (42, .bool (decide (i242 < 12))), (80, .slice A236 (List.length kept235) c237), (81, .slice A590 (List.length x593) c591)] [] E (by kernel_rfl) trivial ?_
         clear E; intro a E
         refine h_buildSlice (ps := [(0, .slice A590 (List.length x593) c591)]) (cs := [.slice A590 (List.length x593) c591]) H E rfl rfl tbok rfl rfl (by kernel_rfl) ?_
         intro w685 g684 a hc686 hg688 H_ E_
         replace E := E_ _ rfl; clear E_
         replace H := H_; clear H_; try dsimp only [setn, addE, goneL] at H
         have hk689 := H.rcap 7 rfl
         replace H := H.frz 7 rfl; try dsimp only [setn, addE, goneL] at H
         obtain ⟨g690, hP⟩ := ask_inv hP
         refine h_append (cSl (cInt .i64)) (xs := kept235) (ys := ([x593] : List (List Int))) ([] : List Int) H 4 rfl E rfl rfl tbok rfl rfl rfl rfl rfl (fun _ _ => kSl_nil) rfl rfl (fun _ HF_ => HF_.srcB 11 rfl ⟨_, _, rfl, ⟨_, _, rfl, hk689, (HF_.roC 7 rfl)⟩, rfl⟩) g690 ?_
         intro w691 A692 c693 a hc694 hA695 H_ E_
         replace E := E_ _ rfl; clear E_
         replace H := H_; clear H_; try dsimp only [setn, addE, goneL] at H
         refine vr tbok 2 [] [(0, .int .i64 r5), (1, .slice A1 (List.length lists) c2), (5, .pointer (some ⟨g28, 0, none⟩)), (9, .pointer (some ⟨g37, 0, none⟩)), (10, .int .i64 i242), (41, .int .i64 i242), (42, .bool (decide (i242 < 12))), (83, .slice A692 (List.length (kept235 ++ ([x593] : List (List Int)))) c693), (84, .slice A240 (List.length refs239) c241), (85, .int .i64 r663.1)] [] E (by kernel_rfl) trivial ?_
         clear E; intro a E
         refine h_buildSlice (ps := [(0, .int .i64 r663.1)]) (cs := [.int .i64 r663.1]) H E rfl rfl tbok rfl rfl (by kernel_rfl) ?_
         intro w697 g696 a hc698 hg700 H_ E_
         replace E := E_ _ rfl; clear E_
         replace H := H_; clear H_; try dsimp only [setn, addE, goneL] at H
         obtain ⟨g701, hP⟩ := ask_inv hP
         refine h_append (cInt .i64) (xs := refs239) (ys := ([r663.1] : List Int)) (0 : Int) H 5 rfl E rfl rfl tbok rfl rfl rfl rfl rfl (fun _ _ => rfl) rfl rfl (fun _ HF_ => HF_.srcB 12 rfl (⟨_, _, rfl, rfl, rfl⟩)) g701 ?_
         intro w702 A703 c704 a hc705 hA706 H_ E_
         replace E := E_ _ rfl; clear E_
         replace H := H_; clear H_; try dsimp only [setn, addE, goneL] at H
         refine vr tbok 2 [] [(0, .int .i64 r5), (1, .slice A1 (List.length lists) c2), (5, .pointer (some ⟨g28, 0, none⟩)), (7, .slice A692 (List.length (kept235 ++ ([x593] : List (List Int)))) c693), (8, .slice A703 (List.length (refs239 ++ ([r663.1] : List Int))) c704), (9, .pointer (some ⟨g37, 0, none⟩)), (10, .int .i64 i242), (41, .int .i64 i242), (42, .bool (decide (i242 < 12)))] [] E (by kernel_rfl) trivial ?_
         clear E; intro a E
         refine wpList_nil ?_
         refine bl_n ?_
         refine th_n ?_
         refine wp_region_lit ?_
         obtain ⟨g707, hP⟩ := ask_inv hP
         refine vr tbok 3 [.int .i64 (i242 + 1)] [(0, .int .i64 r5), (1, .slice A1 (List.length lists) c2), (5, .pointer (some ⟨g28, 0, none⟩)), (7, .slice A692 (List.length (kept235 ++ ([x593] : List (List Int)))) c693), (8, .slice A703 (List.length (refs239 ++ ([r663.1] : List Int))) c704), (9, .pointer (some ⟨g37, 0, none⟩)), (10, .int .i64 (i242 + 1)), (41, .int .i64 i242), (42, .bool (decide (i242 < 12)))] [IntKind.i64.wrap (i242 + 1) = i242 + 1] E (by kernel_rfl) (wrap_in g707) ?_
         clear E; intro a E
         refine wpList_nil ?_
         exact th_n ⟨m444, Nat.lt_succ_self _, r663.2.2.1, r663.2.2.2, kept235 ++ ([x593] : List (List Int)), refs239 ++ ([r663.1] : List Int), i242 + 1, A677, c678, A692, c693, A703, c704, E.pick _ ⟨rfl, rfl, rfl, rfl, rfl, rfl, rfl, trivial⟩, H.sel [0, 8, 9, 10, 4, 5, 6] rfl, hP⟩
      ·
       replace E := E_; clear E_
       have h708 : ¬ (i242 < 12) := of_decide_eq_false hb_
       clear hb_; replace hP := ite_f h708 hP
       refine c_false E rfl ?_
       refine wp_exit ?_
       refine th_exit ?_
       have hx_ := Option.some.inj hP
       refine th_exit (.inl ⟨0, rfl, ?_⟩)
       exact ⟨rfl, (s230, s233, kept235, refs239), A231, c232, A236, c237, A240, c241, E.pick _ ⟨rfl, rfl, rfl, rfl, rfl, trivial⟩, H.sel [1, 2, 3, 4, 5, 6] rfl, hx_.symm⟩
     ·
      replace E := E_; clear E_
      have h709 : ¬ (i242 < (((List.length lists) : Nat) : Int)) := of_decide_eq_false hb_
      clear hb_; replace hP := ite_f h709 hP
      refine vr tbok 3 [] [(0, .int .i64 r5), (1, .slice A1 (List.length lists) c2), (5, .pointer (some ⟨g28, 0, none⟩)), (7, .slice A236 (List.length kept235) c237), (8, .slice A240 (List.length refs239) c241), (9, .pointer (some ⟨g37, 0, none⟩)), (10, .int .i64 i242), (41, .tuple #[]), (42, .tuple #[]), (43, .bool false)] [] E (by kernel_rfl) trivial ?_
      clear E; intro a E
      refine wpList_nil ?_
      refine th_n ?_
      refine c_false E rfl ?_
      refine wp_exit ?_
      refine th_exit ?_
      have hx_ := Option.some.inj hP
      refine th_exit (.inl ⟨0, rfl, ?_⟩)
      exact ⟨rfl, (s230, s233, kept235, refs239), A231, c232, A236, c237, A240, c241, E.pick _ ⟨rfl, rfl, rfl, rfl, rfl, trivial⟩, H.sel [1, 2, 3, 4, 5, 6] rfl, hx_.symm⟩
   ·
    clear E H hL446; intro i_ a w451 hM_
    obtain ⟨rfl, x453, A433, c434, A438, c439, A442, c443, E, H, hx_⟩ := hM_
    subst hx_; have hP := elim_l hK447
    clear hK447
    refine bl_hit ?_
    refine th_n ?_
    refine wp_seq ?_
    refine wp_seq ?_
    refine wp_region_lit ?_
    refine vr tbok 1 [] [(0, .int .i64 r5), (5, .pointer (some ⟨g28, 0, none⟩)), (7, .slice A438 (List.length x453.2.2.1) c439), (8, .slice A442 (List.length x453.2.2.2) c443), (9, .pointer (some ⟨g37, 0, none⟩)), (16, .int .i64 0)] [] E (by kernel_rfl) trivial ?_
    clear E; intro a E
    refine wpList_nil ?_
    refine th_n ?_
    refine wp_block ?_
    obtain ⟨x825, hL826, hK827⟩ := bind_inv hP
    clear hP
    replace H := H.nilrow cBool 4; try dsimp only [setn, addE, goneL] at H
    replace H := H.nilrow (cInt .i64) 3; try dsimp only [setn, addE, goneL] at H
    refine loop_cut (fun i_ a w_ => (i_ = 4 ∧ ∃ (x832 : (List Bool) × (List Int)), ∃ (A818 : Option Addr) (c819 : Nat) (A822 : Option Addr) (c823 : Nat), Fr a 183 [(0, .int .i64 r5), (5, .pointer (some ⟨g28, 0, none⟩)), (7, .slice A438 (List.length x453.2.2.1) c439), (8, .slice A442 (List.length x453.2.2.2) c443), (9, .pointer (some ⟨g37, 0, none⟩))] ∧ Hp S Fa w0 w_ [.row true cNode 64 A433 c434 x453.1, .mp Try.prog 64 g29 (List.map (fun p_ => (ndV p_.1, (fun u_ : Int => .int .i64 u_) p_.2)) x453.2.1), .box g28 44 [.int .i64 r5, .slice A433 (List.length x453.1) c434, .map (some g29)], .row true (cSl (cInt .i64)) 23 A438 c439 x453.2.2.1, .row true (cInt .i64) 3 A442 c443 x453.2.2.2, .box g37 26 [.int .i64 r5, .slice A818 (List.length x832.1) c819, .slice A822 (List.length x832.2) c823, .slice none 0 0], .row true cBool 4 A818 c819 x832.1, .row true (cInt .i64) 3 A822 c823 x832.2] ∧ x825 = x832)) ?_ ?_
    ·
     refine loopV (fun m831 a w830 => ∃ (a758 : List Bool) (a762 : List Int) (i765 : Int), ∃ (A759 : Option Addr) (c760 : Nat) (A763 : Option Addr) (c764 : Nat), Fr a 183 [(0, .int .i64 r5), (5, .pointer (some ⟨g28, 0, none⟩)), (7, .slice A438 (List.length x453.2.2.1) c439), (8, .slice A442 (List.length x453.2.2.2) c443), (9, .pointer (some ⟨g37, 0, none⟩)), (16, .int .i64 i765)] ∧ Hp S Fa w0 w830 [.row true cNode 64 A433 c434 x453.1, .mp Try.prog 64 g29 (List.map (fun p_ => (ndV p_.1, (fun u_ : Int => .int .i64 u_) p_.2)) x453.2.1), .box g28 44 [.int .i64 r5, .slice A433 (List.length x453.1) c434, .map (some g29)], .row true (cSl (cInt .i64)) 23 A438 c439 x453.2.2.1, .row true (cInt .i64) 3 A442 c443 x453.2.2.2, .box g37 26 [.int .i64 r5, .slice A759 (List.length a758) c760, .slice A763 (List.length a762) c764, .slice none 0 0], .row true cBool 4 A759 c760 a758, .row true (cInt .i64) 3 A763 c764 a762] ∧ law14_GuardBack_l2 N x453 m831 a758 a762 i765 = some x825) N ?_ ?_
     ·
      exact ⟨[], [], 0, none, 0, none, 0, E.pick _ ⟨rfl, rfl, rfl, rfl, rfl, rfl, trivial⟩, H.sel [1, 2, 0, 3, 4, 5, 6, 7] rfl, hL826⟩
     ·
      clear E H hL826; intro m831 a w830 hI_
      obtain ⟨a758, a762, i765, A759, c760, A763, c764, E, H, hP⟩ := hI_
      obtain ⟨m824, rfl⟩ : ∃ q_, m831 = q_ + 1 := by cases m831 with | zero => rw [law14_GuardBack_l2] at hP; cases hP | succ q_ => exact ⟨q_, rfl⟩
      rw [law14_GuardBack_l2] at hP
      refine wp_seq ?_
      refine wp_seq ?_
      refine wp_region_lit ?_
      refine vr tbok 2 [] [(0, .int .i64 r5), (5, .pointer (some ⟨g28, 0, none⟩)), (7, .slice A438 (List.length x453.2.2.1) c439), (8, .slice A442 (List.length x453.2.2.2) c443), (9, .pointer (some ⟨g37, 0, none⟩)), (16, .int .i64 i765), (89, .bool (decide (i765 < 12)))] [] E (by kernel_rfl) trivial ?_
      clear E; intro a E
      refine wpList_nil ?_
      refine th_n ?_
      refine E.cases (t := 89) rfl (fun hb_ E_ => ?_) (fun hb_ E_ => ?_)
      ·
       replace E := E_; clear E_
       have h833 : i765 < 12 := of_decide_eq_true hb_
       clear hb_; replace hP := ite_t h833 hP
       refine c_true E rfl ?_
       refine wp_skip ?_
       refine th_n ?_
       refine wp_seq ?_
       refine wp_block ?_
       refine wp_seq ?_
       refine wp_region_lit ?_
       refine vr tbok 5 [.slice A759 (List.length a758) c760, .int .i64 (Int.tmod i765 2)] [(0, .int .i64 r5), (5, .pointer (some ⟨g28, 0, none⟩)), (7, .slice A438 (List.length x453.2.2.1) c439), (8, .slice A442 (List.length x453.2.2.2) c443), (9, .pointer (some ⟨g37, 0, none⟩)), (16, .int .i64 i765), (93, .slice A759 (List.length a758) c760), (96, .bool ((Int.tmod i765 2 : Int) == 0))] [World.cell? w830 ⟨g37, 1, none⟩ = some (.slice A759 (List.length a758) c760), (2 : Int) ≠ 0 ∧ Int.tmod i765 2 = Int.tmod i765 2] E (by kernel_rfl) ⟨(H.box 5 rfl).cell (j := 1) rfl, ⟨by decide, rfl⟩⟩ ?_
       clear E; intro a E
       refine h_buildSlice (ps := [(0, .bool ((Int.tmod i765 2 : Int) == 0))]) (cs := [.bool ((Int.tmod i765 2 : Int) == 0)]) H E rfl rfl tbok rfl rfl (by kernel_rfl) ?_
       intro w835 g834 a hc836 hg838 H_ E_
       replace E := E_ _ rfl; clear E_
       replace H := H_; clear H_; try dsimp only [setn, addE, goneL] at H
       obtain ⟨g839, hP⟩ := ask_inv hP
       refine h_append cBool (xs := a758) (ys := ([(Int.tmod i765 2 : Int) == 0] : List Bool)) (false : Bool) H 6 rfl E rfl rfl tbok rfl rfl rfl rfl rfl (fun _ _ => rfl) rfl rfl (fun _ HF_ => HF_.srcB 8 rfl (⟨_, _, rfl, rfl, rfl⟩)) g839 ?_
       intro w840 A841 c842 a hc843 hA844 H_ E_
       replace E := E_ _ rfl; clear E_
       replace H := H_; clear H_; try dsimp only [setn, addE, goneL] at H
       refine vr tbok 1 [] [(0, .int .i64 r5), (5, .pointer (some ⟨g28, 0, none⟩)), (7, .slice A438 (List.length x453.2.2.1) c439), (8, .slice A442 (List.length x453.2.2.2) c443), (9, .pointer (some ⟨g37, 0, none⟩)), (16, .int .i64 i765), (98, .slice A841 (List.length (a758 ++ ([(Int.tmod i765 2 : Int) == 0] : List Bool))) c842), (99, .pointer (some ⟨g37, 1, none⟩))] [] E (by kernel_rfl) trivial ?_
       clear E; intro a E
       refine h_store (g := g37) (off := 1) H 5 rfl E rfl rfl rfl rfl tbok rfl rfl rfl rfl rfl ?_
       clear E; intro w845 a hc846 H_ E
       replace H := H_; clear H_; try dsimp only [setn, addE, goneL] at H
       refine wpList_nil ?_
       refine th_n ?_
       refine wp_seq ?_
       refine wp_region_lit ?_
       refine vr tbok 2 [.slice A763 (List.length a762) c764] [(0, .int .i64 r5), (5, .pointer (some ⟨g28, 0, none⟩)), (7, .slice A438 (List.length x453.2.2.1) c439), (8, .slice A442 (List.length x453.2.2.2) c443), (9, .pointer (some ⟨g37, 0, none⟩)), (16, .int .i64 i765), (101, .slice A763 (List.length a762) c764)] [World.cell? w845 ⟨g37, 2, none⟩ = some (.slice A763 (List.length a762) c764)] E (by kernel_rfl) ((H.box 5 rfl).cell (j := 2) rfl) ?_
       clear E; intro a E
       refine h_buildSlice (ps := [(0, .int .i64 (-1))]) (cs := [.int .i64 (-1)]) H E rfl rfl tbok rfl rfl (by kernel_rfl) ?_
       intro w848 g847 a hc849 hg851 H_ E_
       replace E := E_ _ rfl; clear E_
       replace H := H_; clear H_; try dsimp only [setn, addE, goneL] at H
       obtain ⟨g852, hP⟩ := ask_inv hP
       refine h_append (cInt .i64) (xs := a762) (ys := ([-1] : List Int)) (0 : Int) H 7 rfl E rfl rfl tbok rfl rfl rfl rfl rfl (fun _ _ => rfl) rfl rfl (fun _ HF_ => HF_.srcB 9 rfl (⟨_, _, rfl, rfl, rfl⟩)) g852 ?_
       intro w853 A854 c855 a hc856 hA857 H_ E_
       replace E := E_ _ rfl; clear E_
       replace H := H_; clear H_; try dsimp only [setn, addE, goneL] at H
       refine vr tbok 1 [] [(0, .int .i64 r5), (5, .pointer (some ⟨g28, 0, none⟩)), (7, .slice A438 (List.length x453.2.2.1) c439), (8, .slice A442 (List.length x453.2.2.2) c443), (9, .pointer (some ⟨g37, 0, none⟩)), (16, .int .i64 i765), (103, .slice A854 (List.length (a762 ++ ([-1] : List Int))) c855), (104, .pointer (some ⟨g37, 2, none⟩))] [] E (by kernel_rfl) trivial ?_
       clear E; intro a E
       refine h_store (g := g37) (off := 2) H 5 rfl E rfl rfl rfl rfl tbok rfl rfl rfl rfl rfl ?_
       clear E; intro w858 a hc859 H_ E
       replace H := H_; clear H_; try dsimp only [setn, addE, goneL] at H
       refine wpList_nil ?_
       refine th_n ?_
       refine wp_seq ?_
       refine wp_region_lit ?_
       refine vr tbok 4 [] [(0, .int .i64 r5), (5, .pointer (some ⟨g28, 0, none⟩)), (7, .slice A438 (List.length x453.2.2.1) c439), (8, .slice A442 (List.length x453.2.2.2) c443), (9, .pointer (some ⟨g37, 0, none⟩)), (16, .int .i64 i765), (108, .bool (decide (i765 < (((List.length x453.2.2.2) : Nat) : Int))))] [] E (by kernel_rfl) trivial ?_
       clear E; intro a E
       refine wpList_nil ?_
       refine th_n ?_
       refine E.cases (t := 108) rfl (fun hb_ E_ => ?_) (fun hb_ E_ => ?_)
       ·
        replace E := E_; clear E_
        have h860 : i765 < (((List.length x453.2.2.2) : Nat) : Int) := of_decide_eq_true hb_
        clear hb_; replace hP := ite_t h860 hP
        refine c_true E rfl ?_
        obtain ⟨g861, hP⟩ := ask_inv hP
        obtain ⟨b862, e_b862⟩ := H.raddr 4 rfl (idx_pos g861)
        subst e_b862
        obtain ⟨g864, hP⟩ := ask_inv hP
        obtain ⟨b865, e_b865⟩ := H.raddr 7 rfl (idx_pos g864)
        subst e_b865
        have HR873 := H
        refine dr_start (S := fun w_ => Chg (atL [.row true (cInt .i64) 3 (some ⟨b865, 0, none⟩) c855 (a762 ++ ([-1] : List Int))]) w858 w_) (by kernel_rfl) ?_
        intro w870 hc871
        have HS872 : Chg (atL [.row true (cInt .i64) 3 (some ⟨b865, 0, none⟩) c855 (a762 ++ ([-1] : List Int))]) w858 w870 := hc871.mono (fun _ _ h_ => h_.elim)
        replace H := H.ext hc871
        refine dr tbok (by kernel_rfl) [0, 1, 2, 3, 4, 5, 6] [.slice (some ⟨b865, 0, none⟩) (List.length (a762 ++ ([-1] : List Int))) c855, .int .i64 (List.getD x453.2.2.2 (Int.toNat i765) 0)] [(0, .int .i64 r5), (5, .pointer (some ⟨g28, 0, none⟩)), (7, .slice A438 (List.length x453.2.2.1) c439), (8, .slice (some ⟨b862, 0, none⟩) (List.length x453.2.2.2) c443), (9, .pointer (some ⟨g37, 0, none⟩)), (16, .int .i64 i765), (110, .slice (some ⟨b865, 0, none⟩) (List.length (a762 ++ ([-1] : List Int))) c855), (111, .int .i64 i765), (115, .int .i64 (List.getD x453.2.2.2 (Int.toNat i765) 0))] (fun w_ => [World.cell? w_ ⟨g37, 2, none⟩ = some (.slice (some ⟨b865, 0, none⟩) (List.length (a762 ++ ([-1] : List Int))) c855), 0 ≤ i765 ∧ i765 < (((List.length x453.2.2.2) : Nat) : Int), World.cell? w_ ⟨b862, 0 + (Int.toNat i765) * 1, none⟩ = some (.int .i64 (List.getD x453.2.2.2 (Int.toNat i765) 0))]) 2 E (fun _ _ => by kernel_rfl) (fun w_ hS_ => ⟨(HR873.boxk [7] hS_ 5 rfl rfl).cell (j := 2) rfl, g861, Rds.at1 (HR873.rdk [7] hS_ 4 rds_row rfl) 0 g861⟩) (by kernel_rfl) HS872 ?_
        clear E; intro a E
        refine wpAnyH_all (rs := [7]) (by kernel_rfl) (by simp) ?_
        refine all1 ?_
        ·
         refine wpOp_of_list rfl ?_
         refine vr tbok 1 [] [(0, .int .i64 r5), (5, .pointer (some ⟨g28, 0, none⟩)), (7, .slice A438 (List.length x453.2.2.1) c439), (8, .slice (some ⟨b862, 0, none⟩) (List.length x453.2.2.2) c443), (9, .pointer (some ⟨g37, 0, none⟩)), (16, .int .i64 i765), (110, .slice (some ⟨b865, 0, none⟩) (List.length (a762 ++ ([-1] : List Int))) c855), (111, .int .i64 i765), (115, .int .i64 (List.getD x453.2.2.2 (Int.toNat i765) 0)), (116, .pointer (some ⟨b865, 0 + (Int.toNat i765) * 1, none⟩))] [0 ≤ i765 ∧ i765 < (((List.length (a762 ++ ([-1] : List Int))) : Nat) : Int)] E (by kernel_rfl) (g864) ?_
         clear E; intro a E
         refine wpList_nil ?_
         refine th_n ⟨HS872, ?_⟩
         refine wpAnyH_all (rs := [8]) (by kernel_rfl) (by simp) ?_
         refine all1 ?_
         ·
          refine wpOp_of_list rfl ?_
          refine h_set (g := b865) (i := i765) (List.getD x453.2.2.2 (Int.toNat i765) 0) H 7 rfl E rfl rfl rfl rfl tbok rfl (fun _ HF_ => rfl) rfl g864 rfl ?_
          clear E; intro w874 a hc875 H_ E
          replace HS872 := HS872.trans hc875 (fun k_ hk_ h_ => (fun _ _ h_ => Or.inl h_) k_ hk_ h_)
          replace H := H_; clear H_; try dsimp only [setn, addE, goneL] at H
          have hn876 : (List.length (a762 ++ ([-1] : List Int))) = (List.length (List.set (a762 ++ ([-1] : List Int)) (Int.toNat i765) (List.getD x453.2.2.2 (Int.toNat i765) 0))) := by simp only [List.length_set]
          replace E := E.same (t := 110) (u := .slice (some ⟨b865, 0, none⟩) (List.length (List.set (a762 ++ ([-1] : List Int)) (Int.toNat i765) (List.getD x453.2.2.2 (Int.toNat i765) 0))) c855) rfl (congrArg (fun n_ => Value.slice (some ⟨b865, 0, none⟩) n_ c855) hn876)
          replace H := H.boxEq 5 rfl (by rw [hn876]); try dsimp only [setn, addE, goneL] at H
          refine wpList_nil ?_
          refine th_n ⟨HS872, ?_⟩
          refine dr_done (by kernel_rfl) ?_
          clear HS872 HR873
          refine bl_n ?_
          refine th_n ?_
          refine wp_region_lit ?_
          obtain ⟨g877, hP⟩ := ask_inv hP
          refine vr tbok 3 [.int .i64 (i765 + 1)] [(0, .int .i64 r5), (5, .pointer (some ⟨g28, 0, none⟩)), (7, .slice A438 (List.length x453.2.2.1) c439), (8, .slice (some ⟨b862, 0, none⟩) (List.length x453.2.2.2) c443), (9, .pointer (some ⟨g37, 0, none⟩)), (16, .int .i64 (i765 + 1))] [IntKind.i64.wrap (i765 + 1) = i765 + 1] E (by kernel_rfl) (wrap_in g877) ?_
          clear E; intro a E
          refine wpList_nil ?_
          exact th_n ⟨m824, Nat.lt_succ_self _, a758 ++ ([(Int.tmod i765 2 : Int) == 0] : List Bool), List.set (a762 ++ ([-1] : List Int)) (Int.toNat i765) (List.getD x453.2.2.2 (Int.toNat i765) 0), i765 + 1, A841, c842, (some ⟨b865, 0, none⟩), c855, E.pick _ ⟨rfl, rfl, rfl, rfl, rfl, rfl, trivial⟩, H.sel [0, 1, 2, 3, 4, 5, 6, 7] rfl, hP⟩
       ·
        replace E := E_; clear E_
        have h878 : ¬ (i765 < (((List.length x453.2.2.2) : Nat) : Int)) := of_decide_eq_false hb_
        clear hb_; replace hP := ite_f h878 hP
        refine c_false E rfl ?_
        refine wp_skip ?_
        refine bl_n ?_
        refine th_n ?_
        refine wp_region_lit ?_
        obtain ⟨g879, hP⟩ := ask_inv hP
        refine vr tbok 3 [.int .i64 (i765 + 1)] [(0, .int .i64 r5), (5, .pointer (some ⟨g28, 0, none⟩)), (7, .slice A438 (List.length x453.2.2.1) c439), (8, .slice A442 (List.length x453.2.2.2) c443), (9, .pointer (some ⟨g37, 0, none⟩)), (16, .int .i64 (i765 + 1))] [IntKind.i64.wrap (i765 + 1) = i765 + 1] E (by kernel_rfl) (wrap_in g879) ?_
        clear E; intro a E
        refine wpList_nil ?_
        exact th_n ⟨m824, Nat.lt_succ_self _, a758 ++ ([(Int.tmod i765 2 : Int) == 0] : List Bool), a762 ++ ([-1] : List Int), i765 + 1, A841, c842, A854, c855, E.pick _ ⟨rfl, rfl, rfl, rfl, rfl, rfl, trivial⟩, H.sel [0, 1, 2, 3, 4, 5, 6, 7] rfl, hP⟩
      ·
       replace E := E_; clear E_
       have h880 : ¬ (i765 < 12) := of_decide_eq_false hb_
       clear hb_; replace hP := ite_f h880 hP
       refine c_false E rfl ?_
       refine wp_exit ?_
       refine th_exit ?_
       have hx_ := Option.some.inj hP
       refine th_exit (.inl ⟨4, rfl, ?_⟩)
       exact ⟨rfl, (a758, a762), A759, c760, A763, c764, E.pick _ ⟨rfl, rfl, rfl, rfl, rfl, trivial⟩, H.sel [0, 1, 2, 3, 4, 5, 6, 7] rfl, hx_.symm⟩
    ·
     clear E H hL826; intro i_ a w830 hM_
     obtain ⟨rfl, x832, A818, c819, A822, c823, E, H, hx_⟩ := hM_
     subst hx_; have hP := hK827; clear hK827
     refine bl_hit ?_
     refine th_n ?_
     refine wp_seq ?_
     refine wp_region_lit ?_
     refine vr tbok 1 [] [(0, .int .i64 r5), (5, .pointer (some ⟨g28, 0, none⟩)), (7, .slice A438 (List.length x453.2.2.1) c439), (8, .slice A442 (List.length x453.2.2.2) c443), (9, .pointer (some ⟨g37, 0, none⟩)), (117, .pointer (some ⟨g28, 0, none⟩))] [] E (by kernel_rfl) trivial ?_
     clear E; intro a E
     obtain ⟨r881, h882, hP⟩ := bind_inv hP
     obtain ⟨Fa883, Hc884, hb885⟩ := H.call [2, 0, 1] [] rfl rfl ⟨flat_plain, trivial⟩
     refine e_call E rfl rfl Try.func18 rfl rfl rfl (guard_Store_Nodes_calls g28 A433 c434 g29 r5 x453.1 x453.2.1  Hc884 h882) ?_
     intro v891 w890 a hR892 E_
     obtain ⟨x_, A895, c896, hr_, rfl, HR894⟩ := hR892
     subst hr_
     replace E := E_ _ rfl; clear E_
     obtain ⟨H_, hc893⟩ := hb885 _ _ HR894 rfl
     replace H := H_; clear H_; try dsimp only [setn, addE, goneL] at H
     refine vr tbok 1 [] [(0, .int .i64 r5), (5, .pointer (some ⟨g28, 0, none⟩)), (7, .slice A438 (List.length x453.2.2.1) c439), (8, .slice A442 (List.length x453.2.2.2) c443), (9, .pointer (some ⟨g37, 0, none⟩)), (118, .slice A895 (List.length r881) c896), (119, .pointer (some ⟨g37, 3, none⟩))] [] E (by kernel_rfl) trivial ?_
     clear E; intro a E
     refine h_store (g := g37) (off := 3) H 5 rfl E rfl rfl rfl rfl tbok rfl rfl rfl rfl rfl ?_
     clear E; intro w901 a hc902 H_ E
     replace H := H_; clear H_; try dsimp only [setn, addE, goneL] at H
     refine wpList_nil ?_
     refine th_n ?_
     refine wp_seq ?_
     refine wp_seq ?_
     refine wp_region_lit ?_
     refine vr tbok 1 [] [(0, .int .i64 r5), (5, .pointer (some ⟨g28, 0, none⟩)), (7, .slice A438 (List.length x453.2.2.1) c439), (8, .slice A442 (List.length x453.2.2.2) c443), (9, .pointer (some ⟨g37, 0, none⟩)), (17, .int .i64 0)] [] E (by kernel_rfl) trivial ?_
     clear E; intro a E
     refine wpList_nil ?_
     refine th_n ?_
     refine wp_block ?_
     obtain ⟨x1084, hL1085, hK1086⟩ := bind_inv hP
     clear hP
     refine loop_cut (fun i_ a w_ => (i_ = 6 ∧ ∃ (x1089 : Unit), Fr a 183 [(5, .pointer (some ⟨g28, 0, none⟩)), (9, .pointer (some ⟨g37, 0, none⟩))] ∧ Hp S Fa w0 w_ [.row true cNode 64 A433 c434 x453.1, .mp Try.prog 64 g29 (List.map (fun p_ => (ndV p_.1, (fun u_ : Int => .int .i64 u_) p_.2)) x453.2.1), .box g28 44 [.int .i64 r5, .slice A433 (List.length x453.1) c434, .map (some g29)], .row true cBool 4 A818 c819 x825.1, .row true (cInt .i64) 3 A822 c823 x825.2, .row true cNode 64 A895 c896 r881, .box g37 26 [.int .i64 r5, .slice A818 (List.length x825.1) c819, .slice A822 (List.length x825.2) c823, .slice A895 (List.length r881) c896]] ∧ x1084 = Sum.inl x1089)) ?_ ?_
     ·
      refine loopV (fun m1088 a w1087 => ∃ (i955 : Int), Fr a 183 [(0, .int .i64 r5), (5, .pointer (some ⟨g28, 0, none⟩)), (7, .slice A438 (List.length x453.2.2.1) c439), (8, .slice A442 (List.length x453.2.2.2) c443), (9, .pointer (some ⟨g37, 0, none⟩)), (17, .int .i64 i955)] ∧ Hp S Fa w0 w1087 [.row true cNode 64 A433 c434 x453.1, .mp Try.prog 64 g29 (List.map (fun p_ => (ndV p_.1, (fun u_ : Int => .int .i64 u_) p_.2)) x453.2.1), .box g28 44 [.int .i64 r5, .slice A433 (List.length x453.1) c434, .map (some g29)], .row true (cSl (cInt .i64)) 23 A438 c439 x453.2.2.1, .row true (cInt .i64) 3 A442 c443 x453.2.2.2, .row true cBool 4 A818 c819 x825.1, .row true (cInt .i64) 3 A822 c823 x825.2, .row true cNode 64 A895 c896 r881, .box g37 26 [.int .i64 r5, .slice A818 (List.length x825.1) c819, .slice A822 (List.length x825.2) c823, .slice A895 (List.length r881) c896]] ∧ law14_GuardBack_l3 N r5 x453 r881 m1088 i955 = some x1084) N ?_ ?_
      ·
       exact ⟨0, E.pick _ ⟨rfl, rfl, rfl, rfl, rfl, rfl, trivial⟩, H.sel [9, 10, 11, 3, 4, 6, 7, 8, 5] rfl, hL1085⟩
      ·
       clear E H hL1085; intro m1088 a w1087 hI_
       obtain ⟨i955, E, H, hP⟩ := hI_
       obtain ⟨m1083, rfl⟩ : ∃ q_, m1088 = q_ + 1 := by cases m1088 with | zero => rw [law14_GuardBack_l3] at hP; cases hP | succ q_ => exact ⟨q_, rfl⟩
       rw [law14_GuardBack_l3] at hP
       refine wp_seq ?_
       refine wp_seq ?_
       refine wp_region_lit ?_
       refine vr tbok 4 [] [(0, .int .i64 r5), (5, .pointer (some ⟨g28, 0, none⟩)), (7, .slice A438 (List.length x453.2.2.1) c439), (8, .slice A442 (List.length x453.2.2.2) c443), (9, .pointer (some ⟨g37, 0, none⟩)), (17, .int .i64 i955), (123, .bool (decide (i955 < (((List.length x453.2.2.2) : Nat) : Int))))] [] E (by kernel_rfl) trivial ?_
       clear E; intro a E
       refine wpList_nil ?_
       refine th_n ?_
       refine E.cases (t := 123) rfl (fun hb_ E_ => ?_) (fun hb_ E_ => ?_)
       ·
        replace E := E_; clear E_
        have h1090 : i955 < (((List.length x453.2.2.2) : Nat) : Int) := of_decide_eq_true hb_
        clear hb_; replace hP := ite_t h1090 hP
        refine c_true E rfl ?_
        refine wp_skip ?_
        refine th_n ?_
        refine wp_seq ?_
        refine wp_block ?_
        refine wp_seq ?_
        obtain ⟨g1091, hP⟩ := ask_inv hP
        obtain ⟨b1092, e_b1092⟩ := H.raddr 4 rfl (idx_pos g1091)
        subst e_b1092
        obtain ⟨r1094, h1095, hP⟩ := bind_inv hP
        have HR1109 := H
        refine dr_start (S := fun w_ => Chg (atL []) w1087 w_) (by kernel_rfl) ?_
        intro w1106 hc1107
        have HS1108 : Chg (atL []) w1087 w1106 := hc1107.mono (fun _ _ h_ => h_.elim)
        replace H := H.ext hc1107
        refine dr tbok (by kernel_rfl) [0, 1, 2, 3, 4, 5, 6] [.slice A895 (List.length r881) c896, .int .i64 (List.getD x453.2.2.2 (Int.toNat i955) 0)] [(0, .int .i64 r5), (5, .pointer (some ⟨g28, 0, none⟩)), (7, .slice A438 (List.length x453.2.2.1) c439), (8, .slice (some ⟨b1092, 0, none⟩) (List.length x453.2.2.2) c443), (9, .pointer (some ⟨g37, 0, none⟩)), (17, .int .i64 i955), (127, .int .i64 r5), (129, .slice A895 (List.length r881) c896), (133, .int .i64 (List.getD x453.2.2.2 (Int.toNat i955) 0))] (fun w_ => [World.cell? w_ ⟨g37, 3, none⟩ = some (.slice A895 (List.length r881) c896), 0 ≤ i955 ∧ i955 < (((List.length x453.2.2.2) : Nat) : Int), World.cell? w_ ⟨b1092, 0 + (Int.toNat i955) * 1, none⟩ = some (.int .i64 (List.getD x453.2.2.2 (Int.toNat i955) 0))]) 6 E (fun _ _ => by kernel_rfl) (fun w_ hS_ => ⟨(HR1109.boxk [] hS_ 8 rfl rfl).cell (j := 3) rfl, g1091, Rds.at1 (HR1109.rdk [] hS_ 4 rds_row rfl) 0 g1091⟩) (by kernel_rfl) HS1108 ?_
        clear E; intro a E
        refine wpAnyH_all (rs := [7]) (by kernel_rfl) (by simp) ?_
        refine all1 ?_
        ·
         refine wpOp_of_list rfl ?_
         obtain ⟨Fa1110, Hc1111, hb1112⟩ := H.call [] [(7, false)] rfl rfl trivial
         refine e_call E rfl rfl Try.func11 rfl rfl rfl (guard_Table_calls A895 c896 r5 r881 (List.getD x453.2.2.2 (Int.toNat i955) 0) (H.rcap 7 rfl) Hc1111 h1095) ?_
         rintro v1113 w1114 a ⟨A1117, c1118, rfl, HR1115⟩ E_
         replace E := E_ _ rfl; clear E_
         obtain ⟨H_, hc1116⟩ := hb1112 _ _ HR1115 rfl
         replace HS1108 := HS1108.ext (callS_ext hc1116)
         replace H := H_; clear H_; try dsimp only [setn, addE, goneL] at H
         refine wpList_nil ?_
         refine th_n ⟨HS1108, ?_⟩
         refine dr tbok (by kernel_rfl) [8, 9, 10, 11, 12] [] [(0, .int .i64 r5), (5, .pointer (some ⟨g28, 0, none⟩)), (7, .slice A438 (List.length x453.2.2.1) c439), (8, .slice (some ⟨b1092, 0, none⟩) (List.length x453.2.2.2) c443), (9, .pointer (some ⟨g37, 0, none⟩)), (17, .int .i64 i955), (18, .slice A1117 (List.length r1094.1) c1118), (19, .int .i64 r1094.2)] (fun w_ => []) 0 E (fun _ _ => by kernel_rfl) (fun w_ hS_ => trivial) (by kernel_rfl) HS1108 ?_
         clear E; intro a E
         refine dr_done (by kernel_rfl) ?_
         clear HS1108 HR1109
         refine th_n ?_
         refine wp_seq ?_
         refine wp_seq ?_
         refine wp_region_lit ?_
         refine vr tbok 3 [] [(0, .int .i64 r5), (5, .pointer (some ⟨g28, 0, none⟩)), (7, .slice A438 (List.length x453.2.2.1) c439), (8, .slice (some ⟨b1092, 0, none⟩) (List.length x453.2.2.2) c443), (9, .pointer (some ⟨g37, 0, none⟩)), (17, .int .i64 i955), (18, .slice A1117 (List.length r1094.1) c1118), (139, .bool ((r1094.2 : Int) != 0))] [] E (by kernel_rfl) trivial ?_
         clear E; intro a E
         refine E.cases (t := 139) rfl (fun hb_ E_ => ?_) (fun hb_ E_ => ?_)
         ·
          replace E := E_; clear E_
          have h1120 : ¬ ((r1094.2 : Int) = 0) := bne_iff_ne.1 hb_
          clear hb_; replace hP := ite_f h1120 hP
          refine vr tbok 8 [] [(0, .int .i64 r5), (5, .pointer (some ⟨g28, 0, none⟩)), (7, .slice A438 (List.length x453.2.2.1) c439), (8, .slice (some ⟨b1092, 0, none⟩) (List.length x453.2.2.2) c443), (9, .pointer (some ⟨g37, 0, none⟩)), (17, .int .i64 i955), (140, .tuple #[]), (141, .tuple #[]), (142, .tuple #[]), (143, .tuple #[]), (144, .tuple #[]), (145, .tuple #[]), (146, .tuple #[]), (147, .bool true)] [] E (by kernel_rfl) trivial ?_
          clear E; intro a E
          refine wpList_nil ?_
          refine th_n ?_
          refine c_true E rfl ?_
          refine wp_seq ?_
          refine wp_region_lit ?_
          refine vr tbok 1 [] [(4, .bool false)] [] E (by kernel_rfl) trivial ?_
          clear E; intro a E
          refine wpList_nil ?_
          refine th_n ?_
          refine wp_ret ?_
          refine th_ret ?_
          refine bl_ret ?_
          refine th_ret ?_
          refine th_ret ?_
          refine .inr ⟨rfl, ?_⟩
          refine bl_ret ?_
          refine th_ret ?_
          have hx_ := Option.some.inj hP; subst hx_
          have hP : some (false) = some r := hK1086
          obtain rfl := Option.some.inj hP
          refine ret1 E rfl rfl ?_
          exact ⟨_, rfl, rfl, H.sel [] rfl⟩
         ·
          replace E := E_; clear E_
          have h1121 : (r1094.2 : Int) = 0 := bne_eq_false_iff_eq.1 hb_
          clear hb_; replace hP := ite_t h1121 hP
          obtain ⟨g1122, hP⟩ := ask_inv hP
          obtain ⟨b1123, e_b1123⟩ := H.raddr 3 rfl (idx_pos g1122)
          subst e_b1123
          obtain ⟨A1125, c1126, hl1127, hk1128, H⟩ := H.subSl 3 true (el_row rfl) g1122
          try dsimp only [addE] at H
          refine vr tbok 5 [.slice A1125 (List.length (List.getD x453.2.2.1 (Int.toNat i955) [])) c1126] [(0, .int .i64 r5), (5, .pointer (some ⟨g28, 0, none⟩)), (7, .slice (some ⟨b1123, 0, none⟩) (List.length x453.2.2.1) c439), (8, .slice (some ⟨b1092, 0, none⟩) (List.length x453.2.2.2) c443), (9, .pointer (some ⟨g37, 0, none⟩)), (17, .int .i64 i955), (139, .bool false), (140, .slice A1117 (List.length r1094.1) c1118), (141, .slice (some ⟨b1123, 0, none⟩) (List.length x453.2.2.1) c439), (142, .int .i64 i955), (143, .pointer (some ⟨b1123, 0 + (Int.toNat i955) * 1, none⟩)), (144, .slice A1125 (List.length (List.getD x453.2.2.1 (Int.toNat i955) [])) c1126)] [0 ≤ i955 ∧ i955 < (((List.length x453.2.2.1) : Nat) : Int), World.cell? w1114 ⟨b1123, 0 + (Int.toNat i955) * 1, none⟩ = some (.slice A1125 (List.length (List.getD x453.2.2.1 (Int.toNat i955) [])) c1126)] E (by kernel_rfl) ⟨g1122, hl1127⟩ ?_
          clear E; intro a E
          obtain ⟨r1130, h1131, hP⟩ := bind_inv hP
          obtain ⟨Fa1132, Hc1133, hb1134⟩ := H.call [] [(9, false), (10, false)] rfl rfl trivial
          refine e_call E rfl rfl Try.func13 rfl rfl rfl (kit_SameInts_calls A1117 c1118 A1125 c1126 r1094.1 (List.getD x453.2.2.1 (Int.toNat i955) []) (H.rcap 9 rfl) hk1128 Hc1133 h1131) ?_
          rintro v1135 w1136 a ⟨rfl, HR1137⟩ E_
          replace E := E_ _ rfl; clear E_
          obtain ⟨H_, hc1138⟩ := hb1134 _ _ HR1137 rfl
          replace H := H_; clear H_; try dsimp only [setn, addE, goneL] at H
          refine vr tbok 2 [] [(0, .int .i64 r5), (5, .pointer (some ⟨g28, 0, none⟩)), (7, .slice (some ⟨b1123, 0, none⟩) (List.length x453.2.2.1) c439), (8, .slice (some ⟨b1092, 0, none⟩) (List.length x453.2.2.2) c443), (9, .pointer (some ⟨g37, 0, none⟩)), (17, .int .i64 i955), (140, .slice A1117 (List.length r1094.1) c1118), (141, .slice (some ⟨b1123, 0, none⟩) (List.length x453.2.2.1) c439), (142, .int .i64 i955), (143, .pointer (some ⟨b1123, 0 + (Int.toNat i955) * 1, none⟩)), (144, .slice A1125 (List.length (List.getD x453.2.2.1 (Int.toNat i955) [])) c1126), (145, .bool r1130), (146, .bool (!r1130)), (147, .bool (!r1130))] [] E (by kernel_rfl) trivial ?_
          clear E; intro a E
          refine wpList_nil ?_
          refine th_n ?_
          refine E.cases (t := 147) rfl (fun hb_ E_ => ?_) (fun hb_ E_ => ?_)
          ·
           replace E := E_; clear E_
           have h1139 : ¬ (r1130 = true) := (ne_true_of_eq_false (not_t hb_))
           clear hb_; replace hP := ite_f h1139 hP
           refine c_true E rfl ?_
           refine wp_seq ?_
           refine wp_region_lit ?_
           refine vr tbok 1 [] [(4, .bool false)] [] E (by kernel_rfl) trivial ?_
           clear E; intro a E
           refine wpList_nil ?_
           refine th_n ?_
           refine wp_ret ?_
           refine th_ret ?_
           refine bl_ret ?_
           refine th_ret ?_
           refine th_ret ?_
           refine .inr ⟨rfl, ?_⟩
           refine bl_ret ?_
           refine th_ret ?_
           have hx_ := Option.some.inj hP; subst hx_
           have hP : some (false) = some r := hK1086
           obtain rfl := Option.some.inj hP
           refine ret1 E rfl rfl ?_
           exact ⟨_, rfl, rfl, H.sel [] rfl⟩
          ·
           replace E := E_; clear E_
           have h1140 : r1130 = true := (not_f hb_)
           clear hb_; replace hP := ite_t h1140 hP
           refine c_false E rfl ?_
           refine wp_skip ?_
           refine th_n ?_
           refine wp_seq ?_
           refine wp_region_lit ?_
           refine vr tbok 1 [] [(0, .int .i64 r5), (5, .pointer (some ⟨g28, 0, none⟩)), (7, .slice (some ⟨b1123, 0, none⟩) (List.length x453.2.2.1) c439), (8, .slice (some ⟨b1092, 0, none⟩) (List.length x453.2.2.2) c443), (9, .pointer (some ⟨g37, 0, none⟩)), (17, .int .i64 i955), (20, .int .i64 0), (140, .slice A1117 (List.length r1094.1) c1118), (141, .slice (some ⟨b1123, 0, none⟩) (List.length x453.2.2.1) c439), (142, .int .i64 i955), (143, .pointer (some ⟨b1123, 0 + (Int.toNat i955) * 1, none⟩)), (144, .slice A1125 (List.length (List.getD x453.2.2.1 (Int.toNat i955) [])) c1126), (145, .bool r1130), (146, .bool (!r1130))] [] E (by kernel_rfl) trivial ?_
           clear E; intro a E
           refine wpList_nil ?_
           refine th_n ?_
           refine wp_block ?_
           obtain ⟨x1216, hL1217, hK1218⟩ := bind_inv hP
           clear hP
           refine loop_cut (fun i_ a w_ => (i_ = 8 ∧ ∃ (x1221 : Unit), Fr a 183 [(0, .int .i64 r5), (5, .pointer (some ⟨g28, 0, none⟩)), (7, .slice (some ⟨b1123, 0, none⟩) (List.length x453.2.2.1) c439), (8, .slice (some ⟨b1092, 0, none⟩) (List.length x453.2.2.2) c443), (9, .pointer (some ⟨g37, 0, none⟩)), (17, .int .i64 i955), (140, .slice A1117 (List.length r1094.1) c1118), (141, .slice (some ⟨b1123, 0, none⟩) (List.length x453.2.2.1) c439), (142, .int .i64 i955), (144, .slice A1125 (List.length (List.getD x453.2.2.1 (Int.toNat i955) [])) c1126), (145, .bool r1130), (146, .bool (!r1130))] ∧ Hp S Fa w0 w_ [.row true cNode 64 A433 c434 x453.1, .mp Try.prog 64 g29 (List.map (fun p_ => (ndV p_.1, (fun u_ : Int => .int .i64 u_) p_.2)) x453.2.1), .box g28 44 [.int .i64 r5, .slice A433 (List.length x453.1) c434, .map (some g29)], .row true (cSl (cInt .i64)) 23 (some ⟨b1123, 0, none⟩) c439 x453.2.2.1, .row true (cInt .i64) 3 (some ⟨b1092, 0, none⟩) c443 x453.2.2.2, .row true cBool 4 A818 c819 x825.1, .row true (cInt .i64) 3 A822 c823 x825.2, .row true cNode 64 A895 c896 r881, .box g37 26 [.int .i64 r5, .slice A818 (List.length x825.1) c819, .slice A822 (List.length x825.2) c823, .slice A895 (List.length r881) c896], .row true (cInt .i64) 3 A1117 c1118 r1094.1, .ro true (cInt .i64) A1125 (List.getD x453.2.2.1 (Int.toNat i955) [])] ∧ x1216 = Sum.inl x1221)) ?_ ?_
           ·
            refine loopV (fun m1220 a w1219 => ∃ (k1177 : Int), Fr a 183 [(0, .int .i64 r5), (5, .pointer (some ⟨g28, 0, none⟩)), (7, .slice (some ⟨b1123, 0, none⟩) (List.length x453.2.2.1) c439), (8, .slice (some ⟨b1092, 0, none⟩) (List.length x453.2.2.2) c443), (9, .pointer (some ⟨g37, 0, none⟩)), (17, .int .i64 i955), (20, .int .i64 k1177), (140, .slice A1117 (List.length r1094.1) c1118), (141, .slice (some ⟨b1123, 0, none⟩) (List.length x453.2.2.1) c439), (142, .int .i64 i955), (144, .slice A1125 (List.length (List.getD x453.2.2.1 (Int.toNat i955) [])) c1126), (145, .bool r1130), (146, .bool (!r1130))] ∧ Hp S Fa w0 w1219 [.row true cNode 64 A433 c434 x453.1, .mp Try.prog 64 g29 (List.map (fun p_ => (ndV p_.1, (fun u_ : Int => .int .i64 u_) p_.2)) x453.2.1), .box g28 44 [.int .i64 r5, .slice A433 (List.length x453.1) c434, .map (some g29)], .row true (cSl (cInt .i64)) 23 (some ⟨b1123, 0, none⟩) c439 x453.2.2.1, .row true (cInt .i64) 3 (some ⟨b1092, 0, none⟩) c443 x453.2.2.2, .row true cBool 4 A818 c819 x825.1, .row true (cInt .i64) 3 A822 c823 x825.2, .row true cNode 64 A895 c896 r881, .box g37 26 [.int .i64 r5, .slice A818 (List.length x825.1) c819, .slice A822 (List.length x825.2) c823, .slice A895 (List.length r881) c896], .row true (cInt .i64) 3 A1117 c1118 r1094.1, .ro true (cInt .i64) A1125 (List.getD x453.2.2.1 (Int.toNat i955) [])] ∧ law14_GuardBack_l4 N x453 i955 m1220 k1177 = some x1216) N ?_ ?_
            ·
             exact ⟨0, E.pick _ ⟨rfl, rfl, rfl, rfl, rfl, rfl, rfl, rfl, rfl, rfl, rfl, rfl, rfl, trivial⟩, H.sel [0, 1, 2, 3, 4, 5, 6, 7, 8, 9, 10] rfl, hL1217⟩
            ·
             clear E H hL1217; intro m1220 a w1219 hI_
             obtain ⟨k1177, E, H, hP⟩ := hI_
             obtain ⟨m1215, rfl⟩ : ∃ q_, m1220 = q_ + 1 := by cases m1220 with | zero => rw [law14_GuardBack_l4] at hP; cases hP | succ q_ => exact ⟨q_, rfl⟩
             rw [law14_GuardBack_l4] at hP
             refine wp_seq ?_
             refine wp_seq ?_
             refine wp_region_lit ?_
             refine vr tbok 3 [] [(0, .int .i64 r5), (5, .pointer (some ⟨g28, 0, none⟩)), (7, .slice (some ⟨b1123, 0, none⟩) (List.length x453.2.2.1) c439), (8, .slice (some ⟨b1092, 0, none⟩) (List.length x453.2.2.2) c443), (9, .pointer (some ⟨g37, 0, none⟩)), (17, .int .i64 i955), (20, .int .i64 k1177), (140, .slice A1117 (List.length r1094.1) c1118), (141, .slice (some ⟨b1123, 0, none⟩) (List.length x453.2.2.1) c439), (142, .int .i64 i955), (144, .slice A1125 (List.length (List.getD x453.2.2.1 (Int.toNat i955) [])) c1126), (145, .bool r1130), (146, .bool (!r1130)), (150, .bool (decide (k1177 < i955)))] [] E (by kernel_rfl) trivial ?_
             clear E; intro a E
             refine wpList_nil ?_
             refine th_n ?_
             refine E.cases (t := 150) rfl (fun hb_ E_ => ?_) (fun hb_ E_ => ?_)
             ·
              replace E := E_; clear E_
              have h1222 : k1177 < i955 := of_decide_eq_true hb_
              clear hb_; replace hP := ite_t h1222 hP
              refine c_true E rfl ?_
              refine wp_skip ?_
              refine th_n ?_
              refine wp_seq ?_
              refine wp_block ?_
              refine wp_seq ?_
              obtain ⟨g1223, hP⟩ := ask_inv hP
              obtain ⟨A1224, c1225, hl1226, hk1227, H⟩ := H.subSl 3 true (el_row rfl) g1122
              try dsimp only [addE] at H
              obtain ⟨g1229, hP⟩ := ask_inv hP
              obtain ⟨A1230, c1231, hl1232, hk1233, H⟩ := H.subSl 3 true (el_row rfl) g1229
              try dsimp only [addE] at H
              obtain ⟨r1235, h1236, hP⟩ := bind_inv hP
              have HR1247 := H
              refine dr_start (S := fun w_ => Chg (atL []) w1219 w_) (by kernel_rfl) ?_
              intro w1244 hc1245
              have HS1246 : Chg (atL []) w1219 w1244 := hc1245.mono (fun _ _ h_ => h_.elim)
              replace H := H.ext hc1245
              refine dr tbok (by kernel_rfl) [0, 1, 2, 3, 4, 5, 6, 7, 8, 9, 10, 11, 12, 13, 14, 15, 16] [.int .i64 (List.getD x453.2.2.2 (Int.toNat i955) 0), .int .i64 (List.getD x453.2.2.2 (Int.toNat k1177) 0), .slice A1224 (List.length (List.getD x453.2.2.1 (Int.toNat i955) [])) c1225, .slice A1230 (List.length (List.getD x453.2.2.1 (Int.toNat k1177) [])) c1231] [(0, .int .i64 r5), (5, .pointer (some ⟨g28, 0, none⟩)), (7, .slice (some ⟨b1123, 0, none⟩) (List.length x453.2.2.1) c439), (8, .slice (some ⟨b1092, 0, none⟩) (List.length x453.2.2.2) c443), (9, .pointer (some ⟨g37, 0, none⟩)), (17, .int .i64 i955), (20, .int .i64 k1177), (140, .slice A1117 (List.length r1094.1) c1118), (141, .slice (some ⟨b1123, 0, none⟩) (List.length x453.2.2.1) c439), (142, .int .i64 i955), (144, .slice A1125 (List.length (List.getD x453.2.2.1 (Int.toNat i955) [])) c1126), (145, .bool r1130), (146, .bool (!r1130)), (161, .bool (((List.getD x453.2.2.2 (Int.toNat i955) 0) : Int) == (List.getD x453.2.2.2 (Int.toNat k1177) 0))), (165, .slice A1224 (List.length (List.getD x453.2.2.1 (Int.toNat i955) [])) c1225), (169, .slice A1230 (List.length (List.getD x453.2.2.1 (Int.toNat k1177) [])) c1231)] (fun w_ => [0 ≤ i955 ∧ i955 < (((List.length x453.2.2.2) : Nat) : Int), World.cell? w_ ⟨b1092, 0 + (Int.toNat i955) * 1, none⟩ = some (.int .i64 (List.getD x453.2.2.2 (Int.toNat i955) 0)), 0 ≤ k1177 ∧ k1177 < (((List.length x453.2.2.2) : Nat) : Int), World.cell? w_ ⟨b1092, 0 + (Int.toNat k1177) * 1, none⟩ = some (.int .i64 (List.getD x453.2.2.2 (Int.toNat k1177) 0)), 0 ≤ i955 ∧ i955 < (((List.length x453.2.2.1) : Nat) : Int), World.cell? w_ ⟨b1123, 0 + (Int.toNat i955) * 1, none⟩ = some (.slice A1224 (List.length (List.getD x453.2.2.1 (Int.toNat i955) [])) c1225), 0 ≤ k1177 ∧ k1177 < (((List.length x453.2.2.1) : Nat) : Int), World.cell? w_ ⟨b1123, 0 + (Int.toNat k1177) * 1, none⟩ = some (.slice A1230 (List.length (List.getD x453.2.2.1 (Int.toNat k1177) [])) c1231)]) 2 E (fun _ _ => by kernel_rfl) (fun w_ hS_ => ⟨g1091, Rds.at1 (HR1247.rdk [] hS_ 4 rds_row rfl) 0 g1091, g1223, Rds.at1 (HR1247.rdk [] hS_ 4 rds_row rfl) 0 g1223, g1122, hS_.cell (hl1226) (HR1247.blk [] 3 rds_row (idx_pos g1122) rfl), g1229, hS_.cell (hl1232) (HR1247.blk [] 3 rds_row (idx_pos g1229) rfl)⟩) (by kernel_rfl) HS1246 ?_
              clear E; intro a E
              refine wpAnyH_all (rs := [17]) (by kernel_rfl) (by simp) ?_
              refine all1 ?_
              ·
               refine wpOp_of_list rfl ?_
               obtain ⟨Fa1248, Hc1249, hb1250⟩ := H.call [] [(11, false), (12, false)] rfl rfl trivial
               refine e_call E rfl rfl Try.func13 rfl rfl rfl (kit_SameInts_calls A1224 c1225 A1230 c1231 (List.getD x453.2.2.1 (Int.toNat i955) []) (List.getD x453.2.2.1 (Int.toNat k1177) []) hk1227 hk1233 Hc1249 h1236) ?_
               rintro v1251 w1252 a ⟨rfl, HR1253⟩ E_
               replace E := E_ _ rfl; clear E_
               obtain ⟨H_, hc1254⟩ := hb1250 _ _ HR1253 rfl
               replace HS1246 := HS1246.ext (callS_ext hc1254)
               replace H := H_; clear H_; try dsimp only [setn, addE, goneL] at H
               refine wpList_nil ?_
               refine th_n ⟨HS1246, ?_⟩
               refine dr tbok (by kernel_rfl) [18] [] [(0, .int .i64 r5), (5, .pointer (some ⟨g28, 0, none⟩)), (7, .slice (some ⟨b1123, 0, none⟩) (List.length x453.2.2.1) c439), (8, .slice (some ⟨b1092, 0, none⟩) (List.length x453.2.2.2) c443), (9, .pointer (some ⟨g37, 0, none⟩)), (17, .int .i64 i955), (20, .int .i64 k1177), (140, .slice A1117 (List.length r1094.1) c1118), (141, .slice (some ⟨b1123, 0, none⟩) (List.length x453.2.2.1) c439), (142, .int .i64 i955), (144, .slice A1125 (List.length (List.getD x453.2.2.1 (Int.toNat i955) [])) c1126), (145, .bool r1130), (146, .bool (!r1130)), (171, .bool (!((((List.getD x453.2.2.2 (Int.toNat i955) 0) : Int) == (List.getD x453.2.2.2 (Int.toNat k1177) 0)) == r1235)))] (fun w_ => []) 0 E (fun _ _ => by kernel_rfl) (fun w_ hS_ => trivial) (by kernel_rfl) HS1246 ?_
               clear E; intro a E
               refine dr_done (by kernel_rfl) ?_
               clear HS1246 HR1247
               refine th_n ?_
               refine E.cases (t := 171) rfl (fun hb_ E_ => ?_) (fun hb_ E_ => ?_)
               ·
                replace E := E_; clear E_
                have h1255 : ¬ ((((List.getD x453.2.2.2 (Int.toNat i955) 0) : Int) == (List.getD x453.2.2.2 (Int.toNat k1177) 0)) = r1235) := (by simpa using hb_)
                clear hb_; replace hP := ite_f h1255 hP
                refine c_true E rfl ?_
                refine wp_seq ?_
                refine wp_region_lit ?_
                refine vr tbok 1 [] [(4, .bool false)] [] E (by kernel_rfl) trivial ?_
                clear E; intro a E
                refine wpList_nil ?_
                refine th_n ?_
                refine wp_ret ?_
                refine bl_ret ?_
                refine th_ret ?_
                refine th_ret ?_
                refine .inr ⟨rfl, ?_⟩
                refine bl_ret ?_
                refine bl_ret ?_
                refine th_ret ?_
                refine th_ret ?_
                refine .inr ⟨rfl, ?_⟩
                refine bl_ret ?_
                refine th_ret ?_
                have hx_ := Option.some.inj hP; subst hx_
                have hP : some (Sum.inr false) = some x1084 := hK1218
                have hx_ := Option.some.inj hP; subst hx_
                have hP : some (false) = some r := hK1086
                obtain rfl := Option.some.inj hP
                refine ret1 E rfl rfl ?_
                exact ⟨_, rfl, rfl, H.sel [] rfl⟩
               ·
                replace E := E_; clear E_
                have h1256 : (((List.getD x453.2.2.2 (Int.toNat i955) 0) : Int) == (List.getD x453.2.2.2 (Int.toNat k1177) 0)) = r1235 := (by simpa using hb_)
                clear hb_; replace hP := ite_t h1256 hP
                refine c_false E rfl ?_
                refine wp_skip ?_
                refine bl_n ?_
                refine th_n ?_
                refine wp_region_lit ?_
                obtain ⟨g1257, hP⟩ := ask_inv hP
                refine vr tbok 3 [.int .i64 (k1177 + 1)] [(0, .int .i64 r5), (5, .pointer (some ⟨g28, 0, none⟩)), (7, .slice (some ⟨b1123, 0, none⟩) (List.length x453.2.2.1) c439), (8, .slice (some ⟨b1092, 0, none⟩) (List.length x453.2.2.2) c443), (9, .pointer (some ⟨g37, 0, none⟩)), (17, .int .i64 i955), (20, .int .i64 (k1177 + 1)), (140, .slice A1117 (List.length r1094.1) c1118), (141, .slice (some ⟨b1123, 0, none⟩) (List.length x453.2.2.1) c439), (142, .int .i64 i955), (144, .slice A1125 (List.length (List.getD x453.2.2.1 (Int.toNat i955) [])) c1126), (145, .bool r1130), (146, .bool (!r1130))] [IntKind.i64.wrap (k1177 + 1) = k1177 + 1] E (by kernel_rfl) (wrap_in g1257) ?_
                clear E; intro a E
                refine wpList_nil ?_
                exact th_n ⟨m1215, Nat.lt_succ_self _, k1177 + 1, E.pick _ ⟨rfl, rfl, rfl, rfl, rfl, rfl, rfl, rfl, rfl, rfl, rfl, rfl, rfl, trivial⟩, H.sel [0, 1, 2, 3, 4, 5, 6, 7, 8, 9, 10] rfl, hP⟩
             ·
              replace E := E_; clear E_
              have h1258 : ¬ (k1177 < i955) := of_decide_eq_false hb_
              clear hb_; replace hP := ite_f h1258 hP
              refine c_false E rfl ?_
              refine wp_exit ?_
              refine th_exit ?_
              have hx_ := Option.some.inj hP
              refine th_exit (.inl ⟨8, rfl, ?_⟩)
              exact ⟨rfl, (), E.pick _ ⟨rfl, rfl, rfl, rfl, rfl, rfl, rfl, rfl, rfl, rfl, rfl, rfl, trivial⟩, H.sel [0, 1, 2, 3, 4, 5, 6, 7, 8, 9, 10] rfl, hx_.symm⟩
           ·
            clear E H hL1217; intro i_ a w1219 hM_
            obtain ⟨rfl, x1221, E, H, hx_⟩ := hM_
            subst hx_; have hP := elim_l hK1218
            clear hK1218
            refine bl_hit ?_
            refine bl_n ?_
            refine th_n ?_
            refine wp_region_lit ?_
            obtain ⟨g1260, hP⟩ := ask_inv hP
            refine vr tbok 3 [.int .i64 (i955 + 1)] [(0, .int .i64 r5), (5, .pointer (some ⟨g28, 0, none⟩)), (7, .slice (some ⟨b1123, 0, none⟩) (List.length x453.2.2.1) c439), (8, .slice (some ⟨b1092, 0, none⟩) (List.length x453.2.2.2) c443), (9, .pointer (some ⟨g37, 0, none⟩)), (17, .int .i64 (i955 + 1)), (140, .slice A1117 (List.length r1094.1) c1118), (141, .slice (some ⟨b1123, 0, none⟩) (List.length x453.2.2.1) c439), (142, .int .i64 i955), (144, .slice A1125 (List.length (List.getD x453.2.2.1 (Int.toNat i955) [])) c1126), (145, .bool r1130), (146, .bool (!r1130))] [IntKind.i64.wrap (i955 + 1) = i955 + 1] E (by kernel_rfl) (wrap_in g1260) ?_
            clear E; intro a E
            refine wpList_nil ?_
            exact th_n ⟨m1083, Nat.lt_succ_self _, i955 + 1, E.pick _ ⟨rfl, rfl, rfl, rfl, rfl, rfl, trivial⟩, H.sel [0, 1, 2, 3, 4, 5, 6, 7, 8] rfl, hP⟩
       ·
        replace E := E_; clear E_
        have h1261 : ¬ (i955 < (((List.length x453.2.2.2) : Nat) : Int)) := of_decide_eq_false hb_
        clear hb_; replace hP := ite_f h1261 hP
        refine c_false E rfl ?_
        refine wp_exit ?_
        refine th_exit ?_
        have hx_ := Option.some.inj hP
        refine th_exit (.inl ⟨6, rfl, ?_⟩)
        exact ⟨rfl, (), E.pick _ ⟨rfl, rfl, trivial⟩, H.sel [0, 1, 2, 5, 6, 7, 8] rfl, hx_.symm⟩
     ·
      clear E H hL1085; intro i_ a w1087 hM_
      obtain ⟨rfl, x1089, E, H, hx_⟩ := hM_
      subst hx_; have hP := elim_l hK1086
      clear hK1086
      refine bl_hit ?_
      refine th_n ?_
      refine wp_seq ?_
      obtain ⟨r1263, h1264, hP⟩ := bind_inv hP
      by_cases h1272 : (r1263 : Int) = 0
      ·
       replace hP := ite_t h1272 hP
       obtain ⟨r1273, h1274, hP⟩ := bind_inv hP
       have HR1293 := H
       refine dr_start (S := fun w_ => Chg (atL [.row true cNode 64 A433 c434 x453.1, .mp Try.prog 64 g29 (List.map (fun p_ => (ndV p_.1, (fun u_ : Int => .int .i64 u_) p_.2)) x453.2.1), .box g28 44 [.int .i64 r5, .slice A433 (List.length x453.1) c434, .map (some g29)]]) w1087 w_) (by kernel_rfl) ?_
       intro w1290 hc1291
       have HS1292 : Chg (atL [.row true cNode 64 A433 c434 x453.1, .mp Try.prog 64 g29 (List.map (fun p_ => (ndV p_.1, (fun u_ : Int => .int .i64 u_) p_.2)) x453.2.1), .box g28 44 [.int .i64 r5, .slice A433 (List.length x453.1) c434, .map (some g29)]]) w1087 w1290 := hc1291.mono (fun _ _ h_ => h_.elim)
       replace H := H.ext hc1291
       refine dr tbok (by kernel_rfl) [0] [.agg #[.int .i64 r5, .slice A818 (List.length x825.1) c819, .slice A822 (List.length x825.2) c823, .slice A895 (List.length r881) c896]] [(5, .pointer (some ⟨g28, 0, none⟩)), (9, .pointer (some ⟨g37, 0, none⟩)), (172, .agg #[.int .i64 r5, .slice A818 (List.length x825.1) c819, .slice A822 (List.length x825.2) c823, .slice A895 (List.length r881) c896])] (fun w_ => [cellsAt w_ g37 (0) [.int .i64 r5, .slice A818 (List.length x825.1) c819, .slice A822 (List.length x825.2) c823, .slice A895 (List.length r881) c896]]) 11 E (fun _ _ => by kernel_rfl) (fun w_ hS_ => ((HR1293.boxk [0, 1, 2] hS_ 6 rfl rfl).sub 0 _ rfl)) (by kernel_rfl) HS1292 ?_
       clear E; intro a E
       refine wpAnyH_all (rs := [1]) (by kernel_rfl) (by simp) ?_
       refine all1 ?_
       ·
        refine wpOp_of_list rfl ?_
        obtain ⟨Fa1294, Hc1295, hb1296⟩ := H.call [] [(3, false), (4, false), (5, false)] rfl rfl trivial
        refine e_call E rfl rfl Try.func14 rfl rfl rfl (guard_Check_calls A818 c819 A822 c823 A895 c896 r5 x825.1 x825.2 r881 (H.rcap 3 rfl) (H.rcap 4 rfl) (H.rcap 5 rfl) Hc1295 h1264) ?_
        rintro v1297 w1298 a ⟨rfl, HR1299⟩ E_
        replace E := E_ _ rfl; clear E_
        obtain ⟨H_, hc1300⟩ := hb1296 _ _ HR1299 rfl
        replace HS1292 := HS1292.ext (callS_ext hc1300)
        replace H := H_; clear H_; try dsimp only [setn, addE, goneL] at H
        refine wpList_nil ?_
        refine th_n ⟨HS1292, ?_⟩
        refine dr tbok (by kernel_rfl) [2, 3] [] [(5, .pointer (some ⟨g28, 0, none⟩)), (9, .pointer (some ⟨g37, 0, none⟩)), (175, .bool ((r1263 : Int) == 0))] (fun w_ => []) 8 E (fun _ _ => by kernel_rfl) (fun w_ hS_ => trivial) (by kernel_rfl) HS1292 ?_
        clear E; intro a E
        replace E := E.same (t := 175) (u := .bool true) rfl (congrArg Value.bool (beq_iff_eq.2 h1272))
        refine dr tbok (by kernel_rfl) [4, 6, 7, 8] [.slice A895 (List.length r881) c896] [(175, .bool true), (176, .pointer (some ⟨g28, 0, none⟩)), (180, .int .i64 (((List.length r881) : Nat) : Int))] (fun w_ => [World.cell? w_ ⟨g37, 3, none⟩ = some (.slice A895 (List.length r881) c896)]) 4 E (fun _ _ => by kernel_rfl) (fun w_ hS_ => ((HR1293.boxk [0, 1, 2] hS_ 6 rfl rfl).cell (j := 3) rfl)) (by kernel_rfl) HS1292 ?_
        clear E; intro a E
        refine wpAnyH_all (rs := [5]) (by kernel_rfl) (by simp) ?_
        refine all1 ?_
        ·
         refine wpOp_of_list rfl ?_
         obtain ⟨Fa1301, Hc1302, hb1303⟩ := H.call [2, 0, 1] [] rfl rfl ⟨flat_plain, trivial⟩
         refine e_call E rfl rfl Try.func19 rfl rfl rfl (guard_Store_Len_calls g28 A433 c434 g29 r5 x453.1 x453.2.1  Hc1302 h1274) ?_
         intro v1309 w1308 a hR1310 E_
         obtain ⟨x_, hr_, rfl, HR1312⟩ := hR1310
         subst hr_
         replace E := E_ _ rfl; clear E_
         obtain ⟨H_, hc1311⟩ := hb1303 _ _ HR1312 rfl
         replace HS1292 := HS1292.trans hc1311 (fun k_ hk_ h_ => h_.elim (fun h_ => by have hs_ := HS1292.size; exfalso; omega) (fun h_ => h_.elim (fun h_ => (fun _ _ h_ => Or.inr (Or.inr (Or.inl h_))) k_ hk_ h_) (fun h_ => h_.elim (fun h_ => (fun _ _ h_ => Or.inl h_) k_ hk_ h_) (fun h_ => h_.elim (fun h_ => (fun _ _ h_ => Or.inr (Or.inl h_)) k_ hk_ h_) (fun h_ => h_.elim)))))
         replace H := H_; clear H_; try dsimp only [setn, addE, goneL] at H
         refine wpList_nil ?_
         refine th_n ⟨HS1292, ?_⟩
         refine dr tbok (by kernel_rfl) [9, 10, 11] [] [(4, .bool ((r1273 : Int) == (((List.length r881) : Nat) : Int))), (175, .bool true)] (fun w_ => []) 0 E (fun _ _ => by kernel_rfl) (fun w_ hS_ => trivial) (by kernel_rfl) HS1292 ?_
         clear E; intro a E
         refine dr_done (by kernel_rfl) ?_
         clear HS1292 HR1293
         refine th_n ?_
         refine wp_ret ?_
         obtain rfl := Option.some.inj hP
         refine ret1 E rfl rfl ?_
         exact ⟨_, rfl, rfl, H.sel [] rfl⟩
      ·
       replace hP := ite_f h1272 hP
       have HR1319 := H
       refine dr_start (S := fun w_ => Chg (atL []) w1087 w_) (by kernel_rfl) ?_
       intro w1316 hc1317
       have HS1318 : Chg (atL []) w1087 w1316 := hc1317.mono (fun _ _ h_ => h_.elim)
       replace H := H.ext hc1317
       refine dr tbok (by kernel_rfl) [0] [.agg #[.int .i64 r5, .slice A818 (List.length x825.1) c819, .slice A822 (List.length x825.2) c823, .slice A895 (List.length r881) c896]] [(5, .pointer (some ⟨g28, 0, none⟩)), (9, .pointer (some ⟨g37, 0, none⟩)), (172, .agg #[.int .i64 r5, .slice A818 (List.length x825.1) c819, .slice A822 (List.length x825.2) c823, .slice A895 (List.length r881) c896])] (fun w_ => [cellsAt w_ g37 (0) [.int .i64 r5, .slice A818 (List.length x825.1) c819, .slice A822 (List.length x825.2) c823, .slice A895 (List.length r881) c896]]) 11 E (fun _ _ => by kernel_rfl) (fun w_ hS_ => ((HR1319.boxk [] hS_ 6 rfl rfl).sub 0 _ rfl)) (by kernel_rfl) HS1318 ?_
       clear E; intro a E
       refine wpAnyH_all (rs := [1]) (by kernel_rfl) (by simp) ?_
       refine all1 ?_
       ·
        refine wpOp_of_list rfl ?_
        obtain ⟨Fa1320, Hc1321, hb1322⟩ := H.call [] [(3, false), (4, false), (5, false)] rfl rfl trivial
        refine e_call E rfl rfl Try.func14 rfl rfl rfl (guard_Check_calls A818 c819 A822 c823 A895 c896 r5 x825.1 x825.2 r881 (H.rcap 3 rfl) (H.rcap 4 rfl) (H.rcap 5 rfl) Hc1321 h1264) ?_
        rintro v1323 w1324 a ⟨rfl, HR1325⟩ E_
        replace E := E_ _ rfl; clear E_
        obtain ⟨H_, hc1326⟩ := hb1322 _ _ HR1325 rfl
        replace HS1318 := HS1318.ext (callS_ext hc1326)
        replace H := H_; clear H_; try dsimp only [setn, addE, goneL] at H
        refine wpList_nil ?_
        refine th_n ⟨HS1318, ?_⟩
        refine dr tbok (by kernel_rfl) [2, 3] [] [(5, .pointer (some ⟨g28, 0, none⟩)), (9, .pointer (some ⟨g37, 0, none⟩)), (175, .bool ((r1263 : Int) == 0))] (fun w_ => []) 8 E (fun _ _ => by kernel_rfl) (fun w_ hS_ => trivial) (by kernel_rfl) HS1318 ?_
        clear E; intro a E
        replace E := E.same (t := 175) (u := .bool false) rfl (congrArg Value.bool (beq_eq_false_iff_ne.2 h1272))
        refine dr tbok (by kernel_rfl) [4, 5, 6, 7, 8, 9, 10, 11] [] [(4, .bool false), (175, .bool false)] (fun w_ => []) 0 E (fun _ _ => by kernel_rfl) (fun w_ hS_ => trivial) (by kernel_rfl) HS1318 ?_
        clear E; intro a E
        refine dr_done (by kernel_rfl) ?_
        clear HS1318 HR1319
        refine th_n ?_
        refine wp_ret ?_
        obtain rfl := Option.some.inj hP
        refine ret1 E rfl rfl ?_
        exact ⟨_, rfl, rfl, H.sel [] rfl⟩

end Go.V
