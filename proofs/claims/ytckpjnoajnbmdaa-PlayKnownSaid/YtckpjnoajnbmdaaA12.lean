/- Plain functions, and the calls that give them. -/
import Derived.Test.YtckpjnoajnbmdaaA11
set_option linter.all false
set_option linter.unusedVariables false
set_option linter.unnecessarySimpa false
set_option linter.unusedSimpArgs false
namespace Go.V
open Go Go.Proofs
/-! rejoinder/rejoinderlaw25.awake -/
def law25_awake_f1 (N : Nat) : Option Unit :=
    some ()
def law25_awake_f0 (N : Nat) : Option Unit :=
    Option.bind (law25_awake_f1 N) fun x78 =>
    some ()
def law25_awake_f3 (N : Nat) : Option Unit :=
    some ()
def law25_awake_f2 (N : Nat) : Option Unit :=
    Option.bind (law25_awake_f3 N) fun x90 =>
    some ()
def law25_awake (N : Nat) : Option Bool :=
  Option.bind (law23_Until N) fun r1 =>
  Option.bind (law25_begun N r1.1 r1.2.1 r1.2.2.1 r1.2.2.2 (1, 2)) fun r19 =>
  Sum.elim (fun x59 =>
    if x59.2.2.2.2 = true then
      Option.bind (law25_awake_f0 N) fun x75 =>
      Option.bind (law25_awake_f2 N) fun x87 =>
      some false
    else
      some false)
   (fun x60 =>
    if x60.2.2.2.2.2.2.2.2.2.2.2 = true then
      Option.bind (play_Referee_State N r1.1 x60.1 x60.2.1 x60.2.2.1 (1, 2) x60.2.2.2.1 x60.2.2.2.2.1 x60.2.2.2.2.2.1 x60.2.2.2.2.2.2.1 0 [] true) fun r117 =>
      if (r117 : Int) = 0 then
        Option.bind (play_Referee_Rank N r1.1 x60.1 x60.2.1 x60.2.2.1 (1, 2) x60.2.2.2.1 x60.2.2.2.2.1 x60.2.2.2.2.2.1 x60.2.2.2.2.2.2.1 0 [] true) fun r135 =>
        if (r135 : Int) = 1 then
          Option.bind (play_Referee_Over N r1.1 x60.1 x60.2.1 x60.2.2.1 (1, 2) x60.2.2.2.1 x60.2.2.2.2.1 x60.2.2.2.2.2.1 x60.2.2.2.2.2.2.1 0 [] true) fun r153 =>
          if r153 = true then
            some false
          else
            Option.bind (play_Referee_Move N r1.1 x60.1 x60.2.1 x60.2.2.1 (1, 2) x60.2.2.2.1 x60.2.2.2.2.1 x60.2.2.2.2.2.1 x60.2.2.2.2.2.2.1 0 [] true 1) fun r171 =>
            if (r171.1 : Int) = 3 then
              if (r171.2.1 : Int) = 0 then
                Option.bind (play_Referee_State N r1.1 x60.1 x60.2.1 x60.2.2.1 (1, 2) x60.2.2.2.1 x60.2.2.2.2.1 x60.2.2.2.2.2.1 x60.2.2.2.2.2.2.1 r171.2.2.1 r171.2.2.2 true) fun r191 =>
                if (r191 : Int) = 2 then
                  Option.bind (play_Referee_Rank N r1.1 x60.1 x60.2.1 x60.2.2.1 (1, 2) x60.2.2.2.1 x60.2.2.2.2.1 x60.2.2.2.2.2.1 x60.2.2.2.2.2.2.1 r171.2.2.1 r171.2.2.2 true) fun r208 =>
                  if (r208 : Int) = 0 then
                    Option.bind (play_Referee_Over N r1.1 x60.1 x60.2.1 x60.2.2.1 (1, 2) x60.2.2.2.1 x60.2.2.2.2.1 x60.2.2.2.2.2.1 x60.2.2.2.2.2.2.1 r171.2.2.1 r171.2.2.2 true) fun r225 =>
                    if r225 = true then
                      Option.bind (play_Referee_Trace N r1.1 x60.1 x60.2.1 x60.2.2.1 (1, 2) x60.2.2.2.1 x60.2.2.2.2.1 x60.2.2.2.2.2.1 x60.2.2.2.2.2.2.1 r171.2.2.1 r171.2.2.2 true) fun r242 =>
                      Option.bind (kit_SameLetters N r242 ([3] : List Int)) fun r266 =>
                      some r266
                    else
                      some false
                  else
                    some false
                else
                  some false
              else
                some false
            else
              some false
        else
          some false
      else
        some false
    else
      some false) r19
set_option maxRecDepth 100000 in
set_option maxHeartbeats 4000000 in
theorem law25_awake_calls {N : Nat} {S Fa : Nat → Prop} {w0 : World} {r : Bool} (H : Hp S Fa w0 w0 []) (hP : law25_awake N  = some r) :
    Calls Try.prog 22 #[] w0 fun e w' => ∃ v, e = .returned v ∧ v = .bool r ∧ Hp S Fa w0 w' [] := by
 refine enterV (n := 60) Try.func22 rfl rfl rfl ?_
 intro a E
 replace E := E.pick [] trivial
 rw [law25_awake] at hP
 refine wp_seq ?_
 refine wp_region_lit ?_
 refine vr tbok 1 [] [] [] E (by kernel_rfl) trivial ?_
 clear E; intro a E
 refine wpList_nil ?_
 refine th_n ?_
 refine wp_seq ?_
 refine wp_region_lit ?_
 obtain ⟨r1, h2, hP⟩ := bind_inv hP
 obtain ⟨Fa3, Hc4, hb5⟩ := H.call [] [] rfl rfl trivial
 refine e_call E rfl rfl Try.func34 rfl rfl rfl (law23_Until_calls    Hc4 h2) ?_
 rintro v6 w7 a ⟨A10, c11, A13, c14, A16, c17, rfl, HR8⟩ E_
 replace E := E_ _ rfl; clear E_
 obtain ⟨H_, hc9⟩ := hb5 _ _ HR8 rfl
 replace H := H_; clear H_; try dsimp only [setn, addE, goneL] at H
 refine e_build (ps := [(0, .int .u8 1), (1, .int .u8 2)]) (v := .agg #[.int .u8 1, .int .u8 2]) E rfl rfl tbok rfl (by kernel_rfl) rfl ?_
 clear E; intro a E
 obtain ⟨r19, h20, hP⟩ := bind_inv hP
 obtain ⟨Fa21, Hc22, hb23⟩ := H.call [] [(0, false), (1, false), (2, false)] rfl rfl trivial
 refine e_call E rfl rfl Try.func24 rfl rfl rfl (law25_begun_calls A10 c11 A13 c14 A16 c17 r1.1 r1.2.1 r1.2.2.1 r1.2.2.2 (1, 2) (H.rcap 0 rfl) (H.rcap 1 rfl) (H.rcap 2 rfl) Hc22 h20) ?_
 intro v29 w28 a hR30 E_
 rcases hR30 with ⟨x_, A32, c33, A34, c35, A36, c37, hr_, rfl, HR38⟩ | ⟨x_, g39, A40, c41, A42, c43, A44, c45, A46, c47, A48, c49, A50, c51, A52, c53, A54, c55, A56, c57, hr_, rfl, HR58⟩
 ·
  subst hr_; have hP := elim_l hP
  obtain ⟨x59, hxx_⟩ : ∃ y_, y_ = x_ := ⟨_, rfl⟩; subst hxx_
  replace E := E_ _ rfl; clear E_
  obtain ⟨H_, hc31⟩ := hb23 _ _ HR38 rfl
  replace H := H_; clear H_; try dsimp only [setn, addE, goneL] at H
  refine vr tbok 4 [] [(10, .pointer none), (11, .agg #[.bool x59.1, .slice A32 (List.length x59.2.1) c33, .slice A34 (List.length x59.2.2.1) c35, .slice A36 (List.length x59.2.2.2.1) c37]), (12, .bool x59.2.2.2.2)] [] E (by kernel_rfl) trivial ?_
  clear E; intro a E
  refine h_alloc H E rfl rfl tbok rfl ?_
  intro w65 g64 a hc66 hg68 H_ E_
  replace E := E_ _ rfl; clear E_
  replace H := H_; clear H_; try dsimp only [setn, addE, goneL] at H
  refine vr tbok 1 [] [(1, .pointer none), (2, .pointer (some ⟨g64, 0, none⟩)), (11, .agg #[.bool x59.1, .slice A32 (List.length x59.2.1) c33, .slice A34 (List.length x59.2.2.1) c35, .slice A36 (List.length x59.2.2.2.1) c37]), (12, .bool x59.2.2.2.2)] [] E (by kernel_rfl) trivial ?_
  clear E; intro a E
  refine h_store (g := g64) (off := 0) H 6 rfl E rfl rfl rfl rfl tbok rfl rfl rfl rfl rfl ?_
  clear E; intro w69 a hc70 H_ E
  replace H := H_; clear H_; try dsimp only [setn, addE, goneL] at H
  refine vr tbok 1 [] [(1, .pointer none), (3, .bool x59.2.2.2.2)] [] E (by kernel_rfl) trivial ?_
  clear E; intro a E
  refine wpList_nil ?_
  refine th_n ?_
  refine wp_seq ?_
  refine wp_seq ?_
  refine wp_region_lit ?_
  refine vr tbok 3 [] [(1, .pointer none), (15, .bool (!x59.2.2.2.2))] [] E (by kernel_rfl) trivial ?_
  clear E; intro a E
  refine E.cases (t := 15) rfl (fun hb_ E_ => ?_) (fun hb_ E_ => ?_)
  ·
   replace E := E_; clear E_
   have h71 : ¬ (x59.2.2.2.2 = true) := (ne_true_of_eq_false (not_t hb_))
   clear hb_; replace hP := ite_f h71 hP
   refine vr tbok 13 [] [(1, .pointer none), (28, .bool true)] [] E (by kernel_rfl) trivial ?_
   clear E; intro a E
   refine wpList_nil ?_
   refine th_n ?_
   refine c_true E rfl ?_
   refine wp_seq ?_
   refine wp_region_lit ?_
   refine vr tbok 1 [] [(0, .bool false)] [] E (by kernel_rfl) trivial ?_
   clear E; intro a E
   refine wpList_nil ?_
   refine th_n ?_
   refine wp_ret ?_
   refine th_ret ?_
   obtain rfl := Option.some.inj hP
   refine ret1 E rfl rfl ?_
   exact ⟨_, rfl, rfl, H.sel [] rfl⟩
  ·
   replace E := E_; clear E_
   have h72 : x59.2.2.2.2 = true := (not_f hb_)
   clear hb_; replace hP := ite_t h72 hP
   refine vr tbok 1 [] [(1, .pointer none), (15, .bool false), (16, .pointer none)] [] E (by kernel_rfl) trivial ?_
   clear E; intro a E
   obtain ⟨x75, h76, hP⟩ := bind_inv hP
   refine e_call (R := fun v_ w_ => ∃ (x77 : Unit), v_ = .int .i64 0 ∧ Hp S Fa w0 w_ [] ∧ x75 = x77) E rfl rfl Try.func28 rfl rfl rfl ?_ ?_
   ·
    clear E hP; have hP := h76; clear h76; rw [law25_awake_f0] at hP
    refine enterV (n := 9) Try.func28 rfl rfl rfl ?_
    intro a E
    replace E := E.pick [(0, .pointer none)] ⟨rfl, trivial⟩
    refine wp_seq ?_
    refine wp_region_lit ?_
    refine vr tbok 1 [] [(0, .pointer none)] [] E (by kernel_rfl) trivial ?_
    clear E; intro a E
    refine wpList_nil ?_
    refine th_n ?_
    refine wp_seq ?_
    refine wp_seq ?_
    refine wp_region_lit ?_
    refine vr tbok 1 [] [(0, .pointer none), (3, .pointer none)] [] E (by kernel_rfl) trivial ?_
    clear E; intro a E
    obtain ⟨x78, h79, hP⟩ := bind_inv hP
    refine e_call (R := fun v_ w_ => ∃ (x80 : Unit), v_ = .bool true ∧ Hp S Fa w0 w_ [] ∧ x78 = x80) E rfl rfl Try.func60 rfl rfl rfl ?_ ?_
    ·
     clear E hP; have hP := h79; clear h79; rw [law25_awake_f1] at hP
     refine enterV (n := 12) Try.func60 rfl rfl rfl ?_
     intro a E
     replace E := E.pick [(0, .pointer none)] ⟨rfl, trivial⟩
     refine wp_seq ?_
     refine wp_region_lit ?_
     refine vr tbok 1 [] [(0, .pointer none)] [] E (by kernel_rfl) trivial ?_
     clear E; intro a E
     refine wpList_nil ?_
     refine th_n ?_
     refine wp_seq ?_
     refine wp_region_lit ?_
     refine vr tbok 10 [] [(2, .bool true)] [] E (by kernel_rfl) trivial ?_
     clear E; intro a E
     refine wpList_nil ?_
     refine th_n ?_
     refine wp_ret ?_
     have hx_ := Option.some.inj hP
     refine ret1 E rfl rfl ?_
     exact ⟨_, rfl, (), rfl, H.sel [] rfl, hx_.symm⟩
    ·
     clear H
     rintro v82 w81 a ⟨x80, rfl, H, hx_⟩ E_
     subst hx_
     replace E := E_ _ rfl; clear E_
     refine wpList_nil ?_
     refine th_n ?_
     refine c_true E rfl ?_
     refine wp_seq ?_
     refine wp_region_lit ?_
     refine vr tbok 1 [] [(2, .int .i64 0)] [] E (by kernel_rfl) trivial ?_
     clear E; intro a E
     refine wpList_nil ?_
     refine th_n ?_
     refine wp_ret ?_
     refine th_ret ?_
     have hx_ := Option.some.inj hP
     refine ret1 E rfl rfl ?_
     exact ⟨_, rfl, (), rfl, H.sel [] rfl, hx_.symm⟩
   ·
    clear H
    rintro v84 w83 a ⟨x77, rfl, H, hx_⟩ E_
    subst hx_
    replace E := E_ _ rfl; clear E_
    refine vr tbok 4 [] [(1, .pointer none), (20, .bool false), (21, .pointer none)] [] E (by kernel_rfl) trivial ?_
    clear E; intro a E
    obtain ⟨x87, h88, hP⟩ := bind_inv hP
    refine e_call (R := fun v_ w_ => ∃ (x89 : Unit), v_ = .int .i64 0 ∧ Hp S Fa w0 w_ [] ∧ x87 = x89) E rfl rfl Try.func26 rfl rfl rfl ?_ ?_
    ·
     clear E hP; have hP := h88; clear h88; rw [law25_awake_f2] at hP
     refine enterV (n := 16) Try.func26 rfl rfl rfl ?_
     intro a E
     replace E := E.pick [(0, .pointer none)] ⟨rfl, trivial⟩
     refine wp_seq ?_
     refine wp_region_lit ?_
     refine vr tbok 1 [] [(0, .pointer none)] [] E (by kernel_rfl) trivial ?_
     clear E; intro a E
     refine wpList_nil ?_
     refine th_n ?_
     refine wp_seq ?_
     refine wp_seq ?_
     refine wp_region_lit ?_
     refine vr tbok 1 [] [(0, .pointer none), (3, .pointer none)] [] E (by kernel_rfl) trivial ?_
     clear E; intro a E
     obtain ⟨x90, h91, hP⟩ := bind_inv hP
     refine e_call (R := fun v_ w_ => ∃ (x92 : Unit), v_ = .bool true ∧ Hp S Fa w0 w_ [] ∧ x90 = x92) E rfl rfl Try.func60 rfl rfl rfl ?_ ?_
     ·
      clear E hP; have hP := h91; clear h91; rw [law25_awake_f3] at hP
      refine enterV (n := 12) Try.func60 rfl rfl rfl ?_
      intro a E
      replace E := E.pick [(0, .pointer none)] ⟨rfl, trivial⟩
      refine wp_seq ?_
      refine wp_region_lit ?_
      refine vr tbok 1 [] [(0, .pointer none)] [] E (by kernel_rfl) trivial ?_
      clear E; intro a E
      refine wpList_nil ?_
      refine th_n ?_
      refine wp_seq ?_
      refine wp_region_lit ?_
      refine vr tbok 10 [] [(2, .bool true)] [] E (by kernel_rfl) trivial ?_
      clear E; intro a E
      refine wpList_nil ?_
      refine th_n ?_
      refine wp_ret ?_
      have hx_ := Option.some.inj hP
      refine ret1 E rfl rfl ?_
      exact ⟨_, rfl, (), rfl, H.sel [] rfl, hx_.symm⟩
     ·
      clear H
      rintro v94 w93 a ⟨x92, rfl, H, hx_⟩ E_
      subst hx_
      replace E := E_ _ rfl; clear E_
      refine wpList_nil ?_
      refine th_n ?_
      refine c_true E rfl ?_
      refine wp_seq ?_
      refine wp_region_lit ?_
      refine vr tbok 1 [] [(2, .int .i64 0)] [] E (by kernel_rfl) trivial ?_
      clear E; intro a E
      refine wpList_nil ?_
      refine th_n ?_
      refine wp_ret ?_
      refine th_ret ?_
      have hx_ := Option.some.inj hP
      refine ret1 E rfl rfl ?_
      exact ⟨_, rfl, (), rfl, H.sel [] rfl, hx_.symm⟩
    ·
     clear H
     rintro v96 w95 a ⟨x89, rfl, H, hx_⟩ E_
     subst hx_
     replace E := E_ _ rfl; clear E_
     refine vr tbok 6 [] [(1, .pointer none), (28, .bool true)] [] E (by kernel_rfl) trivial ?_
     clear E; intro a E
     refine wpList_nil ?_
     refine th_n ?_
     refine c_true E rfl ?_
     refine wp_seq ?_
     refine wp_region_lit ?_
     refine vr tbok 1 [] [(0, .bool false)] [] E (by kernel_rfl) trivial ?_
     clear E; intro a E
     refine wpList_nil ?_
     refine th_n ?_
     refine wp_ret ?_
     refine th_ret ?_
     obtain rfl := Option.some.inj hP
     refine ret1 E rfl rfl ?_
     exact ⟨_, rfl, rfl, H.sel [] rfl⟩
 ·
  subst hr_; have hP := (elim_r hP)
  obtain ⟨x60, hxx_⟩ : ∃ y_, y_ = x_ := ⟨_, rfl⟩; subst hxx_
  replace E := E_ _ rfl; clear E_
  obtain ⟨H_, hc31⟩ := hb23 _ _ HR58 rfl
  replace H := H_; clear H_; try dsimp only [setn, addE, goneL] at H
  refine vr tbok 4 [] [(10, .pointer (some ⟨g39, 0, none⟩)), (11, .agg #[.bool x60.2.2.2.2.2.2.2.1, .slice A52 (List.length x60.2.2.2.2.2.2.2.2.1) c53, .slice A54 (List.length x60.2.2.2.2.2.2.2.2.2.1) c55, .slice A56 (List.length x60.2.2.2.2.2.2.2.2.2.2.1) c57]), (12, .bool x60.2.2.2.2.2.2.2.2.2.2.2)] [] E (by kernel_rfl) trivial ?_
  clear E; intro a E
  refine h_alloc H E rfl rfl tbok rfl ?_
  intro w108 g107 a hc109 hg111 H_ E_
  replace E := E_ _ rfl; clear E_
  replace H := H_; clear H_; try dsimp only [setn, addE, goneL] at H
  refine vr tbok 1 [] [(1, .pointer (some ⟨g39, 0, none⟩)), (2, .pointer (some ⟨g107, 0, none⟩)), (11, .agg #[.bool x60.2.2.2.2.2.2.2.1, .slice A52 (List.length x60.2.2.2.2.2.2.2.2.1) c53, .slice A54 (List.length x60.2.2.2.2.2.2.2.2.2.1) c55, .slice A56 (List.length x60.2.2.2.2.2.2.2.2.2.2.1) c57]), (12, .bool x60.2.2.2.2.2.2.2.2.2.2.2)] [] E (by kernel_rfl) trivial ?_
  clear E; intro a E
  refine h_store (g := g107) (off := 0) H 13 rfl E rfl rfl rfl rfl tbok rfl rfl rfl rfl rfl ?_
  clear E; intro w112 a hc113 H_ E
  replace H := H_; clear H_; try dsimp only [setn, addE, goneL] at H
  refine vr tbok 1 [] [(1, .pointer (some ⟨g39, 0, none⟩)), (3, .bool x60.2.2.2.2.2.2.2.2.2.2.2)] [] E (by kernel_rfl) trivial ?_
  clear E; intro a E
  refine wpList_nil ?_
  refine th_n ?_
  refine wp_seq ?_
  refine wp_seq ?_
  refine wp_region_lit ?_
  refine vr tbok 3 [] [(1, .pointer (some ⟨g39, 0, none⟩)), (15, .bool (!x60.2.2.2.2.2.2.2.2.2.2.2))] [] E (by kernel_rfl) trivial ?_
  clear E; intro a E
  refine E.cases (t := 15) rfl (fun hb_ E_ => ?_) (fun hb_ E_ => ?_)
  ·
   replace E := E_; clear E_
   have h114 : ¬ (x60.2.2.2.2.2.2.2.2.2.2.2 = true) := (ne_true_of_eq_false (not_t hb_))
   clear hb_; replace hP := ite_f h114 hP
   refine vr tbok 13 [] [(1, .pointer (some ⟨g39, 0, none⟩)), (28, .bool true)] [] E (by kernel_rfl) trivial ?_
   clear E; intro a E
   refine wpList_nil ?_
   refine th_n ?_
   refine c_true E rfl ?_
   refine wp_seq ?_
   refine wp_region_lit ?_
   refine vr tbok 1 [] [(0, .bool false)] [] E (by kernel_rfl) trivial ?_
   clear E; intro a E
   refine wpList_nil ?_
   refine th_n ?_
   refine wp_ret ?_
   refine th_ret ?_
   obtain rfl := Option.some.inj hP
   refine ret1 E rfl rfl ?_
   exact ⟨_, rfl, rfl, H.sel [] rfl⟩
  ·
   replace E := E_; clear E_
   have h115 : x60.2.2.2.2.2.2.2.2.2.2.2 = true := (not_f hb_)
   clear hb_; replace hP := ite_t h115 hP
   refine vr tbok 1 [] [(1, .pointer (some ⟨g39, 0, none⟩)), (15, .bool false), (16, .pointer (some ⟨g39, 0, none⟩))] [] E (by kernel_rfl) trivial ?_
   clear E; intro a E
   replace H := H.nilrow cS98 99; try dsimp only [setn, addE, goneL] at H
   obtain ⟨r117, h118, hP⟩ := bind_inv hP
   obtain ⟨Fa119, Hc120, hb121⟩ := H.call [3, 14] [(4, false), (5, false), (6, false), (7, false), (8, false), (9, false)] rfl rfl ⟨flat_plain, trivial⟩
   refine e_call E rfl rfl Try.func28 rfl rfl rfl (play_Referee_State_calls g39 A40 c41 A42 c43 A44 c45 A46 c47 A48 c49 A50 c51 none 0 r1.1 x60.1 x60.2.1 x60.2.2.1 (1, 2) x60.2.2.2.1 x60.2.2.2.2.1 x60.2.2.2.2.2.1 x60.2.2.2.2.2.2.1 0 [] true (H.rcap 4 rfl) (H.rcap 5 rfl) (H.rcap 6 rfl) (H.rcap 7 rfl) (H.rcap 8 rfl) (H.rcap 9 rfl) Hc120 h118) ?_
   intro v127 w126 a hR128 E_
   obtain ⟨x_, hr_, rfl, HR130⟩ := hR128
   subst hr_
   replace E := E_ _ rfl; clear E_
   obtain ⟨H_, hc129⟩ := hb121 _ _ HR130 rfl
   replace H := H_; clear H_; try dsimp only [setn, addE, goneL] at H
   refine vr tbok 3 [] [(1, .pointer (some ⟨g39, 0, none⟩)), (20, .bool ((r117 : Int) != 0))] [] E (by kernel_rfl) trivial ?_
   clear E; intro a E
   refine E.cases (t := 20) rfl (fun hb_ E_ => ?_) (fun hb_ E_ => ?_)
   ·
    replace E := E_; clear E_
    have h133 : ¬ ((r117 : Int) = 0) := bne_iff_ne.1 hb_
    clear hb_; replace hP := ite_f h133 hP
    refine vr tbok 8 [] [(1, .pointer (some ⟨g39, 0, none⟩)), (28, .bool true)] [] E (by kernel_rfl) trivial ?_
    clear E; intro a E
    refine wpList_nil ?_
    refine th_n ?_
    refine c_true E rfl ?_
    refine wp_seq ?_
    refine wp_region_lit ?_
    refine vr tbok 1 [] [(0, .bool false)] [] E (by kernel_rfl) trivial ?_
    clear E; intro a E
    refine wpList_nil ?_
    refine th_n ?_
    refine wp_ret ?_
    refine th_ret ?_
    obtain rfl := Option.some.inj hP
    refine ret1 E rfl rfl ?_
    exact ⟨_, rfl, rfl, H.sel [] rfl⟩
   ·
    replace E := E_; clear E_
    have h134 : (r117 : Int) = 0 := bne_eq_false_iff_eq.1 hb_
    clear hb_; replace hP := ite_t h134 hP
    refine vr tbok 1 [] [(1, .pointer (some ⟨g39, 0, none⟩)), (20, .bool false), (21, .pointer (some ⟨g39, 0, none⟩))] [] E (by kernel_rfl) trivial ?_
    clear E; intro a E
    obtain ⟨r135, h136, hP⟩ := bind_inv hP
    obtain ⟨Fa137, Hc138, hb139⟩ := H.call [16, 15] [(4, false), (5, false), (6, false), (7, false), (8, false), (9, false)] rfl rfl ⟨flat_plain, trivial⟩
    refine e_call E rfl rfl Try.func26 rfl rfl rfl (play_Referee_Rank_calls g39 A40 c41 A42 c43 A44 c45 A46 c47 A48 c49 A50 c51 none 0 r1.1 x60.1 x60.2.1 x60.2.2.1 (1, 2) x60.2.2.2.1 x60.2.2.2.2.1 x60.2.2.2.2.2.1 x60.2.2.2.2.2.2.1 0 [] true (H.rcap 4 rfl) (H.rcap 5 rfl) (H.rcap 6 rfl) (H.rcap 7 rfl) (H.rcap 8 rfl) (H.rcap 9 rfl) Hc138 h136) ?_
    intro v145 w144 a hR146 E_
    obtain ⟨x_, hr_, rfl, HR148⟩ := hR146
    subst hr_
    replace E := E_ _ rfl; clear E_
    obtain ⟨H_, hc147⟩ := hb139 _ _ HR148 rfl
    replace H := H_; clear H_; try dsimp only [setn, addE, goneL] at H
    refine vr tbok 3 [] [(1, .pointer (some ⟨g39, 0, none⟩)), (25, .bool ((r135 : Int) != 1))] [] E (by kernel_rfl) trivial ?_
    clear E; intro a E
    refine E.cases (t := 25) rfl (fun hb_ E_ => ?_) (fun hb_ E_ => ?_)
    ·
     replace E := E_; clear E_
     have h151 : ¬ ((r135 : Int) = 1) := bne_iff_ne.1 hb_
     clear hb_; replace hP := ite_f h151 hP
     refine vr tbok 3 [] [(1, .pointer (some ⟨g39, 0, none⟩)), (28, .bool true)] [] E (by kernel_rfl) trivial ?_
     clear E; intro a E
     refine wpList_nil ?_
     refine th_n ?_
     refine c_true E rfl ?_
     refine wp_seq ?_
     refine wp_region_lit ?_
     refine vr tbok 1 [] [(0, .bool false)] [] E (by kernel_rfl) trivial ?_
     clear E; intro a E
     refine wpList_nil ?_
     refine th_n ?_
     refine wp_ret ?_
     refine th_ret ?_
     obtain rfl := Option.some.inj hP
     refine ret1 E rfl rfl ?_
     exact ⟨_, rfl, rfl, H.sel [] rfl⟩
    ·
     replace E := E_; clear E_
     have h152 : (r135 : Int) = 1 := bne_eq_false_iff_eq.1 hb_
     clear hb_; replace hP := ite_t h152 hP
     refine vr tbok 1 [] [(1, .pointer (some ⟨g39, 0, none⟩)), (25, .bool false), (26, .pointer (some ⟨g39, 0, none⟩))] [] E (by kernel_rfl) trivial ?_
     clear E; intro a E
     obtain ⟨r153, h154, hP⟩ := bind_inv hP
     obtain ⟨Fa155, Hc156, hb157⟩ := H.call [18, 17] [(4, false), (5, false), (6, false), (7, false), (8, false), (9, false)] rfl rfl ⟨flat_plain, trivial⟩
     refine e_call E rfl rfl Try.func27 rfl rfl rfl (play_Referee_Over_calls g39 A40 c41 A42 c43 A44 c45 A46 c47 A48 c49 A50 c51 none 0 r1.1 x60.1 x60.2.1 x60.2.2.1 (1, 2) x60.2.2.2.1 x60.2.2.2.2.1 x60.2.2.2.2.2.1 x60.2.2.2.2.2.2.1 0 [] true (H.rcap 4 rfl) (H.rcap 5 rfl) (H.rcap 6 rfl) (H.rcap 7 rfl) (H.rcap 8 rfl) (H.rcap 9 rfl) Hc156 h154) ?_
     intro v163 w162 a hR164 E_
     obtain ⟨x_, hr_, rfl, HR166⟩ := hR164
     subst hr_
     replace E := E_ _ rfl; clear E_
     obtain ⟨H_, hc165⟩ := hb157 _ _ HR166 rfl
     replace H := H_; clear H_; try dsimp only [setn, addE, goneL] at H
     refine vr tbok 1 [] [(1, .pointer (some ⟨g39, 0, none⟩)), (28, .bool r153)] [] E (by kernel_rfl) trivial ?_
     clear E; intro a E
     refine wpList_nil ?_
     refine th_n ?_
     refine E.cases (t := 28) rfl (fun hb_ E_ => ?_) (fun hb_ E_ => ?_)
     ·
      replace E := E_; clear E_
      have h169 : r153 = true := hb_
      clear hb_; replace hP := ite_t h169 hP
      refine c_true E rfl ?_
      refine wp_seq ?_
      refine wp_region_lit ?_
      refine vr tbok 1 [] [(0, .bool false)] [] E (by kernel_rfl) trivial ?_
      clear E; intro a E
      refine wpList_nil ?_
      refine th_n ?_
      refine wp_ret ?_
      refine th_ret ?_
      obtain rfl := Option.some.inj hP
      refine ret1 E rfl rfl ?_
      exact ⟨_, rfl, rfl, H.sel [] rfl⟩
     ·
      replace E := E_; clear E_
      have h170 : ¬ (r153 = true) := (ne_true_of_eq_false hb_)
      clear hb_; replace hP := ite_f h170 hP
      refine c_false E rfl ?_
      refine wp_skip ?_
      refine th_n ?_
      refine wp_seq ?_
      refine wp_region_lit ?_
      refine vr tbok 1 [] [(1, .pointer (some ⟨g39, 0, none⟩)), (30, .pointer (some ⟨g39, 0, none⟩))] [] E (by kernel_rfl) trivial ?_
      clear E; intro a E
      obtain ⟨r171, h172, hP⟩ := bind_inv hP
      obtain ⟨Fa173, Hc174, hb175⟩ := H.call [20, 19] [(4, false), (5, false), (6, false), (7, false), (8, false), (9, false)] rfl rfl ⟨flat_plain, trivial⟩
      refine e_call E rfl rfl Try.func29 rfl rfl rfl (play_Referee_Move_calls g39 A40 c41 A42 c43 A44 c45 A46 c47 A48 c49 A50 c51 none 0 r1.1 x60.1 x60.2.1 x60.2.2.1 (1, 2) x60.2.2.2.1 x60.2.2.2.2.1 x60.2.2.2.2.2.1 x60.2.2.2.2.2.2.1 0 [] true 1 (H.rcap 4 rfl) (H.rcap 5 rfl) (H.rcap 6 rfl) (H.rcap 7 rfl) (H.rcap 8 rfl) (H.rcap 9 rfl) Hc174 h172) ?_
      intro v181 w180 a hR182 E_
      obtain ⟨x_, A185, c186, hr_, rfl, HR184⟩ := hR182
      subst hr_
      replace E := E_ _ rfl; clear E_
      obtain ⟨H_, hc183⟩ := hb175 _ _ HR184 rfl
      replace H := H_; clear H_; try dsimp only [setn, addE, goneL] at H
      refine vr tbok 5 [] [(1, .pointer (some ⟨g39, 0, none⟩)), (4, .int .u8 r171.1), (5, .int .i64 r171.2.1)] [] E (by kernel_rfl) trivial ?_
      clear E; intro a E
      refine wpList_nil ?_
      refine th_n ?_
      refine wp_seq ?_
      refine wp_region_lit ?_
      refine vr tbok 3 [] [(1, .pointer (some ⟨g39, 0, none⟩)), (5, .int .i64 r171.2.1), (36, .bool ((r171.1 : Int) == 3))] [] E (by kernel_rfl) trivial ?_
      clear E; intro a E
      refine E.cases (t := 36) rfl (fun hb_ E_ => ?_) (fun hb_ E_ => ?_)
      ·
       replace E := E_; clear E_
       have h189 : (r171.1 : Int) = 3 := eq_of_beq hb_
       clear hb_; replace hP := ite_t h189 hP
       refine vr tbok 4 [] [(1, .pointer (some ⟨g39, 0, none⟩)), (40, .bool ((r171.2.1 : Int) == 0))] [] E (by kernel_rfl) trivial ?_
       clear E; intro a E
       refine E.cases (t := 40) rfl (fun hb_ E_ => ?_) (fun hb_ E_ => ?_)
       ·
        replace E := E_; clear E_
        have h190 : (r171.2.1 : Int) = 0 := eq_of_beq hb_
        clear hb_; replace hP := ite_t h190 hP
        refine vr tbok 1 [] [(1, .pointer (some ⟨g39, 0, none⟩)), (40, .bool true), (41, .pointer (some ⟨g39, 0, none⟩))] [] E (by kernel_rfl) trivial ?_
        clear E; intro a E
        obtain ⟨r191, h192, hP⟩ := bind_inv hP
        obtain ⟨Fa193, Hc194, hb195⟩ := H.call [21, 22] [(4, false), (5, false), (6, false), (7, false), (8, false), (9, false)] rfl rfl ⟨flat_plain, trivial⟩
        refine e_call E rfl rfl Try.func28 rfl rfl rfl (play_Referee_State_calls g39 A40 c41 A42 c43 A44 c45 A46 c47 A48 c49 A50 c51 A185 c186 r1.1 x60.1 x60.2.1 x60.2.2.1 (1, 2) x60.2.2.2.1 x60.2.2.2.2.1 x60.2.2.2.2.2.1 x60.2.2.2.2.2.2.1 r171.2.2.1 r171.2.2.2 true (H.rcap 4 rfl) (H.rcap 5 rfl) (H.rcap 6 rfl) (H.rcap 7 rfl) (H.rcap 8 rfl) (H.rcap 9 rfl) Hc194 h192) ?_
        intro v201 w200 a hR202 E_
        obtain ⟨x_, hr_, rfl, HR204⟩ := hR202
        subst hr_
        replace E := E_ _ rfl; clear E_
        obtain ⟨H_, hc203⟩ := hb195 _ _ HR204 rfl
        replace H := H_; clear H_; try dsimp only [setn, addE, goneL] at H
        refine vr tbok 3 [] [(1, .pointer (some ⟨g39, 0, none⟩)), (45, .bool ((r191 : Int) == 2))] [] E (by kernel_rfl) trivial ?_
        clear E; intro a E
        refine E.cases (t := 45) rfl (fun hb_ E_ => ?_) (fun hb_ E_ => ?_)
        ·
         replace E := E_; clear E_
         have h207 : (r191 : Int) = 2 := eq_of_beq hb_
         clear hb_; replace hP := ite_t h207 hP
         refine vr tbok 1 [] [(1, .pointer (some ⟨g39, 0, none⟩)), (45, .bool true), (46, .pointer (some ⟨g39, 0, none⟩))] [] E (by kernel_rfl) trivial ?_
         clear E; intro a E
         obtain ⟨r208, h209, hP⟩ := bind_inv hP
         obtain ⟨Fa210, Hc211, hb212⟩ := H.call [24, 23] [(4, false), (5, false), (6, false), (7, false), (8, false), (9, false)] rfl rfl ⟨flat_plain, trivial⟩
         refine e_call E rfl rfl Try.func26 rfl rfl rfl (play_Referee_Rank_calls g39 A40 c41 A42 c43 A44 c45 A46 c47 A48 c49 A50 c51 A185 c186 r1.1 x60.1 x60.2.1 x60.2.2.1 (1, 2) x60.2.2.2.1 x60.2.2.2.2.1 x60.2.2.2.2.2.1 x60.2.2.2.2.2.2.1 r171.2.2.1 r171.2.2.2 true (H.rcap 4 rfl) (H.rcap 5 rfl) (H.rcap 6 rfl) (H.rcap 7 rfl) (H.rcap 8 rfl) (H.rcap 9 rfl) Hc211 h209) ?_
         intro v218 w217 a hR219 E_
         obtain ⟨x_, hr_, rfl, HR221⟩ := hR219
         subst hr_
         replace E := E_ _ rfl; clear E_
         obtain ⟨H_, hc220⟩ := hb212 _ _ HR221 rfl
         replace H := H_; clear H_; try dsimp only [setn, addE, goneL] at H
         refine vr tbok 3 [] [(1, .pointer (some ⟨g39, 0, none⟩)), (50, .bool ((r208 : Int) == 0))] [] E (by kernel_rfl) trivial ?_
         clear E; intro a E
         refine E.cases (t := 50) rfl (fun hb_ E_ => ?_) (fun hb_ E_ => ?_)
         ·
          replace E := E_; clear E_
          have h224 : (r208 : Int) = 0 := eq_of_beq hb_
          clear hb_; replace hP := ite_t h224 hP
          refine vr tbok 1 [] [(1, .pointer (some ⟨g39, 0, none⟩)), (50, .bool true), (51, .pointer (some ⟨g39, 0, none⟩))] [] E (by kernel_rfl) trivial ?_
          clear E; intro a E
          obtain ⟨r225, h226, hP⟩ := bind_inv hP
          obtain ⟨Fa227, Hc228, hb229⟩ := H.call [26, 25] [(4, false), (5, false), (6, false), (7, false), (8, false), (9, false)] rfl rfl ⟨flat_plain, trivial⟩
          refine e_call E rfl rfl Try.func27 rfl rfl rfl (play_Referee_Over_calls g39 A40 c41 A42 c43 A44 c45 A46 c47 A48 c49 A50 c51 A185 c186 r1.1 x60.1 x60.2.1 x60.2.2.1 (1, 2) x60.2.2.2.1 x60.2.2.2.2.1 x60.2.2.2.2.2.1 x60.2.2.2.2.2.2.1 r171.2.2.1 r171.2.2.2 true (H.rcap 4 rfl) (H.rcap 5 rfl) (H.rcap 6 rfl) (H.rcap 7 rfl) (H.rcap 8 rfl) (H.rcap 9 rfl) Hc228 h226) ?_
          intro v235 w234 a hR236 E_
          obtain ⟨x_, hr_, rfl, HR238⟩ := hR236
          subst hr_
          replace E := E_ _ rfl; clear E_
          obtain ⟨H_, hc237⟩ := hb229 _ _ HR238 rfl
          replace H := H_; clear H_; try dsimp only [setn, addE, goneL] at H
          refine vr tbok 2 [] [(1, .pointer (some ⟨g39, 0, none⟩)), (54, .bool r225)] [] E (by kernel_rfl) trivial ?_
          clear E; intro a E
          refine E.cases (t := 54) rfl (fun hb_ E_ => ?_) (fun hb_ E_ => ?_)
          ·
           replace E := E_; clear E_
           have h241 : r225 = true := hb_
           clear hb_; replace hP := ite_t h241 hP
           refine vr tbok 1 [] [(54, .bool true), (55, .pointer (some ⟨g39, 0, none⟩))] [] E (by kernel_rfl) trivial ?_
           clear E; intro a E
           obtain ⟨r242, h243, hP⟩ := bind_inv hP
           obtain ⟨Fa244, Hc245, hb246⟩ := H.call [28, 27] [(4, false), (5, false), (6, false), (7, false), (8, false), (9, false)] rfl rfl ⟨flat_plain, trivial⟩
           refine e_call E rfl rfl Try.func30 rfl rfl rfl (play_Referee_Trace_calls g39 A40 c41 A42 c43 A44 c45 A46 c47 A48 c49 A50 c51 A185 c186 r1.1 x60.1 x60.2.1 x60.2.2.1 (1, 2) x60.2.2.2.1 x60.2.2.2.2.1 x60.2.2.2.2.2.1 x60.2.2.2.2.2.2.1 r171.2.2.1 r171.2.2.2 true (H.rcap 4 rfl) (H.rcap 5 rfl) (H.rcap 6 rfl) (H.rcap 7 rfl) (H.rcap 8 rfl) (H.rcap 9 rfl) Hc245 h243) ?_
           intro v252 w251 a hR253 E_
           obtain ⟨x_, A256, c257, hr_, rfl, HR255⟩ := hR253
           subst hr_
           replace E := E_ _ rfl; clear E_
           obtain ⟨H_, hc254⟩ := hb246 _ _ HR255 rfl
           replace H := H_; clear H_; try dsimp only [setn, addE, goneL] at H
           refine h_buildSlice (ps := [(0, .int .u8 3)]) (cs := [.int .u8 3]) H E rfl rfl tbok rfl rfl (by kernel_rfl) ?_
           intro w262 g261 a hc263 hg265 H_ E_
           replace E := E_ _ rfl; clear E_
           replace H := H_; clear H_; try dsimp only [setn, addE, goneL] at H
           replace H := H.boxRow (cInt .u8) true ([3] : List Int) 32 rfl (fun _ _ => ⟨_, _, rfl, rfl, rfl⟩) (Nat.le_of_ble_eq_true rfl); try dsimp only [setn, addE, goneL] at H
           obtain ⟨r266, h267, hP⟩ := bind_inv hP
           obtain ⟨Fa268, Hc269, hb270⟩ := H.call [] [(29, false), (32, false)] rfl rfl trivial
           refine e_call E rfl rfl Try.func32 rfl rfl rfl (kit_SameLetters_calls A256 c257 (some ⟨g261, 0, none⟩) 1 r242 ([3] : List Int) (H.rcap 29 rfl) (H.rcapx 32 rfl) Hc269 h267) ?_
           rintro v271 w272 a ⟨rfl, HR273⟩ E_
           replace E := E_ _ rfl; clear E_
           obtain ⟨H_, hc274⟩ := hb270 _ _ HR273 rfl
           replace H := H_; clear H_; try dsimp only [setn, addE, goneL] at H
           refine vr tbok 2 [] [(0, .bool r266)] [] E (by kernel_rfl) trivial ?_
           clear E; intro a E
           refine wpList_nil ?_
           refine th_n ?_
           refine wp_ret ?_
           obtain rfl := Option.some.inj hP
           refine ret1 E rfl rfl ?_
           exact ⟨_, rfl, rfl, H.sel [] rfl⟩
          ·
           replace E := E_; clear E_
           have h275 : ¬ (r225 = true) := (ne_true_of_eq_false hb_)
           clear hb_; replace hP := ite_f h275 hP
           refine vr tbok 6 [] [(0, .bool false)] [] E (by kernel_rfl) trivial ?_
           clear E; intro a E
           refine wpList_nil ?_
           refine th_n ?_
           refine wp_ret ?_
           obtain rfl := Option.some.inj hP
           refine ret1 E rfl rfl ?_
           exact ⟨_, rfl, rfl, H.sel [] rfl⟩
         ·
          replace E := E_; clear E_
          have h276 : ¬ ((r208 : Int) = 0) := ne_of_beq_false hb_
          clear hb_; replace hP := ite_f h276 hP
          refine vr tbok 10 [] [(0, .bool false)] [] E (by kernel_rfl) trivial ?_
          clear E; intro a E
          refine wpList_nil ?_
          refine th_n ?_
          refine wp_ret ?_
          obtain rfl := Option.some.inj hP
          refine ret1 E rfl rfl ?_
          exact ⟨_, rfl, rfl, H.sel [] rfl⟩
        ·
         replace E := E_; clear E_
         have h277 : ¬ ((r191 : Int) = 2) := ne_of_beq_false hb_
         clear hb_; replace hP := ite_f h277 hP
         refine vr tbok 15 [] [(0, .bool false)] [] E (by kernel_rfl) trivial ?_
         clear E; intro a E
         refine wpList_nil ?_
         refine th_n ?_
         refine wp_ret ?_
         obtain rfl := Option.some.inj hP
         refine ret1 E rfl rfl ?_
         exact ⟨_, rfl, rfl, H.sel [] rfl⟩
       ·
        replace E := E_; clear E_
        have h278 : ¬ ((r171.2.1 : Int) = 0) := ne_of_beq_false hb_
        clear hb_; replace hP := ite_f h278 hP
        refine vr tbok 20 [] [(0, .bool false)] [] E (by kernel_rfl) trivial ?_
        clear E; intro a E
        refine wpList_nil ?_
        refine th_n ?_
        refine wp_ret ?_
        obtain rfl := Option.some.inj hP
        refine ret1 E rfl rfl ?_
        exact ⟨_, rfl, rfl, H.sel [] rfl⟩
      ·
       replace E := E_; clear E_
       have h279 : ¬ ((r171.1 : Int) = 3) := ne_of_beq_false hb_
       clear hb_; replace hP := ite_f h279 hP
       refine vr tbok 24 [] [(0, .bool false)] [] E (by kernel_rfl) trivial ?_
       clear E; intro a E
       refine wpList_nil ?_
       refine th_n ?_
       refine wp_ret ?_
       obtain rfl := Option.some.inj hP
       refine ret1 E rfl rfl ?_
       exact ⟨_, rfl, rfl, H.sel [] rfl⟩

/-! rejoinder/rejoinderlaw25.PlayKnown -/
def law25_PlayKnown_f1 (N : Nat) : Option Unit :=
    some ()
def law25_PlayKnown_f0 (N : Nat) : Option Unit :=
    Option.bind (law25_PlayKnown_f1 N) fun x80 =>
    some ()
def law25_PlayKnown_f3 (N : Nat) : Option Unit :=
    some ()
def law25_PlayKnown_f2 (N : Nat) : Option Unit :=
    Option.bind (law25_PlayKnown_f3 N) fun x92 =>
    some ()
def law25_PlayKnown_f5 (N : Nat) : Option Unit :=
    some ()
def law25_PlayKnown_f4 (N : Nat) : Option Unit :=
    Option.bind (law25_PlayKnown_f5 N) fun x104 =>
    some ()
def law25_PlayKnown_f7 (N : Nat) : Option Unit :=
    some ()
def law25_PlayKnown_f6 (N : Nat) : Option Unit :=
    Option.bind (law25_PlayKnown_f7 N) fun x116 =>
    some ()
def law25_PlayKnown_f9 (N : Nat) : Option Unit :=
    some ()
def law25_PlayKnown_f8 (N : Nat) : Option Unit :=
    Option.bind (law25_PlayKnown_f9 N) fun x128 =>
    some ()
def law25_PlayKnown_f11 (N : Nat) : Option Unit :=
    some ()
def law25_PlayKnown_f10 (N : Nat) : Option Unit :=
    Option.bind (law25_PlayKnown_f11 N) fun x214 =>
    some ()
def law25_PlayKnown_f13 (N : Nat) : Option Unit :=
    some ()
def law25_PlayKnown_f12 (N : Nat) : Option Unit :=
    Option.bind (law25_PlayKnown_f13 N) fun x226 =>
    some ()
def law25_PlayKnown_f15 (N : Nat) : Option Unit :=
    some ()
def law25_PlayKnown_f14 (N : Nat) : Option Unit :=
    Option.bind (law25_PlayKnown_f15 N) fun x238 =>
    some ()
def law25_PlayKnown_f17 (N : Nat) : Option Unit :=
    some ()
def law25_PlayKnown_f16 (N : Nat) : Option Unit :=
    Option.bind (law25_PlayKnown_f17 N) fun x250 =>
    some ()
def law25_PlayKnown_j18 (N : Nat) (r1 : Int × (List Bool) × (List Int) × (List Nd)) (x60 : (List Bool) × (List Int) × (List Nd) × Bool × (List Int) × (List (List Int)) × (List Int) × Bool × (List Int) × (List (List Int)) × (List Int) × Bool) (r391 : Int × Int) (r407 : Int × Int × Int × (List (Int × Int))) (r425 : Int × Int × Int × (List (Int × Int))) (r443 : Int × Int × Int × (List (Int × Int))) (r461 : Int × Int × Int × (List (Int × Int))) : Option Bool :=
    if (r391.2 : Int) = 350 then
      if (r407.2.1 : Int) = 14 then
        if (r425.2.1 : Int) = 14 then
          if (r443.1 : Int) = 3 then
            if (r443.2.1 : Int) = 0 then
              if (r461.2.1 : Int) = 351 then
                Option.bind (play_Referee_Back N r1.1 x60.1 x60.2.1 x60.2.2.1 (1, 2) x60.2.2.2.1 x60.2.2.2.2.1 x60.2.2.2.2.2.1 x60.2.2.2.2.2.2.1 r461.2.2.1 r461.2.2.2 true) fun r541 =>
                if (r541.1 : Int) = 0 then
                  Option.bind (play_Referee_Back N r1.1 x60.1 x60.2.1 x60.2.2.1 (1, 2) x60.2.2.2.1 x60.2.2.2.2.1 x60.2.2.2.2.2.1 x60.2.2.2.2.2.2.1 r541.2.1 r541.2.2 true) fun r560 =>
                  some ((r560.1 : Int) == 6)
                else
                  some false
              else
                some false
            else
              some false
          else
            some false
        else
          some false
      else
        some false
    else
      some false
def law25_PlayKnown_f20 (N : Nat) : Option Unit :=
    some ()
def law25_PlayKnown_f19 (N : Nat) : Option Unit :=
    Option.bind (law25_PlayKnown_f20 N) fun x664 =>
    some ()
def law25_PlayKnown_f22 (N : Nat) : Option Unit :=
    some ()
def law25_PlayKnown_f21 (N : Nat) : Option Unit :=
    Option.bind (law25_PlayKnown_f22 N) fun x676 =>
    some ()
def law25_PlayKnown_f24 (N : Nat) : Option Unit :=
    some ()
def law25_PlayKnown_f23 (N : Nat) : Option Unit :=
    Option.bind (law25_PlayKnown_f24 N) fun x688 =>
    some ()
def law25_PlayKnown_f26 (N : Nat) : Option Unit :=
    some ()
def law25_PlayKnown_f25 (N : Nat) : Option Unit :=
    Option.bind (law25_PlayKnown_f26 N) fun x700 =>
    some ()
def law25_PlayKnown (N : Nat) : Option Bool :=
  Option.bind (law23_Until N) fun r1 =>
  Option.bind (law25_begun N r1.1 r1.2.1 r1.2.2.1 r1.2.2.2 (1, 2)) fun r19 =>
  Sum.elim (fun x59 =>
    if x59.2.2.2.2 = true then
      if x59.1 = true then
        Option.bind (law25_PlayKnown_f0 N) fun x77 =>
        Option.bind (law25_PlayKnown_f2 N) fun x89 =>
        Option.bind (law25_PlayKnown_f4 N) fun x101 =>
        Option.bind (law25_PlayKnown_f6 N) fun x113 =>
        Option.bind (law25_PlayKnown_f8 N) fun x125 =>
        Option.bind (law23_Until N) fun r135 =>
        Option.bind (law25_begun N r135.1 r135.2.1 r135.2.2.1 r135.2.2.2 (2, 1)) fun r153 =>
        Sum.elim (fun x193 =>
          if x193.2.2.2.2 = true then
            if x193.1 = true then
              some false
            else
              Option.bind (law25_PlayKnown_f10 N) fun x211 =>
              Option.bind (law25_PlayKnown_f12 N) fun x223 =>
              Option.bind (law25_PlayKnown_f14 N) fun x235 =>
              Option.bind (law25_PlayKnown_f16 N) fun x247 =>
              Option.bind (law25_awake N) fun r257 =>
              if r257 = true then
                some false
              else
                some false
          else
            some false)
         (fun x194 =>
          if x194.2.2.2.2.2.2.2.2.2.2.2 = true then
            if x194.2.2.2.2.2.2.2.1 = true then
              some false
            else
              Option.bind (play_Referee_Choice N r135.1 x194.1 x194.2.1 x194.2.2.1 (2, 1) x194.2.2.2.1 x194.2.2.2.2.1 x194.2.2.2.2.2.1 x194.2.2.2.2.2.2.1 0 [] true) fun r290 =>
              Option.bind (play_Referee_Move N r135.1 x194.1 x194.2.1 x194.2.2.1 (2, 1) x194.2.2.2.1 x194.2.2.2.2.1 x194.2.2.2.2.2.1 x194.2.2.2.2.2.2.1 0 [] true 1) fun r306 =>
              Option.bind (play_Referee_Rank N r135.1 x194.1 x194.2.1 x194.2.2.1 (2, 1) x194.2.2.2.1 x194.2.2.2.2.1 x194.2.2.2.2.2.1 x194.2.2.2.2.2.2.1 r306.2.2.1 r306.2.2.2 true) fun r324 =>
              Option.bind (play_Referee_Move N r135.1 x194.1 x194.2.1 x194.2.2.1 (2, 1) x194.2.2.2.1 x194.2.2.2.2.1 x194.2.2.2.2.2.1 x194.2.2.2.2.2.2.1 r306.2.2.1 r306.2.2.2 true 0) fun r340 =>
              Option.bind (law25_awake N) fun r358 =>
              if r358 = true then
                some false
              else
                some false
          else
            some false) r153
      else
        some false
    else
      some false)
   (fun x60 =>
    if x60.2.2.2.2.2.2.2.2.2.2.2 = true then
      if x60.2.2.2.2.2.2.2.1 = true then
        Option.bind (play_Referee_Choice N r1.1 x60.1 x60.2.1 x60.2.2.1 (1, 2) x60.2.2.2.1 x60.2.2.2.2.1 x60.2.2.2.2.2.1 x60.2.2.2.2.2.2.1 0 [] true) fun r391 =>
        Option.bind (play_Referee_Move N r1.1 x60.1 x60.2.1 x60.2.2.1 (1, 2) x60.2.2.2.1 x60.2.2.2.2.1 x60.2.2.2.2.2.1 x60.2.2.2.2.2.2.1 0 [] true 2) fun r407 =>
        Option.bind (play_Referee_Move N r1.1 x60.1 x60.2.1 x60.2.2.1 (1, 2) x60.2.2.2.1 x60.2.2.2.2.1 x60.2.2.2.2.2.1 x60.2.2.2.2.2.2.1 r407.2.2.1 r407.2.2.2 true 256) fun r425 =>
        Option.bind (play_Referee_Move N r1.1 x60.1 x60.2.1 x60.2.2.1 (1, 2) x60.2.2.2.1 x60.2.2.2.2.1 x60.2.2.2.2.2.1 x60.2.2.2.2.2.2.1 r425.2.2.1 r425.2.2.2 true 1) fun r443 =>
        Option.bind (play_Referee_Move N r1.1 x60.1 x60.2.1 x60.2.2.1 (1, 2) x60.2.2.2.1 x60.2.2.2.2.1 x60.2.2.2.2.2.1 x60.2.2.2.2.2.2.1 r443.2.2.1 r443.2.2.2 true 0) fun r461 =>
        Option.bind (law25_PlayKnown_j18 N r1 x60 r391 r407 r425 r443 r461) fun x530 =>
        Option.bind (law23_Until N) fun r585 =>
        Option.bind (law25_begun N r585.1 r585.2.1 r585.2.2.1 r585.2.2.2 (2, 1)) fun r603 =>
        Sum.elim (fun x643 =>
          if x643.2.2.2.2 = true then
            if x643.1 = true then
              some false
            else
              Option.bind (law25_PlayKnown_f19 N) fun x661 =>
              Option.bind (law25_PlayKnown_f21 N) fun x673 =>
              Option.bind (law25_PlayKnown_f23 N) fun x685 =>
              Option.bind (law25_PlayKnown_f25 N) fun x697 =>
              Option.bind (law25_awake N) fun r707 =>
              if r707 = true then
                if x530 = true then
                  some false
                else
                  some false
              else
                some false
          else
            some false)
         (fun x644 =>
          if x644.2.2.2.2.2.2.2.2.2.2.2 = true then
            if x644.2.2.2.2.2.2.2.1 = true then
              some false
            else
              Option.bind (play_Referee_Choice N r585.1 x644.1 x644.2.1 x644.2.2.1 (2, 1) x644.2.2.2.1 x644.2.2.2.2.1 x644.2.2.2.2.2.1 x644.2.2.2.2.2.2.1 0 [] true) fun r742 =>
              Option.bind (play_Referee_Move N r585.1 x644.1 x644.2.1 x644.2.2.1 (2, 1) x644.2.2.2.1 x644.2.2.2.2.1 x644.2.2.2.2.2.1 x644.2.2.2.2.2.2.1 0 [] true 1) fun r758 =>
              Option.bind (play_Referee_Rank N r585.1 x644.1 x644.2.1 x644.2.2.1 (2, 1) x644.2.2.2.1 x644.2.2.2.2.1 x644.2.2.2.2.2.1 x644.2.2.2.2.2.2.1 r758.2.2.1 r758.2.2.2 true) fun r776 =>
              Option.bind (play_Referee_Move N r585.1 x644.1 x644.2.1 x644.2.2.1 (2, 1) x644.2.2.2.1 x644.2.2.2.2.1 x644.2.2.2.2.2.1 x644.2.2.2.2.2.2.1 r758.2.2.1 r758.2.2.2 true 0) fun r792 =>
              Option.bind (law25_awake N) fun r810 =>
              if r810 = true then
                if x530 = true then
                  if (r742.1 : Int) = 0 then
                    if (r742.2 : Int) = 0 then
                      if (r758.1 : Int) = 1 then
                        if (r758.2.1 : Int) = 0 then
                          if (r776 : Int) = -1 then
                            if (r792.1 : Int) = 0 then
                              if (r792.2.1 : Int) = 0 then
                                Option.bind (play_Referee_State N r585.1 x644.1 x644.2.1 x644.2.2.1 (2, 1) x644.2.2.2.1 x644.2.2.2.2.1 x644.2.2.2.2.2.1 x644.2.2.2.2.2.2.1 r792.2.2.1 r792.2.2.2 true) fun r828 =>
                                if (r828 : Int) = 1 then
                                  some true
                                else
                                  some false
                              else
                                some false
                            else
                              some false
                          else
                            some false
                        else
                          some false
                      else
                        some false
                    else
                      some false
                  else
                    some false
                else
                  some false
              else
                some false
          else
            some false) r603
      else
        some false
    else
      some false) r19
set_option maxRecDepth 100000 in
set_option maxHeartbeats 4000000 in
theorem law25_PlayKnown_calls {N : Nat} {S Fa : Nat → Prop} {w0 : World} {r : Bool} (H : Hp S Fa w0 w0 []) (hP : law25_PlayKnown N  = some r) :
    Calls Try.prog 7 #[] w0 fun e w' => ∃ v, e = .returned v ∧ v = .bool r ∧ Hp S Fa w0 w' [] := by
 refine enterV (n := 166) Try.func7 rfl rfl rfl ?_
 intro a E
 replace E := E.pick [] trivial
 rw [law25_PlayKnown] at hP
 refine wp_seq ?_
 refine wp_region_lit ?_
 refine vr tbok 1 [] [] [] E (by kernel_rfl) trivial ?_
 clear E; intro a E
 refine wpList_nil ?_
 refine th_n ?_
 refine wp_seq ?_
 refine wp_region_lit ?_
 obtain ⟨r1, h2, hP⟩ := bind_inv hP
 obtain ⟨Fa3, Hc4, hb5⟩ := H.call [] [] rfl rfl trivial
 refine e_call E rfl rfl Try.func34 rfl rfl rfl (law23_Until_calls    Hc4 h2) ?_
 rintro v6 w7 a ⟨A10, c11, A13, c14, A16, c17, rfl, HR8⟩ E_
 replace E := E_ _ rfl; clear E_
 obtain ⟨H_, hc9⟩ := hb5 _ _ HR8 rfl
 replace H := H_; clear H_; try dsimp only [setn, addE, goneL] at H
 refine e_build (ps := [(0, .int .u8 1), (1, .int .u8 2)]) (v := .agg #[.int .u8 1, .int .u8 2]) E rfl rfl tbok rfl (by kernel_rfl) rfl ?_
 clear E; intro a E
 obtain ⟨r19, h20, hP⟩ := bind_inv hP
 obtain ⟨Fa21, Hc22, hb23⟩ := H.call [] [(0, false), (1, false), (2, false)] rfl rfl trivial
 refine e_call E rfl rfl Try.func24 rfl rfl rfl (law25_begun_calls A10 c11 A13 c14 A16 c17 r1.1 r1.2.1 r1.2.2.1 r1.2.2.2 (1, 2) (H.rcap 0 rfl) (H.rcap 1 rfl) (H.rcap 2 rfl) Hc22 h20) ?_
 intro v29 w28 a hR30 E_
 rcases hR30 with ⟨x_, A32, c33, A34, c35, A36, c37, hr_, rfl, HR38⟩ | ⟨x_, g39, A40, c41, A42, c43, A44, c45, A46, c47, A48, c49, A50, c51, A52, c53, A54, c55, A56, c57, hr_, rfl, HR58⟩
 ·
  subst hr_; have hP := elim_l hP
  obtain ⟨x59, hxx_⟩ : ∃ y_, y_ = x_ := ⟨_, rfl⟩; subst hxx_
  replace E := E_ _ rfl; clear E_
  obtain ⟨H_, hc31⟩ := hb23 _ _ HR38 rfl
  replace H := H_; clear H_; try dsimp only [setn, addE, goneL] at H
  refine vr tbok 4 [] [(28, .pointer none), (29, .agg #[.bool x59.1, .slice A32 (List.length x59.2.1) c33, .slice A34 (List.length x59.2.2.1) c35, .slice A36 (List.length x59.2.2.2.1) c37]), (30, .bool x59.2.2.2.2)] [] E (by kernel_rfl) trivial ?_
  clear E; intro a E
  refine h_alloc H E rfl rfl tbok rfl ?_
  intro w65 g64 a hc66 hg68 H_ E_
  replace E := E_ _ rfl; clear E_
  replace H := H_; clear H_; try dsimp only [setn, addE, goneL] at H
  refine vr tbok 1 [] [(1, .pointer none), (2, .pointer (some ⟨g64, 0, none⟩)), (29, .agg #[.bool x59.1, .slice A32 (List.length x59.2.1) c33, .slice A34 (List.length x59.2.2.1) c35, .slice A36 (List.length x59.2.2.2.1) c37]), (30, .bool x59.2.2.2.2)] [] E (by kernel_rfl) trivial ?_
  clear E; intro a E
  refine h_store (g := g64) (off := 0) H 6 rfl E rfl rfl rfl rfl tbok rfl rfl rfl rfl rfl ?_
  clear E; intro w69 a hc70 H_ E
  replace H := H_; clear H_; try dsimp only [setn, addE, goneL] at H
  refine vr tbok 1 [] [(1, .pointer none), (2, .pointer (some ⟨g64, 0, none⟩)), (3, .bool x59.2.2.2.2)] [] E (by kernel_rfl) trivial ?_
  clear E; intro a E
  refine wpList_nil ?_
  refine th_n ?_
  refine wp_seq ?_
  refine wp_seq ?_
  refine wp_region_lit ?_
  refine vr tbok 3 [] [(1, .pointer none), (2, .pointer (some ⟨g64, 0, none⟩)), (33, .bool (!x59.2.2.2.2))] [] E (by kernel_rfl) trivial ?_
  clear E; intro a E
  refine E.cases (t := 33) rfl (fun hb_ E_ => ?_) (fun hb_ E_ => ?_)
  ·
   replace E := E_; clear E_
   have h71 : ¬ (x59.2.2.2.2 = true) := (ne_true_of_eq_false (not_t hb_))
   clear hb_; replace hP := ite_f h71 hP
   refine vr tbok 4 [] [(1, .pointer none), (37, .bool true)] [] E (by kernel_rfl) trivial ?_
   clear E; intro a E
   refine wpList_nil ?_
   refine th_n ?_
   refine c_true E rfl ?_
   refine wp_seq ?_
   refine wp_region_lit ?_
   refine vr tbok 1 [] [(0, .bool false)] [] E (by kernel_rfl) trivial ?_
   clear E; intro a E
   refine wpList_nil ?_
   refine th_n ?_
   refine wp_ret ?_
   refine th_ret ?_
   obtain rfl := Option.some.inj hP
   refine ret1 E rfl rfl ?_
   exact ⟨_, rfl, rfl, H.sel [] rfl⟩
  ·
   replace E := E_; clear E_
   have h72 : x59.2.2.2.2 = true := (not_f hb_)
   clear hb_; replace hP := ite_t h72 hP
   refine vr tbok 4 [.bool x59.1] [(1, .pointer none), (37, .bool (!x59.1))] [World.cell? w69 ⟨g64, 0, none⟩ = some (.bool x59.1)] E (by kernel_rfl) ((H.box 6 rfl).cell (j := 0) rfl) ?_
   clear E; intro a E
   refine wpList_nil ?_
   refine th_n ?_
   refine E.cases (t := 37) rfl (fun hb_ E_ => ?_) (fun hb_ E_ => ?_)
   ·
    replace E := E_; clear E_
    have h73 : ¬ (x59.1 = true) := (ne_true_of_eq_false (not_t hb_))
    clear hb_; replace hP := ite_f h73 hP
    refine c_true E rfl ?_
    refine wp_seq ?_
    refine wp_region_lit ?_
    refine vr tbok 1 [] [(0, .bool false)] [] E (by kernel_rfl) trivial ?_
    clear E; intro a E
    refine wpList_nil ?_
    refine th_n ?_
    refine wp_ret ?_
    refine th_ret ?_
    obtain rfl := Option.some.inj hP
    refine ret1 E rfl rfl ?_
    exact ⟨_, rfl, rfl, H.sel [] rfl⟩
   ·
    replace E := E_; clear E_
    have h74 : x59.1 = true := (not_f hb_)
    clear hb_; replace hP := ite_t h74 hP
    refine c_false E rfl ?_
    refine wp_skip ?_
    refine th_n ?_
    refine wp_seq ?_
    refine wp_region_lit ?_
    refine vr tbok 1 [] [(1, .pointer none), (39, .pointer none)] [] E (by kernel_rfl) trivial ?_
    clear E; intro a E
    obtain ⟨x77, h78, hP⟩ := bind_inv hP
    refine e_call (R := fun v_ w_ => ∃ (x79 : Unit), v_ = .tuple #[.int .u8 0, .int .i64 1] ∧ Hp S Fa w0 w_ [] ∧ x77 = x79) E rfl rfl Try.func33 rfl rfl rfl ?_ ?_
    ·
     clear E hP; have hP := h78; clear h78; rw [law25_PlayKnown_f0] at hP
     refine enterV (n := 24) Try.func33 rfl rfl rfl ?_
     intro a E
     replace E := E.pick [(0, .pointer none)] ⟨rfl, trivial⟩
     refine wp_seq ?_
     refine wp_region_lit ?_
     refine vr tbok 2 [] [(0, .pointer none)] [] E (by kernel_rfl) trivial ?_
     clear E; intro a E
     refine wpList_nil ?_
     refine th_n ?_
     refine wp_seq ?_
     refine wp_block ?_
     refine wp_seq ?_
     refine wp_region_lit ?_
     refine vr tbok 1 [] [(0, .pointer none), (5, .pointer none)] [] E (by kernel_rfl) trivial ?_
     clear E; intro a E
     obtain ⟨x80, h81, hP⟩ := bind_inv hP
     refine e_call (R := fun v_ w_ => ∃ (x82 : Unit), v_ = .bool true ∧ Hp S Fa w0 w_ [] ∧ x80 = x82) E rfl rfl Try.func60 rfl rfl rfl ?_ ?_
     ·
      clear E hP; have hP := h81; clear h81; rw [law25_PlayKnown_f1] at hP
      refine enterV (n := 12) Try.func60 rfl rfl rfl ?_
      intro a E
      replace E := E.pick [(0, .pointer none)] ⟨rfl, trivial⟩
      refine wp_seq ?_
      refine wp_region_lit ?_
      refine vr tbok 1 [] [(0, .pointer none)] [] E (by kernel_rfl) trivial ?_
      clear E; intro a E
      refine wpList_nil ?_
      refine th_n ?_
      refine wp_seq ?_
      refine wp_region_lit ?_
      refine vr tbok 10 [] [(2, .bool true)] [] E (by kernel_rfl) trivial ?_
      clear E; intro a E
      refine wpList_nil ?_
      refine th_n ?_
      refine wp_ret ?_
      have hx_ := Option.some.inj hP
      refine ret1 E rfl rfl ?_
      exact ⟨_, rfl, (), rfl, H.sel [] rfl, hx_.symm⟩
     ·
      clear H
      rintro v84 w83 a ⟨x82, rfl, H, hx_⟩ E_
      subst hx_
      replace E := E_ _ rfl; clear E_
      refine vr tbok 1 [] [(0, .pointer none), (4, .bool true)] [] E (by kernel_rfl) trivial ?_
      clear E; intro a E
      refine wpList_nil ?_
      refine th_n ?_
      refine c_true E rfl ?_
      refine wp_seq ?_
      refine wp_region_lit ?_
      refine vr tbok 2 [] [(2, .int .u8 0), (3, .int .i64 1)] [] E (by kernel_rfl) trivial ?_
      clear E; intro a E
      refine wpList_nil ?_
      refine th_n ?_
      refine wp_ret ?_
      refine bl_ret ?_
      refine th_ret ?_
      have hx_ := Option.some.inj hP
      refine ret2 E rfl rfl rfl ?_
      exact ⟨_, rfl, (), rfl, H.sel [] rfl, hx_.symm⟩
    ·
     clear H
     rintro v86 w85 a ⟨x79, rfl, H, hx_⟩ E_
     subst hx_
     replace E := E_ _ rfl; clear E_
     refine vr tbok 5 [] [(1, .pointer none), (5, .int .i64 1)] [] E (by kernel_rfl) trivial ?_
     clear E; intro a E
     refine wpList_nil ?_
     refine th_n ?_
     refine wp_seq ?_
     refine wp_region_lit ?_
     refine vr tbok 1 [] [(1, .pointer none), (5, .int .i64 1), (44, .pointer none)] [] E (by kernel_rfl) trivial ?_
     clear E; intro a E
     obtain ⟨x89, h90, hP⟩ := bind_inv hP
     refine e_call (R := fun v_ w_ => ∃ (x91 : Unit), v_ = .tuple #[.int .u8 0, .int .i64 1] ∧ Hp S Fa w0 w_ [] ∧ x89 = x91) E rfl rfl Try.func29 rfl rfl rfl ?_ ?_
     ·
      clear E hP; have hP := h90; clear h90; rw [law25_PlayKnown_f2] at hP
      refine enterV (n := 85) Try.func29 rfl rfl rfl ?_
      intro a E
      replace E := E.pick [(0, .pointer none), (1, .int .u64 2)] ⟨rfl, rfl, trivial⟩
      refine wp_seq ?_
      refine wp_region_lit ?_
      refine vr tbok 2 [] [(0, .pointer none), (1, .int .u64 2)] [] E (by kernel_rfl) trivial ?_
      clear E; intro a E
      refine wpList_nil ?_
      refine th_n ?_
      refine wp_seq ?_
      refine wp_seq ?_
      refine wp_region_lit ?_
      refine vr tbok 1 [] [(0, .pointer none), (1, .int .u64 2), (8, .pointer none)] [] E (by kernel_rfl) trivial ?_
      clear E; intro a E
      obtain ⟨x92, h93, hP⟩ := bind_inv hP
      refine e_call (R := fun v_ w_ => ∃ (x94 : Unit), v_ = .bool true ∧ Hp S Fa w0 w_ [] ∧ x92 = x94) E rfl rfl Try.func60 rfl rfl rfl ?_ ?_
      ·
       clear E hP; have hP := h93; clear h93; rw [law25_PlayKnown_f3] at hP
       refine enterV (n := 12) Try.func60 rfl rfl rfl ?_
       intro a E
       replace E := E.pick [(0, .pointer none)] ⟨rfl, trivial⟩
       refine wp_seq ?_
       refine wp_region_lit ?_
       refine vr tbok 1 [] [(0, .pointer none)] [] E (by kernel_rfl) trivial ?_
       clear E; intro a E
       refine wpList_nil ?_
       refine th_n ?_
       refine wp_seq ?_
       refine wp_region_lit ?_
       refine vr tbok 10 [] [(2, .bool true)] [] E (by kernel_rfl) trivial ?_
       clear E; intro a E
       refine wpList_nil ?_
       refine th_n ?_
       refine wp_ret ?_
       have hx_ := Option.some.inj hP
       refine ret1 E rfl rfl ?_
       exact ⟨_, rfl, (), rfl, H.sel [] rfl, hx_.symm⟩
      ·
       clear H
       rintro v96 w95 a ⟨x94, rfl, H, hx_⟩ E_
       subst hx_
       replace E := E_ _ rfl; clear E_
       refine wpList_nil ?_
       refine th_n ?_
       refine c_true E rfl ?_
       refine wp_seq ?_
       refine wp_region_lit ?_
       refine vr tbok 2 [] [(4, .int .u8 0), (5, .int .i64 1)] [] E (by kernel_rfl) trivial ?_
       clear E; intro a E
       refine wpList_nil ?_
       refine th_n ?_
       refine wp_ret ?_
       refine th_ret ?_
       have hx_ := Option.some.inj hP
       refine ret2 E rfl rfl rfl ?_
       exact ⟨_, rfl, (), rfl, H.sel [] rfl, hx_.symm⟩
     ·
      clear H
      rintro v98 w97 a ⟨x91, rfl, H, hx_⟩ E_
      subst hx_
      replace E := E_ _ rfl; clear E_
      refine vr tbok 5 [] [(1, .pointer none), (5, .int .i64 1), (7, .int .i64 1)] [] E (by kernel_rfl) trivial ?_
      clear E; intro a E
      refine wpList_nil ?_
      refine th_n ?_
      refine wp_seq ?_
      refine wp_region_lit ?_
      refine vr tbok 1 [] [(1, .pointer none), (5, .int .i64 1), (7, .int .i64 1), (49, .pointer none)] [] E (by kernel_rfl) trivial ?_
      clear E; intro a E
      obtain ⟨x101, h102, hP⟩ := bind_inv hP
      refine e_call (R := fun v_ w_ => ∃ (x103 : Unit), v_ = .tuple #[.int .u8 0, .int .i64 1] ∧ Hp S Fa w0 w_ [] ∧ x101 = x103) E rfl rfl Try.func29 rfl rfl rfl ?_ ?_
      ·
       clear E hP; have hP := h102; clear h102; rw [law25_PlayKnown_f4] at hP
       refine enterV (n := 85) Try.func29 rfl rfl rfl ?_
       intro a E
       replace E := E.pick [(0, .pointer none), (1, .int .u64 256)] ⟨rfl, rfl, trivial⟩
       refine wp_seq ?_
       refine wp_region_lit ?_
       refine vr tbok 2 [] [(0, .pointer none), (1, .int .u64 256)] [] E (by kernel_rfl) trivial ?_
       clear E; intro a E
       refine wpList_nil ?_
       refine th_n ?_
       refine wp_seq ?_
       refine wp_seq ?_
       refine wp_region_lit ?_
       refine vr tbok 1 [] [(0, .pointer none), (1, .int .u64 256), (8, .pointer none)] [] E (by kernel_rfl) trivial ?_
       clear E; intro a E
       obtain ⟨x104, h105, hP⟩ := bind_inv hP
       refine e_call (R := fun v_ w_ => ∃ (x106 : Unit), v_ = .bool true ∧ Hp S Fa w0 w_ [] ∧ x104 = x106) E rfl rfl Try.func60 rfl rfl rfl ?_ ?_
       ·
        clear E hP; have hP := h105; clear h105; rw [law25_PlayKnown_f5] at hP
        refine enterV (n := 12) Try.func60 rfl rfl rfl ?_
        intro a E
        replace E := E.pick [(0, .pointer none)] ⟨rfl, trivial⟩
        refine wp_seq ?_
        refine wp_region_lit ?_
        refine vr tbok 1 [] [(0, .pointer none)] [] E (by kernel_rfl) trivial ?_
        clear E; intro a E
        refine wpList_nil ?_
        refine th_n ?_
        refine wp_seq ?_
        refine wp_region_lit ?_
        refine vr tbok 10 [] [(2, .bool true)] [] E (by kernel_rfl) trivial ?_
        clear E; intro a E
        refine wpList_nil ?_
        refine th_n ?_
        refine wp_ret ?_
        have hx_ := Option.some.inj hP
        refine ret1 E rfl rfl ?_
        exact ⟨_, rfl, (), rfl, H.sel [] rfl, hx_.symm⟩
       ·
        clear H
        rintro v108 w107 a ⟨x106, rfl, H, hx_⟩ E_
        subst hx_
        replace E := E_ _ rfl; clear E_
        refine wpList_nil ?_
        refine th_n ?_
        refine c_true E rfl ?_
        refine wp_seq ?_
        refine wp_region_lit ?_
        refine vr tbok 2 [] [(4, .int .u8 0), (5, .int .i64 1)] [] E (by kernel_rfl) trivial ?_
        clear E; intro a E
        refine wpList_nil ?_
        refine th_n ?_
        refine wp_ret ?_
        refine th_ret ?_
        have hx_ := Option.some.inj hP
        refine ret2 E rfl rfl rfl ?_
        exact ⟨_, rfl, (), rfl, H.sel [] rfl, hx_.symm⟩
      ·
       clear H
       rintro v110 w109 a ⟨x103, rfl, H, hx_⟩ E_
       subst hx_
       replace E := E_ _ rfl; clear E_
       refine vr tbok 5 [] [(1, .pointer none), (5, .int .i64 1), (7, .int .i64 1), (9, .int .i64 1)] [] E (by kernel_rfl) trivial ?_
       clear E; intro a E
       refine wpList_nil ?_
       refine th_n ?_
       refine wp_seq ?_
       refine wp_region_lit ?_
       refine vr tbok 1 [] [(1, .pointer none), (5, .int .i64 1), (7, .int .i64 1), (9, .int .i64 1), (54, .pointer none)] [] E (by kernel_rfl) trivial ?_
       clear E; intro a E
       obtain ⟨x113, h114, hP⟩ := bind_inv hP
       refine e_call (R := fun v_ w_ => ∃ (x115 : Unit), v_ = .tuple #[.int .u8 0, .int .i64 1] ∧ Hp S Fa w0 w_ [] ∧ x113 = x115) E rfl rfl Try.func29 rfl rfl rfl ?_ ?_
       ·
        clear E hP; have hP := h114; clear h114; rw [law25_PlayKnown_f6] at hP
        refine enterV (n := 85) Try.func29 rfl rfl rfl ?_
        intro a E
        replace E := E.pick [(0, .pointer none), (1, .int .u64 1)] ⟨rfl, rfl, trivial⟩
        refine wp_seq ?_
        refine wp_region_lit ?_
        refine vr tbok 2 [] [(0, .pointer none), (1, .int .u64 1)] [] E (by kernel_rfl) trivial ?_
        clear E; intro a E
        refine wpList_nil ?_
        refine th_n ?_
        refine wp_seq ?_
        refine wp_seq ?_
        refine wp_region_lit ?_
        refine vr tbok 1 [] [(0, .pointer none), (1, .int .u64 1), (8, .pointer none)] [] E (by kernel_rfl) trivial ?_
        clear E; intro a E
        obtain ⟨x116, h117, hP⟩ := bind_inv hP
        refine e_call (R := fun v_ w_ => ∃ (x118 : Unit), v_ = .bool true ∧ Hp S Fa w0 w_ [] ∧ x116 = x118) E rfl rfl Try.func60 rfl rfl rfl ?_ ?_
        ·
         clear E hP; have hP := h117; clear h117; rw [law25_PlayKnown_f7] at hP
         refine enterV (n := 12) Try.func60 rfl rfl rfl ?_
         intro a E
         replace E := E.pick [(0, .pointer none)] ⟨rfl, trivial⟩
         refine wp_seq ?_
         refine wp_region_lit ?_
         refine vr tbok 1 [] [(0, .pointer none)] [] E (by kernel_rfl) trivial ?_
         clear E; intro a E
         refine wpList_nil ?_
         refine th_n ?_
         refine wp_seq ?_
         refine wp_region_lit ?_
         refine vr tbok 10 [] [(2, .bool true)] [] E (by kernel_rfl) trivial ?_
         clear E; intro a E
         refine wpList_nil ?_
         refine th_n ?_
         refine wp_ret ?_
         have hx_ := Option.some.inj hP
         refine ret1 E rfl rfl ?_
         exact ⟨_, rfl, (), rfl, H.sel [] rfl, hx_.symm⟩
        ·
         clear H
         rintro v120 w119 a ⟨x118, rfl, H, hx_⟩ E_
         subst hx_
         replace E := E_ _ rfl; clear E_
         refine wpList_nil ?_
         refine th_n ?_
         refine c_true E rfl ?_
         refine wp_seq ?_
         refine wp_region_lit ?_
         refine vr tbok 2 [] [(4, .int .u8 0), (5, .int .i64 1)] [] E (by kernel_rfl) trivial ?_
         clear E; intro a E
         refine wpList_nil ?_
         refine th_n ?_
         refine wp_ret ?_
         refine th_ret ?_
         have hx_ := Option.some.inj hP
         refine ret2 E rfl rfl rfl ?_
         exact ⟨_, rfl, (), rfl, H.sel [] rfl, hx_.symm⟩
       ·
        clear H
        rintro v122 w121 a ⟨x115, rfl, H, hx_⟩ E_
        subst hx_
        replace E := E_ _ rfl; clear E_
        refine vr tbok 5 [] [(1, .pointer none), (5, .int .i64 1), (7, .int .i64 1), (9, .int .i64 1), (10, .int .u8 0), (11, .int .i64 1)] [] E (by kernel_rfl) trivial ?_
        clear E; intro a E
        refine wpList_nil ?_
        refine th_n ?_
        refine wp_seq ?_
        refine wp_region_lit ?_
        refine vr tbok 1 [] [(1, .pointer none), (5, .int .i64 1), (7, .int .i64 1), (9, .int .i64 1), (10, .int .u8 0), (11, .int .i64 1), (59, .pointer none)] [] E (by kernel_rfl) trivial ?_
        clear E; intro a E
        obtain ⟨x125, h126, hP⟩ := bind_inv hP
        refine e_call (R := fun v_ w_ => ∃ (x127 : Unit), v_ = .tuple #[.int .u8 0, .int .i64 1] ∧ Hp S Fa w0 w_ [] ∧ x125 = x127) E rfl rfl Try.func29 rfl rfl rfl ?_ ?_
        ·
         clear E hP; have hP := h126; clear h126; rw [law25_PlayKnown_f8] at hP
         refine enterV (n := 85) Try.func29 rfl rfl rfl ?_
         intro a E
         replace E := E.pick [(0, .pointer none), (1, .int .u64 0)] ⟨rfl, rfl, trivial⟩
         refine wp_seq ?_
         refine wp_region_lit ?_
         refine vr tbok 2 [] [(0, .pointer none), (1, .int .u64 0)] [] E (by kernel_rfl) trivial ?_
         clear E; intro a E
         refine wpList_nil ?_
         refine th_n ?_
         refine wp_seq ?_
         refine wp_seq ?_
         refine wp_region_lit ?_
         refine vr tbok 1 [] [(0, .pointer none), (1, .int .u64 0), (8, .pointer none)] [] E (by kernel_rfl) trivial ?_
         clear E; intro a E
         obtain ⟨x128, h129, hP⟩ := bind_inv hP
         refine e_call (R := fun v_ w_ => ∃ (x130 : Unit), v_ = .bool true ∧ Hp S Fa w0 w_ [] ∧ x128 = x130) E rfl rfl Try.func60 rfl rfl rfl ?_ ?_
         ·
          clear E hP; have hP := h129; clear h129; rw [law25_PlayKnown_f9] at hP
          refine enterV (n := 12) Try.func60 rfl rfl rfl ?_
          intro a E
          replace E := E.pick [(0, .pointer none)] ⟨rfl, trivial⟩
          refine wp_seq ?_
          refine wp_region_lit ?_
          refine vr tbok 1 [] [(0, .pointer none)] [] E (by kernel_rfl) trivial ?_
          clear E; intro a E
          refine wpList_nil ?_
          refine th_n ?_
          refine wp_seq ?_
          refine wp_region_lit ?_
          refine vr tbok 10 [] [(2, .bool true)] [] E (by kernel_rfl) trivial ?_
          clear E; intro a E
          refine wpList_nil ?_
          refine th_n ?_
          refine wp_ret ?_
          have hx_ := Option.some.inj hP
          refine ret1 E rfl rfl ?_
          exact ⟨_, rfl, (), rfl, H.sel [] rfl, hx_.symm⟩
         ·
          clear H
          rintro v132 w131 a ⟨x130, rfl, H, hx_⟩ E_
          subst hx_
          replace E := E_ _ rfl; clear E_
          refine wpList_nil ?_
          refine th_n ?_
          refine c_true E rfl ?_
          refine wp_seq ?_
          refine wp_region_lit ?_
          refine vr tbok 2 [] [(4, .int .u8 0), (5, .int .i64 1)] [] E (by kernel_rfl) trivial ?_
          clear E; intro a E
          refine wpList_nil ?_
          refine th_n ?_
          refine wp_ret ?_
          refine th_ret ?_
          have hx_ := Option.some.inj hP
          refine ret2 E rfl rfl rfl ?_
          exact ⟨_, rfl, (), rfl, H.sel [] rfl, hx_.symm⟩
        ·
         clear H
         rintro v134 w133 a ⟨x127, rfl, H, hx_⟩ E_
         subst hx_
         replace E := E_ _ rfl; clear E_
         refine vr tbok 5 [] [(1, .pointer none), (5, .int .i64 1), (7, .int .i64 1), (9, .int .i64 1), (10, .int .u8 0), (11, .int .i64 1), (13, .int .i64 1)] [] E (by kernel_rfl) trivial ?_
         clear E; intro a E
         refine wpList_nil ?_
         refine th_n ?_
         refine wp_seq ?_
         refine wp_region_lit ?_
         refine vr tbok 33 [] [(14, .bool false)] [] E (by kernel_rfl) trivial ?_
         clear E; intro a E
         refine wpList_nil ?_
         refine th_n ?_
         refine wp_seq ?_
         refine wp_region_lit ?_
         obtain ⟨r135, h136, hP⟩ := bind_inv hP
         obtain ⟨Fa137, Hc138, hb139⟩ := H.call [] [] rfl rfl trivial
         refine e_call E rfl rfl Try.func34 rfl rfl rfl (law23_Until_calls    Hc138 h136) ?_
         rintro v140 w141 a ⟨A144, c145, A147, c148, A150, c151, rfl, HR142⟩ E_
         replace E := E_ _ rfl; clear E_
         obtain ⟨H_, hc143⟩ := hb139 _ _ HR142 rfl
         replace H := H_; clear H_; try dsimp only [setn, addE, goneL] at H
         refine e_build (ps := [(0, .int .u8 2), (1, .int .u8 1)]) (v := .agg #[.int .u8 2, .int .u8 1]) E rfl rfl tbok rfl (by kernel_rfl) rfl ?_
         clear E; intro a E
         obtain ⟨r153, h154, hP⟩ := bind_inv hP
         obtain ⟨Fa155, Hc156, hb157⟩ := H.call [] [(0, false), (1, false), (2, false)] rfl rfl trivial
         refine e_call E rfl rfl Try.func24 rfl rfl rfl (law25_begun_calls A144 c145 A147 c148 A150 c151 r135.1 r135.2.1 r135.2.2.1 r135.2.2.2 (2, 1) (H.rcap 0 rfl) (H.rcap 1 rfl) (H.rcap 2 rfl) Hc156 h154) ?_
         intro v163 w162 a hR164 E_
         rcases hR164 with ⟨x_, A166, c167, A168, c169, A170, c171, hr_, rfl, HR172⟩ | ⟨x_, g173, A174, c175, A176, c177, A178, c179, A180, c181, A182, c183, A184, c185, A186, c187, A188, c189, A190, c191, hr_, rfl, HR192⟩
         ·
          subst hr_; have hP := elim_l hP
          obtain ⟨x193, hxx_⟩ : ∃ y_, y_ = x_ := ⟨_, rfl⟩; subst hxx_
          replace E := E_ _ rfl; clear E_
          obtain ⟨H_, hc165⟩ := hb157 _ _ HR172 rfl
          replace H := H_; clear H_; try dsimp only [setn, addE, goneL] at H
          refine vr tbok 4 [] [(14, .bool false), (99, .pointer none), (100, .agg #[.bool x193.1, .slice A166 (List.length x193.2.1) c167, .slice A168 (List.length x193.2.2.1) c169, .slice A170 (List.length x193.2.2.2.1) c171]), (101, .bool x193.2.2.2.2)] [] E (by kernel_rfl) trivial ?_
          clear E; intro a E
          refine h_alloc H E rfl rfl tbok rfl ?_
          intro w199 g198 a hc200 hg202 H_ E_
          replace E := E_ _ rfl; clear E_
          replace H := H_; clear H_; try dsimp only [setn, addE, goneL] at H
          refine vr tbok 1 [] [(14, .bool false), (15, .pointer none), (16, .pointer (some ⟨g198, 0, none⟩)), (100, .agg #[.bool x193.1, .slice A166 (List.length x193.2.1) c167, .slice A168 (List.length x193.2.2.1) c169, .slice A170 (List.length x193.2.2.2.1) c171]), (101, .bool x193.2.2.2.2)] [] E (by kernel_rfl) trivial ?_
          clear E; intro a E
          refine h_store (g := g198) (off := 0) H 6 rfl E rfl rfl rfl rfl tbok rfl rfl rfl rfl rfl ?_
          clear E; intro w203 a hc204 H_ E
          replace H := H_; clear H_; try dsimp only [setn, addE, goneL] at H
          refine vr tbok 1 [] [(3, .bool x193.2.2.2.2), (14, .bool false), (15, .pointer none), (16, .pointer (some ⟨g198, 0, none⟩))] [] E (by kernel_rfl) trivial ?_
          clear E; intro a E
          refine wpList_nil ?_
          refine th_n ?_
          refine wp_seq ?_
          refine wp_seq ?_
          refine wp_region_lit ?_
          refine vr tbok 3 [] [(14, .bool false), (15, .pointer none), (16, .pointer (some ⟨g198, 0, none⟩)), (104, .bool (!x193.2.2.2.2))] [] E (by kernel_rfl) trivial ?_
          clear E; intro a E
          refine E.cases (t := 104) rfl (fun hb_ E_ => ?_) (fun hb_ E_ => ?_)
          ·
           replace E := E_; clear E_
           have h205 : ¬ (x193.2.2.2.2 = true) := (ne_true_of_eq_false (not_t hb_))
           clear hb_; replace hP := ite_f h205 hP
           refine vr tbok 3 [] [(14, .bool false), (15, .pointer none), (107, .bool true)] [] E (by kernel_rfl) trivial ?_
           clear E; intro a E
           refine wpList_nil ?_
           refine th_n ?_
           refine c_true E rfl ?_
           refine wp_seq ?_
           refine wp_region_lit ?_
           refine vr tbok 1 [] [(0, .bool false)] [] E (by kernel_rfl) trivial ?_
           clear E; intro a E
           refine wpList_nil ?_
           refine th_n ?_
           refine wp_ret ?_
           refine th_ret ?_
           obtain rfl := Option.some.inj hP
           refine ret1 E rfl rfl ?_
           exact ⟨_, rfl, rfl, H.sel [] rfl⟩
          ·
           replace E := E_; clear E_
           have h206 : x193.2.2.2.2 = true := (not_f hb_)
           clear hb_; replace hP := ite_t h206 hP
           refine vr tbok 3 [.bool x193.1] [(14, .bool false), (15, .pointer none), (107, .bool x193.1)] [World.cell? w203 ⟨g198, 0, none⟩ = some (.bool x193.1)] E (by kernel_rfl) ((H.box 6 rfl).cell (j := 0) rfl) ?_
           clear E; intro a E
           refine wpList_nil ?_
           refine th_n ?_
           refine E.cases (t := 107) rfl (fun hb_ E_ => ?_) (fun hb_ E_ => ?_)
           ·
            replace E := E_; clear E_
            have h207 : x193.1 = true := hb_
            clear hb_; replace hP := ite_t h207 hP
            refine c_true E rfl ?_
            refine wp_seq ?_
            refine wp_region_lit ?_
            refine vr tbok 1 [] [(0, .bool false)] [] E (by kernel_rfl) trivial ?_
            clear E; intro a E
            refine wpList_nil ?_
            refine th_n ?_
            refine wp_ret ?_
            refine th_ret ?_
            obtain rfl := Option.some.inj hP
            refine ret1 E rfl rfl ?_
            exact ⟨_, rfl, rfl, H.sel [] rfl⟩
           ·
            replace E := E_; clear E_
            have h208 : ¬ (x193.1 = true) := (ne_true_of_eq_false hb_)
            clear hb_; replace hP := ite_f h208 hP
            refine c_false E rfl ?_
            refine wp_skip ?_
            refine th_n ?_
            refine wp_seq ?_
            refine wp_region_lit ?_
            refine vr tbok 1 [] [(14, .bool false), (15, .pointer none), (109, .pointer none)] [] E (by kernel_rfl) trivial ?_
            clear E; intro a E
            obtain ⟨x211, h212, hP⟩ := bind_inv hP
            refine e_call (R := fun v_ w_ => ∃ (x213 : Unit), v_ = .tuple #[.int .u8 0, .int .i64 1] ∧ Hp S Fa w0 w_ [] ∧ x211 = x213) E rfl rfl Try.func33 rfl rfl rfl ?_ ?_
            ·
             clear E hP; have hP := h212; clear h212; rw [law25_PlayKnown_f10] at hP
             refine enterV (n := 24) Try.func33 rfl rfl rfl ?_
             intro a E
             replace E := E.pick [(0, .pointer none)] ⟨rfl, trivial⟩
             refine wp_seq ?_
             refine wp_region_lit ?_
             refine vr tbok 2 [] [(0, .pointer none)] [] E (by kernel_rfl) trivial ?_
             clear E; intro a E
             refine wpList_nil ?_
             refine th_n ?_
             refine wp_seq ?_
             refine wp_block ?_
             refine wp_seq ?_
             refine wp_region_lit ?_
             refine vr tbok 1 [] [(0, .pointer none), (5, .pointer none)] [] E (by kernel_rfl) trivial ?_
             clear E; intro a E
             obtain ⟨x214, h215, hP⟩ := bind_inv hP
             refine e_call (R := fun v_ w_ => ∃ (x216 : Unit), v_ = .bool true ∧ Hp S Fa w0 w_ [] ∧ x214 = x216) E rfl rfl Try.func60 rfl rfl rfl ?_ ?_
             ·
              clear E hP; have hP := h215; clear h215; rw [law25_PlayKnown_f11] at hP
              refine enterV (n := 12) Try.func60 rfl rfl rfl ?_
              intro a E
              replace E := E.pick [(0, .pointer none)] ⟨rfl, trivial⟩
              refine wp_seq ?_
              refine wp_region_lit ?_
              refine vr tbok 1 [] [(0, .pointer none)] [] E (by kernel_rfl) trivial ?_
              clear E; intro a E
              refine wpList_nil ?_
              refine th_n ?_
              refine wp_seq ?_
              refine wp_region_lit ?_
              refine vr tbok 10 [] [(2, .bool true)] [] E (by kernel_rfl) trivial ?_
              clear E; intro a E
              refine wpList_nil ?_
              refine th_n ?_
              refine wp_ret ?_
              have hx_ := Option.some.inj hP
              refine ret1 E rfl rfl ?_
              exact ⟨_, rfl, (), rfl, H.sel [] rfl, hx_.symm⟩
             ·
              clear H
              rintro v218 w217 a ⟨x216, rfl, H, hx_⟩ E_
              subst hx_
              replace E := E_ _ rfl; clear E_
              refine vr tbok 1 [] [(0, .pointer none), (4, .bool true)] [] E (by kernel_rfl) trivial ?_
              clear E; intro a E
              refine wpList_nil ?_
              refine th_n ?_
              refine c_true E rfl ?_
              refine wp_seq ?_
              refine wp_region_lit ?_
              refine vr tbok 2 [] [(2, .int .u8 0), (3, .int .i64 1)] [] E (by kernel_rfl) trivial ?_
              clear E; intro a E
              refine wpList_nil ?_
              refine th_n ?_
              refine wp_ret ?_
              refine bl_ret ?_
              refine th_ret ?_
              have hx_ := Option.some.inj hP
              refine ret2 E rfl rfl rfl ?_
              exact ⟨_, rfl, (), rfl, H.sel [] rfl, hx_.symm⟩
            ·
             clear H
             rintro v220 w219 a ⟨x213, rfl, H, hx_⟩ E_
             subst hx_
             replace E := E_ _ rfl; clear E_
             refine vr tbok 5 [] [(14, .bool false), (15, .pointer none), (17, .int .u8 0), (18, .int .i64 1)] [] E (by kernel_rfl) trivial ?_
             clear E; intro a E
             refine wpList_nil ?_
             refine th_n ?_
             refine wp_seq ?_
             refine wp_region_lit ?_
             refine vr tbok 1 [] [(14, .bool false), (15, .pointer none), (17, .int .u8 0), (18, .int .i64 1), (114, .pointer none)] [] E (by kernel_rfl) trivial ?_
             clear E; intro a E
             obtain ⟨x223, h224, hP⟩ := bind_inv hP
             refine e_call (R := fun v_ w_ => ∃ (x225 : Unit), v_ = .tuple #[.int .u8 0, .int .i64 1] ∧ Hp S Fa w0 w_ [] ∧ x223 = x225) E rfl rfl Try.func29 rfl rfl rfl ?_ ?_
             ·
              clear E hP; have hP := h224; clear h224; rw [law25_PlayKnown_f12] at hP
              refine enterV (n := 85) Try.func29 rfl rfl rfl ?_
              intro a E
              replace E := E.pick [(0, .pointer none), (1, .int .u64 1)] ⟨rfl, rfl, trivial⟩
              refine wp_seq ?_
              refine wp_region_lit ?_
              refine vr tbok 2 [] [(0, .pointer none), (1, .int .u64 1)] [] E (by kernel_rfl) trivial ?_
              clear E; intro a E
              refine wpList_nil ?_
              refine th_n ?_
              refine wp_seq ?_
              refine wp_seq ?_
              refine wp_region_lit ?_
              refine vr tbok 1 [] [(0, .pointer none), (1, .int .u64 1), (8, .pointer none)] [] E (by kernel_rfl) trivial ?_
              clear E; intro a E
              obtain ⟨x226, h227, hP⟩ := bind_inv hP
              refine e_call (R := fun v_ w_ => ∃ (x228 : Unit), v_ = .bool true ∧ Hp S Fa w0 w_ [] ∧ x226 = x228) E rfl rfl Try.func60 rfl rfl rfl ?_ ?_
              ·
               clear E hP; have hP := h227; clear h227; rw [law25_PlayKnown_f13] at hP
               refine enterV (n := 12) Try.func60 rfl rfl rfl ?_
               intro a E
               replace E := E.pick [(0, .pointer none)] ⟨rfl, trivial⟩
               refine wp_seq ?_
               refine wp_region_lit ?_
               refine vr tbok 1 [] [(0, .pointer none)] [] E (by kernel_rfl) trivial ?_
               clear E; intro a E
               refine wpList_nil ?_
               refine th_n ?_
               refine wp_seq ?_
               refine wp_region_lit ?_
               refine vr tbok 10 [] [(2, .bool true)] [] E (by kernel_rfl) trivial ?_
               clear E; intro a E
               refine wpList_nil ?_
               refine th_n ?_
               refine wp_ret ?_
               have hx_ := Option.some.inj hP
               refine ret1 E rfl rfl ?_
               exact ⟨_, rfl, (), rfl, H.sel [] rfl, hx_.symm⟩
              ·
               clear H
               rintro v230 w229 a ⟨x228, rfl, H, hx_⟩ E_
               subst hx_
               replace E := E_ _ rfl; clear E_
               refine wpList_nil ?_
               refine th_n ?_
               refine c_true E rfl ?_
               refine wp_seq ?_
               refine wp_region_lit ?_
               refine vr tbok 2 [] [(4, .int .u8 0), (5, .int .i64 1)] [] E (by kernel_rfl) trivial ?_
               clear E; intro a E
               refine wpList_nil ?_
               refine th_n ?_
               refine wp_ret ?_
               refine th_ret ?_
               have hx_ := Option.some.inj hP
               refine ret2 E rfl rfl rfl ?_
               exact ⟨_, rfl, (), rfl, H.sel [] rfl, hx_.symm⟩
             ·
              clear H
              rintro v232 w231 a ⟨x225, rfl, H, hx_⟩ E_
              subst hx_
              replace E := E_ _ rfl; clear E_
              refine vr tbok 5 [] [(14, .bool false), (15, .pointer none), (17, .int .u8 0), (18, .int .i64 1), (19, .int .u8 0), (20, .int .i64 1)] [] E (by kernel_rfl) trivial ?_
              clear E; intro a E
              refine wpList_nil ?_
              refine th_n ?_
              refine wp_seq ?_
              refine wp_region_lit ?_
              refine vr tbok 1 [] [(14, .bool false), (15, .pointer none), (17, .int .u8 0), (18, .int .i64 1), (19, .int .u8 0), (20, .int .i64 1), (118, .pointer none)] [] E (by kernel_rfl) trivial ?_
              clear E; intro a E
              obtain ⟨x235, h236, hP⟩ := bind_inv hP
              refine e_call (R := fun v_ w_ => ∃ (x237 : Unit), v_ = .int .i64 0 ∧ Hp S Fa w0 w_ [] ∧ x235 = x237) E rfl rfl Try.func26 rfl rfl rfl ?_ ?_
              ·
               clear E hP; have hP := h236; clear h236; rw [law25_PlayKnown_f14] at hP
               refine enterV (n := 16) Try.func26 rfl rfl rfl ?_
               intro a E
               replace E := E.pick [(0, .pointer none)] ⟨rfl, trivial⟩
               refine wp_seq ?_
               refine wp_region_lit ?_
               refine vr tbok 1 [] [(0, .pointer none)] [] E (by kernel_rfl) trivial ?_
               clear E; intro a E
               refine wpList_nil ?_
               refine th_n ?_
               refine wp_seq ?_
               refine wp_seq ?_
               refine wp_region_lit ?_
               refine vr tbok 1 [] [(0, .pointer none), (3, .pointer none)] [] E (by kernel_rfl) trivial ?_
               clear E; intro a E
               obtain ⟨x238, h239, hP⟩ := bind_inv hP
               refine e_call (R := fun v_ w_ => ∃ (x240 : Unit), v_ = .bool true ∧ Hp S Fa w0 w_ [] ∧ x238 = x240) E rfl rfl Try.func60 rfl rfl rfl ?_ ?_
               ·
                clear E hP; have hP := h239; clear h239; rw [law25_PlayKnown_f15] at hP
                refine enterV (n := 12) Try.func60 rfl rfl rfl ?_
                intro a E
                replace E := E.pick [(0, .pointer none)] ⟨rfl, trivial⟩
                refine wp_seq ?_
                refine wp_region_lit ?_
                refine vr tbok 1 [] [(0, .pointer none)] [] E (by kernel_rfl) trivial ?_
                clear E; intro a E
                refine wpList_nil ?_
                refine th_n ?_
                refine wp_seq ?_
                refine wp_region_lit ?_
                refine vr tbok 10 [] [(2, .bool true)] [] E (by kernel_rfl) trivial ?_
                clear E; intro a E
                refine wpList_nil ?_
                refine th_n ?_
                refine wp_ret ?_
                have hx_ := Option.some.inj hP
                refine ret1 E rfl rfl ?_
                exact ⟨_, rfl, (), rfl, H.sel [] rfl, hx_.symm⟩
               ·
                clear H
                rintro v242 w241 a ⟨x240, rfl, H, hx_⟩ E_
                subst hx_
                replace E := E_ _ rfl; clear E_
                refine wpList_nil ?_
                refine th_n ?_
                refine c_true E rfl ?_
                refine wp_seq ?_
                refine wp_region_lit ?_
                refine vr tbok 1 [] [(2, .int .i64 0)] [] E (by kernel_rfl) trivial ?_
                clear E; intro a E
                refine wpList_nil ?_
                refine th_n ?_
                refine wp_ret ?_
                refine th_ret ?_
                have hx_ := Option.some.inj hP
                refine ret1 E rfl rfl ?_
                exact ⟨_, rfl, (), rfl, H.sel [] rfl, hx_.symm⟩
              ·
               clear H
               rintro v244 w243 a ⟨x237, rfl, H, hx_⟩ E_
               subst hx_
               replace E := E_ _ rfl; clear E_
               refine vr tbok 1 [] [(14, .bool false), (15, .pointer none), (17, .int .u8 0), (18, .int .i64 1), (19, .int .u8 0), (20, .int .i64 1), (21, .int .i64 0)] [] E (by kernel_rfl) trivial ?_
               clear E; intro a E
               refine wpList_nil ?_
               refine th_n ?_
               refine wp_seq ?_
               refine wp_region_lit ?_
               refine vr tbok 1 [] [(14, .bool false), (15, .pointer none), (17, .int .u8 0), (18, .int .i64 1), (19, .int .u8 0), (20, .int .i64 1), (21, .int .i64 0), (121, .pointer none)] [] E (by kernel_rfl) trivial ?_
               clear E; intro a E
               obtain ⟨x247, h248, hP⟩ := bind_inv hP
               refine e_call (R := fun v_ w_ => ∃ (x249 : Unit), v_ = .tuple #[.int .u8 0, .int .i64 1] ∧ Hp S Fa w0 w_ [] ∧ x247 = x249) E rfl rfl Try.func29 rfl rfl rfl ?_ ?_
               ·
                clear E hP; have hP := h248; clear h248; rw [law25_PlayKnown_f16] at hP
                refine enterV (n := 85) Try.func29 rfl rfl rfl ?_
                intro a E
                replace E := E.pick [(0, .pointer none), (1, .int .u64 0)] ⟨rfl, rfl, trivial⟩
                refine wp_seq ?_
                refine wp_region_lit ?_
                refine vr tbok 2 [] [(0, .pointer none), (1, .int .u64 0)] [] E (by kernel_rfl) trivial ?_
                clear E; intro a E
                refine wpList_nil ?_
                refine th_n ?_
                refine wp_seq ?_
                refine wp_seq ?_
                refine wp_region_lit ?_
                refine vr tbok 1 [] [(0, .pointer none), (1, .int .u64 0), (8, .pointer none)] [] E (by kernel_rfl) trivial ?_
                clear E; intro a E
                obtain ⟨x250, h251, hP⟩ := bind_inv hP
                refine e_call (R := fun v_ w_ => ∃ (x252 : Unit), v_ = .bool true ∧ Hp S Fa w0 w_ [] ∧ x250 = x252) E rfl rfl Try.func60 rfl rfl rfl ?_ ?_
                ·
                 clear E hP; have hP := h251; clear h251; rw [law25_PlayKnown_f17] at hP
                 refine enterV (n := 12) Try.func60 rfl rfl rfl ?_
                 intro a E
                 replace E := E.pick [(0, .pointer none)] ⟨rfl, trivial⟩
                 refine wp_seq ?_
                 refine wp_region_lit ?_
                 refine vr tbok 1 [] [(0, .pointer none)] [] E (by kernel_rfl) trivial ?_
                 clear E; intro a E
                 refine wpList_nil ?_
                 refine th_n ?_
                 refine wp_seq ?_
                 refine wp_region_lit ?_
                 refine vr tbok 10 [] [(2, .bool true)] [] E (by kernel_rfl) trivial ?_
                 clear E; intro a E
                 refine wpList_nil ?_
                 refine th_n ?_
                 refine wp_ret ?_
                 have hx_ := Option.some.inj hP
                 refine ret1 E rfl rfl ?_
                 exact ⟨_, rfl, (), rfl, H.sel [] rfl, hx_.symm⟩
                ·
                 clear H
                 rintro v254 w253 a ⟨x252, rfl, H, hx_⟩ E_
                 subst hx_
                 replace E := E_ _ rfl; clear E_
                 refine wpList_nil ?_
                 refine th_n ?_
                 refine c_true E rfl ?_
                 refine wp_seq ?_
                 refine wp_region_lit ?_
                 refine vr tbok 2 [] [(4, .int .u8 0), (5, .int .i64 1)] [] E (by kernel_rfl) trivial ?_
                 clear E; intro a E
                 refine wpList_nil ?_
                 refine th_n ?_
                 refine wp_ret ?_
                 refine th_ret ?_
                 have hx_ := Option.some.inj hP
                 refine ret2 E rfl rfl rfl ?_
                 exact ⟨_, rfl, (), rfl, H.sel [] rfl, hx_.symm⟩
               ·
                clear H
                rintro v256 w255 a ⟨x249, rfl, H, hx_⟩ E_
                subst hx_
                replace E := E_ _ rfl; clear E_
                refine vr tbok 5 [] [(14, .bool false), (15, .pointer none), (17, .int .u8 0), (18, .int .i64 1), (19, .int .u8 0), (20, .int .i64 1), (21, .int .i64 0), (22, .int .u8 0), (23, .int .i64 1)] [] E (by kernel_rfl) trivial ?_
                clear E; intro a E
                refine wpList_nil ?_
                refine th_n ?_
                refine wp_seq ?_
                refine wp_region_lit ?_
                obtain ⟨r257, h258, hP⟩ := bind_inv hP
                obtain ⟨Fa259, Hc260, hb261⟩ := H.call [] [] rfl rfl trivial
                refine e_call E rfl rfl Try.func22 rfl rfl rfl (law25_awake_calls    Hc260 h258) ?_
                rintro v262 w263 a ⟨rfl, HR264⟩ E_
                replace E := E_ _ rfl; clear E_
                obtain ⟨H_, hc265⟩ := hb261 _ _ HR264 rfl
                replace H := H_; clear H_; try dsimp only [setn, addE, goneL] at H
                refine vr tbok 1 [] [(14, .bool false), (15, .pointer none), (17, .int .u8 0), (18, .int .i64 1), (19, .int .u8 0), (20, .int .i64 1), (21, .int .i64 0), (22, .int .u8 0), (23, .int .i64 1), (126, .bool r257)] [] E (by kernel_rfl) trivial ?_
                clear E; intro a E
                refine E.cases (t := 126) rfl (fun hb_ E_ => ?_) (fun hb_ E_ => ?_)
                ·
                 replace E := E_; clear E_
                 have h266 : r257 = true := hb_
                 clear hb_; replace hP := ite_t h266 hP
                 refine vr tbok 40 [] [(0, .bool false)] [] E (by kernel_rfl) trivial ?_
                 clear E; intro a E
                 refine wpList_nil ?_
                 refine th_n ?_
                 refine wp_ret ?_
                 obtain rfl := Option.some.inj hP
                 refine ret1 E rfl rfl ?_
                 exact ⟨_, rfl, rfl, H.sel [] rfl⟩
                ·
                 replace E := E_; clear E_
                 have h267 : ¬ (r257 = true) := (ne_true_of_eq_false hb_)
                 clear hb_; replace hP := ite_f h267 hP
                 refine vr tbok 40 [] [(0, .bool false)] [] E (by kernel_rfl) trivial ?_
                 clear E; intro a E
                 refine wpList_nil ?_
                 refine th_n ?_
                 refine wp_ret ?_
                 obtain rfl := Option.some.inj hP
                 refine ret1 E rfl rfl ?_
                 exact ⟨_, rfl, rfl, H.sel [] rfl⟩
         ·
          subst hr_; have hP := (elim_r hP)
          obtain ⟨x194, hxx_⟩ : ∃ y_, y_ = x_ := ⟨_, rfl⟩; subst hxx_
          replace E := E_ _ rfl; clear E_
          obtain ⟨H_, hc165⟩ := hb157 _ _ HR192 rfl
          replace H := H_; clear H_; try dsimp only [setn, addE, goneL] at H
          refine vr tbok 4 [] [(14, .bool false), (99, .pointer (some ⟨g173, 0, none⟩)), (100, .agg #[.bool x194.2.2.2.2.2.2.2.1, .slice A186 (List.length x194.2.2.2.2.2.2.2.2.1) c187, .slice A188 (List.length x194.2.2.2.2.2.2.2.2.2.1) c189, .slice A190 (List.length x194.2.2.2.2.2.2.2.2.2.2.1) c191]), (101, .bool x194.2.2.2.2.2.2.2.2.2.2.2)] [] E (by kernel_rfl) trivial ?_
          clear E; intro a E
          refine h_alloc H E rfl rfl tbok rfl ?_
          intro w279 g278 a hc280 hg282 H_ E_
          replace E := E_ _ rfl; clear E_
          replace H := H_; clear H_; try dsimp only [setn, addE, goneL] at H
          refine vr tbok 1 [] [(14, .bool false), (15, .pointer (some ⟨g173, 0, none⟩)), (16, .pointer (some ⟨g278, 0, none⟩)), (100, .agg #[.bool x194.2.2.2.2.2.2.2.1, .slice A186 (List.length x194.2.2.2.2.2.2.2.2.1) c187, .slice A188 (List.length x194.2.2.2.2.2.2.2.2.2.1) c189, .slice A190 (List.length x194.2.2.2.2.2.2.2.2.2.2.1) c191]), (101, .bool x194.2.2.2.2.2.2.2.2.2.2.2)] [] E (by kernel_rfl) trivial ?_
          clear E; intro a E
          refine h_store (g := g278) (off := 0) H 13 rfl E rfl rfl rfl rfl tbok rfl rfl rfl rfl rfl ?_
          clear E; intro w283 a hc284 H_ E
          replace H := H_; clear H_; try dsimp only [setn, addE, goneL] at H
          refine vr tbok 1 [] [(3, .bool x194.2.2.2.2.2.2.2.2.2.2.2), (14, .bool false), (15, .pointer (some ⟨g173, 0, none⟩)), (16, .pointer (some ⟨g278, 0, none⟩))] [] E (by kernel_rfl) trivial ?_
          clear E; intro a E
          refine wpList_nil ?_
          refine th_n ?_
          refine wp_seq ?_
          refine wp_seq ?_
          refine wp_region_lit ?_
          refine vr tbok 3 [] [(14, .bool false), (15, .pointer (some ⟨g173, 0, none⟩)), (16, .pointer (some ⟨g278, 0, none⟩)), (104, .bool (!x194.2.2.2.2.2.2.2.2.2.2.2))] [] E (by kernel_rfl) trivial ?_
          clear E; intro a E
          refine E.cases (t := 104) rfl (fun hb_ E_ => ?_) (fun hb_ E_ => ?_)
          ·
           replace E := E_; clear E_
           have h285 : ¬ (x194.2.2.2.2.2.2.2.2.2.2.2 = true) := (ne_true_of_eq_false (not_t hb_))
           clear hb_; replace hP := ite_f h285 hP
           refine vr tbok 3 [] [(14, .bool false), (15, .pointer (some ⟨g173, 0, none⟩)), (107, .bool true)] [] E (by kernel_rfl) trivial ?_
           clear E; intro a E
           refine wpList_nil ?_
           refine th_n ?_
           refine c_true E rfl ?_
           refine wp_seq ?_
           refine wp_region_lit ?_
           refine vr tbok 1 [] [(0, .bool false)] [] E (by kernel_rfl) trivial ?_
           clear E; intro a E
           refine wpList_nil ?_
           refine th_n ?_
           refine wp_ret ?_
           refine th_ret ?_
           obtain rfl := Option.some.inj hP
           refine ret1 E rfl rfl ?_
           exact ⟨_, rfl, rfl, H.sel [] rfl⟩
          ·
           replace E := E_; clear E_
           have h286 : x194.2.2.2.2.2.2.2.2.2.2.2 = true := (not_f hb_)
           clear hb_; replace hP := ite_t h286 hP
           refine vr tbok 3 [.bool x194.2.2.2.2.2.2.2.1] [(14, .bool false), (15, .pointer (some ⟨g173, 0, none⟩)), (107, .bool x194.2.2.2.2.2.2.2.1)] [World.cell? w283 ⟨g278, 0, none⟩ = some (.bool x194.2.2.2.2.2.2.2.1)] E (by kernel_rfl) ((H.box 13 rfl).cell (j := 0) rfl) ?_
           clear E; intro a E
           refine wpList_nil ?_
           refine th_n ?_
           refine E.cases (t := 107) rfl (fun hb_ E_ => ?_) (fun hb_ E_ => ?_)
           ·
            replace E := E_; clear E_
            have h287 : x194.2.2.2.2.2.2.2.1 = true := hb_
            clear hb_; replace hP := ite_t h287 hP
            refine c_true E rfl ?_
            refine wp_seq ?_
            refine wp_region_lit ?_
            refine vr tbok 1 [] [(0, .bool false)] [] E (by kernel_rfl) trivial ?_
            clear E; intro a E
            refine wpList_nil ?_
            refine th_n ?_
            refine wp_ret ?_
            refine th_ret ?_
            obtain rfl := Option.some.inj hP
            refine ret1 E rfl rfl ?_
            exact ⟨_, rfl, rfl, H.sel [] rfl⟩
           ·
            replace E := E_; clear E_
            have h288 : ¬ (x194.2.2.2.2.2.2.2.1 = true) := (ne_true_of_eq_false hb_)
            clear hb_; replace hP := ite_f h288 hP
            refine c_false E rfl ?_
            refine wp_skip ?_
            refine th_n ?_
            refine wp_seq ?_
            refine wp_region_lit ?_
            refine vr tbok 1 [] [(14, .bool false), (15, .pointer (some ⟨g173, 0, none⟩)), (109, .pointer (some ⟨g173, 0, none⟩))] [] E (by kernel_rfl) trivial ?_
            clear E; intro a E
            replace H := H.nilrow cS98 99; try dsimp only [setn, addE, goneL] at H
            obtain ⟨r290, h291, hP⟩ := bind_inv hP
            obtain ⟨Fa292, Hc293, hb294⟩ := H.call [3, 14] [(4, false), (5, false), (6, false), (7, false), (8, false), (9, false)] rfl rfl ⟨flat_plain, trivial⟩
            refine e_call E rfl rfl Try.func33 rfl rfl rfl (play_Referee_Choice_calls g173 A174 c175 A176 c177 A178 c179 A180 c181 A182 c183 A184 c185 none 0 r135.1 x194.1 x194.2.1 x194.2.2.1 (2, 1) x194.2.2.2.1 x194.2.2.2.2.1 x194.2.2.2.2.2.1 x194.2.2.2.2.2.2.1 0 [] true (H.rcap 4 rfl) (H.rcap 5 rfl) (H.rcap 6 rfl) (H.rcap 7 rfl) (H.rcap 8 rfl) (H.rcap 9 rfl) Hc293 h291) ?_
            intro v300 w299 a hR301 E_
            obtain ⟨x_, hr_, rfl, HR303⟩ := hR301
            subst hr_
            replace E := E_ _ rfl; clear E_
            obtain ⟨H_, hc302⟩ := hb294 _ _ HR303 rfl
            replace H := H_; clear H_; try dsimp only [setn, addE, goneL] at H
            refine vr tbok 5 [] [(14, .bool false), (15, .pointer (some ⟨g173, 0, none⟩)), (17, .int .u8 r290.1), (18, .int .i64 r290.2)] [] E (by kernel_rfl) trivial ?_
            clear E; intro a E
            refine wpList_nil ?_
            refine th_n ?_
            refine wp_seq ?_
            refine wp_region_lit ?_
            refine vr tbok 1 [] [(14, .bool false), (15, .pointer (some ⟨g173, 0, none⟩)), (17, .int .u8 r290.1), (18, .int .i64 r290.2), (114, .pointer (some ⟨g173, 0, none⟩))] [] E (by kernel_rfl) trivial ?_
            clear E; intro a E
            obtain ⟨r306, h307, hP⟩ := bind_inv hP
            obtain ⟨Fa308, Hc309, hb310⟩ := H.call [16, 15] [(4, false), (5, false), (6, false), (7, false), (8, false), (9, false)] rfl rfl ⟨flat_plain, trivial⟩
            refine e_call E rfl rfl Try.func29 rfl rfl rfl (play_Referee_Move_calls g173 A174 c175 A176 c177 A178 c179 A180 c181 A182 c183 A184 c185 none 0 r135.1 x194.1 x194.2.1 x194.2.2.1 (2, 1) x194.2.2.2.1 x194.2.2.2.2.1 x194.2.2.2.2.2.1 x194.2.2.2.2.2.2.1 0 [] true 1 (H.rcap 4 rfl) (H.rcap 5 rfl) (H.rcap 6 rfl) (H.rcap 7 rfl) (H.rcap 8 rfl) (H.rcap 9 rfl) Hc309 h307) ?_
            intro v316 w315 a hR317 E_
            obtain ⟨x_, A320, c321, hr_, rfl, HR319⟩ := hR317
            subst hr_
            replace E := E_ _ rfl; clear E_
            obtain ⟨H_, hc318⟩ := hb310 _ _ HR319 rfl
            replace H := H_; clear H_; try dsimp only [setn, addE, goneL] at H
            refine vr tbok 5 [] [(14, .bool false), (15, .pointer (some ⟨g173, 0, none⟩)), (17, .int .u8 r290.1), (18, .int .i64 r290.2), (19, .int .u8 r306.1), (20, .int .i64 r306.2.1)] [] E (by kernel_rfl) trivial ?_
            clear E; intro a E
            refine wpList_nil ?_
            refine th_n ?_
            refine wp_seq ?_
            refine wp_region_lit ?_
            refine vr tbok 1 [] [(14, .bool false), (15, .pointer (some ⟨g173, 0, none⟩)), (17, .int .u8 r290.1), (18, .int .i64 r290.2), (19, .int .u8 r306.1), (20, .int .i64 r306.2.1), (118, .pointer (some ⟨g173, 0, none⟩))] [] E (by kernel_rfl) trivial ?_
            clear E; intro a E
            obtain ⟨r324, h325, hP⟩ := bind_inv hP
            obtain ⟨Fa326, Hc327, hb328⟩ := H.call [17, 18] [(4, false), (5, false), (6, false), (7, false), (8, false), (9, false)] rfl rfl ⟨flat_plain, trivial⟩
            refine e_call E rfl rfl Try.func26 rfl rfl rfl (play_Referee_Rank_calls g173 A174 c175 A176 c177 A178 c179 A180 c181 A182 c183 A184 c185 A320 c321 r135.1 x194.1 x194.2.1 x194.2.2.1 (2, 1) x194.2.2.2.1 x194.2.2.2.2.1 x194.2.2.2.2.2.1 x194.2.2.2.2.2.2.1 r306.2.2.1 r306.2.2.2 true (H.rcap 4 rfl) (H.rcap 5 rfl) (H.rcap 6 rfl) (H.rcap 7 rfl) (H.rcap 8 rfl) (H.rcap 9 rfl) Hc327 h325) ?_
            intro v334 w333 a hR335 E_
            obtain ⟨x_, hr_, rfl, HR337⟩ := hR335
            subst hr_
            replace E := E_ _ rfl; clear E_
            obtain ⟨H_, hc336⟩ := hb328 _ _ HR337 rfl
            replace H := H_; clear H_; try dsimp only [setn, addE, goneL] at H
            refine vr tbok 1 [] [(14, .bool false), (15, .pointer (some ⟨g173, 0, none⟩)), (17, .int .u8 r290.1), (18, .int .i64 r290.2), (19, .int .u8 r306.1), (20, .int .i64 r306.2.1), (21, .int .i64 r324)] [] E (by kernel_rfl) trivial ?_
            clear E; intro a E
            refine wpList_nil ?_
            refine th_n ?_
            refine wp_seq ?_
            refine wp_region_lit ?_
            refine vr tbok 1 [] [(14, .bool false), (15, .pointer (some ⟨g173, 0, none⟩)), (17, .int .u8 r290.1), (18, .int .i64 r290.2), (19, .int .u8 r306.1), (20, .int .i64 r306.2.1), (21, .int .i64 r324), (121, .pointer (some ⟨g173, 0, none⟩))] [] E (by kernel_rfl) trivial ?_
            clear E; intro a E
            obtain ⟨r340, h341, hP⟩ := bind_inv hP
            obtain ⟨Fa342, Hc343, hb344⟩ := H.call [20, 19] [(4, false), (5, false), (6, false), (7, false), (8, false), (9, false)] rfl rfl ⟨flat_plain, trivial⟩
            refine e_call E rfl rfl Try.func29 rfl rfl rfl (play_Referee_Move_calls g173 A174 c175 A176 c177 A178 c179 A180 c181 A182 c183 A184 c185 A320 c321 r135.1 x194.1 x194.2.1 x194.2.2.1 (2, 1) x194.2.2.2.1 x194.2.2.2.2.1 x194.2.2.2.2.2.1 x194.2.2.2.2.2.2.1 r306.2.2.1 r306.2.2.2 true 0 (H.rcap 4 rfl) (H.rcap 5 rfl) (H.rcap 6 rfl) (H.rcap 7 rfl) (H.rcap 8 rfl) (H.rcap 9 rfl) Hc343 h341) ?_
            intro v350 w349 a hR351 E_
            obtain ⟨x_, A354, c355, hr_, rfl, HR353⟩ := hR351
            subst hr_
            replace E := E_ _ rfl; clear E_
            obtain ⟨H_, hc352⟩ := hb344 _ _ HR353 rfl
            replace H := H_; clear H_; try dsimp only [setn, addE, goneL] at H
            refine vr tbok 5 [] [(14, .bool false), (15, .pointer (some ⟨g173, 0, none⟩)), (17, .int .u8 r290.1), (18, .int .i64 r290.2), (19, .int .u8 r306.1), (20, .int .i64 r306.2.1), (21, .int .i64 r324), (22, .int .u8 r340.1), (23, .int .i64 r340.2.1)] [] E (by kernel_rfl) trivial ?_
            clear E; intro a E
            refine wpList_nil ?_
            refine th_n ?_
            refine wp_seq ?_
            refine wp_region_lit ?_
            obtain ⟨r358, h359, hP⟩ := bind_inv hP
            obtain ⟨Fa360, Hc361, hb362⟩ := H.call [] [] rfl rfl trivial
            refine e_call E rfl rfl Try.func22 rfl rfl rfl (law25_awake_calls    Hc361 h359) ?_
            rintro v363 w364 a ⟨rfl, HR365⟩ E_
            replace E := E_ _ rfl; clear E_
            obtain ⟨H_, hc366⟩ := hb362 _ _ HR365 rfl
            replace H := H_; clear H_; try dsimp only [setn, addE, goneL] at H
            refine vr tbok 1 [] [(14, .bool false), (15, .pointer (some ⟨g173, 0, none⟩)), (17, .int .u8 r290.1), (18, .int .i64 r290.2), (19, .int .u8 r306.1), (20, .int .i64 r306.2.1), (21, .int .i64 r324), (22, .int .u8 r340.1), (23, .int .i64 r340.2.1), (126, .bool r358)] [] E (by kernel_rfl) trivial ?_
            clear E; intro a E
            refine E.cases (t := 126) rfl (fun hb_ E_ => ?_) (fun hb_ E_ => ?_)
            ·
             replace E := E_; clear E_
             have h367 : r358 = true := hb_
             clear hb_; replace hP := ite_t h367 hP
             refine vr tbok 40 [] [(0, .bool false)] [] E (by kernel_rfl) trivial ?_
             clear E; intro a E
             refine wpList_nil ?_
             refine th_n ?_
             refine wp_ret ?_
             obtain rfl := Option.some.inj hP
             refine ret1 E rfl rfl ?_
             exact ⟨_, rfl, rfl, H.sel [] rfl⟩
            ·
             replace E := E_; clear E_
             have h368 : ¬ (r358 = true) := (ne_true_of_eq_false hb_)
             clear hb_; replace hP := ite_f h368 hP
             refine vr tbok 40 [] [(0, .bool false)] [] E (by kernel_rfl) trivial ?_
             clear E; intro a E
             refine wpList_nil ?_
             refine th_n ?_
             refine wp_ret ?_
             obtain rfl := Option.some.inj hP
             refine ret1 E rfl rfl ?_
             exact ⟨_, rfl, rfl, H.sel [] rfl⟩
 ·
  subst hr_; have hP := (elim_r hP)
  obtain ⟨x60, hxx_⟩ : ∃ y_, y_ = x_ := ⟨_, rfl⟩; subst hxx_
  replace E := E_ _ rfl; clear E_
  obtain ⟨H_, hc31⟩ := hb23 _ _ HR58 rfl
  replace H := H_; clear H_; try dsimp only [setn, addE, goneL] at H
  refine vr tbok 4 [] [(28, .pointer (some ⟨g39, 0, none⟩)), (29, .agg #[.bool x60.2.2.2.2.2.2.2.1, .slice A52 (List.length x60.2.2.2.2.2.2.2.2.1) c53, .slice A54 (List.length x60.2.2.2.2.2.2.2.2.2.1) c55, .slice A56 (List.length x60.2.2.2.2.2.2.2.2.2.2.1) c57]), (30, .bool x60.2.2.2.2.2.2.2.2.2.2.2)] [] E (by kernel_rfl) trivial ?_
  clear E; intro a E
  refine h_alloc H E rfl rfl tbok rfl ?_
  intro w380 g379 a hc381 hg383 H_ E_
  replace E := E_ _ rfl; clear E_
  replace H := H_; clear H_; try dsimp only [setn, addE, goneL] at H
  refine vr tbok 1 [] [(1, .pointer (some ⟨g39, 0, none⟩)), (2, .pointer (some ⟨g379, 0, none⟩)), (29, .agg #[.bool x60.2.2.2.2.2.2.2.1, .slice A52 (List.length x60.2.2.2.2.2.2.2.2.1) c53, .slice A54 (List.length x60.2.2.2.2.2.2.2.2.2.1) c55, .slice A56 (List.length x60.2.2.2.2.2.2.2.2.2.2.1) c57]), (30, .bool x60.2.2.2.2.2.2.2.2.2.2.2)] [] E (by kernel_rfl) trivial ?_
  clear E; intro a E
  refine h_store (g := g379) (off := 0) H 13 rfl E rfl rfl rfl rfl tbok rfl rfl rfl rfl rfl ?_
  clear E; intro w384 a hc385 H_ E
  replace H := H_; clear H_; try dsimp only [setn, addE, goneL] at H
  refine vr tbok 1 [] [(1, .pointer (some ⟨g39, 0, none⟩)), (2, .pointer (some ⟨g379, 0, none⟩)), (3, .bool x60.2.2.2.2.2.2.2.2.2.2.2)] [] E (by kernel_rfl) trivial ?_
  clear E; intro a E
  refine wpList_nil ?_
  refine th_n ?_
  refine wp_seq ?_
  refine wp_seq ?_
  refine wp_region_lit ?_
  refine vr tbok 3 [] [(1, .pointer (some ⟨g39, 0, none⟩)), (2, .pointer (some ⟨g379, 0, none⟩)), (33, .bool (!x60.2.2.2.2.2.2.2.2.2.2.2))] [] E (by kernel_rfl) trivial ?_
  clear E; intro a E
  refine E.cases (t := 33) rfl (fun hb_ E_ => ?_) (fun hb_ E_ => ?_)
  ·
   replace E := E_; clear E_
   have h386 : ¬ (x60.2.2.2.2.2.2.2.2.2.2.2 = true) := (ne_true_of_eq_false (not_t hb_))
   clear hb_; replace hP := ite_f h386 hP
   refine vr tbok 4 [] [(1, .pointer (some ⟨g39, 0, none⟩)), (37, .bool true)] [] E (by kernel_rfl) trivial ?_
   clear E; intro a E
   refine wpList_nil ?_
   refine th_n ?_
   refine c_true E rfl ?_
   refine wp_seq ?_
   refine wp_region_lit ?_
   refine vr tbok 1 [] [(0, .bool false)] [] E (by kernel_rfl) trivial ?_
   clear E; intro a E
   refine wpList_nil ?_
   refine th_n ?_
   refine wp_ret ?_
   refine th_ret ?_
   obtain rfl := Option.some.inj hP
   refine ret1 E rfl rfl ?_
   exact ⟨_, rfl, rfl, H.sel [] rfl⟩
  ·
   replace E := E_; clear E_
   have h387 : x60.2.2.2.2.2.2.2.2.2.2.2 = true := (not_f hb_)
   clear hb_; replace hP := ite_t h387 hP
   refine vr tbok 4 [.bool x60.2.2.2.2.2.2.2.1] [(1, .pointer (some ⟨g39, 0, none⟩)), (37, .bool (!x60.2.2.2.2.2.2.2.1))] [World.cell? w384 ⟨g379, 0, none⟩ = some (.bool x60.2.2.2.2.2.2.2.1)] E (by kernel_rfl) ((H.box 13 rfl).cell (j := 0) rfl) ?_
   clear E; intro a E
   refine wpList_nil ?_
   refine th_n ?_
   refine E.cases (t := 37) rfl (fun hb_ E_ => ?_) (fun hb_ E_ => ?_)
   ·
    replace E := E_; clear E_
    have h388 : ¬ (x60.2.2.2.2.2.2.2.1 = true) := (ne_true_of_eq_false (not_t hb_))
    clear hb_; replace hP := ite_f h388 hP
    refine c_true E rfl ?_
    refine wp_seq ?_
    refine wp_region_lit ?_
    refine vr tbok 1 [] [(0, .bool false)] [] E (by kernel_rfl) trivial ?_
    clear E; intro a E
    refine wpList_nil ?_
    refine th_n ?_
    refine wp_ret ?_
    refine th_ret ?_
    obtain rfl := Option.some.inj hP
    refine ret1 E rfl rfl ?_
    exact ⟨_, rfl, rfl, H.sel [] rfl⟩
   ·
    replace E := E_; clear E_
    have h389 : x60.2.2.2.2.2.2.2.1 = true := (not_f hb_)
    clear hb_; replace hP := ite_t h389 hP
    refine c_false E rfl ?_
    refine wp_skip ?_
    refine th_n ?_
    refine wp_seq ?_
    refine wp_region_lit ?_
    refine vr tbok 1 [] [(1, .pointer (some ⟨g39, 0, none⟩)), (39, .pointer (some ⟨g39, 0, none⟩))] [] E (by kernel_rfl) trivial ?_
    clear E; intro a E
    replace H := H.nilrow cS98 99; try dsimp only [setn, addE, goneL] at H
    obtain ⟨r391, h392, hP⟩ := bind_inv hP
    obtain ⟨Fa393, Hc394, hb395⟩ := H.call [3, 14] [(4, false), (5, false), (6, false), (7, false), (8, false), (9, false)] rfl rfl ⟨flat_plain, trivial⟩
    refine e_call E rfl rfl Try.func33 rfl rfl rfl (play_Referee_Choice_calls g39 A40 c41 A42 c43 A44 c45 A46 c47 A48 c49 A50 c51 none 0 r1.1 x60.1 x60.2.1 x60.2.2.1 (1, 2) x60.2.2.2.1 x60.2.2.2.2.1 x60.2.2.2.2.2.1 x60.2.2.2.2.2.2.1 0 [] true (H.rcap 4 rfl) (H.rcap 5 rfl) (H.rcap 6 rfl) (H.rcap 7 rfl) (H.rcap 8 rfl) (H.rcap 9 rfl) Hc394 h392) ?_
    intro v401 w400 a hR402 E_
    obtain ⟨x_, hr_, rfl, HR404⟩ := hR402
    subst hr_
    replace E := E_ _ rfl; clear E_
    obtain ⟨H_, hc403⟩ := hb395 _ _ HR404 rfl
    replace H := H_; clear H_; try dsimp only [setn, addE, goneL] at H
    refine vr tbok 5 [] [(1, .pointer (some ⟨g39, 0, none⟩)), (5, .int .i64 r391.2)] [] E (by kernel_rfl) trivial ?_
    clear E; intro a E
    refine wpList_nil ?_
    refine th_n ?_
    refine wp_seq ?_
    refine wp_region_lit ?_
    refine vr tbok 1 [] [(1, .pointer (some ⟨g39, 0, none⟩)), (5, .int .i64 r391.2), (44, .pointer (some ⟨g39, 0, none⟩))] [] E (by kernel_rfl) trivial ?_
    clear E; intro a E
    obtain ⟨r407, h408, hP⟩ := bind_inv hP
    obtain ⟨Fa409, Hc410, hb411⟩ := H.call [16, 15] [(4, false), (5, false), (6, false), (7, false), (8, false), (9, false)] rfl rfl ⟨flat_plain, trivial⟩
    refine e_call E rfl rfl Try.func29 rfl rfl rfl (play_Referee_Move_calls g39 A40 c41 A42 c43 A44 c45 A46 c47 A48 c49 A50 c51 none 0 r1.1 x60.1 x60.2.1 x60.2.2.1 (1, 2) x60.2.2.2.1 x60.2.2.2.2.1 x60.2.2.2.2.2.1 x60.2.2.2.2.2.2.1 0 [] true 2 (H.rcap 4 rfl) (H.rcap 5 rfl) (H.rcap 6 rfl) (H.rcap 7 rfl) (H.rcap 8 rfl) (H.rcap 9 rfl) Hc410 h408) ?_
    intro v417 w416 a hR418 E_
    obtain ⟨x_, A421, c422, hr_, rfl, HR420⟩ := hR418
    subst hr_
    replace E := E_ _ rfl; clear E_
    obtain ⟨H_, hc419⟩ := hb411 _ _ HR420 rfl
    replace H := H_; clear H_; try dsimp only [setn, addE, goneL] at H
    refine vr tbok 5 [] [(1, .pointer (some ⟨g39, 0, none⟩)), (5, .int .i64 r391.2), (7, .int .i64 r407.2.1)] [] E (by kernel_rfl) trivial ?_
    clear E; intro a E
    refine wpList_nil ?_
    refine th_n ?_
    refine wp_seq ?_
    refine wp_region_lit ?_
    refine vr tbok 1 [] [(1, .pointer (some ⟨g39, 0, none⟩)), (5, .int .i64 r391.2), (7, .int .i64 r407.2.1), (49, .pointer (some ⟨g39, 0, none⟩))] [] E (by kernel_rfl) trivial ?_
    clear E; intro a E
    obtain ⟨r425, h426, hP⟩ := bind_inv hP
    obtain ⟨Fa427, Hc428, hb429⟩ := H.call [17, 18] [(4, false), (5, false), (6, false), (7, false), (8, false), (9, false)] rfl rfl ⟨flat_plain, trivial⟩
    refine e_call E rfl rfl Try.func29 rfl rfl rfl (play_Referee_Move_calls g39 A40 c41 A42 c43 A44 c45 A46 c47 A48 c49 A50 c51 A421 c422 r1.1 x60.1 x60.2.1 x60.2.2.1 (1, 2) x60.2.2.2.1 x60.2.2.2.2.1 x60.2.2.2.2.2.1 x60.2.2.2.2.2.2.1 r407.2.2.1 r407.2.2.2 true 256 (H.rcap 4 rfl) (H.rcap 5 rfl) (H.rcap 6 rfl) (H.rcap 7 rfl) (H.rcap 8 rfl) (H.rcap 9 rfl) Hc428 h426) ?_
    intro v435 w434 a hR436 E_
    obtain ⟨x_, A439, c440, hr_, rfl, HR438⟩ := hR436
    subst hr_
    replace E := E_ _ rfl; clear E_
    obtain ⟨H_, hc437⟩ := hb429 _ _ HR438 rfl
    replace H := H_; clear H_; try dsimp only [setn, addE, goneL] at H
    refine vr tbok 5 [] [(1, .pointer (some ⟨g39, 0, none⟩)), (5, .int .i64 r391.2), (7, .int .i64 r407.2.1), (9, .int .i64 r425.2.1)] [] E (by kernel_rfl) trivial ?_
    clear E; intro a E
    refine wpList_nil ?_
    refine th_n ?_
    refine wp_seq ?_
    refine wp_region_lit ?_
    refine vr tbok 1 [] [(1, .pointer (some ⟨g39, 0, none⟩)), (5, .int .i64 r391.2), (7, .int .i64 r407.2.1), (9, .int .i64 r425.2.1), (54, .pointer (some ⟨g39, 0, none⟩))] [] E (by kernel_rfl) trivial ?_
    clear E; intro a E
    obtain ⟨r443, h444, hP⟩ := bind_inv hP
    obtain ⟨Fa445, Hc446, hb447⟩ := H.call [19, 20] [(4, false), (5, false), (6, false), (7, false), (8, false), (9, false)] rfl rfl ⟨flat_plain, trivial⟩
    refine e_call E rfl rfl Try.func29 rfl rfl rfl (play_Referee_Move_calls g39 A40 c41 A42 c43 A44 c45 A46 c47 A48 c49 A50 c51 A439 c440 r1.1 x60.1 x60.2.1 x60.2.2.1 (1, 2) x60.2.2.2.1 x60.2.2.2.2.1 x60.2.2.2.2.2.1 x60.2.2.2.2.2.2.1 r425.2.2.1 r425.2.2.2 true 1 (H.rcap 4 rfl) (H.rcap 5 rfl) (H.rcap 6 rfl) (H.rcap 7 rfl) (H.rcap 8 rfl) (H.rcap 9 rfl) Hc446 h444) ?_
    intro v453 w452 a hR454 E_
    obtain ⟨x_, A457, c458, hr_, rfl, HR456⟩ := hR454
    subst hr_
    replace E := E_ _ rfl; clear E_
    obtain ⟨H_, hc455⟩ := hb447 _ _ HR456 rfl
    replace H := H_; clear H_; try dsimp only [setn, addE, goneL] at H
    refine vr tbok 5 [] [(1, .pointer (some ⟨g39, 0, none⟩)), (5, .int .i64 r391.2), (7, .int .i64 r407.2.1), (9, .int .i64 r425.2.1), (10, .int .u8 r443.1), (11, .int .i64 r443.2.1)] [] E (by kernel_rfl) trivial ?_
    clear E; intro a E
    refine wpList_nil ?_
    refine th_n ?_
    refine wp_seq ?_
    refine wp_region_lit ?_
    refine vr tbok 1 [] [(1, .pointer (some ⟨g39, 0, none⟩)), (5, .int .i64 r391.2), (7, .int .i64 r407.2.1), (9, .int .i64 r425.2.1), (10, .int .u8 r443.1), (11, .int .i64 r443.2.1), (59, .pointer (some ⟨g39, 0, none⟩))] [] E (by kernel_rfl) trivial ?_
    clear E; intro a E
    obtain ⟨r461, h462, hP⟩ := bind_inv hP
    obtain ⟨Fa463, Hc464, hb465⟩ := H.call [21, 22] [(4, false), (5, false), (6, false), (7, false), (8, false), (9, false)] rfl rfl ⟨flat_plain, trivial⟩
    refine e_call E rfl rfl Try.func29 rfl rfl rfl (play_Referee_Move_calls g39 A40 c41 A42 c43 A44 c45 A46 c47 A48 c49 A50 c51 A457 c458 r1.1 x60.1 x60.2.1 x60.2.2.1 (1, 2) x60.2.2.2.1 x60.2.2.2.2.1 x60.2.2.2.2.2.1 x60.2.2.2.2.2.2.1 r443.2.2.1 r443.2.2.2 true 0 (H.rcap 4 rfl) (H.rcap 5 rfl) (H.rcap 6 rfl) (H.rcap 7 rfl) (H.rcap 8 rfl) (H.rcap 9 rfl) Hc464 h462) ?_
    intro v471 w470 a hR472 E_
    obtain ⟨x_, A475, c476, hr_, rfl, HR474⟩ := hR472
    subst hr_
    replace E := E_ _ rfl; clear E_
    obtain ⟨H_, hc473⟩ := hb465 _ _ HR474 rfl
    replace H := H_; clear H_; try dsimp only [setn, addE, goneL] at H
    refine vr tbok 5 [] [(1, .pointer (some ⟨g39, 0, none⟩)), (5, .int .i64 r391.2), (7, .int .i64 r407.2.1), (9, .int .i64 r425.2.1), (10, .int .u8 r443.1), (11, .int .i64 r443.2.1), (13, .int .i64 r461.2.1)] [] E (by kernel_rfl) trivial ?_
    clear E; intro a E
    refine wpList_nil ?_
    refine th_n ?_
    refine wp_seq ?_
    obtain ⟨x530, h531, hK532⟩ := bind_inv hP
    clear hP
    refine meet_cut (fun a w534 => ∃ (x533 : Bool), Fr a 166 [(14, .bool x533)] ∧ Hp S Fa w0 w534 [] ∧ x530 = x533) ?_ ?_
    ·
     have hP := h531; clear h531; rw [law25_PlayKnown_j18] at hP
     refine wp_region_lit ?_
     refine vr tbok 3 [] [(1, .pointer (some ⟨g39, 0, none⟩)), (7, .int .i64 r407.2.1), (9, .int .i64 r425.2.1), (10, .int .u8 r443.1), (11, .int .i64 r443.2.1), (13, .int .i64 r461.2.1), (65, .bool ((r391.2 : Int) == 350))] [] E (by kernel_rfl) trivial ?_
     clear E; intro a E
     refine E.cases (t := 65) rfl (fun hb_ E_ => ?_) (fun hb_ E_ => ?_)
     ·
      replace E := E_; clear E_
      have h535 : (r391.2 : Int) = 350 := eq_of_beq hb_
      clear hb_; replace hP := ite_t h535 hP
      refine vr tbok 4 [] [(1, .pointer (some ⟨g39, 0, none⟩)), (9, .int .i64 r425.2.1), (10, .int .u8 r443.1), (11, .int .i64 r443.2.1), (13, .int .i64 r461.2.1), (69, .bool ((r407.2.1 : Int) == 14))] [] E (by kernel_rfl) trivial ?_
      clear E; intro a E
      refine E.cases (t := 69) rfl (fun hb_ E_ => ?_) (fun hb_ E_ => ?_)
      ·
       replace E := E_; clear E_
       have h536 : (r407.2.1 : Int) = 14 := eq_of_beq hb_
       clear hb_; replace hP := ite_t h536 hP
       refine vr tbok 4 [] [(1, .pointer (some ⟨g39, 0, none⟩)), (10, .int .u8 r443.1), (11, .int .i64 r443.2.1), (13, .int .i64 r461.2.1), (73, .bool ((r425.2.1 : Int) == 14))] [] E (by kernel_rfl) trivial ?_
       clear E; intro a E
       refine E.cases (t := 73) rfl (fun hb_ E_ => ?_) (fun hb_ E_ => ?_)
       ·
        replace E := E_; clear E_
        have h537 : (r425.2.1 : Int) = 14 := eq_of_beq hb_
        clear hb_; replace hP := ite_t h537 hP
        refine vr tbok 4 [] [(1, .pointer (some ⟨g39, 0, none⟩)), (11, .int .i64 r443.2.1), (13, .int .i64 r461.2.1), (77, .bool ((r443.1 : Int) == 3))] [] E (by kernel_rfl) trivial ?_
        clear E; intro a E
        refine E.cases (t := 77) rfl (fun hb_ E_ => ?_) (fun hb_ E_ => ?_)
        ·
         replace E := E_; clear E_
         have h538 : (r443.1 : Int) = 3 := eq_of_beq hb_
         clear hb_; replace hP := ite_t h538 hP
         refine vr tbok 4 [] [(1, .pointer (some ⟨g39, 0, none⟩)), (13, .int .i64 r461.2.1), (81, .bool ((r443.2.1 : Int) == 0))] [] E (by kernel_rfl) trivial ?_
         clear E; intro a E
         refine E.cases (t := 81) rfl (fun hb_ E_ => ?_) (fun hb_ E_ => ?_)
         ·
          replace E := E_; clear E_
          have h539 : (r443.2.1 : Int) = 0 := eq_of_beq hb_
          clear hb_; replace hP := ite_t h539 hP
          refine vr tbok 4 [] [(1, .pointer (some ⟨g39, 0, none⟩)), (85, .bool ((r461.2.1 : Int) == 351))] [] E (by kernel_rfl) trivial ?_
          clear E; intro a E
          refine E.cases (t := 85) rfl (fun hb_ E_ => ?_) (fun hb_ E_ => ?_)
          ·
           replace E := E_; clear E_
           have h540 : (r461.2.1 : Int) = 351 := eq_of_beq hb_
           clear hb_; replace hP := ite_t h540 hP
           refine vr tbok 1 [] [(1, .pointer (some ⟨g39, 0, none⟩)), (85, .bool true), (86, .pointer (some ⟨g39, 0, none⟩))] [] E (by kernel_rfl) trivial ?_
           clear E; intro a E
           obtain ⟨r541, h542, hP⟩ := bind_inv hP
           obtain ⟨Fa543, Hc544, hb545⟩ := H.call [23, 24] [(4, false), (5, false), (6, false), (7, false), (8, false), (9, false)] rfl rfl ⟨flat_plain, trivial⟩
           refine e_call E rfl rfl Try.func31 rfl rfl rfl (play_Referee_Back_calls g39 A40 c41 A42 c43 A44 c45 A46 c47 A48 c49 A50 c51 A475 c476 r1.1 x60.1 x60.2.1 x60.2.2.1 (1, 2) x60.2.2.2.1 x60.2.2.2.2.1 x60.2.2.2.2.2.1 x60.2.2.2.2.2.2.1 r461.2.2.1 r461.2.2.2 true (H.rcap 4 rfl) (H.rcap 5 rfl) (H.rcap 6 rfl) (H.rcap 7 rfl) (H.rcap 8 rfl) (H.rcap 9 rfl) Hc544 h542) ?_
           intro v551 w550 a hR552 E_
           obtain ⟨x_, A555, c556, hr_, rfl, HR554⟩ := hR552
           subst hr_
           replace E := E_ _ rfl; clear E_
           obtain ⟨H_, hc553⟩ := hb545 _ _ HR554 rfl
           replace H := H_; clear H_; try dsimp only [setn, addE, goneL] at H
           refine vr tbok 3 [] [(1, .pointer (some ⟨g39, 0, none⟩)), (90, .bool ((r541.1 : Int) == 0))] [] E (by kernel_rfl) trivial ?_
           clear E; intro a E
           refine E.cases (t := 90) rfl (fun hb_ E_ => ?_) (fun hb_ E_ => ?_)
           ·
            replace E := E_; clear E_
            have h559 : (r541.1 : Int) = 0 := eq_of_beq hb_
            clear hb_; replace hP := ite_t h559 hP
            refine vr tbok 1 [] [(90, .bool true), (91, .pointer (some ⟨g39, 0, none⟩))] [] E (by kernel_rfl) trivial ?_
            clear E; intro a E
            obtain ⟨r560, h561, hP⟩ := bind_inv hP
            obtain ⟨Fa562, Hc563, hb564⟩ := H.call [25, 26] [(4, false), (5, false), (6, false), (7, false), (8, false), (9, false)] rfl rfl ⟨flat_plain, trivial⟩
            refine e_call E rfl rfl Try.func31 rfl rfl rfl (play_Referee_Back_calls g39 A40 c41 A42 c43 A44 c45 A46 c47 A48 c49 A50 c51 A555 c556 r1.1 x60.1 x60.2.1 x60.2.2.1 (1, 2) x60.2.2.2.1 x60.2.2.2.2.1 x60.2.2.2.2.2.1 x60.2.2.2.2.2.2.1 r541.2.1 r541.2.2 true (H.rcap 4 rfl) (H.rcap 5 rfl) (H.rcap 6 rfl) (H.rcap 7 rfl) (H.rcap 8 rfl) (H.rcap 9 rfl) Hc563 h561) ?_
            intro v570 w569 a hR571 E_
            obtain ⟨x_, A574, c575, hr_, rfl, HR573⟩ := hR571
            subst hr_
            replace E := E_ _ rfl; clear E_
            obtain ⟨H_, hc572⟩ := hb564 _ _ HR573 rfl
            replace H := H_; clear H_; try dsimp only [setn, addE, goneL] at H
            refine vr tbok 3 [] [(14, .bool ((r560.1 : Int) == 6))] [] E (by kernel_rfl) trivial ?_
            clear E; intro a E
            refine wpList_nil ?_
            have hx_ := Option.some.inj hP
            exact .inl ⟨rfl, (r560.1 : Int) == 6, E.pick _ ⟨rfl, trivial⟩, H.sel [] rfl, hx_.symm⟩
           ·
            replace E := E_; clear E_
            have h578 : ¬ ((r541.1 : Int) = 0) := ne_of_beq_false hb_
            clear hb_; replace hP := ite_f h578 hP
            refine vr tbok 5 [] [(14, .bool false)] [] E (by kernel_rfl) trivial ?_
            clear E; intro a E
            refine wpList_nil ?_
            have hx_ := Option.some.inj hP
            exact .inl ⟨rfl, false, E.pick _ ⟨rfl, trivial⟩, H.sel [] rfl, hx_.symm⟩
          ·
           replace E := E_; clear E_
           have h579 : ¬ ((r461.2.1 : Int) = 351) := ne_of_beq_false hb_
           clear hb_; replace hP := ite_f h579 hP
           refine vr tbok 10 [] [(14, .bool false)] [] E (by kernel_rfl) trivial ?_
           clear E; intro a E
           refine wpList_nil ?_
           have hx_ := Option.some.inj hP
           exact .inl ⟨rfl, false, E.pick _ ⟨rfl, trivial⟩, H.sel [] rfl, hx_.symm⟩
         ·
          replace E := E_; clear E_
          have h580 : ¬ ((r443.2.1 : Int) = 0) := ne_of_beq_false hb_
          clear hb_; replace hP := ite_f h580 hP
          refine vr tbok 14 [] [(14, .bool false)] [] E (by kernel_rfl) trivial ?_
          clear E; intro a E
          refine wpList_nil ?_
          have hx_ := Option.some.inj hP
          exact .inl ⟨rfl, false, E.pick _ ⟨rfl, trivial⟩, H.sel [] rfl, hx_.symm⟩
        ·
         replace E := E_; clear E_
         have h581 : ¬ ((r443.1 : Int) = 3) := ne_of_beq_false hb_
         clear hb_; replace hP := ite_f h581 hP
         refine vr tbok 18 [] [(14, .bool false)] [] E (by kernel_rfl) trivial ?_
         clear E; intro a E
         refine wpList_nil ?_
         have hx_ := Option.some.inj hP
         exact .inl ⟨rfl, false, E.pick _ ⟨rfl, trivial⟩, H.sel [] rfl, hx_.symm⟩
       ·
        replace E := E_; clear E_
        have h582 : ¬ ((r425.2.1 : Int) = 14) := ne_of_beq_false hb_
        clear hb_; replace hP := ite_f h582 hP
        refine vr tbok 22 [] [(14, .bool false)] [] E (by kernel_rfl) trivial ?_
        clear E; intro a E
        refine wpList_nil ?_
        have hx_ := Option.some.inj hP
        exact .inl ⟨rfl, false, E.pick _ ⟨rfl, trivial⟩, H.sel [] rfl, hx_.symm⟩
      ·
       replace E := E_; clear E_
       have h583 : ¬ ((r407.2.1 : Int) = 14) := ne_of_beq_false hb_
       clear hb_; replace hP := ite_f h583 hP
       refine vr tbok 26 [] [(14, .bool false)] [] E (by kernel_rfl) trivial ?_
       clear E; intro a E
       refine wpList_nil ?_
       have hx_ := Option.some.inj hP
       exact .inl ⟨rfl, false, E.pick _ ⟨rfl, trivial⟩, H.sel [] rfl, hx_.symm⟩
     ·
      replace E := E_; clear E_
      have h584 : ¬ ((r391.2 : Int) = 350) := ne_of_beq_false hb_
      clear hb_; replace hP := ite_f h584 hP
      refine vr tbok 30 [] [(14, .bool false)] [] E (by kernel_rfl) trivial ?_
      clear E; intro a E
      refine wpList_nil ?_
      have hx_ := Option.some.inj hP
      exact .inl ⟨rfl, false, E.pick _ ⟨rfl, trivial⟩, H.sel [] rfl, hx_.symm⟩
    ·
     clear E H h531; rintro a w534 ⟨x533, E, H, hx_⟩
     subst hx_; have hP := hK532; clear hK532
     refine th_n ?_
     refine wp_seq ?_
     refine wp_region_lit ?_
     obtain ⟨r585, h586, hP⟩ := bind_inv hP
     obtain ⟨Fa587, Hc588, hb589⟩ := H.call [] [] rfl rfl trivial
     refine e_call E rfl rfl Try.func34 rfl rfl rfl (law23_Until_calls    Hc588 h586) ?_
     rintro v590 w591 a ⟨A594, c595, A597, c598, A600, c601, rfl, HR592⟩ E_
     replace E := E_ _ rfl; clear E_
     obtain ⟨H_, hc593⟩ := hb589 _ _ HR592 rfl
     replace H := H_; clear H_; try dsimp only [setn, addE, goneL] at H
     refine e_build (ps := [(0, .int .u8 2), (1, .int .u8 1)]) (v := .agg #[.int .u8 2, .int .u8 1]) E rfl rfl tbok rfl (by kernel_rfl) rfl ?_
     clear E; intro a E
     obtain ⟨r603, h604, hP⟩ := bind_inv hP
     obtain ⟨Fa605, Hc606, hb607⟩ := H.call [] [(0, false), (1, false), (2, false)] rfl rfl trivial
     refine e_call E rfl rfl Try.func24 rfl rfl rfl (law25_begun_calls A594 c595 A597 c598 A600 c601 r585.1 r585.2.1 r585.2.2.1 r585.2.2.2 (2, 1) (H.rcap 0 rfl) (H.rcap 1 rfl) (H.rcap 2 rfl) Hc606 h604) ?_
     intro v613 w612 a hR614 E_
     rcases hR614 with ⟨x_, A616, c617, A618, c619, A620, c621, hr_, rfl, HR622⟩ | ⟨x_, g623, A624, c625, A626, c627, A628, c629, A630, c631, A632, c633, A634, c635, A636, c637, A638, c639, A640, c641, hr_, rfl, HR642⟩
     ·
      subst hr_; have hP := elim_l hP
      obtain ⟨x643, hxx_⟩ : ∃ y_, y_ = x_ := ⟨_, rfl⟩; subst hxx_
      replace E := E_ _ rfl; clear E_
      obtain ⟨H_, hc615⟩ := hb607 _ _ HR622 rfl
      replace H := H_; clear H_; try dsimp only [setn, addE, goneL] at H
      refine vr tbok 4 [] [(14, .bool x530), (99, .pointer none), (100, .agg #[.bool x643.1, .slice A616 (List.length x643.2.1) c617, .slice A618 (List.length x643.2.2.1) c619, .slice A620 (List.length x643.2.2.2.1) c621]), (101, .bool x643.2.2.2.2)] [] E (by kernel_rfl) trivial ?_
      clear E; intro a E
      refine h_alloc H E rfl rfl tbok rfl ?_
      intro w649 g648 a hc650 hg652 H_ E_
      replace E := E_ _ rfl; clear E_
      replace H := H_; clear H_; try dsimp only [setn, addE, goneL] at H
      refine vr tbok 1 [] [(14, .bool x530), (15, .pointer none), (16, .pointer (some ⟨g648, 0, none⟩)), (100, .agg #[.bool x643.1, .slice A616 (List.length x643.2.1) c617, .slice A618 (List.length x643.2.2.1) c619, .slice A620 (List.length x643.2.2.2.1) c621]), (101, .bool x643.2.2.2.2)] [] E (by kernel_rfl) trivial ?_
      clear E; intro a E
      refine h_store (g := g648) (off := 0) H 6 rfl E rfl rfl rfl rfl tbok rfl rfl rfl rfl rfl ?_
      clear E; intro w653 a hc654 H_ E
      replace H := H_; clear H_; try dsimp only [setn, addE, goneL] at H
      refine vr tbok 1 [] [(3, .bool x643.2.2.2.2), (14, .bool x530), (15, .pointer none), (16, .pointer (some ⟨g648, 0, none⟩))] [] E (by kernel_rfl) trivial ?_
      clear E; intro a E
      refine wpList_nil ?_
      refine th_n ?_
      refine wp_seq ?_
      refine wp_seq ?_
      refine wp_region_lit ?_
      refine vr tbok 3 [] [(14, .bool x530), (15, .pointer none), (16, .pointer (some ⟨g648, 0, none⟩)), (104, .bool (!x643.2.2.2.2))] [] E (by kernel_rfl) trivial ?_
      clear E; intro a E
      refine E.cases (t := 104) rfl (fun hb_ E_ => ?_) (fun hb_ E_ => ?_)
      ·
       replace E := E_; clear E_
       have h655 : ¬ (x643.2.2.2.2 = true) := (ne_true_of_eq_false (not_t hb_))
       clear hb_; replace hP := ite_f h655 hP
       refine vr tbok 3 [] [(14, .bool x530), (15, .pointer none), (107, .bool true)] [] E (by kernel_rfl) trivial ?_
       clear E; intro a E
       refine wpList_nil ?_
       refine th_n ?_
       refine c_true E rfl ?_
       refine wp_seq ?_
       refine wp_region_lit ?_
       refine vr tbok 1 [] [(0, .bool false)] [] E (by kernel_rfl) trivial ?_
       clear E; intro a E
       refine wpList_nil ?_
       refine th_n ?_
       refine wp_ret ?_
       refine th_ret ?_
       obtain rfl := Option.some.inj hP
       refine ret1 E rfl rfl ?_
       exact ⟨_, rfl, rfl, H.sel [] rfl⟩
      ·
       replace E := E_; clear E_
       have h656 : x643.2.2.2.2 = true := (not_f hb_)
       clear hb_; replace hP := ite_t h656 hP
       refine vr tbok 3 [.bool x643.1] [(14, .bool x530), (15, .pointer none), (107, .bool x643.1)] [World.cell? w653 ⟨g648, 0, none⟩ = some (.bool x643.1)] E (by kernel_rfl) ((H.box 6 rfl).cell (j := 0) rfl) ?_
       clear E; intro a E
       refine wpList_nil ?_
       refine th_n ?_
       refine E.cases (t := 107) rfl (fun hb_ E_ => ?_) (fun hb_ E_ => ?_)
       ·
        replace E := E_; clear E_
        have h657 : x643.1 = true := hb_
        clear hb_; replace hP := ite_t h657 hP
        refine c_true E rfl ?_
        refine wp_seq ?_
        refine wp_region_lit ?_
        refine vr tbok 1 [] [(0, .bool false)] [] E (by kernel_rfl) trivial ?_
        clear E; intro a E
        refine wpList_nil ?_
        refine th_n ?_
        refine wp_ret ?_
        refine th_ret ?_
        obtain rfl := Option.some.inj hP
        refine ret1 E rfl rfl ?_
        exact ⟨_, rfl, rfl, H.sel [] rfl⟩
       ·
        replace E := E_; clear E_
        have h658 : ¬ (x643.1 = true) := (ne_true_of_eq_false hb_)
        clear hb_; replace hP := ite_f h658 hP
        refine c_false E rfl ?_
        refine wp_skip ?_
        refine th_n ?_
        refine wp_seq ?_
        refine wp_region_lit ?_
        refine vr tbok 1 [] [(14, .bool x530), (15, .pointer none), (109, .pointer none)] [] E (by kernel_rfl) trivial ?_
        clear E; intro a E
        obtain ⟨x661, h662, hP⟩ := bind_inv hP
        refine e_call (R := fun v_ w_ => ∃ (x663 : Unit), v_ = .tuple #[.int .u8 0, .int .i64 1] ∧ Hp S Fa w0 w_ [] ∧ x661 = x663) E rfl rfl Try.func33 rfl rfl rfl ?_ ?_
        ·
         clear E hP; have hP := h662; clear h662; rw [law25_PlayKnown_f19] at hP
         refine enterV (n := 24) Try.func33 rfl rfl rfl ?_
         intro a E
         replace E := E.pick [(0, .pointer none)] ⟨rfl, trivial⟩
         refine wp_seq ?_
         refine wp_region_lit ?_
         refine vr tbok 2 [] [(0, .pointer none)] [] E (by kernel_rfl) trivial ?_
         clear E; intro a E
         refine wpList_nil ?_
         refine th_n ?_
         refine wp_seq ?_
         refine wp_block ?_
         refine wp_seq ?_
         refine wp_region_lit ?_
         refine vr tbok 1 [] [(0, .pointer none), (5, .pointer none)] [] E (by kernel_rfl) trivial ?_
         clear E; intro a E
         obtain ⟨x664, h665, hP⟩ := bind_inv hP
         refine e_call (R := fun v_ w_ => ∃ (x666 : Unit), v_ = .bool true ∧ Hp S Fa w0 w_ [] ∧ x664 = x666) E rfl rfl Try.func60 rfl rfl rfl ?_ ?_
         ·
          clear E hP; have hP := h665; clear h665; rw [law25_PlayKnown_f20] at hP
          refine enterV (n := 12) Try.func60 rfl rfl rfl ?_
          intro a E
          replace E := E.pick [(0, .pointer none)] ⟨rfl, trivial⟩
          refine wp_seq ?_
          refine wp_region_lit ?_
          refine vr tbok 1 [] [(0, .pointer none)] [] E (by kernel_rfl) trivial ?_
          clear E; intro a E
          refine wpList_nil ?_
          refine th_n ?_
          refine wp_seq ?_
          refine wp_region_lit ?_
          refine vr tbok 10 [] [(2, .bool true)] [] E (by kernel_rfl) trivial ?_
          clear E; intro a E
          refine wpList_nil ?_
          refine th_n ?_
          refine wp_ret ?_
          have hx_ := Option.some.inj hP
          refine ret1 E rfl rfl ?_
          exact ⟨_, rfl, (), rfl, H.sel [] rfl, hx_.symm⟩
         ·
          clear H
          rintro v668 w667 a ⟨x666, rfl, H, hx_⟩ E_
          subst hx_
          replace E := E_ _ rfl; clear E_
          refine vr tbok 1 [] [(0, .pointer none), (4, .bool true)] [] E (by kernel_rfl) trivial ?_
          clear E; intro a E
          refine wpList_nil ?_
          refine th_n ?_
          refine c_true E rfl ?_
          refine wp_seq ?_
          refine wp_region_lit ?_
          refine vr tbok 2 [] [(2, .int .u8 0), (3, .int .i64 1)] [] E (by kernel_rfl) trivial ?_
          clear E; intro a E
          refine wpList_nil ?_
          refine th_n ?_
          refine wp_ret ?_
          refine bl_ret ?_
          refine th_ret ?_
          have hx_ := Option.some.inj hP
          refine ret2 E rfl rfl rfl ?_
          exact ⟨_, rfl, (), rfl, H.sel [] rfl, hx_.symm⟩
        ·
         clear H
         rintro v670 w669 a ⟨x663, rfl, H, hx_⟩ E_
         subst hx_
         replace E := E_ _ rfl; clear E_
         refine vr tbok 5 [] [(14, .bool x530), (15, .pointer none), (17, .int .u8 0), (18, .int .i64 1)] [] E (by kernel_rfl) trivial ?_
         clear E; intro a E
         refine wpList_nil ?_
         refine th_n ?_
         refine wp_seq ?_
         refine wp_region_lit ?_
         refine vr tbok 1 [] [(14, .bool x530), (15, .pointer none), (17, .int .u8 0), (18, .int .i64 1), (114, .pointer none)] [] E (by kernel_rfl) trivial ?_
         clear E; intro a E
         obtain ⟨x673, h674, hP⟩ := bind_inv hP
         refine e_call (R := fun v_ w_ => ∃ (x675 : Unit), v_ = .tuple #[.int .u8 0, .int .i64 1] ∧ Hp S Fa w0 w_ [] ∧ x673 = x675) E rfl rfl Try.func29 rfl rfl rfl ?_ ?_
         ·
          clear E hP; have hP := h674; clear h674; rw [law25_PlayKnown_f21] at hP
          refine enterV (n := 85) Try.func29 rfl rfl rfl ?_
          intro a E
          replace E := E.pick [(0, .pointer none), (1, .int .u64 1)] ⟨rfl, rfl, trivial⟩
          refine wp_seq ?_
          refine wp_region_lit ?_
          refine vr tbok 2 [] [(0, .pointer none), (1, .int .u64 1)] [] E (by kernel_rfl) trivial ?_
          clear E; intro a E
          refine wpList_nil ?_
          refine th_n ?_
          refine wp_seq ?_
          refine wp_seq ?_
          refine wp_region_lit ?_
          refine vr tbok 1 [] [(0, .pointer none), (1, .int .u64 1), (8, .pointer none)] [] E (by kernel_rfl) trivial ?_
          clear E; intro a E
          obtain ⟨x676, h677, hP⟩ := bind_inv hP
          refine e_call (R := fun v_ w_ => ∃ (x678 : Unit), v_ = .bool true ∧ Hp S Fa w0 w_ [] ∧ x676 = x678) E rfl rfl Try.func60 rfl rfl rfl ?_ ?_
          ·
           clear E hP; have hP := h677; clear h677; rw [law25_PlayKnown_f22] at hP
           refine enterV (n := 12) Try.func60 rfl rfl rfl ?_
           intro a E
           replace E := E.pick [(0, .pointer none)] ⟨rfl, trivial⟩
           refine wp_seq ?_
           refine wp_region_lit ?_
           refine vr tbok 1 [] [(0, .pointer none)] [] E (by kernel_rfl) trivial ?_
           clear E; intro a E
           refine wpList_nil ?_
           refine th_n ?_
           refine wp_seq ?_
           refine wp_region_lit ?_
           refine vr tbok 10 [] [(2, .bool true)] [] E (by kernel_rfl) trivial ?_
           clear E; intro a E
           refine wpList_nil ?_
           refine th_n ?_
           refine wp_ret ?_
           have hx_ := Option.some.inj hP
           refine ret1 E rfl rfl ?_
           exact ⟨_, rfl, (), rfl, H.sel [] rfl, hx_.symm⟩
          ·
           clear H
           rintro v680 w679 a ⟨x678, rfl, H, hx_⟩ E_
           subst hx_
           replace E := E_ _ rfl; clear E_
           refine wpList_nil ?_
           refine th_n ?_
           refine c_true E rfl ?_
           refine wp_seq ?_
           refine wp_region_lit ?_
           refine vr tbok 2 [] [(4, .int .u8 0), (5, .int .i64 1)] [] E (by kernel_rfl) trivial ?_
           clear E; intro a E
           refine wpList_nil ?_
           refine th_n ?_
           refine wp_ret ?_
           refine th_ret ?_
           have hx_ := Option.some.inj hP
           refine ret2 E rfl rfl rfl ?_
           exact ⟨_, rfl, (), rfl, H.sel [] rfl, hx_.symm⟩
         ·
          clear H
          rintro v682 w681 a ⟨x675, rfl, H, hx_⟩ E_
          subst hx_
          replace E := E_ _ rfl; clear E_
          refine vr tbok 5 [] [(14, .bool x530), (15, .pointer none), (17, .int .u8 0), (18, .int .i64 1), (19, .int .u8 0), (20, .int .i64 1)] [] E (by kernel_rfl) trivial ?_
          clear E; intro a E
          refine wpList_nil ?_
          refine th_n ?_
          refine wp_seq ?_
          refine wp_region_lit ?_
          refine vr tbok 1 [] [(14, .bool x530), (15, .pointer none), (17, .int .u8 0), (18, .int .i64 1), (19, .int .u8 0), (20, .int .i64 1), (118, .pointer none)] [] E (by kernel_rfl) trivial ?_
          clear E; intro a E
          obtain ⟨x685, h686, hP⟩ := bind_inv hP
          refine e_call (R := fun v_ w_ => ∃ (x687 : Unit), v_ = .int .i64 0 ∧ Hp S Fa w0 w_ [] ∧ x685 = x687) E rfl rfl Try.func26 rfl rfl rfl ?_ ?_
          ·
           clear E hP; have hP := h686; clear h686; rw [law25_PlayKnown_f23] at hP
           refine enterV (n := 16) Try.func26 rfl rfl rfl ?_
           intro a E
           replace E := E.pick [(0, .pointer none)] ⟨rfl, trivial⟩
           refine wp_seq ?_
           refine wp_region_lit ?_
           refine vr tbok 1 [] [(0, .pointer none)] [] E (by kernel_rfl) trivial ?_
           clear E; intro a E
           refine wpList_nil ?_
           refine th_n ?_
           refine wp_seq ?_
           refine wp_seq ?_
           refine wp_region_lit ?_
           refine vr tbok 1 [] [(0, .pointer none), (3, .pointer none)] [] E (by kernel_rfl) trivial ?_
           clear E; intro a E
           obtain ⟨x688, h689, hP⟩ := bind_inv hP
           refine e_call (R := fun v_ w_ => ∃ (x690 : Unit), v_ = .bool true ∧ Hp S Fa w0 w_ [] ∧ x688 = x690) E rfl rfl Try.func60 rfl rfl rfl ?_ ?_
           ·
            clear E hP; have hP := h689; clear h689; rw [law25_PlayKnown_f24] at hP
            refine enterV (n := 12) Try.func60 rfl rfl rfl ?_
            intro a E
            replace E := E.pick [(0, .pointer none)] ⟨rfl, trivial⟩
            refine wp_seq ?_
            refine wp_region_lit ?_
            refine vr tbok 1 [] [(0, .pointer none)] [] E (by kernel_rfl) trivial ?_
            clear E; intro a E
            refine wpList_nil ?_
            refine th_n ?_
            refine wp_seq ?_
            refine wp_region_lit ?_
            refine vr tbok 10 [] [(2, .bool true)] [] E (by kernel_rfl) trivial ?_
            clear E; intro a E
            refine wpList_nil ?_
            refine th_n ?_
            refine wp_ret ?_
            have hx_ := Option.some.inj hP
            refine ret1 E rfl rfl ?_
            exact ⟨_, rfl, (), rfl, H.sel [] rfl, hx_.symm⟩
           ·
            clear H
            rintro v692 w691 a ⟨x690, rfl, H, hx_⟩ E_
            subst hx_
            replace E := E_ _ rfl; clear E_
            refine wpList_nil ?_
            refine th_n ?_
            refine c_true E rfl ?_
            refine wp_seq ?_
            refine wp_region_lit ?_
            refine vr tbok 1 [] [(2, .int .i64 0)] [] E (by kernel_rfl) trivial ?_
            clear E; intro a E
            refine wpList_nil ?_
            refine th_n ?_
            refine wp_ret ?_
            refine th_ret ?_
            have hx_ := Option.some.inj hP
            refine ret1 E rfl rfl ?_
            exact ⟨_, rfl, (), rfl, H.sel [] rfl, hx_.symm⟩
          ·
           clear H
           rintro v694 w693 a ⟨x687, rfl, H, hx_⟩ E_
           subst hx_
           replace E := E_ _ rfl; clear E_
           refine vr tbok 1 [] [(14, .bool x530), (15, .pointer none), (17, .int .u8 0), (18, .int .i64 1), (19, .int .u8 0), (20, .int .i64 1), (21, .int .i64 0)] [] E (by kernel_rfl) trivial ?_
           clear E; intro a E
           refine wpList_nil ?_
           refine th_n ?_
           refine wp_seq ?_
           refine wp_region_lit ?_
           refine vr tbok 1 [] [(14, .bool x530), (15, .pointer none), (17, .int .u8 0), (18, .int .i64 1), (19, .int .u8 0), (20, .int .i64 1), (21, .int .i64 0), (121, .pointer none)] [] E (by kernel_rfl) trivial ?_
           clear E; intro a E
           obtain ⟨x697, h698, hP⟩ := bind_inv hP
           refine e_call (R := fun v_ w_ => ∃ (x699 : Unit), v_ = .tuple #[.int .u8 0, .int .i64 1] ∧ Hp S Fa w0 w_ [] ∧ x697 = x699) E rfl rfl Try.func29 rfl rfl rfl ?_ ?_
           ·
            clear E hP; have hP := h698; clear h698; rw [law25_PlayKnown_f25] at hP
            refine enterV (n := 85) Try.func29 rfl rfl rfl ?_
            intro a E
            replace E := E.pick [(0, .pointer none), (1, .int .u64 0)] ⟨rfl, rfl, trivial⟩
            refine wp_seq ?_
            refine wp_region_lit ?_
            refine vr tbok 2 [] [(0, .pointer none), (1, .int .u64 0)] [] E (by kernel_rfl) trivial ?_
            clear E; intro a E
            refine wpList_nil ?_
            refine th_n ?_
            refine wp_seq ?_
            refine wp_seq ?_
            refine wp_region_lit ?_
            refine vr tbok 1 [] [(0, .pointer none), (1, .int .u64 0), (8, .pointer none)] [] E (by kernel_rfl) trivial ?_
            clear E; intro a E
            obtain ⟨x700, h701, hP⟩ := bind_inv hP
            refine e_call (R := fun v_ w_ => ∃ (x702 : Unit), v_ = .bool true ∧ Hp S Fa w0 w_ [] ∧ x700 = x702) E rfl rfl Try.func60 rfl rfl rfl ?_ ?_
            ·
             clear E hP; have hP := h701; clear h701; rw [law25_PlayKnown_f26] at hP
             refine enterV (n := 12) Try.func60 rfl rfl rfl ?_
             intro a E
             replace E := E.pick [(0, .pointer none)] ⟨rfl, trivial⟩
             refine wp_seq ?_
             refine wp_region_lit ?_
             refine vr tbok 1 [] [(0, .pointer none)] [] E (by kernel_rfl) trivial ?_
             clear E; intro a E
             refine wpList_nil ?_
             refine th_n ?_
             refine wp_seq ?_
             refine wp_region_lit ?_
             refine vr tbok 10 [] [(2, .bool true)] [] E (by kernel_rfl) trivial ?_
             clear E; intro a E
             refine wpList_nil ?_
             refine th_n ?_
             refine wp_ret ?_
             have hx_ := Option.some.inj hP
             refine ret1 E rfl rfl ?_
             exact ⟨_, rfl, (), rfl, H.sel [] rfl, hx_.symm⟩
            ·
             clear H
             rintro v704 w703 a ⟨x702, rfl, H, hx_⟩ E_
             subst hx_
             replace E := E_ _ rfl; clear E_
             refine wpList_nil ?_
             refine th_n ?_
             refine c_true E rfl ?_
             refine wp_seq ?_
             refine wp_region_lit ?_
             refine vr tbok 2 [] [(4, .int .u8 0), (5, .int .i64 1)] [] E (by kernel_rfl) trivial ?_
             clear E; intro a E
             refine wpList_nil ?_
             refine th_n ?_
             refine wp_ret ?_
             refine th_ret ?_
             have hx_ := Option.some.inj hP
             refine ret2 E rfl rfl rfl ?_
             exact ⟨_, rfl, (), rfl, H.sel [] rfl, hx_.symm⟩
           ·
            clear H
            rintro v706 w705 a ⟨x699, rfl, H, hx_⟩ E_
            subst hx_
            replace E := E_ _ rfl; clear E_
            refine vr tbok 5 [] [(14, .bool x530), (15, .pointer none), (17, .int .u8 0), (18, .int .i64 1), (19, .int .u8 0), (20, .int .i64 1), (21, .int .i64 0), (22, .int .u8 0), (23, .int .i64 1)] [] E (by kernel_rfl) trivial ?_
            clear E; intro a E
            refine wpList_nil ?_
            refine th_n ?_
            refine wp_seq ?_
            refine wp_region_lit ?_
            obtain ⟨r707, h708, hP⟩ := bind_inv hP
            obtain ⟨Fa709, Hc710, hb711⟩ := H.call [] [] rfl rfl trivial
            refine e_call E rfl rfl Try.func22 rfl rfl rfl (law25_awake_calls    Hc710 h708) ?_
            rintro v712 w713 a ⟨rfl, HR714⟩ E_
            replace E := E_ _ rfl; clear E_
            obtain ⟨H_, hc715⟩ := hb711 _ _ HR714 rfl
            replace H := H_; clear H_; try dsimp only [setn, addE, goneL] at H
            refine vr tbok 1 [] [(14, .bool x530), (15, .pointer none), (17, .int .u8 0), (18, .int .i64 1), (19, .int .u8 0), (20, .int .i64 1), (21, .int .i64 0), (22, .int .u8 0), (23, .int .i64 1), (126, .bool r707)] [] E (by kernel_rfl) trivial ?_
            clear E; intro a E
            refine E.cases (t := 126) rfl (fun hb_ E_ => ?_) (fun hb_ E_ => ?_)
            ·
             replace E := E_; clear E_
             have h716 : r707 = true := hb_
             clear hb_; replace hP := ite_t h716 hP
             refine vr tbok 3 [] [(15, .pointer none), (17, .int .u8 0), (18, .int .i64 1), (19, .int .u8 0), (20, .int .i64 1), (21, .int .i64 0), (22, .int .u8 0), (23, .int .i64 1), (129, .bool x530)] [] E (by kernel_rfl) trivial ?_
             clear E; intro a E
             refine E.cases (t := 129) rfl (fun hb_ E_ => ?_) (fun hb_ E_ => ?_)
             ·
              replace E := E_; clear E_
              have h717 : x530 = true := hb_
              clear hb_; replace hP := ite_t h717 hP
              refine vr tbok 37 [] [(0, .bool false)] [] E (by kernel_rfl) trivial ?_
              clear E; intro a E
              refine wpList_nil ?_
              refine th_n ?_
              refine wp_ret ?_
              obtain rfl := Option.some.inj hP
              refine ret1 E rfl rfl ?_
              exact ⟨_, rfl, rfl, H.sel [] rfl⟩
             ·
              replace E := E_; clear E_
              have h718 : ¬ (x530 = true) := (ne_true_of_eq_false hb_)
              clear hb_; replace hP := ite_f h718 hP
              refine vr tbok 37 [] [(0, .bool false)] [] E (by kernel_rfl) trivial ?_
              clear E; intro a E
              refine wpList_nil ?_
              refine th_n ?_
              refine wp_ret ?_
              obtain rfl := Option.some.inj hP
              refine ret1 E rfl rfl ?_
              exact ⟨_, rfl, rfl, H.sel [] rfl⟩
            ·
             replace E := E_; clear E_
             have h719 : ¬ (r707 = true) := (ne_true_of_eq_false hb_)
             clear hb_; replace hP := ite_f h719 hP
             refine vr tbok 40 [] [(0, .bool false)] [] E (by kernel_rfl) trivial ?_
             clear E; intro a E
             refine wpList_nil ?_
             refine th_n ?_
             refine wp_ret ?_
             obtain rfl := Option.some.inj hP
             refine ret1 E rfl rfl ?_
             exact ⟨_, rfl, rfl, H.sel [] rfl⟩
     ·
      subst hr_; have hP := (elim_r hP)
      obtain ⟨x644, hxx_⟩ : ∃ y_, y_ = x_ := ⟨_, rfl⟩; subst hxx_
      replace E := E_ _ rfl; clear E_
      obtain ⟨H_, hc615⟩ := hb607 _ _ HR642 rfl
      replace H := H_; clear H_; try dsimp only [setn, addE, goneL] at H
      refine vr tbok 4 [] [(14, .bool x530), (99, .pointer (some ⟨g623, 0, none⟩)), (100, .agg #[.bool x644.2.2.2.2.2.2.2.1, .slice A636 (List.length x644.2.2.2.2.2.2.2.2.1) c637, .slice A638 (List.length x644.2.2.2.2.2.2.2.2.2.1) c639, .slice A640 (List.length x644.2.2.2.2.2.2.2.2.2.2.1) c641]), (101, .bool x644.2.2.2.2.2.2.2.2.2.2.2)] [] E (by kernel_rfl) trivial ?_
      clear E; intro a E
      refine h_alloc H E rfl rfl tbok rfl ?_
      intro w731 g730 a hc732 hg734 H_ E_
      replace E := E_ _ rfl; clear E_
      replace H := H_; clear H_; try dsimp only [setn, addE, goneL] at H
      refine vr tbok 1 [] [(14, .bool x530), (15, .pointer (some ⟨g623, 0, none⟩)), (16, .pointer (some ⟨g730, 0, none⟩)), (100, .agg #[.bool x644.2.2.2.2.2.2.2.1, .slice A636 (List.length x644.2.2.2.2.2.2.2.2.1) c637, .slice A638 (List.length x644.2.2.2.2.2.2.2.2.2.1) c639, .slice A640 (List.length x644.2.2.2.2.2.2.2.2.2.2.1) c641]), (101, .bool x644.2.2.2.2.2.2.2.2.2.2.2)] [] E (by kernel_rfl) trivial ?_
      clear E; intro a E
      refine h_store (g := g730) (off := 0) H 13 rfl E rfl rfl rfl rfl tbok rfl rfl rfl rfl rfl ?_
      clear E; intro w735 a hc736 H_ E
      replace H := H_; clear H_; try dsimp only [setn, addE, goneL] at H
      refine vr tbok 1 [] [(3, .bool x644.2.2.2.2.2.2.2.2.2.2.2), (14, .bool x530), (15, .pointer (some ⟨g623, 0, none⟩)), (16, .pointer (some ⟨g730, 0, none⟩))] [] E (by kernel_rfl) trivial ?_
      clear E; intro a E
      refine wpList_nil ?_
      refine th_n ?_
      refine wp_seq ?_
      refine wp_seq ?_
      refine wp_region_lit ?_
      refine vr tbok 3 [] [(14, .bool x530), (15, .pointer (some ⟨g623, 0, none⟩)), (16, .pointer (some ⟨g730, 0, none⟩)), (104, .bool (!x644.2.2.2.2.2.2.2.2.2.2.2))] [] E (by kernel_rfl) trivial ?_
      clear E; intro a E
      refine E.cases (t := 104) rfl (fun hb_ E_ => ?_) (fun hb_ E_ => ?_)
      ·
       replace E := E_; clear E_
       have h737 : ¬ (x644.2.2.2.2.2.2.2.2.2.2.2 = true) := (ne_true_of_eq_false (not_t hb_))
       clear hb_; replace hP := ite_f h737 hP
       refine vr tbok 3 [] [(14, .bool x530), (15, .pointer (some ⟨g623, 0, none⟩)), (107, .bool true)] [] E (by kernel_rfl) trivial ?_
       clear E; intro a E
       refine wpList_nil ?_
       refine th_n ?_
       refine c_true E rfl ?_
       refine wp_seq ?_
       refine wp_region_lit ?_
       refine vr tbok 1 [] [(0, .bool false)] [] E (by kernel_rfl) trivial ?_
       clear E; intro a E
       refine wpList_nil ?_
       refine th_n ?_
       refine wp_ret ?_
       refine th_ret ?_
       obtain rfl := Option.some.inj hP
       refine ret1 E rfl rfl ?_
       exact ⟨_, rfl, rfl, H.sel [] rfl⟩
      ·
       replace E := E_; clear E_
       have h738 : x644.2.2.2.2.2.2.2.2.2.2.2 = true := (not_f hb_)
       clear hb_; replace hP := ite_t h738 hP
       refine vr tbok 3 [.bool x644.2.2.2.2.2.2.2.1] [(14, .bool x530), (15, .pointer (some ⟨g623, 0, none⟩)), (107, .bool x644.2.2.2.2.2.2.2.1)] [World.cell? w735 ⟨g730, 0, none⟩ = some (.bool x644.2.2.2.2.2.2.2.1)] E (by kernel_rfl) ((H.box 13 rfl).cell (j := 0) rfl) ?_
       clear E; intro a E
       refine wpList_nil ?_
       refine th_n ?_
       refine E.cases (t := 107) rfl (fun hb_ E_ => ?_) (fun hb_ E_ => ?_)
       ·
        replace E := E_; clear E_
        have h739 : x644.2.2.2.2.2.2.2.1 = true := hb_
        clear hb_; replace hP := ite_t h739 hP
        refine c_true E rfl ?_
        refine wp_seq ?_
        refine wp_region_lit ?_
        refine vr tbok 1 [] [(0, .bool false)] [] E (by kernel_rfl) trivial ?_
        clear E; intro a E
        refine wpList_nil ?_
        refine th_n ?_
        refine wp_ret ?_
        refine th_ret ?_
        obtain rfl := Option.some.inj hP
        refine ret1 E rfl rfl ?_
        exact ⟨_, rfl, rfl, H.sel [] rfl⟩
       ·
        replace E := E_; clear E_
        have h740 : ¬ (x644.2.2.2.2.2.2.2.1 = true) := (ne_true_of_eq_false hb_)
        clear hb_; replace hP := ite_f h740 hP
        refine c_false E rfl ?_
        refine wp_skip ?_
        refine th_n ?_
        refine wp_seq ?_
        refine wp_region_lit ?_
        refine vr tbok 1 [] [(14, .bool x530), (15, .pointer (some ⟨g623, 0, none⟩)), (109, .pointer (some ⟨g623, 0, none⟩))] [] E (by kernel_rfl) trivial ?_
        clear E; intro a E
        replace H := H.nilrow cS98 99; try dsimp only [setn, addE, goneL] at H
        obtain ⟨r742, h743, hP⟩ := bind_inv hP
        obtain ⟨Fa744, Hc745, hb746⟩ := H.call [3, 14] [(4, false), (5, false), (6, false), (7, false), (8, false), (9, false)] rfl rfl ⟨flat_plain, trivial⟩
        refine e_call E rfl rfl Try.func33 rfl rfl rfl (play_Referee_Choice_calls g623 A624 c625 A626 c627 A628 c629 A630 c631 A632 c633 A634 c635 none 0 r585.1 x644.1 x644.2.1 x644.2.2.1 (2, 1) x644.2.2.2.1 x644.2.2.2.2.1 x644.2.2.2.2.2.1 x644.2.2.2.2.2.2.1 0 [] true (H.rcap 4 rfl) (H.rcap 5 rfl) (H.rcap 6 rfl) (H.rcap 7 rfl) (H.rcap 8 rfl) (H.rcap 9 rfl) Hc745 h743) ?_
        intro v752 w751 a hR753 E_
        obtain ⟨x_, hr_, rfl, HR755⟩ := hR753
        subst hr_
        replace E := E_ _ rfl; clear E_
        obtain ⟨H_, hc754⟩ := hb746 _ _ HR755 rfl
        replace H := H_; clear H_; try dsimp only [setn, addE, goneL] at H
        refine vr tbok 5 [] [(14, .bool x530), (15, .pointer (some ⟨g623, 0, none⟩)), (17, .int .u8 r742.1), (18, .int .i64 r742.2)] [] E (by kernel_rfl) trivial ?_
        clear E; intro a E
        refine wpList_nil ?_
        refine th_n ?_
        refine wp_seq ?_
        refine wp_region_lit ?_
        refine vr tbok 1 [] [(14, .bool x530), (15, .pointer (some ⟨g623, 0, none⟩)), (17, .int .u8 r742.1), (18, .int .i64 r742.2), (114, .pointer (some ⟨g623, 0, none⟩))] [] E (by kernel_rfl) trivial ?_
        clear E; intro a E
        obtain ⟨r758, h759, hP⟩ := bind_inv hP
        obtain ⟨Fa760, Hc761, hb762⟩ := H.call [16, 15] [(4, false), (5, false), (6, false), (7, false), (8, false), (9, false)] rfl rfl ⟨flat_plain, trivial⟩
        refine e_call E rfl rfl Try.func29 rfl rfl rfl (play_Referee_Move_calls g623 A624 c625 A626 c627 A628 c629 A630 c631 A632 c633 A634 c635 none 0 r585.1 x644.1 x644.2.1 x644.2.2.1 (2, 1) x644.2.2.2.1 x644.2.2.2.2.1 x644.2.2.2.2.2.1 x644.2.2.2.2.2.2.1 0 [] true 1 (H.rcap 4 rfl) (H.rcap 5 rfl) (H.rcap 6 rfl) (H.rcap 7 rfl) (H.rcap 8 rfl) (H.rcap 9 rfl) Hc761 h759) ?_
        intro v768 w767 a hR769 E_
        obtain ⟨x_, A772, c773, hr_, rfl, HR771⟩ := hR769
        subst hr_
        replace E := E_ _ rfl; clear E_
        obtain ⟨H_, hc770⟩ := hb762 _ _ HR771 rfl
        replace H := H_; clear H_; try dsimp only [setn, addE, goneL] at H
        refine vr tbok 5 [] [(14, .bool x530), (15, .pointer (some ⟨g623, 0, none⟩)), (17, .int .u8 r742.1), (18, .int .i64 r742.2), (19, .int .u8 r758.1), (20, .int .i64 r758.2.1)] [] E (by kernel_rfl) trivial ?_
        clear E; intro a E
        refine wpList_nil ?_
        refine th_n ?_
        refine wp_seq ?_
        refine wp_region_lit ?_
        refine vr tbok 1 [] [(14, .bool x530), (15, .pointer (some ⟨g623, 0, none⟩)), (17, .int .u8 r742.1), (18, .int .i64 r742.2), (19, .int .u8 r758.1), (20, .int .i64 r758.2.1), (118, .pointer (some ⟨g623, 0, none⟩))] [] E (by kernel_rfl) trivial ?_
        clear E; intro a E
        obtain ⟨r776, h777, hP⟩ := bind_inv hP
        obtain ⟨Fa778, Hc779, hb780⟩ := H.call [17, 18] [(4, false), (5, false), (6, false), (7, false), (8, false), (9, false)] rfl rfl ⟨flat_plain, trivial⟩
        refine e_call E rfl rfl Try.func26 rfl rfl rfl (play_Referee_Rank_calls g623 A624 c625 A626 c627 A628 c629 A630 c631 A632 c633 A634 c635 A772 c773 r585.1 x644.1 x644.2.1 x644.2.2.1 (2, 1) x644.2.2.2.1 x644.2.2.2.2.1 x644.2.2.2.2.2.1 x644.2.2.2.2.2.2.1 r758.2.2.1 r758.2.2.2 true (H.rcap 4 rfl) (H.rcap 5 rfl) (H.rcap 6 rfl) (H.rcap 7 rfl) (H.rcap 8 rfl) (H.rcap 9 rfl) Hc779 h777) ?_
        intro v786 w785 a hR787 E_
        obtain ⟨x_, hr_, rfl, HR789⟩ := hR787
        subst hr_
        replace E := E_ _ rfl; clear E_
        obtain ⟨H_, hc788⟩ := hb780 _ _ HR789 rfl
        replace H := H_; clear H_; try dsimp only [setn, addE, goneL] at H
        refine vr tbok 1 [] [(14, .bool x530), (15, .pointer (some ⟨g623, 0, none⟩)), (17, .int .u8 r742.1), (18, .int .i64 r742.2), (19, .int .u8 r758.1), (20, .int .i64 r758.2.1), (21, .int .i64 r776)] [] E (by kernel_rfl) trivial ?_
        clear E; intro a E
        refine wpList_nil ?_
        refine th_n ?_
        refine wp_seq ?_
        refine wp_region_lit ?_
        refine vr tbok 1 [] [(14, .bool x530), (15, .pointer (some ⟨g623, 0, none⟩)), (17, .int .u8 r742.1), (18, .int .i64 r742.2), (19, .int .u8 r758.1), (20, .int .i64 r758.2.1), (21, .int .i64 r776), (121, .pointer (some ⟨g623, 0, none⟩))] [] E (by kernel_rfl) trivial ?_
        clear E; intro a E
        obtain ⟨r792, h793, hP⟩ := bind_inv hP
        obtain ⟨Fa794, Hc795, hb796⟩ := H.call [20, 19] [(4, false), (5, false), (6, false), (7, false), (8, false), (9, false)] rfl rfl ⟨flat_plain, trivial⟩
        refine e_call E rfl rfl Try.func29 rfl rfl rfl (play_Referee_Move_calls g623 A624 c625 A626 c627 A628 c629 A630 c631 A632 c633 A634 c635 A772 c773 r585.1 x644.1 x644.2.1 x644.2.2.1 (2, 1) x644.2.2.2.1 x644.2.2.2.2.1 x644.2.2.2.2.2.1 x644.2.2.2.2.2.2.1 r758.2.2.1 r758.2.2.2 true 0 (H.rcap 4 rfl) (H.rcap 5 rfl) (H.rcap 6 rfl) (H.rcap 7 rfl) (H.rcap 8 rfl) (H.rcap 9 rfl) Hc795 h793) ?_
        intro v802 w801 a hR803 E_
        obtain ⟨x_, A806, c807, hr_, rfl, HR805⟩ := hR803
        subst hr_
        replace E := E_ _ rfl; clear E_
        obtain ⟨H_, hc804⟩ := hb796 _ _ HR805 rfl
        replace H := H_; clear H_; try dsimp only [setn, addE, goneL] at H
        refine vr tbok 5 [] [(14, .bool x530), (15, .pointer (some ⟨g623, 0, none⟩)), (17, .int .u8 r742.1), (18, .int .i64 r742.2), (19, .int .u8 r758.1), (20, .int .i64 r758.2.1), (21, .int .i64 r776), (22, .int .u8 r792.1), (23, .int .i64 r792.2.1)] [] E (by kernel_rfl) trivial ?_
        clear E; intro a E
        refine wpList_nil ?_
        refine th_n ?_
        refine wp_seq ?_
        refine wp_region_lit ?_
        obtain ⟨r810, h811, hP⟩ := bind_inv hP
        obtain ⟨Fa812, Hc813, hb814⟩ := H.call [] [] rfl rfl trivial
        refine e_call E rfl rfl Try.func22 rfl rfl rfl (law25_awake_calls    Hc813 h811) ?_
        rintro v815 w816 a ⟨rfl, HR817⟩ E_
        replace E := E_ _ rfl; clear E_
        obtain ⟨H_, hc818⟩ := hb814 _ _ HR817 rfl
        replace H := H_; clear H_; try dsimp only [setn, addE, goneL] at H
        refine vr tbok 1 [] [(14, .bool x530), (15, .pointer (some ⟨g623, 0, none⟩)), (17, .int .u8 r742.1), (18, .int .i64 r742.2), (19, .int .u8 r758.1), (20, .int .i64 r758.2.1), (21, .int .i64 r776), (22, .int .u8 r792.1), (23, .int .i64 r792.2.1), (126, .bool r810)] [] E (by kernel_rfl) trivial ?_
        clear E; intro a E
        refine E.cases (t := 126) rfl (fun hb_ E_ => ?_) (fun hb_ E_ => ?_)
        ·
         replace E := E_; clear E_
         have h819 : r810 = true := hb_
         clear hb_; replace hP := ite_t h819 hP
         refine vr tbok 3 [] [(15, .pointer (some ⟨g623, 0, none⟩)), (17, .int .u8 r742.1), (18, .int .i64 r742.2), (19, .int .u8 r758.1), (20, .int .i64 r758.2.1), (21, .int .i64 r776), (22, .int .u8 r792.1), (23, .int .i64 r792.2.1), (129, .bool x530)] [] E (by kernel_rfl) trivial ?_
         clear E; intro a E
         refine E.cases (t := 129) rfl (fun hb_ E_ => ?_) (fun hb_ E_ => ?_)
         ·
          replace E := E_; clear E_
          have h820 : x530 = true := hb_
          clear hb_; replace hP := ite_t h820 hP
          refine vr tbok 4 [] [(15, .pointer (some ⟨g623, 0, none⟩)), (18, .int .i64 r742.2), (19, .int .u8 r758.1), (20, .int .i64 r758.2.1), (21, .int .i64 r776), (22, .int .u8 r792.1), (23, .int .i64 r792.2.1), (133, .bool ((r742.1 : Int) == 0))] [] E (by kernel_rfl) trivial ?_
          clear E; intro a E
          refine E.cases (t := 133) rfl (fun hb_ E_ => ?_) (fun hb_ E_ => ?_)
          ·
           replace E := E_; clear E_
           have h821 : (r742.1 : Int) = 0 := eq_of_beq hb_
           clear hb_; replace hP := ite_t h821 hP
           refine vr tbok 4 [] [(15, .pointer (some ⟨g623, 0, none⟩)), (19, .int .u8 r758.1), (20, .int .i64 r758.2.1), (21, .int .i64 r776), (22, .int .u8 r792.1), (23, .int .i64 r792.2.1), (137, .bool ((r742.2 : Int) == 0))] [] E (by kernel_rfl) trivial ?_
           clear E; intro a E
           refine E.cases (t := 137) rfl (fun hb_ E_ => ?_) (fun hb_ E_ => ?_)
           ·
            replace E := E_; clear E_
            have h822 : (r742.2 : Int) = 0 := eq_of_beq hb_
            clear hb_; replace hP := ite_t h822 hP
            refine vr tbok 4 [] [(15, .pointer (some ⟨g623, 0, none⟩)), (20, .int .i64 r758.2.1), (21, .int .i64 r776), (22, .int .u8 r792.1), (23, .int .i64 r792.2.1), (141, .bool ((r758.1 : Int) == 1))] [] E (by kernel_rfl) trivial ?_
            clear E; intro a E
            refine E.cases (t := 141) rfl (fun hb_ E_ => ?_) (fun hb_ E_ => ?_)
            ·
             replace E := E_; clear E_
             have h823 : (r758.1 : Int) = 1 := eq_of_beq hb_
             clear hb_; replace hP := ite_t h823 hP
             refine vr tbok 4 [] [(15, .pointer (some ⟨g623, 0, none⟩)), (21, .int .i64 r776), (22, .int .u8 r792.1), (23, .int .i64 r792.2.1), (145, .bool ((r758.2.1 : Int) == 0))] [] E (by kernel_rfl) trivial ?_
             clear E; intro a E
             refine E.cases (t := 145) rfl (fun hb_ E_ => ?_) (fun hb_ E_ => ?_)
             ·
              replace E := E_; clear E_
              have h824 : (r758.2.1 : Int) = 0 := eq_of_beq hb_
              clear hb_; replace hP := ite_t h824 hP
              refine vr tbok 4 [] [(15, .pointer (some ⟨g623, 0, none⟩)), (22, .int .u8 r792.1), (23, .int .i64 r792.2.1), (149, .bool ((r776 : Int) == (-1)))] [] E (by kernel_rfl) trivial ?_
              clear E; intro a E
              refine E.cases (t := 149) rfl (fun hb_ E_ => ?_) (fun hb_ E_ => ?_)
              ·
               replace E := E_; clear E_
               have h825 : (r776 : Int) = -1 := eq_of_beq hb_
               clear hb_; replace hP := ite_t h825 hP
               refine vr tbok 4 [] [(15, .pointer (some ⟨g623, 0, none⟩)), (23, .int .i64 r792.2.1), (153, .bool ((r792.1 : Int) == 0))] [] E (by kernel_rfl) trivial ?_
               clear E; intro a E
               refine E.cases (t := 153) rfl (fun hb_ E_ => ?_) (fun hb_ E_ => ?_)
               ·
                replace E := E_; clear E_
                have h826 : (r792.1 : Int) = 0 := eq_of_beq hb_
                clear hb_; replace hP := ite_t h826 hP
                refine vr tbok 4 [] [(15, .pointer (some ⟨g623, 0, none⟩)), (157, .bool ((r792.2.1 : Int) == 0))] [] E (by kernel_rfl) trivial ?_
                clear E; intro a E
                refine E.cases (t := 157) rfl (fun hb_ E_ => ?_) (fun hb_ E_ => ?_)
                ·
                 replace E := E_; clear E_
                 have h827 : (r792.2.1 : Int) = 0 := eq_of_beq hb_
                 clear hb_; replace hP := ite_t h827 hP
                 refine vr tbok 1 [] [(157, .bool true), (158, .pointer (some ⟨g623, 0, none⟩))] [] E (by kernel_rfl) trivial ?_
                 clear E; intro a E
                 obtain ⟨r828, h829, hP⟩ := bind_inv hP
                 obtain ⟨Fa830, Hc831, hb832⟩ := H.call [21, 22] [(4, false), (5, false), (6, false), (7, false), (8, false), (9, false)] rfl rfl ⟨flat_plain, trivial⟩
                 refine e_call E rfl rfl Try.func28 rfl rfl rfl (play_Referee_State_calls g623 A624 c625 A626 c627 A628 c629 A630 c631 A632 c633 A634 c635 A806 c807 r585.1 x644.1 x644.2.1 x644.2.2.1 (2, 1) x644.2.2.2.1 x644.2.2.2.2.1 x644.2.2.2.2.2.1 x644.2.2.2.2.2.2.1 r792.2.2.1 r792.2.2.2 true (H.rcap 4 rfl) (H.rcap 5 rfl) (H.rcap 6 rfl) (H.rcap 7 rfl) (H.rcap 8 rfl) (H.rcap 9 rfl) Hc831 h829) ?_
                 intro v838 w837 a hR839 E_
                 obtain ⟨x_, hr_, rfl, HR841⟩ := hR839
                 subst hr_
                 replace E := E_ _ rfl; clear E_
                 obtain ⟨H_, hc840⟩ := hb832 _ _ HR841 rfl
                 replace H := H_; clear H_; try dsimp only [setn, addE, goneL] at H
                 refine vr tbok 3 [] [(162, .bool ((r828 : Int) == 1))] [] E (by kernel_rfl) trivial ?_
                 clear E; intro a E
                 refine E.cases (t := 162) rfl (fun hb_ E_ => ?_) (fun hb_ E_ => ?_)
                 ·
                  replace E := E_; clear E_
                  have h844 : (r828 : Int) = 1 := eq_of_beq hb_
                  clear hb_; replace hP := ite_t h844 hP
                  refine vr tbok 4 [] [(0, .bool true)] [] E (by kernel_rfl) trivial ?_
                  clear E; intro a E
                  refine wpList_nil ?_
                  refine th_n ?_
                  refine wp_ret ?_
                  obtain rfl := Option.some.inj hP
                  refine ret1 E rfl rfl ?_
                  exact ⟨_, rfl, rfl, H.sel [] rfl⟩
                 ·
                  replace E := E_; clear E_
                  have h845 : ¬ ((r828 : Int) = 1) := ne_of_beq_false hb_
                  clear hb_; replace hP := ite_f h845 hP
                  refine vr tbok 4 [] [(0, .bool false)] [] E (by kernel_rfl) trivial ?_
                  clear E; intro a E
                  refine wpList_nil ?_
                  refine th_n ?_
                  refine wp_ret ?_
                  obtain rfl := Option.some.inj hP
                  refine ret1 E rfl rfl ?_
                  exact ⟨_, rfl, rfl, H.sel [] rfl⟩
                ·
                 replace E := E_; clear E_
                 have h846 : ¬ ((r792.2.1 : Int) = 0) := ne_of_beq_false hb_
                 clear hb_; replace hP := ite_f h846 hP
                 refine vr tbok 9 [] [(0, .bool false)] [] E (by kernel_rfl) trivial ?_
                 clear E; intro a E
                 refine wpList_nil ?_
                 refine th_n ?_
                 refine wp_ret ?_
                 obtain rfl := Option.some.inj hP
                 refine ret1 E rfl rfl ?_
                 exact ⟨_, rfl, rfl, H.sel [] rfl⟩
               ·
                replace E := E_; clear E_
                have h847 : ¬ ((r792.1 : Int) = 0) := ne_of_beq_false hb_
                clear hb_; replace hP := ite_f h847 hP
                refine vr tbok 13 [] [(0, .bool false)] [] E (by kernel_rfl) trivial ?_
                clear E; intro a E
                refine wpList_nil ?_
                refine th_n ?_
                refine wp_ret ?_
                obtain rfl := Option.some.inj hP
                refine ret1 E rfl rfl ?_
                exact ⟨_, rfl, rfl, H.sel [] rfl⟩
              ·
               replace E := E_; clear E_
               have h848 : ¬ ((r776 : Int) = -1) := ne_of_beq_false hb_
               clear hb_; replace hP := ite_f h848 hP
               refine vr tbok 17 [] [(0, .bool false)] [] E (by kernel_rfl) trivial ?_
               clear E; intro a E
               refine wpList_nil ?_
               refine th_n ?_
               refine wp_ret ?_
               obtain rfl := Option.some.inj hP
               refine ret1 E rfl rfl ?_
               exact ⟨_, rfl, rfl, H.sel [] rfl⟩
             ·
              replace E := E_; clear E_
              have h849 : ¬ ((r758.2.1 : Int) = 0) := ne_of_beq_false hb_
              clear hb_; replace hP := ite_f h849 hP
              refine vr tbok 21 [] [(0, .bool false)] [] E (by kernel_rfl) trivial ?_
              clear E; intro a E
              refine wpList_nil ?_
              refine th_n ?_
              refine wp_ret ?_
              obtain rfl := Option.some.inj hP
              refine ret1 E rfl rfl ?_
              exact ⟨_, rfl, rfl, H.sel [] rfl⟩
            ·
             replace E := E_; clear E_
             have h850 : ¬ ((r758.1 : Int) = 1) := ne_of_beq_false hb_
             clear hb_; replace hP := ite_f h850 hP
             refine vr tbok 25 [] [(0, .bool false)] [] E (by kernel_rfl) trivial ?_
             clear E; intro a E
             refine wpList_nil ?_
             refine th_n ?_
             refine wp_ret ?_
             obtain rfl := Option.some.inj hP
             refine ret1 E rfl rfl ?_
             exact ⟨_, rfl, rfl, H.sel [] rfl⟩
           ·
            replace E := E_; clear E_
            have h851 : ¬ ((r742.2 : Int) = 0) := ne_of_beq_false hb_
            clear hb_; replace hP := ite_f h851 hP
            refine vr tbok 29 [] [(0, .bool false)] [] E (by kernel_rfl) trivial ?_
            clear E; intro a E
            refine wpList_nil ?_
            refine th_n ?_
            refine wp_ret ?_
            obtain rfl := Option.some.inj hP
            refine ret1 E rfl rfl ?_
            exact ⟨_, rfl, rfl, H.sel [] rfl⟩
          ·
           replace E := E_; clear E_
           have h852 : ¬ ((r742.1 : Int) = 0) := ne_of_beq_false hb_
           clear hb_; replace hP := ite_f h852 hP
           refine vr tbok 33 [] [(0, .bool false)] [] E (by kernel_rfl) trivial ?_
           clear E; intro a E
           refine wpList_nil ?_
           refine th_n ?_
           refine wp_ret ?_
           obtain rfl := Option.some.inj hP
           refine ret1 E rfl rfl ?_
           exact ⟨_, rfl, rfl, H.sel [] rfl⟩
         ·
          replace E := E_; clear E_
          have h853 : ¬ (x530 = true) := (ne_true_of_eq_false hb_)
          clear hb_; replace hP := ite_f h853 hP
          refine vr tbok 37 [] [(0, .bool false)] [] E (by kernel_rfl) trivial ?_
          clear E; intro a E
          refine wpList_nil ?_
          refine th_n ?_
          refine wp_ret ?_
          obtain rfl := Option.some.inj hP
          refine ret1 E rfl rfl ?_
          exact ⟨_, rfl, rfl, H.sel [] rfl⟩
        ·
         replace E := E_; clear E_
         have h854 : ¬ (r810 = true) := (ne_true_of_eq_false hb_)
         clear hb_; replace hP := ite_f h854 hP
         refine vr tbok 40 [] [(0, .bool false)] [] E (by kernel_rfl) trivial ?_
         clear E; intro a E
         refine wpList_nil ?_
         refine th_n ?_
         refine wp_ret ?_
         obtain rfl := Option.some.inj hP
         refine ret1 E rfl rfl ?_
         exact ⟨_, rfl, rfl, H.sel [] rfl⟩

end Go.V
