/- Plain functions, and the calls that give them. -/
import Derived.Test.YtllkojpinpojiaaA1
set_option linter.all false
set_option linter.unusedVariables false
set_option linter.unnecessarySimpa false
set_option linter.unusedSimpArgs false
namespace Go.V
open Go Go.Proofs
/-! rejoinder/board.Number -/
def board_Number (N : Nat) (mask : Int) (move : Int) : Option (Int × Int) :=
  Option.bind (board_Moves N mask) fun r1 =>
  Option.bind (slices_Index_api_Letter_api_Letter N r1 move) fun r13 =>
  if r13 < 0 then
    some (0, 14)
  else
    some (r13, 0)
set_option maxRecDepth 100000 in
set_option maxHeartbeats 4000000 in
theorem board_Number_calls {N : Nat} {S Fa : Nat → Prop} {w0 : World} {r : Int × Int} (mask : Int) (move : Int) (H : Hp S Fa w0 w0 []) (hP : board_Number N mask move = some r) :
    Calls Try.prog 16 #[.int .u8 mask, .int .u8 move] w0 fun e w' => ∃ v, e = .returned v ∧ v = .tuple #[.int .i64 r.1, .int .i64 r.2] ∧ Hp S Fa w0 w' [] := by
 refine enterV (n := 14) Try.func16 rfl rfl rfl ?_
 intro a E
 replace E := E.pick [(0, .int .u8 mask), (1, .int .u8 move)] ⟨rfl, rfl, trivial⟩
 rw [board_Number] at hP
 refine wp_seq ?_
 refine wp_region_lit ?_
 refine vr tbok 2 [] [(0, .int .u8 mask), (1, .int .u8 move)] [] E (by kernel_rfl) trivial ?_
 clear E; intro a E
 refine wpList_nil ?_
 refine th_n ?_
 refine wp_seq ?_
 refine wp_region_lit ?_
 refine vr tbok 1 [] [(1, .int .u8 move), (7, .int .u8 mask)] [] E (by kernel_rfl) trivial ?_
 clear E; intro a E
 obtain ⟨r1, h2, hP⟩ := bind_inv hP
 obtain ⟨Fa3, Hc4, hb5⟩ := H.call [] [] rfl rfl trivial
 refine e_call E rfl rfl Try.func13 rfl rfl rfl (board_Moves_calls  mask  Hc4 h2) ?_
 rintro v6 w7 a ⟨A10, c11, rfl, HR8⟩ E_
 replace E := E_ _ rfl; clear E_
 obtain ⟨H_, hc9⟩ := hb5 _ _ HR8 rfl
 replace H := H_; clear H_; try dsimp only [setn, addE, goneL] at H
 refine vr tbok 1 [] [(8, .slice A10 (List.length r1) c11), (9, .int .u8 move)] [] E (by kernel_rfl) trivial ?_
 clear E; intro a E
 obtain ⟨r13, h14, hP⟩ := bind_inv hP
 obtain ⟨Fa15, Hc16, hb17⟩ := H.call [] [(0, false)] rfl rfl trivial
 refine e_call E rfl rfl Try.func34 rfl rfl rfl (slices_Index_api_Letter_api_Letter_calls A10 c11 r1 move (H.rcap 0 rfl) Hc16 h14) ?_
 rintro v18 w19 a ⟨rfl, HR20⟩ E_
 replace E := E_ _ rfl; clear E_
 obtain ⟨H_, hc21⟩ := hb17 _ _ HR20 rfl
 replace H := H_; clear H_; try dsimp only [setn, addE, goneL] at H
 refine vr tbok 1 [] [(6, .int .i64 r13)] [] E (by kernel_rfl) trivial ?_
 clear E; intro a E
 refine wpList_nil ?_
 refine th_n ?_
 refine wp_seq ?_
 refine wp_seq ?_
 refine wp_region_lit ?_
 refine vr tbok 2 [] [(6, .int .i64 r13), (12, .bool (decide (r13 < 0)))] [] E (by kernel_rfl) trivial ?_
 clear E; intro a E
 refine wpList_nil ?_
 refine th_n ?_
 refine E.cases (t := 12) rfl (fun hb_ E_ => ?_) (fun hb_ E_ => ?_)
 ·
  replace E := E_; clear E_
  have h22 : r13 < 0 := of_decide_eq_true hb_
  clear hb_; replace hP := ite_t h22 hP
  refine c_true E rfl ?_
  refine wp_seq ?_
  refine wp_region_lit ?_
  refine vr tbok 2 [] [(4, .int .i64 0), (5, .int .i64 14)] [] E (by kernel_rfl) trivial ?_
  clear E; intro a E
  refine wpList_nil ?_
  refine th_n ?_
  refine wp_ret ?_
  refine th_ret ?_
  obtain rfl := Option.some.inj hP
  refine ret2 E rfl rfl rfl ?_
  exact ⟨_, rfl, rfl, H.sel [] rfl⟩
 ·
  replace E := E_; clear E_
  have h23 : ¬ (r13 < 0) := of_decide_eq_false hb_
  clear hb_; replace hP := ite_f h23 hP
  refine c_false E rfl ?_
  refine wp_skip ?_
  refine th_n ?_
  refine wp_seq ?_
  refine wp_region_lit ?_
  refine vr tbok 3 [] [(4, .int .i64 r13), (5, .int .i64 0)] [] E (by kernel_rfl) trivial ?_
  clear E; intro a E
  refine wpList_nil ?_
  refine th_n ?_
  refine wp_ret ?_
  obtain rfl := Option.some.inj hP
  refine ret2 E rfl rfl rfl ?_
  exact ⟨_, rfl, rfl, H.sel [] rfl⟩

/-! rejoinder/letter.Name -/
def letter_Name_l0 (N : Nat) (s : ByteArray) : Nat → Int → Option (Unit ⊕ Bool)
  | 0, _ => none
  | m41 + 1, x18 =>
    if x18 < ((s.size : Nat) : Int) then
      ask (idx x18 (ByteArray.size s)) <|
      if (sb s x18) < 97 then
        if (x18 : Int) = 0 then
          some (Sum.inr false)
        else
          if (sb s x18) < 48 then
            some (Sum.inr false)
          else
            if 57 < (sb s x18) then
              some (Sum.inr false)
            else
              ask (in64 (x18 + 1)) <|
              letter_Name_l0 N s m41 (x18 + 1)
      else
        if 122 < (sb s x18) then
          if (x18 : Int) = 0 then
            some (Sum.inr false)
          else
            if (sb s x18) < 48 then
              some (Sum.inr false)
            else
              if 57 < (sb s x18) then
                some (Sum.inr false)
              else
                ask (in64 (x18 + 1)) <|
                letter_Name_l0 N s m41 (x18 + 1)
        else
          ask (in64 (x18 + 1)) <|
          letter_Name_l0 N s m41 (x18 + 1)
    else
      some (Sum.inl ())
def letter_Name (N : Nat) (s : ByteArray) : Option Bool :=
  if ((s.size : Nat) : Int) < 1 then
    some false
  else
    if 20 < ((s.size : Nat) : Int) then
      some false
    else
      if (strEq s (⟨#[116, 114, 117, 101]⟩)) = true then
        some false
      else
        if (strEq s (⟨#[102, 97, 108, 115, 101]⟩)) = true then
          some false
        else
          if (strEq s (⟨#[108, 97, 115, 116]⟩)) = true then
            some false
          else
            Option.bind (letter_Name_l0 N s N 0) fun x42 =>
            Sum.elim (fun x47 =>
              some true)
             (fun x70 =>
              some x70) x42
set_option maxRecDepth 100000 in
set_option maxHeartbeats 4000000 in
theorem letter_Name_calls {N : Nat} {S Fa : Nat → Prop} {w0 : World} {r : Bool} (s : ByteArray) (H : Hp S Fa w0 w0 []) (hP : letter_Name N s = some r) :
    Calls Try.prog 60 #[.string s] w0 fun e w' => ∃ v, e = .returned v ∧ v = .bool r ∧ Hp S Fa w0 w' [] := by
 refine enterV (n := 52) Try.func60 rfl rfl rfl ?_
 intro a E
 replace E := E.pick [(0, .string s)] ⟨rfl, trivial⟩
 rw [letter_Name] at hP
 refine wp_seq ?_
 refine wp_region_lit ?_
 refine vr tbok 1 [] [(0, .string s)] [] E (by kernel_rfl) trivial ?_
 clear E; intro a E
 refine wpList_nil ?_
 refine th_n ?_
 refine wp_seq ?_
 refine wp_seq ?_
 refine wp_region_lit ?_
 refine vr tbok 4 [] [(0, .string s), (8, .bool (decide (((s.size : Nat) : Int) < 1)))] [] E (by kernel_rfl) trivial ?_
 clear E; intro a E
 refine E.cases (t := 8) rfl (fun hb_ E_ => ?_) (fun hb_ E_ => ?_)
 ·
  replace E := E_; clear E_
  have h1 : ((s.size : Nat) : Int) < 1 := of_decide_eq_true hb_
  clear hb_; replace hP := ite_t h1 hP
  refine vr tbok 16 [] [(0, .string s), (24, .bool true)] [] E (by kernel_rfl) trivial ?_
  clear E; intro a E
  refine wpList_nil ?_
  refine th_n ?_
  refine c_true E rfl ?_
  refine wp_seq ?_
  refine wp_region_lit ?_
  refine vr tbok 1 [] [(2, .bool false)] [] E (by kernel_rfl) trivial ?_
  clear E; intro a E
  refine wpList_nil ?_
  refine th_n ?_
  refine wp_ret ?_
  refine th_ret ?_
  obtain rfl := Option.some.inj hP
  refine ret1 E rfl rfl ?_
  exact ⟨_, rfl, rfl, H.sel [] rfl⟩
 ·
  replace E := E_; clear E_
  have h2 : ¬ (((s.size : Nat) : Int) < 1) := of_decide_eq_false hb_
  clear hb_; replace hP := ite_f h2 hP
  refine vr tbok 5 [] [(0, .string s), (13, .bool (decide (20 < ((s.size : Nat) : Int))))] [] E (by kernel_rfl) trivial ?_
  clear E; intro a E
  refine E.cases (t := 13) rfl (fun hb_ E_ => ?_) (fun hb_ E_ => ?_)
  ·
   replace E := E_; clear E_
   have h3 : 20 < ((s.size : Nat) : Int) := of_decide_eq_true hb_
   clear hb_; replace hP := ite_t h3 hP
   refine vr tbok 11 [] [(0, .string s), (24, .bool true)] [] E (by kernel_rfl) trivial ?_
   clear E; intro a E
   refine wpList_nil ?_
   refine th_n ?_
   refine c_true E rfl ?_
   refine wp_seq ?_
   refine wp_region_lit ?_
   refine vr tbok 1 [] [(2, .bool false)] [] E (by kernel_rfl) trivial ?_
   clear E; intro a E
   refine wpList_nil ?_
   refine th_n ?_
   refine wp_ret ?_
   refine th_ret ?_
   obtain rfl := Option.some.inj hP
   refine ret1 E rfl rfl ?_
   exact ⟨_, rfl, rfl, H.sel [] rfl⟩
  ·
   replace E := E_; clear E_
   have h4 : ¬ (20 < ((s.size : Nat) : Int)) := of_decide_eq_false hb_
   clear hb_; replace hP := ite_f h4 hP
   refine vr tbok 1 [] [(0, .string s), (13, .bool false), (14, .string s)] [] E (by kernel_rfl) trivial ?_
   clear E; intro a E
   refine e_eqStr E rfl rfl tbok rfl rfl rfl rfl ?_
   clear E; intro a E
   refine vr tbok 2 [] [(0, .string s), (17, .bool (strEq s (⟨#[116, 114, 117, 101]⟩)))] [] E (by kernel_rfl) trivial ?_
   clear E; intro a E
   refine E.cases (t := 17) rfl (fun hb_ E_ => ?_) (fun hb_ E_ => ?_)
   ·
    replace E := E_; clear E_
    have h5 : (strEq s (⟨#[116, 114, 117, 101]⟩)) = true := hb_
    clear hb_; replace hP := ite_t h5 hP
    refine vr tbok 7 [] [(0, .string s), (24, .bool true)] [] E (by kernel_rfl) trivial ?_
    clear E; intro a E
    refine wpList_nil ?_
    refine th_n ?_
    refine c_true E rfl ?_
    refine wp_seq ?_
    refine wp_region_lit ?_
    refine vr tbok 1 [] [(2, .bool false)] [] E (by kernel_rfl) trivial ?_
    clear E; intro a E
    refine wpList_nil ?_
    refine th_n ?_
    refine wp_ret ?_
    refine th_ret ?_
    obtain rfl := Option.some.inj hP
    refine ret1 E rfl rfl ?_
    exact ⟨_, rfl, rfl, H.sel [] rfl⟩
   ·
    replace E := E_; clear E_
    have h6 : ¬ ((strEq s (⟨#[116, 114, 117, 101]⟩)) = true) := (ne_true_of_eq_false hb_)
    clear hb_; replace hP := ite_f h6 hP
    refine vr tbok 1 [] [(0, .string s), (17, .bool false), (18, .string s)] [] E (by kernel_rfl) trivial ?_
    clear E; intro a E
    refine e_eqStr E rfl rfl tbok rfl rfl rfl rfl ?_
    clear E; intro a E
    refine vr tbok 2 [] [(0, .string s), (21, .bool (strEq s (⟨#[102, 97, 108, 115, 101]⟩)))] [] E (by kernel_rfl) trivial ?_
    clear E; intro a E
    refine E.cases (t := 21) rfl (fun hb_ E_ => ?_) (fun hb_ E_ => ?_)
    ·
     replace E := E_; clear E_
     have h7 : (strEq s (⟨#[102, 97, 108, 115, 101]⟩)) = true := hb_
     clear hb_; replace hP := ite_t h7 hP
     refine vr tbok 3 [] [(0, .string s), (24, .bool true)] [] E (by kernel_rfl) trivial ?_
     clear E; intro a E
     refine wpList_nil ?_
     refine th_n ?_
     refine c_true E rfl ?_
     refine wp_seq ?_
     refine wp_region_lit ?_
     refine vr tbok 1 [] [(2, .bool false)] [] E (by kernel_rfl) trivial ?_
     clear E; intro a E
     refine wpList_nil ?_
     refine th_n ?_
     refine wp_ret ?_
     refine th_ret ?_
     obtain rfl := Option.some.inj hP
     refine ret1 E rfl rfl ?_
     exact ⟨_, rfl, rfl, H.sel [] rfl⟩
    ·
     replace E := E_; clear E_
     have h8 : ¬ ((strEq s (⟨#[102, 97, 108, 115, 101]⟩)) = true) := (ne_true_of_eq_false hb_)
     clear hb_; replace hP := ite_f h8 hP
     refine vr tbok 1 [] [(0, .string s), (21, .bool false), (22, .string s)] [] E (by kernel_rfl) trivial ?_
     clear E; intro a E
     refine e_eqStr E rfl rfl tbok rfl rfl rfl rfl ?_
     clear E; intro a E
     refine vr tbok 1 [] [(0, .string s), (24, .bool (strEq s (⟨#[108, 97, 115, 116]⟩)))] [] E (by kernel_rfl) trivial ?_
     clear E; intro a E
     refine wpList_nil ?_
     refine th_n ?_
     refine E.cases (t := 24) rfl (fun hb_ E_ => ?_) (fun hb_ E_ => ?_)
     ·
      replace E := E_; clear E_
      have h9 : (strEq s (⟨#[108, 97, 115, 116]⟩)) = true := hb_
      clear hb_; replace hP := ite_t h9 hP
      refine c_true E rfl ?_
      refine wp_seq ?_
      refine wp_region_lit ?_
      refine vr tbok 1 [] [(2, .bool false)] [] E (by kernel_rfl) trivial ?_
      clear E; intro a E
      refine wpList_nil ?_
      refine th_n ?_
      refine wp_ret ?_
      refine th_ret ?_
      obtain rfl := Option.some.inj hP
      refine ret1 E rfl rfl ?_
      exact ⟨_, rfl, rfl, H.sel [] rfl⟩
     ·
      replace E := E_; clear E_
      have h10 : ¬ ((strEq s (⟨#[108, 97, 115, 116]⟩)) = true) := (ne_true_of_eq_false hb_)
      clear hb_; replace hP := ite_f h10 hP
      refine c_false E rfl ?_
      refine wp_skip ?_
      refine th_n ?_
      refine wp_seq ?_
      refine wp_seq ?_
      refine wp_region_lit ?_
      refine vr tbok 3 [] [(0, .string s), (26, .int .i64 ((s.size : Nat) : Int)), (27, .int .i64 0)] [] E (by kernel_rfl) trivial ?_
      clear E; intro a E
      refine wpList_nil ?_
      refine th_n ?_
      refine wp_block ?_
      obtain ⟨x42, hL43, hK44⟩ := bind_inv hP
      clear hP
      refine loop_cut (fun i_ a w_ => (i_ = 0 ∧ ∃ (x47 : Unit), Fr a 52 [] ∧ Hp S Fa w0 w_ [] ∧ x42 = Sum.inl x47)) ?_ ?_
      ·
       refine loopV (fun m46 a w45 => ∃ (x18 : Int), Fr a 52 [(0, .string s), (26, .int .i64 ((s.size : Nat) : Int)), (27, .int .i64 x18)] ∧ Hp S Fa w0 w45 [] ∧ letter_Name_l0 N s m46 x18 = some x42) N ?_ ?_
       ·
        exact ⟨0, E.pick _ ⟨rfl, rfl, rfl, trivial⟩, H.sel [] rfl, hL43⟩
       ·
        clear E H hL43; intro m46 a w45 hI_
        obtain ⟨x18, E, H, hP⟩ := hI_
        obtain ⟨m41, rfl⟩ : ∃ q_, m46 = q_ + 1 := by cases m46 with | zero => rw [letter_Name_l0] at hP; cases hP | succ q_ => exact ⟨q_, rfl⟩
        rw [letter_Name_l0] at hP
        refine wp_seq ?_
        refine wp_region_lit ?_
        refine vr tbok 1 [] [(0, .string s), (26, .int .i64 ((s.size : Nat) : Int)), (27, .int .i64 x18), (28, .bool (decide (x18 < ((s.size : Nat) : Int))))] [] E (by kernel_rfl) trivial ?_
        clear E; intro a E
        refine wpList_nil ?_
        refine th_n ?_
        refine wp_seq ?_
        refine E.cases (t := 28) rfl (fun hb_ E_ => ?_) (fun hb_ E_ => ?_)
        ·
         replace E := E_; clear E_
         have h48 : x18 < ((s.size : Nat) : Int) := of_decide_eq_true hb_
         clear hb_; replace hP := ite_t h48 hP
         refine c_true E rfl ?_
         refine wp_skip ?_
         refine th_n ?_
         refine wp_seq ?_
         refine wp_block ?_
         refine wp_seq ?_
         refine wp_region_lit ?_
         refine vr tbok 2 [] [(0, .string s), (3, .int .i64 x18), (26, .int .i64 ((s.size : Nat) : Int)), (27, .int .i64 x18)] [] E (by kernel_rfl) trivial ?_
         clear E; intro a E
         refine wpList_nil ?_
         refine th_n ?_
         refine wp_seq ?_
         refine wp_region_lit ?_
         refine vr tbok 2 [] [(0, .string s), (3, .int .i64 x18), (26, .int .i64 ((s.size : Nat) : Int)), (27, .int .i64 x18), (30, .string s), (31, .int .i64 x18)] [] E (by kernel_rfl) trivial ?_
         clear E; intro a E
         obtain ⟨g49, hP⟩ := ask_inv hP
         refine e_idxStr E rfl rfl tbok rfl rfl rfl g49 rfl ?_
         clear E; intro a E
         refine vr tbok 1 [] [(0, .string s), (3, .int .i64 x18), (4, .int .u8 (sb s x18)), (26, .int .i64 ((s.size : Nat) : Int)), (27, .int .i64 x18)] [] E (by kernel_rfl) trivial ?_
         clear E; intro a E
         refine wpList_nil ?_
         refine th_n ?_
         refine wp_seq ?_
         refine wp_region_lit ?_
         refine vr tbok 3 [] [(0, .string s), (3, .int .i64 x18), (4, .int .u8 (sb s x18)), (26, .int .i64 ((s.size : Nat) : Int)), (27, .int .i64 x18), (35, .bool (decide ((sb s x18) < 97)))] [] E (by kernel_rfl) trivial ?_
         clear E; intro a E
         refine E.cases (t := 35) rfl (fun hb_ E_ => ?_) (fun hb_ E_ => ?_)
         ·
          replace E := E_; clear E_
          have h50 : (sb s x18) < 97 := of_decide_eq_true hb_
          clear hb_; replace hP := ite_t h50 hP
          refine vr tbok 7 [] [(0, .string s), (4, .int .u8 (sb s x18)), (26, .int .i64 ((s.size : Nat) : Int)), (27, .int .i64 x18), (36, .tuple #[]), (37, .tuple #[]), (39, .bool true), (40, .int .i64 x18), (41, .bool ((x18 : Int) == 0)), (42, .bool ((x18 : Int) == 0))] [] E (by kernel_rfl) trivial ?_
          clear E; intro a E
          refine E.cases (t := 42) rfl (fun hb_ E_ => ?_) (fun hb_ E_ => ?_)
          ·
           replace E := E_; clear E_
           have h51 : (x18 : Int) = 0 := eq_of_beq hb_
           clear hb_; replace hP := ite_t h51 hP
           refine vr tbok 8 [] [(0, .string s), (26, .int .i64 ((s.size : Nat) : Int)), (27, .int .i64 x18), (36, .tuple #[]), (37, .tuple #[]), (40, .int .i64 x18), (41, .bool ((x18 : Int) == 0)), (42, .bool true), (43, .tuple #[]), (44, .tuple #[]), (45, .bool true), (46, .bool true), (47, .tuple #[]), (48, .tuple #[]), (49, .bool true), (50, .bool true)] [] E (by kernel_rfl) trivial ?_
           clear E; intro a E
           refine wpList_nil ?_
           refine th_n ?_
           refine c_true E rfl ?_
           refine wp_seq ?_
           refine wp_region_lit ?_
           refine vr tbok 1 [] [(2, .bool false)] [] E (by kernel_rfl) trivial ?_
           clear E; intro a E
           refine wpList_nil ?_
           refine th_n ?_
           refine wp_ret ?_
           refine bl_ret ?_
           refine th_ret ?_
           refine th_ret ?_
           refine .inr ⟨rfl, ?_⟩
           refine bl_ret ?_
           refine th_ret ?_
           have hx_ := Option.some.inj hP; subst hx_
           have hP : some (false) = some r := hK44
           obtain rfl := Option.some.inj hP
           refine ret1 E rfl rfl ?_
           exact ⟨_, rfl, rfl, H.sel [] rfl⟩
          ·
           replace E := E_; clear E_
           have h52 : ¬ ((x18 : Int) = 0) := ne_of_beq_false hb_
           clear hb_; replace hP := ite_f h52 hP
           refine vr tbok 4 [] [(0, .string s), (4, .int .u8 (sb s x18)), (26, .int .i64 ((s.size : Nat) : Int)), (27, .int .i64 x18), (36, .tuple #[]), (37, .tuple #[]), (39, .bool true), (40, .int .i64 x18), (41, .bool ((x18 : Int) == 0)), (42, .bool false), (43, .int .u8 (sb s x18)), (44, .bool (decide ((sb s x18) < 48))), (45, .bool (decide ((sb s x18) < 48))), (46, .bool (decide ((sb s x18) < 48)))] [] E (by kernel_rfl) trivial ?_
           clear E; intro a E
           refine E.cases (t := 46) rfl (fun hb_ E_ => ?_) (fun hb_ E_ => ?_)
           ·
            replace E := E_; clear E_
            have h53 : (sb s x18) < 48 := of_decide_eq_true hb_
            clear hb_; replace hP := ite_t h53 hP
            refine vr tbok 4 [] [(0, .string s), (26, .int .i64 ((s.size : Nat) : Int)), (27, .int .i64 x18), (36, .tuple #[]), (37, .tuple #[]), (40, .int .i64 x18), (41, .bool ((x18 : Int) == 0)), (42, .bool false), (43, .int .u8 (sb s x18)), (44, .bool (decide ((sb s x18) < 48))), (45, .bool (decide ((sb s x18) < 48))), (46, .bool true), (47, .tuple #[]), (48, .tuple #[]), (49, .bool true), (50, .bool true)] [] E (by kernel_rfl) trivial ?_
            clear E; intro a E
            refine wpList_nil ?_
            refine th_n ?_
            refine c_true E rfl ?_
            refine wp_seq ?_
            refine wp_region_lit ?_
            refine vr tbok 1 [] [(2, .bool false)] [] E (by kernel_rfl) trivial ?_
            clear E; intro a E
            refine wpList_nil ?_
            refine th_n ?_
            refine wp_ret ?_
            refine bl_ret ?_
            refine th_ret ?_
            refine th_ret ?_
            refine .inr ⟨rfl, ?_⟩
            refine bl_ret ?_
            refine th_ret ?_
            have hx_ := Option.some.inj hP; subst hx_
            have hP : some (false) = some r := hK44
            obtain rfl := Option.some.inj hP
            refine ret1 E rfl rfl ?_
            exact ⟨_, rfl, rfl, H.sel [] rfl⟩
           ·
            replace E := E_; clear E_
            have h54 : ¬ ((sb s x18) < 48) := of_decide_eq_false hb_
            clear hb_; replace hP := ite_f h54 hP
            refine vr tbok 4 [] [(0, .string s), (26, .int .i64 ((s.size : Nat) : Int)), (27, .int .i64 x18), (36, .tuple #[]), (37, .tuple #[]), (40, .int .i64 x18), (41, .bool ((x18 : Int) == 0)), (42, .bool false), (43, .int .u8 (sb s x18)), (44, .bool (decide ((sb s x18) < 48))), (45, .bool (decide ((sb s x18) < 48))), (46, .bool false), (47, .int .u8 (sb s x18)), (48, .bool (decide (57 < (sb s x18)))), (49, .bool (decide (57 < (sb s x18)))), (50, .bool (decide (57 < (sb s x18))))] [] E (by kernel_rfl) trivial ?_
            clear E; intro a E
            refine wpList_nil ?_
            refine th_n ?_
            refine E.cases (t := 50) rfl (fun hb_ E_ => ?_) (fun hb_ E_ => ?_)
            ·
             replace E := E_; clear E_
             have h55 : 57 < (sb s x18) := of_decide_eq_true hb_
             clear hb_; replace hP := ite_t h55 hP
             refine c_true E rfl ?_
             refine wp_seq ?_
             refine wp_region_lit ?_
             refine vr tbok 1 [] [(2, .bool false)] [] E (by kernel_rfl) trivial ?_
             clear E; intro a E
             refine wpList_nil ?_
             refine th_n ?_
             refine wp_ret ?_
             refine bl_ret ?_
             refine th_ret ?_
             refine th_ret ?_
             refine .inr ⟨rfl, ?_⟩
             refine bl_ret ?_
             refine th_ret ?_
             have hx_ := Option.some.inj hP; subst hx_
             have hP : some (false) = some r := hK44
             obtain rfl := Option.some.inj hP
             refine ret1 E rfl rfl ?_
             exact ⟨_, rfl, rfl, H.sel [] rfl⟩
            ·
             replace E := E_; clear E_
             have h56 : ¬ (57 < (sb s x18)) := of_decide_eq_false hb_
             clear hb_; replace hP := ite_f h56 hP
             refine c_false E rfl ?_
             refine wp_skip ?_
             refine bl_n ?_
             refine th_n ?_
             refine wp_region_lit ?_
             obtain ⟨g57, hP⟩ := ask_inv hP
             refine vr tbok 2 [.int .i64 (x18 + 1)] [(0, .string s), (26, .int .i64 ((s.size : Nat) : Int)), (27, .int .i64 (x18 + 1)), (36, .tuple #[]), (37, .tuple #[]), (40, .int .i64 x18), (41, .bool ((x18 : Int) == 0)), (42, .bool false), (43, .int .u8 (sb s x18)), (44, .bool (decide ((sb s x18) < 48))), (45, .bool (decide ((sb s x18) < 48))), (46, .bool false), (47, .int .u8 (sb s x18)), (48, .bool (decide (57 < (sb s x18)))), (49, .bool (decide (57 < (sb s x18))))] [IntKind.i64.wrap (x18 + 1) = x18 + 1] E (by kernel_rfl) (wrap_in g57) ?_
             clear E; intro a E
             refine wpList_nil ?_
             exact th_n ⟨m41, Nat.lt_succ_self _, x18 + 1, E.pick _ ⟨rfl, rfl, rfl, trivial⟩, H.sel [] rfl, hP⟩
         ·
          replace E := E_; clear E_
          have h58 : ¬ ((sb s x18) < 97) := of_decide_eq_false hb_
          clear hb_; replace hP := ite_f h58 hP
          refine vr tbok 4 [] [(0, .string s), (3, .int .i64 x18), (4, .int .u8 (sb s x18)), (26, .int .i64 ((s.size : Nat) : Int)), (27, .int .i64 x18), (36, .int .u8 (sb s x18)), (37, .bool (decide (122 < (sb s x18)))), (39, .bool (decide (122 < (sb s x18))))] [] E (by kernel_rfl) trivial ?_
          clear E; intro a E
          refine E.cases (t := 39) rfl (fun hb_ E_ => ?_) (fun hb_ E_ => ?_)
          ·
           replace E := E_; clear E_
           have h59 : 122 < (sb s x18) := of_decide_eq_true hb_
           clear hb_; replace hP := ite_t h59 hP
           refine vr tbok 3 [] [(0, .string s), (4, .int .u8 (sb s x18)), (26, .int .i64 ((s.size : Nat) : Int)), (27, .int .i64 x18), (36, .int .u8 (sb s x18)), (37, .bool (decide (122 < (sb s x18)))), (39, .bool true), (40, .int .i64 x18), (41, .bool ((x18 : Int) == 0)), (42, .bool ((x18 : Int) == 0))] [] E (by kernel_rfl) trivial ?_
           clear E; intro a E
           refine E.cases (t := 42) rfl (fun hb_ E_ => ?_) (fun hb_ E_ => ?_)
           ·
            replace E := E_; clear E_
            have h60 : (x18 : Int) = 0 := eq_of_beq hb_
            clear hb_; replace hP := ite_t h60 hP
            refine vr tbok 8 [] [(0, .string s), (26, .int .i64 ((s.size : Nat) : Int)), (27, .int .i64 x18), (36, .int .u8 (sb s x18)), (37, .bool (decide (122 < (sb s x18)))), (40, .int .i64 x18), (41, .bool ((x18 : Int) == 0)), (42, .bool true), (43, .tuple #[]), (44, .tuple #[]), (45, .bool true), (46, .bool true), (47, .tuple #[]), (48, .tuple #[]), (49, .bool true), (50, .bool true)] [] E (by kernel_rfl) trivial ?_
            clear E; intro a E
            refine wpList_nil ?_
            refine th_n ?_
            refine c_true E rfl ?_
            refine wp_seq ?_
            refine wp_region_lit ?_
            refine vr tbok 1 [] [(2, .bool false)] [] E (by kernel_rfl) trivial ?_
            clear E; intro a E
            refine wpList_nil ?_
            refine th_n ?_
            refine wp_ret ?_
            refine bl_ret ?_
            refine th_ret ?_
            refine th_ret ?_
            refine .inr ⟨rfl, ?_⟩
            refine bl_ret ?_
            refine th_ret ?_
            have hx_ := Option.some.inj hP; subst hx_
            have hP : some (false) = some r := hK44
            obtain rfl := Option.some.inj hP
            refine ret1 E rfl rfl ?_
            exact ⟨_, rfl, rfl, H.sel [] rfl⟩
           ·
            replace E := E_; clear E_
            have h61 : ¬ ((x18 : Int) = 0) := ne_of_beq_false hb_
            clear hb_; replace hP := ite_f h61 hP
            refine vr tbok 4 [] [(0, .string s), (4, .int .u8 (sb s x18)), (26, .int .i64 ((s.size : Nat) : Int)), (27, .int .i64 x18), (36, .int .u8 (sb s x18)), (37, .bool (decide (122 < (sb s x18)))), (39, .bool true), (40, .int .i64 x18), (41, .bool ((x18 : Int) == 0)), (42, .bool false), (43, .int .u8 (sb s x18)), (44, .bool (decide ((sb s x18) < 48))), (45, .bool (decide ((sb s x18) < 48))), (46, .bool (decide ((sb s x18) < 48)))] [] E (by kernel_rfl) trivial ?_
            clear E; intro a E
            refine E.cases (t := 46) rfl (fun hb_ E_ => ?_) (fun hb_ E_ => ?_)
            ·
             replace E := E_; clear E_
             have h62 : (sb s x18) < 48 := of_decide_eq_true hb_
             clear hb_; replace hP := ite_t h62 hP
             refine vr tbok 4 [] [(0, .string s), (26, .int .i64 ((s.size : Nat) : Int)), (27, .int .i64 x18), (36, .int .u8 (sb s x18)), (37, .bool (decide (122 < (sb s x18)))), (40, .int .i64 x18), (41, .bool ((x18 : Int) == 0)), (42, .bool false), (43, .int .u8 (sb s x18)), (44, .bool (decide ((sb s x18) < 48))), (45, .bool (decide ((sb s x18) < 48))), (46, .bool true), (47, .tuple #[]), (48, .tuple #[]), (49, .bool true), (50, .bool true)] [] E (by kernel_rfl) trivial ?_
             clear E; intro a E
             refine wpList_nil ?_
             refine th_n ?_
             refine c_true E rfl ?_
             refine wp_seq ?_
             refine wp_region_lit ?_
             refine vr tbok 1 [] [(2, .bool false)] [] E (by kernel_rfl) trivial ?_
             clear E; intro a E
             refine wpList_nil ?_
             refine th_n ?_
             refine wp_ret ?_
             refine bl_ret ?_
             refine th_ret ?_
             refine th_ret ?_
             refine .inr ⟨rfl, ?_⟩
             refine bl_ret ?_
             refine th_ret ?_
             have hx_ := Option.some.inj hP; subst hx_
             have hP : some (false) = some r := hK44
             obtain rfl := Option.some.inj hP
             refine ret1 E rfl rfl ?_
             exact ⟨_, rfl, rfl, H.sel [] rfl⟩
            ·
             replace E := E_; clear E_
             have h63 : ¬ ((sb s x18) < 48) := of_decide_eq_false hb_
             clear hb_; replace hP := ite_f h63 hP
             refine vr tbok 4 [] [(0, .string s), (26, .int .i64 ((s.size : Nat) : Int)), (27, .int .i64 x18), (36, .int .u8 (sb s x18)), (37, .bool (decide (122 < (sb s x18)))), (40, .int .i64 x18), (41, .bool ((x18 : Int) == 0)), (42, .bool false), (43, .int .u8 (sb s x18)), (44, .bool (decide ((sb s x18) < 48))), (45, .bool (decide ((sb s x18) < 48))), (46, .bool false), (47, .int .u8 (sb s x18)), (48, .bool (decide (57 < (sb s x18)))), (49, .bool (decide (57 < (sb s x18)))), (50, .bool (decide (57 < (sb s x18))))] [] E (by kernel_rfl) trivial ?_
             clear E; intro a E
             refine wpList_nil ?_
             refine th_n ?_
             refine E.cases (t := 50) rfl (fun hb_ E_ => ?_) (fun hb_ E_ => ?_)
             ·
              replace E := E_; clear E_
              have h64 : 57 < (sb s x18) := of_decide_eq_true hb_
              clear hb_; replace hP := ite_t h64 hP
              refine c_true E rfl ?_
              refine wp_seq ?_
              refine wp_region_lit ?_
              refine vr tbok 1 [] [(2, .bool false)] [] E (by kernel_rfl) trivial ?_
              clear E; intro a E
              refine wpList_nil ?_
              refine th_n ?_
              refine wp_ret ?_
              refine bl_ret ?_
              refine th_ret ?_
              refine th_ret ?_
              refine .inr ⟨rfl, ?_⟩
              refine bl_ret ?_
              refine th_ret ?_
              have hx_ := Option.some.inj hP; subst hx_
              have hP : some (false) = some r := hK44
              obtain rfl := Option.some.inj hP
              refine ret1 E rfl rfl ?_
              exact ⟨_, rfl, rfl, H.sel [] rfl⟩
             ·
              replace E := E_; clear E_
              have h65 : ¬ (57 < (sb s x18)) := of_decide_eq_false hb_
              clear hb_; replace hP := ite_f h65 hP
              refine c_false E rfl ?_
              refine wp_skip ?_
              refine bl_n ?_
              refine th_n ?_
              refine wp_region_lit ?_
              obtain ⟨g66, hP⟩ := ask_inv hP
              refine vr tbok 2 [.int .i64 (x18 + 1)] [(0, .string s), (26, .int .i64 ((s.size : Nat) : Int)), (27, .int .i64 (x18 + 1)), (36, .int .u8 (sb s x18)), (37, .bool (decide (122 < (sb s x18)))), (40, .int .i64 x18), (41, .bool ((x18 : Int) == 0)), (42, .bool false), (43, .int .u8 (sb s x18)), (44, .bool (decide ((sb s x18) < 48))), (45, .bool (decide ((sb s x18) < 48))), (46, .bool false), (47, .int .u8 (sb s x18)), (48, .bool (decide (57 < (sb s x18)))), (49, .bool (decide (57 < (sb s x18))))] [IntKind.i64.wrap (x18 + 1) = x18 + 1] E (by kernel_rfl) (wrap_in g66) ?_
              clear E; intro a E
              refine wpList_nil ?_
              exact th_n ⟨m41, Nat.lt_succ_self _, x18 + 1, E.pick _ ⟨rfl, rfl, rfl, trivial⟩, H.sel [] rfl, hP⟩
          ·
           replace E := E_; clear E_
           have h67 : ¬ (122 < (sb s x18)) := of_decide_eq_false hb_
           clear hb_; replace hP := ite_f h67 hP
           refine vr tbok 11 [] [(0, .string s), (26, .int .i64 ((s.size : Nat) : Int)), (27, .int .i64 x18), (36, .int .u8 (sb s x18)), (37, .bool (decide (122 < (sb s x18)))), (40, .tuple #[]), (41, .tuple #[]), (42, .tuple #[]), (43, .tuple #[]), (44, .tuple #[]), (45, .tuple #[]), (46, .tuple #[]), (47, .tuple #[]), (48, .tuple #[]), (49, .tuple #[]), (50, .bool false)] [] E (by kernel_rfl) trivial ?_
           clear E; intro a E
           refine wpList_nil ?_
           refine th_n ?_
           refine c_false E rfl ?_
           refine wp_skip ?_
           refine bl_n ?_
           refine th_n ?_
           refine wp_region_lit ?_
           obtain ⟨g68, hP⟩ := ask_inv hP
           refine vr tbok 2 [.int .i64 (x18 + 1)] [(0, .string s), (26, .int .i64 ((s.size : Nat) : Int)), (27, .int .i64 (x18 + 1)), (36, .int .u8 (sb s x18)), (37, .bool (decide (122 < (sb s x18)))), (40, .tuple #[]), (41, .tuple #[]), (42, .tuple #[]), (43, .tuple #[]), (44, .tuple #[]), (45, .tuple #[]), (46, .tuple #[]), (47, .tuple #[]), (48, .tuple #[]), (49, .tuple #[])] [IntKind.i64.wrap (x18 + 1) = x18 + 1] E (by kernel_rfl) (wrap_in g68) ?_
           clear E; intro a E
           refine wpList_nil ?_
           exact th_n ⟨m41, Nat.lt_succ_self _, x18 + 1, E.pick _ ⟨rfl, rfl, rfl, trivial⟩, H.sel [] rfl, hP⟩
        ·
         replace E := E_; clear E_
         have h69 : ¬ (x18 < ((s.size : Nat) : Int)) := of_decide_eq_false hb_
         clear hb_; replace hP := ite_f h69 hP
         refine c_false E rfl ?_
         refine wp_exit ?_
         refine th_exit ?_
         have hx_ := Option.some.inj hP
         refine th_exit (.inl ⟨0, rfl, ?_⟩)
         exact ⟨rfl, (), E.pick _ trivial, H.sel [] rfl, hx_.symm⟩
      ·
       clear E H hL43; intro i_ a w45 hM_
       obtain ⟨rfl, x47, E, H, hx_⟩ := hM_
       subst hx_; have hP := elim_l hK44
       clear hK44
       refine bl_hit ?_
       refine th_n ?_
       refine wp_seq ?_
       refine wp_region_lit ?_
       refine vr tbok 1 [] [(2, .bool true)] [] E (by kernel_rfl) trivial ?_
       clear E; intro a E
       refine wpList_nil ?_
       refine th_n ?_
       refine wp_ret ?_
       obtain rfl := Option.some.inj hP
       refine ret1 E rfl rfl ?_
       exact ⟨_, rfl, rfl, H.sel [] rfl⟩

/-! rejoinder/letter.Check -/
def letter_Check_l0 (N : Nat) (names : List ByteArray) : Nat → (List (ByteArray × Bool)) → Int → Option (Unit ⊕ Int)
  | 0, _, _ => none
  | m59 + 1, met34, x35 =>
    if x35 < (((List.length names) : Nat) : Int) then
      ask (idx x35 (List.length names)) <|
      Option.bind (letter_Name N (List.getD names (Int.toNat x35) (⟨#[]⟩ : ByteArray))) fun r70 =>
      if r70 = true then
        ask (strOk (List.getD names (Int.toNat x35) (⟨#[]⟩ : ByteArray))) <|
        if (Option.getD (mget met34 (List.getD names (Int.toNat x35) (⟨#[]⟩ : ByteArray))) false) = true then
          some (Sum.inr 5)
        else
          ask (mget met34 (List.getD names (Int.toNat x35) (⟨#[]⟩ : ByteArray)) = none) <|
          ask (in64 (x35 + 1)) <|
          letter_Check_l0 N names m59 (met34 ++ [((List.getD names (Int.toNat x35) (⟨#[]⟩ : ByteArray)), true)]) (x35 + 1)
      else
        some (Sum.inr 4)
    else
      some (Sum.inl ())
def letter_Check (N : Nat) (names : List ByteArray) : Option Int :=
  if 8 < (((List.length names) : Nat) : Int) then
    some 3
  else
    Option.bind (letter_Check_l0 N names N ([] : List (ByteArray × Bool)) 0) fun x60 =>
    Sum.elim (fun x65 =>
      some 0)
     (fun x89 =>
      some x89) x60
set_option maxRecDepth 100000 in
set_option maxHeartbeats 4000000 in
theorem letter_Check_calls {N : Nat} {S Fa : Nat → Prop} {w0 : World} {r : Int} (A1 : Option Addr) (c2 : Nat) (names : List ByteArray) (hk3 : List.length names ≤ c2) (H : Hp S Fa w0 w0 [.ro false cStr A1 names]) (hP : letter_Check N names = some r) :
    Calls Try.prog 52 #[.slice A1 (List.length names) c2] w0 fun e w' => ∃ v, e = .returned v ∧ v = .int .i64 r ∧ Hp S Fa w0 w' [] := by
 refine enterV (n := 25) Try.func52 rfl rfl rfl ?_
 intro a E
 replace E := E.pick [(0, .slice A1 (List.length names) c2)] ⟨rfl, trivial⟩
 rw [letter_Check] at hP
 refine wp_seq ?_
 refine wp_region_lit ?_
 refine vr tbok 1 [] [(0, .slice A1 (List.length names) c2)] [] E (by kernel_rfl) trivial ?_
 clear E; intro a E
 refine wpList_nil ?_
 refine th_n ?_
 refine wp_seq ?_
 refine wp_seq ?_
 refine wp_region_lit ?_
 refine vr tbok 3 [] [(0, .slice A1 (List.length names) c2), (8, .bool (decide (8 < (((List.length names) : Nat) : Int))))] [] E (by kernel_rfl) trivial ?_
 clear E; intro a E
 refine wpList_nil ?_
 refine th_n ?_
 refine E.cases (t := 8) rfl (fun hb_ E_ => ?_) (fun hb_ E_ => ?_)
 ·
  replace E := E_; clear E_
  have h5 : 8 < (((List.length names) : Nat) : Int) := of_decide_eq_true hb_
  clear hb_; replace hP := ite_t h5 hP
  refine c_true E rfl ?_
  refine wp_seq ?_
  refine wp_region_lit ?_
  refine vr tbok 1 [] [(2, .int .i64 3)] [] E (by kernel_rfl) trivial ?_
  clear E; intro a E
  refine wpList_nil ?_
  refine th_n ?_
  refine wp_ret ?_
  refine th_ret ?_
  obtain rfl := Option.some.inj hP
  refine ret1 E rfl rfl ?_
  exact ⟨_, rfl, rfl, H.sel [] rfl⟩
 ·
  replace E := E_; clear E_
  have h6 : ¬ (8 < (((List.length names) : Nat) : Int)) := of_decide_eq_false hb_
  clear hb_; replace hP := ite_f h6 hP
  refine c_false E rfl ?_
  refine wp_skip ?_
  refine th_n ?_
  refine wp_seq ?_
  refine wp_region_lit ?_
  refine h_makeMap (P := Try.prog) (k0 := 9) H E rfl rfl ?_
  intro w8 g7 a hc9 hg10 H_ E_
  replace E := E_ _ rfl; clear E_
  replace H := H_; clear H_; try dsimp only [setn, addE, goneL] at H
  refine vr tbok 1 [] [(0, .slice A1 (List.length names) c2), (3, .map (some g7))] [] E (by kernel_rfl) trivial ?_
  clear E; intro a E
  refine wpList_nil ?_
  refine th_n ?_
  refine wp_seq ?_
  refine wp_seq ?_
  refine wp_region_lit ?_
  refine vr tbok 3 [] [(3, .map (some g7)), (10, .slice A1 (List.length names) c2), (11, .int .i64 (((List.length names) : Nat) : Int)), (12, .int .i64 0)] [] E (by kernel_rfl) trivial ?_
  clear E; intro a E
  refine wpList_nil ?_
  refine th_n ?_
  refine wp_block ?_
  obtain ⟨x60, hL61, hK62⟩ := bind_inv hP
  clear hP
  refine loop_cut (fun i_ a w_ => (i_ = 0 ∧ ∃ (x65 : Unit), Fr a 25 [] ∧ Hp S Fa w0 w_ [] ∧ x60 = Sum.inl x65)) ?_ ?_
  ·
   refine loopV (fun m64 a w63 => ∃ (met34 : List (ByteArray × Bool)) (x35 : Int), Fr a 25 [(3, .map (some g7)), (10, .slice A1 (List.length names) c2), (11, .int .i64 (((List.length names) : Nat) : Int)), (12, .int .i64 x35)] ∧ Hp S Fa w0 w63 [.mp Try.prog 9 g7 (List.map (fun p_ => ((fun x_ : ByteArray => .string x_) p_.1, (fun u_ : Bool => .bool u_) p_.2)) met34), .ro false cStr A1 names] ∧ letter_Check_l0 N names m64 met34 x35 = some x60) N ?_ ?_
   ·
    exact ⟨([] : List (ByteArray × Bool)), 0, E.pick _ ⟨rfl, rfl, rfl, rfl, trivial⟩, H.sel [1, 0] rfl, hL61⟩
   ·
    clear E H hL61; intro m64 a w63 hI_
    obtain ⟨met34, x35, E, H, hP⟩ := hI_
    obtain ⟨m59, rfl⟩ : ∃ q_, m64 = q_ + 1 := by cases m64 with | zero => rw [letter_Check_l0] at hP; cases hP | succ q_ => exact ⟨q_, rfl⟩
    rw [letter_Check_l0] at hP
    refine wp_seq ?_
    refine wp_region_lit ?_
    refine vr tbok 1 [] [(3, .map (some g7)), (10, .slice A1 (List.length names) c2), (11, .int .i64 (((List.length names) : Nat) : Int)), (12, .int .i64 x35), (13, .bool (decide (x35 < (((List.length names) : Nat) : Int))))] [] E (by kernel_rfl) trivial ?_
    clear E; intro a E
    refine wpList_nil ?_
    refine th_n ?_
    refine wp_seq ?_
    refine E.cases (t := 13) rfl (fun hb_ E_ => ?_) (fun hb_ E_ => ?_)
    ·
     replace E := E_; clear E_
     have h66 : x35 < (((List.length names) : Nat) : Int) := of_decide_eq_true hb_
     clear hb_; replace hP := ite_t h66 hP
     refine c_true E rfl ?_
     refine wp_skip ?_
     refine th_n ?_
     refine wp_seq ?_
     refine wp_block ?_
     refine wp_seq ?_
     refine wp_region_lit ?_
     obtain ⟨g67, hP⟩ := ask_inv hP
     obtain ⟨b68, o69, e_b68⟩ := (H.rd 1 rds_ro).addr (idx_pos g67)
     subst e_b68
     refine vr tbok 3 [.string (List.getD names (Int.toNat x35) (⟨#[]⟩ : ByteArray))] [(3, .map (some g7)), (5, .string (List.getD names (Int.toNat x35) (⟨#[]⟩ : ByteArray))), (10, .slice (some ⟨b68, o69, none⟩) (List.length names) c2), (11, .int .i64 (((List.length names) : Nat) : Int)), (12, .int .i64 x35)] [0 ≤ x35 ∧ x35 < (((List.length names) : Nat) : Int), World.cell? w63 ⟨b68, o69 + (Int.toNat x35) * 1, none⟩ = some (.string (List.getD names (Int.toNat x35) (⟨#[]⟩ : ByteArray)))] E (by kernel_rfl) ⟨g67, Rds.at1 (H.rd 1 rds_ro) (⟨#[]⟩ : ByteArray) g67⟩ ?_
     clear E; intro a E
     refine wpList_nil ?_
     refine th_n ?_
     refine wp_seq ?_
     refine wp_seq ?_
     refine wp_region_lit ?_
     refine vr tbok 1 [] [(3, .map (some g7)), (5, .string (List.getD names (Int.toNat x35) (⟨#[]⟩ : ByteArray))), (10, .slice (some ⟨b68, o69, none⟩) (List.length names) c2), (11, .int .i64 (((List.length names) : Nat) : Int)), (12, .int .i64 x35), (16, .string (List.getD names (Int.toNat x35) (⟨#[]⟩ : ByteArray)))] [] E (by kernel_rfl) trivial ?_
     clear E; intro a E
     obtain ⟨r70, h71, hP⟩ := bind_inv hP
     obtain ⟨Fa72, Hc73, hb74⟩ := H.call [] [] rfl rfl trivial
     refine e_call E rfl rfl Try.func60 rfl rfl rfl (letter_Name_calls  (List.getD names (Int.toNat x35) (⟨#[]⟩ : ByteArray))  Hc73 h71) ?_
     rintro v75 w76 a ⟨rfl, HR77⟩ E_
     replace E := E_ _ rfl; clear E_
     obtain ⟨H_, hc78⟩ := hb74 _ _ HR77 rfl
     replace H := H_; clear H_; try dsimp only [setn, addE, goneL] at H
     refine vr tbok 1 [] [(3, .map (some g7)), (5, .string (List.getD names (Int.toNat x35) (⟨#[]⟩ : ByteArray))), (10, .slice (some ⟨b68, o69, none⟩) (List.length names) c2), (11, .int .i64 (((List.length names) : Nat) : Int)), (12, .int .i64 x35), (18, .bool (!r70))] [] E (by kernel_rfl) trivial ?_
     clear E; intro a E
     refine wpList_nil ?_
     refine th_n ?_
     refine E.cases (t := 18) rfl (fun hb_ E_ => ?_) (fun hb_ E_ => ?_)
     ·
      replace E := E_; clear E_
      have h79 : ¬ (r70 = true) := (ne_true_of_eq_false (not_t hb_))
      clear hb_; replace hP := ite_f h79 hP
      refine c_true E rfl ?_
      refine wp_seq ?_
      refine wp_region_lit ?_
      refine vr tbok 1 [] [(2, .int .i64 4)] [] E (by kernel_rfl) trivial ?_
      clear E; intro a E
      refine wpList_nil ?_
      refine th_n ?_
      refine wp_ret ?_
      refine th_ret ?_
      refine bl_ret ?_
      refine th_ret ?_
      refine th_ret ?_
      refine .inr ⟨rfl, ?_⟩
      refine bl_ret ?_
      refine th_ret ?_
      have hx_ := Option.some.inj hP; subst hx_
      have hP : some (4) = some r := hK62
      obtain rfl := Option.some.inj hP
      refine ret1 E rfl rfl ?_
      exact ⟨_, rfl, rfl, H.sel [] rfl⟩
     ·
      replace E := E_; clear E_
      have h80 : r70 = true := (not_f hb_)
      clear hb_; replace hP := ite_t h80 hP
      refine c_false E rfl ?_
      refine wp_skip ?_
      refine th_n ?_
      refine wp_seq ?_
      refine wp_seq ?_
      refine wp_region_lit ?_
      refine vr tbok 2 [] [(3, .map (some g7)), (5, .string (List.getD names (Int.toNat x35) (⟨#[]⟩ : ByteArray))), (10, .slice (some ⟨b68, o69, none⟩) (List.length names) c2), (11, .int .i64 (((List.length names) : Nat) : Int)), (12, .int .i64 x35), (19, .map (some g7)), (20, .string (List.getD names (Int.toNat x35) (⟨#[]⟩ : ByteArray)))] [] E (by kernel_rfl) trivial ?_
      clear E; intro a E
      obtain ⟨g81, hP⟩ := ask_inv hP
      refine h_lookup1 (fun x_ : ByteArray => .string x_) (fun u_ : Bool => .bool u_) (List.getD names (Int.toNat x35) (⟨#[]⟩ : ByteArray)) false H 0 rfl E rfl rfl tbok rfl rfl (kStr Try.underlying9) rfl rfl rfl g81 (fun _ => ⟨_, rfl⟩) ?_
      clear E; intro a E_; replace E := E_ _ rfl; clear E_
      refine wpList_nil ?_
      refine th_n ?_
      refine E.cases (t := 21) rfl (fun hb_ E_ => ?_) (fun hb_ E_ => ?_)
      ·
       replace E := E_; clear E_
       have h82 : (Option.getD (mget met34 (List.getD names (Int.toNat x35) (⟨#[]⟩ : ByteArray))) false) = true := hb_
       clear hb_; replace hP := ite_t h82 hP
       refine c_true E rfl ?_
       refine wp_seq ?_
       refine wp_region_lit ?_
       refine vr tbok 1 [] [(2, .int .i64 5)] [] E (by kernel_rfl) trivial ?_
       clear E; intro a E
       refine wpList_nil ?_
       refine th_n ?_
       refine wp_ret ?_
       refine th_ret ?_
       refine bl_ret ?_
       refine th_ret ?_
       refine th_ret ?_
       refine .inr ⟨rfl, ?_⟩
       refine bl_ret ?_
       refine th_ret ?_
       have hx_ := Option.some.inj hP; subst hx_
       have hP : some (5) = some r := hK62
       obtain rfl := Option.some.inj hP
       refine ret1 E rfl rfl ?_
       exact ⟨_, rfl, rfl, H.sel [] rfl⟩
      ·
       replace E := E_; clear E_
       have h83 : ¬ ((Option.getD (mget met34 (List.getD names (Int.toNat x35) (⟨#[]⟩ : ByteArray))) false) = true) := (ne_true_of_eq_false hb_)
       clear hb_; replace hP := ite_f h83 hP
       refine c_false E rfl ?_
       refine wp_skip ?_
       refine th_n ?_
       refine wp_region_lit ?_
       refine vr tbok 2 [] [(3, .map (some g7)), (10, .slice (some ⟨b68, o69, none⟩) (List.length names) c2), (11, .int .i64 (((List.length names) : Nat) : Int)), (12, .int .i64 x35), (22, .map (some g7)), (23, .string (List.getD names (Int.toNat x35) (⟨#[]⟩ : ByteArray)))] [] E (by kernel_rfl) trivial ?_
       clear E; intro a E
       obtain ⟨g84, hP⟩ := ask_inv hP
       refine h_mapUpdate (fun x_ : ByteArray => .string x_) (fun u_ : Bool => .bool u_) (List.getD names (Int.toNat x35) (⟨#[]⟩ : ByteArray)) true H 0 rfl E rfl rfl tbok rfl (kStr Try.underlying9) rfl rfl rfl g81 g84 rfl ?_
       clear E; intro w85 a hc86 H_ E
       replace H := H_; clear H_; try dsimp only [setn, addE, goneL] at H
       refine wpList_nil ?_
       refine bl_n ?_
       refine th_n ?_
       refine wp_region_lit ?_
       obtain ⟨g87, hP⟩ := ask_inv hP
       refine vr tbok 2 [.int .i64 (x35 + 1)] [(3, .map (some g7)), (10, .slice (some ⟨b68, o69, none⟩) (List.length names) c2), (11, .int .i64 (((List.length names) : Nat) : Int)), (12, .int .i64 (x35 + 1))] [IntKind.i64.wrap (x35 + 1) = x35 + 1] E (by kernel_rfl) (wrap_in g87) ?_
       clear E; intro a E
       refine wpList_nil ?_
       exact th_n ⟨m59, Nat.lt_succ_self _, met34 ++ [((List.getD names (Int.toNat x35) (⟨#[]⟩ : ByteArray)), true)], x35 + 1, E.pick _ ⟨rfl, rfl, rfl, rfl, trivial⟩, H.sel [0, 1] rfl, hP⟩
    ·
     replace E := E_; clear E_
     have h88 : ¬ (x35 < (((List.length names) : Nat) : Int)) := of_decide_eq_false hb_
     clear hb_; replace hP := ite_f h88 hP
     refine c_false E rfl ?_
     refine wp_exit ?_
     refine th_exit ?_
     have hx_ := Option.some.inj hP
     refine th_exit (.inl ⟨0, rfl, ?_⟩)
     exact ⟨rfl, (), E.pick _ trivial, H.sel [] rfl, hx_.symm⟩
  ·
   clear E H hL61; intro i_ a w63 hM_
   obtain ⟨rfl, x65, E, H, hx_⟩ := hM_
   subst hx_; have hP := elim_l hK62
   clear hK62
   refine bl_hit ?_
   refine th_n ?_
   refine wp_seq ?_
   refine wp_region_lit ?_
   refine vr tbok 1 [] [(2, .int .i64 0)] [] E (by kernel_rfl) trivial ?_
   clear E; intro a E
   refine wpList_nil ?_
   refine th_n ?_
   refine wp_ret ?_
   obtain rfl := Option.some.inj hP
   refine ret1 E rfl rfl ?_
   exact ⟨_, rfl, rfl, H.sel [] rfl⟩

/-! slices.Index[[]string,string] -/
def slices_Index_string_string_l0 (N : Nat) (s : List ByteArray) (vv : ByteArray) : Nat → Int → Option (Unit ⊕ Int)
  | 0, _ => none
  | m21 + 1, x12 =>
    if x12 < (((List.length s) : Nat) : Int) then
      ask (idx x12 (List.length s)) <|
      if (strEq vv (List.getD s (Int.toNat x12) (⟨#[]⟩ : ByteArray))) = true then
        some (Sum.inr x12)
      else
        ask (in64 (x12 + 1)) <|
        slices_Index_string_string_l0 N s vv m21 (x12 + 1)
    else
      some (Sum.inl ())
def slices_Index_string_string (N : Nat) (s : List ByteArray) (vv : ByteArray) : Option Int :=
  Option.bind (slices_Index_string_string_l0 N s vv N 0) fun x22 =>
  Sum.elim (fun x27 =>
    some (-1))
   (fun x36 =>
    some x36) x22
set_option maxRecDepth 100000 in
set_option maxHeartbeats 4000000 in
theorem slices_Index_string_string_calls {N : Nat} {S Fa : Nat → Prop} {w0 : World} {r : Int} (A1 : Option Addr) (c2 : Nat) (s : List ByteArray) (vv : ByteArray) (hk3 : List.length s ≤ c2) (H : Hp S Fa w0 w0 [.ro false cStr A1 s]) (hP : slices_Index_string_string N s vv = some r) :
    Calls Try.prog 53 #[.slice A1 (List.length s) c2, .string vv] w0 fun e w' => ∃ v, e = .returned v ∧ v = .int .i64 r ∧ Hp S Fa w0 w' [] := by
 refine enterV (n := 19) Try.func53 rfl rfl rfl ?_
 intro a E
 replace E := E.pick [(0, .slice A1 (List.length s) c2), (1, .string vv)] ⟨rfl, rfl, trivial⟩
 rw [slices_Index_string_string] at hP
 refine wp_seq ?_
 refine wp_region_lit ?_
 refine vr tbok 1 [] [(0, .slice A1 (List.length s) c2), (1, .string vv)] [] E (by kernel_rfl) trivial ?_
 clear E; intro a E
 refine wpList_nil ?_
 refine th_n ?_
 refine wp_seq ?_
 refine wp_seq ?_
 refine wp_region_lit ?_
 refine vr tbok 3 [] [(0, .slice A1 (List.length s) c2), (1, .string vv), (7, .int .i64 (((List.length s) : Nat) : Int)), (8, .int .i64 0)] [] E (by kernel_rfl) trivial ?_
 clear E; intro a E
 refine wpList_nil ?_
 refine th_n ?_
 refine wp_block ?_
 obtain ⟨x22, hL23, hK24⟩ := bind_inv hP
 clear hP
 refine loop_cut (fun i_ a w_ => (i_ = 0 ∧ ∃ (x27 : Unit), Fr a 19 [] ∧ Hp S Fa w0 w_ [] ∧ x22 = Sum.inl x27)) ?_ ?_
 ·
  refine loopV (fun m26 a w25 => ∃ (x12 : Int), Fr a 19 [(0, .slice A1 (List.length s) c2), (1, .string vv), (7, .int .i64 (((List.length s) : Nat) : Int)), (8, .int .i64 x12)] ∧ Hp S Fa w0 w25 [.ro false cStr A1 s] ∧ slices_Index_string_string_l0 N s vv m26 x12 = some x22) N ?_ ?_
  ·
   exact ⟨0, E.pick _ ⟨rfl, rfl, rfl, rfl, trivial⟩, H.sel [0] rfl, hL23⟩
  ·
   clear E H hL23; intro m26 a w25 hI_
   obtain ⟨x12, E, H, hP⟩ := hI_
   obtain ⟨m21, rfl⟩ : ∃ q_, m26 = q_ + 1 := by cases m26 with | zero => rw [slices_Index_string_string_l0] at hP; cases hP | succ q_ => exact ⟨q_, rfl⟩
   rw [slices_Index_string_string_l0] at hP
   refine wp_seq ?_
   refine wp_region_lit ?_
   refine vr tbok 1 [] [(0, .slice A1 (List.length s) c2), (1, .string vv), (7, .int .i64 (((List.length s) : Nat) : Int)), (8, .int .i64 x12), (9, .bool (decide (x12 < (((List.length s) : Nat) : Int))))] [] E (by kernel_rfl) trivial ?_
   clear E; intro a E
   refine wpList_nil ?_
   refine th_n ?_
   refine wp_seq ?_
   refine E.cases (t := 9) rfl (fun hb_ E_ => ?_) (fun hb_ E_ => ?_)
   ·
    replace E := E_; clear E_
    have h28 : x12 < (((List.length s) : Nat) : Int) := of_decide_eq_true hb_
    clear hb_; replace hP := ite_t h28 hP
    refine c_true E rfl ?_
    refine wp_skip ?_
    refine th_n ?_
    refine wp_seq ?_
    refine wp_block ?_
    refine wp_seq ?_
    refine wp_region_lit ?_
    refine vr tbok 2 [] [(0, .slice A1 (List.length s) c2), (1, .string vv), (5, .int .i64 x12), (7, .int .i64 (((List.length s) : Nat) : Int)), (8, .int .i64 x12)] [] E (by kernel_rfl) trivial ?_
    clear E; intro a E
    refine wpList_nil ?_
    refine th_n ?_
    refine wp_seq ?_
    refine wp_region_lit ?_
    obtain ⟨g29, hP⟩ := ask_inv hP
    obtain ⟨b30, o31, e_b30⟩ := (H.rd 0 rds_ro).addr (idx_pos g29)
    subst e_b30
    refine vr tbok 5 [.string (List.getD s (Int.toNat x12) (⟨#[]⟩ : ByteArray))] [(0, .slice (some ⟨b30, o31, none⟩) (List.length s) c2), (1, .string vv), (5, .int .i64 x12), (7, .int .i64 (((List.length s) : Nat) : Int)), (8, .int .i64 x12), (11, .string vv), (15, .string (List.getD s (Int.toNat x12) (⟨#[]⟩ : ByteArray)))] [0 ≤ x12 ∧ x12 < (((List.length s) : Nat) : Int), World.cell? w25 ⟨b30, o31 + (Int.toNat x12) * 1, none⟩ = some (.string (List.getD s (Int.toNat x12) (⟨#[]⟩ : ByteArray)))] E (by kernel_rfl) ⟨g29, Rds.at1 (H.rd 0 rds_ro) (⟨#[]⟩ : ByteArray) g29⟩ ?_
    clear E; intro a E
    refine e_eqStr E rfl rfl tbok rfl rfl rfl rfl ?_
    clear E; intro a E
    refine wpList_nil ?_
    refine th_n ?_
    refine E.cases (t := 16) rfl (fun hb_ E_ => ?_) (fun hb_ E_ => ?_)
    ·
     replace E := E_; clear E_
     have h32 : (strEq vv (List.getD s (Int.toNat x12) (⟨#[]⟩ : ByteArray))) = true := hb_
     clear hb_; replace hP := ite_t h32 hP
     refine c_true E rfl ?_
     refine wp_seq ?_
     refine wp_region_lit ?_
     refine vr tbok 2 [] [(4, .int .i64 x12)] [] E (by kernel_rfl) trivial ?_
     clear E; intro a E
     refine wpList_nil ?_
     refine th_n ?_
     refine wp_ret ?_
     refine bl_ret ?_
     refine th_ret ?_
     refine th_ret ?_
     refine .inr ⟨rfl, ?_⟩
     refine bl_ret ?_
     refine th_ret ?_
     have hx_ := Option.some.inj hP; subst hx_
     have hP : some (x12) = some r := hK24
     obtain rfl := Option.some.inj hP
     refine ret1 E rfl rfl ?_
     exact ⟨_, rfl, rfl, H.sel [] rfl⟩
    ·
     replace E := E_; clear E_
     have h33 : ¬ ((strEq vv (List.getD s (Int.toNat x12) (⟨#[]⟩ : ByteArray))) = true) := (ne_true_of_eq_false hb_)
     clear hb_; replace hP := ite_f h33 hP
     refine c_false E rfl ?_
     refine wp_skip ?_
     refine bl_n ?_
     refine th_n ?_
     refine wp_region_lit ?_
     obtain ⟨g34, hP⟩ := ask_inv hP
     refine vr tbok 2 [.int .i64 (x12 + 1)] [(0, .slice (some ⟨b30, o31, none⟩) (List.length s) c2), (1, .string vv), (7, .int .i64 (((List.length s) : Nat) : Int)), (8, .int .i64 (x12 + 1))] [IntKind.i64.wrap (x12 + 1) = x12 + 1] E (by kernel_rfl) (wrap_in g34) ?_
     clear E; intro a E
     refine wpList_nil ?_
     exact th_n ⟨m21, Nat.lt_succ_self _, x12 + 1, E.pick _ ⟨rfl, rfl, rfl, rfl, trivial⟩, H.sel [0] rfl, hP⟩
   ·
    replace E := E_; clear E_
    have h35 : ¬ (x12 < (((List.length s) : Nat) : Int)) := of_decide_eq_false hb_
    clear hb_; replace hP := ite_f h35 hP
    refine c_false E rfl ?_
    refine wp_exit ?_
    refine th_exit ?_
    have hx_ := Option.some.inj hP
    refine th_exit (.inl ⟨0, rfl, ?_⟩)
    exact ⟨rfl, (), E.pick _ trivial, H.sel [] rfl, hx_.symm⟩
 ·
  clear E H hL23; intro i_ a w25 hM_
  obtain ⟨rfl, x27, E, H, hx_⟩ := hM_
  subst hx_; have hP := elim_l hK24
  clear hK24
  refine bl_hit ?_
  refine th_n ?_
  refine wp_seq ?_
  refine wp_region_lit ?_
  refine vr tbok 1 [] [(4, .int .i64 (-1))] [] E (by kernel_rfl) trivial ?_
  clear E; intro a E
  refine wpList_nil ?_
  refine th_n ?_
  refine wp_ret ?_
  obtain rfl := Option.some.inj hP
  refine ret1 E rfl rfl ?_
  exact ⟨_, rfl, rfl, H.sel [] rfl⟩

/-! rejoinder/letter.Of -/
def letter_Of_l0 (N : Nat) (names : List ByteArray) (on : List ByteArray) : Nat → Int → Int → Option (Int ⊕ (Int × Int))
  | 0, _, _ => none
  | m58 + 1, l37, x38 =>
    if x38 < (((List.length on) : Nat) : Int) then
      ask (idx x38 (List.length on)) <|
      Option.bind (slices_Index_string_string N names (List.getD on (Int.toNat x38) (⟨#[]⟩ : ByteArray))) fun r69 =>
      if r69 < 0 then
        some (Sum.inr (0, 6))
      else
        ask (0 ≤ r69) <|
        ask (in64 (x38 + 1)) <|
        letter_Of_l0 N names on m58 (orV .u8 l37 (shlV .u8 1 r69)) (x38 + 1)
    else
      some (Sum.inl l37)
def letter_Of (N : Nat) (names : List ByteArray) (on : List ByteArray) : Option (Int × Int) :=
  Option.bind (letter_Check N names) fun r9 =>
  if (r9 : Int) = 0 then
    Option.bind (letter_Of_l0 N names on N 0 0) fun x59 =>
    Sum.elim (fun x64 =>
      some (x64, 0))
     (fun x83 =>
      some x83) x59
  else
    some (0, r9)
set_option maxRecDepth 100000 in
set_option maxHeartbeats 4000000 in
theorem letter_Of_calls {N : Nat} {S Fa : Nat → Prop} {w0 : World} {r : Int × Int} (A1 : Option Addr) (c2 : Nat) (A5 : Option Addr) (c6 : Nat) (names : List ByteArray) (on : List ByteArray) (hk3 : List.length names ≤ c2) (hk7 : List.length on ≤ c6) (H : Hp S Fa w0 w0 [.ro false cStr A1 names, .ro false cStr A5 on]) (hP : letter_Of N names on = some r) :
    Calls Try.prog 37 #[.slice A1 (List.length names) c2, .slice A5 (List.length on) c6] w0 fun e w' => ∃ v, e = .returned v ∧ v = .tuple #[.int .u8 r.1, .int .i64 r.2] ∧ Hp S Fa w0 w' [] := by
 refine enterV (n := 33) Try.func37 rfl rfl rfl ?_
 intro a E
 replace E := E.pick [(0, .slice A1 (List.length names) c2), (1, .slice A5 (List.length on) c6)] ⟨rfl, rfl, trivial⟩
 rw [letter_Of] at hP
 refine wp_seq ?_
 refine wp_region_lit ?_
 refine vr tbok 2 [] [(0, .slice A1 (List.length names) c2), (1, .slice A5 (List.length on) c6)] [] E (by kernel_rfl) trivial ?_
 clear E; intro a E
 refine wpList_nil ?_
 refine th_n ?_
 refine wp_seq ?_
 refine wp_seq ?_
 refine wp_region_lit ?_
 refine vr tbok 1 [] [(0, .slice A1 (List.length names) c2), (1, .slice A5 (List.length on) c6), (11, .slice A1 (List.length names) c2)] [] E (by kernel_rfl) trivial ?_
 clear E; intro a E
 obtain ⟨r9, h10, hP⟩ := bind_inv hP
 obtain ⟨Fa11, Hc12, hb13⟩ := H.call [] [(0, false)] rfl rfl trivial
 refine e_call E rfl rfl Try.func52 rfl rfl rfl (letter_Check_calls A1 c2 names hk3 Hc12 h10) ?_
 rintro v14 w15 a ⟨rfl, HR16⟩ E_
 replace E := E_ _ rfl; clear E_
 obtain ⟨H_, hc17⟩ := hb13 _ _ HR16 rfl
 replace H := H_; clear H_; try dsimp only [setn, addE, goneL] at H
 refine vr tbok 1 [] [(0, .slice A1 (List.length names) c2), (1, .slice A5 (List.length on) c6), (6, .int .i64 r9)] [] E (by kernel_rfl) trivial ?_
 clear E; intro a E
 refine wpList_nil ?_
 refine th_n ?_
 refine wp_seq ?_
 refine wp_region_lit ?_
 refine vr tbok 2 [] [(0, .slice A1 (List.length names) c2), (1, .slice A5 (List.length on) c6), (6, .int .i64 r9), (14, .bool ((r9 : Int) != 0))] [] E (by kernel_rfl) trivial ?_
 clear E; intro a E
 refine wpList_nil ?_
 refine th_n ?_
 refine E.cases (t := 14) rfl (fun hb_ E_ => ?_) (fun hb_ E_ => ?_)
 ·
  replace E := E_; clear E_
  have h18 : ¬ ((r9 : Int) = 0) := bne_iff_ne.1 hb_
  clear hb_; replace hP := ite_f h18 hP
  refine c_true E rfl ?_
  refine wp_seq ?_
  refine wp_region_lit ?_
  refine vr tbok 3 [] [(4, .int .u8 0), (5, .int .i64 r9)] [] E (by kernel_rfl) trivial ?_
  clear E; intro a E
  refine wpList_nil ?_
  refine th_n ?_
  refine wp_ret ?_
  refine th_ret ?_
  obtain rfl := Option.some.inj hP
  refine ret2 E rfl rfl rfl ?_
  exact ⟨_, rfl, rfl, H.sel [] rfl⟩
 ·
  replace E := E_; clear E_
  have h19 : (r9 : Int) = 0 := bne_eq_false_iff_eq.1 hb_
  clear hb_; replace hP := ite_t h19 hP
  refine c_false E rfl ?_
  refine wp_skip ?_
  refine th_n ?_
  refine wp_seq ?_
  refine wp_region_lit ?_
  refine vr tbok 1 [] [(0, .slice A1 (List.length names) c2), (1, .slice A5 (List.length on) c6), (7, .int .u8 0)] [] E (by kernel_rfl) trivial ?_
  clear E; intro a E
  refine wpList_nil ?_
  refine th_n ?_
  refine wp_seq ?_
  refine wp_seq ?_
  refine wp_region_lit ?_
  refine vr tbok 3 [] [(0, .slice A1 (List.length names) c2), (7, .int .u8 0), (16, .slice A5 (List.length on) c6), (17, .int .i64 (((List.length on) : Nat) : Int)), (18, .int .i64 0)] [] E (by kernel_rfl) trivial ?_
  clear E; intro a E
  refine wpList_nil ?_
  refine th_n ?_
  refine wp_block ?_
  obtain ⟨x59, hL60, hK61⟩ := bind_inv hP
  clear hP
  refine loop_cut (fun i_ a w_ => (i_ = 0 ∧ ∃ (x64 : Int), Fr a 33 [(7, .int .u8 x64)] ∧ Hp S Fa w0 w_ [] ∧ x59 = Sum.inl x64)) ?_ ?_
  ·
   refine loopV (fun m63 a w62 => ∃ (l37 : Int) (x38 : Int), Fr a 33 [(0, .slice A1 (List.length names) c2), (7, .int .u8 l37), (16, .slice A5 (List.length on) c6), (17, .int .i64 (((List.length on) : Nat) : Int)), (18, .int .i64 x38)] ∧ Hp S Fa w0 w62 [.ro false cStr A1 names, .ro false cStr A5 on] ∧ letter_Of_l0 N names on m63 l37 x38 = some x59) N ?_ ?_
   ·
    exact ⟨0, 0, E.pick _ ⟨rfl, rfl, rfl, rfl, rfl, trivial⟩, H.sel [0, 1] rfl, hL60⟩
   ·
    clear E H hL60; intro m63 a w62 hI_
    obtain ⟨l37, x38, E, H, hP⟩ := hI_
    obtain ⟨m58, rfl⟩ : ∃ q_, m63 = q_ + 1 := by cases m63 with | zero => rw [letter_Of_l0] at hP; cases hP | succ q_ => exact ⟨q_, rfl⟩
    rw [letter_Of_l0] at hP
    refine wp_seq ?_
    refine wp_region_lit ?_
    refine vr tbok 1 [] [(0, .slice A1 (List.length names) c2), (7, .int .u8 l37), (16, .slice A5 (List.length on) c6), (17, .int .i64 (((List.length on) : Nat) : Int)), (18, .int .i64 x38), (19, .bool (decide (x38 < (((List.length on) : Nat) : Int))))] [] E (by kernel_rfl) trivial ?_
    clear E; intro a E
    refine wpList_nil ?_
    refine th_n ?_
    refine wp_seq ?_
    refine E.cases (t := 19) rfl (fun hb_ E_ => ?_) (fun hb_ E_ => ?_)
    ·
     replace E := E_; clear E_
     have h65 : x38 < (((List.length on) : Nat) : Int) := of_decide_eq_true hb_
     clear hb_; replace hP := ite_t h65 hP
     refine c_true E rfl ?_
     refine wp_skip ?_
     refine th_n ?_
     refine wp_seq ?_
     refine wp_block ?_
     refine wp_seq ?_
     refine wp_region_lit ?_
     obtain ⟨g66, hP⟩ := ask_inv hP
     obtain ⟨b67, o68, e_b67⟩ := (H.rd 1 rds_ro).addr (idx_pos g66)
     subst e_b67
     refine vr tbok 3 [.string (List.getD on (Int.toNat x38) (⟨#[]⟩ : ByteArray))] [(0, .slice A1 (List.length names) c2), (7, .int .u8 l37), (9, .string (List.getD on (Int.toNat x38) (⟨#[]⟩ : ByteArray))), (16, .slice (some ⟨b67, o68, none⟩) (List.length on) c6), (17, .int .i64 (((List.length on) : Nat) : Int)), (18, .int .i64 x38)] [0 ≤ x38 ∧ x38 < (((List.length on) : Nat) : Int), World.cell? w62 ⟨b67, o68 + (Int.toNat x38) * 1, none⟩ = some (.string (List.getD on (Int.toNat x38) (⟨#[]⟩ : ByteArray)))] E (by kernel_rfl) ⟨g66, Rds.at1 (H.rd 1 rds_ro) (⟨#[]⟩ : ByteArray) g66⟩ ?_
     clear E; intro a E
     refine wpList_nil ?_
     refine th_n ?_
     refine wp_seq ?_
     refine wp_region_lit ?_
     refine vr tbok 2 [] [(0, .slice A1 (List.length names) c2), (7, .int .u8 l37), (16, .slice (some ⟨b67, o68, none⟩) (List.length on) c6), (17, .int .i64 (((List.length on) : Nat) : Int)), (18, .int .i64 x38), (22, .slice A1 (List.length names) c2), (23, .string (List.getD on (Int.toNat x38) (⟨#[]⟩ : ByteArray)))] [] E (by kernel_rfl) trivial ?_
     clear E; intro a E
     obtain ⟨r69, h70, hP⟩ := bind_inv hP
     obtain ⟨Fa71, Hc72, hb73⟩ := H.call [] [(0, false)] rfl rfl trivial
     refine e_call E rfl rfl Try.func53 rfl rfl rfl (slices_Index_string_string_calls A1 c2 names (List.getD on (Int.toNat x38) (⟨#[]⟩ : ByteArray)) hk3 Hc72 h70) ?_
     rintro v74 w75 a ⟨rfl, HR76⟩ E_
     replace E := E_ _ rfl; clear E_
     obtain ⟨H_, hc77⟩ := hb73 _ _ HR76 rfl
     replace H := H_; clear H_; try dsimp only [setn, addE, goneL] at H
     refine vr tbok 1 [] [(0, .slice A1 (List.length names) c2), (7, .int .u8 l37), (10, .int .i64 r69), (16, .slice (some ⟨b67, o68, none⟩) (List.length on) c6), (17, .int .i64 (((List.length on) : Nat) : Int)), (18, .int .i64 x38)] [] E (by kernel_rfl) trivial ?_
     clear E; intro a E
     refine wpList_nil ?_
     refine th_n ?_
     refine wp_seq ?_
     refine wp_seq ?_
     refine wp_region_lit ?_
     refine vr tbok 2 [] [(0, .slice A1 (List.length names) c2), (7, .int .u8 l37), (10, .int .i64 r69), (16, .slice (some ⟨b67, o68, none⟩) (List.length on) c6), (17, .int .i64 (((List.length on) : Nat) : Int)), (18, .int .i64 x38), (26, .bool (decide (r69 < 0)))] [] E (by kernel_rfl) trivial ?_
     clear E; intro a E
     refine wpList_nil ?_
     refine th_n ?_
     refine E.cases (t := 26) rfl (fun hb_ E_ => ?_) (fun hb_ E_ => ?_)
     ·
      replace E := E_; clear E_
      have h78 : r69 < 0 := of_decide_eq_true hb_
      clear hb_; replace hP := ite_t h78 hP
      refine c_true E rfl ?_
      refine wp_seq ?_
      refine wp_region_lit ?_
      refine vr tbok 2 [] [(4, .int .u8 0), (5, .int .i64 6)] [] E (by kernel_rfl) trivial ?_
      clear E; intro a E
      refine wpList_nil ?_
      refine th_n ?_
      refine wp_ret ?_
      refine th_ret ?_
      refine bl_ret ?_
      refine th_ret ?_
      refine th_ret ?_
      refine .inr ⟨rfl, ?_⟩
      refine bl_ret ?_
      refine th_ret ?_
      have hx_ := Option.some.inj hP; subst hx_
      have hP : some ((0, 6)) = some r := hK61
      obtain rfl := Option.some.inj hP
      refine ret2 E rfl rfl rfl ?_
      exact ⟨_, rfl, rfl, H.sel [] rfl⟩
     ·
      replace E := E_; clear E_
      have h79 : ¬ (r69 < 0) := of_decide_eq_false hb_
      clear hb_; replace hP := ite_f h79 hP
      refine c_false E rfl ?_
      refine wp_skip ?_
      refine th_n ?_
      refine wp_region_lit ?_
      obtain ⟨g80, hP⟩ := ask_inv hP
      refine vr tbok 5 [.int .u8 (shlV .u8 1 r69), .int .u8 (orV .u8 l37 (shlV .u8 1 r69))] [(0, .slice A1 (List.length names) c2), (7, .int .u8 (orV .u8 l37 (shlV .u8 1 r69))), (16, .slice (some ⟨b67, o68, none⟩) (List.length on) c6), (17, .int .i64 (((List.length on) : Nat) : Int)), (18, .int .i64 x38)] [0 ≤ r69 ∧ IntKind.u8.wrap (1 * 2 ^ (min (Int.toNat r69) (IntKind.bits .u8))) = shlV .u8 1 r69, IntKind.u8.wrap (BitVec.ofInt (IntKind.bits .u8) l37 ||| BitVec.ofInt (IntKind.bits .u8) (shlV .u8 1 r69)).toNat = orV .u8 l37 (shlV .u8 1 r69)] E (by kernel_rfl) ⟨⟨g80, rfl⟩, rfl⟩ ?_
      clear E; intro a E
      refine wpList_nil ?_
      refine bl_n ?_
      refine th_n ?_
      refine wp_region_lit ?_
      obtain ⟨g81, hP⟩ := ask_inv hP
      refine vr tbok 2 [.int .i64 (x38 + 1)] [(0, .slice A1 (List.length names) c2), (7, .int .u8 (orV .u8 l37 (shlV .u8 1 r69))), (16, .slice (some ⟨b67, o68, none⟩) (List.length on) c6), (17, .int .i64 (((List.length on) : Nat) : Int)), (18, .int .i64 (x38 + 1))] [IntKind.i64.wrap (x38 + 1) = x38 + 1] E (by kernel_rfl) (wrap_in g81) ?_
      clear E; intro a E
      refine wpList_nil ?_
      exact th_n ⟨m58, Nat.lt_succ_self _, orV .u8 l37 (shlV .u8 1 r69), x38 + 1, E.pick _ ⟨rfl, rfl, rfl, rfl, rfl, trivial⟩, H.sel [0, 1] rfl, hP⟩
    ·
     replace E := E_; clear E_
     have h82 : ¬ (x38 < (((List.length on) : Nat) : Int)) := of_decide_eq_false hb_
     clear hb_; replace hP := ite_f h82 hP
     refine c_false E rfl ?_
     refine wp_exit ?_
     refine th_exit ?_
     have hx_ := Option.some.inj hP
     refine th_exit (.inl ⟨0, rfl, ?_⟩)
     exact ⟨rfl, l37, E.pick _ ⟨rfl, trivial⟩, H.sel [] rfl, hx_.symm⟩
  ·
   clear E H hL60; intro i_ a w62 hM_
   obtain ⟨rfl, x64, E, H, hx_⟩ := hM_
   subst hx_; have hP := elim_l hK61
   clear hK61
   refine bl_hit ?_
   refine th_n ?_
   refine wp_seq ?_
   refine wp_region_lit ?_
   refine vr tbok 3 [] [(4, .int .u8 x64), (5, .int .i64 0)] [] E (by kernel_rfl) trivial ?_
   clear E; intro a E
   refine wpList_nil ?_
   refine th_n ?_
   refine wp_ret ?_
   obtain rfl := Option.some.inj hP
   refine ret2 E rfl rfl rfl ?_
   exact ⟨_, rfl, rfl, H.sel [] rfl⟩

end Go.V
