/- Plain functions, and the calls that give them. -/
import Derived.Test.YtckpjnoajnbmdaaA9
set_option linter.all false
set_option linter.unusedVariables false
set_option linter.unnecessarySimpa false
set_option linter.unusedSimpArgs false
namespace Go.V
open Go Go.Proofs
/-! rejoinder/rejoinderlaw25.PlayNone -/
def law25_PlayNone_f1 (N : Nat) : Option Unit :=
    some ()
def law25_PlayNone_f0 (N : Nat) : Option Unit :=
    Option.bind (law25_PlayNone_f1 N) fun x16 =>
    some ()
def law25_PlayNone_f3 (N : Nat) : Option Unit :=
    some ()
def law25_PlayNone_f2 (N : Nat) : Option Unit :=
    Option.bind (law25_PlayNone_f3 N) fun x28 =>
    some ()
def law25_PlayNone_f5 (N : Nat) : Option Unit :=
    some ()
def law25_PlayNone_f4 (N : Nat) : Option Unit :=
    Option.bind (law25_PlayNone_f5 N) fun x40 =>
    some ()
def law25_PlayNone_f7 (N : Nat) : Option Unit :=
    some ()
def law25_PlayNone_f6 (N : Nat) : Option Unit :=
    Option.bind (law25_PlayNone_f7 N) fun x52 =>
    some ()
def law25_PlayNone_f9 (N : Nat) : Option Unit :=
    some ()
def law25_PlayNone_f8 (N : Nat) : Option Unit :=
    Option.bind (law25_PlayNone_f9 N) fun x64 =>
    some ()
def law25_PlayNone_f11 (N : Nat) : Option Unit :=
    some ()
def law25_PlayNone_f10 (N : Nat) : Option Unit :=
    Option.bind (law25_PlayNone_f11 N) fun x81 =>
    some ()
def law25_PlayNone_f13 (N : Nat) : Option Unit :=
    some ()
def law25_PlayNone_f12 (N : Nat) : Option Unit :=
    Option.bind (law25_PlayNone_f13 N) fun x100 =>
    some ()
def law25_PlayNone (N : Nat) (raw : Int) : Option Bool :=
  Option.bind (law25_PlayNone_f0 N) fun x13 =>
  Option.bind (law25_PlayNone_f2 N) fun x25 =>
  Option.bind (law25_PlayNone_f4 N) fun x37 =>
  Option.bind (law25_PlayNone_f6 N) fun x49 =>
  Option.bind (law25_PlayNone_f8 N) fun x61 =>
  Option.bind (law25_PlayNone_f10 N) fun x78 =>
  Option.bind (law25_PlayNone_f12 N) fun x97 =>
  Option.bind (play_Referee_Move N 0 [] [] [] (0, 0) false [] [] [] 0 [] false raw) fun r114 =>
  Option.bind (play_Referee_Choice N 0 ([] : List Bool) ([] : List Int) ([] : List Nd) (0, 0) false ([] : List Int) ([] : List (List Int)) ([] : List Int) r114.2.2.1 r114.2.2.2 false) fun r132 =>
  if (r114.1 : Int) = 0 then
    if (r114.2.1 : Int) = 1 then
      if (r132.1 : Int) = 0 then
        if (r132.2 : Int) = 1 then
          Option.bind (play_Referee_Back N 0 ([] : List Bool) ([] : List Int) ([] : List Nd) (0, 0) false ([] : List Int) ([] : List (List Int)) ([] : List Int) r114.2.2.1 r114.2.2.2 false) fun r156 =>
          if (r156.1 : Int) = 1 then
            Option.bind (play_Referee_State N 0 ([] : List Bool) ([] : List Int) ([] : List Nd) (0, 0) false ([] : List Int) ([] : List (List Int)) ([] : List Int) r156.2.1 r156.2.2 false) fun r176 =>
            if (r176 : Int) = 0 then
              Option.bind (play_Referee_Rank N 0 ([] : List Bool) ([] : List Int) ([] : List Nd) (0, 0) false ([] : List Int) ([] : List (List Int)) ([] : List Int) r156.2.1 r156.2.2 false) fun r194 =>
              if (r194 : Int) = 0 then
                Option.bind (play_Referee_Over N 0 ([] : List Bool) ([] : List Int) ([] : List Nd) (0, 0) false ([] : List Int) ([] : List (List Int)) ([] : List Int) r156.2.1 r156.2.2 false) fun r212 =>
                if r212 = true then
                  some false
                else
                  Option.bind (play_Referee_Trace N 0 ([] : List Bool) ([] : List Int) ([] : List Nd) (0, 0) false ([] : List Int) ([] : List (List Int)) ([] : List Int) r156.2.1 r156.2.2 false) fun r230 =>
                  if ((((List.length r230) : Nat) : Int) : Int) = 0 then
                    Option.bind (law25_awake N) fun r251 =>
                    some r251
                  else
                    some false
              else
                some false
            else
              some false
          else
            some false
        else
          some false
      else
        some false
    else
      some false
  else
    some false
set_option maxRecDepth 100000 in
set_option maxHeartbeats 4000000 in
theorem law25_PlayNone_calls {N : Nat} {S Fa : Nat → Prop} {w0 : World} {r : Bool} (raw : Int) (H : Hp S Fa w0 w0 []) (hP : law25_PlayNone N raw = some r) :
    Calls Try.prog 6 #[.int .u64 raw] w0 fun e w' => ∃ v, e = .returned v ∧ v = .bool r ∧ Hp S Fa w0 w' [] := by
 refine enterV (n := 74) Try.func6 rfl rfl rfl ?_
 intro a E
 replace E := E.pick [(0, .int .u64 raw)] ⟨rfl, trivial⟩
 rw [law25_PlayNone] at hP
 refine wp_seq ?_
 refine wp_region_lit ?_
 refine vr tbok 1 [] [(0, .int .u64 raw)] [] E (by kernel_rfl) trivial ?_
 clear E; intro a E
 refine wpList_nil ?_
 refine th_n ?_
 refine wp_seq ?_
 refine wp_region_lit ?_
 refine e_build (ps := []) (v := .agg #[.int .i64 0, .slice none 0 0, .slice none 0 0, .slice none 0 0, .int .u8 0, .int .u8 0, .bool false, .slice none 0 0, .slice none 0 0, .slice none 0 0, .int .i64 0, .slice none 0 0, .bool false]) E rfl rfl tbok rfl (by kernel_rfl) rfl ?_
 clear E; intro a E
 refine h_box H E rfl rfl rfl ?_
 intro w2 g1 a hc3 hg5 H_ E_
 replace E := E_ _ rfl; clear E_
 replace H := H_; clear H_; try dsimp only [setn, addE, goneL] at H
 refine h_buildSlice (ps := [(0, .pointer none), (1, .pointer (some ⟨g1, 0, none⟩))]) (cs := [.pointer none, .pointer (some ⟨g1, 0, none⟩)]) H E rfl rfl tbok rfl rfl (by kernel_rfl) ?_
 intro w7 g6 a hc8 hg10 H_ E_
 replace E := E_ _ rfl; clear E_
 replace H := H_; clear H_; try dsimp only [setn, addE, goneL] at H
 refine vr tbok 1 [] [(0, .int .u64 raw), (3, .slice (some ⟨g6, 0, none⟩) 2 2)] [] E (by kernel_rfl) trivial ?_
 clear E; intro a E
 refine wpList_nil ?_
 refine th_n ?_
 refine wp_seq ?_
 refine wp_seq ?_
 refine wp_region_lit ?_
 refine vr tbok 1 [] [(0, .int .u64 raw), (3, .slice (some ⟨g6, 0, none⟩) 2 2), (4, .int .i64 0)] [] E (by kernel_rfl) trivial ?_
 clear E; intro a E
 refine wpList_nil ?_
 refine th_n ?_
 refine wp_block ?_
 refine wp_loop_rounds 3 ?_
 refine unr (m := 2) ?_
 refine wp_seq ?_
 refine wp_seq ?_
 refine wp_region_lit ?_
 refine vr tbok 4 [] [(0, .int .u64 raw), (3, .slice (some ⟨g6, 0, none⟩) 2 2), (4, .int .i64 0), (16, .bool true)] [] E (by kernel_rfl) trivial ?_
 clear E; intro a E
 refine wpList_nil ?_
 refine th_n ?_
 refine c_true E rfl ?_
 refine wp_skip ?_
 refine th_n ?_
 refine wp_seq ?_
 refine wp_block ?_
 refine wp_seq ?_
 refine wp_region_lit ?_
 refine vr tbok 5 [.pointer none] [(0, .int .u64 raw), (3, .slice (some ⟨g6, 0, none⟩) 2 2), (4, .int .i64 0), (5, .pointer none)] [0 ≤ (0 : Int) ∧ (0 : Int) < ((2 : Nat) : Int), World.cell? w7 ⟨g6, 0, none⟩ = some (.pointer none)] E (by kernel_rfl) ⟨⟨by decide, by decide⟩, (H.box 1 rfl).cell (j := 0) rfl⟩ ?_
 clear E; intro a E
 refine wpList_nil ?_
 refine th_n ?_
 refine wp_seq ?_
 refine wp_region_lit ?_
 refine vr tbok 2 [] [(0, .int .u64 raw), (3, .slice (some ⟨g6, 0, none⟩) 2 2), (4, .int .i64 0), (5, .pointer none), (24, .pointer none), (25, .int .u64 raw)] [] E (by kernel_rfl) trivial ?_
 clear E; intro a E
 obtain ⟨x13, h14, hP⟩ := bind_inv hP
 refine e_call (R := fun v_ w_ => ∃ (x15 : Unit), v_ = .tuple #[.int .u8 0, .int .i64 1] ∧ Hp S Fa w0 w_ [.box g1 74 [.int .i64 0, .slice none 0 0, .slice none 0 0, .slice none 0 0, .int .u8 0, .int .u8 0, .bool false, .slice none 0 0, .slice none 0 0, .slice none 0 0, .int .i64 0, .slice none 0 0, .bool false], .box g6 42 [.pointer none, .pointer (some ⟨g1, 0, none⟩)]] ∧ x13 = x15) E rfl rfl Try.func29 rfl rfl rfl ?_ ?_
 ·
  clear E hP; have hP := h14; clear h14; rw [law25_PlayNone_f0] at hP
  refine enterV (n := 85) Try.func29 rfl rfl rfl ?_
  intro a E
  replace E := E.pick [(0, .pointer none), (1, .int .u64 raw)] ⟨rfl, rfl, trivial⟩
  refine wp_seq ?_
  refine wp_region_lit ?_
  refine vr tbok 2 [] [(0, .pointer none), (1, .int .u64 raw)] [] E (by kernel_rfl) trivial ?_
  clear E; intro a E
  refine wpList_nil ?_
  refine th_n ?_
  refine wp_seq ?_
  refine wp_seq ?_
  refine wp_region_lit ?_
  refine vr tbok 1 [] [(0, .pointer none), (1, .int .u64 raw), (8, .pointer none)] [] E (by kernel_rfl) trivial ?_
  clear E; intro a E
  obtain ⟨x16, h17, hP⟩ := bind_inv hP
  refine e_call (R := fun v_ w_ => ∃ (x18 : Unit), v_ = .bool true ∧ Hp S Fa w0 w_ [.box g1 74 [.int .i64 0, .slice none 0 0, .slice none 0 0, .slice none 0 0, .int .u8 0, .int .u8 0, .bool false, .slice none 0 0, .slice none 0 0, .slice none 0 0, .int .i64 0, .slice none 0 0, .bool false], .box g6 42 [.pointer none, .pointer (some ⟨g1, 0, none⟩)]] ∧ x16 = x18) E rfl rfl Try.func60 rfl rfl rfl ?_ ?_
  ·
   clear E hP; have hP := h17; clear h17; rw [law25_PlayNone_f1] at hP
   refine enterV (n := 12) Try.func60 rfl rfl rfl ?_
   intro a E
   replace E := E.pick [(0, .pointer none)] ⟨rfl, trivial⟩
   refine wp_seq ?_
   refine wp_region_lit ?_
   refine vr tbok 1 [] [(0, .pointer none)] [] E (by kernel_rfl) trivial ?_
   clear E; intro a E
   refine wpList_nil ?_
   refine th_n ?_
   refine wp_seq ?_
   refine wp_region_lit ?_
   refine vr tbok 10 [] [(2, .bool true)] [] E (by kernel_rfl) trivial ?_
   clear E; intro a E
   refine wpList_nil ?_
   refine th_n ?_
   refine wp_ret ?_
   have hx_ := Option.some.inj hP
   refine ret1 E rfl rfl ?_
   exact ⟨_, rfl, (), rfl, H.sel [0, 1] rfl, hx_.symm⟩
  ·
   clear H
   rintro v20 w19 a ⟨x18, rfl, H, hx_⟩ E_
   subst hx_
   replace E := E_ _ rfl; clear E_
   refine wpList_nil ?_
   refine th_n ?_
   refine c_true E rfl ?_
   refine wp_seq ?_
   refine wp_region_lit ?_
   refine vr tbok 2 [] [(4, .int .u8 0), (5, .int .i64 1)] [] E (by kernel_rfl) trivial ?_
   clear E; intro a E
   refine wpList_nil ?_
   refine th_n ?_
   refine wp_ret ?_
   refine th_ret ?_
   have hx_ := Option.some.inj hP
   refine ret2 E rfl rfl rfl ?_
   exact ⟨_, rfl, (), rfl, H.sel [0, 1] rfl, hx_.symm⟩
 ·
  clear H
  rintro v22 w21 a ⟨x15, rfl, H, hx_⟩ E_
  subst hx_
  replace E := E_ _ rfl; clear E_
  refine vr tbok 5 [] [(0, .int .u64 raw), (3, .slice (some ⟨g6, 0, none⟩) 2 2), (4, .int .i64 0), (5, .pointer none), (6, .int .u8 0), (7, .int .i64 1)] [] E (by kernel_rfl) trivial ?_
  clear E; intro a E
  refine wpList_nil ?_
  refine th_n ?_
  refine wp_seq ?_
  refine wp_region_lit ?_
  refine vr tbok 1 [] [(0, .int .u64 raw), (3, .slice (some ⟨g6, 0, none⟩) 2 2), (4, .int .i64 0), (5, .pointer none), (6, .int .u8 0), (7, .int .i64 1), (30, .pointer none)] [] E (by kernel_rfl) trivial ?_
  clear E; intro a E
  obtain ⟨x25, h26, hP⟩ := bind_inv hP
  refine e_call (R := fun v_ w_ => ∃ (x27 : Unit), v_ = .tuple #[.int .u8 0, .int .i64 1] ∧ Hp S Fa w0 w_ [.box g1 74 [.int .i64 0, .slice none 0 0, .slice none 0 0, .slice none 0 0, .int .u8 0, .int .u8 0, .bool false, .slice none 0 0, .slice none 0 0, .slice none 0 0, .int .i64 0, .slice none 0 0, .bool false], .box g6 42 [.pointer none, .pointer (some ⟨g1, 0, none⟩)]] ∧ x25 = x27) E rfl rfl Try.func33 rfl rfl rfl ?_ ?_
  ·
   clear E hP; have hP := h26; clear h26; rw [law25_PlayNone_f2] at hP
   refine enterV (n := 24) Try.func33 rfl rfl rfl ?_
   intro a E
   replace E := E.pick [(0, .pointer none)] ⟨rfl, trivial⟩
   refine wp_seq ?_
   refine wp_region_lit ?_
   refine vr tbok 2 [] [(0, .pointer none)] [] E (by kernel_rfl) trivial ?_
   clear E; intro a E
   refine wpList_nil ?_
   refine th_n ?_
   refine wp_seq ?_
   refine wp_block ?_
   refine wp_seq ?_
   refine wp_region_lit ?_
   refine vr tbok 1 [] [(0, .pointer none), (5, .pointer none)] [] E (by kernel_rfl) trivial ?_
   clear E; intro a E
   obtain ⟨x28, h29, hP⟩ := bind_inv hP
   refine e_call (R := fun v_ w_ => ∃ (x30 : Unit), v_ = .bool true ∧ Hp S Fa w0 w_ [.box g1 74 [.int .i64 0, .slice none 0 0, .slice none 0 0, .slice none 0 0, .int .u8 0, .int .u8 0, .bool false, .slice none 0 0, .slice none 0 0, .slice none 0 0, .int .i64 0, .slice none 0 0, .bool false], .box g6 42 [.pointer none, .pointer (some ⟨g1, 0, none⟩)]] ∧ x28 = x30) E rfl rfl Try.func60 rfl rfl rfl ?_ ?_
   ·
    clear E hP; have hP := h29; clear h29; rw [law25_PlayNone_f3] at hP
    refine enterV (n := 12) Try.func60 rfl rfl rfl ?_
    intro a E
    replace E := E.pick [(0, .pointer none)] ⟨rfl, trivial⟩
    refine wp_seq ?_
    refine wp_region_lit ?_
    refine vr tbok 1 [] [(0, .pointer none)] [] E (by kernel_rfl) trivial ?_
    clear E; intro a E
    refine wpList_nil ?_
    refine th_n ?_
    refine wp_seq ?_
    refine wp_region_lit ?_
    refine vr tbok 10 [] [(2, .bool true)] [] E (by kernel_rfl) trivial ?_
    clear E; intro a E
    refine wpList_nil ?_
    refine th_n ?_
    refine wp_ret ?_
    have hx_ := Option.some.inj hP
    refine ret1 E rfl rfl ?_
    exact ⟨_, rfl, (), rfl, H.sel [0, 1] rfl, hx_.symm⟩
   ·
    clear H
    rintro v32 w31 a ⟨x30, rfl, H, hx_⟩ E_
    subst hx_
    replace E := E_ _ rfl; clear E_
    refine vr tbok 1 [] [(0, .pointer none), (4, .bool true)] [] E (by kernel_rfl) trivial ?_
    clear E; intro a E
    refine wpList_nil ?_
    refine th_n ?_
    refine c_true E rfl ?_
    refine wp_seq ?_
    refine wp_region_lit ?_
    refine vr tbok 2 [] [(2, .int .u8 0), (3, .int .i64 1)] [] E (by kernel_rfl) trivial ?_
    clear E; intro a E
    refine wpList_nil ?_
    refine th_n ?_
    refine wp_ret ?_
    refine bl_ret ?_
    refine th_ret ?_
    have hx_ := Option.some.inj hP
    refine ret2 E rfl rfl rfl ?_
    exact ⟨_, rfl, (), rfl, H.sel [0, 1] rfl, hx_.symm⟩
  ·
   clear H
   rintro v34 w33 a ⟨x27, rfl, H, hx_⟩ E_
   subst hx_
   replace E := E_ _ rfl; clear E_
   refine vr tbok 5 [] [(0, .int .u64 raw), (3, .slice (some ⟨g6, 0, none⟩) 2 2), (4, .int .i64 0), (5, .pointer none), (6, .int .u8 0), (7, .int .i64 1), (8, .int .u8 0), (9, .int .i64 1)] [] E (by kernel_rfl) trivial ?_
   clear E; intro a E
   refine wpList_nil ?_
   refine th_n ?_
   refine wp_seq ?_
   refine wp_region_lit ?_
   refine vr tbok 16 [] [(0, .int .u64 raw), (3, .slice (some ⟨g6, 0, none⟩) 2 2), (4, .int .i64 0), (5, .pointer none), (37, .int .i64 1), (38, .bool false), (41, .int .u8 0), (42, .bool false), (45, .int .i64 1), (46, .bool false), (48, .bool false), (49, .pointer none)] [] E (by kernel_rfl) trivial ?_
   clear E; intro a E
   obtain ⟨x37, h38, hP⟩ := bind_inv hP
   refine e_call (R := fun v_ w_ => ∃ (x39 : Unit), v_ = .int .i64 1 ∧ Hp S Fa w0 w_ [.box g1 74 [.int .i64 0, .slice none 0 0, .slice none 0 0, .slice none 0 0, .int .u8 0, .int .u8 0, .bool false, .slice none 0 0, .slice none 0 0, .slice none 0 0, .int .i64 0, .slice none 0 0, .bool false], .box g6 42 [.pointer none, .pointer (some ⟨g1, 0, none⟩)]] ∧ x37 = x39) E rfl rfl Try.func31 rfl rfl rfl ?_ ?_
   ·
    clear E hP; have hP := h38; clear h38; rw [law25_PlayNone_f4] at hP
    refine enterV (n := 35) Try.func31 rfl rfl rfl ?_
    intro a E
    replace E := E.pick [(0, .pointer none)] ⟨rfl, trivial⟩
    refine wp_seq ?_
    refine wp_region_lit ?_
    refine vr tbok 1 [] [(0, .pointer none)] [] E (by kernel_rfl) trivial ?_
    clear E; intro a E
    refine wpList_nil ?_
    refine th_n ?_
    refine wp_seq ?_
    refine wp_seq ?_
    refine wp_region_lit ?_
    refine vr tbok 1 [] [(0, .pointer none), (4, .pointer none)] [] E (by kernel_rfl) trivial ?_
    clear E; intro a E
    obtain ⟨x40, h41, hP⟩ := bind_inv hP
    refine e_call (R := fun v_ w_ => ∃ (x42 : Unit), v_ = .bool true ∧ Hp S Fa w0 w_ [.box g1 74 [.int .i64 0, .slice none 0 0, .slice none 0 0, .slice none 0 0, .int .u8 0, .int .u8 0, .bool false, .slice none 0 0, .slice none 0 0, .slice none 0 0, .int .i64 0, .slice none 0 0, .bool false], .box g6 42 [.pointer none, .pointer (some ⟨g1, 0, none⟩)]] ∧ x40 = x42) E rfl rfl Try.func60 rfl rfl rfl ?_ ?_
    ·
     clear E hP; have hP := h41; clear h41; rw [law25_PlayNone_f5] at hP
     refine enterV (n := 12) Try.func60 rfl rfl rfl ?_
     intro a E
     replace E := E.pick [(0, .pointer none)] ⟨rfl, trivial⟩
     refine wp_seq ?_
     refine wp_region_lit ?_
     refine vr tbok 1 [] [(0, .pointer none)] [] E (by kernel_rfl) trivial ?_
     clear E; intro a E
     refine wpList_nil ?_
     refine th_n ?_
     refine wp_seq ?_
     refine wp_region_lit ?_
     refine vr tbok 10 [] [(2, .bool true)] [] E (by kernel_rfl) trivial ?_
     clear E; intro a E
     refine wpList_nil ?_
     refine th_n ?_
     refine wp_ret ?_
     have hx_ := Option.some.inj hP
     refine ret1 E rfl rfl ?_
     exact ⟨_, rfl, (), rfl, H.sel [0, 1] rfl, hx_.symm⟩
    ·
     clear H
     rintro v44 w43 a ⟨x42, rfl, H, hx_⟩ E_
     subst hx_
     replace E := E_ _ rfl; clear E_
     refine wpList_nil ?_
     refine th_n ?_
     refine c_true E rfl ?_
     refine wp_seq ?_
     refine wp_region_lit ?_
     refine vr tbok 1 [] [(2, .int .i64 1)] [] E (by kernel_rfl) trivial ?_
     clear E; intro a E
     refine wpList_nil ?_
     refine th_n ?_
     refine wp_ret ?_
     refine th_ret ?_
     have hx_ := Option.some.inj hP
     refine ret1 E rfl rfl ?_
     exact ⟨_, rfl, (), rfl, H.sel [0, 1] rfl, hx_.symm⟩
   ·
    clear H
    rintro v46 w45 a ⟨x39, rfl, H, hx_⟩ E_
    subst hx_
    replace E := E_ _ rfl; clear E_
    refine vr tbok 4 [] [(0, .int .u64 raw), (3, .slice (some ⟨g6, 0, none⟩) 2 2), (4, .int .i64 0), (5, .pointer none), (37, .int .i64 1), (38, .bool false), (41, .int .u8 0), (42, .bool false), (45, .int .i64 1), (46, .bool false), (49, .pointer none), (50, .int .i64 1), (51, .bool false), (53, .bool false), (54, .pointer none)] [] E (by kernel_rfl) trivial ?_
    clear E; intro a E
    obtain ⟨x49, h50, hP⟩ := bind_inv hP
    refine e_call (R := fun v_ w_ => ∃ (x51 : Unit), v_ = .int .i64 0 ∧ Hp S Fa w0 w_ [.box g1 74 [.int .i64 0, .slice none 0 0, .slice none 0 0, .slice none 0 0, .int .u8 0, .int .u8 0, .bool false, .slice none 0 0, .slice none 0 0, .slice none 0 0, .int .i64 0, .slice none 0 0, .bool false], .box g6 42 [.pointer none, .pointer (some ⟨g1, 0, none⟩)]] ∧ x49 = x51) E rfl rfl Try.func28 rfl rfl rfl ?_ ?_
    ·
     clear E hP; have hP := h50; clear h50; rw [law25_PlayNone_f6] at hP
     refine enterV (n := 9) Try.func28 rfl rfl rfl ?_
     intro a E
     replace E := E.pick [(0, .pointer none)] ⟨rfl, trivial⟩
     refine wp_seq ?_
     refine wp_region_lit ?_
     refine vr tbok 1 [] [(0, .pointer none)] [] E (by kernel_rfl) trivial ?_
     clear E; intro a E
     refine wpList_nil ?_
     refine th_n ?_
     refine wp_seq ?_
     refine wp_seq ?_
     refine wp_region_lit ?_
     refine vr tbok 1 [] [(0, .pointer none), (3, .pointer none)] [] E (by kernel_rfl) trivial ?_
     clear E; intro a E
     obtain ⟨x52, h53, hP⟩ := bind_inv hP
     refine e_call (R := fun v_ w_ => ∃ (x54 : Unit), v_ = .bool true ∧ Hp S Fa w0 w_ [.box g1 74 [.int .i64 0, .slice none 0 0, .slice none 0 0, .slice none 0 0, .int .u8 0, .int .u8 0, .bool false, .slice none 0 0, .slice none 0 0, .slice none 0 0, .int .i64 0, .slice none 0 0, .bool false], .box g6 42 [.pointer none, .pointer (some ⟨g1, 0, none⟩)]] ∧ x52 = x54) E rfl rfl Try.func60 rfl rfl rfl ?_ ?_
     ·
      clear E hP; have hP := h53; clear h53; rw [law25_PlayNone_f7] at hP
      refine enterV (n := 12) Try.func60 rfl rfl rfl ?_
      intro a E
      replace E := E.pick [(0, .pointer none)] ⟨rfl, trivial⟩
      refine wp_seq ?_
      refine wp_region_lit ?_
      refine vr tbok 1 [] [(0, .pointer none)] [] E (by kernel_rfl) trivial ?_
      clear E; intro a E
      refine wpList_nil ?_
      refine th_n ?_
      refine wp_seq ?_
      refine wp_region_lit ?_
      refine vr tbok 10 [] [(2, .bool true)] [] E (by kernel_rfl) trivial ?_
      clear E; intro a E
      refine wpList_nil ?_
      refine th_n ?_
      refine wp_ret ?_
      have hx_ := Option.some.inj hP
      refine ret1 E rfl rfl ?_
      exact ⟨_, rfl, (), rfl, H.sel [0, 1] rfl, hx_.symm⟩
     ·
      clear H
      rintro v56 w55 a ⟨x54, rfl, H, hx_⟩ E_
      subst hx_
      replace E := E_ _ rfl; clear E_
      refine wpList_nil ?_
      refine th_n ?_
      refine c_true E rfl ?_
      refine wp_seq ?_
      refine wp_region_lit ?_
      refine vr tbok 1 [] [(2, .int .i64 0)] [] E (by kernel_rfl) trivial ?_
      clear E; intro a E
      refine wpList_nil ?_
      refine th_n ?_
      refine wp_ret ?_
      refine th_ret ?_
      have hx_ := Option.some.inj hP
      refine ret1 E rfl rfl ?_
      exact ⟨_, rfl, (), rfl, H.sel [0, 1] rfl, hx_.symm⟩
    ·
     clear H
     rintro v58 w57 a ⟨x51, rfl, H, hx_⟩ E_
     subst hx_
     replace E := E_ _ rfl; clear E_
     refine vr tbok 4 [] [(0, .int .u64 raw), (3, .slice (some ⟨g6, 0, none⟩) 2 2), (4, .int .i64 0), (5, .pointer none), (37, .int .i64 1), (38, .bool false), (41, .int .u8 0), (42, .bool false), (45, .int .i64 1), (46, .bool false), (49, .pointer none), (50, .int .i64 1), (51, .bool false), (54, .pointer none), (55, .int .i64 0), (56, .bool false), (58, .bool false), (59, .pointer none)] [] E (by kernel_rfl) trivial ?_
     clear E; intro a E
     obtain ⟨x61, h62, hP⟩ := bind_inv hP
     refine e_call (R := fun v_ w_ => ∃ (x63 : Unit), v_ = .int .i64 0 ∧ Hp S Fa w0 w_ [.box g1 74 [.int .i64 0, .slice none 0 0, .slice none 0 0, .slice none 0 0, .int .u8 0, .int .u8 0, .bool false, .slice none 0 0, .slice none 0 0, .slice none 0 0, .int .i64 0, .slice none 0 0, .bool false], .box g6 42 [.pointer none, .pointer (some ⟨g1, 0, none⟩)]] ∧ x61 = x63) E rfl rfl Try.func26 rfl rfl rfl ?_ ?_
     ·
      clear E hP; have hP := h62; clear h62; rw [law25_PlayNone_f8] at hP
      refine enterV (n := 16) Try.func26 rfl rfl rfl ?_
      intro a E
      replace E := E.pick [(0, .pointer none)] ⟨rfl, trivial⟩
      refine wp_seq ?_
      refine wp_region_lit ?_
      refine vr tbok 1 [] [(0, .pointer none)] [] E (by kernel_rfl) trivial ?_
      clear E; intro a E
      refine wpList_nil ?_
      refine th_n ?_
      refine wp_seq ?_
      refine wp_seq ?_
      refine wp_region_lit ?_
      refine vr tbok 1 [] [(0, .pointer none), (3, .pointer none)] [] E (by kernel_rfl) trivial ?_
      clear E; intro a E
      obtain ⟨x64, h65, hP⟩ := bind_inv hP
      refine e_call (R := fun v_ w_ => ∃ (x66 : Unit), v_ = .bool true ∧ Hp S Fa w0 w_ [.box g1 74 [.int .i64 0, .slice none 0 0, .slice none 0 0, .slice none 0 0, .int .u8 0, .int .u8 0, .bool false, .slice none 0 0, .slice none 0 0, .slice none 0 0, .int .i64 0, .slice none 0 0, .bool false], .box g6 42 [.pointer none, .pointer (some ⟨g1, 0, none⟩)]] ∧ x64 = x66) E rfl rfl Try.func60 rfl rfl rfl ?_ ?_
      ·
       clear E hP; have hP := h65; clear h65; rw [law25_PlayNone_f9] at hP
       refine enterV (n := 12) Try.func60 rfl rfl rfl ?_
       intro a E
       replace E := E.pick [(0, .pointer none)] ⟨rfl, trivial⟩
       refine wp_seq ?_
       refine wp_region_lit ?_
       refine vr tbok 1 [] [(0, .pointer none)] [] E (by kernel_rfl) trivial ?_
       clear E; intro a E
       refine wpList_nil ?_
       refine th_n ?_
       refine wp_seq ?_
       refine wp_region_lit ?_
       refine vr tbok 10 [] [(2, .bool true)] [] E (by kernel_rfl) trivial ?_
       clear E; intro a E
       refine wpList_nil ?_
       refine th_n ?_
       refine wp_ret ?_
       have hx_ := Option.some.inj hP
       refine ret1 E rfl rfl ?_
       exact ⟨_, rfl, (), rfl, H.sel [0, 1] rfl, hx_.symm⟩
      ·
       clear H
       rintro v68 w67 a ⟨x66, rfl, H, hx_⟩ E_
       subst hx_
       replace E := E_ _ rfl; clear E_
       refine wpList_nil ?_
       refine th_n ?_
       refine c_true E rfl ?_
       refine wp_seq ?_
       refine wp_region_lit ?_
       refine vr tbok 1 [] [(2, .int .i64 0)] [] E (by kernel_rfl) trivial ?_
       clear E; intro a E
       refine wpList_nil ?_
       refine th_n ?_
       refine wp_ret ?_
       refine th_ret ?_
       have hx_ := Option.some.inj hP
       refine ret1 E rfl rfl ?_
       exact ⟨_, rfl, (), rfl, H.sel [0, 1] rfl, hx_.symm⟩
     ·
      clear H
      rintro v70 w69 a ⟨x63, rfl, H, hx_⟩ E_
      subst hx_
      replace E := E_ _ rfl; clear E_
      refine vr tbok 4 [] [(0, .int .u64 raw), (3, .slice (some ⟨g6, 0, none⟩) 2 2), (4, .int .i64 0), (5, .pointer none), (37, .int .i64 1), (38, .bool false), (41, .int .u8 0), (42, .bool false), (45, .int .i64 1), (46, .bool false), (49, .pointer none), (50, .int .i64 1), (51, .bool false), (54, .pointer none), (55, .int .i64 0), (56, .bool false), (59, .pointer none), (60, .int .i64 0), (61, .bool false), (63, .bool false), (64, .pointer none)] [] E (by kernel_rfl) trivial ?_
      clear E; intro a E
      obtain ⟨x78, h79, hP⟩ := bind_inv hP
      refine e_call (R := fun v_ w_ => ∃ (x80 : Unit), v_ = .bool false ∧ Hp S Fa w0 w_ [.box g1 74 [.int .i64 0, .slice none 0 0, .slice none 0 0, .slice none 0 0, .int .u8 0, .int .u8 0, .bool false, .slice none 0 0, .slice none 0 0, .slice none 0 0, .int .i64 0, .slice none 0 0, .bool false], .box g6 42 [.pointer none, .pointer (some ⟨g1, 0, none⟩)]] ∧ x78 = x80) E rfl rfl Try.func27 rfl rfl rfl ?_ ?_
      ·
       clear E hP; have hP := h79; clear h79; rw [law25_PlayNone_f10] at hP
       refine enterV (n := 19) Try.func27 rfl rfl rfl ?_
       intro a E
       replace E := E.pick [(0, .pointer none)] ⟨rfl, trivial⟩
       refine wp_seq ?_
       refine wp_region_lit ?_
       refine vr tbok 1 [] [(0, .pointer none)] [] E (by kernel_rfl) trivial ?_
       clear E; intro a E
       refine wpList_nil ?_
       refine th_n ?_
       refine wp_seq ?_
       obtain ⟨x81, h82, hP⟩ := bind_inv hP
       have HR89 := H
       refine dr_start (S := fun w_ => Chg (atL []) w69 w_) (by kernel_rfl) ?_
       intro w86 hc87
       have HS88 : Chg (atL []) w69 w86 := hc87.mono (fun _ _ h_ => h_.elim)
       replace H := H.ext hc87
       refine dr tbok (by kernel_rfl) [0] [] [(0, .pointer none), (3, .pointer none)] (fun w_ => []) 16 E (fun _ _ => by kernel_rfl) (fun w_ hS_ => trivial) (by kernel_rfl) HS88 ?_
       clear E; intro a E
       refine wpAnyH_all (rs := [1]) (by kernel_rfl) (by simp) ?_
       refine all1 ?_
       ·
        refine wpOp_of_list rfl ?_
        refine e_call (R := fun v_ w_ => ∃ (x90 : Unit), v_ = .bool true ∧ Hp S Fa w0 w_ [.box g1 74 [.int .i64 0, .slice none 0 0, .slice none 0 0, .slice none 0 0, .int .u8 0, .int .u8 0, .bool false, .slice none 0 0, .slice none 0 0, .slice none 0 0, .int .i64 0, .slice none 0 0, .bool false], .box g6 42 [.pointer none, .pointer (some ⟨g1, 0, none⟩)]] ∧ Chg (atL []) w69 w_ ∧ x81 = x90) E rfl rfl Try.func60 rfl rfl rfl ?_ ?_
        ·
         clear E hP; have hP := h82; clear h82; rw [law25_PlayNone_f11] at hP
         refine enterV (n := 12) Try.func60 rfl rfl rfl ?_
         intro a E
         replace E := E.pick [(0, .pointer none)] ⟨rfl, trivial⟩
         refine wp_seq ?_
         refine wp_region_lit ?_
         refine vr tbok 1 [] [(0, .pointer none)] [] E (by kernel_rfl) trivial ?_
         clear E; intro a E
         refine wpList_nil ?_
         refine th_n ?_
         refine wp_seq ?_
         refine wp_region_lit ?_
         refine vr tbok 10 [] [(2, .bool true)] [] E (by kernel_rfl) trivial ?_
         clear E; intro a E
         refine wpList_nil ?_
         refine th_n ?_
         refine wp_ret ?_
         have hx_ := Option.some.inj hP
         refine ret1 E rfl rfl ?_
         exact ⟨_, rfl, (), rfl, H.sel [0, 1] rfl, HS88, hx_.symm⟩
        ·
         clear H HS88
         rintro v92 w91 a ⟨x90, rfl, H, HS88, hx_⟩ E_
         subst hx_
         replace E := E_ _ rfl; clear E_
         refine wpList_nil ?_
         refine th_n ⟨HS88, ?_⟩
         refine dr tbok (by kernel_rfl) [2, 3, 4, 5, 6, 7, 8, 9, 10, 11, 12, 13, 14, 15, 16] [] [(2, .bool false)] (fun w_ => []) 0 E (fun _ _ => by kernel_rfl) (fun w_ hS_ => trivial) (by kernel_rfl) HS88 ?_
         clear E; intro a E
         refine dr_done (by kernel_rfl) ?_
         clear HS88 HR89
         refine th_n ?_
         refine wp_ret ?_
         have hx_ := Option.some.inj hP
         refine ret1 E rfl rfl ?_
         exact ⟨_, rfl, (), rfl, H.sel [0, 1] rfl, hx_.symm⟩
      ·
       clear H
       rintro v94 w93 a ⟨x80, rfl, H, hx_⟩ E_
       subst hx_
       replace E := E_ _ rfl; clear E_
       refine vr tbok 3 [] [(0, .int .u64 raw), (3, .slice (some ⟨g6, 0, none⟩) 2 2), (4, .int .i64 0), (37, .int .i64 1), (38, .bool false), (41, .int .u8 0), (42, .bool false), (45, .int .i64 1), (46, .bool false), (49, .pointer none), (50, .int .i64 1), (51, .bool false), (54, .pointer none), (55, .int .i64 0), (56, .bool false), (59, .pointer none), (60, .int .i64 0), (61, .bool false), (64, .pointer none), (65, .bool false), (67, .bool false), (68, .pointer none)] [] E (by kernel_rfl) trivial ?_
       clear E; intro a E
       obtain ⟨x97, h98, hP⟩ := bind_inv hP
       refine e_call (R := fun v_ w_ => ∃ (x99 : Unit), v_ = .slice none 0 0 ∧ Hp S Fa w0 w_ [.box g1 74 [.int .i64 0, .slice none 0 0, .slice none 0 0, .slice none 0 0, .int .u8 0, .int .u8 0, .bool false, .slice none 0 0, .slice none 0 0, .slice none 0 0, .int .i64 0, .slice none 0 0, .bool false], .box g6 42 [.pointer none, .pointer (some ⟨g1, 0, none⟩)]] ∧ x97 = x99) E rfl rfl Try.func30 rfl rfl rfl ?_ ?_
       ·
        clear E hP; have hP := h98; clear h98; rw [law25_PlayNone_f12] at hP
        refine enterV (n := 25) Try.func30 rfl rfl rfl ?_
        intro a E
        replace E := E.pick [(0, .pointer none)] ⟨rfl, trivial⟩
        refine wp_seq ?_
        refine wp_region_lit ?_
        refine vr tbok 1 [] [(0, .pointer none)] [] E (by kernel_rfl) trivial ?_
        clear E; intro a E
        refine wpList_nil ?_
        refine th_n ?_
        refine wp_seq ?_
        refine wp_region_lit ?_
        refine vr tbok 1 [] [(0, .pointer none), (3, .slice none 0 0)] [] E (by kernel_rfl) trivial ?_
        clear E; intro a E
        refine wpList_nil ?_
        refine th_n ?_
        refine wp_seq ?_
        refine wp_seq ?_
        refine wp_region_lit ?_
        refine vr tbok 1 [] [(0, .pointer none), (3, .slice none 0 0), (6, .pointer none)] [] E (by kernel_rfl) trivial ?_
        clear E; intro a E
        obtain ⟨x100, h101, hP⟩ := bind_inv hP
        refine e_call (R := fun v_ w_ => ∃ (x102 : Unit), v_ = .bool true ∧ Hp S Fa w0 w_ [.box g1 74 [.int .i64 0, .slice none 0 0, .slice none 0 0, .slice none 0 0, .int .u8 0, .int .u8 0, .bool false, .slice none 0 0, .slice none 0 0, .slice none 0 0, .int .i64 0, .slice none 0 0, .bool false], .box g6 42 [.pointer none, .pointer (some ⟨g1, 0, none⟩)]] ∧ x100 = x102) E rfl rfl Try.func60 rfl rfl rfl ?_ ?_
        ·
         clear E hP; have hP := h101; clear h101; rw [law25_PlayNone_f13] at hP
         refine enterV (n := 12) Try.func60 rfl rfl rfl ?_
         intro a E
         replace E := E.pick [(0, .pointer none)] ⟨rfl, trivial⟩
         refine wp_seq ?_
         refine wp_region_lit ?_
         refine vr tbok 1 [] [(0, .pointer none)] [] E (by kernel_rfl) trivial ?_
         clear E; intro a E
         refine wpList_nil ?_
         refine th_n ?_
         refine wp_seq ?_
         refine wp_region_lit ?_
         refine vr tbok 10 [] [(2, .bool true)] [] E (by kernel_rfl) trivial ?_
         clear E; intro a E
         refine wpList_nil ?_
         refine th_n ?_
         refine wp_ret ?_
         have hx_ := Option.some.inj hP
         refine ret1 E rfl rfl ?_
         exact ⟨_, rfl, (), rfl, H.sel [0, 1] rfl, hx_.symm⟩
        ·
         clear H
         rintro v104 w103 a ⟨x102, rfl, H, hx_⟩ E_
         subst hx_
         replace E := E_ _ rfl; clear E_
         refine wpList_nil ?_
         refine th_n ?_
         refine c_true E rfl ?_
         refine wp_seq ?_
         refine wp_region_lit ?_
         refine vr tbok 2 [] [(2, .slice none 0 0)] [] E (by kernel_rfl) trivial ?_
         clear E; intro a E
         refine wpList_nil ?_
         refine th_n ?_
         refine wp_ret ?_
         refine th_ret ?_
         have hx_ := Option.some.inj hP
         refine ret1 E rfl rfl ?_
         exact ⟨_, rfl, (), rfl, H.sel [0, 1] rfl, hx_.symm⟩
       ·
        clear H
        rintro v106 w105 a ⟨x99, rfl, H, hx_⟩ E_
        subst hx_
        replace E := E_ _ rfl; clear E_
        refine vr tbok 3 [] [(0, .int .u64 raw), (3, .slice (some ⟨g6, 0, none⟩) 2 2), (4, .int .i64 0), (37, .int .i64 1), (38, .bool false), (41, .int .u8 0), (42, .bool false), (45, .int .i64 1), (46, .bool false), (49, .pointer none), (50, .int .i64 1), (51, .bool false), (54, .pointer none), (55, .int .i64 0), (56, .bool false), (59, .pointer none), (60, .int .i64 0), (61, .bool false), (64, .pointer none), (65, .bool false), (68, .pointer none), (69, .slice none 0 0), (70, .int .i64 0), (71, .bool false), (72, .bool false)] [] E (by kernel_rfl) trivial ?_
        clear E; intro a E
        refine wpList_nil ?_
        refine th_n ?_
        refine c_false E rfl ?_
        refine wp_skip ?_
        refine bl_n ?_
        refine th_n ?_
        refine wp_region_lit ?_
        refine vr tbok 3 [.int .i64 1] [(0, .int .u64 raw), (3, .slice (some ⟨g6, 0, none⟩) 2 2), (4, .int .i64 1), (37, .int .i64 1), (38, .bool false), (41, .int .u8 0), (42, .bool false), (45, .int .i64 1), (46, .bool false), (49, .pointer none), (50, .int .i64 1), (51, .bool false), (54, .pointer none), (55, .int .i64 0), (56, .bool false), (59, .pointer none), (60, .int .i64 0), (61, .bool false), (64, .pointer none), (65, .bool false), (68, .pointer none), (69, .slice none 0 0), (70, .int .i64 0), (71, .bool false)] [IntKind.i64.wrap (0 + 1) = 1] E (by kernel_rfl) ((show _ = _ from by decide)) ?_
        clear E; intro a E
        refine wpList_nil ?_
        refine th_n ?_
        refine unr (m := 1) ?_
        refine wp_seq ?_
        refine wp_seq ?_
        refine wp_region_lit ?_
        refine vr tbok 4 [] [(0, .int .u64 raw), (3, .slice (some ⟨g6, 0, none⟩) 2 2), (4, .int .i64 1), (16, .bool true), (37, .int .i64 1), (38, .bool false), (41, .int .u8 0), (42, .bool false), (45, .int .i64 1), (46, .bool false), (49, .pointer none), (50, .int .i64 1), (51, .bool false), (54, .pointer none), (55, .int .i64 0), (56, .bool false), (59, .pointer none), (60, .int .i64 0), (61, .bool false), (64, .pointer none), (65, .bool false), (68, .pointer none), (69, .slice none 0 0), (70, .int .i64 0), (71, .bool false)] [] E (by kernel_rfl) trivial ?_
        clear E; intro a E
        refine wpList_nil ?_
        refine th_n ?_
        refine c_true E rfl ?_
        refine wp_skip ?_
        refine th_n ?_
        refine wp_seq ?_
        refine wp_block ?_
        refine wp_seq ?_
        refine wp_region_lit ?_
        refine vr tbok 5 [.pointer (some ⟨g1, 0, none⟩)] [(0, .int .u64 raw), (3, .slice (some ⟨g6, 0, none⟩) 2 2), (4, .int .i64 1), (5, .pointer (some ⟨g1, 0, none⟩)), (37, .int .i64 1), (38, .bool false), (41, .int .u8 0), (42, .bool false), (45, .int .i64 1), (46, .bool false), (49, .pointer none), (50, .int .i64 1), (51, .bool false), (54, .pointer none), (55, .int .i64 0), (56, .bool false), (59, .pointer none), (60, .int .i64 0), (61, .bool false), (64, .pointer none), (65, .bool false), (68, .pointer none), (69, .slice none 0 0), (70, .int .i64 0), (71, .bool false)] [0 ≤ (1 : Int) ∧ (1 : Int) < ((2 : Nat) : Int), World.cell? w105 ⟨g6, 1, none⟩ = some (.pointer (some ⟨g1, 0, none⟩))] E (by kernel_rfl) ⟨⟨by decide, by decide⟩, (H.box 1 rfl).cell (j := 1) rfl⟩ ?_
        clear E; intro a E
        refine wpList_nil ?_
        refine th_n ?_
        refine wp_seq ?_
        refine wp_region_lit ?_
        refine vr tbok 2 [] [(0, .int .u64 raw), (3, .slice (some ⟨g6, 0, none⟩) 2 2), (4, .int .i64 1), (5, .pointer (some ⟨g1, 0, none⟩)), (24, .pointer (some ⟨g1, 0, none⟩)), (25, .int .u64 raw), (37, .int .i64 1), (38, .bool false), (41, .int .u8 0), (42, .bool false), (45, .int .i64 1), (46, .bool false), (49, .pointer none), (50, .int .i64 1), (51, .bool false), (54, .pointer none), (55, .int .i64 0), (56, .bool false), (59, .pointer none), (60, .int .i64 0), (61, .bool false), (64, .pointer none), (65, .bool false), (68, .pointer none), (69, .slice none 0 0), (70, .int .i64 0), (71, .bool false)] [] E (by kernel_rfl) trivial ?_
        clear E; intro a E
        replace H := H.nilrow cBool 4; try dsimp only [setn, addE, goneL] at H
        replace H := H.nilrow (cInt .i64) 3; try dsimp only [setn, addE, goneL] at H
        replace H := H.nilrow cNode 90; try dsimp only [setn, addE, goneL] at H
        replace H := H.nilrow (cInt .i64) 3; try dsimp only [setn, addE, goneL] at H
        replace H := H.nilrow (cSl (cInt .u8)) 31; try dsimp only [setn, addE, goneL] at H
        replace H := H.nilrow (cInt .u8) 27; try dsimp only [setn, addE, goneL] at H
        replace H := H.nilrow cS98 99; try dsimp only [setn, addE, goneL] at H
        obtain ⟨r114, h115, hP⟩ := bind_inv hP
        obtain ⟨Fa116, Hc117, hb118⟩ := H.call [0, 8] [(2, false), (3, false), (4, false), (5, false), (6, false), (7, false)] rfl rfl ⟨flat_plain, trivial⟩
        refine e_call E rfl rfl Try.func29 rfl rfl rfl (play_Referee_Move_calls g1 none 0 none 0 none 0 none 0 none 0 none 0 none 0 0 [] [] [] (0, 0) false [] [] [] 0 [] false raw (Nat.le_refl _) (Nat.le_refl _) (Nat.le_refl _) (Nat.le_refl _) (Nat.le_refl _) (Nat.le_refl _) Hc117 h115) ?_
        intro v124 w123 a hR125 E_
        obtain ⟨x_, A128, c129, hr_, rfl, HR127⟩ := hR125
        subst hr_
        replace E := E_ _ rfl; clear E_
        obtain ⟨H_, hc126⟩ := hb118 _ _ HR127 rfl
        replace H := H_; clear H_; try dsimp only [setn, addE, goneL] at H
        refine vr tbok 5 [] [(0, .int .u64 raw), (3, .slice (some ⟨g6, 0, none⟩) 2 2), (4, .int .i64 1), (5, .pointer (some ⟨g1, 0, none⟩)), (6, .int .u8 r114.1), (7, .int .i64 r114.2.1), (37, .int .i64 1), (38, .bool false), (41, .int .u8 0), (42, .bool false), (45, .int .i64 1), (46, .bool false), (49, .pointer none), (50, .int .i64 1), (51, .bool false), (54, .pointer none), (55, .int .i64 0), (56, .bool false), (59, .pointer none), (60, .int .i64 0), (61, .bool false), (64, .pointer none), (65, .bool false), (68, .pointer none), (69, .slice none 0 0), (70, .int .i64 0), (71, .bool false)] [] E (by kernel_rfl) trivial ?_
        clear E; intro a E
        refine wpList_nil ?_
        refine th_n ?_
        refine wp_seq ?_
        refine wp_region_lit ?_
        refine vr tbok 1 [] [(0, .int .u64 raw), (3, .slice (some ⟨g6, 0, none⟩) 2 2), (4, .int .i64 1), (5, .pointer (some ⟨g1, 0, none⟩)), (6, .int .u8 r114.1), (7, .int .i64 r114.2.1), (30, .pointer (some ⟨g1, 0, none⟩)), (37, .int .i64 1), (38, .bool false), (41, .int .u8 0), (42, .bool false), (45, .int .i64 1), (46, .bool false), (49, .pointer none), (50, .int .i64 1), (51, .bool false), (54, .pointer none), (55, .int .i64 0), (56, .bool false), (59, .pointer none), (60, .int .i64 0), (61, .bool false), (64, .pointer none), (65, .bool false), (68, .pointer none), (69, .slice none 0 0), (70, .int .i64 0), (71, .bool false)] [] E (by kernel_rfl) trivial ?_
        clear E; intro a E
        obtain ⟨r132, h133, hP⟩ := bind_inv hP
        obtain ⟨Fa134, Hc135, hb136⟩ := H.call [9, 10] [(2, false), (3, false), (4, false), (5, false), (6, false), (7, false)] rfl rfl ⟨flat_plain, trivial⟩
        refine e_call E rfl rfl Try.func33 rfl rfl rfl (play_Referee_Choice_calls g1 none 0 none 0 none 0 none 0 none 0 none 0 A128 c129 0 ([] : List Bool) ([] : List Int) ([] : List Nd) (0, 0) false ([] : List Int) ([] : List (List Int)) ([] : List Int) r114.2.2.1 r114.2.2.2 false (H.rcap 2 rfl) (H.rcap 3 rfl) (H.rcap 4 rfl) (H.rcap 5 rfl) (H.rcap 6 rfl) (H.rcap 7 rfl) Hc135 h133) ?_
        intro v142 w141 a hR143 E_
        obtain ⟨x_, hr_, rfl, HR145⟩ := hR143
        subst hr_
        replace E := E_ _ rfl; clear E_
        obtain ⟨H_, hc144⟩ := hb136 _ _ HR145 rfl
        replace H := H_; clear H_; try dsimp only [setn, addE, goneL] at H
        refine vr tbok 5 [] [(0, .int .u64 raw), (3, .slice (some ⟨g6, 0, none⟩) 2 2), (4, .int .i64 1), (5, .pointer (some ⟨g1, 0, none⟩)), (6, .int .u8 r114.1), (7, .int .i64 r114.2.1), (8, .int .u8 r132.1), (9, .int .i64 r132.2), (37, .int .i64 1), (38, .bool false), (41, .int .u8 0), (42, .bool false), (45, .int .i64 1), (46, .bool false), (49, .pointer none), (50, .int .i64 1), (51, .bool false), (54, .pointer none), (55, .int .i64 0), (56, .bool false), (59, .pointer none), (60, .int .i64 0), (61, .bool false), (64, .pointer none), (65, .bool false), (68, .pointer none), (69, .slice none 0 0), (70, .int .i64 0), (71, .bool false)] [] E (by kernel_rfl) trivial ?_
        clear E; intro a E
        refine wpList_nil ?_
        refine th_n ?_
        refine wp_seq ?_
        refine wp_region_lit ?_
        refine vr tbok 3 [] [(0, .int .u64 raw), (3, .slice (some ⟨g6, 0, none⟩) 2 2), (4, .int .i64 1), (5, .pointer (some ⟨g1, 0, none⟩)), (7, .int .i64 r114.2.1), (8, .int .u8 r132.1), (9, .int .i64 r132.2), (36, .bool ((r114.1 : Int) != 0)), (37, .int .i64 1), (38, .bool false), (41, .int .u8 0), (42, .bool false), (45, .int .i64 1), (46, .bool false), (49, .pointer none), (50, .int .i64 1), (51, .bool false), (54, .pointer none), (55, .int .i64 0), (56, .bool false), (59, .pointer none), (60, .int .i64 0), (61, .bool false), (64, .pointer none), (65, .bool false), (68, .pointer none), (69, .slice none 0 0), (70, .int .i64 0), (71, .bool false)] [] E (by kernel_rfl) trivial ?_
        clear E; intro a E
        refine E.cases (t := 36) rfl (fun hb_ E_ => ?_) (fun hb_ E_ => ?_)
        ·
         replace E := E_; clear E_
         have h148 : ¬ ((r114.1 : Int) = 0) := bne_iff_ne.1 hb_
         clear hb_; replace hP := ite_f h148 hP
         refine vr tbok 36 [] [(0, .int .u64 raw), (3, .slice (some ⟨g6, 0, none⟩) 2 2), (4, .int .i64 1), (37, .tuple #[]), (38, .tuple #[]), (41, .tuple #[]), (42, .tuple #[]), (45, .tuple #[]), (46, .tuple #[]), (49, .tuple #[]), (50, .tuple #[]), (51, .tuple #[]), (54, .tuple #[]), (55, .tuple #[]), (56, .tuple #[]), (59, .tuple #[]), (60, .tuple #[]), (61, .tuple #[]), (64, .tuple #[]), (65, .tuple #[]), (68, .tuple #[]), (69, .tuple #[]), (70, .tuple #[]), (71, .tuple #[]), (72, .bool true)] [] E (by kernel_rfl) trivial ?_
         clear E; intro a E
         refine wpList_nil ?_
         refine th_n ?_
         refine c_true E rfl ?_
         refine wp_seq ?_
         refine wp_region_lit ?_
         refine vr tbok 1 [] [(2, .bool false)] [] E (by kernel_rfl) trivial ?_
         clear E; intro a E
         refine wpList_nil ?_
         refine th_n ?_
         refine wp_ret ?_
         refine bl_ret ?_
         refine th_ret ?_
         refine th_ret ?_
         refine bl_ret ?_
         refine th_ret ?_
         obtain rfl := Option.some.inj hP
         refine ret1 E rfl rfl ?_
         exact ⟨_, rfl, rfl, H.sel [] rfl⟩
        ·
         replace E := E_; clear E_
         have h149 : (r114.1 : Int) = 0 := bne_eq_false_iff_eq.1 hb_
         clear hb_; replace hP := ite_t h149 hP
         refine vr tbok 4 [] [(0, .int .u64 raw), (3, .slice (some ⟨g6, 0, none⟩) 2 2), (4, .int .i64 1), (5, .pointer (some ⟨g1, 0, none⟩)), (8, .int .u8 r132.1), (9, .int .i64 r132.2), (37, .int .i64 r114.2.1), (38, .bool ((r114.2.1 : Int) != 1)), (40, .bool ((r114.2.1 : Int) != 1)), (41, .int .u8 0), (42, .bool false), (45, .int .i64 1), (46, .bool false), (49, .pointer none), (50, .int .i64 1), (51, .bool false), (54, .pointer none), (55, .int .i64 0), (56, .bool false), (59, .pointer none), (60, .int .i64 0), (61, .bool false), (64, .pointer none), (65, .bool false), (68, .pointer none), (69, .slice none 0 0), (70, .int .i64 0), (71, .bool false)] [] E (by kernel_rfl) trivial ?_
         clear E; intro a E
         refine E.cases (t := 40) rfl (fun hb_ E_ => ?_) (fun hb_ E_ => ?_)
         ·
          replace E := E_; clear E_
          have h150 : ¬ ((r114.2.1 : Int) = 1) := bne_iff_ne.1 hb_
          clear hb_; replace hP := ite_f h150 hP
          refine vr tbok 32 [] [(0, .int .u64 raw), (3, .slice (some ⟨g6, 0, none⟩) 2 2), (4, .int .i64 1), (37, .int .i64 r114.2.1), (38, .bool ((r114.2.1 : Int) != 1)), (41, .tuple #[]), (42, .tuple #[]), (45, .tuple #[]), (46, .tuple #[]), (49, .tuple #[]), (50, .tuple #[]), (51, .tuple #[]), (54, .tuple #[]), (55, .tuple #[]), (56, .tuple #[]), (59, .tuple #[]), (60, .tuple #[]), (61, .tuple #[]), (64, .tuple #[]), (65, .tuple #[]), (68, .tuple #[]), (69, .tuple #[]), (70, .tuple #[]), (71, .tuple #[]), (72, .bool true)] [] E (by kernel_rfl) trivial ?_
          clear E; intro a E
          refine wpList_nil ?_
          refine th_n ?_
          refine c_true E rfl ?_
          refine wp_seq ?_
          refine wp_region_lit ?_
          refine vr tbok 1 [] [(2, .bool false)] [] E (by kernel_rfl) trivial ?_
          clear E; intro a E
          refine wpList_nil ?_
          refine th_n ?_
          refine wp_ret ?_
          refine bl_ret ?_
          refine th_ret ?_
          refine th_ret ?_
          refine bl_ret ?_
          refine th_ret ?_
          obtain rfl := Option.some.inj hP
          refine ret1 E rfl rfl ?_
          exact ⟨_, rfl, rfl, H.sel [] rfl⟩
         ·
          replace E := E_; clear E_
          have h151 : (r114.2.1 : Int) = 1 := bne_eq_false_iff_eq.1 hb_
          clear hb_; replace hP := ite_t h151 hP
          refine vr tbok 4 [] [(0, .int .u64 raw), (3, .slice (some ⟨g6, 0, none⟩) 2 2), (4, .int .i64 1), (5, .pointer (some ⟨g1, 0, none⟩)), (9, .int .i64 r132.2), (37, .int .i64 r114.2.1), (38, .bool ((r114.2.1 : Int) != 1)), (41, .int .u8 r132.1), (42, .bool ((r132.1 : Int) != 0)), (44, .bool ((r132.1 : Int) != 0)), (45, .int .i64 1), (46, .bool false), (49, .pointer none), (50, .int .i64 1), (51, .bool false), (54, .pointer none), (55, .int .i64 0), (56, .bool false), (59, .pointer none), (60, .int .i64 0), (61, .bool false), (64, .pointer none), (65, .bool false), (68, .pointer none), (69, .slice none 0 0), (70, .int .i64 0), (71, .bool false)] [] E (by kernel_rfl) trivial ?_
          clear E; intro a E
          refine E.cases (t := 44) rfl (fun hb_ E_ => ?_) (fun hb_ E_ => ?_)
          ·
           replace E := E_; clear E_
           have h152 : ¬ ((r132.1 : Int) = 0) := bne_iff_ne.1 hb_
           clear hb_; replace hP := ite_f h152 hP
           refine vr tbok 28 [] [(0, .int .u64 raw), (3, .slice (some ⟨g6, 0, none⟩) 2 2), (4, .int .i64 1), (37, .int .i64 r114.2.1), (38, .bool ((r114.2.1 : Int) != 1)), (41, .int .u8 r132.1), (42, .bool ((r132.1 : Int) != 0)), (45, .tuple #[]), (46, .tuple #[]), (49, .tuple #[]), (50, .tuple #[]), (51, .tuple #[]), (54, .tuple #[]), (55, .tuple #[]), (56, .tuple #[]), (59, .tuple #[]), (60, .tuple #[]), (61, .tuple #[]), (64, .tuple #[]), (65, .tuple #[]), (68, .tuple #[]), (69, .tuple #[]), (70, .tuple #[]), (71, .tuple #[]), (72, .bool true)] [] E (by kernel_rfl) trivial ?_
           clear E; intro a E
           refine wpList_nil ?_
           refine th_n ?_
           refine c_true E rfl ?_
           refine wp_seq ?_
           refine wp_region_lit ?_
           refine vr tbok 1 [] [(2, .bool false)] [] E (by kernel_rfl) trivial ?_
           clear E; intro a E
           refine wpList_nil ?_
           refine th_n ?_
           refine wp_ret ?_
           refine bl_ret ?_
           refine th_ret ?_
           refine th_ret ?_
           refine bl_ret ?_
           refine th_ret ?_
           obtain rfl := Option.some.inj hP
           refine ret1 E rfl rfl ?_
           exact ⟨_, rfl, rfl, H.sel [] rfl⟩
          ·
           replace E := E_; clear E_
           have h153 : (r132.1 : Int) = 0 := bne_eq_false_iff_eq.1 hb_
           clear hb_; replace hP := ite_t h153 hP
           refine vr tbok 4 [] [(0, .int .u64 raw), (3, .slice (some ⟨g6, 0, none⟩) 2 2), (4, .int .i64 1), (5, .pointer (some ⟨g1, 0, none⟩)), (37, .int .i64 r114.2.1), (38, .bool ((r114.2.1 : Int) != 1)), (41, .int .u8 r132.1), (42, .bool ((r132.1 : Int) != 0)), (45, .int .i64 r132.2), (46, .bool ((r132.2 : Int) != 1)), (48, .bool ((r132.2 : Int) != 1)), (49, .pointer none), (50, .int .i64 1), (51, .bool false), (54, .pointer none), (55, .int .i64 0), (56, .bool false), (59, .pointer none), (60, .int .i64 0), (61, .bool false), (64, .pointer none), (65, .bool false), (68, .pointer none), (69, .slice none 0 0), (70, .int .i64 0), (71, .bool false)] [] E (by kernel_rfl) trivial ?_
           clear E; intro a E
           refine E.cases (t := 48) rfl (fun hb_ E_ => ?_) (fun hb_ E_ => ?_)
           ·
            replace E := E_; clear E_
            have h154 : ¬ ((r132.2 : Int) = 1) := bne_iff_ne.1 hb_
            clear hb_; replace hP := ite_f h154 hP
            refine vr tbok 24 [] [(0, .int .u64 raw), (3, .slice (some ⟨g6, 0, none⟩) 2 2), (4, .int .i64 1), (37, .int .i64 r114.2.1), (38, .bool ((r114.2.1 : Int) != 1)), (41, .int .u8 r132.1), (42, .bool ((r132.1 : Int) != 0)), (45, .int .i64 r132.2), (46, .bool ((r132.2 : Int) != 1)), (49, .tuple #[]), (50, .tuple #[]), (51, .tuple #[]), (54, .tuple #[]), (55, .tuple #[]), (56, .tuple #[]), (59, .tuple #[]), (60, .tuple #[]), (61, .tuple #[]), (64, .tuple #[]), (65, .tuple #[]), (68, .tuple #[]), (69, .tuple #[]), (70, .tuple #[]), (71, .tuple #[]), (72, .bool true)] [] E (by kernel_rfl) trivial ?_
            clear E; intro a E
            refine wpList_nil ?_
            refine th_n ?_
            refine c_true E rfl ?_
            refine wp_seq ?_
            refine wp_region_lit ?_
            refine vr tbok 1 [] [(2, .bool false)] [] E (by kernel_rfl) trivial ?_
            clear E; intro a E
            refine wpList_nil ?_
            refine th_n ?_
            refine wp_ret ?_
            refine bl_ret ?_
            refine th_ret ?_
            refine th_ret ?_
            refine bl_ret ?_
            refine th_ret ?_
            obtain rfl := Option.some.inj hP
            refine ret1 E rfl rfl ?_
            exact ⟨_, rfl, rfl, H.sel [] rfl⟩
           ·
            replace E := E_; clear E_
            have h155 : (r132.2 : Int) = 1 := bne_eq_false_iff_eq.1 hb_
            clear hb_; replace hP := ite_t h155 hP
            refine vr tbok 1 [] [(0, .int .u64 raw), (3, .slice (some ⟨g6, 0, none⟩) 2 2), (4, .int .i64 1), (5, .pointer (some ⟨g1, 0, none⟩)), (37, .int .i64 r114.2.1), (38, .bool ((r114.2.1 : Int) != 1)), (41, .int .u8 r132.1), (42, .bool ((r132.1 : Int) != 0)), (45, .int .i64 r132.2), (46, .bool ((r132.2 : Int) != 1)), (48, .bool false), (49, .pointer (some ⟨g1, 0, none⟩)), (50, .int .i64 1), (51, .bool false), (54, .pointer none), (55, .int .i64 0), (56, .bool false), (59, .pointer none), (60, .int .i64 0), (61, .bool false), (64, .pointer none), (65, .bool false), (68, .pointer none), (69, .slice none 0 0), (70, .int .i64 0), (71, .bool false)] [] E (by kernel_rfl) trivial ?_
            clear E; intro a E
            obtain ⟨r156, h157, hP⟩ := bind_inv hP
            obtain ⟨Fa158, Hc159, hb160⟩ := H.call [12, 11] [(2, false), (3, false), (4, false), (5, false), (6, false), (7, false)] rfl rfl ⟨flat_plain, trivial⟩
            refine e_call E rfl rfl Try.func31 rfl rfl rfl (play_Referee_Back_calls g1 none 0 none 0 none 0 none 0 none 0 none 0 A128 c129 0 ([] : List Bool) ([] : List Int) ([] : List Nd) (0, 0) false ([] : List Int) ([] : List (List Int)) ([] : List Int) r114.2.2.1 r114.2.2.2 false (H.rcap 2 rfl) (H.rcap 3 rfl) (H.rcap 4 rfl) (H.rcap 5 rfl) (H.rcap 6 rfl) (H.rcap 7 rfl) Hc159 h157) ?_
            intro v166 w165 a hR167 E_
            obtain ⟨x_, A170, c171, hr_, rfl, HR169⟩ := hR167
            subst hr_
            replace E := E_ _ rfl; clear E_
            obtain ⟨H_, hc168⟩ := hb160 _ _ HR169 rfl
            replace H := H_; clear H_; try dsimp only [setn, addE, goneL] at H
            refine vr tbok 3 [] [(0, .int .u64 raw), (3, .slice (some ⟨g6, 0, none⟩) 2 2), (4, .int .i64 1), (5, .pointer (some ⟨g1, 0, none⟩)), (37, .int .i64 r114.2.1), (38, .bool ((r114.2.1 : Int) != 1)), (41, .int .u8 r132.1), (42, .bool ((r132.1 : Int) != 0)), (45, .int .i64 r132.2), (46, .bool ((r132.2 : Int) != 1)), (49, .pointer (some ⟨g1, 0, none⟩)), (50, .int .i64 r156.1), (51, .bool ((r156.1 : Int) != 1)), (53, .bool ((r156.1 : Int) != 1)), (54, .pointer none), (55, .int .i64 0), (56, .bool false), (59, .pointer none), (60, .int .i64 0), (61, .bool false), (64, .pointer none), (65, .bool false), (68, .pointer none), (69, .slice none 0 0), (70, .int .i64 0), (71, .bool false)] [] E (by kernel_rfl) trivial ?_
            clear E; intro a E
            refine E.cases (t := 53) rfl (fun hb_ E_ => ?_) (fun hb_ E_ => ?_)
            ·
             replace E := E_; clear E_
             have h174 : ¬ ((r156.1 : Int) = 1) := bne_iff_ne.1 hb_
             clear hb_; replace hP := ite_f h174 hP
             refine vr tbok 19 [] [(0, .int .u64 raw), (3, .slice (some ⟨g6, 0, none⟩) 2 2), (4, .int .i64 1), (37, .int .i64 r114.2.1), (38, .bool ((r114.2.1 : Int) != 1)), (41, .int .u8 r132.1), (42, .bool ((r132.1 : Int) != 0)), (45, .int .i64 r132.2), (46, .bool ((r132.2 : Int) != 1)), (49, .pointer (some ⟨g1, 0, none⟩)), (50, .int .i64 r156.1), (51, .bool ((r156.1 : Int) != 1)), (54, .tuple #[]), (55, .tuple #[]), (56, .tuple #[]), (59, .tuple #[]), (60, .tuple #[]), (61, .tuple #[]), (64, .tuple #[]), (65, .tuple #[]), (68, .tuple #[]), (69, .tuple #[]), (70, .tuple #[]), (71, .tuple #[]), (72, .bool true)] [] E (by kernel_rfl) trivial ?_
             clear E; intro a E
             refine wpList_nil ?_
             refine th_n ?_
             refine c_true E rfl ?_
             refine wp_seq ?_
             refine wp_region_lit ?_
             refine vr tbok 1 [] [(2, .bool false)] [] E (by kernel_rfl) trivial ?_
             clear E; intro a E
             refine wpList_nil ?_
             refine th_n ?_
             refine wp_ret ?_
             refine bl_ret ?_
             refine th_ret ?_
             refine th_ret ?_
             refine bl_ret ?_
             refine th_ret ?_
             obtain rfl := Option.some.inj hP
             refine ret1 E rfl rfl ?_
             exact ⟨_, rfl, rfl, H.sel [] rfl⟩
            ·
             replace E := E_; clear E_
             have h175 : (r156.1 : Int) = 1 := bne_eq_false_iff_eq.1 hb_
             clear hb_; replace hP := ite_t h175 hP
             refine vr tbok 1 [] [(0, .int .u64 raw), (3, .slice (some ⟨g6, 0, none⟩) 2 2), (4, .int .i64 1), (5, .pointer (some ⟨g1, 0, none⟩)), (37, .int .i64 r114.2.1), (38, .bool ((r114.2.1 : Int) != 1)), (41, .int .u8 r132.1), (42, .bool ((r132.1 : Int) != 0)), (45, .int .i64 r132.2), (46, .bool ((r132.2 : Int) != 1)), (49, .pointer (some ⟨g1, 0, none⟩)), (50, .int .i64 r156.1), (51, .bool ((r156.1 : Int) != 1)), (53, .bool false), (54, .pointer (some ⟨g1, 0, none⟩)), (55, .int .i64 0), (56, .bool false), (59, .pointer none), (60, .int .i64 0), (61, .bool false), (64, .pointer none), (65, .bool false), (68, .pointer none), (69, .slice none 0 0), (70, .int .i64 0), (71, .bool false)] [] E (by kernel_rfl) trivial ?_
             clear E; intro a E
             obtain ⟨r176, h177, hP⟩ := bind_inv hP
             obtain ⟨Fa178, Hc179, hb180⟩ := H.call [13, 14] [(2, false), (3, false), (4, false), (5, false), (6, false), (7, false)] rfl rfl ⟨flat_plain, trivial⟩
             refine e_call E rfl rfl Try.func28 rfl rfl rfl (play_Referee_State_calls g1 none 0 none 0 none 0 none 0 none 0 none 0 A170 c171 0 ([] : List Bool) ([] : List Int) ([] : List Nd) (0, 0) false ([] : List Int) ([] : List (List Int)) ([] : List Int) r156.2.1 r156.2.2 false (H.rcap 2 rfl) (H.rcap 3 rfl) (H.rcap 4 rfl) (H.rcap 5 rfl) (H.rcap 6 rfl) (H.rcap 7 rfl) Hc179 h177) ?_
             intro v186 w185 a hR187 E_
             obtain ⟨x_, hr_, rfl, HR189⟩ := hR187
             subst hr_
             replace E := E_ _ rfl; clear E_
             obtain ⟨H_, hc188⟩ := hb180 _ _ HR189 rfl
             replace H := H_; clear H_; try dsimp only [setn, addE, goneL] at H
             refine vr tbok 3 [] [(0, .int .u64 raw), (3, .slice (some ⟨g6, 0, none⟩) 2 2), (4, .int .i64 1), (5, .pointer (some ⟨g1, 0, none⟩)), (37, .int .i64 r114.2.1), (38, .bool ((r114.2.1 : Int) != 1)), (41, .int .u8 r132.1), (42, .bool ((r132.1 : Int) != 0)), (45, .int .i64 r132.2), (46, .bool ((r132.2 : Int) != 1)), (49, .pointer (some ⟨g1, 0, none⟩)), (50, .int .i64 r156.1), (51, .bool ((r156.1 : Int) != 1)), (54, .pointer (some ⟨g1, 0, none⟩)), (55, .int .i64 r176), (56, .bool ((r176 : Int) != 0)), (58, .bool ((r176 : Int) != 0)), (59, .pointer none), (60, .int .i64 0), (61, .bool false), (64, .pointer none), (65, .bool false), (68, .pointer none), (69, .slice none 0 0), (70, .int .i64 0), (71, .bool false)] [] E (by kernel_rfl) trivial ?_
             clear E; intro a E
             refine E.cases (t := 58) rfl (fun hb_ E_ => ?_) (fun hb_ E_ => ?_)
             ·
              replace E := E_; clear E_
              have h192 : ¬ ((r176 : Int) = 0) := bne_iff_ne.1 hb_
              clear hb_; replace hP := ite_f h192 hP
              refine vr tbok 14 [] [(0, .int .u64 raw), (3, .slice (some ⟨g6, 0, none⟩) 2 2), (4, .int .i64 1), (37, .int .i64 r114.2.1), (38, .bool ((r114.2.1 : Int) != 1)), (41, .int .u8 r132.1), (42, .bool ((r132.1 : Int) != 0)), (45, .int .i64 r132.2), (46, .bool ((r132.2 : Int) != 1)), (49, .pointer (some ⟨g1, 0, none⟩)), (50, .int .i64 r156.1), (51, .bool ((r156.1 : Int) != 1)), (54, .pointer (some ⟨g1, 0, none⟩)), (55, .int .i64 r176), (56, .bool ((r176 : Int) != 0)), (59, .tuple #[]), (60, .tuple #[]), (61, .tuple #[]), (64, .tuple #[]), (65, .tuple #[]), (68, .tuple #[]), (69, .tuple #[]), (70, .tuple #[]), (71, .tuple #[]), (72, .bool true)] [] E (by kernel_rfl) trivial ?_
              clear E; intro a E
              refine wpList_nil ?_
              refine th_n ?_
              refine c_true E rfl ?_
              refine wp_seq ?_
              refine wp_region_lit ?_
              refine vr tbok 1 [] [(2, .bool false)] [] E (by kernel_rfl) trivial ?_
              clear E; intro a E
              refine wpList_nil ?_
              refine th_n ?_
              refine wp_ret ?_
              refine bl_ret ?_
              refine th_ret ?_
              refine th_ret ?_
              refine bl_ret ?_
              refine th_ret ?_
              obtain rfl := Option.some.inj hP
              refine ret1 E rfl rfl ?_
              exact ⟨_, rfl, rfl, H.sel [] rfl⟩
             ·
              replace E := E_; clear E_
              have h193 : (r176 : Int) = 0 := bne_eq_false_iff_eq.1 hb_
              clear hb_; replace hP := ite_t h193 hP
              refine vr tbok 1 [] [(0, .int .u64 raw), (3, .slice (some ⟨g6, 0, none⟩) 2 2), (4, .int .i64 1), (5, .pointer (some ⟨g1, 0, none⟩)), (37, .int .i64 r114.2.1), (38, .bool ((r114.2.1 : Int) != 1)), (41, .int .u8 r132.1), (42, .bool ((r132.1 : Int) != 0)), (45, .int .i64 r132.2), (46, .bool ((r132.2 : Int) != 1)), (49, .pointer (some ⟨g1, 0, none⟩)), (50, .int .i64 r156.1), (51, .bool ((r156.1 : Int) != 1)), (54, .pointer (some ⟨g1, 0, none⟩)), (55, .int .i64 r176), (56, .bool ((r176 : Int) != 0)), (58, .bool false), (59, .pointer (some ⟨g1, 0, none⟩)), (60, .int .i64 0), (61, .bool false), (64, .pointer none), (65, .bool false), (68, .pointer none), (69, .slice none 0 0), (70, .int .i64 0), (71, .bool false)] [] E (by kernel_rfl) trivial ?_
              clear E; intro a E
              obtain ⟨r194, h195, hP⟩ := bind_inv hP
              obtain ⟨Fa196, Hc197, hb198⟩ := H.call [16, 15] [(2, false), (3, false), (4, false), (5, false), (6, false), (7, false)] rfl rfl ⟨flat_plain, trivial⟩
              refine e_call E rfl rfl Try.func26 rfl rfl rfl (play_Referee_Rank_calls g1 none 0 none 0 none 0 none 0 none 0 none 0 A170 c171 0 ([] : List Bool) ([] : List Int) ([] : List Nd) (0, 0) false ([] : List Int) ([] : List (List Int)) ([] : List Int) r156.2.1 r156.2.2 false (H.rcap 2 rfl) (H.rcap 3 rfl) (H.rcap 4 rfl) (H.rcap 5 rfl) (H.rcap 6 rfl) (H.rcap 7 rfl) Hc197 h195) ?_
              intro v204 w203 a hR205 E_
              obtain ⟨x_, hr_, rfl, HR207⟩ := hR205
              subst hr_
              replace E := E_ _ rfl; clear E_
              obtain ⟨H_, hc206⟩ := hb198 _ _ HR207 rfl
              replace H := H_; clear H_; try dsimp only [setn, addE, goneL] at H
              refine vr tbok 3 [] [(0, .int .u64 raw), (3, .slice (some ⟨g6, 0, none⟩) 2 2), (4, .int .i64 1), (5, .pointer (some ⟨g1, 0, none⟩)), (37, .int .i64 r114.2.1), (38, .bool ((r114.2.1 : Int) != 1)), (41, .int .u8 r132.1), (42, .bool ((r132.1 : Int) != 0)), (45, .int .i64 r132.2), (46, .bool ((r132.2 : Int) != 1)), (49, .pointer (some ⟨g1, 0, none⟩)), (50, .int .i64 r156.1), (51, .bool ((r156.1 : Int) != 1)), (54, .pointer (some ⟨g1, 0, none⟩)), (55, .int .i64 r176), (56, .bool ((r176 : Int) != 0)), (59, .pointer (some ⟨g1, 0, none⟩)), (60, .int .i64 r194), (61, .bool ((r194 : Int) != 0)), (63, .bool ((r194 : Int) != 0)), (64, .pointer none), (65, .bool false), (68, .pointer none), (69, .slice none 0 0), (70, .int .i64 0), (71, .bool false)] [] E (by kernel_rfl) trivial ?_
              clear E; intro a E
              refine E.cases (t := 63) rfl (fun hb_ E_ => ?_) (fun hb_ E_ => ?_)
              ·
               replace E := E_; clear E_
               have h210 : ¬ ((r194 : Int) = 0) := bne_iff_ne.1 hb_
               clear hb_; replace hP := ite_f h210 hP
               refine vr tbok 9 [] [(0, .int .u64 raw), (3, .slice (some ⟨g6, 0, none⟩) 2 2), (4, .int .i64 1), (37, .int .i64 r114.2.1), (38, .bool ((r114.2.1 : Int) != 1)), (41, .int .u8 r132.1), (42, .bool ((r132.1 : Int) != 0)), (45, .int .i64 r132.2), (46, .bool ((r132.2 : Int) != 1)), (49, .pointer (some ⟨g1, 0, none⟩)), (50, .int .i64 r156.1), (51, .bool ((r156.1 : Int) != 1)), (54, .pointer (some ⟨g1, 0, none⟩)), (55, .int .i64 r176), (56, .bool ((r176 : Int) != 0)), (59, .pointer (some ⟨g1, 0, none⟩)), (60, .int .i64 r194), (61, .bool ((r194 : Int) != 0)), (64, .tuple #[]), (65, .tuple #[]), (68, .tuple #[]), (69, .tuple #[]), (70, .tuple #[]), (71, .tuple #[]), (72, .bool true)] [] E (by kernel_rfl) trivial ?_
               clear E; intro a E
               refine wpList_nil ?_
               refine th_n ?_
               refine c_true E rfl ?_
               refine wp_seq ?_
               refine wp_region_lit ?_
               refine vr tbok 1 [] [(2, .bool false)] [] E (by kernel_rfl) trivial ?_
               clear E; intro a E
               refine wpList_nil ?_
               refine th_n ?_
               refine wp_ret ?_
               refine bl_ret ?_
               refine th_ret ?_
               refine th_ret ?_
               refine bl_ret ?_
               refine th_ret ?_
               obtain rfl := Option.some.inj hP
               refine ret1 E rfl rfl ?_
               exact ⟨_, rfl, rfl, H.sel [] rfl⟩
              ·
               replace E := E_; clear E_
               have h211 : (r194 : Int) = 0 := bne_eq_false_iff_eq.1 hb_
               clear hb_; replace hP := ite_t h211 hP
               refine vr tbok 1 [] [(0, .int .u64 raw), (3, .slice (some ⟨g6, 0, none⟩) 2 2), (4, .int .i64 1), (5, .pointer (some ⟨g1, 0, none⟩)), (37, .int .i64 r114.2.1), (38, .bool ((r114.2.1 : Int) != 1)), (41, .int .u8 r132.1), (42, .bool ((r132.1 : Int) != 0)), (45, .int .i64 r132.2), (46, .bool ((r132.2 : Int) != 1)), (49, .pointer (some ⟨g1, 0, none⟩)), (50, .int .i64 r156.1), (51, .bool ((r156.1 : Int) != 1)), (54, .pointer (some ⟨g1, 0, none⟩)), (55, .int .i64 r176), (56, .bool ((r176 : Int) != 0)), (59, .pointer (some ⟨g1, 0, none⟩)), (60, .int .i64 r194), (61, .bool ((r194 : Int) != 0)), (63, .bool false), (64, .pointer (some ⟨g1, 0, none⟩)), (65, .bool false), (68, .pointer none), (69, .slice none 0 0), (70, .int .i64 0), (71, .bool false)] [] E (by kernel_rfl) trivial ?_
               clear E; intro a E
               obtain ⟨r212, h213, hP⟩ := bind_inv hP
               obtain ⟨Fa214, Hc215, hb216⟩ := H.call [18, 17] [(2, false), (3, false), (4, false), (5, false), (6, false), (7, false)] rfl rfl ⟨flat_plain, trivial⟩
               refine e_call E rfl rfl Try.func27 rfl rfl rfl (play_Referee_Over_calls g1 none 0 none 0 none 0 none 0 none 0 none 0 A170 c171 0 ([] : List Bool) ([] : List Int) ([] : List Nd) (0, 0) false ([] : List Int) ([] : List (List Int)) ([] : List Int) r156.2.1 r156.2.2 false (H.rcap 2 rfl) (H.rcap 3 rfl) (H.rcap 4 rfl) (H.rcap 5 rfl) (H.rcap 6 rfl) (H.rcap 7 rfl) Hc215 h213) ?_
               intro v222 w221 a hR223 E_
               obtain ⟨x_, hr_, rfl, HR225⟩ := hR223
               subst hr_
               replace E := E_ _ rfl; clear E_
               obtain ⟨H_, hc224⟩ := hb216 _ _ HR225 rfl
               replace H := H_; clear H_; try dsimp only [setn, addE, goneL] at H
               refine vr tbok 2 [] [(0, .int .u64 raw), (3, .slice (some ⟨g6, 0, none⟩) 2 2), (4, .int .i64 1), (5, .pointer (some ⟨g1, 0, none⟩)), (37, .int .i64 r114.2.1), (38, .bool ((r114.2.1 : Int) != 1)), (41, .int .u8 r132.1), (42, .bool ((r132.1 : Int) != 0)), (45, .int .i64 r132.2), (46, .bool ((r132.2 : Int) != 1)), (49, .pointer (some ⟨g1, 0, none⟩)), (50, .int .i64 r156.1), (51, .bool ((r156.1 : Int) != 1)), (54, .pointer (some ⟨g1, 0, none⟩)), (55, .int .i64 r176), (56, .bool ((r176 : Int) != 0)), (59, .pointer (some ⟨g1, 0, none⟩)), (60, .int .i64 r194), (61, .bool ((r194 : Int) != 0)), (64, .pointer (some ⟨g1, 0, none⟩)), (65, .bool r212), (67, .bool r212), (68, .pointer none), (69, .slice none 0 0), (70, .int .i64 0), (71, .bool false)] [] E (by kernel_rfl) trivial ?_
               clear E; intro a E
               refine E.cases (t := 67) rfl (fun hb_ E_ => ?_) (fun hb_ E_ => ?_)
               ·
                replace E := E_; clear E_
                have h228 : r212 = true := hb_
                clear hb_; replace hP := ite_t h228 hP
                refine vr tbok 5 [] [(0, .int .u64 raw), (3, .slice (some ⟨g6, 0, none⟩) 2 2), (4, .int .i64 1), (37, .int .i64 r114.2.1), (38, .bool ((r114.2.1 : Int) != 1)), (41, .int .u8 r132.1), (42, .bool ((r132.1 : Int) != 0)), (45, .int .i64 r132.2), (46, .bool ((r132.2 : Int) != 1)), (49, .pointer (some ⟨g1, 0, none⟩)), (50, .int .i64 r156.1), (51, .bool ((r156.1 : Int) != 1)), (54, .pointer (some ⟨g1, 0, none⟩)), (55, .int .i64 r176), (56, .bool ((r176 : Int) != 0)), (59, .pointer (some ⟨g1, 0, none⟩)), (60, .int .i64 r194), (61, .bool ((r194 : Int) != 0)), (64, .pointer (some ⟨g1, 0, none⟩)), (65, .bool r212), (68, .tuple #[]), (69, .tuple #[]), (70, .tuple #[]), (71, .tuple #[]), (72, .bool true)] [] E (by kernel_rfl) trivial ?_
                clear E; intro a E
                refine wpList_nil ?_
                refine th_n ?_
                refine c_true E rfl ?_
                refine wp_seq ?_
                refine wp_region_lit ?_
                refine vr tbok 1 [] [(2, .bool false)] [] E (by kernel_rfl) trivial ?_
                clear E; intro a E
                refine wpList_nil ?_
                refine th_n ?_
                refine wp_ret ?_
                refine bl_ret ?_
                refine th_ret ?_
                refine th_ret ?_
                refine bl_ret ?_
                refine th_ret ?_
                obtain rfl := Option.some.inj hP
                refine ret1 E rfl rfl ?_
                exact ⟨_, rfl, rfl, H.sel [] rfl⟩
               ·
                replace E := E_; clear E_
                have h229 : ¬ (r212 = true) := (ne_true_of_eq_false hb_)
                clear hb_; replace hP := ite_f h229 hP
                refine vr tbok 1 [] [(0, .int .u64 raw), (3, .slice (some ⟨g6, 0, none⟩) 2 2), (4, .int .i64 1), (37, .int .i64 r114.2.1), (38, .bool ((r114.2.1 : Int) != 1)), (41, .int .u8 r132.1), (42, .bool ((r132.1 : Int) != 0)), (45, .int .i64 r132.2), (46, .bool ((r132.2 : Int) != 1)), (49, .pointer (some ⟨g1, 0, none⟩)), (50, .int .i64 r156.1), (51, .bool ((r156.1 : Int) != 1)), (54, .pointer (some ⟨g1, 0, none⟩)), (55, .int .i64 r176), (56, .bool ((r176 : Int) != 0)), (59, .pointer (some ⟨g1, 0, none⟩)), (60, .int .i64 r194), (61, .bool ((r194 : Int) != 0)), (64, .pointer (some ⟨g1, 0, none⟩)), (65, .bool r212), (67, .bool false), (68, .pointer (some ⟨g1, 0, none⟩)), (69, .slice none 0 0), (70, .int .i64 0), (71, .bool false)] [] E (by kernel_rfl) trivial ?_
                clear E; intro a E
                obtain ⟨r230, h231, hP⟩ := bind_inv hP
                obtain ⟨Fa232, Hc233, hb234⟩ := H.call [20, 19] [(2, false), (3, false), (4, false), (5, false), (6, false), (7, false)] rfl rfl ⟨flat_plain, trivial⟩
                refine e_call E rfl rfl Try.func30 rfl rfl rfl (play_Referee_Trace_calls g1 none 0 none 0 none 0 none 0 none 0 none 0 A170 c171 0 ([] : List Bool) ([] : List Int) ([] : List Nd) (0, 0) false ([] : List Int) ([] : List (List Int)) ([] : List Int) r156.2.1 r156.2.2 false (H.rcap 2 rfl) (H.rcap 3 rfl) (H.rcap 4 rfl) (H.rcap 5 rfl) (H.rcap 6 rfl) (H.rcap 7 rfl) Hc233 h231) ?_
                intro v240 w239 a hR241 E_
                obtain ⟨x_, A244, c245, hr_, rfl, HR243⟩ := hR241
                subst hr_
                replace E := E_ _ rfl; clear E_
                obtain ⟨H_, hc242⟩ := hb234 _ _ HR243 rfl
                replace H := H_; clear H_; try dsimp only [setn, addE, goneL] at H
                refine vr tbok 3 [] [(0, .int .u64 raw), (3, .slice (some ⟨g6, 0, none⟩) 2 2), (4, .int .i64 1), (37, .int .i64 r114.2.1), (38, .bool ((r114.2.1 : Int) != 1)), (41, .int .u8 r132.1), (42, .bool ((r132.1 : Int) != 0)), (45, .int .i64 r132.2), (46, .bool ((r132.2 : Int) != 1)), (49, .pointer (some ⟨g1, 0, none⟩)), (50, .int .i64 r156.1), (51, .bool ((r156.1 : Int) != 1)), (54, .pointer (some ⟨g1, 0, none⟩)), (55, .int .i64 r176), (56, .bool ((r176 : Int) != 0)), (59, .pointer (some ⟨g1, 0, none⟩)), (60, .int .i64 r194), (61, .bool ((r194 : Int) != 0)), (64, .pointer (some ⟨g1, 0, none⟩)), (65, .bool r212), (68, .pointer (some ⟨g1, 0, none⟩)), (69, .slice A244 (List.length r230) c245), (70, .int .i64 (((List.length r230) : Nat) : Int)), (71, .bool (((((List.length r230) : Nat) : Int) : Int) != 0)), (72, .bool (((((List.length r230) : Nat) : Int) : Int) != 0))] [] E (by kernel_rfl) trivial ?_
                clear E; intro a E
                refine wpList_nil ?_
                refine th_n ?_
                refine E.cases (t := 72) rfl (fun hb_ E_ => ?_) (fun hb_ E_ => ?_)
                ·
                 replace E := E_; clear E_
                 have h249 : ¬ (((((List.length r230) : Nat) : Int) : Int) = 0) := bne_iff_ne.1 hb_
                 clear hb_; replace hP := ite_f h249 hP
                 refine c_true E rfl ?_
                 refine wp_seq ?_
                 refine wp_region_lit ?_
                 refine vr tbok 1 [] [(2, .bool false)] [] E (by kernel_rfl) trivial ?_
                 clear E; intro a E
                 refine wpList_nil ?_
                 refine th_n ?_
                 refine wp_ret ?_
                 refine bl_ret ?_
                 refine th_ret ?_
                 refine th_ret ?_
                 refine bl_ret ?_
                 refine th_ret ?_
                 obtain rfl := Option.some.inj hP
                 refine ret1 E rfl rfl ?_
                 exact ⟨_, rfl, rfl, H.sel [] rfl⟩
                ·
                 replace E := E_; clear E_
                 have h250 : ((((List.length r230) : Nat) : Int) : Int) = 0 := bne_eq_false_iff_eq.1 hb_
                 clear hb_; replace hP := ite_t h250 hP
                 refine c_false E rfl ?_
                 refine wp_skip ?_
                 refine bl_n ?_
                 refine th_n ?_
                 refine wp_region_lit ?_
                 refine vr tbok 3 [.int .i64 2] [(0, .int .u64 raw), (3, .slice (some ⟨g6, 0, none⟩) 2 2), (4, .int .i64 2), (37, .int .i64 r114.2.1), (38, .bool ((r114.2.1 : Int) != 1)), (41, .int .u8 r132.1), (42, .bool ((r132.1 : Int) != 0)), (45, .int .i64 r132.2), (46, .bool ((r132.2 : Int) != 1)), (49, .pointer (some ⟨g1, 0, none⟩)), (50, .int .i64 r156.1), (51, .bool ((r156.1 : Int) != 1)), (54, .pointer (some ⟨g1, 0, none⟩)), (55, .int .i64 r176), (56, .bool ((r176 : Int) != 0)), (59, .pointer (some ⟨g1, 0, none⟩)), (60, .int .i64 r194), (61, .bool ((r194 : Int) != 0)), (64, .pointer (some ⟨g1, 0, none⟩)), (65, .bool r212), (68, .pointer (some ⟨g1, 0, none⟩)), (69, .slice A244 (List.length r230) c245), (70, .int .i64 (((List.length r230) : Nat) : Int)), (71, .bool (((((List.length r230) : Nat) : Int) : Int) != 0))] [IntKind.i64.wrap (1 + 1) = 2] E (by kernel_rfl) ((show _ = _ from by decide)) ?_
                 clear E; intro a E
                 refine wpList_nil ?_
                 refine th_n ?_
                 refine unr (m := 0) ?_
                 refine wp_seq ?_
                 refine wp_seq ?_
                 refine wp_region_lit ?_
                 refine vr tbok 4 [] [(0, .int .u64 raw), (3, .slice (some ⟨g6, 0, none⟩) 2 2), (4, .int .i64 2), (16, .bool false), (37, .int .i64 r114.2.1), (38, .bool ((r114.2.1 : Int) != 1)), (41, .int .u8 r132.1), (42, .bool ((r132.1 : Int) != 0)), (45, .int .i64 r132.2), (46, .bool ((r132.2 : Int) != 1)), (49, .pointer (some ⟨g1, 0, none⟩)), (50, .int .i64 r156.1), (51, .bool ((r156.1 : Int) != 1)), (54, .pointer (some ⟨g1, 0, none⟩)), (55, .int .i64 r176), (56, .bool ((r176 : Int) != 0)), (59, .pointer (some ⟨g1, 0, none⟩)), (60, .int .i64 r194), (61, .bool ((r194 : Int) != 0)), (64, .pointer (some ⟨g1, 0, none⟩)), (65, .bool r212), (68, .pointer (some ⟨g1, 0, none⟩)), (69, .slice A244 (List.length r230) c245), (70, .int .i64 (((List.length r230) : Nat) : Int)), (71, .bool (((((List.length r230) : Nat) : Int) : Int) != 0))] [] E (by kernel_rfl) trivial ?_
                 clear E; intro a E
                 refine wpList_nil ?_
                 refine th_n ?_
                 refine c_false E rfl ?_
                 refine wp_exit ?_
                 refine th_exit ?_
                 refine th_exit ?_
                 refine bl_hit ?_
                 refine th_n ?_
                 refine wp_seq ?_
                 refine wp_region_lit ?_
                 obtain ⟨r251, h252, hP⟩ := bind_inv hP
                 obtain ⟨Fa253, Hc254, hb255⟩ := H.call [] [] rfl rfl trivial
                 refine e_call E rfl rfl Try.func22 rfl rfl rfl (law25_awake_calls    Hc254 h252) ?_
                 rintro v256 w257 a ⟨rfl, HR258⟩ E_
                 replace E := E_ _ rfl; clear E_
                 obtain ⟨H_, hc259⟩ := hb255 _ _ HR258 rfl
                 replace H := H_; clear H_; try dsimp only [setn, addE, goneL] at H
                 refine vr tbok 1 [] [(2, .bool r251)] [] E (by kernel_rfl) trivial ?_
                 clear E; intro a E
                 refine wpList_nil ?_
                 refine th_n ?_
                 refine wp_ret ?_
                 obtain rfl := Option.some.inj hP
                 refine ret1 E rfl rfl ?_
                 exact ⟨_, rfl, rfl, H.sel [] rfl⟩

end Go.V
