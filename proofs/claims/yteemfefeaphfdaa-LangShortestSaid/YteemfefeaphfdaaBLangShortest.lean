/- Plain functions, and the calls that give them. -/
import Derived.Test.YteemfefeaphfdaaA4
set_option linter.all false
set_option linter.unusedVariables false
set_option linter.unnecessarySimpa false
set_option linter.unusedSimpArgs false
namespace Go.V
open Go Go.Proofs
/-! rejoinder/rejoinderlaw19.LangShortest -/
def law19_LangShortest_j0 (N : Nat) (aProps : Int) (aAccept : List Bool) (aGuard : List Int) (aNodes : List Nd) (t : List Int) : Option Bool :=
    Option.bind (law19_Large N aProps aAccept aGuard aNodes) fun r70 =>
    if r70 = true then
      some true
    else
      if 40 < (((List.length t) : Nat) : Int) then
        some true
      else
        Option.bind (guard_Check N aProps aAccept aGuard aNodes) fun r83 =>
        if (r83 : Int) = 0 then
          Option.bind (letter_Trace N aProps t) fun r94 =>
          some ((r94 : Int) != 0)
        else
          some true
def law19_LangShortest_j1 (N : Nat) (r116 : Bool × Int) (r125 : (List Int) × Bool × Int) (r137 : (List Int) × Bool × Int) : Option Bool :=
    if (r116.2 : Int) = 0 then
      if (r125.2.2 : Int) = 0 then
        some ((r137.2.2 : Int) != 0)
      else
        some true
    else
      some true
def law19_LangShortest_j2 (N : Nat) (aAccept : List Bool) (r125 : (List Int) × Bool × Int) (r137 : (List Int) × Bool × Int) (r165 : Bool × Int) (r174 : Bool × Int) : Option Bool :=
    if (r165.2 : Int) = 0 then
      if (r174.2 : Int) = 0 then
        if r125.2.1 = true then
          if r165.1 = true then
            if (((List.length aAccept) : Nat) : Int) ≤ (((List.length r125.1) : Nat) : Int) then
              some true
            else
              if r137.2.1 = true then
                if r174.1 = true then
                  some true
                else
                  if ((((List.length r137.1) : Nat) : Int) : Int) = 0 then
                    some true
                  else
                    if (((List.length aAccept) : Nat) : Int) < (((List.length r137.1) : Nat) : Int) then
                      some true
                    else
                      if r125.2.1 = true then
                        if r137.2.1 = true then
                          some false
                        else
                          some (decide (0 < (((List.length r137.1) : Nat) : Int)))
                      else
                        if 0 < (((List.length r125.1) : Nat) : Int) then
                          some true
                        else
                          if r137.2.1 = true then
                            some false
                          else
                            some (decide (0 < (((List.length r137.1) : Nat) : Int)))
              else
                if r125.2.1 = true then
                  if r137.2.1 = true then
                    some false
                  else
                    some (decide (0 < (((List.length r137.1) : Nat) : Int)))
                else
                  if 0 < (((List.length r125.1) : Nat) : Int) then
                    some true
                  else
                    if r137.2.1 = true then
                      some false
                    else
                      some (decide (0 < (((List.length r137.1) : Nat) : Int)))
          else
            some true
        else
          if r137.2.1 = true then
            if r174.1 = true then
              some true
            else
              if ((((List.length r137.1) : Nat) : Int) : Int) = 0 then
                some true
              else
                if (((List.length aAccept) : Nat) : Int) < (((List.length r137.1) : Nat) : Int) then
                  some true
                else
                  if r125.2.1 = true then
                    if r137.2.1 = true then
                      some false
                    else
                      some (decide (0 < (((List.length r137.1) : Nat) : Int)))
                  else
                    if 0 < (((List.length r125.1) : Nat) : Int) then
                      some true
                    else
                      if r137.2.1 = true then
                        some false
                      else
                        some (decide (0 < (((List.length r137.1) : Nat) : Int)))
          else
            if r125.2.1 = true then
              if r137.2.1 = true then
                some false
              else
                some (decide (0 < (((List.length r137.1) : Nat) : Int)))
            else
              if 0 < (((List.length r125.1) : Nat) : Int) then
                some true
              else
                if r137.2.1 = true then
                  some false
                else
                  some (decide (0 < (((List.length r137.1) : Nat) : Int)))
      else
        some true
    else
      some true
def law19_LangShortest_j3 (N : Nat) (t : List Int) (r22 : Bool) (r125 : (List Int) × Bool × Int) : Option Bool :=
    if r22 = true then
      if r125.2.1 = true then
        Option.bind (law19_ahead N t r125.1) fun r329 =>
        some (!r329)
      else
        some false
    else
      some false
def law19_LangShortest_j4 (N : Nat) (t : List Int) (r22 : Bool) (r137 : (List Int) × Bool × Int) : Option Bool :=
    if r22 = true then
      if ((((List.length t) : Nat) : Int) : Int) = 0 then
        some true
      else
        if r137.2.1 = true then
          Option.bind (law19_ahead N t r137.1) fun r366 =>
          some (!r366)
        else
          some false
    else
      some false
def law19_LangShortest (N : Nat) (aProps : Int) (aAccept : List Bool) (aGuard : List Int) (aNodes : List Nd) (t : List Int) : Option Bool :=
  Option.bind (law19_awake N) fun r22 =>
  Option.bind (law19_LangShortest_j0 N aProps aAccept aGuard aNodes t) fun x65 =>
  if x65 = true then
    some r22
  else
    Option.bind (law19_Real N aProps aAccept aGuard aNodes) fun r105 =>
    if r105 = true then
      Option.bind (lang_Accepts N aProps aAccept aGuard aNodes t) fun r116 =>
      Option.bind (lang_Shortest N aProps aAccept aGuard aNodes) fun r125 =>
      Option.bind (lang_Missing N aProps aAccept aGuard aNodes) fun r137 =>
      Option.bind (law19_LangShortest_j1 N r116 r125 r137) fun x154 =>
      if x154 = true then
        some false
      else
        Option.bind (lang_Accepts N aProps aAccept aGuard aNodes r125.1) fun r165 =>
        Option.bind (lang_Accepts N aProps aAccept aGuard aNodes r137.1) fun r174 =>
        Option.bind (law19_LangShortest_j2 N aAccept r125 r137 r165 r174) fun x242 =>
        if x242 = true then
          some false
        else
          if r116.1 = true then
            Option.bind (law19_LangShortest_j3 N t r22 r125) fun x322 =>
            some x322
          else
            Option.bind (law19_LangShortest_j4 N t r22 r137) fun x357 =>
            some x357
    else
      some false
set_option maxRecDepth 100000 in
set_option maxHeartbeats 4000000 in
theorem law19_LangShortest_calls {N : Nat} {S Fa : Nat → Prop} {w0 : World} {r : Bool} (A1 : Option Addr) (c2 : Nat) (A5 : Option Addr) (c6 : Nat) (A9 : Option Addr) (c10 : Nat) (A13 : Option Addr) (c14 : Nat) (aProps : Int) (aAccept : List Bool) (aGuard : List Int) (aNodes : List Nd) (t : List Int) (hk3 : List.length aAccept ≤ c2) (hk7 : List.length aGuard ≤ c6) (hk11 : List.length aNodes ≤ c10) (hk15 : List.length t ≤ c14) (H : Hp S Fa w0 w0 [.ro false cBool A1 aAccept, .ro false (cInt .i64) A5 aGuard, .ro false cNode A9 aNodes, .ro false (cInt .u8) A13 t]) (hP : law19_LangShortest N aProps aAccept aGuard aNodes t = some r) :
    Calls Try.prog 3 #[.agg #[.int .i64 aProps, .slice A1 (List.length aAccept) c2, .slice A5 (List.length aGuard) c6, .slice A9 (List.length aNodes) c10], .slice A13 (List.length t) c14] w0 fun e w' => ∃ v, e = .returned v ∧ v = .bool r ∧ Hp S Fa w0 w' [] := by
 refine enterV (n := 166) Try.func3 rfl rfl rfl ?_
 intro a E
 replace E := E.pick [(0, .agg #[.int .i64 aProps, .slice A1 (List.length aAccept) c2, .slice A5 (List.length aGuard) c6, .slice A9 (List.length aNodes) c10]), (1, .slice A13 (List.length t) c14)] ⟨rfl, rfl, trivial⟩
 rw [law19_LangShortest] at hP
 refine wp_seq ?_
 refine wp_region_lit ?_
 refine h_box H E rfl rfl rfl ?_
 intro w18 g17 a hc19 hg21 H_ E_
 replace E := E_ _ rfl; clear E_
 replace H := H_; clear H_; try dsimp only [setn, addE, goneL] at H
 refine vr tbok 1 [] [(1, .slice A13 (List.length t) c14), (2, .pointer (some ⟨g17, 0, none⟩))] [] E (by kernel_rfl) trivial ?_
 clear E; intro a E
 refine wpList_nil ?_
 refine th_n ?_
 refine wp_seq ?_
 refine wp_region_lit ?_
 obtain ⟨r22, h23, hP⟩ := bind_inv hP
 obtain ⟨Fa24, Hc25, hb26⟩ := H.call [] [] rfl rfl trivial
 refine e_call E rfl rfl Try.func7 rfl rfl rfl (law19_awake_calls    Hc25 h23) ?_
 rintro v27 w28 a ⟨rfl, HR29⟩ E_
 replace E := E_ _ rfl; clear E_
 obtain ⟨H_, hc30⟩ := hb26 _ _ HR29 rfl
 replace H := H_; clear H_; try dsimp only [setn, addE, goneL] at H
 refine vr tbok 1 [] [(1, .slice A13 (List.length t) c14), (2, .pointer (some ⟨g17, 0, none⟩)), (5, .bool r22)] [] E (by kernel_rfl) trivial ?_
 clear E; intro a E
 refine wpList_nil ?_
 refine th_n ?_
 refine wp_seq ?_
 refine wp_seq ?_
 obtain ⟨x65, h66, hK67⟩ := bind_inv hP
 clear hP
 refine meet_cut (fun a w69 => ∃ (x68 : Bool), Fr a 166 [(1, .slice A13 (List.length t) c14), (2, .pointer (some ⟨g17, 0, none⟩)), (5, .bool r22), (37, .bool x68)] ∧ Hp S Fa w0 w69 [.ro false (cInt .u8) A13 t, .ro false cBool A1 aAccept, .ro false (cInt .i64) A5 aGuard, .ro false cNode A9 aNodes, .box g17 26 [.int .i64 aProps, .slice A1 (List.length aAccept) c2, .slice A5 (List.length aGuard) c6, .slice A9 (List.length aNodes) c10]] ∧ x65 = x68) ?_ ?_
 ·
  have hP := h66; clear h66; rw [law19_LangShortest_j0] at hP
  refine wp_region_lit ?_
  refine vr tbok 1 [.agg #[.int .i64 aProps, .slice A1 (List.length aAccept) c2, .slice A5 (List.length aGuard) c6, .slice A9 (List.length aNodes) c10]] [(1, .slice A13 (List.length t) c14), (2, .pointer (some ⟨g17, 0, none⟩)), (5, .bool r22), (19, .agg #[.int .i64 aProps, .slice A1 (List.length aAccept) c2, .slice A5 (List.length aGuard) c6, .slice A9 (List.length aNodes) c10])] [cellsAt w28 g17 (0) [.int .i64 aProps, .slice A1 (List.length aAccept) c2, .slice A5 (List.length aGuard) c6, .slice A9 (List.length aNodes) c10]] E (by kernel_rfl) ((H.box 4 rfl).sub 0 _ rfl) ?_
  clear E; intro a E
  obtain ⟨r70, h71, hP⟩ := bind_inv hP
  obtain ⟨Fa72, Hc73, hb74⟩ := H.call [] [(0, false), (1, false), (2, false)] rfl rfl trivial
  refine e_call E rfl rfl Try.func8 rfl rfl rfl (law19_Large_calls A1 c2 A5 c6 A9 c10 aProps aAccept aGuard aNodes hk3 hk7 hk11 Hc73 h71) ?_
  rintro v75 w76 a ⟨rfl, HR77⟩ E_
  replace E := E_ _ rfl; clear E_
  obtain ⟨H_, hc78⟩ := hb74 _ _ HR77 rfl
  replace H := H_; clear H_; try dsimp only [setn, addE, goneL] at H
  refine vr tbok 1 [] [(1, .slice A13 (List.length t) c14), (2, .pointer (some ⟨g17, 0, none⟩)), (5, .bool r22), (21, .bool r70)] [] E (by kernel_rfl) trivial ?_
  clear E; intro a E
  refine E.cases (t := 21) rfl (fun hb_ E_ => ?_) (fun hb_ E_ => ?_)
  ·
   replace E := E_; clear E_
   have h79 : r70 = true := hb_
   clear hb_; replace hP := ite_t h79 hP
   refine vr tbok 16 [] [(1, .slice A13 (List.length t) c14), (2, .pointer (some ⟨g17, 0, none⟩)), (5, .bool r22), (37, .bool true)] [] E (by kernel_rfl) trivial ?_
   clear E; intro a E
   refine wpList_nil ?_
   have hx_ := Option.some.inj hP
   exact .inl ⟨rfl, true, E.pick _ ⟨rfl, rfl, rfl, rfl, trivial⟩, H.sel [3, 0, 1, 2, 4] rfl, hx_.symm⟩
  replace E := E_; clear E_
  have h80 : ¬ (r70 = true) := (ne_true_of_eq_false hb_)
  clear hb_; replace hP := ite_f h80 hP
  refine vr tbok 5 [] [(1, .slice A13 (List.length t) c14), (2, .pointer (some ⟨g17, 0, none⟩)), (5, .bool r22), (26, .bool (decide (40 < (((List.length t) : Nat) : Int))))] [] E (by kernel_rfl) trivial ?_
  clear E; intro a E
  refine E.cases (t := 26) rfl (fun hb_ E_ => ?_) (fun hb_ E_ => ?_)
  ·
   replace E := E_; clear E_
   have h81 : 40 < (((List.length t) : Nat) : Int) := of_decide_eq_true hb_
   clear hb_; replace hP := ite_t h81 hP
   refine vr tbok 11 [] [(1, .slice A13 (List.length t) c14), (2, .pointer (some ⟨g17, 0, none⟩)), (5, .bool r22), (37, .bool true)] [] E (by kernel_rfl) trivial ?_
   clear E; intro a E
   refine wpList_nil ?_
   have hx_ := Option.some.inj hP
   exact .inl ⟨rfl, true, E.pick _ ⟨rfl, rfl, rfl, rfl, trivial⟩, H.sel [3, 0, 1, 2, 4] rfl, hx_.symm⟩
  replace E := E_; clear E_
  have h82 : ¬ (40 < (((List.length t) : Nat) : Int)) := of_decide_eq_false hb_
  clear hb_; replace hP := ite_f h82 hP
  refine vr tbok 1 [.agg #[.int .i64 aProps, .slice A1 (List.length aAccept) c2, .slice A5 (List.length aGuard) c6, .slice A9 (List.length aNodes) c10]] [(1, .slice A13 (List.length t) c14), (2, .pointer (some ⟨g17, 0, none⟩)), (5, .bool r22), (26, .bool false), (27, .agg #[.int .i64 aProps, .slice A1 (List.length aAccept) c2, .slice A5 (List.length aGuard) c6, .slice A9 (List.length aNodes) c10])] [cellsAt w76 g17 (0) [.int .i64 aProps, .slice A1 (List.length aAccept) c2, .slice A5 (List.length aGuard) c6, .slice A9 (List.length aNodes) c10]] E (by kernel_rfl) ((H.box 4 rfl).sub 0 _ rfl) ?_
  clear E; intro a E
  obtain ⟨r83, h84, hP⟩ := bind_inv hP
  obtain ⟨Fa85, Hc86, hb87⟩ := H.call [] [(0, false), (1, false), (2, false)] rfl rfl trivial
  refine e_call E rfl rfl Try.func9 rfl rfl rfl (guard_Check_calls A1 c2 A5 c6 A9 c10 aProps aAccept aGuard aNodes hk3 hk7 hk11 Hc86 h84) ?_
  rintro v88 w89 a ⟨rfl, HR90⟩ E_
  replace E := E_ _ rfl; clear E_
  obtain ⟨H_, hc91⟩ := hb87 _ _ HR90 rfl
  replace H := H_; clear H_; try dsimp only [setn, addE, goneL] at H
  refine vr tbok 3 [] [(1, .slice A13 (List.length t) c14), (2, .pointer (some ⟨g17, 0, none⟩)), (5, .bool r22), (31, .bool ((r83 : Int) != 0))] [] E (by kernel_rfl) trivial ?_
  clear E; intro a E
  refine E.cases (t := 31) rfl (fun hb_ E_ => ?_) (fun hb_ E_ => ?_)
  ·
   replace E := E_; clear E_
   have h92 : ¬ ((r83 : Int) = 0) := bne_iff_ne.1 hb_
   clear hb_; replace hP := ite_f h92 hP
   refine vr tbok 6 [] [(1, .slice A13 (List.length t) c14), (2, .pointer (some ⟨g17, 0, none⟩)), (5, .bool r22), (37, .bool true)] [] E (by kernel_rfl) trivial ?_
   clear E; intro a E
   refine wpList_nil ?_
   have hx_ := Option.some.inj hP
   exact .inl ⟨rfl, true, E.pick _ ⟨rfl, rfl, rfl, rfl, trivial⟩, H.sel [3, 0, 1, 2, 4] rfl, hx_.symm⟩
  replace E := E_; clear E_
  have h93 : (r83 : Int) = 0 := bne_eq_false_iff_eq.1 hb_
  clear hb_; replace hP := ite_t h93 hP
  refine vr tbok 3 [.int .i64 aProps] [(1, .slice A13 (List.length t) c14), (2, .pointer (some ⟨g17, 0, none⟩)), (5, .bool r22), (31, .bool false), (33, .int .i64 aProps), (34, .slice A13 (List.length t) c14)] [World.cell? w89 ⟨g17, 0, none⟩ = some (.int .i64 aProps)] E (by kernel_rfl) ((H.box 4 rfl).cell (j := 0) rfl) ?_
  clear E; intro a E
  obtain ⟨r94, h95, hP⟩ := bind_inv hP
  obtain ⟨Fa96, Hc97, hb98⟩ := H.call [] [(3, false)] rfl rfl trivial
  refine e_call E rfl rfl Try.func10 rfl rfl rfl (letter_Trace_calls A13 c14 aProps t hk15 Hc97 h95) ?_
  rintro v99 w100 a ⟨rfl, HR101⟩ E_
  replace E := E_ _ rfl; clear E_
  obtain ⟨H_, hc102⟩ := hb98 _ _ HR101 rfl
  replace H := H_; clear H_; try dsimp only [setn, addE, goneL] at H
  refine vr tbok 2 [] [(1, .slice A13 (List.length t) c14), (2, .pointer (some ⟨g17, 0, none⟩)), (5, .bool r22), (37, .bool ((r94 : Int) != 0))] [] E (by kernel_rfl) trivial ?_
  clear E; intro a E
  refine wpList_nil ?_
  have hx_ := Option.some.inj hP
  exact .inl ⟨rfl, (r94 : Int) != 0, E.pick _ ⟨rfl, rfl, rfl, rfl, trivial⟩, H.sel [3, 0, 1, 2, 4] rfl, hx_.symm⟩
 clear E H h66; rintro a w69 ⟨x68, E, H, hx_⟩
 subst hx_; have hP := hK67; clear hK67
 refine th_n ?_
 refine E.cases (t := 37) rfl (fun hb_ E_ => ?_) (fun hb_ E_ => ?_)
 ·
  replace E := E_; clear E_
  have h103 : x65 = true := hb_
  clear hb_; replace hP := ite_t h103 hP
  refine c_true E rfl ?_
  refine wp_seq ?_
  refine wp_region_lit ?_
  refine vr tbok 2 [] [(4, .bool r22)] [] E (by kernel_rfl) trivial ?_
  clear E; intro a E
  refine wpList_nil ?_
  refine th_n ?_
  refine wp_ret ?_
  refine th_ret ?_
  obtain rfl := Option.some.inj hP
  refine ret1 E rfl rfl ?_
  exact ⟨_, rfl, rfl, H.sel [] rfl⟩
 replace E := E_; clear E_
 have h104 : ¬ (x65 = true) := (ne_true_of_eq_false hb_)
 clear hb_; replace hP := ite_f h104 hP
 refine c_false E rfl ?_
 refine wp_skip ?_
 refine th_n ?_
 refine wp_seq ?_
 refine wp_seq ?_
 refine wp_region_lit ?_
 refine vr tbok 1 [.agg #[.int .i64 aProps, .slice A1 (List.length aAccept) c2, .slice A5 (List.length aGuard) c6, .slice A9 (List.length aNodes) c10]] [(1, .slice A13 (List.length t) c14), (2, .pointer (some ⟨g17, 0, none⟩)), (5, .bool r22), (39, .agg #[.int .i64 aProps, .slice A1 (List.length aAccept) c2, .slice A5 (List.length aGuard) c6, .slice A9 (List.length aNodes) c10])] [cellsAt w69 g17 (0) [.int .i64 aProps, .slice A1 (List.length aAccept) c2, .slice A5 (List.length aGuard) c6, .slice A9 (List.length aNodes) c10]] E (by kernel_rfl) ((H.box 4 rfl).sub 0 _ rfl) ?_
 clear E; intro a E
 obtain ⟨r105, h106, hP⟩ := bind_inv hP
 obtain ⟨Fa107, Hc108, hb109⟩ := H.call [] [(1, false), (2, false), (3, false)] rfl rfl trivial
 refine e_call E rfl rfl Try.func11 rfl rfl rfl (law19_Real_calls A1 c2 A5 c6 A9 c10 aProps aAccept aGuard aNodes hk3 hk7 hk11 Hc108 h106) ?_
 rintro v110 w111 a ⟨rfl, HR112⟩ E_
 replace E := E_ _ rfl; clear E_
 obtain ⟨H_, hc113⟩ := hb109 _ _ HR112 rfl
 replace H := H_; clear H_; try dsimp only [setn, addE, goneL] at H
 refine vr tbok 1 [] [(1, .slice A13 (List.length t) c14), (2, .pointer (some ⟨g17, 0, none⟩)), (5, .bool r22), (41, .bool (!r105))] [] E (by kernel_rfl) trivial ?_
 clear E; intro a E
 refine wpList_nil ?_
 refine th_n ?_
 refine E.cases (t := 41) rfl (fun hb_ E_ => ?_) (fun hb_ E_ => ?_)
 ·
  replace E := E_; clear E_
  have h114 : ¬ (r105 = true) := (ne_true_of_eq_false (not_t hb_))
  clear hb_; replace hP := ite_f h114 hP
  refine c_true E rfl ?_
  refine wp_seq ?_
  refine wp_region_lit ?_
  refine vr tbok 1 [] [(4, .bool false)] [] E (by kernel_rfl) trivial ?_
  clear E; intro a E
  refine wpList_nil ?_
  refine th_n ?_
  refine wp_ret ?_
  refine th_ret ?_
  obtain rfl := Option.some.inj hP
  refine ret1 E rfl rfl ?_
  exact ⟨_, rfl, rfl, H.sel [] rfl⟩
 replace E := E_; clear E_
 have h115 : r105 = true := (not_f hb_)
 clear hb_; replace hP := ite_t h115 hP
 refine c_false E rfl ?_
 refine wp_skip ?_
 refine th_n ?_
 refine wp_seq ?_
 refine wp_region_lit ?_
 refine vr tbok 2 [.agg #[.int .i64 aProps, .slice A1 (List.length aAccept) c2, .slice A5 (List.length aGuard) c6, .slice A9 (List.length aNodes) c10]] [(1, .slice A13 (List.length t) c14), (2, .pointer (some ⟨g17, 0, none⟩)), (5, .bool r22), (43, .agg #[.int .i64 aProps, .slice A1 (List.length aAccept) c2, .slice A5 (List.length aGuard) c6, .slice A9 (List.length aNodes) c10]), (44, .slice A13 (List.length t) c14)] [cellsAt w111 g17 (0) [.int .i64 aProps, .slice A1 (List.length aAccept) c2, .slice A5 (List.length aGuard) c6, .slice A9 (List.length aNodes) c10]] E (by kernel_rfl) ((H.box 4 rfl).sub 0 _ rfl) ?_
 clear E; intro a E
 obtain ⟨r116, h117, hP⟩ := bind_inv hP
 obtain ⟨Fa118, Hc119, hb120⟩ := H.call [] [(1, false), (2, false), (3, false), (0, false)] rfl rfl trivial
 refine e_call E rfl rfl Try.func12 rfl rfl rfl (lang_Accepts_calls A1 c2 A5 c6 A9 c10 A13 c14 aProps aAccept aGuard aNodes t hk3 hk7 hk11 hk15 Hc119 h117) ?_
 rintro v121 w122 a ⟨rfl, HR123⟩ E_
 replace E := E_ _ rfl; clear E_
 obtain ⟨H_, hc124⟩ := hb120 _ _ HR123 rfl
 replace H := H_; clear H_; try dsimp only [setn, addE, goneL] at H
 refine vr tbok 5 [] [(1, .slice A13 (List.length t) c14), (2, .pointer (some ⟨g17, 0, none⟩)), (5, .bool r22), (6, .bool r116.1), (7, .int .i64 r116.2)] [] E (by kernel_rfl) trivial ?_
 clear E; intro a E
 refine wpList_nil ?_
 refine th_n ?_
 refine wp_seq ?_
 refine wp_region_lit ?_
 refine vr tbok 1 [.agg #[.int .i64 aProps, .slice A1 (List.length aAccept) c2, .slice A5 (List.length aGuard) c6, .slice A9 (List.length aNodes) c10]] [(1, .slice A13 (List.length t) c14), (2, .pointer (some ⟨g17, 0, none⟩)), (5, .bool r22), (6, .bool r116.1), (7, .int .i64 r116.2), (49, .agg #[.int .i64 aProps, .slice A1 (List.length aAccept) c2, .slice A5 (List.length aGuard) c6, .slice A9 (List.length aNodes) c10])] [cellsAt w122 g17 (0) [.int .i64 aProps, .slice A1 (List.length aAccept) c2, .slice A5 (List.length aGuard) c6, .slice A9 (List.length aNodes) c10]] E (by kernel_rfl) ((H.box 4 rfl).sub 0 _ rfl) ?_
 clear E; intro a E
 obtain ⟨r125, h126, hP⟩ := bind_inv hP
 obtain ⟨Fa127, Hc128, hb129⟩ := H.call [] [(1, false), (2, false), (3, false)] rfl rfl trivial
 refine e_call E rfl rfl Try.func13 rfl rfl rfl (lang_Shortest_calls A1 c2 A5 c6 A9 c10 aProps aAccept aGuard aNodes hk3 hk7 hk11 Hc128 h126) ?_
 rintro v130 w131 a ⟨A134, c135, rfl, HR132⟩ E_
 replace E := E_ _ rfl; clear E_
 obtain ⟨H_, hc133⟩ := hb129 _ _ HR132 rfl
 replace H := H_; clear H_; try dsimp only [setn, addE, goneL] at H
 refine vr tbok 7 [] [(1, .slice A13 (List.length t) c14), (2, .pointer (some ⟨g17, 0, none⟩)), (5, .bool r22), (6, .bool r116.1), (7, .int .i64 r116.2), (8, .slice A134 (List.length r125.1) c135), (9, .bool r125.2.1), (10, .int .i64 r125.2.2)] [] E (by kernel_rfl) trivial ?_
 clear E; intro a E
 refine wpList_nil ?_
 refine th_n ?_
 refine wp_seq ?_
 refine wp_region_lit ?_
 refine vr tbok 1 [.agg #[.int .i64 aProps, .slice A1 (List.length aAccept) c2, .slice A5 (List.length aGuard) c6, .slice A9 (List.length aNodes) c10]] [(1, .slice A13 (List.length t) c14), (2, .pointer (some ⟨g17, 0, none⟩)), (5, .bool r22), (6, .bool r116.1), (7, .int .i64 r116.2), (8, .slice A134 (List.length r125.1) c135), (9, .bool r125.2.1), (10, .int .i64 r125.2.2), (55, .agg #[.int .i64 aProps, .slice A1 (List.length aAccept) c2, .slice A5 (List.length aGuard) c6, .slice A9 (List.length aNodes) c10])] [cellsAt w131 g17 (0) [.int .i64 aProps, .slice A1 (List.length aAccept) c2, .slice A5 (List.length aGuard) c6, .slice A9 (List.length aNodes) c10]] E (by kernel_rfl) ((H.box 4 rfl).sub 0 _ rfl) ?_
 clear E; intro a E
 obtain ⟨r137, h138, hP⟩ := bind_inv hP
 obtain ⟨Fa139, Hc140, hb141⟩ := H.call [] [(1, false), (2, false), (3, false)] rfl rfl trivial
 refine e_call E rfl rfl Try.func14 rfl rfl rfl (lang_Missing_calls A1 c2 A5 c6 A9 c10 aProps aAccept aGuard aNodes hk3 hk7 hk11 Hc140 h138) ?_
 rintro v142 w143 a ⟨A146, c147, rfl, HR144⟩ E_
 replace E := E_ _ rfl; clear E_
 obtain ⟨H_, hc145⟩ := hb141 _ _ HR144 rfl
 replace H := H_; clear H_; try dsimp only [setn, addE, goneL] at H
 refine vr tbok 7 [] [(1, .slice A13 (List.length t) c14), (2, .pointer (some ⟨g17, 0, none⟩)), (5, .bool r22), (6, .bool r116.1), (7, .int .i64 r116.2), (8, .slice A134 (List.length r125.1) c135), (9, .bool r125.2.1), (10, .int .i64 r125.2.2), (11, .slice A146 (List.length r137.1) c147), (12, .bool r137.2.1), (13, .int .i64 r137.2.2)] [] E (by kernel_rfl) trivial ?_
 clear E; intro a E
 refine wpList_nil ?_
 refine th_n ?_
 refine wp_seq ?_
 refine wp_seq ?_
 obtain ⟨x154, h155, hK156⟩ := bind_inv hP
 clear hP
 refine meet_cut (fun a w158 => ∃ (x157 : Bool), Fr a 166 [(1, .slice A13 (List.length t) c14), (2, .pointer (some ⟨g17, 0, none⟩)), (5, .bool r22), (6, .bool r116.1), (8, .slice A134 (List.length r125.1) c135), (9, .bool r125.2.1), (11, .slice A146 (List.length r137.1) c147), (12, .bool r137.2.1), (69, .bool x157)] ∧ Hp S Fa w0 w158 [.ro false (cInt .u8) A13 t, .ro false cBool A1 aAccept, .ro false (cInt .i64) A5 aGuard, .ro false cNode A9 aNodes, .box g17 26 [.int .i64 aProps, .slice A1 (List.length aAccept) c2, .slice A5 (List.length aGuard) c6, .slice A9 (List.length aNodes) c10], .row true (cInt .u8) 52 A134 c135 r125.1, .row true (cInt .u8) 52 A146 c147 r137.1] ∧ x154 = x157) ?_ ?_
 ·
  have hP := h155; clear h155; rw [law19_LangShortest_j1] at hP
  refine wp_region_lit ?_
  refine vr tbok 3 [] [(1, .slice A13 (List.length t) c14), (2, .pointer (some ⟨g17, 0, none⟩)), (5, .bool r22), (6, .bool r116.1), (8, .slice A134 (List.length r125.1) c135), (9, .bool r125.2.1), (10, .int .i64 r125.2.2), (11, .slice A146 (List.length r137.1) c147), (12, .bool r137.2.1), (13, .int .i64 r137.2.2), (62, .bool ((r116.2 : Int) != 0))] [] E (by kernel_rfl) trivial ?_
  clear E; intro a E
  refine E.cases (t := 62) rfl (fun hb_ E_ => ?_) (fun hb_ E_ => ?_)
  ·
   replace E := E_; clear E_
   have h159 : ¬ ((r116.2 : Int) = 0) := bne_iff_ne.1 hb_
   clear hb_; replace hP := ite_f h159 hP
   refine vr tbok 7 [] [(1, .slice A13 (List.length t) c14), (2, .pointer (some ⟨g17, 0, none⟩)), (5, .bool r22), (6, .bool r116.1), (8, .slice A134 (List.length r125.1) c135), (9, .bool r125.2.1), (11, .slice A146 (List.length r137.1) c147), (12, .bool r137.2.1), (69, .bool true)] [] E (by kernel_rfl) trivial ?_
   clear E; intro a E
   refine wpList_nil ?_
   have hx_ := Option.some.inj hP
   exact .inl ⟨rfl, true, E.pick _ ⟨rfl, rfl, rfl, rfl, rfl, rfl, rfl, rfl, rfl, trivial⟩, H.sel [0, 1, 2, 3, 4, 5, 6] rfl, hx_.symm⟩
  replace E := E_; clear E_
  have h160 : (r116.2 : Int) = 0 := bne_eq_false_iff_eq.1 hb_
  clear hb_; replace hP := ite_t h160 hP
  refine vr tbok 4 [] [(1, .slice A13 (List.length t) c14), (2, .pointer (some ⟨g17, 0, none⟩)), (5, .bool r22), (6, .bool r116.1), (8, .slice A134 (List.length r125.1) c135), (9, .bool r125.2.1), (11, .slice A146 (List.length r137.1) c147), (12, .bool r137.2.1), (13, .int .i64 r137.2.2), (66, .bool ((r125.2.2 : Int) != 0))] [] E (by kernel_rfl) trivial ?_
  clear E; intro a E
  refine E.cases (t := 66) rfl (fun hb_ E_ => ?_) (fun hb_ E_ => ?_)
  ·
   replace E := E_; clear E_
   have h161 : ¬ ((r125.2.2 : Int) = 0) := bne_iff_ne.1 hb_
   clear hb_; replace hP := ite_f h161 hP
   refine vr tbok 3 [] [(1, .slice A13 (List.length t) c14), (2, .pointer (some ⟨g17, 0, none⟩)), (5, .bool r22), (6, .bool r116.1), (8, .slice A134 (List.length r125.1) c135), (9, .bool r125.2.1), (11, .slice A146 (List.length r137.1) c147), (12, .bool r137.2.1), (69, .bool true)] [] E (by kernel_rfl) trivial ?_
   clear E; intro a E
   refine wpList_nil ?_
   have hx_ := Option.some.inj hP
   exact .inl ⟨rfl, true, E.pick _ ⟨rfl, rfl, rfl, rfl, rfl, rfl, rfl, rfl, rfl, trivial⟩, H.sel [0, 1, 2, 3, 4, 5, 6] rfl, hx_.symm⟩
  replace E := E_; clear E_
  have h162 : (r125.2.2 : Int) = 0 := bne_eq_false_iff_eq.1 hb_
  clear hb_; replace hP := ite_t h162 hP
  refine vr tbok 3 [] [(1, .slice A13 (List.length t) c14), (2, .pointer (some ⟨g17, 0, none⟩)), (5, .bool r22), (6, .bool r116.1), (8, .slice A134 (List.length r125.1) c135), (9, .bool r125.2.1), (11, .slice A146 (List.length r137.1) c147), (12, .bool r137.2.1), (69, .bool ((r137.2.2 : Int) != 0))] [] E (by kernel_rfl) trivial ?_
  clear E; intro a E
  refine wpList_nil ?_
  have hx_ := Option.some.inj hP
  exact .inl ⟨rfl, (r137.2.2 : Int) != 0, E.pick _ ⟨rfl, rfl, rfl, rfl, rfl, rfl, rfl, rfl, rfl, trivial⟩, H.sel [0, 1, 2, 3, 4, 5, 6] rfl, hx_.symm⟩
 clear E H h155; rintro a w158 ⟨x157, E, H, hx_⟩
 subst hx_; have hP := hK156; clear hK156
 refine th_n ?_
 refine E.cases (t := 69) rfl (fun hb_ E_ => ?_) (fun hb_ E_ => ?_)
 ·
  replace E := E_; clear E_
  have h163 : x154 = true := hb_
  clear hb_; replace hP := ite_t h163 hP
  refine c_true E rfl ?_
  refine wp_seq ?_
  refine wp_region_lit ?_
  refine vr tbok 1 [] [(4, .bool false)] [] E (by kernel_rfl) trivial ?_
  clear E; intro a E
  refine wpList_nil ?_
  refine th_n ?_
  refine wp_ret ?_
  refine th_ret ?_
  obtain rfl := Option.some.inj hP
  refine ret1 E rfl rfl ?_
  exact ⟨_, rfl, rfl, H.sel [] rfl⟩
 replace E := E_; clear E_
 have h164 : ¬ (x154 = true) := (ne_true_of_eq_false hb_)
 clear hb_; replace hP := ite_f h164 hP
 refine c_false E rfl ?_
 refine wp_skip ?_
 refine th_n ?_
 refine wp_seq ?_
 refine wp_region_lit ?_
 refine vr tbok 2 [.agg #[.int .i64 aProps, .slice A1 (List.length aAccept) c2, .slice A5 (List.length aGuard) c6, .slice A9 (List.length aNodes) c10]] [(1, .slice A13 (List.length t) c14), (2, .pointer (some ⟨g17, 0, none⟩)), (5, .bool r22), (6, .bool r116.1), (8, .slice A134 (List.length r125.1) c135), (9, .bool r125.2.1), (11, .slice A146 (List.length r137.1) c147), (12, .bool r137.2.1), (71, .agg #[.int .i64 aProps, .slice A1 (List.length aAccept) c2, .slice A5 (List.length aGuard) c6, .slice A9 (List.length aNodes) c10]), (72, .slice A134 (List.length r125.1) c135)] [cellsAt w158 g17 (0) [.int .i64 aProps, .slice A1 (List.length aAccept) c2, .slice A5 (List.length aGuard) c6, .slice A9 (List.length aNodes) c10]] E (by kernel_rfl) ((H.box 4 rfl).sub 0 _ rfl) ?_
 clear E; intro a E
 obtain ⟨r165, h166, hP⟩ := bind_inv hP
 obtain ⟨Fa167, Hc168, hb169⟩ := H.call [] [(1, false), (2, false), (3, false), (5, false)] rfl rfl trivial
 refine e_call E rfl rfl Try.func12 rfl rfl rfl (lang_Accepts_calls A1 c2 A5 c6 A9 c10 A134 c135 aProps aAccept aGuard aNodes r125.1 hk3 hk7 hk11 (H.rcap 5 rfl) Hc168 h166) ?_
 rintro v170 w171 a ⟨rfl, HR172⟩ E_
 replace E := E_ _ rfl; clear E_
 obtain ⟨H_, hc173⟩ := hb169 _ _ HR172 rfl
 replace H := H_; clear H_; try dsimp only [setn, addE, goneL] at H
 refine vr tbok 5 [] [(1, .slice A13 (List.length t) c14), (2, .pointer (some ⟨g17, 0, none⟩)), (5, .bool r22), (6, .bool r116.1), (8, .slice A134 (List.length r125.1) c135), (9, .bool r125.2.1), (11, .slice A146 (List.length r137.1) c147), (12, .bool r137.2.1), (14, .bool r165.1), (15, .int .i64 r165.2)] [] E (by kernel_rfl) trivial ?_
 clear E; intro a E
 refine wpList_nil ?_
 refine th_n ?_
 refine wp_seq ?_
 refine wp_region_lit ?_
 refine vr tbok 2 [.agg #[.int .i64 aProps, .slice A1 (List.length aAccept) c2, .slice A5 (List.length aGuard) c6, .slice A9 (List.length aNodes) c10]] [(1, .slice A13 (List.length t) c14), (2, .pointer (some ⟨g17, 0, none⟩)), (5, .bool r22), (6, .bool r116.1), (8, .slice A134 (List.length r125.1) c135), (9, .bool r125.2.1), (11, .slice A146 (List.length r137.1) c147), (12, .bool r137.2.1), (14, .bool r165.1), (15, .int .i64 r165.2), (77, .agg #[.int .i64 aProps, .slice A1 (List.length aAccept) c2, .slice A5 (List.length aGuard) c6, .slice A9 (List.length aNodes) c10]), (78, .slice A146 (List.length r137.1) c147)] [cellsAt w171 g17 (0) [.int .i64 aProps, .slice A1 (List.length aAccept) c2, .slice A5 (List.length aGuard) c6, .slice A9 (List.length aNodes) c10]] E (by kernel_rfl) ((H.box 4 rfl).sub 0 _ rfl) ?_
 clear E; intro a E
 obtain ⟨r174, h175, hP⟩ := bind_inv hP
 obtain ⟨Fa176, Hc177, hb178⟩ := H.call [] [(1, false), (2, false), (3, false), (6, false)] rfl rfl trivial
 refine e_call E rfl rfl Try.func12 rfl rfl rfl (lang_Accepts_calls A1 c2 A5 c6 A9 c10 A146 c147 aProps aAccept aGuard aNodes r137.1 hk3 hk7 hk11 (H.rcap 6 rfl) Hc177 h175) ?_
 rintro v179 w180 a ⟨rfl, HR181⟩ E_
 replace E := E_ _ rfl; clear E_
 obtain ⟨H_, hc182⟩ := hb178 _ _ HR181 rfl
 replace H := H_; clear H_; try dsimp only [setn, addE, goneL] at H
 refine vr tbok 5 [] [(1, .slice A13 (List.length t) c14), (2, .pointer (some ⟨g17, 0, none⟩)), (5, .bool r22), (6, .bool r116.1), (8, .slice A134 (List.length r125.1) c135), (9, .bool r125.2.1), (11, .slice A146 (List.length r137.1) c147), (12, .bool r137.2.1), (14, .bool r165.1), (15, .int .i64 r165.2), (16, .bool r174.1), (17, .int .i64 r174.2)] [] E (by kernel_rfl) trivial ?_
 clear E; intro a E
 refine wpList_nil ?_
 refine th_n ?_
 refine wp_seq ?_
 refine wp_seq ?_
 obtain ⟨x242, h243, hK244⟩ := bind_inv hP
 clear hP
 refine meet_cut (fun a w246 => ∃ (x245 : Bool), Fr a 166 [(1, .slice A13 (List.length t) c14), (5, .bool r22), (6, .bool r116.1), (8, .slice A134 (List.length r125.1) c135), (9, .bool r125.2.1), (11, .slice A146 (List.length r137.1) c147), (12, .bool r137.2.1), (139, .bool x245)] ∧ Hp S Fa w0 w246 [.ro false (cInt .u8) A13 t, .row true (cInt .u8) 52 A134 c135 r125.1, .row true (cInt .u8) 52 A146 c147 r137.1] ∧ x242 = x245) ?_ ?_
 ·
  have hP := h243; clear h243; rw [law19_LangShortest_j2] at hP
  refine wp_region_lit ?_
  refine vr tbok 3 [] [(1, .slice A13 (List.length t) c14), (2, .pointer (some ⟨g17, 0, none⟩)), (5, .bool r22), (6, .bool r116.1), (8, .slice A134 (List.length r125.1) c135), (9, .bool r125.2.1), (11, .slice A146 (List.length r137.1) c147), (12, .bool r137.2.1), (14, .bool r165.1), (16, .bool r174.1), (17, .int .i64 r174.2), (84, .bool ((r165.2 : Int) != 0))] [] E (by kernel_rfl) trivial ?_
  clear E; intro a E
  refine E.cases (t := 84) rfl (fun hb_ E_ => ?_) (fun hb_ E_ => ?_)
  ·
   replace E := E_; clear E_
   have h247 : ¬ ((r165.2 : Int) = 0) := bne_iff_ne.1 hb_
   clear hb_; replace hP := ite_f h247 hP
   refine vr tbok 55 [] [(1, .slice A13 (List.length t) c14), (5, .bool r22), (6, .bool r116.1), (8, .slice A134 (List.length r125.1) c135), (9, .bool r125.2.1), (11, .slice A146 (List.length r137.1) c147), (12, .bool r137.2.1), (139, .bool true)] [] E (by kernel_rfl) trivial ?_
   clear E; intro a E
   refine wpList_nil ?_
   have hx_ := Option.some.inj hP
   exact .inl ⟨rfl, true, E.pick _ ⟨rfl, rfl, rfl, rfl, rfl, rfl, rfl, rfl, trivial⟩, H.sel [0, 5, 6] rfl, hx_.symm⟩
  replace E := E_; clear E_
  have h248 : (r165.2 : Int) = 0 := bne_eq_false_iff_eq.1 hb_
  clear hb_; replace hP := ite_t h248 hP
  refine vr tbok 4 [] [(1, .slice A13 (List.length t) c14), (2, .pointer (some ⟨g17, 0, none⟩)), (5, .bool r22), (6, .bool r116.1), (8, .slice A134 (List.length r125.1) c135), (9, .bool r125.2.1), (11, .slice A146 (List.length r137.1) c147), (12, .bool r137.2.1), (14, .bool r165.1), (16, .bool r174.1), (88, .bool ((r174.2 : Int) != 0))] [] E (by kernel_rfl) trivial ?_
  clear E; intro a E
  refine E.cases (t := 88) rfl (fun hb_ E_ => ?_) (fun hb_ E_ => ?_)
  ·
   replace E := E_; clear E_
   have h249 : ¬ ((r174.2 : Int) = 0) := bne_iff_ne.1 hb_
   clear hb_; replace hP := ite_f h249 hP
   refine vr tbok 51 [] [(1, .slice A13 (List.length t) c14), (5, .bool r22), (6, .bool r116.1), (8, .slice A134 (List.length r125.1) c135), (9, .bool r125.2.1), (11, .slice A146 (List.length r137.1) c147), (12, .bool r137.2.1), (139, .bool true)] [] E (by kernel_rfl) trivial ?_
   clear E; intro a E
   refine wpList_nil ?_
   have hx_ := Option.some.inj hP
   exact .inl ⟨rfl, true, E.pick _ ⟨rfl, rfl, rfl, rfl, rfl, rfl, rfl, rfl, trivial⟩, H.sel [0, 5, 6] rfl, hx_.symm⟩
  replace E := E_; clear E_
  have h250 : (r174.2 : Int) = 0 := bne_eq_false_iff_eq.1 hb_
  clear hb_; replace hP := ite_t h250 hP
  refine vr tbok 2 [] [(1, .slice A13 (List.length t) c14), (2, .pointer (some ⟨g17, 0, none⟩)), (5, .bool r22), (6, .bool r116.1), (8, .slice A134 (List.length r125.1) c135), (9, .bool r125.2.1), (11, .slice A146 (List.length r137.1) c147), (12, .bool r137.2.1), (14, .bool r165.1), (16, .bool r174.1), (88, .bool false), (90, .bool r125.2.1)] [] E (by kernel_rfl) trivial ?_
  clear E; intro a E
  refine E.cases (t := 90) rfl (fun hb_ E_ => ?_) (fun hb_ E_ => ?_)
  ·
   replace E := E_; clear E_
   have h251 : r125.2.1 = true := hb_
   clear hb_; replace hP := ite_t h251 hP
   refine vr tbok 3 [] [(1, .slice A13 (List.length t) c14), (2, .pointer (some ⟨g17, 0, none⟩)), (5, .bool r22), (6, .bool r116.1), (8, .slice A134 (List.length r125.1) c135), (9, .bool r125.2.1), (11, .slice A146 (List.length r137.1) c147), (12, .bool r137.2.1), (16, .bool r174.1), (88, .bool false), (90, .bool true), (93, .bool (!r165.1))] [] E (by kernel_rfl) trivial ?_
   clear E; intro a E
   refine E.cases (t := 93) rfl (fun hb_ E_ => ?_) (fun hb_ E_ => ?_)
   ·
    replace E := E_; clear E_
    have h252 : ¬ (r165.1 = true) := (ne_true_of_eq_false (not_t hb_))
    clear hb_; replace hP := ite_f h252 hP
    refine vr tbok 46 [] [(1, .slice A13 (List.length t) c14), (5, .bool r22), (6, .bool r116.1), (8, .slice A134 (List.length r125.1) c135), (9, .bool r125.2.1), (11, .slice A146 (List.length r137.1) c147), (12, .bool r137.2.1), (139, .bool true)] [] E (by kernel_rfl) trivial ?_
    clear E; intro a E
    refine wpList_nil ?_
    have hx_ := Option.some.inj hP
    exact .inl ⟨rfl, true, E.pick _ ⟨rfl, rfl, rfl, rfl, rfl, rfl, rfl, rfl, trivial⟩, H.sel [0, 5, 6] rfl, hx_.symm⟩
   replace E := E_; clear E_
   have h253 : r165.1 = true := (not_f hb_)
   clear hb_; replace hP := ite_t h253 hP
   refine vr tbok 10 [.slice A1 (List.length aAccept) c2] [(1, .slice A13 (List.length t) c14), (2, .pointer (some ⟨g17, 0, none⟩)), (5, .bool r22), (6, .bool r116.1), (8, .slice A134 (List.length r125.1) c135), (9, .bool r125.2.1), (11, .slice A146 (List.length r137.1) c147), (12, .bool r137.2.1), (16, .bool r174.1), (103, .bool (decide ((((List.length aAccept) : Nat) : Int) ≤ (((List.length r125.1) : Nat) : Int))))] [World.cell? w180 ⟨g17, 1, none⟩ = some (.slice A1 (List.length aAccept) c2)] E (by kernel_rfl) ((H.box 4 rfl).cell (j := 1) rfl) ?_
   clear E; intro a E
   refine E.cases (t := 103) rfl (fun hb_ E_ => ?_) (fun hb_ E_ => ?_)
   ·
    replace E := E_; clear E_
    have h254 : (((List.length aAccept) : Nat) : Int) ≤ (((List.length r125.1) : Nat) : Int) := of_decide_eq_true hb_
    clear hb_; replace hP := ite_t h254 hP
    refine vr tbok 36 [] [(1, .slice A13 (List.length t) c14), (5, .bool r22), (6, .bool r116.1), (8, .slice A134 (List.length r125.1) c135), (9, .bool r125.2.1), (11, .slice A146 (List.length r137.1) c147), (12, .bool r137.2.1), (139, .bool true)] [] E (by kernel_rfl) trivial ?_
    clear E; intro a E
    refine wpList_nil ?_
    have hx_ := Option.some.inj hP
    exact .inl ⟨rfl, true, E.pick _ ⟨rfl, rfl, rfl, rfl, rfl, rfl, rfl, rfl, trivial⟩, H.sel [0, 5, 6] rfl, hx_.symm⟩
   replace E := E_; clear E_
   have h255 : ¬ ((((List.length aAccept) : Nat) : Int) ≤ (((List.length r125.1) : Nat) : Int)) := of_decide_eq_false hb_
   clear hb_; replace hP := ite_f h255 hP
   refine vr tbok 2 [] [(1, .slice A13 (List.length t) c14), (2, .pointer (some ⟨g17, 0, none⟩)), (5, .bool r22), (6, .bool r116.1), (8, .slice A134 (List.length r125.1) c135), (9, .bool r125.2.1), (11, .slice A146 (List.length r137.1) c147), (12, .bool r137.2.1), (16, .bool r174.1), (103, .bool false), (105, .bool r137.2.1)] [] E (by kernel_rfl) trivial ?_
   clear E; intro a E
   refine E.cases (t := 105) rfl (fun hb_ E_ => ?_) (fun hb_ E_ => ?_)
   ·
    replace E := E_; clear E_
    have h256 : r137.2.1 = true := hb_
    clear hb_; replace hP := ite_t h256 hP
    refine vr tbok 2 [] [(1, .slice A13 (List.length t) c14), (2, .pointer (some ⟨g17, 0, none⟩)), (5, .bool r22), (6, .bool r116.1), (8, .slice A134 (List.length r125.1) c135), (9, .bool r125.2.1), (11, .slice A146 (List.length r137.1) c147), (12, .bool r137.2.1), (103, .bool false), (105, .bool true), (107, .bool r174.1)] [] E (by kernel_rfl) trivial ?_
    clear E; intro a E
    refine E.cases (t := 107) rfl (fun hb_ E_ => ?_) (fun hb_ E_ => ?_)
    ·
     replace E := E_; clear E_
     have h257 : r174.1 = true := hb_
     clear hb_; replace hP := ite_t h257 hP
     refine vr tbok 32 [] [(1, .slice A13 (List.length t) c14), (5, .bool r22), (6, .bool r116.1), (8, .slice A134 (List.length r125.1) c135), (9, .bool r125.2.1), (11, .slice A146 (List.length r137.1) c147), (12, .bool r137.2.1), (139, .bool true)] [] E (by kernel_rfl) trivial ?_
     clear E; intro a E
     refine wpList_nil ?_
     have hx_ := Option.some.inj hP
     exact .inl ⟨rfl, true, E.pick _ ⟨rfl, rfl, rfl, rfl, rfl, rfl, rfl, rfl, trivial⟩, H.sel [0, 5, 6] rfl, hx_.symm⟩
    replace E := E_; clear E_
    have h258 : ¬ (r174.1 = true) := (ne_true_of_eq_false hb_)
    clear hb_; replace hP := ite_f h258 hP
    refine vr tbok 5 [] [(1, .slice A13 (List.length t) c14), (2, .pointer (some ⟨g17, 0, none⟩)), (5, .bool r22), (6, .bool r116.1), (8, .slice A134 (List.length r125.1) c135), (9, .bool r125.2.1), (11, .slice A146 (List.length r137.1) c147), (12, .bool r137.2.1), (103, .bool false), (105, .bool true), (112, .bool (((((List.length r137.1) : Nat) : Int) : Int) == 0))] [] E (by kernel_rfl) trivial ?_
    clear E; intro a E
    refine E.cases (t := 112) rfl (fun hb_ E_ => ?_) (fun hb_ E_ => ?_)
    ·
     replace E := E_; clear E_
     have h259 : ((((List.length r137.1) : Nat) : Int) : Int) = 0 := eq_of_beq hb_
     clear hb_; replace hP := ite_t h259 hP
     refine vr tbok 27 [] [(1, .slice A13 (List.length t) c14), (5, .bool r22), (6, .bool r116.1), (8, .slice A134 (List.length r125.1) c135), (9, .bool r125.2.1), (11, .slice A146 (List.length r137.1) c147), (12, .bool r137.2.1), (139, .bool true)] [] E (by kernel_rfl) trivial ?_
     clear E; intro a E
     refine wpList_nil ?_
     have hx_ := Option.some.inj hP
     exact .inl ⟨rfl, true, E.pick _ ⟨rfl, rfl, rfl, rfl, rfl, rfl, rfl, rfl, trivial⟩, H.sel [0, 5, 6] rfl, hx_.symm⟩
    replace E := E_; clear E_
    have h260 : ¬ (((((List.length r137.1) : Nat) : Int) : Int) = 0) := ne_of_beq_false hb_
    clear hb_; replace hP := ite_f h260 hP
    refine vr tbok 10 [.slice A1 (List.length aAccept) c2] [(1, .slice A13 (List.length t) c14), (5, .bool r22), (6, .bool r116.1), (8, .slice A134 (List.length r125.1) c135), (9, .bool r125.2.1), (11, .slice A146 (List.length r137.1) c147), (12, .bool r137.2.1), (122, .bool (decide ((((List.length aAccept) : Nat) : Int) < (((List.length r137.1) : Nat) : Int))))] [World.cell? w180 ⟨g17, 1, none⟩ = some (.slice A1 (List.length aAccept) c2)] E (by kernel_rfl) ((H.box 4 rfl).cell (j := 1) rfl) ?_
    clear E; intro a E
    refine E.cases (t := 122) rfl (fun hb_ E_ => ?_) (fun hb_ E_ => ?_)
    ·
     replace E := E_; clear E_
     have h261 : (((List.length aAccept) : Nat) : Int) < (((List.length r137.1) : Nat) : Int) := of_decide_eq_true hb_
     clear hb_; replace hP := ite_t h261 hP
     refine vr tbok 17 [] [(1, .slice A13 (List.length t) c14), (5, .bool r22), (6, .bool r116.1), (8, .slice A134 (List.length r125.1) c135), (9, .bool r125.2.1), (11, .slice A146 (List.length r137.1) c147), (12, .bool r137.2.1), (139, .bool true)] [] E (by kernel_rfl) trivial ?_
     clear E; intro a E
     refine wpList_nil ?_
     have hx_ := Option.some.inj hP
     exact .inl ⟨rfl, true, E.pick _ ⟨rfl, rfl, rfl, rfl, rfl, rfl, rfl, rfl, trivial⟩, H.sel [0, 5, 6] rfl, hx_.symm⟩
    replace E := E_; clear E_
    have h262 : ¬ ((((List.length aAccept) : Nat) : Int) < (((List.length r137.1) : Nat) : Int)) := of_decide_eq_false hb_
    clear hb_; replace hP := ite_f h262 hP
    refine vr tbok 3 [] [(1, .slice A13 (List.length t) c14), (5, .bool r22), (6, .bool r116.1), (8, .slice A134 (List.length r125.1) c135), (9, .bool r125.2.1), (11, .slice A146 (List.length r137.1) c147), (12, .bool r137.2.1), (122, .bool false), (125, .bool (!r125.2.1))] [] E (by kernel_rfl) trivial ?_
    clear E; intro a E
    refine E.cases (t := 125) rfl (fun hb_ E_ => ?_) (fun hb_ E_ => ?_)
    ·
     replace E := E_; clear E_
     have h263 : ¬ (r125.2.1 = true) := (ne_true_of_eq_false (not_t hb_))
     clear hb_; replace hP := ite_f h263 hP
     refine vr tbok 6 [] [(1, .slice A13 (List.length t) c14), (5, .bool r22), (6, .bool r116.1), (8, .slice A134 (List.length r125.1) c135), (9, .bool r125.2.1), (11, .slice A146 (List.length r137.1) c147), (12, .bool r137.2.1), (131, .bool (decide (0 < (((List.length r125.1) : Nat) : Int))))] [] E (by kernel_rfl) trivial ?_
     clear E; intro a E
     refine E.cases (t := 131) rfl (fun hb_ E_ => ?_) (fun hb_ E_ => ?_)
     ·
      replace E := E_; clear E_
      have h264 : 0 < (((List.length r125.1) : Nat) : Int) := of_decide_eq_true hb_
      clear hb_; replace hP := ite_t h264 hP
      refine vr tbok 8 [] [(1, .slice A13 (List.length t) c14), (5, .bool r22), (6, .bool r116.1), (8, .slice A134 (List.length r125.1) c135), (9, .bool r125.2.1), (11, .slice A146 (List.length r137.1) c147), (12, .bool r137.2.1), (139, .bool true)] [] E (by kernel_rfl) trivial ?_
      clear E; intro a E
      refine wpList_nil ?_
      have hx_ := Option.some.inj hP
      exact .inl ⟨rfl, true, E.pick _ ⟨rfl, rfl, rfl, rfl, rfl, rfl, rfl, rfl, trivial⟩, H.sel [0, 5, 6] rfl, hx_.symm⟩
     replace E := E_; clear E_
     have h265 : ¬ (0 < (((List.length r125.1) : Nat) : Int)) := of_decide_eq_false hb_
     clear hb_; replace hP := ite_f h265 hP
     refine vr tbok 3 [] [(1, .slice A13 (List.length t) c14), (5, .bool r22), (6, .bool r116.1), (8, .slice A134 (List.length r125.1) c135), (9, .bool r125.2.1), (11, .slice A146 (List.length r137.1) c147), (12, .bool r137.2.1), (131, .bool false), (134, .bool (!r137.2.1))] [] E (by kernel_rfl) trivial ?_
     clear E; intro a E
     refine E.cases (t := 134) rfl (fun hb_ E_ => ?_) (fun hb_ E_ => ?_)
     ·
      replace E := E_; clear E_
      have h266 : ¬ (r137.2.1 = true) := (ne_true_of_eq_false (not_t hb_))
      clear hb_; replace hP := ite_f h266 hP
      refine vr tbok 5 [] [(1, .slice A13 (List.length t) c14), (5, .bool r22), (6, .bool r116.1), (8, .slice A134 (List.length r125.1) c135), (9, .bool r125.2.1), (11, .slice A146 (List.length r137.1) c147), (12, .bool r137.2.1), (139, .bool (decide (0 < (((List.length r137.1) : Nat) : Int))))] [] E (by kernel_rfl) trivial ?_
      clear E; intro a E
      refine wpList_nil ?_
      have hx_ := Option.some.inj hP
      exact .inl ⟨rfl, decide (0 < (((List.length r137.1) : Nat) : Int)), E.pick _ ⟨rfl, rfl, rfl, rfl, rfl, rfl, rfl, rfl, trivial⟩, H.sel [0, 5, 6] rfl, hx_.symm⟩
     replace E := E_; clear E_
     have h267 : r137.2.1 = true := (not_f hb_)
     clear hb_; replace hP := ite_t h267 hP
     refine vr tbok 5 [] [(1, .slice A13 (List.length t) c14), (5, .bool r22), (6, .bool r116.1), (8, .slice A134 (List.length r125.1) c135), (9, .bool r125.2.1), (11, .slice A146 (List.length r137.1) c147), (12, .bool r137.2.1), (139, .bool false)] [] E (by kernel_rfl) trivial ?_
     clear E; intro a E
     refine wpList_nil ?_
     have hx_ := Option.some.inj hP
     exact .inl ⟨rfl, false, E.pick _ ⟨rfl, rfl, rfl, rfl, rfl, rfl, rfl, rfl, trivial⟩, H.sel [0, 5, 6] rfl, hx_.symm⟩
    replace E := E_; clear E_
    have h268 : r125.2.1 = true := (not_f hb_)
    clear hb_; replace hP := ite_t h268 hP
    refine vr tbok 9 [] [(1, .slice A13 (List.length t) c14), (5, .bool r22), (6, .bool r116.1), (8, .slice A134 (List.length r125.1) c135), (9, .bool r125.2.1), (11, .slice A146 (List.length r137.1) c147), (12, .bool r137.2.1), (131, .bool false), (134, .bool (!r137.2.1))] [] E (by kernel_rfl) trivial ?_
    clear E; intro a E
    refine E.cases (t := 134) rfl (fun hb_ E_ => ?_) (fun hb_ E_ => ?_)
    ·
     replace E := E_; clear E_
     have h269 : ¬ (r137.2.1 = true) := (ne_true_of_eq_false (not_t hb_))
     clear hb_; replace hP := ite_f h269 hP
     refine vr tbok 5 [] [(1, .slice A13 (List.length t) c14), (5, .bool r22), (6, .bool r116.1), (8, .slice A134 (List.length r125.1) c135), (9, .bool r125.2.1), (11, .slice A146 (List.length r137.1) c147), (12, .bool r137.2.1), (139, .bool (decide (0 < (((List.length r137.1) : Nat) : Int))))] [] E (by kernel_rfl) trivial ?_
     clear E; intro a E
     refine wpList_nil ?_
     have hx_ := Option.some.inj hP
     exact .inl ⟨rfl, decide (0 < (((List.length r137.1) : Nat) : Int)), E.pick _ ⟨rfl, rfl, rfl, rfl, rfl, rfl, rfl, rfl, trivial⟩, H.sel [0, 5, 6] rfl, hx_.symm⟩
    replace E := E_; clear E_
    have h270 : r137.2.1 = true := (not_f hb_)
    clear hb_; replace hP := ite_t h270 hP
    refine vr tbok 5 [] [(1, .slice A13 (List.length t) c14), (5, .bool r22), (6, .bool r116.1), (8, .slice A134 (List.length r125.1) c135), (9, .bool r125.2.1), (11, .slice A146 (List.length r137.1) c147), (12, .bool r137.2.1), (139, .bool false)] [] E (by kernel_rfl) trivial ?_
    clear E; intro a E
    refine wpList_nil ?_
    have hx_ := Option.some.inj hP
    exact .inl ⟨rfl, false, E.pick _ ⟨rfl, rfl, rfl, rfl, rfl, rfl, rfl, rfl, trivial⟩, H.sel [0, 5, 6] rfl, hx_.symm⟩
   replace E := E_; clear E_
   have h271 : ¬ (r137.2.1 = true) := (ne_true_of_eq_false hb_)
   clear hb_; replace hP := ite_f h271 hP
   refine vr tbok 20 [] [(1, .slice A13 (List.length t) c14), (5, .bool r22), (6, .bool r116.1), (8, .slice A134 (List.length r125.1) c135), (9, .bool r125.2.1), (11, .slice A146 (List.length r137.1) c147), (12, .bool r137.2.1), (122, .bool false), (125, .bool (!r125.2.1))] [] E (by kernel_rfl) trivial ?_
   clear E; intro a E
   refine E.cases (t := 125) rfl (fun hb_ E_ => ?_) (fun hb_ E_ => ?_)
   ·
    replace E := E_; clear E_
    have h272 : ¬ (r125.2.1 = true) := (ne_true_of_eq_false (not_t hb_))
    clear hb_; replace hP := ite_f h272 hP
    refine vr tbok 6 [] [(1, .slice A13 (List.length t) c14), (5, .bool r22), (6, .bool r116.1), (8, .slice A134 (List.length r125.1) c135), (9, .bool r125.2.1), (11, .slice A146 (List.length r137.1) c147), (12, .bool r137.2.1), (131, .bool (decide (0 < (((List.length r125.1) : Nat) : Int))))] [] E (by kernel_rfl) trivial ?_
    clear E; intro a E
    refine E.cases (t := 131) rfl (fun hb_ E_ => ?_) (fun hb_ E_ => ?_)
    ·
     replace E := E_; clear E_
     have h273 : 0 < (((List.length r125.1) : Nat) : Int) := of_decide_eq_true hb_
     clear hb_; replace hP := ite_t h273 hP
     refine vr tbok 8 [] [(1, .slice A13 (List.length t) c14), (5, .bool r22), (6, .bool r116.1), (8, .slice A134 (List.length r125.1) c135), (9, .bool r125.2.1), (11, .slice A146 (List.length r137.1) c147), (12, .bool r137.2.1), (139, .bool true)] [] E (by kernel_rfl) trivial ?_
     clear E; intro a E
     refine wpList_nil ?_
     have hx_ := Option.some.inj hP
     exact .inl ⟨rfl, true, E.pick _ ⟨rfl, rfl, rfl, rfl, rfl, rfl, rfl, rfl, trivial⟩, H.sel [0, 5, 6] rfl, hx_.symm⟩
    replace E := E_; clear E_
    have h274 : ¬ (0 < (((List.length r125.1) : Nat) : Int)) := of_decide_eq_false hb_
    clear hb_; replace hP := ite_f h274 hP
    refine vr tbok 3 [] [(1, .slice A13 (List.length t) c14), (5, .bool r22), (6, .bool r116.1), (8, .slice A134 (List.length r125.1) c135), (9, .bool r125.2.1), (11, .slice A146 (List.length r137.1) c147), (12, .bool r137.2.1), (131, .bool false), (134, .bool (!r137.2.1))] [] E (by kernel_rfl) trivial ?_
    clear E; intro a E
    refine E.cases (t := 134) rfl (fun hb_ E_ => ?_) (fun hb_ E_ => ?_)
    ·
     replace E := E_; clear E_
     have h275 : ¬ (r137.2.1 = true) := (ne_true_of_eq_false (not_t hb_))
     clear hb_; replace hP := ite_f h275 hP
     refine vr tbok 5 [] [(1, .slice A13 (List.length t) c14), (5, .bool r22), (6, .bool r116.1), (8, .slice A134 (List.length r125.1) c135), (9, .bool r125.2.1), (11, .slice A146 (List.length r137.1) c147), (12, .bool r137.2.1), (139, .bool (decide (0 < (((List.length r137.1) : Nat) : Int))))] [] E (by kernel_rfl) trivial ?_
     clear E; intro a E
     refine wpList_nil ?_
     have hx_ := Option.some.inj hP
     exact .inl ⟨rfl, decide (0 < (((List.length r137.1) : Nat) : Int)), E.pick _ ⟨rfl, rfl, rfl, rfl, rfl, rfl, rfl, rfl, trivial⟩, H.sel [0, 5, 6] rfl, hx_.symm⟩
    replace E := E_; clear E_
    have h276 : r137.2.1 = true := (not_f hb_)
    clear hb_; replace hP := ite_t h276 hP
    refine vr tbok 5 [] [(1, .slice A13 (List.length t) c14), (5, .bool r22), (6, .bool r116.1), (8, .slice A134 (List.length r125.1) c135), (9, .bool r125.2.1), (11, .slice A146 (List.length r137.1) c147), (12, .bool r137.2.1), (139, .bool false)] [] E (by kernel_rfl) trivial ?_
    clear E; intro a E
    refine wpList_nil ?_
    have hx_ := Option.some.inj hP
    exact .inl ⟨rfl, false, E.pick _ ⟨rfl, rfl, rfl, rfl, rfl, rfl, rfl, rfl, trivial⟩, H.sel [0, 5, 6] rfl, hx_.symm⟩
   replace E := E_; clear E_
   have h277 : r125.2.1 = true := (not_f hb_)
   clear hb_; replace hP := ite_t h277 hP
   refine vr tbok 9 [] [(1, .slice A13 (List.length t) c14), (5, .bool r22), (6, .bool r116.1), (8, .slice A134 (List.length r125.1) c135), (9, .bool r125.2.1), (11, .slice A146 (List.length r137.1) c147), (12, .bool r137.2.1), (131, .bool false), (134, .bool (!r137.2.1))] [] E (by kernel_rfl) trivial ?_
   clear E; intro a E
   refine E.cases (t := 134) rfl (fun hb_ E_ => ?_) (fun hb_ E_ => ?_)
   ·
    replace E := E_; clear E_
    have h278 : ¬ (r137.2.1 = true) := (ne_true_of_eq_false (not_t hb_))
    clear hb_; replace hP := ite_f h278 hP
    refine vr tbok 5 [] [(1, .slice A13 (List.length t) c14), (5, .bool r22), (6, .bool r116.1), (8, .slice A134 (List.length r125.1) c135), (9, .bool r125.2.1), (11, .slice A146 (List.length r137.1) c147), (12, .bool r137.2.1), (139, .bool (decide (0 < (((List.length r137.1) : Nat) : Int))))] [] E (by kernel_rfl) trivial ?_
    clear E; intro a E
    refine wpList_nil ?_
    have hx_ := Option.some.inj hP
    exact .inl ⟨rfl, decide (0 < (((List.length r137.1) : Nat) : Int)), E.pick _ ⟨rfl, rfl, rfl, rfl, rfl, rfl, rfl, rfl, trivial⟩, H.sel [0, 5, 6] rfl, hx_.symm⟩
   replace E := E_; clear E_
   have h279 : r137.2.1 = true := (not_f hb_)
   clear hb_; replace hP := ite_t h279 hP
   refine vr tbok 5 [] [(1, .slice A13 (List.length t) c14), (5, .bool r22), (6, .bool r116.1), (8, .slice A134 (List.length r125.1) c135), (9, .bool r125.2.1), (11, .slice A146 (List.length r137.1) c147), (12, .bool r137.2.1), (139, .bool false)] [] E (by kernel_rfl) trivial ?_
   clear E; intro a E
   refine wpList_nil ?_
   have hx_ := Option.some.inj hP
   exact .inl ⟨rfl, false, E.pick _ ⟨rfl, rfl, rfl, rfl, rfl, rfl, rfl, rfl, trivial⟩, H.sel [0, 5, 6] rfl, hx_.symm⟩
  replace E := E_; clear E_
  have h280 : ¬ (r125.2.1 = true) := (ne_true_of_eq_false hb_)
  clear hb_; replace hP := ite_f h280 hP
  refine vr tbok 15 [] [(1, .slice A13 (List.length t) c14), (2, .pointer (some ⟨g17, 0, none⟩)), (5, .bool r22), (6, .bool r116.1), (8, .slice A134 (List.length r125.1) c135), (9, .bool r125.2.1), (11, .slice A146 (List.length r137.1) c147), (12, .bool r137.2.1), (16, .bool r174.1), (103, .bool false), (105, .bool r137.2.1)] [] E (by kernel_rfl) trivial ?_
  clear E; intro a E
  refine E.cases (t := 105) rfl (fun hb_ E_ => ?_) (fun hb_ E_ => ?_)
  ·
   replace E := E_; clear E_
   have h281 : r137.2.1 = true := hb_
   clear hb_; replace hP := ite_t h281 hP
   refine vr tbok 2 [] [(1, .slice A13 (List.length t) c14), (2, .pointer (some ⟨g17, 0, none⟩)), (5, .bool r22), (6, .bool r116.1), (8, .slice A134 (List.length r125.1) c135), (9, .bool r125.2.1), (11, .slice A146 (List.length r137.1) c147), (12, .bool r137.2.1), (103, .bool false), (105, .bool true), (107, .bool r174.1)] [] E (by kernel_rfl) trivial ?_
   clear E; intro a E
   refine E.cases (t := 107) rfl (fun hb_ E_ => ?_) (fun hb_ E_ => ?_)
   ·
    replace E := E_; clear E_
    have h282 : r174.1 = true := hb_
    clear hb_; replace hP := ite_t h282 hP
    refine vr tbok 32 [] [(1, .slice A13 (List.length t) c14), (5, .bool r22), (6, .bool r116.1), (8, .slice A134 (List.length r125.1) c135), (9, .bool r125.2.1), (11, .slice A146 (List.length r137.1) c147), (12, .bool r137.2.1), (139, .bool true)] [] E (by kernel_rfl) trivial ?_
    clear E; intro a E
    refine wpList_nil ?_
    have hx_ := Option.some.inj hP
    exact .inl ⟨rfl, true, E.pick _ ⟨rfl, rfl, rfl, rfl, rfl, rfl, rfl, rfl, trivial⟩, H.sel [0, 5, 6] rfl, hx_.symm⟩
   replace E := E_; clear E_
   have h283 : ¬ (r174.1 = true) := (ne_true_of_eq_false hb_)
   clear hb_; replace hP := ite_f h283 hP
   refine vr tbok 5 [] [(1, .slice A13 (List.length t) c14), (2, .pointer (some ⟨g17, 0, none⟩)), (5, .bool r22), (6, .bool r116.1), (8, .slice A134 (List.length r125.1) c135), (9, .bool r125.2.1), (11, .slice A146 (List.length r137.1) c147), (12, .bool r137.2.1), (103, .bool false), (105, .bool true), (112, .bool (((((List.length r137.1) : Nat) : Int) : Int) == 0))] [] E (by kernel_rfl) trivial ?_
   clear E; intro a E
   refine E.cases (t := 112) rfl (fun hb_ E_ => ?_) (fun hb_ E_ => ?_)
   ·
    replace E := E_; clear E_
    have h284 : ((((List.length r137.1) : Nat) : Int) : Int) = 0 := eq_of_beq hb_
    clear hb_; replace hP := ite_t h284 hP
    refine vr tbok 27 [] [(1, .slice A13 (List.length t) c14), (5, .bool r22), (6, .bool r116.1), (8, .slice A134 (List.length r125.1) c135), (9, .bool r125.2.1), (11, .slice A146 (List.length r137.1) c147), (12, .bool r137.2.1), (139, .bool true)] [] E (by kernel_rfl) trivial ?_
    clear E; intro a E
    refine wpList_nil ?_
    have hx_ := Option.some.inj hP
    exact .inl ⟨rfl, true, E.pick _ ⟨rfl, rfl, rfl, rfl, rfl, rfl, rfl, rfl, trivial⟩, H.sel [0, 5, 6] rfl, hx_.symm⟩
   replace E := E_; clear E_
   have h285 : ¬ (((((List.length r137.1) : Nat) : Int) : Int) = 0) := ne_of_beq_false hb_
   clear hb_; replace hP := ite_f h285 hP
   refine vr tbok 10 [.slice A1 (List.length aAccept) c2] [(1, .slice A13 (List.length t) c14), (5, .bool r22), (6, .bool r116.1), (8, .slice A134 (List.length r125.1) c135), (9, .bool r125.2.1), (11, .slice A146 (List.length r137.1) c147), (12, .bool r137.2.1), (122, .bool (decide ((((List.length aAccept) : Nat) : Int) < (((List.length r137.1) : Nat) : Int))))] [World.cell? w180 ⟨g17, 1, none⟩ = some (.slice A1 (List.length aAccept) c2)] E (by kernel_rfl) ((H.box 4 rfl).cell (j := 1) rfl) ?_
   clear E; intro a E
   refine E.cases (t := 122) rfl (fun hb_ E_ => ?_) (fun hb_ E_ => ?_)
   ·
    replace E := E_; clear E_
    have h286 : (((List.length aAccept) : Nat) : Int) < (((List.length r137.1) : Nat) : Int) := of_decide_eq_true hb_
    clear hb_; replace hP := ite_t h286 hP
    refine vr tbok 17 [] [(1, .slice A13 (List.length t) c14), (5, .bool r22), (6, .bool r116.1), (8, .slice A134 (List.length r125.1) c135), (9, .bool r125.2.1), (11, .slice A146 (List.length r137.1) c147), (12, .bool r137.2.1), (139, .bool true)] [] E (by kernel_rfl) trivial ?_
    clear E; intro a E
    refine wpList_nil ?_
    have hx_ := Option.some.inj hP
    exact .inl ⟨rfl, true, E.pick _ ⟨rfl, rfl, rfl, rfl, rfl, rfl, rfl, rfl, trivial⟩, H.sel [0, 5, 6] rfl, hx_.symm⟩
   replace E := E_; clear E_
   have h287 : ¬ ((((List.length aAccept) : Nat) : Int) < (((List.length r137.1) : Nat) : Int)) := of_decide_eq_false hb_
   clear hb_; replace hP := ite_f h287 hP
   refine vr tbok 3 [] [(1, .slice A13 (List.length t) c14), (5, .bool r22), (6, .bool r116.1), (8, .slice A134 (List.length r125.1) c135), (9, .bool r125.2.1), (11, .slice A146 (List.length r137.1) c147), (12, .bool r137.2.1), (122, .bool false), (125, .bool (!r125.2.1))] [] E (by kernel_rfl) trivial ?_
   clear E; intro a E
   refine E.cases (t := 125) rfl (fun hb_ E_ => ?_) (fun hb_ E_ => ?_)
   ·
    replace E := E_; clear E_
    have h288 : ¬ (r125.2.1 = true) := (ne_true_of_eq_false (not_t hb_))
    clear hb_; replace hP := ite_f h288 hP
    refine vr tbok 6 [] [(1, .slice A13 (List.length t) c14), (5, .bool r22), (6, .bool r116.1), (8, .slice A134 (List.length r125.1) c135), (9, .bool r125.2.1), (11, .slice A146 (List.length r137.1) c147), (12, .bool r137.2.1), (131, .bool (decide (0 < (((List.length r125.1) : Nat) : Int))))] [] E (by kernel_rfl) trivial ?_
    clear E; intro a E
    refine E.cases (t := 131) rfl (fun hb_ E_ => ?_) (fun hb_ E_ => ?_)
    ·
     replace E := E_; clear E_
     have h289 : 0 < (((List.length r125.1) : Nat) : Int) := of_decide_eq_true hb_
     clear hb_; replace hP := ite_t h289 hP
     refine vr tbok 8 [] [(1, .slice A13 (List.length t) c14), (5, .bool r22), (6, .bool r116.1), (8, .slice A134 (List.length r125.1) c135), (9, .bool r125.2.1), (11, .slice A146 (List.length r137.1) c147), (12, .bool r137.2.1), (139, .bool true)] [] E (by kernel_rfl) trivial ?_
     clear E; intro a E
     refine wpList_nil ?_
     have hx_ := Option.some.inj hP
     exact .inl ⟨rfl, true, E.pick _ ⟨rfl, rfl, rfl, rfl, rfl, rfl, rfl, rfl, trivial⟩, H.sel [0, 5, 6] rfl, hx_.symm⟩
    replace E := E_; clear E_
    have h290 : ¬ (0 < (((List.length r125.1) : Nat) : Int)) := of_decide_eq_false hb_
    clear hb_; replace hP := ite_f h290 hP
    refine vr tbok 3 [] [(1, .slice A13 (List.length t) c14), (5, .bool r22), (6, .bool r116.1), (8, .slice A134 (List.length r125.1) c135), (9, .bool r125.2.1), (11, .slice A146 (List.length r137.1) c147), (12, .bool r137.2.1), (131, .bool false), (134, .bool (!r137.2.1))] [] E (by kernel_rfl) trivial ?_
    clear E; intro a E
    refine E.cases (t := 134) rfl (fun hb_ E_ => ?_) (fun hb_ E_ => ?_)
    ·
     replace E := E_; clear E_
     have h291 : ¬ (r137.2.1 = true) := (ne_true_of_eq_false (not_t hb_))
     clear hb_; replace hP := ite_f h291 hP
     refine vr tbok 5 [] [(1, .slice A13 (List.length t) c14), (5, .bool r22), (6, .bool r116.1), (8, .slice A134 (List.length r125.1) c135), (9, .bool r125.2.1), (11, .slice A146 (List.length r137.1) c147), (12, .bool r137.2.1), (139, .bool (decide (0 < (((List.length r137.1) : Nat) : Int))))] [] E (by kernel_rfl) trivial ?_
     clear E; intro a E
     refine wpList_nil ?_
     have hx_ := Option.some.inj hP
     exact .inl ⟨rfl, decide (0 < (((List.length r137.1) : Nat) : Int)), E.pick _ ⟨rfl, rfl, rfl, rfl, rfl, rfl, rfl, rfl, trivial⟩, H.sel [0, 5, 6] rfl, hx_.symm⟩
    replace E := E_; clear E_
    have h292 : r137.2.1 = true := (not_f hb_)
    clear hb_; replace hP := ite_t h292 hP
    refine vr tbok 5 [] [(1, .slice A13 (List.length t) c14), (5, .bool r22), (6, .bool r116.1), (8, .slice A134 (List.length r125.1) c135), (9, .bool r125.2.1), (11, .slice A146 (List.length r137.1) c147), (12, .bool r137.2.1), (139, .bool false)] [] E (by kernel_rfl) trivial ?_
    clear E; intro a E
    refine wpList_nil ?_
    have hx_ := Option.some.inj hP
    exact .inl ⟨rfl, false, E.pick _ ⟨rfl, rfl, rfl, rfl, rfl, rfl, rfl, rfl, trivial⟩, H.sel [0, 5, 6] rfl, hx_.symm⟩
   replace E := E_; clear E_
   have h293 : r125.2.1 = true := (not_f hb_)
   clear hb_; replace hP := ite_t h293 hP
   refine vr tbok 9 [] [(1, .slice A13 (List.length t) c14), (5, .bool r22), (6, .bool r116.1), (8, .slice A134 (List.length r125.1) c135), (9, .bool r125.2.1), (11, .slice A146 (List.length r137.1) c147), (12, .bool r137.2.1), (131, .bool false), (134, .bool (!r137.2.1))] [] E (by kernel_rfl) trivial ?_
   clear E; intro a E
   refine E.cases (t := 134) rfl (fun hb_ E_ => ?_) (fun hb_ E_ => ?_)
   ·
    replace E := E_; clear E_
    have h294 : ¬ (r137.2.1 = true) := (ne_true_of_eq_false (not_t hb_))
    clear hb_; replace hP := ite_f h294 hP
    refine vr tbok 5 [] [(1, .slice A13 (List.length t) c14), (5, .bool r22), (6, .bool r116.1), (8, .slice A134 (List.length r125.1) c135), (9, .bool r125.2.1), (11, .slice A146 (List.length r137.1) c147), (12, .bool r137.2.1), (139, .bool (decide (0 < (((List.length r137.1) : Nat) : Int))))] [] E (by kernel_rfl) trivial ?_
    clear E; intro a E
    refine wpList_nil ?_
    have hx_ := Option.some.inj hP
    exact .inl ⟨rfl, decide (0 < (((List.length r137.1) : Nat) : Int)), E.pick _ ⟨rfl, rfl, rfl, rfl, rfl, rfl, rfl, rfl, trivial⟩, H.sel [0, 5, 6] rfl, hx_.symm⟩
   replace E := E_; clear E_
   have h295 : r137.2.1 = true := (not_f hb_)
   clear hb_; replace hP := ite_t h295 hP
   refine vr tbok 5 [] [(1, .slice A13 (List.length t) c14), (5, .bool r22), (6, .bool r116.1), (8, .slice A134 (List.length r125.1) c135), (9, .bool r125.2.1), (11, .slice A146 (List.length r137.1) c147), (12, .bool r137.2.1), (139, .bool false)] [] E (by kernel_rfl) trivial ?_
   clear E; intro a E
   refine wpList_nil ?_
   have hx_ := Option.some.inj hP
   exact .inl ⟨rfl, false, E.pick _ ⟨rfl, rfl, rfl, rfl, rfl, rfl, rfl, rfl, trivial⟩, H.sel [0, 5, 6] rfl, hx_.symm⟩
  replace E := E_; clear E_
  have h296 : ¬ (r137.2.1 = true) := (ne_true_of_eq_false hb_)
  clear hb_; replace hP := ite_f h296 hP
  refine vr tbok 20 [] [(1, .slice A13 (List.length t) c14), (5, .bool r22), (6, .bool r116.1), (8, .slice A134 (List.length r125.1) c135), (9, .bool r125.2.1), (11, .slice A146 (List.length r137.1) c147), (12, .bool r137.2.1), (122, .bool false), (125, .bool (!r125.2.1))] [] E (by kernel_rfl) trivial ?_
  clear E; intro a E
  refine E.cases (t := 125) rfl (fun hb_ E_ => ?_) (fun hb_ E_ => ?_)
  ·
   replace E := E_; clear E_
   have h297 : ¬ (r125.2.1 = true) := (ne_true_of_eq_false (not_t hb_))
   clear hb_; replace hP := ite_f h297 hP
   refine vr tbok 6 [] [(1, .slice A13 (List.length t) c14), (5, .bool r22), (6, .bool r116.1), (8, .slice A134 (List.length r125.1) c135), (9, .bool r125.2.1), (11, .slice A146 (List.length r137.1) c147), (12, .bool r137.2.1), (131, .bool (decide (0 < (((List.length r125.1) : Nat) : Int))))] [] E (by kernel_rfl) trivial ?_
   clear E; intro a E
   refine E.cases (t := 131) rfl (fun hb_ E_ => ?_) (fun hb_ E_ => ?_)
   ·
    replace E := E_; clear E_
    have h298 : 0 < (((List.length r125.1) : Nat) : Int) := of_decide_eq_true hb_
    clear hb_; replace hP := ite_t h298 hP
    refine vr tbok 8 [] [(1, .slice A13 (List.length t) c14), (5, .bool r22), (6, .bool r116.1), (8, .slice A134 (List.length r125.1) c135), (9, .bool r125.2.1), (11, .slice A146 (List.length r137.1) c147), (12, .bool r137.2.1), (139, .bool true)] [] E (by kernel_rfl) trivial ?_
    clear E; intro a E
    refine wpList_nil ?_
    have hx_ := Option.some.inj hP
    exact .inl ⟨rfl, true, E.pick _ ⟨rfl, rfl, rfl, rfl, rfl, rfl, rfl, rfl, trivial⟩, H.sel [0, 5, 6] rfl, hx_.symm⟩
   replace E := E_; clear E_
   have h299 : ¬ (0 < (((List.length r125.1) : Nat) : Int)) := of_decide_eq_false hb_
   clear hb_; replace hP := ite_f h299 hP
   refine vr tbok 3 [] [(1, .slice A13 (List.length t) c14), (5, .bool r22), (6, .bool r116.1), (8, .slice A134 (List.length r125.1) c135), (9, .bool r125.2.1), (11, .slice A146 (List.length r137.1) c147), (12, .bool r137.2.1), (131, .bool false), (134, .bool (!r137.2.1))] [] E (by kernel_rfl) trivial ?_
   clear E; intro a E
   refine E.cases (t := 134) rfl (fun hb_ E_ => ?_) (fun hb_ E_ => ?_)
   ·
    replace E := E_; clear E_
    have h300 : ¬ (r137.2.1 = true) := (ne_true_of_eq_false (not_t hb_))
    clear hb_; replace hP := ite_f h300 hP
    refine vr tbok 5 [] [(1, .slice A13 (List.length t) c14), (5, .bool r22), (6, .bool r116.1), (8, .slice A134 (List.length r125.1) c135), (9, .bool r125.2.1), (11, .slice A146 (List.length r137.1) c147), (12, .bool r137.2.1), (139, .bool (decide (0 < (((List.length r137.1) : Nat) : Int))))] [] E (by kernel_rfl) trivial ?_
    clear E; intro a E
    refine wpList_nil ?_
    have hx_ := Option.some.inj hP
    exact .inl ⟨rfl, decide (0 < (((List.length r137.1) : Nat) : Int)), E.pick _ ⟨rfl, rfl, rfl, rfl, rfl, rfl, rfl, rfl, trivial⟩, H.sel [0, 5, 6] rfl, hx_.symm⟩
   replace E := E_; clear E_
   have h301 : r137.2.1 = true := (not_f hb_)
   clear hb_; replace hP := ite_t h301 hP
   refine vr tbok 5 [] [(1, .slice A13 (List.length t) c14), (5, .bool r22), (6, .bool r116.1), (8, .slice A134 (List.length r125.1) c135), (9, .bool r125.2.1), (11, .slice A146 (List.length r137.1) c147), (12, .bool r137.2.1), (139, .bool false)] [] E (by kernel_rfl) trivial ?_
   clear E; intro a E
   refine wpList_nil ?_
   have hx_ := Option.some.inj hP
   exact .inl ⟨rfl, false, E.pick _ ⟨rfl, rfl, rfl, rfl, rfl, rfl, rfl, rfl, trivial⟩, H.sel [0, 5, 6] rfl, hx_.symm⟩
  replace E := E_; clear E_
  have h302 : r125.2.1 = true := (not_f hb_)
  clear hb_; replace hP := ite_t h302 hP
  refine vr tbok 9 [] [(1, .slice A13 (List.length t) c14), (5, .bool r22), (6, .bool r116.1), (8, .slice A134 (List.length r125.1) c135), (9, .bool r125.2.1), (11, .slice A146 (List.length r137.1) c147), (12, .bool r137.2.1), (131, .bool false), (134, .bool (!r137.2.1))] [] E (by kernel_rfl) trivial ?_
  clear E; intro a E
  refine E.cases (t := 134) rfl (fun hb_ E_ => ?_) (fun hb_ E_ => ?_)
  ·
   replace E := E_; clear E_
   have h303 : ¬ (r137.2.1 = true) := (ne_true_of_eq_false (not_t hb_))
   clear hb_; replace hP := ite_f h303 hP
   refine vr tbok 5 [] [(1, .slice A13 (List.length t) c14), (5, .bool r22), (6, .bool r116.1), (8, .slice A134 (List.length r125.1) c135), (9, .bool r125.2.1), (11, .slice A146 (List.length r137.1) c147), (12, .bool r137.2.1), (139, .bool (decide (0 < (((List.length r137.1) : Nat) : Int))))] [] E (by kernel_rfl) trivial ?_
   clear E; intro a E
   refine wpList_nil ?_
   have hx_ := Option.some.inj hP
   exact .inl ⟨rfl, decide (0 < (((List.length r137.1) : Nat) : Int)), E.pick _ ⟨rfl, rfl, rfl, rfl, rfl, rfl, rfl, rfl, trivial⟩, H.sel [0, 5, 6] rfl, hx_.symm⟩
  replace E := E_; clear E_
  have h304 : r137.2.1 = true := (not_f hb_)
  clear hb_; replace hP := ite_t h304 hP
  refine vr tbok 5 [] [(1, .slice A13 (List.length t) c14), (5, .bool r22), (6, .bool r116.1), (8, .slice A134 (List.length r125.1) c135), (9, .bool r125.2.1), (11, .slice A146 (List.length r137.1) c147), (12, .bool r137.2.1), (139, .bool false)] [] E (by kernel_rfl) trivial ?_
  clear E; intro a E
  refine wpList_nil ?_
  have hx_ := Option.some.inj hP
  exact .inl ⟨rfl, false, E.pick _ ⟨rfl, rfl, rfl, rfl, rfl, rfl, rfl, rfl, trivial⟩, H.sel [0, 5, 6] rfl, hx_.symm⟩
 clear E H h243; rintro a w246 ⟨x245, E, H, hx_⟩
 subst hx_; have hP := hK244; clear hK244
 refine th_n ?_
 refine E.cases (t := 139) rfl (fun hb_ E_ => ?_) (fun hb_ E_ => ?_)
 ·
  replace E := E_; clear E_
  have h305 : x242 = true := hb_
  clear hb_; replace hP := ite_t h305 hP
  refine c_true E rfl ?_
  refine wp_seq ?_
  refine wp_region_lit ?_
  refine vr tbok 1 [] [(4, .bool false)] [] E (by kernel_rfl) trivial ?_
  clear E; intro a E
  refine wpList_nil ?_
  refine th_n ?_
  refine wp_ret ?_
  refine th_ret ?_
  obtain rfl := Option.some.inj hP
  refine ret1 E rfl rfl ?_
  exact ⟨_, rfl, rfl, H.sel [] rfl⟩
 replace E := E_; clear E_
 have h306 : ¬ (x242 = true) := (ne_true_of_eq_false hb_)
 clear hb_; replace hP := ite_f h306 hP
 refine c_false E rfl ?_
 refine wp_skip ?_
 refine th_n ?_
 refine wp_seq ?_
 refine wp_seq ?_
 refine wp_region_lit ?_
 refine vr tbok 1 [] [(1, .slice A13 (List.length t) c14), (5, .bool r22), (8, .slice A134 (List.length r125.1) c135), (9, .bool r125.2.1), (11, .slice A146 (List.length r137.1) c147), (12, .bool r137.2.1), (140, .bool r116.1)] [] E (by kernel_rfl) trivial ?_
 clear E; intro a E
 refine wpList_nil ?_
 refine th_n ?_
 refine E.cases (t := 140) rfl (fun hb_ E_ => ?_) (fun hb_ E_ => ?_)
 ·
  replace E := E_; clear E_
  have h307 : r116.1 = true := hb_
  clear hb_; replace hP := ite_t h307 hP
  refine c_true E rfl ?_
  refine wp_seq ?_
  obtain ⟨x322, h323, hK324⟩ := bind_inv hP
  clear hP
  refine meet_cut (fun a w326 => ∃ (x325 : Bool), Fr a 166 [(4, .bool x325)] ∧ Hp S Fa w0 w326 [] ∧ x322 = x325) ?_ ?_
  ·
   have hP := h323; clear h323; rw [law19_LangShortest_j3] at hP
   refine wp_region_lit ?_
   refine vr tbok 2 [] [(1, .slice A13 (List.length t) c14), (8, .slice A134 (List.length r125.1) c135), (9, .bool r125.2.1), (142, .bool r22)] [] E (by kernel_rfl) trivial ?_
   clear E; intro a E
   refine E.cases (t := 142) rfl (fun hb_ E_ => ?_) (fun hb_ E_ => ?_)
   ·
    replace E := E_; clear E_
    have h327 : r22 = true := hb_
    clear hb_; replace hP := ite_t h327 hP
    refine vr tbok 3 [] [(1, .slice A13 (List.length t) c14), (8, .slice A134 (List.length r125.1) c135), (145, .bool r125.2.1)] [] E (by kernel_rfl) trivial ?_
    clear E; intro a E
    refine E.cases (t := 145) rfl (fun hb_ E_ => ?_) (fun hb_ E_ => ?_)
    ·
     replace E := E_; clear E_
     have h328 : r125.2.1 = true := hb_
     clear hb_; replace hP := ite_t h328 hP
     refine vr tbok 2 [] [(145, .bool true), (146, .slice A13 (List.length t) c14), (147, .slice A134 (List.length r125.1) c135)] [] E (by kernel_rfl) trivial ?_
     clear E; intro a E
     obtain ⟨r329, h330, hP⟩ := bind_inv hP
     obtain ⟨Fa331, Hc332, hb333⟩ := H.call [] [(0, false), (1, false)] rfl rfl trivial
     refine e_call E rfl rfl Try.func15 rfl rfl rfl (law19_ahead_calls A13 c14 A134 c135 t r125.1 hk15 (H.rcap 1 rfl) Hc332 h330) ?_
     rintro v334 w335 a ⟨rfl, HR336⟩ E_
     replace E := E_ _ rfl; clear E_
     obtain ⟨H_, hc337⟩ := hb333 _ _ HR336 rfl
     replace H := H_; clear H_; try dsimp only [setn, addE, goneL] at H
     refine vr tbok 3 [] [(4, .bool (!r329))] [] E (by kernel_rfl) trivial ?_
     clear E; intro a E
     refine wpList_nil ?_
     have hx_ := Option.some.inj hP
     exact .inl ⟨rfl, !r329, E.pick _ ⟨rfl, trivial⟩, H.sel [] rfl, hx_.symm⟩
    replace E := E_; clear E_
    have h338 : ¬ (r125.2.1 = true) := (ne_true_of_eq_false hb_)
    clear hb_; replace hP := ite_f h338 hP
    refine vr tbok 6 [] [(4, .bool false)] [] E (by kernel_rfl) trivial ?_
    clear E; intro a E
    refine wpList_nil ?_
    have hx_ := Option.some.inj hP
    exact .inl ⟨rfl, false, E.pick _ ⟨rfl, trivial⟩, H.sel [] rfl, hx_.symm⟩
   replace E := E_; clear E_
   have h339 : ¬ (r22 = true) := (ne_true_of_eq_false hb_)
   clear hb_; replace hP := ite_f h339 hP
   refine vr tbok 9 [] [(4, .bool false)] [] E (by kernel_rfl) trivial ?_
   clear E; intro a E
   refine wpList_nil ?_
   have hx_ := Option.some.inj hP
   exact .inl ⟨rfl, false, E.pick _ ⟨rfl, trivial⟩, H.sel [] rfl, hx_.symm⟩
  clear E H h323; rintro a w326 ⟨x325, E, H, hx_⟩
  subst hx_; have hP := hK324; clear hK324
  refine th_n ?_
  refine wp_ret ?_
  refine th_ret ?_
  obtain rfl := Option.some.inj hP
  refine ret1 E rfl rfl ?_
  exact ⟨_, rfl, rfl, H.sel [] rfl⟩
 replace E := E_; clear E_
 have h340 : ¬ (r116.1 = true) := (ne_true_of_eq_false hb_)
 clear hb_; replace hP := ite_f h340 hP
 refine c_false E rfl ?_
 refine wp_skip ?_
 refine th_n ?_
 refine wp_seq ?_
 obtain ⟨x357, h358, hK359⟩ := bind_inv hP
 clear hP
 refine meet_cut (fun a w361 => ∃ (x360 : Bool), Fr a 166 [(4, .bool x360)] ∧ Hp S Fa w0 w361 [] ∧ x357 = x360) ?_ ?_
 ·
  have hP := h358; clear h358; rw [law19_LangShortest_j4] at hP
  refine wp_region_lit ?_
  refine vr tbok 2 [] [(1, .slice A13 (List.length t) c14), (11, .slice A146 (List.length r137.1) c147), (12, .bool r137.2.1), (152, .bool r22)] [] E (by kernel_rfl) trivial ?_
  clear E; intro a E
  refine E.cases (t := 152) rfl (fun hb_ E_ => ?_) (fun hb_ E_ => ?_)
  ·
   replace E := E_; clear E_
   have h362 : r22 = true := hb_
   clear hb_; replace hP := ite_t h362 hP
   refine vr tbok 4 [] [(1, .slice A13 (List.length t) c14), (11, .slice A146 (List.length r137.1) c147), (12, .bool r137.2.1), (152, .bool true), (156, .bool (((((List.length t) : Nat) : Int) : Int) == 0))] [] E (by kernel_rfl) trivial ?_
   clear E; intro a E
   refine E.cases (t := 156) rfl (fun hb_ E_ => ?_) (fun hb_ E_ => ?_)
   ·
    replace E := E_; clear E_
    have h363 : ((((List.length t) : Nat) : Int) : Int) = 0 := eq_of_beq hb_
    clear hb_; replace hP := ite_t h363 hP
    refine vr tbok 10 [] [(4, .bool true)] [] E (by kernel_rfl) trivial ?_
    clear E; intro a E
    refine wpList_nil ?_
    have hx_ := Option.some.inj hP
    exact .inl ⟨rfl, true, E.pick _ ⟨rfl, trivial⟩, H.sel [] rfl, hx_.symm⟩
   replace E := E_; clear E_
   have h364 : ¬ (((((List.length t) : Nat) : Int) : Int) = 0) := ne_of_beq_false hb_
   clear hb_; replace hP := ite_f h364 hP
   refine vr tbok 2 [] [(1, .slice A13 (List.length t) c14), (11, .slice A146 (List.length r137.1) c147), (152, .bool true), (156, .bool false), (158, .bool r137.2.1)] [] E (by kernel_rfl) trivial ?_
   clear E; intro a E
   refine E.cases (t := 158) rfl (fun hb_ E_ => ?_) (fun hb_ E_ => ?_)
   ·
    replace E := E_; clear E_
    have h365 : r137.2.1 = true := hb_
    clear hb_; replace hP := ite_t h365 hP
    refine vr tbok 2 [] [(152, .bool true), (156, .bool false), (158, .bool true), (159, .slice A13 (List.length t) c14), (160, .slice A146 (List.length r137.1) c147)] [] E (by kernel_rfl) trivial ?_
    clear E; intro a E
    obtain ⟨r366, h367, hP⟩ := bind_inv hP
    obtain ⟨Fa368, Hc369, hb370⟩ := H.call [] [(0, false), (2, false)] rfl rfl trivial
    refine e_call E rfl rfl Try.func15 rfl rfl rfl (law19_ahead_calls A13 c14 A146 c147 t r137.1 hk15 (H.rcap 2 rfl) Hc369 h367) ?_
    rintro v371 w372 a ⟨rfl, HR373⟩ E_
    replace E := E_ _ rfl; clear E_
    obtain ⟨H_, hc374⟩ := hb370 _ _ HR373 rfl
    replace H := H_; clear H_; try dsimp only [setn, addE, goneL] at H
    refine vr tbok 5 [] [(4, .bool (!r366))] [] E (by kernel_rfl) trivial ?_
    clear E; intro a E
    refine wpList_nil ?_
    have hx_ := Option.some.inj hP
    exact .inl ⟨rfl, !r366, E.pick _ ⟨rfl, trivial⟩, H.sel [] rfl, hx_.symm⟩
   replace E := E_; clear E_
   have h375 : ¬ (r137.2.1 = true) := (ne_true_of_eq_false hb_)
   clear hb_; replace hP := ite_f h375 hP
   refine vr tbok 8 [] [(4, .bool false)] [] E (by kernel_rfl) trivial ?_
   clear E; intro a E
   refine wpList_nil ?_
   have hx_ := Option.some.inj hP
   exact .inl ⟨rfl, false, E.pick _ ⟨rfl, trivial⟩, H.sel [] rfl, hx_.symm⟩
  replace E := E_; clear E_
  have h376 : ¬ (r22 = true) := (ne_true_of_eq_false hb_)
  clear hb_; replace hP := ite_f h376 hP
  refine vr tbok 14 [] [(4, .bool false)] [] E (by kernel_rfl) trivial ?_
  clear E; intro a E
  refine wpList_nil ?_
  have hx_ := Option.some.inj hP
  exact .inl ⟨rfl, false, E.pick _ ⟨rfl, trivial⟩, H.sel [] rfl, hx_.symm⟩
 clear E H h358; rintro a w361 ⟨x360, E, H, hx_⟩
 subst hx_; have hP := hK359; clear hK359
 refine th_n ?_
 refine wp_ret ?_
 obtain rfl := Option.some.inj hP
 refine ret1 E rfl rfl ?_
 exact ⟨_, rfl, rfl, H.sel [] rfl⟩

end Go.V
