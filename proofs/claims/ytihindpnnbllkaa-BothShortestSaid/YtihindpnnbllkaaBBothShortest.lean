/- Plain functions, and the calls that give them. -/
import Derived.Test.YtihindpnnbllkaaA11
set_option linter.all false
set_option linter.unusedVariables false
set_option linter.unnecessarySimpa false
set_option linter.unusedSimpArgs false
namespace Go.V
open Go Go.Proofs
/-! rejoinder/rejoinderlaw20.BothShortest -/
def law20_BothShortest_j0 (N : Nat) (aProps : Int) (aAccept : List Bool) (aGuard : List Int) (aNodes : List Nd) (bProps : Int) (bAccept : List Bool) (bGuard : List Int) (bNodes : List Nd) : Option Bool :=
    Option.bind (law20_Small N aProps aAccept aGuard aNodes) fun r74 =>
    if r74 = true then
      Option.bind (law20_Small N bProps bAccept bGuard bNodes) fun r85 =>
      some (!r85)
    else
      some true
def law20_BothShortest_j1 (N : Nat) (r39 : Bool) (r96 : (List Int) × Bool × Int) : Option Bool :=
    if r39 = true then
      if r96.2.1 = true then
        some false
      else
        some (((((List.length r96.1) : Nat) : Int) : Int) == 0)
    else
      some false
def law20_BothShortest_j2 (N : Nat) (r96 : (List Int) × Bool × Int) (r124 : (Int × (List Bool) × (List Int) × (List Nd)) × Int) (r149 : (Int × (List Bool) × (List Int) × (List Nd)) × Int) (r174 : Bool × Int) (r183 : Bool × Int) (r192 : Bool × Int) : Option Bool :=
    if (r124.2 : Int) = 0 then
      if (r149.2 : Int) = 0 then
        if (r174.2 : Int) = 0 then
          if (r183.2 : Int) = 0 then
            if (r192.2 : Int) = 0 then
              if r174.1 = r96.2.1 then
                some true
              else
                Option.bind (canon_Same N r124.1.1 r124.1.2.1 r124.1.2.2.1 r124.1.2.2.2 r149.1.1 r149.1.2.1 r149.1.2.2.1 r149.1.2.2.2) fun r244 =>
                if r244 = r174.1 then
                  if r183.1 = true then
                    some (!(r192.1 == r174.1))
                  else
                    some (!(false == r174.1))
                else
                  some true
            else
              some true
          else
            some true
        else
          some true
      else
        some true
    else
      some true
def law20_BothShortest_j3 (N : Nat) (aProps : Int) (aAccept : List Bool) (aGuard : List Int) (aNodes : List Nd) (bProps : Int) (bAccept : List Bool) (bGuard : List Int) (bNodes : List Nd) (r96 : (List Int) × Bool × Int) : Option Bool :=
    if r96.2.1 = true then
      Option.bind (law20_accepts N aProps aAccept aGuard aNodes r96.1) fun r307 =>
      Option.bind (law20_accepts N bProps bAccept bGuard bNodes r96.1) fun r316 =>
      some (r307 == r316)
    else
      some false
def law20_BothShortest_j5 (N : Nat) (t : List Int) (k391 : Int) : Option Bool :=
    if k391 < (((List.length t) : Nat) : Int) then
      some (decide (k391 < 1024))
    else
      some false
def law20_BothShortest_l4 (N : Nat) (aProps : Int) (t : List Int) : Nat → (List Int) → Int → Option (List Int)
  | 0, _, _ => none
  | m434 + 1, few388, k391 =>
    Option.bind (law20_BothShortest_j5 N t k391) fun x445 =>
    if x445 = true then
      ask (idx k391 (List.length t)) <|
      ask (0 ≤ aProps) <|
      ask (List.length few388 + List.length ([andV .u8 (List.getD t (Int.toNat k391) 0) (IntKind.u8.wrap ((shlV .u8 1 aProps) - 1))] : List Int) ≤ 1000000000) <|
      ask (in64 (k391 + 1)) <|
      law20_BothShortest_l4 N aProps t m434 (few388 ++ ([andV .u8 (List.getD t (Int.toNat k391) 0) (IntKind.u8.wrap ((shlV .u8 1 aProps) - 1))] : List Int)) (k391 + 1)
    else
      some few388
def law20_BothShortest_j6 (N : Nat) (aProps : Int) (aAccept : List Bool) (aGuard : List Int) (aNodes : List Nd) (bProps : Int) (bAccept : List Bool) (bGuard : List Int) (bNodes : List Nd) (r96 : (List Int) × Bool × Int) (x435 : List Int) : Option Bool :=
    Option.bind (law20_accepts N aProps aAccept aGuard aNodes x435) fun r566 =>
    Option.bind (law20_accepts N bProps bAccept bGuard bNodes x435) fun r575 =>
    if r566 = r575 then
      some false
    else
      if r96.2.1 = true then
        some (decide ((((List.length x435) : Nat) : Int) < (((List.length r96.1) : Nat) : Int)))
      else
        some true
def law20_BothShortest_j7 (N : Nat) (aProps : Int) (aAccept : List Bool) (aGuard : List Int) (aNodes : List Nd) (bProps : Int) (bAccept : List Bool) (bGuard : List Int) (bNodes : List Nd) (r39 : Bool) (r183 : Bool × Int) (x435 : List Int) : Option Bool :=
    if r39 = true then
      if r183.1 = true then
        Option.bind (law20_accepts N aProps aAccept aGuard aNodes x435) fun r675 =>
        if r675 = true then
          Option.bind (law20_accepts N bProps bAccept bGuard bNodes x435) fun r686 =>
          some r686
        else
          some true
      else
        some true
    else
      some false
def law20_BothShortest (N : Nat) (aProps : Int) (aAccept : List Bool) (aGuard : List Int) (aNodes : List Nd) (bProps : Int) (bAccept : List Bool) (bGuard : List Int) (bNodes : List Nd) (t : List Int) : Option Bool :=
  Option.bind (law20_awake N) fun r39 =>
  Option.bind (law20_BothShortest_j0 N aProps aAccept aGuard aNodes bProps bAccept bGuard bNodes) fun x69 =>
  if x69 = true then
    some r39
  else
    Option.bind (both_Part N aProps aAccept aGuard aNodes bProps bAccept bGuard bNodes) fun r96 =>
    if (r96.2.2 : Int) = 0 then
      Option.bind (canon_Min N aProps aAccept aGuard aNodes) fun r124 =>
      Option.bind (canon_Min N bProps bAccept bGuard bNodes) fun r149 =>
      Option.bind (both_Equal N aProps aAccept aGuard aNodes bProps bAccept bGuard bNodes) fun r174 =>
      Option.bind (both_Implies N aProps aAccept aGuard aNodes bProps bAccept bGuard bNodes) fun r183 =>
      Option.bind (both_Implies N bProps bAccept bGuard bNodes aProps aAccept aGuard aNodes) fun r192 =>
      Option.bind (law20_BothShortest_j2 N r96 r124 r149 r174 r183 r192) fun x227 =>
      if x227 = true then
        some false
      else
        Option.bind (law20_BothShortest_j3 N aProps aAccept aGuard aNodes bProps bAccept bGuard bNodes r96) fun x301 =>
        if x301 = true then
          some false
        else
          Option.bind (law20_BothShortest_l4 N aProps t N [] 0) fun x435 =>
          Option.bind (law20_BothShortest_j6 N aProps aAccept aGuard aNodes bProps bAccept bGuard bNodes r96 x435) fun x561 =>
          if x561 = true then
            some false
          else
            Option.bind (law20_BothShortest_j7 N aProps aAccept aGuard aNodes bProps bAccept bGuard bNodes r39 r183 x435) fun x667 =>
            some x667
    else
      Option.bind (law20_BothShortest_j1 N r39 r96) fun x114 =>
      some x114
set_option maxRecDepth 100000 in
set_option maxHeartbeats 4000000 in
theorem law20_BothShortest_calls {N : Nat} {S Fa : Nat → Prop} {w0 : World} {r : Bool} (A1 : Option Addr) (c2 : Nat) (A5 : Option Addr) (c6 : Nat) (A9 : Option Addr) (c10 : Nat) (A13 : Option Addr) (c14 : Nat) (A17 : Option Addr) (c18 : Nat) (A21 : Option Addr) (c22 : Nat) (A25 : Option Addr) (c26 : Nat) (aProps : Int) (aAccept : List Bool) (aGuard : List Int) (aNodes : List Nd) (bProps : Int) (bAccept : List Bool) (bGuard : List Int) (bNodes : List Nd) (t : List Int) (hk3 : List.length aAccept ≤ c2) (hk7 : List.length aGuard ≤ c6) (hk11 : List.length aNodes ≤ c10) (hk15 : List.length bAccept ≤ c14) (hk19 : List.length bGuard ≤ c18) (hk23 : List.length bNodes ≤ c22) (hk27 : List.length t ≤ c26) (H : Hp S Fa w0 w0 [.ro false cBool A1 aAccept, .ro false (cInt .i64) A5 aGuard, .ro false cNode A9 aNodes, .ro false cBool A13 bAccept, .ro false (cInt .i64) A17 bGuard, .ro false cNode A21 bNodes, .ro false (cInt .u8) A25 t]) (hP : law20_BothShortest N aProps aAccept aGuard aNodes bProps bAccept bGuard bNodes t = some r) :
    Calls Try.prog 7 #[.agg #[.int .i64 aProps, .slice A1 (List.length aAccept) c2, .slice A5 (List.length aGuard) c6, .slice A9 (List.length aNodes) c10], .agg #[.int .i64 bProps, .slice A13 (List.length bAccept) c14, .slice A17 (List.length bGuard) c18, .slice A21 (List.length bNodes) c22], .slice A25 (List.length t) c26] w0 fun e w' => ∃ v, e = .returned v ∧ v = .bool r ∧ Hp S Fa w0 w' [] := by
 refine enterV (n := 184) Try.func7 rfl rfl rfl ?_
 intro a E
 replace E := E.pick [(0, .agg #[.int .i64 aProps, .slice A1 (List.length aAccept) c2, .slice A5 (List.length aGuard) c6, .slice A9 (List.length aNodes) c10]), (1, .agg #[.int .i64 bProps, .slice A13 (List.length bAccept) c14, .slice A17 (List.length bGuard) c18, .slice A21 (List.length bNodes) c22]), (2, .slice A25 (List.length t) c26)] ⟨rfl, rfl, rfl, trivial⟩
 rw [law20_BothShortest] at hP
 refine wp_seq ?_
 refine wp_region_lit ?_
 refine h_box H E rfl rfl rfl ?_
 intro w30 g29 a hc31 hg33 H_ E_
 replace E := E_ _ rfl; clear E_
 replace H := H_; clear H_; try dsimp only [setn, addE, goneL] at H
 refine h_box H E rfl rfl rfl ?_
 intro w35 g34 a hc36 hg38 H_ E_
 replace E := E_ _ rfl; clear E_
 replace H := H_; clear H_; try dsimp only [setn, addE, goneL] at H
 refine vn tbok 1 [] [] [] E (by kernel_rfl) (by kernel_rfl) trivial ?_
 clear E; intro a E
 refine wpList_nil ?_
 refine th_n ?_
 refine wp_seq ?_
 refine wp_region_lit ?_
 obtain ⟨r39, h40, hP⟩ := bind_inv hP
 obtain ⟨Fa41, Hc42, hb43⟩ := H.call [] [] rfl rfl trivial
 refine e_call E rfl rfl Try.func28 rfl rfl rfl (law20_awake_calls    Hc42 h40) ?_
 rintro v44 w45 a ⟨rfl, HR46⟩ E_
 replace E := E_ _ rfl; clear E_
 obtain ⟨H_, hc47⟩ := hb43 _ _ HR46 rfl
 replace H := H_; clear H_; try dsimp only [setn, addE, goneL] at H
 refine vn tbok 1 [] [(7, .bool r39)] [] E (by kernel_rfl) (by kernel_rfl) trivial ?_
 clear E; intro a E
 refine wpList_nil ?_
 refine th_n ?_
 refine wp_seq ?_
 refine wp_seq ?_
 obtain ⟨x69, h70, hK71⟩ := bind_inv hP
 clear hP
 refine meet_cut (fun a w73 => ∃ (x72 : Bool), Fr a 184 [(2, .slice A25 (List.length t) c26), (3, .pointer (some ⟨g29, 0, none⟩)), (4, .pointer (some ⟨g34, 0, none⟩)), (7, .bool r39), (31, .bool x72)] ∧ Hp S Fa w0 w73 [.ro false (cInt .u8) A25 t, .ro false cBool A1 aAccept, .ro false (cInt .i64) A5 aGuard, .ro false cNode A9 aNodes, .box g29 26 [.int .i64 aProps, .slice A1 (List.length aAccept) c2, .slice A5 (List.length aGuard) c6, .slice A9 (List.length aNodes) c10], .ro false cBool A13 bAccept, .ro false (cInt .i64) A17 bGuard, .ro false cNode A21 bNodes, .box g34 26 [.int .i64 bProps, .slice A13 (List.length bAccept) c14, .slice A17 (List.length bGuard) c18, .slice A21 (List.length bNodes) c22]] ∧ x69 = x72) ?_ ?_
 ·
  have hP := h70; clear h70; rw [law20_BothShortest_j0] at hP
  refine wp_region_lit ?_
  refine vn tbok 1 [.agg #[.int .i64 aProps, .slice A1 (List.length aAccept) c2, .slice A5 (List.length aGuard) c6, .slice A9 (List.length aNodes) c10]] [(24, .agg #[.int .i64 aProps, .slice A1 (List.length aAccept) c2, .slice A5 (List.length aGuard) c6, .slice A9 (List.length aNodes) c10])] [cellsAt w45 g29 (0) [.int .i64 aProps, .slice A1 (List.length aAccept) c2, .slice A5 (List.length aGuard) c6, .slice A9 (List.length aNodes) c10]] E (by kernel_rfl) (by kernel_rfl) ((H.box 7 rfl).sub 0 _ rfl) ?_
  clear E; intro a E
  obtain ⟨r74, h75, hP⟩ := bind_inv hP
  obtain ⟨Fa76, Hc77, hb78⟩ := H.call [] [(0, false), (1, false), (2, false)] rfl rfl trivial
  refine e_call E rfl rfl Try.func8 rfl rfl rfl (law20_Small_calls A1 c2 A5 c6 A9 c10 aProps aAccept aGuard aNodes hk3 hk7 hk11 Hc77 h75) ?_
  rintro v79 w80 a ⟨rfl, HR81⟩ E_
  replace E := E_ _ rfl; clear E_
  obtain ⟨H_, hc82⟩ := hb78 _ _ HR81 rfl
  replace H := H_; clear H_; try dsimp only [setn, addE, goneL] at H
  refine vn tbok 2 [] [(27, .bool (!r74))] [] E (by kernel_rfl) (by kernel_rfl) trivial ?_
  clear E; intro a E
  refine E.cases (t := 27) rfl (fun hb_ E_ => ?_) (fun hb_ E_ => ?_)
  ·
   replace E := E_; clear E_
   have h83 : ¬ (r74 = true) := (ne_true_of_eq_false (not_t hb_))
   clear hb_; replace hP := ite_f h83 hP
   refine vn tbok 4 [] [(31, .bool true)] [] E (by kernel_rfl) (by kernel_rfl) trivial ?_
   clear E; intro a E
   refine wpList_nil ?_
   have hx_ := Option.some.inj hP
   exact .inl ⟨rfl, true, E.pick _ ⟨rfl, rfl, rfl, rfl, rfl, trivial⟩, H.sel [6, 0, 1, 2, 7, 3, 4, 5, 8] rfl, hx_.symm⟩
  replace E := E_; clear E_
  have h84 : r74 = true := (not_f hb_)
  clear hb_; replace hP := ite_t h84 hP
  refine vn tbok 1 [.agg #[.int .i64 bProps, .slice A13 (List.length bAccept) c14, .slice A17 (List.length bGuard) c18, .slice A21 (List.length bNodes) c22]] [(28, .agg #[.int .i64 bProps, .slice A13 (List.length bAccept) c14, .slice A17 (List.length bGuard) c18, .slice A21 (List.length bNodes) c22])] [cellsAt w80 g34 (0) [.int .i64 bProps, .slice A13 (List.length bAccept) c14, .slice A17 (List.length bGuard) c18, .slice A21 (List.length bNodes) c22]] E (by kernel_rfl) (by kernel_rfl) ((H.box 8 rfl).sub 0 _ rfl) ?_
  clear E; intro a E
  obtain ⟨r85, h86, hP⟩ := bind_inv hP
  obtain ⟨Fa87, Hc88, hb89⟩ := H.call [] [(3, false), (4, false), (5, false)] rfl rfl trivial
  refine e_call E rfl rfl Try.func8 rfl rfl rfl (law20_Small_calls A13 c14 A17 c18 A21 c22 bProps bAccept bGuard bNodes hk15 hk19 hk23 Hc88 h86) ?_
  rintro v90 w91 a ⟨rfl, HR92⟩ E_
  replace E := E_ _ rfl; clear E_
  obtain ⟨H_, hc93⟩ := hb89 _ _ HR92 rfl
  replace H := H_; clear H_; try dsimp only [setn, addE, goneL] at H
  refine vn tbok 2 [] [(31, .bool (!r85))] [] E (by kernel_rfl) (by kernel_rfl) trivial ?_
  clear E; intro a E
  refine wpList_nil ?_
  have hx_ := Option.some.inj hP
  exact .inl ⟨rfl, !r85, E.pick _ ⟨rfl, rfl, rfl, rfl, rfl, trivial⟩, H.sel [6, 0, 1, 2, 7, 3, 4, 5, 8] rfl, hx_.symm⟩
 clear E H h70; rintro a w73 ⟨x72, E, H, hx_⟩
 subst hx_; have hP := hK71; clear hK71
 refine th_n ?_
 refine E.cases (t := 31) rfl (fun hb_ E_ => ?_) (fun hb_ E_ => ?_)
 ·
  replace E := E_; clear E_
  have h94 : x69 = true := hb_
  clear hb_; replace hP := ite_t h94 hP
  refine c_true E rfl ?_
  refine wp_seq ?_
  refine wp_region_lit ?_
  refine vn tbok 2 [] [(6, .bool r39)] [] E (by kernel_rfl) (by kernel_rfl) trivial ?_
  clear E; intro a E
  refine wpList_nil ?_
  refine th_n ?_
  refine wp_ret ?_
  refine th_ret ?_
  obtain rfl := Option.some.inj hP
  refine ret1 E rfl rfl ?_
  exact ⟨_, rfl, rfl, H.sel [] rfl⟩
 replace E := E_; clear E_
 have h95 : ¬ (x69 = true) := (ne_true_of_eq_false hb_)
 clear hb_; replace hP := ite_f h95 hP
 refine c_false E rfl ?_
 refine wp_skip ?_
 refine th_n ?_
 refine wp_seq ?_
 refine wp_region_lit ?_
 refine vn tbok 2 [.agg #[.int .i64 aProps, .slice A1 (List.length aAccept) c2, .slice A5 (List.length aGuard) c6, .slice A9 (List.length aNodes) c10], .agg #[.int .i64 bProps, .slice A13 (List.length bAccept) c14, .slice A17 (List.length bGuard) c18, .slice A21 (List.length bNodes) c22]] [(34, .agg #[.int .i64 aProps, .slice A1 (List.length aAccept) c2, .slice A5 (List.length aGuard) c6, .slice A9 (List.length aNodes) c10]), (35, .agg #[.int .i64 bProps, .slice A13 (List.length bAccept) c14, .slice A17 (List.length bGuard) c18, .slice A21 (List.length bNodes) c22])] [cellsAt w73 g29 (0) [.int .i64 aProps, .slice A1 (List.length aAccept) c2, .slice A5 (List.length aGuard) c6, .slice A9 (List.length aNodes) c10], cellsAt w73 g34 (0) [.int .i64 bProps, .slice A13 (List.length bAccept) c14, .slice A17 (List.length bGuard) c18, .slice A21 (List.length bNodes) c22]] E (by kernel_rfl) (by kernel_rfl) ⟨(H.box 4 rfl).sub 0 _ rfl, (H.box 8 rfl).sub 0 _ rfl⟩ ?_
 clear E; intro a E
 obtain ⟨r96, h97, hP⟩ := bind_inv hP
 obtain ⟨Fa98, Hc99, hb100⟩ := H.call [] [(1, false), (2, false), (3, false), (5, false), (6, false), (7, false)] rfl rfl trivial
 refine e_call E rfl rfl Try.func17 rfl rfl rfl (both_Part_calls A1 c2 A5 c6 A9 c10 A13 c14 A17 c18 A21 c22 aProps aAccept aGuard aNodes bProps bAccept bGuard bNodes hk3 hk7 hk11 hk15 hk19 hk23 Hc99 h97) ?_
 rintro v101 w102 a ⟨A105, c106, rfl, HR103⟩ E_
 replace E := E_ _ rfl; clear E_
 obtain ⟨H_, hc104⟩ := hb100 _ _ HR103 rfl
 replace H := H_; clear H_; try dsimp only [setn, addE, goneL] at H
 refine vn tbok 7 [] [(8, .slice A105 (List.length r96.1) c106), (9, .bool r96.2.1), (10, .int .i64 r96.2.2)] [] E (by kernel_rfl) (by kernel_rfl) trivial ?_
 clear E; intro a E
 refine wpList_nil ?_
 refine th_n ?_
 refine wp_seq ?_
 refine wp_seq ?_
 refine wp_region_lit ?_
 refine vn tbok 2 [] [(41, .bool ((r96.2.2 : Int) != 0))] [] E (by kernel_rfl) (by kernel_rfl) trivial ?_
 clear E; intro a E
 refine wpList_nil ?_
 refine th_n ?_
 refine E.cases (t := 41) rfl (fun hb_ E_ => ?_) (fun hb_ E_ => ?_)
 ·
  replace E := E_; clear E_
  have h108 : ¬ ((r96.2.2 : Int) = 0) := bne_iff_ne.1 hb_
  clear hb_; replace hP := ite_f h108 hP
  refine c_true E rfl ?_
  refine wp_seq ?_
  obtain ⟨x114, h115, hK116⟩ := bind_inv hP
  clear hP
  refine meet_cut (fun a w118 => ∃ (x117 : Bool), Fr a 184 [(6, .bool x117)] ∧ Hp S Fa w0 w118 [] ∧ x114 = x117) ?_ ?_
  ·
   have hP := h115; clear h115; rw [law20_BothShortest_j1] at hP
   refine wp_region_lit ?_
   refine vn tbok 2 [] [(43, .bool r39)] [] E (by kernel_rfl) (by kernel_rfl) trivial ?_
   clear E; intro a E
   refine E.cases (t := 43) rfl (fun hb_ E_ => ?_) (fun hb_ E_ => ?_)
   ·
    replace E := E_; clear E_
    have h119 : r39 = true := hb_
    clear hb_; replace hP := ite_t h119 hP
    refine vn tbok 4 [] [(47, .bool (!r96.2.1))] [] E (by kernel_rfl) (by kernel_rfl) trivial ?_
    clear E; intro a E
    refine E.cases (t := 47) rfl (fun hb_ E_ => ?_) (fun hb_ E_ => ?_)
    ·
     replace E := E_; clear E_
     have h120 : ¬ (r96.2.1 = true) := (ne_true_of_eq_false (not_t hb_))
     clear hb_; replace hP := ite_f h120 hP
     refine vn tbok 5 [] [(6, .bool (((((List.length r96.1) : Nat) : Int) : Int) == 0))] [] E (by kernel_rfl) (by kernel_rfl) trivial ?_
     clear E; intro a E
     refine wpList_nil ?_
     have hx_ := Option.some.inj hP
     exact .inl ⟨rfl, ((((List.length r96.1) : Nat) : Int) : Int) == 0, E.pick _ ⟨rfl, trivial⟩, H.sel [] rfl, hx_.symm⟩
    replace E := E_; clear E_
    have h121 : r96.2.1 = true := (not_f hb_)
    clear hb_; replace hP := ite_t h121 hP
    refine vn tbok 5 [] [(6, .bool false)] [] E (by kernel_rfl) (by kernel_rfl) trivial ?_
    clear E; intro a E
    refine wpList_nil ?_
    have hx_ := Option.some.inj hP
    exact .inl ⟨rfl, false, E.pick _ ⟨rfl, trivial⟩, H.sel [] rfl, hx_.symm⟩
   replace E := E_; clear E_
   have h122 : ¬ (r39 = true) := (ne_true_of_eq_false hb_)
   clear hb_; replace hP := ite_f h122 hP
   refine vn tbok 9 [] [(6, .bool false)] [] E (by kernel_rfl) (by kernel_rfl) trivial ?_
   clear E; intro a E
   refine wpList_nil ?_
   have hx_ := Option.some.inj hP
   exact .inl ⟨rfl, false, E.pick _ ⟨rfl, trivial⟩, H.sel [] rfl, hx_.symm⟩
  clear E H h115; rintro a w118 ⟨x117, E, H, hx_⟩
  subst hx_; have hP := hK116; clear hK116
  refine th_n ?_
  refine wp_ret ?_
  refine th_ret ?_
  obtain rfl := Option.some.inj hP
  refine ret1 E rfl rfl ?_
  exact ⟨_, rfl, rfl, H.sel [] rfl⟩
 replace E := E_; clear E_
 have h123 : (r96.2.2 : Int) = 0 := bne_eq_false_iff_eq.1 hb_
 clear hb_; replace hP := ite_t h123 hP
 refine c_false E rfl ?_
 refine wp_skip ?_
 refine th_n ?_
 refine wp_seq ?_
 refine wp_region_lit ?_
 refine vn tbok 1 [.agg #[.int .i64 aProps, .slice A1 (List.length aAccept) c2, .slice A5 (List.length aGuard) c6, .slice A9 (List.length aNodes) c10]] [(53, .agg #[.int .i64 aProps, .slice A1 (List.length aAccept) c2, .slice A5 (List.length aGuard) c6, .slice A9 (List.length aNodes) c10])] [cellsAt w102 g29 (0) [.int .i64 aProps, .slice A1 (List.length aAccept) c2, .slice A5 (List.length aGuard) c6, .slice A9 (List.length aNodes) c10]] E (by kernel_rfl) (by kernel_rfl) ((H.box 4 rfl).sub 0 _ rfl) ?_
 clear E; intro a E
 obtain ⟨r124, h125, hP⟩ := bind_inv hP
 obtain ⟨Fa126, Hc127, hb128⟩ := H.call [] [(1, false), (2, false), (3, false)] rfl rfl trivial
 refine e_call E rfl rfl Try.func25 rfl rfl rfl (canon_Min_calls A1 c2 A5 c6 A9 c10 aProps aAccept aGuard aNodes hk3 hk7 hk11 Hc127 h125) ?_
 rintro v129 w130 a ⟨A133, c134, A136, c137, A139, c140, rfl, HR131⟩ E_
 replace E := E_ _ rfl; clear E_
 obtain ⟨H_, hc132⟩ := hb128 _ _ HR131 rfl
 replace H := H_; clear H_; try dsimp only [setn, addE, goneL] at H
 refine vn tbok 3 [] [(55, .agg #[.int .i64 r124.1.1, .slice A133 (List.length r124.1.2.1) c134, .slice A136 (List.length r124.1.2.2.1) c137, .slice A139 (List.length r124.1.2.2.2) c140]), (56, .int .i64 r124.2)] [] E (by kernel_rfl) (by kernel_rfl) trivial ?_
 clear E; intro a E
 refine h_alloc H E rfl rfl tbok rfl ?_
 intro w143 g142 a hc144 hg146 H_ E_
 replace E := E_ _ rfl; clear E_
 replace H := H_; clear H_; try dsimp only [setn, addE, goneL] at H
 refine h_store (g := g142) (off := 0) H 13 rfl E rfl rfl rfl rfl tbok rfl rfl rfl rfl rfl ?_
 clear E; intro w147 a hc148 H_ E
 replace H := H_; clear H_; try dsimp only [setn, addE, goneL] at H
 refine vn tbok 1 [] [(12, .int .i64 r124.2)] [] E (by kernel_rfl) (by kernel_rfl) trivial ?_
 clear E; intro a E
 refine wpList_nil ?_
 refine th_n ?_
 refine wp_seq ?_
 refine wp_region_lit ?_
 refine vn tbok 1 [.agg #[.int .i64 bProps, .slice A13 (List.length bAccept) c14, .slice A17 (List.length bGuard) c18, .slice A21 (List.length bNodes) c22]] [(58, .agg #[.int .i64 bProps, .slice A13 (List.length bAccept) c14, .slice A17 (List.length bGuard) c18, .slice A21 (List.length bNodes) c22])] [cellsAt w147 g34 (0) [.int .i64 bProps, .slice A13 (List.length bAccept) c14, .slice A17 (List.length bGuard) c18, .slice A21 (List.length bNodes) c22]] E (by kernel_rfl) (by kernel_rfl) ((H.box 8 rfl).sub 0 _ rfl) ?_
 clear E; intro a E
 obtain ⟨r149, h150, hP⟩ := bind_inv hP
 obtain ⟨Fa151, Hc152, hb153⟩ := H.call [] [(5, false), (6, false), (7, false)] rfl rfl trivial
 refine e_call E rfl rfl Try.func25 rfl rfl rfl (canon_Min_calls A13 c14 A17 c18 A21 c22 bProps bAccept bGuard bNodes hk15 hk19 hk23 Hc152 h150) ?_
 rintro v154 w155 a ⟨A158, c159, A161, c162, A164, c165, rfl, HR156⟩ E_
 replace E := E_ _ rfl; clear E_
 obtain ⟨H_, hc157⟩ := hb153 _ _ HR156 rfl
 replace H := H_; clear H_; try dsimp only [setn, addE, goneL] at H
 refine vn tbok 3 [] [(60, .agg #[.int .i64 r149.1.1, .slice A158 (List.length r149.1.2.1) c159, .slice A161 (List.length r149.1.2.2.1) c162, .slice A164 (List.length r149.1.2.2.2) c165]), (61, .int .i64 r149.2)] [] E (by kernel_rfl) (by kernel_rfl) trivial ?_
 clear E; intro a E
 refine h_alloc H E rfl rfl tbok rfl ?_
 intro w168 g167 a hc169 hg171 H_ E_
 replace E := E_ _ rfl; clear E_
 replace H := H_; clear H_; try dsimp only [setn, addE, goneL] at H
 refine h_store (g := g167) (off := 0) H 17 rfl E rfl rfl rfl rfl tbok rfl rfl rfl rfl rfl ?_
 clear E; intro w172 a hc173 H_ E
 replace H := H_; clear H_; try dsimp only [setn, addE, goneL] at H
 refine vn tbok 1 [] [(14, .int .i64 r149.2)] [] E (by kernel_rfl) (by kernel_rfl) trivial ?_
 clear E; intro a E
 refine wpList_nil ?_
 refine th_n ?_
 refine wp_seq ?_
 refine wp_region_lit ?_
 refine vn tbok 2 [.agg #[.int .i64 aProps, .slice A1 (List.length aAccept) c2, .slice A5 (List.length aGuard) c6, .slice A9 (List.length aNodes) c10], .agg #[.int .i64 bProps, .slice A13 (List.length bAccept) c14, .slice A17 (List.length bGuard) c18, .slice A21 (List.length bNodes) c22]] [(63, .agg #[.int .i64 aProps, .slice A1 (List.length aAccept) c2, .slice A5 (List.length aGuard) c6, .slice A9 (List.length aNodes) c10]), (64, .agg #[.int .i64 bProps, .slice A13 (List.length bAccept) c14, .slice A17 (List.length bGuard) c18, .slice A21 (List.length bNodes) c22])] [cellsAt w172 g29 (0) [.int .i64 aProps, .slice A1 (List.length aAccept) c2, .slice A5 (List.length aGuard) c6, .slice A9 (List.length aNodes) c10], cellsAt w172 g34 (0) [.int .i64 bProps, .slice A13 (List.length bAccept) c14, .slice A17 (List.length bGuard) c18, .slice A21 (List.length bNodes) c22]] E (by kernel_rfl) (by kernel_rfl) ⟨(H.box 4 rfl).sub 0 _ rfl, (H.box 8 rfl).sub 0 _ rfl⟩ ?_
 clear E; intro a E
 obtain ⟨r174, h175, hP⟩ := bind_inv hP
 obtain ⟨Fa176, Hc177, hb178⟩ := H.call [] [(1, false), (2, false), (3, false), (5, false), (6, false), (7, false)] rfl rfl trivial
 refine e_call E rfl rfl Try.func18 rfl rfl rfl (both_Equal_calls A1 c2 A5 c6 A9 c10 A13 c14 A17 c18 A21 c22 aProps aAccept aGuard aNodes bProps bAccept bGuard bNodes hk3 hk7 hk11 hk15 hk19 hk23 Hc177 h175) ?_
 rintro v179 w180 a ⟨rfl, HR181⟩ E_
 replace E := E_ _ rfl; clear E_
 obtain ⟨H_, hc182⟩ := hb178 _ _ HR181 rfl
 replace H := H_; clear H_; try dsimp only [setn, addE, goneL] at H
 refine vn tbok 5 [] [(15, .bool r174.1), (16, .int .i64 r174.2)] [] E (by kernel_rfl) (by kernel_rfl) trivial ?_
 clear E; intro a E
 refine wpList_nil ?_
 refine th_n ?_
 refine wp_seq ?_
 refine wp_region_lit ?_
 refine vn tbok 2 [.agg #[.int .i64 aProps, .slice A1 (List.length aAccept) c2, .slice A5 (List.length aGuard) c6, .slice A9 (List.length aNodes) c10], .agg #[.int .i64 bProps, .slice A13 (List.length bAccept) c14, .slice A17 (List.length bGuard) c18, .slice A21 (List.length bNodes) c22]] [(69, .agg #[.int .i64 aProps, .slice A1 (List.length aAccept) c2, .slice A5 (List.length aGuard) c6, .slice A9 (List.length aNodes) c10]), (70, .agg #[.int .i64 bProps, .slice A13 (List.length bAccept) c14, .slice A17 (List.length bGuard) c18, .slice A21 (List.length bNodes) c22])] [cellsAt w180 g29 (0) [.int .i64 aProps, .slice A1 (List.length aAccept) c2, .slice A5 (List.length aGuard) c6, .slice A9 (List.length aNodes) c10], cellsAt w180 g34 (0) [.int .i64 bProps, .slice A13 (List.length bAccept) c14, .slice A17 (List.length bGuard) c18, .slice A21 (List.length bNodes) c22]] E (by kernel_rfl) (by kernel_rfl) ⟨(H.box 4 rfl).sub 0 _ rfl, (H.box 8 rfl).sub 0 _ rfl⟩ ?_
 clear E; intro a E
 obtain ⟨r183, h184, hP⟩ := bind_inv hP
 obtain ⟨Fa185, Hc186, hb187⟩ := H.call [] [(1, false), (2, false), (3, false), (5, false), (6, false), (7, false)] rfl rfl trivial
 refine e_call E rfl rfl Try.func19 rfl rfl rfl (both_Implies_calls A1 c2 A5 c6 A9 c10 A13 c14 A17 c18 A21 c22 aProps aAccept aGuard aNodes bProps bAccept bGuard bNodes hk3 hk7 hk11 hk15 hk19 hk23 Hc186 h184) ?_
 rintro v188 w189 a ⟨rfl, HR190⟩ E_
 replace E := E_ _ rfl; clear E_
 obtain ⟨H_, hc191⟩ := hb187 _ _ HR190 rfl
 replace H := H_; clear H_; try dsimp only [setn, addE, goneL] at H
 refine vn tbok 5 [] [(17, .bool r183.1), (18, .int .i64 r183.2)] [] E (by kernel_rfl) (by kernel_rfl) trivial ?_
 clear E; intro a E
 refine wpList_nil ?_
 refine th_n ?_
 refine wp_seq ?_
 refine wp_region_lit ?_
 refine vn tbok 2 [.agg #[.int .i64 bProps, .slice A13 (List.length bAccept) c14, .slice A17 (List.length bGuard) c18, .slice A21 (List.length bNodes) c22], .agg #[.int .i64 aProps, .slice A1 (List.length aAccept) c2, .slice A5 (List.length aGuard) c6, .slice A9 (List.length aNodes) c10]] [(75, .agg #[.int .i64 bProps, .slice A13 (List.length bAccept) c14, .slice A17 (List.length bGuard) c18, .slice A21 (List.length bNodes) c22]), (76, .agg #[.int .i64 aProps, .slice A1 (List.length aAccept) c2, .slice A5 (List.length aGuard) c6, .slice A9 (List.length aNodes) c10])] [cellsAt w189 g34 (0) [.int .i64 bProps, .slice A13 (List.length bAccept) c14, .slice A17 (List.length bGuard) c18, .slice A21 (List.length bNodes) c22], cellsAt w189 g29 (0) [.int .i64 aProps, .slice A1 (List.length aAccept) c2, .slice A5 (List.length aGuard) c6, .slice A9 (List.length aNodes) c10]] E (by kernel_rfl) (by kernel_rfl) ⟨(H.box 8 rfl).sub 0 _ rfl, (H.box 4 rfl).sub 0 _ rfl⟩ ?_
 clear E; intro a E
 obtain ⟨r192, h193, hP⟩ := bind_inv hP
 obtain ⟨Fa194, Hc195, hb196⟩ := H.call [] [(5, false), (6, false), (7, false), (1, false), (2, false), (3, false)] rfl rfl trivial
 refine e_call E rfl rfl Try.func19 rfl rfl rfl (both_Implies_calls A13 c14 A17 c18 A21 c22 A1 c2 A5 c6 A9 c10 bProps bAccept bGuard bNodes aProps aAccept aGuard aNodes hk15 hk19 hk23 hk3 hk7 hk11 Hc195 h193) ?_
 rintro v197 w198 a ⟨rfl, HR199⟩ E_
 replace E := E_ _ rfl; clear E_
 obtain ⟨H_, hc200⟩ := hb196 _ _ HR199 rfl
 replace H := H_; clear H_; try dsimp only [setn, addE, goneL] at H
 refine vn tbok 5 [] [(19, .bool r192.1), (20, .int .i64 r192.2)] [] E (by kernel_rfl) (by kernel_rfl) trivial ?_
 clear E; intro a E
 refine wpList_nil ?_
 refine th_n ?_
 refine wp_seq ?_
 refine wp_seq ?_
 obtain ⟨x227, h228, hK229⟩ := bind_inv hP
 clear hP
 refine meet_cut (fun a w231 => ∃ (x230 : Bool), Fr a 184 [(2, .slice A25 (List.length t) c26), (3, .pointer (some ⟨g29, 0, none⟩)), (4, .pointer (some ⟨g34, 0, none⟩)), (7, .bool r39), (8, .slice A105 (List.length r96.1) c106), (9, .bool r96.2.1), (17, .bool r183.1), (117, .bool x230)] ∧ Hp S Fa w0 w231 [.ro false (cInt .u8) A25 t, .ro false cBool A1 aAccept, .ro false (cInt .i64) A5 aGuard, .ro false cNode A9 aNodes, .box g29 26 [.int .i64 aProps, .slice A1 (List.length aAccept) c2, .slice A5 (List.length aGuard) c6, .slice A9 (List.length aNodes) c10], .ro false cBool A13 bAccept, .ro false (cInt .i64) A17 bGuard, .ro false cNode A21 bNodes, .box g34 26 [.int .i64 bProps, .slice A13 (List.length bAccept) c14, .slice A17 (List.length bGuard) c18, .slice A21 (List.length bNodes) c22], .row true (cInt .u8) 50 A105 c106 r96.1] ∧ x227 = x230) ?_ ?_
 ·
  have hP := h228; clear h228; rw [law20_BothShortest_j2] at hP
  refine wp_region_lit ?_
  refine vn tbok 3 [] [(82, .bool ((r124.2 : Int) != 0))] [] E (by kernel_rfl) (by kernel_rfl) trivial ?_
  clear E; intro a E
  refine E.cases (t := 82) rfl (fun hb_ E_ => ?_) (fun hb_ E_ => ?_)
  ·
   replace E := E_; clear E_
   have h232 : ¬ ((r124.2 : Int) = 0) := bne_iff_ne.1 hb_
   clear hb_; replace hP := ite_f h232 hP
   refine vn tbok 35 [] [(117, .bool true)] [] E (by kernel_rfl) (by kernel_rfl) trivial ?_
   clear E; intro a E
   refine wpList_nil ?_
   have hx_ := Option.some.inj hP
   exact .inl ⟨rfl, true, E.pick _ ⟨rfl, rfl, rfl, rfl, rfl, rfl, rfl, rfl, trivial⟩, H.sel [0, 1, 2, 3, 4, 5, 6, 7, 8, 9] rfl, hx_.symm⟩
  replace E := E_; clear E_
  have h233 : (r124.2 : Int) = 0 := bne_eq_false_iff_eq.1 hb_
  clear hb_; replace hP := ite_t h233 hP
  refine vn tbok 4 [] [(86, .bool ((r149.2 : Int) != 0))] [] E (by kernel_rfl) (by kernel_rfl) trivial ?_
  clear E; intro a E
  refine E.cases (t := 86) rfl (fun hb_ E_ => ?_) (fun hb_ E_ => ?_)
  ·
   replace E := E_; clear E_
   have h234 : ¬ ((r149.2 : Int) = 0) := bne_iff_ne.1 hb_
   clear hb_; replace hP := ite_f h234 hP
   refine vn tbok 31 [] [(117, .bool true)] [] E (by kernel_rfl) (by kernel_rfl) trivial ?_
   clear E; intro a E
   refine wpList_nil ?_
   have hx_ := Option.some.inj hP
   exact .inl ⟨rfl, true, E.pick _ ⟨rfl, rfl, rfl, rfl, rfl, rfl, rfl, rfl, trivial⟩, H.sel [0, 1, 2, 3, 4, 5, 6, 7, 8, 9] rfl, hx_.symm⟩
  replace E := E_; clear E_
  have h235 : (r149.2 : Int) = 0 := bne_eq_false_iff_eq.1 hb_
  clear hb_; replace hP := ite_t h235 hP
  refine vn tbok 4 [] [(90, .bool ((r174.2 : Int) != 0))] [] E (by kernel_rfl) (by kernel_rfl) trivial ?_
  clear E; intro a E
  refine E.cases (t := 90) rfl (fun hb_ E_ => ?_) (fun hb_ E_ => ?_)
  ·
   replace E := E_; clear E_
   have h236 : ¬ ((r174.2 : Int) = 0) := bne_iff_ne.1 hb_
   clear hb_; replace hP := ite_f h236 hP
   refine vn tbok 27 [] [(117, .bool true)] [] E (by kernel_rfl) (by kernel_rfl) trivial ?_
   clear E; intro a E
   refine wpList_nil ?_
   have hx_ := Option.some.inj hP
   exact .inl ⟨rfl, true, E.pick _ ⟨rfl, rfl, rfl, rfl, rfl, rfl, rfl, rfl, trivial⟩, H.sel [0, 1, 2, 3, 4, 5, 6, 7, 8, 9] rfl, hx_.symm⟩
  replace E := E_; clear E_
  have h237 : (r174.2 : Int) = 0 := bne_eq_false_iff_eq.1 hb_
  clear hb_; replace hP := ite_t h237 hP
  refine vn tbok 4 [] [(94, .bool ((r183.2 : Int) != 0))] [] E (by kernel_rfl) (by kernel_rfl) trivial ?_
  clear E; intro a E
  refine E.cases (t := 94) rfl (fun hb_ E_ => ?_) (fun hb_ E_ => ?_)
  ·
   replace E := E_; clear E_
   have h238 : ¬ ((r183.2 : Int) = 0) := bne_iff_ne.1 hb_
   clear hb_; replace hP := ite_f h238 hP
   refine vn tbok 23 [] [(117, .bool true)] [] E (by kernel_rfl) (by kernel_rfl) trivial ?_
   clear E; intro a E
   refine wpList_nil ?_
   have hx_ := Option.some.inj hP
   exact .inl ⟨rfl, true, E.pick _ ⟨rfl, rfl, rfl, rfl, rfl, rfl, rfl, rfl, trivial⟩, H.sel [0, 1, 2, 3, 4, 5, 6, 7, 8, 9] rfl, hx_.symm⟩
  replace E := E_; clear E_
  have h239 : (r183.2 : Int) = 0 := bne_eq_false_iff_eq.1 hb_
  clear hb_; replace hP := ite_t h239 hP
  refine vn tbok 4 [] [(98, .bool ((r192.2 : Int) != 0))] [] E (by kernel_rfl) (by kernel_rfl) trivial ?_
  clear E; intro a E
  refine E.cases (t := 98) rfl (fun hb_ E_ => ?_) (fun hb_ E_ => ?_)
  ·
   replace E := E_; clear E_
   have h240 : ¬ ((r192.2 : Int) = 0) := bne_iff_ne.1 hb_
   clear hb_; replace hP := ite_f h240 hP
   refine vn tbok 19 [] [(117, .bool true)] [] E (by kernel_rfl) (by kernel_rfl) trivial ?_
   clear E; intro a E
   refine wpList_nil ?_
   have hx_ := Option.some.inj hP
   exact .inl ⟨rfl, true, E.pick _ ⟨rfl, rfl, rfl, rfl, rfl, rfl, rfl, rfl, trivial⟩, H.sel [0, 1, 2, 3, 4, 5, 6, 7, 8, 9] rfl, hx_.symm⟩
  replace E := E_; clear E_
  have h241 : (r192.2 : Int) = 0 := bne_eq_false_iff_eq.1 hb_
  clear hb_; replace hP := ite_t h241 hP
  refine vn tbok 5 [] [(103, .bool (r174.1 == r96.2.1))] [] E (by kernel_rfl) (by kernel_rfl) trivial ?_
  clear E; intro a E
  refine E.cases (t := 103) rfl (fun hb_ E_ => ?_) (fun hb_ E_ => ?_)
  ·
   replace E := E_; clear E_
   have h242 : r174.1 = r96.2.1 := eq_of_beq hb_
   clear hb_; replace hP := ite_t h242 hP
   refine vn tbok 14 [] [(117, .bool true)] [] E (by kernel_rfl) (by kernel_rfl) trivial ?_
   clear E; intro a E
   refine wpList_nil ?_
   have hx_ := Option.some.inj hP
   exact .inl ⟨rfl, true, E.pick _ ⟨rfl, rfl, rfl, rfl, rfl, rfl, rfl, rfl, trivial⟩, H.sel [0, 1, 2, 3, 4, 5, 6, 7, 8, 9] rfl, hx_.symm⟩
  replace E := E_; clear E_
  have h243 : ¬ (r174.1 = r96.2.1) := ne_of_beq_false hb_
  clear hb_; replace hP := ite_f h243 hP
  refine vn tbok 2 [.agg #[.int .i64 r124.1.1, .slice A133 (List.length r124.1.2.1) c134, .slice A136 (List.length r124.1.2.2.1) c137, .slice A139 (List.length r124.1.2.2.2) c140], .agg #[.int .i64 r149.1.1, .slice A158 (List.length r149.1.2.1) c159, .slice A161 (List.length r149.1.2.2.1) c162, .slice A164 (List.length r149.1.2.2.2) c165]] [(104, .agg #[.int .i64 r124.1.1, .slice A133 (List.length r124.1.2.1) c134, .slice A136 (List.length r124.1.2.2.1) c137, .slice A139 (List.length r124.1.2.2.2) c140]), (105, .agg #[.int .i64 r149.1.1, .slice A158 (List.length r149.1.2.1) c159, .slice A161 (List.length r149.1.2.2.1) c162, .slice A164 (List.length r149.1.2.2.2) c165])] [cellsAt w198 g142 (0) [.int .i64 r124.1.1, .slice A133 (List.length r124.1.2.1) c134, .slice A136 (List.length r124.1.2.2.1) c137, .slice A139 (List.length r124.1.2.2.2) c140], cellsAt w198 g167 (0) [.int .i64 r149.1.1, .slice A158 (List.length r149.1.2.1) c159, .slice A161 (List.length r149.1.2.2.1) c162, .slice A164 (List.length r149.1.2.2.2) c165]] E (by kernel_rfl) (by kernel_rfl) ⟨(H.box 13 rfl).sub 0 _ rfl, (H.box 17 rfl).sub 0 _ rfl⟩ ?_
  clear E; intro a E
  obtain ⟨r244, h245, hP⟩ := bind_inv hP
  obtain ⟨Fa246, Hc247, hb248⟩ := H.call [] [(10, false), (11, false), (12, false), (14, false), (15, false), (16, false)] rfl rfl trivial
  refine e_call E rfl rfl Try.func27 rfl rfl rfl (canon_Same_calls A133 c134 A136 c137 A139 c140 A158 c159 A161 c162 A164 c165 r124.1.1 r124.1.2.1 r124.1.2.2.1 r124.1.2.2.2 r149.1.1 r149.1.2.1 r149.1.2.2.1 r149.1.2.2.2 (H.rcap 10 rfl) (H.rcap 11 rfl) (H.rcap 12 rfl) (H.rcap 14 rfl) (H.rcap 15 rfl) (H.rcap 16 rfl) Hc247 h245) ?_
  rintro v249 w250 a ⟨rfl, HR251⟩ E_
  replace E := E_ _ rfl; clear E_
  obtain ⟨H_, hc252⟩ := hb248 _ _ HR251 rfl
  replace H := H_; clear H_; try dsimp only [setn, addE, goneL] at H
  refine vn tbok 4 [] [(110, .bool (!(r244 == r174.1)))] [] E (by kernel_rfl) (by kernel_rfl) trivial ?_
  clear E; intro a E
  refine E.cases (t := 110) rfl (fun hb_ E_ => ?_) (fun hb_ E_ => ?_)
  ·
   replace E := E_; clear E_
   have h253 : ¬ (r244 = r174.1) := (by simpa using hb_)
   clear hb_; replace hP := ite_f h253 hP
   refine vr tbok 7 [] [(2, .slice A25 (List.length t) c26), (3, .pointer (some ⟨g29, 0, none⟩)), (4, .pointer (some ⟨g34, 0, none⟩)), (7, .bool r39), (8, .slice A105 (List.length r96.1) c106), (9, .bool r96.2.1), (17, .bool r183.1), (117, .bool true)] [] E (by kernel_rfl) trivial ?_
   clear E; intro a E
   refine wpList_nil ?_
   have hx_ := Option.some.inj hP
   exact .inl ⟨rfl, true, E.pick _ ⟨rfl, rfl, rfl, rfl, rfl, rfl, rfl, rfl, trivial⟩, H.sel [0, 1, 2, 3, 4, 5, 6, 7, 8, 9] rfl, hx_.symm⟩
  replace E := E_; clear E_
  have h254 : r244 = r174.1 := (by simpa using hb_)
  clear hb_; replace hP := ite_t h254 hP
  refine vn tbok 2 [] [(112, .bool r183.1)] [] E (by kernel_rfl) (by kernel_rfl) trivial ?_
  clear E; intro a E
  refine E.cases (t := 112) rfl (fun hb_ E_ => ?_) (fun hb_ E_ => ?_)
  ·
   replace E := E_; clear E_
   have h255 : r183.1 = true := hb_
   clear hb_; replace hP := ite_t h255 hP
   refine vr tbok 5 [] [(2, .slice A25 (List.length t) c26), (3, .pointer (some ⟨g29, 0, none⟩)), (4, .pointer (some ⟨g34, 0, none⟩)), (7, .bool r39), (8, .slice A105 (List.length r96.1) c106), (9, .bool r96.2.1), (17, .bool r183.1), (117, .bool (!(r192.1 == r174.1)))] [] E (by kernel_rfl) trivial ?_
   clear E; intro a E
   refine wpList_nil ?_
   have hx_ := Option.some.inj hP
   exact .inl ⟨rfl, !(r192.1 == r174.1), E.pick _ ⟨rfl, rfl, rfl, rfl, rfl, rfl, rfl, rfl, trivial⟩, H.sel [0, 1, 2, 3, 4, 5, 6, 7, 8, 9] rfl, hx_.symm⟩
  replace E := E_; clear E_
  have h256 : ¬ (r183.1 = true) := (ne_true_of_eq_false hb_)
  clear hb_; replace hP := ite_f h256 hP
  refine vr tbok 5 [] [(2, .slice A25 (List.length t) c26), (3, .pointer (some ⟨g29, 0, none⟩)), (4, .pointer (some ⟨g34, 0, none⟩)), (7, .bool r39), (8, .slice A105 (List.length r96.1) c106), (9, .bool r96.2.1), (17, .bool r183.1), (117, .bool (!(false == r174.1)))] [] E (by kernel_rfl) trivial ?_
  clear E; intro a E
  refine wpList_nil ?_
  have hx_ := Option.some.inj hP
  exact .inl ⟨rfl, !(false == r174.1), E.pick _ ⟨rfl, rfl, rfl, rfl, rfl, rfl, rfl, rfl, trivial⟩, H.sel [0, 1, 2, 3, 4, 5, 6, 7, 8, 9] rfl, hx_.symm⟩
 clear E H h228; rintro a w231 ⟨x230, E, H, hx_⟩
 subst hx_; have hP := hK229; clear hK229
 refine th_n ?_
 refine E.cases (t := 117) rfl (fun hb_ E_ => ?_) (fun hb_ E_ => ?_)
 ·
  replace E := E_; clear E_
  have h257 : x227 = true := hb_
  clear hb_; replace hP := ite_t h257 hP
  refine c_true E rfl ?_
  refine wp_seq ?_
  refine wp_region_lit ?_
  refine vn tbok 1 [] [(6, .bool false)] [] E (by kernel_rfl) (by kernel_rfl) trivial ?_
  clear E; intro a E
  refine wpList_nil ?_
  refine th_n ?_
  refine wp_ret ?_
  refine th_ret ?_
  obtain rfl := Option.some.inj hP
  refine ret1 E rfl rfl ?_
  exact ⟨_, rfl, rfl, H.sel [] rfl⟩
 replace E := E_; clear E_
 have h258 : ¬ (x227 = true) := (ne_true_of_eq_false hb_)
 clear hb_; replace hP := ite_f h258 hP
 refine c_false E rfl ?_
 refine wp_skip ?_
 refine th_n ?_
 refine wp_seq ?_
 refine wp_seq ?_
 obtain ⟨x301, h302, hK303⟩ := bind_inv hP
 clear hP
 refine meet_cut (fun a w305 => ∃ (x304 : Bool), Fr a 184 [(2, .slice A25 (List.length t) c26), (3, .pointer (some ⟨g29, 0, none⟩)), (4, .pointer (some ⟨g34, 0, none⟩)), (7, .bool r39), (8, .slice A105 (List.length r96.1) c106), (9, .bool r96.2.1), (17, .bool r183.1), (127, .bool x304)] ∧ Hp S Fa w0 w305 [.ro false (cInt .u8) A25 t, .ro false cBool A1 aAccept, .ro false (cInt .i64) A5 aGuard, .ro false cNode A9 aNodes, .box g29 26 [.int .i64 aProps, .slice A1 (List.length aAccept) c2, .slice A5 (List.length aGuard) c6, .slice A9 (List.length aNodes) c10], .ro false cBool A13 bAccept, .ro false (cInt .i64) A17 bGuard, .ro false cNode A21 bNodes, .box g34 26 [.int .i64 bProps, .slice A13 (List.length bAccept) c14, .slice A17 (List.length bGuard) c18, .slice A21 (List.length bNodes) c22], .row true (cInt .u8) 50 A105 c106 r96.1] ∧ x301 = x304) ?_ ?_
 ·
  have hP := h302; clear h302; rw [law20_BothShortest_j3] at hP
  by_cases h306 : r96.2.1 = true
  ·
   replace hP := ite_t h306 hP
   obtain ⟨r307, h308, hP⟩ := bind_inv hP
   obtain ⟨r316, h317, hP⟩ := bind_inv hP
   have HR328 := H
   refine dr_start (S := fun w_ => Chg (atL []) w231 w_) (by kernel_rfl) ?_
   intro w325 hc326
   have HS327 : Chg (atL []) w231 w325 := hc326.mono (fun _ _ h_ => h_.elim)
   replace H := H.ext hc326
   refine dn tbok (by kernel_rfl) [0, 1] [] [(119, .bool r96.2.1)] (fun w_ => []) 8 E (fun _ _ => by kernel_rfl) (by kernel_rfl) (fun w_ hS_ => trivial) (by kernel_rfl) HS327 ?_
   clear E; intro a E
   replace E := E.same (t := 119) (u := .bool true) rfl (congrArg Value.bool h306)
   refine dn tbok (by kernel_rfl) [2, 3, 5, 6] [.agg #[.int .i64 aProps, .slice A1 (List.length aAccept) c2, .slice A5 (List.length aGuard) c6, .slice A9 (List.length aNodes) c10], .agg #[.int .i64 bProps, .slice A13 (List.length bAccept) c14, .slice A17 (List.length bGuard) c18, .slice A21 (List.length bNodes) c22]] [(120, .agg #[.int .i64 aProps, .slice A1 (List.length aAccept) c2, .slice A5 (List.length aGuard) c6, .slice A9 (List.length aNodes) c10]), (121, .slice A105 (List.length r96.1) c106), (123, .agg #[.int .i64 bProps, .slice A13 (List.length bAccept) c14, .slice A17 (List.length bGuard) c18, .slice A21 (List.length bNodes) c22]), (124, .slice A105 (List.length r96.1) c106)] (fun w_ => [cellsAt w_ g29 (0) [.int .i64 aProps, .slice A1 (List.length aAccept) c2, .slice A5 (List.length aGuard) c6, .slice A9 (List.length aNodes) c10], cellsAt w_ g34 (0) [.int .i64 bProps, .slice A13 (List.length bAccept) c14, .slice A17 (List.length bGuard) c18, .slice A21 (List.length bNodes) c22]]) 4 E (fun _ _ => by kernel_rfl) (by kernel_rfl) (fun w_ hS_ => ⟨(HR328.boxk [] hS_ 4 rfl rfl).sub 0 _ rfl, (HR328.boxk [] hS_ 8 rfl rfl).sub 0 _ rfl⟩) (by kernel_rfl) HS327 ?_
   clear E; intro a E
   refine wpAnyH_all (rs := [4]) (by kernel_rfl) (by simp) ?_
   refine all1 ?_
   refine wpOp_of_list rfl ?_
   obtain ⟨Fa329, Hc330, hb331⟩ := H.call [] [(1, false), (2, false), (3, false), (9, false)] rfl rfl trivial
   refine e_call E rfl rfl Try.func29 rfl rfl rfl (law20_accepts_calls A1 c2 A5 c6 A9 c10 A105 c106 aProps aAccept aGuard aNodes r96.1 hk3 hk7 hk11 (H.rcap 9 rfl) Hc330 h308) ?_
   rintro v332 w333 a ⟨rfl, HR334⟩ E_
   replace E := E_ _ rfl; clear E_
   obtain ⟨H_, hc335⟩ := hb331 _ _ HR334 rfl
   replace HS327 := HS327.ext (callS_ext hc335)
   replace H := H_; clear H_; try dsimp only [setn, addE, goneL] at H
   refine wpList_nil ?_
   refine th_n ⟨HS327, ?_⟩
   refine wpAnyH_all (rs := [7]) (by kernel_rfl) (by simp) ?_
   refine all1 ?_
   refine wpOp_of_list rfl ?_
   obtain ⟨Fa336, Hc337, hb338⟩ := H.call [] [(5, false), (6, false), (7, false), (9, false)] rfl rfl trivial
   refine e_call E rfl rfl Try.func29 rfl rfl rfl (law20_accepts_calls A13 c14 A17 c18 A21 c22 A105 c106 bProps bAccept bGuard bNodes r96.1 hk15 hk19 hk23 (H.rcap 9 rfl) Hc337 h317) ?_
   rintro v339 w340 a ⟨rfl, HR341⟩ E_
   replace E := E_ _ rfl; clear E_
   obtain ⟨H_, hc342⟩ := hb338 _ _ HR341 rfl
   replace HS327 := HS327.ext (callS_ext hc342)
   replace H := H_; clear H_; try dsimp only [setn, addE, goneL] at H
   refine wpList_nil ?_
   refine th_n ⟨HS327, ?_⟩
   refine dn tbok (by kernel_rfl) [8, 9] [] [(127, .bool (r307 == r316))] (fun w_ => []) 0 E (fun _ _ => by kernel_rfl) (by kernel_rfl) (fun w_ hS_ => trivial) (by kernel_rfl) HS327 ?_
   clear E; intro a E
   refine dr_done (by kernel_rfl) ?_
   clear HS327 HR328
   have hx_ := Option.some.inj hP
   exact .inl ⟨rfl, r307 == r316, E.pick _ ⟨rfl, rfl, rfl, rfl, rfl, rfl, rfl, rfl, trivial⟩, H.sel [0, 1, 2, 3, 4, 5, 6, 7, 8, 9] rfl, hx_.symm⟩
  replace hP := ite_f h306 hP
  have HR346 := H
  refine dr_start (S := fun w_ => Chg (atL []) w231 w_) (by kernel_rfl) ?_
  intro w343 hc344
  have HS345 : Chg (atL []) w231 w343 := hc344.mono (fun _ _ h_ => h_.elim)
  replace H := H.ext hc344
  refine dn tbok (by kernel_rfl) [0, 1] [] [(119, .bool r96.2.1)] (fun w_ => []) 8 E (fun _ _ => by kernel_rfl) (by kernel_rfl) (fun w_ hS_ => trivial) (by kernel_rfl) HS345 ?_
  clear E; intro a E
  replace E := E.same (t := 119) (u := .bool false) rfl (congrArg Value.bool (eq_false_of_ne_true h306))
  refine dn tbok (by kernel_rfl) [2, 3, 4, 5, 6, 7, 8, 9] [] [(127, .bool false)] (fun w_ => []) 0 E (fun _ _ => by kernel_rfl) (by kernel_rfl) (fun w_ hS_ => trivial) (by kernel_rfl) HS345 ?_
  clear E; intro a E
  refine dr_done (by kernel_rfl) ?_
  clear HS345 HR346
  have hx_ := Option.some.inj hP
  exact .inl ⟨rfl, false, E.pick _ ⟨rfl, rfl, rfl, rfl, rfl, rfl, rfl, rfl, trivial⟩, H.sel [0, 1, 2, 3, 4, 5, 6, 7, 8, 9] rfl, hx_.symm⟩
 clear E H h302; rintro a w305 ⟨x304, E, H, hx_⟩
 subst hx_; have hP := hK303; clear hK303
 refine th_n ?_
 refine E.cases (t := 127) rfl (fun hb_ E_ => ?_) (fun hb_ E_ => ?_)
 ·
  replace E := E_; clear E_
  have h347 : x301 = true := hb_
  clear hb_; replace hP := ite_t h347 hP
  refine c_true E rfl ?_
  refine wp_seq ?_
  refine wp_region_lit ?_
  refine vn tbok 1 [] [(6, .bool false)] [] E (by kernel_rfl) (by kernel_rfl) trivial ?_
  clear E; intro a E
  refine wpList_nil ?_
  refine th_n ?_
  refine wp_ret ?_
  refine th_ret ?_
  obtain rfl := Option.some.inj hP
  refine ret1 E rfl rfl ?_
  exact ⟨_, rfl, rfl, H.sel [] rfl⟩
 replace E := E_; clear E_
 have h348 : ¬ (x301 = true) := (ne_true_of_eq_false hb_)
 clear hb_; replace hP := ite_f h348 hP
 refine c_false E rfl ?_
 refine wp_skip ?_
 refine th_n ?_
 refine wp_seq ?_
 refine wp_region_lit ?_
 refine vn tbok 1 [] [(21, .slice none 0 0)] [] E (by kernel_rfl) (by kernel_rfl) trivial ?_
 clear E; intro a E
 refine wpList_nil ?_
 refine th_n ?_
 refine wp_seq ?_
 refine wp_seq ?_
 refine wp_region_lit ?_
 refine vn tbok 1 [] [(22, .int .i64 0)] [] E (by kernel_rfl) (by kernel_rfl) trivial ?_
 clear E; intro a E
 refine wpList_nil ?_
 refine th_n ?_
 refine wp_block ?_
 obtain ⟨x435, hL436, hK437⟩ := bind_inv hP
 clear hP
 replace H := H.nilrow (cInt .u8) 50; try dsimp only [setn, addE, goneL] at H
 refine loop_cut (fun i_ a w_ => (i_ = 0 ∧ ∃ (x441 : List Int), ∃ (A432 : Option Addr) (c433 : Nat), Fr a 184 [(3, .pointer (some ⟨g29, 0, none⟩)), (4, .pointer (some ⟨g34, 0, none⟩)), (7, .bool r39), (8, .slice A105 (List.length r96.1) c106), (9, .bool r96.2.1), (17, .bool r183.1), (21, .slice A432 (List.length x441) c433)] ∧ Hp S Fa w0 w_ [.ro false cBool A1 aAccept, .ro false (cInt .i64) A5 aGuard, .ro false cNode A9 aNodes, .box g29 26 [.int .i64 aProps, .slice A1 (List.length aAccept) c2, .slice A5 (List.length aGuard) c6, .slice A9 (List.length aNodes) c10], .ro false cBool A13 bAccept, .ro false (cInt .i64) A17 bGuard, .ro false cNode A21 bNodes, .box g34 26 [.int .i64 bProps, .slice A13 (List.length bAccept) c14, .slice A17 (List.length bGuard) c18, .slice A21 (List.length bNodes) c22], .row true (cInt .u8) 50 A105 c106 r96.1, .row true (cInt .u8) 50 A432 c433 x441] ∧ x435 = x441)) ?_ ?_
 ·
  refine loopV (fun m440 a w439 => ∃ (few388 : List Int) (k391 : Int), ∃ (A389 : Option Addr) (c390 : Nat), Fr a 184 [(2, .slice A25 (List.length t) c26), (3, .pointer (some ⟨g29, 0, none⟩)), (4, .pointer (some ⟨g34, 0, none⟩)), (7, .bool r39), (8, .slice A105 (List.length r96.1) c106), (9, .bool r96.2.1), (17, .bool r183.1), (21, .slice A389 (List.length few388) c390), (22, .int .i64 k391)] ∧ Hp S Fa w0 w439 [.ro false (cInt .u8) A25 t, .ro false cBool A1 aAccept, .ro false (cInt .i64) A5 aGuard, .ro false cNode A9 aNodes, .box g29 26 [.int .i64 aProps, .slice A1 (List.length aAccept) c2, .slice A5 (List.length aGuard) c6, .slice A9 (List.length aNodes) c10], .ro false cBool A13 bAccept, .ro false (cInt .i64) A17 bGuard, .ro false cNode A21 bNodes, .box g34 26 [.int .i64 bProps, .slice A13 (List.length bAccept) c14, .slice A17 (List.length bGuard) c18, .slice A21 (List.length bNodes) c22], .row true (cInt .u8) 50 A105 c106 r96.1, .row true (cInt .u8) 50 A389 c390 few388] ∧ law20_BothShortest_l4 N aProps t m440 few388 k391 = some x435) N ?_ ?_
  ·
   exact ⟨[], 0, none, 0, E.pick _ ⟨rfl, rfl, rfl, rfl, rfl, rfl, rfl, rfl, rfl, trivial⟩, H.sel [0, 1, 2, 3, 4, 5, 6, 7, 8, 9, 10] rfl, hL436⟩
  clear E H hL436; intro m440 a w439 hI_
  obtain ⟨few388, k391, A389, c390, E, H, hP⟩ := hI_
  obtain ⟨m434, rfl⟩ : ∃ q_, m440 = q_ + 1 := by cases m440 with | zero => rw [law20_BothShortest_l4] at hP; cases hP | succ q_ => exact ⟨q_, rfl⟩
  rw [law20_BothShortest_l4] at hP
  refine wp_seq ?_
  refine wp_seq ?_
  obtain ⟨x445, h446, hK447⟩ := bind_inv hP
  clear hP
  refine meet_cut (fun a w449 => ∃ (x448 : Bool), Fr a 184 [(2, .slice A25 (List.length t) c26), (3, .pointer (some ⟨g29, 0, none⟩)), (4, .pointer (some ⟨g34, 0, none⟩)), (7, .bool r39), (8, .slice A105 (List.length r96.1) c106), (9, .bool r96.2.1), (17, .bool r183.1), (21, .slice A389 (List.length few388) c390), (22, .int .i64 k391), (135, .bool x448)] ∧ Hp S Fa w0 w449 [.ro false (cInt .u8) A25 t, .ro false cBool A1 aAccept, .ro false (cInt .i64) A5 aGuard, .ro false cNode A9 aNodes, .box g29 26 [.int .i64 aProps, .slice A1 (List.length aAccept) c2, .slice A5 (List.length aGuard) c6, .slice A9 (List.length aNodes) c10], .ro false cBool A13 bAccept, .ro false (cInt .i64) A17 bGuard, .ro false cNode A21 bNodes, .box g34 26 [.int .i64 bProps, .slice A13 (List.length bAccept) c14, .slice A17 (List.length bGuard) c18, .slice A21 (List.length bNodes) c22], .row true (cInt .u8) 50 A105 c106 r96.1, .row true (cInt .u8) 50 A389 c390 few388] ∧ x445 = x448) ?_ ?_
  ·
   have hP := h446; clear h446; rw [law20_BothShortest_j5] at hP
   refine wp_region_lit ?_
   refine vn tbok 5 [] [(132, .bool (decide (k391 < (((List.length t) : Nat) : Int))))] [] E (by kernel_rfl) (by kernel_rfl) trivial ?_
   clear E; intro a E
   refine E.cases (t := 132) rfl (fun hb_ E_ => ?_) (fun hb_ E_ => ?_)
   ·
    replace E := E_; clear E_
    have h450 : k391 < (((List.length t) : Nat) : Int) := of_decide_eq_true hb_
    clear hb_; replace hP := ite_t h450 hP
    refine vn tbok 3 [] [(135, .bool (decide (k391 < 1024)))] [] E (by kernel_rfl) (by kernel_rfl) trivial ?_
    clear E; intro a E
    refine wpList_nil ?_
    have hx_ := Option.some.inj hP
    exact .inl ⟨rfl, decide (k391 < 1024), E.pick _ ⟨rfl, rfl, rfl, rfl, rfl, rfl, rfl, rfl, rfl, rfl, trivial⟩, H.sel [0, 1, 2, 3, 4, 5, 6, 7, 8, 9, 10] rfl, hx_.symm⟩
   replace E := E_; clear E_
   have h451 : ¬ (k391 < (((List.length t) : Nat) : Int)) := of_decide_eq_false hb_
   clear hb_; replace hP := ite_f h451 hP
   refine vn tbok 3 [] [(135, .bool false)] [] E (by kernel_rfl) (by kernel_rfl) trivial ?_
   clear E; intro a E
   refine wpList_nil ?_
   have hx_ := Option.some.inj hP
   exact .inl ⟨rfl, false, E.pick _ ⟨rfl, rfl, rfl, rfl, rfl, rfl, rfl, rfl, rfl, rfl, trivial⟩, H.sel [0, 1, 2, 3, 4, 5, 6, 7, 8, 9, 10] rfl, hx_.symm⟩
  clear E H h446; rintro a w449 ⟨x448, E, H, hx_⟩
  subst hx_; have hP := hK447; clear hK447
  refine th_n ?_
  refine E.cases (t := 135) rfl (fun hb_ E_ => ?_) (fun hb_ E_ => ?_)
  ·
   replace E := E_; clear E_
   have h452 : x445 = true := hb_
   clear hb_; replace hP := ite_t h452 hP
   refine c_true E rfl ?_
   refine wp_skip ?_
   refine th_n ?_
   refine wp_seq ?_
   refine wp_block ?_
   obtain ⟨g453, hP⟩ := ask_inv hP
   obtain ⟨b454, o455, e_b454⟩ := (H.rd 0 rds_ro).addr (idx_pos g453)
   subst e_b454
   obtain ⟨g456, hP⟩ := ask_inv hP
   obtain ⟨g462, hP⟩ := ask_inv hP
   have HR471 := H
   refine dr_start (S := fun w_ => Chg (atL [.row true (cInt .u8) 50 A389 c390 few388]) w449 w_) (by kernel_rfl) ?_
   intro w468 hc469
   have HS470 : Chg (atL [.row true (cInt .u8) 50 A389 c390 few388]) w449 w468 := hc469.mono (fun _ _ h_ => h_.elim)
   replace H := H.ext hc469
   refine dn tbok (by kernel_rfl) [0, 1, 2, 3, 4, 5, 6, 7, 8, 9] [.int .u8 (List.getD t (Int.toNat k391) 0), .int .i64 aProps, .int .u8 (shlV .u8 1 aProps), .int .u8 (IntKind.u8.wrap ((shlV .u8 1 aProps) - 1)), .int .u8 (andV .u8 (List.getD t (Int.toNat k391) 0) (IntKind.u8.wrap ((shlV .u8 1 aProps) - 1)))] [(138, .slice A389 (List.length few388) c390), (147, .int .u8 (andV .u8 (List.getD t (Int.toNat k391) 0) (IntKind.u8.wrap ((shlV .u8 1 aProps) - 1))))] (fun w_ => [0 ≤ k391 ∧ k391 < (((List.length t) : Nat) : Int), World.cell? w_ ⟨b454, o455 + (Int.toNat k391) * 1, none⟩ = some (.int .u8 (List.getD t (Int.toNat k391) 0)), World.cell? w_ ⟨g29, 0, none⟩ = some (.int .i64 aProps), 0 ≤ aProps ∧ IntKind.u8.wrap (1 * 2 ^ (min (Int.toNat aProps) (IntKind.bits .u8))) = shlV .u8 1 aProps, IntKind.u8.wrap ((shlV .u8 1 aProps) - 1) = IntKind.u8.wrap ((shlV .u8 1 aProps) - 1), IntKind.u8.wrap (BitVec.ofInt (IntKind.bits .u8) (List.getD t (Int.toNat k391) 0) &&& BitVec.ofInt (IntKind.bits .u8) (IntKind.u8.wrap ((shlV .u8 1 aProps) - 1))).toNat = andV .u8 (List.getD t (Int.toNat k391) 0) (IntKind.u8.wrap ((shlV .u8 1 aProps) - 1))]) 3 E (fun _ _ => by kernel_rfl) (by kernel_rfl) (fun w_ hS_ => ⟨g453, Rds.at1 (HR471.rdk [10] hS_ 0 rds_ro rfl) 0 g453, (HR471.boxk [10] hS_ 4 rfl rfl).cell (j := 0) rfl, ⟨g456, rfl⟩, rfl, rfl⟩) (by kernel_rfl) HS470 ?_
   clear E; intro a E
   refine wpAnyH_all (rs := [10]) (by kernel_rfl) (by simp) ?_
   refine all1 ?_
   refine wpOp_of_list rfl ?_
   refine h_buildSlice (ps := [(0, .int .u8 (andV .u8 (List.getD t (Int.toNat k391) 0) (IntKind.u8.wrap ((shlV .u8 1 aProps) - 1))))]) (cs := [.int .u8 (andV .u8 (List.getD t (Int.toNat k391) 0) (IntKind.u8.wrap ((shlV .u8 1 aProps) - 1)))]) H E rfl rfl tbok rfl rfl (by kernel_rfl) ?_
   intro w473 g472 a hc474 hg476 H_ E_
   replace E := E_ _ rfl; clear E_
   have hin477 : ∀ q_, q_ < w449.heap.size → q_ = g472 → (atL [.row true (cInt .u8) 50 A389 c390 few388]) q_ := fun q_ h1_ h2_ => by have hs_ := HS470.size; have h4_ : q_ = g472 := h2_; exfalso; omega
   replace HS470 := HS470.ext hc474
   replace H := H_; clear H_; try dsimp only [setn, addE, goneL] at H
   refine wpList_nil ?_
   refine th_n ⟨HS470, ?_⟩
   refine wpAnyH_all (rs := [11]) (by kernel_rfl) (by simp) ?_
   refine all1 ?_
   refine wpOp_of_list rfl ?_
   refine h_append (cInt .u8) (xs := few388) (ys := ([andV .u8 (List.getD t (Int.toNat k391) 0) (IntKind.u8.wrap ((shlV .u8 1 aProps) - 1))] : List Int)) (0 : Int) H 10 rfl E rfl rfl tbok rfl rfl rfl rfl rfl (fun _ _ => rfl) rfl rfl (fun _ HF_ => HF_.srcB 11 rfl (⟨_, _, rfl, rfl, rfl⟩)) g462 ?_
   intro w478 A479 c480 a hc481 hA482 H_ E_
   replace E := E_ _ rfl; clear E_
   have hin483 : ∀ q_, q_ < w449.heap.size → At A479 q_ → (atL [.row true (cInt .u8) 50 A389 c390 few388]) q_ := fun q_ h1_ h2_ => (hA482 q_ h2_).elim ((fun _ _ h_ => Or.inl h_) q_ h1_) (fun h3_ => by have hs_ := HS470.size; exfalso; omega)
   replace HS470 := HS470.trans hc481 (fun k_ hk_ h_ => (fun _ _ h_ => Or.inl h_) k_ hk_ h_)
   replace H := H_; clear H_; try dsimp only [setn, addE, goneL] at H
   refine wpList_nil ?_
   refine th_n ⟨HS470, ?_⟩
   refine dn tbok (by kernel_rfl) [12] [] [(21, .slice A479 (List.length (few388 ++ ([andV .u8 (List.getD t (Int.toNat k391) 0) (IntKind.u8.wrap ((shlV .u8 1 aProps) - 1))] : List Int))) c480)] (fun w_ => []) 0 E (fun _ _ => by kernel_rfl) (by kernel_rfl) (fun w_ hS_ => trivial) (by kernel_rfl) HS470 ?_
   clear E; intro a E
   refine dr_done (by kernel_rfl) ?_
   clear HS470 HR471
   refine bl_n ?_
   refine th_n ?_
   refine wp_region_lit ?_
   obtain ⟨g484, hP⟩ := ask_inv hP
   refine vn tbok 3 [.int .i64 (k391 + 1)] [(22, .int .i64 (k391 + 1))] [IntKind.i64.wrap (k391 + 1) = k391 + 1] E (by kernel_rfl) (by kernel_rfl) (wrap_in g484) ?_
   clear E; intro a E
   refine wpList_nil ?_
   exact th_n ⟨m434, Nat.lt_succ_self _, few388 ++ ([andV .u8 (List.getD t (Int.toNat k391) 0) (IntKind.u8.wrap ((shlV .u8 1 aProps) - 1))] : List Int), k391 + 1, A479, c480, E.pick _ ⟨rfl, rfl, rfl, rfl, rfl, rfl, rfl, rfl, rfl, trivial⟩, H.sel [0, 1, 2, 3, 4, 5, 6, 7, 8, 9, 10] rfl, hP⟩
  replace E := E_; clear E_
  have h485 : ¬ (x445 = true) := (ne_true_of_eq_false hb_)
  clear hb_; replace hP := ite_f h485 hP
  refine c_false E rfl ?_
  refine wp_exit ?_
  refine th_exit ?_
  have hx_ := Option.some.inj hP
  refine th_exit (.inl ⟨0, rfl, ?_⟩)
  exact ⟨rfl, few388, A389, c390, E.pick _ ⟨rfl, rfl, rfl, rfl, rfl, rfl, rfl, trivial⟩, H.sel [1, 2, 3, 4, 5, 6, 7, 8, 9, 10] rfl, hx_.symm⟩
 clear E H hL436; intro i_ a w439 hM_
 obtain ⟨rfl, x441, A432, c433, E, H, hx_⟩ := hM_
 subst hx_; have hP := hK437; clear hK437
 refine bl_hit ?_
 refine th_n ?_
 refine wp_seq ?_
 refine wp_seq ?_
 obtain ⟨x561, h562, hK563⟩ := bind_inv hP
 clear hP
 refine meet_cut (fun a w565 => ∃ (x564 : Bool), Fr a 184 [(3, .pointer (some ⟨g29, 0, none⟩)), (4, .pointer (some ⟨g34, 0, none⟩)), (7, .bool r39), (17, .bool r183.1), (21, .slice A432 (List.length x435) c433), (167, .bool x564)] ∧ Hp S Fa w0 w565 [.ro false cBool A1 aAccept, .ro false (cInt .i64) A5 aGuard, .ro false cNode A9 aNodes, .box g29 26 [.int .i64 aProps, .slice A1 (List.length aAccept) c2, .slice A5 (List.length aGuard) c6, .slice A9 (List.length aNodes) c10], .ro false cBool A13 bAccept, .ro false (cInt .i64) A17 bGuard, .ro false cNode A21 bNodes, .box g34 26 [.int .i64 bProps, .slice A13 (List.length bAccept) c14, .slice A17 (List.length bGuard) c18, .slice A21 (List.length bNodes) c22], .row true (cInt .u8) 50 A432 c433 x435] ∧ x561 = x564) ?_ ?_
 ·
  have hP := h562; clear h562; rw [law20_BothShortest_j6] at hP
  obtain ⟨r566, h567, hP⟩ := bind_inv hP
  obtain ⟨r575, h576, hP⟩ := bind_inv hP
  by_cases h584 : r566 = r575
  ·
   replace hP := ite_t h584 hP
   have HR588 := H
   refine dr_start (S := fun w_ => Chg (atL []) w439 w_) (by kernel_rfl) ?_
   intro w585 hc586
   have HS587 : Chg (atL []) w439 w585 := hc586.mono (fun _ _ h_ => h_.elim)
   replace H := H.ext hc586
   refine dn tbok (by kernel_rfl) [0, 1, 3, 4] [.agg #[.int .i64 aProps, .slice A1 (List.length aAccept) c2, .slice A5 (List.length aGuard) c6, .slice A9 (List.length aNodes) c10], .agg #[.int .i64 bProps, .slice A13 (List.length bAccept) c14, .slice A17 (List.length bGuard) c18, .slice A21 (List.length bNodes) c22]] [(150, .agg #[.int .i64 aProps, .slice A1 (List.length aAccept) c2, .slice A5 (List.length aGuard) c6, .slice A9 (List.length aNodes) c10]), (151, .slice A432 (List.length x435) c433), (153, .agg #[.int .i64 bProps, .slice A13 (List.length bAccept) c14, .slice A17 (List.length bGuard) c18, .slice A21 (List.length bNodes) c22]), (154, .slice A432 (List.length x435) c433)] (fun w_ => [cellsAt w_ g29 (0) [.int .i64 aProps, .slice A1 (List.length aAccept) c2, .slice A5 (List.length aGuard) c6, .slice A9 (List.length aNodes) c10], cellsAt w_ g34 (0) [.int .i64 bProps, .slice A13 (List.length bAccept) c14, .slice A17 (List.length bGuard) c18, .slice A21 (List.length bNodes) c22]]) 14 E (fun _ _ => by kernel_rfl) (by kernel_rfl) (fun w_ hS_ => ⟨(HR588.boxk [] hS_ 3 rfl rfl).sub 0 _ rfl, (HR588.boxk [] hS_ 7 rfl rfl).sub 0 _ rfl⟩) (by kernel_rfl) HS587 ?_
   clear E; intro a E
   refine wpAnyH_all (rs := [2]) (by kernel_rfl) (by simp) ?_
   refine all1 ?_
   refine wpOp_of_list rfl ?_
   obtain ⟨Fa589, Hc590, hb591⟩ := H.call [] [(0, false), (1, false), (2, false), (9, false)] rfl rfl trivial
   refine e_call E rfl rfl Try.func29 rfl rfl rfl (law20_accepts_calls A1 c2 A5 c6 A9 c10 A432 c433 aProps aAccept aGuard aNodes x435 hk3 hk7 hk11 (H.rcap 9 rfl) Hc590 h567) ?_
   rintro v592 w593 a ⟨rfl, HR594⟩ E_
   replace E := E_ _ rfl; clear E_
   obtain ⟨H_, hc595⟩ := hb591 _ _ HR594 rfl
   replace HS587 := HS587.ext (callS_ext hc595)
   replace H := H_; clear H_; try dsimp only [setn, addE, goneL] at H
   refine wpList_nil ?_
   refine th_n ⟨HS587, ?_⟩
   refine wpAnyH_all (rs := [5]) (by kernel_rfl) (by simp) ?_
   refine all1 ?_
   refine wpOp_of_list rfl ?_
   obtain ⟨Fa596, Hc597, hb598⟩ := H.call [] [(4, false), (5, false), (6, false), (9, false)] rfl rfl trivial
   refine e_call E rfl rfl Try.func29 rfl rfl rfl (law20_accepts_calls A13 c14 A17 c18 A21 c22 A432 c433 bProps bAccept bGuard bNodes x435 hk15 hk19 hk23 (H.rcap 9 rfl) Hc597 h576) ?_
   rintro v599 w600 a ⟨rfl, HR601⟩ E_
   replace E := E_ _ rfl; clear E_
   obtain ⟨H_, hc602⟩ := hb598 _ _ HR601 rfl
   replace HS587 := HS587.ext (callS_ext hc602)
   replace H := H_; clear H_; try dsimp only [setn, addE, goneL] at H
   refine wpList_nil ?_
   refine th_n ⟨HS587, ?_⟩
   refine dn tbok (by kernel_rfl) [6, 7] [] [(157, .bool (!(r566 == r575)))] (fun w_ => []) 10 E (fun _ _ => by kernel_rfl) (by kernel_rfl) (fun w_ hS_ => trivial) (by kernel_rfl) HS587 ?_
   clear E; intro a E
   replace E := E.same (t := 157) (u := .bool false) rfl (congrArg Value.bool (by simpa using h584))
   refine dn tbok (by kernel_rfl) [8, 9, 10, 11, 12, 13, 14, 15, 16, 17] [] [(167, .bool false)] (fun w_ => []) 0 E (fun _ _ => by kernel_rfl) (by kernel_rfl) (fun w_ hS_ => trivial) (by kernel_rfl) HS587 ?_
   clear E; intro a E
   refine dr_done (by kernel_rfl) ?_
   clear HS587 HR588
   have hx_ := Option.some.inj hP
   exact .inl ⟨rfl, false, E.pick _ ⟨rfl, rfl, rfl, rfl, rfl, rfl, trivial⟩, H.sel [0, 1, 2, 3, 4, 5, 6, 7, 9] rfl, hx_.symm⟩
  replace hP := ite_f h584 hP
  by_cases h603 : r96.2.1 = true
  ·
   replace hP := ite_t h603 hP
   have HR607 := H
   refine dr_start (S := fun w_ => Chg (atL []) w439 w_) (by kernel_rfl) ?_
   intro w604 hc605
   have HS606 : Chg (atL []) w439 w604 := hc605.mono (fun _ _ h_ => h_.elim)
   replace H := H.ext hc605
   refine dn tbok (by kernel_rfl) [0, 1, 3, 4] [.agg #[.int .i64 aProps, .slice A1 (List.length aAccept) c2, .slice A5 (List.length aGuard) c6, .slice A9 (List.length aNodes) c10], .agg #[.int .i64 bProps, .slice A13 (List.length bAccept) c14, .slice A17 (List.length bGuard) c18, .slice A21 (List.length bNodes) c22]] [(150, .agg #[.int .i64 aProps, .slice A1 (List.length aAccept) c2, .slice A5 (List.length aGuard) c6, .slice A9 (List.length aNodes) c10]), (151, .slice A432 (List.length x435) c433), (153, .agg #[.int .i64 bProps, .slice A13 (List.length bAccept) c14, .slice A17 (List.length bGuard) c18, .slice A21 (List.length bNodes) c22]), (154, .slice A432 (List.length x435) c433)] (fun w_ => [cellsAt w_ g29 (0) [.int .i64 aProps, .slice A1 (List.length aAccept) c2, .slice A5 (List.length aGuard) c6, .slice A9 (List.length aNodes) c10], cellsAt w_ g34 (0) [.int .i64 bProps, .slice A13 (List.length bAccept) c14, .slice A17 (List.length bGuard) c18, .slice A21 (List.length bNodes) c22]]) 14 E (fun _ _ => by kernel_rfl) (by kernel_rfl) (fun w_ hS_ => ⟨(HR607.boxk [] hS_ 3 rfl rfl).sub 0 _ rfl, (HR607.boxk [] hS_ 7 rfl rfl).sub 0 _ rfl⟩) (by kernel_rfl) HS606 ?_
   clear E; intro a E
   refine wpAnyH_all (rs := [2]) (by kernel_rfl) (by simp) ?_
   refine all1 ?_
   refine wpOp_of_list rfl ?_
   obtain ⟨Fa608, Hc609, hb610⟩ := H.call [] [(0, false), (1, false), (2, false), (9, false)] rfl rfl trivial
   refine e_call E rfl rfl Try.func29 rfl rfl rfl (law20_accepts_calls A1 c2 A5 c6 A9 c10 A432 c433 aProps aAccept aGuard aNodes x435 hk3 hk7 hk11 (H.rcap 9 rfl) Hc609 h567) ?_
   rintro v611 w612 a ⟨rfl, HR613⟩ E_
   replace E := E_ _ rfl; clear E_
   obtain ⟨H_, hc614⟩ := hb610 _ _ HR613 rfl
   replace HS606 := HS606.ext (callS_ext hc614)
   replace H := H_; clear H_; try dsimp only [setn, addE, goneL] at H
   refine wpList_nil ?_
   refine th_n ⟨HS606, ?_⟩
   refine wpAnyH_all (rs := [5]) (by kernel_rfl) (by simp) ?_
   refine all1 ?_
   refine wpOp_of_list rfl ?_
   obtain ⟨Fa615, Hc616, hb617⟩ := H.call [] [(4, false), (5, false), (6, false), (9, false)] rfl rfl trivial
   refine e_call E rfl rfl Try.func29 rfl rfl rfl (law20_accepts_calls A13 c14 A17 c18 A21 c22 A432 c433 bProps bAccept bGuard bNodes x435 hk15 hk19 hk23 (H.rcap 9 rfl) Hc616 h576) ?_
   rintro v618 w619 a ⟨rfl, HR620⟩ E_
   replace E := E_ _ rfl; clear E_
   obtain ⟨H_, hc621⟩ := hb617 _ _ HR620 rfl
   replace HS606 := HS606.ext (callS_ext hc621)
   replace H := H_; clear H_; try dsimp only [setn, addE, goneL] at H
   refine wpList_nil ?_
   refine th_n ⟨HS606, ?_⟩
   refine dn tbok (by kernel_rfl) [6, 7] [] [(157, .bool (!(r566 == r575)))] (fun w_ => []) 10 E (fun _ _ => by kernel_rfl) (by kernel_rfl) (fun w_ hS_ => trivial) (by kernel_rfl) HS606 ?_
   clear E; intro a E
   replace E := E.same (t := 157) (u := .bool true) rfl (congrArg Value.bool (by simpa using h584))
   refine dn tbok (by kernel_rfl) [8, 9, 10] [] [(160, .bool (!r96.2.1))] (fun w_ => []) 7 E (fun _ _ => by kernel_rfl) (by kernel_rfl) (fun w_ hS_ => trivial) (by kernel_rfl) HS606 ?_
   clear E; intro a E
   replace E := E.same (t := 160) (u := .bool false) rfl (congrArg Value.bool (not_t' (h603)))
   refine dn tbok (by kernel_rfl) [11, 12, 13, 14, 15, 16, 17] [] [(167, .bool (decide ((((List.length x435) : Nat) : Int) < (((List.length r96.1) : Nat) : Int))))] (fun w_ => []) 0 E (fun _ _ => by kernel_rfl) (by kernel_rfl) (fun w_ hS_ => trivial) (by kernel_rfl) HS606 ?_
   clear E; intro a E
   refine dr_done (by kernel_rfl) ?_
   clear HS606 HR607
   have hx_ := Option.some.inj hP
   exact .inl ⟨rfl, decide ((((List.length x435) : Nat) : Int) < (((List.length r96.1) : Nat) : Int)), E.pick _ ⟨rfl, rfl, rfl, rfl, rfl, rfl, trivial⟩, H.sel [0, 1, 2, 3, 4, 5, 6, 7, 9] rfl, hx_.symm⟩
  replace hP := ite_f h603 hP
  have HR625 := H
  refine dr_start (S := fun w_ => Chg (atL []) w439 w_) (by kernel_rfl) ?_
  intro w622 hc623
  have HS624 : Chg (atL []) w439 w622 := hc623.mono (fun _ _ h_ => h_.elim)
  replace H := H.ext hc623
  refine dn tbok (by kernel_rfl) [0, 1, 3, 4] [.agg #[.int .i64 aProps, .slice A1 (List.length aAccept) c2, .slice A5 (List.length aGuard) c6, .slice A9 (List.length aNodes) c10], .agg #[.int .i64 bProps, .slice A13 (List.length bAccept) c14, .slice A17 (List.length bGuard) c18, .slice A21 (List.length bNodes) c22]] [(150, .agg #[.int .i64 aProps, .slice A1 (List.length aAccept) c2, .slice A5 (List.length aGuard) c6, .slice A9 (List.length aNodes) c10]), (151, .slice A432 (List.length x435) c433), (153, .agg #[.int .i64 bProps, .slice A13 (List.length bAccept) c14, .slice A17 (List.length bGuard) c18, .slice A21 (List.length bNodes) c22]), (154, .slice A432 (List.length x435) c433)] (fun w_ => [cellsAt w_ g29 (0) [.int .i64 aProps, .slice A1 (List.length aAccept) c2, .slice A5 (List.length aGuard) c6, .slice A9 (List.length aNodes) c10], cellsAt w_ g34 (0) [.int .i64 bProps, .slice A13 (List.length bAccept) c14, .slice A17 (List.length bGuard) c18, .slice A21 (List.length bNodes) c22]]) 14 E (fun _ _ => by kernel_rfl) (by kernel_rfl) (fun w_ hS_ => ⟨(HR625.boxk [] hS_ 3 rfl rfl).sub 0 _ rfl, (HR625.boxk [] hS_ 7 rfl rfl).sub 0 _ rfl⟩) (by kernel_rfl) HS624 ?_
  clear E; intro a E
  refine wpAnyH_all (rs := [2]) (by kernel_rfl) (by simp) ?_
  refine all1 ?_
  refine wpOp_of_list rfl ?_
  obtain ⟨Fa626, Hc627, hb628⟩ := H.call [] [(0, false), (1, false), (2, false), (9, false)] rfl rfl trivial
  refine e_call E rfl rfl Try.func29 rfl rfl rfl (law20_accepts_calls A1 c2 A5 c6 A9 c10 A432 c433 aProps aAccept aGuard aNodes x435 hk3 hk7 hk11 (H.rcap 9 rfl) Hc627 h567) ?_
  rintro v629 w630 a ⟨rfl, HR631⟩ E_
  replace E := E_ _ rfl; clear E_
  obtain ⟨H_, hc632⟩ := hb628 _ _ HR631 rfl
  replace HS624 := HS624.ext (callS_ext hc632)
  replace H := H_; clear H_; try dsimp only [setn, addE, goneL] at H
  refine wpList_nil ?_
  refine th_n ⟨HS624, ?_⟩
  refine wpAnyH_all (rs := [5]) (by kernel_rfl) (by simp) ?_
  refine all1 ?_
  refine wpOp_of_list rfl ?_
  obtain ⟨Fa633, Hc634, hb635⟩ := H.call [] [(4, false), (5, false), (6, false), (9, false)] rfl rfl trivial
  refine e_call E rfl rfl Try.func29 rfl rfl rfl (law20_accepts_calls A13 c14 A17 c18 A21 c22 A432 c433 bProps bAccept bGuard bNodes x435 hk15 hk19 hk23 (H.rcap 9 rfl) Hc634 h576) ?_
  rintro v636 w637 a ⟨rfl, HR638⟩ E_
  replace E := E_ _ rfl; clear E_
  obtain ⟨H_, hc639⟩ := hb635 _ _ HR638 rfl
  replace HS624 := HS624.ext (callS_ext hc639)
  replace H := H_; clear H_; try dsimp only [setn, addE, goneL] at H
  refine wpList_nil ?_
  refine th_n ⟨HS624, ?_⟩
  refine dn tbok (by kernel_rfl) [6, 7] [] [(157, .bool (!(r566 == r575)))] (fun w_ => []) 10 E (fun _ _ => by kernel_rfl) (by kernel_rfl) (fun w_ hS_ => trivial) (by kernel_rfl) HS624 ?_
  clear E; intro a E
  replace E := E.same (t := 157) (u := .bool true) rfl (congrArg Value.bool (by simpa using h584))
  refine dn tbok (by kernel_rfl) [8, 9, 10] [] [(160, .bool (!r96.2.1))] (fun w_ => []) 7 E (fun _ _ => by kernel_rfl) (by kernel_rfl) (fun w_ hS_ => trivial) (by kernel_rfl) HS624 ?_
  clear E; intro a E
  replace E := E.same (t := 160) (u := .bool true) rfl (congrArg Value.bool (not_f' ((eq_false_of_ne_true h603))))
  refine dn tbok (by kernel_rfl) [11, 12, 13, 14, 15, 16, 17] [] [(167, .bool true)] (fun w_ => []) 0 E (fun _ _ => by kernel_rfl) (by kernel_rfl) (fun w_ hS_ => trivial) (by kernel_rfl) HS624 ?_
  clear E; intro a E
  refine dr_done (by kernel_rfl) ?_
  clear HS624 HR625
  have hx_ := Option.some.inj hP
  exact .inl ⟨rfl, true, E.pick _ ⟨rfl, rfl, rfl, rfl, rfl, rfl, trivial⟩, H.sel [0, 1, 2, 3, 4, 5, 6, 7, 9] rfl, hx_.symm⟩
 clear E H h562; rintro a w565 ⟨x564, E, H, hx_⟩
 subst hx_; have hP := hK563; clear hK563
 refine th_n ?_
 refine E.cases (t := 167) rfl (fun hb_ E_ => ?_) (fun hb_ E_ => ?_)
 ·
  replace E := E_; clear E_
  have h640 : x561 = true := hb_
  clear hb_; replace hP := ite_t h640 hP
  refine c_true E rfl ?_
  refine wp_seq ?_
  refine wp_region_lit ?_
  refine vn tbok 1 [] [(6, .bool false)] [] E (by kernel_rfl) (by kernel_rfl) trivial ?_
  clear E; intro a E
  refine wpList_nil ?_
  refine th_n ?_
  refine wp_ret ?_
  refine th_ret ?_
  obtain rfl := Option.some.inj hP
  refine ret1 E rfl rfl ?_
  exact ⟨_, rfl, rfl, H.sel [] rfl⟩
 replace E := E_; clear E_
 have h641 : ¬ (x561 = true) := (ne_true_of_eq_false hb_)
 clear hb_; replace hP := ite_f h641 hP
 refine c_false E rfl ?_
 refine wp_skip ?_
 refine th_n ?_
 refine wp_seq ?_
 obtain ⟨x667, h668, hK669⟩ := bind_inv hP
 clear hP
 refine meet_cut (fun a w671 => ∃ (x670 : Bool), Fr a 184 [(6, .bool x670)] ∧ Hp S Fa w0 w671 [] ∧ x667 = x670) ?_ ?_
 ·
  have hP := h668; clear h668; rw [law20_BothShortest_j7] at hP
  refine wp_region_lit ?_
  refine vn tbok 2 [] [(169, .bool r39)] [] E (by kernel_rfl) (by kernel_rfl) trivial ?_
  clear E; intro a E
  refine E.cases (t := 169) rfl (fun hb_ E_ => ?_) (fun hb_ E_ => ?_)
  ·
   replace E := E_; clear E_
   have h672 : r39 = true := hb_
   clear hb_; replace hP := ite_t h672 hP
   refine vn tbok 3 [] [(172, .bool (!r183.1))] [] E (by kernel_rfl) (by kernel_rfl) trivial ?_
   clear E; intro a E
   refine E.cases (t := 172) rfl (fun hb_ E_ => ?_) (fun hb_ E_ => ?_)
   ·
    replace E := E_; clear E_
    have h673 : ¬ (r183.1 = true) := (ne_true_of_eq_false (not_t hb_))
    clear hb_; replace hP := ite_f h673 hP
    refine vn tbok 12 [] [(6, .bool true)] [] E (by kernel_rfl) (by kernel_rfl) trivial ?_
    clear E; intro a E
    refine wpList_nil ?_
    have hx_ := Option.some.inj hP
    exact .inl ⟨rfl, true, E.pick _ ⟨rfl, trivial⟩, H.sel [] rfl, hx_.symm⟩
   replace E := E_; clear E_
   have h674 : r183.1 = true := (not_f hb_)
   clear hb_; replace hP := ite_t h674 hP
   refine vn tbok 2 [.agg #[.int .i64 aProps, .slice A1 (List.length aAccept) c2, .slice A5 (List.length aGuard) c6, .slice A9 (List.length aNodes) c10]] [(173, .agg #[.int .i64 aProps, .slice A1 (List.length aAccept) c2, .slice A5 (List.length aGuard) c6, .slice A9 (List.length aNodes) c10]), (174, .slice A432 (List.length x435) c433)] [cellsAt w565 g29 (0) [.int .i64 aProps, .slice A1 (List.length aAccept) c2, .slice A5 (List.length aGuard) c6, .slice A9 (List.length aNodes) c10]] E (by kernel_rfl) (by kernel_rfl) ((H.box 3 rfl).sub 0 _ rfl) ?_
   clear E; intro a E
   obtain ⟨r675, h676, hP⟩ := bind_inv hP
   obtain ⟨Fa677, Hc678, hb679⟩ := H.call [] [(0, false), (1, false), (2, false), (8, false)] rfl rfl trivial
   refine e_call E rfl rfl Try.func29 rfl rfl rfl (law20_accepts_calls A1 c2 A5 c6 A9 c10 A432 c433 aProps aAccept aGuard aNodes x435 hk3 hk7 hk11 (H.rcap 8 rfl) Hc678 h676) ?_
   rintro v680 w681 a ⟨rfl, HR682⟩ E_
   replace E := E_ _ rfl; clear E_
   obtain ⟨H_, hc683⟩ := hb679 _ _ HR682 rfl
   replace H := H_; clear H_; try dsimp only [setn, addE, goneL] at H
   refine vn tbok 3 [] [(178, .bool (!r675))] [] E (by kernel_rfl) (by kernel_rfl) trivial ?_
   clear E; intro a E
   refine E.cases (t := 178) rfl (fun hb_ E_ => ?_) (fun hb_ E_ => ?_)
   ·
    replace E := E_; clear E_
    have h684 : ¬ (r675 = true) := (ne_true_of_eq_false (not_t hb_))
    clear hb_; replace hP := ite_f h684 hP
    refine vn tbok 6 [] [(6, .bool true)] [] E (by kernel_rfl) (by kernel_rfl) trivial ?_
    clear E; intro a E
    refine wpList_nil ?_
    have hx_ := Option.some.inj hP
    exact .inl ⟨rfl, true, E.pick _ ⟨rfl, trivial⟩, H.sel [] rfl, hx_.symm⟩
   replace E := E_; clear E_
   have h685 : r675 = true := (not_f hb_)
   clear hb_; replace hP := ite_t h685 hP
   refine vn tbok 2 [.agg #[.int .i64 bProps, .slice A13 (List.length bAccept) c14, .slice A17 (List.length bGuard) c18, .slice A21 (List.length bNodes) c22]] [(179, .agg #[.int .i64 bProps, .slice A13 (List.length bAccept) c14, .slice A17 (List.length bGuard) c18, .slice A21 (List.length bNodes) c22]), (180, .slice A432 (List.length x435) c433)] [cellsAt w681 g34 (0) [.int .i64 bProps, .slice A13 (List.length bAccept) c14, .slice A17 (List.length bGuard) c18, .slice A21 (List.length bNodes) c22]] E (by kernel_rfl) (by kernel_rfl) ((H.box 7 rfl).sub 0 _ rfl) ?_
   clear E; intro a E
   obtain ⟨r686, h687, hP⟩ := bind_inv hP
   obtain ⟨Fa688, Hc689, hb690⟩ := H.call [] [(4, false), (5, false), (6, false), (8, false)] rfl rfl trivial
   refine e_call E rfl rfl Try.func29 rfl rfl rfl (law20_accepts_calls A13 c14 A17 c18 A21 c22 A432 c433 bProps bAccept bGuard bNodes x435 hk15 hk19 hk23 (H.rcap 8 rfl) Hc689 h687) ?_
   rintro v691 w692 a ⟨rfl, HR693⟩ E_
   replace E := E_ _ rfl; clear E_
   obtain ⟨H_, hc694⟩ := hb690 _ _ HR693 rfl
   replace H := H_; clear H_; try dsimp only [setn, addE, goneL] at H
   refine vn tbok 3 [] [(6, .bool r686)] [] E (by kernel_rfl) (by kernel_rfl) trivial ?_
   clear E; intro a E
   refine wpList_nil ?_
   have hx_ := Option.some.inj hP
   exact .inl ⟨rfl, r686, E.pick _ ⟨rfl, trivial⟩, H.sel [] rfl, hx_.symm⟩
  replace E := E_; clear E_
  have h695 : ¬ (r39 = true) := (ne_true_of_eq_false hb_)
  clear hb_; replace hP := ite_f h695 hP
  refine vn tbok 15 [] [(6, .bool false)] [] E (by kernel_rfl) (by kernel_rfl) trivial ?_
  clear E; intro a E
  refine wpList_nil ?_
  have hx_ := Option.some.inj hP
  exact .inl ⟨rfl, false, E.pick _ ⟨rfl, trivial⟩, H.sel [] rfl, hx_.symm⟩
 clear E H h668; rintro a w671 ⟨x670, E, H, hx_⟩
 subst hx_; have hP := hK669; clear hK669
 refine th_n ?_
 refine wp_ret ?_
 obtain rfl := Option.some.inj hP
 refine ret1 E rfl rfl ?_
 exact ⟨_, rfl, rfl, H.sel [] rfl⟩

end Go.V
