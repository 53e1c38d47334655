/- Plain functions, and the calls that give them. -/
import Derived.Test.YtljkomkejdngcaaA5
set_option linter.all false
set_option linter.unusedVariables false
set_option linter.unnecessarySimpa false
set_option linter.unusedSimpArgs false
namespace Go.V
open Go Go.Proofs
/-! rejoinder/rejoinderlaw21.WatchNear -/
def law21_WatchNear_j0 (N : Nat) (aProps : Int) (aAccept : List Bool) (aGuard : List Int) (aNodes : List Nd) (x48 : Int) : Option Bool :=
    Option.bind (law16_Small N aProps aAccept aGuard aNodes) fun r67 =>
    if r67 = true then
      some ((x48 : Int) != 0)
    else
      some true
def law21_WatchNear_j2 (N : Nat) (t : List Int) (i100 : Int) : Option Bool :=
    if i100 < (((List.length t) : Nat) : Int) then
      some (decide (i100 < 60))
    else
      some false
def law21_WatchNear_f4 (N : Nat) : Option Unit :=
    some ()
def law21_WatchNear_f3 (N : Nat) : Option Unit :=
    Option.bind (law21_WatchNear_f4 N) fun x149 =>
    some ()
def law21_WatchNear_l1 (N : Nat) (aProps : Int) (t : List Int) : Nat → Int → Option Unit
  | 0, _ => none
  | m122 + 1, i100 =>
    Option.bind (law21_WatchNear_j2 N t i100) fun x132 =>
    if x132 = true then
      ask (idx i100 (List.length t)) <|
      ask (0 ≤ aProps) <|
      Option.bind (law21_WatchNear_f3 N) fun x146 =>
      ask (in64 (i100 + 1)) <|
      law21_WatchNear_l1 N aProps t m122 (i100 + 1)
    else
      some ()
def law21_WatchNear_f6 (N : Nat) : Option Unit :=
    some ()
def law21_WatchNear_f5 (N : Nat) : Option Unit :=
    Option.bind (law21_WatchNear_f6 N) fun x176 =>
    some ()
def law21_WatchNear_f8 (N : Nat) : Option Unit :=
    some ()
def law21_WatchNear_f7 (N : Nat) : Option Unit :=
    Option.bind (law21_WatchNear_f8 N) fun x188 =>
    some ()
def law21_WatchNear_f10 (N : Nat) : Option Unit :=
    some ()
def law21_WatchNear_f9 (N : Nat) : Option Unit :=
    Option.bind (law21_WatchNear_f10 N) fun x200 =>
    some ()
def law21_WatchNear_f12 (N : Nat) : Option Unit :=
    some ()
def law21_WatchNear_f11 (N : Nat) : Option Unit :=
    Option.bind (law21_WatchNear_f12 N) fun x212 =>
    some ()
def law21_WatchNear_f15 (N : Nat) : Option Unit :=
    some ()
def law21_WatchNear_f14 (N : Nat) : Option Unit :=
    Option.bind (law21_WatchNear_f15 N) fun x263 =>
    some ()
def law21_WatchNear_f17 (N : Nat) : Option Unit :=
    some ()
def law21_WatchNear_f16 (N : Nat) : Option Unit :=
    Option.bind (law21_WatchNear_f17 N) fun x275 =>
    some ()
def law21_WatchNear_f19 (N : Nat) : Option Unit :=
    some ()
def law21_WatchNear_f18 (N : Nat) : Option Unit :=
    Option.bind (law21_WatchNear_f19 N) fun x287 =>
    some ()
def law21_WatchNear_l13 (N : Nat) (aProps : Int) : Nat → Option (Unit ⊕ Bool)
  | 0 => none
  | m249 + 1 =>
    ask (0 ≤ aProps) <|
    if 0 < (shlV .i64 1 aProps) then
      Option.bind (law21_WatchNear_f14 N) fun x260 =>
      Option.bind (law21_WatchNear_f16 N) fun x272 =>
      Option.bind (law21_WatchNear_f18 N) fun x284 =>
      some (Sum.inr false)
    else
      some (Sum.inl ())
def law21_WatchNear_j20 (N : Nat) (aProps : Int) (aAccept : List Bool) (aGuard : List Int) (aNodes : List Nd) (x49 : ((Int × (List Bool) × (List Int) × (List Nd)) × (List Int) × (List Int)) × Int) : Option Bool :=
    Option.bind (law16_Small N aProps aAccept aGuard aNodes) fun r315 =>
    if r315 = true then
      some ((x49.2 : Int) != 0)
    else
      some true
def law21_WatchNear_j22 (N : Nat) (t : List Int) (i381 : Int) : Option Bool :=
    if i381 < (((List.length t) : Nat) : Int) then
      some (decide (i381 < 60))
    else
      some false
def law21_WatchNear_l21 (N : Nat) (aProps : Int) (t : List Int) (x49 : ((Int × (List Bool) × (List Int) × (List Nd)) × (List Int) × (List Int)) × Int) : Nat → (List Int) → Int → Option (List Int)
  | 0, _, _ => none
  | m435 + 1, w378, i381 =>
    Option.bind (law21_WatchNear_j22 N t i381) fun x446 =>
    if x446 = true then
      ask (idx i381 (List.length t)) <|
      ask (0 ≤ aProps) <|
      Option.bind (watch_Watch_Feed N x49.1 w378 (andV .u8 (List.getD t (Int.toNat i381) 0) (IntKind.u8.wrap ((shlV .u8 1 aProps) - 1)))) fun r458 =>
      ask (in64 (i381 + 1)) <|
      law21_WatchNear_l21 N aProps t x49 m435 r458.2.2 (i381 + 1)
    else
      some w378
def law21_WatchNear_j24 (N : Nat) (r546 : Int × Int) (nearer667 : Bool) (r802 : Int × Int) : Option Bool :=
    if nearer667 = true then
      some true
    else
      if (r802.2 : Int) = 0 then
        ask (in64 (r546.1 - 1)) <|
        some ((r802.1 : Int) == (r546.1 - 1))
      else
        some false
def law21_WatchNear_j25 (N : Nat) (x49 : ((Int × (List Bool) × (List Int) × (List Nd)) × (List Int) × (List Int)) × Int) (r498 : Int) (r514 : Int) (r530 : Int) (r784 : Int × Int × (List Int)) (r834 : Int × Int × (List Int)) : Option Bool :=
    if (r784.2.1 : Int) = 0 then
      if (r834.2.1 : Int) = 0 then
        if (r834.1 : Int) = r514 then
          Option.bind (watch_Watch_State N x49.1 r834.2.2) fun r904 =>
          if (r904 : Int) = r498 then
            Option.bind (watch_Watch_Len N x49.1 r834.2.2) fun r922 =>
            some ((r922 : Int) != r530)
          else
            some true
        else
          some true
      else
        some true
    else
      some true
def law21_WatchNear_l23 (N : Nat) (aProps : Int) (x49 : ((Int × (List Bool) × (List Int) × (List Nd)) × (List Int) × (List Int)) × Int) (r498 : Int) (r514 : Int) (r530 : Int) (r546 : Int × Int) : Nat → (List Int) → Bool → Int → Option (Bool ⊕ Bool)
  | 0, _, _, _ => none
  | m775 + 1, w664, nearer667, l668 =>
    ask (0 ≤ aProps) <|
    if l668 < (shlV .i64 1 aProps) then
      Option.bind (watch_Watch_Feed N x49.1 w664 (IntKind.u8.wrap l668)) fun r784 =>
      Option.bind (watch_Watch_Off N x49.1 r784.2.2) fun r802 =>
      Option.bind (law21_WatchNear_j24 N r546 nearer667 r802) fun x824 =>
      Option.bind (watch_Watch_Back N x49.1 r784.2.2) fun r834 =>
      Option.bind (law21_WatchNear_j25 N x49 r498 r514 r530 r784 r834) fun x893 =>
      if x893 = true then
        some (Sum.inr false)
      else
        ask (in64 (l668 + 1)) <|
        law21_WatchNear_l23 N aProps x49 r498 r514 r530 r546 m775 r834.2.2 x824 (l668 + 1)
    else
      some (Sum.inl nearer667)
def law21_WatchNear_j26 (N : Nat) (r546 : Int × Int) (x781 : Bool) : Option Bool :=
    if (r546.2 : Int) = 0 then
      if 0 < r546.1 then
        some (!x781)
      else
        some false
    else
      some false
def law21_WatchNear (N : Nat) (aProps : Int) (aAccept : List Bool) (aGuard : List Int) (aNodes : List Nd) (t : List Int) : Option Bool :=
  Option.bind (law21_awake N) fun r22 =>
  Option.bind (watch_New N aProps aAccept aGuard aNodes) fun r31 =>
  Sum.elim (fun x48 =>
    Option.bind (law21_WatchNear_j0 N aProps aAccept aGuard aNodes x48) fun x62 =>
    if x62 = true then
      some r22
    else
      Option.bind (law21_WatchNear_l1 N aProps t N 0) fun x123 =>
      Option.bind (law21_WatchNear_f5 N) fun x173 =>
      Option.bind (law21_WatchNear_f7 N) fun x185 =>
      Option.bind (law21_WatchNear_f9 N) fun x197 =>
      Option.bind (law21_WatchNear_f11 N) fun x209 =>
      Option.bind (law21_WatchNear_l13 N aProps N ) fun x250 =>
      Sum.elim (fun x255 =>
        some r22)
       (fun x295 =>
        some x295) x250)
   (fun x49 =>
    Option.bind (law21_WatchNear_j20 N aProps aAccept aGuard aNodes x49) fun x310 =>
    if x310 = true then
      some r22
    else
      Option.bind (law21_WatchNear_l21 N aProps t x49 N [] 0) fun x436 =>
      Option.bind (watch_Watch_State N x49.1 x436) fun r498 =>
      Option.bind (watch_Watch_Verdict N x49.1 x436) fun r514 =>
      Option.bind (watch_Watch_Len N x49.1 x436) fun r530 =>
      Option.bind (watch_Watch_Off N x49.1 x436) fun r546 =>
      Option.bind (law21_WatchNear_l23 N aProps x49 r498 r514 r530 r546 N x436 false 0) fun x776 =>
      Sum.elim (fun x781 =>
        Option.bind (law21_WatchNear_j26 N r546 x781) fun x948 =>
        if x948 = true then
          some false
        else
          some r22)
       (fun x942 =>
        some x942) x776) r31
set_option maxRecDepth 100000 in
set_option maxHeartbeats 4000000 in
theorem law21_WatchNear_calls {N : Nat} {S Fa : Nat → Prop} {w0 : World} {r : Bool} (A1 : Option Addr) (c2 : Nat) (A5 : Option Addr) (c6 : Nat) (A9 : Option Addr) (c10 : Nat) (A13 : Option Addr) (c14 : Nat) (aProps : Int) (aAccept : List Bool) (aGuard : List Int) (aNodes : List Nd) (t : List Int) (hk3 : List.length aAccept ≤ c2) (hk7 : List.length aGuard ≤ c6) (hk11 : List.length aNodes ≤ c10) (hk15 : List.length t ≤ c14) (H : Hp S Fa w0 w0 [.ro false cBool A1 aAccept, .ro false (cInt .i64) A5 aGuard, .ro false cNode A9 aNodes, .ro false (cInt .u8) A13 t]) (hP : law21_WatchNear N aProps aAccept aGuard aNodes t = some r) :
    Calls Try.prog 6 #[.agg #[.int .i64 aProps, .slice A1 (List.length aAccept) c2, .slice A5 (List.length aGuard) c6, .slice A9 (List.length aNodes) c10], .slice A13 (List.length t) c14] w0 fun e w' => ∃ v, e = .returned v ∧ v = .bool r ∧ Hp S Fa w0 w' [] := by
 refine enterV (n := 137) Try.func6 rfl rfl rfl ?_
 intro a E
 replace E := E.pick [(0, .agg #[.int .i64 aProps, .slice A1 (List.length aAccept) c2, .slice A5 (List.length aGuard) c6, .slice A9 (List.length aNodes) c10]), (1, .slice A13 (List.length t) c14)] ⟨rfl, rfl, trivial⟩
 rw [law21_WatchNear] at hP
 refine wp_seq ?_
 refine wp_region_lit ?_
 refine h_box H E rfl rfl rfl ?_
 intro w18 g17 a hc19 hg21 H_ E_
 replace E := E_ _ rfl; clear E_
 replace H := H_; clear H_; try dsimp only [setn, addE, goneL] at H
 refine vr tbok 1 [] [(1, .slice A13 (List.length t) c14), (2, .pointer (some ⟨g17, 0, none⟩))] [] E (by kernel_rfl) trivial ?_
 clear E; intro a E
 refine wpList_nil ?_
 refine th_n ?_
 refine wp_seq ?_
 refine wp_region_lit ?_
 obtain ⟨r22, h23, hP⟩ := bind_inv hP
 obtain ⟨Fa24, Hc25, hb26⟩ := H.call [] [] rfl rfl trivial
 refine e_call E rfl rfl Try.func30 rfl rfl rfl (law21_awake_calls    Hc25 h23) ?_
 rintro v27 w28 a ⟨rfl, HR29⟩ E_
 replace E := E_ _ rfl; clear E_
 obtain ⟨H_, hc30⟩ := hb26 _ _ HR29 rfl
 replace H := H_; clear H_; try dsimp only [setn, addE, goneL] at H
 refine vr tbok 1 [] [(1, .slice A13 (List.length t) c14), (2, .pointer (some ⟨g17, 0, none⟩)), (5, .bool r22)] [] E (by kernel_rfl) trivial ?_
 clear E; intro a E
 refine wpList_nil ?_
 refine th_n ?_
 refine wp_seq ?_
 refine wp_region_lit ?_
 refine vr tbok 1 [.agg #[.int .i64 aProps, .slice A1 (List.length aAccept) c2, .slice A5 (List.length aGuard) c6, .slice A9 (List.length aNodes) c10]] [(1, .slice A13 (List.length t) c14), (2, .pointer (some ⟨g17, 0, none⟩)), (5, .bool r22), (24, .agg #[.int .i64 aProps, .slice A1 (List.length aAccept) c2, .slice A5 (List.length aGuard) c6, .slice A9 (List.length aNodes) c10])] [cellsAt w28 g17 (0) [.int .i64 aProps, .slice A1 (List.length aAccept) c2, .slice A5 (List.length aGuard) c6, .slice A9 (List.length aNodes) c10]] E (by kernel_rfl) ((H.box 4 rfl).sub 0 _ rfl) ?_
 clear E; intro a E
 obtain ⟨r31, h32, hP⟩ := bind_inv hP
 obtain ⟨Fa33, Hc34, hb35⟩ := H.call [] [(0, false), (1, false), (2, false)] rfl rfl trivial
 refine e_call E rfl rfl Try.func26 rfl rfl rfl (watch_New_calls A1 c2 A5 c6 A9 c10 aProps aAccept aGuard aNodes hk3 hk7 hk11 Hc34 h32) ?_
 intro v41 w40 a hR42 E_
 rcases hR42 with ⟨x_, hr_, rfl, HR44⟩ | ⟨x_, g45, b46, hr_, rfl, HR47⟩
 ·
  subst hr_; have hP := elim_l hP
  obtain ⟨x48, hxx_⟩ : ∃ y_, y_ = x_ := ⟨_, rfl⟩; subst hxx_
  replace E := E_ _ rfl; clear E_
  obtain ⟨H_, hc43⟩ := hb35 _ _ HR44 rfl
  replace H := H_; clear H_; try dsimp only [setn, addE, goneL] at H
  refine vr tbok 5 [] [(1, .slice A13 (List.length t) c14), (2, .pointer (some ⟨g17, 0, none⟩)), (5, .bool r22), (6, .pointer none), (7, .int .i64 x48)] [] E (by kernel_rfl) trivial ?_
  clear E; intro a E
  refine wpList_nil ?_
  refine th_n ?_
  refine wp_seq ?_
  refine wp_seq ?_
  obtain ⟨x62, h63, hK64⟩ := bind_inv hP
  clear hP
  refine meet_cut (fun a w66 => ∃ (x65 : Bool), Fr a 137 [(1, .slice A13 (List.length t) c14), (2, .pointer (some ⟨g17, 0, none⟩)), (5, .bool r22), (6, .pointer none), (34, .bool x65)] ∧ Hp S Fa w0 w66 [.ro false (cInt .u8) A13 t, .ro false cBool A1 aAccept, .ro false (cInt .i64) A5 aGuard, .ro false cNode A9 aNodes, .box g17 43 [.int .i64 aProps, .slice A1 (List.length aAccept) c2, .slice A5 (List.length aGuard) c6, .slice A9 (List.length aNodes) c10]] ∧ x62 = x65) ?_ ?_
  ·
   have hP := h63; clear h63; rw [law21_WatchNear_j0] at hP
   refine wp_region_lit ?_
   refine vr tbok 1 [.agg #[.int .i64 aProps, .slice A1 (List.length aAccept) c2, .slice A5 (List.length aGuard) c6, .slice A9 (List.length aNodes) c10]] [(1, .slice A13 (List.length t) c14), (2, .pointer (some ⟨g17, 0, none⟩)), (5, .bool r22), (6, .pointer none), (7, .int .i64 x48), (28, .agg #[.int .i64 aProps, .slice A1 (List.length aAccept) c2, .slice A5 (List.length aGuard) c6, .slice A9 (List.length aNodes) c10])] [cellsAt w40 g17 (0) [.int .i64 aProps, .slice A1 (List.length aAccept) c2, .slice A5 (List.length aGuard) c6, .slice A9 (List.length aNodes) c10]] E (by kernel_rfl) ((H.box 4 rfl).sub 0 _ rfl) ?_
   clear E; intro a E
   obtain ⟨r67, h68, hP⟩ := bind_inv hP
   obtain ⟨Fa69, Hc70, hb71⟩ := H.call [] [(0, false), (1, false), (2, false)] rfl rfl trivial
   refine e_call E rfl rfl Try.func16 rfl rfl rfl (law16_Small_calls A1 c2 A5 c6 A9 c10 aProps aAccept aGuard aNodes hk3 hk7 hk11 Hc70 h68) ?_
   rintro v72 w73 a ⟨rfl, HR74⟩ E_
   replace E := E_ _ rfl; clear E_
   obtain ⟨H_, hc75⟩ := hb71 _ _ HR74 rfl
   replace H := H_; clear H_; try dsimp only [setn, addE, goneL] at H
   refine vr tbok 2 [] [(1, .slice A13 (List.length t) c14), (2, .pointer (some ⟨g17, 0, none⟩)), (5, .bool r22), (6, .pointer none), (7, .int .i64 x48), (31, .bool (!r67))] [] E (by kernel_rfl) trivial ?_
   clear E; intro a E
   refine E.cases (t := 31) rfl (fun hb_ E_ => ?_) (fun hb_ E_ => ?_)
   ·
    replace E := E_; clear E_
    have h76 : ¬ (r67 = true) := (ne_true_of_eq_false (not_t hb_))
    clear hb_; replace hP := ite_f h76 hP
    refine vr tbok 3 [] [(1, .slice A13 (List.length t) c14), (2, .pointer (some ⟨g17, 0, none⟩)), (5, .bool r22), (6, .pointer none), (34, .bool true)] [] E (by kernel_rfl) trivial ?_
    clear E; intro a E
    refine wpList_nil ?_
    have hx_ := Option.some.inj hP
    exact .inl ⟨rfl, true, E.pick _ ⟨rfl, rfl, rfl, rfl, rfl, trivial⟩, H.sel [3, 0, 1, 2, 4] rfl, hx_.symm⟩
   replace E := E_; clear E_
   have h77 : r67 = true := (not_f hb_)
   clear hb_; replace hP := ite_t h77 hP
   refine vr tbok 3 [] [(1, .slice A13 (List.length t) c14), (2, .pointer (some ⟨g17, 0, none⟩)), (5, .bool r22), (6, .pointer none), (34, .bool ((x48 : Int) != 0))] [] E (by kernel_rfl) trivial ?_
   clear E; intro a E
   refine wpList_nil ?_
   have hx_ := Option.some.inj hP
   exact .inl ⟨rfl, (x48 : Int) != 0, E.pick _ ⟨rfl, rfl, rfl, rfl, rfl, trivial⟩, H.sel [3, 0, 1, 2, 4] rfl, hx_.symm⟩
  clear E H h63; rintro a w66 ⟨x65, E, H, hx_⟩
  subst hx_; have hP := hK64; clear hK64
  refine th_n ?_
  refine E.cases (t := 34) rfl (fun hb_ E_ => ?_) (fun hb_ E_ => ?_)
  ·
   replace E := E_; clear E_
   have h78 : x62 = true := hb_
   clear hb_; replace hP := ite_t h78 hP
   refine c_true E rfl ?_
   refine wp_seq ?_
   refine wp_region_lit ?_
   refine vr tbok 2 [] [(4, .bool r22)] [] E (by kernel_rfl) trivial ?_
   clear E; intro a E
   refine wpList_nil ?_
   refine th_n ?_
   refine wp_ret ?_
   refine th_ret ?_
   obtain rfl := Option.some.inj hP
   refine ret1 E rfl rfl ?_
   exact ⟨_, rfl, rfl, H.sel [] rfl⟩
  replace E := E_; clear E_
  have h79 : ¬ (x62 = true) := (ne_true_of_eq_false hb_)
  clear hb_; replace hP := ite_f h79 hP
  refine c_false E rfl ?_
  refine wp_skip ?_
  refine th_n ?_
  refine wp_seq ?_
  refine wp_seq ?_
  refine wp_region_lit ?_
  refine vr tbok 1 [] [(1, .slice A13 (List.length t) c14), (2, .pointer (some ⟨g17, 0, none⟩)), (5, .bool r22), (6, .pointer none), (8, .int .i64 0)] [] E (by kernel_rfl) trivial ?_
  clear E; intro a E
  refine wpList_nil ?_
  refine th_n ?_
  refine wp_block ?_
  obtain ⟨x123, hL124, hK125⟩ := bind_inv hP
  clear hP
  refine loop_cut (fun i_ a w_ => (i_ = 0 ∧ ∃ (x128 : Unit), Fr a 137 [(2, .pointer (some ⟨g17, 0, none⟩)), (5, .bool r22), (6, .pointer none)] ∧ Hp S Fa w0 w_ [.ro false cBool A1 aAccept, .ro false (cInt .i64) A5 aGuard, .ro false cNode A9 aNodes, .box g17 43 [.int .i64 aProps, .slice A1 (List.length aAccept) c2, .slice A5 (List.length aGuard) c6, .slice A9 (List.length aNodes) c10]] ∧ x123 = x128)) ?_ ?_
  ·
   refine loopV (fun m127 a w126 => ∃ (i100 : Int), Fr a 137 [(1, .slice A13 (List.length t) c14), (2, .pointer (some ⟨g17, 0, none⟩)), (5, .bool r22), (6, .pointer none), (8, .int .i64 i100)] ∧ Hp S Fa w0 w126 [.ro false (cInt .u8) A13 t, .ro false cBool A1 aAccept, .ro false (cInt .i64) A5 aGuard, .ro false cNode A9 aNodes, .box g17 43 [.int .i64 aProps, .slice A1 (List.length aAccept) c2, .slice A5 (List.length aGuard) c6, .slice A9 (List.length aNodes) c10]] ∧ law21_WatchNear_l1 N aProps t m127 i100 = some x123) N ?_ ?_
   ·
    exact ⟨0, E.pick _ ⟨rfl, rfl, rfl, rfl, rfl, trivial⟩, H.sel [0, 1, 2, 3, 4] rfl, hL124⟩
   clear E H hL124; intro m127 a w126 hI_
   obtain ⟨i100, E, H, hP⟩ := hI_
   obtain ⟨m122, rfl⟩ : ∃ q_, m127 = q_ + 1 := by cases m127 with | zero => rw [law21_WatchNear_l1] at hP; cases hP | succ q_ => exact ⟨q_, rfl⟩
   rw [law21_WatchNear_l1] at hP
   refine wp_seq ?_
   refine wp_seq ?_
   obtain ⟨x132, h133, hK134⟩ := bind_inv hP
   clear hP
   refine meet_cut (fun a w136 => ∃ (x135 : Bool), Fr a 137 [(1, .slice A13 (List.length t) c14), (2, .pointer (some ⟨g17, 0, none⟩)), (5, .bool r22), (6, .pointer none), (8, .int .i64 i100), (43, .bool x135)] ∧ Hp S Fa w0 w136 [.ro false (cInt .u8) A13 t, .ro false cBool A1 aAccept, .ro false (cInt .i64) A5 aGuard, .ro false cNode A9 aNodes, .box g17 43 [.int .i64 aProps, .slice A1 (List.length aAccept) c2, .slice A5 (List.length aGuard) c6, .slice A9 (List.length aNodes) c10]] ∧ x132 = x135) ?_ ?_
   ·
    have hP := h133; clear h133; rw [law21_WatchNear_j2] at hP
    refine wp_region_lit ?_
    refine vr tbok 5 [] [(1, .slice A13 (List.length t) c14), (2, .pointer (some ⟨g17, 0, none⟩)), (5, .bool r22), (6, .pointer none), (8, .int .i64 i100), (40, .bool (decide (i100 < (((List.length t) : Nat) : Int))))] [] E (by kernel_rfl) trivial ?_
    clear E; intro a E
    refine E.cases (t := 40) rfl (fun hb_ E_ => ?_) (fun hb_ E_ => ?_)
    ·
     replace E := E_; clear E_
     have h137 : i100 < (((List.length t) : Nat) : Int) := of_decide_eq_true hb_
     clear hb_; replace hP := ite_t h137 hP
     refine vr tbok 3 [] [(1, .slice A13 (List.length t) c14), (2, .pointer (some ⟨g17, 0, none⟩)), (5, .bool r22), (6, .pointer none), (8, .int .i64 i100), (43, .bool (decide (i100 < 60)))] [] E (by kernel_rfl) trivial ?_
     clear E; intro a E
     refine wpList_nil ?_
     have hx_ := Option.some.inj hP
     exact .inl ⟨rfl, decide (i100 < 60), E.pick _ ⟨rfl, rfl, rfl, rfl, rfl, rfl, trivial⟩, H.sel [0, 1, 2, 3, 4] rfl, hx_.symm⟩
    replace E := E_; clear E_
    have h138 : ¬ (i100 < (((List.length t) : Nat) : Int)) := of_decide_eq_false hb_
    clear hb_; replace hP := ite_f h138 hP
    refine vr tbok 3 [] [(1, .slice A13 (List.length t) c14), (2, .pointer (some ⟨g17, 0, none⟩)), (5, .bool r22), (6, .pointer none), (8, .int .i64 i100), (43, .bool false)] [] E (by kernel_rfl) trivial ?_
    clear E; intro a E
    refine wpList_nil ?_
    have hx_ := Option.some.inj hP
    exact .inl ⟨rfl, false, E.pick _ ⟨rfl, rfl, rfl, rfl, rfl, rfl, trivial⟩, H.sel [0, 1, 2, 3, 4] rfl, hx_.symm⟩
   clear E H h133; rintro a w136 ⟨x135, E, H, hx_⟩
   subst hx_; have hP := hK134; clear hK134
   refine th_n ?_
   refine E.cases (t := 43) rfl (fun hb_ E_ => ?_) (fun hb_ E_ => ?_)
   ·
    replace E := E_; clear E_
    have h139 : x132 = true := hb_
    clear hb_; replace hP := ite_t h139 hP
    refine c_true E rfl ?_
    refine wp_skip ?_
    refine th_n ?_
    refine wp_seq ?_
    refine wp_block ?_
    obtain ⟨g140, hP⟩ := ask_inv hP
    obtain ⟨b141, o142, e_b141⟩ := (H.rd 0 rds_ro).addr (idx_pos g140)
    subst e_b141
    obtain ⟨g143, hP⟩ := ask_inv hP
    obtain ⟨x146, h147, hP⟩ := bind_inv hP
    have HR159 := H
    refine dr_start (S := fun w_ => Chg (atL []) w136 w_) (by kernel_rfl) ?_
    intro w156 hc157
    have HS158 : Chg (atL []) w136 w156 := hc157.mono (fun _ _ h_ => h_.elim)
    replace H := H.ext hc157
    refine dr tbok (by kernel_rfl) [0, 1, 2, 3, 4, 5, 6, 7, 8, 9] [.int .u8 (List.getD t (Int.toNat i100) 0), .int .i64 aProps, .int .u8 (shlV .u8 1 aProps), .int .u8 (IntKind.u8.wrap ((shlV .u8 1 aProps) - 1)), .int .u8 (andV .u8 (List.getD t (Int.toNat i100) 0) (IntKind.u8.wrap ((shlV .u8 1 aProps) - 1)))] [(1, .slice (some ⟨b141, o142, none⟩) (List.length t) c14), (2, .pointer (some ⟨g17, 0, none⟩)), (5, .bool r22), (6, .pointer none), (8, .int .i64 i100), (46, .pointer none), (55, .int .u8 (andV .u8 (List.getD t (Int.toNat i100) 0) (IntKind.u8.wrap ((shlV .u8 1 aProps) - 1))))] (fun w_ => [0 ≤ i100 ∧ i100 < (((List.length t) : Nat) : Int), World.cell? w_ ⟨b141, o142 + (Int.toNat i100) * 1, none⟩ = some (.int .u8 (List.getD t (Int.toNat i100) 0)), World.cell? w_ ⟨g17, 0, none⟩ = some (.int .i64 aProps), 0 ≤ aProps ∧ IntKind.u8.wrap (1 * 2 ^ (min (Int.toNat aProps) (IntKind.bits .u8))) = shlV .u8 1 aProps, IntKind.u8.wrap ((shlV .u8 1 aProps) - 1) = IntKind.u8.wrap ((shlV .u8 1 aProps) - 1), IntKind.u8.wrap (BitVec.ofInt (IntKind.bits .u8) (List.getD t (Int.toNat i100) 0) &&& BitVec.ofInt (IntKind.bits .u8) (IntKind.u8.wrap ((shlV .u8 1 aProps) - 1))).toNat = andV .u8 (List.getD t (Int.toNat i100) 0) (IntKind.u8.wrap ((shlV .u8 1 aProps) - 1))]) 1 E (fun _ _ => by kernel_rfl) (fun w_ hS_ => ⟨g140, Rds.at1 (HR159.rdk [] hS_ 0 rds_ro rfl) 0 g140, (HR159.boxk [] hS_ 4 rfl rfl).cell (j := 0) rfl, ⟨g143, rfl⟩, rfl, rfl⟩) (by kernel_rfl) HS158 ?_
    clear E; intro a E
    refine wpAnyH_all (rs := [10]) (by kernel_rfl) (by simp) ?_
    refine all1 ?_
    refine wpOp_of_list rfl ?_
    refine e_call (R := fun v_ w_ => ∃ (x162 : Unit), v_ = .tuple #[.int .u8 0, .int .i64 1] ∧ Hp S Fa w0 w_ [.ro false (cInt .u8) (some ⟨b141, o142, none⟩) t, .ro false cBool A1 aAccept, .ro false (cInt .i64) A5 aGuard, .ro false cNode A9 aNodes, .box g17 43 [.int .i64 aProps, .slice A1 (List.length aAccept) c2, .slice A5 (List.length aGuard) c6, .slice A9 (List.length aNodes) c10]] ∧ Chg (atL []) w136 w_ ∧ x146 = x162) E rfl rfl Try.func9 rfl rfl rfl ?_ ?_
    ·
     clear E hP; have hP := h147; clear h147; rw [law21_WatchNear_f3] at hP
     refine enterV (n := 67) Try.func9 rfl rfl rfl ?_
     intro a E
     replace E := E.pick [(0, .pointer none), (1, .int .u8 (andV .u8 (List.getD t (Int.toNat i100) 0) (IntKind.u8.wrap ((shlV .u8 1 aProps) - 1))))] ⟨rfl, rfl, trivial⟩
     refine wp_seq ?_
     refine wp_region_lit ?_
     refine vr tbok 2 [] [(0, .pointer none), (1, .int .u8 (andV .u8 (List.getD t (Int.toNat i100) 0) (IntKind.u8.wrap ((shlV .u8 1 aProps) - 1))))] [] E (by kernel_rfl) trivial ?_
     clear E; intro a E
     refine wpList_nil ?_
     refine th_n ?_
     refine wp_seq ?_
     refine wp_block ?_
     refine wp_seq ?_
     refine wp_region_lit ?_
     refine vr tbok 1 [] [(0, .pointer none), (1, .int .u8 (andV .u8 (List.getD t (Int.toNat i100) 0) (IntKind.u8.wrap ((shlV .u8 1 aProps) - 1)))), (9, .pointer none)] [] E (by kernel_rfl) trivial ?_
     clear E; intro a E
     obtain ⟨x149, h163, hP⟩ := bind_inv hP
     refine e_call (R := fun v_ w_ => ∃ (x164 : Unit), v_ = .bool true ∧ Hp S Fa w0 w_ [.ro false (cInt .u8) (some ⟨b141, o142, none⟩) t, .ro false cBool A1 aAccept, .ro false (cInt .i64) A5 aGuard, .ro false cNode A9 aNodes, .box g17 43 [.int .i64 aProps, .slice A1 (List.length aAccept) c2, .slice A5 (List.length aGuard) c6, .slice A9 (List.length aNodes) c10]] ∧ Chg (atL []) w136 w_ ∧ x149 = x164) E rfl rfl Try.func32 rfl rfl rfl ?_ ?_
     ·
      clear E hP; have hP := h163; clear h163; rw [law21_WatchNear_f4] at hP
      refine enterV (n := 12) Try.func32 rfl rfl rfl ?_
      intro a E
      replace E := E.pick [(0, .pointer none)] ⟨rfl, trivial⟩
      refine wp_seq ?_
      refine wp_region_lit ?_
      refine vr tbok 1 [] [(0, .pointer none)] [] E (by kernel_rfl) trivial ?_
      clear E; intro a E
      refine wpList_nil ?_
      refine th_n ?_
      refine wp_seq ?_
      refine wp_region_lit ?_
      refine vr tbok 10 [] [(2, .bool true)] [] E (by kernel_rfl) trivial ?_
      clear E; intro a E
      refine wpList_nil ?_
      refine th_n ?_
      refine wp_ret ?_
      have hx_ := Option.some.inj hP
      refine ret1 E rfl rfl ?_
      exact ⟨_, rfl, (), rfl, H.sel [0, 1, 2, 3, 4] rfl, HS158, hx_.symm⟩
     clear H HS158
     rintro v166 w165 a ⟨x164, rfl, H, HS158, hx_⟩ E_
     subst hx_
     replace E := E_ _ rfl; clear E_
     refine vr tbok 1 [] [(0, .pointer none), (1, .int .u8 (andV .u8 (List.getD t (Int.toNat i100) 0) (IntKind.u8.wrap ((shlV .u8 1 aProps) - 1)))), (8, .bool true)] [] E (by kernel_rfl) trivial ?_
     clear E; intro a E
     refine wpList_nil ?_
     refine th_n ?_
     refine c_true E rfl ?_
     refine wp_seq ?_
     refine wp_region_lit ?_
     refine vr tbok 2 [] [(4, .int .u8 0), (5, .int .i64 1)] [] E (by kernel_rfl) trivial ?_
     clear E; intro a E
     refine wpList_nil ?_
     refine th_n ?_
     refine wp_ret ?_
     refine bl_ret ?_
     refine th_ret ?_
     have hx_ := Option.some.inj hP
     refine ret2 E rfl rfl rfl ?_
     exact ⟨_, rfl, (), rfl, H.sel [0, 1, 2, 3, 4] rfl, HS158, hx_.symm⟩
    clear H HS158
    rintro v168 w167 a ⟨x162, rfl, H, HS158, hx_⟩ E_
    subst hx_
    replace E := E_ _ rfl; clear E_
    refine wpList_nil ?_
    refine th_n ⟨HS158, ?_⟩
    refine dr_done (by kernel_rfl) ?_
    clear HS158 HR159
    refine bl_n ?_
    refine th_n ?_
    refine wp_region_lit ?_
    obtain ⟨g169, hP⟩ := ask_inv hP
    refine vr tbok 3 [.int .i64 (i100 + 1)] [(1, .slice (some ⟨b141, o142, none⟩) (List.length t) c14), (2, .pointer (some ⟨g17, 0, none⟩)), (5, .bool r22), (6, .pointer none), (8, .int .i64 (i100 + 1))] [IntKind.i64.wrap (i100 + 1) = i100 + 1] E (by kernel_rfl) (wrap_in g169) ?_
    clear E; intro a E
    refine wpList_nil ?_
    exact th_n ⟨m122, Nat.lt_succ_self _, i100 + 1, E.pick _ ⟨rfl, rfl, rfl, rfl, rfl, trivial⟩, H.sel [0, 1, 2, 3, 4] rfl, hP⟩
   replace E := E_; clear E_
   have h170 : ¬ (x132 = true) := (ne_true_of_eq_false hb_)
   clear hb_; replace hP := ite_f h170 hP
   refine c_false E rfl ?_
   refine wp_exit ?_
   refine th_exit ?_
   have hx_ := Option.some.inj hP
   refine th_exit (.inl ⟨0, rfl, ?_⟩)
   exact ⟨rfl, (), E.pick _ ⟨rfl, rfl, rfl, trivial⟩, H.sel [1, 2, 3, 4] rfl, hx_.symm⟩
  clear E H hL124; intro i_ a w126 hM_
  obtain ⟨rfl, x128, E, H, hx_⟩ := hM_
  subst hx_; have hP := hK125; clear hK125
  refine bl_hit ?_
  refine th_n ?_
  refine wp_seq ?_
  refine wp_region_lit ?_
  refine vr tbok 1 [] [(2, .pointer (some ⟨g17, 0, none⟩)), (5, .bool r22), (6, .pointer none), (57, .pointer none)] [] E (by kernel_rfl) trivial ?_
  clear E; intro a E
  obtain ⟨x173, h174, hP⟩ := bind_inv hP
  refine e_call (R := fun v_ w_ => ∃ (x175 : Unit), v_ = .int .i64 0 ∧ Hp S Fa w0 w_ [.ro false cBool A1 aAccept, .ro false (cInt .i64) A5 aGuard, .ro false cNode A9 aNodes, .box g17 43 [.int .i64 aProps, .slice A1 (List.length aAccept) c2, .slice A5 (List.length aGuard) c6, .slice A9 (List.length aNodes) c10]] ∧ x173 = x175) E rfl rfl Try.func13 rfl rfl rfl ?_ ?_
  ·
   clear E hP; have hP := h174; clear h174; rw [law21_WatchNear_f5] at hP
   refine enterV (n := 25) Try.func13 rfl rfl rfl ?_
   intro a E
   replace E := E.pick [(0, .pointer none)] ⟨rfl, trivial⟩
   refine wp_seq ?_
   refine wp_region_lit ?_
   refine vr tbok 1 [] [(0, .pointer none)] [] E (by kernel_rfl) trivial ?_
   clear E; intro a E
   refine wpList_nil ?_
   refine th_n ?_
   refine wp_seq ?_
   refine wp_seq ?_
   refine wp_region_lit ?_
   refine vr tbok 1 [] [(0, .pointer none), (3, .pointer none)] [] E (by kernel_rfl) trivial ?_
   clear E; intro a E
   obtain ⟨x176, h177, hP⟩ := bind_inv hP
   refine e_call (R := fun v_ w_ => ∃ (x178 : Unit), v_ = .bool true ∧ Hp S Fa w0 w_ [.ro false cBool A1 aAccept, .ro false (cInt .i64) A5 aGuard, .ro false cNode A9 aNodes, .box g17 43 [.int .i64 aProps, .slice A1 (List.length aAccept) c2, .slice A5 (List.length aGuard) c6, .slice A9 (List.length aNodes) c10]] ∧ x176 = x178) E rfl rfl Try.func32 rfl rfl rfl ?_ ?_
   ·
    clear E hP; have hP := h177; clear h177; rw [law21_WatchNear_f6] at hP
    refine enterV (n := 12) Try.func32 rfl rfl rfl ?_
    intro a E
    replace E := E.pick [(0, .pointer none)] ⟨rfl, trivial⟩
    refine wp_seq ?_
    refine wp_region_lit ?_
    refine vr tbok 1 [] [(0, .pointer none)] [] E (by kernel_rfl) trivial ?_
    clear E; intro a E
    refine wpList_nil ?_
    refine th_n ?_
    refine wp_seq ?_
    refine wp_region_lit ?_
    refine vr tbok 10 [] [(2, .bool true)] [] E (by kernel_rfl) trivial ?_
    clear E; intro a E
    refine wpList_nil ?_
    refine th_n ?_
    refine wp_ret ?_
    have hx_ := Option.some.inj hP
    refine ret1 E rfl rfl ?_
    exact ⟨_, rfl, (), rfl, H.sel [0, 1, 2, 3] rfl, hx_.symm⟩
   clear H
   rintro v180 w179 a ⟨x178, rfl, H, hx_⟩ E_
   subst hx_
   replace E := E_ _ rfl; clear E_
   refine vr tbok 8 [] [(0, .pointer none), (12, .bool true)] [] E (by kernel_rfl) trivial ?_
   clear E; intro a E
   refine wpList_nil ?_
   refine th_n ?_
   refine c_true E rfl ?_
   refine wp_seq ?_
   refine wp_region_lit ?_
   refine vr tbok 1 [] [(2, .int .i64 0)] [] E (by kernel_rfl) trivial ?_
   clear E; intro a E
   refine wpList_nil ?_
   refine th_n ?_
   refine wp_ret ?_
   refine th_ret ?_
   have hx_ := Option.some.inj hP
   refine ret1 E rfl rfl ?_
   exact ⟨_, rfl, (), rfl, H.sel [0, 1, 2, 3] rfl, hx_.symm⟩
  clear H
  rintro v182 w181 a ⟨x175, rfl, H, hx_⟩ E_
  subst hx_
  replace E := E_ _ rfl; clear E_
  refine vr tbok 1 [] [(2, .pointer (some ⟨g17, 0, none⟩)), (5, .bool r22), (6, .pointer none), (58, .int .i64 0), (59, .pointer none)] [] E (by kernel_rfl) trivial ?_
  clear E; intro a E
  obtain ⟨x185, h186, hP⟩ := bind_inv hP
  refine e_call (R := fun v_ w_ => ∃ (x187 : Unit), v_ = .int .u8 0 ∧ Hp S Fa w0 w_ [.ro false cBool A1 aAccept, .ro false (cInt .i64) A5 aGuard, .ro false cNode A9 aNodes, .box g17 43 [.int .i64 aProps, .slice A1 (List.length aAccept) c2, .slice A5 (List.length aGuard) c6, .slice A9 (List.length aNodes) c10]] ∧ x185 = x187) E rfl rfl Try.func12 rfl rfl rfl ?_ ?_
  ·
   clear E hP; have hP := h186; clear h186; rw [law21_WatchNear_f7] at hP
   refine enterV (n := 16) Try.func12 rfl rfl rfl ?_
   intro a E
   replace E := E.pick [(0, .pointer none)] ⟨rfl, trivial⟩
   refine wp_seq ?_
   refine wp_region_lit ?_
   refine vr tbok 1 [] [(0, .pointer none)] [] E (by kernel_rfl) trivial ?_
   clear E; intro a E
   refine wpList_nil ?_
   refine th_n ?_
   refine wp_seq ?_
   refine wp_seq ?_
   refine wp_region_lit ?_
   refine vr tbok 1 [] [(0, .pointer none), (3, .pointer none)] [] E (by kernel_rfl) trivial ?_
   clear E; intro a E
   obtain ⟨x188, h189, hP⟩ := bind_inv hP
   refine e_call (R := fun v_ w_ => ∃ (x190 : Unit), v_ = .bool true ∧ Hp S Fa w0 w_ [.ro false cBool A1 aAccept, .ro false (cInt .i64) A5 aGuard, .ro false cNode A9 aNodes, .box g17 43 [.int .i64 aProps, .slice A1 (List.length aAccept) c2, .slice A5 (List.length aGuard) c6, .slice A9 (List.length aNodes) c10]] ∧ x188 = x190) E rfl rfl Try.func32 rfl rfl rfl ?_ ?_
   ·
    clear E hP; have hP := h189; clear h189; rw [law21_WatchNear_f8] at hP
    refine enterV (n := 12) Try.func32 rfl rfl rfl ?_
    intro a E
    replace E := E.pick [(0, .pointer none)] ⟨rfl, trivial⟩
    refine wp_seq ?_
    refine wp_region_lit ?_
    refine vr tbok 1 [] [(0, .pointer none)] [] E (by kernel_rfl) trivial ?_
    clear E; intro a E
    refine wpList_nil ?_
    refine th_n ?_
    refine wp_seq ?_
    refine wp_region_lit ?_
    refine vr tbok 10 [] [(2, .bool true)] [] E (by kernel_rfl) trivial ?_
    clear E; intro a E
    refine wpList_nil ?_
    refine th_n ?_
    refine wp_ret ?_
    have hx_ := Option.some.inj hP
    refine ret1 E rfl rfl ?_
    exact ⟨_, rfl, (), rfl, H.sel [0, 1, 2, 3] rfl, hx_.symm⟩
   clear H
   rintro v192 w191 a ⟨x190, rfl, H, hx_⟩ E_
   subst hx_
   replace E := E_ _ rfl; clear E_
   refine wpList_nil ?_
   refine th_n ?_
   refine c_true E rfl ?_
   refine wp_seq ?_
   refine wp_region_lit ?_
   refine vr tbok 1 [] [(2, .int .u8 0)] [] E (by kernel_rfl) trivial ?_
   clear E; intro a E
   refine wpList_nil ?_
   refine th_n ?_
   refine wp_ret ?_
   refine th_ret ?_
   have hx_ := Option.some.inj hP
   refine ret1 E rfl rfl ?_
   exact ⟨_, rfl, (), rfl, H.sel [0, 1, 2, 3] rfl, hx_.symm⟩
  clear H
  rintro v194 w193 a ⟨x187, rfl, H, hx_⟩ E_
  subst hx_
  replace E := E_ _ rfl; clear E_
  refine vr tbok 1 [] [(2, .pointer (some ⟨g17, 0, none⟩)), (5, .bool r22), (6, .pointer none), (58, .int .i64 0), (60, .int .u8 0), (61, .pointer none)] [] E (by kernel_rfl) trivial ?_
  clear E; intro a E
  obtain ⟨x197, h198, hP⟩ := bind_inv hP
  refine e_call (R := fun v_ w_ => ∃ (x199 : Unit), v_ = .int .i64 0 ∧ Hp S Fa w0 w_ [.ro false cBool A1 aAccept, .ro false (cInt .i64) A5 aGuard, .ro false cNode A9 aNodes, .box g17 43 [.int .i64 aProps, .slice A1 (List.length aAccept) c2, .slice A5 (List.length aGuard) c6, .slice A9 (List.length aNodes) c10]] ∧ x197 = x199) E rfl rfl Try.func14 rfl rfl rfl ?_ ?_
  ·
   clear E hP; have hP := h198; clear h198; rw [law21_WatchNear_f9] at hP
   refine enterV (n := 10) Try.func14 rfl rfl rfl ?_
   intro a E
   replace E := E.pick [(0, .pointer none)] ⟨rfl, trivial⟩
   refine wp_seq ?_
   refine wp_region_lit ?_
   refine vr tbok 1 [] [(0, .pointer none)] [] E (by kernel_rfl) trivial ?_
   clear E; intro a E
   refine wpList_nil ?_
   refine th_n ?_
   refine wp_seq ?_
   refine wp_seq ?_
   refine wp_region_lit ?_
   refine vr tbok 1 [] [(0, .pointer none), (3, .pointer none)] [] E (by kernel_rfl) trivial ?_
   clear E; intro a E
   obtain ⟨x200, h201, hP⟩ := bind_inv hP
   refine e_call (R := fun v_ w_ => ∃ (x202 : Unit), v_ = .bool true ∧ Hp S Fa w0 w_ [.ro false cBool A1 aAccept, .ro false (cInt .i64) A5 aGuard, .ro false cNode A9 aNodes, .box g17 43 [.int .i64 aProps, .slice A1 (List.length aAccept) c2, .slice A5 (List.length aGuard) c6, .slice A9 (List.length aNodes) c10]] ∧ x200 = x202) E rfl rfl Try.func32 rfl rfl rfl ?_ ?_
   ·
    clear E hP; have hP := h201; clear h201; rw [law21_WatchNear_f10] at hP
    refine enterV (n := 12) Try.func32 rfl rfl rfl ?_
    intro a E
    replace E := E.pick [(0, .pointer none)] ⟨rfl, trivial⟩
    refine wp_seq ?_
    refine wp_region_lit ?_
    refine vr tbok 1 [] [(0, .pointer none)] [] E (by kernel_rfl) trivial ?_
    clear E; intro a E
    refine wpList_nil ?_
    refine th_n ?_
    refine wp_seq ?_
    refine wp_region_lit ?_
    refine vr tbok 10 [] [(2, .bool true)] [] E (by kernel_rfl) trivial ?_
    clear E; intro a E
    refine wpList_nil ?_
    refine th_n ?_
    refine wp_ret ?_
    have hx_ := Option.some.inj hP
    refine ret1 E rfl rfl ?_
    exact ⟨_, rfl, (), rfl, H.sel [0, 1, 2, 3] rfl, hx_.symm⟩
   clear H
   rintro v204 w203 a ⟨x202, rfl, H, hx_⟩ E_
   subst hx_
   replace E := E_ _ rfl; clear E_
   refine wpList_nil ?_
   refine th_n ?_
   refine c_true E rfl ?_
   refine wp_seq ?_
   refine wp_region_lit ?_
   refine vr tbok 1 [] [(2, .int .i64 0)] [] E (by kernel_rfl) trivial ?_
   clear E; intro a E
   refine wpList_nil ?_
   refine th_n ?_
   refine wp_ret ?_
   refine th_ret ?_
   have hx_ := Option.some.inj hP
   refine ret1 E rfl rfl ?_
   exact ⟨_, rfl, (), rfl, H.sel [0, 1, 2, 3] rfl, hx_.symm⟩
  clear H
  rintro v206 w205 a ⟨x199, rfl, H, hx_⟩ E_
  subst hx_
  replace E := E_ _ rfl; clear E_
  refine vr tbok 3 [] [(2, .pointer (some ⟨g17, 0, none⟩)), (5, .bool r22), (6, .pointer none), (9, .int .i64 0), (10, .int .u8 0), (11, .int .i64 0)] [] E (by kernel_rfl) trivial ?_
  clear E; intro a E
  refine wpList_nil ?_
  refine th_n ?_
  refine wp_seq ?_
  refine wp_region_lit ?_
  refine vr tbok 1 [] [(2, .pointer (some ⟨g17, 0, none⟩)), (5, .bool r22), (6, .pointer none), (9, .int .i64 0), (10, .int .u8 0), (11, .int .i64 0), (64, .pointer none)] [] E (by kernel_rfl) trivial ?_
  clear E; intro a E
  obtain ⟨x209, h210, hP⟩ := bind_inv hP
  refine e_call (R := fun v_ w_ => ∃ (x211 : Unit), v_ = .tuple #[.int .i64 0, .int .i64 1] ∧ Hp S Fa w0 w_ [.ro false cBool A1 aAccept, .ro false (cInt .i64) A5 aGuard, .ro false cNode A9 aNodes, .box g17 43 [.int .i64 aProps, .slice A1 (List.length aAccept) c2, .slice A5 (List.length aGuard) c6, .slice A9 (List.length aNodes) c10]] ∧ x209 = x211) E rfl rfl Try.func11 rfl rfl rfl ?_ ?_
  ·
   clear E hP; have hP := h210; clear h210; rw [law21_WatchNear_f11] at hP
   refine enterV (n := 21) Try.func11 rfl rfl rfl ?_
   intro a E
   replace E := E.pick [(0, .pointer none)] ⟨rfl, trivial⟩
   refine wp_seq ?_
   refine wp_region_lit ?_
   refine vr tbok 2 [] [(0, .pointer none)] [] E (by kernel_rfl) trivial ?_
   clear E; intro a E
   refine wpList_nil ?_
   refine th_n ?_
   refine wp_seq ?_
   refine wp_seq ?_
   refine wp_region_lit ?_
   refine vr tbok 1 [] [(0, .pointer none), (5, .pointer none)] [] E (by kernel_rfl) trivial ?_
   clear E; intro a E
   obtain ⟨x212, h213, hP⟩ := bind_inv hP
   refine e_call (R := fun v_ w_ => ∃ (x214 : Unit), v_ = .bool true ∧ Hp S Fa w0 w_ [.ro false cBool A1 aAccept, .ro false (cInt .i64) A5 aGuard, .ro false cNode A9 aNodes, .box g17 43 [.int .i64 aProps, .slice A1 (List.length aAccept) c2, .slice A5 (List.length aGuard) c6, .slice A9 (List.length aNodes) c10]] ∧ x212 = x214) E rfl rfl Try.func32 rfl rfl rfl ?_ ?_
   ·
    clear E hP; have hP := h213; clear h213; rw [law21_WatchNear_f12] at hP
    refine enterV (n := 12) Try.func32 rfl rfl rfl ?_
    intro a E
    replace E := E.pick [(0, .pointer none)] ⟨rfl, trivial⟩
    refine wp_seq ?_
    refine wp_region_lit ?_
    refine vr tbok 1 [] [(0, .pointer none)] [] E (by kernel_rfl) trivial ?_
    clear E; intro a E
    refine wpList_nil ?_
    refine th_n ?_
    refine wp_seq ?_
    refine wp_region_lit ?_
    refine vr tbok 10 [] [(2, .bool true)] [] E (by kernel_rfl) trivial ?_
    clear E; intro a E
    refine wpList_nil ?_
    refine th_n ?_
    refine wp_ret ?_
    have hx_ := Option.some.inj hP
    refine ret1 E rfl rfl ?_
    exact ⟨_, rfl, (), rfl, H.sel [0, 1, 2, 3] rfl, hx_.symm⟩
   clear H
   rintro v216 w215 a ⟨x214, rfl, H, hx_⟩ E_
   subst hx_
   replace E := E_ _ rfl; clear E_
   refine wpList_nil ?_
   refine th_n ?_
   refine c_true E rfl ?_
   refine wp_seq ?_
   refine wp_region_lit ?_
   refine vr tbok 2 [] [(2, .int .i64 0), (3, .int .i64 1)] [] E (by kernel_rfl) trivial ?_
   clear E; intro a E
   refine wpList_nil ?_
   refine th_n ?_
   refine wp_ret ?_
   refine th_ret ?_
   have hx_ := Option.some.inj hP
   refine ret2 E rfl rfl rfl ?_
   exact ⟨_, rfl, (), rfl, H.sel [0, 1, 2, 3] rfl, hx_.symm⟩
  clear H
  rintro v218 w217 a ⟨x211, rfl, H, hx_⟩ E_
  subst hx_
  replace E := E_ _ rfl; clear E_
  refine vr tbok 5 [] [(2, .pointer (some ⟨g17, 0, none⟩)), (5, .bool r22), (6, .pointer none), (9, .int .i64 0), (10, .int .u8 0), (11, .int .i64 0), (12, .int .i64 0), (13, .int .i64 1)] [] E (by kernel_rfl) trivial ?_
  clear E; intro a E
  refine wpList_nil ?_
  refine th_n ?_
  refine wp_seq ?_
  refine wp_region_lit ?_
  refine vr tbok 1 [] [(2, .pointer (some ⟨g17, 0, none⟩)), (5, .bool r22), (6, .pointer none), (9, .int .i64 0), (10, .int .u8 0), (11, .int .i64 0), (12, .int .i64 0), (13, .int .i64 1), (14, .bool false)] [] E (by kernel_rfl) trivial ?_
  clear E; intro a E
  refine wpList_nil ?_
  refine th_n ?_
  refine wp_seq ?_
  refine wp_seq ?_
  refine wp_region_lit ?_
  refine vr tbok 1 [] [(2, .pointer (some ⟨g17, 0, none⟩)), (5, .bool r22), (6, .pointer none), (9, .int .i64 0), (10, .int .u8 0), (11, .int .i64 0), (12, .int .i64 0), (13, .int .i64 1), (14, .bool false), (15, .int .i64 0)] [] E (by kernel_rfl) trivial ?_
  clear E; intro a E
  refine wpList_nil ?_
  refine th_n ?_
  refine wp_block ?_
  obtain ⟨x250, hL251, hK252⟩ := bind_inv hP
  clear hP
  refine loop_cut (fun i_ a w_ => (i_ = 2 ∧ ∃ (x255 : Unit), Fr a 137 [(5, .bool r22), (12, .int .i64 0), (13, .int .i64 1), (14, .bool false)] ∧ Hp S Fa w0 w_ [] ∧ x250 = Sum.inl x255)) ?_ ?_
  ·
   refine loopV (fun m254 a w253 => ∃ (_u : Unit), Fr a 137 [(2, .pointer (some ⟨g17, 0, none⟩)), (5, .bool r22), (6, .pointer none), (9, .int .i64 0), (10, .int .u8 0), (11, .int .i64 0), (12, .int .i64 0), (13, .int .i64 1), (14, .bool false), (15, .int .i64 0)] ∧ Hp S Fa w0 w253 [.ro false cBool A1 aAccept, .ro false (cInt .i64) A5 aGuard, .ro false cNode A9 aNodes, .box g17 43 [.int .i64 aProps, .slice A1 (List.length aAccept) c2, .slice A5 (List.length aGuard) c6, .slice A9 (List.length aNodes) c10]] ∧ law21_WatchNear_l13 N aProps m254  = some x250) N ?_ ?_
   ·
    exact ⟨(), E.pick _ ⟨rfl, rfl, rfl, rfl, rfl, rfl, rfl, rfl, rfl, rfl, trivial⟩, H.sel [0, 1, 2, 3] rfl, hL251⟩
   clear E H hL251; intro m254 a w253 hI_
   obtain ⟨_, E, H, hP⟩ := hI_
   obtain ⟨m249, rfl⟩ : ∃ q_, m254 = q_ + 1 := by cases m254 with | zero => rw [law21_WatchNear_l13] at hP; cases hP | succ q_ => exact ⟨q_, rfl⟩
   rw [law21_WatchNear_l13] at hP
   refine wp_seq ?_
   refine wp_seq ?_
   refine wp_region_lit ?_
   obtain ⟨g256, hP⟩ := ask_inv hP
   refine vr tbok 5 [.int .i64 aProps, .int .i64 (shlV .i64 1 aProps)] [(2, .pointer (some ⟨g17, 0, none⟩)), (5, .bool r22), (6, .pointer none), (9, .int .i64 0), (10, .int .u8 0), (11, .int .i64 0), (12, .int .i64 0), (13, .int .i64 1), (14, .bool false), (15, .int .i64 0), (72, .bool (decide (0 < (shlV .i64 1 aProps))))] [World.cell? w253 ⟨g17, 0, none⟩ = some (.int .i64 aProps), 0 ≤ aProps ∧ IntKind.i64.wrap (1 * 2 ^ (min (Int.toNat aProps) (IntKind.bits .i64))) = shlV .i64 1 aProps] E (by kernel_rfl) ⟨(H.box 3 rfl).cell (j := 0) rfl, ⟨g256, rfl⟩⟩ ?_
   clear E; intro a E
   refine wpList_nil ?_
   refine th_n ?_
   refine E.cases (t := 72) rfl (fun hb_ E_ => ?_) (fun hb_ E_ => ?_)
   ·
    replace E := E_; clear E_
    have h257 : 0 < (shlV .i64 1 aProps) := of_decide_eq_true hb_
    clear hb_; replace hP := ite_t h257 hP
    refine c_true E rfl ?_
    refine wp_skip ?_
    refine th_n ?_
    refine wp_seq ?_
    refine wp_block ?_
    refine wp_seq ?_
    refine wp_region_lit ?_
    refine vr tbok 3 [.int .u8 0] [(2, .pointer (some ⟨g17, 0, none⟩)), (5, .bool r22), (6, .pointer none), (9, .int .i64 0), (10, .int .u8 0), (11, .int .i64 0), (12, .int .i64 0), (13, .int .i64 1), (14, .bool false), (15, .int .i64 0), (76, .pointer none), (78, .int .u8 0)] [IntKind.u8.wrap 0 = 0] E (by kernel_rfl) ((show _ = _ from by decide)) ?_
    clear E; intro a E
    obtain ⟨x260, h261, hP⟩ := bind_inv hP
    refine e_call (R := fun v_ w_ => ∃ (x262 : Unit), v_ = .tuple #[.int .u8 0, .int .i64 1] ∧ Hp S Fa w0 w_ [.ro false cBool A1 aAccept, .ro false (cInt .i64) A5 aGuard, .ro false cNode A9 aNodes, .box g17 43 [.int .i64 aProps, .slice A1 (List.length aAccept) c2, .slice A5 (List.length aGuard) c6, .slice A9 (List.length aNodes) c10]] ∧ x260 = x262) E rfl rfl Try.func9 rfl rfl rfl ?_ ?_
    ·
     clear E hP; have hP := h261; clear h261; rw [law21_WatchNear_f14] at hP
     refine enterV (n := 67) Try.func9 rfl rfl rfl ?_
     intro a E
     replace E := E.pick [(0, .pointer none), (1, .int .u8 0)] ⟨rfl, rfl, trivial⟩
     refine wp_seq ?_
     refine wp_region_lit ?_
     refine vr tbok 2 [] [(0, .pointer none), (1, .int .u8 0)] [] E (by kernel_rfl) trivial ?_
     clear E; intro a E
     refine wpList_nil ?_
     refine th_n ?_
     refine wp_seq ?_
     refine wp_block ?_
     refine wp_seq ?_
     refine wp_region_lit ?_
     refine vr tbok 1 [] [(0, .pointer none), (1, .int .u8 0), (9, .pointer none)] [] E (by kernel_rfl) trivial ?_
     clear E; intro a E
     obtain ⟨x263, h264, hP⟩ := bind_inv hP
     refine e_call (R := fun v_ w_ => ∃ (x265 : Unit), v_ = .bool true ∧ Hp S Fa w0 w_ [.ro false cBool A1 aAccept, .ro false (cInt .i64) A5 aGuard, .ro false cNode A9 aNodes, .box g17 43 [.int .i64 aProps, .slice A1 (List.length aAccept) c2, .slice A5 (List.length aGuard) c6, .slice A9 (List.length aNodes) c10]] ∧ x263 = x265) E rfl rfl Try.func32 rfl rfl rfl ?_ ?_
     ·
      clear E hP; have hP := h264; clear h264; rw [law21_WatchNear_f15] at hP
      refine enterV (n := 12) Try.func32 rfl rfl rfl ?_
      intro a E
      replace E := E.pick [(0, .pointer none)] ⟨rfl, trivial⟩
      refine wp_seq ?_
      refine wp_region_lit ?_
      refine vr tbok 1 [] [(0, .pointer none)] [] E (by kernel_rfl) trivial ?_
      clear E; intro a E
      refine wpList_nil ?_
      refine th_n ?_
      refine wp_seq ?_
      refine wp_region_lit ?_
      refine vr tbok 10 [] [(2, .bool true)] [] E (by kernel_rfl) trivial ?_
      clear E; intro a E
      refine wpList_nil ?_
      refine th_n ?_
      refine wp_ret ?_
      have hx_ := Option.some.inj hP
      refine ret1 E rfl rfl ?_
      exact ⟨_, rfl, (), rfl, H.sel [0, 1, 2, 3] rfl, hx_.symm⟩
     clear H
     rintro v267 w266 a ⟨x265, rfl, H, hx_⟩ E_
     subst hx_
     replace E := E_ _ rfl; clear E_
     refine vr tbok 1 [] [(0, .pointer none), (1, .int .u8 0), (8, .bool true)] [] E (by kernel_rfl) trivial ?_
     clear E; intro a E
     refine wpList_nil ?_
     refine th_n ?_
     refine c_true E rfl ?_
     refine wp_seq ?_
     refine wp_region_lit ?_
     refine vr tbok 2 [] [(4, .int .u8 0), (5, .int .i64 1)] [] E (by kernel_rfl) trivial ?_
     clear E; intro a E
     refine wpList_nil ?_
     refine th_n ?_
     refine wp_ret ?_
     refine bl_ret ?_
     refine th_ret ?_
     have hx_ := Option.some.inj hP
     refine ret2 E rfl rfl rfl ?_
     exact ⟨_, rfl, (), rfl, H.sel [0, 1, 2, 3] rfl, hx_.symm⟩
    clear H
    rintro v269 w268 a ⟨x262, rfl, H, hx_⟩ E_
    subst hx_
    replace E := E_ _ rfl; clear E_
    refine vr tbok 5 [] [(2, .pointer (some ⟨g17, 0, none⟩)), (5, .bool r22), (6, .pointer none), (9, .int .i64 0), (10, .int .u8 0), (11, .int .i64 0), (12, .int .i64 0), (13, .int .i64 1), (14, .bool false), (15, .int .i64 0), (17, .int .i64 1)] [] E (by kernel_rfl) trivial ?_
    clear E; intro a E
    refine wpList_nil ?_
    refine th_n ?_
    refine wp_seq ?_
    refine wp_region_lit ?_
    refine vr tbok 1 [] [(2, .pointer (some ⟨g17, 0, none⟩)), (5, .bool r22), (6, .pointer none), (9, .int .i64 0), (10, .int .u8 0), (11, .int .i64 0), (12, .int .i64 0), (13, .int .i64 1), (14, .bool false), (15, .int .i64 0), (17, .int .i64 1), (83, .pointer none)] [] E (by kernel_rfl) trivial ?_
    clear E; intro a E
    obtain ⟨x272, h273, hP⟩ := bind_inv hP
    refine e_call (R := fun v_ w_ => ∃ (x274 : Unit), v_ = .tuple #[.int .i64 0, .int .i64 1] ∧ Hp S Fa w0 w_ [.ro false cBool A1 aAccept, .ro false (cInt .i64) A5 aGuard, .ro false cNode A9 aNodes, .box g17 43 [.int .i64 aProps, .slice A1 (List.length aAccept) c2, .slice A5 (List.length aGuard) c6, .slice A9 (List.length aNodes) c10]] ∧ x272 = x274) E rfl rfl Try.func11 rfl rfl rfl ?_ ?_
    ·
     clear E hP; have hP := h273; clear h273; rw [law21_WatchNear_f16] at hP
     refine enterV (n := 21) Try.func11 rfl rfl rfl ?_
     intro a E
     replace E := E.pick [(0, .pointer none)] ⟨rfl, trivial⟩
     refine wp_seq ?_
     refine wp_region_lit ?_
     refine vr tbok 2 [] [(0, .pointer none)] [] E (by kernel_rfl) trivial ?_
     clear E; intro a E
     refine wpList_nil ?_
     refine th_n ?_
     refine wp_seq ?_
     refine wp_seq ?_
     refine wp_region_lit ?_
     refine vr tbok 1 [] [(0, .pointer none), (5, .pointer none)] [] E (by kernel_rfl) trivial ?_
     clear E; intro a E
     obtain ⟨x275, h276, hP⟩ := bind_inv hP
     refine e_call (R := fun v_ w_ => ∃ (x277 : Unit), v_ = .bool true ∧ Hp S Fa w0 w_ [.ro false cBool A1 aAccept, .ro false (cInt .i64) A5 aGuard, .ro false cNode A9 aNodes, .box g17 43 [.int .i64 aProps, .slice A1 (List.length aAccept) c2, .slice A5 (List.length aGuard) c6, .slice A9 (List.length aNodes) c10]] ∧ x275 = x277) E rfl rfl Try.func32 rfl rfl rfl ?_ ?_
     ·
      clear E hP; have hP := h276; clear h276; rw [law21_WatchNear_f17] at hP
      refine enterV (n := 12) Try.func32 rfl rfl rfl ?_
      intro a E
      replace E := E.pick [(0, .pointer none)] ⟨rfl, trivial⟩
      refine wp_seq ?_
      refine wp_region_lit ?_
      refine vr tbok 1 [] [(0, .pointer none)] [] E (by kernel_rfl) trivial ?_
      clear E; intro a E
      refine wpList_nil ?_
      refine th_n ?_
      refine wp_seq ?_
      refine wp_region_lit ?_
      refine vr tbok 10 [] [(2, .bool true)] [] E (by kernel_rfl) trivial ?_
      clear E; intro a E
      refine wpList_nil ?_
      refine th_n ?_
      refine wp_ret ?_
      have hx_ := Option.some.inj hP
      refine ret1 E rfl rfl ?_
      exact ⟨_, rfl, (), rfl, H.sel [0, 1, 2, 3] rfl, hx_.symm⟩
     clear H
     rintro v279 w278 a ⟨x277, rfl, H, hx_⟩ E_
     subst hx_
     replace E := E_ _ rfl; clear E_
     refine wpList_nil ?_
     refine th_n ?_
     refine c_true E rfl ?_
     refine wp_seq ?_
     refine wp_region_lit ?_
     refine vr tbok 2 [] [(2, .int .i64 0), (3, .int .i64 1)] [] E (by kernel_rfl) trivial ?_
     clear E; intro a E
     refine wpList_nil ?_
     refine th_n ?_
     refine wp_ret ?_
     refine th_ret ?_
     have hx_ := Option.some.inj hP
     refine ret2 E rfl rfl rfl ?_
     exact ⟨_, rfl, (), rfl, H.sel [0, 1, 2, 3] rfl, hx_.symm⟩
    clear H
    rintro v281 w280 a ⟨x274, rfl, H, hx_⟩ E_
    subst hx_
    replace E := E_ _ rfl; clear E_
    refine vr tbok 5 [] [(2, .pointer (some ⟨g17, 0, none⟩)), (5, .bool r22), (6, .pointer none), (9, .int .i64 0), (10, .int .u8 0), (11, .int .i64 0), (12, .int .i64 0), (13, .int .i64 1), (14, .bool false), (15, .int .i64 0), (17, .int .i64 1), (18, .int .i64 0), (19, .int .i64 1)] [] E (by kernel_rfl) trivial ?_
    clear E; intro a E
    refine wpList_nil ?_
    refine th_n ?_
    refine wp_seq ?_
    refine wp_region_lit ?_
    refine vr tbok 12 [] [(2, .pointer (some ⟨g17, 0, none⟩)), (5, .bool r22), (6, .pointer none), (9, .int .i64 0), (10, .int .u8 0), (11, .int .i64 0), (12, .int .i64 0), (13, .int .i64 1), (14, .bool false), (15, .int .i64 0), (17, .int .i64 1)] [] E (by kernel_rfl) trivial ?_
    clear E; intro a E
    refine wpList_nil ?_
    refine th_n ?_
    refine wp_seq ?_
    refine wp_region_lit ?_
    refine vr tbok 1 [] [(2, .pointer (some ⟨g17, 0, none⟩)), (5, .bool r22), (6, .pointer none), (9, .int .i64 0), (10, .int .u8 0), (11, .int .i64 0), (12, .int .i64 0), (13, .int .i64 1), (14, .bool false), (15, .int .i64 0), (17, .int .i64 1), (99, .pointer none)] [] E (by kernel_rfl) trivial ?_
    clear E; intro a E
    obtain ⟨x284, h285, hP⟩ := bind_inv hP
    refine e_call (R := fun v_ w_ => ∃ (x286 : Unit), v_ = .tuple #[.int .u8 0, .int .i64 1] ∧ Hp S Fa w0 w_ [.ro false cBool A1 aAccept, .ro false (cInt .i64) A5 aGuard, .ro false cNode A9 aNodes, .box g17 43 [.int .i64 aProps, .slice A1 (List.length aAccept) c2, .slice A5 (List.length aGuard) c6, .slice A9 (List.length aNodes) c10]] ∧ x284 = x286) E rfl rfl Try.func10 rfl rfl rfl ?_ ?_
    ·
     clear E hP; have hP := h285; clear h285; rw [law21_WatchNear_f18] at hP
     refine enterV (n := 30) Try.func10 rfl rfl rfl ?_
     intro a E
     replace E := E.pick [(0, .pointer none)] ⟨rfl, trivial⟩
     refine wp_seq ?_
     refine wp_region_lit ?_
     refine vr tbok 2 [] [(0, .pointer none)] [] E (by kernel_rfl) trivial ?_
     clear E; intro a E
     refine wpList_nil ?_
     refine th_n ?_
     refine wp_seq ?_
     refine wp_block ?_
     refine wp_seq ?_
     refine wp_region_lit ?_
     refine vr tbok 1 [] [(0, .pointer none), (5, .pointer none)] [] E (by kernel_rfl) trivial ?_
     clear E; intro a E
     obtain ⟨x287, h288, hP⟩ := bind_inv hP
     refine e_call (R := fun v_ w_ => ∃ (x289 : Unit), v_ = .bool true ∧ Hp S Fa w0 w_ [.ro false cBool A1 aAccept, .ro false (cInt .i64) A5 aGuard, .ro false cNode A9 aNodes, .box g17 43 [.int .i64 aProps, .slice A1 (List.length aAccept) c2, .slice A5 (List.length aGuard) c6, .slice A9 (List.length aNodes) c10]] ∧ x287 = x289) E rfl rfl Try.func32 rfl rfl rfl ?_ ?_
     ·
      clear E hP; have hP := h288; clear h288; rw [law21_WatchNear_f19] at hP
      refine enterV (n := 12) Try.func32 rfl rfl rfl ?_
      intro a E
      replace E := E.pick [(0, .pointer none)] ⟨rfl, trivial⟩
      refine wp_seq ?_
      refine wp_region_lit ?_
      refine vr tbok 1 [] [(0, .pointer none)] [] E (by kernel_rfl) trivial ?_
      clear E; intro a E
      refine wpList_nil ?_
      refine th_n ?_
      refine wp_seq ?_
      refine wp_region_lit ?_
      refine vr tbok 10 [] [(2, .bool true)] [] E (by kernel_rfl) trivial ?_
      clear E; intro a E
      refine wpList_nil ?_
      refine th_n ?_
      refine wp_ret ?_
      have hx_ := Option.some.inj hP
      refine ret1 E rfl rfl ?_
      exact ⟨_, rfl, (), rfl, H.sel [0, 1, 2, 3] rfl, hx_.symm⟩
     clear H
     rintro v291 w290 a ⟨x289, rfl, H, hx_⟩ E_
     subst hx_
     replace E := E_ _ rfl; clear E_
     refine vr tbok 1 [] [(0, .pointer none), (4, .bool true)] [] E (by kernel_rfl) trivial ?_
     clear E; intro a E
     refine wpList_nil ?_
     refine th_n ?_
     refine c_true E rfl ?_
     refine wp_seq ?_
     refine wp_region_lit ?_
     refine vr tbok 2 [] [(2, .int .u8 0), (3, .int .i64 1)] [] E (by kernel_rfl) trivial ?_
     clear E; intro a E
     refine wpList_nil ?_
     refine th_n ?_
     refine wp_ret ?_
     refine bl_ret ?_
     refine th_ret ?_
     have hx_ := Option.some.inj hP
     refine ret2 E rfl rfl rfl ?_
     exact ⟨_, rfl, (), rfl, H.sel [0, 1, 2, 3] rfl, hx_.symm⟩
    clear H
    rintro v293 w292 a ⟨x286, rfl, H, hx_⟩ E_
    subst hx_
    replace E := E_ _ rfl; clear E_
    refine vr tbok 5 [] [(2, .pointer (some ⟨g17, 0, none⟩)), (5, .bool r22), (6, .pointer none), (9, .int .i64 0), (10, .int .u8 0), (11, .int .i64 0), (12, .int .i64 0), (13, .int .i64 1), (14, .bool false), (15, .int .i64 0), (17, .int .i64 1), (20, .int .u8 0), (21, .int .i64 1)] [] E (by kernel_rfl) trivial ?_
    clear E; intro a E
    refine wpList_nil ?_
    refine th_n ?_
    refine wp_seq ?_
    refine wp_region_lit ?_
    refine vr tbok 23 [] [(2, .pointer (some ⟨g17, 0, none⟩)), (5, .bool r22), (6, .pointer none), (9, .int .i64 0), (10, .int .u8 0), (11, .int .i64 0), (12, .int .i64 0), (13, .int .i64 1), (14, .bool false), (15, .int .i64 0), (125, .bool true)] [] E (by kernel_rfl) trivial ?_
    clear E; intro a E
    refine wpList_nil ?_
    refine th_n ?_
    refine c_true E rfl ?_
    refine wp_seq ?_
    refine wp_region_lit ?_
    refine vr tbok 1 [] [(4, .bool false)] [] E (by kernel_rfl) trivial ?_
    clear E; intro a E
    refine wpList_nil ?_
    refine th_n ?_
    refine wp_ret ?_
    refine bl_ret ?_
    refine th_ret ?_
    refine th_ret ?_
    refine .inr ⟨rfl, ?_⟩
    refine bl_ret ?_
    refine th_ret ?_
    have hx_ := Option.some.inj hP; subst hx_
    have hP : some (false) = some r := hK252
    obtain rfl := Option.some.inj hP
    refine ret1 E rfl rfl ?_
    exact ⟨_, rfl, rfl, H.sel [] rfl⟩
   replace E := E_; clear E_
   have h294 : ¬ (0 < (shlV .i64 1 aProps)) := of_decide_eq_false hb_
   clear hb_; replace hP := ite_f h294 hP
   refine c_false E rfl ?_
   refine wp_exit ?_
   refine th_exit ?_
   have hx_ := Option.some.inj hP
   refine th_exit (.inl ⟨2, rfl, ?_⟩)
   exact ⟨rfl, (), E.pick _ ⟨rfl, rfl, rfl, rfl, trivial⟩, H.sel [] rfl, hx_.symm⟩
  clear E H hL251; intro i_ a w253 hM_
  obtain ⟨rfl, x255, E, H, hx_⟩ := hM_
  subst hx_; have hP := elim_l hK252
  clear hK252
  refine bl_hit ?_
  refine th_n ?_
  refine wp_seq ?_
  refine wp_seq ?_
  refine wp_region_lit ?_
  refine vr tbok 10 [] [(5, .bool r22), (135, .bool false)] [] E (by kernel_rfl) trivial ?_
  clear E; intro a E
  refine wpList_nil ?_
  refine th_n ?_
  refine c_false E rfl ?_
  refine wp_skip ?_
  refine th_n ?_
  refine wp_seq ?_
  refine wp_region_lit ?_
  refine vr tbok 2 [] [(4, .bool r22)] [] E (by kernel_rfl) trivial ?_
  clear E; intro a E
  refine wpList_nil ?_
  refine th_n ?_
  refine wp_ret ?_
  obtain rfl := Option.some.inj hP
  refine ret1 E rfl rfl ?_
  exact ⟨_, rfl, rfl, H.sel [] rfl⟩
 subst hr_; have hP := (elim_r hP)
 obtain ⟨x49, hxx_⟩ : ∃ y_, y_ = x_ := ⟨_, rfl⟩; subst hxx_
 replace E := E_ _ rfl; clear E_
 obtain ⟨H_, hc43⟩ := hb35 _ _ HR47 rfl
 replace H := H_; clear H_; try dsimp only [setn, addE, goneL] at H
 refine vr tbok 5 [] [(1, .slice A13 (List.length t) c14), (2, .pointer (some ⟨g17, 0, none⟩)), (5, .bool r22), (6, .pointer (some ⟨g45, 0, none⟩)), (7, .int .i64 x49.2)] [] E (by kernel_rfl) trivial ?_
 clear E; intro a E
 refine wpList_nil ?_
 refine th_n ?_
 refine wp_seq ?_
 refine wp_seq ?_
 obtain ⟨x310, h311, hK312⟩ := bind_inv hP
 clear hP
 refine meet_cut (fun a w314 => ∃ (x313 : Bool), Fr a 137 [(1, .slice A13 (List.length t) c14), (2, .pointer (some ⟨g17, 0, none⟩)), (5, .bool r22), (6, .pointer (some ⟨g45, 0, none⟩)), (34, .bool x313)] ∧ Hp S Fa w0 w314 [.ro false (cInt .u8) A13 t, .ro false cBool A1 aAccept, .ro false (cInt .i64) A5 aGuard, .ro false cNode A9 aNodes, .box g17 43 [.int .i64 aProps, .slice A1 (List.length aAccept) c2, .slice A5 (List.length aGuard) c6, .slice A9 (List.length aNodes) c10], .ro true cS78 (some ⟨b46, 0, none⟩) ([x49.1]), .box g45 27 [.pointer (some ⟨b46, 0, none⟩), .slice none 0 0]] ∧ x310 = x313) ?_ ?_
 ·
  have hP := h311; clear h311; rw [law21_WatchNear_j20] at hP
  refine wp_region_lit ?_
  refine vr tbok 1 [.agg #[.int .i64 aProps, .slice A1 (List.length aAccept) c2, .slice A5 (List.length aGuard) c6, .slice A9 (List.length aNodes) c10]] [(1, .slice A13 (List.length t) c14), (2, .pointer (some ⟨g17, 0, none⟩)), (5, .bool r22), (6, .pointer (some ⟨g45, 0, none⟩)), (7, .int .i64 x49.2), (28, .agg #[.int .i64 aProps, .slice A1 (List.length aAccept) c2, .slice A5 (List.length aGuard) c6, .slice A9 (List.length aNodes) c10])] [cellsAt w40 g17 (0) [.int .i64 aProps, .slice A1 (List.length aAccept) c2, .slice A5 (List.length aGuard) c6, .slice A9 (List.length aNodes) c10]] E (by kernel_rfl) ((H.box 4 rfl).sub 0 _ rfl) ?_
  clear E; intro a E
  obtain ⟨r315, h316, hP⟩ := bind_inv hP
  obtain ⟨Fa317, Hc318, hb319⟩ := H.call [] [(0, false), (1, false), (2, false)] rfl rfl trivial
  refine e_call E rfl rfl Try.func16 rfl rfl rfl (law16_Small_calls A1 c2 A5 c6 A9 c10 aProps aAccept aGuard aNodes hk3 hk7 hk11 Hc318 h316) ?_
  rintro v320 w321 a ⟨rfl, HR322⟩ E_
  replace E := E_ _ rfl; clear E_
  obtain ⟨H_, hc323⟩ := hb319 _ _ HR322 rfl
  replace H := H_; clear H_; try dsimp only [setn, addE, goneL] at H
  refine vr tbok 2 [] [(1, .slice A13 (List.length t) c14), (2, .pointer (some ⟨g17, 0, none⟩)), (5, .bool r22), (6, .pointer (some ⟨g45, 0, none⟩)), (7, .int .i64 x49.2), (31, .bool (!r315))] [] E (by kernel_rfl) trivial ?_
  clear E; intro a E
  refine E.cases (t := 31) rfl (fun hb_ E_ => ?_) (fun hb_ E_ => ?_)
  ·
   replace E := E_; clear E_
   have h324 : ¬ (r315 = true) := (ne_true_of_eq_false (not_t hb_))
   clear hb_; replace hP := ite_f h324 hP
   refine vr tbok 3 [] [(1, .slice A13 (List.length t) c14), (2, .pointer (some ⟨g17, 0, none⟩)), (5, .bool r22), (6, .pointer (some ⟨g45, 0, none⟩)), (34, .bool true)] [] E (by kernel_rfl) trivial ?_
   clear E; intro a E
   refine wpList_nil ?_
   have hx_ := Option.some.inj hP
   exact .inl ⟨rfl, true, E.pick _ ⟨rfl, rfl, rfl, rfl, rfl, trivial⟩, H.sel [3, 0, 1, 2, 4, 6, 5] rfl, hx_.symm⟩
  replace E := E_; clear E_
  have h325 : r315 = true := (not_f hb_)
  clear hb_; replace hP := ite_t h325 hP
  refine vr tbok 3 [] [(1, .slice A13 (List.length t) c14), (2, .pointer (some ⟨g17, 0, none⟩)), (5, .bool r22), (6, .pointer (some ⟨g45, 0, none⟩)), (34, .bool ((x49.2 : Int) != 0))] [] E (by kernel_rfl) trivial ?_
  clear E; intro a E
  refine wpList_nil ?_
  have hx_ := Option.some.inj hP
  exact .inl ⟨rfl, (x49.2 : Int) != 0, E.pick _ ⟨rfl, rfl, rfl, rfl, rfl, trivial⟩, H.sel [3, 0, 1, 2, 4, 6, 5] rfl, hx_.symm⟩
 clear E H h311; rintro a w314 ⟨x313, E, H, hx_⟩
 subst hx_; have hP := hK312; clear hK312
 refine th_n ?_
 refine E.cases (t := 34) rfl (fun hb_ E_ => ?_) (fun hb_ E_ => ?_)
 ·
  replace E := E_; clear E_
  have h326 : x310 = true := hb_
  clear hb_; replace hP := ite_t h326 hP
  refine c_true E rfl ?_
  refine wp_seq ?_
  refine wp_region_lit ?_
  refine vr tbok 2 [] [(4, .bool r22)] [] E (by kernel_rfl) trivial ?_
  clear E; intro a E
  refine wpList_nil ?_
  refine th_n ?_
  refine wp_ret ?_
  refine th_ret ?_
  obtain rfl := Option.some.inj hP
  refine ret1 E rfl rfl ?_
  exact ⟨_, rfl, rfl, H.sel [] rfl⟩
 replace E := E_; clear E_
 have h327 : ¬ (x310 = true) := (ne_true_of_eq_false hb_)
 clear hb_; replace hP := ite_f h327 hP
 refine c_false E rfl ?_
 refine wp_skip ?_
 refine th_n ?_
 refine wp_seq ?_
 refine wp_seq ?_
 refine wp_region_lit ?_
 refine vr tbok 1 [] [(1, .slice A13 (List.length t) c14), (2, .pointer (some ⟨g17, 0, none⟩)), (5, .bool r22), (6, .pointer (some ⟨g45, 0, none⟩)), (8, .int .i64 0)] [] E (by kernel_rfl) trivial ?_
 clear E; intro a E
 refine wpList_nil ?_
 refine th_n ?_
 refine wp_block ?_
 obtain ⟨x436, hL437, hK438⟩ := bind_inv hP
 clear hP
 replace H := H.nilrow (cInt .i64) 3; try dsimp only [setn, addE, goneL] at H
 refine loop_cut (fun i_ a w_ => (i_ = 0 ∧ ∃ (x442 : List Int), ∃ (A433 : Option Addr) (c434 : Nat), Fr a 137 [(2, .pointer (some ⟨g17, 0, none⟩)), (5, .bool r22), (6, .pointer (some ⟨g45, 0, none⟩))] ∧ Hp S Fa w0 w_ [.ro false cBool A1 aAccept, .ro false (cInt .i64) A5 aGuard, .ro false cNode A9 aNodes, .box g17 43 [.int .i64 aProps, .slice A1 (List.length aAccept) c2, .slice A5 (List.length aGuard) c6, .slice A9 (List.length aNodes) c10], .box g45 27 [.pointer (some ⟨b46, 0, none⟩), .slice A433 (List.length x442) c434], .ro true cS78 (some ⟨b46, 0, none⟩) ([x49.1]), .row true (cInt .i64) 3 A433 c434 x442] ∧ x436 = x442)) ?_ ?_
 ·
  refine loopV (fun m441 a w440 => ∃ (w378 : List Int) (i381 : Int), ∃ (A379 : Option Addr) (c380 : Nat), Fr a 137 [(1, .slice A13 (List.length t) c14), (2, .pointer (some ⟨g17, 0, none⟩)), (5, .bool r22), (6, .pointer (some ⟨g45, 0, none⟩)), (8, .int .i64 i381)] ∧ Hp S Fa w0 w440 [.ro false (cInt .u8) A13 t, .ro false cBool A1 aAccept, .ro false (cInt .i64) A5 aGuard, .ro false cNode A9 aNodes, .box g17 43 [.int .i64 aProps, .slice A1 (List.length aAccept) c2, .slice A5 (List.length aGuard) c6, .slice A9 (List.length aNodes) c10], .box g45 27 [.pointer (some ⟨b46, 0, none⟩), .slice A379 (List.length w378) c380], .ro true cS78 (some ⟨b46, 0, none⟩) ([x49.1]), .row true (cInt .i64) 3 A379 c380 w378] ∧ law21_WatchNear_l21 N aProps t x49 m441 w378 i381 = some x436) N ?_ ?_
  ·
   exact ⟨[], 0, none, 0, E.pick _ ⟨rfl, rfl, rfl, rfl, rfl, trivial⟩, H.sel [0, 1, 2, 3, 4, 6, 5, 7] rfl, hL437⟩
  clear E H hL437; intro m441 a w440 hI_
  obtain ⟨w378, i381, A379, c380, E, H, hP⟩ := hI_
  obtain ⟨m435, rfl⟩ : ∃ q_, m441 = q_ + 1 := by cases m441 with | zero => rw [law21_WatchNear_l21] at hP; cases hP | succ q_ => exact ⟨q_, rfl⟩
  rw [law21_WatchNear_l21] at hP
  refine wp_seq ?_
  refine wp_seq ?_
  obtain ⟨x446, h447, hK448⟩ := bind_inv hP
  clear hP
  refine meet_cut (fun a w450 => ∃ (x449 : Bool), Fr a 137 [(1, .slice A13 (List.length t) c14), (2, .pointer (some ⟨g17, 0, none⟩)), (5, .bool r22), (6, .pointer (some ⟨g45, 0, none⟩)), (8, .int .i64 i381), (43, .bool x449)] ∧ Hp S Fa w0 w450 [.ro false (cInt .u8) A13 t, .ro false cBool A1 aAccept, .ro false (cInt .i64) A5 aGuard, .ro false cNode A9 aNodes, .box g17 43 [.int .i64 aProps, .slice A1 (List.length aAccept) c2, .slice A5 (List.length aGuard) c6, .slice A9 (List.length aNodes) c10], .ro true cS78 (some ⟨b46, 0, none⟩) ([x49.1]), .row true (cInt .i64) 3 A379 c380 w378, .box g45 27 [.pointer (some ⟨b46, 0, none⟩), .slice A379 (List.length w378) c380]] ∧ x446 = x449) ?_ ?_
  ·
   have hP := h447; clear h447; rw [law21_WatchNear_j22] at hP
   refine wp_region_lit ?_
   refine vr tbok 5 [] [(1, .slice A13 (List.length t) c14), (2, .pointer (some ⟨g17, 0, none⟩)), (5, .bool r22), (6, .pointer (some ⟨g45, 0, none⟩)), (8, .int .i64 i381), (40, .bool (decide (i381 < (((List.length t) : Nat) : Int))))] [] E (by kernel_rfl) trivial ?_
   clear E; intro a E
   refine E.cases (t := 40) rfl (fun hb_ E_ => ?_) (fun hb_ E_ => ?_)
   ·
    replace E := E_; clear E_
    have h451 : i381 < (((List.length t) : Nat) : Int) := of_decide_eq_true hb_
    clear hb_; replace hP := ite_t h451 hP
    refine vr tbok 3 [] [(1, .slice A13 (List.length t) c14), (2, .pointer (some ⟨g17, 0, none⟩)), (5, .bool r22), (6, .pointer (some ⟨g45, 0, none⟩)), (8, .int .i64 i381), (43, .bool (decide (i381 < 60)))] [] E (by kernel_rfl) trivial ?_
    clear E; intro a E
    refine wpList_nil ?_
    have hx_ := Option.some.inj hP
    exact .inl ⟨rfl, decide (i381 < 60), E.pick _ ⟨rfl, rfl, rfl, rfl, rfl, rfl, trivial⟩, H.sel [0, 1, 2, 3, 4, 6, 7, 5] rfl, hx_.symm⟩
   replace E := E_; clear E_
   have h452 : ¬ (i381 < (((List.length t) : Nat) : Int)) := of_decide_eq_false hb_
   clear hb_; replace hP := ite_f h452 hP
   refine vr tbok 3 [] [(1, .slice A13 (List.length t) c14), (2, .pointer (some ⟨g17, 0, none⟩)), (5, .bool r22), (6, .pointer (some ⟨g45, 0, none⟩)), (8, .int .i64 i381), (43, .bool false)] [] E (by kernel_rfl) trivial ?_
   clear E; intro a E
   refine wpList_nil ?_
   have hx_ := Option.some.inj hP
   exact .inl ⟨rfl, false, E.pick _ ⟨rfl, rfl, rfl, rfl, rfl, rfl, trivial⟩, H.sel [0, 1, 2, 3, 4, 6, 7, 5] rfl, hx_.symm⟩
  clear E H h447; rintro a w450 ⟨x449, E, H, hx_⟩
  subst hx_; have hP := hK448; clear hK448
  refine th_n ?_
  refine E.cases (t := 43) rfl (fun hb_ E_ => ?_) (fun hb_ E_ => ?_)
  ·
   replace E := E_; clear E_
   have h453 : x446 = true := hb_
   clear hb_; replace hP := ite_t h453 hP
   refine c_true E rfl ?_
   refine wp_skip ?_
   refine th_n ?_
   refine wp_seq ?_
   refine wp_block ?_
   obtain ⟨g454, hP⟩ := ask_inv hP
   obtain ⟨b455, o456, e_b455⟩ := (H.rd 0 rds_ro).addr (idx_pos g454)
   subst e_b455
   obtain ⟨g457, hP⟩ := ask_inv hP
   obtain ⟨r458, h459, hP⟩ := bind_inv hP
   have HR479 := H
   refine dr_start (S := fun w_ => Chg (atL [.row true (cInt .i64) 3 A379 c380 w378, .box g45 27 [.pointer (some ⟨b46, 0, none⟩), .slice A379 (List.length w378) c380]]) w450 w_) (by kernel_rfl) ?_
   intro w476 hc477
   have HS478 : Chg (atL [.row true (cInt .i64) 3 A379 c380 w378, .box g45 27 [.pointer (some ⟨b46, 0, none⟩), .slice A379 (List.length w378) c380]]) w450 w476 := hc477.mono (fun _ _ h_ => h_.elim)
   replace H := H.ext hc477
   refine dr tbok (by kernel_rfl) [0, 1, 2, 3, 4, 5, 6, 7, 8, 9] [.int .u8 (List.getD t (Int.toNat i381) 0), .int .i64 aProps, .int .u8 (shlV .u8 1 aProps), .int .u8 (IntKind.u8.wrap ((shlV .u8 1 aProps) - 1)), .int .u8 (andV .u8 (List.getD t (Int.toNat i381) 0) (IntKind.u8.wrap ((shlV .u8 1 aProps) - 1)))] [(1, .slice (some ⟨b455, o456, none⟩) (List.length t) c14), (2, .pointer (some ⟨g17, 0, none⟩)), (5, .bool r22), (6, .pointer (some ⟨g45, 0, none⟩)), (8, .int .i64 i381), (46, .pointer (some ⟨g45, 0, none⟩)), (55, .int .u8 (andV .u8 (List.getD t (Int.toNat i381) 0) (IntKind.u8.wrap ((shlV .u8 1 aProps) - 1))))] (fun w_ => [0 ≤ i381 ∧ i381 < (((List.length t) : Nat) : Int), World.cell? w_ ⟨b455, o456 + (Int.toNat i381) * 1, none⟩ = some (.int .u8 (List.getD t (Int.toNat i381) 0)), World.cell? w_ ⟨g17, 0, none⟩ = some (.int .i64 aProps), 0 ≤ aProps ∧ IntKind.u8.wrap (1 * 2 ^ (min (Int.toNat aProps) (IntKind.bits .u8))) = shlV .u8 1 aProps, IntKind.u8.wrap ((shlV .u8 1 aProps) - 1) = IntKind.u8.wrap ((shlV .u8 1 aProps) - 1), IntKind.u8.wrap (BitVec.ofInt (IntKind.bits .u8) (List.getD t (Int.toNat i381) 0) &&& BitVec.ofInt (IntKind.bits .u8) (IntKind.u8.wrap ((shlV .u8 1 aProps) - 1))).toNat = andV .u8 (List.getD t (Int.toNat i381) 0) (IntKind.u8.wrap ((shlV .u8 1 aProps) - 1))]) 1 E (fun _ _ => by kernel_rfl) (fun w_ hS_ => ⟨g454, Rds.at1 (HR479.rdk [6, 7] hS_ 0 rds_ro rfl) 0 g454, (HR479.boxk [6, 7] hS_ 4 rfl rfl).cell (j := 0) rfl, ⟨g457, rfl⟩, rfl, rfl⟩) (by kernel_rfl) HS478 ?_
   clear E; intro a E
   refine wpAnyH_all (rs := [10]) (by kernel_rfl) (by simp) ?_
   refine all1 ?_
   refine wpOp_of_list rfl ?_
   obtain ⟨Fa480, Hc481, hb482⟩ := H.call [7, 6] [(5, false)] rfl rfl ⟨flat_plain, trivial⟩
   refine e_call E rfl rfl Try.func9 rfl rfl rfl (watch_Watch_Feed_calls g45 b46 0 A379 c380 x49.1 w378 (andV .u8 (List.getD t (Int.toNat i381) 0) (IntKind.u8.wrap ((shlV .u8 1 aProps) - 1)))  Hc481 h459) ?_
   intro v488 w487 a hR489 E_
   obtain ⟨x_, A492, c493, hr_, rfl, HR491⟩ := hR489
   subst hr_
   replace E := E_ _ rfl; clear E_
   obtain ⟨H_, hc490⟩ := hb482 _ _ HR491 rfl
   replace HS478 := HS478.trans hc490 (fun k_ hk_ h_ => h_.elim (fun h_ => by have hs_ := HS478.size; exfalso; omega) (fun h_ => h_.elim (fun h_ => (fun _ _ h_ => Or.inr (Or.inl h_)) k_ hk_ h_) (fun h_ => h_.elim (fun h_ => (fun _ _ h_ => Or.inl h_) k_ hk_ h_) (fun h_ => h_.elim))))
   replace H := H_; clear H_; try dsimp only [setn, addE, goneL] at H
   refine wpList_nil ?_
   refine th_n ⟨HS478, ?_⟩
   refine dr_done (by kernel_rfl) ?_
   clear HS478 HR479
   refine bl_n ?_
   refine th_n ?_
   refine wp_region_lit ?_
   obtain ⟨g496, hP⟩ := ask_inv hP
   refine vr tbok 3 [.int .i64 (i381 + 1)] [(1, .slice (some ⟨b455, o456, none⟩) (List.length t) c14), (2, .pointer (some ⟨g17, 0, none⟩)), (5, .bool r22), (6, .pointer (some ⟨g45, 0, none⟩)), (8, .int .i64 (i381 + 1))] [IntKind.i64.wrap (i381 + 1) = i381 + 1] E (by kernel_rfl) (wrap_in g496) ?_
   clear E; intro a E
   refine wpList_nil ?_
   exact th_n ⟨m435, Nat.lt_succ_self _, r458.2.2, i381 + 1, A492, c493, E.pick _ ⟨rfl, rfl, rfl, rfl, rfl, trivial⟩, H.sel [0, 1, 2, 3, 4, 8, 5, 9] rfl, hP⟩
  replace E := E_; clear E_
  have h497 : ¬ (x446 = true) := (ne_true_of_eq_false hb_)
  clear hb_; replace hP := ite_f h497 hP
  refine c_false E rfl ?_
  refine wp_exit ?_
  refine th_exit ?_
  have hx_ := Option.some.inj hP
  refine th_exit (.inl ⟨0, rfl, ?_⟩)
  exact ⟨rfl, w378, A379, c380, E.pick _ ⟨rfl, rfl, rfl, trivial⟩, H.sel [1, 2, 3, 4, 7, 5, 6] rfl, hx_.symm⟩
 clear E H hL437; intro i_ a w440 hM_
 obtain ⟨rfl, x442, A433, c434, E, H, hx_⟩ := hM_
 subst hx_; have hP := hK438; clear hK438
 refine bl_hit ?_
 refine th_n ?_
 refine wp_seq ?_
 refine wp_region_lit ?_
 refine vr tbok 1 [] [(2, .pointer (some ⟨g17, 0, none⟩)), (5, .bool r22), (6, .pointer (some ⟨g45, 0, none⟩)), (57, .pointer (some ⟨g45, 0, none⟩))] [] E (by kernel_rfl) trivial ?_
 clear E; intro a E
 obtain ⟨r498, h499, hP⟩ := bind_inv hP
 obtain ⟨Fa500, Hc501, hb502⟩ := H.call [4, 6] [(5, false)] rfl rfl ⟨flat_plain, trivial⟩
 refine e_call E rfl rfl Try.func13 rfl rfl rfl (watch_Watch_State_calls g45 b46 0 A433 c434 x49.1 x436  Hc501 h499) ?_
 intro v508 w507 a hR509 E_
 obtain ⟨x_, hr_, rfl, HR511⟩ := hR509
 subst hr_
 replace E := E_ _ rfl; clear E_
 obtain ⟨H_, hc510⟩ := hb502 _ _ HR511 rfl
 replace H := H_; clear H_; try dsimp only [setn, addE, goneL] at H
 refine vr tbok 1 [] [(2, .pointer (some ⟨g17, 0, none⟩)), (5, .bool r22), (6, .pointer (some ⟨g45, 0, none⟩)), (58, .int .i64 r498), (59, .pointer (some ⟨g45, 0, none⟩))] [] E (by kernel_rfl) trivial ?_
 clear E; intro a E
 obtain ⟨r514, h515, hP⟩ := bind_inv hP
 obtain ⟨Fa516, Hc517, hb518⟩ := H.call [8, 7] [(5, false)] rfl rfl ⟨flat_plain, trivial⟩
 refine e_call E rfl rfl Try.func12 rfl rfl rfl (watch_Watch_Verdict_calls g45 b46 0 A433 c434 x49.1 x436  Hc517 h515) ?_
 intro v524 w523 a hR525 E_
 obtain ⟨x_, hr_, rfl, HR527⟩ := hR525
 subst hr_
 replace E := E_ _ rfl; clear E_
 obtain ⟨H_, hc526⟩ := hb518 _ _ HR527 rfl
 replace H := H_; clear H_; try dsimp only [setn, addE, goneL] at H
 refine vr tbok 1 [] [(2, .pointer (some ⟨g17, 0, none⟩)), (5, .bool r22), (6, .pointer (some ⟨g45, 0, none⟩)), (58, .int .i64 r498), (60, .int .u8 r514), (61, .pointer (some ⟨g45, 0, none⟩))] [] E (by kernel_rfl) trivial ?_
 clear E; intro a E
 obtain ⟨r530, h531, hP⟩ := bind_inv hP
 obtain ⟨Fa532, Hc533, hb534⟩ := H.call [10, 9] [(5, false)] rfl rfl ⟨flat_plain, trivial⟩
 refine e_call E rfl rfl Try.func14 rfl rfl rfl (watch_Watch_Len_calls g45 b46 0 A433 c434 x49.1 x436  Hc533 h531) ?_
 intro v540 w539 a hR541 E_
 obtain ⟨x_, hr_, rfl, HR543⟩ := hR541
 subst hr_
 replace E := E_ _ rfl; clear E_
 obtain ⟨H_, hc542⟩ := hb534 _ _ HR543 rfl
 replace H := H_; clear H_; try dsimp only [setn, addE, goneL] at H
 refine vr tbok 3 [] [(2, .pointer (some ⟨g17, 0, none⟩)), (5, .bool r22), (6, .pointer (some ⟨g45, 0, none⟩)), (9, .int .i64 r498), (10, .int .u8 r514), (11, .int .i64 r530)] [] E (by kernel_rfl) trivial ?_
 clear E; intro a E
 refine wpList_nil ?_
 refine th_n ?_
 refine wp_seq ?_
 refine wp_region_lit ?_
 refine vr tbok 1 [] [(2, .pointer (some ⟨g17, 0, none⟩)), (5, .bool r22), (6, .pointer (some ⟨g45, 0, none⟩)), (9, .int .i64 r498), (10, .int .u8 r514), (11, .int .i64 r530), (64, .pointer (some ⟨g45, 0, none⟩))] [] E (by kernel_rfl) trivial ?_
 clear E; intro a E
 obtain ⟨r546, h547, hP⟩ := bind_inv hP
 obtain ⟨Fa548, Hc549, hb550⟩ := H.call [12, 11] [(5, false)] rfl rfl ⟨flat_plain, trivial⟩
 refine e_call E rfl rfl Try.func11 rfl rfl rfl (watch_Watch_Off_calls g45 b46 0 A433 c434 x49.1 x436  Hc549 h547) ?_
 intro v556 w555 a hR557 E_
 obtain ⟨x_, hr_, rfl, HR559⟩ := hR557
 subst hr_
 replace E := E_ _ rfl; clear E_
 obtain ⟨H_, hc558⟩ := hb550 _ _ HR559 rfl
 replace H := H_; clear H_; try dsimp only [setn, addE, goneL] at H
 refine vr tbok 5 [] [(2, .pointer (some ⟨g17, 0, none⟩)), (5, .bool r22), (6, .pointer (some ⟨g45, 0, none⟩)), (9, .int .i64 r498), (10, .int .u8 r514), (11, .int .i64 r530), (12, .int .i64 r546.1), (13, .int .i64 r546.2)] [] E (by kernel_rfl) trivial ?_
 clear E; intro a E
 refine wpList_nil ?_
 refine th_n ?_
 refine wp_seq ?_
 refine wp_region_lit ?_
 refine vr tbok 1 [] [(2, .pointer (some ⟨g17, 0, none⟩)), (5, .bool r22), (6, .pointer (some ⟨g45, 0, none⟩)), (9, .int .i64 r498), (10, .int .u8 r514), (11, .int .i64 r530), (12, .int .i64 r546.1), (13, .int .i64 r546.2), (14, .bool false)] [] E (by kernel_rfl) trivial ?_
 clear E; intro a E
 refine wpList_nil ?_
 refine th_n ?_
 refine wp_seq ?_
 refine wp_seq ?_
 refine wp_region_lit ?_
 refine vr tbok 1 [] [(2, .pointer (some ⟨g17, 0, none⟩)), (5, .bool r22), (6, .pointer (some ⟨g45, 0, none⟩)), (9, .int .i64 r498), (10, .int .u8 r514), (11, .int .i64 r530), (12, .int .i64 r546.1), (13, .int .i64 r546.2), (14, .bool false), (15, .int .i64 0)] [] E (by kernel_rfl) trivial ?_
 clear E; intro a E
 refine wpList_nil ?_
 refine th_n ?_
 refine wp_block ?_
 obtain ⟨x776, hL777, hK778⟩ := bind_inv hP
 clear hP
 refine loop_cut (fun i_ a w_ => (i_ = 2 ∧ ∃ (x781 : Bool), Fr a 137 [(5, .bool r22), (12, .int .i64 r546.1), (13, .int .i64 r546.2), (14, .bool x781)] ∧ Hp S Fa w0 w_ [] ∧ x776 = Sum.inl x781)) ?_ ?_
 ·
  refine loopV (fun m780 a w779 => ∃ (w664 : List Int) (nearer667 : Bool) (l668 : Int), ∃ (A665 : Option Addr) (c666 : Nat), Fr a 137 [(2, .pointer (some ⟨g17, 0, none⟩)), (5, .bool r22), (6, .pointer (some ⟨g45, 0, none⟩)), (9, .int .i64 r498), (10, .int .u8 r514), (11, .int .i64 r530), (12, .int .i64 r546.1), (13, .int .i64 r546.2), (14, .bool nearer667), (15, .int .i64 l668)] ∧ Hp S Fa w0 w779 [.ro false cBool A1 aAccept, .ro false (cInt .i64) A5 aGuard, .ro false cNode A9 aNodes, .box g17 43 [.int .i64 aProps, .slice A1 (List.length aAccept) c2, .slice A5 (List.length aGuard) c6, .slice A9 (List.length aNodes) c10], .box g45 27 [.pointer (some ⟨b46, 0, none⟩), .slice A665 (List.length w664) c666], .ro true cS78 (some ⟨b46, 0, none⟩) ([x49.1]), .row true (cInt .i64) 3 A665 c666 w664] ∧ law21_WatchNear_l23 N aProps x49 r498 r514 r530 r546 m780 w664 nearer667 l668 = some x776) N ?_ ?_
  ·
   exact ⟨x436, false, 0, A433, c434, E.pick _ ⟨rfl, rfl, rfl, rfl, rfl, rfl, rfl, rfl, rfl, rfl, trivial⟩, H.sel [0, 1, 2, 3, 14, 5, 13] rfl, hL777⟩
  clear E H hL777; intro m780 a w779 hI_
  obtain ⟨w664, nearer667, l668, A665, c666, E, H, hP⟩ := hI_
  obtain ⟨m775, rfl⟩ : ∃ q_, m780 = q_ + 1 := by cases m780 with | zero => rw [law21_WatchNear_l23] at hP; cases hP | succ q_ => exact ⟨q_, rfl⟩
  rw [law21_WatchNear_l23] at hP
  refine wp_seq ?_
  refine wp_seq ?_
  refine wp_region_lit ?_
  obtain ⟨g782, hP⟩ := ask_inv hP
  refine vr tbok 5 [.int .i64 aProps, .int .i64 (shlV .i64 1 aProps)] [(2, .pointer (some ⟨g17, 0, none⟩)), (5, .bool r22), (6, .pointer (some ⟨g45, 0, none⟩)), (9, .int .i64 r498), (10, .int .u8 r514), (11, .int .i64 r530), (12, .int .i64 r546.1), (13, .int .i64 r546.2), (14, .bool nearer667), (15, .int .i64 l668), (72, .bool (decide (l668 < (shlV .i64 1 aProps))))] [World.cell? w779 ⟨g17, 0, none⟩ = some (.int .i64 aProps), 0 ≤ aProps ∧ IntKind.i64.wrap (1 * 2 ^ (min (Int.toNat aProps) (IntKind.bits .i64))) = shlV .i64 1 aProps] E (by kernel_rfl) ⟨(H.box 3 rfl).cell (j := 0) rfl, ⟨g782, rfl⟩⟩ ?_
  clear E; intro a E
  refine wpList_nil ?_
  refine th_n ?_
  refine E.cases (t := 72) rfl (fun hb_ E_ => ?_) (fun hb_ E_ => ?_)
  ·
   replace E := E_; clear E_
   have h783 : l668 < (shlV .i64 1 aProps) := of_decide_eq_true hb_
   clear hb_; replace hP := ite_t h783 hP
   refine c_true E rfl ?_
   refine wp_skip ?_
   refine th_n ?_
   refine wp_seq ?_
   refine wp_block ?_
   refine wp_seq ?_
   refine wp_region_lit ?_
   refine vr tbok 3 [.int .u8 (IntKind.u8.wrap l668)] [(2, .pointer (some ⟨g17, 0, none⟩)), (5, .bool r22), (6, .pointer (some ⟨g45, 0, none⟩)), (9, .int .i64 r498), (10, .int .u8 r514), (11, .int .i64 r530), (12, .int .i64 r546.1), (13, .int .i64 r546.2), (14, .bool nearer667), (15, .int .i64 l668), (76, .pointer (some ⟨g45, 0, none⟩)), (78, .int .u8 (IntKind.u8.wrap l668))] [IntKind.u8.wrap l668 = (IntKind.u8.wrap l668)] E (by kernel_rfl) (rfl) ?_
   clear E; intro a E
   obtain ⟨r784, h785, hP⟩ := bind_inv hP
   obtain ⟨Fa786, Hc787, hb788⟩ := H.call [4, 6] [(5, false)] rfl rfl ⟨flat_plain, trivial⟩
   refine e_call E rfl rfl Try.func9 rfl rfl rfl (watch_Watch_Feed_calls g45 b46 0 A665 c666 x49.1 w664 (IntKind.u8.wrap l668)  Hc787 h785) ?_
   intro v794 w793 a hR795 E_
   obtain ⟨x_, A798, c799, hr_, rfl, HR797⟩ := hR795
   subst hr_
   replace E := E_ _ rfl; clear E_
   obtain ⟨H_, hc796⟩ := hb788 _ _ HR797 rfl
   replace H := H_; clear H_; try dsimp only [setn, addE, goneL] at H
   refine vr tbok 5 [] [(2, .pointer (some ⟨g17, 0, none⟩)), (5, .bool r22), (6, .pointer (some ⟨g45, 0, none⟩)), (9, .int .i64 r498), (10, .int .u8 r514), (11, .int .i64 r530), (12, .int .i64 r546.1), (13, .int .i64 r546.2), (14, .bool nearer667), (15, .int .i64 l668), (17, .int .i64 r784.2.1)] [] E (by kernel_rfl) trivial ?_
   clear E; intro a E
   refine wpList_nil ?_
   refine th_n ?_
   refine wp_seq ?_
   refine wp_region_lit ?_
   refine vr tbok 1 [] [(2, .pointer (some ⟨g17, 0, none⟩)), (5, .bool r22), (6, .pointer (some ⟨g45, 0, none⟩)), (9, .int .i64 r498), (10, .int .u8 r514), (11, .int .i64 r530), (12, .int .i64 r546.1), (13, .int .i64 r546.2), (14, .bool nearer667), (15, .int .i64 l668), (17, .int .i64 r784.2.1), (83, .pointer (some ⟨g45, 0, none⟩))] [] E (by kernel_rfl) trivial ?_
   clear E; intro a E
   obtain ⟨r802, h803, hP⟩ := bind_inv hP
   obtain ⟨Fa804, Hc805, hb806⟩ := H.call [7, 8] [(5, false)] rfl rfl ⟨flat_plain, trivial⟩
   refine e_call E rfl rfl Try.func11 rfl rfl rfl (watch_Watch_Off_calls g45 b46 0 A798 c799 x49.1 r784.2.2  Hc805 h803) ?_
   intro v812 w811 a hR813 E_
   obtain ⟨x_, hr_, rfl, HR815⟩ := hR813
   subst hr_
   replace E := E_ _ rfl; clear E_
   obtain ⟨H_, hc814⟩ := hb806 _ _ HR815 rfl
   replace H := H_; clear H_; try dsimp only [setn, addE, goneL] at H
   refine vr tbok 5 [] [(2, .pointer (some ⟨g17, 0, none⟩)), (5, .bool r22), (6, .pointer (some ⟨g45, 0, none⟩)), (9, .int .i64 r498), (10, .int .u8 r514), (11, .int .i64 r530), (12, .int .i64 r546.1), (13, .int .i64 r546.2), (14, .bool nearer667), (15, .int .i64 l668), (17, .int .i64 r784.2.1), (18, .int .i64 r802.1), (19, .int .i64 r802.2)] [] E (by kernel_rfl) trivial ?_
   clear E; intro a E
   refine wpList_nil ?_
   refine th_n ?_
   refine wp_seq ?_
   obtain ⟨x824, h825, hK826⟩ := bind_inv hP
   clear hP
   refine meet_cut (fun a w828 => ∃ (x827 : Bool), Fr a 137 [(2, .pointer (some ⟨g17, 0, none⟩)), (5, .bool r22), (6, .pointer (some ⟨g45, 0, none⟩)), (9, .int .i64 r498), (10, .int .u8 r514), (11, .int .i64 r530), (12, .int .i64 r546.1), (13, .int .i64 r546.2), (14, .bool x827), (15, .int .i64 l668), (17, .int .i64 r784.2.1)] ∧ Hp S Fa w0 w828 [.ro false cBool A1 aAccept, .ro false (cInt .i64) A5 aGuard, .ro false cNode A9 aNodes, .box g17 43 [.int .i64 aProps, .slice A1 (List.length aAccept) c2, .slice A5 (List.length aGuard) c6, .slice A9 (List.length aNodes) c10], .ro true cS78 (some ⟨b46, 0, none⟩) ([x49.1]), .row true (cInt .i64) 3 A798 c799 r784.2.2, .box g45 27 [.pointer (some ⟨b46, 0, none⟩), .slice A798 (List.length r784.2.2) c799]] ∧ x824 = x827) ?_ ?_
   ·
    have hP := h825; clear h825; rw [law21_WatchNear_j24] at hP
    refine wp_region_lit ?_
    refine vr tbok 2 [] [(2, .pointer (some ⟨g17, 0, none⟩)), (5, .bool r22), (6, .pointer (some ⟨g45, 0, none⟩)), (9, .int .i64 r498), (10, .int .u8 r514), (11, .int .i64 r530), (12, .int .i64 r546.1), (13, .int .i64 r546.2), (15, .int .i64 l668), (17, .int .i64 r784.2.1), (18, .int .i64 r802.1), (19, .int .i64 r802.2), (88, .bool nearer667)] [] E (by kernel_rfl) trivial ?_
    clear E; intro a E
    refine E.cases (t := 88) rfl (fun hb_ E_ => ?_) (fun hb_ E_ => ?_)
    ·
     replace E := E_; clear E_
     have h829 : nearer667 = true := hb_
     clear hb_; replace hP := ite_t h829 hP
     refine vr tbok 10 [] [(2, .pointer (some ⟨g17, 0, none⟩)), (5, .bool r22), (6, .pointer (some ⟨g45, 0, none⟩)), (9, .int .i64 r498), (10, .int .u8 r514), (11, .int .i64 r530), (12, .int .i64 r546.1), (13, .int .i64 r546.2), (14, .bool true), (15, .int .i64 l668), (17, .int .i64 r784.2.1)] [] E (by kernel_rfl) trivial ?_
     clear E; intro a E
     refine wpList_nil ?_
     have hx_ := Option.some.inj hP
     exact .inl ⟨rfl, true, E.pick _ ⟨rfl, rfl, rfl, rfl, rfl, rfl, rfl, rfl, rfl, rfl, rfl, trivial⟩, H.sel [0, 1, 2, 3, 5, 9, 10] rfl, hx_.symm⟩
    replace E := E_; clear E_
    have h830 : ¬ (nearer667 = true) := (ne_true_of_eq_false hb_)
    clear hb_; replace hP := ite_f h830 hP
    refine vr tbok 3 [] [(2, .pointer (some ⟨g17, 0, none⟩)), (5, .bool r22), (6, .pointer (some ⟨g45, 0, none⟩)), (9, .int .i64 r498), (10, .int .u8 r514), (11, .int .i64 r530), (12, .int .i64 r546.1), (13, .int .i64 r546.2), (15, .int .i64 l668), (17, .int .i64 r784.2.1), (18, .int .i64 r802.1), (88, .bool false), (91, .bool ((r802.2 : Int) == 0))] [] E (by kernel_rfl) trivial ?_
    clear E; intro a E
    refine E.cases (t := 91) rfl (fun hb_ E_ => ?_) (fun hb_ E_ => ?_)
    ·
     replace E := E_; clear E_
     have h831 : (r802.2 : Int) = 0 := eq_of_beq hb_
     clear hb_; replace hP := ite_t h831 hP
     obtain ⟨g832, hP⟩ := ask_inv hP
     refine vr tbok 7 [.int .i64 (r546.1 - 1)] [(2, .pointer (some ⟨g17, 0, none⟩)), (5, .bool r22), (6, .pointer (some ⟨g45, 0, none⟩)), (9, .int .i64 r498), (10, .int .u8 r514), (11, .int .i64 r530), (12, .int .i64 r546.1), (13, .int .i64 r546.2), (14, .bool ((r802.1 : Int) == (r546.1 - 1))), (15, .int .i64 l668), (17, .int .i64 r784.2.1)] [IntKind.i64.wrap (r546.1 - 1) = r546.1 - 1] E (by kernel_rfl) (wrap_in g832) ?_
     clear E; intro a E
     refine wpList_nil ?_
     have hx_ := Option.some.inj hP
     exact .inl ⟨rfl, (r802.1 : Int) == (r546.1 - 1), E.pick _ ⟨rfl, rfl, rfl, rfl, rfl, rfl, rfl, rfl, rfl, rfl, rfl, trivial⟩, H.sel [0, 1, 2, 3, 5, 9, 10] rfl, hx_.symm⟩
    replace E := E_; clear E_
    have h833 : ¬ ((r802.2 : Int) = 0) := ne_of_beq_false hb_
    clear hb_; replace hP := ite_f h833 hP
    refine vr tbok 7 [] [(2, .pointer (some ⟨g17, 0, none⟩)), (5, .bool r22), (6, .pointer (some ⟨g45, 0, none⟩)), (9, .int .i64 r498), (10, .int .u8 r514), (11, .int .i64 r530), (12, .int .i64 r546.1), (13, .int .i64 r546.2), (14, .bool false), (15, .int .i64 l668), (17, .int .i64 r784.2.1)] [] E (by kernel_rfl) trivial ?_
    clear E; intro a E
    refine wpList_nil ?_
    have hx_ := Option.some.inj hP
    exact .inl ⟨rfl, false, E.pick _ ⟨rfl, rfl, rfl, rfl, rfl, rfl, rfl, rfl, rfl, rfl, rfl, trivial⟩, H.sel [0, 1, 2, 3, 5, 9, 10] rfl, hx_.symm⟩
   clear E H h825; rintro a w828 ⟨x827, E, H, hx_⟩
   subst hx_; have hP := hK826; clear hK826
   refine th_n ?_
   refine wp_seq ?_
   refine wp_region_lit ?_
   refine vr tbok 1 [] [(2, .pointer (some ⟨g17, 0, none⟩)), (5, .bool r22), (6, .pointer (some ⟨g45, 0, none⟩)), (9, .int .i64 r498), (10, .int .u8 r514), (11, .int .i64 r530), (12, .int .i64 r546.1), (13, .int .i64 r546.2), (14, .bool x824), (15, .int .i64 l668), (17, .int .i64 r784.2.1), (99, .pointer (some ⟨g45, 0, none⟩))] [] E (by kernel_rfl) trivial ?_
   clear E; intro a E
   obtain ⟨r834, h835, hP⟩ := bind_inv hP
   obtain ⟨Fa836, Hc837, hb838⟩ := H.call [6, 5] [(4, false)] rfl rfl ⟨flat_plain, trivial⟩
   refine e_call E rfl rfl Try.func10 rfl rfl rfl (watch_Watch_Back_calls g45 b46 0 A798 c799 x49.1 r784.2.2  Hc837 h835) ?_
   intro v844 w843 a hR845 E_
   obtain ⟨x_, A848, c849, hr_, rfl, HR847⟩ := hR845
   subst hr_
   replace E := E_ _ rfl; clear E_
   obtain ⟨H_, hc846⟩ := hb838 _ _ HR847 rfl
   replace H := H_; clear H_; try dsimp only [setn, addE, goneL] at H
   refine vr tbok 5 [] [(2, .pointer (some ⟨g17, 0, none⟩)), (5, .bool r22), (6, .pointer (some ⟨g45, 0, none⟩)), (9, .int .i64 r498), (10, .int .u8 r514), (11, .int .i64 r530), (12, .int .i64 r546.1), (13, .int .i64 r546.2), (14, .bool x824), (15, .int .i64 l668), (17, .int .i64 r784.2.1), (20, .int .u8 r834.1), (21, .int .i64 r834.2.1)] [] E (by kernel_rfl) trivial ?_
   clear E; intro a E
   refine wpList_nil ?_
   refine th_n ?_
   refine wp_seq ?_
   obtain ⟨x893, h894, hK895⟩ := bind_inv hP
   clear hP
   refine meet_cut (fun a w897 => ∃ (x896 : Bool), Fr a 137 [(2, .pointer (some ⟨g17, 0, none⟩)), (5, .bool r22), (6, .pointer (some ⟨g45, 0, none⟩)), (9, .int .i64 r498), (10, .int .u8 r514), (11, .int .i64 r530), (12, .int .i64 r546.1), (13, .int .i64 r546.2), (14, .bool x824), (15, .int .i64 l668), (125, .bool x896)] ∧ Hp S Fa w0 w897 [.ro false cBool A1 aAccept, .ro false (cInt .i64) A5 aGuard, .ro false cNode A9 aNodes, .box g17 43 [.int .i64 aProps, .slice A1 (List.length aAccept) c2, .slice A5 (List.length aGuard) c6, .slice A9 (List.length aNodes) c10], .ro true cS78 (some ⟨b46, 0, none⟩) ([x49.1]), .row true (cInt .i64) 3 A848 c849 r834.2.2, .box g45 27 [.pointer (some ⟨b46, 0, none⟩), .slice A848 (List.length r834.2.2) c849]] ∧ x893 = x896) ?_ ?_
   ·
    have hP := h894; clear h894; rw [law21_WatchNear_j25] at hP
    refine wp_region_lit ?_
    refine vr tbok 3 [] [(2, .pointer (some ⟨g17, 0, none⟩)), (5, .bool r22), (6, .pointer (some ⟨g45, 0, none⟩)), (9, .int .i64 r498), (10, .int .u8 r514), (11, .int .i64 r530), (12, .int .i64 r546.1), (13, .int .i64 r546.2), (14, .bool x824), (15, .int .i64 l668), (20, .int .u8 r834.1), (21, .int .i64 r834.2.1), (105, .bool ((r784.2.1 : Int) != 0))] [] E (by kernel_rfl) trivial ?_
    clear E; intro a E
    refine E.cases (t := 105) rfl (fun hb_ E_ => ?_) (fun hb_ E_ => ?_)
    ·
     replace E := E_; clear E_
     have h898 : ¬ ((r784.2.1 : Int) = 0) := bne_iff_ne.1 hb_
     clear hb_; replace hP := ite_f h898 hP
     refine vr tbok 20 [] [(2, .pointer (some ⟨g17, 0, none⟩)), (5, .bool r22), (6, .pointer (some ⟨g45, 0, none⟩)), (9, .int .i64 r498), (10, .int .u8 r514), (11, .int .i64 r530), (12, .int .i64 r546.1), (13, .int .i64 r546.2), (14, .bool x824), (15, .int .i64 l668), (125, .bool true)] [] E (by kernel_rfl) trivial ?_
     clear E; intro a E
     refine wpList_nil ?_
     have hx_ := Option.some.inj hP
     exact .inl ⟨rfl, true, E.pick _ ⟨rfl, rfl, rfl, rfl, rfl, rfl, rfl, rfl, rfl, rfl, rfl, trivial⟩, H.sel [0, 1, 2, 3, 4, 8, 7] rfl, hx_.symm⟩
    replace E := E_; clear E_
    have h899 : (r784.2.1 : Int) = 0 := bne_eq_false_iff_eq.1 hb_
    clear hb_; replace hP := ite_t h899 hP
    refine vr tbok 4 [] [(2, .pointer (some ⟨g17, 0, none⟩)), (5, .bool r22), (6, .pointer (some ⟨g45, 0, none⟩)), (9, .int .i64 r498), (10, .int .u8 r514), (11, .int .i64 r530), (12, .int .i64 r546.1), (13, .int .i64 r546.2), (14, .bool x824), (15, .int .i64 l668), (20, .int .u8 r834.1), (109, .bool ((r834.2.1 : Int) != 0))] [] E (by kernel_rfl) trivial ?_
    clear E; intro a E
    refine E.cases (t := 109) rfl (fun hb_ E_ => ?_) (fun hb_ E_ => ?_)
    ·
     replace E := E_; clear E_
     have h900 : ¬ ((r834.2.1 : Int) = 0) := bne_iff_ne.1 hb_
     clear hb_; replace hP := ite_f h900 hP
     refine vr tbok 16 [] [(2, .pointer (some ⟨g17, 0, none⟩)), (5, .bool r22), (6, .pointer (some ⟨g45, 0, none⟩)), (9, .int .i64 r498), (10, .int .u8 r514), (11, .int .i64 r530), (12, .int .i64 r546.1), (13, .int .i64 r546.2), (14, .bool x824), (15, .int .i64 l668), (125, .bool true)] [] E (by kernel_rfl) trivial ?_
     clear E; intro a E
     refine wpList_nil ?_
     have hx_ := Option.some.inj hP
     exact .inl ⟨rfl, true, E.pick _ ⟨rfl, rfl, rfl, rfl, rfl, rfl, rfl, rfl, rfl, rfl, rfl, trivial⟩, H.sel [0, 1, 2, 3, 4, 8, 7] rfl, hx_.symm⟩
    replace E := E_; clear E_
    have h901 : (r834.2.1 : Int) = 0 := bne_eq_false_iff_eq.1 hb_
    clear hb_; replace hP := ite_t h901 hP
    refine vr tbok 5 [] [(2, .pointer (some ⟨g17, 0, none⟩)), (5, .bool r22), (6, .pointer (some ⟨g45, 0, none⟩)), (9, .int .i64 r498), (10, .int .u8 r514), (11, .int .i64 r530), (12, .int .i64 r546.1), (13, .int .i64 r546.2), (14, .bool x824), (15, .int .i64 l668), (114, .bool ((r834.1 : Int) != r514))] [] E (by kernel_rfl) trivial ?_
    clear E; intro a E
    refine E.cases (t := 114) rfl (fun hb_ E_ => ?_) (fun hb_ E_ => ?_)
    ·
     replace E := E_; clear E_
     have h902 : ¬ ((r834.1 : Int) = r514) := bne_iff_ne.1 hb_
     clear hb_; replace hP := ite_f h902 hP
     refine vr tbok 11 [] [(2, .pointer (some ⟨g17, 0, none⟩)), (5, .bool r22), (6, .pointer (some ⟨g45, 0, none⟩)), (9, .int .i64 r498), (10, .int .u8 r514), (11, .int .i64 r530), (12, .int .i64 r546.1), (13, .int .i64 r546.2), (14, .bool x824), (15, .int .i64 l668), (125, .bool true)] [] E (by kernel_rfl) trivial ?_
     clear E; intro a E
     refine wpList_nil ?_
     have hx_ := Option.some.inj hP
     exact .inl ⟨rfl, true, E.pick _ ⟨rfl, rfl, rfl, rfl, rfl, rfl, rfl, rfl, rfl, rfl, rfl, trivial⟩, H.sel [0, 1, 2, 3, 4, 8, 7] rfl, hx_.symm⟩
    replace E := E_; clear E_
    have h903 : (r834.1 : Int) = r514 := bne_eq_false_iff_eq.1 hb_
    clear hb_; replace hP := ite_t h903 hP
    refine vr tbok 1 [] [(2, .pointer (some ⟨g17, 0, none⟩)), (5, .bool r22), (6, .pointer (some ⟨g45, 0, none⟩)), (9, .int .i64 r498), (10, .int .u8 r514), (11, .int .i64 r530), (12, .int .i64 r546.1), (13, .int .i64 r546.2), (14, .bool x824), (15, .int .i64 l668), (114, .bool false), (115, .pointer (some ⟨g45, 0, none⟩))] [] E (by kernel_rfl) trivial ?_
    clear E; intro a E
    obtain ⟨r904, h905, hP⟩ := bind_inv hP
    obtain ⟨Fa906, Hc907, hb908⟩ := H.call [7, 8] [(4, false)] rfl rfl ⟨flat_plain, trivial⟩
    refine e_call E rfl rfl Try.func13 rfl rfl rfl (watch_Watch_State_calls g45 b46 0 A848 c849 x49.1 r834.2.2  Hc907 h905) ?_
    intro v914 w913 a hR915 E_
    obtain ⟨x_, hr_, rfl, HR917⟩ := hR915
    subst hr_
    replace E := E_ _ rfl; clear E_
    obtain ⟨H_, hc916⟩ := hb908 _ _ HR917 rfl
    replace H := H_; clear H_; try dsimp only [setn, addE, goneL] at H
    refine vr tbok 4 [] [(2, .pointer (some ⟨g17, 0, none⟩)), (5, .bool r22), (6, .pointer (some ⟨g45, 0, none⟩)), (9, .int .i64 r498), (10, .int .u8 r514), (11, .int .i64 r530), (12, .int .i64 r546.1), (13, .int .i64 r546.2), (14, .bool x824), (15, .int .i64 l668), (120, .bool ((r904 : Int) != r498))] [] E (by kernel_rfl) trivial ?_
    clear E; intro a E
    refine E.cases (t := 120) rfl (fun hb_ E_ => ?_) (fun hb_ E_ => ?_)
    ·
     replace E := E_; clear E_
     have h920 : ¬ ((r904 : Int) = r498) := bne_iff_ne.1 hb_
     clear hb_; replace hP := ite_f h920 hP
     refine vr tbok 5 [] [(2, .pointer (some ⟨g17, 0, none⟩)), (5, .bool r22), (6, .pointer (some ⟨g45, 0, none⟩)), (9, .int .i64 r498), (10, .int .u8 r514), (11, .int .i64 r530), (12, .int .i64 r546.1), (13, .int .i64 r546.2), (14, .bool x824), (15, .int .i64 l668), (125, .bool true)] [] E (by kernel_rfl) trivial ?_
     clear E; intro a E
     refine wpList_nil ?_
     have hx_ := Option.some.inj hP
     exact .inl ⟨rfl, true, E.pick _ ⟨rfl, rfl, rfl, rfl, rfl, rfl, rfl, rfl, rfl, rfl, rfl, trivial⟩, H.sel [0, 1, 2, 3, 4, 9, 10] rfl, hx_.symm⟩
    replace E := E_; clear E_
    have h921 : (r904 : Int) = r498 := bne_eq_false_iff_eq.1 hb_
    clear hb_; replace hP := ite_t h921 hP
    refine vr tbok 1 [] [(2, .pointer (some ⟨g17, 0, none⟩)), (5, .bool r22), (6, .pointer (some ⟨g45, 0, none⟩)), (9, .int .i64 r498), (10, .int .u8 r514), (11, .int .i64 r530), (12, .int .i64 r546.1), (13, .int .i64 r546.2), (14, .bool x824), (15, .int .i64 l668), (120, .bool false), (121, .pointer (some ⟨g45, 0, none⟩))] [] E (by kernel_rfl) trivial ?_
    clear E; intro a E
    obtain ⟨r922, h923, hP⟩ := bind_inv hP
    obtain ⟨Fa924, Hc925, hb926⟩ := H.call [10, 9] [(4, false)] rfl rfl ⟨flat_plain, trivial⟩
    refine e_call E rfl rfl Try.func14 rfl rfl rfl (watch_Watch_Len_calls g45 b46 0 A848 c849 x49.1 r834.2.2  Hc925 h923) ?_
    intro v932 w931 a hR933 E_
    obtain ⟨x_, hr_, rfl, HR935⟩ := hR933
    subst hr_
    replace E := E_ _ rfl; clear E_
    obtain ⟨H_, hc934⟩ := hb926 _ _ HR935 rfl
    replace H := H_; clear H_; try dsimp only [setn, addE, goneL] at H
    refine vr tbok 3 [] [(2, .pointer (some ⟨g17, 0, none⟩)), (5, .bool r22), (6, .pointer (some ⟨g45, 0, none⟩)), (9, .int .i64 r498), (10, .int .u8 r514), (11, .int .i64 r530), (12, .int .i64 r546.1), (13, .int .i64 r546.2), (14, .bool x824), (15, .int .i64 l668), (125, .bool ((r922 : Int) != r530))] [] E (by kernel_rfl) trivial ?_
    clear E; intro a E
    refine wpList_nil ?_
    have hx_ := Option.some.inj hP
    exact .inl ⟨rfl, (r922 : Int) != r530, E.pick _ ⟨rfl, rfl, rfl, rfl, rfl, rfl, rfl, rfl, rfl, rfl, rfl, trivial⟩, H.sel [0, 1, 2, 3, 4, 11, 12] rfl, hx_.symm⟩
   clear E H h894; rintro a w897 ⟨x896, E, H, hx_⟩
   subst hx_; have hP := hK895; clear hK895
   refine th_n ?_
   refine E.cases (t := 125) rfl (fun hb_ E_ => ?_) (fun hb_ E_ => ?_)
   ·
    replace E := E_; clear E_
    have h938 : x893 = true := hb_
    clear hb_; replace hP := ite_t h938 hP
    refine c_true E rfl ?_
    refine wp_seq ?_
    refine wp_region_lit ?_
    refine vr tbok 1 [] [(4, .bool false)] [] E (by kernel_rfl) trivial ?_
    clear E; intro a E
    refine wpList_nil ?_
    refine th_n ?_
    refine wp_ret ?_
    refine bl_ret ?_
    refine th_ret ?_
    refine th_ret ?_
    refine .inr ⟨rfl, ?_⟩
    refine bl_ret ?_
    refine th_ret ?_
    have hx_ := Option.some.inj hP; subst hx_
    have hP : some (false) = some r := hK778
    obtain rfl := Option.some.inj hP
    refine ret1 E rfl rfl ?_
    exact ⟨_, rfl, rfl, H.sel [] rfl⟩
   replace E := E_; clear E_
   have h939 : ¬ (x893 = true) := (ne_true_of_eq_false hb_)
   clear hb_; replace hP := ite_f h939 hP
   refine c_false E rfl ?_
   refine wp_skip ?_
   refine bl_n ?_
   refine th_n ?_
   refine wp_region_lit ?_
   obtain ⟨g940, hP⟩ := ask_inv hP
   refine vr tbok 3 [.int .i64 (l668 + 1)] [(2, .pointer (some ⟨g17, 0, none⟩)), (5, .bool r22), (6, .pointer (some ⟨g45, 0, none⟩)), (9, .int .i64 r498), (10, .int .u8 r514), (11, .int .i64 r530), (12, .int .i64 r546.1), (13, .int .i64 r546.2), (14, .bool x824), (15, .int .i64 (l668 + 1))] [IntKind.i64.wrap (l668 + 1) = l668 + 1] E (by kernel_rfl) (wrap_in g940) ?_
   clear E; intro a E
   refine wpList_nil ?_
   exact th_n ⟨m775, Nat.lt_succ_self _, r834.2.2, x824, l668 + 1, A848, c849, E.pick _ ⟨rfl, rfl, rfl, rfl, rfl, rfl, rfl, rfl, rfl, rfl, trivial⟩, H.sel [0, 1, 2, 3, 6, 4, 5] rfl, hP⟩
  replace E := E_; clear E_
  have h941 : ¬ (l668 < (shlV .i64 1 aProps)) := of_decide_eq_false hb_
  clear hb_; replace hP := ite_f h941 hP
  refine c_false E rfl ?_
  refine wp_exit ?_
  refine th_exit ?_
  have hx_ := Option.some.inj hP
  refine th_exit (.inl ⟨2, rfl, ?_⟩)
  exact ⟨rfl, nearer667, E.pick _ ⟨rfl, rfl, rfl, rfl, trivial⟩, H.sel [] rfl, hx_.symm⟩
 clear E H hL777; intro i_ a w779 hM_
 obtain ⟨rfl, x781, E, H, hx_⟩ := hM_
 subst hx_; have hP := elim_l hK778
 clear hK778
 refine bl_hit ?_
 refine th_n ?_
 refine wp_seq ?_
 refine wp_seq ?_
 obtain ⟨x948, h949, hK950⟩ := bind_inv hP
 clear hP
 refine meet_cut (fun a w952 => ∃ (x951 : Bool), Fr a 137 [(5, .bool r22), (135, .bool x951)] ∧ Hp S Fa w0 w952 [] ∧ x948 = x951) ?_ ?_
 ·
  have hP := h949; clear h949; rw [law21_WatchNear_j26] at hP
  refine wp_region_lit ?_
  refine vr tbok 3 [] [(5, .bool r22), (12, .int .i64 r546.1), (14, .bool x781), (128, .bool ((r546.2 : Int) == 0))] [] E (by kernel_rfl) trivial ?_
  clear E; intro a E
  refine E.cases (t := 128) rfl (fun hb_ E_ => ?_) (fun hb_ E_ => ?_)
  ·
   replace E := E_; clear E_
   have h953 : (r546.2 : Int) = 0 := eq_of_beq hb_
   clear hb_; replace hP := ite_t h953 hP
   refine vr tbok 4 [] [(5, .bool r22), (14, .bool x781), (132, .bool (decide (0 < r546.1)))] [] E (by kernel_rfl) trivial ?_
   clear E; intro a E
   refine E.cases (t := 132) rfl (fun hb_ E_ => ?_) (fun hb_ E_ => ?_)
   ·
    replace E := E_; clear E_
    have h954 : 0 < r546.1 := of_decide_eq_true hb_
    clear hb_; replace hP := ite_t h954 hP
    refine vr tbok 3 [] [(5, .bool r22), (135, .bool (!x781))] [] E (by kernel_rfl) trivial ?_
    clear E; intro a E
    refine wpList_nil ?_
    have hx_ := Option.some.inj hP
    exact .inl ⟨rfl, !x781, E.pick _ ⟨rfl, rfl, trivial⟩, H.sel [] rfl, hx_.symm⟩
   replace E := E_; clear E_
   have h955 : ¬ (0 < r546.1) := of_decide_eq_false hb_
   clear hb_; replace hP := ite_f h955 hP
   refine vr tbok 3 [] [(5, .bool r22), (135, .bool false)] [] E (by kernel_rfl) trivial ?_
   clear E; intro a E
   refine wpList_nil ?_
   have hx_ := Option.some.inj hP
   exact .inl ⟨rfl, false, E.pick _ ⟨rfl, rfl, trivial⟩, H.sel [] rfl, hx_.symm⟩
  replace E := E_; clear E_
  have h956 : ¬ ((r546.2 : Int) = 0) := ne_of_beq_false hb_
  clear hb_; replace hP := ite_f h956 hP
  refine vr tbok 7 [] [(5, .bool r22), (135, .bool false)] [] E (by kernel_rfl) trivial ?_
  clear E; intro a E
  refine wpList_nil ?_
  have hx_ := Option.some.inj hP
  exact .inl ⟨rfl, false, E.pick _ ⟨rfl, rfl, trivial⟩, H.sel [] rfl, hx_.symm⟩
 clear E H h949; rintro a w952 ⟨x951, E, H, hx_⟩
 subst hx_; have hP := hK950; clear hK950
 refine th_n ?_
 refine E.cases (t := 135) rfl (fun hb_ E_ => ?_) (fun hb_ E_ => ?_)
 ·
  replace E := E_; clear E_
  have h957 : x948 = true := hb_
  clear hb_; replace hP := ite_t h957 hP
  refine c_true E rfl ?_
  refine wp_seq ?_
  refine wp_region_lit ?_
  refine vr tbok 1 [] [(4, .bool false)] [] E (by kernel_rfl) trivial ?_
  clear E; intro a E
  refine wpList_nil ?_
  refine th_n ?_
  refine wp_ret ?_
  refine th_ret ?_
  obtain rfl := Option.some.inj hP
  refine ret1 E rfl rfl ?_
  exact ⟨_, rfl, rfl, H.sel [] rfl⟩
 replace E := E_; clear E_
 have h958 : ¬ (x948 = true) := (ne_true_of_eq_false hb_)
 clear hb_; replace hP := ite_f h958 hP
 refine c_false E rfl ?_
 refine wp_skip ?_
 refine th_n ?_
 refine wp_seq ?_
 refine wp_region_lit ?_
 refine vr tbok 2 [] [(4, .bool r22)] [] E (by kernel_rfl) trivial ?_
 clear E; intro a E
 refine wpList_nil ?_
 refine th_n ?_
 refine wp_ret ?_
 obtain rfl := Option.some.inj hP
 refine ret1 E rfl rfl ?_
 exact ⟨_, rfl, rfl, H.sel [] rfl⟩

end Go.V
