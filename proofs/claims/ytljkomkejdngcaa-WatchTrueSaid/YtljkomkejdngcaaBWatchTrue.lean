/- Plain functions, and the calls that give them. -/
import Derived.Test.YtljkomkejdngcaaA5
set_option linter.all false
set_option linter.unusedVariables false
set_option linter.unnecessarySimpa false
set_option linter.unusedSimpArgs false
namespace Go.V
open Go Go.Proofs
/-! rejoinder/rejoinderlaw21.WatchTrue -/
def law21_WatchTrue_j0 (N : Nat) (aProps : Int) (aAccept : List Bool) (aGuard : List Int) (aNodes : List Nd) (x48 : Int) : Option Bool :=
    Option.bind (law16_Small N aProps aAccept aGuard aNodes) fun r67 =>
    if r67 = true then
      some ((x48 : Int) != 0)
    else
      some true
def law21_WatchTrue_f2 (N : Nat) : Option Unit :=
    some ()
def law21_WatchTrue_f1 (N : Nat) : Option Unit :=
    Option.bind (law21_WatchTrue_f2 N) fun x85 =>
    some ()
def law21_WatchTrue_f4 (N : Nat) : Option Unit :=
    some ()
def law21_WatchTrue_f3 (N : Nat) : Option Unit :=
    Option.bind (law21_WatchTrue_f4 N) fun x97 =>
    some ()
def law21_WatchTrue_j6 (N : Nat) (t : List Int) : Option Bool :=
    if 0 < (((List.length t) : Nat) : Int) then
      some true
    else
      some false
def law21_WatchTrue_f8 (N : Nat) : Option Unit :=
    some ()
def law21_WatchTrue_f7 (N : Nat) : Option Unit :=
    Option.bind (law21_WatchTrue_f8 N) fun x231 =>
    some ()
def law21_WatchTrue_f10 (N : Nat) : Option Unit :=
    some ()
def law21_WatchTrue_f9 (N : Nat) : Option Unit :=
    Option.bind (law21_WatchTrue_f10 N) fun x252 =>
    some ()
def law21_WatchTrue_l5 (N : Nat) (aProps : Int) (aAccept : List Bool) (aGuard : List Int) (aNodes : List Nd) (t : List Int) : Nat → Option (Unit ⊕ Bool)
  | 0 => none
  | m188 + 1 =>
    Option.bind (law21_WatchTrue_j6 N t) fun x198 =>
    if x198 = true then
      ask (idx (0 : Int) (List.length t)) <|
      ask (0 ≤ aProps) <|
      ask (List.length ([] : List Int) + List.length ([andV .u8 (List.getD t (Int.toNat (0 : Int)) 0) (IntKind.u8.wrap ((shlV .u8 1 aProps) - 1))] : List Int) ≤ 1000000000) <|
      Option.bind (law21_WatchTrue_f7 N) fun x228 =>
      Option.bind (canon_Run N aProps aAccept aGuard aNodes (([] : List Int) ++ ([andV .u8 (List.getD t (Int.toNat (0 : Int)) 0) (IntKind.u8.wrap ((shlV .u8 1 aProps) - 1))] : List Int))) fun r238 =>
      Option.bind (law21_WatchTrue_f9 N) fun x249 =>
      some (Sum.inr false)
    else
      some (Sum.inl ())
def law21_WatchTrue_f13 (N : Nat) : Option Unit :=
    some ()
def law21_WatchTrue_f12 (N : Nat) : Option Unit :=
    Option.bind (law21_WatchTrue_f13 N) fun x279 =>
    some ()
def law21_WatchTrue_j11 (N : Nat) (r22 : Bool) : Option Bool :=
    if r22 = true then
      Option.bind (law21_WatchTrue_f12 N) fun x276 =>
      some true
    else
      some false
def law21_WatchTrue_j14 (N : Nat) (aProps : Int) (aAccept : List Bool) (aGuard : List Int) (aNodes : List Nd) (x49 : ((Int × (List Bool) × (List Int) × (List Nd)) × (List Int) × (List Int)) × Int) : Option Bool :=
    Option.bind (law16_Small N aProps aAccept aGuard aNodes) fun r306 =>
    if r306 = true then
      some ((x49.2 : Int) != 0)
    else
      some true
def law21_WatchTrue_j16 (N : Nat) (t : List Int) (i525 : Int) : Option Bool :=
    if i525 < (((List.length t) : Nat) : Int) then
      some (decide (i525 < 60))
    else
      some false
def law21_WatchTrue_j17 (N : Nat) (aAccept : List Bool) (x49 : ((Int × (List Bool) × (List Int) × (List Nd)) × (List Int) × (List Int)) × Int) (r735 : Int × Int × (List Int)) (r753 : Int × Int) : Option Bool :=
    if (r735.2.1 : Int) = 0 then
      if (r753.2 : Int) = 0 then
        if r753.1 < 0 then
          some true
        else
          if (((List.length aAccept) : Nat) : Int) ≤ r753.1 then
            some true
          else
            Option.bind (watch_Watch_State N x49.1 r735.2.2) fun r834 =>
            if (r834 : Int) = r753.1 then
              Option.bind (watch_Watch_Verdict N x49.1 r735.2.2) fun r852 =>
              some ((r852 : Int) != r735.1)
            else
              some true
      else
        some true
    else
      some true
def law21_WatchTrue_j18 (N : Nat) (aAccept : List Bool) (last518 : Int) (r735 : Int × Int × (List Int)) (r753 : Int × Int) : Option Bool :=
    ask (idx r753.1 (List.length aAccept)) <|
    if (r735.1 : Int) = 1 then
      if (List.getD aAccept (Int.toNat r753.1) false) = true then
        if (last518 : Int) = 3 then
          if (r735.1 : Int) = 3 then
            if (last518 : Int) = 2 then
              some ((r735.1 : Int) != 2)
            else
              some false
          else
            some true
        else
          if (last518 : Int) = 2 then
            some ((r735.1 : Int) != 2)
          else
            some false
      else
        some true
    else
      if (List.getD aAccept (Int.toNat r753.1) false) = ((r735.1 : Int) == 3) then
        if (last518 : Int) = 3 then
          if (r735.1 : Int) = 3 then
            if (last518 : Int) = 2 then
              some ((r735.1 : Int) != 2)
            else
              some false
          else
            some true
        else
          if (last518 : Int) = 2 then
            some ((r735.1 : Int) != 2)
          else
            some false
      else
        some true
def law21_WatchTrue_j19 (N : Nat) (aAccept : List Bool) (off519 : Int) (f520 : Int) (r735 : Int × Int × (List Int)) (r753 : Int × Int) (r762 : Int × Int) : Option Bool :=
    if ((r762.2 : Int) == 6) = ((r735.1 : Int) == 2) then
      if (r762.2 : Int) = 0 then
        ask (idx r753.1 (List.length aAccept)) <|
        if ((r762.1 : Int) == 0) = (List.getD aAccept (Int.toNat r753.1) false) then
          if (f520 : Int) = 0 then
            if (r762.2 : Int) = 0 then
              ask (in64 (off519 - 1)) <|
              some (decide (r762.1 < (off519 - 1)))
            else
              some false
          else
            some false
        else
          some true
      else
        if (f520 : Int) = 0 then
          if (r762.2 : Int) = 0 then
            ask (in64 (off519 - 1)) <|
            some (decide (r762.1 < (off519 - 1)))
          else
            some false
        else
          some false
    else
      some true
def law21_WatchTrue_l15 (N : Nat) (aProps : Int) (aAccept : List Bool) (aGuard : List Int) (aNodes : List Nd) (t : List Int) (x49 : ((Int × (List Bool) × (List Int) × (List Nd)) × (List Int) × (List Int)) × Int) : Nat → (List Int) → Int → Int → Int → (List Int) → Int → Option (((List Int) × (List Int)) ⊕ Bool)
  | 0, _, _, _, _, _, _ => none
  | m697 + 1, w515, last518, off519, f520, few522, i525 =>
    Option.bind (law21_WatchTrue_j16 N t i525) fun x708 =>
    if x708 = true then
      ask (idx i525 (List.length t)) <|
      ask (0 ≤ aProps) <|
      ask (List.length few522 + List.length ([andV .u8 (List.getD t (Int.toNat i525) 0) (IntKind.u8.wrap ((shlV .u8 1 aProps) - 1))] : List Int) ≤ 1000000000) <|
      Option.bind (watch_Watch_Feed N x49.1 w515 (andV .u8 (List.getD t (Int.toNat i525) 0) (IntKind.u8.wrap ((shlV .u8 1 aProps) - 1)))) fun r735 =>
      Option.bind (canon_Run N aProps aAccept aGuard aNodes (few522 ++ ([andV .u8 (List.getD t (Int.toNat i525) 0) (IntKind.u8.wrap ((shlV .u8 1 aProps) - 1))] : List Int))) fun r753 =>
      Option.bind (watch_Watch_Off N x49.1 r735.2.2) fun r762 =>
      Option.bind (law21_WatchTrue_j17 N aAccept x49 r735 r753) fun x821 =>
      if x821 = true then
        some (Sum.inr false)
      else
        Option.bind (law21_WatchTrue_j18 N aAccept last518 r735 r753) fun x896 =>
        if x896 = true then
          some (Sum.inr false)
        else
          Option.bind (law21_WatchTrue_j19 N aAccept off519 f520 r735 r753 r762) fun x948 =>
          if x948 = true then
            some (Sum.inr false)
          else
            ask (in64 (i525 + 1)) <|
            law21_WatchTrue_l15 N aProps aAccept aGuard aNodes t x49 m697 r735.2.2 r735.1 r762.1 r762.2 (few522 ++ ([andV .u8 (List.getD t (Int.toNat i525) 0) (IntKind.u8.wrap ((shlV .u8 1 aProps) - 1))] : List Int)) (i525 + 1)
    else
      some (Sum.inl (w515, few522))
def law21_WatchTrue_j20 (N : Nat) (r22 : Bool) (x49 : ((Int × (List Bool) × (List Int) × (List Nd)) × (List Int) × (List Int)) × Int) (x704 : (List Int) × (List Int)) : Option Bool :=
    if r22 = true then
      Option.bind (watch_Watch_Len N x49.1 x704.1) fun r1002 =>
      some ((r1002 : Int) == (((List.length x704.2) : Nat) : Int))
    else
      some false
def law21_WatchTrue (N : Nat) (aProps : Int) (aAccept : List Bool) (aGuard : List Int) (aNodes : List Nd) (t : List Int) : Option Bool :=
  Option.bind (law21_awake N) fun r22 =>
  Option.bind (watch_New N aProps aAccept aGuard aNodes) fun r31 =>
  Sum.elim (fun x48 =>
    Option.bind (law21_WatchTrue_j0 N aProps aAccept aGuard aNodes x48) fun x62 =>
    if x62 = true then
      some r22
    else
      Option.bind (law21_WatchTrue_f1 N) fun x82 =>
      Option.bind (law21_WatchTrue_f3 N) fun x94 =>
      Option.bind (law21_WatchTrue_l5 N aProps aAccept aGuard aNodes t N ) fun x189 =>
      Sum.elim (fun x194 =>
        Option.bind (law21_WatchTrue_j11 N r22) fun x268 =>
        some x268)
       (fun x260 =>
        some x260) x189)
   (fun x49 =>
    Option.bind (law21_WatchTrue_j14 N aProps aAccept aGuard aNodes x49) fun x301 =>
    if x301 = true then
      some r22
    else
      Option.bind (watch_Watch_Verdict N x49.1 []) fun r320 =>
      Option.bind (watch_Watch_Off N x49.1 []) fun r336 =>
      Option.bind (law21_WatchTrue_l15 N aProps aAccept aGuard aNodes t x49 N [] r320 r336.1 r336.2 [] 0) fun x698 =>
      Sum.elim (fun x704 =>
        Option.bind (law21_WatchTrue_j20 N r22 x49 x704) fun x996 =>
        some x996)
       (fun x976 =>
        some x976) x698) r31
set_option maxRecDepth 100000 in
set_option maxHeartbeats 4000000 in
theorem law21_WatchTrue_calls {N : Nat} {S Fa : Nat → Prop} {w0 : World} {r : Bool} (A1 : Option Addr) (c2 : Nat) (A5 : Option Addr) (c6 : Nat) (A9 : Option Addr) (c10 : Nat) (A13 : Option Addr) (c14 : Nat) (aProps : Int) (aAccept : List Bool) (aGuard : List Int) (aNodes : List Nd) (t : List Int) (hk3 : List.length aAccept ≤ c2) (hk7 : List.length aGuard ≤ c6) (hk11 : List.length aNodes ≤ c10) (hk15 : List.length t ≤ c14) (H : Hp S Fa w0 w0 [.ro false cBool A1 aAccept, .ro false (cInt .i64) A5 aGuard, .ro false cNode A9 aNodes, .ro false (cInt .u8) A13 t]) (hP : law21_WatchTrue N aProps aAccept aGuard aNodes t = some r) :
    Calls Try.prog 8 #[.agg #[.int .i64 aProps, .slice A1 (List.length aAccept) c2, .slice A5 (List.length aGuard) c6, .slice A9 (List.length aNodes) c10], .slice A13 (List.length t) c14] w0 fun e w' => ∃ v, e = .returned v ∧ v = .bool r ∧ Hp S Fa w0 w' [] := by
 refine enterV (n := 182) Try.func8 rfl rfl rfl ?_
 intro a E
 replace E := E.pick [(0, .agg #[.int .i64 aProps, .slice A1 (List.length aAccept) c2, .slice A5 (List.length aGuard) c6, .slice A9 (List.length aNodes) c10]), (1, .slice A13 (List.length t) c14)] ⟨rfl, rfl, trivial⟩
 rw [law21_WatchTrue] at hP
 refine wp_seq ?_
 refine wp_region_lit ?_
 refine h_box H E rfl rfl rfl ?_
 intro w18 g17 a hc19 hg21 H_ E_
 replace E := E_ _ rfl; clear E_
 replace H := H_; clear H_; try dsimp only [setn, addE, goneL] at H
 refine vr tbok 1 [] [(1, .slice A13 (List.length t) c14), (2, .pointer (some ⟨g17, 0, none⟩))] [] E (by kernel_rfl) trivial ?_
 clear E; intro a E
 refine wpList_nil ?_
 refine th_n ?_
 refine wp_seq ?_
 refine wp_region_lit ?_
 obtain ⟨r22, h23, hP⟩ := bind_inv hP
 obtain ⟨Fa24, Hc25, hb26⟩ := H.call [] [] rfl rfl trivial
 refine e_call E rfl rfl Try.func30 rfl rfl rfl (law21_awake_calls    Hc25 h23) ?_
 rintro v27 w28 a ⟨rfl, HR29⟩ E_
 replace E := E_ _ rfl; clear E_
 obtain ⟨H_, hc30⟩ := hb26 _ _ HR29 rfl
 replace H := H_; clear H_; try dsimp only [setn, addE, goneL] at H
 refine vr tbok 1 [] [(1, .slice A13 (List.length t) c14), (2, .pointer (some ⟨g17, 0, none⟩)), (5, .bool r22)] [] E (by kernel_rfl) trivial ?_
 clear E; intro a E
 refine wpList_nil ?_
 refine th_n ?_
 refine wp_seq ?_
 refine wp_region_lit ?_
 refine vr tbok 1 [.agg #[.int .i64 aProps, .slice A1 (List.length aAccept) c2, .slice A5 (List.length aGuard) c6, .slice A9 (List.length aNodes) c10]] [(1, .slice A13 (List.length t) c14), (2, .pointer (some ⟨g17, 0, none⟩)), (5, .bool r22), (22, .agg #[.int .i64 aProps, .slice A1 (List.length aAccept) c2, .slice A5 (List.length aGuard) c6, .slice A9 (List.length aNodes) c10])] [cellsAt w28 g17 (0) [.int .i64 aProps, .slice A1 (List.length aAccept) c2, .slice A5 (List.length aGuard) c6, .slice A9 (List.length aNodes) c10]] E (by kernel_rfl) ((H.box 4 rfl).sub 0 _ rfl) ?_
 clear E; intro a E
 obtain ⟨r31, h32, hP⟩ := bind_inv hP
 obtain ⟨Fa33, Hc34, hb35⟩ := H.call [] [(0, false), (1, false), (2, false)] rfl rfl trivial
 refine e_call E rfl rfl Try.func26 rfl rfl rfl (watch_New_calls A1 c2 A5 c6 A9 c10 aProps aAccept aGuard aNodes hk3 hk7 hk11 Hc34 h32) ?_
 intro v41 w40 a hR42 E_
 rcases hR42 with ⟨x_, hr_, rfl, HR44⟩ | ⟨x_, g45, b46, hr_, rfl, HR47⟩
 ·
  subst hr_; have hP := elim_l hP
  obtain ⟨x48, hxx_⟩ : ∃ y_, y_ = x_ := ⟨_, rfl⟩; subst hxx_
  replace E := E_ _ rfl; clear E_
  obtain ⟨H_, hc43⟩ := hb35 _ _ HR44 rfl
  replace H := H_; clear H_; try dsimp only [setn, addE, goneL] at H
  refine vr tbok 5 [] [(1, .slice A13 (List.length t) c14), (2, .pointer (some ⟨g17, 0, none⟩)), (5, .bool r22), (6, .pointer none), (7, .int .i64 x48)] [] E (by kernel_rfl) trivial ?_
  clear E; intro a E
  refine wpList_nil ?_
  refine th_n ?_
  refine wp_seq ?_
  refine wp_seq ?_
  obtain ⟨x62, h63, hK64⟩ := bind_inv hP
  clear hP
  refine meet_cut (fun a w66 => ∃ (x65 : Bool), Fr a 182 [(1, .slice A13 (List.length t) c14), (2, .pointer (some ⟨g17, 0, none⟩)), (5, .bool r22), (6, .pointer none), (32, .bool x65)] ∧ Hp S Fa w0 w66 [.ro false (cInt .u8) A13 t, .ro false cBool A1 aAccept, .ro false (cInt .i64) A5 aGuard, .ro false cNode A9 aNodes, .box g17 43 [.int .i64 aProps, .slice A1 (List.length aAccept) c2, .slice A5 (List.length aGuard) c6, .slice A9 (List.length aNodes) c10]] ∧ x62 = x65) ?_ ?_
  ·
   have hP := h63; clear h63; rw [law21_WatchTrue_j0] at hP
   refine wp_region_lit ?_
   refine vr tbok 1 [.agg #[.int .i64 aProps, .slice A1 (List.length aAccept) c2, .slice A5 (List.length aGuard) c6, .slice A9 (List.length aNodes) c10]] [(1, .slice A13 (List.length t) c14), (2, .pointer (some ⟨g17, 0, none⟩)), (5, .bool r22), (6, .pointer none), (7, .int .i64 x48), (26, .agg #[.int .i64 aProps, .slice A1 (List.length aAccept) c2, .slice A5 (List.length aGuard) c6, .slice A9 (List.length aNodes) c10])] [cellsAt w40 g17 (0) [.int .i64 aProps, .slice A1 (List.length aAccept) c2, .slice A5 (List.length aGuard) c6, .slice A9 (List.length aNodes) c10]] E (by kernel_rfl) ((H.box 4 rfl).sub 0 _ rfl) ?_
   clear E; intro a E
   obtain ⟨r67, h68, hP⟩ := bind_inv hP
   obtain ⟨Fa69, Hc70, hb71⟩ := H.call [] [(0, false), (1, false), (2, false)] rfl rfl trivial
   refine e_call E rfl rfl Try.func16 rfl rfl rfl (law16_Small_calls A1 c2 A5 c6 A9 c10 aProps aAccept aGuard aNodes hk3 hk7 hk11 Hc70 h68) ?_
   rintro v72 w73 a ⟨rfl, HR74⟩ E_
   replace E := E_ _ rfl; clear E_
   obtain ⟨H_, hc75⟩ := hb71 _ _ HR74 rfl
   replace H := H_; clear H_; try dsimp only [setn, addE, goneL] at H
   refine vr tbok 2 [] [(1, .slice A13 (List.length t) c14), (2, .pointer (some ⟨g17, 0, none⟩)), (5, .bool r22), (6, .pointer none), (7, .int .i64 x48), (29, .bool (!r67))] [] E (by kernel_rfl) trivial ?_
   clear E; intro a E
   refine E.cases (t := 29) rfl (fun hb_ E_ => ?_) (fun hb_ E_ => ?_)
   ·
    replace E := E_; clear E_
    have h76 : ¬ (r67 = true) := (ne_true_of_eq_false (not_t hb_))
    clear hb_; replace hP := ite_f h76 hP
    refine vr tbok 3 [] [(1, .slice A13 (List.length t) c14), (2, .pointer (some ⟨g17, 0, none⟩)), (5, .bool r22), (6, .pointer none), (32, .bool true)] [] E (by kernel_rfl) trivial ?_
    clear E; intro a E
    refine wpList_nil ?_
    have hx_ := Option.some.inj hP
    exact .inl ⟨rfl, true, E.pick _ ⟨rfl, rfl, rfl, rfl, rfl, trivial⟩, H.sel [3, 0, 1, 2, 4] rfl, hx_.symm⟩
   replace E := E_; clear E_
   have h77 : r67 = true := (not_f hb_)
   clear hb_; replace hP := ite_t h77 hP
   refine vr tbok 3 [] [(1, .slice A13 (List.length t) c14), (2, .pointer (some ⟨g17, 0, none⟩)), (5, .bool r22), (6, .pointer none), (32, .bool ((x48 : Int) != 0))] [] E (by kernel_rfl) trivial ?_
   clear E; intro a E
   refine wpList_nil ?_
   have hx_ := Option.some.inj hP
   exact .inl ⟨rfl, (x48 : Int) != 0, E.pick _ ⟨rfl, rfl, rfl, rfl, rfl, trivial⟩, H.sel [3, 0, 1, 2, 4] rfl, hx_.symm⟩
  clear E H h63; rintro a w66 ⟨x65, E, H, hx_⟩
  subst hx_; have hP := hK64; clear hK64
  refine th_n ?_
  refine E.cases (t := 32) rfl (fun hb_ E_ => ?_) (fun hb_ E_ => ?_)
  ·
   replace E := E_; clear E_
   have h78 : x62 = true := hb_
   clear hb_; replace hP := ite_t h78 hP
   refine c_true E rfl ?_
   refine wp_seq ?_
   refine wp_region_lit ?_
   refine vr tbok 2 [] [(4, .bool r22)] [] E (by kernel_rfl) trivial ?_
   clear E; intro a E
   refine wpList_nil ?_
   refine th_n ?_
   refine wp_ret ?_
   refine th_ret ?_
   obtain rfl := Option.some.inj hP
   refine ret1 E rfl rfl ?_
   exact ⟨_, rfl, rfl, H.sel [] rfl⟩
  replace E := E_; clear E_
  have h79 : ¬ (x62 = true) := (ne_true_of_eq_false hb_)
  clear hb_; replace hP := ite_f h79 hP
  refine c_false E rfl ?_
  refine wp_skip ?_
  refine th_n ?_
  refine wp_seq ?_
  refine wp_region_lit ?_
  refine vr tbok 1 [] [(1, .slice A13 (List.length t) c14), (2, .pointer (some ⟨g17, 0, none⟩)), (5, .bool r22), (6, .pointer none), (34, .pointer none)] [] E (by kernel_rfl) trivial ?_
  clear E; intro a E
  obtain ⟨x82, h83, hP⟩ := bind_inv hP
  refine e_call (R := fun v_ w_ => ∃ (x84 : Unit), v_ = .int .u8 0 ∧ Hp S Fa w0 w_ [.ro false (cInt .u8) A13 t, .ro false cBool A1 aAccept, .ro false (cInt .i64) A5 aGuard, .ro false cNode A9 aNodes, .box g17 43 [.int .i64 aProps, .slice A1 (List.length aAccept) c2, .slice A5 (List.length aGuard) c6, .slice A9 (List.length aNodes) c10]] ∧ x82 = x84) E rfl rfl Try.func12 rfl rfl rfl ?_ ?_
  ·
   clear E hP; have hP := h83; clear h83; rw [law21_WatchTrue_f1] at hP
   refine enterV (n := 16) Try.func12 rfl rfl rfl ?_
   intro a E
   replace E := E.pick [(0, .pointer none)] ⟨rfl, trivial⟩
   refine wp_seq ?_
   refine wp_region_lit ?_
   refine vr tbok 1 [] [(0, .pointer none)] [] E (by kernel_rfl) trivial ?_
   clear E; intro a E
   refine wpList_nil ?_
   refine th_n ?_
   refine wp_seq ?_
   refine wp_seq ?_
   refine wp_region_lit ?_
   refine vr tbok 1 [] [(0, .pointer none), (3, .pointer none)] [] E (by kernel_rfl) trivial ?_
   clear E; intro a E
   obtain ⟨x85, h86, hP⟩ := bind_inv hP
   refine e_call (R := fun v_ w_ => ∃ (x87 : Unit), v_ = .bool true ∧ Hp S Fa w0 w_ [.ro false (cInt .u8) A13 t, .ro false cBool A1 aAccept, .ro false (cInt .i64) A5 aGuard, .ro false cNode A9 aNodes, .box g17 43 [.int .i64 aProps, .slice A1 (List.length aAccept) c2, .slice A5 (List.length aGuard) c6, .slice A9 (List.length aNodes) c10]] ∧ x85 = x87) E rfl rfl Try.func32 rfl rfl rfl ?_ ?_
   ·
    clear E hP; have hP := h86; clear h86; rw [law21_WatchTrue_f2] at hP
    refine enterV (n := 12) Try.func32 rfl rfl rfl ?_
    intro a E
    replace E := E.pick [(0, .pointer none)] ⟨rfl, trivial⟩
    refine wp_seq ?_
    refine wp_region_lit ?_
    refine vr tbok 1 [] [(0, .pointer none)] [] E (by kernel_rfl) trivial ?_
    clear E; intro a E
    refine wpList_nil ?_
    refine th_n ?_
    refine wp_seq ?_
    refine wp_region_lit ?_
    refine vr tbok 10 [] [(2, .bool true)] [] E (by kernel_rfl) trivial ?_
    clear E; intro a E
    refine wpList_nil ?_
    refine th_n ?_
    refine wp_ret ?_
    have hx_ := Option.some.inj hP
    refine ret1 E rfl rfl ?_
    exact ⟨_, rfl, (), rfl, H.sel [0, 1, 2, 3, 4] rfl, hx_.symm⟩
   clear H
   rintro v89 w88 a ⟨x87, rfl, H, hx_⟩ E_
   subst hx_
   replace E := E_ _ rfl; clear E_
   refine wpList_nil ?_
   refine th_n ?_
   refine c_true E rfl ?_
   refine wp_seq ?_
   refine wp_region_lit ?_
   refine vr tbok 1 [] [(2, .int .u8 0)] [] E (by kernel_rfl) trivial ?_
   clear E; intro a E
   refine wpList_nil ?_
   refine th_n ?_
   refine wp_ret ?_
   refine th_ret ?_
   have hx_ := Option.some.inj hP
   refine ret1 E rfl rfl ?_
   exact ⟨_, rfl, (), rfl, H.sel [0, 1, 2, 3, 4] rfl, hx_.symm⟩
  clear H
  rintro v91 w90 a ⟨x84, rfl, H, hx_⟩ E_
  subst hx_
  replace E := E_ _ rfl; clear E_
  refine vr tbok 3 [] [(1, .slice A13 (List.length t) c14), (2, .pointer (some ⟨g17, 0, none⟩)), (5, .bool r22), (6, .pointer none), (8, .int .u8 0)] [] E (by kernel_rfl) trivial ?_
  clear E; intro a E
  refine wpList_nil ?_
  refine th_n ?_
  refine wp_seq ?_
  refine wp_region_lit ?_
  refine vr tbok 1 [] [(1, .slice A13 (List.length t) c14), (2, .pointer (some ⟨g17, 0, none⟩)), (5, .bool r22), (6, .pointer none), (8, .int .u8 0), (37, .pointer none)] [] E (by kernel_rfl) trivial ?_
  clear E; intro a E
  obtain ⟨x94, h95, hP⟩ := bind_inv hP
  refine e_call (R := fun v_ w_ => ∃ (x96 : Unit), v_ = .tuple #[.int .i64 0, .int .i64 1] ∧ Hp S Fa w0 w_ [.ro false (cInt .u8) A13 t, .ro false cBool A1 aAccept, .ro false (cInt .i64) A5 aGuard, .ro false cNode A9 aNodes, .box g17 43 [.int .i64 aProps, .slice A1 (List.length aAccept) c2, .slice A5 (List.length aGuard) c6, .slice A9 (List.length aNodes) c10]] ∧ x94 = x96) E rfl rfl Try.func11 rfl rfl rfl ?_ ?_
  ·
   clear E hP; have hP := h95; clear h95; rw [law21_WatchTrue_f3] at hP
   refine enterV (n := 21) Try.func11 rfl rfl rfl ?_
   intro a E
   replace E := E.pick [(0, .pointer none)] ⟨rfl, trivial⟩
   refine wp_seq ?_
   refine wp_region_lit ?_
   refine vr tbok 2 [] [(0, .pointer none)] [] E (by kernel_rfl) trivial ?_
   clear E; intro a E
   refine wpList_nil ?_
   refine th_n ?_
   refine wp_seq ?_
   refine wp_seq ?_
   refine wp_region_lit ?_
   refine vr tbok 1 [] [(0, .pointer none), (5, .pointer none)] [] E (by kernel_rfl) trivial ?_
   clear E; intro a E
   obtain ⟨x97, h98, hP⟩ := bind_inv hP
   refine e_call (R := fun v_ w_ => ∃ (x99 : Unit), v_ = .bool true ∧ Hp S Fa w0 w_ [.ro false (cInt .u8) A13 t, .ro false cBool A1 aAccept, .ro false (cInt .i64) A5 aGuard, .ro false cNode A9 aNodes, .box g17 43 [.int .i64 aProps, .slice A1 (List.length aAccept) c2, .slice A5 (List.length aGuard) c6, .slice A9 (List.length aNodes) c10]] ∧ x97 = x99) E rfl rfl Try.func32 rfl rfl rfl ?_ ?_
   ·
    clear E hP; have hP := h98; clear h98; rw [law21_WatchTrue_f4] at hP
    refine enterV (n := 12) Try.func32 rfl rfl rfl ?_
    intro a E
    replace E := E.pick [(0, .pointer none)] ⟨rfl, trivial⟩
    refine wp_seq ?_
    refine wp_region_lit ?_
    refine vr tbok 1 [] [(0, .pointer none)] [] E (by kernel_rfl) trivial ?_
    clear E; intro a E
    refine wpList_nil ?_
    refine th_n ?_
    refine wp_seq ?_
    refine wp_region_lit ?_
    refine vr tbok 10 [] [(2, .bool true)] [] E (by kernel_rfl) trivial ?_
    clear E; intro a E
    refine wpList_nil ?_
    refine th_n ?_
    refine wp_ret ?_
    have hx_ := Option.some.inj hP
    refine ret1 E rfl rfl ?_
    exact ⟨_, rfl, (), rfl, H.sel [0, 1, 2, 3, 4] rfl, hx_.symm⟩
   clear H
   rintro v101 w100 a ⟨x99, rfl, H, hx_⟩ E_
   subst hx_
   replace E := E_ _ rfl; clear E_
   refine wpList_nil ?_
   refine th_n ?_
   refine c_true E rfl ?_
   refine wp_seq ?_
   refine wp_region_lit ?_
   refine vr tbok 2 [] [(2, .int .i64 0), (3, .int .i64 1)] [] E (by kernel_rfl) trivial ?_
   clear E; intro a E
   refine wpList_nil ?_
   refine th_n ?_
   refine wp_ret ?_
   refine th_ret ?_
   have hx_ := Option.some.inj hP
   refine ret2 E rfl rfl rfl ?_
   exact ⟨_, rfl, (), rfl, H.sel [0, 1, 2, 3, 4] rfl, hx_.symm⟩
  clear H
  rintro v103 w102 a ⟨x96, rfl, H, hx_⟩ E_
  subst hx_
  replace E := E_ _ rfl; clear E_
  refine vr tbok 5 [] [(1, .slice A13 (List.length t) c14), (2, .pointer (some ⟨g17, 0, none⟩)), (5, .bool r22), (6, .pointer none), (8, .int .u8 0), (9, .int .i64 0), (10, .int .i64 1)] [] E (by kernel_rfl) trivial ?_
  clear E; intro a E
  refine wpList_nil ?_
  refine th_n ?_
  refine wp_seq ?_
  refine wp_region_lit ?_
  refine vr tbok 1 [] [(1, .slice A13 (List.length t) c14), (2, .pointer (some ⟨g17, 0, none⟩)), (5, .bool r22), (6, .pointer none), (8, .int .u8 0), (9, .int .i64 0), (10, .int .i64 1), (11, .slice none 0 0)] [] E (by kernel_rfl) trivial ?_
  clear E; intro a E
  refine wpList_nil ?_
  refine th_n ?_
  refine wp_seq ?_
  refine wp_seq ?_
  refine wp_region_lit ?_
  refine vr tbok 1 [] [(1, .slice A13 (List.length t) c14), (2, .pointer (some ⟨g17, 0, none⟩)), (5, .bool r22), (6, .pointer none), (8, .int .u8 0), (9, .int .i64 0), (10, .int .i64 1), (11, .slice none 0 0), (12, .int .i64 0)] [] E (by kernel_rfl) trivial ?_
  clear E; intro a E
  refine wpList_nil ?_
  refine th_n ?_
  refine wp_block ?_
  obtain ⟨x189, hL190, hK191⟩ := bind_inv hP
  clear hP
  refine loop_cut (fun i_ a w_ => (i_ = 0 ∧ ∃ (x194 : Unit), Fr a 182 [(5, .bool r22), (6, .pointer none), (11, .slice none 0 0)] ∧ Hp S Fa w0 w_ [] ∧ x189 = Sum.inl x194)) ?_ ?_
  ·
   refine loopV (fun m193 a w192 => ∃ (_u : Unit), Fr a 182 [(1, .slice A13 (List.length t) c14), (2, .pointer (some ⟨g17, 0, none⟩)), (5, .bool r22), (6, .pointer none), (8, .int .u8 0), (9, .int .i64 0), (10, .int .i64 1), (11, .slice none 0 0), (12, .int .i64 0)] ∧ Hp S Fa w0 w192 [.ro false (cInt .u8) A13 t, .ro false cBool A1 aAccept, .ro false (cInt .i64) A5 aGuard, .ro false cNode A9 aNodes, .box g17 43 [.int .i64 aProps, .slice A1 (List.length aAccept) c2, .slice A5 (List.length aGuard) c6, .slice A9 (List.length aNodes) c10]] ∧ law21_WatchTrue_l5 N aProps aAccept aGuard aNodes t m193  = some x189) N ?_ ?_
   ·
    exact ⟨(), E.pick _ ⟨rfl, rfl, rfl, rfl, rfl, rfl, rfl, rfl, rfl, trivial⟩, H.sel [0, 1, 2, 3, 4] rfl, hL190⟩
   clear E H hL190; intro m193 a w192 hI_
   obtain ⟨_, E, H, hP⟩ := hI_
   obtain ⟨m188, rfl⟩ : ∃ q_, m193 = q_ + 1 := by cases m193 with | zero => rw [law21_WatchTrue_l5] at hP; cases hP | succ q_ => exact ⟨q_, rfl⟩
   rw [law21_WatchTrue_l5] at hP
   refine wp_seq ?_
   refine wp_seq ?_
   obtain ⟨x198, h199, hK200⟩ := bind_inv hP
   clear hP
   refine meet_cut (fun a w202 => ∃ (x201 : Bool), Fr a 182 [(1, .slice A13 (List.length t) c14), (2, .pointer (some ⟨g17, 0, none⟩)), (5, .bool r22), (6, .pointer none), (8, .int .u8 0), (9, .int .i64 0), (10, .int .i64 1), (11, .slice none 0 0), (12, .int .i64 0), (48, .bool x201)] ∧ Hp S Fa w0 w202 [.ro false (cInt .u8) A13 t, .ro false cBool A1 aAccept, .ro false (cInt .i64) A5 aGuard, .ro false cNode A9 aNodes, .box g17 43 [.int .i64 aProps, .slice A1 (List.length aAccept) c2, .slice A5 (List.length aGuard) c6, .slice A9 (List.length aNodes) c10]] ∧ x198 = x201) ?_ ?_
   ·
    have hP := h199; clear h199; rw [law21_WatchTrue_j6] at hP
    refine wp_region_lit ?_
    refine vr tbok 5 [] [(1, .slice A13 (List.length t) c14), (2, .pointer (some ⟨g17, 0, none⟩)), (5, .bool r22), (6, .pointer none), (8, .int .u8 0), (9, .int .i64 0), (10, .int .i64 1), (11, .slice none 0 0), (12, .int .i64 0), (45, .bool (decide (0 < (((List.length t) : Nat) : Int))))] [] E (by kernel_rfl) trivial ?_
    clear E; intro a E
    refine E.cases (t := 45) rfl (fun hb_ E_ => ?_) (fun hb_ E_ => ?_)
    ·
     replace E := E_; clear E_
     have h203 : 0 < (((List.length t) : Nat) : Int) := of_decide_eq_true hb_
     clear hb_; replace hP := ite_t h203 hP
     refine vr tbok 3 [] [(1, .slice A13 (List.length t) c14), (2, .pointer (some ⟨g17, 0, none⟩)), (5, .bool r22), (6, .pointer none), (8, .int .u8 0), (9, .int .i64 0), (10, .int .i64 1), (11, .slice none 0 0), (12, .int .i64 0), (48, .bool true)] [] E (by kernel_rfl) trivial ?_
     clear E; intro a E
     refine wpList_nil ?_
     have hx_ := Option.some.inj hP
     exact .inl ⟨rfl, true, E.pick _ ⟨rfl, rfl, rfl, rfl, rfl, rfl, rfl, rfl, rfl, rfl, trivial⟩, H.sel [0, 1, 2, 3, 4] rfl, hx_.symm⟩
    replace E := E_; clear E_
    have h204 : ¬ (0 < (((List.length t) : Nat) : Int)) := of_decide_eq_false hb_
    clear hb_; replace hP := ite_f h204 hP
    refine vr tbok 3 [] [(1, .slice A13 (List.length t) c14), (2, .pointer (some ⟨g17, 0, none⟩)), (5, .bool r22), (6, .pointer none), (8, .int .u8 0), (9, .int .i64 0), (10, .int .i64 1), (11, .slice none 0 0), (12, .int .i64 0), (48, .bool false)] [] E (by kernel_rfl) trivial ?_
    clear E; intro a E
    refine wpList_nil ?_
    have hx_ := Option.some.inj hP
    exact .inl ⟨rfl, false, E.pick _ ⟨rfl, rfl, rfl, rfl, rfl, rfl, rfl, rfl, rfl, rfl, trivial⟩, H.sel [0, 1, 2, 3, 4] rfl, hx_.symm⟩
   clear E H h199; rintro a w202 ⟨x201, E, H, hx_⟩
   subst hx_; have hP := hK200; clear hK200
   refine th_n ?_
   refine E.cases (t := 48) rfl (fun hb_ E_ => ?_) (fun hb_ E_ => ?_)
   ·
    replace E := E_; clear E_
    have h205 : x198 = true := hb_
    clear hb_; replace hP := ite_t h205 hP
    refine c_true E rfl ?_
    refine wp_skip ?_
    refine th_n ?_
    refine wp_seq ?_
    refine wp_block ?_
    refine wp_seq ?_
    obtain ⟨g206, hP⟩ := ask_inv hP
    obtain ⟨b207, o208, e_b207⟩ := (H.rd 0 rds_ro).addr (idx_pos g206)
    subst e_b207
    obtain ⟨g209, hP⟩ := ask_inv hP
    have HR213 := H
    refine dr_start (S := fun w_ => Chg (atL []) w202 w_) (by kernel_rfl) ?_
    intro w210 hc211
    have HS212 : Chg (atL []) w202 w210 := hc211.mono (fun _ _ h_ => h_.elim)
    replace H := H.ext hc211
    refine dr tbok (by kernel_rfl) [0, 1, 2, 3, 4, 5, 6, 7, 8, 9] [.int .u8 (List.getD t (Int.toNat (0 : Int)) 0), .int .i64 aProps, .int .u8 (shlV .u8 1 aProps), .int .u8 (IntKind.u8.wrap ((shlV .u8 1 aProps) - 1)), .int .u8 (andV .u8 (List.getD t (Int.toNat (0 : Int)) 0) (IntKind.u8.wrap ((shlV .u8 1 aProps) - 1)))] [(1, .slice (some ⟨b207, o208, none⟩) (List.length t) c14), (2, .pointer (some ⟨g17, 0, none⟩)), (5, .bool r22), (6, .pointer none), (8, .int .u8 0), (9, .int .i64 0), (10, .int .i64 1), (11, .slice none 0 0), (12, .int .i64 0), (13, .int .u8 (andV .u8 (List.getD t (Int.toNat (0 : Int)) 0) (IntKind.u8.wrap ((shlV .u8 1 aProps) - 1))))] (fun w_ => [0 ≤ (0 : Int) ∧ (0 : Int) < (((List.length t) : Nat) : Int), World.cell? w_ ⟨b207, o208 + (Int.toNat (0 : Int)) * 1, none⟩ = some (.int .u8 (List.getD t (Int.toNat (0 : Int)) 0)), World.cell? w_ ⟨g17, 0, none⟩ = some (.int .i64 aProps), 0 ≤ aProps ∧ IntKind.u8.wrap (1 * 2 ^ (min (Int.toNat aProps) (IntKind.bits .u8))) = shlV .u8 1 aProps, IntKind.u8.wrap ((shlV .u8 1 aProps) - 1) = IntKind.u8.wrap ((shlV .u8 1 aProps) - 1), IntKind.u8.wrap (BitVec.ofInt (IntKind.bits .u8) (List.getD t (Int.toNat (0 : Int)) 0) &&& BitVec.ofInt (IntKind.bits .u8) (IntKind.u8.wrap ((shlV .u8 1 aProps) - 1))).toNat = andV .u8 (List.getD t (Int.toNat (0 : Int)) 0) (IntKind.u8.wrap ((shlV .u8 1 aProps) - 1))]) 0 E (fun _ _ => by kernel_rfl) (fun w_ hS_ => ⟨g206, Rds.at1 (HR213.rdk [] hS_ 0 rds_ro rfl) 0 g206, (HR213.boxk [] hS_ 4 rfl rfl).cell (j := 0) rfl, ⟨g209, rfl⟩, rfl, rfl⟩) (by kernel_rfl) HS212 ?_
    clear E; intro a E
    refine dr_done (by kernel_rfl) ?_
    clear HS212 HR213
    refine th_n ?_
    refine wp_seq ?_
    refine wp_region_lit ?_
    refine vr tbok 2 [] [(1, .slice (some ⟨b207, o208, none⟩) (List.length t) c14), (2, .pointer (some ⟨g17, 0, none⟩)), (5, .bool r22), (6, .pointer none), (8, .int .u8 0), (9, .int .i64 0), (10, .int .i64 1), (12, .int .i64 0), (13, .int .u8 (andV .u8 (List.getD t (Int.toNat (0 : Int)) 0) (IntKind.u8.wrap ((shlV .u8 1 aProps) - 1)))), (60, .slice none 0 0), (61, .int .u8 (andV .u8 (List.getD t (Int.toNat (0 : Int)) 0) (IntKind.u8.wrap ((shlV .u8 1 aProps) - 1))))] [] E (by kernel_rfl) trivial ?_
    clear E; intro a E
    refine h_buildSlice (ps := [(0, .int .u8 (andV .u8 (List.getD t (Int.toNat (0 : Int)) 0) (IntKind.u8.wrap ((shlV .u8 1 aProps) - 1))))]) (cs := [.int .u8 (andV .u8 (List.getD t (Int.toNat (0 : Int)) 0) (IntKind.u8.wrap ((shlV .u8 1 aProps) - 1)))]) H E rfl rfl tbok rfl rfl (by kernel_rfl) ?_
    intro w215 g214 a hc216 hg218 H_ E_
    replace E := E_ _ rfl; clear E_
    replace H := H_; clear H_; try dsimp only [setn, addE, goneL] at H
    replace H := H.nilrow (cInt .u8) 22; try dsimp only [setn, addE, goneL] at H
    obtain ⟨g220, hP⟩ := ask_inv hP
    refine h_append (cInt .u8) (xs := ([] : List Int)) (ys := ([andV .u8 (List.getD t (Int.toNat (0 : Int)) 0) (IntKind.u8.wrap ((shlV .u8 1 aProps) - 1))] : List Int)) (0 : Int) H 6 rfl E rfl rfl tbok rfl rfl rfl rfl rfl (fun _ _ => rfl) rfl rfl (fun _ HF_ => HF_.srcB 5 rfl (⟨_, _, rfl, rfl, rfl⟩)) g220 ?_
    intro w221 A222 c223 a hc224 hA225 H_ E_
    replace E := E_ _ rfl; clear E_
    replace H := H_; clear H_; try dsimp only [setn, addE, goneL] at H
    refine vr tbok 1 [] [(1, .slice (some ⟨b207, o208, none⟩) (List.length t) c14), (2, .pointer (some ⟨g17, 0, none⟩)), (5, .bool r22), (6, .pointer none), (8, .int .u8 0), (9, .int .i64 0), (10, .int .i64 1), (11, .slice A222 (List.length (([] : List Int) ++ ([andV .u8 (List.getD t (Int.toNat (0 : Int)) 0) (IntKind.u8.wrap ((shlV .u8 1 aProps) - 1))] : List Int))) c223), (12, .int .i64 0), (13, .int .u8 (andV .u8 (List.getD t (Int.toNat (0 : Int)) 0) (IntKind.u8.wrap ((shlV .u8 1 aProps) - 1))))] [] E (by kernel_rfl) trivial ?_
    clear E; intro a E
    refine wpList_nil ?_
    refine th_n ?_
    refine wp_seq ?_
    refine wp_region_lit ?_
    refine vr tbok 2 [] [(1, .slice (some ⟨b207, o208, none⟩) (List.length t) c14), (2, .pointer (some ⟨g17, 0, none⟩)), (5, .bool r22), (6, .pointer none), (8, .int .u8 0), (9, .int .i64 0), (10, .int .i64 1), (11, .slice A222 (List.length (([] : List Int) ++ ([andV .u8 (List.getD t (Int.toNat (0 : Int)) 0) (IntKind.u8.wrap ((shlV .u8 1 aProps) - 1))] : List Int))) c223), (12, .int .i64 0), (65, .pointer none), (66, .int .u8 (andV .u8 (List.getD t (Int.toNat (0 : Int)) 0) (IntKind.u8.wrap ((shlV .u8 1 aProps) - 1))))] [] E (by kernel_rfl) trivial ?_
    clear E; intro a E
    obtain ⟨x228, h229, hP⟩ := bind_inv hP
    refine e_call (R := fun v_ w_ => ∃ (x230 : Unit), v_ = .tuple #[.int .u8 0, .int .i64 1] ∧ Hp S Fa w0 w_ [.ro false (cInt .u8) (some ⟨b207, o208, none⟩) t, .ro false cBool A1 aAccept, .ro false (cInt .i64) A5 aGuard, .ro false cNode A9 aNodes, .box g17 43 [.int .i64 aProps, .slice A1 (List.length aAccept) c2, .slice A5 (List.length aGuard) c6, .slice A9 (List.length aNodes) c10], .row true (cInt .u8) 22 A222 c223 (([] : List Int) ++ ([andV .u8 (List.getD t (Int.toNat (0 : Int)) 0) (IntKind.u8.wrap ((shlV .u8 1 aProps) - 1))] : List Int))] ∧ x228 = x230) E rfl rfl Try.func9 rfl rfl rfl ?_ ?_
    ·
     clear E hP; have hP := h229; clear h229; rw [law21_WatchTrue_f7] at hP
     refine enterV (n := 67) Try.func9 rfl rfl rfl ?_
     intro a E
     replace E := E.pick [(0, .pointer none), (1, .int .u8 (andV .u8 (List.getD t (Int.toNat (0 : Int)) 0) (IntKind.u8.wrap ((shlV .u8 1 aProps) - 1))))] ⟨rfl, rfl, trivial⟩
     refine wp_seq ?_
     refine wp_region_lit ?_
     refine vr tbok 2 [] [(0, .pointer none), (1, .int .u8 (andV .u8 (List.getD t (Int.toNat (0 : Int)) 0) (IntKind.u8.wrap ((shlV .u8 1 aProps) - 1))))] [] E (by kernel_rfl) trivial ?_
     clear E; intro a E
     refine wpList_nil ?_
     refine th_n ?_
     refine wp_seq ?_
     refine wp_block ?_
     refine wp_seq ?_
     refine wp_region_lit ?_
     refine vr tbok 1 [] [(0, .pointer none), (1, .int .u8 (andV .u8 (List.getD t (Int.toNat (0 : Int)) 0) (IntKind.u8.wrap ((shlV .u8 1 aProps) - 1)))), (9, .pointer none)] [] E (by kernel_rfl) trivial ?_
     clear E; intro a E
     obtain ⟨x231, h232, hP⟩ := bind_inv hP
     refine e_call (R := fun v_ w_ => ∃ (x233 : Unit), v_ = .bool true ∧ Hp S Fa w0 w_ [.ro false (cInt .u8) (some ⟨b207, o208, none⟩) t, .ro false cBool A1 aAccept, .ro false (cInt .i64) A5 aGuard, .ro false cNode A9 aNodes, .box g17 43 [.int .i64 aProps, .slice A1 (List.length aAccept) c2, .slice A5 (List.length aGuard) c6, .slice A9 (List.length aNodes) c10], .row true (cInt .u8) 22 A222 c223 (([] : List Int) ++ ([andV .u8 (List.getD t (Int.toNat (0 : Int)) 0) (IntKind.u8.wrap ((shlV .u8 1 aProps) - 1))] : List Int))] ∧ x231 = x233) E rfl rfl Try.func32 rfl rfl rfl ?_ ?_
     ·
      clear E hP; have hP := h232; clear h232; rw [law21_WatchTrue_f8] at hP
      refine enterV (n := 12) Try.func32 rfl rfl rfl ?_
      intro a E
      replace E := E.pick [(0, .pointer none)] ⟨rfl, trivial⟩
      refine wp_seq ?_
      refine wp_region_lit ?_
      refine vr tbok 1 [] [(0, .pointer none)] [] E (by kernel_rfl) trivial ?_
      clear E; intro a E
      refine wpList_nil ?_
      refine th_n ?_
      refine wp_seq ?_
      refine wp_region_lit ?_
      refine vr tbok 10 [] [(2, .bool true)] [] E (by kernel_rfl) trivial ?_
      clear E; intro a E
      refine wpList_nil ?_
      refine th_n ?_
      refine wp_ret ?_
      have hx_ := Option.some.inj hP
      refine ret1 E rfl rfl ?_
      exact ⟨_, rfl, (), rfl, H.sel [0, 1, 2, 3, 4, 6] rfl, hx_.symm⟩
     clear H
     rintro v235 w234 a ⟨x233, rfl, H, hx_⟩ E_
     subst hx_
     replace E := E_ _ rfl; clear E_
     refine vr tbok 1 [] [(0, .pointer none), (1, .int .u8 (andV .u8 (List.getD t (Int.toNat (0 : Int)) 0) (IntKind.u8.wrap ((shlV .u8 1 aProps) - 1)))), (8, .bool true)] [] E (by kernel_rfl) trivial ?_
     clear E; intro a E
     refine wpList_nil ?_
     refine th_n ?_
     refine c_true E rfl ?_
     refine wp_seq ?_
     refine wp_region_lit ?_
     refine vr tbok 2 [] [(4, .int .u8 0), (5, .int .i64 1)] [] E (by kernel_rfl) trivial ?_
     clear E; intro a E
     refine wpList_nil ?_
     refine th_n ?_
     refine wp_ret ?_
     refine bl_ret ?_
     refine th_ret ?_
     have hx_ := Option.some.inj hP
     refine ret2 E rfl rfl rfl ?_
     exact ⟨_, rfl, (), rfl, H.sel [0, 1, 2, 3, 4, 5] rfl, hx_.symm⟩
    clear H
    rintro v237 w236 a ⟨x230, rfl, H, hx_⟩ E_
    subst hx_
    replace E := E_ _ rfl; clear E_
    refine vr tbok 5 [] [(1, .slice (some ⟨b207, o208, none⟩) (List.length t) c14), (2, .pointer (some ⟨g17, 0, none⟩)), (5, .bool r22), (6, .pointer none), (8, .int .u8 0), (9, .int .i64 0), (10, .int .i64 1), (11, .slice A222 (List.length (([] : List Int) ++ ([andV .u8 (List.getD t (Int.toNat (0 : Int)) 0) (IntKind.u8.wrap ((shlV .u8 1 aProps) - 1))] : List Int))) c223), (12, .int .i64 0), (14, .int .u8 0), (15, .int .i64 1)] [] E (by kernel_rfl) trivial ?_
    clear E; intro a E
    refine wpList_nil ?_
    refine th_n ?_
    refine wp_seq ?_
    refine wp_region_lit ?_
    refine vr tbok 2 [.agg #[.int .i64 aProps, .slice A1 (List.length aAccept) c2, .slice A5 (List.length aGuard) c6, .slice A9 (List.length aNodes) c10]] [(1, .slice (some ⟨b207, o208, none⟩) (List.length t) c14), (2, .pointer (some ⟨g17, 0, none⟩)), (5, .bool r22), (6, .pointer none), (8, .int .u8 0), (9, .int .i64 0), (10, .int .i64 1), (11, .slice A222 (List.length (([] : List Int) ++ ([andV .u8 (List.getD t (Int.toNat (0 : Int)) 0) (IntKind.u8.wrap ((shlV .u8 1 aProps) - 1))] : List Int))) c223), (12, .int .i64 0), (14, .int .u8 0), (15, .int .i64 1), (71, .agg #[.int .i64 aProps, .slice A1 (List.length aAccept) c2, .slice A5 (List.length aGuard) c6, .slice A9 (List.length aNodes) c10]), (72, .slice A222 (List.length (([] : List Int) ++ ([andV .u8 (List.getD t (Int.toNat (0 : Int)) 0) (IntKind.u8.wrap ((shlV .u8 1 aProps) - 1))] : List Int))) c223)] [cellsAt w236 g17 (0) [.int .i64 aProps, .slice A1 (List.length aAccept) c2, .slice A5 (List.length aGuard) c6, .slice A9 (List.length aNodes) c10]] E (by kernel_rfl) ((H.box 4 rfl).sub 0 _ rfl) ?_
    clear E; intro a E
    obtain ⟨r238, h239, hP⟩ := bind_inv hP
    obtain ⟨Fa240, Hc241, hb242⟩ := H.call [] [(1, false), (2, false), (3, false), (5, false)] rfl rfl trivial
    refine e_call E rfl rfl Try.func31 rfl rfl rfl (canon_Run_calls A1 c2 A5 c6 A9 c10 A222 c223 aProps aAccept aGuard aNodes (([] : List Int) ++ ([andV .u8 (List.getD t (Int.toNat (0 : Int)) 0) (IntKind.u8.wrap ((shlV .u8 1 aProps) - 1))] : List Int)) hk3 hk7 hk11 (H.rcap 5 rfl) Hc241 h239) ?_
    rintro v243 w244 a ⟨rfl, HR245⟩ E_
    replace E := E_ _ rfl; clear E_
    obtain ⟨H_, hc246⟩ := hb242 _ _ HR245 rfl
    replace H := H_; clear H_; try dsimp only [setn, addE, goneL] at H
    refine vr tbok 5 [] [(1, .slice (some ⟨b207, o208, none⟩) (List.length t) c14), (2, .pointer (some ⟨g17, 0, none⟩)), (5, .bool r22), (6, .pointer none), (8, .int .u8 0), (9, .int .i64 0), (10, .int .i64 1), (11, .slice A222 (List.length (([] : List Int) ++ ([andV .u8 (List.getD t (Int.toNat (0 : Int)) 0) (IntKind.u8.wrap ((shlV .u8 1 aProps) - 1))] : List Int))) c223), (12, .int .i64 0), (14, .int .u8 0), (15, .int .i64 1), (16, .int .i64 r238.1), (17, .int .i64 r238.2)] [] E (by kernel_rfl) trivial ?_
    clear E; intro a E
    refine wpList_nil ?_
    refine th_n ?_
    refine wp_seq ?_
    refine wp_region_lit ?_
    refine vr tbok 1 [] [(1, .slice (some ⟨b207, o208, none⟩) (List.length t) c14), (2, .pointer (some ⟨g17, 0, none⟩)), (5, .bool r22), (6, .pointer none), (8, .int .u8 0), (9, .int .i64 0), (10, .int .i64 1), (11, .slice A222 (List.length (([] : List Int) ++ ([andV .u8 (List.getD t (Int.toNat (0 : Int)) 0) (IntKind.u8.wrap ((shlV .u8 1 aProps) - 1))] : List Int))) c223), (12, .int .i64 0), (14, .int .u8 0), (15, .int .i64 1), (16, .int .i64 r238.1), (17, .int .i64 r238.2), (77, .pointer none)] [] E (by kernel_rfl) trivial ?_
    clear E; intro a E
    obtain ⟨x249, h250, hP⟩ := bind_inv hP
    refine e_call (R := fun v_ w_ => ∃ (x251 : Unit), v_ = .tuple #[.int .i64 0, .int .i64 1] ∧ Hp S Fa w0 w_ [.ro false (cInt .u8) (some ⟨b207, o208, none⟩) t, .ro false cBool A1 aAccept, .ro false (cInt .i64) A5 aGuard, .ro false cNode A9 aNodes, .box g17 43 [.int .i64 aProps, .slice A1 (List.length aAccept) c2, .slice A5 (List.length aGuard) c6, .slice A9 (List.length aNodes) c10], .row true (cInt .u8) 22 A222 c223 (([] : List Int) ++ ([andV .u8 (List.getD t (Int.toNat (0 : Int)) 0) (IntKind.u8.wrap ((shlV .u8 1 aProps) - 1))] : List Int))] ∧ x249 = x251) E rfl rfl Try.func11 rfl rfl rfl ?_ ?_
    ·
     clear E hP; have hP := h250; clear h250; rw [law21_WatchTrue_f9] at hP
     refine enterV (n := 21) Try.func11 rfl rfl rfl ?_
     intro a E
     replace E := E.pick [(0, .pointer none)] ⟨rfl, trivial⟩
     refine wp_seq ?_
     refine wp_region_lit ?_
     refine vr tbok 2 [] [(0, .pointer none)] [] E (by kernel_rfl) trivial ?_
     clear E; intro a E
     refine wpList_nil ?_
     refine th_n ?_
     refine wp_seq ?_
     refine wp_seq ?_
     refine wp_region_lit ?_
     refine vr tbok 1 [] [(0, .pointer none), (5, .pointer none)] [] E (by kernel_rfl) trivial ?_
     clear E; intro a E
     obtain ⟨x252, h253, hP⟩ := bind_inv hP
     refine e_call (R := fun v_ w_ => ∃ (x254 : Unit), v_ = .bool true ∧ Hp S Fa w0 w_ [.ro false (cInt .u8) (some ⟨b207, o208, none⟩) t, .ro false cBool A1 aAccept, .ro false (cInt .i64) A5 aGuard, .ro false cNode A9 aNodes, .box g17 43 [.int .i64 aProps, .slice A1 (List.length aAccept) c2, .slice A5 (List.length aGuard) c6, .slice A9 (List.length aNodes) c10], .row true (cInt .u8) 22 A222 c223 (([] : List Int) ++ ([andV .u8 (List.getD t (Int.toNat (0 : Int)) 0) (IntKind.u8.wrap ((shlV .u8 1 aProps) - 1))] : List Int))] ∧ x252 = x254) E rfl rfl Try.func32 rfl rfl rfl ?_ ?_
     ·
      clear E hP; have hP := h253; clear h253; rw [law21_WatchTrue_f10] at hP
      refine enterV (n := 12) Try.func32 rfl rfl rfl ?_
      intro a E
      replace E := E.pick [(0, .pointer none)] ⟨rfl, trivial⟩
      refine wp_seq ?_
      refine wp_region_lit ?_
      refine vr tbok 1 [] [(0, .pointer none)] [] E (by kernel_rfl) trivial ?_
      clear E; intro a E
      refine wpList_nil ?_
      refine th_n ?_
      refine wp_seq ?_
      refine wp_region_lit ?_
      refine vr tbok 10 [] [(2, .bool true)] [] E (by kernel_rfl) trivial ?_
      clear E; intro a E
      refine wpList_nil ?_
      refine th_n ?_
      refine wp_ret ?_
      have hx_ := Option.some.inj hP
      refine ret1 E rfl rfl ?_
      exact ⟨_, rfl, (), rfl, H.sel [0, 1, 2, 3, 4, 5] rfl, hx_.symm⟩
     clear H
     rintro v256 w255 a ⟨x254, rfl, H, hx_⟩ E_
     subst hx_
     replace E := E_ _ rfl; clear E_
     refine wpList_nil ?_
     refine th_n ?_
     refine c_true E rfl ?_
     refine wp_seq ?_
     refine wp_region_lit ?_
     refine vr tbok 2 [] [(2, .int .i64 0), (3, .int .i64 1)] [] E (by kernel_rfl) trivial ?_
     clear E; intro a E
     refine wpList_nil ?_
     refine th_n ?_
     refine wp_ret ?_
     refine th_ret ?_
     have hx_ := Option.some.inj hP
     refine ret2 E rfl rfl rfl ?_
     exact ⟨_, rfl, (), rfl, H.sel [0, 1, 2, 3, 4, 5] rfl, hx_.symm⟩
    clear H
    rintro v258 w257 a ⟨x251, rfl, H, hx_⟩ E_
    subst hx_
    replace E := E_ _ rfl; clear E_
    refine vr tbok 5 [] [(1, .slice (some ⟨b207, o208, none⟩) (List.length t) c14), (2, .pointer (some ⟨g17, 0, none⟩)), (5, .bool r22), (6, .pointer none), (8, .int .u8 0), (9, .int .i64 0), (10, .int .i64 1), (11, .slice A222 (List.length (([] : List Int) ++ ([andV .u8 (List.getD t (Int.toNat (0 : Int)) 0) (IntKind.u8.wrap ((shlV .u8 1 aProps) - 1))] : List Int))) c223), (12, .int .i64 0), (14, .int .u8 0), (15, .int .i64 1), (16, .int .i64 r238.1), (17, .int .i64 r238.2), (18, .int .i64 0), (19, .int .i64 1)] [] E (by kernel_rfl) trivial ?_
    clear E; intro a E
    refine wpList_nil ?_
    refine th_n ?_
    refine wp_seq ?_
    refine wp_seq ?_
    refine wp_region_lit ?_
    refine vr tbok 29 [] [(1, .slice (some ⟨b207, o208, none⟩) (List.length t) c14), (2, .pointer (some ⟨g17, 0, none⟩)), (5, .bool r22), (6, .pointer none), (8, .int .u8 0), (9, .int .i64 0), (10, .int .i64 1), (11, .slice A222 (List.length (([] : List Int) ++ ([andV .u8 (List.getD t (Int.toNat (0 : Int)) 0) (IntKind.u8.wrap ((shlV .u8 1 aProps) - 1))] : List Int))) c223), (12, .int .i64 0), (14, .int .u8 0), (16, .int .i64 r238.1), (18, .int .i64 0), (19, .int .i64 1), (109, .bool true)] [] E (by kernel_rfl) trivial ?_
    clear E; intro a E
    refine wpList_nil ?_
    refine th_n ?_
    refine c_true E rfl ?_
    refine wp_seq ?_
    refine wp_region_lit ?_
    refine vr tbok 1 [] [(4, .bool false)] [] E (by kernel_rfl) trivial ?_
    clear E; intro a E
    refine wpList_nil ?_
    refine th_n ?_
    refine wp_ret ?_
    refine th_ret ?_
    refine bl_ret ?_
    refine th_ret ?_
    refine th_ret ?_
    refine .inr ⟨rfl, ?_⟩
    refine bl_ret ?_
    refine th_ret ?_
    have hx_ := Option.some.inj hP; subst hx_
    have hP : some (false) = some r := hK191
    obtain rfl := Option.some.inj hP
    refine ret1 E rfl rfl ?_
    exact ⟨_, rfl, rfl, H.sel [] rfl⟩
   replace E := E_; clear E_
   have h259 : ¬ (x198 = true) := (ne_true_of_eq_false hb_)
   clear hb_; replace hP := ite_f h259 hP
   refine c_false E rfl ?_
   refine wp_exit ?_
   refine th_exit ?_
   have hx_ := Option.some.inj hP
   refine th_exit (.inl ⟨0, rfl, ?_⟩)
   exact ⟨rfl, (), E.pick _ ⟨rfl, rfl, rfl, trivial⟩, H.sel [] rfl, hx_.symm⟩
  clear E H hL190; intro i_ a w192 hM_
  obtain ⟨rfl, x194, E, H, hx_⟩ := hM_
  subst hx_; have hP := elim_l hK191
  clear hK191
  refine bl_hit ?_
  refine th_n ?_
  refine wp_seq ?_
  obtain ⟨x268, h269, hK270⟩ := bind_inv hP
  clear hP
  refine meet_cut (fun a w272 => ∃ (x271 : Bool), Fr a 182 [(4, .bool x271)] ∧ Hp S Fa w0 w272 [] ∧ x268 = x271) ?_ ?_
  ·
   have hP := h269; clear h269; rw [law21_WatchTrue_j11] at hP
   refine wp_region_lit ?_
   refine vr tbok 2 [] [(6, .pointer none), (11, .slice none 0 0), (175, .bool r22)] [] E (by kernel_rfl) trivial ?_
   clear E; intro a E
   refine E.cases (t := 175) rfl (fun hb_ E_ => ?_) (fun hb_ E_ => ?_)
   ·
    replace E := E_; clear E_
    have h273 : r22 = true := hb_
    clear hb_; replace hP := ite_t h273 hP
    refine vr tbok 1 [] [(11, .slice none 0 0), (175, .bool true), (176, .pointer none)] [] E (by kernel_rfl) trivial ?_
    clear E; intro a E
    obtain ⟨x276, h277, hP⟩ := bind_inv hP
    refine e_call (R := fun v_ w_ => ∃ (x278 : Unit), v_ = .int .i64 0 ∧ Hp S Fa w0 w_ [] ∧ x276 = x278) E rfl rfl Try.func14 rfl rfl rfl ?_ ?_
    ·
     clear E hP; have hP := h277; clear h277; rw [law21_WatchTrue_f12] at hP
     refine enterV (n := 10) Try.func14 rfl rfl rfl ?_
     intro a E
     replace E := E.pick [(0, .pointer none)] ⟨rfl, trivial⟩
     refine wp_seq ?_
     refine wp_region_lit ?_
     refine vr tbok 1 [] [(0, .pointer none)] [] E (by kernel_rfl) trivial ?_
     clear E; intro a E
     refine wpList_nil ?_
     refine th_n ?_
     refine wp_seq ?_
     refine wp_seq ?_
     refine wp_region_lit ?_
     refine vr tbok 1 [] [(0, .pointer none), (3, .pointer none)] [] E (by kernel_rfl) trivial ?_
     clear E; intro a E
     obtain ⟨x279, h280, hP⟩ := bind_inv hP
     refine e_call (R := fun v_ w_ => ∃ (x281 : Unit), v_ = .bool true ∧ Hp S Fa w0 w_ [] ∧ x279 = x281) E rfl rfl Try.func32 rfl rfl rfl ?_ ?_
     ·
      clear E hP; have hP := h280; clear h280; rw [law21_WatchTrue_f13] at hP
      refine enterV (n := 12) Try.func32 rfl rfl rfl ?_
      intro a E
      replace E := E.pick [(0, .pointer none)] ⟨rfl, trivial⟩
      refine wp_seq ?_
      refine wp_region_lit ?_
      refine vr tbok 1 [] [(0, .pointer none)] [] E (by kernel_rfl) trivial ?_
      clear E; intro a E
      refine wpList_nil ?_
      refine th_n ?_
      refine wp_seq ?_
      refine wp_region_lit ?_
      refine vr tbok 10 [] [(2, .bool true)] [] E (by kernel_rfl) trivial ?_
      clear E; intro a E
      refine wpList_nil ?_
      refine th_n ?_
      refine wp_ret ?_
      have hx_ := Option.some.inj hP
      refine ret1 E rfl rfl ?_
      exact ⟨_, rfl, (), rfl, H.sel [] rfl, hx_.symm⟩
     clear H
     rintro v283 w282 a ⟨x281, rfl, H, hx_⟩ E_
     subst hx_
     replace E := E_ _ rfl; clear E_
     refine wpList_nil ?_
     refine th_n ?_
     refine c_true E rfl ?_
     refine wp_seq ?_
     refine wp_region_lit ?_
     refine vr tbok 1 [] [(2, .int .i64 0)] [] E (by kernel_rfl) trivial ?_
     clear E; intro a E
     refine wpList_nil ?_
     refine th_n ?_
     refine wp_ret ?_
     refine th_ret ?_
     have hx_ := Option.some.inj hP
     refine ret1 E rfl rfl ?_
     exact ⟨_, rfl, (), rfl, H.sel [] rfl, hx_.symm⟩
    clear H
    rintro v285 w284 a ⟨x278, rfl, H, hx_⟩ E_
    subst hx_
    replace E := E_ _ rfl; clear E_
    refine vr tbok 5 [] [(4, .bool true)] [] E (by kernel_rfl) trivial ?_
    clear E; intro a E
    refine wpList_nil ?_
    have hx_ := Option.some.inj hP
    exact .inl ⟨rfl, true, E.pick _ ⟨rfl, trivial⟩, H.sel [] rfl, hx_.symm⟩
   replace E := E_; clear E_
   have h286 : ¬ (r22 = true) := (ne_true_of_eq_false hb_)
   clear hb_; replace hP := ite_f h286 hP
   refine vr tbok 7 [] [(4, .bool false)] [] E (by kernel_rfl) trivial ?_
   clear E; intro a E
   refine wpList_nil ?_
   have hx_ := Option.some.inj hP
   exact .inl ⟨rfl, false, E.pick _ ⟨rfl, trivial⟩, H.sel [] rfl, hx_.symm⟩
  clear E H h269; rintro a w272 ⟨x271, E, H, hx_⟩
  subst hx_; have hP := hK270; clear hK270
  refine th_n ?_
  refine wp_ret ?_
  obtain rfl := Option.some.inj hP
  refine ret1 E rfl rfl ?_
  exact ⟨_, rfl, rfl, H.sel [] rfl⟩
 subst hr_; have hP := (elim_r hP)
 obtain ⟨x49, hxx_⟩ : ∃ y_, y_ = x_ := ⟨_, rfl⟩; subst hxx_
 replace E := E_ _ rfl; clear E_
 obtain ⟨H_, hc43⟩ := hb35 _ _ HR47 rfl
 replace H := H_; clear H_; try dsimp only [setn, addE, goneL] at H
 refine vr tbok 5 [] [(1, .slice A13 (List.length t) c14), (2, .pointer (some ⟨g17, 0, none⟩)), (5, .bool r22), (6, .pointer (some ⟨g45, 0, none⟩)), (7, .int .i64 x49.2)] [] E (by kernel_rfl) trivial ?_
 clear E; intro a E
 refine wpList_nil ?_
 refine th_n ?_
 refine wp_seq ?_
 refine wp_seq ?_
 obtain ⟨x301, h302, hK303⟩ := bind_inv hP
 clear hP
 refine meet_cut (fun a w305 => ∃ (x304 : Bool), Fr a 182 [(1, .slice A13 (List.length t) c14), (2, .pointer (some ⟨g17, 0, none⟩)), (5, .bool r22), (6, .pointer (some ⟨g45, 0, none⟩)), (32, .bool x304)] ∧ Hp S Fa w0 w305 [.ro false (cInt .u8) A13 t, .ro false cBool A1 aAccept, .ro false (cInt .i64) A5 aGuard, .ro false cNode A9 aNodes, .box g17 43 [.int .i64 aProps, .slice A1 (List.length aAccept) c2, .slice A5 (List.length aGuard) c6, .slice A9 (List.length aNodes) c10], .ro true cS78 (some ⟨b46, 0, none⟩) ([x49.1]), .box g45 27 [.pointer (some ⟨b46, 0, none⟩), .slice none 0 0]] ∧ x301 = x304) ?_ ?_
 ·
  have hP := h302; clear h302; rw [law21_WatchTrue_j14] at hP
  refine wp_region_lit ?_
  refine vr tbok 1 [.agg #[.int .i64 aProps, .slice A1 (List.length aAccept) c2, .slice A5 (List.length aGuard) c6, .slice A9 (List.length aNodes) c10]] [(1, .slice A13 (List.length t) c14), (2, .pointer (some ⟨g17, 0, none⟩)), (5, .bool r22), (6, .pointer (some ⟨g45, 0, none⟩)), (7, .int .i64 x49.2), (26, .agg #[.int .i64 aProps, .slice A1 (List.length aAccept) c2, .slice A5 (List.length aGuard) c6, .slice A9 (List.length aNodes) c10])] [cellsAt w40 g17 (0) [.int .i64 aProps, .slice A1 (List.length aAccept) c2, .slice A5 (List.length aGuard) c6, .slice A9 (List.length aNodes) c10]] E (by kernel_rfl) ((H.box 4 rfl).sub 0 _ rfl) ?_
  clear E; intro a E
  obtain ⟨r306, h307, hP⟩ := bind_inv hP
  obtain ⟨Fa308, Hc309, hb310⟩ := H.call [] [(0, false), (1, false), (2, false)] rfl rfl trivial
  refine e_call E rfl rfl Try.func16 rfl rfl rfl (law16_Small_calls A1 c2 A5 c6 A9 c10 aProps aAccept aGuard aNodes hk3 hk7 hk11 Hc309 h307) ?_
  rintro v311 w312 a ⟨rfl, HR313⟩ E_
  replace E := E_ _ rfl; clear E_
  obtain ⟨H_, hc314⟩ := hb310 _ _ HR313 rfl
  replace H := H_; clear H_; try dsimp only [setn, addE, goneL] at H
  refine vr tbok 2 [] [(1, .slice A13 (List.length t) c14), (2, .pointer (some ⟨g17, 0, none⟩)), (5, .bool r22), (6, .pointer (some ⟨g45, 0, none⟩)), (7, .int .i64 x49.2), (29, .bool (!r306))] [] E (by kernel_rfl) trivial ?_
  clear E; intro a E
  refine E.cases (t := 29) rfl (fun hb_ E_ => ?_) (fun hb_ E_ => ?_)
  ·
   replace E := E_; clear E_
   have h315 : ¬ (r306 = true) := (ne_true_of_eq_false (not_t hb_))
   clear hb_; replace hP := ite_f h315 hP
   refine vr tbok 3 [] [(1, .slice A13 (List.length t) c14), (2, .pointer (some ⟨g17, 0, none⟩)), (5, .bool r22), (6, .pointer (some ⟨g45, 0, none⟩)), (32, .bool true)] [] E (by kernel_rfl) trivial ?_
   clear E; intro a E
   refine wpList_nil ?_
   have hx_ := Option.some.inj hP
   exact .inl ⟨rfl, true, E.pick _ ⟨rfl, rfl, rfl, rfl, rfl, trivial⟩, H.sel [3, 0, 1, 2, 4, 6, 5] rfl, hx_.symm⟩
  replace E := E_; clear E_
  have h316 : r306 = true := (not_f hb_)
  clear hb_; replace hP := ite_t h316 hP
  refine vr tbok 3 [] [(1, .slice A13 (List.length t) c14), (2, .pointer (some ⟨g17, 0, none⟩)), (5, .bool r22), (6, .pointer (some ⟨g45, 0, none⟩)), (32, .bool ((x49.2 : Int) != 0))] [] E (by kernel_rfl) trivial ?_
  clear E; intro a E
  refine wpList_nil ?_
  have hx_ := Option.some.inj hP
  exact .inl ⟨rfl, (x49.2 : Int) != 0, E.pick _ ⟨rfl, rfl, rfl, rfl, rfl, trivial⟩, H.sel [3, 0, 1, 2, 4, 6, 5] rfl, hx_.symm⟩
 clear E H h302; rintro a w305 ⟨x304, E, H, hx_⟩
 subst hx_; have hP := hK303; clear hK303
 refine th_n ?_
 refine E.cases (t := 32) rfl (fun hb_ E_ => ?_) (fun hb_ E_ => ?_)
 ·
  replace E := E_; clear E_
  have h317 : x301 = true := hb_
  clear hb_; replace hP := ite_t h317 hP
  refine c_true E rfl ?_
  refine wp_seq ?_
  refine wp_region_lit ?_
  refine vr tbok 2 [] [(4, .bool r22)] [] E (by kernel_rfl) trivial ?_
  clear E; intro a E
  refine wpList_nil ?_
  refine th_n ?_
  refine wp_ret ?_
  refine th_ret ?_
  obtain rfl := Option.some.inj hP
  refine ret1 E rfl rfl ?_
  exact ⟨_, rfl, rfl, H.sel [] rfl⟩
 replace E := E_; clear E_
 have h318 : ¬ (x301 = true) := (ne_true_of_eq_false hb_)
 clear hb_; replace hP := ite_f h318 hP
 refine c_false E rfl ?_
 refine wp_skip ?_
 refine th_n ?_
 refine wp_seq ?_
 refine wp_region_lit ?_
 refine vr tbok 1 [] [(1, .slice A13 (List.length t) c14), (2, .pointer (some ⟨g17, 0, none⟩)), (5, .bool r22), (6, .pointer (some ⟨g45, 0, none⟩)), (34, .pointer (some ⟨g45, 0, none⟩))] [] E (by kernel_rfl) trivial ?_
 clear E; intro a E
 replace H := H.nilrow (cInt .i64) 3; try dsimp only [setn, addE, goneL] at H
 obtain ⟨r320, h321, hP⟩ := bind_inv hP
 obtain ⟨Fa322, Hc323, hb324⟩ := H.call [6, 7] [(5, false)] rfl rfl ⟨flat_plain, trivial⟩
 refine e_call E rfl rfl Try.func12 rfl rfl rfl (watch_Watch_Verdict_calls g45 b46 0 none 0 x49.1 []  Hc323 h321) ?_
 intro v330 w329 a hR331 E_
 obtain ⟨x_, hr_, rfl, HR333⟩ := hR331
 subst hr_
 replace E := E_ _ rfl; clear E_
 obtain ⟨H_, hc332⟩ := hb324 _ _ HR333 rfl
 replace H := H_; clear H_; try dsimp only [setn, addE, goneL] at H
 refine vr tbok 3 [] [(1, .slice A13 (List.length t) c14), (2, .pointer (some ⟨g17, 0, none⟩)), (5, .bool r22), (6, .pointer (some ⟨g45, 0, none⟩)), (8, .int .u8 r320)] [] E (by kernel_rfl) trivial ?_
 clear E; intro a E
 refine wpList_nil ?_
 refine th_n ?_
 refine wp_seq ?_
 refine wp_region_lit ?_
 refine vr tbok 1 [] [(1, .slice A13 (List.length t) c14), (2, .pointer (some ⟨g17, 0, none⟩)), (5, .bool r22), (6, .pointer (some ⟨g45, 0, none⟩)), (8, .int .u8 r320), (37, .pointer (some ⟨g45, 0, none⟩))] [] E (by kernel_rfl) trivial ?_
 clear E; intro a E
 obtain ⟨r336, h337, hP⟩ := bind_inv hP
 obtain ⟨Fa338, Hc339, hb340⟩ := H.call [9, 8] [(5, false)] rfl rfl ⟨flat_plain, trivial⟩
 refine e_call E rfl rfl Try.func11 rfl rfl rfl (watch_Watch_Off_calls g45 b46 0 none 0 x49.1 []  Hc339 h337) ?_
 intro v346 w345 a hR347 E_
 obtain ⟨x_, hr_, rfl, HR349⟩ := hR347
 subst hr_
 replace E := E_ _ rfl; clear E_
 obtain ⟨H_, hc348⟩ := hb340 _ _ HR349 rfl
 replace H := H_; clear H_; try dsimp only [setn, addE, goneL] at H
 refine vr tbok 5 [] [(1, .slice A13 (List.length t) c14), (2, .pointer (some ⟨g17, 0, none⟩)), (5, .bool r22), (6, .pointer (some ⟨g45, 0, none⟩)), (8, .int .u8 r320), (9, .int .i64 r336.1), (10, .int .i64 r336.2)] [] E (by kernel_rfl) trivial ?_
 clear E; intro a E
 refine wpList_nil ?_
 refine th_n ?_
 refine wp_seq ?_
 refine wp_region_lit ?_
 refine vr tbok 1 [] [(1, .slice A13 (List.length t) c14), (2, .pointer (some ⟨g17, 0, none⟩)), (5, .bool r22), (6, .pointer (some ⟨g45, 0, none⟩)), (8, .int .u8 r320), (9, .int .i64 r336.1), (10, .int .i64 r336.2), (11, .slice none 0 0)] [] E (by kernel_rfl) trivial ?_
 clear E; intro a E
 refine wpList_nil ?_
 refine th_n ?_
 refine wp_seq ?_
 refine wp_seq ?_
 refine wp_region_lit ?_
 refine vr tbok 1 [] [(1, .slice A13 (List.length t) c14), (2, .pointer (some ⟨g17, 0, none⟩)), (5, .bool r22), (6, .pointer (some ⟨g45, 0, none⟩)), (8, .int .u8 r320), (9, .int .i64 r336.1), (10, .int .i64 r336.2), (11, .slice none 0 0), (12, .int .i64 0)] [] E (by kernel_rfl) trivial ?_
 clear E; intro a E
 refine wpList_nil ?_
 refine th_n ?_
 refine wp_block ?_
 obtain ⟨x698, hL699, hK700⟩ := bind_inv hP
 clear hP
 replace H := H.nilrow (cInt .u8) 22; try dsimp only [setn, addE, goneL] at H
 refine loop_cut (fun i_ a w_ => (i_ = 0 ∧ ∃ (x704 : (List Int) × (List Int)), ∃ (A691 : Option Addr) (c692 : Nat) (A695 : Option Addr) (c696 : Nat), Fr a 182 [(5, .bool r22), (6, .pointer (some ⟨g45, 0, none⟩)), (11, .slice A695 (List.length x704.2) c696)] ∧ Hp S Fa w0 w_ [.box g45 27 [.pointer (some ⟨b46, 0, none⟩), .slice A691 (List.length x704.1) c692], .ro true cS78 (some ⟨b46, 0, none⟩) ([x49.1]), .row true (cInt .i64) 3 A691 c692 x704.1, .row true (cInt .u8) 22 A695 c696 x704.2] ∧ x698 = Sum.inl x704)) ?_ ?_
 ·
  refine loopV (fun m703 a w702 => ∃ (w515 : List Int) (last518 : Int) (off519 : Int) (f520 : Int) (few522 : List Int) (i525 : Int), ∃ (A516 : Option Addr) (c517 : Nat) (A523 : Option Addr) (c524 : Nat), Fr a 182 [(1, .slice A13 (List.length t) c14), (2, .pointer (some ⟨g17, 0, none⟩)), (5, .bool r22), (6, .pointer (some ⟨g45, 0, none⟩)), (8, .int .u8 last518), (9, .int .i64 off519), (10, .int .i64 f520), (11, .slice A523 (List.length few522) c524), (12, .int .i64 i525)] ∧ Hp S Fa w0 w702 [.ro false (cInt .u8) A13 t, .ro false cBool A1 aAccept, .ro false (cInt .i64) A5 aGuard, .ro false cNode A9 aNodes, .box g17 43 [.int .i64 aProps, .slice A1 (List.length aAccept) c2, .slice A5 (List.length aGuard) c6, .slice A9 (List.length aNodes) c10], .box g45 27 [.pointer (some ⟨b46, 0, none⟩), .slice A516 (List.length w515) c517], .ro true cS78 (some ⟨b46, 0, none⟩) ([x49.1]), .row true (cInt .i64) 3 A516 c517 w515, .row true (cInt .u8) 22 A523 c524 few522] ∧ law21_WatchTrue_l15 N aProps aAccept aGuard aNodes t x49 m703 w515 last518 off519 f520 few522 i525 = some x698) N ?_ ?_
  ·
   exact ⟨[], r320, r336.1, r336.2, [], 0, none, 0, none, 0, E.pick _ ⟨rfl, rfl, rfl, rfl, rfl, rfl, rfl, rfl, rfl, trivial⟩, H.sel [0, 1, 2, 3, 4, 11, 5, 10, 12] rfl, hL699⟩
  clear E H hL699; intro m703 a w702 hI_
  obtain ⟨w515, last518, off519, f520, few522, i525, A516, c517, A523, c524, E, H, hP⟩ := hI_
  obtain ⟨m697, rfl⟩ : ∃ q_, m703 = q_ + 1 := by cases m703 with | zero => rw [law21_WatchTrue_l15] at hP; cases hP | succ q_ => exact ⟨q_, rfl⟩
  rw [law21_WatchTrue_l15] at hP
  refine wp_seq ?_
  refine wp_seq ?_
  obtain ⟨x708, h709, hK710⟩ := bind_inv hP
  clear hP
  refine meet_cut (fun a w712 => ∃ (x711 : Bool), Fr a 182 [(1, .slice A13 (List.length t) c14), (2, .pointer (some ⟨g17, 0, none⟩)), (5, .bool r22), (6, .pointer (some ⟨g45, 0, none⟩)), (8, .int .u8 last518), (9, .int .i64 off519), (10, .int .i64 f520), (11, .slice A523 (List.length few522) c524), (12, .int .i64 i525), (48, .bool x711)] ∧ Hp S Fa w0 w712 [.ro false (cInt .u8) A13 t, .ro false cBool A1 aAccept, .ro false (cInt .i64) A5 aGuard, .ro false cNode A9 aNodes, .box g17 43 [.int .i64 aProps, .slice A1 (List.length aAccept) c2, .slice A5 (List.length aGuard) c6, .slice A9 (List.length aNodes) c10], .ro true cS78 (some ⟨b46, 0, none⟩) ([x49.1]), .row true (cInt .i64) 3 A516 c517 w515, .box g45 27 [.pointer (some ⟨b46, 0, none⟩), .slice A516 (List.length w515) c517], .row true (cInt .u8) 22 A523 c524 few522] ∧ x708 = x711) ?_ ?_
  ·
   have hP := h709; clear h709; rw [law21_WatchTrue_j16] at hP
   refine wp_region_lit ?_
   refine vr tbok 5 [] [(1, .slice A13 (List.length t) c14), (2, .pointer (some ⟨g17, 0, none⟩)), (5, .bool r22), (6, .pointer (some ⟨g45, 0, none⟩)), (8, .int .u8 last518), (9, .int .i64 off519), (10, .int .i64 f520), (11, .slice A523 (List.length few522) c524), (12, .int .i64 i525), (45, .bool (decide (i525 < (((List.length t) : Nat) : Int))))] [] E (by kernel_rfl) trivial ?_
   clear E; intro a E
   refine E.cases (t := 45) rfl (fun hb_ E_ => ?_) (fun hb_ E_ => ?_)
   ·
    replace E := E_; clear E_
    have h713 : i525 < (((List.length t) : Nat) : Int) := of_decide_eq_true hb_
    clear hb_; replace hP := ite_t h713 hP
    refine vr tbok 3 [] [(1, .slice A13 (List.length t) c14), (2, .pointer (some ⟨g17, 0, none⟩)), (5, .bool r22), (6, .pointer (some ⟨g45, 0, none⟩)), (8, .int .u8 last518), (9, .int .i64 off519), (10, .int .i64 f520), (11, .slice A523 (List.length few522) c524), (12, .int .i64 i525), (48, .bool (decide (i525 < 60)))] [] E (by kernel_rfl) trivial ?_
    clear E; intro a E
    refine wpList_nil ?_
    have hx_ := Option.some.inj hP
    exact .inl ⟨rfl, decide (i525 < 60), E.pick _ ⟨rfl, rfl, rfl, rfl, rfl, rfl, rfl, rfl, rfl, rfl, trivial⟩, H.sel [0, 1, 2, 3, 4, 6, 7, 5, 8] rfl, hx_.symm⟩
   replace E := E_; clear E_
   have h714 : ¬ (i525 < (((List.length t) : Nat) : Int)) := of_decide_eq_false hb_
   clear hb_; replace hP := ite_f h714 hP
   refine vr tbok 3 [] [(1, .slice A13 (List.length t) c14), (2, .pointer (some ⟨g17, 0, none⟩)), (5, .bool r22), (6, .pointer (some ⟨g45, 0, none⟩)), (8, .int .u8 last518), (9, .int .i64 off519), (10, .int .i64 f520), (11, .slice A523 (List.length few522) c524), (12, .int .i64 i525), (48, .bool false)] [] E (by kernel_rfl) trivial ?_
   clear E; intro a E
   refine wpList_nil ?_
   have hx_ := Option.some.inj hP
   exact .inl ⟨rfl, false, E.pick _ ⟨rfl, rfl, rfl, rfl, rfl, rfl, rfl, rfl, rfl, rfl, trivial⟩, H.sel [0, 1, 2, 3, 4, 6, 7, 5, 8] rfl, hx_.symm⟩
  clear E H h709; rintro a w712 ⟨x711, E, H, hx_⟩
  subst hx_; have hP := hK710; clear hK710
  refine th_n ?_
  refine E.cases (t := 48) rfl (fun hb_ E_ => ?_) (fun hb_ E_ => ?_)
  ·
   replace E := E_; clear E_
   have h715 : x708 = true := hb_
   clear hb_; replace hP := ite_t h715 hP
   refine c_true E rfl ?_
   refine wp_skip ?_
   refine th_n ?_
   refine wp_seq ?_
   refine wp_block ?_
   refine wp_seq ?_
   obtain ⟨g716, hP⟩ := ask_inv hP
   obtain ⟨b717, o718, e_b717⟩ := (H.rd 0 rds_ro).addr (idx_pos g716)
   subst e_b717
   obtain ⟨g719, hP⟩ := ask_inv hP
   have HR723 := H
   refine dr_start (S := fun w_ => Chg (atL []) w712 w_) (by kernel_rfl) ?_
   intro w720 hc721
   have HS722 : Chg (atL []) w712 w720 := hc721.mono (fun _ _ h_ => h_.elim)
   replace H := H.ext hc721
   refine dr tbok (by kernel_rfl) [0, 1, 2, 3, 4, 5, 6, 7, 8, 9] [.int .u8 (List.getD t (Int.toNat i525) 0), .int .i64 aProps, .int .u8 (shlV .u8 1 aProps), .int .u8 (IntKind.u8.wrap ((shlV .u8 1 aProps) - 1)), .int .u8 (andV .u8 (List.getD t (Int.toNat i525) 0) (IntKind.u8.wrap ((shlV .u8 1 aProps) - 1)))] [(1, .slice (some ⟨b717, o718, none⟩) (List.length t) c14), (2, .pointer (some ⟨g17, 0, none⟩)), (5, .bool r22), (6, .pointer (some ⟨g45, 0, none⟩)), (8, .int .u8 last518), (9, .int .i64 off519), (10, .int .i64 f520), (11, .slice A523 (List.length few522) c524), (12, .int .i64 i525), (13, .int .u8 (andV .u8 (List.getD t (Int.toNat i525) 0) (IntKind.u8.wrap ((shlV .u8 1 aProps) - 1))))] (fun w_ => [0 ≤ i525 ∧ i525 < (((List.length t) : Nat) : Int), World.cell? w_ ⟨b717, o718 + (Int.toNat i525) * 1, none⟩ = some (.int .u8 (List.getD t (Int.toNat i525) 0)), World.cell? w_ ⟨g17, 0, none⟩ = some (.int .i64 aProps), 0 ≤ aProps ∧ IntKind.u8.wrap (1 * 2 ^ (min (Int.toNat aProps) (IntKind.bits .u8))) = shlV .u8 1 aProps, IntKind.u8.wrap ((shlV .u8 1 aProps) - 1) = IntKind.u8.wrap ((shlV .u8 1 aProps) - 1), IntKind.u8.wrap (BitVec.ofInt (IntKind.bits .u8) (List.getD t (Int.toNat i525) 0) &&& BitVec.ofInt (IntKind.bits .u8) (IntKind.u8.wrap ((shlV .u8 1 aProps) - 1))).toNat = andV .u8 (List.getD t (Int.toNat i525) 0) (IntKind.u8.wrap ((shlV .u8 1 aProps) - 1))]) 0 E (fun _ _ => by kernel_rfl) (fun w_ hS_ => ⟨g716, Rds.at1 (HR723.rdk [] hS_ 0 rds_ro rfl) 0 g716, (HR723.boxk [] hS_ 4 rfl rfl).cell (j := 0) rfl, ⟨g719, rfl⟩, rfl, rfl⟩) (by kernel_rfl) HS722 ?_
   clear E; intro a E
   refine dr_done (by kernel_rfl) ?_
   clear HS722 HR723
   refine th_n ?_
   refine wp_seq ?_
   refine wp_region_lit ?_
   refine vr tbok 2 [] [(1, .slice (some ⟨b717, o718, none⟩) (List.length t) c14), (2, .pointer (some ⟨g17, 0, none⟩)), (5, .bool r22), (6, .pointer (some ⟨g45, 0, none⟩)), (8, .int .u8 last518), (9, .int .i64 off519), (10, .int .i64 f520), (12, .int .i64 i525), (13, .int .u8 (andV .u8 (List.getD t (Int.toNat i525) 0) (IntKind.u8.wrap ((shlV .u8 1 aProps) - 1)))), (60, .slice A523 (List.length few522) c524), (61, .int .u8 (andV .u8 (List.getD t (Int.toNat i525) 0) (IntKind.u8.wrap ((shlV .u8 1 aProps) - 1))))] [] E (by kernel_rfl) trivial ?_
   clear E; intro a E
   refine h_buildSlice (ps := [(0, .int .u8 (andV .u8 (List.getD t (Int.toNat i525) 0) (IntKind.u8.wrap ((shlV .u8 1 aProps) - 1))))]) (cs := [.int .u8 (andV .u8 (List.getD t (Int.toNat i525) 0) (IntKind.u8.wrap ((shlV .u8 1 aProps) - 1)))]) H E rfl rfl tbok rfl rfl (by kernel_rfl) ?_
   intro w725 g724 a hc726 hg728 H_ E_
   replace E := E_ _ rfl; clear E_
   replace H := H_; clear H_; try dsimp only [setn, addE, goneL] at H
   obtain ⟨g729, hP⟩ := ask_inv hP
   refine h_append (cInt .u8) (xs := few522) (ys := ([andV .u8 (List.getD t (Int.toNat i525) 0) (IntKind.u8.wrap ((shlV .u8 1 aProps) - 1))] : List Int)) (0 : Int) H 8 rfl E rfl rfl tbok rfl rfl rfl rfl rfl (fun _ _ => rfl) rfl rfl (fun _ HF_ => HF_.srcB 9 rfl (⟨_, _, rfl, rfl, rfl⟩)) g729 ?_
   intro w730 A731 c732 a hc733 hA734 H_ E_
   replace E := E_ _ rfl; clear E_
   replace H := H_; clear H_; try dsimp only [setn, addE, goneL] at H
   refine vr tbok 1 [] [(1, .slice (some ⟨b717, o718, none⟩) (List.length t) c14), (2, .pointer (some ⟨g17, 0, none⟩)), (5, .bool r22), (6, .pointer (some ⟨g45, 0, none⟩)), (8, .int .u8 last518), (9, .int .i64 off519), (10, .int .i64 f520), (11, .slice A731 (List.length (few522 ++ ([andV .u8 (List.getD t (Int.toNat i525) 0) (IntKind.u8.wrap ((shlV .u8 1 aProps) - 1))] : List Int))) c732), (12, .int .i64 i525), (13, .int .u8 (andV .u8 (List.getD t (Int.toNat i525) 0) (IntKind.u8.wrap ((shlV .u8 1 aProps) - 1))))] [] E (by kernel_rfl) trivial ?_
   clear E; intro a E
   refine wpList_nil ?_
   refine th_n ?_
   refine wp_seq ?_
   refine wp_region_lit ?_
   refine vr tbok 2 [] [(1, .slice (some ⟨b717, o718, none⟩) (List.length t) c14), (2, .pointer (some ⟨g17, 0, none⟩)), (5, .bool r22), (6, .pointer (some ⟨g45, 0, none⟩)), (8, .int .u8 last518), (9, .int .i64 off519), (10, .int .i64 f520), (11, .slice A731 (List.length (few522 ++ ([andV .u8 (List.getD t (Int.toNat i525) 0) (IntKind.u8.wrap ((shlV .u8 1 aProps) - 1))] : List Int))) c732), (12, .int .i64 i525), (65, .pointer (some ⟨g45, 0, none⟩)), (66, .int .u8 (andV .u8 (List.getD t (Int.toNat i525) 0) (IntKind.u8.wrap ((shlV .u8 1 aProps) - 1))))] [] E (by kernel_rfl) trivial ?_
   clear E; intro a E
   obtain ⟨r735, h736, hP⟩ := bind_inv hP
   obtain ⟨Fa737, Hc738, hb739⟩ := H.call [7, 6] [(5, false)] rfl rfl ⟨flat_plain, trivial⟩
   refine e_call E rfl rfl Try.func9 rfl rfl rfl (watch_Watch_Feed_calls g45 b46 0 A516 c517 x49.1 w515 (andV .u8 (List.getD t (Int.toNat i525) 0) (IntKind.u8.wrap ((shlV .u8 1 aProps) - 1)))  Hc738 h736) ?_
   intro v745 w744 a hR746 E_
   obtain ⟨x_, A749, c750, hr_, rfl, HR748⟩ := hR746
   subst hr_
   replace E := E_ _ rfl; clear E_
   obtain ⟨H_, hc747⟩ := hb739 _ _ HR748 rfl
   replace H := H_; clear H_; try dsimp only [setn, addE, goneL] at H
   refine vr tbok 5 [] [(1, .slice (some ⟨b717, o718, none⟩) (List.length t) c14), (2, .pointer (some ⟨g17, 0, none⟩)), (5, .bool r22), (6, .pointer (some ⟨g45, 0, none⟩)), (8, .int .u8 last518), (9, .int .i64 off519), (10, .int .i64 f520), (11, .slice A731 (List.length (few522 ++ ([andV .u8 (List.getD t (Int.toNat i525) 0) (IntKind.u8.wrap ((shlV .u8 1 aProps) - 1))] : List Int))) c732), (12, .int .i64 i525), (14, .int .u8 r735.1), (15, .int .i64 r735.2.1)] [] E (by kernel_rfl) trivial ?_
   clear E; intro a E
   refine wpList_nil ?_
   refine th_n ?_
   refine wp_seq ?_
   refine wp_region_lit ?_
   refine vr tbok 2 [.agg #[.int .i64 aProps, .slice A1 (List.length aAccept) c2, .slice A5 (List.length aGuard) c6, .slice A9 (List.length aNodes) c10]] [(1, .slice (some ⟨b717, o718, none⟩) (List.length t) c14), (2, .pointer (some ⟨g17, 0, none⟩)), (5, .bool r22), (6, .pointer (some ⟨g45, 0, none⟩)), (8, .int .u8 last518), (9, .int .i64 off519), (10, .int .i64 f520), (11, .slice A731 (List.length (few522 ++ ([andV .u8 (List.getD t (Int.toNat i525) 0) (IntKind.u8.wrap ((shlV .u8 1 aProps) - 1))] : List Int))) c732), (12, .int .i64 i525), (14, .int .u8 r735.1), (15, .int .i64 r735.2.1), (71, .agg #[.int .i64 aProps, .slice A1 (List.length aAccept) c2, .slice A5 (List.length aGuard) c6, .slice A9 (List.length aNodes) c10]), (72, .slice A731 (List.length (few522 ++ ([andV .u8 (List.getD t (Int.toNat i525) 0) (IntKind.u8.wrap ((shlV .u8 1 aProps) - 1))] : List Int))) c732)] [cellsAt w744 g17 (0) [.int .i64 aProps, .slice A1 (List.length aAccept) c2, .slice A5 (List.length aGuard) c6, .slice A9 (List.length aNodes) c10]] E (by kernel_rfl) ((H.box 4 rfl).sub 0 _ rfl) ?_
   clear E; intro a E
   obtain ⟨r753, h754, hP⟩ := bind_inv hP
   obtain ⟨Fa755, Hc756, hb757⟩ := H.call [] [(1, false), (2, false), (3, false), (8, false)] rfl rfl trivial
   refine e_call E rfl rfl Try.func31 rfl rfl rfl (canon_Run_calls A1 c2 A5 c6 A9 c10 A731 c732 aProps aAccept aGuard aNodes (few522 ++ ([andV .u8 (List.getD t (Int.toNat i525) 0) (IntKind.u8.wrap ((shlV .u8 1 aProps) - 1))] : List Int)) hk3 hk7 hk11 (H.rcap 8 rfl) Hc756 h754) ?_
   rintro v758 w759 a ⟨rfl, HR760⟩ E_
   replace E := E_ _ rfl; clear E_
   obtain ⟨H_, hc761⟩ := hb757 _ _ HR760 rfl
   replace H := H_; clear H_; try dsimp only [setn, addE, goneL] at H
   refine vr tbok 5 [] [(1, .slice (some ⟨b717, o718, none⟩) (List.length t) c14), (2, .pointer (some ⟨g17, 0, none⟩)), (5, .bool r22), (6, .pointer (some ⟨g45, 0, none⟩)), (8, .int .u8 last518), (9, .int .i64 off519), (10, .int .i64 f520), (11, .slice A731 (List.length (few522 ++ ([andV .u8 (List.getD t (Int.toNat i525) 0) (IntKind.u8.wrap ((shlV .u8 1 aProps) - 1))] : List Int))) c732), (12, .int .i64 i525), (14, .int .u8 r735.1), (15, .int .i64 r735.2.1), (16, .int .i64 r753.1), (17, .int .i64 r753.2)] [] E (by kernel_rfl) trivial ?_
   clear E; intro a E
   refine wpList_nil ?_
   refine th_n ?_
   refine wp_seq ?_
   refine wp_region_lit ?_
   refine vr tbok 1 [] [(1, .slice (some ⟨b717, o718, none⟩) (List.length t) c14), (2, .pointer (some ⟨g17, 0, none⟩)), (5, .bool r22), (6, .pointer (some ⟨g45, 0, none⟩)), (8, .int .u8 last518), (9, .int .i64 off519), (10, .int .i64 f520), (11, .slice A731 (List.length (few522 ++ ([andV .u8 (List.getD t (Int.toNat i525) 0) (IntKind.u8.wrap ((shlV .u8 1 aProps) - 1))] : List Int))) c732), (12, .int .i64 i525), (14, .int .u8 r735.1), (15, .int .i64 r735.2.1), (16, .int .i64 r753.1), (17, .int .i64 r753.2), (77, .pointer (some ⟨g45, 0, none⟩))] [] E (by kernel_rfl) trivial ?_
   clear E; intro a E
   obtain ⟨r762, h763, hP⟩ := bind_inv hP
   obtain ⟨Fa764, Hc765, hb766⟩ := H.call [10, 11] [(5, false)] rfl rfl ⟨flat_plain, trivial⟩
   refine e_call E rfl rfl Try.func11 rfl rfl rfl (watch_Watch_Off_calls g45 b46 0 A749 c750 x49.1 r735.2.2  Hc765 h763) ?_
   intro v772 w771 a hR773 E_
   obtain ⟨x_, hr_, rfl, HR775⟩ := hR773
   subst hr_
   replace E := E_ _ rfl; clear E_
   obtain ⟨H_, hc774⟩ := hb766 _ _ HR775 rfl
   replace H := H_; clear H_; try dsimp only [setn, addE, goneL] at H
   refine vr tbok 5 [] [(1, .slice (some ⟨b717, o718, none⟩) (List.length t) c14), (2, .pointer (some ⟨g17, 0, none⟩)), (5, .bool r22), (6, .pointer (some ⟨g45, 0, none⟩)), (8, .int .u8 last518), (9, .int .i64 off519), (10, .int .i64 f520), (11, .slice A731 (List.length (few522 ++ ([andV .u8 (List.getD t (Int.toNat i525) 0) (IntKind.u8.wrap ((shlV .u8 1 aProps) - 1))] : List Int))) c732), (12, .int .i64 i525), (14, .int .u8 r735.1), (15, .int .i64 r735.2.1), (16, .int .i64 r753.1), (17, .int .i64 r753.2), (18, .int .i64 r762.1), (19, .int .i64 r762.2)] [] E (by kernel_rfl) trivial ?_
   clear E; intro a E
   refine wpList_nil ?_
   refine th_n ?_
   refine wp_seq ?_
   refine wp_seq ?_
   obtain ⟨x821, h822, hK823⟩ := bind_inv hP
   clear hP
   refine meet_cut (fun a w825 => ∃ (x824 : Bool), Fr a 182 [(1, .slice (some ⟨b717, o718, none⟩) (List.length t) c14), (2, .pointer (some ⟨g17, 0, none⟩)), (5, .bool r22), (6, .pointer (some ⟨g45, 0, none⟩)), (8, .int .u8 last518), (9, .int .i64 off519), (10, .int .i64 f520), (11, .slice A731 (List.length (few522 ++ ([andV .u8 (List.getD t (Int.toNat i525) 0) (IntKind.u8.wrap ((shlV .u8 1 aProps) - 1))] : List Int))) c732), (12, .int .i64 i525), (14, .int .u8 r735.1), (16, .int .i64 r753.1), (18, .int .i64 r762.1), (19, .int .i64 r762.2), (109, .bool x824)] ∧ Hp S Fa w0 w825 [.ro false (cInt .u8) (some ⟨b717, o718, none⟩) t, .ro false cBool A1 aAccept, .ro false (cInt .i64) A5 aGuard, .ro false cNode A9 aNodes, .box g17 43 [.int .i64 aProps, .slice A1 (List.length aAccept) c2, .slice A5 (List.length aGuard) c6, .slice A9 (List.length aNodes) c10], .ro true cS78 (some ⟨b46, 0, none⟩) ([x49.1]), .row true (cInt .i64) 3 A749 c750 r735.2.2, .box g45 27 [.pointer (some ⟨b46, 0, none⟩), .slice A749 (List.length r735.2.2) c750], .row true (cInt .u8) 22 A731 c732 (few522 ++ ([andV .u8 (List.getD t (Int.toNat i525) 0) (IntKind.u8.wrap ((shlV .u8 1 aProps) - 1))] : List Int))] ∧ x821 = x824) ?_ ?_
   ·
    have hP := h822; clear h822; rw [law21_WatchTrue_j17] at hP
    refine wp_region_lit ?_
    refine vr tbok 3 [] [(1, .slice (some ⟨b717, o718, none⟩) (List.length t) c14), (2, .pointer (some ⟨g17, 0, none⟩)), (5, .bool r22), (6, .pointer (some ⟨g45, 0, none⟩)), (8, .int .u8 last518), (9, .int .i64 off519), (10, .int .i64 f520), (11, .slice A731 (List.length (few522 ++ ([andV .u8 (List.getD t (Int.toNat i525) 0) (IntKind.u8.wrap ((shlV .u8 1 aProps) - 1))] : List Int))) c732), (12, .int .i64 i525), (14, .int .u8 r735.1), (16, .int .i64 r753.1), (17, .int .i64 r753.2), (18, .int .i64 r762.1), (19, .int .i64 r762.2), (83, .bool ((r735.2.1 : Int) != 0))] [] E (by kernel_rfl) trivial ?_
    clear E; intro a E
    refine E.cases (t := 83) rfl (fun hb_ E_ => ?_) (fun hb_ E_ => ?_)
    ·
     replace E := E_; clear E_
     have h826 : ¬ ((r735.2.1 : Int) = 0) := bne_iff_ne.1 hb_
     clear hb_; replace hP := ite_f h826 hP
     refine vr tbok 26 [] [(1, .slice (some ⟨b717, o718, none⟩) (List.length t) c14), (2, .pointer (some ⟨g17, 0, none⟩)), (5, .bool r22), (6, .pointer (some ⟨g45, 0, none⟩)), (8, .int .u8 last518), (9, .int .i64 off519), (10, .int .i64 f520), (11, .slice A731 (List.length (few522 ++ ([andV .u8 (List.getD t (Int.toNat i525) 0) (IntKind.u8.wrap ((shlV .u8 1 aProps) - 1))] : List Int))) c732), (12, .int .i64 i525), (14, .int .u8 r735.1), (16, .int .i64 r753.1), (18, .int .i64 r762.1), (19, .int .i64 r762.2), (109, .bool true)] [] E (by kernel_rfl) trivial ?_
     clear E; intro a E
     refine wpList_nil ?_
     have hx_ := Option.some.inj hP
     exact .inl ⟨rfl, true, E.pick _ ⟨rfl, rfl, rfl, rfl, rfl, rfl, rfl, rfl, rfl, rfl, rfl, rfl, rfl, rfl, trivial⟩, H.sel [0, 1, 2, 3, 4, 5, 12, 13, 8] rfl, hx_.symm⟩
    replace E := E_; clear E_
    have h827 : (r735.2.1 : Int) = 0 := bne_eq_false_iff_eq.1 hb_
    clear hb_; replace hP := ite_t h827 hP
    refine vr tbok 4 [] [(1, .slice (some ⟨b717, o718, none⟩) (List.length t) c14), (2, .pointer (some ⟨g17, 0, none⟩)), (5, .bool r22), (6, .pointer (some ⟨g45, 0, none⟩)), (8, .int .u8 last518), (9, .int .i64 off519), (10, .int .i64 f520), (11, .slice A731 (List.length (few522 ++ ([andV .u8 (List.getD t (Int.toNat i525) 0) (IntKind.u8.wrap ((shlV .u8 1 aProps) - 1))] : List Int))) c732), (12, .int .i64 i525), (14, .int .u8 r735.1), (16, .int .i64 r753.1), (18, .int .i64 r762.1), (19, .int .i64 r762.2), (87, .bool ((r753.2 : Int) != 0))] [] E (by kernel_rfl) trivial ?_
    clear E; intro a E
    refine E.cases (t := 87) rfl (fun hb_ E_ => ?_) (fun hb_ E_ => ?_)
    ·
     replace E := E_; clear E_
     have h828 : ¬ ((r753.2 : Int) = 0) := bne_iff_ne.1 hb_
     clear hb_; replace hP := ite_f h828 hP
     refine vr tbok 22 [] [(1, .slice (some ⟨b717, o718, none⟩) (List.length t) c14), (2, .pointer (some ⟨g17, 0, none⟩)), (5, .bool r22), (6, .pointer (some ⟨g45, 0, none⟩)), (8, .int .u8 last518), (9, .int .i64 off519), (10, .int .i64 f520), (11, .slice A731 (List.length (few522 ++ ([andV .u8 (List.getD t (Int.toNat i525) 0) (IntKind.u8.wrap ((shlV .u8 1 aProps) - 1))] : List Int))) c732), (12, .int .i64 i525), (14, .int .u8 r735.1), (16, .int .i64 r753.1), (18, .int .i64 r762.1), (19, .int .i64 r762.2), (109, .bool true)] [] E (by kernel_rfl) trivial ?_
     clear E; intro a E
     refine wpList_nil ?_
     have hx_ := Option.some.inj hP
     exact .inl ⟨rfl, true, E.pick _ ⟨rfl, rfl, rfl, rfl, rfl, rfl, rfl, rfl, rfl, rfl, rfl, rfl, rfl, rfl, trivial⟩, H.sel [0, 1, 2, 3, 4, 5, 12, 13, 8] rfl, hx_.symm⟩
    replace E := E_; clear E_
    have h829 : (r753.2 : Int) = 0 := bne_eq_false_iff_eq.1 hb_
    clear hb_; replace hP := ite_t h829 hP
    refine vr tbok 4 [] [(1, .slice (some ⟨b717, o718, none⟩) (List.length t) c14), (2, .pointer (some ⟨g17, 0, none⟩)), (5, .bool r22), (6, .pointer (some ⟨g45, 0, none⟩)), (8, .int .u8 last518), (9, .int .i64 off519), (10, .int .i64 f520), (11, .slice A731 (List.length (few522 ++ ([andV .u8 (List.getD t (Int.toNat i525) 0) (IntKind.u8.wrap ((shlV .u8 1 aProps) - 1))] : List Int))) c732), (12, .int .i64 i525), (14, .int .u8 r735.1), (16, .int .i64 r753.1), (18, .int .i64 r762.1), (19, .int .i64 r762.2), (91, .bool (decide (r753.1 < 0)))] [] E (by kernel_rfl) trivial ?_
    clear E; intro a E
    refine E.cases (t := 91) rfl (fun hb_ E_ => ?_) (fun hb_ E_ => ?_)
    ·
     replace E := E_; clear E_
     have h830 : r753.1 < 0 := of_decide_eq_true hb_
     clear hb_; replace hP := ite_t h830 hP
     refine vr tbok 18 [] [(1, .slice (some ⟨b717, o718, none⟩) (List.length t) c14), (2, .pointer (some ⟨g17, 0, none⟩)), (5, .bool r22), (6, .pointer (some ⟨g45, 0, none⟩)), (8, .int .u8 last518), (9, .int .i64 off519), (10, .int .i64 f520), (11, .slice A731 (List.length (few522 ++ ([andV .u8 (List.getD t (Int.toNat i525) 0) (IntKind.u8.wrap ((shlV .u8 1 aProps) - 1))] : List Int))) c732), (12, .int .i64 i525), (14, .int .u8 r735.1), (16, .int .i64 r753.1), (18, .int .i64 r762.1), (19, .int .i64 r762.2), (109, .bool true)] [] E (by kernel_rfl) trivial ?_
     clear E; intro a E
     refine wpList_nil ?_
     have hx_ := Option.some.inj hP
     exact .inl ⟨rfl, true, E.pick _ ⟨rfl, rfl, rfl, rfl, rfl, rfl, rfl, rfl, rfl, rfl, rfl, rfl, rfl, rfl, trivial⟩, H.sel [0, 1, 2, 3, 4, 5, 12, 13, 8] rfl, hx_.symm⟩
    replace E := E_; clear E_
    have h831 : ¬ (r753.1 < 0) := of_decide_eq_false hb_
    clear hb_; replace hP := ite_f h831 hP
    refine vr tbok 7 [.slice A1 (List.length aAccept) c2] [(1, .slice (some ⟨b717, o718, none⟩) (List.length t) c14), (2, .pointer (some ⟨g17, 0, none⟩)), (5, .bool r22), (6, .pointer (some ⟨g45, 0, none⟩)), (8, .int .u8 last518), (9, .int .i64 off519), (10, .int .i64 f520), (11, .slice A731 (List.length (few522 ++ ([andV .u8 (List.getD t (Int.toNat i525) 0) (IntKind.u8.wrap ((shlV .u8 1 aProps) - 1))] : List Int))) c732), (12, .int .i64 i525), (14, .int .u8 r735.1), (16, .int .i64 r753.1), (18, .int .i64 r762.1), (19, .int .i64 r762.2), (98, .bool (decide ((((List.length aAccept) : Nat) : Int) ≤ r753.1)))] [World.cell? w771 ⟨g17, 1, none⟩ = some (.slice A1 (List.length aAccept) c2)] E (by kernel_rfl) ((H.box 4 rfl).cell (j := 1) rfl) ?_
    clear E; intro a E
    refine E.cases (t := 98) rfl (fun hb_ E_ => ?_) (fun hb_ E_ => ?_)
    ·
     replace E := E_; clear E_
     have h832 : (((List.length aAccept) : Nat) : Int) ≤ r753.1 := of_decide_eq_true hb_
     clear hb_; replace hP := ite_t h832 hP
     refine vr tbok 11 [] [(1, .slice (some ⟨b717, o718, none⟩) (List.length t) c14), (2, .pointer (some ⟨g17, 0, none⟩)), (5, .bool r22), (6, .pointer (some ⟨g45, 0, none⟩)), (8, .int .u8 last518), (9, .int .i64 off519), (10, .int .i64 f520), (11, .slice A731 (List.length (few522 ++ ([andV .u8 (List.getD t (Int.toNat i525) 0) (IntKind.u8.wrap ((shlV .u8 1 aProps) - 1))] : List Int))) c732), (12, .int .i64 i525), (14, .int .u8 r735.1), (16, .int .i64 r753.1), (18, .int .i64 r762.1), (19, .int .i64 r762.2), (109, .bool true)] [] E (by kernel_rfl) trivial ?_
     clear E; intro a E
     refine wpList_nil ?_
     have hx_ := Option.some.inj hP
     exact .inl ⟨rfl, true, E.pick _ ⟨rfl, rfl, rfl, rfl, rfl, rfl, rfl, rfl, rfl, rfl, rfl, rfl, rfl, rfl, trivial⟩, H.sel [0, 1, 2, 3, 4, 5, 12, 13, 8] rfl, hx_.symm⟩
    replace E := E_; clear E_
    have h833 : ¬ ((((List.length aAccept) : Nat) : Int) ≤ r753.1) := of_decide_eq_false hb_
    clear hb_; replace hP := ite_f h833 hP
    refine vr tbok 1 [] [(1, .slice (some ⟨b717, o718, none⟩) (List.length t) c14), (2, .pointer (some ⟨g17, 0, none⟩)), (5, .bool r22), (6, .pointer (some ⟨g45, 0, none⟩)), (8, .int .u8 last518), (9, .int .i64 off519), (10, .int .i64 f520), (11, .slice A731 (List.length (few522 ++ ([andV .u8 (List.getD t (Int.toNat i525) 0) (IntKind.u8.wrap ((shlV .u8 1 aProps) - 1))] : List Int))) c732), (12, .int .i64 i525), (14, .int .u8 r735.1), (16, .int .i64 r753.1), (18, .int .i64 r762.1), (19, .int .i64 r762.2), (98, .bool false), (99, .pointer (some ⟨g45, 0, none⟩))] [] E (by kernel_rfl) trivial ?_
    clear E; intro a E
    obtain ⟨r834, h835, hP⟩ := bind_inv hP
    obtain ⟨Fa836, Hc837, hb838⟩ := H.call [13, 12] [(5, false)] rfl rfl ⟨flat_plain, trivial⟩
    refine e_call E rfl rfl Try.func13 rfl rfl rfl (watch_Watch_State_calls g45 b46 0 A749 c750 x49.1 r735.2.2  Hc837 h835) ?_
    intro v844 w843 a hR845 E_
    obtain ⟨x_, hr_, rfl, HR847⟩ := hR845
    subst hr_
    replace E := E_ _ rfl; clear E_
    obtain ⟨H_, hc846⟩ := hb838 _ _ HR847 rfl
    replace H := H_; clear H_; try dsimp only [setn, addE, goneL] at H
    refine vr tbok 4 [] [(1, .slice (some ⟨b717, o718, none⟩) (List.length t) c14), (2, .pointer (some ⟨g17, 0, none⟩)), (5, .bool r22), (6, .pointer (some ⟨g45, 0, none⟩)), (8, .int .u8 last518), (9, .int .i64 off519), (10, .int .i64 f520), (11, .slice A731 (List.length (few522 ++ ([andV .u8 (List.getD t (Int.toNat i525) 0) (IntKind.u8.wrap ((shlV .u8 1 aProps) - 1))] : List Int))) c732), (12, .int .i64 i525), (14, .int .u8 r735.1), (16, .int .i64 r753.1), (18, .int .i64 r762.1), (19, .int .i64 r762.2), (104, .bool ((r834 : Int) != r753.1))] [] E (by kernel_rfl) trivial ?_
    clear E; intro a E
    refine E.cases (t := 104) rfl (fun hb_ E_ => ?_) (fun hb_ E_ => ?_)
    ·
     replace E := E_; clear E_
     have h850 : ¬ ((r834 : Int) = r753.1) := bne_iff_ne.1 hb_
     clear hb_; replace hP := ite_f h850 hP
     refine vr tbok 5 [] [(1, .slice (some ⟨b717, o718, none⟩) (List.length t) c14), (2, .pointer (some ⟨g17, 0, none⟩)), (5, .bool r22), (6, .pointer (some ⟨g45, 0, none⟩)), (8, .int .u8 last518), (9, .int .i64 off519), (10, .int .i64 f520), (11, .slice A731 (List.length (few522 ++ ([andV .u8 (List.getD t (Int.toNat i525) 0) (IntKind.u8.wrap ((shlV .u8 1 aProps) - 1))] : List Int))) c732), (12, .int .i64 i525), (14, .int .u8 r735.1), (16, .int .i64 r753.1), (18, .int .i64 r762.1), (19, .int .i64 r762.2), (109, .bool true)] [] E (by kernel_rfl) trivial ?_
     clear E; intro a E
     refine wpList_nil ?_
     have hx_ := Option.some.inj hP
     exact .inl ⟨rfl, true, E.pick _ ⟨rfl, rfl, rfl, rfl, rfl, rfl, rfl, rfl, rfl, rfl, rfl, rfl, rfl, rfl, trivial⟩, H.sel [0, 1, 2, 3, 4, 5, 14, 15, 8] rfl, hx_.symm⟩
    replace E := E_; clear E_
    have h851 : (r834 : Int) = r753.1 := bne_eq_false_iff_eq.1 hb_
    clear hb_; replace hP := ite_t h851 hP
    refine vr tbok 1 [] [(1, .slice (some ⟨b717, o718, none⟩) (List.length t) c14), (2, .pointer (some ⟨g17, 0, none⟩)), (5, .bool r22), (6, .pointer (some ⟨g45, 0, none⟩)), (8, .int .u8 last518), (9, .int .i64 off519), (10, .int .i64 f520), (11, .slice A731 (List.length (few522 ++ ([andV .u8 (List.getD t (Int.toNat i525) 0) (IntKind.u8.wrap ((shlV .u8 1 aProps) - 1))] : List Int))) c732), (12, .int .i64 i525), (14, .int .u8 r735.1), (16, .int .i64 r753.1), (18, .int .i64 r762.1), (19, .int .i64 r762.2), (104, .bool false), (105, .pointer (some ⟨g45, 0, none⟩))] [] E (by kernel_rfl) trivial ?_
    clear E; intro a E
    obtain ⟨r852, h853, hP⟩ := bind_inv hP
    obtain ⟨Fa854, Hc855, hb856⟩ := H.call [15, 14] [(5, false)] rfl rfl ⟨flat_plain, trivial⟩
    refine e_call E rfl rfl Try.func12 rfl rfl rfl (watch_Watch_Verdict_calls g45 b46 0 A749 c750 x49.1 r735.2.2  Hc855 h853) ?_
    intro v862 w861 a hR863 E_
    obtain ⟨x_, hr_, rfl, HR865⟩ := hR863
    subst hr_
    replace E := E_ _ rfl; clear E_
    obtain ⟨H_, hc864⟩ := hb856 _ _ HR865 rfl
    replace H := H_; clear H_; try dsimp only [setn, addE, goneL] at H
    refine vr tbok 3 [] [(1, .slice (some ⟨b717, o718, none⟩) (List.length t) c14), (2, .pointer (some ⟨g17, 0, none⟩)), (5, .bool r22), (6, .pointer (some ⟨g45, 0, none⟩)), (8, .int .u8 last518), (9, .int .i64 off519), (10, .int .i64 f520), (11, .slice A731 (List.length (few522 ++ ([andV .u8 (List.getD t (Int.toNat i525) 0) (IntKind.u8.wrap ((shlV .u8 1 aProps) - 1))] : List Int))) c732), (12, .int .i64 i525), (14, .int .u8 r735.1), (16, .int .i64 r753.1), (18, .int .i64 r762.1), (19, .int .i64 r762.2), (109, .bool ((r852 : Int) != r735.1))] [] E (by kernel_rfl) trivial ?_
    clear E; intro a E
    refine wpList_nil ?_
    have hx_ := Option.some.inj hP
    exact .inl ⟨rfl, (r852 : Int) != r735.1, E.pick _ ⟨rfl, rfl, rfl, rfl, rfl, rfl, rfl, rfl, rfl, rfl, rfl, rfl, rfl, rfl, trivial⟩, H.sel [0, 1, 2, 3, 4, 5, 16, 17, 8] rfl, hx_.symm⟩
   clear E H h822; rintro a w825 ⟨x824, E, H, hx_⟩
   subst hx_; have hP := hK823; clear hK823
   refine th_n ?_
   refine E.cases (t := 109) rfl (fun hb_ E_ => ?_) (fun hb_ E_ => ?_)
   ·
    replace E := E_; clear E_
    have h868 : x821 = true := hb_
    clear hb_; replace hP := ite_t h868 hP
    refine c_true E rfl ?_
    refine wp_seq ?_
    refine wp_region_lit ?_
    refine vr tbok 1 [] [(4, .bool false)] [] E (by kernel_rfl) trivial ?_
    clear E; intro a E
    refine wpList_nil ?_
    refine th_n ?_
    refine wp_ret ?_
    refine th_ret ?_
    refine bl_ret ?_
    refine th_ret ?_
    refine th_ret ?_
    refine .inr ⟨rfl, ?_⟩
    refine bl_ret ?_
    refine th_ret ?_
    have hx_ := Option.some.inj hP; subst hx_
    have hP : some (false) = some r := hK700
    obtain rfl := Option.some.inj hP
    refine ret1 E rfl rfl ?_
    exact ⟨_, rfl, rfl, H.sel [] rfl⟩
   replace E := E_; clear E_
   have h869 : ¬ (x821 = true) := (ne_true_of_eq_false hb_)
   clear hb_; replace hP := ite_f h869 hP
   refine c_false E rfl ?_
   refine wp_skip ?_
   refine th_n ?_
   refine wp_seq ?_
   refine wp_seq ?_
   obtain ⟨x896, h897, hK898⟩ := bind_inv hP
   clear hP
   refine meet_cut (fun a w900 => ∃ (x899 : Bool), Fr a 182 [(1, .slice (some ⟨b717, o718, none⟩) (List.length t) c14), (2, .pointer (some ⟨g17, 0, none⟩)), (5, .bool r22), (6, .pointer (some ⟨g45, 0, none⟩)), (9, .int .i64 off519), (10, .int .i64 f520), (11, .slice A731 (List.length (few522 ++ ([andV .u8 (List.getD t (Int.toNat i525) 0) (IntKind.u8.wrap ((shlV .u8 1 aProps) - 1))] : List Int))) c732), (12, .int .i64 i525), (14, .int .u8 r735.1), (16, .int .i64 r753.1), (18, .int .i64 r762.1), (19, .int .i64 r762.2), (137, .bool x899)] ∧ Hp S Fa w0 w900 [.ro false (cInt .u8) (some ⟨b717, o718, none⟩) t, .ro false cBool A1 aAccept, .ro false (cInt .i64) A5 aGuard, .ro false cNode A9 aNodes, .box g17 43 [.int .i64 aProps, .slice A1 (List.length aAccept) c2, .slice A5 (List.length aGuard) c6, .slice A9 (List.length aNodes) c10], .ro true cS78 (some ⟨b46, 0, none⟩) ([x49.1]), .row true (cInt .i64) 3 A749 c750 r735.2.2, .box g45 27 [.pointer (some ⟨b46, 0, none⟩), .slice A749 (List.length r735.2.2) c750], .row true (cInt .u8) 22 A731 c732 (few522 ++ ([andV .u8 (List.getD t (Int.toNat i525) 0) (IntKind.u8.wrap ((shlV .u8 1 aProps) - 1))] : List Int))] ∧ x896 = x899) ?_ ?_
   ·
    have hP := h897; clear h897; rw [law21_WatchTrue_j18] at hP
    refine wp_region_lit ?_
    obtain ⟨g901, hP⟩ := ask_inv hP
    obtain ⟨b902, o903, e_b902⟩ := (H.rd 1 rds_ro).addr (idx_pos g901)
    subst e_b902
    refine vr tbok 8 [.slice (some ⟨b902, o903, none⟩) (List.length aAccept) c2, .bool (List.getD aAccept (Int.toNat r753.1) false)] [(1, .slice (some ⟨b717, o718, none⟩) (List.length t) c14), (2, .pointer (some ⟨g17, 0, none⟩)), (5, .bool r22), (6, .pointer (some ⟨g45, 0, none⟩)), (8, .int .u8 last518), (9, .int .i64 off519), (10, .int .i64 f520), (11, .slice A731 (List.length (few522 ++ ([andV .u8 (List.getD t (Int.toNat i525) 0) (IntKind.u8.wrap ((shlV .u8 1 aProps) - 1))] : List Int))) c732), (12, .int .i64 i525), (14, .int .u8 r735.1), (16, .int .i64 r753.1), (18, .int .i64 r762.1), (19, .int .i64 r762.2), (114, .bool (List.getD aAccept (Int.toNat r753.1) false)), (117, .bool ((r735.1 : Int) == 1))] [World.cell? w825 ⟨g17, 1, none⟩ = some (.slice (some ⟨b902, o903, none⟩) (List.length aAccept) c2), 0 ≤ r753.1 ∧ r753.1 < (((List.length aAccept) : Nat) : Int), World.cell? w825 ⟨b902, o903 + (Int.toNat r753.1) * 1, none⟩ = some (.bool (List.getD aAccept (Int.toNat r753.1) false))] E (by kernel_rfl) ⟨(H.box 4 rfl).cell (j := 1) rfl, g901, Rds.at1 (H.rd 1 rds_ro) false g901⟩ ?_
    clear E; intro a E
    refine E.cases (t := 117) rfl (fun hb_ E_ => ?_) (fun hb_ E_ => ?_)
    ·
     replace E := E_; clear E_
     have h904 : (r735.1 : Int) = 1 := eq_of_beq hb_
     clear hb_; replace hP := ite_t h904 hP
     refine vr tbok 5 [] [(1, .slice (some ⟨b717, o718, none⟩) (List.length t) c14), (2, .pointer (some ⟨g17, 0, none⟩)), (5, .bool r22), (6, .pointer (some ⟨g45, 0, none⟩)), (8, .int .u8 last518), (9, .int .i64 off519), (10, .int .i64 f520), (11, .slice A731 (List.length (few522 ++ ([andV .u8 (List.getD t (Int.toNat i525) 0) (IntKind.u8.wrap ((shlV .u8 1 aProps) - 1))] : List Int))) c732), (12, .int .i64 i525), (14, .int .u8 r735.1), (16, .int .i64 r753.1), (18, .int .i64 r762.1), (19, .int .i64 r762.2), (122, .bool (!((List.getD aAccept (Int.toNat r753.1) false) == true)))] [] E (by kernel_rfl) trivial ?_
     clear E; intro a E
     refine E.cases (t := 122) rfl (fun hb_ E_ => ?_) (fun hb_ E_ => ?_)
     ·
      replace E := E_; clear E_
      have h905 : ¬ ((List.getD aAccept (Int.toNat r753.1) false) = true) := (by simpa using hb_)
      clear hb_; replace hP := ite_f h905 hP
      refine vr tbok 15 [] [(1, .slice (some ⟨b717, o718, none⟩) (List.length t) c14), (2, .pointer (some ⟨g17, 0, none⟩)), (5, .bool r22), (6, .pointer (some ⟨g45, 0, none⟩)), (9, .int .i64 off519), (10, .int .i64 f520), (11, .slice A731 (List.length (few522 ++ ([andV .u8 (List.getD t (Int.toNat i525) 0) (IntKind.u8.wrap ((shlV .u8 1 aProps) - 1))] : List Int))) c732), (12, .int .i64 i525), (14, .int .u8 r735.1), (16, .int .i64 r753.1), (18, .int .i64 r762.1), (19, .int .i64 r762.2), (137, .bool true)] [] E (by kernel_rfl) trivial ?_
      clear E; intro a E
      refine wpList_nil ?_
      have hx_ := Option.some.inj hP
      exact .inl ⟨rfl, true, E.pick _ ⟨rfl, rfl, rfl, rfl, rfl, rfl, rfl, rfl, rfl, rfl, rfl, rfl, rfl, trivial⟩, H.sel [0, 1, 2, 3, 4, 5, 6, 7, 8] rfl, hx_.symm⟩
     replace E := E_; clear E_
     have h906 : (List.getD aAccept (Int.toNat r753.1) false) = true := (by simpa using hb_)
     clear hb_; replace hP := ite_t h906 hP
     refine vr tbok 3 [] [(1, .slice (some ⟨b717, o718, none⟩) (List.length t) c14), (2, .pointer (some ⟨g17, 0, none⟩)), (5, .bool r22), (6, .pointer (some ⟨g45, 0, none⟩)), (8, .int .u8 last518), (9, .int .i64 off519), (10, .int .i64 f520), (11, .slice A731 (List.length (few522 ++ ([andV .u8 (List.getD t (Int.toNat i525) 0) (IntKind.u8.wrap ((shlV .u8 1 aProps) - 1))] : List Int))) c732), (12, .int .i64 i525), (14, .int .u8 r735.1), (16, .int .i64 r753.1), (18, .int .i64 r762.1), (19, .int .i64 r762.2), (122, .bool false), (125, .bool ((last518 : Int) == 3))] [] E (by kernel_rfl) trivial ?_
     clear E; intro a E
     refine E.cases (t := 125) rfl (fun hb_ E_ => ?_) (fun hb_ E_ => ?_)
     ·
      replace E := E_; clear E_
      have h907 : (last518 : Int) = 3 := eq_of_beq hb_
      clear hb_; replace hP := ite_t h907 hP
      refine vr tbok 5 [] [(1, .slice (some ⟨b717, o718, none⟩) (List.length t) c14), (2, .pointer (some ⟨g17, 0, none⟩)), (5, .bool r22), (6, .pointer (some ⟨g45, 0, none⟩)), (8, .int .u8 last518), (9, .int .i64 off519), (10, .int .i64 f520), (11, .slice A731 (List.length (few522 ++ ([andV .u8 (List.getD t (Int.toNat i525) 0) (IntKind.u8.wrap ((shlV .u8 1 aProps) - 1))] : List Int))) c732), (12, .int .i64 i525), (14, .int .u8 r735.1), (16, .int .i64 r753.1), (18, .int .i64 r762.1), (19, .int .i64 r762.2), (130, .bool ((r735.1 : Int) != 3))] [] E (by kernel_rfl) trivial ?_
      clear E; intro a E
      refine E.cases (t := 130) rfl (fun hb_ E_ => ?_) (fun hb_ E_ => ?_)
      ·
       replace E := E_; clear E_
       have h908 : ¬ ((r735.1 : Int) = 3) := bne_iff_ne.1 hb_
       clear hb_; replace hP := ite_f h908 hP
       refine vr tbok 7 [] [(1, .slice (some ⟨b717, o718, none⟩) (List.length t) c14), (2, .pointer (some ⟨g17, 0, none⟩)), (5, .bool r22), (6, .pointer (some ⟨g45, 0, none⟩)), (9, .int .i64 off519), (10, .int .i64 f520), (11, .slice A731 (List.length (few522 ++ ([andV .u8 (List.getD t (Int.toNat i525) 0) (IntKind.u8.wrap ((shlV .u8 1 aProps) - 1))] : List Int))) c732), (12, .int .i64 i525), (14, .int .u8 r735.1), (16, .int .i64 r753.1), (18, .int .i64 r762.1), (19, .int .i64 r762.2), (137, .bool true)] [] E (by kernel_rfl) trivial ?_
       clear E; intro a E
       refine wpList_nil ?_
       have hx_ := Option.some.inj hP
       exact .inl ⟨rfl, true, E.pick _ ⟨rfl, rfl, rfl, rfl, rfl, rfl, rfl, rfl, rfl, rfl, rfl, rfl, rfl, trivial⟩, H.sel [0, 1, 2, 3, 4, 5, 6, 7, 8] rfl, hx_.symm⟩
      replace E := E_; clear E_
      have h909 : (r735.1 : Int) = 3 := bne_eq_false_iff_eq.1 hb_
      clear hb_; replace hP := ite_t h909 hP
      refine vr tbok 3 [] [(1, .slice (some ⟨b717, o718, none⟩) (List.length t) c14), (2, .pointer (some ⟨g17, 0, none⟩)), (5, .bool r22), (6, .pointer (some ⟨g45, 0, none⟩)), (9, .int .i64 off519), (10, .int .i64 f520), (11, .slice A731 (List.length (few522 ++ ([andV .u8 (List.getD t (Int.toNat i525) 0) (IntKind.u8.wrap ((shlV .u8 1 aProps) - 1))] : List Int))) c732), (12, .int .i64 i525), (14, .int .u8 r735.1), (16, .int .i64 r753.1), (18, .int .i64 r762.1), (19, .int .i64 r762.2), (130, .bool false), (133, .bool ((last518 : Int) == 2))] [] E (by kernel_rfl) trivial ?_
      clear E; intro a E
      refine E.cases (t := 133) rfl (fun hb_ E_ => ?_) (fun hb_ E_ => ?_)
      ·
       replace E := E_; clear E_
       have h910 : (last518 : Int) = 2 := eq_of_beq hb_
       clear hb_; replace hP := ite_t h910 hP
       refine vr tbok 4 [] [(1, .slice (some ⟨b717, o718, none⟩) (List.length t) c14), (2, .pointer (some ⟨g17, 0, none⟩)), (5, .bool r22), (6, .pointer (some ⟨g45, 0, none⟩)), (9, .int .i64 off519), (10, .int .i64 f520), (11, .slice A731 (List.length (few522 ++ ([andV .u8 (List.getD t (Int.toNat i525) 0) (IntKind.u8.wrap ((shlV .u8 1 aProps) - 1))] : List Int))) c732), (12, .int .i64 i525), (14, .int .u8 r735.1), (16, .int .i64 r753.1), (18, .int .i64 r762.1), (19, .int .i64 r762.2), (137, .bool ((r735.1 : Int) != 2))] [] E (by kernel_rfl) trivial ?_
       clear E; intro a E
       refine wpList_nil ?_
       have hx_ := Option.some.inj hP
       exact .inl ⟨rfl, (r735.1 : Int) != 2, E.pick _ ⟨rfl, rfl, rfl, rfl, rfl, rfl, rfl, rfl, rfl, rfl, rfl, rfl, rfl, trivial⟩, H.sel [0, 1, 2, 3, 4, 5, 6, 7, 8] rfl, hx_.symm⟩
      replace E := E_; clear E_
      have h911 : ¬ ((last518 : Int) = 2) := ne_of_beq_false hb_
      clear hb_; replace hP := ite_f h911 hP
      refine vr tbok 4 [] [(1, .slice (some ⟨b717, o718, none⟩) (List.length t) c14), (2, .pointer (some ⟨g17, 0, none⟩)), (5, .bool r22), (6, .pointer (some ⟨g45, 0, none⟩)), (9, .int .i64 off519), (10, .int .i64 f520), (11, .slice A731 (List.length (few522 ++ ([andV .u8 (List.getD t (Int.toNat i525) 0) (IntKind.u8.wrap ((shlV .u8 1 aProps) - 1))] : List Int))) c732), (12, .int .i64 i525), (14, .int .u8 r735.1), (16, .int .i64 r753.1), (18, .int .i64 r762.1), (19, .int .i64 r762.2), (137, .bool false)] [] E (by kernel_rfl) trivial ?_
      clear E; intro a E
      refine wpList_nil ?_
      have hx_ := Option.some.inj hP
      exact .inl ⟨rfl, false, E.pick _ ⟨rfl, rfl, rfl, rfl, rfl, rfl, rfl, rfl, rfl, rfl, rfl, rfl, rfl, trivial⟩, H.sel [0, 1, 2, 3, 4, 5, 6, 7, 8] rfl, hx_.symm⟩
     replace E := E_; clear E_
     have h912 : ¬ ((last518 : Int) = 3) := ne_of_beq_false hb_
     clear hb_; replace hP := ite_f h912 hP
     refine vr tbok 8 [] [(1, .slice (some ⟨b717, o718, none⟩) (List.length t) c14), (2, .pointer (some ⟨g17, 0, none⟩)), (5, .bool r22), (6, .pointer (some ⟨g45, 0, none⟩)), (9, .int .i64 off519), (10, .int .i64 f520), (11, .slice A731 (List.length (few522 ++ ([andV .u8 (List.getD t (Int.toNat i525) 0) (IntKind.u8.wrap ((shlV .u8 1 aProps) - 1))] : List Int))) c732), (12, .int .i64 i525), (14, .int .u8 r735.1), (16, .int .i64 r753.1), (18, .int .i64 r762.1), (19, .int .i64 r762.2), (130, .bool false), (133, .bool ((last518 : Int) == 2))] [] E (by kernel_rfl) trivial ?_
     clear E; intro a E
     refine E.cases (t := 133) rfl (fun hb_ E_ => ?_) (fun hb_ E_ => ?_)
     ·
      replace E := E_; clear E_
      have h913 : (last518 : Int) = 2 := eq_of_beq hb_
      clear hb_; replace hP := ite_t h913 hP
      refine vr tbok 4 [] [(1, .slice (some ⟨b717, o718, none⟩) (List.length t) c14), (2, .pointer (some ⟨g17, 0, none⟩)), (5, .bool r22), (6, .pointer (some ⟨g45, 0, none⟩)), (9, .int .i64 off519), (10, .int .i64 f520), (11, .slice A731 (List.length (few522 ++ ([andV .u8 (List.getD t (Int.toNat i525) 0) (IntKind.u8.wrap ((shlV .u8 1 aProps) - 1))] : List Int))) c732), (12, .int .i64 i525), (14, .int .u8 r735.1), (16, .int .i64 r753.1), (18, .int .i64 r762.1), (19, .int .i64 r762.2), (137, .bool ((r735.1 : Int) != 2))] [] E (by kernel_rfl) trivial ?_
      clear E; intro a E
      refine wpList_nil ?_
      have hx_ := Option.some.inj hP
      exact .inl ⟨rfl, (r735.1 : Int) != 2, E.pick _ ⟨rfl, rfl, rfl, rfl, rfl, rfl, rfl, rfl, rfl, rfl, rfl, rfl, rfl, trivial⟩, H.sel [0, 1, 2, 3, 4, 5, 6, 7, 8] rfl, hx_.symm⟩
     replace E := E_; clear E_
     have h914 : ¬ ((last518 : Int) = 2) := ne_of_beq_false hb_
     clear hb_; replace hP := ite_f h914 hP
     refine vr tbok 4 [] [(1, .slice (some ⟨b717, o718, none⟩) (List.length t) c14), (2, .pointer (some ⟨g17, 0, none⟩)), (5, .bool r22), (6, .pointer (some ⟨g45, 0, none⟩)), (9, .int .i64 off519), (10, .int .i64 f520), (11, .slice A731 (List.length (few522 ++ ([andV .u8 (List.getD t (Int.toNat i525) 0) (IntKind.u8.wrap ((shlV .u8 1 aProps) - 1))] : List Int))) c732), (12, .int .i64 i525), (14, .int .u8 r735.1), (16, .int .i64 r753.1), (18, .int .i64 r762.1), (19, .int .i64 r762.2), (137, .bool false)] [] E (by kernel_rfl) trivial ?_
     clear E; intro a E
     refine wpList_nil ?_
     have hx_ := Option.some.inj hP
     exact .inl ⟨rfl, false, E.pick _ ⟨rfl, rfl, rfl, rfl, rfl, rfl, rfl, rfl, rfl, rfl, rfl, rfl, rfl, trivial⟩, H.sel [0, 1, 2, 3, 4, 5, 6, 7, 8] rfl, hx_.symm⟩
    replace E := E_; clear E_
    have h915 : ¬ ((r735.1 : Int) = 1) := ne_of_beq_false hb_
    clear hb_; replace hP := ite_f h915 hP
    refine vr tbok 5 [] [(1, .slice (some ⟨b717, o718, none⟩) (List.length t) c14), (2, .pointer (some ⟨g17, 0, none⟩)), (5, .bool r22), (6, .pointer (some ⟨g45, 0, none⟩)), (8, .int .u8 last518), (9, .int .i64 off519), (10, .int .i64 f520), (11, .slice A731 (List.length (few522 ++ ([andV .u8 (List.getD t (Int.toNat i525) 0) (IntKind.u8.wrap ((shlV .u8 1 aProps) - 1))] : List Int))) c732), (12, .int .i64 i525), (14, .int .u8 r735.1), (16, .int .i64 r753.1), (18, .int .i64 r762.1), (19, .int .i64 r762.2), (122, .bool (!((List.getD aAccept (Int.toNat r753.1) false) == ((r735.1 : Int) == 3))))] [] E (by kernel_rfl) trivial ?_
    clear E; intro a E
    refine E.cases (t := 122) rfl (fun hb_ E_ => ?_) (fun hb_ E_ => ?_)
    ·
     replace E := E_; clear E_
     have h916 : ¬ ((List.getD aAccept (Int.toNat r753.1) false) = ((r735.1 : Int) == 3)) := (by simpa using hb_)
     clear hb_; replace hP := ite_f h916 hP
     refine vr tbok 15 [] [(1, .slice (some ⟨b717, o718, none⟩) (List.length t) c14), (2, .pointer (some ⟨g17, 0, none⟩)), (5, .bool r22), (6, .pointer (some ⟨g45, 0, none⟩)), (9, .int .i64 off519), (10, .int .i64 f520), (11, .slice A731 (List.length (few522 ++ ([andV .u8 (List.getD t (Int.toNat i525) 0) (IntKind.u8.wrap ((shlV .u8 1 aProps) - 1))] : List Int))) c732), (12, .int .i64 i525), (14, .int .u8 r735.1), (16, .int .i64 r753.1), (18, .int .i64 r762.1), (19, .int .i64 r762.2), (137, .bool true)] [] E (by kernel_rfl) trivial ?_
     clear E; intro a E
     refine wpList_nil ?_
     have hx_ := Option.some.inj hP
     exact .inl ⟨rfl, true, E.pick _ ⟨rfl, rfl, rfl, rfl, rfl, rfl, rfl, rfl, rfl, rfl, rfl, rfl, rfl, trivial⟩, H.sel [0, 1, 2, 3, 4, 5, 6, 7, 8] rfl, hx_.symm⟩
    replace E := E_; clear E_
    have h917 : (List.getD aAccept (Int.toNat r753.1) false) = ((r735.1 : Int) == 3) := (by simpa using hb_)
    clear hb_; replace hP := ite_t h917 hP
    refine vr tbok 3 [] [(1, .slice (some ⟨b717, o718, none⟩) (List.length t) c14), (2, .pointer (some ⟨g17, 0, none⟩)), (5, .bool r22), (6, .pointer (some ⟨g45, 0, none⟩)), (8, .int .u8 last518), (9, .int .i64 off519), (10, .int .i64 f520), (11, .slice A731 (List.length (few522 ++ ([andV .u8 (List.getD t (Int.toNat i525) 0) (IntKind.u8.wrap ((shlV .u8 1 aProps) - 1))] : List Int))) c732), (12, .int .i64 i525), (14, .int .u8 r735.1), (16, .int .i64 r753.1), (18, .int .i64 r762.1), (19, .int .i64 r762.2), (122, .bool false), (125, .bool ((last518 : Int) == 3))] [] E (by kernel_rfl) trivial ?_
    clear E; intro a E
    refine E.cases (t := 125) rfl (fun hb_ E_ => ?_) (fun hb_ E_ => ?_)
    ·
     replace E := E_; clear E_
     have h918 : (last518 : Int) = 3 := eq_of_beq hb_
     clear hb_; replace hP := ite_t h918 hP
     refine vr tbok 5 [] [(1, .slice (some ⟨b717, o718, none⟩) (List.length t) c14), (2, .pointer (some ⟨g17, 0, none⟩)), (5, .bool r22), (6, .pointer (some ⟨g45, 0, none⟩)), (8, .int .u8 last518), (9, .int .i64 off519), (10, .int .i64 f520), (11, .slice A731 (List.length (few522 ++ ([andV .u8 (List.getD t (Int.toNat i525) 0) (IntKind.u8.wrap ((shlV .u8 1 aProps) - 1))] : List Int))) c732), (12, .int .i64 i525), (14, .int .u8 r735.1), (16, .int .i64 r753.1), (18, .int .i64 r762.1), (19, .int .i64 r762.2), (130, .bool ((r735.1 : Int) != 3))] [] E (by kernel_rfl) trivial ?_
     clear E; intro a E
     refine E.cases (t := 130) rfl (fun hb_ E_ => ?_) (fun hb_ E_ => ?_)
     ·
      replace E := E_; clear E_
      have h919 : ¬ ((r735.1 : Int) = 3) := bne_iff_ne.1 hb_
      clear hb_; replace hP := ite_f h919 hP
      refine vr tbok 7 [] [(1, .slice (some ⟨b717, o718, none⟩) (List.length t) c14), (2, .pointer (some ⟨g17, 0, none⟩)), (5, .bool r22), (6, .pointer (some ⟨g45, 0, none⟩)), (9, .int .i64 off519), (10, .int .i64 f520), (11, .slice A731 (List.length (few522 ++ ([andV .u8 (List.getD t (Int.toNat i525) 0) (IntKind.u8.wrap ((shlV .u8 1 aProps) - 1))] : List Int))) c732), (12, .int .i64 i525), (14, .int .u8 r735.1), (16, .int .i64 r753.1), (18, .int .i64 r762.1), (19, .int .i64 r762.2), (137, .bool true)] [] E (by kernel_rfl) trivial ?_
      clear E; intro a E
      refine wpList_nil ?_
      have hx_ := Option.some.inj hP
      exact .inl ⟨rfl, true, E.pick _ ⟨rfl, rfl, rfl, rfl, rfl, rfl, rfl, rfl, rfl, rfl, rfl, rfl, rfl, trivial⟩, H.sel [0, 1, 2, 3, 4, 5, 6, 7, 8] rfl, hx_.symm⟩
     replace E := E_; clear E_
     have h920 : (r735.1 : Int) = 3 := bne_eq_false_iff_eq.1 hb_
     clear hb_; replace hP := ite_t h920 hP
     refine vr tbok 3 [] [(1, .slice (some ⟨b717, o718, none⟩) (List.length t) c14), (2, .pointer (some ⟨g17, 0, none⟩)), (5, .bool r22), (6, .pointer (some ⟨g45, 0, none⟩)), (9, .int .i64 off519), (10, .int .i64 f520), (11, .slice A731 (List.length (few522 ++ ([andV .u8 (List.getD t (Int.toNat i525) 0) (IntKind.u8.wrap ((shlV .u8 1 aProps) - 1))] : List Int))) c732), (12, .int .i64 i525), (14, .int .u8 r735.1), (16, .int .i64 r753.1), (18, .int .i64 r762.1), (19, .int .i64 r762.2), (130, .bool false), (133, .bool ((last518 : Int) == 2))] [] E (by kernel_rfl) trivial ?_
     clear E; intro a E
     refine E.cases (t := 133) rfl (fun hb_ E_ => ?_) (fun hb_ E_ => ?_)
     ·
      replace E := E_; clear E_
      have h921 : (last518 : Int) = 2 := eq_of_beq hb_
      clear hb_; replace hP := ite_t h921 hP
      refine vr tbok 4 [] [(1, .slice (some ⟨b717, o718, none⟩) (List.length t) c14), (2, .pointer (some ⟨g17, 0, none⟩)), (5, .bool r22), (6, .pointer (some ⟨g45, 0, none⟩)), (9, .int .i64 off519), (10, .int .i64 f520), (11, .slice A731 (List.length (few522 ++ ([andV .u8 (List.getD t (Int.toNat i525) 0) (IntKind.u8.wrap ((shlV .u8 1 aProps) - 1))] : List Int))) c732), (12, .int .i64 i525), (14, .int .u8 r735.1), (16, .int .i64 r753.1), (18, .int .i64 r762.1), (19, .int .i64 r762.2), (137, .bool ((r735.1 : Int) != 2))] [] E (by kernel_rfl) trivial ?_
      clear E; intro a E
      refine wpList_nil ?_
      have hx_ := Option.some.inj hP
      exact .inl ⟨rfl, (r735.1 : Int) != 2, E.pick _ ⟨rfl, rfl, rfl, rfl, rfl, rfl, rfl, rfl, rfl, rfl, rfl, rfl, rfl, trivial⟩, H.sel [0, 1, 2, 3, 4, 5, 6, 7, 8] rfl, hx_.symm⟩
     replace E := E_; clear E_
     have h922 : ¬ ((last518 : Int) = 2) := ne_of_beq_false hb_
     clear hb_; replace hP := ite_f h922 hP
     refine vr tbok 4 [] [(1, .slice (some ⟨b717, o718, none⟩) (List.length t) c14), (2, .pointer (some ⟨g17, 0, none⟩)), (5, .bool r22), (6, .pointer (some ⟨g45, 0, none⟩)), (9, .int .i64 off519), (10, .int .i64 f520), (11, .slice A731 (List.length (few522 ++ ([andV .u8 (List.getD t (Int.toNat i525) 0) (IntKind.u8.wrap ((shlV .u8 1 aProps) - 1))] : List Int))) c732), (12, .int .i64 i525), (14, .int .u8 r735.1), (16, .int .i64 r753.1), (18, .int .i64 r762.1), (19, .int .i64 r762.2), (137, .bool false)] [] E (by kernel_rfl) trivial ?_
     clear E; intro a E
     refine wpList_nil ?_
     have hx_ := Option.some.inj hP
     exact .inl ⟨rfl, false, E.pick _ ⟨rfl, rfl, rfl, rfl, rfl, rfl, rfl, rfl, rfl, rfl, rfl, rfl, rfl, trivial⟩, H.sel [0, 1, 2, 3, 4, 5, 6, 7, 8] rfl, hx_.symm⟩
    replace E := E_; clear E_
    have h923 : ¬ ((last518 : Int) = 3) := ne_of_beq_false hb_
    clear hb_; replace hP := ite_f h923 hP
    refine vr tbok 8 [] [(1, .slice (some ⟨b717, o718, none⟩) (List.length t) c14), (2, .pointer (some ⟨g17, 0, none⟩)), (5, .bool r22), (6, .pointer (some ⟨g45, 0, none⟩)), (9, .int .i64 off519), (10, .int .i64 f520), (11, .slice A731 (List.length (few522 ++ ([andV .u8 (List.getD t (Int.toNat i525) 0) (IntKind.u8.wrap ((shlV .u8 1 aProps) - 1))] : List Int))) c732), (12, .int .i64 i525), (14, .int .u8 r735.1), (16, .int .i64 r753.1), (18, .int .i64 r762.1), (19, .int .i64 r762.2), (130, .bool false), (133, .bool ((last518 : Int) == 2))] [] E (by kernel_rfl) trivial ?_
    clear E; intro a E
    refine E.cases (t := 133) rfl (fun hb_ E_ => ?_) (fun hb_ E_ => ?_)
    ·
     replace E := E_; clear E_
     have h924 : (last518 : Int) = 2 := eq_of_beq hb_
     clear hb_; replace hP := ite_t h924 hP
     refine vr tbok 4 [] [(1, .slice (some ⟨b717, o718, none⟩) (List.length t) c14), (2, .pointer (some ⟨g17, 0, none⟩)), (5, .bool r22), (6, .pointer (some ⟨g45, 0, none⟩)), (9, .int .i64 off519), (10, .int .i64 f520), (11, .slice A731 (List.length (few522 ++ ([andV .u8 (List.getD t (Int.toNat i525) 0) (IntKind.u8.wrap ((shlV .u8 1 aProps) - 1))] : List Int))) c732), (12, .int .i64 i525), (14, .int .u8 r735.1), (16, .int .i64 r753.1), (18, .int .i64 r762.1), (19, .int .i64 r762.2), (137, .bool ((r735.1 : Int) != 2))] [] E (by kernel_rfl) trivial ?_
     clear E; intro a E
     refine wpList_nil ?_
     have hx_ := Option.some.inj hP
     exact .inl ⟨rfl, (r735.1 : Int) != 2, E.pick _ ⟨rfl, rfl, rfl, rfl, rfl, rfl, rfl, rfl, rfl, rfl, rfl, rfl, rfl, trivial⟩, H.sel [0, 1, 2, 3, 4, 5, 6, 7, 8] rfl, hx_.symm⟩
    replace E := E_; clear E_
    have h925 : ¬ ((last518 : Int) = 2) := ne_of_beq_false hb_
    clear hb_; replace hP := ite_f h925 hP
    refine vr tbok 4 [] [(1, .slice (some ⟨b717, o718, none⟩) (List.length t) c14), (2, .pointer (some ⟨g17, 0, none⟩)), (5, .bool r22), (6, .pointer (some ⟨g45, 0, none⟩)), (9, .int .i64 off519), (10, .int .i64 f520), (11, .slice A731 (List.length (few522 ++ ([andV .u8 (List.getD t (Int.toNat i525) 0) (IntKind.u8.wrap ((shlV .u8 1 aProps) - 1))] : List Int))) c732), (12, .int .i64 i525), (14, .int .u8 r735.1), (16, .int .i64 r753.1), (18, .int .i64 r762.1), (19, .int .i64 r762.2), (137, .bool false)] [] E (by kernel_rfl) trivial ?_
    clear E; intro a E
    refine wpList_nil ?_
    have hx_ := Option.some.inj hP
    exact .inl ⟨rfl, false, E.pick _ ⟨rfl, rfl, rfl, rfl, rfl, rfl, rfl, rfl, rfl, rfl, rfl, rfl, rfl, trivial⟩, H.sel [0, 1, 2, 3, 4, 5, 6, 7, 8] rfl, hx_.symm⟩
   clear E H h897; rintro a w900 ⟨x899, E, H, hx_⟩
   subst hx_; have hP := hK898; clear hK898
   refine th_n ?_
   refine E.cases (t := 137) rfl (fun hb_ E_ => ?_) (fun hb_ E_ => ?_)
   ·
    replace E := E_; clear E_
    have h926 : x896 = true := hb_
    clear hb_; replace hP := ite_t h926 hP
    refine c_true E rfl ?_
    refine wp_seq ?_
    refine wp_region_lit ?_
    refine vr tbok 1 [] [(4, .bool false)] [] E (by kernel_rfl) trivial ?_
    clear E; intro a E
    refine wpList_nil ?_
    refine th_n ?_
    refine wp_ret ?_
    refine th_ret ?_
    refine bl_ret ?_
    refine th_ret ?_
    refine th_ret ?_
    refine .inr ⟨rfl, ?_⟩
    refine bl_ret ?_
    refine th_ret ?_
    have hx_ := Option.some.inj hP; subst hx_
    have hP : some (false) = some r := hK700
    obtain rfl := Option.some.inj hP
    refine ret1 E rfl rfl ?_
    exact ⟨_, rfl, rfl, H.sel [] rfl⟩
   replace E := E_; clear E_
   have h927 : ¬ (x896 = true) := (ne_true_of_eq_false hb_)
   clear hb_; replace hP := ite_f h927 hP
   refine c_false E rfl ?_
   refine wp_skip ?_
   refine th_n ?_
   refine wp_seq ?_
   refine wp_seq ?_
   obtain ⟨x948, h949, hK950⟩ := bind_inv hP
   clear hP
   refine meet_cut (fun a w952 => ∃ (x951 : Bool), Fr a 182 [(1, .slice (some ⟨b717, o718, none⟩) (List.length t) c14), (2, .pointer (some ⟨g17, 0, none⟩)), (5, .bool r22), (6, .pointer (some ⟨g45, 0, none⟩)), (11, .slice A731 (List.length (few522 ++ ([andV .u8 (List.getD t (Int.toNat i525) 0) (IntKind.u8.wrap ((shlV .u8 1 aProps) - 1))] : List Int))) c732), (12, .int .i64 i525), (14, .int .u8 r735.1), (18, .int .i64 r762.1), (19, .int .i64 r762.2), (170, .bool x951)] ∧ Hp S Fa w0 w952 [.ro false (cInt .u8) (some ⟨b717, o718, none⟩) t, .ro false cBool A1 aAccept, .ro false (cInt .i64) A5 aGuard, .ro false cNode A9 aNodes, .box g17 43 [.int .i64 aProps, .slice A1 (List.length aAccept) c2, .slice A5 (List.length aGuard) c6, .slice A9 (List.length aNodes) c10], .ro true cS78 (some ⟨b46, 0, none⟩) ([x49.1]), .row true (cInt .i64) 3 A749 c750 r735.2.2, .box g45 27 [.pointer (some ⟨b46, 0, none⟩), .slice A749 (List.length r735.2.2) c750], .row true (cInt .u8) 22 A731 c732 (few522 ++ ([andV .u8 (List.getD t (Int.toNat i525) 0) (IntKind.u8.wrap ((shlV .u8 1 aProps) - 1))] : List Int))] ∧ x948 = x951) ?_ ?_
   ·
    have hP := h949; clear h949; rw [law21_WatchTrue_j19] at hP
    refine wp_region_lit ?_
    refine vr tbok 6 [] [(1, .slice (some ⟨b717, o718, none⟩) (List.length t) c14), (2, .pointer (some ⟨g17, 0, none⟩)), (5, .bool r22), (6, .pointer (some ⟨g45, 0, none⟩)), (9, .int .i64 off519), (10, .int .i64 f520), (11, .slice A731 (List.length (few522 ++ ([andV .u8 (List.getD t (Int.toNat i525) 0) (IntKind.u8.wrap ((shlV .u8 1 aProps) - 1))] : List Int))) c732), (12, .int .i64 i525), (14, .int .u8 r735.1), (16, .int .i64 r753.1), (18, .int .i64 r762.1), (19, .int .i64 r762.2), (143, .bool (!(((r762.2 : Int) == 6) == ((r735.1 : Int) == 2))))] [] E (by kernel_rfl) trivial ?_
    clear E; intro a E
    refine E.cases (t := 143) rfl (fun hb_ E_ => ?_) (fun hb_ E_ => ?_)
    ·
     replace E := E_; clear E_
     have h953 : ¬ (((r762.2 : Int) == 6) = ((r735.1 : Int) == 2)) := (by simpa using hb_)
     clear hb_; replace hP := ite_f h953 hP
     refine vr tbok 27 [] [(1, .slice (some ⟨b717, o718, none⟩) (List.length t) c14), (2, .pointer (some ⟨g17, 0, none⟩)), (5, .bool r22), (6, .pointer (some ⟨g45, 0, none⟩)), (11, .slice A731 (List.length (few522 ++ ([andV .u8 (List.getD t (Int.toNat i525) 0) (IntKind.u8.wrap ((shlV .u8 1 aProps) - 1))] : List Int))) c732), (12, .int .i64 i525), (14, .int .u8 r735.1), (18, .int .i64 r762.1), (19, .int .i64 r762.2), (170, .bool true)] [] E (by kernel_rfl) trivial ?_
     clear E; intro a E
     refine wpList_nil ?_
     have hx_ := Option.some.inj hP
     exact .inl ⟨rfl, true, E.pick _ ⟨rfl, rfl, rfl, rfl, rfl, rfl, rfl, rfl, rfl, rfl, trivial⟩, H.sel [0, 1, 2, 3, 4, 5, 6, 7, 8] rfl, hx_.symm⟩
    replace E := E_; clear E_
    have h954 : ((r762.2 : Int) == 6) = ((r735.1 : Int) == 2) := (by simpa using hb_)
    clear hb_; replace hP := ite_t h954 hP
    refine vr tbok 3 [] [(1, .slice (some ⟨b717, o718, none⟩) (List.length t) c14), (2, .pointer (some ⟨g17, 0, none⟩)), (5, .bool r22), (6, .pointer (some ⟨g45, 0, none⟩)), (9, .int .i64 off519), (10, .int .i64 f520), (11, .slice A731 (List.length (few522 ++ ([andV .u8 (List.getD t (Int.toNat i525) 0) (IntKind.u8.wrap ((shlV .u8 1 aProps) - 1))] : List Int))) c732), (12, .int .i64 i525), (14, .int .u8 r735.1), (16, .int .i64 r753.1), (18, .int .i64 r762.1), (19, .int .i64 r762.2), (143, .bool false), (146, .bool ((r762.2 : Int) == 0))] [] E (by kernel_rfl) trivial ?_
    clear E; intro a E
    refine E.cases (t := 146) rfl (fun hb_ E_ => ?_) (fun hb_ E_ => ?_)
    ·
     replace E := E_; clear E_
     have h955 : (r762.2 : Int) = 0 := eq_of_beq hb_
     clear hb_; replace hP := ite_t h955 hP
     obtain ⟨g956, hP⟩ := ask_inv hP
     obtain ⟨b957, o958, e_b957⟩ := (H.rd 1 rds_ro).addr (idx_pos g956)
     subst e_b957
     refine vr tbok 11 [.slice (some ⟨b957, o958, none⟩) (List.length aAccept) c2, .bool (List.getD aAccept (Int.toNat r753.1) false)] [(1, .slice (some ⟨b717, o718, none⟩) (List.length t) c14), (2, .pointer (some ⟨g17, 0, none⟩)), (5, .bool r22), (6, .pointer (some ⟨g45, 0, none⟩)), (9, .int .i64 off519), (10, .int .i64 f520), (11, .slice A731 (List.length (few522 ++ ([andV .u8 (List.getD t (Int.toNat i525) 0) (IntKind.u8.wrap ((shlV .u8 1 aProps) - 1))] : List Int))) c732), (12, .int .i64 i525), (14, .int .u8 r735.1), (18, .int .i64 r762.1), (19, .int .i64 r762.2), (157, .bool (!(((r762.1 : Int) == 0) == (List.getD aAccept (Int.toNat r753.1) false))))] [World.cell? w900 ⟨g17, 1, none⟩ = some (.slice (some ⟨b957, o958, none⟩) (List.length aAccept) c2), 0 ≤ r753.1 ∧ r753.1 < (((List.length aAccept) : Nat) : Int), World.cell? w900 ⟨b957, o958 + (Int.toNat r753.1) * 1, none⟩ = some (.bool (List.getD aAccept (Int.toNat r753.1) false))] E (by kernel_rfl) ⟨(H.box 4 rfl).cell (j := 1) rfl, g956, Rds.at1 (H.rd 1 rds_ro) false g956⟩ ?_
     clear E; intro a E
     refine E.cases (t := 157) rfl (fun hb_ E_ => ?_) (fun hb_ E_ => ?_)
     ·
      replace E := E_; clear E_
      have h959 : ¬ (((r762.1 : Int) == 0) = (List.getD aAccept (Int.toNat r753.1) false)) := (by simpa using hb_)
      clear hb_; replace hP := ite_f h959 hP
      refine vr tbok 13 [] [(1, .slice (some ⟨b717, o718, none⟩) (List.length t) c14), (2, .pointer (some ⟨g17, 0, none⟩)), (5, .bool r22), (6, .pointer (some ⟨g45, 0, none⟩)), (11, .slice A731 (List.length (few522 ++ ([andV .u8 (List.getD t (Int.toNat i525) 0) (IntKind.u8.wrap ((shlV .u8 1 aProps) - 1))] : List Int))) c732), (12, .int .i64 i525), (14, .int .u8 r735.1), (18, .int .i64 r762.1), (19, .int .i64 r762.2), (170, .bool true)] [] E (by kernel_rfl) trivial ?_
      clear E; intro a E
      refine wpList_nil ?_
      have hx_ := Option.some.inj hP
      exact .inl ⟨rfl, true, E.pick _ ⟨rfl, rfl, rfl, rfl, rfl, rfl, rfl, rfl, rfl, rfl, trivial⟩, H.sel [0, 1, 2, 3, 4, 5, 6, 7, 8] rfl, hx_.symm⟩
     replace E := E_; clear E_
     have h960 : ((r762.1 : Int) == 0) = (List.getD aAccept (Int.toNat r753.1) false) := (by simpa using hb_)
     clear hb_; replace hP := ite_t h960 hP
     refine vr tbok 3 [] [(1, .slice (some ⟨b717, o718, none⟩) (List.length t) c14), (2, .pointer (some ⟨g17, 0, none⟩)), (5, .bool r22), (6, .pointer (some ⟨g45, 0, none⟩)), (9, .int .i64 off519), (11, .slice A731 (List.length (few522 ++ ([andV .u8 (List.getD t (Int.toNat i525) 0) (IntKind.u8.wrap ((shlV .u8 1 aProps) - 1))] : List Int))) c732), (12, .int .i64 i525), (14, .int .u8 r735.1), (18, .int .i64 r762.1), (19, .int .i64 r762.2), (157, .bool false), (160, .bool ((f520 : Int) == 0))] [] E (by kernel_rfl) trivial ?_
     clear E; intro a E
     refine E.cases (t := 160) rfl (fun hb_ E_ => ?_) (fun hb_ E_ => ?_)
     ·
      replace E := E_; clear E_
      have h961 : (f520 : Int) = 0 := eq_of_beq hb_
      clear hb_; replace hP := ite_t h961 hP
      refine vr tbok 4 [] [(1, .slice (some ⟨b717, o718, none⟩) (List.length t) c14), (2, .pointer (some ⟨g17, 0, none⟩)), (5, .bool r22), (6, .pointer (some ⟨g45, 0, none⟩)), (9, .int .i64 off519), (11, .slice A731 (List.length (few522 ++ ([andV .u8 (List.getD t (Int.toNat i525) 0) (IntKind.u8.wrap ((shlV .u8 1 aProps) - 1))] : List Int))) c732), (12, .int .i64 i525), (14, .int .u8 r735.1), (18, .int .i64 r762.1), (19, .int .i64 r762.2), (157, .bool false), (164, .bool ((r762.2 : Int) == 0))] [] E (by kernel_rfl) trivial ?_
      clear E; intro a E
      refine E.cases (t := 164) rfl (fun hb_ E_ => ?_) (fun hb_ E_ => ?_)
      ·
       replace E := E_; clear E_
       have h962 : (r762.2 : Int) = 0 := eq_of_beq hb_
       clear hb_; replace hP := ite_t h962 hP
       obtain ⟨g963, hP⟩ := ask_inv hP
       refine vr tbok 6 [.int .i64 (off519 - 1)] [(1, .slice (some ⟨b717, o718, none⟩) (List.length t) c14), (2, .pointer (some ⟨g17, 0, none⟩)), (5, .bool r22), (6, .pointer (some ⟨g45, 0, none⟩)), (11, .slice A731 (List.length (few522 ++ ([andV .u8 (List.getD t (Int.toNat i525) 0) (IntKind.u8.wrap ((shlV .u8 1 aProps) - 1))] : List Int))) c732), (12, .int .i64 i525), (14, .int .u8 r735.1), (18, .int .i64 r762.1), (19, .int .i64 r762.2), (170, .bool (decide (r762.1 < (off519 - 1))))] [IntKind.i64.wrap (off519 - 1) = off519 - 1] E (by kernel_rfl) (wrap_in g963) ?_
       clear E; intro a E
       refine wpList_nil ?_
       have hx_ := Option.some.inj hP
       exact .inl ⟨rfl, decide (r762.1 < (off519 - 1)), E.pick _ ⟨rfl, rfl, rfl, rfl, rfl, rfl, rfl, rfl, rfl, rfl, trivial⟩, H.sel [0, 1, 2, 3, 4, 5, 6, 7, 8] rfl, hx_.symm⟩
      replace E := E_; clear E_
      have h964 : ¬ ((r762.2 : Int) = 0) := ne_of_beq_false hb_
      clear hb_; replace hP := ite_f h964 hP
      refine vr tbok 6 [] [(1, .slice (some ⟨b717, o718, none⟩) (List.length t) c14), (2, .pointer (some ⟨g17, 0, none⟩)), (5, .bool r22), (6, .pointer (some ⟨g45, 0, none⟩)), (11, .slice A731 (List.length (few522 ++ ([andV .u8 (List.getD t (Int.toNat i525) 0) (IntKind.u8.wrap ((shlV .u8 1 aProps) - 1))] : List Int))) c732), (12, .int .i64 i525), (14, .int .u8 r735.1), (18, .int .i64 r762.1), (19, .int .i64 r762.2), (170, .bool false)] [] E (by kernel_rfl) trivial ?_
      clear E; intro a E
      refine wpList_nil ?_
      have hx_ := Option.some.inj hP
      exact .inl ⟨rfl, false, E.pick _ ⟨rfl, rfl, rfl, rfl, rfl, rfl, rfl, rfl, rfl, rfl, trivial⟩, H.sel [0, 1, 2, 3, 4, 5, 6, 7, 8] rfl, hx_.symm⟩
     replace E := E_; clear E_
     have h965 : ¬ ((f520 : Int) = 0) := ne_of_beq_false hb_
     clear hb_; replace hP := ite_f h965 hP
     refine vr tbok 10 [] [(1, .slice (some ⟨b717, o718, none⟩) (List.length t) c14), (2, .pointer (some ⟨g17, 0, none⟩)), (5, .bool r22), (6, .pointer (some ⟨g45, 0, none⟩)), (11, .slice A731 (List.length (few522 ++ ([andV .u8 (List.getD t (Int.toNat i525) 0) (IntKind.u8.wrap ((shlV .u8 1 aProps) - 1))] : List Int))) c732), (12, .int .i64 i525), (14, .int .u8 r735.1), (18, .int .i64 r762.1), (19, .int .i64 r762.2), (170, .bool false)] [] E (by kernel_rfl) trivial ?_
     clear E; intro a E
     refine wpList_nil ?_
     have hx_ := Option.some.inj hP
     exact .inl ⟨rfl, false, E.pick _ ⟨rfl, rfl, rfl, rfl, rfl, rfl, rfl, rfl, rfl, rfl, trivial⟩, H.sel [0, 1, 2, 3, 4, 5, 6, 7, 8] rfl, hx_.symm⟩
    replace E := E_; clear E_
    have h966 : ¬ ((r762.2 : Int) = 0) := ne_of_beq_false hb_
    clear hb_; replace hP := ite_f h966 hP
    refine vr tbok 14 [] [(1, .slice (some ⟨b717, o718, none⟩) (List.length t) c14), (2, .pointer (some ⟨g17, 0, none⟩)), (5, .bool r22), (6, .pointer (some ⟨g45, 0, none⟩)), (9, .int .i64 off519), (11, .slice A731 (List.length (few522 ++ ([andV .u8 (List.getD t (Int.toNat i525) 0) (IntKind.u8.wrap ((shlV .u8 1 aProps) - 1))] : List Int))) c732), (12, .int .i64 i525), (14, .int .u8 r735.1), (18, .int .i64 r762.1), (19, .int .i64 r762.2), (157, .bool false), (160, .bool ((f520 : Int) == 0))] [] E (by kernel_rfl) trivial ?_
    clear E; intro a E
    refine E.cases (t := 160) rfl (fun hb_ E_ => ?_) (fun hb_ E_ => ?_)
    ·
     replace E := E_; clear E_
     have h967 : (f520 : Int) = 0 := eq_of_beq hb_
     clear hb_; replace hP := ite_t h967 hP
     refine vr tbok 4 [] [(1, .slice (some ⟨b717, o718, none⟩) (List.length t) c14), (2, .pointer (some ⟨g17, 0, none⟩)), (5, .bool r22), (6, .pointer (some ⟨g45, 0, none⟩)), (9, .int .i64 off519), (11, .slice A731 (List.length (few522 ++ ([andV .u8 (List.getD t (Int.toNat i525) 0) (IntKind.u8.wrap ((shlV .u8 1 aProps) - 1))] : List Int))) c732), (12, .int .i64 i525), (14, .int .u8 r735.1), (18, .int .i64 r762.1), (19, .int .i64 r762.2), (157, .bool false), (164, .bool ((r762.2 : Int) == 0))] [] E (by kernel_rfl) trivial ?_
     clear E; intro a E
     refine E.cases (t := 164) rfl (fun hb_ E_ => ?_) (fun hb_ E_ => ?_)
     ·
      replace E := E_; clear E_
      have h968 : (r762.2 : Int) = 0 := eq_of_beq hb_
      clear hb_; replace hP := ite_t h968 hP
      obtain ⟨g969, hP⟩ := ask_inv hP
      refine vr tbok 6 [.int .i64 (off519 - 1)] [(1, .slice (some ⟨b717, o718, none⟩) (List.length t) c14), (2, .pointer (some ⟨g17, 0, none⟩)), (5, .bool r22), (6, .pointer (some ⟨g45, 0, none⟩)), (11, .slice A731 (List.length (few522 ++ ([andV .u8 (List.getD t (Int.toNat i525) 0) (IntKind.u8.wrap ((shlV .u8 1 aProps) - 1))] : List Int))) c732), (12, .int .i64 i525), (14, .int .u8 r735.1), (18, .int .i64 r762.1), (19, .int .i64 r762.2), (170, .bool (decide (r762.1 < (off519 - 1))))] [IntKind.i64.wrap (off519 - 1) = off519 - 1] E (by kernel_rfl) (wrap_in g969) ?_
      clear E; intro a E
      refine wpList_nil ?_
      have hx_ := Option.some.inj hP
      exact .inl ⟨rfl, decide (r762.1 < (off519 - 1)), E.pick _ ⟨rfl, rfl, rfl, rfl, rfl, rfl, rfl, rfl, rfl, rfl, trivial⟩, H.sel [0, 1, 2, 3, 4, 5, 6, 7, 8] rfl, hx_.symm⟩
     replace E := E_; clear E_
     have h970 : ¬ ((r762.2 : Int) = 0) := ne_of_beq_false hb_
     clear hb_; replace hP := ite_f h970 hP
     refine vr tbok 6 [] [(1, .slice (some ⟨b717, o718, none⟩) (List.length t) c14), (2, .pointer (some ⟨g17, 0, none⟩)), (5, .bool r22), (6, .pointer (some ⟨g45, 0, none⟩)), (11, .slice A731 (List.length (few522 ++ ([andV .u8 (List.getD t (Int.toNat i525) 0) (IntKind.u8.wrap ((shlV .u8 1 aProps) - 1))] : List Int))) c732), (12, .int .i64 i525), (14, .int .u8 r735.1), (18, .int .i64 r762.1), (19, .int .i64 r762.2), (170, .bool false)] [] E (by kernel_rfl) trivial ?_
     clear E; intro a E
     refine wpList_nil ?_
     have hx_ := Option.some.inj hP
     exact .inl ⟨rfl, false, E.pick _ ⟨rfl, rfl, rfl, rfl, rfl, rfl, rfl, rfl, rfl, rfl, trivial⟩, H.sel [0, 1, 2, 3, 4, 5, 6, 7, 8] rfl, hx_.symm⟩
    replace E := E_; clear E_
    have h971 : ¬ ((f520 : Int) = 0) := ne_of_beq_false hb_
    clear hb_; replace hP := ite_f h971 hP
    refine vr tbok 10 [] [(1, .slice (some ⟨b717, o718, none⟩) (List.length t) c14), (2, .pointer (some ⟨g17, 0, none⟩)), (5, .bool r22), (6, .pointer (some ⟨g45, 0, none⟩)), (11, .slice A731 (List.length (few522 ++ ([andV .u8 (List.getD t (Int.toNat i525) 0) (IntKind.u8.wrap ((shlV .u8 1 aProps) - 1))] : List Int))) c732), (12, .int .i64 i525), (14, .int .u8 r735.1), (18, .int .i64 r762.1), (19, .int .i64 r762.2), (170, .bool false)] [] E (by kernel_rfl) trivial ?_
    clear E; intro a E
    refine wpList_nil ?_
    have hx_ := Option.some.inj hP
    exact .inl ⟨rfl, false, E.pick _ ⟨rfl, rfl, rfl, rfl, rfl, rfl, rfl, rfl, rfl, rfl, trivial⟩, H.sel [0, 1, 2, 3, 4, 5, 6, 7, 8] rfl, hx_.symm⟩
   clear E H h949; rintro a w952 ⟨x951, E, H, hx_⟩
   subst hx_; have hP := hK950; clear hK950
   refine th_n ?_
   refine E.cases (t := 170) rfl (fun hb_ E_ => ?_) (fun hb_ E_ => ?_)
   ·
    replace E := E_; clear E_
    have h972 : x948 = true := hb_
    clear hb_; replace hP := ite_t h972 hP
    refine c_true E rfl ?_
    refine wp_seq ?_
    refine wp_region_lit ?_
    refine vr tbok 1 [] [(4, .bool false)] [] E (by kernel_rfl) trivial ?_
    clear E; intro a E
    refine wpList_nil ?_
    refine th_n ?_
    refine wp_ret ?_
    refine th_ret ?_
    refine bl_ret ?_
    refine th_ret ?_
    refine th_ret ?_
    refine .inr ⟨rfl, ?_⟩
    refine bl_ret ?_
    refine th_ret ?_
    have hx_ := Option.some.inj hP; subst hx_
    have hP : some (false) = some r := hK700
    obtain rfl := Option.some.inj hP
    refine ret1 E rfl rfl ?_
    exact ⟨_, rfl, rfl, H.sel [] rfl⟩
   replace E := E_; clear E_
   have h973 : ¬ (x948 = true) := (ne_true_of_eq_false hb_)
   clear hb_; replace hP := ite_f h973 hP
   refine c_false E rfl ?_
   refine wp_skip ?_
   refine th_n ?_
   refine wp_region_lit ?_
   refine vr tbok 6 [] [(1, .slice (some ⟨b717, o718, none⟩) (List.length t) c14), (2, .pointer (some ⟨g17, 0, none⟩)), (5, .bool r22), (6, .pointer (some ⟨g45, 0, none⟩)), (8, .int .u8 r735.1), (9, .int .i64 r762.1), (10, .int .i64 r762.2), (11, .slice A731 (List.length (few522 ++ ([andV .u8 (List.getD t (Int.toNat i525) 0) (IntKind.u8.wrap ((shlV .u8 1 aProps) - 1))] : List Int))) c732), (12, .int .i64 i525)] [] E (by kernel_rfl) trivial ?_
   clear E; intro a E
   refine wpList_nil ?_
   refine bl_n ?_
   refine th_n ?_
   refine wp_region_lit ?_
   obtain ⟨g974, hP⟩ := ask_inv hP
   refine vr tbok 3 [.int .i64 (i525 + 1)] [(1, .slice (some ⟨b717, o718, none⟩) (List.length t) c14), (2, .pointer (some ⟨g17, 0, none⟩)), (5, .bool r22), (6, .pointer (some ⟨g45, 0, none⟩)), (8, .int .u8 r735.1), (9, .int .i64 r762.1), (10, .int .i64 r762.2), (11, .slice A731 (List.length (few522 ++ ([andV .u8 (List.getD t (Int.toNat i525) 0) (IntKind.u8.wrap ((shlV .u8 1 aProps) - 1))] : List Int))) c732), (12, .int .i64 (i525 + 1))] [IntKind.i64.wrap (i525 + 1) = i525 + 1] E (by kernel_rfl) (wrap_in g974) ?_
   clear E; intro a E
   refine wpList_nil ?_
   exact th_n ⟨m697, Nat.lt_succ_self _, r735.2.2, r735.1, r762.1, r762.2, few522 ++ ([andV .u8 (List.getD t (Int.toNat i525) 0) (IntKind.u8.wrap ((shlV .u8 1 aProps) - 1))] : List Int), i525 + 1, A749, c750, A731, c732, E.pick _ ⟨rfl, rfl, rfl, rfl, rfl, rfl, rfl, rfl, rfl, trivial⟩, H.sel [0, 1, 2, 3, 4, 7, 5, 6, 8] rfl, hP⟩
  replace E := E_; clear E_
  have h975 : ¬ (x708 = true) := (ne_true_of_eq_false hb_)
  clear hb_; replace hP := ite_f h975 hP
  refine c_false E rfl ?_
  refine wp_exit ?_
  refine th_exit ?_
  have hx_ := Option.some.inj hP
  refine th_exit (.inl ⟨0, rfl, ?_⟩)
  exact ⟨rfl, (w515, few522), A516, c517, A523, c524, E.pick _ ⟨rfl, rfl, rfl, trivial⟩, H.sel [7, 5, 6, 8] rfl, hx_.symm⟩
 clear E H hL699; intro i_ a w702 hM_
 obtain ⟨rfl, x704, A691, c692, A695, c696, E, H, hx_⟩ := hM_
 subst hx_; have hP := elim_l hK700
 clear hK700
 refine bl_hit ?_
 refine th_n ?_
 refine wp_seq ?_
 obtain ⟨x996, h997, hK998⟩ := bind_inv hP
 clear hP
 refine meet_cut (fun a w1000 => ∃ (x999 : Bool), Fr a 182 [(4, .bool x999)] ∧ Hp S Fa w0 w1000 [] ∧ x996 = x999) ?_ ?_
 ·
  have hP := h997; clear h997; rw [law21_WatchTrue_j20] at hP
  refine wp_region_lit ?_
  refine vr tbok 2 [] [(6, .pointer (some ⟨g45, 0, none⟩)), (11, .slice A695 (List.length x704.2) c696), (175, .bool r22)] [] E (by kernel_rfl) trivial ?_
  clear E; intro a E
  refine E.cases (t := 175) rfl (fun hb_ E_ => ?_) (fun hb_ E_ => ?_)
  ·
   replace E := E_; clear E_
   have h1001 : r22 = true := hb_
   clear hb_; replace hP := ite_t h1001 hP
   refine vr tbok 1 [] [(11, .slice A695 (List.length x704.2) c696), (175, .bool true), (176, .pointer (some ⟨g45, 0, none⟩))] [] E (by kernel_rfl) trivial ?_
   clear E; intro a E
   obtain ⟨r1002, h1003, hP⟩ := bind_inv hP
   obtain ⟨Fa1004, Hc1005, hb1006⟩ := H.call [0, 2] [(1, false)] rfl rfl ⟨flat_plain, trivial⟩
   refine e_call E rfl rfl Try.func14 rfl rfl rfl (watch_Watch_Len_calls g45 b46 0 A691 c692 x49.1 x704.1  Hc1005 h1003) ?_
   intro v1012 w1011 a hR1013 E_
   obtain ⟨x_, hr_, rfl, HR1015⟩ := hR1013
   subst hr_
   replace E := E_ _ rfl; clear E_
   obtain ⟨H_, hc1014⟩ := hb1006 _ _ HR1015 rfl
   replace H := H_; clear H_; try dsimp only [setn, addE, goneL] at H
   refine vr tbok 5 [] [(4, .bool ((r1002 : Int) == (((List.length x704.2) : Nat) : Int)))] [] E (by kernel_rfl) trivial ?_
   clear E; intro a E
   refine wpList_nil ?_
   have hx_ := Option.some.inj hP
   exact .inl ⟨rfl, (r1002 : Int) == (((List.length x704.2) : Nat) : Int), E.pick _ ⟨rfl, trivial⟩, H.sel [] rfl, hx_.symm⟩
  replace E := E_; clear E_
  have h1018 : ¬ (r22 = true) := (ne_true_of_eq_false hb_)
  clear hb_; replace hP := ite_f h1018 hP
  refine vr tbok 7 [] [(4, .bool false)] [] E (by kernel_rfl) trivial ?_
  clear E; intro a E
  refine wpList_nil ?_
  have hx_ := Option.some.inj hP
  exact .inl ⟨rfl, false, E.pick _ ⟨rfl, trivial⟩, H.sel [] rfl, hx_.symm⟩
 clear E H h997; rintro a w1000 ⟨x999, E, H, hx_⟩
 subst hx_; have hP := hK998; clear hK998
 refine th_n ?_
 refine wp_ret ?_
 obtain rfl := Option.some.inj hP
 refine ret1 E rfl rfl ?_
 exact ⟨_, rfl, rfl, H.sel [] rfl⟩

end Go.V
