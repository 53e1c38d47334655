/- Plain functions, and the calls that give them. -/
import Derived.Test.YteemfefeaphfdaaA6
set_option linter.all false
set_option linter.unusedVariables false
set_option linter.unnecessarySimpa false
set_option linter.unusedSimpArgs false
namespace Go.V
open Go Go.Proofs
/-! rejoinder/rejoinderlaw19.LangCounts -/
def law19_LangCounts_j0 (N : Nat) (aProps : Int) (aAccept : List Bool) (aGuard : List Int) (aNodes : List Nd) (most : Int) (t : List Int) : Option Bool :=
    Option.bind (law19_Large N aProps aAccept aGuard aNodes) fun r74 =>
    if r74 = true then
      some true
    else
      if most < 0 then
        some true
      else
        if 3 < most then
          some true
        else
          if 20 < (((List.length t) : Nat) : Int) then
            some true
          else
            Option.bind (guard_Check N aProps aAccept aGuard aNodes) fun r91 =>
            if (r91 : Int) = 0 then
              Option.bind (letter_Trace N aProps t) fun r102 =>
              some ((r102 : Int) != 0)
            else
              some true
def law19_LangCounts_j1 (N : Nat) (r22 : Bool) (r124 : (List (List Int)) × Int) : Option Bool :=
    if r22 = true then
      some ((r124.2 : Int) == 15)
    else
      some false
def law19_LangCounts_j3 (N : Nat) (most : Int) (r124 : (List (List Int)) × Int) (i223 : Int) (r342 : Bool × Int) : Option Bool :=
    if (r342.2 : Int) = 0 then
      if r342.1 = true then
        if most < (((List.length (List.getD r124.1 (Int.toNat i223) [])) : Nat) : Int) then
          some true
        else
          if 0 < i223 then
            ask (in64 (i223 - 1)) <|
            ask (idx (i223 - 1) (List.length r124.1)) <|
            Option.bind (law19_ahead N (List.getD r124.1 (Int.toNat (i223 - 1)) []) (List.getD r124.1 (Int.toNat i223) [])) fun r450 =>
            some (!r450)
          else
            some false
      else
        some true
    else
      some true
def law19_LangCounts_l2 (N : Nat) (aProps : Int) (aAccept : List Bool) (aGuard : List Int) (aNodes : List Nd) (most : Int) (r124 : (List (List Int)) × Int) : Nat → (List Int) → Int → Option ((List Int) ⊕ Bool)
  | 0, _, _ => none
  | m326 + 1, of222, i223 =>
    if i223 < (((List.length r124.1) : Nat) : Int) then
      ask (idx i223 (List.length r124.1)) <|
      Option.bind (lang_Accepts N aProps aAccept aGuard aNodes (List.getD r124.1 (Int.toNat i223) [])) fun r342 =>
      Option.bind (law19_LangCounts_j3 N most r124 i223 r342) fun x420 =>
      if x420 = true then
        some (Sum.inr false)
      else
        ask (idx (((List.length (List.getD r124.1 (Int.toNat i223) [])) : Nat) : Int) (List.length of222)) <|
        ask (in64 (i223 + 1)) <|
        law19_LangCounts_l2 N aProps aAccept aGuard aNodes most r124 m326 (List.set of222 (Int.toNat (((List.length (List.getD r124.1 (Int.toNat i223) [])) : Nat) : Int)) (IntKind.u64.wrap ((List.getD of222 (Int.toNat (((List.length (List.getD r124.1 (Int.toNat i223) [])) : Nat) : Int)) 0) + 1))) (i223 + 1)
    else
      some (Sum.inl of222)
def law19_LangCounts_j5 (N : Nat) (x332 : List Int) (k513 : Int) (r540 : Int × Int) : Option Bool :=
    if (r540.2 : Int) = 0 then
      ask (idx k513 (List.length x332)) <|
      some ((r540.1 : Int) != (List.getD x332 (Int.toNat k513) 0))
    else
      some true
def law19_LangCounts_l4 (N : Nat) (aProps : Int) (aAccept : List Bool) (aGuard : List Int) (aNodes : List Nd) (most : Int) (x332 : List Int) : Nat → Int → Option (Unit ⊕ Bool)
  | 0, _ => none
  | m532 + 1, k513 =>
    if k513 ≤ most then
      Option.bind (lang_Count N aProps aAccept aGuard aNodes k513) fun r540 =>
      Option.bind (law19_LangCounts_j5 N x332 k513 r540) fun x553 =>
      if x553 = true then
        some (Sum.inr false)
      else
        ask (in64 (k513 + 1)) <|
        law19_LangCounts_l4 N aProps aAccept aGuard aNodes most x332 m532 (k513 + 1)
    else
      some (Sum.inl ())
def law19_LangCounts_j6 (N : Nat) (aAccept : List Bool) (r566 : (List Bool) × Int) (r578 : (List Int) × Int) : Option Bool :=
    if (r566.2 : Int) = 0 then
      if (r578.2 : Int) = 0 then
        if ((((List.length r566.1) : Nat) : Int) : Int) = (((List.length aAccept) : Nat) : Int) then
          some (((((List.length r578.1) : Nat) : Int) : Int) != (((List.length aAccept) : Nat) : Int))
        else
          some true
      else
        some true
    else
      some true
def law19_LangCounts_j8 (N : Nat) (aAccept : List Bool) (r566 : (List Bool) × Int) (r578 : (List Int) × Int) (q673 : Int) (i674 : Int) : Option Bool :=
    ask (idx q673 (List.length r578.1)) <|
    if (List.getD r578.1 (Int.toNat q673) 0) < 0 then
      some true
    else
      if i674 < (List.getD r578.1 (Int.toNat q673) 0) then
        some true
      else
        ask (idx q673 (List.length aAccept)) <|
        if (List.getD aAccept (Int.toNat q673) false) = true then
          ask (idx q673 (List.length r566.1)) <|
          some (!(List.getD r566.1 (Int.toNat q673) false))
        else
          some false
def law19_LangCounts_j9 (N : Nat) (r566 : (List Bool) × Int) (q673 : Int) (r793 : Int × Bool) : Option Bool :=
    if r793.2 = true then
      if r793.1 < 0 then
        some true
      else
        if (((List.length r566.1) : Nat) : Int) ≤ r793.1 then
          some true
        else
          ask (idx r793.1 (List.length r566.1)) <|
          if (List.getD r566.1 (Int.toNat r793.1) false) = true then
            ask (idx q673 (List.length r566.1)) <|
            some (!(List.getD r566.1 (Int.toNat q673) false))
          else
            some false
    else
      some true
def law19_LangCounts_l7 (N : Nat) (aAccept : List Bool) (aGuard : List Int) (aNodes : List Nd) (t : List Int) (r22 : Bool) (r566 : (List Bool) × Int) (r578 : (List Int) × Int) : Nat → Int → Int → Option (Unit ⊕ Bool)
  | 0, _, _ => none
  | m739 + 1, q673, i674 =>
    if i674 ≤ (((List.length t) : Nat) : Int) then
      Option.bind (law19_LangCounts_j8 N aAccept r566 r578 q673 i674) fun x763 =>
      if x763 = true then
        some (Sum.inr false)
      else
        if (i674 : Int) = (((List.length t) : Nat) : Int) then
          some (Sum.inr r22)
        else
          ask (idx q673 (List.length aGuard)) <|
          ask (idx i674 (List.length t)) <|
          Option.bind (guard_Go N aNodes (List.getD aGuard (Int.toNat q673) 0) (List.getD t (Int.toNat i674) 0)) fun r793 =>
          Option.bind (law19_LangCounts_j9 N r566 q673 r793) fun x826 =>
          if x826 = true then
            some (Sum.inr false)
          else
            ask (in64 (i674 + 1)) <|
            law19_LangCounts_l7 N aAccept aGuard aNodes t r22 r566 r578 m739 r793.1 (i674 + 1)
    else
      some (Sum.inl ())
def law19_LangCounts (N : Nat) (aProps : Int) (aAccept : List Bool) (aGuard : List Int) (aNodes : List Nd) (most : Int) (t : List Int) : Option Bool :=
  Option.bind (law19_awake N) fun r22 =>
  Option.bind (law19_LangCounts_j0 N aProps aAccept aGuard aNodes most t) fun x69 =>
  if x69 = true then
    some r22
  else
    Option.bind (law19_Real N aProps aAccept aGuard aNodes) fun r113 =>
    if r113 = true then
      Option.bind (lang_Words N aProps aAccept aGuard aNodes most) fun r124 =>
      if (r124.2 : Int) = 0 then
        ask (in64 (most + 1)) <|
        ask (0 ≤ (most + 1) ∧ (most + 1) ≤ 1000000000) <|
        Option.bind (law19_LangCounts_l2 N aProps aAccept aGuard aNodes most r124 N (List.replicate (Int.toNat (most + 1)) (0 : Int)) 0) fun x327 =>
        Sum.elim (fun x332 =>
          Option.bind (law19_LangCounts_l4 N aProps aAccept aGuard aNodes most x332 N 0) fun x533 =>
          Sum.elim (fun x538 =>
            Option.bind (lang_Live N aProps aAccept aGuard aNodes) fun r566 =>
            Option.bind (lang_Reach N aProps aAccept aGuard aNodes) fun r578 =>
            Option.bind (law19_LangCounts_j6 N aAccept r566 r578) fun x597 =>
            if x597 = true then
              some false
            else
              Option.bind (law19_LangCounts_l7 N aAccept aGuard aNodes t r22 r566 r578 N 0 0) fun x740 =>
              Sum.elim (fun x745 =>
                some r22)
               (fun x847 =>
                some x847) x740)
           (fun x565 =>
            some x565) x533)
         (fun x495 =>
          some x495) x327
      else
        Option.bind (law19_LangCounts_j1 N r22 r124) fun x140 =>
        some x140
    else
      some false
set_option maxRecDepth 100000 in
set_option maxHeartbeats 4000000 in
theorem law19_LangCounts_calls {N : Nat} {S Fa : Nat → Prop} {w0 : World} {r : Bool} (A1 : Option Addr) (c2 : Nat) (A5 : Option Addr) (c6 : Nat) (A9 : Option Addr) (c10 : Nat) (A13 : Option Addr) (c14 : Nat) (aProps : Int) (aAccept : List Bool) (aGuard : List Int) (aNodes : List Nd) (most : Int) (t : List Int) (hk3 : List.length aAccept ≤ c2) (hk7 : List.length aGuard ≤ c6) (hk11 : List.length aNodes ≤ c10) (hk15 : List.length t ≤ c14) (H : Hp S Fa w0 w0 [.ro false cBool A1 aAccept, .ro false (cInt .i64) A5 aGuard, .ro false cNode A9 aNodes, .ro false (cInt .u8) A13 t]) (hP : law19_LangCounts N aProps aAccept aGuard aNodes most t = some r) :
    Calls Try.prog 4 #[.agg #[.int .i64 aProps, .slice A1 (List.length aAccept) c2, .slice A5 (List.length aGuard) c6, .slice A9 (List.length aNodes) c10], .int .i64 most, .slice A13 (List.length t) c14] w0 fun e w' => ∃ v, e = .returned v ∧ v = .bool r ∧ Hp S Fa w0 w' [] := by
 refine enterV (n := 263) Try.func4 rfl rfl rfl ?_
 intro a E
 replace E := E.pick [(0, .agg #[.int .i64 aProps, .slice A1 (List.length aAccept) c2, .slice A5 (List.length aGuard) c6, .slice A9 (List.length aNodes) c10]), (1, .int .i64 most), (2, .slice A13 (List.length t) c14)] ⟨rfl, rfl, rfl, trivial⟩
 rw [law19_LangCounts] at hP
 refine wp_seq ?_
 refine wp_region_lit ?_
 refine h_box H E rfl rfl rfl ?_
 intro w18 g17 a hc19 hg21 H_ E_
 replace E := E_ _ rfl; clear E_
 replace H := H_; clear H_; try dsimp only [setn, addE, goneL] at H
 refine vn tbok 1 [] [] [] E (by kernel_rfl) (by kernel_rfl) trivial ?_
 clear E; intro a E
 refine wpList_nil ?_
 refine th_n ?_
 refine wp_seq ?_
 refine wp_region_lit ?_
 obtain ⟨r22, h23, hP⟩ := bind_inv hP
 obtain ⟨Fa24, Hc25, hb26⟩ := H.call [] [] rfl rfl trivial
 refine e_call E rfl rfl Try.func7 rfl rfl rfl (law19_awake_calls    Hc25 h23) ?_
 rintro v27 w28 a ⟨rfl, HR29⟩ E_
 replace E := E_ _ rfl; clear E_
 obtain ⟨H_, hc30⟩ := hb26 _ _ HR29 rfl
 replace H := H_; clear H_; try dsimp only [setn, addE, goneL] at H
 refine vn tbok 1 [] [(7, .bool r22)] [] E (by kernel_rfl) (by kernel_rfl) trivial ?_
 clear E; intro a E
 refine wpList_nil ?_
 refine th_n ?_
 refine wp_seq ?_
 refine wp_seq ?_
 obtain ⟨x69, h70, hK71⟩ := bind_inv hP
 clear hP
 refine meet_cut (fun a w73 => ∃ (x72 : Bool), Fr a 263 [(1, .int .i64 most), (2, .slice A13 (List.length t) c14), (3, .pointer (some ⟨g17, 0, none⟩)), (7, .bool r22), (52, .bool x72)] ∧ Hp S Fa w0 w73 [.ro false (cInt .u8) A13 t, .ro false cBool A1 aAccept, .ro false (cInt .i64) A5 aGuard, .ro false cNode A9 aNodes, .box g17 26 [.int .i64 aProps, .slice A1 (List.length aAccept) c2, .slice A5 (List.length aGuard) c6, .slice A9 (List.length aNodes) c10]] ∧ x69 = x72) ?_ ?_
 ·
  have hP := h70; clear h70; rw [law19_LangCounts_j0] at hP
  refine wp_region_lit ?_
  refine vn tbok 1 [.agg #[.int .i64 aProps, .slice A1 (List.length aAccept) c2, .slice A5 (List.length aGuard) c6, .slice A9 (List.length aNodes) c10]] [(26, .agg #[.int .i64 aProps, .slice A1 (List.length aAccept) c2, .slice A5 (List.length aGuard) c6, .slice A9 (List.length aNodes) c10])] [cellsAt w28 g17 (0) [.int .i64 aProps, .slice A1 (List.length aAccept) c2, .slice A5 (List.length aGuard) c6, .slice A9 (List.length aNodes) c10]] E (by kernel_rfl) (by kernel_rfl) ((H.box 4 rfl).sub 0 _ rfl) ?_
  clear E; intro a E
  obtain ⟨r74, h75, hP⟩ := bind_inv hP
  obtain ⟨Fa76, Hc77, hb78⟩ := H.call [] [(0, false), (1, false), (2, false)] rfl rfl trivial
  refine e_call E rfl rfl Try.func8 rfl rfl rfl (law19_Large_calls A1 c2 A5 c6 A9 c10 aProps aAccept aGuard aNodes hk3 hk7 hk11 Hc77 h75) ?_
  rintro v79 w80 a ⟨rfl, HR81⟩ E_
  replace E := E_ _ rfl; clear E_
  obtain ⟨H_, hc82⟩ := hb78 _ _ HR81 rfl
  replace H := H_; clear H_; try dsimp only [setn, addE, goneL] at H
  refine vn tbok 1 [] [(28, .bool r74)] [] E (by kernel_rfl) (by kernel_rfl) trivial ?_
  clear E; intro a E
  refine E.cases (t := 28) rfl (fun hb_ E_ => ?_) (fun hb_ E_ => ?_)
  ·
   replace E := E_; clear E_
   have h83 : r74 = true := hb_
   clear hb_; replace hP := ite_t h83 hP
   refine vn tbok 24 [] [(52, .bool true)] [] E (by kernel_rfl) (by kernel_rfl) trivial ?_
   clear E; intro a E
   refine wpList_nil ?_
   have hx_ := Option.some.inj hP
   exact .inl ⟨rfl, true, E.pick _ ⟨rfl, rfl, rfl, rfl, rfl, trivial⟩, H.sel [3, 0, 1, 2, 4] rfl, hx_.symm⟩
  replace E := E_; clear E_
  have h84 : ¬ (r74 = true) := (ne_true_of_eq_false hb_)
  clear hb_; replace hP := ite_f h84 hP
  refine vn tbok 4 [] [(32, .bool (decide (most < 0)))] [] E (by kernel_rfl) (by kernel_rfl) trivial ?_
  clear E; intro a E
  refine E.cases (t := 32) rfl (fun hb_ E_ => ?_) (fun hb_ E_ => ?_)
  ·
   replace E := E_; clear E_
   have h85 : most < 0 := of_decide_eq_true hb_
   clear hb_; replace hP := ite_t h85 hP
   refine vn tbok 20 [] [(52, .bool true)] [] E (by kernel_rfl) (by kernel_rfl) trivial ?_
   clear E; intro a E
   refine wpList_nil ?_
   have hx_ := Option.some.inj hP
   exact .inl ⟨rfl, true, E.pick _ ⟨rfl, rfl, rfl, rfl, rfl, trivial⟩, H.sel [3, 0, 1, 2, 4] rfl, hx_.symm⟩
  replace E := E_; clear E_
  have h86 : ¬ (most < 0) := of_decide_eq_false hb_
  clear hb_; replace hP := ite_f h86 hP
  refine vn tbok 4 [] [(36, .bool (decide (3 < most)))] [] E (by kernel_rfl) (by kernel_rfl) trivial ?_
  clear E; intro a E
  refine E.cases (t := 36) rfl (fun hb_ E_ => ?_) (fun hb_ E_ => ?_)
  ·
   replace E := E_; clear E_
   have h87 : 3 < most := of_decide_eq_true hb_
   clear hb_; replace hP := ite_t h87 hP
   refine vn tbok 16 [] [(52, .bool true)] [] E (by kernel_rfl) (by kernel_rfl) trivial ?_
   clear E; intro a E
   refine wpList_nil ?_
   have hx_ := Option.some.inj hP
   exact .inl ⟨rfl, true, E.pick _ ⟨rfl, rfl, rfl, rfl, rfl, trivial⟩, H.sel [3, 0, 1, 2, 4] rfl, hx_.symm⟩
  replace E := E_; clear E_
  have h88 : ¬ (3 < most) := of_decide_eq_false hb_
  clear hb_; replace hP := ite_f h88 hP
  refine vn tbok 5 [] [(41, .bool (decide (20 < (((List.length t) : Nat) : Int))))] [] E (by kernel_rfl) (by kernel_rfl) trivial ?_
  clear E; intro a E
  refine E.cases (t := 41) rfl (fun hb_ E_ => ?_) (fun hb_ E_ => ?_)
  ·
   replace E := E_; clear E_
   have h89 : 20 < (((List.length t) : Nat) : Int) := of_decide_eq_true hb_
   clear hb_; replace hP := ite_t h89 hP
   refine vn tbok 11 [] [(52, .bool true)] [] E (by kernel_rfl) (by kernel_rfl) trivial ?_
   clear E; intro a E
   refine wpList_nil ?_
   have hx_ := Option.some.inj hP
   exact .inl ⟨rfl, true, E.pick _ ⟨rfl, rfl, rfl, rfl, rfl, trivial⟩, H.sel [3, 0, 1, 2, 4] rfl, hx_.symm⟩
  replace E := E_; clear E_
  have h90 : ¬ (20 < (((List.length t) : Nat) : Int)) := of_decide_eq_false hb_
  clear hb_; replace hP := ite_f h90 hP
  refine vn tbok 1 [.agg #[.int .i64 aProps, .slice A1 (List.length aAccept) c2, .slice A5 (List.length aGuard) c6, .slice A9 (List.length aNodes) c10]] [(42, .agg #[.int .i64 aProps, .slice A1 (List.length aAccept) c2, .slice A5 (List.length aGuard) c6, .slice A9 (List.length aNodes) c10])] [cellsAt w80 g17 (0) [.int .i64 aProps, .slice A1 (List.length aAccept) c2, .slice A5 (List.length aGuard) c6, .slice A9 (List.length aNodes) c10]] E (by kernel_rfl) (by kernel_rfl) ((H.box 4 rfl).sub 0 _ rfl) ?_
  clear E; intro a E
  obtain ⟨r91, h92, hP⟩ := bind_inv hP
  obtain ⟨Fa93, Hc94, hb95⟩ := H.call [] [(0, false), (1, false), (2, false)] rfl rfl trivial
  refine e_call E rfl rfl Try.func9 rfl rfl rfl (guard_Check_calls A1 c2 A5 c6 A9 c10 aProps aAccept aGuard aNodes hk3 hk7 hk11 Hc94 h92) ?_
  rintro v96 w97 a ⟨rfl, HR98⟩ E_
  replace E := E_ _ rfl; clear E_
  obtain ⟨H_, hc99⟩ := hb95 _ _ HR98 rfl
  replace H := H_; clear H_; try dsimp only [setn, addE, goneL] at H
  refine vn tbok 3 [] [(46, .bool ((r91 : Int) != 0))] [] E (by kernel_rfl) (by kernel_rfl) trivial ?_
  clear E; intro a E
  refine E.cases (t := 46) rfl (fun hb_ E_ => ?_) (fun hb_ E_ => ?_)
  ·
   replace E := E_; clear E_
   have h100 : ¬ ((r91 : Int) = 0) := bne_iff_ne.1 hb_
   clear hb_; replace hP := ite_f h100 hP
   refine vn tbok 6 [] [(52, .bool true)] [] E (by kernel_rfl) (by kernel_rfl) trivial ?_
   clear E; intro a E
   refine wpList_nil ?_
   have hx_ := Option.some.inj hP
   exact .inl ⟨rfl, true, E.pick _ ⟨rfl, rfl, rfl, rfl, rfl, trivial⟩, H.sel [3, 0, 1, 2, 4] rfl, hx_.symm⟩
  replace E := E_; clear E_
  have h101 : (r91 : Int) = 0 := bne_eq_false_iff_eq.1 hb_
  clear hb_; replace hP := ite_t h101 hP
  refine vn tbok 3 [.int .i64 aProps] [(48, .int .i64 aProps), (49, .slice A13 (List.length t) c14)] [World.cell? w97 ⟨g17, 0, none⟩ = some (.int .i64 aProps)] E (by kernel_rfl) (by kernel_rfl) ((H.box 4 rfl).cell (j := 0) rfl) ?_
  clear E; intro a E
  obtain ⟨r102, h103, hP⟩ := bind_inv hP
  obtain ⟨Fa104, Hc105, hb106⟩ := H.call [] [(3, false)] rfl rfl trivial
  refine e_call E rfl rfl Try.func10 rfl rfl rfl (letter_Trace_calls A13 c14 aProps t hk15 Hc105 h103) ?_
  rintro v107 w108 a ⟨rfl, HR109⟩ E_
  replace E := E_ _ rfl; clear E_
  obtain ⟨H_, hc110⟩ := hb106 _ _ HR109 rfl
  replace H := H_; clear H_; try dsimp only [setn, addE, goneL] at H
  refine vn tbok 2 [] [(52, .bool ((r102 : Int) != 0))] [] E (by kernel_rfl) (by kernel_rfl) trivial ?_
  clear E; intro a E
  refine wpList_nil ?_
  have hx_ := Option.some.inj hP
  exact .inl ⟨rfl, (r102 : Int) != 0, E.pick _ ⟨rfl, rfl, rfl, rfl, rfl, trivial⟩, H.sel [3, 0, 1, 2, 4] rfl, hx_.symm⟩
 clear E H h70; rintro a w73 ⟨x72, E, H, hx_⟩
 subst hx_; have hP := hK71; clear hK71
 refine th_n ?_
 refine E.cases (t := 52) rfl (fun hb_ E_ => ?_) (fun hb_ E_ => ?_)
 ·
  replace E := E_; clear E_
  have h111 : x69 = true := hb_
  clear hb_; replace hP := ite_t h111 hP
  refine c_true E rfl ?_
  refine wp_seq ?_
  refine wp_region_lit ?_
  refine vn tbok 2 [] [(6, .bool r22)] [] E (by kernel_rfl) (by kernel_rfl) trivial ?_
  clear E; intro a E
  refine wpList_nil ?_
  refine th_n ?_
  refine wp_ret ?_
  refine th_ret ?_
  obtain rfl := Option.some.inj hP
  refine ret1 E rfl rfl ?_
  exact ⟨_, rfl, rfl, H.sel [] rfl⟩
 replace E := E_; clear E_
 have h112 : ¬ (x69 = true) := (ne_true_of_eq_false hb_)
 clear hb_; replace hP := ite_f h112 hP
 refine c_false E rfl ?_
 refine wp_skip ?_
 refine th_n ?_
 refine wp_seq ?_
 refine wp_seq ?_
 refine wp_region_lit ?_
 refine vn tbok 1 [.agg #[.int .i64 aProps, .slice A1 (List.length aAccept) c2, .slice A5 (List.length aGuard) c6, .slice A9 (List.length aNodes) c10]] [(54, .agg #[.int .i64 aProps, .slice A1 (List.length aAccept) c2, .slice A5 (List.length aGuard) c6, .slice A9 (List.length aNodes) c10])] [cellsAt w73 g17 (0) [.int .i64 aProps, .slice A1 (List.length aAccept) c2, .slice A5 (List.length aGuard) c6, .slice A9 (List.length aNodes) c10]] E (by kernel_rfl) (by kernel_rfl) ((H.box 4 rfl).sub 0 _ rfl) ?_
 clear E; intro a E
 obtain ⟨r113, h114, hP⟩ := bind_inv hP
 obtain ⟨Fa115, Hc116, hb117⟩ := H.call [] [(1, false), (2, false), (3, false)] rfl rfl trivial
 refine e_call E rfl rfl Try.func11 rfl rfl rfl (law19_Real_calls A1 c2 A5 c6 A9 c10 aProps aAccept aGuard aNodes hk3 hk7 hk11 Hc116 h114) ?_
 rintro v118 w119 a ⟨rfl, HR120⟩ E_
 replace E := E_ _ rfl; clear E_
 obtain ⟨H_, hc121⟩ := hb117 _ _ HR120 rfl
 replace H := H_; clear H_; try dsimp only [setn, addE, goneL] at H
 refine vn tbok 1 [] [(56, .bool (!r113))] [] E (by kernel_rfl) (by kernel_rfl) trivial ?_
 clear E; intro a E
 refine wpList_nil ?_
 refine th_n ?_
 refine E.cases (t := 56) rfl (fun hb_ E_ => ?_) (fun hb_ E_ => ?_)
 ·
  replace E := E_; clear E_
  have h122 : ¬ (r113 = true) := (ne_true_of_eq_false (not_t hb_))
  clear hb_; replace hP := ite_f h122 hP
  refine c_true E rfl ?_
  refine wp_seq ?_
  refine wp_region_lit ?_
  refine vn tbok 1 [] [(6, .bool false)] [] E (by kernel_rfl) (by kernel_rfl) trivial ?_
  clear E; intro a E
  refine wpList_nil ?_
  refine th_n ?_
  refine wp_ret ?_
  refine th_ret ?_
  obtain rfl := Option.some.inj hP
  refine ret1 E rfl rfl ?_
  exact ⟨_, rfl, rfl, H.sel [] rfl⟩
 replace E := E_; clear E_
 have h123 : r113 = true := (not_f hb_)
 clear hb_; replace hP := ite_t h123 hP
 refine c_false E rfl ?_
 refine wp_skip ?_
 refine th_n ?_
 refine wp_seq ?_
 refine wp_region_lit ?_
 refine vn tbok 2 [.agg #[.int .i64 aProps, .slice A1 (List.length aAccept) c2, .slice A5 (List.length aGuard) c6, .slice A9 (List.length aNodes) c10]] [(58, .agg #[.int .i64 aProps, .slice A1 (List.length aAccept) c2, .slice A5 (List.length aGuard) c6, .slice A9 (List.length aNodes) c10]), (59, .int .i64 most)] [cellsAt w119 g17 (0) [.int .i64 aProps, .slice A1 (List.length aAccept) c2, .slice A5 (List.length aGuard) c6, .slice A9 (List.length aNodes) c10]] E (by kernel_rfl) (by kernel_rfl) ((H.box 4 rfl).sub 0 _ rfl) ?_
 clear E; intro a E
 obtain ⟨r124, h125, hP⟩ := bind_inv hP
 obtain ⟨Fa126, Hc127, hb128⟩ := H.call [] [(1, false), (2, false), (3, false)] rfl rfl trivial
 refine e_call E rfl rfl Try.func16 rfl rfl rfl (lang_Words_calls A1 c2 A5 c6 A9 c10 aProps aAccept aGuard aNodes most hk3 hk7 hk11 Hc127 h125) ?_
 rintro v129 w130 a ⟨A133, c134, rfl, HR131⟩ E_
 replace E := E_ _ rfl; clear E_
 obtain ⟨H_, hc132⟩ := hb128 _ _ HR131 rfl
 replace H := H_; clear H_; try dsimp only [setn, addE, goneL] at H
 refine vn tbok 5 [] [(8, .slice A133 (List.length r124.1) c134), (9, .int .i64 r124.2)] [] E (by kernel_rfl) (by kernel_rfl) trivial ?_
 clear E; intro a E
 refine wpList_nil ?_
 refine th_n ?_
 refine wp_seq ?_
 refine wp_seq ?_
 refine wp_region_lit ?_
 refine vn tbok 2 [] [(64, .bool ((r124.2 : Int) != 0))] [] E (by kernel_rfl) (by kernel_rfl) trivial ?_
 clear E; intro a E
 refine wpList_nil ?_
 refine th_n ?_
 refine E.cases (t := 64) rfl (fun hb_ E_ => ?_) (fun hb_ E_ => ?_)
 ·
  replace E := E_; clear E_
  have h136 : ¬ ((r124.2 : Int) = 0) := bne_iff_ne.1 hb_
  clear hb_; replace hP := ite_f h136 hP
  refine c_true E rfl ?_
  refine wp_seq ?_
  obtain ⟨x140, h141, hK142⟩ := bind_inv hP
  clear hP
  refine meet_cut (fun a w144 => ∃ (x143 : Bool), Fr a 263 [(6, .bool x143)] ∧ Hp S Fa w0 w144 [] ∧ x140 = x143) ?_ ?_
  ·
   have hP := h141; clear h141; rw [law19_LangCounts_j1] at hP
   refine wp_region_lit ?_
   refine vn tbok 2 [] [(66, .bool r22)] [] E (by kernel_rfl) (by kernel_rfl) trivial ?_
   clear E; intro a E
   refine E.cases (t := 66) rfl (fun hb_ E_ => ?_) (fun hb_ E_ => ?_)
   ·
    replace E := E_; clear E_
    have h145 : r22 = true := hb_
    clear hb_; replace hP := ite_t h145 hP
    refine vn tbok 4 [] [(6, .bool ((r124.2 : Int) == 15))] [] E (by kernel_rfl) (by kernel_rfl) trivial ?_
    clear E; intro a E
    refine wpList_nil ?_
    have hx_ := Option.some.inj hP
    exact .inl ⟨rfl, (r124.2 : Int) == 15, E.pick _ ⟨rfl, trivial⟩, H.sel [] rfl, hx_.symm⟩
   replace E := E_; clear E_
   have h146 : ¬ (r22 = true) := (ne_true_of_eq_false hb_)
   clear hb_; replace hP := ite_f h146 hP
   refine vn tbok 4 [] [(6, .bool false)] [] E (by kernel_rfl) (by kernel_rfl) trivial ?_
   clear E; intro a E
   refine wpList_nil ?_
   have hx_ := Option.some.inj hP
   exact .inl ⟨rfl, false, E.pick _ ⟨rfl, trivial⟩, H.sel [] rfl, hx_.symm⟩
  clear E H h141; rintro a w144 ⟨x143, E, H, hx_⟩
  subst hx_; have hP := hK142; clear hK142
  refine th_n ?_
  refine wp_ret ?_
  refine th_ret ?_
  obtain rfl := Option.some.inj hP
  refine ret1 E rfl rfl ?_
  exact ⟨_, rfl, rfl, H.sel [] rfl⟩
 replace E := E_; clear E_
 have h147 : (r124.2 : Int) = 0 := bne_eq_false_iff_eq.1 hb_
 clear hb_; replace hP := ite_t h147 hP
 refine c_false E rfl ?_
 refine wp_skip ?_
 refine th_n ?_
 refine wp_seq ?_
 refine wp_region_lit ?_
 obtain ⟨g148, hP⟩ := ask_inv hP
 refine vn tbok 2 [.int .i64 (most + 1)] [(71, .int .i64 (most + 1))] [IntKind.i64.wrap (most + 1) = most + 1] E (by kernel_rfl) (by kernel_rfl) (wrap_in g148) ?_
 clear E; intro a E
 obtain ⟨g149, hP⟩ := ask_inv hP
 refine h_make (cInt .u64) (0 : Int) H E rfl rfl tbok rfl rfl rfl rfl ⟨g149.1, Int.le_refl _, g149.2⟩ rfl rfl rfl (fun _ _ => rfl) ?_
 intro w151 g150 a hc152 hg154 H_ E_
 replace E := E_ _ rfl; clear E_
 replace H := H_; clear H_; try dsimp only [setn, addE, goneL] at H
 refine vn tbok 1 [] [(10, .slice (some ⟨g150, 0, none⟩) (List.length (List.replicate (Int.toNat (most + 1)) (0 : Int))) (Int.toNat (most + 1)))] [] E (by kernel_rfl) (by kernel_rfl) trivial ?_
 clear E; intro a E
 refine wpList_nil ?_
 refine th_n ?_
 refine wp_seq ?_
 refine wp_seq ?_
 refine wp_region_lit ?_
 refine vn tbok 1 [] [(11, .int .i64 0)] [] E (by kernel_rfl) (by kernel_rfl) trivial ?_
 clear E; intro a E
 refine wpList_nil ?_
 refine th_n ?_
 refine wp_block ?_
 obtain ⟨x327, hL328, hK329⟩ := bind_inv hP
 clear hP
 refine loop_cut (fun i_ a w_ => (i_ = 0 ∧ ∃ (x332 : List Int), Fr a 263 [(1, .int .i64 most), (2, .slice A13 (List.length t) c14), (3, .pointer (some ⟨g17, 0, none⟩)), (7, .bool r22), (10, .slice (some ⟨g150, 0, none⟩) (List.length x332) (Int.toNat (most + 1)))] ∧ Hp S Fa w0 w_ [.ro false (cInt .u8) A13 t, .ro false cBool A1 aAccept, .ro false (cInt .i64) A5 aGuard, .ro false cNode A9 aNodes, .box g17 26 [.int .i64 aProps, .slice A1 (List.length aAccept) c2, .slice A5 (List.length aGuard) c6, .slice A9 (List.length aNodes) c10], .rowx true (cInt .u64) 43 (some ⟨g150, 0, none⟩) (Int.toNat (most + 1)) x332 (List.replicate (Int.toNat (most + 1) - Int.toNat (most + 1)) (0 : Int))] ∧ x327 = Sum.inl x332)) ?_ ?_
 ·
  refine loopV (fun m331 a w330 => ∃ (of222 : List Int) (i223 : Int), Fr a 263 [(1, .int .i64 most), (2, .slice A13 (List.length t) c14), (3, .pointer (some ⟨g17, 0, none⟩)), (7, .bool r22), (8, .slice A133 (List.length r124.1) c134), (10, .slice (some ⟨g150, 0, none⟩) (List.length of222) (Int.toNat (most + 1))), (11, .int .i64 i223)] ∧ Hp S Fa w0 w330 [.ro false (cInt .u8) A13 t, .ro false cBool A1 aAccept, .ro false (cInt .i64) A5 aGuard, .ro false cNode A9 aNodes, .box g17 26 [.int .i64 aProps, .slice A1 (List.length aAccept) c2, .slice A5 (List.length aGuard) c6, .slice A9 (List.length aNodes) c10], .row true (cSl (cInt .u8)) 27 A133 c134 r124.1, .rowx true (cInt .u64) 43 (some ⟨g150, 0, none⟩) (Int.toNat (most + 1)) of222 (List.replicate (Int.toNat (most + 1) - Int.toNat (most + 1)) (0 : Int))] ∧ law19_LangCounts_l2 N aProps aAccept aGuard aNodes most r124 m331 of222 i223 = some x327) N ?_ ?_
  ·
   exact ⟨List.replicate (Int.toNat (most + 1)) (0 : Int), 0, E.pick _ ⟨rfl, rfl, rfl, rfl, rfl, rfl, rfl, trivial⟩, H.sel [0, 1, 2, 3, 4, 5, 6] rfl, hL328⟩
  clear E H hL328; intro m331 a w330 hI_
  obtain ⟨of222, i223, E, H, hP⟩ := hI_
  obtain ⟨m326, rfl⟩ : ∃ q_, m331 = q_ + 1 := by cases m331 with | zero => rw [law19_LangCounts_l2] at hP; cases hP | succ q_ => exact ⟨q_, rfl⟩
  rw [law19_LangCounts_l2] at hP
  refine wp_seq ?_
  refine wp_seq ?_
  refine wp_region_lit ?_
  refine vn tbok 4 [] [(76, .bool (decide (i223 < (((List.length r124.1) : Nat) : Int))))] [] E (by kernel_rfl) (by kernel_rfl) trivial ?_
  clear E; intro a E
  refine wpList_nil ?_
  refine th_n ?_
  refine E.cases (t := 76) rfl (fun hb_ E_ => ?_) (fun hb_ E_ => ?_)
  ·
   replace E := E_; clear E_
   have h333 : i223 < (((List.length r124.1) : Nat) : Int) := of_decide_eq_true hb_
   clear hb_; replace hP := ite_t h333 hP
   refine c_true E rfl ?_
   refine wp_skip ?_
   refine th_n ?_
   refine wp_seq ?_
   refine wp_block ?_
   refine wp_seq ?_
   obtain ⟨g334, hP⟩ := ask_inv hP
   obtain ⟨b335, e_b335⟩ := H.raddr 5 rfl (idx_pos g334)
   subst e_b335
   obtain ⟨A337, c338, hl339, hk340, H⟩ := H.subSl 5 true (el_row rfl) g334
   try dsimp only [addE] at H
   obtain ⟨r342, h343, hP⟩ := bind_inv hP
   have HR354 := H
   refine dr_start (S := fun w_ => Chg (atL []) w330 w_) (by kernel_rfl) ?_
   intro w351 hc352
   have HS353 : Chg (atL []) w330 w351 := hc352.mono (fun _ _ h_ => h_.elim)
   replace H := H.ext hc352
   refine dn tbok (by kernel_rfl) [0, 1, 2, 3, 4] [.agg #[.int .i64 aProps, .slice A1 (List.length aAccept) c2, .slice A5 (List.length aGuard) c6, .slice A9 (List.length aNodes) c10], .slice A337 (List.length (List.getD r124.1 (Int.toNat i223) [])) c338] [(80, .agg #[.int .i64 aProps, .slice A1 (List.length aAccept) c2, .slice A5 (List.length aGuard) c6, .slice A9 (List.length aNodes) c10]), (84, .slice A337 (List.length (List.getD r124.1 (Int.toNat i223) [])) c338)] (fun w_ => [cellsAt w_ g17 (0) [.int .i64 aProps, .slice A1 (List.length aAccept) c2, .slice A5 (List.length aGuard) c6, .slice A9 (List.length aNodes) c10], 0 ≤ i223 ∧ i223 < (((List.length r124.1) : Nat) : Int), World.cell? w_ ⟨b335, 0 + (Int.toNat i223) * 1, none⟩ = some (.slice A337 (List.length (List.getD r124.1 (Int.toNat i223) [])) c338)]) 6 E (fun _ _ => by kernel_rfl) (by kernel_rfl) (fun w_ hS_ => ⟨(HR354.boxk [] hS_ 4 rfl rfl).sub 0 _ rfl, g334, hS_.cell (hl339) (HR354.blk [] 5 rds_row (idx_pos g334) rfl)⟩) (by kernel_rfl) HS353 ?_
   clear E; intro a E
   refine wpAnyH_all (rs := [5]) (by kernel_rfl) (by simp) ?_
   refine all1 ?_
   refine wpOp_of_list rfl ?_
   obtain ⟨Fa355, Hc356, hb357⟩ := H.call [] [(1, false), (2, false), (3, false), (7, false)] rfl rfl trivial
   refine e_call E rfl rfl Try.func12 rfl rfl rfl (lang_Accepts_calls A1 c2 A5 c6 A9 c10 A337 c338 aProps aAccept aGuard aNodes (List.getD r124.1 (Int.toNat i223) []) hk3 hk7 hk11 hk340 Hc356 h343) ?_
   rintro v358 w359 a ⟨rfl, HR360⟩ E_
   replace E := E_ _ rfl; clear E_
   obtain ⟨H_, hc361⟩ := hb357 _ _ HR360 rfl
   replace HS353 := HS353.ext (callS_ext hc361)
   replace H := H_; clear H_; try dsimp only [setn, addE, goneL] at H
   refine wpList_nil ?_
   refine th_n ⟨HS353, ?_⟩
   refine dn tbok (by kernel_rfl) [6, 7, 8, 9, 10] [] [(12, .bool r342.1), (13, .int .i64 r342.2)] (fun w_ => []) 0 E (fun _ _ => by kernel_rfl) (by kernel_rfl) (fun w_ hS_ => trivial) (by kernel_rfl) HS353 ?_
   clear E; intro a E
   refine dr_done (by kernel_rfl) ?_
   clear HS353 HR354
   refine th_n ?_
   refine wp_seq ?_
   refine wp_seq ?_
   obtain ⟨x420, h421, hK422⟩ := bind_inv hP
   clear hP
   refine meet_cut (fun a w424 => ∃ (x423 : Bool), Fr a 263 [(1, .int .i64 most), (2, .slice A13 (List.length t) c14), (3, .pointer (some ⟨g17, 0, none⟩)), (7, .bool r22), (8, .slice (some ⟨b335, 0, none⟩) (List.length r124.1) c134), (10, .slice (some ⟨g150, 0, none⟩) (List.length of222) (Int.toNat (most + 1))), (11, .int .i64 i223), (119, .bool x423)] ∧ Hp S Fa w0 w424 [.ro false (cInt .u8) A13 t, .ro false cBool A1 aAccept, .ro false (cInt .i64) A5 aGuard, .ro false cNode A9 aNodes, .box g17 26 [.int .i64 aProps, .slice A1 (List.length aAccept) c2, .slice A5 (List.length aGuard) c6, .slice A9 (List.length aNodes) c10], .row true (cSl (cInt .u8)) 27 (some ⟨b335, 0, none⟩) c134 r124.1, .rowx true (cInt .u64) 43 (some ⟨g150, 0, none⟩) (Int.toNat (most + 1)) of222 (List.replicate (Int.toNat (most + 1) - Int.toNat (most + 1)) (0 : Int))] ∧ x420 = x423) ?_ ?_
   ·
    have hP := h421; clear h421; rw [law19_LangCounts_j3] at hP
    by_cases h425 : (r342.2 : Int) = 0
    ·
     replace hP := ite_t h425 hP
     by_cases h426 : r342.1 = true
     ·
      replace hP := ite_t h426 hP
      obtain ⟨A427, c428, hl429, hk430, H⟩ := H.subSl 5 true (el_row rfl) g334
      try dsimp only [addE] at H
      by_cases h432 : most < (((List.length (List.getD r124.1 (Int.toNat i223) [])) : Nat) : Int)
      ·
       replace hP := ite_t h432 hP
       have HR436 := H
       refine dr_start (S := fun w_ => Chg (atL []) w359 w_) (by kernel_rfl) ?_
       intro w433 hc434
       have HS435 : Chg (atL []) w359 w433 := hc434.mono (fun _ _ h_ => h_.elim)
       replace H := H.ext hc434
       refine dn tbok (by kernel_rfl) [0, 1, 2] [] [(90, .bool ((r342.2 : Int) != 0))] (fun w_ => []) 29 E (fun _ _ => by kernel_rfl) (by kernel_rfl) (fun w_ hS_ => trivial) (by kernel_rfl) HS435 ?_
       clear E; intro a E
       replace E := E.same (t := 90) (u := .bool false) rfl (congrArg Value.bool (bne_eq_false_iff_eq.2 h425))
       refine dn tbok (by kernel_rfl) [3, 4, 5, 6] [] [(94, .bool (!r342.1))] (fun w_ => []) 25 E (fun _ _ => by kernel_rfl) (by kernel_rfl) (fun w_ hS_ => trivial) (by kernel_rfl) HS435 ?_
       clear E; intro a E
       replace E := E.same (t := 94) (u := .bool false) rfl (congrArg Value.bool (not_t' (h426)))
       refine dn tbok (by kernel_rfl) [7, 8, 9, 10, 11, 12, 13, 14, 15] [.slice A427 (List.length (List.getD r124.1 (Int.toNat i223) [])) c428] [(103, .bool (decide (most < (((List.length (List.getD r124.1 (Int.toNat i223) [])) : Nat) : Int))))] (fun w_ => [0 ≤ i223 ∧ i223 < (((List.length r124.1) : Nat) : Int), World.cell? w_ ⟨b335, 0 + (Int.toNat i223) * 1, none⟩ = some (.slice A427 (List.length (List.getD r124.1 (Int.toNat i223) [])) c428)]) 16 E (fun _ _ => by kernel_rfl) (by kernel_rfl) (fun w_ hS_ => ⟨g334, hS_.cell (hl429) (HR436.blk [] 5 rds_row (idx_pos g334) rfl)⟩) (by kernel_rfl) HS435 ?_
       clear E; intro a E
       replace E := E.same (t := 103) (u := .bool true) rfl (congrArg Value.bool (decide_eq_true h432))
       refine dn tbok (by kernel_rfl) [16, 17, 18, 19, 20, 21, 22, 23, 24, 25, 26, 27, 28, 29, 30, 31] [] [(119, .bool true)] (fun w_ => []) 0 E (fun _ _ => by kernel_rfl) (by kernel_rfl) (fun w_ hS_ => trivial) (by kernel_rfl) HS435 ?_
       clear E; intro a E
       refine dr_done (by kernel_rfl) ?_
       clear HS435 HR436
       have hx_ := Option.some.inj hP
       exact .inl ⟨rfl, true, E.pick _ ⟨rfl, rfl, rfl, rfl, rfl, rfl, rfl, rfl, trivial⟩, H.sel [0, 1, 2, 3, 4, 5, 6] rfl, hx_.symm⟩
      replace hP := ite_f h432 hP
      by_cases h437 : 0 < i223
      ·
       replace hP := ite_t h437 hP
       obtain ⟨g438, hP⟩ := ask_inv hP
       obtain ⟨g439, hP⟩ := ask_inv hP
       obtain ⟨A440, c441, hl442, hk443, H⟩ := H.subSl 5 true (el_row rfl) g439
       try dsimp only [addE] at H
       obtain ⟨A445, c446, hl447, hk448, H⟩ := H.subSl 5 true (el_row rfl) g334
       try dsimp only [addE] at H
       obtain ⟨r450, h451, hP⟩ := bind_inv hP
       have HR462 := H
       refine dr_start (S := fun w_ => Chg (atL []) w359 w_) (by kernel_rfl) ?_
       intro w459 hc460
       have HS461 : Chg (atL []) w359 w459 := hc460.mono (fun _ _ h_ => h_.elim)
       replace H := H.ext hc460
       refine dn tbok (by kernel_rfl) [0, 1, 2] [] [(90, .bool ((r342.2 : Int) != 0))] (fun w_ => []) 29 E (fun _ _ => by kernel_rfl) (by kernel_rfl) (fun w_ hS_ => trivial) (by kernel_rfl) HS461 ?_
       clear E; intro a E
       replace E := E.same (t := 90) (u := .bool false) rfl (congrArg Value.bool (bne_eq_false_iff_eq.2 h425))
       refine dn tbok (by kernel_rfl) [3, 4, 5, 6] [] [(94, .bool (!r342.1))] (fun w_ => []) 25 E (fun _ _ => by kernel_rfl) (by kernel_rfl) (fun w_ hS_ => trivial) (by kernel_rfl) HS461 ?_
       clear E; intro a E
       replace E := E.same (t := 94) (u := .bool false) rfl (congrArg Value.bool (not_t' (h426)))
       refine dn tbok (by kernel_rfl) [7, 8, 9, 10, 11, 12, 13, 14, 15] [.slice A427 (List.length (List.getD r124.1 (Int.toNat i223) [])) c428] [(103, .bool (decide (most < (((List.length (List.getD r124.1 (Int.toNat i223) [])) : Nat) : Int))))] (fun w_ => [0 ≤ i223 ∧ i223 < (((List.length r124.1) : Nat) : Int), World.cell? w_ ⟨b335, 0 + (Int.toNat i223) * 1, none⟩ = some (.slice A427 (List.length (List.getD r124.1 (Int.toNat i223) [])) c428)]) 16 E (fun _ _ => by kernel_rfl) (by kernel_rfl) (fun w_ hS_ => ⟨g334, hS_.cell (hl429) (HR462.blk [] 5 rds_row (idx_pos g334) rfl)⟩) (by kernel_rfl) HS461 ?_
       clear E; intro a E
       replace E := E.same (t := 103) (u := .bool false) rfl (congrArg Value.bool (decide_eq_false h432))
       refine dn tbok (by kernel_rfl) [16, 17, 18] [] [(106, .bool (decide (0 < i223)))] (fun w_ => []) 13 E (fun _ _ => by kernel_rfl) (by kernel_rfl) (fun w_ hS_ => trivial) (by kernel_rfl) HS461 ?_
       clear E; intro a E
       replace E := E.same (t := 106) (u := .bool true) rfl (congrArg Value.bool (decide_eq_true h437))
       refine dn tbok (by kernel_rfl) [19, 20, 21, 22, 23, 24, 25, 26, 27] [.int .i64 (i223 - 1), .slice A440 (List.length (List.getD r124.1 (Int.toNat (i223 - 1)) [])) c441, .slice A445 (List.length (List.getD r124.1 (Int.toNat i223) [])) c446] [(111, .slice A440 (List.length (List.getD r124.1 (Int.toNat (i223 - 1)) [])) c441), (115, .slice A445 (List.length (List.getD r124.1 (Int.toNat i223) [])) c446)] (fun w_ => [IntKind.i64.wrap (i223 - 1) = i223 - 1, 0 ≤ (i223 - 1) ∧ (i223 - 1) < (((List.length r124.1) : Nat) : Int), World.cell? w_ ⟨b335, 0 + (Int.toNat (i223 - 1)) * 1, none⟩ = some (.slice A440 (List.length (List.getD r124.1 (Int.toNat (i223 - 1)) [])) c441), 0 ≤ i223 ∧ i223 < (((List.length r124.1) : Nat) : Int), World.cell? w_ ⟨b335, 0 + (Int.toNat i223) * 1, none⟩ = some (.slice A445 (List.length (List.getD r124.1 (Int.toNat i223) [])) c446)]) 4 E (fun _ _ => by kernel_rfl) (by kernel_rfl) (fun w_ hS_ => ⟨wrap_in g438, g439, hS_.cell (hl442) (HR462.blk [] 5 rds_row (idx_pos g439) rfl), g334, hS_.cell (hl447) (HR462.blk [] 5 rds_row (idx_pos g334) rfl)⟩) (by kernel_rfl) HS461 ?_
       clear E; intro a E
       refine wpAnyH_all (rs := [28]) (by kernel_rfl) (by simp) ?_
       refine all1 ?_
       refine wpOp_of_list rfl ?_
       obtain ⟨Fa463, Hc464, hb465⟩ := H.call [] [(9, false), (10, false)] rfl rfl trivial
       refine e_call E rfl rfl Try.func15 rfl rfl rfl (law19_ahead_calls A440 c441 A445 c446 (List.getD r124.1 (Int.toNat (i223 - 1)) []) (List.getD r124.1 (Int.toNat i223) []) hk443 hk448 Hc464 h451) ?_
       rintro v466 w467 a ⟨rfl, HR468⟩ E_
       replace E := E_ _ rfl; clear E_
       obtain ⟨H_, hc469⟩ := hb465 _ _ HR468 rfl
       replace HS461 := HS461.ext (callS_ext hc469)
       replace H := H_; clear H_; try dsimp only [setn, addE, goneL] at H
       refine wpList_nil ?_
       refine th_n ⟨HS461, ?_⟩
       refine dn tbok (by kernel_rfl) [29, 30, 31] [] [(119, .bool (!r450))] (fun w_ => []) 0 E (fun _ _ => by kernel_rfl) (by kernel_rfl) (fun w_ hS_ => trivial) (by kernel_rfl) HS461 ?_
       clear E; intro a E
       refine dr_done (by kernel_rfl) ?_
       clear HS461 HR462
       have hx_ := Option.some.inj hP
       exact .inl ⟨rfl, !r450, E.pick _ ⟨rfl, rfl, rfl, rfl, rfl, rfl, rfl, rfl, trivial⟩, H.sel [0, 1, 2, 3, 4, 5, 6] rfl, hx_.symm⟩
      replace hP := ite_f h437 hP
      have HR473 := H
      refine dr_start (S := fun w_ => Chg (atL []) w359 w_) (by kernel_rfl) ?_
      intro w470 hc471
      have HS472 : Chg (atL []) w359 w470 := hc471.mono (fun _ _ h_ => h_.elim)
      replace H := H.ext hc471
      refine dn tbok (by kernel_rfl) [0, 1, 2] [] [(90, .bool ((r342.2 : Int) != 0))] (fun w_ => []) 29 E (fun _ _ => by kernel_rfl) (by kernel_rfl) (fun w_ hS_ => trivial) (by kernel_rfl) HS472 ?_
      clear E; intro a E
      replace E := E.same (t := 90) (u := .bool false) rfl (congrArg Value.bool (bne_eq_false_iff_eq.2 h425))
      refine dn tbok (by kernel_rfl) [3, 4, 5, 6] [] [(94, .bool (!r342.1))] (fun w_ => []) 25 E (fun _ _ => by kernel_rfl) (by kernel_rfl) (fun w_ hS_ => trivial) (by kernel_rfl) HS472 ?_
      clear E; intro a E
      replace E := E.same (t := 94) (u := .bool false) rfl (congrArg Value.bool (not_t' (h426)))
      refine dn tbok (by kernel_rfl) [7, 8, 9, 10, 11, 12, 13, 14, 15] [.slice A427 (List.length (List.getD r124.1 (Int.toNat i223) [])) c428] [(103, .bool (decide (most < (((List.length (List.getD r124.1 (Int.toNat i223) [])) : Nat) : Int))))] (fun w_ => [0 ≤ i223 ∧ i223 < (((List.length r124.1) : Nat) : Int), World.cell? w_ ⟨b335, 0 + (Int.toNat i223) * 1, none⟩ = some (.slice A427 (List.length (List.getD r124.1 (Int.toNat i223) [])) c428)]) 16 E (fun _ _ => by kernel_rfl) (by kernel_rfl) (fun w_ hS_ => ⟨g334, hS_.cell (hl429) (HR473.blk [] 5 rds_row (idx_pos g334) rfl)⟩) (by kernel_rfl) HS472 ?_
      clear E; intro a E
      replace E := E.same (t := 103) (u := .bool false) rfl (congrArg Value.bool (decide_eq_false h432))
      refine dn tbok (by kernel_rfl) [16, 17, 18] [] [(106, .bool (decide (0 < i223)))] (fun w_ => []) 13 E (fun _ _ => by kernel_rfl) (by kernel_rfl) (fun w_ hS_ => trivial) (by kernel_rfl) HS472 ?_
      clear E; intro a E
      replace E := E.same (t := 106) (u := .bool false) rfl (congrArg Value.bool (decide_eq_false h437))
      refine dn tbok (by kernel_rfl) [19, 20, 21, 22, 23, 24, 25, 26, 27, 28, 29, 30, 31] [] [(119, .bool false)] (fun w_ => []) 0 E (fun _ _ => by kernel_rfl) (by kernel_rfl) (fun w_ hS_ => trivial) (by kernel_rfl) HS472 ?_
      clear E; intro a E
      refine dr_done (by kernel_rfl) ?_
      clear HS472 HR473
      have hx_ := Option.some.inj hP
      exact .inl ⟨rfl, false, E.pick _ ⟨rfl, rfl, rfl, rfl, rfl, rfl, rfl, rfl, trivial⟩, H.sel [0, 1, 2, 3, 4, 5, 6] rfl, hx_.symm⟩
     replace hP := ite_f h426 hP
     have HR477 := H
     refine dr_start (S := fun w_ => Chg (atL []) w359 w_) (by kernel_rfl) ?_
     intro w474 hc475
     have HS476 : Chg (atL []) w359 w474 := hc475.mono (fun _ _ h_ => h_.elim)
     replace H := H.ext hc475
     refine dn tbok (by kernel_rfl) [0, 1, 2] [] [(90, .bool ((r342.2 : Int) != 0))] (fun w_ => []) 29 E (fun _ _ => by kernel_rfl) (by kernel_rfl) (fun w_ hS_ => trivial) (by kernel_rfl) HS476 ?_
     clear E; intro a E
     replace E := E.same (t := 90) (u := .bool false) rfl (congrArg Value.bool (bne_eq_false_iff_eq.2 h425))
     refine dn tbok (by kernel_rfl) [3, 4, 5, 6] [] [(94, .bool (!r342.1))] (fun w_ => []) 25 E (fun _ _ => by kernel_rfl) (by kernel_rfl) (fun w_ hS_ => trivial) (by kernel_rfl) HS476 ?_
     clear E; intro a E
     replace E := E.same (t := 94) (u := .bool true) rfl (congrArg Value.bool (not_f' ((eq_false_of_ne_true h426))))
     refine dn tbok (by kernel_rfl) [7, 8, 9, 10, 11, 12, 13, 14, 15, 16, 17, 18, 19, 20, 21, 22, 23, 24, 25, 26, 27, 28, 29, 30, 31] [] [(119, .bool true)] (fun w_ => []) 0 E (fun _ _ => by kernel_rfl) (by kernel_rfl) (fun w_ hS_ => trivial) (by kernel_rfl) HS476 ?_
     clear E; intro a E
     refine dr_done (by kernel_rfl) ?_
     clear HS476 HR477
     have hx_ := Option.some.inj hP
     exact .inl ⟨rfl, true, E.pick _ ⟨rfl, rfl, rfl, rfl, rfl, rfl, rfl, rfl, trivial⟩, H.sel [0, 1, 2, 3, 4, 5, 6] rfl, hx_.symm⟩
    replace hP := ite_f h425 hP
    have HR481 := H
    refine dr_start (S := fun w_ => Chg (atL []) w359 w_) (by kernel_rfl) ?_
    intro w478 hc479
    have HS480 : Chg (atL []) w359 w478 := hc479.mono (fun _ _ h_ => h_.elim)
    replace H := H.ext hc479
    refine dn tbok (by kernel_rfl) [0, 1, 2] [] [(90, .bool ((r342.2 : Int) != 0))] (fun w_ => []) 29 E (fun _ _ => by kernel_rfl) (by kernel_rfl) (fun w_ hS_ => trivial) (by kernel_rfl) HS480 ?_
    clear E; intro a E
    replace E := E.same (t := 90) (u := .bool true) rfl (congrArg Value.bool (bne_iff_ne.2 h425))
    refine dn tbok (by kernel_rfl) [3, 4, 5, 6, 7, 8, 9, 10, 11, 12, 13, 14, 15, 16, 17, 18, 19, 20, 21, 22, 23, 24, 25, 26, 27, 28, 29, 30, 31] [] [(119, .bool true)] (fun w_ => []) 0 E (fun _ _ => by kernel_rfl) (by kernel_rfl) (fun w_ hS_ => trivial) (by kernel_rfl) HS480 ?_
    clear E; intro a E
    refine dr_done (by kernel_rfl) ?_
    clear HS480 HR481
    have hx_ := Option.some.inj hP
    exact .inl ⟨rfl, true, E.pick _ ⟨rfl, rfl, rfl, rfl, rfl, rfl, rfl, rfl, trivial⟩, H.sel [0, 1, 2, 3, 4, 5, 6] rfl, hx_.symm⟩
   clear E H h421; rintro a w424 ⟨x423, E, H, hx_⟩
   subst hx_; have hP := hK422; clear hK422
   refine th_n ?_
   refine E.cases (t := 119) rfl (fun hb_ E_ => ?_) (fun hb_ E_ => ?_)
   ·
    replace E := E_; clear E_
    have h482 : x420 = true := hb_
    clear hb_; replace hP := ite_t h482 hP
    refine c_true E rfl ?_
    refine wp_seq ?_
    refine wp_region_lit ?_
    refine vn tbok 1 [] [(6, .bool false)] [] E (by kernel_rfl) (by kernel_rfl) trivial ?_
    clear E; intro a E
    refine wpList_nil ?_
    refine th_n ?_
    refine wp_ret ?_
    refine th_ret ?_
    refine bl_ret ?_
    refine th_ret ?_
    refine th_ret ?_
    refine .inr ⟨rfl, ?_⟩
    refine bl_ret ?_
    refine th_ret ?_
    have hx_ := Option.some.inj hP; subst hx_
    have hP : some (false) = some r := hK329
    obtain rfl := Option.some.inj hP
    refine ret1 E rfl rfl ?_
    exact ⟨_, rfl, rfl, H.sel [] rfl⟩
   replace E := E_; clear E_
   have h483 : ¬ (x420 = true) := (ne_true_of_eq_false hb_)
   clear hb_; replace hP := ite_f h483 hP
   refine c_false E rfl ?_
   refine wp_skip ?_
   refine th_n ?_
   refine wp_region_lit ?_
   obtain ⟨A484, c485, hl486, hk487, H⟩ := H.subSl 5 true (el_row rfl) g334
   try dsimp only [addE] at H
   obtain ⟨g489, hP⟩ := ask_inv hP
   refine vn tbok 10 [.slice A484 (List.length (List.getD r124.1 (Int.toNat i223) [])) c485, .int .u64 (List.getD of222 (Int.toNat (((List.length (List.getD r124.1 (Int.toNat i223) [])) : Nat) : Int)) 0), .int .u64 (IntKind.u64.wrap ((List.getD of222 (Int.toNat (((List.length (List.getD r124.1 (Int.toNat i223) [])) : Nat) : Int)) 0) + 1))] [(128, .int .u64 (IntKind.u64.wrap ((List.getD of222 (Int.toNat (((List.length (List.getD r124.1 (Int.toNat i223) [])) : Nat) : Int)) 0) + 1))), (129, .pointer (some ⟨g150, 0 + (Int.toNat (((List.length (List.getD r124.1 (Int.toNat i223) [])) : Nat) : Int)) * 1, none⟩))] [0 ≤ i223 ∧ i223 < (((List.length r124.1) : Nat) : Int), World.cell? w424 ⟨b335, 0 + (Int.toNat i223) * 1, none⟩ = some (.slice A484 (List.length (List.getD r124.1 (Int.toNat i223) [])) c485), 0 ≤ (((List.length (List.getD r124.1 (Int.toNat i223) [])) : Nat) : Int) ∧ (((List.length (List.getD r124.1 (Int.toNat i223) [])) : Nat) : Int) < (((List.length of222) : Nat) : Int), World.cell? w424 ⟨g150, 0 + (Int.toNat (((List.length (List.getD r124.1 (Int.toNat i223) [])) : Nat) : Int)) * 1, none⟩ = some (.int .u64 (List.getD of222 (Int.toNat (((List.length (List.getD r124.1 (Int.toNat i223) [])) : Nat) : Int)) 0)), IntKind.u64.wrap ((List.getD of222 (Int.toNat (((List.length (List.getD r124.1 (Int.toNat i223) [])) : Nat) : Int)) 0) + 1) = IntKind.u64.wrap ((List.getD of222 (Int.toNat (((List.length (List.getD r124.1 (Int.toNat i223) [])) : Nat) : Int)) 0) + 1), 0 ≤ (((List.length (List.getD r124.1 (Int.toNat i223) [])) : Nat) : Int) ∧ (((List.length (List.getD r124.1 (Int.toNat i223) [])) : Nat) : Int) < (((List.length of222) : Nat) : Int)] E (by kernel_rfl) (by kernel_rfl) ⟨g334, hl486, g489, Rds.at1 (H.rd 6 rds_rowx) 0 g489, rfl, g489⟩ ?_
   clear E; intro a E
   refine h_setx (g := g150) (i := (((List.length (List.getD r124.1 (Int.toNat i223) [])) : Nat) : Int)) (IntKind.u64.wrap ((List.getD of222 (Int.toNat (((List.length (List.getD r124.1 (Int.toNat i223) [])) : Nat) : Int)) 0) + 1)) H 6 rfl E rfl rfl rfl rfl tbok rfl (fun _ HF_ => rfl) rfl g489 rfl ?_
   clear E; intro w490 a hc491 H_ E
   replace H := H_; clear H_; try dsimp only [setn, addE, goneL] at H
   have hn492 : (List.length of222) = (List.length (List.set of222 (Int.toNat (((List.length (List.getD r124.1 (Int.toNat i223) [])) : Nat) : Int)) (IntKind.u64.wrap ((List.getD of222 (Int.toNat (((List.length (List.getD r124.1 (Int.toNat i223) [])) : Nat) : Int)) 0) + 1)))) := by simp only [List.length_set]
   replace E := E.same (t := 10) (u := .slice (some ⟨g150, 0, none⟩) (List.length (List.set of222 (Int.toNat (((List.length (List.getD r124.1 (Int.toNat i223) [])) : Nat) : Int)) (IntKind.u64.wrap ((List.getD of222 (Int.toNat (((List.length (List.getD r124.1 (Int.toNat i223) [])) : Nat) : Int)) 0) + 1)))) (Int.toNat (most + 1))) rfl (congrArg (fun n_ => Value.slice (some ⟨g150, 0, none⟩) n_ (Int.toNat (most + 1))) hn492)
   refine wpList_nil ?_
   refine bl_n ?_
   refine th_n ?_
   refine wp_region_lit ?_
   obtain ⟨g493, hP⟩ := ask_inv hP
   refine vn tbok 3 [.int .i64 (i223 + 1)] [(11, .int .i64 (i223 + 1))] [IntKind.i64.wrap (i223 + 1) = i223 + 1] E (by kernel_rfl) (by kernel_rfl) (wrap_in g493) ?_
   clear E; intro a E
   refine wpList_nil ?_
   exact th_n ⟨m326, Nat.lt_succ_self _, List.set of222 (Int.toNat (((List.length (List.getD r124.1 (Int.toNat i223) [])) : Nat) : Int)) (IntKind.u64.wrap ((List.getD of222 (Int.toNat (((List.length (List.getD r124.1 (Int.toNat i223) [])) : Nat) : Int)) 0) + 1)), i223 + 1, E.pick _ ⟨rfl, rfl, rfl, rfl, rfl, rfl, rfl, trivial⟩, H.sel [0, 1, 2, 3, 4, 5, 6] rfl, hP⟩
  replace E := E_; clear E_
  have h494 : ¬ (i223 < (((List.length r124.1) : Nat) : Int)) := of_decide_eq_false hb_
  clear hb_; replace hP := ite_f h494 hP
  refine c_false E rfl ?_
  refine wp_exit ?_
  refine th_exit ?_
  have hx_ := Option.some.inj hP
  refine th_exit (.inl ⟨0, rfl, ?_⟩)
  exact ⟨rfl, of222, E.pick _ ⟨rfl, rfl, rfl, rfl, rfl, trivial⟩, H.sel [0, 1, 2, 3, 4, 6] rfl, hx_.symm⟩
 clear E H hL328; intro i_ a w330 hM_
 obtain ⟨rfl, x332, E, H, hx_⟩ := hM_
 subst hx_; have hP := elim_l hK329
 clear hK329
 refine bl_hit ?_
 refine th_n ?_
 refine wp_seq ?_
 refine wp_seq ?_
 refine wp_region_lit ?_
 refine vn tbok 1 [] [(14, .int .i64 0)] [] E (by kernel_rfl) (by kernel_rfl) trivial ?_
 clear E; intro a E
 refine wpList_nil ?_
 refine th_n ?_
 refine wp_block ?_
 obtain ⟨x533, hL534, hK535⟩ := bind_inv hP
 clear hP
 refine loop_cut (fun i_ a w_ => (i_ = 2 ∧ ∃ (x538 : Unit), Fr a 263 [(2, .slice A13 (List.length t) c14), (3, .pointer (some ⟨g17, 0, none⟩)), (7, .bool r22)] ∧ Hp S Fa w0 w_ [.ro false (cInt .u8) A13 t, .ro false cBool A1 aAccept, .ro false (cInt .i64) A5 aGuard, .ro false cNode A9 aNodes, .box g17 26 [.int .i64 aProps, .slice A1 (List.length aAccept) c2, .slice A5 (List.length aGuard) c6, .slice A9 (List.length aNodes) c10]] ∧ x533 = Sum.inl x538)) ?_ ?_
 ·
  refine loopV (fun m537 a w536 => ∃ (k513 : Int), Fr a 263 [(1, .int .i64 most), (2, .slice A13 (List.length t) c14), (3, .pointer (some ⟨g17, 0, none⟩)), (7, .bool r22), (10, .slice (some ⟨g150, 0, none⟩) (List.length x332) (Int.toNat (most + 1))), (14, .int .i64 k513)] ∧ Hp S Fa w0 w536 [.ro false (cInt .u8) A13 t, .ro false cBool A1 aAccept, .ro false (cInt .i64) A5 aGuard, .ro false cNode A9 aNodes, .box g17 26 [.int .i64 aProps, .slice A1 (List.length aAccept) c2, .slice A5 (List.length aGuard) c6, .slice A9 (List.length aNodes) c10], .rowx true (cInt .u64) 43 (some ⟨g150, 0, none⟩) (Int.toNat (most + 1)) x332 (List.replicate (Int.toNat (most + 1) - Int.toNat (most + 1)) (0 : Int))] ∧ law19_LangCounts_l4 N aProps aAccept aGuard aNodes most x332 m537 k513 = some x533) N ?_ ?_
  ·
   exact ⟨0, E.pick _ ⟨rfl, rfl, rfl, rfl, rfl, rfl, trivial⟩, H.sel [0, 1, 2, 3, 4, 5] rfl, hL534⟩
  clear E H hL534; intro m537 a w536 hI_
  obtain ⟨k513, E, H, hP⟩ := hI_
  obtain ⟨m532, rfl⟩ : ∃ q_, m537 = q_ + 1 := by cases m537 with | zero => rw [law19_LangCounts_l4] at hP; cases hP | succ q_ => exact ⟨q_, rfl⟩
  rw [law19_LangCounts_l4] at hP
  refine wp_seq ?_
  refine wp_seq ?_
  refine wp_region_lit ?_
  refine vn tbok 3 [] [(132, .bool (decide (k513 ≤ most)))] [] E (by kernel_rfl) (by kernel_rfl) trivial ?_
  clear E; intro a E
  refine wpList_nil ?_
  refine th_n ?_
  refine E.cases (t := 132) rfl (fun hb_ E_ => ?_) (fun hb_ E_ => ?_)
  ·
   replace E := E_; clear E_
   have h539 : k513 ≤ most := of_decide_eq_true hb_
   clear hb_; replace hP := ite_t h539 hP
   refine c_true E rfl ?_
   refine wp_skip ?_
   refine th_n ?_
   refine wp_seq ?_
   refine wp_block ?_
   refine wp_seq ?_
   refine wp_region_lit ?_
   refine vn tbok 2 [.agg #[.int .i64 aProps, .slice A1 (List.length aAccept) c2, .slice A5 (List.length aGuard) c6, .slice A9 (List.length aNodes) c10]] [(136, .agg #[.int .i64 aProps, .slice A1 (List.length aAccept) c2, .slice A5 (List.length aGuard) c6, .slice A9 (List.length aNodes) c10]), (137, .int .i64 k513)] [cellsAt w536 g17 (0) [.int .i64 aProps, .slice A1 (List.length aAccept) c2, .slice A5 (List.length aGuard) c6, .slice A9 (List.length aNodes) c10]] E (by kernel_rfl) (by kernel_rfl) ((H.box 4 rfl).sub 0 _ rfl) ?_
   clear E; intro a E
   obtain ⟨r540, h541, hP⟩ := bind_inv hP
   obtain ⟨Fa542, Hc543, hb544⟩ := H.call [] [(1, false), (2, false), (3, false)] rfl rfl trivial
   refine e_call E rfl rfl Try.func17 rfl rfl rfl (lang_Count_calls A1 c2 A5 c6 A9 c10 aProps aAccept aGuard aNodes k513 hk3 hk7 hk11 Hc543 h541) ?_
   rintro v545 w546 a ⟨rfl, HR547⟩ E_
   replace E := E_ _ rfl; clear E_
   obtain ⟨H_, hc548⟩ := hb544 _ _ HR547 rfl
   replace H := H_; clear H_; try dsimp only [setn, addE, goneL] at H
   refine vn tbok 5 [] [(15, .int .u64 r540.1), (16, .int .i64 r540.2)] [] E (by kernel_rfl) (by kernel_rfl) trivial ?_
   clear E; intro a E
   refine wpList_nil ?_
   refine th_n ?_
   refine wp_seq ?_
   obtain ⟨x553, h554, hK555⟩ := bind_inv hP
   clear hP
   refine meet_cut (fun a w557 => ∃ (x556 : Bool), Fr a 263 [(1, .int .i64 most), (2, .slice A13 (List.length t) c14), (3, .pointer (some ⟨g17, 0, none⟩)), (7, .bool r22), (10, .slice (some ⟨g150, 0, none⟩) (List.length x332) (Int.toNat (most + 1))), (14, .int .i64 k513), (150, .bool x556)] ∧ Hp S Fa w0 w557 [.ro false (cInt .u8) A13 t, .ro false cBool A1 aAccept, .ro false (cInt .i64) A5 aGuard, .ro false cNode A9 aNodes, .box g17 26 [.int .i64 aProps, .slice A1 (List.length aAccept) c2, .slice A5 (List.length aGuard) c6, .slice A9 (List.length aNodes) c10], .rowx true (cInt .u64) 43 (some ⟨g150, 0, none⟩) (Int.toNat (most + 1)) x332 (List.replicate (Int.toNat (most + 1) - Int.toNat (most + 1)) (0 : Int))] ∧ x553 = x556) ?_ ?_
   ·
    have hP := h554; clear h554; rw [law19_LangCounts_j5] at hP
    refine wp_region_lit ?_
    refine vn tbok 3 [] [(143, .bool ((r540.2 : Int) != 0))] [] E (by kernel_rfl) (by kernel_rfl) trivial ?_
    clear E; intro a E
    refine E.cases (t := 143) rfl (fun hb_ E_ => ?_) (fun hb_ E_ => ?_)
    ·
     replace E := E_; clear E_
     have h558 : ¬ ((r540.2 : Int) = 0) := bne_iff_ne.1 hb_
     clear hb_; replace hP := ite_f h558 hP
     refine vn tbok 7 [] [(150, .bool true)] [] E (by kernel_rfl) (by kernel_rfl) trivial ?_
     clear E; intro a E
     refine wpList_nil ?_
     have hx_ := Option.some.inj hP
     exact .inl ⟨rfl, true, E.pick _ ⟨rfl, rfl, rfl, rfl, rfl, rfl, rfl, trivial⟩, H.sel [0, 1, 2, 3, 4, 5] rfl, hx_.symm⟩
    replace E := E_; clear E_
    have h559 : (r540.2 : Int) = 0 := bne_eq_false_iff_eq.1 hb_
    clear hb_; replace hP := ite_t h559 hP
    obtain ⟨g560, hP⟩ := ask_inv hP
    refine vn tbok 7 [.int .u64 (List.getD x332 (Int.toNat k513) 0)] [(150, .bool ((r540.1 : Int) != (List.getD x332 (Int.toNat k513) 0)))] [0 ≤ k513 ∧ k513 < (((List.length x332) : Nat) : Int), World.cell? w546 ⟨g150, 0 + (Int.toNat k513) * 1, none⟩ = some (.int .u64 (List.getD x332 (Int.toNat k513) 0))] E (by kernel_rfl) (by kernel_rfl) ⟨g560, Rds.at1 (H.rd 5 rds_rowx) 0 g560⟩ ?_
    clear E; intro a E
    refine wpList_nil ?_
    have hx_ := Option.some.inj hP
    exact .inl ⟨rfl, (r540.1 : Int) != (List.getD x332 (Int.toNat k513) 0), E.pick _ ⟨rfl, rfl, rfl, rfl, rfl, rfl, rfl, trivial⟩, H.sel [0, 1, 2, 3, 4, 5] rfl, hx_.symm⟩
   clear E H h554; rintro a w557 ⟨x556, E, H, hx_⟩
   subst hx_; have hP := hK555; clear hK555
   refine th_n ?_
   refine E.cases (t := 150) rfl (fun hb_ E_ => ?_) (fun hb_ E_ => ?_)
   ·
    replace E := E_; clear E_
    have h561 : x553 = true := hb_
    clear hb_; replace hP := ite_t h561 hP
    refine c_true E rfl ?_
    refine wp_seq ?_
    refine wp_region_lit ?_
    refine vn tbok 1 [] [(6, .bool false)] [] E (by kernel_rfl) (by kernel_rfl) trivial ?_
    clear E; intro a E
    refine wpList_nil ?_
    refine th_n ?_
    refine wp_ret ?_
    refine bl_ret ?_
    refine th_ret ?_
    refine th_ret ?_
    refine .inr ⟨rfl, ?_⟩
    refine bl_ret ?_
    refine th_ret ?_
    have hx_ := Option.some.inj hP; subst hx_
    have hP : some (false) = some r := hK535
    obtain rfl := Option.some.inj hP
    refine ret1 E rfl rfl ?_
    exact ⟨_, rfl, rfl, H.sel [] rfl⟩
   replace E := E_; clear E_
   have h562 : ¬ (x553 = true) := (ne_true_of_eq_false hb_)
   clear hb_; replace hP := ite_f h562 hP
   refine c_false E rfl ?_
   refine wp_skip ?_
   refine bl_n ?_
   refine th_n ?_
   refine wp_region_lit ?_
   obtain ⟨g563, hP⟩ := ask_inv hP
   refine vn tbok 3 [.int .i64 (k513 + 1)] [(14, .int .i64 (k513 + 1))] [IntKind.i64.wrap (k513 + 1) = k513 + 1] E (by kernel_rfl) (by kernel_rfl) (wrap_in g563) ?_
   clear E; intro a E
   refine wpList_nil ?_
   exact th_n ⟨m532, Nat.lt_succ_self _, k513 + 1, E.pick _ ⟨rfl, rfl, rfl, rfl, rfl, rfl, trivial⟩, H.sel [0, 1, 2, 3, 4, 5] rfl, hP⟩
  replace E := E_; clear E_
  have h564 : ¬ (k513 ≤ most) := of_decide_eq_false hb_
  clear hb_; replace hP := ite_f h564 hP
  refine c_false E rfl ?_
  refine wp_exit ?_
  refine th_exit ?_
  have hx_ := Option.some.inj hP
  refine th_exit (.inl ⟨2, rfl, ?_⟩)
  exact ⟨rfl, (), E.pick _ ⟨rfl, rfl, rfl, trivial⟩, H.sel [0, 1, 2, 3, 4] rfl, hx_.symm⟩
 clear E H hL534; intro i_ a w536 hM_
 obtain ⟨rfl, x538, E, H, hx_⟩ := hM_
 subst hx_; have hP := elim_l hK535
 clear hK535
 refine bl_hit ?_
 refine th_n ?_
 refine wp_seq ?_
 refine wp_region_lit ?_
 refine vn tbok 1 [.agg #[.int .i64 aProps, .slice A1 (List.length aAccept) c2, .slice A5 (List.length aGuard) c6, .slice A9 (List.length aNodes) c10]] [(152, .agg #[.int .i64 aProps, .slice A1 (List.length aAccept) c2, .slice A5 (List.length aGuard) c6, .slice A9 (List.length aNodes) c10])] [cellsAt w536 g17 (0) [.int .i64 aProps, .slice A1 (List.length aAccept) c2, .slice A5 (List.length aGuard) c6, .slice A9 (List.length aNodes) c10]] E (by kernel_rfl) (by kernel_rfl) ((H.box 4 rfl).sub 0 _ rfl) ?_
 clear E; intro a E
 obtain ⟨r566, h567, hP⟩ := bind_inv hP
 obtain ⟨Fa568, Hc569, hb570⟩ := H.call [] [(1, false), (2, false), (3, false)] rfl rfl trivial
 refine e_call E rfl rfl Try.func18 rfl rfl rfl (lang_Live_calls A1 c2 A5 c6 A9 c10 aProps aAccept aGuard aNodes hk3 hk7 hk11 Hc569 h567) ?_
 rintro v571 w572 a ⟨A575, c576, rfl, HR573⟩ E_
 replace E := E_ _ rfl; clear E_
 obtain ⟨H_, hc574⟩ := hb570 _ _ HR573 rfl
 replace H := H_; clear H_; try dsimp only [setn, addE, goneL] at H
 refine vn tbok 5 [] [(17, .slice A575 (List.length r566.1) c576), (18, .int .i64 r566.2)] [] E (by kernel_rfl) (by kernel_rfl) trivial ?_
 clear E; intro a E
 refine wpList_nil ?_
 refine th_n ?_
 refine wp_seq ?_
 refine wp_region_lit ?_
 refine vn tbok 1 [.agg #[.int .i64 aProps, .slice A1 (List.length aAccept) c2, .slice A5 (List.length aGuard) c6, .slice A9 (List.length aNodes) c10]] [(157, .agg #[.int .i64 aProps, .slice A1 (List.length aAccept) c2, .slice A5 (List.length aGuard) c6, .slice A9 (List.length aNodes) c10])] [cellsAt w572 g17 (0) [.int .i64 aProps, .slice A1 (List.length aAccept) c2, .slice A5 (List.length aGuard) c6, .slice A9 (List.length aNodes) c10]] E (by kernel_rfl) (by kernel_rfl) ((H.box 4 rfl).sub 0 _ rfl) ?_
 clear E; intro a E
 obtain ⟨r578, h579, hP⟩ := bind_inv hP
 obtain ⟨Fa580, Hc581, hb582⟩ := H.call [] [(1, false), (2, false), (3, false)] rfl rfl trivial
 refine e_call E rfl rfl Try.func19 rfl rfl rfl (lang_Reach_calls A1 c2 A5 c6 A9 c10 aProps aAccept aGuard aNodes hk3 hk7 hk11 Hc581 h579) ?_
 rintro v583 w584 a ⟨A587, c588, rfl, HR585⟩ E_
 replace E := E_ _ rfl; clear E_
 obtain ⟨H_, hc586⟩ := hb582 _ _ HR585 rfl
 replace H := H_; clear H_; try dsimp only [setn, addE, goneL] at H
 refine vn tbok 5 [] [(19, .slice A587 (List.length r578.1) c588), (20, .int .i64 r578.2)] [] E (by kernel_rfl) (by kernel_rfl) trivial ?_
 clear E; intro a E
 refine wpList_nil ?_
 refine th_n ?_
 refine wp_seq ?_
 refine wp_seq ?_
 obtain ⟨x597, h598, hK599⟩ := bind_inv hP
 clear hP
 refine meet_cut (fun a w601 => ∃ (x600 : Bool), Fr a 263 [(2, .slice A13 (List.length t) c14), (3, .pointer (some ⟨g17, 0, none⟩)), (7, .bool r22), (17, .slice A575 (List.length r566.1) c576), (19, .slice A587 (List.length r578.1) c588), (182, .bool x600)] ∧ Hp S Fa w0 w601 [.ro false (cInt .u8) A13 t, .ro false cBool A1 aAccept, .ro false (cInt .i64) A5 aGuard, .ro false cNode A9 aNodes, .box g17 26 [.int .i64 aProps, .slice A1 (List.length aAccept) c2, .slice A5 (List.length aGuard) c6, .slice A9 (List.length aNodes) c10], .row true cBool 4 A575 c576 r566.1, .row true (cInt .i64) 3 A587 c588 r578.1] ∧ x597 = x600) ?_ ?_
 ·
  have hP := h598; clear h598; rw [law19_LangCounts_j6] at hP
  refine wp_region_lit ?_
  refine vn tbok 3 [] [(163, .bool ((r566.2 : Int) != 0))] [] E (by kernel_rfl) (by kernel_rfl) trivial ?_
  clear E; intro a E
  refine E.cases (t := 163) rfl (fun hb_ E_ => ?_) (fun hb_ E_ => ?_)
  ·
   replace E := E_; clear E_
   have h602 : ¬ ((r566.2 : Int) = 0) := bne_iff_ne.1 hb_
   clear hb_; replace hP := ite_f h602 hP
   refine vn tbok 19 [] [(182, .bool true)] [] E (by kernel_rfl) (by kernel_rfl) trivial ?_
   clear E; intro a E
   refine wpList_nil ?_
   have hx_ := Option.some.inj hP
   exact .inl ⟨rfl, true, E.pick _ ⟨rfl, rfl, rfl, rfl, rfl, rfl, trivial⟩, H.sel [0, 1, 2, 3, 4, 5, 6] rfl, hx_.symm⟩
  replace E := E_; clear E_
  have h603 : (r566.2 : Int) = 0 := bne_eq_false_iff_eq.1 hb_
  clear hb_; replace hP := ite_t h603 hP
  refine vn tbok 4 [] [(167, .bool ((r578.2 : Int) != 0))] [] E (by kernel_rfl) (by kernel_rfl) trivial ?_
  clear E; intro a E
  refine E.cases (t := 167) rfl (fun hb_ E_ => ?_) (fun hb_ E_ => ?_)
  ·
   replace E := E_; clear E_
   have h604 : ¬ ((r578.2 : Int) = 0) := bne_iff_ne.1 hb_
   clear hb_; replace hP := ite_f h604 hP
   refine vn tbok 15 [] [(182, .bool true)] [] E (by kernel_rfl) (by kernel_rfl) trivial ?_
   clear E; intro a E
   refine wpList_nil ?_
   have hx_ := Option.some.inj hP
   exact .inl ⟨rfl, true, E.pick _ ⟨rfl, rfl, rfl, rfl, rfl, rfl, trivial⟩, H.sel [0, 1, 2, 3, 4, 5, 6] rfl, hx_.symm⟩
  replace E := E_; clear E_
  have h605 : (r578.2 : Int) = 0 := bne_eq_false_iff_eq.1 hb_
  clear hb_; replace hP := ite_t h605 hP
  refine vn tbok 8 [.slice A1 (List.length aAccept) c2] [(175, .bool (((((List.length r566.1) : Nat) : Int) : Int) != (((List.length aAccept) : Nat) : Int)))] [World.cell? w584 ⟨g17, 1, none⟩ = some (.slice A1 (List.length aAccept) c2)] E (by kernel_rfl) (by kernel_rfl) ((H.box 4 rfl).cell (j := 1) rfl) ?_
  clear E; intro a E
  refine E.cases (t := 175) rfl (fun hb_ E_ => ?_) (fun hb_ E_ => ?_)
  ·
   replace E := E_; clear E_
   have h606 : ¬ (((((List.length r566.1) : Nat) : Int) : Int) = (((List.length aAccept) : Nat) : Int)) := bne_iff_ne.1 hb_
   clear hb_; replace hP := ite_f h606 hP
   refine vn tbok 7 [] [(182, .bool true)] [] E (by kernel_rfl) (by kernel_rfl) trivial ?_
   clear E; intro a E
   refine wpList_nil ?_
   have hx_ := Option.some.inj hP
   exact .inl ⟨rfl, true, E.pick _ ⟨rfl, rfl, rfl, rfl, rfl, rfl, trivial⟩, H.sel [0, 1, 2, 3, 4, 5, 6] rfl, hx_.symm⟩
  replace E := E_; clear E_
  have h607 : ((((List.length r566.1) : Nat) : Int) : Int) = (((List.length aAccept) : Nat) : Int) := bne_eq_false_iff_eq.1 hb_
  clear hb_; replace hP := ite_t h607 hP
  refine vn tbok 7 [.slice A1 (List.length aAccept) c2] [(182, .bool (((((List.length r578.1) : Nat) : Int) : Int) != (((List.length aAccept) : Nat) : Int)))] [World.cell? w584 ⟨g17, 1, none⟩ = some (.slice A1 (List.length aAccept) c2)] E (by kernel_rfl) (by kernel_rfl) ((H.box 4 rfl).cell (j := 1) rfl) ?_
  clear E; intro a E
  refine wpList_nil ?_
  have hx_ := Option.some.inj hP
  exact .inl ⟨rfl, ((((List.length r578.1) : Nat) : Int) : Int) != (((List.length aAccept) : Nat) : Int), E.pick _ ⟨rfl, rfl, rfl, rfl, rfl, rfl, trivial⟩, H.sel [0, 1, 2, 3, 4, 5, 6] rfl, hx_.symm⟩
 clear E H h598; rintro a w601 ⟨x600, E, H, hx_⟩
 subst hx_; have hP := hK599; clear hK599
 refine th_n ?_
 refine E.cases (t := 182) rfl (fun hb_ E_ => ?_) (fun hb_ E_ => ?_)
 ·
  replace E := E_; clear E_
  have h608 : x597 = true := hb_
  clear hb_; replace hP := ite_t h608 hP
  refine c_true E rfl ?_
  refine wp_seq ?_
  refine wp_region_lit ?_
  refine vn tbok 1 [] [(6, .bool false)] [] E (by kernel_rfl) (by kernel_rfl) trivial ?_
  clear E; intro a E
  refine wpList_nil ?_
  refine th_n ?_
  refine wp_ret ?_
  refine th_ret ?_
  obtain rfl := Option.some.inj hP
  refine ret1 E rfl rfl ?_
  exact ⟨_, rfl, rfl, H.sel [] rfl⟩
 replace E := E_; clear E_
 have h609 : ¬ (x597 = true) := (ne_true_of_eq_false hb_)
 clear hb_; replace hP := ite_f h609 hP
 refine c_false E rfl ?_
 refine wp_skip ?_
 refine th_n ?_
 refine wp_seq ?_
 refine wp_region_lit ?_
 refine vn tbok 1 [] [(21, .int .i64 0)] [] E (by kernel_rfl) (by kernel_rfl) trivial ?_
 clear E; intro a E
 refine wpList_nil ?_
 refine th_n ?_
 refine wp_seq ?_
 refine wp_seq ?_
 refine wp_region_lit ?_
 refine vn tbok 1 [] [(22, .int .i64 0)] [] E (by kernel_rfl) (by kernel_rfl) trivial ?_
 clear E; intro a E
 refine wpList_nil ?_
 refine th_n ?_
 refine wp_block ?_
 obtain ⟨x740, hL741, hK742⟩ := bind_inv hP
 clear hP
 refine loop_cut (fun i_ a w_ => (i_ = 4 ∧ ∃ (x745 : Unit), Fr a 263 [(7, .bool r22)] ∧ Hp S Fa w0 w_ [] ∧ x740 = Sum.inl x745)) ?_ ?_
 ·
  refine loopV (fun m744 a w743 => ∃ (q673 : Int) (i674 : Int), Fr a 263 [(2, .slice A13 (List.length t) c14), (3, .pointer (some ⟨g17, 0, none⟩)), (7, .bool r22), (17, .slice A575 (List.length r566.1) c576), (19, .slice A587 (List.length r578.1) c588), (21, .int .i64 q673), (22, .int .i64 i674)] ∧ Hp S Fa w0 w743 [.ro false (cInt .u8) A13 t, .ro false cBool A1 aAccept, .ro false (cInt .i64) A5 aGuard, .ro false cNode A9 aNodes, .box g17 26 [.int .i64 aProps, .slice A1 (List.length aAccept) c2, .slice A5 (List.length aGuard) c6, .slice A9 (List.length aNodes) c10], .row true cBool 4 A575 c576 r566.1, .row true (cInt .i64) 3 A587 c588 r578.1] ∧ law19_LangCounts_l7 N aAccept aGuard aNodes t r22 r566 r578 m744 q673 i674 = some x740) N ?_ ?_
  ·
   exact ⟨0, 0, E.pick _ ⟨rfl, rfl, rfl, rfl, rfl, rfl, rfl, trivial⟩, H.sel [0, 1, 2, 3, 4, 5, 6] rfl, hL741⟩
  clear E H hL741; intro m744 a w743 hI_
  obtain ⟨q673, i674, E, H, hP⟩ := hI_
  obtain ⟨m739, rfl⟩ : ∃ q_, m744 = q_ + 1 := by cases m744 with | zero => rw [law19_LangCounts_l7] at hP; cases hP | succ q_ => exact ⟨q_, rfl⟩
  rw [law19_LangCounts_l7] at hP
  refine wp_seq ?_
  refine wp_seq ?_
  refine wp_region_lit ?_
  refine vn tbok 4 [] [(186, .bool (decide (i674 ≤ (((List.length t) : Nat) : Int))))] [] E (by kernel_rfl) (by kernel_rfl) trivial ?_
  clear E; intro a E
  refine wpList_nil ?_
  refine th_n ?_
  refine E.cases (t := 186) rfl (fun hb_ E_ => ?_) (fun hb_ E_ => ?_)
  ·
   replace E := E_; clear E_
   have h746 : i674 ≤ (((List.length t) : Nat) : Int) := of_decide_eq_true hb_
   clear hb_; replace hP := ite_t h746 hP
   refine c_true E rfl ?_
   refine wp_skip ?_
   refine th_n ?_
   refine wp_seq ?_
   refine wp_block ?_
   refine wp_seq ?_
   refine wp_seq ?_
   obtain ⟨x763, h764, hK765⟩ := bind_inv hP
   clear hP
   refine meet_cut (fun a w767 => ∃ (x766 : Bool), Fr a 263 [(2, .slice A13 (List.length t) c14), (3, .pointer (some ⟨g17, 0, none⟩)), (7, .bool r22), (17, .slice A575 (List.length r566.1) c576), (19, .slice A587 (List.length r578.1) c588), (21, .int .i64 q673), (22, .int .i64 i674), (215, .bool x766)] ∧ Hp S Fa w0 w767 [.ro false (cInt .u8) A13 t, .ro false cBool A1 aAccept, .ro false (cInt .i64) A5 aGuard, .ro false cNode A9 aNodes, .box g17 26 [.int .i64 aProps, .slice A1 (List.length aAccept) c2, .slice A5 (List.length aGuard) c6, .slice A9 (List.length aNodes) c10], .row true cBool 4 A575 c576 r566.1, .row true (cInt .i64) 3 A587 c588 r578.1] ∧ x763 = x766) ?_ ?_
   ·
    have hP := h764; clear h764; rw [law19_LangCounts_j8] at hP
    refine wp_region_lit ?_
    obtain ⟨g768, hP⟩ := ask_inv hP
    obtain ⟨b769, e_b769⟩ := H.raddr 6 rfl (idx_pos g768)
    subst e_b769
    refine vn tbok 6 [.int .i64 (List.getD r578.1 (Int.toNat q673) 0)] [(194, .bool (decide ((List.getD r578.1 (Int.toNat q673) 0) < 0)))] [0 ≤ q673 ∧ q673 < (((List.length r578.1) : Nat) : Int), World.cell? w743 ⟨b769, 0 + (Int.toNat q673) * 1, none⟩ = some (.int .i64 (List.getD r578.1 (Int.toNat q673) 0))] E (by kernel_rfl) (by kernel_rfl) ⟨g768, Rds.at1 (H.rd 6 rds_row) 0 g768⟩ ?_
    clear E; intro a E
    refine E.cases (t := 194) rfl (fun hb_ E_ => ?_) (fun hb_ E_ => ?_)
    ·
     replace E := E_; clear E_
     have h771 : (List.getD r578.1 (Int.toNat q673) 0) < 0 := of_decide_eq_true hb_
     clear hb_; replace hP := ite_t h771 hP
     refine vn tbok 21 [] [(215, .bool true)] [] E (by kernel_rfl) (by kernel_rfl) trivial ?_
     clear E; intro a E
     refine wpList_nil ?_
     have hx_ := Option.some.inj hP
     exact .inl ⟨rfl, true, E.pick _ ⟨rfl, rfl, rfl, rfl, rfl, rfl, rfl, rfl, trivial⟩, H.sel [0, 1, 2, 3, 4, 5, 6] rfl, hx_.symm⟩
    replace E := E_; clear E_
    have h772 : ¬ ((List.getD r578.1 (Int.toNat q673) 0) < 0) := of_decide_eq_false hb_
    clear hb_; replace hP := ite_f h772 hP
    refine vn tbok 8 [.int .i64 (List.getD r578.1 (Int.toNat q673) 0)] [(202, .bool (decide (i674 < (List.getD r578.1 (Int.toNat q673) 0))))] [0 ≤ q673 ∧ q673 < (((List.length r578.1) : Nat) : Int), World.cell? w743 ⟨b769, 0 + (Int.toNat q673) * 1, none⟩ = some (.int .i64 (List.getD r578.1 (Int.toNat q673) 0))] E (by kernel_rfl) (by kernel_rfl) ⟨g768, Rds.at1 (H.rd 6 rds_row) 0 g768⟩ ?_
    clear E; intro a E
    refine E.cases (t := 202) rfl (fun hb_ E_ => ?_) (fun hb_ E_ => ?_)
    ·
     replace E := E_; clear E_
     have h773 : i674 < (List.getD r578.1 (Int.toNat q673) 0) := of_decide_eq_true hb_
     clear hb_; replace hP := ite_t h773 hP
     refine vn tbok 13 [] [(215, .bool true)] [] E (by kernel_rfl) (by kernel_rfl) trivial ?_
     clear E; intro a E
     refine wpList_nil ?_
     have hx_ := Option.some.inj hP
     exact .inl ⟨rfl, true, E.pick _ ⟨rfl, rfl, rfl, rfl, rfl, rfl, rfl, rfl, trivial⟩, H.sel [0, 1, 2, 3, 4, 5, 6] rfl, hx_.symm⟩
    replace E := E_; clear E_
    have h774 : ¬ (i674 < (List.getD r578.1 (Int.toNat q673) 0)) := of_decide_eq_false hb_
    clear hb_; replace hP := ite_f h774 hP
    obtain ⟨g775, hP⟩ := ask_inv hP
    obtain ⟨b776, o777, e_b776⟩ := (H.rd 1 rds_ro).addr (idx_pos g775)
    subst e_b776
    refine vn tbok 6 [.slice (some ⟨b776, o777, none⟩) (List.length aAccept) c2, .bool (List.getD aAccept (Int.toNat q673) false)] [(208, .bool (List.getD aAccept (Int.toNat q673) false))] [World.cell? w743 ⟨g17, 1, none⟩ = some (.slice (some ⟨b776, o777, none⟩) (List.length aAccept) c2), 0 ≤ q673 ∧ q673 < (((List.length aAccept) : Nat) : Int), World.cell? w743 ⟨b776, o777 + (Int.toNat q673) * 1, none⟩ = some (.bool (List.getD aAccept (Int.toNat q673) false))] E (by kernel_rfl) (by kernel_rfl) ⟨(H.box 4 rfl).cell (j := 1) rfl, g775, Rds.at1 (H.rd 1 rds_ro) false g775⟩ ?_
    clear E; intro a E
    refine E.cases (t := 208) rfl (fun hb_ E_ => ?_) (fun hb_ E_ => ?_)
    ·
     replace E := E_; clear E_
     have h778 : (List.getD aAccept (Int.toNat q673) false) = true := hb_
     clear hb_; replace hP := ite_t h778 hP
     obtain ⟨g779, hP⟩ := ask_inv hP
     obtain ⟨b780, e_b780⟩ := H.raddr 5 rfl (idx_pos g779)
     subst e_b780
     refine vn tbok 7 [.bool (List.getD r566.1 (Int.toNat q673) false)] [(215, .bool (!(List.getD r566.1 (Int.toNat q673) false)))] [0 ≤ q673 ∧ q673 < (((List.length r566.1) : Nat) : Int), World.cell? w743 ⟨b780, 0 + (Int.toNat q673) * 1, none⟩ = some (.bool (List.getD r566.1 (Int.toNat q673) false))] E (by kernel_rfl) (by kernel_rfl) ⟨g779, Rds.at1 (H.rd 5 rds_row) false g779⟩ ?_
     clear E; intro a E
     refine wpList_nil ?_
     have hx_ := Option.some.inj hP
     exact .inl ⟨rfl, !(List.getD r566.1 (Int.toNat q673) false), E.pick _ ⟨rfl, rfl, rfl, rfl, rfl, rfl, rfl, rfl, trivial⟩, H.sel [0, 1, 2, 3, 4, 5, 6] rfl, hx_.symm⟩
    replace E := E_; clear E_
    have h782 : ¬ ((List.getD aAccept (Int.toNat q673) false) = true) := (ne_true_of_eq_false hb_)
    clear hb_; replace hP := ite_f h782 hP
    refine vn tbok 7 [] [(215, .bool false)] [] E (by kernel_rfl) (by kernel_rfl) trivial ?_
    clear E; intro a E
    refine wpList_nil ?_
    have hx_ := Option.some.inj hP
    exact .inl ⟨rfl, false, E.pick _ ⟨rfl, rfl, rfl, rfl, rfl, rfl, rfl, rfl, trivial⟩, H.sel [0, 1, 2, 3, 4, 5, 6] rfl, hx_.symm⟩
   clear E H h764; rintro a w767 ⟨x766, E, H, hx_⟩
   subst hx_; have hP := hK765; clear hK765
   refine th_n ?_
   refine E.cases (t := 215) rfl (fun hb_ E_ => ?_) (fun hb_ E_ => ?_)
   ·
    replace E := E_; clear E_
    have h783 : x763 = true := hb_
    clear hb_; replace hP := ite_t h783 hP
    refine c_true E rfl ?_
    refine wp_seq ?_
    refine wp_region_lit ?_
    refine vn tbok 1 [] [(6, .bool false)] [] E (by kernel_rfl) (by kernel_rfl) trivial ?_
    clear E; intro a E
    refine wpList_nil ?_
    refine th_n ?_
    refine wp_ret ?_
    refine th_ret ?_
    refine bl_ret ?_
    refine th_ret ?_
    refine th_ret ?_
    refine .inr ⟨rfl, ?_⟩
    refine bl_ret ?_
    refine th_ret ?_
    have hx_ := Option.some.inj hP; subst hx_
    have hP : some (false) = some r := hK742
    obtain rfl := Option.some.inj hP
    refine ret1 E rfl rfl ?_
    exact ⟨_, rfl, rfl, H.sel [] rfl⟩
   replace E := E_; clear E_
   have h784 : ¬ (x763 = true) := (ne_true_of_eq_false hb_)
   clear hb_; replace hP := ite_f h784 hP
   refine c_false E rfl ?_
   refine wp_skip ?_
   refine th_n ?_
   refine wp_seq ?_
   refine wp_seq ?_
   refine wp_region_lit ?_
   refine vn tbok 4 [] [(219, .bool ((i674 : Int) == (((List.length t) : Nat) : Int)))] [] E (by kernel_rfl) (by kernel_rfl) trivial ?_
   clear E; intro a E
   refine wpList_nil ?_
   refine th_n ?_
   refine E.cases (t := 219) rfl (fun hb_ E_ => ?_) (fun hb_ E_ => ?_)
   ·
    replace E := E_; clear E_
    have h785 : (i674 : Int) = (((List.length t) : Nat) : Int) := eq_of_beq hb_
    clear hb_; replace hP := ite_t h785 hP
    refine c_true E rfl ?_
    refine wp_seq ?_
    refine wp_region_lit ?_
    refine vn tbok 2 [] [(6, .bool r22)] [] E (by kernel_rfl) (by kernel_rfl) trivial ?_
    clear E; intro a E
    refine wpList_nil ?_
    refine th_n ?_
    refine wp_ret ?_
    refine th_ret ?_
    refine bl_ret ?_
    refine th_ret ?_
    refine th_ret ?_
    refine .inr ⟨rfl, ?_⟩
    refine bl_ret ?_
    refine th_ret ?_
    have hx_ := Option.some.inj hP; subst hx_
    have hP : some (r22) = some r := hK742
    obtain rfl := Option.some.inj hP
    refine ret1 E rfl rfl ?_
    exact ⟨_, rfl, rfl, H.sel [] rfl⟩
   replace E := E_; clear E_
   have h786 : ¬ ((i674 : Int) = (((List.length t) : Nat) : Int)) := ne_of_beq_false hb_
   clear hb_; replace hP := ite_f h786 hP
   refine c_false E rfl ?_
   refine wp_skip ?_
   refine th_n ?_
   refine wp_seq ?_
   obtain ⟨g787, hP⟩ := ask_inv hP
   obtain ⟨b788, o789, e_b788⟩ := (H.rd 2 rds_ro).addr (idx_pos g787)
   subst e_b788
   obtain ⟨g790, hP⟩ := ask_inv hP
   obtain ⟨b791, o792, e_b791⟩ := (H.rd 0 rds_ro).addr (idx_pos g790)
   subst e_b791
   obtain ⟨r793, h794, hP⟩ := bind_inv hP
   have HR805 := H
   refine dr_start (S := fun w_ => Chg (atL []) w767 w_) (by kernel_rfl) ?_
   intro w802 hc803
   have HS804 : Chg (atL []) w767 w802 := hc803.mono (fun _ _ h_ => h_.elim)
   replace H := H.ext hc803
   refine dn tbok (by kernel_rfl) [0, 1, 2, 3, 4, 5, 6, 7, 8, 9, 10] [.slice A9 (List.length aNodes) c10, .slice (some ⟨b788, o789, none⟩) (List.length aGuard) c6, .int .i64 (List.getD aGuard (Int.toNat q673) 0), .int .u8 (List.getD t (Int.toNat i674) 0)] [(223, .slice A9 (List.length aNodes) c10), (228, .int .i64 (List.getD aGuard (Int.toNat q673) 0)), (232, .int .u8 (List.getD t (Int.toNat i674) 0))] (fun w_ => [World.cell? w_ ⟨g17, 3, none⟩ = some (.slice A9 (List.length aNodes) c10), World.cell? w_ ⟨g17, 2, none⟩ = some (.slice (some ⟨b788, o789, none⟩) (List.length aGuard) c6), 0 ≤ q673 ∧ q673 < (((List.length aGuard) : Nat) : Int), World.cell? w_ ⟨b788, o789 + (Int.toNat q673) * 1, none⟩ = some (.int .i64 (List.getD aGuard (Int.toNat q673) 0)), 0 ≤ i674 ∧ i674 < (((List.length t) : Nat) : Int), World.cell? w_ ⟨b791, o792 + (Int.toNat i674) * 1, none⟩ = some (.int .u8 (List.getD t (Int.toNat i674) 0))]) 6 E (fun _ _ => by kernel_rfl) (by kernel_rfl) (fun w_ hS_ => ⟨(HR805.boxk [] hS_ 4 rfl rfl).cell (j := 3) rfl, (HR805.boxk [] hS_ 4 rfl rfl).cell (j := 2) rfl, g787, Rds.at1 (HR805.rdk [] hS_ 2 rds_ro rfl) 0 g787, g790, Rds.at1 (HR805.rdk [] hS_ 0 rds_ro rfl) 0 g790⟩) (by kernel_rfl) HS804 ?_
   clear E; intro a E
   refine wpAnyH_all (rs := [11]) (by kernel_rfl) (by simp) ?_
   refine all1 ?_
   refine wpOp_of_list rfl ?_
   obtain ⟨Fa806, Hc807, hb808⟩ := H.call [] [(3, false)] rfl rfl trivial
   refine e_call E rfl rfl Try.func20 rfl rfl rfl (guard_Go_calls A9 c10 aNodes (List.getD aGuard (Int.toNat q673) 0) (List.getD t (Int.toNat i674) 0) hk11 Hc807 h794) ?_
   rintro v809 w810 a ⟨rfl, HR811⟩ E_
   replace E := E_ _ rfl; clear E_
   obtain ⟨H_, hc812⟩ := hb808 _ _ HR811 rfl
   replace HS804 := HS804.ext (callS_ext hc812)
   replace H := H_; clear H_; try dsimp only [setn, addE, goneL] at H
   refine wpList_nil ?_
   refine th_n ⟨HS804, ?_⟩
   refine dn tbok (by kernel_rfl) [12, 13, 14, 15, 16] [] [(23, .int .i64 r793.1), (24, .bool r793.2)] (fun w_ => []) 0 E (fun _ _ => by kernel_rfl) (by kernel_rfl) (fun w_ hS_ => trivial) (by kernel_rfl) HS804 ?_
   clear E; intro a E
   refine dr_done (by kernel_rfl) ?_
   clear HS804 HR805
   refine th_n ?_
   refine wp_seq ?_
   refine wp_seq ?_
   obtain ⟨x826, h827, hK828⟩ := bind_inv hP
   clear hP
   refine meet_cut (fun a w830 => ∃ (x829 : Bool), Fr a 263 [(2, .slice (some ⟨b791, o792, none⟩) (List.length t) c14), (3, .pointer (some ⟨g17, 0, none⟩)), (7, .bool r22), (17, .slice A575 (List.length r566.1) c576), (19, .slice A587 (List.length r578.1) c588), (22, .int .i64 i674), (23, .int .i64 r793.1), (260, .bool x829)] ∧ Hp S Fa w0 w830 [.ro false (cInt .u8) (some ⟨b791, o792, none⟩) t, .ro false cBool A1 aAccept, .ro false (cInt .i64) (some ⟨b788, o789, none⟩) aGuard, .ro false cNode A9 aNodes, .box g17 26 [.int .i64 aProps, .slice A1 (List.length aAccept) c2, .slice (some ⟨b788, o789, none⟩) (List.length aGuard) c6, .slice A9 (List.length aNodes) c10], .row true cBool 4 A575 c576 r566.1, .row true (cInt .i64) 3 A587 c588 r578.1] ∧ x826 = x829) ?_ ?_
   ·
    have hP := h827; clear h827; rw [law19_LangCounts_j9] at hP
    refine wp_region_lit ?_
    refine vn tbok 3 [] [(238, .bool (!r793.2))] [] E (by kernel_rfl) (by kernel_rfl) trivial ?_
    clear E; intro a E
    refine E.cases (t := 238) rfl (fun hb_ E_ => ?_) (fun hb_ E_ => ?_)
    ·
     replace E := E_; clear E_
     have h831 : ¬ (r793.2 = true) := (ne_true_of_eq_false (not_t hb_))
     clear hb_; replace hP := ite_f h831 hP
     refine vn tbok 22 [] [(260, .bool true)] [] E (by kernel_rfl) (by kernel_rfl) trivial ?_
     clear E; intro a E
     refine wpList_nil ?_
     have hx_ := Option.some.inj hP
     exact .inl ⟨rfl, true, E.pick _ ⟨rfl, rfl, rfl, rfl, rfl, rfl, rfl, rfl, trivial⟩, H.sel [0, 1, 2, 3, 4, 5, 6] rfl, hx_.symm⟩
    replace E := E_; clear E_
    have h832 : r793.2 = true := (not_f hb_)
    clear hb_; replace hP := ite_t h832 hP
    refine vn tbok 4 [] [(242, .bool (decide (r793.1 < 0)))] [] E (by kernel_rfl) (by kernel_rfl) trivial ?_
    clear E; intro a E
    refine E.cases (t := 242) rfl (fun hb_ E_ => ?_) (fun hb_ E_ => ?_)
    ·
     replace E := E_; clear E_
     have h833 : r793.1 < 0 := of_decide_eq_true hb_
     clear hb_; replace hP := ite_t h833 hP
     refine vn tbok 18 [] [(260, .bool true)] [] E (by kernel_rfl) (by kernel_rfl) trivial ?_
     clear E; intro a E
     refine wpList_nil ?_
     have hx_ := Option.some.inj hP
     exact .inl ⟨rfl, true, E.pick _ ⟨rfl, rfl, rfl, rfl, rfl, rfl, rfl, rfl, trivial⟩, H.sel [0, 1, 2, 3, 4, 5, 6] rfl, hx_.symm⟩
    replace E := E_; clear E_
    have h834 : ¬ (r793.1 < 0) := of_decide_eq_false hb_
    clear hb_; replace hP := ite_f h834 hP
    refine vn tbok 6 [] [(248, .bool (decide ((((List.length r566.1) : Nat) : Int) ≤ r793.1)))] [] E (by kernel_rfl) (by kernel_rfl) trivial ?_
    clear E; intro a E
    refine E.cases (t := 248) rfl (fun hb_ E_ => ?_) (fun hb_ E_ => ?_)
    ·
     replace E := E_; clear E_
     have h835 : (((List.length r566.1) : Nat) : Int) ≤ r793.1 := of_decide_eq_true hb_
     clear hb_; replace hP := ite_t h835 hP
     refine vn tbok 12 [] [(260, .bool true)] [] E (by kernel_rfl) (by kernel_rfl) trivial ?_
     clear E; intro a E
     refine wpList_nil ?_
     have hx_ := Option.some.inj hP
     exact .inl ⟨rfl, true, E.pick _ ⟨rfl, rfl, rfl, rfl, rfl, rfl, rfl, rfl, trivial⟩, H.sel [0, 1, 2, 3, 4, 5, 6] rfl, hx_.symm⟩
    replace E := E_; clear E_
    have h836 : ¬ ((((List.length r566.1) : Nat) : Int) ≤ r793.1) := of_decide_eq_false hb_
    clear hb_; replace hP := ite_f h836 hP
    obtain ⟨g837, hP⟩ := ask_inv hP
    obtain ⟨b838, e_b838⟩ := H.raddr 5 rfl (idx_pos g837)
    subst e_b838
    refine vn tbok 5 [.bool (List.getD r566.1 (Int.toNat r793.1) false)] [(253, .bool (List.getD r566.1 (Int.toNat r793.1) false))] [0 ≤ r793.1 ∧ r793.1 < (((List.length r566.1) : Nat) : Int), World.cell? w810 ⟨b838, 0 + (Int.toNat r793.1) * 1, none⟩ = some (.bool (List.getD r566.1 (Int.toNat r793.1) false))] E (by kernel_rfl) (by kernel_rfl) ⟨g837, Rds.at1 (H.rd 5 rds_row) false g837⟩ ?_
    clear E; intro a E
    refine E.cases (t := 253) rfl (fun hb_ E_ => ?_) (fun hb_ E_ => ?_)
    ·
     replace E := E_; clear E_
     have h840 : (List.getD r566.1 (Int.toNat r793.1) false) = true := hb_
     clear hb_; replace hP := ite_t h840 hP
     obtain ⟨g841, hP⟩ := ask_inv hP
     refine vn tbok 7 [.bool (List.getD r566.1 (Int.toNat q673) false)] [(260, .bool (!(List.getD r566.1 (Int.toNat q673) false)))] [0 ≤ q673 ∧ q673 < (((List.length r566.1) : Nat) : Int), World.cell? w810 ⟨b838, 0 + (Int.toNat q673) * 1, none⟩ = some (.bool (List.getD r566.1 (Int.toNat q673) false))] E (by kernel_rfl) (by kernel_rfl) ⟨g841, Rds.at1 (H.rd 5 rds_row) false g841⟩ ?_
     clear E; intro a E
     refine wpList_nil ?_
     have hx_ := Option.some.inj hP
     exact .inl ⟨rfl, !(List.getD r566.1 (Int.toNat q673) false), E.pick _ ⟨rfl, rfl, rfl, rfl, rfl, rfl, rfl, rfl, trivial⟩, H.sel [0, 1, 2, 3, 4, 5, 6] rfl, hx_.symm⟩
    replace E := E_; clear E_
    have h842 : ¬ ((List.getD r566.1 (Int.toNat r793.1) false) = true) := (ne_true_of_eq_false hb_)
    clear hb_; replace hP := ite_f h842 hP
    refine vn tbok 7 [] [(260, .bool false)] [] E (by kernel_rfl) (by kernel_rfl) trivial ?_
    clear E; intro a E
    refine wpList_nil ?_
    have hx_ := Option.some.inj hP
    exact .inl ⟨rfl, false, E.pick _ ⟨rfl, rfl, rfl, rfl, rfl, rfl, rfl, rfl, trivial⟩, H.sel [0, 1, 2, 3, 4, 5, 6] rfl, hx_.symm⟩
   clear E H h827; rintro a w830 ⟨x829, E, H, hx_⟩
   subst hx_; have hP := hK828; clear hK828
   refine th_n ?_
   refine E.cases (t := 260) rfl (fun hb_ E_ => ?_) (fun hb_ E_ => ?_)
   ·
    replace E := E_; clear E_
    have h843 : x826 = true := hb_
    clear hb_; replace hP := ite_t h843 hP
    refine c_true E rfl ?_
    refine wp_seq ?_
    refine wp_region_lit ?_
    refine vn tbok 1 [] [(6, .bool false)] [] E (by kernel_rfl) (by kernel_rfl) trivial ?_
    clear E; intro a E
    refine wpList_nil ?_
    refine th_n ?_
    refine wp_ret ?_
    refine th_ret ?_
    refine bl_ret ?_
    refine th_ret ?_
    refine th_ret ?_
    refine .inr ⟨rfl, ?_⟩
    refine bl_ret ?_
    refine th_ret ?_
    have hx_ := Option.some.inj hP; subst hx_
    have hP : some (false) = some r := hK742
    obtain rfl := Option.some.inj hP
    refine ret1 E rfl rfl ?_
    exact ⟨_, rfl, rfl, H.sel [] rfl⟩
   replace E := E_; clear E_
   have h844 : ¬ (x826 = true) := (ne_true_of_eq_false hb_)
   clear hb_; replace hP := ite_f h844 hP
   refine c_false E rfl ?_
   refine wp_skip ?_
   refine th_n ?_
   refine wp_region_lit ?_
   refine vn tbok 2 [] [(21, .int .i64 r793.1)] [] E (by kernel_rfl) (by kernel_rfl) trivial ?_
   clear E; intro a E
   refine wpList_nil ?_
   refine bl_n ?_
   refine th_n ?_
   refine wp_region_lit ?_
   obtain ⟨g845, hP⟩ := ask_inv hP
   refine vn tbok 3 [.int .i64 (i674 + 1)] [(22, .int .i64 (i674 + 1))] [IntKind.i64.wrap (i674 + 1) = i674 + 1] E (by kernel_rfl) (by kernel_rfl) (wrap_in g845) ?_
   clear E; intro a E
   refine wpList_nil ?_
   exact th_n ⟨m739, Nat.lt_succ_self _, r793.1, i674 + 1, E.pick _ ⟨rfl, rfl, rfl, rfl, rfl, rfl, rfl, trivial⟩, H.sel [0, 1, 2, 3, 4, 5, 6] rfl, hP⟩
  replace E := E_; clear E_
  have h846 : ¬ (i674 ≤ (((List.length t) : Nat) : Int)) := of_decide_eq_false hb_
  clear hb_; replace hP := ite_f h846 hP
  refine c_false E rfl ?_
  refine wp_exit ?_
  refine th_exit ?_
  have hx_ := Option.some.inj hP
  refine th_exit (.inl ⟨4, rfl, ?_⟩)
  exact ⟨rfl, (), E.pick _ ⟨rfl, trivial⟩, H.sel [] rfl, hx_.symm⟩
 clear E H hL741; intro i_ a w743 hM_
 obtain ⟨rfl, x745, E, H, hx_⟩ := hM_
 subst hx_; have hP := elim_l hK742
 clear hK742
 refine bl_hit ?_
 refine th_n ?_
 refine wp_seq ?_
 refine wp_region_lit ?_
 refine vn tbok 2 [] [(6, .bool r22)] [] E (by kernel_rfl) (by kernel_rfl) trivial ?_
 clear E; intro a E
 refine wpList_nil ?_
 refine th_n ?_
 refine wp_ret ?_
 obtain rfl := Option.some.inj hP
 refine ret1 E rfl rfl ?_
 exact ⟨_, rfl, rfl, H.sel [] rfl⟩

end Go.V
