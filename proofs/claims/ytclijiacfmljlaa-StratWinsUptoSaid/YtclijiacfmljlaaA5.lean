/- Plain functions, and the calls that give them. -/
import Derived.Test.YtclijiacfmljlaaA4
set_option linter.all false
set_option linter.unusedVariables false
set_option linter.unnecessarySimpa false
set_option linter.unusedSimpArgs false
namespace Go.V
open Go Go.Proofs
/-! slices.Index[[]rejoinder/api.Letter,rejoinder/api.Letter] -/
def slices_Index_api_Letter_api_Letter_l0 (N : Nat) (s : List Int) (vv : Int) : Nat → Int → Option (Unit ⊕ Int)
  | 0, _ => none
  | m21 + 1, x12 =>
    if x12 < (((List.length s) : Nat) : Int) then
      ask (idx x12 (List.length s)) <|
      if (vv : Int) = (List.getD s (Int.toNat x12) 0) then
        some (Sum.inr x12)
      else
        ask (in64 (x12 + 1)) <|
        slices_Index_api_Letter_api_Letter_l0 N s vv m21 (x12 + 1)
    else
      some (Sum.inl ())
def slices_Index_api_Letter_api_Letter (N : Nat) (s : List Int) (vv : Int) : Option Int :=
  Option.bind (slices_Index_api_Letter_api_Letter_l0 N s vv N 0) fun x22 =>
  Sum.elim (fun x27 =>
    some (-1))
   (fun x36 =>
    some x36) x22
set_option maxRecDepth 100000 in
set_option maxHeartbeats 4000000 in
theorem slices_Index_api_Letter_api_Letter_calls {N : Nat} {S Fa : Nat → Prop} {w0 : World} {r : Int} (A1 : Option Addr) (c2 : Nat) (s : List Int) (vv : Int) (hk3 : List.length s ≤ c2) (H : Hp S Fa w0 w0 [.ro false (cInt .u8) A1 s]) (hP : slices_Index_api_Letter_api_Letter N s vv = some r) :
    Calls Try.prog 71 #[.slice A1 (List.length s) c2, .int .u8 vv] w0 fun e w' => ∃ v, e = .returned v ∧ v = .int .i64 r ∧ Hp S Fa w0 w' [] := by
 refine enterV (n := 19) Try.func71 rfl rfl rfl ?_
 intro a E
 replace E := E.pick [(0, .slice A1 (List.length s) c2), (1, .int .u8 vv)] ⟨rfl, rfl, trivial⟩
 rw [slices_Index_api_Letter_api_Letter] at hP
 refine wp_seq ?_
 refine wp_region_lit ?_
 refine vn tbok 1 [] [] [] E (by kernel_rfl) (by kernel_rfl) trivial ?_
 clear E; intro a E
 refine wpList_nil ?_
 refine th_n ?_
 refine wp_seq ?_
 refine wp_seq ?_
 refine wp_region_lit ?_
 refine vn tbok 3 [] [(7, .int .i64 (((List.length s) : Nat) : Int)), (8, .int .i64 0)] [] E (by kernel_rfl) (by kernel_rfl) trivial ?_
 clear E; intro a E
 refine wpList_nil ?_
 refine th_n ?_
 refine wp_block ?_
 obtain ⟨x22, hL23, hK24⟩ := bind_inv hP
 clear hP
 refine loop_cut (fun i_ a w_ => (i_ = 0 ∧ ∃ (x27 : Unit), Fr a 19 [] ∧ Hp S Fa w0 w_ [] ∧ x22 = Sum.inl x27)) ?_ ?_
 ·
  refine loopV (fun m26 a w25 => ∃ (x12 : Int), Fr a 19 [(0, .slice A1 (List.length s) c2), (1, .int .u8 vv), (7, .int .i64 (((List.length s) : Nat) : Int)), (8, .int .i64 x12)] ∧ Hp S Fa w0 w25 [.ro false (cInt .u8) A1 s] ∧ slices_Index_api_Letter_api_Letter_l0 N s vv m26 x12 = some x22) N ?_ ?_
  ·
   exact ⟨0, E.pick _ ⟨rfl, rfl, rfl, rfl, trivial⟩, H.sel [0] rfl, hL23⟩
  clear E H hL23; intro m26 a w25 hI_
  obtain ⟨x12, E, H, hP⟩ := hI_
  obtain ⟨m21, rfl⟩ : ∃ q_, m26 = q_ + 1 := by cases m26 with | zero => rw [slices_Index_api_Letter_api_Letter_l0] at hP; cases hP | succ q_ => exact ⟨q_, rfl⟩
  rw [slices_Index_api_Letter_api_Letter_l0] at hP
  refine wp_seq ?_
  refine wp_region_lit ?_
  refine vn tbok 1 [] [(9, .bool (decide (x12 < (((List.length s) : Nat) : Int))))] [] E (by kernel_rfl) (by kernel_rfl) trivial ?_
  clear E; intro a E
  refine wpList_nil ?_
  refine th_n ?_
  refine wp_seq ?_
  refine E.cases (t := 9) rfl (fun hb_ E_ => ?_) (fun hb_ E_ => ?_)
  ·
   replace E := E_; clear E_
   have h28 : x12 < (((List.length s) : Nat) : Int) := of_decide_eq_true hb_
   clear hb_; replace hP := ite_t h28 hP
   refine c_true E rfl ?_
   refine wp_skip ?_
   refine th_n ?_
   refine wp_seq ?_
   refine wp_block ?_
   refine wp_seq ?_
   refine wp_region_lit ?_
   refine vn tbok 2 [] [(5, .int .i64 x12)] [] E (by kernel_rfl) (by kernel_rfl) trivial ?_
   clear E; intro a E
   refine wpList_nil ?_
   refine th_n ?_
   refine wp_seq ?_
   refine wp_region_lit ?_
   obtain ⟨g29, hP⟩ := ask_inv hP
   obtain ⟨b30, o31, e_b30⟩ := (H.rd 0 rds_ro).addr (idx_pos g29)
   subst e_b30
   refine vn tbok 6 [.int .u8 (List.getD s (Int.toNat x12) 0)] [(16, .bool ((vv : Int) == (List.getD s (Int.toNat x12) 0)))] [0 ≤ x12 ∧ x12 < (((List.length s) : Nat) : Int), World.cell? w25 ⟨b30, o31 + (Int.toNat x12) * 1, none⟩ = some (.int .u8 (List.getD s (Int.toNat x12) 0))] E (by kernel_rfl) (by kernel_rfl) ⟨g29, Rds.at1 (H.rd 0 rds_ro) 0 g29⟩ ?_
   clear E; intro a E
   refine wpList_nil ?_
   refine th_n ?_
   refine E.cases (t := 16) rfl (fun hb_ E_ => ?_) (fun hb_ E_ => ?_)
   ·
    replace E := E_; clear E_
    have h32 : (vv : Int) = (List.getD s (Int.toNat x12) 0) := eq_of_beq hb_
    clear hb_; replace hP := ite_t h32 hP
    refine c_true E rfl ?_
    refine wp_seq ?_
    refine wp_region_lit ?_
    refine vn tbok 2 [] [(4, .int .i64 x12)] [] E (by kernel_rfl) (by kernel_rfl) trivial ?_
    clear E; intro a E
    refine wpList_nil ?_
    refine th_n ?_
    refine wp_ret ?_
    refine bl_ret ?_
    refine th_ret ?_
    refine th_ret ?_
    refine .inr ⟨rfl, ?_⟩
    refine bl_ret ?_
    refine th_ret ?_
    have hx_ := Option.some.inj hP; subst hx_
    have hP : some (x12) = some r := hK24
    obtain rfl := Option.some.inj hP
    refine ret1 E rfl rfl ?_
    exact ⟨_, rfl, rfl, H.sel [] rfl⟩
   replace E := E_; clear E_
   have h33 : ¬ ((vv : Int) = (List.getD s (Int.toNat x12) 0)) := ne_of_beq_false hb_
   clear hb_; replace hP := ite_f h33 hP
   refine c_false E rfl ?_
   refine wp_skip ?_
   refine bl_n ?_
   refine th_n ?_
   refine wp_region_lit ?_
   obtain ⟨g34, hP⟩ := ask_inv hP
   refine vn tbok 2 [.int .i64 (x12 + 1)] [(8, .int .i64 (x12 + 1))] [IntKind.i64.wrap (x12 + 1) = x12 + 1] E (by kernel_rfl) (by kernel_rfl) (wrap_in g34) ?_
   clear E; intro a E
   refine wpList_nil ?_
   exact th_n ⟨m21, Nat.lt_succ_self _, x12 + 1, E.pick _ ⟨rfl, rfl, rfl, rfl, trivial⟩, H.sel [0] rfl, hP⟩
  replace E := E_; clear E_
  have h35 : ¬ (x12 < (((List.length s) : Nat) : Int)) := of_decide_eq_false hb_
  clear hb_; replace hP := ite_f h35 hP
  refine c_false E rfl ?_
  refine wp_exit ?_
  refine th_exit ?_
  have hx_ := Option.some.inj hP
  refine th_exit (.inl ⟨0, rfl, ?_⟩)
  exact ⟨rfl, (), E.pick _ trivial, H.sel [] rfl, hx_.symm⟩
 clear E H hL23; intro i_ a w25 hM_
 obtain ⟨rfl, x27, E, H, hx_⟩ := hM_
 subst hx_; have hP := elim_l hK24
 clear hK24
 refine bl_hit ?_
 refine th_n ?_
 refine wp_seq ?_
 refine wp_region_lit ?_
 refine vn tbok 1 [] [(4, .int .i64 (-1))] [] E (by kernel_rfl) (by kernel_rfl) trivial ?_
 clear E; intro a E
 refine wpList_nil ?_
 refine th_n ?_
 refine wp_ret ?_
 obtain rfl := Option.some.inj hP
 refine ret1 E rfl rfl ?_
 exact ⟨_, rfl, rfl, H.sel [] rfl⟩

/-! rejoinder/board.Number -/
def board_Number (N : Nat) (mask : Int) (move : Int) : Option (Int × Int) :=
  Option.bind (board_Moves N mask) fun r1 =>
  Option.bind (slices_Index_api_Letter_api_Letter N r1 move) fun r13 =>
  if r13 < 0 then
    some (0, 14)
  else
    some (r13, 0)
set_option maxRecDepth 100000 in
set_option maxHeartbeats 4000000 in
theorem board_Number_calls {N : Nat} {S Fa : Nat → Prop} {w0 : World} {r : Int × Int} (mask : Int) (move : Int) (H : Hp S Fa w0 w0 []) (hP : board_Number N mask move = some r) :
    Calls Try.prog 46 #[.int .u8 mask, .int .u8 move] w0 fun e w' => ∃ v, e = .returned v ∧ v = .tuple #[.int .i64 r.1, .int .i64 r.2] ∧ Hp S Fa w0 w' [] := by
 refine enterV (n := 14) Try.func46 rfl rfl rfl ?_
 intro a E
 replace E := E.pick [(0, .int .u8 mask), (1, .int .u8 move)] ⟨rfl, rfl, trivial⟩
 rw [board_Number] at hP
 refine wp_seq ?_
 refine wp_region_lit ?_
 refine vn tbok 2 [] [] [] E (by kernel_rfl) (by kernel_rfl) trivial ?_
 clear E; intro a E
 refine wpList_nil ?_
 refine th_n ?_
 refine wp_seq ?_
 refine wp_region_lit ?_
 refine vn tbok 1 [] [(7, .int .u8 mask)] [] E (by kernel_rfl) (by kernel_rfl) trivial ?_
 clear E; intro a E
 obtain ⟨r1, h2, hP⟩ := bind_inv hP
 obtain ⟨Fa3, Hc4, hb5⟩ := H.call [] [] rfl rfl trivial
 refine e_call E rfl rfl Try.func33 rfl rfl rfl (board_Moves_calls  mask  Hc4 h2) ?_
 rintro v6 w7 a ⟨A10, c11, rfl, HR8⟩ E_
 replace E := E_ _ rfl; clear E_
 obtain ⟨H_, hc9⟩ := hb5 _ _ HR8 rfl
 replace H := H_; clear H_; try dsimp only [setn, addE, goneL] at H
 refine vn tbok 1 [] [(9, .int .u8 move)] [] E (by kernel_rfl) (by kernel_rfl) trivial ?_
 clear E; intro a E
 obtain ⟨r13, h14, hP⟩ := bind_inv hP
 obtain ⟨Fa15, Hc16, hb17⟩ := H.call [] [(0, false)] rfl rfl trivial
 refine e_call E rfl rfl Try.func71 rfl rfl rfl (slices_Index_api_Letter_api_Letter_calls A10 c11 r1 move (H.rcap 0 rfl) Hc16 h14) ?_
 rintro v18 w19 a ⟨rfl, HR20⟩ E_
 replace E := E_ _ rfl; clear E_
 obtain ⟨H_, hc21⟩ := hb17 _ _ HR20 rfl
 replace H := H_; clear H_; try dsimp only [setn, addE, goneL] at H
 refine vn tbok 1 [] [(6, .int .i64 r13)] [] E (by kernel_rfl) (by kernel_rfl) trivial ?_
 clear E; intro a E
 refine wpList_nil ?_
 refine th_n ?_
 refine wp_seq ?_
 refine wp_seq ?_
 refine wp_region_lit ?_
 refine vn tbok 2 [] [(12, .bool (decide (r13 < 0)))] [] E (by kernel_rfl) (by kernel_rfl) trivial ?_
 clear E; intro a E
 refine wpList_nil ?_
 refine th_n ?_
 refine E.cases (t := 12) rfl (fun hb_ E_ => ?_) (fun hb_ E_ => ?_)
 ·
  replace E := E_; clear E_
  have h22 : r13 < 0 := of_decide_eq_true hb_
  clear hb_; replace hP := ite_t h22 hP
  refine c_true E rfl ?_
  refine wp_seq ?_
  refine wp_region_lit ?_
  refine vn tbok 2 [] [(4, .int .i64 0), (5, .int .i64 14)] [] E (by kernel_rfl) (by kernel_rfl) trivial ?_
  clear E; intro a E
  refine wpList_nil ?_
  refine th_n ?_
  refine wp_ret ?_
  refine th_ret ?_
  obtain rfl := Option.some.inj hP
  refine ret2 E rfl rfl rfl ?_
  exact ⟨_, rfl, rfl, H.sel [] rfl⟩
 replace E := E_; clear E_
 have h23 : ¬ (r13 < 0) := of_decide_eq_false hb_
 clear hb_; replace hP := ite_f h23 hP
 refine c_false E rfl ?_
 refine wp_skip ?_
 refine th_n ?_
 refine wp_seq ?_
 refine wp_region_lit ?_
 refine vn tbok 3 [] [(4, .int .i64 r13), (5, .int .i64 0)] [] E (by kernel_rfl) (by kernel_rfl) trivial ?_
 clear E; intro a E
 refine wpList_nil ?_
 refine th_n ?_
 refine wp_ret ?_
 obtain rfl := Option.some.inj hP
 refine ret2 E rfl rfl rfl ?_
 exact ⟨_, rfl, rfl, H.sel [] rfl⟩

/-! rejoinder/strat.state -/
def strat_state_l0 (N : Nat) (s : Int × Int) (xRanks : List Int) (xReply : List (List Int)) (q : Int) (r67 : (List (List Int)) × Int) : Nat → Int → Option (Unit ⊕ Bool)
  | 0, _ => none
  | m166 + 1, x128 =>
    if x128 < (((List.length (List.getD xReply (Int.toNat q) [])) : Nat) : Int) then
      ask (idx x128 (List.length (List.getD xReply (Int.toNat q) []))) <|
      Option.bind (board_Number N s.2 (List.getD (List.getD xReply (Int.toNat q) []) (Int.toNat x128) 0)) fun r177 =>
      if (r177.2 : Int) = 0 then
        ask (idx x128 (List.length r67.1)) <|
        ask (idx r177.1 (List.length (List.getD r67.1 (Int.toNat x128) []))) <|
        ask (idx (List.getD (List.getD r67.1 (Int.toNat x128) []) (Int.toNat r177.1) 0) (List.length xRanks)) <|
        if (List.getD xRanks (Int.toNat (List.getD (List.getD r67.1 (Int.toNat x128) []) (Int.toNat r177.1) 0)) 0) < 0 then
          some (Sum.inr false)
        else
          if (List.getD xRanks (Int.toNat q) 0) ≤ (List.getD xRanks (Int.toNat (List.getD (List.getD r67.1 (Int.toNat x128) []) (Int.toNat r177.1) 0)) 0) then
            some (Sum.inr false)
          else
            ask (in64 (x128 + 1)) <|
            strat_state_l0 N s xRanks xReply q r67 m166 (x128 + 1)
      else
        some (Sum.inr false)
    else
      some (Sum.inl ())
def strat_state_l1 (N : Nat) (s : Int × Int) (xRanks : List Int) (xReply : List (List Int)) (q : Int) (r268 : (List (List Int)) × Int) : Nat → Int → Option (Unit ⊕ Bool)
  | 0, _ => none
  | m367 + 1, x329 =>
    if x329 < (((List.length (List.getD xReply (Int.toNat q) [])) : Nat) : Int) then
      ask (idx x329 (List.length (List.getD xReply (Int.toNat q) []))) <|
      Option.bind (board_Number N s.2 (List.getD (List.getD xReply (Int.toNat q) []) (Int.toNat x329) 0)) fun r378 =>
      if (r378.2 : Int) = 0 then
        ask (idx x329 (List.length r268.1)) <|
        ask (idx r378.1 (List.length (List.getD r268.1 (Int.toNat x329) []))) <|
        ask (idx (List.getD (List.getD r268.1 (Int.toNat x329) []) (Int.toNat r378.1) 0) (List.length xRanks)) <|
        if (List.getD xRanks (Int.toNat (List.getD (List.getD r268.1 (Int.toNat x329) []) (Int.toNat r378.1) 0)) 0) < 0 then
          some (Sum.inr false)
        else
          if (List.getD xRanks (Int.toNat q) 0) ≤ (List.getD xRanks (Int.toNat (List.getD (List.getD r268.1 (Int.toNat x329) []) (Int.toNat r378.1) 0)) 0) then
            some (Sum.inr false)
          else
            ask (in64 (x329 + 1)) <|
            strat_state_l1 N s xRanks xReply q r268 m367 (x329 + 1)
      else
        some (Sum.inr false)
    else
      some (Sum.inl ())
def strat_state_l2 (N : Nat) (s : Int × Int) (xRanks : List Int) (xReply : List (List Int)) (q : Int) (r478 : (List (List Int)) × Int) : Nat → Int → Option (Unit ⊕ Bool)
  | 0, _ => none
  | m580 + 1, x542 =>
    if x542 < (((List.length (List.getD xReply (Int.toNat q) [])) : Nat) : Int) then
      ask (idx x542 (List.length (List.getD xReply (Int.toNat q) []))) <|
      Option.bind (board_Number N s.2 (List.getD (List.getD xReply (Int.toNat q) []) (Int.toNat x542) 0)) fun r591 =>
      if (r591.2 : Int) = 0 then
        ask (idx x542 (List.length r478.1)) <|
        ask (idx r591.1 (List.length (List.getD r478.1 (Int.toNat x542) []))) <|
        ask (idx (List.getD (List.getD r478.1 (Int.toNat x542) []) (Int.toNat r591.1) 0) (List.length xRanks)) <|
        if (List.getD xRanks (Int.toNat (List.getD (List.getD r478.1 (Int.toNat x542) []) (Int.toNat r591.1) 0)) 0) < 0 then
          some (Sum.inr false)
        else
          if (List.getD xRanks (Int.toNat q) 0) ≤ (List.getD xRanks (Int.toNat (List.getD (List.getD r478.1 (Int.toNat x542) []) (Int.toNat r591.1) 0)) 0) then
            some (Sum.inr false)
          else
            ask (in64 (x542 + 1)) <|
            strat_state_l2 N s xRanks xReply q r478 m580 (x542 + 1)
      else
        some (Sum.inr false)
    else
      some (Sum.inl ())
def strat_state_l3 (N : Nat) (s : Int × Int) (xRanks : List Int) (xReply : List (List Int)) (q : Int) (r682 : (List (List Int)) × Int) : Nat → Int → Option (Unit ⊕ Bool)
  | 0, _ => none
  | m784 + 1, x746 =>
    if x746 < (((List.length (List.getD xReply (Int.toNat q) [])) : Nat) : Int) then
      ask (idx x746 (List.length (List.getD xReply (Int.toNat q) []))) <|
      Option.bind (board_Number N s.2 (List.getD (List.getD xReply (Int.toNat q) []) (Int.toNat x746) 0)) fun r795 =>
      if (r795.2 : Int) = 0 then
        ask (idx x746 (List.length r682.1)) <|
        ask (idx r795.1 (List.length (List.getD r682.1 (Int.toNat x746) []))) <|
        ask (idx (List.getD (List.getD r682.1 (Int.toNat x746) []) (Int.toNat r795.1) 0) (List.length xRanks)) <|
        if (List.getD xRanks (Int.toNat (List.getD (List.getD r682.1 (Int.toNat x746) []) (Int.toNat r795.1) 0)) 0) < 0 then
          some (Sum.inr false)
        else
          if (List.getD xRanks (Int.toNat q) 0) ≤ (List.getD xRanks (Int.toNat (List.getD (List.getD r682.1 (Int.toNat x746) []) (Int.toNat r795.1) 0)) 0) then
            some (Sum.inr false)
          else
            ask (in64 (x746 + 1)) <|
            strat_state_l3 N s xRanks xReply q r682 m784 (x746 + 1)
      else
        some (Sum.inr false)
    else
      some (Sum.inl ())
def strat_state (N : Nat) (aProps : Int) (aAccept : List Bool) (aGuard : List Int) (aNodes : List Nd) (s : Int × Int) (xWins : Bool) (xRanks : List Int) (xReply : List (List Int)) (xChoice : List Int) (q : Int) : Option Bool :=
  ask (idx q (List.length xRanks)) <|
  if (List.getD xRanks (Int.toNat q) 0) < (-1) then
    some false
  else
    ask (idx q (List.length aAccept)) <|
    if (((List.getD xRanks (Int.toNat q) 0) : Int) == 0) = (List.getD aAccept (Int.toNat q) false) then
      if (List.getD xRanks (Int.toNat q) 0) ≤ 0 then
        ask (idx q (List.length xReply)) <|
        if 0 < (((List.length (List.getD xReply (Int.toNat q) [])) : Nat) : Int) then
          some false
        else
          if 0 ≤ (List.getD xRanks (Int.toNat q) 0) then
            ask (idx q (List.length xChoice)) <|
            if ((List.getD xChoice (Int.toNat q) 0) : Int) = 0 then
              Option.bind (board_Goes N aProps aAccept aGuard aNodes (s.1, s.2) q) fun r67 =>
              if 0 < (List.getD xRanks (Int.toNat q) 0) then
                if ((((List.length (List.getD xReply (Int.toNat q) [])) : Nat) : Int) : Int) = (((List.length r67.1) : Nat) : Int) then
                  Option.bind (strat_state_l0 N s xRanks xReply q r67 N 0) fun x167 =>
                  Sum.elim (fun x172 =>
                    some true)
                   (fun x210 =>
                    some x210) x167
                else
                  some false
              else
                if (List.getD xRanks (Int.toNat q) 0) < 0 then
                  Option.bind (board_Number N s.1 (List.getD xChoice (Int.toNat q) 0)) fun r213 =>
                  if (r213.2 : Int) = 0 then
                    ask (idx r213.1 (List.length r67.1)) <|
                    Option.bind (strat_lost N (List.getD r67.1 (Int.toNat r213.1) []) xRanks) fun r242 =>
                    some r242
                  else
                    some false
                else
                  some true
            else
              some false
          else
            Option.bind (board_Goes N aProps aAccept aGuard aNodes (s.1, s.2) q) fun r268 =>
            if 0 < (List.getD xRanks (Int.toNat q) 0) then
              if ((((List.length (List.getD xReply (Int.toNat q) [])) : Nat) : Int) : Int) = (((List.length r268.1) : Nat) : Int) then
                Option.bind (strat_state_l1 N s xRanks xReply q r268 N 0) fun x368 =>
                Sum.elim (fun x373 =>
                  some true)
                 (fun x411 =>
                  some x411) x368
              else
                some false
            else
              if (List.getD xRanks (Int.toNat q) 0) < 0 then
                ask (idx q (List.length xChoice)) <|
                Option.bind (board_Number N s.1 (List.getD xChoice (Int.toNat q) 0)) fun r417 =>
                if (r417.2 : Int) = 0 then
                  ask (idx r417.1 (List.length r268.1)) <|
                  Option.bind (strat_lost N (List.getD r268.1 (Int.toNat r417.1) []) xRanks) fun r446 =>
                  some r446
                else
                  some false
              else
                some true
      else
        if 0 ≤ (List.getD xRanks (Int.toNat q) 0) then
          ask (idx q (List.length xChoice)) <|
          if ((List.getD xChoice (Int.toNat q) 0) : Int) = 0 then
            Option.bind (board_Goes N aProps aAccept aGuard aNodes (s.1, s.2) q) fun r478 =>
            if 0 < (List.getD xRanks (Int.toNat q) 0) then
              ask (idx q (List.length xReply)) <|
              if ((((List.length (List.getD xReply (Int.toNat q) [])) : Nat) : Int) : Int) = (((List.length r478.1) : Nat) : Int) then
                Option.bind (strat_state_l2 N s xRanks xReply q r478 N 0) fun x581 =>
                Sum.elim (fun x586 =>
                  some true)
                 (fun x624 =>
                  some x624) x581
              else
                some false
            else
              if (List.getD xRanks (Int.toNat q) 0) < 0 then
                Option.bind (board_Number N s.1 (List.getD xChoice (Int.toNat q) 0)) fun r627 =>
                if (r627.2 : Int) = 0 then
                  ask (idx r627.1 (List.length r478.1)) <|
                  Option.bind (strat_lost N (List.getD r478.1 (Int.toNat r627.1) []) xRanks) fun r656 =>
                  some r656
                else
                  some false
              else
                some true
          else
            some false
        else
          Option.bind (board_Goes N aProps aAccept aGuard aNodes (s.1, s.2) q) fun r682 =>
          if 0 < (List.getD xRanks (Int.toNat q) 0) then
            ask (idx q (List.length xReply)) <|
            if ((((List.length (List.getD xReply (Int.toNat q) [])) : Nat) : Int) : Int) = (((List.length r682.1) : Nat) : Int) then
              Option.bind (strat_state_l3 N s xRanks xReply q r682 N 0) fun x785 =>
              Sum.elim (fun x790 =>
                some true)
               (fun x828 =>
                some x828) x785
            else
              some false
          else
            if (List.getD xRanks (Int.toNat q) 0) < 0 then
              ask (idx q (List.length xChoice)) <|
              Option.bind (board_Number N s.1 (List.getD xChoice (Int.toNat q) 0)) fun r834 =>
              if (r834.2 : Int) = 0 then
                ask (idx r834.1 (List.length r682.1)) <|
                Option.bind (strat_lost N (List.getD r682.1 (Int.toNat r834.1) []) xRanks) fun r863 =>
                some r863
              else
                some false
            else
              some true
    else
      some false
set_option maxRecDepth 100000 in
set_option maxHeartbeats 4000000 in
theorem strat_state_calls {N : Nat} {S Fa : Nat → Prop} {w0 : World} {r : Bool} (A1 : Option Addr) (c2 : Nat) (A5 : Option Addr) (c6 : Nat) (A9 : Option Addr) (c10 : Nat) (A13 : Option Addr) (c14 : Nat) (A17 : Option Addr) (c18 : Nat) (A21 : Option Addr) (c22 : Nat) (aProps : Int) (aAccept : List Bool) (aGuard : List Int) (aNodes : List Nd) (s : Int × Int) (xWins : Bool) (xRanks : List Int) (xReply : List (List Int)) (xChoice : List Int) (q : Int) (hk3 : List.length aAccept ≤ c2) (hk7 : List.length aGuard ≤ c6) (hk11 : List.length aNodes ≤ c10) (hk15 : List.length xRanks ≤ c14) (hk19 : List.length xReply ≤ c18) (hk23 : List.length xChoice ≤ c22) (H : Hp S Fa w0 w0 [.ro false cBool A1 aAccept, .ro false (cInt .i64) A5 aGuard, .ro false cNode A9 aNodes, .ro false (cInt .i64) A13 xRanks, .ro false (cSl (cInt .u8)) A17 xReply, .ro false (cInt .u8) A21 xChoice]) (hP : strat_state N aProps aAccept aGuard aNodes s xWins xRanks xReply xChoice q = some r) :
    Calls Try.prog 43 #[.agg #[.int .i64 aProps, .slice A1 (List.length aAccept) c2, .slice A5 (List.length aGuard) c6, .slice A9 (List.length aNodes) c10], .agg #[.int .u8 s.1, .int .u8 s.2], .agg #[.bool xWins, .slice A13 (List.length xRanks) c14, .slice A17 (List.length xReply) c18, .slice A21 (List.length xChoice) c22], .int .i64 q] w0 fun e w' => ∃ v, e = .returned v ∧ v = .bool r ∧ Hp S Fa w0 w' [] := by
 refine enterV (n := 142) Try.func43 rfl rfl rfl ?_
 intro a E
 replace E := E.pick [(0, .agg #[.int .i64 aProps, .slice A1 (List.length aAccept) c2, .slice A5 (List.length aGuard) c6, .slice A9 (List.length aNodes) c10]), (1, .agg #[.int .u8 s.1, .int .u8 s.2]), (2, .agg #[.bool xWins, .slice A13 (List.length xRanks) c14, .slice A17 (List.length xReply) c18, .slice A21 (List.length xChoice) c22]), (3, .int .i64 q)] ⟨rfl, rfl, rfl, rfl, trivial⟩
 rw [strat_state] at hP
 refine wp_seq ?_
 refine wp_region_lit ?_
 refine h_box H E rfl rfl rfl ?_
 intro w26 g25 a hc27 hg29 H_ E_
 replace E := E_ _ rfl; clear E_
 replace H := H_; clear H_; try dsimp only [setn, addE, goneL] at H
 refine h_box H E rfl rfl rfl ?_
 intro w31 g30 a hc32 hg34 H_ E_
 replace E := E_ _ rfl; clear E_
 replace H := H_; clear H_; try dsimp only [setn, addE, goneL] at H
 refine h_box H E rfl rfl rfl ?_
 intro w36 g35 a hc37 hg39 H_ E_
 replace E := E_ _ rfl; clear E_
 replace H := H_; clear H_; try dsimp only [setn, addE, goneL] at H
 refine vn tbok 1 [] [] [] E (by kernel_rfl) (by kernel_rfl) trivial ?_
 clear E; intro a E
 refine wpList_nil ?_
 refine th_n ?_
 refine wp_seq ?_
 refine wp_region_lit ?_
 obtain ⟨g40, hP⟩ := ask_inv hP
 obtain ⟨b41, o42, e_b41⟩ := (H.rd 3 rds_ro).addr (idx_pos g40)
 subst e_b41
 refine vn tbok 6 [.slice (some ⟨b41, o42, none⟩) (List.length xRanks) c14, .int .i64 (List.getD xRanks (Int.toNat q) 0)] [(9, .int .i64 (List.getD xRanks (Int.toNat q) 0))] [World.cell? w36 ⟨g35, 1, none⟩ = some (.slice (some ⟨b41, o42, none⟩) (List.length xRanks) c14), 0 ≤ q ∧ q < (((List.length xRanks) : Nat) : Int), World.cell? w36 ⟨b41, o42 + (Int.toNat q) * 1, none⟩ = some (.int .i64 (List.getD xRanks (Int.toNat q) 0))] E (by kernel_rfl) (by kernel_rfl) ⟨(H.box 8 rfl).cell (j := 1) rfl, g40, Rds.at1 (H.rd 3 rds_ro) 0 g40⟩ ?_
 clear E; intro a E
 refine wpList_nil ?_
 refine th_n ?_
 refine wp_seq ?_
 refine wp_seq ?_
 refine wp_region_lit ?_
 refine vn tbok 3 [] [(26, .bool (decide ((List.getD xRanks (Int.toNat q) 0) < (-1))))] [] E (by kernel_rfl) (by kernel_rfl) trivial ?_
 clear E; intro a E
 refine E.cases (t := 26) rfl (fun hb_ E_ => ?_) (fun hb_ E_ => ?_)
 ·
  replace E := E_; clear E_
  have h43 : (List.getD xRanks (Int.toNat q) 0) < (-1) := of_decide_eq_true hb_
  clear hb_; replace hP := ite_t h43 hP
  refine vn tbok 9 [] [(35, .bool true)] [] E (by kernel_rfl) (by kernel_rfl) trivial ?_
  clear E; intro a E
  refine wpList_nil ?_
  refine th_n ?_
  refine c_true E rfl ?_
  refine wp_seq ?_
  refine wp_region_lit ?_
  refine vn tbok 1 [] [(8, .bool false)] [] E (by kernel_rfl) (by kernel_rfl) trivial ?_
  clear E; intro a E
  refine wpList_nil ?_
  refine th_n ?_
  refine wp_ret ?_
  refine th_ret ?_
  obtain rfl := Option.some.inj hP
  refine ret1 E rfl rfl ?_
  exact ⟨_, rfl, rfl, H.sel [] rfl⟩
 replace E := E_; clear E_
 have h44 : ¬ ((List.getD xRanks (Int.toNat q) 0) < (-1)) := of_decide_eq_false hb_
 clear hb_; replace hP := ite_f h44 hP
 obtain ⟨g45, hP⟩ := ask_inv hP
 obtain ⟨b46, o47, e_b46⟩ := (H.rd 0 rds_ro).addr (idx_pos g45)
 subst e_b46
 refine vn tbok 9 [.slice (some ⟨b46, o47, none⟩) (List.length aAccept) c2, .bool (List.getD aAccept (Int.toNat q) false)] [(35, .bool (!((((List.getD xRanks (Int.toNat q) 0) : Int) == 0) == (List.getD aAccept (Int.toNat q) false))))] [World.cell? w36 ⟨g25, 1, none⟩ = some (.slice (some ⟨b46, o47, none⟩) (List.length aAccept) c2), 0 ≤ q ∧ q < (((List.length aAccept) : Nat) : Int), World.cell? w36 ⟨b46, o47 + (Int.toNat q) * 1, none⟩ = some (.bool (List.getD aAccept (Int.toNat q) false))] E (by kernel_rfl) (by kernel_rfl) ⟨(H.box 6 rfl).cell (j := 1) rfl, g45, Rds.at1 (H.rd 0 rds_ro) false g45⟩ ?_
 clear E; intro a E
 refine wpList_nil ?_
 refine th_n ?_
 refine E.cases (t := 35) rfl (fun hb_ E_ => ?_) (fun hb_ E_ => ?_)
 ·
  replace E := E_; clear E_
  have h48 : ¬ ((((List.getD xRanks (Int.toNat q) 0) : Int) == 0) = (List.getD aAccept (Int.toNat q) false)) := (by simpa using hb_)
  clear hb_; replace hP := ite_f h48 hP
  refine c_true E rfl ?_
  refine wp_seq ?_
  refine wp_region_lit ?_
  refine vn tbok 1 [] [(8, .bool false)] [] E (by kernel_rfl) (by kernel_rfl) trivial ?_
  clear E; intro a E
  refine wpList_nil ?_
  refine th_n ?_
  refine wp_ret ?_
  refine th_ret ?_
  obtain rfl := Option.some.inj hP
  refine ret1 E rfl rfl ?_
  exact ⟨_, rfl, rfl, H.sel [] rfl⟩
 replace E := E_; clear E_
 have h49 : (((List.getD xRanks (Int.toNat q) 0) : Int) == 0) = (List.getD aAccept (Int.toNat q) false) := (by simpa using hb_)
 clear hb_; replace hP := ite_t h49 hP
 refine c_false E rfl ?_
 refine wp_skip ?_
 refine th_n ?_
 refine wp_seq ?_
 refine wp_seq ?_
 refine wp_region_lit ?_
 refine vn tbok 3 [] [(38, .bool (decide ((List.getD xRanks (Int.toNat q) 0) ≤ 0)))] [] E (by kernel_rfl) (by kernel_rfl) trivial ?_
 clear E; intro a E
 refine E.cases (t := 38) rfl (fun hb_ E_ => ?_) (fun hb_ E_ => ?_)
 ·
  replace E := E_; clear E_
  have h50 : (List.getD xRanks (Int.toNat q) 0) ≤ 0 := of_decide_eq_true hb_
  clear hb_; replace hP := ite_t h50 hP
  obtain ⟨g51, hP⟩ := ask_inv hP
  obtain ⟨b52, o53, e_b52⟩ := (H.rd 4 rds_ro).addr (idx_pos g51)
  subst e_b52
  obtain ⟨A54, c55, hl56, hk57, H⟩ := H.subSl 4 false (el_ro rfl) g51
  try dsimp only [addE] at H
  refine vn tbok 9 [.slice (some ⟨b52, o53, none⟩) (List.length xReply) c18, .slice A54 (List.length (List.getD xReply (Int.toNat q) [])) c55] [(47, .bool (decide (0 < (((List.length (List.getD xReply (Int.toNat q) [])) : Nat) : Int))))] [World.cell? w36 ⟨g35, 2, none⟩ = some (.slice (some ⟨b52, o53, none⟩) (List.length xReply) c18), 0 ≤ q ∧ q < (((List.length xReply) : Nat) : Int), World.cell? w36 ⟨b52, o53 + (Int.toNat q) * 1, none⟩ = some (.slice A54 (List.length (List.getD xReply (Int.toNat q) [])) c55)] E (by kernel_rfl) (by kernel_rfl) ⟨(H.box 8 rfl).cell (j := 2) rfl, g51, hl56⟩ ?_
  clear E; intro a E
  refine E.cases (t := 47) rfl (fun hb_ E_ => ?_) (fun hb_ E_ => ?_)
  ·
   replace E := E_; clear E_
   have h59 : 0 < (((List.length (List.getD xReply (Int.toNat q) [])) : Nat) : Int) := of_decide_eq_true hb_
   clear hb_; replace hP := ite_t h59 hP
   refine vn tbok 11 [] [(58, .bool true)] [] E (by kernel_rfl) (by kernel_rfl) trivial ?_
   clear E; intro a E
   refine wpList_nil ?_
   refine th_n ?_
   refine c_true E rfl ?_
   refine wp_seq ?_
   refine wp_region_lit ?_
   refine vn tbok 1 [] [(8, .bool false)] [] E (by kernel_rfl) (by kernel_rfl) trivial ?_
   clear E; intro a E
   refine wpList_nil ?_
   refine th_n ?_
   refine wp_ret ?_
   refine th_ret ?_
   obtain rfl := Option.some.inj hP
   refine ret1 E rfl rfl ?_
   exact ⟨_, rfl, rfl, H.sel [] rfl⟩
  replace E := E_; clear E_
  have h60 : ¬ (0 < (((List.length (List.getD xReply (Int.toNat q) [])) : Nat) : Int)) := of_decide_eq_false hb_
  clear hb_; replace hP := ite_f h60 hP
  refine vn tbok 3 [] [(50, .bool (decide (0 ≤ (List.getD xRanks (Int.toNat q) 0))))] [] E (by kernel_rfl) (by kernel_rfl) trivial ?_
  clear E; intro a E
  refine E.cases (t := 50) rfl (fun hb_ E_ => ?_) (fun hb_ E_ => ?_)
  ·
   replace E := E_; clear E_
   have h61 : 0 ≤ (List.getD xRanks (Int.toNat q) 0) := of_decide_eq_true hb_
   clear hb_; replace hP := ite_t h61 hP
   obtain ⟨g62, hP⟩ := ask_inv hP
   obtain ⟨b63, o64, e_b63⟩ := (H.rd 5 rds_ro).addr (idx_pos g62)
   subst e_b63
   refine vn tbok 8 [.slice (some ⟨b63, o64, none⟩) (List.length xChoice) c22, .int .u8 (List.getD xChoice (Int.toNat q) 0)] [(58, .bool (((List.getD xChoice (Int.toNat q) 0) : Int) != 0))] [World.cell? w36 ⟨g35, 3, none⟩ = some (.slice (some ⟨b63, o64, none⟩) (List.length xChoice) c22), 0 ≤ q ∧ q < (((List.length xChoice) : Nat) : Int), World.cell? w36 ⟨b63, o64 + (Int.toNat q) * 1, none⟩ = some (.int .u8 (List.getD xChoice (Int.toNat q) 0))] E (by kernel_rfl) (by kernel_rfl) ⟨(H.box 8 rfl).cell (j := 3) rfl, g62, Rds.at1 (H.rd 5 rds_ro) 0 g62⟩ ?_
   clear E; intro a E
   refine wpList_nil ?_
   refine th_n ?_
   refine E.cases (t := 58) rfl (fun hb_ E_ => ?_) (fun hb_ E_ => ?_)
   ·
    replace E := E_; clear E_
    have h65 : ¬ (((List.getD xChoice (Int.toNat q) 0) : Int) = 0) := bne_iff_ne.1 hb_
    clear hb_; replace hP := ite_f h65 hP
    refine c_true E rfl ?_
    refine wp_seq ?_
    refine wp_region_lit ?_
    refine vn tbok 1 [] [(8, .bool false)] [] E (by kernel_rfl) (by kernel_rfl) trivial ?_
    clear E; intro a E
    refine wpList_nil ?_
    refine th_n ?_
    refine wp_ret ?_
    refine th_ret ?_
    obtain rfl := Option.some.inj hP
    refine ret1 E rfl rfl ?_
    exact ⟨_, rfl, rfl, H.sel [] rfl⟩
   replace E := E_; clear E_
   have h66 : ((List.getD xChoice (Int.toNat q) 0) : Int) = 0 := bne_eq_false_iff_eq.1 hb_
   clear hb_; replace hP := ite_t h66 hP
   refine c_false E rfl ?_
   refine wp_skip ?_
   refine th_n ?_
   refine wp_seq ?_
   refine wp_region_lit ?_
   refine vn tbok 3 [.agg #[.int .i64 aProps, .slice (some ⟨b46, o47, none⟩) (List.length aAccept) c2, .slice A5 (List.length aGuard) c6, .slice A9 (List.length aNodes) c10], .agg #[.int .u8 s.1, .int .u8 s.2]] [(60, .agg #[.int .i64 aProps, .slice (some ⟨b46, o47, none⟩) (List.length aAccept) c2, .slice A5 (List.length aGuard) c6, .slice A9 (List.length aNodes) c10]), (61, .agg #[.int .u8 s.1, .int .u8 s.2]), (62, .int .i64 q)] [cellsAt w36 g25 (0) [.int .i64 aProps, .slice (some ⟨b46, o47, none⟩) (List.length aAccept) c2, .slice A5 (List.length aGuard) c6, .slice A9 (List.length aNodes) c10], cellsAt w36 g30 (0) [.int .u8 s.1, .int .u8 s.2]] E (by kernel_rfl) (by kernel_rfl) ⟨(H.box 6 rfl).sub 0 _ rfl, (H.box 7 rfl).sub 0 _ rfl⟩ ?_
   clear E; intro a E
   obtain ⟨r67, h68, hP⟩ := bind_inv hP
   obtain ⟨Fa69, Hc70, hb71⟩ := H.call [] [(0, false), (1, false), (2, false)] rfl rfl trivial
   refine e_call E rfl rfl Try.func34 rfl rfl rfl (board_Goes_calls (some ⟨b46, o47, none⟩) c2 A5 c6 A9 c10 aProps aAccept aGuard aNodes (s.1, s.2) q hk3 hk7 hk11 Hc70 h68) ?_
   rintro v72 w73 a ⟨A76, c77, rfl, HR74⟩ E_
   replace E := E_ _ rfl; clear E_
   obtain ⟨H_, hc75⟩ := hb71 _ _ HR74 rfl
   replace H := H_; clear H_; try dsimp only [setn, addE, goneL] at H
   refine vn tbok 5 [] [(10, .slice A76 (List.length r67.1) c77)] [] E (by kernel_rfl) (by kernel_rfl) trivial ?_
   clear E; intro a E
   refine wpList_nil ?_
   refine th_n ?_
   refine wp_seq ?_
   refine wp_block ?_
   refine wp_seq ?_
   refine wp_region_lit ?_
   refine vn tbok 3 [] [(66, .bool (decide (0 < (List.getD xRanks (Int.toNat q) 0))))] [] E (by kernel_rfl) (by kernel_rfl) trivial ?_
   clear E; intro a E
   refine wpList_nil ?_
   refine th_n ?_
   refine E.cases (t := 66) rfl (fun hb_ E_ => ?_) (fun hb_ E_ => ?_)
   ·
    replace E := E_; clear E_
    have h79 : 0 < (List.getD xRanks (Int.toNat q) 0) := of_decide_eq_true hb_
    clear hb_; replace hP := ite_t h79 hP
    refine c_true E rfl ?_
    refine wp_seq ?_
    refine wp_seq ?_
    refine wp_region_lit ?_
    obtain ⟨A80, c81, hl82, hk83, H⟩ := H.subSl 4 false (el_ro rfl) g51
    try dsimp only [addE] at H
    refine vn tbok 9 [.slice (some ⟨b52, o53, none⟩) (List.length xReply) c18, .slice A80 (List.length (List.getD xReply (Int.toNat q) [])) c81] [(77, .bool (((((List.length (List.getD xReply (Int.toNat q) [])) : Nat) : Int) : Int) != (((List.length r67.1) : Nat) : Int)))] [World.cell? w73 ⟨g35, 2, none⟩ = some (.slice (some ⟨b52, o53, none⟩) (List.length xReply) c18), 0 ≤ q ∧ q < (((List.length xReply) : Nat) : Int), World.cell? w73 ⟨b52, o53 + (Int.toNat q) * 1, none⟩ = some (.slice A80 (List.length (List.getD xReply (Int.toNat q) [])) c81)] E (by kernel_rfl) (by kernel_rfl) ⟨(H.box 8 rfl).cell (j := 2) rfl, g51, hl82⟩ ?_
    clear E; intro a E
    refine wpList_nil ?_
    refine th_n ?_
    refine E.cases (t := 77) rfl (fun hb_ E_ => ?_) (fun hb_ E_ => ?_)
    ·
     replace E := E_; clear E_
     have h85 : ¬ (((((List.length (List.getD xReply (Int.toNat q) [])) : Nat) : Int) : Int) = (((List.length r67.1) : Nat) : Int)) := bne_iff_ne.1 hb_
     clear hb_; replace hP := ite_f h85 hP
     refine c_true E rfl ?_
     refine wp_seq ?_
     refine wp_region_lit ?_
     refine vn tbok 1 [] [(8, .bool false)] [] E (by kernel_rfl) (by kernel_rfl) trivial ?_
     clear E; intro a E
     refine wpList_nil ?_
     refine th_n ?_
     refine wp_ret ?_
     refine th_ret ?_
     refine bl_ret ?_
     refine th_ret ?_
     obtain rfl := Option.some.inj hP
     refine ret1 E rfl rfl ?_
     exact ⟨_, rfl, rfl, H.sel [] rfl⟩
    replace E := E_; clear E_
    have h86 : ((((List.length (List.getD xReply (Int.toNat q) [])) : Nat) : Int) : Int) = (((List.length r67.1) : Nat) : Int) := bne_eq_false_iff_eq.1 hb_
    clear hb_; replace hP := ite_t h86 hP
    refine c_false E rfl ?_
    refine wp_skip ?_
    refine th_n ?_
    refine wp_seq ?_
    refine wp_region_lit ?_
    obtain ⟨A87, c88, hl89, hk90, H⟩ := H.subSl 4 false (el_ro rfl) g51
    try dsimp only [addE] at H
    refine vn tbok 7 [.slice (some ⟨b52, o53, none⟩) (List.length xReply) c18, .slice A87 (List.length (List.getD xReply (Int.toNat q) [])) c88] [(82, .slice A87 (List.length (List.getD xReply (Int.toNat q) [])) c88), (83, .int .i64 (((List.length (List.getD xReply (Int.toNat q) [])) : Nat) : Int)), (84, .int .i64 0)] [World.cell? w73 ⟨g35, 2, none⟩ = some (.slice (some ⟨b52, o53, none⟩) (List.length xReply) c18), 0 ≤ q ∧ q < (((List.length xReply) : Nat) : Int), World.cell? w73 ⟨b52, o53 + (Int.toNat q) * 1, none⟩ = some (.slice A87 (List.length (List.getD xReply (Int.toNat q) [])) c88)] E (by kernel_rfl) (by kernel_rfl) ⟨(H.box 8 rfl).cell (j := 2) rfl, g51, hl89⟩ ?_
    clear E; intro a E
    refine wpList_nil ?_
    refine th_n ?_
    refine wp_block ?_
    obtain ⟨x167, hL168, hK169⟩ := bind_inv hP
    clear hP
    refine loop_cut (fun i_ a w_ => (i_ = 1 ∧ ∃ (x172 : Unit), Fr a 142 [] ∧ Hp S Fa w0 w_ [] ∧ x167 = Sum.inl x172)) ?_ ?_
    ·
     refine loopV (fun m171 a w170 => ∃ (x128 : Int), Fr a 142 [(5, .pointer (some ⟨g30, 0, none⟩)), (6, .pointer (some ⟨g35, 0, none⟩)), (9, .int .i64 (List.getD xRanks (Int.toNat q) 0)), (10, .slice A76 (List.length r67.1) c77), (82, .slice A87 (List.length (List.getD xReply (Int.toNat q) [])) c88), (83, .int .i64 (((List.length (List.getD xReply (Int.toNat q) [])) : Nat) : Int)), (84, .int .i64 x128)] ∧ Hp S Fa w0 w170 [.box g30 29 [.int .u8 s.1, .int .u8 s.2], .ro false (cInt .i64) (some ⟨b41, o42, none⟩) xRanks, .ro false (cSl (cInt .u8)) (some ⟨b52, o53, none⟩) xReply, .ro false (cInt .u8) (some ⟨b63, o64, none⟩) xChoice, .box g35 33 [.bool xWins, .slice (some ⟨b41, o42, none⟩) (List.length xRanks) c14, .slice (some ⟨b52, o53, none⟩) (List.length xReply) c18, .slice (some ⟨b63, o64, none⟩) (List.length xChoice) c22], .row true (cSl (cInt .i64)) 23 A76 c77 r67.1, .ro false (cInt .u8) A87 (List.getD xReply (Int.toNat q) [])] ∧ strat_state_l0 N s xRanks xReply q r67 m171 x128 = some x167) N ?_ ?_
     ·
      exact ⟨0, E.pick _ ⟨rfl, rfl, rfl, rfl, rfl, rfl, rfl, trivial⟩, H.sel [7, 3, 4, 5, 8, 10, 12] rfl, hL168⟩
     clear E H hL168; intro m171 a w170 hI_
     obtain ⟨x128, E, H, hP⟩ := hI_
     obtain ⟨m166, rfl⟩ : ∃ q_, m171 = q_ + 1 := by cases m171 with | zero => rw [strat_state_l0] at hP; cases hP | succ q_ => exact ⟨q_, rfl⟩
     rw [strat_state_l0] at hP
     refine wp_seq ?_
     refine wp_region_lit ?_
     refine vn tbok 1 [] [(85, .bool (decide (x128 < (((List.length (List.getD xReply (Int.toNat q) [])) : Nat) : Int))))] [] E (by kernel_rfl) (by kernel_rfl) trivial ?_
     clear E; intro a E
     refine wpList_nil ?_
     refine th_n ?_
     refine wp_seq ?_
     refine E.cases (t := 85) rfl (fun hb_ E_ => ?_) (fun hb_ E_ => ?_)
     ·
      replace E := E_; clear E_
      have h173 : x128 < (((List.length (List.getD xReply (Int.toNat q) [])) : Nat) : Int) := of_decide_eq_true hb_
      clear hb_; replace hP := ite_t h173 hP
      refine c_true E rfl ?_
      refine wp_skip ?_
      refine th_n ?_
      refine wp_seq ?_
      refine wp_block ?_
      refine wp_seq ?_
      refine wp_region_lit ?_
      obtain ⟨g174, hP⟩ := ask_inv hP
      obtain ⟨b175, o176, e_b175⟩ := (H.rd 6 rds_ro).addr (idx_pos g174)
      subst e_b175
      refine vn tbok 5 [.int .u8 (List.getD (List.getD xReply (Int.toNat q) []) (Int.toNat x128) 0)] [(12, .int .i64 x128), (13, .int .u8 (List.getD (List.getD xReply (Int.toNat q) []) (Int.toNat x128) 0))] [0 ≤ x128 ∧ x128 < (((List.length (List.getD xReply (Int.toNat q) [])) : Nat) : Int), World.cell? w170 ⟨b175, o176 + (Int.toNat x128) * 1, none⟩ = some (.int .u8 (List.getD (List.getD xReply (Int.toNat q) []) (Int.toNat x128) 0))] E (by kernel_rfl) (by kernel_rfl) ⟨g174, Rds.at1 (H.rd 6 rds_ro) 0 g174⟩ ?_
      clear E; intro a E
      refine wpList_nil ?_
      refine th_n ?_
      refine wp_seq ?_
      refine wp_region_lit ?_
      refine vn tbok 3 [.int .u8 s.2] [(91, .int .u8 s.2), (92, .int .u8 (List.getD (List.getD xReply (Int.toNat q) []) (Int.toNat x128) 0))] [World.cell? w170 ⟨g30, 1, none⟩ = some (.int .u8 s.2)] E (by kernel_rfl) (by kernel_rfl) ((H.box 0 rfl).cell (j := 1) rfl) ?_
      clear E; intro a E
      obtain ⟨r177, h178, hP⟩ := bind_inv hP
      obtain ⟨Fa179, Hc180, hb181⟩ := H.call [] [] rfl rfl trivial
      refine e_call E rfl rfl Try.func46 rfl rfl rfl (board_Number_calls  s.2 (List.getD (List.getD xReply (Int.toNat q) []) (Int.toNat x128) 0)  Hc180 h178) ?_
      rintro v182 w183 a ⟨rfl, HR184⟩ E_
      replace E := E_ _ rfl; clear E_
      obtain ⟨H_, hc185⟩ := hb181 _ _ HR184 rfl
      replace H := H_; clear H_; try dsimp only [setn, addE, goneL] at H
      refine vn tbok 5 [] [(14, .int .i64 r177.1), (15, .int .i64 r177.2)] [] E (by kernel_rfl) (by kernel_rfl) trivial ?_
      clear E; intro a E
      refine wpList_nil ?_
      refine th_n ?_
      refine wp_seq ?_
      refine wp_seq ?_
      refine wp_region_lit ?_
      refine vn tbok 2 [] [(97, .bool ((r177.2 : Int) != 0))] [] E (by kernel_rfl) (by kernel_rfl) trivial ?_
      clear E; intro a E
      refine wpList_nil ?_
      refine th_n ?_
      refine E.cases (t := 97) rfl (fun hb_ E_ => ?_) (fun hb_ E_ => ?_)
      ·
       replace E := E_; clear E_
       have h186 : ¬ ((r177.2 : Int) = 0) := bne_iff_ne.1 hb_
       clear hb_; replace hP := ite_f h186 hP
       refine c_true E rfl ?_
       refine wp_seq ?_
       refine wp_region_lit ?_
       refine vn tbok 1 [] [(8, .bool false)] [] E (by kernel_rfl) (by kernel_rfl) trivial ?_
       clear E; intro a E
       refine wpList_nil ?_
       refine th_n ?_
       refine wp_ret ?_
       refine th_ret ?_
       refine bl_ret ?_
       refine th_ret ?_
       refine th_ret ?_
       refine .inr ⟨rfl, ?_⟩
       refine bl_ret ?_
       refine bl_ret ?_
       refine th_ret ?_
       have hx_ := Option.some.inj hP; subst hx_
       have hP : some (false) = some r := hK169
       obtain rfl := Option.some.inj hP
       refine ret1 E rfl rfl ?_
       exact ⟨_, rfl, rfl, H.sel [] rfl⟩
      replace E := E_; clear E_
      have h187 : (r177.2 : Int) = 0 := bne_eq_false_iff_eq.1 hb_
      clear hb_; replace hP := ite_t h187 hP
      refine c_false E rfl ?_
      refine wp_skip ?_
      refine th_n ?_
      refine wp_seq ?_
      obtain ⟨g188, hP⟩ := ask_inv hP
      obtain ⟨b189, e_b189⟩ := H.raddr 5 rfl (idx_pos g188)
      subst e_b189
      obtain ⟨A191, c192, hl193, hk194, H⟩ := H.subSl 5 true (el_row rfl) g188
      try dsimp only [addE] at H
      obtain ⟨g196, hP⟩ := ask_inv hP
      obtain ⟨b197, o198, e_b197⟩ := (H.rd 7 rds_ro).addr (idx_pos g196)
      subst e_b197
      obtain ⟨g199, hP⟩ := ask_inv hP
      have HR203 := H
      refine dr_start (S := fun w_ => Chg (atL []) w183 w_) (by kernel_rfl) ?_
      intro w200 hc201
      have HS202 : Chg (atL []) w183 w200 := hc201.mono (fun _ _ h_ => h_.elim)
      replace H := H.ext hc201
      refine dn tbok (by kernel_rfl) [0, 1, 2, 3, 4, 5, 6, 7, 8, 9, 10, 11] [.slice (some ⟨b41, o42, none⟩) (List.length xRanks) c14, .slice (some ⟨b197, o198, none⟩) (List.length (List.getD r67.1 (Int.toNat x128) [])) c192, .int .i64 (List.getD (List.getD r67.1 (Int.toNat x128) []) (Int.toNat r177.1) 0), .int .i64 (List.getD xRanks (Int.toNat (List.getD (List.getD r67.1 (Int.toNat x128) []) (Int.toNat r177.1) 0)) 0)] [(16, .int .i64 (List.getD xRanks (Int.toNat (List.getD (List.getD r67.1 (Int.toNat x128) []) (Int.toNat r177.1) 0)) 0))] (fun w_ => [World.cell? w_ ⟨g35, 1, none⟩ = some (.slice (some ⟨b41, o42, none⟩) (List.length xRanks) c14), 0 ≤ x128 ∧ x128 < (((List.length r67.1) : Nat) : Int), World.cell? w_ ⟨b189, 0 + (Int.toNat x128) * 1, none⟩ = some (.slice (some ⟨b197, o198, none⟩) (List.length (List.getD r67.1 (Int.toNat x128) [])) c192), 0 ≤ r177.1 ∧ r177.1 < (((List.length (List.getD r67.1 (Int.toNat x128) [])) : Nat) : Int), World.cell? w_ ⟨b197, o198 + (Int.toNat r177.1) * 1, none⟩ = some (.int .i64 (List.getD (List.getD r67.1 (Int.toNat x128) []) (Int.toNat r177.1) 0)), 0 ≤ (List.getD (List.getD r67.1 (Int.toNat x128) []) (Int.toNat r177.1) 0) ∧ (List.getD (List.getD r67.1 (Int.toNat x128) []) (Int.toNat r177.1) 0) < (((List.length xRanks) : Nat) : Int), World.cell? w_ ⟨b41, o42 + (Int.toNat (List.getD (List.getD r67.1 (Int.toNat x128) []) (Int.toNat r177.1) 0)) * 1, none⟩ = some (.int .i64 (List.getD xRanks (Int.toNat (List.getD (List.getD r67.1 (Int.toNat x128) []) (Int.toNat r177.1) 0)) 0))]) 0 E (fun _ _ => by kernel_rfl) (by kernel_rfl) (fun w_ hS_ => ⟨(HR203.boxk [] hS_ 4 rfl rfl).cell (j := 1) rfl, g188, hS_.cell (hl193) (HR203.blk [] 5 rds_row (idx_pos g188) rfl), g196, Rds.at1 (HR203.rdk [] hS_ 7 rds_ro rfl) 0 g196, g199, Rds.at1 (HR203.rdk [] hS_ 1 rds_ro rfl) 0 g199⟩) (by kernel_rfl) HS202 ?_
      clear E; intro a E
      refine dr_done (by kernel_rfl) ?_
      clear HS202 HR203
      refine th_n ?_
      refine wp_seq ?_
      refine wp_region_lit ?_
      refine vn tbok 3 [] [(111, .bool (decide ((List.getD xRanks (Int.toNat (List.getD (List.getD r67.1 (Int.toNat x128) []) (Int.toNat r177.1) 0)) 0) < 0)))] [] E (by kernel_rfl) (by kernel_rfl) trivial ?_
      clear E; intro a E
      refine E.cases (t := 111) rfl (fun hb_ E_ => ?_) (fun hb_ E_ => ?_)
      ·
       replace E := E_; clear E_
       have h204 : (List.getD xRanks (Int.toNat (List.getD (List.getD r67.1 (Int.toNat x128) []) (Int.toNat r177.1) 0)) 0) < 0 := of_decide_eq_true hb_
       clear hb_; replace hP := ite_t h204 hP
       refine vn tbok 4 [] [(115, .bool true)] [] E (by kernel_rfl) (by kernel_rfl) trivial ?_
       clear E; intro a E
       refine wpList_nil ?_
       refine th_n ?_
       refine c_true E rfl ?_
       refine wp_seq ?_
       refine wp_region_lit ?_
       refine vn tbok 1 [] [(8, .bool false)] [] E (by kernel_rfl) (by kernel_rfl) trivial ?_
       clear E; intro a E
       refine wpList_nil ?_
       refine th_n ?_
       refine wp_ret ?_
       refine bl_ret ?_
       refine th_ret ?_
       refine th_ret ?_
       refine .inr ⟨rfl, ?_⟩
       refine bl_ret ?_
       refine bl_ret ?_
       refine th_ret ?_
       have hx_ := Option.some.inj hP; subst hx_
       have hP : some (false) = some r := hK169
       obtain rfl := Option.some.inj hP
       refine ret1 E rfl rfl ?_
       exact ⟨_, rfl, rfl, H.sel [] rfl⟩
      replace E := E_; clear E_
      have h205 : ¬ ((List.getD xRanks (Int.toNat (List.getD (List.getD r67.1 (Int.toNat x128) []) (Int.toNat r177.1) 0)) 0) < 0) := of_decide_eq_false hb_
      clear hb_; replace hP := ite_f h205 hP
      refine vn tbok 4 [] [(115, .bool (decide ((List.getD xRanks (Int.toNat q) 0) ≤ (List.getD xRanks (Int.toNat (List.getD (List.getD r67.1 (Int.toNat x128) []) (Int.toNat r177.1) 0)) 0))))] [] E (by kernel_rfl) (by kernel_rfl) trivial ?_
      clear E; intro a E
      refine wpList_nil ?_
      refine th_n ?_
      refine E.cases (t := 115) rfl (fun hb_ E_ => ?_) (fun hb_ E_ => ?_)
      ·
       replace E := E_; clear E_
       have h206 : (List.getD xRanks (Int.toNat q) 0) ≤ (List.getD xRanks (Int.toNat (List.getD (List.getD r67.1 (Int.toNat x128) []) (Int.toNat r177.1) 0)) 0) := of_decide_eq_true hb_
       clear hb_; replace hP := ite_t h206 hP
       refine c_true E rfl ?_
       refine wp_seq ?_
       refine wp_region_lit ?_
       refine vn tbok 1 [] [(8, .bool false)] [] E (by kernel_rfl) (by kernel_rfl) trivial ?_
       clear E; intro a E
       refine wpList_nil ?_
       refine th_n ?_
       refine wp_ret ?_
       refine bl_ret ?_
       refine th_ret ?_
       refine th_ret ?_
       refine .inr ⟨rfl, ?_⟩
       refine bl_ret ?_
       refine bl_ret ?_
       refine th_ret ?_
       have hx_ := Option.some.inj hP; subst hx_
       have hP : some (false) = some r := hK169
       obtain rfl := Option.some.inj hP
       refine ret1 E rfl rfl ?_
       exact ⟨_, rfl, rfl, H.sel [] rfl⟩
      replace E := E_; clear E_
      have h207 : ¬ ((List.getD xRanks (Int.toNat q) 0) ≤ (List.getD xRanks (Int.toNat (List.getD (List.getD r67.1 (Int.toNat x128) []) (Int.toNat r177.1) 0)) 0)) := of_decide_eq_false hb_
      clear hb_; replace hP := ite_f h207 hP
      refine c_false E rfl ?_
      refine wp_skip ?_
      refine bl_n ?_
      refine th_n ?_
      refine wp_region_lit ?_
      obtain ⟨g208, hP⟩ := ask_inv hP
      refine vn tbok 2 [.int .i64 (x128 + 1)] [(84, .int .i64 (x128 + 1))] [IntKind.i64.wrap (x128 + 1) = x128 + 1] E (by kernel_rfl) (by kernel_rfl) (wrap_in g208) ?_
      clear E; intro a E
      refine wpList_nil ?_
      exact th_n ⟨m166, Nat.lt_succ_self _, x128 + 1, E.pick _ ⟨rfl, rfl, rfl, rfl, rfl, rfl, rfl, trivial⟩, H.sel [0, 1, 2, 3, 4, 5, 6] rfl, hP⟩
     replace E := E_; clear E_
     have h209 : ¬ (x128 < (((List.length (List.getD xReply (Int.toNat q) [])) : Nat) : Int)) := of_decide_eq_false hb_
     clear hb_; replace hP := ite_f h209 hP
     refine c_false E rfl ?_
     refine wp_exit ?_
     refine th_exit ?_
     have hx_ := Option.some.inj hP
     refine th_exit (.inl ⟨1, rfl, ?_⟩)
     exact ⟨rfl, (), E.pick _ trivial, H.sel [] rfl, hx_.symm⟩
    clear E H hL168; intro i_ a w170 hM_
    obtain ⟨rfl, x172, E, H, hx_⟩ := hM_
    subst hx_; have hP := elim_l hK169
    clear hK169
    refine bl_hit ?_
    refine bl_n ?_
    refine th_n ?_
    refine wp_seq ?_
    refine wp_region_lit ?_
    refine vn tbok 1 [] [(8, .bool true)] [] E (by kernel_rfl) (by kernel_rfl) trivial ?_
    clear E; intro a E
    refine wpList_nil ?_
    refine th_n ?_
    refine wp_ret ?_
    obtain rfl := Option.some.inj hP
    refine ret1 E rfl rfl ?_
    exact ⟨_, rfl, rfl, H.sel [] rfl⟩
   replace E := E_; clear E_
   have h211 : ¬ (0 < (List.getD xRanks (Int.toNat q) 0)) := of_decide_eq_false hb_
   clear hb_; replace hP := ite_f h211 hP
   refine c_false E rfl ?_
   refine wp_seq ?_
   refine wp_region_lit ?_
   refine vn tbok 3 [] [(117, .bool (decide ((List.getD xRanks (Int.toNat q) 0) < 0)))] [] E (by kernel_rfl) (by kernel_rfl) trivial ?_
   clear E; intro a E
   refine wpList_nil ?_
   refine th_n ?_
   refine E.cases (t := 117) rfl (fun hb_ E_ => ?_) (fun hb_ E_ => ?_)
   ·
    replace E := E_; clear E_
    have h212 : (List.getD xRanks (Int.toNat q) 0) < 0 := of_decide_eq_true hb_
    clear hb_; replace hP := ite_t h212 hP
    refine c_true E rfl ?_
    refine wp_seq ?_
    obtain ⟨r213, h214, hP⟩ := bind_inv hP
    have HR225 := H
    refine dr_start (S := fun w_ => Chg (atL []) w73 w_) (by kernel_rfl) ?_
    intro w222 hc223
    have HS224 : Chg (atL []) w73 w222 := hc223.mono (fun _ _ h_ => h_.elim)
    replace H := H.ext hc223
    refine dn tbok (by kernel_rfl) [0, 1, 2, 3, 4, 5, 6] [.int .u8 s.1, .slice (some ⟨b63, o64, none⟩) (List.length xChoice) c22, .int .u8 (List.getD xChoice (Int.toNat q) 0)] [(122, .int .u8 s.1), (127, .int .u8 (List.getD xChoice (Int.toNat q) 0))] (fun w_ => [World.cell? w_ ⟨g30, 0, none⟩ = some (.int .u8 s.1), World.cell? w_ ⟨g35, 3, none⟩ = some (.slice (some ⟨b63, o64, none⟩) (List.length xChoice) c22), 0 ≤ q ∧ q < (((List.length xChoice) : Nat) : Int), World.cell? w_ ⟨b63, o64 + (Int.toNat q) * 1, none⟩ = some (.int .u8 (List.getD xChoice (Int.toNat q) 0))]) 6 E (fun _ _ => by kernel_rfl) (by kernel_rfl) (fun w_ hS_ => ⟨(HR225.boxk [] hS_ 7 rfl rfl).cell (j := 0) rfl, (HR225.boxk [] hS_ 8 rfl rfl).cell (j := 3) rfl, g62, Rds.at1 (HR225.rdk [] hS_ 5 rds_ro rfl) 0 g62⟩) (by kernel_rfl) HS224 ?_
    clear E; intro a E
    refine wpAnyH_all (rs := [7]) (by kernel_rfl) (by simp) ?_
    refine all1 ?_
    refine wpOp_of_list rfl ?_
    obtain ⟨Fa226, Hc227, hb228⟩ := H.call [] [] rfl rfl trivial
    refine e_call E rfl rfl Try.func46 rfl rfl rfl (board_Number_calls  s.1 (List.getD xChoice (Int.toNat q) 0)  Hc227 h214) ?_
    rintro v229 w230 a ⟨rfl, HR231⟩ E_
    replace E := E_ _ rfl; clear E_
    obtain ⟨H_, hc232⟩ := hb228 _ _ HR231 rfl
    replace HS224 := HS224.ext (callS_ext hc232)
    replace H := H_; clear H_; try dsimp only [setn, addE, goneL] at H
    refine wpList_nil ?_
    refine th_n ⟨HS224, ?_⟩
    refine dn tbok (by kernel_rfl) [8, 9, 10, 11, 12] [] [(17, .int .i64 r213.1), (18, .int .i64 r213.2)] (fun w_ => []) 0 E (fun _ _ => by kernel_rfl) (by kernel_rfl) (fun w_ hS_ => trivial) (by kernel_rfl) HS224 ?_
    clear E; intro a E
    refine dr_done (by kernel_rfl) ?_
    clear HS224 HR225
    refine th_n ?_
    refine wp_seq ?_
    by_cases h233 : (r213.2 : Int) = 0
    ·
     replace hP := ite_t h233 hP
     obtain ⟨g234, hP⟩ := ask_inv hP
     obtain ⟨b235, e_b235⟩ := H.raddr 10 rfl (idx_pos g234)
     subst e_b235
     obtain ⟨A237, c238, hl239, hk240, H⟩ := H.subSl 10 true (el_row rfl) g234
     try dsimp only [addE] at H
     obtain ⟨r242, h243, hP⟩ := bind_inv hP
     have HR254 := H
     refine dr_start (S := fun w_ => Chg (atL []) w230 w_) (by kernel_rfl) ?_
     intro w251 hc252
     have HS253 : Chg (atL []) w230 w251 := hc252.mono (fun _ _ h_ => h_.elim)
     replace H := H.ext hc252
     refine dn tbok (by kernel_rfl) [0, 1, 2] [] [(133, .bool ((r213.2 : Int) == 0))] (fun w_ => []) 9 E (fun _ _ => by kernel_rfl) (by kernel_rfl) (fun w_ hS_ => trivial) (by kernel_rfl) HS253 ?_
     clear E; intro a E
     replace E := E.same (t := 133) (u := .bool true) rfl (congrArg Value.bool (beq_iff_eq.2 h233))
     refine dn tbok (by kernel_rfl) [3, 4, 5, 6, 7, 8] [.slice A237 (List.length (List.getD r67.1 (Int.toNat r213.1) [])) c238, .slice (some ⟨b41, o42, none⟩) (List.length xRanks) c14] [(137, .slice A237 (List.length (List.getD r67.1 (Int.toNat r213.1) [])) c238), (139, .slice (some ⟨b41, o42, none⟩) (List.length xRanks) c14)] (fun w_ => [0 ≤ r213.1 ∧ r213.1 < (((List.length r67.1) : Nat) : Int), World.cell? w_ ⟨b235, 0 + (Int.toNat r213.1) * 1, none⟩ = some (.slice A237 (List.length (List.getD r67.1 (Int.toNat r213.1) [])) c238), World.cell? w_ ⟨g35, 1, none⟩ = some (.slice (some ⟨b41, o42, none⟩) (List.length xRanks) c14)]) 3 E (fun _ _ => by kernel_rfl) (by kernel_rfl) (fun w_ hS_ => ⟨g234, hS_.cell (hl239) (HR254.blk [] 10 rds_row (idx_pos g234) rfl), (HR254.boxk [] hS_ 8 rfl rfl).cell (j := 1) rfl⟩) (by kernel_rfl) HS253 ?_
     clear E; intro a E
     refine wpAnyH_all (rs := [9]) (by kernel_rfl) (by simp) ?_
     refine all1 ?_
     refine wpOp_of_list rfl ?_
     obtain ⟨Fa255, Hc256, hb257⟩ := H.call [] [(11, false), (3, false)] rfl rfl trivial
     refine e_call E rfl rfl Try.func38 rfl rfl rfl (strat_lost_calls A237 c238 (some ⟨b41, o42, none⟩) c14 (List.getD r67.1 (Int.toNat r213.1) []) xRanks hk240 hk15 Hc256 h243) ?_
     rintro v258 w259 a ⟨rfl, HR260⟩ E_
     replace E := E_ _ rfl; clear E_
     obtain ⟨H_, hc261⟩ := hb257 _ _ HR260 rfl
     replace HS253 := HS253.ext (callS_ext hc261)
     replace H := H_; clear H_; try dsimp only [setn, addE, goneL] at H
     refine wpList_nil ?_
     refine th_n ⟨HS253, ?_⟩
     refine dn tbok (by kernel_rfl) [10, 11] [] [(8, .bool r242)] (fun w_ => []) 0 E (fun _ _ => by kernel_rfl) (by kernel_rfl) (fun w_ hS_ => trivial) (by kernel_rfl) HS253 ?_
     clear E; intro a E
     refine dr_done (by kernel_rfl) ?_
     clear HS253 HR254
     refine th_n ?_
     refine wp_ret ?_
     refine bl_ret ?_
     refine th_ret ?_
     obtain rfl := Option.some.inj hP
     refine ret1 E rfl rfl ?_
     exact ⟨_, rfl, rfl, H.sel [] rfl⟩
    replace hP := ite_f h233 hP
    have HR265 := H
    refine dr_start (S := fun w_ => Chg (atL []) w230 w_) (by kernel_rfl) ?_
    intro w262 hc263
    have HS264 : Chg (atL []) w230 w262 := hc263.mono (fun _ _ h_ => h_.elim)
    replace H := H.ext hc263
    refine dn tbok (by kernel_rfl) [0, 1, 2] [] [(133, .bool ((r213.2 : Int) == 0))] (fun w_ => []) 9 E (fun _ _ => by kernel_rfl) (by kernel_rfl) (fun w_ hS_ => trivial) (by kernel_rfl) HS264 ?_
    clear E; intro a E
    replace E := E.same (t := 133) (u := .bool false) rfl (congrArg Value.bool (beq_eq_false_iff_ne.2 h233))
    refine dn tbok (by kernel_rfl) [3, 4, 5, 6, 7, 8, 9, 10, 11] [] [(8, .bool false)] (fun w_ => []) 0 E (fun _ _ => by kernel_rfl) (by kernel_rfl) (fun w_ hS_ => trivial) (by kernel_rfl) HS264 ?_
    clear E; intro a E
    refine dr_done (by kernel_rfl) ?_
    clear HS264 HR265
    refine th_n ?_
    refine wp_ret ?_
    refine bl_ret ?_
    refine th_ret ?_
    obtain rfl := Option.some.inj hP
    refine ret1 E rfl rfl ?_
    exact ⟨_, rfl, rfl, H.sel [] rfl⟩
   replace E := E_; clear E_
   have h266 : ¬ ((List.getD xRanks (Int.toNat q) 0) < 0) := of_decide_eq_false hb_
   clear hb_; replace hP := ite_f h266 hP
   refine c_false E rfl ?_
   refine wp_skip ?_
   refine bl_n ?_
   refine th_n ?_
   refine wp_seq ?_
   refine wp_region_lit ?_
   refine vn tbok 1 [] [(8, .bool true)] [] E (by kernel_rfl) (by kernel_rfl) trivial ?_
   clear E; intro a E
   refine wpList_nil ?_
   refine th_n ?_
   refine wp_ret ?_
   obtain rfl := Option.some.inj hP
   refine ret1 E rfl rfl ?_
   exact ⟨_, rfl, rfl, H.sel [] rfl⟩
  replace E := E_; clear E_
  have h267 : ¬ (0 ≤ (List.getD xRanks (Int.toNat q) 0)) := of_decide_eq_false hb_
  clear hb_; replace hP := ite_f h267 hP
  refine vn tbok 8 [] [(58, .bool false)] [] E (by kernel_rfl) (by kernel_rfl) trivial ?_
  clear E; intro a E
  refine wpList_nil ?_
  refine th_n ?_
  refine c_false E rfl ?_
  refine wp_skip ?_
  refine th_n ?_
  refine wp_seq ?_
  refine wp_region_lit ?_
  refine vn tbok 3 [.agg #[.int .i64 aProps, .slice (some ⟨b46, o47, none⟩) (List.length aAccept) c2, .slice A5 (List.length aGuard) c6, .slice A9 (List.length aNodes) c10], .agg #[.int .u8 s.1, .int .u8 s.2]] [(60, .agg #[.int .i64 aProps, .slice (some ⟨b46, o47, none⟩) (List.length aAccept) c2, .slice A5 (List.length aGuard) c6, .slice A9 (List.length aNodes) c10]), (61, .agg #[.int .u8 s.1, .int .u8 s.2]), (62, .int .i64 q)] [cellsAt w36 g25 (0) [.int .i64 aProps, .slice (some ⟨b46, o47, none⟩) (List.length aAccept) c2, .slice A5 (List.length aGuard) c6, .slice A9 (List.length aNodes) c10], cellsAt w36 g30 (0) [.int .u8 s.1, .int .u8 s.2]] E (by kernel_rfl) (by kernel_rfl) ⟨(H.box 6 rfl).sub 0 _ rfl, (H.box 7 rfl).sub 0 _ rfl⟩ ?_
  clear E; intro a E
  obtain ⟨r268, h269, hP⟩ := bind_inv hP
  obtain ⟨Fa270, Hc271, hb272⟩ := H.call [] [(0, false), (1, false), (2, false)] rfl rfl trivial
  refine e_call E rfl rfl Try.func34 rfl rfl rfl (board_Goes_calls (some ⟨b46, o47, none⟩) c2 A5 c6 A9 c10 aProps aAccept aGuard aNodes (s.1, s.2) q hk3 hk7 hk11 Hc271 h269) ?_
  rintro v273 w274 a ⟨A277, c278, rfl, HR275⟩ E_
  replace E := E_ _ rfl; clear E_
  obtain ⟨H_, hc276⟩ := hb272 _ _ HR275 rfl
  replace H := H_; clear H_; try dsimp only [setn, addE, goneL] at H
  refine vn tbok 5 [] [(10, .slice A277 (List.length r268.1) c278)] [] E (by kernel_rfl) (by kernel_rfl) trivial ?_
  clear E; intro a E
  refine wpList_nil ?_
  refine th_n ?_
  refine wp_seq ?_
  refine wp_block ?_
  refine wp_seq ?_
  refine wp_region_lit ?_
  refine vn tbok 3 [] [(66, .bool (decide (0 < (List.getD xRanks (Int.toNat q) 0))))] [] E (by kernel_rfl) (by kernel_rfl) trivial ?_
  clear E; intro a E
  refine wpList_nil ?_
  refine th_n ?_
  refine E.cases (t := 66) rfl (fun hb_ E_ => ?_) (fun hb_ E_ => ?_)
  ·
   replace E := E_; clear E_
   have h280 : 0 < (List.getD xRanks (Int.toNat q) 0) := of_decide_eq_true hb_
   clear hb_; replace hP := ite_t h280 hP
   refine c_true E rfl ?_
   refine wp_seq ?_
   refine wp_seq ?_
   refine wp_region_lit ?_
   obtain ⟨A281, c282, hl283, hk284, H⟩ := H.subSl 4 false (el_ro rfl) g51
   try dsimp only [addE] at H
   refine vn tbok 9 [.slice (some ⟨b52, o53, none⟩) (List.length xReply) c18, .slice A281 (List.length (List.getD xReply (Int.toNat q) [])) c282] [(77, .bool (((((List.length (List.getD xReply (Int.toNat q) [])) : Nat) : Int) : Int) != (((List.length r268.1) : Nat) : Int)))] [World.cell? w274 ⟨g35, 2, none⟩ = some (.slice (some ⟨b52, o53, none⟩) (List.length xReply) c18), 0 ≤ q ∧ q < (((List.length xReply) : Nat) : Int), World.cell? w274 ⟨b52, o53 + (Int.toNat q) * 1, none⟩ = some (.slice A281 (List.length (List.getD xReply (Int.toNat q) [])) c282)] E (by kernel_rfl) (by kernel_rfl) ⟨(H.box 8 rfl).cell (j := 2) rfl, g51, hl283⟩ ?_
   clear E; intro a E
   refine wpList_nil ?_
   refine th_n ?_
   refine E.cases (t := 77) rfl (fun hb_ E_ => ?_) (fun hb_ E_ => ?_)
   ·
    replace E := E_; clear E_
    have h286 : ¬ (((((List.length (List.getD xReply (Int.toNat q) [])) : Nat) : Int) : Int) = (((List.length r268.1) : Nat) : Int)) := bne_iff_ne.1 hb_
    clear hb_; replace hP := ite_f h286 hP
    refine c_true E rfl ?_
    refine wp_seq ?_
    refine wp_region_lit ?_
    refine vn tbok 1 [] [(8, .bool false)] [] E (by kernel_rfl) (by kernel_rfl) trivial ?_
    clear E; intro a E
    refine wpList_nil ?_
    refine th_n ?_
    refine wp_ret ?_
    refine th_ret ?_
    refine bl_ret ?_
    refine th_ret ?_
    obtain rfl := Option.some.inj hP
    refine ret1 E rfl rfl ?_
    exact ⟨_, rfl, rfl, H.sel [] rfl⟩
   replace E := E_; clear E_
   have h287 : ((((List.length (List.getD xReply (Int.toNat q) [])) : Nat) : Int) : Int) = (((List.length r268.1) : Nat) : Int) := bne_eq_false_iff_eq.1 hb_
   clear hb_; replace hP := ite_t h287 hP
   refine c_false E rfl ?_
   refine wp_skip ?_
   refine th_n ?_
   refine wp_seq ?_
   refine wp_region_lit ?_
   obtain ⟨A288, c289, hl290, hk291, H⟩ := H.subSl 4 false (el_ro rfl) g51
   try dsimp only [addE] at H
   refine vn tbok 7 [.slice (some ⟨b52, o53, none⟩) (List.length xReply) c18, .slice A288 (List.length (List.getD xReply (Int.toNat q) [])) c289] [(82, .slice A288 (List.length (List.getD xReply (Int.toNat q) [])) c289), (83, .int .i64 (((List.length (List.getD xReply (Int.toNat q) [])) : Nat) : Int)), (84, .int .i64 0)] [World.cell? w274 ⟨g35, 2, none⟩ = some (.slice (some ⟨b52, o53, none⟩) (List.length xReply) c18), 0 ≤ q ∧ q < (((List.length xReply) : Nat) : Int), World.cell? w274 ⟨b52, o53 + (Int.toNat q) * 1, none⟩ = some (.slice A288 (List.length (List.getD xReply (Int.toNat q) [])) c289)] E (by kernel_rfl) (by kernel_rfl) ⟨(H.box 8 rfl).cell (j := 2) rfl, g51, hl290⟩ ?_
   clear E; intro a E
   refine wpList_nil ?_
   refine th_n ?_
   refine wp_block ?_
   obtain ⟨x368, hL369, hK370⟩ := bind_inv hP
   clear hP
   refine loop_cut (fun i_ a w_ => (i_ = 1 ∧ ∃ (x373 : Unit), Fr a 142 [] ∧ Hp S Fa w0 w_ [] ∧ x368 = Sum.inl x373)) ?_ ?_
   ·
    refine loopV (fun m372 a w371 => ∃ (x329 : Int), Fr a 142 [(5, .pointer (some ⟨g30, 0, none⟩)), (6, .pointer (some ⟨g35, 0, none⟩)), (9, .int .i64 (List.getD xRanks (Int.toNat q) 0)), (10, .slice A277 (List.length r268.1) c278), (82, .slice A288 (List.length (List.getD xReply (Int.toNat q) [])) c289), (83, .int .i64 (((List.length (List.getD xReply (Int.toNat q) [])) : Nat) : Int)), (84, .int .i64 x329)] ∧ Hp S Fa w0 w371 [.box g30 29 [.int .u8 s.1, .int .u8 s.2], .ro false (cInt .i64) (some ⟨b41, o42, none⟩) xRanks, .ro false (cSl (cInt .u8)) (some ⟨b52, o53, none⟩) xReply, .ro false (cInt .u8) A21 xChoice, .box g35 33 [.bool xWins, .slice (some ⟨b41, o42, none⟩) (List.length xRanks) c14, .slice (some ⟨b52, o53, none⟩) (List.length xReply) c18, .slice A21 (List.length xChoice) c22], .row true (cSl (cInt .i64)) 23 A277 c278 r268.1, .ro false (cInt .u8) A288 (List.getD xReply (Int.toNat q) [])] ∧ strat_state_l1 N s xRanks xReply q r268 m372 x329 = some x368) N ?_ ?_
    ·
     exact ⟨0, E.pick _ ⟨rfl, rfl, rfl, rfl, rfl, rfl, rfl, trivial⟩, H.sel [7, 3, 4, 5, 8, 10, 12] rfl, hL369⟩
    clear E H hL369; intro m372 a w371 hI_
    obtain ⟨x329, E, H, hP⟩ := hI_
    obtain ⟨m367, rfl⟩ : ∃ q_, m372 = q_ + 1 := by cases m372 with | zero => rw [strat_state_l1] at hP; cases hP | succ q_ => exact ⟨q_, rfl⟩
    rw [strat_state_l1] at hP
    refine wp_seq ?_
    refine wp_region_lit ?_
    refine vn tbok 1 [] [(85, .bool (decide (x329 < (((List.length (List.getD xReply (Int.toNat q) [])) : Nat) : Int))))] [] E (by kernel_rfl) (by kernel_rfl) trivial ?_
    clear E; intro a E
    refine wpList_nil ?_
    refine th_n ?_
    refine wp_seq ?_
    refine E.cases (t := 85) rfl (fun hb_ E_ => ?_) (fun hb_ E_ => ?_)
    ·
     replace E := E_; clear E_
     have h374 : x329 < (((List.length (List.getD xReply (Int.toNat q) [])) : Nat) : Int) := of_decide_eq_true hb_
     clear hb_; replace hP := ite_t h374 hP
     refine c_true E rfl ?_
     refine wp_skip ?_
     refine th_n ?_
     refine wp_seq ?_
     refine wp_block ?_
     refine wp_seq ?_
     refine wp_region_lit ?_
     obtain ⟨g375, hP⟩ := ask_inv hP
     obtain ⟨b376, o377, e_b376⟩ := (H.rd 6 rds_ro).addr (idx_pos g375)
     subst e_b376
     refine vn tbok 5 [.int .u8 (List.getD (List.getD xReply (Int.toNat q) []) (Int.toNat x329) 0)] [(12, .int .i64 x329), (13, .int .u8 (List.getD (List.getD xReply (Int.toNat q) []) (Int.toNat x329) 0))] [0 ≤ x329 ∧ x329 < (((List.length (List.getD xReply (Int.toNat q) [])) : Nat) : Int), World.cell? w371 ⟨b376, o377 + (Int.toNat x329) * 1, none⟩ = some (.int .u8 (List.getD (List.getD xReply (Int.toNat q) []) (Int.toNat x329) 0))] E (by kernel_rfl) (by kernel_rfl) ⟨g375, Rds.at1 (H.rd 6 rds_ro) 0 g375⟩ ?_
     clear E; intro a E
     refine wpList_nil ?_
     refine th_n ?_
     refine wp_seq ?_
     refine wp_region_lit ?_
     refine vn tbok 3 [.int .u8 s.2] [(91, .int .u8 s.2), (92, .int .u8 (List.getD (List.getD xReply (Int.toNat q) []) (Int.toNat x329) 0))] [World.cell? w371 ⟨g30, 1, none⟩ = some (.int .u8 s.2)] E (by kernel_rfl) (by kernel_rfl) ((H.box 0 rfl).cell (j := 1) rfl) ?_
     clear E; intro a E
     obtain ⟨r378, h379, hP⟩ := bind_inv hP
     obtain ⟨Fa380, Hc381, hb382⟩ := H.call [] [] rfl rfl trivial
     refine e_call E rfl rfl Try.func46 rfl rfl rfl (board_Number_calls  s.2 (List.getD (List.getD xReply (Int.toNat q) []) (Int.toNat x329) 0)  Hc381 h379) ?_
     rintro v383 w384 a ⟨rfl, HR385⟩ E_
     replace E := E_ _ rfl; clear E_
     obtain ⟨H_, hc386⟩ := hb382 _ _ HR385 rfl
     replace H := H_; clear H_; try dsimp only [setn, addE, goneL] at H
     refine vn tbok 5 [] [(14, .int .i64 r378.1), (15, .int .i64 r378.2)] [] E (by kernel_rfl) (by kernel_rfl) trivial ?_
     clear E; intro a E
     refine wpList_nil ?_
     refine th_n ?_
     refine wp_seq ?_
     refine wp_seq ?_
     refine wp_region_lit ?_
     refine vn tbok 2 [] [(97, .bool ((r378.2 : Int) != 0))] [] E (by kernel_rfl) (by kernel_rfl) trivial ?_
     clear E; intro a E
     refine wpList_nil ?_
     refine th_n ?_
     refine E.cases (t := 97) rfl (fun hb_ E_ => ?_) (fun hb_ E_ => ?_)
     ·
      replace E := E_; clear E_
      have h387 : ¬ ((r378.2 : Int) = 0) := bne_iff_ne.1 hb_
      clear hb_; replace hP := ite_f h387 hP
      refine c_true E rfl ?_
      refine wp_seq ?_
      refine wp_region_lit ?_
      refine vn tbok 1 [] [(8, .bool false)] [] E (by kernel_rfl) (by kernel_rfl) trivial ?_
      clear E; intro a E
      refine wpList_nil ?_
      refine th_n ?_
      refine wp_ret ?_
      refine th_ret ?_
      refine bl_ret ?_
      refine th_ret ?_
      refine th_ret ?_
      refine .inr ⟨rfl, ?_⟩
      refine bl_ret ?_
      refine bl_ret ?_
      refine th_ret ?_
      have hx_ := Option.some.inj hP; subst hx_
      have hP : some (false) = some r := hK370
      obtain rfl := Option.some.inj hP
      refine ret1 E rfl rfl ?_
      exact ⟨_, rfl, rfl, H.sel [] rfl⟩
     replace E := E_; clear E_
     have h388 : (r378.2 : Int) = 0 := bne_eq_false_iff_eq.1 hb_
     clear hb_; replace hP := ite_t h388 hP
     refine c_false E rfl ?_
     refine wp_skip ?_
     refine th_n ?_
     refine wp_seq ?_
     obtain ⟨g389, hP⟩ := ask_inv hP
     obtain ⟨b390, e_b390⟩ := H.raddr 5 rfl (idx_pos g389)
     subst e_b390
     obtain ⟨A392, c393, hl394, hk395, H⟩ := H.subSl 5 true (el_row rfl) g389
     try dsimp only [addE] at H
     obtain ⟨g397, hP⟩ := ask_inv hP
     obtain ⟨b398, o399, e_b398⟩ := (H.rd 7 rds_ro).addr (idx_pos g397)
     subst e_b398
     obtain ⟨g400, hP⟩ := ask_inv hP
     have HR404 := H
     refine dr_start (S := fun w_ => Chg (atL []) w384 w_) (by kernel_rfl) ?_
     intro w401 hc402
     have HS403 : Chg (atL []) w384 w401 := hc402.mono (fun _ _ h_ => h_.elim)
     replace H := H.ext hc402
     refine dn tbok (by kernel_rfl) [0, 1, 2, 3, 4, 5, 6, 7, 8, 9, 10, 11] [.slice (some ⟨b41, o42, none⟩) (List.length xRanks) c14, .slice (some ⟨b398, o399, none⟩) (List.length (List.getD r268.1 (Int.toNat x329) [])) c393, .int .i64 (List.getD (List.getD r268.1 (Int.toNat x329) []) (Int.toNat r378.1) 0), .int .i64 (List.getD xRanks (Int.toNat (List.getD (List.getD r268.1 (Int.toNat x329) []) (Int.toNat r378.1) 0)) 0)] [(16, .int .i64 (List.getD xRanks (Int.toNat (List.getD (List.getD r268.1 (Int.toNat x329) []) (Int.toNat r378.1) 0)) 0))] (fun w_ => [World.cell? w_ ⟨g35, 1, none⟩ = some (.slice (some ⟨b41, o42, none⟩) (List.length xRanks) c14), 0 ≤ x329 ∧ x329 < (((List.length r268.1) : Nat) : Int), World.cell? w_ ⟨b390, 0 + (Int.toNat x329) * 1, none⟩ = some (.slice (some ⟨b398, o399, none⟩) (List.length (List.getD r268.1 (Int.toNat x329) [])) c393), 0 ≤ r378.1 ∧ r378.1 < (((List.length (List.getD r268.1 (Int.toNat x329) [])) : Nat) : Int), World.cell? w_ ⟨b398, o399 + (Int.toNat r378.1) * 1, none⟩ = some (.int .i64 (List.getD (List.getD r268.1 (Int.toNat x329) []) (Int.toNat r378.1) 0)), 0 ≤ (List.getD (List.getD r268.1 (Int.toNat x329) []) (Int.toNat r378.1) 0) ∧ (List.getD (List.getD r268.1 (Int.toNat x329) []) (Int.toNat r378.1) 0) < (((List.length xRanks) : Nat) : Int), World.cell? w_ ⟨b41, o42 + (Int.toNat (List.getD (List.getD r268.1 (Int.toNat x329) []) (Int.toNat r378.1) 0)) * 1, none⟩ = some (.int .i64 (List.getD xRanks (Int.toNat (List.getD (List.getD r268.1 (Int.toNat x329) []) (Int.toNat r378.1) 0)) 0))]) 0 E (fun _ _ => by kernel_rfl) (by kernel_rfl) (fun w_ hS_ => ⟨(HR404.boxk [] hS_ 4 rfl rfl).cell (j := 1) rfl, g389, hS_.cell (hl394) (HR404.blk [] 5 rds_row (idx_pos g389) rfl), g397, Rds.at1 (HR404.rdk [] hS_ 7 rds_ro rfl) 0 g397, g400, Rds.at1 (HR404.rdk [] hS_ 1 rds_ro rfl) 0 g400⟩) (by kernel_rfl) HS403 ?_
     clear E; intro a E
     refine dr_done (by kernel_rfl) ?_
     clear HS403 HR404
     refine th_n ?_
     refine wp_seq ?_
     refine wp_region_lit ?_
     refine vn tbok 3 [] [(111, .bool (decide ((List.getD xRanks (Int.toNat (List.getD (List.getD r268.1 (Int.toNat x329) []) (Int.toNat r378.1) 0)) 0) < 0)))] [] E (by kernel_rfl) (by kernel_rfl) trivial ?_
     clear E; intro a E
     refine E.cases (t := 111) rfl (fun hb_ E_ => ?_) (fun hb_ E_ => ?_)
     ·
      replace E := E_; clear E_
      have h405 : (List.getD xRanks (Int.toNat (List.getD (List.getD r268.1 (Int.toNat x329) []) (Int.toNat r378.1) 0)) 0) < 0 := of_decide_eq_true hb_
      clear hb_; replace hP := ite_t h405 hP
      refine vn tbok 4 [] [(115, .bool true)] [] E (by kernel_rfl) (by kernel_rfl) trivial ?_
      clear E; intro a E
      refine wpList_nil ?_
      refine th_n ?_
      refine c_true E rfl ?_
      refine wp_seq ?_
      refine wp_region_lit ?_
      refine vn tbok 1 [] [(8, .bool false)] [] E (by kernel_rfl) (by kernel_rfl) trivial ?_
      clear E; intro a E
      refine wpList_nil ?_
      refine th_n ?_
      refine wp_ret ?_
      refine bl_ret ?_
      refine th_ret ?_
      refine th_ret ?_
      refine .inr ⟨rfl, ?_⟩
      refine bl_ret ?_
      refine bl_ret ?_
      refine th_ret ?_
      have hx_ := Option.some.inj hP; subst hx_
      have hP : some (false) = some r := hK370
      obtain rfl := Option.some.inj hP
      refine ret1 E rfl rfl ?_
      exact ⟨_, rfl, rfl, H.sel [] rfl⟩
     replace E := E_; clear E_
     have h406 : ¬ ((List.getD xRanks (Int.toNat (List.getD (List.getD r268.1 (Int.toNat x329) []) (Int.toNat r378.1) 0)) 0) < 0) := of_decide_eq_false hb_
     clear hb_; replace hP := ite_f h406 hP
     refine vn tbok 4 [] [(115, .bool (decide ((List.getD xRanks (Int.toNat q) 0) ≤ (List.getD xRanks (Int.toNat (List.getD (List.getD r268.1 (Int.toNat x329) []) (Int.toNat r378.1) 0)) 0))))] [] E (by kernel_rfl) (by kernel_rfl) trivial ?_
     clear E; intro a E
     refine wpList_nil ?_
     refine th_n ?_
     refine E.cases (t := 115) rfl (fun hb_ E_ => ?_) (fun hb_ E_ => ?_)
     ·
      replace E := E_; clear E_
      have h407 : (List.getD xRanks (Int.toNat q) 0) ≤ (List.getD xRanks (Int.toNat (List.getD (List.getD r268.1 (Int.toNat x329) []) (Int.toNat r378.1) 0)) 0) := of_decide_eq_true hb_
      clear hb_; replace hP := ite_t h407 hP
      refine c_true E rfl ?_
      refine wp_seq ?_
      refine wp_region_lit ?_
      refine vn tbok 1 [] [(8, .bool false)] [] E (by kernel_rfl) (by kernel_rfl) trivial ?_
      clear E; intro a E
      refine wpList_nil ?_
      refine th_n ?_
      refine wp_ret ?_
      refine bl_ret ?_
      refine th_ret ?_
      refine th_ret ?_
      refine .inr ⟨rfl, ?_⟩
      refine bl_ret ?_
      refine bl_ret ?_
      refine th_ret ?_
      have hx_ := Option.some.inj hP; subst hx_
      have hP : some (false) = some r := hK370
      obtain rfl := Option.some.inj hP
      refine ret1 E rfl rfl ?_
      exact ⟨_, rfl, rfl, H.sel [] rfl⟩
     replace E := E_; clear E_
     have h408 : ¬ ((List.getD xRanks (Int.toNat q) 0) ≤ (List.getD xRanks (Int.toNat (List.getD (List.getD r268.1 (Int.toNat x329) []) (Int.toNat r378.1) 0)) 0)) := of_decide_eq_false hb_
     clear hb_; replace hP := ite_f h408 hP
     refine c_false E rfl ?_
     refine wp_skip ?_
     refine bl_n ?_
     refine th_n ?_
     refine wp_region_lit ?_
     obtain ⟨g409, hP⟩ := ask_inv hP
     refine vn tbok 2 [.int .i64 (x329 + 1)] [(84, .int .i64 (x329 + 1))] [IntKind.i64.wrap (x329 + 1) = x329 + 1] E (by kernel_rfl) (by kernel_rfl) (wrap_in g409) ?_
     clear E; intro a E
     refine wpList_nil ?_
     exact th_n ⟨m367, Nat.lt_succ_self _, x329 + 1, E.pick _ ⟨rfl, rfl, rfl, rfl, rfl, rfl, rfl, trivial⟩, H.sel [0, 1, 2, 3, 4, 5, 6] rfl, hP⟩
    replace E := E_; clear E_
    have h410 : ¬ (x329 < (((List.length (List.getD xReply (Int.toNat q) [])) : Nat) : Int)) := of_decide_eq_false hb_
    clear hb_; replace hP := ite_f h410 hP
    refine c_false E rfl ?_
    refine wp_exit ?_
    refine th_exit ?_
    have hx_ := Option.some.inj hP
    refine th_exit (.inl ⟨1, rfl, ?_⟩)
    exact ⟨rfl, (), E.pick _ trivial, H.sel [] rfl, hx_.symm⟩
   clear E H hL369; intro i_ a w371 hM_
   obtain ⟨rfl, x373, E, H, hx_⟩ := hM_
   subst hx_; have hP := elim_l hK370
   clear hK370
   refine bl_hit ?_
   refine bl_n ?_
   refine th_n ?_
   refine wp_seq ?_
   refine wp_region_lit ?_
   refine vn tbok 1 [] [(8, .bool true)] [] E (by kernel_rfl) (by kernel_rfl) trivial ?_
   clear E; intro a E
   refine wpList_nil ?_
   refine th_n ?_
   refine wp_ret ?_
   obtain rfl := Option.some.inj hP
   refine ret1 E rfl rfl ?_
   exact ⟨_, rfl, rfl, H.sel [] rfl⟩
  replace E := E_; clear E_
  have h412 : ¬ (0 < (List.getD xRanks (Int.toNat q) 0)) := of_decide_eq_false hb_
  clear hb_; replace hP := ite_f h412 hP
  refine c_false E rfl ?_
  refine wp_seq ?_
  refine wp_region_lit ?_
  refine vn tbok 3 [] [(117, .bool (decide ((List.getD xRanks (Int.toNat q) 0) < 0)))] [] E (by kernel_rfl) (by kernel_rfl) trivial ?_
  clear E; intro a E
  refine wpList_nil ?_
  refine th_n ?_
  refine E.cases (t := 117) rfl (fun hb_ E_ => ?_) (fun hb_ E_ => ?_)
  ·
   replace E := E_; clear E_
   have h413 : (List.getD xRanks (Int.toNat q) 0) < 0 := of_decide_eq_true hb_
   clear hb_; replace hP := ite_t h413 hP
   refine c_true E rfl ?_
   refine wp_seq ?_
   obtain ⟨g414, hP⟩ := ask_inv hP
   obtain ⟨b415, o416, e_b415⟩ := (H.rd 5 rds_ro).addr (idx_pos g414)
   subst e_b415
   obtain ⟨r417, h418, hP⟩ := bind_inv hP
   have HR429 := H
   refine dr_start (S := fun w_ => Chg (atL []) w274 w_) (by kernel_rfl) ?_
   intro w426 hc427
   have HS428 : Chg (atL []) w274 w426 := hc427.mono (fun _ _ h_ => h_.elim)
   replace H := H.ext hc427
   refine dn tbok (by kernel_rfl) [0, 1, 2, 3, 4, 5, 6] [.int .u8 s.1, .slice (some ⟨b415, o416, none⟩) (List.length xChoice) c22, .int .u8 (List.getD xChoice (Int.toNat q) 0)] [(122, .int .u8 s.1), (127, .int .u8 (List.getD xChoice (Int.toNat q) 0))] (fun w_ => [World.cell? w_ ⟨g30, 0, none⟩ = some (.int .u8 s.1), World.cell? w_ ⟨g35, 3, none⟩ = some (.slice (some ⟨b415, o416, none⟩) (List.length xChoice) c22), 0 ≤ q ∧ q < (((List.length xChoice) : Nat) : Int), World.cell? w_ ⟨b415, o416 + (Int.toNat q) * 1, none⟩ = some (.int .u8 (List.getD xChoice (Int.toNat q) 0))]) 6 E (fun _ _ => by kernel_rfl) (by kernel_rfl) (fun w_ hS_ => ⟨(HR429.boxk [] hS_ 7 rfl rfl).cell (j := 0) rfl, (HR429.boxk [] hS_ 8 rfl rfl).cell (j := 3) rfl, g414, Rds.at1 (HR429.rdk [] hS_ 5 rds_ro rfl) 0 g414⟩) (by kernel_rfl) HS428 ?_
   clear E; intro a E
   refine wpAnyH_all (rs := [7]) (by kernel_rfl) (by simp) ?_
   refine all1 ?_
   refine wpOp_of_list rfl ?_
   obtain ⟨Fa430, Hc431, hb432⟩ := H.call [] [] rfl rfl trivial
   refine e_call E rfl rfl Try.func46 rfl rfl rfl (board_Number_calls  s.1 (List.getD xChoice (Int.toNat q) 0)  Hc431 h418) ?_
   rintro v433 w434 a ⟨rfl, HR435⟩ E_
   replace E := E_ _ rfl; clear E_
   obtain ⟨H_, hc436⟩ := hb432 _ _ HR435 rfl
   replace HS428 := HS428.ext (callS_ext hc436)
   replace H := H_; clear H_; try dsimp only [setn, addE, goneL] at H
   refine wpList_nil ?_
   refine th_n ⟨HS428, ?_⟩
   refine dn tbok (by kernel_rfl) [8, 9, 10, 11, 12] [] [(17, .int .i64 r417.1), (18, .int .i64 r417.2)] (fun w_ => []) 0 E (fun _ _ => by kernel_rfl) (by kernel_rfl) (fun w_ hS_ => trivial) (by kernel_rfl) HS428 ?_
   clear E; intro a E
   refine dr_done (by kernel_rfl) ?_
   clear HS428 HR429
   refine th_n ?_
   refine wp_seq ?_
   by_cases h437 : (r417.2 : Int) = 0
   ·
    replace hP := ite_t h437 hP
    obtain ⟨g438, hP⟩ := ask_inv hP
    obtain ⟨b439, e_b439⟩ := H.raddr 10 rfl (idx_pos g438)
    subst e_b439
    obtain ⟨A441, c442, hl443, hk444, H⟩ := H.subSl 10 true (el_row rfl) g438
    try dsimp only [addE] at H
    obtain ⟨r446, h447, hP⟩ := bind_inv hP
    have HR458 := H
    refine dr_start (S := fun w_ => Chg (atL []) w434 w_) (by kernel_rfl) ?_
    intro w455 hc456
    have HS457 : Chg (atL []) w434 w455 := hc456.mono (fun _ _ h_ => h_.elim)
    replace H := H.ext hc456
    refine dn tbok (by kernel_rfl) [0, 1, 2] [] [(133, .bool ((r417.2 : Int) == 0))] (fun w_ => []) 9 E (fun _ _ => by kernel_rfl) (by kernel_rfl) (fun w_ hS_ => trivial) (by kernel_rfl) HS457 ?_
    clear E; intro a E
    replace E := E.same (t := 133) (u := .bool true) rfl (congrArg Value.bool (beq_iff_eq.2 h437))
    refine dn tbok (by kernel_rfl) [3, 4, 5, 6, 7, 8] [.slice A441 (List.length (List.getD r268.1 (Int.toNat r417.1) [])) c442, .slice (some ⟨b41, o42, none⟩) (List.length xRanks) c14] [(137, .slice A441 (List.length (List.getD r268.1 (Int.toNat r417.1) [])) c442), (139, .slice (some ⟨b41, o42, none⟩) (List.length xRanks) c14)] (fun w_ => [0 ≤ r417.1 ∧ r417.1 < (((List.length r268.1) : Nat) : Int), World.cell? w_ ⟨b439, 0 + (Int.toNat r417.1) * 1, none⟩ = some (.slice A441 (List.length (List.getD r268.1 (Int.toNat r417.1) [])) c442), World.cell? w_ ⟨g35, 1, none⟩ = some (.slice (some ⟨b41, o42, none⟩) (List.length xRanks) c14)]) 3 E (fun _ _ => by kernel_rfl) (by kernel_rfl) (fun w_ hS_ => ⟨g438, hS_.cell (hl443) (HR458.blk [] 10 rds_row (idx_pos g438) rfl), (HR458.boxk [] hS_ 8 rfl rfl).cell (j := 1) rfl⟩) (by kernel_rfl) HS457 ?_
    clear E; intro a E
    refine wpAnyH_all (rs := [9]) (by kernel_rfl) (by simp) ?_
    refine all1 ?_
    refine wpOp_of_list rfl ?_
    obtain ⟨Fa459, Hc460, hb461⟩ := H.call [] [(11, false), (3, false)] rfl rfl trivial
    refine e_call E rfl rfl Try.func38 rfl rfl rfl (strat_lost_calls A441 c442 (some ⟨b41, o42, none⟩) c14 (List.getD r268.1 (Int.toNat r417.1) []) xRanks hk444 hk15 Hc460 h447) ?_
    rintro v462 w463 a ⟨rfl, HR464⟩ E_
    replace E := E_ _ rfl; clear E_
    obtain ⟨H_, hc465⟩ := hb461 _ _ HR464 rfl
    replace HS457 := HS457.ext (callS_ext hc465)
    replace H := H_; clear H_; try dsimp only [setn, addE, goneL] at H
    refine wpList_nil ?_
    refine th_n ⟨HS457, ?_⟩
    refine dn tbok (by kernel_rfl) [10, 11] [] [(8, .bool r446)] (fun w_ => []) 0 E (fun _ _ => by kernel_rfl) (by kernel_rfl) (fun w_ hS_ => trivial) (by kernel_rfl) HS457 ?_
    clear E; intro a E
    refine dr_done (by kernel_rfl) ?_
    clear HS457 HR458
    refine th_n ?_
    refine wp_ret ?_
    refine bl_ret ?_
    refine th_ret ?_
    obtain rfl := Option.some.inj hP
    refine ret1 E rfl rfl ?_
    exact ⟨_, rfl, rfl, H.sel [] rfl⟩
   replace hP := ite_f h437 hP
   have HR469 := H
   refine dr_start (S := fun w_ => Chg (atL []) w434 w_) (by kernel_rfl) ?_
   intro w466 hc467
   have HS468 : Chg (atL []) w434 w466 := hc467.mono (fun _ _ h_ => h_.elim)
   replace H := H.ext hc467
   refine dn tbok (by kernel_rfl) [0, 1, 2] [] [(133, .bool ((r417.2 : Int) == 0))] (fun w_ => []) 9 E (fun _ _ => by kernel_rfl) (by kernel_rfl) (fun w_ hS_ => trivial) (by kernel_rfl) HS468 ?_
   clear E; intro a E
   replace E := E.same (t := 133) (u := .bool false) rfl (congrArg Value.bool (beq_eq_false_iff_ne.2 h437))
   refine dn tbok (by kernel_rfl) [3, 4, 5, 6, 7, 8, 9, 10, 11] [] [(8, .bool false)] (fun w_ => []) 0 E (fun _ _ => by kernel_rfl) (by kernel_rfl) (fun w_ hS_ => trivial) (by kernel_rfl) HS468 ?_
   clear E; intro a E
   refine dr_done (by kernel_rfl) ?_
   clear HS468 HR469
   refine th_n ?_
   refine wp_ret ?_
   refine bl_ret ?_
   refine th_ret ?_
   obtain rfl := Option.some.inj hP
   refine ret1 E rfl rfl ?_
   exact ⟨_, rfl, rfl, H.sel [] rfl⟩
  replace E := E_; clear E_
  have h470 : ¬ ((List.getD xRanks (Int.toNat q) 0) < 0) := of_decide_eq_false hb_
  clear hb_; replace hP := ite_f h470 hP
  refine c_false E rfl ?_
  refine wp_skip ?_
  refine bl_n ?_
  refine th_n ?_
  refine wp_seq ?_
  refine wp_region_lit ?_
  refine vn tbok 1 [] [(8, .bool true)] [] E (by kernel_rfl) (by kernel_rfl) trivial ?_
  clear E; intro a E
  refine wpList_nil ?_
  refine th_n ?_
  refine wp_ret ?_
  obtain rfl := Option.some.inj hP
  refine ret1 E rfl rfl ?_
  exact ⟨_, rfl, rfl, H.sel [] rfl⟩
 replace E := E_; clear E_
 have h471 : ¬ ((List.getD xRanks (Int.toNat q) 0) ≤ 0) := of_decide_eq_false hb_
 clear hb_; replace hP := ite_f h471 hP
 refine vn tbok 12 [] [(47, .bool false), (50, .bool (decide (0 ≤ (List.getD xRanks (Int.toNat q) 0))))] [] E (by kernel_rfl) (by kernel_rfl) trivial ?_
 clear E; intro a E
 refine E.cases (t := 50) rfl (fun hb_ E_ => ?_) (fun hb_ E_ => ?_)
 ·
  replace E := E_; clear E_
  have h472 : 0 ≤ (List.getD xRanks (Int.toNat q) 0) := of_decide_eq_true hb_
  clear hb_; replace hP := ite_t h472 hP
  obtain ⟨g473, hP⟩ := ask_inv hP
  obtain ⟨b474, o475, e_b474⟩ := (H.rd 5 rds_ro).addr (idx_pos g473)
  subst e_b474
  refine vn tbok 8 [.slice (some ⟨b474, o475, none⟩) (List.length xChoice) c22, .int .u8 (List.getD xChoice (Int.toNat q) 0)] [(58, .bool (((List.getD xChoice (Int.toNat q) 0) : Int) != 0))] [World.cell? w36 ⟨g35, 3, none⟩ = some (.slice (some ⟨b474, o475, none⟩) (List.length xChoice) c22), 0 ≤ q ∧ q < (((List.length xChoice) : Nat) : Int), World.cell? w36 ⟨b474, o475 + (Int.toNat q) * 1, none⟩ = some (.int .u8 (List.getD xChoice (Int.toNat q) 0))] E (by kernel_rfl) (by kernel_rfl) ⟨(H.box 8 rfl).cell (j := 3) rfl, g473, Rds.at1 (H.rd 5 rds_ro) 0 g473⟩ ?_
  clear E; intro a E
  refine wpList_nil ?_
  refine th_n ?_
  refine E.cases (t := 58) rfl (fun hb_ E_ => ?_) (fun hb_ E_ => ?_)
  ·
   replace E := E_; clear E_
   have h476 : ¬ (((List.getD xChoice (Int.toNat q) 0) : Int) = 0) := bne_iff_ne.1 hb_
   clear hb_; replace hP := ite_f h476 hP
   refine c_true E rfl ?_
   refine wp_seq ?_
   refine wp_region_lit ?_
   refine vn tbok 1 [] [(8, .bool false)] [] E (by kernel_rfl) (by kernel_rfl) trivial ?_
   clear E; intro a E
   refine wpList_nil ?_
   refine th_n ?_
   refine wp_ret ?_
   refine th_ret ?_
   obtain rfl := Option.some.inj hP
   refine ret1 E rfl rfl ?_
   exact ⟨_, rfl, rfl, H.sel [] rfl⟩
  replace E := E_; clear E_
  have h477 : ((List.getD xChoice (Int.toNat q) 0) : Int) = 0 := bne_eq_false_iff_eq.1 hb_
  clear hb_; replace hP := ite_t h477 hP
  refine c_false E rfl ?_
  refine wp_skip ?_
  refine th_n ?_
  refine wp_seq ?_
  refine wp_region_lit ?_
  refine vn tbok 3 [.agg #[.int .i64 aProps, .slice (some ⟨b46, o47, none⟩) (List.length aAccept) c2, .slice A5 (List.length aGuard) c6, .slice A9 (List.length aNodes) c10], .agg #[.int .u8 s.1, .int .u8 s.2]] [(60, .agg #[.int .i64 aProps, .slice (some ⟨b46, o47, none⟩) (List.length aAccept) c2, .slice A5 (List.length aGuard) c6, .slice A9 (List.length aNodes) c10]), (61, .agg #[.int .u8 s.1, .int .u8 s.2]), (62, .int .i64 q)] [cellsAt w36 g25 (0) [.int .i64 aProps, .slice (some ⟨b46, o47, none⟩) (List.length aAccept) c2, .slice A5 (List.length aGuard) c6, .slice A9 (List.length aNodes) c10], cellsAt w36 g30 (0) [.int .u8 s.1, .int .u8 s.2]] E (by kernel_rfl) (by kernel_rfl) ⟨(H.box 6 rfl).sub 0 _ rfl, (H.box 7 rfl).sub 0 _ rfl⟩ ?_
  clear E; intro a E
  obtain ⟨r478, h479, hP⟩ := bind_inv hP
  obtain ⟨Fa480, Hc481, hb482⟩ := H.call [] [(0, false), (1, false), (2, false)] rfl rfl trivial
  refine e_call E rfl rfl Try.func34 rfl rfl rfl (board_Goes_calls (some ⟨b46, o47, none⟩) c2 A5 c6 A9 c10 aProps aAccept aGuard aNodes (s.1, s.2) q hk3 hk7 hk11 Hc481 h479) ?_
  rintro v483 w484 a ⟨A487, c488, rfl, HR485⟩ E_
  replace E := E_ _ rfl; clear E_
  obtain ⟨H_, hc486⟩ := hb482 _ _ HR485 rfl
  replace H := H_; clear H_; try dsimp only [setn, addE, goneL] at H
  refine vn tbok 5 [] [(10, .slice A487 (List.length r478.1) c488)] [] E (by kernel_rfl) (by kernel_rfl) trivial ?_
  clear E; intro a E
  refine wpList_nil ?_
  refine th_n ?_
  refine wp_seq ?_
  refine wp_block ?_
  refine wp_seq ?_
  refine wp_region_lit ?_
  refine vn tbok 3 [] [(66, .bool (decide (0 < (List.getD xRanks (Int.toNat q) 0))))] [] E (by kernel_rfl) (by kernel_rfl) trivial ?_
  clear E; intro a E
  refine wpList_nil ?_
  refine th_n ?_
  refine E.cases (t := 66) rfl (fun hb_ E_ => ?_) (fun hb_ E_ => ?_)
  ·
   replace E := E_; clear E_
   have h490 : 0 < (List.getD xRanks (Int.toNat q) 0) := of_decide_eq_true hb_
   clear hb_; replace hP := ite_t h490 hP
   refine c_true E rfl ?_
   refine wp_seq ?_
   refine wp_seq ?_
   refine wp_region_lit ?_
   obtain ⟨g491, hP⟩ := ask_inv hP
   obtain ⟨b492, o493, e_b492⟩ := (H.rd 4 rds_ro).addr (idx_pos g491)
   subst e_b492
   obtain ⟨A494, c495, hl496, hk497, H⟩ := H.subSl 4 false (el_ro rfl) g491
   try dsimp only [addE] at H
   refine vn tbok 9 [.slice (some ⟨b492, o493, none⟩) (List.length xReply) c18, .slice A494 (List.length (List.getD xReply (Int.toNat q) [])) c495] [(77, .bool (((((List.length (List.getD xReply (Int.toNat q) [])) : Nat) : Int) : Int) != (((List.length r478.1) : Nat) : Int)))] [World.cell? w484 ⟨g35, 2, none⟩ = some (.slice (some ⟨b492, o493, none⟩) (List.length xReply) c18), 0 ≤ q ∧ q < (((List.length xReply) : Nat) : Int), World.cell? w484 ⟨b492, o493 + (Int.toNat q) * 1, none⟩ = some (.slice A494 (List.length (List.getD xReply (Int.toNat q) [])) c495)] E (by kernel_rfl) (by kernel_rfl) ⟨(H.box 8 rfl).cell (j := 2) rfl, g491, hl496⟩ ?_
   clear E; intro a E
   refine wpList_nil ?_
   refine th_n ?_
   refine E.cases (t := 77) rfl (fun hb_ E_ => ?_) (fun hb_ E_ => ?_)
   ·
    replace E := E_; clear E_
    have h499 : ¬ (((((List.length (List.getD xReply (Int.toNat q) [])) : Nat) : Int) : Int) = (((List.length r478.1) : Nat) : Int)) := bne_iff_ne.1 hb_
    clear hb_; replace hP := ite_f h499 hP
    refine c_true E rfl ?_
    refine wp_seq ?_
    refine wp_region_lit ?_
    refine vn tbok 1 [] [(8, .bool false)] [] E (by kernel_rfl) (by kernel_rfl) trivial ?_
    clear E; intro a E
    refine wpList_nil ?_
    refine th_n ?_
    refine wp_ret ?_
    refine th_ret ?_
    refine bl_ret ?_
    refine th_ret ?_
    obtain rfl := Option.some.inj hP
    refine ret1 E rfl rfl ?_
    exact ⟨_, rfl, rfl, H.sel [] rfl⟩
   replace E := E_; clear E_
   have h500 : ((((List.length (List.getD xReply (Int.toNat q) [])) : Nat) : Int) : Int) = (((List.length r478.1) : Nat) : Int) := bne_eq_false_iff_eq.1 hb_
   clear hb_; replace hP := ite_t h500 hP
   refine c_false E rfl ?_
   refine wp_skip ?_
   refine th_n ?_
   refine wp_seq ?_
   refine wp_region_lit ?_
   obtain ⟨A501, c502, hl503, hk504, H⟩ := H.subSl 4 false (el_ro rfl) g491
   try dsimp only [addE] at H
   refine vn tbok 7 [.slice (some ⟨b492, o493, none⟩) (List.length xReply) c18, .slice A501 (List.length (List.getD xReply (Int.toNat q) [])) c502] [(82, .slice A501 (List.length (List.getD xReply (Int.toNat q) [])) c502), (83, .int .i64 (((List.length (List.getD xReply (Int.toNat q) [])) : Nat) : Int)), (84, .int .i64 0)] [World.cell? w484 ⟨g35, 2, none⟩ = some (.slice (some ⟨b492, o493, none⟩) (List.length xReply) c18), 0 ≤ q ∧ q < (((List.length xReply) : Nat) : Int), World.cell? w484 ⟨b492, o493 + (Int.toNat q) * 1, none⟩ = some (.slice A501 (List.length (List.getD xReply (Int.toNat q) [])) c502)] E (by kernel_rfl) (by kernel_rfl) ⟨(H.box 8 rfl).cell (j := 2) rfl, g491, hl503⟩ ?_
   clear E; intro a E
   refine wpList_nil ?_
   refine th_n ?_
   refine wp_block ?_
   obtain ⟨x581, hL582, hK583⟩ := bind_inv hP
   clear hP
   refine loop_cut (fun i_ a w_ => (i_ = 1 ∧ ∃ (x586 : Unit), Fr a 142 [] ∧ Hp S Fa w0 w_ [] ∧ x581 = Sum.inl x586)) ?_ ?_
   ·
    refine loopV (fun m585 a w584 => ∃ (x542 : Int), Fr a 142 [(5, .pointer (some ⟨g30, 0, none⟩)), (6, .pointer (some ⟨g35, 0, none⟩)), (9, .int .i64 (List.getD xRanks (Int.toNat q) 0)), (10, .slice A487 (List.length r478.1) c488), (82, .slice A501 (List.length (List.getD xReply (Int.toNat q) [])) c502), (83, .int .i64 (((List.length (List.getD xReply (Int.toNat q) [])) : Nat) : Int)), (84, .int .i64 x542)] ∧ Hp S Fa w0 w584 [.box g30 29 [.int .u8 s.1, .int .u8 s.2], .ro false (cInt .i64) (some ⟨b41, o42, none⟩) xRanks, .ro false (cSl (cInt .u8)) (some ⟨b492, o493, none⟩) xReply, .ro false (cInt .u8) (some ⟨b474, o475, none⟩) xChoice, .box g35 33 [.bool xWins, .slice (some ⟨b41, o42, none⟩) (List.length xRanks) c14, .slice (some ⟨b492, o493, none⟩) (List.length xReply) c18, .slice (some ⟨b474, o475, none⟩) (List.length xChoice) c22], .row true (cSl (cInt .i64)) 23 A487 c488 r478.1, .ro false (cInt .u8) A501 (List.getD xReply (Int.toNat q) [])] ∧ strat_state_l2 N s xRanks xReply q r478 m585 x542 = some x581) N ?_ ?_
    ·
     exact ⟨0, E.pick _ ⟨rfl, rfl, rfl, rfl, rfl, rfl, rfl, trivial⟩, H.sel [7, 3, 4, 5, 8, 9, 11] rfl, hL582⟩
    clear E H hL582; intro m585 a w584 hI_
    obtain ⟨x542, E, H, hP⟩ := hI_
    obtain ⟨m580, rfl⟩ : ∃ q_, m585 = q_ + 1 := by cases m585 with | zero => rw [strat_state_l2] at hP; cases hP | succ q_ => exact ⟨q_, rfl⟩
    rw [strat_state_l2] at hP
    refine wp_seq ?_
    refine wp_region_lit ?_
    refine vn tbok 1 [] [(85, .bool (decide (x542 < (((List.length (List.getD xReply (Int.toNat q) [])) : Nat) : Int))))] [] E (by kernel_rfl) (by kernel_rfl) trivial ?_
    clear E; intro a E
    refine wpList_nil ?_
    refine th_n ?_
    refine wp_seq ?_
    refine E.cases (t := 85) rfl (fun hb_ E_ => ?_) (fun hb_ E_ => ?_)
    ·
     replace E := E_; clear E_
     have h587 : x542 < (((List.length (List.getD xReply (Int.toNat q) [])) : Nat) : Int) := of_decide_eq_true hb_
     clear hb_; replace hP := ite_t h587 hP
     refine c_true E rfl ?_
     refine wp_skip ?_
     refine th_n ?_
     refine wp_seq ?_
     refine wp_block ?_
     refine wp_seq ?_
     refine wp_region_lit ?_
     obtain ⟨g588, hP⟩ := ask_inv hP
     obtain ⟨b589, o590, e_b589⟩ := (H.rd 6 rds_ro).addr (idx_pos g588)
     subst e_b589
     refine vn tbok 5 [.int .u8 (List.getD (List.getD xReply (Int.toNat q) []) (Int.toNat x542) 0)] [(12, .int .i64 x542), (13, .int .u8 (List.getD (List.getD xReply (Int.toNat q) []) (Int.toNat x542) 0))] [0 ≤ x542 ∧ x542 < (((List.length (List.getD xReply (Int.toNat q) [])) : Nat) : Int), World.cell? w584 ⟨b589, o590 + (Int.toNat x542) * 1, none⟩ = some (.int .u8 (List.getD (List.getD xReply (Int.toNat q) []) (Int.toNat x542) 0))] E (by kernel_rfl) (by kernel_rfl) ⟨g588, Rds.at1 (H.rd 6 rds_ro) 0 g588⟩ ?_
     clear E; intro a E
     refine wpList_nil ?_
     refine th_n ?_
     refine wp_seq ?_
     refine wp_region_lit ?_
     refine vn tbok 3 [.int .u8 s.2] [(91, .int .u8 s.2), (92, .int .u8 (List.getD (List.getD xReply (Int.toNat q) []) (Int.toNat x542) 0))] [World.cell? w584 ⟨g30, 1, none⟩ = some (.int .u8 s.2)] E (by kernel_rfl) (by kernel_rfl) ((H.box 0 rfl).cell (j := 1) rfl) ?_
     clear E; intro a E
     obtain ⟨r591, h592, hP⟩ := bind_inv hP
     obtain ⟨Fa593, Hc594, hb595⟩ := H.call [] [] rfl rfl trivial
     refine e_call E rfl rfl Try.func46 rfl rfl rfl (board_Number_calls  s.2 (List.getD (List.getD xReply (Int.toNat q) []) (Int.toNat x542) 0)  Hc594 h592) ?_
     rintro v596 w597 a ⟨rfl, HR598⟩ E_
     replace E := E_ _ rfl; clear E_
     obtain ⟨H_, hc599⟩ := hb595 _ _ HR598 rfl
     replace H := H_; clear H_; try dsimp only [setn, addE, goneL] at H
     refine vn tbok 5 [] [(14, .int .i64 r591.1), (15, .int .i64 r591.2)] [] E (by kernel_rfl) (by kernel_rfl) trivial ?_
     clear E; intro a E
     refine wpList_nil ?_
     refine th_n ?_
     refine wp_seq ?_
     refine wp_seq ?_
     refine wp_region_lit ?_
     refine vn tbok 2 [] [(97, .bool ((r591.2 : Int) != 0))] [] E (by kernel_rfl) (by kernel_rfl) trivial ?_
     clear E; intro a E
     refine wpList_nil ?_
     refine th_n ?_
     refine E.cases (t := 97) rfl (fun hb_ E_ => ?_) (fun hb_ E_ => ?_)
     ·
      replace E := E_; clear E_
      have h600 : ¬ ((r591.2 : Int) = 0) := bne_iff_ne.1 hb_
      clear hb_; replace hP := ite_f h600 hP
      refine c_true E rfl ?_
      refine wp_seq ?_
      refine wp_region_lit ?_
      refine vn tbok 1 [] [(8, .bool false)] [] E (by kernel_rfl) (by kernel_rfl) trivial ?_
      clear E; intro a E
      refine wpList_nil ?_
      refine th_n ?_
      refine wp_ret ?_
      refine th_ret ?_
      refine bl_ret ?_
      refine th_ret ?_
      refine th_ret ?_
      refine .inr ⟨rfl, ?_⟩
      refine bl_ret ?_
      refine bl_ret ?_
      refine th_ret ?_
      have hx_ := Option.some.inj hP; subst hx_
      have hP : some (false) = some r := hK583
      obtain rfl := Option.some.inj hP
      refine ret1 E rfl rfl ?_
      exact ⟨_, rfl, rfl, H.sel [] rfl⟩
     replace E := E_; clear E_
     have h601 : (r591.2 : Int) = 0 := bne_eq_false_iff_eq.1 hb_
     clear hb_; replace hP := ite_t h601 hP
     refine c_false E rfl ?_
     refine wp_skip ?_
     refine th_n ?_
     refine wp_seq ?_
     obtain ⟨g602, hP⟩ := ask_inv hP
     obtain ⟨b603, e_b603⟩ := H.raddr 5 rfl (idx_pos g602)
     subst e_b603
     obtain ⟨A605, c606, hl607, hk608, H⟩ := H.subSl 5 true (el_row rfl) g602
     try dsimp only [addE] at H
     obtain ⟨g610, hP⟩ := ask_inv hP
     obtain ⟨b611, o612, e_b611⟩ := (H.rd 7 rds_ro).addr (idx_pos g610)
     subst e_b611
     obtain ⟨g613, hP⟩ := ask_inv hP
     have HR617 := H
     refine dr_start (S := fun w_ => Chg (atL []) w597 w_) (by kernel_rfl) ?_
     intro w614 hc615
     have HS616 : Chg (atL []) w597 w614 := hc615.mono (fun _ _ h_ => h_.elim)
     replace H := H.ext hc615
     refine dn tbok (by kernel_rfl) [0, 1, 2, 3, 4, 5, 6, 7, 8, 9, 10, 11] [.slice (some ⟨b41, o42, none⟩) (List.length xRanks) c14, .slice (some ⟨b611, o612, none⟩) (List.length (List.getD r478.1 (Int.toNat x542) [])) c606, .int .i64 (List.getD (List.getD r478.1 (Int.toNat x542) []) (Int.toNat r591.1) 0), .int .i64 (List.getD xRanks (Int.toNat (List.getD (List.getD r478.1 (Int.toNat x542) []) (Int.toNat r591.1) 0)) 0)] [(16, .int .i64 (List.getD xRanks (Int.toNat (List.getD (List.getD r478.1 (Int.toNat x542) []) (Int.toNat r591.1) 0)) 0))] (fun w_ => [World.cell? w_ ⟨g35, 1, none⟩ = some (.slice (some ⟨b41, o42, none⟩) (List.length xRanks) c14), 0 ≤ x542 ∧ x542 < (((List.length r478.1) : Nat) : Int), World.cell? w_ ⟨b603, 0 + (Int.toNat x542) * 1, none⟩ = some (.slice (some ⟨b611, o612, none⟩) (List.length (List.getD r478.1 (Int.toNat x542) [])) c606), 0 ≤ r591.1 ∧ r591.1 < (((List.length (List.getD r478.1 (Int.toNat x542) [])) : Nat) : Int), World.cell? w_ ⟨b611, o612 + (Int.toNat r591.1) * 1, none⟩ = some (.int .i64 (List.getD (List.getD r478.1 (Int.toNat x542) []) (Int.toNat r591.1) 0)), 0 ≤ (List.getD (List.getD r478.1 (Int.toNat x542) []) (Int.toNat r591.1) 0) ∧ (List.getD (List.getD r478.1 (Int.toNat x542) []) (Int.toNat r591.1) 0) < (((List.length xRanks) : Nat) : Int), World.cell? w_ ⟨b41, o42 + (Int.toNat (List.getD (List.getD r478.1 (Int.toNat x542) []) (Int.toNat r591.1) 0)) * 1, none⟩ = some (.int .i64 (List.getD xRanks (Int.toNat (List.getD (List.getD r478.1 (Int.toNat x542) []) (Int.toNat r591.1) 0)) 0))]) 0 E (fun _ _ => by kernel_rfl) (by kernel_rfl) (fun w_ hS_ => ⟨(HR617.boxk [] hS_ 4 rfl rfl).cell (j := 1) rfl, g602, hS_.cell (hl607) (HR617.blk [] 5 rds_row (idx_pos g602) rfl), g610, Rds.at1 (HR617.rdk [] hS_ 7 rds_ro rfl) 0 g610, g613, Rds.at1 (HR617.rdk [] hS_ 1 rds_ro rfl) 0 g613⟩) (by kernel_rfl) HS616 ?_
     clear E; intro a E
     refine dr_done (by kernel_rfl) ?_
     clear HS616 HR617
     refine th_n ?_
     refine wp_seq ?_
     refine wp_region_lit ?_
     refine vn tbok 3 [] [(111, .bool (decide ((List.getD xRanks (Int.toNat (List.getD (List.getD r478.1 (Int.toNat x542) []) (Int.toNat r591.1) 0)) 0) < 0)))] [] E (by kernel_rfl) (by kernel_rfl) trivial ?_
     clear E; intro a E
     refine E.cases (t := 111) rfl (fun hb_ E_ => ?_) (fun hb_ E_ => ?_)
     ·
      replace E := E_; clear E_
      have h618 : (List.getD xRanks (Int.toNat (List.getD (List.getD r478.1 (Int.toNat x542) []) (Int.toNat r591.1) 0)) 0) < 0 := of_decide_eq_true hb_
      clear hb_; replace hP := ite_t h618 hP
      refine vn tbok 4 [] [(115, .bool true)] [] E (by kernel_rfl) (by kernel_rfl) trivial ?_
      clear E; intro a E
      refine wpList_nil ?_
      refine th_n ?_
      refine c_true E rfl ?_
      refine wp_seq ?_
      refine wp_region_lit ?_
      refine vn tbok 1 [] [(8, .bool false)] [] E (by kernel_rfl) (by kernel_rfl) trivial ?_
      clear E; intro a E
      refine wpList_nil ?_
      refine th_n ?_
      refine wp_ret ?_
      refine bl_ret ?_
      refine th_ret ?_
      refine th_ret ?_
      refine .inr ⟨rfl, ?_⟩
      refine bl_ret ?_
      refine bl_ret ?_
      refine th_ret ?_
      have hx_ := Option.some.inj hP; subst hx_
      have hP : some (false) = some r := hK583
      obtain rfl := Option.some.inj hP
      refine ret1 E rfl rfl ?_
      exact ⟨_, rfl, rfl, H.sel [] rfl⟩
     replace E := E_; clear E_
     have h619 : ¬ ((List.getD xRanks (Int.toNat (List.getD (List.getD r478.1 (Int.toNat x542) []) (Int.toNat r591.1) 0)) 0) < 0) := of_decide_eq_false hb_
     clear hb_; replace hP := ite_f h619 hP
     refine vn tbok 4 [] [(115, .bool (decide ((List.getD xRanks (Int.toNat q) 0) ≤ (List.getD xRanks (Int.toNat (List.getD (List.getD r478.1 (Int.toNat x542) []) (Int.toNat r591.1) 0)) 0))))] [] E (by kernel_rfl) (by kernel_rfl) trivial ?_
     clear E; intro a E
     refine wpList_nil ?_
     refine th_n ?_
     refine E.cases (t := 115) rfl (fun hb_ E_ => ?_) (fun hb_ E_ => ?_)
     ·
      replace E := E_; clear E_
      have h620 : (List.getD xRanks (Int.toNat q) 0) ≤ (List.getD xRanks (Int.toNat (List.getD (List.getD r478.1 (Int.toNat x542) []) (Int.toNat r591.1) 0)) 0) := of_decide_eq_true hb_
      clear hb_; replace hP := ite_t h620 hP
      refine c_true E rfl ?_
      refine wp_seq ?_
      refine wp_region_lit ?_
      refine vn tbok 1 [] [(8, .bool false)] [] E (by kernel_rfl) (by kernel_rfl) trivial ?_
      clear E; intro a E
      refine wpList_nil ?_
      refine th_n ?_
      refine wp_ret ?_
      refine bl_ret ?_
      refine th_ret ?_
      refine th_ret ?_
      refine .inr ⟨rfl, ?_⟩
      refine bl_ret ?_
      refine bl_ret ?_
      refine th_ret ?_
      have hx_ := Option.some.inj hP; subst hx_
      have hP : some (false) = some r := hK583
      obtain rfl := Option.some.inj hP
      refine ret1 E rfl rfl ?_
      exact ⟨_, rfl, rfl, H.sel [] rfl⟩
     replace E := E_; clear E_
     have h621 : ¬ ((List.getD xRanks (Int.toNat q) 0) ≤ (List.getD xRanks (Int.toNat (List.getD (List.getD r478.1 (Int.toNat x542) []) (Int.toNat r591.1) 0)) 0)) := of_decide_eq_false hb_
     clear hb_; replace hP := ite_f h621 hP
     refine c_false E rfl ?_
     refine wp_skip ?_
     refine bl_n ?_
     refine th_n ?_
     refine wp_region_lit ?_
     obtain ⟨g622, hP⟩ := ask_inv hP
     refine vn tbok 2 [.int .i64 (x542 + 1)] [(84, .int .i64 (x542 + 1))] [IntKind.i64.wrap (x542 + 1) = x542 + 1] E (by kernel_rfl) (by kernel_rfl) (wrap_in g622) ?_
     clear E; intro a E
     refine wpList_nil ?_
     exact th_n ⟨m580, Nat.lt_succ_self _, x542 + 1, E.pick _ ⟨rfl, rfl, rfl, rfl, rfl, rfl, rfl, trivial⟩, H.sel [0, 1, 2, 3, 4, 5, 6] rfl, hP⟩
    replace E := E_; clear E_
    have h623 : ¬ (x542 < (((List.length (List.getD xReply (Int.toNat q) [])) : Nat) : Int)) := of_decide_eq_false hb_
    clear hb_; replace hP := ite_f h623 hP
    refine c_false E rfl ?_
    refine wp_exit ?_
    refine th_exit ?_
    have hx_ := Option.some.inj hP
    refine th_exit (.inl ⟨1, rfl, ?_⟩)
    exact ⟨rfl, (), E.pick _ trivial, H.sel [] rfl, hx_.symm⟩
   clear E H hL582; intro i_ a w584 hM_
   obtain ⟨rfl, x586, E, H, hx_⟩ := hM_
   subst hx_; have hP := elim_l hK583
   clear hK583
   refine bl_hit ?_
   refine bl_n ?_
   refine th_n ?_
   refine wp_seq ?_
   refine wp_region_lit ?_
   refine vn tbok 1 [] [(8, .bool true)] [] E (by kernel_rfl) (by kernel_rfl) trivial ?_
   clear E; intro a E
   refine wpList_nil ?_
   refine th_n ?_
   refine wp_ret ?_
   obtain rfl := Option.some.inj hP
   refine ret1 E rfl rfl ?_
   exact ⟨_, rfl, rfl, H.sel [] rfl⟩
  replace E := E_; clear E_
  have h625 : ¬ (0 < (List.getD xRanks (Int.toNat q) 0)) := of_decide_eq_false hb_
  clear hb_; replace hP := ite_f h625 hP
  refine c_false E rfl ?_
  refine wp_seq ?_
  refine wp_region_lit ?_
  refine vn tbok 3 [] [(117, .bool (decide ((List.getD xRanks (Int.toNat q) 0) < 0)))] [] E (by kernel_rfl) (by kernel_rfl) trivial ?_
  clear E; intro a E
  refine wpList_nil ?_
  refine th_n ?_
  refine E.cases (t := 117) rfl (fun hb_ E_ => ?_) (fun hb_ E_ => ?_)
  ·
   replace E := E_; clear E_
   have h626 : (List.getD xRanks (Int.toNat q) 0) < 0 := of_decide_eq_true hb_
   clear hb_; replace hP := ite_t h626 hP
   refine c_true E rfl ?_
   refine wp_seq ?_
   obtain ⟨r627, h628, hP⟩ := bind_inv hP
   have HR639 := H
   refine dr_start (S := fun w_ => Chg (atL []) w484 w_) (by kernel_rfl) ?_
   intro w636 hc637
   have HS638 : Chg (atL []) w484 w636 := hc637.mono (fun _ _ h_ => h_.elim)
   replace H := H.ext hc637
   refine dn tbok (by kernel_rfl) [0, 1, 2, 3, 4, 5, 6] [.int .u8 s.1, .slice (some ⟨b474, o475, none⟩) (List.length xChoice) c22, .int .u8 (List.getD xChoice (Int.toNat q) 0)] [(122, .int .u8 s.1), (127, .int .u8 (List.getD xChoice (Int.toNat q) 0))] (fun w_ => [World.cell? w_ ⟨g30, 0, none⟩ = some (.int .u8 s.1), World.cell? w_ ⟨g35, 3, none⟩ = some (.slice (some ⟨b474, o475, none⟩) (List.length xChoice) c22), 0 ≤ q ∧ q < (((List.length xChoice) : Nat) : Int), World.cell? w_ ⟨b474, o475 + (Int.toNat q) * 1, none⟩ = some (.int .u8 (List.getD xChoice (Int.toNat q) 0))]) 6 E (fun _ _ => by kernel_rfl) (by kernel_rfl) (fun w_ hS_ => ⟨(HR639.boxk [] hS_ 7 rfl rfl).cell (j := 0) rfl, (HR639.boxk [] hS_ 8 rfl rfl).cell (j := 3) rfl, g473, Rds.at1 (HR639.rdk [] hS_ 5 rds_ro rfl) 0 g473⟩) (by kernel_rfl) HS638 ?_
   clear E; intro a E
   refine wpAnyH_all (rs := [7]) (by kernel_rfl) (by simp) ?_
   refine all1 ?_
   refine wpOp_of_list rfl ?_
   obtain ⟨Fa640, Hc641, hb642⟩ := H.call [] [] rfl rfl trivial
   refine e_call E rfl rfl Try.func46 rfl rfl rfl (board_Number_calls  s.1 (List.getD xChoice (Int.toNat q) 0)  Hc641 h628) ?_
   rintro v643 w644 a ⟨rfl, HR645⟩ E_
   replace E := E_ _ rfl; clear E_
   obtain ⟨H_, hc646⟩ := hb642 _ _ HR645 rfl
   replace HS638 := HS638.ext (callS_ext hc646)
   replace H := H_; clear H_; try dsimp only [setn, addE, goneL] at H
   refine wpList_nil ?_
   refine th_n ⟨HS638, ?_⟩
   refine dn tbok (by kernel_rfl) [8, 9, 10, 11, 12] [] [(17, .int .i64 r627.1), (18, .int .i64 r627.2)] (fun w_ => []) 0 E (fun _ _ => by kernel_rfl) (by kernel_rfl) (fun w_ hS_ => trivial) (by kernel_rfl) HS638 ?_
   clear E; intro a E
   refine dr_done (by kernel_rfl) ?_
   clear HS638 HR639
   refine th_n ?_
   refine wp_seq ?_
   by_cases h647 : (r627.2 : Int) = 0
   ·
    replace hP := ite_t h647 hP
    obtain ⟨g648, hP⟩ := ask_inv hP
    obtain ⟨b649, e_b649⟩ := H.raddr 9 rfl (idx_pos g648)
    subst e_b649
    obtain ⟨A651, c652, hl653, hk654, H⟩ := H.subSl 9 true (el_row rfl) g648
    try dsimp only [addE] at H
    obtain ⟨r656, h657, hP⟩ := bind_inv hP
    have HR668 := H
    refine dr_start (S := fun w_ => Chg (atL []) w644 w_) (by kernel_rfl) ?_
    intro w665 hc666
    have HS667 : Chg (atL []) w644 w665 := hc666.mono (fun _ _ h_ => h_.elim)
    replace H := H.ext hc666
    refine dn tbok (by kernel_rfl) [0, 1, 2] [] [(133, .bool ((r627.2 : Int) == 0))] (fun w_ => []) 9 E (fun _ _ => by kernel_rfl) (by kernel_rfl) (fun w_ hS_ => trivial) (by kernel_rfl) HS667 ?_
    clear E; intro a E
    replace E := E.same (t := 133) (u := .bool true) rfl (congrArg Value.bool (beq_iff_eq.2 h647))
    refine dn tbok (by kernel_rfl) [3, 4, 5, 6, 7, 8] [.slice A651 (List.length (List.getD r478.1 (Int.toNat r627.1) [])) c652, .slice (some ⟨b41, o42, none⟩) (List.length xRanks) c14] [(137, .slice A651 (List.length (List.getD r478.1 (Int.toNat r627.1) [])) c652), (139, .slice (some ⟨b41, o42, none⟩) (List.length xRanks) c14)] (fun w_ => [0 ≤ r627.1 ∧ r627.1 < (((List.length r478.1) : Nat) : Int), World.cell? w_ ⟨b649, 0 + (Int.toNat r627.1) * 1, none⟩ = some (.slice A651 (List.length (List.getD r478.1 (Int.toNat r627.1) [])) c652), World.cell? w_ ⟨g35, 1, none⟩ = some (.slice (some ⟨b41, o42, none⟩) (List.length xRanks) c14)]) 3 E (fun _ _ => by kernel_rfl) (by kernel_rfl) (fun w_ hS_ => ⟨g648, hS_.cell (hl653) (HR668.blk [] 9 rds_row (idx_pos g648) rfl), (HR668.boxk [] hS_ 8 rfl rfl).cell (j := 1) rfl⟩) (by kernel_rfl) HS667 ?_
    clear E; intro a E
    refine wpAnyH_all (rs := [9]) (by kernel_rfl) (by simp) ?_
    refine all1 ?_
    refine wpOp_of_list rfl ?_
    obtain ⟨Fa669, Hc670, hb671⟩ := H.call [] [(10, false), (3, false)] rfl rfl trivial
    refine e_call E rfl rfl Try.func38 rfl rfl rfl (strat_lost_calls A651 c652 (some ⟨b41, o42, none⟩) c14 (List.getD r478.1 (Int.toNat r627.1) []) xRanks hk654 hk15 Hc670 h657) ?_
    rintro v672 w673 a ⟨rfl, HR674⟩ E_
    replace E := E_ _ rfl; clear E_
    obtain ⟨H_, hc675⟩ := hb671 _ _ HR674 rfl
    replace HS667 := HS667.ext (callS_ext hc675)
    replace H := H_; clear H_; try dsimp only [setn, addE, goneL] at H
    refine wpList_nil ?_
    refine th_n ⟨HS667, ?_⟩
    refine dn tbok (by kernel_rfl) [10, 11] [] [(8, .bool r656)] (fun w_ => []) 0 E (fun _ _ => by kernel_rfl) (by kernel_rfl) (fun w_ hS_ => trivial) (by kernel_rfl) HS667 ?_
    clear E; intro a E
    refine dr_done (by kernel_rfl) ?_
    clear HS667 HR668
    refine th_n ?_
    refine wp_ret ?_
    refine bl_ret ?_
    refine th_ret ?_
    obtain rfl := Option.some.inj hP
    refine ret1 E rfl rfl ?_
    exact ⟨_, rfl, rfl, H.sel [] rfl⟩
   replace hP := ite_f h647 hP
   have HR679 := H
   refine dr_start (S := fun w_ => Chg (atL []) w644 w_) (by kernel_rfl) ?_
   intro w676 hc677
   have HS678 : Chg (atL []) w644 w676 := hc677.mono (fun _ _ h_ => h_.elim)
   replace H := H.ext hc677
   refine dn tbok (by kernel_rfl) [0, 1, 2] [] [(133, .bool ((r627.2 : Int) == 0))] (fun w_ => []) 9 E (fun _ _ => by kernel_rfl) (by kernel_rfl) (fun w_ hS_ => trivial) (by kernel_rfl) HS678 ?_
   clear E; intro a E
   replace E := E.same (t := 133) (u := .bool false) rfl (congrArg Value.bool (beq_eq_false_iff_ne.2 h647))
   refine dn tbok (by kernel_rfl) [3, 4, 5, 6, 7, 8, 9, 10, 11] [] [(8, .bool false)] (fun w_ => []) 0 E (fun _ _ => by kernel_rfl) (by kernel_rfl) (fun w_ hS_ => trivial) (by kernel_rfl) HS678 ?_
   clear E; intro a E
   refine dr_done (by kernel_rfl) ?_
   clear HS678 HR679
   refine th_n ?_
   refine wp_ret ?_
   refine bl_ret ?_
   refine th_ret ?_
   obtain rfl := Option.some.inj hP
   refine ret1 E rfl rfl ?_
   exact ⟨_, rfl, rfl, H.sel [] rfl⟩
  replace E := E_; clear E_
  have h680 : ¬ ((List.getD xRanks (Int.toNat q) 0) < 0) := of_decide_eq_false hb_
  clear hb_; replace hP := ite_f h680 hP
  refine c_false E rfl ?_
  refine wp_skip ?_
  refine bl_n ?_
  refine th_n ?_
  refine wp_seq ?_
  refine wp_region_lit ?_
  refine vn tbok 1 [] [(8, .bool true)] [] E (by kernel_rfl) (by kernel_rfl) trivial ?_
  clear E; intro a E
  refine wpList_nil ?_
  refine th_n ?_
  refine wp_ret ?_
  obtain rfl := Option.some.inj hP
  refine ret1 E rfl rfl ?_
  exact ⟨_, rfl, rfl, H.sel [] rfl⟩
 replace E := E_; clear E_
 have h681 : ¬ (0 ≤ (List.getD xRanks (Int.toNat q) 0)) := of_decide_eq_false hb_
 clear hb_; replace hP := ite_f h681 hP
 refine vn tbok 8 [] [(58, .bool false)] [] E (by kernel_rfl) (by kernel_rfl) trivial ?_
 clear E; intro a E
 refine wpList_nil ?_
 refine th_n ?_
 refine c_false E rfl ?_
 refine wp_skip ?_
 refine th_n ?_
 refine wp_seq ?_
 refine wp_region_lit ?_
 refine vn tbok 3 [.agg #[.int .i64 aProps, .slice (some ⟨b46, o47, none⟩) (List.length aAccept) c2, .slice A5 (List.length aGuard) c6, .slice A9 (List.length aNodes) c10], .agg #[.int .u8 s.1, .int .u8 s.2]] [(60, .agg #[.int .i64 aProps, .slice (some ⟨b46, o47, none⟩) (List.length aAccept) c2, .slice A5 (List.length aGuard) c6, .slice A9 (List.length aNodes) c10]), (61, .agg #[.int .u8 s.1, .int .u8 s.2]), (62, .int .i64 q)] [cellsAt w36 g25 (0) [.int .i64 aProps, .slice (some ⟨b46, o47, none⟩) (List.length aAccept) c2, .slice A5 (List.length aGuard) c6, .slice A9 (List.length aNodes) c10], cellsAt w36 g30 (0) [.int .u8 s.1, .int .u8 s.2]] E (by kernel_rfl) (by kernel_rfl) ⟨(H.box 6 rfl).sub 0 _ rfl, (H.box 7 rfl).sub 0 _ rfl⟩ ?_
 clear E; intro a E
 obtain ⟨r682, h683, hP⟩ := bind_inv hP
 obtain ⟨Fa684, Hc685, hb686⟩ := H.call [] [(0, false), (1, false), (2, false)] rfl rfl trivial
 refine e_call E rfl rfl Try.func34 rfl rfl rfl (board_Goes_calls (some ⟨b46, o47, none⟩) c2 A5 c6 A9 c10 aProps aAccept aGuard aNodes (s.1, s.2) q hk3 hk7 hk11 Hc685 h683) ?_
 rintro v687 w688 a ⟨A691, c692, rfl, HR689⟩ E_
 replace E := E_ _ rfl; clear E_
 obtain ⟨H_, hc690⟩ := hb686 _ _ HR689 rfl
 replace H := H_; clear H_; try dsimp only [setn, addE, goneL] at H
 refine vn tbok 5 [] [(10, .slice A691 (List.length r682.1) c692)] [] E (by kernel_rfl) (by kernel_rfl) trivial ?_
 clear E; intro a E
 refine wpList_nil ?_
 refine th_n ?_
 refine wp_seq ?_
 refine wp_block ?_
 refine wp_seq ?_
 refine wp_region_lit ?_
 refine vn tbok 3 [] [(66, .bool (decide (0 < (List.getD xRanks (Int.toNat q) 0))))] [] E (by kernel_rfl) (by kernel_rfl) trivial ?_
 clear E; intro a E
 refine wpList_nil ?_
 refine th_n ?_
 refine E.cases (t := 66) rfl (fun hb_ E_ => ?_) (fun hb_ E_ => ?_)
 ·
  replace E := E_; clear E_
  have h694 : 0 < (List.getD xRanks (Int.toNat q) 0) := of_decide_eq_true hb_
  clear hb_; replace hP := ite_t h694 hP
  refine c_true E rfl ?_
  refine wp_seq ?_
  refine wp_seq ?_
  refine wp_region_lit ?_
  obtain ⟨g695, hP⟩ := ask_inv hP
  obtain ⟨b696, o697, e_b696⟩ := (H.rd 4 rds_ro).addr (idx_pos g695)
  subst e_b696
  obtain ⟨A698, c699, hl700, hk701, H⟩ := H.subSl 4 false (el_ro rfl) g695
  try dsimp only [addE] at H
  refine vn tbok 9 [.slice (some ⟨b696, o697, none⟩) (List.length xReply) c18, .slice A698 (List.length (List.getD xReply (Int.toNat q) [])) c699] [(77, .bool (((((List.length (List.getD xReply (Int.toNat q) [])) : Nat) : Int) : Int) != (((List.length r682.1) : Nat) : Int)))] [World.cell? w688 ⟨g35, 2, none⟩ = some (.slice (some ⟨b696, o697, none⟩) (List.length xReply) c18), 0 ≤ q ∧ q < (((List.length xReply) : Nat) : Int), World.cell? w688 ⟨b696, o697 + (Int.toNat q) * 1, none⟩ = some (.slice A698 (List.length (List.getD xReply (Int.toNat q) [])) c699)] E (by kernel_rfl) (by kernel_rfl) ⟨(H.box 8 rfl).cell (j := 2) rfl, g695, hl700⟩ ?_
  clear E; intro a E
  refine wpList_nil ?_
  refine th_n ?_
  refine E.cases (t := 77) rfl (fun hb_ E_ => ?_) (fun hb_ E_ => ?_)
  ·
   replace E := E_; clear E_
   have h703 : ¬ (((((List.length (List.getD xReply (Int.toNat q) [])) : Nat) : Int) : Int) = (((List.length r682.1) : Nat) : Int)) := bne_iff_ne.1 hb_
   clear hb_; replace hP := ite_f h703 hP
   refine c_true E rfl ?_
   refine wp_seq ?_
   refine wp_region_lit ?_
   refine vn tbok 1 [] [(8, .bool false)] [] E (by kernel_rfl) (by kernel_rfl) trivial ?_
   clear E; intro a E
   refine wpList_nil ?_
   refine th_n ?_
   refine wp_ret ?_
   refine th_ret ?_
   refine bl_ret ?_
   refine th_ret ?_
   obtain rfl := Option.some.inj hP
   refine ret1 E rfl rfl ?_
   exact ⟨_, rfl, rfl, H.sel [] rfl⟩
  replace E := E_; clear E_
  have h704 : ((((List.length (List.getD xReply (Int.toNat q) [])) : Nat) : Int) : Int) = (((List.length r682.1) : Nat) : Int) := bne_eq_false_iff_eq.1 hb_
  clear hb_; replace hP := ite_t h704 hP
  refine c_false E rfl ?_
  refine wp_skip ?_
  refine th_n ?_
  refine wp_seq ?_
  refine wp_region_lit ?_
  obtain ⟨A705, c706, hl707, hk708, H⟩ := H.subSl 4 false (el_ro rfl) g695
  try dsimp only [addE] at H
  refine vn tbok 7 [.slice (some ⟨b696, o697, none⟩) (List.length xReply) c18, .slice A705 (List.length (List.getD xReply (Int.toNat q) [])) c706] [(82, .slice A705 (List.length (List.getD xReply (Int.toNat q) [])) c706), (83, .int .i64 (((List.length (List.getD xReply (Int.toNat q) [])) : Nat) : Int)), (84, .int .i64 0)] [World.cell? w688 ⟨g35, 2, none⟩ = some (.slice (some ⟨b696, o697, none⟩) (List.length xReply) c18), 0 ≤ q ∧ q < (((List.length xReply) : Nat) : Int), World.cell? w688 ⟨b696, o697 + (Int.toNat q) * 1, none⟩ = some (.slice A705 (List.length (List.getD xReply (Int.toNat q) [])) c706)] E (by kernel_rfl) (by kernel_rfl) ⟨(H.box 8 rfl).cell (j := 2) rfl, g695, hl707⟩ ?_
  clear E; intro a E
  refine wpList_nil ?_
  refine th_n ?_
  refine wp_block ?_
  obtain ⟨x785, hL786, hK787⟩ := bind_inv hP
  clear hP
  refine loop_cut (fun i_ a w_ => (i_ = 1 ∧ ∃ (x790 : Unit), Fr a 142 [] ∧ Hp S Fa w0 w_ [] ∧ x785 = Sum.inl x790)) ?_ ?_
  ·
   refine loopV (fun m789 a w788 => ∃ (x746 : Int), Fr a 142 [(5, .pointer (some ⟨g30, 0, none⟩)), (6, .pointer (some ⟨g35, 0, none⟩)), (9, .int .i64 (List.getD xRanks (Int.toNat q) 0)), (10, .slice A691 (List.length r682.1) c692), (82, .slice A705 (List.length (List.getD xReply (Int.toNat q) [])) c706), (83, .int .i64 (((List.length (List.getD xReply (Int.toNat q) [])) : Nat) : Int)), (84, .int .i64 x746)] ∧ Hp S Fa w0 w788 [.box g30 29 [.int .u8 s.1, .int .u8 s.2], .ro false (cInt .i64) (some ⟨b41, o42, none⟩) xRanks, .ro false (cSl (cInt .u8)) (some ⟨b696, o697, none⟩) xReply, .ro false (cInt .u8) A21 xChoice, .box g35 33 [.bool xWins, .slice (some ⟨b41, o42, none⟩) (List.length xRanks) c14, .slice (some ⟨b696, o697, none⟩) (List.length xReply) c18, .slice A21 (List.length xChoice) c22], .row true (cSl (cInt .i64)) 23 A691 c692 r682.1, .ro false (cInt .u8) A705 (List.getD xReply (Int.toNat q) [])] ∧ strat_state_l3 N s xRanks xReply q r682 m789 x746 = some x785) N ?_ ?_
   ·
    exact ⟨0, E.pick _ ⟨rfl, rfl, rfl, rfl, rfl, rfl, rfl, trivial⟩, H.sel [7, 3, 4, 5, 8, 9, 11] rfl, hL786⟩
   clear E H hL786; intro m789 a w788 hI_
   obtain ⟨x746, E, H, hP⟩ := hI_
   obtain ⟨m784, rfl⟩ : ∃ q_, m789 = q_ + 1 := by cases m789 with | zero => rw [strat_state_l3] at hP; cases hP | succ q_ => exact ⟨q_, rfl⟩
   rw [strat_state_l3] at hP
   refine wp_seq ?_
   refine wp_region_lit ?_
   refine vn tbok 1 [] [(85, .bool (decide (x746 < (((List.length (List.getD xReply (Int.toNat q) [])) : Nat) : Int))))] [] E (by kernel_rfl) (by kernel_rfl) trivial ?_
   clear E; intro a E
   refine wpList_nil ?_
   refine th_n ?_
   refine wp_seq ?_
   refine E.cases (t := 85) rfl (fun hb_ E_ => ?_) (fun hb_ E_ => ?_)
   ·
    replace E := E_; clear E_
    have h791 : x746 < (((List.length (List.getD xReply (Int.toNat q) [])) : Nat) : Int) := of_decide_eq_true hb_
    clear hb_; replace hP := ite_t h791 hP
    refine c_true E rfl ?_
    refine wp_skip ?_
    refine th_n ?_
    refine wp_seq ?_
    refine wp_block ?_
    refine wp_seq ?_
    refine wp_region_lit ?_
    obtain ⟨g792, hP⟩ := ask_inv hP
    obtain ⟨b793, o794, e_b793⟩ := (H.rd 6 rds_ro).addr (idx_pos g792)
    subst e_b793
    refine vn tbok 5 [.int .u8 (List.getD (List.getD xReply (Int.toNat q) []) (Int.toNat x746) 0)] [(12, .int .i64 x746), (13, .int .u8 (List.getD (List.getD xReply (Int.toNat q) []) (Int.toNat x746) 0))] [0 ≤ x746 ∧ x746 < (((List.length (List.getD xReply (Int.toNat q) [])) : Nat) : Int), World.cell? w788 ⟨b793, o794 + (Int.toNat x746) * 1, none⟩ = some (.int .u8 (List.getD (List.getD xReply (Int.toNat q) []) (Int.toNat x746) 0))] E (by kernel_rfl) (by kernel_rfl) ⟨g792, Rds.at1 (H.rd 6 rds_ro) 0 g792⟩ ?_
    clear E; intro a E
    refine wpList_nil ?_
    refine th_n ?_
    refine wp_seq ?_
    refine wp_region_lit ?_
    refine vn tbok 3 [.int .u8 s.2] [(91, .int .u8 s.2), (92, .int .u8 (List.getD (List.getD xReply (Int.toNat q) []) (Int.toNat x746) 0))] [World.cell? w788 ⟨g30, 1, none⟩ = some (.int .u8 s.2)] E (by kernel_rfl) (by kernel_rfl) ((H.box 0 rfl).cell (j := 1) rfl) ?_
    clear E; intro a E
    obtain ⟨r795, h796, hP⟩ := bind_inv hP
    obtain ⟨Fa797, Hc798, hb799⟩ := H.call [] [] rfl rfl trivial
    refine e_call E rfl rfl Try.func46 rfl rfl rfl (board_Number_calls  s.2 (List.getD (List.getD xReply (Int.toNat q) []) (Int.toNat x746) 0)  Hc798 h796) ?_
    rintro v800 w801 a ⟨rfl, HR802⟩ E_
    replace E := E_ _ rfl; clear E_
    obtain ⟨H_, hc803⟩ := hb799 _ _ HR802 rfl
    replace H := H_; clear H_; try dsimp only [setn, addE, goneL] at H
    refine vn tbok 5 [] [(14, .int .i64 r795.1), (15, .int .i64 r795.2)] [] E (by kernel_rfl) (by kernel_rfl) trivial ?_
    clear E; intro a E
    refine wpList_nil ?_
    refine th_n ?_
    refine wp_seq ?_
    refine wp_seq ?_
    refine wp_region_lit ?_
    refine vn tbok 2 [] [(97, .bool ((r795.2 : Int) != 0))] [] E (by kernel_rfl) (by kernel_rfl) trivial ?_
    clear E; intro a E
    refine wpList_nil ?_
    refine th_n ?_
    refine E.cases (t := 97) rfl (fun hb_ E_ => ?_) (fun hb_ E_ => ?_)
    ·
     replace E := E_; clear E_
     have h804 : ¬ ((r795.2 : Int) = 0) := bne_iff_ne.1 hb_
     clear hb_; replace hP := ite_f h804 hP
     refine c_true E rfl ?_
     refine wp_seq ?_
     refine wp_region_lit ?_
     refine vn tbok 1 [] [(8, .bool false)] [] E (by kernel_rfl) (by kernel_rfl) trivial ?_
     clear E; intro a E
     refine wpList_nil ?_
     refine th_n ?_
     refine wp_ret ?_
     refine th_ret ?_
     refine bl_ret ?_
     refine th_ret ?_
     refine th_ret ?_
     refine .inr ⟨rfl, ?_⟩
     refine bl_ret ?_
     refine bl_ret ?_
     refine th_ret ?_
     have hx_ := Option.some.inj hP; subst hx_
     have hP : some (false) = some r := hK787
     obtain rfl := Option.some.inj hP
     refine ret1 E rfl rfl ?_
     exact ⟨_, rfl, rfl, H.sel [] rfl⟩
    replace E := E_; clear E_
    have h805 : (r795.2 : Int) = 0 := bne_eq_false_iff_eq.1 hb_
    clear hb_; replace hP := ite_t h805 hP
    refine c_false E rfl ?_
    refine wp_skip ?_
    refine th_n ?_
    refine wp_seq ?_
    obtain ⟨g806, hP⟩ := ask_inv hP
    obtain ⟨b807, e_b807⟩ := H.raddr 5 rfl (idx_pos g806)
    subst e_b807
    obtain ⟨A809, c810, hl811, hk812, H⟩ := H.subSl 5 true (el_row rfl) g806
    try dsimp only [addE] at H
    obtain ⟨g814, hP⟩ := ask_inv hP
    obtain ⟨b815, o816, e_b815⟩ := (H.rd 7 rds_ro).addr (idx_pos g814)
    subst e_b815
    obtain ⟨g817, hP⟩ := ask_inv hP
    have HR821 := H
    refine dr_start (S := fun w_ => Chg (atL []) w801 w_) (by kernel_rfl) ?_
    intro w818 hc819
    have HS820 : Chg (atL []) w801 w818 := hc819.mono (fun _ _ h_ => h_.elim)
    replace H := H.ext hc819
    refine dn tbok (by kernel_rfl) [0, 1, 2, 3, 4, 5, 6, 7, 8, 9, 10, 11] [.slice (some ⟨b41, o42, none⟩) (List.length xRanks) c14, .slice (some ⟨b815, o816, none⟩) (List.length (List.getD r682.1 (Int.toNat x746) [])) c810, .int .i64 (List.getD (List.getD r682.1 (Int.toNat x746) []) (Int.toNat r795.1) 0), .int .i64 (List.getD xRanks (Int.toNat (List.getD (List.getD r682.1 (Int.toNat x746) []) (Int.toNat r795.1) 0)) 0)] [(16, .int .i64 (List.getD xRanks (Int.toNat (List.getD (List.getD r682.1 (Int.toNat x746) []) (Int.toNat r795.1) 0)) 0))] (fun w_ => [World.cell? w_ ⟨g35, 1, none⟩ = some (.slice (some ⟨b41, o42, none⟩) (List.length xRanks) c14), 0 ≤ x746 ∧ x746 < (((List.length r682.1) : Nat) : Int), World.cell? w_ ⟨b807, 0 + (Int.toNat x746) * 1, none⟩ = some (.slice (some ⟨b815, o816, none⟩) (List.length (List.getD r682.1 (Int.toNat x746) [])) c810), 0 ≤ r795.1 ∧ r795.1 < (((List.length (List.getD r682.1 (Int.toNat x746) [])) : Nat) : Int), World.cell? w_ ⟨b815, o816 + (Int.toNat r795.1) * 1, none⟩ = some (.int .i64 (List.getD (List.getD r682.1 (Int.toNat x746) []) (Int.toNat r795.1) 0)), 0 ≤ (List.getD (List.getD r682.1 (Int.toNat x746) []) (Int.toNat r795.1) 0) ∧ (List.getD (List.getD r682.1 (Int.toNat x746) []) (Int.toNat r795.1) 0) < (((List.length xRanks) : Nat) : Int), World.cell? w_ ⟨b41, o42 + (Int.toNat (List.getD (List.getD r682.1 (Int.toNat x746) []) (Int.toNat r795.1) 0)) * 1, none⟩ = some (.int .i64 (List.getD xRanks (Int.toNat (List.getD (List.getD r682.1 (Int.toNat x746) []) (Int.toNat r795.1) 0)) 0))]) 0 E (fun _ _ => by kernel_rfl) (by kernel_rfl) (fun w_ hS_ => ⟨(HR821.boxk [] hS_ 4 rfl rfl).cell (j := 1) rfl, g806, hS_.cell (hl811) (HR821.blk [] 5 rds_row (idx_pos g806) rfl), g814, Rds.at1 (HR821.rdk [] hS_ 7 rds_ro rfl) 0 g814, g817, Rds.at1 (HR821.rdk [] hS_ 1 rds_ro rfl) 0 g817⟩) (by kernel_rfl) HS820 ?_
    clear E; intro a E
    refine dr_done (by kernel_rfl) ?_
    clear HS820 HR821
    refine th_n ?_
    refine wp_seq ?_
    refine wp_region_lit ?_
    refine vn tbok 3 [] [(111, .bool (decide ((List.getD xRanks (Int.toNat (List.getD (List.getD r682.1 (Int.toNat x746) []) (Int.toNat r795.1) 0)) 0) < 0)))] [] E (by kernel_rfl) (by kernel_rfl) trivial ?_
    clear E; intro a E
    refine E.cases (t := 111) rfl (fun hb_ E_ => ?_) (fun hb_ E_ => ?_)
    ·
     replace E := E_; clear E_
     have h822 : (List.getD xRanks (Int.toNat (List.getD (List.getD r682.1 (Int.toNat x746) []) (Int.toNat r795.1) 0)) 0) < 0 := of_decide_eq_true hb_
     clear hb_; replace hP := ite_t h822 hP
     refine vn tbok 4 [] [(115, .bool true)] [] E (by kernel_rfl) (by kernel_rfl) trivial ?_
     clear E; intro a E
     refine wpList_nil ?_
     refine th_n ?_
     refine c_true E rfl ?_
     refine wp_seq ?_
     refine wp_region_lit ?_
     refine vn tbok 1 [] [(8, .bool false)] [] E (by kernel_rfl) (by kernel_rfl) trivial ?_
     clear E; intro a E
     refine wpList_nil ?_
     refine th_n ?_
     refine wp_ret ?_
     refine bl_ret ?_
     refine th_ret ?_
     refine th_ret ?_
     refine .inr ⟨rfl, ?_⟩
     refine bl_ret ?_
     refine bl_ret ?_
     refine th_ret ?_
     have hx_ := Option.some.inj hP; subst hx_
     have hP : some (false) = some r := hK787
     obtain rfl := Option.some.inj hP
     refine ret1 E rfl rfl ?_
     exact ⟨_, rfl, rfl, H.sel [] rfl⟩
    replace E := E_; clear E_
    have h823 : ¬ ((List.getD xRanks (Int.toNat (List.getD (List.getD r682.1 (Int.toNat x746) []) (Int.toNat r795.1) 0)) 0) < 0) := of_decide_eq_false hb_
    clear hb_; replace hP := ite_f h823 hP
    refine vn tbok 4 [] [(115, .bool (decide ((List.getD xRanks (Int.toNat q) 0) ≤ (List.getD xRanks (Int.toNat (List.getD (List.getD r682.1 (Int.toNat x746) []) (Int.toNat r795.1) 0)) 0))))] [] E (by kernel_rfl) (by kernel_rfl) trivial ?_
    clear E; intro a E
    refine wpList_nil ?_
    refine th_n ?_
    refine E.cases (t := 115) rfl (fun hb_ E_ => ?_) (fun hb_ E_ => ?_)
    ·
     replace E := E_; clear E_
     have h824 : (List.getD xRanks (Int.toNat q) 0) ≤ (List.getD xRanks (Int.toNat (List.getD (List.getD r682.1 (Int.toNat x746) []) (Int.toNat r795.1) 0)) 0) := of_decide_eq_true hb_
     clear hb_; replace hP := ite_t h824 hP
     refine c_true E rfl ?_
     refine wp_seq ?_
     refine wp_region_lit ?_
     refine vn tbok 1 [] [(8, .bool false)] [] E (by kernel_rfl) (by kernel_rfl) trivial ?_
     clear E; intro a E
     refine wpList_nil ?_
     refine th_n ?_
     refine wp_ret ?_
     refine bl_ret ?_
     refine th_ret ?_
     refine th_ret ?_
     refine .inr ⟨rfl, ?_⟩
     refine bl_ret ?_
     refine bl_ret ?_
     refine th_ret ?_
     have hx_ := Option.some.inj hP; subst hx_
     have hP : some (false) = some r := hK787
     obtain rfl := Option.some.inj hP
     refine ret1 E rfl rfl ?_
     exact ⟨_, rfl, rfl, H.sel [] rfl⟩
    replace E := E_; clear E_
    have h825 : ¬ ((List.getD xRanks (Int.toNat q) 0) ≤ (List.getD xRanks (Int.toNat (List.getD (List.getD r682.1 (Int.toNat x746) []) (Int.toNat r795.1) 0)) 0)) := of_decide_eq_false hb_
    clear hb_; replace hP := ite_f h825 hP
    refine c_false E rfl ?_
    refine wp_skip ?_
    refine bl_n ?_
    refine th_n ?_
    refine wp_region_lit ?_
    obtain ⟨g826, hP⟩ := ask_inv hP
    refine vn tbok 2 [.int .i64 (x746 + 1)] [(84, .int .i64 (x746 + 1))] [IntKind.i64.wrap (x746 + 1) = x746 + 1] E (by kernel_rfl) (by kernel_rfl) (wrap_in g826) ?_
    clear E; intro a E
    refine wpList_nil ?_
    exact th_n ⟨m784, Nat.lt_succ_self _, x746 + 1, E.pick _ ⟨rfl, rfl, rfl, rfl, rfl, rfl, rfl, trivial⟩, H.sel [0, 1, 2, 3, 4, 5, 6] rfl, hP⟩
   replace E := E_; clear E_
   have h827 : ¬ (x746 < (((List.length (List.getD xReply (Int.toNat q) [])) : Nat) : Int)) := of_decide_eq_false hb_
   clear hb_; replace hP := ite_f h827 hP
   refine c_false E rfl ?_
   refine wp_exit ?_
   refine th_exit ?_
   have hx_ := Option.some.inj hP
   refine th_exit (.inl ⟨1, rfl, ?_⟩)
   exact ⟨rfl, (), E.pick _ trivial, H.sel [] rfl, hx_.symm⟩
  clear E H hL786; intro i_ a w788 hM_
  obtain ⟨rfl, x790, E, H, hx_⟩ := hM_
  subst hx_; have hP := elim_l hK787
  clear hK787
  refine bl_hit ?_
  refine bl_n ?_
  refine th_n ?_
  refine wp_seq ?_
  refine wp_region_lit ?_
  refine vn tbok 1 [] [(8, .bool true)] [] E (by kernel_rfl) (by kernel_rfl) trivial ?_
  clear E; intro a E
  refine wpList_nil ?_
  refine th_n ?_
  refine wp_ret ?_
  obtain rfl := Option.some.inj hP
  refine ret1 E rfl rfl ?_
  exact ⟨_, rfl, rfl, H.sel [] rfl⟩
 replace E := E_; clear E_
 have h829 : ¬ (0 < (List.getD xRanks (Int.toNat q) 0)) := of_decide_eq_false hb_
 clear hb_; replace hP := ite_f h829 hP
 refine c_false E rfl ?_
 refine wp_seq ?_
 refine wp_region_lit ?_
 refine vn tbok 3 [] [(117, .bool (decide ((List.getD xRanks (Int.toNat q) 0) < 0)))] [] E (by kernel_rfl) (by kernel_rfl) trivial ?_
 clear E; intro a E
 refine wpList_nil ?_
 refine th_n ?_
 refine E.cases (t := 117) rfl (fun hb_ E_ => ?_) (fun hb_ E_ => ?_)
 ·
  replace E := E_; clear E_
  have h830 : (List.getD xRanks (Int.toNat q) 0) < 0 := of_decide_eq_true hb_
  clear hb_; replace hP := ite_t h830 hP
  refine c_true E rfl ?_
  refine wp_seq ?_
  obtain ⟨g831, hP⟩ := ask_inv hP
  obtain ⟨b832, o833, e_b832⟩ := (H.rd 5 rds_ro).addr (idx_pos g831)
  subst e_b832
  obtain ⟨r834, h835, hP⟩ := bind_inv hP
  have HR846 := H
  refine dr_start (S := fun w_ => Chg (atL []) w688 w_) (by kernel_rfl) ?_
  intro w843 hc844
  have HS845 : Chg (atL []) w688 w843 := hc844.mono (fun _ _ h_ => h_.elim)
  replace H := H.ext hc844
  refine dn tbok (by kernel_rfl) [0, 1, 2, 3, 4, 5, 6] [.int .u8 s.1, .slice (some ⟨b832, o833, none⟩) (List.length xChoice) c22, .int .u8 (List.getD xChoice (Int.toNat q) 0)] [(122, .int .u8 s.1), (127, .int .u8 (List.getD xChoice (Int.toNat q) 0))] (fun w_ => [World.cell? w_ ⟨g30, 0, none⟩ = some (.int .u8 s.1), World.cell? w_ ⟨g35, 3, none⟩ = some (.slice (some ⟨b832, o833, none⟩) (List.length xChoice) c22), 0 ≤ q ∧ q < (((List.length xChoice) : Nat) : Int), World.cell? w_ ⟨b832, o833 + (Int.toNat q) * 1, none⟩ = some (.int .u8 (List.getD xChoice (Int.toNat q) 0))]) 6 E (fun _ _ => by kernel_rfl) (by kernel_rfl) (fun w_ hS_ => ⟨(HR846.boxk [] hS_ 7 rfl rfl).cell (j := 0) rfl, (HR846.boxk [] hS_ 8 rfl rfl).cell (j := 3) rfl, g831, Rds.at1 (HR846.rdk [] hS_ 5 rds_ro rfl) 0 g831⟩) (by kernel_rfl) HS845 ?_
  clear E; intro a E
  refine wpAnyH_all (rs := [7]) (by kernel_rfl) (by simp) ?_
  refine all1 ?_
  refine wpOp_of_list rfl ?_
  obtain ⟨Fa847, Hc848, hb849⟩ := H.call [] [] rfl rfl trivial
  refine e_call E rfl rfl Try.func46 rfl rfl rfl (board_Number_calls  s.1 (List.getD xChoice (Int.toNat q) 0)  Hc848 h835) ?_
  rintro v850 w851 a ⟨rfl, HR852⟩ E_
  replace E := E_ _ rfl; clear E_
  obtain ⟨H_, hc853⟩ := hb849 _ _ HR852 rfl
  replace HS845 := HS845.ext (callS_ext hc853)
  replace H := H_; clear H_; try dsimp only [setn, addE, goneL] at H
  refine wpList_nil ?_
  refine th_n ⟨HS845, ?_⟩
  refine dn tbok (by kernel_rfl) [8, 9, 10, 11, 12] [] [(17, .int .i64 r834.1), (18, .int .i64 r834.2)] (fun w_ => []) 0 E (fun _ _ => by kernel_rfl) (by kernel_rfl) (fun w_ hS_ => trivial) (by kernel_rfl) HS845 ?_
  clear E; intro a E
  refine dr_done (by kernel_rfl) ?_
  clear HS845 HR846
  refine th_n ?_
  refine wp_seq ?_
  by_cases h854 : (r834.2 : Int) = 0
  ·
   replace hP := ite_t h854 hP
   obtain ⟨g855, hP⟩ := ask_inv hP
   obtain ⟨b856, e_b856⟩ := H.raddr 9 rfl (idx_pos g855)
   subst e_b856
   obtain ⟨A858, c859, hl860, hk861, H⟩ := H.subSl 9 true (el_row rfl) g855
   try dsimp only [addE] at H
   obtain ⟨r863, h864, hP⟩ := bind_inv hP
   have HR875 := H
   refine dr_start (S := fun w_ => Chg (atL []) w851 w_) (by kernel_rfl) ?_
   intro w872 hc873
   have HS874 : Chg (atL []) w851 w872 := hc873.mono (fun _ _ h_ => h_.elim)
   replace H := H.ext hc873
   refine dn tbok (by kernel_rfl) [0, 1, 2] [] [(133, .bool ((r834.2 : Int) == 0))] (fun w_ => []) 9 E (fun _ _ => by kernel_rfl) (by kernel_rfl) (fun w_ hS_ => trivial) (by kernel_rfl) HS874 ?_
   clear E; intro a E
   replace E := E.same (t := 133) (u := .bool true) rfl (congrArg Value.bool (beq_iff_eq.2 h854))
   refine dn tbok (by kernel_rfl) [3, 4, 5, 6, 7, 8] [.slice A858 (List.length (List.getD r682.1 (Int.toNat r834.1) [])) c859, .slice (some ⟨b41, o42, none⟩) (List.length xRanks) c14] [(137, .slice A858 (List.length (List.getD r682.1 (Int.toNat r834.1) [])) c859), (139, .slice (some ⟨b41, o42, none⟩) (List.length xRanks) c14)] (fun w_ => [0 ≤ r834.1 ∧ r834.1 < (((List.length r682.1) : Nat) : Int), World.cell? w_ ⟨b856, 0 + (Int.toNat r834.1) * 1, none⟩ = some (.slice A858 (List.length (List.getD r682.1 (Int.toNat r834.1) [])) c859), World.cell? w_ ⟨g35, 1, none⟩ = some (.slice (some ⟨b41, o42, none⟩) (List.length xRanks) c14)]) 3 E (fun _ _ => by kernel_rfl) (by kernel_rfl) (fun w_ hS_ => ⟨g855, hS_.cell (hl860) (HR875.blk [] 9 rds_row (idx_pos g855) rfl), (HR875.boxk [] hS_ 8 rfl rfl).cell (j := 1) rfl⟩) (by kernel_rfl) HS874 ?_
   clear E; intro a E
   refine wpAnyH_all (rs := [9]) (by kernel_rfl) (by simp) ?_
   refine all1 ?_
   refine wpOp_of_list rfl ?_
   obtain ⟨Fa876, Hc877, hb878⟩ := H.call [] [(10, false), (3, false)] rfl rfl trivial
   refine e_call E rfl rfl Try.func38 rfl rfl rfl (strat_lost_calls A858 c859 (some ⟨b41, o42, none⟩) c14 (List.getD r682.1 (Int.toNat r834.1) []) xRanks hk861 hk15 Hc877 h864) ?_
   rintro v879 w880 a ⟨rfl, HR881⟩ E_
   replace E := E_ _ rfl; clear E_
   obtain ⟨H_, hc882⟩ := hb878 _ _ HR881 rfl
   replace HS874 := HS874.ext (callS_ext hc882)
   replace H := H_; clear H_; try dsimp only [setn, addE, goneL] at H
   refine wpList_nil ?_
   refine th_n ⟨HS874, ?_⟩
   refine dn tbok (by kernel_rfl) [10, 11] [] [(8, .bool r863)] (fun w_ => []) 0 E (fun _ _ => by kernel_rfl) (by kernel_rfl) (fun w_ hS_ => trivial) (by kernel_rfl) HS874 ?_
   clear E; intro a E
   refine dr_done (by kernel_rfl) ?_
   clear HS874 HR875
   refine th_n ?_
   refine wp_ret ?_
   refine bl_ret ?_
   refine th_ret ?_
   obtain rfl := Option.some.inj hP
   refine ret1 E rfl rfl ?_
   exact ⟨_, rfl, rfl, H.sel [] rfl⟩
  replace hP := ite_f h854 hP
  have HR886 := H
  refine dr_start (S := fun w_ => Chg (atL []) w851 w_) (by kernel_rfl) ?_
  intro w883 hc884
  have HS885 : Chg (atL []) w851 w883 := hc884.mono (fun _ _ h_ => h_.elim)
  replace H := H.ext hc884
  refine dn tbok (by kernel_rfl) [0, 1, 2] [] [(133, .bool ((r834.2 : Int) == 0))] (fun w_ => []) 9 E (fun _ _ => by kernel_rfl) (by kernel_rfl) (fun w_ hS_ => trivial) (by kernel_rfl) HS885 ?_
  clear E; intro a E
  replace E := E.same (t := 133) (u := .bool false) rfl (congrArg Value.bool (beq_eq_false_iff_ne.2 h854))
  refine dn tbok (by kernel_rfl) [3, 4, 5, 6, 7, 8, 9, 10, 11] [] [(8, .bool false)] (fun w_ => []) 0 E (fun _ _ => by kernel_rfl) (by kernel_rfl) (fun w_ hS_ => trivial) (by kernel_rfl) HS885 ?_
  clear E; intro a E
  refine dr_done (by kernel_rfl) ?_
  clear HS885 HR886
  refine th_n ?_
  refine wp_ret ?_
  refine bl_ret ?_
  refine th_ret ?_
  obtain rfl := Option.some.inj hP
  refine ret1 E rfl rfl ?_
  exact ⟨_, rfl, rfl, H.sel [] rfl⟩
 replace E := E_; clear E_
 have h887 : ¬ ((List.getD xRanks (Int.toNat q) 0) < 0) := of_decide_eq_false hb_
 clear hb_; replace hP := ite_f h887 hP
 refine c_false E rfl ?_
 refine wp_skip ?_
 refine bl_n ?_
 refine th_n ?_
 refine wp_seq ?_
 refine wp_region_lit ?_
 refine vn tbok 1 [] [(8, .bool true)] [] E (by kernel_rfl) (by kernel_rfl) trivial ?_
 clear E; intro a E
 refine wpList_nil ?_
 refine th_n ?_
 refine wp_ret ?_
 obtain rfl := Option.some.inj hP
 refine ret1 E rfl rfl ?_
 exact ⟨_, rfl, rfl, H.sel [] rfl⟩

end Go.V
