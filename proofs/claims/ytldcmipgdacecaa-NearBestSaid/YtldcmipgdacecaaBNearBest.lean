/- Plain functions, and the calls that give them. -/
import Derived.Test.YtldcmipgdacecaaA4
set_option linter.all false
set_option linter.unusedVariables false
set_option linter.unnecessarySimpa false
set_option linter.unusedSimpArgs false
namespace Go.V
open Go Go.Proofs
/-! rejoinder/rejoinderlaw28.NearBest -/
def law28_NearBest_j0 (N : Nat) (aProps : Int) (aAccept : List Bool) (aGuard : List Int) (aNodes : List Nd) (t : List Int) : Option Bool :=
    Option.bind (law16_Small N aProps aAccept aGuard aNodes) fun r54 =>
    if r54 = true then
      if aProps < 0 then
        some true
      else
        some (decide (40 < (((List.length t) : Nat) : Int)))
    else
      some true
def law28_NearBest_j2 (N : Nat) (aProps : Int) (t : List Int) (other : List Int) (few130 : List Int) (i137 : Int) : Option Int :=
    if i137 < (((List.length other) : Nat) : Int) then
      ask (idx i137 (List.length other)) <|
      some (andV .u8 (List.getD other (Int.toNat i137) 0) (IntKind.u8.wrap ((shlV .u8 1 aProps) - 1)))
    else
      some (List.getD (few130 ++ ([andV .u8 (List.getD t (Int.toNat i137) 0) (IntKind.u8.wrap ((shlV .u8 1 aProps) - 1))] : List Int)) (Int.toNat i137) 0)
def law28_NearBest_l1 (N : Nat) (aProps : Int) (t : List Int) (other : List Int) : Nat → (List Int) → (List Int) → Int → Option ((List Int) × (List Int))
  | 0, _, _, _ => none
  | m206 + 1, few130, beside134, i137 =>
    if i137 < (((List.length t) : Nat) : Int) then
      ask (idx i137 (List.length t)) <|
      ask (0 ≤ aProps) <|
      ask (List.length few130 + List.length ([andV .u8 (List.getD t (Int.toNat i137) 0) (IntKind.u8.wrap ((shlV .u8 1 aProps) - 1))] : List Int) ≤ 1000000000) <|
      ask (idx i137 (List.length (few130 ++ ([andV .u8 (List.getD t (Int.toNat i137) 0) (IntKind.u8.wrap ((shlV .u8 1 aProps) - 1))] : List Int)))) <|
      Option.bind (law28_NearBest_j2 N aProps t other few130 i137) fun x260 =>
      ask (List.length beside134 + List.length ([x260] : List Int) ≤ 1000000000) <|
      ask (in64 (i137 + 1)) <|
      law28_NearBest_l1 N aProps t other m206 (few130 ++ ([andV .u8 (List.getD t (Int.toNat i137) 0) (IntKind.u8.wrap ((shlV .u8 1 aProps) - 1))] : List Int)) (beside134 ++ ([x260] : List Int)) (i137 + 1)
    else
      some (few130, beside134)
def law28_NearBest_j3 (N : Nat) (r26 : Bool) (r287 : (List Int) × Int × Bool × Int) : Option Bool :=
    if r26 = true then
      if r287.2.2.1 = true then
        some false
      else
        some (((((List.length r287.1) : Nat) : Int) : Int) == 0)
    else
      some false
def law28_NearBest_j4 (N : Nat) (aProps : Int) (aAccept : List Bool) (aGuard : List Int) (aNodes : List Nd) (r26 : Bool) (x207 : (List Int) × (List Int)) : Option Bool :=
    if r26 = true then
      Option.bind (law28_accepts N aProps aAccept aGuard aNodes x207.1) fun r345 =>
      if r345 = true then
        some false
      else
        Option.bind (law28_accepts N aProps aAccept aGuard aNodes x207.2) fun r355 =>
        some (!r355)
    else
      some false
def law28_NearBest_j5 (N : Nat) (aProps : Int) (aAccept : List Bool) (aGuard : List Int) (aNodes : List Nd) (x207 : (List Int) × (List Int)) (r287 : (List Int) × Int × Bool × Int) (r367 : Int × Int) (r376 : Int × Int) : Option Bool :=
    if (r367.2 : Int) = 0 then
      if (r376.2 : Int) = 0 then
        if ((((List.length r287.1) : Nat) : Int) : Int) = (((List.length x207.1) : Nat) : Int) then
          Option.bind (law28_accepts N aProps aAccept aGuard aNodes r287.1) fun r425 =>
          if r425 = true then
            if (r367.1 : Int) = r287.2.1 then
              Option.bind (law28_accepts N aProps aAccept aGuard aNodes x207.1) fun r438 =>
              some (!(r438 == ((r287.2.1 : Int) == 0)))
            else
              some true
          else
            some true
        else
          some true
      else
        some true
    else
      some true
def law28_NearBest_j6 (N : Nat) (aProps : Int) (aAccept : List Bool) (aGuard : List Int) (aNodes : List Nd) (x207 : (List Int) × (List Int)) (r287 : (List Int) × Int × Bool × Int) (r376 : Int × Int) : Option Bool :=
    Option.bind (law28_accepts N aProps aAccept aGuard aNodes x207.2) fun r479 =>
    if r479 = true then
      if r376.1 < r287.2.1 then
        some true
      else
        if (r376.1 : Int) = r287.2.1 then
          Option.bind (law28_before N x207.2 r287.1) fun r492 =>
          some r492
        else
          some false
    else
      some false
def law28_NearBest (N : Nat) (aProps : Int) (aAccept : List Bool) (aGuard : List Int) (aNodes : List Nd) (t : List Int) (other : List Int) : Option Bool :=
  Option.bind (law28_awake N) fun r26 =>
  Option.bind (law28_NearBest_j0 N aProps aAccept aGuard aNodes t) fun x49 =>
  if x49 = true then
    some r26
  else
    Option.bind (law28_NearBest_l1 N aProps t other N [] [] 0) fun x207 =>
    Option.bind (near_Near N aProps aAccept aGuard aNodes x207.1) fun r287 =>
    if (r287.2.2.2 : Int) = 0 then
      if r287.2.2.1 = true then
        Option.bind (near_Far N r287.1 x207.1) fun r367 =>
        Option.bind (near_Far N x207.2 x207.1) fun r376 =>
        Option.bind (law28_NearBest_j5 N aProps aAccept aGuard aNodes x207 r287 r367 r376) fun x414 =>
        if x414 = true then
          some false
        else
          Option.bind (law28_NearBest_j6 N aProps aAccept aGuard aNodes x207 r287 r376) fun x474 =>
          if x474 = true then
            some false
          else
            some r26
      else
        Option.bind (law28_NearBest_j4 N aProps aAccept aGuard aNodes r26 x207) fun x339 =>
        some x339
    else
      Option.bind (law28_NearBest_j3 N r26 r287) fun x305 =>
      some x305
set_option maxRecDepth 100000 in
set_option maxHeartbeats 4000000 in
theorem law28_NearBest_calls {N : Nat} {S Fa : Nat → Prop} {w0 : World} {r : Bool} (A1 : Option Addr) (c2 : Nat) (A5 : Option Addr) (c6 : Nat) (A9 : Option Addr) (c10 : Nat) (A13 : Option Addr) (c14 : Nat) (A17 : Option Addr) (c18 : Nat) (aProps : Int) (aAccept : List Bool) (aGuard : List Int) (aNodes : List Nd) (t : List Int) (other : List Int) (hk3 : List.length aAccept ≤ c2) (hk7 : List.length aGuard ≤ c6) (hk11 : List.length aNodes ≤ c10) (hk15 : List.length t ≤ c14) (hk19 : List.length other ≤ c18) (H : Hp S Fa w0 w0 [.ro false cBool A1 aAccept, .ro false (cInt .i64) A5 aGuard, .ro false cNode A9 aNodes, .ro false (cInt .u8) A13 t, .ro false (cInt .u8) A17 other]) (hP : law28_NearBest N aProps aAccept aGuard aNodes t other = some r) :
    Calls Try.prog 7 #[.agg #[.int .i64 aProps, .slice A1 (List.length aAccept) c2, .slice A5 (List.length aGuard) c6, .slice A9 (List.length aNodes) c10], .slice A13 (List.length t) c14, .slice A17 (List.length other) c18] w0 fun e w' => ∃ v, e = .returned v ∧ v = .bool r ∧ Hp S Fa w0 w' [] := by
 refine enterV (n := 172) Try.func7 rfl rfl rfl ?_
 intro a E
 replace E := E.pick [(0, .agg #[.int .i64 aProps, .slice A1 (List.length aAccept) c2, .slice A5 (List.length aGuard) c6, .slice A9 (List.length aNodes) c10]), (1, .slice A13 (List.length t) c14), (2, .slice A17 (List.length other) c18)] ⟨rfl, rfl, rfl, trivial⟩
 rw [law28_NearBest] at hP
 refine wp_seq ?_
 refine wp_region_lit ?_
 refine h_box H E rfl rfl rfl ?_
 intro w22 g21 a hc23 hg25 H_ E_
 replace E := E_ _ rfl; clear E_
 replace H := H_; clear H_; try dsimp only [setn, addE, goneL] at H
 refine vn tbok 1 [] [] [] E (by kernel_rfl) (by kernel_rfl) trivial ?_
 clear E; intro a E
 refine wpList_nil ?_
 refine th_n ?_
 refine wp_seq ?_
 refine wp_region_lit ?_
 obtain ⟨r26, h27, hP⟩ := bind_inv hP
 obtain ⟨Fa28, Hc29, hb30⟩ := H.call [] [] rfl rfl trivial
 refine e_call E rfl rfl Try.func23 rfl rfl rfl (law28_awake_calls    Hc29 h27) ?_
 rintro v31 w32 a ⟨rfl, HR33⟩ E_
 replace E := E_ _ rfl; clear E_
 obtain ⟨H_, hc34⟩ := hb30 _ _ HR33 rfl
 replace H := H_; clear H_; try dsimp only [setn, addE, goneL] at H
 refine vn tbok 1 [] [(7, .bool r26)] [] E (by kernel_rfl) (by kernel_rfl) trivial ?_
 clear E; intro a E
 refine wpList_nil ?_
 refine th_n ?_
 refine wp_seq ?_
 refine wp_seq ?_
 obtain ⟨x49, h50, hK51⟩ := bind_inv hP
 clear hP
 refine meet_cut (fun a w53 => ∃ (x52 : Bool), Fr a 172 [(1, .slice A13 (List.length t) c14), (2, .slice A17 (List.length other) c18), (3, .pointer (some ⟨g21, 0, none⟩)), (7, .bool r26), (33, .bool x52)] ∧ Hp S Fa w0 w53 [.ro false (cInt .u8) A13 t, .ro false (cInt .u8) A17 other, .ro false cBool A1 aAccept, .ro false (cInt .i64) A5 aGuard, .ro false cNode A9 aNodes, .box g21 34 [.int .i64 aProps, .slice A1 (List.length aAccept) c2, .slice A5 (List.length aGuard) c6, .slice A9 (List.length aNodes) c10]] ∧ x49 = x52) ?_ ?_
 ·
  have hP := h50; clear h50; rw [law28_NearBest_j0] at hP
  refine wp_region_lit ?_
  refine vn tbok 1 [.agg #[.int .i64 aProps, .slice A1 (List.length aAccept) c2, .slice A5 (List.length aGuard) c6, .slice A9 (List.length aNodes) c10]] [(21, .agg #[.int .i64 aProps, .slice A1 (List.length aAccept) c2, .slice A5 (List.length aGuard) c6, .slice A9 (List.length aNodes) c10])] [cellsAt w32 g21 (0) [.int .i64 aProps, .slice A1 (List.length aAccept) c2, .slice A5 (List.length aGuard) c6, .slice A9 (List.length aNodes) c10]] E (by kernel_rfl) (by kernel_rfl) ((H.box 5 rfl).sub 0 _ rfl) ?_
  clear E; intro a E
  obtain ⟨r54, h55, hP⟩ := bind_inv hP
  obtain ⟨Fa56, Hc57, hb58⟩ := H.call [] [(0, false), (1, false), (2, false)] rfl rfl trivial
  refine e_call E rfl rfl Try.func12 rfl rfl rfl (law16_Small_calls A1 c2 A5 c6 A9 c10 aProps aAccept aGuard aNodes hk3 hk7 hk11 Hc57 h55) ?_
  rintro v59 w60 a ⟨rfl, HR61⟩ E_
  replace E := E_ _ rfl; clear E_
  obtain ⟨H_, hc62⟩ := hb58 _ _ HR61 rfl
  replace H := H_; clear H_; try dsimp only [setn, addE, goneL] at H
  refine vn tbok 2 [] [(24, .bool (!r54))] [] E (by kernel_rfl) (by kernel_rfl) trivial ?_
  clear E; intro a E
  refine E.cases (t := 24) rfl (fun hb_ E_ => ?_) (fun hb_ E_ => ?_)
  ·
   replace E := E_; clear E_
   have h63 : ¬ (r54 = true) := (ne_true_of_eq_false (not_t hb_))
   clear hb_; replace hP := ite_f h63 hP
   refine vn tbok 9 [] [(33, .bool true)] [] E (by kernel_rfl) (by kernel_rfl) trivial ?_
   clear E; intro a E
   refine wpList_nil ?_
   have hx_ := Option.some.inj hP
   exact .inl ⟨rfl, true, E.pick _ ⟨rfl, rfl, rfl, rfl, rfl, trivial⟩, H.sel [3, 4, 0, 1, 2, 5] rfl, hx_.symm⟩
  replace E := E_; clear E_
  have h64 : r54 = true := (not_f hb_)
  clear hb_; replace hP := ite_t h64 hP
  refine vn tbok 5 [.int .i64 aProps] [(29, .bool (decide (aProps < 0)))] [World.cell? w60 ⟨g21, 0, none⟩ = some (.int .i64 aProps)] E (by kernel_rfl) (by kernel_rfl) ((H.box 5 rfl).cell (j := 0) rfl) ?_
  clear E; intro a E
  refine E.cases (t := 29) rfl (fun hb_ E_ => ?_) (fun hb_ E_ => ?_)
  ·
   replace E := E_; clear E_
   have h65 : aProps < 0 := of_decide_eq_true hb_
   clear hb_; replace hP := ite_t h65 hP
   refine vn tbok 4 [] [(33, .bool true)] [] E (by kernel_rfl) (by kernel_rfl) trivial ?_
   clear E; intro a E
   refine wpList_nil ?_
   have hx_ := Option.some.inj hP
   exact .inl ⟨rfl, true, E.pick _ ⟨rfl, rfl, rfl, rfl, rfl, trivial⟩, H.sel [3, 4, 0, 1, 2, 5] rfl, hx_.symm⟩
  replace E := E_; clear E_
  have h66 : ¬ (aProps < 0) := of_decide_eq_false hb_
  clear hb_; replace hP := ite_f h66 hP
  refine vn tbok 4 [] [(33, .bool (decide (40 < (((List.length t) : Nat) : Int))))] [] E (by kernel_rfl) (by kernel_rfl) trivial ?_
  clear E; intro a E
  refine wpList_nil ?_
  have hx_ := Option.some.inj hP
  exact .inl ⟨rfl, decide (40 < (((List.length t) : Nat) : Int)), E.pick _ ⟨rfl, rfl, rfl, rfl, rfl, trivial⟩, H.sel [3, 4, 0, 1, 2, 5] rfl, hx_.symm⟩
 clear E H h50; rintro a w53 ⟨x52, E, H, hx_⟩
 subst hx_; have hP := hK51; clear hK51
 refine th_n ?_
 refine E.cases (t := 33) rfl (fun hb_ E_ => ?_) (fun hb_ E_ => ?_)
 ·
  replace E := E_; clear E_
  have h67 : x49 = true := hb_
  clear hb_; replace hP := ite_t h67 hP
  refine c_true E rfl ?_
  refine wp_seq ?_
  refine wp_region_lit ?_
  refine vn tbok 2 [] [(6, .bool r26)] [] E (by kernel_rfl) (by kernel_rfl) trivial ?_
  clear E; intro a E
  refine wpList_nil ?_
  refine th_n ?_
  refine wp_ret ?_
  refine th_ret ?_
  obtain rfl := Option.some.inj hP
  refine ret1 E rfl rfl ?_
  exact ⟨_, rfl, rfl, H.sel [] rfl⟩
 replace E := E_; clear E_
 have h68 : ¬ (x49 = true) := (ne_true_of_eq_false hb_)
 clear hb_; replace hP := ite_f h68 hP
 refine c_false E rfl ?_
 refine wp_skip ?_
 refine th_n ?_
 refine wp_seq ?_
 refine wp_region_lit ?_
 refine vn tbok 2 [] [(8, .slice none 0 0), (9, .slice none 0 0)] [] E (by kernel_rfl) (by kernel_rfl) trivial ?_
 clear E; intro a E
 refine wpList_nil ?_
 refine th_n ?_
 refine wp_seq ?_
 refine wp_seq ?_
 refine wp_region_lit ?_
 refine vn tbok 1 [] [(10, .int .i64 0)] [] E (by kernel_rfl) (by kernel_rfl) trivial ?_
 clear E; intro a E
 refine wpList_nil ?_
 refine th_n ?_
 refine wp_block ?_
 obtain ⟨x207, hL208, hK209⟩ := bind_inv hP
 clear hP
 replace H := H.nilrow (cInt .u8) 56; try dsimp only [setn, addE, goneL] at H
 replace H := H.nilrow (cInt .u8) 56; try dsimp only [setn, addE, goneL] at H
 refine loop_cut (fun i_ a w_ => (i_ = 0 ∧ ∃ (x214 : (List Int) × (List Int)), ∃ (A200 : Option Addr) (c201 : Nat) (A204 : Option Addr) (c205 : Nat), Fr a 172 [(3, .pointer (some ⟨g21, 0, none⟩)), (7, .bool r26), (8, .slice A200 (List.length x214.1) c201), (9, .slice A204 (List.length x214.2) c205)] ∧ Hp S Fa w0 w_ [.ro false cBool A1 aAccept, .ro false (cInt .i64) A5 aGuard, .ro false cNode A9 aNodes, .box g21 34 [.int .i64 aProps, .slice A1 (List.length aAccept) c2, .slice A5 (List.length aGuard) c6, .slice A9 (List.length aNodes) c10], .row true (cInt .u8) 56 A200 c201 x214.1, .row true (cInt .u8) 56 A204 c205 x214.2] ∧ x207 = x214)) ?_ ?_
 ·
  refine loopV (fun m213 a w212 => ∃ (few130 : List Int) (beside134 : List Int) (i137 : Int), ∃ (A131 : Option Addr) (c132 : Nat) (A135 : Option Addr) (c136 : Nat), Fr a 172 [(1, .slice A13 (List.length t) c14), (2, .slice A17 (List.length other) c18), (3, .pointer (some ⟨g21, 0, none⟩)), (7, .bool r26), (8, .slice A131 (List.length few130) c132), (9, .slice A135 (List.length beside134) c136), (10, .int .i64 i137)] ∧ Hp S Fa w0 w212 [.ro false (cInt .u8) A13 t, .ro false (cInt .u8) A17 other, .ro false cBool A1 aAccept, .ro false (cInt .i64) A5 aGuard, .ro false cNode A9 aNodes, .box g21 34 [.int .i64 aProps, .slice A1 (List.length aAccept) c2, .slice A5 (List.length aGuard) c6, .slice A9 (List.length aNodes) c10], .row true (cInt .u8) 56 A131 c132 few130, .row true (cInt .u8) 56 A135 c136 beside134] ∧ law28_NearBest_l1 N aProps t other m213 few130 beside134 i137 = some x207) N ?_ ?_
  ·
   exact ⟨[], [], 0, none, 0, none, 0, E.pick _ ⟨rfl, rfl, rfl, rfl, rfl, rfl, rfl, trivial⟩, H.sel [0, 1, 2, 3, 4, 5, 6, 7] rfl, hL208⟩
  clear E H hL208; intro m213 a w212 hI_
  obtain ⟨few130, beside134, i137, A131, c132, A135, c136, E, H, hP⟩ := hI_
  obtain ⟨m206, rfl⟩ : ∃ q_, m213 = q_ + 1 := by cases m213 with | zero => rw [law28_NearBest_l1] at hP; cases hP | succ q_ => exact ⟨q_, rfl⟩
  rw [law28_NearBest_l1] at hP
  refine wp_seq ?_
  refine wp_seq ?_
  refine wp_region_lit ?_
  refine vn tbok 4 [] [(38, .bool (decide (i137 < (((List.length t) : Nat) : Int))))] [] E (by kernel_rfl) (by kernel_rfl) trivial ?_
  clear E; intro a E
  refine wpList_nil ?_
  refine th_n ?_
  refine E.cases (t := 38) rfl (fun hb_ E_ => ?_) (fun hb_ E_ => ?_)
  ·
   replace E := E_; clear E_
   have h215 : i137 < (((List.length t) : Nat) : Int) := of_decide_eq_true hb_
   clear hb_; replace hP := ite_t h215 hP
   refine c_true E rfl ?_
   refine wp_skip ?_
   refine th_n ?_
   refine wp_seq ?_
   refine wp_block ?_
   refine wp_seq ?_
   obtain ⟨g216, hP⟩ := ask_inv hP
   obtain ⟨b217, o218, e_b217⟩ := (H.rd 0 rds_ro).addr (idx_pos g216)
   subst e_b217
   obtain ⟨g219, hP⟩ := ask_inv hP
   obtain ⟨g225, hP⟩ := ask_inv hP
   have HR234 := H
   refine dr_start (S := fun w_ => Chg (atL [.row true (cInt .u8) 56 A131 c132 few130]) w212 w_) (by kernel_rfl) ?_
   intro w231 hc232
   have HS233 : Chg (atL [.row true (cInt .u8) 56 A131 c132 few130]) w212 w231 := hc232.mono (fun _ _ h_ => h_.elim)
   replace H := H.ext hc232
   refine dn tbok (by kernel_rfl) [0, 1, 2, 3, 4, 5, 6, 7, 8, 9] [.int .u8 (List.getD t (Int.toNat i137) 0), .int .i64 aProps, .int .u8 (shlV .u8 1 aProps), .int .u8 (IntKind.u8.wrap ((shlV .u8 1 aProps) - 1)), .int .u8 (andV .u8 (List.getD t (Int.toNat i137) 0) (IntKind.u8.wrap ((shlV .u8 1 aProps) - 1)))] [(41, .slice A131 (List.length few130) c132), (50, .int .u8 (andV .u8 (List.getD t (Int.toNat i137) 0) (IntKind.u8.wrap ((shlV .u8 1 aProps) - 1))))] (fun w_ => [0 ≤ i137 ∧ i137 < (((List.length t) : Nat) : Int), World.cell? w_ ⟨b217, o218 + (Int.toNat i137) * 1, none⟩ = some (.int .u8 (List.getD t (Int.toNat i137) 0)), World.cell? w_ ⟨g21, 0, none⟩ = some (.int .i64 aProps), 0 ≤ aProps ∧ IntKind.u8.wrap (1 * 2 ^ (min (Int.toNat aProps) (IntKind.bits .u8))) = shlV .u8 1 aProps, IntKind.u8.wrap ((shlV .u8 1 aProps) - 1) = IntKind.u8.wrap ((shlV .u8 1 aProps) - 1), IntKind.u8.wrap (BitVec.ofInt (IntKind.bits .u8) (List.getD t (Int.toNat i137) 0) &&& BitVec.ofInt (IntKind.bits .u8) (IntKind.u8.wrap ((shlV .u8 1 aProps) - 1))).toNat = andV .u8 (List.getD t (Int.toNat i137) 0) (IntKind.u8.wrap ((shlV .u8 1 aProps) - 1))]) 3 E (fun _ _ => by kernel_rfl) (by kernel_rfl) (fun w_ hS_ => ⟨g216, Rds.at1 (HR234.rdk [6] hS_ 0 rds_ro rfl) 0 g216, (HR234.boxk [6] hS_ 5 rfl rfl).cell (j := 0) rfl, ⟨g219, rfl⟩, rfl, rfl⟩) (by kernel_rfl) HS233 ?_
   clear E; intro a E
   refine wpAnyH_all (rs := [10]) (by kernel_rfl) (by simp) ?_
   refine all1 ?_
   refine wpOp_of_list rfl ?_
   refine h_buildSlice (ps := [(0, .int .u8 (andV .u8 (List.getD t (Int.toNat i137) 0) (IntKind.u8.wrap ((shlV .u8 1 aProps) - 1))))]) (cs := [.int .u8 (andV .u8 (List.getD t (Int.toNat i137) 0) (IntKind.u8.wrap ((shlV .u8 1 aProps) - 1)))]) H E rfl rfl tbok rfl rfl (by kernel_rfl) ?_
   intro w236 g235 a hc237 hg239 H_ E_
   replace E := E_ _ rfl; clear E_
   have hin240 : ∀ q_, q_ < w212.heap.size → q_ = g235 → (atL [.row true (cInt .u8) 56 A131 c132 few130]) q_ := fun q_ h1_ h2_ => by have hs_ := HS233.size; have h4_ : q_ = g235 := h2_; exfalso; omega
   replace HS233 := HS233.ext hc237
   replace H := H_; clear H_; try dsimp only [setn, addE, goneL] at H
   refine wpList_nil ?_
   refine th_n ⟨HS233, ?_⟩
   refine wpAnyH_all (rs := [11]) (by kernel_rfl) (by simp) ?_
   refine all1 ?_
   refine wpOp_of_list rfl ?_
   refine h_append (cInt .u8) (xs := few130) (ys := ([andV .u8 (List.getD t (Int.toNat i137) 0) (IntKind.u8.wrap ((shlV .u8 1 aProps) - 1))] : List Int)) (0 : Int) H 6 rfl E rfl rfl tbok rfl rfl rfl rfl rfl (fun _ _ => rfl) rfl rfl (fun _ HF_ => HF_.srcB 8 rfl (⟨_, _, rfl, rfl, rfl⟩)) g225 ?_
   intro w241 A242 c243 a hc244 hA245 H_ E_
   replace E := E_ _ rfl; clear E_
   have hin246 : ∀ q_, q_ < w212.heap.size → At A242 q_ → (atL [.row true (cInt .u8) 56 A131 c132 few130]) q_ := fun q_ h1_ h2_ => (hA245 q_ h2_).elim ((fun _ _ h_ => Or.inl h_) q_ h1_) (fun h3_ => by have hs_ := HS233.size; exfalso; omega)
   replace HS233 := HS233.trans hc244 (fun k_ hk_ h_ => (fun _ _ h_ => Or.inl h_) k_ hk_ h_)
   replace H := H_; clear H_; try dsimp only [setn, addE, goneL] at H
   refine wpList_nil ?_
   refine th_n ⟨HS233, ?_⟩
   refine dn tbok (by kernel_rfl) [12] [] [(8, .slice A242 (List.length (few130 ++ ([andV .u8 (List.getD t (Int.toNat i137) 0) (IntKind.u8.wrap ((shlV .u8 1 aProps) - 1))] : List Int))) c243)] (fun w_ => []) 0 E (fun _ _ => by kernel_rfl) (by kernel_rfl) (fun w_ hS_ => trivial) (by kernel_rfl) HS233 ?_
   clear E; intro a E
   refine dr_done (by kernel_rfl) ?_
   clear HS233 HR234
   refine th_n ?_
   refine wp_seq ?_
   refine wp_region_lit ?_
   obtain ⟨g247, hP⟩ := ask_inv hP
   obtain ⟨b248, e_b248⟩ := H.raddr 6 rfl (idx_pos g247)
   subst e_b248
   refine vn tbok 5 [.int .u8 (List.getD (few130 ++ ([andV .u8 (List.getD t (Int.toNat i137) 0) (IntKind.u8.wrap ((shlV .u8 1 aProps) - 1))] : List Int)) (Int.toNat i137) 0)] [(11, .int .u8 (List.getD (few130 ++ ([andV .u8 (List.getD t (Int.toNat i137) 0) (IntKind.u8.wrap ((shlV .u8 1 aProps) - 1))] : List Int)) (Int.toNat i137) 0))] [0 ≤ i137 ∧ i137 < (((List.length (few130 ++ ([andV .u8 (List.getD t (Int.toNat i137) 0) (IntKind.u8.wrap ((shlV .u8 1 aProps) - 1))] : List Int))) : Nat) : Int), World.cell? w241 ⟨b248, 0 + (Int.toNat i137) * 1, none⟩ = some (.int .u8 (List.getD (few130 ++ ([andV .u8 (List.getD t (Int.toNat i137) 0) (IntKind.u8.wrap ((shlV .u8 1 aProps) - 1))] : List Int)) (Int.toNat i137) 0))] E (by kernel_rfl) (by kernel_rfl) ⟨g247, Rds.at1 (H.rd 6 rds_row) 0 g247⟩ ?_
   clear E; intro a E
   refine wpList_nil ?_
   refine th_n ?_
   refine wp_seq ?_
   refine wp_seq ?_
   refine wp_region_lit ?_
   refine vn tbok 4 [] [(60, .bool (decide (i137 < (((List.length other) : Nat) : Int))))] [] E (by kernel_rfl) (by kernel_rfl) trivial ?_
   clear E; intro a E
   refine wpList_nil ?_
   refine th_n ?_
   obtain ⟨x260, h261, hK262⟩ := bind_inv hP
   clear hP
   refine meet_cut (fun a w264 => ∃ (x263 : Int), Fr a 172 [(1, .slice (some ⟨b217, o218, none⟩) (List.length t) c14), (2, .slice A17 (List.length other) c18), (3, .pointer (some ⟨g21, 0, none⟩)), (7, .bool r26), (8, .slice (some ⟨b248, 0, none⟩) (List.length (few130 ++ ([andV .u8 (List.getD t (Int.toNat i137) 0) (IntKind.u8.wrap ((shlV .u8 1 aProps) - 1))] : List Int))) c243), (9, .slice A135 (List.length beside134) c136), (10, .int .i64 i137), (11, .int .u8 x263)] ∧ Hp S Fa w0 w264 [.ro false (cInt .u8) (some ⟨b217, o218, none⟩) t, .ro false (cInt .u8) A17 other, .ro false cBool A1 aAccept, .ro false (cInt .i64) A5 aGuard, .ro false cNode A9 aNodes, .box g21 34 [.int .i64 aProps, .slice A1 (List.length aAccept) c2, .slice A5 (List.length aGuard) c6, .slice A9 (List.length aNodes) c10], .row true (cInt .u8) 56 (some ⟨b248, 0, none⟩) c243 (few130 ++ ([andV .u8 (List.getD t (Int.toNat i137) 0) (IntKind.u8.wrap ((shlV .u8 1 aProps) - 1))] : List Int)), .row true (cInt .u8) 56 A135 c136 beside134] ∧ x260 = x263) ?_ ?_
   ·
    have hP := h261; clear h261; rw [law28_NearBest_j2] at hP
    refine E.cases (t := 60) rfl (fun hb_ E_ => ?_) (fun hb_ E_ => ?_)
    ·
     replace E := E_; clear E_
     have h265 : i137 < (((List.length other) : Nat) : Int) := of_decide_eq_true hb_
     clear hb_; replace hP := ite_t h265 hP
     refine c_true E rfl ?_
     obtain ⟨g266, hP⟩ := ask_inv hP
     obtain ⟨b267, o268, e_b267⟩ := (H.rd 1 rds_ro).addr (idx_pos g266)
     subst e_b267
     have HR272 := H
     refine dr_start (S := fun w_ => Chg (atL []) w241 w_) (by kernel_rfl) ?_
     intro w269 hc270
     have HS271 : Chg (atL []) w241 w269 := hc270.mono (fun _ _ h_ => h_.elim)
     replace H := H.ext hc270
     refine dn tbok (by kernel_rfl) [0, 1, 2, 3, 4, 5, 6, 7, 8, 9] [.int .u8 (List.getD other (Int.toNat i137) 0), .int .i64 aProps, .int .u8 (shlV .u8 1 aProps), .int .u8 (IntKind.u8.wrap ((shlV .u8 1 aProps) - 1)), .int .u8 (andV .u8 (List.getD other (Int.toNat i137) 0) (IntKind.u8.wrap ((shlV .u8 1 aProps) - 1)))] [(11, .int .u8 (andV .u8 (List.getD other (Int.toNat i137) 0) (IntKind.u8.wrap ((shlV .u8 1 aProps) - 1))))] (fun w_ => [0 ≤ i137 ∧ i137 < (((List.length other) : Nat) : Int), World.cell? w_ ⟨b267, o268 + (Int.toNat i137) * 1, none⟩ = some (.int .u8 (List.getD other (Int.toNat i137) 0)), World.cell? w_ ⟨g21, 0, none⟩ = some (.int .i64 aProps), 0 ≤ aProps ∧ IntKind.u8.wrap (1 * 2 ^ (min (Int.toNat aProps) (IntKind.bits .u8))) = shlV .u8 1 aProps, IntKind.u8.wrap ((shlV .u8 1 aProps) - 1) = IntKind.u8.wrap ((shlV .u8 1 aProps) - 1), IntKind.u8.wrap (BitVec.ofInt (IntKind.bits .u8) (List.getD other (Int.toNat i137) 0) &&& BitVec.ofInt (IntKind.bits .u8) (IntKind.u8.wrap ((shlV .u8 1 aProps) - 1))).toNat = andV .u8 (List.getD other (Int.toNat i137) 0) (IntKind.u8.wrap ((shlV .u8 1 aProps) - 1))]) 0 E (fun _ _ => by kernel_rfl) (by kernel_rfl) (fun w_ hS_ => ⟨g266, Rds.at1 (HR272.rdk [] hS_ 1 rds_ro rfl) 0 g266, (HR272.boxk [] hS_ 5 rfl rfl).cell (j := 0) rfl, ⟨g219, rfl⟩, rfl, rfl⟩) (by kernel_rfl) HS271 ?_
     clear E; intro a E
     refine dr_done (by kernel_rfl) ?_
     clear HS271 HR272
     have hx_ := Option.some.inj hP
     exact .inl ⟨rfl, andV .u8 (List.getD other (Int.toNat i137) 0) (IntKind.u8.wrap ((shlV .u8 1 aProps) - 1)), E.pick _ ⟨rfl, rfl, rfl, rfl, rfl, rfl, rfl, rfl, trivial⟩, H.sel [0, 1, 2, 3, 4, 5, 6, 7] rfl, hx_.symm⟩
    replace E := E_; clear E_
    have h273 : ¬ (i137 < (((List.length other) : Nat) : Int)) := of_decide_eq_false hb_
    clear hb_; replace hP := ite_f h273 hP
    refine c_false E rfl ?_
    refine wp_skip ?_
    have hx_ := Option.some.inj hP
    exact .inl ⟨rfl, (List.getD (few130 ++ ([andV .u8 (List.getD t (Int.toNat i137) 0) (IntKind.u8.wrap ((shlV .u8 1 aProps) - 1))] : List Int)) (Int.toNat i137) 0), E.pick _ ⟨rfl, rfl, rfl, rfl, rfl, rfl, rfl, rfl, trivial⟩, H.sel [0, 1, 2, 3, 4, 5, 6, 7] rfl, hx_.symm⟩
   clear E H h261; rintro a w264 ⟨x263, E, H, hx_⟩
   subst hx_; have hP := hK262; clear hK262
   refine th_n ?_
   refine wp_region_lit ?_
   refine vn tbok 2 [] [(70, .slice A135 (List.length beside134) c136), (71, .int .u8 x260)] [] E (by kernel_rfl) (by kernel_rfl) trivial ?_
   clear E; intro a E
   refine h_buildSlice (ps := [(0, .int .u8 x260)]) (cs := [.int .u8 x260]) H E rfl rfl tbok rfl rfl (by kernel_rfl) ?_
   intro w275 g274 a hc276 hg278 H_ E_
   replace E := E_ _ rfl; clear E_
   replace H := H_; clear H_; try dsimp only [setn, addE, goneL] at H
   obtain ⟨g279, hP⟩ := ask_inv hP
   refine h_append (cInt .u8) (xs := beside134) (ys := ([x260] : List Int)) (0 : Int) H 7 rfl E rfl rfl tbok rfl rfl rfl rfl rfl (fun _ _ => rfl) rfl rfl (fun _ HF_ => HF_.srcB 8 rfl (⟨_, _, rfl, rfl, rfl⟩)) g279 ?_
   intro w280 A281 c282 a hc283 hA284 H_ E_
   replace E := E_ _ rfl; clear E_
   replace H := H_; clear H_; try dsimp only [setn, addE, goneL] at H
   refine vn tbok 1 [] [(9, .slice A281 (List.length (beside134 ++ ([x260] : List Int))) c282)] [] E (by kernel_rfl) (by kernel_rfl) trivial ?_
   clear E; intro a E
   refine wpList_nil ?_
   refine bl_n ?_
   refine th_n ?_
   refine wp_region_lit ?_
   obtain ⟨g285, hP⟩ := ask_inv hP
   refine vn tbok 3 [.int .i64 (i137 + 1)] [(10, .int .i64 (i137 + 1))] [IntKind.i64.wrap (i137 + 1) = i137 + 1] E (by kernel_rfl) (by kernel_rfl) (wrap_in g285) ?_
   clear E; intro a E
   refine wpList_nil ?_
   exact th_n ⟨m206, Nat.lt_succ_self _, few130 ++ ([andV .u8 (List.getD t (Int.toNat i137) 0) (IntKind.u8.wrap ((shlV .u8 1 aProps) - 1))] : List Int), beside134 ++ ([x260] : List Int), i137 + 1, (some ⟨b248, 0, none⟩), c243, A281, c282, E.pick _ ⟨rfl, rfl, rfl, rfl, rfl, rfl, rfl, trivial⟩, H.sel [0, 1, 2, 3, 4, 5, 6, 7] rfl, hP⟩
  replace E := E_; clear E_
  have h286 : ¬ (i137 < (((List.length t) : Nat) : Int)) := of_decide_eq_false hb_
  clear hb_; replace hP := ite_f h286 hP
  refine c_false E rfl ?_
  refine wp_exit ?_
  refine th_exit ?_
  have hx_ := Option.some.inj hP
  refine th_exit (.inl ⟨0, rfl, ?_⟩)
  exact ⟨rfl, (few130, beside134), A131, c132, A135, c136, E.pick _ ⟨rfl, rfl, rfl, rfl, trivial⟩, H.sel [2, 3, 4, 5, 6, 7] rfl, hx_.symm⟩
 clear E H hL208; intro i_ a w212 hM_
 obtain ⟨rfl, x214, A200, c201, A204, c205, E, H, hx_⟩ := hM_
 subst hx_; have hP := hK209; clear hK209
 refine bl_hit ?_
 refine th_n ?_
 refine wp_seq ?_
 refine wp_region_lit ?_
 refine vn tbok 2 [.agg #[.int .i64 aProps, .slice A1 (List.length aAccept) c2, .slice A5 (List.length aGuard) c6, .slice A9 (List.length aNodes) c10]] [(75, .agg #[.int .i64 aProps, .slice A1 (List.length aAccept) c2, .slice A5 (List.length aGuard) c6, .slice A9 (List.length aNodes) c10]), (76, .slice A200 (List.length x207.1) c201)] [cellsAt w212 g21 (0) [.int .i64 aProps, .slice A1 (List.length aAccept) c2, .slice A5 (List.length aGuard) c6, .slice A9 (List.length aNodes) c10]] E (by kernel_rfl) (by kernel_rfl) ((H.box 3 rfl).sub 0 _ rfl) ?_
 clear E; intro a E
 obtain ⟨r287, h288, hP⟩ := bind_inv hP
 obtain ⟨Fa289, Hc290, hb291⟩ := H.call [] [(0, false), (1, false), (2, false), (4, false)] rfl rfl trivial
 refine e_call E rfl rfl Try.func14 rfl rfl rfl (near_Near_calls A1 c2 A5 c6 A9 c10 A200 c201 aProps aAccept aGuard aNodes x207.1 hk3 hk7 hk11 (H.rcap 4 rfl) Hc290 h288) ?_
 rintro v292 w293 a ⟨A296, c297, rfl, HR294⟩ E_
 replace E := E_ _ rfl; clear E_
 obtain ⟨H_, hc295⟩ := hb291 _ _ HR294 rfl
 replace H := H_; clear H_; try dsimp only [setn, addE, goneL] at H
 refine vn tbok 9 [] [(12, .slice A296 (List.length r287.1) c297), (13, .int .i64 r287.2.1), (14, .bool r287.2.2.1), (15, .int .i64 r287.2.2.2)] [] E (by kernel_rfl) (by kernel_rfl) trivial ?_
 clear E; intro a E
 refine wpList_nil ?_
 refine th_n ?_
 refine wp_seq ?_
 refine wp_seq ?_
 refine wp_region_lit ?_
 refine vn tbok 2 [] [(83, .bool ((r287.2.2.2 : Int) != 0))] [] E (by kernel_rfl) (by kernel_rfl) trivial ?_
 clear E; intro a E
 refine wpList_nil ?_
 refine th_n ?_
 refine E.cases (t := 83) rfl (fun hb_ E_ => ?_) (fun hb_ E_ => ?_)
 ·
  replace E := E_; clear E_
  have h299 : ¬ ((r287.2.2.2 : Int) = 0) := bne_iff_ne.1 hb_
  clear hb_; replace hP := ite_f h299 hP
  refine c_true E rfl ?_
  refine wp_seq ?_
  obtain ⟨x305, h306, hK307⟩ := bind_inv hP
  clear hP
  refine meet_cut (fun a w309 => ∃ (x308 : Bool), Fr a 172 [(6, .bool x308)] ∧ Hp S Fa w0 w309 [] ∧ x305 = x308) ?_ ?_
  ·
   have hP := h306; clear h306; rw [law28_NearBest_j3] at hP
   refine wp_region_lit ?_
   refine vn tbok 2 [] [(85, .bool r26)] [] E (by kernel_rfl) (by kernel_rfl) trivial ?_
   clear E; intro a E
   refine E.cases (t := 85) rfl (fun hb_ E_ => ?_) (fun hb_ E_ => ?_)
   ·
    replace E := E_; clear E_
    have h310 : r26 = true := hb_
    clear hb_; replace hP := ite_t h310 hP
    refine vn tbok 4 [] [(89, .bool (!r287.2.2.1))] [] E (by kernel_rfl) (by kernel_rfl) trivial ?_
    clear E; intro a E
    refine E.cases (t := 89) rfl (fun hb_ E_ => ?_) (fun hb_ E_ => ?_)
    ·
     replace E := E_; clear E_
     have h311 : ¬ (r287.2.2.1 = true) := (ne_true_of_eq_false (not_t hb_))
     clear hb_; replace hP := ite_f h311 hP
     refine vn tbok 5 [] [(6, .bool (((((List.length r287.1) : Nat) : Int) : Int) == 0))] [] E (by kernel_rfl) (by kernel_rfl) trivial ?_
     clear E; intro a E
     refine wpList_nil ?_
     have hx_ := Option.some.inj hP
     exact .inl ⟨rfl, ((((List.length r287.1) : Nat) : Int) : Int) == 0, E.pick _ ⟨rfl, trivial⟩, H.sel [] rfl, hx_.symm⟩
    replace E := E_; clear E_
    have h312 : r287.2.2.1 = true := (not_f hb_)
    clear hb_; replace hP := ite_t h312 hP
    refine vn tbok 5 [] [(6, .bool false)] [] E (by kernel_rfl) (by kernel_rfl) trivial ?_
    clear E; intro a E
    refine wpList_nil ?_
    have hx_ := Option.some.inj hP
    exact .inl ⟨rfl, false, E.pick _ ⟨rfl, trivial⟩, H.sel [] rfl, hx_.symm⟩
   replace E := E_; clear E_
   have h313 : ¬ (r26 = true) := (ne_true_of_eq_false hb_)
   clear hb_; replace hP := ite_f h313 hP
   refine vn tbok 9 [] [(6, .bool false)] [] E (by kernel_rfl) (by kernel_rfl) trivial ?_
   clear E; intro a E
   refine wpList_nil ?_
   have hx_ := Option.some.inj hP
   exact .inl ⟨rfl, false, E.pick _ ⟨rfl, trivial⟩, H.sel [] rfl, hx_.symm⟩
  clear E H h306; rintro a w309 ⟨x308, E, H, hx_⟩
  subst hx_; have hP := hK307; clear hK307
  refine th_n ?_
  refine wp_ret ?_
  refine th_ret ?_
  obtain rfl := Option.some.inj hP
  refine ret1 E rfl rfl ?_
  exact ⟨_, rfl, rfl, H.sel [] rfl⟩
 replace E := E_; clear E_
 have h314 : (r287.2.2.2 : Int) = 0 := bne_eq_false_iff_eq.1 hb_
 clear hb_; replace hP := ite_t h314 hP
 refine c_false E rfl ?_
 refine wp_skip ?_
 refine th_n ?_
 refine wp_seq ?_
 refine wp_seq ?_
 refine wp_region_lit ?_
 refine vn tbok 2 [] [(95, .bool (!r287.2.2.1))] [] E (by kernel_rfl) (by kernel_rfl) trivial ?_
 clear E; intro a E
 refine wpList_nil ?_
 refine th_n ?_
 refine E.cases (t := 95) rfl (fun hb_ E_ => ?_) (fun hb_ E_ => ?_)
 ·
  replace E := E_; clear E_
  have h315 : ¬ (r287.2.2.1 = true) := (ne_true_of_eq_false (not_t hb_))
  clear hb_; replace hP := ite_f h315 hP
  refine c_true E rfl ?_
  refine wp_seq ?_
  obtain ⟨x339, h340, hK341⟩ := bind_inv hP
  clear hP
  refine meet_cut (fun a w343 => ∃ (x342 : Bool), Fr a 172 [(6, .bool x342)] ∧ Hp S Fa w0 w343 [] ∧ x339 = x342) ?_ ?_
  ·
   have hP := h340; clear h340; rw [law28_NearBest_j4] at hP
   refine wp_region_lit ?_
   refine vn tbok 2 [] [(97, .bool r26)] [] E (by kernel_rfl) (by kernel_rfl) trivial ?_
   clear E; intro a E
   refine E.cases (t := 97) rfl (fun hb_ E_ => ?_) (fun hb_ E_ => ?_)
   ·
    replace E := E_; clear E_
    have h344 : r26 = true := hb_
    clear hb_; replace hP := ite_t h344 hP
    refine vn tbok 2 [.agg #[.int .i64 aProps, .slice A1 (List.length aAccept) c2, .slice A5 (List.length aGuard) c6, .slice A9 (List.length aNodes) c10]] [(98, .agg #[.int .i64 aProps, .slice A1 (List.length aAccept) c2, .slice A5 (List.length aGuard) c6, .slice A9 (List.length aNodes) c10]), (99, .slice A200 (List.length x207.1) c201)] [cellsAt w293 g21 (0) [.int .i64 aProps, .slice A1 (List.length aAccept) c2, .slice A5 (List.length aGuard) c6, .slice A9 (List.length aNodes) c10]] E (by kernel_rfl) (by kernel_rfl) ((H.box 3 rfl).sub 0 _ rfl) ?_
    clear E; intro a E
    obtain ⟨r345, h346, hP⟩ := bind_inv hP
    obtain ⟨Fa347, Hc348, hb349⟩ := H.call [] [(0, false), (1, false), (2, false), (4, false)] rfl rfl trivial
    refine e_call E rfl rfl Try.func24 rfl rfl rfl (law28_accepts_calls A1 c2 A5 c6 A9 c10 A200 c201 aProps aAccept aGuard aNodes x207.1 hk3 hk7 hk11 (H.rcap 4 rfl) Hc348 h346) ?_
    rintro v350 w351 a ⟨rfl, HR352⟩ E_
    replace E := E_ _ rfl; clear E_
    obtain ⟨H_, hc353⟩ := hb349 _ _ HR352 rfl
    replace H := H_; clear H_; try dsimp only [setn, addE, goneL] at H
    refine vn tbok 3 [] [(103, .bool (!r345))] [] E (by kernel_rfl) (by kernel_rfl) trivial ?_
    clear E; intro a E
    refine E.cases (t := 103) rfl (fun hb_ E_ => ?_) (fun hb_ E_ => ?_)
    ·
     replace E := E_; clear E_
     have h354 : ¬ (r345 = true) := (ne_true_of_eq_false (not_t hb_))
     clear hb_; replace hP := ite_f h354 hP
     refine vn tbok 2 [.agg #[.int .i64 aProps, .slice A1 (List.length aAccept) c2, .slice A5 (List.length aGuard) c6, .slice A9 (List.length aNodes) c10]] [(104, .agg #[.int .i64 aProps, .slice A1 (List.length aAccept) c2, .slice A5 (List.length aGuard) c6, .slice A9 (List.length aNodes) c10]), (105, .slice A204 (List.length x207.2) c205)] [cellsAt w351 g21 (0) [.int .i64 aProps, .slice A1 (List.length aAccept) c2, .slice A5 (List.length aGuard) c6, .slice A9 (List.length aNodes) c10]] E (by kernel_rfl) (by kernel_rfl) ((H.box 3 rfl).sub 0 _ rfl) ?_
     clear E; intro a E
     obtain ⟨r355, h356, hP⟩ := bind_inv hP
     obtain ⟨Fa357, Hc358, hb359⟩ := H.call [] [(0, false), (1, false), (2, false), (5, false)] rfl rfl trivial
     refine e_call E rfl rfl Try.func24 rfl rfl rfl (law28_accepts_calls A1 c2 A5 c6 A9 c10 A204 c205 aProps aAccept aGuard aNodes x207.2 hk3 hk7 hk11 (H.rcap 5 rfl) Hc358 h356) ?_
     rintro v360 w361 a ⟨rfl, HR362⟩ E_
     replace E := E_ _ rfl; clear E_
     obtain ⟨H_, hc363⟩ := hb359 _ _ HR362 rfl
     replace H := H_; clear H_; try dsimp only [setn, addE, goneL] at H
     refine vn tbok 3 [] [(6, .bool (!r355))] [] E (by kernel_rfl) (by kernel_rfl) trivial ?_
     clear E; intro a E
     refine wpList_nil ?_
     have hx_ := Option.some.inj hP
     exact .inl ⟨rfl, !r355, E.pick _ ⟨rfl, trivial⟩, H.sel [] rfl, hx_.symm⟩
    replace E := E_; clear E_
    have h364 : r345 = true := (not_f hb_)
    clear hb_; replace hP := ite_t h364 hP
    refine vn tbok 6 [] [(6, .bool false)] [] E (by kernel_rfl) (by kernel_rfl) trivial ?_
    clear E; intro a E
    refine wpList_nil ?_
    have hx_ := Option.some.inj hP
    exact .inl ⟨rfl, false, E.pick _ ⟨rfl, trivial⟩, H.sel [] rfl, hx_.symm⟩
   replace E := E_; clear E_
   have h365 : ¬ (r26 = true) := (ne_true_of_eq_false hb_)
   clear hb_; replace hP := ite_f h365 hP
   refine vn tbok 12 [] [(6, .bool false)] [] E (by kernel_rfl) (by kernel_rfl) trivial ?_
   clear E; intro a E
   refine wpList_nil ?_
   have hx_ := Option.some.inj hP
   exact .inl ⟨rfl, false, E.pick _ ⟨rfl, trivial⟩, H.sel [] rfl, hx_.symm⟩
  clear E H h340; rintro a w343 ⟨x342, E, H, hx_⟩
  subst hx_; have hP := hK341; clear hK341
  refine th_n ?_
  refine wp_ret ?_
  refine th_ret ?_
  obtain rfl := Option.some.inj hP
  refine ret1 E rfl rfl ?_
  exact ⟨_, rfl, rfl, H.sel [] rfl⟩
 replace E := E_; clear E_
 have h366 : r287.2.2.1 = true := (not_f hb_)
 clear hb_; replace hP := ite_t h366 hP
 refine c_false E rfl ?_
 refine wp_skip ?_
 refine th_n ?_
 refine wp_seq ?_
 refine wp_region_lit ?_
 refine vn tbok 2 [] [(110, .slice A296 (List.length r287.1) c297), (111, .slice A200 (List.length x207.1) c201)] [] E (by kernel_rfl) (by kernel_rfl) trivial ?_
 clear E; intro a E
 obtain ⟨r367, h368, hP⟩ := bind_inv hP
 obtain ⟨Fa369, Hc370, hb371⟩ := H.call [] [(6, false), (4, false)] rfl rfl trivial
 refine e_call E rfl rfl Try.func9 rfl rfl rfl (near_Far_calls A296 c297 A200 c201 r287.1 x207.1 (H.rcap 6 rfl) (H.rcap 4 rfl) Hc370 h368) ?_
 rintro v372 w373 a ⟨rfl, HR374⟩ E_
 replace E := E_ _ rfl; clear E_
 obtain ⟨H_, hc375⟩ := hb371 _ _ HR374 rfl
 replace H := H_; clear H_; try dsimp only [setn, addE, goneL] at H
 refine vn tbok 5 [] [(16, .int .i64 r367.1), (17, .int .i64 r367.2)] [] E (by kernel_rfl) (by kernel_rfl) trivial ?_
 clear E; intro a E
 refine wpList_nil ?_
 refine th_n ?_
 refine wp_seq ?_
 refine wp_region_lit ?_
 refine vn tbok 2 [] [(116, .slice A204 (List.length x207.2) c205), (117, .slice A200 (List.length x207.1) c201)] [] E (by kernel_rfl) (by kernel_rfl) trivial ?_
 clear E; intro a E
 obtain ⟨r376, h377, hP⟩ := bind_inv hP
 obtain ⟨Fa378, Hc379, hb380⟩ := H.call [] [(5, false), (4, false)] rfl rfl trivial
 refine e_call E rfl rfl Try.func9 rfl rfl rfl (near_Far_calls A204 c205 A200 c201 x207.2 x207.1 (H.rcap 5 rfl) (H.rcap 4 rfl) Hc379 h377) ?_
 rintro v381 w382 a ⟨rfl, HR383⟩ E_
 replace E := E_ _ rfl; clear E_
 obtain ⟨H_, hc384⟩ := hb380 _ _ HR383 rfl
 replace H := H_; clear H_; try dsimp only [setn, addE, goneL] at H
 refine vn tbok 5 [] [(18, .int .i64 r376.1), (19, .int .i64 r376.2)] [] E (by kernel_rfl) (by kernel_rfl) trivial ?_
 clear E; intro a E
 refine wpList_nil ?_
 refine th_n ?_
 refine wp_seq ?_
 refine wp_seq ?_
 obtain ⟨x414, h415, hK416⟩ := bind_inv hP
 clear hP
 refine meet_cut (fun a w418 => ∃ (x417 : Bool), Fr a 172 [(3, .pointer (some ⟨g21, 0, none⟩)), (7, .bool r26), (9, .slice A204 (List.length x207.2) c205), (12, .slice A296 (List.length r287.1) c297), (13, .int .i64 r287.2.1), (18, .int .i64 r376.1), (152, .bool x417)] ∧ Hp S Fa w0 w418 [.ro false cBool A1 aAccept, .ro false (cInt .i64) A5 aGuard, .ro false cNode A9 aNodes, .box g21 34 [.int .i64 aProps, .slice A1 (List.length aAccept) c2, .slice A5 (List.length aGuard) c6, .slice A9 (List.length aNodes) c10], .row true (cInt .u8) 56 A204 c205 x207.2, .row true (cInt .u8) 56 A296 c297 r287.1] ∧ x414 = x417) ?_ ?_
 ·
  have hP := h415; clear h415; rw [law28_NearBest_j5] at hP
  refine wp_region_lit ?_
  refine vn tbok 3 [] [(123, .bool ((r367.2 : Int) != 0))] [] E (by kernel_rfl) (by kernel_rfl) trivial ?_
  clear E; intro a E
  refine E.cases (t := 123) rfl (fun hb_ E_ => ?_) (fun hb_ E_ => ?_)
  ·
   replace E := E_; clear E_
   have h419 : ¬ ((r367.2 : Int) = 0) := bne_iff_ne.1 hb_
   clear hb_; replace hP := ite_f h419 hP
   refine vn tbok 29 [] [(152, .bool true)] [] E (by kernel_rfl) (by kernel_rfl) trivial ?_
   clear E; intro a E
   refine wpList_nil ?_
   have hx_ := Option.some.inj hP
   exact .inl ⟨rfl, true, E.pick _ ⟨rfl, rfl, rfl, rfl, rfl, rfl, rfl, trivial⟩, H.sel [0, 1, 2, 3, 5, 6] rfl, hx_.symm⟩
  replace E := E_; clear E_
  have h420 : (r367.2 : Int) = 0 := bne_eq_false_iff_eq.1 hb_
  clear hb_; replace hP := ite_t h420 hP
  refine vn tbok 4 [] [(127, .bool ((r376.2 : Int) != 0))] [] E (by kernel_rfl) (by kernel_rfl) trivial ?_
  clear E; intro a E
  refine E.cases (t := 127) rfl (fun hb_ E_ => ?_) (fun hb_ E_ => ?_)
  ·
   replace E := E_; clear E_
   have h421 : ¬ ((r376.2 : Int) = 0) := bne_iff_ne.1 hb_
   clear hb_; replace hP := ite_f h421 hP
   refine vn tbok 25 [] [(152, .bool true)] [] E (by kernel_rfl) (by kernel_rfl) trivial ?_
   clear E; intro a E
   refine wpList_nil ?_
   have hx_ := Option.some.inj hP
   exact .inl ⟨rfl, true, E.pick _ ⟨rfl, rfl, rfl, rfl, rfl, rfl, rfl, trivial⟩, H.sel [0, 1, 2, 3, 5, 6] rfl, hx_.symm⟩
  replace E := E_; clear E_
  have h422 : (r376.2 : Int) = 0 := bne_eq_false_iff_eq.1 hb_
  clear hb_; replace hP := ite_t h422 hP
  refine vn tbok 7 [] [(134, .bool (((((List.length r287.1) : Nat) : Int) : Int) != (((List.length x207.1) : Nat) : Int)))] [] E (by kernel_rfl) (by kernel_rfl) trivial ?_
  clear E; intro a E
  refine E.cases (t := 134) rfl (fun hb_ E_ => ?_) (fun hb_ E_ => ?_)
  ·
   replace E := E_; clear E_
   have h423 : ¬ (((((List.length r287.1) : Nat) : Int) : Int) = (((List.length x207.1) : Nat) : Int)) := bne_iff_ne.1 hb_
   clear hb_; replace hP := ite_f h423 hP
   refine vn tbok 18 [] [(152, .bool true)] [] E (by kernel_rfl) (by kernel_rfl) trivial ?_
   clear E; intro a E
   refine wpList_nil ?_
   have hx_ := Option.some.inj hP
   exact .inl ⟨rfl, true, E.pick _ ⟨rfl, rfl, rfl, rfl, rfl, rfl, rfl, trivial⟩, H.sel [0, 1, 2, 3, 5, 6] rfl, hx_.symm⟩
  replace E := E_; clear E_
  have h424 : ((((List.length r287.1) : Nat) : Int) : Int) = (((List.length x207.1) : Nat) : Int) := bne_eq_false_iff_eq.1 hb_
  clear hb_; replace hP := ite_t h424 hP
  refine vn tbok 2 [.agg #[.int .i64 aProps, .slice A1 (List.length aAccept) c2, .slice A5 (List.length aGuard) c6, .slice A9 (List.length aNodes) c10]] [(135, .agg #[.int .i64 aProps, .slice A1 (List.length aAccept) c2, .slice A5 (List.length aGuard) c6, .slice A9 (List.length aNodes) c10]), (136, .slice A296 (List.length r287.1) c297)] [cellsAt w382 g21 (0) [.int .i64 aProps, .slice A1 (List.length aAccept) c2, .slice A5 (List.length aGuard) c6, .slice A9 (List.length aNodes) c10]] E (by kernel_rfl) (by kernel_rfl) ((H.box 3 rfl).sub 0 _ rfl) ?_
  clear E; intro a E
  obtain ⟨r425, h426, hP⟩ := bind_inv hP
  obtain ⟨Fa427, Hc428, hb429⟩ := H.call [] [(0, false), (1, false), (2, false), (6, false)] rfl rfl trivial
  refine e_call E rfl rfl Try.func24 rfl rfl rfl (law28_accepts_calls A1 c2 A5 c6 A9 c10 A296 c297 aProps aAccept aGuard aNodes r287.1 hk3 hk7 hk11 (H.rcap 6 rfl) Hc428 h426) ?_
  rintro v430 w431 a ⟨rfl, HR432⟩ E_
  replace E := E_ _ rfl; clear E_
  obtain ⟨H_, hc433⟩ := hb429 _ _ HR432 rfl
  replace H := H_; clear H_; try dsimp only [setn, addE, goneL] at H
  refine vn tbok 3 [] [(140, .bool (!r425))] [] E (by kernel_rfl) (by kernel_rfl) trivial ?_
  clear E; intro a E
  refine E.cases (t := 140) rfl (fun hb_ E_ => ?_) (fun hb_ E_ => ?_)
  ·
   replace E := E_; clear E_
   have h434 : ¬ (r425 = true) := (ne_true_of_eq_false (not_t hb_))
   clear hb_; replace hP := ite_f h434 hP
   refine vn tbok 12 [] [(152, .bool true)] [] E (by kernel_rfl) (by kernel_rfl) trivial ?_
   clear E; intro a E
   refine wpList_nil ?_
   have hx_ := Option.some.inj hP
   exact .inl ⟨rfl, true, E.pick _ ⟨rfl, rfl, rfl, rfl, rfl, rfl, rfl, trivial⟩, H.sel [0, 1, 2, 3, 5, 6] rfl, hx_.symm⟩
  replace E := E_; clear E_
  have h435 : r425 = true := (not_f hb_)
  clear hb_; replace hP := ite_t h435 hP
  refine vn tbok 5 [] [(145, .bool ((r367.1 : Int) != r287.2.1))] [] E (by kernel_rfl) (by kernel_rfl) trivial ?_
  clear E; intro a E
  refine E.cases (t := 145) rfl (fun hb_ E_ => ?_) (fun hb_ E_ => ?_)
  ·
   replace E := E_; clear E_
   have h436 : ¬ ((r367.1 : Int) = r287.2.1) := bne_iff_ne.1 hb_
   clear hb_; replace hP := ite_f h436 hP
   refine vn tbok 7 [] [(152, .bool true)] [] E (by kernel_rfl) (by kernel_rfl) trivial ?_
   clear E; intro a E
   refine wpList_nil ?_
   have hx_ := Option.some.inj hP
   exact .inl ⟨rfl, true, E.pick _ ⟨rfl, rfl, rfl, rfl, rfl, rfl, rfl, trivial⟩, H.sel [0, 1, 2, 3, 5, 6] rfl, hx_.symm⟩
  replace E := E_; clear E_
  have h437 : (r367.1 : Int) = r287.2.1 := bne_eq_false_iff_eq.1 hb_
  clear hb_; replace hP := ite_t h437 hP
  refine vn tbok 2 [.agg #[.int .i64 aProps, .slice A1 (List.length aAccept) c2, .slice A5 (List.length aGuard) c6, .slice A9 (List.length aNodes) c10]] [(146, .agg #[.int .i64 aProps, .slice A1 (List.length aAccept) c2, .slice A5 (List.length aGuard) c6, .slice A9 (List.length aNodes) c10]), (147, .slice A200 (List.length x207.1) c201)] [cellsAt w431 g21 (0) [.int .i64 aProps, .slice A1 (List.length aAccept) c2, .slice A5 (List.length aGuard) c6, .slice A9 (List.length aNodes) c10]] E (by kernel_rfl) (by kernel_rfl) ((H.box 3 rfl).sub 0 _ rfl) ?_
  clear E; intro a E
  obtain ⟨r438, h439, hP⟩ := bind_inv hP
  obtain ⟨Fa440, Hc441, hb442⟩ := H.call [] [(0, false), (1, false), (2, false), (4, false)] rfl rfl trivial
  refine e_call E rfl rfl Try.func24 rfl rfl rfl (law28_accepts_calls A1 c2 A5 c6 A9 c10 A200 c201 aProps aAccept aGuard aNodes x207.1 hk3 hk7 hk11 (H.rcap 4 rfl) Hc441 h439) ?_
  rintro v443 w444 a ⟨rfl, HR445⟩ E_
  replace E := E_ _ rfl; clear E_
  obtain ⟨H_, hc446⟩ := hb442 _ _ HR445 rfl
  replace H := H_; clear H_; try dsimp only [setn, addE, goneL] at H
  refine vn tbok 4 [] [(152, .bool (!(r438 == ((r287.2.1 : Int) == 0))))] [] E (by kernel_rfl) (by kernel_rfl) trivial ?_
  clear E; intro a E
  refine wpList_nil ?_
  have hx_ := Option.some.inj hP
  exact .inl ⟨rfl, !(r438 == ((r287.2.1 : Int) == 0)), E.pick _ ⟨rfl, rfl, rfl, rfl, rfl, rfl, rfl, trivial⟩, H.sel [0, 1, 2, 3, 5, 6] rfl, hx_.symm⟩
 clear E H h415; rintro a w418 ⟨x417, E, H, hx_⟩
 subst hx_; have hP := hK416; clear hK416
 refine th_n ?_
 refine E.cases (t := 152) rfl (fun hb_ E_ => ?_) (fun hb_ E_ => ?_)
 ·
  replace E := E_; clear E_
  have h447 : x414 = true := hb_
  clear hb_; replace hP := ite_t h447 hP
  refine c_true E rfl ?_
  refine wp_seq ?_
  refine wp_region_lit ?_
  refine vn tbok 1 [] [(6, .bool false)] [] E (by kernel_rfl) (by kernel_rfl) trivial ?_
  clear E; intro a E
  refine wpList_nil ?_
  refine th_n ?_
  refine wp_ret ?_
  refine th_ret ?_
  obtain rfl := Option.some.inj hP
  refine ret1 E rfl rfl ?_
  exact ⟨_, rfl, rfl, H.sel [] rfl⟩
 replace E := E_; clear E_
 have h448 : ¬ (x414 = true) := (ne_true_of_eq_false hb_)
 clear hb_; replace hP := ite_f h448 hP
 refine c_false E rfl ?_
 refine wp_skip ?_
 refine th_n ?_
 refine wp_seq ?_
 refine wp_seq ?_
 obtain ⟨x474, h475, hK476⟩ := bind_inv hP
 clear hP
 refine meet_cut (fun a w478 => ∃ (x477 : Bool), Fr a 172 [(7, .bool r26), (170, .bool x477)] ∧ Hp S Fa w0 w478 [] ∧ x474 = x477) ?_ ?_
 ·
  have hP := h475; clear h475; rw [law28_NearBest_j6] at hP
  refine wp_region_lit ?_
  refine vn tbok 2 [.agg #[.int .i64 aProps, .slice A1 (List.length aAccept) c2, .slice A5 (List.length aGuard) c6, .slice A9 (List.length aNodes) c10]] [(153, .agg #[.int .i64 aProps, .slice A1 (List.length aAccept) c2, .slice A5 (List.length aGuard) c6, .slice A9 (List.length aNodes) c10]), (154, .slice A204 (List.length x207.2) c205)] [cellsAt w418 g21 (0) [.int .i64 aProps, .slice A1 (List.length aAccept) c2, .slice A5 (List.length aGuard) c6, .slice A9 (List.length aNodes) c10]] E (by kernel_rfl) (by kernel_rfl) ((H.box 3 rfl).sub 0 _ rfl) ?_
  clear E; intro a E
  obtain ⟨r479, h480, hP⟩ := bind_inv hP
  obtain ⟨Fa481, Hc482, hb483⟩ := H.call [] [(0, false), (1, false), (2, false), (4, false)] rfl rfl trivial
  refine e_call E rfl rfl Try.func24 rfl rfl rfl (law28_accepts_calls A1 c2 A5 c6 A9 c10 A204 c205 aProps aAccept aGuard aNodes x207.2 hk3 hk7 hk11 (H.rcap 4 rfl) Hc482 h480) ?_
  rintro v484 w485 a ⟨rfl, HR486⟩ E_
  replace E := E_ _ rfl; clear E_
  obtain ⟨H_, hc487⟩ := hb483 _ _ HR486 rfl
  replace H := H_; clear H_; try dsimp only [setn, addE, goneL] at H
  refine vn tbok 1 [] [(156, .bool r479)] [] E (by kernel_rfl) (by kernel_rfl) trivial ?_
  clear E; intro a E
  refine E.cases (t := 156) rfl (fun hb_ E_ => ?_) (fun hb_ E_ => ?_)
  ·
   replace E := E_; clear E_
   have h488 : r479 = true := hb_
   clear hb_; replace hP := ite_t h488 hP
   refine vn tbok 4 [] [(160, .bool (decide (r376.1 < r287.2.1)))] [] E (by kernel_rfl) (by kernel_rfl) trivial ?_
   clear E; intro a E
   refine E.cases (t := 160) rfl (fun hb_ E_ => ?_) (fun hb_ E_ => ?_)
   ·
    replace E := E_; clear E_
    have h489 : r376.1 < r287.2.1 := of_decide_eq_true hb_
    clear hb_; replace hP := ite_t h489 hP
    refine vn tbok 10 [] [(170, .bool true)] [] E (by kernel_rfl) (by kernel_rfl) trivial ?_
    clear E; intro a E
    refine wpList_nil ?_
    have hx_ := Option.some.inj hP
    exact .inl ⟨rfl, true, E.pick _ ⟨rfl, rfl, trivial⟩, H.sel [] rfl, hx_.symm⟩
   replace E := E_; clear E_
   have h490 : ¬ (r376.1 < r287.2.1) := of_decide_eq_false hb_
   clear hb_; replace hP := ite_f h490 hP
   refine vn tbok 4 [] [(164, .bool ((r376.1 : Int) == r287.2.1))] [] E (by kernel_rfl) (by kernel_rfl) trivial ?_
   clear E; intro a E
   refine E.cases (t := 164) rfl (fun hb_ E_ => ?_) (fun hb_ E_ => ?_)
   ·
    replace E := E_; clear E_
    have h491 : (r376.1 : Int) = r287.2.1 := eq_of_beq hb_
    clear hb_; replace hP := ite_t h491 hP
    refine vn tbok 2 [] [(165, .slice A204 (List.length x207.2) c205), (166, .slice A296 (List.length r287.1) c297)] [] E (by kernel_rfl) (by kernel_rfl) trivial ?_
    clear E; intro a E
    obtain ⟨r492, h493, hP⟩ := bind_inv hP
    obtain ⟨Fa494, Hc495, hb496⟩ := H.call [] [(4, false), (5, false)] rfl rfl trivial
    refine e_call E rfl rfl Try.func25 rfl rfl rfl (law28_before_calls A204 c205 A296 c297 x207.2 r287.1 (H.rcap 4 rfl) (H.rcap 5 rfl) Hc495 h493) ?_
    rintro v497 w498 a ⟨rfl, HR499⟩ E_
    replace E := E_ _ rfl; clear E_
    obtain ⟨H_, hc500⟩ := hb496 _ _ HR499 rfl
    replace H := H_; clear H_; try dsimp only [setn, addE, goneL] at H
    refine vn tbok 3 [] [(170, .bool r492)] [] E (by kernel_rfl) (by kernel_rfl) trivial ?_
    clear E; intro a E
    refine wpList_nil ?_
    have hx_ := Option.some.inj hP
    exact .inl ⟨rfl, r492, E.pick _ ⟨rfl, rfl, trivial⟩, H.sel [] rfl, hx_.symm⟩
   replace E := E_; clear E_
   have h501 : ¬ ((r376.1 : Int) = r287.2.1) := ne_of_beq_false hb_
   clear hb_; replace hP := ite_f h501 hP
   refine vn tbok 6 [] [(170, .bool false)] [] E (by kernel_rfl) (by kernel_rfl) trivial ?_
   clear E; intro a E
   refine wpList_nil ?_
   have hx_ := Option.some.inj hP
   exact .inl ⟨rfl, false, E.pick _ ⟨rfl, rfl, trivial⟩, H.sel [] rfl, hx_.symm⟩
  replace E := E_; clear E_
  have h502 : ¬ (r479 = true) := (ne_true_of_eq_false hb_)
  clear hb_; replace hP := ite_f h502 hP
  refine vn tbok 14 [] [(170, .bool false)] [] E (by kernel_rfl) (by kernel_rfl) trivial ?_
  clear E; intro a E
  refine wpList_nil ?_
  have hx_ := Option.some.inj hP
  exact .inl ⟨rfl, false, E.pick _ ⟨rfl, rfl, trivial⟩, H.sel [] rfl, hx_.symm⟩
 clear E H h475; rintro a w478 ⟨x477, E, H, hx_⟩
 subst hx_; have hP := hK476; clear hK476
 refine th_n ?_
 refine E.cases (t := 170) rfl (fun hb_ E_ => ?_) (fun hb_ E_ => ?_)
 ·
  replace E := E_; clear E_
  have h503 : x474 = true := hb_
  clear hb_; replace hP := ite_t h503 hP
  refine c_true E rfl ?_
  refine wp_seq ?_
  refine wp_region_lit ?_
  refine vn tbok 1 [] [(6, .bool false)] [] E (by kernel_rfl) (by kernel_rfl) trivial ?_
  clear E; intro a E
  refine wpList_nil ?_
  refine th_n ?_
  refine wp_ret ?_
  refine th_ret ?_
  obtain rfl := Option.some.inj hP
  refine ret1 E rfl rfl ?_
  exact ⟨_, rfl, rfl, H.sel [] rfl⟩
 replace E := E_; clear E_
 have h504 : ¬ (x474 = true) := (ne_true_of_eq_false hb_)
 clear hb_; replace hP := ite_f h504 hP
 refine c_false E rfl ?_
 refine wp_skip ?_
 refine th_n ?_
 refine wp_seq ?_
 refine wp_region_lit ?_
 refine vn tbok 2 [] [(6, .bool r26)] [] E (by kernel_rfl) (by kernel_rfl) trivial ?_
 clear E; intro a E
 refine wpList_nil ?_
 refine th_n ?_
 refine wp_ret ?_
 obtain rfl := Option.some.inj hP
 refine ret1 E rfl rfl ?_
 exact ⟨_, rfl, rfl, H.sel [] rfl⟩

end Go.V
