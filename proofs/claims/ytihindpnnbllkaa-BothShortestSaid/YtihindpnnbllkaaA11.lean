/- Plain functions, and the calls that give them. -/
import Derived.Test.YtihindpnnbllkaaA10
set_option linter.all false
set_option linter.unusedVariables false
set_option linter.unnecessarySimpa false
set_option linter.unusedSimpArgs false
namespace Go.V
open Go Go.Proofs
/-! rejoinder/both.Xor$1 -/
/-! rejoinder/both.Xor -/
/-! rejoinder/letter.number -/
def letter_number (N : Nat) (n : Int) : Option Bool :=
  if 0 ≤ n then
    some (decide (n ≤ 8))
  else
    some false
set_option maxRecDepth 100000 in
set_option maxHeartbeats 4000000 in
theorem letter_number_calls {N : Nat} {S Fa : Nat → Prop} {w0 : World} {r : Bool} (n : Int) (H : Hp S Fa w0 w0 []) (hP : letter_number N n = some r) :
    Calls Try.prog 93 #[.int .i64 n] w0 fun e w' => ∃ v, e = .returned v ∧ v = .bool r ∧ Hp S Fa w0 w' [] := by
 refine enterV (n := 9) Try.func93 rfl rfl rfl ?_
 intro a E
 replace E := E.pick [(0, .int .i64 n)] ⟨rfl, trivial⟩
 rw [letter_number] at hP
 refine wp_seq ?_
 refine wp_region_lit ?_
 refine vn tbok 1 [] [] [] E (by kernel_rfl) (by kernel_rfl) trivial ?_
 clear E; intro a E
 refine wpList_nil ?_
 refine th_n ?_
 refine wp_seq ?_
 refine wp_region_lit ?_
 refine vn tbok 3 [] [(5, .bool (decide (0 ≤ n)))] [] E (by kernel_rfl) (by kernel_rfl) trivial ?_
 clear E; intro a E
 refine E.cases (t := 5) rfl (fun hb_ E_ => ?_) (fun hb_ E_ => ?_)
 ·
  replace E := E_; clear E_
  have h1 : 0 ≤ n := of_decide_eq_true hb_
  clear hb_; replace hP := ite_t h1 hP
  refine vn tbok 4 [] [(2, .bool (decide (n ≤ 8)))] [] E (by kernel_rfl) (by kernel_rfl) trivial ?_
  clear E; intro a E
  refine wpList_nil ?_
  refine th_n ?_
  refine wp_ret ?_
  obtain rfl := Option.some.inj hP
  refine ret1 E rfl rfl ?_
  exact ⟨_, rfl, rfl, H.sel [] rfl⟩
 replace E := E_; clear E_
 have h2 : ¬ (0 ≤ n) := of_decide_eq_false hb_
 clear hb_; replace hP := ite_f h2 hP
 refine vn tbok 4 [] [(2, .bool false)] [] E (by kernel_rfl) (by kernel_rfl) trivial ?_
 clear E; intro a E
 refine wpList_nil ?_
 refine th_n ?_
 refine wp_ret ?_
 obtain rfl := Option.some.inj hP
 refine ret1 E rfl rfl ?_
 exact ⟨_, rfl, rfl, H.sel [] rfl⟩

/-! rejoinder/letter.Fits -/
def letter_Fits (N : Nat) (n : Int) (ll : Int) : Option Bool :=
  Option.bind (letter_number N n) fun r1 =>
  if r1 = true then
    ask (in64 ll) <|
    ask (0 ≤ n) <|
    some ((shrV .i64 ll n : Int) == 0)
  else
    some false
set_option maxRecDepth 100000 in
set_option maxHeartbeats 4000000 in
theorem letter_Fits_calls {N : Nat} {S Fa : Nat → Prop} {w0 : World} {r : Bool} (n : Int) (ll : Int) (H : Hp S Fa w0 w0 []) (hP : letter_Fits N n ll = some r) :
    Calls Try.prog 94 #[.int .i64 n, .int .u8 ll] w0 fun e w' => ∃ v, e = .returned v ∧ v = .bool r ∧ Hp S Fa w0 w' [] := by
 refine enterV (n := 14) Try.func94 rfl rfl rfl ?_
 intro a E
 replace E := E.pick [(0, .int .i64 n), (1, .int .u8 ll)] ⟨rfl, rfl, trivial⟩
 rw [letter_Fits] at hP
 refine wp_seq ?_
 refine wp_region_lit ?_
 refine vn tbok 1 [] [] [] E (by kernel_rfl) (by kernel_rfl) trivial ?_
 clear E; intro a E
 refine wpList_nil ?_
 refine th_n ?_
 refine wp_seq ?_
 refine wp_region_lit ?_
 refine vn tbok 1 [] [(5, .int .i64 n)] [] E (by kernel_rfl) (by kernel_rfl) trivial ?_
 clear E; intro a E
 obtain ⟨r1, h2, hP⟩ := bind_inv hP
 obtain ⟨Fa3, Hc4, hb5⟩ := H.call [] [] rfl rfl trivial
 refine e_call E rfl rfl Try.func93 rfl rfl rfl (letter_number_calls  n  Hc4 h2) ?_
 rintro v6 w7 a ⟨rfl, HR8⟩ E_
 replace E := E_ _ rfl; clear E_
 obtain ⟨H_, hc9⟩ := hb5 _ _ HR8 rfl
 replace H := H_; clear H_; try dsimp only [setn, addE, goneL] at H
 refine vn tbok 1 [] [(7, .bool r1)] [] E (by kernel_rfl) (by kernel_rfl) trivial ?_
 clear E; intro a E
 refine E.cases (t := 7) rfl (fun hb_ E_ => ?_) (fun hb_ E_ => ?_)
 ·
  replace E := E_; clear E_
  have h10 : r1 = true := hb_
  clear hb_; replace hP := ite_t h10 hP
  obtain ⟨g11, hP⟩ := ask_inv hP
  obtain ⟨g12, hP⟩ := ask_inv hP
  refine vn tbok 7 [.int .i64 ll, .int .i64 (shrV .i64 ll n)] [(4, .bool ((shrV .i64 ll n : Int) == 0))] [IntKind.i64.wrap ll = ll, 0 ≤ n ∧ Int.fdiv ll (2 ^ (min (Int.toNat n) (IntKind.bits .i64))) = shrV .i64 ll n] E (by kernel_rfl) (by kernel_rfl) ⟨wrap_in g11, ⟨g12, rfl⟩⟩ ?_
  clear E; intro a E
  refine wpList_nil ?_
  refine th_n ?_
  refine wp_ret ?_
  obtain rfl := Option.some.inj hP
  refine ret1 E rfl rfl ?_
  exact ⟨_, rfl, rfl, H.sel [] rfl⟩
 replace E := E_; clear E_
 have h13 : ¬ (r1 = true) := (ne_true_of_eq_false hb_)
 clear hb_; replace hP := ite_f h13 hP
 refine vn tbok 7 [] [(4, .bool false)] [] E (by kernel_rfl) (by kernel_rfl) trivial ?_
 clear E; intro a E
 refine wpList_nil ?_
 refine th_n ?_
 refine wp_ret ?_
 obtain rfl := Option.some.inj hP
 refine ret1 E rfl rfl ?_
 exact ⟨_, rfl, rfl, H.sel [] rfl⟩

/-! rejoinder/letter.Trace -/
def letter_Trace_l0 (N : Nat) (n : Int) (t : List Int) : Nat → Int → Option (Unit ⊕ Int)
  | 0, _ => none
  | m52 + 1, x34 =>
    if x34 < (((List.length t) : Nat) : Int) then
      ask (idx x34 (List.length t)) <|
      Option.bind (letter_Fits N n (List.getD t (Int.toNat x34) 0)) fun r63 =>
      if r63 = true then
        ask (in64 (x34 + 1)) <|
        letter_Trace_l0 N n t m52 (x34 + 1)
      else
        some (Sum.inr 2)
    else
      some (Sum.inl ())
def letter_Trace (N : Nat) (n : Int) (t : List Int) : Option Int :=
  Option.bind (letter_number N n) fun r5 =>
  if r5 = true then
    if 1024 < (((List.length t) : Nat) : Int) then
      some 3
    else
      Option.bind (letter_Trace_l0 N n t N 0) fun x53 =>
      Sum.elim (fun x58 =>
        some 0)
       (fun x76 =>
        some x76) x53
  else
    some 2
set_option maxRecDepth 100000 in
set_option maxHeartbeats 4000000 in
theorem letter_Trace_calls {N : Nat} {S Fa : Nat → Prop} {w0 : World} {r : Int} (A1 : Option Addr) (c2 : Nat) (n : Int) (t : List Int) (hk3 : List.length t ≤ c2) (H : Hp S Fa w0 w0 [.ro false (cInt .u8) A1 t]) (hP : letter_Trace N n t = some r) :
    Calls Try.prog 80 #[.int .i64 n, .slice A1 (List.length t) c2] w0 fun e w' => ∃ v, e = .returned v ∧ v = .int .i64 r ∧ Hp S Fa w0 w' [] := by
 refine enterV (n := 24) Try.func80 rfl rfl rfl ?_
 intro a E
 replace E := E.pick [(0, .int .i64 n), (1, .slice A1 (List.length t) c2)] ⟨rfl, rfl, trivial⟩
 rw [letter_Trace] at hP
 refine wp_seq ?_
 refine wp_region_lit ?_
 refine vn tbok 1 [] [] [] E (by kernel_rfl) (by kernel_rfl) trivial ?_
 clear E; intro a E
 refine wpList_nil ?_
 refine th_n ?_
 refine wp_seq ?_
 refine wp_seq ?_
 refine wp_region_lit ?_
 refine vn tbok 1 [] [(7, .int .i64 n)] [] E (by kernel_rfl) (by kernel_rfl) trivial ?_
 clear E; intro a E
 obtain ⟨r5, h6, hP⟩ := bind_inv hP
 obtain ⟨Fa7, Hc8, hb9⟩ := H.call [] [] rfl rfl trivial
 refine e_call E rfl rfl Try.func93 rfl rfl rfl (letter_number_calls  n  Hc8 h6) ?_
 rintro v10 w11 a ⟨rfl, HR12⟩ E_
 replace E := E_ _ rfl; clear E_
 obtain ⟨H_, hc13⟩ := hb9 _ _ HR12 rfl
 replace H := H_; clear H_; try dsimp only [setn, addE, goneL] at H
 refine vn tbok 1 [] [(9, .bool (!r5))] [] E (by kernel_rfl) (by kernel_rfl) trivial ?_
 clear E; intro a E
 refine wpList_nil ?_
 refine th_n ?_
 refine E.cases (t := 9) rfl (fun hb_ E_ => ?_) (fun hb_ E_ => ?_)
 ·
  replace E := E_; clear E_
  have h14 : ¬ (r5 = true) := (ne_true_of_eq_false (not_t hb_))
  clear hb_; replace hP := ite_f h14 hP
  refine c_true E rfl ?_
  refine wp_seq ?_
  refine wp_region_lit ?_
  refine vn tbok 1 [] [(4, .int .i64 2)] [] E (by kernel_rfl) (by kernel_rfl) trivial ?_
  clear E; intro a E
  refine wpList_nil ?_
  refine th_n ?_
  refine wp_ret ?_
  refine th_ret ?_
  obtain rfl := Option.some.inj hP
  refine ret1 E rfl rfl ?_
  exact ⟨_, rfl, rfl, H.sel [] rfl⟩
 replace E := E_; clear E_
 have h15 : r5 = true := (not_f hb_)
 clear hb_; replace hP := ite_t h15 hP
 refine c_false E rfl ?_
 refine wp_skip ?_
 refine th_n ?_
 refine wp_seq ?_
 refine wp_seq ?_
 refine wp_region_lit ?_
 refine vn tbok 3 [] [(12, .bool (decide (1024 < (((List.length t) : Nat) : Int))))] [] E (by kernel_rfl) (by kernel_rfl) trivial ?_
 clear E; intro a E
 refine wpList_nil ?_
 refine th_n ?_
 refine E.cases (t := 12) rfl (fun hb_ E_ => ?_) (fun hb_ E_ => ?_)
 ·
  replace E := E_; clear E_
  have h16 : 1024 < (((List.length t) : Nat) : Int) := of_decide_eq_true hb_
  clear hb_; replace hP := ite_t h16 hP
  refine c_true E rfl ?_
  refine wp_seq ?_
  refine wp_region_lit ?_
  refine vn tbok 1 [] [(4, .int .i64 3)] [] E (by kernel_rfl) (by kernel_rfl) trivial ?_
  clear E; intro a E
  refine wpList_nil ?_
  refine th_n ?_
  refine wp_ret ?_
  refine th_ret ?_
  obtain rfl := Option.some.inj hP
  refine ret1 E rfl rfl ?_
  exact ⟨_, rfl, rfl, H.sel [] rfl⟩
 replace E := E_; clear E_
 have h17 : ¬ (1024 < (((List.length t) : Nat) : Int)) := of_decide_eq_false hb_
 clear hb_; replace hP := ite_f h17 hP
 refine c_false E rfl ?_
 refine wp_skip ?_
 refine th_n ?_
 refine wp_seq ?_
 refine wp_seq ?_
 refine wp_region_lit ?_
 refine vn tbok 3 [] [(13, .slice A1 (List.length t) c2), (14, .int .i64 (((List.length t) : Nat) : Int)), (15, .int .i64 0)] [] E (by kernel_rfl) (by kernel_rfl) trivial ?_
 clear E; intro a E
 refine wpList_nil ?_
 refine th_n ?_
 refine wp_block ?_
 obtain ⟨x53, hL54, hK55⟩ := bind_inv hP
 clear hP
 refine loop_cut (fun i_ a w_ => (i_ = 0 ∧ ∃ (x58 : Unit), Fr a 24 [] ∧ Hp S Fa w0 w_ [] ∧ x53 = Sum.inl x58)) ?_ ?_
 ·
  refine loopV (fun m57 a w56 => ∃ (x34 : Int), Fr a 24 [(0, .int .i64 n), (13, .slice A1 (List.length t) c2), (14, .int .i64 (((List.length t) : Nat) : Int)), (15, .int .i64 x34)] ∧ Hp S Fa w0 w56 [.ro false (cInt .u8) A1 t] ∧ letter_Trace_l0 N n t m57 x34 = some x53) N ?_ ?_
  ·
   exact ⟨0, E.pick _ ⟨rfl, rfl, rfl, rfl, trivial⟩, H.sel [0] rfl, hL54⟩
  clear E H hL54; intro m57 a w56 hI_
  obtain ⟨x34, E, H, hP⟩ := hI_
  obtain ⟨m52, rfl⟩ : ∃ q_, m57 = q_ + 1 := by cases m57 with | zero => rw [letter_Trace_l0] at hP; cases hP | succ q_ => exact ⟨q_, rfl⟩
  rw [letter_Trace_l0] at hP
  refine wp_seq ?_
  refine wp_region_lit ?_
  refine vn tbok 1 [] [(16, .bool (decide (x34 < (((List.length t) : Nat) : Int))))] [] E (by kernel_rfl) (by kernel_rfl) trivial ?_
  clear E; intro a E
  refine wpList_nil ?_
  refine th_n ?_
  refine wp_seq ?_
  refine E.cases (t := 16) rfl (fun hb_ E_ => ?_) (fun hb_ E_ => ?_)
  ·
   replace E := E_; clear E_
   have h59 : x34 < (((List.length t) : Nat) : Int) := of_decide_eq_true hb_
   clear hb_; replace hP := ite_t h59 hP
   refine c_true E rfl ?_
   refine wp_skip ?_
   refine th_n ?_
   refine wp_seq ?_
   refine wp_block ?_
   refine wp_seq ?_
   refine wp_region_lit ?_
   obtain ⟨g60, hP⟩ := ask_inv hP
   obtain ⟨b61, o62, e_b61⟩ := (H.rd 0 rds_ro).addr (idx_pos g60)
   subst e_b61
   refine vn tbok 3 [.int .u8 (List.getD t (Int.toNat x34) 0)] [(6, .int .u8 (List.getD t (Int.toNat x34) 0))] [0 ≤ x34 ∧ x34 < (((List.length t) : Nat) : Int), World.cell? w56 ⟨b61, o62 + (Int.toNat x34) * 1, none⟩ = some (.int .u8 (List.getD t (Int.toNat x34) 0))] E (by kernel_rfl) (by kernel_rfl) ⟨g60, Rds.at1 (H.rd 0 rds_ro) 0 g60⟩ ?_
   clear E; intro a E
   refine wpList_nil ?_
   refine th_n ?_
   refine wp_seq ?_
   refine wp_region_lit ?_
   refine vn tbok 2 [] [(19, .int .i64 n), (20, .int .u8 (List.getD t (Int.toNat x34) 0))] [] E (by kernel_rfl) (by kernel_rfl) trivial ?_
   clear E; intro a E
   obtain ⟨r63, h64, hP⟩ := bind_inv hP
   obtain ⟨Fa65, Hc66, hb67⟩ := H.call [] [] rfl rfl trivial
   refine e_call E rfl rfl Try.func94 rfl rfl rfl (letter_Fits_calls  n (List.getD t (Int.toNat x34) 0)  Hc66 h64) ?_
   rintro v68 w69 a ⟨rfl, HR70⟩ E_
   replace E := E_ _ rfl; clear E_
   obtain ⟨H_, hc71⟩ := hb67 _ _ HR70 rfl
   replace H := H_; clear H_; try dsimp only [setn, addE, goneL] at H
   refine vn tbok 1 [] [(22, .bool (!r63))] [] E (by kernel_rfl) (by kernel_rfl) trivial ?_
   clear E; intro a E
   refine wpList_nil ?_
   refine th_n ?_
   refine E.cases (t := 22) rfl (fun hb_ E_ => ?_) (fun hb_ E_ => ?_)
   ·
    replace E := E_; clear E_
    have h72 : ¬ (r63 = true) := (ne_true_of_eq_false (not_t hb_))
    clear hb_; replace hP := ite_f h72 hP
    refine c_true E rfl ?_
    refine wp_seq ?_
    refine wp_region_lit ?_
    refine vn tbok 1 [] [(4, .int .i64 2)] [] E (by kernel_rfl) (by kernel_rfl) trivial ?_
    clear E; intro a E
    refine wpList_nil ?_
    refine th_n ?_
    refine wp_ret ?_
    refine bl_ret ?_
    refine th_ret ?_
    refine th_ret ?_
    refine .inr ⟨rfl, ?_⟩
    refine bl_ret ?_
    refine th_ret ?_
    have hx_ := Option.some.inj hP; subst hx_
    have hP : some (2) = some r := hK55
    obtain rfl := Option.some.inj hP
    refine ret1 E rfl rfl ?_
    exact ⟨_, rfl, rfl, H.sel [] rfl⟩
   replace E := E_; clear E_
   have h73 : r63 = true := (not_f hb_)
   clear hb_; replace hP := ite_t h73 hP
   refine c_false E rfl ?_
   refine wp_skip ?_
   refine bl_n ?_
   refine th_n ?_
   refine wp_region_lit ?_
   obtain ⟨g74, hP⟩ := ask_inv hP
   refine vn tbok 2 [.int .i64 (x34 + 1)] [(15, .int .i64 (x34 + 1))] [IntKind.i64.wrap (x34 + 1) = x34 + 1] E (by kernel_rfl) (by kernel_rfl) (wrap_in g74) ?_
   clear E; intro a E
   refine wpList_nil ?_
   exact th_n ⟨m52, Nat.lt_succ_self _, x34 + 1, E.pick _ ⟨rfl, rfl, rfl, rfl, trivial⟩, H.sel [0] rfl, hP⟩
  replace E := E_; clear E_
  have h75 : ¬ (x34 < (((List.length t) : Nat) : Int)) := of_decide_eq_false hb_
  clear hb_; replace hP := ite_f h75 hP
  refine c_false E rfl ?_
  refine wp_exit ?_
  refine th_exit ?_
  have hx_ := Option.some.inj hP
  refine th_exit (.inl ⟨0, rfl, ?_⟩)
  exact ⟨rfl, (), E.pick _ trivial, H.sel [] rfl, hx_.symm⟩
 clear E H hL54; intro i_ a w56 hM_
 obtain ⟨rfl, x58, E, H, hx_⟩ := hM_
 subst hx_; have hP := elim_l hK55
 clear hK55
 refine bl_hit ?_
 refine th_n ?_
 refine wp_seq ?_
 refine wp_region_lit ?_
 refine vn tbok 1 [] [(4, .int .i64 0)] [] E (by kernel_rfl) (by kernel_rfl) trivial ?_
 clear E; intro a E
 refine wpList_nil ?_
 refine th_n ?_
 refine wp_ret ?_
 obtain rfl := Option.some.inj hP
 refine ret1 E rfl rfl ?_
 exact ⟨_, rfl, rfl, H.sel [] rfl⟩

/-! rejoinder/canon.Run -/
def canon_Run_l0 (N : Nat) (aGuard : List Int) (aNodes : List Nd) (t : List Int) : Nat → Int → Int → Option Int
  | 0, _, _ => none
  | m104 + 1, q72, x73 =>
    if x73 < (((List.length t) : Nat) : Int) then
      ask (idx x73 (List.length t)) <|
      ask (idx q72 (List.length aGuard)) <|
      Option.bind (guard_Go N aNodes (List.getD aGuard (Int.toNat q72) 0) (List.getD t (Int.toNat x73) 0)) fun r118 =>
      ask (in64 (x73 + 1)) <|
      canon_Run_l0 N aGuard aNodes t m104 r118.1 (x73 + 1)
    else
      some q72
def canon_Run (N : Nat) (aProps : Int) (aAccept : List Bool) (aGuard : List Int) (aNodes : List Nd) (t : List Int) : Option (Int × Int) :=
  Option.bind (guard_Check N aProps aAccept aGuard aNodes) fun r22 =>
  if (r22 : Int) = 0 then
    Option.bind (letter_Trace N aProps t) fun r33 =>
    if (r33 : Int) = 0 then
      Option.bind (canon_Run_l0 N aGuard aNodes t N 0 0) fun x105 =>
      some (x105, 0)
    else
      some (0, r33)
  else
    some (0, r22)
set_option maxRecDepth 100000 in
set_option maxHeartbeats 4000000 in
theorem canon_Run_calls {N : Nat} {S Fa : Nat → Prop} {w0 : World} {r : Int × Int} (A1 : Option Addr) (c2 : Nat) (A5 : Option Addr) (c6 : Nat) (A9 : Option Addr) (c10 : Nat) (A13 : Option Addr) (c14 : Nat) (aProps : Int) (aAccept : List Bool) (aGuard : List Int) (aNodes : List Nd) (t : List Int) (hk3 : List.length aAccept ≤ c2) (hk7 : List.length aGuard ≤ c6) (hk11 : List.length aNodes ≤ c10) (hk15 : List.length t ≤ c14) (H : Hp S Fa w0 w0 [.ro false cBool A1 aAccept, .ro false (cInt .i64) A5 aGuard, .ro false cNode A9 aNodes, .ro false (cInt .u8) A13 t]) (hP : canon_Run N aProps aAccept aGuard aNodes t = some r) :
    Calls Try.prog 59 #[.agg #[.int .i64 aProps, .slice A1 (List.length aAccept) c2, .slice A5 (List.length aGuard) c6, .slice A9 (List.length aNodes) c10], .slice A13 (List.length t) c14] w0 fun e w' => ∃ v, e = .returned v ∧ v = .tuple #[.int .i64 r.1, .int .i64 r.2] ∧ Hp S Fa w0 w' [] := by
 refine enterV (n := 43) Try.func59 rfl rfl rfl ?_
 intro a E
 replace E := E.pick [(0, .agg #[.int .i64 aProps, .slice A1 (List.length aAccept) c2, .slice A5 (List.length aGuard) c6, .slice A9 (List.length aNodes) c10]), (1, .slice A13 (List.length t) c14)] ⟨rfl, rfl, trivial⟩
 rw [canon_Run] at hP
 refine wp_seq ?_
 refine wp_region_lit ?_
 refine h_box H E rfl rfl rfl ?_
 intro w18 g17 a hc19 hg21 H_ E_
 replace E := E_ _ rfl; clear E_
 replace H := H_; clear H_; try dsimp only [setn, addE, goneL] at H
 refine vn tbok 2 [] [] [] E (by kernel_rfl) (by kernel_rfl) trivial ?_
 clear E; intro a E
 refine wpList_nil ?_
 refine th_n ?_
 refine wp_seq ?_
 refine wp_seq ?_
 refine wp_region_lit ?_
 refine vn tbok 1 [.agg #[.int .i64 aProps, .slice A1 (List.length aAccept) c2, .slice A5 (List.length aGuard) c6, .slice A9 (List.length aNodes) c10]] [(11, .agg #[.int .i64 aProps, .slice A1 (List.length aAccept) c2, .slice A5 (List.length aGuard) c6, .slice A9 (List.length aNodes) c10])] [cellsAt w18 g17 (0) [.int .i64 aProps, .slice A1 (List.length aAccept) c2, .slice A5 (List.length aGuard) c6, .slice A9 (List.length aNodes) c10]] E (by kernel_rfl) (by kernel_rfl) ((H.box 4 rfl).sub 0 _ rfl) ?_
 clear E; intro a E
 obtain ⟨r22, h23, hP⟩ := bind_inv hP
 obtain ⟨Fa24, Hc25, hb26⟩ := H.call [] [(0, false), (1, false), (2, false)] rfl rfl trivial
 refine e_call E rfl rfl Try.func51 rfl rfl rfl (guard_Check_calls A1 c2 A5 c6 A9 c10 aProps aAccept aGuard aNodes hk3 hk7 hk11 Hc25 h23) ?_
 rintro v27 w28 a ⟨rfl, HR29⟩ E_
 replace E := E_ _ rfl; clear E_
 obtain ⟨H_, hc30⟩ := hb26 _ _ HR29 rfl
 replace H := H_; clear H_; try dsimp only [setn, addE, goneL] at H
 refine vn tbok 1 [] [(6, .int .i64 r22)] [] E (by kernel_rfl) (by kernel_rfl) trivial ?_
 clear E; intro a E
 refine wpList_nil ?_
 refine th_n ?_
 refine wp_seq ?_
 refine wp_region_lit ?_
 refine vn tbok 2 [] [(14, .bool ((r22 : Int) != 0))] [] E (by kernel_rfl) (by kernel_rfl) trivial ?_
 clear E; intro a E
 refine wpList_nil ?_
 refine th_n ?_
 refine E.cases (t := 14) rfl (fun hb_ E_ => ?_) (fun hb_ E_ => ?_)
 ·
  replace E := E_; clear E_
  have h31 : ¬ ((r22 : Int) = 0) := bne_iff_ne.1 hb_
  clear hb_; replace hP := ite_f h31 hP
  refine c_true E rfl ?_
  refine wp_seq ?_
  refine wp_region_lit ?_
  refine vn tbok 3 [] [(4, .int .i64 0), (5, .int .i64 r22)] [] E (by kernel_rfl) (by kernel_rfl) trivial ?_
  clear E; intro a E
  refine wpList_nil ?_
  refine th_n ?_
  refine wp_ret ?_
  refine th_ret ?_
  obtain rfl := Option.some.inj hP
  refine ret2 E rfl rfl rfl ?_
  exact ⟨_, rfl, rfl, H.sel [] rfl⟩
 replace E := E_; clear E_
 have h32 : (r22 : Int) = 0 := bne_eq_false_iff_eq.1 hb_
 clear hb_; replace hP := ite_t h32 hP
 refine c_false E rfl ?_
 refine wp_skip ?_
 refine th_n ?_
 refine wp_seq ?_
 refine wp_seq ?_
 refine wp_region_lit ?_
 refine vn tbok 3 [.int .i64 aProps] [(17, .int .i64 aProps), (18, .slice A13 (List.length t) c14)] [World.cell? w28 ⟨g17, 0, none⟩ = some (.int .i64 aProps)] E (by kernel_rfl) (by kernel_rfl) ((H.box 4 rfl).cell (j := 0) rfl) ?_
 clear E; intro a E
 obtain ⟨r33, h34, hP⟩ := bind_inv hP
 obtain ⟨Fa35, Hc36, hb37⟩ := H.call [] [(3, false)] rfl rfl trivial
 refine e_call E rfl rfl Try.func80 rfl rfl rfl (letter_Trace_calls A13 c14 aProps t hk15 Hc36 h34) ?_
 rintro v38 w39 a ⟨rfl, HR40⟩ E_
 replace E := E_ _ rfl; clear E_
 obtain ⟨H_, hc41⟩ := hb37 _ _ HR40 rfl
 replace H := H_; clear H_; try dsimp only [setn, addE, goneL] at H
 refine vn tbok 1 [] [(7, .int .i64 r33)] [] E (by kernel_rfl) (by kernel_rfl) trivial ?_
 clear E; intro a E
 refine wpList_nil ?_
 refine th_n ?_
 refine wp_seq ?_
 refine wp_region_lit ?_
 refine vn tbok 2 [] [(21, .bool ((r33 : Int) != 0))] [] E (by kernel_rfl) (by kernel_rfl) trivial ?_
 clear E; intro a E
 refine wpList_nil ?_
 refine th_n ?_
 refine E.cases (t := 21) rfl (fun hb_ E_ => ?_) (fun hb_ E_ => ?_)
 ·
  replace E := E_; clear E_
  have h42 : ¬ ((r33 : Int) = 0) := bne_iff_ne.1 hb_
  clear hb_; replace hP := ite_f h42 hP
  refine c_true E rfl ?_
  refine wp_seq ?_
  refine wp_region_lit ?_
  refine vn tbok 3 [] [(4, .int .i64 0), (5, .int .i64 r33)] [] E (by kernel_rfl) (by kernel_rfl) trivial ?_
  clear E; intro a E
  refine wpList_nil ?_
  refine th_n ?_
  refine wp_ret ?_
  refine th_ret ?_
  obtain rfl := Option.some.inj hP
  refine ret2 E rfl rfl rfl ?_
  exact ⟨_, rfl, rfl, H.sel [] rfl⟩
 replace E := E_; clear E_
 have h43 : (r33 : Int) = 0 := bne_eq_false_iff_eq.1 hb_
 clear hb_; replace hP := ite_t h43 hP
 refine c_false E rfl ?_
 refine wp_skip ?_
 refine th_n ?_
 refine wp_seq ?_
 refine wp_region_lit ?_
 refine vn tbok 1 [] [(8, .int .i64 0)] [] E (by kernel_rfl) (by kernel_rfl) trivial ?_
 clear E; intro a E
 refine wpList_nil ?_
 refine th_n ?_
 refine wp_seq ?_
 refine wp_seq ?_
 refine wp_region_lit ?_
 refine vn tbok 3 [] [(23, .slice A13 (List.length t) c14), (24, .int .i64 (((List.length t) : Nat) : Int)), (25, .int .i64 0)] [] E (by kernel_rfl) (by kernel_rfl) trivial ?_
 clear E; intro a E
 refine wpList_nil ?_
 refine th_n ?_
 refine wp_block ?_
 obtain ⟨x105, hL106, hK107⟩ := bind_inv hP
 clear hP
 refine loop_cut (fun i_ a w_ => (i_ = 0 ∧ ∃ (x110 : Int), Fr a 43 [(8, .int .i64 x110)] ∧ Hp S Fa w0 w_ [] ∧ x105 = x110)) ?_ ?_
 ·
  refine loopV (fun m109 a w108 => ∃ (q72 : Int) (x73 : Int), Fr a 43 [(2, .pointer (some ⟨g17, 0, none⟩)), (8, .int .i64 q72), (23, .slice A13 (List.length t) c14), (24, .int .i64 (((List.length t) : Nat) : Int)), (25, .int .i64 x73)] ∧ Hp S Fa w0 w108 [.ro false cBool A1 aAccept, .ro false (cInt .i64) A5 aGuard, .ro false cNode A9 aNodes, .box g17 26 [.int .i64 aProps, .slice A1 (List.length aAccept) c2, .slice A5 (List.length aGuard) c6, .slice A9 (List.length aNodes) c10], .ro false (cInt .u8) A13 t] ∧ canon_Run_l0 N aGuard aNodes t m109 q72 x73 = some x105) N ?_ ?_
  ·
   exact ⟨0, 0, E.pick _ ⟨rfl, rfl, rfl, rfl, rfl, trivial⟩, H.sel [0, 1, 2, 4, 3] rfl, hL106⟩
  clear E H hL106; intro m109 a w108 hI_
  obtain ⟨q72, x73, E, H, hP⟩ := hI_
  obtain ⟨m104, rfl⟩ : ∃ q_, m109 = q_ + 1 := by cases m109 with | zero => rw [canon_Run_l0] at hP; cases hP | succ q_ => exact ⟨q_, rfl⟩
  rw [canon_Run_l0] at hP
  refine wp_seq ?_
  refine wp_region_lit ?_
  refine vn tbok 1 [] [(26, .bool (decide (x73 < (((List.length t) : Nat) : Int))))] [] E (by kernel_rfl) (by kernel_rfl) trivial ?_
  clear E; intro a E
  refine wpList_nil ?_
  refine th_n ?_
  refine wp_seq ?_
  refine E.cases (t := 26) rfl (fun hb_ E_ => ?_) (fun hb_ E_ => ?_)
  ·
   replace E := E_; clear E_
   have h111 : x73 < (((List.length t) : Nat) : Int) := of_decide_eq_true hb_
   clear hb_; replace hP := ite_t h111 hP
   refine c_true E rfl ?_
   refine wp_skip ?_
   refine th_n ?_
   refine wp_seq ?_
   refine wp_block ?_
   refine wp_seq ?_
   refine wp_region_lit ?_
   obtain ⟨g112, hP⟩ := ask_inv hP
   obtain ⟨b113, o114, e_b113⟩ := (H.rd 4 rds_ro).addr (idx_pos g112)
   subst e_b113
   refine vn tbok 3 [.int .u8 (List.getD t (Int.toNat x73) 0)] [(10, .int .u8 (List.getD t (Int.toNat x73) 0))] [0 ≤ x73 ∧ x73 < (((List.length t) : Nat) : Int), World.cell? w108 ⟨b113, o114 + (Int.toNat x73) * 1, none⟩ = some (.int .u8 (List.getD t (Int.toNat x73) 0))] E (by kernel_rfl) (by kernel_rfl) ⟨g112, Rds.at1 (H.rd 4 rds_ro) 0 g112⟩ ?_
   clear E; intro a E
   refine wpList_nil ?_
   refine th_n ?_
   obtain ⟨g115, hP⟩ := ask_inv hP
   obtain ⟨b116, o117, e_b116⟩ := (H.rd 1 rds_ro).addr (idx_pos g115)
   subst e_b116
   obtain ⟨r118, h119, hP⟩ := bind_inv hP
   have HR130 := H
   refine dr_start (S := fun w_ => Chg (atL []) w108 w_) (by kernel_rfl) ?_
   intro w127 hc128
   have HS129 : Chg (atL []) w108 w127 := hc128.mono (fun _ _ h_ => h_.elim)
   replace H := H.ext hc128
   refine dn tbok (by kernel_rfl) [0, 1, 2, 3, 4, 5, 6, 7] [.slice A9 (List.length aNodes) c10, .slice (some ⟨b116, o117, none⟩) (List.length aGuard) c6, .int .i64 (List.getD aGuard (Int.toNat q72) 0)] [(31, .slice A9 (List.length aNodes) c10), (36, .int .i64 (List.getD aGuard (Int.toNat q72) 0)), (37, .int .u8 (List.getD t (Int.toNat x73) 0))] (fun w_ => [World.cell? w_ ⟨g17, 3, none⟩ = some (.slice A9 (List.length aNodes) c10), World.cell? w_ ⟨g17, 2, none⟩ = some (.slice (some ⟨b116, o117, none⟩) (List.length aGuard) c6), 0 ≤ q72 ∧ q72 < (((List.length aGuard) : Nat) : Int), World.cell? w_ ⟨b116, o117 + (Int.toNat q72) * 1, none⟩ = some (.int .i64 (List.getD aGuard (Int.toNat q72) 0))]) 5 E (fun _ _ => by kernel_rfl) (by kernel_rfl) (fun w_ hS_ => ⟨(HR130.boxk [] hS_ 3 rfl rfl).cell (j := 3) rfl, (HR130.boxk [] hS_ 3 rfl rfl).cell (j := 2) rfl, g115, Rds.at1 (HR130.rdk [] hS_ 1 rds_ro rfl) 0 g115⟩) (by kernel_rfl) HS129 ?_
   clear E; intro a E
   refine wpAnyH_all (rs := [8]) (by kernel_rfl) (by simp) ?_
   refine all1 ?_
   refine wpOp_of_list rfl ?_
   obtain ⟨Fa131, Hc132, hb133⟩ := H.call [] [(2, false)] rfl rfl trivial
   refine e_call E rfl rfl Try.func81 rfl rfl rfl (guard_Go_calls A9 c10 aNodes (List.getD aGuard (Int.toNat q72) 0) (List.getD t (Int.toNat x73) 0) hk11 Hc132 h119) ?_
   rintro v134 w135 a ⟨rfl, HR136⟩ E_
   replace E := E_ _ rfl; clear E_
   obtain ⟨H_, hc137⟩ := hb133 _ _ HR136 rfl
   replace HS129 := HS129.ext (callS_ext hc137)
   replace H := H_; clear H_; try dsimp only [setn, addE, goneL] at H
   refine wpList_nil ?_
   refine th_n ⟨HS129, ?_⟩
   refine dn tbok (by kernel_rfl) [9, 10, 11, 12] [] [(8, .int .i64 r118.1)] (fun w_ => []) 0 E (fun _ _ => by kernel_rfl) (by kernel_rfl) (fun w_ hS_ => trivial) (by kernel_rfl) HS129 ?_
   clear E; intro a E
   refine dr_done (by kernel_rfl) ?_
   clear HS129 HR130
   refine bl_n ?_
   refine th_n ?_
   refine wp_region_lit ?_
   obtain ⟨g138, hP⟩ := ask_inv hP
   refine vn tbok 2 [.int .i64 (x73 + 1)] [(25, .int .i64 (x73 + 1))] [IntKind.i64.wrap (x73 + 1) = x73 + 1] E (by kernel_rfl) (by kernel_rfl) (wrap_in g138) ?_
   clear E; intro a E
   refine wpList_nil ?_
   exact th_n ⟨m104, Nat.lt_succ_self _, r118.1, x73 + 1, E.pick _ ⟨rfl, rfl, rfl, rfl, rfl, trivial⟩, H.sel [0, 1, 2, 3, 4] rfl, hP⟩
  replace E := E_; clear E_
  have h139 : ¬ (x73 < (((List.length t) : Nat) : Int)) := of_decide_eq_false hb_
  clear hb_; replace hP := ite_f h139 hP
  refine c_false E rfl ?_
  refine wp_exit ?_
  refine th_exit ?_
  have hx_ := Option.some.inj hP
  refine th_exit (.inl ⟨0, rfl, ?_⟩)
  exact ⟨rfl, q72, E.pick _ ⟨rfl, trivial⟩, H.sel [] rfl, hx_.symm⟩
 clear E H hL106; intro i_ a w108 hM_
 obtain ⟨rfl, x110, E, H, hx_⟩ := hM_
 subst hx_; have hP := hK107; clear hK107
 refine bl_hit ?_
 refine th_n ?_
 refine wp_seq ?_
 refine wp_region_lit ?_
 refine vn tbok 3 [] [(4, .int .i64 x105), (5, .int .i64 0)] [] E (by kernel_rfl) (by kernel_rfl) trivial ?_
 clear E; intro a E
 refine wpList_nil ?_
 refine th_n ?_
 refine wp_ret ?_
 obtain rfl := Option.some.inj hP
 refine ret2 E rfl rfl rfl ?_
 exact ⟨_, rfl, rfl, H.sel [] rfl⟩

/-! rejoinder/rejoinderlaw20.accepts -/
def law20_accepts (N : Nat) (aProps : Int) (aAccept : List Bool) (aGuard : List Int) (aNodes : List Nd) (t : List Int) : Option Bool :=
  Option.bind (canon_Run N aProps aAccept aGuard aNodes t) fun r22 =>
  if (r22.2 : Int) = 0 then
    if 0 ≤ r22.1 then
      if r22.1 < (((List.length aAccept) : Nat) : Int) then
        ask (idx r22.1 (List.length aAccept)) <|
        some (List.getD aAccept (Int.toNat r22.1) false)
      else
        some false
    else
      some false
  else
    some false
set_option maxRecDepth 100000 in
set_option maxHeartbeats 4000000 in
theorem law20_accepts_calls {N : Nat} {S Fa : Nat → Prop} {w0 : World} {r : Bool} (A1 : Option Addr) (c2 : Nat) (A5 : Option Addr) (c6 : Nat) (A9 : Option Addr) (c10 : Nat) (A13 : Option Addr) (c14 : Nat) (aProps : Int) (aAccept : List Bool) (aGuard : List Int) (aNodes : List Nd) (t : List Int) (hk3 : List.length aAccept ≤ c2) (hk7 : List.length aGuard ≤ c6) (hk11 : List.length aNodes ≤ c10) (hk15 : List.length t ≤ c14) (H : Hp S Fa w0 w0 [.ro false cBool A1 aAccept, .ro false (cInt .i64) A5 aGuard, .ro false cNode A9 aNodes, .ro false (cInt .u8) A13 t]) (hP : law20_accepts N aProps aAccept aGuard aNodes t = some r) :
    Calls Try.prog 29 #[.agg #[.int .i64 aProps, .slice A1 (List.length aAccept) c2, .slice A5 (List.length aGuard) c6, .slice A9 (List.length aNodes) c10], .slice A13 (List.length t) c14] w0 fun e w' => ∃ v, e = .returned v ∧ v = .bool r ∧ Hp S Fa w0 w' [] := by
 refine enterV (n := 33) Try.func29 rfl rfl rfl ?_
 intro a E
 replace E := E.pick [(0, .agg #[.int .i64 aProps, .slice A1 (List.length aAccept) c2, .slice A5 (List.length aGuard) c6, .slice A9 (List.length aNodes) c10]), (1, .slice A13 (List.length t) c14)] ⟨rfl, rfl, trivial⟩
 rw [law20_accepts] at hP
 refine wp_seq ?_
 refine wp_region_lit ?_
 refine h_box H E rfl rfl rfl ?_
 intro w18 g17 a hc19 hg21 H_ E_
 replace E := E_ _ rfl; clear E_
 replace H := H_; clear H_; try dsimp only [setn, addE, goneL] at H
 refine vn tbok 1 [] [] [] E (by kernel_rfl) (by kernel_rfl) trivial ?_
 clear E; intro a E
 refine wpList_nil ?_
 refine th_n ?_
 refine wp_seq ?_
 refine wp_region_lit ?_
 refine vn tbok 2 [.agg #[.int .i64 aProps, .slice A1 (List.length aAccept) c2, .slice A5 (List.length aGuard) c6, .slice A9 (List.length aNodes) c10]] [(8, .agg #[.int .i64 aProps, .slice A1 (List.length aAccept) c2, .slice A5 (List.length aGuard) c6, .slice A9 (List.length aNodes) c10]), (9, .slice A13 (List.length t) c14)] [cellsAt w18 g17 (0) [.int .i64 aProps, .slice A1 (List.length aAccept) c2, .slice A5 (List.length aGuard) c6, .slice A9 (List.length aNodes) c10]] E (by kernel_rfl) (by kernel_rfl) ((H.box 4 rfl).sub 0 _ rfl) ?_
 clear E; intro a E
 obtain ⟨r22, h23, hP⟩ := bind_inv hP
 obtain ⟨Fa24, Hc25, hb26⟩ := H.call [] [(0, false), (1, false), (2, false), (3, false)] rfl rfl trivial
 refine e_call E rfl rfl Try.func59 rfl rfl rfl (canon_Run_calls A1 c2 A5 c6 A9 c10 A13 c14 aProps aAccept aGuard aNodes t hk3 hk7 hk11 hk15 Hc25 h23) ?_
 rintro v27 w28 a ⟨rfl, HR29⟩ E_
 replace E := E_ _ rfl; clear E_
 obtain ⟨H_, hc30⟩ := hb26 _ _ HR29 rfl
 replace H := H_; clear H_; try dsimp only [setn, addE, goneL] at H
 refine vn tbok 5 [] [(5, .int .i64 r22.1), (6, .int .i64 r22.2)] [] E (by kernel_rfl) (by kernel_rfl) trivial ?_
 clear E; intro a E
 refine wpList_nil ?_
 refine th_n ?_
 refine wp_seq ?_
 refine wp_region_lit ?_
 refine vn tbok 3 [] [(15, .bool ((r22.2 : Int) == 0))] [] E (by kernel_rfl) (by kernel_rfl) trivial ?_
 clear E; intro a E
 refine E.cases (t := 15) rfl (fun hb_ E_ => ?_) (fun hb_ E_ => ?_)
 ·
  replace E := E_; clear E_
  have h31 : (r22.2 : Int) = 0 := eq_of_beq hb_
  clear hb_; replace hP := ite_t h31 hP
  refine vn tbok 4 [] [(19, .bool (decide (0 ≤ r22.1)))] [] E (by kernel_rfl) (by kernel_rfl) trivial ?_
  clear E; intro a E
  refine E.cases (t := 19) rfl (fun hb_ E_ => ?_) (fun hb_ E_ => ?_)
  ·
   replace E := E_; clear E_
   have h32 : 0 ≤ r22.1 := of_decide_eq_true hb_
   clear hb_; replace hP := ite_t h32 hP
   refine vn tbok 7 [.slice A1 (List.length aAccept) c2] [(26, .bool (decide (r22.1 < (((List.length aAccept) : Nat) : Int))))] [World.cell? w28 ⟨g17, 1, none⟩ = some (.slice A1 (List.length aAccept) c2)] E (by kernel_rfl) (by kernel_rfl) ((H.box 4 rfl).cell (j := 1) rfl) ?_
   clear E; intro a E
   refine E.cases (t := 26) rfl (fun hb_ E_ => ?_) (fun hb_ E_ => ?_)
   ·
    replace E := E_; clear E_
    have h33 : r22.1 < (((List.length aAccept) : Nat) : Int) := of_decide_eq_true hb_
    clear hb_; replace hP := ite_t h33 hP
    obtain ⟨g34, hP⟩ := ask_inv hP
    obtain ⟨b35, o36, e_b35⟩ := (H.rd 0 rds_ro).addr (idx_pos g34)
    subst e_b35
    refine vn tbok 7 [.slice (some ⟨b35, o36, none⟩) (List.length aAccept) c2, .bool (List.getD aAccept (Int.toNat r22.1) false)] [(4, .bool (List.getD aAccept (Int.toNat r22.1) false))] [World.cell? w28 ⟨g17, 1, none⟩ = some (.slice (some ⟨b35, o36, none⟩) (List.length aAccept) c2), 0 ≤ r22.1 ∧ r22.1 < (((List.length aAccept) : Nat) : Int), World.cell? w28 ⟨b35, o36 + (Int.toNat r22.1) * 1, none⟩ = some (.bool (List.getD aAccept (Int.toNat r22.1) false))] E (by kernel_rfl) (by kernel_rfl) ⟨(H.box 4 rfl).cell (j := 1) rfl, g34, Rds.at1 (H.rd 0 rds_ro) false g34⟩ ?_
    clear E; intro a E
    refine wpList_nil ?_
    refine th_n ?_
    refine wp_ret ?_
    obtain rfl := Option.some.inj hP
    refine ret1 E rfl rfl ?_
    exact ⟨_, rfl, rfl, H.sel [] rfl⟩
   replace E := E_; clear E_
   have h37 : ¬ (r22.1 < (((List.length aAccept) : Nat) : Int)) := of_decide_eq_false hb_
   clear hb_; replace hP := ite_f h37 hP
   refine vn tbok 7 [] [(4, .bool false)] [] E (by kernel_rfl) (by kernel_rfl) trivial ?_
   clear E; intro a E
   refine wpList_nil ?_
   refine th_n ?_
   refine wp_ret ?_
   obtain rfl := Option.some.inj hP
   refine ret1 E rfl rfl ?_
   exact ⟨_, rfl, rfl, H.sel [] rfl⟩
  replace E := E_; clear E_
  have h38 : ¬ (0 ≤ r22.1) := of_decide_eq_false hb_
  clear hb_; replace hP := ite_f h38 hP
  refine vn tbok 14 [] [(4, .bool false)] [] E (by kernel_rfl) (by kernel_rfl) trivial ?_
  clear E; intro a E
  refine wpList_nil ?_
  refine th_n ?_
  refine wp_ret ?_
  obtain rfl := Option.some.inj hP
  refine ret1 E rfl rfl ?_
  exact ⟨_, rfl, rfl, H.sel [] rfl⟩
 replace E := E_; clear E_
 have h39 : ¬ ((r22.2 : Int) = 0) := ne_of_beq_false hb_
 clear hb_; replace hP := ite_f h39 hP
 refine vn tbok 18 [] [(4, .bool false)] [] E (by kernel_rfl) (by kernel_rfl) trivial ?_
 clear E; intro a E
 refine wpList_nil ?_
 refine th_n ?_
 refine wp_ret ?_
 obtain rfl := Option.some.inj hP
 refine ret1 E rfl rfl ?_
 exact ⟨_, rfl, rfl, H.sel [] rfl⟩

/-! rejoinder/canon.Is -/
end Go.V
