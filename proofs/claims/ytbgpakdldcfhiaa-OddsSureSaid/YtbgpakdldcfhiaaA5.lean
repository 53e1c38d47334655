/- Plain functions, and the calls that give them. -/
import Derived.Test.YtbgpakdldcfhiaaA4
set_option linter.all false
set_option linter.unusedVariables false
set_option linter.unnecessarySimpa false
set_option linter.unusedSimpArgs false
namespace Go.V
open Go Go.Proofs
/-! rejoinder/letter.number -/
def letter_number (N : Nat) (n : Int) : Option Bool :=
  if 0 ≤ n then
    some (decide (n ≤ 8))
  else
    some false
set_option maxRecDepth 100000 in
set_option maxHeartbeats 4000000 in
theorem letter_number_calls {N : Nat} {S Fa : Nat → Prop} {w0 : World} {r : Bool} (n : Int) (H : Hp S Fa w0 w0 []) (hP : letter_number N n = some r) :
    Calls Try.prog 33 #[.int .i64 n] w0 fun e w' => ∃ v, e = .returned v ∧ v = .bool r ∧ Hp S Fa w0 w' [] := by
 refine enterV (n := 9) Try.func33 rfl rfl rfl ?_
 intro a E
 replace E := E.pick [(0, .int .i64 n)] ⟨rfl, trivial⟩
 rw [letter_number] at hP
 refine wp_seq ?_
 refine wp_region_lit ?_
 refine vr tbok 1 [] [(0, .int .i64 n)] [] E (by kernel_rfl) trivial ?_
 clear E; intro a E
 refine wpList_nil ?_
 refine th_n ?_
 refine wp_seq ?_
 refine wp_region_lit ?_
 refine vr tbok 3 [] [(0, .int .i64 n), (5, .bool (decide (0 ≤ n)))] [] E (by kernel_rfl) trivial ?_
 clear E; intro a E
 refine E.cases (t := 5) rfl (fun hb_ E_ => ?_) (fun hb_ E_ => ?_)
 ·
  replace E := E_; clear E_
  have h1 : 0 ≤ n := of_decide_eq_true hb_
  clear hb_; replace hP := ite_t h1 hP
  refine vr tbok 4 [] [(2, .bool (decide (n ≤ 8)))] [] E (by kernel_rfl) trivial ?_
  clear E; intro a E
  refine wpList_nil ?_
  refine th_n ?_
  refine wp_ret ?_
  obtain rfl := Option.some.inj hP
  refine ret1 E rfl rfl ?_
  exact ⟨_, rfl, rfl, H.sel [] rfl⟩
 replace E := E_; clear E_
 have h2 : ¬ (0 ≤ n) := of_decide_eq_false hb_
 clear hb_; replace hP := ite_f h2 hP
 refine vr tbok 4 [] [(2, .bool false)] [] E (by kernel_rfl) trivial ?_
 clear E; intro a E
 refine wpList_nil ?_
 refine th_n ?_
 refine wp_ret ?_
 obtain rfl := Option.some.inj hP
 refine ret1 E rfl rfl ?_
 exact ⟨_, rfl, rfl, H.sel [] rfl⟩

/-! rejoinder/letter.Fits -/
def letter_Fits (N : Nat) (n : Int) (ll : Int) : Option Bool :=
  Option.bind (letter_number N n) fun r1 =>
  if r1 = true then
    ask (in64 ll) <|
    ask (0 ≤ n) <|
    some ((shrV .i64 ll n : Int) == 0)
  else
    some false
set_option maxRecDepth 100000 in
set_option maxHeartbeats 4000000 in
theorem letter_Fits_calls {N : Nat} {S Fa : Nat → Prop} {w0 : World} {r : Bool} (n : Int) (ll : Int) (H : Hp S Fa w0 w0 []) (hP : letter_Fits N n ll = some r) :
    Calls Try.prog 34 #[.int .i64 n, .int .u8 ll] w0 fun e w' => ∃ v, e = .returned v ∧ v = .bool r ∧ Hp S Fa w0 w' [] := by
 refine enterV (n := 14) Try.func34 rfl rfl rfl ?_
 intro a E
 replace E := E.pick [(0, .int .i64 n), (1, .int .u8 ll)] ⟨rfl, rfl, trivial⟩
 rw [letter_Fits] at hP
 refine wp_seq ?_
 refine wp_region_lit ?_
 refine vr tbok 1 [] [(0, .int .i64 n), (1, .int .u8 ll)] [] E (by kernel_rfl) trivial ?_
 clear E; intro a E
 refine wpList_nil ?_
 refine th_n ?_
 refine wp_seq ?_
 refine wp_region_lit ?_
 refine vr tbok 1 [] [(0, .int .i64 n), (1, .int .u8 ll), (5, .int .i64 n)] [] E (by kernel_rfl) trivial ?_
 clear E; intro a E
 obtain ⟨r1, h2, hP⟩ := bind_inv hP
 obtain ⟨Fa3, Hc4, hb5⟩ := H.call [] [] rfl rfl trivial
 refine e_call E rfl rfl Try.func33 rfl rfl rfl (letter_number_calls  n  Hc4 h2) ?_
 rintro v6 w7 a ⟨rfl, HR8⟩ E_
 replace E := E_ _ rfl; clear E_
 obtain ⟨H_, hc9⟩ := hb5 _ _ HR8 rfl
 replace H := H_; clear H_; try dsimp only [setn, addE, goneL] at H
 refine vr tbok 1 [] [(0, .int .i64 n), (1, .int .u8 ll), (7, .bool r1)] [] E (by kernel_rfl) trivial ?_
 clear E; intro a E
 refine E.cases (t := 7) rfl (fun hb_ E_ => ?_) (fun hb_ E_ => ?_)
 ·
  replace E := E_; clear E_
  have h10 : r1 = true := hb_
  clear hb_; replace hP := ite_t h10 hP
  obtain ⟨g11, hP⟩ := ask_inv hP
  obtain ⟨g12, hP⟩ := ask_inv hP
  refine vr tbok 7 [.int .i64 ll, .int .i64 (shrV .i64 ll n)] [(4, .bool ((shrV .i64 ll n : Int) == 0))] [IntKind.i64.wrap ll = ll, 0 ≤ n ∧ Int.fdiv ll (2 ^ (min (Int.toNat n) (IntKind.bits .i64))) = shrV .i64 ll n] E (by kernel_rfl) ⟨wrap_in g11, ⟨g12, rfl⟩⟩ ?_
  clear E; intro a E
  refine wpList_nil ?_
  refine th_n ?_
  refine wp_ret ?_
  obtain rfl := Option.some.inj hP
  refine ret1 E rfl rfl ?_
  exact ⟨_, rfl, rfl, H.sel [] rfl⟩
 replace E := E_; clear E_
 have h13 : ¬ (r1 = true) := (ne_true_of_eq_false hb_)
 clear hb_; replace hP := ite_f h13 hP
 refine vr tbok 7 [] [(4, .bool false)] [] E (by kernel_rfl) trivial ?_
 clear E; intro a E
 refine wpList_nil ?_
 refine th_n ?_
 refine wp_ret ?_
 obtain rfl := Option.some.inj hP
 refine ret1 E rfl rfl ?_
 exact ⟨_, rfl, rfl, H.sel [] rfl⟩

/-! rejoinder/letter.Trace -/
def letter_Trace_l0 (N : Nat) (n : Int) (t : List Int) : Nat → Int → Option (Unit ⊕ Int)
  | 0, _ => none
  | m52 + 1, x34 =>
    if x34 < (((List.length t) : Nat) : Int) then
      ask (idx x34 (List.length t)) <|
      Option.bind (letter_Fits N n (List.getD t (Int.toNat x34) 0)) fun r63 =>
      if r63 = true then
        ask (in64 (x34 + 1)) <|
        letter_Trace_l0 N n t m52 (x34 + 1)
      else
        some (Sum.inr 2)
    else
      some (Sum.inl ())
def letter_Trace (N : Nat) (n : Int) (t : List Int) : Option Int :=
  Option.bind (letter_number N n) fun r5 =>
  if r5 = true then
    if 1024 < (((List.length t) : Nat) : Int) then
      some 3
    else
      Option.bind (letter_Trace_l0 N n t N 0) fun x53 =>
      Sum.elim (fun x58 =>
        some 0)
       (fun x76 =>
        some x76) x53
  else
    some 2
set_option maxRecDepth 100000 in
set_option maxHeartbeats 4000000 in
theorem letter_Trace_calls {N : Nat} {S Fa : Nat → Prop} {w0 : World} {r : Int} (A1 : Option Addr) (c2 : Nat) (n : Int) (t : List Int) (hk3 : List.length t ≤ c2) (H : Hp S Fa w0 w0 [.ro false (cInt .u8) A1 t]) (hP : letter_Trace N n t = some r) :
    Calls Try.prog 27 #[.int .i64 n, .slice A1 (List.length t) c2] w0 fun e w' => ∃ v, e = .returned v ∧ v = .int .i64 r ∧ Hp S Fa w0 w' [] := by
 refine enterV (n := 24) Try.func27 rfl rfl rfl ?_
 intro a E
 replace E := E.pick [(0, .int .i64 n), (1, .slice A1 (List.length t) c2)] ⟨rfl, rfl, trivial⟩
 rw [letter_Trace] at hP
 refine wp_seq ?_
 refine wp_region_lit ?_
 refine vr tbok 1 [] [(0, .int .i64 n), (1, .slice A1 (List.length t) c2)] [] E (by kernel_rfl) trivial ?_
 clear E; intro a E
 refine wpList_nil ?_
 refine th_n ?_
 refine wp_seq ?_
 refine wp_seq ?_
 refine wp_region_lit ?_
 refine vr tbok 1 [] [(0, .int .i64 n), (1, .slice A1 (List.length t) c2), (7, .int .i64 n)] [] E (by kernel_rfl) trivial ?_
 clear E; intro a E
 obtain ⟨r5, h6, hP⟩ := bind_inv hP
 obtain ⟨Fa7, Hc8, hb9⟩ := H.call [] [] rfl rfl trivial
 refine e_call E rfl rfl Try.func33 rfl rfl rfl (letter_number_calls  n  Hc8 h6) ?_
 rintro v10 w11 a ⟨rfl, HR12⟩ E_
 replace E := E_ _ rfl; clear E_
 obtain ⟨H_, hc13⟩ := hb9 _ _ HR12 rfl
 replace H := H_; clear H_; try dsimp only [setn, addE, goneL] at H
 refine vr tbok 1 [] [(0, .int .i64 n), (1, .slice A1 (List.length t) c2), (9, .bool (!r5))] [] E (by kernel_rfl) trivial ?_
 clear E; intro a E
 refine wpList_nil ?_
 refine th_n ?_
 refine E.cases (t := 9) rfl (fun hb_ E_ => ?_) (fun hb_ E_ => ?_)
 ·
  replace E := E_; clear E_
  have h14 : ¬ (r5 = true) := (ne_true_of_eq_false (not_t hb_))
  clear hb_; replace hP := ite_f h14 hP
  refine c_true E rfl ?_
  refine wp_seq ?_
  refine wp_region_lit ?_
  refine vr tbok 1 [] [(4, .int .i64 2)] [] E (by kernel_rfl) trivial ?_
  clear E; intro a E
  refine wpList_nil ?_
  refine th_n ?_
  refine wp_ret ?_
  refine th_ret ?_
  obtain rfl := Option.some.inj hP
  refine ret1 E rfl rfl ?_
  exact ⟨_, rfl, rfl, H.sel [] rfl⟩
 replace E := E_; clear E_
 have h15 : r5 = true := (not_f hb_)
 clear hb_; replace hP := ite_t h15 hP
 refine c_false E rfl ?_
 refine wp_skip ?_
 refine th_n ?_
 refine wp_seq ?_
 refine wp_seq ?_
 refine wp_region_lit ?_
 refine vr tbok 3 [] [(0, .int .i64 n), (1, .slice A1 (List.length t) c2), (12, .bool (decide (1024 < (((List.length t) : Nat) : Int))))] [] E (by kernel_rfl) trivial ?_
 clear E; intro a E
 refine wpList_nil ?_
 refine th_n ?_
 refine E.cases (t := 12) rfl (fun hb_ E_ => ?_) (fun hb_ E_ => ?_)
 ·
  replace E := E_; clear E_
  have h16 : 1024 < (((List.length t) : Nat) : Int) := of_decide_eq_true hb_
  clear hb_; replace hP := ite_t h16 hP
  refine c_true E rfl ?_
  refine wp_seq ?_
  refine wp_region_lit ?_
  refine vr tbok 1 [] [(4, .int .i64 3)] [] E (by kernel_rfl) trivial ?_
  clear E; intro a E
  refine wpList_nil ?_
  refine th_n ?_
  refine wp_ret ?_
  refine th_ret ?_
  obtain rfl := Option.some.inj hP
  refine ret1 E rfl rfl ?_
  exact ⟨_, rfl, rfl, H.sel [] rfl⟩
 replace E := E_; clear E_
 have h17 : ¬ (1024 < (((List.length t) : Nat) : Int)) := of_decide_eq_false hb_
 clear hb_; replace hP := ite_f h17 hP
 refine c_false E rfl ?_
 refine wp_skip ?_
 refine th_n ?_
 refine wp_seq ?_
 refine wp_seq ?_
 refine wp_region_lit ?_
 refine vr tbok 3 [] [(0, .int .i64 n), (13, .slice A1 (List.length t) c2), (14, .int .i64 (((List.length t) : Nat) : Int)), (15, .int .i64 0)] [] E (by kernel_rfl) trivial ?_
 clear E; intro a E
 refine wpList_nil ?_
 refine th_n ?_
 refine wp_block ?_
 obtain ⟨x53, hL54, hK55⟩ := bind_inv hP
 clear hP
 refine loop_cut (fun i_ a w_ => (i_ = 0 ∧ ∃ (x58 : Unit), Fr a 24 [] ∧ Hp S Fa w0 w_ [] ∧ x53 = Sum.inl x58)) ?_ ?_
 ·
  refine loopV (fun m57 a w56 => ∃ (x34 : Int), Fr a 24 [(0, .int .i64 n), (13, .slice A1 (List.length t) c2), (14, .int .i64 (((List.length t) : Nat) : Int)), (15, .int .i64 x34)] ∧ Hp S Fa w0 w56 [.ro false (cInt .u8) A1 t] ∧ letter_Trace_l0 N n t m57 x34 = some x53) N ?_ ?_
  ·
   exact ⟨0, E.pick _ ⟨rfl, rfl, rfl, rfl, trivial⟩, H.sel [0] rfl, hL54⟩
  clear E H hL54; intro m57 a w56 hI_
  obtain ⟨x34, E, H, hP⟩ := hI_
  obtain ⟨m52, rfl⟩ : ∃ q_, m57 = q_ + 1 := by cases m57 with | zero => rw [letter_Trace_l0] at hP; cases hP | succ q_ => exact ⟨q_, rfl⟩
  rw [letter_Trace_l0] at hP
  refine wp_seq ?_
  refine wp_region_lit ?_
  refine vr tbok 1 [] [(0, .int .i64 n), (13, .slice A1 (List.length t) c2), (14, .int .i64 (((List.length t) : Nat) : Int)), (15, .int .i64 x34), (16, .bool (decide (x34 < (((List.length t) : Nat) : Int))))] [] E (by kernel_rfl) trivial ?_
  clear E; intro a E
  refine wpList_nil ?_
  refine th_n ?_
  refine wp_seq ?_
  refine E.cases (t := 16) rfl (fun hb_ E_ => ?_) (fun hb_ E_ => ?_)
  ·
   replace E := E_; clear E_
   have h59 : x34 < (((List.length t) : Nat) : Int) := of_decide_eq_true hb_
   clear hb_; replace hP := ite_t h59 hP
   refine c_true E rfl ?_
   refine wp_skip ?_
   refine th_n ?_
   refine wp_seq ?_
   refine wp_block ?_
   refine wp_seq ?_
   refine wp_region_lit ?_
   obtain ⟨g60, hP⟩ := ask_inv hP
   obtain ⟨b61, o62, e_b61⟩ := (H.rd 0 rds_ro).addr (idx_pos g60)
   subst e_b61
   refine vr tbok 3 [.int .u8 (List.getD t (Int.toNat x34) 0)] [(0, .int .i64 n), (6, .int .u8 (List.getD t (Int.toNat x34) 0)), (13, .slice (some ⟨b61, o62, none⟩) (List.length t) c2), (14, .int .i64 (((List.length t) : Nat) : Int)), (15, .int .i64 x34)] [0 ≤ x34 ∧ x34 < (((List.length t) : Nat) : Int), World.cell? w56 ⟨b61, o62 + (Int.toNat x34) * 1, none⟩ = some (.int .u8 (List.getD t (Int.toNat x34) 0))] E (by kernel_rfl) ⟨g60, Rds.at1 (H.rd 0 rds_ro) 0 g60⟩ ?_
   clear E; intro a E
   refine wpList_nil ?_
   refine th_n ?_
   refine wp_seq ?_
   refine wp_region_lit ?_
   refine vr tbok 2 [] [(0, .int .i64 n), (13, .slice (some ⟨b61, o62, none⟩) (List.length t) c2), (14, .int .i64 (((List.length t) : Nat) : Int)), (15, .int .i64 x34), (19, .int .i64 n), (20, .int .u8 (List.getD t (Int.toNat x34) 0))] [] E (by kernel_rfl) trivial ?_
   clear E; intro a E
   obtain ⟨r63, h64, hP⟩ := bind_inv hP
   obtain ⟨Fa65, Hc66, hb67⟩ := H.call [] [] rfl rfl trivial
   refine e_call E rfl rfl Try.func34 rfl rfl rfl (letter_Fits_calls  n (List.getD t (Int.toNat x34) 0)  Hc66 h64) ?_
   rintro v68 w69 a ⟨rfl, HR70⟩ E_
   replace E := E_ _ rfl; clear E_
   obtain ⟨H_, hc71⟩ := hb67 _ _ HR70 rfl
   replace H := H_; clear H_; try dsimp only [setn, addE, goneL] at H
   refine vr tbok 1 [] [(0, .int .i64 n), (13, .slice (some ⟨b61, o62, none⟩) (List.length t) c2), (14, .int .i64 (((List.length t) : Nat) : Int)), (15, .int .i64 x34), (22, .bool (!r63))] [] E (by kernel_rfl) trivial ?_
   clear E; intro a E
   refine wpList_nil ?_
   refine th_n ?_
   refine E.cases (t := 22) rfl (fun hb_ E_ => ?_) (fun hb_ E_ => ?_)
   ·
    replace E := E_; clear E_
    have h72 : ¬ (r63 = true) := (ne_true_of_eq_false (not_t hb_))
    clear hb_; replace hP := ite_f h72 hP
    refine c_true E rfl ?_
    refine wp_seq ?_
    refine wp_region_lit ?_
    refine vr tbok 1 [] [(4, .int .i64 2)] [] E (by kernel_rfl) trivial ?_
    clear E; intro a E
    refine wpList_nil ?_
    refine th_n ?_
    refine wp_ret ?_
    refine bl_ret ?_
    refine th_ret ?_
    refine th_ret ?_
    refine .inr ⟨rfl, ?_⟩
    refine bl_ret ?_
    refine th_ret ?_
    have hx_ := Option.some.inj hP; subst hx_
    have hP : some (2) = some r := hK55
    obtain rfl := Option.some.inj hP
    refine ret1 E rfl rfl ?_
    exact ⟨_, rfl, rfl, H.sel [] rfl⟩
   replace E := E_; clear E_
   have h73 : r63 = true := (not_f hb_)
   clear hb_; replace hP := ite_t h73 hP
   refine c_false E rfl ?_
   refine wp_skip ?_
   refine bl_n ?_
   refine th_n ?_
   refine wp_region_lit ?_
   obtain ⟨g74, hP⟩ := ask_inv hP
   refine vr tbok 2 [.int .i64 (x34 + 1)] [(0, .int .i64 n), (13, .slice (some ⟨b61, o62, none⟩) (List.length t) c2), (14, .int .i64 (((List.length t) : Nat) : Int)), (15, .int .i64 (x34 + 1))] [IntKind.i64.wrap (x34 + 1) = x34 + 1] E (by kernel_rfl) (wrap_in g74) ?_
   clear E; intro a E
   refine wpList_nil ?_
   exact th_n ⟨m52, Nat.lt_succ_self _, x34 + 1, E.pick _ ⟨rfl, rfl, rfl, rfl, trivial⟩, H.sel [0] rfl, hP⟩
  replace E := E_; clear E_
  have h75 : ¬ (x34 < (((List.length t) : Nat) : Int)) := of_decide_eq_false hb_
  clear hb_; replace hP := ite_f h75 hP
  refine c_false E rfl ?_
  refine wp_exit ?_
  refine th_exit ?_
  have hx_ := Option.some.inj hP
  refine th_exit (.inl ⟨0, rfl, ?_⟩)
  exact ⟨rfl, (), E.pick _ trivial, H.sel [] rfl, hx_.symm⟩
 clear E H hL54; intro i_ a w56 hM_
 obtain ⟨rfl, x58, E, H, hx_⟩ := hM_
 subst hx_; have hP := elim_l hK55
 clear hK55
 refine bl_hit ?_
 refine th_n ?_
 refine wp_seq ?_
 refine wp_region_lit ?_
 refine vr tbok 1 [] [(4, .int .i64 0)] [] E (by kernel_rfl) trivial ?_
 clear E; intro a E
 refine wpList_nil ?_
 refine th_n ?_
 refine wp_ret ?_
 obtain rfl := Option.some.inj hP
 refine ret1 E rfl rfl ?_
 exact ⟨_, rfl, rfl, H.sel [] rfl⟩

/-! rejoinder/canon.Run -/
def canon_Run_l0 (N : Nat) (aGuard : List Int) (aNodes : List Nd) (t : List Int) : Nat → Int → Int → Option Int
  | 0, _, _ => none
  | m104 + 1, q72, x73 =>
    if x73 < (((List.length t) : Nat) : Int) then
      ask (idx x73 (List.length t)) <|
      ask (idx q72 (List.length aGuard)) <|
      Option.bind (guard_Go N aNodes (List.getD aGuard (Int.toNat q72) 0) (List.getD t (Int.toNat x73) 0)) fun r118 =>
      ask (in64 (x73 + 1)) <|
      canon_Run_l0 N aGuard aNodes t m104 r118.1 (x73 + 1)
    else
      some q72
def canon_Run (N : Nat) (aProps : Int) (aAccept : List Bool) (aGuard : List Int) (aNodes : List Nd) (t : List Int) : Option (Int × Int) :=
  Option.bind (guard_Check N aProps aAccept aGuard aNodes) fun r22 =>
  if (r22 : Int) = 0 then
    Option.bind (letter_Trace N aProps t) fun r33 =>
    if (r33 : Int) = 0 then
      Option.bind (canon_Run_l0 N aGuard aNodes t N 0 0) fun x105 =>
      some (x105, 0)
    else
      some (0, r33)
  else
    some (0, r22)
set_option maxRecDepth 100000 in
set_option maxHeartbeats 4000000 in
theorem canon_Run_calls {N : Nat} {S Fa : Nat → Prop} {w0 : World} {r : Int × Int} (A1 : Option Addr) (c2 : Nat) (A5 : Option Addr) (c6 : Nat) (A9 : Option Addr) (c10 : Nat) (A13 : Option Addr) (c14 : Nat) (aProps : Int) (aAccept : List Bool) (aGuard : List Int) (aNodes : List Nd) (t : List Int) (hk3 : List.length aAccept ≤ c2) (hk7 : List.length aGuard ≤ c6) (hk11 : List.length aNodes ≤ c10) (hk15 : List.length t ≤ c14) (H : Hp S Fa w0 w0 [.ro false cBool A1 aAccept, .ro false (cInt .i64) A5 aGuard, .ro false cNode A9 aNodes, .ro false (cInt .u8) A13 t]) (hP : canon_Run N aProps aAccept aGuard aNodes t = some r) :
    Calls Try.prog 18 #[.agg #[.int .i64 aProps, .slice A1 (List.length aAccept) c2, .slice A5 (List.length aGuard) c6, .slice A9 (List.length aNodes) c10], .slice A13 (List.length t) c14] w0 fun e w' => ∃ v, e = .returned v ∧ v = .tuple #[.int .i64 r.1, .int .i64 r.2] ∧ Hp S Fa w0 w' [] := by
 refine enterV (n := 43) Try.func18 rfl rfl rfl ?_
 intro a E
 replace E := E.pick [(0, .agg #[.int .i64 aProps, .slice A1 (List.length aAccept) c2, .slice A5 (List.length aGuard) c6, .slice A9 (List.length aNodes) c10]), (1, .slice A13 (List.length t) c14)] ⟨rfl, rfl, trivial⟩
 rw [canon_Run] at hP
 refine wp_seq ?_
 refine wp_region_lit ?_
 refine h_box H E rfl rfl rfl ?_
 intro w18 g17 a hc19 hg21 H_ E_
 replace E := E_ _ rfl; clear E_
 replace H := H_; clear H_; try dsimp only [setn, addE, goneL] at H
 refine vr tbok 2 [] [(1, .slice A13 (List.length t) c14), (2, .pointer (some ⟨g17, 0, none⟩))] [] E (by kernel_rfl) trivial ?_
 clear E; intro a E
 refine wpList_nil ?_
 refine th_n ?_
 refine wp_seq ?_
 refine wp_seq ?_
 refine wp_region_lit ?_
 refine vr tbok 1 [.agg #[.int .i64 aProps, .slice A1 (List.length aAccept) c2, .slice A5 (List.length aGuard) c6, .slice A9 (List.length aNodes) c10]] [(1, .slice A13 (List.length t) c14), (2, .pointer (some ⟨g17, 0, none⟩)), (11, .agg #[.int .i64 aProps, .slice A1 (List.length aAccept) c2, .slice A5 (List.length aGuard) c6, .slice A9 (List.length aNodes) c10])] [cellsAt w18 g17 (0) [.int .i64 aProps, .slice A1 (List.length aAccept) c2, .slice A5 (List.length aGuard) c6, .slice A9 (List.length aNodes) c10]] E (by kernel_rfl) ((H.box 4 rfl).sub 0 _ rfl) ?_
 clear E; intro a E
 obtain ⟨r22, h23, hP⟩ := bind_inv hP
 obtain ⟨Fa24, Hc25, hb26⟩ := H.call [] [(0, false), (1, false), (2, false)] rfl rfl trivial
 refine e_call E rfl rfl Try.func26 rfl rfl rfl (guard_Check_calls A1 c2 A5 c6 A9 c10 aProps aAccept aGuard aNodes hk3 hk7 hk11 Hc25 h23) ?_
 rintro v27 w28 a ⟨rfl, HR29⟩ E_
 replace E := E_ _ rfl; clear E_
 obtain ⟨H_, hc30⟩ := hb26 _ _ HR29 rfl
 replace H := H_; clear H_; try dsimp only [setn, addE, goneL] at H
 refine vr tbok 1 [] [(1, .slice A13 (List.length t) c14), (2, .pointer (some ⟨g17, 0, none⟩)), (6, .int .i64 r22)] [] E (by kernel_rfl) trivial ?_
 clear E; intro a E
 refine wpList_nil ?_
 refine th_n ?_
 refine wp_seq ?_
 refine wp_region_lit ?_
 refine vr tbok 2 [] [(1, .slice A13 (List.length t) c14), (2, .pointer (some ⟨g17, 0, none⟩)), (6, .int .i64 r22), (14, .bool ((r22 : Int) != 0))] [] E (by kernel_rfl) trivial ?_
 clear E; intro a E
 refine wpList_nil ?_
 refine th_n ?_
 refine E.cases (t := 14) rfl (fun hb_ E_ => ?_) (fun hb_ E_ => ?_)
 ·
  replace E := E_; clear E_
  have h31 : ¬ ((r22 : Int) = 0) := bne_iff_ne.1 hb_
  clear hb_; replace hP := ite_f h31 hP
  refine c_true E rfl ?_
  refine wp_seq ?_
  refine wp_region_lit ?_
  refine vr tbok 3 [] [(4, .int .i64 0), (5, .int .i64 r22)] [] E (by kernel_rfl) trivial ?_
  clear E; intro a E
  refine wpList_nil ?_
  refine th_n ?_
  refine wp_ret ?_
  refine th_ret ?_
  obtain rfl := Option.some.inj hP
  refine ret2 E rfl rfl rfl ?_
  exact ⟨_, rfl, rfl, H.sel [] rfl⟩
 replace E := E_; clear E_
 have h32 : (r22 : Int) = 0 := bne_eq_false_iff_eq.1 hb_
 clear hb_; replace hP := ite_t h32 hP
 refine c_false E rfl ?_
 refine wp_skip ?_
 refine th_n ?_
 refine wp_seq ?_
 refine wp_seq ?_
 refine wp_region_lit ?_
 refine vr tbok 3 [.int .i64 aProps] [(1, .slice A13 (List.length t) c14), (2, .pointer (some ⟨g17, 0, none⟩)), (17, .int .i64 aProps), (18, .slice A13 (List.length t) c14)] [World.cell? w28 ⟨g17, 0, none⟩ = some (.int .i64 aProps)] E (by kernel_rfl) ((H.box 4 rfl).cell (j := 0) rfl) ?_
 clear E; intro a E
 obtain ⟨r33, h34, hP⟩ := bind_inv hP
 obtain ⟨Fa35, Hc36, hb37⟩ := H.call [] [(3, false)] rfl rfl trivial
 refine e_call E rfl rfl Try.func27 rfl rfl rfl (letter_Trace_calls A13 c14 aProps t hk15 Hc36 h34) ?_
 rintro v38 w39 a ⟨rfl, HR40⟩ E_
 replace E := E_ _ rfl; clear E_
 obtain ⟨H_, hc41⟩ := hb37 _ _ HR40 rfl
 replace H := H_; clear H_; try dsimp only [setn, addE, goneL] at H
 refine vr tbok 1 [] [(1, .slice A13 (List.length t) c14), (2, .pointer (some ⟨g17, 0, none⟩)), (7, .int .i64 r33)] [] E (by kernel_rfl) trivial ?_
 clear E; intro a E
 refine wpList_nil ?_
 refine th_n ?_
 refine wp_seq ?_
 refine wp_region_lit ?_
 refine vr tbok 2 [] [(1, .slice A13 (List.length t) c14), (2, .pointer (some ⟨g17, 0, none⟩)), (7, .int .i64 r33), (21, .bool ((r33 : Int) != 0))] [] E (by kernel_rfl) trivial ?_
 clear E; intro a E
 refine wpList_nil ?_
 refine th_n ?_
 refine E.cases (t := 21) rfl (fun hb_ E_ => ?_) (fun hb_ E_ => ?_)
 ·
  replace E := E_; clear E_
  have h42 : ¬ ((r33 : Int) = 0) := bne_iff_ne.1 hb_
  clear hb_; replace hP := ite_f h42 hP
  refine c_true E rfl ?_
  refine wp_seq ?_
  refine wp_region_lit ?_
  refine vr tbok 3 [] [(4, .int .i64 0), (5, .int .i64 r33)] [] E (by kernel_rfl) trivial ?_
  clear E; intro a E
  refine wpList_nil ?_
  refine th_n ?_
  refine wp_ret ?_
  refine th_ret ?_
  obtain rfl := Option.some.inj hP
  refine ret2 E rfl rfl rfl ?_
  exact ⟨_, rfl, rfl, H.sel [] rfl⟩
 replace E := E_; clear E_
 have h43 : (r33 : Int) = 0 := bne_eq_false_iff_eq.1 hb_
 clear hb_; replace hP := ite_t h43 hP
 refine c_false E rfl ?_
 refine wp_skip ?_
 refine th_n ?_
 refine wp_seq ?_
 refine wp_region_lit ?_
 refine vr tbok 1 [] [(1, .slice A13 (List.length t) c14), (2, .pointer (some ⟨g17, 0, none⟩)), (8, .int .i64 0)] [] E (by kernel_rfl) trivial ?_
 clear E; intro a E
 refine wpList_nil ?_
 refine th_n ?_
 refine wp_seq ?_
 refine wp_seq ?_
 refine wp_region_lit ?_
 refine vr tbok 3 [] [(2, .pointer (some ⟨g17, 0, none⟩)), (8, .int .i64 0), (23, .slice A13 (List.length t) c14), (24, .int .i64 (((List.length t) : Nat) : Int)), (25, .int .i64 0)] [] E (by kernel_rfl) trivial ?_
 clear E; intro a E
 refine wpList_nil ?_
 refine th_n ?_
 refine wp_block ?_
 obtain ⟨x105, hL106, hK107⟩ := bind_inv hP
 clear hP
 refine loop_cut (fun i_ a w_ => (i_ = 0 ∧ ∃ (x110 : Int), Fr a 43 [(8, .int .i64 x110)] ∧ Hp S Fa w0 w_ [] ∧ x105 = x110)) ?_ ?_
 ·
  refine loopV (fun m109 a w108 => ∃ (q72 : Int) (x73 : Int), Fr a 43 [(2, .pointer (some ⟨g17, 0, none⟩)), (8, .int .i64 q72), (23, .slice A13 (List.length t) c14), (24, .int .i64 (((List.length t) : Nat) : Int)), (25, .int .i64 x73)] ∧ Hp S Fa w0 w108 [.ro false cBool A1 aAccept, .ro false (cInt .i64) A5 aGuard, .ro false cNode A9 aNodes, .box g17 26 [.int .i64 aProps, .slice A1 (List.length aAccept) c2, .slice A5 (List.length aGuard) c6, .slice A9 (List.length aNodes) c10], .ro false (cInt .u8) A13 t] ∧ canon_Run_l0 N aGuard aNodes t m109 q72 x73 = some x105) N ?_ ?_
  ·
   exact ⟨0, 0, E.pick _ ⟨rfl, rfl, rfl, rfl, rfl, trivial⟩, H.sel [0, 1, 2, 4, 3] rfl, hL106⟩
  clear E H hL106; intro m109 a w108 hI_
  obtain ⟨q72, x73, E, H, hP⟩ := hI_
  obtain ⟨m104, rfl⟩ : ∃ q_, m109 = q_ + 1 := by cases m109 with | zero => rw [canon_Run_l0] at hP; cases hP | succ q_ => exact ⟨q_, rfl⟩
  rw [canon_Run_l0] at hP
  refine wp_seq ?_
  refine wp_region_lit ?_
  refine vr tbok 1 [] [(2, .pointer (some ⟨g17, 0, none⟩)), (8, .int .i64 q72), (23, .slice A13 (List.length t) c14), (24, .int .i64 (((List.length t) : Nat) : Int)), (25, .int .i64 x73), (26, .bool (decide (x73 < (((List.length t) : Nat) : Int))))] [] E (by kernel_rfl) trivial ?_
  clear E; intro a E
  refine wpList_nil ?_
  refine th_n ?_
  refine wp_seq ?_
  refine E.cases (t := 26) rfl (fun hb_ E_ => ?_) (fun hb_ E_ => ?_)
  ·
   replace E := E_; clear E_
   have h111 : x73 < (((List.length t) : Nat) : Int) := of_decide_eq_true hb_
   clear hb_; replace hP := ite_t h111 hP
   refine c_true E rfl ?_
   refine wp_skip ?_
   refine th_n ?_
   refine wp_seq ?_
   refine wp_block ?_
   refine wp_seq ?_
   refine wp_region_lit ?_
   obtain ⟨g112, hP⟩ := ask_inv hP
   obtain ⟨b113, o114, e_b113⟩ := (H.rd 4 rds_ro).addr (idx_pos g112)
   subst e_b113
   refine vr tbok 3 [.int .u8 (List.getD t (Int.toNat x73) 0)] [(2, .pointer (some ⟨g17, 0, none⟩)), (8, .int .i64 q72), (10, .int .u8 (List.getD t (Int.toNat x73) 0)), (23, .slice (some ⟨b113, o114, none⟩) (List.length t) c14), (24, .int .i64 (((List.length t) : Nat) : Int)), (25, .int .i64 x73)] [0 ≤ x73 ∧ x73 < (((List.length t) : Nat) : Int), World.cell? w108 ⟨b113, o114 + (Int.toNat x73) * 1, none⟩ = some (.int .u8 (List.getD t (Int.toNat x73) 0))] E (by kernel_rfl) ⟨g112, Rds.at1 (H.rd 4 rds_ro) 0 g112⟩ ?_
   clear E; intro a E
   refine wpList_nil ?_
   refine th_n ?_
   obtain ⟨g115, hP⟩ := ask_inv hP
   obtain ⟨b116, o117, e_b116⟩ := (H.rd 1 rds_ro).addr (idx_pos g115)
   subst e_b116
   obtain ⟨r118, h119, hP⟩ := bind_inv hP
   have HR130 := H
   refine dr_start (S := fun w_ => Chg (atL []) w108 w_) (by kernel_rfl) ?_
   intro w127 hc128
   have HS129 : Chg (atL []) w108 w127 := hc128.mono (fun _ _ h_ => h_.elim)
   replace H := H.ext hc128
   refine dr tbok (by kernel_rfl) [0, 1, 2, 3, 4, 5, 6, 7] [.slice A9 (List.length aNodes) c10, .slice (some ⟨b116, o117, none⟩) (List.length aGuard) c6, .int .i64 (List.getD aGuard (Int.toNat q72) 0)] [(2, .pointer (some ⟨g17, 0, none⟩)), (8, .int .i64 q72), (23, .slice (some ⟨b113, o114, none⟩) (List.length t) c14), (24, .int .i64 (((List.length t) : Nat) : Int)), (25, .int .i64 x73), (31, .slice A9 (List.length aNodes) c10), (36, .int .i64 (List.getD aGuard (Int.toNat q72) 0)), (37, .int .u8 (List.getD t (Int.toNat x73) 0))] (fun w_ => [World.cell? w_ ⟨g17, 3, none⟩ = some (.slice A9 (List.length aNodes) c10), World.cell? w_ ⟨g17, 2, none⟩ = some (.slice (some ⟨b116, o117, none⟩) (List.length aGuard) c6), 0 ≤ q72 ∧ q72 < (((List.length aGuard) : Nat) : Int), World.cell? w_ ⟨b116, o117 + (Int.toNat q72) * 1, none⟩ = some (.int .i64 (List.getD aGuard (Int.toNat q72) 0))]) 5 E (fun _ _ => by kernel_rfl) (fun w_ hS_ => ⟨(HR130.boxk [] hS_ 3 rfl rfl).cell (j := 3) rfl, (HR130.boxk [] hS_ 3 rfl rfl).cell (j := 2) rfl, g115, Rds.at1 (HR130.rdk [] hS_ 1 rds_ro rfl) 0 g115⟩) (by kernel_rfl) HS129 ?_
   clear E; intro a E
   refine wpAnyH_all (rs := [8]) (by kernel_rfl) (by simp) ?_
   refine all1 ?_
   refine wpOp_of_list rfl ?_
   obtain ⟨Fa131, Hc132, hb133⟩ := H.call [] [(2, false)] rfl rfl trivial
   refine e_call E rfl rfl Try.func28 rfl rfl rfl (guard_Go_calls A9 c10 aNodes (List.getD aGuard (Int.toNat q72) 0) (List.getD t (Int.toNat x73) 0) hk11 Hc132 h119) ?_
   rintro v134 w135 a ⟨rfl, HR136⟩ E_
   replace E := E_ _ rfl; clear E_
   obtain ⟨H_, hc137⟩ := hb133 _ _ HR136 rfl
   replace HS129 := HS129.ext (callS_ext hc137)
   replace H := H_; clear H_; try dsimp only [setn, addE, goneL] at H
   refine wpList_nil ?_
   refine th_n ⟨HS129, ?_⟩
   refine dr tbok (by kernel_rfl) [9, 10, 11, 12] [] [(2, .pointer (some ⟨g17, 0, none⟩)), (8, .int .i64 r118.1), (23, .slice (some ⟨b113, o114, none⟩) (List.length t) c14), (24, .int .i64 (((List.length t) : Nat) : Int)), (25, .int .i64 x73)] (fun w_ => []) 0 E (fun _ _ => by kernel_rfl) (fun w_ hS_ => trivial) (by kernel_rfl) HS129 ?_
   clear E; intro a E
   refine dr_done (by kernel_rfl) ?_
   clear HS129 HR130
   refine bl_n ?_
   refine th_n ?_
   refine wp_region_lit ?_
   obtain ⟨g138, hP⟩ := ask_inv hP
   refine vr tbok 2 [.int .i64 (x73 + 1)] [(2, .pointer (some ⟨g17, 0, none⟩)), (8, .int .i64 r118.1), (23, .slice (some ⟨b113, o114, none⟩) (List.length t) c14), (24, .int .i64 (((List.length t) : Nat) : Int)), (25, .int .i64 (x73 + 1))] [IntKind.i64.wrap (x73 + 1) = x73 + 1] E (by kernel_rfl) (wrap_in g138) ?_
   clear E; intro a E
   refine wpList_nil ?_
   exact th_n ⟨m104, Nat.lt_succ_self _, r118.1, x73 + 1, E.pick _ ⟨rfl, rfl, rfl, rfl, rfl, trivial⟩, H.sel [0, 1, 2, 3, 4] rfl, hP⟩
  replace E := E_; clear E_
  have h139 : ¬ (x73 < (((List.length t) : Nat) : Int)) := of_decide_eq_false hb_
  clear hb_; replace hP := ite_f h139 hP
  refine c_false E rfl ?_
  refine wp_exit ?_
  refine th_exit ?_
  have hx_ := Option.some.inj hP
  refine th_exit (.inl ⟨0, rfl, ?_⟩)
  exact ⟨rfl, q72, E.pick _ ⟨rfl, trivial⟩, H.sel [] rfl, hx_.symm⟩
 clear E H hL106; intro i_ a w108 hM_
 obtain ⟨rfl, x110, E, H, hx_⟩ := hM_
 subst hx_; have hP := hK107; clear hK107
 refine bl_hit ?_
 refine th_n ?_
 refine wp_seq ?_
 refine wp_region_lit ?_
 refine vr tbok 3 [] [(4, .int .i64 x105), (5, .int .i64 0)] [] E (by kernel_rfl) trivial ?_
 clear E; intro a E
 refine wpList_nil ?_
 refine th_n ?_
 refine wp_ret ?_
 obtain rfl := Option.some.inj hP
 refine ret2 E rfl rfl rfl ?_
 exact ⟨_, rfl, rfl, H.sel [] rfl⟩

/-! rejoinder/lang.table -/
def lang_table_l0 (N : Nat) (aProps : Int) (aGuard : List Int) (aNodes : List Nd) : Nat → (List (List Int)) → Int → Option ((List (List Int)) ⊕ ((List (List Int)) × Int))
  | 0, _, _ => none
  | m104 + 1, out63, x66 =>
    if x66 < (((List.length aGuard) : Nat) : Int) then
      ask (idx x66 (List.length aGuard)) <|
      Option.bind (guard_Table N aProps aNodes (List.getD aGuard (Int.toNat x66) 0)) fun r116 =>
      if (r116.2 : Int) = 0 then
        ask (List.length out63 + List.length ([r116.1] : List (List Int)) ≤ 1000000000) <|
        ask (in64 (x66 + 1)) <|
        lang_table_l0 N aProps aGuard aNodes m104 (out63 ++ ([r116.1] : List (List Int))) (x66 + 1)
      else
        some (Sum.inr ([], r116.2))
    else
      some (Sum.inl out63)
def lang_table (N : Nat) (aProps : Int) (aAccept : List Bool) (aGuard : List Int) (aNodes : List Nd) : Option ((List (List Int)) × Int) :=
  Option.bind (guard_Check N aProps aAccept aGuard aNodes) fun r18 =>
  if (r18 : Int) = 0 then
    Option.bind (lang_table_l0 N aProps aGuard aNodes N [] 0) fun x105 =>
    Sum.elim (fun x111 =>
      some (x111, 0))
     (fun x145 =>
      some x145) x105
  else
    some ([], r18)
set_option maxRecDepth 100000 in
set_option maxHeartbeats 4000000 in
theorem lang_table_calls {N : Nat} {S Fa : Nat → Prop} {w0 : World} {r : (List (List Int)) × Int} (A1 : Option Addr) (c2 : Nat) (A5 : Option Addr) (c6 : Nat) (A9 : Option Addr) (c10 : Nat) (aProps : Int) (aAccept : List Bool) (aGuard : List Int) (aNodes : List Nd) (hk3 : List.length aAccept ≤ c2) (hk7 : List.length aGuard ≤ c6) (hk11 : List.length aNodes ≤ c10) (H : Hp S Fa w0 w0 [.ro false cBool A1 aAccept, .ro false (cInt .i64) A5 aGuard, .ro false cNode A9 aNodes]) (hP : lang_table N aProps aAccept aGuard aNodes = some r) :
    Calls Try.prog 29 #[.agg #[.int .i64 aProps, .slice A1 (List.length aAccept) c2, .slice A5 (List.length aGuard) c6, .slice A9 (List.length aNodes) c10]] w0 fun e w' => ∃ v, e = .returned v ∧ ∃ (A146 : Option Addr) (c147 : Nat), v = .tuple #[.slice A146 (List.length r.1) c147, .int .i64 r.2] ∧ Hp S Fa w0 w' [.row true (cSl (cInt .i64)) 23 A146 c147 r.1] := by
 refine enterV (n := 40) Try.func29 rfl rfl rfl ?_
 intro a E
 replace E := E.pick [(0, .agg #[.int .i64 aProps, .slice A1 (List.length aAccept) c2, .slice A5 (List.length aGuard) c6, .slice A9 (List.length aNodes) c10])] ⟨rfl, trivial⟩
 rw [lang_table] at hP
 refine wp_seq ?_
 refine wp_region_lit ?_
 refine h_box H E rfl rfl rfl ?_
 intro w14 g13 a hc15 hg17 H_ E_
 replace E := E_ _ rfl; clear E_
 replace H := H_; clear H_; try dsimp only [setn, addE, goneL] at H
 refine vr tbok 2 [] [(1, .pointer (some ⟨g13, 0, none⟩))] [] E (by kernel_rfl) trivial ?_
 clear E; intro a E
 refine wpList_nil ?_
 refine th_n ?_
 refine wp_seq ?_
 refine wp_seq ?_
 refine wp_region_lit ?_
 refine vr tbok 1 [.agg #[.int .i64 aProps, .slice A1 (List.length aAccept) c2, .slice A5 (List.length aGuard) c6, .slice A9 (List.length aNodes) c10]] [(1, .pointer (some ⟨g13, 0, none⟩)), (10, .agg #[.int .i64 aProps, .slice A1 (List.length aAccept) c2, .slice A5 (List.length aGuard) c6, .slice A9 (List.length aNodes) c10])] [cellsAt w14 g13 (0) [.int .i64 aProps, .slice A1 (List.length aAccept) c2, .slice A5 (List.length aGuard) c6, .slice A9 (List.length aNodes) c10]] E (by kernel_rfl) ((H.box 3 rfl).sub 0 _ rfl) ?_
 clear E; intro a E
 obtain ⟨r18, h19, hP⟩ := bind_inv hP
 obtain ⟨Fa20, Hc21, hb22⟩ := H.call [] [(0, false), (1, false), (2, false)] rfl rfl trivial
 refine e_call E rfl rfl Try.func26 rfl rfl rfl (guard_Check_calls A1 c2 A5 c6 A9 c10 aProps aAccept aGuard aNodes hk3 hk7 hk11 Hc21 h19) ?_
 rintro v23 w24 a ⟨rfl, HR25⟩ E_
 replace E := E_ _ rfl; clear E_
 obtain ⟨H_, hc26⟩ := hb22 _ _ HR25 rfl
 replace H := H_; clear H_; try dsimp only [setn, addE, goneL] at H
 refine vr tbok 1 [] [(1, .pointer (some ⟨g13, 0, none⟩)), (4, .int .i64 r18)] [] E (by kernel_rfl) trivial ?_
 clear E; intro a E
 refine wpList_nil ?_
 refine th_n ?_
 refine wp_seq ?_
 refine wp_region_lit ?_
 refine vr tbok 2 [] [(1, .pointer (some ⟨g13, 0, none⟩)), (4, .int .i64 r18), (13, .bool ((r18 : Int) != 0))] [] E (by kernel_rfl) trivial ?_
 clear E; intro a E
 refine wpList_nil ?_
 refine th_n ?_
 refine E.cases (t := 13) rfl (fun hb_ E_ => ?_) (fun hb_ E_ => ?_)
 ·
  replace E := E_; clear E_
  have h27 : ¬ ((r18 : Int) = 0) := bne_iff_ne.1 hb_
  clear hb_; replace hP := ite_f h27 hP
  refine c_true E rfl ?_
  refine wp_seq ?_
  refine wp_region_lit ?_
  refine vr tbok 3 [] [(2, .slice none 0 0), (3, .int .i64 r18)] [] E (by kernel_rfl) trivial ?_
  clear E; intro a E
  refine wpList_nil ?_
  refine th_n ?_
  refine wp_ret ?_
  refine th_ret ?_
  replace H := H.nilrow (cSl (cInt .i64)) 23; try dsimp only [setn, addE, goneL] at H
  obtain rfl := Option.some.inj hP
  refine ret2 E rfl rfl rfl ?_
  exact ⟨_, rfl, none, 0, rfl, H.sel [4] rfl⟩
 replace E := E_; clear E_
 have h29 : (r18 : Int) = 0 := bne_eq_false_iff_eq.1 hb_
 clear hb_; replace hP := ite_t h29 hP
 refine c_false E rfl ?_
 refine wp_skip ?_
 refine th_n ?_
 refine wp_seq ?_
 refine wp_region_lit ?_
 refine vr tbok 1 [] [(1, .pointer (some ⟨g13, 0, none⟩)), (5, .slice none 0 0)] [] E (by kernel_rfl) trivial ?_
 clear E; intro a E
 refine wpList_nil ?_
 refine th_n ?_
 refine wp_seq ?_
 refine wp_seq ?_
 refine wp_region_lit ?_
 refine vr tbok 4 [.slice A5 (List.length aGuard) c6] [(1, .pointer (some ⟨g13, 0, none⟩)), (5, .slice none 0 0), (16, .slice A5 (List.length aGuard) c6), (17, .int .i64 (((List.length aGuard) : Nat) : Int)), (18, .int .i64 0)] [World.cell? w24 ⟨g13, 2, none⟩ = some (.slice A5 (List.length aGuard) c6)] E (by kernel_rfl) ((H.box 3 rfl).cell (j := 2) rfl) ?_
 clear E; intro a E
 refine wpList_nil ?_
 refine th_n ?_
 refine wp_block ?_
 obtain ⟨x105, hL106, hK107⟩ := bind_inv hP
 clear hP
 replace H := H.nilrow (cSl (cInt .i64)) 23; try dsimp only [setn, addE, goneL] at H
 refine loop_cut (fun i_ a w_ => (i_ = 0 ∧ ∃ (x111 : List (List Int)), ∃ (A102 : Option Addr) (c103 : Nat), Fr a 40 [(5, .slice A102 (List.length x111) c103)] ∧ Hp S Fa w0 w_ [.row true (cSl (cInt .i64)) 23 A102 c103 x111] ∧ x105 = Sum.inl x111)) ?_ ?_
 ·
  refine loopV (fun m110 a w109 => ∃ (out63 : List (List Int)) (x66 : Int), ∃ (A64 : Option Addr) (c65 : Nat), Fr a 40 [(1, .pointer (some ⟨g13, 0, none⟩)), (5, .slice A64 (List.length out63) c65), (16, .slice A5 (List.length aGuard) c6), (17, .int .i64 (((List.length aGuard) : Nat) : Int)), (18, .int .i64 x66)] ∧ Hp S Fa w0 w109 [.ro false cBool A1 aAccept, .ro false (cInt .i64) A5 aGuard, .ro false cNode A9 aNodes, .box g13 26 [.int .i64 aProps, .slice A1 (List.length aAccept) c2, .slice A5 (List.length aGuard) c6, .slice A9 (List.length aNodes) c10], .row true (cSl (cInt .i64)) 23 A64 c65 out63] ∧ lang_table_l0 N aProps aGuard aNodes m110 out63 x66 = some x105) N ?_ ?_
  ·
   exact ⟨[], 0, none, 0, E.pick _ ⟨rfl, rfl, rfl, rfl, rfl, trivial⟩, H.sel [0, 1, 2, 3, 4] rfl, hL106⟩
  clear E H hL106; intro m110 a w109 hI_
  obtain ⟨out63, x66, A64, c65, E, H, hP⟩ := hI_
  obtain ⟨m104, rfl⟩ : ∃ q_, m110 = q_ + 1 := by cases m110 with | zero => rw [lang_table_l0] at hP; cases hP | succ q_ => exact ⟨q_, rfl⟩
  rw [lang_table_l0] at hP
  refine wp_seq ?_
  refine wp_region_lit ?_
  refine vr tbok 1 [] [(1, .pointer (some ⟨g13, 0, none⟩)), (5, .slice A64 (List.length out63) c65), (16, .slice A5 (List.length aGuard) c6), (17, .int .i64 (((List.length aGuard) : Nat) : Int)), (18, .int .i64 x66), (19, .bool (decide (x66 < (((List.length aGuard) : Nat) : Int))))] [] E (by kernel_rfl) trivial ?_
  clear E; intro a E
  refine wpList_nil ?_
  refine th_n ?_
  refine wp_seq ?_
  refine E.cases (t := 19) rfl (fun hb_ E_ => ?_) (fun hb_ E_ => ?_)
  ·
   replace E := E_; clear E_
   have h112 : x66 < (((List.length aGuard) : Nat) : Int) := of_decide_eq_true hb_
   clear hb_; replace hP := ite_t h112 hP
   refine c_true E rfl ?_
   refine wp_skip ?_
   refine th_n ?_
   refine wp_seq ?_
   refine wp_block ?_
   refine wp_seq ?_
   refine wp_region_lit ?_
   obtain ⟨g113, hP⟩ := ask_inv hP
   obtain ⟨b114, o115, e_b114⟩ := (H.rd 1 rds_ro).addr (idx_pos g113)
   subst e_b114
   refine vr tbok 3 [.int .i64 (List.getD aGuard (Int.toNat x66) 0)] [(1, .pointer (some ⟨g13, 0, none⟩)), (5, .slice A64 (List.length out63) c65), (7, .int .i64 (List.getD aGuard (Int.toNat x66) 0)), (16, .slice (some ⟨b114, o115, none⟩) (List.length aGuard) c6), (17, .int .i64 (((List.length aGuard) : Nat) : Int)), (18, .int .i64 x66)] [0 ≤ x66 ∧ x66 < (((List.length aGuard) : Nat) : Int), World.cell? w109 ⟨b114, o115 + (Int.toNat x66) * 1, none⟩ = some (.int .i64 (List.getD aGuard (Int.toNat x66) 0))] E (by kernel_rfl) ⟨g113, Rds.at1 (H.rd 1 rds_ro) 0 g113⟩ ?_
   clear E; intro a E
   refine wpList_nil ?_
   refine th_n ?_
   refine wp_seq ?_
   refine wp_region_lit ?_
   refine vr tbok 5 [.int .i64 aProps, .slice A9 (List.length aNodes) c10] [(1, .pointer (some ⟨g13, 0, none⟩)), (5, .slice A64 (List.length out63) c65), (16, .slice (some ⟨b114, o115, none⟩) (List.length aGuard) c6), (17, .int .i64 (((List.length aGuard) : Nat) : Int)), (18, .int .i64 x66), (24, .int .i64 aProps), (26, .slice A9 (List.length aNodes) c10), (27, .int .i64 (List.getD aGuard (Int.toNat x66) 0))] [World.cell? w109 ⟨g13, 0, none⟩ = some (.int .i64 aProps), World.cell? w109 ⟨g13, 3, none⟩ = some (.slice A9 (List.length aNodes) c10)] E (by kernel_rfl) ⟨(H.box 3 rfl).cell (j := 0) rfl, (H.box 3 rfl).cell (j := 3) rfl⟩ ?_
   clear E; intro a E
   obtain ⟨r116, h117, hP⟩ := bind_inv hP
   obtain ⟨Fa118, Hc119, hb120⟩ := H.call [] [(2, false)] rfl rfl trivial
   refine e_call E rfl rfl Try.func31 rfl rfl rfl (guard_Table_calls A9 c10 aProps aNodes (List.getD aGuard (Int.toNat x66) 0) hk11 Hc119 h117) ?_
   rintro v121 w122 a ⟨A125, c126, rfl, HR123⟩ E_
   replace E := E_ _ rfl; clear E_
   obtain ⟨H_, hc124⟩ := hb120 _ _ HR123 rfl
   replace H := H_; clear H_; try dsimp only [setn, addE, goneL] at H
   refine vr tbok 5 [] [(1, .pointer (some ⟨g13, 0, none⟩)), (5, .slice A64 (List.length out63) c65), (8, .slice A125 (List.length r116.1) c126), (9, .int .i64 r116.2), (16, .slice (some ⟨b114, o115, none⟩) (List.length aGuard) c6), (17, .int .i64 (((List.length aGuard) : Nat) : Int)), (18, .int .i64 x66)] [] E (by kernel_rfl) trivial ?_
   clear E; intro a E
   refine wpList_nil ?_
   refine th_n ?_
   refine wp_seq ?_
   refine wp_seq ?_
   refine wp_region_lit ?_
   refine vr tbok 2 [] [(1, .pointer (some ⟨g13, 0, none⟩)), (5, .slice A64 (List.length out63) c65), (8, .slice A125 (List.length r116.1) c126), (9, .int .i64 r116.2), (16, .slice (some ⟨b114, o115, none⟩) (List.length aGuard) c6), (17, .int .i64 (((List.length aGuard) : Nat) : Int)), (18, .int .i64 x66), (32, .bool ((r116.2 : Int) != 0))] [] E (by kernel_rfl) trivial ?_
   clear E; intro a E
   refine wpList_nil ?_
   refine th_n ?_
   refine E.cases (t := 32) rfl (fun hb_ E_ => ?_) (fun hb_ E_ => ?_)
   ·
    replace E := E_; clear E_
    have h128 : ¬ ((r116.2 : Int) = 0) := bne_iff_ne.1 hb_
    clear hb_; replace hP := ite_f h128 hP
    refine c_true E rfl ?_
    refine wp_seq ?_
    refine wp_region_lit ?_
    refine vr tbok 3 [] [(2, .slice none 0 0), (3, .int .i64 r116.2)] [] E (by kernel_rfl) trivial ?_
    clear E; intro a E
    refine wpList_nil ?_
    refine th_n ?_
    refine wp_ret ?_
    refine th_ret ?_
    refine bl_ret ?_
    refine th_ret ?_
    refine th_ret ?_
    refine .inr ⟨rfl, ?_⟩
    refine bl_ret ?_
    refine th_ret ?_
    replace H := H.nilrow (cSl (cInt .i64)) 23; try dsimp only [setn, addE, goneL] at H
    have hx_ := Option.some.inj hP; subst hx_
    have hP : some (([], r116.2)) = some r := hK107
    obtain rfl := Option.some.inj hP
    refine ret2 E rfl rfl rfl ?_
    exact ⟨_, rfl, none, 0, rfl, H.sel [6] rfl⟩
   replace E := E_; clear E_
   have h130 : (r116.2 : Int) = 0 := bne_eq_false_iff_eq.1 hb_
   clear hb_; replace hP := ite_t h130 hP
   refine c_false E rfl ?_
   refine wp_skip ?_
   refine th_n ?_
   refine wp_region_lit ?_
   refine vr tbok 2 [] [(1, .pointer (some ⟨g13, 0, none⟩)), (16, .slice (some ⟨b114, o115, none⟩) (List.length aGuard) c6), (17, .int .i64 (((List.length aGuard) : Nat) : Int)), (18, .int .i64 x66), (34, .slice A64 (List.length out63) c65), (35, .slice A125 (List.length r116.1) c126)] [] E (by kernel_rfl) trivial ?_
   clear E; intro a E
   refine h_buildSlice (ps := [(0, .slice A125 (List.length r116.1) c126)]) (cs := [.slice A125 (List.length r116.1) c126]) H E rfl rfl tbok rfl rfl (by kernel_rfl) ?_
   intro w132 g131 a hc133 hg135 H_ E_
   replace E := E_ _ rfl; clear E_
   replace H := H_; clear H_; try dsimp only [setn, addE, goneL] at H
   have hk136 := H.rcap 5 rfl
   replace H := H.frz 5 rfl; try dsimp only [setn, addE, goneL] at H
   obtain ⟨g137, hP⟩ := ask_inv hP
   refine h_append (cSl (cInt .i64)) (xs := out63) (ys := ([r116.1] : List (List Int))) ([] : List Int) H 4 rfl E rfl rfl tbok rfl rfl rfl rfl rfl (fun _ _ => kSl_nil) rfl rfl (fun _ HF_ => HF_.srcB 6 rfl ⟨_, _, rfl, ⟨_, _, rfl, hk136, (HF_.roC 5 rfl)⟩, rfl⟩) g137 ?_
   intro w138 A139 c140 a hc141 hA142 H_ E_
   replace E := E_ _ rfl; clear E_
   replace H := H_; clear H_; try dsimp only [setn, addE, goneL] at H
   refine vr tbok 1 [] [(1, .pointer (some ⟨g13, 0, none⟩)), (5, .slice A139 (List.length (out63 ++ ([r116.1] : List (List Int)))) c140), (16, .slice (some ⟨b114, o115, none⟩) (List.length aGuard) c6), (17, .int .i64 (((List.length aGuard) : Nat) : Int)), (18, .int .i64 x66)] [] E (by kernel_rfl) trivial ?_
   clear E; intro a E
   refine wpList_nil ?_
   refine bl_n ?_
   refine th_n ?_
   refine wp_region_lit ?_
   obtain ⟨g143, hP⟩ := ask_inv hP
   refine vr tbok 2 [.int .i64 (x66 + 1)] [(1, .pointer (some ⟨g13, 0, none⟩)), (5, .slice A139 (List.length (out63 ++ ([r116.1] : List (List Int)))) c140), (16, .slice (some ⟨b114, o115, none⟩) (List.length aGuard) c6), (17, .int .i64 (((List.length aGuard) : Nat) : Int)), (18, .int .i64 (x66 + 1))] [IntKind.i64.wrap (x66 + 1) = x66 + 1] E (by kernel_rfl) (wrap_in g143) ?_
   clear E; intro a E
   refine wpList_nil ?_
   exact th_n ⟨m104, Nat.lt_succ_self _, out63 ++ ([r116.1] : List (List Int)), x66 + 1, A139, c140, E.pick _ ⟨rfl, rfl, rfl, rfl, rfl, trivial⟩, H.sel [0, 1, 2, 3, 4] rfl, hP⟩
  replace E := E_; clear E_
  have h144 : ¬ (x66 < (((List.length aGuard) : Nat) : Int)) := of_decide_eq_false hb_
  clear hb_; replace hP := ite_f h144 hP
  refine c_false E rfl ?_
  refine wp_exit ?_
  refine th_exit ?_
  have hx_ := Option.some.inj hP
  refine th_exit (.inl ⟨0, rfl, ?_⟩)
  exact ⟨rfl, out63, A64, c65, E.pick _ ⟨rfl, trivial⟩, H.sel [4] rfl, hx_.symm⟩
 clear E H hL106; intro i_ a w109 hM_
 obtain ⟨rfl, x111, A102, c103, E, H, hx_⟩ := hM_
 subst hx_; have hP := elim_l hK107
 clear hK107
 refine bl_hit ?_
 refine th_n ?_
 refine wp_seq ?_
 refine wp_region_lit ?_
 refine vr tbok 3 [] [(2, .slice A102 (List.length x111) c103), (3, .int .i64 0)] [] E (by kernel_rfl) trivial ?_
 clear E; intro a E
 refine wpList_nil ?_
 refine th_n ?_
 refine wp_ret ?_
 obtain rfl := Option.some.inj hP
 refine ret2 E rfl rfl rfl ?_
 exact ⟨_, rfl, A102, c103, rfl, H.sel [0] rfl⟩

/-! (rejoinder/lang.count).add -/
def lang_count_add (N : Nat) (c : Int × Bool) (d : Int × Bool) : Option (Int × Bool) :=
  ask (0 ≤ c.1 ∧ 0 ≤ d.1 ∧ 0 ≤ (0 : Int) ∧ (0 : Int) ≤ 1) <|
  if c.2 = true then
    some ((c.1 + d.1 + (0 : Int)) % 18446744073709551616, true)
  else
    if d.2 = true then
      some ((c.1 + d.1 + (0 : Int)) % 18446744073709551616, true)
    else
      some ((c.1 + d.1 + (0 : Int)) % 18446744073709551616, ((c.1 + d.1 + (0 : Int)) / 18446744073709551616 : Int) == 1)
set_option maxRecDepth 100000 in
set_option maxHeartbeats 4000000 in
theorem lang_count_add_calls {N : Nat} {S Fa : Nat → Prop} {w0 : World} {r : Int × Bool} (c : Int × Bool) (d : Int × Bool) (H : Hp S Fa w0 w0 []) (hP : lang_count_add N c d = some r) :
    Calls Try.prog 35 #[.agg #[.int .u64 c.1, .bool c.2], .agg #[.int .u64 d.1, .bool d.2]] w0 fun e w' => ∃ v, e = .returned v ∧ v = .agg #[.int .u64 r.1, .bool r.2] ∧ Hp S Fa w0 w' [] := by
 refine enterV (n := 27) Try.func35 rfl rfl rfl ?_
 intro a E
 replace E := E.pick [(0, .agg #[.int .u64 c.1, .bool c.2]), (1, .agg #[.int .u64 d.1, .bool d.2])] ⟨rfl, rfl, trivial⟩
 rw [lang_count_add] at hP
 refine wp_seq ?_
 refine wp_region_lit ?_
 refine h_box H E rfl rfl rfl ?_
 intro w2 g1 a hc3 hg5 H_ E_
 replace E := E_ _ rfl; clear E_
 replace H := H_; clear H_; try dsimp only [setn, addE, goneL] at H
 refine h_box H E rfl rfl rfl ?_
 intro w7 g6 a hc8 hg10 H_ E_
 replace E := E_ _ rfl; clear E_
 replace H := H_; clear H_; try dsimp only [setn, addE, goneL] at H
 refine h_alloc H E rfl rfl tbok rfl ?_
 intro w12 g11 a hc13 hg15 H_ E_
 replace E := E_ _ rfl; clear E_
 replace H := H_; clear H_; try dsimp only [setn, addE, goneL] at H
 refine wpList_nil ?_
 refine th_n ?_
 refine wp_seq ?_
 refine wp_region_lit ?_
 refine vr tbok 4 [.int .u64 c.1, .int .u64 d.1] [(2, .pointer (some ⟨g1, 0, none⟩)), (3, .pointer (some ⟨g6, 0, none⟩)), (4, .pointer (some ⟨g11, 0, none⟩)), (9, .int .u64 c.1), (11, .int .u64 d.1)] [World.cell? w12 ⟨g1, 0, none⟩ = some (.int .u64 c.1), World.cell? w12 ⟨g6, 0, none⟩ = some (.int .u64 d.1)] E (by kernel_rfl) ⟨(H.box 0 rfl).cell (j := 0) rfl, (H.box 1 rfl).cell (j := 0) rfl⟩ ?_
 clear E; intro a E
 obtain ⟨g16, hP⟩ := ask_inv hP
 refine e_add64 (x := c.1) (y := d.1) (c := (0 : Int)) E rfl rfl Try.func36 rfl rfl (by kernel_rfl) (by kernel_rfl) rfl g16 rfl ?_
 clear E; intro a E
 refine vr tbok 5 [] [(2, .pointer (some ⟨g1, 0, none⟩)), (3, .pointer (some ⟨g6, 0, none⟩)), (4, .pointer (some ⟨g11, 0, none⟩)), (5, .int .u64 ((c.1 + d.1 + (0 : Int)) % 18446744073709551616)), (6, .int .u64 ((c.1 + d.1 + (0 : Int)) / 18446744073709551616))] [] E (by kernel_rfl) trivial ?_
 clear E; intro a E
 refine wpList_nil ?_
 refine th_n ?_
 refine wp_seq ?_
 refine wp_region_lit ?_
 refine vr tbok 4 [.bool c.2] [(3, .pointer (some ⟨g6, 0, none⟩)), (4, .pointer (some ⟨g11, 0, none⟩)), (6, .int .u64 ((c.1 + d.1 + (0 : Int)) / 18446744073709551616)), (15, .int .u64 ((c.1 + d.1 + (0 : Int)) % 18446744073709551616)), (18, .bool c.2)] [World.cell? w12 ⟨g1, 1, none⟩ = some (.bool c.2)] E (by kernel_rfl) ((H.box 0 rfl).cell (j := 1) rfl) ?_
 clear E; intro a E
 refine E.cases (t := 18) rfl (fun hb_ E_ => ?_) (fun hb_ E_ => ?_)
 ·
  replace E := E_; clear E_
  have h17 : c.2 = true := hb_
  clear hb_; replace hP := ite_t h17 hP
  refine vr tbok 7 [] [(4, .pointer (some ⟨g11, 0, none⟩)), (15, .int .u64 ((c.1 + d.1 + (0 : Int)) % 18446744073709551616)), (25, .bool true)] [] E (by kernel_rfl) trivial ?_
  clear E; intro a E
  refine e_build (ps := [(0, .int .u64 ((c.1 + d.1 + (0 : Int)) % 18446744073709551616)), (1, .bool true)]) (v := .agg #[.int .u64 ((c.1 + d.1 + (0 : Int)) % 18446744073709551616), .bool true]) E rfl rfl tbok rfl (by kernel_rfl) rfl ?_
  clear E; intro a E
  refine h_store (g := g11) (off := 0) H 2 rfl E rfl rfl rfl rfl tbok rfl rfl rfl rfl rfl ?_
  clear E; intro w18 a hc19 H_ E
  replace H := H_; clear H_; try dsimp only [setn, addE, goneL] at H
  refine wpList_nil ?_
  refine th_n ?_
  refine wp_ret ?_
  obtain rfl := Option.some.inj hP
  refine retV E [.cell 4 70] [.agg #[.int .u64 ((c.1 + d.1 + (0 : Int)) % 18446744073709551616), .bool true]] rfl ⟨⟨_, rfl, run_loadBx tbok (H.box 2 rfl) rfl rfl rfl 0 rfl rfl⟩, trivial⟩ (.inl rfl) ?_
  exact ⟨_, rfl, rfl, H.sel [] rfl⟩
 replace E := E_; clear E_
 have h20 : ¬ (c.2 = true) := (ne_true_of_eq_false hb_)
 clear hb_; replace hP := ite_f h20 hP
 refine vr tbok 4 [.bool d.2] [(4, .pointer (some ⟨g11, 0, none⟩)), (6, .int .u64 ((c.1 + d.1 + (0 : Int)) / 18446744073709551616)), (15, .int .u64 ((c.1 + d.1 + (0 : Int)) % 18446744073709551616)), (22, .bool d.2)] [World.cell? w12 ⟨g6, 1, none⟩ = some (.bool d.2)] E (by kernel_rfl) ((H.box 1 rfl).cell (j := 1) rfl) ?_
 clear E; intro a E
 refine E.cases (t := 22) rfl (fun hb_ E_ => ?_) (fun hb_ E_ => ?_)
 ·
  replace E := E_; clear E_
  have h21 : d.2 = true := hb_
  clear hb_; replace hP := ite_t h21 hP
  refine vr tbok 3 [] [(4, .pointer (some ⟨g11, 0, none⟩)), (15, .int .u64 ((c.1 + d.1 + (0 : Int)) % 18446744073709551616)), (25, .bool true)] [] E (by kernel_rfl) trivial ?_
  clear E; intro a E
  refine e_build (ps := [(0, .int .u64 ((c.1 + d.1 + (0 : Int)) % 18446744073709551616)), (1, .bool true)]) (v := .agg #[.int .u64 ((c.1 + d.1 + (0 : Int)) % 18446744073709551616), .bool true]) E rfl rfl tbok rfl (by kernel_rfl) rfl ?_
  clear E; intro a E
  refine h_store (g := g11) (off := 0) H 2 rfl E rfl rfl rfl rfl tbok rfl rfl rfl rfl rfl ?_
  clear E; intro w22 a hc23 H_ E
  replace H := H_; clear H_; try dsimp only [setn, addE, goneL] at H
  refine wpList_nil ?_
  refine th_n ?_
  refine wp_ret ?_
  obtain rfl := Option.some.inj hP
  refine retV E [.cell 4 70] [.agg #[.int .u64 ((c.1 + d.1 + (0 : Int)) % 18446744073709551616), .bool true]] rfl ⟨⟨_, rfl, run_loadBx tbok (H.box 2 rfl) rfl rfl rfl 0 rfl rfl⟩, trivial⟩ (.inl rfl) ?_
  exact ⟨_, rfl, rfl, H.sel [] rfl⟩
 replace E := E_; clear E_
 have h24 : ¬ (d.2 = true) := (ne_true_of_eq_false hb_)
 clear hb_; replace hP := ite_f h24 hP
 refine vr tbok 3 [] [(4, .pointer (some ⟨g11, 0, none⟩)), (15, .int .u64 ((c.1 + d.1 + (0 : Int)) % 18446744073709551616)), (25, .bool (((c.1 + d.1 + (0 : Int)) / 18446744073709551616 : Int) == 1))] [] E (by kernel_rfl) trivial ?_
 clear E; intro a E
 refine e_build (ps := [(0, .int .u64 ((c.1 + d.1 + (0 : Int)) % 18446744073709551616)), (1, .bool (((c.1 + d.1 + (0 : Int)) / 18446744073709551616 : Int) == 1))]) (v := .agg #[.int .u64 ((c.1 + d.1 + (0 : Int)) % 18446744073709551616), .bool (((c.1 + d.1 + (0 : Int)) / 18446744073709551616 : Int) == 1)]) E rfl rfl tbok rfl (by kernel_rfl) rfl ?_
 clear E; intro a E
 refine h_store (g := g11) (off := 0) H 2 rfl E rfl rfl rfl rfl tbok rfl rfl rfl rfl rfl ?_
 clear E; intro w25 a hc26 H_ E
 replace H := H_; clear H_; try dsimp only [setn, addE, goneL] at H
 refine wpList_nil ?_
 refine th_n ?_
 refine wp_ret ?_
 obtain rfl := Option.some.inj hP
 refine retV E [.cell 4 70] [.agg #[.int .u64 ((c.1 + d.1 + (0 : Int)) % 18446744073709551616), .bool (((c.1 + d.1 + (0 : Int)) / 18446744073709551616 : Int) == 1)]] rfl ⟨⟨_, rfl, run_loadBx tbok (H.box 2 rfl) rfl rfl rfl 0 rfl rfl⟩, trivial⟩ (.inl rfl) ?_
 exact ⟨_, rfl, rfl, H.sel [] rfl⟩

/-! rejoinder/lang.counts -/
def lang_counts_l0 (N : Nat) (aAccept : List Bool) : Nat → (List (Int × Bool)) → Int → Option (List (Int × Bool))
  | 0, _, _ => none
  | m55 + 1, v39, x40 =>
    if x40 < (((List.length aAccept) : Nat) : Int) then
      ask (idx x40 (List.length aAccept)) <|
      if (List.getD aAccept (Int.toNat x40) false) = true then
        ask (idx x40 (List.length v39)) <|
        ask (in64 (x40 + 1)) <|
        lang_counts_l0 N aAccept m55 (List.set v39 (Int.toNat x40) (1, (List.getD v39 (Int.toNat x40) (0, false)).2)) (x40 + 1)
      else
        ask (in64 (x40 + 1)) <|
        lang_counts_l0 N aAccept m55 v39 (x40 + 1)
    else
      some v39
def lang_counts_l3 (N : Nat) (to_ : List (List Int)) (v247 : List (Int × Bool)) (x532 : Int) : Nat → (List (Int × Bool)) → Int → Option (List (Int × Bool))
  | 0, _, _ => none
  | m709 + 1, w670, x671 =>
    if x671 < (((List.length (List.getD to_ (Int.toNat x532) [])) : Nat) : Int) then
      ask (idx x671 (List.length (List.getD to_ (Int.toNat x532) []))) <|
      ask (idx x532 (List.length w670)) <|
      ask (idx (List.getD (List.getD to_ (Int.toNat x532) []) (Int.toNat x671) 0) (List.length v247)) <|
      Option.bind (lang_count_add N (List.getD w670 (Int.toNat x532) (0, false)) (List.getD v247 (Int.toNat (List.getD (List.getD to_ (Int.toNat x532) []) (Int.toNat x671) 0)) (0, false))) fun r724 =>
      ask (in64 (x671 + 1)) <|
      lang_counts_l3 N to_ v247 x532 m709 (List.set w670 (Int.toNat x532) r724) (x671 + 1)
    else
      some w670
def lang_counts_l2 (N : Nat) (to_ : List (List Int)) (v247 : List (Int × Bool)) : Nat → (List (Int × Bool)) → Int → Option (List (Int × Bool))
  | 0, _, _ => none
  | m619 + 1, w531, x532 =>
    if x532 < (((List.length to_) : Nat) : Int) then
      ask (idx x532 (List.length to_)) <|
      Option.bind (lang_counts_l3 N to_ v247 x532 N w531 0) fun x710 =>
      ask (in64 (x532 + 1)) <|
      lang_counts_l2 N to_ v247 m619 x710 (x532 + 1)
    else
      some w531
def lang_counts_l1 (N : Nat) (to_ : List (List Int)) (length : Int) : Nat → (List (Int × Bool)) → Int → Option (List (Int × Bool))
  | 0, _, _ => none
  | m434 + 1, v247, x249 =>
    if x249 < length then
      Option.bind (lang_counts_l2 N to_ v247 N (List.replicate (Int.toNat (((List.length to_) : Nat) : Int)) ((0, false) : Int × Bool)) 0) fun x620 =>
      ask (in64 (x249 + 1)) <|
      lang_counts_l1 N to_ length m434 x620 (x249 + 1)
    else
      some v247
def lang_counts (N : Nat) (aProps : Int) (aAccept : List Bool) (aGuard : List Int) (aNodes : List Nd) (to_ : List (List Int)) (length : Int) : Option (List (Int × Bool)) :=
  ask (0 ≤ (((List.length to_) : Nat) : Int) ∧ (((List.length to_) : Nat) : Int) ≤ 1000000000) <|
  Option.bind (lang_counts_l0 N aAccept N (List.replicate (Int.toNat (((List.length to_) : Nat) : Int)) ((0, false) : Int × Bool)) 0) fun x56 =>
  Option.bind (lang_counts_l1 N to_ length N x56 0) fun x435 =>
  some x435
set_option maxRecDepth 100000 in
set_option maxHeartbeats 4000000 in
theorem lang_counts_calls {N : Nat} {S Fa : Nat → Prop} {w0 : World} {r : List (Int × Bool)} (A1 : Option Addr) (c2 : Nat) (A5 : Option Addr) (c6 : Nat) (A9 : Option Addr) (c10 : Nat) (A13 : Option Addr) (c14 : Nat) (aProps : Int) (aAccept : List Bool) (aGuard : List Int) (aNodes : List Nd) (to_ : List (List Int)) (length : Int) (hk3 : List.length aAccept ≤ c2) (hk7 : List.length aGuard ≤ c6) (hk11 : List.length aNodes ≤ c10) (hk15 : List.length to_ ≤ c14) (H : Hp S Fa w0 w0 [.ro false cBool A1 aAccept, .ro false (cInt .i64) A5 aGuard, .ro false cNode A9 aNodes, .ro false (cSl (cInt .i64)) A13 to_]) (hP : lang_counts N aProps aAccept aGuard aNodes to_ length = some r) :
    Calls Try.prog 30 #[.agg #[.int .i64 aProps, .slice A1 (List.length aAccept) c2, .slice A5 (List.length aGuard) c6, .slice A9 (List.length aNodes) c10], .slice A13 (List.length to_) c14, .int .i64 length] w0 fun e w' => ∃ v, e = .returned v ∧ ∃ (A756 : Option Addr) (c757 : Nat), v = .slice A756 (List.length r) c757 ∧ Hp S Fa w0 w' [.row true cS69 70 A756 c757 r] := by
 refine enterV (n := 68) Try.func30 rfl rfl rfl ?_
 intro a E
 replace E := E.pick [(0, .agg #[.int .i64 aProps, .slice A1 (List.length aAccept) c2, .slice A5 (List.length aGuard) c6, .slice A9 (List.length aNodes) c10]), (1, .slice A13 (List.length to_) c14), (2, .int .i64 length)] ⟨rfl, rfl, rfl, trivial⟩
 rw [lang_counts] at hP
 refine wp_seq ?_
 refine wp_region_lit ?_
 refine h_box H E rfl rfl rfl ?_
 intro w18 g17 a hc19 hg21 H_ E_
 replace E := E_ _ rfl; clear E_
 replace H := H_; clear H_; try dsimp only [setn, addE, goneL] at H
 refine vr tbok 1 [] [(1, .slice A13 (List.length to_) c14), (2, .int .i64 length), (3, .pointer (some ⟨g17, 0, none⟩))] [] E (by kernel_rfl) trivial ?_
 clear E; intro a E
 refine wpList_nil ?_
 refine th_n ?_
 refine wp_seq ?_
 refine wp_region_lit ?_
 refine vr tbok 2 [] [(1, .slice A13 (List.length to_) c14), (2, .int .i64 length), (3, .pointer (some ⟨g17, 0, none⟩)), (16, .int .i64 (((List.length to_) : Nat) : Int))] [] E (by kernel_rfl) trivial ?_
 clear E; intro a E
 obtain ⟨g22, hP⟩ := ask_inv hP
 refine h_make cS69 ((0, false) : Int × Bool) H E rfl rfl tbok rfl rfl rfl rfl ⟨g22.1, Int.le_refl _, g22.2⟩ rfl rfl rfl (fun _ _ => rfl) ?_
 intro w24 g23 a hc25 hg27 H_ E_
 replace E := E_ _ rfl; clear E_
 replace H := H_; clear H_; try dsimp only [setn, addE, goneL] at H
 refine vr tbok 1 [] [(1, .slice A13 (List.length to_) c14), (2, .int .i64 length), (3, .pointer (some ⟨g17, 0, none⟩)), (7, .slice (some ⟨g23, 0, none⟩) (List.length (List.replicate (Int.toNat (((List.length to_) : Nat) : Int)) ((0, false) : Int × Bool))) (Int.toNat (((List.length to_) : Nat) : Int)))] [] E (by kernel_rfl) trivial ?_
 clear E; intro a E
 refine wpList_nil ?_
 refine th_n ?_
 refine wp_seq ?_
 refine wp_seq ?_
 refine wp_region_lit ?_
 refine vr tbok 4 [.slice A1 (List.length aAccept) c2] [(1, .slice A13 (List.length to_) c14), (2, .int .i64 length), (7, .slice (some ⟨g23, 0, none⟩) (List.length (List.replicate (Int.toNat (((List.length to_) : Nat) : Int)) ((0, false) : Int × Bool))) (Int.toNat (((List.length to_) : Nat) : Int))), (19, .slice A1 (List.length aAccept) c2), (20, .int .i64 (((List.length aAccept) : Nat) : Int)), (21, .int .i64 0)] [World.cell? w24 ⟨g17, 1, none⟩ = some (.slice A1 (List.length aAccept) c2)] E (by kernel_rfl) ((H.box 4 rfl).cell (j := 1) rfl) ?_
 clear E; intro a E
 refine wpList_nil ?_
 refine th_n ?_
 refine wp_block ?_
 obtain ⟨x56, hL57, hK58⟩ := bind_inv hP
 clear hP
 refine loop_cut (fun i_ a w_ => (i_ = 0 ∧ ∃ (x61 : List (Int × Bool)), Fr a 68 [(1, .slice A13 (List.length to_) c14), (2, .int .i64 length), (7, .slice (some ⟨g23, 0, none⟩) (List.length x61) (Int.toNat (((List.length to_) : Nat) : Int)))] ∧ Hp S Fa w0 w_ [.ro false (cSl (cInt .i64)) A13 to_, .rowx true cS69 70 (some ⟨g23, 0, none⟩) (Int.toNat (((List.length to_) : Nat) : Int)) x61 (List.replicate (Int.toNat (((List.length to_) : Nat) : Int) - Int.toNat (((List.length to_) : Nat) : Int)) ((0, false) : Int × Bool))] ∧ x56 = x61)) ?_ ?_
 ·
  refine loopV (fun m60 a w59 => ∃ (v39 : List (Int × Bool)) (x40 : Int), Fr a 68 [(1, .slice A13 (List.length to_) c14), (2, .int .i64 length), (7, .slice (some ⟨g23, 0, none⟩) (List.length v39) (Int.toNat (((List.length to_) : Nat) : Int))), (19, .slice A1 (List.length aAccept) c2), (20, .int .i64 (((List.length aAccept) : Nat) : Int)), (21, .int .i64 x40)] ∧ Hp S Fa w0 w59 [.ro false (cSl (cInt .i64)) A13 to_, .rowx true cS69 70 (some ⟨g23, 0, none⟩) (Int.toNat (((List.length to_) : Nat) : Int)) v39 (List.replicate (Int.toNat (((List.length to_) : Nat) : Int) - Int.toNat (((List.length to_) : Nat) : Int)) ((0, false) : Int × Bool)), .ro false cBool A1 aAccept] ∧ lang_counts_l0 N aAccept m60 v39 x40 = some x56) N ?_ ?_
  ·
   exact ⟨List.replicate (Int.toNat (((List.length to_) : Nat) : Int)) ((0, false) : Int × Bool), 0, E.pick _ ⟨rfl, rfl, rfl, rfl, rfl, rfl, trivial⟩, H.sel [3, 5, 0] rfl, hL57⟩
  clear E H hL57; intro m60 a w59 hI_
  obtain ⟨v39, x40, E, H, hP⟩ := hI_
  obtain ⟨m55, rfl⟩ : ∃ q_, m60 = q_ + 1 := by cases m60 with | zero => rw [lang_counts_l0] at hP; cases hP | succ q_ => exact ⟨q_, rfl⟩
  rw [lang_counts_l0] at hP
  refine wp_seq ?_
  refine wp_region_lit ?_
  refine vr tbok 1 [] [(1, .slice A13 (List.length to_) c14), (2, .int .i64 length), (7, .slice (some ⟨g23, 0, none⟩) (List.length v39) (Int.toNat (((List.length to_) : Nat) : Int))), (19, .slice A1 (List.length aAccept) c2), (20, .int .i64 (((List.length aAccept) : Nat) : Int)), (21, .int .i64 x40), (22, .bool (decide (x40 < (((List.length aAccept) : Nat) : Int))))] [] E (by kernel_rfl) trivial ?_
  clear E; intro a E
  refine wpList_nil ?_
  refine th_n ?_
  refine wp_seq ?_
  refine E.cases (t := 22) rfl (fun hb_ E_ => ?_) (fun hb_ E_ => ?_)
  ·
   replace E := E_; clear E_
   have h62 : x40 < (((List.length aAccept) : Nat) : Int) := of_decide_eq_true hb_
   clear hb_; replace hP := ite_t h62 hP
   refine c_true E rfl ?_
   refine wp_skip ?_
   refine th_n ?_
   refine wp_seq ?_
   refine wp_block ?_
   refine wp_seq ?_
   refine wp_region_lit ?_
   obtain ⟨g63, hP⟩ := ask_inv hP
   obtain ⟨b64, o65, e_b64⟩ := (H.rd 2 rds_ro).addr (idx_pos g63)
   subst e_b64
   refine vr tbok 5 [.bool (List.getD aAccept (Int.toNat x40) false)] [(1, .slice A13 (List.length to_) c14), (2, .int .i64 length), (7, .slice (some ⟨g23, 0, none⟩) (List.length v39) (Int.toNat (((List.length to_) : Nat) : Int))), (8, .int .i64 x40), (9, .bool (List.getD aAccept (Int.toNat x40) false)), (19, .slice (some ⟨b64, o65, none⟩) (List.length aAccept) c2), (20, .int .i64 (((List.length aAccept) : Nat) : Int)), (21, .int .i64 x40)] [0 ≤ x40 ∧ x40 < (((List.length aAccept) : Nat) : Int), World.cell? w59 ⟨b64, o65 + (Int.toNat x40) * 1, none⟩ = some (.bool (List.getD aAccept (Int.toNat x40) false))] E (by kernel_rfl) ⟨g63, Rds.at1 (H.rd 2 rds_ro) false g63⟩ ?_
   clear E; intro a E
   refine wpList_nil ?_
   refine th_n ?_
   refine wp_seq ?_
   refine wp_region_lit ?_
   refine vr tbok 1 [] [(1, .slice A13 (List.length to_) c14), (2, .int .i64 length), (7, .slice (some ⟨g23, 0, none⟩) (List.length v39) (Int.toNat (((List.length to_) : Nat) : Int))), (8, .int .i64 x40), (19, .slice (some ⟨b64, o65, none⟩) (List.length aAccept) c2), (20, .int .i64 (((List.length aAccept) : Nat) : Int)), (21, .int .i64 x40), (26, .bool (List.getD aAccept (Int.toNat x40) false))] [] E (by kernel_rfl) trivial ?_
   clear E; intro a E
   refine wpList_nil ?_
   refine th_n ?_
   refine E.cases (t := 26) rfl (fun hb_ E_ => ?_) (fun hb_ E_ => ?_)
   ·
    replace E := E_; clear E_
    have h66 : (List.getD aAccept (Int.toNat x40) false) = true := hb_
    clear hb_; replace hP := ite_t h66 hP
    refine c_true E rfl ?_
    refine wp_region_lit ?_
    obtain ⟨g67, hP⟩ := ask_inv hP
    refine vr tbok 4 [] [(1, .slice A13 (List.length to_) c14), (2, .int .i64 length), (7, .slice (some ⟨g23, 0, none⟩) (List.length v39) (Int.toNat (((List.length to_) : Nat) : Int))), (19, .slice (some ⟨b64, o65, none⟩) (List.length aAccept) c2), (20, .int .i64 (((List.length aAccept) : Nat) : Int)), (21, .int .i64 x40), (30, .pointer (some ⟨g23, 0 + (Int.toNat x40) * 2, none⟩))] [0 ≤ x40 ∧ x40 < (((List.length v39) : Nat) : Int)] E (by kernel_rfl) (g67) ?_
    clear E; intro a E
    refine h_setpx (g := g23) (i := x40) (off := 0) (fun y_ => (1, y_.2)) (0, false) (1, (List.getD v39 (Int.toNat x40) (0, false)).2) H 1 rfl E rfl rfl rfl rfl tbok rfl rfl (fun _ y_ c_ h_ => (congrArg (fun c => splice c 0 [.int .u64 1]) (h_ : c_ = _)).trans rfl) rfl rfl rfl g67 rfl ?_
    clear E; intro w68 a hc69 H_ E
    replace H := H_; clear H_; try dsimp only [setn, addE, goneL] at H
    have hn70 : (List.length v39) = (List.length (List.set v39 (Int.toNat x40) (1, (List.getD v39 (Int.toNat x40) (0, false)).2))) := by simp only [List.length_set]
    replace E := E.same (t := 7) (u := .slice (some ⟨g23, 0, none⟩) (List.length (List.set v39 (Int.toNat x40) (1, (List.getD v39 (Int.toNat x40) (0, false)).2))) (Int.toNat (((List.length to_) : Nat) : Int))) rfl (congrArg (fun n_ => Value.slice (some ⟨g23, 0, none⟩) n_ (Int.toNat (((List.length to_) : Nat) : Int))) hn70)
    refine wpList_nil ?_
    refine bl_n ?_
    refine th_n ?_
    refine wp_region_lit ?_
    obtain ⟨g71, hP⟩ := ask_inv hP
    refine vr tbok 2 [.int .i64 (x40 + 1)] [(1, .slice A13 (List.length to_) c14), (2, .int .i64 length), (7, .slice (some ⟨g23, 0, none⟩) (List.length (List.set v39 (Int.toNat x40) (1, (List.getD v39 (Int.toNat x40) (0, false)).2))) (Int.toNat (((List.length to_) : Nat) : Int))), (19, .slice (some ⟨b64, o65, none⟩) (List.length aAccept) c2), (20, .int .i64 (((List.length aAccept) : Nat) : Int)), (21, .int .i64 (x40 + 1))] [IntKind.i64.wrap (x40 + 1) = x40 + 1] E (by kernel_rfl) (wrap_in g71) ?_
    clear E; intro a E
    refine wpList_nil ?_
    exact th_n ⟨m55, Nat.lt_succ_self _, List.set v39 (Int.toNat x40) (1, (List.getD v39 (Int.toNat x40) (0, false)).2), x40 + 1, E.pick _ ⟨rfl, rfl, rfl, rfl, rfl, rfl, trivial⟩, H.sel [0, 1, 2] rfl, hP⟩
   replace E := E_; clear E_
   have h72 : ¬ ((List.getD aAccept (Int.toNat x40) false) = true) := (ne_true_of_eq_false hb_)
   clear hb_; replace hP := ite_f h72 hP
   refine c_false E rfl ?_
   refine wp_skip ?_
   refine bl_n ?_
   refine th_n ?_
   refine wp_region_lit ?_
   obtain ⟨g73, hP⟩ := ask_inv hP
   refine vr tbok 2 [.int .i64 (x40 + 1)] [(1, .slice A13 (List.length to_) c14), (2, .int .i64 length), (7, .slice (some ⟨g23, 0, none⟩) (List.length v39) (Int.toNat (((List.length to_) : Nat) : Int))), (19, .slice (some ⟨b64, o65, none⟩) (List.length aAccept) c2), (20, .int .i64 (((List.length aAccept) : Nat) : Int)), (21, .int .i64 (x40 + 1))] [IntKind.i64.wrap (x40 + 1) = x40 + 1] E (by kernel_rfl) (wrap_in g73) ?_
   clear E; intro a E
   refine wpList_nil ?_
   exact th_n ⟨m55, Nat.lt_succ_self _, v39, x40 + 1, E.pick _ ⟨rfl, rfl, rfl, rfl, rfl, rfl, trivial⟩, H.sel [0, 1, 2] rfl, hP⟩
  replace E := E_; clear E_
  have h74 : ¬ (x40 < (((List.length aAccept) : Nat) : Int)) := of_decide_eq_false hb_
  clear hb_; replace hP := ite_f h74 hP
  refine c_false E rfl ?_
  refine wp_exit ?_
  refine th_exit ?_
  have hx_ := Option.some.inj hP
  refine th_exit (.inl ⟨0, rfl, ?_⟩)
  exact ⟨rfl, v39, E.pick _ ⟨rfl, rfl, rfl, trivial⟩, H.sel [0, 1] rfl, hx_.symm⟩
 clear E H hL57; intro i_ a w59 hM_
 obtain ⟨rfl, x61, E, H, hx_⟩ := hM_
 subst hx_; have hP := hK58; clear hK58
 refine bl_hit ?_
 refine th_n ?_
 refine wp_seq ?_
 refine wp_seq ?_
 refine wp_region_lit ?_
 refine vr tbok 2 [] [(1, .slice A13 (List.length to_) c14), (7, .slice (some ⟨g23, 0, none⟩) (List.length x56) (Int.toNat (((List.length to_) : Nat) : Int))), (32, .int .i64 length), (33, .int .i64 0)] [] E (by kernel_rfl) trivial ?_
 clear E; intro a E
 refine wpList_nil ?_
 refine th_n ?_
 refine wp_block ?_
 obtain ⟨x435, hL436, hK437⟩ := bind_inv hP
 clear hP
 refine loop_cut (fun i_ a w_ => (i_ = 2 ∧ ∃ (x440 : List (Int × Bool)), ∃ (A433 : Option Addr), Fr a 68 [(7, .slice A433 (List.length x440) (Int.toNat (((List.length to_) : Nat) : Int)))] ∧ Hp S Fa w0 w_ [.rowx true cS69 70 A433 (Int.toNat (((List.length to_) : Nat) : Int)) x440 (List.replicate (Int.toNat (((List.length to_) : Nat) : Int) - Int.toNat (((List.length to_) : Nat) : Int)) ((0, false) : Int × Bool))] ∧ x435 = x440)) ?_ ?_
 ·
  refine loopV (fun m439 a w438 => ∃ (v247 : List (Int × Bool)) (x249 : Int), ∃ (A248 : Option Addr), Fr a 68 [(1, .slice A13 (List.length to_) c14), (7, .slice A248 (List.length v247) (Int.toNat (((List.length to_) : Nat) : Int))), (32, .int .i64 length), (33, .int .i64 x249)] ∧ Hp S Fa w0 w438 [.ro false (cSl (cInt .i64)) A13 to_, .rowx true cS69 70 A248 (Int.toNat (((List.length to_) : Nat) : Int)) v247 (List.replicate (Int.toNat (((List.length to_) : Nat) : Int) - Int.toNat (((List.length to_) : Nat) : Int)) ((0, false) : Int × Bool))] ∧ lang_counts_l1 N to_ length m439 v247 x249 = some x435) N ?_ ?_
  ·
   exact ⟨x56, 0, (some ⟨g23, 0, none⟩), E.pick _ ⟨rfl, rfl, rfl, rfl, trivial⟩, H.sel [0, 1] rfl, hL436⟩
  clear E H hL436; intro m439 a w438 hI_
  obtain ⟨v247, x249, A248, E, H, hP⟩ := hI_
  obtain ⟨m434, rfl⟩ : ∃ q_, m439 = q_ + 1 := by cases m439 with | zero => rw [lang_counts_l1] at hP; cases hP | succ q_ => exact ⟨q_, rfl⟩
  rw [lang_counts_l1] at hP
  refine wp_seq ?_
  refine wp_region_lit ?_
  refine vr tbok 1 [] [(1, .slice A13 (List.length to_) c14), (7, .slice A248 (List.length v247) (Int.toNat (((List.length to_) : Nat) : Int))), (32, .int .i64 length), (33, .int .i64 x249), (34, .bool (decide (x249 < length)))] [] E (by kernel_rfl) trivial ?_
  clear E; intro a E
  refine wpList_nil ?_
  refine th_n ?_
  refine wp_seq ?_
  refine E.cases (t := 34) rfl (fun hb_ E_ => ?_) (fun hb_ E_ => ?_)
  ·
   replace E := E_; clear E_
   have h441 : x249 < length := of_decide_eq_true hb_
   clear hb_; replace hP := ite_t h441 hP
   refine c_true E rfl ?_
   refine wp_skip ?_
   refine th_n ?_
   refine wp_seq ?_
   refine wp_block ?_
   refine wp_seq ?_
   refine wp_region_lit ?_
   refine vr tbok 2 [] [(1, .slice A13 (List.length to_) c14), (7, .slice A248 (List.length v247) (Int.toNat (((List.length to_) : Nat) : Int))), (32, .int .i64 length), (33, .int .i64 x249), (36, .int .i64 (((List.length to_) : Nat) : Int))] [] E (by kernel_rfl) trivial ?_
   clear E; intro a E
   refine h_make cS69 ((0, false) : Int × Bool) H E rfl rfl tbok rfl rfl rfl rfl ⟨g22.1, Int.le_refl _, g22.2⟩ rfl rfl rfl (fun _ _ => rfl) ?_
   intro w443 g442 a hc444 hg446 H_ E_
   replace E := E_ _ rfl; clear E_
   replace H := H_; clear H_; try dsimp only [setn, addE, goneL] at H
   refine vr tbok 1 [] [(1, .slice A13 (List.length to_) c14), (7, .slice A248 (List.length v247) (Int.toNat (((List.length to_) : Nat) : Int))), (10, .slice (some ⟨g442, 0, none⟩) (List.length (List.replicate (Int.toNat (((List.length to_) : Nat) : Int)) ((0, false) : Int × Bool))) (Int.toNat (((List.length to_) : Nat) : Int))), (32, .int .i64 length), (33, .int .i64 x249)] [] E (by kernel_rfl) trivial ?_
   clear E; intro a E
   refine wpList_nil ?_
   refine th_n ?_
   refine wp_seq ?_
   refine wp_seq ?_
   refine wp_region_lit ?_
   refine vr tbok 3 [] [(1, .slice A13 (List.length to_) c14), (7, .slice A248 (List.length v247) (Int.toNat (((List.length to_) : Nat) : Int))), (10, .slice (some ⟨g442, 0, none⟩) (List.length (List.replicate (Int.toNat (((List.length to_) : Nat) : Int)) ((0, false) : Int × Bool))) (Int.toNat (((List.length to_) : Nat) : Int))), (32, .int .i64 length), (33, .int .i64 x249), (38, .slice A13 (List.length to_) c14), (39, .int .i64 (((List.length to_) : Nat) : Int)), (40, .int .i64 0)] [] E (by kernel_rfl) trivial ?_
   clear E; intro a E
   refine wpList_nil ?_
   refine th_n ?_
   refine wp_block ?_
   obtain ⟨x620, hL621, hK622⟩ := bind_inv hP
   clear hP
   refine loop_cut (fun i_ a w_ => (i_ = 4 ∧ ∃ (x625 : List (Int × Bool)), Fr a 68 [(1, .slice A13 (List.length to_) c14), (10, .slice (some ⟨g442, 0, none⟩) (List.length x625) (Int.toNat (((List.length to_) : Nat) : Int))), (32, .int .i64 length), (33, .int .i64 x249)] ∧ Hp S Fa w0 w_ [.ro false (cSl (cInt .i64)) A13 to_, .rowx true cS69 70 (some ⟨g442, 0, none⟩) (Int.toNat (((List.length to_) : Nat) : Int)) x625 (List.replicate (Int.toNat (((List.length to_) : Nat) : Int) - Int.toNat (((List.length to_) : Nat) : Int)) ((0, false) : Int × Bool))] ∧ x620 = x625)) ?_ ?_
   ·
    refine loopV (fun m624 a w623 => ∃ (w531 : List (Int × Bool)) (x532 : Int), Fr a 68 [(1, .slice A13 (List.length to_) c14), (7, .slice A248 (List.length v247) (Int.toNat (((List.length to_) : Nat) : Int))), (10, .slice (some ⟨g442, 0, none⟩) (List.length w531) (Int.toNat (((List.length to_) : Nat) : Int))), (32, .int .i64 length), (33, .int .i64 x249), (38, .slice A13 (List.length to_) c14), (39, .int .i64 (((List.length to_) : Nat) : Int)), (40, .int .i64 x532)] ∧ Hp S Fa w0 w623 [.ro false (cSl (cInt .i64)) A13 to_, .rowx true cS69 70 A248 (Int.toNat (((List.length to_) : Nat) : Int)) v247 (List.replicate (Int.toNat (((List.length to_) : Nat) : Int) - Int.toNat (((List.length to_) : Nat) : Int)) ((0, false) : Int × Bool)), .rowx true cS69 70 (some ⟨g442, 0, none⟩) (Int.toNat (((List.length to_) : Nat) : Int)) w531 (List.replicate (Int.toNat (((List.length to_) : Nat) : Int) - Int.toNat (((List.length to_) : Nat) : Int)) ((0, false) : Int × Bool))] ∧ lang_counts_l2 N to_ v247 m624 w531 x532 = some x620) N ?_ ?_
    ·
     exact ⟨List.replicate (Int.toNat (((List.length to_) : Nat) : Int)) ((0, false) : Int × Bool), 0, E.pick _ ⟨rfl, rfl, rfl, rfl, rfl, rfl, rfl, rfl, trivial⟩, H.sel [0, 1, 2] rfl, hL621⟩
    clear E H hL621; intro m624 a w623 hI_
    obtain ⟨w531, x532, E, H, hP⟩ := hI_
    obtain ⟨m619, rfl⟩ : ∃ q_, m624 = q_ + 1 := by cases m624 with | zero => rw [lang_counts_l2] at hP; cases hP | succ q_ => exact ⟨q_, rfl⟩
    rw [lang_counts_l2] at hP
    refine wp_seq ?_
    refine wp_region_lit ?_
    refine vr tbok 1 [] [(1, .slice A13 (List.length to_) c14), (7, .slice A248 (List.length v247) (Int.toNat (((List.length to_) : Nat) : Int))), (10, .slice (some ⟨g442, 0, none⟩) (List.length w531) (Int.toNat (((List.length to_) : Nat) : Int))), (32, .int .i64 length), (33, .int .i64 x249), (38, .slice A13 (List.length to_) c14), (39, .int .i64 (((List.length to_) : Nat) : Int)), (40, .int .i64 x532), (41, .bool (decide (x532 < (((List.length to_) : Nat) : Int))))] [] E (by kernel_rfl) trivial ?_
    clear E; intro a E
    refine wpList_nil ?_
    refine th_n ?_
    refine wp_seq ?_
    refine E.cases (t := 41) rfl (fun hb_ E_ => ?_) (fun hb_ E_ => ?_)
    ·
     replace E := E_; clear E_
     have h626 : x532 < (((List.length to_) : Nat) : Int) := of_decide_eq_true hb_
     clear hb_; replace hP := ite_t h626 hP
     refine c_true E rfl ?_
     refine wp_skip ?_
     refine th_n ?_
     refine wp_seq ?_
     refine wp_block ?_
     refine wp_seq ?_
     refine wp_region_lit ?_
     obtain ⟨g627, hP⟩ := ask_inv hP
     obtain ⟨b628, o629, e_b628⟩ := (H.rd 0 rds_ro).addr (idx_pos g627)
     subst e_b628
     obtain ⟨A630, c631, hl632, hk633, H⟩ := H.subSl 0 false (el_ro rfl) g627
     try dsimp only [addE] at H
     refine vr tbok 5 [.slice A630 (List.length (List.getD to_ (Int.toNat x532) [])) c631] [(1, .slice (some ⟨b628, o629, none⟩) (List.length to_) c14), (7, .slice A248 (List.length v247) (Int.toNat (((List.length to_) : Nat) : Int))), (10, .slice (some ⟨g442, 0, none⟩) (List.length w531) (Int.toNat (((List.length to_) : Nat) : Int))), (11, .int .i64 x532), (12, .slice A630 (List.length (List.getD to_ (Int.toNat x532) [])) c631), (32, .int .i64 length), (33, .int .i64 x249), (38, .slice (some ⟨b628, o629, none⟩) (List.length to_) c14), (39, .int .i64 (((List.length to_) : Nat) : Int)), (40, .int .i64 x532)] [0 ≤ x532 ∧ x532 < (((List.length to_) : Nat) : Int), World.cell? w623 ⟨b628, o629 + (Int.toNat x532) * 1, none⟩ = some (.slice A630 (List.length (List.getD to_ (Int.toNat x532) [])) c631)] E (by kernel_rfl) ⟨g627, hl632⟩ ?_
     clear E; intro a E
     refine wpList_nil ?_
     refine th_n ?_
     refine wp_seq ?_
     refine wp_region_lit ?_
     refine vr tbok 3 [] [(1, .slice (some ⟨b628, o629, none⟩) (List.length to_) c14), (7, .slice A248 (List.length v247) (Int.toNat (((List.length to_) : Nat) : Int))), (10, .slice (some ⟨g442, 0, none⟩) (List.length w531) (Int.toNat (((List.length to_) : Nat) : Int))), (11, .int .i64 x532), (32, .int .i64 length), (33, .int .i64 x249), (38, .slice (some ⟨b628, o629, none⟩) (List.length to_) c14), (39, .int .i64 (((List.length to_) : Nat) : Int)), (40, .int .i64 x532), (45, .slice A630 (List.length (List.getD to_ (Int.toNat x532) [])) c631), (46, .int .i64 (((List.length (List.getD to_ (Int.toNat x532) [])) : Nat) : Int)), (47, .int .i64 0)] [] E (by kernel_rfl) trivial ?_
     clear E; intro a E
     refine wpList_nil ?_
     refine th_n ?_
     refine wp_block ?_
     obtain ⟨x710, hL711, hK712⟩ := bind_inv hP
     clear hP
     refine loop_cut (fun i_ a w_ => (i_ = 6 ∧ ∃ (x715 : List (Int × Bool)), Fr a 68 [(1, .slice (some ⟨b628, o629, none⟩) (List.length to_) c14), (7, .slice A248 (List.length v247) (Int.toNat (((List.length to_) : Nat) : Int))), (10, .slice (some ⟨g442, 0, none⟩) (List.length x715) (Int.toNat (((List.length to_) : Nat) : Int))), (32, .int .i64 length), (33, .int .i64 x249), (38, .slice (some ⟨b628, o629, none⟩) (List.length to_) c14), (39, .int .i64 (((List.length to_) : Nat) : Int)), (40, .int .i64 x532)] ∧ Hp S Fa w0 w_ [.ro false (cSl (cInt .i64)) (some ⟨b628, o629, none⟩) to_, .rowx true cS69 70 A248 (Int.toNat (((List.length to_) : Nat) : Int)) v247 (List.replicate (Int.toNat (((List.length to_) : Nat) : Int) - Int.toNat (((List.length to_) : Nat) : Int)) ((0, false) : Int × Bool)), .rowx true cS69 70 (some ⟨g442, 0, none⟩) (Int.toNat (((List.length to_) : Nat) : Int)) x715 (List.replicate (Int.toNat (((List.length to_) : Nat) : Int) - Int.toNat (((List.length to_) : Nat) : Int)) ((0, false) : Int × Bool))] ∧ x710 = x715)) ?_ ?_
     ·
      refine loopV (fun m714 a w713 => ∃ (w670 : List (Int × Bool)) (x671 : Int), Fr a 68 [(1, .slice (some ⟨b628, o629, none⟩) (List.length to_) c14), (7, .slice A248 (List.length v247) (Int.toNat (((List.length to_) : Nat) : Int))), (10, .slice (some ⟨g442, 0, none⟩) (List.length w670) (Int.toNat (((List.length to_) : Nat) : Int))), (11, .int .i64 x532), (32, .int .i64 length), (33, .int .i64 x249), (38, .slice (some ⟨b628, o629, none⟩) (List.length to_) c14), (39, .int .i64 (((List.length to_) : Nat) : Int)), (40, .int .i64 x532), (45, .slice A630 (List.length (List.getD to_ (Int.toNat x532) [])) c631), (46, .int .i64 (((List.length (List.getD to_ (Int.toNat x532) [])) : Nat) : Int)), (47, .int .i64 x671)] ∧ Hp S Fa w0 w713 [.ro false (cSl (cInt .i64)) (some ⟨b628, o629, none⟩) to_, .rowx true cS69 70 A248 (Int.toNat (((List.length to_) : Nat) : Int)) v247 (List.replicate (Int.toNat (((List.length to_) : Nat) : Int) - Int.toNat (((List.length to_) : Nat) : Int)) ((0, false) : Int × Bool)), .rowx true cS69 70 (some ⟨g442, 0, none⟩) (Int.toNat (((List.length to_) : Nat) : Int)) w670 (List.replicate (Int.toNat (((List.length to_) : Nat) : Int) - Int.toNat (((List.length to_) : Nat) : Int)) ((0, false) : Int × Bool)), .ro false (cInt .i64) A630 (List.getD to_ (Int.toNat x532) [])] ∧ lang_counts_l3 N to_ v247 x532 m714 w670 x671 = some x710) N ?_ ?_
      ·
       exact ⟨w531, 0, E.pick _ ⟨rfl, rfl, rfl, rfl, rfl, rfl, rfl, rfl, rfl, rfl, rfl, rfl, trivial⟩, H.sel [0, 1, 2, 3] rfl, hL711⟩
      clear E H hL711; intro m714 a w713 hI_
      obtain ⟨w670, x671, E, H, hP⟩ := hI_
      obtain ⟨m709, rfl⟩ : ∃ q_, m714 = q_ + 1 := by cases m714 with | zero => rw [lang_counts_l3] at hP; cases hP | succ q_ => exact ⟨q_, rfl⟩
      rw [lang_counts_l3] at hP
      refine wp_seq ?_
      refine wp_region_lit ?_
      refine vr tbok 1 [] [(1, .slice (some ⟨b628, o629, none⟩) (List.length to_) c14), (7, .slice A248 (List.length v247) (Int.toNat (((List.length to_) : Nat) : Int))), (10, .slice (some ⟨g442, 0, none⟩) (List.length w670) (Int.toNat (((List.length to_) : Nat) : Int))), (11, .int .i64 x532), (32, .int .i64 length), (33, .int .i64 x249), (38, .slice (some ⟨b628, o629, none⟩) (List.length to_) c14), (39, .int .i64 (((List.length to_) : Nat) : Int)), (40, .int .i64 x532), (45, .slice A630 (List.length (List.getD to_ (Int.toNat x532) [])) c631), (46, .int .i64 (((List.length (List.getD to_ (Int.toNat x532) [])) : Nat) : Int)), (47, .int .i64 x671), (48, .bool (decide (x671 < (((List.length (List.getD to_ (Int.toNat x532) [])) : Nat) : Int))))] [] E (by kernel_rfl) trivial ?_
      clear E; intro a E
      refine wpList_nil ?_
      refine th_n ?_
      refine wp_seq ?_
      refine E.cases (t := 48) rfl (fun hb_ E_ => ?_) (fun hb_ E_ => ?_)
      ·
       replace E := E_; clear E_
       have h716 : x671 < (((List.length (List.getD to_ (Int.toNat x532) [])) : Nat) : Int) := of_decide_eq_true hb_
       clear hb_; replace hP := ite_t h716 hP
       refine c_true E rfl ?_
       refine wp_skip ?_
       refine th_n ?_
       refine wp_seq ?_
       refine wp_block ?_
       refine wp_seq ?_
       refine wp_region_lit ?_
       obtain ⟨g717, hP⟩ := ask_inv hP
       obtain ⟨b718, o719, e_b718⟩ := (H.rd 3 rds_ro).addr (idx_pos g717)
       subst e_b718
       refine vr tbok 3 [.int .i64 (List.getD (List.getD to_ (Int.toNat x532) []) (Int.toNat x671) 0)] [(1, .slice (some ⟨b628, o629, none⟩) (List.length to_) c14), (7, .slice A248 (List.length v247) (Int.toNat (((List.length to_) : Nat) : Int))), (10, .slice (some ⟨g442, 0, none⟩) (List.length w670) (Int.toNat (((List.length to_) : Nat) : Int))), (11, .int .i64 x532), (14, .int .i64 (List.getD (List.getD to_ (Int.toNat x532) []) (Int.toNat x671) 0)), (32, .int .i64 length), (33, .int .i64 x249), (38, .slice (some ⟨b628, o629, none⟩) (List.length to_) c14), (39, .int .i64 (((List.length to_) : Nat) : Int)), (40, .int .i64 x532), (45, .slice (some ⟨b718, o719, none⟩) (List.length (List.getD to_ (Int.toNat x532) [])) c631), (46, .int .i64 (((List.length (List.getD to_ (Int.toNat x532) [])) : Nat) : Int)), (47, .int .i64 x671)] [0 ≤ x671 ∧ x671 < (((List.length (List.getD to_ (Int.toNat x532) [])) : Nat) : Int), World.cell? w713 ⟨b718, o719 + (Int.toNat x671) * 1, none⟩ = some (.int .i64 (List.getD (List.getD to_ (Int.toNat x532) []) (Int.toNat x671) 0))] E (by kernel_rfl) ⟨g717, Rds.at1 (H.rd 3 rds_ro) 0 g717⟩ ?_
       clear E; intro a E
       refine wpList_nil ?_
       refine th_n ?_
       obtain ⟨g720, hP⟩ := ask_inv hP
       obtain ⟨g721, hP⟩ := ask_inv hP
       obtain ⟨b722, e_b722⟩ := H.raddrx 1 rfl (idx_pos g721)
       subst e_b722
       obtain ⟨r724, h725, hP⟩ := bind_inv hP
       have HR739 := H
       refine dr_start (S := fun w_ => Chg (atL [.rowx true cS69 70 (some ⟨g442, 0, none⟩) (Int.toNat (((List.length to_) : Nat) : Int)) w670 (List.replicate (Int.toNat (((List.length to_) : Nat) : Int) - Int.toNat (((List.length to_) : Nat) : Int)) ((0, false) : Int × Bool))]) w713 w_) (by kernel_rfl) ?_
       intro w736 hc737
       have HS738 : Chg (atL [.rowx true cS69 70 (some ⟨g442, 0, none⟩) (Int.toNat (((List.length to_) : Nat) : Int)) w670 (List.replicate (Int.toNat (((List.length to_) : Nat) : Int) - Int.toNat (((List.length to_) : Nat) : Int)) ((0, false) : Int × Bool))]) w713 w736 := hc737.mono (fun _ _ h_ => h_.elim)
       replace H := H.ext hc737
       refine dr tbok (by kernel_rfl) [0, 1, 2, 3, 6, 7, 8, 9] [.agg #[.int .u64 ((List.getD v247 (Int.toNat (List.getD (List.getD to_ (Int.toNat x532) []) (Int.toNat x671) 0)) (0, false)).1), .bool ((List.getD v247 (Int.toNat (List.getD (List.getD to_ (Int.toNat x532) []) (Int.toNat x671) 0)) (0, false)).2)]] [(1, .slice (some ⟨b628, o629, none⟩) (List.length to_) c14), (7, .slice (some ⟨b722, 0, none⟩) (List.length v247) (Int.toNat (((List.length to_) : Nat) : Int))), (10, .slice (some ⟨g442, 0, none⟩) (List.length w670) (Int.toNat (((List.length to_) : Nat) : Int))), (11, .int .i64 x532), (32, .int .i64 length), (33, .int .i64 x249), (38, .slice (some ⟨b628, o629, none⟩) (List.length to_) c14), (39, .int .i64 (((List.length to_) : Nat) : Int)), (40, .int .i64 x532), (45, .slice (some ⟨b718, o719, none⟩) (List.length (List.getD to_ (Int.toNat x532) [])) c631), (46, .int .i64 (((List.length (List.getD to_ (Int.toNat x532) [])) : Nat) : Int)), (47, .int .i64 x671), (51, .slice (some ⟨g442, 0, none⟩) (List.length w670) (Int.toNat (((List.length to_) : Nat) : Int))), (52, .int .i64 x532), (53, .slice (some ⟨g442, 0, none⟩) (List.length w670) (Int.toNat (((List.length to_) : Nat) : Int))), (54, .int .i64 x532), (60, .agg #[.int .u64 ((List.getD v247 (Int.toNat (List.getD (List.getD to_ (Int.toNat x532) []) (Int.toNat x671) 0)) (0, false)).1), .bool ((List.getD v247 (Int.toNat (List.getD (List.getD to_ (Int.toNat x532) []) (Int.toNat x671) 0)) (0, false)).2)])] (fun w_ => [0 ≤ (List.getD (List.getD to_ (Int.toNat x532) []) (Int.toNat x671) 0) ∧ (List.getD (List.getD to_ (Int.toNat x532) []) (Int.toNat x671) 0) < (((List.length v247) : Nat) : Int), cellsAt w_ b722 (0 + (Int.toNat (List.getD (List.getD to_ (Int.toNat x532) []) (Int.toNat x671) 0)) * 2) [.int .u64 ((List.getD v247 (Int.toNat (List.getD (List.getD to_ (Int.toNat x532) []) (Int.toNat x671) 0)) (0, false)).1), .bool ((List.getD v247 (Int.toNat (List.getD (List.getD to_ (Int.toNat x532) []) (Int.toNat x671) 0)) (0, false)).2)]]) 5 E (fun _ _ => by kernel_rfl) (fun w_ hS_ => ⟨g721, Rds.atP (HR739.rdk [2] hS_ 1 rds_rowx rfl) (0, false) g721⟩) (by kernel_rfl) HS738 ?_
       clear E; intro a E
       refine wpAnyH_all (rs := [4]) (by kernel_rfl) (by simp) ?_
       refine all1 ?_
       refine wpOp_of_list rfl ?_
       refine vr tbok 1 [] [(1, .slice (some ⟨b628, o629, none⟩) (List.length to_) c14), (7, .slice (some ⟨b722, 0, none⟩) (List.length v247) (Int.toNat (((List.length to_) : Nat) : Int))), (10, .slice (some ⟨g442, 0, none⟩) (List.length w670) (Int.toNat (((List.length to_) : Nat) : Int))), (11, .int .i64 x532), (32, .int .i64 length), (33, .int .i64 x249), (38, .slice (some ⟨b628, o629, none⟩) (List.length to_) c14), (39, .int .i64 (((List.length to_) : Nat) : Int)), (40, .int .i64 x532), (45, .slice (some ⟨b718, o719, none⟩) (List.length (List.getD to_ (Int.toNat x532) [])) c631), (46, .int .i64 (((List.length (List.getD to_ (Int.toNat x532) [])) : Nat) : Int)), (47, .int .i64 x671), (51, .slice (some ⟨g442, 0, none⟩) (List.length w670) (Int.toNat (((List.length to_) : Nat) : Int))), (52, .int .i64 x532), (53, .slice (some ⟨g442, 0, none⟩) (List.length w670) (Int.toNat (((List.length to_) : Nat) : Int))), (54, .int .i64 x532), (55, .pointer (some ⟨g442, 0 + (Int.toNat x532) * 2, none⟩)), (60, .agg #[.int .u64 ((List.getD v247 (Int.toNat (List.getD (List.getD to_ (Int.toNat x532) []) (Int.toNat x671) 0)) (0, false)).1), .bool ((List.getD v247 (Int.toNat (List.getD (List.getD to_ (Int.toNat x532) []) (Int.toNat x671) 0)) (0, false)).2)])] [0 ≤ x532 ∧ x532 < (((List.length w670) : Nat) : Int)] E (by kernel_rfl) (g720) ?_
       clear E; intro a E
       refine wpList_nil ?_
       refine th_n ⟨HS738, ?_⟩
       refine wpAnyH_all (rs := [5]) (by kernel_rfl) (by simp) ?_
       refine all1 ?_
       refine wpOp_of_list rfl ?_
       refine vr tbok 1 [.agg #[.int .u64 ((List.getD w670 (Int.toNat x532) (0, false)).1), .bool ((List.getD w670 (Int.toNat x532) (0, false)).2)]] [(1, .slice (some ⟨b628, o629, none⟩) (List.length to_) c14), (7, .slice (some ⟨b722, 0, none⟩) (List.length v247) (Int.toNat (((List.length to_) : Nat) : Int))), (10, .slice (some ⟨g442, 0, none⟩) (List.length w670) (Int.toNat (((List.length to_) : Nat) : Int))), (11, .int .i64 x532), (32, .int .i64 length), (33, .int .i64 x249), (38, .slice (some ⟨b628, o629, none⟩) (List.length to_) c14), (39, .int .i64 (((List.length to_) : Nat) : Int)), (40, .int .i64 x532), (45, .slice (some ⟨b718, o719, none⟩) (List.length (List.getD to_ (Int.toNat x532) [])) c631), (46, .int .i64 (((List.length (List.getD to_ (Int.toNat x532) [])) : Nat) : Int)), (47, .int .i64 x671), (51, .slice (some ⟨g442, 0, none⟩) (List.length w670) (Int.toNat (((List.length to_) : Nat) : Int))), (52, .int .i64 x532), (55, .pointer (some ⟨g442, 0 + (Int.toNat x532) * 2, none⟩)), (56, .agg #[.int .u64 ((List.getD w670 (Int.toNat x532) (0, false)).1), .bool ((List.getD w670 (Int.toNat x532) (0, false)).2)]), (60, .agg #[.int .u64 ((List.getD v247 (Int.toNat (List.getD (List.getD to_ (Int.toNat x532) []) (Int.toNat x671) 0)) (0, false)).1), .bool ((List.getD v247 (Int.toNat (List.getD (List.getD to_ (Int.toNat x532) []) (Int.toNat x671) 0)) (0, false)).2)])] [cellsAt w736 g442 (0 + (Int.toNat x532) * 2) [.int .u64 ((List.getD w670 (Int.toNat x532) (0, false)).1), .bool ((List.getD w670 (Int.toNat x532) (0, false)).2)]] E (by kernel_rfl) (Rds.atP (H.rd 2 rds_rowx) (0, false) g720) ?_
       clear E; intro a E
       refine wpList_nil ?_
       refine th_n ⟨HS738, ?_⟩
       refine wpAnyH_all (rs := [10]) (by kernel_rfl) (by simp) ?_
       refine all1 ?_
       refine wpOp_of_list rfl ?_
       obtain ⟨Fa740, Hc741, hb742⟩ := H.call [] [] rfl rfl trivial
       refine e_call E rfl rfl Try.func35 rfl rfl rfl (lang_count_add_calls  (List.getD w670 (Int.toNat x532) (0, false)) (List.getD v247 (Int.toNat (List.getD (List.getD to_ (Int.toNat x532) []) (Int.toNat x671) 0)) (0, false))  Hc741 h725) ?_
       rintro v743 w744 a ⟨rfl, HR745⟩ E_
       replace E := E_ _ rfl; clear E_
       obtain ⟨H_, hc746⟩ := hb742 _ _ HR745 rfl
       replace HS738 := HS738.ext (callS_ext hc746)
       replace H := H_; clear H_; try dsimp only [setn, addE, goneL] at H
       refine wpList_nil ?_
       refine th_n ⟨HS738, ?_⟩
       refine wpAnyH_all (rs := [11]) (by kernel_rfl) (by simp) ?_
       refine all1 ?_
       refine wpOp_of_list rfl ?_
       refine vr tbok 1 [] [(1, .slice (some ⟨b628, o629, none⟩) (List.length to_) c14), (7, .slice (some ⟨b722, 0, none⟩) (List.length v247) (Int.toNat (((List.length to_) : Nat) : Int))), (10, .slice (some ⟨g442, 0, none⟩) (List.length w670) (Int.toNat (((List.length to_) : Nat) : Int))), (11, .int .i64 x532), (32, .int .i64 length), (33, .int .i64 x249), (38, .slice (some ⟨b628, o629, none⟩) (List.length to_) c14), (39, .int .i64 (((List.length to_) : Nat) : Int)), (40, .int .i64 x532), (45, .slice (some ⟨b718, o719, none⟩) (List.length (List.getD to_ (Int.toNat x532) [])) c631), (46, .int .i64 (((List.length (List.getD to_ (Int.toNat x532) [])) : Nat) : Int)), (47, .int .i64 x671), (51, .slice (some ⟨g442, 0, none⟩) (List.length w670) (Int.toNat (((List.length to_) : Nat) : Int))), (52, .int .i64 x532), (61, .agg #[.int .u64 r724.1, .bool r724.2]), (62, .pointer (some ⟨g442, 0 + (Int.toNat x532) * 2, none⟩))] [0 ≤ x532 ∧ x532 < (((List.length w670) : Nat) : Int)] E (by kernel_rfl) (g720) ?_
       clear E; intro a E
       refine wpList_nil ?_
       refine th_n ⟨HS738, ?_⟩
       refine wpAnyH_all (rs := [12]) (by kernel_rfl) (by simp) ?_
       refine all1 ?_
       refine wpOp_of_list rfl ?_
       refine h_setx (g := g442) (i := x532) r724 H 2 rfl E rfl rfl rfl rfl tbok rfl (fun _ HF_ => rfl) rfl g720 rfl ?_
       clear E; intro w747 a hc748 H_ E
       replace HS738 := HS738.trans hc748 (fun k_ hk_ h_ => (fun _ _ h_ => Or.inl h_) k_ hk_ h_)
       replace H := H_; clear H_; try dsimp only [setn, addE, goneL] at H
       have hn749 : (List.length w670) = (List.length (List.set w670 (Int.toNat x532) r724)) := by simp only [List.length_set]
       replace E := E.same (t := 10) (u := .slice (some ⟨g442, 0, none⟩) (List.length (List.set w670 (Int.toNat x532) r724)) (Int.toNat (((List.length to_) : Nat) : Int))) rfl (congrArg (fun n_ => Value.slice (some ⟨g442, 0, none⟩) n_ (Int.toNat (((List.length to_) : Nat) : Int))) hn749)
       replace E := E.same (t := 51) (u := .slice (some ⟨g442, 0, none⟩) (List.length (List.set w670 (Int.toNat x532) r724)) (Int.toNat (((List.length to_) : Nat) : Int))) rfl (congrArg (fun n_ => Value.slice (some ⟨g442, 0, none⟩) n_ (Int.toNat (((List.length to_) : Nat) : Int))) hn749)
       refine wpList_nil ?_
       refine th_n ⟨HS738, ?_⟩
       refine dr_done (by kernel_rfl) ?_
       clear HS738 HR739
       refine bl_n ?_
       refine th_n ?_
       refine wp_region_lit ?_
       obtain ⟨g750, hP⟩ := ask_inv hP
       refine vr tbok 2 [.int .i64 (x671 + 1)] [(1, .slice (some ⟨b628, o629, none⟩) (List.length to_) c14), (7, .slice (some ⟨b722, 0, none⟩) (List.length v247) (Int.toNat (((List.length to_) : Nat) : Int))), (10, .slice (some ⟨g442, 0, none⟩) (List.length (List.set w670 (Int.toNat x532) r724)) (Int.toNat (((List.length to_) : Nat) : Int))), (11, .int .i64 x532), (32, .int .i64 length), (33, .int .i64 x249), (38, .slice (some ⟨b628, o629, none⟩) (List.length to_) c14), (39, .int .i64 (((List.length to_) : Nat) : Int)), (40, .int .i64 x532), (45, .slice (some ⟨b718, o719, none⟩) (List.length (List.getD to_ (Int.toNat x532) [])) c631), (46, .int .i64 (((List.length (List.getD to_ (Int.toNat x532) [])) : Nat) : Int)), (47, .int .i64 (x671 + 1))] [IntKind.i64.wrap (x671 + 1) = x671 + 1] E (by kernel_rfl) (wrap_in g750) ?_
       clear E; intro a E
       refine wpList_nil ?_
       exact th_n ⟨m709, Nat.lt_succ_self _, List.set w670 (Int.toNat x532) r724, x671 + 1, E.pick _ ⟨rfl, rfl, rfl, rfl, rfl, rfl, rfl, rfl, rfl, rfl, rfl, rfl, trivial⟩, H.sel [0, 1, 2, 3] rfl, hP⟩
      replace E := E_; clear E_
      have h751 : ¬ (x671 < (((List.length (List.getD to_ (Int.toNat x532) [])) : Nat) : Int)) := of_decide_eq_false hb_
      clear hb_; replace hP := ite_f h751 hP
      refine c_false E rfl ?_
      refine wp_exit ?_
      refine th_exit ?_
      have hx_ := Option.some.inj hP
      refine th_exit (.inl ⟨6, rfl, ?_⟩)
      exact ⟨rfl, w670, E.pick _ ⟨rfl, rfl, rfl, rfl, rfl, rfl, rfl, rfl, trivial⟩, H.sel [0, 1, 2] rfl, hx_.symm⟩
     clear E H hL711; intro i_ a w713 hM_
     obtain ⟨rfl, x715, E, H, hx_⟩ := hM_
     subst hx_; have hP := hK712; clear hK712
     refine bl_hit ?_
     refine bl_n ?_
     refine th_n ?_
     refine wp_region_lit ?_
     obtain ⟨g752, hP⟩ := ask_inv hP
     refine vr tbok 2 [.int .i64 (x532 + 1)] [(1, .slice (some ⟨b628, o629, none⟩) (List.length to_) c14), (7, .slice A248 (List.length v247) (Int.toNat (((List.length to_) : Nat) : Int))), (10, .slice (some ⟨g442, 0, none⟩) (List.length x710) (Int.toNat (((List.length to_) : Nat) : Int))), (32, .int .i64 length), (33, .int .i64 x249), (38, .slice (some ⟨b628, o629, none⟩) (List.length to_) c14), (39, .int .i64 (((List.length to_) : Nat) : Int)), (40, .int .i64 (x532 + 1))] [IntKind.i64.wrap (x532 + 1) = x532 + 1] E (by kernel_rfl) (wrap_in g752) ?_
     clear E; intro a E
     refine wpList_nil ?_
     exact th_n ⟨m619, Nat.lt_succ_self _, x710, x532 + 1, E.pick _ ⟨rfl, rfl, rfl, rfl, rfl, rfl, rfl, rfl, trivial⟩, H.sel [0, 1, 2] rfl, hP⟩
    replace E := E_; clear E_
    have h753 : ¬ (x532 < (((List.length to_) : Nat) : Int)) := of_decide_eq_false hb_
    clear hb_; replace hP := ite_f h753 hP
    refine c_false E rfl ?_
    refine wp_exit ?_
    refine th_exit ?_
    have hx_ := Option.some.inj hP
    refine th_exit (.inl ⟨4, rfl, ?_⟩)
    exact ⟨rfl, w531, E.pick _ ⟨rfl, rfl, rfl, rfl, trivial⟩, H.sel [0, 2] rfl, hx_.symm⟩
   clear E H hL621; intro i_ a w623 hM_
   obtain ⟨rfl, x625, E, H, hx_⟩ := hM_
   subst hx_; have hP := hK622; clear hK622
   refine bl_hit ?_
   refine th_n ?_
   refine wp_region_lit ?_
   refine vr tbok 2 [] [(1, .slice A13 (List.length to_) c14), (7, .slice (some ⟨g442, 0, none⟩) (List.length x620) (Int.toNat (((List.length to_) : Nat) : Int))), (32, .int .i64 length), (33, .int .i64 x249)] [] E (by kernel_rfl) trivial ?_
   clear E; intro a E
   refine wpList_nil ?_
   refine bl_n ?_
   refine th_n ?_
   refine wp_region_lit ?_
   obtain ⟨g754, hP⟩ := ask_inv hP
   refine vr tbok 2 [.int .i64 (x249 + 1)] [(1, .slice A13 (List.length to_) c14), (7, .slice (some ⟨g442, 0, none⟩) (List.length x620) (Int.toNat (((List.length to_) : Nat) : Int))), (32, .int .i64 length), (33, .int .i64 (x249 + 1))] [IntKind.i64.wrap (x249 + 1) = x249 + 1] E (by kernel_rfl) (wrap_in g754) ?_
   clear E; intro a E
   refine wpList_nil ?_
   exact th_n ⟨m434, Nat.lt_succ_self _, x620, x249 + 1, (some ⟨g442, 0, none⟩), E.pick _ ⟨rfl, rfl, rfl, rfl, trivial⟩, H.sel [0, 1] rfl, hP⟩
  replace E := E_; clear E_
  have h755 : ¬ (x249 < length) := of_decide_eq_false hb_
  clear hb_; replace hP := ite_f h755 hP
  refine c_false E rfl ?_
  refine wp_exit ?_
  refine th_exit ?_
  have hx_ := Option.some.inj hP
  refine th_exit (.inl ⟨2, rfl, ?_⟩)
  exact ⟨rfl, v247, A248, E.pick _ ⟨rfl, trivial⟩, H.sel [1] rfl, hx_.symm⟩
 clear E H hL436; intro i_ a w438 hM_
 obtain ⟨rfl, x440, A433, E, H, hx_⟩ := hM_
 subst hx_; have hP := hK437; clear hK437
 refine bl_hit ?_
 refine th_n ?_
 refine wp_seq ?_
 refine wp_region_lit ?_
 refine vr tbok 2 [] [(6, .slice A433 (List.length x435) (Int.toNat (((List.length to_) : Nat) : Int)))] [] E (by kernel_rfl) trivial ?_
 clear E; intro a E
 refine wpList_nil ?_
 refine th_n ?_
 refine wp_ret ?_
 replace H := H.rowx 0 rfl; try dsimp only [setn, addE, goneL] at H
 obtain rfl := Option.some.inj hP
 refine ret1 E rfl rfl ?_
 exact ⟨_, rfl, A433, (Int.toNat (((List.length to_) : Nat) : Int)), rfl, H.sel [0] rfl⟩

end Go.V
