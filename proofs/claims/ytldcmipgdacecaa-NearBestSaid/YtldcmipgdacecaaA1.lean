/- Plain functions, and the calls that give them. -/
import Derived.Test.YtldcmipgdacecaaA0
set_option linter.all false
set_option linter.unusedVariables false
set_option linter.unnecessarySimpa false
set_option linter.unusedSimpArgs false
namespace Go.V
open Go Go.Proofs
/-! rejoinder/letter.number -/
def letter_number (N : Nat) (n : Int) : Option Bool :=
  if 0 ≤ n then
    some (decide (n ≤ 8))
  else
    some false
set_option maxRecDepth 100000 in
set_option maxHeartbeats 4000000 in
theorem letter_number_calls {N : Nat} {S Fa : Nat → Prop} {w0 : World} {r : Bool} (n : Int) (H : Hp S Fa w0 w0 []) (hP : letter_number N n = some r) :
    Calls Try.prog 44 #[.int .i64 n] w0 fun e w' => ∃ v, e = .returned v ∧ v = .bool r ∧ Hp S Fa w0 w' [] := by
 refine enterV (n := 9) Try.func44 rfl rfl rfl ?_
 intro a E
 replace E := E.pick [(0, .int .i64 n)] ⟨rfl, trivial⟩
 rw [letter_number] at hP
 refine wp_seq ?_
 refine wp_region_lit ?_
 refine vn tbok 1 [] [] [] E (by kernel_rfl) (by kernel_rfl) trivial ?_
 clear E; intro a E
 refine wpList_nil ?_
 refine th_n ?_
 refine wp_seq ?_
 refine wp_region_lit ?_
 refine vn tbok 3 [] [(5, .bool (decide (0 ≤ n)))] [] E (by kernel_rfl) (by kernel_rfl) trivial ?_
 clear E; intro a E
 refine E.cases (t := 5) rfl (fun hb_ E_ => ?_) (fun hb_ E_ => ?_)
 ·
  replace E := E_; clear E_
  have h1 : 0 ≤ n := of_decide_eq_true hb_
  clear hb_; replace hP := ite_t h1 hP
  refine vn tbok 4 [] [(2, .bool (decide (n ≤ 8)))] [] E (by kernel_rfl) (by kernel_rfl) trivial ?_
  clear E; intro a E
  refine wpList_nil ?_
  refine th_n ?_
  refine wp_ret ?_
  obtain rfl := Option.some.inj hP
  refine ret1 E rfl rfl ?_
  exact ⟨_, rfl, rfl, H.sel [] rfl⟩
 replace E := E_; clear E_
 have h2 : ¬ (0 ≤ n) := of_decide_eq_false hb_
 clear hb_; replace hP := ite_f h2 hP
 refine vn tbok 4 [] [(2, .bool false)] [] E (by kernel_rfl) (by kernel_rfl) trivial ?_
 clear E; intro a E
 refine wpList_nil ?_
 refine th_n ?_
 refine wp_ret ?_
 obtain rfl := Option.some.inj hP
 refine ret1 E rfl rfl ?_
 exact ⟨_, rfl, rfl, H.sel [] rfl⟩

/-! rejoinder/letter.Fits -/
def letter_Fits (N : Nat) (n : Int) (ll : Int) : Option Bool :=
  Option.bind (letter_number N n) fun r1 =>
  if r1 = true then
    ask (in64 ll) <|
    ask (0 ≤ n) <|
    some ((shrV .i64 ll n : Int) == 0)
  else
    some false
set_option maxRecDepth 100000 in
set_option maxHeartbeats 4000000 in
theorem letter_Fits_calls {N : Nat} {S Fa : Nat → Prop} {w0 : World} {r : Bool} (n : Int) (ll : Int) (H : Hp S Fa w0 w0 []) (hP : letter_Fits N n ll = some r) :
    Calls Try.prog 45 #[.int .i64 n, .int .u8 ll] w0 fun e w' => ∃ v, e = .returned v ∧ v = .bool r ∧ Hp S Fa w0 w' [] := by
 refine enterV (n := 14) Try.func45 rfl rfl rfl ?_
 intro a E
 replace E := E.pick [(0, .int .i64 n), (1, .int .u8 ll)] ⟨rfl, rfl, trivial⟩
 rw [letter_Fits] at hP
 refine wp_seq ?_
 refine wp_region_lit ?_
 refine vn tbok 1 [] [] [] E (by kernel_rfl) (by kernel_rfl) trivial ?_
 clear E; intro a E
 refine wpList_nil ?_
 refine th_n ?_
 refine wp_seq ?_
 refine wp_region_lit ?_
 refine vn tbok 1 [] [(5, .int .i64 n)] [] E (by kernel_rfl) (by kernel_rfl) trivial ?_
 clear E; intro a E
 obtain ⟨r1, h2, hP⟩ := bind_inv hP
 obtain ⟨Fa3, Hc4, hb5⟩ := H.call [] [] rfl rfl trivial
 refine e_call E rfl rfl Try.func44 rfl rfl rfl (letter_number_calls  n  Hc4 h2) ?_
 rintro v6 w7 a ⟨rfl, HR8⟩ E_
 replace E := E_ _ rfl; clear E_
 obtain ⟨H_, hc9⟩ := hb5 _ _ HR8 rfl
 replace H := H_; clear H_; try dsimp only [setn, addE, goneL] at H
 refine vn tbok 1 [] [(7, .bool r1)] [] E (by kernel_rfl) (by kernel_rfl) trivial ?_
 clear E; intro a E
 refine E.cases (t := 7) rfl (fun hb_ E_ => ?_) (fun hb_ E_ => ?_)
 ·
  replace E := E_; clear E_
  have h10 : r1 = true := hb_
  clear hb_; replace hP := ite_t h10 hP
  obtain ⟨g11, hP⟩ := ask_inv hP
  obtain ⟨g12, hP⟩ := ask_inv hP
  refine vn tbok 7 [.int .i64 ll, .int .i64 (shrV .i64 ll n)] [(4, .bool ((shrV .i64 ll n : Int) == 0))] [IntKind.i64.wrap ll = ll, 0 ≤ n ∧ Int.fdiv ll (2 ^ (min (Int.toNat n) (IntKind.bits .i64))) = shrV .i64 ll n] E (by kernel_rfl) (by kernel_rfl) ⟨wrap_in g11, ⟨g12, rfl⟩⟩ ?_
  clear E; intro a E
  refine wpList_nil ?_
  refine th_n ?_
  refine wp_ret ?_
  obtain rfl := Option.some.inj hP
  refine ret1 E rfl rfl ?_
  exact ⟨_, rfl, rfl, H.sel [] rfl⟩
 replace E := E_; clear E_
 have h13 : ¬ (r1 = true) := (ne_true_of_eq_false hb_)
 clear hb_; replace hP := ite_f h13 hP
 refine vn tbok 7 [] [(4, .bool false)] [] E (by kernel_rfl) (by kernel_rfl) trivial ?_
 clear E; intro a E
 refine wpList_nil ?_
 refine th_n ?_
 refine wp_ret ?_
 obtain rfl := Option.some.inj hP
 refine ret1 E rfl rfl ?_
 exact ⟨_, rfl, rfl, H.sel [] rfl⟩

/-! rejoinder/letter.Trace -/
def letter_Trace_l0 (N : Nat) (n : Int) (t : List Int) : Nat → Int → Option (Unit ⊕ Int)
  | 0, _ => none
  | m52 + 1, x34 =>
    if x34 < (((List.length t) : Nat) : Int) then
      ask (idx x34 (List.length t)) <|
      Option.bind (letter_Fits N n (List.getD t (Int.toNat x34) 0)) fun r63 =>
      if r63 = true then
        ask (in64 (x34 + 1)) <|
        letter_Trace_l0 N n t m52 (x34 + 1)
      else
        some (Sum.inr 2)
    else
      some (Sum.inl ())
def letter_Trace (N : Nat) (n : Int) (t : List Int) : Option Int :=
  Option.bind (letter_number N n) fun r5 =>
  if r5 = true then
    if 1024 < (((List.length t) : Nat) : Int) then
      some 3
    else
      Option.bind (letter_Trace_l0 N n t N 0) fun x53 =>
      Sum.elim (fun x58 =>
        some 0)
       (fun x76 =>
        some x76) x53
  else
    some 2
set_option maxRecDepth 100000 in
set_option maxHeartbeats 4000000 in
theorem letter_Trace_calls {N : Nat} {S Fa : Nat → Prop} {w0 : World} {r : Int} (A1 : Option Addr) (c2 : Nat) (n : Int) (t : List Int) (hk3 : List.length t ≤ c2) (H : Hp S Fa w0 w0 [.ro false (cInt .u8) A1 t]) (hP : letter_Trace N n t = some r) :
    Calls Try.prog 26 #[.int .i64 n, .slice A1 (List.length t) c2] w0 fun e w' => ∃ v, e = .returned v ∧ v = .int .i64 r ∧ Hp S Fa w0 w' [] := by
 refine enterV (n := 24) Try.func26 rfl rfl rfl ?_
 intro a E
 replace E := E.pick [(0, .int .i64 n), (1, .slice A1 (List.length t) c2)] ⟨rfl, rfl, trivial⟩
 rw [letter_Trace] at hP
 refine wp_seq ?_
 refine wp_region_lit ?_
 refine vn tbok 1 [] [] [] E (by kernel_rfl) (by kernel_rfl) trivial ?_
 clear E; intro a E
 refine wpList_nil ?_
 refine th_n ?_
 refine wp_seq ?_
 refine wp_seq ?_
 refine wp_region_lit ?_
 refine vn tbok 1 [] [(7, .int .i64 n)] [] E (by kernel_rfl) (by kernel_rfl) trivial ?_
 clear E; intro a E
 obtain ⟨r5, h6, hP⟩ := bind_inv hP
 obtain ⟨Fa7, Hc8, hb9⟩ := H.call [] [] rfl rfl trivial
 refine e_call E rfl rfl Try.func44 rfl rfl rfl (letter_number_calls  n  Hc8 h6) ?_
 rintro v10 w11 a ⟨rfl, HR12⟩ E_
 replace E := E_ _ rfl; clear E_
 obtain ⟨H_, hc13⟩ := hb9 _ _ HR12 rfl
 replace H := H_; clear H_; try dsimp only [setn, addE, goneL] at H
 refine vn tbok 1 [] [(9, .bool (!r5))] [] E (by kernel_rfl) (by kernel_rfl) trivial ?_
 clear E; intro a E
 refine wpList_nil ?_
 refine th_n ?_
 refine E.cases (t := 9) rfl (fun hb_ E_ => ?_) (fun hb_ E_ => ?_)
 ·
  replace E := E_; clear E_
  have h14 : ¬ (r5 = true) := (ne_true_of_eq_false (not_t hb_))
  clear hb_; replace hP := ite_f h14 hP
  refine c_true E rfl ?_
  refine wp_seq ?_
  refine wp_region_lit ?_
  refine vn tbok 1 [] [(4, .int .i64 2)] [] E (by kernel_rfl) (by kernel_rfl) trivial ?_
  clear E; intro a E
  refine wpList_nil ?_
  refine th_n ?_
  refine wp_ret ?_
  refine th_ret ?_
  obtain rfl := Option.some.inj hP
  refine ret1 E rfl rfl ?_
  exact ⟨_, rfl, rfl, H.sel [] rfl⟩
 replace E := E_; clear E_
 have h15 : r5 = true := (not_f hb_)
 clear hb_; replace hP := ite_t h15 hP
 refine c_false E rfl ?_
 refine wp_skip ?_
 refine th_n ?_
 refine wp_seq ?_
 refine wp_seq ?_
 refine wp_region_lit ?_
 refine vn tbok 3 [] [(12, .bool (decide (1024 < (((List.length t) : Nat) : Int))))] [] E (by kernel_rfl) (by kernel_rfl) trivial ?_
 clear E; intro a E
 refine wpList_nil ?_
 refine th_n ?_
 refine E.cases (t := 12) rfl (fun hb_ E_ => ?_) (fun hb_ E_ => ?_)
 ·
  replace E := E_; clear E_
  have h16 : 1024 < (((List.length t) : Nat) : Int) := of_decide_eq_true hb_
  clear hb_; replace hP := ite_t h16 hP
  refine c_true E rfl ?_
  refine wp_seq ?_
  refine wp_region_lit ?_
  refine vn tbok 1 [] [(4, .int .i64 3)] [] E (by kernel_rfl) (by kernel_rfl) trivial ?_
  clear E; intro a E
  refine wpList_nil ?_
  refine th_n ?_
  refine wp_ret ?_
  refine th_ret ?_
  obtain rfl := Option.some.inj hP
  refine ret1 E rfl rfl ?_
  exact ⟨_, rfl, rfl, H.sel [] rfl⟩
 replace E := E_; clear E_
 have h17 : ¬ (1024 < (((List.length t) : Nat) : Int)) := of_decide_eq_false hb_
 clear hb_; replace hP := ite_f h17 hP
 refine c_false E rfl ?_
 refine wp_skip ?_
 refine th_n ?_
 refine wp_seq ?_
 refine wp_seq ?_
 refine wp_region_lit ?_
 refine vn tbok 3 [] [(13, .slice A1 (List.length t) c2), (14, .int .i64 (((List.length t) : Nat) : Int)), (15, .int .i64 0)] [] E (by kernel_rfl) (by kernel_rfl) trivial ?_
 clear E; intro a E
 refine wpList_nil ?_
 refine th_n ?_
 refine wp_block ?_
 obtain ⟨x53, hL54, hK55⟩ := bind_inv hP
 clear hP
 refine loop_cut (fun i_ a w_ => (i_ = 0 ∧ ∃ (x58 : Unit), Fr a 24 [] ∧ Hp S Fa w0 w_ [] ∧ x53 = Sum.inl x58)) ?_ ?_
 ·
  refine loopV (fun m57 a w56 => ∃ (x34 : Int), Fr a 24 [(0, .int .i64 n), (13, .slice A1 (List.length t) c2), (14, .int .i64 (((List.length t) : Nat) : Int)), (15, .int .i64 x34)] ∧ Hp S Fa w0 w56 [.ro false (cInt .u8) A1 t] ∧ letter_Trace_l0 N n t m57 x34 = some x53) N ?_ ?_
  ·
   exact ⟨0, E.pick _ ⟨rfl, rfl, rfl, rfl, trivial⟩, H.sel [0] rfl, hL54⟩
  clear E H hL54; intro m57 a w56 hI_
  obtain ⟨x34, E, H, hP⟩ := hI_
  obtain ⟨m52, rfl⟩ : ∃ q_, m57 = q_ + 1 := by cases m57 with | zero => rw [letter_Trace_l0] at hP; cases hP | succ q_ => exact ⟨q_, rfl⟩
  rw [letter_Trace_l0] at hP
  refine wp_seq ?_
  refine wp_region_lit ?_
  refine vn tbok 1 [] [(16, .bool (decide (x34 < (((List.length t) : Nat) : Int))))] [] E (by kernel_rfl) (by kernel_rfl) trivial ?_
  clear E; intro a E
  refine wpList_nil ?_
  refine th_n ?_
  refine wp_seq ?_
  refine E.cases (t := 16) rfl (fun hb_ E_ => ?_) (fun hb_ E_ => ?_)
  ·
   replace E := E_; clear E_
   have h59 : x34 < (((List.length t) : Nat) : Int) := of_decide_eq_true hb_
   clear hb_; replace hP := ite_t h59 hP
   refine c_true E rfl ?_
   refine wp_skip ?_
   refine th_n ?_
   refine wp_seq ?_
   refine wp_block ?_
   refine wp_seq ?_
   refine wp_region_lit ?_
   obtain ⟨g60, hP⟩ := ask_inv hP
   obtain ⟨b61, o62, e_b61⟩ := (H.rd 0 rds_ro).addr (idx_pos g60)
   subst e_b61
   refine vn tbok 3 [.int .u8 (List.getD t (Int.toNat x34) 0)] [(6, .int .u8 (List.getD t (Int.toNat x34) 0))] [0 ≤ x34 ∧ x34 < (((List.length t) : Nat) : Int), World.cell? w56 ⟨b61, o62 + (Int.toNat x34) * 1, none⟩ = some (.int .u8 (List.getD t (Int.toNat x34) 0))] E (by kernel_rfl) (by kernel_rfl) ⟨g60, Rds.at1 (H.rd 0 rds_ro) 0 g60⟩ ?_
   clear E; intro a E
   refine wpList_nil ?_
   refine th_n ?_
   refine wp_seq ?_
   refine wp_region_lit ?_
   refine vn tbok 2 [] [(19, .int .i64 n), (20, .int .u8 (List.getD t (Int.toNat x34) 0))] [] E (by kernel_rfl) (by kernel_rfl) trivial ?_
   clear E; intro a E
   obtain ⟨r63, h64, hP⟩ := bind_inv hP
   obtain ⟨Fa65, Hc66, hb67⟩ := H.call [] [] rfl rfl trivial
   refine e_call E rfl rfl Try.func45 rfl rfl rfl (letter_Fits_calls  n (List.getD t (Int.toNat x34) 0)  Hc66 h64) ?_
   rintro v68 w69 a ⟨rfl, HR70⟩ E_
   replace E := E_ _ rfl; clear E_
   obtain ⟨H_, hc71⟩ := hb67 _ _ HR70 rfl
   replace H := H_; clear H_; try dsimp only [setn, addE, goneL] at H
   refine vn tbok 1 [] [(22, .bool (!r63))] [] E (by kernel_rfl) (by kernel_rfl) trivial ?_
   clear E; intro a E
   refine wpList_nil ?_
   refine th_n ?_
   refine E.cases (t := 22) rfl (fun hb_ E_ => ?_) (fun hb_ E_ => ?_)
   ·
    replace E := E_; clear E_
    have h72 : ¬ (r63 = true) := (ne_true_of_eq_false (not_t hb_))
    clear hb_; replace hP := ite_f h72 hP
    refine c_true E rfl ?_
    refine wp_seq ?_
    refine wp_region_lit ?_
    refine vn tbok 1 [] [(4, .int .i64 2)] [] E (by kernel_rfl) (by kernel_rfl) trivial ?_
    clear E; intro a E
    refine wpList_nil ?_
    refine th_n ?_
    refine wp_ret ?_
    refine bl_ret ?_
    refine th_ret ?_
    refine th_ret ?_
    refine .inr ⟨rfl, ?_⟩
    refine bl_ret ?_
    refine th_ret ?_
    have hx_ := Option.some.inj hP; subst hx_
    have hP : some (2) = some r := hK55
    obtain rfl := Option.some.inj hP
    refine ret1 E rfl rfl ?_
    exact ⟨_, rfl, rfl, H.sel [] rfl⟩
   replace E := E_; clear E_
   have h73 : r63 = true := (not_f hb_)
   clear hb_; replace hP := ite_t h73 hP
   refine c_false E rfl ?_
   refine wp_skip ?_
   refine bl_n ?_
   refine th_n ?_
   refine wp_region_lit ?_
   obtain ⟨g74, hP⟩ := ask_inv hP
   refine vn tbok 2 [.int .i64 (x34 + 1)] [(15, .int .i64 (x34 + 1))] [IntKind.i64.wrap (x34 + 1) = x34 + 1] E (by kernel_rfl) (by kernel_rfl) (wrap_in g74) ?_
   clear E; intro a E
   refine wpList_nil ?_
   exact th_n ⟨m52, Nat.lt_succ_self _, x34 + 1, E.pick _ ⟨rfl, rfl, rfl, rfl, trivial⟩, H.sel [0] rfl, hP⟩
  replace E := E_; clear E_
  have h75 : ¬ (x34 < (((List.length t) : Nat) : Int)) := of_decide_eq_false hb_
  clear hb_; replace hP := ite_f h75 hP
  refine c_false E rfl ?_
  refine wp_exit ?_
  refine th_exit ?_
  have hx_ := Option.some.inj hP
  refine th_exit (.inl ⟨0, rfl, ?_⟩)
  exact ⟨rfl, (), E.pick _ trivial, H.sel [] rfl, hx_.symm⟩
 clear E H hL54; intro i_ a w56 hM_
 obtain ⟨rfl, x58, E, H, hx_⟩ := hM_
 subst hx_; have hP := elim_l hK55
 clear hK55
 refine bl_hit ?_
 refine th_n ?_
 refine wp_seq ?_
 refine wp_region_lit ?_
 refine vn tbok 1 [] [(4, .int .i64 0)] [] E (by kernel_rfl) (by kernel_rfl) trivial ?_
 clear E; intro a E
 refine wpList_nil ?_
 refine th_n ?_
 refine wp_ret ?_
 obtain rfl := Option.some.inj hP
 refine ret1 E rfl rfl ?_
 exact ⟨_, rfl, rfl, H.sel [] rfl⟩

/-! math/bits.OnesCount8 -/
def math_bits_OnesCount8 (N : Nat) (x : Int) : Option Int :=
  ask (idx x (ByteArray.size (⟨#[0, 1, 1, 2, 1, 2, 2, 3, 1, 2, 2, 3, 2, 3, 3, 4, 1, 2, 2, 3, 2, 3, 3, 4, 2, 3, 3, 4, 3, 4, 4, 5, 1, 2, 2, 3, 2, 3, 3, 4, 2, 3, 3, 4, 3, 4, 4, 5, 2, 3, 3, 4, 3, 4, 4, 5, 3, 4, 4, 5, 4, 5, 5, 6, 1, 2, 2, 3, 2, 3, 3, 4, 2, 3, 3, 4, 3, 4, 4, 5, 2, 3, 3, 4, 3, 4, 4, 5, 3, 4, 4, 5, 4, 5, 5, 6, 2, 3, 3, 4, 3, 4, 4, 5, 3, 4, 4, 5, 4, 5, 5, 6, 3, 4, 4, 5, 4, 5, 5, 6, 4, 5, 5, 6, 5, 6, 6, 7, 1, 2, 2, 3, 2, 3, 3, 4, 2, 3, 3, 4, 3, 4, 4, 5, 2, 3, 3, 4, 3, 4, 4, 5, 3, 4, 4, 5, 4, 5, 5, 6, 2, 3, 3, 4, 3, 4, 4, 5, 3, 4, 4, 5, 4, 5, 5, 6, 3, 4, 4, 5, 4, 5, 5, 6, 4, 5, 5, 6, 5, 6, 6, 7, 2, 3, 3, 4, 3, 4, 4, 5, 3, 4, 4, 5, 4, 5, 5, 6, 3, 4, 4, 5, 4, 5, 5, 6, 4, 5, 5, 6, 5, 6, 6, 7, 3, 4, 4, 5, 4, 5, 5, 6, 4, 5, 5, 6, 5, 6, 6, 7, 4, 5, 5, 6, 5, 6, 6, 7, 5, 6, 6, 7, 6, 7, 7, 8]⟩ : ByteArray))) <|
  ask (in64 (sb (⟨#[0, 1, 1, 2, 1, 2, 2, 3, 1, 2, 2, 3, 2, 3, 3, 4, 1, 2, 2, 3, 2, 3, 3, 4, 2, 3, 3, 4, 3, 4, 4, 5, 1, 2, 2, 3, 2, 3, 3, 4, 2, 3, 3, 4, 3, 4, 4, 5, 2, 3, 3, 4, 3, 4, 4, 5, 3, 4, 4, 5, 4, 5, 5, 6, 1, 2, 2, 3, 2, 3, 3, 4, 2, 3, 3, 4, 3, 4, 4, 5, 2, 3, 3, 4, 3, 4, 4, 5, 3, 4, 4, 5, 4, 5, 5, 6, 2, 3, 3, 4, 3, 4, 4, 5, 3, 4, 4, 5, 4, 5, 5, 6, 3, 4, 4, 5, 4, 5, 5, 6, 4, 5, 5, 6, 5, 6, 6, 7, 1, 2, 2, 3, 2, 3, 3, 4, 2, 3, 3, 4, 3, 4, 4, 5, 2, 3, 3, 4, 3, 4, 4, 5, 3, 4, 4, 5, 4, 5, 5, 6, 2, 3, 3, 4, 3, 4, 4, 5, 3, 4, 4, 5, 4, 5, 5, 6, 3, 4, 4, 5, 4, 5, 5, 6, 4, 5, 5, 6, 5, 6, 6, 7, 2, 3, 3, 4, 3, 4, 4, 5, 3, 4, 4, 5, 4, 5, 5, 6, 3, 4, 4, 5, 4, 5, 5, 6, 4, 5, 5, 6, 5, 6, 6, 7, 3, 4, 4, 5, 4, 5, 5, 6, 4, 5, 5, 6, 5, 6, 6, 7, 4, 5, 5, 6, 5, 6, 6, 7, 5, 6, 6, 7, 6, 7, 7, 8]⟩) x)) <|
  some (sb (⟨#[0, 1, 1, 2, 1, 2, 2, 3, 1, 2, 2, 3, 2, 3, 3, 4, 1, 2, 2, 3, 2, 3, 3, 4, 2, 3, 3, 4, 3, 4, 4, 5, 1, 2, 2, 3, 2, 3, 3, 4, 2, 3, 3, 4, 3, 4, 4, 5, 2, 3, 3, 4, 3, 4, 4, 5, 3, 4, 4, 5, 4, 5, 5, 6, 1, 2, 2, 3, 2, 3, 3, 4, 2, 3, 3, 4, 3, 4, 4, 5, 2, 3, 3, 4, 3, 4, 4, 5, 3, 4, 4, 5, 4, 5, 5, 6, 2, 3, 3, 4, 3, 4, 4, 5, 3, 4, 4, 5, 4, 5, 5, 6, 3, 4, 4, 5, 4, 5, 5, 6, 4, 5, 5, 6, 5, 6, 6, 7, 1, 2, 2, 3, 2, 3, 3, 4, 2, 3, 3, 4, 3, 4, 4, 5, 2, 3, 3, 4, 3, 4, 4, 5, 3, 4, 4, 5, 4, 5, 5, 6, 2, 3, 3, 4, 3, 4, 4, 5, 3, 4, 4, 5, 4, 5, 5, 6, 3, 4, 4, 5, 4, 5, 5, 6, 4, 5, 5, 6, 5, 6, 6, 7, 2, 3, 3, 4, 3, 4, 4, 5, 3, 4, 4, 5, 4, 5, 5, 6, 3, 4, 4, 5, 4, 5, 5, 6, 4, 5, 5, 6, 5, 6, 6, 7, 3, 4, 4, 5, 4, 5, 5, 6, 4, 5, 5, 6, 5, 6, 6, 7, 4, 5, 5, 6, 5, 6, 6, 7, 5, 6, 6, 7, 6, 7, 7, 8]⟩) x)
set_option maxRecDepth 100000 in
set_option maxHeartbeats 4000000 in
theorem math_bits_OnesCount8_calls {N : Nat} {S Fa : Nat → Prop} {w0 : World} {r : Int} (x : Int) (H : Hp S Fa w0 w0 []) (hP : math_bits_OnesCount8 N x = some r) :
    Calls Try.prog 46 #[.int .u8 x] w0 fun e w' => ∃ v, e = .returned v ∧ v = .int .i64 r ∧ Hp S Fa w0 w' [] := by
 refine enterV (n := 6) Try.func46 rfl rfl rfl ?_
 intro a E
 replace E := E.pick [(0, .int .u8 x)] ⟨rfl, trivial⟩
 rw [math_bits_OnesCount8] at hP
 refine wp_seq ?_
 refine wp_region_lit ?_
 refine vn tbok 1 [] [] [] E (by kernel_rfl) (by kernel_rfl) trivial ?_
 clear E; intro a E
 refine wpList_nil ?_
 refine th_n ?_
 refine wp_seq ?_
 refine wp_region_lit ?_
 refine vn tbok 1 [] [(3, .int .u8 x)] [] E (by kernel_rfl) (by kernel_rfl) trivial ?_
 clear E; intro a E
 obtain ⟨g1, hP⟩ := ask_inv hP
 refine e_idxStr E rfl rfl tbok rfl rfl rfl g1 rfl ?_
 clear E; intro a E
 obtain ⟨g2, hP⟩ := ask_inv hP
 refine vn tbok 2 [.int .i64 (sb (⟨#[0, 1, 1, 2, 1, 2, 2, 3, 1, 2, 2, 3, 2, 3, 3, 4, 1, 2, 2, 3, 2, 3, 3, 4, 2, 3, 3, 4, 3, 4, 4, 5, 1, 2, 2, 3, 2, 3, 3, 4, 2, 3, 3, 4, 3, 4, 4, 5, 2, 3, 3, 4, 3, 4, 4, 5, 3, 4, 4, 5, 4, 5, 5, 6, 1, 2, 2, 3, 2, 3, 3, 4, 2, 3, 3, 4, 3, 4, 4, 5, 2, 3, 3, 4, 3, 4, 4, 5, 3, 4, 4, 5, 4, 5, 5, 6, 2, 3, 3, 4, 3, 4, 4, 5, 3, 4, 4, 5, 4, 5, 5, 6, 3, 4, 4, 5, 4, 5, 5, 6, 4, 5, 5, 6, 5, 6, 6, 7, 1, 2, 2, 3, 2, 3, 3, 4, 2, 3, 3, 4, 3, 4, 4, 5, 2, 3, 3, 4, 3, 4, 4, 5, 3, 4, 4, 5, 4, 5, 5, 6, 2, 3, 3, 4, 3, 4, 4, 5, 3, 4, 4, 5, 4, 5, 5, 6, 3, 4, 4, 5, 4, 5, 5, 6, 4, 5, 5, 6, 5, 6, 6, 7, 2, 3, 3, 4, 3, 4, 4, 5, 3, 4, 4, 5, 4, 5, 5, 6, 3, 4, 4, 5, 4, 5, 5, 6, 4, 5, 5, 6, 5, 6, 6, 7, 3, 4, 4, 5, 4, 5, 5, 6, 4, 5, 5, 6, 5, 6, 6, 7, 4, 5, 5, 6, 5, 6, 6, 7, 5, 6, 6, 7, 6, 7, 7, 8]⟩) x)] [(2, .int .i64 (sb (⟨#[0, 1, 1, 2, 1, 2, 2, 3, 1, 2, 2, 3, 2, 3, 3, 4, 1, 2, 2, 3, 2, 3, 3, 4, 2, 3, 3, 4, 3, 4, 4, 5, 1, 2, 2, 3, 2, 3, 3, 4, 2, 3, 3, 4, 3, 4, 4, 5, 2, 3, 3, 4, 3, 4, 4, 5, 3, 4, 4, 5, 4, 5, 5, 6, 1, 2, 2, 3, 2, 3, 3, 4, 2, 3, 3, 4, 3, 4, 4, 5, 2, 3, 3, 4, 3, 4, 4, 5, 3, 4, 4, 5, 4, 5, 5, 6, 2, 3, 3, 4, 3, 4, 4, 5, 3, 4, 4, 5, 4, 5, 5, 6, 3, 4, 4, 5, 4, 5, 5, 6, 4, 5, 5, 6, 5, 6, 6, 7, 1, 2, 2, 3, 2, 3, 3, 4, 2, 3, 3, 4, 3, 4, 4, 5, 2, 3, 3, 4, 3, 4, 4, 5, 3, 4, 4, 5, 4, 5, 5, 6, 2, 3, 3, 4, 3, 4, 4, 5, 3, 4, 4, 5, 4, 5, 5, 6, 3, 4, 4, 5, 4, 5, 5, 6, 4, 5, 5, 6, 5, 6, 6, 7, 2, 3, 3, 4, 3, 4, 4, 5, 3, 4, 4, 5, 4, 5, 5, 6, 3, 4, 4, 5, 4, 5, 5, 6, 4, 5, 5, 6, 5, 6, 6, 7, 3, 4, 4, 5, 4, 5, 5, 6, 4, 5, 5, 6, 5, 6, 6, 7, 4, 5, 5, 6, 5, 6, 6, 7, 5, 6, 6, 7, 6, 7, 7, 8]⟩) x))] [IntKind.i64.wrap (sb (⟨#[0, 1, 1, 2, 1, 2, 2, 3, 1, 2, 2, 3, 2, 3, 3, 4, 1, 2, 2, 3, 2, 3, 3, 4, 2, 3, 3, 4, 3, 4, 4, 5, 1, 2, 2, 3, 2, 3, 3, 4, 2, 3, 3, 4, 3, 4, 4, 5, 2, 3, 3, 4, 3, 4, 4, 5, 3, 4, 4, 5, 4, 5, 5, 6, 1, 2, 2, 3, 2, 3, 3, 4, 2, 3, 3, 4, 3, 4, 4, 5, 2, 3, 3, 4, 3, 4, 4, 5, 3, 4, 4, 5, 4, 5, 5, 6, 2, 3, 3, 4, 3, 4, 4, 5, 3, 4, 4, 5, 4, 5, 5, 6, 3, 4, 4, 5, 4, 5, 5, 6, 4, 5, 5, 6, 5, 6, 6, 7, 1, 2, 2, 3, 2, 3, 3, 4, 2, 3, 3, 4, 3, 4, 4, 5, 2, 3, 3, 4, 3, 4, 4, 5, 3, 4, 4, 5, 4, 5, 5, 6, 2, 3, 3, 4, 3, 4, 4, 5, 3, 4, 4, 5, 4, 5, 5, 6, 3, 4, 4, 5, 4, 5, 5, 6, 4, 5, 5, 6, 5, 6, 6, 7, 2, 3, 3, 4, 3, 4, 4, 5, 3, 4, 4, 5, 4, 5, 5, 6, 3, 4, 4, 5, 4, 5, 5, 6, 4, 5, 5, 6, 5, 6, 6, 7, 3, 4, 4, 5, 4, 5, 5, 6, 4, 5, 5, 6, 5, 6, 6, 7, 4, 5, 5, 6, 5, 6, 6, 7, 5, 6, 6, 7, 6, 7, 7, 8]⟩) x) = (sb (⟨#[0, 1, 1, 2, 1, 2, 2, 3, 1, 2, 2, 3, 2, 3, 3, 4, 1, 2, 2, 3, 2, 3, 3, 4, 2, 3, 3, 4, 3, 4, 4, 5, 1, 2, 2, 3, 2, 3, 3, 4, 2, 3, 3, 4, 3, 4, 4, 5, 2, 3, 3, 4, 3, 4, 4, 5, 3, 4, 4, 5, 4, 5, 5, 6, 1, 2, 2, 3, 2, 3, 3, 4, 2, 3, 3, 4, 3, 4, 4, 5, 2, 3, 3, 4, 3, 4, 4, 5, 3, 4, 4, 5, 4, 5, 5, 6, 2, 3, 3, 4, 3, 4, 4, 5, 3, 4, 4, 5, 4, 5, 5, 6, 3, 4, 4, 5, 4, 5, 5, 6, 4, 5, 5, 6, 5, 6, 6, 7, 1, 2, 2, 3, 2, 3, 3, 4, 2, 3, 3, 4, 3, 4, 4, 5, 2, 3, 3, 4, 3, 4, 4, 5, 3, 4, 4, 5, 4, 5, 5, 6, 2, 3, 3, 4, 3, 4, 4, 5, 3, 4, 4, 5, 4, 5, 5, 6, 3, 4, 4, 5, 4, 5, 5, 6, 4, 5, 5, 6, 5, 6, 6, 7, 2, 3, 3, 4, 3, 4, 4, 5, 3, 4, 4, 5, 4, 5, 5, 6, 3, 4, 4, 5, 4, 5, 5, 6, 4, 5, 5, 6, 5, 6, 6, 7, 3, 4, 4, 5, 4, 5, 5, 6, 4, 5, 5, 6, 5, 6, 6, 7, 4, 5, 5, 6, 5, 6, 6, 7, 5, 6, 6, 7, 6, 7, 7, 8]⟩) x)] E (by kernel_rfl) (by kernel_rfl) (wrap_in g2) ?_
 clear E; intro a E
 refine wpList_nil ?_
 refine th_n ?_
 refine wp_ret ?_
 obtain rfl := Option.some.inj hP
 refine ret1 E rfl rfl ?_
 exact ⟨_, rfl, rfl, H.sel [] rfl⟩

/-! rejoinder/near.unlike -/
def near_unlike (N : Nat) (aa : Int) (b : Int) : Option Int :=
  Option.bind (math_bits_OnesCount8 N (xorV .u8 aa b)) fun r1 =>
  some r1
set_option maxRecDepth 100000 in
set_option maxHeartbeats 4000000 in
theorem near_unlike_calls {N : Nat} {S Fa : Nat → Prop} {w0 : World} {r : Int} (aa : Int) (b : Int) (H : Hp S Fa w0 w0 []) (hP : near_unlike N aa b = some r) :
    Calls Try.prog 27 #[.int .u8 aa, .int .u8 b] w0 fun e w' => ∃ v, e = .returned v ∧ v = .int .i64 r ∧ Hp S Fa w0 w' [] := by
 refine enterV (n := 9) Try.func27 rfl rfl rfl ?_
 intro a E
 replace E := E.pick [(0, .int .u8 aa), (1, .int .u8 b)] ⟨rfl, rfl, trivial⟩
 rw [near_unlike] at hP
 refine wp_seq ?_
 refine wp_region_lit ?_
 refine vn tbok 1 [] [] [] E (by kernel_rfl) (by kernel_rfl) trivial ?_
 clear E; intro a E
 refine wpList_nil ?_
 refine th_n ?_
 refine wp_seq ?_
 refine wp_region_lit ?_
 refine vn tbok 3 [.int .u8 (xorV .u8 aa b)] [(7, .int .u8 (xorV .u8 aa b))] [IntKind.u8.wrap (BitVec.ofInt (IntKind.bits .u8) aa ^^^ BitVec.ofInt (IntKind.bits .u8) b).toNat = xorV .u8 aa b] E (by kernel_rfl) (by kernel_rfl) (rfl) ?_
 clear E; intro a E
 obtain ⟨r1, h2, hP⟩ := bind_inv hP
 obtain ⟨Fa3, Hc4, hb5⟩ := H.call [] [] rfl rfl trivial
 refine e_call E rfl rfl Try.func46 rfl rfl rfl (math_bits_OnesCount8_calls  (xorV .u8 aa b)  Hc4 h2) ?_
 rintro v6 w7 a ⟨rfl, HR8⟩ E_
 replace E := E_ _ rfl; clear E_
 obtain ⟨H_, hc9⟩ := hb5 _ _ HR8 rfl
 replace H := H_; clear H_; try dsimp only [setn, addE, goneL] at H
 refine vn tbok 1 [] [(4, .int .i64 r1)] [] E (by kernel_rfl) (by kernel_rfl) trivial ?_
 clear E; intro a E
 refine wpList_nil ?_
 refine th_n ?_
 refine wp_ret ?_
 obtain rfl := Option.some.inj hP
 refine ret1 E rfl rfl ?_
 exact ⟨_, rfl, rfl, H.sel [] rfl⟩

/-! rejoinder/near.Far -/
def near_Far_l0 (N : Nat) (aa : List Int) (b : List Int) : Nat → Int → Int → Option Int
  | 0, _, _ => none
  | m95 + 1, n62, x63 =>
    if x63 < (((List.length aa) : Nat) : Int) then
      ask (idx x63 (List.length aa)) <|
      ask (idx x63 (List.length b)) <|
      Option.bind (near_unlike N (List.getD aa (Int.toNat x63) 0) (List.getD b (Int.toNat x63) 0)) fun r109 =>
      ask (in64 (n62 + r109)) <|
      ask (in64 (x63 + 1)) <|
      near_Far_l0 N aa b m95 (n62 + r109) (x63 + 1)
    else
      some n62
def near_Far (N : Nat) (aa : List Int) (b : List Int) : Option (Int × Int) :=
  Option.bind (letter_Trace N 8 aa) fun r9 =>
  if (r9 : Int) = 0 then
    Option.bind (letter_Trace N 8 b) fun r20 =>
    if (r20 : Int) = 0 then
      if ((((List.length aa) : Nat) : Int) : Int) = (((List.length b) : Nat) : Int) then
        Option.bind (near_Far_l0 N aa b N 0 0) fun x96 =>
        some (x96, 0)
      else
        some (0, 2)
    else
      some (0, r20)
  else
    some (0, r9)
set_option maxRecDepth 100000 in
set_option maxHeartbeats 4000000 in
theorem near_Far_calls {N : Nat} {S Fa : Nat → Prop} {w0 : World} {r : Int × Int} (A1 : Option Addr) (c2 : Nat) (A5 : Option Addr) (c6 : Nat) (aa : List Int) (b : List Int) (hk3 : List.length aa ≤ c2) (hk7 : List.length b ≤ c6) (H : Hp S Fa w0 w0 [.ro false (cInt .u8) A1 aa, .ro false (cInt .u8) A5 b]) (hP : near_Far N aa b = some r) :
    Calls Try.prog 9 #[.slice A1 (List.length aa) c2, .slice A5 (List.length b) c6] w0 fun e w' => ∃ v, e = .returned v ∧ v = .tuple #[.int .i64 r.1, .int .i64 r.2] ∧ Hp S Fa w0 w' [] := by
 refine enterV (n := 46) Try.func9 rfl rfl rfl ?_
 intro a E
 replace E := E.pick [(0, .slice A1 (List.length aa) c2), (1, .slice A5 (List.length b) c6)] ⟨rfl, rfl, trivial⟩
 rw [near_Far] at hP
 refine wp_seq ?_
 refine wp_region_lit ?_
 refine vn tbok 2 [] [] [] E (by kernel_rfl) (by kernel_rfl) trivial ?_
 clear E; intro a E
 refine wpList_nil ?_
 refine th_n ?_
 refine wp_seq ?_
 refine wp_seq ?_
 refine wp_region_lit ?_
 refine vn tbok 2 [] [(11, .slice A1 (List.length aa) c2), (12, .slice A5 (List.length b) c6)] [] E (by kernel_rfl) (by kernel_rfl) trivial ?_
 clear E; intro a E
 refine e_build (ps := [(0, .slice A1 (List.length aa) c2), (1, .slice A5 (List.length b) c6)]) (v := .agg #[.slice A1 (List.length aa) c2, .slice A5 (List.length b) c6]) E rfl rfl tbok rfl (by kernel_rfl) rfl ?_
 clear E; intro a E
 refine vn tbok 1 [] [(14, .int .i64 0)] [] E (by kernel_rfl) (by kernel_rfl) trivial ?_
 clear E; intro a E
 refine wpList_nil ?_
 refine th_n ?_
 refine wp_block ?_
 refine wp_loop_rounds 3 ?_
 refine unr (m := 2) ?_
 refine wp_seq ?_
 refine wp_region_lit ?_
 refine vn tbok 1 [] [(15, .bool true)] [] E (by kernel_rfl) (by kernel_rfl) trivial ?_
 clear E; intro a E
 refine wpList_nil ?_
 refine th_n ?_
 refine wp_seq ?_
 refine c_true E rfl ?_
 refine wp_skip ?_
 refine th_n ?_
 refine wp_seq ?_
 refine wp_block ?_
 refine wp_seq ?_
 refine wp_region_lit ?_
 refine e_indexA (v := .slice A1 (List.length aa) c2) E rfl rfl tbok rfl rfl rfl rfl rfl rfl ⟨by decide, by decide⟩ rfl rfl ?_
 clear E; intro a E
 refine vn tbok 1 [] [(7, .slice A1 (List.length aa) c2)] [] E (by kernel_rfl) (by kernel_rfl) trivial ?_
 clear E; intro a E
 refine wpList_nil ?_
 refine th_n ?_
 refine wp_seq ?_
 refine wp_region_lit ?_
 refine vn tbok 1 [] [(17, .slice A1 (List.length aa) c2)] [] E (by kernel_rfl) (by kernel_rfl) trivial ?_
 clear E; intro a E
 obtain ⟨r9, h10, hP⟩ := bind_inv hP
 obtain ⟨Fa11, Hc12, hb13⟩ := H.call [] [(0, false)] rfl rfl trivial
 refine e_call E rfl rfl Try.func26 rfl rfl rfl (letter_Trace_calls A1 c2 8 aa hk3 Hc12 h10) ?_
 rintro v14 w15 a ⟨rfl, HR16⟩ E_
 replace E := E_ _ rfl; clear E_
 obtain ⟨H_, hc17⟩ := hb13 _ _ HR16 rfl
 replace H := H_; clear H_; try dsimp only [setn, addE, goneL] at H
 refine vn tbok 1 [] [(8, .int .i64 r9)] [] E (by kernel_rfl) (by kernel_rfl) trivial ?_
 clear E; intro a E
 refine wpList_nil ?_
 refine th_n ?_
 refine wp_seq ?_
 refine wp_region_lit ?_
 refine vn tbok 2 [] [(20, .bool ((r9 : Int) != 0))] [] E (by kernel_rfl) (by kernel_rfl) trivial ?_
 clear E; intro a E
 refine wpList_nil ?_
 refine th_n ?_
 refine E.cases (t := 20) rfl (fun hb_ E_ => ?_) (fun hb_ E_ => ?_)
 ·
  replace E := E_; clear E_
  have h18 : ¬ ((r9 : Int) = 0) := bne_iff_ne.1 hb_
  clear hb_; replace hP := ite_f h18 hP
  refine c_true E rfl ?_
  refine wp_seq ?_
  refine wp_region_lit ?_
  refine vn tbok 3 [] [(4, .int .i64 0), (5, .int .i64 r9)] [] E (by kernel_rfl) (by kernel_rfl) trivial ?_
  clear E; intro a E
  refine wpList_nil ?_
  refine th_n ?_
  refine wp_ret ?_
  refine bl_ret ?_
  refine th_ret ?_
  refine th_ret ?_
  refine bl_ret ?_
  refine th_ret ?_
  obtain rfl := Option.some.inj hP
  refine ret2 E rfl rfl rfl ?_
  exact ⟨_, rfl, rfl, H.sel [] rfl⟩
 replace E := E_; clear E_
 have h19 : (r9 : Int) = 0 := bne_eq_false_iff_eq.1 hb_
 clear hb_; replace hP := ite_t h19 hP
 refine c_false E rfl ?_
 refine wp_skip ?_
 refine bl_n ?_
 refine th_n ?_
 refine wp_region_lit ?_
 refine vn tbok 2 [.int .i64 1] [(14, .int .i64 1)] [IntKind.i64.wrap (0 + 1) = 1] E (by kernel_rfl) (by kernel_rfl) ((show _ = _ from by decide)) ?_
 clear E; intro a E
 refine wpList_nil ?_
 refine th_n ?_
 refine unr (m := 1) ?_
 refine wp_seq ?_
 refine wp_region_lit ?_
 refine vn tbok 1 [] [(15, .bool true)] [] E (by kernel_rfl) (by kernel_rfl) trivial ?_
 clear E; intro a E
 refine wpList_nil ?_
 refine th_n ?_
 refine wp_seq ?_
 refine c_true E rfl ?_
 refine wp_skip ?_
 refine th_n ?_
 refine wp_seq ?_
 refine wp_block ?_
 refine wp_seq ?_
 refine wp_region_lit ?_
 refine e_indexA (v := .slice A5 (List.length b) c6) E rfl rfl tbok rfl rfl rfl rfl rfl rfl ⟨by decide, by decide⟩ rfl rfl ?_
 clear E; intro a E
 refine vn tbok 1 [] [(7, .slice A5 (List.length b) c6)] [] E (by kernel_rfl) (by kernel_rfl) trivial ?_
 clear E; intro a E
 refine wpList_nil ?_
 refine th_n ?_
 refine wp_seq ?_
 refine wp_region_lit ?_
 refine vn tbok 1 [] [(17, .slice A5 (List.length b) c6)] [] E (by kernel_rfl) (by kernel_rfl) trivial ?_
 clear E; intro a E
 obtain ⟨r20, h21, hP⟩ := bind_inv hP
 obtain ⟨Fa22, Hc23, hb24⟩ := H.call [] [(1, false)] rfl rfl trivial
 refine e_call E rfl rfl Try.func26 rfl rfl rfl (letter_Trace_calls A5 c6 8 b hk7 Hc23 h21) ?_
 rintro v25 w26 a ⟨rfl, HR27⟩ E_
 replace E := E_ _ rfl; clear E_
 obtain ⟨H_, hc28⟩ := hb24 _ _ HR27 rfl
 replace H := H_; clear H_; try dsimp only [setn, addE, goneL] at H
 refine vn tbok 1 [] [(8, .int .i64 r20)] [] E (by kernel_rfl) (by kernel_rfl) trivial ?_
 clear E; intro a E
 refine wpList_nil ?_
 refine th_n ?_
 refine wp_seq ?_
 refine wp_region_lit ?_
 refine vn tbok 2 [] [(20, .bool ((r20 : Int) != 0))] [] E (by kernel_rfl) (by kernel_rfl) trivial ?_
 clear E; intro a E
 refine wpList_nil ?_
 refine th_n ?_
 refine E.cases (t := 20) rfl (fun hb_ E_ => ?_) (fun hb_ E_ => ?_)
 ·
  replace E := E_; clear E_
  have h29 : ¬ ((r20 : Int) = 0) := bne_iff_ne.1 hb_
  clear hb_; replace hP := ite_f h29 hP
  refine c_true E rfl ?_
  refine wp_seq ?_
  refine wp_region_lit ?_
  refine vn tbok 3 [] [(4, .int .i64 0), (5, .int .i64 r20)] [] E (by kernel_rfl) (by kernel_rfl) trivial ?_
  clear E; intro a E
  refine wpList_nil ?_
  refine th_n ?_
  refine wp_ret ?_
  refine bl_ret ?_
  refine th_ret ?_
  refine th_ret ?_
  refine bl_ret ?_
  refine th_ret ?_
  obtain rfl := Option.some.inj hP
  refine ret2 E rfl rfl rfl ?_
  exact ⟨_, rfl, rfl, H.sel [] rfl⟩
 replace E := E_; clear E_
 have h30 : (r20 : Int) = 0 := bne_eq_false_iff_eq.1 hb_
 clear hb_; replace hP := ite_t h30 hP
 refine c_false E rfl ?_
 refine wp_skip ?_
 refine bl_n ?_
 refine th_n ?_
 refine wp_region_lit ?_
 refine vn tbok 2 [.int .i64 2] [(14, .int .i64 2)] [IntKind.i64.wrap (1 + 1) = 2] E (by kernel_rfl) (by kernel_rfl) ((show _ = _ from by decide)) ?_
 clear E; intro a E
 refine wpList_nil ?_
 refine th_n ?_
 refine unr (m := 0) ?_
 refine wp_seq ?_
 refine wp_region_lit ?_
 refine vn tbok 1 [] [(15, .bool false)] [] E (by kernel_rfl) (by kernel_rfl) trivial ?_
 clear E; intro a E
 refine wpList_nil ?_
 refine th_n ?_
 refine wp_seq ?_
 refine c_false E rfl ?_
 refine wp_exit ?_
 refine th_exit ?_
 refine th_exit ?_
 refine bl_hit ?_
 refine th_n ?_
 refine wp_seq ?_
 refine wp_seq ?_
 refine wp_region_lit ?_
 refine vn tbok 5 [] [(27, .bool (((((List.length aa) : Nat) : Int) : Int) != (((List.length b) : Nat) : Int)))] [] E (by kernel_rfl) (by kernel_rfl) trivial ?_
 clear E; intro a E
 refine wpList_nil ?_
 refine th_n ?_
 refine E.cases (t := 27) rfl (fun hb_ E_ => ?_) (fun hb_ E_ => ?_)
 ·
  replace E := E_; clear E_
  have h31 : ¬ (((((List.length aa) : Nat) : Int) : Int) = (((List.length b) : Nat) : Int)) := bne_iff_ne.1 hb_
  clear hb_; replace hP := ite_f h31 hP
  refine c_true E rfl ?_
  refine wp_seq ?_
  refine wp_region_lit ?_
  refine vn tbok 2 [] [(4, .int .i64 0), (5, .int .i64 2)] [] E (by kernel_rfl) (by kernel_rfl) trivial ?_
  clear E; intro a E
  refine wpList_nil ?_
  refine th_n ?_
  refine wp_ret ?_
  refine th_ret ?_
  obtain rfl := Option.some.inj hP
  refine ret2 E rfl rfl rfl ?_
  exact ⟨_, rfl, rfl, H.sel [] rfl⟩
 replace E := E_; clear E_
 have h32 : ((((List.length aa) : Nat) : Int) : Int) = (((List.length b) : Nat) : Int) := bne_eq_false_iff_eq.1 hb_
 clear hb_; replace hP := ite_t h32 hP
 refine c_false E rfl ?_
 refine wp_skip ?_
 refine th_n ?_
 refine wp_seq ?_
 refine wp_region_lit ?_
 refine vn tbok 1 [] [(9, .int .i64 0)] [] E (by kernel_rfl) (by kernel_rfl) trivial ?_
 clear E; intro a E
 refine wpList_nil ?_
 refine th_n ?_
 refine wp_seq ?_
 refine wp_seq ?_
 refine wp_region_lit ?_
 refine vn tbok 3 [] [(29, .int .i64 (((List.length aa) : Nat) : Int)), (30, .int .i64 0)] [] E (by kernel_rfl) (by kernel_rfl) trivial ?_
 clear E; intro a E
 refine wpList_nil ?_
 refine th_n ?_
 refine wp_block ?_
 obtain ⟨x96, hL97, hK98⟩ := bind_inv hP
 clear hP
 refine loop_cut (fun i_ a w_ => (i_ = 2 ∧ ∃ (x101 : Int), Fr a 46 [(9, .int .i64 x101)] ∧ Hp S Fa w0 w_ [] ∧ x96 = x101)) ?_ ?_
 ·
  refine loopV (fun m100 a w99 => ∃ (n62 : Int) (x63 : Int), Fr a 46 [(0, .slice A1 (List.length aa) c2), (1, .slice A5 (List.length b) c6), (9, .int .i64 n62), (29, .int .i64 (((List.length aa) : Nat) : Int)), (30, .int .i64 x63)] ∧ Hp S Fa w0 w99 [.ro false (cInt .u8) A1 aa, .ro false (cInt .u8) A5 b] ∧ near_Far_l0 N aa b m100 n62 x63 = some x96) N ?_ ?_
  ·
   exact ⟨0, 0, E.pick _ ⟨rfl, rfl, rfl, rfl, rfl, trivial⟩, H.sel [0, 1] rfl, hL97⟩
  clear E H hL97; intro m100 a w99 hI_
  obtain ⟨n62, x63, E, H, hP⟩ := hI_
  obtain ⟨m95, rfl⟩ : ∃ q_, m100 = q_ + 1 := by cases m100 with | zero => rw [near_Far_l0] at hP; cases hP | succ q_ => exact ⟨q_, rfl⟩
  rw [near_Far_l0] at hP
  refine wp_seq ?_
  refine wp_region_lit ?_
  refine vn tbok 1 [] [(31, .bool (decide (x63 < (((List.length aa) : Nat) : Int))))] [] E (by kernel_rfl) (by kernel_rfl) trivial ?_
  clear E; intro a E
  refine wpList_nil ?_
  refine th_n ?_
  refine wp_seq ?_
  refine E.cases (t := 31) rfl (fun hb_ E_ => ?_) (fun hb_ E_ => ?_)
  ·
   replace E := E_; clear E_
   have h102 : x63 < (((List.length aa) : Nat) : Int) := of_decide_eq_true hb_
   clear hb_; replace hP := ite_t h102 hP
   refine c_true E rfl ?_
   refine wp_skip ?_
   refine th_n ?_
   refine wp_seq ?_
   refine wp_block ?_
   refine wp_seq ?_
   refine wp_region_lit ?_
   refine vn tbok 2 [] [(10, .int .i64 x63)] [] E (by kernel_rfl) (by kernel_rfl) trivial ?_
   clear E; intro a E
   refine wpList_nil ?_
   refine th_n ?_
   obtain ⟨g103, hP⟩ := ask_inv hP
   obtain ⟨b104, o105, e_b104⟩ := (H.rd 0 rds_ro).addr (idx_pos g103)
   subst e_b104
   obtain ⟨g106, hP⟩ := ask_inv hP
   obtain ⟨b107, o108, e_b107⟩ := (H.rd 1 rds_ro).addr (idx_pos g106)
   subst e_b107
   obtain ⟨r109, h110, hP⟩ := bind_inv hP
   obtain ⟨g118, hP⟩ := ask_inv hP
   have HR122 := H
   refine dr_start (S := fun w_ => Chg (atL []) w99 w_) (by kernel_rfl) ?_
   intro w119 hc120
   have HS121 : Chg (atL []) w99 w119 := hc120.mono (fun _ _ h_ => h_.elim)
   replace H := H.ext hc120
   refine dn tbok (by kernel_rfl) [0, 1, 2, 3, 4, 5, 6, 7, 8] [.int .u8 (List.getD aa (Int.toNat x63) 0), .int .u8 (List.getD b (Int.toNat x63) 0)] [(33, .int .i64 n62), (37, .int .u8 (List.getD aa (Int.toNat x63) 0)), (41, .int .u8 (List.getD b (Int.toNat x63) 0))] (fun w_ => [0 ≤ x63 ∧ x63 < (((List.length aa) : Nat) : Int), World.cell? w_ ⟨b104, o105 + (Int.toNat x63) * 1, none⟩ = some (.int .u8 (List.getD aa (Int.toNat x63) 0)), 0 ≤ x63 ∧ x63 < (((List.length b) : Nat) : Int), World.cell? w_ ⟨b107, o108 + (Int.toNat x63) * 1, none⟩ = some (.int .u8 (List.getD b (Int.toNat x63) 0))]) 3 E (fun _ _ => by kernel_rfl) (by kernel_rfl) (fun w_ hS_ => ⟨g103, Rds.at1 (HR122.rdk [] hS_ 0 rds_ro rfl) 0 g103, g106, Rds.at1 (HR122.rdk [] hS_ 1 rds_ro rfl) 0 g106⟩) (by kernel_rfl) HS121 ?_
   clear E; intro a E
   refine wpAnyH_all (rs := [9]) (by kernel_rfl) (by simp) ?_
   refine all1 ?_
   refine wpOp_of_list rfl ?_
   obtain ⟨Fa123, Hc124, hb125⟩ := H.call [] [] rfl rfl trivial
   refine e_call E rfl rfl Try.func27 rfl rfl rfl (near_unlike_calls  (List.getD aa (Int.toNat x63) 0) (List.getD b (Int.toNat x63) 0)  Hc124 h110) ?_
   rintro v126 w127 a ⟨rfl, HR128⟩ E_
   replace E := E_ _ rfl; clear E_
   obtain ⟨H_, hc129⟩ := hb125 _ _ HR128 rfl
   replace HS121 := HS121.ext (callS_ext hc129)
   replace H := H_; clear H_; try dsimp only [setn, addE, goneL] at H
   refine wpList_nil ?_
   refine th_n ⟨HS121, ?_⟩
   refine dn tbok (by kernel_rfl) [10, 11] [.int .i64 (n62 + r109)] [(9, .int .i64 (n62 + r109))] (fun w_ => [IntKind.i64.wrap (n62 + r109) = n62 + r109]) 0 E (fun _ _ => by kernel_rfl) (by kernel_rfl) (fun w_ hS_ => (wrap_in g118)) (by kernel_rfl) HS121 ?_
   clear E; intro a E
   refine dr_done (by kernel_rfl) ?_
   clear HS121 HR122
   refine bl_n ?_
   refine th_n ?_
   refine wp_region_lit ?_
   obtain ⟨g130, hP⟩ := ask_inv hP
   refine vn tbok 2 [.int .i64 (x63 + 1)] [(30, .int .i64 (x63 + 1))] [IntKind.i64.wrap (x63 + 1) = x63 + 1] E (by kernel_rfl) (by kernel_rfl) (wrap_in g130) ?_
   clear E; intro a E
   refine wpList_nil ?_
   exact th_n ⟨m95, Nat.lt_succ_self _, n62 + r109, x63 + 1, E.pick _ ⟨rfl, rfl, rfl, rfl, rfl, trivial⟩, H.sel [0, 1] rfl, hP⟩
  replace E := E_; clear E_
  have h131 : ¬ (x63 < (((List.length aa) : Nat) : Int)) := of_decide_eq_false hb_
  clear hb_; replace hP := ite_f h131 hP
  refine c_false E rfl ?_
  refine wp_exit ?_
  refine th_exit ?_
  have hx_ := Option.some.inj hP
  refine th_exit (.inl ⟨2, rfl, ?_⟩)
  exact ⟨rfl, n62, E.pick _ ⟨rfl, trivial⟩, H.sel [] rfl, hx_.symm⟩
 clear E H hL97; intro i_ a w99 hM_
 obtain ⟨rfl, x101, E, H, hx_⟩ := hM_
 subst hx_; have hP := hK98; clear hK98
 refine bl_hit ?_
 refine th_n ?_
 refine wp_seq ?_
 refine wp_region_lit ?_
 refine vn tbok 3 [] [(4, .int .i64 x96), (5, .int .i64 0)] [] E (by kernel_rfl) (by kernel_rfl) trivial ?_
 clear E; intro a E
 refine wpList_nil ?_
 refine th_n ?_
 refine wp_ret ?_
 obtain rfl := Option.some.inj hP
 refine ret2 E rfl rfl rfl ?_
 exact ⟨_, rfl, rfl, H.sel [] rfl⟩

/-! rejoinder/rejoinderkit.SameLetters -/
def kit_SameLetters_l0 (N : Nat) (aa : List Int) (b : List Int) : Nat → Int → Option (Unit ⊕ Bool)
  | 0, _ => none
  | m41 + 1, i25 =>
    if i25 < (((List.length aa) : Nat) : Int) then
      ask (idx i25 (List.length aa)) <|
      ask (idx i25 (List.length b)) <|
      if ((List.getD aa (Int.toNat i25) 0) : Int) = (List.getD b (Int.toNat i25) 0) then
        ask (in64 (i25 + 1)) <|
        kit_SameLetters_l0 N aa b m41 (i25 + 1)
      else
        some (Sum.inr false)
    else
      some (Sum.inl ())
def kit_SameLetters (N : Nat) (aa : List Int) (b : List Int) : Option Bool :=
  if ((((List.length aa) : Nat) : Int) : Int) = (((List.length b) : Nat) : Int) then
    Option.bind (kit_SameLetters_l0 N aa b N 0) fun x42 =>
    Sum.elim (fun x47 =>
      some true)
     (fun x63 =>
      some x63) x42
  else
    some false
set_option maxRecDepth 100000 in
set_option maxHeartbeats 4000000 in
theorem kit_SameLetters_calls {N : Nat} {S Fa : Nat → Prop} {w0 : World} {r : Bool} (A1 : Option Addr) (c2 : Nat) (A5 : Option Addr) (c6 : Nat) (aa : List Int) (b : List Int) (hk3 : List.length aa ≤ c2) (hk7 : List.length b ≤ c6) (H : Hp S Fa w0 w0 [.ro false (cInt .u8) A1 aa, .ro false (cInt .u8) A5 b]) (hP : kit_SameLetters N aa b = some r) :
    Calls Try.prog 16 #[.slice A1 (List.length aa) c2, .slice A5 (List.length b) c6] w0 fun e w' => ∃ v, e = .returned v ∧ v = .bool r ∧ Hp S Fa w0 w' [] := by
 refine enterV (n := 26) Try.func16 rfl rfl rfl ?_
 intro a E
 replace E := E.pick [(0, .slice A1 (List.length aa) c2), (1, .slice A5 (List.length b) c6)] ⟨rfl, rfl, trivial⟩
 rw [kit_SameLetters] at hP
 refine wp_seq ?_
 refine wp_region_lit ?_
 refine vn tbok 1 [] [] [] E (by kernel_rfl) (by kernel_rfl) trivial ?_
 clear E; intro a E
 refine wpList_nil ?_
 refine th_n ?_
 refine wp_seq ?_
 refine wp_seq ?_
 refine wp_region_lit ?_
 refine vn tbok 5 [] [(10, .bool (((((List.length aa) : Nat) : Int) : Int) != (((List.length b) : Nat) : Int)))] [] E (by kernel_rfl) (by kernel_rfl) trivial ?_
 clear E; intro a E
 refine wpList_nil ?_
 refine th_n ?_
 refine E.cases (t := 10) rfl (fun hb_ E_ => ?_) (fun hb_ E_ => ?_)
 ·
  replace E := E_; clear E_
  have h9 : ¬ (((((List.length aa) : Nat) : Int) : Int) = (((List.length b) : Nat) : Int)) := bne_iff_ne.1 hb_
  clear hb_; replace hP := ite_f h9 hP
  refine c_true E rfl ?_
  refine wp_seq ?_
  refine wp_region_lit ?_
  refine vn tbok 1 [] [(4, .bool false)] [] E (by kernel_rfl) (by kernel_rfl) trivial ?_
  clear E; intro a E
  refine wpList_nil ?_
  refine th_n ?_
  refine wp_ret ?_
  refine th_ret ?_
  obtain rfl := Option.some.inj hP
  refine ret1 E rfl rfl ?_
  exact ⟨_, rfl, rfl, H.sel [] rfl⟩
 replace E := E_; clear E_
 have h10 : ((((List.length aa) : Nat) : Int) : Int) = (((List.length b) : Nat) : Int) := bne_eq_false_iff_eq.1 hb_
 clear hb_; replace hP := ite_t h10 hP
 refine c_false E rfl ?_
 refine wp_skip ?_
 refine th_n ?_
 refine wp_seq ?_
 refine wp_seq ?_
 refine wp_region_lit ?_
 refine vn tbok 1 [] [(5, .int .i64 0)] [] E (by kernel_rfl) (by kernel_rfl) trivial ?_
 clear E; intro a E
 refine wpList_nil ?_
 refine th_n ?_
 refine wp_block ?_
 obtain ⟨x42, hL43, hK44⟩ := bind_inv hP
 clear hP
 refine loop_cut (fun i_ a w_ => (i_ = 0 ∧ ∃ (x47 : Unit), Fr a 26 [] ∧ Hp S Fa w0 w_ [] ∧ x42 = Sum.inl x47)) ?_ ?_
 ·
  refine loopV (fun m46 a w45 => ∃ (i25 : Int), Fr a 26 [(0, .slice A1 (List.length aa) c2), (1, .slice A5 (List.length b) c6), (5, .int .i64 i25)] ∧ Hp S Fa w0 w45 [.ro false (cInt .u8) A1 aa, .ro false (cInt .u8) A5 b] ∧ kit_SameLetters_l0 N aa b m46 i25 = some x42) N ?_ ?_
  ·
   exact ⟨0, E.pick _ ⟨rfl, rfl, rfl, trivial⟩, H.sel [0, 1] rfl, hL43⟩
  clear E H hL43; intro m46 a w45 hI_
  obtain ⟨i25, E, H, hP⟩ := hI_
  obtain ⟨m41, rfl⟩ : ∃ q_, m46 = q_ + 1 := by cases m46 with | zero => rw [kit_SameLetters_l0] at hP; cases hP | succ q_ => exact ⟨q_, rfl⟩
  rw [kit_SameLetters_l0] at hP
  refine wp_seq ?_
  refine wp_seq ?_
  refine wp_region_lit ?_
  refine vn tbok 4 [] [(14, .bool (decide (i25 < (((List.length aa) : Nat) : Int))))] [] E (by kernel_rfl) (by kernel_rfl) trivial ?_
  clear E; intro a E
  refine wpList_nil ?_
  refine th_n ?_
  refine E.cases (t := 14) rfl (fun hb_ E_ => ?_) (fun hb_ E_ => ?_)
  ·
   replace E := E_; clear E_
   have h48 : i25 < (((List.length aa) : Nat) : Int) := of_decide_eq_true hb_
   clear hb_; replace hP := ite_t h48 hP
   refine c_true E rfl ?_
   refine wp_skip ?_
   refine th_n ?_
   refine wp_seq ?_
   refine wp_block ?_
   refine wp_seq ?_
   obtain ⟨g49, hP⟩ := ask_inv hP
   obtain ⟨b50, o51, e_b50⟩ := (H.rd 0 rds_ro).addr (idx_pos g49)
   subst e_b50
   obtain ⟨g52, hP⟩ := ask_inv hP
   obtain ⟨b53, o54, e_b53⟩ := (H.rd 1 rds_ro).addr (idx_pos g52)
   subst e_b53
   have HR58 := H
   refine dr_start (S := fun w_ => Chg (atL []) w45 w_) (by kernel_rfl) ?_
   intro w55 hc56
   have HS57 : Chg (atL []) w45 w55 := hc56.mono (fun _ _ h_ => h_.elim)
   replace H := H.ext hc56
   refine dn tbok (by kernel_rfl) [0, 1, 2, 3, 4, 5, 6, 7, 8] [.int .u8 (List.getD aa (Int.toNat i25) 0), .int .u8 (List.getD b (Int.toNat i25) 0)] [(25, .bool (((List.getD aa (Int.toNat i25) 0) : Int) != (List.getD b (Int.toNat i25) 0)))] (fun w_ => [0 ≤ i25 ∧ i25 < (((List.length aa) : Nat) : Int), World.cell? w_ ⟨b50, o51 + (Int.toNat i25) * 1, none⟩ = some (.int .u8 (List.getD aa (Int.toNat i25) 0)), 0 ≤ i25 ∧ i25 < (((List.length b) : Nat) : Int), World.cell? w_ ⟨b53, o54 + (Int.toNat i25) * 1, none⟩ = some (.int .u8 (List.getD b (Int.toNat i25) 0))]) 0 E (fun _ _ => by kernel_rfl) (by kernel_rfl) (fun w_ hS_ => ⟨g49, Rds.at1 (HR58.rdk [] hS_ 0 rds_ro rfl) 0 g49, g52, Rds.at1 (HR58.rdk [] hS_ 1 rds_ro rfl) 0 g52⟩) (by kernel_rfl) HS57 ?_
   clear E; intro a E
   refine dr_done (by kernel_rfl) ?_
   clear HS57 HR58
   refine th_n ?_
   refine E.cases (t := 25) rfl (fun hb_ E_ => ?_) (fun hb_ E_ => ?_)
   ·
    replace E := E_; clear E_
    have h59 : ¬ (((List.getD aa (Int.toNat i25) 0) : Int) = (List.getD b (Int.toNat i25) 0)) := bne_iff_ne.1 hb_
    clear hb_; replace hP := ite_f h59 hP
    refine c_true E rfl ?_
    refine wp_seq ?_
    refine wp_region_lit ?_
    refine vn tbok 1 [] [(4, .bool false)] [] E (by kernel_rfl) (by kernel_rfl) trivial ?_
    clear E; intro a E
    refine wpList_nil ?_
    refine th_n ?_
    refine wp_ret ?_
    refine bl_ret ?_
    refine th_ret ?_
    refine th_ret ?_
    refine .inr ⟨rfl, ?_⟩
    refine bl_ret ?_
    refine th_ret ?_
    have hx_ := Option.some.inj hP; subst hx_
    have hP : some (false) = some r := hK44
    obtain rfl := Option.some.inj hP
    refine ret1 E rfl rfl ?_
    exact ⟨_, rfl, rfl, H.sel [] rfl⟩
   replace E := E_; clear E_
   have h60 : ((List.getD aa (Int.toNat i25) 0) : Int) = (List.getD b (Int.toNat i25) 0) := bne_eq_false_iff_eq.1 hb_
   clear hb_; replace hP := ite_t h60 hP
   refine c_false E rfl ?_
   refine wp_skip ?_
   refine bl_n ?_
   refine th_n ?_
   refine wp_region_lit ?_
   obtain ⟨g61, hP⟩ := ask_inv hP
   refine vn tbok 3 [.int .i64 (i25 + 1)] [(5, .int .i64 (i25 + 1))] [IntKind.i64.wrap (i25 + 1) = i25 + 1] E (by kernel_rfl) (by kernel_rfl) (wrap_in g61) ?_
   clear E; intro a E
   refine wpList_nil ?_
   exact th_n ⟨m41, Nat.lt_succ_self _, i25 + 1, E.pick _ ⟨rfl, rfl, rfl, trivial⟩, H.sel [0, 1] rfl, hP⟩
  replace E := E_; clear E_
  have h62 : ¬ (i25 < (((List.length aa) : Nat) : Int)) := of_decide_eq_false hb_
  clear hb_; replace hP := ite_f h62 hP
  refine c_false E rfl ?_
  refine wp_exit ?_
  refine th_exit ?_
  have hx_ := Option.some.inj hP
  refine th_exit (.inl ⟨0, rfl, ?_⟩)
  exact ⟨rfl, (), E.pick _ trivial, H.sel [] rfl, hx_.symm⟩
 clear E H hL43; intro i_ a w45 hM_
 obtain ⟨rfl, x47, E, H, hx_⟩ := hM_
 subst hx_; have hP := elim_l hK44
 clear hK44
 refine bl_hit ?_
 refine th_n ?_
 refine wp_seq ?_
 refine wp_region_lit ?_
 refine vn tbok 1 [] [(4, .bool true)] [] E (by kernel_rfl) (by kernel_rfl) trivial ?_
 clear E; intro a E
 refine wpList_nil ?_
 refine th_n ?_
 refine wp_ret ?_
 obtain rfl := Option.some.inj hP
 refine ret1 E rfl rfl ?_
 exact ⟨_, rfl, rfl, H.sel [] rfl⟩

/-! rejoinder/guard.good -/
def guard_good (N : Nat) (aProps : Int) (aAccept : List Bool) (aGuard : List Int) (aNodes : List Nd) (ref : Int) (below : Int) (above : Int) : Option Bool :=
  if ref < 0 then
    ask (in64 (-(((List.length aAccept) : Nat) : Int))) <|
    some (decide ((-(((List.length aAccept) : Nat) : Int)) ≤ ref))
  else
    if ref < below then
      ask (idx ref (List.length aNodes)) <|
      some (decide (above < ((List.getD aNodes (Int.toNat ref) (default : Nd)).P)))
    else
      some false
set_option maxRecDepth 100000 in
set_option maxHeartbeats 4000000 in
theorem guard_good_calls {N : Nat} {S Fa : Nat → Prop} {w0 : World} {r : Bool} (A1 : Option Addr) (c2 : Nat) (A5 : Option Addr) (c6 : Nat) (A9 : Option Addr) (c10 : Nat) (aProps : Int) (aAccept : List Bool) (aGuard : List Int) (aNodes : List Nd) (ref : Int) (below : Int) (above : Int) (hk3 : List.length aAccept ≤ c2) (hk7 : List.length aGuard ≤ c6) (hk11 : List.length aNodes ≤ c10) (H : Hp S Fa w0 w0 [.ro false cBool A1 aAccept, .ro false (cInt .i64) A5 aGuard, .ro false cNode A9 aNodes]) (hP : guard_good N aProps aAccept aGuard aNodes ref below above = some r) :
    Calls Try.prog 57 #[.agg #[.int .i64 aProps, .slice A1 (List.length aAccept) c2, .slice A5 (List.length aGuard) c6, .slice A9 (List.length aNodes) c10], .int .i64 ref, .int .i64 below, .int .i64 above] w0 fun e w' => ∃ v, e = .returned v ∧ v = .bool r ∧ Hp S Fa w0 w' [] := by
 refine enterV (n := 30) Try.func57 rfl rfl rfl ?_
 intro a E
 replace E := E.pick [(0, .agg #[.int .i64 aProps, .slice A1 (List.length aAccept) c2, .slice A5 (List.length aGuard) c6, .slice A9 (List.length aNodes) c10]), (1, .int .i64 ref), (2, .int .i64 below), (3, .int .i64 above)] ⟨rfl, rfl, rfl, rfl, trivial⟩
 rw [guard_good] at hP
 refine wp_seq ?_
 refine wp_region_lit ?_
 refine h_box H E rfl rfl rfl ?_
 intro w14 g13 a hc15 hg17 H_ E_
 replace E := E_ _ rfl; clear E_
 replace H := H_; clear H_; try dsimp only [setn, addE, goneL] at H
 refine vn tbok 1 [] [] [] E (by kernel_rfl) (by kernel_rfl) trivial ?_
 clear E; intro a E
 refine wpList_nil ?_
 refine th_n ?_
 refine wp_seq ?_
 refine wp_seq ?_
 refine wp_region_lit ?_
 refine vn tbok 2 [] [(10, .bool (decide (ref < 0)))] [] E (by kernel_rfl) (by kernel_rfl) trivial ?_
 clear E; intro a E
 refine wpList_nil ?_
 refine th_n ?_
 refine E.cases (t := 10) rfl (fun hb_ E_ => ?_) (fun hb_ E_ => ?_)
 ·
  replace E := E_; clear E_
  have h18 : ref < 0 := of_decide_eq_true hb_
  clear hb_; replace hP := ite_t h18 hP
  refine c_true E rfl ?_
  refine wp_seq ?_
  refine wp_region_lit ?_
  obtain ⟨g19, hP⟩ := ask_inv hP
  refine vn tbok 7 [.slice A1 (List.length aAccept) c2, .int .i64 (-(((List.length aAccept) : Nat) : Int))] [(8, .bool (decide ((-(((List.length aAccept) : Nat) : Int)) ≤ ref)))] [World.cell? w14 ⟨g13, 1, none⟩ = some (.slice A1 (List.length aAccept) c2), IntKind.i64.wrap (0 - (((List.length aAccept) : Nat) : Int)) = -(((List.length aAccept) : Nat) : Int)] E (by kernel_rfl) (by kernel_rfl) ⟨(H.box 3 rfl).cell (j := 1) rfl, neg_in g19⟩ ?_
  clear E; intro a E
  refine wpList_nil ?_
  refine th_n ?_
  refine wp_ret ?_
  refine th_ret ?_
  obtain rfl := Option.some.inj hP
  refine ret1 E rfl rfl ?_
  exact ⟨_, rfl, rfl, H.sel [] rfl⟩
 replace E := E_; clear E_
 have h20 : ¬ (ref < 0) := of_decide_eq_false hb_
 clear hb_; replace hP := ite_f h20 hP
 refine c_false E rfl ?_
 refine wp_skip ?_
 refine th_n ?_
 refine wp_seq ?_
 refine wp_region_lit ?_
 refine vn tbok 4 [] [(20, .bool (decide (ref < below)))] [] E (by kernel_rfl) (by kernel_rfl) trivial ?_
 clear E; intro a E
 refine E.cases (t := 20) rfl (fun hb_ E_ => ?_) (fun hb_ E_ => ?_)
 ·
  replace E := E_; clear E_
  have h21 : ref < below := of_decide_eq_true hb_
  clear hb_; replace hP := ite_t h21 hP
  obtain ⟨g22, hP⟩ := ask_inv hP
  obtain ⟨b23, o24, e_b23⟩ := (H.rd 2 rds_ro).addr (idx_pos g22)
  subst e_b23
  refine vn tbok 10 [.slice (some ⟨b23, o24, none⟩) (List.length aNodes) c10, .int .i64 ((List.getD aNodes (Int.toNat ref) (default : Nd)).P)] [(8, .bool (decide (above < ((List.getD aNodes (Int.toNat ref) (default : Nd)).P))))] [World.cell? w14 ⟨g13, 3, none⟩ = some (.slice (some ⟨b23, o24, none⟩) (List.length aNodes) c10), 0 ≤ ref ∧ ref < (((List.length aNodes) : Nat) : Int), World.cell? w14 ⟨b23, o24 + (Int.toNat ref) * 3, none⟩ = some (.int .i64 ((List.getD aNodes (Int.toNat ref) (default : Nd)).P))] E (by kernel_rfl) (by kernel_rfl) ⟨(H.box 3 rfl).cell (j := 3) rfl, g22, (Rds.atP (H.rd 2 rds_ro) (default : Nd) g22).1⟩ ?_
  clear E; intro a E
  refine wpList_nil ?_
  refine th_n ?_
  refine wp_ret ?_
  obtain rfl := Option.some.inj hP
  refine ret1 E rfl rfl ?_
  exact ⟨_, rfl, rfl, H.sel [] rfl⟩
 replace E := E_; clear E_
 have h25 : ¬ (ref < below) := of_decide_eq_false hb_
 clear hb_; replace hP := ite_f h25 hP
 refine vn tbok 10 [] [(8, .bool false)] [] E (by kernel_rfl) (by kernel_rfl) trivial ?_
 clear E; intro a E
 refine wpList_nil ?_
 refine th_n ?_
 refine wp_ret ?_
 obtain rfl := Option.some.inj hP
 refine ret1 E rfl rfl ?_
 exact ⟨_, rfl, rfl, H.sel [] rfl⟩

/-! rejoinder/guard.Check -/
def guard_Check_l0 (N : Nat) (aProps : Int) (aAccept : List Bool) (aGuard : List Int) (aNodes : List Nd) : Nat → (List (Nd × Bool)) → Int → Option (Unit ⊕ Int)
  | 0, _, _ => none
  | m130 + 1, met81, x82 =>
    if x82 < (((List.length aNodes) : Nat) : Int) then
      ask (idx x82 (List.length aNodes)) <|
      if ((List.getD aNodes (Int.toNat x82) (default : Nd)).P) < 0 then
        some (Sum.inr 12)
      else
        if aProps ≤ ((List.getD aNodes (Int.toNat x82) (default : Nd)).P) then
          some (Sum.inr 12)
        else
          if ((List.getD aNodes (Int.toNat x82) (default : Nd)).Lo : Int) = (List.getD aNodes (Int.toNat x82) (default : Nd)).Hi then
            some (Sum.inr 12)
          else
            ask (ndOk (⟨(List.getD aNodes (Int.toNat x82) (default : Nd)).P, (List.getD aNodes (Int.toNat x82) (default : Nd)).Lo, (List.getD aNodes (Int.toNat x82) (default : Nd)).Hi⟩ : Nd)) <|
            if (Option.getD (mget met81 (⟨(List.getD aNodes (Int.toNat x82) (default : Nd)).P, (List.getD aNodes (Int.toNat x82) (default : Nd)).Lo, (List.getD aNodes (Int.toNat x82) (default : Nd)).Hi⟩ : Nd)) false) = true then
              some (Sum.inr 12)
            else
              Option.bind (guard_good N aProps aAccept aGuard aNodes ((List.getD aNodes (Int.toNat x82) (default : Nd)).Lo) x82 ((List.getD aNodes (Int.toNat x82) (default : Nd)).P)) fun r157 =>
              if r157 = true then
                Option.bind (guard_good N aProps aAccept aGuard aNodes ((List.getD aNodes (Int.toNat x82) (default : Nd)).Hi) x82 ((List.getD aNodes (Int.toNat x82) (default : Nd)).P)) fun r168 =>
                if r168 = true then
                  ask (mget met81 (⟨(List.getD aNodes (Int.toNat x82) (default : Nd)).P, (List.getD aNodes (Int.toNat x82) (default : Nd)).Lo, (List.getD aNodes (Int.toNat x82) (default : Nd)).Hi⟩ : Nd) = none) <|
                  ask (in64 (x82 + 1)) <|
                  guard_Check_l0 N aProps aAccept aGuard aNodes m130 (met81 ++ [((⟨(List.getD aNodes (Int.toNat x82) (default : Nd)).P, (List.getD aNodes (Int.toNat x82) (default : Nd)).Lo, (List.getD aNodes (Int.toNat x82) (default : Nd)).Hi⟩ : Nd), true)]) (x82 + 1)
                else
                  some (Sum.inr 12)
              else
                some (Sum.inr 12)
    else
      some (Sum.inl ())
def guard_Check_l1 (N : Nat) (aProps : Int) (aAccept : List Bool) (aGuard : List Int) (aNodes : List Nd) : Nat → Int → Option (Unit ⊕ Int)
  | 0, _ => none
  | m219 + 1, x201 =>
    if x201 < (((List.length aGuard) : Nat) : Int) then
      ask (idx x201 (List.length aGuard)) <|
      Option.bind (guard_good N aProps aAccept aGuard aNodes (List.getD aGuard (Int.toNat x201) 0) (((List.length aNodes) : Nat) : Int) (-1)) fun r230 =>
      if r230 = true then
        ask (in64 (x201 + 1)) <|
        guard_Check_l1 N aProps aAccept aGuard aNodes m219 (x201 + 1)
      else
        some (Sum.inr 12)
    else
      some (Sum.inl ())
def guard_Check (N : Nat) (aProps : Int) (aAccept : List Bool) (aGuard : List Int) (aNodes : List Nd) : Option Int :=
  if aProps < 0 then
    some 12
  else
    if 8 < aProps then
      some 12
    else
      if (((List.length aAccept) : Nat) : Int) < 1 then
        some 12
      else
        if 256 < (((List.length aAccept) : Nat) : Int) then
          some 12
        else
          if ((((List.length aGuard) : Nat) : Int) : Int) = (((List.length aAccept) : Nat) : Int) then
            if 4096 < (((List.length aNodes) : Nat) : Int) then
              some 12
            else
              Option.bind (guard_Check_l0 N aProps aAccept aGuard aNodes N ([] : List (Nd × Bool)) 0) fun x131 =>
              Sum.elim (fun x136 =>
                Option.bind (guard_Check_l1 N aProps aAccept aGuard aNodes N 0) fun x220 =>
                Sum.elim (fun x225 =>
                  some 0)
                 (fun x243 =>
                  some x243) x220)
               (fun x184 =>
                some x184) x131
          else
            some 12
set_option maxRecDepth 100000 in
set_option maxHeartbeats 4000000 in
theorem guard_Check_calls {N : Nat} {S Fa : Nat → Prop} {w0 : World} {r : Int} (A1 : Option Addr) (c2 : Nat) (A5 : Option Addr) (c6 : Nat) (A9 : Option Addr) (c10 : Nat) (aProps : Int) (aAccept : List Bool) (aGuard : List Int) (aNodes : List Nd) (hk3 : List.length aAccept ≤ c2) (hk7 : List.length aGuard ≤ c6) (hk11 : List.length aNodes ≤ c10) (H : Hp S Fa w0 w0 [.ro false cBool A1 aAccept, .ro false (cInt .i64) A5 aGuard, .ro false cNode A9 aNodes]) (hP : guard_Check N aProps aAccept aGuard aNodes = some r) :
    Calls Try.prog 49 #[.agg #[.int .i64 aProps, .slice A1 (List.length aAccept) c2, .slice A5 (List.length aGuard) c6, .slice A9 (List.length aNodes) c10]] w0 fun e w' => ∃ v, e = .returned v ∧ v = .int .i64 r ∧ Hp S Fa w0 w' [] := by
 refine enterV (n := 110) Try.func49 rfl rfl rfl ?_
 intro a E
 replace E := E.pick [(0, .agg #[.int .i64 aProps, .slice A1 (List.length aAccept) c2, .slice A5 (List.length aGuard) c6, .slice A9 (List.length aNodes) c10])] ⟨rfl, trivial⟩
 rw [guard_Check] at hP
 refine wp_seq ?_
 refine wp_region_lit ?_
 refine h_box H E rfl rfl rfl ?_
 intro w14 g13 a hc15 hg17 H_ E_
 replace E := E_ _ rfl; clear E_
 replace H := H_; clear H_; try dsimp only [setn, addE, goneL] at H
 refine vn tbok 1 [] [] [] E (by kernel_rfl) (by kernel_rfl) trivial ?_
 clear E; intro a E
 refine wpList_nil ?_
 refine th_n ?_
 refine wp_seq ?_
 refine wp_region_lit ?_
 refine vn tbok 4 [.slice A1 (List.length aAccept) c2] [(3, .int .i64 (((List.length aAccept) : Nat) : Int))] [World.cell? w14 ⟨g13, 1, none⟩ = some (.slice A1 (List.length aAccept) c2)] E (by kernel_rfl) (by kernel_rfl) ((H.box 3 rfl).cell (j := 1) rfl) ?_
 clear E; intro a E
 refine wpList_nil ?_
 refine th_n ?_
 refine wp_seq ?_
 refine wp_seq ?_
 refine wp_region_lit ?_
 refine vn tbok 4 [.int .i64 aProps] [(15, .bool (decide (aProps < 0)))] [World.cell? w14 ⟨g13, 0, none⟩ = some (.int .i64 aProps)] E (by kernel_rfl) (by kernel_rfl) ((H.box 3 rfl).cell (j := 0) rfl) ?_
 clear E; intro a E
 refine E.cases (t := 15) rfl (fun hb_ E_ => ?_) (fun hb_ E_ => ?_)
 ·
  replace E := E_; clear E_
  have h18 : aProps < 0 := of_decide_eq_true hb_
  clear hb_; replace hP := ite_t h18 hP
  refine vn tbok 25 [] [(40, .bool true)] [] E (by kernel_rfl) (by kernel_rfl) trivial ?_
  clear E; intro a E
  refine wpList_nil ?_
  refine th_n ?_
  refine c_true E rfl ?_
  refine wp_seq ?_
  refine wp_region_lit ?_
  refine vn tbok 1 [] [(2, .int .i64 12)] [] E (by kernel_rfl) (by kernel_rfl) trivial ?_
  clear E; intro a E
  refine wpList_nil ?_
  refine th_n ?_
  refine wp_ret ?_
  refine th_ret ?_
  obtain rfl := Option.some.inj hP
  refine ret1 E rfl rfl ?_
  exact ⟨_, rfl, rfl, H.sel [] rfl⟩
 replace E := E_; clear E_
 have h19 : ¬ (aProps < 0) := of_decide_eq_false hb_
 clear hb_; replace hP := ite_f h19 hP
 refine vn tbok 5 [.int .i64 aProps] [(20, .bool (decide (8 < aProps)))] [World.cell? w14 ⟨g13, 0, none⟩ = some (.int .i64 aProps)] E (by kernel_rfl) (by kernel_rfl) ((H.box 3 rfl).cell (j := 0) rfl) ?_
 clear E; intro a E
 refine E.cases (t := 20) rfl (fun hb_ E_ => ?_) (fun hb_ E_ => ?_)
 ·
  replace E := E_; clear E_
  have h20 : 8 < aProps := of_decide_eq_true hb_
  clear hb_; replace hP := ite_t h20 hP
  refine vn tbok 20 [] [(40, .bool true)] [] E (by kernel_rfl) (by kernel_rfl) trivial ?_
  clear E; intro a E
  refine wpList_nil ?_
  refine th_n ?_
  refine c_true E rfl ?_
  refine wp_seq ?_
  refine wp_region_lit ?_
  refine vn tbok 1 [] [(2, .int .i64 12)] [] E (by kernel_rfl) (by kernel_rfl) trivial ?_
  clear E; intro a E
  refine wpList_nil ?_
  refine th_n ?_
  refine wp_ret ?_
  refine th_ret ?_
  obtain rfl := Option.some.inj hP
  refine ret1 E rfl rfl ?_
  exact ⟨_, rfl, rfl, H.sel [] rfl⟩
 replace E := E_; clear E_
 have h21 : ¬ (8 < aProps) := of_decide_eq_false hb_
 clear hb_; replace hP := ite_f h21 hP
 refine vn tbok 4 [] [(24, .bool (decide ((((List.length aAccept) : Nat) : Int) < 1)))] [] E (by kernel_rfl) (by kernel_rfl) trivial ?_
 clear E; intro a E
 refine E.cases (t := 24) rfl (fun hb_ E_ => ?_) (fun hb_ E_ => ?_)
 ·
  replace E := E_; clear E_
  have h22 : (((List.length aAccept) : Nat) : Int) < 1 := of_decide_eq_true hb_
  clear hb_; replace hP := ite_t h22 hP
  refine vn tbok 16 [] [(40, .bool true)] [] E (by kernel_rfl) (by kernel_rfl) trivial ?_
  clear E; intro a E
  refine wpList_nil ?_
  refine th_n ?_
  refine c_true E rfl ?_
  refine wp_seq ?_
  refine wp_region_lit ?_
  refine vn tbok 1 [] [(2, .int .i64 12)] [] E (by kernel_rfl) (by kernel_rfl) trivial ?_
  clear E; intro a E
  refine wpList_nil ?_
  refine th_n ?_
  refine wp_ret ?_
  refine th_ret ?_
  obtain rfl := Option.some.inj hP
  refine ret1 E rfl rfl ?_
  exact ⟨_, rfl, rfl, H.sel [] rfl⟩
 replace E := E_; clear E_
 have h23 : ¬ ((((List.length aAccept) : Nat) : Int) < 1) := of_decide_eq_false hb_
 clear hb_; replace hP := ite_f h23 hP
 refine vn tbok 4 [] [(28, .bool (decide (256 < (((List.length aAccept) : Nat) : Int))))] [] E (by kernel_rfl) (by kernel_rfl) trivial ?_
 clear E; intro a E
 refine E.cases (t := 28) rfl (fun hb_ E_ => ?_) (fun hb_ E_ => ?_)
 ·
  replace E := E_; clear E_
  have h24 : 256 < (((List.length aAccept) : Nat) : Int) := of_decide_eq_true hb_
  clear hb_; replace hP := ite_t h24 hP
  refine vn tbok 12 [] [(40, .bool true)] [] E (by kernel_rfl) (by kernel_rfl) trivial ?_
  clear E; intro a E
  refine wpList_nil ?_
  refine th_n ?_
  refine c_true E rfl ?_
  refine wp_seq ?_
  refine wp_region_lit ?_
  refine vn tbok 1 [] [(2, .int .i64 12)] [] E (by kernel_rfl) (by kernel_rfl) trivial ?_
  clear E; intro a E
  refine wpList_nil ?_
  refine th_n ?_
  refine wp_ret ?_
  refine th_ret ?_
  obtain rfl := Option.some.inj hP
  refine ret1 E rfl rfl ?_
  exact ⟨_, rfl, rfl, H.sel [] rfl⟩
 replace E := E_; clear E_
 have h25 : ¬ (256 < (((List.length aAccept) : Nat) : Int)) := of_decide_eq_false hb_
 clear hb_; replace hP := ite_f h25 hP
 refine vn tbok 7 [.slice A5 (List.length aGuard) c6] [(35, .bool (((((List.length aGuard) : Nat) : Int) : Int) != (((List.length aAccept) : Nat) : Int)))] [World.cell? w14 ⟨g13, 2, none⟩ = some (.slice A5 (List.length aGuard) c6)] E (by kernel_rfl) (by kernel_rfl) ((H.box 3 rfl).cell (j := 2) rfl) ?_
 clear E; intro a E
 refine E.cases (t := 35) rfl (fun hb_ E_ => ?_) (fun hb_ E_ => ?_)
 ·
  replace E := E_; clear E_
  have h26 : ¬ (((((List.length aGuard) : Nat) : Int) : Int) = (((List.length aAccept) : Nat) : Int)) := bne_iff_ne.1 hb_
  clear hb_; replace hP := ite_f h26 hP
  refine vn tbok 5 [] [(40, .bool true)] [] E (by kernel_rfl) (by kernel_rfl) trivial ?_
  clear E; intro a E
  refine wpList_nil ?_
  refine th_n ?_
  refine c_true E rfl ?_
  refine wp_seq ?_
  refine wp_region_lit ?_
  refine vn tbok 1 [] [(2, .int .i64 12)] [] E (by kernel_rfl) (by kernel_rfl) trivial ?_
  clear E; intro a E
  refine wpList_nil ?_
  refine th_n ?_
  refine wp_ret ?_
  refine th_ret ?_
  obtain rfl := Option.some.inj hP
  refine ret1 E rfl rfl ?_
  exact ⟨_, rfl, rfl, H.sel [] rfl⟩
 replace E := E_; clear E_
 have h27 : ((((List.length aGuard) : Nat) : Int) : Int) = (((List.length aAccept) : Nat) : Int) := bne_eq_false_iff_eq.1 hb_
 clear hb_; replace hP := ite_t h27 hP
 refine vn tbok 5 [.slice A9 (List.length aNodes) c10] [(40, .bool (decide (4096 < (((List.length aNodes) : Nat) : Int))))] [World.cell? w14 ⟨g13, 3, none⟩ = some (.slice A9 (List.length aNodes) c10)] E (by kernel_rfl) (by kernel_rfl) ((H.box 3 rfl).cell (j := 3) rfl) ?_
 clear E; intro a E
 refine wpList_nil ?_
 refine th_n ?_
 refine E.cases (t := 40) rfl (fun hb_ E_ => ?_) (fun hb_ E_ => ?_)
 ·
  replace E := E_; clear E_
  have h28 : 4096 < (((List.length aNodes) : Nat) : Int) := of_decide_eq_true hb_
  clear hb_; replace hP := ite_t h28 hP
  refine c_true E rfl ?_
  refine wp_seq ?_
  refine wp_region_lit ?_
  refine vn tbok 1 [] [(2, .int .i64 12)] [] E (by kernel_rfl) (by kernel_rfl) trivial ?_
  clear E; intro a E
  refine wpList_nil ?_
  refine th_n ?_
  refine wp_ret ?_
  refine th_ret ?_
  obtain rfl := Option.some.inj hP
  refine ret1 E rfl rfl ?_
  exact ⟨_, rfl, rfl, H.sel [] rfl⟩
 replace E := E_; clear E_
 have h29 : ¬ (4096 < (((List.length aNodes) : Nat) : Int)) := of_decide_eq_false hb_
 clear hb_; replace hP := ite_f h29 hP
 refine c_false E rfl ?_
 refine wp_skip ?_
 refine th_n ?_
 refine wp_seq ?_
 refine wp_region_lit ?_
 refine h_makeMap (P := Try.prog) (k0 := 55) H E rfl rfl ?_
 intro w31 g30 a hc32 hg33 H_ E_
 replace E := E_ _ rfl; clear E_
 replace H := H_; clear H_; try dsimp only [setn, addE, goneL] at H
 refine vn tbok 1 [] [(4, .map (some g30))] [] E (by kernel_rfl) (by kernel_rfl) trivial ?_
 clear E; intro a E
 refine wpList_nil ?_
 refine th_n ?_
 refine wp_seq ?_
 refine wp_seq ?_
 refine wp_region_lit ?_
 refine vn tbok 4 [.slice A9 (List.length aNodes) c10] [(43, .slice A9 (List.length aNodes) c10), (44, .int .i64 (((List.length aNodes) : Nat) : Int)), (45, .int .i64 0)] [World.cell? w31 ⟨g13, 3, none⟩ = some (.slice A9 (List.length aNodes) c10)] E (by kernel_rfl) (by kernel_rfl) ((H.box 3 rfl).cell (j := 3) rfl) ?_
 clear E; intro a E
 refine wpList_nil ?_
 refine th_n ?_
 refine wp_block ?_
 obtain ⟨x131, hL132, hK133⟩ := bind_inv hP
 clear hP
 refine loop_cut (fun i_ a w_ => (i_ = 0 ∧ ∃ (x136 : Unit), Fr a 110 [(1, .pointer (some ⟨g13, 0, none⟩))] ∧ Hp S Fa w0 w_ [.ro false cBool A1 aAccept, .ro false (cInt .i64) A5 aGuard, .ro false cNode A9 aNodes, .box g13 34 [.int .i64 aProps, .slice A1 (List.length aAccept) c2, .slice A5 (List.length aGuard) c6, .slice A9 (List.length aNodes) c10]] ∧ x131 = Sum.inl x136)) ?_ ?_
 ·
  refine loopV (fun m135 a w134 => ∃ (met81 : List (Nd × Bool)) (x82 : Int), Fr a 110 [(1, .pointer (some ⟨g13, 0, none⟩)), (4, .map (some g30)), (43, .slice A9 (List.length aNodes) c10), (44, .int .i64 (((List.length aNodes) : Nat) : Int)), (45, .int .i64 x82)] ∧ Hp S Fa w0 w134 [.ro false cBool A1 aAccept, .ro false (cInt .i64) A5 aGuard, .ro false cNode A9 aNodes, .box g13 34 [.int .i64 aProps, .slice A1 (List.length aAccept) c2, .slice A5 (List.length aGuard) c6, .slice A9 (List.length aNodes) c10], .mp Try.prog 55 g30 (List.map (fun p_ => (ndV p_.1, (fun u_ : Bool => .bool u_) p_.2)) met81)] ∧ guard_Check_l0 N aProps aAccept aGuard aNodes m135 met81 x82 = some x131) N ?_ ?_
  ·
   exact ⟨([] : List (Nd × Bool)), 0, E.pick _ ⟨rfl, rfl, rfl, rfl, rfl, trivial⟩, H.sel [0, 1, 2, 3, 4] rfl, hL132⟩
  clear E H hL132; intro m135 a w134 hI_
  obtain ⟨met81, x82, E, H, hP⟩ := hI_
  obtain ⟨m130, rfl⟩ : ∃ q_, m135 = q_ + 1 := by cases m135 with | zero => rw [guard_Check_l0] at hP; cases hP | succ q_ => exact ⟨q_, rfl⟩
  rw [guard_Check_l0] at hP
  refine wp_seq ?_
  refine wp_region_lit ?_
  refine vn tbok 1 [] [(46, .bool (decide (x82 < (((List.length aNodes) : Nat) : Int))))] [] E (by kernel_rfl) (by kernel_rfl) trivial ?_
  clear E; intro a E
  refine wpList_nil ?_
  refine th_n ?_
  refine wp_seq ?_
  refine E.cases (t := 46) rfl (fun hb_ E_ => ?_) (fun hb_ E_ => ?_)
  ·
   replace E := E_; clear E_
   have h137 : x82 < (((List.length aNodes) : Nat) : Int) := of_decide_eq_true hb_
   clear hb_; replace hP := ite_t h137 hP
   refine c_true E rfl ?_
   refine wp_skip ?_
   refine th_n ?_
   refine wp_seq ?_
   refine wp_block ?_
   refine wp_seq ?_
   refine wp_region_lit ?_
   obtain ⟨g138, hP⟩ := ask_inv hP
   obtain ⟨b139, o140, e_b139⟩ := (H.rd 2 rds_ro).addr (idx_pos g138)
   subst e_b139
   refine vn tbok 3 [.agg #[.int .i64 ((List.getD aNodes (Int.toNat x82) (default : Nd)).P), .int .i64 ((List.getD aNodes (Int.toNat x82) (default : Nd)).Lo), .int .i64 ((List.getD aNodes (Int.toNat x82) (default : Nd)).Hi)]] [(47, .int .i64 x82), (49, .agg #[.int .i64 ((List.getD aNodes (Int.toNat x82) (default : Nd)).P), .int .i64 ((List.getD aNodes (Int.toNat x82) (default : Nd)).Lo), .int .i64 ((List.getD aNodes (Int.toNat x82) (default : Nd)).Hi)])] [0 ≤ x82 ∧ x82 < (((List.length aNodes) : Nat) : Int), cellsAt w134 b139 (o140 + (Int.toNat x82) * 3) [.int .i64 ((List.getD aNodes (Int.toNat x82) (default : Nd)).P), .int .i64 ((List.getD aNodes (Int.toNat x82) (default : Nd)).Lo), .int .i64 ((List.getD aNodes (Int.toNat x82) (default : Nd)).Hi)]] E (by kernel_rfl) (by kernel_rfl) ⟨g138, Rds.atP (H.rd 2 rds_ro) (default : Nd) g138⟩ ?_
   clear E; intro a E
   refine h_alloc H E rfl rfl tbok rfl ?_
   intro w142 g141 a hc143 hg145 H_ E_
   replace E := E_ _ rfl; clear E_
   replace H := H_; clear H_; try dsimp only [setn, addE, goneL] at H
   refine vn tbok 1 [] [(5, .int .i64 x82)] [] E (by kernel_rfl) (by kernel_rfl) trivial ?_
   clear E; intro a E
   refine h_store (g := g141) (off := 0) H 5 rfl E rfl rfl rfl rfl tbok rfl rfl rfl rfl rfl ?_
   clear E; intro w146 a hc147 H_ E
   replace H := H_; clear H_; try dsimp only [setn, addE, goneL] at H
   refine wpList_nil ?_
   refine th_n ?_
   refine wp_seq ?_
   refine wp_seq ?_
   refine wp_region_lit ?_
   refine vn tbok 4 [.int .i64 ((List.getD aNodes (Int.toNat x82) (default : Nd)).P)] [(53, .bool (decide (((List.getD aNodes (Int.toNat x82) (default : Nd)).P) < 0)))] [World.cell? w146 ⟨g141, 0, none⟩ = some (.int .i64 ((List.getD aNodes (Int.toNat x82) (default : Nd)).P))] E (by kernel_rfl) (by kernel_rfl) ((H.box 5 rfl).cell (j := 0) rfl) ?_
   clear E; intro a E
   refine E.cases (t := 53) rfl (fun hb_ E_ => ?_) (fun hb_ E_ => ?_)
   ·
    replace E := E_; clear E_
    have h148 : ((List.getD aNodes (Int.toNat x82) (default : Nd)).P) < 0 := of_decide_eq_true hb_
    clear hb_; replace hP := ite_t h148 hP
    refine vn tbok 38 [] [(91, .bool true)] [] E (by kernel_rfl) (by kernel_rfl) trivial ?_
    clear E; intro a E
    refine wpList_nil ?_
    refine th_n ?_
    refine c_true E rfl ?_
    refine wp_seq ?_
    refine wp_region_lit ?_
    refine vn tbok 1 [] [(2, .int .i64 12)] [] E (by kernel_rfl) (by kernel_rfl) trivial ?_
    clear E; intro a E
    refine wpList_nil ?_
    refine th_n ?_
    refine wp_ret ?_
    refine th_ret ?_
    refine bl_ret ?_
    refine th_ret ?_
    refine th_ret ?_
    refine .inr ⟨rfl, ?_⟩
    refine bl_ret ?_
    refine th_ret ?_
    have hx_ := Option.some.inj hP; subst hx_
    have hP : some (12) = some r := hK133
    obtain rfl := Option.some.inj hP
    refine ret1 E rfl rfl ?_
    exact ⟨_, rfl, rfl, H.sel [] rfl⟩
   replace E := E_; clear E_
   have h149 : ¬ (((List.getD aNodes (Int.toNat x82) (default : Nd)).P) < 0) := of_decide_eq_false hb_
   clear hb_; replace hP := ite_f h149 hP
   refine vn tbok 7 [.int .i64 ((List.getD aNodes (Int.toNat x82) (default : Nd)).P), .int .i64 aProps] [(60, .bool (decide (aProps ≤ ((List.getD aNodes (Int.toNat x82) (default : Nd)).P))))] [World.cell? w146 ⟨g141, 0, none⟩ = some (.int .i64 ((List.getD aNodes (Int.toNat x82) (default : Nd)).P)), World.cell? w146 ⟨g13, 0, none⟩ = some (.int .i64 aProps)] E (by kernel_rfl) (by kernel_rfl) ⟨(H.box 5 rfl).cell (j := 0) rfl, (H.box 3 rfl).cell (j := 0) rfl⟩ ?_
   clear E; intro a E
   refine E.cases (t := 60) rfl (fun hb_ E_ => ?_) (fun hb_ E_ => ?_)
   ·
    replace E := E_; clear E_
    have h150 : aProps ≤ ((List.getD aNodes (Int.toNat x82) (default : Nd)).P) := of_decide_eq_true hb_
    clear hb_; replace hP := ite_t h150 hP
    refine vn tbok 31 [] [(91, .bool true)] [] E (by kernel_rfl) (by kernel_rfl) trivial ?_
    clear E; intro a E
    refine wpList_nil ?_
    refine th_n ?_
    refine c_true E rfl ?_
    refine wp_seq ?_
    refine wp_region_lit ?_
    refine vn tbok 1 [] [(2, .int .i64 12)] [] E (by kernel_rfl) (by kernel_rfl) trivial ?_
    clear E; intro a E
    refine wpList_nil ?_
    refine th_n ?_
    refine wp_ret ?_
    refine th_ret ?_
    refine bl_ret ?_
    refine th_ret ?_
    refine th_ret ?_
    refine .inr ⟨rfl, ?_⟩
    refine bl_ret ?_
    refine th_ret ?_
    have hx_ := Option.some.inj hP; subst hx_
    have hP : some (12) = some r := hK133
    obtain rfl := Option.some.inj hP
    refine ret1 E rfl rfl ?_
    exact ⟨_, rfl, rfl, H.sel [] rfl⟩
   replace E := E_; clear E_
   have h151 : ¬ (aProps ≤ ((List.getD aNodes (Int.toNat x82) (default : Nd)).P)) := of_decide_eq_false hb_
   clear hb_; replace hP := ite_f h151 hP
   refine vn tbok 7 [.int .i64 ((List.getD aNodes (Int.toNat x82) (default : Nd)).Lo), .int .i64 ((List.getD aNodes (Int.toNat x82) (default : Nd)).Hi)] [(67, .bool (((List.getD aNodes (Int.toNat x82) (default : Nd)).Lo : Int) == ((List.getD aNodes (Int.toNat x82) (default : Nd)).Hi)))] [World.cell? w146 ⟨g141, 1, none⟩ = some (.int .i64 ((List.getD aNodes (Int.toNat x82) (default : Nd)).Lo)), World.cell? w146 ⟨g141, 2, none⟩ = some (.int .i64 ((List.getD aNodes (Int.toNat x82) (default : Nd)).Hi))] E (by kernel_rfl) (by kernel_rfl) ⟨(H.box 5 rfl).cell (j := 1) rfl, (H.box 5 rfl).cell (j := 2) rfl⟩ ?_
   clear E; intro a E
   refine E.cases (t := 67) rfl (fun hb_ E_ => ?_) (fun hb_ E_ => ?_)
   ·
    replace E := E_; clear E_
    have h152 : ((List.getD aNodes (Int.toNat x82) (default : Nd)).Lo : Int) = (List.getD aNodes (Int.toNat x82) (default : Nd)).Hi := eq_of_beq hb_
    clear hb_; replace hP := ite_t h152 hP
    refine vn tbok 24 [] [(91, .bool true)] [] E (by kernel_rfl) (by kernel_rfl) trivial ?_
    clear E; intro a E
    refine wpList_nil ?_
    refine th_n ?_
    refine c_true E rfl ?_
    refine wp_seq ?_
    refine wp_region_lit ?_
    refine vn tbok 1 [] [(2, .int .i64 12)] [] E (by kernel_rfl) (by kernel_rfl) trivial ?_
    clear E; intro a E
    refine wpList_nil ?_
    refine th_n ?_
    refine wp_ret ?_
    refine th_ret ?_
    refine bl_ret ?_
    refine th_ret ?_
    refine th_ret ?_
    refine .inr ⟨rfl, ?_⟩
    refine bl_ret ?_
    refine th_ret ?_
    have hx_ := Option.some.inj hP; subst hx_
    have hP : some (12) = some r := hK133
    obtain rfl := Option.some.inj hP
    refine ret1 E rfl rfl ?_
    exact ⟨_, rfl, rfl, H.sel [] rfl⟩
   replace E := E_; clear E_
   have h153 : ¬ (((List.getD aNodes (Int.toNat x82) (default : Nd)).Lo : Int) = (List.getD aNodes (Int.toNat x82) (default : Nd)).Hi) := ne_of_beq_false hb_
   clear hb_; replace hP := ite_f h153 hP
   refine vn tbok 2 [.agg #[.int .i64 ((List.getD aNodes (Int.toNat x82) (default : Nd)).P), .int .i64 ((List.getD aNodes (Int.toNat x82) (default : Nd)).Lo), .int .i64 ((List.getD aNodes (Int.toNat x82) (default : Nd)).Hi)]] [(68, .map (some g30)), (69, .agg #[.int .i64 ((List.getD aNodes (Int.toNat x82) (default : Nd)).P), .int .i64 ((List.getD aNodes (Int.toNat x82) (default : Nd)).Lo), .int .i64 ((List.getD aNodes (Int.toNat x82) (default : Nd)).Hi)])] [cellsAt w146 g141 (0) [.int .i64 ((List.getD aNodes (Int.toNat x82) (default : Nd)).P), .int .i64 ((List.getD aNodes (Int.toNat x82) (default : Nd)).Lo), .int .i64 ((List.getD aNodes (Int.toNat x82) (default : Nd)).Hi)]] E (by kernel_rfl) (by kernel_rfl) ((H.box 5 rfl).sub 0 _ rfl) ?_
   clear E; intro a E
   obtain ⟨g154, hP⟩ := ask_inv hP
   refine h_lookup1 ndV (fun u_ : Bool => .bool u_) (⟨(List.getD aNodes (Int.toNat x82) (default : Nd)).P, (List.getD aNodes (Int.toNat x82) (default : Nd)).Lo, (List.getD aNodes (Int.toNat x82) (default : Nd)).Hi⟩ : Nd) false H 4 rfl E rfl rfl tbok rfl rfl kNd rfl rfl rfl g154 (fun _ => ⟨_, rfl⟩) ?_
   clear E; intro a E_; replace E := E_ _ rfl; clear E_
   refine vn tbok 2 [] [(72, .bool (Option.getD (mget met81 (⟨(List.getD aNodes (Int.toNat x82) (default : Nd)).P, (List.getD aNodes (Int.toNat x82) (default : Nd)).Lo, (List.getD aNodes (Int.toNat x82) (default : Nd)).Hi⟩ : Nd)) false))] [] E (by kernel_rfl) (by kernel_rfl) trivial ?_
   clear E; intro a E
   refine E.cases (t := 72) rfl (fun hb_ E_ => ?_) (fun hb_ E_ => ?_)
   ·
    replace E := E_; clear E_
    have h155 : (Option.getD (mget met81 (⟨(List.getD aNodes (Int.toNat x82) (default : Nd)).P, (List.getD aNodes (Int.toNat x82) (default : Nd)).Lo, (List.getD aNodes (Int.toNat x82) (default : Nd)).Hi⟩ : Nd)) false) = true := hb_
    clear hb_; replace hP := ite_t h155 hP
    refine vn tbok 19 [] [(91, .bool true)] [] E (by kernel_rfl) (by kernel_rfl) trivial ?_
    clear E; intro a E
    refine wpList_nil ?_
    refine th_n ?_
    refine c_true E rfl ?_
    refine wp_seq ?_
    refine wp_region_lit ?_
    refine vn tbok 1 [] [(2, .int .i64 12)] [] E (by kernel_rfl) (by kernel_rfl) trivial ?_
    clear E; intro a E
    refine wpList_nil ?_
    refine th_n ?_
    refine wp_ret ?_
    refine th_ret ?_
    refine bl_ret ?_
    refine th_ret ?_
    refine th_ret ?_
    refine .inr ⟨rfl, ?_⟩
    refine bl_ret ?_
    refine th_ret ?_
    have hx_ := Option.some.inj hP; subst hx_
    have hP : some (12) = some r := hK133
    obtain rfl := Option.some.inj hP
    refine ret1 E rfl rfl ?_
    exact ⟨_, rfl, rfl, H.sel [] rfl⟩
   replace E := E_; clear E_
   have h156 : ¬ ((Option.getD (mget met81 (⟨(List.getD aNodes (Int.toNat x82) (default : Nd)).P, (List.getD aNodes (Int.toNat x82) (default : Nd)).Lo, (List.getD aNodes (Int.toNat x82) (default : Nd)).Hi⟩ : Nd)) false) = true) := (ne_true_of_eq_false hb_)
   clear hb_; replace hP := ite_f h156 hP
   refine vn tbok 6 [.agg #[.int .i64 aProps, .slice A1 (List.length aAccept) c2, .slice A5 (List.length aGuard) c6, .slice (some ⟨b139, o140, none⟩) (List.length aNodes) c10], .int .i64 ((List.getD aNodes (Int.toNat x82) (default : Nd)).Lo), .int .i64 ((List.getD aNodes (Int.toNat x82) (default : Nd)).P)] [(73, .agg #[.int .i64 aProps, .slice A1 (List.length aAccept) c2, .slice A5 (List.length aGuard) c6, .slice (some ⟨b139, o140, none⟩) (List.length aNodes) c10]), (75, .int .i64 ((List.getD aNodes (Int.toNat x82) (default : Nd)).Lo)), (76, .int .i64 x82), (78, .int .i64 ((List.getD aNodes (Int.toNat x82) (default : Nd)).P))] [cellsAt w146 g13 (0) [.int .i64 aProps, .slice A1 (List.length aAccept) c2, .slice A5 (List.length aGuard) c6, .slice (some ⟨b139, o140, none⟩) (List.length aNodes) c10], World.cell? w146 ⟨g141, 1, none⟩ = some (.int .i64 ((List.getD aNodes (Int.toNat x82) (default : Nd)).Lo)), World.cell? w146 ⟨g141, 0, none⟩ = some (.int .i64 ((List.getD aNodes (Int.toNat x82) (default : Nd)).P))] E (by kernel_rfl) (by kernel_rfl) ⟨(H.box 3 rfl).sub 0 _ rfl, (H.box 5 rfl).cell (j := 1) rfl, (H.box 5 rfl).cell (j := 0) rfl⟩ ?_
   clear E; intro a E
   obtain ⟨r157, h158, hP⟩ := bind_inv hP
   obtain ⟨Fa159, Hc160, hb161⟩ := H.call [] [(0, false), (1, false), (2, false)] rfl rfl trivial
   refine e_call E rfl rfl Try.func57 rfl rfl rfl (guard_good_calls A1 c2 A5 c6 (some ⟨b139, o140, none⟩) c10 aProps aAccept aGuard aNodes ((List.getD aNodes (Int.toNat x82) (default : Nd)).Lo) x82 ((List.getD aNodes (Int.toNat x82) (default : Nd)).P) hk3 hk7 hk11 Hc160 h158) ?_
   rintro v162 w163 a ⟨rfl, HR164⟩ E_
   replace E := E_ _ rfl; clear E_
   obtain ⟨H_, hc165⟩ := hb161 _ _ HR164 rfl
   replace H := H_; clear H_; try dsimp only [setn, addE, goneL] at H
   refine vn tbok 3 [] [(82, .bool (!r157))] [] E (by kernel_rfl) (by kernel_rfl) trivial ?_
   clear E; intro a E
   refine E.cases (t := 82) rfl (fun hb_ E_ => ?_) (fun hb_ E_ => ?_)
   ·
    replace E := E_; clear E_
    have h166 : ¬ (r157 = true) := (ne_true_of_eq_false (not_t hb_))
    clear hb_; replace hP := ite_f h166 hP
    refine vn tbok 9 [] [(91, .bool true)] [] E (by kernel_rfl) (by kernel_rfl) trivial ?_
    clear E; intro a E
    refine wpList_nil ?_
    refine th_n ?_
    refine c_true E rfl ?_
    refine wp_seq ?_
    refine wp_region_lit ?_
    refine vn tbok 1 [] [(2, .int .i64 12)] [] E (by kernel_rfl) (by kernel_rfl) trivial ?_
    clear E; intro a E
    refine wpList_nil ?_
    refine th_n ?_
    refine wp_ret ?_
    refine th_ret ?_
    refine bl_ret ?_
    refine th_ret ?_
    refine th_ret ?_
    refine .inr ⟨rfl, ?_⟩
    refine bl_ret ?_
    refine th_ret ?_
    have hx_ := Option.some.inj hP; subst hx_
    have hP : some (12) = some r := hK133
    obtain rfl := Option.some.inj hP
    refine ret1 E rfl rfl ?_
    exact ⟨_, rfl, rfl, H.sel [] rfl⟩
   replace E := E_; clear E_
   have h167 : r157 = true := (not_f hb_)
   clear hb_; replace hP := ite_t h167 hP
   refine vn tbok 6 [.agg #[.int .i64 aProps, .slice A1 (List.length aAccept) c2, .slice A5 (List.length aGuard) c6, .slice (some ⟨b139, o140, none⟩) (List.length aNodes) c10], .int .i64 ((List.getD aNodes (Int.toNat x82) (default : Nd)).Hi), .int .i64 ((List.getD aNodes (Int.toNat x82) (default : Nd)).P)] [(83, .agg #[.int .i64 aProps, .slice A1 (List.length aAccept) c2, .slice A5 (List.length aGuard) c6, .slice (some ⟨b139, o140, none⟩) (List.length aNodes) c10]), (85, .int .i64 ((List.getD aNodes (Int.toNat x82) (default : Nd)).Hi)), (86, .int .i64 x82), (88, .int .i64 ((List.getD aNodes (Int.toNat x82) (default : Nd)).P))] [cellsAt w163 g13 (0) [.int .i64 aProps, .slice A1 (List.length aAccept) c2, .slice A5 (List.length aGuard) c6, .slice (some ⟨b139, o140, none⟩) (List.length aNodes) c10], World.cell? w163 ⟨g141, 2, none⟩ = some (.int .i64 ((List.getD aNodes (Int.toNat x82) (default : Nd)).Hi)), World.cell? w163 ⟨g141, 0, none⟩ = some (.int .i64 ((List.getD aNodes (Int.toNat x82) (default : Nd)).P))] E (by kernel_rfl) (by kernel_rfl) ⟨(H.box 3 rfl).sub 0 _ rfl, (H.box 5 rfl).cell (j := 2) rfl, (H.box 5 rfl).cell (j := 0) rfl⟩ ?_
   clear E; intro a E
   obtain ⟨r168, h169, hP⟩ := bind_inv hP
   obtain ⟨Fa170, Hc171, hb172⟩ := H.call [] [(0, false), (1, false), (2, false)] rfl rfl trivial
   refine e_call E rfl rfl Try.func57 rfl rfl rfl (guard_good_calls A1 c2 A5 c6 (some ⟨b139, o140, none⟩) c10 aProps aAccept aGuard aNodes ((List.getD aNodes (Int.toNat x82) (default : Nd)).Hi) x82 ((List.getD aNodes (Int.toNat x82) (default : Nd)).P) hk3 hk7 hk11 Hc171 h169) ?_
   rintro v173 w174 a ⟨rfl, HR175⟩ E_
   replace E := E_ _ rfl; clear E_
   obtain ⟨H_, hc176⟩ := hb172 _ _ HR175 rfl
   replace H := H_; clear H_; try dsimp only [setn, addE, goneL] at H
   refine vn tbok 2 [] [(91, .bool (!r168))] [] E (by kernel_rfl) (by kernel_rfl) trivial ?_
   clear E; intro a E
   refine wpList_nil ?_
   refine th_n ?_
   refine E.cases (t := 91) rfl (fun hb_ E_ => ?_) (fun hb_ E_ => ?_)
   ·
    replace E := E_; clear E_
    have h177 : ¬ (r168 = true) := (ne_true_of_eq_false (not_t hb_))
    clear hb_; replace hP := ite_f h177 hP
    refine c_true E rfl ?_
    refine wp_seq ?_
    refine wp_region_lit ?_
    refine vn tbok 1 [] [(2, .int .i64 12)] [] E (by kernel_rfl) (by kernel_rfl) trivial ?_
    clear E; intro a E
    refine wpList_nil ?_
    refine th_n ?_
    refine wp_ret ?_
    refine th_ret ?_
    refine bl_ret ?_
    refine th_ret ?_
    refine th_ret ?_
    refine .inr ⟨rfl, ?_⟩
    refine bl_ret ?_
    refine th_ret ?_
    have hx_ := Option.some.inj hP; subst hx_
    have hP : some (12) = some r := hK133
    obtain rfl := Option.some.inj hP
    refine ret1 E rfl rfl ?_
    exact ⟨_, rfl, rfl, H.sel [] rfl⟩
   replace E := E_; clear E_
   have h178 : r168 = true := (not_f hb_)
   clear hb_; replace hP := ite_t h178 hP
   refine c_false E rfl ?_
   refine wp_skip ?_
   refine th_n ?_
   refine wp_region_lit ?_
   refine vn tbok 2 [.agg #[.int .i64 ((List.getD aNodes (Int.toNat x82) (default : Nd)).P), .int .i64 ((List.getD aNodes (Int.toNat x82) (default : Nd)).Lo), .int .i64 ((List.getD aNodes (Int.toNat x82) (default : Nd)).Hi)]] [(92, .map (some g30)), (93, .agg #[.int .i64 ((List.getD aNodes (Int.toNat x82) (default : Nd)).P), .int .i64 ((List.getD aNodes (Int.toNat x82) (default : Nd)).Lo), .int .i64 ((List.getD aNodes (Int.toNat x82) (default : Nd)).Hi)])] [cellsAt w174 g141 (0) [.int .i64 ((List.getD aNodes (Int.toNat x82) (default : Nd)).P), .int .i64 ((List.getD aNodes (Int.toNat x82) (default : Nd)).Lo), .int .i64 ((List.getD aNodes (Int.toNat x82) (default : Nd)).Hi)]] E (by kernel_rfl) (by kernel_rfl) ((H.box 5 rfl).sub 0 _ rfl) ?_
   clear E; intro a E
   obtain ⟨g179, hP⟩ := ask_inv hP
   refine h_mapUpdate ndV (fun u_ : Bool => .bool u_) (⟨(List.getD aNodes (Int.toNat x82) (default : Nd)).P, (List.getD aNodes (Int.toNat x82) (default : Nd)).Lo, (List.getD aNodes (Int.toNat x82) (default : Nd)).Hi⟩ : Nd) true H 4 rfl E rfl rfl tbok rfl kNd rfl rfl rfl g154 g179 rfl ?_
   clear E; intro w180 a hc181 H_ E
   replace H := H_; clear H_; try dsimp only [setn, addE, goneL] at H
   refine wpList_nil ?_
   refine bl_n ?_
   refine th_n ?_
   refine wp_region_lit ?_
   obtain ⟨g182, hP⟩ := ask_inv hP
   refine vn tbok 2 [.int .i64 (x82 + 1)] [(45, .int .i64 (x82 + 1))] [IntKind.i64.wrap (x82 + 1) = x82 + 1] E (by kernel_rfl) (by kernel_rfl) (wrap_in g182) ?_
   clear E; intro a E
   refine wpList_nil ?_
   exact th_n ⟨m130, Nat.lt_succ_self _, met81 ++ [((⟨(List.getD aNodes (Int.toNat x82) (default : Nd)).P, (List.getD aNodes (Int.toNat x82) (default : Nd)).Lo, (List.getD aNodes (Int.toNat x82) (default : Nd)).Hi⟩ : Nd), true)], x82 + 1, E.pick _ ⟨rfl, rfl, rfl, rfl, rfl, trivial⟩, H.sel [0, 1, 2, 3, 4] rfl, hP⟩
  replace E := E_; clear E_
  have h183 : ¬ (x82 < (((List.length aNodes) : Nat) : Int)) := of_decide_eq_false hb_
  clear hb_; replace hP := ite_f h183 hP
  refine c_false E rfl ?_
  refine wp_exit ?_
  refine th_exit ?_
  have hx_ := Option.some.inj hP
  refine th_exit (.inl ⟨0, rfl, ?_⟩)
  exact ⟨rfl, (), E.pick _ ⟨rfl, trivial⟩, H.sel [0, 1, 2, 3] rfl, hx_.symm⟩
 clear E H hL132; intro i_ a w134 hM_
 obtain ⟨rfl, x136, E, H, hx_⟩ := hM_
 subst hx_; have hP := elim_l hK133
 clear hK133
 refine bl_hit ?_
 refine th_n ?_
 refine wp_seq ?_
 refine wp_seq ?_
 refine wp_region_lit ?_
 refine vn tbok 4 [.slice A5 (List.length aGuard) c6] [(96, .slice A5 (List.length aGuard) c6), (97, .int .i64 (((List.length aGuard) : Nat) : Int)), (98, .int .i64 0)] [World.cell? w134 ⟨g13, 2, none⟩ = some (.slice A5 (List.length aGuard) c6)] E (by kernel_rfl) (by kernel_rfl) ((H.box 3 rfl).cell (j := 2) rfl) ?_
 clear E; intro a E
 refine wpList_nil ?_
 refine th_n ?_
 refine wp_block ?_
 obtain ⟨x220, hL221, hK222⟩ := bind_inv hP
 clear hP
 refine loop_cut (fun i_ a w_ => (i_ = 2 ∧ ∃ (x225 : Unit), Fr a 110 [] ∧ Hp S Fa w0 w_ [] ∧ x220 = Sum.inl x225)) ?_ ?_
 ·
  refine loopV (fun m224 a w223 => ∃ (x201 : Int), Fr a 110 [(1, .pointer (some ⟨g13, 0, none⟩)), (96, .slice A5 (List.length aGuard) c6), (97, .int .i64 (((List.length aGuard) : Nat) : Int)), (98, .int .i64 x201)] ∧ Hp S Fa w0 w223 [.ro false cBool A1 aAccept, .ro false (cInt .i64) A5 aGuard, .ro false cNode A9 aNodes, .box g13 34 [.int .i64 aProps, .slice A1 (List.length aAccept) c2, .slice A5 (List.length aGuard) c6, .slice A9 (List.length aNodes) c10]] ∧ guard_Check_l1 N aProps aAccept aGuard aNodes m224 x201 = some x220) N ?_ ?_
  ·
   exact ⟨0, E.pick _ ⟨rfl, rfl, rfl, rfl, trivial⟩, H.sel [0, 1, 2, 3] rfl, hL221⟩
  clear E H hL221; intro m224 a w223 hI_
  obtain ⟨x201, E, H, hP⟩ := hI_
  obtain ⟨m219, rfl⟩ : ∃ q_, m224 = q_ + 1 := by cases m224 with | zero => rw [guard_Check_l1] at hP; cases hP | succ q_ => exact ⟨q_, rfl⟩
  rw [guard_Check_l1] at hP
  refine wp_seq ?_
  refine wp_region_lit ?_
  refine vn tbok 1 [] [(99, .bool (decide (x201 < (((List.length aGuard) : Nat) : Int))))] [] E (by kernel_rfl) (by kernel_rfl) trivial ?_
  clear E; intro a E
  refine wpList_nil ?_
  refine th_n ?_
  refine wp_seq ?_
  refine E.cases (t := 99) rfl (fun hb_ E_ => ?_) (fun hb_ E_ => ?_)
  ·
   replace E := E_; clear E_
   have h226 : x201 < (((List.length aGuard) : Nat) : Int) := of_decide_eq_true hb_
   clear hb_; replace hP := ite_t h226 hP
   refine c_true E rfl ?_
   refine wp_skip ?_
   refine th_n ?_
   refine wp_seq ?_
   refine wp_block ?_
   refine wp_seq ?_
   refine wp_region_lit ?_
   obtain ⟨g227, hP⟩ := ask_inv hP
   obtain ⟨b228, o229, e_b228⟩ := (H.rd 1 rds_ro).addr (idx_pos g227)
   subst e_b228
   refine vn tbok 3 [.int .i64 (List.getD aGuard (Int.toNat x201) 0)] [(8, .int .i64 (List.getD aGuard (Int.toNat x201) 0))] [0 ≤ x201 ∧ x201 < (((List.length aGuard) : Nat) : Int), World.cell? w223 ⟨b228, o229 + (Int.toNat x201) * 1, none⟩ = some (.int .i64 (List.getD aGuard (Int.toNat x201) 0))] E (by kernel_rfl) (by kernel_rfl) ⟨g227, Rds.at1 (H.rd 1 rds_ro) 0 g227⟩ ?_
   clear E; intro a E
   refine wpList_nil ?_
   refine th_n ?_
   refine wp_seq ?_
   refine wp_region_lit ?_
   refine vn tbok 5 [.agg #[.int .i64 aProps, .slice A1 (List.length aAccept) c2, .slice (some ⟨b228, o229, none⟩) (List.length aGuard) c6, .slice A9 (List.length aNodes) c10], .slice A9 (List.length aNodes) c10] [(102, .agg #[.int .i64 aProps, .slice A1 (List.length aAccept) c2, .slice (some ⟨b228, o229, none⟩) (List.length aGuard) c6, .slice A9 (List.length aNodes) c10]), (103, .int .i64 (List.getD aGuard (Int.toNat x201) 0)), (106, .int .i64 (((List.length aNodes) : Nat) : Int))] [cellsAt w223 g13 (0) [.int .i64 aProps, .slice A1 (List.length aAccept) c2, .slice (some ⟨b228, o229, none⟩) (List.length aGuard) c6, .slice A9 (List.length aNodes) c10], World.cell? w223 ⟨g13, 3, none⟩ = some (.slice A9 (List.length aNodes) c10)] E (by kernel_rfl) (by kernel_rfl) ⟨(H.box 3 rfl).sub 0 _ rfl, (H.box 3 rfl).cell (j := 3) rfl⟩ ?_
   clear E; intro a E
   obtain ⟨r230, h231, hP⟩ := bind_inv hP
   obtain ⟨Fa232, Hc233, hb234⟩ := H.call [] [(0, false), (1, false), (2, false)] rfl rfl trivial
   refine e_call E rfl rfl Try.func57 rfl rfl rfl (guard_good_calls A1 c2 (some ⟨b228, o229, none⟩) c6 A9 c10 aProps aAccept aGuard aNodes (List.getD aGuard (Int.toNat x201) 0) (((List.length aNodes) : Nat) : Int) (-1) hk3 hk7 hk11 Hc233 h231) ?_
   rintro v235 w236 a ⟨rfl, HR237⟩ E_
   replace E := E_ _ rfl; clear E_
   obtain ⟨H_, hc238⟩ := hb234 _ _ HR237 rfl
   replace H := H_; clear H_; try dsimp only [setn, addE, goneL] at H
   refine vn tbok 1 [] [(108, .bool (!r230))] [] E (by kernel_rfl) (by kernel_rfl) trivial ?_
   clear E; intro a E
   refine wpList_nil ?_
   refine th_n ?_
   refine E.cases (t := 108) rfl (fun hb_ E_ => ?_) (fun hb_ E_ => ?_)
   ·
    replace E := E_; clear E_
    have h239 : ¬ (r230 = true) := (ne_true_of_eq_false (not_t hb_))
    clear hb_; replace hP := ite_f h239 hP
    refine c_true E rfl ?_
    refine wp_seq ?_
    refine wp_region_lit ?_
    refine vn tbok 1 [] [(2, .int .i64 12)] [] E (by kernel_rfl) (by kernel_rfl) trivial ?_
    clear E; intro a E
    refine wpList_nil ?_
    refine th_n ?_
    refine wp_ret ?_
    refine bl_ret ?_
    refine th_ret ?_
    refine th_ret ?_
    refine .inr ⟨rfl, ?_⟩
    refine bl_ret ?_
    refine th_ret ?_
    have hx_ := Option.some.inj hP; subst hx_
    have hP : some (12) = some r := hK222
    obtain rfl := Option.some.inj hP
    refine ret1 E rfl rfl ?_
    exact ⟨_, rfl, rfl, H.sel [] rfl⟩
   replace E := E_; clear E_
   have h240 : r230 = true := (not_f hb_)
   clear hb_; replace hP := ite_t h240 hP
   refine c_false E rfl ?_
   refine wp_skip ?_
   refine bl_n ?_
   refine th_n ?_
   refine wp_region_lit ?_
   obtain ⟨g241, hP⟩ := ask_inv hP
   refine vn tbok 2 [.int .i64 (x201 + 1)] [(98, .int .i64 (x201 + 1))] [IntKind.i64.wrap (x201 + 1) = x201 + 1] E (by kernel_rfl) (by kernel_rfl) (wrap_in g241) ?_
   clear E; intro a E
   refine wpList_nil ?_
   exact th_n ⟨m219, Nat.lt_succ_self _, x201 + 1, E.pick _ ⟨rfl, rfl, rfl, rfl, trivial⟩, H.sel [0, 1, 2, 3] rfl, hP⟩
  replace E := E_; clear E_
  have h242 : ¬ (x201 < (((List.length aGuard) : Nat) : Int)) := of_decide_eq_false hb_
  clear hb_; replace hP := ite_f h242 hP
  refine c_false E rfl ?_
  refine wp_exit ?_
  refine th_exit ?_
  have hx_ := Option.some.inj hP
  refine th_exit (.inl ⟨2, rfl, ?_⟩)
  exact ⟨rfl, (), E.pick _ trivial, H.sel [] rfl, hx_.symm⟩
 clear E H hL221; intro i_ a w223 hM_
 obtain ⟨rfl, x225, E, H, hx_⟩ := hM_
 subst hx_; have hP := elim_l hK222
 clear hK222
 refine bl_hit ?_
 refine th_n ?_
 refine wp_seq ?_
 refine wp_region_lit ?_
 refine vn tbok 1 [] [(2, .int .i64 0)] [] E (by kernel_rfl) (by kernel_rfl) trivial ?_
 clear E; intro a E
 refine wpList_nil ?_
 refine th_n ?_
 refine wp_ret ?_
 obtain rfl := Option.some.inj hP
 refine ret1 E rfl rfl ?_
 exact ⟨_, rfl, rfl, H.sel [] rfl⟩

end Go.V
