/- Plain functions, and the calls that give them. -/
import Derived.Test.YtihindpnnbllkaaA10
set_option linter.all false
set_option linter.unusedVariables false
set_option linter.unnecessarySimpa false
set_option linter.unusedSimpArgs false
set_option maxRecDepth 100000
set_option maxHeartbeats 4000000
namespace Go.V
open Go Go.Proofs
/-! rejoinder/both.Xor$1 -/
def both_Xor_1 (N : Nat) (one : Bool) (two : Bool) : Option Bool :=
  some (!(one == two))
def both_Xor_1_p (x y : Bool) : Bool := Option.getD (both_Xor_1 0 x y) false
theorem both_Xor_1_calls {N : Nat} {S Fa : Nat → Prop} {w0 : World} {r : Bool} (one : Bool) (two : Bool) (H : Hp S Fa w0 w0 []) (hP : both_Xor_1 N one two = some r) :
    Calls Try.prog 36 #[.bool one, .bool two] w0 fun e w' => ∃ v, e = .returned v ∧ v = .bool r ∧ Hp S Fa w0 w' [] := by
 refine enterV (n := 8) Try.func36 rfl rfl rfl ?_
 intro a E
 replace E := E.pick [(0, .bool one), (1, .bool two)] ⟨rfl, rfl, trivial⟩
 rw [both_Xor_1] at hP
 refine sr_ <| vp 1 [] E ?_
 clear E; intro a E
 refine nn_ <| sr_ <| vp 4 [(4, .bool (!(one == two)))] E ?_
 clear E; intro a E
 refine nn_ <| wp_ret ?_
 obtain rfl := Option.some.inj hP
 refine ret1 E rfl rfl ?_
 exact ⟨_, rfl, rfl, H.sel [] rfl⟩
theorem both_Xor_1_pure : PureF2 Try.prog (.func (.func 36) #[] #[]) both_Xor_1_p := ⟨36, _, #[], rfl, Try.func36, rfl, rfl, fun w x y => (both_Xor_1_calls (N := 0) x y (Hp.start w) (by cases x <;> cases y <;> rfl)).mono fun e w' ⟨v, he, hv, H⟩ => ⟨v, he, hv, H.chgd.own⟩⟩

/-! rejoinder/both.Xor -/
def both_Xor (N : Nat) (aProps : Int) (aAccept : List Bool) (aGuard : List Int) (aNodes : List Nd) (bProps : Int) (bAccept : List Bool) (bGuard : List Int) (bNodes : List Nd) : Option ((Int × (List Bool) × (List Int) × (List Nd)) × Int) :=
  Option.bind (both_put N aProps aAccept aGuard aNodes bProps bAccept bGuard bNodes both_Xor_1_p) fun r40 =>
  some ((r40.1.1, r40.1.2.1, r40.1.2.2.1, r40.1.2.2.2), r40.2)
theorem both_Xor_calls {N : Nat} {S Fa : Nat → Prop} {w0 : World} {r : (Int × (List Bool) × (List Int) × (List Nd)) × Int} (A1 : Option Addr) (c2 : Nat) (A5 : Option Addr) (c6 : Nat) (A9 : Option Addr) (c10 : Nat) (A13 : Option Addr) (c14 : Nat) (A17 : Option Addr) (c18 : Nat) (A21 : Option Addr) (c22 : Nat) (aProps : Int) (aAccept : List Bool) (aGuard : List Int) (aNodes : List Nd) (bProps : Int) (bAccept : List Bool) (bGuard : List Int) (bNodes : List Nd) (hk3 : List.length aAccept ≤ c2) (hk7 : List.length aGuard ≤ c6) (hk11 : List.length aNodes ≤ c10) (hk15 : List.length bAccept ≤ c14) (hk19 : List.length bGuard ≤ c18) (hk23 : List.length bNodes ≤ c22) (H : Hp S Fa w0 w0 [.ro false cBool A1 aAccept, .ro false (cInt .i64) A5 aGuard, .ro false cNode A9 aNodes, .ro false cBool A13 bAccept, .ro false (cInt .i64) A17 bGuard, .ro false cNode A21 bNodes]) (hP : both_Xor N aProps aAccept aGuard aNodes bProps bAccept bGuard bNodes = some r) :
    Calls Try.prog 13 #[.agg #[.int .i64 aProps, .slice A1 aAccept.length c2, .slice A5 aGuard.length c6, .slice A9 aNodes.length c10], .agg #[.int .i64 bProps, .slice A13 bAccept.length c14, .slice A17 bGuard.length c18, .slice A21 bNodes.length c22]] w0 fun e w' => ∃ v, e = .returned v ∧ ∃ (A60 : Option Addr) (c61 : Nat) (A62 : Option Addr) (c63 : Nat) (A64 : Option Addr) (c65 : Nat), v = .tuple #[.agg #[.int .i64 r.1.1, .slice A60 r.1.2.1.length c61, .slice A62 r.1.2.2.1.length c63, .slice A64 r.1.2.2.2.length c65], .int .i64 r.2] ∧ Hp S Fa w0 w' [.row true cBool 4 A60 c61 r.1.2.1, .row true (cInt .i64) 3 A62 c63 r.1.2.2.1, .row true cNode 49 A64 c65 r.1.2.2.2] := by
 refine enterV (n := 11) Try.func13 rfl rfl rfl ?_
 intro a E
 replace E := E.pick [(0, .agg #[.int .i64 aProps, .slice A1 aAccept.length c2, .slice A5 aGuard.length c6, .slice A9 aNodes.length c10]), (1, .agg #[.int .i64 bProps, .slice A13 bAccept.length c14, .slice A17 bGuard.length c18, .slice A21 bNodes.length c22])] ⟨rfl, rfl, trivial⟩
 rw [both_Xor] at hP
 refine sr_ <| h_box H E rfl rfl rfl ?_
 clear H E; intro w26 g25 a hc27 hg29 H E; replace E := E _ rfl; try dsimp only [setn, addE, goneL] at H
 refine h_box H E rfl rfl rfl ?_
 clear H E; intro w31 g30 a hc32 hg34 H E; replace E := E _ rfl; try dsimp only [setn, addE, goneL] at H
 refine h_alloc H E rfl rfl tbok rfl ?_
 clear H E; intro w36 g35 a hc37 hg39 H E; replace E := E _ rfl; try dsimp only [setn, addE, goneL] at H
 refine vp 1 [] E ?_
 clear E; intro a E
 refine nn_ <| sr_ <| vq 2 [.agg #[.int .i64 aProps, .slice A1 aAccept.length c2, .slice A5 aGuard.length c6, .slice A9 aNodes.length c10], .agg #[.int .i64 bProps, .slice A13 bAccept.length c14, .slice A17 bGuard.length c18, .slice A21 bNodes.length c22]] [(6, .agg #[.int .i64 aProps, .slice A1 aAccept.length c2, .slice A5 aGuard.length c6, .slice A9 aNodes.length c10]), (7, .agg #[.int .i64 bProps, .slice A13 bAccept.length c14, .slice A17 bGuard.length c18, .slice A21 bNodes.length c22])] [cellsAt w36 g25 (0) [.int .i64 aProps, .slice A1 aAccept.length c2, .slice A5 aGuard.length c6, .slice A9 aNodes.length c10], cellsAt w36 g30 (0) [.int .i64 bProps, .slice A13 bAccept.length c14, .slice A17 bGuard.length c18, .slice A21 bNodes.length c22]] E ⟨(H.box 6 rfl).sub 0 _ rfl, (H.box 7 rfl).sub 0 _ rfl⟩ ?_
 clear E; intro a E
 obtain ⟨r40, h41, hP⟩ := bind_inv hP
 obtain ⟨Fa42, Hc43, hb44⟩ := H.call [] [(0, false), (1, false), (2, false), (3, false), (4, false), (5, false)] rfl rfl trivial
 refine e_call E rfl rfl Try.func32 rfl rfl rfl (both_put_calls A1 c2 A5 c6 A9 c10 A13 c14 A17 c18 A21 c22 (.func (.func 36) #[] #[]) aProps aAccept aGuard aNodes bProps bAccept bGuard bNodes both_Xor_1_p hk3 hk7 hk11 hk15 hk19 hk23 both_Xor_1_pure Hc43 h41) ?_
 rintro v45 w46 a ⟨A49, c50, A52, c53, A55, c56, rfl, HR47⟩ E_
 replace E := E_ _ rfl; clear E_
 obtain ⟨H_, hc48⟩ := hb44 _ _ HR47 rfl
 replace H := H_; clear H_; try dsimp only [setn, addE, goneL] at H
 refine vp 2 [(9, .agg #[.int .i64 r40.1.1, .slice A49 r40.1.2.1.length c50, .slice A52 r40.1.2.2.1.length c53, .slice A55 r40.1.2.2.2.length c56]), (10, .int .i64 r40.2)] E ?_
 clear E; intro a E
 refine h_store (g := g35) (off := 0) H 8 rfl E rfl rfl rfl rfl tbok rfl rfl rfl rfl rfl ?_
 clear E; intro w58 a hc59 H_ E
 replace H := H_; clear H_; try dsimp only [setn, addE, goneL] at H
 refine vp 1 [(5, .int .i64 r40.2)] E ?_
 clear E; intro a E
 refine nn_ <| wp_ret ?_
 obtain rfl := Option.some.inj hP
 refine retV E [.cell 4 26, .tmp 5] [.agg #[.int .i64 r40.1.1, .slice A49 r40.1.2.1.length c50, .slice A52 r40.1.2.2.1.length c53, .slice A55 r40.1.2.2.2.length c56], .int .i64 r40.2] rfl ⟨⟨_, rfl, run_loadBx tbok (H.box 8 rfl) rfl rfl rfl 0 rfl rfl⟩, rfl, trivial⟩ (.inl rfl) ?_
 exact ⟨_, rfl, A49, c50, A52, c53, A55, c56, rfl, H.sel [9, 10, 11] rfl⟩

/-! rejoinder/letter.number -/
def letter_number (N : Nat) (n : Int) : Option Bool :=
  if 0 ≤ n then
    some (decide (n ≤ 8))
  else
    some false
theorem letter_number_calls {N : Nat} {S Fa : Nat → Prop} {w0 : World} {r : Bool} (n : Int) (H : Hp S Fa w0 w0 []) (hP : letter_number N n = some r) :
    Calls Try.prog 93 #[.int .i64 n] w0 fun e w' => ∃ v, e = .returned v ∧ v = .bool r ∧ Hp S Fa w0 w' [] := by
 refine enterV (n := 9) Try.func93 rfl rfl rfl ?_
 intro a E
 replace E := E.pick [(0, .int .i64 n)] ⟨rfl, trivial⟩
 rw [letter_number] at hP
 refine sr_ <| vp 1 [] E ?_
 clear E; intro a E
 refine nn_ <| sr_ <| vp 3 [(5, .bool (decide (0 ≤ n)))] E ?_
 clear E; intro a E
 revert E; refine csE 5 rfl (fun hb_ E => ?_) fun hb_ E => ?_
 ·
  have h1 : 0 ≤ n := of_decide_eq_true hb_
  replace hP := ite_t h1 hP
  refine vp 4 [(2, .bool (decide (n ≤ 8)))] E ?_
  clear E; intro a E
  refine nn_ <| wp_ret ?_
  obtain rfl := Option.some.inj hP
  refine ret1 E rfl rfl ?_
  exact ⟨_, rfl, rfl, H.sel [] rfl⟩
 have h2 : ¬ (0 ≤ n) := of_decide_eq_false hb_
 replace hP := ite_f h2 hP
 refine vp 4 [(2, .bool false)] E ?_
 clear E; intro a E
 refine nn_ <| wp_ret ?_
 obtain rfl := Option.some.inj hP
 refine ret1 E rfl rfl ?_
 exact ⟨_, rfl, rfl, H.sel [] rfl⟩

/-! rejoinder/letter.Fits -/
def letter_Fits (N : Nat) (n : Int) (ll : Int) : Option Bool :=
  Option.bind (letter_number N n) fun r1 =>
  if r1 = true then
    ask (in64 ll) <|
    ask (0 ≤ n) <|
    some ((shrV .i64 ll n : Int) == 0)
  else
    some false
theorem letter_Fits_calls {N : Nat} {S Fa : Nat → Prop} {w0 : World} {r : Bool} (n : Int) (ll : Int) (H : Hp S Fa w0 w0 []) (hP : letter_Fits N n ll = some r) :
    Calls Try.prog 94 #[.int .i64 n, .int .u8 ll] w0 fun e w' => ∃ v, e = .returned v ∧ v = .bool r ∧ Hp S Fa w0 w' [] := by
 refine enterV (n := 14) Try.func94 rfl rfl rfl ?_
 intro a E
 replace E := E.pick [(0, .int .i64 n), (1, .int .u8 ll)] ⟨rfl, rfl, trivial⟩
 rw [letter_Fits] at hP
 refine sr_ <| vp 1 [] E ?_
 clear E; intro a E
 refine nn_ <| sr_ <| vp 1 [(5, .int .i64 n)] E ?_
 clear E; intro a E
 obtain ⟨r1, h2, hP⟩ := bind_inv hP
 obtain ⟨Fa3, Hc4, hb5⟩ := H.call [] [] rfl rfl trivial
 refine e_call E rfl rfl Try.func93 rfl rfl rfl (letter_number_calls  n  Hc4 h2) ?_
 rintro v6 w7 a ⟨rfl, HR8⟩ E_
 replace E := E_ _ rfl; clear E_
 obtain ⟨H_, hc9⟩ := hb5 _ _ HR8 rfl
 replace H := H_; clear H_; try dsimp only [setn, addE, goneL] at H
 refine vp 1 [(7, .bool r1)] E ?_
 clear E; intro a E
 revert E; refine csE 7 rfl (fun hb_ E => ?_) fun hb_ E => ?_
 ·
  have h10 : r1 = true := hb_
  replace hP := ite_t h10 hP
  obtain ⟨g11, hP⟩ := ask_inv hP
  obtain ⟨g12, hP⟩ := ask_inv hP
  refine vq 7 [.int .i64 ll, .int .i64 (shrV .i64 ll n)] [(4, .bool ((shrV .i64 ll n : Int) == 0))] [IntKind.i64.wrap ll = ll, 0 ≤ n ∧ Int.fdiv ll (2 ^ (min n.toNat (IntKind.bits .i64))) = shrV .i64 ll n] E ⟨wrap_in g11, ⟨g12, rfl⟩⟩ ?_
  clear E; intro a E
  refine nn_ <| wp_ret ?_
  obtain rfl := Option.some.inj hP
  refine ret1 E rfl rfl ?_
  exact ⟨_, rfl, rfl, H.sel [] rfl⟩
 have h13 : ¬ (r1 = true) := (ne_true_of_eq_false hb_)
 replace hP := ite_f h13 hP
 refine vp 7 [(4, .bool false)] E ?_
 clear E; intro a E
 refine nn_ <| wp_ret ?_
 obtain rfl := Option.some.inj hP
 refine ret1 E rfl rfl ?_
 exact ⟨_, rfl, rfl, H.sel [] rfl⟩

/-! rejoinder/letter.Trace -/
def letter_Trace_l0 (N : Nat) (n : Int) (t : List Int) : Nat → Int → Option (Unit ⊕ Int)
  | 0, _ => none
  | m52 + 1, x34 =>
    if x34 < (t.length : Int) then
      ask (idx x34 t.length) <|
      Option.bind (letter_Fits N n (List.getD t x34.toNat 0)) fun r63 =>
      if r63 = true then
        ask (in64 (x34 + 1)) <|
        letter_Trace_l0 N n t m52 (x34 + 1)
      else
        some (Sum.inr 2)
    else
      some (Sum.inl ())
def letter_Trace (N : Nat) (n : Int) (t : List Int) : Option Int :=
  Option.bind (letter_number N n) fun r5 =>
  if r5 = true then
    if 1024 < (t.length : Int) then
      some 3
    else
      Option.bind (letter_Trace_l0 N n t N 0) fun x53 =>
      Sum.elim (fun x58 =>
        some 0)
       (fun x76 =>
        some x76) x53
  else
    some 2
theorem letter_Trace_calls {N : Nat} {S Fa : Nat → Prop} {w0 : World} {r : Int} (A1 : Option Addr) (c2 : Nat) (n : Int) (t : List Int) (hk3 : List.length t ≤ c2) (H : Hp S Fa w0 w0 [.ro false (cInt .u8) A1 t]) (hP : letter_Trace N n t = some r) :
    Calls Try.prog 80 #[.int .i64 n, .slice A1 t.length c2] w0 fun e w' => ∃ v, e = .returned v ∧ v = .int .i64 r ∧ Hp S Fa w0 w' [] := by
 refine enterV (n := 24) Try.func80 rfl rfl rfl ?_
 intro a E
 replace E := E.pick [(0, .int .i64 n), (1, .slice A1 t.length c2)] ⟨rfl, rfl, trivial⟩
 rw [letter_Trace] at hP
 refine sr_ <| vp 1 [] E ?_
 clear E; intro a E
 refine nn_ <| wp_seq <| sr_ <| vp 1 [(7, .int .i64 n)] E ?_
 clear E; intro a E
 obtain ⟨r5, h6, hP⟩ := bind_inv hP
 obtain ⟨Fa7, Hc8, hb9⟩ := H.call [] [] rfl rfl trivial
 refine e_call E rfl rfl Try.func93 rfl rfl rfl (letter_number_calls  n  Hc8 h6) ?_
 rintro v10 w11 a ⟨rfl, HR12⟩ E_
 replace E := E_ _ rfl; clear E_
 obtain ⟨H_, hc13⟩ := hb9 _ _ HR12 rfl
 replace H := H_; clear H_; try dsimp only [setn, addE, goneL] at H
 refine vp 1 [(9, .bool (!r5))] E ?_
 clear E; intro a E
 refine nn_ ?_
 revert E; refine csE 9 rfl (fun hb_ E => ?_) fun hb_ E => ?_
 ·
  have h14 : ¬ (r5 = true) := (ne_true_of_eq_false (not_t hb_))
  replace hP := ite_f h14 hP
  refine c_true E rfl <| sr_ <| vp 1 [(4, .int .i64 2)] E ?_
  clear E; intro a E
  refine nn_ <| wp_ret <| th_ret ?_
  obtain rfl := Option.some.inj hP
  refine ret1 E rfl rfl ?_
  exact ⟨_, rfl, rfl, H.sel [] rfl⟩
 have h15 : r5 = true := (not_f hb_)
 replace hP := ite_t h15 hP
 refine c_false E rfl <| wp_skip <| th_n <| wp_seq <| sr_ <| vp 3 [(12, .bool (decide (1024 < (t.length : Int))))] E ?_
 clear E; intro a E
 refine nn_ ?_
 revert E; refine csE 12 rfl (fun hb_ E => ?_) fun hb_ E => ?_
 ·
  have h16 : 1024 < (t.length : Int) := of_decide_eq_true hb_
  replace hP := ite_t h16 hP
  refine c_true E rfl <| sr_ <| vp 1 [(4, .int .i64 3)] E ?_
  clear E; intro a E
  refine nn_ <| wp_ret <| th_ret ?_
  obtain rfl := Option.some.inj hP
  refine ret1 E rfl rfl ?_
  exact ⟨_, rfl, rfl, H.sel [] rfl⟩
 have h17 : ¬ (1024 < (t.length : Int)) := of_decide_eq_false hb_
 replace hP := ite_f h17 hP
 refine c_false E rfl <| wp_skip <| th_n <| wp_seq <| sr_ <| vp 3 [(13, .slice A1 t.length c2), (14, .int .i64 (t.length : Int)), (15, .int .i64 0)] E ?_
 clear E; intro a E
 refine nn_ <| wp_block ?_
 obtain ⟨x53, hL54, hK55⟩ := bind_inv hP
 clear hP
 refine loop_cut (fun i_ a w_ => (i_ = 0 ∧ ∃ (x58 : Unit), Fr a 24 [] ∧ Hp S Fa w0 w_ [] ∧ x53 = Sum.inl x58)) ?_ ?_
 ·
  refine loopV (fun m57 a w56 => ∃ (x34 : Int), Fr a 24 [(0, .int .i64 n), (13, .slice A1 t.length c2), (14, .int .i64 (t.length : Int)), (15, .int .i64 x34)] ∧ Hp S Fa w0 w56 [.ro false (cInt .u8) A1 t] ∧ letter_Trace_l0 N n t m57 x34 = some x53) N ?_ ?_
  ·
   exact ⟨0, E.pk, H.sel [0] rfl, hL54⟩
  clear E H hL54; intro m57 a w56 hI_
  obtain ⟨x34, E, H, hP⟩ := hI_
  obtain ⟨m52, rfl⟩ : ∃ q_, m57 = q_ + 1 := by cases m57 with | zero => rw [letter_Trace_l0] at hP; cases hP | succ q_ => exact ⟨q_, rfl⟩
  rw [letter_Trace_l0] at hP
  refine sr_ <| vp 1 [(16, .bool (decide (x34 < (t.length : Int))))] E ?_
  clear E; intro a E
  refine nn_ <| wp_seq ?_
  revert E; refine csE 16 rfl (fun hb_ E => ?_) fun hb_ E => ?_
  ·
   have h59 : x34 < (t.length : Int) := of_decide_eq_true hb_
   replace hP := ite_t h59 hP
   refine c_true E rfl <| wp_skip <| th_n <| wp_seq <| wp_block <| sr_ ?_
   obtain ⟨g60, hP⟩ := ask_inv hP
   obtain ⟨b61, o62, e_b61⟩ := (H.rd 0 rds_ro).addr (idx_pos g60)
   subst e_b61
   refine vq 3 [.int .u8 (List.getD t x34.toNat 0)] [(6, .int .u8 (List.getD t x34.toNat 0))] [0 ≤ x34 ∧ x34 < (t.length : Int), World.cell? w56 ⟨b61, o62 + x34.toNat * 1, none⟩ = some (.int .u8 (List.getD t x34.toNat 0))] E ⟨g60, Rds.at1 (H.rd 0 rds_ro) 0 g60⟩ ?_
   clear E; intro a E
   refine nn_ <| sr_ <| vp 2 [(19, .int .i64 n), (20, .int .u8 (List.getD t x34.toNat 0))] E ?_
   clear E; intro a E
   obtain ⟨r63, h64, hP⟩ := bind_inv hP
   obtain ⟨Fa65, Hc66, hb67⟩ := H.call [] [] rfl rfl trivial
   refine e_call E rfl rfl Try.func94 rfl rfl rfl (letter_Fits_calls  n (List.getD t x34.toNat 0)  Hc66 h64) ?_
   rintro v68 w69 a ⟨rfl, HR70⟩ E_
   replace E := E_ _ rfl; clear E_
   obtain ⟨H_, hc71⟩ := hb67 _ _ HR70 rfl
   replace H := H_; clear H_; try dsimp only [setn, addE, goneL] at H
   refine vp 1 [(22, .bool (!r63))] E ?_
   clear E; intro a E
   refine nn_ ?_
   revert E; refine csE 22 rfl (fun hb_ E => ?_) fun hb_ E => ?_
   ·
    have h72 : ¬ (r63 = true) := (ne_true_of_eq_false (not_t hb_))
    replace hP := ite_f h72 hP
    refine c_true E rfl <| sr_ <| vp 1 [(4, .int .i64 2)] E ?_
    clear E; intro a E
    refine nn_ <| wp_ret <| bl_ret <| th_ret <| th_ret <| .inr ⟨rfl, ?_⟩
    refine bl_ret <| th_ret ?_
    have hx_ := Option.some.inj hP; subst hx_
    have hP : some (2) = some r := hK55
    obtain rfl := Option.some.inj hP
    refine ret1 E rfl rfl ?_
    exact ⟨_, rfl, rfl, H.sel [] rfl⟩
   have h73 : r63 = true := (not_f hb_)
   replace hP := ite_t h73 hP
   refine c_false E rfl <| wp_skip <| bl_n <| th_n <| rl_ ?_
   obtain ⟨g74, hP⟩ := ask_inv hP
   refine vq 2 [.int .i64 (x34 + 1)] [(15, .int .i64 (x34 + 1))] [IntKind.i64.wrap (x34 + 1) = x34 + 1] E (wrap_in g74) ?_
   clear E; intro a E
   refine nl_ ?_
   exact th_n ⟨m52, Nat.lt_succ_self _, x34 + 1, E.pk, H.sel [0] rfl, hP⟩
  have h75 : ¬ (x34 < (t.length : Int)) := of_decide_eq_false hb_
  replace hP := ite_f h75 hP
  refine c_false E rfl <| wp_exit <| th_exit ?_
  have hx_ := Option.some.inj hP
  refine th_exit (.inl ⟨0, rfl, ?_⟩)
  exact ⟨rfl, (), E.pick _ trivial, H.sel [] rfl, hx_.symm⟩
 clear E H hL54; intro i_ a w56 hM_
 obtain ⟨rfl, x58, E, H, hx_⟩ := hM_
 subst hx_; have hP := elim_l hK55
 clear hK55
 refine bl_hit <| th_n <| sr_ <| vp 1 [(4, .int .i64 0)] E ?_
 clear E; intro a E
 refine nn_ <| wp_ret ?_
 obtain rfl := Option.some.inj hP
 refine ret1 E rfl rfl ?_
 exact ⟨_, rfl, rfl, H.sel [] rfl⟩

/-! rejoinder/canon.Run -/
def canon_Run_l0 (N : Nat) (aGuard : List Int) (aNodes : List Nd) (t : List Int) : Nat → Int → Int → Option Int
  | 0, _, _ => none
  | m104 + 1, q72, x73 =>
    if x73 < (t.length : Int) then
      ask (idx x73 t.length) <|
      ask (idx q72 aGuard.length) <|
      Option.bind (guard_Go N aNodes (List.getD aGuard q72.toNat 0) (List.getD t x73.toNat 0)) fun r118 =>
      ask (in64 (x73 + 1)) <|
      canon_Run_l0 N aGuard aNodes t m104 r118.1 (x73 + 1)
    else
      some q72
def canon_Run (N : Nat) (aProps : Int) (aAccept : List Bool) (aGuard : List Int) (aNodes : List Nd) (t : List Int) : Option (Int × Int) :=
  Option.bind (guard_Check N aProps aAccept aGuard aNodes) fun r22 =>
  if (r22 : Int) = 0 then
    Option.bind (letter_Trace N aProps t) fun r33 =>
    if (r33 : Int) = 0 then
      Option.bind (canon_Run_l0 N aGuard aNodes t N 0 0) fun x105 =>
      some (x105, 0)
    else
      some (0, r33)
  else
    some (0, r22)
theorem canon_Run_calls {N : Nat} {S Fa : Nat → Prop} {w0 : World} {r : Int × Int} (A1 : Option Addr) (c2 : Nat) (A5 : Option Addr) (c6 : Nat) (A9 : Option Addr) (c10 : Nat) (A13 : Option Addr) (c14 : Nat) (aProps : Int) (aAccept : List Bool) (aGuard : List Int) (aNodes : List Nd) (t : List Int) (hk3 : List.length aAccept ≤ c2) (hk7 : List.length aGuard ≤ c6) (hk11 : List.length aNodes ≤ c10) (hk15 : List.length t ≤ c14) (H : Hp S Fa w0 w0 [.ro false cBool A1 aAccept, .ro false (cInt .i64) A5 aGuard, .ro false cNode A9 aNodes, .ro false (cInt .u8) A13 t]) (hP : canon_Run N aProps aAccept aGuard aNodes t = some r) :
    Calls Try.prog 59 #[.agg #[.int .i64 aProps, .slice A1 aAccept.length c2, .slice A5 aGuard.length c6, .slice A9 aNodes.length c10], .slice A13 t.length c14] w0 fun e w' => ∃ v, e = .returned v ∧ v = .tuple #[.int .i64 r.1, .int .i64 r.2] ∧ Hp S Fa w0 w' [] := by
 refine enterV (n := 43) Try.func59 rfl rfl rfl ?_
 intro a E
 replace E := E.pick [(0, .agg #[.int .i64 aProps, .slice A1 aAccept.length c2, .slice A5 aGuard.length c6, .slice A9 aNodes.length c10]), (1, .slice A13 t.length c14)] ⟨rfl, rfl, trivial⟩
 rw [canon_Run] at hP
 refine sr_ <| h_box H E rfl rfl rfl ?_
 clear H E; intro w18 g17 a hc19 hg21 H E; replace E := E _ rfl; try dsimp only [setn, addE, goneL] at H
 refine vp 2 [] E ?_
 clear E; intro a E
 refine nn_ <| wp_seq <| sr_ <| vq 1 [.agg #[.int .i64 aProps, .slice A1 aAccept.length c2, .slice A5 aGuard.length c6, .slice A9 aNodes.length c10]] [(11, .agg #[.int .i64 aProps, .slice A1 aAccept.length c2, .slice A5 aGuard.length c6, .slice A9 aNodes.length c10])] [cellsAt w18 g17 (0) [.int .i64 aProps, .slice A1 aAccept.length c2, .slice A5 aGuard.length c6, .slice A9 aNodes.length c10]] E ((H.box 4 rfl).sub 0 _ rfl) ?_
 clear E; intro a E
 obtain ⟨r22, h23, hP⟩ := bind_inv hP
 obtain ⟨Fa24, Hc25, hb26⟩ := H.call [] [(0, false), (1, false), (2, false)] rfl rfl trivial
 refine e_call E rfl rfl Try.func51 rfl rfl rfl (guard_Check_calls A1 c2 A5 c6 A9 c10 aProps aAccept aGuard aNodes hk3 hk7 hk11 Hc25 h23) ?_
 rintro v27 w28 a ⟨rfl, HR29⟩ E_
 replace E := E_ _ rfl; clear E_
 obtain ⟨H_, hc30⟩ := hb26 _ _ HR29 rfl
 replace H := H_; clear H_; try dsimp only [setn, addE, goneL] at H
 refine vp 1 [(6, .int .i64 r22)] E ?_
 clear E; intro a E
 refine nn_ <| sr_ <| vp 2 [(14, .bool ((r22 : Int) != 0))] E ?_
 clear E; intro a E
 refine nn_ ?_
 revert E; refine csE 14 rfl (fun hb_ E => ?_) fun hb_ E => ?_
 ·
  have h31 : ¬ ((r22 : Int) = 0) := bne_iff_ne.1 hb_
  replace hP := ite_f h31 hP
  refine c_true E rfl <| sr_ <| vp 3 [(4, .int .i64 0), (5, .int .i64 r22)] E ?_
  clear E; intro a E
  refine nn_ <| wp_ret <| th_ret ?_
  obtain rfl := Option.some.inj hP
  refine ret2 E rfl rfl rfl ?_
  exact ⟨_, rfl, rfl, H.sel [] rfl⟩
 have h32 : (r22 : Int) = 0 := bne_eq_false_iff_eq.1 hb_
 replace hP := ite_t h32 hP
 refine c_false E rfl <| wp_skip <| th_n <| wp_seq <| sr_ <| vq 3 [.int .i64 aProps] [(17, .int .i64 aProps), (18, .slice A13 t.length c14)] [World.cell? w28 ⟨g17, 0, none⟩ = some (.int .i64 aProps)] E ((H.box 4 rfl).cell (j := 0) rfl) ?_
 clear E; intro a E
 obtain ⟨r33, h34, hP⟩ := bind_inv hP
 obtain ⟨Fa35, Hc36, hb37⟩ := H.call [] [(3, false)] rfl rfl trivial
 refine e_call E rfl rfl Try.func80 rfl rfl rfl (letter_Trace_calls A13 c14 aProps t hk15 Hc36 h34) ?_
 rintro v38 w39 a ⟨rfl, HR40⟩ E_
 replace E := E_ _ rfl; clear E_
 obtain ⟨H_, hc41⟩ := hb37 _ _ HR40 rfl
 replace H := H_; clear H_; try dsimp only [setn, addE, goneL] at H
 refine vp 1 [(7, .int .i64 r33)] E ?_
 clear E; intro a E
 refine nn_ <| sr_ <| vp 2 [(21, .bool ((r33 : Int) != 0))] E ?_
 clear E; intro a E
 refine nn_ ?_
 revert E; refine csE 21 rfl (fun hb_ E => ?_) fun hb_ E => ?_
 ·
  have h42 : ¬ ((r33 : Int) = 0) := bne_iff_ne.1 hb_
  replace hP := ite_f h42 hP
  refine c_true E rfl <| sr_ <| vp 3 [(4, .int .i64 0), (5, .int .i64 r33)] E ?_
  clear E; intro a E
  refine nn_ <| wp_ret <| th_ret ?_
  obtain rfl := Option.some.inj hP
  refine ret2 E rfl rfl rfl ?_
  exact ⟨_, rfl, rfl, H.sel [] rfl⟩
 have h43 : (r33 : Int) = 0 := bne_eq_false_iff_eq.1 hb_
 replace hP := ite_t h43 hP
 refine c_false E rfl <| wp_skip <| th_n <| sr_ <| vp 1 [(8, .int .i64 0)] E ?_
 clear E; intro a E
 refine nn_ <| wp_seq <| sr_ <| vp 3 [(23, .slice A13 t.length c14), (24, .int .i64 (t.length : Int)), (25, .int .i64 0)] E ?_
 clear E; intro a E
 refine nn_ <| wp_block ?_
 obtain ⟨x105, hL106, hK107⟩ := bind_inv hP
 clear hP
 refine loop_cut (fun i_ a w_ => (i_ = 0 ∧ ∃ (x110 : Int), Fr a 43 [(8, .int .i64 x110)] ∧ Hp S Fa w0 w_ [] ∧ x105 = x110)) ?_ ?_
 ·
  refine loopV (fun m109 a w108 => ∃ (q72 : Int) (x73 : Int), Fr a 43 [(2, .pointer (some ⟨g17, 0, none⟩)), (8, .int .i64 q72), (23, .slice A13 t.length c14), (24, .int .i64 (t.length : Int)), (25, .int .i64 x73)] ∧ Hp S Fa w0 w108 [.ro false cBool A1 aAccept, .ro false (cInt .i64) A5 aGuard, .ro false cNode A9 aNodes, .box g17 26 [.int .i64 aProps, .slice A1 aAccept.length c2, .slice A5 aGuard.length c6, .slice A9 aNodes.length c10], .ro false (cInt .u8) A13 t] ∧ canon_Run_l0 N aGuard aNodes t m109 q72 x73 = some x105) N ?_ ?_
  ·
   exact ⟨0, 0, E.pk, H.sel [0, 1, 2, 4, 3] rfl, hL106⟩
  clear E H hL106; intro m109 a w108 hI_
  obtain ⟨q72, x73, E, H, hP⟩ := hI_
  obtain ⟨m104, rfl⟩ : ∃ q_, m109 = q_ + 1 := by cases m109 with | zero => rw [canon_Run_l0] at hP; cases hP | succ q_ => exact ⟨q_, rfl⟩
  rw [canon_Run_l0] at hP
  refine sr_ <| vp 1 [(26, .bool (decide (x73 < (t.length : Int))))] E ?_
  clear E; intro a E
  refine nn_ <| wp_seq ?_
  revert E; refine csE 26 rfl (fun hb_ E => ?_) fun hb_ E => ?_
  ·
   have h111 : x73 < (t.length : Int) := of_decide_eq_true hb_
   replace hP := ite_t h111 hP
   refine c_true E rfl <| wp_skip <| th_n <| wp_seq <| wp_block <| sr_ ?_
   obtain ⟨g112, hP⟩ := ask_inv hP
   obtain ⟨b113, o114, e_b113⟩ := (H.rd 4 rds_ro).addr (idx_pos g112)
   subst e_b113
   refine vq 3 [.int .u8 (List.getD t x73.toNat 0)] [(10, .int .u8 (List.getD t x73.toNat 0))] [0 ≤ x73 ∧ x73 < (t.length : Int), World.cell? w108 ⟨b113, o114 + x73.toNat * 1, none⟩ = some (.int .u8 (List.getD t x73.toNat 0))] E ⟨g112, Rds.at1 (H.rd 4 rds_ro) 0 g112⟩ ?_
   clear E; intro a E
   refine nn_ ?_
   obtain ⟨g115, hP⟩ := ask_inv hP
   obtain ⟨b116, o117, e_b116⟩ := (H.rd 1 rds_ro).addr (idx_pos g115)
   subst e_b116
   obtain ⟨r118, h119, hP⟩ := bind_inv hP
   have HR130 := H
   refine dr_start (S := fun w_ => Chg (atL []) w108 w_) (by kernel_rfl) ?_
   intro w127 hc128
   have HS129 : Chg (atL []) w108 w127 := hc128.mono (fun _ _ h_ => h_.elim)
   replace H := H.ext hc128
   refine dn tbok (by kernel_rfl) [0, 1, 2, 3, 4, 5, 6, 7] [.slice A9 aNodes.length c10, .slice (some ⟨b116, o117, none⟩) aGuard.length c6, .int .i64 (List.getD aGuard q72.toNat 0)] [(31, .slice A9 aNodes.length c10), (36, .int .i64 (List.getD aGuard q72.toNat 0)), (37, .int .u8 (List.getD t x73.toNat 0))] (fun w_ => [World.cell? w_ ⟨g17, 3, none⟩ = some (.slice A9 aNodes.length c10), World.cell? w_ ⟨g17, 2, none⟩ = some (.slice (some ⟨b116, o117, none⟩) aGuard.length c6), 0 ≤ q72 ∧ q72 < (aGuard.length : Int), World.cell? w_ ⟨b116, o117 + q72.toNat * 1, none⟩ = some (.int .i64 (List.getD aGuard q72.toNat 0))]) 5 E (fun _ _ => by kernel_rfl) (by kernel_rfl) (fun w_ hS_ => ⟨(HR130.boxk [] hS_ 3 rfl rfl).cell (j := 3) rfl, (HR130.boxk [] hS_ 3 rfl rfl).cell (j := 2) rfl, g115, Rds.at1 (HR130.rdk [] hS_ 1 rds_ro rfl) 0 g115⟩) (by kernel_rfl) HS129 ?_
   clear E; intro a E
   refine wpAnyH_all (rs := [8]) (by kernel_rfl) (by simp) ?_
   refine all1 ?_
   refine wpOp_of_list rfl ?_
   obtain ⟨Fa131, Hc132, hb133⟩ := H.call [] [(2, false)] rfl rfl trivial
   refine e_call E rfl rfl Try.func81 rfl rfl rfl (guard_Go_calls A9 c10 aNodes (List.getD aGuard q72.toNat 0) (List.getD t x73.toNat 0) hk11 Hc132 h119) ?_
   rintro v134 w135 a ⟨rfl, HR136⟩ E_
   replace E := E_ _ rfl; clear E_
   obtain ⟨H_, hc137⟩ := hb133 _ _ HR136 rfl
   replace HS129 := HS129.ext (callS_ext hc137)
   replace H := H_; clear H_; try dsimp only [setn, addE, goneL] at H
   refine nl_ <| th_n ⟨HS129, ?_⟩
   refine dn tbok (by kernel_rfl) [9, 10, 11, 12] [] [(8, .int .i64 r118.1)] (fun w_ => []) 0 E (fun _ _ => by kernel_rfl) (by kernel_rfl) (fun w_ hS_ => trivial) (by kernel_rfl) HS129 ?_
   clear E; intro a E
   refine dr_done (by kernel_rfl) ?_
   clear HS129 HR130
   refine bl_n <| th_n <| rl_ ?_
   obtain ⟨g138, hP⟩ := ask_inv hP
   refine vq 2 [.int .i64 (x73 + 1)] [(25, .int .i64 (x73 + 1))] [IntKind.i64.wrap (x73 + 1) = x73 + 1] E (wrap_in g138) ?_
   clear E; intro a E
   refine nl_ ?_
   exact th_n ⟨m104, Nat.lt_succ_self _, r118.1, x73 + 1, E.pk, H.sel (up 5) rfl, hP⟩
  have h139 : ¬ (x73 < (t.length : Int)) := of_decide_eq_false hb_
  replace hP := ite_f h139 hP
  refine c_false E rfl <| wp_exit <| th_exit ?_
  have hx_ := Option.some.inj hP
  refine th_exit (.inl ⟨0, rfl, ?_⟩)
  exact ⟨rfl, q72, E.pk, H.sel [] rfl, hx_.symm⟩
 clear E H hL106; intro i_ a w108 hM_
 obtain ⟨rfl, x110, E, H, hx_⟩ := hM_
 subst hx_; have hP := hK107; clear hK107
 refine bl_hit <| th_n <| sr_ <| vp 3 [(4, .int .i64 x105), (5, .int .i64 0)] E ?_
 clear E; intro a E
 refine nn_ <| wp_ret ?_
 obtain rfl := Option.some.inj hP
 refine ret2 E rfl rfl rfl ?_
 exact ⟨_, rfl, rfl, H.sel [] rfl⟩

/-! rejoinder/rejoinderlaw20.accepts -/
def law20_accepts (N : Nat) (aProps : Int) (aAccept : List Bool) (aGuard : List Int) (aNodes : List Nd) (t : List Int) : Option Bool :=
  Option.bind (canon_Run N aProps aAccept aGuard aNodes t) fun r22 =>
  if (r22.2 : Int) = 0 then
    if 0 ≤ r22.1 then
      if r22.1 < (aAccept.length : Int) then
        ask (idx r22.1 aAccept.length) <|
        some (List.getD aAccept r22.1.toNat false)
      else
        some false
    else
      some false
  else
    some false
theorem law20_accepts_calls {N : Nat} {S Fa : Nat → Prop} {w0 : World} {r : Bool} (A1 : Option Addr) (c2 : Nat) (A5 : Option Addr) (c6 : Nat) (A9 : Option Addr) (c10 : Nat) (A13 : Option Addr) (c14 : Nat) (aProps : Int) (aAccept : List Bool) (aGuard : List Int) (aNodes : List Nd) (t : List Int) (hk3 : List.length aAccept ≤ c2) (hk7 : List.length aGuard ≤ c6) (hk11 : List.length aNodes ≤ c10) (hk15 : List.length t ≤ c14) (H : Hp S Fa w0 w0 [.ro false cBool A1 aAccept, .ro false (cInt .i64) A5 aGuard, .ro false cNode A9 aNodes, .ro false (cInt .u8) A13 t]) (hP : law20_accepts N aProps aAccept aGuard aNodes t = some r) :
    Calls Try.prog 29 #[.agg #[.int .i64 aProps, .slice A1 aAccept.length c2, .slice A5 aGuard.length c6, .slice A9 aNodes.length c10], .slice A13 t.length c14] w0 fun e w' => ∃ v, e = .returned v ∧ v = .bool r ∧ Hp S Fa w0 w' [] := by
 refine enterV (n := 33) Try.func29 rfl rfl rfl ?_
 intro a E
 replace E := E.pick [(0, .agg #[.int .i64 aProps, .slice A1 aAccept.length c2, .slice A5 aGuard.length c6, .slice A9 aNodes.length c10]), (1, .slice A13 t.length c14)] ⟨rfl, rfl, trivial⟩
 rw [law20_accepts] at hP
 refine sr_ <| h_box H E rfl rfl rfl ?_
 clear H E; intro w18 g17 a hc19 hg21 H E; replace E := E _ rfl; try dsimp only [setn, addE, goneL] at H
 refine vp 1 [] E ?_
 clear E; intro a E
 refine nn_ <| sr_ <| vq 2 [.agg #[.int .i64 aProps, .slice A1 aAccept.length c2, .slice A5 aGuard.length c6, .slice A9 aNodes.length c10]] [(8, .agg #[.int .i64 aProps, .slice A1 aAccept.length c2, .slice A5 aGuard.length c6, .slice A9 aNodes.length c10]), (9, .slice A13 t.length c14)] [cellsAt w18 g17 (0) [.int .i64 aProps, .slice A1 aAccept.length c2, .slice A5 aGuard.length c6, .slice A9 aNodes.length c10]] E ((H.box 4 rfl).sub 0 _ rfl) ?_
 clear E; intro a E
 obtain ⟨r22, h23, hP⟩ := bind_inv hP
 obtain ⟨Fa24, Hc25, hb26⟩ := H.call [] [(0, false), (1, false), (2, false), (3, false)] rfl rfl trivial
 refine e_call E rfl rfl Try.func59 rfl rfl rfl (canon_Run_calls A1 c2 A5 c6 A9 c10 A13 c14 aProps aAccept aGuard aNodes t hk3 hk7 hk11 hk15 Hc25 h23) ?_
 rintro v27 w28 a ⟨rfl, HR29⟩ E_
 replace E := E_ _ rfl; clear E_
 obtain ⟨H_, hc30⟩ := hb26 _ _ HR29 rfl
 replace H := H_; clear H_; try dsimp only [setn, addE, goneL] at H
 refine vp 5 [(5, .int .i64 r22.1), (6, .int .i64 r22.2)] E ?_
 clear E; intro a E
 refine nn_ <| sr_ <| vp 3 [(15, .bool ((r22.2 : Int) == 0))] E ?_
 clear E; intro a E
 revert E; refine csE 15 rfl (fun hb_ E => ?_) fun hb_ E => ?_
 ·
  have h31 : (r22.2 : Int) = 0 := eq_of_beq hb_
  replace hP := ite_t h31 hP
  refine vp 4 [(19, .bool (decide (0 ≤ r22.1)))] E ?_
  clear E; intro a E
  revert E; refine csE 19 rfl (fun hb_ E => ?_) fun hb_ E => ?_
  ·
   have h32 : 0 ≤ r22.1 := of_decide_eq_true hb_
   replace hP := ite_t h32 hP
   refine vq 7 [.slice A1 aAccept.length c2] [(26, .bool (decide (r22.1 < (aAccept.length : Int))))] [World.cell? w28 ⟨g17, 1, none⟩ = some (.slice A1 aAccept.length c2)] E ((H.box 4 rfl).cell (j := 1) rfl) ?_
   clear E; intro a E
   revert E; refine csE 26 rfl (fun hb_ E => ?_) fun hb_ E => ?_
   ·
    have h33 : r22.1 < (aAccept.length : Int) := of_decide_eq_true hb_
    replace hP := ite_t h33 hP
    obtain ⟨g34, hP⟩ := ask_inv hP
    obtain ⟨b35, o36, e_b35⟩ := (H.rd 0 rds_ro).addr (idx_pos g34)
    subst e_b35
    refine vq 7 [.slice (some ⟨b35, o36, none⟩) aAccept.length c2, .bool (List.getD aAccept r22.1.toNat false)] [(4, .bool (List.getD aAccept r22.1.toNat false))] [World.cell? w28 ⟨g17, 1, none⟩ = some (.slice (some ⟨b35, o36, none⟩) aAccept.length c2), 0 ≤ r22.1 ∧ r22.1 < (aAccept.length : Int), World.cell? w28 ⟨b35, o36 + r22.1.toNat * 1, none⟩ = some (.bool (List.getD aAccept r22.1.toNat false))] E ⟨(H.box 4 rfl).cell (j := 1) rfl, g34, Rds.at1 (H.rd 0 rds_ro) false g34⟩ ?_
    clear E; intro a E
    refine nn_ <| wp_ret ?_
    obtain rfl := Option.some.inj hP
    refine ret1 E rfl rfl ?_
    exact ⟨_, rfl, rfl, H.sel [] rfl⟩
   have h37 : ¬ (r22.1 < (aAccept.length : Int)) := of_decide_eq_false hb_
   replace hP := ite_f h37 hP
   refine vp 7 [(4, .bool false)] E ?_
   clear E; intro a E
   refine nn_ <| wp_ret ?_
   obtain rfl := Option.some.inj hP
   refine ret1 E rfl rfl ?_
   exact ⟨_, rfl, rfl, H.sel [] rfl⟩
  have h38 : ¬ (0 ≤ r22.1) := of_decide_eq_false hb_
  replace hP := ite_f h38 hP
  refine vp 14 [(4, .bool false)] E ?_
  clear E; intro a E
  refine nn_ <| wp_ret ?_
  obtain rfl := Option.some.inj hP
  refine ret1 E rfl rfl ?_
  exact ⟨_, rfl, rfl, H.sel [] rfl⟩
 have h39 : ¬ ((r22.2 : Int) = 0) := ne_of_beq_false hb_
 replace hP := ite_f h39 hP
 refine vp 18 [(4, .bool false)] E ?_
 clear E; intro a E
 refine nn_ <| wp_ret ?_
 obtain rfl := Option.some.inj hP
 refine ret1 E rfl rfl ?_
 exact ⟨_, rfl, rfl, H.sel [] rfl⟩

/-! rejoinder/canon.Is -/
def canon_Is (N : Nat) (aProps : Int) (aAccept : List Bool) (aGuard : List Int) (aNodes : List Nd) : Option (Bool × Int) :=
  Option.bind (canon_Min N aProps aAccept aGuard aNodes) fun r18 =>
  if (r18.2 : Int) = 0 then
    Option.bind (canon_Same N r18.1.1 r18.1.2.1 r18.1.2.2.1 r18.1.2.2.2 aProps aAccept aGuard aNodes) fun r44 =>
    some (r44, r18.2)
  else
    some (false, r18.2)
theorem canon_Is_calls {N : Nat} {S Fa : Nat → Prop} {w0 : World} {r : Bool × Int} (A1 : Option Addr) (c2 : Nat) (A5 : Option Addr) (c6 : Nat) (A9 : Option Addr) (c10 : Nat) (aProps : Int) (aAccept : List Bool) (aGuard : List Int) (aNodes : List Nd) (hk3 : List.length aAccept ≤ c2) (hk7 : List.length aGuard ≤ c6) (hk11 : List.length aNodes ≤ c10) (H : Hp S Fa w0 w0 [.ro false cBool A1 aAccept, .ro false (cInt .i64) A5 aGuard, .ro false cNode A9 aNodes]) (hP : canon_Is N aProps aAccept aGuard aNodes = some r) :
    Calls Try.prog 30 #[.agg #[.int .i64 aProps, .slice A1 aAccept.length c2, .slice A5 aGuard.length c6, .slice A9 aNodes.length c10]] w0 fun e w' => ∃ v, e = .returned v ∧ v = .tuple #[.bool r.1, .int .i64 r.2] ∧ Hp S Fa w0 w' [] := by
 refine enterV (n := 19) Try.func30 rfl rfl rfl ?_
 intro a E
 replace E := E.pick [(0, .agg #[.int .i64 aProps, .slice A1 aAccept.length c2, .slice A5 aGuard.length c6, .slice A9 aNodes.length c10])] ⟨rfl, trivial⟩
 rw [canon_Is] at hP
 refine sr_ <| h_box H E rfl rfl rfl ?_
 clear H E; intro w14 g13 a hc15 hg17 H E; replace E := E _ rfl; try dsimp only [setn, addE, goneL] at H
 refine vp 2 [] E ?_
 clear E; intro a E
 refine nn_ <| sr_ <| vq 1 [.agg #[.int .i64 aProps, .slice A1 aAccept.length c2, .slice A5 aGuard.length c6, .slice A9 aNodes.length c10]] [(7, .agg #[.int .i64 aProps, .slice A1 aAccept.length c2, .slice A5 aGuard.length c6, .slice A9 aNodes.length c10])] [cellsAt w14 g13 (0) [.int .i64 aProps, .slice A1 aAccept.length c2, .slice A5 aGuard.length c6, .slice A9 aNodes.length c10]] E ((H.box 3 rfl).sub 0 _ rfl) ?_
 clear E; intro a E
 obtain ⟨r18, h19, hP⟩ := bind_inv hP
 obtain ⟨Fa20, Hc21, hb22⟩ := H.call [] [(0, false), (1, false), (2, false)] rfl rfl trivial
 refine e_call E rfl rfl Try.func25 rfl rfl rfl (canon_Min_calls A1 c2 A5 c6 A9 c10 aProps aAccept aGuard aNodes hk3 hk7 hk11 Hc21 h19) ?_
 rintro v23 w24 a ⟨A27, c28, A30, c31, A33, c34, rfl, HR25⟩ E_
 replace E := E_ _ rfl; clear E_
 obtain ⟨H_, hc26⟩ := hb22 _ _ HR25 rfl
 replace H := H_; clear H_; try dsimp only [setn, addE, goneL] at H
 refine vp 3 [(9, .agg #[.int .i64 r18.1.1, .slice A27 r18.1.2.1.length c28, .slice A30 r18.1.2.2.1.length c31, .slice A33 r18.1.2.2.2.length c34]), (10, .int .i64 r18.2)] E ?_
 clear E; intro a E
 refine h_alloc H E rfl rfl tbok rfl ?_
 clear H E; intro w37 g36 a hc38 hg40 H E; replace E := E _ rfl; try dsimp only [setn, addE, goneL] at H
 refine h_store (g := g36) (off := 0) H 7 rfl E rfl rfl rfl rfl tbok rfl rfl rfl rfl rfl ?_
 clear E; intro w41 a hc42 H_ E
 replace H := H_; clear H_; try dsimp only [setn, addE, goneL] at H
 refine vp 1 [(5, .int .i64 r18.2)] E ?_
 clear E; intro a E
 refine nn_ <| sr_ <| vp 3 [(13, .bool ((r18.2 : Int) == 0))] E ?_
 clear E; intro a E
 revert E; refine csE 13 rfl (fun hb_ E => ?_) fun hb_ E => ?_
 ·
  have h43 : (r18.2 : Int) = 0 := eq_of_beq hb_
  replace hP := ite_t h43 hP
  refine vq 2 [.agg #[.int .i64 r18.1.1, .slice A27 r18.1.2.1.length c28, .slice A30 r18.1.2.2.1.length c31, .slice A33 r18.1.2.2.2.length c34], .agg #[.int .i64 aProps, .slice A1 aAccept.length c2, .slice A5 aGuard.length c6, .slice A9 aNodes.length c10]] [(14, .agg #[.int .i64 r18.1.1, .slice A27 r18.1.2.1.length c28, .slice A30 r18.1.2.2.1.length c31, .slice A33 r18.1.2.2.2.length c34]), (15, .agg #[.int .i64 aProps, .slice A1 aAccept.length c2, .slice A5 aGuard.length c6, .slice A9 aNodes.length c10])] [cellsAt w41 g36 (0) [.int .i64 r18.1.1, .slice A27 r18.1.2.1.length c28, .slice A30 r18.1.2.2.1.length c31, .slice A33 r18.1.2.2.2.length c34], cellsAt w41 g13 (0) [.int .i64 aProps, .slice A1 aAccept.length c2, .slice A5 aGuard.length c6, .slice A9 aNodes.length c10]] E ⟨(H.box 7 rfl).sub 0 _ rfl, (H.box 3 rfl).sub 0 _ rfl⟩ ?_
  clear E; intro a E
  obtain ⟨r44, h45, hP⟩ := bind_inv hP
  obtain ⟨Fa46, Hc47, hb48⟩ := H.call [] [(4, false), (5, false), (6, false), (0, false), (1, false), (2, false)] rfl rfl trivial
  refine e_call E rfl rfl Try.func27 rfl rfl rfl (canon_Same_calls A27 c28 A30 c31 A33 c34 A1 c2 A5 c6 A9 c10 r18.1.1 r18.1.2.1 r18.1.2.2.1 r18.1.2.2.2 aProps aAccept aGuard aNodes (H.rcap 4 rfl) (H.rcap 5 rfl) (H.rcap 6 rfl) hk3 hk7 hk11 Hc47 h45) ?_
  rintro v49 w50 a ⟨rfl, HR51⟩ E_
  replace E := E_ _ rfl; clear E_
  obtain ⟨H_, hc52⟩ := hb48 _ _ HR51 rfl
  replace H := H_; clear H_; try dsimp only [setn, addE, goneL] at H
  refine vp 4 [(2, .bool r44), (3, .int .i64 r18.2)] E ?_
  clear E; intro a E
  refine nn_ <| wp_ret ?_
  obtain rfl := Option.some.inj hP
  refine ret2 E rfl rfl rfl ?_
  exact ⟨_, rfl, rfl, H.sel [] rfl⟩
 have h53 : ¬ ((r18.2 : Int) = 0) := ne_of_beq_false hb_
 replace hP := ite_f h53 hP
 refine vp 7 [(2, .bool false), (3, .int .i64 r18.2)] E ?_
 clear E; intro a E
 refine nn_ <| wp_ret ?_
 obtain rfl := Option.some.inj hP
 refine ret2 E rfl rfl rfl ?_
 exact ⟨_, rfl, rfl, H.sel [] rfl⟩

end Go.V
