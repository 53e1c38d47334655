/- Plain functions, and the calls that give them. -/
import Derived.Test.YtihindpnnbllkaaA5
set_option linter.all false
set_option linter.unusedVariables false
set_option linter.unnecessarySimpa false
set_option linter.unusedSimpArgs false
set_option maxRecDepth 100000
set_option maxHeartbeats 4000000
namespace Go.V
open Go Go.Proofs
/-! rejoinder/both.Not$1 -/
def both_Not_1 (N : Nat) (one : Bool) (x : Bool) : Option Bool :=
  some (!one)
def both_Not_1_p (x y : Bool) : Bool := Option.getD (both_Not_1 0 x y) false
theorem both_Not_1_calls {N : Nat} {S Fa : Nat → Prop} {w0 : World} {r : Bool} (one : Bool) (x : Bool) (H : Hp S Fa w0 w0 []) (hP : both_Not_1 N one x = some r) :
    Calls Try.prog 33 #[.bool one, .bool x] w0 fun e w' => ∃ v, e = .returned v ∧ v = .bool r ∧ Hp S Fa w0 w' [] := by
 refine enterV (n := 7) Try.func33 rfl rfl rfl ?_
 intro a E
 replace E := E.pick [(0, .bool one), (1, .bool x)] ⟨rfl, rfl, trivial⟩
 rw [both_Not_1] at hP
 refine sr_ <| vp 1 [] E ?_
 clear E; intro a E
 refine nn_ <| sr_ <| vp 3 [(4, .bool (!one))] E ?_
 clear E; intro a E
 refine nn_ <| wp_ret ?_
 obtain rfl := Option.some.inj hP
 refine ret1 E rfl rfl ?_
 exact ⟨_, rfl, rfl, H.sel [] rfl⟩
theorem both_Not_1_pure : PureF2 Try.prog (.func (.func 33) #[] #[]) both_Not_1_p := ⟨33, _, #[], rfl, Try.func33, rfl, rfl, fun w x y => (both_Not_1_calls (N := 0) x y (Hp.start w) (by cases x <;> cases y <;> rfl)).mono fun e w' ⟨v, he, hv, H⟩ => ⟨v, he, hv, H.chgd.own⟩⟩

/-! rejoinder/both.Not -/
def both_Not (N : Nat) (aProps : Int) (aAccept : List Bool) (aGuard : List Int) (aNodes : List Nd) : Option ((Int × (List Bool) × (List Int) × (List Nd)) × Int) :=
  Option.bind (both_put N aProps aAccept aGuard aNodes aProps aAccept aGuard aNodes both_Not_1_p) fun r23 =>
  some ((r23.1.1, r23.1.2.1, r23.1.2.2.1, r23.1.2.2.2), r23.2)
theorem both_Not_calls {N : Nat} {S Fa : Nat → Prop} {w0 : World} {r : (Int × (List Bool) × (List Int) × (List Nd)) × Int} (A1 : Option Addr) (c2 : Nat) (A5 : Option Addr) (c6 : Nat) (A9 : Option Addr) (c10 : Nat) (aProps : Int) (aAccept : List Bool) (aGuard : List Int) (aNodes : List Nd) (hk3 : List.length aAccept ≤ c2) (hk7 : List.length aGuard ≤ c6) (hk11 : List.length aNodes ≤ c10) (H : Hp S Fa w0 w0 [.ro false cBool A1 aAccept, .ro false (cInt .i64) A5 aGuard, .ro false cNode A9 aNodes]) (hP : both_Not N aProps aAccept aGuard aNodes = some r) :
    Calls Try.prog 10 #[.agg #[.int .i64 aProps, .slice A1 aAccept.length c2, .slice A5 aGuard.length c6, .slice A9 aNodes.length c10]] w0 fun e w' => ∃ v, e = .returned v ∧ ∃ (A43 : Option Addr) (c44 : Nat) (A45 : Option Addr) (c46 : Nat) (A47 : Option Addr) (c48 : Nat), v = .tuple #[.agg #[.int .i64 r.1.1, .slice A43 r.1.2.1.length c44, .slice A45 r.1.2.2.1.length c46, .slice A47 r.1.2.2.2.length c48], .int .i64 r.2] ∧ Hp S Fa w0 w' [.row true cBool 4 A43 c44 r.1.2.1, .row true (cInt .i64) 3 A45 c46 r.1.2.2.1, .row true cNode 49 A47 c48 r.1.2.2.2] := by
 refine enterV (n := 9) Try.func10 rfl rfl rfl ?_
 intro a E
 replace E := E.pick [(0, .agg #[.int .i64 aProps, .slice A1 aAccept.length c2, .slice A5 aGuard.length c6, .slice A9 aNodes.length c10])] ⟨rfl, trivial⟩
 rw [both_Not] at hP
 refine sr_ <| h_box H E rfl rfl rfl ?_
 clear H E; intro w14 g13 a hc15 hg17 H E; replace E := E _ rfl; try dsimp only [setn, addE, goneL] at H
 refine h_alloc H E rfl rfl tbok rfl ?_
 clear H E; intro w19 g18 a hc20 hg22 H E; replace E := E _ rfl; try dsimp only [setn, addE, goneL] at H
 refine vp 1 [] E ?_
 clear E; intro a E
 refine nn_ <| sr_ <| vq 2 [.agg #[.int .i64 aProps, .slice A1 aAccept.length c2, .slice A5 aGuard.length c6, .slice A9 aNodes.length c10], .agg #[.int .i64 aProps, .slice A1 aAccept.length c2, .slice A5 aGuard.length c6, .slice A9 aNodes.length c10]] [(4, .agg #[.int .i64 aProps, .slice A1 aAccept.length c2, .slice A5 aGuard.length c6, .slice A9 aNodes.length c10]), (5, .agg #[.int .i64 aProps, .slice A1 aAccept.length c2, .slice A5 aGuard.length c6, .slice A9 aNodes.length c10])] [cellsAt w19 g13 (0) [.int .i64 aProps, .slice A1 aAccept.length c2, .slice A5 aGuard.length c6, .slice A9 aNodes.length c10], cellsAt w19 g13 (0) [.int .i64 aProps, .slice A1 aAccept.length c2, .slice A5 aGuard.length c6, .slice A9 aNodes.length c10]] E ⟨(H.box 3 rfl).sub 0 _ rfl, (H.box 3 rfl).sub 0 _ rfl⟩ ?_
 clear E; intro a E
 obtain ⟨r23, h24, hP⟩ := bind_inv hP
 obtain ⟨Fa25, Hc26, hb27⟩ := H.call [] [(0, false), (1, false), (2, false), (0, false), (1, false), (2, false)] rfl rfl trivial
 refine e_call E rfl rfl Try.func32 rfl rfl rfl (both_put_calls A1 c2 A5 c6 A9 c10 A1 c2 A5 c6 A9 c10 (.func (.func 33) #[] #[]) aProps aAccept aGuard aNodes aProps aAccept aGuard aNodes both_Not_1_p hk3 hk7 hk11 hk3 hk7 hk11 both_Not_1_pure Hc26 h24) ?_
 rintro v28 w29 a ⟨A32, c33, A35, c36, A38, c39, rfl, HR30⟩ E_
 replace E := E_ _ rfl; clear E_
 obtain ⟨H_, hc31⟩ := hb27 _ _ HR30 rfl
 replace H := H_; clear H_; try dsimp only [setn, addE, goneL] at H
 refine vp 2 [(7, .agg #[.int .i64 r23.1.1, .slice A32 r23.1.2.1.length c33, .slice A35 r23.1.2.2.1.length c36, .slice A38 r23.1.2.2.2.length c39]), (8, .int .i64 r23.2)] E ?_
 clear E; intro a E
 refine h_store (g := g18) (off := 0) H 4 rfl E rfl rfl rfl rfl tbok rfl rfl rfl rfl rfl ?_
 clear E; intro w41 a hc42 H_ E
 replace H := H_; clear H_; try dsimp only [setn, addE, goneL] at H
 refine vp 1 [(3, .int .i64 r23.2)] E ?_
 clear E; intro a E
 refine nn_ <| wp_ret ?_
 obtain rfl := Option.some.inj hP
 refine retV E [.cell 2 26, .tmp 3] [.agg #[.int .i64 r23.1.1, .slice A32 r23.1.2.1.length c33, .slice A35 r23.1.2.2.1.length c36, .slice A38 r23.1.2.2.2.length c39], .int .i64 r23.2] rfl ⟨⟨_, rfl, run_loadBx tbok (H.box 4 rfl) rfl rfl rfl 0 rfl rfl⟩, rfl, trivial⟩ (.inl rfl) ?_
 exact ⟨_, rfl, A32, c33, A35, c36, A38, c39, rfl, H.sel [5, 6, 7] rfl⟩

/-! rejoinder/both.And$1 -/
def both_And_1 (N : Nat) (one : Bool) (two : Bool) : Option Bool :=
  if one = true then
    some two
  else
    some false
def both_And_1_p (x y : Bool) : Bool := Option.getD (both_And_1 0 x y) false
theorem both_And_1_calls {N : Nat} {S Fa : Nat → Prop} {w0 : World} {r : Bool} (one : Bool) (two : Bool) (H : Hp S Fa w0 w0 []) (hP : both_And_1 N one two = some r) :
    Calls Try.prog 34 #[.bool one, .bool two] w0 fun e w' => ∃ v, e = .returned v ∧ v = .bool r ∧ Hp S Fa w0 w' [] := by
 refine enterV (n := 9) Try.func34 rfl rfl rfl ?_
 intro a E
 replace E := E.pick [(0, .bool one), (1, .bool two)] ⟨rfl, rfl, trivial⟩
 rw [both_And_1] at hP
 refine sr_ <| vp 1 [] E ?_
 clear E; intro a E
 refine nn_ <| sr_ <| vp 2 [(6, .bool one)] E ?_
 clear E; intro a E
 revert E; refine csE 6 rfl (fun hb_ E => ?_) fun hb_ E => ?_
 ·
  have h1 : one = true := hb_
  replace hP := ite_t h1 hP
  refine vp 3 [(4, .bool two)] E ?_
  clear E; intro a E
  refine nn_ <| wp_ret ?_
  obtain rfl := Option.some.inj hP
  refine ret1 E rfl rfl ?_
  exact ⟨_, rfl, rfl, H.sel [] rfl⟩
 have h2 : ¬ (one = true) := (ne_true_of_eq_false hb_)
 replace hP := ite_f h2 hP
 refine vp 3 [(4, .bool false)] E ?_
 clear E; intro a E
 refine nn_ <| wp_ret ?_
 obtain rfl := Option.some.inj hP
 refine ret1 E rfl rfl ?_
 exact ⟨_, rfl, rfl, H.sel [] rfl⟩
theorem both_And_1_pure : PureF2 Try.prog (.func (.func 34) #[] #[]) both_And_1_p := ⟨34, _, #[], rfl, Try.func34, rfl, rfl, fun w x y => (both_And_1_calls (N := 0) x y (Hp.start w) (by cases x <;> cases y <;> rfl)).mono fun e w' ⟨v, he, hv, H⟩ => ⟨v, he, hv, H.chgd.own⟩⟩

/-! rejoinder/both.And -/
def both_And (N : Nat) (aProps : Int) (aAccept : List Bool) (aGuard : List Int) (aNodes : List Nd) (bProps : Int) (bAccept : List Bool) (bGuard : List Int) (bNodes : List Nd) : Option ((Int × (List Bool) × (List Int) × (List Nd)) × Int) :=
  Option.bind (both_put N aProps aAccept aGuard aNodes bProps bAccept bGuard bNodes both_And_1_p) fun r40 =>
  some ((r40.1.1, r40.1.2.1, r40.1.2.2.1, r40.1.2.2.2), r40.2)
theorem both_And_calls {N : Nat} {S Fa : Nat → Prop} {w0 : World} {r : (Int × (List Bool) × (List Int) × (List Nd)) × Int} (A1 : Option Addr) (c2 : Nat) (A5 : Option Addr) (c6 : Nat) (A9 : Option Addr) (c10 : Nat) (A13 : Option Addr) (c14 : Nat) (A17 : Option Addr) (c18 : Nat) (A21 : Option Addr) (c22 : Nat) (aProps : Int) (aAccept : List Bool) (aGuard : List Int) (aNodes : List Nd) (bProps : Int) (bAccept : List Bool) (bGuard : List Int) (bNodes : List Nd) (hk3 : List.length aAccept ≤ c2) (hk7 : List.length aGuard ≤ c6) (hk11 : List.length aNodes ≤ c10) (hk15 : List.length bAccept ≤ c14) (hk19 : List.length bGuard ≤ c18) (hk23 : List.length bNodes ≤ c22) (H : Hp S Fa w0 w0 [.ro false cBool A1 aAccept, .ro false (cInt .i64) A5 aGuard, .ro false cNode A9 aNodes, .ro false cBool A13 bAccept, .ro false (cInt .i64) A17 bGuard, .ro false cNode A21 bNodes]) (hP : both_And N aProps aAccept aGuard aNodes bProps bAccept bGuard bNodes = some r) :
    Calls Try.prog 11 #[.agg #[.int .i64 aProps, .slice A1 aAccept.length c2, .slice A5 aGuard.length c6, .slice A9 aNodes.length c10], .agg #[.int .i64 bProps, .slice A13 bAccept.length c14, .slice A17 bGuard.length c18, .slice A21 bNodes.length c22]] w0 fun e w' => ∃ v, e = .returned v ∧ ∃ (A60 : Option Addr) (c61 : Nat) (A62 : Option Addr) (c63 : Nat) (A64 : Option Addr) (c65 : Nat), v = .tuple #[.agg #[.int .i64 r.1.1, .slice A60 r.1.2.1.length c61, .slice A62 r.1.2.2.1.length c63, .slice A64 r.1.2.2.2.length c65], .int .i64 r.2] ∧ Hp S Fa w0 w' [.row true cBool 4 A60 c61 r.1.2.1, .row true (cInt .i64) 3 A62 c63 r.1.2.2.1, .row true cNode 49 A64 c65 r.1.2.2.2] := by
 refine enterV (n := 11) Try.func11 rfl rfl rfl ?_
 intro a E
 replace E := E.pick [(0, .agg #[.int .i64 aProps, .slice A1 aAccept.length c2, .slice A5 aGuard.length c6, .slice A9 aNodes.length c10]), (1, .agg #[.int .i64 bProps, .slice A13 bAccept.length c14, .slice A17 bGuard.length c18, .slice A21 bNodes.length c22])] ⟨rfl, rfl, trivial⟩
 rw [both_And] at hP
 refine sr_ <| h_box H E rfl rfl rfl ?_
 clear H E; intro w26 g25 a hc27 hg29 H E; replace E := E _ rfl; try dsimp only [setn, addE, goneL] at H
 refine h_box H E rfl rfl rfl ?_
 clear H E; intro w31 g30 a hc32 hg34 H E; replace E := E _ rfl; try dsimp only [setn, addE, goneL] at H
 refine h_alloc H E rfl rfl tbok rfl ?_
 clear H E; intro w36 g35 a hc37 hg39 H E; replace E := E _ rfl; try dsimp only [setn, addE, goneL] at H
 refine vp 1 [] E ?_
 clear E; intro a E
 refine nn_ <| sr_ <| vq 2 [.agg #[.int .i64 aProps, .slice A1 aAccept.length c2, .slice A5 aGuard.length c6, .slice A9 aNodes.length c10], .agg #[.int .i64 bProps, .slice A13 bAccept.length c14, .slice A17 bGuard.length c18, .slice A21 bNodes.length c22]] [(6, .agg #[.int .i64 aProps, .slice A1 aAccept.length c2, .slice A5 aGuard.length c6, .slice A9 aNodes.length c10]), (7, .agg #[.int .i64 bProps, .slice A13 bAccept.length c14, .slice A17 bGuard.length c18, .slice A21 bNodes.length c22])] [cellsAt w36 g25 (0) [.int .i64 aProps, .slice A1 aAccept.length c2, .slice A5 aGuard.length c6, .slice A9 aNodes.length c10], cellsAt w36 g30 (0) [.int .i64 bProps, .slice A13 bAccept.length c14, .slice A17 bGuard.length c18, .slice A21 bNodes.length c22]] E ⟨(H.box 6 rfl).sub 0 _ rfl, (H.box 7 rfl).sub 0 _ rfl⟩ ?_
 clear E; intro a E
 obtain ⟨r40, h41, hP⟩ := bind_inv hP
 obtain ⟨Fa42, Hc43, hb44⟩ := H.call [] [(0, false), (1, false), (2, false), (3, false), (4, false), (5, false)] rfl rfl trivial
 refine e_call E rfl rfl Try.func32 rfl rfl rfl (both_put_calls A1 c2 A5 c6 A9 c10 A13 c14 A17 c18 A21 c22 (.func (.func 34) #[] #[]) aProps aAccept aGuard aNodes bProps bAccept bGuard bNodes both_And_1_p hk3 hk7 hk11 hk15 hk19 hk23 both_And_1_pure Hc43 h41) ?_
 rintro v45 w46 a ⟨A49, c50, A52, c53, A55, c56, rfl, HR47⟩ E_
 replace E := E_ _ rfl; clear E_
 obtain ⟨H_, hc48⟩ := hb44 _ _ HR47 rfl
 replace H := H_; clear H_; try dsimp only [setn, addE, goneL] at H
 refine vp 2 [(9, .agg #[.int .i64 r40.1.1, .slice A49 r40.1.2.1.length c50, .slice A52 r40.1.2.2.1.length c53, .slice A55 r40.1.2.2.2.length c56]), (10, .int .i64 r40.2)] E ?_
 clear E; intro a E
 refine h_store (g := g35) (off := 0) H 8 rfl E rfl rfl rfl rfl tbok rfl rfl rfl rfl rfl ?_
 clear E; intro w58 a hc59 H_ E
 replace H := H_; clear H_; try dsimp only [setn, addE, goneL] at H
 refine vp 1 [(5, .int .i64 r40.2)] E ?_
 clear E; intro a E
 refine nn_ <| wp_ret ?_
 obtain rfl := Option.some.inj hP
 refine retV E [.cell 4 26, .tmp 5] [.agg #[.int .i64 r40.1.1, .slice A49 r40.1.2.1.length c50, .slice A52 r40.1.2.2.1.length c53, .slice A55 r40.1.2.2.2.length c56], .int .i64 r40.2] rfl ⟨⟨_, rfl, run_loadBx tbok (H.box 8 rfl) rfl rfl rfl 0 rfl rfl⟩, rfl, trivial⟩ (.inl rfl) ?_
 exact ⟨_, rfl, A49, c50, A52, c53, A55, c56, rfl, H.sel [9, 10, 11] rfl⟩

/-! rejoinder/both.Or$1 -/
def both_Or_1 (N : Nat) (one : Bool) (two : Bool) : Option Bool :=
  if one = true then
    some true
  else
    some two
def both_Or_1_p (x y : Bool) : Bool := Option.getD (both_Or_1 0 x y) false
theorem both_Or_1_calls {N : Nat} {S Fa : Nat → Prop} {w0 : World} {r : Bool} (one : Bool) (two : Bool) (H : Hp S Fa w0 w0 []) (hP : both_Or_1 N one two = some r) :
    Calls Try.prog 35 #[.bool one, .bool two] w0 fun e w' => ∃ v, e = .returned v ∧ v = .bool r ∧ Hp S Fa w0 w' [] := by
 refine enterV (n := 9) Try.func35 rfl rfl rfl ?_
 intro a E
 replace E := E.pick [(0, .bool one), (1, .bool two)] ⟨rfl, rfl, trivial⟩
 rw [both_Or_1] at hP
 refine sr_ <| vp 1 [] E ?_
 clear E; intro a E
 refine nn_ <| sr_ <| vp 2 [(6, .bool one)] E ?_
 clear E; intro a E
 revert E; refine csE 6 rfl (fun hb_ E => ?_) fun hb_ E => ?_
 ·
  have h1 : one = true := hb_
  replace hP := ite_t h1 hP
  refine vp 3 [(4, .bool true)] E ?_
  clear E; intro a E
  refine nn_ <| wp_ret ?_
  obtain rfl := Option.some.inj hP
  refine ret1 E rfl rfl ?_
  exact ⟨_, rfl, rfl, H.sel [] rfl⟩
 have h2 : ¬ (one = true) := (ne_true_of_eq_false hb_)
 replace hP := ite_f h2 hP
 refine vp 3 [(4, .bool two)] E ?_
 clear E; intro a E
 refine nn_ <| wp_ret ?_
 obtain rfl := Option.some.inj hP
 refine ret1 E rfl rfl ?_
 exact ⟨_, rfl, rfl, H.sel [] rfl⟩
theorem both_Or_1_pure : PureF2 Try.prog (.func (.func 35) #[] #[]) both_Or_1_p := ⟨35, _, #[], rfl, Try.func35, rfl, rfl, fun w x y => (both_Or_1_calls (N := 0) x y (Hp.start w) (by cases x <;> cases y <;> rfl)).mono fun e w' ⟨v, he, hv, H⟩ => ⟨v, he, hv, H.chgd.own⟩⟩

/-! rejoinder/both.Or -/
def both_Or (N : Nat) (aProps : Int) (aAccept : List Bool) (aGuard : List Int) (aNodes : List Nd) (bProps : Int) (bAccept : List Bool) (bGuard : List Int) (bNodes : List Nd) : Option ((Int × (List Bool) × (List Int) × (List Nd)) × Int) :=
  Option.bind (both_put N aProps aAccept aGuard aNodes bProps bAccept bGuard bNodes both_Or_1_p) fun r40 =>
  some ((r40.1.1, r40.1.2.1, r40.1.2.2.1, r40.1.2.2.2), r40.2)
theorem both_Or_calls {N : Nat} {S Fa : Nat → Prop} {w0 : World} {r : (Int × (List Bool) × (List Int) × (List Nd)) × Int} (A1 : Option Addr) (c2 : Nat) (A5 : Option Addr) (c6 : Nat) (A9 : Option Addr) (c10 : Nat) (A13 : Option Addr) (c14 : Nat) (A17 : Option Addr) (c18 : Nat) (A21 : Option Addr) (c22 : Nat) (aProps : Int) (aAccept : List Bool) (aGuard : List Int) (aNodes : List Nd) (bProps : Int) (bAccept : List Bool) (bGuard : List Int) (bNodes : List Nd) (hk3 : List.length aAccept ≤ c2) (hk7 : List.length aGuard ≤ c6) (hk11 : List.length aNodes ≤ c10) (hk15 : List.length bAccept ≤ c14) (hk19 : List.length bGuard ≤ c18) (hk23 : List.length bNodes ≤ c22) (H : Hp S Fa w0 w0 [.ro false cBool A1 aAccept, .ro false (cInt .i64) A5 aGuard, .ro false cNode A9 aNodes, .ro false cBool A13 bAccept, .ro false (cInt .i64) A17 bGuard, .ro false cNode A21 bNodes]) (hP : both_Or N aProps aAccept aGuard aNodes bProps bAccept bGuard bNodes = some r) :
    Calls Try.prog 12 #[.agg #[.int .i64 aProps, .slice A1 aAccept.length c2, .slice A5 aGuard.length c6, .slice A9 aNodes.length c10], .agg #[.int .i64 bProps, .slice A13 bAccept.length c14, .slice A17 bGuard.length c18, .slice A21 bNodes.length c22]] w0 fun e w' => ∃ v, e = .returned v ∧ ∃ (A60 : Option Addr) (c61 : Nat) (A62 : Option Addr) (c63 : Nat) (A64 : Option Addr) (c65 : Nat), v = .tuple #[.agg #[.int .i64 r.1.1, .slice A60 r.1.2.1.length c61, .slice A62 r.1.2.2.1.length c63, .slice A64 r.1.2.2.2.length c65], .int .i64 r.2] ∧ Hp S Fa w0 w' [.row true cBool 4 A60 c61 r.1.2.1, .row true (cInt .i64) 3 A62 c63 r.1.2.2.1, .row true cNode 49 A64 c65 r.1.2.2.2] := by
 refine enterV (n := 11) Try.func12 rfl rfl rfl ?_
 intro a E
 replace E := E.pick [(0, .agg #[.int .i64 aProps, .slice A1 aAccept.length c2, .slice A5 aGuard.length c6, .slice A9 aNodes.length c10]), (1, .agg #[.int .i64 bProps, .slice A13 bAccept.length c14, .slice A17 bGuard.length c18, .slice A21 bNodes.length c22])] ⟨rfl, rfl, trivial⟩
 rw [both_Or] at hP
 refine sr_ <| h_box H E rfl rfl rfl ?_
 clear H E; intro w26 g25 a hc27 hg29 H E; replace E := E _ rfl; try dsimp only [setn, addE, goneL] at H
 refine h_box H E rfl rfl rfl ?_
 clear H E; intro w31 g30 a hc32 hg34 H E; replace E := E _ rfl; try dsimp only [setn, addE, goneL] at H
 refine h_alloc H E rfl rfl tbok rfl ?_
 clear H E; intro w36 g35 a hc37 hg39 H E; replace E := E _ rfl; try dsimp only [setn, addE, goneL] at H
 refine vp 1 [] E ?_
 clear E; intro a E
 refine nn_ <| sr_ <| vq 2 [.agg #[.int .i64 aProps, .slice A1 aAccept.length c2, .slice A5 aGuard.length c6, .slice A9 aNodes.length c10], .agg #[.int .i64 bProps, .slice A13 bAccept.length c14, .slice A17 bGuard.length c18, .slice A21 bNodes.length c22]] [(6, .agg #[.int .i64 aProps, .slice A1 aAccept.length c2, .slice A5 aGuard.length c6, .slice A9 aNodes.length c10]), (7, .agg #[.int .i64 bProps, .slice A13 bAccept.length c14, .slice A17 bGuard.length c18, .slice A21 bNodes.length c22])] [cellsAt w36 g25 (0) [.int .i64 aProps, .slice A1 aAccept.length c2, .slice A5 aGuard.length c6, .slice A9 aNodes.length c10], cellsAt w36 g30 (0) [.int .i64 bProps, .slice A13 bAccept.length c14, .slice A17 bGuard.length c18, .slice A21 bNodes.length c22]] E ⟨(H.box 6 rfl).sub 0 _ rfl, (H.box 7 rfl).sub 0 _ rfl⟩ ?_
 clear E; intro a E
 obtain ⟨r40, h41, hP⟩ := bind_inv hP
 obtain ⟨Fa42, Hc43, hb44⟩ := H.call [] [(0, false), (1, false), (2, false), (3, false), (4, false), (5, false)] rfl rfl trivial
 refine e_call E rfl rfl Try.func32 rfl rfl rfl (both_put_calls A1 c2 A5 c6 A9 c10 A13 c14 A17 c18 A21 c22 (.func (.func 35) #[] #[]) aProps aAccept aGuard aNodes bProps bAccept bGuard bNodes both_Or_1_p hk3 hk7 hk11 hk15 hk19 hk23 both_Or_1_pure Hc43 h41) ?_
 rintro v45 w46 a ⟨A49, c50, A52, c53, A55, c56, rfl, HR47⟩ E_
 replace E := E_ _ rfl; clear E_
 obtain ⟨H_, hc48⟩ := hb44 _ _ HR47 rfl
 replace H := H_; clear H_; try dsimp only [setn, addE, goneL] at H
 refine vp 2 [(9, .agg #[.int .i64 r40.1.1, .slice A49 r40.1.2.1.length c50, .slice A52 r40.1.2.2.1.length c53, .slice A55 r40.1.2.2.2.length c56]), (10, .int .i64 r40.2)] E ?_
 clear E; intro a E
 refine h_store (g := g35) (off := 0) H 8 rfl E rfl rfl rfl rfl tbok rfl rfl rfl rfl rfl ?_
 clear E; intro w58 a hc59 H_ E
 replace H := H_; clear H_; try dsimp only [setn, addE, goneL] at H
 refine vp 1 [(5, .int .i64 r40.2)] E ?_
 clear E; intro a E
 refine nn_ <| wp_ret ?_
 obtain rfl := Option.some.inj hP
 refine retV E [.cell 4 26, .tmp 5] [.agg #[.int .i64 r40.1.1, .slice A49 r40.1.2.1.length c50, .slice A52 r40.1.2.2.1.length c53, .slice A55 r40.1.2.2.2.length c56], .int .i64 r40.2] rfl ⟨⟨_, rfl, run_loadBx tbok (H.box 8 rfl) rfl rfl rfl 0 rfl rfl⟩, rfl, trivial⟩ (.inl rfl) ?_
 exact ⟨_, rfl, A49, c50, A52, c53, A55, c56, rfl, H.sel [9, 10, 11] rfl⟩

/-! rejoinder/part.asked -/
def part_asked_l0 (N : Nat) (aAccept : List Bool) (ll : List Int) : Nat → Int → Option (Unit ⊕ Int)
  | 0, _ => none
  | m53 + 1, x42 =>
    if x42 < (ll.length : Int) then
      ask (idx x42 ll.length) <|
      if (List.getD ll x42.toNat 0) < 0 then
        some (Sum.inr 2)
      else
        if (aAccept.length : Int) ≤ (List.getD ll x42.toNat 0) then
          some (Sum.inr 2)
        else
          ask (in64 (x42 + 1)) <|
          part_asked_l0 N aAccept ll m53 (x42 + 1)
    else
      some (Sum.inl ())
def part_asked (N : Nat) (aProps : Int) (aAccept : List Bool) (aGuard : List Int) (aNodes : List Nd) (ll : List Int) : Option Int :=
  Option.bind (guard_Check N aProps aAccept aGuard aNodes) fun r22 =>
  if (r22 : Int) = 0 then
    Option.bind (part_asked_l0 N aAccept ll N 0) fun x54 =>
    Sum.elim (fun x59 =>
      some 0)
     (fun x70 =>
      some x70) x54
  else
    some r22
theorem part_asked_calls {N : Nat} {S Fa : Nat → Prop} {w0 : World} {r : Int} (A1 : Option Addr) (c2 : Nat) (A5 : Option Addr) (c6 : Nat) (A9 : Option Addr) (c10 : Nat) (A13 : Option Addr) (c14 : Nat) (aProps : Int) (aAccept : List Bool) (aGuard : List Int) (aNodes : List Nd) (ll : List Int) (hk3 : List.length aAccept ≤ c2) (hk7 : List.length aGuard ≤ c6) (hk11 : List.length aNodes ≤ c10) (hk15 : List.length ll ≤ c14) (H : Hp S Fa w0 w0 [.ro false cBool A1 aAccept, .ro false (cInt .i64) A5 aGuard, .ro false cNode A9 aNodes, .ro false (cInt .i64) A13 ll]) (hP : part_asked N aProps aAccept aGuard aNodes ll = some r) :
    Calls Try.prog 90 #[.agg #[.int .i64 aProps, .slice A1 aAccept.length c2, .slice A5 aGuard.length c6, .slice A9 aNodes.length c10], .slice A13 ll.length c14] w0 fun e w' => ∃ v, e = .returned v ∧ v = .int .i64 r ∧ Hp S Fa w0 w' [] := by
 refine enterV (n := 29) Try.func90 rfl rfl rfl ?_
 intro a E
 replace E := E.pick [(0, .agg #[.int .i64 aProps, .slice A1 aAccept.length c2, .slice A5 aGuard.length c6, .slice A9 aNodes.length c10]), (1, .slice A13 ll.length c14)] ⟨rfl, rfl, trivial⟩
 rw [part_asked] at hP
 refine sr_ <| h_box H E rfl rfl rfl ?_
 clear H E; intro w18 g17 a hc19 hg21 H E; replace E := E _ rfl; try dsimp only [setn, addE, goneL] at H
 refine vp 1 [] E ?_
 clear E; intro a E
 refine nn_ <| wp_seq <| sr_ <| vq 1 [.agg #[.int .i64 aProps, .slice A1 aAccept.length c2, .slice A5 aGuard.length c6, .slice A9 aNodes.length c10]] [(8, .agg #[.int .i64 aProps, .slice A1 aAccept.length c2, .slice A5 aGuard.length c6, .slice A9 aNodes.length c10])] [cellsAt w18 g17 (0) [.int .i64 aProps, .slice A1 aAccept.length c2, .slice A5 aGuard.length c6, .slice A9 aNodes.length c10]] E ((H.box 4 rfl).sub 0 _ rfl) ?_
 clear E; intro a E
 obtain ⟨r22, h23, hP⟩ := bind_inv hP
 obtain ⟨Fa24, Hc25, hb26⟩ := H.call [] [(0, false), (1, false), (2, false)] rfl rfl trivial
 refine e_call E rfl rfl Try.func51 rfl rfl rfl (guard_Check_calls A1 c2 A5 c6 A9 c10 aProps aAccept aGuard aNodes hk3 hk7 hk11 Hc25 h23) ?_
 rintro v27 w28 a ⟨rfl, HR29⟩ E_
 replace E := E_ _ rfl; clear E_
 obtain ⟨H_, hc30⟩ := hb26 _ _ HR29 rfl
 replace H := H_; clear H_; try dsimp only [setn, addE, goneL] at H
 refine vp 1 [(5, .int .i64 r22)] E ?_
 clear E; intro a E
 refine nn_ <| sr_ <| vp 2 [(11, .bool ((r22 : Int) != 0))] E ?_
 clear E; intro a E
 refine nn_ ?_
 revert E; refine csE 11 rfl (fun hb_ E => ?_) fun hb_ E => ?_
 ·
  have h31 : ¬ ((r22 : Int) = 0) := bne_iff_ne.1 hb_
  replace hP := ite_f h31 hP
  refine c_true E rfl <| sr_ <| vp 2 [(4, .int .i64 r22)] E ?_
  clear E; intro a E
  refine nn_ <| wp_ret <| th_ret ?_
  obtain rfl := Option.some.inj hP
  refine ret1 E rfl rfl ?_
  exact ⟨_, rfl, rfl, H.sel [] rfl⟩
 have h32 : (r22 : Int) = 0 := bne_eq_false_iff_eq.1 hb_
 replace hP := ite_t h32 hP
 refine c_false E rfl <| wp_skip <| th_n <| wp_seq <| sr_ <| vp 3 [(13, .slice A13 ll.length c14), (14, .int .i64 (ll.length : Int)), (15, .int .i64 0)] E ?_
 clear E; intro a E
 refine nn_ <| wp_block ?_
 obtain ⟨x54, hL55, hK56⟩ := bind_inv hP
 clear hP
 refine loop_cut (fun i_ a w_ => (i_ = 0 ∧ ∃ (x59 : Unit), Fr a 29 [] ∧ Hp S Fa w0 w_ [] ∧ x54 = Sum.inl x59)) ?_ ?_
 ·
  refine loopV (fun m58 a w57 => ∃ (x42 : Int), Fr a 29 [(2, .pointer (some ⟨g17, 0, none⟩)), (13, .slice A13 ll.length c14), (14, .int .i64 (ll.length : Int)), (15, .int .i64 x42)] ∧ Hp S Fa w0 w57 [.ro false cBool A1 aAccept, .ro false (cInt .i64) A5 aGuard, .ro false cNode A9 aNodes, .box g17 26 [.int .i64 aProps, .slice A1 aAccept.length c2, .slice A5 aGuard.length c6, .slice A9 aNodes.length c10], .ro false (cInt .i64) A13 ll] ∧ part_asked_l0 N aAccept ll m58 x42 = some x54) N ?_ ?_
  ·
   exact ⟨0, E.pk, H.sel [0, 1, 2, 4, 3] rfl, hL55⟩
  clear E H hL55; intro m58 a w57 hI_
  obtain ⟨x42, E, H, hP⟩ := hI_
  obtain ⟨m53, rfl⟩ : ∃ q_, m58 = q_ + 1 := by cases m58 with | zero => rw [part_asked_l0] at hP; cases hP | succ q_ => exact ⟨q_, rfl⟩
  rw [part_asked_l0] at hP
  refine sr_ <| vp 1 [(16, .bool (decide (x42 < (ll.length : Int))))] E ?_
  clear E; intro a E
  refine nn_ <| wp_seq ?_
  revert E; refine csE 16 rfl (fun hb_ E => ?_) fun hb_ E => ?_
  ·
   have h60 : x42 < (ll.length : Int) := of_decide_eq_true hb_
   replace hP := ite_t h60 hP
   refine c_true E rfl <| wp_skip <| th_n <| wp_seq <| wp_block <| sr_ ?_
   obtain ⟨g61, hP⟩ := ask_inv hP
   obtain ⟨b62, o63, e_b62⟩ := (H.rd 4 rds_ro).addr (idx_pos g61)
   subst e_b62
   refine vq 3 [.int .i64 (List.getD ll x42.toNat 0)] [(7, .int .i64 (List.getD ll x42.toNat 0))] [0 ≤ x42 ∧ x42 < (ll.length : Int), World.cell? w57 ⟨b62, o63 + x42.toNat * 1, none⟩ = some (.int .i64 (List.getD ll x42.toNat 0))] E ⟨g61, Rds.at1 (H.rd 4 rds_ro) 0 g61⟩ ?_
   clear E; intro a E
   refine nn_ <| sr_ <| vp 3 [(21, .bool (decide ((List.getD ll x42.toNat 0) < 0)))] E ?_
   clear E; intro a E
   revert E; refine csE 21 rfl (fun hb_ E => ?_) fun hb_ E => ?_
   ·
    have h64 : (List.getD ll x42.toNat 0) < 0 := of_decide_eq_true hb_
    replace hP := ite_t h64 hP
    refine vp 6 [(27, .bool true)] E ?_
    clear E; intro a E
    refine nn_ <| c_true E rfl ?_
    refine sr_ <| vp 1 [(4, .int .i64 2)] E ?_
    clear E; intro a E
    refine nn_ <| wp_ret <| bl_ret <| th_ret <| th_ret <| .inr ⟨rfl, ?_⟩
    refine bl_ret <| th_ret ?_
    have hx_ := Option.some.inj hP; subst hx_
    have hP : some (2) = some r := hK56
    obtain rfl := Option.some.inj hP
    refine ret1 E rfl rfl ?_
    exact ⟨_, rfl, rfl, H.sel [] rfl⟩
   have h65 : ¬ ((List.getD ll x42.toNat 0) < 0) := of_decide_eq_false hb_
   replace hP := ite_f h65 hP
   refine vq 6 [.slice A1 aAccept.length c2] [(27, .bool (decide ((aAccept.length : Int) ≤ (List.getD ll x42.toNat 0))))] [World.cell? w57 ⟨g17, 1, none⟩ = some (.slice A1 aAccept.length c2)] E ((H.box 3 rfl).cell (j := 1) rfl) ?_
   clear E; intro a E
   refine nn_ ?_
   revert E; refine csE 27 rfl (fun hb_ E => ?_) fun hb_ E => ?_
   ·
    have h66 : (aAccept.length : Int) ≤ (List.getD ll x42.toNat 0) := of_decide_eq_true hb_
    replace hP := ite_t h66 hP
    refine c_true E rfl <| sr_ <| vp 1 [(4, .int .i64 2)] E ?_
    clear E; intro a E
    refine nn_ <| wp_ret <| bl_ret <| th_ret <| th_ret <| .inr ⟨rfl, ?_⟩
    refine bl_ret <| th_ret ?_
    have hx_ := Option.some.inj hP; subst hx_
    have hP : some (2) = some r := hK56
    obtain rfl := Option.some.inj hP
    refine ret1 E rfl rfl ?_
    exact ⟨_, rfl, rfl, H.sel [] rfl⟩
   have h67 : ¬ ((aAccept.length : Int) ≤ (List.getD ll x42.toNat 0)) := of_decide_eq_false hb_
   replace hP := ite_f h67 hP
   refine c_false E rfl <| wp_skip <| bl_n <| th_n <| rl_ ?_
   obtain ⟨g68, hP⟩ := ask_inv hP
   refine vq 2 [.int .i64 (x42 + 1)] [(15, .int .i64 (x42 + 1))] [IntKind.i64.wrap (x42 + 1) = x42 + 1] E (wrap_in g68) ?_
   clear E; intro a E
   refine nl_ ?_
   exact th_n ⟨m53, Nat.lt_succ_self _, x42 + 1, E.pk, H.sel (up 5) rfl, hP⟩
  have h69 : ¬ (x42 < (ll.length : Int)) := of_decide_eq_false hb_
  replace hP := ite_f h69 hP
  refine c_false E rfl <| wp_exit <| th_exit ?_
  have hx_ := Option.some.inj hP
  refine th_exit (.inl ⟨0, rfl, ?_⟩)
  exact ⟨rfl, (), E.pick _ trivial, H.sel [] rfl, hx_.symm⟩
 clear E H hL55; intro i_ a w57 hM_
 obtain ⟨rfl, x59, E, H, hx_⟩ := hM_
 subst hx_; have hP := elim_l hK56
 clear hK56
 refine bl_hit <| th_n <| sr_ <| vp 1 [(4, .int .i64 0)] E ?_
 clear E; intro a E
 refine nn_ <| wp_ret ?_
 obtain rfl := Option.some.inj hP
 refine ret1 E rfl rfl ?_
 exact ⟨_, rfl, rfl, H.sel [] rfl⟩

/-! rejoinder/part.rows -/
def part_rows_l0 (N : Nat) (aProps : Int) (aGuard : List Int) (aNodes : List Nd) : Nat → (List (List Int)) → Int → Option (List (List Int))
  | 0, _, _ => none
  | m88 + 1, out49, x52 =>
    if x52 < (aGuard.length : Int) then
      ask (idx x52 aGuard.length) <|
      Option.bind (guard_Table N aProps aNodes (List.getD aGuard x52.toNat 0)) fun r100 =>
      ask (List.length out49 + List.length ([r100.1] : List (List Int)) ≤ 1000000000) <|
      ask (in64 (x52 + 1)) <|
      part_rows_l0 N aProps aGuard aNodes m88 (out49 ++ ([r100.1] : List (List Int))) (x52 + 1)
    else
      some out49
def part_rows (N : Nat) (aProps : Int) (aAccept : List Bool) (aGuard : List Int) (aNodes : List Nd) : Option (List (List Int)) :=
  Option.bind (part_rows_l0 N aProps aGuard aNodes N [] 0) fun x89 =>
  some x89
theorem part_rows_calls {N : Nat} {S Fa : Nat → Prop} {w0 : World} {r : List (List Int)} (A1 : Option Addr) (c2 : Nat) (A5 : Option Addr) (c6 : Nat) (A9 : Option Addr) (c10 : Nat) (aProps : Int) (aAccept : List Bool) (aGuard : List Int) (aNodes : List Nd) (hk3 : List.length aAccept ≤ c2) (hk7 : List.length aGuard ≤ c6) (hk11 : List.length aNodes ≤ c10) (H : Hp S Fa w0 w0 [.ro false cBool A1 aAccept, .ro false (cInt .i64) A5 aGuard, .ro false cNode A9 aNodes]) (hP : part_rows N aProps aAccept aGuard aNodes = some r) :
    Calls Try.prog 91 #[.agg #[.int .i64 aProps, .slice A1 aAccept.length c2, .slice A5 aGuard.length c6, .slice A9 aNodes.length c10]] w0 fun e w' => ∃ v, e = .returned v ∧ ∃ (A126 : Option Addr) (c127 : Nat), v = .slice A126 r.length c127 ∧ Hp S Fa w0 w' [.row true (cSl (cInt .i64)) 23 A126 c127 r] := by
 refine enterV (n := 30) Try.func91 rfl rfl rfl ?_
 intro a E
 replace E := E.pick [(0, .agg #[.int .i64 aProps, .slice A1 aAccept.length c2, .slice A5 aGuard.length c6, .slice A9 aNodes.length c10])] ⟨rfl, trivial⟩
 rw [part_rows] at hP
 refine sr_ <| h_box H E rfl rfl rfl ?_
 clear H E; intro w14 g13 a hc15 hg17 H E; replace E := E _ rfl; try dsimp only [setn, addE, goneL] at H
 refine vp 1 [] E ?_
 clear E; intro a E
 refine nn_ <| sr_ <| vp 1 [(3, .slice none 0 0)] E ?_
 clear E; intro a E
 refine nn_ <| wp_seq <| sr_ <| vq 4 [.slice A5 aGuard.length c6] [(9, .slice A5 aGuard.length c6), (10, .int .i64 (aGuard.length : Int)), (11, .int .i64 0)] [World.cell? w14 ⟨g13, 2, none⟩ = some (.slice A5 aGuard.length c6)] E ((H.box 3 rfl).cell (j := 2) rfl) ?_
 clear E; intro a E
 refine nn_ <| wp_block ?_
 obtain ⟨x89, hL90, hK91⟩ := bind_inv hP
 clear hP
 replace H := H.nilrow (cSl (cInt .i64)) 23; try dsimp only [setn, addE, goneL] at H
 refine loop_cut (fun i_ a w_ => (i_ = 0 ∧ ∃ (x95 : List (List Int)), ∃ (A86 : Option Addr) (c87 : Nat), Fr a 30 [(3, .slice A86 x95.length c87)] ∧ Hp S Fa w0 w_ [.row true (cSl (cInt .i64)) 23 A86 c87 x95] ∧ x89 = x95)) ?_ ?_
 ·
  refine loopV (fun m94 a w93 => ∃ (out49 : List (List Int)) (x52 : Int), ∃ (A50 : Option Addr) (c51 : Nat), Fr a 30 [(1, .pointer (some ⟨g13, 0, none⟩)), (3, .slice A50 out49.length c51), (9, .slice A5 aGuard.length c6), (10, .int .i64 (aGuard.length : Int)), (11, .int .i64 x52)] ∧ Hp S Fa w0 w93 [.ro false cBool A1 aAccept, .ro false (cInt .i64) A5 aGuard, .ro false cNode A9 aNodes, .box g13 26 [.int .i64 aProps, .slice A1 aAccept.length c2, .slice A5 aGuard.length c6, .slice A9 aNodes.length c10], .row true (cSl (cInt .i64)) 23 A50 c51 out49] ∧ part_rows_l0 N aProps aGuard aNodes m94 out49 x52 = some x89) N ?_ ?_
  ·
   exact ⟨[], 0, none, 0, E.pk, H.sel (up 5) rfl, hL90⟩
  clear E H hL90; intro m94 a w93 hI_
  obtain ⟨out49, x52, A50, c51, E, H, hP⟩ := hI_
  obtain ⟨m88, rfl⟩ : ∃ q_, m94 = q_ + 1 := by cases m94 with | zero => rw [part_rows_l0] at hP; cases hP | succ q_ => exact ⟨q_, rfl⟩
  rw [part_rows_l0] at hP
  refine sr_ <| vp 1 [(12, .bool (decide (x52 < (aGuard.length : Int))))] E ?_
  clear E; intro a E
  refine nn_ <| wp_seq ?_
  revert E; refine csE 12 rfl (fun hb_ E => ?_) fun hb_ E => ?_
  ·
   have h96 : x52 < (aGuard.length : Int) := of_decide_eq_true hb_
   replace hP := ite_t h96 hP
   refine c_true E rfl <| wp_skip <| th_n <| wp_seq <| wp_block <| sr_ ?_
   obtain ⟨g97, hP⟩ := ask_inv hP
   obtain ⟨b98, o99, e_b98⟩ := (H.rd 1 rds_ro).addr (idx_pos g97)
   subst e_b98
   refine vq 3 [.int .i64 (List.getD aGuard x52.toNat 0)] [(5, .int .i64 (List.getD aGuard x52.toNat 0))] [0 ≤ x52 ∧ x52 < (aGuard.length : Int), World.cell? w93 ⟨b98, o99 + x52.toNat * 1, none⟩ = some (.int .i64 (List.getD aGuard x52.toNat 0))] E ⟨g97, Rds.at1 (H.rd 1 rds_ro) 0 g97⟩ ?_
   clear E; intro a E
   refine nn_ <| sr_ <| vq 5 [.int .i64 aProps, .slice A9 aNodes.length c10] [(17, .int .i64 aProps), (19, .slice A9 aNodes.length c10), (20, .int .i64 (List.getD aGuard x52.toNat 0))] [World.cell? w93 ⟨g13, 0, none⟩ = some (.int .i64 aProps), World.cell? w93 ⟨g13, 3, none⟩ = some (.slice A9 aNodes.length c10)] E ⟨(H.box 3 rfl).cell (j := 0) rfl, (H.box 3 rfl).cell (j := 3) rfl⟩ ?_
   clear E; intro a E
   obtain ⟨r100, h101, hP⟩ := bind_inv hP
   obtain ⟨Fa102, Hc103, hb104⟩ := H.call [] [(2, false)] rfl rfl trivial
   refine e_call E rfl rfl Try.func79 rfl rfl rfl (guard_Table_calls A9 c10 aProps aNodes (List.getD aGuard x52.toNat 0) hk11 Hc103 h101) ?_
   rintro v105 w106 a ⟨A109, c110, rfl, HR107⟩ E_
   replace E := E_ _ rfl; clear E_
   obtain ⟨H_, hc108⟩ := hb104 _ _ HR107 rfl
   replace H := H_; clear H_; try dsimp only [setn, addE, goneL] at H
   refine vp 5 [(6, .slice A109 r100.1.length c110)] E ?_
   clear E; intro a E
   refine nn_ <| rl_ <| vp 2 [(24, .slice A50 out49.length c51), (25, .slice A109 r100.1.length c110)] E ?_
   clear E; intro a E
   refine h_buildSlice (ps := [(0, .slice A109 r100.1.length c110)]) (cs := [.slice A109 r100.1.length c110]) H E rfl rfl tbok rfl rfl (by kernel_rfl) ?_
   clear H E; intro w113 g112 a hc114 hg116 H E; replace E := E _ rfl; try dsimp only [setn, addE, goneL] at H
   have hk117 := H.rcap 5 rfl
   replace H := H.frz 5 rfl; try dsimp only [setn, addE, goneL] at H
   obtain ⟨g118, hP⟩ := ask_inv hP
   refine h_append (cSl (cInt .i64)) (xs := out49) (ys := ([r100.1] : List (List Int))) ([] : List Int) H 4 rfl E rfl rfl tbok rfl rfl rfl rfl rfl (fun _ _ => kSl_nil) rfl rfl (fun _ HF_ => HF_.srcB 6 rfl ⟨_, _, rfl, ⟨_, _, rfl, hk117, (HF_.roC 5 rfl)⟩, rfl⟩) g118 ?_
   clear H E; intro w119 A120 c121 a hc122 hA123 H E; replace E := E _ rfl; try dsimp only [setn, addE, goneL] at H
   refine vp 1 [(3, .slice A120 (List.length (out49 ++ ([r100.1] : List (List Int)))) c121)] E ?_
   clear E; intro a E
   refine nl_ <| bl_n <| th_n <| rl_ ?_
   obtain ⟨g124, hP⟩ := ask_inv hP
   refine vq 2 [.int .i64 (x52 + 1)] [(11, .int .i64 (x52 + 1))] [IntKind.i64.wrap (x52 + 1) = x52 + 1] E (wrap_in g124) ?_
   clear E; intro a E
   refine nl_ ?_
   exact th_n ⟨m88, Nat.lt_succ_self _, out49 ++ ([r100.1] : List (List Int)), x52 + 1, A120, c121, E.pk, H.sel (up 5) rfl, hP⟩
  have h125 : ¬ (x52 < (aGuard.length : Int)) := of_decide_eq_false hb_
  replace hP := ite_f h125 hP
  refine c_false E rfl <| wp_exit <| th_exit ?_
  have hx_ := Option.some.inj hP
  refine th_exit (.inl ⟨0, rfl, ?_⟩)
  exact ⟨rfl, out49, A50, c51, E.pk, H.sel [4] rfl, hx_.symm⟩
 clear E H hL90; intro i_ a w93 hM_
 obtain ⟨rfl, x95, A86, c87, E, H, hx_⟩ := hM_
 subst hx_; have hP := hK91; clear hK91
 refine bl_hit <| th_n <| sr_ <| vp 2 [(2, .slice A86 x89.length c87)] E ?_
 clear E; intro a E
 refine nn_ <| wp_ret ?_
 obtain rfl := Option.some.inj hP
 refine ret1 E rfl rfl ?_
 exact ⟨_, rfl, A86, c87, rfl, H.sel [0] rfl⟩

/-! rejoinder/part.Reached -/
def part_Reached_l1 (N : Nat) (r31 : List (List Int)) (out166 : List Int) (x169 : Int) : Nat → (List Bool) → (List Int) → Int → Option ((List Bool) × (List Int))
  | 0, _, _, _ => none
  | m316 + 1, met283, out284, x287 =>
    if x287 < (((List.length (List.getD r31 (Int.toNat (List.getD out166 x169.toNat 0)) [])) : Nat) : Int) then
      ask (idx x287 (List.length (List.getD r31 (Int.toNat (List.getD out166 x169.toNat 0)) []))) <|
      ask (idx (List.getD (List.getD r31 (Int.toNat (List.getD out166 x169.toNat 0)) []) x287.toNat 0) met283.length) <|
      if (List.getD met283 (Int.toNat (List.getD (List.getD r31 (Int.toNat (List.getD out166 x169.toNat 0)) []) x287.toNat 0)) false) = true then
        ask (in64 (x287 + 1)) <|
        part_Reached_l1 N r31 out166 x169 m316 met283 out284 (x287 + 1)
      else
        ask (List.length out284 + List.length ([(List.getD (List.getD r31 (Int.toNat (List.getD out166 x169.toNat 0)) []) x287.toNat 0)] : List Int) ≤ 1000000000) <|
        ask (in64 (x287 + 1)) <|
        part_Reached_l1 N r31 out166 x169 m316 (List.set met283 (Int.toNat (List.getD (List.getD r31 (Int.toNat (List.getD out166 x169.toNat 0)) []) x287.toNat 0)) true) (out284 ++ ([(List.getD (List.getD r31 (Int.toNat (List.getD out166 x169.toNat 0)) []) x287.toNat 0)] : List Int)) (x287 + 1)
    else
      some (met283, out284)
def part_Reached_l0 (N : Nat) (r31 : List (List Int)) : Nat → (List Bool) → (List Int) → Int → Option (List Int)
  | 0, _, _, _ => none
  | m242 + 1, met165, out166, x169 =>
    if x169 < (out166.length : Int) then
      ask (idx x169 out166.length) <|
      ask (idx (List.getD out166 x169.toNat 0) r31.length) <|
      Option.bind (part_Reached_l1 N r31 out166 x169 N met165 out166 0) fun x317 =>
      ask (in64 (x169 + 1)) <|
      part_Reached_l0 N r31 m242 x317.1 x317.2 (x169 + 1)
    else
      some out166
def part_Reached (N : Nat) (aProps : Int) (aAccept : List Bool) (aGuard : List Int) (aNodes : List Nd) : Option ((List Int) × Int) :=
  Option.bind (part_asked N aProps aAccept aGuard aNodes []) fun r19 =>
  if (r19 : Int) = 0 then
    Option.bind (part_rows N aProps aAccept aGuard aNodes) fun r31 =>
    ask (0 ≤ (aAccept.length : Int) ∧ (aAccept.length : Int) ≤ 1000000000) <|
    ask (idx (0 : Int) (List.length (List.replicate (Int.toNat (aAccept.length : Int)) (false : Bool)))) <|
    Option.bind (part_Reached_l0 N r31 N (List.set (List.replicate (Int.toNat (aAccept.length : Int)) (false : Bool)) (Int.toNat (0 : Int)) true) ([0] : List Int) 0) fun x243 =>
    some (x243, 0)
  else
    some ([], r19)
theorem part_Reached_calls {N : Nat} {S Fa : Nat → Prop} {w0 : World} {r : (List Int) × Int} (A1 : Option Addr) (c2 : Nat) (A5 : Option Addr) (c6 : Nat) (A9 : Option Addr) (c10 : Nat) (aProps : Int) (aAccept : List Bool) (aGuard : List Int) (aNodes : List Nd) (hk3 : List.length aAccept ≤ c2) (hk7 : List.length aGuard ≤ c6) (hk11 : List.length aNodes ≤ c10) (H : Hp S Fa w0 w0 [.ro false cBool A1 aAccept, .ro false (cInt .i64) A5 aGuard, .ro false cNode A9 aNodes]) (hP : part_Reached N aProps aAccept aGuard aNodes = some r) :
    Calls Try.prog 77 #[.agg #[.int .i64 aProps, .slice A1 aAccept.length c2, .slice A5 aGuard.length c6, .slice A9 aNodes.length c10]] w0 fun e w' => ∃ v, e = .returned v ∧ ∃ (A349 : Option Addr) (c350 : Nat), v = .tuple #[.slice A349 r.1.length c350, .int .i64 r.2] ∧ Hp S Fa w0 w' [.row true (cInt .i64) 3 A349 c350 r.1] := by
 refine enterV (n := 57) Try.func77 rfl rfl rfl ?_
 intro a E
 replace E := E.pick [(0, .agg #[.int .i64 aProps, .slice A1 aAccept.length c2, .slice A5 aGuard.length c6, .slice A9 aNodes.length c10])] ⟨rfl, trivial⟩
 rw [part_Reached] at hP
 refine sr_ <| h_box H E rfl rfl rfl ?_
 clear H E; intro w14 g13 a hc15 hg17 H E; replace E := E _ rfl; try dsimp only [setn, addE, goneL] at H
 refine vp 2 [] E ?_
 clear E; intro a E
 refine nn_ <| wp_seq <| sr_ <| vq 1 [.agg #[.int .i64 aProps, .slice A1 aAccept.length c2, .slice A5 aGuard.length c6, .slice A9 aNodes.length c10]] [(11, .agg #[.int .i64 aProps, .slice A1 aAccept.length c2, .slice A5 aGuard.length c6, .slice A9 aNodes.length c10])] [cellsAt w14 g13 (0) [.int .i64 aProps, .slice A1 aAccept.length c2, .slice A5 aGuard.length c6, .slice A9 aNodes.length c10]] E ((H.box 3 rfl).sub 0 _ rfl) ?_
 clear E; intro a E
 replace H := H.nilrow (cInt .i64) 3; try dsimp only [setn, addE, goneL] at H
 obtain ⟨r19, h20, hP⟩ := bind_inv hP
 obtain ⟨Fa21, Hc22, hb23⟩ := H.call [] [(0, false), (1, false), (2, false), (4, false)] rfl rfl trivial
 refine e_call E rfl rfl Try.func90 rfl rfl rfl (part_asked_calls A1 c2 A5 c6 A9 c10 none 0 aProps aAccept aGuard aNodes [] hk3 hk7 hk11 (Nat.le_refl _) Hc22 h20) ?_
 rintro v24 w25 a ⟨rfl, HR26⟩ E_
 replace E := E_ _ rfl; clear E_
 obtain ⟨H_, hc27⟩ := hb23 _ _ HR26 rfl
 replace H := H_; clear H_; try dsimp only [setn, addE, goneL] at H
 refine vp 1 [(4, .int .i64 r19)] E ?_
 clear E; intro a E
 refine nn_ <| sr_ <| vp 2 [(14, .bool ((r19 : Int) != 0))] E ?_
 clear E; intro a E
 refine nn_ ?_
 revert E; refine csE 14 rfl (fun hb_ E => ?_) fun hb_ E => ?_
 ·
  have h28 : ¬ ((r19 : Int) = 0) := bne_iff_ne.1 hb_
  replace hP := ite_f h28 hP
  refine c_true E rfl <| sr_ <| vp 3 [(2, .slice none 0 0), (3, .int .i64 r19)] E ?_
  clear E; intro a E
  refine nn_ <| wp_ret <| th_ret ?_
  replace H := H.nilrow (cInt .i64) 3; try dsimp only [setn, addE, goneL] at H
  obtain rfl := Option.some.inj hP
  refine ret2 E rfl rfl rfl ?_
  exact ⟨_, rfl, none, 0, rfl, H.sel [5] rfl⟩
 have h30 : (r19 : Int) = 0 := bne_eq_false_iff_eq.1 hb_
 replace hP := ite_t h30 hP
 refine c_false E rfl <| wp_skip <| th_n <| wp_seq ?_
 obtain ⟨r31, h32, hP⟩ := bind_inv hP
 obtain ⟨g43, hP⟩ := ask_inv hP
 refine meet_cut (fun a w54 => ∃ (A50 : Option Addr) (c51 : Nat) (A53 : Option Addr), Fr a 57 [(5, .slice A50 r31.length c51), (6, .slice A53 (List.length (List.replicate (Int.toNat (aAccept.length : Int)) (false : Bool))) (Int.toNat (aAccept.length : Int)))] ∧ Hp S Fa w0 w54 [.row true (cSl (cInt .i64)) 23 A50 c51 r31, .rowx true cBool 4 A53 (Int.toNat (aAccept.length : Int)) (List.replicate (Int.toNat (aAccept.length : Int)) (false : Bool)) (List.replicate (Int.toNat (aAccept.length : Int) - Int.toNat (aAccept.length : Int)) (false : Bool))]) ?_ ?_
 ·
  have HR58 := H
  refine dr_start (S := fun w_ => Chg (atL []) w25 w_) (by kernel_rfl) ?_
  intro w55 hc56
  have HS57 : Chg (atL []) w25 w55 := hc56.mono (fun _ _ h_ => h_.elim)
  replace H := H.ext hc56
  refine dn tbok (by kernel_rfl) [0, 2, 3, 4] [.agg #[.int .i64 aProps, .slice A1 aAccept.length c2, .slice A5 aGuard.length c6, .slice A9 aNodes.length c10], .slice A1 aAccept.length c2] [(16, .agg #[.int .i64 aProps, .slice A1 aAccept.length c2, .slice A5 aGuard.length c6, .slice A9 aNodes.length c10]), (20, .int .i64 (aAccept.length : Int))] (fun w_ => [cellsAt w_ g13 (0) [.int .i64 aProps, .slice A1 aAccept.length c2, .slice A5 aGuard.length c6, .slice A9 aNodes.length c10], World.cell? w_ ⟨g13, 1, none⟩ = some (.slice A1 aAccept.length c2)]) 4 E (fun _ _ => by kernel_rfl) (by kernel_rfl) (fun w_ hS_ => ⟨(HR58.boxk [] hS_ 3 rfl rfl).sub 0 _ rfl, (HR58.boxk [] hS_ 3 rfl rfl).cell (j := 1) rfl⟩) (by kernel_rfl) HS57 ?_
  clear E; intro a E
  refine wpAnyH_all (rs := [1, 5]) (by kernel_rfl) (by simp) ?_
  refine all2 ?_ ?_
  ·
   refine wpOp_of_list rfl ?_
   obtain ⟨Fa59, Hc60, hb61⟩ := H.call [] [(0, false), (1, false), (2, false)] rfl rfl trivial
   refine e_call E rfl rfl Try.func91 rfl rfl rfl (part_rows_calls A1 c2 A5 c6 A9 c10 aProps aAccept aGuard aNodes hk3 hk7 hk11 Hc60 h32) ?_
   rintro v62 w63 a ⟨A66, c67, rfl, HR64⟩ E_
   replace E := E_ _ rfl; clear E_
   obtain ⟨H_, hc65⟩ := hb61 _ _ HR64 rfl
   replace HS57 := HS57.ext (callS_ext hc65)
   replace H := H_; clear H_; try dsimp only [setn, addE, goneL] at H
   refine nl_ <| th_n ⟨HS57, ?_⟩
   refine dn tbok (by kernel_rfl) [6] [] [(5, .slice A66 r31.length c67)] (fun w_ => []) 2 E (fun _ _ => by kernel_rfl) (by kernel_rfl) (fun w_ hS_ => trivial) (by kernel_rfl) HS57 ?_
   clear E; intro a E
   refine wpAnyH_all (rs := [5]) (by kernel_rfl) (by simp) ?_
   refine all1 ?_
   refine wpOp_of_list rfl ?_
   refine h_make cBool (false : Bool) H E rfl rfl tbok rfl rfl rfl rfl ⟨g43.1, Int.le_refl _, g43.2⟩ rfl rfl rfl (fun _ _ => rfl) ?_
   intro w70 g69 a hc71 hg73 H_ E_
   replace E := E_ _ rfl; clear E_
   have hin74 : ∀ q_, q_ < w25.heap.size → At (some ⟨g69, 0, none⟩) q_ → (atL []) q_ := fun q_ h1_ h2_ => by have hs_ := HS57.size; have h4_ : q_ = g69 := At.of_g h2_; exfalso; omega
   replace HS57 := HS57.ext hc71
   replace H := H_; clear H_; try dsimp only [setn, addE, goneL] at H
   refine nl_ <| th_n ⟨HS57, ?_⟩
   refine dn tbok (by kernel_rfl) [7] [] [(6, .slice (some ⟨g69, 0, none⟩) (List.length (List.replicate (Int.toNat (aAccept.length : Int)) (false : Bool))) (Int.toNat (aAccept.length : Int)))] (fun w_ => []) 0 E (fun _ _ => by kernel_rfl) (by kernel_rfl) (fun w_ hS_ => trivial) (by kernel_rfl) HS57 ?_
   clear E; intro a E
   refine dr_done (by kernel_rfl) ?_
   exact .inl ⟨rfl, A66, c67, (some ⟨g69, 0, none⟩), E.pk, H.sel [5, 6] rfl⟩
  refine wpOp_of_list rfl ?_
  refine h_make cBool (false : Bool) H E rfl rfl tbok rfl rfl rfl rfl ⟨g43.1, Int.le_refl _, g43.2⟩ rfl rfl rfl (fun _ _ => rfl) ?_
  intro w76 g75 a hc77 hg79 H_ E_
  replace E := E_ _ rfl; clear E_
  have hin80 : ∀ q_, q_ < w25.heap.size → At (some ⟨g75, 0, none⟩) q_ → (atL []) q_ := fun q_ h1_ h2_ => by have hs_ := HS57.size; have h4_ : q_ = g75 := At.of_g h2_; exfalso; omega
  replace HS57 := HS57.ext hc77
  replace H := H_; clear H_; try dsimp only [setn, addE, goneL] at H
  refine nl_ <| th_n ⟨HS57, ?_⟩
  refine wpAnyH_all (rs := [1]) (by kernel_rfl) (by simp) ?_
  refine all1 ?_
  refine wpOp_of_list rfl ?_
  obtain ⟨Fa81, Hc82, hb83⟩ := H.call [] [(0, false), (1, false), (2, false)] rfl rfl trivial
  refine e_call E rfl rfl Try.func91 rfl rfl rfl (part_rows_calls A1 c2 A5 c6 A9 c10 aProps aAccept aGuard aNodes hk3 hk7 hk11 Hc82 h32) ?_
  rintro v84 w85 a ⟨A88, c89, rfl, HR86⟩ E_
  replace E := E_ _ rfl; clear E_
  obtain ⟨H_, hc87⟩ := hb83 _ _ HR86 rfl
  replace HS57 := HS57.ext (callS_ext hc87)
  replace H := H_; clear H_; try dsimp only [setn, addE, goneL] at H
  refine nl_ <| th_n ⟨HS57, ?_⟩
  refine dn tbok (by kernel_rfl) [6, 7] [] [(5, .slice A88 r31.length c89), (6, .slice (some ⟨g75, 0, none⟩) (List.length (List.replicate (Int.toNat (aAccept.length : Int)) (false : Bool))) (Int.toNat (aAccept.length : Int)))] (fun w_ => []) 0 E (fun _ _ => by kernel_rfl) (by kernel_rfl) (fun w_ hS_ => trivial) (by kernel_rfl) HS57 ?_
  clear E; intro a E
  refine dr_done (by kernel_rfl) ?_
  exact .inl ⟨rfl, A88, c89, (some ⟨g75, 0, none⟩), E.pk, H.sel [6, 5] rfl⟩
 clear E H; rintro a w54 ⟨A50, c51, A53, E, H⟩
 refine th_n <| sr_ <| h_buildSlice (ps := [(0, .int .i64 0)]) (cs := [.int .i64 0]) H E rfl rfl tbok rfl rfl (by kernel_rfl) ?_
 clear H E; intro w92 g91 a hc93 hg95 H E; replace E := E _ rfl; try dsimp only [setn, addE, goneL] at H
 refine vp 1 [(7, .slice (some ⟨g91, 0, none⟩) 1 1)] E ?_
 clear E; intro a E
 refine nn_ <| sr_ ?_
 obtain ⟨g96, hP⟩ := ask_inv hP
 obtain ⟨b97, e_b97⟩ := H.raddrx 1 rfl (idx_pos g96)
 subst e_b97
 refine vq 2 [] [(24, .pointer (some ⟨b97, 0 + (Int.toNat (0 : Int)) * 1, none⟩))] [0 ≤ (0 : Int) ∧ (0 : Int) < (((List.length (List.replicate (Int.toNat (aAccept.length : Int)) (false : Bool))) : Nat) : Int)] E (g96) ?_
 clear E; intro a E
 refine h_setx (g := b97) (i := (0 : Int)) true H 1 rfl E rfl rfl rfl rfl tbok rfl (fun _ HF_ => rfl) rfl g96 rfl ?_
 clear E; intro w99 a hc100 H_ E
 replace H := H_; clear H_; try dsimp only [setn, addE, goneL] at H
 have hn101 : (List.length (List.replicate (Int.toNat (aAccept.length : Int)) (false : Bool))) = (List.length (List.set (List.replicate (Int.toNat (aAccept.length : Int)) (false : Bool)) (Int.toNat (0 : Int)) true)) := by simp only [List.length_set]
 replace E := E.same (t := 6) (u := .slice (some ⟨b97, 0, none⟩) (List.length (List.set (List.replicate (Int.toNat (aAccept.length : Int)) (false : Bool)) (Int.toNat (0 : Int)) true)) (Int.toNat (aAccept.length : Int))) rfl (congrArg (fun n_ => Value.slice (some ⟨b97, 0, none⟩) n_ (Int.toNat (aAccept.length : Int))) hn101)
 refine nn_ <| wp_seq <| sr_ <| vp 1 [(8, .int .i64 0)] E ?_
 clear E; intro a E
 refine nn_ <| wp_block ?_
 obtain ⟨x243, hL244, hK245⟩ := bind_inv hP
 clear hP
 replace H := H.boxRow (cInt .i64) true ([0] : List Int) 2 rfl (fun _ _ => ⟨_, _, rfl, rfl, rfl⟩) (Nat.le_of_ble_eq_true rfl); try dsimp only [setn, addE, goneL] at H
 replace H := H.rowx 2 rfl; try dsimp only [setn, addE, goneL] at H
 refine loop_cut (fun i_ a w_ => (i_ = 0 ∧ ∃ (x248 : List Int), ∃ (A240 : Option Addr) (c241 : Nat), Fr a 57 [(7, .slice A240 x248.length c241)] ∧ Hp S Fa w0 w_ [.row true (cInt .i64) 3 A240 c241 x248] ∧ x243 = x248)) ?_ ?_
 ·
  refine loopV (fun m247 a w246 => ∃ (met165 : List Bool) (out166 : List Int) (x169 : Int), ∃ (A167 : Option Addr) (c168 : Nat), Fr a 57 [(5, .slice A50 r31.length c51), (6, .slice (some ⟨b97, 0, none⟩) met165.length (Int.toNat (aAccept.length : Int))), (7, .slice A167 out166.length c168), (8, .int .i64 x169)] ∧ Hp S Fa w0 w246 [.row true (cSl (cInt .i64)) 23 A50 c51 r31, .rowx true cBool 4 (some ⟨b97, 0, none⟩) (Int.toNat (aAccept.length : Int)) met165 (List.replicate (Int.toNat (aAccept.length : Int) - Int.toNat (aAccept.length : Int)) (false : Bool)), .row true (cInt .i64) 3 A167 c168 out166] ∧ part_Reached_l0 N r31 m247 met165 out166 x169 = some x243) N ?_ ?_
  ·
   exact ⟨List.set (List.replicate (Int.toNat (aAccept.length : Int)) (false : Bool)) (Int.toNat (0 : Int)) true, ([0] : List Int), 0, (some ⟨g91, 0, none⟩), (List.length ([0] : List Int)), E.pk, H.sel [0, 1, 2] rfl, hL244⟩
  clear E H hL244; intro m247 a w246 hI_
  obtain ⟨met165, out166, x169, A167, c168, E, H, hP⟩ := hI_
  obtain ⟨m242, rfl⟩ : ∃ q_, m247 = q_ + 1 := by cases m247 with | zero => rw [part_Reached_l0] at hP; cases hP | succ q_ => exact ⟨q_, rfl⟩
  rw [part_Reached_l0] at hP
  refine wp_seq <| sr_ <| vp 4 [(28, .bool (decide (x169 < (out166.length : Int))))] E ?_
  clear E; intro a E
  refine nn_ ?_
  revert E; refine csE 28 rfl (fun hb_ E => ?_) fun hb_ E => ?_
  ·
   have h249 : x169 < (out166.length : Int) := of_decide_eq_true hb_
   replace hP := ite_t h249 hP
   refine c_true E rfl <| wp_skip <| th_n <| wp_seq <| wp_block <| sr_ ?_
   obtain ⟨g250, hP⟩ := ask_inv hP
   obtain ⟨b251, e_b251⟩ := H.raddr 2 rfl (idx_pos g250)
   subst e_b251
   obtain ⟨g253, hP⟩ := ask_inv hP
   obtain ⟨b254, e_b254⟩ := H.raddr 0 rfl (idx_pos g253)
   subst e_b254
   obtain ⟨A256, c257, hl258, hk259, H⟩ := H.subSl 0 true (el_row rfl) g253
   try dsimp only [addE] at H
   refine vq 9 [.int .i64 (List.getD out166 x169.toNat 0), .slice A256 (List.length (List.getD r31 (Int.toNat (List.getD out166 x169.toNat 0)) [])) c257] [(37, .slice A256 (List.length (List.getD r31 (Int.toNat (List.getD out166 x169.toNat 0)) [])) c257), (38, .int .i64 (((List.length (List.getD r31 (Int.toNat (List.getD out166 x169.toNat 0)) [])) : Nat) : Int)), (39, .int .i64 0)] [0 ≤ x169 ∧ x169 < (out166.length : Int), World.cell? w246 ⟨b251, 0 + x169.toNat * 1, none⟩ = some (.int .i64 (List.getD out166 x169.toNat 0)), 0 ≤ (List.getD out166 x169.toNat 0) ∧ (List.getD out166 x169.toNat 0) < (r31.length : Int), World.cell? w246 ⟨b254, 0 + (Int.toNat (List.getD out166 x169.toNat 0)) * 1, none⟩ = some (.slice A256 (List.length (List.getD r31 (Int.toNat (List.getD out166 x169.toNat 0)) [])) c257)] E ⟨g250, Rds.at1 (H.rd 2 rds_row) 0 g250, g253, hl258⟩ ?_
   clear E; intro a E
   refine nn_ <| wp_block ?_
   obtain ⟨x317, hL318, hK319⟩ := bind_inv hP
   clear hP
   refine loop_cut (fun i_ a w_ => (i_ = 2 ∧ ∃ (x322 : (List Bool) × (List Int)), ∃ (A314 : Option Addr) (c315 : Nat), Fr a 57 [(5, .slice (some ⟨b254, 0, none⟩) r31.length c51), (6, .slice (some ⟨b97, 0, none⟩) x322.1.length (Int.toNat (aAccept.length : Int))), (7, .slice A314 x322.2.length c315), (8, .int .i64 x169)] ∧ Hp S Fa w0 w_ [.row true (cSl (cInt .i64)) 23 (some ⟨b254, 0, none⟩) c51 r31, .rowx true cBool 4 (some ⟨b97, 0, none⟩) (Int.toNat (aAccept.length : Int)) x322.1 (List.replicate (Int.toNat (aAccept.length : Int) - Int.toNat (aAccept.length : Int)) (false : Bool)), .row true (cInt .i64) 3 A314 c315 x322.2] ∧ x317 = x322)) ?_ ?_
   ·
    refine loopV (fun m321 a w320 => ∃ (met283 : List Bool) (out284 : List Int) (x287 : Int), ∃ (A285 : Option Addr) (c286 : Nat), Fr a 57 [(5, .slice (some ⟨b254, 0, none⟩) r31.length c51), (6, .slice (some ⟨b97, 0, none⟩) met283.length (Int.toNat (aAccept.length : Int))), (7, .slice A285 out284.length c286), (8, .int .i64 x169), (37, .slice A256 (List.length (List.getD r31 (Int.toNat (List.getD out166 x169.toNat 0)) [])) c257), (38, .int .i64 (((List.length (List.getD r31 (Int.toNat (List.getD out166 x169.toNat 0)) [])) : Nat) : Int)), (39, .int .i64 x287)] ∧ Hp S Fa w0 w320 [.row true (cSl (cInt .i64)) 23 (some ⟨b254, 0, none⟩) c51 r31, .rowx true cBool 4 (some ⟨b97, 0, none⟩) (Int.toNat (aAccept.length : Int)) met283 (List.replicate (Int.toNat (aAccept.length : Int) - Int.toNat (aAccept.length : Int)) (false : Bool)), .row true (cInt .i64) 3 A285 c286 out284, .ro true (cInt .i64) A256 (List.getD r31 (Int.toNat (List.getD out166 x169.toNat 0)) [])] ∧ part_Reached_l1 N r31 out166 x169 m321 met283 out284 x287 = some x317) N ?_ ?_
    ·
     exact ⟨met165, out166, 0, (some ⟨b251, 0, none⟩), c168, E.pk, H.sel [0, 1, 2, 3] rfl, hL318⟩
    clear E H hL318; intro m321 a w320 hI_
    obtain ⟨met283, out284, x287, A285, c286, E, H, hP⟩ := hI_
    obtain ⟨m316, rfl⟩ : ∃ q_, m321 = q_ + 1 := by cases m321 with | zero => rw [part_Reached_l1] at hP; cases hP | succ q_ => exact ⟨q_, rfl⟩
    rw [part_Reached_l1] at hP
    refine sr_ <| vp 1 [(40, .bool (decide (x287 < (((List.length (List.getD r31 (Int.toNat (List.getD out166 x169.toNat 0)) [])) : Nat) : Int))))] E ?_
    clear E; intro a E
    refine nn_ <| wp_seq ?_
    revert E; refine csE 40 rfl (fun hb_ E => ?_) fun hb_ E => ?_
    ·
     have h323 : x287 < (((List.length (List.getD r31 (Int.toNat (List.getD out166 x169.toNat 0)) [])) : Nat) : Int) := of_decide_eq_true hb_
     replace hP := ite_t h323 hP
     refine c_true E rfl <| wp_skip <| th_n <| wp_seq <| wp_block <| sr_ ?_
     obtain ⟨g324, hP⟩ := ask_inv hP
     obtain ⟨b325, o326, e_b325⟩ := (H.rd 3 rds_ro).addr (idx_pos g324)
     subst e_b325
     refine vq 3 [.int .i64 (List.getD (List.getD r31 (Int.toNat (List.getD out166 x169.toNat 0)) []) x287.toNat 0)] [(10, .int .i64 (List.getD (List.getD r31 (Int.toNat (List.getD out166 x169.toNat 0)) []) x287.toNat 0))] [0 ≤ x287 ∧ x287 < (((List.length (List.getD r31 (Int.toNat (List.getD out166 x169.toNat 0)) [])) : Nat) : Int), World.cell? w320 ⟨b325, o326 + x287.toNat * 1, none⟩ = some (.int .i64 (List.getD (List.getD r31 (Int.toNat (List.getD out166 x169.toNat 0)) []) x287.toNat 0))] E ⟨g324, Rds.at1 (H.rd 3 rds_ro) 0 g324⟩ ?_
     clear E; intro a E
     refine nn_ <| sr_ ?_
     obtain ⟨g327, hP⟩ := ask_inv hP
     refine vq 5 [.bool (List.getD met283 (Int.toNat (List.getD (List.getD r31 (Int.toNat (List.getD out166 x169.toNat 0)) []) x287.toNat 0)) false)] [(47, .bool (!(List.getD met283 (Int.toNat (List.getD (List.getD r31 (Int.toNat (List.getD out166 x169.toNat 0)) []) x287.toNat 0)) false)))] [0 ≤ (List.getD (List.getD r31 (Int.toNat (List.getD out166 x169.toNat 0)) []) x287.toNat 0) ∧ (List.getD (List.getD r31 (Int.toNat (List.getD out166 x169.toNat 0)) []) x287.toNat 0) < (met283.length : Int), World.cell? w320 ⟨b97, 0 + (Int.toNat (List.getD (List.getD r31 (Int.toNat (List.getD out166 x169.toNat 0)) []) x287.toNat 0)) * 1, none⟩ = some (.bool (List.getD met283 (Int.toNat (List.getD (List.getD r31 (Int.toNat (List.getD out166 x169.toNat 0)) []) x287.toNat 0)) false))] E ⟨g327, Rds.at1 (H.rd 1 rds_rowx) false g327⟩ ?_
     clear E; intro a E
     refine nn_ ?_
     revert E; refine csE 47 rfl (fun hb_ E => ?_) fun hb_ E => ?_
     ·
      have h328 : ¬ ((List.getD met283 (Int.toNat (List.getD (List.getD r31 (Int.toNat (List.getD out166 x169.toNat 0)) []) x287.toNat 0)) false) = true) := (ne_true_of_eq_false (not_t hb_))
      replace hP := ite_f h328 hP
      refine c_true E rfl <| sr_ <| vq 3 [] [(50, .pointer (some ⟨b97, 0 + (Int.toNat (List.getD (List.getD r31 (Int.toNat (List.getD out166 x169.toNat 0)) []) x287.toNat 0)) * 1, none⟩))] [0 ≤ (List.getD (List.getD r31 (Int.toNat (List.getD out166 x169.toNat 0)) []) x287.toNat 0) ∧ (List.getD (List.getD r31 (Int.toNat (List.getD out166 x169.toNat 0)) []) x287.toNat 0) < (met283.length : Int)] E (g327) ?_
      clear E; intro a E
      refine h_setx (g := b97) (i := (List.getD (List.getD r31 (Int.toNat (List.getD out166 x169.toNat 0)) []) x287.toNat 0)) true H 1 rfl E rfl rfl rfl rfl tbok rfl (fun _ HF_ => rfl) rfl g327 rfl ?_
      clear E; intro w329 a hc330 H_ E
      replace H := H_; clear H_; try dsimp only [setn, addE, goneL] at H
      have hn331 : met283.length = (List.length (List.set met283 (Int.toNat (List.getD (List.getD r31 (Int.toNat (List.getD out166 x169.toNat 0)) []) x287.toNat 0)) true)) := by simp only [List.length_set]
      replace E := E.same (t := 6) (u := .slice (some ⟨b97, 0, none⟩) (List.length (List.set met283 (Int.toNat (List.getD (List.getD r31 (Int.toNat (List.getD out166 x169.toNat 0)) []) x287.toNat 0)) true)) (Int.toNat (aAccept.length : Int))) rfl (congrArg (fun n_ => Value.slice (some ⟨b97, 0, none⟩) n_ (Int.toNat (aAccept.length : Int))) hn331)
      refine nn_ <| rl_ <| vp 2 [(51, .slice A285 out284.length c286), (52, .int .i64 (List.getD (List.getD r31 (Int.toNat (List.getD out166 x169.toNat 0)) []) x287.toNat 0))] E ?_
      clear E; intro a E
      refine h_buildSlice (ps := [(0, .int .i64 (List.getD (List.getD r31 (Int.toNat (List.getD out166 x169.toNat 0)) []) x287.toNat 0))]) (cs := [.int .i64 (List.getD (List.getD r31 (Int.toNat (List.getD out166 x169.toNat 0)) []) x287.toNat 0)]) H E rfl rfl tbok rfl rfl (by kernel_rfl) ?_
      clear H E; intro w333 g332 a hc334 hg336 H E; replace E := E _ rfl; try dsimp only [setn, addE, goneL] at H
      obtain ⟨g337, hP⟩ := ask_inv hP
      refine h_append (cInt .i64) (xs := out284) (ys := ([(List.getD (List.getD r31 (Int.toNat (List.getD out166 x169.toNat 0)) []) x287.toNat 0)] : List Int)) (0 : Int) H 2 rfl E rfl rfl tbok rfl rfl rfl rfl rfl (fun _ _ => rfl) rfl rfl (fun _ HF_ => HF_.srcB 4 rfl (⟨_, _, rfl, rfl, rfl⟩)) g337 ?_
      clear H E; intro w338 A339 c340 a hc341 hA342 H E; replace E := E _ rfl; try dsimp only [setn, addE, goneL] at H
      refine vp 1 [(7, .slice A339 (List.length (out284 ++ ([(List.getD (List.getD r31 (Int.toNat (List.getD out166 x169.toNat 0)) []) x287.toNat 0)] : List Int))) c340)] E ?_
      clear E; intro a E
      refine nl_ <| bl_n <| th_n <| rl_ ?_
      obtain ⟨g343, hP⟩ := ask_inv hP
      refine vq 2 [.int .i64 (x287 + 1)] [(39, .int .i64 (x287 + 1))] [IntKind.i64.wrap (x287 + 1) = x287 + 1] E (wrap_in g343) ?_
      clear E; intro a E
      refine nl_ ?_
      exact th_n ⟨m316, Nat.lt_succ_self _, List.set met283 (Int.toNat (List.getD (List.getD r31 (Int.toNat (List.getD out166 x169.toNat 0)) []) x287.toNat 0)) true, out284 ++ ([(List.getD (List.getD r31 (Int.toNat (List.getD out166 x169.toNat 0)) []) x287.toNat 0)] : List Int), x287 + 1, A339, c340, E.pk, H.sel [0, 1, 2, 3] rfl, hP⟩
     have h344 : (List.getD met283 (Int.toNat (List.getD (List.getD r31 (Int.toNat (List.getD out166 x169.toNat 0)) []) x287.toNat 0)) false) = true := (not_f hb_)
     replace hP := ite_t h344 hP
     refine c_false E rfl <| wp_skip <| bl_n <| th_n <| rl_ ?_
     obtain ⟨g345, hP⟩ := ask_inv hP
     refine vq 2 [.int .i64 (x287 + 1)] [(39, .int .i64 (x287 + 1))] [IntKind.i64.wrap (x287 + 1) = x287 + 1] E (wrap_in g345) ?_
     clear E; intro a E
     refine nl_ ?_
     exact th_n ⟨m316, Nat.lt_succ_self _, met283, out284, x287 + 1, A285, c286, E.pk, H.sel [0, 1, 2, 3] rfl, hP⟩
    have h346 : ¬ (x287 < (((List.length (List.getD r31 (Int.toNat (List.getD out166 x169.toNat 0)) [])) : Nat) : Int)) := of_decide_eq_false hb_
    replace hP := ite_f h346 hP
    refine c_false E rfl <| wp_exit <| th_exit ?_
    have hx_ := Option.some.inj hP
    refine th_exit (.inl ⟨2, rfl, ?_⟩)
    exact ⟨rfl, (met283, out284), A285, c286, E.pk, H.sel [0, 1, 2] rfl, hx_.symm⟩
   clear E H hL318; intro i_ a w320 hM_
   obtain ⟨rfl, x322, A314, c315, E, H, hx_⟩ := hM_
   subst hx_; have hP := hK319; clear hK319
   refine bl_hit <| bl_n <| th_n <| rl_ ?_
   obtain ⟨g347, hP⟩ := ask_inv hP
   refine vq 3 [.int .i64 (x169 + 1)] [(8, .int .i64 (x169 + 1))] [IntKind.i64.wrap (x169 + 1) = x169 + 1] E (wrap_in g347) ?_
   clear E; intro a E
   refine nl_ ?_
   exact th_n ⟨m242, Nat.lt_succ_self _, x317.1, x317.2, x169 + 1, A314, c315, E.pk, H.sel [0, 1, 2] rfl, hP⟩
  have h348 : ¬ (x169 < (out166.length : Int)) := of_decide_eq_false hb_
  replace hP := ite_f h348 hP
  refine c_false E rfl <| wp_exit <| th_exit ?_
  have hx_ := Option.some.inj hP
  refine th_exit (.inl ⟨0, rfl, ?_⟩)
  exact ⟨rfl, out166, A167, c168, E.pk, H.sel [2] rfl, hx_.symm⟩
 clear E H hL244; intro i_ a w246 hM_
 obtain ⟨rfl, x248, A240, c241, E, H, hx_⟩ := hM_
 subst hx_; have hP := hK245; clear hK245
 refine bl_hit <| th_n <| sr_ <| vp 3 [(2, .slice A240 x243.length c241), (3, .int .i64 0)] E ?_
 clear E; intro a E
 refine nn_ <| wp_ret ?_
 obtain rfl := Option.some.inj hP
 refine ret2 E rfl rfl rfl ?_
 exact ⟨_, rfl, A240, c241, rfl, H.sel [0] rfl⟩

end Go.V
