/- Plain functions, and the calls that give them. -/
import Derived.Test.YtbgpakdldcfhiaaA1
set_option linter.all false
set_option linter.unusedVariables false
set_option linter.unnecessarySimpa false
set_option linter.unusedSimpArgs false
namespace Go.V
open Go Go.Proofs
/-! rejoinder/odds.asked -/
def odds_asked (N : Nat) (aProps : Int) (aAccept : List Bool) (aGuard : List Int) (aNodes : List Nd) (p : List Nat) (n : Int) : Option Int :=
  Option.bind (guard_Check N aProps aAccept aGuard aNodes) fun r22 =>
  if (r22 : Int) = 0 then
    if ((((List.length p) : Nat) : Int) : Int) = aProps then
      Option.bind (odds_chances N p) fun r35 =>
      if (r35 : Int) = 0 then
        if n < 0 then
          some 2
        else
          if 1024 < n then
            some 2
          else
            some 0
      else
        some 2
    else
      some 2
  else
    some r22
set_option maxRecDepth 100000 in
set_option maxHeartbeats 4000000 in
theorem odds_asked_calls {N : Nat} {S Fa : Nat → Prop} {w0 : World} {r : Int} (A1 : Option Addr) (c2 : Nat) (A5 : Option Addr) (c6 : Nat) (A9 : Option Addr) (c10 : Nat) (A13 : Option Addr) (c14 : Nat) (aProps : Int) (aAccept : List Bool) (aGuard : List Int) (aNodes : List Nd) (p : List Nat) (n : Int) (hk3 : List.length aAccept ≤ c2) (hk7 : List.length aGuard ≤ c6) (hk11 : List.length aNodes ≤ c10) (hk15 : List.length p ≤ c14) (H : Hp S Fa w0 w0 [.ro false cBool A1 aAccept, .ro false (cInt .i64) A5 aGuard, .ro false cNode A9 aNodes, .ro false cFl A13 p]) (hP : odds_asked N aProps aAccept aGuard aNodes p n = some r) :
    Calls Try.prog 21 #[.agg #[.int .i64 aProps, .slice A1 (List.length aAccept) c2, .slice A5 (List.length aGuard) c6, .slice A9 (List.length aNodes) c10], .slice A13 (List.length p) c14, .int .i64 n] w0 fun e w' => ∃ v, e = .returned v ∧ v = .int .i64 r ∧ Hp S Fa w0 w' [] := by
 refine enterV (n := 31) Try.func21 rfl rfl rfl ?_
 intro a E
 replace E := E.pick [(0, .agg #[.int .i64 aProps, .slice A1 (List.length aAccept) c2, .slice A5 (List.length aGuard) c6, .slice A9 (List.length aNodes) c10]), (1, .slice A13 (List.length p) c14), (2, .int .i64 n)] ⟨rfl, rfl, rfl, trivial⟩
 rw [odds_asked] at hP
 refine wp_seq ?_
 refine wp_region_lit ?_
 refine h_box H E rfl rfl rfl ?_
 intro w18 g17 a hc19 hg21 H_ E_
 replace E := E_ _ rfl; clear E_
 replace H := H_; clear H_; try dsimp only [setn, addE, goneL] at H
 refine vr tbok 1 [] [(1, .slice A13 (List.length p) c14), (2, .int .i64 n), (3, .pointer (some ⟨g17, 0, none⟩))] [] E (by kernel_rfl) trivial ?_
 clear E; intro a E
 refine wpList_nil ?_
 refine th_n ?_
 refine wp_seq ?_
 refine wp_seq ?_
 refine wp_region_lit ?_
 refine vr tbok 1 [.agg #[.int .i64 aProps, .slice A1 (List.length aAccept) c2, .slice A5 (List.length aGuard) c6, .slice A9 (List.length aNodes) c10]] [(1, .slice A13 (List.length p) c14), (2, .int .i64 n), (3, .pointer (some ⟨g17, 0, none⟩)), (8, .agg #[.int .i64 aProps, .slice A1 (List.length aAccept) c2, .slice A5 (List.length aGuard) c6, .slice A9 (List.length aNodes) c10])] [cellsAt w18 g17 (0) [.int .i64 aProps, .slice A1 (List.length aAccept) c2, .slice A5 (List.length aGuard) c6, .slice A9 (List.length aNodes) c10]] E (by kernel_rfl) ((H.box 4 rfl).sub 0 _ rfl) ?_
 clear E; intro a E
 obtain ⟨r22, h23, hP⟩ := bind_inv hP
 obtain ⟨Fa24, Hc25, hb26⟩ := H.call [] [(0, false), (1, false), (2, false)] rfl rfl trivial
 refine e_call E rfl rfl Try.func26 rfl rfl rfl (guard_Check_calls A1 c2 A5 c6 A9 c10 aProps aAccept aGuard aNodes hk3 hk7 hk11 Hc25 h23) ?_
 rintro v27 w28 a ⟨rfl, HR29⟩ E_
 replace E := E_ _ rfl; clear E_
 obtain ⟨H_, hc30⟩ := hb26 _ _ HR29 rfl
 replace H := H_; clear H_; try dsimp only [setn, addE, goneL] at H
 refine vr tbok 1 [] [(1, .slice A13 (List.length p) c14), (2, .int .i64 n), (3, .pointer (some ⟨g17, 0, none⟩)), (7, .int .i64 r22)] [] E (by kernel_rfl) trivial ?_
 clear E; intro a E
 refine wpList_nil ?_
 refine th_n ?_
 refine wp_seq ?_
 refine wp_region_lit ?_
 refine vr tbok 2 [] [(1, .slice A13 (List.length p) c14), (2, .int .i64 n), (3, .pointer (some ⟨g17, 0, none⟩)), (7, .int .i64 r22), (11, .bool ((r22 : Int) != 0))] [] E (by kernel_rfl) trivial ?_
 clear E; intro a E
 refine wpList_nil ?_
 refine th_n ?_
 refine E.cases (t := 11) rfl (fun hb_ E_ => ?_) (fun hb_ E_ => ?_)
 ·
  replace E := E_; clear E_
  have h31 : ¬ ((r22 : Int) = 0) := bne_iff_ne.1 hb_
  clear hb_; replace hP := ite_f h31 hP
  refine c_true E rfl ?_
  refine wp_seq ?_
  refine wp_region_lit ?_
  refine vr tbok 2 [] [(6, .int .i64 r22)] [] E (by kernel_rfl) trivial ?_
  clear E; intro a E
  refine wpList_nil ?_
  refine th_n ?_
  refine wp_ret ?_
  refine th_ret ?_
  obtain rfl := Option.some.inj hP
  refine ret1 E rfl rfl ?_
  exact ⟨_, rfl, rfl, H.sel [] rfl⟩
 replace E := E_; clear E_
 have h32 : (r22 : Int) = 0 := bne_eq_false_iff_eq.1 hb_
 clear hb_; replace hP := ite_t h32 hP
 refine c_false E rfl ?_
 refine wp_skip ?_
 refine th_n ?_
 refine wp_seq ?_
 refine wp_seq ?_
 refine wp_region_lit ?_
 refine vr tbok 6 [.int .i64 aProps] [(1, .slice A13 (List.length p) c14), (2, .int .i64 n), (18, .bool (((((List.length p) : Nat) : Int) : Int) != aProps))] [World.cell? w28 ⟨g17, 0, none⟩ = some (.int .i64 aProps)] E (by kernel_rfl) ((H.box 4 rfl).cell (j := 0) rfl) ?_
 clear E; intro a E
 refine E.cases (t := 18) rfl (fun hb_ E_ => ?_) (fun hb_ E_ => ?_)
 ·
  replace E := E_; clear E_
  have h33 : ¬ (((((List.length p) : Nat) : Int) : Int) = aProps) := bne_iff_ne.1 hb_
  clear hb_; replace hP := ite_f h33 hP
  refine vr tbok 12 [] [(30, .bool true)] [] E (by kernel_rfl) trivial ?_
  clear E; intro a E
  refine wpList_nil ?_
  refine th_n ?_
  refine c_true E rfl ?_
  refine wp_seq ?_
  refine wp_region_lit ?_
  refine vr tbok 1 [] [(6, .int .i64 2)] [] E (by kernel_rfl) trivial ?_
  clear E; intro a E
  refine wpList_nil ?_
  refine th_n ?_
  refine wp_ret ?_
  refine th_ret ?_
  obtain rfl := Option.some.inj hP
  refine ret1 E rfl rfl ?_
  exact ⟨_, rfl, rfl, H.sel [] rfl⟩
 replace E := E_; clear E_
 have h34 : ((((List.length p) : Nat) : Int) : Int) = aProps := bne_eq_false_iff_eq.1 hb_
 clear hb_; replace hP := ite_t h34 hP
 refine vr tbok 1 [] [(2, .int .i64 n), (18, .bool false), (19, .slice A13 (List.length p) c14)] [] E (by kernel_rfl) trivial ?_
 clear E; intro a E
 obtain ⟨r35, h36, hP⟩ := bind_inv hP
 obtain ⟨Fa37, Hc38, hb39⟩ := H.call [] [(3, false)] rfl rfl trivial
 refine e_call E rfl rfl Try.func24 rfl rfl rfl (odds_chances_calls A13 c14 p hk15 Hc38 h36) ?_
 rintro v40 w41 a ⟨rfl, HR42⟩ E_
 replace E := E_ _ rfl; clear E_
 obtain ⟨H_, hc43⟩ := hb39 _ _ HR42 rfl
 replace H := H_; clear H_; try dsimp only [setn, addE, goneL] at H
 refine vr tbok 3 [] [(2, .int .i64 n), (23, .bool ((r35 : Int) != 0))] [] E (by kernel_rfl) trivial ?_
 clear E; intro a E
 refine E.cases (t := 23) rfl (fun hb_ E_ => ?_) (fun hb_ E_ => ?_)
 ·
  replace E := E_; clear E_
  have h44 : ¬ ((r35 : Int) = 0) := bne_iff_ne.1 hb_
  clear hb_; replace hP := ite_f h44 hP
  refine vr tbok 7 [] [(30, .bool true)] [] E (by kernel_rfl) trivial ?_
  clear E; intro a E
  refine wpList_nil ?_
  refine th_n ?_
  refine c_true E rfl ?_
  refine wp_seq ?_
  refine wp_region_lit ?_
  refine vr tbok 1 [] [(6, .int .i64 2)] [] E (by kernel_rfl) trivial ?_
  clear E; intro a E
  refine wpList_nil ?_
  refine th_n ?_
  refine wp_ret ?_
  refine th_ret ?_
  obtain rfl := Option.some.inj hP
  refine ret1 E rfl rfl ?_
  exact ⟨_, rfl, rfl, H.sel [] rfl⟩
 replace E := E_; clear E_
 have h45 : (r35 : Int) = 0 := bne_eq_false_iff_eq.1 hb_
 clear hb_; replace hP := ite_t h45 hP
 refine vr tbok 4 [] [(2, .int .i64 n), (27, .bool (decide (n < 0)))] [] E (by kernel_rfl) trivial ?_
 clear E; intro a E
 refine E.cases (t := 27) rfl (fun hb_ E_ => ?_) (fun hb_ E_ => ?_)
 ·
  replace E := E_; clear E_
  have h46 : n < 0 := of_decide_eq_true hb_
  clear hb_; replace hP := ite_t h46 hP
  refine vr tbok 3 [] [(30, .bool true)] [] E (by kernel_rfl) trivial ?_
  clear E; intro a E
  refine wpList_nil ?_
  refine th_n ?_
  refine c_true E rfl ?_
  refine wp_seq ?_
  refine wp_region_lit ?_
  refine vr tbok 1 [] [(6, .int .i64 2)] [] E (by kernel_rfl) trivial ?_
  clear E; intro a E
  refine wpList_nil ?_
  refine th_n ?_
  refine wp_ret ?_
  refine th_ret ?_
  obtain rfl := Option.some.inj hP
  refine ret1 E rfl rfl ?_
  exact ⟨_, rfl, rfl, H.sel [] rfl⟩
 replace E := E_; clear E_
 have h47 : ¬ (n < 0) := of_decide_eq_false hb_
 clear hb_; replace hP := ite_f h47 hP
 refine vr tbok 3 [] [(30, .bool (decide (1024 < n)))] [] E (by kernel_rfl) trivial ?_
 clear E; intro a E
 refine wpList_nil ?_
 refine th_n ?_
 refine E.cases (t := 30) rfl (fun hb_ E_ => ?_) (fun hb_ E_ => ?_)
 ·
  replace E := E_; clear E_
  have h48 : 1024 < n := of_decide_eq_true hb_
  clear hb_; replace hP := ite_t h48 hP
  refine c_true E rfl ?_
  refine wp_seq ?_
  refine wp_region_lit ?_
  refine vr tbok 1 [] [(6, .int .i64 2)] [] E (by kernel_rfl) trivial ?_
  clear E; intro a E
  refine wpList_nil ?_
  refine th_n ?_
  refine wp_ret ?_
  refine th_ret ?_
  obtain rfl := Option.some.inj hP
  refine ret1 E rfl rfl ?_
  exact ⟨_, rfl, rfl, H.sel [] rfl⟩
 replace E := E_; clear E_
 have h49 : ¬ (1024 < n) := of_decide_eq_false hb_
 clear hb_; replace hP := ite_f h49 hP
 refine c_false E rfl ?_
 refine wp_skip ?_
 refine th_n ?_
 refine wp_seq ?_
 refine wp_region_lit ?_
 refine vr tbok 1 [] [(6, .int .i64 0)] [] E (by kernel_rfl) trivial ?_
 clear E; intro a E
 refine wpList_nil ?_
 refine th_n ?_
 refine wp_ret ?_
 obtain rfl := Option.some.inj hP
 refine ret1 E rfl rfl ?_
 exact ⟨_, rfl, rfl, H.sel [] rfl⟩

/-! rejoinder/odds.letters -/
def odds_letters_l1 (N : Nat) (p : List Nat) (x53 : Int) : Nat → Nat → Int → Option Nat
  | 0, _, _ => none
  | m136 + 1, c117, x118 =>
    if x118 < (((List.length p) : Nat) : Int) then
      ask (idx x118 (List.length p)) <|
      ask (0 ≤ x118) <|
      if (andV .i64 (shrV .i64 x53 x118) 1 : Int) = 0 then
        Option.bind (fSub 4607182418800017408 (List.getD p (Int.toNat x118) 0)) fun f149 =>
        Option.bind (fMul c117 f149) fun f151 =>
        ask (in64 (x118 + 1)) <|
        odds_letters_l1 N p x53 m136 f151 (x118 + 1)
      else
        Option.bind (fMul c117 (List.getD p (Int.toNat x118) 0)) fun f155 =>
        ask (in64 (x118 + 1)) <|
        odds_letters_l1 N p x53 m136 f155 (x118 + 1)
    else
      some c117
def odds_letters_l0 (N : Nat) (p : List Nat) : Nat → (List Nat) → Int → Option (List Nat)
  | 0, _, _ => none
  | m96 + 1, out52, x53 =>
    if x53 < (((List.length (List.replicate (Int.toNat (shlV .i64 1 (((List.length p) : Nat) : Int))) (0 : Nat))) : Nat) : Int) then
      Option.bind (odds_letters_l1 N p x53 N 4607182418800017408 0) fun x137 =>
      Option.bind (fAdd x137 0) fun f159 =>
      ask (idx x53 (List.length out52)) <|
      ask (in64 (x53 + 1)) <|
      odds_letters_l0 N p m96 (List.set out52 (Int.toNat x53) f159) (x53 + 1)
    else
      some out52
def odds_letters (N : Nat) (p : List Nat) : Option (List Nat) :=
  ask (0 ≤ (((List.length p) : Nat) : Int)) <|
  ask (0 ≤ (shlV .i64 1 (((List.length p) : Nat) : Int)) ∧ (shlV .i64 1 (((List.length p) : Nat) : Int)) ≤ 1000000000) <|
  Option.bind (odds_letters_l0 N p N (List.replicate (Int.toNat (shlV .i64 1 (((List.length p) : Nat) : Int))) (0 : Nat)) 0) fun x97 =>
  some x97
set_option maxRecDepth 100000 in
set_option maxHeartbeats 4000000 in
theorem odds_letters_calls {N : Nat} {S Fa : Nat → Prop} {w0 : World} {r : List Nat} (A1 : Option Addr) (c2 : Nat) (p : List Nat) (hk3 : List.length p ≤ c2) (H : Hp S Fa w0 w0 [.ro false cFl A1 p]) (hP : odds_letters N p = some r) :
    Calls Try.prog 25 #[.slice A1 (List.length p) c2] w0 fun e w' => ∃ v, e = .returned v ∧ ∃ (A167 : Option Addr) (c168 : Nat), v = .slice A167 (List.length r) c168 ∧ Hp S Fa w0 w' [.row true cFl 33 A167 c168 r] := by
 refine enterV (n := 42) Try.func25 rfl rfl rfl ?_
 intro a E
 replace E := E.pick [(0, .slice A1 (List.length p) c2)] ⟨rfl, trivial⟩
 rw [odds_letters] at hP
 refine wp_seq ?_
 refine wp_region_lit ?_
 refine vr tbok 1 [] [(0, .slice A1 (List.length p) c2)] [] E (by kernel_rfl) trivial ?_
 clear E; intro a E
 refine wpList_nil ?_
 refine th_n ?_
 refine wp_seq ?_
 refine wp_region_lit ?_
 obtain ⟨g5, hP⟩ := ask_inv hP
 refine vr tbok 3 [.int .i64 (shlV .i64 1 (((List.length p) : Nat) : Int))] [(0, .slice A1 (List.length p) c2), (10, .int .i64 (shlV .i64 1 (((List.length p) : Nat) : Int)))] [0 ≤ (((List.length p) : Nat) : Int) ∧ IntKind.i64.wrap (1 * 2 ^ (min (Int.toNat (((List.length p) : Nat) : Int)) (IntKind.bits .i64))) = shlV .i64 1 (((List.length p) : Nat) : Int)] E (by kernel_rfl) (⟨g5, rfl⟩) ?_
 clear E; intro a E
 obtain ⟨g6, hP⟩ := ask_inv hP
 refine h_make cFl (0 : Nat) H E rfl rfl tbok rfl rfl rfl rfl ⟨g6.1, Int.le_refl _, g6.2⟩ rfl rfl rfl (fun _ _ => rfl) ?_
 intro w8 g7 a hc9 hg11 H_ E_
 replace E := E_ _ rfl; clear E_
 replace H := H_; clear H_; try dsimp only [setn, addE, goneL] at H
 refine vr tbok 1 [] [(0, .slice A1 (List.length p) c2), (3, .slice (some ⟨g7, 0, none⟩) (List.length (List.replicate (Int.toNat (shlV .i64 1 (((List.length p) : Nat) : Int))) (0 : Nat))) (Int.toNat (shlV .i64 1 (((List.length p) : Nat) : Int))))] [] E (by kernel_rfl) trivial ?_
 clear E; intro a E
 refine wpList_nil ?_
 refine th_n ?_
 refine wp_seq ?_
 refine wp_seq ?_
 refine wp_region_lit ?_
 refine vr tbok 3 [] [(0, .slice A1 (List.length p) c2), (3, .slice (some ⟨g7, 0, none⟩) (List.length (List.replicate (Int.toNat (shlV .i64 1 (((List.length p) : Nat) : Int))) (0 : Nat))) (Int.toNat (shlV .i64 1 (((List.length p) : Nat) : Int)))), (13, .int .i64 (((List.length (List.replicate (Int.toNat (shlV .i64 1 (((List.length p) : Nat) : Int))) (0 : Nat))) : Nat) : Int)), (14, .int .i64 0)] [] E (by kernel_rfl) trivial ?_
 clear E; intro a E
 refine wpList_nil ?_
 refine th_n ?_
 refine wp_block ?_
 obtain ⟨x97, hL98, hK99⟩ := bind_inv hP
 clear hP
 refine loop_cut (fun i_ a w_ => (i_ = 0 ∧ ∃ (x102 : List Nat), Fr a 42 [(3, .slice (some ⟨g7, 0, none⟩) (List.length x102) (Int.toNat (shlV .i64 1 (((List.length p) : Nat) : Int))))] ∧ Hp S Fa w0 w_ [.rowx true cFl 33 (some ⟨g7, 0, none⟩) (Int.toNat (shlV .i64 1 (((List.length p) : Nat) : Int))) x102 (List.replicate (Int.toNat (shlV .i64 1 (((List.length p) : Nat) : Int)) - Int.toNat (shlV .i64 1 (((List.length p) : Nat) : Int))) (0 : Nat))] ∧ x97 = x102)) ?_ ?_
 ·
  refine loopV (fun m101 a w100 => ∃ (out52 : List Nat) (x53 : Int), Fr a 42 [(0, .slice A1 (List.length p) c2), (3, .slice (some ⟨g7, 0, none⟩) (List.length out52) (Int.toNat (shlV .i64 1 (((List.length p) : Nat) : Int)))), (13, .int .i64 (((List.length (List.replicate (Int.toNat (shlV .i64 1 (((List.length p) : Nat) : Int))) (0 : Nat))) : Nat) : Int)), (14, .int .i64 x53)] ∧ Hp S Fa w0 w100 [.ro false cFl A1 p, .rowx true cFl 33 (some ⟨g7, 0, none⟩) (Int.toNat (shlV .i64 1 (((List.length p) : Nat) : Int))) out52 (List.replicate (Int.toNat (shlV .i64 1 (((List.length p) : Nat) : Int)) - Int.toNat (shlV .i64 1 (((List.length p) : Nat) : Int))) (0 : Nat))] ∧ odds_letters_l0 N p m101 out52 x53 = some x97) N ?_ ?_
  ·
   exact ⟨List.replicate (Int.toNat (shlV .i64 1 (((List.length p) : Nat) : Int))) (0 : Nat), 0, E.pick _ ⟨rfl, rfl, rfl, rfl, trivial⟩, H.sel [0, 1] rfl, hL98⟩
  clear E H hL98; intro m101 a w100 hI_
  obtain ⟨out52, x53, E, H, hP⟩ := hI_
  obtain ⟨m96, rfl⟩ : ∃ q_, m101 = q_ + 1 := by cases m101 with | zero => rw [odds_letters_l0] at hP; cases hP | succ q_ => exact ⟨q_, rfl⟩
  rw [odds_letters_l0] at hP
  refine wp_seq ?_
  refine wp_region_lit ?_
  refine vr tbok 1 [] [(0, .slice A1 (List.length p) c2), (3, .slice (some ⟨g7, 0, none⟩) (List.length out52) (Int.toNat (shlV .i64 1 (((List.length p) : Nat) : Int)))), (13, .int .i64 (((List.length (List.replicate (Int.toNat (shlV .i64 1 (((List.length p) : Nat) : Int))) (0 : Nat))) : Nat) : Int)), (14, .int .i64 x53), (15, .bool (decide (x53 < (((List.length (List.replicate (Int.toNat (shlV .i64 1 (((List.length p) : Nat) : Int))) (0 : Nat))) : Nat) : Int))))] [] E (by kernel_rfl) trivial ?_
  clear E; intro a E
  refine wpList_nil ?_
  refine th_n ?_
  refine wp_seq ?_
  refine E.cases (t := 15) rfl (fun hb_ E_ => ?_) (fun hb_ E_ => ?_)
  ·
   replace E := E_; clear E_
   have h103 : x53 < (((List.length (List.replicate (Int.toNat (shlV .i64 1 (((List.length p) : Nat) : Int))) (0 : Nat))) : Nat) : Int) := of_decide_eq_true hb_
   clear hb_; replace hP := ite_t h103 hP
   refine c_true E rfl ?_
   refine wp_skip ?_
   refine th_n ?_
   refine wp_seq ?_
   refine wp_block ?_
   refine wp_seq ?_
   refine wp_region_lit ?_
   refine vr tbok 2 [] [(0, .slice A1 (List.length p) c2), (3, .slice (some ⟨g7, 0, none⟩) (List.length out52) (Int.toNat (shlV .i64 1 (((List.length p) : Nat) : Int)))), (4, .int .i64 x53), (13, .int .i64 (((List.length (List.replicate (Int.toNat (shlV .i64 1 (((List.length p) : Nat) : Int))) (0 : Nat))) : Nat) : Int)), (14, .int .i64 x53)] [] E (by kernel_rfl) trivial ?_
   clear E; intro a E
   refine wpList_nil ?_
   refine th_n ?_
   refine wp_seq ?_
   refine wp_region_lit ?_
   refine vr tbok 1 [] [(0, .slice A1 (List.length p) c2), (3, .slice (some ⟨g7, 0, none⟩) (List.length out52) (Int.toNat (shlV .i64 1 (((List.length p) : Nat) : Int)))), (4, .int .i64 x53), (5, .float .f64 4607182418800017408), (13, .int .i64 (((List.length (List.replicate (Int.toNat (shlV .i64 1 (((List.length p) : Nat) : Int))) (0 : Nat))) : Nat) : Int)), (14, .int .i64 x53)] [] E (by kernel_rfl) trivial ?_
   clear E; intro a E
   refine wpList_nil ?_
   refine th_n ?_
   refine wp_seq ?_
   refine wp_seq ?_
   refine wp_region_lit ?_
   refine vr tbok 3 [] [(0, .slice A1 (List.length p) c2), (3, .slice (some ⟨g7, 0, none⟩) (List.length out52) (Int.toNat (shlV .i64 1 (((List.length p) : Nat) : Int)))), (4, .int .i64 x53), (5, .float .f64 4607182418800017408), (13, .int .i64 (((List.length (List.replicate (Int.toNat (shlV .i64 1 (((List.length p) : Nat) : Int))) (0 : Nat))) : Nat) : Int)), (14, .int .i64 x53), (17, .slice A1 (List.length p) c2), (18, .int .i64 (((List.length p) : Nat) : Int)), (19, .int .i64 0)] [] E (by kernel_rfl) trivial ?_
   clear E; intro a E
   refine wpList_nil ?_
   refine th_n ?_
   refine wp_block ?_
   obtain ⟨x137, hL138, hK139⟩ := bind_inv hP
   clear hP
   refine loop_cut (fun i_ a w_ => (i_ = 2 ∧ ∃ (x142 : Nat), Fr a 42 [(0, .slice A1 (List.length p) c2), (3, .slice (some ⟨g7, 0, none⟩) (List.length out52) (Int.toNat (shlV .i64 1 (((List.length p) : Nat) : Int)))), (4, .int .i64 x53), (5, .float .f64 x142), (13, .int .i64 (((List.length (List.replicate (Int.toNat (shlV .i64 1 (((List.length p) : Nat) : Int))) (0 : Nat))) : Nat) : Int)), (14, .int .i64 x53)] ∧ Hp S Fa w0 w_ [.ro false cFl A1 p, .rowx true cFl 33 (some ⟨g7, 0, none⟩) (Int.toNat (shlV .i64 1 (((List.length p) : Nat) : Int))) out52 (List.replicate (Int.toNat (shlV .i64 1 (((List.length p) : Nat) : Int)) - Int.toNat (shlV .i64 1 (((List.length p) : Nat) : Int))) (0 : Nat))] ∧ x137 = x142)) ?_ ?_
   ·
    refine loopV (fun m141 a w140 => ∃ (c117 : Nat) (x118 : Int), Fr a 42 [(0, .slice A1 (List.length p) c2), (3, .slice (some ⟨g7, 0, none⟩) (List.length out52) (Int.toNat (shlV .i64 1 (((List.length p) : Nat) : Int)))), (4, .int .i64 x53), (5, .float .f64 c117), (13, .int .i64 (((List.length (List.replicate (Int.toNat (shlV .i64 1 (((List.length p) : Nat) : Int))) (0 : Nat))) : Nat) : Int)), (14, .int .i64 x53), (17, .slice A1 (List.length p) c2), (18, .int .i64 (((List.length p) : Nat) : Int)), (19, .int .i64 x118)] ∧ Hp S Fa w0 w140 [.ro false cFl A1 p, .rowx true cFl 33 (some ⟨g7, 0, none⟩) (Int.toNat (shlV .i64 1 (((List.length p) : Nat) : Int))) out52 (List.replicate (Int.toNat (shlV .i64 1 (((List.length p) : Nat) : Int)) - Int.toNat (shlV .i64 1 (((List.length p) : Nat) : Int))) (0 : Nat))] ∧ odds_letters_l1 N p x53 m141 c117 x118 = some x137) N ?_ ?_
    ·
     exact ⟨4607182418800017408, 0, E.pick _ ⟨rfl, rfl, rfl, rfl, rfl, rfl, rfl, rfl, rfl, trivial⟩, H.sel [0, 1] rfl, hL138⟩
    clear E H hL138; intro m141 a w140 hI_
    obtain ⟨c117, x118, E, H, hP⟩ := hI_
    obtain ⟨m136, rfl⟩ : ∃ q_, m141 = q_ + 1 := by cases m141 with | zero => rw [odds_letters_l1] at hP; cases hP | succ q_ => exact ⟨q_, rfl⟩
    rw [odds_letters_l1] at hP
    refine wp_seq ?_
    refine wp_region_lit ?_
    refine vr tbok 1 [] [(0, .slice A1 (List.length p) c2), (3, .slice (some ⟨g7, 0, none⟩) (List.length out52) (Int.toNat (shlV .i64 1 (((List.length p) : Nat) : Int)))), (4, .int .i64 x53), (5, .float .f64 c117), (13, .int .i64 (((List.length (List.replicate (Int.toNat (shlV .i64 1 (((List.length p) : Nat) : Int))) (0 : Nat))) : Nat) : Int)), (14, .int .i64 x53), (17, .slice A1 (List.length p) c2), (18, .int .i64 (((List.length p) : Nat) : Int)), (19, .int .i64 x118), (20, .bool (decide (x118 < (((List.length p) : Nat) : Int))))] [] E (by kernel_rfl) trivial ?_
    clear E; intro a E
    refine wpList_nil ?_
    refine th_n ?_
    refine wp_seq ?_
    refine E.cases (t := 20) rfl (fun hb_ E_ => ?_) (fun hb_ E_ => ?_)
    ·
     replace E := E_; clear E_
     have h143 : x118 < (((List.length p) : Nat) : Int) := of_decide_eq_true hb_
     clear hb_; replace hP := ite_t h143 hP
     refine c_true E rfl ?_
     refine wp_skip ?_
     refine th_n ?_
     refine wp_seq ?_
     refine wp_block ?_
     refine wp_seq ?_
     refine wp_region_lit ?_
     obtain ⟨g144, hP⟩ := ask_inv hP
     obtain ⟨b145, o146, e_b145⟩ := (H.rd 0 rds_ro).addr (idx_pos g144)
     subst e_b145
     refine vr tbok 5 [.float .f64 (List.getD p (Int.toNat x118) 0)] [(0, .slice (some ⟨b145, o146, none⟩) (List.length p) c2), (3, .slice (some ⟨g7, 0, none⟩) (List.length out52) (Int.toNat (shlV .i64 1 (((List.length p) : Nat) : Int)))), (4, .int .i64 x53), (5, .float .f64 c117), (6, .int .i64 x118), (7, .float .f64 (List.getD p (Int.toNat x118) 0)), (13, .int .i64 (((List.length (List.replicate (Int.toNat (shlV .i64 1 (((List.length p) : Nat) : Int))) (0 : Nat))) : Nat) : Int)), (14, .int .i64 x53), (17, .slice (some ⟨b145, o146, none⟩) (List.length p) c2), (18, .int .i64 (((List.length p) : Nat) : Int)), (19, .int .i64 x118)] [0 ≤ x118 ∧ x118 < (((List.length p) : Nat) : Int), World.cell? w140 ⟨b145, o146 + (Int.toNat x118) * 1, none⟩ = some (.float .f64 (List.getD p (Int.toNat x118) 0))] E (by kernel_rfl) ⟨g144, Rds.at1 (H.rd 0 rds_ro) 0 g144⟩ ?_
     clear E; intro a E
     refine wpList_nil ?_
     refine th_n ?_
     refine wp_seq ?_
     refine wp_seq ?_
     refine wp_region_lit ?_
     obtain ⟨g147, hP⟩ := ask_inv hP
     refine vr tbok 5 [.int .i64 (shrV .i64 x53 x118), .int .i64 (andV .i64 (shrV .i64 x53 x118) 1)] [(0, .slice (some ⟨b145, o146, none⟩) (List.length p) c2), (3, .slice (some ⟨g7, 0, none⟩) (List.length out52) (Int.toNat (shlV .i64 1 (((List.length p) : Nat) : Int)))), (4, .int .i64 x53), (5, .float .f64 c117), (7, .float .f64 (List.getD p (Int.toNat x118) 0)), (13, .int .i64 (((List.length (List.replicate (Int.toNat (shlV .i64 1 (((List.length p) : Nat) : Int))) (0 : Nat))) : Nat) : Int)), (14, .int .i64 x53), (17, .slice (some ⟨b145, o146, none⟩) (List.length p) c2), (18, .int .i64 (((List.length p) : Nat) : Int)), (19, .int .i64 x118), (28, .bool ((andV .i64 (shrV .i64 x53 x118) 1 : Int) == 0))] [0 ≤ x118 ∧ Int.fdiv x53 (2 ^ (min (Int.toNat x118) (IntKind.bits .i64))) = shrV .i64 x53 x118, IntKind.i64.wrap (BitVec.ofInt (IntKind.bits .i64) (shrV .i64 x53 x118) &&& BitVec.ofInt (IntKind.bits .i64) 1).toNat = andV .i64 (shrV .i64 x53 x118) 1] E (by kernel_rfl) ⟨⟨g147, rfl⟩, rfl⟩ ?_
     clear E; intro a E
     refine wpList_nil ?_
     refine th_n ?_
     refine E.cases (t := 28) rfl (fun hb_ E_ => ?_) (fun hb_ E_ => ?_)
     ·
      replace E := E_; clear E_
      have h148 : (andV .i64 (shrV .i64 x53 x118) 1 : Int) = 0 := eq_of_beq hb_
      clear hb_; replace hP := ite_t h148 hP
      refine c_true E rfl ?_
      refine wp_region_lit ?_
      obtain ⟨f149, h150, hP⟩ := bind_inv hP
      refine vr tbok 3 [.float .f64 f149] [(0, .slice (some ⟨b145, o146, none⟩) (List.length p) c2), (3, .slice (some ⟨g7, 0, none⟩) (List.length out52) (Int.toNat (shlV .i64 1 (((List.length p) : Nat) : Int)))), (4, .int .i64 x53), (5, .float .f64 c117), (7, .float .f64 f149), (13, .int .i64 (((List.length (List.replicate (Int.toNat (shlV .i64 1 (((List.length p) : Nat) : Int))) (0 : Nat))) : Nat) : Int)), (14, .int .i64 x53), (17, .slice (some ⟨b145, o146, none⟩) (List.length p) c2), (18, .int .i64 (((List.length p) : Nat) : Int)), (19, .int .i64 x118)] [fSub 4607182418800017408 (List.getD p (Int.toNat x118) 0) = some f149] E (by kernel_rfl) (h150) ?_
      clear E; intro a E
      refine wpList_nil ?_
      refine th_n ?_
      refine wp_region_lit ?_
      obtain ⟨f151, h152, hP⟩ := bind_inv hP
      refine vr tbok 4 [.float .f64 f151] [(0, .slice (some ⟨b145, o146, none⟩) (List.length p) c2), (3, .slice (some ⟨g7, 0, none⟩) (List.length out52) (Int.toNat (shlV .i64 1 (((List.length p) : Nat) : Int)))), (4, .int .i64 x53), (5, .float .f64 f151), (13, .int .i64 (((List.length (List.replicate (Int.toNat (shlV .i64 1 (((List.length p) : Nat) : Int))) (0 : Nat))) : Nat) : Int)), (14, .int .i64 x53), (17, .slice (some ⟨b145, o146, none⟩) (List.length p) c2), (18, .int .i64 (((List.length p) : Nat) : Int)), (19, .int .i64 x118)] [fMul c117 f149 = some f151] E (by kernel_rfl) (h152) ?_
      clear E; intro a E
      refine wpList_nil ?_
      refine bl_n ?_
      refine th_n ?_
      refine wp_region_lit ?_
      obtain ⟨g153, hP⟩ := ask_inv hP
      refine vr tbok 2 [.int .i64 (x118 + 1)] [(0, .slice (some ⟨b145, o146, none⟩) (List.length p) c2), (3, .slice (some ⟨g7, 0, none⟩) (List.length out52) (Int.toNat (shlV .i64 1 (((List.length p) : Nat) : Int)))), (4, .int .i64 x53), (5, .float .f64 f151), (13, .int .i64 (((List.length (List.replicate (Int.toNat (shlV .i64 1 (((List.length p) : Nat) : Int))) (0 : Nat))) : Nat) : Int)), (14, .int .i64 x53), (17, .slice (some ⟨b145, o146, none⟩) (List.length p) c2), (18, .int .i64 (((List.length p) : Nat) : Int)), (19, .int .i64 (x118 + 1))] [IntKind.i64.wrap (x118 + 1) = x118 + 1] E (by kernel_rfl) (wrap_in g153) ?_
      clear E; intro a E
      refine wpList_nil ?_
      exact th_n ⟨m136, Nat.lt_succ_self _, f151, x118 + 1, E.pick _ ⟨rfl, rfl, rfl, rfl, rfl, rfl, rfl, rfl, rfl, trivial⟩, H.sel [0, 1] rfl, hP⟩
     replace E := E_; clear E_
     have h154 : ¬ ((andV .i64 (shrV .i64 x53 x118) 1 : Int) = 0) := ne_of_beq_false hb_
     clear hb_; replace hP := ite_f h154 hP
     refine c_false E rfl ?_
     refine wp_skip ?_
     refine th_n ?_
     refine wp_region_lit ?_
     obtain ⟨f155, h156, hP⟩ := bind_inv hP
     refine vr tbok 4 [.float .f64 f155] [(0, .slice (some ⟨b145, o146, none⟩) (List.length p) c2), (3, .slice (some ⟨g7, 0, none⟩) (List.length out52) (Int.toNat (shlV .i64 1 (((List.length p) : Nat) : Int)))), (4, .int .i64 x53), (5, .float .f64 f155), (13, .int .i64 (((List.length (List.replicate (Int.toNat (shlV .i64 1 (((List.length p) : Nat) : Int))) (0 : Nat))) : Nat) : Int)), (14, .int .i64 x53), (17, .slice (some ⟨b145, o146, none⟩) (List.length p) c2), (18, .int .i64 (((List.length p) : Nat) : Int)), (19, .int .i64 x118)] [fMul c117 (List.getD p (Int.toNat x118) 0) = some f155] E (by kernel_rfl) (h156) ?_
     clear E; intro a E
     refine wpList_nil ?_
     refine bl_n ?_
     refine th_n ?_
     refine wp_region_lit ?_
     obtain ⟨g157, hP⟩ := ask_inv hP
     refine vr tbok 2 [.int .i64 (x118 + 1)] [(0, .slice (some ⟨b145, o146, none⟩) (List.length p) c2), (3, .slice (some ⟨g7, 0, none⟩) (List.length out52) (Int.toNat (shlV .i64 1 (((List.length p) : Nat) : Int)))), (4, .int .i64 x53), (5, .float .f64 f155), (13, .int .i64 (((List.length (List.replicate (Int.toNat (shlV .i64 1 (((List.length p) : Nat) : Int))) (0 : Nat))) : Nat) : Int)), (14, .int .i64 x53), (17, .slice (some ⟨b145, o146, none⟩) (List.length p) c2), (18, .int .i64 (((List.length p) : Nat) : Int)), (19, .int .i64 (x118 + 1))] [IntKind.i64.wrap (x118 + 1) = x118 + 1] E (by kernel_rfl) (wrap_in g157) ?_
     clear E; intro a E
     refine wpList_nil ?_
     exact th_n ⟨m136, Nat.lt_succ_self _, f155, x118 + 1, E.pick _ ⟨rfl, rfl, rfl, rfl, rfl, rfl, rfl, rfl, rfl, trivial⟩, H.sel [0, 1] rfl, hP⟩
    replace E := E_; clear E_
    have h158 : ¬ (x118 < (((List.length p) : Nat) : Int)) := of_decide_eq_false hb_
    clear hb_; replace hP := ite_f h158 hP
    refine c_false E rfl ?_
    refine wp_exit ?_
    refine th_exit ?_
    have hx_ := Option.some.inj hP
    refine th_exit (.inl ⟨2, rfl, ?_⟩)
    exact ⟨rfl, c117, E.pick _ ⟨rfl, rfl, rfl, rfl, rfl, rfl, trivial⟩, H.sel [0, 1] rfl, hx_.symm⟩
   clear E H hL138; intro i_ a w140 hM_
   obtain ⟨rfl, x142, E, H, hx_⟩ := hM_
   subst hx_; have hP := hK139; clear hK139
   refine bl_hit ?_
   refine th_n ?_
   refine wp_region_lit ?_
   obtain ⟨f159, h160, hP⟩ := bind_inv hP
   obtain ⟨g161, hP⟩ := ask_inv hP
   refine vr tbok 5 [.float .f64 f159] [(0, .slice A1 (List.length p) c2), (3, .slice (some ⟨g7, 0, none⟩) (List.length out52) (Int.toNat (shlV .i64 1 (((List.length p) : Nat) : Int)))), (13, .int .i64 (((List.length (List.replicate (Int.toNat (shlV .i64 1 (((List.length p) : Nat) : Int))) (0 : Nat))) : Nat) : Int)), (14, .int .i64 x53), (38, .float .f64 f159), (39, .pointer (some ⟨g7, 0 + (Int.toNat x53) * 1, none⟩))] [fAdd x137 0 = some f159, 0 ≤ x53 ∧ x53 < (((List.length out52) : Nat) : Int)] E (by kernel_rfl) ⟨h160, g161⟩ ?_
   clear E; intro a E
   refine h_setx (g := g7) (i := x53) f159 H 1 rfl E rfl rfl rfl rfl tbok rfl (fun _ HF_ => rfl) rfl g161 rfl ?_
   clear E; intro w162 a hc163 H_ E
   replace H := H_; clear H_; try dsimp only [setn, addE, goneL] at H
   have hn164 : (List.length out52) = (List.length (List.set out52 (Int.toNat x53) f159)) := by simp only [List.length_set]
   replace E := E.same (t := 3) (u := .slice (some ⟨g7, 0, none⟩) (List.length (List.set out52 (Int.toNat x53) f159)) (Int.toNat (shlV .i64 1 (((List.length p) : Nat) : Int)))) rfl (congrArg (fun n_ => Value.slice (some ⟨g7, 0, none⟩) n_ (Int.toNat (shlV .i64 1 (((List.length p) : Nat) : Int)))) hn164)
   refine wpList_nil ?_
   refine bl_n ?_
   refine th_n ?_
   refine wp_region_lit ?_
   obtain ⟨g165, hP⟩ := ask_inv hP
   refine vr tbok 2 [.int .i64 (x53 + 1)] [(0, .slice A1 (List.length p) c2), (3, .slice (some ⟨g7, 0, none⟩) (List.length (List.set out52 (Int.toNat x53) f159)) (Int.toNat (shlV .i64 1 (((List.length p) : Nat) : Int)))), (13, .int .i64 (((List.length (List.replicate (Int.toNat (shlV .i64 1 (((List.length p) : Nat) : Int))) (0 : Nat))) : Nat) : Int)), (14, .int .i64 (x53 + 1))] [IntKind.i64.wrap (x53 + 1) = x53 + 1] E (by kernel_rfl) (wrap_in g165) ?_
   clear E; intro a E
   refine wpList_nil ?_
   exact th_n ⟨m96, Nat.lt_succ_self _, List.set out52 (Int.toNat x53) f159, x53 + 1, E.pick _ ⟨rfl, rfl, rfl, rfl, trivial⟩, H.sel [0, 1] rfl, hP⟩
  replace E := E_; clear E_
  have h166 : ¬ (x53 < (((List.length (List.replicate (Int.toNat (shlV .i64 1 (((List.length p) : Nat) : Int))) (0 : Nat))) : Nat) : Int)) := of_decide_eq_false hb_
  clear hb_; replace hP := ite_f h166 hP
  refine c_false E rfl ?_
  refine wp_exit ?_
  refine th_exit ?_
  have hx_ := Option.some.inj hP
  refine th_exit (.inl ⟨0, rfl, ?_⟩)
  exact ⟨rfl, out52, E.pick _ ⟨rfl, trivial⟩, H.sel [1] rfl, hx_.symm⟩
 clear E H hL98; intro i_ a w100 hM_
 obtain ⟨rfl, x102, E, H, hx_⟩ := hM_
 subst hx_; have hP := hK99; clear hK99
 refine bl_hit ?_
 refine th_n ?_
 refine wp_seq ?_
 refine wp_region_lit ?_
 refine vr tbok 2 [] [(2, .slice (some ⟨g7, 0, none⟩) (List.length x97) (Int.toNat (shlV .i64 1 (((List.length p) : Nat) : Int))))] [] E (by kernel_rfl) trivial ?_
 clear E; intro a E
 refine wpList_nil ?_
 refine th_n ?_
 refine wp_ret ?_
 replace H := H.rowx 0 rfl; try dsimp only [setn, addE, goneL] at H
 obtain rfl := Option.some.inj hP
 refine ret1 E rfl rfl ?_
 exact ⟨_, rfl, (some ⟨g7, 0, none⟩), (Int.toNat (shlV .i64 1 (((List.length p) : Nat) : Int))), rfl, H.sel [0] rfl⟩

/-! rejoinder/guard.Go -/
def guard_Go_l0 (N : Nat) (nodes : List Nd) (ll : Int) : Nat → Int → Int → Option (Unit ⊕ (Int × Bool))
  | 0, _, _ => none
  | m55 + 1, ref27, x28 =>
    if x28 < 9 then
      if ref27 < 0 then
        ask (in64 ((-1) - ref27)) <|
        some (Sum.inr ((-1) - ref27, true))
      else
        if (((List.length nodes) : Nat) : Int) ≤ ref27 then
          some (Sum.inr (0, false))
        else
          ask (idx ref27 (List.length nodes)) <|
          if ((List.getD nodes (Int.toNat ref27) (default : Nd)).P) < 0 then
            some (Sum.inr (0, false))
          else
            if 8 ≤ ((List.getD nodes (Int.toNat ref27) (default : Nd)).P) then
              some (Sum.inr (0, false))
            else
              ask (0 ≤ ((List.getD nodes (Int.toNat ref27) (default : Nd)).P)) <|
              if (andV .u8 (shrV .u8 ll ((List.getD nodes (Int.toNat ref27) (default : Nd)).P)) 1 : Int) = 1 then
                ask (in64 (x28 + 1)) <|
                guard_Go_l0 N nodes ll m55 ((List.getD nodes (Int.toNat ref27) (default : Nd)).Hi) (x28 + 1)
              else
                ask (in64 (x28 + 1)) <|
                guard_Go_l0 N nodes ll m55 ((List.getD nodes (Int.toNat ref27) (default : Nd)).Lo) (x28 + 1)
    else
      some (Sum.inl ())
def guard_Go (N : Nat) (nodes : List Nd) (ref : Int) (ll : Int) : Option (Int × Bool) :=
  Option.bind (guard_Go_l0 N nodes ll N ref 0) fun x56 =>
  Sum.elim (fun x61 =>
    some (0, false))
   (fun x88 =>
    some x88) x56
set_option maxRecDepth 100000 in
set_option maxHeartbeats 4000000 in
theorem guard_Go_calls {N : Nat} {S Fa : Nat → Prop} {w0 : World} {r : Int × Bool} (A1 : Option Addr) (c2 : Nat) (nodes : List Nd) (ref : Int) (ll : Int) (hk3 : List.length nodes ≤ c2) (H : Hp S Fa w0 w0 [.ro false cNode A1 nodes]) (hP : guard_Go N nodes ref ll = some r) :
    Calls Try.prog 28 #[.slice A1 (List.length nodes) c2, .int .i64 ref, .int .u8 ll] w0 fun e w' => ∃ v, e = .returned v ∧ v = .tuple #[.int .i64 r.1, .bool r.2] ∧ Hp S Fa w0 w' [] := by
 refine enterV (n := 50) Try.func28 rfl rfl rfl ?_
 intro a E
 replace E := E.pick [(0, .slice A1 (List.length nodes) c2), (1, .int .i64 ref), (2, .int .u8 ll)] ⟨rfl, rfl, rfl, trivial⟩
 rw [guard_Go] at hP
 refine wp_seq ?_
 refine wp_region_lit ?_
 refine vr tbok 2 [] [(0, .slice A1 (List.length nodes) c2), (1, .int .i64 ref), (2, .int .u8 ll)] [] E (by kernel_rfl) trivial ?_
 clear E; intro a E
 refine wpList_nil ?_
 refine th_n ?_
 refine wp_seq ?_
 refine wp_seq ?_
 refine wp_region_lit ?_
 refine vr tbok 1 [] [(0, .slice A1 (List.length nodes) c2), (1, .int .i64 ref), (2, .int .u8 ll), (9, .int .i64 0)] [] E (by kernel_rfl) trivial ?_
 clear E; intro a E
 refine wpList_nil ?_
 refine th_n ?_
 refine wp_block ?_
 obtain ⟨x56, hL57, hK58⟩ := bind_inv hP
 clear hP
 refine loop_cut (fun i_ a w_ => (i_ = 0 ∧ ∃ (x61 : Unit), Fr a 50 [] ∧ Hp S Fa w0 w_ [] ∧ x56 = Sum.inl x61)) ?_ ?_
 ·
  refine loopV (fun m60 a w59 => ∃ (ref27 : Int) (x28 : Int), Fr a 50 [(0, .slice A1 (List.length nodes) c2), (1, .int .i64 ref27), (2, .int .u8 ll), (9, .int .i64 x28)] ∧ Hp S Fa w0 w59 [.ro false cNode A1 nodes] ∧ guard_Go_l0 N nodes ll m60 ref27 x28 = some x56) N ?_ ?_
  ·
   exact ⟨ref, 0, E.pick _ ⟨rfl, rfl, rfl, rfl, trivial⟩, H.sel [0] rfl, hL57⟩
  clear E H hL57; intro m60 a w59 hI_
  obtain ⟨ref27, x28, E, H, hP⟩ := hI_
  obtain ⟨m55, rfl⟩ : ∃ q_, m60 = q_ + 1 := by cases m60 with | zero => rw [guard_Go_l0] at hP; cases hP | succ q_ => exact ⟨q_, rfl⟩
  rw [guard_Go_l0] at hP
  refine wp_seq ?_
  refine wp_region_lit ?_
  refine vr tbok 1 [] [(0, .slice A1 (List.length nodes) c2), (1, .int .i64 ref27), (2, .int .u8 ll), (9, .int .i64 x28), (10, .bool (decide (x28 < 9)))] [] E (by kernel_rfl) trivial ?_
  clear E; intro a E
  refine wpList_nil ?_
  refine th_n ?_
  refine wp_seq ?_
  refine E.cases (t := 10) rfl (fun hb_ E_ => ?_) (fun hb_ E_ => ?_)
  ·
   replace E := E_; clear E_
   have h62 : x28 < 9 := of_decide_eq_true hb_
   clear hb_; replace hP := ite_t h62 hP
   refine c_true E rfl ?_
   refine wp_skip ?_
   refine th_n ?_
   refine wp_seq ?_
   refine wp_block ?_
   refine wp_seq ?_
   refine wp_seq ?_
   refine wp_region_lit ?_
   refine vr tbok 2 [] [(0, .slice A1 (List.length nodes) c2), (1, .int .i64 ref27), (2, .int .u8 ll), (9, .int .i64 x28), (12, .bool (decide (ref27 < 0)))] [] E (by kernel_rfl) trivial ?_
   clear E; intro a E
   refine wpList_nil ?_
   refine th_n ?_
   refine E.cases (t := 12) rfl (fun hb_ E_ => ?_) (fun hb_ E_ => ?_)
   ·
    replace E := E_; clear E_
    have h63 : ref27 < 0 := of_decide_eq_true hb_
    clear hb_; replace hP := ite_t h63 hP
    refine c_true E rfl ?_
    refine wp_seq ?_
    refine wp_region_lit ?_
    obtain ⟨g64, hP⟩ := ask_inv hP
    refine vr tbok 4 [.int .i64 ((-1) - ref27)] [(6, .int .i64 ((-1) - ref27)), (7, .bool true)] [IntKind.i64.wrap ((-1) - ref27) = (-1) - ref27] E (by kernel_rfl) (wrap_in g64) ?_
    clear E; intro a E
    refine wpList_nil ?_
    refine th_n ?_
    refine wp_ret ?_
    refine th_ret ?_
    refine bl_ret ?_
    refine th_ret ?_
    refine th_ret ?_
    refine .inr ⟨rfl, ?_⟩
    refine bl_ret ?_
    refine th_ret ?_
    have hx_ := Option.some.inj hP; subst hx_
    have hP : some (((-1) - ref27, true)) = some r := hK58
    obtain rfl := Option.some.inj hP
    refine ret2 E rfl rfl rfl ?_
    exact ⟨_, rfl, rfl, H.sel [] rfl⟩
   replace E := E_; clear E_
   have h65 : ¬ (ref27 < 0) := of_decide_eq_false hb_
   clear hb_; replace hP := ite_f h65 hP
   refine c_false E rfl ?_
   refine wp_skip ?_
   refine th_n ?_
   refine wp_seq ?_
   refine wp_seq ?_
   refine wp_region_lit ?_
   refine vr tbok 5 [] [(0, .slice A1 (List.length nodes) c2), (1, .int .i64 ref27), (2, .int .u8 ll), (9, .int .i64 x28), (19, .bool (decide ((((List.length nodes) : Nat) : Int) ≤ ref27)))] [] E (by kernel_rfl) trivial ?_
   clear E; intro a E
   refine E.cases (t := 19) rfl (fun hb_ E_ => ?_) (fun hb_ E_ => ?_)
   ·
    replace E := E_; clear E_
    have h66 : (((List.length nodes) : Nat) : Int) ≤ ref27 := of_decide_eq_true hb_
    clear hb_; replace hP := ite_t h66 hP
    refine vr tbok 15 [] [(0, .slice A1 (List.length nodes) c2), (1, .int .i64 ref27), (2, .int .u8 ll), (9, .int .i64 x28), (34, .bool true)] [] E (by kernel_rfl) trivial ?_
    clear E; intro a E
    refine wpList_nil ?_
    refine th_n ?_
    refine c_true E rfl ?_
    refine wp_seq ?_
    refine wp_region_lit ?_
    refine vr tbok 2 [] [(6, .int .i64 0), (7, .bool false)] [] E (by kernel_rfl) trivial ?_
    clear E; intro a E
    refine wpList_nil ?_
    refine th_n ?_
    refine wp_ret ?_
    refine th_ret ?_
    refine bl_ret ?_
    refine th_ret ?_
    refine th_ret ?_
    refine .inr ⟨rfl, ?_⟩
    refine bl_ret ?_
    refine th_ret ?_
    have hx_ := Option.some.inj hP; subst hx_
    have hP : some ((0, false)) = some r := hK58
    obtain rfl := Option.some.inj hP
    refine ret2 E rfl rfl rfl ?_
    exact ⟨_, rfl, rfl, H.sel [] rfl⟩
   replace E := E_; clear E_
   have h67 : ¬ ((((List.length nodes) : Nat) : Int) ≤ ref27) := of_decide_eq_false hb_
   clear hb_; replace hP := ite_f h67 hP
   obtain ⟨g68, hP⟩ := ask_inv hP
   obtain ⟨b69, o70, e_b69⟩ := (H.rd 0 rds_ro).addr (idx_pos g68)
   subst e_b69
   refine vr tbok 8 [.int .i64 ((List.getD nodes (Int.toNat ref27) (default : Nd)).P)] [(0, .slice (some ⟨b69, o70, none⟩) (List.length nodes) c2), (1, .int .i64 ref27), (2, .int .u8 ll), (9, .int .i64 x28), (27, .bool (decide (((List.getD nodes (Int.toNat ref27) (default : Nd)).P) < 0)))] [0 ≤ ref27 ∧ ref27 < (((List.length nodes) : Nat) : Int), World.cell? w59 ⟨b69, o70 + (Int.toNat ref27) * 3, none⟩ = some (.int .i64 ((List.getD nodes (Int.toNat ref27) (default : Nd)).P))] E (by kernel_rfl) ⟨g68, (Rds.atP (H.rd 0 rds_ro) (default : Nd) g68).1⟩ ?_
   clear E; intro a E
   refine E.cases (t := 27) rfl (fun hb_ E_ => ?_) (fun hb_ E_ => ?_)
   ·
    replace E := E_; clear E_
    have h71 : ((List.getD nodes (Int.toNat ref27) (default : Nd)).P) < 0 := of_decide_eq_true hb_
    clear hb_; replace hP := ite_t h71 hP
    refine vr tbok 7 [] [(0, .slice (some ⟨b69, o70, none⟩) (List.length nodes) c2), (1, .int .i64 ref27), (2, .int .u8 ll), (9, .int .i64 x28), (34, .bool true)] [] E (by kernel_rfl) trivial ?_
    clear E; intro a E
    refine wpList_nil ?_
    refine th_n ?_
    refine c_true E rfl ?_
    refine wp_seq ?_
    refine wp_region_lit ?_
    refine vr tbok 2 [] [(6, .int .i64 0), (7, .bool false)] [] E (by kernel_rfl) trivial ?_
    clear E; intro a E
    refine wpList_nil ?_
    refine th_n ?_
    refine wp_ret ?_
    refine th_ret ?_
    refine bl_ret ?_
    refine th_ret ?_
    refine th_ret ?_
    refine .inr ⟨rfl, ?_⟩
    refine bl_ret ?_
    refine th_ret ?_
    have hx_ := Option.some.inj hP; subst hx_
    have hP : some ((0, false)) = some r := hK58
    obtain rfl := Option.some.inj hP
    refine ret2 E rfl rfl rfl ?_
    exact ⟨_, rfl, rfl, H.sel [] rfl⟩
   replace E := E_; clear E_
   have h72 : ¬ (((List.getD nodes (Int.toNat ref27) (default : Nd)).P) < 0) := of_decide_eq_false hb_
   clear hb_; replace hP := ite_f h72 hP
   refine vr tbok 7 [.int .i64 ((List.getD nodes (Int.toNat ref27) (default : Nd)).P)] [(0, .slice (some ⟨b69, o70, none⟩) (List.length nodes) c2), (1, .int .i64 ref27), (2, .int .u8 ll), (9, .int .i64 x28), (34, .bool (decide (8 ≤ ((List.getD nodes (Int.toNat ref27) (default : Nd)).P))))] [0 ≤ ref27 ∧ ref27 < (((List.length nodes) : Nat) : Int), World.cell? w59 ⟨b69, o70 + (Int.toNat ref27) * 3, none⟩ = some (.int .i64 ((List.getD nodes (Int.toNat ref27) (default : Nd)).P))] E (by kernel_rfl) ⟨g68, (Rds.atP (H.rd 0 rds_ro) (default : Nd) g68).1⟩ ?_
   clear E; intro a E
   refine wpList_nil ?_
   refine th_n ?_
   refine E.cases (t := 34) rfl (fun hb_ E_ => ?_) (fun hb_ E_ => ?_)
   ·
    replace E := E_; clear E_
    have h73 : 8 ≤ ((List.getD nodes (Int.toNat ref27) (default : Nd)).P) := of_decide_eq_true hb_
    clear hb_; replace hP := ite_t h73 hP
    refine c_true E rfl ?_
    refine wp_seq ?_
    refine wp_region_lit ?_
    refine vr tbok 2 [] [(6, .int .i64 0), (7, .bool false)] [] E (by kernel_rfl) trivial ?_
    clear E; intro a E
    refine wpList_nil ?_
    refine th_n ?_
    refine wp_ret ?_
    refine th_ret ?_
    refine bl_ret ?_
    refine th_ret ?_
    refine th_ret ?_
    refine .inr ⟨rfl, ?_⟩
    refine bl_ret ?_
    refine th_ret ?_
    have hx_ := Option.some.inj hP; subst hx_
    have hP : some ((0, false)) = some r := hK58
    obtain rfl := Option.some.inj hP
    refine ret2 E rfl rfl rfl ?_
    exact ⟨_, rfl, rfl, H.sel [] rfl⟩
   replace E := E_; clear E_
   have h74 : ¬ (8 ≤ ((List.getD nodes (Int.toNat ref27) (default : Nd)).P)) := of_decide_eq_false hb_
   clear hb_; replace hP := ite_f h74 hP
   refine c_false E rfl ?_
   refine wp_skip ?_
   refine th_n ?_
   refine wp_seq ?_
   refine wp_region_lit ?_
   refine vr tbok 4 [.agg #[.int .i64 ((List.getD nodes (Int.toNat ref27) (default : Nd)).P), .int .i64 ((List.getD nodes (Int.toNat ref27) (default : Nd)).Lo), .int .i64 ((List.getD nodes (Int.toNat ref27) (default : Nd)).Hi)]] [(0, .slice (some ⟨b69, o70, none⟩) (List.length nodes) c2), (2, .int .u8 ll), (9, .int .i64 x28), (38, .agg #[.int .i64 ((List.getD nodes (Int.toNat ref27) (default : Nd)).P), .int .i64 ((List.getD nodes (Int.toNat ref27) (default : Nd)).Lo), .int .i64 ((List.getD nodes (Int.toNat ref27) (default : Nd)).Hi)])] [0 ≤ ref27 ∧ ref27 < (((List.length nodes) : Nat) : Int), cellsAt w59 b69 (o70 + (Int.toNat ref27) * 3) [.int .i64 ((List.getD nodes (Int.toNat ref27) (default : Nd)).P), .int .i64 ((List.getD nodes (Int.toNat ref27) (default : Nd)).Lo), .int .i64 ((List.getD nodes (Int.toNat ref27) (default : Nd)).Hi)]] E (by kernel_rfl) ⟨g68, Rds.atP (H.rd 0 rds_ro) (default : Nd) g68⟩ ?_
   clear E; intro a E
   refine h_alloc H E rfl rfl tbok rfl ?_
   intro w76 g75 a hc77 hg79 H_ E_
   replace E := E_ _ rfl; clear E_
   replace H := H_; clear H_; try dsimp only [setn, addE, goneL] at H
   refine h_store (g := g75) (off := 0) H 1 rfl E rfl rfl rfl rfl tbok rfl rfl rfl rfl rfl ?_
   clear E; intro w80 a hc81 H_ E
   replace H := H_; clear H_; try dsimp only [setn, addE, goneL] at H
   refine wpList_nil ?_
   refine th_n ?_
   refine wp_seq ?_
   refine wp_region_lit ?_
   refine vr tbok 3 [.int .i64 ((List.getD nodes (Int.toNat ref27) (default : Nd)).Lo)] [(0, .slice (some ⟨b69, o70, none⟩) (List.length nodes) c2), (1, .int .i64 ((List.getD nodes (Int.toNat ref27) (default : Nd)).Lo)), (2, .int .u8 ll), (8, .pointer (some ⟨g75, 0, none⟩)), (9, .int .i64 x28)] [World.cell? w80 ⟨g75, 1, none⟩ = some (.int .i64 ((List.getD nodes (Int.toNat ref27) (default : Nd)).Lo))] E (by kernel_rfl) ((H.box 1 rfl).cell (j := 1) rfl) ?_
   clear E; intro a E
   refine wpList_nil ?_
   refine th_n ?_
   refine wp_seq ?_
   refine wp_region_lit ?_
   obtain ⟨g82, hP⟩ := ask_inv hP
   refine vr tbok 6 [.int .i64 ((List.getD nodes (Int.toNat ref27) (default : Nd)).P), .int .u8 (shrV .u8 ll ((List.getD nodes (Int.toNat ref27) (default : Nd)).P)), .int .u8 (andV .u8 (shrV .u8 ll ((List.getD nodes (Int.toNat ref27) (default : Nd)).P)) 1)] [(0, .slice (some ⟨b69, o70, none⟩) (List.length nodes) c2), (1, .int .i64 ((List.getD nodes (Int.toNat ref27) (default : Nd)).Lo)), (2, .int .u8 ll), (8, .pointer (some ⟨g75, 0, none⟩)), (9, .int .i64 x28), (46, .bool ((andV .u8 (shrV .u8 ll ((List.getD nodes (Int.toNat ref27) (default : Nd)).P)) 1 : Int) == 1))] [World.cell? w80 ⟨g75, 0, none⟩ = some (.int .i64 ((List.getD nodes (Int.toNat ref27) (default : Nd)).P)), 0 ≤ ((List.getD nodes (Int.toNat ref27) (default : Nd)).P) ∧ Int.fdiv ll (2 ^ (min (Int.toNat ((List.getD nodes (Int.toNat ref27) (default : Nd)).P)) (IntKind.bits .u8))) = shrV .u8 ll ((List.getD nodes (Int.toNat ref27) (default : Nd)).P), IntKind.u8.wrap (BitVec.ofInt (IntKind.bits .u8) (shrV .u8 ll ((List.getD nodes (Int.toNat ref27) (default : Nd)).P)) &&& BitVec.ofInt (IntKind.bits .u8) 1).toNat = andV .u8 (shrV .u8 ll ((List.getD nodes (Int.toNat ref27) (default : Nd)).P)) 1] E (by kernel_rfl) ⟨(H.box 1 rfl).cell (j := 0) rfl, ⟨g82, rfl⟩, rfl⟩ ?_
   clear E; intro a E
   refine wpList_nil ?_
   refine th_n ?_
   refine E.cases (t := 46) rfl (fun hb_ E_ => ?_) (fun hb_ E_ => ?_)
   ·
    replace E := E_; clear E_
    have h83 : (andV .u8 (shrV .u8 ll ((List.getD nodes (Int.toNat ref27) (default : Nd)).P)) 1 : Int) = 1 := eq_of_beq hb_
    clear hb_; replace hP := ite_t h83 hP
    refine c_true E rfl ?_
    refine wp_region_lit ?_
    refine vr tbok 3 [.int .i64 ((List.getD nodes (Int.toNat ref27) (default : Nd)).Hi)] [(0, .slice (some ⟨b69, o70, none⟩) (List.length nodes) c2), (1, .int .i64 ((List.getD nodes (Int.toNat ref27) (default : Nd)).Hi)), (2, .int .u8 ll), (9, .int .i64 x28)] [World.cell? w80 ⟨g75, 2, none⟩ = some (.int .i64 ((List.getD nodes (Int.toNat ref27) (default : Nd)).Hi))] E (by kernel_rfl) ((H.box 1 rfl).cell (j := 2) rfl) ?_
    clear E; intro a E
    refine wpList_nil ?_
    refine bl_n ?_
    refine th_n ?_
    refine wp_region_lit ?_
    obtain ⟨g84, hP⟩ := ask_inv hP
    refine vr tbok 2 [.int .i64 (x28 + 1)] [(0, .slice (some ⟨b69, o70, none⟩) (List.length nodes) c2), (1, .int .i64 ((List.getD nodes (Int.toNat ref27) (default : Nd)).Hi)), (2, .int .u8 ll), (9, .int .i64 (x28 + 1))] [IntKind.i64.wrap (x28 + 1) = x28 + 1] E (by kernel_rfl) (wrap_in g84) ?_
    clear E; intro a E
    refine wpList_nil ?_
    exact th_n ⟨m55, Nat.lt_succ_self _, (List.getD nodes (Int.toNat ref27) (default : Nd)).Hi, x28 + 1, E.pick _ ⟨rfl, rfl, rfl, rfl, trivial⟩, H.sel [0] rfl, hP⟩
   replace E := E_; clear E_
   have h85 : ¬ ((andV .u8 (shrV .u8 ll ((List.getD nodes (Int.toNat ref27) (default : Nd)).P)) 1 : Int) = 1) := ne_of_beq_false hb_
   clear hb_; replace hP := ite_f h85 hP
   refine c_false E rfl ?_
   refine wp_skip ?_
   refine bl_n ?_
   refine th_n ?_
   refine wp_region_lit ?_
   obtain ⟨g86, hP⟩ := ask_inv hP
   refine vr tbok 2 [.int .i64 (x28 + 1)] [(0, .slice (some ⟨b69, o70, none⟩) (List.length nodes) c2), (1, .int .i64 ((List.getD nodes (Int.toNat ref27) (default : Nd)).Lo)), (2, .int .u8 ll), (9, .int .i64 (x28 + 1))] [IntKind.i64.wrap (x28 + 1) = x28 + 1] E (by kernel_rfl) (wrap_in g86) ?_
   clear E; intro a E
   refine wpList_nil ?_
   exact th_n ⟨m55, Nat.lt_succ_self _, (List.getD nodes (Int.toNat ref27) (default : Nd)).Lo, x28 + 1, E.pick _ ⟨rfl, rfl, rfl, rfl, trivial⟩, H.sel [0] rfl, hP⟩
  replace E := E_; clear E_
  have h87 : ¬ (x28 < 9) := of_decide_eq_false hb_
  clear hb_; replace hP := ite_f h87 hP
  refine c_false E rfl ?_
  refine wp_exit ?_
  refine th_exit ?_
  have hx_ := Option.some.inj hP
  refine th_exit (.inl ⟨0, rfl, ?_⟩)
  exact ⟨rfl, (), E.pick _ trivial, H.sel [] rfl, hx_.symm⟩
 clear E H hL57; intro i_ a w59 hM_
 obtain ⟨rfl, x61, E, H, hx_⟩ := hM_
 subst hx_; have hP := elim_l hK58
 clear hK58
 refine bl_hit ?_
 refine th_n ?_
 refine wp_seq ?_
 refine wp_region_lit ?_
 refine vr tbok 2 [] [(6, .int .i64 0), (7, .bool false)] [] E (by kernel_rfl) trivial ?_
 clear E; intro a E
 refine wpList_nil ?_
 refine th_n ?_
 refine wp_ret ?_
 obtain rfl := Option.some.inj hP
 refine ret2 E rfl rfl rfl ?_
 exact ⟨_, rfl, rfl, H.sel [] rfl⟩

/-! rejoinder/guard.Table -/
def guard_Table_l0 (N : Nat) (n : Int) (nodes : List Nd) (ref : Int) : Nat → (List Int) → Int → Option ((List Int) ⊕ ((List Int) × Int))
  | 0, _, _ => none
  | m72 + 1, out38, x41 =>
    if x41 < (shlV .i64 1 n) then
      Option.bind (guard_Go N nodes ref (IntKind.u8.wrap x41)) fun r81 =>
      if r81.2 = true then
        ask (List.length out38 + List.length ([r81.1] : List Int) ≤ 1000000000) <|
        ask (in64 (x41 + 1)) <|
        guard_Table_l0 N n nodes ref m72 (out38 ++ ([r81.1] : List Int)) (x41 + 1)
      else
        some (Sum.inr ([], 12))
    else
      some (Sum.inl out38)
def guard_Table (N : Nat) (n : Int) (nodes : List Nd) (ref : Int) : Option ((List Int) × Int) :=
  if n < 0 then
    some ([], 2)
  else
    if 8 < n then
      some ([], 2)
    else
      ask (0 ≤ n) <|
      Option.bind (guard_Table_l0 N n nodes ref N [] 0) fun x73 =>
      Sum.elim (fun x79 =>
        some (x79, 0))
       (fun x106 =>
        some x106) x73
set_option maxRecDepth 100000 in
set_option maxHeartbeats 4000000 in
theorem guard_Table_calls {N : Nat} {S Fa : Nat → Prop} {w0 : World} {r : (List Int) × Int} (A1 : Option Addr) (c2 : Nat) (n : Int) (nodes : List Nd) (ref : Int) (hk3 : List.length nodes ≤ c2) (H : Hp S Fa w0 w0 [.ro false cNode A1 nodes]) (hP : guard_Table N n nodes ref = some r) :
    Calls Try.prog 31 #[.int .i64 n, .slice A1 (List.length nodes) c2, .int .i64 ref] w0 fun e w' => ∃ v, e = .returned v ∧ ∃ (A107 : Option Addr) (c108 : Nat), v = .tuple #[.slice A107 (List.length r.1) c108, .int .i64 r.2] ∧ Hp S Fa w0 w' [.row true (cInt .i64) 3 A107 c108 r.1] := by
 refine enterV (n := 39) Try.func31 rfl rfl rfl ?_
 intro a E
 replace E := E.pick [(0, .int .i64 n), (1, .slice A1 (List.length nodes) c2), (2, .int .i64 ref)] ⟨rfl, rfl, rfl, trivial⟩
 rw [guard_Table] at hP
 refine wp_seq ?_
 refine wp_region_lit ?_
 refine vr tbok 2 [] [(0, .int .i64 n), (1, .slice A1 (List.length nodes) c2), (2, .int .i64 ref)] [] E (by kernel_rfl) trivial ?_
 clear E; intro a E
 refine wpList_nil ?_
 refine th_n ?_
 refine wp_seq ?_
 refine wp_seq ?_
 refine wp_region_lit ?_
 refine vr tbok 3 [] [(0, .int .i64 n), (1, .slice A1 (List.length nodes) c2), (2, .int .i64 ref), (14, .bool (decide (n < 0)))] [] E (by kernel_rfl) trivial ?_
 clear E; intro a E
 refine E.cases (t := 14) rfl (fun hb_ E_ => ?_) (fun hb_ E_ => ?_)
 ·
  replace E := E_; clear E_
  have h5 : n < 0 := of_decide_eq_true hb_
  clear hb_; replace hP := ite_t h5 hP
  refine vr tbok 3 [] [(0, .int .i64 n), (1, .slice A1 (List.length nodes) c2), (2, .int .i64 ref), (17, .bool true)] [] E (by kernel_rfl) trivial ?_
  clear E; intro a E
  refine wpList_nil ?_
  refine th_n ?_
  refine c_true E rfl ?_
  refine wp_seq ?_
  refine wp_region_lit ?_
  refine vr tbok 2 [] [(6, .slice none 0 0), (7, .int .i64 2)] [] E (by kernel_rfl) trivial ?_
  clear E; intro a E
  refine wpList_nil ?_
  refine th_n ?_
  refine wp_ret ?_
  refine th_ret ?_
  replace H := H.nilrow (cInt .i64) 3; try dsimp only [setn, addE, goneL] at H
  obtain rfl := Option.some.inj hP
  refine ret2 E rfl rfl rfl ?_
  exact ⟨_, rfl, none, 0, rfl, H.sel [1] rfl⟩
 replace E := E_; clear E_
 have h7 : ¬ (n < 0) := of_decide_eq_false hb_
 clear hb_; replace hP := ite_f h7 hP
 refine vr tbok 3 [] [(0, .int .i64 n), (1, .slice A1 (List.length nodes) c2), (2, .int .i64 ref), (17, .bool (decide (8 < n)))] [] E (by kernel_rfl) trivial ?_
 clear E; intro a E
 refine wpList_nil ?_
 refine th_n ?_
 refine E.cases (t := 17) rfl (fun hb_ E_ => ?_) (fun hb_ E_ => ?_)
 ·
  replace E := E_; clear E_
  have h8 : 8 < n := of_decide_eq_true hb_
  clear hb_; replace hP := ite_t h8 hP
  refine c_true E rfl ?_
  refine wp_seq ?_
  refine wp_region_lit ?_
  refine vr tbok 2 [] [(6, .slice none 0 0), (7, .int .i64 2)] [] E (by kernel_rfl) trivial ?_
  clear E; intro a E
  refine wpList_nil ?_
  refine th_n ?_
  refine wp_ret ?_
  refine th_ret ?_
  replace H := H.nilrow (cInt .i64) 3; try dsimp only [setn, addE, goneL] at H
  obtain rfl := Option.some.inj hP
  refine ret2 E rfl rfl rfl ?_
  exact ⟨_, rfl, none, 0, rfl, H.sel [1] rfl⟩
 replace E := E_; clear E_
 have h10 : ¬ (8 < n) := of_decide_eq_false hb_
 clear hb_; replace hP := ite_f h10 hP
 refine c_false E rfl ?_
 refine wp_skip ?_
 refine th_n ?_
 refine wp_seq ?_
 refine wp_region_lit ?_
 refine vr tbok 1 [] [(0, .int .i64 n), (1, .slice A1 (List.length nodes) c2), (2, .int .i64 ref), (8, .slice none 0 0)] [] E (by kernel_rfl) trivial ?_
 clear E; intro a E
 refine wpList_nil ?_
 refine th_n ?_
 refine wp_seq ?_
 refine wp_seq ?_
 refine wp_region_lit ?_
 obtain ⟨g11, hP⟩ := ask_inv hP
 refine vr tbok 3 [.int .i64 (shlV .i64 1 n)] [(1, .slice A1 (List.length nodes) c2), (2, .int .i64 ref), (8, .slice none 0 0), (19, .int .i64 (shlV .i64 1 n)), (20, .int .i64 0)] [0 ≤ n ∧ IntKind.i64.wrap (1 * 2 ^ (min (Int.toNat n) (IntKind.bits .i64))) = shlV .i64 1 n] E (by kernel_rfl) (⟨g11, rfl⟩) ?_
 clear E; intro a E
 refine wpList_nil ?_
 refine th_n ?_
 refine wp_block ?_
 obtain ⟨x73, hL74, hK75⟩ := bind_inv hP
 clear hP
 replace H := H.nilrow (cInt .i64) 3; try dsimp only [setn, addE, goneL] at H
 refine loop_cut (fun i_ a w_ => (i_ = 0 ∧ ∃ (x79 : List Int), ∃ (A70 : Option Addr) (c71 : Nat), Fr a 39 [(8, .slice A70 (List.length x79) c71)] ∧ Hp S Fa w0 w_ [.row true (cInt .i64) 3 A70 c71 x79] ∧ x73 = Sum.inl x79)) ?_ ?_
 ·
  refine loopV (fun m78 a w77 => ∃ (out38 : List Int) (x41 : Int), ∃ (A39 : Option Addr) (c40 : Nat), Fr a 39 [(1, .slice A1 (List.length nodes) c2), (2, .int .i64 ref), (8, .slice A39 (List.length out38) c40), (19, .int .i64 (shlV .i64 1 n)), (20, .int .i64 x41)] ∧ Hp S Fa w0 w77 [.ro false cNode A1 nodes, .row true (cInt .i64) 3 A39 c40 out38] ∧ guard_Table_l0 N n nodes ref m78 out38 x41 = some x73) N ?_ ?_
  ·
   exact ⟨[], 0, none, 0, E.pick _ ⟨rfl, rfl, rfl, rfl, rfl, trivial⟩, H.sel [0, 1] rfl, hL74⟩
  clear E H hL74; intro m78 a w77 hI_
  obtain ⟨out38, x41, A39, c40, E, H, hP⟩ := hI_
  obtain ⟨m72, rfl⟩ : ∃ q_, m78 = q_ + 1 := by cases m78 with | zero => rw [guard_Table_l0] at hP; cases hP | succ q_ => exact ⟨q_, rfl⟩
  rw [guard_Table_l0] at hP
  refine wp_seq ?_
  refine wp_region_lit ?_
  refine vr tbok 1 [] [(1, .slice A1 (List.length nodes) c2), (2, .int .i64 ref), (8, .slice A39 (List.length out38) c40), (19, .int .i64 (shlV .i64 1 n)), (20, .int .i64 x41), (21, .bool (decide (x41 < (shlV .i64 1 n))))] [] E (by kernel_rfl) trivial ?_
  clear E; intro a E
  refine wpList_nil ?_
  refine th_n ?_
  refine wp_seq ?_
  refine E.cases (t := 21) rfl (fun hb_ E_ => ?_) (fun hb_ E_ => ?_)
  ·
   replace E := E_; clear E_
   have h80 : x41 < (shlV .i64 1 n) := of_decide_eq_true hb_
   clear hb_; replace hP := ite_t h80 hP
   refine c_true E rfl ?_
   refine wp_skip ?_
   refine th_n ?_
   refine wp_seq ?_
   refine wp_block ?_
   refine wp_seq ?_
   refine wp_region_lit ?_
   refine vr tbok 2 [] [(1, .slice A1 (List.length nodes) c2), (2, .int .i64 ref), (8, .slice A39 (List.length out38) c40), (9, .int .i64 x41), (19, .int .i64 (shlV .i64 1 n)), (20, .int .i64 x41)] [] E (by kernel_rfl) trivial ?_
   clear E; intro a E
   refine wpList_nil ?_
   refine th_n ?_
   refine wp_seq ?_
   refine wp_region_lit ?_
   refine vr tbok 4 [.int .u8 (IntKind.u8.wrap x41)] [(1, .slice A1 (List.length nodes) c2), (2, .int .i64 ref), (8, .slice A39 (List.length out38) c40), (19, .int .i64 (shlV .i64 1 n)), (20, .int .i64 x41), (24, .slice A1 (List.length nodes) c2), (25, .int .i64 ref), (27, .int .u8 (IntKind.u8.wrap x41))] [IntKind.u8.wrap x41 = (IntKind.u8.wrap x41)] E (by kernel_rfl) (rfl) ?_
   clear E; intro a E
   obtain ⟨r81, h82, hP⟩ := bind_inv hP
   obtain ⟨Fa83, Hc84, hb85⟩ := H.call [] [(0, false)] rfl rfl trivial
   refine e_call E rfl rfl Try.func28 rfl rfl rfl (guard_Go_calls A1 c2 nodes ref (IntKind.u8.wrap x41) hk3 Hc84 h82) ?_
   rintro v86 w87 a ⟨rfl, HR88⟩ E_
   replace E := E_ _ rfl; clear E_
   obtain ⟨H_, hc89⟩ := hb85 _ _ HR88 rfl
   replace H := H_; clear H_; try dsimp only [setn, addE, goneL] at H
   refine vr tbok 5 [] [(1, .slice A1 (List.length nodes) c2), (2, .int .i64 ref), (8, .slice A39 (List.length out38) c40), (10, .int .i64 r81.1), (11, .bool r81.2), (19, .int .i64 (shlV .i64 1 n)), (20, .int .i64 x41)] [] E (by kernel_rfl) trivial ?_
   clear E; intro a E
   refine wpList_nil ?_
   refine th_n ?_
   refine wp_seq ?_
   refine wp_seq ?_
   refine wp_region_lit ?_
   refine vr tbok 2 [] [(1, .slice A1 (List.length nodes) c2), (2, .int .i64 ref), (8, .slice A39 (List.length out38) c40), (10, .int .i64 r81.1), (19, .int .i64 (shlV .i64 1 n)), (20, .int .i64 x41), (32, .bool (!r81.2))] [] E (by kernel_rfl) trivial ?_
   clear E; intro a E
   refine wpList_nil ?_
   refine th_n ?_
   refine E.cases (t := 32) rfl (fun hb_ E_ => ?_) (fun hb_ E_ => ?_)
   ·
    replace E := E_; clear E_
    have h90 : ¬ (r81.2 = true) := (ne_true_of_eq_false (not_t hb_))
    clear hb_; replace hP := ite_f h90 hP
    refine c_true E rfl ?_
    refine wp_seq ?_
    refine wp_region_lit ?_
    refine vr tbok 2 [] [(6, .slice none 0 0), (7, .int .i64 12)] [] E (by kernel_rfl) trivial ?_
    clear E; intro a E
    refine wpList_nil ?_
    refine th_n ?_
    refine wp_ret ?_
    refine th_ret ?_
    refine bl_ret ?_
    refine th_ret ?_
    refine th_ret ?_
    refine .inr ⟨rfl, ?_⟩
    refine bl_ret ?_
    refine th_ret ?_
    replace H := H.nilrow (cInt .i64) 3; try dsimp only [setn, addE, goneL] at H
    have hx_ := Option.some.inj hP; subst hx_
    have hP : some (([], 12)) = some r := hK75
    obtain rfl := Option.some.inj hP
    refine ret2 E rfl rfl rfl ?_
    exact ⟨_, rfl, none, 0, rfl, H.sel [2] rfl⟩
   replace E := E_; clear E_
   have h92 : r81.2 = true := (not_f hb_)
   clear hb_; replace hP := ite_t h92 hP
   refine c_false E rfl ?_
   refine wp_skip ?_
   refine th_n ?_
   refine wp_region_lit ?_
   refine vr tbok 2 [] [(1, .slice A1 (List.length nodes) c2), (2, .int .i64 ref), (19, .int .i64 (shlV .i64 1 n)), (20, .int .i64 x41), (33, .slice A39 (List.length out38) c40), (34, .int .i64 r81.1)] [] E (by kernel_rfl) trivial ?_
   clear E; intro a E
   refine h_buildSlice (ps := [(0, .int .i64 r81.1)]) (cs := [.int .i64 r81.1]) H E rfl rfl tbok rfl rfl (by kernel_rfl) ?_
   intro w94 g93 a hc95 hg97 H_ E_
   replace E := E_ _ rfl; clear E_
   replace H := H_; clear H_; try dsimp only [setn, addE, goneL] at H
   obtain ⟨g98, hP⟩ := ask_inv hP
   refine h_append (cInt .i64) (xs := out38) (ys := ([r81.1] : List Int)) (0 : Int) H 1 rfl E rfl rfl tbok rfl rfl rfl rfl rfl (fun _ _ => rfl) rfl rfl (fun _ HF_ => HF_.srcB 2 rfl (⟨_, _, rfl, rfl, rfl⟩)) g98 ?_
   intro w99 A100 c101 a hc102 hA103 H_ E_
   replace E := E_ _ rfl; clear E_
   replace H := H_; clear H_; try dsimp only [setn, addE, goneL] at H
   refine vr tbok 1 [] [(1, .slice A1 (List.length nodes) c2), (2, .int .i64 ref), (8, .slice A100 (List.length (out38 ++ ([r81.1] : List Int))) c101), (19, .int .i64 (shlV .i64 1 n)), (20, .int .i64 x41)] [] E (by kernel_rfl) trivial ?_
   clear E; intro a E
   refine wpList_nil ?_
   refine bl_n ?_
   refine th_n ?_
   refine wp_region_lit ?_
   obtain ⟨g104, hP⟩ := ask_inv hP
   refine vr tbok 2 [.int .i64 (x41 + 1)] [(1, .slice A1 (List.length nodes) c2), (2, .int .i64 ref), (8, .slice A100 (List.length (out38 ++ ([r81.1] : List Int))) c101), (19, .int .i64 (shlV .i64 1 n)), (20, .int .i64 (x41 + 1))] [IntKind.i64.wrap (x41 + 1) = x41 + 1] E (by kernel_rfl) (wrap_in g104) ?_
   clear E; intro a E
   refine wpList_nil ?_
   exact th_n ⟨m72, Nat.lt_succ_self _, out38 ++ ([r81.1] : List Int), x41 + 1, A100, c101, E.pick _ ⟨rfl, rfl, rfl, rfl, rfl, trivial⟩, H.sel [0, 1] rfl, hP⟩
  replace E := E_; clear E_
  have h105 : ¬ (x41 < (shlV .i64 1 n)) := of_decide_eq_false hb_
  clear hb_; replace hP := ite_f h105 hP
  refine c_false E rfl ?_
  refine wp_exit ?_
  refine th_exit ?_
  have hx_ := Option.some.inj hP
  refine th_exit (.inl ⟨0, rfl, ?_⟩)
  exact ⟨rfl, out38, A39, c40, E.pick _ ⟨rfl, trivial⟩, H.sel [1] rfl, hx_.symm⟩
 clear E H hL74; intro i_ a w77 hM_
 obtain ⟨rfl, x79, A70, c71, E, H, hx_⟩ := hM_
 subst hx_; have hP := elim_l hK75
 clear hK75
 refine bl_hit ?_
 refine th_n ?_
 refine wp_seq ?_
 refine wp_region_lit ?_
 refine vr tbok 3 [] [(6, .slice A70 (List.length x79) c71), (7, .int .i64 0)] [] E (by kernel_rfl) trivial ?_
 clear E; intro a E
 refine wpList_nil ?_
 refine th_n ?_
 refine wp_ret ?_
 obtain rfl := Option.some.inj hP
 refine ret2 E rfl rfl rfl ?_
 exact ⟨_, rfl, A70, c71, rfl, H.sel [0] rfl⟩

end Go.V
